/- Parts of the proof of the law FnExactNewClient, joined into one text. -/
import Derived.Test.YtjkddaokhmflbaaMFnExactNewClient2
section
namespace Go.Proofs.Ytjkddaokhmflbaa.Q
open Go.RowKit Go.Proofs.YtjkddaokhmflbaaW.PrintWords Go.Proofs.YtjkddaokhmflbaaW.PrintLast Go.Proofs.YtjkddaokhmflbaaW.PrintMore
attribute [local go_sem] max2_int min2_int max_two min_two max_three min_three max_four min_four   -- for this text's walks alone
set_option linter.unusedVariables false
set_option linter.unusedSimpArgs false
attribute [local go_sem] bin_leq bin_gtr bin_geq
set_option maxHeartbeats 2000000 in
set_option maxRecDepth 100000 in
theorem hasF_byte (g : Nat) (lb : Array Value) (eg : ∀ args w, (callFunc g args).run Try.prog w = .ok (.enter g args) w) (p : Int → Bool) (A0 : Option Addr) (c0 : Nat) (l0 : List Int) (w : World) (hr0 : Kd.C (Kd.int .u8) w A0 l0.length l0) (hc0 : l0.length ≤ c0) (hp : Asks_byte g lb p w l0) :
    Calls Try.prog 114 #[.slice A0 l0.length c0, .func (.func g) #[] lb] w fun e w' => e = .returned (.bool (decide (0 ≤ idxI p l0))) ∧ Below w.heap.size w w' := by
  have HR0 := Aside0.mk hr0
  have HC0 := Aside0.mk hc0
  have HP := Aside0.mk hp
  have HE := Aside0.mk eg
  clear hr0 hc0 hp eg
  go_enter Try.func114, Try.ntmps114
  go_wp2_with (refine (idxF_byte g lb HE.out p A0 c0 l0 _ HR0.out HC0.out HP.out).mono ?_; rintro e w' ⟨rfl, hb⟩)
  go_ret
  exact ⟨rfl, hb⟩
theorem notF_byte (g : Nat) (lb : Array Value) (eg : ∀ args w, (callFunc g args).run Try.prog w = .ok (.enter g args) w) (p : Int → Bool) (l : List Int) (w : World) (B : Nat) (hB : B < w.heap.size) (hc : w.cell? ⟨B, 0, none⟩ = some (.func (.func g) #[] lb)) (hp : Asks_byte g lb p w l) :
    Asks_byte 115 #[.pointer (some ⟨B, 0, none⟩)] (fun x => !p x) w l := by
  intro W x hW hx
  have hc' : W.cell? ⟨B, 0, none⟩ = some (.func (.func g) #[] lb) := (hW.cell (p := ⟨B, 0, none⟩) hB).trans hc
  have hB' : B < W.heap.size := Nat.lt_of_lt_of_le hB hW.size
  have HC := Aside0.mk (hp W x hW hx)
  clear hp hx hc
  go_enter Try.func115, Try.ntmps115
  go_wp2_with (refine HC.out.mono ?_; rintro e w' ⟨rfl, hb⟩)
  go_ret
  exact ⟨rfl, hb⟩
set_option maxHeartbeats 2000000 in
set_option maxRecDepth 100000 in
theorem allF_byte (g : Nat) (lb : Array Value) (eg : ∀ args w, (callFunc g args).run Try.prog w = .ok (.enter g args) w) (p : Int → Bool) (A0 : Option Addr) (c0 : Nat) (l0 : List Int) (w : World) (hr0 : Kd.C (Kd.int .u8) w A0 l0.length l0) (hc0 : l0.length ≤ c0) (hp : Asks_byte g lb p w l0) :
    Calls Try.prog 108 #[.slice A0 l0.length c0, .func (.func g) #[] lb] w fun e w' => e = .returned (.bool (l0.all p)) ∧ Below w.heap.size w w' := by
  have e94 := idxI_all p l0
  have HN := Aside0.mk e94
  have HB0 : Below w.heap.size w (w.alloc (.cells #[.func (.func g) #[] lb] 123)) := (Below.refl _ _).alloc (Nat.le_refl _) _
  have HR0 := Aside0.mk (Kd.C_below hr0 HB0)
  have HP := Aside0.mk (notF_byte g lb eg p l0 (w.alloc (.cells #[.func (.func g) #[] lb] 123)) w.heap.size (by simp) (by simp) (fun W x hW hx => hp W x (below_then HB0 HB0.size hW) hx))
  have HC0 := Aside0.mk hc0
  have HBA := Aside0.mk HB0
  clear hr0 hc0 hp eg e94 HB0
  go_enter Try.func108, Try.ntmps108
  go_wp2_with (refine (hasF_byte 115 #[.pointer (some ⟨w.heap.size, 0, none⟩)] (enters_ Try.func115 (by kernel_rfl) rfl) (fun x => !p x) A0 c0 l0 _ HR0.out HC0.out HP.out).mono ?_; rintro e w' ⟨rfl, hb⟩)
  go_ret
  refine ⟨?_, below_then HBA.out HBA.out.size hb⟩
  show Ending.returned (.bool (!decide (0 ≤ idxI (fun x => !p x) l0))) = _
  rw [HN.out]
end Go.Proofs.Ytjkddaokhmflbaa.Q
end

section
namespace Go.Proofs.Ytjkddaokhmflbaa.Q
open Go.RowKit Go.Proofs.YtjkddaokhmflbaaW.PrintWords Go.Proofs.YtjkddaokhmflbaaW.PrintLast Go.Proofs.YtjkddaokhmflbaaW.PrintMore
attribute [local go_sem] max2_int min2_int max_two min_two max_three min_three max_four min_four   -- for this text's walks alone
set_option linter.unusedVariables false
set_option linter.unusedSimpArgs false
attribute [local go_sem] bin_leq bin_gtr bin_geq
def impl_NameOK.f (a0 : ByteArray) : Option (Bool) := some (nameB a0)
theorem nameOK_asks (l : List Int) (w : World) : Asks_byte 109 #[] (fun c => letB c || digB c) w l := by
  intro W x hW hx
  have A1 := Aside0.mk (impl_isLetter.calls x (letB x))
  have A2 := Aside0.mk (impl_isDigit.calls x (digB x))
  have F1 := Aside0.mk (letB_f x)
  have F2 := Aside0.mk (digB_f x)
  cases h1 : letB x with
  | true =>
    rw [h1] at A1 F1
    clear A2
    go_enter Try.func109, Try.ntmps109
    go_wp2_with (refine (A1.out _ F1.out).mono ?_; rintro e w' ⟨rfl, ⟨n, rfl⟩⟩)
    go_ret
    exact ⟨by first | rfl | simp [h1], pw_below_drewN (Below.refl _ _) _⟩
  | false =>
    rw [h1] at A1 F1
    go_enter Try.func109, Try.ntmps109
    go_wp2_with (first | (go_at_call 107; refine (A1.out _ F1.out).mono ?_; rintro e w' ⟨rfl, ⟨n, rfl⟩⟩) | (go_at_call 110; refine (A2.out _ F2.out).mono ?_; rintro e w' ⟨rfl, ⟨n, rfl⟩⟩))
    go_ret
    exact ⟨by first | rfl | simp [h1], by repeat (first | exact Below.refl _ _ | apply pw_below_drewN)⟩
set_option maxHeartbeats 4000000 in
set_option maxRecDepth 100000 in
theorem impl_NameOK.calls (a0 : ByteArray) (r : Bool) (w : World) (h : impl_NameOK.f a0 = some r) :
    Calls Try.prog 89 #[.string a0] w fun e w' => e = .returned (.bool r) ∧ Below w.heap.size w w' := by
  obtain rfl := Option.some.inj h
  clear h
  by_cases h1 : 1 ≤ a0.size ∧ a0.size ≤ 12
  · have F1 := Aside0.mk (show impl_within.f (a0.size : Int) 1 12 = some true by unfold impl_within.f; rw [if_pos (by omega), decide_eq_true (by omega)])
    have F2 := Aside0.mk (letB_f (bt a0 0))
    have i0 : (0 : Int) < (a0.size : Int) := by omega
    have hbt : ∀ h : 0 < a0.size, ((a0[0]'h).toNat : Int) = bt a0 0 := bt_at a0 0
    have j0 : 0 < a0.size := by omega
    cases h2 : letB (bt a0 0) with
    | true =>
      rw [h2] at F2
      have hcv := fun w => Go.Lib.run_convert_string_bytes (P := Try.prog) w 9 110 5 a0 Try.underlying9 Try.underlying110 Try.underlying5
      have R1 := Aside0.mk (show nameB a0 = (bytesL a0).all (fun c => letB c || digB c) by simp [nameB, h1.1, h1.2, h2])
      have hsz : a0.size ≤ 9223372036854775807 := by omega
      have hn := Aside0.mk h1
      clear h1
      go_enter Try.func89, Try.ntmps89
      go_wp2_with fail
      refine (impl_within.calls (a0.size : Int) 1 12 true _ F1.out).mono ?_
      rintro e w' ⟨rfl, ⟨nd, rfl⟩⟩
      go_wp2_with fail

      refine (impl_isLetter.calls (bt a0 0) true _ F2.out).mono ?_
      rintro e w' ⟨rfl, ⟨nd2, rfl⟩⟩
      go_wp2_with fail
      have HBx := below_bytes (w.drewN (nd + nd2)) a0 5
      have HBy : Below w.heap.size w (Go.Lib.bytesWorld (w.drewN (nd + nd2)) 5 a0) := below_then (pw_below_drewN (Below.refl _ _) _) (Nat.le_refl _) HBx
      have hA := allF_byte 109 #[] (enters_ Try.func109 (by kernel_rfl) rfl) (fun c => letB c || digB c) _ (grownCap (w.drewN (nd + nd2)) a0.size 0 5) (bytesL a0) (Go.Lib.bytesWorld (w.drewN (nd + nd2)) 5 a0) (bytesL_cells (w.drewN (nd + nd2)) a0 hsz) (by rw [bytesL_length]; exact grownCap_ge _ _ _ _) (nameOK_asks _ _)
      rw [bytesL_length] at hA
      refine hA.mono ?_
      rintro e w' ⟨rfl, hb⟩
      have hb2 := Aside0.mk (below_then HBy HBy.size hb)
      clear hb HBx HBy hA
      go_wp2
      go_ret
      exact ⟨by rw [R1.out]; rfl, hb2.out⟩
    | false =>
      rw [h2] at F2
      have R1 := Aside0.mk (show nameB a0 = false by simp [nameB, h2])
      have hn := Aside0.mk h1
      clear h1
      go_enter Try.func89, Try.ntmps89
      go_wp2_with fail
      refine (impl_within.calls (a0.size : Int) 1 12 true _ F1.out).mono ?_
      rintro e w' ⟨rfl, ⟨nd, rfl⟩⟩
      go_wp2_with fail
      refine (impl_isLetter.calls (bt a0 0) false _ F2.out).mono ?_
      rintro e w' ⟨rfl, ⟨nd2, rfl⟩⟩
      go_wp2
      go_ret
      exact ⟨by rw [R1.out]; rfl, by repeat (first | exact Below.refl _ _ | apply pw_below_drewN)⟩
  · have F1 := Aside0.mk (show impl_within.f (a0.size : Int) 1 12 = some false by
      unfold impl_within.f
      by_cases h3 : 1 ≤ (a0.size : Int)
      · rw [if_pos h3, decide_eq_false (by omega)]
      · rw [if_neg h3])
    have R1 := Aside0.mk (show nameB a0 = false by
      unfold nameB
      by_cases h3 : 1 ≤ a0.size
      · have h4 : ¬ a0.size ≤ 12 := by omega
        simp [h4]
      · simp [h3])
    clear h1
    go_enter Try.func89, Try.ntmps89
    go_wp2_with fail
    refine (impl_within.calls (a0.size : Int) 1 12 false _ F1.out).mono ?_
    rintro e w' ⟨rfl, ⟨nd, rfl⟩⟩
    go_wp2
    go_ret
    exact ⟨by rw [R1.out]; rfl, by repeat (first | exact Below.refl _ _ | apply pw_below_drewN)⟩
end Go.Proofs.Ytjkddaokhmflbaa.Q
end

section
namespace Go.Proofs.Ytjkddaokhmflbaa.Q
open Go.RowKit Go.Proofs.YtjkddaokhmflbaaW.PrintWords Go.Proofs.YtjkddaokhmflbaaW.PrintLast Go.Proofs.YtjkddaokhmflbaaW.PrintMore
attribute [local go_sem] max2_int min2_int max_two min_two max_three min_three max_four min_four   -- for this text's walks alone
set_option linter.unusedVariables false
set_option linter.unusedSimpArgs false
attribute [local go_sem] bin_leq bin_gtr bin_geq
def impl_hasSource.f (a0 : Int) : Option (Bool) := if a0 = 1 then (some true) else (some (a0 == 4))
set_option maxHeartbeats 8000000 in
set_option maxRecDepth 100000 in
theorem impl_hasSource.calls (a0 : Int) (r : Bool) (w : World) (h : impl_hasSource.f a0 = some r) :
    Calls Try.prog 86 #[.int .i64 a0] w fun e w' => e = .returned (.bool r) ∧ Drawn0 w w' := by
  have H : (if a0 = 1 then (some true) else (some (a0 == 4))) = some r := h
  clear h
  by_cases c2 : a0 = 1
  · rw [if_pos c2] at H
    have c2b0 : (a0 == 1) = true := beq_iff_eq.mpr c2
    have c2b1 : (a0 != 1) = false := bne_eq_false_iff_eq.mpr c2
    clear c2
    obtain rfl := Option.some.inj H
    go_enter Try.func86, Try.ntmps86
    go_wp2
    go_ret
    exact ⟨by first | rfl | (simp; done) | (simp [*]; done), by repeat (first | exact Drawn0.refl _ | apply Drawn0.step)⟩
  · rw [if_neg c2] at H
    have c2b0 : (a0 == 1) = false := beq_eq_false_iff_ne.mpr c2
    have c2b1 : (a0 != 1) = true := bne_iff_ne.mpr c2
    obtain rfl := Option.some.inj H
    go_enter Try.func86, Try.ntmps86
    go_wp2
    go_ret
    exact ⟨by first | rfl | (simp; done) | (simp [*]; done), by repeat (first | exact Drawn0.refl _ | apply Drawn0.step)⟩
end Go.Proofs.Ytjkddaokhmflbaa.Q
end

section
namespace Go.Proofs.Ytjkddaokhmflbaa.Q
open Go.RowKit Go.Proofs.YtjkddaokhmflbaaW.PrintWords Go.Proofs.YtjkddaokhmflbaaW.PrintLast Go.Proofs.YtjkddaokhmflbaaW.PrintMore
attribute [local go_sem] max2_int min2_int max_two min_two max_three min_three max_four min_four   -- for this text's walks alone
set_option linter.unusedVariables false
set_option linter.unusedSimpArgs false
attribute [local go_sem] bin_leq bin_gtr bin_geq
def impl_isHead.f (a0 : Int) : Option (Bool) := (impl_within.f a0 1 60).bind fun t205 => (some t205)
set_option maxHeartbeats 8000000 in
set_option maxRecDepth 100000 in
theorem impl_isHead.calls (a0 : Int) (r : Bool) (w : World) (h : impl_isHead.f a0 = some r) :
    Calls Try.prog 75 #[.int .i64 a0] w fun e w' => e = .returned (.bool r) ∧ Drawn0 w w' := by
  have H : ((impl_within.f a0 1 60).bind fun t205 => (some t205)) = some r := h
  clear h
  replace H := Option.bind_eq_some_iff.mp H
  obtain ⟨t205, A20, H⟩ := H
  replace H : (some t205) = some r := H
  have A2 := Aside0.mk A20
  clear A20
  obtain rfl := Option.some.inj H
  go_enter Try.func75, Try.ntmps75
  go_wp2_with (first | ((with_reducible refine gate_callee (f := 97) rfl ?_); refine goesL_ (some 4) rfl rfl Try.func97 (by kernel_rfl) rfl #[.int .i64 a0, .int .i64 1, .int .i64 60] rfl gA ?_; (with_reducible refine (impl_within.calls a0 1 60 t205 _ A2.out).mono ?_); rintro e w' ⟨rfl, ⟨nd, rfl⟩⟩; refine ⟨_, rfl, ?_⟩))
  go_ret
  exact ⟨by first | rfl | (simp; done) | (simp [*]; done), by repeat (first | exact Drawn0.refl _ | apply Drawn0.step)⟩
end Go.Proofs.Ytjkddaokhmflbaa.Q
end

section
namespace Go.Proofs.Ytjkddaokhmflbaa.Q
open Go.RowKit Go.Proofs.YtjkddaokhmflbaaW.PrintWords Go.Proofs.YtjkddaokhmflbaaW.PrintLast Go.Proofs.YtjkddaokhmflbaaW.PrintMore
attribute [local go_sem] max2_int min2_int max_two min_two max_three min_three max_four min_four   -- for this text's walks alone
set_option linter.unusedVariables false
set_option linter.unusedSimpArgs false
attribute [local go_sem] bin_leq bin_gtr bin_geq
def impl_isValue.f (a0 : Int) : Option (Bool) := (impl_within.f a0 (-1000000) 1000000).bind fun t199 => (some t199)
set_option maxHeartbeats 8000000 in
set_option maxRecDepth 100000 in
theorem impl_isValue.calls (a0 : Int) (r : Bool) (w : World) (h : impl_isValue.f a0 = some r) :
    Calls Try.prog 94 #[.int .i64 a0] w fun e w' => e = .returned (.bool r) ∧ Drawn0 w w' := by
  have H : ((impl_within.f a0 (-1000000) 1000000).bind fun t199 => (some t199)) = some r := h
  clear h
  replace H := Option.bind_eq_some_iff.mp H
  obtain ⟨t199, A20, H⟩ := H
  replace H : (some t199) = some r := H
  have A2 := Aside0.mk A20
  clear A20
  obtain rfl := Option.some.inj H
  go_enter Try.func94, Try.ntmps94
  go_wp2_with (first | ((with_reducible refine gate_callee (f := 97) rfl ?_); refine goesL_ (some 4) rfl rfl Try.func97 (by kernel_rfl) rfl #[.int .i64 a0, .int .i64 (-1000000), .int .i64 1000000] rfl gA ?_; (with_reducible refine (impl_within.calls a0 (-1000000) 1000000 t199 _ A2.out).mono ?_); rintro e w' ⟨rfl, ⟨nd, rfl⟩⟩; refine ⟨_, rfl, ?_⟩))
  go_ret
  exact ⟨by first | rfl | (simp; done) | (simp [*]; done), by repeat (first | exact Drawn0.refl _ | apply Drawn0.step)⟩
end Go.Proofs.Ytjkddaokhmflbaa.Q
end

section
namespace Go.Proofs.Ytjkddaokhmflbaa.Q
open Go.RowKit Go.Proofs.YtjkddaokhmflbaaW.PrintWords Go.Proofs.YtjkddaokhmflbaaW.PrintLast Go.Proofs.YtjkddaokhmflbaaW.PrintMore
attribute [local go_sem] max2_int min2_int max_two min_two max_three min_three max_four min_four   -- for this text's walks alone
set_option linter.unusedVariables false
set_option linter.unusedSimpArgs false
attribute [local go_sem] bin_leq bin_gtr bin_geq
abbrev impl_EditsOK.m0 : Array Bool := #[false, false, false, false, false, false, false, false, false, false, false, false, false, false, false, false, false, false, false, false, false, false, false, false, false, false, false, false, false, false, false, false, false, false]
abbrev impl_EditsOK.m1 : Array Bool := #[true, false, false, false, false, false, false, false, false, false, false, false, false, false, false, false, false, false, false, false, false, false, false, false, false, false, false, false, false, false, false, false, false, false]
abbrev impl_EditsOK.m2 : Array Bool := #[true, true, false, false, false, false, false, false, false, false, false, false, false, false, false, false, false, false, false, false, false, false, false, false, false, false, false, false, false, false, false, false, false, false]
abbrev impl_EditsOK.m3 : Array Bool := #[true, true, true, false, false, false, false, false, false, false, false, false, false, false, false, false, false, false, false, false, false, false, false, false, false, false, false, false, false, false, false, false, false, false]
abbrev impl_EditsOK.m4 : Array Bool := #[true, true, true, true, false, false, false, false, false, false, false, false, false, false, false, false, false, false, false, false, false, false, false, false, false, false, false, false, false, false, false, false, false, false]
abbrev impl_EditsOK.m5 : Array Bool := #[true, true, true, true, true, false, false, false, false, false, false, false, false, false, false, false, false, false, false, false, false, false, false, false, false, false, false, false, false, false, false, false, false, false]
abbrev impl_EditsOK.m6 : Array Bool := #[true, true, true, true, true, true, false, false, false, false, false, false, false, false, false, false, false, false, false, false, false, false, false, false, false, false, false, false, false, false, false, false, false, false]
abbrev impl_EditsOK.m7 : Array Bool := #[true, true, true, true, true, true, true, false, false, false, false, false, false, false, false, false, false, false, false, false, false, false, false, false, false, false, false, false, false, false, false, false, false, false]
abbrev impl_EditsOK.m8 : Array Bool := #[true, true, true, true, true, true, true, true, false, false, false, false, false, false, false, false, false, false, false, false, false, false, false, false, false, false, false, false, false, false, false, false, false, false]
abbrev impl_EditsOK.m9 : Array Bool := #[true, true, true, true, true, true, true, true, true, false, false, false, false, false, false, false, false, false, false, false, false, false, false, false, false, false, false, false, false, false, false, false, false, false]
abbrev impl_EditsOK.m10 : Array Bool := #[true, true, true, true, true, true, true, true, true, true, false, false, false, false, false, false, false, false, false, false, false, false, false, false, false, false, false, false, false, false, false, false, false, false]
abbrev impl_EditsOK.m11 : Array Bool := #[true, true, true, true, true, true, true, true, true, true, true, false, false, false, false, false, false, false, false, false, false, false, false, false, false, false, false, false, false, false, false, false, false, false]
abbrev impl_EditsOK.m12 : Array Bool := #[true, true, true, true, true, true, true, true, true, true, true, true, false, false, false, false, false, false, false, false, false, false, false, false, false, false, false, false, false, false, false, false, false, false]
abbrev impl_EditsOK.m13 : Array Bool := #[true, true, true, true, true, true, true, true, true, true, true, true, true, false, false, false, false, false, false, false, false, false, false, false, false, false, false, false, false, false, false, false, false, false]
abbrev impl_EditsOK.m14 : Array Bool := #[true, true, true, true, true, true, true, true, true, true, true, true, true, true, false, false, false, false, false, false, false, false, false, false, false, false, false, false, false, false, false, false, false, false]
abbrev impl_EditsOK.m15 : Array Bool := #[true, true, true, true, true, true, true, true, true, true, true, true, true, true, true, false, false, false, false, false, false, false, false, false, false, false, false, false, false, false, false, false, false, false]
abbrev impl_EditsOK.m16 : Array Bool := #[true, true, true, true, true, true, true, true, true, true, true, true, true, true, true, true, false, false, false, false, false, false, false, false, false, false, false, false, false, false, false, false, false, false]
abbrev impl_EditsOK.m17 : Array Bool := #[true, true, true, true, true, true, true, true, true, true, true, true, true, true, true, true, true, false, false, false, false, false, false, false, false, false, false, false, false, false, false, false, false, false]
abbrev impl_EditsOK.m18 : Array Bool := #[true, true, true, true, true, true, true, true, true, true, true, true, true, true, true, true, true, true, false, false, false, false, false, false, false, false, false, false, false, false, false, false, false, false]
abbrev impl_EditsOK.m19 : Array Bool := #[true, true, true, true, true, true, true, true, true, true, true, true, true, true, true, true, true, true, true, false, false, false, false, false, false, false, false, false, false, false, false, false, false, false]
abbrev impl_EditsOK.m20 : Array Bool := #[true, true, true, true, true, true, true, true, true, true, true, true, true, true, true, true, true, true, true, true, false, false, false, false, false, false, false, false, false, false, false, false, false, false]
abbrev impl_EditsOK.m21 : Array Bool := #[true, true, true, true, true, true, true, true, true, true, true, true, true, true, true, true, true, true, true, true, true, false, false, false, false, false, false, false, false, false, false, false, false, false]
abbrev impl_EditsOK.m22 : Array Bool := #[true, true, true, true, true, true, true, true, true, true, true, true, true, true, true, true, true, true, true, true, true, true, false, false, false, false, false, false, false, false, false, false, false, false]
abbrev impl_EditsOK.m23 : Array Bool := #[true, true, true, true, true, true, true, true, true, true, true, true, true, true, true, true, true, true, true, true, true, true, true, false, false, false, false, false, false, false, false, false, false, false]
abbrev impl_EditsOK.m24 : Array Bool := #[true, true, true, true, true, true, true, true, true, true, true, true, true, true, true, true, true, true, true, true, true, true, true, true, false, false, false, false, false, false, false, false, false, false]
abbrev impl_EditsOK.m25 : Array Bool := #[true, true, true, true, true, true, true, true, true, true, true, true, true, true, true, true, true, true, true, true, true, true, true, true, true, false, false, false, false, false, false, false, false, false]
abbrev impl_EditsOK.m26 : Array Bool := #[true, true, true, true, true, true, true, true, true, true, true, true, true, true, true, true, true, true, true, true, true, true, true, true, true, true, false, false, false, false, false, false, false, false]
abbrev impl_EditsOK.m27 : Array Bool := #[true, true, true, true, true, true, true, true, true, true, true, true, true, true, true, true, true, true, true, true, true, true, true, true, true, true, true, false, false, false, false, false, false, false]
abbrev impl_EditsOK.m28 : Array Bool := #[true, true, true, true, true, true, true, true, true, true, true, true, true, true, true, true, true, true, true, true, true, true, true, true, true, true, true, true, false, false, false, false, false, false]
abbrev impl_EditsOK.m29 : Array Bool := #[true, true, true, true, true, true, true, true, true, true, true, true, true, true, true, true, true, true, true, true, true, true, true, true, true, true, true, true, false, true, false, false, false, false]
abbrev impl_EditsOK.m30 : Array Bool := #[true, true, true, true, true, true, true, true, true, true, true, true, true, true, true, true, true, true, true, true, true, true, true, true, true, true, true, true, true, true, false, false, false, false]
abbrev impl_EditsOK.m31 : Array Bool := #[true, true, true, true, true, true, true, true, true, true, true, true, true, true, true, true, true, true, true, true, true, true, true, true, true, true, true, true, true, true, true, false, false, false]
abbrev impl_EditsOK.m32 : Array Bool := #[true, true, true, true, true, true, true, true, true, true, true, true, true, true, true, true, true, true, true, true, true, true, true, true, true, true, true, true, true, true, true, true, false, false]
abbrev impl_EditsOK.m33 : Array Bool := #[true, true, true, true, true, true, true, true, true, true, true, true, true, true, true, true, true, true, true, true, true, true, true, true, true, true, true, true, true, true, true, true, true, false]
abbrev impl_EditsOK.m34 : Array Bool := #[true, true, true, true, true, true, true, true, true, true, true, true, true, true, true, true, true, true, true, true, true, true, true, true, true, true, true, true, true, true, true, true, true, true]
abbrev impl_EditsOK.m35 : Array Bool := #[true, true, true, true, true, true, true, true, true, true, true, true, true, true, true, true, true, true, true, true, true, true, true, true, true, true, true, true, true, false, false, false, false, false]
def impl_EditsOK.l0 : Nat → List (S119) → List (S119) → Int → Int → Option (Bool)
  | 0, _, _, _, _ => none
  | k + 1, x0, x5, x6, x7 => if x7 < x6 then (if 0 ≤ x7 then (if x7 < (x5.length : Int) then ((impl_NameOK.f ((rd_T119 x5 x7).f0)).bind fun t425 => (if t425 = true then ((impl_isValue.f ((rd_T119 x5 x7).f1)).bind fun t426 => (if t426 = true then (if (rd_T119 x5 x7).f2 = true then (if ((rd_T119 x5 x7).f1) = 0 then (if x7 > 0 then (if 0 ≤ (wrap64 (x7 - 1)) then (if (wrap64 (x7 - 1)) < (x0.length : Int) then (if ((Op.bytesLess (((rd_T119 x0 (wrap64 (x7 - 1))).f0).toList) (((rd_T119 x5 x7).f0).toList)) = true) then (impl_EditsOK.l0 k x0 x5 x6 (wrap64 (x7 + 1))) else (some false)) else (none)) else (none)) else (impl_EditsOK.l0 k x0 x5 x6 (wrap64 (x7 + 1)))) else (some false)) else (if x7 > 0 then (if 0 ≤ (wrap64 (x7 - 1)) then (if (wrap64 (x7 - 1)) < (x0.length : Int) then (if ((Op.bytesLess (((rd_T119 x0 (wrap64 (x7 - 1))).f0).toList) (((rd_T119 x5 x7).f0).toList)) = true) then (impl_EditsOK.l0 k x0 x5 x6 (wrap64 (x7 + 1))) else (some false)) else (none)) else (none)) else (impl_EditsOK.l0 k x0 x5 x6 (wrap64 (x7 + 1))))) else (some false))) else (some false))) else (none)) else (none)) else (some (decide ((x0.length : Int) ≤ 6)))
def impl_EditsOK.f (k : Nat) (l0 : List (S119)) : Option (Bool) := impl_EditsOK.l0 k l0 l0 (l0.length : Int) 0
def impl_EditsOK.T4 : Bool × List (List Nat × List Nat) := (true, [([], []), ([0], [0]), ([1], [1]), ([2], [2]), ([3, 2], [3]), ([4], [4]), ([5, 4], [4, 5]), ([6, 4, 4], [4, 6]), ([7, 4], [4, 7]), ([4, 8], [4, 8]), ([9, 7], [9]), ([10], [10]), ([11, 10], [10, 11]), ([12, 10, 10], [10, 12]), ([13], [13]), ([14, 13], [13, 14]), ([15, 13], [13, 15]), ([13, 16, 10], [10, 13, 16]), ([10, 17], [10, 17]), ([18, 13], [18]), ([19], [19]), ([20, 19], [19, 20]), ([21, 19, 19], [19, 21]), ([22], [22]), ([22], [22]), ([24, 22], [22, 24]), ([23, 25, 22], [22, 23, 25]), ([26, 22], [22, 26]), ([27, 22], [22, 27]), ([22], [22]), ([29, 22], [22, 29]), ([28, 30, 22], [22, 28, 30]), ([22, 31, 19], [19, 22, 31]), ([19, 32], [19, 32])])
def impl_EditsOK.B4 : List Nat := [0, 1, 3, 7, 15, 31, 63, 127, 255, 511, 1023, 2047, 4095, 8191, 16383, 32767, 65535, 131071, 262143, 524287, 1048575, 2097151, 4194303, 8388607, 8388607, 25165823, 67108863, 134217727, 268435455, 8388607, 545259519, 2147483647, 4294967295, 8589934591]
theorem impl_EditsOK.tab4 : rtab .any (opsOf Try.f106 4) = impl_EditsOK.T4 := by kernel_rfl
theorem impl_EditsOK.bits4 : waitsOk impl_EditsOK.T4.2 impl_EditsOK.B4 = true := by kernel_rfl
set_option maxHeartbeats 8000000 in
set_option maxRecDepth 100000 in
theorem impl_EditsOK.calls (k : Nat) (A0 : Option Addr) (c0 : Nat) (l0 : List (S119)) (r : Bool) (w : World) (hr0 : Kd.C k119 w A0 l0.length l0) (hc0 : l0.length ≤ c0) (h : impl_EditsOK.f k l0 = some r) :
    Calls Try.prog 106 #[.slice A0 l0.length c0] w fun e w' => e = .returned (.bool r) ∧ Below w.heap.size w w' := by
  have hu119 := Try.underlying119
  have HR0 := Aside0.mk hr0
  have HC0 := Aside0.mk hc0
  clear hr0 hc0
  have HB := Aside0.mk (Below.refl w.heap.size w)
  have H : (impl_EditsOK.l0 k l0 l0 (l0.length : Int) 0) = some r := h
  clear h
  have H' := Aside0.mk H
  clear H
  go_enter Try.func106, Try.ntmps106
  go_wp2
  go_loopg [7] k (fun kq v7 w' => ∃ (x7_1 : Int), v7 = .int .i64 x7_1 ∧ Aside0 (impl_EditsOK.l0 kq l0 l0 (l0.length : Int) x7_1 = some r) ∧ Aside0 (kq ≤ k) ∧ Aside0 (Below w.heap.size w w'))
  case atStart => exact ⟨(0), vE, H', ⟨Nat.le_refl _⟩, ⟨bW⟩⟩
  case round =>
    clear H'
    try clear c1
    obtain ⟨x7_1, rfl, HA, HK1, HB⟩ := hrel
    cases gk with
    | zero => exact absurd HA.out (by simp [impl_EditsOK.l0])
    | succ k1 =>
      have H := HA.out
      clear HA
      simp only [impl_EditsOK.l0] at H
      by_cases c2 : x7_1 < (l0.length : Int)
      · rw [if_pos c2] at H
        have c2b0 : decide (x7_1 < (l0.length : Int)) = true := decide_eq_true c2
        clear c2
        by_cases c3 : 0 ≤ x7_1
        · rw [if_pos c3] at H
          have c3b0 : decide (0 ≤ x7_1) = true := decide_eq_true c3
          clear c3
          by_cases c4 : x7_1 < (l0.length : Int)
          · rw [if_pos c4] at H
            have c4b0 : decide (x7_1 < (l0.length : Int)) = true := decide_eq_true c4
            clear c4
            replace H := Option.bind_eq_some_iff.mp H
            obtain ⟨t425, A50, H⟩ := H
            replace H : (if t425 = true then ((impl_isValue.f ((rd_T119 l0 x7_1).f1)).bind fun t426 => (if t426 = true then (if (rd_T119 l0 x7_1).f2 = true then (if ((rd_T119 l0 x7_1).f1) = 0 then (if x7_1 > 0 then (if 0 ≤ (wrap64 (x7_1 - 1)) then (if (wrap64 (x7_1 - 1)) < (l0.length : Int) then (if ((Op.bytesLess (((rd_T119 l0 (wrap64 (x7_1 - 1))).f0).toList) (((rd_T119 l0 x7_1).f0).toList)) = true) then (impl_EditsOK.l0 k1 l0 l0 (l0.length : Int) (wrap64 (x7_1 + 1))) else (some false)) else (none)) else (none)) else (impl_EditsOK.l0 k1 l0 l0 (l0.length : Int) (wrap64 (x7_1 + 1)))) else (some false)) else (if x7_1 > 0 then (if 0 ≤ (wrap64 (x7_1 - 1)) then (if (wrap64 (x7_1 - 1)) < (l0.length : Int) then (if ((Op.bytesLess (((rd_T119 l0 (wrap64 (x7_1 - 1))).f0).toList) (((rd_T119 l0 x7_1).f0).toList)) = true) then (impl_EditsOK.l0 k1 l0 l0 (l0.length : Int) (wrap64 (x7_1 + 1))) else (some false)) else (none)) else (none)) else (impl_EditsOK.l0 k1 l0 l0 (l0.length : Int) (wrap64 (x7_1 + 1))))) else (some false))) else (some false)) = some r := H
            have A5 := Aside0.mk A50
            clear A50
            by_cases c6 : t425 = true
            · subst c6
              have H1 : ((impl_isValue.f ((rd_T119 l0 x7_1).f1)).bind fun t426 => (if t426 = true then (if (rd_T119 l0 x7_1).f2 = true then (if ((rd_T119 l0 x7_1).f1) = 0 then (if x7_1 > 0 then (if 0 ≤ (wrap64 (x7_1 - 1)) then (if (wrap64 (x7_1 - 1)) < (l0.length : Int) then (if ((Op.bytesLess (((rd_T119 l0 (wrap64 (x7_1 - 1))).f0).toList) (((rd_T119 l0 x7_1).f0).toList)) = true) then (impl_EditsOK.l0 k1 l0 l0 (l0.length : Int) (wrap64 (x7_1 + 1))) else (some false)) else (none)) else (none)) else (impl_EditsOK.l0 k1 l0 l0 (l0.length : Int) (wrap64 (x7_1 + 1)))) else (some false)) else (if x7_1 > 0 then (if 0 ≤ (wrap64 (x7_1 - 1)) then (if (wrap64 (x7_1 - 1)) < (l0.length : Int) then (if ((Op.bytesLess (((rd_T119 l0 (wrap64 (x7_1 - 1))).f0).toList) (((rd_T119 l0 x7_1).f0).toList)) = true) then (impl_EditsOK.l0 k1 l0 l0 (l0.length : Int) (wrap64 (x7_1 + 1))) else (some false)) else (none)) else (none)) else (impl_EditsOK.l0 k1 l0 l0 (l0.length : Int) (wrap64 (x7_1 + 1))))) else (some false))) = some r := by rw [if_pos rfl] at H; exact H
              clear H
              have H := H1
              clear H1
              replace H := Option.bind_eq_some_iff.mp H
              obtain ⟨t426, A70, H⟩ := H
              replace H : (if t426 = true then (if (rd_T119 l0 x7_1).f2 = true then (if ((rd_T119 l0 x7_1).f1) = 0 then (if x7_1 > 0 then (if 0 ≤ (wrap64 (x7_1 - 1)) then (if (wrap64 (x7_1 - 1)) < (l0.length : Int) then (if ((Op.bytesLess (((rd_T119 l0 (wrap64 (x7_1 - 1))).f0).toList) (((rd_T119 l0 x7_1).f0).toList)) = true) then (impl_EditsOK.l0 k1 l0 l0 (l0.length : Int) (wrap64 (x7_1 + 1))) else (some false)) else (none)) else (none)) else (impl_EditsOK.l0 k1 l0 l0 (l0.length : Int) (wrap64 (x7_1 + 1)))) else (some false)) else (if x7_1 > 0 then (if 0 ≤ (wrap64 (x7_1 - 1)) then (if (wrap64 (x7_1 - 1)) < (l0.length : Int) then (if ((Op.bytesLess (((rd_T119 l0 (wrap64 (x7_1 - 1))).f0).toList) (((rd_T119 l0 x7_1).f0).toList)) = true) then (impl_EditsOK.l0 k1 l0 l0 (l0.length : Int) (wrap64 (x7_1 + 1))) else (some false)) else (none)) else (none)) else (impl_EditsOK.l0 k1 l0 l0 (l0.length : Int) (wrap64 (x7_1 + 1))))) else (some false)) = some r := H
              have A7 := Aside0.mk A70
              clear A70
              by_cases c8 : t426 = true
              · subst c8
                have H1 : (if (rd_T119 l0 x7_1).f2 = true then (if ((rd_T119 l0 x7_1).f1) = 0 then (if x7_1 > 0 then (if 0 ≤ (wrap64 (x7_1 - 1)) then (if (wrap64 (x7_1 - 1)) < (l0.length : Int) then (if ((Op.bytesLess (((rd_T119 l0 (wrap64 (x7_1 - 1))).f0).toList) (((rd_T119 l0 x7_1).f0).toList)) = true) then (impl_EditsOK.l0 k1 l0 l0 (l0.length : Int) (wrap64 (x7_1 + 1))) else (some false)) else (none)) else (none)) else (impl_EditsOK.l0 k1 l0 l0 (l0.length : Int) (wrap64 (x7_1 + 1)))) else (some false)) else (if x7_1 > 0 then (if 0 ≤ (wrap64 (x7_1 - 1)) then (if (wrap64 (x7_1 - 1)) < (l0.length : Int) then (if ((Op.bytesLess (((rd_T119 l0 (wrap64 (x7_1 - 1))).f0).toList) (((rd_T119 l0 x7_1).f0).toList)) = true) then (impl_EditsOK.l0 k1 l0 l0 (l0.length : Int) (wrap64 (x7_1 + 1))) else (some false)) else (none)) else (none)) else (impl_EditsOK.l0 k1 l0 l0 (l0.length : Int) (wrap64 (x7_1 + 1))))) = some r := by rw [if_pos rfl] at H; exact H
                clear H
                have H := H1
                clear H1
                obtain ⟨bq9, hbq9⟩ : ∃ b_ : Bool, b_ = ((rd_T119 l0 x7_1).f2) := ⟨_, rfl⟩
                replace H : (if bq9 = true then (if ((rd_T119 l0 x7_1).f1) = 0 then (if x7_1 > 0 then (if 0 ≤ (wrap64 (x7_1 - 1)) then (if (wrap64 (x7_1 - 1)) < (l0.length : Int) then (if ((Op.bytesLess (((rd_T119 l0 (wrap64 (x7_1 - 1))).f0).toList) (((rd_T119 l0 x7_1).f0).toList)) = true) then (impl_EditsOK.l0 k1 l0 l0 (l0.length : Int) (wrap64 (x7_1 + 1))) else (some false)) else (none)) else (none)) else (impl_EditsOK.l0 k1 l0 l0 (l0.length : Int) (wrap64 (x7_1 + 1)))) else (some false)) else (if x7_1 > 0 then (if 0 ≤ (wrap64 (x7_1 - 1)) then (if (wrap64 (x7_1 - 1)) < (l0.length : Int) then (if ((Op.bytesLess (((rd_T119 l0 (wrap64 (x7_1 - 1))).f0).toList) (((rd_T119 l0 x7_1).f0).toList)) = true) then (impl_EditsOK.l0 k1 l0 l0 (l0.length : Int) (wrap64 (x7_1 + 1))) else (some false)) else (none)) else (none)) else (impl_EditsOK.l0 k1 l0 l0 (l0.length : Int) (wrap64 (x7_1 + 1))))) = some r := by rw [← hbq9] at H; exact H
                have Nbq9 := Aside0.mk hbq9
                clear hbq9
                by_cases c10 : bq9 = true
                · subst c10
                  have H1 : (if ((rd_T119 l0 x7_1).f1) = 0 then (if x7_1 > 0 then (if 0 ≤ (wrap64 (x7_1 - 1)) then (if (wrap64 (x7_1 - 1)) < (l0.length : Int) then (if ((Op.bytesLess (((rd_T119 l0 (wrap64 (x7_1 - 1))).f0).toList) (((rd_T119 l0 x7_1).f0).toList)) = true) then (impl_EditsOK.l0 k1 l0 l0 (l0.length : Int) (wrap64 (x7_1 + 1))) else (some false)) else (none)) else (none)) else (impl_EditsOK.l0 k1 l0 l0 (l0.length : Int) (wrap64 (x7_1 + 1)))) else (some false)) = some r := by rw [if_pos rfl] at H; exact H
                  clear H
                  have H := H1
                  clear H1
                  by_cases c11 : ((rd_T119 l0 x7_1).f1) = 0
                  · rw [if_pos c11] at H
                    have c11b0 : (((rd_T119 l0 x7_1).f1) == 0) = true := beq_iff_eq.mpr c11
                    have c11b1 : (((rd_T119 l0 x7_1).f1) != 0) = false := bne_eq_false_iff_eq.mpr c11
                    clear c11
                    by_cases c12 : x7_1 > 0
                    · rw [if_pos c12] at H
                      have c12b0 : decide (0 < x7_1) = true := decide_eq_true c12
                      clear c12
                      obtain ⟨ji13, hji13⟩ : ∃ j_ : Int, (wrap64 (x7_1 - 1)) = j_ := ⟨_, rfl⟩
                      replace H : (if 0 ≤ (ji13) then (if (ji13) < (l0.length : Int) then (if ((Op.bytesLess (((rd_T119 l0 (ji13)).f0).toList) (((rd_T119 l0 x7_1).f0).toList)) = true) then (impl_EditsOK.l0 k1 l0 l0 (l0.length : Int) (wrap64 (x7_1 + 1))) else (some false)) else (none)) else (none)) = some r := by first | (rw [hji13] at H; exact H) | (simp only [hji13] at H ⊢; exact H)
                      (try rw [hji13] at A5)
                      (try rw [hji13] at A7)
                      have hji13w : (IntKind.i64.wrap (x7_1 - 1)) = ji13 := (i64_w _).trans hji13
                      by_cases c14 : 0 ≤ (ji13)
                      · rw [if_pos c14] at H
                        have c14b0 : decide (0 ≤ (ji13)) = true := decide_eq_true c14
                        clear c14
                        by_cases c15 : (ji13) < (l0.length : Int)
                        · rw [if_pos c15] at H
                          have c15b0 : decide ((ji13) < (l0.length : Int)) = true := decide_eq_true c15
                          clear c15
                          by_cases c16 : ((Op.bytesLess (((rd_T119 l0 (ji13)).f0).toList) (((rd_T119 l0 x7_1).f0).toList)) = true)
                          · rw [if_pos c16] at H
                            have c16b0 : (Op.bytesLess (((rd_T119 l0 (ji13)).f0).toList) (((rd_T119 l0 x7_1).f0).toList)) = true := c16
                            clear c16
                            have H' := Aside0.mk H
                            clear H
                            have p423 : 0 ≤ (x7_1 : Int) := odt
                            have q423 : x7_1 < (l0.length : Int) := odt
                            obtain ⟨ad423, e423, hx423_0, hx423_1, hx423_2⟩ := at_T119 HR0.out x7_1 p423 q423
                            (try rw [← Nbq9.out] at hx423_2)
                            cases e423
                            replace hx423_0 := (HB.out.cell (World.block_lt_of_cell? w _ hx423_0)).trans hx423_0
                            replace hx423_1 := (HB.out.cell (World.block_lt_of_cell? w _ hx423_1)).trans hx423_1
                            replace hx423_2 := (HB.out.cell (World.block_lt_of_cell? w _ hx423_2)).trans hx423_2
                            replace p423 := eq_true p423
                            replace q423 := eq_true q423
                            try go_wp2_with (first | ((with_reducible refine gate_dst (N := 4) rfl ?_); refine bE (N := 4) (cs := #[.string (⟨#[]⟩ : ByteArray), .int .i64 0, .bool false]) (t := 119) ?_; intro gb424 hg w17 hbox hb; have n0_ := Aside0.mk (below_step (w := w) bW hb); have n1_ := Aside0.mk (hbox); have n2_ := Aside0.mk (gS (w := w) hg); have n3_ := n2_; clear HB; have HB := n0_; have BK424 := n1_; have GW424 := n2_; have GE424 := n3_; clear n0_ n1_ n2_ n3_; clear hb hbox hg; obtain ⟨hcz18_0, hcz18_1, hcz18_2⟩ := cz3 BK424; obtain ⟨hfz18_0, hfz18_1, hfz18_2⟩ := fz3 BK424))
                            have n0_ : Aside0 ((((w17.setCell ⟨gb424, 0, none⟩ (.string ((rd_T119 l0 x7_1).f0))).setCell ⟨gb424, 1, none⟩ (.int .i64 ((rd_T119 l0 x7_1).f1))).setCell ⟨gb424, 2, none⟩ (.bool true)).heap[gb424]? = some (.cells #[.string ((rd_T119 l0 x7_1).f0), .int .i64 ((rd_T119 l0 x7_1).f1), .bool true] 119 (0, 0))) := ⟨by (with_reducible repeat (first | refine blk_drewN ?_ _ | refine blk_drew ?_ | refine blk_alloc ?_ _)); refine blk_put (cs := #[.string ((rd_T119 l0 x7_1).f0), .int .i64 ((rd_T119 l0 x7_1).f1), .bool false]) ?_ 2 _ rfl; (with_reducible repeat (first | refine blk_drewN ?_ _ | refine blk_drew ?_ | refine blk_alloc ?_ _)); refine blk_put (cs := #[.string ((rd_T119 l0 x7_1).f0), .int .i64 0, .bool false]) ?_ 1 _ rfl; (with_reducible repeat (first | refine blk_drewN ?_ _ | refine blk_drew ?_ | refine blk_alloc ?_ _)); refine blk_put (cs := #[.string (⟨#[]⟩ : ByteArray), .int .i64 0, .bool false]) ?_ 0 _ rfl; (with_reducible repeat (first | refine blk_drewN ?_ _ | refine blk_drew ?_ | refine blk_alloc ?_ _)); exact BK424.out⟩
                            have n1_ : Aside0 (Below w.heap.size w (((w17.setCell ⟨gb424, 0, none⟩ (.string ((rd_T119 l0 x7_1).f0))).setCell ⟨gb424, 1, none⟩ (.int .i64 ((rd_T119 l0 x7_1).f1))).setCell ⟨gb424, 2, none⟩ (.bool true))) := ⟨bW⟩
                            (try clear BK424)
                            (try clear HB)
                            generalize (((w17.setCell ⟨gb424, 0, none⟩ (.string ((rd_T119 l0 x7_1).f0))).setCell ⟨gb424, 1, none⟩ (.int .i64 ((rd_T119 l0 x7_1).f1))).setCell ⟨gb424, 2, none⟩ (.bool true)) = w19 at n0_ n1_ ⊢
                            have BK424 := n0_
                            have HB := n1_
                            clear n0_ n1_
                            have n0_ := Aside0.mk (blk_drew BK424.out)
                            have n1_ := Aside0.mk (below_drew1 HB.out)
                            clear BK424
                            clear HB
                            have BK424 := n0_
                            have HB := n1_
                            clear n0_ n1_
                            have p427 : 0 ≤ ((ji13) : Int) := odt
                            have q427 : (ji13) < (l0.length : Int) := odt
                            obtain ⟨ad427, e427, hx427_0, hx427_1, hx427_2⟩ := at_T119 HR0.out (ji13) p427 q427
                            have hw427_2 := hx427_2
                            have hw427_1 := hx427_1
                            have hw427_0 := hx427_0
                            (try rw [← Nbq9.out] at hx427_2)
                            obtain rfl : ad423 = ad427 := (by injection e427)
                            replace hx427_0 := (HB.out.cell (World.block_lt_of_cell? w _ hx427_0)).trans hx427_0
                            replace hx427_1 := (HB.out.cell (World.block_lt_of_cell? w _ hx427_1)).trans hx427_1
                            replace hx427_2 := (HB.out.cell (World.block_lt_of_cell? w _ hx427_2)).trans hx427_2
                            replace p427 := eq_true p427
                            replace q427 := eq_true q427
                            refine start_ (n := 34) (S := fun w' => w'.cell? ⟨gb424, 0, none⟩ = some (.string ((rd_T119 l0 x7_1).f0)) ∧ w'.cell? ⟨gb424, 1, none⟩ = some (.int .i64 ((rd_T119 l0 x7_1).f1)) ∧ w'.cell? ⟨gb424, 2, none⟩ = some (.bool true) ∧ w'.cell? (ad423.add (((ji13)).toNat * 3)) = some (.string ((rd_T119 l0 (ji13)).f0)) ∧ w'.cell? ⟨(ad423.add (((ji13)).toNat * 3)).block, (ad423.add (((ji13)).toNat * 3)).off + 1, none⟩ = some (.int .i64 ((rd_T119 l0 (ji13)).f1)) ∧ w'.cell? ⟨(ad423.add (((ji13)).toNat * 3)).block, (ad423.add (((ji13)).toNat * 3)).off + 2, none⟩ = some (.bool ((rd_T119 l0 (ji13)).f2))) (ds := []) impl_EditsOK.m0 (by kernel_rfl) rfl rfl ⟨(blk_cell BK424.out 0).trans rfl, (blk_cell BK424.out 1).trans rfl, (blk_cell BK424.out 2).trans rfl, ((HB.out.cell (World.block_lt_of_cell? w _ hw427_0)).trans hw427_0), ((HB.out.cell (World.block_lt_of_cell? w _ hw427_1)).trans hw427_1), ((HB.out.cell (World.block_lt_of_cell? w _ hw427_2)).trans hw427_2)⟩ (fun hHeld => ?_); refine with_tabW impl_EditsOK.tab4 impl_EditsOK.bits4 (fun HT_ HW_ => ?_)
                            generalize w19.drew = w20 at BK424 HB hx427_0 hx427_1 hx427_2 hHeld ⊢
                            refine pure_ (i := 0) (N := some 12) (v := ?_) (a' := ?_) impl_EditsOK.m1 rfl rfl (any_of HT_.out (by kernel_rfl)) (fun _ _ _ h => h) (Or.inl ⟨by rfl, ?_⟩) ?_ ?_; rotate_left; (focus intro w'; go_simp; with_reducible rfl); rotate_left; (focus simp only [pt, i64_w, i32_w]; rfl)
                            refine take_ (i := 1) (N := some 13) (v := ?_) (a' := ?_) impl_EditsOK.m2 rfl rfl (take_ofW HT_.out HW_.out (by kernel_rfl)) (fun _ _ _ h => h) (Or.inl ⟨by rfl, ?_⟩) hHeld ?_ ?_; rotate_left; (focus rintro w' ⟨s0, s1, s2, s3, s4, s5⟩; go_simp; with_reducible rfl); rotate_left; (focus simp only [pt, i64_w, i32_w]; rfl)
                            refine one_ (i := 2) (N := some 14) impl_EditsOK.m3 rfl rfl (one_of HT_.out (by kernel_rfl)) (by decide) (fun K hK => ?_)
                            refine goes_ Try.func89 (by kernel_rfl) rfl #[.string ((rd_T119 l0 x7_1).f0)] (by rfl) rfl rfl gA ?_
                            with_reducible refine (impl_NameOK.calls ((rd_T119 l0 x7_1).f0) true _ A5.out).mono ?_
                            rintro e w21 ⟨rfl, hb⟩
                            refine ⟨_, rfl, ?_⟩
                            have n0_ := Aside0.mk (kb BK424 hb)
                            have n1_ := Aside0.mk (below_step (w := w) bW hb)
                            clear BK424
                            clear HB
                            have BK424 := n0_
                            have HB := n1_
                            clear n0_ n1_
                            (try clear hb)
                            (try clear hb2)
                            (try clear hk)
                            (try clear hi)
                            refine hK.out _ _ ⟨(blk_cell BK424.out 0).trans rfl, (blk_cell BK424.out 1).trans rfl, (blk_cell BK424.out 2).trans rfl, ((HB.out.cell (World.block_lt_of_cell? w _ hw427_0)).trans hw427_0), ((HB.out.cell (World.block_lt_of_cell? w _ hw427_1)).trans hw427_1), ((HB.out.cell (World.block_lt_of_cell? w _ hw427_2)).trans hw427_2)⟩ (fun hHeld => ?_)
                            clear hK K
                            refine norm_ (a' := ?_) ?_ ?_
                            rotate_left
                            · show Act.put _ (some 14) _ = _
                              simp only [Act.put, List.setIfInBounds_toArray, List.set_cons_zero, List.set_cons_succ, i64_w, i32_w]
                              rfl
                            refine pure_ (i := 3) (N := some 15) (v := ?_) (a' := ?_) impl_EditsOK.m4 rfl rfl (any_of HT_.out (by kernel_rfl)) (fun _ _ _ h => h) (Or.inl ⟨by rfl, ?_⟩) ?_ ?_; rotate_left; (focus intro w'; go_simp; with_reducible rfl); rotate_left; (focus simp only [pt, i64_w, i32_w]; rfl)
                            refine pure_ (i := 4) (N := some 16) (v := ?_) (a' := ?_) impl_EditsOK.m5 rfl rfl (any_of HT_.out (by kernel_rfl)) (fun _ _ _ h => h) (Or.inl ⟨by rfl, ?_⟩) ?_ ?_; rotate_left; (focus intro w'; go_simp; with_reducible rfl); rotate_left; (focus simp only [pt, i64_w, i32_w]; rfl)
                            refine pure_ (i := 5) (N := some 17) (v := ?_) (a' := ?_) impl_EditsOK.m6 rfl rfl (any_of HT_.out (by kernel_rfl)) (fun _ _ _ h => h) (Or.inl ⟨by rfl, ?_⟩) ?_ ?_; rotate_left; (focus intro w'; go_simp; with_reducible rfl); rotate_left; (focus simp only [pt, i64_w, i32_w]; rfl)
                            refine take_ (i := 6) (N := some 18) (v := ?_) (a' := ?_) impl_EditsOK.m7 rfl rfl (take_ofW HT_.out HW_.out (by kernel_rfl)) (fun _ _ _ h => h) (Or.inl ⟨by rfl, ?_⟩) hHeld ?_ ?_; rotate_left; (focus rintro w' ⟨s0, s1, s2, s3, s4, s5⟩; go_simp; with_reducible rfl); rotate_left; (focus simp only [pt, i64_w, i32_w]; rfl)
                            refine one_ (i := 7) (N := some 19) impl_EditsOK.m8 rfl rfl (one_of HT_.out (by kernel_rfl)) (by decide) (fun K hK => ?_)
                            refine goes_ Try.func94 (by kernel_rfl) rfl #[.int .i64 ((rd_T119 l0 x7_1).f1)] (by rfl) rfl rfl gA ?_
                            with_reducible refine (impl_isValue.calls ((rd_T119 l0 x7_1).f1) true _ A7.out).mono ?_
                            rintro e w' ⟨rfl, ⟨nd, rfl⟩⟩
                            refine ⟨_, rfl, ?_⟩
                            refine hK.out _ _ ⟨(blk_cell BK424.out 0).trans rfl, (blk_cell BK424.out 1).trans rfl, (blk_cell BK424.out 2).trans rfl, ((HB.out.cell (World.block_lt_of_cell? w _ hw427_0)).trans hw427_0), ((HB.out.cell (World.block_lt_of_cell? w _ hw427_1)).trans hw427_1), ((HB.out.cell (World.block_lt_of_cell? w _ hw427_2)).trans hw427_2)⟩ (fun hHeld => ?_)
                            clear hK K
                            refine norm_ (a' := ?_) ?_ ?_
                            rotate_left
                            · show Act.put _ (some 19) _ = _
                              simp only [Act.put, List.setIfInBounds_toArray, List.set_cons_zero, List.set_cons_succ, i64_w, i32_w]
                              rfl
                            refine pure_ (i := 8) (N := some 20) (v := ?_) (a' := ?_) impl_EditsOK.m9 rfl rfl (any_of HT_.out (by kernel_rfl)) (fun _ _ _ h => h) (Or.inl ⟨by rfl, ?_⟩) ?_ ?_; rotate_left; (focus intro w'; go_simp; with_reducible rfl); rotate_left; (focus simp only [pt, i64_w, i32_w]; rfl)
                            refine pure_ (i := 9) (N := some 21) (v := ?_) (a' := ?_) impl_EditsOK.m10 rfl rfl (any_of HT_.out (by kernel_rfl)) (fun _ _ _ h => h) (Or.inl ⟨by rfl, ?_⟩) ?_ ?_; rotate_left; (focus intro w'; go_simp; with_reducible rfl); rotate_left; (focus simp only [pt, i64_w, i32_w]; rfl)
                            refine pure_ (i := 10) (N := some 22) (v := ?_) (a' := ?_) impl_EditsOK.m11 rfl rfl (any_of HT_.out (by kernel_rfl)) (fun _ _ _ h => h) (Or.inl ⟨by rfl, ?_⟩) ?_ ?_; rotate_left; (focus intro w'; go_simp; with_reducible rfl); rotate_left; (focus simp only [pt, i64_w, i32_w]; rfl)
                            refine pure_ (i := 11) (N := some 23) (v := ?_) (a' := ?_) impl_EditsOK.m12 rfl rfl (any_of HT_.out (by kernel_rfl)) (fun _ _ _ h => h) (Or.inl ⟨by rfl, ?_⟩) ?_ ?_; rotate_left; (focus intro w'; go_simp; with_reducible rfl); rotate_left; (focus simp only [pt, i64_w, i32_w]; rfl)
                            refine take_ (i := 12) (N := some 24) (v := ?_) (a' := ?_) impl_EditsOK.m13 rfl rfl (take_ofW HT_.out HW_.out (by kernel_rfl)) (fun _ _ _ h => h) (Or.inl ⟨by rfl, ?_⟩) hHeld ?_ ?_; rotate_left; (focus rintro w' ⟨s0, s1, s2, s3, s4, s5⟩; go_simp; with_reducible rfl); rotate_left; (focus simp only [pt, i64_w, i32_w]; rfl)
                            refine pure_ (i := 13) (N := some 25) (v := ?_) (a' := ?_) impl_EditsOK.m14 rfl rfl (any_of HT_.out (by kernel_rfl)) (fun _ _ _ h => h) (Or.inl ⟨by rfl, ?_⟩) ?_ ?_; rotate_left; (focus intro w'; go_simp; with_reducible rfl); rotate_left; (focus simp only [pt, i64_w, i32_w]; rfl)
                            refine pure_ (i := 14) (N := some 26) (v := ?_) (a' := ?_) impl_EditsOK.m15 rfl rfl (any_of HT_.out (by kernel_rfl)) (fun _ _ _ h => h) (Or.inl ⟨by rfl, ?_⟩) ?_ ?_; rotate_left; (focus intro w'; go_simp; with_reducible rfl); rotate_left; (focus simp only [pt, i64_w, i32_w]; rfl)
                            refine take_ (i := 15) (N := some 27) (v := ?_) (a' := ?_) impl_EditsOK.m16 rfl rfl (take_ofW HT_.out HW_.out (by kernel_rfl)) (fun _ _ _ h => h) (Or.inl ⟨by rfl, ?_⟩) hHeld ?_ ?_; rotate_left; (focus rintro w' ⟨s0, s1, s2, s3, s4, s5⟩; go_simp; with_reducible rfl); rotate_left; (focus simp only [pt, i64_w, i32_w]; rfl)
                            refine pure_ (i := 16) (N := some 28) (v := ?_) (a' := ?_) impl_EditsOK.m17 rfl rfl (any_of HT_.out (by kernel_rfl)) (fun _ _ _ h => h) (Or.inl ⟨by rfl, ?_⟩) ?_ ?_; rotate_left; (focus intro w'; go_simp; with_reducible rfl); rotate_left; (focus simp only [pt, i64_w, i32_w]; rfl)
                            refine pure_ (i := 17) (N := some 29) (v := ?_) (a' := ?_) impl_EditsOK.m18 rfl rfl (any_of HT_.out (by kernel_rfl)) (fun _ _ _ h => h) (Or.inl ⟨by rfl, ?_⟩) ?_ ?_; rotate_left; (focus intro w'; go_simp; with_reducible rfl); rotate_left; (focus simp only [pt, i64_w, i32_w]; rfl)
                            refine pure_ (i := 18) (N := some 30) (v := ?_) (a' := ?_) impl_EditsOK.m19 rfl rfl (any_of HT_.out (by kernel_rfl)) (fun _ _ _ h => h) (Or.inl ⟨by rfl, ?_⟩) ?_ ?_; rotate_left; (focus intro w'; go_simp; with_reducible rfl); rotate_left; (focus simp only [pt, i64_w, i32_w]; rfl)
                            refine pure_ (i := 19) (N := some 31) (v := ?_) (a' := ?_) impl_EditsOK.m20 rfl rfl (any_of HT_.out (by kernel_rfl)) (fun _ _ _ h => h) (Or.inl ⟨by rfl, ?_⟩) ?_ ?_; rotate_left; (focus intro w'; go_simp; with_reducible rfl); rotate_left; (focus simp only [pt, i64_w, i32_w]; rfl)
                            refine pure_ (i := 20) (N := some 32) (v := ?_) (a' := ?_) impl_EditsOK.m21 rfl rfl (any_of HT_.out (by kernel_rfl)) (fun _ _ _ h => h) (Or.inl ⟨by rfl, ?_⟩) ?_ ?_; rotate_left; (focus intro w'; go_simp; with_reducible rfl); rotate_left; (focus simp only [pt, i64_w, i32_w]; rfl)
                            refine pure_ (i := 21) (N := some 33) (v := ?_) (a' := ?_) impl_EditsOK.m22 rfl rfl (any_of HT_.out (by kernel_rfl)) (fun _ _ _ h => h) (Or.inl ⟨by rfl, ?_⟩) ?_ ?_; rotate_left; (focus intro w'; go_simp; with_reducible rfl); rotate_left; (focus simp only [pt, i64_w, i32_w]; rfl)
                            refine pure_ (i := 22) (N := some 34) (v := ?_) (a' := ?_) impl_EditsOK.m23 rfl rfl (any_of HT_.out (by kernel_rfl)) (fun _ _ _ h => h) (Or.inl ⟨by rfl, ?_⟩) ?_ ?_; rotate_left; (focus intro w'; go_simp; with_reducible rfl); rotate_left; (focus simp only [pt, i64_w, i32_w]; rfl)
                            refine pure_ (i := 23) (N := some 35) (v := ?_) (a' := ?_) impl_EditsOK.m24 rfl rfl (any_of HT_.out (by kernel_rfl)) (fun _ _ _ h => h) (Or.inl ⟨by rfl, ?_⟩) ?_ ?_; rotate_left; (focus intro w'; go_simp; with_reducible rfl); rotate_left; (focus simp only [pt, i64_w, i32_w]; rfl)
                            refine pure_ (i := 24) (N := some 36) (v := ?_) (a' := ?_) impl_EditsOK.m25 rfl rfl (any_of HT_.out (by kernel_rfl)) (fun _ _ _ h => h) (Or.inl ⟨by rfl, ?_⟩) ?_ ?_; rotate_left; (focus intro w'; go_simp; with_reducible rfl); rotate_left; (focus simp only [pt, i64_w, i32_w]; rfl)
                            refine pure_ (i := 25) (N := some 37) (v := ?_) (a' := ?_) impl_EditsOK.m26 rfl rfl (any_of HT_.out (by kernel_rfl)) (fun _ _ _ h => h) (Or.inl ⟨by rfl, ?_⟩) ?_ ?_; rotate_left; (focus intro w'; go_simp; with_reducible rfl); rotate_left; (focus simp only [pt, i64_w, i32_w]; rfl)
                            refine pure_ (i := 26) (N := some 38) (v := ?_) (a' := ?_) impl_EditsOK.m27 rfl rfl (any_of HT_.out (by kernel_rfl)) (fun _ _ _ h => h) (Or.inl ⟨by rfl, ?_⟩) ?_ ?_; rotate_left; (focus intro w'; go_simp; with_reducible rfl); rotate_left; (focus simp only [pt, i64_w, i32_w]; rfl)
                            refine pure_ (i := 27) (N := some 39) (v := ?_) (a' := ?_) impl_EditsOK.m28 rfl rfl (any_of HT_.out (by kernel_rfl)) (fun _ _ _ h => h) (Or.inl ⟨by rfl, ?_⟩) ?_ ?_; rotate_left; (focus intro w'; go_simp; with_reducible rfl); rotate_left; (focus simp only [pt, i64_w, i32_w]; rfl)
                            refine pure_ (i := 29) (N := some 41) (v := ?_) (a' := ?_) impl_EditsOK.m29 rfl rfl (any_of HT_.out (by kernel_rfl)) (fun _ _ _ h => h) (Or.inl ⟨by rfl, ?_⟩) ?_ ?_; rotate_left; (focus intro w'; go_simp; with_reducible rfl); rotate_left; (focus simp only [pt, i64_w, i32_w]; rfl)
                            refine take_ (i := 28) (N := some 40) (v := ?_) (a' := ?_) impl_EditsOK.m30 rfl rfl (take_ofW HT_.out HW_.out (by kernel_rfl)) (fun _ _ _ h => h) (Or.inl ⟨by rfl, ?_⟩) hHeld ?_ ?_; rotate_left; (focus rintro w' ⟨s0, s1, s2, s3, s4, s5⟩; go_simp; with_reducible rfl); rotate_left; (focus simp only [pt, i64_w, i32_w]; rfl)
                            refine take_ (i := 30) (N := some 42) (v := ?_) (a' := ?_) impl_EditsOK.m31 rfl rfl (take_ofW HT_.out HW_.out (by kernel_rfl)) (fun _ _ _ h => h) (Or.inl ⟨by rfl, ?_⟩) hHeld ?_ ?_; rotate_left; (focus rintro w' ⟨s0, s1, s2, s3, s4, s5⟩; go_simp; with_reducible rfl); rotate_left; (focus simp only [pt, i64_w, i32_w]; rfl)
                            refine pure_ (i := 31) (N := some 43) (v := ?_) (a' := ?_) impl_EditsOK.m32 rfl rfl (any_of HT_.out (by kernel_rfl)) (fun _ _ _ h => h) (Or.inl ⟨by rfl, ?_⟩) ?_ ?_; rotate_left; (focus intro w'; go_simp; with_reducible rfl); rotate_left; (focus simp only [pt, i64_w, i32_w]; rfl)
                            refine pure_ (i := 32) (N := some 44) (v := ?_) (a' := ?_) impl_EditsOK.m33 rfl rfl (any_of HT_.out (by kernel_rfl)) (fun _ _ _ h => h) (Or.inl ⟨by rfl, ?_⟩) ?_ ?_; rotate_left; (focus intro w'; go_simp; with_reducible rfl); rotate_left; (focus simp only [pt, i64_w, i32_w]; rfl)
                            refine pure_ (i := 33) (N := some 45) (v := ?_) (a' := ?_) impl_EditsOK.m34 rfl rfl (any_of HT_.out (by kernel_rfl)) (fun _ _ _ h => h) (Or.inl ⟨by rfl, ?_⟩) ?_ ?_; rotate_left; (focus intro w'; go_simp; with_reducible rfl); rotate_left; (focus simp only [pt, i64_w, i32_w]; rfl)
                            refine done_ (done_of HT_.out (by kernel_rfl)) ?_
                            try go_wp2
                            go_roundg k1
                            case measure => have := HK1.out; omega
                            case rel => exact ⟨(wrap64 (x7_1 + 1)), vE, H', ⟨by have := HK1.out; omega⟩, ⟨bW⟩⟩
                          · rw [if_neg c16] at H
                            have c16b0 : (Op.bytesLess (((rd_T119 l0 (ji13)).f0).toList) (((rd_T119 l0 x7_1).f0).toList)) = false := by simpa using c16
                            clear c16
                            obtain rfl := Option.some.inj H
                            have p423 : 0 ≤ (x7_1 : Int) := odt
                            have q423 : x7_1 < (l0.length : Int) := odt
                            obtain ⟨ad423, e423, hx423_0, hx423_1, hx423_2⟩ := at_T119 HR0.out x7_1 p423 q423
                            (try rw [← Nbq9.out] at hx423_2)
                            cases e423
                            replace hx423_0 := (HB.out.cell (World.block_lt_of_cell? w _ hx423_0)).trans hx423_0
                            replace hx423_1 := (HB.out.cell (World.block_lt_of_cell? w _ hx423_1)).trans hx423_1
                            replace hx423_2 := (HB.out.cell (World.block_lt_of_cell? w _ hx423_2)).trans hx423_2
                            replace p423 := eq_true p423
                            replace q423 := eq_true q423
                            try go_wp2_with (first | ((with_reducible refine gate_dst (N := 4) rfl ?_); refine bE (N := 4) (cs := #[.string (⟨#[]⟩ : ByteArray), .int .i64 0, .bool false]) (t := 119) ?_; intro gb424 hg w22 hbox hb; have n0_ := Aside0.mk (below_step (w := w) bW hb); have n1_ := Aside0.mk (hbox); have n2_ := Aside0.mk (gS (w := w) hg); have n3_ := n2_; clear HB; have HB := n0_; have BK424 := n1_; have GW424 := n2_; have GE424 := n3_; clear n0_ n1_ n2_ n3_; clear hb hbox hg; obtain ⟨hcz23_0, hcz23_1, hcz23_2⟩ := cz3 BK424; obtain ⟨hfz23_0, hfz23_1, hfz23_2⟩ := fz3 BK424))
                            have n0_ : Aside0 ((((w22.setCell ⟨gb424, 0, none⟩ (.string ((rd_T119 l0 x7_1).f0))).setCell ⟨gb424, 1, none⟩ (.int .i64 ((rd_T119 l0 x7_1).f1))).setCell ⟨gb424, 2, none⟩ (.bool true)).heap[gb424]? = some (.cells #[.string ((rd_T119 l0 x7_1).f0), .int .i64 ((rd_T119 l0 x7_1).f1), .bool true] 119 (0, 0))) := ⟨by (with_reducible repeat (first | refine blk_drewN ?_ _ | refine blk_drew ?_ | refine blk_alloc ?_ _)); refine blk_put (cs := #[.string ((rd_T119 l0 x7_1).f0), .int .i64 ((rd_T119 l0 x7_1).f1), .bool false]) ?_ 2 _ rfl; (with_reducible repeat (first | refine blk_drewN ?_ _ | refine blk_drew ?_ | refine blk_alloc ?_ _)); refine blk_put (cs := #[.string ((rd_T119 l0 x7_1).f0), .int .i64 0, .bool false]) ?_ 1 _ rfl; (with_reducible repeat (first | refine blk_drewN ?_ _ | refine blk_drew ?_ | refine blk_alloc ?_ _)); refine blk_put (cs := #[.string (⟨#[]⟩ : ByteArray), .int .i64 0, .bool false]) ?_ 0 _ rfl; (with_reducible repeat (first | refine blk_drewN ?_ _ | refine blk_drew ?_ | refine blk_alloc ?_ _)); exact BK424.out⟩
                            have n1_ : Aside0 (Below w.heap.size w (((w22.setCell ⟨gb424, 0, none⟩ (.string ((rd_T119 l0 x7_1).f0))).setCell ⟨gb424, 1, none⟩ (.int .i64 ((rd_T119 l0 x7_1).f1))).setCell ⟨gb424, 2, none⟩ (.bool true))) := ⟨bW⟩
                            (try clear BK424)
                            (try clear HB)
                            generalize (((w22.setCell ⟨gb424, 0, none⟩ (.string ((rd_T119 l0 x7_1).f0))).setCell ⟨gb424, 1, none⟩ (.int .i64 ((rd_T119 l0 x7_1).f1))).setCell ⟨gb424, 2, none⟩ (.bool true)) = w24 at n0_ n1_ ⊢
                            have BK424 := n0_
                            have HB := n1_
                            clear n0_ n1_
                            have n0_ := Aside0.mk (blk_drew BK424.out)
                            have n1_ := Aside0.mk (below_drew1 HB.out)
                            clear BK424
                            clear HB
                            have BK424 := n0_
                            have HB := n1_
                            clear n0_ n1_
                            have p427 : 0 ≤ ((ji13) : Int) := odt
                            have q427 : (ji13) < (l0.length : Int) := odt
                            obtain ⟨ad427, e427, hx427_0, hx427_1, hx427_2⟩ := at_T119 HR0.out (ji13) p427 q427
                            have hw427_2 := hx427_2
                            have hw427_1 := hx427_1
                            have hw427_0 := hx427_0
                            (try rw [← Nbq9.out] at hx427_2)
                            obtain rfl : ad423 = ad427 := (by injection e427)
                            replace hx427_0 := (HB.out.cell (World.block_lt_of_cell? w _ hx427_0)).trans hx427_0
                            replace hx427_1 := (HB.out.cell (World.block_lt_of_cell? w _ hx427_1)).trans hx427_1
                            replace hx427_2 := (HB.out.cell (World.block_lt_of_cell? w _ hx427_2)).trans hx427_2
                            replace p427 := eq_true p427
                            replace q427 := eq_true q427
                            refine start_ (n := 34) (S := fun w' => w'.cell? ⟨gb424, 0, none⟩ = some (.string ((rd_T119 l0 x7_1).f0)) ∧ w'.cell? ⟨gb424, 1, none⟩ = some (.int .i64 ((rd_T119 l0 x7_1).f1)) ∧ w'.cell? ⟨gb424, 2, none⟩ = some (.bool true) ∧ w'.cell? (ad423.add (((ji13)).toNat * 3)) = some (.string ((rd_T119 l0 (ji13)).f0)) ∧ w'.cell? ⟨(ad423.add (((ji13)).toNat * 3)).block, (ad423.add (((ji13)).toNat * 3)).off + 1, none⟩ = some (.int .i64 ((rd_T119 l0 (ji13)).f1)) ∧ w'.cell? ⟨(ad423.add (((ji13)).toNat * 3)).block, (ad423.add (((ji13)).toNat * 3)).off + 2, none⟩ = some (.bool ((rd_T119 l0 (ji13)).f2))) (ds := []) impl_EditsOK.m0 (by kernel_rfl) rfl rfl ⟨(blk_cell BK424.out 0).trans rfl, (blk_cell BK424.out 1).trans rfl, (blk_cell BK424.out 2).trans rfl, ((HB.out.cell (World.block_lt_of_cell? w _ hw427_0)).trans hw427_0), ((HB.out.cell (World.block_lt_of_cell? w _ hw427_1)).trans hw427_1), ((HB.out.cell (World.block_lt_of_cell? w _ hw427_2)).trans hw427_2)⟩ (fun hHeld => ?_); refine with_tabW impl_EditsOK.tab4 impl_EditsOK.bits4 (fun HT_ HW_ => ?_)
                            generalize w24.drew = w25 at BK424 HB hx427_0 hx427_1 hx427_2 hHeld ⊢
                            refine pure_ (i := 0) (N := some 12) (v := ?_) (a' := ?_) impl_EditsOK.m1 rfl rfl (any_of HT_.out (by kernel_rfl)) (fun _ _ _ h => h) (Or.inl ⟨by rfl, ?_⟩) ?_ ?_; rotate_left; (focus intro w'; go_simp; with_reducible rfl); rotate_left; (focus simp only [pt, i64_w, i32_w]; rfl)
                            refine take_ (i := 1) (N := some 13) (v := ?_) (a' := ?_) impl_EditsOK.m2 rfl rfl (take_ofW HT_.out HW_.out (by kernel_rfl)) (fun _ _ _ h => h) (Or.inl ⟨by rfl, ?_⟩) hHeld ?_ ?_; rotate_left; (focus rintro w' ⟨s0, s1, s2, s3, s4, s5⟩; go_simp; with_reducible rfl); rotate_left; (focus simp only [pt, i64_w, i32_w]; rfl)
                            refine one_ (i := 2) (N := some 14) impl_EditsOK.m3 rfl rfl (one_of HT_.out (by kernel_rfl)) (by decide) (fun K hK => ?_)
                            refine goes_ Try.func89 (by kernel_rfl) rfl #[.string ((rd_T119 l0 x7_1).f0)] (by rfl) rfl rfl gA ?_
                            with_reducible refine (impl_NameOK.calls ((rd_T119 l0 x7_1).f0) true _ A5.out).mono ?_
                            rintro e w26 ⟨rfl, hb⟩
                            refine ⟨_, rfl, ?_⟩
                            have n0_ := Aside0.mk (kb BK424 hb)
                            have n1_ := Aside0.mk (below_step (w := w) bW hb)
                            clear BK424
                            clear HB
                            have BK424 := n0_
                            have HB := n1_
                            clear n0_ n1_
                            (try clear hb)
                            (try clear hb2)
                            (try clear hk)
                            (try clear hi)
                            refine hK.out _ _ ⟨(blk_cell BK424.out 0).trans rfl, (blk_cell BK424.out 1).trans rfl, (blk_cell BK424.out 2).trans rfl, ((HB.out.cell (World.block_lt_of_cell? w _ hw427_0)).trans hw427_0), ((HB.out.cell (World.block_lt_of_cell? w _ hw427_1)).trans hw427_1), ((HB.out.cell (World.block_lt_of_cell? w _ hw427_2)).trans hw427_2)⟩ (fun hHeld => ?_)
                            clear hK K
                            refine norm_ (a' := ?_) ?_ ?_
                            rotate_left
                            · show Act.put _ (some 14) _ = _
                              simp only [Act.put, List.setIfInBounds_toArray, List.set_cons_zero, List.set_cons_succ, i64_w, i32_w]
                              rfl
                            refine pure_ (i := 3) (N := some 15) (v := ?_) (a' := ?_) impl_EditsOK.m4 rfl rfl (any_of HT_.out (by kernel_rfl)) (fun _ _ _ h => h) (Or.inl ⟨by rfl, ?_⟩) ?_ ?_; rotate_left; (focus intro w'; go_simp; with_reducible rfl); rotate_left; (focus simp only [pt, i64_w, i32_w]; rfl)
                            refine pure_ (i := 4) (N := some 16) (v := ?_) (a' := ?_) impl_EditsOK.m5 rfl rfl (any_of HT_.out (by kernel_rfl)) (fun _ _ _ h => h) (Or.inl ⟨by rfl, ?_⟩) ?_ ?_; rotate_left; (focus intro w'; go_simp; with_reducible rfl); rotate_left; (focus simp only [pt, i64_w, i32_w]; rfl)
                            refine pure_ (i := 5) (N := some 17) (v := ?_) (a' := ?_) impl_EditsOK.m6 rfl rfl (any_of HT_.out (by kernel_rfl)) (fun _ _ _ h => h) (Or.inl ⟨by rfl, ?_⟩) ?_ ?_; rotate_left; (focus intro w'; go_simp; with_reducible rfl); rotate_left; (focus simp only [pt, i64_w, i32_w]; rfl)
                            refine take_ (i := 6) (N := some 18) (v := ?_) (a' := ?_) impl_EditsOK.m7 rfl rfl (take_ofW HT_.out HW_.out (by kernel_rfl)) (fun _ _ _ h => h) (Or.inl ⟨by rfl, ?_⟩) hHeld ?_ ?_; rotate_left; (focus rintro w' ⟨s0, s1, s2, s3, s4, s5⟩; go_simp; with_reducible rfl); rotate_left; (focus simp only [pt, i64_w, i32_w]; rfl)
                            refine one_ (i := 7) (N := some 19) impl_EditsOK.m8 rfl rfl (one_of HT_.out (by kernel_rfl)) (by decide) (fun K hK => ?_)
                            refine goes_ Try.func94 (by kernel_rfl) rfl #[.int .i64 ((rd_T119 l0 x7_1).f1)] (by rfl) rfl rfl gA ?_
                            with_reducible refine (impl_isValue.calls ((rd_T119 l0 x7_1).f1) true _ A7.out).mono ?_
                            rintro e w' ⟨rfl, ⟨nd, rfl⟩⟩
                            refine ⟨_, rfl, ?_⟩
                            refine hK.out _ _ ⟨(blk_cell BK424.out 0).trans rfl, (blk_cell BK424.out 1).trans rfl, (blk_cell BK424.out 2).trans rfl, ((HB.out.cell (World.block_lt_of_cell? w _ hw427_0)).trans hw427_0), ((HB.out.cell (World.block_lt_of_cell? w _ hw427_1)).trans hw427_1), ((HB.out.cell (World.block_lt_of_cell? w _ hw427_2)).trans hw427_2)⟩ (fun hHeld => ?_)
                            clear hK K
                            refine norm_ (a' := ?_) ?_ ?_
                            rotate_left
                            · show Act.put _ (some 19) _ = _
                              simp only [Act.put, List.setIfInBounds_toArray, List.set_cons_zero, List.set_cons_succ, i64_w, i32_w]
                              rfl
                            refine pure_ (i := 8) (N := some 20) (v := ?_) (a' := ?_) impl_EditsOK.m9 rfl rfl (any_of HT_.out (by kernel_rfl)) (fun _ _ _ h => h) (Or.inl ⟨by rfl, ?_⟩) ?_ ?_; rotate_left; (focus intro w'; go_simp; with_reducible rfl); rotate_left; (focus simp only [pt, i64_w, i32_w]; rfl)
                            refine pure_ (i := 9) (N := some 21) (v := ?_) (a' := ?_) impl_EditsOK.m10 rfl rfl (any_of HT_.out (by kernel_rfl)) (fun _ _ _ h => h) (Or.inl ⟨by rfl, ?_⟩) ?_ ?_; rotate_left; (focus intro w'; go_simp; with_reducible rfl); rotate_left; (focus simp only [pt, i64_w, i32_w]; rfl)
                            refine pure_ (i := 10) (N := some 22) (v := ?_) (a' := ?_) impl_EditsOK.m11 rfl rfl (any_of HT_.out (by kernel_rfl)) (fun _ _ _ h => h) (Or.inl ⟨by rfl, ?_⟩) ?_ ?_; rotate_left; (focus intro w'; go_simp; with_reducible rfl); rotate_left; (focus simp only [pt, i64_w, i32_w]; rfl)
                            refine pure_ (i := 11) (N := some 23) (v := ?_) (a' := ?_) impl_EditsOK.m12 rfl rfl (any_of HT_.out (by kernel_rfl)) (fun _ _ _ h => h) (Or.inl ⟨by rfl, ?_⟩) ?_ ?_; rotate_left; (focus intro w'; go_simp; with_reducible rfl); rotate_left; (focus simp only [pt, i64_w, i32_w]; rfl)
                            refine take_ (i := 12) (N := some 24) (v := ?_) (a' := ?_) impl_EditsOK.m13 rfl rfl (take_ofW HT_.out HW_.out (by kernel_rfl)) (fun _ _ _ h => h) (Or.inl ⟨by rfl, ?_⟩) hHeld ?_ ?_; rotate_left; (focus rintro w' ⟨s0, s1, s2, s3, s4, s5⟩; go_simp; with_reducible rfl); rotate_left; (focus simp only [pt, i64_w, i32_w]; rfl)
                            refine pure_ (i := 13) (N := some 25) (v := ?_) (a' := ?_) impl_EditsOK.m14 rfl rfl (any_of HT_.out (by kernel_rfl)) (fun _ _ _ h => h) (Or.inl ⟨by rfl, ?_⟩) ?_ ?_; rotate_left; (focus intro w'; go_simp; with_reducible rfl); rotate_left; (focus simp only [pt, i64_w, i32_w]; rfl)
                            refine pure_ (i := 14) (N := some 26) (v := ?_) (a' := ?_) impl_EditsOK.m15 rfl rfl (any_of HT_.out (by kernel_rfl)) (fun _ _ _ h => h) (Or.inl ⟨by rfl, ?_⟩) ?_ ?_; rotate_left; (focus intro w'; go_simp; with_reducible rfl); rotate_left; (focus simp only [pt, i64_w, i32_w]; rfl)
                            refine take_ (i := 15) (N := some 27) (v := ?_) (a' := ?_) impl_EditsOK.m16 rfl rfl (take_ofW HT_.out HW_.out (by kernel_rfl)) (fun _ _ _ h => h) (Or.inl ⟨by rfl, ?_⟩) hHeld ?_ ?_; rotate_left; (focus rintro w' ⟨s0, s1, s2, s3, s4, s5⟩; go_simp; with_reducible rfl); rotate_left; (focus simp only [pt, i64_w, i32_w]; rfl)
                            refine pure_ (i := 16) (N := some 28) (v := ?_) (a' := ?_) impl_EditsOK.m17 rfl rfl (any_of HT_.out (by kernel_rfl)) (fun _ _ _ h => h) (Or.inl ⟨by rfl, ?_⟩) ?_ ?_; rotate_left; (focus intro w'; go_simp; with_reducible rfl); rotate_left; (focus simp only [pt, i64_w, i32_w]; rfl)
                            refine pure_ (i := 17) (N := some 29) (v := ?_) (a' := ?_) impl_EditsOK.m18 rfl rfl (any_of HT_.out (by kernel_rfl)) (fun _ _ _ h => h) (Or.inl ⟨by rfl, ?_⟩) ?_ ?_; rotate_left; (focus intro w'; go_simp; with_reducible rfl); rotate_left; (focus simp only [pt, i64_w, i32_w]; rfl)
                            refine pure_ (i := 18) (N := some 30) (v := ?_) (a' := ?_) impl_EditsOK.m19 rfl rfl (any_of HT_.out (by kernel_rfl)) (fun _ _ _ h => h) (Or.inl ⟨by rfl, ?_⟩) ?_ ?_; rotate_left; (focus intro w'; go_simp; with_reducible rfl); rotate_left; (focus simp only [pt, i64_w, i32_w]; rfl)
                            refine pure_ (i := 19) (N := some 31) (v := ?_) (a' := ?_) impl_EditsOK.m20 rfl rfl (any_of HT_.out (by kernel_rfl)) (fun _ _ _ h => h) (Or.inl ⟨by rfl, ?_⟩) ?_ ?_; rotate_left; (focus intro w'; go_simp; with_reducible rfl); rotate_left; (focus simp only [pt, i64_w, i32_w]; rfl)
                            refine pure_ (i := 20) (N := some 32) (v := ?_) (a' := ?_) impl_EditsOK.m21 rfl rfl (any_of HT_.out (by kernel_rfl)) (fun _ _ _ h => h) (Or.inl ⟨by rfl, ?_⟩) ?_ ?_; rotate_left; (focus intro w'; go_simp; with_reducible rfl); rotate_left; (focus simp only [pt, i64_w, i32_w]; rfl)
                            refine pure_ (i := 21) (N := some 33) (v := ?_) (a' := ?_) impl_EditsOK.m22 rfl rfl (any_of HT_.out (by kernel_rfl)) (fun _ _ _ h => h) (Or.inl ⟨by rfl, ?_⟩) ?_ ?_; rotate_left; (focus intro w'; go_simp; with_reducible rfl); rotate_left; (focus simp only [pt, i64_w, i32_w]; rfl)
                            refine pure_ (i := 22) (N := some 34) (v := ?_) (a' := ?_) impl_EditsOK.m23 rfl rfl (any_of HT_.out (by kernel_rfl)) (fun _ _ _ h => h) (Or.inl ⟨by rfl, ?_⟩) ?_ ?_; rotate_left; (focus intro w'; go_simp; with_reducible rfl); rotate_left; (focus simp only [pt, i64_w, i32_w]; rfl)
                            refine pure_ (i := 23) (N := some 35) (v := ?_) (a' := ?_) impl_EditsOK.m24 rfl rfl (any_of HT_.out (by kernel_rfl)) (fun _ _ _ h => h) (Or.inl ⟨by rfl, ?_⟩) ?_ ?_; rotate_left; (focus intro w'; go_simp; with_reducible rfl); rotate_left; (focus simp only [pt, i64_w, i32_w]; rfl)
                            refine pure_ (i := 24) (N := some 36) (v := ?_) (a' := ?_) impl_EditsOK.m25 rfl rfl (any_of HT_.out (by kernel_rfl)) (fun _ _ _ h => h) (Or.inl ⟨by rfl, ?_⟩) ?_ ?_; rotate_left; (focus intro w'; go_simp; with_reducible rfl); rotate_left; (focus simp only [pt, i64_w, i32_w]; rfl)
                            refine pure_ (i := 25) (N := some 37) (v := ?_) (a' := ?_) impl_EditsOK.m26 rfl rfl (any_of HT_.out (by kernel_rfl)) (fun _ _ _ h => h) (Or.inl ⟨by rfl, ?_⟩) ?_ ?_; rotate_left; (focus intro w'; go_simp; with_reducible rfl); rotate_left; (focus simp only [pt, i64_w, i32_w]; rfl)
                            refine pure_ (i := 26) (N := some 38) (v := ?_) (a' := ?_) impl_EditsOK.m27 rfl rfl (any_of HT_.out (by kernel_rfl)) (fun _ _ _ h => h) (Or.inl ⟨by rfl, ?_⟩) ?_ ?_; rotate_left; (focus intro w'; go_simp; with_reducible rfl); rotate_left; (focus simp only [pt, i64_w, i32_w]; rfl)
                            refine pure_ (i := 27) (N := some 39) (v := ?_) (a' := ?_) impl_EditsOK.m28 rfl rfl (any_of HT_.out (by kernel_rfl)) (fun _ _ _ h => h) (Or.inl ⟨by rfl, ?_⟩) ?_ ?_; rotate_left; (focus intro w'; go_simp; with_reducible rfl); rotate_left; (focus simp only [pt, i64_w, i32_w]; rfl)
                            refine pure_ (i := 29) (N := some 41) (v := ?_) (a' := ?_) impl_EditsOK.m29 rfl rfl (any_of HT_.out (by kernel_rfl)) (fun _ _ _ h => h) (Or.inl ⟨by rfl, ?_⟩) ?_ ?_; rotate_left; (focus intro w'; go_simp; with_reducible rfl); rotate_left; (focus simp only [pt, i64_w, i32_w]; rfl)
                            refine take_ (i := 28) (N := some 40) (v := ?_) (a' := ?_) impl_EditsOK.m30 rfl rfl (take_ofW HT_.out HW_.out (by kernel_rfl)) (fun _ _ _ h => h) (Or.inl ⟨by rfl, ?_⟩) hHeld ?_ ?_; rotate_left; (focus rintro w' ⟨s0, s1, s2, s3, s4, s5⟩; go_simp; with_reducible rfl); rotate_left; (focus simp only [pt, i64_w, i32_w]; rfl)
                            refine take_ (i := 30) (N := some 42) (v := ?_) (a' := ?_) impl_EditsOK.m31 rfl rfl (take_ofW HT_.out HW_.out (by kernel_rfl)) (fun _ _ _ h => h) (Or.inl ⟨by rfl, ?_⟩) hHeld ?_ ?_; rotate_left; (focus rintro w' ⟨s0, s1, s2, s3, s4, s5⟩; go_simp; with_reducible rfl); rotate_left; (focus simp only [pt, i64_w, i32_w]; rfl)
                            refine pure_ (i := 31) (N := some 43) (v := ?_) (a' := ?_) impl_EditsOK.m32 rfl rfl (any_of HT_.out (by kernel_rfl)) (fun _ _ _ h => h) (Or.inl ⟨by rfl, ?_⟩) ?_ ?_; rotate_left; (focus intro w'; go_simp; with_reducible rfl); rotate_left; (focus simp only [pt, i64_w, i32_w]; rfl)
                            refine pure_ (i := 32) (N := some 44) (v := ?_) (a' := ?_) impl_EditsOK.m33 rfl rfl (any_of HT_.out (by kernel_rfl)) (fun _ _ _ h => h) (Or.inl ⟨by rfl, ?_⟩) ?_ ?_; rotate_left; (focus intro w'; go_simp; with_reducible rfl); rotate_left; (focus simp only [pt, i64_w, i32_w]; rfl)
                            refine pure_ (i := 33) (N := some 45) (v := ?_) (a' := ?_) impl_EditsOK.m34 rfl rfl (any_of HT_.out (by kernel_rfl)) (fun _ _ _ h => h) (Or.inl ⟨by rfl, ?_⟩) ?_ ?_; rotate_left; (focus intro w'; go_simp; with_reducible rfl); rotate_left; (focus simp only [pt, i64_w, i32_w]; rfl)
                            refine done_ (done_of HT_.out (by kernel_rfl)) ?_
                            try go_wp2
                            go_ret
                            exact ⟨by first | rfl | (simp [errW_none, errW_some] <;> rfl) | (simp only [← hji13]; first | rfl | (simp [errW_none, errW_some] <;> rfl)) | (simp [*, errW_none, errW_some] <;> rfl), bW⟩
                        · rw [if_neg c15] at H
                          exact absurd H (by simp)
                      · rw [if_neg c14] at H
                        exact absurd H (by simp)
                    · rw [if_neg c12] at H
                      have c12b0 : decide (0 < x7_1) = false := decide_eq_false c12
                      clear c12
                      have H' := Aside0.mk H
                      clear H
                      have p423 : 0 ≤ (x7_1 : Int) := odt
                      have q423 : x7_1 < (l0.length : Int) := odt
                      obtain ⟨ad423, e423, hx423_0, hx423_1, hx423_2⟩ := at_T119 HR0.out x7_1 p423 q423
                      (try rw [← Nbq9.out] at hx423_2)
                      cases e423
                      replace hx423_0 := (HB.out.cell (World.block_lt_of_cell? w _ hx423_0)).trans hx423_0
                      replace hx423_1 := (HB.out.cell (World.block_lt_of_cell? w _ hx423_1)).trans hx423_1
                      replace hx423_2 := (HB.out.cell (World.block_lt_of_cell? w _ hx423_2)).trans hx423_2
                      replace p423 := eq_true p423
                      replace q423 := eq_true q423
                      try go_wp2_with (first | ((with_reducible refine gate_dst (N := 4) rfl ?_); refine bE (N := 4) (cs := #[.string (⟨#[]⟩ : ByteArray), .int .i64 0, .bool false]) (t := 119) ?_; intro gb424 hg w27 hbox hb; have n0_ := Aside0.mk (below_step (w := w) bW hb); have n1_ := Aside0.mk (hbox); have n2_ := Aside0.mk (gS (w := w) hg); have n3_ := n2_; clear HB; have HB := n0_; have BK424 := n1_; have GW424 := n2_; have GE424 := n3_; clear n0_ n1_ n2_ n3_; clear hb hbox hg; obtain ⟨hcz28_0, hcz28_1, hcz28_2⟩ := cz3 BK424; obtain ⟨hfz28_0, hfz28_1, hfz28_2⟩ := fz3 BK424))
                      have n0_ : Aside0 ((((w27.setCell ⟨gb424, 0, none⟩ (.string ((rd_T119 l0 x7_1).f0))).setCell ⟨gb424, 1, none⟩ (.int .i64 ((rd_T119 l0 x7_1).f1))).setCell ⟨gb424, 2, none⟩ (.bool true)).heap[gb424]? = some (.cells #[.string ((rd_T119 l0 x7_1).f0), .int .i64 ((rd_T119 l0 x7_1).f1), .bool true] 119 (0, 0))) := ⟨by (with_reducible repeat (first | refine blk_drewN ?_ _ | refine blk_drew ?_ | refine blk_alloc ?_ _)); refine blk_put (cs := #[.string ((rd_T119 l0 x7_1).f0), .int .i64 ((rd_T119 l0 x7_1).f1), .bool false]) ?_ 2 _ rfl; (with_reducible repeat (first | refine blk_drewN ?_ _ | refine blk_drew ?_ | refine blk_alloc ?_ _)); refine blk_put (cs := #[.string ((rd_T119 l0 x7_1).f0), .int .i64 0, .bool false]) ?_ 1 _ rfl; (with_reducible repeat (first | refine blk_drewN ?_ _ | refine blk_drew ?_ | refine blk_alloc ?_ _)); refine blk_put (cs := #[.string (⟨#[]⟩ : ByteArray), .int .i64 0, .bool false]) ?_ 0 _ rfl; (with_reducible repeat (first | refine blk_drewN ?_ _ | refine blk_drew ?_ | refine blk_alloc ?_ _)); exact BK424.out⟩
                      have n1_ : Aside0 (Below w.heap.size w (((w27.setCell ⟨gb424, 0, none⟩ (.string ((rd_T119 l0 x7_1).f0))).setCell ⟨gb424, 1, none⟩ (.int .i64 ((rd_T119 l0 x7_1).f1))).setCell ⟨gb424, 2, none⟩ (.bool true))) := ⟨bW⟩
                      (try clear BK424)
                      (try clear HB)
                      generalize (((w27.setCell ⟨gb424, 0, none⟩ (.string ((rd_T119 l0 x7_1).f0))).setCell ⟨gb424, 1, none⟩ (.int .i64 ((rd_T119 l0 x7_1).f1))).setCell ⟨gb424, 2, none⟩ (.bool true)) = w29 at n0_ n1_ ⊢
                      have BK424 := n0_
                      have HB := n1_
                      clear n0_ n1_
                      have n0_ := Aside0.mk (blk_drew BK424.out)
                      have n1_ := Aside0.mk (below_drew1 HB.out)
                      clear BK424
                      clear HB
                      have BK424 := n0_
                      have HB := n1_
                      clear n0_ n1_
                      refine start_ (n := 34) (S := fun w' => w'.cell? ⟨gb424, 0, none⟩ = some (.string ((rd_T119 l0 x7_1).f0)) ∧ w'.cell? ⟨gb424, 1, none⟩ = some (.int .i64 ((rd_T119 l0 x7_1).f1)) ∧ w'.cell? ⟨gb424, 2, none⟩ = some (.bool true)) (ds := []) impl_EditsOK.m0 (by kernel_rfl) rfl rfl ⟨(blk_cell BK424.out 0).trans rfl, (blk_cell BK424.out 1).trans rfl, (blk_cell BK424.out 2).trans rfl⟩ (fun hHeld => ?_); refine with_tabW impl_EditsOK.tab4 impl_EditsOK.bits4 (fun HT_ HW_ => ?_)
                      generalize w29.drew = w30 at BK424 HB hHeld ⊢
                      refine pure_ (i := 0) (N := some 12) (v := ?_) (a' := ?_) impl_EditsOK.m1 rfl rfl (any_of HT_.out (by kernel_rfl)) (fun _ _ _ h => h) (Or.inl ⟨by rfl, ?_⟩) ?_ ?_; rotate_left; (focus intro w'; go_simp; with_reducible rfl); rotate_left; (focus simp only [pt, i64_w, i32_w]; rfl)
                      refine take_ (i := 1) (N := some 13) (v := ?_) (a' := ?_) impl_EditsOK.m2 rfl rfl (take_ofW HT_.out HW_.out (by kernel_rfl)) (fun _ _ _ h => h) (Or.inl ⟨by rfl, ?_⟩) hHeld ?_ ?_; rotate_left; (focus rintro w' ⟨s0, s1, s2⟩; go_simp; with_reducible rfl); rotate_left; (focus simp only [pt, i64_w, i32_w]; rfl)
                      refine one_ (i := 2) (N := some 14) impl_EditsOK.m3 rfl rfl (one_of HT_.out (by kernel_rfl)) (by decide) (fun K hK => ?_)
                      refine goes_ Try.func89 (by kernel_rfl) rfl #[.string ((rd_T119 l0 x7_1).f0)] (by rfl) rfl rfl gA ?_
                      with_reducible refine (impl_NameOK.calls ((rd_T119 l0 x7_1).f0) true _ A5.out).mono ?_
                      rintro e w31 ⟨rfl, hb⟩
                      refine ⟨_, rfl, ?_⟩
                      have n0_ := Aside0.mk (kb BK424 hb)
                      have n1_ := Aside0.mk (below_step (w := w) bW hb)
                      clear BK424
                      clear HB
                      have BK424 := n0_
                      have HB := n1_
                      clear n0_ n1_
                      (try clear hb)
                      (try clear hb2)
                      (try clear hk)
                      (try clear hi)
                      refine hK.out _ _ ⟨(blk_cell BK424.out 0).trans rfl, (blk_cell BK424.out 1).trans rfl, (blk_cell BK424.out 2).trans rfl⟩ (fun hHeld => ?_)
                      clear hK K
                      refine norm_ (a' := ?_) ?_ ?_
                      rotate_left
                      · show Act.put _ (some 14) _ = _
                        simp only [Act.put, List.setIfInBounds_toArray, List.set_cons_zero, List.set_cons_succ, i64_w, i32_w]
                        rfl
                      refine pure_ (i := 3) (N := some 15) (v := ?_) (a' := ?_) impl_EditsOK.m4 rfl rfl (any_of HT_.out (by kernel_rfl)) (fun _ _ _ h => h) (Or.inl ⟨by rfl, ?_⟩) ?_ ?_; rotate_left; (focus intro w'; go_simp; with_reducible rfl); rotate_left; (focus simp only [pt, i64_w, i32_w]; rfl)
                      refine pure_ (i := 4) (N := some 16) (v := ?_) (a' := ?_) impl_EditsOK.m5 rfl rfl (any_of HT_.out (by kernel_rfl)) (fun _ _ _ h => h) (Or.inl ⟨by rfl, ?_⟩) ?_ ?_; rotate_left; (focus intro w'; go_simp; with_reducible rfl); rotate_left; (focus simp only [pt, i64_w, i32_w]; rfl)
                      refine pure_ (i := 5) (N := some 17) (v := ?_) (a' := ?_) impl_EditsOK.m6 rfl rfl (any_of HT_.out (by kernel_rfl)) (fun _ _ _ h => h) (Or.inl ⟨by rfl, ?_⟩) ?_ ?_; rotate_left; (focus intro w'; go_simp; with_reducible rfl); rotate_left; (focus simp only [pt, i64_w, i32_w]; rfl)
                      refine take_ (i := 6) (N := some 18) (v := ?_) (a' := ?_) impl_EditsOK.m7 rfl rfl (take_ofW HT_.out HW_.out (by kernel_rfl)) (fun _ _ _ h => h) (Or.inl ⟨by rfl, ?_⟩) hHeld ?_ ?_; rotate_left; (focus rintro w' ⟨s0, s1, s2⟩; go_simp; with_reducible rfl); rotate_left; (focus simp only [pt, i64_w, i32_w]; rfl)
                      refine one_ (i := 7) (N := some 19) impl_EditsOK.m8 rfl rfl (one_of HT_.out (by kernel_rfl)) (by decide) (fun K hK => ?_)
                      refine goes_ Try.func94 (by kernel_rfl) rfl #[.int .i64 ((rd_T119 l0 x7_1).f1)] (by rfl) rfl rfl gA ?_
                      with_reducible refine (impl_isValue.calls ((rd_T119 l0 x7_1).f1) true _ A7.out).mono ?_
                      rintro e w' ⟨rfl, ⟨nd, rfl⟩⟩
                      refine ⟨_, rfl, ?_⟩
                      refine hK.out _ _ ⟨(blk_cell BK424.out 0).trans rfl, (blk_cell BK424.out 1).trans rfl, (blk_cell BK424.out 2).trans rfl⟩ (fun hHeld => ?_)
                      clear hK K
                      refine norm_ (a' := ?_) ?_ ?_
                      rotate_left
                      · show Act.put _ (some 19) _ = _
                        simp only [Act.put, List.setIfInBounds_toArray, List.set_cons_zero, List.set_cons_succ, i64_w, i32_w]
                        rfl
                      refine pure_ (i := 8) (N := some 20) (v := ?_) (a' := ?_) impl_EditsOK.m9 rfl rfl (any_of HT_.out (by kernel_rfl)) (fun _ _ _ h => h) (Or.inl ⟨by rfl, ?_⟩) ?_ ?_; rotate_left; (focus intro w'; go_simp; with_reducible rfl); rotate_left; (focus simp only [pt, i64_w, i32_w]; rfl)
                      refine pure_ (i := 9) (N := some 21) (v := ?_) (a' := ?_) impl_EditsOK.m10 rfl rfl (any_of HT_.out (by kernel_rfl)) (fun _ _ _ h => h) (Or.inl ⟨by rfl, ?_⟩) ?_ ?_; rotate_left; (focus intro w'; go_simp; with_reducible rfl); rotate_left; (focus simp only [pt, i64_w, i32_w]; rfl)
                      refine pure_ (i := 10) (N := some 22) (v := ?_) (a' := ?_) impl_EditsOK.m11 rfl rfl (any_of HT_.out (by kernel_rfl)) (fun _ _ _ h => h) (Or.inl ⟨by rfl, ?_⟩) ?_ ?_; rotate_left; (focus intro w'; go_simp; with_reducible rfl); rotate_left; (focus simp only [pt, i64_w, i32_w]; rfl)
                      refine pure_ (i := 11) (N := some 23) (v := ?_) (a' := ?_) impl_EditsOK.m12 rfl rfl (any_of HT_.out (by kernel_rfl)) (fun _ _ _ h => h) (Or.inl ⟨by rfl, ?_⟩) ?_ ?_; rotate_left; (focus intro w'; go_simp; with_reducible rfl); rotate_left; (focus simp only [pt, i64_w, i32_w]; rfl)
                      refine take_ (i := 12) (N := some 24) (v := ?_) (a' := ?_) impl_EditsOK.m13 rfl rfl (take_ofW HT_.out HW_.out (by kernel_rfl)) (fun _ _ _ h => h) (Or.inl ⟨by rfl, ?_⟩) hHeld ?_ ?_; rotate_left; (focus rintro w' ⟨s0, s1, s2⟩; go_simp; with_reducible rfl); rotate_left; (focus simp only [pt, i64_w, i32_w]; rfl)
                      refine pure_ (i := 13) (N := some 25) (v := ?_) (a' := ?_) impl_EditsOK.m14 rfl rfl (any_of HT_.out (by kernel_rfl)) (fun _ _ _ h => h) (Or.inl ⟨by rfl, ?_⟩) ?_ ?_; rotate_left; (focus intro w'; go_simp; with_reducible rfl); rotate_left; (focus simp only [pt, i64_w, i32_w]; rfl)
                      refine pure_ (i := 14) (N := some 26) (v := ?_) (a' := ?_) impl_EditsOK.m15 rfl rfl (any_of HT_.out (by kernel_rfl)) (fun _ _ _ h => h) (Or.inl ⟨by rfl, ?_⟩) ?_ ?_; rotate_left; (focus intro w'; go_simp; with_reducible rfl); rotate_left; (focus simp only [pt, i64_w, i32_w]; rfl)
                      refine take_ (i := 15) (N := some 27) (v := ?_) (a' := ?_) impl_EditsOK.m16 rfl rfl (take_ofW HT_.out HW_.out (by kernel_rfl)) (fun _ _ _ h => h) (Or.inl ⟨by rfl, ?_⟩) hHeld ?_ ?_; rotate_left; (focus rintro w' ⟨s0, s1, s2⟩; go_simp; with_reducible rfl); rotate_left; (focus simp only [pt, i64_w, i32_w]; rfl)
                      refine pure_ (i := 16) (N := some 28) (v := ?_) (a' := ?_) impl_EditsOK.m17 rfl rfl (any_of HT_.out (by kernel_rfl)) (fun _ _ _ h => h) (Or.inl ⟨by rfl, ?_⟩) ?_ ?_; rotate_left; (focus intro w'; go_simp; with_reducible rfl); rotate_left; (focus simp only [pt, i64_w, i32_w]; rfl)
                      refine pure_ (i := 17) (N := some 29) (v := ?_) (a' := ?_) impl_EditsOK.m18 rfl rfl (any_of HT_.out (by kernel_rfl)) (fun _ _ _ h => h) (Or.inl ⟨by rfl, ?_⟩) ?_ ?_; rotate_left; (focus intro w'; go_simp; with_reducible rfl); rotate_left; (focus simp only [pt, i64_w, i32_w]; rfl)
                      refine pure_ (i := 18) (N := some 30) (v := ?_) (a' := ?_) impl_EditsOK.m19 rfl rfl (any_of HT_.out (by kernel_rfl)) (fun _ _ _ h => h) (Or.inl ⟨by rfl, ?_⟩) ?_ ?_; rotate_left; (focus intro w'; go_simp; with_reducible rfl); rotate_left; (focus simp only [pt, i64_w, i32_w]; rfl)
                      refine pure_ (i := 19) (N := some 31) (v := ?_) (a' := ?_) impl_EditsOK.m20 rfl rfl (any_of HT_.out (by kernel_rfl)) (fun _ _ _ h => h) (Or.inl ⟨by rfl, ?_⟩) ?_ ?_; rotate_left; (focus intro w'; go_simp; with_reducible rfl); rotate_left; (focus simp only [pt, i64_w, i32_w]; rfl)
                      refine pure_ (i := 20) (N := some 32) (v := ?_) (a' := ?_) impl_EditsOK.m21 rfl rfl (any_of HT_.out (by kernel_rfl)) (fun _ _ _ h => h) (Or.inl ⟨by rfl, ?_⟩) ?_ ?_; rotate_left; (focus intro w'; go_simp; with_reducible rfl); rotate_left; (focus simp only [pt, i64_w, i32_w]; rfl)
                      refine pure_ (i := 21) (N := some 33) (v := ?_) (a' := ?_) impl_EditsOK.m22 rfl rfl (any_of HT_.out (by kernel_rfl)) (fun _ _ _ h => h) (Or.inl ⟨by rfl, ?_⟩) ?_ ?_; rotate_left; (focus intro w'; go_simp; with_reducible rfl); rotate_left; (focus simp only [pt, i64_w, i32_w]; rfl)
                      refine pure_ (i := 22) (N := some 34) (v := ?_) (a' := ?_) impl_EditsOK.m23 rfl rfl (any_of HT_.out (by kernel_rfl)) (fun _ _ _ h => h) (Or.inl ⟨by rfl, ?_⟩) ?_ ?_; rotate_left; (focus intro w'; go_simp; with_reducible rfl); rotate_left; (focus simp only [pt, i64_w, i32_w]; rfl)
                      refine pure_ (i := 23) (N := some 35) (v := undef) (a' := ?_) impl_EditsOK.m24 rfl rfl (any_of HT_.out (by kernel_rfl)) (fun _ _ _ h => h) (Or.inr ⟨by rfl, rfl⟩) ?_ ?_; rotate_left; (focus simp only [pt, i64_w, i32_w]; rfl)
                      refine pure_ (i := 24) (N := some 36) (v := undef) (a' := ?_) impl_EditsOK.m25 rfl rfl (any_of HT_.out (by kernel_rfl)) (fun _ _ _ h => h) (Or.inr ⟨by rfl, rfl⟩) ?_ ?_; rotate_left; (focus simp only [pt, i64_w, i32_w]; rfl)
                      refine pure_ (i := 25) (N := some 37) (v := undef) (a' := ?_) impl_EditsOK.m26 rfl rfl (any_of HT_.out (by kernel_rfl)) (fun _ _ _ h => h) (Or.inr ⟨by rfl, rfl⟩) ?_ ?_; rotate_left; (focus simp only [pt, i64_w, i32_w]; rfl)
                      refine pure_ (i := 26) (N := some 38) (v := undef) (a' := ?_) impl_EditsOK.m27 rfl rfl (any_of HT_.out (by kernel_rfl)) (fun _ _ _ h => h) (Or.inr ⟨by rfl, rfl⟩) ?_ ?_; rotate_left; (focus simp only [pt, i64_w, i32_w]; rfl)
                      refine pure_ (i := 27) (N := some 39) (v := undef) (a' := ?_) impl_EditsOK.m28 rfl rfl (any_of HT_.out (by kernel_rfl)) (fun _ _ _ h => h) (Or.inr ⟨by rfl, rfl⟩) ?_ ?_; rotate_left; (focus simp only [pt, i64_w, i32_w]; rfl)
                      refine pure_ (i := 28) (N := some 40) (v := undef) (a' := ?_) impl_EditsOK.m35 rfl rfl (any_of HT_.out (by kernel_rfl)) (fun _ _ _ h => h) (Or.inr ⟨by rfl, rfl⟩) ?_ ?_; rotate_left; (focus simp only [pt, i64_w, i32_w]; rfl)
                      refine pure_ (i := 29) (N := some 41) (v := undef) (a' := ?_) impl_EditsOK.m30 rfl rfl (any_of HT_.out (by kernel_rfl)) (fun _ _ _ h => h) (Or.inr ⟨by rfl, rfl⟩) ?_ ?_; rotate_left; (focus simp only [pt, i64_w, i32_w]; rfl)
                      refine pure_ (i := 30) (N := some 42) (v := undef) (a' := ?_) impl_EditsOK.m31 rfl rfl (any_of HT_.out (by kernel_rfl)) (fun _ _ _ h => h) (Or.inr ⟨by rfl, rfl⟩) ?_ ?_; rotate_left; (focus simp only [pt, i64_w, i32_w]; rfl)
                      refine pure_ (i := 31) (N := some 43) (v := undef) (a' := ?_) impl_EditsOK.m32 rfl rfl (any_of HT_.out (by kernel_rfl)) (fun _ _ _ h => h) (Or.inr ⟨by rfl, rfl⟩) ?_ ?_; rotate_left; (focus simp only [pt, i64_w, i32_w]; rfl)
                      refine pure_ (i := 32) (N := some 44) (v := ?_) (a' := ?_) impl_EditsOK.m33 rfl rfl (any_of HT_.out (by kernel_rfl)) (fun _ _ _ h => h) (Or.inl ⟨by rfl, ?_⟩) ?_ ?_; rotate_left; (focus intro w'; go_simp; with_reducible rfl); rotate_left; (focus simp only [pt, i64_w, i32_w]; rfl)
                      refine pure_ (i := 33) (N := some 45) (v := ?_) (a' := ?_) impl_EditsOK.m34 rfl rfl (any_of HT_.out (by kernel_rfl)) (fun _ _ _ h => h) (Or.inl ⟨by rfl, ?_⟩) ?_ ?_; rotate_left; (focus intro w'; go_simp; with_reducible rfl); rotate_left; (focus simp only [pt, i64_w, i32_w]; rfl)
                      refine done_ (done_of HT_.out (by kernel_rfl)) ?_
                      try go_wp2
                      go_roundg k1
                      case measure => have := HK1.out; omega
                      case rel => exact ⟨(wrap64 (x7_1 + 1)), vE, H', ⟨by have := HK1.out; omega⟩, ⟨bW⟩⟩
                  · rw [if_neg c11] at H
                    have c11b0 : (((rd_T119 l0 x7_1).f1) == 0) = false := beq_eq_false_iff_ne.mpr c11
                    have c11b1 : (((rd_T119 l0 x7_1).f1) != 0) = true := bne_iff_ne.mpr c11
                    obtain rfl := Option.some.inj H
                    have p423 : 0 ≤ (x7_1 : Int) := odt
                    have q423 : x7_1 < (l0.length : Int) := odt
                    obtain ⟨ad423, e423, hx423_0, hx423_1, hx423_2⟩ := at_T119 HR0.out x7_1 p423 q423
                    (try rw [← Nbq9.out] at hx423_2)
                    cases e423
                    replace hx423_0 := (HB.out.cell (World.block_lt_of_cell? w _ hx423_0)).trans hx423_0
                    replace hx423_1 := (HB.out.cell (World.block_lt_of_cell? w _ hx423_1)).trans hx423_1
                    replace hx423_2 := (HB.out.cell (World.block_lt_of_cell? w _ hx423_2)).trans hx423_2
                    replace p423 := eq_true p423
                    replace q423 := eq_true q423
                    try go_wp2_with (first | ((with_reducible refine gate_dst (N := 4) rfl ?_); refine bE (N := 4) (cs := #[.string (⟨#[]⟩ : ByteArray), .int .i64 0, .bool false]) (t := 119) ?_; intro gb424 hg w32 hbox hb; have n0_ := Aside0.mk (below_step (w := w) bW hb); have n1_ := Aside0.mk (hbox); have n2_ := Aside0.mk (gS (w := w) hg); have n3_ := n2_; clear HB; have HB := n0_; have BK424 := n1_; have GW424 := n2_; have GE424 := n3_; clear n0_ n1_ n2_ n3_; clear hb hbox hg; obtain ⟨hcz33_0, hcz33_1, hcz33_2⟩ := cz3 BK424; obtain ⟨hfz33_0, hfz33_1, hfz33_2⟩ := fz3 BK424))
                    have n0_ : Aside0 ((((w32.setCell ⟨gb424, 0, none⟩ (.string ((rd_T119 l0 x7_1).f0))).setCell ⟨gb424, 1, none⟩ (.int .i64 ((rd_T119 l0 x7_1).f1))).setCell ⟨gb424, 2, none⟩ (.bool true)).heap[gb424]? = some (.cells #[.string ((rd_T119 l0 x7_1).f0), .int .i64 ((rd_T119 l0 x7_1).f1), .bool true] 119 (0, 0))) := ⟨by (with_reducible repeat (first | refine blk_drewN ?_ _ | refine blk_drew ?_ | refine blk_alloc ?_ _)); refine blk_put (cs := #[.string ((rd_T119 l0 x7_1).f0), .int .i64 ((rd_T119 l0 x7_1).f1), .bool false]) ?_ 2 _ rfl; (with_reducible repeat (first | refine blk_drewN ?_ _ | refine blk_drew ?_ | refine blk_alloc ?_ _)); refine blk_put (cs := #[.string ((rd_T119 l0 x7_1).f0), .int .i64 0, .bool false]) ?_ 1 _ rfl; (with_reducible repeat (first | refine blk_drewN ?_ _ | refine blk_drew ?_ | refine blk_alloc ?_ _)); refine blk_put (cs := #[.string (⟨#[]⟩ : ByteArray), .int .i64 0, .bool false]) ?_ 0 _ rfl; (with_reducible repeat (first | refine blk_drewN ?_ _ | refine blk_drew ?_ | refine blk_alloc ?_ _)); exact BK424.out⟩
                    have n1_ : Aside0 (Below w.heap.size w (((w32.setCell ⟨gb424, 0, none⟩ (.string ((rd_T119 l0 x7_1).f0))).setCell ⟨gb424, 1, none⟩ (.int .i64 ((rd_T119 l0 x7_1).f1))).setCell ⟨gb424, 2, none⟩ (.bool true))) := ⟨bW⟩
                    (try clear BK424)
                    (try clear HB)
                    generalize (((w32.setCell ⟨gb424, 0, none⟩ (.string ((rd_T119 l0 x7_1).f0))).setCell ⟨gb424, 1, none⟩ (.int .i64 ((rd_T119 l0 x7_1).f1))).setCell ⟨gb424, 2, none⟩ (.bool true)) = w34 at n0_ n1_ ⊢
                    have BK424 := n0_
                    have HB := n1_
                    clear n0_ n1_
                    have n0_ := Aside0.mk (blk_drew BK424.out)
                    have n1_ := Aside0.mk (below_drew1 HB.out)
                    clear BK424
                    clear HB
                    have BK424 := n0_
                    have HB := n1_
                    clear n0_ n1_
                    refine start_ (n := 34) (S := fun w' => w'.cell? ⟨gb424, 0, none⟩ = some (.string ((rd_T119 l0 x7_1).f0)) ∧ w'.cell? ⟨gb424, 1, none⟩ = some (.int .i64 ((rd_T119 l0 x7_1).f1)) ∧ w'.cell? ⟨gb424, 2, none⟩ = some (.bool true)) (ds := []) impl_EditsOK.m0 (by kernel_rfl) rfl rfl ⟨(blk_cell BK424.out 0).trans rfl, (blk_cell BK424.out 1).trans rfl, (blk_cell BK424.out 2).trans rfl⟩ (fun hHeld => ?_); refine with_tabW impl_EditsOK.tab4 impl_EditsOK.bits4 (fun HT_ HW_ => ?_)
                    generalize w34.drew = w35 at BK424 HB hHeld ⊢
                    refine pure_ (i := 0) (N := some 12) (v := ?_) (a' := ?_) impl_EditsOK.m1 rfl rfl (any_of HT_.out (by kernel_rfl)) (fun _ _ _ h => h) (Or.inl ⟨by rfl, ?_⟩) ?_ ?_; rotate_left; (focus intro w'; go_simp; with_reducible rfl); rotate_left; (focus simp only [pt, i64_w, i32_w]; rfl)
                    refine take_ (i := 1) (N := some 13) (v := ?_) (a' := ?_) impl_EditsOK.m2 rfl rfl (take_ofW HT_.out HW_.out (by kernel_rfl)) (fun _ _ _ h => h) (Or.inl ⟨by rfl, ?_⟩) hHeld ?_ ?_; rotate_left; (focus rintro w' ⟨s0, s1, s2⟩; go_simp; with_reducible rfl); rotate_left; (focus simp only [pt, i64_w, i32_w]; rfl)
                    refine one_ (i := 2) (N := some 14) impl_EditsOK.m3 rfl rfl (one_of HT_.out (by kernel_rfl)) (by decide) (fun K hK => ?_)
                    refine goes_ Try.func89 (by kernel_rfl) rfl #[.string ((rd_T119 l0 x7_1).f0)] (by rfl) rfl rfl gA ?_
                    with_reducible refine (impl_NameOK.calls ((rd_T119 l0 x7_1).f0) true _ A5.out).mono ?_
                    rintro e w36 ⟨rfl, hb⟩
                    refine ⟨_, rfl, ?_⟩
                    have n0_ := Aside0.mk (kb BK424 hb)
                    have n1_ := Aside0.mk (below_step (w := w) bW hb)
                    clear BK424
                    clear HB
                    have BK424 := n0_
                    have HB := n1_
                    clear n0_ n1_
                    (try clear hb)
                    (try clear hb2)
                    (try clear hk)
                    (try clear hi)
                    refine hK.out _ _ ⟨(blk_cell BK424.out 0).trans rfl, (blk_cell BK424.out 1).trans rfl, (blk_cell BK424.out 2).trans rfl⟩ (fun hHeld => ?_)
                    clear hK K
                    refine norm_ (a' := ?_) ?_ ?_
                    rotate_left
                    · show Act.put _ (some 14) _ = _
                      simp only [Act.put, List.setIfInBounds_toArray, List.set_cons_zero, List.set_cons_succ, i64_w, i32_w]
                      rfl
                    refine pure_ (i := 3) (N := some 15) (v := ?_) (a' := ?_) impl_EditsOK.m4 rfl rfl (any_of HT_.out (by kernel_rfl)) (fun _ _ _ h => h) (Or.inl ⟨by rfl, ?_⟩) ?_ ?_; rotate_left; (focus intro w'; go_simp; with_reducible rfl); rotate_left; (focus simp only [pt, i64_w, i32_w]; rfl)
                    refine pure_ (i := 4) (N := some 16) (v := ?_) (a' := ?_) impl_EditsOK.m5 rfl rfl (any_of HT_.out (by kernel_rfl)) (fun _ _ _ h => h) (Or.inl ⟨by rfl, ?_⟩) ?_ ?_; rotate_left; (focus intro w'; go_simp; with_reducible rfl); rotate_left; (focus simp only [pt, i64_w, i32_w]; rfl)
                    refine pure_ (i := 5) (N := some 17) (v := ?_) (a' := ?_) impl_EditsOK.m6 rfl rfl (any_of HT_.out (by kernel_rfl)) (fun _ _ _ h => h) (Or.inl ⟨by rfl, ?_⟩) ?_ ?_; rotate_left; (focus intro w'; go_simp; with_reducible rfl); rotate_left; (focus simp only [pt, i64_w, i32_w]; rfl)
                    refine take_ (i := 6) (N := some 18) (v := ?_) (a' := ?_) impl_EditsOK.m7 rfl rfl (take_ofW HT_.out HW_.out (by kernel_rfl)) (fun _ _ _ h => h) (Or.inl ⟨by rfl, ?_⟩) hHeld ?_ ?_; rotate_left; (focus rintro w' ⟨s0, s1, s2⟩; go_simp; with_reducible rfl); rotate_left; (focus simp only [pt, i64_w, i32_w]; rfl)
                    refine one_ (i := 7) (N := some 19) impl_EditsOK.m8 rfl rfl (one_of HT_.out (by kernel_rfl)) (by decide) (fun K hK => ?_)
                    refine goes_ Try.func94 (by kernel_rfl) rfl #[.int .i64 ((rd_T119 l0 x7_1).f1)] (by rfl) rfl rfl gA ?_
                    with_reducible refine (impl_isValue.calls ((rd_T119 l0 x7_1).f1) true _ A7.out).mono ?_
                    rintro e w' ⟨rfl, ⟨nd, rfl⟩⟩
                    refine ⟨_, rfl, ?_⟩
                    refine hK.out _ _ ⟨(blk_cell BK424.out 0).trans rfl, (blk_cell BK424.out 1).trans rfl, (blk_cell BK424.out 2).trans rfl⟩ (fun hHeld => ?_)
                    clear hK K
                    refine norm_ (a' := ?_) ?_ ?_
                    rotate_left
                    · show Act.put _ (some 19) _ = _
                      simp only [Act.put, List.setIfInBounds_toArray, List.set_cons_zero, List.set_cons_succ, i64_w, i32_w]
                      rfl
                    refine pure_ (i := 8) (N := some 20) (v := ?_) (a' := ?_) impl_EditsOK.m9 rfl rfl (any_of HT_.out (by kernel_rfl)) (fun _ _ _ h => h) (Or.inl ⟨by rfl, ?_⟩) ?_ ?_; rotate_left; (focus intro w'; go_simp; with_reducible rfl); rotate_left; (focus simp only [pt, i64_w, i32_w]; rfl)
                    refine pure_ (i := 9) (N := some 21) (v := ?_) (a' := ?_) impl_EditsOK.m10 rfl rfl (any_of HT_.out (by kernel_rfl)) (fun _ _ _ h => h) (Or.inl ⟨by rfl, ?_⟩) ?_ ?_; rotate_left; (focus intro w'; go_simp; with_reducible rfl); rotate_left; (focus simp only [pt, i64_w, i32_w]; rfl)
                    refine pure_ (i := 10) (N := some 22) (v := ?_) (a' := ?_) impl_EditsOK.m11 rfl rfl (any_of HT_.out (by kernel_rfl)) (fun _ _ _ h => h) (Or.inl ⟨by rfl, ?_⟩) ?_ ?_; rotate_left; (focus intro w'; go_simp; with_reducible rfl); rotate_left; (focus simp only [pt, i64_w, i32_w]; rfl)
                    refine pure_ (i := 11) (N := some 23) (v := ?_) (a' := ?_) impl_EditsOK.m12 rfl rfl (any_of HT_.out (by kernel_rfl)) (fun _ _ _ h => h) (Or.inl ⟨by rfl, ?_⟩) ?_ ?_; rotate_left; (focus intro w'; go_simp; with_reducible rfl); rotate_left; (focus simp only [pt, i64_w, i32_w]; rfl)
                    refine take_ (i := 12) (N := some 24) (v := ?_) (a' := ?_) impl_EditsOK.m13 rfl rfl (take_ofW HT_.out HW_.out (by kernel_rfl)) (fun _ _ _ h => h) (Or.inl ⟨by rfl, ?_⟩) hHeld ?_ ?_; rotate_left; (focus rintro w' ⟨s0, s1, s2⟩; go_simp; with_reducible rfl); rotate_left; (focus simp only [pt, i64_w, i32_w]; rfl)
                    refine pure_ (i := 13) (N := some 25) (v := ?_) (a' := ?_) impl_EditsOK.m14 rfl rfl (any_of HT_.out (by kernel_rfl)) (fun _ _ _ h => h) (Or.inl ⟨by rfl, ?_⟩) ?_ ?_; rotate_left; (focus intro w'; go_simp; with_reducible rfl); rotate_left; (focus simp only [pt, i64_w, i32_w]; rfl)
                    refine pure_ (i := 14) (N := some 26) (v := ?_) (a' := ?_) impl_EditsOK.m15 rfl rfl (any_of HT_.out (by kernel_rfl)) (fun _ _ _ h => h) (Or.inl ⟨by rfl, ?_⟩) ?_ ?_; rotate_left; (focus intro w'; go_simp; with_reducible rfl); rotate_left; (focus simp only [pt, i64_w, i32_w]; rfl)
                    refine take_ (i := 15) (N := some 27) (v := ?_) (a' := ?_) impl_EditsOK.m16 rfl rfl (take_ofW HT_.out HW_.out (by kernel_rfl)) (fun _ _ _ h => h) (Or.inl ⟨by rfl, ?_⟩) hHeld ?_ ?_; rotate_left; (focus rintro w' ⟨s0, s1, s2⟩; go_simp; with_reducible rfl); rotate_left; (focus simp only [pt, i64_w, i32_w]; rfl)
                    refine pure_ (i := 16) (N := some 28) (v := ?_) (a' := ?_) impl_EditsOK.m17 rfl rfl (any_of HT_.out (by kernel_rfl)) (fun _ _ _ h => h) (Or.inl ⟨by rfl, ?_⟩) ?_ ?_; rotate_left; (focus intro w'; go_simp; with_reducible rfl); rotate_left; (focus simp only [pt, i64_w, i32_w]; rfl)
                    refine pure_ (i := 17) (N := some 29) (v := ?_) (a' := ?_) impl_EditsOK.m18 rfl rfl (any_of HT_.out (by kernel_rfl)) (fun _ _ _ h => h) (Or.inl ⟨by rfl, ?_⟩) ?_ ?_; rotate_left; (focus intro w'; go_simp; with_reducible rfl); rotate_left; (focus simp only [pt, i64_w, i32_w]; rfl)
                    refine pure_ (i := 18) (N := some 30) (v := ?_) (a' := ?_) impl_EditsOK.m19 rfl rfl (any_of HT_.out (by kernel_rfl)) (fun _ _ _ h => h) (Or.inl ⟨by rfl, ?_⟩) ?_ ?_; rotate_left; (focus intro w'; go_simp; with_reducible rfl); rotate_left; (focus simp only [pt, i64_w, i32_w]; rfl)
                    refine pure_ (i := 19) (N := some 31) (v := ?_) (a' := ?_) impl_EditsOK.m20 rfl rfl (any_of HT_.out (by kernel_rfl)) (fun _ _ _ h => h) (Or.inl ⟨by rfl, ?_⟩) ?_ ?_; rotate_left; (focus intro w'; go_simp; with_reducible rfl); rotate_left; (focus simp only [pt, i64_w, i32_w]; rfl)
                    refine pure_ (i := 20) (N := some 32) (v := undef) (a' := ?_) impl_EditsOK.m21 rfl rfl (any_of HT_.out (by kernel_rfl)) (fun _ _ _ h => h) (Or.inr ⟨by rfl, rfl⟩) ?_ ?_; rotate_left; (focus simp only [pt, i64_w, i32_w]; rfl)
                    refine pure_ (i := 21) (N := some 33) (v := undef) (a' := ?_) impl_EditsOK.m22 rfl rfl (any_of HT_.out (by kernel_rfl)) (fun _ _ _ h => h) (Or.inr ⟨by rfl, rfl⟩) ?_ ?_; rotate_left; (focus simp only [pt, i64_w, i32_w]; rfl)
                    refine pure_ (i := 22) (N := some 34) (v := undef) (a' := ?_) impl_EditsOK.m23 rfl rfl (any_of HT_.out (by kernel_rfl)) (fun _ _ _ h => h) (Or.inr ⟨by rfl, rfl⟩) ?_ ?_; rotate_left; (focus simp only [pt, i64_w, i32_w]; rfl)
                    refine pure_ (i := 23) (N := some 35) (v := undef) (a' := ?_) impl_EditsOK.m24 rfl rfl (any_of HT_.out (by kernel_rfl)) (fun _ _ _ h => h) (Or.inr ⟨by rfl, rfl⟩) ?_ ?_; rotate_left; (focus simp only [pt, i64_w, i32_w]; rfl)
                    refine pure_ (i := 24) (N := some 36) (v := undef) (a' := ?_) impl_EditsOK.m25 rfl rfl (any_of HT_.out (by kernel_rfl)) (fun _ _ _ h => h) (Or.inr ⟨by rfl, rfl⟩) ?_ ?_; rotate_left; (focus simp only [pt, i64_w, i32_w]; rfl)
                    refine pure_ (i := 25) (N := some 37) (v := undef) (a' := ?_) impl_EditsOK.m26 rfl rfl (any_of HT_.out (by kernel_rfl)) (fun _ _ _ h => h) (Or.inr ⟨by rfl, rfl⟩) ?_ ?_; rotate_left; (focus simp only [pt, i64_w, i32_w]; rfl)
                    refine pure_ (i := 26) (N := some 38) (v := undef) (a' := ?_) impl_EditsOK.m27 rfl rfl (any_of HT_.out (by kernel_rfl)) (fun _ _ _ h => h) (Or.inr ⟨by rfl, rfl⟩) ?_ ?_; rotate_left; (focus simp only [pt, i64_w, i32_w]; rfl)
                    refine pure_ (i := 27) (N := some 39) (v := undef) (a' := ?_) impl_EditsOK.m28 rfl rfl (any_of HT_.out (by kernel_rfl)) (fun _ _ _ h => h) (Or.inr ⟨by rfl, rfl⟩) ?_ ?_; rotate_left; (focus simp only [pt, i64_w, i32_w]; rfl)
                    refine pure_ (i := 28) (N := some 40) (v := undef) (a' := ?_) impl_EditsOK.m35 rfl rfl (any_of HT_.out (by kernel_rfl)) (fun _ _ _ h => h) (Or.inr ⟨by rfl, rfl⟩) ?_ ?_; rotate_left; (focus simp only [pt, i64_w, i32_w]; rfl)
                    refine pure_ (i := 29) (N := some 41) (v := undef) (a' := ?_) impl_EditsOK.m30 rfl rfl (any_of HT_.out (by kernel_rfl)) (fun _ _ _ h => h) (Or.inr ⟨by rfl, rfl⟩) ?_ ?_; rotate_left; (focus simp only [pt, i64_w, i32_w]; rfl)
                    refine pure_ (i := 30) (N := some 42) (v := undef) (a' := ?_) impl_EditsOK.m31 rfl rfl (any_of HT_.out (by kernel_rfl)) (fun _ _ _ h => h) (Or.inr ⟨by rfl, rfl⟩) ?_ ?_; rotate_left; (focus simp only [pt, i64_w, i32_w]; rfl)
                    refine pure_ (i := 31) (N := some 43) (v := undef) (a' := ?_) impl_EditsOK.m32 rfl rfl (any_of HT_.out (by kernel_rfl)) (fun _ _ _ h => h) (Or.inr ⟨by rfl, rfl⟩) ?_ ?_; rotate_left; (focus simp only [pt, i64_w, i32_w]; rfl)
                    refine pure_ (i := 32) (N := some 44) (v := undef) (a' := ?_) impl_EditsOK.m33 rfl rfl (any_of HT_.out (by kernel_rfl)) (fun _ _ _ h => h) (Or.inr ⟨by rfl, rfl⟩) ?_ ?_; rotate_left; (focus simp only [pt, i64_w, i32_w]; rfl)
                    refine pure_ (i := 33) (N := some 45) (v := ?_) (a' := ?_) impl_EditsOK.m34 rfl rfl (any_of HT_.out (by kernel_rfl)) (fun _ _ _ h => h) (Or.inl ⟨by rfl, ?_⟩) ?_ ?_; rotate_left; (focus intro w'; go_simp; with_reducible rfl); rotate_left; (focus simp only [pt, i64_w, i32_w]; rfl)
                    refine done_ (done_of HT_.out (by kernel_rfl)) ?_
                    try go_wp2
                    go_ret
                    exact ⟨rE, bW⟩
                · replace c10 := Bool.eq_false_iff.mpr c10
                  subst c10
                  have H1 : (if x7_1 > 0 then (if 0 ≤ (wrap64 (x7_1 - 1)) then (if (wrap64 (x7_1 - 1)) < (l0.length : Int) then (if ((Op.bytesLess (((rd_T119 l0 (wrap64 (x7_1 - 1))).f0).toList) (((rd_T119 l0 x7_1).f0).toList)) = true) then (impl_EditsOK.l0 k1 l0 l0 (l0.length : Int) (wrap64 (x7_1 + 1))) else (some false)) else (none)) else (none)) else (impl_EditsOK.l0 k1 l0 l0 (l0.length : Int) (wrap64 (x7_1 + 1)))) = some r := by rw [if_neg (show ¬ (false = true) by decide)] at H; exact H
                  clear H
                  have H := H1
                  clear H1
                  by_cases c37 : x7_1 > 0
                  · rw [if_pos c37] at H
                    have c37b0 : decide (0 < x7_1) = true := decide_eq_true c37
                    clear c37
                    obtain ⟨ji38, hji38⟩ : ∃ j_ : Int, (wrap64 (x7_1 - 1)) = j_ := ⟨_, rfl⟩
                    replace H : (if 0 ≤ (ji38) then (if (ji38) < (l0.length : Int) then (if ((Op.bytesLess (((rd_T119 l0 (ji38)).f0).toList) (((rd_T119 l0 x7_1).f0).toList)) = true) then (impl_EditsOK.l0 k1 l0 l0 (l0.length : Int) (wrap64 (x7_1 + 1))) else (some false)) else (none)) else (none)) = some r := by first | (rw [hji38] at H; exact H) | (simp only [hji38] at H ⊢; exact H)
                    (try rw [hji38] at A5)
                    (try rw [hji38] at A7)
                    have hji38w : (IntKind.i64.wrap (x7_1 - 1)) = ji38 := (i64_w _).trans hji38
                    by_cases c39 : 0 ≤ (ji38)
                    · rw [if_pos c39] at H
                      have c39b0 : decide (0 ≤ (ji38)) = true := decide_eq_true c39
                      clear c39
                      by_cases c40 : (ji38) < (l0.length : Int)
                      · rw [if_pos c40] at H
                        have c40b0 : decide ((ji38) < (l0.length : Int)) = true := decide_eq_true c40
                        clear c40
                        by_cases c41 : ((Op.bytesLess (((rd_T119 l0 (ji38)).f0).toList) (((rd_T119 l0 x7_1).f0).toList)) = true)
                        · rw [if_pos c41] at H
                          have c41b0 : (Op.bytesLess (((rd_T119 l0 (ji38)).f0).toList) (((rd_T119 l0 x7_1).f0).toList)) = true := c41
                          clear c41
                          have H' := Aside0.mk H
                          clear H
                          have p423 : 0 ≤ (x7_1 : Int) := odt
                          have q423 : x7_1 < (l0.length : Int) := odt
                          obtain ⟨ad423, e423, hx423_0, hx423_1, hx423_2⟩ := at_T119 HR0.out x7_1 p423 q423
                          (try rw [← Nbq9.out] at hx423_2)
                          cases e423
                          replace hx423_0 := (HB.out.cell (World.block_lt_of_cell? w _ hx423_0)).trans hx423_0
                          replace hx423_1 := (HB.out.cell (World.block_lt_of_cell? w _ hx423_1)).trans hx423_1
                          replace hx423_2 := (HB.out.cell (World.block_lt_of_cell? w _ hx423_2)).trans hx423_2
                          replace p423 := eq_true p423
                          replace q423 := eq_true q423
                          try go_wp2_with (first | ((with_reducible refine gate_dst (N := 4) rfl ?_); refine bE (N := 4) (cs := #[.string (⟨#[]⟩ : ByteArray), .int .i64 0, .bool false]) (t := 119) ?_; intro gb424 hg w42 hbox hb; have n0_ := Aside0.mk (below_step (w := w) bW hb); have n1_ := Aside0.mk (hbox); have n2_ := Aside0.mk (gS (w := w) hg); have n3_ := n2_; clear HB; have HB := n0_; have BK424 := n1_; have GW424 := n2_; have GE424 := n3_; clear n0_ n1_ n2_ n3_; clear hb hbox hg; obtain ⟨hcz43_0, hcz43_1, hcz43_2⟩ := cz3 BK424; obtain ⟨hfz43_0, hfz43_1, hfz43_2⟩ := fz3 BK424))
                          have n0_ : Aside0 ((((w42.setCell ⟨gb424, 0, none⟩ (.string ((rd_T119 l0 x7_1).f0))).setCell ⟨gb424, 1, none⟩ (.int .i64 ((rd_T119 l0 x7_1).f1))).setCell ⟨gb424, 2, none⟩ (.bool false)).heap[gb424]? = some (.cells #[.string ((rd_T119 l0 x7_1).f0), .int .i64 ((rd_T119 l0 x7_1).f1), .bool false] 119 (0, 0))) := ⟨by (with_reducible repeat (first | refine blk_drewN ?_ _ | refine blk_drew ?_ | refine blk_alloc ?_ _)); refine blk_put (cs := #[.string ((rd_T119 l0 x7_1).f0), .int .i64 ((rd_T119 l0 x7_1).f1), .bool false]) ?_ 2 _ rfl; (with_reducible repeat (first | refine blk_drewN ?_ _ | refine blk_drew ?_ | refine blk_alloc ?_ _)); refine blk_put (cs := #[.string ((rd_T119 l0 x7_1).f0), .int .i64 0, .bool false]) ?_ 1 _ rfl; (with_reducible repeat (first | refine blk_drewN ?_ _ | refine blk_drew ?_ | refine blk_alloc ?_ _)); refine blk_put (cs := #[.string (⟨#[]⟩ : ByteArray), .int .i64 0, .bool false]) ?_ 0 _ rfl; (with_reducible repeat (first | refine blk_drewN ?_ _ | refine blk_drew ?_ | refine blk_alloc ?_ _)); exact BK424.out⟩
                          have n1_ : Aside0 (Below w.heap.size w (((w42.setCell ⟨gb424, 0, none⟩ (.string ((rd_T119 l0 x7_1).f0))).setCell ⟨gb424, 1, none⟩ (.int .i64 ((rd_T119 l0 x7_1).f1))).setCell ⟨gb424, 2, none⟩ (.bool false))) := ⟨bW⟩
                          (try clear BK424)
                          (try clear HB)
                          generalize (((w42.setCell ⟨gb424, 0, none⟩ (.string ((rd_T119 l0 x7_1).f0))).setCell ⟨gb424, 1, none⟩ (.int .i64 ((rd_T119 l0 x7_1).f1))).setCell ⟨gb424, 2, none⟩ (.bool false)) = w44 at n0_ n1_ ⊢
                          have BK424 := n0_
                          have HB := n1_
                          clear n0_ n1_
                          have n0_ := Aside0.mk (blk_drew BK424.out)
                          have n1_ := Aside0.mk (below_drew1 HB.out)
                          clear BK424
                          clear HB
                          have BK424 := n0_
                          have HB := n1_
                          clear n0_ n1_
                          have p428 : 0 ≤ ((ji38) : Int) := odt
                          have q428 : (ji38) < (l0.length : Int) := odt
                          obtain ⟨ad428, e428, hx428_0, hx428_1, hx428_2⟩ := at_T119 HR0.out (ji38) p428 q428
                          have hw428_2 := hx428_2
                          have hw428_1 := hx428_1
                          have hw428_0 := hx428_0
                          (try rw [← Nbq9.out] at hx428_2)
                          obtain rfl : ad423 = ad428 := (by injection e428)
                          replace hx428_0 := (HB.out.cell (World.block_lt_of_cell? w _ hx428_0)).trans hx428_0
                          replace hx428_1 := (HB.out.cell (World.block_lt_of_cell? w _ hx428_1)).trans hx428_1
                          replace hx428_2 := (HB.out.cell (World.block_lt_of_cell? w _ hx428_2)).trans hx428_2
                          replace p428 := eq_true p428
                          replace q428 := eq_true q428
                          refine start_ (n := 34) (S := fun w' => w'.cell? ⟨gb424, 0, none⟩ = some (.string ((rd_T119 l0 x7_1).f0)) ∧ w'.cell? ⟨gb424, 1, none⟩ = some (.int .i64 ((rd_T119 l0 x7_1).f1)) ∧ w'.cell? ⟨gb424, 2, none⟩ = some (.bool false) ∧ w'.cell? (ad423.add (((ji38)).toNat * 3)) = some (.string ((rd_T119 l0 (ji38)).f0)) ∧ w'.cell? ⟨(ad423.add (((ji38)).toNat * 3)).block, (ad423.add (((ji38)).toNat * 3)).off + 1, none⟩ = some (.int .i64 ((rd_T119 l0 (ji38)).f1)) ∧ w'.cell? ⟨(ad423.add (((ji38)).toNat * 3)).block, (ad423.add (((ji38)).toNat * 3)).off + 2, none⟩ = some (.bool ((rd_T119 l0 (ji38)).f2))) (ds := []) impl_EditsOK.m0 (by kernel_rfl) rfl rfl ⟨(blk_cell BK424.out 0).trans rfl, (blk_cell BK424.out 1).trans rfl, (blk_cell BK424.out 2).trans rfl, ((HB.out.cell (World.block_lt_of_cell? w _ hw428_0)).trans hw428_0), ((HB.out.cell (World.block_lt_of_cell? w _ hw428_1)).trans hw428_1), ((HB.out.cell (World.block_lt_of_cell? w _ hw428_2)).trans hw428_2)⟩ (fun hHeld => ?_); refine with_tabW impl_EditsOK.tab4 impl_EditsOK.bits4 (fun HT_ HW_ => ?_)
                          generalize w44.drew = w45 at BK424 HB hx428_0 hx428_1 hx428_2 hHeld ⊢
                          refine pure_ (i := 0) (N := some 12) (v := ?_) (a' := ?_) impl_EditsOK.m1 rfl rfl (any_of HT_.out (by kernel_rfl)) (fun _ _ _ h => h) (Or.inl ⟨by rfl, ?_⟩) ?_ ?_; rotate_left; (focus intro w'; go_simp; with_reducible rfl); rotate_left; (focus simp only [pt, i64_w, i32_w]; rfl)
                          refine take_ (i := 1) (N := some 13) (v := ?_) (a' := ?_) impl_EditsOK.m2 rfl rfl (take_ofW HT_.out HW_.out (by kernel_rfl)) (fun _ _ _ h => h) (Or.inl ⟨by rfl, ?_⟩) hHeld ?_ ?_; rotate_left; (focus rintro w' ⟨s0, s1, s2, s3, s4, s5⟩; go_simp; with_reducible rfl); rotate_left; (focus simp only [pt, i64_w, i32_w]; rfl)
                          refine one_ (i := 2) (N := some 14) impl_EditsOK.m3 rfl rfl (one_of HT_.out (by kernel_rfl)) (by decide) (fun K hK => ?_)
                          refine goes_ Try.func89 (by kernel_rfl) rfl #[.string ((rd_T119 l0 x7_1).f0)] (by rfl) rfl rfl gA ?_
                          with_reducible refine (impl_NameOK.calls ((rd_T119 l0 x7_1).f0) true _ A5.out).mono ?_
                          rintro e w46 ⟨rfl, hb⟩
                          refine ⟨_, rfl, ?_⟩
                          have n0_ := Aside0.mk (kb BK424 hb)
                          have n1_ := Aside0.mk (below_step (w := w) bW hb)
                          clear BK424
                          clear HB
                          have BK424 := n0_
                          have HB := n1_
                          clear n0_ n1_
                          (try clear hb)
                          (try clear hb2)
                          (try clear hk)
                          (try clear hi)
                          refine hK.out _ _ ⟨(blk_cell BK424.out 0).trans rfl, (blk_cell BK424.out 1).trans rfl, (blk_cell BK424.out 2).trans rfl, ((HB.out.cell (World.block_lt_of_cell? w _ hw428_0)).trans hw428_0), ((HB.out.cell (World.block_lt_of_cell? w _ hw428_1)).trans hw428_1), ((HB.out.cell (World.block_lt_of_cell? w _ hw428_2)).trans hw428_2)⟩ (fun hHeld => ?_)
                          clear hK K
                          refine norm_ (a' := ?_) ?_ ?_
                          rotate_left
                          · show Act.put _ (some 14) _ = _
                            simp only [Act.put, List.setIfInBounds_toArray, List.set_cons_zero, List.set_cons_succ, i64_w, i32_w]
                            rfl
                          refine pure_ (i := 3) (N := some 15) (v := ?_) (a' := ?_) impl_EditsOK.m4 rfl rfl (any_of HT_.out (by kernel_rfl)) (fun _ _ _ h => h) (Or.inl ⟨by rfl, ?_⟩) ?_ ?_; rotate_left; (focus intro w'; go_simp; with_reducible rfl); rotate_left; (focus simp only [pt, i64_w, i32_w]; rfl)
                          refine pure_ (i := 4) (N := some 16) (v := ?_) (a' := ?_) impl_EditsOK.m5 rfl rfl (any_of HT_.out (by kernel_rfl)) (fun _ _ _ h => h) (Or.inl ⟨by rfl, ?_⟩) ?_ ?_; rotate_left; (focus intro w'; go_simp; with_reducible rfl); rotate_left; (focus simp only [pt, i64_w, i32_w]; rfl)
                          refine pure_ (i := 5) (N := some 17) (v := ?_) (a' := ?_) impl_EditsOK.m6 rfl rfl (any_of HT_.out (by kernel_rfl)) (fun _ _ _ h => h) (Or.inl ⟨by rfl, ?_⟩) ?_ ?_; rotate_left; (focus intro w'; go_simp; with_reducible rfl); rotate_left; (focus simp only [pt, i64_w, i32_w]; rfl)
                          refine take_ (i := 6) (N := some 18) (v := ?_) (a' := ?_) impl_EditsOK.m7 rfl rfl (take_ofW HT_.out HW_.out (by kernel_rfl)) (fun _ _ _ h => h) (Or.inl ⟨by rfl, ?_⟩) hHeld ?_ ?_; rotate_left; (focus rintro w' ⟨s0, s1, s2, s3, s4, s5⟩; go_simp; with_reducible rfl); rotate_left; (focus simp only [pt, i64_w, i32_w]; rfl)
                          refine one_ (i := 7) (N := some 19) impl_EditsOK.m8 rfl rfl (one_of HT_.out (by kernel_rfl)) (by decide) (fun K hK => ?_)
                          refine goes_ Try.func94 (by kernel_rfl) rfl #[.int .i64 ((rd_T119 l0 x7_1).f1)] (by rfl) rfl rfl gA ?_
                          with_reducible refine (impl_isValue.calls ((rd_T119 l0 x7_1).f1) true _ A7.out).mono ?_
                          rintro e w' ⟨rfl, ⟨nd, rfl⟩⟩
                          refine ⟨_, rfl, ?_⟩
                          refine hK.out _ _ ⟨(blk_cell BK424.out 0).trans rfl, (blk_cell BK424.out 1).trans rfl, (blk_cell BK424.out 2).trans rfl, ((HB.out.cell (World.block_lt_of_cell? w _ hw428_0)).trans hw428_0), ((HB.out.cell (World.block_lt_of_cell? w _ hw428_1)).trans hw428_1), ((HB.out.cell (World.block_lt_of_cell? w _ hw428_2)).trans hw428_2)⟩ (fun hHeld => ?_)
                          clear hK K
                          refine norm_ (a' := ?_) ?_ ?_
                          rotate_left
                          · show Act.put _ (some 19) _ = _
                            simp only [Act.put, List.setIfInBounds_toArray, List.set_cons_zero, List.set_cons_succ, i64_w, i32_w]
                            rfl
                          refine pure_ (i := 8) (N := some 20) (v := ?_) (a' := ?_) impl_EditsOK.m9 rfl rfl (any_of HT_.out (by kernel_rfl)) (fun _ _ _ h => h) (Or.inl ⟨by rfl, ?_⟩) ?_ ?_; rotate_left; (focus intro w'; go_simp; with_reducible rfl); rotate_left; (focus simp only [pt, i64_w, i32_w]; rfl)
                          refine pure_ (i := 9) (N := some 21) (v := ?_) (a' := ?_) impl_EditsOK.m10 rfl rfl (any_of HT_.out (by kernel_rfl)) (fun _ _ _ h => h) (Or.inl ⟨by rfl, ?_⟩) ?_ ?_; rotate_left; (focus intro w'; go_simp; with_reducible rfl); rotate_left; (focus simp only [pt, i64_w, i32_w]; rfl)
                          refine pure_ (i := 10) (N := some 22) (v := ?_) (a' := ?_) impl_EditsOK.m11 rfl rfl (any_of HT_.out (by kernel_rfl)) (fun _ _ _ h => h) (Or.inl ⟨by rfl, ?_⟩) ?_ ?_; rotate_left; (focus intro w'; go_simp; with_reducible rfl); rotate_left; (focus simp only [pt, i64_w, i32_w]; rfl)
                          refine pure_ (i := 11) (N := some 23) (v := ?_) (a' := ?_) impl_EditsOK.m12 rfl rfl (any_of HT_.out (by kernel_rfl)) (fun _ _ _ h => h) (Or.inl ⟨by rfl, ?_⟩) ?_ ?_; rotate_left; (focus intro w'; go_simp; with_reducible rfl); rotate_left; (focus simp only [pt, i64_w, i32_w]; rfl)
                          refine take_ (i := 12) (N := some 24) (v := ?_) (a' := ?_) impl_EditsOK.m13 rfl rfl (take_ofW HT_.out HW_.out (by kernel_rfl)) (fun _ _ _ h => h) (Or.inl ⟨by rfl, ?_⟩) hHeld ?_ ?_; rotate_left; (focus rintro w' ⟨s0, s1, s2, s3, s4, s5⟩; go_simp; with_reducible rfl); rotate_left; (focus simp only [pt, i64_w, i32_w]; rfl)
                          refine pure_ (i := 13) (N := some 25) (v := ?_) (a' := ?_) impl_EditsOK.m14 rfl rfl (any_of HT_.out (by kernel_rfl)) (fun _ _ _ h => h) (Or.inl ⟨by rfl, ?_⟩) ?_ ?_; rotate_left; (focus intro w'; go_simp; with_reducible rfl); rotate_left; (focus simp only [pt, i64_w, i32_w]; rfl)
                          refine pure_ (i := 14) (N := some 26) (v := undef) (a' := ?_) impl_EditsOK.m15 rfl rfl (any_of HT_.out (by kernel_rfl)) (fun _ _ _ h => h) (Or.inr ⟨by rfl, rfl⟩) ?_ ?_; rotate_left; (focus simp only [pt, i64_w, i32_w]; rfl)
                          refine pure_ (i := 15) (N := some 27) (v := undef) (a' := ?_) impl_EditsOK.m16 rfl rfl (any_of HT_.out (by kernel_rfl)) (fun _ _ _ h => h) (Or.inr ⟨by rfl, rfl⟩) ?_ ?_; rotate_left; (focus simp only [pt, i64_w, i32_w]; rfl)
                          refine pure_ (i := 16) (N := some 28) (v := undef) (a' := ?_) impl_EditsOK.m17 rfl rfl (any_of HT_.out (by kernel_rfl)) (fun _ _ _ h => h) (Or.inr ⟨by rfl, rfl⟩) ?_ ?_; rotate_left; (focus simp only [pt, i64_w, i32_w]; rfl)
                          refine pure_ (i := 17) (N := some 29) (v := ?_) (a' := ?_) impl_EditsOK.m18 rfl rfl (any_of HT_.out (by kernel_rfl)) (fun _ _ _ h => h) (Or.inl ⟨by rfl, ?_⟩) ?_ ?_; rotate_left; (focus intro w'; go_simp; with_reducible rfl); rotate_left; (focus simp only [pt, i64_w, i32_w]; rfl)
                          refine pure_ (i := 18) (N := some 30) (v := ?_) (a' := ?_) impl_EditsOK.m19 rfl rfl (any_of HT_.out (by kernel_rfl)) (fun _ _ _ h => h) (Or.inl ⟨by rfl, ?_⟩) ?_ ?_; rotate_left; (focus intro w'; go_simp; with_reducible rfl); rotate_left; (focus simp only [pt, i64_w, i32_w]; rfl)
                          refine pure_ (i := 19) (N := some 31) (v := ?_) (a' := ?_) impl_EditsOK.m20 rfl rfl (any_of HT_.out (by kernel_rfl)) (fun _ _ _ h => h) (Or.inl ⟨by rfl, ?_⟩) ?_ ?_; rotate_left; (focus intro w'; go_simp; with_reducible rfl); rotate_left; (focus simp only [pt, i64_w, i32_w]; rfl)
                          refine pure_ (i := 20) (N := some 32) (v := ?_) (a' := ?_) impl_EditsOK.m21 rfl rfl (any_of HT_.out (by kernel_rfl)) (fun _ _ _ h => h) (Or.inl ⟨by rfl, ?_⟩) ?_ ?_; rotate_left; (focus intro w'; go_simp; with_reducible rfl); rotate_left; (focus simp only [pt, i64_w, i32_w]; rfl)
                          refine pure_ (i := 21) (N := some 33) (v := ?_) (a' := ?_) impl_EditsOK.m22 rfl rfl (any_of HT_.out (by kernel_rfl)) (fun _ _ _ h => h) (Or.inl ⟨by rfl, ?_⟩) ?_ ?_; rotate_left; (focus intro w'; go_simp; with_reducible rfl); rotate_left; (focus simp only [pt, i64_w, i32_w]; rfl)
                          refine pure_ (i := 22) (N := some 34) (v := ?_) (a' := ?_) impl_EditsOK.m23 rfl rfl (any_of HT_.out (by kernel_rfl)) (fun _ _ _ h => h) (Or.inl ⟨by rfl, ?_⟩) ?_ ?_; rotate_left; (focus intro w'; go_simp; with_reducible rfl); rotate_left; (focus simp only [pt, i64_w, i32_w]; rfl)
                          refine pure_ (i := 23) (N := some 35) (v := ?_) (a' := ?_) impl_EditsOK.m24 rfl rfl (any_of HT_.out (by kernel_rfl)) (fun _ _ _ h => h) (Or.inl ⟨by rfl, ?_⟩) ?_ ?_; rotate_left; (focus intro w'; go_simp; with_reducible rfl); rotate_left; (focus simp only [pt, i64_w, i32_w]; rfl)
                          refine pure_ (i := 24) (N := some 36) (v := ?_) (a' := ?_) impl_EditsOK.m25 rfl rfl (any_of HT_.out (by kernel_rfl)) (fun _ _ _ h => h) (Or.inl ⟨by rfl, ?_⟩) ?_ ?_; rotate_left; (focus intro w'; go_simp; with_reducible rfl); rotate_left; (focus simp only [pt, i64_w, i32_w]; rfl)
                          refine pure_ (i := 25) (N := some 37) (v := ?_) (a' := ?_) impl_EditsOK.m26 rfl rfl (any_of HT_.out (by kernel_rfl)) (fun _ _ _ h => h) (Or.inl ⟨by rfl, ?_⟩) ?_ ?_; rotate_left; (focus intro w'; go_simp; with_reducible rfl); rotate_left; (focus simp only [pt, i64_w, i32_w]; rfl)
                          refine pure_ (i := 26) (N := some 38) (v := ?_) (a' := ?_) impl_EditsOK.m27 rfl rfl (any_of HT_.out (by kernel_rfl)) (fun _ _ _ h => h) (Or.inl ⟨by rfl, ?_⟩) ?_ ?_; rotate_left; (focus intro w'; go_simp; with_reducible rfl); rotate_left; (focus simp only [pt, i64_w, i32_w]; rfl)
                          refine pure_ (i := 27) (N := some 39) (v := ?_) (a' := ?_) impl_EditsOK.m28 rfl rfl (any_of HT_.out (by kernel_rfl)) (fun _ _ _ h => h) (Or.inl ⟨by rfl, ?_⟩) ?_ ?_; rotate_left; (focus intro w'; go_simp; with_reducible rfl); rotate_left; (focus simp only [pt, i64_w, i32_w]; rfl)
                          refine pure_ (i := 29) (N := some 41) (v := ?_) (a' := ?_) impl_EditsOK.m29 rfl rfl (any_of HT_.out (by kernel_rfl)) (fun _ _ _ h => h) (Or.inl ⟨by rfl, ?_⟩) ?_ ?_; rotate_left; (focus intro w'; go_simp; with_reducible rfl); rotate_left; (focus simp only [pt, i64_w, i32_w]; rfl)
                          refine take_ (i := 28) (N := some 40) (v := ?_) (a' := ?_) impl_EditsOK.m30 rfl rfl (take_ofW HT_.out HW_.out (by kernel_rfl)) (fun _ _ _ h => h) (Or.inl ⟨by rfl, ?_⟩) hHeld ?_ ?_; rotate_left; (focus rintro w' ⟨s0, s1, s2, s3, s4, s5⟩; go_simp; with_reducible rfl); rotate_left; (focus simp only [pt, i64_w, i32_w]; rfl)
                          refine take_ (i := 30) (N := some 42) (v := ?_) (a' := ?_) impl_EditsOK.m31 rfl rfl (take_ofW HT_.out HW_.out (by kernel_rfl)) (fun _ _ _ h => h) (Or.inl ⟨by rfl, ?_⟩) hHeld ?_ ?_; rotate_left; (focus rintro w' ⟨s0, s1, s2, s3, s4, s5⟩; go_simp; with_reducible rfl); rotate_left; (focus simp only [pt, i64_w, i32_w]; rfl)
                          refine pure_ (i := 31) (N := some 43) (v := ?_) (a' := ?_) impl_EditsOK.m32 rfl rfl (any_of HT_.out (by kernel_rfl)) (fun _ _ _ h => h) (Or.inl ⟨by rfl, ?_⟩) ?_ ?_; rotate_left; (focus intro w'; go_simp; with_reducible rfl); rotate_left; (focus simp only [pt, i64_w, i32_w]; rfl)
                          refine pure_ (i := 32) (N := some 44) (v := ?_) (a' := ?_) impl_EditsOK.m33 rfl rfl (any_of HT_.out (by kernel_rfl)) (fun _ _ _ h => h) (Or.inl ⟨by rfl, ?_⟩) ?_ ?_; rotate_left; (focus intro w'; go_simp; with_reducible rfl); rotate_left; (focus simp only [pt, i64_w, i32_w]; rfl)
                          refine pure_ (i := 33) (N := some 45) (v := ?_) (a' := ?_) impl_EditsOK.m34 rfl rfl (any_of HT_.out (by kernel_rfl)) (fun _ _ _ h => h) (Or.inl ⟨by rfl, ?_⟩) ?_ ?_; rotate_left; (focus intro w'; go_simp; with_reducible rfl); rotate_left; (focus simp only [pt, i64_w, i32_w]; rfl)
                          refine done_ (done_of HT_.out (by kernel_rfl)) ?_
                          try go_wp2
                          go_roundg k1
                          case measure => have := HK1.out; omega
                          case rel => exact ⟨(wrap64 (x7_1 + 1)), vE, H', ⟨by have := HK1.out; omega⟩, ⟨bW⟩⟩
                        · rw [if_neg c41] at H
                          have c41b0 : (Op.bytesLess (((rd_T119 l0 (ji38)).f0).toList) (((rd_T119 l0 x7_1).f0).toList)) = false := by simpa using c41
                          clear c41
                          obtain rfl := Option.some.inj H
                          have p423 : 0 ≤ (x7_1 : Int) := odt
                          have q423 : x7_1 < (l0.length : Int) := odt
                          obtain ⟨ad423, e423, hx423_0, hx423_1, hx423_2⟩ := at_T119 HR0.out x7_1 p423 q423
                          (try rw [← Nbq9.out] at hx423_2)
                          cases e423
                          replace hx423_0 := (HB.out.cell (World.block_lt_of_cell? w _ hx423_0)).trans hx423_0
                          replace hx423_1 := (HB.out.cell (World.block_lt_of_cell? w _ hx423_1)).trans hx423_1
                          replace hx423_2 := (HB.out.cell (World.block_lt_of_cell? w _ hx423_2)).trans hx423_2
                          replace p423 := eq_true p423
                          replace q423 := eq_true q423
                          try go_wp2_with (first | ((with_reducible refine gate_dst (N := 4) rfl ?_); refine bE (N := 4) (cs := #[.string (⟨#[]⟩ : ByteArray), .int .i64 0, .bool false]) (t := 119) ?_; intro gb424 hg w47 hbox hb; have n0_ := Aside0.mk (below_step (w := w) bW hb); have n1_ := Aside0.mk (hbox); have n2_ := Aside0.mk (gS (w := w) hg); have n3_ := n2_; clear HB; have HB := n0_; have BK424 := n1_; have GW424 := n2_; have GE424 := n3_; clear n0_ n1_ n2_ n3_; clear hb hbox hg; obtain ⟨hcz48_0, hcz48_1, hcz48_2⟩ := cz3 BK424; obtain ⟨hfz48_0, hfz48_1, hfz48_2⟩ := fz3 BK424))
                          have n0_ : Aside0 ((((w47.setCell ⟨gb424, 0, none⟩ (.string ((rd_T119 l0 x7_1).f0))).setCell ⟨gb424, 1, none⟩ (.int .i64 ((rd_T119 l0 x7_1).f1))).setCell ⟨gb424, 2, none⟩ (.bool false)).heap[gb424]? = some (.cells #[.string ((rd_T119 l0 x7_1).f0), .int .i64 ((rd_T119 l0 x7_1).f1), .bool false] 119 (0, 0))) := ⟨by (with_reducible repeat (first | refine blk_drewN ?_ _ | refine blk_drew ?_ | refine blk_alloc ?_ _)); refine blk_put (cs := #[.string ((rd_T119 l0 x7_1).f0), .int .i64 ((rd_T119 l0 x7_1).f1), .bool false]) ?_ 2 _ rfl; (with_reducible repeat (first | refine blk_drewN ?_ _ | refine blk_drew ?_ | refine blk_alloc ?_ _)); refine blk_put (cs := #[.string ((rd_T119 l0 x7_1).f0), .int .i64 0, .bool false]) ?_ 1 _ rfl; (with_reducible repeat (first | refine blk_drewN ?_ _ | refine blk_drew ?_ | refine blk_alloc ?_ _)); refine blk_put (cs := #[.string (⟨#[]⟩ : ByteArray), .int .i64 0, .bool false]) ?_ 0 _ rfl; (with_reducible repeat (first | refine blk_drewN ?_ _ | refine blk_drew ?_ | refine blk_alloc ?_ _)); exact BK424.out⟩
                          have n1_ : Aside0 (Below w.heap.size w (((w47.setCell ⟨gb424, 0, none⟩ (.string ((rd_T119 l0 x7_1).f0))).setCell ⟨gb424, 1, none⟩ (.int .i64 ((rd_T119 l0 x7_1).f1))).setCell ⟨gb424, 2, none⟩ (.bool false))) := ⟨bW⟩
                          (try clear BK424)
                          (try clear HB)
                          generalize (((w47.setCell ⟨gb424, 0, none⟩ (.string ((rd_T119 l0 x7_1).f0))).setCell ⟨gb424, 1, none⟩ (.int .i64 ((rd_T119 l0 x7_1).f1))).setCell ⟨gb424, 2, none⟩ (.bool false)) = w49 at n0_ n1_ ⊢
                          have BK424 := n0_
                          have HB := n1_
                          clear n0_ n1_
                          have n0_ := Aside0.mk (blk_drew BK424.out)
                          have n1_ := Aside0.mk (below_drew1 HB.out)
                          clear BK424
                          clear HB
                          have BK424 := n0_
                          have HB := n1_
                          clear n0_ n1_
                          have p428 : 0 ≤ ((ji38) : Int) := odt
                          have q428 : (ji38) < (l0.length : Int) := odt
                          obtain ⟨ad428, e428, hx428_0, hx428_1, hx428_2⟩ := at_T119 HR0.out (ji38) p428 q428
                          have hw428_2 := hx428_2
                          have hw428_1 := hx428_1
                          have hw428_0 := hx428_0
                          (try rw [← Nbq9.out] at hx428_2)
                          obtain rfl : ad423 = ad428 := (by injection e428)
                          replace hx428_0 := (HB.out.cell (World.block_lt_of_cell? w _ hx428_0)).trans hx428_0
                          replace hx428_1 := (HB.out.cell (World.block_lt_of_cell? w _ hx428_1)).trans hx428_1
                          replace hx428_2 := (HB.out.cell (World.block_lt_of_cell? w _ hx428_2)).trans hx428_2
                          replace p428 := eq_true p428
                          replace q428 := eq_true q428
                          refine start_ (n := 34) (S := fun w' => w'.cell? ⟨gb424, 0, none⟩ = some (.string ((rd_T119 l0 x7_1).f0)) ∧ w'.cell? ⟨gb424, 1, none⟩ = some (.int .i64 ((rd_T119 l0 x7_1).f1)) ∧ w'.cell? ⟨gb424, 2, none⟩ = some (.bool false) ∧ w'.cell? (ad423.add (((ji38)).toNat * 3)) = some (.string ((rd_T119 l0 (ji38)).f0)) ∧ w'.cell? ⟨(ad423.add (((ji38)).toNat * 3)).block, (ad423.add (((ji38)).toNat * 3)).off + 1, none⟩ = some (.int .i64 ((rd_T119 l0 (ji38)).f1)) ∧ w'.cell? ⟨(ad423.add (((ji38)).toNat * 3)).block, (ad423.add (((ji38)).toNat * 3)).off + 2, none⟩ = some (.bool ((rd_T119 l0 (ji38)).f2))) (ds := []) impl_EditsOK.m0 (by kernel_rfl) rfl rfl ⟨(blk_cell BK424.out 0).trans rfl, (blk_cell BK424.out 1).trans rfl, (blk_cell BK424.out 2).trans rfl, ((HB.out.cell (World.block_lt_of_cell? w _ hw428_0)).trans hw428_0), ((HB.out.cell (World.block_lt_of_cell? w _ hw428_1)).trans hw428_1), ((HB.out.cell (World.block_lt_of_cell? w _ hw428_2)).trans hw428_2)⟩ (fun hHeld => ?_); refine with_tabW impl_EditsOK.tab4 impl_EditsOK.bits4 (fun HT_ HW_ => ?_)
                          generalize w49.drew = w50 at BK424 HB hx428_0 hx428_1 hx428_2 hHeld ⊢
                          refine pure_ (i := 0) (N := some 12) (v := ?_) (a' := ?_) impl_EditsOK.m1 rfl rfl (any_of HT_.out (by kernel_rfl)) (fun _ _ _ h => h) (Or.inl ⟨by rfl, ?_⟩) ?_ ?_; rotate_left; (focus intro w'; go_simp; with_reducible rfl); rotate_left; (focus simp only [pt, i64_w, i32_w]; rfl)
                          refine take_ (i := 1) (N := some 13) (v := ?_) (a' := ?_) impl_EditsOK.m2 rfl rfl (take_ofW HT_.out HW_.out (by kernel_rfl)) (fun _ _ _ h => h) (Or.inl ⟨by rfl, ?_⟩) hHeld ?_ ?_; rotate_left; (focus rintro w' ⟨s0, s1, s2, s3, s4, s5⟩; go_simp; with_reducible rfl); rotate_left; (focus simp only [pt, i64_w, i32_w]; rfl)
                          refine one_ (i := 2) (N := some 14) impl_EditsOK.m3 rfl rfl (one_of HT_.out (by kernel_rfl)) (by decide) (fun K hK => ?_)
                          refine goes_ Try.func89 (by kernel_rfl) rfl #[.string ((rd_T119 l0 x7_1).f0)] (by rfl) rfl rfl gA ?_
                          with_reducible refine (impl_NameOK.calls ((rd_T119 l0 x7_1).f0) true _ A5.out).mono ?_
                          rintro e w51 ⟨rfl, hb⟩
                          refine ⟨_, rfl, ?_⟩
                          have n0_ := Aside0.mk (kb BK424 hb)
                          have n1_ := Aside0.mk (below_step (w := w) bW hb)
                          clear BK424
                          clear HB
                          have BK424 := n0_
                          have HB := n1_
                          clear n0_ n1_
                          (try clear hb)
                          (try clear hb2)
                          (try clear hk)
                          (try clear hi)
                          refine hK.out _ _ ⟨(blk_cell BK424.out 0).trans rfl, (blk_cell BK424.out 1).trans rfl, (blk_cell BK424.out 2).trans rfl, ((HB.out.cell (World.block_lt_of_cell? w _ hw428_0)).trans hw428_0), ((HB.out.cell (World.block_lt_of_cell? w _ hw428_1)).trans hw428_1), ((HB.out.cell (World.block_lt_of_cell? w _ hw428_2)).trans hw428_2)⟩ (fun hHeld => ?_)
                          clear hK K
                          refine norm_ (a' := ?_) ?_ ?_
                          rotate_left
                          · show Act.put _ (some 14) _ = _
                            simp only [Act.put, List.setIfInBounds_toArray, List.set_cons_zero, List.set_cons_succ, i64_w, i32_w]
                            rfl
                          refine pure_ (i := 3) (N := some 15) (v := ?_) (a' := ?_) impl_EditsOK.m4 rfl rfl (any_of HT_.out (by kernel_rfl)) (fun _ _ _ h => h) (Or.inl ⟨by rfl, ?_⟩) ?_ ?_; rotate_left; (focus intro w'; go_simp; with_reducible rfl); rotate_left; (focus simp only [pt, i64_w, i32_w]; rfl)
                          refine pure_ (i := 4) (N := some 16) (v := ?_) (a' := ?_) impl_EditsOK.m5 rfl rfl (any_of HT_.out (by kernel_rfl)) (fun _ _ _ h => h) (Or.inl ⟨by rfl, ?_⟩) ?_ ?_; rotate_left; (focus intro w'; go_simp; with_reducible rfl); rotate_left; (focus simp only [pt, i64_w, i32_w]; rfl)
                          refine pure_ (i := 5) (N := some 17) (v := ?_) (a' := ?_) impl_EditsOK.m6 rfl rfl (any_of HT_.out (by kernel_rfl)) (fun _ _ _ h => h) (Or.inl ⟨by rfl, ?_⟩) ?_ ?_; rotate_left; (focus intro w'; go_simp; with_reducible rfl); rotate_left; (focus simp only [pt, i64_w, i32_w]; rfl)
                          refine take_ (i := 6) (N := some 18) (v := ?_) (a' := ?_) impl_EditsOK.m7 rfl rfl (take_ofW HT_.out HW_.out (by kernel_rfl)) (fun _ _ _ h => h) (Or.inl ⟨by rfl, ?_⟩) hHeld ?_ ?_; rotate_left; (focus rintro w' ⟨s0, s1, s2, s3, s4, s5⟩; go_simp; with_reducible rfl); rotate_left; (focus simp only [pt, i64_w, i32_w]; rfl)
                          refine one_ (i := 7) (N := some 19) impl_EditsOK.m8 rfl rfl (one_of HT_.out (by kernel_rfl)) (by decide) (fun K hK => ?_)
                          refine goes_ Try.func94 (by kernel_rfl) rfl #[.int .i64 ((rd_T119 l0 x7_1).f1)] (by rfl) rfl rfl gA ?_
                          with_reducible refine (impl_isValue.calls ((rd_T119 l0 x7_1).f1) true _ A7.out).mono ?_
                          rintro e w' ⟨rfl, ⟨nd, rfl⟩⟩
                          refine ⟨_, rfl, ?_⟩
                          refine hK.out _ _ ⟨(blk_cell BK424.out 0).trans rfl, (blk_cell BK424.out 1).trans rfl, (blk_cell BK424.out 2).trans rfl, ((HB.out.cell (World.block_lt_of_cell? w _ hw428_0)).trans hw428_0), ((HB.out.cell (World.block_lt_of_cell? w _ hw428_1)).trans hw428_1), ((HB.out.cell (World.block_lt_of_cell? w _ hw428_2)).trans hw428_2)⟩ (fun hHeld => ?_)
                          clear hK K
                          refine norm_ (a' := ?_) ?_ ?_
                          rotate_left
                          · show Act.put _ (some 19) _ = _
                            simp only [Act.put, List.setIfInBounds_toArray, List.set_cons_zero, List.set_cons_succ, i64_w, i32_w]
                            rfl
                          refine pure_ (i := 8) (N := some 20) (v := ?_) (a' := ?_) impl_EditsOK.m9 rfl rfl (any_of HT_.out (by kernel_rfl)) (fun _ _ _ h => h) (Or.inl ⟨by rfl, ?_⟩) ?_ ?_; rotate_left; (focus intro w'; go_simp; with_reducible rfl); rotate_left; (focus simp only [pt, i64_w, i32_w]; rfl)
                          refine pure_ (i := 9) (N := some 21) (v := ?_) (a' := ?_) impl_EditsOK.m10 rfl rfl (any_of HT_.out (by kernel_rfl)) (fun _ _ _ h => h) (Or.inl ⟨by rfl, ?_⟩) ?_ ?_; rotate_left; (focus intro w'; go_simp; with_reducible rfl); rotate_left; (focus simp only [pt, i64_w, i32_w]; rfl)
                          refine pure_ (i := 10) (N := some 22) (v := ?_) (a' := ?_) impl_EditsOK.m11 rfl rfl (any_of HT_.out (by kernel_rfl)) (fun _ _ _ h => h) (Or.inl ⟨by rfl, ?_⟩) ?_ ?_; rotate_left; (focus intro w'; go_simp; with_reducible rfl); rotate_left; (focus simp only [pt, i64_w, i32_w]; rfl)
                          refine pure_ (i := 11) (N := some 23) (v := ?_) (a' := ?_) impl_EditsOK.m12 rfl rfl (any_of HT_.out (by kernel_rfl)) (fun _ _ _ h => h) (Or.inl ⟨by rfl, ?_⟩) ?_ ?_; rotate_left; (focus intro w'; go_simp; with_reducible rfl); rotate_left; (focus simp only [pt, i64_w, i32_w]; rfl)
                          refine take_ (i := 12) (N := some 24) (v := ?_) (a' := ?_) impl_EditsOK.m13 rfl rfl (take_ofW HT_.out HW_.out (by kernel_rfl)) (fun _ _ _ h => h) (Or.inl ⟨by rfl, ?_⟩) hHeld ?_ ?_; rotate_left; (focus rintro w' ⟨s0, s1, s2, s3, s4, s5⟩; go_simp; with_reducible rfl); rotate_left; (focus simp only [pt, i64_w, i32_w]; rfl)
                          refine pure_ (i := 13) (N := some 25) (v := ?_) (a' := ?_) impl_EditsOK.m14 rfl rfl (any_of HT_.out (by kernel_rfl)) (fun _ _ _ h => h) (Or.inl ⟨by rfl, ?_⟩) ?_ ?_; rotate_left; (focus intro w'; go_simp; with_reducible rfl); rotate_left; (focus simp only [pt, i64_w, i32_w]; rfl)
                          refine pure_ (i := 14) (N := some 26) (v := undef) (a' := ?_) impl_EditsOK.m15 rfl rfl (any_of HT_.out (by kernel_rfl)) (fun _ _ _ h => h) (Or.inr ⟨by rfl, rfl⟩) ?_ ?_; rotate_left; (focus simp only [pt, i64_w, i32_w]; rfl)
                          refine pure_ (i := 15) (N := some 27) (v := undef) (a' := ?_) impl_EditsOK.m16 rfl rfl (any_of HT_.out (by kernel_rfl)) (fun _ _ _ h => h) (Or.inr ⟨by rfl, rfl⟩) ?_ ?_; rotate_left; (focus simp only [pt, i64_w, i32_w]; rfl)
                          refine pure_ (i := 16) (N := some 28) (v := undef) (a' := ?_) impl_EditsOK.m17 rfl rfl (any_of HT_.out (by kernel_rfl)) (fun _ _ _ h => h) (Or.inr ⟨by rfl, rfl⟩) ?_ ?_; rotate_left; (focus simp only [pt, i64_w, i32_w]; rfl)
                          refine pure_ (i := 17) (N := some 29) (v := ?_) (a' := ?_) impl_EditsOK.m18 rfl rfl (any_of HT_.out (by kernel_rfl)) (fun _ _ _ h => h) (Or.inl ⟨by rfl, ?_⟩) ?_ ?_; rotate_left; (focus intro w'; go_simp; with_reducible rfl); rotate_left; (focus simp only [pt, i64_w, i32_w]; rfl)
                          refine pure_ (i := 18) (N := some 30) (v := ?_) (a' := ?_) impl_EditsOK.m19 rfl rfl (any_of HT_.out (by kernel_rfl)) (fun _ _ _ h => h) (Or.inl ⟨by rfl, ?_⟩) ?_ ?_; rotate_left; (focus intro w'; go_simp; with_reducible rfl); rotate_left; (focus simp only [pt, i64_w, i32_w]; rfl)
                          refine pure_ (i := 19) (N := some 31) (v := ?_) (a' := ?_) impl_EditsOK.m20 rfl rfl (any_of HT_.out (by kernel_rfl)) (fun _ _ _ h => h) (Or.inl ⟨by rfl, ?_⟩) ?_ ?_; rotate_left; (focus intro w'; go_simp; with_reducible rfl); rotate_left; (focus simp only [pt, i64_w, i32_w]; rfl)
                          refine pure_ (i := 20) (N := some 32) (v := ?_) (a' := ?_) impl_EditsOK.m21 rfl rfl (any_of HT_.out (by kernel_rfl)) (fun _ _ _ h => h) (Or.inl ⟨by rfl, ?_⟩) ?_ ?_; rotate_left; (focus intro w'; go_simp; with_reducible rfl); rotate_left; (focus simp only [pt, i64_w, i32_w]; rfl)
                          refine pure_ (i := 21) (N := some 33) (v := ?_) (a' := ?_) impl_EditsOK.m22 rfl rfl (any_of HT_.out (by kernel_rfl)) (fun _ _ _ h => h) (Or.inl ⟨by rfl, ?_⟩) ?_ ?_; rotate_left; (focus intro w'; go_simp; with_reducible rfl); rotate_left; (focus simp only [pt, i64_w, i32_w]; rfl)
                          refine pure_ (i := 22) (N := some 34) (v := ?_) (a' := ?_) impl_EditsOK.m23 rfl rfl (any_of HT_.out (by kernel_rfl)) (fun _ _ _ h => h) (Or.inl ⟨by rfl, ?_⟩) ?_ ?_; rotate_left; (focus intro w'; go_simp; with_reducible rfl); rotate_left; (focus simp only [pt, i64_w, i32_w]; rfl)
                          refine pure_ (i := 23) (N := some 35) (v := ?_) (a' := ?_) impl_EditsOK.m24 rfl rfl (any_of HT_.out (by kernel_rfl)) (fun _ _ _ h => h) (Or.inl ⟨by rfl, ?_⟩) ?_ ?_; rotate_left; (focus intro w'; go_simp; with_reducible rfl); rotate_left; (focus simp only [pt, i64_w, i32_w]; rfl)
                          refine pure_ (i := 24) (N := some 36) (v := ?_) (a' := ?_) impl_EditsOK.m25 rfl rfl (any_of HT_.out (by kernel_rfl)) (fun _ _ _ h => h) (Or.inl ⟨by rfl, ?_⟩) ?_ ?_; rotate_left; (focus intro w'; go_simp; with_reducible rfl); rotate_left; (focus simp only [pt, i64_w, i32_w]; rfl)
                          refine pure_ (i := 25) (N := some 37) (v := ?_) (a' := ?_) impl_EditsOK.m26 rfl rfl (any_of HT_.out (by kernel_rfl)) (fun _ _ _ h => h) (Or.inl ⟨by rfl, ?_⟩) ?_ ?_; rotate_left; (focus intro w'; go_simp; with_reducible rfl); rotate_left; (focus simp only [pt, i64_w, i32_w]; rfl)
                          refine pure_ (i := 26) (N := some 38) (v := ?_) (a' := ?_) impl_EditsOK.m27 rfl rfl (any_of HT_.out (by kernel_rfl)) (fun _ _ _ h => h) (Or.inl ⟨by rfl, ?_⟩) ?_ ?_; rotate_left; (focus intro w'; go_simp; with_reducible rfl); rotate_left; (focus simp only [pt, i64_w, i32_w]; rfl)
                          refine pure_ (i := 27) (N := some 39) (v := ?_) (a' := ?_) impl_EditsOK.m28 rfl rfl (any_of HT_.out (by kernel_rfl)) (fun _ _ _ h => h) (Or.inl ⟨by rfl, ?_⟩) ?_ ?_; rotate_left; (focus intro w'; go_simp; with_reducible rfl); rotate_left; (focus simp only [pt, i64_w, i32_w]; rfl)
                          refine pure_ (i := 29) (N := some 41) (v := ?_) (a' := ?_) impl_EditsOK.m29 rfl rfl (any_of HT_.out (by kernel_rfl)) (fun _ _ _ h => h) (Or.inl ⟨by rfl, ?_⟩) ?_ ?_; rotate_left; (focus intro w'; go_simp; with_reducible rfl); rotate_left; (focus simp only [pt, i64_w, i32_w]; rfl)
                          refine take_ (i := 28) (N := some 40) (v := ?_) (a' := ?_) impl_EditsOK.m30 rfl rfl (take_ofW HT_.out HW_.out (by kernel_rfl)) (fun _ _ _ h => h) (Or.inl ⟨by rfl, ?_⟩) hHeld ?_ ?_; rotate_left; (focus rintro w' ⟨s0, s1, s2, s3, s4, s5⟩; go_simp; with_reducible rfl); rotate_left; (focus simp only [pt, i64_w, i32_w]; rfl)
                          refine take_ (i := 30) (N := some 42) (v := ?_) (a' := ?_) impl_EditsOK.m31 rfl rfl (take_ofW HT_.out HW_.out (by kernel_rfl)) (fun _ _ _ h => h) (Or.inl ⟨by rfl, ?_⟩) hHeld ?_ ?_; rotate_left; (focus rintro w' ⟨s0, s1, s2, s3, s4, s5⟩; go_simp; with_reducible rfl); rotate_left; (focus simp only [pt, i64_w, i32_w]; rfl)
                          refine pure_ (i := 31) (N := some 43) (v := ?_) (a' := ?_) impl_EditsOK.m32 rfl rfl (any_of HT_.out (by kernel_rfl)) (fun _ _ _ h => h) (Or.inl ⟨by rfl, ?_⟩) ?_ ?_; rotate_left; (focus intro w'; go_simp; with_reducible rfl); rotate_left; (focus simp only [pt, i64_w, i32_w]; rfl)
                          refine pure_ (i := 32) (N := some 44) (v := ?_) (a' := ?_) impl_EditsOK.m33 rfl rfl (any_of HT_.out (by kernel_rfl)) (fun _ _ _ h => h) (Or.inl ⟨by rfl, ?_⟩) ?_ ?_; rotate_left; (focus intro w'; go_simp; with_reducible rfl); rotate_left; (focus simp only [pt, i64_w, i32_w]; rfl)
                          refine pure_ (i := 33) (N := some 45) (v := ?_) (a' := ?_) impl_EditsOK.m34 rfl rfl (any_of HT_.out (by kernel_rfl)) (fun _ _ _ h => h) (Or.inl ⟨by rfl, ?_⟩) ?_ ?_; rotate_left; (focus intro w'; go_simp; with_reducible rfl); rotate_left; (focus simp only [pt, i64_w, i32_w]; rfl)
                          refine done_ (done_of HT_.out (by kernel_rfl)) ?_
                          try go_wp2
                          go_ret
                          exact ⟨by first | rfl | (simp [errW_none, errW_some] <;> rfl) | (simp only [← hji38]; first | rfl | (simp [errW_none, errW_some] <;> rfl)) | (simp [*, errW_none, errW_some] <;> rfl), bW⟩
                      · rw [if_neg c40] at H
                        exact absurd H (by simp)
                    · rw [if_neg c39] at H
                      exact absurd H (by simp)
                  · rw [if_neg c37] at H
                    have c37b0 : decide (0 < x7_1) = false := decide_eq_false c37
                    clear c37
                    have H' := Aside0.mk H
                    clear H
                    have p423 : 0 ≤ (x7_1 : Int) := odt
                    have q423 : x7_1 < (l0.length : Int) := odt
                    obtain ⟨ad423, e423, hx423_0, hx423_1, hx423_2⟩ := at_T119 HR0.out x7_1 p423 q423
                    (try rw [← Nbq9.out] at hx423_2)
                    cases e423
                    replace hx423_0 := (HB.out.cell (World.block_lt_of_cell? w _ hx423_0)).trans hx423_0
                    replace hx423_1 := (HB.out.cell (World.block_lt_of_cell? w _ hx423_1)).trans hx423_1
                    replace hx423_2 := (HB.out.cell (World.block_lt_of_cell? w _ hx423_2)).trans hx423_2
                    replace p423 := eq_true p423
                    replace q423 := eq_true q423
                    try go_wp2_with (first | ((with_reducible refine gate_dst (N := 4) rfl ?_); refine bE (N := 4) (cs := #[.string (⟨#[]⟩ : ByteArray), .int .i64 0, .bool false]) (t := 119) ?_; intro gb424 hg w52 hbox hb; have n0_ := Aside0.mk (below_step (w := w) bW hb); have n1_ := Aside0.mk (hbox); have n2_ := Aside0.mk (gS (w := w) hg); have n3_ := n2_; clear HB; have HB := n0_; have BK424 := n1_; have GW424 := n2_; have GE424 := n3_; clear n0_ n1_ n2_ n3_; clear hb hbox hg; obtain ⟨hcz53_0, hcz53_1, hcz53_2⟩ := cz3 BK424; obtain ⟨hfz53_0, hfz53_1, hfz53_2⟩ := fz3 BK424))
                    have n0_ : Aside0 ((((w52.setCell ⟨gb424, 0, none⟩ (.string ((rd_T119 l0 x7_1).f0))).setCell ⟨gb424, 1, none⟩ (.int .i64 ((rd_T119 l0 x7_1).f1))).setCell ⟨gb424, 2, none⟩ (.bool false)).heap[gb424]? = some (.cells #[.string ((rd_T119 l0 x7_1).f0), .int .i64 ((rd_T119 l0 x7_1).f1), .bool false] 119 (0, 0))) := ⟨by (with_reducible repeat (first | refine blk_drewN ?_ _ | refine blk_drew ?_ | refine blk_alloc ?_ _)); refine blk_put (cs := #[.string ((rd_T119 l0 x7_1).f0), .int .i64 ((rd_T119 l0 x7_1).f1), .bool false]) ?_ 2 _ rfl; (with_reducible repeat (first | refine blk_drewN ?_ _ | refine blk_drew ?_ | refine blk_alloc ?_ _)); refine blk_put (cs := #[.string ((rd_T119 l0 x7_1).f0), .int .i64 0, .bool false]) ?_ 1 _ rfl; (with_reducible repeat (first | refine blk_drewN ?_ _ | refine blk_drew ?_ | refine blk_alloc ?_ _)); refine blk_put (cs := #[.string (⟨#[]⟩ : ByteArray), .int .i64 0, .bool false]) ?_ 0 _ rfl; (with_reducible repeat (first | refine blk_drewN ?_ _ | refine blk_drew ?_ | refine blk_alloc ?_ _)); exact BK424.out⟩
                    have n1_ : Aside0 (Below w.heap.size w (((w52.setCell ⟨gb424, 0, none⟩ (.string ((rd_T119 l0 x7_1).f0))).setCell ⟨gb424, 1, none⟩ (.int .i64 ((rd_T119 l0 x7_1).f1))).setCell ⟨gb424, 2, none⟩ (.bool false))) := ⟨bW⟩
                    (try clear BK424)
                    (try clear HB)
                    generalize (((w52.setCell ⟨gb424, 0, none⟩ (.string ((rd_T119 l0 x7_1).f0))).setCell ⟨gb424, 1, none⟩ (.int .i64 ((rd_T119 l0 x7_1).f1))).setCell ⟨gb424, 2, none⟩ (.bool false)) = w54 at n0_ n1_ ⊢
                    have BK424 := n0_
                    have HB := n1_
                    clear n0_ n1_
                    have n0_ := Aside0.mk (blk_drew BK424.out)
                    have n1_ := Aside0.mk (below_drew1 HB.out)
                    clear BK424
                    clear HB
                    have BK424 := n0_
                    have HB := n1_
                    clear n0_ n1_
                    refine start_ (n := 34) (S := fun w' => w'.cell? ⟨gb424, 0, none⟩ = some (.string ((rd_T119 l0 x7_1).f0)) ∧ w'.cell? ⟨gb424, 1, none⟩ = some (.int .i64 ((rd_T119 l0 x7_1).f1)) ∧ w'.cell? ⟨gb424, 2, none⟩ = some (.bool false)) (ds := []) impl_EditsOK.m0 (by kernel_rfl) rfl rfl ⟨(blk_cell BK424.out 0).trans rfl, (blk_cell BK424.out 1).trans rfl, (blk_cell BK424.out 2).trans rfl⟩ (fun hHeld => ?_); refine with_tabW impl_EditsOK.tab4 impl_EditsOK.bits4 (fun HT_ HW_ => ?_)
                    generalize w54.drew = w55 at BK424 HB hHeld ⊢
                    refine pure_ (i := 0) (N := some 12) (v := ?_) (a' := ?_) impl_EditsOK.m1 rfl rfl (any_of HT_.out (by kernel_rfl)) (fun _ _ _ h => h) (Or.inl ⟨by rfl, ?_⟩) ?_ ?_; rotate_left; (focus intro w'; go_simp; with_reducible rfl); rotate_left; (focus simp only [pt, i64_w, i32_w]; rfl)
                    refine take_ (i := 1) (N := some 13) (v := ?_) (a' := ?_) impl_EditsOK.m2 rfl rfl (take_ofW HT_.out HW_.out (by kernel_rfl)) (fun _ _ _ h => h) (Or.inl ⟨by rfl, ?_⟩) hHeld ?_ ?_; rotate_left; (focus rintro w' ⟨s0, s1, s2⟩; go_simp; with_reducible rfl); rotate_left; (focus simp only [pt, i64_w, i32_w]; rfl)
                    refine one_ (i := 2) (N := some 14) impl_EditsOK.m3 rfl rfl (one_of HT_.out (by kernel_rfl)) (by decide) (fun K hK => ?_)
                    refine goes_ Try.func89 (by kernel_rfl) rfl #[.string ((rd_T119 l0 x7_1).f0)] (by rfl) rfl rfl gA ?_
                    with_reducible refine (impl_NameOK.calls ((rd_T119 l0 x7_1).f0) true _ A5.out).mono ?_
                    rintro e w56 ⟨rfl, hb⟩
                    refine ⟨_, rfl, ?_⟩
                    have n0_ := Aside0.mk (kb BK424 hb)
                    have n1_ := Aside0.mk (below_step (w := w) bW hb)
                    clear BK424
                    clear HB
                    have BK424 := n0_
                    have HB := n1_
                    clear n0_ n1_
                    (try clear hb)
                    (try clear hb2)
                    (try clear hk)
                    (try clear hi)
                    refine hK.out _ _ ⟨(blk_cell BK424.out 0).trans rfl, (blk_cell BK424.out 1).trans rfl, (blk_cell BK424.out 2).trans rfl⟩ (fun hHeld => ?_)
                    clear hK K
                    refine norm_ (a' := ?_) ?_ ?_
                    rotate_left
                    · show Act.put _ (some 14) _ = _
                      simp only [Act.put, List.setIfInBounds_toArray, List.set_cons_zero, List.set_cons_succ, i64_w, i32_w]
                      rfl
                    refine pure_ (i := 3) (N := some 15) (v := ?_) (a' := ?_) impl_EditsOK.m4 rfl rfl (any_of HT_.out (by kernel_rfl)) (fun _ _ _ h => h) (Or.inl ⟨by rfl, ?_⟩) ?_ ?_; rotate_left; (focus intro w'; go_simp; with_reducible rfl); rotate_left; (focus simp only [pt, i64_w, i32_w]; rfl)
                    refine pure_ (i := 4) (N := some 16) (v := ?_) (a' := ?_) impl_EditsOK.m5 rfl rfl (any_of HT_.out (by kernel_rfl)) (fun _ _ _ h => h) (Or.inl ⟨by rfl, ?_⟩) ?_ ?_; rotate_left; (focus intro w'; go_simp; with_reducible rfl); rotate_left; (focus simp only [pt, i64_w, i32_w]; rfl)
                    refine pure_ (i := 5) (N := some 17) (v := ?_) (a' := ?_) impl_EditsOK.m6 rfl rfl (any_of HT_.out (by kernel_rfl)) (fun _ _ _ h => h) (Or.inl ⟨by rfl, ?_⟩) ?_ ?_; rotate_left; (focus intro w'; go_simp; with_reducible rfl); rotate_left; (focus simp only [pt, i64_w, i32_w]; rfl)
                    refine take_ (i := 6) (N := some 18) (v := ?_) (a' := ?_) impl_EditsOK.m7 rfl rfl (take_ofW HT_.out HW_.out (by kernel_rfl)) (fun _ _ _ h => h) (Or.inl ⟨by rfl, ?_⟩) hHeld ?_ ?_; rotate_left; (focus rintro w' ⟨s0, s1, s2⟩; go_simp; with_reducible rfl); rotate_left; (focus simp only [pt, i64_w, i32_w]; rfl)
                    refine one_ (i := 7) (N := some 19) impl_EditsOK.m8 rfl rfl (one_of HT_.out (by kernel_rfl)) (by decide) (fun K hK => ?_)
                    refine goes_ Try.func94 (by kernel_rfl) rfl #[.int .i64 ((rd_T119 l0 x7_1).f1)] (by rfl) rfl rfl gA ?_
                    with_reducible refine (impl_isValue.calls ((rd_T119 l0 x7_1).f1) true _ A7.out).mono ?_
                    rintro e w' ⟨rfl, ⟨nd, rfl⟩⟩
                    refine ⟨_, rfl, ?_⟩
                    refine hK.out _ _ ⟨(blk_cell BK424.out 0).trans rfl, (blk_cell BK424.out 1).trans rfl, (blk_cell BK424.out 2).trans rfl⟩ (fun hHeld => ?_)
                    clear hK K
                    refine norm_ (a' := ?_) ?_ ?_
                    rotate_left
                    · show Act.put _ (some 19) _ = _
                      simp only [Act.put, List.setIfInBounds_toArray, List.set_cons_zero, List.set_cons_succ, i64_w, i32_w]
                      rfl
                    refine pure_ (i := 8) (N := some 20) (v := ?_) (a' := ?_) impl_EditsOK.m9 rfl rfl (any_of HT_.out (by kernel_rfl)) (fun _ _ _ h => h) (Or.inl ⟨by rfl, ?_⟩) ?_ ?_; rotate_left; (focus intro w'; go_simp; with_reducible rfl); rotate_left; (focus simp only [pt, i64_w, i32_w]; rfl)
                    refine pure_ (i := 9) (N := some 21) (v := ?_) (a' := ?_) impl_EditsOK.m10 rfl rfl (any_of HT_.out (by kernel_rfl)) (fun _ _ _ h => h) (Or.inl ⟨by rfl, ?_⟩) ?_ ?_; rotate_left; (focus intro w'; go_simp; with_reducible rfl); rotate_left; (focus simp only [pt, i64_w, i32_w]; rfl)
                    refine pure_ (i := 10) (N := some 22) (v := ?_) (a' := ?_) impl_EditsOK.m11 rfl rfl (any_of HT_.out (by kernel_rfl)) (fun _ _ _ h => h) (Or.inl ⟨by rfl, ?_⟩) ?_ ?_; rotate_left; (focus intro w'; go_simp; with_reducible rfl); rotate_left; (focus simp only [pt, i64_w, i32_w]; rfl)
                    refine pure_ (i := 11) (N := some 23) (v := ?_) (a' := ?_) impl_EditsOK.m12 rfl rfl (any_of HT_.out (by kernel_rfl)) (fun _ _ _ h => h) (Or.inl ⟨by rfl, ?_⟩) ?_ ?_; rotate_left; (focus intro w'; go_simp; with_reducible rfl); rotate_left; (focus simp only [pt, i64_w, i32_w]; rfl)
                    refine take_ (i := 12) (N := some 24) (v := ?_) (a' := ?_) impl_EditsOK.m13 rfl rfl (take_ofW HT_.out HW_.out (by kernel_rfl)) (fun _ _ _ h => h) (Or.inl ⟨by rfl, ?_⟩) hHeld ?_ ?_; rotate_left; (focus rintro w' ⟨s0, s1, s2⟩; go_simp; with_reducible rfl); rotate_left; (focus simp only [pt, i64_w, i32_w]; rfl)
                    refine pure_ (i := 13) (N := some 25) (v := ?_) (a' := ?_) impl_EditsOK.m14 rfl rfl (any_of HT_.out (by kernel_rfl)) (fun _ _ _ h => h) (Or.inl ⟨by rfl, ?_⟩) ?_ ?_; rotate_left; (focus intro w'; go_simp; with_reducible rfl); rotate_left; (focus simp only [pt, i64_w, i32_w]; rfl)
                    refine pure_ (i := 14) (N := some 26) (v := undef) (a' := ?_) impl_EditsOK.m15 rfl rfl (any_of HT_.out (by kernel_rfl)) (fun _ _ _ h => h) (Or.inr ⟨by rfl, rfl⟩) ?_ ?_; rotate_left; (focus simp only [pt, i64_w, i32_w]; rfl)
                    refine pure_ (i := 15) (N := some 27) (v := undef) (a' := ?_) impl_EditsOK.m16 rfl rfl (any_of HT_.out (by kernel_rfl)) (fun _ _ _ h => h) (Or.inr ⟨by rfl, rfl⟩) ?_ ?_; rotate_left; (focus simp only [pt, i64_w, i32_w]; rfl)
                    refine pure_ (i := 16) (N := some 28) (v := undef) (a' := ?_) impl_EditsOK.m17 rfl rfl (any_of HT_.out (by kernel_rfl)) (fun _ _ _ h => h) (Or.inr ⟨by rfl, rfl⟩) ?_ ?_; rotate_left; (focus simp only [pt, i64_w, i32_w]; rfl)
                    refine pure_ (i := 17) (N := some 29) (v := ?_) (a' := ?_) impl_EditsOK.m18 rfl rfl (any_of HT_.out (by kernel_rfl)) (fun _ _ _ h => h) (Or.inl ⟨by rfl, ?_⟩) ?_ ?_; rotate_left; (focus intro w'; go_simp; with_reducible rfl); rotate_left; (focus simp only [pt, i64_w, i32_w]; rfl)
                    refine pure_ (i := 18) (N := some 30) (v := ?_) (a' := ?_) impl_EditsOK.m19 rfl rfl (any_of HT_.out (by kernel_rfl)) (fun _ _ _ h => h) (Or.inl ⟨by rfl, ?_⟩) ?_ ?_; rotate_left; (focus intro w'; go_simp; with_reducible rfl); rotate_left; (focus simp only [pt, i64_w, i32_w]; rfl)
                    refine pure_ (i := 19) (N := some 31) (v := ?_) (a' := ?_) impl_EditsOK.m20 rfl rfl (any_of HT_.out (by kernel_rfl)) (fun _ _ _ h => h) (Or.inl ⟨by rfl, ?_⟩) ?_ ?_; rotate_left; (focus intro w'; go_simp; with_reducible rfl); rotate_left; (focus simp only [pt, i64_w, i32_w]; rfl)
                    refine pure_ (i := 20) (N := some 32) (v := ?_) (a' := ?_) impl_EditsOK.m21 rfl rfl (any_of HT_.out (by kernel_rfl)) (fun _ _ _ h => h) (Or.inl ⟨by rfl, ?_⟩) ?_ ?_; rotate_left; (focus intro w'; go_simp; with_reducible rfl); rotate_left; (focus simp only [pt, i64_w, i32_w]; rfl)
                    refine pure_ (i := 21) (N := some 33) (v := ?_) (a' := ?_) impl_EditsOK.m22 rfl rfl (any_of HT_.out (by kernel_rfl)) (fun _ _ _ h => h) (Or.inl ⟨by rfl, ?_⟩) ?_ ?_; rotate_left; (focus intro w'; go_simp; with_reducible rfl); rotate_left; (focus simp only [pt, i64_w, i32_w]; rfl)
                    refine pure_ (i := 22) (N := some 34) (v := ?_) (a' := ?_) impl_EditsOK.m23 rfl rfl (any_of HT_.out (by kernel_rfl)) (fun _ _ _ h => h) (Or.inl ⟨by rfl, ?_⟩) ?_ ?_; rotate_left; (focus intro w'; go_simp; with_reducible rfl); rotate_left; (focus simp only [pt, i64_w, i32_w]; rfl)
                    refine pure_ (i := 23) (N := some 35) (v := undef) (a' := ?_) impl_EditsOK.m24 rfl rfl (any_of HT_.out (by kernel_rfl)) (fun _ _ _ h => h) (Or.inr ⟨by rfl, rfl⟩) ?_ ?_; rotate_left; (focus simp only [pt, i64_w, i32_w]; rfl)
                    refine pure_ (i := 24) (N := some 36) (v := undef) (a' := ?_) impl_EditsOK.m25 rfl rfl (any_of HT_.out (by kernel_rfl)) (fun _ _ _ h => h) (Or.inr ⟨by rfl, rfl⟩) ?_ ?_; rotate_left; (focus simp only [pt, i64_w, i32_w]; rfl)
                    refine pure_ (i := 25) (N := some 37) (v := undef) (a' := ?_) impl_EditsOK.m26 rfl rfl (any_of HT_.out (by kernel_rfl)) (fun _ _ _ h => h) (Or.inr ⟨by rfl, rfl⟩) ?_ ?_; rotate_left; (focus simp only [pt, i64_w, i32_w]; rfl)
                    refine pure_ (i := 26) (N := some 38) (v := undef) (a' := ?_) impl_EditsOK.m27 rfl rfl (any_of HT_.out (by kernel_rfl)) (fun _ _ _ h => h) (Or.inr ⟨by rfl, rfl⟩) ?_ ?_; rotate_left; (focus simp only [pt, i64_w, i32_w]; rfl)
                    refine pure_ (i := 27) (N := some 39) (v := undef) (a' := ?_) impl_EditsOK.m28 rfl rfl (any_of HT_.out (by kernel_rfl)) (fun _ _ _ h => h) (Or.inr ⟨by rfl, rfl⟩) ?_ ?_; rotate_left; (focus simp only [pt, i64_w, i32_w]; rfl)
                    refine pure_ (i := 28) (N := some 40) (v := undef) (a' := ?_) impl_EditsOK.m35 rfl rfl (any_of HT_.out (by kernel_rfl)) (fun _ _ _ h => h) (Or.inr ⟨by rfl, rfl⟩) ?_ ?_; rotate_left; (focus simp only [pt, i64_w, i32_w]; rfl)
                    refine pure_ (i := 29) (N := some 41) (v := undef) (a' := ?_) impl_EditsOK.m30 rfl rfl (any_of HT_.out (by kernel_rfl)) (fun _ _ _ h => h) (Or.inr ⟨by rfl, rfl⟩) ?_ ?_; rotate_left; (focus simp only [pt, i64_w, i32_w]; rfl)
                    refine pure_ (i := 30) (N := some 42) (v := undef) (a' := ?_) impl_EditsOK.m31 rfl rfl (any_of HT_.out (by kernel_rfl)) (fun _ _ _ h => h) (Or.inr ⟨by rfl, rfl⟩) ?_ ?_; rotate_left; (focus simp only [pt, i64_w, i32_w]; rfl)
                    refine pure_ (i := 31) (N := some 43) (v := undef) (a' := ?_) impl_EditsOK.m32 rfl rfl (any_of HT_.out (by kernel_rfl)) (fun _ _ _ h => h) (Or.inr ⟨by rfl, rfl⟩) ?_ ?_; rotate_left; (focus simp only [pt, i64_w, i32_w]; rfl)
                    refine pure_ (i := 32) (N := some 44) (v := ?_) (a' := ?_) impl_EditsOK.m33 rfl rfl (any_of HT_.out (by kernel_rfl)) (fun _ _ _ h => h) (Or.inl ⟨by rfl, ?_⟩) ?_ ?_; rotate_left; (focus intro w'; go_simp; with_reducible rfl); rotate_left; (focus simp only [pt, i64_w, i32_w]; rfl)
                    refine pure_ (i := 33) (N := some 45) (v := ?_) (a' := ?_) impl_EditsOK.m34 rfl rfl (any_of HT_.out (by kernel_rfl)) (fun _ _ _ h => h) (Or.inl ⟨by rfl, ?_⟩) ?_ ?_; rotate_left; (focus intro w'; go_simp; with_reducible rfl); rotate_left; (focus simp only [pt, i64_w, i32_w]; rfl)
                    refine done_ (done_of HT_.out (by kernel_rfl)) ?_
                    try go_wp2
                    go_roundg k1
                    case measure => have := HK1.out; omega
                    case rel => exact ⟨(wrap64 (x7_1 + 1)), vE, H', ⟨by have := HK1.out; omega⟩, ⟨bW⟩⟩
              · replace c8 := Bool.eq_false_iff.mpr c8
                subst c8
                have H1 : (some false) = some r := by rw [if_neg (show ¬ (false = true) by decide)] at H; exact H
                clear H
                have H := H1
                clear H1
                obtain rfl := Option.some.inj H
                have p423 : 0 ≤ (x7_1 : Int) := odt
                have q423 : x7_1 < (l0.length : Int) := odt
                obtain ⟨ad423, e423, hx423_0, hx423_1, hx423_2⟩ := at_T119 HR0.out x7_1 p423 q423
                cases e423
                replace hx423_0 := (HB.out.cell (World.block_lt_of_cell? w _ hx423_0)).trans hx423_0
                replace hx423_1 := (HB.out.cell (World.block_lt_of_cell? w _ hx423_1)).trans hx423_1
                replace hx423_2 := (HB.out.cell (World.block_lt_of_cell? w _ hx423_2)).trans hx423_2
                replace p423 := eq_true p423
                replace q423 := eq_true q423
                try go_wp2_with (first | ((with_reducible refine gate_dst (N := 4) rfl ?_); refine bE (N := 4) (cs := #[.string (⟨#[]⟩ : ByteArray), .int .i64 0, .bool false]) (t := 119) ?_; intro gb424 hg w57 hbox hb; have n0_ := Aside0.mk (below_step (w := w) bW hb); have n1_ := Aside0.mk (hbox); have n2_ := Aside0.mk (gS (w := w) hg); have n3_ := n2_; clear HB; have HB := n0_; have BK424 := n1_; have GW424 := n2_; have GE424 := n3_; clear n0_ n1_ n2_ n3_; clear hb hbox hg; obtain ⟨hcz58_0, hcz58_1, hcz58_2⟩ := cz3 BK424; obtain ⟨hfz58_0, hfz58_1, hfz58_2⟩ := fz3 BK424))
                have n0_ : Aside0 ((((w57.setCell ⟨gb424, 0, none⟩ (.string ((rd_T119 l0 x7_1).f0))).setCell ⟨gb424, 1, none⟩ (.int .i64 ((rd_T119 l0 x7_1).f1))).setCell ⟨gb424, 2, none⟩ (.bool ((rd_T119 l0 x7_1).f2))).heap[gb424]? = some (.cells #[.string ((rd_T119 l0 x7_1).f0), .int .i64 ((rd_T119 l0 x7_1).f1), .bool ((rd_T119 l0 x7_1).f2)] 119 (0, 0))) := ⟨by (with_reducible repeat (first | refine blk_drewN ?_ _ | refine blk_drew ?_ | refine blk_alloc ?_ _)); refine blk_put (cs := #[.string ((rd_T119 l0 x7_1).f0), .int .i64 ((rd_T119 l0 x7_1).f1), .bool false]) ?_ 2 _ rfl; (with_reducible repeat (first | refine blk_drewN ?_ _ | refine blk_drew ?_ | refine blk_alloc ?_ _)); refine blk_put (cs := #[.string ((rd_T119 l0 x7_1).f0), .int .i64 0, .bool false]) ?_ 1 _ rfl; (with_reducible repeat (first | refine blk_drewN ?_ _ | refine blk_drew ?_ | refine blk_alloc ?_ _)); refine blk_put (cs := #[.string (⟨#[]⟩ : ByteArray), .int .i64 0, .bool false]) ?_ 0 _ rfl; (with_reducible repeat (first | refine blk_drewN ?_ _ | refine blk_drew ?_ | refine blk_alloc ?_ _)); exact BK424.out⟩
                have n1_ : Aside0 (Below w.heap.size w (((w57.setCell ⟨gb424, 0, none⟩ (.string ((rd_T119 l0 x7_1).f0))).setCell ⟨gb424, 1, none⟩ (.int .i64 ((rd_T119 l0 x7_1).f1))).setCell ⟨gb424, 2, none⟩ (.bool ((rd_T119 l0 x7_1).f2)))) := ⟨bW⟩
                (try clear BK424)
                (try clear HB)
                generalize (((w57.setCell ⟨gb424, 0, none⟩ (.string ((rd_T119 l0 x7_1).f0))).setCell ⟨gb424, 1, none⟩ (.int .i64 ((rd_T119 l0 x7_1).f1))).setCell ⟨gb424, 2, none⟩ (.bool ((rd_T119 l0 x7_1).f2))) = w59 at n0_ n1_ ⊢
                have BK424 := n0_
                have HB := n1_
                clear n0_ n1_
                have n0_ := Aside0.mk (blk_drew BK424.out)
                have n1_ := Aside0.mk (below_drew1 HB.out)
                clear BK424
                clear HB
                have BK424 := n0_
                have HB := n1_
                clear n0_ n1_
                refine start_ (n := 34) (S := fun w' => w'.cell? ⟨gb424, 0, none⟩ = some (.string ((rd_T119 l0 x7_1).f0)) ∧ w'.cell? ⟨gb424, 1, none⟩ = some (.int .i64 ((rd_T119 l0 x7_1).f1)) ∧ w'.cell? ⟨gb424, 2, none⟩ = some (.bool ((rd_T119 l0 x7_1).f2))) (ds := []) impl_EditsOK.m0 (by kernel_rfl) rfl rfl ⟨(blk_cell BK424.out 0).trans rfl, (blk_cell BK424.out 1).trans rfl, (blk_cell BK424.out 2).trans rfl⟩ (fun hHeld => ?_); refine with_tabW impl_EditsOK.tab4 impl_EditsOK.bits4 (fun HT_ HW_ => ?_)
                generalize w59.drew = w60 at BK424 HB hHeld ⊢
                refine pure_ (i := 0) (N := some 12) (v := ?_) (a' := ?_) impl_EditsOK.m1 rfl rfl (any_of HT_.out (by kernel_rfl)) (fun _ _ _ h => h) (Or.inl ⟨by rfl, ?_⟩) ?_ ?_; rotate_left; (focus intro w'; go_simp; with_reducible rfl); rotate_left; (focus simp only [pt, i64_w, i32_w]; rfl)
                refine take_ (i := 1) (N := some 13) (v := ?_) (a' := ?_) impl_EditsOK.m2 rfl rfl (take_ofW HT_.out HW_.out (by kernel_rfl)) (fun _ _ _ h => h) (Or.inl ⟨by rfl, ?_⟩) hHeld ?_ ?_; rotate_left; (focus rintro w' ⟨s0, s1, s2⟩; go_simp; with_reducible rfl); rotate_left; (focus simp only [pt, i64_w, i32_w]; rfl)
                refine one_ (i := 2) (N := some 14) impl_EditsOK.m3 rfl rfl (one_of HT_.out (by kernel_rfl)) (by decide) (fun K hK => ?_)
                refine goes_ Try.func89 (by kernel_rfl) rfl #[.string ((rd_T119 l0 x7_1).f0)] (by rfl) rfl rfl gA ?_
                with_reducible refine (impl_NameOK.calls ((rd_T119 l0 x7_1).f0) true _ A5.out).mono ?_
                rintro e w61 ⟨rfl, hb⟩
                refine ⟨_, rfl, ?_⟩
                have n0_ := Aside0.mk (kb BK424 hb)
                have n1_ := Aside0.mk (below_step (w := w) bW hb)
                clear BK424
                clear HB
                have BK424 := n0_
                have HB := n1_
                clear n0_ n1_
                (try clear hb)
                (try clear hb2)
                (try clear hk)
                (try clear hi)
                refine hK.out _ _ ⟨(blk_cell BK424.out 0).trans rfl, (blk_cell BK424.out 1).trans rfl, (blk_cell BK424.out 2).trans rfl⟩ (fun hHeld => ?_)
                clear hK K
                refine norm_ (a' := ?_) ?_ ?_
                rotate_left
                · show Act.put _ (some 14) _ = _
                  simp only [Act.put, List.setIfInBounds_toArray, List.set_cons_zero, List.set_cons_succ, i64_w, i32_w]
                  rfl
                refine pure_ (i := 3) (N := some 15) (v := ?_) (a' := ?_) impl_EditsOK.m4 rfl rfl (any_of HT_.out (by kernel_rfl)) (fun _ _ _ h => h) (Or.inl ⟨by rfl, ?_⟩) ?_ ?_; rotate_left; (focus intro w'; go_simp; with_reducible rfl); rotate_left; (focus simp only [pt, i64_w, i32_w]; rfl)
                refine pure_ (i := 4) (N := some 16) (v := ?_) (a' := ?_) impl_EditsOK.m5 rfl rfl (any_of HT_.out (by kernel_rfl)) (fun _ _ _ h => h) (Or.inl ⟨by rfl, ?_⟩) ?_ ?_; rotate_left; (focus intro w'; go_simp; with_reducible rfl); rotate_left; (focus simp only [pt, i64_w, i32_w]; rfl)
                refine pure_ (i := 5) (N := some 17) (v := ?_) (a' := ?_) impl_EditsOK.m6 rfl rfl (any_of HT_.out (by kernel_rfl)) (fun _ _ _ h => h) (Or.inl ⟨by rfl, ?_⟩) ?_ ?_; rotate_left; (focus intro w'; go_simp; with_reducible rfl); rotate_left; (focus simp only [pt, i64_w, i32_w]; rfl)
                refine take_ (i := 6) (N := some 18) (v := ?_) (a' := ?_) impl_EditsOK.m7 rfl rfl (take_ofW HT_.out HW_.out (by kernel_rfl)) (fun _ _ _ h => h) (Or.inl ⟨by rfl, ?_⟩) hHeld ?_ ?_; rotate_left; (focus rintro w' ⟨s0, s1, s2⟩; go_simp; with_reducible rfl); rotate_left; (focus simp only [pt, i64_w, i32_w]; rfl)
                refine one_ (i := 7) (N := some 19) impl_EditsOK.m8 rfl rfl (one_of HT_.out (by kernel_rfl)) (by decide) (fun K hK => ?_)
                refine goes_ Try.func94 (by kernel_rfl) rfl #[.int .i64 ((rd_T119 l0 x7_1).f1)] (by rfl) rfl rfl gA ?_
                with_reducible refine (impl_isValue.calls ((rd_T119 l0 x7_1).f1) false _ A7.out).mono ?_
                rintro e w' ⟨rfl, ⟨nd, rfl⟩⟩
                refine ⟨_, rfl, ?_⟩
                refine hK.out _ _ ⟨(blk_cell BK424.out 0).trans rfl, (blk_cell BK424.out 1).trans rfl, (blk_cell BK424.out 2).trans rfl⟩ (fun hHeld => ?_)
                clear hK K
                refine norm_ (a' := ?_) ?_ ?_
                rotate_left
                · show Act.put _ (some 19) _ = _
                  simp only [Act.put, List.setIfInBounds_toArray, List.set_cons_zero, List.set_cons_succ, i64_w, i32_w]
                  rfl
                refine pure_ (i := 8) (N := some 20) (v := ?_) (a' := ?_) impl_EditsOK.m9 rfl rfl (any_of HT_.out (by kernel_rfl)) (fun _ _ _ h => h) (Or.inl ⟨by rfl, ?_⟩) ?_ ?_; rotate_left; (focus intro w'; go_simp; with_reducible rfl); rotate_left; (focus simp only [pt, i64_w, i32_w]; rfl)
                refine pure_ (i := 9) (N := some 21) (v := ?_) (a' := ?_) impl_EditsOK.m10 rfl rfl (any_of HT_.out (by kernel_rfl)) (fun _ _ _ h => h) (Or.inl ⟨by rfl, ?_⟩) ?_ ?_; rotate_left; (focus intro w'; go_simp; with_reducible rfl); rotate_left; (focus simp only [pt, i64_w, i32_w]; rfl)
                refine pure_ (i := 10) (N := some 22) (v := ?_) (a' := ?_) impl_EditsOK.m11 rfl rfl (any_of HT_.out (by kernel_rfl)) (fun _ _ _ h => h) (Or.inl ⟨by rfl, ?_⟩) ?_ ?_; rotate_left; (focus intro w'; go_simp; with_reducible rfl); rotate_left; (focus simp only [pt, i64_w, i32_w]; rfl)
                refine pure_ (i := 11) (N := some 23) (v := undef) (a' := ?_) impl_EditsOK.m12 rfl rfl (any_of HT_.out (by kernel_rfl)) (fun _ _ _ h => h) (Or.inr ⟨by rfl, rfl⟩) ?_ ?_; rotate_left; (focus simp only [pt, i64_w, i32_w]; rfl)
                refine pure_ (i := 12) (N := some 24) (v := undef) (a' := ?_) impl_EditsOK.m13 rfl rfl (any_of HT_.out (by kernel_rfl)) (fun _ _ _ h => h) (Or.inr ⟨by rfl, rfl⟩) ?_ ?_; rotate_left; (focus simp only [pt, i64_w, i32_w]; rfl)
                refine pure_ (i := 13) (N := some 25) (v := undef) (a' := ?_) impl_EditsOK.m14 rfl rfl (any_of HT_.out (by kernel_rfl)) (fun _ _ _ h => h) (Or.inr ⟨by rfl, rfl⟩) ?_ ?_; rotate_left; (focus simp only [pt, i64_w, i32_w]; rfl)
                refine pure_ (i := 14) (N := some 26) (v := undef) (a' := ?_) impl_EditsOK.m15 rfl rfl (any_of HT_.out (by kernel_rfl)) (fun _ _ _ h => h) (Or.inr ⟨by rfl, rfl⟩) ?_ ?_; rotate_left; (focus simp only [pt, i64_w, i32_w]; rfl)
                refine pure_ (i := 15) (N := some 27) (v := undef) (a' := ?_) impl_EditsOK.m16 rfl rfl (any_of HT_.out (by kernel_rfl)) (fun _ _ _ h => h) (Or.inr ⟨by rfl, rfl⟩) ?_ ?_; rotate_left; (focus simp only [pt, i64_w, i32_w]; rfl)
                refine pure_ (i := 16) (N := some 28) (v := undef) (a' := ?_) impl_EditsOK.m17 rfl rfl (any_of HT_.out (by kernel_rfl)) (fun _ _ _ h => h) (Or.inr ⟨by rfl, rfl⟩) ?_ ?_; rotate_left; (focus simp only [pt, i64_w, i32_w]; rfl)
                refine pure_ (i := 17) (N := some 29) (v := undef) (a' := ?_) impl_EditsOK.m18 rfl rfl (any_of HT_.out (by kernel_rfl)) (fun _ _ _ h => h) (Or.inr ⟨by rfl, rfl⟩) ?_ ?_; rotate_left; (focus simp only [pt, i64_w, i32_w]; rfl)
                refine pure_ (i := 18) (N := some 30) (v := ?_) (a' := ?_) impl_EditsOK.m19 rfl rfl (any_of HT_.out (by kernel_rfl)) (fun _ _ _ h => h) (Or.inl ⟨by rfl, ?_⟩) ?_ ?_; rotate_left; (focus intro w'; go_simp; with_reducible rfl); rotate_left; (focus simp only [pt, i64_w, i32_w]; rfl)
                refine pure_ (i := 19) (N := some 31) (v := ?_) (a' := ?_) impl_EditsOK.m20 rfl rfl (any_of HT_.out (by kernel_rfl)) (fun _ _ _ h => h) (Or.inl ⟨by rfl, ?_⟩) ?_ ?_; rotate_left; (focus intro w'; go_simp; with_reducible rfl); rotate_left; (focus simp only [pt, i64_w, i32_w]; rfl)
                refine pure_ (i := 20) (N := some 32) (v := undef) (a' := ?_) impl_EditsOK.m21 rfl rfl (any_of HT_.out (by kernel_rfl)) (fun _ _ _ h => h) (Or.inr ⟨by rfl, rfl⟩) ?_ ?_; rotate_left; (focus simp only [pt, i64_w, i32_w]; rfl)
                refine pure_ (i := 21) (N := some 33) (v := undef) (a' := ?_) impl_EditsOK.m22 rfl rfl (any_of HT_.out (by kernel_rfl)) (fun _ _ _ h => h) (Or.inr ⟨by rfl, rfl⟩) ?_ ?_; rotate_left; (focus simp only [pt, i64_w, i32_w]; rfl)
                refine pure_ (i := 22) (N := some 34) (v := undef) (a' := ?_) impl_EditsOK.m23 rfl rfl (any_of HT_.out (by kernel_rfl)) (fun _ _ _ h => h) (Or.inr ⟨by rfl, rfl⟩) ?_ ?_; rotate_left; (focus simp only [pt, i64_w, i32_w]; rfl)
                refine pure_ (i := 23) (N := some 35) (v := undef) (a' := ?_) impl_EditsOK.m24 rfl rfl (any_of HT_.out (by kernel_rfl)) (fun _ _ _ h => h) (Or.inr ⟨by rfl, rfl⟩) ?_ ?_; rotate_left; (focus simp only [pt, i64_w, i32_w]; rfl)
                refine pure_ (i := 24) (N := some 36) (v := undef) (a' := ?_) impl_EditsOK.m25 rfl rfl (any_of HT_.out (by kernel_rfl)) (fun _ _ _ h => h) (Or.inr ⟨by rfl, rfl⟩) ?_ ?_; rotate_left; (focus simp only [pt, i64_w, i32_w]; rfl)
                refine pure_ (i := 25) (N := some 37) (v := undef) (a' := ?_) impl_EditsOK.m26 rfl rfl (any_of HT_.out (by kernel_rfl)) (fun _ _ _ h => h) (Or.inr ⟨by rfl, rfl⟩) ?_ ?_; rotate_left; (focus simp only [pt, i64_w, i32_w]; rfl)
                refine pure_ (i := 26) (N := some 38) (v := undef) (a' := ?_) impl_EditsOK.m27 rfl rfl (any_of HT_.out (by kernel_rfl)) (fun _ _ _ h => h) (Or.inr ⟨by rfl, rfl⟩) ?_ ?_; rotate_left; (focus simp only [pt, i64_w, i32_w]; rfl)
                refine pure_ (i := 27) (N := some 39) (v := undef) (a' := ?_) impl_EditsOK.m28 rfl rfl (any_of HT_.out (by kernel_rfl)) (fun _ _ _ h => h) (Or.inr ⟨by rfl, rfl⟩) ?_ ?_; rotate_left; (focus simp only [pt, i64_w, i32_w]; rfl)
                refine pure_ (i := 28) (N := some 40) (v := undef) (a' := ?_) impl_EditsOK.m35 rfl rfl (any_of HT_.out (by kernel_rfl)) (fun _ _ _ h => h) (Or.inr ⟨by rfl, rfl⟩) ?_ ?_; rotate_left; (focus simp only [pt, i64_w, i32_w]; rfl)
                refine pure_ (i := 29) (N := some 41) (v := undef) (a' := ?_) impl_EditsOK.m30 rfl rfl (any_of HT_.out (by kernel_rfl)) (fun _ _ _ h => h) (Or.inr ⟨by rfl, rfl⟩) ?_ ?_; rotate_left; (focus simp only [pt, i64_w, i32_w]; rfl)
                refine pure_ (i := 30) (N := some 42) (v := undef) (a' := ?_) impl_EditsOK.m31 rfl rfl (any_of HT_.out (by kernel_rfl)) (fun _ _ _ h => h) (Or.inr ⟨by rfl, rfl⟩) ?_ ?_; rotate_left; (focus simp only [pt, i64_w, i32_w]; rfl)
                refine pure_ (i := 31) (N := some 43) (v := undef) (a' := ?_) impl_EditsOK.m32 rfl rfl (any_of HT_.out (by kernel_rfl)) (fun _ _ _ h => h) (Or.inr ⟨by rfl, rfl⟩) ?_ ?_; rotate_left; (focus simp only [pt, i64_w, i32_w]; rfl)
                refine pure_ (i := 32) (N := some 44) (v := undef) (a' := ?_) impl_EditsOK.m33 rfl rfl (any_of HT_.out (by kernel_rfl)) (fun _ _ _ h => h) (Or.inr ⟨by rfl, rfl⟩) ?_ ?_; rotate_left; (focus simp only [pt, i64_w, i32_w]; rfl)
                refine pure_ (i := 33) (N := some 45) (v := ?_) (a' := ?_) impl_EditsOK.m34 rfl rfl (any_of HT_.out (by kernel_rfl)) (fun _ _ _ h => h) (Or.inl ⟨by rfl, ?_⟩) ?_ ?_; rotate_left; (focus intro w'; go_simp; with_reducible rfl); rotate_left; (focus simp only [pt, i64_w, i32_w]; rfl)
                refine done_ (done_of HT_.out (by kernel_rfl)) ?_
                try go_wp2
                go_ret
                exact ⟨rE, bW⟩
            · replace c6 := Bool.eq_false_iff.mpr c6
              subst c6
              have H1 : (some false) = some r := by rw [if_neg (show ¬ (false = true) by decide)] at H; exact H
              clear H
              have H := H1
              clear H1
              obtain rfl := Option.some.inj H
              have p423 : 0 ≤ (x7_1 : Int) := odt
              have q423 : x7_1 < (l0.length : Int) := odt
              obtain ⟨ad423, e423, hx423_0, hx423_1, hx423_2⟩ := at_T119 HR0.out x7_1 p423 q423
              cases e423
              replace hx423_0 := (HB.out.cell (World.block_lt_of_cell? w _ hx423_0)).trans hx423_0
              replace hx423_1 := (HB.out.cell (World.block_lt_of_cell? w _ hx423_1)).trans hx423_1
              replace hx423_2 := (HB.out.cell (World.block_lt_of_cell? w _ hx423_2)).trans hx423_2
              replace p423 := eq_true p423
              replace q423 := eq_true q423
              try go_wp2_with (first | ((with_reducible refine gate_dst (N := 4) rfl ?_); refine bE (N := 4) (cs := #[.string (⟨#[]⟩ : ByteArray), .int .i64 0, .bool false]) (t := 119) ?_; intro gb424 hg w62 hbox hb; have n0_ := Aside0.mk (below_step (w := w) bW hb); have n1_ := Aside0.mk (hbox); have n2_ := Aside0.mk (gS (w := w) hg); have n3_ := n2_; clear HB; have HB := n0_; have BK424 := n1_; have GW424 := n2_; have GE424 := n3_; clear n0_ n1_ n2_ n3_; clear hb hbox hg; obtain ⟨hcz63_0, hcz63_1, hcz63_2⟩ := cz3 BK424; obtain ⟨hfz63_0, hfz63_1, hfz63_2⟩ := fz3 BK424))
              have n0_ : Aside0 ((((w62.setCell ⟨gb424, 0, none⟩ (.string ((rd_T119 l0 x7_1).f0))).setCell ⟨gb424, 1, none⟩ (.int .i64 ((rd_T119 l0 x7_1).f1))).setCell ⟨gb424, 2, none⟩ (.bool ((rd_T119 l0 x7_1).f2))).heap[gb424]? = some (.cells #[.string ((rd_T119 l0 x7_1).f0), .int .i64 ((rd_T119 l0 x7_1).f1), .bool ((rd_T119 l0 x7_1).f2)] 119 (0, 0))) := ⟨by (with_reducible repeat (first | refine blk_drewN ?_ _ | refine blk_drew ?_ | refine blk_alloc ?_ _)); refine blk_put (cs := #[.string ((rd_T119 l0 x7_1).f0), .int .i64 ((rd_T119 l0 x7_1).f1), .bool false]) ?_ 2 _ rfl; (with_reducible repeat (first | refine blk_drewN ?_ _ | refine blk_drew ?_ | refine blk_alloc ?_ _)); refine blk_put (cs := #[.string ((rd_T119 l0 x7_1).f0), .int .i64 0, .bool false]) ?_ 1 _ rfl; (with_reducible repeat (first | refine blk_drewN ?_ _ | refine blk_drew ?_ | refine blk_alloc ?_ _)); refine blk_put (cs := #[.string (⟨#[]⟩ : ByteArray), .int .i64 0, .bool false]) ?_ 0 _ rfl; (with_reducible repeat (first | refine blk_drewN ?_ _ | refine blk_drew ?_ | refine blk_alloc ?_ _)); exact BK424.out⟩
              have n1_ : Aside0 (Below w.heap.size w (((w62.setCell ⟨gb424, 0, none⟩ (.string ((rd_T119 l0 x7_1).f0))).setCell ⟨gb424, 1, none⟩ (.int .i64 ((rd_T119 l0 x7_1).f1))).setCell ⟨gb424, 2, none⟩ (.bool ((rd_T119 l0 x7_1).f2)))) := ⟨bW⟩
              (try clear BK424)
              (try clear HB)
              generalize (((w62.setCell ⟨gb424, 0, none⟩ (.string ((rd_T119 l0 x7_1).f0))).setCell ⟨gb424, 1, none⟩ (.int .i64 ((rd_T119 l0 x7_1).f1))).setCell ⟨gb424, 2, none⟩ (.bool ((rd_T119 l0 x7_1).f2))) = w64 at n0_ n1_ ⊢
              have BK424 := n0_
              have HB := n1_
              clear n0_ n1_
              have n0_ := Aside0.mk (blk_drew BK424.out)
              have n1_ := Aside0.mk (below_drew1 HB.out)
              clear BK424
              clear HB
              have BK424 := n0_
              have HB := n1_
              clear n0_ n1_
              refine start_ (n := 34) (S := fun w' => w'.cell? ⟨gb424, 0, none⟩ = some (.string ((rd_T119 l0 x7_1).f0)) ∧ w'.cell? ⟨gb424, 1, none⟩ = some (.int .i64 ((rd_T119 l0 x7_1).f1)) ∧ w'.cell? ⟨gb424, 2, none⟩ = some (.bool ((rd_T119 l0 x7_1).f2))) (ds := []) impl_EditsOK.m0 (by kernel_rfl) rfl rfl ⟨(blk_cell BK424.out 0).trans rfl, (blk_cell BK424.out 1).trans rfl, (blk_cell BK424.out 2).trans rfl⟩ (fun hHeld => ?_); refine with_tabW impl_EditsOK.tab4 impl_EditsOK.bits4 (fun HT_ HW_ => ?_)
              generalize w64.drew = w65 at BK424 HB hHeld ⊢
              refine pure_ (i := 0) (N := some 12) (v := ?_) (a' := ?_) impl_EditsOK.m1 rfl rfl (any_of HT_.out (by kernel_rfl)) (fun _ _ _ h => h) (Or.inl ⟨by rfl, ?_⟩) ?_ ?_; rotate_left; (focus intro w'; go_simp; with_reducible rfl); rotate_left; (focus simp only [pt, i64_w, i32_w]; rfl)
              refine take_ (i := 1) (N := some 13) (v := ?_) (a' := ?_) impl_EditsOK.m2 rfl rfl (take_ofW HT_.out HW_.out (by kernel_rfl)) (fun _ _ _ h => h) (Or.inl ⟨by rfl, ?_⟩) hHeld ?_ ?_; rotate_left; (focus rintro w' ⟨s0, s1, s2⟩; go_simp; with_reducible rfl); rotate_left; (focus simp only [pt, i64_w, i32_w]; rfl)
              refine one_ (i := 2) (N := some 14) impl_EditsOK.m3 rfl rfl (one_of HT_.out (by kernel_rfl)) (by decide) (fun K hK => ?_)
              refine goes_ Try.func89 (by kernel_rfl) rfl #[.string ((rd_T119 l0 x7_1).f0)] (by rfl) rfl rfl gA ?_
              with_reducible refine (impl_NameOK.calls ((rd_T119 l0 x7_1).f0) false _ A5.out).mono ?_
              rintro e w66 ⟨rfl, hb⟩
              refine ⟨_, rfl, ?_⟩
              have n0_ := Aside0.mk (kb BK424 hb)
              have n1_ := Aside0.mk (below_step (w := w) bW hb)
              clear BK424
              clear HB
              have BK424 := n0_
              have HB := n1_
              clear n0_ n1_
              (try clear hb)
              (try clear hb2)
              (try clear hk)
              (try clear hi)
              refine hK.out _ _ ⟨(blk_cell BK424.out 0).trans rfl, (blk_cell BK424.out 1).trans rfl, (blk_cell BK424.out 2).trans rfl⟩ (fun hHeld => ?_)
              clear hK K
              refine norm_ (a' := ?_) ?_ ?_
              rotate_left
              · show Act.put _ (some 14) _ = _
                simp only [Act.put, List.setIfInBounds_toArray, List.set_cons_zero, List.set_cons_succ, i64_w, i32_w]
                rfl
              refine pure_ (i := 3) (N := some 15) (v := ?_) (a' := ?_) impl_EditsOK.m4 rfl rfl (any_of HT_.out (by kernel_rfl)) (fun _ _ _ h => h) (Or.inl ⟨by rfl, ?_⟩) ?_ ?_; rotate_left; (focus intro w'; go_simp; with_reducible rfl); rotate_left; (focus simp only [pt, i64_w, i32_w]; rfl)
              refine pure_ (i := 4) (N := some 16) (v := ?_) (a' := ?_) impl_EditsOK.m5 rfl rfl (any_of HT_.out (by kernel_rfl)) (fun _ _ _ h => h) (Or.inl ⟨by rfl, ?_⟩) ?_ ?_; rotate_left; (focus intro w'; go_simp; with_reducible rfl); rotate_left; (focus simp only [pt, i64_w, i32_w]; rfl)
              refine pure_ (i := 5) (N := some 17) (v := undef) (a' := ?_) impl_EditsOK.m6 rfl rfl (any_of HT_.out (by kernel_rfl)) (fun _ _ _ h => h) (Or.inr ⟨by rfl, rfl⟩) ?_ ?_; rotate_left; (focus simp only [pt, i64_w, i32_w]; rfl)
              refine pure_ (i := 6) (N := some 18) (v := undef) (a' := ?_) impl_EditsOK.m7 rfl rfl (any_of HT_.out (by kernel_rfl)) (fun _ _ _ h => h) (Or.inr ⟨by rfl, rfl⟩) ?_ ?_; rotate_left; (focus simp only [pt, i64_w, i32_w]; rfl)
              refine pure_ (i := 7) (N := some 19) (v := undef) (a' := ?_) impl_EditsOK.m8 rfl rfl (any_of HT_.out (by kernel_rfl)) (fun _ _ _ h => h) (Or.inr ⟨by rfl, rfl⟩) ?_ ?_; rotate_left; (focus simp only [pt, i64_w, i32_w]; rfl)
              refine pure_ (i := 8) (N := some 20) (v := undef) (a' := ?_) impl_EditsOK.m9 rfl rfl (any_of HT_.out (by kernel_rfl)) (fun _ _ _ h => h) (Or.inr ⟨by rfl, rfl⟩) ?_ ?_; rotate_left; (focus simp only [pt, i64_w, i32_w]; rfl)
              refine pure_ (i := 9) (N := some 21) (v := ?_) (a' := ?_) impl_EditsOK.m10 rfl rfl (any_of HT_.out (by kernel_rfl)) (fun _ _ _ h => h) (Or.inl ⟨by rfl, ?_⟩) ?_ ?_; rotate_left; (focus intro w'; go_simp; with_reducible rfl); rotate_left; (focus simp only [pt, i64_w, i32_w]; rfl)
              refine pure_ (i := 10) (N := some 22) (v := ?_) (a' := ?_) impl_EditsOK.m11 rfl rfl (any_of HT_.out (by kernel_rfl)) (fun _ _ _ h => h) (Or.inl ⟨by rfl, ?_⟩) ?_ ?_; rotate_left; (focus intro w'; go_simp; with_reducible rfl); rotate_left; (focus simp only [pt, i64_w, i32_w]; rfl)
              refine pure_ (i := 11) (N := some 23) (v := undef) (a' := ?_) impl_EditsOK.m12 rfl rfl (any_of HT_.out (by kernel_rfl)) (fun _ _ _ h => h) (Or.inr ⟨by rfl, rfl⟩) ?_ ?_; rotate_left; (focus simp only [pt, i64_w, i32_w]; rfl)
              refine pure_ (i := 12) (N := some 24) (v := undef) (a' := ?_) impl_EditsOK.m13 rfl rfl (any_of HT_.out (by kernel_rfl)) (fun _ _ _ h => h) (Or.inr ⟨by rfl, rfl⟩) ?_ ?_; rotate_left; (focus simp only [pt, i64_w, i32_w]; rfl)
              refine pure_ (i := 13) (N := some 25) (v := undef) (a' := ?_) impl_EditsOK.m14 rfl rfl (any_of HT_.out (by kernel_rfl)) (fun _ _ _ h => h) (Or.inr ⟨by rfl, rfl⟩) ?_ ?_; rotate_left; (focus simp only [pt, i64_w, i32_w]; rfl)
              refine pure_ (i := 14) (N := some 26) (v := undef) (a' := ?_) impl_EditsOK.m15 rfl rfl (any_of HT_.out (by kernel_rfl)) (fun _ _ _ h => h) (Or.inr ⟨by rfl, rfl⟩) ?_ ?_; rotate_left; (focus simp only [pt, i64_w, i32_w]; rfl)
              refine pure_ (i := 15) (N := some 27) (v := undef) (a' := ?_) impl_EditsOK.m16 rfl rfl (any_of HT_.out (by kernel_rfl)) (fun _ _ _ h => h) (Or.inr ⟨by rfl, rfl⟩) ?_ ?_; rotate_left; (focus simp only [pt, i64_w, i32_w]; rfl)
              refine pure_ (i := 16) (N := some 28) (v := undef) (a' := ?_) impl_EditsOK.m17 rfl rfl (any_of HT_.out (by kernel_rfl)) (fun _ _ _ h => h) (Or.inr ⟨by rfl, rfl⟩) ?_ ?_; rotate_left; (focus simp only [pt, i64_w, i32_w]; rfl)
              refine pure_ (i := 17) (N := some 29) (v := undef) (a' := ?_) impl_EditsOK.m18 rfl rfl (any_of HT_.out (by kernel_rfl)) (fun _ _ _ h => h) (Or.inr ⟨by rfl, rfl⟩) ?_ ?_; rotate_left; (focus simp only [pt, i64_w, i32_w]; rfl)
              refine pure_ (i := 18) (N := some 30) (v := ?_) (a' := ?_) impl_EditsOK.m19 rfl rfl (any_of HT_.out (by kernel_rfl)) (fun _ _ _ h => h) (Or.inl ⟨by rfl, ?_⟩) ?_ ?_; rotate_left; (focus intro w'; go_simp; with_reducible rfl); rotate_left; (focus simp only [pt, i64_w, i32_w]; rfl)
              refine pure_ (i := 19) (N := some 31) (v := ?_) (a' := ?_) impl_EditsOK.m20 rfl rfl (any_of HT_.out (by kernel_rfl)) (fun _ _ _ h => h) (Or.inl ⟨by rfl, ?_⟩) ?_ ?_; rotate_left; (focus intro w'; go_simp; with_reducible rfl); rotate_left; (focus simp only [pt, i64_w, i32_w]; rfl)
              refine pure_ (i := 20) (N := some 32) (v := undef) (a' := ?_) impl_EditsOK.m21 rfl rfl (any_of HT_.out (by kernel_rfl)) (fun _ _ _ h => h) (Or.inr ⟨by rfl, rfl⟩) ?_ ?_; rotate_left; (focus simp only [pt, i64_w, i32_w]; rfl)
              refine pure_ (i := 21) (N := some 33) (v := undef) (a' := ?_) impl_EditsOK.m22 rfl rfl (any_of HT_.out (by kernel_rfl)) (fun _ _ _ h => h) (Or.inr ⟨by rfl, rfl⟩) ?_ ?_; rotate_left; (focus simp only [pt, i64_w, i32_w]; rfl)
              refine pure_ (i := 22) (N := some 34) (v := undef) (a' := ?_) impl_EditsOK.m23 rfl rfl (any_of HT_.out (by kernel_rfl)) (fun _ _ _ h => h) (Or.inr ⟨by rfl, rfl⟩) ?_ ?_; rotate_left; (focus simp only [pt, i64_w, i32_w]; rfl)
              refine pure_ (i := 23) (N := some 35) (v := undef) (a' := ?_) impl_EditsOK.m24 rfl rfl (any_of HT_.out (by kernel_rfl)) (fun _ _ _ h => h) (Or.inr ⟨by rfl, rfl⟩) ?_ ?_; rotate_left; (focus simp only [pt, i64_w, i32_w]; rfl)
              refine pure_ (i := 24) (N := some 36) (v := undef) (a' := ?_) impl_EditsOK.m25 rfl rfl (any_of HT_.out (by kernel_rfl)) (fun _ _ _ h => h) (Or.inr ⟨by rfl, rfl⟩) ?_ ?_; rotate_left; (focus simp only [pt, i64_w, i32_w]; rfl)
              refine pure_ (i := 25) (N := some 37) (v := undef) (a' := ?_) impl_EditsOK.m26 rfl rfl (any_of HT_.out (by kernel_rfl)) (fun _ _ _ h => h) (Or.inr ⟨by rfl, rfl⟩) ?_ ?_; rotate_left; (focus simp only [pt, i64_w, i32_w]; rfl)
              refine pure_ (i := 26) (N := some 38) (v := undef) (a' := ?_) impl_EditsOK.m27 rfl rfl (any_of HT_.out (by kernel_rfl)) (fun _ _ _ h => h) (Or.inr ⟨by rfl, rfl⟩) ?_ ?_; rotate_left; (focus simp only [pt, i64_w, i32_w]; rfl)
              refine pure_ (i := 27) (N := some 39) (v := undef) (a' := ?_) impl_EditsOK.m28 rfl rfl (any_of HT_.out (by kernel_rfl)) (fun _ _ _ h => h) (Or.inr ⟨by rfl, rfl⟩) ?_ ?_; rotate_left; (focus simp only [pt, i64_w, i32_w]; rfl)
              refine pure_ (i := 28) (N := some 40) (v := undef) (a' := ?_) impl_EditsOK.m35 rfl rfl (any_of HT_.out (by kernel_rfl)) (fun _ _ _ h => h) (Or.inr ⟨by rfl, rfl⟩) ?_ ?_; rotate_left; (focus simp only [pt, i64_w, i32_w]; rfl)
              refine pure_ (i := 29) (N := some 41) (v := undef) (a' := ?_) impl_EditsOK.m30 rfl rfl (any_of HT_.out (by kernel_rfl)) (fun _ _ _ h => h) (Or.inr ⟨by rfl, rfl⟩) ?_ ?_; rotate_left; (focus simp only [pt, i64_w, i32_w]; rfl)
              refine pure_ (i := 30) (N := some 42) (v := undef) (a' := ?_) impl_EditsOK.m31 rfl rfl (any_of HT_.out (by kernel_rfl)) (fun _ _ _ h => h) (Or.inr ⟨by rfl, rfl⟩) ?_ ?_; rotate_left; (focus simp only [pt, i64_w, i32_w]; rfl)
              refine pure_ (i := 31) (N := some 43) (v := undef) (a' := ?_) impl_EditsOK.m32 rfl rfl (any_of HT_.out (by kernel_rfl)) (fun _ _ _ h => h) (Or.inr ⟨by rfl, rfl⟩) ?_ ?_; rotate_left; (focus simp only [pt, i64_w, i32_w]; rfl)
              refine pure_ (i := 32) (N := some 44) (v := undef) (a' := ?_) impl_EditsOK.m33 rfl rfl (any_of HT_.out (by kernel_rfl)) (fun _ _ _ h => h) (Or.inr ⟨by rfl, rfl⟩) ?_ ?_; rotate_left; (focus simp only [pt, i64_w, i32_w]; rfl)
              refine pure_ (i := 33) (N := some 45) (v := ?_) (a' := ?_) impl_EditsOK.m34 rfl rfl (any_of HT_.out (by kernel_rfl)) (fun _ _ _ h => h) (Or.inl ⟨by rfl, ?_⟩) ?_ ?_; rotate_left; (focus intro w'; go_simp; with_reducible rfl); rotate_left; (focus simp only [pt, i64_w, i32_w]; rfl)
              refine done_ (done_of HT_.out (by kernel_rfl)) ?_
              try go_wp2
              go_ret
              exact ⟨rE, bW⟩
          · rw [if_neg c4] at H
            exact absurd H (by simp)
        · rw [if_neg c3] at H
          exact absurd H (by simp)
      · rw [if_neg c2] at H
        have c2b0 : decide (x7_1 < (l0.length : Int)) = false := decide_eq_false c2
        clear c2
        obtain rfl := Option.some.inj H
        go_wp2
        go_ret
        exact ⟨rE, bW⟩
end Go.Proofs.Ytjkddaokhmflbaa.Q
end

section
namespace Go.Proofs.Ytjkddaokhmflbaa.Q
open Go.RowKit Go.Proofs.YtjkddaokhmflbaaW.PrintWords Go.Proofs.YtjkddaokhmflbaaW.PrintLast Go.Proofs.YtjkddaokhmflbaaW.PrintMore
attribute [local go_sem] max2_int min2_int max_two min_two max_three min_three max_four min_four   -- for this text's walks alone
set_option linter.unusedVariables false
set_option linter.unusedSimpArgs false
attribute [local go_sem] bin_leq bin_gtr bin_geq
mutual
def impl_OpOK.j0 : Nat → Bool → Int → Int → ByteArray → ByteArray → List (S119) → Option (Bool)
  | 0, _, _, _, _, _, _ => none
  | k + 1, x27, x430000, x430001, x430002, x430003, x430004 => if x27 = true then (some false) else (if x430000 = 1 then (impl_OpOK.j1 k x430000 (x430000 == 1) x430000 x430001 x430002 x430003 x430004) else (impl_OpOK.j1 k x430000 (x430000 == 4) x430000 x430001 x430002 x430003 x430004))
def impl_OpOK.j1 : Nat → Int → Bool → Int → Int → ByteArray → ByteArray → List (S119) → Option (Bool)
  | 0, _, _, _, _, _, _, _ => none
  | k + 1, x29, x30, x430000, x430001, x430002, x430003, x430004 => if x30 = true then ((impl_isHead.f x430001).bind fun t431 => (some t431)) else (if x29 = 2 then (impl_OpOK.j2 k x29 (x29 == 2) x430000 x430001 x430002 x430003 x430004) else (impl_OpOK.j2 k x29 (x29 == 6) x430000 x430001 x430002 x430003 x430004))
def impl_OpOK.j2 : Nat → Int → Bool → Int → Int → ByteArray → ByteArray → List (S119) → Option (Bool)
  | 0, _, _, _, _, _, _, _ => none
  | k + 1, x29, x36, x430000, x430001, x430002, x430003, x430004 => if x36 = true then (some (x430001 == 0)) else (if x29 = 3 then ((impl_within.f x430001 0 60).bind fun t432 => (if t432 = true then ((impl_EditsOK.f k x430004).bind fun t433 => (some t433)) else (some false))) else (if x29 = 5 then (if x430001 = 0 then ((impl_NameOK.f x430003).bind fun t434 => (some t434)) else (some false)) else (some false)))
end
def impl_OpOK.f (k : Nat) (a0_0 : Int) (a0_1 : Int) (a0_2 : ByteArray) (a0_3 : ByteArray) (l0_4 : List (S119)) : Option (Bool) := (impl_NameOK.f a0_2).bind fun t430 => (if t430 = true then (if a0_0 = 5 then (if a0_0 = 3 then (impl_OpOK.j0 k false a0_0 a0_1 a0_2 a0_3 l0_4) else (impl_OpOK.j0 k (decide ((l0_4.length : Int) > 0)) a0_0 a0_1 a0_2 a0_3 l0_4)) else (if a0_3.toList = ([] : List UInt8) then (if a0_0 = 3 then (impl_OpOK.j0 k false a0_0 a0_1 a0_2 a0_3 l0_4) else (impl_OpOK.j0 k (decide ((l0_4.length : Int) > 0)) a0_0 a0_1 a0_2 a0_3 l0_4)) else (impl_OpOK.j0 k true a0_0 a0_1 a0_2 a0_3 l0_4))) else (impl_OpOK.j0 k true a0_0 a0_1 a0_2 a0_3 l0_4))
set_option maxHeartbeats 8000000 in
set_option maxRecDepth 100000 in
theorem impl_OpOK.calls (k : Nat) (a0_0 : Int) (a0_1 : Int) (a0_2 : ByteArray) (a0_3 : ByteArray) (A0_4 : Option Addr) (c0_4 : Nat) (l0_4 : List (S119)) (r : Bool) (w : World) (hr0_4 : Kd.C k119 w A0_4 l0_4.length l0_4) (hc0_4 : l0_4.length ≤ c0_4) (h : impl_OpOK.f k a0_0 a0_1 a0_2 a0_3 l0_4 = some r) :
    Calls Try.prog 87 #[.agg #[.int .i64 a0_0, .int .i64 a0_1, .string a0_2, .string a0_3, .slice A0_4 l0_4.length c0_4]] w fun e w' => e = .returned (.bool r) ∧ Below w.heap.size w w' := by
  have hu115 := Try.underlying115
  have HR0_4 := Aside0.mk hr0_4
  have HC0_4 := Aside0.mk hc0_4
  clear hr0_4 hc0_4
  have HB := Aside0.mk (Below.refl w.heap.size w)
  have H : ((impl_NameOK.f a0_2).bind fun t430 => (if t430 = true then (if a0_0 = 5 then (if a0_0 = 3 then (impl_OpOK.j0 k false a0_0 a0_1 a0_2 a0_3 l0_4) else (impl_OpOK.j0 k (decide ((l0_4.length : Int) > 0)) a0_0 a0_1 a0_2 a0_3 l0_4)) else (if a0_3.toList = ([] : List UInt8) then (if a0_0 = 3 then (impl_OpOK.j0 k false a0_0 a0_1 a0_2 a0_3 l0_4) else (impl_OpOK.j0 k (decide ((l0_4.length : Int) > 0)) a0_0 a0_1 a0_2 a0_3 l0_4)) else (impl_OpOK.j0 k true a0_0 a0_1 a0_2 a0_3 l0_4))) else (impl_OpOK.j0 k true a0_0 a0_1 a0_2 a0_3 l0_4))) = some r := h
  clear h
  have HC2 := Aside0.mk H
  clear H
  go_enter Try.func87, Try.ntmps87
  go_upto_region 1 with (first | ((with_reducible refine gate_dst (N := 1) rfl ?_); (try (refine gate_guard (by rfl) ?_; dsimp only)); refine bE (N := 1) (cs := #[.int .i64 a0_0, .int .i64 a0_1, .string a0_2, .string a0_3, .slice A0_4 l0_4.length c0_4]) (t := 115) ?_; intro gb429 hg w3 hbox hb; have n0_ := Aside0.mk (below_step (w := w) bW hb); have n1_ := Aside0.mk (hbox); have n2_ := Aside0.mk (gS (w := w) hg); have n3_ := n2_; clear HB; have HB := n0_; have BK429 := n1_; have GW429 := n2_; have GE429 := n3_; clear n0_ n1_ n2_ n3_; clear hb hbox hg))
  (try simp only [Act.put, List.setIfInBounds_toArray, List.set_cons_zero, List.set_cons_succ])
  go_cut [27] (fun v27 wc => ∃ (kq : Nat) (x27_1 : Bool), v27 = .bool x27_1 ∧ Aside0 (impl_OpOK.j0 kq x27_1 a0_0 a0_1 a0_2 a0_3 l0_4 = some r) ∧ Aside0 (kq ≤ k) ∧ Aside0 (wc.heap[gb429]? = some (.cells #[.int .i64 a0_0, .int .i64 a0_1, .string a0_2, .string a0_3, (.slice A0_4 l0_4.length c0_4)] 115 (0, 0))) ∧ Aside0 (Below w.heap.size w wc))
  case first =>
    have H := HC2.out
    clear HC2
    replace H := Option.bind_eq_some_iff.mp H
    obtain ⟨t430, A40, H⟩ := H
    replace H : (if t430 = true then (if a0_0 = 5 then (if a0_0 = 3 then (impl_OpOK.j0 k false a0_0 a0_1 a0_2 a0_3 l0_4) else (impl_OpOK.j0 k (decide ((l0_4.length : Int) > 0)) a0_0 a0_1 a0_2 a0_3 l0_4)) else (if a0_3.toList = ([] : List UInt8) then (if a0_0 = 3 then (impl_OpOK.j0 k false a0_0 a0_1 a0_2 a0_3 l0_4) else (impl_OpOK.j0 k (decide ((l0_4.length : Int) > 0)) a0_0 a0_1 a0_2 a0_3 l0_4)) else (impl_OpOK.j0 k true a0_0 a0_1 a0_2 a0_3 l0_4))) else (impl_OpOK.j0 k true a0_0 a0_1 a0_2 a0_3 l0_4)) = some r := H
    have A4 := Aside0.mk A40
    clear A40
    by_cases c5 : t430 = true
    · subst c5
      have H1 : (if a0_0 = 5 then (if a0_0 = 3 then (impl_OpOK.j0 k false a0_0 a0_1 a0_2 a0_3 l0_4) else (impl_OpOK.j0 k (decide ((l0_4.length : Int) > 0)) a0_0 a0_1 a0_2 a0_3 l0_4)) else (if a0_3.toList = ([] : List UInt8) then (if a0_0 = 3 then (impl_OpOK.j0 k false a0_0 a0_1 a0_2 a0_3 l0_4) else (impl_OpOK.j0 k (decide ((l0_4.length : Int) > 0)) a0_0 a0_1 a0_2 a0_3 l0_4)) else (impl_OpOK.j0 k true a0_0 a0_1 a0_2 a0_3 l0_4))) = some r := by rw [if_pos rfl] at H; exact H
      clear H
      have H := H1
      clear H1
      by_cases c6 : a0_0 = 5
      · rw [if_pos c6] at H
        have c6b0 : (a0_0 == 5) = true := beq_iff_eq.mpr c6
        have c6b1 : (a0_0 != 5) = false := bne_eq_false_iff_eq.mpr c6
        clear c6
        (first | rw [c6b0] | (simp only [i64_w, i32_w]; rw [c6b0]) | skip)
        by_cases c7 : a0_0 = 3
        · rw [if_pos c7] at H
          have c7b0 : (a0_0 == 3) = true := beq_iff_eq.mpr c7
          have c7b1 : (a0_0 != 3) = false := bne_eq_false_iff_eq.mpr c7
          clear c7
          have H' := Aside0.mk H
          clear H
          have hcz8_0 : w3.cell? ⟨gb429, 0, none⟩ = some (.int .i64 a0_0) := (blk_cell BK429.out 0).trans rfl
          have hcz8_1 : w3.cell? ⟨gb429, 1, none⟩ = some (.int .i64 a0_1) := (blk_cell BK429.out 1).trans rfl
          have hcz8_2 : w3.cell? ⟨gb429, 2, none⟩ = some (.string a0_2) := (blk_cell BK429.out 2).trans rfl
          have hcz8_3 : w3.cell? ⟨gb429, 3, none⟩ = some (.string a0_3) := (blk_cell BK429.out 3).trans rfl
          have hcz8_4 : w3.cell? ⟨gb429, 4, none⟩ = some (.slice A0_4 l0_4.length c0_4) := (blk_cell BK429.out 4).trans rfl
          have hfz8_0 := blk_frozen BK429.out 0
          have hfz8_1 := blk_frozen BK429.out 1
          have hfz8_2 := blk_frozen BK429.out 2
          have hfz8_3 := blk_frozen BK429.out 3
          have hfz8_4 := blk_frozen BK429.out 4
          go_wp2_with (first | ((with_reducible refine gate_callee (f := 89) rfl ?_); refine goesL_ (some 5) rfl rfl Try.func89 (by kernel_rfl) rfl #[.string a0_2] rfl gA ?_; (with_reducible refine (impl_NameOK.calls a0_2 true _ A4.out).mono ?_); rintro e w9 ⟨rfl, hb⟩; refine ⟨_, rfl, ?_⟩; have n0_ := Aside0.mk (kb BK429 hb); have n1_ := Aside0.mk (below_step (w := w) bW hb); clear BK429; clear HB; have BK429 := n0_; have HB := n1_; clear n0_ n1_; (try clear hb); (try clear hb2); (try clear hk); (try clear hi); obtain ⟨hcz10_0, hcz10_1, hcz10_2, hcz10_3, hcz10_4⟩ := cz5 BK429; obtain ⟨hfz10_0, hfz10_1, hfz10_2, hfz10_3, hfz10_4⟩ := fz5 BK429))
          go_meet
          case rel => exact ⟨_, (false), vE, H', ⟨by first | omega | exact Nat.le_refl _⟩, ⟨by (with_reducible repeat (first | refine blk_drewN ?_ _ | refine blk_drew ?_ | refine blk_alloc ?_ _)); exact BK429.out⟩, ⟨bW⟩⟩
        · rw [if_neg c7] at H
          have c7b0 : (a0_0 == 3) = false := beq_eq_false_iff_ne.mpr c7
          have c7b1 : (a0_0 != 3) = true := bne_iff_ne.mpr c7
          have H' := Aside0.mk H
          clear H
          have hcz11_0 : w3.cell? ⟨gb429, 0, none⟩ = some (.int .i64 a0_0) := (blk_cell BK429.out 0).trans rfl
          have hcz11_1 : w3.cell? ⟨gb429, 1, none⟩ = some (.int .i64 a0_1) := (blk_cell BK429.out 1).trans rfl
          have hcz11_2 : w3.cell? ⟨gb429, 2, none⟩ = some (.string a0_2) := (blk_cell BK429.out 2).trans rfl
          have hcz11_3 : w3.cell? ⟨gb429, 3, none⟩ = some (.string a0_3) := (blk_cell BK429.out 3).trans rfl
          have hcz11_4 : w3.cell? ⟨gb429, 4, none⟩ = some (.slice A0_4 l0_4.length c0_4) := (blk_cell BK429.out 4).trans rfl
          have hfz11_0 := blk_frozen BK429.out 0
          have hfz11_1 := blk_frozen BK429.out 1
          have hfz11_2 := blk_frozen BK429.out 2
          have hfz11_3 := blk_frozen BK429.out 3
          have hfz11_4 := blk_frozen BK429.out 4
          go_wp2_with (first | ((with_reducible refine gate_callee (f := 89) rfl ?_); refine goesL_ (some 5) rfl rfl Try.func89 (by kernel_rfl) rfl #[.string a0_2] rfl gA ?_; (with_reducible refine (impl_NameOK.calls a0_2 true _ A4.out).mono ?_); rintro e w12 ⟨rfl, hb⟩; refine ⟨_, rfl, ?_⟩; have n0_ := Aside0.mk (kb BK429 hb); have n1_ := Aside0.mk (below_step (w := w) bW hb); clear BK429; clear HB; have BK429 := n0_; have HB := n1_; clear n0_ n1_; (try clear hb); (try clear hb2); (try clear hk); (try clear hi); obtain ⟨hcz13_0, hcz13_1, hcz13_2, hcz13_3, hcz13_4⟩ := cz5 BK429; obtain ⟨hfz13_0, hfz13_1, hfz13_2, hfz13_3, hfz13_4⟩ := fz5 BK429))
          go_meet
          case rel => exact ⟨_, (decide ((l0_4.length : Int) > 0)), vE, H', ⟨by first | omega | exact Nat.le_refl _⟩, ⟨by (with_reducible repeat (first | refine blk_drewN ?_ _ | refine blk_drew ?_ | refine blk_alloc ?_ _)); exact BK429.out⟩, ⟨bW⟩⟩
      · rw [if_neg c6] at H
        have c6b0 : (a0_0 == 5) = false := beq_eq_false_iff_ne.mpr c6
        have c6b1 : (a0_0 != 5) = true := bne_iff_ne.mpr c6
        (first | rw [c6b0] | (simp only [i64_w, i32_w]; rw [c6b0]) | skip)
        by_cases c14 : a0_3.toList = ([] : List UInt8)
        · rw [if_pos c14] at H
          have c14b0 : (a0_3.toList == ([] : List UInt8)) = true := beq_iff_eq.mpr c14
          have c14b1 : (a0_3.toList != ([] : List UInt8)) = false := bne_eq_false_iff_eq.mpr c14
          clear c14
          by_cases c15 : a0_0 = 3
          · rw [if_pos c15] at H
            have c15b0 : (a0_0 == 3) = true := beq_iff_eq.mpr c15
            have c15b1 : (a0_0 != 3) = false := bne_eq_false_iff_eq.mpr c15
            clear c15
            have H' := Aside0.mk H
            clear H
            have hcz16_0 : w3.cell? ⟨gb429, 0, none⟩ = some (.int .i64 a0_0) := (blk_cell BK429.out 0).trans rfl
            have hcz16_1 : w3.cell? ⟨gb429, 1, none⟩ = some (.int .i64 a0_1) := (blk_cell BK429.out 1).trans rfl
            have hcz16_2 : w3.cell? ⟨gb429, 2, none⟩ = some (.string a0_2) := (blk_cell BK429.out 2).trans rfl
            have hcz16_3 : w3.cell? ⟨gb429, 3, none⟩ = some (.string a0_3) := (blk_cell BK429.out 3).trans rfl
            have hcz16_4 : w3.cell? ⟨gb429, 4, none⟩ = some (.slice A0_4 l0_4.length c0_4) := (blk_cell BK429.out 4).trans rfl
            have hfz16_0 := blk_frozen BK429.out 0
            have hfz16_1 := blk_frozen BK429.out 1
            have hfz16_2 := blk_frozen BK429.out 2
            have hfz16_3 := blk_frozen BK429.out 3
            have hfz16_4 := blk_frozen BK429.out 4
            go_wp2_with (first | ((with_reducible refine gate_callee (f := 89) rfl ?_); refine goesL_ (some 5) rfl rfl Try.func89 (by kernel_rfl) rfl #[.string a0_2] rfl gA ?_; (with_reducible refine (impl_NameOK.calls a0_2 true _ A4.out).mono ?_); rintro e w17 ⟨rfl, hb⟩; refine ⟨_, rfl, ?_⟩; have n0_ := Aside0.mk (kb BK429 hb); have n1_ := Aside0.mk (below_step (w := w) bW hb); clear BK429; clear HB; have BK429 := n0_; have HB := n1_; clear n0_ n1_; (try clear hb); (try clear hb2); (try clear hk); (try clear hi); obtain ⟨hcz18_0, hcz18_1, hcz18_2, hcz18_3, hcz18_4⟩ := cz5 BK429; obtain ⟨hfz18_0, hfz18_1, hfz18_2, hfz18_3, hfz18_4⟩ := fz5 BK429))
            go_meet
            case rel => exact ⟨_, (false), vE, H', ⟨by first | omega | exact Nat.le_refl _⟩, ⟨by (with_reducible repeat (first | refine blk_drewN ?_ _ | refine blk_drew ?_ | refine blk_alloc ?_ _)); exact BK429.out⟩, ⟨bW⟩⟩
          · rw [if_neg c15] at H
            have c15b0 : (a0_0 == 3) = false := beq_eq_false_iff_ne.mpr c15
            have c15b1 : (a0_0 != 3) = true := bne_iff_ne.mpr c15
            have H' := Aside0.mk H
            clear H
            have hcz19_0 : w3.cell? ⟨gb429, 0, none⟩ = some (.int .i64 a0_0) := (blk_cell BK429.out 0).trans rfl
            have hcz19_1 : w3.cell? ⟨gb429, 1, none⟩ = some (.int .i64 a0_1) := (blk_cell BK429.out 1).trans rfl
            have hcz19_2 : w3.cell? ⟨gb429, 2, none⟩ = some (.string a0_2) := (blk_cell BK429.out 2).trans rfl
            have hcz19_3 : w3.cell? ⟨gb429, 3, none⟩ = some (.string a0_3) := (blk_cell BK429.out 3).trans rfl
            have hcz19_4 : w3.cell? ⟨gb429, 4, none⟩ = some (.slice A0_4 l0_4.length c0_4) := (blk_cell BK429.out 4).trans rfl
            have hfz19_0 := blk_frozen BK429.out 0
            have hfz19_1 := blk_frozen BK429.out 1
            have hfz19_2 := blk_frozen BK429.out 2
            have hfz19_3 := blk_frozen BK429.out 3
            have hfz19_4 := blk_frozen BK429.out 4
            go_wp2_with (first | ((with_reducible refine gate_callee (f := 89) rfl ?_); refine goesL_ (some 5) rfl rfl Try.func89 (by kernel_rfl) rfl #[.string a0_2] rfl gA ?_; (with_reducible refine (impl_NameOK.calls a0_2 true _ A4.out).mono ?_); rintro e w20 ⟨rfl, hb⟩; refine ⟨_, rfl, ?_⟩; have n0_ := Aside0.mk (kb BK429 hb); have n1_ := Aside0.mk (below_step (w := w) bW hb); clear BK429; clear HB; have BK429 := n0_; have HB := n1_; clear n0_ n1_; (try clear hb); (try clear hb2); (try clear hk); (try clear hi); obtain ⟨hcz21_0, hcz21_1, hcz21_2, hcz21_3, hcz21_4⟩ := cz5 BK429; obtain ⟨hfz21_0, hfz21_1, hfz21_2, hfz21_3, hfz21_4⟩ := fz5 BK429))
            go_meet
            case rel => exact ⟨_, (decide ((l0_4.length : Int) > 0)), vE, H', ⟨by first | omega | exact Nat.le_refl _⟩, ⟨by (with_reducible repeat (first | refine blk_drewN ?_ _ | refine blk_drew ?_ | refine blk_alloc ?_ _)); exact BK429.out⟩, ⟨bW⟩⟩
        · rw [if_neg c14] at H
          have c14b0 : (a0_3.toList == ([] : List UInt8)) = false := beq_eq_false_iff_ne.mpr c14
          have c14b1 : (a0_3.toList != ([] : List UInt8)) = true := bne_iff_ne.mpr c14
          have H' := Aside0.mk H
          clear H
          have hcz22_0 : w3.cell? ⟨gb429, 0, none⟩ = some (.int .i64 a0_0) := (blk_cell BK429.out 0).trans rfl
          have hcz22_1 : w3.cell? ⟨gb429, 1, none⟩ = some (.int .i64 a0_1) := (blk_cell BK429.out 1).trans rfl
          have hcz22_2 : w3.cell? ⟨gb429, 2, none⟩ = some (.string a0_2) := (blk_cell BK429.out 2).trans rfl
          have hcz22_3 : w3.cell? ⟨gb429, 3, none⟩ = some (.string a0_3) := (blk_cell BK429.out 3).trans rfl
          have hcz22_4 : w3.cell? ⟨gb429, 4, none⟩ = some (.slice A0_4 l0_4.length c0_4) := (blk_cell BK429.out 4).trans rfl
          have hfz22_0 := blk_frozen BK429.out 0
          have hfz22_1 := blk_frozen BK429.out 1
          have hfz22_2 := blk_frozen BK429.out 2
          have hfz22_3 := blk_frozen BK429.out 3
          have hfz22_4 := blk_frozen BK429.out 4
          go_wp2_with (first | ((with_reducible refine gate_callee (f := 89) rfl ?_); refine goesL_ (some 5) rfl rfl Try.func89 (by kernel_rfl) rfl #[.string a0_2] rfl gA ?_; (with_reducible refine (impl_NameOK.calls a0_2 true _ A4.out).mono ?_); rintro e w23 ⟨rfl, hb⟩; refine ⟨_, rfl, ?_⟩; have n0_ := Aside0.mk (kb BK429 hb); have n1_ := Aside0.mk (below_step (w := w) bW hb); clear BK429; clear HB; have BK429 := n0_; have HB := n1_; clear n0_ n1_; (try clear hb); (try clear hb2); (try clear hk); (try clear hi); obtain ⟨hcz24_0, hcz24_1, hcz24_2, hcz24_3, hcz24_4⟩ := cz5 BK429; obtain ⟨hfz24_0, hfz24_1, hfz24_2, hfz24_3, hfz24_4⟩ := fz5 BK429))
          go_meet
          case rel => exact ⟨_, (true), vE, H', ⟨by first | omega | exact Nat.le_refl _⟩, ⟨by (with_reducible repeat (first | refine blk_drewN ?_ _ | refine blk_drew ?_ | refine blk_alloc ?_ _)); exact BK429.out⟩, ⟨bW⟩⟩
    · replace c5 := Bool.eq_false_iff.mpr c5
      subst c5
      have H1 : (impl_OpOK.j0 k true a0_0 a0_1 a0_2 a0_3 l0_4) = some r := by rw [if_neg (show ¬ (false = true) by decide)] at H; exact H
      clear H
      have H := H1
      clear H1
      have H' := Aside0.mk H
      clear H
      have hcz25_0 : w3.cell? ⟨gb429, 0, none⟩ = some (.int .i64 a0_0) := (blk_cell BK429.out 0).trans rfl
      have hcz25_1 : w3.cell? ⟨gb429, 1, none⟩ = some (.int .i64 a0_1) := (blk_cell BK429.out 1).trans rfl
      have hcz25_2 : w3.cell? ⟨gb429, 2, none⟩ = some (.string a0_2) := (blk_cell BK429.out 2).trans rfl
      have hcz25_3 : w3.cell? ⟨gb429, 3, none⟩ = some (.string a0_3) := (blk_cell BK429.out 3).trans rfl
      have hcz25_4 : w3.cell? ⟨gb429, 4, none⟩ = some (.slice A0_4 l0_4.length c0_4) := (blk_cell BK429.out 4).trans rfl
      have hfz25_0 := blk_frozen BK429.out 0
      have hfz25_1 := blk_frozen BK429.out 1
      have hfz25_2 := blk_frozen BK429.out 2
      have hfz25_3 := blk_frozen BK429.out 3
      have hfz25_4 := blk_frozen BK429.out 4
      go_wp2_with (first | ((with_reducible refine gate_callee (f := 89) rfl ?_); refine goesL_ (some 5) rfl rfl Try.func89 (by kernel_rfl) rfl #[.string a0_2] rfl gA ?_; (with_reducible refine (impl_NameOK.calls a0_2 false _ A4.out).mono ?_); rintro e w26 ⟨rfl, hb⟩; refine ⟨_, rfl, ?_⟩; have n0_ := Aside0.mk (kb BK429 hb); have n1_ := Aside0.mk (below_step (w := w) bW hb); clear BK429; clear HB; have BK429 := n0_; have HB := n1_; clear n0_ n1_; (try clear hb); (try clear hb2); (try clear hk); (try clear hi)))
      go_meet
      case rel => exact ⟨_, (true), vE, H', ⟨by first | omega | exact Nat.le_refl _⟩, ⟨by (with_reducible repeat (first | refine blk_drewN ?_ _ | refine blk_drew ?_ | refine blk_alloc ?_ _)); exact BK429.out⟩, ⟨bW⟩⟩
  case rest =>
    clear HC2
    try clear c1
    try clear p2
    try clear c5
    try clear c6
    try clear c6b0
    try clear c6b1
    try clear c7
    try clear c7b0
    try clear c7b1
    try clear c8
    try clear c14
    try clear c14b0
    try clear c14b1
    try clear c15
    try clear c15b0
    try clear c15b1
    try clear hcz10_0
    try clear hcz10_1
    try clear hcz10_2
    try clear hcz10_3
    try clear hcz10_4
    try clear hcz11_0
    try clear hcz11_1
    try clear hcz11_2
    try clear hcz11_3
    try clear hcz11_4
    try clear hcz13_0
    try clear hcz13_1
    try clear hcz13_2
    try clear hcz13_3
    try clear hcz13_4
    try clear hcz16_0
    try clear hcz16_1
    try clear hcz16_2
    try clear hcz16_3
    try clear hcz16_4
    try clear hcz18_0
    try clear hcz18_1
    try clear hcz18_2
    try clear hcz18_3
    try clear hcz18_4
    try clear hcz19_0
    try clear hcz19_1
    try clear hcz19_2
    try clear hcz19_3
    try clear hcz19_4
    try clear hcz21_0
    try clear hcz21_1
    try clear hcz21_2
    try clear hcz21_3
    try clear hcz21_4
    try clear hcz22_0
    try clear hcz22_1
    try clear hcz22_2
    try clear hcz22_3
    try clear hcz22_4
    try clear hcz24_0
    try clear hcz24_1
    try clear hcz24_2
    try clear hcz24_3
    try clear hcz24_4
    try clear hcz25_0
    try clear hcz25_1
    try clear hcz25_2
    try clear hcz25_3
    try clear hcz25_4
    try clear hcz8_0
    try clear hcz8_1
    try clear hcz8_2
    try clear hcz8_3
    try clear hcz8_4
    try clear hfz10_0
    try clear hfz10_1
    try clear hfz10_2
    try clear hfz10_3
    try clear hfz10_4
    try clear hfz11_0
    try clear hfz11_1
    try clear hfz11_2
    try clear hfz11_3
    try clear hfz11_4
    try clear hfz13_0
    try clear hfz13_1
    try clear hfz13_2
    try clear hfz13_3
    try clear hfz13_4
    try clear hfz16_0
    try clear hfz16_1
    try clear hfz16_2
    try clear hfz16_3
    try clear hfz16_4
    try clear hfz18_0
    try clear hfz18_1
    try clear hfz18_2
    try clear hfz18_3
    try clear hfz18_4
    try clear hfz19_0
    try clear hfz19_1
    try clear hfz19_2
    try clear hfz19_3
    try clear hfz19_4
    try clear hfz21_0
    try clear hfz21_1
    try clear hfz21_2
    try clear hfz21_3
    try clear hfz21_4
    try clear hfz22_0
    try clear hfz22_1
    try clear hfz22_2
    try clear hfz22_3
    try clear hfz22_4
    try clear hfz24_0
    try clear hfz24_1
    try clear hfz24_2
    try clear hfz24_3
    try clear hfz24_4
    try clear hfz25_0
    try clear hfz25_1
    try clear hfz25_2
    try clear hfz25_3
    try clear hfz25_4
    try clear hfz8_0
    try clear hfz8_1
    try clear hfz8_2
    try clear hfz8_3
    try clear hfz8_4
    obtain ⟨kq, x27_1, rfl, HA, HJ1, BK429, HB⟩ := hcut
    cases kq with
    | zero => exact absurd HA.out (by simp [impl_OpOK.j0])
    | succ kj1 =>
      have H := HA.out
      clear HA
      simp only [impl_OpOK.j0] at H
      by_cases c27 : x27_1 = true
      · subst c27
        have H1 : (some false) = some r := by rw [if_pos rfl] at H; exact H
        clear H
        have H := H1
        clear H1
        obtain rfl := Option.some.inj H
        go_wp2
        go_ret
        exact ⟨rE, bW⟩
      · replace c27 := Bool.eq_false_iff.mpr c27
        subst c27
        have H1 : (if a0_0 = 1 then (impl_OpOK.j1 kj1 a0_0 (a0_0 == 1) a0_0 a0_1 a0_2 a0_3 l0_4) else (impl_OpOK.j1 kj1 a0_0 (a0_0 == 4) a0_0 a0_1 a0_2 a0_3 l0_4)) = some r := by rw [if_neg (show ¬ (false = true) by decide)] at H; exact H
        clear H
        have H := H1
        clear H1
        have HC28 := Aside0.mk H
        clear H
        have hcz29_0 : wc.cell? ⟨gb429, 0, none⟩ = some (.int .i64 a0_0) := (blk_cell BK429.out 0).trans rfl
        have hcz29_1 : wc.cell? ⟨gb429, 1, none⟩ = some (.int .i64 a0_1) := (blk_cell BK429.out 1).trans rfl
        have hcz29_2 : wc.cell? ⟨gb429, 2, none⟩ = some (.string a0_2) := (blk_cell BK429.out 2).trans rfl
        have hcz29_3 : wc.cell? ⟨gb429, 3, none⟩ = some (.string a0_3) := (blk_cell BK429.out 3).trans rfl
        have hcz29_4 : wc.cell? ⟨gb429, 4, none⟩ = some (.slice A0_4 l0_4.length c0_4) := (blk_cell BK429.out 4).trans rfl
        have hfz29_0 := blk_frozen BK429.out 0
        have hfz29_1 := blk_frozen BK429.out 1
        have hfz29_2 := blk_frozen BK429.out 2
        have hfz29_3 := blk_frozen BK429.out 3
        have hfz29_4 := blk_frozen BK429.out 4
        go_upto_if 30 with (fail)
        go_cut [30] (fun v30 wc => ∃ (kq : Nat) (x30_27 : Bool), v30 = .bool x30_27 ∧ Aside0 (impl_OpOK.j1 kq a0_0 x30_27 a0_0 a0_1 a0_2 a0_3 l0_4 = some r) ∧ Aside0 (kq ≤ kj1) ∧ Aside0 (wc.heap[gb429]? = some (.cells #[.int .i64 a0_0, .int .i64 a0_1, .string a0_2, .string a0_3, (.slice A0_4 l0_4.length c0_4)] 115 (0, 0))) ∧ Aside0 (Below w.heap.size w wc))
        case first =>
          have H := HC28.out
          clear HC28
          by_cases c30 : a0_0 = 1
          · rw [if_pos c30] at H
            have c30b0 : (a0_0 == 1) = true := beq_iff_eq.mpr c30
            have c30b1 : (a0_0 != 1) = false := bne_eq_false_iff_eq.mpr c30
            clear c30
            (first | rw [c30b0] | (simp only [i64_w, i32_w]; rw [c30b0]) | skip)
            have H' := Aside0.mk H
            clear H
            go_wp2
            go_meet
            case rel => exact ⟨_, ((a0_0 == 1)), vE, H', ⟨by have := HJ1.out; first | omega | exact Nat.le_refl _⟩, ⟨by (with_reducible repeat (first | refine blk_drewN ?_ _ | refine blk_drew ?_ | refine blk_alloc ?_ _)); exact BK429.out⟩, ⟨bW⟩⟩
          · rw [if_neg c30] at H
            have c30b0 : (a0_0 == 1) = false := beq_eq_false_iff_ne.mpr c30
            have c30b1 : (a0_0 != 1) = true := bne_iff_ne.mpr c30
            (first | rw [c30b0] | (simp only [i64_w, i32_w]; rw [c30b0]) | skip)
            have H' := Aside0.mk H
            clear H
            go_wp2
            go_meet
            case rel => exact ⟨_, ((a0_0 == 4)), vE, H', ⟨by have := HJ1.out; first | omega | exact Nat.le_refl _⟩, ⟨by (with_reducible repeat (first | refine blk_drewN ?_ _ | refine blk_drew ?_ | refine blk_alloc ?_ _)); exact BK429.out⟩, ⟨bW⟩⟩
        case rest =>
          clear HC28
          try clear c1
          try clear c2
          try clear p2
          try clear c3
          try clear c5
          try clear c6
          try clear c6b0
          try clear c6b1
          try clear c7
          try clear c7b0
          try clear c7b1
          try clear c8
          try clear c14
          try clear c14b0
          try clear c14b1
          try clear c15
          try clear c15b0
          try clear c15b1
          try clear c27
          try clear c30
          try clear c30b0
          try clear c30b1
          try clear hcz10_0
          try clear hcz10_1
          try clear hcz10_2
          try clear hcz10_3
          try clear hcz10_4
          try clear hcz11_0
          try clear hcz11_1
          try clear hcz11_2
          try clear hcz11_3
          try clear hcz11_4
          try clear hcz13_0
          try clear hcz13_1
          try clear hcz13_2
          try clear hcz13_3
          try clear hcz13_4
          try clear hcz16_0
          try clear hcz16_1
          try clear hcz16_2
          try clear hcz16_3
          try clear hcz16_4
          try clear hcz18_0
          try clear hcz18_1
          try clear hcz18_2
          try clear hcz18_3
          try clear hcz18_4
          try clear hcz19_0
          try clear hcz19_1
          try clear hcz19_2
          try clear hcz19_3
          try clear hcz19_4
          try clear hcz21_0
          try clear hcz21_1
          try clear hcz21_2
          try clear hcz21_3
          try clear hcz21_4
          try clear hcz22_0
          try clear hcz22_1
          try clear hcz22_2
          try clear hcz22_3
          try clear hcz22_4
          try clear hcz24_0
          try clear hcz24_1
          try clear hcz24_2
          try clear hcz24_3
          try clear hcz24_4
          try clear hcz25_0
          try clear hcz25_1
          try clear hcz25_2
          try clear hcz25_3
          try clear hcz25_4
          try clear hcz29_0
          try clear hcz29_1
          try clear hcz29_2
          try clear hcz29_3
          try clear hcz29_4
          try clear hcz8_0
          try clear hcz8_1
          try clear hcz8_2
          try clear hcz8_3
          try clear hcz8_4
          try clear hfz10_0
          try clear hfz10_1
          try clear hfz10_2
          try clear hfz10_3
          try clear hfz10_4
          try clear hfz11_0
          try clear hfz11_1
          try clear hfz11_2
          try clear hfz11_3
          try clear hfz11_4
          try clear hfz13_0
          try clear hfz13_1
          try clear hfz13_2
          try clear hfz13_3
          try clear hfz13_4
          try clear hfz16_0
          try clear hfz16_1
          try clear hfz16_2
          try clear hfz16_3
          try clear hfz16_4
          try clear hfz18_0
          try clear hfz18_1
          try clear hfz18_2
          try clear hfz18_3
          try clear hfz18_4
          try clear hfz19_0
          try clear hfz19_1
          try clear hfz19_2
          try clear hfz19_3
          try clear hfz19_4
          try clear hfz21_0
          try clear hfz21_1
          try clear hfz21_2
          try clear hfz21_3
          try clear hfz21_4
          try clear hfz22_0
          try clear hfz22_1
          try clear hfz22_2
          try clear hfz22_3
          try clear hfz22_4
          try clear hfz24_0
          try clear hfz24_1
          try clear hfz24_2
          try clear hfz24_3
          try clear hfz24_4
          try clear hfz25_0
          try clear hfz25_1
          try clear hfz25_2
          try clear hfz25_3
          try clear hfz25_4
          try clear hfz29_0
          try clear hfz29_1
          try clear hfz29_2
          try clear hfz29_3
          try clear hfz29_4
          try clear hfz8_0
          try clear hfz8_1
          try clear hfz8_2
          try clear hfz8_3
          try clear hfz8_4
          try clear p2
          obtain ⟨kq, x30_27, rfl, HA, HJ27, BK429, HB⟩ := hcut
          cases kq with
          | zero => exact absurd HA.out (by simp [impl_OpOK.j1])
          | succ kj27 =>
            have H := HA.out
            clear HA
            simp only [impl_OpOK.j1] at H
            by_cases c31 : x30_27 = true
            · subst c31
              have H1 : ((impl_isHead.f a0_1).bind fun t431 => (some t431)) = some r := by rw [if_pos rfl] at H; exact H
              clear H
              have H := H1
              clear H1
              replace H := Option.bind_eq_some_iff.mp H
              obtain ⟨t431, A320, H⟩ := H
              replace H : (some t431) = some r := H
              have A32 := Aside0.mk A320
              clear A320
              obtain rfl := Option.some.inj H
              have hcz33_0 : wc.cell? ⟨gb429, 0, none⟩ = some (.int .i64 a0_0) := (blk_cell BK429.out 0).trans rfl
              have hcz33_1 : wc.cell? ⟨gb429, 1, none⟩ = some (.int .i64 a0_1) := (blk_cell BK429.out 1).trans rfl
              have hcz33_2 : wc.cell? ⟨gb429, 2, none⟩ = some (.string a0_2) := (blk_cell BK429.out 2).trans rfl
              have hcz33_3 : wc.cell? ⟨gb429, 3, none⟩ = some (.string a0_3) := (blk_cell BK429.out 3).trans rfl
              have hcz33_4 : wc.cell? ⟨gb429, 4, none⟩ = some (.slice A0_4 l0_4.length c0_4) := (blk_cell BK429.out 4).trans rfl
              have hfz33_0 := blk_frozen BK429.out 0
              have hfz33_1 := blk_frozen BK429.out 1
              have hfz33_2 := blk_frozen BK429.out 2
              have hfz33_3 := blk_frozen BK429.out 3
              have hfz33_4 := blk_frozen BK429.out 4
              go_wp2_with (first | ((with_reducible refine gate_callee (f := 75) rfl ?_); refine goesL_ (some 35) rfl rfl Try.func75 (by kernel_rfl) rfl #[.int .i64 a0_1] rfl gA ?_; (with_reducible refine (impl_isHead.calls a0_1 t431 _ A32.out).mono ?_); rintro e w' ⟨rfl, ⟨nd, rfl⟩⟩; refine ⟨_, rfl, ?_⟩))
              go_ret
              exact ⟨rE, bW⟩
            · replace c31 := Bool.eq_false_iff.mpr c31
              subst c31
              have H1 : (if a0_0 = 2 then (impl_OpOK.j2 kj27 a0_0 (a0_0 == 2) a0_0 a0_1 a0_2 a0_3 l0_4) else (impl_OpOK.j2 kj27 a0_0 (a0_0 == 6) a0_0 a0_1 a0_2 a0_3 l0_4)) = some r := by rw [if_neg (show ¬ (false = true) by decide)] at H; exact H
              clear H
              have H := H1
              clear H1
              have HC34 := Aside0.mk H
              clear H
              go_upto_if 36 with (fail)
              go_cut [36] (fun v36 wc => ∃ (kq : Nat) (x36_33 : Bool), v36 = .bool x36_33 ∧ Aside0 (impl_OpOK.j2 kq a0_0 x36_33 a0_0 a0_1 a0_2 a0_3 l0_4 = some r) ∧ Aside0 (kq ≤ kj27) ∧ Aside0 (wc.heap[gb429]? = some (.cells #[.int .i64 a0_0, .int .i64 a0_1, .string a0_2, .string a0_3, (.slice A0_4 l0_4.length c0_4)] 115 (0, 0))) ∧ Aside0 (Below w.heap.size w wc))
              case first =>
                have H := HC34.out
                clear HC34
                by_cases c35 : a0_0 = 2
                · rw [if_pos c35] at H
                  have c35b0 : (a0_0 == 2) = true := beq_iff_eq.mpr c35
                  have c35b1 : (a0_0 != 2) = false := bne_eq_false_iff_eq.mpr c35
                  clear c35
                  (first | rw [c35b0] | (simp only [i64_w, i32_w]; rw [c35b0]) | skip)
                  have H' := Aside0.mk H
                  clear H
                  go_wp2
                  go_meet
                  case rel => exact ⟨_, ((a0_0 == 2)), vE, H', ⟨by have := HJ1.out; have := HJ27.out; first | omega | exact Nat.le_refl _⟩, ⟨by (with_reducible repeat (first | refine blk_drewN ?_ _ | refine blk_drew ?_ | refine blk_alloc ?_ _)); exact BK429.out⟩, ⟨bW⟩⟩
                · rw [if_neg c35] at H
                  have c35b0 : (a0_0 == 2) = false := beq_eq_false_iff_ne.mpr c35
                  have c35b1 : (a0_0 != 2) = true := bne_iff_ne.mpr c35
                  (first | rw [c35b0] | (simp only [i64_w, i32_w]; rw [c35b0]) | skip)
                  have H' := Aside0.mk H
                  clear H
                  go_wp2
                  go_meet
                  case rel => exact ⟨_, ((a0_0 == 6)), vE, H', ⟨by have := HJ1.out; have := HJ27.out; first | omega | exact Nat.le_refl _⟩, ⟨by (with_reducible repeat (first | refine blk_drewN ?_ _ | refine blk_drew ?_ | refine blk_alloc ?_ _)); exact BK429.out⟩, ⟨bW⟩⟩
              case rest =>
                clear HC34
                try clear c1
                try clear c2
                try clear p2
                try clear c3
                try clear c5
                try clear c6
                try clear c6b0
                try clear c6b1
                try clear c7
                try clear c7b0
                try clear c7b1
                try clear c8
                try clear c14
                try clear c14b0
                try clear c14b1
                try clear c15
                try clear c15b0
                try clear c15b1
                try clear c27
                try clear c30
                try clear c30b0
                try clear c30b1
                try clear c31
                try clear c35
                try clear c35b0
                try clear c35b1
                try clear hcz10_0
                try clear hcz10_1
                try clear hcz10_2
                try clear hcz10_3
                try clear hcz10_4
                try clear hcz11_0
                try clear hcz11_1
                try clear hcz11_2
                try clear hcz11_3
                try clear hcz11_4
                try clear hcz13_0
                try clear hcz13_1
                try clear hcz13_2
                try clear hcz13_3
                try clear hcz13_4
                try clear hcz16_0
                try clear hcz16_1
                try clear hcz16_2
                try clear hcz16_3
                try clear hcz16_4
                try clear hcz18_0
                try clear hcz18_1
                try clear hcz18_2
                try clear hcz18_3
                try clear hcz18_4
                try clear hcz19_0
                try clear hcz19_1
                try clear hcz19_2
                try clear hcz19_3
                try clear hcz19_4
                try clear hcz21_0
                try clear hcz21_1
                try clear hcz21_2
                try clear hcz21_3
                try clear hcz21_4
                try clear hcz22_0
                try clear hcz22_1
                try clear hcz22_2
                try clear hcz22_3
                try clear hcz22_4
                try clear hcz24_0
                try clear hcz24_1
                try clear hcz24_2
                try clear hcz24_3
                try clear hcz24_4
                try clear hcz25_0
                try clear hcz25_1
                try clear hcz25_2
                try clear hcz25_3
                try clear hcz25_4
                try clear hcz29_0
                try clear hcz29_1
                try clear hcz29_2
                try clear hcz29_3
                try clear hcz29_4
                try clear hcz33_0
                try clear hcz33_1
                try clear hcz33_2
                try clear hcz33_3
                try clear hcz33_4
                try clear hcz8_0
                try clear hcz8_1
                try clear hcz8_2
                try clear hcz8_3
                try clear hcz8_4
                try clear hfz10_0
                try clear hfz10_1
                try clear hfz10_2
                try clear hfz10_3
                try clear hfz10_4
                try clear hfz11_0
                try clear hfz11_1
                try clear hfz11_2
                try clear hfz11_3
                try clear hfz11_4
                try clear hfz13_0
                try clear hfz13_1
                try clear hfz13_2
                try clear hfz13_3
                try clear hfz13_4
                try clear hfz16_0
                try clear hfz16_1
                try clear hfz16_2
                try clear hfz16_3
                try clear hfz16_4
                try clear hfz18_0
                try clear hfz18_1
                try clear hfz18_2
                try clear hfz18_3
                try clear hfz18_4
                try clear hfz19_0
                try clear hfz19_1
                try clear hfz19_2
                try clear hfz19_3
                try clear hfz19_4
                try clear hfz21_0
                try clear hfz21_1
                try clear hfz21_2
                try clear hfz21_3
                try clear hfz21_4
                try clear hfz22_0
                try clear hfz22_1
                try clear hfz22_2
                try clear hfz22_3
                try clear hfz22_4
                try clear hfz24_0
                try clear hfz24_1
                try clear hfz24_2
                try clear hfz24_3
                try clear hfz24_4
                try clear hfz25_0
                try clear hfz25_1
                try clear hfz25_2
                try clear hfz25_3
                try clear hfz25_4
                try clear hfz29_0
                try clear hfz29_1
                try clear hfz29_2
                try clear hfz29_3
                try clear hfz29_4
                try clear hfz33_0
                try clear hfz33_1
                try clear hfz33_2
                try clear hfz33_3
                try clear hfz33_4
                try clear hfz8_0
                try clear hfz8_1
                try clear hfz8_2
                try clear hfz8_3
                try clear hfz8_4
                try clear p2
                obtain ⟨kq, x36_33, rfl, HA, HJ33, BK429, HB⟩ := hcut
                cases kq with
                | zero => exact absurd HA.out (by simp [impl_OpOK.j2])
                | succ kj33 =>
                  have H := HA.out
                  clear HA
                  simp only [impl_OpOK.j2] at H
                  by_cases c36 : x36_33 = true
                  · subst c36
                    have H1 : (some (a0_1 == 0)) = some r := by rw [if_pos rfl] at H; exact H
                    clear H
                    have H := H1
                    clear H1
                    obtain rfl := Option.some.inj H
                    have hcz37_0 : wc.cell? ⟨gb429, 0, none⟩ = some (.int .i64 a0_0) := (blk_cell BK429.out 0).trans rfl
                    have hcz37_1 : wc.cell? ⟨gb429, 1, none⟩ = some (.int .i64 a0_1) := (blk_cell BK429.out 1).trans rfl
                    have hcz37_2 : wc.cell? ⟨gb429, 2, none⟩ = some (.string a0_2) := (blk_cell BK429.out 2).trans rfl
                    have hcz37_3 : wc.cell? ⟨gb429, 3, none⟩ = some (.string a0_3) := (blk_cell BK429.out 3).trans rfl
                    have hcz37_4 : wc.cell? ⟨gb429, 4, none⟩ = some (.slice A0_4 l0_4.length c0_4) := (blk_cell BK429.out 4).trans rfl
                    have hfz37_0 := blk_frozen BK429.out 0
                    have hfz37_1 := blk_frozen BK429.out 1
                    have hfz37_2 := blk_frozen BK429.out 2
                    have hfz37_3 := blk_frozen BK429.out 3
                    have hfz37_4 := blk_frozen BK429.out 4
                    go_wp2
                    go_ret
                    exact ⟨rE, bW⟩
                  · replace c36 := Bool.eq_false_iff.mpr c36
                    subst c36
                    have H1 : (if a0_0 = 3 then ((impl_within.f a0_1 0 60).bind fun t432 => (if t432 = true then ((impl_EditsOK.f kj33 l0_4).bind fun t433 => (some t433)) else (some false))) else (if a0_0 = 5 then (if a0_1 = 0 then ((impl_NameOK.f a0_3).bind fun t434 => (some t434)) else (some false)) else (some false))) = some r := by rw [if_neg (show ¬ (false = true) by decide)] at H; exact H
                    clear H
                    have H := H1
                    clear H1
                    by_cases c38 : a0_0 = 3
                    · rw [if_pos c38] at H
                      have c38b0 : (a0_0 == 3) = true := beq_iff_eq.mpr c38
                      have c38b1 : (a0_0 != 3) = false := bne_eq_false_iff_eq.mpr c38
                      clear c38
                      replace H := Option.bind_eq_some_iff.mp H
                      obtain ⟨t432, A390, H⟩ := H
                      replace H : (if t432 = true then ((impl_EditsOK.f kj33 l0_4).bind fun t433 => (some t433)) else (some false)) = some r := H
                      have A39 := Aside0.mk A390
                      clear A390
                      by_cases c40 : t432 = true
                      · subst c40
                        have H1 : ((impl_EditsOK.f kj33 l0_4).bind fun t433 => (some t433)) = some r := by rw [if_pos rfl] at H; exact H
                        clear H
                        have H := H1
                        clear H1
                        replace H := Option.bind_eq_some_iff.mp H
                        obtain ⟨t433, A410, H⟩ := H
                        replace H : (some t433) = some r := H
                        have A41 := Aside0.mk A410
                        clear A410
                        obtain rfl := Option.some.inj H
                        have hcz42_0 : wc.cell? ⟨gb429, 0, none⟩ = some (.int .i64 a0_0) := (blk_cell BK429.out 0).trans rfl
                        have hcz42_1 : wc.cell? ⟨gb429, 1, none⟩ = some (.int .i64 a0_1) := (blk_cell BK429.out 1).trans rfl
                        have hcz42_2 : wc.cell? ⟨gb429, 2, none⟩ = some (.string a0_2) := (blk_cell BK429.out 2).trans rfl
                        have hcz42_3 : wc.cell? ⟨gb429, 3, none⟩ = some (.string a0_3) := (blk_cell BK429.out 3).trans rfl
                        have hcz42_4 : wc.cell? ⟨gb429, 4, none⟩ = some (.slice A0_4 l0_4.length c0_4) := (blk_cell BK429.out 4).trans rfl
                        have hfz42_0 := fz1 BK429
                        have hfz42_1 := blk_frozen BK429.out 1
                        have hfz42_2 := blk_frozen BK429.out 2
                        have hfz42_3 := blk_frozen BK429.out 3
                        have hfz42_4 := blk_frozen BK429.out 4
                        go_wp2_with (first | ((with_reducible refine gate_callee (f := 97) rfl ?_); refine goesL_ (some 46) rfl rfl Try.func97 (by kernel_rfl) rfl #[.int .i64 a0_1, .int .i64 0, .int .i64 60] rfl gA ?_; (with_reducible refine (impl_within.calls a0_1 0 60 true _ A39.out).mono ?_); rintro e w' ⟨rfl, ⟨nd, rfl⟩⟩; refine ⟨_, rfl, ?_⟩) | (go_at_call 106; (with_reducible refine (impl_EditsOK.calls kj33 _ _ l0_4 t433 _ ?side1 ?side2 A41.out).mono ?_); (case side1 => exact cB HR0_4); (case side2 => exact HC0_4.out); rintro e w43 ⟨rfl, hb⟩; have n0_ := Aside0.mk (kb BK429 hb); have n1_ := Aside0.mk (below_step (w := w) bW hb); clear BK429; clear HB; have BK429 := n0_; have HB := n1_; clear n0_ n1_; (try clear hb); (try clear hb2); (try clear hk); (try clear hi)))
                        go_ret
                        exact ⟨rE, bW⟩
                      · replace c40 := Bool.eq_false_iff.mpr c40
                        subst c40
                        have H1 : (some false) = some r := by rw [if_neg (show ¬ (false = true) by decide)] at H; exact H
                        clear H
                        have H := H1
                        clear H1
                        obtain rfl := Option.some.inj H
                        have hcz44_0 : wc.cell? ⟨gb429, 0, none⟩ = some (.int .i64 a0_0) := (blk_cell BK429.out 0).trans rfl
                        have hcz44_1 : wc.cell? ⟨gb429, 1, none⟩ = some (.int .i64 a0_1) := (blk_cell BK429.out 1).trans rfl
                        have hcz44_2 : wc.cell? ⟨gb429, 2, none⟩ = some (.string a0_2) := (blk_cell BK429.out 2).trans rfl
                        have hcz44_3 : wc.cell? ⟨gb429, 3, none⟩ = some (.string a0_3) := (blk_cell BK429.out 3).trans rfl
                        have hcz44_4 : wc.cell? ⟨gb429, 4, none⟩ = some (.slice A0_4 l0_4.length c0_4) := (blk_cell BK429.out 4).trans rfl
                        have hfz44_0 := fz1 BK429
                        have hfz44_1 := blk_frozen BK429.out 1
                        have hfz44_2 := blk_frozen BK429.out 2
                        have hfz44_3 := blk_frozen BK429.out 3
                        have hfz44_4 := blk_frozen BK429.out 4
                        go_wp2_with (first | ((with_reducible refine gate_callee (f := 97) rfl ?_); refine goesL_ (some 46) rfl rfl Try.func97 (by kernel_rfl) rfl #[.int .i64 a0_1, .int .i64 0, .int .i64 60] rfl gA ?_; (with_reducible refine (impl_within.calls a0_1 0 60 false _ A39.out).mono ?_); rintro e w' ⟨rfl, ⟨nd, rfl⟩⟩; refine ⟨_, rfl, ?_⟩))
                        go_ret
                        exact ⟨rE, bW⟩
                    · rw [if_neg c38] at H
                      have c38b0 : (a0_0 == 3) = false := beq_eq_false_iff_ne.mpr c38
                      have c38b1 : (a0_0 != 3) = true := bne_iff_ne.mpr c38
                      by_cases c45 : a0_0 = 5
                      · rw [if_pos c45] at H
                        have c45b0 : (a0_0 == 5) = true := beq_iff_eq.mpr c45
                        have c45b1 : (a0_0 != 5) = false := bne_eq_false_iff_eq.mpr c45
                        clear c45
                        by_cases c46 : a0_1 = 0
                        · rw [if_pos c46] at H
                          have c46b0 : (a0_1 == 0) = true := beq_iff_eq.mpr c46
                          have c46b1 : (a0_1 != 0) = false := bne_eq_false_iff_eq.mpr c46
                          clear c46
                          replace H := Option.bind_eq_some_iff.mp H
                          obtain ⟨t434, A470, H⟩ := H
                          replace H : (some t434) = some r := H
                          have A47 := Aside0.mk A470
                          clear A470
                          obtain rfl := Option.some.inj H
                          have hcz48_0 : wc.cell? ⟨gb429, 0, none⟩ = some (.int .i64 a0_0) := (blk_cell BK429.out 0).trans rfl
                          have hcz48_1 : wc.cell? ⟨gb429, 1, none⟩ = some (.int .i64 a0_1) := (blk_cell BK429.out 1).trans rfl
                          have hcz48_2 : wc.cell? ⟨gb429, 2, none⟩ = some (.string a0_2) := (blk_cell BK429.out 2).trans rfl
                          have hcz48_3 : wc.cell? ⟨gb429, 3, none⟩ = some (.string a0_3) := (blk_cell BK429.out 3).trans rfl
                          have hcz48_4 : wc.cell? ⟨gb429, 4, none⟩ = some (.slice A0_4 l0_4.length c0_4) := (blk_cell BK429.out 4).trans rfl
                          have hfz48_0 := fz1 BK429
                          have hfz48_1 := blk_frozen BK429.out 1
                          have hfz48_2 := blk_frozen BK429.out 2
                          have hfz48_3 := blk_frozen BK429.out 3
                          have hfz48_4 := blk_frozen BK429.out 4
                          go_wp2_with (first | (go_at_call 89; (with_reducible refine (impl_NameOK.calls a0_3 t434 _ A47.out).mono ?_); rintro e w49 ⟨rfl, hb⟩; have n0_ := Aside0.mk (kb BK429 hb); have n1_ := Aside0.mk (below_step (w := w) bW hb); clear BK429; clear HB; have BK429 := n0_; have HB := n1_; clear n0_ n1_; (try clear hb); (try clear hb2); (try clear hk); (try clear hi)))
                          go_ret
                          exact ⟨rE, bW⟩
                        · rw [if_neg c46] at H
                          have c46b0 : (a0_1 == 0) = false := beq_eq_false_iff_ne.mpr c46
                          have c46b1 : (a0_1 != 0) = true := bne_iff_ne.mpr c46
                          obtain rfl := Option.some.inj H
                          have hcz50_0 : wc.cell? ⟨gb429, 0, none⟩ = some (.int .i64 a0_0) := (blk_cell BK429.out 0).trans rfl
                          have hcz50_1 : wc.cell? ⟨gb429, 1, none⟩ = some (.int .i64 a0_1) := (blk_cell BK429.out 1).trans rfl
                          have hcz50_2 : wc.cell? ⟨gb429, 2, none⟩ = some (.string a0_2) := (blk_cell BK429.out 2).trans rfl
                          have hcz50_3 : wc.cell? ⟨gb429, 3, none⟩ = some (.string a0_3) := (blk_cell BK429.out 3).trans rfl
                          have hcz50_4 : wc.cell? ⟨gb429, 4, none⟩ = some (.slice A0_4 l0_4.length c0_4) := (blk_cell BK429.out 4).trans rfl
                          have hfz50_0 := fz1 BK429
                          have hfz50_1 := blk_frozen BK429.out 1
                          have hfz50_2 := blk_frozen BK429.out 2
                          have hfz50_3 := blk_frozen BK429.out 3
                          have hfz50_4 := blk_frozen BK429.out 4
                          go_wp2
                          go_ret
                          exact ⟨rE, bW⟩
                      · rw [if_neg c45] at H
                        have c45b0 : (a0_0 == 5) = false := beq_eq_false_iff_ne.mpr c45
                        have c45b1 : (a0_0 != 5) = true := bne_iff_ne.mpr c45
                        obtain rfl := Option.some.inj H
                        go_wp2
                        go_ret
                        exact ⟨rE, bW⟩
end Go.Proofs.Ytjkddaokhmflbaa.Q
end

section
namespace Go.Proofs.Ytjkddaokhmflbaa.Q
open Go.RowKit Go.Proofs.YtjkddaokhmflbaaW.PrintWords Go.Proofs.YtjkddaokhmflbaaW.PrintLast Go.Proofs.YtjkddaokhmflbaaW.PrintMore
attribute [local go_sem] max2_int min2_int max_two min_two max_three min_three max_four min_four   -- for this text's walks alone
set_option linter.unusedVariables false
set_option linter.unusedSimpArgs false
attribute [local go_sem] bin_leq bin_gtr bin_geq
def impl_Wish_op.f (a0_0 : Int) (a0_1 : ByteArray) (a0_2 : ByteArray) (a0_3 : ByteArray) (l0_4 : List (S119)) (a1 : Int) : Option (Int × Int × ByteArray × ByteArray × (List (S119))) := (impl_Edit.f l0_4).bind fun t437 => (some (a0_0, a1, a0_1, a0_3, t437))
def impl_Wish_op.T1 : Bool × List (List Nat × List Nat) := (true, [([], []), ([0], [0]), ([], []), ([], []), ([3], [3]), ([], []), ([5], [5]), ([], []), ([7], [7]), ([8], [8]), ([1, 2, 4, 6, 9], [1, 2, 4, 6, 9]), ([10, 9, 0, 1, 2, 3, 4, 5, 6, 7, 8, 9, 10], [10])])
def impl_Wish_op.B1 : List Nat := [0, 1, 0, 0, 8, 0, 32, 0, 128, 384, 1023, 2047]
theorem impl_Wish_op.tab1 : rtab .any (opsOf Try.f88 1) = impl_Wish_op.T1 := by kernel_rfl
theorem impl_Wish_op.bits1 : waitsOk impl_Wish_op.T1.2 impl_Wish_op.B1 = true := by kernel_rfl
set_option maxHeartbeats 8000000 in
set_option maxRecDepth 100000 in
theorem impl_Wish_op.calls (a0_0 : Int) (a0_1 : ByteArray) (a0_2 : ByteArray) (a0_3 : ByteArray) (A0_4 : Option Addr) (c0_4 : Nat) (l0_4 : List (S119)) (a1 : Int) (r1 : Int) (r2 : Int) (r3 : ByteArray) (r4 : ByteArray) (r5 : List (S119)) (w : World) (hr0_4 : Kd.C k119 w A0_4 l0_4.length l0_4) (hc0_4 : l0_4.length ≤ c0_4) (h : impl_Wish_op.f a0_0 a0_1 a0_2 a0_3 l0_4 a1 = some (r1, r2, r3, r4, r5)) :
    Calls Try.prog 88 #[.agg #[.int .i64 a0_0, .string a0_1, .string a0_2, .string a0_3, .slice A0_4 l0_4.length c0_4], .int .i64 a1] w fun e w' => ∃ v4_ : Value, e = .returned (.agg #[.int .i64 r1, .int .i64 r2, .string r3, .string r4, v4_]) ∧ Kd.R k119 119 w' w.heap.size (fun _ => True) v4_ r5 ∧ Below w.heap.size w w' := by
  have hu94 := Try.underlying94
  have hu115 := Try.underlying115
  have HR0_4 := Aside0.mk hr0_4
  have HC0_4 := Aside0.mk hc0_4
  clear hr0_4 hc0_4
  have HB := Aside0.mk (Below.refl w.heap.size w)
  have H : ((impl_Edit.f l0_4).bind fun t437 => (some (a0_0, a1, a0_1, a0_3, t437))) = some (r1, r2, r3, r4, r5) := h
  clear h
  replace H := Option.bind_eq_some_iff.mp H
  obtain ⟨t437, A30, H⟩ := H
  replace H : (some (a0_0, a1, a0_1, a0_3, t437)) = some (r1, r2, r3, r4, r5) := H
  have A3 := Aside0.mk A30
  clear A30
  simp only [Option.some.injEq, Prod.mk.injEq] at H
  obtain ⟨rfl, rfl, rfl, rfl, rfl⟩ := H
  go_enter Try.func88, Try.ntmps88
  try go_wp2_with (first | ((with_reducible refine gate_dst (N := 2) rfl ?_); refine bE (N := 2) (cs := #[.int .i64 a0_0, .string a0_1, .string a0_2, .string a0_3, .slice A0_4 l0_4.length c0_4]) (t := 94) ?_; intro gb435 hg w4 hbox hb; have n0_ := Aside0.mk (below_step (w := w) bW hb); have n1_ := Aside0.mk (hbox); have n2_ := Aside0.mk (gS (w := w) hg); have n3_ := n2_; clear HB; have HB := n0_; have BK435 := n1_; have GW435 := n2_; have GE435 := n3_; clear n0_ n1_ n2_ n3_; clear hb hbox hg) | ((with_reducible refine gate_dst (N := 4) rfl ?_); refine bE (N := 4) (cs := #[.int .i64 0, .int .i64 0, .string (⟨#[]⟩ : ByteArray), .string (⟨#[]⟩ : ByteArray), .slice none 0 0]) (t := 115) ?_; intro gb436 hg w5 hbox hb; have n0_ := Aside0.mk (kb BK435 hb); have n1_ := Aside0.mk (below_step (w := w) bW hb); have n2_ := Aside0.mk (hbox); have n3_ := Aside0.mk (gS (w := w) hg); have n4_ := n3_; have n5_ := Aside0.mk (nL BK435 hg); have n6_ := Aside0.mk (nG BK435 hg); clear BK435; clear HB; have BK435 := n0_; have HB := n1_; have BK436 := n2_; have GW436 := n3_; have GE436 := n4_; have NB435_436 := n5_; have NB436_435 := n6_; clear n0_ n1_ n2_ n3_ n4_ n5_ n6_; clear hb hbox hg))
  have n0_ := Aside0.mk (blk_drew BK435.out)
  have n1_ := Aside0.mk (blk_drew BK436.out)
  have n2_ := Aside0.mk (below_drew1 HB.out)
  clear BK435
  clear BK436
  clear HB
  have BK435 := n0_
  have BK436 := n1_
  have HB := n2_
  clear n0_ n1_ n2_
  refine start_ (n := 12) (S := fun w' => w'.cell? ⟨gb435, 0, none⟩ = some (.int .i64 a0_0) ∧ w'.cell? ⟨gb435, 1, none⟩ = some (.string a0_1) ∧ w'.cell? ⟨gb435, 2, none⟩ = some (.string a0_2) ∧ w'.cell? ⟨gb435, 3, none⟩ = some (.string a0_3) ∧ w'.cell? ⟨gb435, 4, none⟩ = some (.slice A0_4 l0_4.length c0_4)) (ds := []) #[false, false, false, false, false, false, false, false, false, false, false, false] (by kernel_rfl) rfl rfl ⟨(blk_cell BK435.out 0).trans rfl, (blk_cell BK435.out 1).trans rfl, (blk_cell BK435.out 2).trans rfl, (blk_cell BK435.out 3).trans rfl, (blk_cell BK435.out 4).trans rfl⟩ (fun hHeld => ?_); refine with_tabW impl_Wish_op.tab1 impl_Wish_op.bits1 (fun HT_ HW_ => ?_)
  generalize w5.drew = w6 at BK435 BK436 HB hHeld ⊢
  refine pure_ (i := 0) (N := some 5) (v := ?_) (a' := ?_) #[true, false, false, false, false, false, false, false, false, false, false, false] rfl rfl (any_of HT_.out (by kernel_rfl)) (fun _ _ _ h => h) (Or.inl ⟨by rfl, ?_⟩) ?_ ?_
  rotate_left
  · intro w'
    go_simp
    with_reducible rfl
  rotate_left
  · simp only [Act.put, List.setIfInBounds_toArray, List.set_cons_zero, List.set_cons_succ, i64_w, i32_w]
    rfl
  refine pure_ (i := 2) (N := some 7) (v := ?_) (a' := ?_) #[true, false, true, false, false, false, false, false, false, false, false, false] rfl rfl (any_of HT_.out (by kernel_rfl)) (fun _ _ _ h => h) (Or.inl ⟨by rfl, ?_⟩) ?_ ?_
  rotate_left
  · intro w'
    go_simp
    with_reducible rfl
  rotate_left
  · simp only [Act.put, List.setIfInBounds_toArray, List.set_cons_zero, List.set_cons_succ, i64_w, i32_w]
    rfl
  refine pure_ (i := 3) (N := some 8) (v := ?_) (a' := ?_) #[true, false, true, true, false, false, false, false, false, false, false, false] rfl rfl (any_of HT_.out (by kernel_rfl)) (fun _ _ _ h => h) (Or.inl ⟨by rfl, ?_⟩) ?_ ?_
  rotate_left
  · intro w'
    go_simp
    with_reducible rfl
  rotate_left
  · simp only [Act.put, List.setIfInBounds_toArray, List.set_cons_zero, List.set_cons_succ, i64_w, i32_w]
    rfl
  refine pure_ (i := 5) (N := some 10) (v := ?_) (a' := ?_) #[true, false, true, true, false, true, false, false, false, false, false, false] rfl rfl (any_of HT_.out (by kernel_rfl)) (fun _ _ _ h => h) (Or.inl ⟨by rfl, ?_⟩) ?_ ?_
  rotate_left
  · intro w'
    go_simp
    with_reducible rfl
  rotate_left
  · simp only [Act.put, List.setIfInBounds_toArray, List.set_cons_zero, List.set_cons_succ, i64_w, i32_w]
    rfl
  refine pure_ (i := 7) (N := some 12) (v := ?_) (a' := ?_) #[true, false, true, true, false, true, false, true, false, false, false, false] rfl rfl (any_of HT_.out (by kernel_rfl)) (fun _ _ _ h => h) (Or.inl ⟨by rfl, ?_⟩) ?_ ?_
  rotate_left
  · intro w'
    go_simp
    with_reducible rfl
  rotate_left
  · simp only [Act.put, List.setIfInBounds_toArray, List.set_cons_zero, List.set_cons_succ, i64_w, i32_w]
    rfl
  refine take_ (i := 1) (N := some 6) (v := ?_) (a' := ?_) #[true, true, true, true, false, true, false, true, false, false, false, false] rfl rfl (take_ofW HT_.out HW_.out (by kernel_rfl)) (fun _ _ _ h => h) (Or.inl ⟨by rfl, ?_⟩) hHeld ?_ ?_
  rotate_left
  · rintro w' ⟨s0, s1, s2, s3, s4⟩
    go_simp
    with_reducible rfl
  rotate_left
  · simp only [Act.put, List.setIfInBounds_toArray, List.set_cons_zero, List.set_cons_succ, i64_w, i32_w]
    rfl
  refine take_ (i := 4) (N := some 9) (v := ?_) (a' := ?_) #[true, true, true, true, true, true, false, true, false, false, false, false] rfl rfl (take_ofW HT_.out HW_.out (by kernel_rfl)) (fun _ _ _ h => h) (Or.inl ⟨by rfl, ?_⟩) hHeld ?_ ?_
  rotate_left
  · rintro w' ⟨s0, s1, s2, s3, s4⟩
    go_simp
    with_reducible rfl
  rotate_left
  · simp only [Act.put, List.setIfInBounds_toArray, List.set_cons_zero, List.set_cons_succ, i64_w, i32_w]
    rfl
  refine take_ (i := 6) (N := some 11) (v := ?_) (a' := ?_) #[true, true, true, true, true, true, true, true, false, false, false, false] rfl rfl (take_ofW HT_.out HW_.out (by kernel_rfl)) (fun _ _ _ h => h) (Or.inl ⟨by rfl, ?_⟩) hHeld ?_ ?_
  rotate_left
  · rintro w' ⟨s0, s1, s2, s3, s4⟩
    go_simp
    with_reducible rfl
  rotate_left
  · simp only [Act.put, List.setIfInBounds_toArray, List.set_cons_zero, List.set_cons_succ, i64_w, i32_w]
    rfl
  refine take_ (i := 8) (N := some 13) (v := ?_) (a' := ?_) #[true, true, true, true, true, true, true, true, true, false, false, false] rfl rfl (take_ofW HT_.out HW_.out (by kernel_rfl)) (fun _ _ _ h => h) (Or.inl ⟨by rfl, ?_⟩) hHeld ?_ ?_
  rotate_left
  · rintro w' ⟨s0, s1, s2, s3, s4⟩
    go_simp
    with_reducible rfl
  rotate_left
  · simp only [Act.put, List.setIfInBounds_toArray, List.set_cons_zero, List.set_cons_succ, i64_w, i32_w]
    rfl
  refine one_ (i := 9) (N := some 14) #[true, true, true, true, true, true, true, true, true, true, false, false] rfl rfl (one_of HT_.out (by kernel_rfl)) (by decide) (fun K hK => ?_)
  refine goes_ Try.func90 (by kernel_rfl) rfl #[.slice A0_4 l0_4.length c0_4] (by rfl) rfl rfl gA ?_
  with_reducible refine (impl_Edit.calls _ _ l0_4 t437 _ ?side1 ?side2 A3.out).mono ?_
  (case side1 => exact cB HR0_4)
  (case side2 => exact HC0_4.out)
  rintro e w7 ⟨v438, rfl, ho0, hb⟩
  refine ⟨_, rfl, ?_⟩
  have n0_ := Aside0.mk (Kd.R_lower ho0 (below_size (w := w) bW))
  have n1_ := Aside0.mk (kb BK435 hb)
  have n2_ := Aside0.mk (kb BK436 hb)
  have n3_ := Aside0.mk (below_step (w := w) bW hb)
  clear BK435
  clear BK436
  clear HB
  have HO439 := n0_
  have BK435 := n1_
  have BK436 := n2_
  have HB := n3_
  clear n0_ n1_ n2_ n3_
  (try clear hb)
  (try clear hb2)
  (try clear hk)
  (try clear hi)
  (try clear ho0)
  obtain ⟨Ao8, co8, eo8⟩ := Kd.R_slice HO439.out
  (first | subst eo8 | (injection eo8 with f1_ f2_ f3_; have f4_ := f1_.symm; have f5_ := f3_.symm; clear f1_ f2_ f3_; subst f4_; subst f5_))
  refine hK.out _ _ ⟨(blk_cell BK435.out 0).trans rfl, (blk_cell BK435.out 1).trans rfl, (blk_cell BK435.out 2).trans rfl, (blk_cell BK435.out 3).trans rfl, (blk_cell BK435.out 4).trans rfl⟩ (fun hHeld => ?_)
  clear hK K
  refine norm_ (a' := ?_) ?_ ?_
  rotate_left
  · show Act.put _ (some 14) _ = _
    simp only [Act.put, List.setIfInBounds_toArray, List.set_cons_zero, List.set_cons_succ, i64_w, i32_w]
    rfl
  refine pure_ (i := 10) (N := some 15) (v := ?_) (a' := ?_) #[true, true, true, true, true, true, true, true, true, true, true, false] rfl rfl (any_of HT_.out (by kernel_rfl)) (fun _ _ _ h => h) (Or.inl ⟨by rfl, ?_⟩) ?_ ?_
  rotate_left
  · intro w'
    go_simp
    with_reducible rfl
  rotate_left
  · simp only [Act.put, List.setIfInBounds_toArray, List.set_cons_zero, List.set_cons_succ, i64_w, i32_w]
    rfl
  refine one_ (i := 11) (N := none) #[true, true, true, true, true, true, true, true, true, true, true, true] rfl rfl (one_of HT_.out (by kernel_rfl)) (by decide) (fun K hK => ?_)
  have hs9 : w7.cell? ⟨gb436, 0, none⟩ = some (.int .i64 0) := (blk_cell BK436.out 0).trans rfl
  have hfs9 := blk_frozen BK436.out 0
  have hns9_0 := NB435_436.out
  have hms9_0 := NB436_435.out
  have hs10 : w7.cell? ⟨gb436, 1, none⟩ = some (.int .i64 0) := (blk_cell BK436.out 1).trans rfl
  have hfs10 := blk_frozen BK436.out 1
  have hns10_0 := NB435_436.out
  have hms10_0 := NB436_435.out
  have hs11 : w7.cell? ⟨gb436, 2, none⟩ = some (.string (⟨#[]⟩ : ByteArray)) := (blk_cell BK436.out 2).trans rfl
  have hfs11 := blk_frozen BK436.out 2
  have hns11_0 := NB435_436.out
  have hms11_0 := NB436_435.out
  have hs12 : w7.cell? ⟨gb436, 3, none⟩ = some (.string (⟨#[]⟩ : ByteArray)) := (blk_cell BK436.out 3).trans rfl
  have hfs12 := blk_frozen BK436.out 3
  have hns12_0 := NB435_436.out
  have hms12_0 := NB436_435.out
  have hs13 : w7.cell? ⟨gb436, 4, none⟩ = some (.slice none 0 0) := (blk_cell BK436.out 4).trans rfl
  have hfs13 := blk_frozen BK436.out 4
  have hns13_0 := NB435_436.out
  have hms13_0 := NB436_435.out
  refine skip_ (w1 := ?_) (by rfl) rfl ?_ ?_
  rotate_left
  · go_simp
    rfl
  refine hK.out _ _ ⟨((cell_far (p := ⟨gb436, _, none⟩) NB435_436.out _).trans (((cell_far (p := ⟨gb436, _, none⟩) NB435_436.out _).trans (((cell_far (p := ⟨gb436, _, none⟩) NB435_436.out _).trans (((cell_far (p := ⟨gb436, _, none⟩) NB435_436.out _).trans (((cell_far (p := ⟨gb436, _, none⟩) NB435_436.out _).trans (hHeld.1)))))))))), ((cell_far (p := ⟨gb436, _, none⟩) NB435_436.out _).trans (((cell_far (p := ⟨gb436, _, none⟩) NB435_436.out _).trans (((cell_far (p := ⟨gb436, _, none⟩) NB435_436.out _).trans (((cell_far (p := ⟨gb436, _, none⟩) NB435_436.out _).trans (((cell_far (p := ⟨gb436, _, none⟩) NB435_436.out _).trans (hHeld.2.1)))))))))), ((cell_far (p := ⟨gb436, _, none⟩) NB435_436.out _).trans (((cell_far (p := ⟨gb436, _, none⟩) NB435_436.out _).trans (((cell_far (p := ⟨gb436, _, none⟩) NB435_436.out _).trans (((cell_far (p := ⟨gb436, _, none⟩) NB435_436.out _).trans (((cell_far (p := ⟨gb436, _, none⟩) NB435_436.out _).trans (hHeld.2.2.1)))))))))), ((cell_far (p := ⟨gb436, _, none⟩) NB435_436.out _).trans (((cell_far (p := ⟨gb436, _, none⟩) NB435_436.out _).trans (((cell_far (p := ⟨gb436, _, none⟩) NB435_436.out _).trans (((cell_far (p := ⟨gb436, _, none⟩) NB435_436.out _).trans (((cell_far (p := ⟨gb436, _, none⟩) NB435_436.out _).trans (hHeld.2.2.2.1)))))))))), ((cell_far (p := ⟨gb436, _, none⟩) NB435_436.out _).trans (((cell_far (p := ⟨gb436, _, none⟩) NB435_436.out _).trans (((cell_far (p := ⟨gb436, _, none⟩) NB435_436.out _).trans (((cell_far (p := ⟨gb436, _, none⟩) NB435_436.out _).trans (((cell_far (p := ⟨gb436, _, none⟩) NB435_436.out _).trans (hHeld.2.2.2.2))))))))))⟩ (fun hHeld => ?_)
  clear hK K
  refine done_ (done_of HT_.out (by kernel_rfl)) ?_
  try go_wp2
  refine bodyPost_ret (results_cell_row rfl _ _ gb436 115 #[.int .i64 a0_0, .int .i64 a1, .string a0_1, .string a0_3, .slice Ao8 t437.length co8] (0, 0) _ rfl (by (with_reducible repeat (first | refine blk_drewN ?_ _ | refine blk_drew ?_ | refine blk_alloc ?_ _)); refine blk_put (cs := #[.int .i64 a0_0, .int .i64 a1, .string a0_1, .string a0_3, .slice none 0 0]) ?_ 4 _ rfl; (with_reducible repeat (first | refine blk_drewN ?_ _ | refine blk_drew ?_ | refine blk_alloc ?_ _)); refine blk_put (cs := #[.int .i64 a0_0, .int .i64 a1, .string a0_1, .string (⟨#[]⟩ : ByteArray), .slice none 0 0]) ?_ 3 _ rfl; (with_reducible repeat (first | refine blk_drewN ?_ _ | refine blk_drew ?_ | refine blk_alloc ?_ _)); refine blk_put (cs := #[.int .i64 a0_0, .int .i64 a1, .string (⟨#[]⟩ : ByteArray), .string (⟨#[]⟩ : ByteArray), .slice none 0 0]) ?_ 2 _ rfl; (with_reducible repeat (first | refine blk_drewN ?_ _ | refine blk_drew ?_ | refine blk_alloc ?_ _)); refine blk_put (cs := #[.int .i64 a0_0, .int .i64 0, .string (⟨#[]⟩ : ByteArray), .string (⟨#[]⟩ : ByteArray), .slice none 0 0]) ?_ 1 _ rfl; (with_reducible repeat (first | refine blk_drewN ?_ _ | refine blk_drew ?_ | refine blk_alloc ?_ _)); refine blk_put (cs := #[.int .i64 0, .int .i64 0, .string (⟨#[]⟩ : ByteArray), .string (⟨#[]⟩ : ByteArray), .slice none 0 0]) ?_ 0 _ rfl; (with_reducible repeat (first | refine blk_drewN ?_ _ | refine blk_drew ?_ | refine blk_alloc ?_ _)); exact BK436.out) Try.underlying115 rfl (by kernel_rfl)) rfl ?_
  exact ⟨_, by first | rfl | (simp [errW_none, errW_some] <;> rfl) | (simp [*, errW_none, errW_some] <;> rfl), by (with_reducible repeat (first | apply Kd.R_alloc | apply Kd.R_drewN | apply Kd.R_drew)); exact Kd.R_mono (Kd.R_far (p := ⟨gb436, 4, none⟩) (Kd.R_far (p := ⟨gb436, 3, none⟩) (Kd.R_far (p := ⟨gb436, 2, none⟩) (Kd.R_far (p := ⟨gb436, 1, none⟩) (Kd.R_far (p := ⟨gb436, 0, none⟩) (Kd.R_types HO439.out BK436.out (by decide)) (fun _ hk => hk.2) (.int .i64 a0_0)) (fun _ hk => hk.2) (.int .i64 a1)) (fun _ hk => hk.2) (.string a0_1)) (fun _ hk => hk.2) (.string a0_3)) (fun _ hk => hk.2) (.slice Ao8 t437.length co8)) (fun _ hk => trivial), bW⟩
end Go.Proofs.Ytjkddaokhmflbaa.Q
end

section
namespace Go.Proofs.Ytjkddaokhmflbaa.Q
open Go.RowKit Go.Proofs.YtjkddaokhmflbaaW.PrintWords Go.Proofs.YtjkddaokhmflbaaW.PrintLast Go.Proofs.YtjkddaokhmflbaaW.PrintMore
attribute [local go_sem] max2_int min2_int max_two min_two max_three min_three max_four min_four   -- for this text's walks alone
set_option linter.unusedVariables false
set_option linter.unusedSimpArgs false
attribute [local go_sem] bin_leq bin_gtr bin_geq
def impl_WishOK.f (k : Nat) (a0_0 : Int) (a0_1 : ByteArray) (a0_2 : ByteArray) (a0_3 : ByteArray) (l0_4 : List (S119)) : Option (Bool) := (impl_hasSource.f a0_0).bind fun t441 => (if t441 = true then ((impl_NameOK.f a0_2).bind fun t442 => (if t442 = true then ((impl_Wish_op.f a0_0 a0_1 a0_2 a0_3 l0_4 1).bind fun bt443 => ((impl_OpOK.f k bt443.1 bt443.2.1 bt443.2.2.1 bt443.2.2.2.1 bt443.2.2.2.2).bind fun t450 => (some t450))) else (some false))) else (if a0_2.toList = ([] : List UInt8) then ((impl_Wish_op.f a0_0 a0_1 a0_2 a0_3 l0_4 0).bind fun bt451 => ((impl_OpOK.f k bt451.1 bt451.2.1 bt451.2.2.1 bt451.2.2.2.1 bt451.2.2.2.2).bind fun t458 => (some t458))) else (some false)))
set_option maxHeartbeats 8000000 in
set_option maxRecDepth 100000 in
theorem impl_WishOK.calls (k : Nat) (a0_0 : Int) (a0_1 : ByteArray) (a0_2 : ByteArray) (a0_3 : ByteArray) (A0_4 : Option Addr) (c0_4 : Nat) (l0_4 : List (S119)) (r : Bool) (w : World) (hr0_4 : Kd.C k119 w A0_4 l0_4.length l0_4) (hc0_4 : l0_4.length ≤ c0_4) (h : impl_WishOK.f k a0_0 a0_1 a0_2 a0_3 l0_4 = some r) :
    Calls Try.prog 59 #[.agg #[.int .i64 a0_0, .string a0_1, .string a0_2, .string a0_3, .slice A0_4 l0_4.length c0_4]] w fun e w' => e = .returned (.bool r) ∧ Below w.heap.size w w' := by
  have hu94 := Try.underlying94
  have HR0_4 := Aside0.mk hr0_4
  have HC0_4 := Aside0.mk hc0_4
  clear hr0_4 hc0_4
  have HB := Aside0.mk (Below.refl w.heap.size w)
  have H : ((impl_hasSource.f a0_0).bind fun t441 => (if t441 = true then ((impl_NameOK.f a0_2).bind fun t442 => (if t442 = true then ((impl_Wish_op.f a0_0 a0_1 a0_2 a0_3 l0_4 1).bind fun bt443 => ((impl_OpOK.f k bt443.1 bt443.2.1 bt443.2.2.1 bt443.2.2.2.1 bt443.2.2.2.2).bind fun t450 => (some t450))) else (some false))) else (if a0_2.toList = ([] : List UInt8) then ((impl_Wish_op.f a0_0 a0_1 a0_2 a0_3 l0_4 0).bind fun bt451 => ((impl_OpOK.f k bt451.1 bt451.2.1 bt451.2.2.1 bt451.2.2.2.1 bt451.2.2.2.2).bind fun t458 => (some t458))) else (some false)))) = some r := h
  clear h
  replace H := Option.bind_eq_some_iff.mp H
  obtain ⟨t441, A20, H⟩ := H
  replace H : (if t441 = true then ((impl_NameOK.f a0_2).bind fun t442 => (if t442 = true then ((impl_Wish_op.f a0_0 a0_1 a0_2 a0_3 l0_4 1).bind fun bt443 => ((impl_OpOK.f k bt443.1 bt443.2.1 bt443.2.2.1 bt443.2.2.2.1 bt443.2.2.2.2).bind fun t450 => (some t450))) else (some false))) else (if a0_2.toList = ([] : List UInt8) then ((impl_Wish_op.f a0_0 a0_1 a0_2 a0_3 l0_4 0).bind fun bt451 => ((impl_OpOK.f k bt451.1 bt451.2.1 bt451.2.2.1 bt451.2.2.2.1 bt451.2.2.2.2).bind fun t458 => (some t458))) else (some false))) = some r := H
  have A2 := Aside0.mk A20
  clear A20
  by_cases c3 : t441 = true
  · subst c3
    have H1 : ((impl_NameOK.f a0_2).bind fun t442 => (if t442 = true then ((impl_Wish_op.f a0_0 a0_1 a0_2 a0_3 l0_4 1).bind fun bt443 => ((impl_OpOK.f k bt443.1 bt443.2.1 bt443.2.2.1 bt443.2.2.2.1 bt443.2.2.2.2).bind fun t450 => (some t450))) else (some false))) = some r := by rw [if_pos rfl] at H; exact H
    clear H
    have H := H1
    clear H1
    replace H := Option.bind_eq_some_iff.mp H
    obtain ⟨t442, A40, H⟩ := H
    replace H : (if t442 = true then ((impl_Wish_op.f a0_0 a0_1 a0_2 a0_3 l0_4 1).bind fun bt443 => ((impl_OpOK.f k bt443.1 bt443.2.1 bt443.2.2.1 bt443.2.2.2.1 bt443.2.2.2.2).bind fun t450 => (some t450))) else (some false)) = some r := H
    have A4 := Aside0.mk A40
    clear A40
    by_cases c5 : t442 = true
    · subst c5
      have H1 : ((impl_Wish_op.f a0_0 a0_1 a0_2 a0_3 l0_4 1).bind fun bt443 => ((impl_OpOK.f k bt443.1 bt443.2.1 bt443.2.2.1 bt443.2.2.2.1 bt443.2.2.2.2).bind fun t450 => (some t450))) = some r := by rw [if_pos rfl] at H; exact H
      clear H
      have H := H1
      clear H1
      replace H := Option.bind_eq_some_iff.mp H
      obtain ⟨⟨t443, t444, t445, t446, t447⟩, A60, H⟩ := H
      replace H : ((impl_OpOK.f k t443 t444 t445 t446 t447).bind fun t450 => (some t450)) = some r := H
      have A6 := Aside0.mk A60
      clear A60
      replace H := Option.bind_eq_some_iff.mp H
      obtain ⟨t450, A70, H⟩ := H
      replace H : (some t450) = some r := H
      have A7 := Aside0.mk A70
      clear A70
      obtain rfl := Option.some.inj H
      go_enter Try.func59, Try.ntmps59
      go_wp2_with (first | ((with_reducible refine gate_dst (N := 1) rfl ?_); refine bE (N := 1) (cs := #[.int .i64 a0_0, .string a0_1, .string a0_2, .string a0_3, .slice A0_4 l0_4.length c0_4]) (t := 94) ?_; intro gb440 hg w8 hbox hb; have n0_ := Aside0.mk (below_step (w := w) bW hb); have n1_ := Aside0.mk (hbox); have n2_ := Aside0.mk (gS (w := w) hg); have n3_ := n2_; clear HB; have HB := n0_; have BK440 := n1_; have GW440 := n2_; have GE440 := n3_; clear n0_ n1_ n2_ n3_; clear hb hbox hg; obtain ⟨hcz9_0, hcz9_1, hcz9_2, hcz9_3, hcz9_4⟩ := cz5 BK440; obtain ⟨hfz9_0, hfz9_1, hfz9_2, hfz9_3, hfz9_4⟩ := fz5 BK440) | ((with_reducible refine gate_callee (f := 86) rfl ?_); refine goesL_ (some 5) rfl rfl Try.func86 (by kernel_rfl) rfl #[.int .i64 a0_0] rfl gA ?_; (with_reducible refine (impl_hasSource.calls a0_0 true _ A2.out).mono ?_); rintro e w' ⟨rfl, ⟨nd, rfl⟩⟩; refine ⟨_, rfl, ?_⟩) | ((with_reducible refine gate_callee (f := 89) rfl ?_); refine goesL_ (some 17) rfl rfl Try.func89 (by kernel_rfl) rfl #[.string a0_2] rfl gA ?_; (with_reducible refine (impl_NameOK.calls a0_2 true _ A4.out).mono ?_); rintro e w10 ⟨rfl, hb⟩; refine ⟨_, rfl, ?_⟩; have n0_ := Aside0.mk (kb BK440 hb); have n1_ := Aside0.mk (below_step (w := w) bW hb); clear BK440; clear HB; have BK440 := n0_; have HB := n1_; clear n0_ n1_; (try clear hb); (try clear hb2); (try clear hk); (try clear hi); obtain ⟨hcz11_0, hcz11_1, hcz11_2, hcz11_3, hcz11_4⟩ := cz5 BK440; obtain ⟨hfz11_0, hfz11_1, hfz11_2, hfz11_3, hfz11_4⟩ := fz5 BK440) | (go_at_call 88; (with_reducible refine (impl_Wish_op.calls a0_0 a0_1 a0_2 a0_3 _ _ l0_4 1 t443 t444 t445 t446 t447 _ ?side1 ?side2 A6.out).mono ?_); (case side1 => exact cB HR0_4); (case side2 => exact HC0_4.out); rintro e w12 ⟨v448, rfl, ho0, hb⟩; have n0_ := Aside0.mk (Kd.R_lower ho0 (below_size (w := w) bW)); have n1_ := Aside0.mk (kb BK440 hb); have n2_ := Aside0.mk (below_step (w := w) bW hb); clear BK440; clear HB; have HO449 := n0_; have BK440 := n1_; have HB := n2_; clear n0_ n1_ n2_; (try clear hb); (try clear hb2); (try clear hk); (try clear hi); (try clear ho0); obtain ⟨Ao13, co13, eo13⟩ := Kd.R_slice HO449.out; subst eo13) | (go_at_call 87; (with_reducible refine (impl_OpOK.calls k t443 t444 t445 t446 _ _ t447 t450 _ ?side1 ?side2 A7.out).mono ?_); (case side1 => repeat (first | exact (Kd.R_reads' HO449.out).2.2 | (with_reducible refine Kd.C_alloc ?_ _) | (with_reducible refine Kd.C_drewN ?_ _) | (with_reducible refine Kd.C_drew ?_))); (case side2 => exact (Kd.R_reads' HO449.out).2.1); rintro e w14 ⟨rfl, hb⟩; have n0_ := Aside0.mk (Kd.R_below (pR HO449) hb); have n1_ := Aside0.mk (kb BK440 hb); have n2_ := Aside0.mk (below_step (w := w) bW hb); clear HO449; clear BK440; clear HB; have HO449 := n0_; have BK440 := n1_; have HB := n2_; clear n0_ n1_ n2_; (try clear hb); (try clear hb2); (try clear hk); (try clear hi)))
      go_ret
      exact ⟨rE, bW⟩
    · replace c5 := Bool.eq_false_iff.mpr c5
      subst c5
      have H1 : (some false) = some r := by rw [if_neg (show ¬ (false = true) by decide)] at H; exact H
      clear H
      have H := H1
      clear H1
      obtain rfl := Option.some.inj H
      go_enter Try.func59, Try.ntmps59
      go_wp2_with (first | ((with_reducible refine gate_dst (N := 1) rfl ?_); refine bE (N := 1) (cs := #[.int .i64 a0_0, .string a0_1, .string a0_2, .string a0_3, .slice A0_4 l0_4.length c0_4]) (t := 94) ?_; intro gb440 hg w15 hbox hb; have n0_ := Aside0.mk (below_step (w := w) bW hb); have n1_ := Aside0.mk (hbox); have n2_ := Aside0.mk (gS (w := w) hg); have n3_ := n2_; clear HB; have HB := n0_; have BK440 := n1_; have GW440 := n2_; have GE440 := n3_; clear n0_ n1_ n2_ n3_; clear hb hbox hg; obtain ⟨hcz16_0, hcz16_1, hcz16_2, hcz16_3, hcz16_4⟩ := cz5 BK440; obtain ⟨hfz16_0, hfz16_1, hfz16_2, hfz16_3, hfz16_4⟩ := fz5 BK440) | ((with_reducible refine gate_callee (f := 86) rfl ?_); refine goesL_ (some 5) rfl rfl Try.func86 (by kernel_rfl) rfl #[.int .i64 a0_0] rfl gA ?_; (with_reducible refine (impl_hasSource.calls a0_0 true _ A2.out).mono ?_); rintro e w' ⟨rfl, ⟨nd, rfl⟩⟩; refine ⟨_, rfl, ?_⟩) | ((with_reducible refine gate_callee (f := 89) rfl ?_); refine goesL_ (some 17) rfl rfl Try.func89 (by kernel_rfl) rfl #[.string a0_2] rfl gA ?_; (with_reducible refine (impl_NameOK.calls a0_2 false _ A4.out).mono ?_); rintro e w17 ⟨rfl, hb⟩; refine ⟨_, rfl, ?_⟩; have n0_ := Aside0.mk (kb BK440 hb); have n1_ := Aside0.mk (below_step (w := w) bW hb); clear BK440; clear HB; have BK440 := n0_; have HB := n1_; clear n0_ n1_; (try clear hb); (try clear hb2); (try clear hk); (try clear hi)))
      go_ret
      exact ⟨rE, bW⟩
  · replace c3 := Bool.eq_false_iff.mpr c3
    subst c3
    have H1 : (if a0_2.toList = ([] : List UInt8) then ((impl_Wish_op.f a0_0 a0_1 a0_2 a0_3 l0_4 0).bind fun bt451 => ((impl_OpOK.f k bt451.1 bt451.2.1 bt451.2.2.1 bt451.2.2.2.1 bt451.2.2.2.2).bind fun t458 => (some t458))) else (some false)) = some r := by rw [if_neg (show ¬ (false = true) by decide)] at H; exact H
    clear H
    have H := H1
    clear H1
    by_cases c18 : a0_2.toList = ([] : List UInt8)
    · rw [if_pos c18] at H
      have c18b0 : (a0_2.toList == ([] : List UInt8)) = true := beq_iff_eq.mpr c18
      have c18b1 : (a0_2.toList != ([] : List UInt8)) = false := bne_eq_false_iff_eq.mpr c18
      clear c18
      replace H := Option.bind_eq_some_iff.mp H
      obtain ⟨⟨t451, t452, t453, t454, t455⟩, A190, H⟩ := H
      replace H : ((impl_OpOK.f k t451 t452 t453 t454 t455).bind fun t458 => (some t458)) = some r := H
      have A19 := Aside0.mk A190
      clear A190
      replace H := Option.bind_eq_some_iff.mp H
      obtain ⟨t458, A200, H⟩ := H
      replace H : (some t458) = some r := H
      have A20 := Aside0.mk A200
      clear A200
      obtain rfl := Option.some.inj H
      go_enter Try.func59, Try.ntmps59
      go_wp2_with (first | ((with_reducible refine gate_dst (N := 1) rfl ?_); refine bE (N := 1) (cs := #[.int .i64 a0_0, .string a0_1, .string a0_2, .string a0_3, .slice A0_4 l0_4.length c0_4]) (t := 94) ?_; intro gb440 hg w21 hbox hb; have n0_ := Aside0.mk (below_step (w := w) bW hb); have n1_ := Aside0.mk (hbox); have n2_ := Aside0.mk (gS (w := w) hg); have n3_ := n2_; clear HB; have HB := n0_; have BK440 := n1_; have GW440 := n2_; have GE440 := n3_; clear n0_ n1_ n2_ n3_; clear hb hbox hg; obtain ⟨hcz22_0, hcz22_1, hcz22_2, hcz22_3, hcz22_4⟩ := cz5 BK440; obtain ⟨hfz22_0, hfz22_1, hfz22_2, hfz22_3, hfz22_4⟩ := fz5 BK440) | ((with_reducible refine gate_callee (f := 86) rfl ?_); refine goesL_ (some 5) rfl rfl Try.func86 (by kernel_rfl) rfl #[.int .i64 a0_0] rfl gA ?_; (with_reducible refine (impl_hasSource.calls a0_0 false _ A2.out).mono ?_); rintro e w' ⟨rfl, ⟨nd, rfl⟩⟩; refine ⟨_, rfl, ?_⟩) | (go_at_call 88; (with_reducible refine (impl_Wish_op.calls a0_0 a0_1 a0_2 a0_3 _ _ l0_4 0 t451 t452 t453 t454 t455 _ ?side1 ?side2 A19.out).mono ?_); (case side1 => exact cB HR0_4); (case side2 => exact HC0_4.out); rintro e w23 ⟨v456, rfl, ho0, hb⟩; have n0_ := Aside0.mk (Kd.R_lower ho0 (below_size (w := w) bW)); have n1_ := Aside0.mk (kb BK440 hb); have n2_ := Aside0.mk (below_step (w := w) bW hb); clear BK440; clear HB; have HO457 := n0_; have BK440 := n1_; have HB := n2_; clear n0_ n1_ n2_; (try clear hb); (try clear hb2); (try clear hk); (try clear hi); (try clear ho0); obtain ⟨Ao24, co24, eo24⟩ := Kd.R_slice HO457.out; subst eo24) | (go_at_call 87; (with_reducible refine (impl_OpOK.calls k t451 t452 t453 t454 _ _ t455 t458 _ ?side1 ?side2 A20.out).mono ?_); (case side1 => repeat (first | exact (Kd.R_reads' HO457.out).2.2 | (with_reducible refine Kd.C_alloc ?_ _) | (with_reducible refine Kd.C_drewN ?_ _) | (with_reducible refine Kd.C_drew ?_))); (case side2 => exact (Kd.R_reads' HO457.out).2.1); rintro e w25 ⟨rfl, hb⟩; have n0_ := Aside0.mk (Kd.R_below (pR HO457) hb); have n1_ := Aside0.mk (kb BK440 hb); have n2_ := Aside0.mk (below_step (w := w) bW hb); clear HO457; clear BK440; clear HB; have HO457 := n0_; have BK440 := n1_; have HB := n2_; clear n0_ n1_ n2_; (try clear hb); (try clear hb2); (try clear hk); (try clear hi)))
      go_ret
      exact ⟨rE, bW⟩
    · rw [if_neg c18] at H
      have c18b0 : (a0_2.toList == ([] : List UInt8)) = false := beq_eq_false_iff_ne.mpr c18
      have c18b1 : (a0_2.toList != ([] : List UInt8)) = true := bne_iff_ne.mpr c18
      obtain rfl := Option.some.inj H
      go_enter Try.func59, Try.ntmps59
      go_wp2_with (first | ((with_reducible refine gate_dst (N := 1) rfl ?_); refine bE (N := 1) (cs := #[.int .i64 a0_0, .string a0_1, .string a0_2, .string a0_3, .slice A0_4 l0_4.length c0_4]) (t := 94) ?_; intro gb440 hg w26 hbox hb; have n0_ := Aside0.mk (below_step (w := w) bW hb); have n1_ := Aside0.mk (hbox); have n2_ := Aside0.mk (gS (w := w) hg); have n3_ := n2_; clear HB; have HB := n0_; have BK440 := n1_; have GW440 := n2_; have GE440 := n3_; clear n0_ n1_ n2_ n3_; clear hb hbox hg; obtain ⟨hcz27_0, hcz27_1, hcz27_2, hcz27_3, hcz27_4⟩ := cz5 BK440; obtain ⟨hfz27_0, hfz27_1, hfz27_2, hfz27_3, hfz27_4⟩ := fz5 BK440) | ((with_reducible refine gate_callee (f := 86) rfl ?_); refine goesL_ (some 5) rfl rfl Try.func86 (by kernel_rfl) rfl #[.int .i64 a0_0] rfl gA ?_; (with_reducible refine (impl_hasSource.calls a0_0 false _ A2.out).mono ?_); rintro e w' ⟨rfl, ⟨nd, rfl⟩⟩; refine ⟨_, rfl, ?_⟩))
      go_ret
      exact ⟨rE, bW⟩
end Go.Proofs.Ytjkddaokhmflbaa.Q
end

section
namespace Go.Proofs.Ytjkddaokhmflbaa.Q
open Go.RowKit Go.Proofs.YtjkddaokhmflbaaW.PrintWords Go.Proofs.YtjkddaokhmflbaaW.PrintLast Go.Proofs.YtjkddaokhmflbaaW.PrintMore
attribute [local go_sem] max2_int min2_int max_two min_two max_three min_three max_four min_four   -- for this text's walks alone
set_option linter.unusedVariables false
set_option linter.unusedSimpArgs false
attribute [local go_sem] bin_leq bin_gtr bin_geq
def Asks_Wish (g : Nat) (lb : Array Value) (p : S94 → Bool) (w : World) (l : List S94) : Prop :=
  ∀ (W : World) (x : S94) (A5 : Option Addr) (c5 : Nat), Below w.heap.size w W → x ∈ l → x.f4.length ≤ c5 → Kd.C k119 W A5 x.f4.length x.f4 → Calls Try.prog g (#[.agg #[.int .i64 x.f0, .string x.f1, .string x.f2, .string x.f3, .slice A5 x.f4.length c5]] ++ lb) W fun e w' => e = .returned (.bool (p x)) ∧ Below W.heap.size W w'
set_option maxHeartbeats 2000000 in
set_option maxRecDepth 100000 in
theorem idxF_Wish (g : Nat) (lb : Array Value) (eg : ∀ args w, (callFunc g args).run Try.prog w = .ok (.enter g args) w) (p : S94 → Bool) (A0 : Option Addr) (c0 : Nat) (l0 : List S94) (w : World) (hr0 : Kd.C k94 w A0 l0.length l0) (hc0 : l0.length ≤ c0) (hp : Asks_Wish g lb p w l0) :
    Calls Try.prog 105 #[.slice A0 l0.length c0, .func (.func g) #[] lb] w fun e w' => e = .returned (.int .i64 (idxI p l0)) ∧ Below w.heap.size w w' := by
  have HM : l0.length ≤ 9223372036854775807 := hr0.2.1
  have HR0 := Aside0.mk hr0
  have HP := Aside0.mk hp
  clear hr0 hc0 hp
  go_enter Try.func105, Try.ntmps105
  go_wp2
  go_loopg [8] l0.length (fun gk v8 w' => ∃ kk : Nat, kk ≤ l0.length ∧ l0.length - kk ≤ gk ∧ v8 = .int .i64 kk ∧ Aside0 (∀ j (hj : j < l0.length), j < kk → p l0[j] = false) ∧ Aside0 (Below w.heap.size w w'))
  case atStart => exact ⟨0, Nat.zero_le _, by omega, rfl, ⟨fun j hj h => absurd h (Nat.not_lt_zero _)⟩, ⟨Below.refl _ _⟩⟩
  case round =>
    obtain ⟨kk, hkk, hg, rfl, HA, HB⟩ := hrel
    by_cases hlt : kk < l0.length
    · have hltz : (kk : Int) < (l0.length : Int) := by omega
      have HRW := Aside0.mk (Kd.C_below HR0.out HB.out)
      obtain ⟨ad, A5, c5, e1, hx0, hx1, hx2, hx3, hx4, hl5, hi5⟩ := at_T94 HRW.out (kk : Int) (by omega) hltz
      cases e1
      have ex : rd_T94 l0 (kk : Int) = l0[kk] := by simp [rd_T94, List.getD_eq_getElem?_getD, List.getElem?_eq_getElem hlt]
      rw [ex] at hx0 hx1 hx2 hx3 hx4 hl5 hi5
      simp only [Int.toNat_natCast] at hx0 hx1 hx2 hx3 hx4
      have hcall := HP.out _ l0[kk] A5 c5 HB.out (List.getElem_mem hlt) hl5 hi5
      clear hl5 hi5
      obtain ⟨y, hy⟩ : ∃ y, y = l0[kk] := ⟨_, rfl⟩
      rw [← hy] at hx0 hx1 hx2 hx3 hx4 hcall
      have HY := Aside0.mk hy
      clear hy ex
      cases hq : p y with
      | true =>
        rw [hq] at hcall
        have HC := Aside0.mk hcall
        have HQ := Aside0.mk hq
        clear hcall hq
        go_wp2_with ((with_reducible refine HC.out.mono ?_); rintro e w' ⟨rfl, hb'⟩)
        go_ret
        refine ⟨?_, below_then HB.out HB.out.size hb'⟩
        rw [idxI_some hlt (fun j hj => HA.out j (by omega) hj) (by rw [← HY.out]; exact HQ.out)]; rfl
      | false =>
        rw [hq] at hcall
        have HC := Aside0.mk hcall
        have HQ := Aside0.mk hq
        clear hcall hq
        go_wp2_with ((with_reducible refine HC.out.mono ?_); rintro e w' ⟨rfl, hb'⟩)
        go_roundg (l0.length - (kk + 1))
        case measure => omega
        case rel =>
          refine ⟨kk + 1, by omega, by omega, by go_num, ⟨fun j hj h => ?_⟩, ⟨below_then HB.out HB.out.size hb'⟩⟩
          by_cases e : j = kk
          · subst e
            rw [← HY.out]; exact HQ.out
          · exact HA.out j hj (by omega)
    · have hltz : ¬ (kk : Int) < (l0.length : Int) := by omega
      obtain rfl : kk = l0.length := by omega
      go_wp2
      go_ret
      exact ⟨by rw [idxI_none (fun j hj => HA.out j hj (by omega))]; rfl, HB.out⟩
end Go.Proofs.Ytjkddaokhmflbaa.Q
end
