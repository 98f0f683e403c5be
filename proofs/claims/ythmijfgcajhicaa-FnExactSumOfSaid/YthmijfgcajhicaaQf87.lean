/- Functions of the given program, each as a plain function on numbers and lists, with the proof that its call does just what that function says; no conditions but those typed. -/
import Derived.Test.YthmijfgcajhicaaQ0
import Derived.Test.YthmijfgcajhicaaQaord
import Derived.Test.YthmijfgcajhicaaQanames
import Derived.Test.YthmijfgcajhicaaQasums
namespace Go.Proofs.Ythmijfgcajhicaa.Q
open Go.RowKit Go.Proofs.YthmijfgcajhicaaW.PrintWords Go.Proofs.YthmijfgcajhicaaW.PrintLast Go.Proofs.YthmijfgcajhicaaW.PrintMore
attribute [local go_sem] max2_int min2_int max_two min_two max_three min_three max_four min_four   -- for this text's walks alone
set_option linter.unusedVariables false
set_option linter.unusedSimpArgs false

attribute [local go_sem] bin_leq bin_gtr bin_geq
/-! ### impl_sumOf: function 87, by hand -/
def impl_sumOf.f (a0 : ByteArray) : Option (Int) := if a0.size ≤ 140737488351232 then some (sumL 1 (bytesL a0)) else none
set_option maxHeartbeats 4000000 in
set_option maxRecDepth 100000 in
theorem impl_sumOf.calls (a0 : ByteArray) (r : Int) (w : World) (h : impl_sumOf.f a0 = some r) :
    Calls Try.prog 87 #[.string a0] w fun e w' => e = .returned (.int .i64 r) ∧ Below w.heap.size w w' := by
  unfold impl_sumOf.f at h
  by_cases hs : a0.size ≤ 140737488351232
  · rw [if_pos hs] at h
    obtain rfl := Option.some.inj h
    clear h
    have hcv := fun w => Go.Lib.run_convert_string_bytes (P := Try.prog) w 9 102 5 a0 Try.underlying9 Try.underlying102 Try.underlying5
    have HC := Aside0.mk (bytesL_cells w a0 (by omega))
    have HBx := Aside0.mk (below_bytes w a0 5)
    have HL := Aside0.mk (bytesL_length a0)
    go_enter Try.func87, Try.ntmps87
    go_wp2_with fail
    obtain ⟨W1, hW1⟩ : ∃ W1, W1 = Go.Lib.bytesWorld w 5 a0 := ⟨_, rfl⟩
    rw [← hW1] at HC HBx ⊢
    clear hW1 hcv
    go_loopg [3, 9] a0.size (fun gk v3 v9 w' => ∃ (n : Int) (kk : Nat), v3 = .int .i64 n ∧ v9 = .int .i64 kk ∧ 0 ≤ n ∧ n < 1000003 ∧ kk ≤ a0.size ∧ a0.size - kk ≤ gk ∧ Aside0 (sumL 1 (bytesL a0) = sumL n ((bytesL a0).drop kk)) ∧ Aside0 (w' = W1))
    case atStart => exact ⟨1, 0, rfl, rfl, by omega, by omega, by omega, by omega, ⟨by rw [List.drop_zero]⟩, ⟨rfl⟩⟩
    case round =>
      obtain ⟨n, kk, rfl, rfl, hn0, hn1, hkk, hg, HS, ⟨rfl⟩⟩ := hrel
      by_cases hlt : kk < a0.size
      · have hltz : (kk : Int) < (a0.size : Int) := by omega
        obtain ⟨ad, e1, hx⟩ := Kd.at_int HC.out (kk : Int) (by omega) (by rw [HL.out]; exact hltz)
        cases e1
        have hl : kk < (bytesL a0).length := by rw [HL.out]; exact hlt
        have ex : rd (bytesL a0) (kk : Int) = (bytesL a0)[kk] := by simp [rd, List.getD_eq_getElem?_getD, List.getElem?_eq_getElem hl]
        rw [ex] at hx
        simp only [Int.toNat_natCast] at hx
        rw [add_plain] at hx
        have hr := bytesL_range a0 kk hl
        obtain ⟨y, hy⟩ : ∃ y, y = (bytesL a0)[kk] := ⟨_, rfl⟩
        rw [← hy] at hx hr
        have HS2 := Aside0.mk (show sumL 1 (bytesL a0) = sumL ((31 * n + y + 1) % 1000003) ((bytesL a0).drop (kk + 1)) by rw [HS.out, List.drop_eq_getElem_cons hl, sumL_cons, hy])
        clear hy ex HS
        go_wp2
        go_roundg (a0.size - (kk + 1))
        case measure => omega
        case rel => exact ⟨(31 * n + y + 1) % 1000003, kk + 1, by go_num, by go_num, by omega, by omega, by omega, by omega, HS2, ⟨rfl⟩⟩
      · obtain rfl : kk = a0.size := by omega
        have HS2 := Aside0.mk (show sumL 1 (bytesL a0) = n by rw [HS.out, List.drop_eq_nil_of_le (by rw [HL.out]; omega)]; rfl)
        clear HS
        go_wp2
        go_ret
        exact ⟨by rw [HS2.out]; rfl, HBx.out⟩
  · rw [if_neg hs] at h
    cases h

end Go.Proofs.Ythmijfgcajhicaa.Q
