/- For every input the law FnExactCodeOf returns true: the program's CodeOf returns what the reference's returns. -/
import Derived.Test.YthmijfgcajhicaaQf5
namespace Go.Proofs.Ythmijfgcajhicaa.Pure
open Go.RowKit Go.Proofs.Ythmijfgcajhicaa.Q Go.Proofs.YthmijfgcajhicaaW.PrintWords Go.Proofs.YthmijfgcajhicaaW.PrintLast
/-- The words, and one of them. -/
def codeL : List ByteArray := match impl_codeWords.f with | some l => l | none => []
theorem codeL_f : impl_codeWords.f = some codeL := rfl
theorem codeL_length : codeL.length = 19 := rfl
theorem specWord_f (a : Int) (h0 : 0 ≤ a) (h1 : a ≤ 18) : spec_CodeWord.f a = some (rdOf ByteArray.empty codeL a) := by
  unfold spec_CodeWord.f
  simp only [Option.bind_some, List.length_cons, List.length_nil]
  rw [if_neg (by omega), if_neg (by omega), if_pos h0, if_pos (by omega)]
  rfl
theorem both (s : ByteArray) (d : Nat) : ∀ (k : Nat) (i : Int), 0 ≤ i → i ≤ 19 → 19 - i = d → d < k → ∃ r, spec_CodeOf.l0 k s i = some r ∧ slices_Index_string_string.l0 k codeL s 19 i = some r := by
  induction d with
  | zero =>
    intro k i h0 h1 hd hk
    obtain ⟨k, rfl⟩ : ∃ m, k = m + 1 := ⟨k - 1, by omega⟩
    refine ⟨-1, ?_, ?_⟩
    · simp only [spec_CodeOf.l0]; rw [if_neg (by omega)]
    · simp only [slices_Index_string_string.l0]; rw [if_neg (by omega)]
  | succ d ih =>
    intro k i h0 h1 hd hk
    obtain ⟨k, rfl⟩ : ∃ m, k = m + 1 := ⟨k - 1, by omega⟩
    have hw : wrap64 (i + 1) = i + 1 := by unfold wrap64; omega
    obtain ⟨r, e1, e2⟩ := ih k (i + 1) (by omega) (by omega) (by omega) (by omega)
    by_cases h : s.toList = (rdOf ByteArray.empty codeL i).toList
    · refine ⟨i, ?_, ?_⟩
      · simp only [spec_CodeOf.l0]; rw [if_pos (by omega), specWord_f i h0 (by omega)]; simp only [Option.bind_some]; rw [if_pos h.symm]
      · simp only [slices_Index_string_string.l0]; rw [if_pos (by omega), if_pos h0, if_pos (by rw [codeL_length]; omega), if_pos h]
    · refine ⟨r, ?_, ?_⟩
      · simp only [spec_CodeOf.l0]; rw [if_pos (by omega), specWord_f i h0 (by omega)]; simp only [Option.bind_some]; rw [if_neg (fun e => h e.symm), hw]; exact e1
      · simp only [slices_Index_string_string.l0]; rw [if_pos (by omega), if_pos h0, if_pos (by rw [codeL_length]; omega), if_neg h, hw]; exact e2
theorem FnExactCodeOf : laws_FnExactCodeOf.Pure := by
  intro a0 _
  refine ⟨20, ?_⟩
  obtain ⟨r, e1, e2⟩ := both a0 19 20 0 (by omega) (by omega) (by omega) (by omega)
  unfold laws_FnExactCodeOf.f impl_CodeOf.f spec_CodeOf.f slices_Index_string_string.f
  rw [codeL_f, e1]
  simp only [Option.bind_some, codeL_length]
  rw [show (((19 : Nat) : Int)) = 19 from rfl, e2]
  by_cases h : (a0.size : Int) > 1048576
  · rw [if_pos h]
  · rw [if_neg h]; simp
end Go.Proofs.Ythmijfgcajhicaa.Pure
