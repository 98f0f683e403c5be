/- For every input the law FnExactSumOf returns true: the program's SumOf returns what the reference's returns. -/
import Derived.Test.YthmijfgcajhicaaQf6
import Derived.Test.YthmijfgcajhicaaQawords
namespace Go.Proofs.Ythmijfgcajhicaa.Pure
open Go.RowKit Go.Proofs.Ythmijfgcajhicaa.Q Go.Proofs.YthmijfgcajhicaaW.PrintWords Go.Proofs.YthmijfgcajhicaaW.PrintLast
theorem sum_l0 (s : ByteArray) (hs : s.size ≤ 140737488351232) (d : Nat) : ∀ (k : Nat) (n i : Int), 0 ≤ i → i ≤ s.size → (s.size : Int) - i = d → d < k → 0 ≤ n → n < 1000003 → spec_l11Sum.l0 k s n i = some (sumL n ((bytesL s).drop i.toNat)) := by
  induction d with
  | zero =>
    intro k n i h0 h1 hd hk hn0 hn1
    obtain ⟨k, rfl⟩ : ∃ m, k = m + 1 := ⟨k - 1, by omega⟩
    simp only [spec_l11Sum.l0]
    rw [if_neg (by omega), List.drop_eq_nil_of_le (by rw [bytesL_length]; omega)]
    rfl
  | succ d ih =>
    intro k n i h0 h1 hd hk hn0 hn1
    obtain ⟨k, rfl⟩ : ∃ m, k = m + 1 := ⟨k - 1, by omega⟩
    have hl : i.toNat < (bytesL s).length := by rw [bytesL_length]; omega
    have hb : (bytesL s)[i.toNat] = bt s i := bytesL_bt s i hl
    have hr := bt_range s i
    have hw : wrap64 (i + 1) = i + 1 := by unfold wrap64; omega
    have e : (i + 1).toNat = i.toNat + 1 := by omega
    have w1 : wrap64 (n * 31) = n * 31 := by unfold wrap64; omega
    have w2 : wrap64 (bt s i) = bt s i := by unfold wrap64; omega
    have w3 : wrap64 (n * 31 + bt s i) = n * 31 + bt s i := by unfold wrap64; omega
    have w4 : wrap64 (n * 31 + bt s i + 1) = n * 31 + bt s i + 1 := by unfold wrap64; omega
    have tm : Int.tmod (n * 31 + bt s i + 1) 1000003 = (31 * n + bt s i + 1) % 1000003 := by rw [Int.tmod_eq_emod_of_nonneg (by omega), Int.mul_comm]
    have hi := ih k ((31 * n + bt s i + 1) % 1000003) (i + 1) (by omega) (by omega) (by omega) (by omega) (by omega) (by omega)
    simp only [spec_l11Sum.l0]
    rw [if_pos (by omega), if_pos h0, w1, w2, w3, w4, tm, hw, hi, List.drop_eq_getElem_cons hl, sumL_cons, hb, e]
theorem FnExactSumOf : laws_FnExactSumOf.Pure := by
  intro a0 _
  refine ⟨a0.size + 1, ?_⟩
  unfold laws_FnExactSumOf.f spec_SumOf.f impl_SumOf.f impl_isText.f
  by_cases h1 : (a0.size : Int) > 1048576
  · rw [if_pos h1]
  · rw [if_neg h1]
    by_cases h2 : (a0.size : Int) > 65536
    · have h3 : ¬ (a0.size : Int) ≤ 65536 := by omega
      simp [h2, h3]
    · have h3 : (a0.size : Int) ≤ 65536 := by omega
      have hs := sum_l0 a0 (by omega) a0.size (a0.size + 1) 1 0 (by omega) (by omega) (by omega) (by omega) (by omega) (by omega)
      have hs2 : spec_l11Sum.f (a0.size + 1) a0 = some (sumL 1 (bytesL a0)) := hs
      have hi : impl_sumOf.f a0 = some (sumL 1 (bytesL a0)) := by unfold impl_sumOf.f; rw [if_pos (by omega)]
      rw [hs2, hi]
      simp [h2, h3]
end Go.Proofs.Ythmijfgcajhicaa.Pure
