/- The two encodings of a number are one (no memory, no Go). -/
import Derived.Test.YthmijfgcajhicaaQf89
import Derived.Test.YthmijfgcajhicaaQf91
namespace Go.Proofs.Ythmijfgcajhicaa.Q
open Go.RowKit Go.Proofs.YthmijfgcajhicaaW.PrintWords Go.Proofs.YthmijfgcajhicaaW.PrintLast
theorem wraps_i64_ (n : Int) (h₀ : 0 ≤ n) (h₁ : n < 2 ^ 63) : IntKind.i64.wrap n = n := by rw [IntKind.wrap_i64]; omega
theorem and127 (x : Int) (h₀ : 0 ≤ x) (h₁ : x < 9223372036854775808) : Go.bits .and .i64 x 127 = x % 128 := bits_mask .i64 63 (by decide) wraps_i64_ 7 (by decide) x h₀ h₁
theorem or128 (y : Int) (h₀ : 0 ≤ y) (h₁ : y < 128) : Go.bits .or .u8 y 128 = 128 + y := by
  have h2 : Go.bits .or .u8 128 y = 128 + y := bits_join .u8 8 (by decide) wraps_u8 7 128 y (by decide) (by decide) (by decide) h₀ h₁ (by omega)
  obtain ⟨b, rfl⟩ := Int.eq_ofNat_of_zero_le h₀
  have hb : b < 2 ^ 8 := by omega
  have e1 := (bits_nat .u8 8 (by decide) wraps_u8 b 128 hb (by decide)).2
  have e2 := (bits_nat .u8 8 (by decide) wraps_u8 128 b (by decide) hb).2
  rw [← h2]
  rw [Nat.or_comm] at e1
  exact e1.trans e2.symm
theorem put_step (k : Nat) : ∀ (x : Int) (acc : List Int), 0 ≤ x → x ≤ 9223372036854775000 → impl_putNumber.l0 k x acc = spec_l11Number.l0 k x acc := by
  induction k with
  | zero => intros; rfl
  | succ k ih =>
    intro x acc h0 h1
    have e1 : Int.tdiv x 128 = x / 128 := Int.tdiv_eq_ediv_of_nonneg h0
    have e2 : Int.tmod x 128 = x % 128 := Int.tmod_eq_emod_of_nonneg h0
    have w1 : wrap64 (x / 128) = x / 128 := by unfold wrap64; omega
    have w2 : wrap64 (128 + x % 128) = 128 + x % 128 := by unfold wrap64; omega
    have m1 : (x % 128) % 256 = x % 128 := by omega
    have m2 : (128 + x % 128) % 256 = 128 + x % 128 := by omega
    simp only [impl_putNumber.l0, spec_l11Number.l0]
    rw [e1, e2, w1, w2, and127 x h0 (by omega), m1, or128 (x % 128) (by omega) (by omega), m2]
    rw [ih (x / 128) _ (by omega) (by omega)]
theorem put_some (d : Nat) : ∀ (k : Nat) (x : Int) (acc : List Int), 0 ≤ x → x < 128 ^ (d + 1) → d < k → acc.length + d < 1000000 → ∃ r, impl_putNumber.l0 k x acc = some r := by
  induction d with
  | zero =>
    intro k x acc h0 h1 hk hl
    obtain ⟨k, rfl⟩ : ∃ m, k = m + 1 := ⟨k - 1, by omega⟩
    simp only [impl_putNumber.l0]
    rw [if_neg (by omega), if_pos (by omega)]
    exact ⟨_, rfl⟩
  | succ d ih =>
    intro k x acc h0 h1 hk hl
    obtain ⟨k, rfl⟩ : ∃ m, k = m + 1 := ⟨k - 1, by omega⟩
    simp only [impl_putNumber.l0]
    by_cases h : x > 127
    · rw [if_pos h, if_pos (by omega)]
      have hp : (128 : Int) ^ (d + 1 + 1) = 128 ^ (d + 1) * 128 := Int.pow_succ 128 (d + 1)
      rw [hp] at h1
      exact ih k (x / 128) _ (by omega) (by omega) (by omega) (by rw [List.length_append]; simp; omega)
    · rw [if_neg h, if_pos (by omega)]
      exact ⟨_, rfl⟩
/-- A number's encoding. -/
def numT (n : Int) : ByteArray := match impl_putNumber.f 20 n with | some r => r | none => ⟨#[]⟩
theorem putNumber_ev (n : Int) (h0 : 0 ≤ n) (h1 : n ≤ 9223372036854775000) : Ev (fun k => impl_putNumber.f k n) (numT n) := by
  have hp : (128 : Int) ^ (10 + 1) = 151115727451828646838272 := by decide
  obtain ⟨r, hr⟩ := put_some 10 20 n [] h0 (by rw [hp]; omega) (by omega) (by simp)
  have hr' : impl_putNumber.f 20 n = some r := hr
  have e : numT n = r := by unfold numT; rw [hr']
  rw [e]
  exact Ev.of (fun k => impl_putNumber.mono n k) hr'
theorem l11Number_ev (n : Int) (h0 : 0 ≤ n) (h1 : n ≤ 9223372036854775000) : Ev (fun k => spec_l11Number.f k n) (numT n) := by
  refine Ev.congr (fun k => ?_) (putNumber_ev n h0 h1)
  exact (put_step k n [] h0 h1).symm
end Go.Proofs.Ythmijfgcajhicaa.Q
