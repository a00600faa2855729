/- Sign and Narrow: the program's and the document's. No condition. -/
import Derived.Test.YtdkjkdlpkjklmaaProg
import Derived.Test.YtdkjkdlpkjklmaaSignN
set_option linter.unusedVariables false
set_option linter.unusedSimpArgs false
namespace Go.Proofs.Ytdkjkdlpkjklmaa
open Go.RowKit
theorem sign_arg (v : Nat) (b : Int) (w : World) (h : ¬ (1 ≤ b ∧ b ≤ 64)) :
    Calls Try.prog 12 #[.int .u64 v, .int .i64 b] w fun e w' => e = .returned (.tuple #[.int .i64 0, .int .i64 1]) ∧ w = w' := by
  by_cases h1 : b < 1
  · clear h
    go_enter Try.func12, Try.ntmps12
    go_wp2
    go_ret2
    exact ⟨rfl, rfl⟩
  · have h2 : 64 < b := by omega
    have h3 : 1 ≤ b := by omega
    clear h h1
    go_enter Try.func12, Try.ntmps12
    go_wp2
    go_ret2
    exact ⟨rfl, rfl⟩
theorem sign_ok (v b : Nat) (w : World) (h1 : 1 ≤ b) (h2 : b ≤ 64) (hv : v < 2 ^ b) :
    Calls Try.prog 12 #[.int .u64 v, .int .i64 b] w fun e w' => e = .returned (.tuple #[.int .i64 (signN v b), .int .i64 0]) ∧ w = w' := by
  have hrun := Lib.hid (sign_run v b h1 h2 hv)
  have hz : ((v : Int) / 2 ^ b == 0) = true := by
    rw [beq_iff_eq, ipow, Int.ediv_eq_zero_of_lt (by omega) (by omega)]
  have hz2 : ((v : Int) / 2 ^ b != 0) = false := by rw [bne, hz]; rfl
  clear hv
  have e1 : ((64 : Int) - (b : Int)).toNat = 64 - b := by omega
  by_cases h64 : b < 64
  · go_enter Try.func12, Try.ntmps12
    go_wp2
    go_ret2
    exact ⟨by rw [← hrun.out]; rfl, rfl⟩
  · go_enter Try.func12, Try.ntmps12
    go_wp2
    go_ret2
    exact ⟨by rw [← hrun.out]; rfl, rfl⟩
theorem sign_range (v b : Nat) (w : World) (h1 : 1 ≤ b) (h2 : b ≤ 64) (hv64 : v < 18446744073709551616) (hv : ¬ v < 2 ^ b) :
    Calls Try.prog 12 #[.int .u64 v, .int .i64 b] w fun e w' => e = .returned (.tuple #[.int .i64 0, .int .i64 12]) ∧ w = w' := by
  have h64 : b < 64 := by
    by_cases h : b < 64
    · exact h
    · obtain rfl : b = 64 := by omega
      exact absurd hv64 hv
  have hz2 : ((v : Int) / 2 ^ b != 0) = true := by
    rw [bne_iff_ne, ipow]
    have : 0 < v / 2 ^ b := Nat.div_pos (by omega) (Nat.two_pow_pos b)
    rw [← Int.natCast_ediv]; omega
  clear hv hv64
  go_enter Try.func12, Try.ntmps12
  go_wp2
  go_ret2
  exact ⟨rfl, rfl⟩
theorem narrow_arg (n : Int) (b : Int) (w : World) (h : ¬ (1 ≤ b ∧ b ≤ 64)) :
    Calls Try.prog 13 #[.int .i64 n, .int .i64 b] w fun e w' => e = .returned (.tuple #[.int .u64 0, .int .i64 1]) ∧ w = w' := by
  by_cases h1 : b < 1
  · clear h
    go_enter Try.func13, Try.ntmps13
    go_wp2
    go_ret2
    exact ⟨rfl, rfl⟩
  · have h2 : 64 < b := by omega
    have h3 : 1 ≤ b := by omega
    clear h h1
    go_enter Try.func13, Try.ntmps13
    go_wp2
    go_ret2
    exact ⟨rfl, rfl⟩
theorem narrow_ok (n : Int) (b : Nat) (w : World) (h1 : 1 ≤ b) (h2 : b ≤ 64) (hn : inBits n b) :
    Calls Try.prog 13 #[.int .i64 n, .int .i64 b] w fun e w' => e = .returned (.tuple #[.int .u64 (narrowN n b), .int .i64 0]) ∧ w = w' := by
  have hrun := Lib.hid (narrow_run n b h1 h2)
  have e1 : ((64 : Int) - (b : Int)).toNat = 64 - b := by omega
  have e2 : ((b : Int) - 1).toNat = b - 1 := by omega
  have hp := Nat.two_pow_pos (b - 1)
  unfold inBits at hn
  rw [ipow (b - 1)] at hn
  by_cases h0 : 0 ≤ n
  · have hz : (n / 2 ^ (b - 1) != 0) = false := by
      rw [bne_eq_false_iff_eq, ipow, Int.ediv_eq_zero_of_lt h0 (by omega)]
    clear hn hp h0
    go_enter Try.func13, Try.ntmps13
    go_wp2
    go_ret2
    exact ⟨by rw [← hrun.out]; rfl, rfl⟩
  · have hd : n / 2 ^ (b - 1) = -1 := by
      rw [ipow]
      have : n = (n + ((2 ^ (b - 1) : Nat) : Int)) + ((2 ^ (b - 1) : Nat) : Int) * (-1) := by omega
      rw [this, Int.add_mul_ediv_left _ _ (by omega), Int.ediv_eq_zero_of_lt (by omega) (by omega)]; rfl
    have hz : (n / 2 ^ (b - 1) != 0) = true := by rw [hd]; rfl
    have hz2 : (n / 2 ^ (b - 1) != -1) = false := by rw [hd]; rfl
    clear hn hp h0 hd
    go_enter Try.func13, Try.ntmps13
    go_wp2
    go_ret2
    exact ⟨by rw [← hrun.out]; rfl, rfl⟩
theorem narrow_range (n : Int) (b : Nat) (w : World) (h1 : 1 ≤ b) (h2 : b ≤ 64) (hn : ¬ inBits n b) :
    Calls Try.prog 13 #[.int .i64 n, .int .i64 b] w fun e w' => e = .returned (.tuple #[.int .u64 0, .int .i64 12]) ∧ w = w' := by
  have e2 : ((b : Int) - 1).toNat = b - 1 := by omega
  have hp := Nat.two_pow_pos (b - 1)
  unfold inBits at hn
  rw [ipow (b - 1)] at hn
  have hz : (n / 2 ^ (b - 1) != 0) = true := by
    rw [bne_iff_ne, ipow]
    intro h
    have := Int.mul_ediv_add_emod n ((2 ^ (b - 1) : Nat) : Int)
    have h3 := Int.emod_nonneg n (show ((2 ^ (b - 1) : Nat) : Int) ≠ 0 by omega)
    have h4 := Int.emod_lt_of_pos n (show (0 : Int) < ((2 ^ (b - 1) : Nat) : Int) by omega)
    rw [h, Int.mul_zero] at this
    exact hn ⟨by omega, by omega⟩
  have hz2 : (n / 2 ^ (b - 1) != -1) = true := by
    rw [bne_iff_ne, ipow]
    intro h
    have := Int.mul_ediv_add_emod n ((2 ^ (b - 1) : Nat) : Int)
    have h3 := Int.emod_nonneg n (show ((2 ^ (b - 1) : Nat) : Int) ≠ 0 by omega)
    have h4 := Int.emod_lt_of_pos n (show (0 : Int) < ((2 ^ (b - 1) : Nat) : Int) by omega)
    rw [h] at this
    exact hn ⟨by omega, by omega⟩
  clear hn hp
  go_enter Try.func13, Try.ntmps13
  go_wp2
  go_ret2
  exact ⟨rfl, rfl⟩
end Go.Proofs.Ytdkjkdlpkjklmaa
