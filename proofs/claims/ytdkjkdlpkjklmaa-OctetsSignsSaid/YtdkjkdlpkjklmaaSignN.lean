/- Numbers of so many bits, with a sign and without: plain laws. No condition. -/
import Derived.Test.YtdkjkdlpkjklmaaU
set_option linter.unusedVariables false
set_option linter.unusedSimpArgs false
namespace Go.Proofs.Ytdkjkdlpkjklmaa
open Go.RowKit
def signN (v b : Nat) : Int := if v < 2 ^ (b - 1) then (v : Int) else (v : Int) - 2 ^ b
def signE (v : Nat) (b : Int) : Int := if 1 ≤ b ∧ b ≤ 64 then (if v < 2 ^ b.toNat then 0 else 12) else 1
def signX (v : Nat) (b : Int) : Int := if 1 ≤ b ∧ b ≤ 64 ∧ v < 2 ^ b.toNat then signN v b.toNat else 0
def inBits (n : Int) (b : Nat) : Prop := -2 ^ (b - 1) ≤ n ∧ n < 2 ^ (b - 1)
instance (n : Int) (b : Nat) : Decidable (inBits n b) := by unfold inBits; infer_instance
def narrowN (n : Int) (b : Nat) : Nat := (n % 2 ^ b).toNat
def narrowE (n : Int) (b : Int) : Int := if 1 ≤ b ∧ b ≤ 64 then (if inBits n b.toNat then 0 else 12) else 1
def narrowX (n : Int) (b : Int) : Nat := if 1 ≤ b ∧ b ≤ 64 ∧ inBits n b.toNat then narrowN n b.toNat else 0
theorem pow_half (b : Nat) (h : 1 ≤ b) : (2 : Nat) ^ b = 2 * 2 ^ (b - 1) := by
  obtain ⟨c, rfl⟩ : ∃ c, b = c + 1 := ⟨b - 1, by omega⟩
  rw [Nat.pow_succ, Nat.add_sub_cancel, Nat.mul_comm]
theorem ipow (b : Nat) : ((2 : Int) ^ b) = ((2 ^ b : Nat) : Int) := by push_cast; rfl
theorem signN_bits (v b : Nat) (hb : 1 ≤ b) (hv : v < 2 ^ b) : inBits (signN v b) b := by
  have h := pow_half b hb
  unfold inBits signN
  rw [ipow (b - 1), ipow b]
  split <;> omega
theorem narrow_sign (v b : Nat) (hb : 1 ≤ b) (hv : v < 2 ^ b) : narrowN (signN v b) b = v := by
  have h := pow_half b hb
  unfold narrowN signN
  rw [ipow b]
  split
  · rw [Int.emod_eq_of_lt (by omega) (by omega)]; omega
  · rw [show (v : Int) - ((2 ^ b : Nat) : Int) = (v : Int) + ((2 ^ b : Nat) : Int) * (-1) by omega, Int.add_mul_emod_self_left, Int.emod_eq_of_lt (by omega) (by omega)]; omega
theorem narrowN_lt (n : Int) (b : Nat) : narrowN n b < 2 ^ b := by
  unfold narrowN
  have hp := Nat.two_pow_pos b
  rw [ipow b]
  have h1 := Int.emod_nonneg n (show ((2 ^ b : Nat) : Int) ≠ 0 by omega)
  have h2 := Int.emod_lt_of_pos n (show (0 : Int) < ((2 ^ b : Nat) : Int) by omega)
  omega
theorem sign_narrow (n : Int) (b : Nat) (hb : 1 ≤ b) (h : inBits n b) : signN (narrowN n b) b = n := by
  have hh := pow_half b hb
  unfold inBits at h
  rw [ipow (b - 1)] at h
  unfold signN narrowN
  rw [ipow b]
  by_cases h0 : 0 ≤ n
  · rw [Int.emod_eq_of_lt h0 (by omega)]
    rw [if_pos (by omega)]; omega
  · have e : n % ((2 ^ b : Nat) : Int) = n + ((2 ^ b : Nat) : Int) := by
      rw [← Int.add_mul_emod_self_left n ((2 ^ b : Nat) : Int) 1, Int.mul_one, Int.emod_eq_of_lt (by omega) (by omega)]
    rw [e]
    rw [if_neg (by omega)]; omega
/-- what the program reckons -/
theorem sign_run (v b : Nat) (hb : 1 ≤ b) (hb2 : b ≤ 64) (hv : v < 2 ^ b) : (wrap64 (IntKind.u64.wrap ((v : Int) * 2 ^ (64 - b)))) / 2 ^ (64 - b) = signN v b := by
  have hh := pow_half b hb
  have hs := Nat.two_pow_pos (64 - b)
  have e64 : 2 ^ b * 2 ^ (64 - b) = 18446744073709551616 := by rw [← Nat.pow_add, show b + (64 - b) = 64 by omega]
  have e63 : 2 ^ (b - 1) * 2 ^ (64 - b) = 9223372036854775808 := by rw [← Nat.pow_add, show b - 1 + (64 - b) = 63 by omega]
  rw [ipow (64 - b)]
  have hx : v * 2 ^ (64 - b) < 18446744073709551616 := by rw [← e64]; exact Nat.mul_lt_mul_of_pos_right hv hs
  have ex : (v : Int) * ((2 ^ (64 - b) : Nat) : Int) = ((v * 2 ^ (64 - b) : Nat) : Int) := by push_cast; rfl
  rw [ex, IntWalk.u64_in _ (by omega)]
  unfold signN
  by_cases h : v < 2 ^ (b - 1)
  · rw [if_pos h]
    have h63 : v * 2 ^ (64 - b) < 9223372036854775808 := by rw [← e63]; exact Nat.mul_lt_mul_of_pos_right h hs
    rw [IntWalk.wrap64_in _ (by omega), ← Int.natCast_ediv, Nat.mul_div_cancel _ hs]
  · rw [if_neg h]
    have h63 : 9223372036854775808 ≤ v * 2 ^ (64 - b) := by rw [← e63]; exact Nat.mul_le_mul_right _ (by omega)
    have ew : wrap64 ((v * 2 ^ (64 - b) : Nat) : Int) = ((v * 2 ^ (64 - b) : Nat) : Int) - 18446744073709551616 := by unfold wrap64; omega
    rw [ew, ipow b]
    have e3 : ((v * 2 ^ (64 - b) : Nat) : Int) - 18446744073709551616 = ((v : Int) - ((2 ^ b : Nat) : Int)) * ((2 ^ (64 - b) : Nat) : Int) := by
      rw [Int.sub_mul, ← ex]
      have : ((2 ^ b : Nat) : Int) * ((2 ^ (64 - b) : Nat) : Int) = 18446744073709551616 := by rw [← Int.natCast_mul, e64]; rfl
      rw [this]
    rw [e3, Int.mul_ediv_cancel _ (by omega)]
theorem narrow_run (n : Int) (b : Nat) (hb : 1 ≤ b) (hb2 : b ≤ 64) : (IntKind.u64.wrap (IntKind.u64.wrap n * 2 ^ (64 - b))) / 2 ^ (64 - b) = (narrowN n b : Int) := by
  have hs := Nat.two_pow_pos (64 - b)
  have hp := Nat.two_pow_pos b
  have e64 : 2 ^ b * 2 ^ (64 - b) = 18446744073709551616 := by rw [← Nat.pow_add, show b + (64 - b) = 64 by omega]
  have e64i : ((2 ^ b : Nat) : Int) * ((2 ^ (64 - b) : Nat) : Int) = 18446744073709551616 := by rw [← Int.natCast_mul, e64]; rfl
  rw [ipow (64 - b), IntKind.wrap_u64, IntKind.wrap_u64]
  unfold narrowN
  rw [ipow b]
  have h1 := Int.emod_nonneg n (show ((2 ^ b : Nat) : Int) ≠ 0 by omega)
  have hM : (n % 18446744073709551616) % ((2 ^ b : Nat) : Int) = n % ((2 ^ b : Nat) : Int) := by rw [← e64i]; exact Int.emod_emod_of_dvd _ ⟨_, rfl⟩
  generalize n % 18446744073709551616 = M at *
  rw [← e64i, Int.mul_comm M, Int.mul_comm ((2 ^ b : Nat) : Int), Int.mul_emod_mul_of_pos _ _ (by omega), Int.mul_comm, Int.mul_ediv_cancel _ (by omega), hM]
  omega
end Go.Proofs.Ytdkjkdlpkjklmaa
