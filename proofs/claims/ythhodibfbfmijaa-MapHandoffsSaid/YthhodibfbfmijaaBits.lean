/- Powers of two, masks: plain laws. No condition. -/
import Derived.Test.YthhodibfbfmijaaU
set_option linter.unusedVariables false
set_option linter.unusedSimpArgs false
namespace Go.Proofs.Ythhodibfbfmijaa
open Go.RowKit
theorem and_mask (x j : Nat) (hx : x < 2 ^ 64) (hj : j ≤ 64) : x &&& (2 ^ 64 - 2 ^ j) = 2 ^ j * (x / 2 ^ j) := by
  have e : 2 ^ 64 - 2 ^ j = 2 ^ j * (2 ^ (64 - j) - 1) := by
    rw [Nat.mul_sub, Nat.mul_one, ← Nat.pow_add, show j + (64 - j) = 64 by omega]
  rw [e]
  apply Nat.eq_of_testBit_eq
  intro i
  rw [Nat.testBit_and, Nat.testBit_two_pow_mul, Nat.testBit_two_pow_mul, Nat.testBit_two_pow_sub_one, Nat.testBit_div_two_pow]
  by_cases h : j ≤ i
  · by_cases h2 : i < 64
    · have : i - j < 64 - j := by omega
      simp [h, this]
    · have h3 : x.testBit i = false := Nat.testBit_lt_two_pow (Nat.lt_of_lt_of_le hx (Nat.pow_le_pow_right (by decide) (by omega)))
      have h4 : i - j + j = i := by omega
      simp [h, h3]
  · simp [h]
theorem even_and (b : Nat) (hb : 0 < b) : (2 * b) &&& (2 * b - 1) = 2 * (b &&& (b - 1)) := by
  have h1 : ((2 * b) &&& (2 * b - 1)) / 2 = b &&& (b - 1) := by
    rw [Nat.and_div_two, show 2 * b / 2 = b by omega, show (2 * b - 1) / 2 = b - 1 by omega]
  have h2 : ((2 * b) &&& (2 * b - 1)) % 2 = 0 := by
    have : ((2 * b) &&& (2 * b - 1)).testBit 0 = false := by
      rw [Nat.testBit_and]
      have : (2 * b).testBit 0 = false := by simp
      rw [this, Bool.false_and]
    rw [Nat.testBit_zero] at this
    have := of_decide_eq_false this
    omega
  omega
theorem odd_and (b : Nat) : (2 * b + 1) &&& (2 * b) = 2 * b := by
  have h1 : ((2 * b + 1) &&& (2 * b)) / 2 = b := by
    rw [Nat.and_div_two, show (2 * b + 1) / 2 = b by omega, show 2 * b / 2 = b by omega, Nat.and_self]
  have h2 : ((2 * b + 1) &&& (2 * b)) % 2 = 0 := by
    have : ((2 * b + 1) &&& (2 * b)).testBit 0 = false := by
      rw [Nat.testBit_and]
      have : (2 * b).testBit 0 = false := by simp
      rw [this, Bool.and_false]
    rw [Nat.testBit_zero] at this
    have := of_decide_eq_false this
    omega
  omega
/-- a power of two -/
def Pow2 (a : Nat) : Prop := ∃ j, a = 2 ^ j
theorem pow2_and (a : Nat) (ha : a ≠ 0) : a &&& (a - 1) = 0 ↔ Pow2 a := by
  induction a using Nat.strongRecOn with
  | _ a ih =>
    obtain ⟨b, rfl | rfl⟩ : ∃ b, a = 2 * b ∨ a = 2 * b + 1 := ⟨a / 2, by omega⟩
    · have hb : 0 < b := by omega
      rw [even_and b hb]
      have := ih b (by omega) (by omega)
      constructor
      · intro h
        obtain ⟨j, hj⟩ := this.1 (by omega)
        exact ⟨j + 1, by rw [hj, Nat.pow_succ, Nat.mul_comm]⟩
      · rintro ⟨j, hj⟩
        cases j with
        | zero => simp at hj; omega
        | succ j => rw [Nat.pow_succ] at hj; rw [this.2 ⟨j, by omega⟩]
    · rw [show 2 * b + 1 - 1 = 2 * b by omega, odd_and]
      constructor
      · intro h; exact ⟨0, by omega⟩
      · rintro ⟨j, hj⟩
        cases j with
        | zero => simp at hj; omega
        | succ j => rw [Nat.pow_succ] at hj; omega
theorem pow2_half (a : Nat) (h : a % 2 = 0) (h0 : 1 < a) : Pow2 (a / 2) ↔ Pow2 a := by
  constructor
  · rintro ⟨j, hj⟩; exact ⟨j + 1, by rw [Nat.pow_succ]; omega⟩
  · rintro ⟨j, hj⟩
    cases j with
    | zero => simp at hj; omega
    | succ j => rw [Nat.pow_succ] at hj; exact ⟨j, by omega⟩
theorem pow2_odd (a : Nat) (h : ¬ a % 2 = 0) (h0 : a ≠ 1) : ¬ Pow2 a := by
  rintro ⟨j, hj⟩
  cases j with
  | zero => simp at hj; omega
  | succ j => rw [Nat.pow_succ] at hj; omega
theorem pow2_le (a : Nat) (h : Pow2 a) (ha : a < 18446744073709551616) : ∃ j, j < 64 ∧ a = 2 ^ j := by
  obtain ⟨j, rfl⟩ := h
  refine ⟨j, ?_, rfl⟩
  by_cases h : j < 64
  · exact h
  · have := Nat.pow_le_pow_right (show 0 < 2 by decide) (show 64 ≤ j by omega)
    omega

/-- the next multiple -/
def upN (v a : Nat) : Nat := (v + a - 1) / a * a
theorem up_mask (x j : Nat) (hx : x < 18446744073709551616) (hj : j < 64) : bits BinOp.andNot IntKind.u64 (x : Int) ((2 ^ j - 1 : Nat) : Int) = ((x / 2 ^ j * 2 ^ j : Nat) : Int) := by
  have hp := Nat.pow_le_pow_right (show 0 < 2 by decide) (show j ≤ 63 by omega)
  have h63 : (2 : Nat) ^ 63 = 9223372036854775808 := by decide
  have h0 := Nat.two_pow_pos j
  rw [u64_andNot_nat _ _ hx (by omega)]
  have e : 18446744073709551615 - (2 ^ j - 1) = 2 ^ 64 - 2 ^ j := by
    have : (2 : Nat) ^ 64 = 18446744073709551616 := by decide
    omega
  rw [e, and_mask x j hx (by omega), Nat.mul_comm]
theorem upN_ge (v a : Nat) (ha : 0 < a) : v ≤ upN v a := by
  unfold upN
  have h1 := Nat.div_add_mod (v + a - 1) a
  have h2 := Nat.mod_lt (v + a - 1) ha
  rw [Nat.mul_comm] at h1
  omega
theorem upN_rest (v a : Nat) (ha : 0 < a) : upN v a = if v % a = 0 then v else v + (a - v % a) := by
  unfold upN
  have h1 := Nat.div_add_mod v a
  have h2 := Nat.mod_lt v ha
  split
  · rename_i h
    rw [h, Nat.add_zero] at h1
    have e : v + a - 1 = a * (v / a) + (a - 1) := by omega
    rw [e, Nat.mul_add_div ha, Nat.div_eq_of_lt (show a - 1 < a by omega), Nat.add_zero, Nat.mul_comm, h1]
  · rename_i h
    have e : v + a - 1 = a * (v / a + 1) + (v % a - 1) := by rw [Nat.mul_add, Nat.mul_one]; omega
    rw [e, Nat.mul_add_div ha, Nat.div_eq_of_lt (show v % a - 1 < a by omega), Nat.add_zero, Nat.add_mul, Nat.one_mul, Nat.mul_comm]
    omega
/-- a multiple of a power of two that lies below 2^64 leaves room for that power -/
theorem mult_room (v j : Nat) (hj : j < 64) (hv : v < 18446744073709551616) (h : v % 2 ^ j = 0) : v + 2 ^ j ≤ 18446744073709551616 := by
  have e : (18446744073709551616 : Nat) = 2 ^ j * 2 ^ (64 - j) := by rw [← Nat.pow_add, show j + (64 - j) = 64 by omega]
  obtain ⟨q, rfl⟩ := Nat.dvd_of_mod_eq_zero h
  rw [e] at hv ⊢
  have hq : q < 2 ^ (64 - j) := Nat.lt_of_mul_lt_mul_left hv
  calc 2 ^ j * q + 2 ^ j = 2 ^ j * (q + 1) := by rw [Nat.mul_add, Nat.mul_one]
    _ ≤ _ := Nat.mul_le_mul_left _ hq
theorem upN_mult (v a : Nat) : upN v a % a = 0 := by unfold upN; exact Nat.mul_mod_left _ _
end Go.Proofs.Ythhodibfbfmijaa
