/- SHA-2's small functions: turning, the document's three, cut. No condition. -/
import Derived.Test.YtngkelflfahjbaaDoorProg
import Derived.Test.YtngkelflfahjbaaDoorShaN
import Derived.Test.YtngkelflfahjbaaDoorHB
set_option linter.unusedVariables false
set_option linter.unusedSimpArgs false
namespace Go.Proofs.YtngkelflfahjbaaDoor
open Go.RowKit
theorem nat_cast_pow (x k : Nat) : (x : Int) * 2 ^ k = ((x * 2 ^ k : Nat) : Int) := by push_cast; rfl
theorem nat_cast_div (x k : Nat) : (x : Int) / 2 ^ k = ((x / 2 ^ k : Nat) : Int) := by push_cast; rfl
theorem wrap32 (x : Nat) : IntKind.u32.wrap (x : Int) = ((x % 4294967296 : Nat) : Int) := by simp [IntKind.wrap, IntKind.bits, IntKind.signed]
theorem wrap64 (x : Nat) : IntKind.u64.wrap (x : Int) = ((x % 18446744073709551616 : Nat) : Int) := by simp [IntKind.wrap, IntKind.bits, IntKind.signed]
theorem and_low {N n : Nat} (j k : Nat) (hN : N + n = 18446744073709551616) (h1 : 1 ≤ n) (hj : n < 2 ^ j) (hjl : j ≤ 32) (hk : k = 2 ^ j - n) : N &&& (2 ^ j - 1) = k := by
  rw [Nat.and_two_pow_sub_one_eq_mod]
  obtain ⟨q, hq⟩ : ∃ q, 18446744073709551616 = 2 ^ j * q := ⟨2 ^ (64 - j), by rw [← Nat.pow_add]; rw [show j + (64 - j) = 64 by omega]⟩
  have hq1 : 1 ≤ q := by
    rcases Nat.eq_zero_or_pos q with h | h
    · rw [h] at hq; omega
    · exact h
  have e : N = 2 ^ j * (q - 1) + k := by
    have : 2 ^ j * q = 2 ^ j * (q - 1) + 2 ^ j := by rw [← Nat.mul_succ]; congr 1; omega
    omega
  rw [e, Nat.mul_add_mod]
  exact Nat.mod_eq_of_lt (by omega)
set_option maxHeartbeats 400000 in
theorem rotl32 (x n : Nat) (m : Int) (w : World) (hm : m = -(n : Int)) (h1 : 1 ≤ n) (hn : n ≤ 31) (hx : x < 4294967296) :
    Calls Tryd.prog 52 #[.int .u32 (x : Nat), .int .i64 m] w fun e w' => e = .returned (.int .u32 (rot 32 n x : Nat)) ∧ w = w' := by
  obtain ⟨N, hN⟩ : ∃ N, N + n = 18446744073709551616 := ⟨18446744073709551616 - n, by omega⟩
  obtain ⟨k, hk⟩ : ∃ k, k + n = 32 := ⟨32 - n, by omega⟩
  have f1 : IntKind.u64.wrap m = (N : Int) := by subst hm; simp [IntKind.wrap, IntKind.bits, IntKind.signed]; omega
  have f2 : bits .and .u64 (N : Int) 31 = (k : Int) := by
    have := u64_and_nat N 31 (by omega) (by omega)
    rw [and_low (N := N) (n := n) 5 k hN h1 (by omega) (by omega) (by omega)] at this
    exact this
  have f3 : (x : Int) * 2 ^ k % 4294967296 = ((x * 2 ^ k % 2 ^ 32 : Nat) : Int) := by rw [nat_cast_pow]; rfl
  have f3' : IntKind.u32.wrap ((x : Int) * 2 ^ k) = ((x * 2 ^ k % 2 ^ 32 : Nat) : Int) := by rw [nat_cast_pow, wrap32]
  have f4 : IntKind.u64.wrap (32 - (k : Int)) = (n : Int) := by rw [IntWalk.u64_in _ (by omega)]; omega
  have f5 : (x : Int) / 2 ^ n = ((x / 2 ^ n : Nat) : Int) := nat_cast_div x n
  have f6 : bits .or .u32 ((x * 2 ^ k % 2 ^ 32 : Nat) : Int) ((x / 2 ^ n : Nat) : Int) = ((rot 32 n x : Nat) : Int) := by
    rw [u32_or_nat _ _ (Nat.mod_lt _ (by decide)) (Nat.lt_of_le_of_lt (Nat.div_le_self _ _) hx), rot_or (w := 32) (by omega) hx, show 32 - n = k by omega]
  have f7 : min k 32 = k := Nat.min_eq_left (by omega)
  have f8 : min n 32 = n := Nat.min_eq_left (by omega)
  generalize x * 2 ^ k % 2 ^ 32 = A at *
  generalize x / 2 ^ n = B at *
  generalize rot 32 n x = R at *
  clear hm hN hk h1 hn hx
  go_enter Tryd.func52, Tryd.ntmps52
  go_wp2_with fail
  go_ret
  exact ⟨rfl, rfl⟩
set_option maxHeartbeats 400000 in
theorem rotl64 (x n : Nat) (m : Int) (w : World) (hm : m = -(n : Int)) (h1 : 1 ≤ n) (hn : n ≤ 63) (hx : x < 18446744073709551616) :
    Calls Tryd.prog 51 #[.int .u64 (x : Nat), .int .i64 m] w fun e w' => e = .returned (.int .u64 (rot 64 n x : Nat)) ∧ w = w' := by
  obtain ⟨N, hN⟩ : ∃ N, N + n = 18446744073709551616 := ⟨18446744073709551616 - n, by omega⟩
  obtain ⟨k, hk⟩ : ∃ k, k + n = 64 := ⟨64 - n, by omega⟩
  have f1 : IntKind.u64.wrap m = (N : Int) := by subst hm; simp [IntKind.wrap, IntKind.bits, IntKind.signed]; omega
  have f2 : bits .and .u64 (N : Int) 63 = (k : Int) := by
    have := u64_and_nat N 63 (by omega) (by omega)
    rw [and_low (N := N) (n := n) 6 k hN h1 (by omega) (by omega) (by omega)] at this
    exact this
  have f3 : (x : Int) * 2 ^ k % 18446744073709551616 = ((x * 2 ^ k % 2 ^ 64 : Nat) : Int) := by rw [nat_cast_pow]; rfl
  have f3' : IntKind.u64.wrap ((x : Int) * 2 ^ k) = ((x * 2 ^ k % 2 ^ 64 : Nat) : Int) := by rw [nat_cast_pow, wrap64]
  have f4 : IntKind.u64.wrap (64 - (k : Int)) = (n : Int) := by rw [IntWalk.u64_in _ (by omega)]; omega
  have f5 : (x : Int) / 2 ^ n = ((x / 2 ^ n : Nat) : Int) := nat_cast_div x n
  have f6 : bits .or .u64 ((x * 2 ^ k % 2 ^ 64 : Nat) : Int) ((x / 2 ^ n : Nat) : Int) = ((rot 64 n x : Nat) : Int) := by
    rw [u64_or_nat _ _ (Nat.mod_lt _ (by decide)) (Nat.lt_of_le_of_lt (Nat.div_le_self _ _) hx), rot_or (w := 64) (by omega) hx, show 64 - n = k by omega]
  have f7 : min k 64 = k := Nat.min_eq_left (by omega)
  have f8 : min n 64 = n := Nat.min_eq_left (by omega)
  generalize x * 2 ^ k % 2 ^ 64 = A at *
  generalize x / 2 ^ n = B at *
  generalize rot 64 n x = R at *
  clear hm hN hk h1 hn hx
  go_enter Tryd.func51, Tryd.ntmps51
  go_wp2_with fail
  go_ret
  exact ⟨rfl, rfl⟩
/-- the document's turn -/
theorem turn_any (x n ww : Nat) (w : World) (hw : ww = 32 ∨ ww = 64) (hn : n < ww) (h1 : 1 ≤ n) (hx : x < 2 ^ ww) :
    Calls Tryd.prog 55 #[.int .u64 (x : Nat), .int .u64 (n : Nat), .int .u64 (ww : Nat)] w fun e w' => e = .returned (.int .u64 (rot ww n x : Nat)) ∧ w = w' := by
  have hn64 : n < 64 := by omega
  have hp : (2 : Nat) ^ n ≤ 2 ^ 63 := Nat.pow_le_pow_right (by decide) (by omega)
  have hp0 : 0 < (2 : Nat) ^ n := Nat.two_pow_pos _
  have hr := rot_lt (w := ww) (n := n) (by omega) hx
  have hw64 : (2 : Nat) ^ ww ≤ 2 ^ 64 := Nat.pow_le_pow_right (by decide) (by omega)
  have hlow : x % 2 ^ n * 2 ^ (ww - n) < 18446744073709551616 := Nat.lt_of_le_of_lt (Nat.le_add_left _ _) (Nat.lt_of_lt_of_le hr hw64)
  obtain ⟨k, hk⟩ : ∃ k, k + n = ww := ⟨ww - n, by omega⟩
  have e1 : ww - n = k := by omega
  unfold rot at hr ⊢
  rw [e1] at hr hlow ⊢
  obtain ⟨D, hD⟩ : ∃ D : Nat, 2 ^ n = D := ⟨_, rfl⟩
  have hDi : (2 : Int) ^ n = (D : Int) := by rw [← hD]; push_cast; rfl
  rw [hD] at hp hp0 hr hlow ⊢
  have f0 : min n 64 = n := Nat.min_eq_left (by omega)
  have f00 : min k 64 = k := Nat.min_eq_left (by omega)
  have f1 : (D : Int) % 18446744073709551616 = (D : Int) := by omega
  have f1' : IntKind.u64.wrap (D : Int) = (D : Int) := IntWalk.u64_in _ (by omega)
  have f2 : ((D : Int) == 0) = false := beq_eq_false_iff_ne.2 (by omega)
  have f2' : ¬ (D : Int) = 0 := by omega
  have f3 : (x : Int).tmod (D : Int) = ((x % D : Nat) : Int) := by rw [Int.tmod_eq_emod_of_nonneg (by omega)]; exact (Int.natCast_emod _ _).symm
  have f4 : (x : Int).tdiv (D : Int) = ((x / D : Nat) : Int) := by rw [Int.tdiv_eq_ediv_of_nonneg (by omega)]; exact (Int.natCast_ediv _ _).symm
  have f3' : (x : Int) % (D : Int) = ((x % D : Nat) : Int) := (Int.natCast_emod _ _).symm
  have f4' : (x : Int) / (D : Int) = ((x / D : Nat) : Int) := (Int.natCast_ediv _ _).symm
  have hA : x / D ≤ x := Nat.div_le_self _ _
  have hB : x % D < D := Nat.mod_lt _ hp0
  generalize x / D = A at *
  generalize x % D = B at *
  have f5 : IntKind.u64.wrap ((ww : Int) - (n : Int)) = (k : Int) := by rw [IntWalk.u64_in _ (by omega)]; omega
  have f6 : (B : Int) * 2 ^ k % 18446744073709551616 = ((B * 2 ^ k : Nat) : Int) := by rw [nat_cast_pow]; omega
  have f6' : IntKind.u64.wrap ((B : Int) * 2 ^ k) = ((B * 2 ^ k : Nat) : Int) := by rw [nat_cast_pow]; exact IntWalk.u64_in _ (by omega)
  generalize B * 2 ^ k = C at *
  have f7 : IntKind.u64.wrap ((A : Int) + (C : Int)) = ((A + C : Nat) : Int) := IntWalk.u64_in _ (by omega)
  have f8 : IntKind.u64.wrap (A : Int) = (A : Int) := IntWalk.u64_in _ (by omega)
  clear hw hn h1 hx hn64 hp hp0 hw64 hlow hk e1 hD hA hB hr
  go_enter Tryd.func55, Tryd.ntmps55
  go_wp2_with fail
  go_ret
  exact ⟨rfl, rfl⟩
end Go.Proofs.YtngkelflfahjbaaDoor
