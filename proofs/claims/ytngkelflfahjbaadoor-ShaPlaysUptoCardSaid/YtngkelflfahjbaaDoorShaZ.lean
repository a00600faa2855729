/- The document's turn and three, beyond the word's width (their answers are not used). No condition. -/
import Derived.Test.YtngkelflfahjbaaDoorShaS
set_option linter.unusedVariables false
set_option linter.unusedSimpArgs false
namespace Go.Proofs.YtngkelflfahjbaaDoor
open Go.RowKit
theorem turn_far (x n : Nat) (w : World) (hn : 33 ≤ n ∧ n < 64) (hx : x < 4294967296) :
    Calls Tryd.prog 55 #[.int .u64 (x : Nat), .int .u64 (n : Nat), .int .u64 32] w fun e w' => e = .returned (.int .u64 0) ∧ w = w' := by
  have hp : (2 : Nat) ^ n ≤ 2 ^ 63 := Nat.pow_le_pow_right (by decide) (by omega)
  have hp1 : (2 : Nat) ^ 32 ≤ 2 ^ n := Nat.pow_le_pow_right (by decide) (by omega)
  obtain ⟨k, hk⟩ : ∃ k, 18446744073709551616 + 32 - n = k := ⟨_, rfl⟩
  obtain ⟨D, hD⟩ : ∃ D : Nat, 2 ^ n = D := ⟨_, rfl⟩
  have hDi : (2 : Int) ^ n = (D : Int) := by rw [← hD]; push_cast; rfl
  rw [hD] at hp hp1
  have f0 : min n 64 = n := Nat.min_eq_left (by omega)
  have f00 : min k 64 = 64 := Nat.min_eq_right (by omega)
  have f1 : (D : Int) % 18446744073709551616 = (D : Int) := by omega
  have f1' : IntKind.u64.wrap (D : Int) = (D : Int) := IntWalk.u64_in _ (by omega)
  have f2 : ((D : Int) == 0) = false := beq_eq_false_iff_ne.2 (by omega)
  have f2' : ¬ (D : Int) = 0 := by omega
  have hm : x % D = x := Nat.mod_eq_of_lt (by omega)
  have hd : x / D = 0 := Nat.div_eq_of_lt (by omega)
  have f3 : (x : Int).tmod (D : Int) = (x : Int) := by rw [Int.tmod_eq_emod_of_nonneg (by omega)]; exact (Int.natCast_emod _ _).symm.trans (by rw [hm])
  have f4 : (x : Int).tdiv (D : Int) = 0 := by rw [Int.tdiv_eq_ediv_of_nonneg (by omega)]; exact (Int.natCast_ediv _ _).symm.trans (by rw [hd]; rfl)
  have f3' : (x : Int) % (D : Int) = (x : Int) := (Int.natCast_emod _ _).symm.trans (by rw [hm])
  have f4' : (x : Int) / (D : Int) = 0 := (Int.natCast_ediv _ _).symm.trans (by rw [hd]; rfl)
  have f5 : IntKind.u64.wrap (32 - (n : Int)) = (k : Int) := by
    simp [IntKind.wrap, IntKind.bits, IntKind.signed]
    omega
  have f6 : IntKind.u64.wrap ((x : Int) * 18446744073709551616) = 0 := by simp [IntKind.wrap, IntKind.bits, IntKind.signed]
  have f7 : IntKind.u64.wrap 0 = 0 := by decide
  clear hp hp1 hk hD hm hd hx
  go_enter Tryd.func55, Tryd.ntmps55
  go_wp2_with fail
  go_ret
  exact ⟨by first | rfl | simp, rfl⟩
set_option maxHeartbeats 400000 in
theorem three_far (x a b c : Nat) (w : World) (ha : 1 ≤ a ∧ a < 32) (hb : (1 ≤ b ∧ b < 32) ∨ (33 ≤ b ∧ b < 64)) (hc : 33 ≤ c ∧ c < 64) (hx : x < 4294967296) :
    Calls Tryd.prog 53 #[.int .u64 (x : Nat), .int .u64 32, .int .u64 (a : Nat), .int .u64 (b : Nat), .int .u64 (c : Nat), .bool false] w fun e w' => ∃ N : Nat, e = .returned (.int .u64 (N : Nat)) ∧ w = w' := by
  have Ha := Lib.hid (fun w => turn_any x a 32 w (Or.inl rfl) ha.2 ha.1 hx)
  obtain ⟨B, Hb⟩ : ∃ B : Nat, Hid (B < 4294967296 ∧ ∀ w, Calls Tryd.prog 55 #[.int .u64 (x : Nat), .int .u64 (b : Nat), .int .u64 32] w fun e w' => e = .returned (.int .u64 (B : Nat)) ∧ w = w') := by
    rcases hb with hb | hb
    · exact ⟨_, Lib.hid ⟨rot_lt (w := 32) (n := b) (by omega) hx, fun w => turn_any x b 32 w (Or.inl rfl) hb.2 hb.1 hx⟩⟩
    · exact ⟨0, Lib.hid ⟨by decide, fun w => turn_far x b w hb hx⟩⟩
  have Hc := Lib.hid (fun w => turn_far x c w hc hx)
  have la := rot_lt (w := 32) (n := a) (by omega) hx
  generalize rot 32 a x = A at *
  have lb := Hb.out.1
  have x1 := u64_xor_nat A B (by omega) (by omega)
  have x2 : bits .xor .u64 ((A ^^^ B : Nat) : Int) 0 = _ := u64_xor_nat (A ^^^ B) 0 (Nat.xor_lt_two_pow (n := 64) (by omega) (by omega)) (by omega)
  generalize A ^^^ B = E at *
  generalize E ^^^ 0 = F at *
  clear ha hb hc hx la lb
  go_enter Tryd.func53, Tryd.ntmps53
  go_wp2_with fail
  refine (Hc.out _).mono ?_
  rintro e w1 ⟨rfl, rfl⟩
  go_wp2_with fail
  refine (Ha.out _).mono ?_
  rintro e w1 ⟨rfl, rfl⟩
  go_wp2_with fail
  refine (Hb.out.2 _).mono ?_
  rintro e w1 ⟨rfl, rfl⟩
  go_wp2_with fail
  go_ret
  exact ⟨_, rfl, rfl⟩
end Go.Proofs.YtngkelflfahjbaaDoor
