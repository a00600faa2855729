/- SHA-2's small functions: the document's three, cut and Kind; words laid down and read. No condition. -/
import Derived.Test.YtngkelflfahjbaaDoorShaR
import Derived.Test.YtngkelflfahjbaaDoorGr
set_option linter.unusedVariables false
set_option linter.unusedSimpArgs false
namespace Go.Proofs.YtngkelflfahjbaaDoor
open Go.RowKit
theorem byteRow02 : ByteRow Tryd.prog 22 5 := ⟨Tryd.underlying22, by kernel_rfl⟩
theorem cut_any (x ww : Nat) (w : World) (hw : ww = 32 ∨ ww = 64) (hx : x < 18446744073709551616) :
    Calls Tryd.prog 54 #[.int .u64 (x : Nat), .int .u64 (ww : Nat)] w fun e w' => e = .returned (.int .u64 (x % 2 ^ ww : Nat)) ∧ w = w' := by
  rcases hw with rfl | rfl
  · have f1 : (x : Int).tmod 4294967296 = ((x % 2 ^ 32 : Nat) : Int) := by rw [Int.tmod_eq_emod_of_nonneg (by omega)]; exact (Int.natCast_emod _ _).symm
    have f2 : (x : Int) % 4294967296 = ((x % 2 ^ 32 : Nat) : Int) := (Int.natCast_emod _ _).symm
    generalize x % 2 ^ 32 = r at *
    go_enter Tryd.func54, Tryd.ntmps54
    go_wp2_with fail
    go_ret
    exact ⟨rfl, rfl⟩
  · rw [Nat.mod_eq_of_lt (by omega : x < 2 ^ 64)]
    go_enter Tryd.func54, Tryd.ntmps54
    go_wp2_with fail
    go_ret
    exact ⟨rfl, rfl⟩
set_option maxHeartbeats 400000 in
theorem three_any (x ww a b c : Nat) (s : Bool) (w : World) (hw : ww = 32 ∨ ww = 64) (ha : 1 ≤ a ∧ a < ww) (hb : 1 ≤ b ∧ b < ww) (hc : 1 ≤ c ∧ c < ww) (hx : x < 2 ^ ww) :
    Calls Tryd.prog 53 #[.int .u64 (x : Nat), .int .u64 (ww : Nat), .int .u64 (a : Nat), .int .u64 (b : Nat), .int .u64 (c : Nat), .bool s] w fun e w' => e = .returned (.int .u64 (three ww a b c s x : Nat)) ∧ w = w' := by
  have Ha := Lib.hid (fun w => turn_any x a ww w hw ha.2 ha.1 hx)
  have Hb := Lib.hid (fun w => turn_any x b ww w hw hb.2 hb.1 hx)
  have Hc := Lib.hid (fun w => turn_any x c ww w hw hc.2 hc.1 hx)
  have hM : (2 : Nat) ^ ww ≤ 18446744073709551616 := by rcases hw with rfl | rfl <;> decide
  have la := Nat.lt_of_lt_of_le (rot_lt (w := ww) (n := a) (by omega) hx) hM
  have lb := Nat.lt_of_lt_of_le (rot_lt (w := ww) (n := b) (by omega) hx) hM
  have lc := Nat.lt_of_lt_of_le (rot_lt (w := ww) (n := c) (by omega) hx) hM
  have lx := Nat.lt_of_lt_of_le hx hM
  have hdef : three ww a b c s x = (rot ww a x ^^^ rot ww b x) ^^^ (if s then x / 2 ^ c else rot ww c x) := rfl
  have f00 : min c 64 = c := Nat.min_eq_left (by omega)
  obtain ⟨D, hD⟩ : ∃ D : Nat, 2 ^ c = D := ⟨_, rfl⟩
  have hDi : (2 : Int) ^ c = (D : Int) := by rw [← hD]; push_cast; rfl
  have hp : (2 : Nat) ^ c ≤ 2 ^ 63 := Nat.pow_le_pow_right (by decide) (by omega)
  have hp0 : 0 < (2 : Nat) ^ c := Nat.two_pow_pos _
  rw [hD] at hdef hp hp0
  have f1 : (D : Int) % 18446744073709551616 = (D : Int) := by omega
  have f1' : IntKind.u64.wrap (D : Int) = (D : Int) := IntWalk.u64_in _ (by omega)
  have f2 : ((D : Int) == 0) = false := beq_eq_false_iff_ne.2 (by omega)
  have f2' : ¬ (D : Int) = 0 := by omega
  have f4 : (x : Int).tdiv (D : Int) = ((x / D : Nat) : Int) := by rw [Int.tdiv_eq_ediv_of_nonneg (by omega)]; exact (Int.natCast_ediv _ _).symm
  have f4' : (x : Int) / (D : Int) = ((x / D : Nat) : Int) := (Int.natCast_ediv _ _).symm
  have ld : x / D < 18446744073709551616 := Nat.lt_of_le_of_lt (Nat.div_le_self _ _) lx
  generalize x / D = Q at *
  have f8 : IntKind.u64.wrap (Q : Int) = (Q : Int) := IntWalk.u64_in _ (by omega)
  generalize rot ww a x = A at *
  generalize rot ww b x = B at *
  generalize rot ww c x = C at *
  have x1 := u64_xor_nat A B la lb
  have x2 : bits .xor .u64 ((A ^^^ B : Nat) : Int) (Q : Int) = _ := u64_xor_nat (A ^^^ B) Q (Nat.xor_lt_two_pow (n := 64) la lb) ld
  have x3 : bits .xor .u64 ((A ^^^ B : Nat) : Int) (C : Int) = _ := u64_xor_nat (A ^^^ B) C (Nat.xor_lt_two_pow (n := 64) la lb) lc
  rw [hdef]
  generalize A ^^^ B = E at *
  generalize three ww a b c s x = T at *
  have Hx2 := Lib.hid x2
  clear hdef hw ha hb hc hx hM la lb lc lx hp hp0 ld hD
  cases s
  · simp only [Bool.false_eq_true, if_false]
    generalize E ^^^ C = F at *
    go_enter Tryd.func53, Tryd.ntmps53
    go_wp2_with fail
    refine (Hc.out _).mono ?_
    rintro e w1 ⟨rfl, rfl⟩
    go_wp2_with fail
    refine (Ha.out _).mono ?_
    rintro e w1 ⟨rfl, rfl⟩
    go_wp2_with fail
    refine (Hb.out _).mono ?_
    rintro e w1 ⟨rfl, rfl⟩
    go_wp2_with fail
    go_ret
    exact ⟨rfl, rfl⟩
  · simp only [if_true]
    generalize E ^^^ Q = F at *
    go_enter Tryd.func53, Tryd.ntmps53
    go_wp2_with fail
    refine (Hc.out _).mono ?_
    rintro e w1 ⟨rfl, rfl⟩
    go_wp2_with fail
    refine (Ha.out _).mono ?_
    rintro e w1 ⟨rfl, rfl⟩
    go_wp2_with fail
    refine (Hb.out _).mono ?_
    rintro e w1 ⟨rfl, rfl⟩
    go_wp2_with fail
    go_ret
    exact ⟨rfl, rfl⟩
end Go.Proofs.YtngkelflfahjbaaDoor
