/- No fuses; the law's alive and pick. No condition. -/
import Derived.Test.YtnaffffeaakhcaaFz
set_option linter.unusedVariables false
set_option linter.unusedSimpArgs false
namespace Go.Proofs.Ytnaffffeaakhcaa
open Go.RowKit
theorem read_nil (i : Int) (w : World) : Calls Try.prog 16 #[.pointer none, .int .i64 i] w fun e w' => e = .returned (.tuple #[.int .u8 0, .bool false, .int .i64 1]) ∧ w = w' := by
  go_enter Try.func16, Try.ntmps16
  go_wp2_with fail
  refine (has_nil _ _ _).mono ?_
  rintro e w' ⟨rfl, rfl⟩
  go_wp2_with fail
  go_ret3
  exact ⟨rfl, rfl⟩
theorem counter_nil (i : Int) (w : World) : Calls Try.prog 17 #[.pointer none, .int .i64 i] w fun e w' => e = .returned (.tuple #[.int .u32 0, .int .i64 1]) ∧ w = w' := by
  go_enter Try.func17, Try.ntmps17
  go_wp2_with fail
  refine (has_nil _ _ _).mono ?_
  rintro e w' ⟨rfl, rfl⟩
  go_wp2_with fail
  go_ret2
  exact ⟨rfl, rfl⟩
theorem burn_nil (i : Int) (v : UInt8) (w : World) : Calls Try.prog 9 #[.pointer none, .int .i64 i, .int .u8 v.toNat] w fun e w' => e = .returned (.int .i64 1) ∧ w = w' := by
  go_enter Try.func9, Try.ntmps9
  go_wp2_with fail
  refine (has_nil _ _ _).mono ?_
  rintro e w' ⟨rfl, rfl⟩
  go_wp2_with fail
  go_ret
  exact ⟨rfl, rfl⟩
theorem raise_nil (i x : Int) (w : World) : Calls Try.prog 11 #[.pointer none, .int .i64 i, .int .u32 x] w fun e w' => e = .returned (.int .i64 1) ∧ w = w' := by
  go_enter Try.func11, Try.ntmps11
  go_wp2_with fail
  refine (has_nil _ _ _).mono ?_
  rintro e w' ⟨rfl, rfl⟩
  go_wp2_with fail
  go_ret
  exact ⟨rfl, rfl⟩
theorem row_nil (i n : Int) (w : World) : Calls Try.prog 13 #[.pointer none, .int .i64 i, .int .i64 n] w fun e w' => e = .returned (.tuple #[.slice none 0 0, .bool false, .int .i64 1]) ∧ w = w' := by
  go_enter Try.func13, Try.ntmps13
  go_wp2_with fail
  go_ret3
  exact ⟨rfl, rfl⟩
theorem copy_nil (w : World) : Calls Try.prog 8 #[.pointer none] w fun e w' => e = .returned (.pointer none) ∧ w = w' := by
  go_enter Try.func8, Try.ntmps8
  go_wp2_with fail
  go_ret
  exact ⟨rfl, rfl⟩
theorem zero_ok : Fz.zero.Ok := ⟨by decide, by decide, rfl, by decide⟩
theorem alive_any (w : World) : Calls Try.prog 7 #[] w fun e w' => e = .returned (.bool true) ∧ Below w.heap.size w w' := by
  have hN := Lib.hid (HB.new w Fz.zero.cellsA 53)
  have hB := Lib.hid ((Below.refl _ w).alloc (Nat.le_refl _) (.cells Fz.zero.cellsA.toArray 53))
  have h1 := fun w1 h => Lib.hid (burn_any w.heap.size Fz.zero 0 7 w1 h zero_ok)
  have e1 : burnR Fz.zero 0 7 = (Fz.zero.burn 0 7, 0) := by kernel_rfl
  simp only [e1] at h1
  have ho1 : (Fz.zero.burn 0 7).Ok := zero_ok.burn (by omega) 7
  have h2 := fun w1 h => Lib.hid (burn_any w.heap.size (Fz.zero.burn 0 7) 0 7 w1 h ho1)
  have e2 : burnR (Fz.zero.burn 0 7) 0 7 = (Fz.zero.burn 0 7, 151) := by kernel_rfl
  simp only [e2] at h2
  have h3 := fun w1 h => Lib.hid (read_any w.heap.size (Fz.zero.burn 0 7) 0 w1 h ho1)
  have e3 : readR (Fz.zero.burn 0 7) 0 = (7, true, 0) := by decide +kernel
  simp only [e3] at h3
  clear e1 e2 e3 ho1
  generalize Fz.zero.burn 0 7 = f1 at *
  generalize hw0 : w.alloc (.cells Fz.zero.cellsA.toArray 53) = w0 at *
  have Hw0 := Lib.hid hw0
  clear hw0
  unfold bv at *
  go_enter Try.func7, Try.ntmps7
  go_wp2_with fail
  refine (new_any _).mono ?_
  rintro e w' ⟨rfl, rfl⟩
  rw [Hw0.out]
  go_wp2_with fail
  refine (h1 _ hN.out).out.mono ?_
  rintro e w2 ⟨rfl, hh2, hg2⟩
  go_wp2_with fail
  refine (h2 _ hh2).out.mono ?_
  rintro e w3 ⟨rfl, hh3, hg3⟩
  go_wp2_with fail
  refine (h3 _ hh3).out.mono ?_
  rintro e w4 ⟨rfl, hd4⟩
  have hB4 : Below w.heap.size w w4 := ((hB.out.grown hg2 hB.out.size (by intro k hk; cases hk; exact Nat.le_refl _)).grown hg3 (Nat.le_trans hB.out.size hg2.size) (by intro k hk; cases hk; exact Nat.le_refl _)).trans (hd4.below _)
  clear hg2 hg3 hd4 hh2 hh3 hN hB
  go_wp2_with fail
  go_ret
  exact ⟨rfl, hB4⟩
/-- which of n things a raw number speaks of -/
def pickN (c : Int) (n : Int) : Int := (if c < 0 then -(c + 1) else c) % n
theorem pick_any (c n : Int) (w : World) (h0 : -9223372036854775808 ≤ c) (h1 : c ≤ 9223372036854775807) (hn : 0 < n) (hn1 : n ≤ 9223372036854775807) :
    Calls Try.prog 10 #[.int .i64 c, .int .i64 n] w fun e w' => e = .returned (.int .i64 (pickN c n)) ∧ w = w' := by
  unfold pickN
  by_cases hc : c < 0
  · rw [if_pos hc]
    have t1 : (-(c + 1)).tmod n = (-(c + 1)) % n := Int.tmod_eq_emod_of_nonneg (by omega)
    have t2 : (n == 0) = false := by rw [beq_eq_false_iff_ne]; omega
    go_enter Try.func10, Try.ntmps10
    go_wp2_with fail
    go_ret
    exact ⟨rfl, rfl⟩
  · rw [if_neg hc]
    have t1 : c.tmod n = c % n := Int.tmod_eq_emod_of_nonneg (by omega)
    go_enter Try.func10, Try.ntmps10
    go_wp2_with fail
    go_ret
    exact ⟨rfl, rfl⟩
theorem pickN_nonneg {c n : Int} (hn : 0 < n) : 0 ≤ pickN c n := Int.emod_nonneg _ (by omega)
theorem pickN_lt {c n : Int} (hn : 0 < n) : pickN c n < n := Int.emod_lt_of_pos _ hn
end Go.Proofs.Ytnaffffeaakhcaa
