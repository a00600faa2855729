/- pick of the laws of chapter 23. No condition. -/
import Derived.Test.YtnmeidmiijcniaaBM
set_option linter.unusedVariables false
set_option linter.unusedSimpArgs false
namespace Go.Proofs.Ytnmeidmiijcniaa
open Go.RowKit
def pickN (c : Int) (n : Int) : Int := (if c < 0 then -(c + 1) else c) % n
theorem pick_any (c n : Int) (w : World) (h : I64 c) (hn : 0 < n) (hn1 : n ≤ 9223372036854775807) :
    Calls Try.prog 15 #[.int .i64 c, .int .i64 n] w fun e w' => e = .returned (.int .i64 (pickN c n)) ∧ w = w' := by
  obtain ⟨h0, h1⟩ := h
  unfold pickN
  by_cases hc : c < 0
  · rw [if_pos hc]
    have t1 : (-(c + 1)).tmod n = (-(c + 1)) % n := Int.tmod_eq_emod_of_nonneg (by omega)
    have t2 : (n == 0) = false := by rw [beq_eq_false_iff_ne]; omega
    go_enter Try.func15, Try.ntmps15
    go_wp2_with fail
    go_ret
    exact ⟨rfl, rfl⟩
  · rw [if_neg hc]
    have t1 : c.tmod n = c % n := Int.tmod_eq_emod_of_nonneg (by omega)
    go_enter Try.func15, Try.ntmps15
    go_wp2_with fail
    go_ret
    exact ⟨rfl, rfl⟩
theorem pickN_nonneg {c n : Int} (hn : 0 < n) : 0 ≤ pickN c n := Int.emod_nonneg _ (by omega)
theorem pickN_lt {c n : Int} (hn : 0 < n) : pickN c n < n := Int.emod_lt_of_pos _ hn
end Go.Proofs.Ytnmeidmiijcniaa
