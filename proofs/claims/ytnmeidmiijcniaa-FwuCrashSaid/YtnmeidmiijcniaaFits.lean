/- Fits and Cut: the program's. No condition. -/
import Derived.Test.YtnmeidmiijcniaaByte
set_option linter.unusedVariables false
set_option linter.unusedSimpArgs false
namespace Go.Proofs.Ytnmeidmiijcniaa
open Go.RowKit
def fitsB (f s l : Nat) : Bool := decide (f ≤ l) && decide (s ≤ l - f)
theorem fitsB_true {f s l : Nat} (h : fitsB f s l = true) : f ≤ l ∧ f + s ≤ l := by
  unfold fitsB at h
  rw [Bool.and_eq_true, decide_eq_true_eq, decide_eq_true_eq] at h
  omega
theorem fits_any (f s l : Nat) (w : World) (hf : f < 18446744073709551616) (hs : s < 18446744073709551616) (hl : l < 18446744073709551616) :
    Calls Try.prog 48 #[.int .u64 f, .int .u64 s, .int .u64 l] w fun e w' => e = .returned (.bool (fitsB f s l)) ∧ w = w' := by
  by_cases h : f ≤ l
  · have e1 : IntKind.u64.wrap ((l : Int) - f) = ((l - f : Nat) : Int) := by rw [IntWalk.u64_in _ (by omega)]; omega
    have hr := Lib.hid (show fitsB f s l = decide (s ≤ l - f) by unfold fitsB; rw [decide_eq_true h, Bool.true_and])
    have t1 : decide (f ≤ l) = true := decide_eq_true (by omega)
    clear hf hs hl
    by_cases h2 : s ≤ l - f
    · have t2 : decide (s ≤ l - f) = true := decide_eq_true (by omega)
      have hr2 := Lib.hid (hr.out.trans (decide_eq_true h2))
      generalize l - f = d at *
      clear h h2 hr
      go_enter Try.func48, Try.ntmps48
      go_wp2
      go_ret
      exact ⟨by rw [hr2.out]; rfl, rfl⟩
    · have t2 : decide (s ≤ l - f) = false := decide_eq_false (by omega)
      have hr2 := Lib.hid (hr.out.trans (decide_eq_false h2))
      generalize l - f = d at *
      clear h h2 hr
      go_enter Try.func48, Try.ntmps48
      go_wp2
      go_ret
      exact ⟨by rw [hr2.out]; rfl, rfl⟩
  · have hr := Lib.hid (show fitsB f s l = false by unfold fitsB; rw [decide_eq_false h, Bool.false_and])
    have t1 : decide (f ≤ l) = false := decide_eq_false (by omega)
    clear hf hs hl
    go_enter Try.func48, Try.ntmps48
    go_wp2
    go_ret
    exact ⟨by rw [hr.out]; rfl, rfl⟩
end Go.Proofs.Ytnmeidmiijcniaa
