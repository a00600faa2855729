/- The law's own apart. No condition. -/
import Derived.Test.YthhodibfbfmijaaMapA
import Derived.StillTailTactics
set_option linter.unusedVariables false
set_option linter.unusedSimpArgs false
namespace Go.Proofs.Ythhodibfbfmijaa
open Go.RowKit
def awayN (a n b m : Nat) : Bool := decide (if a ≤ b then n ≤ b - a else m ≤ a - b)
theorem awayN_ov {a n b m : Nat} (hn : 0 < n) (hm : 0 < m) : ov a n b m = !awayN a n b m := by
  unfold ov awayN
  by_cases h : a ≤ b
  · simp only [if_pos h]
    rw [Bool.eq_iff_iff]; simp; omega
  · simp only [if_neg h]
    rw [Bool.eq_iff_iff]; simp; omega
theorem _root_.Go.RowKit.Below.undrew {B : Nat} {w w' : World} (h : Below B w.drew w') : Below B w w' := ⟨h.os, h.tape, h.output, h.size, h.block⟩
theorem _root_.Go.RowKit.Below.drewN {B : Nat} {w w' : World} (h : Below B w w') (n : Nat) : Below B w (w'.drewN n) := h.trans (Drn.below ⟨n, rfl⟩ _)
theorem apart_any (x y : Rg) (w : World) (hx : x.base < 18446744073709551616) (hy : y.base < 18446744073709551616) :
    Calls Try.prog 14 #[rgv x, rgv y] w fun e w' => e = .returned (.bool (awayN x.base x.size y.base y.size)) ∧ Below w.heap.size w w' := by
  obtain ⟨a, n, r1, w1, x1, s1⟩ := x
  obtain ⟨b, m, r2, w2, x2, s2⟩ := y
  have Hb : ∀ o1 o2, Hid (Below w.heap.size w ((w.alloc o1).alloc o2)) := fun o1 o2 => Lib.hid (((Below.refl _ w).alloc (Nat.le_refl _) o1).alloc (by simp) o2)
  unfold rgv
  simp only at hx hy ⊢
  by_cases hab : a ≤ b
  · have e1 : IntKind.u64.wrap ((b : Int) - (a : Int)) = ((b - a : Nat) : Int) := by rw [IntWalk.u64_in _ (by omega)]; omega
    have HR := Lib.hid (show awayN a n b m = decide (n ≤ b - a) from by simp only [awayN, if_pos hab])
    go_enter Try.func14, Try.ntmps14
    go_wp2
    go_ret
    exact ⟨by rw [HR.out]; first | rfl | (simp; done) | (simp; omega), (Hb _ _).out⟩
  · have e1 : IntKind.u64.wrap ((a : Int) - (b : Int)) = ((a - b : Nat) : Int) := by rw [IntWalk.u64_in _ (by omega)]; omega
    have HR := Lib.hid (show awayN a n b m = decide (m ≤ a - b) from by simp only [awayN, if_neg hab])
    go_enter Try.func14, Try.ntmps14
    go_wp2
    go_ret
    exact ⟨by rw [HR.out]; first | rfl | (simp; done) | (simp; omega), (Hb _ _).out⟩
end Go.Proofs.Ythhodibfbfmijaa
