/- The small functions of memmap and of the document's chapter 22: overlap, inside, wrong. No condition. -/
import Derived.Test.YthhodibfbfmijaaProg
import Derived.Test.YthhodibfbfmijaaMapN
set_option linter.unusedVariables false
set_option linter.unusedSimpArgs false
namespace Go.Proofs.Ythhodibfbfmijaa
open Go.RowKit
def pc (b n : Nat) : Value := .agg #[.int .u64 b, .int .u64 n]
theorem ov_le {a b : Nat} (n m : Nat) (h : a ≤ b) : ov a n b m = decide (0 < n ∧ 0 < m ∧ b - a < n) := by simp only [ov, if_pos h]
theorem ov_gt {a b : Nat} (n m : Nat) (h : ¬ a ≤ b) : ov a n b m = decide (0 < n ∧ 0 < m ∧ a - b < m) := by simp only [ov, if_neg h]
theorem overlap_any (a n b m : Nat) (w : World) (ha : a < 18446744073709551616) (hb : b < 18446744073709551616) :
    Calls Try.prog 30 #[pc a n, pc b m] w fun e w' => e = .returned (.bool (ov a n b m)) ∧ Below w.heap.size w w' := by
  have Hb : ∀ o1 o2, Hid (Below w.heap.size w ((w.alloc o1).alloc o2)) := fun o1 o2 => Lib.hid (((Below.refl _ w).alloc (Nat.le_refl _) o1).alloc (by simp) o2)
  unfold pc
  by_cases hab : a ≤ b
  · have e1 : IntKind.u64.wrap ((b : Int) - (a : Int)) = ((b - a : Nat) : Int) := by rw [IntWalk.u64_in _ (by omega)]; omega
    by_cases h1 : 0 < m
    · by_cases h2 : b - a < n
      · have HR := Lib.hid (show ov a n b m = true from by rw [ov_le n m hab]; exact decide_eq_true ⟨by omega, h1, h2⟩)
        go_enter Try.func30, Try.ntmps30
        go_wp2
        go_ret
        exact ⟨by rw [HR.out]; rfl, (Hb _ _).out⟩
      · have HR := Lib.hid (show ov a n b m = false from by rw [ov_le n m hab]; exact decide_eq_false (fun h => h2 h.2.2))
        go_enter Try.func30, Try.ntmps30
        go_wp2
        go_ret
        exact ⟨by rw [HR.out]; rfl, (Hb _ _).out⟩
    · have HR := Lib.hid (show ov a n b m = false from by rw [ov_le n m hab]; exact decide_eq_false (fun h => h1 h.2.1))
      go_enter Try.func30, Try.ntmps30
      go_wp2
      go_ret
      exact ⟨by rw [HR.out]; rfl, (Hb _ _).out⟩
  · have e1 : IntKind.u64.wrap ((a : Int) - (b : Int)) = ((a - b : Nat) : Int) := by rw [IntWalk.u64_in _ (by omega)]; omega
    have hlt : b < a := by omega
    by_cases h1 : 0 < n
    · by_cases h2 : a - b < m
      · have HR := Lib.hid (show ov a n b m = true from by rw [ov_gt n m hab]; exact decide_eq_true ⟨h1, by omega, h2⟩)
        go_enter Try.func30, Try.ntmps30
        go_wp2
        go_ret
        exact ⟨by rw [HR.out]; rfl, (Hb _ _).out⟩
      · have HR := Lib.hid (show ov a n b m = false from by rw [ov_gt n m hab]; exact decide_eq_false (fun h => h2 h.2.2))
        go_enter Try.func30, Try.ntmps30
        go_wp2
        go_ret
        exact ⟨by rw [HR.out]; rfl, (Hb _ _).out⟩
    · have HR := Lib.hid (show ov a n b m = false from by rw [ov_gt n m hab]; exact decide_eq_false (fun h => h1 h.1))
      go_enter Try.func30, Try.ntmps30
      go_wp2
      go_ret
      exact ⟨by rw [HR.out]; rfl, (Hb _ _).out⟩
theorem roverlap_any (a n b m : Nat) (w : World) (ha : a < 18446744073709551616) (hb : b < 18446744073709551616) :
    Calls Try.prog 38 #[.int .u64 a, .int .u64 n, .int .u64 b, .int .u64 m] w fun e w' => e = .returned (.bool (ov a n b m)) ∧ w = w' := by
  by_cases hn : n = 0
  · have HR := Lib.hid (show ov a n b m = false from by subst hn; simp [ov])
    subst hn
    go_enter Try.func38, Try.ntmps38
    go_wp2
    go_ret
    exact ⟨by rw [HR.out]; rfl, rfl⟩
  have t1 : ((n : Int) == 0) = false := by rw [beq_eq_false_iff_ne]; omega
  by_cases hm : m = 0
  · have HR := Lib.hid (show ov a n b m = false from by subst hm; simp [ov])
    subst hm
    go_enter Try.func38, Try.ntmps38
    go_wp2
    go_ret
    exact ⟨by rw [HR.out]; rfl, rfl⟩
  have t2 : ((m : Int) == 0) = false := by rw [beq_eq_false_iff_ne]; omega
  by_cases hab : a ≤ b
  · have e1 : IntKind.u64.wrap ((b : Int) - (a : Int)) = ((b - a : Nat) : Int) := by rw [IntWalk.u64_in _ (by omega)]; omega
    have HR := Lib.hid (show ov a n b m = decide (b - a < n) from by rw [ov_le n m hab]; exact decide_eq_decide.2 ⟨fun h => h.2.2, fun h => ⟨by omega, by omega, h⟩⟩)
    go_enter Try.func38, Try.ntmps38
    go_wp2
    go_ret
    exact ⟨by rw [HR.out]; first | rfl | (simp; done) | (simp; omega), rfl⟩
  · have e1 : IntKind.u64.wrap ((a : Int) - (b : Int)) = ((a - b : Nat) : Int) := by rw [IntWalk.u64_in _ (by omega)]; omega
    have HR := Lib.hid (show ov a n b m = decide (a - b < m) from by rw [ov_gt n m hab]; exact decide_eq_decide.2 ⟨fun h => h.2.2, fun h => ⟨by omega, by omega, h⟩⟩)
    go_enter Try.func38, Try.ntmps38
    go_wp2
    go_ret
    exact ⟨by rw [HR.out]; first | rfl | (simp; done) | (simp; omega), rfl⟩
theorem inside_any (b n : Nat) (w : World) (hb : b < 18446744073709551616) :
    Calls Try.prog 27 #[pc b n] w fun e w' => e = .returned (.bool (inR b n)) ∧ Below w.heap.size w w' := by
  have Hb : ∀ o1, Hid (Below w.heap.size w (w.alloc o1)) := fun o1 => Lib.hid ((Below.refl _ w).alloc (Nat.le_refl _) o1)
  unfold pc
  have HD : ∀ p : Bool, (p = true ↔ (1073741824 ≤ b ∧ b < 1073807360 ∧ 0 < n ∧ b + n ≤ 1073807360)) → inR b n = p := fun p h => by
    unfold inR; cases p
    · exact decide_eq_false (fun h' => by have := h.2 h'; cases this)
    · exact decide_eq_true (h.1 rfl)
  have HF : ¬ (1073741824 ≤ b ∧ b < 1073807360 ∧ 0 < n ∧ b + n ≤ 1073807360) → inR b n = false := fun h => HD false ⟨fun h' => (by cases h'), fun h' => absurd h' h⟩
  by_cases h1 : (1073741824 : Int) ≤ b
  · by_cases h2 : (b : Int) < 1073807360
    · obtain ⟨d, hd⟩ : ∃ d : Nat, (1073807360 : Int) - (b : Int) = (d : Int) := ⟨(1073807360 - (b : Int)).toNat, by omega⟩
      have e2 : IntKind.u64.wrap ((1073807360 : Int) - (b : Int)) = (d : Int) := by rw [IntWalk.u64_in _ (by omega)]; exact hd
      have Hd := Lib.hid hd
      clear hd
      generalize hB : (b : Int) = B at *
      have HB := Lib.hid hB
      clear hB
      by_cases h3 : n = 0
      · have HR := Lib.hid (HF (fun h => by omega))
        clear HD HF
        subst h3
        go_enter Try.func27, Try.ntmps27
        go_wp2
        go_ret
        exact ⟨by rw [HR.out]; rfl, (Hb _).out⟩
      · have t1 : ((n : Int) == 0) = false := by rw [beq_eq_false_iff_ne]; omega
        have h3' : (0 : Int) < n := by omega
        by_cases h4 : n ≤ d
        · have HR := Lib.hid (HD true ⟨fun _ => ⟨by have := HB.out; omega, by have := HB.out; omega, by omega, by have := HB.out; have := Hd.out; omega⟩, fun _ => rfl⟩)
          clear HD HF
          go_enter Try.func27, Try.ntmps27
          go_wp2
          go_ret
          exact ⟨by rw [HR.out]; first | rfl | (simp; done) | (simp; omega), (Hb _).out⟩
        · have HR := Lib.hid (HF (fun h => by have := HB.out; have := Hd.out; omega))
          clear HD HF
          go_enter Try.func27, Try.ntmps27
          go_wp2
          go_ret
          exact ⟨by rw [HR.out]; first | rfl | (simp; done) | (simp; omega), (Hb _).out⟩
    · have HR := Lib.hid (HF (fun h => by omega))
      clear HD HF
      generalize (b : Int) = B at *
      go_enter Try.func27, Try.ntmps27
      go_wp2
      go_ret
      exact ⟨by rw [HR.out]; rfl, (Hb _).out⟩
  · have HR := Lib.hid (HF (fun h => by omega))
    clear HD HF
    generalize (b : Int) = B at *
    go_enter Try.func27, Try.ntmps27
    go_wp2
    go_ret
    exact ⟨by rw [HR.out]; rfl, (Hb _).out⟩
theorem rin_run (B N D : Int) (r : Bool) (w : World) (e2 : IntKind.u64.wrap (1073807360 - B) = D) (hr : r = (decide (1073741824 ≤ B) && decide (B < 1073807360) && !decide (N = 0) && decide (N ≤ D))) :
    Calls Try.prog 32 #[.int .u64 B, .int .u64 N] w fun e w' => e = .returned (.bool r) ∧ w = w' := by
  have HR := Lib.hid hr
  clear hr
  by_cases h1 : (1073741824 : Int) ≤ B
  · by_cases h2 : B < 1073807360
    · by_cases h3 : N = 0
      · rw [decide_eq_true h1, decide_eq_true h2, decide_eq_true h3] at HR
        subst h3
        go_enter Try.func32, Try.ntmps32
        go_wp2
        go_ret
        exact ⟨by rw [HR.out]; rfl, rfl⟩
      · have t1 : (N == 0) = false := by rw [beq_eq_false_iff_ne]; exact h3
        rw [decide_eq_true h1, decide_eq_true h2, decide_eq_false h3] at HR
        by_cases h4 : N ≤ D
        · rw [decide_eq_true h4] at HR
          go_enter Try.func32, Try.ntmps32
          go_wp2
          go_ret
          exact ⟨by rw [HR.out]; first | rfl | (simp; done) | (simp; omega), rfl⟩
        · rw [decide_eq_false h4] at HR
          go_enter Try.func32, Try.ntmps32
          go_wp2
          go_ret
          exact ⟨by rw [HR.out]; first | rfl | (simp; done) | (simp; omega), rfl⟩
    · rw [decide_eq_true h1, decide_eq_false h2] at HR
      go_enter Try.func32, Try.ntmps32
      go_wp2
      go_ret
      exact ⟨by rw [HR.out]; rfl, rfl⟩
  · rw [decide_eq_false h1] at HR
    go_enter Try.func32, Try.ntmps32
    go_wp2
    go_ret
    exact ⟨by rw [HR.out]; rfl, rfl⟩
theorem rin_any (b n : Nat) (w : World) :
    Calls Try.prog 32 #[.int .u64 b, .int .u64 n] w fun e w' => e = .returned (.bool (inR b n)) ∧ w = w' := by
  by_cases hb : 1073741824 ≤ b ∧ b < 1073807360
  · refine rin_run b n (1073807360 - (b : Int)) _ w (IntWalk.u64_in _ (by omega)) ?_
    unfold inR
    rw [Bool.eq_iff_iff]
    simp only [decide_eq_true_eq, Bool.and_eq_true, Bool.not_eq_true', decide_eq_false_iff_not]
    omega
  · refine rin_run b n _ _ w rfl ?_
    unfold inR
    rw [Bool.eq_iff_iff]
    simp only [decide_eq_true_eq, Bool.and_eq_true, Bool.not_eq_true', decide_eq_false_iff_not]
    omega
end Go.Proofs.Ythhodibfbfmijaa
