/- The law's own helper: awake. No condition. -/
import Derived.Test.YthhodibfbfmijaaMapL
set_option linter.unusedVariables false
set_option linter.unusedSimpArgs false
namespace Go.Proofs.Ythhodibfbfmijaa
open Go.RowKit
def g17 : Rg := ⟨1073741824, 17, false, false, false, false⟩
theorem pow2_16 : Pow2 16 := ⟨4, rfl⟩
theorem want_16 : wantE 16 16 false false = 0 := by
  unfold wantE
  rw [if_neg]
  · rfl
  · rintro (h | h | h | h | h)
    · omega
    · omega
    · omega
    · omega
    · exact h pow2_16
theorem want_3 : wantE 1 3 false false = 224 := by
  unfold wantE
  rw [if_pos]
  exact Or.inr (Or.inr (Or.inr (Or.inr (pow2_odd 3 (by decide) (by decide)))))
theorem plR_17 : plR [g17] 16 16 false false false = (⟨1073741856, 16, true, false, false, false⟩, 0) := by
  refine plR_some (by decide) want_16 ?_
  have h := seek_low_hit (taken := [g17]) (n := 16) (al := 16) (i := 2) (by decide) (by decide +kernel) (by decide +kernel) (fun j hj => by
    rcases (show j = 0 ∨ j = 1 by omega) with rfl | rfl
    · rintro ⟨_, h⟩; revert h; decide +kernel
    · rintro ⟨_, h⟩; revert h; decide +kernel)
  exact h
theorem plR_3 : plR [] 1 3 false false false = (default, 224) := by
  rw [plR_wrong (by decide) (by rw [want_3]; decide), want_3]
set_option maxHeartbeats 400000 in
theorem awake_any (w : World) :
    Calls Try.prog 9 #[] w fun e w' => e = .returned (.bool true) ∧ Below w.heap.size w w' := by
  have H1 := Lib.hid (place_any (some ⟨w.heap.size, 0, none⟩) 1 1 [g17] 0 16 16 false false false (w.alloc (.cells #[.int .u64 g17.base, .int .u64 g17.size, .bool g17.r, .bool g17.w, .bool g17.x, .bool g17.s] 30)) rfl (by decide) (RdG.new1 w g17 _) (fun g hg => by rw [List.mem_singleton] at hg; subst hg; decide) (by decide))
  have H2 := fun w => Lib.hid (place_any none 0 0 [] 0 1 3 false false false w rfl (by decide) (fun j hj => by simp at hj) (fun g hg => by cases hg) (by decide))
  rw [plR_17] at H1
  rw [plR_3] at H2
  go_enter Try.func9, Try.ntmps9
  go_wp2_with fail
  refine H1.out.mono ?_
  rintro e w1 ⟨rfl, hb1⟩
  have hB1 : Below w.heap.size w w1 := ((Below.refl _ _).alloc (Nat.le_refl _) _).trans (hb1.mono (by simp))
  clear hb1 H1
  unfold rgv
  go_wp2_with fail
  refine (H2 _).out.mono ?_
  rintro e w2 ⟨rfl, hb2⟩
  have hBk := (Blk.new w1 [.int .u64 1073741856, .int .u64 16, .bool true, .bool false, .bool false, .bool false] 30).below hb2
  have hB2 : Below w.heap.size w w2 := (hB1.alloc hB1.size _).trans (hb2.mono (by have := hB1.size; simp; omega))
  have c0 := fun o => (hBk.alloc o).2.1 0 _ rfl
  have c1 := fun o => (hBk.alloc o).2.1 1 _ rfl
  have c2 := fun o => (hBk.alloc o).2.1 2 _ rfl
  have hB3 := hB2.alloc hB2.size
  clear hb2 hBk H2
  unfold rgv
  go_wp2_with fail
  go_ret
  exact ⟨rfl, hB3 _⟩
end Go.Proofs.Ythhodibfbfmijaa
