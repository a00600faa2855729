/- The head of the octets' statements: alive. No condition. -/
import Derived.Test.YtdkjkdlpkjklmaaHex
import Derived.Test.YtdkjkdlpkjklmaaGet
set_option linter.unusedVariables false
set_option linter.unusedSimpArgs false
namespace Go.Proofs.Ytdkjkdlpkjklmaa
open Go.RowKit
set_option maxHeartbeats 400000 in
theorem alive_any (w : World) :
    Calls Try.prog 16 #[] w fun e w' => e = .returned (.bool true) ∧ Below w.heap.size w w' := by
  have hg := Lib.hid (get_ok (some ⟨w.heap.size, 0, none⟩) 3 3 1 2 [1, 2, 3] true (w.alloc (.cells ([1, 2, 3].map bv).toArray 5)) rfl (by decide) (Rd.new w [1, 2, 3] _ _) (by unfold SizeOk; omega) (by decide))
  have hv : (((getN [1, 2, 3] 1 2 true : Nat) : Int) == 515) = true := by decide +kernel
  go_enter Try.func16, Try.ntmps16
  go_wp2_with fail
  refine hg.out.mono ?_
  rintro e w1 ⟨rfl, hd⟩
  go_wp2_with fail
  have hh := hd.heap
  refine (hex_any (some ⟨w1.heap.size, 0, none⟩) 1 1 [175] (w1.alloc (.cells ([175].map bv).toArray 5)) rfl (by decide) (Rd.new w1 [175] _ _)).mono ?_
  rintro e w2 ⟨rfl, hb⟩
  have he : hexL [175] = [97, 102] := by decide +kernel
  rw [he]
  go_wp2_with fail
  go_ret
  have hb1 : Below w.heap.size w w1 := ((Below.refl _ _).alloc (Nat.le_refl _) _).trans (hd.below _)
  exact ⟨rfl, (hb1.alloc hb1.size _).trans (hb.mono (by have := hb1.size; simp; omega))⟩
end Go.Proofs.Ytdkjkdlpkjklmaa
