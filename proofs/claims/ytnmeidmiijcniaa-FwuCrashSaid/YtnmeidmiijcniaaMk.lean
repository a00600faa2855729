/- make([]byte, k), told as a block of noughts. No condition. -/
import Derived.Test.YtnmeidmiijcniaaByte
import Derived.Laws.MakeOwn
set_option linter.unusedVariables false
set_option linter.unusedSimpArgs false
namespace Go.Proofs.Ytnmeidmiijcniaa
open Go.RowKit
theorem run_mk (k : Nat) (hk : k ≤ 1000000) (w : World) : (Instr.makeSlice 27 (.int .i64 (k : Int)) (.int .i64 (k : Int))).run Try.prog w = .ok (.slice (some ⟨w.heap.size, 0, none⟩) k k) (w.alloc (.cells ((List.replicate k (0 : UInt8)).map bv).toArray 5)) := by
  obtain ⟨i, hi, hz0, hz1, hz2⟩ := info_parts byteRow.info
  have h := run_makeSlice (P := Try.prog) w 27 5 i (.int .u8 0) Try.underlying27 hi hz0 .i64 .i64 (k : Int) (k : Int) (by omega) (Int.le_refl _) (by rw [hz1]; omega) (by rw [hz2]; omega) (by omega)
  have e : madeCells (Value.int .u8 0).cells (k * 1) = ((List.replicate k (0 : UInt8)).map bv).toArray := by
    apply Array.ext'
    rw [Nat.mul_one, show (Value.int .u8 0).cells = #[Value.int .u8 0] from rfl, toList_madeCells_one, List.map_replicate]
    rfl
  rw [hz1, Int.toNat_natCast, e] at h
  exact h
end Go.Proofs.Ytnmeidmiijcniaa
