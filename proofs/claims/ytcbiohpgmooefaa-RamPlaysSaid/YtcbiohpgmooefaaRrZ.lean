/- The document's RAM of noughts. No condition. -/
import Derived.Test.YtcbiohpgmooefaaRmZ
set_option linter.unusedVariables false
set_option linter.unusedSimpArgs false
namespace Go.Proofs.Ytcbiohpgmooefaa
open Go.RowKit
theorem rref_chk : (Try.prog.info? 51).map (fun i => chkZ i.zero) = some true := by kernel_rfl
theorem rref_size : (Try.prog.info? 51).map (·.size) = some 65537 := by kernel_rfl
theorem rref_zero : ∃ i, Try.prog.info? 51 = some i ∧ i.zero = some (.agg (ramC m0 (.slice none 0 0)).toArray) := by
  have h := rref_chk
  cases hi : Try.prog.info? 51 with
  | none => rw [hi] at h; cases h
  | some i =>
    rw [hi] at h
    exact ⟨i, rfl, chk_of (Option.some.inj h)⟩
def buildRef (ps : Array (Nat × Value)) : Sem Value := Instr.build 51 ps
theorem build_rref (ps : Array (Nat × Value)) : Instr.build 51 ps = buildRef ps := rfl
theorem run_buildRef (w : World) : (buildRef #[]).run Try.prog w = .ok (.agg (ramC m0 (.slice none 0 0)).toArray) w := by
  have hz : (zeroValue 51).run Try.prog w = .ok (.agg (ramC m0 (.slice none 0 0)).toArray) w := by
    obtain ⟨i, hi, hz⟩ := rref_zero
    exact run_zero_of hi hz w
  generalize ramC m0 (.slice none 0 0) = z at *
  unfold buildRef Instr.build
  go_simp
  done
end Go.Proofs.Ytcbiohpgmooefaa
