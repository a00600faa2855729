/- RAM of noughts. No condition. -/
import Derived.Test.YtcbiohpgmooefaaRmM
set_option linter.unusedVariables false
set_option linter.unusedSimpArgs false
namespace Go.Proofs.Ytcbiohpgmooefaa
open Go.RowKit
def isNought : Value → Bool
  | .int .u8 0 => true
  | _ => false
def isNil : Value → Bool
  | .slice none 0 0 => true
  | _ => false
def isNils : List Value → Bool
  | [x] => isNil x
  | _ => false
def chkL (l : List Value) : Bool := (l.take 65536).all isNought && isNils (l.drop 65536)
def chkZ : Option Value → Bool
  | some (.agg z) => chkL z.toList
  | _ => false
theorem ram_chk : (Try.prog.info? 60).map (fun i => chkZ i.zero) = some true := by kernel_rfl
def m0 : List UInt8 := List.replicate 65536 0
theorem m0_len : m0.length = 65536 := List.length_replicate ..
theorem nought_of {v : Value} (h : isNought v = true) : v = bv 0 := by
  unfold isNought at h
  split at h
  · rfl
  · cases h
theorem nil_of {v : Value} (h : isNil v = true) : v = .slice none 0 0 := by
  unfold isNil at h
  split at h
  · rfl
  · cases h
theorem nils_of {l : List Value} (h : isNils l = true) : l = [.slice none 0 0] := by
  unfold isNils at h
  split at h
  · rw [nil_of h]
  · cases h
theorem chk_of {o : Option Value} (h : chkZ o = true) : o = some (.agg (ramC m0 (.slice none 0 0)).toArray) := by
  unfold chkZ at h
  split at h
  · rename_i z
    obtain ⟨l⟩ := z
    simp only at h
    unfold chkL at h
    rw [Bool.and_eq_true] at h
    obtain ⟨h1, h2⟩ := h
    have h3 := nils_of h2
    have h5 : l.length - 65536 = 1 := by rw [← List.length_drop, h3]; rfl
    have h4 : l.take 65536 = List.replicate 65536 (bv 0) := List.eq_replicate_iff.2 ⟨by rw [List.length_take]; omega, fun b hb => nought_of (List.all_eq_true.1 h1 b hb)⟩
    rw [← List.take_append_drop 65536 l, h3, h4]
    unfold ramC m0
    rw [List.map_replicate]
  · cases h
theorem ram_zero : ∃ i, Try.prog.info? 60 = some i ∧ i.zero = some (.agg (ramC m0 (.slice none 0 0)).toArray) := by
  have h := ram_chk
  cases hi : Try.prog.info? 60 with
  | none => rw [hi] at h; cases h
  | some i =>
    rw [hi] at h
    exact ⟨i, rfl, chk_of (Option.some.inj h)⟩
theorem run_zero_of {P : Program} {T : TypeId} {z : Value} {i : TypeInfo} (hi : P.info? T = some i) (hz : i.zero = some z) (w : World) : (zeroValue T).run P w = .ok z w := by
  unfold zeroValue typeInfo
  go_simp
  done
theorem run_zero (w : World) : (zeroValue 60).run Try.prog w = .ok (.agg (ramC m0 (.slice none 0 0)).toArray) w := by
  obtain ⟨i, hi, hz⟩ := ram_zero
  exact run_zero_of hi hz w
def buildRam (ps : Array (Nat × Value)) : Sem Value := Instr.build 60 ps
theorem build_ram (ps : Array (Nat × Value)) : Instr.build 60 ps = buildRam ps := rfl
theorem run_buildRam (w : World) : (buildRam #[]).run Try.prog w = .ok (.agg (ramC m0 (.slice none 0 0)).toArray) w := by
  have hz := run_zero w
  generalize ramC m0 (.slice none 0 0) = z at *
  unfold buildRam Instr.build
  go_simp
  done
end Go.Proofs.Ytcbiohpgmooefaa
