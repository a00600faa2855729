/- What a tied row's condition gives the walks of chapter 2: the table of constants. No condition. -/
import Derived.Test.YtngkelflfahjbaaDoorRows
import Derived.Test.YtngkelflfahjbaaDoorCards
import Derived.Test.YtngkelflfahjbaaDoorTie
import Derived.Test.YtngkelflfahjbaaDoorShaK
import Derived.SevenTiedAt
import Derived.ProofKit
import Derived.LaidMore
import Derived.OpenShut
import Derived.Stop.Joined
import Derived.Lib.LaidTab
namespace Go.Proofs.YtngkelflfahjbaaDoor
open Go.ChangeShapes Go.WideShapes Go.ChangeAt Go.RowKit
theorem own : ownKnob Tryd.prog.godebug = none := by kernel_rfl
theorem laidOut : laidOutB Tryd.prog = true := by kernel_rfl
def laidL : List (String × DataW Unit) := [("barbican/sha2.constants", Rows.laid_barbican_sha2_constants)]
theorem gCons : Tryd.prog.globalNamed "barbican/sha2.constants" = some 0 := by kernel_rfl
theorem tCons : (Tryd.prog.globals[0]?).map (·.type) = some 84 := by kernel_rfl
theorem tab_of_laid {W : World} (h : laidMetH Tryd.prog laidL W) : TabOk W ∧ 0 < W.heap.size := by
  rw [MakeChecks.laidMetH_plain _ _ _ (by kernel_rfl)] at h
  have e : laidL = ("barbican/sha2.constants", Lib.tabData .u64 (cons64.map fun (n : Nat) => (n : Int))) :: [] := by
    unfold laidL Rows.laid_barbican_sha2_constants Lib.tabData
    rw [List.map_map]
    rfl
  rw [e] at h
  have ht := Lib.tabIs_of_head (e := 37) gCons tCons Tryd.underlying84 Tryd.underlying37 (by kernel_rfl) (by kernel_rfl) h
  have hlen : (cons64.map fun (n : Nat) => (n : Int)).length = 80 := by rw [List.length_map]; rfl
  have hT : TabOk W := fun i hi => by
    have := ht.cell gCons i (by omega)
    rw [this]
    have hi' : i < cons64.length := by have : cons64.length = 80 := rfl; omega
    simp [List.getD, hi']
  exact ⟨hT, by
    have h0 := hT 0 (by omega)
    rcases Nat.eq_zero_or_pos W.heap.size with hz | hz
    · exfalso
      have : W.heap[0]? = none := by simp [hz]
      simp [World.cell?, this] at h0
    · exact hz⟩
end Go.Proofs.YtngkelflfahjbaaDoor
