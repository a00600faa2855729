/- How a script of ops is opened. No condition. -/
import Derived.Test.YtnaffffeaakhcaaFzS
import Derived.Test.YtnaffffeaakhcaaOpenS
set_option linter.unusedVariables false
set_option linter.unusedSimpArgs false
namespace Go.Proofs.Ytnaffffeaakhcaa
open Go.ChangeShapes Go.WideShapes Go.ChangeAt Go.RowKit
theorem op_cells {H : Type} {enc : TypeId × Value → H} {W : World} (fuel : Nat) (cs : List Value) (y : DataW H × List MemPlace)
    (h : DataW.trod enc Try.prog W 0 (fun _ => true) true fuel 34 cs = some y) (hl : cs.length = 5) :
    ∃ o : OpZ, cs = ocells o ∧ o.Ok := by
  obtain ⟨xs, n, _, _, _, hxl, hh⟩ := DataW.trod_struct Try.underlying34 h
  obtain ⟨c0, c1, c2, c3, c4, rfl⟩ := lst5 hl
  obtain ⟨y0, y1, y2, y3, y4, rfl⟩ := lst5 (hxl.trans rfl)
  have k1 : Try.prog.cellsOf 3 = 1 := by kernel_rfl
  have k2 : Try.prog.cellsOf 5 = 1 := by kernel_rfl
  have k3 : Try.prog.cellsOf 28 = 1 := by kernel_rfl
  have h0 := hh 0 _ rfl
  have h1 := hh 1 _ rfl
  have h2 := hh 2 _ rfl
  have h3 := hh 3 _ rfl
  have h4 := hh 4 _ rfl
  simp [k1, k2, k3] at h0 h1 h2 h3 h4
  obtain ⟨q, rfl, q0, q1⟩ := trod_i64 Try.underlying3 h0
  obtain ⟨i, rfl, i0, i1⟩ := trod_i64 Try.underlying3 h1
  obtain ⟨n, rfl, n0, n1⟩ := trod_i64 Try.underlying3 h2
  obtain ⟨v, rfl⟩ := trod_u8 Try.underlying5 h3
  obtain ⟨c, rfl, hc⟩ := trod_u32 Try.underlying28 h4
  exact ⟨⟨q, i, n, v, c⟩, rfl, ⟨i0, i1, n0, n1, hc⟩⟩
theorem open_script {H : Type} {enc : TypeId × Value → H} {W : World} {base : Nat} {r : Reach} {v : Value} {d : DataW H} {p : List MemPlace}
    (k : Value.okWide Try.prog W r base 22 v) (h : DataW.Trod enc Try.prog W 0 (fun _ => true) true 22 v d p) (hz : (DataW.weights Try.prog 22 d).all (· ≤ reachBytes) = true) :
    ∃ ao n cap l, v = .slice ao n cap ∧ l.length = n ∧ n ≤ cap ∧ cap * 32 ≤ 140737488351232 ∧ RdS ocells 5 W ao l ∧ (ao = none → cap = 0) ∧ ∀ o ∈ l, OpZ.Ok o :=
  open_structs Try.underlying22 (by kernel_rfl) (by kernel_rfl) (by decide) (fun _ => rfl) op_cells k h hz
end Go.Proofs.Ytnaffffeaakhcaa
