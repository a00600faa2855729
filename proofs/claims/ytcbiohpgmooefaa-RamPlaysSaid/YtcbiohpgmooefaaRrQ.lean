/- How a script of RAM's ops is opened, with the bulk of each op's bytes. No condition. -/
import Derived.Test.YtcbiohpgmooefaaRmQ
import Derived.Test.YtcbiohpgmooefaaOpenW
set_option linter.unusedVariables false
set_option linter.unusedSimpArgs false
namespace Go.Proofs.Ytcbiohpgmooefaa
open Go.ChangeShapes Go.WideShapes Go.ChangeAt Go.RowKit
theorem or_opened_w {H : Type} {enc : TypeId × Value → H} {W : World} (fuel : Nat) (cs : List Value) (y : DataW H × List MemPlace)
    (h : DataW.trod enc Try.prog W 0 (fun _ => true) true fuel 44 cs = some y) (hl : cs.length = 12) (hz : (DataW.weights Try.prog 44 y.1).all (· ≤ reachBytes) = true) : ∃ o : OpR, cs = orc o ∧ o.Ok W ∧ o.cap ≤ 140737488351232 := by
  obtain ⟨xs, n, _, hx, _, hxl, hh⟩ := DataW.trod_struct Try.underlying44 h
  obtain ⟨c0, c1, c2, c3, c4, c5, c6, c7, c8, c9, c10, c11, rfl⟩ : ∃ c0 c1 c2 c3 c4 c5 c6 c7 c8 c9 c10 c11, cs = [c0, c1, c2, c3, c4, c5, c6, c7, c8, c9, c10, c11] := by
    match cs, hl with
    | [c0, c1, c2, c3, c4, c5, c6, c7, c8, c9, c10, c11], _ => exact ⟨c0, c1, c2, c3, c4, c5, c6, c7, c8, c9, c10, c11, rfl⟩
  obtain ⟨y0, y1, y2, y3, y4, y5, y6, rfl⟩ : ∃ c0 c1 c2 c3 c4 c5 c6, xs = [c0, c1, c2, c3, c4, c5, c6] := by
    match xs, hxl with
    | [c0, c1, c2, c3, c4, c5, c6], _ => exact ⟨c0, c1, c2, c3, c4, c5, c6, rfl⟩
  have k1 : Try.prog.cellsOf 3 = 1 := by kernel_rfl
  have k2 : Try.prog.cellsOf 23 = 1 := by kernel_rfl
  have k3 : Try.prog.cellsOf 4 = 1 := by kernel_rfl
  have k4 : Try.prog.cellsOf 24 = 1 := by kernel_rfl
  have k5 : Try.prog.cellsOf 33 = 6 := by kernel_rfl
  have k6 : Try.prog.cellsOf 42 = 1 := by kernel_rfl
  have h0 := hh 0 _ rfl
  have h1 := hh 1 _ rfl
  have h2 := hh 2 _ rfl
  have h3 := hh 3 _ rfl
  have h4 := hh 4 _ rfl
  have h5 := hh 5 _ rfl
  have h6 := hh 6 _ rfl
  simp [k1, k2, k3, k4, k5, k6] at h0 h1 h2 h3 h4 h5 h6
  obtain ⟨q, rfl, -, -⟩ := trod_i64 Try.underlying3 h0
  obtain ⟨g, hg, hgo⟩ := rg_opened _ _ _ h1 rfl
  simp only [rgc, List.cons.injEq, and_true] at hg
  obtain ⟨rfl, rfl, rfl, rfl, rfl, rfl⟩ := hg
  obtain ⟨s, rfl⟩ := trod_b Try.underlying4 h2
  obtain ⟨a, rfl, -, -⟩ := trod_i64 Try.underlying42 h3
  obtain ⟨x, rfl, hx'⟩ := trod_u64 Try.underlying24 h4
  obtain ⟨z, rfl, hz'⟩ := trod_u64 Try.underlying24 h5
  rw [hx] at hz
  simp only [DataW.weights, Try.underlying44, List.map_cons, List.map_nil, DataW.weightsEach] at hz
  obtain ⟨-, hz1⟩ := all_app hz
  obtain ⟨-, hz2⟩ := all_app hz1
  obtain ⟨-, hz3⟩ := all_app hz2
  obtain ⟨-, hz4⟩ := all_app hz3
  obtain ⟨-, hz5⟩ := all_app hz4
  obtain ⟨-, hz6⟩ := all_app hz5
  obtain ⟨hz7, -⟩ := all_app hz6
  obtain ⟨ao, n', cap, l, rfl, hl', hc, hcap, hr, hnil⟩ := trod_bytes Try.underlying23 Try.underlying5 (by kernel_rfl) (by kernel_rfl) h6 hz7
  subst hl'
  exact ⟨⟨q, g, s, a, x, z, ao, cap, l⟩, rfl, ⟨hgo, hx', hz', hr, hc, by simp only [maxLen]; omega, hnil⟩, hcap⟩
set_option maxRecDepth 100000 in
theorem open_ors_w {H : Type} {enc : TypeId × Value → H} {W : World} {base : Nat} {r : Reach} {v : Value} {d : DataW H} {p : List MemPlace}
    (k : Value.okWide Try.prog W r base 41 v) (h : DataW.Trod enc Try.prog W 0 (fun _ => true) true 41 v d p) (hz : (DataW.weights Try.prog 41 d).all (· ≤ reachBytes) = true) :
    ∃ ao n cap l, v = .slice ao n cap ∧ l.length = n ∧ n ≤ cap ∧ cap * 88 ≤ 140737488351232 ∧ RdS orc 12 W ao l ∧ (ao = none → cap = 0) ∧ ∀ o ∈ l, OpR.Ok W o ∧ o.cap ≤ 140737488351232 :=
  open_structs_w (nb := 88) Try.underlying41 (by kernel_rfl) (by kernel_rfl) (by decide) (fun _ => rfl) or_opened_w k h hz
end Go.Proofs.Ytcbiohpgmooefaa
