/- How arguments that are metadata are opened. No condition. -/
import Derived.Test.YtnmeidmiijcniaaFwM
import Derived.Test.YtnmeidmiijcniaaBM
import Derived.Test.YtnmeidmiijcniaaOpen
set_option linter.unusedVariables false
set_option linter.unusedSimpArgs false
namespace Go.Proofs.Ytnmeidmiijcniaa
open Go.RowKit Go.ChangeShapes Go.WideShapes Go.ChangeAt
structure Me.Ok (m : Me) : Prop where
  s : m.seq < 4294967296
  x : I64 m.b0
  y : I64 m.b1
  a : I64 m.act
  t : I64 m.tries
theorem pair_cells {H : Type} {enc : TypeId × Value → H} {W : World} {T E fuel : Nat} {a b : Value} {y : DataW H × List MemPlace}
    (hu : Try.prog.underlying T = some (.array 2 E)) (he : Try.prog.underlying E = some (.int .i64)) (hc : Try.prog.cellsOf E = 1)
    (h : DataW.trod enc Try.prog W 0 (fun _ => true) true fuel T [a, b] = some y) :
    ∃ x z : Int, a = .int .i64 x ∧ b = .int .i64 z ∧ I64 x ∧ I64 z := by
  obtain ⟨xs, n, _, _, _, hxl, hh⟩ := DataW.trod_array hu h
  rw [hc] at hh
  have h0 := hh 0 (by decide)
  have h1 := hh 1 (by decide)
  rw [List.getElem?_eq_getElem (show 0 < xs.length by omega)] at h0
  rw [List.getElem?_eq_getElem (show 1 < xs.length by omega)] at h1
  obtain ⟨x, rfl, hx, hx'⟩ := trod_i64 he (c := a) h0
  obtain ⟨z, rfl, hz, hz'⟩ := trod_i64 he (c := b) h1
  exact ⟨x, z, rfl, rfl, ⟨hx, hx'⟩, ⟨hz, hz'⟩⟩
set_option maxRecDepth 100000 in
theorem me_cells {H : Type} {enc : TypeId × Value → H} {W : World} (fuel : Nat) (cs : List Value) (y : DataW H × List MemPlace)
    (h : DataW.trod enc Try.prog W 0 (fun _ => true) true fuel 26 cs = some y) (hl : cs.length = 5) :
    ∃ m : Me, cs = mec m ∧ m.Ok := by
  obtain ⟨xs, n, _, _, _, hxl, hh⟩ := DataW.trod_struct Try.underlying26 h
  obtain ⟨c0, c1, c2, c3, c4, rfl⟩ : ∃ c0 c1 c2 c3 c4, cs = [c0, c1, c2, c3, c4] := by
    match cs, hl with
    | [c0, c1, c2, c3, c4], _ => exact ⟨c0, c1, c2, c3, c4, rfl⟩
  obtain ⟨y0, y1, y2, y3, rfl⟩ := lst4 (hxl.trans rfl)
  have k1 : Try.prog.cellsOf 22 = 1 := by kernel_rfl
  have k2 : Try.prog.cellsOf 24 = 2 := by kernel_rfl
  have k3 : Try.prog.cellsOf 3 = 1 := by kernel_rfl
  have k4 : Try.prog.cellsOf 23 = 1 := by kernel_rfl
  have h0 := hh 0 _ rfl
  have h1 := hh 1 _ rfl
  have h2 := hh 2 _ rfl
  have h3 := hh 3 _ rfl
  simp [k1, k2, k3] at h0 h1 h2 h3
  obtain ⟨sq, rfl, hs⟩ := trod_u32 Try.underlying22 h0
  obtain ⟨b0, b1, rfl, rfl, hx, hy⟩ := pair_cells Try.underlying24 Try.underlying23 k4 h1
  obtain ⟨a, rfl, ha, ha'⟩ := trod_i64 Try.underlying3 h2
  obtain ⟨t, rfl, ht, ht'⟩ := trod_i64 Try.underlying3 h3
  exact ⟨⟨sq, b0, b1, a, t⟩, rfl, hs, hx, hy, ⟨ha, ha'⟩, ⟨ht, ht'⟩⟩
set_option maxRecDepth 100000 in
theorem open_me {H : Type} {enc : TypeId × Value → H} {W : World} {base : Nat} {r : Reach} {v : Value} {d : DataW H} {p : List MemPlace}
    (k : Value.okWide Try.prog W r base 26 v) (h : DataW.Trod enc Try.prog W 0 (fun _ => true) true 26 v d p) :
    ∃ m : Me, v = mev m ∧ m.Ok := by
  have hc : Try.prog.cellsOf 26 = 5 := by kernel_rfl
  obtain ⟨cs, rfl, hs⟩ : ∃ cs, v = .agg cs ∧ cs.size = 5 := by
    simp only [Value.okWide, Try.underlying26] at k
    obtain ⟨cs, h1, h2, _⟩ := k
    exact ⟨cs, h1, h2.trans hc⟩
  obtain ⟨fuel, hf⟩ := h
  obtain ⟨m, hm, ho⟩ := me_cells fuel cs.toList _ (by simpa [Value.cells] using hf) (by simpa using hs)
  exact ⟨m, by unfold mev; rw [show #[Value.int IntKind.u32 m.seq, .int .i64 m.b0, .int .i64 m.b1, .int .i64 m.act, .int .i64 m.tries] = (mec m).toArray from rfl, ← hm], ho⟩
end Go.Proofs.Ytnmeidmiijcniaa
