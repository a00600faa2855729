/- How a script of writes is opened. No condition. -/
import Derived.Test.YtdmoaighbobgaaaFl4
set_option linter.unusedVariables false
set_option linter.unusedSimpArgs false
namespace Go.Proofs.Ytdmoaighbobgaaa
open Go.ChangeShapes Go.WideShapes Go.ChangeAt Go.RowKit
theorem trod_bytes0 {H : Type} {enc : TypeId × Value → H} {P : Program} {W : World} {T E fuel : Nat} {c : Value} {x : DataW H × List MemPlace}
    (hu : P.underlying T = some (.slice E)) (he : P.underlying E = some (.int .u8)) (hc : P.cellsOf E = 1)
    (h : DataW.trod enc P W 0 (fun _ => true) true fuel T [c] = some x) :
    ∃ ao cap l, c = .slice ao l.length cap ∧ l.length ≤ cap ∧ cap ≤ maxLen ∧ Rd W ao l ∧ (ao = none → cap = 0) := by
  rcases open_ints hu he hc h with ⟨hcs, rfl⟩ | ⟨a, l, cp, zs, hcs, _, hl, hm, hzl, rfl, hcell, hwz⟩
  · simp at hcs
    subst hcs
    exact ⟨none, 0, [], rfl, Nat.le_refl _, by decide, Rd.nil _ _, fun _ => rfl⟩
  · simp at hcs
    subst hcs
    simp only [if_true] at hzl
    have hlen : (zs.take l).length = l := by simp; omega
    refine ⟨some a, cp, (zs.take l).map (fun z => UInt8.ofNat z.toNat), by simp [hlen]; omega, by rw [List.length_map, hlen]; exact hl, hm, ?_, fun h => by cases h⟩
    intro j hj
    have hj' : j < l := by rw [List.length_map, hlen] at hj; exact hj
    obtain ⟨b, off, rfl, hc'⟩ := ints_at hcell (by omega)
    refine ⟨b, off, rfl, ?_⟩
    rw [hc' j (by omega)]
    have hwf := hwz (zs.getD j 0) (by rw [List.getD_eq_getElem?_getD, List.getElem?_eq_getElem (by omega : j < zs.length)]; simp)
    simp [Lit.wf, IntKind.min, IntKind.max, IntKind.bits, IntKind.signed] at hwf
    simp [List.getElem?_map, hj', List.getElem?_eq_getElem (by omega : j < zs.length)] at hwf ⊢
    omega
structure OpF where
  kind : Int
  n : Int
  m : Int
  ao : Option Addr
  cap : Nat
  l : List UInt8
  raw : Bool
  done : Bool
  fr : Nat
  sz : Nat
def ofc (o : OpF) : List Value := [.int .i64 o.kind, .int .i64 o.n, .int .i64 o.m, .slice o.ao o.l.length o.cap, .bool o.raw, .bool o.done, .int .u64 o.fr, .int .u64 o.sz]
structure OpF.Ok (w : World) (o : OpF) : Prop where
  n : I64 o.n
  m : I64 o.m
  c : o.l.length ≤ o.cap
  x : o.cap ≤ maxLen
  r : Rd w o.ao o.l
  z : o.ao = none → o.cap = 0
  f : o.fr < 18446744073709551616
  s : o.sz < 18446744073709551616
theorem lst8 {α : Type} {l : List α} (h : l.length = 8) : ∃ c0 c1 c2 c3 c4 c5 c6 c7, l = [c0, c1, c2, c3, c4, c5, c6, c7] := by
  match l, h with
  | [c0, c1, c2, c3, c4, c5, c6, c7], _ => exact ⟨c0, c1, c2, c3, c4, c5, c6, c7, rfl⟩
theorem opf_cells {H : Type} {enc : TypeId × Value → H} {W : World} (fuel : Nat) (cs : List Value) (y : DataW H × List MemPlace)
    (h : DataW.trod enc Try.prog W 0 (fun _ => true) true fuel 35 cs = some y) (hl : cs.length = 8) :
    ∃ o : OpF, cs = ofc o ∧ o.Ok W := by
  obtain ⟨xs, n, _, _, _, hxl, hh⟩ := DataW.trod_struct Try.underlying35 h
  obtain ⟨c0, c1, c2, c3, c4, c5, c6, c7, rfl⟩ := lst8 hl
  obtain ⟨y0, y1, y2, y3, y4, y5, y6, y7, rfl⟩ := lst8 (hxl.trans rfl)
  have k1 : Try.prog.cellsOf 3 = 1 := by kernel_rfl
  have k2 : Try.prog.cellsOf 30 = 1 := by kernel_rfl
  have k3 : Try.prog.cellsOf 4 = 1 := by kernel_rfl
  have k4 : Try.prog.cellsOf 33 = 1 := by kernel_rfl
  have h0 := hh 0 _ rfl
  have h1 := hh 1 _ rfl
  have h2 := hh 2 _ rfl
  have h3 := hh 3 _ rfl
  have h4 := hh 4 _ rfl
  have h5 := hh 5 _ rfl
  have h6 := hh 6 _ rfl
  have h7 := hh 7 _ rfl
  simp [k1, k2, k3, k4] at h0 h1 h2 h3 h4 h5 h6 h7
  obtain ⟨q, rfl, q0, q1⟩ := trod_i64 Try.underlying3 h0
  obtain ⟨i, rfl, i0, i1⟩ := trod_i64 Try.underlying3 h1
  obtain ⟨m, rfl, m0, m1⟩ := trod_i64 Try.underlying3 h2
  obtain ⟨ao, cap, l, rfl, hc, hx, hr, hz⟩ := trod_bytes0 Try.underlying30 Try.underlying5 (by kernel_rfl) h3
  obtain ⟨r, rfl⟩ := trod_b Try.underlying4 h4
  obtain ⟨d, rfl⟩ := trod_b Try.underlying4 h5
  obtain ⟨f, rfl, hf⟩ := trod_u64 Try.underlying33 h6
  obtain ⟨s, rfl, hs⟩ := trod_u64 Try.underlying33 h7
  exact ⟨⟨q, i, m, ao, cap, l, r, d, f, s⟩, rfl, ⟨⟨i0, i1⟩, ⟨m0, m1⟩, hc, hx, hr, hz, hf, hs⟩⟩
set_option maxRecDepth 100000 in
theorem open_opfs {H : Type} {enc : TypeId × Value → H} {W : World} {base : Nat} {r : Reach} {v : Value} {d : DataW H} {p : List MemPlace}
    (k : Value.okWide Try.prog W r base 22 v) (h : DataW.Trod enc Try.prog W 0 (fun _ => true) true 22 v d p) (hz : (DataW.weights Try.prog 22 d).all (· ≤ reachBytes) = true) :
    ∃ ao n cap l, v = .slice ao n cap ∧ l.length = n ∧ n ≤ cap ∧ cap * 72 ≤ 140737488351232 ∧ RdS ofc 8 W ao l ∧ (ao = none → cap = 0) ∧ ∀ o ∈ l, OpF.Ok W o :=
  open_structs Try.underlying22 (by kernel_rfl) (by kernel_rfl) (by decide) (fun _ => rfl) opf_cells k h hz
end Go.Proofs.Ytdmoaighbobgaaa
