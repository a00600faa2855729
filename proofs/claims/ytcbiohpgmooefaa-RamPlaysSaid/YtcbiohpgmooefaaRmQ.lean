/- How a script of RAM's ops is opened. No condition. -/
import Derived.Test.YtcbiohpgmooefaaRmM
import Derived.Test.YtcbiohpgmooefaaOpenU
set_option linter.unusedVariables false
set_option linter.unusedSimpArgs false
namespace Go.Proofs.Ytcbiohpgmooefaa
open Go.ChangeShapes Go.WideShapes Go.ChangeAt Go.RowKit
theorem trod_bytes0 {H : Type} {enc : TypeId × Value → H} {P : Program} {W : World} {T E fuel : Nat} {c : Value} {x : DataW H × List MemPlace}
    (hu : P.underlying T = some (.slice E)) (he : P.underlying E = some (.int .u8)) (hc : P.cellsOf E = 1)
    (h : DataW.trod enc P W 0 (fun _ => true) true fuel T [c] = some x) :
    ∃ ao cap l, c = .slice ao l.length cap ∧ l.length ≤ cap ∧ cap ≤ maxLen ∧ Rd W ao l ∧ (ao = none → cap = 0) := by
  rcases open_ints hu he hc h with ⟨hcs, rfl⟩ | ⟨a, l, cp, zs, hcs, _, hl, hm, hzl, rfl, hcell, hwz⟩
  · simp at hcs
    subst hcs
    exact ⟨none, 0, [], rfl, Nat.le_refl _, by decide, Rd.nil _ _, fun _ => rfl⟩
  · simp at hcs
    subst hcs
    simp only [if_true] at hzl
    have hlen : (zs.take l).length = l := by simp; omega
    refine ⟨some a, cp, (zs.take l).map (fun z => UInt8.ofNat z.toNat), by simp [hlen]; omega, by rw [List.length_map, hlen]; exact hl, hm, ?_, fun h => by cases h⟩
    intro j hj
    have hj' : j < l := by rw [List.length_map, hlen] at hj; exact hj
    obtain ⟨b, off, rfl, hc'⟩ := ints_at hcell (by omega)
    refine ⟨b, off, rfl, ?_⟩
    rw [hc' j (by omega)]
    have hwf := hwz (zs.getD j 0) (by rw [List.getD_eq_getElem?_getD, List.getElem?_eq_getElem (by omega : j < zs.length)]; simp)
    simp [Lit.wf, IntKind.min, IntKind.max, IntKind.bits, IntKind.signed] at hwf
    simp [List.getElem?_map, hj', List.getElem?_eq_getElem (by omega : j < zs.length)] at hwf ⊢
    omega
theorem rg_opened {H : Type} {enc : TypeId × Value → H} {W : World} (fuel : Nat) (cs : List Value) (y : DataW H × List MemPlace)
    (h : DataW.trod enc Try.prog W 0 (fun _ => true) true fuel 33 cs = some y) (hl : cs.length = 6) : ∃ g : Rg, cs = rgc g ∧ RgOk g := by
  obtain ⟨xs, n, _, _, _, hxl, hh⟩ := DataW.trod_struct Try.underlying33 h
  obtain ⟨c0, c1, c2, c3, c4, c5, rfl⟩ : ∃ c0 c1 c2 c3 c4 c5, cs = [c0, c1, c2, c3, c4, c5] := by
    match cs, hl with
    | [c0, c1, c2, c3, c4, c5], _ => exact ⟨c0, c1, c2, c3, c4, c5, rfl⟩
  obtain ⟨y0, y1, y2, y3, y4, y5, rfl⟩ : ∃ c0 c1 c2 c3 c4 c5, xs = [c0, c1, c2, c3, c4, c5] := by
    match xs, hxl with
    | [c0, c1, c2, c3, c4, c5], _ => exact ⟨c0, c1, c2, c3, c4, c5, rfl⟩
  have k3 : Try.prog.cellsOf 4 = 1 := by kernel_rfl
  have k4 : Try.prog.cellsOf 24 = 1 := by kernel_rfl
  have h0 := hh 0 _ rfl
  have h1 := hh 1 _ rfl
  have h2 := hh 2 _ rfl
  have h3 := hh 3 _ rfl
  have h4 := hh 4 _ rfl
  have h5 := hh 5 _ rfl
  simp [k3, k4] at h0 h1 h2 h3 h4 h5
  obtain ⟨f, rfl, hf⟩ := trod_u64 Try.underlying24 h0
  obtain ⟨s, rfl, hs⟩ := trod_u64 Try.underlying24 h1
  obtain ⟨r, rfl⟩ := trod_b Try.underlying4 h2
  obtain ⟨w, rfl⟩ := trod_b Try.underlying4 h3
  obtain ⟨x, rfl⟩ := trod_b Try.underlying4 h4
  obtain ⟨e, rfl⟩ := trod_b Try.underlying4 h5
  exact ⟨⟨f, s, r, w, x, e⟩, rfl, hf, hs⟩
/-- an op as a value -/
structure OpR where
  kind : Int
  r : Rg
  sec : Bool
  a : Int
  x : Nat
  n : Nat
  ao : Option Addr
  cap : Nat
  l : List UInt8
def orc (o : OpR) : List Value := [.int .i64 o.kind, .int .u64 o.r.base, .int .u64 o.r.size, .bool o.r.r, .bool o.r.w, .bool o.r.x, .bool o.r.s, .bool o.sec, .int .i64 o.a, .int .u64 o.x, .int .u64 o.n, .slice o.ao o.l.length o.cap]
structure OpR.Ok (w : World) (o : OpR) : Prop where
  r : RgOk o.r
  x : o.x < 18446744073709551616
  n : o.n < 18446744073709551616
  d : Rd w o.ao o.l
  c : o.l.length ≤ o.cap
  m : o.cap ≤ maxLen
  z : o.ao = none → o.cap = 0
theorem or_opened {H : Type} {enc : TypeId × Value → H} {W : World} (fuel : Nat) (cs : List Value) (y : DataW H × List MemPlace)
    (h : DataW.trod enc Try.prog W 0 (fun _ => true) true fuel 44 cs = some y) (hl : cs.length = 12) : ∃ o : OpR, cs = orc o ∧ o.Ok W := by
  obtain ⟨xs, n, _, _, _, hxl, hh⟩ := DataW.trod_struct Try.underlying44 h
  obtain ⟨c0, c1, c2, c3, c4, c5, c6, c7, c8, c9, c10, c11, rfl⟩ : ∃ c0 c1 c2 c3 c4 c5 c6 c7 c8 c9 c10 c11, cs = [c0, c1, c2, c3, c4, c5, c6, c7, c8, c9, c10, c11] := by
    match cs, hl with
    | [c0, c1, c2, c3, c4, c5, c6, c7, c8, c9, c10, c11], _ => exact ⟨c0, c1, c2, c3, c4, c5, c6, c7, c8, c9, c10, c11, rfl⟩
  obtain ⟨y0, y1, y2, y3, y4, y5, y6, rfl⟩ : ∃ c0 c1 c2 c3 c4 c5 c6, xs = [c0, c1, c2, c3, c4, c5, c6] := by
    match xs, hxl with
    | [c0, c1, c2, c3, c4, c5, c6], _ => exact ⟨c0, c1, c2, c3, c4, c5, c6, rfl⟩
  have k1 : Try.prog.cellsOf 3 = 1 := by kernel_rfl
  have k2 : Try.prog.cellsOf 23 = 1 := by kernel_rfl
  have k3 : Try.prog.cellsOf 4 = 1 := by kernel_rfl
  have k4 : Try.prog.cellsOf 24 = 1 := by kernel_rfl
  have k5 : Try.prog.cellsOf 33 = 6 := by kernel_rfl
  have k6 : Try.prog.cellsOf 42 = 1 := by kernel_rfl
  have h0 := hh 0 _ rfl
  have h1 := hh 1 _ rfl
  have h2 := hh 2 _ rfl
  have h3 := hh 3 _ rfl
  have h4 := hh 4 _ rfl
  have h5 := hh 5 _ rfl
  have h6 := hh 6 _ rfl
  simp [k1, k2, k3, k4, k5, k6] at h0 h1 h2 h3 h4 h5 h6
  obtain ⟨q, rfl, -, -⟩ := trod_i64 Try.underlying3 h0
  obtain ⟨g, hg, hgo⟩ := rg_opened _ _ _ h1 rfl
  simp only [rgc, List.cons.injEq, and_true] at hg
  obtain ⟨rfl, rfl, rfl, rfl, rfl, rfl⟩ := hg
  obtain ⟨s, rfl⟩ := trod_b Try.underlying4 h2
  obtain ⟨a, rfl, -, -⟩ := trod_i64 Try.underlying42 h3
  obtain ⟨x, rfl, hx⟩ := trod_u64 Try.underlying24 h4
  obtain ⟨z, rfl, hz⟩ := trod_u64 Try.underlying24 h5
  obtain ⟨ao, cap, l, rfl, hc, hm, hr, hnil⟩ := trod_bytes0 Try.underlying23 Try.underlying5 (by kernel_rfl) h6
  exact ⟨⟨q, g, s, a, x, z, ao, cap, l⟩, rfl, ⟨hgo, hx, hz, hr, hc, hm, hnil⟩⟩
set_option maxRecDepth 100000 in
theorem open_ors {H : Type} {enc : TypeId × Value → H} {W : World} {base : Nat} {r : Reach} {v : Value} {d : DataW H} {p : List MemPlace}
    (k : Value.okWide Try.prog W r base 41 v) (h : DataW.Trod enc Try.prog W 0 (fun _ => true) true 41 v d p) (hz : (DataW.weights Try.prog 41 d).all (· ≤ reachBytes) = true) :
    ∃ ao n cap l, v = .slice ao n cap ∧ l.length = n ∧ n ≤ cap ∧ cap * 88 ≤ 140737488351232 ∧ RdS orc 12 W ao l ∧ (ao = none → cap = 0) ∧ ∀ o ∈ l, OpR.Ok W o :=
  open_structs (nb := 88) Try.underlying41 (by kernel_rfl) (by kernel_rfl) (by decide) (fun _ => rfl) or_opened k h hz
end Go.Proofs.Ytcbiohpgmooefaa
