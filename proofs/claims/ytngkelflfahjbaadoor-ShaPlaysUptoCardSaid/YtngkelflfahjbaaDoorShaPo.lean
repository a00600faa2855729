/- A script of steps as an argument, and its bulk. No condition. -/
import Derived.Test.YtngkelflfahjbaaDoorOpenPc
set_option linter.unusedVariables false
set_option linter.unusedSimpArgs false
namespace Go.Proofs.YtngkelflfahjbaaDoor
open Go.ChangeShapes Go.WideShapes Go.ChangeAt Go.RowKit
/-- a step as a value -/
structure OpT where
  kind : Int
  bits : Int
  ao : Option Addr
  cap : Nat
  l : List UInt8
def otc (m : OpT) : List Value := [.int .i64 m.kind, .int .i64 m.bits, .slice m.ao m.l.length m.cap]
structure OpT.Ok (w : World) (m : OpT) : Prop where
  r : Rd w m.ao m.l
  c : m.l.length ≤ m.cap
  z : m.ao = none → m.cap = 0
theorem le_sum_mem : ∀ {l : List Nat} {x : Nat}, x ∈ l → x ≤ l.sum
  | y :: l, x, h => by
    rw [List.sum_cons]
    rcases List.mem_cons.1 h with rfl | h
    · omega
    · have := le_sum_mem h; omega
theorem ot_dec {H : Type} {enc : TypeId × Value → H} {W : World} (fuel : Nat) (cs : List Value) (y : DataW H × List MemPlace)
    (h : DataW.trod enc Tryd.prog W 0 (fun _ => true) true fuel 61 cs = some y) (hl : cs.length = 3) : ∃ m : OpT, cs = otc m ∧ (m.Ok W ∧ m.l.length ≤ Rows.uptoBulk y.1) := by
  obtain ⟨xs, n, _, hx, _, hxl, hh⟩ := DataW.trod_struct Tryd.underlying61 h
  obtain ⟨c0, c1, c2, rfl⟩ : ∃ a b c, cs = [a, b, c] := by
    match cs, hl with
    | [a, b, c], _ => exact ⟨a, b, c, rfl⟩
  obtain ⟨y0, y1, y2, rfl⟩ := lst3 (hxl.trans rfl)
  have k1 : Tryd.prog.cellsOf 3 = 1 := by kernel_rfl
  have k2 : Tryd.prog.cellsOf 22 = 1 := by kernel_rfl
  have h0 := hh 0 _ rfl
  have h1 := hh 1 _ rfl
  have h2 := hh 2 _ rfl
  simp [k1, k2] at h0 h1 h2
  obtain ⟨q, rfl, q0, q1⟩ := trod_i64 Tryd.underlying3 h0
  obtain ⟨i, rfl, i0, i1⟩ := trod_i64 Tryd.underlying3 h1
  obtain ⟨m, hm, hok, hb⟩ := pc_dec n _ _ h2 rfl
  obtain rfl := List.cons.inj hm |>.1
  refine ⟨⟨q, i, m.ao, m.cap, m.l⟩, rfl, ⟨hok.r, hok.c, hok.z⟩, ?_⟩
  rw [hx]
  simp only [Rows.uptoBulk, Rows.uptoBulkAll, List.map_cons, List.map_nil]
  show m.l.length ≤ _
  omega
theorem open_ops {H : Type} {enc : TypeId × Value → H} {W : World} {base : Nat} {r : Reach} {v : Value} {d : DataW H} {p : List MemPlace}
    (k : Value.okWide Tryd.prog W r base 54 v) (h : DataW.Trod enc Tryd.prog W 0 (fun _ => true) true 54 v d p) :
    ∃ ao n cap l, v = .slice ao n cap ∧ l.length = n ∧ n ≤ cap ∧ RdS otc 3 W ao l ∧ (∀ m ∈ l, OpT.Ok W m) ∧ (∀ m ∈ l, m.l.length ≤ Rows.uptoBulk d) ∧ n ≤ Rows.uptoBulk d := by
  have hu := Tryd.underlying54
  have hc6 : Tryd.prog.cellsOf 61 = 3 := by kernel_rfl
  have h0sz : 0 < 3 := by decide
  have hlen6 : ∀ g : OpT, (otc g).length = 3 := fun _ => rfl
  obtain ⟨a, n, cap, rfl⟩ := okWide_slice hu k
  obtain ⟨fuel, hf⟩ := h
  have hf' : DataW.trod enc Tryd.prog W 0 (fun _ => true) true fuel 54 [.slice a n cap] = some (d, p) := by simpa [Value.cells] using hf
  rcases DataW.trod_slice hu hf' with ⟨hcs, hx⟩ | ⟨ad, len, cp, elems, rest, m, _, hcs, hx, hb0, hlc, hcm, hlen, hel, hsp, _⟩
  · simp at hcs
    obtain ⟨rfl, rfl, rfl⟩ := hcs
    exact ⟨none, 0, 0, [], rfl, rfl, Nat.le_refl _, fun j g hj => by simp at hj, fun g hg => (by cases hg), fun g hg => (by cases hg), Nat.zero_le _⟩
  · simp at hcs
    obtain ⟨rfl, rfl, rfl⟩ := hcs
    simp only [Prod.mk.injEq] at hx
    obtain ⟨rfl, _⟩ := hx
    obtain ⟨hrl, -⟩ := hsp rfl
    obtain ⟨l, hl, hR⟩ := pick_each (n := n) (R := fun i (g : OpT) => (∀ j u, (otc g)[j]? = some u → W.cell? (ad.add (i * 3 + j)) = some u) ∧ g.Ok W ∧ ∀ y, elems[i]? = some y → g.l.length ≤ Rows.uptoBulk y.1) (fun i hi => by
      have he := hel i hi
      rw [hc6] at he
      have hsome : elems[i]? = some elems[i] := List.getElem?_eq_getElem (by omega)
      rw [hsome, Option.bind_eq_some_iff] at he
      obtain ⟨cs, h1, h2⟩ := he
      obtain ⟨_, hl6, hcell⟩ := World.cells?_some h1
      obtain ⟨g, rfl, g1, g2⟩ := ot_dec _ _ _ h2 hl6
      refine ⟨g, fun j u hu => ?_, g1, fun y hy => ?_⟩
      · have hj : j < 3 := by
          rcases Nat.lt_or_ge j 3 with h | h
          · exact h
          · rw [List.getElem?_eq_none (by rw [hlen6]; exact h)] at hu; cases hu
        have := hcell j hj
        rw [hu] at this
        rw [← this, Addr.add_add]
      · rw [hsome] at hy
        rw [← Option.some.inj hy]
        exact g2)
    have hblk : 0 < n → ad.block < W.heap.size := fun h0 => by
      have he := hel 0 h0
      have hsome : elems[0]? = some elems[0] := List.getElem?_eq_getElem (by omega)
      rw [hc6, hsome, Option.bind_eq_some_iff] at he
      obtain ⟨cs, h1, _⟩ := he
      have := World.cells?_block h1 h0sz
      simpa [Addr.add] using this
    refine ⟨some ad, n, cap, l, rfl, hl, hlc, fun j g hj => ?_, fun g hg => ?_, fun g hg => ?_, ?_⟩
    · obtain ⟨hcell, -⟩ := hR j _ hj
      have hjl : j < l.length := (List.getElem?_eq_some_iff.1 hj).1
      obtain ⟨g0, h0⟩ : ∃ g0, l[0]? = some g0 := ⟨_, List.getElem?_eq_getElem (show 0 < l.length by omega)⟩
      have hs0 := World.cell?_spot ((hR 0 _ h0).1 0 _ (show (otc g0)[0]? = some _ from rfl))
      have hlt := hblk (by omega)
      obtain ⟨b, off, spot⟩ := ad
      have hspot : spot = none := by simpa [Addr.add] using hs0
      subst hspot
      refine ⟨b, off, rfl, hlt, fun i v hi => ?_⟩
      have := hcell i v hi
      rw [Addr.add_lit] at this
      rw [Nat.add_assoc]
      exact this
    · obtain ⟨j, hj⟩ := List.getElem?_of_mem hg
      exact (hR j g hj).2.1
    · obtain ⟨j, hj⟩ := List.getElem?_of_mem hg
      have hjl : j < l.length := (List.getElem?_eq_some_iff.1 hj).1
      have h1 := (hR j g hj).2.2 _ (List.getElem?_eq_getElem (show j < elems.length by omega))
      have h2 : Rows.uptoBulk (elems[j]'(by omega)).1 ≤ ((elems.map (·.1)).map Rows.uptoBulk).sum := le_sum_mem (List.mem_map_of_mem (List.mem_map_of_mem (List.getElem_mem (by omega))))
      simp only [Rows.uptoBulk]
      rw [bulk_sum]
      omega
    · have h1 := bulk_len (elems.map (·.1))
      rw [List.length_map] at h1
      simp only [Rows.uptoBulk]
      omega
end Go.Proofs.YtngkelflfahjbaaDoor
