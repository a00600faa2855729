/- How an argument that is a list of structs of one-cell fields is opened; such lists in memory. No condition. -/
import Derived.Test.YtnmeidmiijcniaaHB
import Derived.Test.YtnmeidmiijcniaaOpen
set_option linter.unusedVariables false
set_option linter.unusedSimpArgs false
namespace Go.Proofs.Ytnmeidmiijcniaa
open Go.ChangeShapes Go.WideShapes Go.ChangeAt Go.RowKit
/-- a slice's address, and the structs that are read there, sz cells each -/
def RdS {α : Type} (cells : α → List Value) (sz : Nat) (w : World) (ao : Option Addr) (l : List α) : Prop :=
  ∀ j g, l[j]? = some g → ∃ b off, ao = some ⟨b, off, none⟩ ∧ b < w.heap.size ∧ ∀ i v, (cells g)[i]? = some v → w.cell? ⟨b, off + j * sz + i, none⟩ = some v
theorem RdS.below {α : Type} {cells : α → List Value} {sz : Nat} {w w' : World} {ao : Option Addr} {l : List α} (h : RdS cells sz w ao l) (hb : Below w.heap.size w w') : RdS cells sz w' ao l := fun j g hj =>
  let ⟨b, off, e, hlt, hc⟩ := h j g hj; ⟨b, off, e, Nat.lt_of_lt_of_le hlt hb.size, fun i v hi => by rw [hb.cell (p := ⟨b, off + j * sz + i, none⟩) hlt]; exact hc i v hi⟩
theorem RdS.drn {α : Type} {cells : α → List Value} {sz : Nat} {w w' : World} {ao : Option Addr} {l : List α} (h : RdS cells sz w ao l) (hd : Drn w w') : RdS cells sz w' ao l := h.below (hd.below _)
theorem RdS.lt {α : Type} {cells : α → List Value} {sz : Nat} {w : World} {ao : Option Addr} {l : List α} (h : RdS cells sz w ao l) {j : Nat} (hj : j < l.length) : ∃ b off, ao = some ⟨b, off, none⟩ ∧ b < w.heap.size ∧ ∀ i v, (cells l[j])[i]? = some v → w.cell? ⟨b, off + j * sz + i, none⟩ = some v :=
  h j _ (List.getElem?_eq_getElem hj)
theorem RdS.range {α : Type} {cells : α → List Value} {sz : Nat} {w : World} {ao : Option Addr} {l : List α} (h : RdS cells sz w ao l) {j : Nat} (hj : j < l.length) : ∃ b off, ao = some ⟨b, off, none⟩ ∧ b < w.heap.size ∧ w.rangeAt b (off + j * sz) (cells l[j]) := by
  obtain ⟨b, off, e, hlt, hc⟩ := h.lt hj
  exact ⟨b, off, e, hlt, fun i v hi => hc i v hi⟩
theorem pick_each {α : Type} {n : Nat} {R : Nat → α → Prop} (h : ∀ i, i < n → ∃ x, R i x) : ∃ l : List α, l.length = n ∧ ∀ i x, l[i]? = some x → R i x := by
  induction n with
  | zero => exact ⟨[], rfl, fun i x hx => by simp at hx⟩
  | succ n ih =>
    obtain ⟨l, hl, hR⟩ := ih fun i hi => h i (by omega)
    obtain ⟨x, hx⟩ := h n (by omega)
    refine ⟨l ++ [x], by simp [hl], fun i y hy => ?_⟩
    by_cases hi : i < l.length
    · rw [List.getElem?_append_left hi] at hy; exact hR i y hy
    · rw [List.getElem?_append_right (by omega)] at hy
      have : i = l.length := by
        rcases Nat.lt_or_ge (i - l.length) 1 with h | h
        · omega
        · rw [List.getElem?_eq_none (by simpa using h)] at hy; cases hy
      subst this
      simp at hy
      subst hy
      rw [hl]; exact hx
theorem open_structs {α H : Type} {enc : TypeId × Value → H} {P : Program} {W : World} {base T E sz nb : Nat} {r : Reach} {v : Value} {d : DataW H} {p : List MemPlace} {cells : α → List Value} {Ok : α → Prop}
    (hu : P.underlying T = some (.slice E)) (hc6 : P.cellsOf E = sz) (hb24 : P.bytesOf E = nb) (h0sz : 0 < sz) (hlen6 : ∀ g, (cells g).length = sz)
    (hdec : ∀ (fuel : Nat) (cs : List Value) (y : DataW H × List MemPlace), DataW.trod enc P W 0 (fun _ => true) true fuel E cs = some y → cs.length = sz → ∃ g, cs = cells g ∧ Ok g)
    (k : Value.okWide P W r base T v) (h : DataW.Trod enc P W 0 (fun _ => true) true T v d p) (hz : (DataW.weights P T d).all (· ≤ reachBytes) = true) :
    ∃ ao n cap l, v = .slice ao n cap ∧ l.length = n ∧ n ≤ cap ∧ cap * nb ≤ 140737488351232 ∧ RdS cells sz W ao l ∧ (ao = none → cap = 0) ∧ ∀ g ∈ l, Ok g := by
  obtain ⟨a, n, cap, rfl⟩ := okWide_slice hu k
  obtain ⟨fuel, hf⟩ := h
  have hf' : DataW.trod enc P W 0 (fun _ => true) true fuel T [.slice a n cap] = some (d, p) := by simpa [Value.cells] using hf
  rcases DataW.trod_slice hu hf' with ⟨hcs, hx⟩ | ⟨ad, len, cp, elems, rest, m, _, hcs, hx, hb0, hlc, hcm, hlen, hel, hsp, _⟩
  · simp at hcs
    obtain ⟨rfl, rfl, rfl⟩ := hcs
    exact ⟨none, 0, 0, [], rfl, rfl, Nat.le_refl _, by omega, fun j g hj => by simp at hj, fun _ => rfl, fun g hg => by cases hg⟩
  · simp at hcs
    obtain ⟨rfl, rfl, rfl⟩ := hcs
    simp only [Prod.mk.injEq] at hx
    obtain ⟨rfl, _⟩ := hx
    obtain ⟨hrl, -⟩ := hsp rfl
    have hcap : cap * nb ≤ 140737488351232 := by
      simp [DataW.weights, hu, hb24, reachBytes] at hz
      have := hz.1
      rw [hlen, hrl] at this
      have h2 := of_decide_eq_true this
      rw [show n + (cap - n) = cap by omega] at h2
      exact h2
    obtain ⟨l, hl, hR⟩ := pick_each (n := n) (R := fun i (g : α) => (∀ j u, (cells g)[j]? = some u → W.cell? (ad.add (i * sz + j)) = some u) ∧ Ok g) (fun i hi => by
      have he := hel i hi
      rw [hc6] at he
      have hsome : elems[i]? = some elems[i] := List.getElem?_eq_getElem (by omega)
      rw [hsome, Option.bind_eq_some_iff] at he
      obtain ⟨cs, h1, h2⟩ := he
      obtain ⟨_, hl6, hcell⟩ := World.cells?_some h1
      obtain ⟨g, rfl, g1⟩ := hdec _ _ _ h2 hl6
      refine ⟨g, fun j u hu => ?_, g1⟩
      have hj : j < sz := by
        rcases Nat.lt_or_ge j sz with h | h
        · exact h
        · rw [List.getElem?_eq_none (by rw [hlen6]; exact h)] at hu; cases hu
      have := hcell j hj
      rw [hu] at this
      rw [← this, Addr.add_add])
    have hblk : 0 < n → ad.block < W.heap.size := fun h0 => by
      have he := hel 0 h0
      have hsome : elems[0]? = some elems[0] := List.getElem?_eq_getElem (by omega)
      rw [hc6, hsome, Option.bind_eq_some_iff] at he
      obtain ⟨cs, h1, _⟩ := he
      have := World.cells?_block h1 h0sz
      simpa [Addr.add] using this
    refine ⟨some ad, n, cap, l, rfl, hl, hlc, hcap, fun j g hj => ?_, fun h => (by cases h), fun g hg => ?_⟩
    · obtain ⟨hcell, -⟩ := hR j _ hj
      have hjl : j < l.length := (List.getElem?_eq_some_iff.1 hj).1
      obtain ⟨g0, h0⟩ : ∃ g0, l[0]? = some g0 := ⟨_, List.getElem?_eq_getElem (show 0 < l.length by omega)⟩
      obtain ⟨v0, hv0⟩ : ∃ v0, (cells g0)[0]? = some v0 := ⟨_, List.getElem?_eq_getElem (by rw [hlen6]; exact h0sz)⟩
      have hs0 := World.cell?_spot ((hR 0 _ h0).1 0 _ hv0)
      have hlt := hblk (by omega)
      obtain ⟨b, off, spot⟩ := ad
      have hspot : spot = none := by simpa [Addr.add] using hs0
      subst hspot
      refine ⟨b, off, rfl, hlt, fun i v hi => ?_⟩
      have := hcell i v hi
      rw [Addr.add_lit] at this
      rw [Nat.add_assoc]
      exact this
    · obtain ⟨j, hj⟩ := List.getElem?_of_mem hg
      exact (hR j g hj).2
end Go.Proofs.Ytnmeidmiijcniaa
