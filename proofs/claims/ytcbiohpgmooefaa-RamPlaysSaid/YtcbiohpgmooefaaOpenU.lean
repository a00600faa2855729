/- A list of structs inside an opened datum. No condition. -/
import Derived.Test.YtcbiohpgmooefaaOpenS
set_option linter.unusedVariables false
set_option linter.unusedSimpArgs false
namespace Go.Proofs.Ytcbiohpgmooefaa
open Go.ChangeShapes Go.WideShapes Go.ChangeAt Go.RowKit
theorem trod_structs {α H : Type} {enc : TypeId × Value → H} {P : Program} {W : World} {T E sz nb fuel : Nat} {c : Value} {x : DataW H × List MemPlace} {cells : α → List Value} {Ok : α → Prop}
    (hu : P.underlying T = some (.slice E)) (hc6 : P.cellsOf E = sz) (hb24 : P.bytesOf E = nb) (h0sz : 0 < sz) (hlen6 : ∀ g, (cells g).length = sz)
    (hdec : ∀ (fuel : Nat) (cs : List Value) (y : DataW H × List MemPlace), DataW.trod enc P W 0 (fun _ => true) true fuel E cs = some y → cs.length = sz → ∃ g, cs = cells g ∧ Ok g)
    (h : DataW.trod enc P W 0 (fun _ => true) true fuel T [c] = some x) (hz : (DataW.weights P T x.1).all (· ≤ reachBytes) = true) :
    ∃ ao n cap l, c = .slice ao n cap ∧ l.length = n ∧ n ≤ cap ∧ cap * nb ≤ 140737488351232 ∧ RdS cells sz W ao l ∧ (ao = none → cap = 0) ∧ ∀ g ∈ l, Ok g := by
  rcases DataW.trod_slice hu h with ⟨hcs, rfl⟩ | ⟨ad, n, cap, elems, rest, m, _, hcs, rfl, hb0, hlc, hcm, hlen, hel, hsp, _⟩
  · simp at hcs
    subst hcs
    exact ⟨none, 0, 0, [], rfl, rfl, Nat.le_refl _, by omega, fun j g hj => by simp at hj, fun _ => rfl, fun g hg => by cases hg⟩
  · simp at hcs
    subst hcs
    obtain ⟨hrl, -⟩ := hsp rfl
    have hcap : cap * nb ≤ 140737488351232 := by
      simp [DataW.weights, hu, hb24, reachBytes] at hz
      have := hz.1
      rw [hlen, hrl] at this
      have h2 := of_decide_eq_true this
      rw [show n + (cap - n) = cap by omega] at h2
      exact h2
    obtain ⟨l, hl, hR⟩ := pick_each (n := n) (R := fun i (g : α) => (∀ j u, (cells g)[j]? = some u → W.cell? (ad.add (i * sz + j)) = some u) ∧ Ok g) (fun i hi => by
      have he := hel i hi
      rw [hc6] at he
      have hsome : elems[i]? = some elems[i] := List.getElem?_eq_getElem (by omega)
      rw [hsome, Option.bind_eq_some_iff] at he
      obtain ⟨cs, h1, h2⟩ := he
      obtain ⟨_, hl6, hcell⟩ := World.cells?_some h1
      obtain ⟨g, rfl, g1⟩ := hdec _ _ _ h2 hl6
      refine ⟨g, fun j u hu => ?_, g1⟩
      have hj : j < sz := by
        rcases Nat.lt_or_ge j sz with h | h
        · exact h
        · rw [List.getElem?_eq_none (by rw [hlen6]; exact h)] at hu; cases hu
      have := hcell j hj
      rw [hu] at this
      rw [← this, Addr.add_add])
    have hblk : 0 < n → ad.block < W.heap.size := fun h0 => by
      have he := hel 0 h0
      have hsome : elems[0]? = some elems[0] := List.getElem?_eq_getElem (by omega)
      rw [hc6, hsome, Option.bind_eq_some_iff] at he
      obtain ⟨cs, h1, _⟩ := he
      have := World.cells?_block h1 h0sz
      simpa [Addr.add] using this
    refine ⟨some ad, n, cap, l, rfl, hl, hlc, hcap, fun j g hj => ?_, fun h => (by cases h), fun g hg => ?_⟩
    · obtain ⟨hcell, -⟩ := hR j _ hj
      have hjl : j < l.length := (List.getElem?_eq_some_iff.1 hj).1
      obtain ⟨g0, h0⟩ : ∃ g0, l[0]? = some g0 := ⟨_, List.getElem?_eq_getElem (show 0 < l.length by omega)⟩
      obtain ⟨v0, hv0⟩ : ∃ v0, (cells g0)[0]? = some v0 := ⟨_, List.getElem?_eq_getElem (by rw [hlen6]; exact h0sz)⟩
      have hs0 := World.cell?_spot ((hR 0 _ h0).1 0 _ hv0)
      have hlt := hblk (by omega)
      obtain ⟨b, off, spot⟩ := ad
      have hspot : spot = none := by simpa [Addr.add] using hs0
      subst hspot
      refine ⟨b, off, rfl, hlt, fun i v hi => ?_⟩
      have := hcell i v hi
      rw [Addr.add_lit] at this
      rw [Nat.add_assoc]
      exact this
    · obtain ⟨j, hj⟩ := List.getElem?_of_mem hg
      exact (hR j g hj).2
end Go.Proofs.Ytcbiohpgmooefaa
