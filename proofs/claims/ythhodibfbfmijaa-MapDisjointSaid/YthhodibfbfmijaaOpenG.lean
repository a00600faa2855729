/- How an argument that is a list of regions is opened. No condition. -/
import Derived.Test.YthhodibfbfmijaaMapL
import Derived.Test.YthhodibfbfmijaaOpen
set_option linter.unusedVariables false
set_option linter.unusedSimpArgs false
namespace Go.Proofs.Ythhodibfbfmijaa
open Go.ChangeShapes Go.WideShapes Go.ChangeAt Go.RowKit
theorem region_cells {H : Type} {enc : TypeId × Value → H} {W : World} {fuel : Nat} {cs : List Value} {y : DataW H × List MemPlace}
    (h : DataW.trod enc Try.prog W 0 (fun _ => true) true fuel 30 cs = some y) (hl : cs.length = 6) :
    ∃ g : Rg, cs = rgc g ∧ g.base < 18446744073709551616 ∧ g.size < 18446744073709551616 := by
  obtain ⟨xs, n, _, _, _, hxl, hh⟩ := DataW.trod_struct Try.underlying30 h
  obtain ⟨c0, c1, c2, c3, c4, c5, rfl⟩ : ∃ c0 c1 c2 c3 c4 c5, cs = [c0, c1, c2, c3, c4, c5] := by
    rcases cs with _ | ⟨c0, _ | ⟨c1, _ | ⟨c2, _ | ⟨c3, _ | ⟨c4, _ | ⟨c5, _ | ⟨c6, r⟩⟩⟩⟩⟩⟩⟩ <;> simp at hl
    exact ⟨c0, c1, c2, c3, c4, c5, rfl⟩
  obtain ⟨y0, y1, y2, y3, y4, y5, rfl⟩ := lst6 (hxl.trans rfl)
  have k1 : Try.prog.cellsOf 24 = 1 := by kernel_rfl
  have k2 : Try.prog.cellsOf 4 = 1 := by kernel_rfl
  have h0 := hh 0 _ rfl
  have h1 := hh 1 _ rfl
  have h2 := hh 2 _ rfl
  have h3 := hh 3 _ rfl
  have h4 := hh 4 _ rfl
  have h5 := hh 5 _ rfl
  simp [k1, k2] at h0 h1 h2 h3 h4 h5
  obtain ⟨b, rfl, hb⟩ := trod_u64 Try.underlying24 h0
  obtain ⟨s, rfl, hs⟩ := trod_u64 Try.underlying24 h1
  obtain ⟨r, rfl⟩ := trod_b Try.underlying4 h2
  obtain ⟨w, rfl⟩ := trod_b Try.underlying4 h3
  obtain ⟨x, rfl⟩ := trod_b Try.underlying4 h4
  obtain ⟨z, rfl⟩ := trod_b Try.underlying4 h5
  exact ⟨⟨b, s, r, w, x, z⟩, rfl, hb, hs⟩
theorem pick_list {α : Type} {n : Nat} {R : Nat → α → Prop} (h : ∀ i, i < n → ∃ x, R i x) : ∃ l : List α, l.length = n ∧ ∀ i x, l[i]? = some x → R i x := by
  induction n with
  | zero => exact ⟨[], rfl, fun i x hx => by simp at hx⟩
  | succ n ih =>
    obtain ⟨l, hl, hR⟩ := ih fun i hi => h i (by omega)
    obtain ⟨x, hx⟩ := h n (by omega)
    refine ⟨l ++ [x], by simp [hl], fun i y hy => ?_⟩
    by_cases hi : i < l.length
    · rw [List.getElem?_append_left hi] at hy; exact hR i y hy
    · rw [List.getElem?_append_right (by omega)] at hy
      have : i = l.length := by
        rcases Nat.lt_or_ge (i - l.length) 1 with h | h
        · omega
        · rw [List.getElem?_eq_none (by simpa using h)] at hy; cases hy
      subst this
      simp at hy
      subst hy
      rw [hl]; exact hx
theorem open_regions {H : Type} {enc : TypeId × Value → H} {W : World} {base : Nat} {r : Reach} {v : Value} {d : DataW H} {p : List MemPlace}
    (k : Value.okWide Try.prog W r base 22 v) (h : DataW.Trod enc Try.prog W 0 (fun _ => true) true 22 v d p) (hz : (DataW.weights Try.prog 22 d).all (· ≤ reachBytes) = true) :
    ∃ ao n cap l, v = .slice ao n cap ∧ l.length = n ∧ n ≤ cap ∧ cap * 24 ≤ 140737488351232 ∧ RdG W ao l ∧ (ao = none → cap = 0) ∧ RgsOk l := by
  obtain ⟨a, n, cap, rfl⟩ := okWide_slice Try.underlying22 k
  obtain ⟨fuel, hf⟩ := h
  have hf' : DataW.trod enc Try.prog W 0 (fun _ => true) true fuel 22 [.slice a n cap] = some (d, p) := by simpa [Value.cells] using hf
  have hc6 : Try.prog.cellsOf 30 = 6 := by kernel_rfl
  have hb24 : Try.prog.bytesOf 30 = 24 := by kernel_rfl
  rcases DataW.trod_slice Try.underlying22 hf' with ⟨hcs, hx⟩ | ⟨ad, len, cp, elems, rest, m, _, hcs, hx, hb0, hlc, hcm, hlen, hel, hsp, _⟩
  · simp at hcs
    obtain ⟨rfl, rfl, rfl⟩ := hcs
    exact ⟨none, 0, 0, [], rfl, rfl, Nat.le_refl _, by omega, fun j hj => by simp at hj, fun _ => rfl, fun g hg => by cases hg⟩
  · simp at hcs
    obtain ⟨rfl, rfl, rfl⟩ := hcs
    simp only [Prod.mk.injEq] at hx
    obtain ⟨rfl, _⟩ := hx
    obtain ⟨hrl, -⟩ := hsp rfl
    have hcap : cap * 24 ≤ 140737488351232 := by
      simp [DataW.weights, Try.underlying22, hb24, reachBytes] at hz
      have := hz.1
      rw [hlen, hrl] at this
      have := of_decide_eq_true this
      omega
    obtain ⟨l, hl, hR⟩ := pick_list (n := n) (R := fun i (g : Rg) => (∀ j u, (rgc g)[j]? = some u → W.cell? (ad.add (i * 6 + j)) = some u) ∧ g.base < 18446744073709551616 ∧ g.size < 18446744073709551616) (fun i hi => by
      have he := hel i hi
      rw [hc6] at he
      have hsome : elems[i]? = some elems[i] := List.getElem?_eq_getElem (by omega)
      rw [hsome, Option.bind_eq_some_iff] at he
      obtain ⟨cs, h1, h2⟩ := he
      obtain ⟨_, hl6, hcell⟩ := World.cells?_some h1
      obtain ⟨g, rfl, g1, g2⟩ := region_cells h2 hl6
      refine ⟨g, fun j u hu => ?_, g1, g2⟩
      have hj : j < 6 := by
        rcases Nat.lt_or_ge j 6 with h | h
        · exact h
        · rw [List.getElem?_eq_none (by simpa [rgc] using h)] at hu; cases hu
      have := hcell j hj
      rw [hu] at this
      rw [← this, Addr.add_add])
    have hblk : 0 < n → ad.block < W.heap.size := fun h0 => by
      have he := hel 0 h0
      have hsome : elems[0]? = some elems[0] := List.getElem?_eq_getElem (by omega)
      rw [hc6, hsome, Option.bind_eq_some_iff] at he
      obtain ⟨cs, h1, _⟩ := he
      have := World.cells?_block h1 (by omega)
      simpa [Addr.add] using this
    refine ⟨some ad, n, cap, l, rfl, hl, hlc, hcap, fun j hj => ?_, fun h => (by cases h), fun g hg => ?_⟩
    · have hg : l[j]? = some (gAt l j) := by unfold gAt; rw [List.getElem?_eq_getElem hj]; rfl
      obtain ⟨hcell, -⟩ := hR j _ hg
      have h0 : l[0]? = some (gAt l 0) := by unfold gAt; rw [List.getElem?_eq_getElem (by omega)]; rfl
      have hs0 := World.cell?_spot ((hR 0 _ h0).1 0 _ rfl)
      have hlt := hblk (by omega)
      obtain ⟨b, off, spot⟩ := ad
      have hspot : spot = none := by simpa [Addr.add] using hs0
      subst hspot
      refine ⟨b, off, rfl, hlt, fun i v hi => ?_⟩
      have := hcell i v hi
      rw [Addr.add_lit] at this
      rw [Nat.add_assoc]
      exact this
    · obtain ⟨j, hj⟩ := List.getElem?_of_mem hg
      exact (hR j g hj).2
end Go.Proofs.Ythhodibfbfmijaa
