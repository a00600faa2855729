/- How arguments that are names of 16 bytes are opened. No condition. -/
import Derived.Test.YtefkmlfpdlnodaaGu
import Derived.Test.YtefkmlfpdlnodaaOpen
set_option linter.unusedVariables false
set_option linter.unusedSimpArgs false
namespace Go.Proofs.Ytefkmlfpdlnodaa
open Go.RowKit Go.ChangeShapes Go.WideShapes Go.ChangeAt
theorem gu_cells {H : Type} {enc : TypeId × Value → H} {W : World} (fuel : Nat) (cs : List Value) (y : DataW H × List MemPlace)
    (h : DataW.trod enc Try.prog W 0 (fun _ => true) true fuel 30 cs = some y) (hl : cs.length = 16) :
    ∃ g : Gu, cs = guc g ∧ True := by
  obtain ⟨xs, n, _, _, _, hxl, hh⟩ := DataW.trod_array Try.underlying30 h
  have k1 : Try.prog.cellsOf 5 = 1 := by kernel_rfl
  rw [k1] at hh
  have hx : ∀ i, i < 16 → ∃ c : UInt8, cs[i]? = some (bv c) := fun i hi => by
    have h1 := hh i hi
    have hc : cs[i]? = some (cs[i]'(by omega)) := List.getElem?_eq_getElem (by omega)
    have h2 : (cs.drop (i * 1)).take 1 = [cs[i]'(by omega)] := by
      rw [Nat.mul_one, List.drop_eq_getElem_cons (by omega : i < cs.length)]; rfl
    have h3 : xs[i]? = some (xs[i]'(by omega)) := List.getElem?_eq_getElem (by omega)
    rw [h2, h3] at h1
    obtain ⟨c, hcc⟩ := trod_u8 Try.underlying5 h1
    exact ⟨c, by rw [hc, hcc]; rfl⟩
  obtain ⟨l, hl2, hR⟩ := pick_each hx
  refine ⟨⟨l, hl2⟩, List.ext_getElem? fun i => ?_, trivial⟩
  unfold guc
  rw [List.getElem?_map]
  rcases Nat.lt_or_ge i 16 with h | h
  · have hi : i < l.length := by omega
    rw [hR i _ (List.getElem?_eq_getElem hi), List.getElem?_eq_getElem hi]; rfl
  · rw [List.getElem?_eq_none (show cs.length ≤ i by omega), List.getElem?_eq_none (show l.length ≤ i by omega)]; rfl
theorem open_gu {H : Type} {enc : TypeId × Value → H} {W : World} {base : Nat} {r : Reach} {v : Value} {d : DataW H} {p : List MemPlace}
    (k : Value.okWide Try.prog W r base 30 v) (h : DataW.Trod enc Try.prog W 0 (fun _ => true) true 30 v d p) :
    ∃ g : Gu, v = .agg (guc g).toArray := by
  have hc : Try.prog.cellsOf 30 = 16 := by kernel_rfl
  obtain ⟨cs, rfl, hs⟩ : ∃ cs, v = .agg cs ∧ cs.size = 16 := by
    simp only [Value.okWide, Try.underlying30] at k
    obtain ⟨cs, h1, h2, _⟩ := k
    exact ⟨cs, h1, h2.trans hc⟩
  obtain ⟨fuel, hf⟩ := h
  obtain ⟨g, hg, -⟩ := gu_cells fuel cs.toList _ (by simpa [Value.cells] using hf) (by simpa using hs)
  exact ⟨g, by rw [← hg]⟩
end Go.Proofs.Ytefkmlfpdlnodaa
