/- RAM's bytes behind a store; bytes that may be gone to: plain laws. No condition. -/
import Derived.Test.YtcbiohpgmooefaaRmN
set_option linter.unusedVariables false
set_option linter.unusedSimpArgs false
namespace Go.Proofs.Ytcbiohpgmooefaa
theorem spl_out {m b : List UInt8} {o i : Nat} (h : o + b.length ≤ m.length) (hi : i < o ∨ o + b.length ≤ i) : (spl m o b)[i]? = m[i]? := by
  unfold spl
  have e : (m.take o).length = o := by rw [List.length_take]; omega
  rcases hi with hi | hi
  · rw [List.append_assoc, List.getElem?_append_left (by omega), List.getElem?_take, if_pos hi]
  · rw [List.getElem?_append_right (by rw [List.length_append]; omega), List.length_append, List.getElem?_drop, e]
    congr 1
    omega
theorem spl_in {m b : List UInt8} {o i : Nat} (h : o + b.length ≤ m.length) (h1 : o ≤ i) (h2 : i < o + b.length) : (spl m o b)[i]? = b[i - o]? := by
  unfold spl
  have e : (m.take o).length = o := by rw [List.length_take]; omega
  rw [List.append_assoc, List.getElem?_append_right (by omega), e, List.getElem?_append_left (by omega)]
theorem mayGo_all {t : List Rg} {sec : Bool} {a : Int} : ∀ {n x y : Nat}, mayGo t sec a x n = 0 → x ≤ y → y < x + n → mayAt t sec a y = 0
  | 0, x, y, _, h1, h2 => by omega
  | n + 1, x, y, h, h1, h2 => by
    have h3 : (if mayAt t sec a x = 0 then mayGo t sec a (x + 1) n else mayAt t sec a x) = 0 := h
    by_cases h4 : mayAt t sec a x = 0
    · rw [if_pos h4] at h3
      by_cases h5 : x = y
      · rw [← h5]; exact h4
      · exact mayGo_all h3 (by omega) (by omega)
    · rw [if_neg h4] at h3
      exact absurd h3 h4
/-- where a store went through, each byte's region is open -/
theorem store_open {t : List Rg} {x n y : Nat} (h : mayR t false 2 x n = 0) (h1 : x ≤ y) (h2 : y < x + n) : ∃ g, findR t y = some g ∧ g.s = false ∧ g.w = true := by
  unfold mayR at h
  rw [if_neg (by decide)] at h
  split at h
  · cases h
  · have h3 := mayGo_all h h1 h2
    unfold mayAt at h3
    split at h3
    · cases h3
    · rename_i g hg
      refine ⟨g, hg, ?_⟩
      unfold opn right at h3
      cases h5 : g.s <;> cases h6 : g.w <;> simp [h5, h6] at h3 ⊢
end Go.Proofs.Ytcbiohpgmooefaa
