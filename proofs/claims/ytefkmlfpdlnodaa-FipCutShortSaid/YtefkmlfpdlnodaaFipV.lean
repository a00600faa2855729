/- What a package's table never holds: the plain laws. No condition. -/
import Derived.Test.YtefkmlfpdlnodaaFipI
set_option linter.unusedVariables false
set_option linter.unusedSimpArgs false
namespace Go.Proofs.Ytefkmlfpdlnodaa
open Go.RowKit
theorem chkGo_lap {n e : Nat} : ∀ (todo done : List En), chkGo n e done todo = 0 → ∀ i x, todo[i]? = some x → ∀ y ∈ done ++ todo.take i, lap x y = false
  | [], _, _, i, x, hx, _, _ => by simp at hx
  | z :: r, done, h, i, x, hx, y, hy => by
    rw [chkGo] at h
    split at h
    · cases h
    · split at h
      · cases h
      · rename_i h2
        cases i with
        | zero =>
          simp only [List.getElem?_cons_zero, Option.some.injEq] at hx
          subst hx
          simp only [List.take_zero, List.append_nil] at hy
          cases hl : lap z y with
          | false => rfl
          | true => exact absurd (List.any_eq_true.2 ⟨y, hy, hl⟩) h2
        | succ i =>
          rw [List.getElem?_cons_succ] at hx
          refine chkGo_lap r _ h i x hx y ?_
          rw [List.take_succ_cons] at hy
          simpa [List.append_assoc] using hy
theorem tabGo_ids {l : List UInt8} {es : List En} {e : Nat} {c : Int} : ∀ (F a : Nat) (es0 : List En), tabGo l F a es0 = (some (es, e), c) → (∀ x ∈ es0, x.id ≠ gz) → (es0.map En.id).Nodup →
    (∀ x ∈ es, x.id ≠ gz) ∧ (es.map En.id).Nodup
  | 0, a, es0, h, _, _ => by simp [tabGo] at h
  | F + 1, a, es0, h, ho, hn => by
    rw [tabGo] at h
    split at h
    · cases h
    · split at h
      · split at h
        · cases h; exact ⟨ho, hn⟩
        · cases h
      · rename_i hgz
        split at h
        · cases h
        · split at h
          · cases h
          · rename_i hmem
            refine tabGo_ids F _ _ h (fun x hx => ?_) ?_
            · rw [List.mem_append, List.mem_singleton] at hx
              rcases hx with hx | rfl
              · exact ho x hx
              · exact hgz
            · rw [List.map_append, List.nodup_append]
              refine ⟨hn, by simp, fun a ha b hb => ?_⟩
              simp only [List.map_cons, List.map_nil, List.mem_singleton] at hb
              rintro rfl
              subst hb
              exact hmem ha
theorem openR_apart {l : List UInt8} {es : List En} {c : Int} (h : openR l = (some es, c)) {i : Nat} {x : En} (hx : es[i]? = some x) :
    x.id ≠ gz ∧ 16 + 40 * (es.length + 1) ≤ x.off ∧ ∀ (k : Nat) (y : En), k < i → es[k]? = some y → x.id ≠ y.id ∧ lap x y = false := by
  obtain ⟨_, _, _, e, ht, hc⟩ := openR_some h
  obtain ⟨h1, h2⟩ := tabGo_ids _ _ _ ht (fun x hx => by cases hx) List.nodup_nil
  obtain ⟨_, _, _, _, he⟩ := tabR_ok ht
  obtain ⟨_, h4, _⟩ := badE_false (chkGo_in _ _ hc x (List.mem_of_getElem? hx))
  refine ⟨h1 x (List.mem_of_getElem? hx), by omega, fun k y hk hy => ⟨fun e => ?_, ?_⟩⟩
  · have hi : i < es.length := (List.getElem?_eq_some_iff.1 hx).1
    have a1 : (es.map En.id)[i]? = some x.id := by rw [List.getElem?_map, hx]; rfl
    have a2 : (es.map En.id)[k]? = some x.id := by rw [List.getElem?_map, hy, e]; rfl
    have := (List.getElem?_inj (by simpa using hi) h2).1 (a1.trans a2.symm)
    omega
  · refine chkGo_lap _ _ hc i x hx y ?_
    rw [List.nil_append]
    exact List.mem_of_getElem? (show (es.take i)[k]? = some y by rw [List.getElem?_take_of_lt hk]; exact hy)
end Go.Proofs.Ytefkmlfpdlnodaa
