/- A block of which a part, or all, is filled anew. No condition. -/
import Derived.Test.YtcbiohpgmooefaaHB
set_option linter.unusedVariables false
set_option linter.unusedSimpArgs false
namespace Go.Proofs.Ytcbiohpgmooefaa
open Go.RowKit
/-- a block filled anew -/
theorem HB.fill : ∀ (vs cs : List Value) (o : Nat) {w : World} {b : Nat} {t : TypeId}, HB w b t cs → o + vs.length ≤ cs.length → HB (w.setCells b o vs) b t (cs.take o ++ vs ++ cs.drop (o + vs.length))
  | [], cs, o, w, b, t, h, _ => by simpa [World.setCells] using h
  | v :: vs, cs, o, w, b, t, h, hl => by
    have h1 := HB.fill vs (cs.set o v) (o + 1) (h.set o v) (by simp at hl ⊢; omega)
    have e : (cs.set o v).take (o + 1) ++ vs ++ (cs.set o v).drop (o + 1 + vs.length) = cs.take o ++ (v :: vs) ++ cs.drop (o + (v :: vs).length) := by
      have ho : o < cs.length := by simp at hl; omega
      rw [List.drop_set_of_lt (by omega), List.take_set, List.set_eq_take_append_cons_drop, List.length_take]
      simp only [Nat.min_eq_left (show o + 1 ≤ cs.length by omega), if_pos (Nat.lt_succ_self o), List.take_take, Nat.min_eq_left (Nat.le_succ o), List.length_cons]
      rw [List.drop_of_length_le (by simp; omega)]
      simp [Nat.add_assoc, Nat.add_comm 1]
    rw [e] at h1
    exact h1
theorem HB.fillAll {w : World} {b : Nat} {t : TypeId} {cs vs : List Value} (h : HB w b t cs) (hl : vs.length = cs.length) : HB (w.setCells b 0 vs) b t vs := by
  have := HB.fill vs cs 0 h (by omega)
  rw [List.take_zero, List.nil_append, List.drop_of_length_le (by omega), List.append_nil] at this
  exact this
theorem grown_setCells (b : Nat) : ∀ (vs : List Value) (o : Nat) (w : World), w.grownBy (w.setCells b o vs) (some b) := by
  intro vs
  induction vs with
  | nil => intro o w; exact World.grownBy.refl _ _
  | cons v vs ih =>
    intro o w
    exact (grown_set w ⟨b, o, none⟩ v).trans (ih (o + 1) _)
end Go.Proofs.Ytcbiohpgmooefaa
