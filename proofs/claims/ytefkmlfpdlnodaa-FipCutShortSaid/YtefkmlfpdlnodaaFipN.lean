/- What a package is, in plain Lean: its table, whether it may be opened, an image, how one is made. No condition. -/
import Derived.Test.YtefkmlfpdlnodaaGu
import Derived.Test.YtefkmlfpdlnodaaNum
set_option linter.unusedVariables false
set_option linter.unusedSimpArgs false
namespace Go.Proofs.Ytefkmlfpdlnodaa
open Go.RowKit
def guAt (l : List UInt8) (a : Nat) : Gu := ⟨(List.range 16).map fun i => l[a + i]?.getD 0, by simp⟩
def entAt (l : List UInt8) (a : Nat) : En := ⟨guAt l a, getN l (a + 16) 8 false, getN l (a + 24) 8 false, getN l (a + 32) 8 false⟩
/-- the table from a place on, behind what was read -/
def tabGo (l : List UInt8) : Nat → Nat → List En → Option (List En × Nat) × Int
  | 0, _, _ => (none, 196)
  | F + 1, a, es =>
    if l.length < a + 40 then (none, 196)
    else if (entAt l a).id = gz then (if entAt l a = ⟨gz, l.length, 0, 0⟩ then (some (es, a + 40), 0) else (none, 196))
    else if es.length = 32 then (none, 192)
    else if (entAt l a).id ∈ es.map En.id then (none, 195)
    else tabGo l F (a + 40) (es ++ [entAt l a])
theorem tabGo_short {l : List UInt8} {a : Nat} (h : l.length < a + 40) (F : Nat) (es : List En) : tabGo l F a es = (none, 196) := by
  cases F with
  | zero => rfl
  | succ F => rw [tabGo, if_pos h]
theorem tabGo_end {l : List UInt8} {a F : Nat} {es : List En} (hF : l.length < F + a) (h : ¬ l.length < a + 40) (h1 : (entAt l a).id = gz) :
    tabGo l F a es = if entAt l a = ⟨gz, l.length, 0, 0⟩ then (some (es, a + 40), 0) else (none, 196) := by
  cases F with
  | zero => omega
  | succ F => rw [tabGo, if_neg h, if_pos h1]
theorem tabGo_many {l : List UInt8} {a F : Nat} {es : List En} (hF : l.length < F + a) (h : ¬ l.length < a + 40) (h1 : (entAt l a).id ≠ gz) (h2 : es.length = 32) : tabGo l F a es = (none, 192) := by
  cases F with
  | zero => omega
  | succ F => rw [tabGo, if_neg h, if_neg h1, if_pos h2]
theorem tabGo_twice {l : List UInt8} {a F : Nat} {es : List En} (hF : l.length < F + a) (h : ¬ l.length < a + 40) (h1 : (entAt l a).id ≠ gz) (h2 : es.length ≠ 32) (h3 : (entAt l a).id ∈ es.map En.id) : tabGo l F a es = (none, 195) := by
  cases F with
  | zero => omega
  | succ F => rw [tabGo, if_neg h, if_neg h1, if_neg h2, if_pos h3]
theorem tabGo_next {l : List UInt8} {a F : Nat} {es : List En} (hF : l.length < F + a) (h : ¬ l.length < a + 40) (h1 : (entAt l a).id ≠ gz) (h2 : es.length ≠ 32) (h3 : (entAt l a).id ∉ es.map En.id) :
    ∃ F', tabGo l F a es = tabGo l F' (a + 40) (es ++ [entAt l a]) ∧ l.length < F' + (a + 40) := by
  cases F with
  | zero => omega
  | succ F => exact ⟨F, by rw [tabGo, if_neg h, if_neg h1, if_neg h2, if_neg h3], by omega⟩
def tabR (l : List UInt8) : Option (List En × Nat) × Int := tabGo l (l.length + 1) 16 []
theorem getN_64 (l : List UInt8) (a : Nat) : getN l a 8 false < 18446744073709551616 := by
  unfold getN
  simp only [Bool.false_eq_true, if_false]
  refine Nat.lt_of_lt_of_le (leN_lt _) ?_
  have : (piece l a 8).length ≤ 8 := by unfold piece; simp; omega
  calc 256 ^ (piece l a 8).length ≤ 256 ^ 8 := Nat.pow_le_pow_right (by decide) this
    _ = 18446744073709551616 := by decide
theorem entAt_ok (l : List UInt8) (a : Nat) : (entAt l a).Ok := ⟨getN_64 _ _, getN_64 _ _, getN_64 _ _⟩
def lap (x y : En) : Bool := decide (x.off < (y.off + y.sz) % 18446744073709551616) && decide (y.off < (x.off + x.sz) % 18446744073709551616)
def badE (n e : Nat) (x : En) : Bool := decide (x.sz = 0) || decide (x.off < e) || decide (n < x.off) || decide (n - x.off < x.sz)
def chkGo (n e : Nat) : List En → List En → Int
  | _, [] => 0
  | done, x :: r => if badE n e x = true then 193 else if done.any (lap x) = true then 194 else chkGo n e (done ++ [x]) r
def openR (l : List UInt8) : Option (List En) × Int :=
  if l.length < 16 ∨ 131072 < l.length ∨ getN l 0 4 false ≠ 2858680321 ∨ getN l 4 4 false = 0 ∨ getN l 8 8 false ≠ 0 then (none, 191)
  else match tabR l with
    | (none, c) => (none, c)
    | (some (es, e), _) => if chkGo l.length e [] es = 0 then (some es, 0) else (none, chkGo l.length e [] es)
def imageR (l : List UInt8) (g : Gu) : List UInt8 × Int :=
  match openR l with
  | (none, c) => ([], c)
  | (some es, _) => match es.find? (fun x => decide (x.id = g)) with
    | none => ([], 197)
    | some x => (piece l x.off x.sz, 0)
theorem tabGo_ok {l : List UInt8} {es : List En} {e : Nat} {c : Int} : ∀ (F a : Nat) (es0 : List En), tabGo l F a es0 = (some (es, e), c) → (∀ x ∈ es0, x.Ok) → es0.length ≤ 32 →
    c = 0 ∧ es.length ≤ 32 ∧ (∀ x ∈ es, x.Ok) ∧ e ≤ l.length ∧ es0.length ≤ es.length ∧ e = a + 40 * (es.length + 1 - es0.length)
  | 0, a, es0, h, _, _ => by simp [tabGo] at h
  | F + 1, a, es0, h, ho, hl => by
    rw [tabGo] at h
    split at h
    · cases h
    · rename_i h1
      split at h
      · split at h
        · cases h
          exact ⟨rfl, hl, ho, by omega, Nat.le_refl _, by omega⟩
        · cases h
      · split at h
        · cases h
        · split at h
          · cases h
          · obtain ⟨r1, r2, r3, r4, r5, r6⟩ := tabGo_ok F (a + 40) (es0 ++ [entAt l a]) h (fun x hx => by
              rw [List.mem_append, List.mem_singleton] at hx
              rcases hx with hx | rfl
              · exact ho x hx
              · exact entAt_ok _ _) (by simp; omega)
            simp only [List.length_append, List.length_cons, List.length_nil] at r5 r6
            exact ⟨r1, r2, r3, r4, by omega, by omega⟩
theorem tabR_ok {l : List UInt8} {es : List En} {e : Nat} {c : Int} (h : tabR l = (some (es, e), c)) : c = 0 ∧ es.length ≤ 32 ∧ (∀ x ∈ es, x.Ok) ∧ e ≤ l.length ∧ e = 16 + 40 * (es.length + 1) := by
  obtain ⟨r1, r2, r3, r4, r5, r6⟩ := tabGo_ok _ _ _ h (fun x hx => by cases hx) (by decide)
  exact ⟨r1, r2, r3, r4, by simpa using r6⟩
theorem tabGo_none {l : List UInt8} {c : Int} : ∀ (F a : Nat) (es0 : List En), tabGo l F a es0 = (none, c) → c ≠ 0
  | 0, a, es0, h => by simp [tabGo] at h; omega
  | F + 1, a, es0, h => by
    rw [tabGo] at h
    split at h
    · cases h; decide
    · split at h
      · split at h
        · cases h
        · cases h; decide
      · split at h
        · cases h; decide
        · split at h
          · cases h; decide
          · exact tabGo_none F _ _ h
theorem chkGo_in {n e : Nat} : ∀ (todo done : List En), chkGo n e done todo = 0 → ∀ x ∈ todo, badE n e x = false
  | [], _, _, x, hx => by cases hx
  | y :: r, done, h, x, hx => by
    rw [chkGo] at h
    split at h
    · cases h
    · rename_i h1
      split at h
      · cases h
      · rw [List.mem_cons] at hx
        rcases hx with rfl | hx
        · simpa using h1
        · exact chkGo_in r _ h x hx
theorem badE_false {n e : Nat} {x : En} (h : badE n e x = false) : x.sz ≠ 0 ∧ e ≤ x.off ∧ x.off ≤ n ∧ x.sz ≤ n - x.off := by
  unfold badE at h
  simp only [Bool.or_eq_false_iff, decide_eq_false_iff_not] at h
  omega
theorem chkGo_val {n e : Nat} : ∀ (todo done : List En), chkGo n e done todo = 0 ∨ chkGo n e done todo = 193 ∨ chkGo n e done todo = 194
  | [], _ => Or.inl rfl
  | y :: r, done => by
    rw [chkGo]
    split
    · exact Or.inr (Or.inl rfl)
    · split
      · exact Or.inr (Or.inr rfl)
      · exact chkGo_val r _
end Go.Proofs.Ytefkmlfpdlnodaa
