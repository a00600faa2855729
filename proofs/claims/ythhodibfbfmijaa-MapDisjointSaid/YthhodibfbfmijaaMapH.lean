/- Check of memmap and the document's. No condition. -/
import Derived.Test.YthhodibfbfmijaaMapD
set_option linter.unusedVariables false
set_option linter.unusedSimpArgs false
namespace Go.Proofs.Ythhodibfbfmijaa
open Go.RowKit
/-- what is wrong with region k, those ahead of it taken -/
def ckAt (l : List Rg) (k : Nat) : Int :=
  if inR (gAt l k).base (gAt l k).size = false then 224 else if ((gAt l k).w && (gAt l k).x) = true then 222 else if freeR (l.take k) (gAt l k).base (gAt l k).size = false then 223 else 0
def ckFrom (l : List Rg) : Nat → Nat → Int
  | 0, _ => 0
  | n + 1, k => if ckAt l k = 0 then ckFrom l n (k + 1) else ckAt l k
def ckE (l : List Rg) : Int := if 16 < l.length then 225 else ckFrom l l.length 0
theorem ckFrom_hit (l : List Rg) : ∀ (n k j : Nat), k ≤ j → j < k + n → (∀ i, k ≤ i → i < j → ckAt l i = 0) → ckAt l j ≠ 0 → ckFrom l n k = ckAt l j := by
  intro n
  induction n with
  | zero => intro k j h1 h2; omega
  | succ n ih =>
    intro k j h1 h2 h3 h4
    unfold ckFrom
    by_cases e : k = j
    · subst e; rw [if_neg h4]
    · rw [if_pos (h3 k (Nat.le_refl _) (by omega))]
      exact ih (k + 1) j (by omega) (by omega) (fun i hi => h3 i (by omega)) h4
theorem ckFrom_all (l : List Rg) : ∀ (n k : Nat), (∀ i, k ≤ i → i < k + n → ckAt l i = 0) → ckFrom l n k = 0 := by
  intro n
  induction n with
  | zero => intro k h; rfl
  | succ n ih =>
    intro k h
    unfold ckFrom
    rw [if_pos (h k (Nat.le_refl _) (by omega))]
    exact ih (k + 1) fun i h1 h2 => h i (by omega) (by omega)
theorem ckE_hit {l : List Rg} {j : Nat} (h : ¬ 16 < l.length) (hj : j < l.length) (h3 : ∀ i, i < j → ckAt l i = 0) (h4 : ckAt l j ≠ 0) : ckE l = ckAt l j := by
  unfold ckE; rw [if_neg h]
  exact ckFrom_hit l l.length 0 j (by omega) (by omega) (fun i _ hi => h3 i hi) h4
theorem ckE_all {l : List Rg} (h : ¬ 16 < l.length) (h3 : ∀ i, i < l.length → ckAt l i = 0) : ckE l = 0 := by
  unfold ckE; rw [if_neg h]
  exact ckFrom_all l l.length 0 fun i _ hi => h3 i (by omega)
end Go.Proofs.Ythhodibfbfmijaa
