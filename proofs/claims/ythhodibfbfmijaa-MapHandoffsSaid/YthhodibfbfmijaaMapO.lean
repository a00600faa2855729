/- Lists of regions that the call itself made; the law's own and still. No condition. -/
import Derived.Test.YthhodibfbfmijaaMapQ
set_option linter.unusedVariables false
set_option linter.unusedSimpArgs false
namespace Go.Proofs.Ythhodibfbfmijaa
open Go.RowKit
def flatG (l : List Rg) : List Value := l.flatMap rgc
theorem flatG_length (l : List Rg) : (flatG l).length = l.length * 6 := by
  induction l with
  | nil => rfl
  | cons x l ih => simp [flatG, rgc] at ih ⊢; omega
theorem flatG_append (l m : List Rg) : flatG (l ++ m) = flatG l ++ flatG m := by simp [flatG]
theorem flatG_at (l : List Rg) : ∀ (j i : Nat), j < l.length → i < 6 → (flatG l)[j * 6 + i]? = (rgc (gAt l j))[i]? := by
  induction l with
  | nil => intro j i h; simp at h
  | cons x l ih =>
    intro j i hj hi
    cases j with
    | zero =>
      have : (flatG (x :: l)) = rgc x ++ flatG l := by simp [flatG]
      rw [this, List.getElem?_append_left (by simp [rgc]; omega)]
      simp [gAt]
    | succ j =>
      have : (flatG (x :: l)) = rgc x ++ flatG l := by simp [flatG]
      rw [this, List.getElem?_append_right (by simp [rgc]; omega)]
      have e : (j + 1) * 6 + i - (rgc x).length = j * 6 + i := by simp [rgc]; omega
      rw [e, ih j i (by simpa using hj) hi]
      simp [gAt]
theorem flatG_one (l : List Rg) : ∀ u ∈ flatG l, u.oneCell' = true := by
  intro u hu
  simp only [flatG, List.mem_flatMap] at hu
  obtain ⟨g, _, hg⟩ := hu
  simp [rgc] at hg
  rcases hg with h | h | h | h | h | h <;> subst h <;> rfl
def OwnG (w : World) (B : Nat) (v : Value) (l : List Rg) : Prop := w.ownsRow B 30 6 v l.length (flatG l)
theorem OwnG.cases {w : World} {B : Nat} {v : Value} {l : List Rg} (h : OwnG w B v l) :
    (v = .slice none 0 0 ∧ l = []) ∨ ∃ g cap, v = .slice (some ⟨g, 0, none⟩) l.length cap ∧ B ≤ g ∧ g < w.heap.size ∧ l.length ≤ cap ∧ cap ≤ maxLen ∧
      (∀ j, j < l.length → ∀ i u, (rgc (gAt l j))[i]? = some u → w.cell? ⟨g, j * 6 + i, none⟩ = some u) ∧ (∀ j, w.frozen? ⟨g, j, none⟩ = false) := by
  have h0 := h
  rcases h.2 with ⟨rfl, hn⟩ | ⟨g, cap, cur, rfl, hb, hg, hnc, hcm, hcs, htake⟩
  · exact .inl ⟨rfl, List.eq_nil_of_length_eq_zero hn⟩
  · refine .inr ⟨g, cap, rfl, hb, (Array.getElem?_eq_some_iff.1 hg).1, hnc, hcm, fun j hj i u hu => ?_, fun j => World.ownsRow.frozenAt h0 j⟩
    have hi : i < 6 := by
      rcases Nat.lt_or_ge i 6 with h | h
      · exact h
      · rw [List.getElem?_eq_none (by simpa [rgc] using h)] at hu; cases hu
    rw [World.ownsRow.cellAt h0 (j * 6 + i) (by omega), flatG_at l j i hj hi, hu]
theorem OwnG.rd {w : World} {B : Nat} {v : Value} {l : List Rg} (h : OwnG w B v l) : ∃ ao cap, v = .slice ao l.length cap ∧ l.length ≤ cap ∧ cap ≤ maxLen ∧ RdG w ao l := by
  rcases h.cases with ⟨rfl, rfl⟩ | ⟨g, cap, rfl, _, hg, h1, h2, h3, _⟩
  · exact ⟨none, 0, rfl, Nat.le_refl _, by decide, fun j hj => by simp at hj⟩
  · exact ⟨_, cap, rfl, h1, h2, fun j hj => ⟨g, 0, rfl, hg, fun i u hu => by rw [Nat.zero_add]; exact h3 j hj i u hu⟩⟩
theorem OwnG.later {w w' : World} {B : Nat} {v : Value} {l : List Rg} (h : OwnG w B v l) (hb : Below w.heap.size w w') : OwnG w' B v l :=
  World.ownsRow.kept h (row := none) ⟨hb.os, hb.tape, hb.output, hb.size, fun k hk _ => hb.block k hk⟩ (by cases hv : v.ownBlock <;> simp)
theorem OwnG.alloc {w : World} {B : Nat} {v : Value} {l : List Rg} (h : OwnG w B v l) (o : Obj) : OwnG (w.alloc o) B v l := World.ownsRow.alloc h o
theorem OwnG.block {w : World} {B : Nat} {v : Value} {l : List Rg} (h : OwnG w B v l) : ∀ k, v.ownBlock = some k → B ≤ k := by
  rcases h.cases with ⟨e, _⟩ | ⟨g, C, e, h1, _⟩
  · subst e; intro k hk; cases hk
  · subst e; intro k hk; cases hk; exact h1
theorem OwnG.made0 (w : World) (B : Nat) (hB : B ≤ w.heap.size) : OwnG (w.alloc (.cells #[] 30)) B (.slice (some ⟨w.heap.size, 0, none⟩) 0 0) [] :=
  World.ownsRow_made w #[] 0 hB (by decide) rfl
theorem OwnG.nil (w : World) (B : Nat) : OwnG w B (.slice none 0 0) [] := World.ownsRow_nil w B _ 6
theorem RdG.news {w : World} {a : Addr} {l : List Rg} (h : RdG w (some a) l) : ∀ j u, (flatG l)[j]? = some u → w.cell? (a.add j) = some u := by
  intro j u hu
  have hlt : j < l.length * 6 := by
    rw [← flatG_length]
    rcases Nat.lt_or_ge j (flatG l).length with h | h
    · exact h
    · rw [List.getElem?_eq_none h] at hu; cases hu
  obtain ⟨b, off, e, _, hc⟩ := h (j / 6) (by omega)
  cases e
  have hadd : (⟨b, off, none⟩ : Addr).add j = ⟨b, off + j, none⟩ := by clear hu hc h; unfold Addr.add; split <;> simp_all
  have e2 : j = j / 6 * 6 + j % 6 := by omega
  rw [e2, flatG_at l _ _ (by omega) (by omega)] at hu
  have := hc _ _ hu
  rw [hadd, show off + j = off + j / 6 * 6 + j % 6 by omega]
  exact this
theorem infoG : (Try.prog.info? 30).map (fun i => (i.zero, i.size, i.bytes)) = some (some (.agg #[.int .u64 0, .int .u64 0, .bool false, .bool false, .bool false, .bool false]), 6, 24) := by kernel_rfl
/-- append(s, x...) of regions -/
theorem wpList_append_G {w : World} {ops : Array Oper} {rest : List Oper} {o : Oper} {a : Act} {Q : Exit → Act → World → Prop} (hgd : o.guard = none) (s x : Operand)
    (ho : o.op = .call { callee := .builtin .append, args := #[s, x], argTypes := #[22, 22] })
    (B : Nat) (v : Value) (l : List Rg) (hs : a.eval s = v) (hown : OwnG w B v l) (ao : Option Addr) (m c : Nat) (l2 : List Rg) (hx : a.eval x = .slice ao m c) (hc : ao = none → c = 0) (hl : l2.length = m) (hr : RdG w ao l2)
    (hbytes : (l.length + m) * 24 ≤ 140737488355328) (hB : B ≤ w.heap.size)
    (h : ∀ v' w', OwnG w' B v' (l ++ l2) → w.grownBy w' v.ownBlock → wpList Try.prog ops Q rest (a.put o.dst v') w') : wpList Try.prog ops Q (o :: rest) a w := by
  obtain ⟨i, hi, hz0, hz1, hz2⟩ := info_parts infoG
  cases ao with
  | none =>
    obtain rfl := hc rfl
    have hm : m = 0 := by
      by_cases h0 : 0 < l2.length
      · obtain ⟨_, _, e, _⟩ := hr 0 h0; cases e
      · omega
    subst hm
    obtain rfl : l2 = [] := List.eq_nil_of_length_eq_zero hl
    exact wpList_append_own_none hgd s x _ ho B _ i 6 Try.underlying22 hi v _ _ hs hown hx (h v w (by simpa using hown) (World.grownBy.refl _ _))
  | some ad =>
    refine wpList_append_own w hgd s x _ ho B _ i _ 6 24 Try.underlying22 hi hz0 hz1 hz2 rfl (by decide) v _ _ hs hown ad m c (flatG l2) hx (by rw [flatG_length, hl]) hr.news (flatG_one _)
      (by simp only [maxLen]; omega) (by omega) hB ?_
    intro v' w' h1 h2 _
    refine h v' w' ?_ h2
    unfold OwnG
    rw [List.length_append, flatG_append, hl]
    exact h1
end Go.Proofs.Ythhodibfbfmijaa
