/- Lists of structs (or arrays) that the call itself made; lists that are read. No condition. -/
import Derived.Test.YtcbiohpgmooefaaOpenS
set_option linter.unusedVariables false
set_option linter.unusedSimpArgs false
namespace Go.Proofs.Ytcbiohpgmooefaa
open Go.RowKit
/-- how elements lie in memory -/
structure Lay {α : Type} (P : Program) (T E : TypeId) (sz nb : Nat) (cells : α → List Value) : Prop where
  ht : P.underlying T = some (.slice E)
  s0 : 0 < sz
  len : ∀ g, (cells g).length = sz
  one : ∀ g u, u ∈ cells g → u.oneCell' = true
  info : ∃ (i : TypeInfo) (z : Value), P.info? E = some i ∧ i.zero = some z ∧ i.size = sz ∧ i.bytes = nb ∧ z.cells.size = sz
section
variable {α : Type} {cells : α → List Value} {sz : Nat} {E : TypeId}
theorem flat_length (hc : ∀ g, (cells g).length = sz) (l : List α) : (l.flatMap cells).length = l.length * sz := by
  induction l with
  | nil => simp
  | cons x l ih => simp only [List.flatMap_cons, List.length_append, hc, ih, List.length_cons]; rw [Nat.succ_mul]; omega
theorem flatS_at (hc : ∀ g, (cells g).length = sz) : ∀ (l : List α) (j i : Nat) (g : α), l[j]? = some g → i < sz → (l.flatMap cells)[j * sz + i]? = (cells g)[i]?
  | [], j, i, g, hj, hi => by simp at hj
  | x :: l, 0, i, g, hj, hi => by
    simp only [List.getElem?_cons_zero, Option.some.injEq] at hj
    subst hj
    rw [List.flatMap_cons, Nat.zero_mul, Nat.zero_add, List.getElem?_append_left (by rw [hc]; exact hi)]
  | x :: l, j + 1, i, g, hj, hi => by
    rw [List.getElem?_cons_succ] at hj
    rw [List.flatMap_cons, List.getElem?_append_right (by rw [hc, Nat.succ_mul]; omega), hc, ← flatS_at hc l j i g hj hi]
    congr 1
    rw [Nat.succ_mul]; omega
def OwnS (cells : α → List Value) (E : TypeId) (sz : Nat) (w : World) (B : Nat) (v : Value) (l : List α) : Prop := w.ownsRow B E sz v l.length (l.flatMap cells)
theorem OwnS.cases {w : World} {B : Nat} {v : Value} {l : List α} (hc : ∀ g, (cells g).length = sz) (h : OwnS cells E sz w B v l) :
    (v = .slice none 0 0 ∧ l = []) ∨ ∃ g cap, v = .slice (some ⟨g, 0, none⟩) l.length cap ∧ B ≤ g ∧ g < w.heap.size ∧ l.length ≤ cap ∧ cap ≤ maxLen ∧
      (∀ j x, l[j]? = some x → ∀ i u, (cells x)[i]? = some u → w.cell? ⟨g, j * sz + i, none⟩ = some u) ∧ (∀ j, w.frozen? ⟨g, j, none⟩ = false) := by
  have h0 := h
  rcases h.2 with ⟨rfl, hn⟩ | ⟨g, cap, cur, rfl, hb, hg, hnc, hcm, hcs, htake⟩
  · exact .inl ⟨rfl, List.eq_nil_of_length_eq_zero hn⟩
  · refine .inr ⟨g, cap, rfl, hb, (Array.getElem?_eq_some_iff.1 hg).1, hnc, hcm, fun j x hj i u hu => ?_, fun j => World.ownsRow.frozenAt h0 j⟩
    have hi : i < sz := by
      rcases Nat.lt_or_ge i sz with h | h
      · exact h
      · rw [List.getElem?_eq_none (by rw [hc]; exact h)] at hu; cases hu
    have hjl : j < l.length := (List.getElem?_eq_some_iff.1 hj).1
    have hlt : j * sz + i < l.length * sz := by
      have : (j + 1) * sz ≤ l.length * sz := Nat.mul_le_mul_right _ hjl
      rw [Nat.succ_mul] at this; omega
    rw [World.ownsRow.cellAt h0 (j * sz + i) hlt, flatS_at hc l j i x hj hi, hu]
theorem OwnS.rd {w : World} {B : Nat} {v : Value} {l : List α} (hc : ∀ g, (cells g).length = sz) (h : OwnS cells E sz w B v l) : ∃ ao cap, v = .slice ao l.length cap ∧ l.length ≤ cap ∧ cap ≤ maxLen ∧ RdS cells sz w ao l ∧ (ao = none → cap = 0) := by
  rcases h.cases hc with ⟨rfl, rfl⟩ | ⟨g, cap, rfl, _, hg, h1, h2, h3, _⟩
  · exact ⟨none, 0, rfl, Nat.le_refl _, by decide, fun j x hj => by simp at hj, fun _ => rfl⟩
  · exact ⟨_, cap, rfl, h1, h2, fun j x hj => ⟨g, 0, rfl, hg, fun i u hu => by rw [Nat.zero_add]; exact h3 j x hj i u hu⟩, fun h => by cases h⟩
theorem OwnS.later {w w' : World} {B : Nat} {v : Value} {l : List α} (h : OwnS cells E sz w B v l) (hb : Below w.heap.size w w') : OwnS cells E sz w' B v l :=
  World.ownsRow.kept h (row := none) ⟨hb.os, hb.tape, hb.output, hb.size, fun k hk _ => hb.block k hk⟩ (by cases hv : v.ownBlock <;> simp)
theorem OwnS.grown {w w' : World} {B : Nat} {v : Value} {l : List α} {row : Option Nat} (h : OwnS cells E sz w B v l) (hg : w.grownBy w' row) (hne : ∀ k, v.ownBlock = some k → row ≠ some k) : OwnS cells E sz w' B v l :=
  World.ownsRow.kept h hg (by
    cases hv : v.ownBlock with
    | none => exact Or.inl rfl
    | some k => exact Or.inr (fun e => hne k hv e.symm))
theorem OwnS.drn {w w' : World} {B : Nat} {v : Value} {l : List α} (h : OwnS cells E sz w B v l) (hd : Drn w w') : OwnS cells E sz w' B v l := h.later (hd.below _)
theorem OwnS.alloc {w : World} {B : Nat} {v : Value} {l : List α} (h : OwnS cells E sz w B v l) (o : Obj) : OwnS cells E sz (w.alloc o) B v l := World.ownsRow.alloc h o
theorem OwnS.mono {w : World} {B B' : Nat} {v : Value} {l : List α} (h : OwnS cells E sz w B v l) (hb : B' ≤ B) : OwnS cells E sz w B' v l := World.ownsRow.mono h hb
theorem OwnS.blk {w : World} {B : Nat} {v : Value} {l : List α} (hc : ∀ g, (cells g).length = sz) (h : OwnS cells E sz w B v l) : ∀ k, v.ownBlock = some k → B ≤ k ∧ k < w.heap.size := by
  rcases h.cases hc with ⟨e, _⟩ | ⟨g, C, e, h1, h2, _⟩
  · subst e; intro k hk; cases hk
  · subst e; intro k hk; cases hk; exact ⟨h1, h2⟩
theorem OwnS.nil (w : World) (B : Nat) : OwnS cells E sz w B (.slice none 0 0) [] := World.ownsRow_nil w B E sz
/-- one element that lies whole in a block -/
theorem RdS.one {w : World} {b : Nat} {t : TypeId} {x : α} (h : HB w b t (cells x)) : RdS cells sz w (some ⟨b, 0, none⟩) [x] := fun j g hj => by
  have hj0 : j = 0 := by
    rcases Nat.lt_or_ge j 1 with h | h
    · omega
    · rw [List.getElem?_eq_none (by simpa using h)] at hj; cases hj
  subst hj0
  simp only [List.getElem?_cons_zero, Option.some.injEq] at hj
  subst hj
  refine ⟨b, 0, rfl, h.lt, fun i v hi => ?_⟩
  rw [show 0 + 0 * sz + i = i by omega]
  exact h.cell hi
theorem RdS.news {w : World} {a : Addr} {l : List α} (hc : ∀ g, (cells g).length = sz) (hs : 0 < sz) (h : RdS cells sz w (some a) l) : ∀ j u, (l.flatMap cells)[j]? = some u → w.cell? (a.add j) = some u := by
  intro j u hu
  have hlt : j < l.length * sz := by
    rw [← flat_length hc]
    rcases Nat.lt_or_ge j (l.flatMap cells).length with h | h
    · exact h
    · rw [List.getElem?_eq_none h] at hu; cases hu
  have hd : j / sz < l.length := by rw [Nat.div_lt_iff_lt_mul hs]; exact hlt
  obtain ⟨x, hx⟩ : ∃ x, l[j / sz]? = some x := ⟨_, List.getElem?_eq_getElem hd⟩
  obtain ⟨b, off, e, _, hcell⟩ := h _ x hx
  cases e
  have hadd : (⟨b, off, none⟩ : Addr).add j = ⟨b, off + j, none⟩ := by clear hu hcell h; unfold Addr.add; split <;> simp_all
  have e2 : j = j / sz * sz + j % sz := by rw [Nat.mul_comm]; exact (Nat.div_add_mod j sz).symm
  have hm : j % sz < sz := Nat.mod_lt _ hs
  have hu2 := hu
  rw [e2, flatS_at hc l _ _ x hx hm] at hu2
  have := hcell _ _ hu2
  rw [hadd, show off + j = off + j / sz * sz + j % sz by omega]
  exact this
theorem flatS_one (h1 : ∀ g u, u ∈ cells g → u.oneCell' = true) (l : List α) : ∀ u ∈ l.flatMap cells, u.oneCell' = true := by
  intro u hu
  rw [List.mem_flatMap] at hu
  obtain ⟨g, _, hg⟩ := hu
  exact h1 g u hg
/-- append(s, x...) of such elements -/
theorem wpList_append_S {P : Program} {T : TypeId} {nb : Nat} (L : Lay P T E sz nb cells) {w : World} {ops : Array Oper} {rest : List Oper} {o : Oper} {a : Act} {Q : Exit → Act → World → Prop} (hgd : o.guard = none) (s x : Operand)
    (ho : o.op = .call { callee := .builtin .append, args := #[s, x], argTypes := #[T, T] })
    (B : Nat) (v : Value) (l : List α) (hs : a.eval s = v) (hown : OwnS cells E sz w B v l) (ao : Option Addr) (m c : Nat) (l2 : List α) (hx : a.eval x = .slice ao m c) (hc : ao = none → c = 0) (hl : l2.length = m) (hr : RdS cells sz w ao l2)
    (hlen : l.length + m ≤ maxLen) (hbytes : (l.length + m) * nb ≤ 140737488355328) (hB : B ≤ w.heap.size)
    (h : ∀ v' w', OwnS cells E sz w' B v' (l ++ l2) → w.grownBy w' v.ownBlock → wpList P ops Q rest (a.put o.dst v') w') : wpList P ops Q (o :: rest) a w := by
  obtain ⟨i, z, hi, hz0, hz1, hz2, hz3⟩ := L.info
  cases ao with
  | none =>
    obtain rfl := hc rfl
    have hm : m = 0 := by
      by_cases h0 : 0 < l2.length
      · obtain ⟨_, _, e, _⟩ := hr 0 _ (List.getElem?_eq_getElem h0); cases e
      · omega
    subst hm
    obtain rfl : l2 = [] := List.eq_nil_of_length_eq_zero hl
    exact wpList_append_own_none hgd s x _ ho B _ i sz L.ht hi v _ _ hs hown hx (h v w (by simpa using hown) (World.grownBy.refl _ _))
  | some ad =>
    refine wpList_append_own w hgd s x _ ho B _ i z sz nb L.ht hi hz0 hz1 hz2 hz3 L.s0 v _ _ hs hown ad m c (l2.flatMap cells) hx (by rw [flat_length L.len, hl]) (hr.news L.len L.s0) (flatS_one L.one _)
      hlen hbytes hB ?_
    intro v' w' h1 h2 _
    refine h v' w' ?_ h2
    unfold OwnS
    rw [List.length_append, List.flatMap_append, hl]
    exact h1
end
end Go.Proofs.Ytcbiohpgmooefaa
