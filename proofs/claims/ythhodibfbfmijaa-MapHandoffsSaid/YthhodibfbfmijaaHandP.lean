/- A handoff as bytes: the program's word. No condition. -/
import Derived.Test.YthhodibfbfmijaaHandE
import Derived.Test.YthhodibfbfmijaaSeq
import Derived.Test.YthhodibfbfmijaaGr
set_option linter.unusedVariables false
set_option linter.unusedSimpArgs false
namespace Go.Proofs.Ythhodibfbfmijaa
open Go.RowKit
/-- a number of 64 bits, as a cell -/
def uc (n : Nat) : List Value := [.int .u64 n]
theorem byteRow22 : ByteRow Try.prog 46 5 := ⟨Try.underlying46, by kernel_rfl⟩
theorem ucLay : Lay Try.prog 67 24 1 8 uc := ⟨Try.underlying67, by decide, fun _ => rfl, fun g u h => by
  simp only [uc, List.mem_singleton] at h; subst h; rfl, by
  have h : (Try.prog.info? 24).map (fun i => (i.zero, i.size, i.bytes)) = some (some (.int .u64 0), 1, 8) := by kernel_rfl
  obtain ⟨i, hi, hz0, hz1, hz2⟩ := info_parts h
  exact ⟨i, _, hi, hz0, hz1, hz2, rfl⟩⟩
theorem OwnS.made {α : Type} {cells : α → List Value} {sz : Nat} {E : TypeId} (hc : ∀ g, (cells g).length = sz) (w : World) (B : Nat) (l : List α) (hB : B ≤ w.heap.size) (hm : l.length ≤ maxLen) :
    OwnS cells E sz (w.alloc (.cells (l.flatMap cells).toArray E)) B (.slice (some ⟨w.heap.size, 0, none⟩) l.length l.length) l :=
  ⟨flat_length hc l, .inr ⟨w.heap.size, l.length, _, rfl, hB, heap_alloc_new w _, Nat.le_refl _, hm, by simpa using flat_length hc l, by
    rw [List.take_of_length_le (by simp [flat_length hc])]⟩⟩
theorem Own.made {E : TypeId} (w : World) (B : Nat) (l : List UInt8) (hB : B ≤ w.heap.size) (hm : l.length ≤ maxLen) :
    Own E (w.alloc (.cells (l.map bv).toArray E)) B (.slice (some ⟨w.heap.size, 0, none⟩) l.length l.length) l :=
  ⟨by simp, .inr ⟨w.heap.size, l.length, _, rfl, hB, heap_alloc_new w _, Nat.le_refl _, hm, by simp, by
    rw [List.take_of_length_le (by simp)]⟩⟩
theorem wp_append_S {α : Type} {cells : α → List Value} {sz : Nat} {E : TypeId} {P : Program} {T : TypeId} {nb : Nat} (L : Lay P T E sz nb cells) {w : World} {o : Oper} {a : Act} {K : Act → World → Prop} {Q : Exit → Act → World → Prop} (s x : Operand)
    (ho : o.op = .call { callee := .builtin .append, args := #[s, x], argTypes := #[T, T] })
    (B : Nat) (v : Value) (l : List α) (hs : a.eval s = v) (hown : OwnS cells E sz w B v l) (ad : Addr) (m c : Nat) (l2 : List α) (hx : a.eval x = .slice (some ad) m c) (hl : l2.length = m) (hr : RdS cells sz w (some ad) l2)
    (hlen : l.length + m ≤ maxLen) (hbytes : (l.length + m) * nb ≤ 140737488355328) (hB : B ≤ w.heap.size)
    (h : ∀ v' w', OwnS cells E sz w' B v' (l ++ l2) → w.grownBy w' v.ownBlock → K (a.put o.dst v') w') : o.wp P a w K Q := by
  obtain ⟨i, z, hi, hz0, hz1, hz2, hz3⟩ := L.info
  refine wp_append_own w s x _ ho B _ i z sz nb L.ht hi hz0 hz1 hz2 hz3 L.s0 v _ _ hs hown ad m c (l2.flatMap cells) hx (by rw [flat_length L.len, hl]) (hr.news L.len L.s0) (flatS_one L.one _)
    hlen hbytes hB ?_
  intro v' w' h1 h2 _
  refine h v' w' ?_ h2
  unfold OwnS
  rw [List.length_append, List.flatMap_append, hl]
  exact h1
/-- the same; the new value's form is told -/
theorem wp_append_SN {α : Type} {cells : α → List Value} {sz : Nat} {E : TypeId} {P : Program} {T : TypeId} {nb : Nat} (L : Lay P T E sz nb cells) {w : World} {o : Oper} {a : Act} {K : Act → World → Prop} {Q : Exit → Act → World → Prop} (s x : Operand)
    (ho : o.op = .call { callee := .builtin .append, args := #[s, x], argTypes := #[T, T] })
    (B : Nat) (v : Value) (l : List α) (hs : a.eval s = v) (hown : OwnS cells E sz w B v l) (ad : Addr) (m c : Nat) (l2 : List α) (hx : a.eval x = .slice (some ad) m c) (hl : l2.length = m) (hr : RdS cells sz w (some ad) l2)
    (hlen : l.length + m ≤ maxLen) (hbytes : (l.length + m) * nb ≤ 140737488355328) (hB : B ≤ w.heap.size) (N : Nat) (hN : l.length + m = N) (hpos : 0 < N)
    (h : ∀ g C w', OwnS cells E sz w' B (.slice (some ⟨g, 0, none⟩) N C) (l ++ l2) → w.grownBy w' v.ownBlock → K (a.put o.dst (.slice (some ⟨g, 0, none⟩) N C)) w') : o.wp P a w K Q :=
  wp_append_S L s x ho B v l hs hown ad m c l2 hx hl hr hlen hbytes hB fun v' w' h1 h2 => by
    rcases h1.cases L.len with ⟨_, h0⟩ | ⟨g, C, hv, _⟩
    · have : l.length + l2.length = 0 := by rw [← List.length_append, h0]; rfl
      omega
    · have e : (l ++ l2).length = N := by rw [List.length_append]; omega
      rw [e] at hv
      subst hv
      exact h g C w' h1 h2
end Go.Proofs.Ythhodibfbfmijaa
