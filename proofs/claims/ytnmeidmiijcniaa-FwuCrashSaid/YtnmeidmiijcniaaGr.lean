/- Appending to own lists of bytes: where the new list lies, and what is touched. No condition. -/
import Derived.Test.YtnmeidmiijcniaaProg
import Derived.Test.YtnmeidmiijcniaaHB
import Derived.Test.YtnmeidmiijcniaaNum
import Derived.Maps.AppendAt
import Derived.Deep.RegionLaw
import Derived.Laws.AppendOwnNone
set_option linter.unusedVariables false
set_option linter.unusedSimpArgs false
namespace Go.Proofs.Ytnmeidmiijcniaa
open Go.RowKit
/-- append(s, x...) of bytes that lie somewhere: where the new value's row lies is told -/
theorem wp_append_at {P : Program} {T E : TypeId} (R : ByteRow P T E) {w : World} {o : Oper} {a : Act} {K : Act → World → Prop} {Q : Exit → Act → World → Prop} (s x : Operand)
    (ho : o.op = .call { callee := .builtin .append, args := #[s, x], argTypes := #[T, T] })
    (B : Nat) (v : Value) (l : List UInt8) (hs : a.eval s = v) (hown : Own E w B v l) (ad : Addr) (m c : Nat) (l2 : List UInt8) (hx : a.eval x = .slice (some ad) m c) (hl : l2.length = m) (hr : Rd w (some ad) l2)
    (hbytes : l.length + m ≤ 140737488355328) (hB : B ≤ w.heap.size) (N : Nat) (hN : l.length + m = N) (hpos : 0 < N)
    (h : ∀ g C w', Own E w' B (.slice (some ⟨g, 0, none⟩) N C) (l ++ l2) → w.grownBy w' v.ownBlock → (some g = v.ownBlock ∨ g = w.heap.size) → K (a.put o.dst (.slice (some ⟨g, 0, none⟩) N C)) w') : o.wp P a w K Q := by
  obtain ⟨i, hi, hz0, hz1, hz2⟩ := info_parts R.info
  obtain ⟨v', w', hrun, h2, h3, h4, h5⟩ := run_append_own_at (P := P) w B T o.type E i (.int .u8 0) 1 1 R.ht hi hz0 hz1 hz2 rfl (by decide) v l.length (l.map bv) hown ad m c (l2.map bv) (by simp [hl]) hr.news (bv_one _) (by simp only [maxLen]; omega) (by omega) hB
  unfold Oper.wp execOp
  simp only [ho, resolve, invoke, builtin, Sem.run_bind, Sem.run_pure, Result.andThen_ok, List.map_toArray, List.map_cons, List.map_nil, hs, hx, hrun]
  have hO : Own E w' B v' (l ++ l2) := by
    unfold Own
    rw [List.length_append, List.map_append, hl]
    exact h2
  rcases hO.cases with ⟨_, h0⟩ | ⟨g, C, hv, _⟩
  · have : l.length + l2.length = 0 := by rw [← List.length_append, h0]; rfl
    omega
  · have e : (l ++ l2).length = N := by rw [List.length_append]; omega
    rw [e] at hv
    subst hv
    exact h g C w' hO h3 (h5.imp id (fun e => Option.some.inj e))
theorem wpList_append_at {P : Program} {T E : TypeId} (R : ByteRow P T E) {w : World} {ops : Array Oper} {rest : List Oper} {o : Oper} {a : Act} {Q : Exit → Act → World → Prop} (hgd : o.guard = none) (s x : Operand)
    (ho : o.op = .call { callee := .builtin .append, args := #[s, x], argTypes := #[T, T] })
    (B : Nat) (v : Value) (l : List UInt8) (hs : a.eval s = v) (hown : Own E w B v l) (ad : Addr) (m c : Nat) (l2 : List UInt8) (hx : a.eval x = .slice (some ad) m c) (hl : l2.length = m) (hr : Rd w (some ad) l2)
    (hbytes : l.length + m ≤ 140737488355328) (hB : B ≤ w.heap.size) (N : Nat) (hN : l.length + m = N) (hpos : 0 < N)
    (h : ∀ g C w', Own E w' B (.slice (some ⟨g, 0, none⟩) N C) (l ++ l2) → w.grownBy w' v.ownBlock → (some g = v.ownBlock ∨ g = w.heap.size) → wpList P ops Q rest (a.put o.dst (.slice (some ⟨g, 0, none⟩) N C)) w') : wpList P ops Q (o :: rest) a w :=
  wpList_plain hgd fun _ hK => wp_append_at R s x ho B v l hs hown ad m c l2 hx hl hr hbytes hB N hN hpos fun g C w' h1 h2 h3 => hK _ _ (h g C w' h1 h2 h3)
theorem wp_append_none {P : Program} {T E : TypeId} (R : ByteRow P T E) {w : World} {o : Oper} {a : Act} {K : Act → World → Prop} {Q : Exit → Act → World → Prop} (s x : Operand)
    (ho : o.op = .call { callee := .builtin .append, args := #[s, x], argTypes := #[T, T] })
    (B : Nat) (v : Value) (l : List UInt8) (hs : a.eval s = v) (hown : Own E w B v l) (hx : a.eval x = .slice none 0 0) (h : K (a.put o.dst v) w) : o.wp P a w K Q := by
  obtain ⟨i, hi, hz0, hz1, hz2⟩ := info_parts R.info
  have hrun := run_append_owned_none (P := P) (w := w) B T o.type E i 1 R.ht hi v _ _ hown
  unfold Oper.wp
  simp [execOp, ho, resolve, invoke, builtin, hs, hx, hrun, Result.andThen]
  exact h
theorem own_blk {E : TypeId} {w : World} {B : Nat} {v : Value} {l : List UInt8} (h : Own E w B v l) {k : Nat} (hk : v.ownBlock = some k) : B ≤ k ∧ k < w.heap.size := by
  rcases h.cases with ⟨rfl, _⟩ | ⟨g, cap, rfl, h1, h2, _⟩
  · cases hk
  · have e : g = k := Option.some.inj hk
    omega
/-- only a list's own block is touched; where the new list lies -/
structure Gr (w w' : World) (v v' : Value) : Prop where
  g : w.grownBy w' v.ownBlock
  k : ∀ q, v'.ownBlock = some q → v.ownBlock = some q ∨ w.heap.size ≤ q
theorem Gr.refl (w : World) (v : Value) : Gr w w v v := ⟨World.grownBy.refl _ _, fun q h => Or.inl h⟩
theorem Gr.trans {w w1 w2 : World} {v v1 v2 : Value} (h1 : Gr w w1 v v1) (h2 : Gr w1 w2 v1 v2) : Gr w w2 v v2 := by
  refine ⟨⟨h2.g.os.trans h1.g.os, h2.g.tape.trans h1.g.tape, h2.g.output.trans h1.g.output, Nat.le_trans h1.g.size h2.g.size, fun k hk hne => ?_⟩, fun q hq => ?_⟩
  · rw [h2.g.block k (Nat.lt_of_lt_of_le hk h1.g.size) (fun e => ?_)]
    · exact h1.g.block k hk hne
    · rcases h1.k k e.symm with h | h
      · exact hne h.symm
      · omega
  · rcases h2.k q hq with h | h
    · exact h1.k q h
    · exact Or.inr (Nat.le_trans h1.g.size h)
theorem Gr.below {w w' : World} {v v' : Value} {B : Nat} {l : List UInt8} (h : Gr w w' v v') (ho : Own 5 w B v l) (hB : B ≤ w.heap.size) : Below B w w' :=
  (Below.refl B w).grown h.g hB (fun q hq => (own_blk ho hq).1)
theorem encL_snoc (j v : Nat) : encL (j + 1) false v = encL j false v ++ [UInt8.ofNat (v / 256 ^ j)] := by
  unfold encL
  rw [List.range_succ, List.map_append]
  rfl
end Go.Proofs.Ytnmeidmiijcniaa
