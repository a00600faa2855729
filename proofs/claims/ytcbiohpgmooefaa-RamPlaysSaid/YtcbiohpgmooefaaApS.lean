/- Own lists of structs: append, copy, and where they lie. No condition. -/
import Derived.Test.YtcbiohpgmooefaaGr
import Derived.Test.YtcbiohpgmooefaaSeq
import Derived.Test.YtcbiohpgmooefaaFill
import Derived.Laws.CopyRow
import Derived.Lib.AppendZerosOnto
set_option linter.unusedVariables false
set_option linter.unusedSimpArgs false
namespace Go.Proofs.Ytcbiohpgmooefaa
open Go.RowKit
/-- append of such elements: where the new row lies -/
theorem wp_append_SG {α : Type} {cells : α → List Value} {sz : Nat} {E : TypeId} {P : Program} {T : TypeId} {nb : Nat} (L : Lay P T E sz nb cells) {w : World} {o : Oper} {a : Act} {K : Act → World → Prop} {Q : Exit → Act → World → Prop} (s x : Operand)
    (ho : o.op = .call { callee := .builtin .append, args := #[s, x], argTypes := #[T, T] })
    (B : Nat) (v : Value) (l : List α) (hs : a.eval s = v) (hown : OwnS cells E sz w B v l) (ad : Addr) (m c : Nat) (l2 : List α) (hx : a.eval x = .slice (some ad) m c) (hl : l2.length = m) (hr : RdS cells sz w (some ad) l2)
    (hlen : l.length + m ≤ maxLen) (hbytes : (l.length + m) * nb ≤ 140737488355328) (hB : B ≤ w.heap.size)
    (h : ∀ v' w', OwnS cells E sz w' B v' (l ++ l2) → Gr w w' v v' → K (a.put o.dst v') w') : o.wp P a w K Q := by
  obtain ⟨i, z, hi, hz0, hz1, hz2, hz3⟩ := L.info
  obtain ⟨v', w', hrun, h2, h3, h4, h5⟩ := run_append_own_at (P := P) w B T o.type E i z sz nb L.ht hi hz0 hz1 hz2 hz3 L.s0 v l.length (l.flatMap cells) hown ad m c (l2.flatMap cells) (by rw [flat_length L.len, hl]) (hr.news L.len L.s0) (flatS_one L.one _) hlen hbytes hB
  unfold Oper.wp execOp
  simp only [ho, resolve, invoke, builtin, Sem.run_bind, Sem.run_pure, Result.andThen_ok, List.map_toArray, List.map_cons, List.map_nil, hs, hx, hrun]
  refine h v' w' ?_ ⟨h3, fun q hq => ?_⟩
  · unfold OwnS
    rw [List.length_append, List.flatMap_append, hl]
    exact h2
  · rcases h5 with e | e
    · exact Or.inl (e ▸ hq)
    · right
      rw [e] at hq
      exact Nat.le_of_eq (Option.some.inj hq)
theorem wpList_append_SG {α : Type} {cells : α → List Value} {sz : Nat} {E : TypeId} {P : Program} {T : TypeId} {nb : Nat} (L : Lay P T E sz nb cells) {w : World} {ops : Array Oper} {rest : List Oper} {o : Oper} {a : Act} {Q : Exit → Act → World → Prop} (hgd : o.guard = none) (s x : Operand)
    (ho : o.op = .call { callee := .builtin .append, args := #[s, x], argTypes := #[T, T] })
    (B : Nat) (v : Value) (l : List α) (hs : a.eval s = v) (hown : OwnS cells E sz w B v l) (ad : Addr) (m c : Nat) (l2 : List α) (hx : a.eval x = .slice (some ad) m c) (hl : l2.length = m) (hr : RdS cells sz w (some ad) l2)
    (hlen : l.length + m ≤ maxLen) (hbytes : (l.length + m) * nb ≤ 140737488355328) (hB : B ≤ w.heap.size)
    (h : ∀ v' w', OwnS cells E sz w' B v' (l ++ l2) → Gr w w' v v' → wpList P ops Q rest (a.put o.dst v') w') : wpList P ops Q (o :: rest) a w :=
  wpList_plain hgd fun _ hK => wp_append_SG L s x ho B v l hs hown ad m c l2 hx hl hr hlen hbytes hB fun v' w' h1 h2 => hK _ _ (h v' w' h1 h2)
theorem run_copy_S {P : Program} (w : World) (dT sT ty elem : TypeId) (sz g o dLen dCap : Nat) (a : Addr) (sLen sCap : Nat) (cur : List Value) (t : TypeId) (cs : List Value)
    (hu : P.underlying dT = some (.slice elem)) (hs : (P.info? elem).map (·.size) = some sz) (hg : HB w g t cur) (k : Nat) (hk : Nat.min sLen dLen = k) (hn : cs.length = k * sz)
    (hsrc : ∀ j v, cs[j]? = some v → w.cell? (a.add j) = some v) (hfit : o + cs.length ≤ cur.length) (h1 : ∀ v ∈ cs, v.oneCell' = true) :
    (Builtin.copy_ #[dT, sT] ty #[.slice (some ⟨g, o, none⟩) dLen dCap, .slice (some a) sLen sCap]).run P w =
      .ok (goInt k) (w.setRow g (cur.take o ++ cs ++ cur.drop (o + cs.length)).toArray) := by
  have hl := run_loadCells_list (P := P) w a cs hsrc
  have hst := run_storeCells_at P g o t cs 0 cur.toArray w hg (by simpa using hfit) h1
  cases hq : P.info? elem with
  | none => simp [hq] at hs
  | some i =>
    have hi : i.size = sz := by simpa [hq] using hs
    simp [Builtin.copy_, run_underlying hu, Builtin.lenOf, Builtin.firstCells, sizeOf, typeInfo, hq, hi, hk, ← hn, hl, hst]
theorem HB.row {w : World} {g : Nat} {t : TypeId} {cur : List Value} (h : HB w g t cur) (new : List Value) : HB (w.setRow g new.toArray) g t new ∧ Frm (fun q => q = g) w (w.setRow g new.toArray) :=
  ⟨setRow_heap w g _ _ t _ h, ⟨rfl, rfl, rfl, by simp [World.setRow], fun k hk hne => setRow_other w g k _ hne⟩⟩
/-- a block that is known whole, as an own list -/
theorem OwnS.of {α : Type} {cells : α → List Value} {sz : Nat} {E : TypeId} (hc : ∀ g, (cells g).length = sz) {w : World} {B g C : Nat} {cur : List Value} (h : HB w g E cur) (hB : B ≤ g) (l : List α) (hl : l.length ≤ C) (hC : C ≤ maxLen) (hs : cur.length = C * sz) (ht : cur.take (l.length * sz) = l.flatMap cells) :
    OwnS cells E sz w B (.slice (some ⟨g, 0, none⟩) l.length C) l :=
  ⟨flat_length hc l, .inr ⟨g, C, cur.toArray, rfl, hB, h, hl, hC, by simpa using hs, by simpa using ht⟩⟩
theorem OwnS.hb {α : Type} {cells : α → List Value} {sz : Nat} {E : TypeId} {w : World} {B g n C : Nat} {l : List α} (h : OwnS cells E sz w B (.slice (some ⟨g, 0, none⟩) n C) l) :
    ∃ cur, HB w g E cur ∧ n = l.length ∧ l.length ≤ C ∧ C ≤ maxLen ∧ cur.length = C * sz ∧ cur.take (l.length * sz) = l.flatMap cells ∧ B ≤ g := by
  rcases h.2 with ⟨hn, -⟩ | ⟨g', C', cur, hv, hb, hg, h1, h2, h3, h4⟩
  · cases hn
  · cases hv
    exact ⟨cur.toList, by unfold HB; simpa using hg, rfl, h1, h2, by simpa using h3, h4, hb⟩
end Go.Proofs.Ytcbiohpgmooefaa
