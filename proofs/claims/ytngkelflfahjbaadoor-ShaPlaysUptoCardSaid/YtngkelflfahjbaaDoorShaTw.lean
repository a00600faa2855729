/- Chapter 2's law: two hashes and the answers so far, as a world holds them. No condition. -/
import Derived.Test.YtngkelflfahjbaaDoorShaPl
import Derived.Test.YtngkelflfahjbaaDoorShaRst
import Derived.Test.YtngkelflfahjbaaDoorShaRs
import Derived.Test.YtngkelflfahjbaaDoorOpenPc
import Derived.Test.YtngkelflfahjbaaDoorSeq
import Derived.Test.YtngkelflfahjbaaDoorSame2
set_option linter.unusedVariables false
set_option linter.unusedSimpArgs false
namespace Go.Proofs.YtngkelflfahjbaaDoor
open Go.RowKit
theorem pc_len : ∀ g, (pcc g).length = 1 := fun _ => rfl
theorem pcLay : Lay Tryd.prog 50 22 1 24 pcc := ⟨Tryd.underlying50, by decide, fun _ => rfl, fun g u h => by
  simp only [pcc, List.mem_singleton] at h; subst h; rfl, by
  have h : (Tryd.prog.info? 22).map (fun i => (i.zero, i.size, i.bytes)) = some (some (.slice none 0 0), 1, 24) := by kernel_rfl
  obtain ⟨i, hi, hz0, hz1, hz2⟩ := info_parts h
  exact ⟨i, _, hi, hz0, hz1, hz2, rfl⟩⟩
/-- append of such elements: where the new row lies -/
theorem wp_append_SG {α : Type} {cells : α → List Value} {sz : Nat} {E : TypeId} {P : Program} {T : TypeId} {nb : Nat} (L : Lay P T E sz nb cells) {w : World} {o : Oper} {a : Act} {K : Act → World → Prop} {Q : Exit → Act → World → Prop} (s x : Operand)
    (ho : o.op = .call { callee := .builtin .append, args := #[s, x], argTypes := #[T, T] })
    (B : Nat) (v : Value) (l : List α) (hs : a.eval s = v) (hown : OwnS cells E sz w B v l) (ad : Addr) (m c : Nat) (l2 : List α) (hx : a.eval x = .slice (some ad) m c) (hl : l2.length = m) (hr : RdS cells sz w (some ad) l2)
    (hlen : l.length + m ≤ maxLen) (hbytes : (l.length + m) * nb ≤ 140737488355328) (hB : B ≤ w.heap.size)
    (h : ∀ v' w', OwnS cells E sz w' B v' (l ++ l2) → Gr w w' v v' → K (a.put o.dst v') w') : o.wp P a w K Q := by
  obtain ⟨i, z, hi, hz0, hz1, hz2, hz3⟩ := L.info
  obtain ⟨v', w', hrun, h2, h3, h4, h5⟩ := run_append_own_at (P := P) w B T o.type E i z sz nb L.ht hi hz0 hz1 hz2 hz3 L.s0 v l.length (l.flatMap cells) hown ad m c (l2.flatMap cells) (by rw [flat_length L.len, hl]) (hr.news L.len L.s0) (flatS_one L.one _) hlen hbytes hB
  unfold Oper.wp execOp
  simp only [ho, resolve, invoke, builtin, Sem.run_bind, Sem.run_pure, Result.andThen_ok, List.map_toArray, List.map_cons, List.map_nil, hs, hx, hrun]
  refine h v' w' ?_ ⟨h3, fun q hq => ?_⟩
  · unfold OwnS
    rw [List.length_append, List.flatMap_append, hl]
    exact h2
  · rcases h5 with e | e
    · exact Or.inl (e ▸ hq)
    · right
      rw [e] at hq
      exact Nat.le_of_eq (Option.some.inj hq)
theorem wpList_append_SG {α : Type} {cells : α → List Value} {sz : Nat} {E : TypeId} {P : Program} {T : TypeId} {nb : Nat} (L : Lay P T E sz nb cells) {w : World} {ops : Array Oper} {rest : List Oper} {o : Oper} {a : Act} {Q : Exit → Act → World → Prop} (hgd : o.guard = none) (s x : Operand)
    (ho : o.op = .call { callee := .builtin .append, args := #[s, x], argTypes := #[T, T] })
    (B : Nat) (v : Value) (l : List α) (hs : a.eval s = v) (hown : OwnS cells E sz w B v l) (ad : Addr) (m c : Nat) (l2 : List α) (hx : a.eval x = .slice (some ad) m c) (hl : l2.length = m) (hr : RdS cells sz w (some ad) l2)
    (hlen : l.length + m ≤ maxLen) (hbytes : (l.length + m) * nb ≤ 140737488355328) (hB : B ≤ w.heap.size)
    (h : ∀ v' w', OwnS cells E sz w' B v' (l ++ l2) → Gr w w' v v' → wpList P ops Q rest (a.put o.dst v') w') : wpList P ops Q (o :: rest) a w :=
  wpList_plain hgd fun _ hK => wp_append_SG L s x ho B v l hs hown ad m c l2 hx hl hr hlen hbytes hB fun v' w' h1 h2 => hK _ _ (h v' w' h1 h2)
theorem OwnS.frm {α : Type} {cells : α → List Value} {sz : Nat} {E : TypeId} {w w' : World} {B : Nat} {v : Value} {l : List α} {K : Nat → Prop} (h : OwnS cells E sz w B v l) (hf : Frm K w w') (hne : ∀ k, v.ownBlock = some k → ¬ K k) : OwnS cells E sz w' B v l := by
  refine ⟨h.1, ?_⟩
  rcases h.2 with hn | ⟨g, cap, cur, rfl, hb, hgg, rest⟩
  · exact .inl hn
  · refine .inr ⟨g, cap, cur, rfl, hb, ?_, rest⟩
    rw [hf.block g (Array.getElem?_eq_some_iff.1 hgg).1 (hne g rfl)]; exact hgg
/-- an answer, and what it was to be -/
structure Ent where
  p : Nat
  q : Nat
  C : Nat
  D : Nat
  A : List UInt8
def Ent.lp (e : Ent) : Pc := ⟨some ⟨e.p, 0, none⟩, e.C, e.A⟩
def Ent.wp (e : Ent) : Pc := ⟨some ⟨e.q, 0, none⟩, e.D, e.A⟩
structure Ent.Ok (B : Nat) (w : World) (e : Ent) : Prop where
  p : Own 5 w B (.slice (some ⟨e.p, 0, none⟩) e.A.length e.C) e.A
  q : Own 5 w B (.slice (some ⟨e.q, 0, none⟩) e.A.length e.D) e.A
  o : e.p < e.q
  s : e.A.length ≤ 256
theorem Ent.Ok.frm {B : Nat} {w w' : World} {e : Ent} {K : Nat → Prop} (h : e.Ok B w) (hf : Frm K w w') (h1 : ¬ K e.p) (h2 : ¬ K e.q) : e.Ok B w' :=
  ⟨h.p.frm hf (fun k hk => by cases hk; exact h1), h.q.frm hf (fun k hk => by cases hk; exact h2), h.o, h.s⟩
def lstF (lv wv : Value) (es : List Ent) : Nat → Prop := fun q => lv.ownBlock = some q ∨ wv.ownBlock = some q ∨ ∃ e ∈ es, q = e.p ∨ q = e.q
structure Lst (B : Nat) (lv wv : Value) (es : List Ent) (w : World) : Prop where
  l : OwnS pcc 22 1 w B lv (es.map Ent.lp)
  r : OwnS pcc 22 1 w B wv (es.map Ent.wp)
  e : ∀ e ∈ es, e.Ok B w
  o : es.Pairwise (fun a b => a.q < b.p)
  nl : ∀ e ∈ es, ∀ x, lv.ownBlock = some x ∨ wv.ownBlock = some x → x ≠ e.p ∧ x ≠ e.q
  lw : ∀ x, lv.ownBlock = some x → wv.ownBlock ≠ some x
theorem Lst.frm {B : Nat} {lv wv : Value} {es : List Ent} {w w' : World} {K : Nat → Prop} (h : Lst B lv wv es w) (hf : Frm K w w') (hd : ∀ q, lstF lv wv es q → ¬ K q) : Lst B lv wv es w' :=
  ⟨h.l.frm hf (fun k hk => hd k (.inl hk)), h.r.frm hf (fun k hk => hd k (.inr (.inl hk))), fun e he => (h.e e he).frm hf (hd _ (.inr (.inr ⟨e, he, .inl rfl⟩))) (hd _ (.inr (.inr ⟨e, he, .inr rfl⟩))), h.o, h.nl, h.lw⟩
theorem Lst.lt {B : Nat} {lv wv : Value} {es : List Ent} {w : World} (h : Lst B lv wv es w) {q : Nat} (hq : lstF lv wv es q) : B ≤ q ∧ q < w.heap.size := by
  rcases hq with hq | hq | ⟨e, he, rfl | rfl⟩
  · exact h.l.blk pc_len q hq
  · exact h.r.blk pc_len q hq
  · exact own_blk (h.e e he).p rfl
  · exact own_blk (h.e e he).q rfl
theorem Lst.nil (B : Nat) (w : World) : Lst B (.slice none 0 0) (.slice none 0 0) [] w :=
  ⟨OwnS.nil _ _, OwnS.nil _ _, fun e he => (by cases he), .nil, fun e he => (by cases he), fun x hx => (by cases hx)⟩
/-- both hashes -/
structure Pair (B H1 H2 k : Nat) (st : S8) (N : Nat) (va vb : Value) (L : List UInt8) (w : World) : Prop where
  hk : 1 ≤ k ∧ k ≤ 3
  hs : st.Lt (2 ^ wK k)
  h1 : HB w H1 67 (hashC k (goB (wK k) st L).1 (N + L.length) va)
  oa : Own 5 w B va (goB (wK k) st L).2
  h2 : HB w H2 74 (rhC k st N vb)
  ob : Own 5 w B vb L
  n1 : N % sizeW (wK k) = 0
  n2 : N + L.length ≤ 2305843009213693951
  b1 : B ≤ H1
  b2 : B ≤ H2
  hh : H1 ≠ H2
  a1 : va.ownBlock ≠ some H1
  a2 : va.ownBlock ≠ some H2
  c1 : vb.ownBlock ≠ some H1
  c2 : vb.ownBlock ≠ some H2
  ab : ∀ q, va.ownBlock = some q → vb.ownBlock ≠ some q
def pairF (H1 H2 : Nat) (va vb : Value) : Nat → Prop := fun q => q = H1 ∨ q = H2 ∨ va.ownBlock = some q ∨ vb.ownBlock = some q
theorem Pair.frm {B H1 H2 k : Nat} {st : S8} {N : Nat} {va vb : Value} {L : List UInt8} {w w' : World} {K : Nat → Prop} (h : Pair B H1 H2 k st N va vb L w) (hf : Frm K w w') (hd : ∀ q, pairF H1 H2 va vb q → ¬ K q) : Pair B H1 H2 k st N va vb L w' :=
  ⟨h.hk, h.hs, h.h1.frm hf (hd _ (.inl rfl)), h.oa.frm hf (fun q hq => hd _ (.inr (.inr (.inl hq)))), h.h2.frm hf (hd _ (.inr (.inl rfl))), h.ob.frm hf (fun q hq => hd _ (.inr (.inr (.inr hq)))), h.n1, h.n2, h.b1, h.b2, h.hh, h.a1, h.a2, h.c1, h.c2, h.ab⟩
theorem Pair.lt {B H1 H2 k : Nat} {st : S8} {N : Nat} {va vb : Value} {L : List UInt8} {w : World} (h : Pair B H1 H2 k st N va vb L w) {q : Nat} (hq : pairF H1 H2 va vb q) : B ≤ q ∧ q < w.heap.size := by
  rcases hq with rfl | rfl | hq | hq
  · exact ⟨h.b1, h.h1.lt⟩
  · exact ⟨h.b2, h.h2.lt⟩
  · exact own_blk h.oa hq
  · exact own_blk h.ob hq
def twC (H1 H2 : Nat) (lv wv : Value) : List Value := [.pointer (some ⟨H1, 0, none⟩), .pointer (some ⟨H2, 0, none⟩), lv, wv]
/-- all of the twin's, but for the twin's own cells -/
structure Tv (B T H1 H2 k : Nat) (st : S8) (N : Nat) (va vb lv wv : Value) (L : List UInt8) (es : List Ent) (c d : Nat) (W w : World) : Prop where
  h : Pair B H1 H2 k st N va vb L w
  l : Lst B lv wv es w
  tb : B ≤ T
  tl : T < w.heap.size
  dj : ∀ q, pairF H1 H2 va vb q → lstF lv wv es q → False
  t1 : ¬ pairF H1 H2 va vb T
  t2 : ¬ lstF lv wv es T
  lc : L.length ≤ c
  el : es.length ≤ d
  bl : Below B W w
  sz : B ≤ w.heap.size
structure Tw (B T H1 H2 k : Nat) (st : S8) (N : Nat) (va vb lv wv : Value) (L : List UInt8) (es : List Ent) (c d : Nat) (W w : World) : Prop where
  t : HB w T 58 (twC H1 H2 lv wv)
  v : Tv B T H1 H2 k st N va vb lv wv L es c d W w
theorem Tv.later {B T H1 H2 k : Nat} {st : S8} {N : Nat} {va vb lv wv : Value} {L : List UInt8} {es : List Ent} {c d : Nat} {W w w' : World} (h : Tv B T H1 H2 k st N va vb lv wv L es c d W w) (hb : Below w.heap.size w w') : Tv B T H1 H2 k st N va vb lv wv L es c d W w' :=
  ⟨h.h.frm (K := fun _ => False) (Frm.later hb) (fun _ _ => id), h.l.frm (K := fun _ => False) (Frm.later hb) (fun _ _ => id), h.tb, Nat.lt_of_lt_of_le h.tl hb.size, h.dj, h.t1, h.t2, h.lc, h.el, h.bl.trans (hb.mono h.sz), Nat.le_trans h.sz hb.size⟩
theorem Tw.later {B T H1 H2 k : Nat} {st : S8} {N : Nat} {va vb lv wv : Value} {L : List UInt8} {es : List Ent} {c d : Nat} {W w w' : World} (h : Tw B T H1 H2 k st N va vb lv wv L es c d W w) (hb : Below w.heap.size w w') : Tw B T H1 H2 k st N va vb lv wv L es c d W w' :=
  ⟨h.t.later hb, h.v.later hb⟩
/-- blocks that are not the twin's change -/
theorem Tv.other {B T H1 H2 k : Nat} {st : S8} {N : Nat} {va vb lv wv : Value} {L : List UInt8} {es : List Ent} {c d : Nat} {W w w' : World} (h : Tv B T H1 H2 k st N va vb lv wv L es c d W w) {K : Nat → Prop} (hf : Frm K w w') (hK : ∀ q, K q → B ≤ q) (h1 : ∀ q, pairF H1 H2 va vb q → ¬ K q) (h2 : ∀ q, lstF lv wv es q → ¬ K q) : Tv B T H1 H2 k st N va vb lv wv L es c d W w' :=
  ⟨h.h.frm hf h1, h.l.frm hf h2, h.tb, Nat.lt_of_lt_of_le h.tl hf.size, h.dj, h.t1, h.t2, h.lc, h.el, h.bl.trans (hf.below h.sz hK), Nat.le_trans h.sz hf.size⟩
/-- the hashes change, or are others -/
theorem Tv.swap {B T H1 H2 k : Nat} {st : S8} {N : Nat} {va vb lv wv : Value} {L : List UInt8} {es : List Ent} {c d : Nat} {W w w' : World} (h : Tv B T H1 H2 k st N va vb lv wv L es c d W w) {K : Nat → Prop} (hf : Frm K w w') (hK : ∀ q, K q → pairF H1 H2 va vb q)
    {G1 G2 k' : Nat} {st' : S8} {N' : Nat} {ua ub : Value} {L' : List UInt8} {c' : Nat} (hp : Pair B G1 G2 k' st' N' ua ub L' w') (hF : ∀ q, pairF G1 G2 ua ub q → pairF H1 H2 va vb q ∨ w.heap.size ≤ q) (hL : L'.length ≤ c') : Tv B T G1 G2 k' st' N' ua ub lv wv L' es c' d W w' :=
  ⟨hp, h.l.frm hf (fun q hq hk => h.dj q (hK q hk) hq), h.tb, Nat.lt_of_lt_of_le h.tl hf.size, fun q h1 h2 => (hF q h1).elim (fun h3 => h.dj q h3 h2) (fun h3 => by have := (h.l.lt h2).2; omega), fun h1 => (hF T h1).elim h.t1 (fun h3 => by have := h.tl; omega), h.t2, hL, h.el,
    h.bl.trans (hf.below h.sz (fun q hq => (h.h.lt (hK q hq)).1)), Nat.le_trans h.sz hf.size⟩
theorem Tv.mono {B T H1 H2 k : Nat} {st : S8} {N : Nat} {va vb lv wv : Value} {L : List UInt8} {es : List Ent} {c c' d d' : Nat} {W w : World} (h : Tv B T H1 H2 k st N va vb lv wv L es c d W w) (hc : c ≤ c') (hd : d ≤ d') : Tv B T H1 H2 k st N va vb lv wv L es c' d' W w :=
  ⟨h.h, h.l, h.tb, h.tl, h.dj, h.t1, h.t2, Nat.le_trans h.lc hc, Nat.le_trans h.el hd, h.bl, h.sz⟩
/-- the twin's own block is written to -/
theorem Tv.cell {B T H1 H2 k : Nat} {st : S8} {N : Nat} {va vb lv wv : Value} {L : List UInt8} {es : List Ent} {c d : Nat} {W w w' : World} (h : Tv B T H1 H2 k st N va vb lv wv L es c d W w) (hf : Frm (fun q => q = T) w w') : Tv B T H1 H2 k st N va vb lv wv L es c d W w' :=
  h.other hf (fun q hq => hq ▸ h.tb) (fun q hq e => h.t1 (e ▸ hq)) (fun q hq e => h.t2 (e ▸ hq))
/-- the answers grow -/
structure PutOk (B T : Nat) (x y lv wv lv' wv' : Value) (es : List Ent) (e : Ent) (w w' : World) : Prop where
  t : HB w' T 58 [x, y, lv', wv']
  l : Lst B lv' wv' (es ++ [e]) w'
  f : Frm (fun q => q = T ∨ lv.ownBlock = some q ∨ wv.ownBlock = some q) w w'
  n : ∀ q, lstF lv' wv' (es ++ [e]) q → lstF lv wv es q ∨ q = e.p ∨ q = e.q ∨ w.heap.size ≤ q
set_option maxRecDepth 100000 in
set_option maxHeartbeats 1000000 in
theorem put_any (B T : Nat) (x y lv wv : Value) (es : List Ent) (e : Ent) (w : World) (ht : HB w T 58 [x, y, lv, wv]) (hl : Lst B lv wv es w) (htb : B ≤ T) (htl : ¬ lstF lv wv es T) (hB : B ≤ w.heap.size) (he : e.Ok B w)
    (hnew : ∀ q, lstF lv wv es q → q < e.p) (hT : T < e.p) (hlen : es.length ≤ 1000) :
    Calls Tryd.prog 44 #[.pointer (some ⟨T, 0, none⟩), .slice (some ⟨e.p, 0, none⟩) e.A.length e.C, .slice (some ⟨e.q, 0, none⟩) e.A.length e.D] w fun ex w' => ex = .returned (.bool true) ∧ ∃ lv' wv', PutOk B T x y lv wv lv' wv' es e w w' := by
  have HT := Lib.hid ht
  have HL := Lib.hid hl
  have HE := Lib.hid he
  have Hlen := Lib.hid hlen
  have HB0 := Lib.hid hB
  have k2 : w.cell? ⟨T, 2, none⟩ = some lv := ht.cell (i := 2) rfl
  have hr1 := Lib.hid (RdS.one (cells := pcc) (sz := 1) (x := e.lp) (HB.new w (pcc e.lp) 22))
  have hml : (es.map Ent.lp).length = es.length := List.length_map ..
  have Hml := Lib.hid hml
  have hol := Lib.hid (hl.l.alloc (.cells (pcc e.lp).toArray 22))
  clear ht hl he hlen hB hml
  go_enter Tryd.func44, Tryd.ntmps44
  go_wp2_with (at_builtin; refine wpList_append_SG pcLay rfl _ _ rfl B lv (es.map Ent.lp) rfl hol.out ⟨w.heap.size, 0, none⟩ 1 1 [e.lp] rfl rfl hr1.out (by rw [Hml.out]; have := Hlen.out; simp only [maxLen]; omega) (by rw [Hml.out]; have := Hlen.out; omega) (by have := HB0.out; simp; omega) ?_)
  intro v1 w1 ho1 hg1
  obtain ⟨a1, n1, c1, rfl⟩ : ∃ a n c, v1 = .slice a n c := by
    obtain ⟨ao, cap, h, -⟩ := ho1.rd pc_len
    exact ⟨_, _, _, h⟩
  obtain ⟨v1, hv1⟩ : ∃ v1, Value.slice a1 n1 c1 = v1 := ⟨_, rfl⟩
  rw [hv1] at ho1 hg1
  have hT1 : HB w1 T 58 [x, y, lv, wv] := (HT.out.alloc _).grown hg1.g (fun h => htl (.inl h.symm))
  have hsz : w.heap.size ≤ w1.heap.size := Nat.le_trans (by simp) hg1.g.size
  have hb1 : Frm (fun q => lv.ownBlock = some q) w w1 := (Frm.later ((Below.refl _ w).alloc (Nat.le_refl _) _)).trans (Frm.grown hg1.g (fun k h => h))
  have hk1 : ∀ q, v1.ownBlock = some q → lv.ownBlock = some q ∨ w.heap.size ≤ q := fun q hq => (hg1.k q hq).imp id (fun h => Nat.le_trans (by simp) h)
  have f2 := hT1.frozen 2
  have k2' := hT1.cell (i := 2) rfl
  have HT2 := Lib.hid (hT1.set 2 v1)
  rw [← hv1] at HT2
  have Hv1 := Lib.hid hv1
  have HO1 := Lib.hid ho1
  have Hb1 := Lib.hid hb1
  have Hk1 := Lib.hid hk1
  have Hsz1 := Lib.hid hsz
  clear hT1 ho1 hg1 hsz hb1 hk1 k2 hr1 hol hv1
  go_upto_region 2 with fail
  as_aux_lemma =>
  clear f2 k2'
  rw [Hv1.out] at HT2 ⊢
  clear Hv1
  have hs2 : Frm (fun q => q = T) w1 (w1.setCell ⟨T, 2, none⟩ v1) := Frm.grown (grown_set w1 ⟨T, 2, none⟩ v1) (fun k h => (Option.some.inj h).symm)
  have hno1 : ∀ q, v1.ownBlock = some q → q ≠ T := fun q hq e' => (Hk1.out q hq).elim (fun h => htl (.inl (e' ▸ h))) (fun h => by have := HT.out.lt; omega)
  have HO2 := Lib.hid (HO1.out.frm hs2 (fun q hq => hno1 q hq))
  have Hb2 : Hid (Frm (fun q => q = T ∨ lv.ownBlock = some q) w (w1.setCell ⟨T, 2, none⟩ v1)) := Lib.hid ((Hb1.out.mono (fun _ _ h => Or.inr h)).trans (hs2.mono (fun _ _ h => Or.inl h)))
  have Hsz2 : Hid (w1.heap.size = (w1.setCell ⟨T, 2, none⟩ v1).heap.size) := Lib.hid (by simp [World.setCell])
  rw [show [x, y, lv, wv].set 2 v1 = [x, y, v1, wv] from rfl] at HT2
  generalize w1.setCell ⟨T, 2, none⟩ v1 = w2 at *
  have hwr : OwnS pcc 22 1 w2 B wv (es.map Ent.wp) := HL.out.r.frm Hb2.out (fun q hq h => h.elim (fun e' => htl (.inr (.inl (e' ▸ hq)))) (fun e' => HL.out.lw q e' hq))
  have Hsz := Lib.hid (show w.heap.size ≤ w2.heap.size from Hsz2.out ▸ Hsz1.out)
  have hml : (es.map Ent.wp).length = es.length := List.length_map ..
  have Hml2 := Lib.hid hml
  have hr2 := Lib.hid (RdS.one (cells := pcc) (sz := 1) (x := e.wp) (HB.new w2 (pcc e.wp) 22))
  have hor := Lib.hid (hwr.alloc (.cells (pcc e.wp).toArray 22))
  have k3 : w2.cell? ⟨T, 3, none⟩ = some wv := HT2.out.cell (i := 3) rfl
  clear hs2 hwr hml Hb1 Hsz1 Hsz2 HO1
  go_wp2_with (at_builtin; refine wpList_append_SG pcLay rfl _ _ rfl B wv (es.map Ent.wp) rfl hor.out ⟨w2.heap.size, 0, none⟩ 1 1 [e.wp] rfl rfl hr2.out (by rw [Hml2.out]; have := Hlen.out; simp only [maxLen]; omega) (by rw [Hml2.out]; have := Hlen.out; omega) (by have := HB0.out; have := Hsz.out; simp; omega) ?_)
  intro v3 w3 ho3 hg3
  obtain ⟨a3, n3, c3, hv3⟩ : ∃ a n c, v3 = .slice a n c := by
    obtain ⟨ao, cap, h, -⟩ := ho3.rd pc_len
    exact ⟨_, _, _, h⟩
  have hT3 : HB w3 T 58 [x, y, v1, wv] := (HT2.out.alloc _).grown hg3.g (fun h => htl (.inr (.inl h.symm)))
  have hsz : w.heap.size ≤ w3.heap.size := Nat.le_trans Hsz.out (Nat.le_trans (by simp) hg3.g.size)
  have hb23 : Frm (fun q => wv.ownBlock = some q) w2 w3 := (Frm.later ((Below.refl _ w2).alloc (Nat.le_refl _) _)).trans (Frm.grown hg3.g (fun k h => h))
  have hb3 : Frm (fun q => q = T ∨ lv.ownBlock = some q ∨ wv.ownBlock = some q) w w3 := (Hb2.out.mono (fun _ _ h => h.imp id Or.inl)).trans (hb23.mono (fun _ _ h => Or.inr (Or.inr h)))
  have hk3 : ∀ q, v3.ownBlock = some q → wv.ownBlock = some q ∨ w2.heap.size ≤ q := fun q hq => (hg3.k q hq).imp id (fun h => Nat.le_trans (by simp) h)
  have ho13 := HO2.out.frm hb23 (fun q hq h => (Hk1.out q hq).elim (fun h' => HL.out.lw q h' h) (fun h' => by have := (HL.out.lt (.inr (.inl h))).2; omega))
  have f3 := hT3.frozen 3
  have k3' := hT3.cell (i := 3) rfl
  have HT4 := Lib.hid (hT3.set 3 v3)
  have hs4 : Frm (fun q => q = T) w3 (w3.setCell ⟨T, 3, none⟩ v3) := Frm.grown (grown_set w3 ⟨T, 3, none⟩ v3) (fun k h => (Option.some.inj h).symm)
  have hno3 : ∀ q, v3.ownBlock = some q → q ≠ T := fun q hq e' => (hk3 q hq).elim (fun h => htl (.inr (.inl (e' ▸ h)))) (fun h => by have := HT2.out.lt; omega)
  have HF : Hid (PutOk B T x y lv wv v1 v3 es e w (w3.setCell ⟨T, 3, none⟩ v3)) := Lib.hid (by
    have hF : Frm (fun q => q = T ∨ lv.ownBlock = some q ∨ wv.ownBlock = some q) w (w3.setCell ⟨T, 3, none⟩ v3) := hb3.trans (hs4.mono (fun _ _ h => Or.inl h))
    have hpl : e.p < w.heap.size := (own_blk HE.out.p rfl).2
    have hql : e.q < w.heap.size := (own_blk HE.out.q rfl).2
    have hpq := HE.out.o
    have hnF : ∀ r, (r = T ∨ lv.ownBlock = some r ∨ wv.ownBlock = some r) → r < e.p := fun r h => h.elim (fun h => h ▸ hT) (fun h => h.elim (fun h => hnew r (.inl h)) (fun h => hnew r (.inr (.inl h))))
    have hE : e.Ok B (w3.setCell ⟨T, 3, none⟩ v3) := HE.out.frm hF (fun h => by have := hnF _ h; omega) (fun h => by have := hnF _ h; omega)
    have hold : ∀ a ∈ es, a.Ok B (w3.setCell ⟨T, 3, none⟩ v3) := fun a ha => (HL.out.e a ha).frm hF
      (fun h => h.elim (fun h => htl (.inr (.inr ⟨a, ha, .inl h.symm⟩))) (fun h => (HL.out.nl a ha _ h).1 rfl))
      (fun h => h.elim (fun h => htl (.inr (.inr ⟨a, ha, .inr h.symm⟩))) (fun h => (HL.out.nl a ha _ h).2 rfl))
    have hlow : ∀ a ∈ es, a.p < w.heap.size ∧ a.q < w.heap.size := fun a ha => ⟨(own_blk (HL.out.e a ha).p rfl).2, (own_blk (HL.out.e a ha).q rfl).2⟩
    have hz := Hsz.out
    have hblk : ∀ r, v1.ownBlock = some r ∨ v3.ownBlock = some r → (lv.ownBlock = some r ∨ wv.ownBlock = some r) ∨ w.heap.size ≤ r := fun r h => h.elim (fun h => (Hk1.out r h).imp Or.inl id) (fun h => (hk3 r h).imp Or.inr (fun h => by omega))
    refine ⟨HT4.out, ⟨?_, ?_, ?_, ?_, ?_, ?_⟩, hF, ?_⟩
    · rw [List.map_append]
      exact ho13.frm hs4 (fun q hq h => hno1 q hq h)
    · rw [List.map_append]
      exact ho3.frm hs4 (fun q hq h => hno3 q hq h)
    · intro a ha
      rcases List.mem_append.1 ha with ha | ha
      · exact hold a ha
      · rw [List.mem_singleton.1 ha]; exact hE
    · rw [List.pairwise_append]
      refine ⟨HL.out.o, List.pairwise_singleton _ _, fun a ha b hb => ?_⟩
      rw [List.mem_singleton.1 hb]
      exact hnew _ (.inr (.inr ⟨a, ha, .inr rfl⟩))
    · intro a ha r hr
      rcases hblk r hr with h | h
      · rcases List.mem_append.1 ha with ha | ha
        · exact HL.out.nl a ha r h
        · rw [List.mem_singleton.1 ha]
          have := hnF r (.inr h)
          omega
      · rcases List.mem_append.1 ha with ha | ha
        · have := hlow a ha; omega
        · rw [List.mem_singleton.1 ha]; omega
    · intro r h1 h3
      rcases Hk1.out r h1 with h | h <;> rcases hk3 r h3 with h' | h'
      · exact HL.out.lw r h h'
      · have := (HL.out.lt (.inl h)).2; omega
      · have := (HL.out.lt (.inr (.inl h'))).2; omega
      · have := (HO2.out.blk pc_len r h1).2; omega
    · rintro r (h | h | ⟨a, ha, h⟩)
      · exact (Hk1.out r h).elim (fun h => .inl (.inl h)) (fun h => .inr (.inr (.inr h)))
      · exact (hk3 r h).elim (fun h => .inl (.inr (.inl h))) (fun h => .inr (.inr (.inr (by omega))))
      · rcases List.mem_append.1 ha with ha | ha
        · exact .inl (.inr (.inr ⟨a, ha, h⟩))
        · rw [List.mem_singleton.1 ha] at h
          exact h.elim (fun h => .inr (.inl h)) (fun h => .inr (.inr (.inl h))))
  have hsm := same2_true (some ⟨e.p, 0, none⟩) (some ⟨e.q, 0, none⟩) e.A.length e.A.length e.C e.D e.A e.A (w3.setCell ⟨T, 3, none⟩ v3) rfl rfl rfl
  have hok := HF.out.l.e e (by simp)
  obtain ⟨_, _, e1, -, e1m, r1⟩ := hok.p.rd
  obtain ⟨_, _, e2, -, e2m, r2⟩ := hok.q.rd
  cases e1
  cases e2
  have hA : e.A.length ≤ 9223372036854775807 := by
    have := hok.p.at.2.2.2.1
    simp only [maxLen] at e1m
    omega
  have Hsm := Lib.hid (hsm hA hA r1 r2)
  clear hsm hok e1m e2m r1 r2 hA ho3 hg3 hT3 hsz hb23 hb3 hk3 ho13 HT4 hs4 hno3 hno1 hr2 hor k3
  have HF' := Lib.hid (⟨v3, HF.out⟩ : ∃ v3', PutOk B T x y lv wv v1 v3' es e w (w3.setCell ⟨T, 3, none⟩ v3))
  clear HF
  subst hv3
  go_wp2_with fail
  clear f3 k3'
  generalize w3.setCell ⟨T, 3, none⟩ (Value.slice a3 n3 c3) = w4 at *
  obtain ⟨v3, hf3⟩ := HF'.out
  have HF := Lib.hid hf3
  clear HF' hf3
  refine Hsm.out.mono ?_
  rintro e' w5 ⟨rfl, hd5⟩
  have HF5 : Hid (PutOk B T x y lv wv v1 v3 es e w w5) := Lib.hid (by
    have h := HF.out
    have hf : Frm (fun _ => False) w4 w5 := Frm.drn hd5
    exact ⟨h.t.drn hd5, h.l.frm hf (fun _ _ => id), h.f.trans (Frm.drn hd5), h.n⟩)
  clear hd5 HF Hsm
  go_wp2_with fail
  go_ret
  exact ⟨rfl, v1, v3, HF5.out⟩
end Go.Proofs.YtngkelflfahjbaaDoor
