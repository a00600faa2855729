/- Chapter 2's law: the answers, as they are looked through. No condition. -/
import Derived.Test.YtngkelflfahjbaaDoorShaTr
set_option linter.unusedVariables false
set_option linter.unusedSimpArgs false
namespace Go.Proofs.YtngkelflfahjbaaDoor
open Go.RowKit
theorem start_tw {B G1 G2 k c d : Nat} {W w : World} (hp : Pair B G1 G2 k (firstK k) 0 (.slice none 0 0) (.slice none 0 0) [] w) (hb : Below B W w) (hz : B ≤ w.heap.size) :
    Tw B w.heap.size G1 G2 k (firstK k) 0 (.slice none 0 0) (.slice none 0 0) (.slice none 0 0) (.slice none 0 0) [] [] c d W (w.alloc (.cells (twC G1 G2 (.slice none 0 0) (.slice none 0 0)).toArray 58)) := by
  have hba : Below w.heap.size w (w.alloc (.cells (twC G1 G2 (.slice none 0 0) (.slice none 0 0)).toArray 58)) := (Below.refl _ w).alloc (Nat.le_refl _) _
  have hno : ∀ q, ¬ lstF (.slice none 0 0) (.slice none 0 0) [] q := by
    rintro q (h | h | ⟨e, he, -⟩)
    · cases h
    · cases h
    · cases he
  refine ⟨HB.new _ _ _, ⟨hp.frm (K := fun _ => False) (Frm.later hba) (fun _ _ => id), Lst.nil _ _, hz, by simp, fun q _ h => hno q h, ?_, hno _, Nat.zero_le _, Nat.zero_le _, hb.trans (hba.mono hz), Nat.le_trans hz hba.size⟩⟩
  rintro (h | h | h | h)
  · have := hp.h1.lt; omega
  · have := hp.h2.lt; omega
  · cases h
  · cases h
/-- the first steps have been gone -/
structure PlIn (B T : Nat) (W : World) (m : Nat) (i : Value) (wr : World) : Prop where
  x : ∃ t lv wv es, t ≤ m ∧ t ≤ 200 ∧ i = .int .i64 (t : Nat) ∧ TwE B T lv wv es (1048576 * t) t W wr (fun _ => False)
/-- the answers from the t-th on are as they were -/
structure Fin2 (B T H1 H2 : Nat) (lv wv : Value) (es : List Ent) (W w : World) (t : Nat) : Prop where
  tt : HB w T 58 (twC H1 H2 lv wv)
  e : ∀ (j : Nat) (e : Ent), t ≤ j → es[j]? = some e → e.Ok B w
  l : ∀ g, lv.ownBlock = some g → ∀ j e, t ≤ j → es[j]? = some e → w.cell? ⟨g, j, none⟩ = some (.slice (some ⟨e.p, 0, none⟩) e.A.length e.C)
  f : ∀ g, lv.ownBlock = some g → ∀ j, w.frozen? ⟨g, j, none⟩ = false
  r : ∀ g, wv.ownBlock = some g → ∀ j e, es[j]? = some e → w.cell? ⟨g, j, none⟩ = some (.slice (some ⟨e.q, 0, none⟩) e.A.length e.D)
  o : es.Pairwise (fun a b => a.q < b.p)
  eo : ∀ e ∈ es, e.p < e.q
  nl : ∀ e ∈ es, ∀ x, lv.ownBlock = some x ∨ wv.ownBlock = some x → x ≠ e.p ∧ x ≠ e.q
  lw : ∀ x, lv.ownBlock = some x → wv.ownBlock ≠ some x
  nt : ¬ lstF lv wv es T
  ll : ∀ g, lv.ownBlock = some g ∨ wv.ownBlock = some g → B ≤ g ∧ g < w.heap.size
  bl : Below B W w
  sz : B ≤ w.heap.size
theorem fin_start {B T H1 H2 k : Nat} {st : S8} {N : Nat} {va vb lv wv : Value} {L : List UInt8} {es : List Ent} {c d : Nat} {W w : World} (h : Tw B T H1 H2 k st N va vb lv wv L es c d W w) : Fin2 B T H1 H2 lv wv es W w 0 := by
  have hl := h.v.l
  refine ⟨h.t, fun j e _ hj => hl.e e (List.mem_of_getElem? hj), ?_, ?_, ?_, hl.o, fun e he => (hl.e e he).o, hl.nl, hl.lw, h.v.t2, fun g hg => hl.lt (hg.elim .inl (fun h => .inr (.inl h))), h.v.bl, h.v.sz⟩
  · intro g hg j e _ hj
    rcases hl.l.cases pc_len with ⟨hv, _⟩ | ⟨g', cap, hv, _, _, _, _, hcell, _⟩
    · rw [hv] at hg; cases hg
    · rw [hv] at hg
      obtain rfl : g' = g := Option.some.inj hg
      have := hcell j e.lp (by rw [List.getElem?_map, hj]; rfl) 0 _ rfl
      rw [Nat.mul_one, Nat.add_zero] at this
      exact this
  · intro g hg j
    rcases hl.l.cases pc_len with ⟨hv, _⟩ | ⟨g', cap, hv, _, _, _, _, _, hfz⟩
    · rw [hv] at hg; cases hg
    · rw [hv] at hg
      obtain rfl : g' = g := Option.some.inj hg
      exact hfz j
  · intro g hg j e hj
    rcases hl.r.cases pc_len with ⟨hv, _⟩ | ⟨g', cap, hv, _, _, _, _, hcell, _⟩
    · rw [hv] at hg; cases hg
    · rw [hv] at hg
      obtain rfl : g' = g := Option.some.inj hg
      have := hcell j e.wp (by rw [List.getElem?_map, hj]; rfl) 0 _ rfl
      rw [Nat.mul_one, Nat.add_zero] at this
      exact this
theorem frm_cell {K : Nat → Prop} {w w' : World} {b o : Nat} {v : Value} (h : w.cell? ⟨b, o, none⟩ = some v) (hf : Frm K w w') (hb : b < w.heap.size) (hne : ¬ K b) : w'.cell? ⟨b, o, none⟩ = some v := by
  rw [World.cell?_of_block (a := ⟨b, o, none⟩) (hf.block b hb hne)]; exact h
theorem frm_frozen {K : Nat → Prop} {w w' : World} {b o : Nat} (h : w.frozen? ⟨b, o, none⟩ = false) (hf : Frm K w w') (hb : b < w.heap.size) (hne : ¬ K b) : w'.frozen? ⟨b, o, none⟩ = false := by
  have := hf.block b hb hne
  unfold World.frozen? at h ⊢
  rw [this]; exact h
theorem Fin2.frm {B T H1 H2 : Nat} {lv wv : Value} {es : List Ent} {W w w' : World} {t : Nat} (h : Fin2 B T H1 H2 lv wv es W w t) {K : Nat → Prop} (hf : Frm K w w') (hK : ∀ q, K q → B ≤ q) (h1 : ¬ K T) (h2 : ∀ g, lv.ownBlock = some g ∨ wv.ownBlock = some g → ¬ K g) (h3 : ∀ j e, t ≤ j → es[j]? = some e → ¬ K e.p ∧ ¬ K e.q) : Fin2 B T H1 H2 lv wv es W w' t :=
  ⟨h.tt.frm hf h1, fun j e hj he => (h.e j e hj he).frm hf (h3 j e hj he).1 (h3 j e hj he).2, fun g hg j e hj he => frm_cell (h.l g hg j e hj he) hf (h.ll g (.inl hg)).2 (h2 g (.inl hg)),
    fun g hg j => frm_frozen (h.f g hg j) hf (h.ll g (.inl hg)).2 (h2 g (.inl hg)), fun g hg j e he => frm_cell (h.r g hg j e he) hf (h.ll g (.inr hg)).2 (h2 g (.inr hg)), h.o, h.eo, h.nl, h.lw, h.nt,
    fun g hg => ⟨(h.ll g hg).1, Nat.lt_of_lt_of_le (h.ll g hg).2 hf.size⟩, h.bl.trans (hf.below h.sz hK), Nat.le_trans h.sz hf.size⟩
theorem Fin2.drn {B T H1 H2 : Nat} {lv wv : Value} {es : List Ent} {W w w' : World} {t : Nat} (h : Fin2 B T H1 H2 lv wv es W w t) (hd : Drn w w') : Fin2 B T H1 H2 lv wv es W w' t :=
  h.frm (K := fun _ => False) (Frm.drn hd) (fun _ => False.elim) id (fun _ _ => id) (fun _ _ _ _ => ⟨id, id⟩)
theorem Fin2.step {B T H1 H2 : Nat} {lv wv : Value} {es : List Ent} {W w : World} {t : Nat} (h : Fin2 B T H1 H2 lv wv es W w t) : Fin2 B T H1 H2 lv wv es W w (t + 1) :=
  ⟨h.tt, fun j e hj => h.e j e (by omega), fun g hg j e hj => h.l g hg j e (by omega), h.f, h.r, h.o, h.eo, h.nl, h.lw, h.nt, h.ll, h.bl, h.sz⟩
theorem ovr_ne {B T H1 H2 : Nat} {lv wv : Value} {es : List Ent} {W w : World} {t : Nat} {e : Ent} (h : Fin2 B T H1 H2 lv wv es W w (t + 1)) (he : es[t]? = some e) {j : Nat} {x : Ent} (hj : t + 1 ≤ j) (hx : es[j]? = some x) : ¬ x.p = e.p ∧ ¬ x.q = e.p := by
  have hp := List.pairwise_iff_getElem.1 h.o t j (List.getElem?_eq_some_iff.1 he).1 (List.getElem?_eq_some_iff.1 hx).1 (by omega)
  rw [(List.getElem?_eq_some_iff.1 he).2, (List.getElem?_eq_some_iff.1 hx).2] at hp
  have h2 := (h.e j x hj hx).o
  have h3 := h.eo e (List.mem_of_getElem? he)
  constructor <;> intro e1 <;> omega
/-- the t-th answer is written over -/
theorem Fin2.over {B T H1 H2 : Nat} {lv wv : Value} {es : List Ent} {W w w' : World} {t : Nat} {e : Ent} (h : Fin2 B T H1 H2 lv wv es W w t) (he : es[t]? = some e) (hf : Frm (fun q => q = e.p) w w') : Fin2 B T H1 H2 lv wv es W w' (t + 1) := by
  have hm := List.mem_of_getElem? he
  have hok := h.e t e (Nat.le_refl _) he
  have hB := (own_blk hok.p rfl).1
  refine h.step.frm hf (fun q hq => by subst hq; exact hB) (fun e1 => h.nt (.inr (.inr ⟨e, hm, .inl e1⟩))) (fun g hg e1 => (h.nl e hm g hg).1 e1) (fun j x hj hx => ?_)
  have hp := List.pairwise_iff_getElem.1 h.o t j (List.getElem?_eq_some_iff.1 he).1 (List.getElem?_eq_some_iff.1 hx).1 (by omega)
  rw [(List.getElem?_eq_some_iff.1 he).2, (List.getElem?_eq_some_iff.1 hx).2] at hp
  have h1 := hok.o
  have h2 := (h.e j x (by omega) hx).o
  constructor <;> intro e1 <;> omega
theorem Fin2.put {B T H1 H2 : Nat} {lv wv : Value} {es : List Ent} {W w : World} {t g : Nat} (h : Fin2 B T H1 H2 lv wv es W w (t + 1)) (hg : lv.ownBlock = some g) (v : Value) : Fin2 B T H1 H2 lv wv es W (w.setCell ⟨g, t, none⟩ v) (t + 1) := by
  have hf : Frm (fun q => q = g) w (w.setCell ⟨g, t, none⟩ v) := Frm.grown (grown_set w ⟨g, t, none⟩ v) (fun k h => (Option.some.inj h).symm)
  refine ⟨h.tt.frm hf (fun e => h.nt (.inl (by rw [hg, e]))), fun j e hj he => (h.e j e hj he).frm hf (fun e1 => (h.nl e (List.mem_of_getElem? he) g (.inl hg)).1 e1.symm) (fun e1 => (h.nl e (List.mem_of_getElem? he) g (.inl hg)).2 e1.symm), fun g' hg' j e hj he => ?_, fun g' hg' j => ?_,
    fun g' hg' j e he => frm_cell (h.r g' hg' j e he) hf (h.ll g' (.inr hg')).2 (fun e1 => h.lw g hg (by rw [hg', e1])), h.o, h.eo, h.nl, h.lw, h.nt, fun g' hg' => ⟨(h.ll g' hg').1, Nat.lt_of_lt_of_le (h.ll g' hg').2 hf.size⟩, h.bl.trans (hf.below h.sz (fun q hq => by subst hq; exact (h.ll q (.inl hg)).1)), Nat.le_trans h.sz hf.size⟩
  · rw [World.cell?_setCell_other w _ _ _ (show (⟨g, t, none⟩ : Addr) ≠ ⟨g', j, none⟩ from fun e1 => by have := congrArg Addr.off e1; simp at this; omega)]
    exact h.l g' hg' j e hj he
  · have := h.f g' hg' j
    simpa using this
theorem lst_form {B : Nat} {lv wv : Value} {es : List Ent} {w : World} (h : Lst B lv wv es w) : ∃ la lc wa wc, lv = .slice la es.length lc ∧ wv = .slice wa es.length wc ∧ (0 < es.length → ∃ g q, la = some ⟨g, 0, none⟩ ∧ wa = some ⟨q, 0, none⟩) := by
  have e1 : (es.map Ent.lp).length = es.length := List.length_map ..
  have e2 : (es.map Ent.wp).length = es.length := List.length_map ..
  rcases h.l.cases pc_len with ⟨h1, h2⟩ | ⟨g, lc, h1, -⟩
  · have : es.length = 0 := by rw [← e1, h2]; rfl
    obtain ⟨wa, wc, h3, -⟩ := h.r.rd pc_len
    rw [e2] at h3
    exact ⟨none, 0, wa, wc, by rw [this]; exact h1, h3, fun h => by omega⟩
  · rcases h.r.cases pc_len with ⟨h3, h4⟩ | ⟨q, wc, h3, -⟩
    · have : es.length = 0 := by rw [← e2, h4]; rfl
      rw [e1] at h1
      exact ⟨_, lc, none, 0, h1, by rw [this]; exact h3, fun h => by omega⟩
    · rw [e1] at h1
      rw [e2] at h3
      exact ⟨_, lc, _, wc, h1, h3, fun _ => ⟨g, q, rfl, rfl⟩⟩
theorem ent_rd {B : Nat} {w : World} {e : Ent} (h : e.Ok B w) : Rd w (some ⟨e.p, 0, none⟩) e.A ∧ Rd w (some ⟨e.q, 0, none⟩) e.A := by
  obtain ⟨_, _, e1, -, -, r1⟩ := h.p.rd
  obtain ⟨_, _, e2, -, -, r2⟩ := h.q.rd
  cases e1
  cases e2
  exact ⟨r1, r2⟩
structure FinIn (B T H1 H2 : Nat) (lv wv : Value) (es : List Ent) (W : World) (i : Value) (wr : World) : Prop where
  x : ∃ t : Nat, t ≤ es.length ∧ i = .int .i64 (t : Nat) ∧ Fin2 B T H1 H2 lv wv es W wr t
/-- an answer is written over -/
structure FilK (B p n C : Nat) (w0 : World) (i : Value) (wr : World) : Prop where
  x : ∃ (m : Nat) (l : List UInt8), m ≤ n ∧ l.length = n ∧ i = .int .i64 (m : Nat) ∧ Own 5 wr B (.slice (some ⟨p, 0, none⟩) n C) l ∧ Frm (fun q => q = p) w0 wr
theorem filk_step {B g n C : Nat} {w0 wr : World} {l : List UInt8} (ho : Own 5 wr B (.slice (some ⟨g, 0, none⟩) n C) l) (hl : l.length = n) (hf : Frm (fun q => q = g) w0 wr) (t : Nat) (ht : t < n) (x : UInt8) :
    Own 5 (wr.setCell ⟨g, t, none⟩ (.int .u8 x.toNat)) B (.slice (some ⟨g, 0, none⟩) n C) (l.set t x) ∧ Frm (fun q => q = g) w0 (wr.setCell ⟨g, t, none⟩ (.int .u8 x.toNat)) :=
  ⟨ho.store t x (by omega), hf.trans (Frm.grown (grown_set wr ⟨g, t, none⟩ _) (fun k h => (Option.some.inj h).symm))⟩
end Go.Proofs.YtngkelflfahjbaaDoor
