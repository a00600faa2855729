/- Blocks of memory that are known whole. No condition. -/
import Derived.Test.YtnmeidmiijcniaaU
import Derived.Laws.Rows
import Derived.Deep.MidRow
import Derived.Maps.AppendAt
import Derived.Maps.RangeWalk
set_option linter.unusedVariables false
set_option linter.unusedSimpArgs false
namespace Go.Proofs.Ytnmeidmiijcniaa
open Go.RowKit
/-- the block b is one of the call's own (not frozen) and holds just these cells -/
def HB (w : World) (b : Nat) (t : TypeId) (cs : List Value) : Prop := w.heap[b]? = some (.cells cs.toArray t (0, 0))
theorem HB.lt {w : World} {b : Nat} {t : TypeId} {cs : List Value} (h : HB w b t cs) : b < w.heap.size := (Array.getElem?_eq_some_iff.1 h).1
theorem HB.cell {w : World} {b : Nat} {t : TypeId} {cs : List Value} (h : HB w b t cs) {i : Nat} {v : Value} (hi : cs[i]? = some v) : w.cell? ⟨b, i, none⟩ = some v := by
  rw [cell_of_row w b i _ t _ h]; simpa using hi
theorem HB.frozen {w : World} {b : Nat} {t : TypeId} {cs : List Value} (h : HB w b t cs) (i : Nat) : w.frozen? ⟨b, i, none⟩ = false := frozen_of_row w b i _ t h
theorem HB.set {w : World} {b : Nat} {t : TypeId} {cs : List Value} (h : HB w b t cs) (i : Nat) (v : Value) : HB (w.setCell ⟨b, i, none⟩ v) b t (cs.set i v) := by
  have := heap_setCell_same w b i _ t v h
  unfold HB
  rw [this]
  simp
theorem HB.other {w : World} {b : Nat} {t : TypeId} {cs : List Value} (h : HB w b t cs) (a : Addr) (v : Value) (hne : b ≠ a.block) : HB (w.setCell a v) b t cs := by
  unfold HB
  rw [heap_setCell_other w a b v hne]; exact h
theorem HB.new (w : World) (cs : List Value) (t : TypeId) : HB (w.alloc (.cells cs.toArray t)) w.heap.size t cs := heap_alloc_new w _
theorem HB.alloc {w : World} {b : Nat} {t : TypeId} {cs : List Value} (h : HB w b t cs) (o : Obj) : HB (w.alloc o) b t cs := by
  unfold HB; rw [Below.heap_alloc w o b h.lt]; exact h
theorem HB.below {w w' : World} {b B : Nat} {t : TypeId} {cs : List Value} (h : HB w b t cs) (hb : Below B w w') (hlt : b < B) : HB w' b t cs := by
  unfold HB; rw [hb.block b hlt]; exact h
theorem HB.later {w w' : World} {b : Nat} {t : TypeId} {cs : List Value} (h : HB w b t cs) (hb : Below w.heap.size w w') : HB w' b t cs := h.below hb h.lt
theorem HB.grown {w w' : World} {b : Nat} {row : Option Nat} {t : TypeId} {cs : List Value} (h : HB w b t cs) (hg : w.grownBy w' row) (hne : some b ≠ row) : HB w' b t cs := by
  unfold HB; rw [hg.block b h.lt hne]; exact h
theorem HB.drn {w w' : World} {b : Nat} {t : TypeId} {cs : List Value} (h : HB w b t cs) (hd : Drn w w') : HB w' b t cs := by
  unfold HB; rw [hd.heap]; exact h
theorem HB.range {w : World} {b : Nat} {t : TypeId} {cs : List Value} (h : HB w b t cs) (o n : Nat) : w.rangeAt b o ((cs.drop o).take n) := fun j v hj => by
  by_cases hn : j < n
  · rw [List.getElem?_take_of_lt hn, List.getElem?_drop] at hj
    exact h.cell hj
  · rw [List.getElem?_take, if_neg hn] at hj; cases hj
theorem HB.whole {w : World} {b : Nat} {t : TypeId} {cs : List Value} (h : HB w b t cs) : w.rangeAt b 0 cs := fun j v hj => by rw [Nat.zero_add]; exact h.cell hj
theorem HB.there {w : World} {b : Nat} {t : TypeId} {cs : List Value} (h : HB w b t cs) {o n : Nat} (hn : o + n ≤ cs.length) : w.there b o n := fun j hj => by
  refine ⟨?_, h.frozen _⟩
  rw [h.cell (List.getElem?_eq_getElem (show o + j < cs.length by omega))]; rfl
theorem grown_set (w : World) (p : Addr) (u : Value) : w.grownBy (w.setCell p u) (some p.block) :=
  ⟨rfl, rfl, rfl, by simp [World.setCell], fun k hk hne => heap_setCell_other w p k u (fun e => hne (by rw [e]))⟩
theorem grown_alloc (w : World) (o : Obj) (row : Option Nat) : w.grownBy (w.alloc o) row := ⟨rfl, rfl, rfl, by simp, fun k hk _ => Below.heap_alloc w o k hk⟩
theorem grown_below {w w' : World} (h : Below w.heap.size w w') (row : Option Nat) : w.grownBy w' row := ⟨h.os, h.tape, h.output, h.size, fun k hk _ => h.block k hk⟩
theorem below_grown {w w' : World} (h : w.grownBy w' none) : Below w.heap.size w w' := ⟨h.os, h.tape, h.output, h.size, fun k hk => h.block k hk (by simp)⟩
theorem grown_drn {w w' : World} (h : Drn w w') (row : Option Nat) : w.grownBy w' row := grown_below (h.below _) row
theorem Rd.grown {w w' : World} {ao : Option Addr} {l : List UInt8} {row : Option Nat} (h : Rd w ao l) (hg : w.grownBy w' row) (hne : ∀ a, ao = some a → some a.block ≠ row) : Rd w' ao l := fun j hj =>
  let ⟨b, off, e, hc⟩ := h j hj; ⟨b, off, e, hg.cell hc (hne ⟨b, off, none⟩ e)⟩
theorem Own.grown {E : TypeId} {w w' : World} {B : Nat} {v : Value} {l : List UInt8} {row : Option Nat} (h : Own E w B v l) (hg : w.grownBy w' row) (hne : ∀ k, v.ownBlock = some k → row ≠ some k) : Own E w' B v l :=
  World.ownsRow.kept h hg (by
    cases hv : v.ownBlock with
    | none => exact Or.inl rfl
    | some k => exact Or.inr (fun e => hne k hv e.symm))
/-- but for the blocks of K, what was there is as it was -/
structure Frm (K : Nat → Prop) (w w' : World) : Prop where
  os : w'.os = w.os
  tape : w'.tape = w.tape
  output : w'.output = w.output
  size : w.heap.size ≤ w'.heap.size
  block : ∀ k, k < w.heap.size → ¬ K k → w'.heap[k]? = w.heap[k]?
theorem Frm.refl (K : Nat → Prop) (w : World) : Frm K w w := ⟨rfl, rfl, rfl, Nat.le_refl _, fun _ _ _ => rfl⟩
theorem Frm.trans {K : Nat → Prop} {a b c : World} (h : Frm K a b) (k : Frm K b c) : Frm K a c :=
  ⟨k.os.trans h.os, k.tape.trans h.tape, k.output.trans h.output, Nat.le_trans h.size k.size, fun i hi hk => (k.block i (Nat.lt_of_lt_of_le hi h.size) hk).trans (h.block i hi hk)⟩
theorem Frm.grown {K : Nat → Prop} {a b : World} {row : Option Nat} (h : a.grownBy b row) (hr : ∀ k, row = some k → K k) : Frm K a b :=
  ⟨h.os, h.tape, h.output, h.size, fun i hi hk => h.block i hi (fun e => hk (hr i e.symm))⟩
theorem Frm.later {K : Nat → Prop} {a b : World} (h : Below a.heap.size a b) : Frm K a b := ⟨h.os, h.tape, h.output, h.size, fun i hi _ => h.block i hi⟩
theorem Frm.drn {K : Nat → Prop} {a b : World} (h : Drn a b) : Frm K a b := Frm.later (h.below _)
theorem Frm.alloc {K : Nat → Prop} {a b : World} (h : Frm K a b) (o : Obj) : Frm K a (b.alloc o) := h.trans (Frm.later ((Below.refl _ _).alloc (Nat.le_refl _) o))
theorem Frm.below {K : Nat → Prop} {a b : World} {B : Nat} (h : Frm K a b) (hB : B ≤ a.heap.size) (hK : ∀ k, K k → B ≤ k) : Below B a b :=
  ⟨h.os, h.tape, h.output, h.size, fun i hi => h.block i (by omega) (fun hk => by have := hK i hk; omega)⟩
theorem Frm.mono {K K' : Nat → Prop} {a b : World} (h : Frm K a b) (hK : ∀ k, k < a.heap.size → K k → K' k) : Frm K' a b := ⟨h.os, h.tape, h.output, h.size, fun i hi hk => h.block i hi (fun e => hk (hK i hi e))⟩
theorem HB.frm {w w' : World} {b : Nat} {K : Nat → Prop} {t : TypeId} {cs : List Value} (h : HB w b t cs) (hf : Frm K w w') (hne : ¬ K b) : HB w' b t cs := by
  unfold HB; rw [hf.block b h.lt hne]; exact h
theorem Rd.frm {w w' : World} {ao : Option Addr} {l : List UInt8} {K : Nat → Prop} (h : Rd w ao l) (hf : Frm K w w') (hne : ∀ a, ao = some a → ¬ K a.block) : Rd w' ao l := fun j hj => by
  obtain ⟨b, off, e, hc⟩ := h j hj
  have hlt : b < w.heap.size := block_lt_of_cell hc
  exact ⟨b, off, e, by rw [World.cell?_of_block (hf.block b hlt (hne ⟨b, off, none⟩ e))]; exact hc⟩
theorem Own.frm {E : TypeId} {w w' : World} {B : Nat} {v : Value} {l : List UInt8} {K : Nat → Prop} (h : Own E w B v l) (hf : Frm K w w') (hne : ∀ k, v.ownBlock = some k → ¬ K k) : Own E w' B v l := by
  refine ⟨h.1, ?_⟩
  rcases h.2 with hn | ⟨g, cap, cur, rfl, hb, hgg, rest⟩
  · exact .inl hn
  · refine .inr ⟨g, cap, cur, rfl, hb, ?_, rest⟩
    rw [hf.block g (Array.getElem?_eq_some_iff.1 hgg).1 (hne g rfl)]; exact hgg
end Go.Proofs.Ytnmeidmiijcniaa
