/- Words and small laws of this session's own that all texts of the seat use: what it means that a slice of bytes reads as a list; numbers of 32 bits as BitVec. No condition. -/
import Derived.WalkKit
import Derived.WalkSpells
import Derived.WalkLawsBesides
import Derived.Laws.BitsAllLaws
import Derived.Lib.Hide
import Derived.Lib.SlBytesConst
import Derived.Deep.QuietTactic
import Derived.BigQuiet
import Derived.Laws.AppendOwnNone
import Derived.Deep.Onto
import Derived.Deep.RegionLaw
set_option linter.unusedVariables false
set_option linter.unusedSimpArgs false
namespace Go.Proofs.Ytnmeidmiijcniaa
open Go.RowKit

/-- a slice's address, and the bytes that are read there -/
def Rd (w : World) (ao : Option Addr) (l : List UInt8) : Prop := ∀ j, j < l.length → ∃ b off, ao = some ⟨b, off, none⟩ ∧ w.cell? ⟨b, off + j, none⟩ = some (.int .u8 ((l[j]?.getD 0).toNat))

theorem Rd.below {w w' : World} {ao : Option Addr} {l : List UInt8} (h : Rd w ao l) (hb : Below w.heap.size w w') : Rd w' ao l := fun j hj =>
  let ⟨b, off, e, hc⟩ := h j hj; ⟨b, off, e, cell_later hb hc⟩
/-- a byte as a value -/
def bv (c : UInt8) : Value := .int .u8 c.toNat
theorem Rd.new (w : World) (l : List UInt8) (e : TypeId) (m : Nat × Nat) : Rd (w.alloc (.cells (l.map bv).toArray e m)) (some ⟨w.heap.size, 0, none⟩) l := fun j hj =>
  ⟨w.heap.size, 0, rfl, by
    rw [World.cell?_alloc_mark]
    simp [bv, hj]⟩
theorem Rd.nil (w : World) (ao : Option Addr) : Rd w ao [] := fun j hj => absurd hj (by simp)

theorem u32_xor_bv (a b : BitVec 32) : bits BinOp.xor IntKind.u32 a.toNat b.toNat = ((a ^^^ b).toNat : Int) := by
  rw [u32_xor_nat _ _ a.isLt b.isLt, BitVec.toNat_xor]
theorem u32_and_bv (a b : BitVec 32) : bits BinOp.and IntKind.u32 a.toNat b.toNat = ((a &&& b).toNat : Int) := by
  rw [u32_and_nat _ _ a.isLt b.isLt, BitVec.toNat_and]
theorem u32_not_bv (a : BitVec 32) : bits BinOp.xor IntKind.u32 IntKind.u32.max a.toNat = ((~~~ a).toNat : Int) := by
  have h : IntKind.u32.max = (((BitVec.allOnes 32).toNat : Nat) : Int) := by decide +kernel
  rw [h, u32_xor_bv]
  congr 2
theorem bv_shr1 (r : BitVec 32) : (r.toNat : Int) / (2 : Int) = ((r >>> 1).toNat : Int) := by
  rw [BitVec.toNat_ushiftRight, Nat.shiftRight_eq_div_pow]; rfl
theorem u32_neg_bv (a : BitVec 32) : (-(a.toNat : Int)) % 4294967296 = ((-a).toNat : Int) := by
  rw [BitVec.toNat_neg]; have := a.isLt; omega
theorem byte_32 (c : UInt8) : (c.toNat : Int) % 4294967296 = ((c.toBitVec.setWidth 32).toNat : Int) := by
  have := c.toNat_lt; simp; omega
theorem repeat_succ {α : Type} (f : α → α) (n : Nat) (a : α) : Nat.repeat f (n + 1) a = f (Nat.repeat f n a) := rfl
theorem and_one (r : BitVec 32) : r &&& 1#32 = if r.toNat % 2 = 1 then 1#32 else 0#32 := by
  apply BitVec.eq_of_toNat_eq
  rw [BitVec.toNat_and]
  show r.toNat &&& 1 = _
  rw [Nat.and_one_is_mod]
  split <;> rename_i h
  · rw [h]; rfl
  · have : r.toNat % 2 = 0 := by omega
    rw [this]; rfl

theorem quiet_eq {P : Program} {f : FuncId} {args : Array Value} {w : World} {n : Nat} {v : Value}
    (h : Calls P f args (w.drewN n) fun e w' => e = .returned v ∧ w.drewN n = w') : Calls P f args (w.drewN n) fun e w'' => e = .returned v ∧ ∃ m, w'' = w.drewN m :=
  Calls.quiet_of_same (h.mono fun _ _ ⟨a, b⟩ => ⟨a, b.symm⟩)

/-- nothing has changed but how many answers were drawn -/
structure Drn (w w' : World) : Prop where
  x : ∃ n, w' = w.drewN n
theorem Drn.refl (w : World) : Drn w w := ⟨0, rfl⟩
theorem Drn.trans {a b c : World} (h : Drn a b) (k : Drn b c) : Drn a c := by
  obtain ⟨n, rfl⟩ := h; obtain ⟨m, rfl⟩ := k; exact ⟨n + m, by rw [World.drewN_drewN]⟩
theorem Drn.step {a b : World} (h : Drn a b) (n : Nat) : Drn a (b.drewN n) := h.trans ⟨n, rfl⟩
theorem Drn.drew {a b : World} (h : Drn a b) : Drn a b.drew := h.trans ⟨1, rfl⟩
theorem Drn.cell {a b : World} (h : Drn a b) (p : Addr) : b.cell? p = a.cell? p := by obtain ⟨n, rfl⟩ := h; rfl
theorem Drn.heap {a b : World} (h : Drn a b) : b.heap = a.heap := by obtain ⟨n, rfl⟩ := h; rfl
theorem Drn.frozen {a b : World} (h : Drn a b) (p : Addr) : b.frozen? p = a.frozen? p := by obtain ⟨n, rfl⟩ := h; rfl
theorem Drn.below {a b : World} (h : Drn a b) (B : Nat) : Below B a b := by obtain ⟨n, rfl⟩ := h; exact ⟨rfl, rfl, rfl, Nat.le_refl _, fun _ _ => rfl⟩
theorem Drn.rd {a b : World} (h : Drn a b) {ao : Option Addr} {l : List UInt8} (hr : Rd a ao l) : Rd b ao l := fun j hj =>
  let ⟨x, off, e, hc⟩ := hr j hj; ⟨x, off, e, (h.cell _).trans hc⟩
theorem quiet_drn {P : Program} {f : FuncId} {args : Array Value} {w : World} {n : Nat} {v : Value}
    (h : Calls P f args (w.drewN n) fun e w' => e = .returned v ∧ Drn (w.drewN n) w') : Calls P f args (w.drewN n) fun e w'' => e = .returned v ∧ ∃ m, w'' = w.drewN m :=
  h.mono fun _ _ ⟨a, b⟩ => ⟨a, by obtain ⟨m, rfl⟩ := b; exact ⟨n + m, by rw [World.drewN_drewN]⟩⟩

/-! ### rows of bytes that the call itself made -/
/-- the type of slices of bytes and that of bytes, in a program -/
structure ByteRow (P : Program) (T E : TypeId) : Prop where
  ht : P.underlying T = some (.slice E)
  info : (P.info? E).map (fun i => (i.zero, i.size, i.bytes)) = some (some (.int .u8 0), 1, 1)
def Own (E : TypeId) (w : World) (B : Nat) (v : Value) (l : List UInt8) : Prop := w.ownsRow B E 1 v l.length (l.map bv)
theorem Own.cases {E : TypeId} {w : World} {B : Nat} {v : Value} {l : List UInt8} (h : Own E w B v l) :
    (v = .slice none 0 0 ∧ l = []) ∨ ∃ g cap, v = .slice (some ⟨g, 0, none⟩) l.length cap ∧ B ≤ g ∧ g < w.heap.size ∧ l.length ≤ cap ∧ cap ≤ maxLen ∧
      (∀ j, j < l.length → w.cell? ⟨g, j, none⟩ = some (.int .u8 (l[j]?.getD 0).toNat)) ∧ (∀ j, w.frozen? ⟨g, j, none⟩ = false) := by
  have h0 := h
  rcases h.2 with ⟨rfl, hn⟩ | ⟨g, cap, cur, rfl, hb, hg, hnc, hcm, hcs, htake⟩
  · exact .inl ⟨rfl, List.eq_nil_of_length_eq_zero hn⟩
  · refine .inr ⟨g, cap, rfl, hb, (Array.getElem?_eq_some_iff.1 hg).1, hnc, hcm, fun j hj => ?_, fun j => World.ownsRow.frozenAt h0 j⟩
    rw [World.ownsRow.cellAt h0 j (by omega)]
    simp [bv, hj]
theorem Own.rd {E : TypeId} {w : World} {B : Nat} {v : Value} {l : List UInt8} (h : Own E w B v l) : ∃ ao cap, v = .slice ao l.length cap ∧ l.length ≤ cap ∧ cap ≤ maxLen ∧ Rd w ao l := by
  rcases h.cases with ⟨rfl, rfl⟩ | ⟨g, cap, rfl, _, _, h1, h2, h3, _⟩
  · exact ⟨none, 0, rfl, Nat.le_refl _, by decide, Rd.nil _ _⟩
  · exact ⟨_, cap, rfl, h1, h2, fun j hj => ⟨g, 0, rfl, by rw [Nat.zero_add]; exact h3 j hj⟩⟩
theorem Own.at {E : TypeId} {w : World} {B g n C : Nat} {l : List UInt8} (h : Own E w B (.slice (some ⟨g, 0, none⟩) n C) l) :
    n = l.length ∧ B ≤ g ∧ g < w.heap.size ∧ n ≤ C ∧ C ≤ maxLen ∧ (∀ j, j < n → w.cell? ⟨g, j, none⟩ = some (.int .u8 (l[j]?.getD 0).toNat)) ∧ ∀ j, w.frozen? ⟨g, j, none⟩ = false := by
  rcases h.cases with ⟨h1, _⟩ | ⟨g', C', h1, h2, h3, h4, h5, h6, h7⟩
  · cases h1
  · cases h1; exact ⟨rfl, h2, h3, h4, h5, h6, h7⟩
theorem Own.later {E : TypeId} {w w' : World} {B : Nat} {v : Value} {l : List UInt8} (h : Own E w B v l) (hb : Below w.heap.size w w') : Own E w' B v l :=
  World.ownsRow.kept h (row := none) ⟨hb.os, hb.tape, hb.output, hb.size, fun k hk _ => hb.block k hk⟩ (by cases hv : v.ownBlock <;> simp)
theorem Own.mono {E : TypeId} {w : World} {B B' : Nat} {v : Value} {l : List UInt8} (h : Own E w B v l) (hb : B' ≤ B) : Own E w B' v l := World.ownsRow.mono h hb
theorem Own.alloc {E : TypeId} {w : World} {B : Nat} {v : Value} {l : List UInt8} (h : Own E w B v l) (o : Obj) : Own E (w.alloc o) B v l := World.ownsRow.alloc h o
theorem Own.store {E : TypeId} {w : World} {B : Nat} {g cap n : Nat} {l : List UInt8} (h : Own E w B (.slice (some ⟨g, 0, none⟩) n cap) l) (j : Nat) (c : UInt8) (hj : j < l.length) :
    Own E (w.setCell ⟨g, j, none⟩ (.int .u8 c.toNat)) B (.slice (some ⟨g, 0, none⟩) n cap) (l.set j c) := by
  have hn : n = l.length := by
    rcases h.cases with ⟨h1, _⟩ | ⟨g', cap', h1, _⟩
    · cases h1
    · cases h1; rfl
  subst hn
  have := (World.ownsRow.stored h j (bv c)).1
  unfold Own
  rw [List.length_set]
  simpa [List.map_set, bv] using this
theorem Own.other {E : TypeId} {w : World} {B : Nat} {v : Value} {l : List UInt8} (h : Own E w B v l) {a : Addr} (ha : v.ownBlock ≠ some a.block) (u : Value) : Own E (w.setCell a u) B v l :=
  ownsRow_setCell_other h ha u
theorem Own.nil (E : TypeId) (w : World) (B : Nat) : Own E w B (.slice none 0 0) [] := World.ownsRow_nil w B E 1
theorem Own.made0 (E : TypeId) (w : World) (B : Nat) (hB : B ≤ w.heap.size) : Own E (w.alloc (.cells #[] E)) B (.slice (some ⟨w.heap.size, 0, none⟩) 0 0) [] :=
  World.ownsRow_made w #[] 0 hB (by decide) rfl
theorem Own.zeros {E : TypeId} {w : World} {B m : Nat} {v : Value} (h : w.ownsRow B E 1 v m (madeCells #[Value.int IntKind.u8 0] m).toList) : Own E w B v (List.replicate m 0) := by
  unfold Own
  rw [toList_madeCells_one] at h
  simpa [bv] using h
theorem Rd.news {w : World} {a : Addr} {l : List UInt8} (h : Rd w (some a) l) : ∀ j u, (l.map bv)[j]? = some u → w.cell? (a.add j) = some u := by
  intro j u hu
  rw [List.getElem?_map] at hu
  have hj : j < l.length := by
    by_cases hj : j < l.length
    · exact hj
    · simp [List.getElem?_eq_none (by omega : l.length ≤ j)] at hu
  obtain ⟨b, off, e, hc⟩ := h j hj
  cases e
  have hadd : (⟨b, off, none⟩ : Addr).add j = ⟨b, off + j, none⟩ := by unfold Addr.add; split <;> simp_all
  rw [hadd, hc]
  rw [List.getElem?_eq_getElem hj] at hu ⊢
  simpa [bv] using hu
theorem bv_one (l : List UInt8) : ∀ u ∈ l.map bv, u.oneCell' = true := by
  intro u hu
  obtain ⟨c, _, rfl⟩ := List.mem_map.1 hu
  rfl
/-- append(s, x...) of bytes, whatever x is: nil, empty or not -/
theorem wpList_append_bytes {P : Program} {T E : TypeId} (R : ByteRow P T E) {w : World} {ops : Array Oper} {rest : List Oper} {o : Oper} {a : Act} {Q : Exit → Act → World → Prop} (hgd : o.guard = none) (s x : Operand)
    (ho : o.op = .call { callee := .builtin .append, args := #[s, x], argTypes := #[T, T] })
    (B : Nat) (v : Value) (l : List UInt8) (hs : a.eval s = v) (hown : Own E w B v l) (ao : Option Addr) (m c : Nat) (l2 : List UInt8) (hx : a.eval x = .slice ao m c) (hc : ao = none → c = 0) (hl : l2.length = m) (hr : Rd w ao l2)
    (hbytes : l.length + m ≤ 140737488355328) (hB : B ≤ w.heap.size)
    (h : ∀ v' w', Own E w' B v' (l ++ l2) → w.grownBy w' v.ownBlock → wpList P ops Q rest (a.put o.dst v') w') : wpList P ops Q (o :: rest) a w := by
  obtain ⟨i, hi, hz0, hz1, hz2⟩ := info_parts R.info
  cases ao with
  | none =>
    obtain rfl := hc rfl
    have hm : m = 0 := by
      by_cases h0 : 0 < l2.length
      · obtain ⟨_, _, e, _⟩ := hr 0 h0; cases e
      · omega
    subst hm
    obtain rfl : l2 = [] := List.eq_nil_of_length_eq_zero hl
    exact wpList_append_own_none hgd s x T ho B E i 1 R.ht hi v _ _ hs hown hx (h v w (by simpa using hown) (World.grownBy.refl _ _))
  | some ad =>
    refine wpList_append_own w hgd s x T ho B E i (.int .u8 0) 1 1 R.ht hi hz0 hz1 hz2 rfl (by decide) v _ _ hs hown ad m c (l2.map bv) hx (by simp [hl]) hr.news (bv_one _)
      (by simp only [maxLen]; omega) (by omega) hB ?_
    intro v' w' h1 h2 _
    refine h v' w' ?_ h2
    unfold Own
    rw [List.length_append, List.map_append, hl]
    exact h1

/-- the same where something is there behind it: the value is no nil -/
theorem wpList_append_bytes_pos {P : Program} {T E : TypeId} (R : ByteRow P T E) {w : World} {ops : Array Oper} {rest : List Oper} {o : Oper} {a : Act} {Q : Exit → Act → World → Prop} (hgd : o.guard = none) (s x : Operand)
    (ho : o.op = .call { callee := .builtin .append, args := #[s, x], argTypes := #[T, T] })
    (B : Nat) (v : Value) (l : List UInt8) (hs : a.eval s = v) (hown : Own E w B v l) (ao : Option Addr) (m c : Nat) (l2 : List UInt8) (hx : a.eval x = .slice ao m c) (hc : ao = none → c = 0) (hl : l2.length = m) (hr : Rd w ao l2)
    (N : Nat) (hN : N = l.length + m) (hpos : 0 < N)
    (hbytes : N ≤ 140737488355328) (hB : B ≤ w.heap.size)
    (h : ∀ g C w', Own E w' B (.slice (some ⟨g, 0, none⟩) N C) (l ++ l2) → w.grownBy w' v.ownBlock → wpList P ops Q rest (a.put o.dst (.slice (some ⟨g, 0, none⟩) N C)) w') : wpList P ops Q (o :: rest) a w :=
  wpList_append_bytes R hgd s x ho B v l hs hown ao m c l2 hx hc hl hr (by omega) hB fun v' w' h1 h2 => by
    rcases h1.cases with ⟨_, h0⟩ | ⟨g, C, hv, _⟩
    · have : l.length + l2.length = 0 := by rw [← List.length_append, h0]; rfl
      omega
    · have e : (l ++ l2).length = N := by simp; omega
      rw [e] at hv
      subst hv
      exact h g C w' h1 h2

/-- a law on one operation, as a step of a region that draws its order -/
theorem step_of_wp {P : Program} {ops : Array Oper} {o : Oper} {a : Act} {w : World} {K : Act → World → Prop} {Q : Exit → Act → World → Prop} {E : Prop} (hgd : o.guard = none)
    (h : o.wp P a w K Q) : if Region.wanted o (yielded ops a.tmps) = true then Oper.wp P o a w K Q else E := by
  have hw : Region.wanted o (yielded ops a.tmps) = true := by simp [Region.wanted, hgd]
  rw [if_pos hw]
  exact h
/-- append(s, x...) of bytes within the capacity: the value stays at its row's head -/
theorem wp_append_fit {P : Program} {T E : TypeId} (R : ByteRow P T E) {w : World} {o : Oper} {a : Act} {K : Act → World → Prop} {Q : Exit → Act → World → Prop} (s x : Operand)
    (ho : o.op = .call { callee := .builtin .append, args := #[s, x], argTypes := #[T, T] })
    (B g n C : Nat) (l : List UInt8) (hs : a.eval s = .slice (some ⟨g, 0, none⟩) n C) (hown : Own E w B (.slice (some ⟨g, 0, none⟩) n C) l) (ad : Addr) (m c : Nat) (l2 : List UInt8) (hx : a.eval x = .slice (some ad) m c) (hl : l2.length = m) (hr : Rd w (some ad) l2)
    (N : Nat) (hN : N = n + m) (hC : N ≤ C)
    (h : ∀ w', Own E w' B (.slice (some ⟨g, 0, none⟩) N C) (l ++ l2) → w.grownBy w' (some g) → K (a.put o.dst (.slice (some ⟨g, 0, none⟩) N C)) w') : o.wp P a w K Q := by
  subst hN
  obtain ⟨i, hi, hz0, hz1, hz2⟩ := info_parts R.info
  obtain ⟨hn, -⟩ := hown.at
  subst hn
  obtain ⟨w', hrun, r1, r2⟩ := run_append_fits (P := P) w B T o.type E i 1 R.ht hi hz1 g l.length C (l.map bv) hown ad m c (l2.map bv) (by simp [hl]) hr.news (bv_one _) hC
  unfold Oper.wp
  simp [execOp, ho, resolve, invoke, builtin, hs, hx, hrun, Result.andThen]
  refine h w' ?_ r2
  unfold Own
  rw [List.length_append, List.map_append, hl]
  exact r1
theorem wpList_append_fit {P : Program} {T E : TypeId} (R : ByteRow P T E) {w : World} {ops : Array Oper} {rest : List Oper} {o : Oper} {a : Act} {Q : Exit → Act → World → Prop} (hgd : o.guard = none) (s x : Operand)
    (ho : o.op = .call { callee := .builtin .append, args := #[s, x], argTypes := #[T, T] })
    (B g n C : Nat) (l : List UInt8) (hs : a.eval s = .slice (some ⟨g, 0, none⟩) n C) (hown : Own E w B (.slice (some ⟨g, 0, none⟩) n C) l) (ad : Addr) (m c : Nat) (l2 : List UInt8) (hx : a.eval x = .slice (some ad) m c) (hl : l2.length = m) (hr : Rd w (some ad) l2)
    (N : Nat) (hN : N = n + m) (hC : N ≤ C)
    (h : ∀ w', Own E w' B (.slice (some ⟨g, 0, none⟩) N C) (l ++ l2) → w.grownBy w' (some g) → wpList P ops Q rest (a.put o.dst (.slice (some ⟨g, 0, none⟩) N C)) w') : wpList P ops Q (o :: rest) a w :=
  wpList_plain hgd fun _ hK => wp_append_fit R s x ho B g n C l hs hown ad m c l2 hx hl hr N hN hC fun w' h1 h2 => hK _ _ (h w' h1 h2)

/-- b[f:t] of a slice of bytes -/
theorem slice_bytes {P : Program} {T E : TypeId} (R : ByteRow P T E) (ao : Option Addr) (n cap f t : Nat) (h1 : f ≤ t) (h2 : t ≤ cap) (kl kh : IntKind) :
    ∃ bo : Option Addr, (∀ w, (Instr.slice T (.slice ao n cap) (some (.int kl (f : Int))) (some (.int kh (t : Int))) none).run P w = .ok (.slice bo (t - f) (cap - f)) w) ∧ (bo = none → ao = none) ∧
      ∀ w l, Rd w ao l → l.length = n → t ≤ n → Rd w bo ((l.drop f).take (t - f)) := by
  obtain ⟨i, hi, hz0, hz1, hz2⟩ := info_parts R.info
  have he : P.elem T = E := by simp [Program.elem, R.ht]
  refine ⟨if cap = f then ao else ao.map (·.add f), fun w => ?_, ?_, ?_⟩
  · rw [run_slice_lh (P := P) w T ao n cap (by rw [he]; exact R.ht) kl kh (f : Int) (t : Int) (by omega) (by omega) (by omega)]
    have hs : (sizeOf (P.elem T)).run P w = .ok 1 w := by rw [he]; simp [sizeOf, typeInfo, hi, hz1]
    rw [hs]
    simp [Result.andThen, sliced]
  · split
    · exact id
    · intro h; simpa using h
  · intro w l hr hl ht j hj
    have hj' : j < t - f := by simp at hj; omega
    obtain ⟨b, off, rfl, hc⟩ := hr (f + j) (by omega)
    have hne : ¬ cap = f := by omega
    refine ⟨b, off + f, ?_, ?_⟩
    · rw [if_neg hne]
      simp only [Option.map_some]
      unfold Addr.add
      by_cases h0 : f = 0
      · rw [if_pos h0, h0]; rfl
      · rw [if_neg h0]
    · rw [Nat.add_assoc, hc]
      simp [List.getElem?_take, hj', List.getElem?_drop]

/-- CRC-32, bit by bit -/
def crcBit (r : BitVec 32) : BitVec 32 := (r >>> 1) ^^^ (0xEDB88320#32 &&& (- (r &&& 1#32)))
def crcByte (r : BitVec 32) (c : UInt8) : BitVec 32 := Nat.repeat crcBit 8 (r ^^^ (c.toBitVec.setWidth 32))
def crcRun (r : BitVec 32) (l : List UInt8) : BitVec 32 := l.foldl crcByte r
def crc (s : BitVec 32) (l : List UInt8) : BitVec 32 := ~~~ (crcRun (~~~ s) l)
theorem crcRun_snoc (r : BitVec 32) (zs : List UInt8) (k : Nat) (h : k < zs.length) : crcRun r (zs.take (k + 1)) = crcByte (crcRun r (zs.take k)) (zs[k]?.getD 0) := by
  unfold crcRun
  rw [List.take_add_one, List.foldl_append]
  simp [List.getElem?_eq_getElem h]
theorem crcBit_int (r : BitVec 32) : bits BinOp.xor IntKind.u32 ((r.toNat : Int) / 2) (bits BinOp.and IntKind.u32 3988292384 ((-(bits BinOp.and IntKind.u32 (r.toNat : Int) 1)) % 4294967296)) = ((crcBit r).toNat : Int) := by
  have h1 : (1 : Int) = ((1#32).toNat : Int) := rfl
  have h2 : (3988292384 : Int) = ((0xEDB88320#32).toNat : Int) := rfl
  have h0 := bv_shr1 r
  rw [h0, h1, h2, u32_and_bv, u32_neg_bv, u32_and_bv, u32_xor_bv]
  rfl
theorem crcBit_odd (r : BitVec 32) (h : r.toNat % 2 = 1) : crcBit r = (r >>> 1) ^^^ 0xEDB88320#32 := by
  unfold crcBit; rw [and_one, if_pos h]; rfl
theorem crcBit_even (r : BitVec 32) (h : ¬ r.toNat % 2 = 1) : crcBit r = (r >>> 1) := by
  unfold crcBit; rw [and_one, if_neg h]; simp
end Go.Proofs.Ytnmeidmiijcniaa
