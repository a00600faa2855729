/- The map of a flash's blocks, as a function of the block's number. No condition. -/
import Derived.Test.YtnmeidmiijcniaaProg
import Derived.Test.YtnmeidmiijcniaaByte
import Derived.Maps.RangeWalk
import Derived.Maps.Views
import Derived.Maps.OwnSet
set_option linter.unusedVariables false
set_option linter.unusedSimpArgs false
namespace Go.Proofs.Ytnmeidmiijcniaa
open Go.RowKit Go.Maps
def blkV (l : List UInt8) : Value := .agg (l.map bv).toArray
theorem bv_inj {a b : UInt8} (h : bv a = bv b) : a = b := by
  unfold bv at h
  simp only [Value.int.injEq, true_and] at h
  exact UInt8.toNat_inj.1 (by omega)
theorem blkV_inj {a b : List UInt8} (h : blkV a = blkV b) : a = b := by
  unfold blkV at h
  have h2 : a.map bv = b.map bv := by
    have := congrArg Array.toList (Value.agg.inj h)
    simpa using this
  exact (List.map_inj_right (fun x y => bv_inj)).1 h2
open Classical in
noncomputable def RB (v : Value) : Option (DataW Unit × List MemPlace) := if h : ∃ l : List UInt8, l.length = 512 ∧ v = blkV l then some (.lit (.string h.choose), []) else none
theorem RB_blk {l : List UInt8} (hl : l.length = 512) : RB (blkV l) = some (.lit (.string l), []) := by
  have h : ∃ l' : List UInt8, l'.length = 512 ∧ blkV l = blkV l' := ⟨l, hl, rfl⟩
  unfold RB
  rw [dif_pos h]
  have := blkV_inj h.choose_spec.2
  rw [← this]
theorem RB_inv {v : Value} {d : DataW Unit} {ps : List MemPlace} (h : RB v = some (d, ps)) : ∃ l : List UInt8, l.length = 512 ∧ v = blkV l ∧ d = .lit (.string l) := by
  unfold RB at h
  split at h
  · rename_i hx
    simp only [Option.some.injEq, Prod.mk.injEq] at h
    exact ⟨hx.choose, hx.choose_spec.1, hx.choose_spec.2, h.1.symm⟩
  · cases h
def zero512 : List UInt8 := List.replicate 512 0
def I64 (k : Int) : Prop := -9223372036854775808 ≤ k ∧ k ≤ 9223372036854775807
theorem i64_wf {k : Int} (h : I64 k) : (Lit.int .i64 k).wf = true := by
  unfold I64 at h
  simp [Lit.wf, IntKind.min, IntKind.max, IntKind.bits, IntKind.signed]; omega
theorem intLaw : Keyed Try.prog 3 := int_keyed Try.underlying3
theorem keyOf_i {k : Int} (h : I64 k) : keyOf Try.prog 3 (.int .i64 k) = some (.int .i64 k) := keyOf_int_mk Try.underlying3 (i64_wf h)
theorem isKey_i {k : Int} (h : I64 k) : WideAt.IsKeyLit (.int .i64 k) := intLaw.key (keyOf_i h)
/-- block b is a map (of at most n entries) that gives these blocks -/
def BMap (w : World) (b n : Nat) (F : Int → Option (List UInt8)) : Prop := ∃ D : DataW Unit, w.ownsMap Try.prog 3 RB b n D ∧ IsMap D ∧
  ∀ k, I64 k → D.atKey (.int .i64 k) (.lit (.string zero512)) = .lit (.string ((F k).getD zero512)) ∧ Maps.has D (.int .i64 k) = (F k).isSome
theorem BMap.made (w : World) : BMap (w.alloc (.map #[] 0)) w.heap.size 0 (fun _ => none) :=
  ⟨.map [], World.ownsMap_made w _ _ _, isMap_empty, fun k _ => ⟨rfl, rfl⟩⟩
theorem BMap.kept {w w' : World} {b n : Nat} {F : Int → Option (List UInt8)} {row : Option Nat} (h : BMap w b n F) (hg : w.grownBy w' row) (hne : some b ≠ row) : BMap w' b n F :=
  let ⟨D, h1, h2⟩ := h; ⟨D, h1.kept hg hne, h2⟩
theorem BMap.alloc {w : World} {b n : Nat} {F : Int → Option (List UInt8)} (h : BMap w b n F) (o : Obj) : BMap (w.alloc o) b n F := h.kept (grown_alloc w o none) (by simp)
theorem BMap.later {w w' : World} {b n : Nat} {F : Int → Option (List UInt8)} (h : BMap w b n F) (hb : Below w.heap.size w w') : BMap w' b n F := h.kept (grown_below hb none) (by simp)
theorem BMap.drn {w w' : World} {b n : Nat} {F : Int → Option (List UInt8)} (h : BMap w b n F) (hd : Drn w w') : BMap w' b n F := h.kept (grown_drn hd none) (by simp)
theorem BMap.lt {w : World} {b n : Nat} {F : Int → Option (List UInt8)} (h : BMap w b n F) : b < w.heap.size := let ⟨D, h1, _⟩ := h; h1.lt
theorem BMap.mono {w : World} {b n m : Nat} {F : Int → Option (List UInt8)} (h : BMap w b n F) (hm : n ≤ m) : BMap w b m F := let ⟨D, h1, h2⟩ := h; ⟨D, h1.mono hm, h2⟩
theorem zeroBlk : ∀ w, (zeroValue 113).run Try.prog w = .ok (blkV zero512) w := fun w => by kernel_rfl
theorem zero512_len : zero512.length = 512 := by unfold zero512; rw [List.length_replicate]
theorem BMap.look {w : World} {b n : Nat} {F : Int → Option (List UInt8)} (h : BMap w b n F) {k : Int} (hk : I64 k) :
    (Instr.lookup 107 (.map (some b)) (.int .i64 k) false).run Try.prog w = .ok (blkV ((F k).getD zero512)) w := by
  obtain ⟨D, h1, h2, h3⟩ := h
  obtain ⟨v, ps, hrun, hv⟩ := h1.lookup intLaw Try.underlying107 (zeroBlk w) (RB_blk zero512_len) (keyOf_i hk)
  obtain ⟨l, hl, rfl, hd⟩ := RB_inv hv
  rw [(h3 k hk).1] at hd
  simp only [DataW.lit.injEq, Lit.string.injEq] at hd
  rw [hrun, hd]
theorem BMap.look_ok {w : World} {b n : Nat} {F : Int → Option (List UInt8)} (h : BMap w b n F) {k : Int} (hk : I64 k) :
    (Instr.lookup 107 (.map (some b)) (.int .i64 k) true).run Try.prog w = .ok (.tuple #[blkV ((F k).getD zero512), .bool (F k).isSome]) w := by
  obtain ⟨D, h1, h2, h3⟩ := h
  obtain ⟨v, ps, hrun, hv⟩ := h1.look_ok intLaw Try.underlying107 (zeroBlk w) (RB_blk zero512_len) (keyOf_i hk)
  obtain ⟨l, hl, rfl, hd⟩ := RB_inv hv
  rw [(h3 k hk).1] at hd
  simp only [DataW.lit.injEq, Lit.string.injEq] at hd
  rw [hrun, hd, (h3 k hk).2]
def put (F : Int → Option (List UInt8)) (k : Int) (l : List UInt8) : Int → Option (List UInt8) := fun j => if j = k then some l else F j
theorem BMap.put {w : World} {b n : Nat} {F : Int → Option (List UInt8)} (h : BMap w b n F) {k : Int} (hk : I64 k) {l : List UInt8} (hl : l.length = 512) (hn : n < maxLen) :
    ∃ w', (Instr.mapUpdate 107 (.map (some b)) (.int .i64 k) (blkV l)).run Try.prog w = .ok () w' ∧ BMap w' b (n + 1) (put F k l) ∧ w.grownBy w' (some b) := by
  obtain ⟨D, h1, h2, h3⟩ := h
  obtain ⟨w', hrun, r1, r2⟩ := h1.update intLaw Try.underlying107 hn (keyOf_i hk) (RB_blk hl)
  refine ⟨w', hrun, ⟨_, r1, h2.put _ _, fun j hj => ?_⟩, r2⟩
  unfold Go.Proofs.Ytnmeidmiijcniaa.put
  by_cases e : j = k
  · subst e
    rw [if_pos rfl, atKey_put_same h2 (isKey_i hk), has_put_same h2 (isKey_i hk)]
    exact ⟨rfl, rfl⟩
  · have hne : (Lit.int .i64 j) ≠ .int .i64 k := fun h => by cases h; exact e rfl
    rw [if_neg e, atKey_put_other hne, has_put_other hne]
    exact h3 j hj
theorem wpList_put_blk {w : World} {ops : Array Oper} {rest : List Oper} {o : Oper} {a : Act} {Q : Exit → Act → World → Prop}
    (hg : o.guard = none) (m x v : Operand) (hop : o.op = Op.mapUpdate 107 m x v)
    (b n : Nat) (F : Int → Option (List UInt8)) (hm : a.eval m = .map (some b)) (hown : BMap w b n F) (hn : n < maxLen) (k : Int) (l : List UInt8) (hx : a.eval x = .int .i64 k) (hv : a.eval v = blkV l) (hk : I64 k) (hl : l.length = 512)
    (hK : ∀ w', BMap w' b (n + 1) (put F k l) → w.grownBy w' (some b) → wpList Try.prog ops Q rest (a.put o.dst undef) w') :
    wpList Try.prog ops Q (o :: rest) a w := by
  refine wpList_plain hg fun K' hK' => ?_
  obtain ⟨w', hrun, r1, r2⟩ := hown.put hk hl hn
  unfold Oper.wp
  simp [execOp, hop, hm, hx, hv, hrun, Result.andThen]
  exact hK' _ _ (hK w' r1 r2)
end Go.Proofs.Ytnmeidmiijcniaa
