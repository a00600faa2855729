/- Arrays of bytes: equal ones, and how they are read. No condition. -/
import Derived.Test.YtngkelflfahjbaaDoorShaO
import Derived.DeepKeys
set_option linter.unusedVariables false
set_option linter.unusedSimpArgs false
namespace Go.Proofs.YtngkelflfahjbaaDoor
open Go.RowKit
theorem mapM_all {α β : Type} {f : α → Option β} : ∀ {xs : List α}, (∀ x ∈ xs, ∃ y, f x = some y) → ∃ ys, xs.mapM f = some ys
  | [], _ => ⟨[], by simp⟩
  | x :: xs, h => by
    obtain ⟨y, hy⟩ := h x (by simp)
    obtain ⟨ys, hys⟩ := mapM_all (xs := xs) (fun z hz => h z (by simp [hz]))
    exact ⟨y :: ys, by simp [List.mapM_cons, hy, hys]⟩
theorem wf_u8b (c : UInt8) : (Lit.int .u8 (c.toNat : Int)).wf = true := by
  have := c.toNat_lt
  simp [Lit.wf, IntKind.min, IntKind.max, IntKind.bits, IntKind.signed]; omega
theorem lits_u8b (m : Nat) (c : UInt8) : Tryd.prog.keyLits (m + 1) 5 [bv c] = some [.int .u8 (c.toNat : Int)] := by
  have := wf_u8b c
  unfold Program.keyLits
  rw [Tryd.underlying5]
  simp [bv, this]
theorem bytes_keyOf {T : TypeId} {n : Nat} (hu : Tryd.prog.underlying T = some (.array n 5)) (hc : Tryd.prog.cellsOf T = n) (hk : Tryd.prog.keyType T = true) {l : List UInt8} (hl : l.length = n) : ∃ q, keyOf Tryd.prog T (.agg (l.map bv).toArray) = some q := by
  have h1 : Tryd.prog.cellsOf 5 = 1 := by kernel_rfl
  obtain ⟨m, hm⟩ : ∃ m, Tryd.prog.types.size = m + 1 := ⟨Tryd.prog.types.size - 1, by have : 0 < Tryd.prog.types.size := of_decide_eq_true (by kernel_rfl); omega⟩
  obtain ⟨ys, hys⟩ := mapM_all (xs := List.range n) (f := fun i => Tryd.prog.keyLits (m + 1) 5 (((l.map bv).drop (i * 1)).take 1)) (fun i hi => by
    have hi' : i < l.length := by rw [hl]; exact List.mem_range.1 hi
    have e : ((l.map bv).drop (i * 1)).take 1 = [bv (l[i]'hi')] := by
      rw [Nat.mul_one, List.drop_eq_getElem_cons (by rw [List.length_map]; exact hi'), List.take_succ_cons, List.take_zero, List.getElem_map]
    exact ⟨_, by rw [e]; exact lits_u8b m _⟩)
  refine ⟨.string (keyBytes ys.flatten), ?_⟩
  unfold keyOf
  rw [hu]
  simp only []
  rw [if_pos (by rw [hk]; simp [Value.formed, hu, hc, hl]), hm]
  have : (Value.agg (l.map bv).toArray).cells.toList = l.map bv := rfl
  rw [this]
  unfold Program.keyLits
  rw [hu]
  simp only []
  rw [if_pos (by rw [hc, List.length_map, hl]), h1, hys]
  rfl
theorem bytes_equal {T : TypeId} {n m : Nat} (hm : m ≤ 10000) (hka : Tryd.prog.keyTypeAt m T = true) (hu : Tryd.prog.underlying T = some (.array n 5)) (hc : Tryd.prog.cellsOf T = n) (hk : Tryd.prog.keyType T = true) {l : List UInt8} (hl : l.length = n) (w : World) :
    (Op.equalIn 10000 T (.agg (l.map bv).toArray) (.agg (l.map bv).toArray)).run Tryd.prog w = .ok true w := by
  obtain ⟨q, hq⟩ := bytes_keyOf hu hc hk hl
  obtain ⟨r, hr, hi⟩ := run_equal_deep (P := Tryd.prog) w hm hka (by rw [hu]) hq hq
  have e : r = true := hi.2 rfl
  rw [← e]
  exact hr
theorem eqD32 {l : List UInt8} (hl : l.length = 32) (w : World) : (Op.equalIn 10000 25 (.agg (l.map bv).toArray) (.agg (l.map bv).toArray)).run Tryd.prog w = .ok true w :=
  bytes_equal (m := 2) (by omega) (by kernel_rfl) Tryd.underlying25 (by kernel_rfl) (by kernel_rfl) hl w
def ldD32 (p : Value) : Sem Value := Instr.loadAt 25 p
theorem ldfD32 (p : Value) : Instr.loadAt 25 p = ldD32 p := rfl
def stD32 (p v : Value) : Sem Unit := Instr.storeAt 25 p v
theorem stfD32 (p v : Value) : Instr.storeAt 25 p v = stD32 p v := rfl
theorem runldD32 {w : World} {b : Nat} {t : TypeId} {l : List UInt8} (h : HB w b t (l.map bv)) (hl : l.length = 32) : (ldD32 (.pointer (some ⟨b, 0, none⟩))).run Tryd.prog w = .ok (.agg (l.map bv).toArray) w :=
  run_loadAt_mid (P := Tryd.prog) w b 0 25 (l.map bv) _ h.whole Tryd.underlying25 rfl (by rw [List.length_map, hl]; kernel_rfl)
theorem runstD32 {w : World} {b : Nat} {t : TypeId} {old : List Value} {l : List UInt8} (h : HB w b t old) (ho : old.length = 32) (hl : l.length = 32) : (stD32 (.pointer (some ⟨b, 0, none⟩)) (.agg (l.map bv).toArray)).run Tryd.prog w = .ok () (w.setRow b (l.map bv).toArray) := by
  have hv := run_storeVar_row (P := Tryd.prog) w b t 25 old.toArray (l.map bv).toArray h (by rw [List.size_toArray, List.length_map, hl]; kernel_rfl) (by rw [List.size_toArray, List.size_toArray, List.length_map, hl, ho]) (by simp [bv, Value.oneCell'])
  unfold stD32
  simp only [Instr.storeAt, Instr.sureAddr, Sem.run_bind, Sem.run_pure, Result.andThen_ok, hv]
theorem eqD48 {l : List UInt8} (hl : l.length = 48) (w : World) : (Op.equalIn 10000 27 (.agg (l.map bv).toArray) (.agg (l.map bv).toArray)).run Tryd.prog w = .ok true w :=
  bytes_equal (m := 2) (by omega) (by kernel_rfl) Tryd.underlying27 (by kernel_rfl) (by kernel_rfl) hl w
def ldD48 (p : Value) : Sem Value := Instr.loadAt 27 p
theorem ldfD48 (p : Value) : Instr.loadAt 27 p = ldD48 p := rfl
def stD48 (p v : Value) : Sem Unit := Instr.storeAt 27 p v
theorem stfD48 (p v : Value) : Instr.storeAt 27 p v = stD48 p v := rfl
theorem runldD48 {w : World} {b : Nat} {t : TypeId} {l : List UInt8} (h : HB w b t (l.map bv)) (hl : l.length = 48) : (ldD48 (.pointer (some ⟨b, 0, none⟩))).run Tryd.prog w = .ok (.agg (l.map bv).toArray) w :=
  run_loadAt_mid (P := Tryd.prog) w b 0 27 (l.map bv) _ h.whole Tryd.underlying27 rfl (by rw [List.length_map, hl]; kernel_rfl)
theorem runstD48 {w : World} {b : Nat} {t : TypeId} {old : List Value} {l : List UInt8} (h : HB w b t old) (ho : old.length = 48) (hl : l.length = 48) : (stD48 (.pointer (some ⟨b, 0, none⟩)) (.agg (l.map bv).toArray)).run Tryd.prog w = .ok () (w.setRow b (l.map bv).toArray) := by
  have hv := run_storeVar_row (P := Tryd.prog) w b t 27 old.toArray (l.map bv).toArray h (by rw [List.size_toArray, List.length_map, hl]; kernel_rfl) (by rw [List.size_toArray, List.size_toArray, List.length_map, hl, ho]) (by simp [bv, Value.oneCell'])
  unfold stD48
  simp only [Instr.storeAt, Instr.sureAddr, Sem.run_bind, Sem.run_pure, Result.andThen_ok, hv]
theorem eqD64 {l : List UInt8} (hl : l.length = 64) (w : World) : (Op.equalIn 10000 29 (.agg (l.map bv).toArray) (.agg (l.map bv).toArray)).run Tryd.prog w = .ok true w :=
  bytes_equal (m := 2) (by omega) (by kernel_rfl) Tryd.underlying29 (by kernel_rfl) (by kernel_rfl) hl w
def ldD64 (p : Value) : Sem Value := Instr.loadAt 29 p
theorem ldfD64 (p : Value) : Instr.loadAt 29 p = ldD64 p := rfl
def stD64 (p v : Value) : Sem Unit := Instr.storeAt 29 p v
theorem stfD64 (p v : Value) : Instr.storeAt 29 p v = stD64 p v := rfl
theorem runldD64 {w : World} {b : Nat} {t : TypeId} {l : List UInt8} (h : HB w b t (l.map bv)) (hl : l.length = 64) : (ldD64 (.pointer (some ⟨b, 0, none⟩))).run Tryd.prog w = .ok (.agg (l.map bv).toArray) w :=
  run_loadAt_mid (P := Tryd.prog) w b 0 29 (l.map bv) _ h.whole Tryd.underlying29 rfl (by rw [List.length_map, hl]; kernel_rfl)
theorem runstD64 {w : World} {b : Nat} {t : TypeId} {old : List Value} {l : List UInt8} (h : HB w b t old) (ho : old.length = 64) (hl : l.length = 64) : (stD64 (.pointer (some ⟨b, 0, none⟩)) (.agg (l.map bv).toArray)).run Tryd.prog w = .ok () (w.setRow b (l.map bv).toArray) := by
  have hv := run_storeVar_row (P := Tryd.prog) w b t 29 old.toArray (l.map bv).toArray h (by rw [List.size_toArray, List.length_map, hl]; kernel_rfl) (by rw [List.size_toArray, List.size_toArray, List.length_map, hl, ho]) (by simp [bv, Value.oneCell'])
  unfold stD64
  simp only [Instr.storeAt, Instr.sureAddr, Sem.run_bind, Sem.run_pure, Result.andThen_ok, hv]
end Go.Proofs.YtngkelflfahjbaaDoor
