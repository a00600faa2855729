/- How arguments that are lists of bytes are opened: what the form says of them, as this session's words. No condition. -/
import Derived.Test.YtnmeidmiijcniaaU
import Derived.ProofKit
import Derived.OpenShut
import Derived.ShutString
import Derived.ChangeOld
import Derived.SizedLaws
set_option linter.unusedVariables false
set_option linter.unusedSimpArgs false
namespace Go.Proofs.Ytnmeidmiijcniaa
open Go.ChangeShapes Go.WideShapes Go.ChangeAt Go.RowKit

theorem all_app {l m : List Nat} {n : Nat} (h : (l ++ m).all (· ≤ n) = true) : l.all (· ≤ n) = true ∧ m.all (· ≤ n) = true := by
  rw [List.all_append, Bool.and_eq_true] at h; exact h

theorem trod_bytes {H : Type} {enc : TypeId × Value → H} {P : Program} {W : World} {T E fuel : Nat} {c : Value} {x : DataW H × List MemPlace}
    (hu : P.underlying T = some (.slice E)) (he : P.underlying E = some (.int .u8)) (hc : P.cellsOf E = 1) (hb : P.bytesOf E = 1)
    (h : DataW.trod enc P W 0 (fun _ => true) true fuel T [c] = some x) (hz : (DataW.weights P T x.1).all (· ≤ reachBytes) = true) :
    ∃ ao n cap l, c = .slice ao n cap ∧ l.length = n ∧ n ≤ cap ∧ cap ≤ 140737488351232 ∧ Rd W ao l ∧ (ao = none → cap = 0) := by
  rcases open_ints hu he hc h with ⟨hcs, rfl⟩ | ⟨a, l, cp, zs, hcs, _, hl, hm, hzl, rfl, hcell, hwz⟩
  · simp at hcs
    subst hcs
    exact ⟨none, 0, 0, [], rfl, rfl, Nat.le_refl _, by omega, Rd.nil _ _, fun _ => rfl⟩
  · simp at hcs
    subst hcs
    simp only [if_true] at hzl
    have hlen : (zs.take l).length = l := by simp; omega
    refine ⟨some a, l, cp, (zs.take l).map (fun z => UInt8.ofNat z.toNat), rfl, by simpa using hlen, hl, ?_, ?_, fun h => by cases h⟩
    · simp only [DataW.weights, hu, hb, List.all_cons, Bool.and_eq_true, decide_eq_true_eq, lits, List.length_map, Nat.mul_one] at hz
      have := hz.1
      rw [← List.length_append, List.take_append_drop, hzl] at this
      exact this
    · intro j hj
      have hj' : j < l := by rw [List.length_map, hlen] at hj; exact hj
      obtain ⟨b, off, rfl, hc'⟩ := ints_at hcell (by omega)
      refine ⟨b, off, rfl, ?_⟩
      rw [hc' j (by omega)]
      have hwf := hwz (zs.getD j 0) (by rw [List.getD_eq_getElem?_getD, List.getElem?_eq_getElem (by omega : j < zs.length)]; simp)
      simp [Lit.wf, IntKind.min, IntKind.max, IntKind.bits, IntKind.signed] at hwf
      simp [List.getElem?_map, hj', List.getElem?_eq_getElem (by omega : j < zs.length)] at hwf ⊢
      omega

theorem open_bytes {H : Type} {enc : TypeId × Value → H} {P : Program} {W : World} {base T E : Nat} {r : Reach} {v : Value} {d : DataW H} {p : List MemPlace}
    (hu : P.underlying T = some (.slice E)) (he : P.underlying E = some (.int .u8)) (hc : P.cellsOf E = 1) (hb : P.bytesOf E = 1)
    (k : Value.okWide P W r base T v) (h : DataW.Trod enc P W 0 (fun _ => true) true T v d p) (hz : (DataW.weights P T d).all (· ≤ reachBytes) = true) :
    ∃ ao n cap l, v = .slice ao n cap ∧ l.length = n ∧ n ≤ cap ∧ cap ≤ 140737488351232 ∧ Rd W ao l ∧ (ao = none → cap = 0) := by
  obtain ⟨a, n, cap, rfl⟩ := okWide_slice hu k
  obtain ⟨fuel, hf⟩ := h
  exact trod_bytes hu he hc hb (by simpa [Value.cells] using hf) hz

theorem open_struct {H : Type} {enc : TypeId × Value → H} {P : Program} {W : World} {base T : Nat} {r : Reach} {v : Value} {d : DataW H} {p : List MemPlace} {fs : Array Field}
    (hs : P.underlying T = some (.struct fs)) (k : Value.okWide P W r base T v) (h : DataW.Trod enc P W 0 (fun _ => true) true T v d p) :
    ∃ (cs : Array Value) (xs : List (DataW H × List MemPlace)) (n : Nat), v = .agg cs ∧ cs.size = P.cellsOf T ∧ d = .agg (xs.map (·.1)) ∧ xs.length = fs.size ∧
      ∀ (i : Nat) (f : Field), fs[i]? = some f → DataW.trod enc P W 0 (fun _ => true) true n f.type ((cs.toList.drop f.offset).take (P.cellsOf f.type)) = xs[i]? := by
  obtain ⟨cs, rfl, hsz⟩ := okWide_struct hs k
  obtain ⟨fuel, hf⟩ := h
  obtain ⟨xs, n, _, hx, _, hl, hh⟩ := DataW.trod_struct hs hf
  simp only [Prod.mk.injEq] at hx
  exact ⟨cs, xs, n, rfl, hsz, hx.1, hl, hh⟩
theorem arr1 {α : Type} {cs : Array α} (h : cs.size = 1) : ∃ c0, cs = #[c0] := by
  obtain ⟨l⟩ := cs
  match l, h with
  | [c0], _ => exact ⟨c0, rfl⟩
theorem arr2 {α : Type} {cs : Array α} (h : cs.size = 2) : ∃ c0 c1, cs = #[c0, c1] := by
  obtain ⟨l⟩ := cs
  match l, h with
  | [c0, c1], _ => exact ⟨c0, c1, rfl⟩
theorem arr3 {α : Type} {cs : Array α} (h : cs.size = 3) : ∃ c0 c1 c2, cs = #[c0, c1, c2] := by
  obtain ⟨l⟩ := cs
  match l, h with
  | [c0, c1, c2], _ => exact ⟨c0, c1, c2, rfl⟩
theorem arr4 {α : Type} {cs : Array α} (h : cs.size = 4) : ∃ c0 c1 c2 c3, cs = #[c0, c1, c2, c3] := by
  obtain ⟨l⟩ := cs
  match l, h with
  | [c0, c1, c2, c3], _ => exact ⟨c0, c1, c2, c3, rfl⟩
theorem arr5 {α : Type} {cs : Array α} (h : cs.size = 5) : ∃ c0 c1 c2 c3 c4, cs = #[c0, c1, c2, c3, c4] := by
  obtain ⟨l⟩ := cs
  match l, h with
  | [c0, c1, c2, c3, c4], _ => exact ⟨c0, c1, c2, c3, c4, rfl⟩
theorem arr6 {α : Type} {cs : Array α} (h : cs.size = 6) : ∃ c0 c1 c2 c3 c4 c5, cs = #[c0, c1, c2, c3, c4, c5] := by
  obtain ⟨l⟩ := cs
  match l, h with
  | [c0, c1, c2, c3, c4, c5], _ => exact ⟨c0, c1, c2, c3, c4, c5, rfl⟩
theorem lst1 {α : Type} {l : List α} (h : l.length = 1) : ∃ c0, l = [c0] := by
  match l, h with
  | [c0], _ => exact ⟨c0, rfl⟩
theorem lst2 {α : Type} {l : List α} (h : l.length = 2) : ∃ c0 c1, l = [c0, c1] := by
  match l, h with
  | [c0, c1], _ => exact ⟨c0, c1, rfl⟩
theorem lst3 {α : Type} {l : List α} (h : l.length = 3) : ∃ c0 c1 c2, l = [c0, c1, c2] := by
  match l, h with
  | [c0, c1, c2], _ => exact ⟨c0, c1, c2, rfl⟩
theorem lst4 {α : Type} {l : List α} (h : l.length = 4) : ∃ c0 c1 c2 c3, l = [c0, c1, c2, c3] := by
  match l, h with
  | [c0, c1, c2, c3], _ => exact ⟨c0, c1, c2, c3, rfl⟩
theorem lst5 {α : Type} {l : List α} (h : l.length = 5) : ∃ c0 c1 c2 c3 c4, l = [c0, c1, c2, c3, c4] := by
  match l, h with
  | [c0, c1, c2, c3, c4], _ => exact ⟨c0, c1, c2, c3, c4, rfl⟩
theorem lst6 {α : Type} {l : List α} (h : l.length = 6) : ∃ c0 c1 c2 c3 c4 c5, l = [c0, c1, c2, c3, c4, c5] := by
  match l, h with
  | [c0, c1, c2, c3, c4, c5], _ => exact ⟨c0, c1, c2, c3, c4, c5, rfl⟩
section
variable {H : Type} {enc : TypeId × Value → H} {P : Program} {W : World} {T fuel : Nat} {c : Value} {x : DataW H × List MemPlace}
theorem trod_u64 (hu : P.underlying T = some (.int .u64)) (h : DataW.trod enc P W 0 (fun _ => true) true fuel T [c] = some x) : ∃ n : Nat, c = .int .u64 n ∧ n < 18446744073709551616 := by
  obtain ⟨n, hc, _, hw⟩ := DataW.trod_int hu h
  simp only [List.cons.injEq, and_true] at hc
  simp [Lit.wf, IntKind.min, IntKind.max, IntKind.bits, IntKind.signed] at hw
  exact ⟨n.toNat, by rw [hc]; congr 1; omega, by omega⟩
theorem trod_u32 (hu : P.underlying T = some (.int .u32)) (h : DataW.trod enc P W 0 (fun _ => true) true fuel T [c] = some x) : ∃ n : Nat, c = .int .u32 n ∧ n < 4294967296 := by
  obtain ⟨n, hc, _, hw⟩ := DataW.trod_int hu h
  simp only [List.cons.injEq, and_true] at hc
  simp [Lit.wf, IntKind.min, IntKind.max, IntKind.bits, IntKind.signed] at hw
  exact ⟨n.toNat, by rw [hc]; congr 1; omega, by omega⟩
theorem trod_u8 (hu : P.underlying T = some (.int .u8)) (h : DataW.trod enc P W 0 (fun _ => true) true fuel T [c] = some x) : ∃ n : UInt8, c = .int .u8 n.toNat := by
  obtain ⟨n, hc, _, hw⟩ := DataW.trod_int hu h
  simp only [List.cons.injEq, and_true] at hc
  simp [Lit.wf, IntKind.min, IntKind.max, IntKind.bits, IntKind.signed] at hw
  exact ⟨UInt8.ofNat n.toNat, by rw [hc]; congr 1; simp; omega⟩
theorem trod_i64 (hu : P.underlying T = some (.int .i64)) (h : DataW.trod enc P W 0 (fun _ => true) true fuel T [c] = some x) : ∃ n : Int, c = .int .i64 n ∧ -9223372036854775808 ≤ n ∧ n ≤ 9223372036854775807 := by
  obtain ⟨n, hc, _, hw⟩ := DataW.trod_int hu h
  simp only [List.cons.injEq, and_true] at hc
  simp [Lit.wf, IntKind.min, IntKind.max, IntKind.bits, IntKind.signed] at hw
  exact ⟨n, hc, by omega, by omega⟩
theorem trod_b (hu : P.underlying T = some .bool) (h : DataW.trod enc P W 0 (fun _ => true) true fuel T [c] = some x) : ∃ b, c = .bool b := by
  obtain ⟨b, hc, _⟩ := DataW.trod_bool hu h
  simp only [List.cons.injEq, and_true] at hc
  exact ⟨b, hc⟩
end
end Go.Proofs.Ytnmeidmiijcniaa
