/- How arguments that are lists of bytes are opened: what the form says of them, as this session's words. No condition. -/
import Derived.Test.YtdkjkdlpkjklmaaU
import Derived.ProofKit
import Derived.OpenShut
import Derived.ShutString
import Derived.ChangeOld
import Derived.SizedLaws
namespace Go.Proofs.Ytdkjkdlpkjklmaa
open Go.ChangeShapes Go.WideShapes Go.ChangeAt Go.RowKit

theorem all_app {l m : List Nat} {n : Nat} (h : (l ++ m).all (· ≤ n) = true) : l.all (· ≤ n) = true ∧ m.all (· ≤ n) = true := by
  rw [List.all_append, Bool.and_eq_true] at h; exact h

theorem trod_bytes {H : Type} {enc : TypeId × Value → H} {P : Program} {W : World} {T E fuel : Nat} {c : Value} {x : DataW H × List MemPlace}
    (hu : P.underlying T = some (.slice E)) (he : P.underlying E = some (.int .u8)) (hc : P.cellsOf E = 1) (hb : P.bytesOf E = 1)
    (h : DataW.trod enc P W 0 (fun _ => true) true fuel T [c] = some x) (hz : (DataW.weights P T x.1).all (· ≤ reachBytes) = true) :
    ∃ ao n cap l, c = .slice ao n cap ∧ l.length = n ∧ n ≤ cap ∧ cap ≤ 140737488351232 ∧ Rd W ao l := by
  rcases open_ints hu he hc h with ⟨hcs, rfl⟩ | ⟨a, l, cp, zs, hcs, _, hl, hm, hzl, rfl, hcell, hwz⟩
  · simp at hcs
    subst hcs
    exact ⟨none, 0, 0, [], rfl, rfl, Nat.le_refl _, by omega, Rd.nil _ _⟩
  · simp at hcs
    subst hcs
    simp only [if_true] at hzl
    have hlen : (zs.take l).length = l := by simp; omega
    refine ⟨some a, l, cp, (zs.take l).map (fun z => UInt8.ofNat z.toNat), rfl, by simpa using hlen, hl, ?_, ?_⟩
    · simp only [DataW.weights, hu, hb, List.all_cons, Bool.and_eq_true, decide_eq_true_eq, lits, List.length_map, Nat.mul_one] at hz
      have := hz.1
      rw [← List.length_append, List.take_append_drop, hzl] at this
      exact this
    · intro j hj
      have hj' : j < l := by rw [List.length_map, hlen] at hj; exact hj
      obtain ⟨b, off, rfl, hc'⟩ := ints_at hcell (by omega)
      refine ⟨b, off, rfl, ?_⟩
      rw [hc' j (by omega)]
      have hwf := hwz (zs.getD j 0) (by rw [List.getD_eq_getElem?_getD, List.getElem?_eq_getElem (by omega : j < zs.length)]; simp)
      simp [Lit.wf, IntKind.min, IntKind.max, IntKind.bits, IntKind.signed] at hwf
      simp [List.getElem?_map, hj', List.getElem?_eq_getElem (by omega : j < zs.length)] at hwf ⊢
      omega

theorem open_bytes {H : Type} {enc : TypeId × Value → H} {P : Program} {W : World} {base T E : Nat} {r : Reach} {v : Value} {d : DataW H} {p : List MemPlace}
    (hu : P.underlying T = some (.slice E)) (he : P.underlying E = some (.int .u8)) (hc : P.cellsOf E = 1) (hb : P.bytesOf E = 1)
    (k : Value.okWide P W r base T v) (h : DataW.Trod enc P W 0 (fun _ => true) true T v d p) (hz : (DataW.weights P T d).all (· ≤ reachBytes) = true) :
    ∃ ao n cap l, v = .slice ao n cap ∧ l.length = n ∧ n ≤ cap ∧ cap ≤ 140737488351232 ∧ Rd W ao l := by
  obtain ⟨a, n, cap, rfl⟩ := okWide_slice hu k
  obtain ⟨fuel, hf⟩ := h
  exact trod_bytes hu he hc hb (by simpa [Value.cells] using hf) hz
end Go.Proofs.Ytdkjkdlpkjklmaa
