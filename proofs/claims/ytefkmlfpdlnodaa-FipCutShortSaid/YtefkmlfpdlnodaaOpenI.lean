/- How arguments that are lists of names, or of lists of bytes, are opened. No condition. -/
import Derived.Test.YtefkmlfpdlnodaaOpenH
import Derived.Test.YtefkmlfpdlnodaaFipB
set_option linter.unusedVariables false
set_option linter.unusedSimpArgs false
namespace Go.Proofs.Ytefkmlfpdlnodaa
open Go.RowKit Go.ChangeShapes Go.WideShapes Go.ChangeAt
theorem trod_bytes0 {H : Type} {enc : TypeId × Value → H} {P : Program} {W : World} {T E fuel : Nat} {c : Value} {x : DataW H × List MemPlace}
    (hu : P.underlying T = some (.slice E)) (he : P.underlying E = some (.int .u8)) (hc : P.cellsOf E = 1)
    (h : DataW.trod enc P W 0 (fun _ => true) true fuel T [c] = some x) :
    ∃ ao cap l, c = .slice ao l.length cap ∧ l.length ≤ cap ∧ cap ≤ maxLen ∧ Rd W ao l ∧ (ao = none → cap = 0) := by
  rcases open_ints hu he hc h with ⟨hcs, rfl⟩ | ⟨a, l, cp, zs, hcs, _, hl, hm, hzl, rfl, hcell, hwz⟩
  · simp at hcs
    subst hcs
    exact ⟨none, 0, [], rfl, Nat.le_refl _, by decide, Rd.nil _ _, fun _ => rfl⟩
  · simp at hcs
    subst hcs
    simp only [if_true] at hzl
    have hlen : (zs.take l).length = l := by simp; omega
    refine ⟨some a, cp, (zs.take l).map (fun z => UInt8.ofNat z.toNat), by simp [hlen]; omega, by rw [List.length_map, hlen]; exact hl, hm, ?_, fun h => by cases h⟩
    intro j hj
    have hj' : j < l := by rw [List.length_map, hlen] at hj; exact hj
    obtain ⟨b, off, rfl, hc'⟩ := ints_at hcell (by omega)
    refine ⟨b, off, rfl, ?_⟩
    rw [hc' j (by omega)]
    have hwf := hwz (zs.getD j 0) (by rw [List.getD_eq_getElem?_getD, List.getElem?_eq_getElem (by omega : j < zs.length)]; simp)
    simp [Lit.wf, IntKind.min, IntKind.max, IntKind.bits, IntKind.signed] at hwf
    simp [List.getElem?_map, hj', List.getElem?_eq_getElem (by omega : j < zs.length)] at hwf ⊢
    omega
theorem im_cells {H : Type} {enc : TypeId × Value → H} {W : World} (fuel : Nat) (cs : List Value) (y : DataW H × List MemPlace)
    (h : DataW.trod enc Try.prog W 0 (fun _ => true) true fuel 22 cs = some y) (hl : cs.length = 1) :
    ∃ m : Im, cs = imc m ∧ m.Ok W := by
  obtain ⟨c, rfl⟩ : ∃ c, cs = [c] := by
    match cs, hl with
    | [c], _ => exact ⟨c, rfl⟩
  obtain ⟨ao, cap, l, rfl, hc, hx, hr, hz⟩ := trod_bytes0 Try.underlying22 Try.underlying5 (by kernel_rfl) h
  exact ⟨⟨ao, cap, l⟩, rfl, ⟨hr, hc, hx, hz⟩⟩
theorem open_ids {H : Type} {enc : TypeId × Value → H} {W : World} {base : Nat} {r : Reach} {v : Value} {d : DataW H} {p : List MemPlace}
    (k : Value.okWide Try.prog W r base 39 v) (h : DataW.Trod enc Try.prog W 0 (fun _ => true) true 39 v d p) (hz : (DataW.weights Try.prog 39 d).all (· ≤ reachBytes) = true) :
    ∃ ao n cap l, v = .slice ao n cap ∧ l.length = n ∧ n ≤ cap ∧ cap * 16 ≤ 140737488351232 ∧ RdS guc 16 W ao l ∧ (ao = none → cap = 0) ∧ ∀ g ∈ l, True :=
  open_structs (sz := 16) (nb := 16) Try.underlying39 (by kernel_rfl) (by kernel_rfl) (by decide) guc_len (Ok := fun _ => True) gu_cells k h hz
theorem open_ims {H : Type} {enc : TypeId × Value → H} {W : World} {base : Nat} {r : Reach} {v : Value} {d : DataW H} {p : List MemPlace}
    (k : Value.okWide Try.prog W r base 40 v) (h : DataW.Trod enc Try.prog W 0 (fun _ => true) true 40 v d p) (hz : (DataW.weights Try.prog 40 d).all (· ≤ reachBytes) = true) :
    ∃ ao n cap l, v = .slice ao n cap ∧ l.length = n ∧ n ≤ cap ∧ cap * 24 ≤ 140737488351232 ∧ RdS imc 1 W ao l ∧ (ao = none → cap = 0) ∧ ∀ m ∈ l, Im.Ok W m :=
  open_structs (sz := 1) (nb := 24) Try.underlying40 (by kernel_rfl) (by kernel_rfl) (by decide) (fun _ => rfl) im_cells k h hz
end Go.Proofs.Ytefkmlfpdlnodaa
