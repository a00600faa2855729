/- The region that has an address. No condition. -/
import Derived.Test.YtcbiohpgmooefaaRmS
set_option linter.unusedVariables false
set_option linter.unusedSimpArgs false
namespace Go.Proofs.Ytcbiohpgmooefaa
open Go.RowKit
def buildRg (ps : Array (Nat × Value)) : Sem Value := Instr.build 33 ps
theorem build_rg (ps : Array (Nat × Value)) : Instr.build 33 ps = buildRg ps := rfl
theorem run_buildRg0 (w : World) : (buildRg #[]).run Try.prog w = .ok (.agg #[.int .u64 0, .int .u64 0, .bool false, .bool false, .bool false, .bool false]) w := by kernel_rfl
attribute [local go_sem ↓] build_rg
def fR (t : List Rg) (a : Nat) : Value := .tuple #[rgv ((findR t a).getD default), .bool (findR t a).isSome]
theorem fR_some {t : List Rg} {a : Nat} {g : Rg} (h : findR t a = some g) : fR t a = .tuple #[rgv g, .bool true] := by unfold fR; rw [h]; rfl
theorem fR_none {t : List Rg} {a : Nat} (h : findR t a = none) : fR t a = .tuple #[rgv default, .bool false] := by unfold fR; rw [h]; rfl
def rg0 : List Value := [.int .u64 0, .int .u64 0, .bool false, .bool false, .bool false, .bool false]
/-- a region's cells stored one by one -/
def rgSet (w : World) (x : Nat) (g : Rg) : World :=
  (((((w.setCell ⟨x, 0, none⟩ (.int .u64 g.base)).setCell ⟨x, 1, none⟩ (.int .u64 g.size)).setCell ⟨x, 2, none⟩ (.bool g.r)).setCell ⟨x, 3, none⟩ (.bool g.w)).setCell ⟨x, 4, none⟩ (.bool g.x)).setCell ⟨x, 5, none⟩ (.bool g.s)
theorem rgSet_hb {w : World} {x : Nat} {cs : List Value} (h : HB w x 33 cs) (hl : cs.length = 6) (g : Rg) : HB (rgSet w x g) x 33 (rgc g) := by
  have h6 := (((((h.set 0 (.int .u64 g.base)).set 1 (.int .u64 g.size)).set 2 (.bool g.r)).set 3 (.bool g.w)).set 4 (.bool g.x)).set 5 (.bool g.s)
  obtain ⟨c0, c1, c2, c3, c4, c5, rfl⟩ : ∃ c0 c1 c2 c3 c4 c5, cs = [c0, c1, c2, c3, c4, c5] := by
    match cs, hl with
    | [c0, c1, c2, c3, c4, c5], _ => exact ⟨c0, c1, c2, c3, c4, c5, rfl⟩
  exact h6
theorem rgSet_grown (w : World) (x : Nat) (g : Rg) : w.grownBy (rgSet w x g) (some x) :=
  (((((grown_set w ⟨x, 0, none⟩ _).trans (grown_set _ ⟨x, 1, none⟩ _)).trans (grown_set _ ⟨x, 2, none⟩ _)).trans (grown_set _ ⟨x, 3, none⟩ _)).trans (grown_set _ ⟨x, 4, none⟩ _)).trans (grown_set _ ⟨x, 5, none⟩ _)
set_option maxHeartbeats 1000000 in
theorem find_any {B R : Nat} {m : List UInt8} {tv : Value} {t : List Rg} {w : World} (h : RamM B R m tv t w) (at' : Nat) :
    Calls Try.prog 13 #[.pointer (some ⟨R, 0, none⟩), .int .u64 at'] w fun e w' => e = .returned (fR t at') ∧ Below w.heap.size w w' := by
  have Hh := Lib.hid h
  have HX := Lib.hid (HB.new w rg0 33)
  have HB1 := Lib.hid ((Below.refl _ w).alloc (Nat.le_refl _) (.cells rg0.toArray 33))
  have hA := Lib.hid (fun w' (hb : Below w.heap.size w w') => after_any (h.later hb) at')
  have hz := run_buildRg0
  clear h
  go_enter Try.func13, Try.ntmps13
  go_wp2_with fail
  refine (hA.out _ HB1.out).mono ?_
  rintro e w2 ⟨rfl, hb2⟩
  have HX2 := Lib.hid (HX.out.later hb2)
  have HB2 := Lib.hid (HB1.out.trans (hb2.mono HB1.out.size))
  have Hh2 := Lib.hid (Hh.out.later HB2.out)
  clear hb2 hA HX HB1
  obtain ⟨x, Hx, HX2, HB2⟩ : ∃ x, Hid (x = w.heap.size) ∧ Hid (HB w2 x 33 rg0) ∧ Hid (Below x w w2) := ⟨_, Lib.hid rfl, HX2, HB2⟩
  rw [← Hx.out]
  have hal := aft_le t at'
  have h16 := Hh2.out.tb.n
  obtain ⟨i, hi⟩ : ∃ i, aft t at' = i := ⟨_, rfl⟩
  have hfa := find_aft Hh2.out.tb at'
  rw [hi] at hal hfa ⊢
  have Hi := Lib.hid hi
  obtain ⟨ao, cap, rfl, -, -, hr, -⟩ := Hh2.out.tv
  have k := Hh2.out.tab
  clear hi
  by_cases hit : i < t.length
  · have f1 : (i : Int) < (t.length : Int) := by omega
    obtain ⟨g, hg⟩ : ∃ g, t[i]? = some g := ⟨_, List.getElem?_eq_getElem hit⟩
    obtain ⟨b0, o0, rfl, hb0, hcl⟩ := hr i g hg
    have c0 : w2.cell? ⟨b0, o0 + i * 6, none⟩ = _ := hcl 0 _ rfl
    have c1 := hcl 1 _ rfl
    have c2 := hcl 2 _ rfl
    have c3 := hcl 3 _ rfl
    have c4 := hcl 4 _ rfl
    have c5 := hcl 5 _ rfl
    rw [hg] at hfa
    by_cases hb : g.base ≤ at'
    · have f2 : (g.base : Int) ≤ (at' : Int) := by omega
      have Hfa := Lib.hid (fR_some (hfa.trans (if_pos hb)))
      clear hfa hb hcl hg
      have Hs := fun (_ : Unit) => Lib.hid (rgSet_hb HX2.out rfl g)
      have Hg := fun (_ : Unit) => Lib.hid (HB2.out.grown (rgSet_grown w2 x g) (by have := HX2.out.lt; omega) (by intro k hk; cases hk; exact Nat.le_refl _))
      have x0 := HX2.out.cell (i := 0) rfl
      have x1 := HX2.out.cell (i := 1) rfl
      have x2 := HX2.out.cell (i := 2) rfl
      have x3 := HX2.out.cell (i := 3) rfl
      have x4 := HX2.out.cell (i := 4) rfl
      have x5 := HX2.out.cell (i := 5) rfl
      have y := HX2.out.frozen
      go_wp2_with fail
      clear x0 x1 x2 x3 x4 x5 y
      unfold rgSet at Hs Hg
      generalize World.setCell _ _ _ = w5 at *
      have k0 := (Hs ()).out.cell (i := 0) rfl
      have k1 := (Hs ()).out.cell (i := 1) rfl
      have k2 := (Hs ()).out.cell (i := 2) rfl
      have k3 := (Hs ()).out.cell (i := 3) rfl
      have k4 := (Hs ()).out.cell (i := 4) rfl
      have k5 := (Hs ()).out.cell (i := 5) rfl
      refine bodyPost_ret (v := .tuple #[rgv g, .bool true]) (by simp [results, Try.results13, go_sem, k0, k1, k2, k3, k4, k5]; try rfl) rfl ⟨by rw [Hfa.out]; try rfl, by rw [← Hx.out]; exact (Hg ()).out⟩
    · have f2 : ¬ (g.base : Int) ≤ (at' : Int) := by omega
      have Hfa := Lib.hid (fR_none (hfa.trans (if_neg hb)))
      clear hfa hb hcl hg
      have Hs := fun (_ : Unit) => Lib.hid (rgSet_hb HX2.out rfl (⟨0, 0, false, false, false, false⟩ : Rg))
      have Hg := fun (_ : Unit) => Lib.hid (HB2.out.grown (rgSet_grown w2 x (⟨0, 0, false, false, false, false⟩ : Rg)) (by have := HX2.out.lt; omega) (by intro k hk; cases hk; exact Nat.le_refl _))
      have x0 := HX2.out.cell (i := 0) rfl
      have x1 := HX2.out.cell (i := 1) rfl
      have x2 := HX2.out.cell (i := 2) rfl
      have x3 := HX2.out.cell (i := 3) rfl
      have x4 := HX2.out.cell (i := 4) rfl
      have x5 := HX2.out.cell (i := 5) rfl
      have y := HX2.out.frozen
      go_wp2_with fail
      clear x0 x1 x2 x3 x4 x5 y
      unfold rgSet at Hs Hg
      generalize World.setCell _ _ _ = w5 at *
      have k0 := (Hs ()).out.cell (i := 0) rfl
      have k1 := (Hs ()).out.cell (i := 1) rfl
      have k2 := (Hs ()).out.cell (i := 2) rfl
      have k3 := (Hs ()).out.cell (i := 3) rfl
      have k4 := (Hs ()).out.cell (i := 4) rfl
      have k5 := (Hs ()).out.cell (i := 5) rfl
      refine bodyPost_ret (v := .tuple #[rgv (⟨0, 0, false, false, false, false⟩ : Rg), .bool false]) (by simp [results, Try.results13, go_sem, k0, k1, k2, k3, k4, k5]; try rfl) rfl ⟨by rw [Hfa.out]; try rfl, by rw [← Hx.out]; exact (Hg ()).out⟩
  · have f1 : ¬ (i : Int) < (t.length : Int) := by omega
    have Hfa := Lib.hid (fR_none (by rw [hfa, List.getElem?_eq_none (by omega)]))
    clear hfa hit hr
    have Hs := fun (_ : Unit) => Lib.hid (rgSet_hb HX2.out rfl (⟨0, 0, false, false, false, false⟩ : Rg))
    have Hg := fun (_ : Unit) => Lib.hid (HB2.out.grown (rgSet_grown w2 x (⟨0, 0, false, false, false, false⟩ : Rg)) (by have := HX2.out.lt; omega) (by intro k hk; cases hk; exact Nat.le_refl _))
    have x0 := HX2.out.cell (i := 0) rfl
    have x1 := HX2.out.cell (i := 1) rfl
    have x2 := HX2.out.cell (i := 2) rfl
    have x3 := HX2.out.cell (i := 3) rfl
    have x4 := HX2.out.cell (i := 4) rfl
    have x5 := HX2.out.cell (i := 5) rfl
    have y := HX2.out.frozen
    go_wp2_with fail
    clear x0 x1 x2 x3 x4 x5 y
    unfold rgSet at Hs Hg
    generalize World.setCell _ _ _ = w5 at *
    have k0 := (Hs ()).out.cell (i := 0) rfl
    have k1 := (Hs ()).out.cell (i := 1) rfl
    have k2 := (Hs ()).out.cell (i := 2) rfl
    have k3 := (Hs ()).out.cell (i := 3) rfl
    have k4 := (Hs ()).out.cell (i := 4) rfl
    have k5 := (Hs ()).out.cell (i := 5) rfl
    refine bodyPost_ret (v := .tuple #[rgv (⟨0, 0, false, false, false, false⟩ : Rg), .bool false]) (by simp [results, Try.results13, go_sem, k0, k1, k2, k3, k4, k5]; try rfl) rfl ⟨by rw [Hfa.out]; try rfl, by rw [← Hx.out]; exact (Hg ()).out⟩
end Go.Proofs.Ytcbiohpgmooefaa
