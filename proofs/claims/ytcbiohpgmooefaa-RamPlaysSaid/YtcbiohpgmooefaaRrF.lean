/- The document's RAM: the region that has an address. No condition. -/
import Derived.Test.YtcbiohpgmooefaaRrA
import Derived.Deep.DeepCutAuto
set_option linter.unusedVariables false
set_option linter.unusedSimpArgs false
namespace Go.Proofs.Ytcbiohpgmooefaa
open Go.RowKit
attribute [local go_sem ↓] build_rg
structure RfIn (t : List Rg) (a : Nat) (w1 : World) (iv : Value) (wr : World) : Prop where
  x : ∃ k : Nat, k ≤ t.length ∧ iv = .int .i64 k ∧ (∀ (j : Nat) (x : Rg), j < k → t[j]? = some x → x.has a = false) ∧ Below w1.heap.size w1 wr
set_option maxHeartbeats 2000000 in
theorem rfind_any {B R : Nat} {m : List UInt8} {tv : Value} {t : List Rg} {w : World} (h : RefM B R m tv t w) (a : Nat) (ha : a < 18446744073709551616) :
    Calls Try.prog 35 #[.pointer (some ⟨R, 0, none⟩), .int .u64 a] w fun e w' => e = .returned (fR t a) ∧ Below w.heap.size w w' := by
  have hz := run_buildRg0
  have hX := HB.new w rg0 33
  have hb1 := (Below.refl w.heap.size w).alloc (Nat.le_refl _) (.cells rg0.toArray 33)
  obtain ⟨X, hXx⟩ : ∃ X, w.heap.size = X := ⟨_, rfl⟩
  have Hxx := fun (_ : Unit) => Lib.hid hXx
  obtain ⟨w1, hw1⟩ : ∃ w1, w.alloc (.cells #[.int .u64 0, .int .u64 0, .bool false, .bool false, .bool false, .bool false] 33) = w1 := ⟨_, rfl⟩
  have hw1' : w.alloc (.cells rg0.toArray 33) = w1 := hw1
  rw [hw1', hXx] at hX
  rw [hw1'] at hb1
  have Hh := Lib.hid (h.later hb1)
  have HX := Lib.hid hX
  have HB1 := Lib.hid (show Below X w w1 by rw [← hXx]; exact hb1)
  have Hlt : Hid (X < w1.heap.size) := Lib.hid hX.lt
  have Ha := Lib.hid ha
  clear h hX hb1 hw1' ha
  go_enter Try.func35, Try.ntmps35
  go_upto_region 2 with fail
  clear hw1 hXx
  go_loopw [6, 7] (fun i _ wr => RfIn t a w1 i wr) (fun i _ _ => t.length - (intOf i).toNat)
  case atStart => exact ⟨0, Nat.zero_le _, rfl, fun j x hj => absurd hj (Nat.not_lt_zero _), Below.refl _ _⟩
  case round =>
    obtain ⟨k, hk, rfl, hno, hb⟩ := hrel
    have Hno := Lib.hid hno
    have Hb := Lib.hid hb
    have Hh2 := Lib.hid (Hh.out.later hb)
    have h16 := Hh2.out.tb.n
    obtain ⟨ao, cap, rfl, -, -, hr, -⟩ := Hh2.out.tv
    have k0 := Hh2.out.tab
    clear hno hb
    by_cases hkl : k < t.length
    · have q1 : (k : Int) < (t.length : Int) := by omega
      obtain ⟨g, hg⟩ : ∃ g, t[k]? = some g := ⟨_, List.getElem?_eq_getElem hkl⟩
      obtain ⟨b0, o0, rfl, -, hcl⟩ := hr k g hg
      have c0 : wr.cell? ⟨b0, o0 + k * 6, none⟩ = _ := hcl 0 _ rfl
      have c1 := hcl 1 _ rfl
      have c2 := hcl 2 _ rfl
      have c3 := hcl 3 _ rfl
      have c4 := hcl 4 _ rfl
      have c5 := hcl 5 _ rfl
      have Hp := Lib.hid (has_any g a wr Ha.out)
      have Hgk := fun (_ : Unit) => Lib.hid hg
      unfold rgv at Hp
      clear hcl hr hg
      cases hga : g.has a
      · rw [hga] at Hp
        have Hno2 : Hid (∀ (j : Nat) (x : Rg), j < k + 1 → t[j]? = some x → x.has a = false) := Lib.hid (fun j x hj hx => by
          rcases Nat.lt_or_ge j k with h1 | h1
          · exact Hno.out j x h1 hx
          · have e : j = k := by omega
            rw [e, (Hgk ()).out] at hx
            rw [← Option.some.inj hx]; exact hga)
        clear hga
        go_wp2_with fail
        refine Hp.out.mono ?_
        rintro e w2 ⟨rfl, hb2⟩
        have HBn := Lib.hid (Hb.out.trans (hb2.mono Hb.out.size))
        clear hb2 Hp c0 c1 c2 c3 c4 c5 k0
        go_wp2_with fail
        first
        | (go_roundw
           case rel => exact ⟨k + 1, by omega, by go_num, Hno2.out, HBn.out⟩
           case measure => (first | omega | (simp [intOf] <;> omega) | (simp only [intOf] <;> omega)))
        | exact ⟨⟨k + 1, by omega, by go_num, Hno2.out, HBn.out⟩, by (first | omega | (simp [intOf] <;> omega) | (simp only [intOf] <;> omega))⟩
        | (refine ⟨?_, by (first | omega | (simp [intOf] <;> omega) | (simp only [intOf] <;> omega))⟩
           (repeat apply Exists.intro)
           refine (fun a b => And.intro b a) ?_ ?_
           · first | rfl | ((repeat refine ⟨rfl, ?_⟩); rfl)
           exact ⟨k + 1, by omega, by go_num, Hno2.out, HBn.out⟩)
      · rw [hga] at Hp
        have Hfa := fun (_ : Unit) => Lib.hid (fR_some (findR_some Hh.out.tb (Hgk ()).out hga))
        clear hga
        go_wp2_with fail
        refine Hp.out.mono ?_
        rintro e w2 ⟨rfl, hb2⟩
        have HBn := Lib.hid (Hb.out.trans (hb2.mono Hb.out.size))
        have HX2 := Lib.hid (HX.out.later HBn.out)
        have HB2 := Lib.hid (HB1.out.trans (HBn.out.mono (Nat.le_of_lt Hlt.out)))
        have c0' := cell_later hb2 c0
        have c1' := cell_later hb2 c1
        have c2' := cell_later hb2 c2
        have c3' := cell_later hb2 c3
        have c4' := cell_later hb2 c4
        have c5' := cell_later hb2 c5
        have k0' := cell_later hb2 k0
        clear hb2 Hp c0 c1 c2 c3 c4 c5 k0
        have Hs := fun (_ : Unit) => Lib.hid (rgSet_hb HX2.out rfl g)
        have Hg := fun (_ : Unit) => Lib.hid (HB2.out.grown (rgSet_grown w2 X g) (by have := HX2.out.lt; omega) (by intro k hk; cases hk; exact Nat.le_refl _))
        have x0 := HX2.out.cell (i := 0) rfl
        have x1 := HX2.out.cell (i := 1) rfl
        have x2 := HX2.out.cell (i := 2) rfl
        have x3 := HX2.out.cell (i := 3) rfl
        have x4 := HX2.out.cell (i := 4) rfl
        have x5 := HX2.out.cell (i := 5) rfl
        have y := HX2.out.frozen
        go_wp2_with fail
        clear x0 x1 x2 x3 x4 x5 y
        unfold rgSet at Hs Hg
        generalize World.setCell _ _ _ = w5 at *
        have k0 := (Hs ()).out.cell (i := 0) rfl
        have k1 := (Hs ()).out.cell (i := 1) rfl
        have k2 := (Hs ()).out.cell (i := 2) rfl
        have k3 := (Hs ()).out.cell (i := 3) rfl
        have k4 := (Hs ()).out.cell (i := 4) rfl
        have k5 := (Hs ()).out.cell (i := 5) rfl
        refine bodyPost_ret (v := .tuple #[rgv g, .bool true]) (by simp [results, Try.results35, go_sem, k0, k1, k2, k3, k4, k5]; try rfl) rfl ⟨by rw [(Hfa ()).out]; try rfl, by rw [(Hxx ()).out]; exact (Hg ()).out⟩
    · have q1 : ¬ (k : Int) < (t.length : Int) := by omega
      have Hfa := fun (_ : Unit) => Lib.hid (fR_none (findR_none (t := t) (a := a) (fun i x hi => Hno.out i x (by have := (List.getElem?_eq_some_iff.1 hi).1; omega) hi)))
      have HX2 := Lib.hid (HX.out.later Hb.out)
      have HB2 := Lib.hid (HB1.out.trans (Hb.out.mono (Nat.le_of_lt Hlt.out)))
      clear hr
      have Hs := fun (_ : Unit) => Lib.hid (rgSet_hb HX2.out rfl (⟨0, 0, false, false, false, false⟩ : Rg))
      have Hg := fun (_ : Unit) => Lib.hid (HB2.out.grown (rgSet_grown wr X (⟨0, 0, false, false, false, false⟩ : Rg)) (by have := HX2.out.lt; omega) (by intro k hk; cases hk; exact Nat.le_refl _))
      have x0 := HX2.out.cell (i := 0) rfl
      have x1 := HX2.out.cell (i := 1) rfl
      have x2 := HX2.out.cell (i := 2) rfl
      have x3 := HX2.out.cell (i := 3) rfl
      have x4 := HX2.out.cell (i := 4) rfl
      have x5 := HX2.out.cell (i := 5) rfl
      have y := HX2.out.frozen
      go_wp2_with fail
      clear x0 x1 x2 x3 x4 x5 y
      unfold rgSet at Hs Hg
      generalize World.setCell _ _ _ = w5 at *
      have k0 := (Hs ()).out.cell (i := 0) rfl
      have k1 := (Hs ()).out.cell (i := 1) rfl
      have k2 := (Hs ()).out.cell (i := 2) rfl
      have k3 := (Hs ()).out.cell (i := 3) rfl
      have k4 := (Hs ()).out.cell (i := 4) rfl
      have k5 := (Hs ()).out.cell (i := 5) rfl
      refine bodyPost_ret (v := .tuple #[rgv (⟨0, 0, false, false, false, false⟩ : Rg), .bool false]) (by simp [results, Try.results35, go_sem, k0, k1, k2, k3, k4, k5]; try rfl) rfl ⟨by rw [(Hfa ()).out]; try rfl, by rw [(Hxx ()).out]; exact (Hg ()).out⟩
end Go.Proofs.Ytcbiohpgmooefaa
