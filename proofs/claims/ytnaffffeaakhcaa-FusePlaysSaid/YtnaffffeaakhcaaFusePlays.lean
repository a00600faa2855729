/- Any script of burns and counters does what the document says: the walk. No condition. -/
import Derived.Test.YtnaffffeaakhcaaFzO
namespace Go.Proofs.Ytnaffffeaakhcaa.fusePlays
open Go.ChangeShapes Go.WideShapes Go.ChangeAt Go.RowKit
set_option linter.unusedVariables false
set_option linter.unusedSimpArgs false
structure PlIn (B b : Nat) (W : World) (p i : Value) (wr : World) : Prop where
  x : ∃ (k a : Nat) (f : Fz), i = .int .i64 k ∧ p = .pointer (some ⟨a, 0, none⟩) ∧ Both wr a b f ∧ f.Ok ∧ a ≠ b ∧ B ≤ a ∧ B ≤ b ∧ k ≤ 140737488351232 ∧ Below B W wr ∧ B ≤ wr.heap.size
set_option maxRecDepth 100000 in
set_option maxHeartbeats 1000000 in
theorem core (w : World) (ao : Option Addr) (len cap : Nat) (l : List OpZ) (hl : l.length = len) (hlc : len ≤ cap) (hcap : cap * 32 ≤ 140737488351232) (hr : RdS ocells 5 w ao l) (hok : ∀ o ∈ l, OpZ.Ok o) :
    Calls Try.prog 3 #[.slice ao len cap] w fun e w' => e = .returned (.bool true) ∧ Below w.heap.size w w' := by
  have hz : ∀ w, (zeroValue 31).run Try.prog w = .ok (.agg Fz.zero.cellsR.toArray) w := fun w => by kernel_rfl
  have hA := Lib.hid (HB.new w Fz.zero.cellsA 53)
  have hB0 := Lib.hid ((Below.refl w.heap.size w).alloc (Nat.le_refl _) (.cells Fz.zero.cellsA.toArray 53))
  go_enter Try.func3, Try.ntmps3
  go_wp2_with fail
  refine (new_any _).mono ?_
  rintro e w' ⟨rfl, rfl⟩
  have hR := Lib.hid (HB.new (w.alloc (.cells Fz.zero.cellsA.toArray 53)) Fz.zero.cellsR 31)
  have hA1 := Lib.hid (hA.out.alloc (.cells Fz.zero.cellsR.toArray 31))
  have hB1 := Lib.hid (hB0.out.alloc hB0.out.size (.cells Fz.zero.cellsR.toArray 31))
  have hs : Hid ((w.alloc (.cells Fz.zero.cellsA.toArray 53)).heap.size = w.heap.size + 1) := Lib.hid (by simp)
  go_wp2_with fail
  refine (alive_any _).mono ?_
  rintro e w2 ⟨rfl, hb2⟩
  have hB2 := Lib.hid (hB1.out.trans (hb2.mono hB1.out.size))
  have hA2 := Lib.hid (hA1.out.later hb2)
  have hR2 := Lib.hid (hR.out.later hb2)
  rw [hs.out] at hR2
  clear hb2 hA hB0 hR hA1 hB1 hs hz
  obtain ⟨B, hBx⟩ : ∃ B, w.heap.size = B := ⟨_, rfl⟩
  rw [hBx] at hA2 hR2 hB2 ⊢
  have HBx := Lib.hid hBx
  clear hBx
  go_wp2_with fail
  go_loopw [3, 5, 6, 7] (fun p i _ _ wr => PlIn B (B + 1) w p i wr) (fun _ i _ _ _ => len - (intOf i).toNat)
  case atStart => exact ⟨0, B, Fz.zero, rfl, rfl, ⟨hA2.out, hR2.out⟩, zero_ok, by omega, Nat.le_refl _, by omega, by omega, hB2.out, by have := hB2.out.size; rw [HBx.out] at this; exact this⟩
  case round =>
    clear hA2 hR2 hB2
    obtain ⟨k, a, f, rfl, rfl, hboth, ho, hab, hBa, hBb, hk, hBr, hBs⟩ := hrel
    have HF := Lib.hid ho
    have HAB := Lib.hid hboth
    clear ho hboth
    have Hl := Lib.hid hl
    by_cases hlt : k < len
    · obtain ⟨o, hlk⟩ : ∃ o, l[k]? = some o := ⟨_, List.getElem?_eq_getElem (show k < l.length by omega)⟩
      obtain ⟨x, off, rfl, hx, hc⟩ := hr k o hlk
      have hoo := Lib.hid (hok _ (List.mem_of_getElem? hlk))
      clear hl hlk
      obtain ⟨q, i, n, v, c⟩ := o
      have hcell := fun w' (h : Below B w w') i v hi => (h.cell (p := ⟨x, off + k * 5 + i, none⟩) (by rw [← HBx.out]; exact hx)).trans (hc i v hi)
      have Hc := Lib.hid hcell
      have c0 := hcell wr hBr 0 _ rfl
      have c1 := hcell wr hBr 1 _ rfl
      have c2 := hcell wr hBr 2 _ rfl
      have c3 := hcell wr hBr 3 _ rfl
      have c4 := hcell wr hBr 4 _ rfl
      simp only [Nat.add_zero] at c0
      clear hc hcell
      have e0 : (0 : Int) ≤ (k : Int) := by omega
      have e1 : (k : Int) < (len : Int) := by omega
      by_cases h2000 : k < 2000
      · have hT2 : (k : Int) < 2000 := by omega
        by_cases hq : q = 6
        · subst hq
          clear c2 c3 c4
          have hi0 := hoo.out.i0
          have hi1 := hoo.out.i1
          have hn0 := hoo.out.n0
          have hn1 := hoo.out.n1
          simp only at hi0 hi1 hn0 hn1
          go_wp2_with fail
          refine (copy_any a f _ HAB.out.1 HF.out).mono ?_
          rintro e w3 ⟨rfl, hC3, hb3⟩
          have hBr3 := hBr.trans (hb3.mono hBs)
          have hA3 := HAB.out.1.later hb3
          have hR3 := HAB.out.2.later hb3
          have hga : a < wr.heap.size := HAB.out.1.lt
          have hgb : B + 1 < wr.heap.size := HAB.out.2.lt
          have hs3 := hb3.size
          clear c0 c1 hb3
          have c1 := Hc.out w3 hBr3 1 _ rfl
          generalize wr.heap.size = g at *
          go_wp2_with fail
          refine (pick_any i 64 _ hi0 hi1 (by decide) (by decide)).mono ?_
          rintro e w' ⟨rfl, rfl⟩
          generalize pickN i 64 = i1 at *
          go_wp2_with fail
          refine (burn_any a f i1 255 _ hA3 HF.out).mono ?_
          rintro e w4 ⟨rfl, hA4, hg4⟩
          have hBr4 := hBr3.grown hg4 (by omega) (by intro k hk; cases hk; exact hBa)
          have hC4 := hC3.grown hg4 (fun e => by cases e; omega)
          have hR4 := hR3.grown hg4 (fun e => by cases e; exact hab rfl)
          have hs4 := hg4.size
          have hf4 := burnR_ok HF.out i1 255
          clear c1 hA3 hC3 hR3 hg4 hBr3
          have c2 := Hc.out w4 hBr4 2 _ rfl
          generalize (burnR f i1 255).1 = f4 at *
          go_wp2_with fail
          refine (pick_any n 4 _ hn0 hn1 (by decide) (by decide)).mono ?_
          rintro e w' ⟨rfl, rfl⟩
          generalize pickN n 4 = n1 at *
          go_wp2_with fail
          refine (raise_any a f4 n1 4294967295 _ hA4 hf4).mono ?_
          rintro e w5 ⟨rfl, -, hg5⟩
          have hBr5 := Lib.hid (hBr4.grown hg5 (by omega) (by intro k hk; cases hk; exact hBa))
          have hC5 := Lib.hid (hC4.grown hg5 (fun e => by cases e; omega))
          have hR5 := Lib.hid (hR4.grown hg5 (fun e => by cases e; exact hab rfl))
          have hs5 := hg5.size
          clear c2 hA4 hC4 hR4 hg5 hBr4 hBr
          go_wp2_with fail
          first
          | (go_roundw
             case rel => exact ⟨k + 1, g, f, by go_num, rfl, ⟨hC5.out, hR5.out⟩, HF.out, by omega, by omega, hBb, by omega, hBr5.out, by omega⟩
             case measure => (first | omega | (simp [intOf] <;> omega) | (simp only [intOf] <;> omega)))
          | exact ⟨⟨k + 1, g, f, by go_num, rfl, ⟨hC5.out, hR5.out⟩, HF.out, by omega, by omega, hBb, by omega, hBr5.out, by omega⟩, by (first | omega | (simp [intOf] <;> omega) | (simp only [intOf] <;> omega))⟩
          | (refine ⟨?_, by (first | omega | (simp [intOf] <;> omega) | (simp only [intOf] <;> omega))⟩
             (repeat apply Exists.intro)
             refine (fun a b => And.intro b a) ?_ ?_
             · first | rfl | ((repeat refine ⟨rfl, ?_⟩); rfl)
             exact ⟨k + 1, g, f, by go_num, rfl, ⟨hC5.out, hR5.out⟩, HF.out, by omega, by omega, hBb, by omega, hBr5.out, by omega⟩)
        · have t6 : (q == 6) = false := beq_eq_false_iff_ne.2 hq
          have hst := fun w' h => Lib.hid (step_any a (B + 1) f ⟨q, i, n, v, c⟩ w' h hab HF.out hoo.out)
          have hok' := stepR_ok HF.out hoo.out
          generalize stepR f ⟨q, i, n, v, c⟩ = f2 at *
          unfold ocells at hst
          clear hq
          go_wp2_with fail
          refine (hst _ HAB.out).out.mono ?_
          rintro e w3 ⟨rfl, hab3, hfr3⟩
          have hBr3 := Lib.hid (hBr.trans (hfr3.below hBs (by rintro k (rfl | rfl) <;> omega)))
          have hs3 := hfr3.size
          have HAB3 := Lib.hid hab3
          have HF3 := Lib.hid hok'
          clear c0 c1 c2 c3 c4 hfr3 hab3 hok' hst hBr
          go_wp2_with fail
          first
          | (go_roundw
             case rel => exact ⟨k + 1, a, f2, by go_num, rfl, HAB3.out, HF3.out, hab, hBa, hBb, by omega, hBr3.out, by omega⟩
             case measure => (first | omega | (simp [intOf] <;> omega) | (simp only [intOf] <;> omega)))
          | exact ⟨⟨k + 1, a, f2, by go_num, rfl, HAB3.out, HF3.out, hab, hBa, hBb, by omega, hBr3.out, by omega⟩, by (first | omega | (simp [intOf] <;> omega) | (simp only [intOf] <;> omega))⟩
          | (refine ⟨?_, by (first | omega | (simp [intOf] <;> omega) | (simp only [intOf] <;> omega))⟩
             (repeat apply Exists.intro)
             refine (fun a b => And.intro b a) ?_ ?_
             · first | rfl | ((repeat refine ⟨rfl, ?_⟩); rfl)
             exact ⟨k + 1, a, f2, by go_num, rfl, HAB3.out, HF3.out, hab, hBa, hBb, by omega, hBr3.out, by omega⟩)
      · clear c0 c1 c2 c3 c4
        have hra := fun w' h => Lib.hid (row_any a f 0 64 w' h HF.out (by decide) (by decide))
        have hrb := fun w' h => Lib.hid (rrow_any (B + 1) f 0 64 w' h HF.out (by decide) (by decide))
        have hln := rowR_len HF.out 0 64
        generalize (rowR f 0 64).1 = L0 at *
        generalize (rowR f 0 64).2.1 = r2 at *
        generalize (rowR f 0 64).2.2 = r3 at *
        go_wp2_with fail
        refine (hra _ HAB.out.1).out.mono ?_
        rintro e w3 ⟨v1, rfl, ho1, hb1⟩
        go_wp2_with fail
        refine (hrb _ (HAB.out.2.later hb1)).out.mono ?_
        rintro e w4 ⟨v2, rfl, ho2, hb2⟩
        have ho3 := ho1.later hb2
        obtain ⟨bo1, cb1, rfl, -, -, hr1⟩ := ho3.rd
        obtain ⟨bo2, cb2, rfl, -, -, hr2⟩ := ho2.rd
        have hBr4 := (hBr.trans (hb1.mono hBs)).trans (hb2.mono (Nat.le_trans hBs hb1.size))
        clear hb1 hb2 ho1 ho2 ho3 hra hrb
        go_wp2_with fail
        refine (same_true bo1 bo2 _ _ cb1 cb2 L0 L0 w4 rfl rfl rfl (by omega) (by omega) hr1 hr2).mono ?_
        rintro e w5 ⟨rfl, hd⟩
        have hB9 := Lib.hid (hBr4.trans (hd.below _))
        clear hd hBr4 hr1 hr2
        go_wp2_with fail
        go_ret
        exact ⟨rfl, by rw [HBx.out]; exact hB9.out⟩
    · clear hl
      have hra := fun w' h => Lib.hid (row_any a f 0 64 w' h HF.out (by decide) (by decide))
      have hrb := fun w' h => Lib.hid (rrow_any (B + 1) f 0 64 w' h HF.out (by decide) (by decide))
      have hln := rowR_len HF.out 0 64
      generalize (rowR f 0 64).1 = L0 at *
      generalize (rowR f 0 64).2.1 = r2 at *
      generalize (rowR f 0 64).2.2 = r3 at *
      go_wp2_with fail
      refine (hra _ HAB.out.1).out.mono ?_
      rintro e w3 ⟨v1, rfl, ho1, hb1⟩
      go_wp2_with fail
      refine (hrb _ (HAB.out.2.later hb1)).out.mono ?_
      rintro e w4 ⟨v2, rfl, ho2, hb2⟩
      have ho3 := ho1.later hb2
      obtain ⟨bo1, cb1, rfl, -, -, hr1⟩ := ho3.rd
      obtain ⟨bo2, cb2, rfl, -, -, hr2⟩ := ho2.rd
      have hBr4 := (hBr.trans (hb1.mono hBs)).trans (hb2.mono (Nat.le_trans hBs hb1.size))
      clear hb1 hb2 ho1 ho2 ho3 hra hrb
      go_wp2_with fail
      refine (same_true bo1 bo2 _ _ cb1 cb2 L0 L0 w4 rfl rfl rfl (by omega) (by omega) hr1 hr2).mono ?_
      rintro e w5 ⟨rfl, hd⟩
      have hB9 := Lib.hid (hBr4.trans (hd.below _))
      clear hd hBr4 hr1 hr2
      go_wp2_with fail
      go_ret
      exact ⟨rfl, by rw [HBx.out]; exact hB9.out⟩
theorem walk {H : Type} (enc : TypeId × Value → H) (W : World) (base : Nat) (v0 : Value) (d0 : DataW H) (p0 : List MemPlace)
    (k0 : Value.okWide Try.prog W .any base 22 v0)
    (h0 : DataW.Trod enc Try.prog W 0 (fun _ => true) true 22 v0 d0 p0)
    (hsz : (DataW.weightsEach Try.prog [22] ([d0] ++ [])).all (· ≤ reachBytes) = true) :
    Calls Try.prog 3 #[v0] W fun e w' => e = .returned (.bool true) ∧ Below W.heap.size W w' := by
  simp only [DataW.weightsEach, List.cons_append, List.nil_append] at hsz
  obtain ⟨z0, zz⟩ := all_app hsz
  obtain ⟨ao, len, cap, l, rfl, hl, hlc, hcap, hr, hc, hok⟩ := open_script k0 h0 z0
  exact core W ao len cap l hl hlc hcap hr hok
end Go.Proofs.Ytnaffffeaakhcaa.fusePlays
