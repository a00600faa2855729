/- The program's Decode of metadata. No condition. -/
import Derived.Test.YtnmeidmiijcniaaFwE
import Derived.Test.YtnmeidmiijcniaaGet
import Derived.Test.YtnmeidmiijcniaaStr
import Derived.Deep.RegionHeld3
import Derived.StillTailTactics
import Derived.Test.YtnmeidmiijcniaaMk
import Derived.Deep.RegionWith
import Derived.Deep.DrawnRows
set_option linter.unusedVariables false
set_option linter.unusedSimpArgs false
namespace Go.Proofs.Ytnmeidmiijcniaa
open Go.RowKit
def buildB (ps : Array (Nat × Value)) : Sem Value := Instr.build 24 ps
theorem build_b (ps : Array (Nat × Value)) : Instr.build 24 ps = buildB ps := rfl
def buildM (ps : Array (Nat × Value)) : Sem Value := Instr.build 26 ps
theorem build_m (ps : Array (Nat × Value)) : Instr.build 26 ps = buildM ps := rfl
theorem run_buildB (x y : Int) (w : World) : (buildB #[(0, .int .i64 x), (1, .int .i64 y)]).run Try.prog w = .ok (.agg #[.int .i64 x, .int .i64 y]) w := by kernel_rfl
theorem run_buildM0 (w : World) : (buildM #[]).run Try.prog w = .ok (.agg #[.int .u32 0, .int .i64 0, .int .i64 0, .int .i64 0, .int .i64 0]) w := by kernel_rfl
theorem run_buildM (s x y a t : Int) (w : World) : (buildM #[(0, .int .u32 s), (1, .agg #[.int .i64 x, .int .i64 y]), (2, .int .i64 a), (3, .int .i64 t)]).run Try.prog w = .ok (.agg #[.int .u32 s, .int .i64 x, .int .i64 y, .int .i64 a, .int .i64 t]) w := by kernel_rfl
attribute [local go_sem ↓] build_b build_m Go.wp_at_zero Go.wp_at_succ
structure B4 (w : World) (ad off n8 n9 n10 n11 : Nat) : Prop where
  c8 : w.cell? ⟨ad, off + 8, none⟩ = some (.int .u8 n8)
  c9 : w.cell? ⟨ad, off + 9, none⟩ = some (.int .u8 n9)
  c10 : w.cell? ⟨ad, off + 10, none⟩ = some (.int .u8 n10)
  c11 : w.cell? ⟨ad, off + 11, none⟩ = some (.int .u8 n11)
theorem B4.of {w : World} {ad off : Nat} {l : List UInt8} (h : Rd w (some ⟨ad, off, none⟩) l) (hl : l.length = 512) : B4 w ad off (l[8]?.getD 0).toNat (l[9]?.getD 0).toNat (l[10]?.getD 0).toNat (l[11]?.getD 0).toNat := by
  have hc : ∀ (j : Nat), j < 512 → w.cell? ⟨ad, off + j, none⟩ = some (.int .u8 (l[j]?.getD 0).toNat) := fun j hj => by
    obtain ⟨b, o', e, hc⟩ := h j (by rw [hl]; exact hj)
    cases e
    exact hc
  exact ⟨hc 8 (by decide), hc 9 (by decide), hc 10 (by decide), hc 11 (by decide)⟩
def zero496 : List UInt8 := List.replicate 496 0
theorem mk496 (w : World) : (Instr.makeSlice 27 (.int .i64 496) (.int .i64 496)).run Try.prog w = .ok (.slice (some ⟨w.heap.size, 0, none⟩) 496 496) (w.alloc (.cells (zero496.map bv).toArray 5)) := run_mk 496 (by decide) w
def mec0 : List Value := [.int .u32 0, .int .i64 0, .int .i64 0, .int .i64 0, .int .i64 0]
/-- metadata's cells stored one by one -/
def meSet (w : World) (x : Nat) (m : Me) : World :=
  ((((w.setCell ⟨x, 0, none⟩ (.int .u32 m.seq)).setCell ⟨x, 1, none⟩ (.int .i64 m.b0)).setCell ⟨x, 2, none⟩ (.int .i64 m.b1)).setCell ⟨x, 3, none⟩ (.int .i64 m.act)).setCell ⟨x, 4, none⟩ (.int .i64 m.tries)
theorem meSet_hb {w : World} {x : Nat} {cs : List Value} {t : TypeId} (h : HB w x t cs) (hl : cs.length = 5) (m : Me) : HB (meSet w x m) x t (mec m) := by
  have h6 := ((((h.set 0 (.int .u32 m.seq)).set 1 (.int .i64 m.b0)).set 2 (.int .i64 m.b1)).set 3 (.int .i64 m.act)).set 4 (.int .i64 m.tries)
  obtain ⟨c0, c1, c2, c3, c4, rfl⟩ : ∃ c0 c1 c2 c3 c4, cs = [c0, c1, c2, c3, c4] := by
    match cs, hl with
    | [c0, c1, c2, c3, c4], _ => exact ⟨c0, c1, c2, c3, c4, rfl⟩
  exact h6
theorem meSet_grown (w : World) (x : Nat) (m : Me) : w.grownBy (meSet w x m) (some x) :=
  ((((grown_set w ⟨x, 0, none⟩ _).trans (grown_set _ ⟨x, 1, none⟩ _)).trans (grown_set _ ⟨x, 2, none⟩ _)).trans (grown_set _ ⟨x, 3, none⟩ _)).trans (grown_set _ ⟨x, 4, none⟩ _)
def decV (o : Option Me) : Value := .tuple #[mev (o.getD default), .int .i64 (if o.isSome then 0 else 231)]
set_option maxRecDepth 100000 in
set_option maxHeartbeats 1000000 in
theorem dec_any (ao : Option Addr) (n cap : Nat) (l : List UInt8) (w : World) (hl : l.length = n) (hn : n ≤ cap) (hcm : cap ≤ 9223372036854775807) (hr : Rd w ao l) :
    Calls Try.prog 10 #[.slice ao n cap] w fun e w' => e = .returned (decV (decM l)) ∧ Below w.heap.size w w' := by
  have hz := run_buildM0
  have HY := Lib.hid (HB.new w mec0 26)
  have HB1 := Lib.hid ((Below.refl w.heap.size w).alloc (Nat.le_refl _) (.cells mec0.toArray 26))
  obtain ⟨w1, hw1⟩ : ∃ w1, w.alloc (.cells mec0.toArray 26) = w1 := ⟨_, rfl⟩
  rw [hw1] at HY HB1
  obtain ⟨Y, hY⟩ : ∃ Y, w.heap.size = Y := ⟨_, rfl⟩
  rw [hY] at HY
  unfold mec0 at hw1
  have HYy := fun (_ : Unit) => Lib.hid hY
  have HYl := Lib.hid (Nat.le_of_eq hY)
  by_cases hn512 : n = 512
  · subst hn512
    obtain ⟨ad, off, rfl, -⟩ := hr 0 (by omega)
    have hr1 := hr.below HB1.out
    have hcv := conv_str w1 ⟨ad, off, none⟩ 4 cap (l.take 4) (by rw [List.length_take, hl]; rfl) (fun j hj => by
      rw [List.length_take, hl] at hj
      obtain ⟨b, o', e, hc⟩ := hr1 j (by omega)
      exact ⟨b, o', e, by rw [List.getElem?_take, if_pos (by omega)]; exact hc⟩)
    have hb1 := bst_toList (l.take 4) magic
    have hb2 := bst_beq (l.take 4) magic
    rw [show (bst magic).toList = [70, 87, 85, 49] by decide +kernel] at hb1
    clear hb2
    have q4 : (4 : Int) ≤ (cap : Int) := by omega
    have q508 : (508 : Int) ≤ (cap : Int) := by omega
    by_cases hm : l.take 4 = magic
    · rw [decide_eq_true hm] at hb1
      generalize bst (l.take 4) = S at *
      go_enter Try.func10, Try.ntmps10
      have Hg1 := Lib.hid (get_ok (some ⟨ad, off, none⟩) 512 cap 508 4 l false w1 hl (by decide) hr1 (.inr (.inr (.inl rfl))) (by decide))
      rw [show ((508 : Nat) : Int) = 508 from rfl, show ((4 : Nat) : Int) = 4 from rfl] at Hg1
      have Hl := Lib.hid hl
      have Hr1 := Lib.hid hr1
      have Hm := Lib.hid hm
      clear hl hr1 hr hm hn hcm
      go_wp2_with fail
      refine Hg1.out.mono ?_
      rintro e w2 ⟨rfl, hd2⟩
      have Hg2 := Lib.hid (get_ok (some ⟨ad, off, none⟩) 512 cap 4 4 l false w2 Hl.out (by decide) (hd2.rd Hr1.out) (.inr (.inr (.inl rfl))) (by decide))
      rw [show ((4 : Nat) : Int) = 4 from rfl] at Hg2
      have Hd2 := Lib.hid hd2
      clear Hg1 hd2
      go_wp2_with fail
      refine Hg2.out.mono ?_
      rintro e w3 ⟨rfl, hd3⟩
      have hd := Hd2.out.trans hd3
      have HY3 := Lib.hid (HY.out.drn hd)
      have HB3 := Lib.hid (HB1.out.trans (hd.below _))
      have Hr3 := Lib.hid (hd.rd Hr1.out)
      clear hd3 hd Hg2 Hd2 HY HB1 Hr1 hw1 hcv hb1
      go_upto_region 5 with fail
      obtain ⟨n8, h8⟩ : ∃ n, (l[8]?.getD 0).toNat = n := ⟨_, rfl⟩
      obtain ⟨n9, h9⟩ : ∃ n, (l[9]?.getD 0).toNat = n := ⟨_, rfl⟩
      obtain ⟨n10, h10⟩ : ∃ n, (l[10]?.getD 0).toNat = n := ⟨_, rfl⟩
      obtain ⟨n11, h11⟩ : ∃ n, (l[11]?.getD 0).toNat = n := ⟨_, rfl⟩
      have HS := Lib.hid (fun w' (hb : Below w3.heap.size w3 w') => B4.of (Hr3.out.below hb) Hl.out)
      have hbB := run_buildB
      have hbM := run_buildM
      have hz5 : ∀ w, (zeroValue 26).run Try.prog w = .ok (.agg #[.int .u32 0, .int .i64 0, .int .i64 0, .int .i64 0, .int .i64 0]) w := fun w => by kernel_rfl
      have hd0 : Drn w3 w3.drew := ⟨1, rfl⟩
      have HBa := Lib.hid (fun o => (hd0.below w3.heap.size).alloc (Nat.le_refl _) o)
      obtain ⟨sq, hsq⟩ : ∃ sq, getN l 4 4 false = sq := ⟨_, rfl⟩
      have hsl : sq < 4294967296 := by rw [← hsq]; exact getN_lt l 4 4 false (by rw [Hl.out]; decide)
      obtain ⟨sm, hsm⟩ : ∃ sm, getN l 508 4 false = sm := ⟨_, rfl⟩
      have hsml : sm < 4294967296 := by rw [← hsm]; exact getN_lt l 508 4 false (by rw [Hl.out]; decide)
      have e32 : IntKind.u32.wrap (sq : Int) = (sq : Int) := IntWalk.u32_in _ (by omega)
      have e8 : IntKind.i64.wrap (n8 : Int) = (n8 : Int) := IntWalk.i64_in _ (by have := (l[8]?.getD 0).toNat_lt; omega)
      have e9 : IntKind.i64.wrap (n9 : Int) = (n9 : Int) := IntWalk.i64_in _ (by have := (l[9]?.getD 0).toNat_lt; omega)
      have e10 : IntKind.i64.wrap (n10 : Int) = (n10 : Int) := IntWalk.i64_in _ (by have := (l[10]?.getD 0).toNat_lt; omega)
      have e11 : IntKind.i64.wrap (n11 : Int) = (n11 : Int) := IntWalk.i64_in _ (by have := (l[11]?.getD 0).toNat_lt; omega)
      have HM := fun (_ : Unit) => Lib.hid (show rdM l = ⟨sq, n8, n9, n10, n11⟩ by unfold rdM; rw [hsq, h8, h9, h10, h11])
      have Hsm := fun (_ : Unit) => Lib.hid hsm
      rw [h8, h9, h10, h11] at HS
      rw [hsq, hsm]
      clear hsq hsm h8 h9 h10 h11 hsl
      refine wp_region_held_drew (S := fun w' => B4 w' ad off n8 n9 n10 n11) (by kernel_rfl) (HS.out _ (hd0.below _)) (fun hHeld => ?_)
      refine wpAnyH_take (i := 0) (v := ?_) (by simp only [List.getElem?_toArray, List.getElem?_cons_succ, List.getElem?_cons_zero]; rfl) (by kernel_rfl) (by kernel_rfl) (by kernel_rfl) (by intro _ _ _ h_; exact h_) (Or.inl ⟨by rfl, ?_⟩) (by assumption) ?_
      rotate_left 1
      focus (intro w_ hSw_; try go_simp; try with_reducible rfl)
      simp only [Act.put, List.setIfInBounds_toArray, List.set_cons_zero, List.set_cons_succ]
      refine wpAnyH_take (i := 1) (v := ?_) (by simp only [List.getElem?_toArray, List.getElem?_cons_succ, List.getElem?_cons_zero]; rfl) (by kernel_rfl) (by kernel_rfl) (by kernel_rfl) (by intro _ _ _ h_; exact h_) (Or.inl ⟨by rfl, ?_⟩) (by assumption) ?_
      rotate_left 1
      focus (intro w_ hSw_; try go_simp; try with_reducible rfl)
      simp only [Act.put, List.setIfInBounds_toArray, List.set_cons_zero, List.set_cons_succ]
      refine wpAnyH_take (i := 2) (v := ?_) (by simp only [List.getElem?_toArray, List.getElem?_cons_succ, List.getElem?_cons_zero]; rfl) (by kernel_rfl) (by kernel_rfl) (by kernel_rfl) (by intro _ _ _ h_; exact h_) (Or.inl ⟨by rfl, ?_⟩) (by assumption) ?_
      rotate_left 1
      focus (intro w_ hSw_; try go_simp; try with_reducible rfl)
      simp only [Act.put, List.setIfInBounds_toArray, List.set_cons_zero, List.set_cons_succ]
      refine wpAnyH_take (i := 3) (v := ?_) (by simp only [List.getElem?_toArray, List.getElem?_cons_succ, List.getElem?_cons_zero]; rfl) (by kernel_rfl) (by kernel_rfl) (by kernel_rfl) (by intro _ _ _ h_; exact h_) (Or.inl ⟨by rfl, ?_⟩) (by assumption) ?_
      rotate_left 1
      focus (intro w_ hSw_; try go_simp; try with_reducible rfl)
      simp only [Act.put, List.setIfInBounds_toArray, List.set_cons_zero, List.set_cons_succ]
      refine wpAnyH_take (i := 4) (v := ?_) (by simp only [List.getElem?_toArray, List.getElem?_cons_succ, List.getElem?_cons_zero]; rfl) (by kernel_rfl) (by kernel_rfl) (by kernel_rfl) (by intro _ _ _ h_; exact h_) (Or.inl ⟨by rfl, ?_⟩) (by assumption) ?_
      rotate_left 1
      focus (intro w_ hSw_; obtain ⟨y8, y9, y10, y11⟩ := hSw_; try go_simp; try with_reducible rfl)
      simp only [Act.put, List.setIfInBounds_toArray, List.set_cons_zero, List.set_cons_succ]
      refine wpAnyH_take (i := 5) (v := ?_) (by simp only [List.getElem?_toArray, List.getElem?_cons_succ, List.getElem?_cons_zero]; rfl) (by kernel_rfl) (by kernel_rfl) (by kernel_rfl) (by intro _ _ _ h_; exact h_) (Or.inl ⟨by rfl, ?_⟩) (by assumption) ?_
      rotate_left 1
      focus (intro w_ hSw_; try go_simp; try with_reducible rfl)
      simp only [Act.put, List.setIfInBounds_toArray, List.set_cons_zero, List.set_cons_succ]
      refine wpAnyH_take (i := 6) (v := ?_) (by simp only [List.getElem?_toArray, List.getElem?_cons_succ, List.getElem?_cons_zero]; rfl) (by kernel_rfl) (by kernel_rfl) (by kernel_rfl) (by intro _ _ _ h_; exact h_) (Or.inl ⟨by rfl, ?_⟩) (by assumption) ?_
      rotate_left 1
      focus (intro w_ hSw_; try go_simp; try with_reducible rfl)
      simp only [Act.put, List.setIfInBounds_toArray, List.set_cons_zero, List.set_cons_succ]
      refine wpAnyH_take (i := 7) (v := ?_) (by simp only [List.getElem?_toArray, List.getElem?_cons_succ, List.getElem?_cons_zero]; rfl) (by kernel_rfl) (by kernel_rfl) (by kernel_rfl) (by intro _ _ _ h_; exact h_) (Or.inl ⟨by rfl, ?_⟩) (by assumption) ?_
      rotate_left 1
      focus (intro w_ hSw_; try go_simp; try with_reducible rfl)
      simp only [Act.put, List.setIfInBounds_toArray, List.set_cons_zero, List.set_cons_succ]
      refine wpAnyH_take (i := 8) (v := ?_) (by simp only [List.getElem?_toArray, List.getElem?_cons_succ, List.getElem?_cons_zero]; rfl) (by kernel_rfl) (by kernel_rfl) (by kernel_rfl) (by intro _ _ _ h_; exact h_) (Or.inl ⟨by rfl, ?_⟩) (by assumption) ?_
      rotate_left 1
      focus (intro w_ hSw_; obtain ⟨y8, y9, y10, y11⟩ := hSw_; try go_simp; try with_reducible rfl)
      simp only [Act.put, List.setIfInBounds_toArray, List.set_cons_zero, List.set_cons_succ]
      refine wpAnyH_take (i := 9) (v := ?_) (by simp only [List.getElem?_toArray, List.getElem?_cons_succ, List.getElem?_cons_zero]; rfl) (by kernel_rfl) (by kernel_rfl) (by kernel_rfl) (by intro _ _ _ h_; exact h_) (Or.inl ⟨by rfl, ?_⟩) (by assumption) ?_
      rotate_left 1
      focus (intro w_ hSw_; try go_simp; try with_reducible rfl)
      simp only [Act.put, List.setIfInBounds_toArray, List.set_cons_zero, List.set_cons_succ]
      refine wpAnyH_take (i := 10) (v := ?_) (by simp only [List.getElem?_toArray, List.getElem?_cons_succ, List.getElem?_cons_zero]; rfl) (by kernel_rfl) (by kernel_rfl) (by kernel_rfl) (by intro _ _ _ h_; exact h_) (Or.inl ⟨by rfl, ?_⟩) (by assumption) ?_
      rotate_left 1
      focus (intro w_ hSw_; try go_simp; try with_reducible rfl)
      simp only [Act.put, List.setIfInBounds_toArray, List.set_cons_zero, List.set_cons_succ]
      refine wpAnyH_take (i := 11) (v := ?_) (by simp only [List.getElem?_toArray, List.getElem?_cons_succ, List.getElem?_cons_zero]; rfl) (by kernel_rfl) (by kernel_rfl) (by kernel_rfl) (by intro _ _ _ h_; exact h_) (Or.inl ⟨by rfl, ?_⟩) (by assumption) ?_
      rotate_left 1
      focus (intro w_ hSw_; try go_simp; try with_reducible rfl)
      simp only [Act.put, List.setIfInBounds_toArray, List.set_cons_zero, List.set_cons_succ]
      refine wpAnyH_take (i := 12) (v := ?_) (by simp only [List.getElem?_toArray, List.getElem?_cons_succ, List.getElem?_cons_zero]; rfl) (by kernel_rfl) (by kernel_rfl) (by kernel_rfl) (by intro _ _ _ h_; exact h_) (Or.inl ⟨by rfl, ?_⟩) (by assumption) ?_
      rotate_left 1
      focus (intro w_ hSw_; try go_simp; try with_reducible rfl)
      simp only [Act.put, List.setIfInBounds_toArray, List.set_cons_zero, List.set_cons_succ]
      refine wpAnyH_take (i := 13) (v := ?_) (by simp only [List.getElem?_toArray, List.getElem?_cons_succ, List.getElem?_cons_zero]; rfl) (by kernel_rfl) (by kernel_rfl) (by kernel_rfl) (by intro _ _ _ h_; exact h_) (Or.inl ⟨by rfl, ?_⟩) (by assumption) ?_
      rotate_left 1
      focus (intro w_ hSw_; obtain ⟨y8, y9, y10, y11⟩ := hSw_; try go_simp; try with_reducible rfl)
      simp only [Act.put, List.setIfInBounds_toArray, List.set_cons_zero, List.set_cons_succ]
      refine wpAnyH_take (i := 14) (v := ?_) (by simp only [List.getElem?_toArray, List.getElem?_cons_succ, List.getElem?_cons_zero]; rfl) (by kernel_rfl) (by kernel_rfl) (by kernel_rfl) (by intro _ _ _ h_; exact h_) (Or.inl ⟨by rfl, ?_⟩) (by assumption) ?_
      rotate_left 1
      focus (intro w_ hSw_; try go_simp; try with_reducible rfl)
      simp only [Act.put, List.setIfInBounds_toArray, List.set_cons_zero, List.set_cons_succ]
      refine wpAnyH_take (i := 15) (v := ?_) (by simp only [List.getElem?_toArray, List.getElem?_cons_succ, List.getElem?_cons_zero]; rfl) (by kernel_rfl) (by kernel_rfl) (by kernel_rfl) (by intro _ _ _ h_; exact h_) (Or.inl ⟨by rfl, ?_⟩) (by assumption) ?_
      rotate_left 1
      focus (intro w_ hSw_; try go_simp; try with_reducible rfl)
      simp only [Act.put, List.setIfInBounds_toArray, List.set_cons_zero, List.set_cons_succ]
      refine wpAnyH_take (i := 16) (v := ?_) (by simp only [List.getElem?_toArray, List.getElem?_cons_succ, List.getElem?_cons_zero]; rfl) (by kernel_rfl) (by kernel_rfl) (by kernel_rfl) (by intro _ _ _ h_; exact h_) (Or.inl ⟨by rfl, ?_⟩) (by assumption) ?_
      rotate_left 1
      focus (intro w_ hSw_; try go_simp; try with_reducible rfl)
      simp only [Act.put, List.setIfInBounds_toArray, List.set_cons_zero, List.set_cons_succ]
      refine wpAnyH_take (i := 17) (v := ?_) (by simp only [List.getElem?_toArray, List.getElem?_cons_succ, List.getElem?_cons_zero]; rfl) (by kernel_rfl) (by kernel_rfl) (by kernel_rfl) (by intro _ _ _ h_; exact h_) (Or.inl ⟨by rfl, ?_⟩) (by assumption) ?_
      rotate_left 1
      focus (intro w_ hSw_; obtain ⟨y8, y9, y10, y11⟩ := hSw_; try go_simp; try with_reducible rfl)
      simp only [Act.put, List.setIfInBounds_toArray, List.set_cons_zero, List.set_cons_succ]
      refine wpAnyH_take (i := 18) (v := ?_) (by simp only [List.getElem?_toArray, List.getElem?_cons_succ, List.getElem?_cons_zero]; rfl) (by kernel_rfl) (by kernel_rfl) (by kernel_rfl) (by intro _ _ _ h_; exact h_) (Or.inl ⟨by rfl, ?_⟩) (by assumption) ?_
      rotate_left 1
      focus (intro w_ hSw_; try go_simp; try with_reducible rfl)
      simp only [Act.put, List.setIfInBounds_toArray, List.set_cons_zero, List.set_cons_succ]
      refine wpAnyH_take (i := 19) (v := ?_) (by simp only [List.getElem?_toArray, List.getElem?_cons_succ, List.getElem?_cons_zero]; rfl) (by kernel_rfl) (by kernel_rfl) (by kernel_rfl) (by intro _ _ _ h_; exact h_) (Or.inl ⟨by rfl, ?_⟩) (by assumption) ?_
      rotate_left 1
      focus (intro w_ hSw_; try go_simp; try with_reducible rfl)
      simp only [Act.put, List.setIfInBounds_toArray, List.set_cons_zero, List.set_cons_succ]
      refine wpAnyH_ready (rs := [20]) (by kernel_rfl) (by simp) ?_
      refine AllReadyH.cons (by simp only [List.getElem?_toArray, List.getElem?_cons_succ, List.getElem?_cons_zero]; rfl) (fun K hK => ?_) AllReadyH.nil
      go_simp
      refine hK.out _ _ (HS.out _ (HBa.out _)) (fun hHeld => ?_)
      clear hK K
      try simp only [Act.put, List.setIfInBounds_toArray, List.set_cons_zero, List.set_cons_succ]
      refine wpAnyH_ready (rs := [21]) (by kernel_rfl) (by simp) ?_
      refine AllReadyH.cons (by simp only [List.getElem?_toArray, List.getElem?_cons_succ, List.getElem?_cons_zero]; rfl) (fun K hK => ?_) AllReadyH.nil
      go_simp
      refine hK.out _ _ (HS.out _ (HBa.out _)) (fun hHeld => ?_)
      clear hK K
      try simp only [Act.put, List.setIfInBounds_toArray, List.set_cons_zero, List.set_cons_succ]
      refine wpAnyH_done (by kernel_rfl) ?_ _
      have HX := Lib.hid ((HB.new w3 (mec ⟨sq, n8, n9, n10, n11⟩) 26).drn (⟨1, rfl⟩ : Drn _ (w3.alloc (.cells (mec ⟨sq, n8, n9, n10, n11⟩).toArray 26)).drew))
      have HB4 := Lib.hid (show Below w3.heap.size w3 (w3.alloc (.cells (mec ⟨sq, n8, n9, n10, n11⟩).toArray 26)).drew from HBa.out _)
      obtain ⟨w4, hw4⟩ : ∃ w4, (w3.alloc (.cells (mec ⟨sq, n8, n9, n10, n11⟩).toArray 26)).drew = w4 := ⟨_, rfl⟩
      rw [hw4] at HX HB4
      unfold mec at hw4
      dsimp only at hw4
      rw [hw4]
      obtain ⟨X, hX⟩ : ∃ X, w3.heap.size = X := ⟨_, rfl⟩
      rw [hX] at HX ⊢
      have HY4 := Lib.hid (HY3.out.below HB4.out HY3.out.lt)
      have Hr4 := Lib.hid (Hr3.out.below HB4.out)
      have HBw := Lib.hid (HB3.out.trans (HB4.out.mono HB3.out.size))
      have HXY : Hid (w.heap.size ≤ X) := Lib.hid (by rw [← hX]; exact HB3.out.size)
      clear hw4 hX HY3 HB3 Hr3 HB4 HBa HS hHeld hd0 e32 e8 e9 e10 e11 hbB hbM hz5
      go_upto_region 6 with fail
      have hd0 : Drn w4 w4.drew := ⟨1, rfl⟩
      have Hcrc := Lib.hid (fun w' (hr : Rd w' (some ⟨ad, off, none⟩) l) => crc_any (some ⟨ad, off, none⟩) 508 cap (l.take 508) 0#32 0 rfl w' (by rw [List.length_take, Hl.out]; rfl) (by decide) (fun j hj => by
        rw [List.length_take, Hl.out] at hj
        obtain ⟨b, o', e, hc⟩ := hr j (by rw [Hl.out]; omega)
        exact ⟨b, o', e, by rw [List.getElem?_take, if_pos (by omega)]; exact hc⟩))
      obtain ⟨cv, hcv2⟩ : ∃ cv, (crc 0#32 (l.take 508)).toNat = cv := ⟨_, rfl⟩
      have Hcv := fun (_ : Unit) => Lib.hid hcv2
      rw [hcv2] at Hcrc
      have e1 : IntKind.u32.wrap (sm : Int) = (sm : Int) := IntWalk.u32_in _ (by omega)
      clear hcv2 hsml
      refine wp_region_held_drew (S := fun w' => Five w' X ⟨sq, n8, n9, n10, n11⟩) (by kernel_rfl) (Five.of (HX.out.drn hd0)) (fun hHeld => ?_)
      refine wpAnyH_take (i := 0) (v := ?_) (by simp only [List.getElem?_toArray, List.getElem?_cons_succ, List.getElem?_cons_zero]; rfl) (by kernel_rfl) (by kernel_rfl) (by kernel_rfl) (by intro _ _ _ h_; exact h_) (Or.inl ⟨by rfl, ?_⟩) (by assumption) ?_
      rotate_left 1
      focus (intro w_ hSw_; try go_simp; try with_reducible rfl)
      simp only [Act.put, List.setIfInBounds_toArray, List.set_cons_zero, List.set_cons_succ]
      refine wpAnyH_take (i := 1) (v := ?_) (by simp only [List.getElem?_toArray, List.getElem?_cons_succ, List.getElem?_cons_zero]; rfl) (by kernel_rfl) (by kernel_rfl) (by kernel_rfl) (by intro _ _ _ h_; exact h_) (Or.inl ⟨by rfl, ?_⟩) (by assumption) ?_
      rotate_left 1
      focus (intro w_ hSw_; try go_simp; try with_reducible rfl)
      simp only [Act.put, List.setIfInBounds_toArray, List.set_cons_zero, List.set_cons_succ]
      refine wpAnyH_take (i := 2) (v := ?_) (by simp only [List.getElem?_toArray, List.getElem?_cons_succ, List.getElem?_cons_zero]; rfl) (by kernel_rfl) (by kernel_rfl) (by kernel_rfl) (by intro _ _ _ h_; exact h_) (Or.inl ⟨by rfl, ?_⟩) (by assumption) ?_
      rotate_left 1
      focus (intro w_ hSw_; try go_simp; try with_reducible rfl)
      simp only [Act.put, List.setIfInBounds_toArray, List.set_cons_zero, List.set_cons_succ]
      refine wpAnyH_take (i := 3) (v := ?_) (by simp only [List.getElem?_toArray, List.getElem?_cons_succ, List.getElem?_cons_zero]; rfl) (by kernel_rfl) (by kernel_rfl) (by kernel_rfl) (by intro _ _ _ h_; exact h_) (Or.inl ⟨by rfl, ?_⟩) (by assumption) ?_
      rotate_left 1
      focus (intro w_ hSw_; try go_simp; try with_reducible rfl)
      simp only [Act.put, List.setIfInBounds_toArray, List.set_cons_zero, List.set_cons_succ]
      refine wpAnyH_ready (rs := [4]) (by kernel_rfl) (by simp) ?_
      refine AllReadyH.cons (by simp only [List.getElem?_toArray, List.getElem?_cons_succ, List.getElem?_cons_zero]; rfl) (fun K hK => ?_) AllReadyH.nil
      go_simp
      refine (Hcrc.out _ (hd0.rd Hr4.out)).mono ?_
      rintro e w5 ⟨rfl, rfl⟩
      clear Hcrc
      go_wp2_with fail
      refine hK.out _ _ (Five.of (HX.out.drn hd0)) (fun hHeld => ?_)
      clear hK K
      try simp only [Act.put, List.setIfInBounds_toArray, List.set_cons_zero, List.set_cons_succ]
      by_cases hsum : sm = cv
      · subst hsum
        have Hrt := Lib.hid (fun w' => right_any ⟨sq, n8, n9, n10, n11⟩ w')
        unfold mev at Hrt
        dsimp only at Hrt
        refine wpAnyH_take (i := 5) (v := ?_) (by simp only [List.getElem?_toArray, List.getElem?_cons_succ, List.getElem?_cons_zero]; rfl) (by kernel_rfl) (by kernel_rfl) (by kernel_rfl) (by intro _ _ _ h_; exact h_) (Or.inl ⟨by rfl, ?_⟩) (by assumption) ?_
        rotate_left 1
        focus (intro w_ hSw_; try go_simp; try with_reducible rfl)
        simp only [Act.put, List.setIfInBounds_toArray, List.set_cons_zero, List.set_cons_succ]
        refine wpAnyH_take (i := 6) (v := ?_) (by simp only [List.getElem?_toArray, List.getElem?_cons_succ, List.getElem?_cons_zero]; rfl) (by kernel_rfl) (by kernel_rfl) (by kernel_rfl) (by intro _ _ _ h_; exact h_) (Or.inl ⟨by rfl, ?_⟩) (by assumption) ?_
        rotate_left 1
        focus (intro w_ hSw_; try go_simp; try with_reducible rfl)
        simp only [Act.put, List.setIfInBounds_toArray, List.set_cons_zero, List.set_cons_succ]
        refine wpAnyH_take (i := 7) (v := ?_) (by simp only [List.getElem?_toArray, List.getElem?_cons_succ, List.getElem?_cons_zero]; rfl) (by kernel_rfl) (by kernel_rfl) (by kernel_rfl) (by intro _ _ _ h_; exact h_) (Or.inl ⟨by rfl, ?_⟩) (by assumption) ?_
        rotate_left 1
        focus (intro w_ hSw_; obtain ⟨y0, y1, y2, y3, y4⟩ := hSw_; try go_simp; try with_reducible rfl)
        simp only [Act.put, List.setIfInBounds_toArray, List.set_cons_zero, List.set_cons_succ]
        refine wpAnyH_ready (rs := [8]) (by kernel_rfl) (by simp) ?_
        refine AllReadyH.cons (by simp only [List.getElem?_toArray, List.getElem?_cons_succ, List.getElem?_cons_zero]; rfl) (fun K hK => ?_) AllReadyH.nil
        go_simp
        refine (Hrt.out _).mono ?_
        rintro e w6 ⟨rfl, hb6⟩
        have hb6' := (hd0.below w4.heap.size).trans hb6
        have HY6 := Lib.hid (HY4.out.later hb6')
        have HX6 := Lib.hid (HX.out.later hb6')
        have Hr6 := Lib.hid (Hr4.out.below hb6')
        have HB6 := Lib.hid (HBw.out.trans (hb6'.mono HBw.out.size))
        clear hHeld hb6 hb6' HY4 HX Hr4 HBw hd0 Hrt
        go_wp2_with fail
        refine hK.out _ _ (Five.of HX6.out) (fun hHeld => ?_)
        clear hK K
        try simp only [Act.put, List.setIfInBounds_toArray, List.set_cons_zero, List.set_cons_succ]
        cases hrt : rightM ⟨sq, n8, n9, n10, n11⟩
        · have hdm : decM l = none := by unfold decM; rw [if_neg (fun h => by have h1 := h.2.1; rw [(HM ()).out, hrt] at h1; cases h1)]
          have Hdm := Lib.hid hdm
          clear hdm hrt HM
          refine wpAnyH_take (i := 9) (v := ?_) (by simp only [List.getElem?_toArray, List.getElem?_cons_succ, List.getElem?_cons_zero]; rfl) (by kernel_rfl) (by kernel_rfl) (by kernel_rfl) (by intro _ _ _ h_; exact h_) (Or.inl ⟨by rfl, ?_⟩) (by assumption) ?_
          rotate_left 1
          focus (intro w_ hSw_; try go_simp; try with_reducible rfl)
          simp only [Act.put, List.setIfInBounds_toArray, List.set_cons_zero, List.set_cons_succ]
          refine wpAnyH_take (i := 10) (v := ?_) (by simp only [List.getElem?_toArray, List.getElem?_cons_succ, List.getElem?_cons_zero]; rfl) (by kernel_rfl) (by kernel_rfl) (by kernel_rfl) (by intro _ _ _ h_; exact h_) (Or.inl ⟨by rfl, ?_⟩) (by assumption) ?_
          rotate_left 1
          focus (intro w_ hSw_; try go_simp; try with_reducible rfl)
          simp only [Act.put, List.setIfInBounds_toArray, List.set_cons_zero, List.set_cons_succ]
          refine wpAnyH_take (i := 11) (v := ?_) (by simp only [List.getElem?_toArray, List.getElem?_cons_succ, List.getElem?_cons_zero]; rfl) (by kernel_rfl) (by kernel_rfl) (by kernel_rfl) (by intro _ _ _ h_; exact h_) (Or.inl ⟨by rfl, ?_⟩) (by assumption) ?_
          rotate_left 1
          focus (intro w_ hSw_; try go_simp; try with_reducible rfl)
          simp only [Act.put, List.setIfInBounds_toArray, List.set_cons_zero, List.set_cons_succ]
          refine wpAnyH_take (i := 12) (v := undef) (by simp only [List.getElem?_toArray, List.getElem?_cons_succ, List.getElem?_cons_zero]; rfl) (by kernel_rfl) (by kernel_rfl) (by kernel_rfl) (by intro _ _ _ h_; exact h_) (Or.inr ⟨by rfl, rfl⟩) (by assumption) ?_
          simp only [Act.put, List.setIfInBounds_toArray, List.set_cons_zero, List.set_cons_succ]
          refine wpAnyH_take (i := 13) (v := undef) (by simp only [List.getElem?_toArray, List.getElem?_cons_succ, List.getElem?_cons_zero]; rfl) (by kernel_rfl) (by kernel_rfl) (by kernel_rfl) (by intro _ _ _ h_; exact h_) (Or.inr ⟨by rfl, rfl⟩) (by assumption) ?_
          simp only [Act.put, List.setIfInBounds_toArray, List.set_cons_zero, List.set_cons_succ]
          refine wpAnyH_take (i := 14) (v := undef) (by simp only [List.getElem?_toArray, List.getElem?_cons_succ, List.getElem?_cons_zero]; rfl) (by kernel_rfl) (by kernel_rfl) (by kernel_rfl) (by intro _ _ _ h_; exact h_) (Or.inr ⟨by rfl, rfl⟩) (by assumption) ?_
          simp only [Act.put, List.setIfInBounds_toArray, List.set_cons_zero, List.set_cons_succ]
          refine wpAnyH_take (i := 15) (v := undef) (by simp only [List.getElem?_toArray, List.getElem?_cons_succ, List.getElem?_cons_zero]; rfl) (by kernel_rfl) (by kernel_rfl) (by kernel_rfl) (by intro _ _ _ h_; exact h_) (Or.inr ⟨by rfl, rfl⟩) (by assumption) ?_
          simp only [Act.put, List.setIfInBounds_toArray, List.set_cons_zero, List.set_cons_succ]
          refine wpAnyH_take (i := 16) (v := undef) (by simp only [List.getElem?_toArray, List.getElem?_cons_succ, List.getElem?_cons_zero]; rfl) (by kernel_rfl) (by kernel_rfl) (by kernel_rfl) (by intro _ _ _ h_; exact h_) (Or.inr ⟨by rfl, rfl⟩) (by assumption) ?_
          simp only [Act.put, List.setIfInBounds_toArray, List.set_cons_zero, List.set_cons_succ]
          refine wpAnyH_take (i := 17) (v := ?_) (by simp only [List.getElem?_toArray, List.getElem?_cons_succ, List.getElem?_cons_zero]; rfl) (by kernel_rfl) (by kernel_rfl) (by kernel_rfl) (by intro _ _ _ h_; exact h_) (Or.inl ⟨by rfl, ?_⟩) (by assumption) ?_
          rotate_left 1
          focus (intro w_ hSw_; try go_simp; try with_reducible rfl)
          simp only [Act.put, List.setIfInBounds_toArray, List.set_cons_zero, List.set_cons_succ]
          refine wpAnyH_done (by kernel_rfl) ?_ _
          have HYz := HY6
          have HBz := HB6
          have HSz := Lib.hid HB6.out.size
          clear hHeld HX6 Hr6 HY6 HB6
          have Hs := fun (_ : Unit) => Lib.hid (meSet_hb HYz.out rfl (⟨0, 0, 0, 0, 0⟩ : Me))
          have Hg := fun (_ : Unit) => Lib.hid (HBz.out.grown (meSet_grown w6 Y (⟨0, 0, 0, 0, 0⟩ : Me)) HSz.out (by intro k hk; cases hk; exact HYl.out))
          have y0 := HYz.out.cell (i := 0) rfl
          have y1 := HYz.out.cell (i := 1) rfl
          have y2 := HYz.out.cell (i := 2) rfl
          have y3 := HYz.out.cell (i := 3) rfl
          have y4 := HYz.out.cell (i := 4) rfl
          have yf := HYz.out.frozen
          skip
          go_wp2_with fail
          clear y0 y1 y2 y3 y4 yf
          unfold meSet at Hs Hg
          generalize World.setCell _ _ _ = w9 at *
          have k0 := (Hs ()).out.cell (i := 0) rfl
          have k1 := (Hs ()).out.cell (i := 1) rfl
          have k2 := (Hs ()).out.cell (i := 2) rfl
          have k3 := (Hs ()).out.cell (i := 3) rfl
          have k4 := (Hs ()).out.cell (i := 4) rfl
          refine bodyPost_ret (v := decV none) (by simp [results, Try.results10, go_sem, k0, k1, k2, k3, k4]; try rfl) rfl ⟨by rw [Hdm.out], (Hg ()).out⟩
        · have Hright := fun (_ : Unit) => Lib.hid hrt
          clear hrt
          have hmk := mk496
          refine wpAnyH_take (i := 9) (v := ?_) (by simp only [List.getElem?_toArray, List.getElem?_cons_succ, List.getElem?_cons_zero]; rfl) (by kernel_rfl) (by kernel_rfl) (by kernel_rfl) (by intro _ _ _ h_; exact h_) (Or.inl ⟨by rfl, ?_⟩) (by assumption) ?_
          rotate_left 1
          focus (intro w_ hSw_; try go_simp; try with_reducible rfl)
          simp only [Act.put, List.setIfInBounds_toArray, List.set_cons_zero, List.set_cons_succ]
          refine wpAnyH_take (i := 10) (v := ?_) (by simp only [List.getElem?_toArray, List.getElem?_cons_succ, List.getElem?_cons_zero]; rfl) (by kernel_rfl) (by kernel_rfl) (by kernel_rfl) (by intro _ _ _ h_; exact h_) (Or.inl ⟨by rfl, ?_⟩) (by assumption) ?_
          rotate_left 1
          focus (intro w_ hSw_; try go_simp; try with_reducible rfl)
          simp only [Act.put, List.setIfInBounds_toArray, List.set_cons_zero, List.set_cons_succ]
          refine wpAnyH_take (i := 11) (v := ?_) (by simp only [List.getElem?_toArray, List.getElem?_cons_succ, List.getElem?_cons_zero]; rfl) (by kernel_rfl) (by kernel_rfl) (by kernel_rfl) (by intro _ _ _ h_; exact h_) (Or.inl ⟨by rfl, ?_⟩) (by assumption) ?_
          rotate_left 1
          focus (intro w_ hSw_; try go_simp; try with_reducible rfl)
          simp only [Act.put, List.setIfInBounds_toArray, List.set_cons_zero, List.set_cons_succ]
          refine wpAnyH_take (i := 12) (v := ?_) (by simp only [List.getElem?_toArray, List.getElem?_cons_succ, List.getElem?_cons_zero]; rfl) (by kernel_rfl) (by kernel_rfl) (by kernel_rfl) (by intro _ _ _ h_; exact h_) (Or.inl ⟨by rfl, ?_⟩) (by assumption) ?_
          rotate_left 1
          focus (intro w_ hSw_; try go_simp; try with_reducible rfl)
          simp only [Act.put, List.setIfInBounds_toArray, List.set_cons_zero, List.set_cons_succ]
          refine wpAnyH_take (i := 13) (v := ?_) (by simp only [List.getElem?_toArray, List.getElem?_cons_succ, List.getElem?_cons_zero]; rfl) (by kernel_rfl) (by kernel_rfl) (by kernel_rfl) (by intro _ _ _ h_; exact h_) (Or.inl ⟨by rfl, ?_⟩) (by assumption) ?_
          rotate_left 1
          focus (intro w_ hSw_; try go_simp; try with_reducible rfl)
          simp only [Act.put, List.setIfInBounds_toArray, List.set_cons_zero, List.set_cons_succ]
          refine wpAnyH_ready (rs := [14]) (by kernel_rfl) (by simp) ?_
          refine AllReadyH.cons (by simp only [List.getElem?_toArray, List.getElem?_cons_succ, List.getElem?_cons_zero]; rfl) (fun K hK => ?_) AllReadyH.nil
          go_simp
          have hbz := (Below.refl w6.heap.size w6).alloc (Nat.le_refl _) (.cells (zero496.map bv).toArray 5)
          have Hz := Lib.hid (Rd.new w6 zero496 5 (0, 0))
          have HX7 := Lib.hid (HX6.out.later hbz)
          have HY7 := Lib.hid (HY6.out.later hbz)
          have Hr7 := Lib.hid (Hr6.out.below hbz)
          have HB7 := Lib.hid (HB6.out.trans (hbz.mono HB6.out.size))
          generalize hz7 : w6.alloc (.cells (zero496.map bv).toArray 5) = w7 at *
          generalize hZ6 : w6.heap.size = Z at *
          refine hK.out _ _ (Five.of HX7.out) (fun hHeld => ?_)
          clear hK K
          try simp only [Act.put, List.setIfInBounds_toArray, List.set_cons_zero, List.set_cons_succ]
          have Heq := Lib.hid (equal_any ⟨ad, off + 12, none⟩ ⟨Z, 0, none⟩ 496 496 (cap - 12) 496 ((l.drop 12).take 496) zero496 w7 (by rw [List.length_take, List.length_drop, Hl.out]; rfl) (List.length_replicate ..) (fun j hj => by
            rw [List.length_take, List.length_drop, Hl.out] at hj
            obtain ⟨b, o', e, hc⟩ := Hr7.out (12 + j) (by rw [Hl.out]; omega)
            cases e
            exact ⟨ad, off + 12, rfl, by rw [List.getElem?_take, if_pos (by omega), List.getElem?_drop, Nat.add_assoc]; exact hc⟩) Hz.out)
          refine wpAnyH_ready (rs := [15]) (by kernel_rfl) (by simp) ?_
          refine AllReadyH.cons (by simp only [List.getElem?_toArray, List.getElem?_cons_succ, List.getElem?_cons_zero]; rfl) (fun K hK => ?_) AllReadyH.nil
          go_simp
          rw [if_neg (show ¬ cap = 12 by omega)]
          refine Heq.out.mono ?_
          rintro e w8 ⟨rfl, rfl⟩
          clear hHeld Heq hbz hz7 hZ6 Hz Hr7 Hr6 HX6 HY6 HB6 hmk
          go_wp2_with fail
          refine hK.out _ _ (Five.of HX7.out) (fun hHeld => ?_)
          clear hK K
          try simp only [Act.put, List.setIfInBounds_toArray, List.set_cons_zero, List.set_cons_succ]
          by_cases hzz : (l.drop 12).take 496 = zero496
          · rw [decide_eq_true hzz]
            refine wpAnyH_take (i := 16) (v := ?_) (by simp only [List.getElem?_toArray, List.getElem?_cons_succ, List.getElem?_cons_zero]; rfl) (by kernel_rfl) (by kernel_rfl) (by kernel_rfl) (by intro _ _ _ h_; exact h_) (Or.inl ⟨by rfl, ?_⟩) (by assumption) ?_
            rotate_left 1
            focus (intro w_ hSw_; try go_simp; try with_reducible rfl)
            simp only [Act.put, List.setIfInBounds_toArray, List.set_cons_zero, List.set_cons_succ]
            refine wpAnyH_take (i := 17) (v := ?_) (by simp only [List.getElem?_toArray, List.getElem?_cons_succ, List.getElem?_cons_zero]; rfl) (by kernel_rfl) (by kernel_rfl) (by kernel_rfl) (by intro _ _ _ h_; exact h_) (Or.inl ⟨by rfl, ?_⟩) (by assumption) ?_
            rotate_left 1
            focus (intro w_ hSw_; try go_simp; try with_reducible rfl)
            simp only [Act.put, List.setIfInBounds_toArray, List.set_cons_zero, List.set_cons_succ]
            refine wpAnyH_done (by kernel_rfl) ?_ _
            have hdm : decM l = some ⟨sq, n8, n9, n10, n11⟩ := by
              unfold decM
              rw [if_pos ⟨Hl.out, by rw [(HM ()).out]; exact (Hright ()).out, (enc_iff l Hl.out).2 ⟨Hm.out, by rw [(Hsm ()).out, (Hcv ()).out], hzz⟩⟩, (HM ()).out]
            have Hdm := Lib.hid hdm
            have HYz := HY7
            have HBz := HB7
            have HSz := Lib.hid HB7.out.size
            clear hHeld hdm hzz HY7 HB7 HM Hsm Hcv Hright
            obtain ⟨x0, x1, x2, x3, x4⟩ := Five.of HX7.out
            clear HX7
            dsimp only at x0 x1 x2 x3 x4
            have Hs := fun (_ : Unit) => Lib.hid (meSet_hb HYz.out rfl (⟨sq, n8, n9, n10, n11⟩ : Me))
            have Hg := fun (_ : Unit) => Lib.hid (HBz.out.grown (meSet_grown w7 Y (⟨sq, n8, n9, n10, n11⟩ : Me)) HSz.out (by intro k hk; cases hk; exact HYl.out))
            have y0 := HYz.out.cell (i := 0) rfl
            have y1 := HYz.out.cell (i := 1) rfl
            have y2 := HYz.out.cell (i := 2) rfl
            have y3 := HYz.out.cell (i := 3) rfl
            have y4 := HYz.out.cell (i := 4) rfl
            have yf := HYz.out.frozen
            go_wp2_with fail
            clear y0 y1 y2 y3 y4 yf x0 x1 x2 x3 x4
            unfold meSet at Hs Hg
            generalize World.setCell _ _ _ = w9 at *
            have k0 := (Hs ()).out.cell (i := 0) rfl
            have k1 := (Hs ()).out.cell (i := 1) rfl
            have k2 := (Hs ()).out.cell (i := 2) rfl
            have k3 := (Hs ()).out.cell (i := 3) rfl
            have k4 := (Hs ()).out.cell (i := 4) rfl
            refine bodyPost_ret (v := decV (some ⟨sq, n8, n9, n10, n11⟩)) (by simp [results, Try.results10, go_sem, k0, k1, k2, k3, k4]; try rfl) rfl ⟨by rw [Hdm.out], (Hg ()).out⟩
          · rw [decide_eq_false hzz]
            have hdm : decM l = none := by unfold decM; rw [if_neg (fun h => hzz ((enc_iff l Hl.out).1 h.2.2).2.2)]
            have Hdm := Lib.hid hdm
            clear hdm hzz
            refine wpAnyH_take (i := 16) (v := ?_) (by simp only [List.getElem?_toArray, List.getElem?_cons_succ, List.getElem?_cons_zero]; rfl) (by kernel_rfl) (by kernel_rfl) (by kernel_rfl) (by intro _ _ _ h_; exact h_) (Or.inl ⟨by rfl, ?_⟩) (by assumption) ?_
            rotate_left 1
            focus (intro w_ hSw_; try go_simp; try with_reducible rfl)
            simp only [Act.put, List.setIfInBounds_toArray, List.set_cons_zero, List.set_cons_succ]
            refine wpAnyH_take (i := 17) (v := ?_) (by simp only [List.getElem?_toArray, List.getElem?_cons_succ, List.getElem?_cons_zero]; rfl) (by kernel_rfl) (by kernel_rfl) (by kernel_rfl) (by intro _ _ _ h_; exact h_) (Or.inl ⟨by rfl, ?_⟩) (by assumption) ?_
            rotate_left 1
            focus (intro w_ hSw_; try go_simp; try with_reducible rfl)
            simp only [Act.put, List.setIfInBounds_toArray, List.set_cons_zero, List.set_cons_succ]
            refine wpAnyH_done (by kernel_rfl) ?_ _
            have HYz := HY7
            have HBz := HB7
            have HSz := Lib.hid HB7.out.size
            clear hHeld HX7 HY7 HB7
            have Hs := fun (_ : Unit) => Lib.hid (meSet_hb HYz.out rfl (⟨0, 0, 0, 0, 0⟩ : Me))
            have Hg := fun (_ : Unit) => Lib.hid (HBz.out.grown (meSet_grown w7 Y (⟨0, 0, 0, 0, 0⟩ : Me)) HSz.out (by intro k hk; cases hk; exact HYl.out))
            have y0 := HYz.out.cell (i := 0) rfl
            have y1 := HYz.out.cell (i := 1) rfl
            have y2 := HYz.out.cell (i := 2) rfl
            have y3 := HYz.out.cell (i := 3) rfl
            have y4 := HYz.out.cell (i := 4) rfl
            have yf := HYz.out.frozen
            skip
            go_wp2_with fail
            clear y0 y1 y2 y3 y4 yf
            unfold meSet at Hs Hg
            generalize World.setCell _ _ _ = w9 at *
            have k0 := (Hs ()).out.cell (i := 0) rfl
            have k1 := (Hs ()).out.cell (i := 1) rfl
            have k2 := (Hs ()).out.cell (i := 2) rfl
            have k3 := (Hs ()).out.cell (i := 3) rfl
            have k4 := (Hs ()).out.cell (i := 4) rfl
            refine bodyPost_ret (v := decV none) (by simp [results, Try.results10, go_sem, k0, k1, k2, k3, k4]; try rfl) rfl ⟨by rw [Hdm.out], (Hg ()).out⟩
      · have i1 : ¬ ((sm : Int) = (cv : Int)) := by omega
        have i2 : ((sm : Int) != (cv : Int)) = true := bne_iff_ne.2 i1
        have hdm : decM l = none := by unfold decM; rw [if_neg (fun h => hsum (by rw [← (Hsm ()).out, ← (Hcv ()).out]; exact ((enc_iff l Hl.out).1 h.2.2).2.1))]
        have Hdm := Lib.hid hdm
        clear hsum hdm
        refine wpAnyH_take (i := 5) (v := ?_) (by simp only [List.getElem?_toArray, List.getElem?_cons_succ, List.getElem?_cons_zero]; rfl) (by kernel_rfl) (by kernel_rfl) (by kernel_rfl) (by intro _ _ _ h_; exact h_) (Or.inl ⟨by rfl, ?_⟩) (by assumption) ?_
        rotate_left 1
        focus (intro w_ hSw_; try go_simp; try with_reducible rfl)
        simp only [Act.put, List.setIfInBounds_toArray, List.set_cons_zero, List.set_cons_succ]
        refine wpAnyH_take (i := 6) (v := ?_) (by simp only [List.getElem?_toArray, List.getElem?_cons_succ, List.getElem?_cons_zero]; rfl) (by kernel_rfl) (by kernel_rfl) (by kernel_rfl) (by intro _ _ _ h_; exact h_) (Or.inl ⟨by rfl, ?_⟩) (by assumption) ?_
        rotate_left 1
        focus (intro w_ hSw_; try go_simp; try with_reducible rfl)
        simp only [Act.put, List.setIfInBounds_toArray, List.set_cons_zero, List.set_cons_succ]
        refine wpAnyH_take (i := 7) (v := undef) (by simp only [List.getElem?_toArray, List.getElem?_cons_succ, List.getElem?_cons_zero]; rfl) (by kernel_rfl) (by kernel_rfl) (by kernel_rfl) (by intro _ _ _ h_; exact h_) (Or.inr ⟨by rfl, rfl⟩) (by assumption) ?_
        simp only [Act.put, List.setIfInBounds_toArray, List.set_cons_zero, List.set_cons_succ]
        refine wpAnyH_take (i := 8) (v := undef) (by simp only [List.getElem?_toArray, List.getElem?_cons_succ, List.getElem?_cons_zero]; rfl) (by kernel_rfl) (by kernel_rfl) (by kernel_rfl) (by intro _ _ _ h_; exact h_) (Or.inr ⟨by rfl, rfl⟩) (by assumption) ?_
        simp only [Act.put, List.setIfInBounds_toArray, List.set_cons_zero, List.set_cons_succ]
        refine wpAnyH_take (i := 9) (v := undef) (by simp only [List.getElem?_toArray, List.getElem?_cons_succ, List.getElem?_cons_zero]; rfl) (by kernel_rfl) (by kernel_rfl) (by kernel_rfl) (by intro _ _ _ h_; exact h_) (Or.inr ⟨by rfl, rfl⟩) (by assumption) ?_
        simp only [Act.put, List.setIfInBounds_toArray, List.set_cons_zero, List.set_cons_succ]
        refine wpAnyH_take (i := 10) (v := ?_) (by simp only [List.getElem?_toArray, List.getElem?_cons_succ, List.getElem?_cons_zero]; rfl) (by kernel_rfl) (by kernel_rfl) (by kernel_rfl) (by intro _ _ _ h_; exact h_) (Or.inl ⟨by rfl, ?_⟩) (by assumption) ?_
        rotate_left 1
        focus (intro w_ hSw_; try go_simp; try with_reducible rfl)
        simp only [Act.put, List.setIfInBounds_toArray, List.set_cons_zero, List.set_cons_succ]
        refine wpAnyH_take (i := 11) (v := ?_) (by simp only [List.getElem?_toArray, List.getElem?_cons_succ, List.getElem?_cons_zero]; rfl) (by kernel_rfl) (by kernel_rfl) (by kernel_rfl) (by intro _ _ _ h_; exact h_) (Or.inl ⟨by rfl, ?_⟩) (by assumption) ?_
        rotate_left 1
        focus (intro w_ hSw_; try go_simp; try with_reducible rfl)
        simp only [Act.put, List.setIfInBounds_toArray, List.set_cons_zero, List.set_cons_succ]
        refine wpAnyH_take (i := 12) (v := undef) (by simp only [List.getElem?_toArray, List.getElem?_cons_succ, List.getElem?_cons_zero]; rfl) (by kernel_rfl) (by kernel_rfl) (by kernel_rfl) (by intro _ _ _ h_; exact h_) (Or.inr ⟨by rfl, rfl⟩) (by assumption) ?_
        simp only [Act.put, List.setIfInBounds_toArray, List.set_cons_zero, List.set_cons_succ]
        refine wpAnyH_take (i := 13) (v := undef) (by simp only [List.getElem?_toArray, List.getElem?_cons_succ, List.getElem?_cons_zero]; rfl) (by kernel_rfl) (by kernel_rfl) (by kernel_rfl) (by intro _ _ _ h_; exact h_) (Or.inr ⟨by rfl, rfl⟩) (by assumption) ?_
        simp only [Act.put, List.setIfInBounds_toArray, List.set_cons_zero, List.set_cons_succ]
        refine wpAnyH_take (i := 14) (v := undef) (by simp only [List.getElem?_toArray, List.getElem?_cons_succ, List.getElem?_cons_zero]; rfl) (by kernel_rfl) (by kernel_rfl) (by kernel_rfl) (by intro _ _ _ h_; exact h_) (Or.inr ⟨by rfl, rfl⟩) (by assumption) ?_
        simp only [Act.put, List.setIfInBounds_toArray, List.set_cons_zero, List.set_cons_succ]
        refine wpAnyH_take (i := 15) (v := undef) (by simp only [List.getElem?_toArray, List.getElem?_cons_succ, List.getElem?_cons_zero]; rfl) (by kernel_rfl) (by kernel_rfl) (by kernel_rfl) (by intro _ _ _ h_; exact h_) (Or.inr ⟨by rfl, rfl⟩) (by assumption) ?_
        simp only [Act.put, List.setIfInBounds_toArray, List.set_cons_zero, List.set_cons_succ]
        refine wpAnyH_take (i := 16) (v := undef) (by simp only [List.getElem?_toArray, List.getElem?_cons_succ, List.getElem?_cons_zero]; rfl) (by kernel_rfl) (by kernel_rfl) (by kernel_rfl) (by intro _ _ _ h_; exact h_) (Or.inr ⟨by rfl, rfl⟩) (by assumption) ?_
        simp only [Act.put, List.setIfInBounds_toArray, List.set_cons_zero, List.set_cons_succ]
        refine wpAnyH_take (i := 17) (v := ?_) (by simp only [List.getElem?_toArray, List.getElem?_cons_succ, List.getElem?_cons_zero]; rfl) (by kernel_rfl) (by kernel_rfl) (by kernel_rfl) (by intro _ _ _ h_; exact h_) (Or.inl ⟨by rfl, ?_⟩) (by assumption) ?_
        rotate_left 1
        focus (intro w_ hSw_; try go_simp; try with_reducible rfl)
        simp only [Act.put, List.setIfInBounds_toArray, List.set_cons_zero, List.set_cons_succ]
        refine wpAnyH_done (by kernel_rfl) ?_ _
        have HYz := Lib.hid (HY4.out.drn hd0)
        have HBz := Lib.hid (HBw.out.trans (hd0.below _))
        have HSz := Lib.hid HBz.out.size
        clear hHeld HX HM Hr4 HY4 HBw
        generalize w4.drew = w6 at *
        have Hs := fun (_ : Unit) => Lib.hid (meSet_hb HYz.out rfl (⟨0, 0, 0, 0, 0⟩ : Me))
        have Hg := fun (_ : Unit) => Lib.hid (HBz.out.grown (meSet_grown w6 Y (⟨0, 0, 0, 0, 0⟩ : Me)) HSz.out (by intro k hk; cases hk; exact HYl.out))
        have y0 := HYz.out.cell (i := 0) rfl
        have y1 := HYz.out.cell (i := 1) rfl
        have y2 := HYz.out.cell (i := 2) rfl
        have y3 := HYz.out.cell (i := 3) rfl
        have y4 := HYz.out.cell (i := 4) rfl
        have yf := HYz.out.frozen
        skip
        go_wp2_with fail
        clear y0 y1 y2 y3 y4 yf
        unfold meSet at Hs Hg
        generalize World.setCell _ _ _ = w9 at *
        have k0 := (Hs ()).out.cell (i := 0) rfl
        have k1 := (Hs ()).out.cell (i := 1) rfl
        have k2 := (Hs ()).out.cell (i := 2) rfl
        have k3 := (Hs ()).out.cell (i := 3) rfl
        have k4 := (Hs ()).out.cell (i := 4) rfl
        refine bodyPost_ret (v := decV none) (by simp [results, Try.results10, go_sem, k0, k1, k2, k3, k4]; try rfl) rfl ⟨by rw [Hdm.out], (Hg ()).out⟩
    · have hdm : decM l = none := by unfold decM; rw [if_neg (fun h => hm ((enc_iff l hl).1 h.2.2).1)]
      have Hdm := Lib.hid hdm
      rw [decide_eq_false hm] at hb1
      generalize bst (l.take 4) = S at *
      have HYz := HY
      have HBz := HB1
      have HSz := Lib.hid HB1.out.size
      clear hdm hl hr hn hcm HY HB1 hr1 hm
      have Hs := fun (_ : Unit) => Lib.hid (meSet_hb HYz.out rfl (⟨0, 0, 0, 0, 0⟩ : Me))
      have Hg := fun (_ : Unit) => Lib.hid (HBz.out.grown (meSet_grown w1 Y (⟨0, 0, 0, 0, 0⟩ : Me)) HSz.out (by intro k hk; cases hk; exact HYl.out))
      have y0 := HYz.out.cell (i := 0) rfl
      have y1 := HYz.out.cell (i := 1) rfl
      have y2 := HYz.out.cell (i := 2) rfl
      have y3 := HYz.out.cell (i := 3) rfl
      have y4 := HYz.out.cell (i := 4) rfl
      have yf := HYz.out.frozen
      (go_enter Try.func10, Try.ntmps10)
      go_wp2_with fail
      clear y0 y1 y2 y3 y4 yf
      unfold meSet at Hs Hg
      generalize World.setCell _ _ _ = w9 at *
      have k0 := (Hs ()).out.cell (i := 0) rfl
      have k1 := (Hs ()).out.cell (i := 1) rfl
      have k2 := (Hs ()).out.cell (i := 2) rfl
      have k3 := (Hs ()).out.cell (i := 3) rfl
      have k4 := (Hs ()).out.cell (i := 4) rfl
      refine bodyPost_ret (v := decV none) (by simp [results, Try.results10, go_sem, k0, k1, k2, k3, k4]; try rfl) rfl ⟨by rw [Hdm.out], (Hg ()).out⟩
  · have hdm : decM l = none := by unfold decM; rw [if_neg (by rw [hl]; exact fun h => hn512 h.1)]
    have Hdm := Lib.hid hdm
    have i1 : ¬ ((n : Int) = 512) := by omega
    have HYz := HY
    have HBz := HB1
    have HSz := Lib.hid HB1.out.size
    clear hn512 hdm hl hr hn hcm HY HB1
    have Hs := fun (_ : Unit) => Lib.hid (meSet_hb HYz.out rfl (⟨0, 0, 0, 0, 0⟩ : Me))
    have Hg := fun (_ : Unit) => Lib.hid (HBz.out.grown (meSet_grown w1 Y (⟨0, 0, 0, 0, 0⟩ : Me)) HSz.out (by intro k hk; cases hk; exact HYl.out))
    have y0 := HYz.out.cell (i := 0) rfl
    have y1 := HYz.out.cell (i := 1) rfl
    have y2 := HYz.out.cell (i := 2) rfl
    have y3 := HYz.out.cell (i := 3) rfl
    have y4 := HYz.out.cell (i := 4) rfl
    have yf := HYz.out.frozen
    (go_enter Try.func10, Try.ntmps10)
    go_wp2_with fail
    clear y0 y1 y2 y3 y4 yf
    unfold meSet at Hs Hg
    generalize World.setCell _ _ _ = w9 at *
    have k0 := (Hs ()).out.cell (i := 0) rfl
    have k1 := (Hs ()).out.cell (i := 1) rfl
    have k2 := (Hs ()).out.cell (i := 2) rfl
    have k3 := (Hs ()).out.cell (i := 3) rfl
    have k4 := (Hs ()).out.cell (i := 4) rfl
    refine bodyPost_ret (v := decV none) (by simp [results, Try.results10, go_sem, k0, k1, k2, k3, k4]; try rfl) rfl ⟨by rw [Hdm.out], (Hg ()).out⟩
end Go.Proofs.Ytnmeidmiijcniaa
