/- The update's metadata in memory; whether they are right. No condition. -/
import Derived.Test.YtnmeidmiijcniaaFwN
import Derived.Test.YtnmeidmiijcniaaByte
import Derived.BigQuiet
import Derived.Deep.DeepCutAuto
set_option linter.unusedVariables false
set_option linter.unusedSimpArgs false
namespace Go.Proofs.Ytnmeidmiijcniaa
open Go.RowKit
def mec (m : Me) : List Value := [.int .u32 m.seq, .int .i64 m.b0, .int .i64 m.b1, .int .i64 m.act, .int .i64 m.tries]
def mev (m : Me) : Value := .agg #[.int .u32 m.seq, .int .i64 m.b0, .int .i64 m.b1, .int .i64 m.act, .int .i64 m.tries]
def indexB (x i : Value) : Sem Value := Instr.index 24 x i
theorem index_b (x i : Value) : Instr.index 24 x i = indexB x i := rfl
theorem run_indexB0 (b0 b1 : Int) (w : World) : (indexB (.agg #[.int .i64 b0, .int .i64 b1]) (.int .i64 0)).run Try.prog w = .ok (.int .i64 b0) w := by kernel_rfl
theorem run_indexB1 (b0 b1 : Int) (w : World) : (indexB (.agg #[.int .i64 b0, .int .i64 b1]) (.int .i64 1)).run Try.prog w = .ok (.int .i64 b1) w := by kernel_rfl
attribute [local go_sem ↓] index_b
structure Five (w : World) (x : Nat) (m : Me) : Prop where
  c0 : w.cell? ⟨x, 0, none⟩ = some (.int .u32 m.seq)
  c1 : w.cell? ⟨x, 1, none⟩ = some (.int .i64 m.b0)
  c2 : w.cell? ⟨x, 2, none⟩ = some (.int .i64 m.b1)
  c3 : w.cell? ⟨x, 3, none⟩ = some (.int .i64 m.act)
  c4 : w.cell? ⟨x, 4, none⟩ = some (.int .i64 m.tries)
theorem Five.of {w : World} {x : Nat} {m : Me} {t : TypeId} (h : HB w x t (mec m)) : Five w x m := ⟨h.cell rfl, h.cell rfl, h.cell rfl, h.cell rfl, h.cell rfl⟩
structure RgtIn (b0 b1 : Int) (w : World) (iv : Value) (wr : World) : Prop where
  x : ∃ k : Nat, k ≤ 2 ∧ iv = .int .i64 k ∧ (0 < k → 0 ≤ b0 ∧ b0 ≤ 3) ∧ (1 < k → 0 ≤ b1 ∧ b1 ≤ 3) ∧ w = wr
theorem right_no {m : Me} (h : ¬ Right m) : rightM m = false := by
  cases hr : rightM m
  · rfl
  · exact absurd (right_iff.1 hr) h
set_option maxRecDepth 100000 in
set_option maxHeartbeats 2000000 in
theorem right_any (m : Me) (w : World) :
    Calls Try.prog 39 #[mev m] w fun e w' => e = .returned (.bool (rightM m)) ∧ Below w.heap.size w w' := by
  have hi0 := run_indexB0
  have hi1 := run_indexB1
  have HX := Lib.hid (HB.new w (mec m) 26)
  have HB1 := Lib.hid ((Below.refl w.heap.size w).alloc (Nat.le_refl _) (.cells (mec m).toArray 26))
  obtain ⟨X, hX⟩ : ∃ X, w.heap.size = X := ⟨_, rfl⟩
  obtain ⟨sq, b0, b1, act, tr⟩ := m
  obtain ⟨w1, hw1⟩ : ∃ w1, w.alloc (.cells (mec ⟨sq, b0, b1, act, tr⟩).toArray 26) = w1 := ⟨_, rfl⟩
  rw [hX] at HX
  rw [hw1] at HX HB1
  unfold mec at hw1
  unfold mev
  dsimp only at *
  obtain ⟨k0, k1, k2, k3, k4⟩ := Five.of HX.out
  dsimp only at k0 k1 k2 k3 k4
  by_cases ha : act = 0 ∨ act = 1
  · by_cases h0 : tr < 0
    · have Hres := fun (_ : Unit) => Lib.hid (right_no (m := ⟨sq, b0, b1, act, tr⟩) (fun h => by have := h.t.1; dsimp only at this; omega))
      rcases ha with rfl | rfl
      · go_enter Try.func39, Try.ntmps39
        go_wp2_with fail
        go_ret
        exact ⟨by rw [(Hres ()).out]; rfl, by first | exact HB1.out | (rw [← hX]; exact HB1.out)⟩
      · go_enter Try.func39, Try.ntmps39
        go_wp2_with fail
        go_ret
        exact ⟨by rw [(Hres ()).out]; rfl, by first | exact HB1.out | (rw [← hX]; exact HB1.out)⟩
    by_cases h3 : 3 < tr
    · have Hres := fun (_ : Unit) => Lib.hid (right_no (m := ⟨sq, b0, b1, act, tr⟩) (fun h => by have := h.t.2; dsimp only at this; omega))
      rcases ha with rfl | rfl
      · go_enter Try.func39, Try.ntmps39
        go_wp2_with fail
        go_ret
        exact ⟨by rw [(Hres ()).out]; rfl, by first | exact HB1.out | (rw [← hX]; exact HB1.out)⟩
      · go_enter Try.func39, Try.ntmps39
        go_wp2_with fail
        go_ret
        exact ⟨by rw [(Hres ()).out]; rfl, by first | exact HB1.out | (rw [← hX]; exact HB1.out)⟩
    rcases ha with rfl | rfl
    · go_enter Try.func39, Try.ntmps39
      go_wp2_with fail
      go_loopw [4, 27] (fun _ iv wr => RgtIn b0 b1 w1 iv wr) (fun _ iv _ => 2 - (intOf iv).toNat)
      case atStart => exact ⟨0, by decide, rfl, by omega, by omega, rfl⟩
      case round =>
        obtain ⟨k, hk, rfl, hb0, hb1, rfl⟩ := hrel
        rcases (show k = 0 ∨ k = 1 ∨ k = 2 by omega) with rfl | rfl | rfl
        · by_cases g0 : b0 < 0
          · have Hres := fun (_ : Unit) => Lib.hid (right_no (m := ⟨sq, b0, b1, 0, tr⟩) (fun h => by have := h.p.1; dsimp only at this; omega))
            go_wp2_with fail
            go_ret
            exact ⟨by rw [(Hres ()).out]; rfl, by first | exact HB1.out | (rw [← hX]; exact HB1.out)⟩
          · by_cases g1 : 3 < b0
            · have Hres := fun (_ : Unit) => Lib.hid (right_no (m := ⟨sq, b0, b1, 0, tr⟩) (fun h => by have := h.p.2; dsimp only at this; omega))
              go_wp2_with fail
              go_ret
              exact ⟨by rw [(Hres ()).out]; rfl, by first | exact HB1.out | (rw [← hX]; exact HB1.out)⟩
            · go_wp2_with fail
              first
              | (go_roundw
                 case rel => exact ⟨1, by decide, rfl, by omega, by omega, rfl⟩
                 case measure => (first | omega | (simp [intOf] <;> omega) | (simp only [intOf] <;> omega)))
              | exact ⟨⟨1, by decide, rfl, by omega, by omega, rfl⟩, by (first | omega | (simp [intOf] <;> omega) | (simp only [intOf] <;> omega))⟩
              | (refine ⟨?_, by (first | omega | (simp [intOf] <;> omega) | (simp only [intOf] <;> omega))⟩
                 (repeat apply Exists.intro)
                 refine (fun a b => And.intro b a) ?_ ?_
                 · first | rfl | ((repeat refine ⟨rfl, ?_⟩); rfl)
                 exact ⟨1, by decide, rfl, by omega, by omega, rfl⟩)
        · by_cases g0 : b1 < 0
          · have Hres := fun (_ : Unit) => Lib.hid (right_no (m := ⟨sq, b0, b1, 0, tr⟩) (fun h => by have := h.q.1; dsimp only at this; omega))
            go_wp2_with fail
            go_ret
            exact ⟨by rw [(Hres ()).out]; rfl, by first | exact HB1.out | (rw [← hX]; exact HB1.out)⟩
          · by_cases g1 : 3 < b1
            · have Hres := fun (_ : Unit) => Lib.hid (right_no (m := ⟨sq, b0, b1, 0, tr⟩) (fun h => by have := h.q.2; dsimp only at this; omega))
              go_wp2_with fail
              go_ret
              exact ⟨by rw [(Hres ()).out]; rfl, by first | exact HB1.out | (rw [← hX]; exact HB1.out)⟩
            · have hb0' := hb0 (by decide)
              clear hb0 hb1
              go_wp2_with fail
              first
              | (go_roundw
                 case rel => exact ⟨2, by decide, rfl, by omega, by omega, rfl⟩
                 case measure => (first | omega | (simp [intOf] <;> omega) | (simp only [intOf] <;> omega)))
              | exact ⟨⟨2, by decide, rfl, by omega, by omega, rfl⟩, by (first | omega | (simp [intOf] <;> omega) | (simp only [intOf] <;> omega))⟩
              | (refine ⟨?_, by (first | omega | (simp [intOf] <;> omega) | (simp only [intOf] <;> omega))⟩
                 (repeat apply Exists.intro)
                 refine (fun a b => And.intro b a) ?_ ?_
                 · first | rfl | ((repeat refine ⟨rfl, ?_⟩); rfl)
                 exact ⟨2, by decide, rfl, by omega, by omega, rfl⟩)
        · have hb0' := hb0 (by decide)
          have hb1' := hb1 (by decide)
          clear hb0 hb1 hk
          go_upto_region 9 with fail
          go_quiet (fail)
          have HBq := Lib.hid (HB1.out.trans ((⟨nq, rfl⟩ : Drn w1 (w1.drewN nq)).below _))
          have q4 := fun n => (Five.of (HX.out.drn (⟨n, rfl⟩ : Drn w1 (w1.drewN n)))).c4
          dsimp only at q4
          generalize hwq : w1.drewN nq = w2 at *
          have x4 : w2.cell? ⟨X, 4, none⟩ = some (.int .i64 tr) := by rw [← hwq]; exact q4 nq
          clear q4 hwq k0 k1 k2 k3 k4
          by_cases g2 : b1 = 2
          · have Hres := fun (_ : Unit) => Lib.hid (right_no (m := ⟨sq, b0, b1, 0, tr⟩) (fun h => by have := h.o; dsimp only [Me.bank] at this; simp at this; exact this g2))
            go_wp2_with fail
            go_ret
            exact ⟨by rw [(Hres ()).out]; rfl, by first | exact HBq.out | (rw [← hX]; exact HBq.out)⟩
          have g2' : (b1 != 2) = true := bne_iff_ne.2 g2
          by_cases g3 : b0 = 1
          · have Hres := fun (_ : Unit) => Lib.hid (right_no (m := ⟨sq, b0, b1, 0, tr⟩) (fun h => by have := h.n; dsimp only [Me.bank] at this; simp at this; exact this g3))
            go_wp2_with fail
            go_ret
            exact ⟨by rw [(Hres ()).out]; rfl, by first | exact HBq.out | (rw [← hX]; exact HBq.out)⟩
          have g3' : (b0 != 1) = true := bne_iff_ne.2 g3
          by_cases g4 : b0 = 2
          · have Hres := fun (_ : Unit) => Lib.hid ((right_iff (m := ⟨sq, b0, b1, 0, tr⟩)).2 ⟨by simp, ⟨by omega, by omega⟩, hb0', hb1', by simp [Me.bank]; exact g2, by simp [Me.bank]; exact g3, .inl (by simp [Me.bank]; exact g4)⟩)
            go_wp2_with fail
            go_ret
            exact ⟨by rw [(Hres ()).out]; rfl, by first | exact HBq.out | (rw [← hX]; exact HBq.out)⟩
          by_cases g5 : tr = 0
          · have Hres := fun (_ : Unit) => Lib.hid ((right_iff (m := ⟨sq, b0, b1, 0, tr⟩)).2 ⟨by simp, ⟨by omega, by omega⟩, hb0', hb1', by simp [Me.bank]; exact g2, by simp [Me.bank]; exact g3, .inr g5⟩)
            go_wp2_with fail
            go_ret
            exact ⟨by rw [(Hres ()).out]; rfl, by first | exact HBq.out | (rw [← hX]; exact HBq.out)⟩
          · have Hres := fun (_ : Unit) => Lib.hid (right_no (m := ⟨sq, b0, b1, 0, tr⟩) (fun h => by have := h.k; dsimp only [Me.bank] at this; simp at this; exact this.elim g4 g5))
            have g4' : (b0 == 2) = false := beq_eq_false_iff_ne.2 g4
            have g5' : (tr == 0) = false := beq_eq_false_iff_ne.2 g5
            go_wp2_with fail
            go_ret
            exact ⟨by rw [(Hres ()).out]; rfl, by first | exact HBq.out | (rw [← hX]; exact HBq.out)⟩
    · go_enter Try.func39, Try.ntmps39
      go_wp2_with fail
      go_loopw [4, 27] (fun _ iv wr => RgtIn b0 b1 w1 iv wr) (fun _ iv _ => 2 - (intOf iv).toNat)
      case atStart => exact ⟨0, by decide, rfl, by omega, by omega, rfl⟩
      case round =>
        obtain ⟨k, hk, rfl, hb0, hb1, rfl⟩ := hrel
        rcases (show k = 0 ∨ k = 1 ∨ k = 2 by omega) with rfl | rfl | rfl
        · by_cases g0 : b0 < 0
          · have Hres := fun (_ : Unit) => Lib.hid (right_no (m := ⟨sq, b0, b1, 1, tr⟩) (fun h => by have := h.p.1; dsimp only at this; omega))
            go_wp2_with fail
            go_ret
            exact ⟨by rw [(Hres ()).out]; rfl, by first | exact HB1.out | (rw [← hX]; exact HB1.out)⟩
          · by_cases g1 : 3 < b0
            · have Hres := fun (_ : Unit) => Lib.hid (right_no (m := ⟨sq, b0, b1, 1, tr⟩) (fun h => by have := h.p.2; dsimp only at this; omega))
              go_wp2_with fail
              go_ret
              exact ⟨by rw [(Hres ()).out]; rfl, by first | exact HB1.out | (rw [← hX]; exact HB1.out)⟩
            · go_wp2_with fail
              first
              | (go_roundw
                 case rel => exact ⟨1, by decide, rfl, by omega, by omega, rfl⟩
                 case measure => (first | omega | (simp [intOf] <;> omega) | (simp only [intOf] <;> omega)))
              | exact ⟨⟨1, by decide, rfl, by omega, by omega, rfl⟩, by (first | omega | (simp [intOf] <;> omega) | (simp only [intOf] <;> omega))⟩
              | (refine ⟨?_, by (first | omega | (simp [intOf] <;> omega) | (simp only [intOf] <;> omega))⟩
                 (repeat apply Exists.intro)
                 refine (fun a b => And.intro b a) ?_ ?_
                 · first | rfl | ((repeat refine ⟨rfl, ?_⟩); rfl)
                 exact ⟨1, by decide, rfl, by omega, by omega, rfl⟩)
        · by_cases g0 : b1 < 0
          · have Hres := fun (_ : Unit) => Lib.hid (right_no (m := ⟨sq, b0, b1, 1, tr⟩) (fun h => by have := h.q.1; dsimp only at this; omega))
            go_wp2_with fail
            go_ret
            exact ⟨by rw [(Hres ()).out]; rfl, by first | exact HB1.out | (rw [← hX]; exact HB1.out)⟩
          · by_cases g1 : 3 < b1
            · have Hres := fun (_ : Unit) => Lib.hid (right_no (m := ⟨sq, b0, b1, 1, tr⟩) (fun h => by have := h.q.2; dsimp only at this; omega))
              go_wp2_with fail
              go_ret
              exact ⟨by rw [(Hres ()).out]; rfl, by first | exact HB1.out | (rw [← hX]; exact HB1.out)⟩
            · have hb0' := hb0 (by decide)
              clear hb0 hb1
              go_wp2_with fail
              first
              | (go_roundw
                 case rel => exact ⟨2, by decide, rfl, by omega, by omega, rfl⟩
                 case measure => (first | omega | (simp [intOf] <;> omega) | (simp only [intOf] <;> omega)))
              | exact ⟨⟨2, by decide, rfl, by omega, by omega, rfl⟩, by (first | omega | (simp [intOf] <;> omega) | (simp only [intOf] <;> omega))⟩
              | (refine ⟨?_, by (first | omega | (simp [intOf] <;> omega) | (simp only [intOf] <;> omega))⟩
                 (repeat apply Exists.intro)
                 refine (fun a b => And.intro b a) ?_ ?_
                 · first | rfl | ((repeat refine ⟨rfl, ?_⟩); rfl)
                 exact ⟨2, by decide, rfl, by omega, by omega, rfl⟩)
        · have hb0' := hb0 (by decide)
          have hb1' := hb1 (by decide)
          clear hb0 hb1 hk
          go_upto_region 9 with fail
          go_quiet (fail)
          have HBq := Lib.hid (HB1.out.trans ((⟨nq, rfl⟩ : Drn w1 (w1.drewN nq)).below _))
          have q4 := fun n => (Five.of (HX.out.drn (⟨n, rfl⟩ : Drn w1 (w1.drewN n)))).c4
          dsimp only at q4
          generalize hwq : w1.drewN nq = w2 at *
          have x4 : w2.cell? ⟨X, 4, none⟩ = some (.int .i64 tr) := by rw [← hwq]; exact q4 nq
          clear q4 hwq k0 k1 k2 k3 k4
          by_cases g2 : b0 = 2
          · have Hres := fun (_ : Unit) => Lib.hid (right_no (m := ⟨sq, b0, b1, 1, tr⟩) (fun h => by have := h.o; dsimp only [Me.bank] at this; simp at this; exact this g2))
            go_wp2_with fail
            go_ret
            exact ⟨by rw [(Hres ()).out]; rfl, by first | exact HBq.out | (rw [← hX]; exact HBq.out)⟩
          have g2' : (b0 != 2) = true := bne_iff_ne.2 g2
          by_cases g3 : b1 = 1
          · have Hres := fun (_ : Unit) => Lib.hid (right_no (m := ⟨sq, b0, b1, 1, tr⟩) (fun h => by have := h.n; dsimp only [Me.bank] at this; simp at this; exact this g3))
            go_wp2_with fail
            go_ret
            exact ⟨by rw [(Hres ()).out]; rfl, by first | exact HBq.out | (rw [← hX]; exact HBq.out)⟩
          have g3' : (b1 != 1) = true := bne_iff_ne.2 g3
          by_cases g4 : b1 = 2
          · have Hres := fun (_ : Unit) => Lib.hid ((right_iff (m := ⟨sq, b0, b1, 1, tr⟩)).2 ⟨by simp, ⟨by omega, by omega⟩, hb0', hb1', by simp [Me.bank]; exact g2, by simp [Me.bank]; exact g3, .inl (by simp [Me.bank]; exact g4)⟩)
            go_wp2_with fail
            go_ret
            exact ⟨by rw [(Hres ()).out]; rfl, by first | exact HBq.out | (rw [← hX]; exact HBq.out)⟩
          by_cases g5 : tr = 0
          · have Hres := fun (_ : Unit) => Lib.hid ((right_iff (m := ⟨sq, b0, b1, 1, tr⟩)).2 ⟨by simp, ⟨by omega, by omega⟩, hb0', hb1', by simp [Me.bank]; exact g2, by simp [Me.bank]; exact g3, .inr g5⟩)
            go_wp2_with fail
            go_ret
            exact ⟨by rw [(Hres ()).out]; rfl, by first | exact HBq.out | (rw [← hX]; exact HBq.out)⟩
          · have Hres := fun (_ : Unit) => Lib.hid (right_no (m := ⟨sq, b0, b1, 1, tr⟩) (fun h => by have := h.k; dsimp only [Me.bank] at this; simp at this; exact this.elim g4 g5))
            have g4' : (b1 == 2) = false := beq_eq_false_iff_ne.2 g4
            have g5' : (tr == 0) = false := beq_eq_false_iff_ne.2 g5
            go_wp2_with fail
            go_ret
            exact ⟨by rw [(Hres ()).out]; rfl, by first | exact HBq.out | (rw [← hX]; exact HBq.out)⟩
  · have Hres := fun (_ : Unit) => Lib.hid (right_no (m := ⟨sq, b0, b1, act, tr⟩) (fun h => ha h.a))
    have g0 : ¬ act = 0 := fun e => ha (.inl e)
    have g1 : ¬ act = 1 := fun e => ha (.inr e)
    clear ha
    go_enter Try.func39, Try.ntmps39
    go_wp2_with fail
    go_ret
    exact ⟨by rw [(Hres ()).out]; rfl, by first | exact HB1.out | (rw [← hX]; exact HB1.out)⟩
end Go.Proofs.Ytnmeidmiijcniaa
