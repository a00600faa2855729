/- The document's answer whether metadata are right. No condition. -/
import Derived.Test.YtnmeidmiijcniaaFwM
set_option linter.unusedVariables false
set_option linter.unusedSimpArgs false
namespace Go.Proofs.Ytnmeidmiijcniaa
open Go.RowKit
set_option maxRecDepth 100000 in
set_option maxHeartbeats 2000000 in
theorem rright_any (m : Me) (w : World) :
    Calls Try.prog 44 #[mev m] w fun e w' => e = .returned (.bool (rightM m)) ∧ Below w.heap.size w w' := by
  have HX := Lib.hid (HB.new w (mec m) 26)
  have HB1 := Lib.hid ((Below.refl w.heap.size w).alloc (Nat.le_refl _) (.cells (mec m).toArray 26))
  obtain ⟨X, hX⟩ : ∃ X, w.heap.size = X := ⟨_, rfl⟩
  obtain ⟨sq, b0, b1, act, tr⟩ := m
  obtain ⟨w1, hw1⟩ : ∃ w1, w.alloc (.cells (mec ⟨sq, b0, b1, act, tr⟩).toArray 26) = w1 := ⟨_, rfl⟩
  rw [hX] at HX
  rw [hw1] at HX HB1
  unfold mec at hw1
  unfold mev
  dsimp only at *
  obtain ⟨k0, k1, k2, k3, k4⟩ := Five.of HX.out
  dsimp only at k0 k1 k2 k3 k4
  obtain ⟨R, hR⟩ : ∃ R, rightM ⟨sq, b0, b1, act, tr⟩ = R := ⟨_, rfl⟩
  have HR := fun (_ : Unit) => Lib.hid hR
  rw [hR]
  clear hR
  go_enter Try.func44, Try.ntmps44
  go_wp2_with fail
  go_loopw [3] (fun iv wr => RgtIn b0 b1 w1 iv wr) (fun iv _ => 2 - (intOf iv).toNat)
  case atStart => exact ⟨0, by decide, rfl, by omega, by omega, rfl⟩
  case round =>
    obtain ⟨k, hk, rfl, hb0, hb1, rfl⟩ := hrel
    rcases (show k = 0 ∨ k = 1 ∨ k = 2 by omega) with rfl | rfl | rfl
    · by_cases g0 : b0 < 0
      · have Hres := fun (_ : Unit) => Lib.hid (right_no (m := ⟨sq, b0, b1, act, tr⟩) (fun h => by have := h.p.1; dsimp only at this; omega))
        go_wp2_with fail
        go_ret
        exact ⟨by rw [← (HR ()).out, (Hres ()).out]; rfl, by first | exact HB1.out | (rw [← hX]; exact HB1.out)⟩
      · by_cases g1 : 3 < b0
        · have Hres := fun (_ : Unit) => Lib.hid (right_no (m := ⟨sq, b0, b1, act, tr⟩) (fun h => by have := h.p.2; dsimp only at this; omega))
          go_wp2_with fail
          go_ret
          exact ⟨by rw [← (HR ()).out, (Hres ()).out]; rfl, by first | exact HB1.out | (rw [← hX]; exact HB1.out)⟩
        · go_wp2_with fail
          first
          | (go_roundw
             case rel => exact ⟨1, by decide, rfl, by omega, by omega, rfl⟩
             case measure => (first | omega | (simp [intOf] <;> omega) | (simp only [intOf] <;> omega)))
          | exact ⟨⟨1, by decide, rfl, by omega, by omega, rfl⟩, by (first | omega | (simp [intOf] <;> omega) | (simp only [intOf] <;> omega))⟩
          | (refine ⟨?_, by (first | omega | (simp [intOf] <;> omega) | (simp only [intOf] <;> omega))⟩
             (repeat apply Exists.intro)
             refine (fun a b => And.intro b a) ?_ ?_
             · first | rfl | ((repeat refine ⟨rfl, ?_⟩); rfl)
             exact ⟨1, by decide, rfl, by omega, by omega, rfl⟩)
    · by_cases g0 : b1 < 0
      · have Hres := fun (_ : Unit) => Lib.hid (right_no (m := ⟨sq, b0, b1, act, tr⟩) (fun h => by have := h.q.1; dsimp only at this; omega))
        go_wp2_with fail
        go_ret
        exact ⟨by rw [← (HR ()).out, (Hres ()).out]; rfl, by first | exact HB1.out | (rw [← hX]; exact HB1.out)⟩
      · by_cases g1 : 3 < b1
        · have Hres := fun (_ : Unit) => Lib.hid (right_no (m := ⟨sq, b0, b1, act, tr⟩) (fun h => by have := h.q.2; dsimp only at this; omega))
          go_wp2_with fail
          go_ret
          exact ⟨by rw [← (HR ()).out, (Hres ()).out]; rfl, by first | exact HB1.out | (rw [← hX]; exact HB1.out)⟩
        · have hb0' := hb0 (by decide)
          clear hb0 hb1
          go_wp2_with fail
          first
          | (go_roundw
             case rel => exact ⟨2, by decide, rfl, by omega, by omega, rfl⟩
             case measure => (first | omega | (simp [intOf] <;> omega) | (simp only [intOf] <;> omega)))
          | exact ⟨⟨2, by decide, rfl, by omega, by omega, rfl⟩, by (first | omega | (simp [intOf] <;> omega) | (simp only [intOf] <;> omega))⟩
          | (refine ⟨?_, by (first | omega | (simp [intOf] <;> omega) | (simp only [intOf] <;> omega))⟩
             (repeat apply Exists.intro)
             refine (fun a b => And.intro b a) ?_ ?_
             · first | rfl | ((repeat refine ⟨rfl, ?_⟩); rfl)
             exact ⟨2, by decide, rfl, by omega, by omega, rfl⟩)
    · have hb0' := hb0 (by decide)
      have hb1' := hb1 (by decide)
      clear hb0 hb1 hk
      by_cases ha0 : act = 0
      · subst ha0
        by_cases h0 : tr < 0
        · have Hres := fun (_ : Unit) => Lib.hid (right_no (m := ⟨sq, b0, b1, 0, tr⟩) (fun h => by have := h.t.1; dsimp only at this; omega))
          go_wp2_with fail
          go_ret
          exact ⟨by rw [← (HR ()).out, (Hres ()).out]; rfl, by first | exact HB1.out | (rw [← hX]; exact HB1.out)⟩
        by_cases h3 : 3 < tr
        · have Hres := fun (_ : Unit) => Lib.hid (right_no (m := ⟨sq, b0, b1, 0, tr⟩) (fun h => by have := h.t.2; dsimp only at this; omega))
          go_wp2_with fail
          go_ret
          exact ⟨by rw [← (HR ()).out, (Hres ()).out]; rfl, by first | exact HB1.out | (rw [← hX]; exact HB1.out)⟩
        by_cases g2 : b1 = 2
        · have Hres := fun (_ : Unit) => Lib.hid (right_no (m := ⟨sq, b0, b1, 0, tr⟩) (fun h => by have := h.o; dsimp only [Me.bank] at this; simp at this; exact this g2))
          go_wp2_with fail
          go_ret
          exact ⟨by rw [← (HR ()).out, (Hres ()).out]; rfl, by first | exact HB1.out | (rw [← hX]; exact HB1.out)⟩
        have g2' : (b1 != 2) = true := bne_iff_ne.2 g2
        by_cases g3 : b0 = 1
        · have Hres := fun (_ : Unit) => Lib.hid (right_no (m := ⟨sq, b0, b1, 0, tr⟩) (fun h => by have := h.n; dsimp only [Me.bank] at this; simp at this; exact this g3))
          go_wp2_with fail
          go_ret
          exact ⟨by rw [← (HR ()).out, (Hres ()).out]; rfl, by first | exact HB1.out | (rw [← hX]; exact HB1.out)⟩
        have g3' : (b0 != 1) = true := bne_iff_ne.2 g3
        by_cases g4 : b0 = 2
        · have Hres := fun (_ : Unit) => Lib.hid ((right_iff (m := ⟨sq, b0, b1, 0, tr⟩)).2 ⟨by simp, ⟨show (0 : Int) ≤ tr by omega, show tr ≤ 3 by omega⟩, hb0', hb1', by simp [Me.bank]; exact g2, by simp [Me.bank]; exact g3, .inl (by simp [Me.bank]; exact g4)⟩)
          go_wp2_with fail
          go_ret
          exact ⟨by rw [← (HR ()).out, (Hres ()).out]; rfl, by first | exact HB1.out | (rw [← hX]; exact HB1.out)⟩
        by_cases g5 : tr = 0
        · have Hres := fun (_ : Unit) => Lib.hid ((right_iff (m := ⟨sq, b0, b1, 0, tr⟩)).2 ⟨by simp, ⟨show (0 : Int) ≤ tr by omega, show tr ≤ 3 by omega⟩, hb0', hb1', by simp [Me.bank]; exact g2, by simp [Me.bank]; exact g3, .inr g5⟩)
          go_wp2_with fail
          go_ret
          exact ⟨by rw [← (HR ()).out, (Hres ()).out]; rfl, by first | exact HB1.out | (rw [← hX]; exact HB1.out)⟩
        · have Hres := fun (_ : Unit) => Lib.hid (right_no (m := ⟨sq, b0, b1, 0, tr⟩) (fun h => by have := h.k; dsimp only [Me.bank] at this; simp at this; exact this.elim g4 g5))
          have g4' : (b0 == 2) = false := beq_eq_false_iff_ne.2 g4
          have g5' : (tr == 0) = false := beq_eq_false_iff_ne.2 g5
          go_wp2_with fail
          go_ret
          exact ⟨by rw [← (HR ()).out, (Hres ()).out]; rfl, by first | exact HB1.out | (rw [← hX]; exact HB1.out)⟩
      by_cases ha1 : act = 1
      · subst ha1
        by_cases h0 : tr < 0
        · have Hres := fun (_ : Unit) => Lib.hid (right_no (m := ⟨sq, b0, b1, 1, tr⟩) (fun h => by have := h.t.1; dsimp only at this; omega))
          go_wp2_with fail
          go_ret
          exact ⟨by rw [← (HR ()).out, (Hres ()).out]; rfl, by first | exact HB1.out | (rw [← hX]; exact HB1.out)⟩
        by_cases h3 : 3 < tr
        · have Hres := fun (_ : Unit) => Lib.hid (right_no (m := ⟨sq, b0, b1, 1, tr⟩) (fun h => by have := h.t.2; dsimp only at this; omega))
          go_wp2_with fail
          go_ret
          exact ⟨by rw [← (HR ()).out, (Hres ()).out]; rfl, by first | exact HB1.out | (rw [← hX]; exact HB1.out)⟩
        by_cases g2 : b0 = 2
        · have Hres := fun (_ : Unit) => Lib.hid (right_no (m := ⟨sq, b0, b1, 1, tr⟩) (fun h => by have := h.o; dsimp only [Me.bank] at this; simp at this; exact this g2))
          go_wp2_with fail
          go_ret
          exact ⟨by rw [← (HR ()).out, (Hres ()).out]; rfl, by first | exact HB1.out | (rw [← hX]; exact HB1.out)⟩
        have g2' : (b0 != 2) = true := bne_iff_ne.2 g2
        by_cases g3 : b1 = 1
        · have Hres := fun (_ : Unit) => Lib.hid (right_no (m := ⟨sq, b0, b1, 1, tr⟩) (fun h => by have := h.n; dsimp only [Me.bank] at this; simp at this; exact this g3))
          go_wp2_with fail
          go_ret
          exact ⟨by rw [← (HR ()).out, (Hres ()).out]; rfl, by first | exact HB1.out | (rw [← hX]; exact HB1.out)⟩
        have g3' : (b1 != 1) = true := bne_iff_ne.2 g3
        by_cases g4 : b1 = 2
        · have Hres := fun (_ : Unit) => Lib.hid ((right_iff (m := ⟨sq, b0, b1, 1, tr⟩)).2 ⟨by simp, ⟨show (0 : Int) ≤ tr by omega, show tr ≤ 3 by omega⟩, hb0', hb1', by simp [Me.bank]; exact g2, by simp [Me.bank]; exact g3, .inl (by simp [Me.bank]; exact g4)⟩)
          go_wp2_with fail
          go_ret
          exact ⟨by rw [← (HR ()).out, (Hres ()).out]; rfl, by first | exact HB1.out | (rw [← hX]; exact HB1.out)⟩
        by_cases g5 : tr = 0
        · have Hres := fun (_ : Unit) => Lib.hid ((right_iff (m := ⟨sq, b0, b1, 1, tr⟩)).2 ⟨by simp, ⟨show (0 : Int) ≤ tr by omega, show tr ≤ 3 by omega⟩, hb0', hb1', by simp [Me.bank]; exact g2, by simp [Me.bank]; exact g3, .inr g5⟩)
          go_wp2_with fail
          go_ret
          exact ⟨by rw [← (HR ()).out, (Hres ()).out]; rfl, by first | exact HB1.out | (rw [← hX]; exact HB1.out)⟩
        · have Hres := fun (_ : Unit) => Lib.hid (right_no (m := ⟨sq, b0, b1, 1, tr⟩) (fun h => by have := h.k; dsimp only [Me.bank] at this; simp at this; exact this.elim g4 g5))
          have g4' : (b1 == 2) = false := beq_eq_false_iff_ne.2 g4
          have g5' : (tr == 0) = false := beq_eq_false_iff_ne.2 g5
          go_wp2_with fail
          go_ret
          exact ⟨by rw [← (HR ()).out, (Hres ()).out]; rfl, by first | exact HB1.out | (rw [← hX]; exact HB1.out)⟩
      · have Hres := fun (_ : Unit) => Lib.hid (right_no (m := ⟨sq, b0, b1, act, tr⟩) (fun h => by have := h.a; dsimp only at this; exact this.elim ha0 ha1))
        go_wp2_with fail
        go_ret
        exact ⟨by rw [← (HR ()).out, (Hres ()).out]; rfl, by first | exact HB1.out | (rw [← hX]; exact HB1.out)⟩
end Go.Proofs.Ytnmeidmiijcniaa
