/- No updater: the nil forms. No condition. -/
import Derived.Test.YtnmeidmiijcniaaFwH
import Derived.Test.YtnmeidmiijcniaaFwO
set_option linter.unusedVariables false
set_option linter.unusedSimpArgs false
namespace Go.Proofs.Ytnmeidmiijcniaa
open Go.RowKit
attribute [local go_sem ↓] build_m
def me0 : Value := .agg #[.int .u32 0, .int .i64 0, .int .i64 0, .int .i64 0, .int .i64 0]
set_option maxHeartbeats 1000000 in
set_option maxRecDepth 100000 in
theorem current_nil (w : World) :
    Calls Try.prog 50 #[.pointer none] w fun e w' => e = .returned (.tuple #[.agg #[.int .u32 0, .int .i64 0, .int .i64 0, .int .i64 0, .int .i64 0], .int .i64 0, .int .i64 1]) ∧ Below w.heap.size w w' := by
  have hz := run_buildM0
  have HY := Lib.hid (HB.new w mec0 26)
  have HB1 := Lib.hid ((Below.refl w.heap.size w).alloc (Nat.le_refl _) (.cells mec0.toArray 26))
  obtain ⟨w1, hw1⟩ : ∃ w1, w.alloc (.cells mec0.toArray 26) = w1 := ⟨_, rfl⟩
  rw [hw1] at HY HB1
  obtain ⟨Y, hY⟩ : ∃ Y, w.heap.size = Y := ⟨_, rfl⟩
  rw [hY] at HY HB1 ⊢
  unfold mec0 at hw1
  have y0 := HY.out.cell (i := 0) rfl
  have y1 := HY.out.cell (i := 1) rfl
  have y2 := HY.out.cell (i := 2) rfl
  have y3 := HY.out.cell (i := 3) rfl
  have y4 := HY.out.cell (i := 4) rfl
  have yf := HY.out.frozen
  have Hs := fun (_ : Unit) => Lib.hid (meSet_hb HY.out rfl (⟨0, 0, 0, 0, 0⟩ : Me))
  have Hg := fun (_ : Unit) => Lib.hid (HB1.out.grown (meSet_grown w1 Y (⟨0, 0, 0, 0, 0⟩ : Me)) (by have := HY.out.lt; omega) (by intro k hk; cases hk; exact Nat.le_refl _))
  go_enter Try.func50, Try.ntmps50
  go_wp2_with fail
  clear y0 y1 y2 y3 y4 yf hw1
  unfold meSet at Hs Hg
  dsimp only at Hs Hg
  rw [show ((0 : Nat) : Int) = 0 from rfl] at Hs Hg
  generalize World.setCell _ _ _ = w9 at *
  have k0 := (Hs ()).out.cell (i := 0) rfl
  have k1 := (Hs ()).out.cell (i := 1) rfl
  have k2 := (Hs ()).out.cell (i := 2) rfl
  have k3 := (Hs ()).out.cell (i := 3) rfl
  have k4 := (Hs ()).out.cell (i := 4) rfl
  exact bodyPost_ret (v := .tuple #[.agg #[.int .u32 0, .int .i64 0, .int .i64 0, .int .i64 0, .int .i64 0], .int .i64 0, .int .i64 1]) (by simp [results, Try.results50, go_sem, k0, k1, k2, k3, k4]; try rfl) rfl ⟨rfl, (Hg ()).out⟩
theorem open_nil (a b0 b1 : Int) (n : Int) (w : World) :
    Calls Try.prog 16 #[.pointer none, .int .i64 a, .agg #[.int .i64 b0, .int .i64 b1], .int .i64 n] w fun e w' => e = .returned (.tuple #[.pointer none, .int .i64 1]) ∧ Below w.heap.size w w' := by
  go_enter Try.func16, Try.ntmps16
  go_wp2_with fail
  exact bodyPost_ret (v := .tuple #[.pointer none, .int .i64 1]) (by simp [results, Try.results16, go_sem]; try rfl) rfl ⟨rfl, (Below.refl _ _).alloc (Nat.le_refl _) _⟩
theorem format_nil (w : World) :
    Calls Try.prog 19 #[.pointer none, .int .i64 0] w fun e w' => e = .returned (.int .i64 1) ∧ w = w' := by
  go_enter Try.func19, Try.ntmps19
  go_wp2_with fail
  go_ret
  exact ⟨rfl, rfl⟩
theorem change_nil (fid : FuncId) (w : World) :
    Calls Try.prog 51 #[.pointer none, .func (.func fid) #[] #[]] w fun e w' => e = .returned (.tuple #[.int .i64 0, .int .i64 1]) ∧ Below w.heap.size w w' := by
  go_enter Try.func51, Try.ntmps51
  go_wp2_with fail
  refine (current_nil _).mono ?_
  rintro e w1 ⟨rfl, hb1⟩
  have hb2 := hb1.trans (((Below.refl w1.heap.size w1).alloc (Nat.le_refl _) (.cells mec0.toArray 26)).mono hb1.size)
  have HX := HB.new w1 mec0 26
  obtain ⟨w2, hw2⟩ : ∃ w2, w1.alloc (.cells mec0.toArray 26) = w2 := ⟨_, rfl⟩
  rw [hw2] at hb2 HX
  unfold mec0 at hw2
  obtain ⟨X, hX⟩ : ∃ X, w1.heap.size = X := ⟨_, rfl⟩
  rw [hX] at HX
  have HX2 := Lib.hid HX
  have HB2 := Lib.hid hb2
  have hle : w.heap.size ≤ X := by rw [← hX]; exact hb1.size
  have Hg := fun (_ : Unit) => Lib.hid (HB2.out.grown (meSet_grown w2 X (⟨0, 0, 0, 0, 0⟩ : Me)) HB2.out.size (by intro k hk; cases hk; exact hle))
  have x0 := HX2.out.cell (i := 0) rfl
  have x1 := HX2.out.cell (i := 1) rfl
  have x2 := HX2.out.cell (i := 2) rfl
  have x3 := HX2.out.cell (i := 3) rfl
  have x4 := HX2.out.cell (i := 4) rfl
  have xf := HX2.out.frozen
  clear hb1 hb2 HX hle
  go_wp2_with fail
  clear x0 x1 x2 x3 x4 xf
  unfold meSet at Hg
  dsimp only at Hg
  rw [show ((0 : Nat) : Int) = 0 from rfl] at Hg
  exact bodyPost_ret (v := .tuple #[.int .i64 0, .int .i64 1]) (by simp [results, Try.results51, go_sem]; try rfl) rfl ⟨rfl, (Hg ()).out⟩
theorem write_nil23 (ao : Option Addr) (n cap : Nat) (w : World) :
    Calls Try.prog 21 #[.pointer none, .int .i64 0, .slice ao n cap] w fun e w' => e = .returned (.int .i64 1) ∧ Below w.heap.size w w' := by
  go_enter Try.func21, Try.ntmps21
  go_wp2_with fail
  refine (current_nil _).mono ?_
  rintro e w1 ⟨rfl, hb1⟩
  have hb2 := hb1.trans (((Below.refl w1.heap.size w1).alloc (Nat.le_refl _) (.cells mec0.toArray 26)).mono hb1.size)
  have HX := HB.new w1 mec0 26
  obtain ⟨w2, hw2⟩ : ∃ w2, w1.alloc (.cells mec0.toArray 26) = w2 := ⟨_, rfl⟩
  rw [hw2] at hb2 HX
  unfold mec0 at hw2
  obtain ⟨X, hX⟩ : ∃ X, w1.heap.size = X := ⟨_, rfl⟩
  rw [hX] at HX
  have HX2 := Lib.hid HX
  have HB2 := Lib.hid hb2
  have hle : w.heap.size ≤ X := by rw [← hX]; exact hb1.size
  have Hg := fun (_ : Unit) => Lib.hid (HB2.out.grown (meSet_grown w2 X (⟨0, 0, 0, 0, 0⟩ : Me)) HB2.out.size (by intro k hk; cases hk; exact hle))
  have x0 := HX2.out.cell (i := 0) rfl
  have x1 := HX2.out.cell (i := 1) rfl
  have x2 := HX2.out.cell (i := 2) rfl
  have x3 := HX2.out.cell (i := 3) rfl
  have x4 := HX2.out.cell (i := 4) rfl
  have xf := HX2.out.frozen
  clear hb1 hb2 HX hle
  go_wp2_with fail
  clear x0 x1 x2 x3 x4 xf
  unfold meSet at Hg
  dsimp only at Hg
  rw [show ((0 : Nat) : Int) = 0 from rfl] at Hg
  go_ret
  exact ⟨rfl, (Hg ()).out⟩
theorem begin_nil (w : World) :
    Calls Try.prog 20 #[.pointer none] w fun e w' => e = .returned (.int .i64 1) ∧ Below w.heap.size w w' := by
  go_enter Try.func20, Try.ntmps20
  go_wp2_with fail
  refine (change_nil _ _).mono ?_
  rintro e w1 ⟨rfl, hb1⟩
  go_wp2_with fail
  go_ret
  exact ⟨rfl, hb1⟩
theorem finish_nil (w : World) :
    Calls Try.prog 22 #[.pointer none] w fun e w' => e = .returned (.int .i64 1) ∧ Below w.heap.size w w' := by
  go_enter Try.func22, Try.ntmps22
  go_wp2_with fail
  refine (change_nil _ _).mono ?_
  rintro e w1 ⟨rfl, hb1⟩
  go_wp2_with fail
  go_ret
  exact ⟨rfl, hb1⟩
theorem accept_nil (w : World) :
    Calls Try.prog 23 #[.pointer none] w fun e w' => e = .returned (.int .i64 1) ∧ Below w.heap.size w w' := by
  go_enter Try.func23, Try.ntmps23
  go_wp2_with fail
  refine (change_nil _ _).mono ?_
  rintro e w1 ⟨rfl, hb1⟩
  go_wp2_with fail
  go_ret
  exact ⟨rfl, hb1⟩
theorem cancel_nil (w : World) :
    Calls Try.prog 24 #[.pointer none] w fun e w' => e = .returned (.int .i64 1) ∧ Below w.heap.size w w' := by
  go_enter Try.func24, Try.ntmps24
  go_wp2_with fail
  refine (change_nil _ _).mono ?_
  rintro e w1 ⟨rfl, hb1⟩
  go_wp2_with fail
  go_ret
  exact ⟨rfl, hb1⟩
theorem choose_nil (w : World) :
    Calls Try.prog 18 #[.pointer none] w fun e w' => e = .returned (.tuple #[.int .i64 0, .int .i64 1]) ∧ Below w.heap.size w w' := by
  go_enter Try.func18, Try.ntmps18
  go_wp2_with fail
  refine (change_nil _ _).mono ?_
  rintro e w1 ⟨rfl, hb1⟩
  go_wp2_with fail
  exact bodyPost_ret (v := .tuple #[.int .i64 0, .int .i64 1]) (by simp [results, Try.results18, go_sem]; try rfl) rfl ⟨rfl, hb1⟩
set_option maxHeartbeats 1000000 in
theorem load_gen (sq : Nat) (b0 b1 a t k e : Int) (hc : ∀ w, Calls Try.prog 50 #[.pointer none] w fun x w' => x = .returned (.tuple #[.agg #[.int .u32 sq, .int .i64 b0, .int .i64 b1, .int .i64 a, .int .i64 t], .int .i64 k, .int .i64 e]) ∧ Below w.heap.size w w') (w : World) :
    Calls Try.prog 17 #[.pointer none] w fun x w' => x = .returned (loadV (⟨sq, b0, b1, a, t⟩, k, e)) ∧ Below w.heap.size w w' := by
  have HY := Lib.hid (HB.new w mec0 26)
  have HB1 := Lib.hid ((Below.refl w.heap.size w).alloc (Nat.le_refl _) (.cells mec0.toArray 26))
  obtain ⟨w1, hw1⟩ : ∃ w1, w.alloc (.cells mec0.toArray 26) = w1 := ⟨_, rfl⟩
  rw [hw1] at HY HB1
  have Hc := Lib.hid (hc w1)
  obtain ⟨Y, hY⟩ : ∃ Y, w.heap.size = Y := ⟨_, rfl⟩
  rw [hY] at HY HB1 ⊢
  unfold mec0 at hw1
  clear hc
  go_enter Try.func17, Try.ntmps17
  go_wp2_with fail
  refine Hc.out.mono ?_
  rintro e w2 ⟨rfl, hb2⟩
  have HX := HB.new w2 (mec ⟨sq, b0, b1, a, t⟩) 26
  have hb3 := hb2.trans (((Below.refl w2.heap.size w2).alloc (Nat.le_refl _) (.cells (mec ⟨sq, b0, b1, a, t⟩).toArray 26)).mono hb2.size)
  obtain ⟨w3, hw3⟩ : ∃ w3, w2.alloc (.cells (mec ⟨sq, b0, b1, a, t⟩).toArray 26) = w3 := ⟨_, rfl⟩
  rw [hw3] at HX hb3
  obtain ⟨X, hX⟩ : ∃ X, w2.heap.size = X := ⟨_, rfl⟩
  rw [hX] at HX
  unfold mec at hw3
  dsimp only at hw3
  obtain ⟨x0, x1, x2, x3, x4⟩ := Five.of HX
  dsimp only at x0 x1 x2 x3 x4
  have HYz := Lib.hid (HY.out.later hb3)
  have HBz := Lib.hid (HB1.out.trans (hb3.mono (Nat.le_of_lt HY.out.lt)))
  clear Hc hb2 hb3 HX HY HB1 hw1
  have Hs := fun (_ : Unit) => Lib.hid (meSet_hb HYz.out rfl (⟨sq, b0, b1, a, t⟩ : Me))
  have Hg := fun (_ : Unit) => Lib.hid (HBz.out.grown (meSet_grown w3 Y (⟨sq, b0, b1, a, t⟩ : Me)) (by have := HYz.out.lt; omega) (by intro k hk; cases hk; exact Nat.le_refl _))
  have y0 := HYz.out.cell (i := 0) rfl
  have y1 := HYz.out.cell (i := 1) rfl
  have y2 := HYz.out.cell (i := 2) rfl
  have y3 := HYz.out.cell (i := 3) rfl
  have y4 := HYz.out.cell (i := 4) rfl
  have yf := HYz.out.frozen
  go_wp2_with fail
  clear y0 y1 y2 y3 y4 yf x0 x1 x2 x3 x4
  unfold meSet at Hs Hg
  generalize World.setCell _ _ _ = w9 at *
  have k0 := (Hs ()).out.cell (i := 0) rfl
  have k1 := (Hs ()).out.cell (i := 1) rfl
  have k2 := (Hs ()).out.cell (i := 2) rfl
  have k3 := (Hs ()).out.cell (i := 3) rfl
  have k4 := (Hs ()).out.cell (i := 4) rfl
  exact bodyPost_ret (v := loadV (⟨sq, b0, b1, a, t⟩, k, e)) (by simp [results, Try.results17, go_sem, k0, k1, k2, k3, k4]; try rfl) rfl ⟨rfl, (Hg ()).out⟩
theorem load_nil (w : World) :
    Calls Try.prog 17 #[.pointer none] w fun e w' => e = .returned (.tuple #[.agg #[.int .u32 0, .int .i64 0, .int .i64 0, .int .i64 0, .int .i64 0], .int .i64 1]) ∧ Below w.heap.size w w' :=
  load_gen 0 0 0 0 0 0 1 current_nil w
end Go.Proofs.Ytnmeidmiijcniaa
