/- The updater's Load; plain laws of its writes. No condition. -/
import Derived.Test.YtnmeidmiijcniaaFwC
set_option linter.unusedVariables false
set_option linter.unusedSimpArgs false
namespace Go.Proofs.Ytnmeidmiijcniaa
open Go.RowKit
theorem put_ok23 {f : Fl} {k : Int} {l : List UInt8} (ho : f.Ok) (hl : l.length = 512) : (writeR f k l).1.Ok ∧ (writeR f k l).1.size = f.size ∧ f.writes ≤ (writeR f k l).1.writes ∧ (writeR f k l).1.writes ≤ f.writes + 1 := by
  obtain ⟨s0, s1, l0, l1, hb⟩ := ho
  have hp : ∀ j l', put f.F k l j = some l' → l'.length = 512 := fun j l' h => by
    unfold put at h
    split at h
    · cases h; exact hl
    · exact hb j l' h
  unfold writeR
  by_cases h1 : f.left = 1
  · by_cases h2 : f.done = true
    · simp [h1, h2]
      exact ⟨⟨s0, s1, by simp, by simp, hp⟩, by omega⟩
    · simp [h1, h2]
      exact ⟨⟨s0, s1, by simp, by simp, hb⟩, by omega⟩
  · simp [h1]
    exact ⟨⟨s0, s1, by simp only; omega, by simp only; omega, hp⟩, by omega⟩
theorem cur_right {f : Fl} {m : Int} {x : Me} {k : Int} (h : curR f m = some (x, k)) : Right x ∧ x.seq < 4294967296 ∧ (k = 0 ∨ k = 1) := by
  unfold curR at h
  have hd : ∀ {b : List UInt8} {y : Me}, decM b = some y → Right y ∧ y.seq < 4294967296 := fun hh => by
    obtain ⟨-, h2, -, -, h5⟩ := dec_some hh
    exact ⟨right_iff.1 h2, h5⟩
  cases h0 : decM (readF f m) with
  | none =>
    cases h1 : decM (readF f (m + 1)) with
    | none => rw [h0, h1] at h; cases h
    | some y =>
      rw [h0, h1] at h
      simp only [cur2, Option.some.injEq, Prod.mk.injEq] at h
      obtain ⟨rfl, rfl⟩ := h
      exact ⟨(hd h1).1, (hd h1).2, .inr rfl⟩
  | some z =>
    cases h1 : decM (readF f (m + 1)) with
    | none =>
      rw [h0, h1] at h
      simp only [cur2, Option.some.injEq, Prod.mk.injEq] at h
      obtain ⟨rfl, rfl⟩ := h
      exact ⟨(hd h0).1, (hd h0).2, .inl rfl⟩
    | some y =>
      rw [h0, h1] at h
      simp only [cur2] at h
      split at h
      · simp only [Option.some.injEq, Prod.mk.injEq] at h
        obtain ⟨rfl, rfl⟩ := h
        exact ⟨(hd h1).1, (hd h1).2, .inr rfl⟩
      · simp only [Option.some.injEq, Prod.mk.injEq] at h
        obtain ⟨rfl, rfl⟩ := h
        exact ⟨(hd h0).1, (hd h0).2, .inl rfl⟩
def loadV (t : Me × Int × Int) : Value := .tuple #[mev t.1, .int .i64 t.2.2]
set_option maxHeartbeats 1000000 in
theorem load_any (u p mb n : Nat) (s : Up) (f : Fl) (w : World) (h : UpA w u p mb n s f) :
    Calls Try.prog 17 #[.pointer (some ⟨u, 0, none⟩)] w fun e w' => e = .returned (loadV (curE f s.meta')) ∧ Below w.heap.size w w' := by
  have HY := Lib.hid (HB.new w mec0 26)
  have HB1 := Lib.hid ((Below.refl w.heap.size w).alloc (Nat.le_refl _) (.cells mec0.toArray 26))
  obtain ⟨w1, hw1⟩ : ∃ w1, w.alloc (.cells mec0.toArray 26) = w1 := ⟨_, rfl⟩
  rw [hw1] at HY HB1
  have Hc := Lib.hid (current_any u p mb n s f w1 (h.later HB1.out))
  obtain ⟨Y, hY⟩ : ∃ Y, w.heap.size = Y := ⟨_, rfl⟩
  rw [hY] at HY HB1 ⊢
  unfold mec0 at hw1
  unfold curV at Hc
  obtain ⟨T, hT⟩ : ∃ T, curE f s.meta' = T := ⟨_, rfl⟩
  rw [hT] at Hc ⊢
  clear hT
  obtain ⟨⟨sq, b0, b1, a, t⟩, k, e⟩ := T
  unfold mev at Hc
  dsimp only at Hc
  clear h
  go_enter Try.func17, Try.ntmps17
  go_wp2_with fail
  refine Hc.out.mono ?_
  rintro e w2 ⟨rfl, hb2⟩
  have HX := HB.new w2 (mec ⟨sq, b0, b1, a, t⟩) 26
  have hb3 := hb2.trans (((Below.refl w2.heap.size w2).alloc (Nat.le_refl _) (.cells (mec ⟨sq, b0, b1, a, t⟩).toArray 26)).mono hb2.size)
  obtain ⟨w3, hw3⟩ : ∃ w3, w2.alloc (.cells (mec ⟨sq, b0, b1, a, t⟩).toArray 26) = w3 := ⟨_, rfl⟩
  rw [hw3] at HX hb3
  obtain ⟨X, hX⟩ : ∃ X, w2.heap.size = X := ⟨_, rfl⟩
  rw [hX] at HX
  unfold mec at hw3
  dsimp only at hw3
  obtain ⟨x0, x1, x2, x3, x4⟩ := Five.of HX
  dsimp only at x0 x1 x2 x3 x4
  have HYz := Lib.hid (HY.out.later hb3)
  have HBz := Lib.hid (HB1.out.trans (hb3.mono (Nat.le_of_lt HY.out.lt)))
  clear Hc hb2 hb3 HX HY HB1 hw1
  have Hs := fun (_ : Unit) => Lib.hid (meSet_hb HYz.out rfl (⟨sq, b0, b1, a, t⟩ : Me))
  have Hg := fun (_ : Unit) => Lib.hid (HBz.out.grown (meSet_grown w3 Y (⟨sq, b0, b1, a, t⟩ : Me)) (by have := HYz.out.lt; omega) (by intro k hk; cases hk; exact Nat.le_refl _))
  have y0 := HYz.out.cell (i := 0) rfl
  have y1 := HYz.out.cell (i := 1) rfl
  have y2 := HYz.out.cell (i := 2) rfl
  have y3 := HYz.out.cell (i := 3) rfl
  have y4 := HYz.out.cell (i := 4) rfl
  have yf := HYz.out.frozen
  go_wp2_with fail
  clear y0 y1 y2 y3 y4 yf x0 x1 x2 x3 x4
  unfold meSet at Hs Hg
  generalize World.setCell _ _ _ = w9 at *
  have k0 := (Hs ()).out.cell (i := 0) rfl
  have k1 := (Hs ()).out.cell (i := 1) rfl
  have k2 := (Hs ()).out.cell (i := 2) rfl
  have k3 := (Hs ()).out.cell (i := 3) rfl
  have k4 := (Hs ()).out.cell (i := 4) rfl
  exact bodyPost_ret (v := loadV (⟨sq, b0, b1, a, t⟩, k, e)) (by simp [results, Try.results17, go_sem, k0, k1, k2, k3, k4]; try rfl) rfl ⟨rfl, (Hg ()).out⟩
end Go.Proofs.Ytnmeidmiijcniaa
