/- The live question of the update's laws. No condition. -/
import Derived.Test.YtnmeidmiijcniaaFwF
set_option linter.unusedVariables false
set_option linter.unusedSimpArgs false
namespace Go.Proofs.Ytnmeidmiijcniaa
open Go.RowKit
def fr0 : Me := ⟨1, 3, 0, 0, 0⟩
def f6 : Fl := ⟨6, false, 0, false, 0, fun _ => none⟩
def f8 : Fl := ⟨6, false, 0, false, 2, put (put (fun _ => none) 0 (encM fr0)) 1 z512b⟩
def s6 : Up := ⟨0, 2, 4, 2⟩
theorem f6_ok : f6.Ok := ⟨by decide, by decide, by decide, by decide, fun k l h => by cases h⟩
theorem s6_ok : UpOk s6 f6.size := upOk_iff.1 (by decide)
theorem s6_i : UpI s6 := ⟨⟨by decide, by decide⟩, ⟨by decide, by decide⟩, ⟨by decide, by decide⟩, ⟨by decide, by decide⟩⟩
theorem format6 : formatF f6 0 0 = (f8, 0) := by
  unfold formatF
  rw [if_neg (by decide), show f6.off = false from rfl, if_neg (by decide), show fresh 0 = fr0 from rfl]
  unfold f6
  rw [writeR_zero]
  rw [if_neg (fun h => h rfl)]
  dsimp only
  rw [writeR_zero]
  rfl
theorem dec_zero : decM z512b = none := by
  unfold decM
  rw [if_neg]
  rintro ⟨-, -, h⟩
  have h1 := ((enc_iff z512b (List.length_replicate ..)).1 h).1
  exact absurd h1 (by decide)
theorem cur8 : curR f8 0 = some (fr0, 0) := by
  unfold curR
  rw [show readF f8 0 = encM fr0 from by unfold readF f8 put; simp, show readF f8 (0 + 1) = z512b from by unfold readF f8 put; simp, dec_enc (by decide) (by decide), dec_zero]
  rfl
theorem curE8 : curE f8 0 = (fr0, 0, 0) := by unfold curE; rw [cur8]; rfl
theorem choose8 : chgF chooseE f8 0 = (f8, 0, 0) := by unfold chgF; rw [cur8]; rfl
theorem accept8 : chgF acceptE f8 0 = (f8, 0, 232) := by unfold chgF; rw [cur8]; rfl
theorem newR6 : newR 6 [] = (some f6, 0) := rfl
set_option maxRecDepth 100000 in
set_option maxHeartbeats 1000000 in
theorem alive_any (w : World) : Calls Try.prog 14 #[] w fun e w' => e = .returned (.bool true) ∧ Below w.heap.size w w' := by
  have Hnew := fun (_ : Unit) => Lib.hid (new_any 6 none 0 0 [] w rfl (by decide) (fun j g hj => by cases hj) (fun b hb => by cases hb))
  go_enter Try.func14, Try.ntmps14
  go_wp2_with fail
  refine (Hnew ()).out.mono ?_
  rintro e w1 ⟨v, he, hsaid, hb1⟩
  rw [show newR 6 (([] : List Bk).map Bk.p) = (some f6, 0) from rfl] at he hsaid
  subst he
  rcases hsaid with ⟨f, p, mb, hff, rfl, hfa, hp, hmb⟩ | ⟨hno, -⟩
  case inr => cases hno
  obtain rfl : f6 = f := by cases hff; rfl
  have Hf1 := Lib.hid hfa
  have Hb1 := Lib.hid hb1
  have Hpm := Lib.hid (And.intro hp hmb)
  have Hop := fun (_ : Unit) => Lib.hid (open_any p mb 0 f6 s6 w1 hfa f6_ok s6_i)
  clear hff hfa hb1 hp hmb Hnew
  go_wp2_with fail
  refine (Hop ()).out.mono ?_
  rintro e w2 ⟨hor, hb2⟩
  rcases hor with ⟨-, u, rfl, hu, hus⟩ | ⟨hno, -⟩
  case inr => exact absurd hno (by decide)
  have hlt := Hf1.out.h.lt
  have hlt2 := Hf1.out.m.lt
  have HU := fun (_ : Unit) => Lib.hid (show UpA w2 u p mb 0 s6 f6 from ⟨hu, Hf1.out.later hb2, f6_ok, s6_ok, s6_i, by omega, by omega⟩)
  have HW := Lib.hid (show w.heap.size ≤ p ∧ w.heap.size ≤ mb ∧ p < w2.heap.size ∧ mb < w2.heap.size from ⟨Hpm.out.1, Hpm.out.2, Nat.lt_of_lt_of_le hlt hb2.size, Nat.lt_of_lt_of_le hlt2 hb2.size⟩)
  have Hb2 := Lib.hid (Hb1.out.trans (hb2.mono Hb1.out.size))
  have Hfo := fun (_ : Unit) => Lib.hid (format_any 0 u p mb 0 s6 f6 w2 (HU ()).out (by decide) (by decide) (by decide))
  clear hu hus hb2 hlt hlt2 Hop Hf1 Hb1 Hpm
  go_wp2_with fail
  refine (Hfo ()).out.mono ?_
  rintro e w3 ⟨rfl, hu3, hf3⟩
  rw [show s6.meta' = 0 from rfl, format6] at hu3 ⊢
  have HU3 := fun (_ : Unit) => Lib.hid hu3
  have Hb3 := Lib.hid (Hb2.out.trans (hf3.below Hb2.out.size (fun q hq => by have := HW.out; omega)))
  have Hlo := fun (_ : Unit) => Lib.hid (load_any u p mb 2 s6 f8 w3 hu3)
  have HW3 := Lib.hid (show p < w3.heap.size ∧ mb < w3.heap.size from ⟨hu3.lt.2.1, hu3.lt.2.2⟩)
  clear hu3 hf3 Hfo HU Hb2
  dsimp only
  go_wp2_with fail
  refine (Hlo ()).out.mono ?_
  rw [show s6.meta' = 0 from rfl, curE8]
  rintro e w4 ⟨rfl, hb4⟩
  rw [show loadV (fr0, 0, 0) = .tuple #[.agg #[.int .u32 1, .int .i64 3, .int .i64 0, .int .i64 0, .int .i64 0], .int .i64 0] from rfl]
  have HX := Lib.hid (HB.new w4 (mec fr0) 26)
  have hb5 := hb4.trans (((Below.refl w4.heap.size w4).alloc (Nat.le_refl _) (.cells (mec fr0).toArray 26)).mono hb4.size)
  obtain ⟨w5, hw5⟩ : ∃ w5, w4.alloc (.cells (mec fr0).toArray 26) = w5 := ⟨_, rfl⟩
  rw [hw5] at HX hb5
  have HXl := Lib.hid (show w3.heap.size ≤ w4.heap.size from hb4.size)
  obtain ⟨X, hX⟩ : ∃ X, w4.heap.size = X := ⟨_, rfl⟩
  rw [hX] at HX HXl
  have hw5' : w4.alloc (.cells #[.int .u32 1, .int .i64 3, .int .i64 0, .int .i64 0, .int .i64 0] 26) = w5 := hw5
  have HU5 := fun (_ : Unit) => Lib.hid ((HU3 ()).out.later hb5)
  have Hb5 := Lib.hid (Hb3.out.trans (hb5.mono Hb3.out.size))
  have Hch := fun (_ : Unit) => Lib.hid (choose_up u p mb 2 s6 f8 w5 ((HU3 ()).out.later hb5) (by decide) (by decide) (by decide))
  have Hw5 := fun (_ : Unit) => Lib.hid hw5'
  clear hb4 hb5 Hlo HU3 Hb3 hw5 hw5'
  go_wp2_with fail
  rw [(Hw5 ()).out]
  refine (Hch ()).out.mono ?_
  rw [show s6.meta' = 0 from rfl, choose8]
  rintro e w6 ⟨rfl, hu6, hf6⟩
  have hX6 := HX.out.frm hf6 (fun e => by have := HXl.out; have := HW3.out; omega)
  have x0 : w6.cell? ⟨X, 0, none⟩ = some (.int .u32 1) := hX6.cell (i := 0) rfl
  have HU6 := fun (_ : Unit) => Lib.hid hu6
  have Hb6 := Lib.hid (Hb5.out.trans (hf6.below Hb5.out.size (fun q hq => by have := HW.out; omega)))
  have Hac := fun (_ : Unit) => Lib.hid (accept_up u p mb 3 s6 f8 w6 hu6 (by decide) (by decide) (by decide))
  rw [show chooseF (f8, 0, 0) = .tuple #[.int .i64 0, .int .i64 0] from rfl]
  clear hX6 hu6 hf6 Hch HU5 Hb5 HX Hw5
  go_wp2_with fail
  refine (Hac ()).out.mono ?_
  rw [show s6.meta' = 0 from rfl, accept8]
  rintro e w7 ⟨rfl, -, hf7⟩
  have Hb7 := Lib.hid (Hb6.out.trans (hf7.below Hb6.out.size (fun q hq => by have := HW.out; omega)))
  clear hf7 Hac HU6 x0
  dsimp only
  go_wp2_with fail
  go_ret
  exact ⟨rfl, Hb7.out⟩
end Go.Proofs.Ytnmeidmiijcniaa
