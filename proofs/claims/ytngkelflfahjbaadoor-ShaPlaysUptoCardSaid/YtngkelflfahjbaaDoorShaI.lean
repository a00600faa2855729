/- The program's three kinds, and a new hash. No condition. -/
import Derived.Test.YtngkelflfahjbaaDoorShaM
import Derived.Deep.DeepCutAuto
set_option linter.unusedVariables false
set_option linter.unusedSimpArgs false
namespace Go.Proofs.YtngkelflfahjbaaDoor
open Go.RowKit
def kall : List Value := kdC 1 ++ kdC 2 ++ kdC 3
def roots : List Value := [.int .u64 7640891576956012808, .int .u64 13503953896175478587, .int .u64 4354685564936845355, .int .u64 11912009170470909681, .int .u64 5840696475078001361, .int .u64 11170449401992604703, .int .u64 2270897969802886507, .int .u64 6620516959819538809, .int .u64 14680500436340154072, .int .u64 7105036623409894663, .int .u64 10473403895298186519, .int .u64 1526699215303891257, .int .u64 7436329637833083697, .int .u64 10282925794625328401, .int .u64 15784041429090275239, .int .u64 5167115440072839076]
def z16 : List Value := [.int .u64 0, .int .u64 0, .int .u64 0, .int .u64 0, .int .u64 0, .int .u64 0, .int .u64 0, .int .u64 0, .int .u64 0, .int .u64 0, .int .u64 0, .int .u64 0, .int .u64 0, .int .u64 0, .int .u64 0, .int .u64 0]
def kzL : Nat → List Value
  | 0 => [.int .u8 0, .bool false, .int .i64 0, .int .u64 0, .int .u64 0, .int .u64 0, .int .u64 0, .int .u64 0, .int .u64 0, .int .u64 0, .int .u64 0, .int .u8 0, .bool false, .int .i64 0, .int .u64 0, .int .u64 0, .int .u64 0, .int .u64 0, .int .u64 0, .int .u64 0, .int .u64 0, .int .u64 0, .int .u8 0, .bool false, .int .i64 0, .int .u64 0, .int .u64 0, .int .u64 0, .int .u64 0, .int .u64 0, .int .u64 0, .int .u64 0, .int .u64 0]
  | 1 => [.int .u8 0, .bool false, .int .i64 0, .int .u64 1779033703, .int .u64 0, .int .u64 0, .int .u64 0, .int .u64 0, .int .u64 0, .int .u64 0, .int .u64 0, .int .u8 0, .bool false, .int .i64 0, .int .u64 14680500436340154072, .int .u64 0, .int .u64 0, .int .u64 0, .int .u64 0, .int .u64 0, .int .u64 0, .int .u64 0, .int .u8 0, .bool false, .int .i64 0, .int .u64 7640891576956012808, .int .u64 0, .int .u64 0, .int .u64 0, .int .u64 0, .int .u64 0, .int .u64 0, .int .u64 0]
  | 2 => [.int .u8 0, .bool false, .int .i64 0, .int .u64 1779033703, .int .u64 3144134277, .int .u64 0, .int .u64 0, .int .u64 0, .int .u64 0, .int .u64 0, .int .u64 0, .int .u8 0, .bool false, .int .i64 0, .int .u64 14680500436340154072, .int .u64 7105036623409894663, .int .u64 0, .int .u64 0, .int .u64 0, .int .u64 0, .int .u64 0, .int .u64 0, .int .u8 0, .bool false, .int .i64 0, .int .u64 7640891576956012808, .int .u64 13503953896175478587, .int .u64 0, .int .u64 0, .int .u64 0, .int .u64 0, .int .u64 0, .int .u64 0]
  | 3 => [.int .u8 0, .bool false, .int .i64 0, .int .u64 1779033703, .int .u64 3144134277, .int .u64 1013904242, .int .u64 0, .int .u64 0, .int .u64 0, .int .u64 0, .int .u64 0, .int .u8 0, .bool false, .int .i64 0, .int .u64 14680500436340154072, .int .u64 7105036623409894663, .int .u64 10473403895298186519, .int .u64 0, .int .u64 0, .int .u64 0, .int .u64 0, .int .u64 0, .int .u8 0, .bool false, .int .i64 0, .int .u64 7640891576956012808, .int .u64 13503953896175478587, .int .u64 4354685564936845355, .int .u64 0, .int .u64 0, .int .u64 0, .int .u64 0, .int .u64 0]
  | 4 => [.int .u8 0, .bool false, .int .i64 0, .int .u64 1779033703, .int .u64 3144134277, .int .u64 1013904242, .int .u64 2773480762, .int .u64 0, .int .u64 0, .int .u64 0, .int .u64 0, .int .u8 0, .bool false, .int .i64 0, .int .u64 14680500436340154072, .int .u64 7105036623409894663, .int .u64 10473403895298186519, .int .u64 1526699215303891257, .int .u64 0, .int .u64 0, .int .u64 0, .int .u64 0, .int .u8 0, .bool false, .int .i64 0, .int .u64 7640891576956012808, .int .u64 13503953896175478587, .int .u64 4354685564936845355, .int .u64 11912009170470909681, .int .u64 0, .int .u64 0, .int .u64 0, .int .u64 0]
  | 5 => [.int .u8 0, .bool false, .int .i64 0, .int .u64 1779033703, .int .u64 3144134277, .int .u64 1013904242, .int .u64 2773480762, .int .u64 1359893119, .int .u64 0, .int .u64 0, .int .u64 0, .int .u8 0, .bool false, .int .i64 0, .int .u64 14680500436340154072, .int .u64 7105036623409894663, .int .u64 10473403895298186519, .int .u64 1526699215303891257, .int .u64 7436329637833083697, .int .u64 0, .int .u64 0, .int .u64 0, .int .u8 0, .bool false, .int .i64 0, .int .u64 7640891576956012808, .int .u64 13503953896175478587, .int .u64 4354685564936845355, .int .u64 11912009170470909681, .int .u64 5840696475078001361, .int .u64 0, .int .u64 0, .int .u64 0]
  | 6 => [.int .u8 0, .bool false, .int .i64 0, .int .u64 1779033703, .int .u64 3144134277, .int .u64 1013904242, .int .u64 2773480762, .int .u64 1359893119, .int .u64 2600822924, .int .u64 0, .int .u64 0, .int .u8 0, .bool false, .int .i64 0, .int .u64 14680500436340154072, .int .u64 7105036623409894663, .int .u64 10473403895298186519, .int .u64 1526699215303891257, .int .u64 7436329637833083697, .int .u64 10282925794625328401, .int .u64 0, .int .u64 0, .int .u8 0, .bool false, .int .i64 0, .int .u64 7640891576956012808, .int .u64 13503953896175478587, .int .u64 4354685564936845355, .int .u64 11912009170470909681, .int .u64 5840696475078001361, .int .u64 11170449401992604703, .int .u64 0, .int .u64 0]
  | 7 => [.int .u8 0, .bool false, .int .i64 0, .int .u64 1779033703, .int .u64 3144134277, .int .u64 1013904242, .int .u64 2773480762, .int .u64 1359893119, .int .u64 2600822924, .int .u64 528734635, .int .u64 0, .int .u8 0, .bool false, .int .i64 0, .int .u64 14680500436340154072, .int .u64 7105036623409894663, .int .u64 10473403895298186519, .int .u64 1526699215303891257, .int .u64 7436329637833083697, .int .u64 10282925794625328401, .int .u64 15784041429090275239, .int .u64 0, .int .u8 0, .bool false, .int .i64 0, .int .u64 7640891576956012808, .int .u64 13503953896175478587, .int .u64 4354685564936845355, .int .u64 11912009170470909681, .int .u64 5840696475078001361, .int .u64 11170449401992604703, .int .u64 2270897969802886507, .int .u64 0]
  | _ => [.int .u8 0, .bool false, .int .i64 0, .int .u64 1779033703, .int .u64 3144134277, .int .u64 1013904242, .int .u64 2773480762, .int .u64 1359893119, .int .u64 2600822924, .int .u64 528734635, .int .u64 1541459225, .int .u8 0, .bool false, .int .i64 0, .int .u64 14680500436340154072, .int .u64 7105036623409894663, .int .u64 10473403895298186519, .int .u64 1526699215303891257, .int .u64 7436329637833083697, .int .u64 10282925794625328401, .int .u64 15784041429090275239, .int .u64 5167115440072839076, .int .u8 0, .bool false, .int .i64 0, .int .u64 7640891576956012808, .int .u64 13503953896175478587, .int .u64 4354685564936845355, .int .u64 11912009170470909681, .int .u64 5840696475078001361, .int .u64 11170449401992604703, .int .u64 2270897969802886507, .int .u64 6620516959819538809]
structure KiIn (KB RB : Nat) (w1 : World) (i : Value) (wr : World) : Prop where
  x : ∃ t : Nat, t ≤ 8 ∧ i = .int .i64 (t : Nat) ∧ HB wr KB 70 (kzL t) ∧ Below KB w1 wr ∧ KB < wr.heap.size
def buildRt (ps : Array (Nat × Value)) : Sem Value := Instr.build 81 ps
theorem build_rt (ps : Array (Nat × Value)) : Instr.build 81 ps = buildRt ps := rfl
theorem run_buildRt (w : World) : (buildRt #[(0, .int .u64 7640891576956012808), (1, .int .u64 13503953896175478587), (2, .int .u64 4354685564936845355), (3, .int .u64 11912009170470909681), (4, .int .u64 5840696475078001361), (5, .int .u64 11170449401992604703), (6, .int .u64 2270897969802886507), (7, .int .u64 6620516959819538809), (8, .int .u64 14680500436340154072), (9, .int .u64 7105036623409894663), (10, .int .u64 10473403895298186519), (11, .int .u64 1526699215303891257), (12, .int .u64 7436329637833083697), (13, .int .u64 10282925794625328401), (14, .int .u64 15784041429090275239), (15, .int .u64 5167115440072839076)]).run Tryd.prog w = .ok (.agg roots.toArray) w := by kernel_rfl
attribute [local go_sem ↓] build_rt
attribute [local go_sem] run_buildRt
theorem eight {t : Nat} (h : t < 8) : t = 0 ∨ t = 1 ∨ t = 2 ∨ t = 3 ∨ t = 4 ∨ t = 5 ∨ t = 6 ∨ t = 7 := by omega
set_option maxRecDepth 100000 in
set_option maxHeartbeats 4000000 in
theorem kinds_any (w : World) :
    Calls Tryd.prog 39 #[] w fun e w' => e = .returned (.agg kall.toArray) ∧ Below w.heap.size w w' := by
  have hz : ∀ w, (zeroValue 70).run Tryd.prog w = .ok (.agg (kzL 0).toArray) w := fun w => by kernel_rfl
  have hzr : ∀ w, (zeroValue 81).run Tryd.prog w = .ok (.agg z16.toArray) w := fun w => by kernel_rfl
  have HR0 := Lib.hid (HB.new w (kzL 0) 70)
  have hs1 : (w.alloc (.cells (kzL 0).toArray 70)).heap.size = w.heap.size + 1 := by simp
  have HV := Lib.hid (HB.new (w.alloc (.cells (kzL 0).toArray 70)) z16 81)
  rw [hs1] at HV
  have Hi16 : Hid ((Tryd.prog.info? 81).map (·.size) = some roots.toArray.size) := Lib.hid (by kernel_rfl)
  have H16 : Hid (z16.toArray.size = roots.toArray.size) := Lib.hid rfl
  have Hone : Hid (roots.toArray.all (·.oneCell') = true) := Lib.hid (by decide +kernel)
  have hgr := grown_row ((w.alloc (.cells (kzL 0).toArray 70)).alloc (.cells z16.toArray 81)) (w.heap.size + 1) roots.toArray
  have hs3 : (((w.alloc (.cells (kzL 0).toArray 70)).alloc (.cells z16.toArray 81)).setRow (w.heap.size + 1) roots.toArray).heap.size = w.heap.size + 1 + 1 := by simp [World.setRow]
  have hr3 : HB (((w.alloc (.cells (kzL 0).toArray 70)).alloc (.cells z16.toArray 81)).setRow (w.heap.size + 1) roots.toArray) (w.heap.size + 1) 81 roots := setRow_heap _ _ _ _ _ _ HV.out
  have hR3 : HB (((w.alloc (.cells (kzL 0).toArray 70)).alloc (.cells z16.toArray 81)).setRow (w.heap.size + 1) roots.toArray) w.heap.size 70 (kzL 0) := (HR0.out.alloc (.cells z16.toArray 81)).grown hgr (fun e => by have := Option.some.inj e; omega)
  have hB3 : Below w.heap.size w (((w.alloc (.cells (kzL 0).toArray 70)).alloc (.cells z16.toArray 81)).setRow (w.heap.size + 1) roots.toArray) := (((Below.refl w.heap.size w).alloc (Nat.le_refl _) (.cells (kzL 0).toArray 70)).alloc (by simp) (.cells z16.toArray 81)).grown hgr (by simp; omega) (fun x hx => by have := Option.some.inj hx; omega)
  have HR := Lib.hid (hR3.alloc (.cells (kzL 0).toArray 70))
  have Hr := Lib.hid (hr3.alloc (.cells (kzL 0).toArray 70))
  have HH := Lib.hid (HB.new (((w.alloc (.cells (kzL 0).toArray 70)).alloc (.cells z16.toArray 81)).setRow (w.heap.size + 1) roots.toArray) (kzL 0) 70)
  rw [hs3] at HH
  have HB4 := Lib.hid (hB3.alloc (by rw [hs3]; omega) (.cells (kzL 0).toArray 70))
  clear hgr hs3 hr3 hR3 hB3 HR0 hs1
  go_enter Tryd.func39, Tryd.ntmps39
  go_wp2_with (refine wpList_store_row rfl _ _ _ rfl (w.heap.size + 1) roots.toArray rfl rfl _ _ HV.out Hi16.out H16.out Hone.out ?_)
  as_aux_lemma =>
  clear hz hzr HV Hi16 H16 Hone
  generalize (((w.alloc (.cells (kzL 0).toArray 70)).alloc (.cells z16.toArray 81)).setRow (w.heap.size + 1) roots.toArray).alloc (.cells (kzL 0).toArray 70) = w1 at *
  obtain ⟨R, hR⟩ : ∃ R, w.heap.size = R := ⟨_, rfl⟩
  obtain ⟨RB, hRB⟩ : ∃ RB, R + 1 = RB := ⟨_, rfl⟩
  obtain ⟨KB, hKB⟩ : ∃ KB, RB + 1 = KB := ⟨_, rfl⟩
  rw [hR] at HR Hr HH HB4 ⊢
  rw [hRB] at Hr HH ⊢
  rw [hKB] at HH ⊢
  have HRx := Lib.hid hR
  have Hlt : Hid (R < RB ∧ RB < KB) := Lib.hid (by omega)
  clear hR hRB hKB
  have Hsz : Hid (KB < w1.heap.size) := Lib.hid HH.out.lt
  go_loopw [3, 5] (fun _ i wr => KiIn KB RB w1 i wr) (fun _ i _ => 8 - (intOf i).toNat)
  case atStart => exact ⟨0, by omega, rfl, HH.out, Below.refl _ _, Hsz.out⟩
  case round =>
    as_aux_lemma =>
    clear HH Hsz
    obtain ⟨t, ht, rfl, hH, hB, hsz⟩ := hrel
    have HH := Lib.hid hH
    have HBx := Lib.hid hB
    have Hsz := Lib.hid hsz
    have Hrr := Lib.hid (Hr.out.below hB (by have := Hlt.out; omega))
    clear hH hB hsz
    by_cases hlt : t < 8
    · rcases eight hlt with rfl | rfl | rfl | rfl | rfl | rfl | rfl | rfl
      · have r1 := Hrr.out.cell (i := 0) rfl
        have r2 := Hrr.out.cell (i := 8) rfl
        have k1 := HH.out.cell (i := 3) rfl
        have f1 := HH.out.frozen 3
        go_upto_region 7 with fail
        as_aux_lemma =>
        clear k1 f1
        have HH_wa : Hid (HB (wr.setCell ⟨KB, 3, none⟩ (.int .u64 1779033703)) KB 70 [.int .u8 0, .bool false, .int .i64 0, .int .u64 1779033703, .int .u64 0, .int .u64 0, .int .u64 0, .int .u64 0, .int .u64 0, .int .u64 0, .int .u64 0, .int .u8 0, .bool false, .int .i64 0, .int .u64 0, .int .u64 0, .int .u64 0, .int .u64 0, .int .u64 0, .int .u64 0, .int .u64 0, .int .u64 0, .int .u8 0, .bool false, .int .i64 0, .int .u64 0, .int .u64 0, .int .u64 0, .int .u64 0, .int .u64 0, .int .u64 0, .int .u64 0, .int .u64 0]) := Lib.hid (HH.out.set 3 (.int .u64 1779033703))
        have HB_wa := Lib.hid (HBx.out.grown (grown_set wr ⟨KB, 3, none⟩ (.int .u64 1779033703)) (by have := Hsz.out; omega) (fun x hx => Nat.le_of_eq (Option.some.inj hx)))
        have HS_wa : Hid (KB < (wr.setCell ⟨KB, 3, none⟩ (.int .u64 1779033703)).heap.size) := Lib.hid (by have := Hsz.out; simpa [World.setCell] using this)
        clear HH HBx Hsz
        generalize wr.setCell ⟨KB, 3, none⟩ (.int .u64 1779033703) = wa at *
        have HH := HH_wa
        have HBx := HB_wa
        have Hsz := HS_wa
        clear HH_wa HB_wa HS_wa
        have r2 := (Hr.out.below HBx.out (by have := Hlt.out; omega)).cell (i := 8) rfl
        have k1 := HH.out.cell (i := 14) rfl
        have f1 := HH.out.frozen 14
        go_upto_region 8 with fail
        as_aux_lemma =>
        clear k1 f1
        have HH_wb : Hid (HB (wa.setCell ⟨KB, 14, none⟩ (.int .u64 14680500436340154072)) KB 70 [.int .u8 0, .bool false, .int .i64 0, .int .u64 1779033703, .int .u64 0, .int .u64 0, .int .u64 0, .int .u64 0, .int .u64 0, .int .u64 0, .int .u64 0, .int .u8 0, .bool false, .int .i64 0, .int .u64 14680500436340154072, .int .u64 0, .int .u64 0, .int .u64 0, .int .u64 0, .int .u64 0, .int .u64 0, .int .u64 0, .int .u8 0, .bool false, .int .i64 0, .int .u64 0, .int .u64 0, .int .u64 0, .int .u64 0, .int .u64 0, .int .u64 0, .int .u64 0, .int .u64 0]) := Lib.hid (HH.out.set 14 (.int .u64 14680500436340154072))
        have HB_wb := Lib.hid (HBx.out.grown (grown_set wa ⟨KB, 14, none⟩ (.int .u64 14680500436340154072)) (by have := Hsz.out; omega) (fun x hx => Nat.le_of_eq (Option.some.inj hx)))
        have HS_wb : Hid (KB < (wa.setCell ⟨KB, 14, none⟩ (.int .u64 14680500436340154072)).heap.size) := Lib.hid (by have := Hsz.out; simpa [World.setCell] using this)
        clear HH HBx Hsz
        generalize wa.setCell ⟨KB, 14, none⟩ (.int .u64 14680500436340154072) = wb at *
        have HH := HH_wb
        have HBx := HB_wb
        have Hsz := HS_wb
        clear HH_wb HB_wb HS_wb
        have r3 := (Hr.out.below HBx.out (by have := Hlt.out; omega)).cell (i := 0) rfl
        have k1 := HH.out.cell (i := 25) rfl
        have f1 := HH.out.frozen 25
        go_upto_region 9 with fail
        as_aux_lemma =>
        clear k1 f1 r1 r2 r3
        have HH_wc : Hid (HB (wb.setCell ⟨KB, 25, none⟩ (.int .u64 7640891576956012808)) KB 70 [.int .u8 0, .bool false, .int .i64 0, .int .u64 1779033703, .int .u64 0, .int .u64 0, .int .u64 0, .int .u64 0, .int .u64 0, .int .u64 0, .int .u64 0, .int .u8 0, .bool false, .int .i64 0, .int .u64 14680500436340154072, .int .u64 0, .int .u64 0, .int .u64 0, .int .u64 0, .int .u64 0, .int .u64 0, .int .u64 0, .int .u8 0, .bool false, .int .i64 0, .int .u64 7640891576956012808, .int .u64 0, .int .u64 0, .int .u64 0, .int .u64 0, .int .u64 0, .int .u64 0, .int .u64 0]) := Lib.hid (HH.out.set 25 (.int .u64 7640891576956012808))
        have HB_wc := Lib.hid (HBx.out.grown (grown_set wb ⟨KB, 25, none⟩ (.int .u64 7640891576956012808)) (by have := Hsz.out; omega) (fun x hx => Nat.le_of_eq (Option.some.inj hx)))
        have HS_wc : Hid (KB < (wb.setCell ⟨KB, 25, none⟩ (.int .u64 7640891576956012808)).heap.size) := Lib.hid (by have := Hsz.out; simpa [World.setCell] using this)
        clear HH HBx Hsz
        generalize wb.setCell ⟨KB, 25, none⟩ (.int .u64 7640891576956012808) = wc at *
        have HH := HH_wc
        have HBx := HB_wc
        have Hsz := HS_wc
        clear HH_wc HB_wc HS_wc
        go_wp2_with fail
        first
        | (go_roundw
           case rel => exact ⟨1, by omega, by go_num, HH.out, HBx.out, Hsz.out⟩
           case measure => (first | omega | (simp [intOf] <;> omega) | (simp only [intOf] <;> omega)))
        | exact ⟨⟨1, by omega, by go_num, HH.out, HBx.out, Hsz.out⟩, by (first | omega | (simp [intOf] <;> omega) | (simp only [intOf] <;> omega))⟩
        | (refine ⟨?_, by (first | omega | (simp [intOf] <;> omega) | (simp only [intOf] <;> omega))⟩
           (repeat apply Exists.intro)
           refine (fun a b => And.intro b a) ?_ ?_
           · first | rfl | ((repeat refine ⟨rfl, ?_⟩); rfl)
           exact ⟨1, by omega, by go_num, HH.out, HBx.out, Hsz.out⟩)
      · have r1 := Hrr.out.cell (i := 1) rfl
        have r2 := Hrr.out.cell (i := 9) rfl
        have k1 := HH.out.cell (i := 4) rfl
        have f1 := HH.out.frozen 4
        go_upto_region 7 with fail
        as_aux_lemma =>
        clear k1 f1
        have HH_wa : Hid (HB (wr.setCell ⟨KB, 4, none⟩ (.int .u64 3144134277)) KB 70 [.int .u8 0, .bool false, .int .i64 0, .int .u64 1779033703, .int .u64 3144134277, .int .u64 0, .int .u64 0, .int .u64 0, .int .u64 0, .int .u64 0, .int .u64 0, .int .u8 0, .bool false, .int .i64 0, .int .u64 14680500436340154072, .int .u64 0, .int .u64 0, .int .u64 0, .int .u64 0, .int .u64 0, .int .u64 0, .int .u64 0, .int .u8 0, .bool false, .int .i64 0, .int .u64 7640891576956012808, .int .u64 0, .int .u64 0, .int .u64 0, .int .u64 0, .int .u64 0, .int .u64 0, .int .u64 0]) := Lib.hid (HH.out.set 4 (.int .u64 3144134277))
        have HB_wa := Lib.hid (HBx.out.grown (grown_set wr ⟨KB, 4, none⟩ (.int .u64 3144134277)) (by have := Hsz.out; omega) (fun x hx => Nat.le_of_eq (Option.some.inj hx)))
        have HS_wa : Hid (KB < (wr.setCell ⟨KB, 4, none⟩ (.int .u64 3144134277)).heap.size) := Lib.hid (by have := Hsz.out; simpa [World.setCell] using this)
        clear HH HBx Hsz
        generalize wr.setCell ⟨KB, 4, none⟩ (.int .u64 3144134277) = wa at *
        have HH := HH_wa
        have HBx := HB_wa
        have Hsz := HS_wa
        clear HH_wa HB_wa HS_wa
        have r2 := (Hr.out.below HBx.out (by have := Hlt.out; omega)).cell (i := 9) rfl
        have k1 := HH.out.cell (i := 15) rfl
        have f1 := HH.out.frozen 15
        go_upto_region 8 with fail
        as_aux_lemma =>
        clear k1 f1
        have HH_wb : Hid (HB (wa.setCell ⟨KB, 15, none⟩ (.int .u64 7105036623409894663)) KB 70 [.int .u8 0, .bool false, .int .i64 0, .int .u64 1779033703, .int .u64 3144134277, .int .u64 0, .int .u64 0, .int .u64 0, .int .u64 0, .int .u64 0, .int .u64 0, .int .u8 0, .bool false, .int .i64 0, .int .u64 14680500436340154072, .int .u64 7105036623409894663, .int .u64 0, .int .u64 0, .int .u64 0, .int .u64 0, .int .u64 0, .int .u64 0, .int .u8 0, .bool false, .int .i64 0, .int .u64 7640891576956012808, .int .u64 0, .int .u64 0, .int .u64 0, .int .u64 0, .int .u64 0, .int .u64 0, .int .u64 0]) := Lib.hid (HH.out.set 15 (.int .u64 7105036623409894663))
        have HB_wb := Lib.hid (HBx.out.grown (grown_set wa ⟨KB, 15, none⟩ (.int .u64 7105036623409894663)) (by have := Hsz.out; omega) (fun x hx => Nat.le_of_eq (Option.some.inj hx)))
        have HS_wb : Hid (KB < (wa.setCell ⟨KB, 15, none⟩ (.int .u64 7105036623409894663)).heap.size) := Lib.hid (by have := Hsz.out; simpa [World.setCell] using this)
        clear HH HBx Hsz
        generalize wa.setCell ⟨KB, 15, none⟩ (.int .u64 7105036623409894663) = wb at *
        have HH := HH_wb
        have HBx := HB_wb
        have Hsz := HS_wb
        clear HH_wb HB_wb HS_wb
        have r3 := (Hr.out.below HBx.out (by have := Hlt.out; omega)).cell (i := 1) rfl
        have k1 := HH.out.cell (i := 26) rfl
        have f1 := HH.out.frozen 26
        go_upto_region 9 with fail
        as_aux_lemma =>
        clear k1 f1 r1 r2 r3
        have HH_wc : Hid (HB (wb.setCell ⟨KB, 26, none⟩ (.int .u64 13503953896175478587)) KB 70 [.int .u8 0, .bool false, .int .i64 0, .int .u64 1779033703, .int .u64 3144134277, .int .u64 0, .int .u64 0, .int .u64 0, .int .u64 0, .int .u64 0, .int .u64 0, .int .u8 0, .bool false, .int .i64 0, .int .u64 14680500436340154072, .int .u64 7105036623409894663, .int .u64 0, .int .u64 0, .int .u64 0, .int .u64 0, .int .u64 0, .int .u64 0, .int .u8 0, .bool false, .int .i64 0, .int .u64 7640891576956012808, .int .u64 13503953896175478587, .int .u64 0, .int .u64 0, .int .u64 0, .int .u64 0, .int .u64 0, .int .u64 0]) := Lib.hid (HH.out.set 26 (.int .u64 13503953896175478587))
        have HB_wc := Lib.hid (HBx.out.grown (grown_set wb ⟨KB, 26, none⟩ (.int .u64 13503953896175478587)) (by have := Hsz.out; omega) (fun x hx => Nat.le_of_eq (Option.some.inj hx)))
        have HS_wc : Hid (KB < (wb.setCell ⟨KB, 26, none⟩ (.int .u64 13503953896175478587)).heap.size) := Lib.hid (by have := Hsz.out; simpa [World.setCell] using this)
        clear HH HBx Hsz
        generalize wb.setCell ⟨KB, 26, none⟩ (.int .u64 13503953896175478587) = wc at *
        have HH := HH_wc
        have HBx := HB_wc
        have Hsz := HS_wc
        clear HH_wc HB_wc HS_wc
        go_wp2_with fail
        first
        | (go_roundw
           case rel => exact ⟨2, by omega, by go_num, HH.out, HBx.out, Hsz.out⟩
           case measure => (first | omega | (simp [intOf] <;> omega) | (simp only [intOf] <;> omega)))
        | exact ⟨⟨2, by omega, by go_num, HH.out, HBx.out, Hsz.out⟩, by (first | omega | (simp [intOf] <;> omega) | (simp only [intOf] <;> omega))⟩
        | (refine ⟨?_, by (first | omega | (simp [intOf] <;> omega) | (simp only [intOf] <;> omega))⟩
           (repeat apply Exists.intro)
           refine (fun a b => And.intro b a) ?_ ?_
           · first | rfl | ((repeat refine ⟨rfl, ?_⟩); rfl)
           exact ⟨2, by omega, by go_num, HH.out, HBx.out, Hsz.out⟩)
      · have r1 := Hrr.out.cell (i := 2) rfl
        have r2 := Hrr.out.cell (i := 10) rfl
        have k1 := HH.out.cell (i := 5) rfl
        have f1 := HH.out.frozen 5
        go_upto_region 7 with fail
        as_aux_lemma =>
        clear k1 f1
        have HH_wa : Hid (HB (wr.setCell ⟨KB, 5, none⟩ (.int .u64 1013904242)) KB 70 [.int .u8 0, .bool false, .int .i64 0, .int .u64 1779033703, .int .u64 3144134277, .int .u64 1013904242, .int .u64 0, .int .u64 0, .int .u64 0, .int .u64 0, .int .u64 0, .int .u8 0, .bool false, .int .i64 0, .int .u64 14680500436340154072, .int .u64 7105036623409894663, .int .u64 0, .int .u64 0, .int .u64 0, .int .u64 0, .int .u64 0, .int .u64 0, .int .u8 0, .bool false, .int .i64 0, .int .u64 7640891576956012808, .int .u64 13503953896175478587, .int .u64 0, .int .u64 0, .int .u64 0, .int .u64 0, .int .u64 0, .int .u64 0]) := Lib.hid (HH.out.set 5 (.int .u64 1013904242))
        have HB_wa := Lib.hid (HBx.out.grown (grown_set wr ⟨KB, 5, none⟩ (.int .u64 1013904242)) (by have := Hsz.out; omega) (fun x hx => Nat.le_of_eq (Option.some.inj hx)))
        have HS_wa : Hid (KB < (wr.setCell ⟨KB, 5, none⟩ (.int .u64 1013904242)).heap.size) := Lib.hid (by have := Hsz.out; simpa [World.setCell] using this)
        clear HH HBx Hsz
        generalize wr.setCell ⟨KB, 5, none⟩ (.int .u64 1013904242) = wa at *
        have HH := HH_wa
        have HBx := HB_wa
        have Hsz := HS_wa
        clear HH_wa HB_wa HS_wa
        have r2 := (Hr.out.below HBx.out (by have := Hlt.out; omega)).cell (i := 10) rfl
        have k1 := HH.out.cell (i := 16) rfl
        have f1 := HH.out.frozen 16
        go_upto_region 8 with fail
        as_aux_lemma =>
        clear k1 f1
        have HH_wb : Hid (HB (wa.setCell ⟨KB, 16, none⟩ (.int .u64 10473403895298186519)) KB 70 [.int .u8 0, .bool false, .int .i64 0, .int .u64 1779033703, .int .u64 3144134277, .int .u64 1013904242, .int .u64 0, .int .u64 0, .int .u64 0, .int .u64 0, .int .u64 0, .int .u8 0, .bool false, .int .i64 0, .int .u64 14680500436340154072, .int .u64 7105036623409894663, .int .u64 10473403895298186519, .int .u64 0, .int .u64 0, .int .u64 0, .int .u64 0, .int .u64 0, .int .u8 0, .bool false, .int .i64 0, .int .u64 7640891576956012808, .int .u64 13503953896175478587, .int .u64 0, .int .u64 0, .int .u64 0, .int .u64 0, .int .u64 0, .int .u64 0]) := Lib.hid (HH.out.set 16 (.int .u64 10473403895298186519))
        have HB_wb := Lib.hid (HBx.out.grown (grown_set wa ⟨KB, 16, none⟩ (.int .u64 10473403895298186519)) (by have := Hsz.out; omega) (fun x hx => Nat.le_of_eq (Option.some.inj hx)))
        have HS_wb : Hid (KB < (wa.setCell ⟨KB, 16, none⟩ (.int .u64 10473403895298186519)).heap.size) := Lib.hid (by have := Hsz.out; simpa [World.setCell] using this)
        clear HH HBx Hsz
        generalize wa.setCell ⟨KB, 16, none⟩ (.int .u64 10473403895298186519) = wb at *
        have HH := HH_wb
        have HBx := HB_wb
        have Hsz := HS_wb
        clear HH_wb HB_wb HS_wb
        have r3 := (Hr.out.below HBx.out (by have := Hlt.out; omega)).cell (i := 2) rfl
        have k1 := HH.out.cell (i := 27) rfl
        have f1 := HH.out.frozen 27
        go_upto_region 9 with fail
        as_aux_lemma =>
        clear k1 f1 r1 r2 r3
        have HH_wc : Hid (HB (wb.setCell ⟨KB, 27, none⟩ (.int .u64 4354685564936845355)) KB 70 [.int .u8 0, .bool false, .int .i64 0, .int .u64 1779033703, .int .u64 3144134277, .int .u64 1013904242, .int .u64 0, .int .u64 0, .int .u64 0, .int .u64 0, .int .u64 0, .int .u8 0, .bool false, .int .i64 0, .int .u64 14680500436340154072, .int .u64 7105036623409894663, .int .u64 10473403895298186519, .int .u64 0, .int .u64 0, .int .u64 0, .int .u64 0, .int .u64 0, .int .u8 0, .bool false, .int .i64 0, .int .u64 7640891576956012808, .int .u64 13503953896175478587, .int .u64 4354685564936845355, .int .u64 0, .int .u64 0, .int .u64 0, .int .u64 0, .int .u64 0]) := Lib.hid (HH.out.set 27 (.int .u64 4354685564936845355))
        have HB_wc := Lib.hid (HBx.out.grown (grown_set wb ⟨KB, 27, none⟩ (.int .u64 4354685564936845355)) (by have := Hsz.out; omega) (fun x hx => Nat.le_of_eq (Option.some.inj hx)))
        have HS_wc : Hid (KB < (wb.setCell ⟨KB, 27, none⟩ (.int .u64 4354685564936845355)).heap.size) := Lib.hid (by have := Hsz.out; simpa [World.setCell] using this)
        clear HH HBx Hsz
        generalize wb.setCell ⟨KB, 27, none⟩ (.int .u64 4354685564936845355) = wc at *
        have HH := HH_wc
        have HBx := HB_wc
        have Hsz := HS_wc
        clear HH_wc HB_wc HS_wc
        go_wp2_with fail
        first
        | (go_roundw
           case rel => exact ⟨3, by omega, by go_num, HH.out, HBx.out, Hsz.out⟩
           case measure => (first | omega | (simp [intOf] <;> omega) | (simp only [intOf] <;> omega)))
        | exact ⟨⟨3, by omega, by go_num, HH.out, HBx.out, Hsz.out⟩, by (first | omega | (simp [intOf] <;> omega) | (simp only [intOf] <;> omega))⟩
        | (refine ⟨?_, by (first | omega | (simp [intOf] <;> omega) | (simp only [intOf] <;> omega))⟩
           (repeat apply Exists.intro)
           refine (fun a b => And.intro b a) ?_ ?_
           · first | rfl | ((repeat refine ⟨rfl, ?_⟩); rfl)
           exact ⟨3, by omega, by go_num, HH.out, HBx.out, Hsz.out⟩)
      · have r1 := Hrr.out.cell (i := 3) rfl
        have r2 := Hrr.out.cell (i := 11) rfl
        have k1 := HH.out.cell (i := 6) rfl
        have f1 := HH.out.frozen 6
        go_upto_region 7 with fail
        as_aux_lemma =>
        clear k1 f1
        have HH_wa : Hid (HB (wr.setCell ⟨KB, 6, none⟩ (.int .u64 2773480762)) KB 70 [.int .u8 0, .bool false, .int .i64 0, .int .u64 1779033703, .int .u64 3144134277, .int .u64 1013904242, .int .u64 2773480762, .int .u64 0, .int .u64 0, .int .u64 0, .int .u64 0, .int .u8 0, .bool false, .int .i64 0, .int .u64 14680500436340154072, .int .u64 7105036623409894663, .int .u64 10473403895298186519, .int .u64 0, .int .u64 0, .int .u64 0, .int .u64 0, .int .u64 0, .int .u8 0, .bool false, .int .i64 0, .int .u64 7640891576956012808, .int .u64 13503953896175478587, .int .u64 4354685564936845355, .int .u64 0, .int .u64 0, .int .u64 0, .int .u64 0, .int .u64 0]) := Lib.hid (HH.out.set 6 (.int .u64 2773480762))
        have HB_wa := Lib.hid (HBx.out.grown (grown_set wr ⟨KB, 6, none⟩ (.int .u64 2773480762)) (by have := Hsz.out; omega) (fun x hx => Nat.le_of_eq (Option.some.inj hx)))
        have HS_wa : Hid (KB < (wr.setCell ⟨KB, 6, none⟩ (.int .u64 2773480762)).heap.size) := Lib.hid (by have := Hsz.out; simpa [World.setCell] using this)
        clear HH HBx Hsz
        generalize wr.setCell ⟨KB, 6, none⟩ (.int .u64 2773480762) = wa at *
        have HH := HH_wa
        have HBx := HB_wa
        have Hsz := HS_wa
        clear HH_wa HB_wa HS_wa
        have r2 := (Hr.out.below HBx.out (by have := Hlt.out; omega)).cell (i := 11) rfl
        have k1 := HH.out.cell (i := 17) rfl
        have f1 := HH.out.frozen 17
        go_upto_region 8 with fail
        as_aux_lemma =>
        clear k1 f1
        have HH_wb : Hid (HB (wa.setCell ⟨KB, 17, none⟩ (.int .u64 1526699215303891257)) KB 70 [.int .u8 0, .bool false, .int .i64 0, .int .u64 1779033703, .int .u64 3144134277, .int .u64 1013904242, .int .u64 2773480762, .int .u64 0, .int .u64 0, .int .u64 0, .int .u64 0, .int .u8 0, .bool false, .int .i64 0, .int .u64 14680500436340154072, .int .u64 7105036623409894663, .int .u64 10473403895298186519, .int .u64 1526699215303891257, .int .u64 0, .int .u64 0, .int .u64 0, .int .u64 0, .int .u8 0, .bool false, .int .i64 0, .int .u64 7640891576956012808, .int .u64 13503953896175478587, .int .u64 4354685564936845355, .int .u64 0, .int .u64 0, .int .u64 0, .int .u64 0, .int .u64 0]) := Lib.hid (HH.out.set 17 (.int .u64 1526699215303891257))
        have HB_wb := Lib.hid (HBx.out.grown (grown_set wa ⟨KB, 17, none⟩ (.int .u64 1526699215303891257)) (by have := Hsz.out; omega) (fun x hx => Nat.le_of_eq (Option.some.inj hx)))
        have HS_wb : Hid (KB < (wa.setCell ⟨KB, 17, none⟩ (.int .u64 1526699215303891257)).heap.size) := Lib.hid (by have := Hsz.out; simpa [World.setCell] using this)
        clear HH HBx Hsz
        generalize wa.setCell ⟨KB, 17, none⟩ (.int .u64 1526699215303891257) = wb at *
        have HH := HH_wb
        have HBx := HB_wb
        have Hsz := HS_wb
        clear HH_wb HB_wb HS_wb
        have r3 := (Hr.out.below HBx.out (by have := Hlt.out; omega)).cell (i := 3) rfl
        have k1 := HH.out.cell (i := 28) rfl
        have f1 := HH.out.frozen 28
        go_upto_region 9 with fail
        as_aux_lemma =>
        clear k1 f1 r1 r2 r3
        have HH_wc : Hid (HB (wb.setCell ⟨KB, 28, none⟩ (.int .u64 11912009170470909681)) KB 70 [.int .u8 0, .bool false, .int .i64 0, .int .u64 1779033703, .int .u64 3144134277, .int .u64 1013904242, .int .u64 2773480762, .int .u64 0, .int .u64 0, .int .u64 0, .int .u64 0, .int .u8 0, .bool false, .int .i64 0, .int .u64 14680500436340154072, .int .u64 7105036623409894663, .int .u64 10473403895298186519, .int .u64 1526699215303891257, .int .u64 0, .int .u64 0, .int .u64 0, .int .u64 0, .int .u8 0, .bool false, .int .i64 0, .int .u64 7640891576956012808, .int .u64 13503953896175478587, .int .u64 4354685564936845355, .int .u64 11912009170470909681, .int .u64 0, .int .u64 0, .int .u64 0, .int .u64 0]) := Lib.hid (HH.out.set 28 (.int .u64 11912009170470909681))
        have HB_wc := Lib.hid (HBx.out.grown (grown_set wb ⟨KB, 28, none⟩ (.int .u64 11912009170470909681)) (by have := Hsz.out; omega) (fun x hx => Nat.le_of_eq (Option.some.inj hx)))
        have HS_wc : Hid (KB < (wb.setCell ⟨KB, 28, none⟩ (.int .u64 11912009170470909681)).heap.size) := Lib.hid (by have := Hsz.out; simpa [World.setCell] using this)
        clear HH HBx Hsz
        generalize wb.setCell ⟨KB, 28, none⟩ (.int .u64 11912009170470909681) = wc at *
        have HH := HH_wc
        have HBx := HB_wc
        have Hsz := HS_wc
        clear HH_wc HB_wc HS_wc
        go_wp2_with fail
        first
        | (go_roundw
           case rel => exact ⟨4, by omega, by go_num, HH.out, HBx.out, Hsz.out⟩
           case measure => (first | omega | (simp [intOf] <;> omega) | (simp only [intOf] <;> omega)))
        | exact ⟨⟨4, by omega, by go_num, HH.out, HBx.out, Hsz.out⟩, by (first | omega | (simp [intOf] <;> omega) | (simp only [intOf] <;> omega))⟩
        | (refine ⟨?_, by (first | omega | (simp [intOf] <;> omega) | (simp only [intOf] <;> omega))⟩
           (repeat apply Exists.intro)
           refine (fun a b => And.intro b a) ?_ ?_
           · first | rfl | ((repeat refine ⟨rfl, ?_⟩); rfl)
           exact ⟨4, by omega, by go_num, HH.out, HBx.out, Hsz.out⟩)
      · have r1 := Hrr.out.cell (i := 4) rfl
        have r2 := Hrr.out.cell (i := 12) rfl
        have k1 := HH.out.cell (i := 7) rfl
        have f1 := HH.out.frozen 7
        go_upto_region 7 with fail
        as_aux_lemma =>
        clear k1 f1
        have HH_wa : Hid (HB (wr.setCell ⟨KB, 7, none⟩ (.int .u64 1359893119)) KB 70 [.int .u8 0, .bool false, .int .i64 0, .int .u64 1779033703, .int .u64 3144134277, .int .u64 1013904242, .int .u64 2773480762, .int .u64 1359893119, .int .u64 0, .int .u64 0, .int .u64 0, .int .u8 0, .bool false, .int .i64 0, .int .u64 14680500436340154072, .int .u64 7105036623409894663, .int .u64 10473403895298186519, .int .u64 1526699215303891257, .int .u64 0, .int .u64 0, .int .u64 0, .int .u64 0, .int .u8 0, .bool false, .int .i64 0, .int .u64 7640891576956012808, .int .u64 13503953896175478587, .int .u64 4354685564936845355, .int .u64 11912009170470909681, .int .u64 0, .int .u64 0, .int .u64 0, .int .u64 0]) := Lib.hid (HH.out.set 7 (.int .u64 1359893119))
        have HB_wa := Lib.hid (HBx.out.grown (grown_set wr ⟨KB, 7, none⟩ (.int .u64 1359893119)) (by have := Hsz.out; omega) (fun x hx => Nat.le_of_eq (Option.some.inj hx)))
        have HS_wa : Hid (KB < (wr.setCell ⟨KB, 7, none⟩ (.int .u64 1359893119)).heap.size) := Lib.hid (by have := Hsz.out; simpa [World.setCell] using this)
        clear HH HBx Hsz
        generalize wr.setCell ⟨KB, 7, none⟩ (.int .u64 1359893119) = wa at *
        have HH := HH_wa
        have HBx := HB_wa
        have Hsz := HS_wa
        clear HH_wa HB_wa HS_wa
        have r2 := (Hr.out.below HBx.out (by have := Hlt.out; omega)).cell (i := 12) rfl
        have k1 := HH.out.cell (i := 18) rfl
        have f1 := HH.out.frozen 18
        go_upto_region 8 with fail
        as_aux_lemma =>
        clear k1 f1
        have HH_wb : Hid (HB (wa.setCell ⟨KB, 18, none⟩ (.int .u64 7436329637833083697)) KB 70 [.int .u8 0, .bool false, .int .i64 0, .int .u64 1779033703, .int .u64 3144134277, .int .u64 1013904242, .int .u64 2773480762, .int .u64 1359893119, .int .u64 0, .int .u64 0, .int .u64 0, .int .u8 0, .bool false, .int .i64 0, .int .u64 14680500436340154072, .int .u64 7105036623409894663, .int .u64 10473403895298186519, .int .u64 1526699215303891257, .int .u64 7436329637833083697, .int .u64 0, .int .u64 0, .int .u64 0, .int .u8 0, .bool false, .int .i64 0, .int .u64 7640891576956012808, .int .u64 13503953896175478587, .int .u64 4354685564936845355, .int .u64 11912009170470909681, .int .u64 0, .int .u64 0, .int .u64 0, .int .u64 0]) := Lib.hid (HH.out.set 18 (.int .u64 7436329637833083697))
        have HB_wb := Lib.hid (HBx.out.grown (grown_set wa ⟨KB, 18, none⟩ (.int .u64 7436329637833083697)) (by have := Hsz.out; omega) (fun x hx => Nat.le_of_eq (Option.some.inj hx)))
        have HS_wb : Hid (KB < (wa.setCell ⟨KB, 18, none⟩ (.int .u64 7436329637833083697)).heap.size) := Lib.hid (by have := Hsz.out; simpa [World.setCell] using this)
        clear HH HBx Hsz
        generalize wa.setCell ⟨KB, 18, none⟩ (.int .u64 7436329637833083697) = wb at *
        have HH := HH_wb
        have HBx := HB_wb
        have Hsz := HS_wb
        clear HH_wb HB_wb HS_wb
        have r3 := (Hr.out.below HBx.out (by have := Hlt.out; omega)).cell (i := 4) rfl
        have k1 := HH.out.cell (i := 29) rfl
        have f1 := HH.out.frozen 29
        go_upto_region 9 with fail
        as_aux_lemma =>
        clear k1 f1 r1 r2 r3
        have HH_wc : Hid (HB (wb.setCell ⟨KB, 29, none⟩ (.int .u64 5840696475078001361)) KB 70 [.int .u8 0, .bool false, .int .i64 0, .int .u64 1779033703, .int .u64 3144134277, .int .u64 1013904242, .int .u64 2773480762, .int .u64 1359893119, .int .u64 0, .int .u64 0, .int .u64 0, .int .u8 0, .bool false, .int .i64 0, .int .u64 14680500436340154072, .int .u64 7105036623409894663, .int .u64 10473403895298186519, .int .u64 1526699215303891257, .int .u64 7436329637833083697, .int .u64 0, .int .u64 0, .int .u64 0, .int .u8 0, .bool false, .int .i64 0, .int .u64 7640891576956012808, .int .u64 13503953896175478587, .int .u64 4354685564936845355, .int .u64 11912009170470909681, .int .u64 5840696475078001361, .int .u64 0, .int .u64 0, .int .u64 0]) := Lib.hid (HH.out.set 29 (.int .u64 5840696475078001361))
        have HB_wc := Lib.hid (HBx.out.grown (grown_set wb ⟨KB, 29, none⟩ (.int .u64 5840696475078001361)) (by have := Hsz.out; omega) (fun x hx => Nat.le_of_eq (Option.some.inj hx)))
        have HS_wc : Hid (KB < (wb.setCell ⟨KB, 29, none⟩ (.int .u64 5840696475078001361)).heap.size) := Lib.hid (by have := Hsz.out; simpa [World.setCell] using this)
        clear HH HBx Hsz
        generalize wb.setCell ⟨KB, 29, none⟩ (.int .u64 5840696475078001361) = wc at *
        have HH := HH_wc
        have HBx := HB_wc
        have Hsz := HS_wc
        clear HH_wc HB_wc HS_wc
        go_wp2_with fail
        first
        | (go_roundw
           case rel => exact ⟨5, by omega, by go_num, HH.out, HBx.out, Hsz.out⟩
           case measure => (first | omega | (simp [intOf] <;> omega) | (simp only [intOf] <;> omega)))
        | exact ⟨⟨5, by omega, by go_num, HH.out, HBx.out, Hsz.out⟩, by (first | omega | (simp [intOf] <;> omega) | (simp only [intOf] <;> omega))⟩
        | (refine ⟨?_, by (first | omega | (simp [intOf] <;> omega) | (simp only [intOf] <;> omega))⟩
           (repeat apply Exists.intro)
           refine (fun a b => And.intro b a) ?_ ?_
           · first | rfl | ((repeat refine ⟨rfl, ?_⟩); rfl)
           exact ⟨5, by omega, by go_num, HH.out, HBx.out, Hsz.out⟩)
      · have r1 := Hrr.out.cell (i := 5) rfl
        have r2 := Hrr.out.cell (i := 13) rfl
        have k1 := HH.out.cell (i := 8) rfl
        have f1 := HH.out.frozen 8
        go_upto_region 7 with fail
        as_aux_lemma =>
        clear k1 f1
        have HH_wa : Hid (HB (wr.setCell ⟨KB, 8, none⟩ (.int .u64 2600822924)) KB 70 [.int .u8 0, .bool false, .int .i64 0, .int .u64 1779033703, .int .u64 3144134277, .int .u64 1013904242, .int .u64 2773480762, .int .u64 1359893119, .int .u64 2600822924, .int .u64 0, .int .u64 0, .int .u8 0, .bool false, .int .i64 0, .int .u64 14680500436340154072, .int .u64 7105036623409894663, .int .u64 10473403895298186519, .int .u64 1526699215303891257, .int .u64 7436329637833083697, .int .u64 0, .int .u64 0, .int .u64 0, .int .u8 0, .bool false, .int .i64 0, .int .u64 7640891576956012808, .int .u64 13503953896175478587, .int .u64 4354685564936845355, .int .u64 11912009170470909681, .int .u64 5840696475078001361, .int .u64 0, .int .u64 0, .int .u64 0]) := Lib.hid (HH.out.set 8 (.int .u64 2600822924))
        have HB_wa := Lib.hid (HBx.out.grown (grown_set wr ⟨KB, 8, none⟩ (.int .u64 2600822924)) (by have := Hsz.out; omega) (fun x hx => Nat.le_of_eq (Option.some.inj hx)))
        have HS_wa : Hid (KB < (wr.setCell ⟨KB, 8, none⟩ (.int .u64 2600822924)).heap.size) := Lib.hid (by have := Hsz.out; simpa [World.setCell] using this)
        clear HH HBx Hsz
        generalize wr.setCell ⟨KB, 8, none⟩ (.int .u64 2600822924) = wa at *
        have HH := HH_wa
        have HBx := HB_wa
        have Hsz := HS_wa
        clear HH_wa HB_wa HS_wa
        have r2 := (Hr.out.below HBx.out (by have := Hlt.out; omega)).cell (i := 13) rfl
        have k1 := HH.out.cell (i := 19) rfl
        have f1 := HH.out.frozen 19
        go_upto_region 8 with fail
        as_aux_lemma =>
        clear k1 f1
        have HH_wb : Hid (HB (wa.setCell ⟨KB, 19, none⟩ (.int .u64 10282925794625328401)) KB 70 [.int .u8 0, .bool false, .int .i64 0, .int .u64 1779033703, .int .u64 3144134277, .int .u64 1013904242, .int .u64 2773480762, .int .u64 1359893119, .int .u64 2600822924, .int .u64 0, .int .u64 0, .int .u8 0, .bool false, .int .i64 0, .int .u64 14680500436340154072, .int .u64 7105036623409894663, .int .u64 10473403895298186519, .int .u64 1526699215303891257, .int .u64 7436329637833083697, .int .u64 10282925794625328401, .int .u64 0, .int .u64 0, .int .u8 0, .bool false, .int .i64 0, .int .u64 7640891576956012808, .int .u64 13503953896175478587, .int .u64 4354685564936845355, .int .u64 11912009170470909681, .int .u64 5840696475078001361, .int .u64 0, .int .u64 0, .int .u64 0]) := Lib.hid (HH.out.set 19 (.int .u64 10282925794625328401))
        have HB_wb := Lib.hid (HBx.out.grown (grown_set wa ⟨KB, 19, none⟩ (.int .u64 10282925794625328401)) (by have := Hsz.out; omega) (fun x hx => Nat.le_of_eq (Option.some.inj hx)))
        have HS_wb : Hid (KB < (wa.setCell ⟨KB, 19, none⟩ (.int .u64 10282925794625328401)).heap.size) := Lib.hid (by have := Hsz.out; simpa [World.setCell] using this)
        clear HH HBx Hsz
        generalize wa.setCell ⟨KB, 19, none⟩ (.int .u64 10282925794625328401) = wb at *
        have HH := HH_wb
        have HBx := HB_wb
        have Hsz := HS_wb
        clear HH_wb HB_wb HS_wb
        have r3 := (Hr.out.below HBx.out (by have := Hlt.out; omega)).cell (i := 5) rfl
        have k1 := HH.out.cell (i := 30) rfl
        have f1 := HH.out.frozen 30
        go_upto_region 9 with fail
        as_aux_lemma =>
        clear k1 f1 r1 r2 r3
        have HH_wc : Hid (HB (wb.setCell ⟨KB, 30, none⟩ (.int .u64 11170449401992604703)) KB 70 [.int .u8 0, .bool false, .int .i64 0, .int .u64 1779033703, .int .u64 3144134277, .int .u64 1013904242, .int .u64 2773480762, .int .u64 1359893119, .int .u64 2600822924, .int .u64 0, .int .u64 0, .int .u8 0, .bool false, .int .i64 0, .int .u64 14680500436340154072, .int .u64 7105036623409894663, .int .u64 10473403895298186519, .int .u64 1526699215303891257, .int .u64 7436329637833083697, .int .u64 10282925794625328401, .int .u64 0, .int .u64 0, .int .u8 0, .bool false, .int .i64 0, .int .u64 7640891576956012808, .int .u64 13503953896175478587, .int .u64 4354685564936845355, .int .u64 11912009170470909681, .int .u64 5840696475078001361, .int .u64 11170449401992604703, .int .u64 0, .int .u64 0]) := Lib.hid (HH.out.set 30 (.int .u64 11170449401992604703))
        have HB_wc := Lib.hid (HBx.out.grown (grown_set wb ⟨KB, 30, none⟩ (.int .u64 11170449401992604703)) (by have := Hsz.out; omega) (fun x hx => Nat.le_of_eq (Option.some.inj hx)))
        have HS_wc : Hid (KB < (wb.setCell ⟨KB, 30, none⟩ (.int .u64 11170449401992604703)).heap.size) := Lib.hid (by have := Hsz.out; simpa [World.setCell] using this)
        clear HH HBx Hsz
        generalize wb.setCell ⟨KB, 30, none⟩ (.int .u64 11170449401992604703) = wc at *
        have HH := HH_wc
        have HBx := HB_wc
        have Hsz := HS_wc
        clear HH_wc HB_wc HS_wc
        go_wp2_with fail
        first
        | (go_roundw
           case rel => exact ⟨6, by omega, by go_num, HH.out, HBx.out, Hsz.out⟩
           case measure => (first | omega | (simp [intOf] <;> omega) | (simp only [intOf] <;> omega)))
        | exact ⟨⟨6, by omega, by go_num, HH.out, HBx.out, Hsz.out⟩, by (first | omega | (simp [intOf] <;> omega) | (simp only [intOf] <;> omega))⟩
        | (refine ⟨?_, by (first | omega | (simp [intOf] <;> omega) | (simp only [intOf] <;> omega))⟩
           (repeat apply Exists.intro)
           refine (fun a b => And.intro b a) ?_ ?_
           · first | rfl | ((repeat refine ⟨rfl, ?_⟩); rfl)
           exact ⟨6, by omega, by go_num, HH.out, HBx.out, Hsz.out⟩)
      · have r1 := Hrr.out.cell (i := 6) rfl
        have r2 := Hrr.out.cell (i := 14) rfl
        have k1 := HH.out.cell (i := 9) rfl
        have f1 := HH.out.frozen 9
        go_upto_region 7 with fail
        as_aux_lemma =>
        clear k1 f1
        have HH_wa : Hid (HB (wr.setCell ⟨KB, 9, none⟩ (.int .u64 528734635)) KB 70 [.int .u8 0, .bool false, .int .i64 0, .int .u64 1779033703, .int .u64 3144134277, .int .u64 1013904242, .int .u64 2773480762, .int .u64 1359893119, .int .u64 2600822924, .int .u64 528734635, .int .u64 0, .int .u8 0, .bool false, .int .i64 0, .int .u64 14680500436340154072, .int .u64 7105036623409894663, .int .u64 10473403895298186519, .int .u64 1526699215303891257, .int .u64 7436329637833083697, .int .u64 10282925794625328401, .int .u64 0, .int .u64 0, .int .u8 0, .bool false, .int .i64 0, .int .u64 7640891576956012808, .int .u64 13503953896175478587, .int .u64 4354685564936845355, .int .u64 11912009170470909681, .int .u64 5840696475078001361, .int .u64 11170449401992604703, .int .u64 0, .int .u64 0]) := Lib.hid (HH.out.set 9 (.int .u64 528734635))
        have HB_wa := Lib.hid (HBx.out.grown (grown_set wr ⟨KB, 9, none⟩ (.int .u64 528734635)) (by have := Hsz.out; omega) (fun x hx => Nat.le_of_eq (Option.some.inj hx)))
        have HS_wa : Hid (KB < (wr.setCell ⟨KB, 9, none⟩ (.int .u64 528734635)).heap.size) := Lib.hid (by have := Hsz.out; simpa [World.setCell] using this)
        clear HH HBx Hsz
        generalize wr.setCell ⟨KB, 9, none⟩ (.int .u64 528734635) = wa at *
        have HH := HH_wa
        have HBx := HB_wa
        have Hsz := HS_wa
        clear HH_wa HB_wa HS_wa
        have r2 := (Hr.out.below HBx.out (by have := Hlt.out; omega)).cell (i := 14) rfl
        have k1 := HH.out.cell (i := 20) rfl
        have f1 := HH.out.frozen 20
        go_upto_region 8 with fail
        as_aux_lemma =>
        clear k1 f1
        have HH_wb : Hid (HB (wa.setCell ⟨KB, 20, none⟩ (.int .u64 15784041429090275239)) KB 70 [.int .u8 0, .bool false, .int .i64 0, .int .u64 1779033703, .int .u64 3144134277, .int .u64 1013904242, .int .u64 2773480762, .int .u64 1359893119, .int .u64 2600822924, .int .u64 528734635, .int .u64 0, .int .u8 0, .bool false, .int .i64 0, .int .u64 14680500436340154072, .int .u64 7105036623409894663, .int .u64 10473403895298186519, .int .u64 1526699215303891257, .int .u64 7436329637833083697, .int .u64 10282925794625328401, .int .u64 15784041429090275239, .int .u64 0, .int .u8 0, .bool false, .int .i64 0, .int .u64 7640891576956012808, .int .u64 13503953896175478587, .int .u64 4354685564936845355, .int .u64 11912009170470909681, .int .u64 5840696475078001361, .int .u64 11170449401992604703, .int .u64 0, .int .u64 0]) := Lib.hid (HH.out.set 20 (.int .u64 15784041429090275239))
        have HB_wb := Lib.hid (HBx.out.grown (grown_set wa ⟨KB, 20, none⟩ (.int .u64 15784041429090275239)) (by have := Hsz.out; omega) (fun x hx => Nat.le_of_eq (Option.some.inj hx)))
        have HS_wb : Hid (KB < (wa.setCell ⟨KB, 20, none⟩ (.int .u64 15784041429090275239)).heap.size) := Lib.hid (by have := Hsz.out; simpa [World.setCell] using this)
        clear HH HBx Hsz
        generalize wa.setCell ⟨KB, 20, none⟩ (.int .u64 15784041429090275239) = wb at *
        have HH := HH_wb
        have HBx := HB_wb
        have Hsz := HS_wb
        clear HH_wb HB_wb HS_wb
        have r3 := (Hr.out.below HBx.out (by have := Hlt.out; omega)).cell (i := 6) rfl
        have k1 := HH.out.cell (i := 31) rfl
        have f1 := HH.out.frozen 31
        go_upto_region 9 with fail
        as_aux_lemma =>
        clear k1 f1 r1 r2 r3
        have HH_wc : Hid (HB (wb.setCell ⟨KB, 31, none⟩ (.int .u64 2270897969802886507)) KB 70 [.int .u8 0, .bool false, .int .i64 0, .int .u64 1779033703, .int .u64 3144134277, .int .u64 1013904242, .int .u64 2773480762, .int .u64 1359893119, .int .u64 2600822924, .int .u64 528734635, .int .u64 0, .int .u8 0, .bool false, .int .i64 0, .int .u64 14680500436340154072, .int .u64 7105036623409894663, .int .u64 10473403895298186519, .int .u64 1526699215303891257, .int .u64 7436329637833083697, .int .u64 10282925794625328401, .int .u64 15784041429090275239, .int .u64 0, .int .u8 0, .bool false, .int .i64 0, .int .u64 7640891576956012808, .int .u64 13503953896175478587, .int .u64 4354685564936845355, .int .u64 11912009170470909681, .int .u64 5840696475078001361, .int .u64 11170449401992604703, .int .u64 2270897969802886507, .int .u64 0]) := Lib.hid (HH.out.set 31 (.int .u64 2270897969802886507))
        have HB_wc := Lib.hid (HBx.out.grown (grown_set wb ⟨KB, 31, none⟩ (.int .u64 2270897969802886507)) (by have := Hsz.out; omega) (fun x hx => Nat.le_of_eq (Option.some.inj hx)))
        have HS_wc : Hid (KB < (wb.setCell ⟨KB, 31, none⟩ (.int .u64 2270897969802886507)).heap.size) := Lib.hid (by have := Hsz.out; simpa [World.setCell] using this)
        clear HH HBx Hsz
        generalize wb.setCell ⟨KB, 31, none⟩ (.int .u64 2270897969802886507) = wc at *
        have HH := HH_wc
        have HBx := HB_wc
        have Hsz := HS_wc
        clear HH_wc HB_wc HS_wc
        go_wp2_with fail
        first
        | (go_roundw
           case rel => exact ⟨7, by omega, by go_num, HH.out, HBx.out, Hsz.out⟩
           case measure => (first | omega | (simp [intOf] <;> omega) | (simp only [intOf] <;> omega)))
        | exact ⟨⟨7, by omega, by go_num, HH.out, HBx.out, Hsz.out⟩, by (first | omega | (simp [intOf] <;> omega) | (simp only [intOf] <;> omega))⟩
        | (refine ⟨?_, by (first | omega | (simp [intOf] <;> omega) | (simp only [intOf] <;> omega))⟩
           (repeat apply Exists.intro)
           refine (fun a b => And.intro b a) ?_ ?_
           · first | rfl | ((repeat refine ⟨rfl, ?_⟩); rfl)
           exact ⟨7, by omega, by go_num, HH.out, HBx.out, Hsz.out⟩)
      · have r1 := Hrr.out.cell (i := 7) rfl
        have r2 := Hrr.out.cell (i := 15) rfl
        have k1 := HH.out.cell (i := 10) rfl
        have f1 := HH.out.frozen 10
        go_upto_region 7 with fail
        as_aux_lemma =>
        clear k1 f1
        have HH_wa : Hid (HB (wr.setCell ⟨KB, 10, none⟩ (.int .u64 1541459225)) KB 70 [.int .u8 0, .bool false, .int .i64 0, .int .u64 1779033703, .int .u64 3144134277, .int .u64 1013904242, .int .u64 2773480762, .int .u64 1359893119, .int .u64 2600822924, .int .u64 528734635, .int .u64 1541459225, .int .u8 0, .bool false, .int .i64 0, .int .u64 14680500436340154072, .int .u64 7105036623409894663, .int .u64 10473403895298186519, .int .u64 1526699215303891257, .int .u64 7436329637833083697, .int .u64 10282925794625328401, .int .u64 15784041429090275239, .int .u64 0, .int .u8 0, .bool false, .int .i64 0, .int .u64 7640891576956012808, .int .u64 13503953896175478587, .int .u64 4354685564936845355, .int .u64 11912009170470909681, .int .u64 5840696475078001361, .int .u64 11170449401992604703, .int .u64 2270897969802886507, .int .u64 0]) := Lib.hid (HH.out.set 10 (.int .u64 1541459225))
        have HB_wa := Lib.hid (HBx.out.grown (grown_set wr ⟨KB, 10, none⟩ (.int .u64 1541459225)) (by have := Hsz.out; omega) (fun x hx => Nat.le_of_eq (Option.some.inj hx)))
        have HS_wa : Hid (KB < (wr.setCell ⟨KB, 10, none⟩ (.int .u64 1541459225)).heap.size) := Lib.hid (by have := Hsz.out; simpa [World.setCell] using this)
        clear HH HBx Hsz
        generalize wr.setCell ⟨KB, 10, none⟩ (.int .u64 1541459225) = wa at *
        have HH := HH_wa
        have HBx := HB_wa
        have Hsz := HS_wa
        clear HH_wa HB_wa HS_wa
        have r2 := (Hr.out.below HBx.out (by have := Hlt.out; omega)).cell (i := 15) rfl
        have k1 := HH.out.cell (i := 21) rfl
        have f1 := HH.out.frozen 21
        go_upto_region 8 with fail
        as_aux_lemma =>
        clear k1 f1
        have HH_wb : Hid (HB (wa.setCell ⟨KB, 21, none⟩ (.int .u64 5167115440072839076)) KB 70 [.int .u8 0, .bool false, .int .i64 0, .int .u64 1779033703, .int .u64 3144134277, .int .u64 1013904242, .int .u64 2773480762, .int .u64 1359893119, .int .u64 2600822924, .int .u64 528734635, .int .u64 1541459225, .int .u8 0, .bool false, .int .i64 0, .int .u64 14680500436340154072, .int .u64 7105036623409894663, .int .u64 10473403895298186519, .int .u64 1526699215303891257, .int .u64 7436329637833083697, .int .u64 10282925794625328401, .int .u64 15784041429090275239, .int .u64 5167115440072839076, .int .u8 0, .bool false, .int .i64 0, .int .u64 7640891576956012808, .int .u64 13503953896175478587, .int .u64 4354685564936845355, .int .u64 11912009170470909681, .int .u64 5840696475078001361, .int .u64 11170449401992604703, .int .u64 2270897969802886507, .int .u64 0]) := Lib.hid (HH.out.set 21 (.int .u64 5167115440072839076))
        have HB_wb := Lib.hid (HBx.out.grown (grown_set wa ⟨KB, 21, none⟩ (.int .u64 5167115440072839076)) (by have := Hsz.out; omega) (fun x hx => Nat.le_of_eq (Option.some.inj hx)))
        have HS_wb : Hid (KB < (wa.setCell ⟨KB, 21, none⟩ (.int .u64 5167115440072839076)).heap.size) := Lib.hid (by have := Hsz.out; simpa [World.setCell] using this)
        clear HH HBx Hsz
        generalize wa.setCell ⟨KB, 21, none⟩ (.int .u64 5167115440072839076) = wb at *
        have HH := HH_wb
        have HBx := HB_wb
        have Hsz := HS_wb
        clear HH_wb HB_wb HS_wb
        have r3 := (Hr.out.below HBx.out (by have := Hlt.out; omega)).cell (i := 7) rfl
        have k1 := HH.out.cell (i := 32) rfl
        have f1 := HH.out.frozen 32
        go_upto_region 9 with fail
        as_aux_lemma =>
        clear k1 f1 r1 r2 r3
        have HH_wc : Hid (HB (wb.setCell ⟨KB, 32, none⟩ (.int .u64 6620516959819538809)) KB 70 [.int .u8 0, .bool false, .int .i64 0, .int .u64 1779033703, .int .u64 3144134277, .int .u64 1013904242, .int .u64 2773480762, .int .u64 1359893119, .int .u64 2600822924, .int .u64 528734635, .int .u64 1541459225, .int .u8 0, .bool false, .int .i64 0, .int .u64 14680500436340154072, .int .u64 7105036623409894663, .int .u64 10473403895298186519, .int .u64 1526699215303891257, .int .u64 7436329637833083697, .int .u64 10282925794625328401, .int .u64 15784041429090275239, .int .u64 5167115440072839076, .int .u8 0, .bool false, .int .i64 0, .int .u64 7640891576956012808, .int .u64 13503953896175478587, .int .u64 4354685564936845355, .int .u64 11912009170470909681, .int .u64 5840696475078001361, .int .u64 11170449401992604703, .int .u64 2270897969802886507, .int .u64 6620516959819538809]) := Lib.hid (HH.out.set 32 (.int .u64 6620516959819538809))
        have HB_wc := Lib.hid (HBx.out.grown (grown_set wb ⟨KB, 32, none⟩ (.int .u64 6620516959819538809)) (by have := Hsz.out; omega) (fun x hx => Nat.le_of_eq (Option.some.inj hx)))
        have HS_wc : Hid (KB < (wb.setCell ⟨KB, 32, none⟩ (.int .u64 6620516959819538809)).heap.size) := Lib.hid (by have := Hsz.out; simpa [World.setCell] using this)
        clear HH HBx Hsz
        generalize wb.setCell ⟨KB, 32, none⟩ (.int .u64 6620516959819538809) = wc at *
        have HH := HH_wc
        have HBx := HB_wc
        have Hsz := HS_wc
        clear HH_wc HB_wc HS_wc
        go_wp2_with fail
        first
        | (go_roundw
           case rel => exact ⟨8, by omega, by go_num, HH.out, HBx.out, Hsz.out⟩
           case measure => (first | omega | (simp [intOf] <;> omega) | (simp only [intOf] <;> omega)))
        | exact ⟨⟨8, by omega, by go_num, HH.out, HBx.out, Hsz.out⟩, by (first | omega | (simp [intOf] <;> omega) | (simp only [intOf] <;> omega))⟩
        | (refine ⟨?_, by (first | omega | (simp [intOf] <;> omega) | (simp only [intOf] <;> omega))⟩
           (repeat apply Exists.intro)
           refine (fun a b => And.intro b a) ?_ ?_
           · first | rfl | ((repeat refine ⟨rfl, ?_⟩); rfl)
           exact ⟨8, by omega, by go_num, HH.out, HBx.out, Hsz.out⟩)
    · obtain rfl : t = 8 := by omega
      have k0 := HH.out.cell (i := 0) rfl
      have f0 := HH.out.frozen 0
      have k2 := HH.out.cell (i := 2) rfl
      have f2 := HH.out.frozen 2
      go_upto_region 11 with fail
      as_aux_lemma =>
      clear k0 f0 k2 f2
      have HH_wa : Hid (HB (wr.setCell ⟨KB, 0, none⟩ (.int .u8 1)) KB 70 [.int .u8 1, .bool false, .int .i64 0, .int .u64 1779033703, .int .u64 3144134277, .int .u64 1013904242, .int .u64 2773480762, .int .u64 1359893119, .int .u64 2600822924, .int .u64 528734635, .int .u64 1541459225, .int .u8 0, .bool false, .int .i64 0, .int .u64 14680500436340154072, .int .u64 7105036623409894663, .int .u64 10473403895298186519, .int .u64 1526699215303891257, .int .u64 7436329637833083697, .int .u64 10282925794625328401, .int .u64 15784041429090275239, .int .u64 5167115440072839076, .int .u8 0, .bool false, .int .i64 0, .int .u64 7640891576956012808, .int .u64 13503953896175478587, .int .u64 4354685564936845355, .int .u64 11912009170470909681, .int .u64 5840696475078001361, .int .u64 11170449401992604703, .int .u64 2270897969802886507, .int .u64 6620516959819538809]) := Lib.hid (HH.out.set 0 (.int .u8 1))
      have HB_wa := Lib.hid (HBx.out.grown (grown_set wr ⟨KB, 0, none⟩ (.int .u8 1)) (by have := Hsz.out; omega) (fun x hx => Nat.le_of_eq (Option.some.inj hx)))
      have HS_wa : Hid (KB < (wr.setCell ⟨KB, 0, none⟩ (.int .u8 1)).heap.size) := Lib.hid (by have := Hsz.out; simpa [World.setCell] using this)
      clear HH HBx Hsz
      generalize wr.setCell ⟨KB, 0, none⟩ (.int .u8 1) = wa at *
      have HH := HH_wa
      have HBx := HB_wa
      have Hsz := HS_wa
      clear HH_wa HB_wa HS_wa
      have HH_wb : Hid (HB (wa.setCell ⟨KB, 2, none⟩ (.int .i64 32)) KB 70 [.int .u8 1, .bool false, .int .i64 32, .int .u64 1779033703, .int .u64 3144134277, .int .u64 1013904242, .int .u64 2773480762, .int .u64 1359893119, .int .u64 2600822924, .int .u64 528734635, .int .u64 1541459225, .int .u8 0, .bool false, .int .i64 0, .int .u64 14680500436340154072, .int .u64 7105036623409894663, .int .u64 10473403895298186519, .int .u64 1526699215303891257, .int .u64 7436329637833083697, .int .u64 10282925794625328401, .int .u64 15784041429090275239, .int .u64 5167115440072839076, .int .u8 0, .bool false, .int .i64 0, .int .u64 7640891576956012808, .int .u64 13503953896175478587, .int .u64 4354685564936845355, .int .u64 11912009170470909681, .int .u64 5840696475078001361, .int .u64 11170449401992604703, .int .u64 2270897969802886507, .int .u64 6620516959819538809]) := Lib.hid (HH.out.set 2 (.int .i64 32))
      have HB_wb := Lib.hid (HBx.out.grown (grown_set wa ⟨KB, 2, none⟩ (.int .i64 32)) (by have := Hsz.out; omega) (fun x hx => Nat.le_of_eq (Option.some.inj hx)))
      have HS_wb : Hid (KB < (wa.setCell ⟨KB, 2, none⟩ (.int .i64 32)).heap.size) := Lib.hid (by have := Hsz.out; simpa [World.setCell] using this)
      clear HH HBx Hsz
      generalize wa.setCell ⟨KB, 2, none⟩ (.int .i64 32) = wb at *
      have HH := HH_wb
      have HBx := HB_wb
      have Hsz := HS_wb
      clear HH_wb HB_wb HS_wb
      have k11 := HH.out.cell (i := 11) rfl
      have f11 := HH.out.frozen 11
      have k13 := HH.out.cell (i := 13) rfl
      have f13 := HH.out.frozen 13
      have k12 := HH.out.cell (i := 12) rfl
      have f12 := HH.out.frozen 12
      go_upto_region 12 with fail
      as_aux_lemma =>
      clear k11 f11 k13 f13 k12 f12
      have HH_wc : Hid (HB (wb.setCell ⟨KB, 11, none⟩ (.int .u8 2)) KB 70 [.int .u8 1, .bool false, .int .i64 32, .int .u64 1779033703, .int .u64 3144134277, .int .u64 1013904242, .int .u64 2773480762, .int .u64 1359893119, .int .u64 2600822924, .int .u64 528734635, .int .u64 1541459225, .int .u8 2, .bool false, .int .i64 0, .int .u64 14680500436340154072, .int .u64 7105036623409894663, .int .u64 10473403895298186519, .int .u64 1526699215303891257, .int .u64 7436329637833083697, .int .u64 10282925794625328401, .int .u64 15784041429090275239, .int .u64 5167115440072839076, .int .u8 0, .bool false, .int .i64 0, .int .u64 7640891576956012808, .int .u64 13503953896175478587, .int .u64 4354685564936845355, .int .u64 11912009170470909681, .int .u64 5840696475078001361, .int .u64 11170449401992604703, .int .u64 2270897969802886507, .int .u64 6620516959819538809]) := Lib.hid (HH.out.set 11 (.int .u8 2))
      have HB_wc := Lib.hid (HBx.out.grown (grown_set wb ⟨KB, 11, none⟩ (.int .u8 2)) (by have := Hsz.out; omega) (fun x hx => Nat.le_of_eq (Option.some.inj hx)))
      have HS_wc : Hid (KB < (wb.setCell ⟨KB, 11, none⟩ (.int .u8 2)).heap.size) := Lib.hid (by have := Hsz.out; simpa [World.setCell] using this)
      clear HH HBx Hsz
      generalize wb.setCell ⟨KB, 11, none⟩ (.int .u8 2) = wc at *
      have HH := HH_wc
      have HBx := HB_wc
      have Hsz := HS_wc
      clear HH_wc HB_wc HS_wc
      have HH_wd : Hid (HB (wc.setCell ⟨KB, 13, none⟩ (.int .i64 48)) KB 70 [.int .u8 1, .bool false, .int .i64 32, .int .u64 1779033703, .int .u64 3144134277, .int .u64 1013904242, .int .u64 2773480762, .int .u64 1359893119, .int .u64 2600822924, .int .u64 528734635, .int .u64 1541459225, .int .u8 2, .bool false, .int .i64 48, .int .u64 14680500436340154072, .int .u64 7105036623409894663, .int .u64 10473403895298186519, .int .u64 1526699215303891257, .int .u64 7436329637833083697, .int .u64 10282925794625328401, .int .u64 15784041429090275239, .int .u64 5167115440072839076, .int .u8 0, .bool false, .int .i64 0, .int .u64 7640891576956012808, .int .u64 13503953896175478587, .int .u64 4354685564936845355, .int .u64 11912009170470909681, .int .u64 5840696475078001361, .int .u64 11170449401992604703, .int .u64 2270897969802886507, .int .u64 6620516959819538809]) := Lib.hid (HH.out.set 13 (.int .i64 48))
      have HB_wd := Lib.hid (HBx.out.grown (grown_set wc ⟨KB, 13, none⟩ (.int .i64 48)) (by have := Hsz.out; omega) (fun x hx => Nat.le_of_eq (Option.some.inj hx)))
      have HS_wd : Hid (KB < (wc.setCell ⟨KB, 13, none⟩ (.int .i64 48)).heap.size) := Lib.hid (by have := Hsz.out; simpa [World.setCell] using this)
      clear HH HBx Hsz
      generalize wc.setCell ⟨KB, 13, none⟩ (.int .i64 48) = wd at *
      have HH := HH_wd
      have HBx := HB_wd
      have Hsz := HS_wd
      clear HH_wd HB_wd HS_wd
      have HH_we : Hid (HB (wd.setCell ⟨KB, 12, none⟩ (.bool true)) KB 70 [.int .u8 1, .bool false, .int .i64 32, .int .u64 1779033703, .int .u64 3144134277, .int .u64 1013904242, .int .u64 2773480762, .int .u64 1359893119, .int .u64 2600822924, .int .u64 528734635, .int .u64 1541459225, .int .u8 2, .bool true, .int .i64 48, .int .u64 14680500436340154072, .int .u64 7105036623409894663, .int .u64 10473403895298186519, .int .u64 1526699215303891257, .int .u64 7436329637833083697, .int .u64 10282925794625328401, .int .u64 15784041429090275239, .int .u64 5167115440072839076, .int .u8 0, .bool false, .int .i64 0, .int .u64 7640891576956012808, .int .u64 13503953896175478587, .int .u64 4354685564936845355, .int .u64 11912009170470909681, .int .u64 5840696475078001361, .int .u64 11170449401992604703, .int .u64 2270897969802886507, .int .u64 6620516959819538809]) := Lib.hid (HH.out.set 12 (.bool true))
      have HB_we := Lib.hid (HBx.out.grown (grown_set wd ⟨KB, 12, none⟩ (.bool true)) (by have := Hsz.out; omega) (fun x hx => Nat.le_of_eq (Option.some.inj hx)))
      have HS_we : Hid (KB < (wd.setCell ⟨KB, 12, none⟩ (.bool true)).heap.size) := Lib.hid (by have := Hsz.out; simpa [World.setCell] using this)
      clear HH HBx Hsz
      generalize wd.setCell ⟨KB, 12, none⟩ (.bool true) = we at *
      have HH := HH_we
      have HBx := HB_we
      have Hsz := HS_we
      clear HH_we HB_we HS_we
      have k22 := HH.out.cell (i := 22) rfl
      have f22 := HH.out.frozen 22
      have k24 := HH.out.cell (i := 24) rfl
      have f24 := HH.out.frozen 24
      have k23 := HH.out.cell (i := 23) rfl
      have f23 := HH.out.frozen 23
      go_upto_region 13 with fail
      as_aux_lemma =>
      clear k22 f22 k24 f24 k23 f23
      have HH_wf : Hid (HB (we.setCell ⟨KB, 22, none⟩ (.int .u8 3)) KB 70 [.int .u8 1, .bool false, .int .i64 32, .int .u64 1779033703, .int .u64 3144134277, .int .u64 1013904242, .int .u64 2773480762, .int .u64 1359893119, .int .u64 2600822924, .int .u64 528734635, .int .u64 1541459225, .int .u8 2, .bool true, .int .i64 48, .int .u64 14680500436340154072, .int .u64 7105036623409894663, .int .u64 10473403895298186519, .int .u64 1526699215303891257, .int .u64 7436329637833083697, .int .u64 10282925794625328401, .int .u64 15784041429090275239, .int .u64 5167115440072839076, .int .u8 3, .bool false, .int .i64 0, .int .u64 7640891576956012808, .int .u64 13503953896175478587, .int .u64 4354685564936845355, .int .u64 11912009170470909681, .int .u64 5840696475078001361, .int .u64 11170449401992604703, .int .u64 2270897969802886507, .int .u64 6620516959819538809]) := Lib.hid (HH.out.set 22 (.int .u8 3))
      have HB_wf := Lib.hid (HBx.out.grown (grown_set we ⟨KB, 22, none⟩ (.int .u8 3)) (by have := Hsz.out; omega) (fun x hx => Nat.le_of_eq (Option.some.inj hx)))
      have HS_wf : Hid (KB < (we.setCell ⟨KB, 22, none⟩ (.int .u8 3)).heap.size) := Lib.hid (by have := Hsz.out; simpa [World.setCell] using this)
      clear HH HBx Hsz
      generalize we.setCell ⟨KB, 22, none⟩ (.int .u8 3) = wf at *
      have HH := HH_wf
      have HBx := HB_wf
      have Hsz := HS_wf
      clear HH_wf HB_wf HS_wf
      have HH_wg : Hid (HB (wf.setCell ⟨KB, 24, none⟩ (.int .i64 64)) KB 70 [.int .u8 1, .bool false, .int .i64 32, .int .u64 1779033703, .int .u64 3144134277, .int .u64 1013904242, .int .u64 2773480762, .int .u64 1359893119, .int .u64 2600822924, .int .u64 528734635, .int .u64 1541459225, .int .u8 2, .bool true, .int .i64 48, .int .u64 14680500436340154072, .int .u64 7105036623409894663, .int .u64 10473403895298186519, .int .u64 1526699215303891257, .int .u64 7436329637833083697, .int .u64 10282925794625328401, .int .u64 15784041429090275239, .int .u64 5167115440072839076, .int .u8 3, .bool false, .int .i64 64, .int .u64 7640891576956012808, .int .u64 13503953896175478587, .int .u64 4354685564936845355, .int .u64 11912009170470909681, .int .u64 5840696475078001361, .int .u64 11170449401992604703, .int .u64 2270897969802886507, .int .u64 6620516959819538809]) := Lib.hid (HH.out.set 24 (.int .i64 64))
      have HB_wg := Lib.hid (HBx.out.grown (grown_set wf ⟨KB, 24, none⟩ (.int .i64 64)) (by have := Hsz.out; omega) (fun x hx => Nat.le_of_eq (Option.some.inj hx)))
      have HS_wg : Hid (KB < (wf.setCell ⟨KB, 24, none⟩ (.int .i64 64)).heap.size) := Lib.hid (by have := Hsz.out; simpa [World.setCell] using this)
      clear HH HBx Hsz
      generalize wf.setCell ⟨KB, 24, none⟩ (.int .i64 64) = wg at *
      have HH := HH_wg
      have HBx := HB_wg
      have Hsz := HS_wg
      clear HH_wg HB_wg HS_wg
      have HH_wh : Hid (HB (wg.setCell ⟨KB, 23, none⟩ (.bool true)) KB 70 [.int .u8 1, .bool false, .int .i64 32, .int .u64 1779033703, .int .u64 3144134277, .int .u64 1013904242, .int .u64 2773480762, .int .u64 1359893119, .int .u64 2600822924, .int .u64 528734635, .int .u64 1541459225, .int .u8 2, .bool true, .int .i64 48, .int .u64 14680500436340154072, .int .u64 7105036623409894663, .int .u64 10473403895298186519, .int .u64 1526699215303891257, .int .u64 7436329637833083697, .int .u64 10282925794625328401, .int .u64 15784041429090275239, .int .u64 5167115440072839076, .int .u8 3, .bool true, .int .i64 64, .int .u64 7640891576956012808, .int .u64 13503953896175478587, .int .u64 4354685564936845355, .int .u64 11912009170470909681, .int .u64 5840696475078001361, .int .u64 11170449401992604703, .int .u64 2270897969802886507, .int .u64 6620516959819538809]) := Lib.hid (HH.out.set 23 (.bool true))
      have HB_wh := Lib.hid (HBx.out.grown (grown_set wg ⟨KB, 23, none⟩ (.bool true)) (by have := Hsz.out; omega) (fun x hx => Nat.le_of_eq (Option.some.inj hx)))
      have HS_wh : Hid (KB < (wg.setCell ⟨KB, 23, none⟩ (.bool true)).heap.size) := Lib.hid (by have := Hsz.out; simpa [World.setCell] using this)
      clear HH HBx Hsz
      generalize wg.setCell ⟨KB, 23, none⟩ (.bool true) = wh at *
      have HH := HH_wh
      have HBx := HB_wh
      have Hsz := HS_wh
      clear HH_wh HB_wh HS_wh
      have HK : Hid (HB wh KB 70 kall) := Lib.hid HH.out
      have HRw := Lib.hid (HR.out.below HBx.out (by have := Hlt.out; omega))
      have Hrg := Lib.hid HK.out.whole
      have Hi33 : Hid ((Tryd.prog.info? 70).map (·.size) = some kall.length) := Lib.hid (by kernel_rfl)
      have Hi33' : Hid ((Tryd.prog.info? 70).map (·.size) = some kall.toArray.size) := Lib.hid (by kernel_rfl)
      have Hk33 : Hid ((kzL 0).toArray.size = kall.toArray.size) := Lib.hid (by decide +kernel)
      have Hone : Hid (kall.toArray.all (·.oneCell') = true) := Lib.hid (by decide +kernel)
      have hR8 : HB (wh.setRow R kall.toArray) R 70 kall := setRow_heap wh R _ kall.toArray _ _ HRw.out
      have Hv := Lib.hid (run_loadVar_mid (P := Tryd.prog) _ R 0 70 kall _ hR8.whole Tryd.underlying70 rfl Hi33.out)
      have HBf := Lib.hid ((HB4.out.trans (HBx.out.mono (by have := Hlt.out; omega))).grown (grown_row wh R kall.toArray) (by have := Hsz.out; have := Hlt.out; omega) (fun x hx => Nat.le_of_eq (Option.some.inj hx)))
      clear hR8 HH HK HR HBx Hsz Hr Hrr
      as_aux_lemma =>
      go_wp2_with (first | (refine wpList_load_mid rfl _ _ rfl KB 0 rfl kall _ Hrg.out Tryd.underlying70 rfl Hi33.out ?_) | (refine wpList_store_row rfl _ _ _ rfl R kall.toArray rfl rfl _ _ HRw.out Hi33'.out Hk33.out Hone.out ?_))
      generalize wh.setRow R kall.toArray = w9 at *
      have hv := Hv.out
      refine bodyPost_ret (v := .agg kall.toArray) (by simp [results, Tryd.results39, asAddr, hv, Result.andThen, Act.put]; try rfl) rfl ⟨rfl, by rw [HRx.out]; exact HBf.out⟩
end Go.Proofs.YtngkelflfahjbaaDoor
