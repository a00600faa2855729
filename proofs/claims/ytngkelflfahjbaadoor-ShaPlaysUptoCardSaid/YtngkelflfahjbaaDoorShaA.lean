/- Chapter 2's law: awake. No condition. -/
import Derived.Test.YtngkelflfahjbaaDoorShaO
set_option linter.unusedVariables false
set_option linter.unusedSimpArgs false
namespace Go.Proofs.YtngkelflfahjbaaDoor
open Go.RowKit
def z32b : List Value := List.replicate 32 (bv 0)
set_option maxRecDepth 100000 in
set_option maxHeartbeats 1000000 in
theorem awake02_any (w : World) (htab : TabOk w) (h00 : 0 < w.heap.size) :
    Calls Tryd.prog 9 #[] w fun e w' => e = .returned (.bool true) ∧ Below w.heap.size w w' := by
  have hz : ∀ w, (zeroValue 25).run Tryd.prog w = .ok (.agg z32b.toArray) w := fun w => by kernel_rfl
  have HB0 := Lib.hid ((Below.refl w.heap.size w).alloc (Nat.le_refl _) (.cells #[.int .u8 97, .int .u8 98, .int .u8 99] 5 (3, 4)))
  have Hs := Lib.hid (psum32 (some ⟨w.heap.size, 0, none⟩) 3 3 [97, 98, 99] (w.alloc (.cells #[.int .u8 97, .int .u8 98, .int .u8 99] 5 (3, 4))) rfl (by decide) (by decide) (fun h => by cases h) (Rd.new w [97, 98, 99] _ _) (fun a e => by cases e; simp) (htab.below HB0.out) (by simp))
  obtain ⟨a0, a1, a31⟩ := abc_dig
  have hdl := digS_len 1 (by decide) (firstK 1) 3 [97, 98, 99]
  generalize digS 1 (firstK 1) 3 [97, 98, 99] = dg at *
  have Hi' : Hid ((Tryd.prog.info? 25).map (·.size) = some (dg.map bv).toArray.size) := Lib.hid (by rw [List.size_toArray, List.length_map, hdl]; kernel_rfl)
  have Hsz : Hid (z32b.toArray.size = (dg.map bv).toArray.size) := Lib.hid (by simp [hdl, z32b]; rfl)
  have Hone : Hid ((dg.map bv).toArray.all (·.oneCell') = true) := Lib.hid (by simp [bv, Value.oneCell'])
  have HA := Lib.hid (And.intro a0 (And.intro a1 a31))
  have kc := fun (w : World) (C : Array Value) (n c : Nat) => Lib.run_convert_bytes_const (P := Tryd.prog) w 22 5 C n c Tryd.underlying22 Tryd.underlying5
  clear htab h00 hdl a0 a1 a31
  go_enter Tryd.func9, Tryd.ntmps9
  go_wp2_with fail
  as_aux_lemma =>
  refine Hs.out.mono ?_
  rintro e w1 ⟨rfl, hb⟩
  have HB1 := Lib.hid (HB0.out.trans (hb.mono (by simp)))
  have HV := Lib.hid (HB.new w1 z32b 25)
  have HW : HB ((w1.alloc (.cells z32b.toArray 25)).setRow w1.heap.size (dg.map bv).toArray) w1.heap.size 25 (dg.map bv) := setRow_heap _ _ _ _ _ _ HV.out
  have HBf := Lib.hid ((HB1.out.alloc HB1.out.size (.cells z32b.toArray 25)).grown (grown_row (w1.alloc (.cells z32b.toArray 25)) w1.heap.size (dg.map bv).toArray) (by have := HB1.out.size; simp; omega) (fun x hx => by have := Option.some.inj hx; have := HB1.out.size; omega))
  have k0 := HW.cell (i := 0) (v := .int .u8 186) (by rw [List.getElem?_map, HA.out.1]; rfl)
  have k1 := HW.cell (i := 1) (v := .int .u8 120) (by rw [List.getElem?_map, HA.out.2.1]; rfl)
  have k31 := HW.cell (i := 31) (v := .int .u8 173) (by rw [List.getElem?_map, HA.out.2.2]; rfl)
  clear hb Hs HB0 HW
  go_wp2_with (refine wpList_store_row rfl _ _ _ rfl w1.heap.size (dg.map bv).toArray rfl rfl _ _ HV.out Hi'.out Hsz.out Hone.out ?_)
  go_ret
  exact ⟨rfl, HBf.out⟩
theorem write_nil (w : World) (v : Value) : Calls Tryd.prog 18 #[.pointer none, v] w fun e w' => e = .returned (.int .i64 1) ∧ w = w' := by
  go_enter Tryd.func18, Tryd.ntmps18
  go_wp2_with fail
  first
  | (go_ret; exact ⟨rfl, rfl⟩)
  | (go_end0; exact ⟨rfl, rfl⟩)
theorem reset_nil (w : World) (v : Value) : Calls Tryd.prog 19 #[.pointer none] w fun e w' => e = .returned (.tuple #[]) ∧ w = w' := by
  go_enter Tryd.func19, Tryd.ntmps19
  go_wp2_with fail
  first
  | (go_ret; exact ⟨rfl, rfl⟩)
  | (go_end0; exact ⟨rfl, rfl⟩)
theorem sum_nil (w : World) (v : Value) : Calls Tryd.prog 20 #[.pointer none] w fun e w' => e = .returned (.slice none 0 0) ∧ w = w' := by
  go_enter Tryd.func20, Tryd.ntmps20
  go_wp2_with fail
  first
  | (go_ret; exact ⟨rfl, rfl⟩)
  | (go_end0; exact ⟨rfl, rfl⟩)
theorem state_nil (w : World) (v : Value) : Calls Tryd.prog 21 #[.pointer none] w fun e w' => e = .returned (.slice none 0 0) ∧ w = w' := by
  go_enter Tryd.func21, Tryd.ntmps21
  go_wp2_with fail
  first
  | (go_ret; exact ⟨rfl, rfl⟩)
  | (go_end0; exact ⟨rfl, rfl⟩)
theorem len_nil (w : World) (v : Value) : Calls Tryd.prog 22 #[.pointer none] w fun e w' => e = .returned (.int .u64 0) ∧ w = w' := by
  go_enter Tryd.func22, Tryd.ntmps22
  go_wp2_with fail
  first
  | (go_ret; exact ⟨rfl, rfl⟩)
  | (go_end0; exact ⟨rfl, rfl⟩)
end Go.Proofs.YtngkelflfahjbaaDoor
