/- A stage gets the lowest place that does: the walk. No condition. -/
import Derived.Test.YthhodibfbfmijaaMapA
import Derived.Test.YthhodibfbfmijaaOpenG
namespace Go.Proofs.Ythhodibfbfmijaa.mapPlaces
open Go.ChangeShapes Go.WideShapes Go.ChangeAt Go.RowKit
set_option linter.unusedVariables false
set_option linter.unusedSimpArgs false
set_option maxHeartbeats 1000000 in
theorem core (w : World) (ao : Option Addr) (len cap : Nat) (l : List Rg) (i : Int) (n a : Nat) (s wb x : Bool) (hl : l.length = len) (hlc : len ≤ cap) (hcap : cap * 24 ≤ 140737488351232) (hr : RdG w ao l) (hc : ao = none → cap = 0) (hok : RgsOk l) (ha : a < 18446744073709551616) :
    Calls Try.prog 3 #[.slice ao len cap, wv i n a s wb x] w fun e w' => e = .returned (.bool true) ∧ Below w.heap.size w w' := by
  have hguard : Try.prog.eqGuardType Try.prog.depth 30 = false := by kernel_rfl
  have hb0 : ∀ o, Below w.heap.size w (w.alloc o) := fun o => (Below.refl _ _).alloc (Nat.le_refl _) o
  have hBox := Blk.new w [.int .i64 i, .int .u64 n, .int .u64 a, .bool s, .bool wb, .bool x] 26
  have HP1 := fun ao' cap' w' h => Lib.hid (place_any ao' len cap' l i n a s wb x w' hl (by omega) h hok ha)
  have HP2 := fun w' h => Lib.hid (rplace_any ao len cap l i n a s wb x w' hl (by omega) h hok)
  have heq := fun w => rg_equal (plR l n a s wb x).1 (plR l n a s wb x).1 w
  simp only [decide_true] at heq
  generalize (plR l n a s wb x).1 = R at *
  generalize (plR l n a s wb x).2 = E at *
  have Hhc := Lib.hid hc
  clear hc
  have Hha := Lib.hid ha
  clear ha
  have Hhok := Lib.hid hok
  clear hok
  unfold wv rgv at *
  go_enter Try.func3, Try.ntmps3
  go_wp2_with fail
  refine (awake_any _).mono ?_
  rintro e w1 ⟨rfl, hb1⟩
  have hB1 := (hb0 _).trans (hb1.mono (hb0 _).size)
  have hX1 := hBox.below hb1
  clear hb1 hb0 hBox
  go_wp2_with fail
  refine (own_any ao len cap l w1 hl (by omega) Hhc.out (hr.below hB1)).mono ?_
  rintro e w2 ⟨g, C, rfl, hC, hown, hb2⟩
  have hB2 := hB1.trans (hb2.mono hB1.size)
  have hX2 := hX1.below hb2
  obtain ⟨⟨b0, b1, b2, b3, b4, b5⟩, -⟩ := hX2.six
  clear hb2 hB1 hX1
  go_wp2_with fail
  refine (HP1 _ _ _ (hown.lend hl).1).out.mono ?_
  rintro e w3 ⟨rfl, hb3⟩
  have hB3 := hB2.trans (hb3.mono hB2.size)
  have hown3 := hown.later hb3
  have hX3 := hX2.below hb3
  clear b0 b1 b2 b3 b4 b5 hb3 hB2 hX2 hown
  have b0 := fun o => (hX3.alloc o).2.1 0 _ rfl
  have b1 := fun o => (hX3.alloc o).2.1 1 _ rfl
  have b2 := fun o => (hX3.alloc o).2.1 2 _ rfl
  have b3 := fun o => (hX3.alloc o).2.1 3 _ rfl
  have b4 := fun o => (hX3.alloc o).2.1 4 _ rfl
  have b5 := fun o => (hX3.alloc o).2.1 5 _ rfl
  have hr3 := fun o => hr.below (hB3.alloc hB3.size o)
  go_wp2_with fail
  refine (HP2 _ (hr3 _)).out.mono ?_
  rintro e w4 ⟨rfl, hb4⟩
  have hR4 := (Blk.new w3 [.int .u64 R.base, .int .u64 R.size, .bool R.r, .bool R.w, .bool R.x, .bool R.s] 30).below hb4
  have hB4 : Below w.heap.size w w4 := (hB3.alloc hB3.size _).trans (hb4.mono (by have := hB3.size; simp; omega))
  have hown4 := (hown3.alloc _).later hb4
  clear b0 b1 b2 b3 b4 b5 hr3 hb4 hB3 hX3 hown3
  have hr4 := fun o => hr.below (hB4.alloc hB4.size o)
  have hown5 := fun o => hown4.alloc o
  have hR5 := fun o => hR4.alloc o
  have hB5 := fun o => hB4.alloc hB4.size o
  have hT5 := Blk.new w4 [.int .u64 R.base, .int .u64 R.size, .bool R.r, .bool R.w, .bool R.x, .bool R.s] 30
  go_wp2_with fail
  refine (still_any ao g len C cap _ l _ hl (by omega) hC (hr4 _) (hown5 _)).mono ?_
  rintro e w6 ⟨rfl, hd⟩
  obtain ⟨⟨c0, c1, c2, c3, c4, c5⟩, -⟩ := ((hR5 _).drn hd).six
  obtain ⟨⟨d0, d1, d2, d3, d4, d5⟩, -⟩ := (hT5.drn hd).six
  have hB6 := (hB5 _).trans (hd.below _)
  clear hd hR5 hB5 hT5 hr4 hown5 hown4 hR4 hB4 HP1 HP2
  go_wp2_with fail
  go_ret
  exact ⟨rfl, hB6⟩
theorem walk {H : Type} (enc : TypeId × Value → H) (W : World) (base : Nat) (v0 : Value) (d0 : DataW H) (p0 : List MemPlace) (v1 : Value) (d1 : DataW H) (p1 : List MemPlace)
    (k0 : Value.okWide Try.prog W .any base 22 v0) (k1 : Value.okWide Try.prog W .any base 26 v1)
    (h0 : DataW.Trod enc Try.prog W 0 (fun _ => true) true 22 v0 d0 p0) (h1 : DataW.Trod enc Try.prog W 0 (fun _ => true) true 26 v1 d1 p1)
    (hsz : (DataW.weightsEach Try.prog [22, 26] ([d0, d1] ++ [])).all (· ≤ reachBytes) = true) :
    Calls Try.prog 3 #[v0, v1] W fun e w' => e = .returned (.bool true) ∧ Below W.heap.size W w' := by
  simp only [DataW.weightsEach, List.cons_append, List.nil_append] at hsz
  obtain ⟨z0, zz⟩ := all_app hsz
  obtain ⟨z1, _⟩ := all_app zz
  obtain ⟨ao, len, cap, l, rfl, hl, hlc, hcap, hr, hc, hok⟩ := open_regions k0 h0 z0
  obtain ⟨cs_, xs_, n_, rfl, hsz_, rfl, hxl_, hf_⟩ := open_struct Try.underlying26 k1 h1
  obtain ⟨c_I, c_N, c_A, c_S, c_Wb, c_X, rfl⟩ := arr6 (hsz_.trans (by kernel_rfl : Try.prog.cellsOf 26 = 6))
  obtain ⟨y_I, y_N, y_A, y_S, y_Wb, y_X, rfl⟩ := lst6 (hxl_.trans rfl)
  have cltbarbicanapiImage : Try.prog.cellsOf 23 = 1 := by kernel_rfl
  have cltbool : Try.prog.cellsOf 4 = 1 := by kernel_rfl
  have cltuint64 : Try.prog.cellsOf 24 = 1 := by kernel_rfl
  have e_I : DataW.trod enc Try.prog W 0 (fun _ => true) true n_ 23 [c_I] = some y_I := by have := hf_ 0 _ rfl; simpa [cltbarbicanapiImage] using this
  have e_N : DataW.trod enc Try.prog W 0 (fun _ => true) true n_ 24 [c_N] = some y_N := by have := hf_ 1 _ rfl; simpa [cltuint64] using this
  have e_A : DataW.trod enc Try.prog W 0 (fun _ => true) true n_ 24 [c_A] = some y_A := by have := hf_ 2 _ rfl; simpa [cltuint64] using this
  have e_S : DataW.trod enc Try.prog W 0 (fun _ => true) true n_ 4 [c_S] = some y_S := by have := hf_ 3 _ rfl; simpa [cltbool] using this
  have e_Wb : DataW.trod enc Try.prog W 0 (fun _ => true) true n_ 4 [c_Wb] = some y_Wb := by have := hf_ 4 _ rfl; simpa [cltbool] using this
  have e_X : DataW.trod enc Try.prog W 0 (fun _ => true) true n_ 4 [c_X] = some y_X := by have := hf_ 5 _ rfl; simpa [cltbool] using this
  simp only [DataW.weights, Try.underlying26, List.map_cons, List.map_nil, DataW.weightsEach] at z1
  obtain ⟨z_I, zz_0⟩ := all_app z1
  obtain ⟨z_N, zz_1⟩ := all_app zz_0
  obtain ⟨z_A, zz_2⟩ := all_app zz_1
  obtain ⟨z_S, zz_3⟩ := all_app zz_2
  obtain ⟨z_Wb, zz_4⟩ := all_app zz_3
  obtain ⟨z_X, zz_5⟩ := all_app zz_4
  obtain ⟨I, rfl, h0_I, h1_I⟩ := trod_i64 Try.underlying23 e_I
  obtain ⟨N, rfl, h_N⟩ := trod_u64 Try.underlying24 e_N
  obtain ⟨A, rfl, h_A⟩ := trod_u64 Try.underlying24 e_A
  obtain ⟨S, rfl⟩ := trod_b Try.underlying4 e_S
  obtain ⟨Wb, rfl⟩ := trod_b Try.underlying4 e_Wb
  obtain ⟨X, rfl⟩ := trod_b Try.underlying4 e_X
  clear hf_ hsz_ hxl_ e_I e_N e_A e_S e_Wb e_X z_I z_N z_A z_S z_Wb z_X zz_0 zz_1 zz_2 zz_3 zz_4 zz_5 z1 cltbarbicanapiImage cltbool cltuint64
  exact core W ao len cap l _ _ _ _ _ _ hl hlc hcap hr hc hok h_A
end Go.Proofs.Ythhodibfbfmijaa.mapPlaces
