/- No RAM: the walk. No condition. -/
import Derived.Test.YtcbiohpgmooefaaRmNi
import Derived.Test.YtcbiohpgmooefaaRmL
import Derived.Test.YtcbiohpgmooefaaRmE
namespace Go.Proofs.Ytcbiohpgmooefaa.ramNil
open Go.ChangeShapes Go.WideShapes Go.ChangeAt Go.RowKit
set_option linter.unusedVariables false
set_option linter.unusedSimpArgs false
attribute [local go_sem ↓] build_rg
set_option maxRecDepth 100000 in
set_option maxHeartbeats 1000000 in
theorem core (w : World) (g : Rg) (x : Nat) (ao : Option Addr) (n cap : Nat) (hn : n ≤ 9223372036854775807) :
    Calls Try.prog 6 #[rgv g, .int .u64 x, .slice ao n cap] w fun e w' => e = .returned (.bool true) ∧ Below w.heap.size w w' := by
  have hz := run_buildRg0
  have hX := HB.new w (rgc g) 33
  have hb0 := (Below.refl w.heap.size w).alloc (Nat.le_refl _) (.cells (rgc g).toArray 33)
  have heq : ∀ w, (Op.equalIn 10000 33 (.agg #[.int .u64 0, .int .u64 0, .bool false, .bool false, .bool false, .bool false]) (.agg #[.int .u64 0, .int .u64 0, .bool false, .bool false, .bool false, .bool false])).run Try.prog w = .ok true w := fun w => by
    have h := rg_equal default default w
    rw [decide_eq_true rfl] at h
    exact h
  have Hfn := Lib.hid (fun w' => (show Calls Try.prog 13 #[.pointer none, .int .u64 x] w' (fun e w'' => e = .returned (.tuple #[.agg #[.int .u64 0, .int .u64 0, .bool false, .bool false, .bool false, .bool false], .bool false]) ∧ Below w'.heap.size w' w'') from find_nil x w'))
  have hguard : Try.prog.eqGuardType Try.prog.depth 33 = false := by kernel_rfl
  have Hadd := Lib.hid (fun w => add_nil g w)
  have Hst := Lib.hid (fun w => store_nil true x ao n cap w hn)
  obtain ⟨X, hXx⟩ : ∃ X, w.heap.size = X := ⟨_, rfl⟩
  have HXx := fun (_ : Unit) => Lib.hid hXx
  obtain ⟨w0, hw0⟩ : ∃ w0, w.alloc (.cells (rgc g).toArray 33) = w0 := ⟨_, rfl⟩
  rw [hw0, hXx] at hX
  rw [hw0] at hb0
  have HX := Lib.hid hX
  have Hb0 := Lib.hid hb0
  obtain ⟨gb, gn, gr, gw, gx, gs⟩ := g
  unfold rgc at hw0
  unfold rgv at Hadd ⊢
  dsimp only at *
  clear hX hb0 hn
  go_enter Try.func6, Try.ntmps6
  go_wp2_with (first
    | (go_at_call 20; refine (load_nil _ _ _ _).mono ?_; rintro e w' ⟨rfl, rfl⟩)
    | (go_at_call 21; refine (fetch_nil _ _ _ _).mono ?_; rintro e w' ⟨rfl, rfl⟩)
    | (go_at_call 11; refine (peek_nil _ _ _).mono ?_; rintro e w' ⟨rfl, rfl⟩))
  refine (Hfn.out _).mono ?_
  rintro e w1 ⟨rfl, hb1⟩
  have HX1 := Lib.hid (HX.out.later hb1)
  have Hb1 := Lib.hid (Hb0.out.trans (hb1.mono Hb0.out.size))
  have hZ := HB.new w1 (rgc default) 33
  have hb2 := (Below.refl w1.heap.size w1).alloc (Nat.le_refl _) (.cells (rgc default).toArray 33)
  obtain ⟨Z, hZz⟩ : ∃ Z, w1.heap.size = Z := ⟨_, rfl⟩
  obtain ⟨w2, hw2⟩ : ∃ w2, w1.alloc (.cells (rgc default).toArray 33) = w2 := ⟨_, rfl⟩
  rw [hw2, hZz] at hZ
  rw [hw2] at hb2
  have hw3 : w1.alloc (.cells #[.int .u64 0, .int .u64 0, .bool false, .bool false, .bool false, .bool false] 33) = w2 := hw2
  have HZ := Lib.hid hZ
  have HX2 := Lib.hid (HX1.out.later hb2)
  have Hb2 := Lib.hid (Hb1.out.trans (hb2.mono Hb1.out.size))
  have Hw3 := fun (_ : Unit) => Lib.hid hw3
  clear hb1 hZ hb2 hw2 hw0 hXx HX Hb0 hw3
  go_wp2_with (first
    | (go_at_call 22; refine (wipe_nil _).mono ?_; rintro e w' ⟨rfl, rfl⟩)
    | (go_at_call 15; refine (regions_nil _).mono ?_; rintro e w' ⟨rfl, rfl⟩))
  rw [(Hw3 ()).out]
  clear Hw3 hZz
  refine (alive_any _).mono ?_
  rintro e w3 ⟨rfl, hb3⟩
  have hX3 := HX2.out.later hb3
  have hZ3 := HZ.out.later hb3
  have Hb3 := Lib.hid (Hb2.out.trans (hb3.mono Hb2.out.size))
  have x0 := hX3.cell (i := 0) rfl
  have x1 := hX3.cell (i := 1) rfl
  have x2 := hX3.cell (i := 2) rfl
  have x3 := hX3.cell (i := 3) rfl
  have x4 := hX3.cell (i := 4) rfl
  have x5 := hX3.cell (i := 5) rfl
  have z0 : w3.cell? ⟨Z, 0, none⟩ = some (.int .u64 0) := hZ3.cell (i := 0) rfl
  have z1 : w3.cell? ⟨Z, 1, none⟩ = some (.int .u64 0) := hZ3.cell (i := 1) rfl
  have z2 : w3.cell? ⟨Z, 2, none⟩ = some (.bool false) := hZ3.cell (i := 2) rfl
  have z3 : w3.cell? ⟨Z, 3, none⟩ = some (.bool false) := hZ3.cell (i := 3) rfl
  have z4 : w3.cell? ⟨Z, 4, none⟩ = some (.bool false) := hZ3.cell (i := 4) rfl
  have z5 : w3.cell? ⟨Z, 5, none⟩ = some (.bool false) := hZ3.cell (i := 5) rfl
  clear hb3 hX3 hZ3 HX2 HZ Hb2
  go_wp2_with fail
  refine (Hadd.out _).mono ?_
  rintro e w4 ⟨rfl, hb4⟩
  have Hb4 := Lib.hid (Hb3.out.trans (hb4.mono Hb3.out.size))
  clear hb4 x0 x1 x2 x3 x4 x5 z0 z1 z2 z3 z4 z5 Hadd heq hz
  go_wp2_with fail
  refine (drop_nil _ _).mono ?_
  rintro e w5 ⟨rfl, hb5⟩
  have Hb5 := Lib.hid (Hb4.out.trans (hb5.mono Hb4.out.size))
  clear hb5
  go_wp2_with (first
    | (go_at_call 23; refine (may_nil _ _ _ _ _).mono ?_; rintro e w' ⟨rfl, rfl⟩)
    | (go_at_call 12; refine (Hst.out _).mono ?_; rintro e w' ⟨rfl, rfl⟩)
    | (go_at_call 10; refine (place_nil _ _ _ _ _).mono ?_; rintro e w' ⟨rfl, rfl⟩))
  go_ret
  exact ⟨rfl, Hb5.out⟩
set_option maxRecDepth 100000 in
theorem walk {H : Type} (enc : TypeId × Value → H) (W : World) (base : Nat) (v0 : Value) (d0 : DataW H) (p0 : List MemPlace) (v1 : Value) (d1 : DataW H) (p1 : List MemPlace) (v2 : Value) (d2 : DataW H) (p2 : List MemPlace)
    (k0 : Value.okWide Try.prog W .any base 33 v0) (k1 : Value.okWide Try.prog W .any base 24 v1) (k2 : Value.okWide Try.prog W .any base 23 v2)
    (h0 : DataW.Trod enc Try.prog W 0 (fun _ => true) true 33 v0 d0 p0) (h1 : DataW.Trod enc Try.prog W 0 (fun _ => true) true 24 v1 d1 p1) (h2 : DataW.Trod enc Try.prog W 0 (fun _ => true) true 23 v2 d2 p2)
    (hsz : (DataW.weightsEach Try.prog [33, 24, 23] ([d0, d1, d2] ++ [])).all (· ≤ reachBytes) = true) :
    Calls Try.prog 6 #[v0, v1, v2] W fun e w' => e = .returned (.bool true) ∧ Below W.heap.size W w' := by
  simp only [DataW.weightsEach, List.cons_append, List.nil_append] at hsz
  obtain ⟨z0, hsz⟩ := all_app hsz
  obtain ⟨z1, hsz⟩ := all_app hsz
  obtain ⟨z2, hsz⟩ := all_app hsz
  obtain ⟨s, rfl, rfl, rfl, wv⟩ := open_int Try.underlying24 k1 h1
  simp [Lit.wf, IntKind.min, IntKind.max, IntKind.bits, IntKind.signed] at wv
  obtain ⟨x, rfl⟩ : ∃ x : Nat, s = x := ⟨s.toNat, by omega⟩
  obtain ⟨ao, n, cap, l, rfl, hl, hn, hcap, hrd, _⟩ := open_bytes Try.underlying23 Try.underlying5 (by kernel_rfl) (by kernel_rfl) k2 h2 z2
  obtain ⟨cs_, xs_, n_, rfl, hsz_, rfl, hxl_, hf_⟩ := open_struct Try.underlying33 k0 h0
  obtain ⟨c_gb, c_gn, c_gr, c_gw, c_gx, c_gs, rfl⟩ := arr6 (hsz_.trans (by kernel_rfl : Try.prog.cellsOf 33 = 6))
  obtain ⟨y_gb, y_gn, y_gr, y_gw, y_gx, y_gs, rfl⟩ := lst6 (hxl_.trans rfl)
  have cltbool : Try.prog.cellsOf 4 = 1 := by kernel_rfl
  have cltuint64 : Try.prog.cellsOf 24 = 1 := by kernel_rfl
  have e_gb : DataW.trod enc Try.prog W 0 (fun _ => true) true n_ 24 [c_gb] = some y_gb := by have := hf_ 0 _ rfl; simpa [cltuint64] using this
  have e_gn : DataW.trod enc Try.prog W 0 (fun _ => true) true n_ 24 [c_gn] = some y_gn := by have := hf_ 1 _ rfl; simpa [cltuint64] using this
  have e_gr : DataW.trod enc Try.prog W 0 (fun _ => true) true n_ 4 [c_gr] = some y_gr := by have := hf_ 2 _ rfl; simpa [cltbool] using this
  have e_gw : DataW.trod enc Try.prog W 0 (fun _ => true) true n_ 4 [c_gw] = some y_gw := by have := hf_ 3 _ rfl; simpa [cltbool] using this
  have e_gx : DataW.trod enc Try.prog W 0 (fun _ => true) true n_ 4 [c_gx] = some y_gx := by have := hf_ 4 _ rfl; simpa [cltbool] using this
  have e_gs : DataW.trod enc Try.prog W 0 (fun _ => true) true n_ 4 [c_gs] = some y_gs := by have := hf_ 5 _ rfl; simpa [cltbool] using this
  simp only [DataW.weights, Try.underlying33, List.map_cons, List.map_nil, DataW.weightsEach] at z0
  obtain ⟨z_gb, zz_0⟩ := all_app z0
  obtain ⟨z_gn, zz_1⟩ := all_app zz_0
  obtain ⟨z_gr, zz_2⟩ := all_app zz_1
  obtain ⟨z_gw, zz_3⟩ := all_app zz_2
  obtain ⟨z_gx, zz_4⟩ := all_app zz_3
  obtain ⟨z_gs, zz_5⟩ := all_app zz_4
  obtain ⟨gb, rfl, h_gb⟩ := trod_u64 Try.underlying24 e_gb
  obtain ⟨gn, rfl, h_gn⟩ := trod_u64 Try.underlying24 e_gn
  obtain ⟨gr, rfl⟩ := trod_b Try.underlying4 e_gr
  obtain ⟨gw, rfl⟩ := trod_b Try.underlying4 e_gw
  obtain ⟨gx, rfl⟩ := trod_b Try.underlying4 e_gx
  obtain ⟨gs, rfl⟩ := trod_b Try.underlying4 e_gs
  clear hf_ hsz_ hxl_ e_gb e_gn e_gr e_gw e_gx e_gs z_gb z_gn z_gr z_gw z_gx z_gs zz_0 zz_1 zz_2 zz_3 zz_4 zz_5 z0 cltbool cltuint64
  exact core W ⟨gb, gn, gr, gw, gx, gs⟩ x ao n cap (by omega)
end Go.Proofs.Ytcbiohpgmooefaa.ramNil
