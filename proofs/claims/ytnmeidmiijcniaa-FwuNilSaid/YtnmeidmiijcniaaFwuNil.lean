/- No updater: the walk. No condition. -/
import Derived.Test.YtnmeidmiijcniaaFwNi
import Derived.Test.YtnmeidmiijcniaaFwA
import Derived.Test.YtnmeidmiijcniaaFwQ
import Derived.Test.YtnmeidmiijcniaaOpenM
namespace Go.Proofs.Ytnmeidmiijcniaa.fwuNil
open Go.ChangeShapes Go.WideShapes Go.ChangeAt Go.RowKit
set_option linter.unusedVariables false
set_option linter.unusedSimpArgs false
attribute [local go_sem ↓] build_m
set_option maxRecDepth 100000 in
set_option maxHeartbeats 2000000 in
theorem core (W : World) (sz me b0 b1 bl : Int) (ao : Option Addr) (n cap : Nat) :
    Calls Try.prog 5 #[.agg #[.int .i64 sz, .int .i64 me, .int .i64 b0, .int .i64 b1, .int .i64 bl], .slice ao n cap] W fun e w' => e = .returned (.bool true) ∧ Below W.heap.size W w' := by
  have hz := run_buildM0
  go_enter Try.func5, Try.ntmps5
  go_wp2_with fail
  have HB0 := Lib.hid ((Below.refl W.heap.size W).alloc (Nat.le_refl _) (.cells #[.int .i64 sz, .int .i64 me, .int .i64 b0, .int .i64 b1, .int .i64 bl] 42))
  obtain ⟨w0, hw0⟩ : ∃ w0, W.alloc (.cells #[.int .i64 sz, .int .i64 me, .int .i64 b0, .int .i64 b1, .int .i64 bl] 42) = w0 := ⟨_, rfl⟩
  rw [hw0] at HB0 ⊢
  clear hw0
  refine (open_nil _ _ _ _ _).mono ?_
  rintro e w1 ⟨rfl, hb1⟩
  have HB1 := Lib.hid (HB0.out.trans (hb1.mono HB0.out.size))
  clear hb1 HB0
  go_wp2_with fail
  refine (load_nil _).mono ?_
  rintro e w2 ⟨rfl, hb2⟩
  have HB2 := Lib.hid (HB1.out.trans (hb2.mono HB1.out.size))
  clear hb2 HB1
  have HZ := Lib.hid (HB.new w2 mec0 26)
  have HB3 := Lib.hid (HB2.out.trans (((Below.refl w2.heap.size w2).alloc (Nat.le_refl _) (.cells mec0.toArray 26)).mono HB2.out.size))
  obtain ⟨w3, hw3⟩ : ∃ w3, w2.alloc (.cells mec0.toArray 26) = w3 := ⟨_, rfl⟩
  rw [hw3] at HZ HB3
  have hw3' : w2.alloc (.cells #[.int .u32 0, .int .i64 0, .int .i64 0, .int .i64 0, .int .i64 0] 26) = w3 := hw3
  have Hw3 := fun (_ : Unit) => Lib.hid hw3'
  obtain ⟨Z, hZ⟩ : ∃ Z, w2.heap.size = Z := ⟨_, rfl⟩
  rw [hZ] at HZ
  clear hw3 hw3' HB2
  go_wp2_with fail
  rw [(Hw3 ()).out]
  clear Hw3 hZ
  refine (choose_nil _).mono ?_
  rintro e w4 ⟨rfl, hb4⟩
  have HZ4 := Lib.hid (HZ.out.later hb4)
  have HB4 := Lib.hid (HB3.out.trans (hb4.mono HB3.out.size))
  clear hb4 HB3 HZ
  go_wp2_with fail
  refine (alive_any _).mono ?_
  rintro e w5 ⟨rfl, hb5⟩
  have HZ5 := Lib.hid (HZ4.out.later hb5)
  have HB5 := Lib.hid (HB4.out.trans (hb5.mono HB4.out.size))
  clear hb5 HB4 HZ4
  have z0 : w5.cell? ⟨Z, 0, none⟩ = some (.int .u32 0) := HZ5.out.cell (i := 0) rfl
  have z1 : w5.cell? ⟨Z, 1, none⟩ = some (.int .i64 0) := HZ5.out.cell (i := 1) rfl
  have z2 : w5.cell? ⟨Z, 2, none⟩ = some (.int .i64 0) := HZ5.out.cell (i := 2) rfl
  have z3 : w5.cell? ⟨Z, 3, none⟩ = some (.int .i64 0) := HZ5.out.cell (i := 3) rfl
  have z4 : w5.cell? ⟨Z, 4, none⟩ = some (.int .i64 0) := HZ5.out.cell (i := 4) rfl
  have heq := fun w => me_equal ⟨0, 0, 0, 0, 0⟩ ⟨0, 0, 0, 0, 0⟩ w
  rw [decide_eq_true rfl] at heq
  dsimp only at heq
  rw [show ((0 : Nat) : Int) = 0 from rfl] at heq
  have hguard : Try.prog.eqGuardType Try.prog.depth 26 = false := by kernel_rfl
  clear HZ5
  go_wp2_with fail
  clear z0 z1 z2 z3 z4 heq hguard hz
  refine (format_nil _).mono ?_
  rintro e w6 ⟨rfl, rfl⟩
  go_wp2_with fail
  refine (begin_nil _).mono ?_
  rintro e w7 ⟨rfl, hb7⟩
  have HB7 := Lib.hid (HB5.out.trans (hb7.mono HB5.out.size))
  clear hb7 HB5
  go_wp2_with fail
  refine (write_nil23 _ _ _ _).mono ?_
  rintro e w8 ⟨rfl, hb8⟩
  have HB8 := Lib.hid (HB7.out.trans (hb8.mono HB7.out.size))
  clear hb8 HB7
  go_wp2_with fail
  refine (finish_nil _).mono ?_
  rintro e w9 ⟨rfl, hb9⟩
  have HB9 := Lib.hid (HB8.out.trans (hb9.mono HB8.out.size))
  clear hb9 HB8
  go_wp2_with fail
  refine (accept_nil _).mono ?_
  rintro e wa ⟨rfl, hba⟩
  have HBa := Lib.hid (HB9.out.trans (hba.mono HB9.out.size))
  clear hba HB9
  go_wp2_with fail
  refine (cancel_nil _).mono ?_
  rintro e wb ⟨rfl, hbb⟩
  have HBb := Lib.hid (HBa.out.trans (hbb.mono HBa.out.size))
  clear hbb HBa
  go_wp2_with fail
  go_ret
  exact ⟨rfl, HBb.out⟩
set_option maxRecDepth 100000 in
theorem walk {H : Type} (enc : TypeId × Value → H) (W : World) (base : Nat) (v0 : Value) (d0 : DataW H) (p0 : List MemPlace) (v1 : Value) (d1 : DataW H) (p1 : List MemPlace)
    (k0 : Value.okWide Try.prog W .any base 42 v0) (k1 : Value.okWide Try.prog W .any base 27 v1)
    (h0 : DataW.Trod enc Try.prog W 0 (fun _ => true) true 42 v0 d0 p0) (h1 : DataW.Trod enc Try.prog W 0 (fun _ => true) true 27 v1 d1 p1)
    (hsz : (DataW.weightsEach Try.prog [42, 27] ([d0, d1] ++ [])).all (· ≤ reachBytes) = true) :
    Calls Try.prog 5 #[v0, v1] W fun e w' => e = .returned (.bool true) ∧ Below W.heap.size W w' := by
  simp only [DataW.weightsEach, List.cons_append, List.nil_append] at hsz
  obtain ⟨z0, hsz⟩ := all_app hsz
  obtain ⟨z1, hsz⟩ := all_app hsz
  obtain ⟨cs_, xs_, n_, rfl, hsz_, rfl, hxl_, hf_⟩ := open_struct Try.underlying42 k0 h0
  obtain ⟨c0, c1, c2, c3, c4, rfl⟩ : ∃ b0 b1 b2 b3 b4, cs_ = #[b0, b1, b2, b3, b4] := by
    obtain ⟨l_⟩ := cs_
    have hl_ : l_.length = 5 := hsz_.trans (by kernel_rfl : Try.prog.cellsOf 42 = 5)
    match l_, hl_ with
    | [b0, b1, b2, b3, b4], _ => exact ⟨b0, b1, b2, b3, b4, rfl⟩
  obtain ⟨y0, y1, y2, y3, rfl⟩ := lst4 (hxl_.trans rfl)
  have k3 : Try.prog.cellsOf 3 = 1 := by kernel_rfl
  have k4 : Try.prog.cellsOf 40 = 2 := by kernel_rfl
  have g0 := hf_ 0 _ rfl
  have g1 := hf_ 1 _ rfl
  have g2 := hf_ 2 _ rfl
  have g3 := hf_ 3 _ rfl
  simp [k3, k4] at g0 g1 g2 g3
  obtain ⟨sz, rfl, -, -⟩ := trod_i64 Try.underlying3 g0
  obtain ⟨me, rfl, -, -⟩ := trod_i64 Try.underlying3 g1
  obtain ⟨b0, b1, rfl, rfl, -, -⟩ := pair_cells Try.underlying40 Try.underlying3 k3 g2
  obtain ⟨bl, rfl, -, -⟩ := trod_i64 Try.underlying3 g3
  obtain ⟨ao, n, cap, l, rfl, hl, hn, hcap, hrd, _⟩ := open_bytes Try.underlying27 Try.underlying5 (by kernel_rfl) (by kernel_rfl) k1 h1 z1
  exact core W sz me b0 b1 bl ao n cap
end Go.Proofs.Ytnmeidmiijcniaa.fwuNil
