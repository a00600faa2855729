/- A piece of a list is cut out, and a number raised to a multiple, by the document's rule: the walk. No condition. -/
import Derived.Test.YtdkjkdlpkjklmaaRUp
import Derived.Test.YtdkjkdlpkjklmaaRef2
import Derived.Test.YtdkjkdlpkjklmaaAlive1
import Derived.Test.YtdkjkdlpkjklmaaOpen
namespace Go.Proofs.Ytdkjkdlpkjklmaa.octetsPieces
open Go.ChangeShapes Go.WideShapes Go.ChangeAt Go.RowKit
set_option linter.unusedVariables false
set_option linter.unusedSimpArgs false
set_option maxHeartbeats 1000000 in
theorem core (W : World) (ao : Option Addr) (n cap : Nat) (l : List UInt8) (F S A : Nat) (hl : l.length = n) (hn : n ≤ cap) (hcap : cap ≤ 140737488351232) (hr : Rd W ao l) (hc : ao = none → cap = 0)
    (hF : F < 18446744073709551616) (hS : S < 18446744073709551616) (hA : A < 18446744073709551616) :
    Calls Try.prog 9 #[.agg #[.slice ao n cap, .int .u64 F, .int .u64 S, .int .u64 A]] W fun e w' => e = .returned (.bool true) ∧ Below W.heap.size W w' := by
  have Hhl := Lib.hid hl
  clear hl
  have Hhc := Lib.hid hc
  clear hc
  have HhF := Lib.hid hF
  clear hF
  have HhS := Lib.hid hS
  clear hS
  have HhA := Lib.hid hA
  clear hA
  go_enter Try.func9, Try.ntmps9
  go_wp2_with fail
  go_quiet (fail)
  go_wp2_with fail
  refine (fits_any F S A _ HhF.out HhS.out HhA.out).mono ?_
  rintro e w1 ⟨rfl, hw1⟩
  have hb1 : Below W.heap.size W w1 := by
    rw [← hw1]
    exact ((Below.refl _ _).alloc (Nat.le_refl _) _).trans (Drn.below ⟨nq, rfl⟩ _)
  clear hw1
  go_wp2_with fail
  refine (up_any F A w1 HhA.out HhF.out).mono ?_
  rintro e w' ⟨rfl, rfl⟩
  have hr1 := hr.below hb1
  go_wp2_with fail
  refine (cut_any ao n cap F S l w1 Hhl.out hn hcap Hhc.out hr1 HhF.out HhS.out).mono ?_
  rintro e w2 ⟨y, rfl, hy, hb⟩
  have hb2 := hb1.trans (hb.mono hb1.size)
  have hr2 := hr.below hb2
  clear hb hb1 hr1
  go_wp2_with fail
  refine (rup_any F A w2 HhA.out HhF.out).mono ?_
  rintro e w' ⟨rfl, rfl⟩
  go_wp2_with fail
  refine (rcut_any ao n cap F S l w2 Hhl.out hn hcap Hhc.out hr2 HhF.out HhS.out).mono ?_
  rintro e w3 ⟨z, rfl, hz, hb⟩
  have hy3 := hy.later hb
  have hb3 := hb2.trans (hb.mono hb2.size)
  clear hb hb2 hr2 hy
  obtain ⟨yo, yc, hyv, hyc, hym, hyr⟩ := hy3.rd
  obtain ⟨zo, zc, hzv, hzc, hzm, hzr⟩ := hz.rd
  generalize cutR l F S = pl at *
  generalize cutE n F S = ce at *
  generalize upX F A = ux at *
  generalize upE F A = ue at *
  have hpm : pl.length ≤ 9223372036854775807 := by simp only [maxLen] at hym; omega
  subst hyv hzv
  go_wp2_with fail
  refine (same_true yo zo _ _ yc zc pl pl w3 rfl rfl rfl hpm hpm hyr hzr).mono ?_
  rintro e w4 ⟨rfl, hd⟩
  have hb4 := hb3.trans (hd.below _)
  clear hb3 hd hyr hzr hy3 hz
  go_wp2_with fail
  refine (alive_any w4).mono ?_
  rintro e w5 ⟨rfl, hb⟩
  have hb5 := hb4.trans (hb.mono hb4.size)
  clear hb hb4
  go_wp2_with fail
  refine (rfits_any F S A w5 HhF.out HhS.out HhA.out).mono ?_
  rintro e w' ⟨rfl, rfl⟩
  generalize fitsB F S A = fb at *
  go_wp2_with fail
  go_ret
  exact ⟨rfl, hb5⟩
theorem walk {H : Type} (enc : TypeId × Value → H) (W : World) (base : Nat) (v0 : Value) (d0 : DataW H) (p0 : List MemPlace)
    (k0 : Value.okWide Try.prog W .any base 49 v0)
    (h0 : DataW.Trod enc Try.prog W 0 (fun _ => true) true 49 v0 d0 p0)
    (hsz : (DataW.weightsEach Try.prog [49] ([d0] ++ [])).all (· ≤ reachBytes) = true) :
    Calls Try.prog 9 #[v0] W fun e w' => e = .returned (.bool true) ∧ Below W.heap.size W w' := by
  simp only [List.cons_append, List.nil_append, DataW.weightsEach] at hsz
  obtain ⟨z0, hsz⟩ := all_app hsz
  obtain ⟨cs_, xs_, n_, rfl, hsz_, rfl, hxl_, hf_⟩ := open_struct Try.underlying49 k0 h0
  obtain ⟨c_B, c_From, c_Size, c_A, rfl⟩ := arr4 (hsz_.trans (by kernel_rfl : Try.prog.cellsOf 49 = 4))
  obtain ⟨y_B, y_From, y_Size, y_A, rfl⟩ := lst4 (hxl_.trans rfl)
  have cltuint8 : Try.prog.cellsOf 23 = 1 := by kernel_rfl
  have cltuint64 : Try.prog.cellsOf 29 = 1 := by kernel_rfl
  have e_B : DataW.trod enc Try.prog W 0 (fun _ => true) true n_ 23 [c_B] = some y_B := by have := hf_ 0 _ rfl; simpa [cltuint8] using this
  have e_From : DataW.trod enc Try.prog W 0 (fun _ => true) true n_ 29 [c_From] = some y_From := by have := hf_ 1 _ rfl; simpa [cltuint64] using this
  have e_Size : DataW.trod enc Try.prog W 0 (fun _ => true) true n_ 29 [c_Size] = some y_Size := by have := hf_ 2 _ rfl; simpa [cltuint64] using this
  have e_A : DataW.trod enc Try.prog W 0 (fun _ => true) true n_ 29 [c_A] = some y_A := by have := hf_ 3 _ rfl; simpa [cltuint64] using this
  simp only [DataW.weights, Try.underlying49, List.map_cons, List.map_nil, DataW.weightsEach] at z0
  obtain ⟨z_B, zz_0⟩ := all_app z0
  obtain ⟨z_From, zz_1⟩ := all_app zz_0
  obtain ⟨z_Size, zz_2⟩ := all_app zz_1
  obtain ⟨z_A, zz_3⟩ := all_app zz_2
  obtain ⟨ao_B, n_B, cap_B, l_B, rfl, hl_B, hn_B, hcap_B, hrd_B, hc_B⟩ := trod_bytes Try.underlying23 Try.underlying5 (by kernel_rfl) (by kernel_rfl) e_B z_B
  obtain ⟨From, rfl, h_From⟩ := trod_u64 Try.underlying29 e_From
  obtain ⟨Size, rfl, h_Size⟩ := trod_u64 Try.underlying29 e_Size
  obtain ⟨A, rfl, h_A⟩ := trod_u64 Try.underlying29 e_A
  clear hf_ hsz_ hxl_ e_B e_From e_Size e_A z_B z_From z_Size z_A zz_0 zz_1 zz_2 zz_3 z0 cltuint8 cltuint64
  exact core W _ _ _ _ _ _ _ hl_B hn_B hcap_B hrd_B hc_B h_From h_Size h_A
end Go.Proofs.Ytdkjkdlpkjklmaa.octetsPieces
