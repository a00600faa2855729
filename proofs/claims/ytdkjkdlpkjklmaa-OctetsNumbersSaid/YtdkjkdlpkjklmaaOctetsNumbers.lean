/- A number is read out of a list of bytes, and laid down in one, by the document's rule: the walk. No condition. -/
import Derived.Test.YtdkjkdlpkjklmaaOctAny
import Derived.Test.YtdkjkdlpkjklmaaLent
import Derived.Test.YtdkjkdlpkjklmaaAlive1
import Derived.Test.YtdkjkdlpkjklmaaOpen
namespace Go.Proofs.Ytdkjkdlpkjklmaa.octetsNumbers
open Go.ChangeShapes Go.WideShapes Go.ChangeAt Go.RowKit
set_option linter.unusedVariables false
set_option linter.unusedSimpArgs false
structure In (W : World) (y : Value) (n g nu C : Nat) (lu : List UInt8) (BB : Nat) (i : Value) (wr : World) : Prop where
  x : ∃ (k : Nat) (ly : List UInt8), k ≤ n ∧ ly.length = n ∧ i = .int .i64 k ∧ Own 5 wr BB y ly ∧ Own 5 wr W.heap.size (.slice (some ⟨g, 0, none⟩) nu C) lu ∧ Below W.heap.size W wr
theorem in_step {W wr : World} {g' cy n g nu C BB k : Nat} {lu ly : List UInt8} (hk : k < n) (hly : ly.length = n) (hy : Own 5 wr BB (.slice (some ⟨g', 0, none⟩) n cy) ly)
    (hu : Own 5 wr W.heap.size (.slice (some ⟨g, 0, none⟩) nu C) lu) (hb : Below W.heap.size W wr) (hg : g < BB) (hB : W.heap.size ≤ BB) :
    In W (.slice (some ⟨g', 0, none⟩) n cy) n g nu C lu BB (.int .i64 ((k : Int) + 1)) (wr.setCell ⟨g', k, none⟩ (.int .u8 99)) := by
  have hg' := hy.at.2.1
  exact ⟨k + 1, ly.set k 99, by omega, by simpa using hly, by go_num, hy.store k 99 (by omega), hu.other (by simp [Value.ownBlock]; omega) _, hb.setCell (by show W.heap.size ≤ g'; omega) _⟩
set_option maxHeartbeats 1000000 in
theorem core (W : World) (ao : Option Addr) (n cap : Nat) (l : List UInt8) (At Size : Int) (Big : Bool) (V : Nat) (hl : l.length = n) (hn : n ≤ 140737488351232) (hr : Rd W ao l) (hc : ao = none → cap = 0) (hV : V < 18446744073709551616) :
    Calls Try.prog 6 #[.agg #[.slice ao n cap, .int .i64 At, .int .i64 Size, .bool Big, .int .u64 V]] W fun e w' => e = .returned (.bool true) ∧ Below W.heap.size W w' := by
  have Hhl := Lib.hid hl
  clear hl
  have HhV := Lib.hid hV
  clear hV
  have Hhc := Lib.hid hc
  clear hc
  go_enter Try.func6, Try.ntmps6
  go_wp2_with fail
  go_quiet (fail)
  go_wp2_with fail
  refine (lent_any ao n cap l _ Hhl.out hn Hhc.out ?hr0).mono ?_
  case hr0 => exact hr.below (((Below.refl _ _).alloc (Nat.le_refl _) _).trans (Drn.below ⟨nq, rfl⟩ _))
  rintro e w1 ⟨g, C, rfl, hu, hb⟩
  have hb1 : Below W.heap.size W w1 := (((Below.refl _ _).alloc (Nat.le_refl _) _).trans (Drn.below ⟨nq, rfl⟩ _)).trans (hb.mono (by simp))
  have hu1 : Own 5 w1 W.heap.size (.slice (some ⟨g, 0, none⟩) (n + 2) C) (l ++ [170, 85]) := hu.mono (by simp)
  clear hu hb
  have hru1 : Rd w1 (some ⟨g, 0, none⟩) l := hu1.lend Hhl.out
  go_wp2_with fail
  refine (get_any (some ⟨g, 0, none⟩) n C At Size l Big w1 Hhl.out hn hru1).mono ?_
  rintro e w2 ⟨rfl, hd2⟩
  have hg2 : g < w2.heap.size := by rw [hd2.heap]; exact hu1.at.2.2.1
  have hb2 := hb1.trans (hd2.below _)
  have hu2 := hu1.later (hd2.below _)
  have hru2 := hd2.rd hru1
  clear hb1 hu1 hru1 hd2
  go_wp2_with fail
  refine (put_any (some ⟨g, 0, none⟩) n C At Size V l Big w2 Hhl.out hn (by intro h; cases h) hru2 HhV.out).mono ?_
  rintro e w3 ⟨y, rfl, hy, hb⟩
  have hs3 := hb2.size
  have hb3 := hb2.trans (hb.mono hs3)
  have hu3 := hu2.later hb
  clear hb2 hu2 hru2
  go_wp2_with fail
  refine (rget_any ao n cap At Size l Big w3 Hhl.out hn (hr.below hb3)).mono ?_
  rintro e w' ⟨rfl, rfl⟩
  go_wp2_with fail
  refine (rput_any ao n cap At Size V l Big w3 Hhl.out hn Hhc.out (hr.below hb3) HhV.out).mono ?_
  rintro e w4 ⟨wy, rfl, hwy, hb4⟩
  have hy4 := hy.later hb4
  have hu4 := hu3.later hb4
  have hb5 := hb3.trans (hb4.mono hb3.size)
  clear hy hu3 hb3 hb4
  obtain ⟨yo, yc, hyv, hyc, hym, hyr⟩ := hy4.rd
  obtain ⟨zo, zc, hzv, -, hzm, hzr⟩ := hwy.rd
  generalize hpl : putR l At Size Big V = pl at *
  generalize getX l At Size Big = gx at *
  generalize getE n At Size = ge at *
  generalize putE n At Size V = pe at *
  have hpm : pl.length ≤ 9223372036854775807 := by simp only [maxLen] at hym; omega
  clear hpl
  subst hyv hzv
  go_wp2_with fail
  refine (same_true yo zo _ _ yc zc pl pl w4 rfl rfl rfl hpm hpm hyr hzr).mono ?_
  rintro e w5 ⟨rfl, hd⟩
  have hy6 := hy4.later (hd.below _)
  have hu6 := hu4.later (hd.below _)
  have hb6 := hb5.trans (hd.below _)
  clear hy4 hu4 hb5 hd hwy hzr hyr
  go_wp2_with fail
  refine (kept_any ao g n C cap W.heap.size l w5 Hhl.out hn (hr.below hb6) hu6).mono ?_
  rintro e w6 ⟨rfl, hd⟩
  have hy7 := hy6.later (hd.below _)
  have hu7 := hu6.later (hd.below _)
  have hb7 := hb6.trans (hd.below _)
  clear hy6 hu6 hb6 hd
  go_wp2_with fail
  generalize hpn : pl.length = pn at *
  have Hhpn := Lib.hid hpn
  clear hpn
  go_loopw [19] (In W (.slice yo pn yc) pn g (n + 2) C (l ++ [170, 85]) w2.heap.size) (fun i _ => pn - (intOf i).toNat)
  case atStart => exact ⟨0, pl, by omega, Hhpn.out, rfl, hy7, hu7, hb7⟩
  case round =>
    clear hy7 hu7 hb7
    obtain ⟨k, ly, hk, hly, rfl, hy, hu, hb⟩ := hrel
    have Hhly := Lib.hid hly
    clear hly
    by_cases hlt : k < pn
    · rcases hy.cases with ⟨_, h0⟩ | ⟨g', cc, hv, -, -, -, -, hcells, hfz⟩
      · exfalso; rw [h0] at Hhly; have := Hhly.out; simp at this; omega
      · simp only [Value.slice.injEq] at hv
        obtain ⟨rfl, -, -⟩ := hv
        have hstep := Lib.hid (in_step hlt Hhly.out hy hu hb hg2 hs3)
        have hcell := hcells k (by have := Hhly.out; omega)
        have hfr := hfz k
        clear hcells hfz hy hu hb
        go_wp2_with fail
        first
        | (go_roundw
           case rel => exact hstep.out
           case measure => (first | omega | (simp [intOf] <;> omega) | (simp only [intOf] <;> omega)))
        | exact ⟨hstep.out, by (first | omega | (simp [intOf] <;> omega) | (simp only [intOf] <;> omega))⟩
        | (refine ⟨?_, by (first | omega | (simp [intOf] <;> omega) | (simp only [intOf] <;> omega))⟩
           (repeat apply Exists.intro)
           refine (fun a b => And.intro b a) ?_ ?_
           · first | rfl | ((repeat refine ⟨rfl, ?_⟩); rfl)
           exact hstep.out)
    · go_wp2_with fail
      refine (kept_any ao g n C cap W.heap.size l wr Hhl.out hn (hr.below hb) hu).mono ?_
      rintro e w8 ⟨rfl, hd⟩
      have hb8 := hb.trans (hd.below _)
      clear hb hu hy hd
      go_wp2_with fail
      refine (alive_any w8).mono ?_
      rintro e w9 ⟨rfl, hb⟩
      have hb9 := hb8.trans (hb.mono hb8.size)
      clear hb hb8
      go_wp2_with fail
      go_ret
      exact ⟨rfl, hb9⟩
theorem walk {H : Type} (enc : TypeId × Value → H) (W : World) (base : Nat) (v0 : Value) (d0 : DataW H) (p0 : List MemPlace)
    (k0 : Value.okWide Try.prog W .any base 38 v0)
    (h0 : DataW.Trod enc Try.prog W 0 (fun _ => true) true 38 v0 d0 p0)
    (hsz : (DataW.weightsEach Try.prog [38] ([d0] ++ [])).all (· ≤ reachBytes) = true) :
    Calls Try.prog 6 #[v0] W fun e w' => e = .returned (.bool true) ∧ Below W.heap.size W w' := by
  simp only [List.cons_append, List.nil_append, DataW.weightsEach] at hsz
  obtain ⟨z0, hsz⟩ := all_app hsz
  obtain ⟨cs_, xs_, n_, rfl, hsz_, rfl, hxl_, hf_⟩ := open_struct Try.underlying38 k0 h0
  obtain ⟨c_B, c_At, c_Size, c_Big, c_V, rfl⟩ := arr5 (hsz_.trans (by kernel_rfl : Try.prog.cellsOf 38 = 5))
  obtain ⟨y_B, y_At, y_Size, y_Big, y_V, rfl⟩ := lst5 (hxl_.trans rfl)
  have cltuint8 : Try.prog.cellsOf 23 = 1 := by kernel_rfl
  have cltbool : Try.prog.cellsOf 4 = 1 := by kernel_rfl
  have cltint : Try.prog.cellsOf 3 = 1 := by kernel_rfl
  have cltuint64 : Try.prog.cellsOf 29 = 1 := by kernel_rfl
  have e_B : DataW.trod enc Try.prog W 0 (fun _ => true) true n_ 23 [c_B] = some y_B := by have := hf_ 0 _ rfl; simpa [cltuint8] using this
  have e_At : DataW.trod enc Try.prog W 0 (fun _ => true) true n_ 3 [c_At] = some y_At := by have := hf_ 1 _ rfl; simpa [cltint] using this
  have e_Size : DataW.trod enc Try.prog W 0 (fun _ => true) true n_ 3 [c_Size] = some y_Size := by have := hf_ 2 _ rfl; simpa [cltint] using this
  have e_Big : DataW.trod enc Try.prog W 0 (fun _ => true) true n_ 4 [c_Big] = some y_Big := by have := hf_ 3 _ rfl; simpa [cltbool] using this
  have e_V : DataW.trod enc Try.prog W 0 (fun _ => true) true n_ 29 [c_V] = some y_V := by have := hf_ 4 _ rfl; simpa [cltuint64] using this
  simp only [DataW.weights, Try.underlying38, List.map_cons, List.map_nil, DataW.weightsEach] at z0
  obtain ⟨z_B, zz_0⟩ := all_app z0
  obtain ⟨z_At, zz_1⟩ := all_app zz_0
  obtain ⟨z_Size, zz_2⟩ := all_app zz_1
  obtain ⟨z_Big, zz_3⟩ := all_app zz_2
  obtain ⟨z_V, zz_4⟩ := all_app zz_3
  obtain ⟨ao_B, n_B, cap_B, l_B, rfl, hl_B, hn_B, hcap_B, hrd_B, hc_B⟩ := trod_bytes Try.underlying23 Try.underlying5 (by kernel_rfl) (by kernel_rfl) e_B z_B
  obtain ⟨At, rfl, h0_At, h1_At⟩ := trod_i64 Try.underlying3 e_At
  obtain ⟨Size, rfl, h0_Size, h1_Size⟩ := trod_i64 Try.underlying3 e_Size
  obtain ⟨Big, rfl⟩ := trod_b Try.underlying4 e_Big
  obtain ⟨V, rfl, h_V⟩ := trod_u64 Try.underlying29 e_V
  clear hf_ hsz_ hxl_ e_B e_At e_Size e_Big e_V z_B z_At z_Size z_Big z_V zz_0 zz_1 zz_2 zz_3 zz_4 z0 cltuint8 cltbool cltint cltuint64
  exact core W _ _ _ _ _ _ _ _ hl_B (by omega) hrd_B hc_B h_V
end Go.Proofs.Ytdkjkdlpkjklmaa.octetsNumbers
