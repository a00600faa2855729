/- A handoff and its bytes stand for one another: the walk. No condition. -/
import Derived.Test.YthhodibfbfmijaaHandT
import Derived.Test.YthhodibfbfmijaaHandR
import Derived.Test.YthhodibfbfmijaaHandO
import Derived.Test.YthhodibfbfmijaaSame2
import Derived.Test.YthhodibfbfmijaaMapA
namespace Go.Proofs.Ythhodibfbfmijaa.mapHandoffs
open Go.ChangeShapes Go.WideShapes Go.ChangeAt Go.RowKit
set_option linter.unusedVariables false
set_option linter.unusedSimpArgs false
set_option maxRecDepth 100000 in
set_option maxHeartbeats 4000000 in
theorem core (W : World) (h : Ho) (hok : h.Ok) (ao : Option Addr) (n cap : Nat) (b : List UInt8) (hl : b.length = n) (hcap : n ≤ cap) (hn : cap ≤ 140737488351232) (hr : Rd W ao b) :
    Calls Try.prog 7 #[hov h, .slice ao n cap] W fun e w' => e = .returned (.bool true) ∧ Below W.heap.size W w' := by
  have hgd : Try.prog.eqGuardType Try.prog.depth 45 = false := by kernel_rfl
  have Henc := Lib.hid (fun w => henc_any h w hok)
  have HdecP := Lib.hid (fun w (hw : Rd w ao b) => hdec_any ao n cap b w hl hcap (by omega) hw)
  have HdecR := Lib.hid (fun w (hw : Rd w ao b) => rdec_any ao n cap b w hl hcap (by omega) hw)
  have HmayP := Lib.hid (fun w => rhmay_any h w)
  have Hl := Lib.hid hl
  have Hn : Hid (n ≤ 140737488351232) := Lib.hid (by omega)
  have Hr := Lib.hid hr
  have HencD : Hid ((decR b).2 = true → ∀ w, Calls Try.prog 20 #[hov (decR b).1] w fun e w' => ∃ v, e = .returned (.tuple #[v, .int .i64 0]) ∧ Own 5 w' w.heap.size v b ∧ Below w.heap.size w w') := Lib.hid (fun ht w => by
    rcases decR_said b with h0 | ⟨h0, h50, hmD, hbD⟩
    · rw [h0] at ht; cases ht
    · rw [h0]
      have := henc_any (rawR b) w (rawR_ok b)
      rw [hmD] at this
      simp only [if_true] at this
      rw [hbD] at this
      exact this)
  have HdecL : Hid (mayR h = true → ∀ w av cv, 50 ≤ cv → Rd w av (hoB h) → Calls Try.prog 21 #[.slice av 50 cv] w fun e w' => e = .returned (.tuple #[hov h, .int .i64 0]) ∧ Below w.heap.size w w') := Lib.hid (fun hm w av cv hcv hw => by
    have := hdec_any av 50 cv (hoB h) w (hoB_len h) hcv (by decide) hw
    have hd := dec_hoB hok hm
    unfold decE at this
    rw [hd] at this
    exact this)
  have Hbyt := Lib.hid (fun (hm : mayR h = true) w => rbytes_any h w hok hm)
  have HD : Hid (decE b = if (decR b).2 then 0 else 226) := Lib.hid rfl
  have Hl50 := Lib.hid (hoB_len h)
  unfold decE at HdecP
  clear hl hcap hn hr hok
  have heqD := fun w => ho_refl (decR b).1 w
  generalize (decR b).2 = okb at *
  obtain ⟨D, hD⟩ : ∃ D, (decR b).1 = D := ⟨_, rfl⟩
  rw [hD] at HdecP HdecR HencD heqD
  clear hD HD
  obtain ⟨dI, dB, dN, ds, d1, d2, d3, d4⟩ := D
  unfold hov at HdecP HdecR HencD heqD
  simp only at HdecP HdecR HencD heqD
  cases okb
  · clear HencD
    simp only [Bool.false_eq_true, if_false] at HdecP
    cases hm : mayR h
    · rw [hm] at Henc HmayP
      simp only [Bool.false_eq_true, if_false] at Henc
      clear HdecL Hbyt hm Hl50
      obtain ⟨I, B, N, s, a1, a2, a3, a4⟩ := h
      have HLn : Hid (([] : List UInt8).length = 0) := Lib.hid rfl
      unfold hov at *
      go_enter Try.func7, Try.ntmps7
      go_wp2_with fail
      as_aux_lemma =>
      refine (awake_any _).mono ?_
      rintro e w1 ⟨rfl, hb1⟩
      have HH1 := Lib.hid ((HB.new W [.int .i64 I, .int .u64 B, .int .u64 N, .bool s, .int .u64 a1, .int .u64 a2, .int .u64 a3, .int .u64 a4] 45).later hb1)
      have HB1 := Lib.hid (((Below.refl W.heap.size W).alloc (Nat.le_refl _) (.cells #[.int .i64 I, .int .u64 B, .int .u64 N, .bool s, .int .u64 a1, .int .u64 a2, .int .u64 a3, .int .u64 a4] 45)).trans (hb1.mono (by simp)))
      clear hb1
      generalize hH : W.heap.size = H at *
      have HHx := Lib.hid hH
      clear hH
      have k0 := HH1.out.cell (i := 0) rfl
      have k1 := HH1.out.cell (i := 1) rfl
      have k2 := HH1.out.cell (i := 2) rfl
      have k3 := HH1.out.cell (i := 3) rfl
      have k4 := HH1.out.cell (i := 4) rfl
      have k5 := HH1.out.cell (i := 5) rfl
      have k6 := HH1.out.cell (i := 6) rfl
      have k7 := HH1.out.cell (i := 7) rfl
      go_wp2_with fail
      as_aux_lemma =>
      refine (Henc.out _).mono ?_
      rintro e w2 ⟨v, rfl, ho2, hb2⟩
      have hsz1 : H ≤ w1.heap.size := by rw [← HHx.out]; exact HB1.out.size
      obtain ⟨av, cv, rfl, hvc, hvm, -⟩ := ho2.rd
      have HO2 := Lib.hid (ho2.mono hsz1)
      have HH2 := Lib.hid (HH1.out.later hb2)
      have HB2 := Lib.hid (HB1.out.trans (hb2.mono hsz1))
      rw [HLn.out] at HO2 hvc
      have Hvc := Lib.hid hvc
      rw [HLn.out]
      clear ho2 hb2 HH1 HB1 k0 k1 k2 k3 k4 k5 k6 k7 hsz1 hvc hvm
      have hr2 : Rd w2 ao b := Hr.out.below (by rw [HHx.out]; exact HB2.out)
      go_wp2_with fail
      as_aux_lemma =>
      refine (HdecP.out _ hr2).mono ?_
      rintro e w3 ⟨rfl, hb3⟩
      have hsz2 : H ≤ w2.heap.size := by rw [← HHx.out]; exact HB2.out.size
      have HO3 := Lib.hid ((HO2.out.later hb3).alloc (.cells #[.int .i64 dI, .int .u64 dB, .int .u64 dN, .bool ds, .int .u64 d1, .int .u64 d2, .int .u64 d3, .int .u64 d4] 45))
      have HH3 := Lib.hid ((HH2.out.later hb3).alloc (.cells #[.int .i64 dI, .int .u64 dB, .int .u64 dN, .bool ds, .int .u64 d1, .int .u64 d2, .int .u64 d3, .int .u64 d4] 45))
      have HB3 := Lib.hid ((HB2.out.trans (hb3.mono hsz2)).alloc (by have := (HH2.out.later hb3).lt; omega) (.cells #[.int .i64 dI, .int .u64 dB, .int .u64 dN, .bool ds, .int .u64 d1, .int .u64 d2, .int .u64 d3, .int .u64 d4] 45))
      have HG3 := Lib.hid (HB.new w3 [.int .i64 dI, .int .u64 dB, .int .u64 dN, .bool ds, .int .u64 d1, .int .u64 d2, .int .u64 d3, .int .u64 d4] 45)
      clear hb3 HO2 HH2 HB2 hr2 hsz2
      have hr3 : Rd (w3.alloc (.cells #[.int .i64 dI, .int .u64 dB, .int .u64 dN, .bool ds, .int .u64 d1, .int .u64 d2, .int .u64 d3, .int .u64 d4] 45)) ao b := Hr.out.below (by rw [HHx.out]; exact HB3.out)
      go_wp2_with fail
      as_aux_lemma =>
      generalize w3.alloc (.cells #[.int .i64 dI, .int .u64 dB, .int .u64 dN, .bool ds, .int .u64 d1, .int .u64 d2, .int .u64 d3, .int .u64 d4] 45) = w3' at *
      generalize w3.heap.size = G at *
      refine (HdecR.out _ hr3).mono ?_
      rintro e w4 ⟨rfl, hb4⟩
      have hsz3 : H ≤ w3'.heap.size := by rw [← HHx.out]; exact HB3.out.size
      have HO4 := Lib.hid ((HO3.out.later hb4).alloc (.cells #[.int .i64 dI, .int .u64 dB, .int .u64 dN, .bool ds, .int .u64 d1, .int .u64 d2, .int .u64 d3, .int .u64 d4] 45))
      have HH4' := Lib.hid (HH3.out.later hb4)
      have HH4 := Lib.hid ((HH3.out.later hb4).alloc (.cells #[.int .i64 dI, .int .u64 dB, .int .u64 dN, .bool ds, .int .u64 d1, .int .u64 d2, .int .u64 d3, .int .u64 d4] 45))
      have HG4 := Lib.hid ((HG3.out.later hb4).alloc (.cells #[.int .i64 dI, .int .u64 dB, .int .u64 dN, .bool ds, .int .u64 d1, .int .u64 d2, .int .u64 d3, .int .u64 d4] 45))
      have HB4 := Lib.hid ((HB3.out.trans (hb4.mono hsz3)).alloc (by have := (HH3.out.later hb4).lt; omega) (.cells #[.int .i64 dI, .int .u64 dB, .int .u64 dN, .bool ds, .int .u64 d1, .int .u64 d2, .int .u64 d3, .int .u64 d4] 45))
      have HX4 := Lib.hid (HB.new w4 [.int .i64 dI, .int .u64 dB, .int .u64 dN, .bool ds, .int .u64 d1, .int .u64 d2, .int .u64 d3, .int .u64 d4] 45)
      clear hb4 HO3 HH3 HB3 HG3 hr3 hsz3
      have k0 := fun o => (HH4'.out.alloc o).cell (i := 0) rfl
      have k1 := fun o => (HH4'.out.alloc o).cell (i := 1) rfl
      have k2 := fun o => (HH4'.out.alloc o).cell (i := 2) rfl
      have k3 := fun o => (HH4'.out.alloc o).cell (i := 3) rfl
      have k4 := fun o => (HH4'.out.alloc o).cell (i := 4) rfl
      have k5 := fun o => (HH4'.out.alloc o).cell (i := 5) rfl
      have k6 := fun o => (HH4'.out.alloc o).cell (i := 6) rfl
      have k7 := fun o => (HH4'.out.alloc o).cell (i := 7) rfl
      go_wp2_with fail
      as_aux_lemma =>
      clear k0 k1 k2 k3 k4 k5 k6 k7 HH4'
      generalize w4.alloc (.cells #[.int .i64 dI, .int .u64 dB, .int .u64 dN, .bool ds, .int .u64 d1, .int .u64 d2, .int .u64 d3, .int .u64 d4] 45) = w4' at *
      generalize w4.heap.size = X at *
      refine (HmayP.out _).mono ?_
      rintro e w5 ⟨rfl, hb5⟩
      have hsz4 : H ≤ w4'.heap.size := by rw [← HHx.out]; exact HB4.out.size
      have HOc := Lib.hid (HO4.out.later hb5)
      have HHc := Lib.hid (HH4.out.later hb5)
      have HGc := Lib.hid (HG4.out.later hb5)
      have HXc := Lib.hid (HX4.out.later hb5)
      have HBc := Lib.hid (HB4.out.trans (hb5.mono hsz4))
      clear hb5 HO4 HH4 HG4 HB4 HX4 hsz4
      have g0 := HGc.out.cell (i := 0) rfl
      have g1 := HGc.out.cell (i := 1) rfl
      have g2 := HGc.out.cell (i := 2) rfl
      have g3 := HGc.out.cell (i := 3) rfl
      have g4 := HGc.out.cell (i := 4) rfl
      have g5 := HGc.out.cell (i := 5) rfl
      have g6 := HGc.out.cell (i := 6) rfl
      have g7 := HGc.out.cell (i := 7) rfl
      have x0 := HXc.out.cell (i := 0) rfl
      have x1 := HXc.out.cell (i := 1) rfl
      have x2 := HXc.out.cell (i := 2) rfl
      have x3 := HXc.out.cell (i := 3) rfl
      have x4 := HXc.out.cell (i := 4) rfl
      have x5 := HXc.out.cell (i := 5) rfl
      have x6 := HXc.out.cell (i := 6) rfl
      have x7 := HXc.out.cell (i := 7) rfl
      go_wp2_with fail
      go_ret
      exact ⟨rfl, by rw [HHx.out]; exact HBc.out⟩
    · rw [hm] at Henc HmayP
      simp only [if_true] at Henc
      replace HdecL := Lib.hid (HdecL.out hm)
      replace Hbyt := Lib.hid (Hbyt.out hm)
      clear hm
      have HLn := Hl50
      obtain ⟨I, B, N, s, a1, a2, a3, a4⟩ := h
      unfold hov at *
      go_enter Try.func7, Try.ntmps7
      go_wp2_with fail
      as_aux_lemma =>
      refine (awake_any _).mono ?_
      rintro e w1 ⟨rfl, hb1⟩
      have HH1 := Lib.hid ((HB.new W [.int .i64 I, .int .u64 B, .int .u64 N, .bool s, .int .u64 a1, .int .u64 a2, .int .u64 a3, .int .u64 a4] 45).later hb1)
      have HB1 := Lib.hid (((Below.refl W.heap.size W).alloc (Nat.le_refl _) (.cells #[.int .i64 I, .int .u64 B, .int .u64 N, .bool s, .int .u64 a1, .int .u64 a2, .int .u64 a3, .int .u64 a4] 45)).trans (hb1.mono (by simp)))
      clear hb1
      generalize hH : W.heap.size = H at *
      have HHx := Lib.hid hH
      clear hH
      have k0 := HH1.out.cell (i := 0) rfl
      have k1 := HH1.out.cell (i := 1) rfl
      have k2 := HH1.out.cell (i := 2) rfl
      have k3 := HH1.out.cell (i := 3) rfl
      have k4 := HH1.out.cell (i := 4) rfl
      have k5 := HH1.out.cell (i := 5) rfl
      have k6 := HH1.out.cell (i := 6) rfl
      have k7 := HH1.out.cell (i := 7) rfl
      go_wp2_with fail
      as_aux_lemma =>
      refine (Henc.out _).mono ?_
      rintro e w2 ⟨v, rfl, ho2, hb2⟩
      have hsz1 : H ≤ w1.heap.size := by rw [← HHx.out]; exact HB1.out.size
      obtain ⟨av, cv, rfl, hvc, hvm, -⟩ := ho2.rd
      have HO2 := Lib.hid (ho2.mono hsz1)
      have HH2 := Lib.hid (HH1.out.later hb2)
      have HB2 := Lib.hid (HB1.out.trans (hb2.mono hsz1))
      rw [HLn.out] at HO2 hvc
      have Hvc := Lib.hid hvc
      rw [HLn.out]
      clear ho2 hb2 HH1 HB1 k0 k1 k2 k3 k4 k5 k6 k7 hsz1 hvc hvm
      have hr2 : Rd w2 ao b := Hr.out.below (by rw [HHx.out]; exact HB2.out)
      go_wp2_with fail
      as_aux_lemma =>
      refine (HdecP.out _ hr2).mono ?_
      rintro e w3 ⟨rfl, hb3⟩
      have hsz2 : H ≤ w2.heap.size := by rw [← HHx.out]; exact HB2.out.size
      have HO3 := Lib.hid ((HO2.out.later hb3).alloc (.cells #[.int .i64 dI, .int .u64 dB, .int .u64 dN, .bool ds, .int .u64 d1, .int .u64 d2, .int .u64 d3, .int .u64 d4] 45))
      have HH3 := Lib.hid ((HH2.out.later hb3).alloc (.cells #[.int .i64 dI, .int .u64 dB, .int .u64 dN, .bool ds, .int .u64 d1, .int .u64 d2, .int .u64 d3, .int .u64 d4] 45))
      have HB3 := Lib.hid ((HB2.out.trans (hb3.mono hsz2)).alloc (by have := (HH2.out.later hb3).lt; omega) (.cells #[.int .i64 dI, .int .u64 dB, .int .u64 dN, .bool ds, .int .u64 d1, .int .u64 d2, .int .u64 d3, .int .u64 d4] 45))
      have HG3 := Lib.hid (HB.new w3 [.int .i64 dI, .int .u64 dB, .int .u64 dN, .bool ds, .int .u64 d1, .int .u64 d2, .int .u64 d3, .int .u64 d4] 45)
      clear hb3 HO2 HH2 HB2 hr2 hsz2
      have hr3 : Rd (w3.alloc (.cells #[.int .i64 dI, .int .u64 dB, .int .u64 dN, .bool ds, .int .u64 d1, .int .u64 d2, .int .u64 d3, .int .u64 d4] 45)) ao b := Hr.out.below (by rw [HHx.out]; exact HB3.out)
      go_wp2_with fail
      as_aux_lemma =>
      generalize w3.alloc (.cells #[.int .i64 dI, .int .u64 dB, .int .u64 dN, .bool ds, .int .u64 d1, .int .u64 d2, .int .u64 d3, .int .u64 d4] 45) = w3' at *
      generalize w3.heap.size = G at *
      refine (HdecR.out _ hr3).mono ?_
      rintro e w4 ⟨rfl, hb4⟩
      have hsz3 : H ≤ w3'.heap.size := by rw [← HHx.out]; exact HB3.out.size
      have HO4 := Lib.hid ((HO3.out.later hb4).alloc (.cells #[.int .i64 dI, .int .u64 dB, .int .u64 dN, .bool ds, .int .u64 d1, .int .u64 d2, .int .u64 d3, .int .u64 d4] 45))
      have HH4' := Lib.hid (HH3.out.later hb4)
      have HH4 := Lib.hid ((HH3.out.later hb4).alloc (.cells #[.int .i64 dI, .int .u64 dB, .int .u64 dN, .bool ds, .int .u64 d1, .int .u64 d2, .int .u64 d3, .int .u64 d4] 45))
      have HG4 := Lib.hid ((HG3.out.later hb4).alloc (.cells #[.int .i64 dI, .int .u64 dB, .int .u64 dN, .bool ds, .int .u64 d1, .int .u64 d2, .int .u64 d3, .int .u64 d4] 45))
      have HB4 := Lib.hid ((HB3.out.trans (hb4.mono hsz3)).alloc (by have := (HH3.out.later hb4).lt; omega) (.cells #[.int .i64 dI, .int .u64 dB, .int .u64 dN, .bool ds, .int .u64 d1, .int .u64 d2, .int .u64 d3, .int .u64 d4] 45))
      have HX4 := Lib.hid (HB.new w4 [.int .i64 dI, .int .u64 dB, .int .u64 dN, .bool ds, .int .u64 d1, .int .u64 d2, .int .u64 d3, .int .u64 d4] 45)
      clear hb4 HO3 HH3 HB3 HG3 hr3 hsz3
      have k0 := fun o => (HH4'.out.alloc o).cell (i := 0) rfl
      have k1 := fun o => (HH4'.out.alloc o).cell (i := 1) rfl
      have k2 := fun o => (HH4'.out.alloc o).cell (i := 2) rfl
      have k3 := fun o => (HH4'.out.alloc o).cell (i := 3) rfl
      have k4 := fun o => (HH4'.out.alloc o).cell (i := 4) rfl
      have k5 := fun o => (HH4'.out.alloc o).cell (i := 5) rfl
      have k6 := fun o => (HH4'.out.alloc o).cell (i := 6) rfl
      have k7 := fun o => (HH4'.out.alloc o).cell (i := 7) rfl
      go_wp2_with fail
      as_aux_lemma =>
      clear k0 k1 k2 k3 k4 k5 k6 k7 HH4'
      generalize w4.alloc (.cells #[.int .i64 dI, .int .u64 dB, .int .u64 dN, .bool ds, .int .u64 d1, .int .u64 d2, .int .u64 d3, .int .u64 d4] 45) = w4' at *
      generalize w4.heap.size = X at *
      refine (HmayP.out _).mono ?_
      rintro e w5 ⟨rfl, hb5⟩
      have hsz4 : H ≤ w4'.heap.size := by rw [← HHx.out]; exact HB4.out.size
      have HOc := Lib.hid (HO4.out.later hb5)
      have HHc := Lib.hid (HH4.out.later hb5)
      have HGc := Lib.hid (HG4.out.later hb5)
      have HXc := Lib.hid (HX4.out.later hb5)
      have HBc := Lib.hid (HB4.out.trans (hb5.mono hsz4))
      clear hb5 HO4 HH4 HG4 HB4 HX4 hsz4
      have g0 := HGc.out.cell (i := 0) rfl
      have g1 := HGc.out.cell (i := 1) rfl
      have g2 := HGc.out.cell (i := 2) rfl
      have g3 := HGc.out.cell (i := 3) rfl
      have g4 := HGc.out.cell (i := 4) rfl
      have g5 := HGc.out.cell (i := 5) rfl
      have g6 := HGc.out.cell (i := 6) rfl
      have g7 := HGc.out.cell (i := 7) rfl
      have x0 := HXc.out.cell (i := 0) rfl
      have x1 := HXc.out.cell (i := 1) rfl
      have x2 := HXc.out.cell (i := 2) rfl
      have x3 := HXc.out.cell (i := 3) rfl
      have x4 := HXc.out.cell (i := 4) rfl
      have x5 := HXc.out.cell (i := 5) rfl
      have x6 := HXc.out.cell (i := 6) rfl
      have x7 := HXc.out.cell (i := 7) rfl
      go_wp2_with fail
      as_aux_lemma =>
      have hrl : Rd w5 av (hoB ⟨I, B, N, s, a1, a2, a3, a4⟩) := by
        obtain ⟨a', c', e', _, _, h'⟩ := HOc.out.rd
        cases e'
        exact h'
      have hsz5 : H ≤ (w5).heap.size := by rw [← HHx.out]; exact HBc.out.size
      refine (HdecL.out _ av cv Hvc.out hrl).mono ?_
      rintro e w8 ⟨rfl, hb8⟩
      have HO8 := Lib.hid ((HOc.out.later hb8).alloc (.cells #[.int .i64 I, .int .u64 B, .int .u64 N, .bool s, .int .u64 a1, .int .u64 a2, .int .u64 a3, .int .u64 a4] 45))
      have HH8' := Lib.hid (HHc.out.later hb8)
      have HH8 := Lib.hid ((HHc.out.later hb8).alloc (.cells #[.int .i64 I, .int .u64 B, .int .u64 N, .bool s, .int .u64 a1, .int .u64 a2, .int .u64 a3, .int .u64 a4] 45))
      have HK8 := Lib.hid (HB.new w8 [.int .i64 I, .int .u64 B, .int .u64 N, .bool s, .int .u64 a1, .int .u64 a2, .int .u64 a3, .int .u64 a4] 45)
      have HB8 := Lib.hid ((HBc.out.trans (hb8.mono hsz5)).alloc (by have := (HHc.out.later hb8).lt; omega) (.cells #[.int .i64 I, .int .u64 B, .int .u64 N, .bool s, .int .u64 a1, .int .u64 a2, .int .u64 a3, .int .u64 a4] 45))
      clear hb8 hsz5 hrl HOc HHc HBc
      have k0 := fun o => (HH8'.out.alloc o).cell (i := 0) rfl
      have k1 := fun o => (HH8'.out.alloc o).cell (i := 1) rfl
      have k2 := fun o => (HH8'.out.alloc o).cell (i := 2) rfl
      have k3 := fun o => (HH8'.out.alloc o).cell (i := 3) rfl
      have k4 := fun o => (HH8'.out.alloc o).cell (i := 4) rfl
      have k5 := fun o => (HH8'.out.alloc o).cell (i := 5) rfl
      have k6 := fun o => (HH8'.out.alloc o).cell (i := 6) rfl
      have k7 := fun o => (HH8'.out.alloc o).cell (i := 7) rfl
      go_wp2_with fail
      as_aux_lemma =>
      clear k0 k1 k2 k3 k4 k5 k6 k7 HH8'
      generalize w8.alloc (.cells #[.int .i64 I, .int .u64 B, .int .u64 N, .bool s, .int .u64 a1, .int .u64 a2, .int .u64 a3, .int .u64 a4] 45) = w8' at *
      generalize w8.heap.size = K at *
      refine (Hbyt.out _).mono ?_
      rintro e w9 ⟨vb, rfl, ho9, hb9⟩
      obtain ⟨ab, cb, rfl, -, -, hrb⟩ := ho9.rd
      have hsz8 : H ≤ w8'.heap.size := by rw [← HHx.out]; exact HB8.out.size
      have HO9 := Lib.hid (HO8.out.later hb9)
      have HH9 := Lib.hid (HH8.out.later hb9)
      have HK9 := Lib.hid (HK8.out.later hb9)
      have HB9 := Lib.hid (HB8.out.trans (hb9.mono hsz8))
      have Hrb := Lib.hid hrb
      have Hrl : Hid (Rd w9 av (hoB ⟨I, B, N, s, a1, a2, a3, a4⟩)) := Lib.hid (by
        obtain ⟨a', c', e', _, _, h'⟩ := HO9.out.rd
        cases e'
        exact h')
      rw [hoB_len]
      clear ho9 hb9 hrb hsz8 HO8 HH8 HK8 HB8
      go_wp2_with fail
      as_aux_lemma =>
      refine (same2_true _ _ _ _ _ _ _ _ _ rfl (hoB_len _) (hoB_len _) (by decide) (by decide) Hrl.out Hrb.out).mono ?_
      rintro e w10 ⟨rfl, hd⟩
      have HH10 := Lib.hid (HH9.out.drn hd)
      have HK10 := Lib.hid (HK9.out.drn hd)
      have HBc := Lib.hid (HB9.out.trans (hd.below _))
      clear HH9 HK9 HB9 HO9 Hrb Hrl hd
      have k0 := HH10.out.cell (i := 0) rfl
      have k1 := HH10.out.cell (i := 1) rfl
      have k2 := HH10.out.cell (i := 2) rfl
      have k3 := HH10.out.cell (i := 3) rfl
      have k4 := HH10.out.cell (i := 4) rfl
      have k5 := HH10.out.cell (i := 5) rfl
      have k6 := HH10.out.cell (i := 6) rfl
      have k7 := HH10.out.cell (i := 7) rfl
      have g0 := HK10.out.cell (i := 0) rfl
      have g1 := HK10.out.cell (i := 1) rfl
      have g2 := HK10.out.cell (i := 2) rfl
      have g3 := HK10.out.cell (i := 3) rfl
      have g4 := HK10.out.cell (i := 4) rfl
      have g5 := HK10.out.cell (i := 5) rfl
      have g6 := HK10.out.cell (i := 6) rfl
      have g7 := HK10.out.cell (i := 7) rfl
      have heq := fun w => ho_refl ⟨I, B, N, s, a1, a2, a3, a4⟩ w
      unfold hov at heq
      go_wp2_with fail
      go_ret
      exact ⟨rfl, by rw [HHx.out]; exact HBc.out⟩
  · replace HencD := Lib.hid (HencD.out rfl)
    simp only [if_true] at HdecP
    cases hm : mayR h
    · rw [hm] at Henc HmayP
      simp only [Bool.false_eq_true, if_false] at Henc
      clear HdecL Hbyt hm Hl50
      obtain ⟨I, B, N, s, a1, a2, a3, a4⟩ := h
      have HLn : Hid (([] : List UInt8).length = 0) := Lib.hid rfl
      unfold hov at *
      go_enter Try.func7, Try.ntmps7
      go_wp2_with fail
      as_aux_lemma =>
      refine (awake_any _).mono ?_
      rintro e w1 ⟨rfl, hb1⟩
      have HH1 := Lib.hid ((HB.new W [.int .i64 I, .int .u64 B, .int .u64 N, .bool s, .int .u64 a1, .int .u64 a2, .int .u64 a3, .int .u64 a4] 45).later hb1)
      have HB1 := Lib.hid (((Below.refl W.heap.size W).alloc (Nat.le_refl _) (.cells #[.int .i64 I, .int .u64 B, .int .u64 N, .bool s, .int .u64 a1, .int .u64 a2, .int .u64 a3, .int .u64 a4] 45)).trans (hb1.mono (by simp)))
      clear hb1
      generalize hH : W.heap.size = H at *
      have HHx := Lib.hid hH
      clear hH
      have k0 := HH1.out.cell (i := 0) rfl
      have k1 := HH1.out.cell (i := 1) rfl
      have k2 := HH1.out.cell (i := 2) rfl
      have k3 := HH1.out.cell (i := 3) rfl
      have k4 := HH1.out.cell (i := 4) rfl
      have k5 := HH1.out.cell (i := 5) rfl
      have k6 := HH1.out.cell (i := 6) rfl
      have k7 := HH1.out.cell (i := 7) rfl
      go_wp2_with fail
      as_aux_lemma =>
      refine (Henc.out _).mono ?_
      rintro e w2 ⟨v, rfl, ho2, hb2⟩
      have hsz1 : H ≤ w1.heap.size := by rw [← HHx.out]; exact HB1.out.size
      obtain ⟨av, cv, rfl, hvc, hvm, -⟩ := ho2.rd
      have HO2 := Lib.hid (ho2.mono hsz1)
      have HH2 := Lib.hid (HH1.out.later hb2)
      have HB2 := Lib.hid (HB1.out.trans (hb2.mono hsz1))
      rw [HLn.out] at HO2 hvc
      have Hvc := Lib.hid hvc
      rw [HLn.out]
      clear ho2 hb2 HH1 HB1 k0 k1 k2 k3 k4 k5 k6 k7 hsz1 hvc hvm
      have hr2 : Rd w2 ao b := Hr.out.below (by rw [HHx.out]; exact HB2.out)
      go_wp2_with fail
      as_aux_lemma =>
      refine (HdecP.out _ hr2).mono ?_
      rintro e w3 ⟨rfl, hb3⟩
      have hsz2 : H ≤ w2.heap.size := by rw [← HHx.out]; exact HB2.out.size
      have HO3 := Lib.hid ((HO2.out.later hb3).alloc (.cells #[.int .i64 dI, .int .u64 dB, .int .u64 dN, .bool ds, .int .u64 d1, .int .u64 d2, .int .u64 d3, .int .u64 d4] 45))
      have HH3 := Lib.hid ((HH2.out.later hb3).alloc (.cells #[.int .i64 dI, .int .u64 dB, .int .u64 dN, .bool ds, .int .u64 d1, .int .u64 d2, .int .u64 d3, .int .u64 d4] 45))
      have HB3 := Lib.hid ((HB2.out.trans (hb3.mono hsz2)).alloc (by have := (HH2.out.later hb3).lt; omega) (.cells #[.int .i64 dI, .int .u64 dB, .int .u64 dN, .bool ds, .int .u64 d1, .int .u64 d2, .int .u64 d3, .int .u64 d4] 45))
      have HG3 := Lib.hid (HB.new w3 [.int .i64 dI, .int .u64 dB, .int .u64 dN, .bool ds, .int .u64 d1, .int .u64 d2, .int .u64 d3, .int .u64 d4] 45)
      clear hb3 HO2 HH2 HB2 hr2 hsz2
      have hr3 : Rd (w3.alloc (.cells #[.int .i64 dI, .int .u64 dB, .int .u64 dN, .bool ds, .int .u64 d1, .int .u64 d2, .int .u64 d3, .int .u64 d4] 45)) ao b := Hr.out.below (by rw [HHx.out]; exact HB3.out)
      go_wp2_with fail
      as_aux_lemma =>
      generalize w3.alloc (.cells #[.int .i64 dI, .int .u64 dB, .int .u64 dN, .bool ds, .int .u64 d1, .int .u64 d2, .int .u64 d3, .int .u64 d4] 45) = w3' at *
      generalize w3.heap.size = G at *
      refine (HdecR.out _ hr3).mono ?_
      rintro e w4 ⟨rfl, hb4⟩
      have hsz3 : H ≤ w3'.heap.size := by rw [← HHx.out]; exact HB3.out.size
      have HO4 := Lib.hid ((HO3.out.later hb4).alloc (.cells #[.int .i64 dI, .int .u64 dB, .int .u64 dN, .bool ds, .int .u64 d1, .int .u64 d2, .int .u64 d3, .int .u64 d4] 45))
      have HH4' := Lib.hid (HH3.out.later hb4)
      have HH4 := Lib.hid ((HH3.out.later hb4).alloc (.cells #[.int .i64 dI, .int .u64 dB, .int .u64 dN, .bool ds, .int .u64 d1, .int .u64 d2, .int .u64 d3, .int .u64 d4] 45))
      have HG4 := Lib.hid ((HG3.out.later hb4).alloc (.cells #[.int .i64 dI, .int .u64 dB, .int .u64 dN, .bool ds, .int .u64 d1, .int .u64 d2, .int .u64 d3, .int .u64 d4] 45))
      have HB4 := Lib.hid ((HB3.out.trans (hb4.mono hsz3)).alloc (by have := (HH3.out.later hb4).lt; omega) (.cells #[.int .i64 dI, .int .u64 dB, .int .u64 dN, .bool ds, .int .u64 d1, .int .u64 d2, .int .u64 d3, .int .u64 d4] 45))
      have HX4 := Lib.hid (HB.new w4 [.int .i64 dI, .int .u64 dB, .int .u64 dN, .bool ds, .int .u64 d1, .int .u64 d2, .int .u64 d3, .int .u64 d4] 45)
      clear hb4 HO3 HH3 HB3 HG3 hr3 hsz3
      have k0 := fun o => (HH4'.out.alloc o).cell (i := 0) rfl
      have k1 := fun o => (HH4'.out.alloc o).cell (i := 1) rfl
      have k2 := fun o => (HH4'.out.alloc o).cell (i := 2) rfl
      have k3 := fun o => (HH4'.out.alloc o).cell (i := 3) rfl
      have k4 := fun o => (HH4'.out.alloc o).cell (i := 4) rfl
      have k5 := fun o => (HH4'.out.alloc o).cell (i := 5) rfl
      have k6 := fun o => (HH4'.out.alloc o).cell (i := 6) rfl
      have k7 := fun o => (HH4'.out.alloc o).cell (i := 7) rfl
      go_wp2_with fail
      as_aux_lemma =>
      clear k0 k1 k2 k3 k4 k5 k6 k7 HH4'
      generalize w4.alloc (.cells #[.int .i64 dI, .int .u64 dB, .int .u64 dN, .bool ds, .int .u64 d1, .int .u64 d2, .int .u64 d3, .int .u64 d4] 45) = w4' at *
      generalize w4.heap.size = X at *
      refine (HmayP.out _).mono ?_
      rintro e w5 ⟨rfl, hb5⟩
      have hsz4 : H ≤ w4'.heap.size := by rw [← HHx.out]; exact HB4.out.size
      have HOc := Lib.hid (HO4.out.later hb5)
      have HHc := Lib.hid (HH4.out.later hb5)
      have HGc := Lib.hid (HG4.out.later hb5)
      have HXc := Lib.hid (HX4.out.later hb5)
      have HBc := Lib.hid (HB4.out.trans (hb5.mono hsz4))
      clear hb5 HO4 HH4 HG4 HB4 HX4 hsz4
      have g0 := HGc.out.cell (i := 0) rfl
      have g1 := HGc.out.cell (i := 1) rfl
      have g2 := HGc.out.cell (i := 2) rfl
      have g3 := HGc.out.cell (i := 3) rfl
      have g4 := HGc.out.cell (i := 4) rfl
      have g5 := HGc.out.cell (i := 5) rfl
      have g6 := HGc.out.cell (i := 6) rfl
      have g7 := HGc.out.cell (i := 7) rfl
      have x0 := HXc.out.cell (i := 0) rfl
      have x1 := HXc.out.cell (i := 1) rfl
      have x2 := HXc.out.cell (i := 2) rfl
      have x3 := HXc.out.cell (i := 3) rfl
      have x4 := HXc.out.cell (i := 4) rfl
      have x5 := HXc.out.cell (i := 5) rfl
      have x6 := HXc.out.cell (i := 6) rfl
      have x7 := HXc.out.cell (i := 7) rfl
      go_wp2_with fail
      as_aux_lemma =>
      clear x0 x1 x2 x3 x4 x5 x6 x7 HXc
      refine (HencD.out _).mono ?_
      rintro e w6 ⟨vd, rfl, ho6, hb6⟩
      obtain ⟨ad, cd, rfl, -, -, hrd⟩ := ho6.rd
      have hsz5 : H ≤ w5.heap.size := by rw [← HHx.out]; exact HBc.out.size
      have HO6 := Lib.hid (HOc.out.later hb6)
      have HH6 := Lib.hid (HHc.out.later hb6)
      have HB6 := Lib.hid (HBc.out.trans (hb6.mono hsz5))
      have Hrd := Lib.hid hrd
      have Hr6 : Hid (Rd w6 ao b) := Lib.hid (Hr.out.below (by rw [HHx.out]; exact HB6.out))
      rw [Hl.out]
      clear ho6 hb6 hrd hsz5 HOc HHc HBc HGc g0 g1 g2 g3 g4 g5 g6 g7
      go_wp2_with fail
      as_aux_lemma =>
      refine (same2_true _ _ _ _ _ _ b b _ rfl Hl.out Hl.out (by have := Hn.out; omega) (by have := Hn.out; omega) Hrd.out Hr6.out).mono ?_
      rintro e w7 ⟨rfl, hd7⟩
      have HOc := Lib.hid (HO6.out.later (hd7.below _))
      have HHc := Lib.hid (HH6.out.later (hd7.below _))
      have HBc := Lib.hid (HB6.out.trans (hd7.below _))
      clear HO6 HH6 HB6 Hrd Hr6 hd7
      go_wp2_with fail
      go_ret
      exact ⟨rfl, by rw [HHx.out]; exact HBc.out⟩
    · rw [hm] at Henc HmayP
      simp only [if_true] at Henc
      replace HdecL := Lib.hid (HdecL.out hm)
      replace Hbyt := Lib.hid (Hbyt.out hm)
      clear hm
      have HLn := Hl50
      obtain ⟨I, B, N, s, a1, a2, a3, a4⟩ := h
      unfold hov at *
      go_enter Try.func7, Try.ntmps7
      go_wp2_with fail
      as_aux_lemma =>
      refine (awake_any _).mono ?_
      rintro e w1 ⟨rfl, hb1⟩
      have HH1 := Lib.hid ((HB.new W [.int .i64 I, .int .u64 B, .int .u64 N, .bool s, .int .u64 a1, .int .u64 a2, .int .u64 a3, .int .u64 a4] 45).later hb1)
      have HB1 := Lib.hid (((Below.refl W.heap.size W).alloc (Nat.le_refl _) (.cells #[.int .i64 I, .int .u64 B, .int .u64 N, .bool s, .int .u64 a1, .int .u64 a2, .int .u64 a3, .int .u64 a4] 45)).trans (hb1.mono (by simp)))
      clear hb1
      generalize hH : W.heap.size = H at *
      have HHx := Lib.hid hH
      clear hH
      have k0 := HH1.out.cell (i := 0) rfl
      have k1 := HH1.out.cell (i := 1) rfl
      have k2 := HH1.out.cell (i := 2) rfl
      have k3 := HH1.out.cell (i := 3) rfl
      have k4 := HH1.out.cell (i := 4) rfl
      have k5 := HH1.out.cell (i := 5) rfl
      have k6 := HH1.out.cell (i := 6) rfl
      have k7 := HH1.out.cell (i := 7) rfl
      go_wp2_with fail
      as_aux_lemma =>
      refine (Henc.out _).mono ?_
      rintro e w2 ⟨v, rfl, ho2, hb2⟩
      have hsz1 : H ≤ w1.heap.size := by rw [← HHx.out]; exact HB1.out.size
      obtain ⟨av, cv, rfl, hvc, hvm, -⟩ := ho2.rd
      have HO2 := Lib.hid (ho2.mono hsz1)
      have HH2 := Lib.hid (HH1.out.later hb2)
      have HB2 := Lib.hid (HB1.out.trans (hb2.mono hsz1))
      rw [HLn.out] at HO2 hvc
      have Hvc := Lib.hid hvc
      rw [HLn.out]
      clear ho2 hb2 HH1 HB1 k0 k1 k2 k3 k4 k5 k6 k7 hsz1 hvc hvm
      have hr2 : Rd w2 ao b := Hr.out.below (by rw [HHx.out]; exact HB2.out)
      go_wp2_with fail
      as_aux_lemma =>
      refine (HdecP.out _ hr2).mono ?_
      rintro e w3 ⟨rfl, hb3⟩
      have hsz2 : H ≤ w2.heap.size := by rw [← HHx.out]; exact HB2.out.size
      have HO3 := Lib.hid ((HO2.out.later hb3).alloc (.cells #[.int .i64 dI, .int .u64 dB, .int .u64 dN, .bool ds, .int .u64 d1, .int .u64 d2, .int .u64 d3, .int .u64 d4] 45))
      have HH3 := Lib.hid ((HH2.out.later hb3).alloc (.cells #[.int .i64 dI, .int .u64 dB, .int .u64 dN, .bool ds, .int .u64 d1, .int .u64 d2, .int .u64 d3, .int .u64 d4] 45))
      have HB3 := Lib.hid ((HB2.out.trans (hb3.mono hsz2)).alloc (by have := (HH2.out.later hb3).lt; omega) (.cells #[.int .i64 dI, .int .u64 dB, .int .u64 dN, .bool ds, .int .u64 d1, .int .u64 d2, .int .u64 d3, .int .u64 d4] 45))
      have HG3 := Lib.hid (HB.new w3 [.int .i64 dI, .int .u64 dB, .int .u64 dN, .bool ds, .int .u64 d1, .int .u64 d2, .int .u64 d3, .int .u64 d4] 45)
      clear hb3 HO2 HH2 HB2 hr2 hsz2
      have hr3 : Rd (w3.alloc (.cells #[.int .i64 dI, .int .u64 dB, .int .u64 dN, .bool ds, .int .u64 d1, .int .u64 d2, .int .u64 d3, .int .u64 d4] 45)) ao b := Hr.out.below (by rw [HHx.out]; exact HB3.out)
      go_wp2_with fail
      as_aux_lemma =>
      generalize w3.alloc (.cells #[.int .i64 dI, .int .u64 dB, .int .u64 dN, .bool ds, .int .u64 d1, .int .u64 d2, .int .u64 d3, .int .u64 d4] 45) = w3' at *
      generalize w3.heap.size = G at *
      refine (HdecR.out _ hr3).mono ?_
      rintro e w4 ⟨rfl, hb4⟩
      have hsz3 : H ≤ w3'.heap.size := by rw [← HHx.out]; exact HB3.out.size
      have HO4 := Lib.hid ((HO3.out.later hb4).alloc (.cells #[.int .i64 dI, .int .u64 dB, .int .u64 dN, .bool ds, .int .u64 d1, .int .u64 d2, .int .u64 d3, .int .u64 d4] 45))
      have HH4' := Lib.hid (HH3.out.later hb4)
      have HH4 := Lib.hid ((HH3.out.later hb4).alloc (.cells #[.int .i64 dI, .int .u64 dB, .int .u64 dN, .bool ds, .int .u64 d1, .int .u64 d2, .int .u64 d3, .int .u64 d4] 45))
      have HG4 := Lib.hid ((HG3.out.later hb4).alloc (.cells #[.int .i64 dI, .int .u64 dB, .int .u64 dN, .bool ds, .int .u64 d1, .int .u64 d2, .int .u64 d3, .int .u64 d4] 45))
      have HB4 := Lib.hid ((HB3.out.trans (hb4.mono hsz3)).alloc (by have := (HH3.out.later hb4).lt; omega) (.cells #[.int .i64 dI, .int .u64 dB, .int .u64 dN, .bool ds, .int .u64 d1, .int .u64 d2, .int .u64 d3, .int .u64 d4] 45))
      have HX4 := Lib.hid (HB.new w4 [.int .i64 dI, .int .u64 dB, .int .u64 dN, .bool ds, .int .u64 d1, .int .u64 d2, .int .u64 d3, .int .u64 d4] 45)
      clear hb4 HO3 HH3 HB3 HG3 hr3 hsz3
      have k0 := fun o => (HH4'.out.alloc o).cell (i := 0) rfl
      have k1 := fun o => (HH4'.out.alloc o).cell (i := 1) rfl
      have k2 := fun o => (HH4'.out.alloc o).cell (i := 2) rfl
      have k3 := fun o => (HH4'.out.alloc o).cell (i := 3) rfl
      have k4 := fun o => (HH4'.out.alloc o).cell (i := 4) rfl
      have k5 := fun o => (HH4'.out.alloc o).cell (i := 5) rfl
      have k6 := fun o => (HH4'.out.alloc o).cell (i := 6) rfl
      have k7 := fun o => (HH4'.out.alloc o).cell (i := 7) rfl
      go_wp2_with fail
      as_aux_lemma =>
      clear k0 k1 k2 k3 k4 k5 k6 k7 HH4'
      generalize w4.alloc (.cells #[.int .i64 dI, .int .u64 dB, .int .u64 dN, .bool ds, .int .u64 d1, .int .u64 d2, .int .u64 d3, .int .u64 d4] 45) = w4' at *
      generalize w4.heap.size = X at *
      refine (HmayP.out _).mono ?_
      rintro e w5 ⟨rfl, hb5⟩
      have hsz4 : H ≤ w4'.heap.size := by rw [← HHx.out]; exact HB4.out.size
      have HOc := Lib.hid (HO4.out.later hb5)
      have HHc := Lib.hid (HH4.out.later hb5)
      have HGc := Lib.hid (HG4.out.later hb5)
      have HXc := Lib.hid (HX4.out.later hb5)
      have HBc := Lib.hid (HB4.out.trans (hb5.mono hsz4))
      clear hb5 HO4 HH4 HG4 HB4 HX4 hsz4
      have g0 := HGc.out.cell (i := 0) rfl
      have g1 := HGc.out.cell (i := 1) rfl
      have g2 := HGc.out.cell (i := 2) rfl
      have g3 := HGc.out.cell (i := 3) rfl
      have g4 := HGc.out.cell (i := 4) rfl
      have g5 := HGc.out.cell (i := 5) rfl
      have g6 := HGc.out.cell (i := 6) rfl
      have g7 := HGc.out.cell (i := 7) rfl
      have x0 := HXc.out.cell (i := 0) rfl
      have x1 := HXc.out.cell (i := 1) rfl
      have x2 := HXc.out.cell (i := 2) rfl
      have x3 := HXc.out.cell (i := 3) rfl
      have x4 := HXc.out.cell (i := 4) rfl
      have x5 := HXc.out.cell (i := 5) rfl
      have x6 := HXc.out.cell (i := 6) rfl
      have x7 := HXc.out.cell (i := 7) rfl
      go_wp2_with fail
      as_aux_lemma =>
      clear x0 x1 x2 x3 x4 x5 x6 x7 HXc
      refine (HencD.out _).mono ?_
      rintro e w6 ⟨vd, rfl, ho6, hb6⟩
      obtain ⟨ad, cd, rfl, -, -, hrd⟩ := ho6.rd
      have hsz5 : H ≤ w5.heap.size := by rw [← HHx.out]; exact HBc.out.size
      have HO6 := Lib.hid (HOc.out.later hb6)
      have HH6 := Lib.hid (HHc.out.later hb6)
      have HB6 := Lib.hid (HBc.out.trans (hb6.mono hsz5))
      have Hrd := Lib.hid hrd
      have Hr6 : Hid (Rd w6 ao b) := Lib.hid (Hr.out.below (by rw [HHx.out]; exact HB6.out))
      rw [Hl.out]
      clear ho6 hb6 hrd hsz5 HOc HHc HBc HGc g0 g1 g2 g3 g4 g5 g6 g7
      go_wp2_with fail
      as_aux_lemma =>
      refine (same2_true _ _ _ _ _ _ b b _ rfl Hl.out Hl.out (by have := Hn.out; omega) (by have := Hn.out; omega) Hrd.out Hr6.out).mono ?_
      rintro e w7 ⟨rfl, hd7⟩
      have HOc := Lib.hid (HO6.out.later (hd7.below _))
      have HHc := Lib.hid (HH6.out.later (hd7.below _))
      have HBc := Lib.hid (HB6.out.trans (hd7.below _))
      clear HO6 HH6 HB6 Hrd Hr6 hd7
      go_wp2_with fail
      as_aux_lemma =>
      have hrl : Rd w7 av (hoB ⟨I, B, N, s, a1, a2, a3, a4⟩) := by
        obtain ⟨a', c', e', _, _, h'⟩ := HOc.out.rd
        cases e'
        exact h'
      have hsz5 : H ≤ (w7).heap.size := by rw [← HHx.out]; exact HBc.out.size
      refine (HdecL.out _ av cv Hvc.out hrl).mono ?_
      rintro e w8 ⟨rfl, hb8⟩
      have HO8 := Lib.hid ((HOc.out.later hb8).alloc (.cells #[.int .i64 I, .int .u64 B, .int .u64 N, .bool s, .int .u64 a1, .int .u64 a2, .int .u64 a3, .int .u64 a4] 45))
      have HH8' := Lib.hid (HHc.out.later hb8)
      have HH8 := Lib.hid ((HHc.out.later hb8).alloc (.cells #[.int .i64 I, .int .u64 B, .int .u64 N, .bool s, .int .u64 a1, .int .u64 a2, .int .u64 a3, .int .u64 a4] 45))
      have HK8 := Lib.hid (HB.new w8 [.int .i64 I, .int .u64 B, .int .u64 N, .bool s, .int .u64 a1, .int .u64 a2, .int .u64 a3, .int .u64 a4] 45)
      have HB8 := Lib.hid ((HBc.out.trans (hb8.mono hsz5)).alloc (by have := (HHc.out.later hb8).lt; omega) (.cells #[.int .i64 I, .int .u64 B, .int .u64 N, .bool s, .int .u64 a1, .int .u64 a2, .int .u64 a3, .int .u64 a4] 45))
      clear hb8 hsz5 hrl HOc HHc HBc
      have k0 := fun o => (HH8'.out.alloc o).cell (i := 0) rfl
      have k1 := fun o => (HH8'.out.alloc o).cell (i := 1) rfl
      have k2 := fun o => (HH8'.out.alloc o).cell (i := 2) rfl
      have k3 := fun o => (HH8'.out.alloc o).cell (i := 3) rfl
      have k4 := fun o => (HH8'.out.alloc o).cell (i := 4) rfl
      have k5 := fun o => (HH8'.out.alloc o).cell (i := 5) rfl
      have k6 := fun o => (HH8'.out.alloc o).cell (i := 6) rfl
      have k7 := fun o => (HH8'.out.alloc o).cell (i := 7) rfl
      go_wp2_with fail
      as_aux_lemma =>
      clear k0 k1 k2 k3 k4 k5 k6 k7 HH8'
      generalize w8.alloc (.cells #[.int .i64 I, .int .u64 B, .int .u64 N, .bool s, .int .u64 a1, .int .u64 a2, .int .u64 a3, .int .u64 a4] 45) = w8' at *
      generalize w8.heap.size = K at *
      refine (Hbyt.out _).mono ?_
      rintro e w9 ⟨vb, rfl, ho9, hb9⟩
      obtain ⟨ab, cb, rfl, -, -, hrb⟩ := ho9.rd
      have hsz8 : H ≤ w8'.heap.size := by rw [← HHx.out]; exact HB8.out.size
      have HO9 := Lib.hid (HO8.out.later hb9)
      have HH9 := Lib.hid (HH8.out.later hb9)
      have HK9 := Lib.hid (HK8.out.later hb9)
      have HB9 := Lib.hid (HB8.out.trans (hb9.mono hsz8))
      have Hrb := Lib.hid hrb
      have Hrl : Hid (Rd w9 av (hoB ⟨I, B, N, s, a1, a2, a3, a4⟩)) := Lib.hid (by
        obtain ⟨a', c', e', _, _, h'⟩ := HO9.out.rd
        cases e'
        exact h')
      rw [hoB_len]
      clear ho9 hb9 hrb hsz8 HO8 HH8 HK8 HB8
      go_wp2_with fail
      as_aux_lemma =>
      refine (same2_true _ _ _ _ _ _ _ _ _ rfl (hoB_len _) (hoB_len _) (by decide) (by decide) Hrl.out Hrb.out).mono ?_
      rintro e w10 ⟨rfl, hd⟩
      have HH10 := Lib.hid (HH9.out.drn hd)
      have HK10 := Lib.hid (HK9.out.drn hd)
      have HBc := Lib.hid (HB9.out.trans (hd.below _))
      clear HH9 HK9 HB9 HO9 Hrb Hrl hd
      have k0 := HH10.out.cell (i := 0) rfl
      have k1 := HH10.out.cell (i := 1) rfl
      have k2 := HH10.out.cell (i := 2) rfl
      have k3 := HH10.out.cell (i := 3) rfl
      have k4 := HH10.out.cell (i := 4) rfl
      have k5 := HH10.out.cell (i := 5) rfl
      have k6 := HH10.out.cell (i := 6) rfl
      have k7 := HH10.out.cell (i := 7) rfl
      have g0 := HK10.out.cell (i := 0) rfl
      have g1 := HK10.out.cell (i := 1) rfl
      have g2 := HK10.out.cell (i := 2) rfl
      have g3 := HK10.out.cell (i := 3) rfl
      have g4 := HK10.out.cell (i := 4) rfl
      have g5 := HK10.out.cell (i := 5) rfl
      have g6 := HK10.out.cell (i := 6) rfl
      have g7 := HK10.out.cell (i := 7) rfl
      have heq := fun w => ho_refl ⟨I, B, N, s, a1, a2, a3, a4⟩ w
      unfold hov at heq
      go_wp2_with fail
      go_ret
      exact ⟨rfl, by rw [HHx.out]; exact HBc.out⟩
set_option maxRecDepth 100000 in
theorem walk {H : Type} (enc : TypeId × Value → H) (W : World) (base : Nat) (v0 : Value) (d0 : DataW H) (p0 : List MemPlace) (v1 : Value) (d1 : DataW H) (p1 : List MemPlace)
    (k0 : Value.okWide Try.prog W .any base 45 v0) (k1 : Value.okWide Try.prog W .any base 46 v1)
    (h0 : DataW.Trod enc Try.prog W 0 (fun _ => true) true 45 v0 d0 p0) (h1 : DataW.Trod enc Try.prog W 0 (fun _ => true) true 46 v1 d1 p1)
    (hsz : (DataW.weightsEach Try.prog [45, 46] ([d0, d1] ++ [])).all (· ≤ reachBytes) = true) :
    Calls Try.prog 7 #[v0, v1] W fun e w' => e = .returned (.bool true) ∧ Below W.heap.size W w' := by
  simp only [DataW.weightsEach, List.cons_append, List.nil_append] at hsz
  obtain ⟨z0, zz⟩ := all_app hsz
  obtain ⟨z1, _⟩ := all_app zz
  obtain ⟨h, rfl, hok⟩ := ho_parts k0 h0
  obtain ⟨ao, n, cap, l, rfl, hl, hn, hcap, hrd, hnil⟩ := open_bytes Try.underlying46 Try.underlying5 (by kernel_rfl) (by kernel_rfl) k1 h1 z1
  exact core W h hok ao n cap l hl hn hcap hrd
end Go.Proofs.Ythhodibfbfmijaa.mapHandoffs
