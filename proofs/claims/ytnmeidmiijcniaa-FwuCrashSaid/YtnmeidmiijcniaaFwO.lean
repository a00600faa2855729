/- The program's Open of an updater. No condition. -/
import Derived.Test.YtnmeidmiijcniaaFwP
import Derived.Test.YtnmeidmiijcniaaFl3
import Derived.Test.YtnmeidmiijcniaaFits
import Derived.BigQuiet
import Derived.Deep.DeepCutAuto
set_option linter.unusedVariables false
set_option linter.unusedSimpArgs false
namespace Go.Proofs.Ytnmeidmiijcniaa
open Go.RowKit
def upc (p : Nat) (s : Up) : List Value := [.pointer (some ⟨p, 0, none⟩), .int .i64 s.meta', .int .i64 s.k0, .int .i64 s.k1, .int .i64 s.blocks]
def sp (s : Up) (i : Nat) : Int × Int := if i = 0 then (s.meta', 2) else if i = 1 then (s.k0, s.blocks) else (s.k1, s.blocks)
structure UpI (s : Up) : Prop where
  m : I64 s.meta'
  x : I64 s.k0
  y : I64 s.k1
  b : I64 s.blocks
theorem UpI.sp {s : Up} (h : UpI s) (i : Nat) : I64 (sp s i).1 ∧ I64 (sp s i).2 := by
  unfold Proofs.Ytnmeidmiijcniaa.sp
  split
  · exact ⟨h.m, show (-9223372036854775808 : Int) ≤ 2 by decide, show (2 : Int) ≤ 9223372036854775807 by decide⟩
  · split
    · exact ⟨h.x, h.b⟩
    · exact ⟨h.y, h.b⟩
theorem inSp_fits {a m s : Nat} : inSp (s : Int) (a : Int) (m : Int) = fitsB a m s := by
  unfold inSp fitsB
  rw [Bool.eq_iff_iff]
  simp only [Bool.and_eq_true, decide_eq_true_eq]
  omega
def okA (s : Up) (size : Int) (i : Nat) : Prop := inSp size (sp s i).1 (sp s i).2 = true ∧ ∀ j, j < i → lapS (sp s i).1 (sp s i).2 (sp s j).1 (sp s j).2 = false
theorem upOk_all {s : Up} {size : Int} (hb : 1 ≤ s.blocks) (h : ∀ i, i < 3 → okA s size i) : upOk s size = true := by
  have h0 := h 0 (by decide)
  have h1 := h 1 (by decide)
  have h2 := h 2 (by decide)
  have a1 := h1.2 0 (by decide)
  have a2 := h2.2 0 (by decide)
  have a3 := h2.2 1 (by decide)
  have b0 := h0.1
  have b1 := h1.1
  have b2 := h2.1
  simp only [sp] at a1 a2 a3 b0 b1 b2
  simp at a1 a2 a3 b0 b1 b2
  unfold upOk
  simp [hb, a1, a2, a3, b0, b1, b2]
theorem upOk_not {s : Up} {size : Int} {i : Nat} (hi : i < 3) (h : ¬ okA s size i) : upOk s size = false := by
  cases hh : upOk s size
  · rfl
  · exfalso
    apply h
    have hu := upOk_iff.1 hh
    unfold upOk at hh
    simp only [Bool.and_eq_true, Bool.not_eq_true'] at hh
    obtain ⟨⟨⟨⟨⟨⟨h1, h2⟩, h3⟩, h4⟩, h5⟩, h6⟩, h7⟩ := hh
    rcases (show i = 0 ∨ i = 1 ∨ i = 2 by omega) with rfl | rfl | rfl
    · exact ⟨h2, fun j hj => absurd hj (by omega)⟩
    · refine ⟨h3, fun j hj => ?_⟩
      obtain rfl : j = 0 := by omega
      exact h5
    · refine ⟨h4, fun j hj => ?_⟩
      rcases (show j = 0 ∨ j = 1 by omega) with rfl | rfl
      · exact h6
      · exact h7
def spc (s : Up) : List Value := [.int .i64 s.meta', .int .i64 2, .int .i64 s.k0, .int .i64 s.blocks, .int .i64 s.k1, .int .i64 s.blocks]
def buildSp (ps : Array (Nat × Value)) : Sem Value := Instr.build 93 ps
theorem build_sp (ps : Array (Nat × Value)) : Instr.build 93 ps = buildSp ps := rfl
theorem run_buildSp (x y : Int) (w : World) : (buildSp #[(0, .int .i64 x), (1, .int .i64 y)]).run Try.prog w = .ok (.agg #[.int .i64 x, .int .i64 y]) w := by kernel_rfl
def buildSs (ps : Array (Nat × Value)) : Sem Value := Instr.build 94 ps
theorem build_ss (ps : Array (Nat × Value)) : Instr.build 94 ps = buildSs ps := rfl
theorem run_buildSs (a b c d e f : Int) (w : World) : (buildSs #[(0, .agg #[.int .i64 a, .int .i64 b]), (1, .agg #[.int .i64 c, .int .i64 d]), (2, .agg #[.int .i64 e, .int .i64 f])]).run Try.prog w = .ok (.agg #[.int .i64 a, .int .i64 b, .int .i64 c, .int .i64 d, .int .i64 e, .int .i64 f]) w := by kernel_rfl
def buildUp (ps : Array (Nat × Value)) : Sem Value := Instr.build 99 ps
theorem build_up (ps : Array (Nat × Value)) : Instr.build 99 ps = buildUp ps := rfl
theorem run_buildUp (p : Nat) (m x y b : Int) (w : World) : (buildUp #[(0, .pointer (some ⟨p, 0, none⟩)), (1, .int .i64 m), (2, .agg #[.int .i64 x, .int .i64 y]), (3, .int .i64 b)]).run Try.prog w = .ok (.agg #[.pointer (some ⟨p, 0, none⟩), .int .i64 m, .int .i64 x, .int .i64 y, .int .i64 b]) w := by kernel_rfl
def indexSs (x i : Value) : Sem Value := Instr.index 94 x i
theorem index_ss (x i : Value) : Instr.index 94 x i = indexSs x i := rfl
theorem run_indexSs (s : Up) (k : Nat) (hk : k < 3) (w : World) : (indexSs (.agg #[.int .i64 s.meta', .int .i64 2, .int .i64 s.k0, .int .i64 s.blocks, .int .i64 s.k1, .int .i64 s.blocks]) (.int .i64 (k : Int))).run Try.prog w = .ok (.agg #[.int .i64 (sp s k).1, .int .i64 (sp s k).2]) w := by
  rcases (show k = 0 ∨ k = 1 ∨ k = 2 by omega) with rfl | rfl | rfl
  · kernel_rfl
  · kernel_rfl
  · kernel_rfl
theorem run_sliceSs (T k : Nat) (hk : k < 3) (w : World) : (Instr.sliceAt 94 (.pointer (some ⟨T, 0, none⟩)) none (some (.int .i64 (k : Int))) none).run Try.prog w = .ok (.slice (some ⟨T, 0, none⟩) k 3) w := by
  rcases (show k = 0 ∨ k = 1 ∨ k = 2 by omega) with rfl | rfl | rfl
  · kernel_rfl
  · kernel_rfl
  · kernel_rfl
attribute [local go_sem ↓] build_sp build_ss build_up index_ss
structure OutIn (s : Up) (size : Int) (w1 : World) (iv : Value) (wr : World) : Prop where
  x : ∃ k : Nat, k ≤ 3 ∧ iv = .int .i64 k ∧ (∀ i, i < k → okA s size i) ∧ Below w1.heap.size w1 wr
structure InnIn (s : Up) (k : Nat) (w1 : World) (iv : Value) (wr : World) : Prop where
  x : ∃ j : Nat, j ≤ k ∧ iv = .int .i64 j ∧ (∀ i, i < j → lapS (sp s k).1 (sp s k).2 (sp s i).1 (sp s i).2 = false) ∧ Below w1.heap.size w1 wr
theorem spc_at {w : World} {T : Nat} {s : Up} (h : HB w T 94 (spc s)) {k : Nat} (hk : k < 3) : w.cell? ⟨T, k * 2, none⟩ = some (.int .i64 (sp s k).1) ∧ w.cell? ⟨T, k * 2 + 1, none⟩ = some (.int .i64 (sp s k).2) := by
  rcases (show k = 0 ∨ k = 1 ∨ k = 2 by omega) with rfl | rfl | rfl
  · exact ⟨h.cell rfl, h.cell rfl⟩
  · exact ⟨h.cell rfl, h.cell rfl⟩
  · exact ⟨h.cell rfl, h.cell rfl⟩
set_option maxRecDepth 100000 in
set_option maxHeartbeats 1000000 in
theorem open_any (p mb n : Nat) (f : Fl) (s : Up) (w : World) (h : FlA w p mb n f) (ho : f.Ok) (hi : UpI s) :
    Calls Try.prog 16 #[.pointer (some ⟨p, 0, none⟩), .int .i64 s.meta', .agg #[.int .i64 s.k0, .int .i64 s.k1], .int .i64 s.blocks] w fun e w' =>
      ((upOk s f.size = true ∧ ∃ u, e = .returned (.tuple #[.pointer (some ⟨u, 0, none⟩), .int .i64 0]) ∧ HB w' u 99 (upc p s) ∧ w.heap.size ≤ u) ∨ (upOk s f.size = false ∧ e = .returned (.tuple #[.pointer none, .int .i64 233]))) ∧ Below w.heap.size w w' := by
  have H := Lib.hid h
  have Ho := Lib.hid ho
  have HA := Lib.hid (HB.new w [.int .i64 s.k0, .int .i64 s.k1] 40)
  have HB1 := Lib.hid ((Below.refl w.heap.size w).alloc (Nat.le_refl _) (.cells #[.int .i64 s.k0, .int .i64 s.k1] 40))
  obtain ⟨w1, hw1⟩ : ∃ w1, w.alloc (.cells #[.int .i64 s.k0, .int .i64 s.k1] 40) = w1 := ⟨_, rfl⟩
  have hA1 : HB w1 w.heap.size 40 [.int .i64 s.k0, .int .i64 s.k1] := by rw [← hw1]; exact HA.out
  rw [hw1] at HB1
  obtain ⟨A, hA⟩ : ∃ A, w.heap.size = A := ⟨_, rfl⟩
  rw [hA] at hA1
  have a0 := hA1.cell (i := 0) rfl
  have a1 := hA1.cell (i := 1) rfl
  clear HA h ho
  by_cases hbl : s.blocks < 1
  · have Hno := Lib.hid (upOk_no (s := s) (size := f.size) (fun h => by have := h.b; omega))
    clear hA1
    go_enter Try.func16, Try.ntmps16
    go_wp2_with fail
    go_ret2
    exact ⟨.inr ⟨Hno.out, rfl⟩, by first | exact HB1.out | (rw [← hA]; exact HB1.out) | (rw [hA]; exact HB1.out)⟩
  · have b1 := run_buildSp
    have b2 := run_buildSs
    have b3 := run_buildUp
    have hT := HB.new w1 (spc s) 94
    have hbT := (Below.refl w1.heap.size w1).alloc (Nat.le_refl _) (.cells (spc s).toArray 94)
    have HA2 := Lib.hid (hA1.later hbT)
    obtain ⟨w2, hw2⟩ : ∃ w2, w1.alloc (.cells (spc s).toArray 94) = w2 := ⟨_, rfl⟩
    rw [hw2] at hT hbT HA2
    obtain ⟨T, hTt⟩ : ∃ T, w1.heap.size = T := ⟨_, rfl⟩
    rw [hTt] at hT
    have HT := Lib.hid hT
    have HB2 := Lib.hid (HB1.out.trans (hbT.mono HB1.out.size))
    obtain ⟨t0, t1⟩ := spc_at hT (k := 0) (by decide)
    obtain ⟨t2, t3⟩ := spc_at hT (k := 1) (by decide)
    obtain ⟨t4, t5⟩ := spc_at hT (k := 2) (by decide)
    simp only [sp] at t0 t1 t2 t3 t4 t5
    simp at t0 t1 t2 t3 t4 t5
    unfold spc at hw2
    clear hT hbT hA1
    go_enter Try.func16, Try.ntmps16
    go_upto_region 7 with fail
    clear t0 t1 t2 t3 t4 t5 b1 b2 a0 a1 hw1 hw2
    have Hbl := Lib.hid hbl
    have Hi := Lib.hid hi
    clear hi
    have hs0 := H.out.h
    have Hsz := Lib.hid (And.intro Ho.out.s0 Ho.out.s1)
    clear hs0
    go_loopw [31] (fun iv wr => OutIn s f.size w2 iv wr) (fun iv _ => 3 - (intOf iv).toNat)
    case atStart => exact ⟨0, by decide, rfl, fun i hi => absurd hi (by omega), Below.refl _ _⟩
    case round =>
      obtain ⟨k, hk, rfl, hok, hb⟩ := hrel
      have Hok := Lib.hid hok
      have Hb := Lib.hid hb
      clear hok hb
      by_cases hk3 : k < 3
      · have q1 : (k : Int) < 3 := by omega
        have hix := run_indexSs s k hk3
        obtain ⟨a, ha⟩ : ∃ a, (sp s k).1 = a := ⟨_, rfl⟩
        obtain ⟨m, hm⟩ : ∃ m, (sp s k).2 = m := ⟨_, rfl⟩
        have hir := Hi.out.sp k
        rw [ha, hm] at hir
        unfold I64 at hir
        have hm1 : 1 ≤ m := by
          rw [← hm]; have h1 := Hbl.out
          unfold sp; split
          · exact show (1 : Int) ≤ 2 by decide
          · split
            · exact h1
            · exact h1
        rw [ha, hm] at hix
        have HX := HB.new wr [.int .i64 a, .int .i64 m] 93
        have hbX := (Below.refl wr.heap.size wr).alloc (Nat.le_refl _) (.cells #[.int .i64 a, .int .i64 m] 93)
        obtain ⟨w3, hw3⟩ : ∃ w3, wr.alloc (.cells #[.int .i64 a, .int .i64 m] 93) = w3 := ⟨_, rfl⟩
        have HX' : HB w3 wr.heap.size 93 [.int .i64 a, .int .i64 m] := by rw [← hw3]; exact HX
        rw [hw3] at hbX
        obtain ⟨X, hX⟩ : ∃ X, wr.heap.size = X := ⟨_, rfl⟩
        rw [hX] at HX'
        have HX3 := Lib.hid HX'
        have Hb3 := Lib.hid (Hb.out.trans (hbX.mono Hb.out.size))
        clear HX HX' hbX
        go_upto_region 9 with fail
        have x0 := HX3.out.cell (i := 0) rfl
        have x1 := HX3.out.cell (i := 1) rfl
        have z0 := fun n => (HX3.out.drn (⟨n, rfl⟩ : Drn w3 (w3.drewN n))).cell (i := 0) rfl
        have z1 := fun n => (HX3.out.drn (⟨n, rfl⟩ : Drn w3 (w3.drewN n))).cell (i := 1) rfl
        have HBz := Lib.hid (fun n => HB2.out.trans ((Hb3.out.trans ((⟨n, rfl⟩ : Drn w3 (w3.drewN n)).below _)).mono HB2.out.size))
        by_cases ha0 : a < 0
        · have hno := upOk_not (s := s) (size := f.size) hk3 (fun h => by have h1 := h.1; rw [ha, hm] at h1; unfold inSp at h1; rw [decide_eq_false (by omega)] at h1; cases h1)
          have Hno := Lib.hid hno
          clear hno Hok ha hm hix hw3 hir hm1
          go_quiet (fail)
          go_wp2_with fail
          go_ret2
          exact ⟨.inr ⟨Hno.out, rfl⟩, by first | exact HBz.out _ | (rw [← hA]; exact HBz.out _)⟩
        obtain ⟨an, han⟩ : ∃ an : Nat, a = (an : Int) := ⟨a.toNat, by omega⟩
        obtain ⟨mn, hmn⟩ : ∃ mn : Nat, m = (mn : Int) := ⟨m.toNat, by omega⟩
        have Hf3 := Lib.hid (H.out.later (HB2.out.trans (Hb3.out.mono HB2.out.size)))
        obtain ⟨sn, hsn⟩ : ∃ sn : Nat, f.size = (sn : Int) := ⟨f.size.toNat, by have := Hsz.out; omega⟩
        have HSz := Lib.hid (fun w' (h : Drn w3 w') => size_any p mb n f w' (Hf3.out.drn h))
        have hsn2 : sn ≤ 1048576 := by have := Hsz.out; omega
        have Hfit := Lib.hid (fun w' => fits_any an mn sn w' (by omega) (by omega) (by omega))
        have e1 : IntKind.u64.wrap (an : Int) = (an : Int) := IntWalk.u64_in _ (by omega)
        have e2 : IntKind.u64.wrap (mn : Int) = (mn : Int) := IntWalk.u64_in _ (by omega)
        have e3 : IntKind.u64.wrap (sn : Int) = (sn : Int) := IntWalk.u64_in _ (by omega)
        have hfs := inSp_fits (a := an) (m := mn) (s := sn)
        rw [hsn] at HSz
        rw [han] at ha x0 z0 ha0
        rw [hmn] at hm x1 z1 hm1
        rw [← hsn] at hfs
        have Hfs := Lib.hid hfs
        have Hir := Lib.hid hir
        have Hha := fun (_ : Unit) => Lib.hid ha
        have Hhm := fun (_ : Unit) => Lib.hid hm
        have Hm1 := Lib.hid hm1
        have Hal := Lib.hid (show an ≤ 9223372036854775807 ∧ mn ≤ 9223372036854775807 ∧ sn ≤ 1048576 by omega)
        clear hfs hir ha hm hm1 hix hw3 hsn2
        cases hfb : fitsB an mn sn
        · have hno := upOk_not (s := s) (size := f.size) hk3 (fun h => by have h1 := h.1; rw [(Hha ()).out, (Hhm ()).out, Hfs.out, hfb] at h1; cases h1)
          have Hno := Lib.hid hno
          rw [hfb] at Hfit
          clear hno Hok hfb hsn
          go_quiet (first | (go_at_call 49; exact quiet_eq (HSz.out _ ⟨_, rfl⟩)) | (go_at_call 48; exact quiet_eq (Hfit.out _)))
          go_wp2_with fail
          go_ret2
          exact ⟨.inr ⟨Hno.out, rfl⟩, by first | exact HBz.out _ | (rw [← hA]; exact HBz.out _)⟩
        · have Hsp := Lib.hid (fitsB_true hfb)
          rw [hfb] at Hfit
          have HBo := Lib.hid (fun n => Hb3.out.trans ((⟨n, rfl⟩ : Drn w3 (w3.drewN n)).below _))
          go_quiet (first | (go_at_call 49; exact quiet_eq (HSz.out _ ⟨_, rfl⟩)) | (go_at_call 48; exact quiet_eq (Hfit.out _)))
          have HX4 := Lib.hid (HX3.out.drn (⟨nq, rfl⟩ : Drn w3 (w3.drewN nq)))
          have HT4 := Lib.hid (HT.out.later (HBo.out nq))
          have Hb4 := Lib.hid (HBo.out nq)
          have HXT : Hid (X ≠ T) := Lib.hid (by have := HT.out.lt; have := Hb.out.size; omega)
          clear x0 x1 z0 z1 HBz HSz Hfit HX3 HBo Hb3 Hf3 e1 e2 e3 hfb
          have Hsn := Lib.hid hsn
          clear hsn
          generalize w3.drewN nq = w4 at *
          have hsl := run_sliceSs T k hk3
          go_upto_region 12 with fail
          clear hsl
          have q2 : (k : Int) ≤ 3 := by omega
          go_loopw [54] (fun iv wx => InnIn s k w4 iv wx) (fun iv _ => k - (intOf iv).toNat)
          case atStart => exact ⟨0, Nat.zero_le _, rfl, fun i hi => absurd hi (by omega), Below.refl _ _⟩
          case round =>
            obtain ⟨j, hj, rfl, hlp, hbx⟩ := hrel
            have Hlp := Lib.hid hlp
            have Hbx := Lib.hid hbx
            clear hlp hbx
            by_cases hjk : j < k
            · have q3 : (j : Int) < (k : Int) := by omega
              obtain ⟨t0, t1⟩ := spc_at (HT4.out.later Hbx.out) (k := j) (by omega)
              obtain ⟨c, hc⟩ : ∃ c, (sp s j).1 = c := ⟨_, rfl⟩
              obtain ⟨d, hd⟩ : ∃ d, (sp s j).2 = d := ⟨_, rfl⟩
              have hokj := (Hok.out j hjk).1
              rw [hc] at t0 hokj
              rw [hd] at t1 hokj
              have hcd : 0 ≤ c ∧ c + d ≤ f.size := by
                unfold inSp at hokj
                simp only [Bool.and_eq_true, decide_eq_true_eq] at hokj
                omega
              have hdi := (Hi.out.sp j).2
              rw [hd] at hdi
              unfold I64 at hdi
              have hsz := Hsz.out
              have hsp := Hsp.out
              have hsn := Hsn.out
              have e4 : IntKind.i64.wrap (c + d) = c + d := IntWalk.i64_in _ (by omega)
              have e5 : IntKind.i64.wrap ((an : Int) + (mn : Int)) = (an : Int) + (mn : Int) := IntWalk.i64_in _ (by omega)
              have hlap : lapS (sp s k).1 (sp s k).2 (sp s j).1 (sp s j).2 = (decide ((an : Int) < c + d) && decide (c < (an : Int) + (mn : Int))) := by unfold lapS; rw [(Hha ()).out, (Hhm ()).out, hc, hd]
              have Hlap := Lib.hid hlap
              have HXx := HX4.out.later Hbx.out
              have hY := HB.new wr [.int .i64 c, .int .i64 d] 93
              have hbY := (Below.refl wr.heap.size wr).alloc (Nat.le_refl _) (.cells #[.int .i64 c, .int .i64 d] 93)
              obtain ⟨w6, hw6⟩ : ∃ w6, wr.alloc (.cells #[.int .i64 c, .int .i64 d] 93) = w6 := ⟨_, rfl⟩
              have hY6 : HB w6 wr.heap.size 93 [.int .i64 c, .int .i64 d] := by rw [← hw6]; exact hY
              rw [hw6] at hbY
              obtain ⟨Y, hYy⟩ : ∃ Y, wr.heap.size = Y := ⟨_, rfl⟩
              rw [hYy] at hY6
              have x0 := (HXx.later hbY).cell (i := 0) rfl
              have x1 := (HXx.later hbY).cell (i := 1) rfl
              have y0 := hY6.cell (i := 0) rfl
              have y1 := hY6.cell (i := 1) rfl
              have Hb6 := Lib.hid (Hbx.out.trans (hbY.mono Hbx.out.size))
              have HBe := Lib.hid (HB2.out.trans ((Hb4.out.trans (Hb6.out.mono Hb4.out.size)).mono HB2.out.size))
              obtain ⟨cd, hcd2⟩ : ∃ cd, c + d = cd := ⟨_, rfl⟩
              obtain ⟨am, ham⟩ : ∃ am, (an : Int) + (mn : Int) = am := ⟨_, rfl⟩
              rw [hcd2] at e4 Hlap
              rw [ham] at e5 Hlap
              clear hY hbY hY6 HXx hlap hokj hcd hdi hsz hsp hsn hc hd
              by_cases g1 : (an : Int) < cd
              · by_cases g2 : c < am
                · have hno := upOk_not (s := s) (size := f.size) hk3 (fun h => by have h1 := h.2 j hjk; rw [Hlap.out, decide_eq_true g1, decide_eq_true g2] at h1; cases h1)
                  have Hno := Lib.hid hno
                  clear hno Hlap Hlp
                  go_wp2_with fail
                  go_ret2
                  exact ⟨.inr ⟨Hno.out, rfl⟩, by first | exact HBe.out | (rw [← hA]; exact HBe.out)⟩
                · have hn := Hlap.out
                  rw [decide_eq_false g2, Bool.and_false] at hn
                  have Hn := Lib.hid (show ∀ i, i < j + 1 → lapS (sp s k).1 (sp s k).2 (sp s i).1 (sp s i).2 = false from fun i hi => by
                    rcases Nat.lt_or_ge i j with h1 | h1
                    · exact Hlp.out i h1
                    · rw [show i = j by omega]; exact hn)
                  clear hn Hlap Hlp
                  go_wp2_with fail
                  first
                  | (go_roundw
                     case rel => exact ⟨j + 1, by omega, by go_num, Hn.out, Hb6.out⟩
                     case measure => (first | omega | (simp [intOf] <;> omega) | (simp only [intOf] <;> omega)))
                  | exact ⟨⟨j + 1, by omega, by go_num, Hn.out, Hb6.out⟩, by (first | omega | (simp [intOf] <;> omega) | (simp only [intOf] <;> omega))⟩
                  | (refine ⟨?_, by (first | omega | (simp [intOf] <;> omega) | (simp only [intOf] <;> omega))⟩
                     (repeat apply Exists.intro)
                     refine (fun a b => And.intro b a) ?_ ?_
                     · first | rfl | ((repeat refine ⟨rfl, ?_⟩); rfl)
                     exact ⟨j + 1, by omega, by go_num, Hn.out, Hb6.out⟩)
              · have hn := Hlap.out
                rw [decide_eq_false g1, Bool.false_and] at hn
                have Hn := Lib.hid (show ∀ i, i < j + 1 → lapS (sp s k).1 (sp s k).2 (sp s i).1 (sp s i).2 = false from fun i hi => by
                  rcases Nat.lt_or_ge i j with h1 | h1
                  · exact Hlp.out i h1
                  · rw [show i = j by omega]; exact hn)
                clear hn Hlap Hlp
                go_wp2_with fail
                first
                | (go_roundw
                   case rel => exact ⟨j + 1, by omega, by go_num, Hn.out, Hb6.out⟩
                   case measure => (first | omega | (simp [intOf] <;> omega) | (simp only [intOf] <;> omega)))
                | exact ⟨⟨j + 1, by omega, by go_num, Hn.out, Hb6.out⟩, by (first | omega | (simp [intOf] <;> omega) | (simp only [intOf] <;> omega))⟩
                | (refine ⟨?_, by (first | omega | (simp [intOf] <;> omega) | (simp only [intOf] <;> omega))⟩
                   (repeat apply Exists.intro)
                   refine (fun a b => And.intro b a) ?_ ?_
                   · first | rfl | ((repeat refine ⟨rfl, ?_⟩); rfl)
                   exact ⟨j + 1, by omega, by go_num, Hn.out, Hb6.out⟩)
            · have q3 : ¬ (j : Int) < (k : Int) := by omega
              have Hnext := Lib.hid (show ∀ i, i < k + 1 → okA s f.size i from fun i hi => by
                rcases Nat.lt_or_ge i k with h1 | h1
                · exact Hok.out i h1
                · rw [show i = k by omega]
                  refine ⟨by rw [(Hha ()).out, (Hhm ()).out, Hfs.out]; unfold fitsB; rw [decide_eq_true Hsp.out.1, decide_eq_true (by have := Hsp.out; omega)]; rfl, fun i hi => Hlp.out i (by omega)⟩)
              have Hbn := Lib.hid (Hb4.out.trans (Hbx.out.mono Hb4.out.size))
              clear Hlp Hok
              go_wp2_with fail
              first
              | (go_roundw
                 case rel => exact ⟨k + 1, by omega, by go_num, Hnext.out, Hbn.out⟩
                 case measure => (first | omega | (simp [intOf] <;> omega) | (simp only [intOf] <;> omega)))
              | exact ⟨⟨k + 1, by omega, by go_num, Hnext.out, Hbn.out⟩, by (first | omega | (simp [intOf] <;> omega) | (simp only [intOf] <;> omega))⟩
              | (refine ⟨?_, by (first | omega | (simp [intOf] <;> omega) | (simp only [intOf] <;> omega))⟩
                 (repeat apply Exists.intro)
                 refine (fun a b => And.intro b a) ?_ ?_
                 · first | rfl | ((repeat refine ⟨rfl, ?_⟩); rfl)
                 exact ⟨k + 1, by omega, by go_num, Hnext.out, Hbn.out⟩)
      · have q1 : ¬ (k : Int) < 3 := by omega
        have hall := upOk_all (s := s) (size := f.size) Hbl.out (fun i hi => Hok.out i (by omega))
        have Hall := Lib.hid hall
        have hA3 := HA2.out.later Hb.out
        have a0 := hA3.cell (i := 0) rfl
        have a1 := hA3.cell (i := 1) rfl
        have HU := Lib.hid (HB.new wr (upc p s) 99)
        have HBf := Lib.hid (HB2.out.trans (Hb.out.mono HB2.out.size))
        have HBu := Lib.hid (HBf.out.alloc HBf.out.size (.cells (upc p s).toArray 99))
        have Hsz2 := Lib.hid HBf.out.size
        clear hA3 hall Hok
        unfold upc at HU HBu
        go_wp2_with fail
        go_ret2
        exact ⟨.inl ⟨Hall.out, _, rfl, by unfold upc; exact HU.out, by first | exact Hsz2.out | (rw [← hA]; exact Hsz2.out)⟩, by first | exact HBu.out | (rw [← hA]; exact HBu.out)⟩
end Go.Proofs.Ytnmeidmiijcniaa
