/- A block of 64-bit words, taken in by the document. No condition. (Written by shab64.py.) -/
import Derived.Test.YtngkelflfahjbaaDoorShaB
set_option linter.unusedVariables false
set_option linter.unusedSimpArgs false
namespace Go.Proofs.YtngkelflfahjbaaDoor
open Go.RowKit
set_option maxRecDepth 100000 in
set_option maxHeartbeats 20000000 in
theorem block64_any (k : Nat) (s : S8) (ao : Option Addr) (cap : Nat) (b : List UInt8) (w : World) (hk : 1 ≤ k ∧ k ≤ 3) (hwk : wK k = 64) (hs : s.Lt (2 ^ 64)) (hl : b.length = 128) (hcap : 128 ≤ cap) (hr : Rd w ao b) :
    Calls Tryd.prog 49 #[.int .i64 (k : Nat), .agg ((s8l s).map u64v).toArray, .slice ao 128 cap] w fun e w' => e = .returned (.agg ((s8l (block8 64 s b)).map u64v).toArray) ∧ Below w.heap.size w w' := by
  have hz8 : ∀ w, (zeroValue 63).run Tryd.prog w = .ok (.agg z8L.toArray) w := fun w => by kernel_rfl
  obtain ⟨i0, hi, hz0, hz1, hz2⟩ := info_parts u64Info
  obtain ⟨dk, Hkd⟩ : ∃ dk : Nat, Hid (∀ w, Calls Tryd.prog 29 #[.int .i64 (k : Nat)] w fun e w' => e = .returned (.tuple #[.int .u64 64, .int .i64 128, .int .i64 80, .int .i64 (dk : Nat)]) ∧ w = w') :=
    ⟨digK k, Lib.hid (fun w => by have h := kind_any k w hk; rw [hwk] at h; exact h)⟩
  have HS0 := Lib.hid (HB.new w ((s8l s).map u64v) 63)
  have HB0 := Lib.hid ((Below.refl w.heap.size w).alloc (Nat.le_refl _) (.cells ((s8l s).map u64v).toArray 63))
  clear hk hwk
  go_enter Tryd.func49, Tryd.ntmps49
  go_upto_region 1 with fail
  as_aux_lemma =>
  have HS1 := Lib.hid (HS0.out.alloc (.cells z8L.toArray 63))
  have HR1 := Lib.hid (HB.new (w.alloc (.cells ((s8l s).map u64v).toArray 63)) z8L 63)
  have HB1 := Lib.hid (HB0.out.alloc HB0.out.size (.cells z8L.toArray 63))
  have Hs1 : Hid (((w.alloc (.cells ((s8l s).map u64v).toArray 63)).alloc (.cells z8L.toArray 63)).heap.size = w.heap.size + 2) := Lib.hid (by simp)
  have hsz0 : (w.alloc (.cells ((s8l s).map u64v).toArray 63)).heap.size = w.heap.size + 1 := by simp
  rw [hsz0] at HR1
  generalize (w.alloc (.cells ((s8l s).map u64v).toArray 63)).alloc (.cells z8L.toArray 63) = w1 at *
  have Hs := Lib.hid hs
  have Hl := Lib.hid hl
  have Hr := Lib.hid (hr.below HB1.out)
  have hlt0 := hr.lt (by rw [hl]; decide)
  have Hcap := Lib.hid hcap
  obtain ⟨S, hS⟩ : ∃ S, w.heap.size = S := ⟨_, rfl⟩
  rw [hS] at HS1 HR1 HB1 Hs1 hlt0 ⊢
  have Hlt : Hid (∀ a, ao = some a → a.block < S + 2) := Lib.hid (fun a e => by have := hlt0 a e; omega)
  have HSw := Lib.hid hS
  clear hsz0 HS0 HB0 hs hl hr hcap hS hz8 hlt0
  go_wp2_with fail
  refine (Hkd.out _).mono ?_
  rintro e w2 ⟨rfl, rfl⟩
  have hm1 := Hs1.out
  obtain ⟨L, hL⟩ : ∃ L, w1.heap.size = L := ⟨_, rfl⟩
  clear Hkd
  go_wp2_with (at_make; refine wpList_make_full _ rfl _ _ 86 rfl w1.heap.size 37 i0 (.int .u64 0) 1 Tryd.underlying86 hi hz0 hz1 _ _ _ _ 80 rfl rfl rfl rfl (by rw [hz2]; decide) (by decide) (Nat.le_refl _) ?_)
  intro w4 hown hg4
  have HL4 : Hid (HB w4 (S + 2) 37 (fillA u64v (u64v 0) 80 [])) := Lib.hid (by
    have h := made_hb hown
    rw [toList_madeCells_one] at h
    rw [fillA_nil]
    exact h)
  have HB4 := Lib.hid (HB1.out.trans ((below_grown hg4).mono (by have := Hs1.out; omega)))
  have HS4 := Lib.hid (HS1.out.grown hg4 (fun e => by cases e))
  have HR4 := Lib.hid (HR1.out.grown hg4 (fun e => by cases e))
  have Hr4 := Lib.hid (Hr.out.grown hg4 (fun a e h => by cases h))
  have Hs4 : Hid (S + 2 < w4.heap.size) := Lib.hid HL4.out.lt
  clear hown hg4 HB1 HS1 HR1 Hr Hs1 hm1 hL hi hz0 hz1 hz2
  obtain ⟨L, hL⟩ : ∃ L, S + 2 = L := ⟨_, rfl⟩
  rw [hL] at HL4 Hs4 Hlt ⊢
  have HLs := Lib.hid hL
  have Hr := Hr4
  clear hL Hr4
  go_wp2_with fail
  as_aux_lemma =>
  go_loopw [13, 14, 15, 16] (fun t _ _ _ wr => B1In L 64 80 b w4 t wr) (fun t _ _ _ _ => 80 - (intOf t).toNat)
  case atStart => exact ⟨0, by omega, rfl, HL4.out, Below.refl _ _, by have := Hs4.out; omega⟩
  case round =>
    as_aux_lemma =>
    obtain ⟨t, ht, rfl, hV, hBl, hsz⟩ := hrel
    clear HL4
    have HV := Lib.hid hV
    have HBl := Lib.hid hBl
    have Hsz := Lib.hid hsz
    clear hV hBl hsz
    by_cases hlt : t < 80
    · by_cases h16 : t < 16
      · have HV0 : Hid (HB wr L 37 (fillA u64v (u64v 0) 80 (wl 64 b t ++ [0]))) := Lib.hid (by rw [← fillA_zero (wl_len 64 b t) hlt]; exact HV.out)
        have i1 : (t : Int) < 80 := by omega
        have i2 : (t : Int) < 16 := by omega
        clear HV
        go_wp2_with fail
        as_aux_lemma =>
        go_loopw [14] (fun i wr => B2In L 64 80 8 t b w4 i wr) (fun i _ => 8 - (intOf i).toNat)
        case atStart => exact ⟨0, by omega, rfl, HV0.out, HBl.out, Hsz.out⟩
        case round =>
          as_aux_lemma =>
          obtain ⟨j, hj, rfl, hV, hBl, hsz⟩ := hrel
          clear HV0 HBl Hsz
          have HBl := Lib.hid hBl
          have Hsz := Lib.hid hsz
          have HV := Lib.hid hV
          clear hV hBl hsz
          by_cases hjl : j < 8
          · obtain ⟨f, hf⟩ : ∃ f, t * 8 = f := ⟨_, rfl⟩
            have hpl : (piece b f 8).length = 8 := by unfold piece; rw [List.length_take, List.length_drop, Hl.out]; omega
            obtain ⟨bb, o, hao, hc⟩ := (Rd.belowL Hr.out HBl.out Hlt.out) (f + j) (by rw [Hl.out]; omega)
            subst hao
            have hget : (piece b f 8)[j]?.getD 0 = b[f + j]?.getD 0 := by unfold piece; rw [List.getElem?_take_of_lt hjl, List.getElem?_drop]
            have hsn : beN ((piece b f 8).take (j + 1)) = beN ((piece b f 8).take j) * 256 + (b[f + j]?.getD 0).toNat := by rw [take_snoc8 _ j (by omega), beN_snoc, hget]
            have hvl := beN_lt ((piece b f 8).take j)
            have hlk : ((piece b f 8).take j).length = j := by rw [List.length_take, hpl]; omega
            rw [hlk] at hvl
            have hp : (256 : Nat) ^ j ≤ 256 ^ 7 := Nat.pow_le_pow_right (by decide) (by omega)
            have hV := HV.out
            rw [hf] at hV
            generalize beN ((piece b f 8).take j) = V at *
            generalize b[f + j]?.getD 0 = c at *
            have hcl := c.toNat_lt
            obtain ⟨V2, hV2⟩ : ∃ V2, V * 256 = V2 := ⟨_, rfl⟩
            obtain ⟨V3, hV3⟩ : ∃ V3, V2 + c.toNat = V3 := ⟨_, rfl⟩
            have f1 : IntKind.u64.wrap ((V : Int) * 256) = (V2 : Int) := by rw [IntWalk.u64_in _ (by omega)]; omega
            have f2 : IntKind.u64.wrap (c.toNat : Int) = (c.toNat : Int) := IntWalk.u64_in _ (by omega)
            have f3 : IntKind.u64.wrap ((V2 : Int) + (c.toNat : Int)) = (V3 : Int) := by rw [IntWalk.u64_in _ (by omega)]; omega
            rw [hV2, hV3] at hsn
            have hg : (fillA u64v (u64v 0) 80 (wl 64 b t ++ [V]))[t]? = some (.int .u64 (V : Nat)) := by
              rw [fillA_get (by rw [List.length_append, wl_len]; simp), List.getElem?_append_right (by rw [wl_len]; exact Nat.le_refl _), wl_len, Nat.sub_self]; rfl
            have hcell := hV.cell hg
            have hcell' := fun n => (hV.drn (⟨n, rfl⟩ : Drn wr (wr.drewN n))).cell hg
            have hc' := fun n => (Drn.cell (⟨n, rfl⟩ : Drn wr (wr.drewN n)) ⟨bb, o + (f + j), none⟩).trans hc
            have hfz := hV.frozen t
            have hfz' := fun n => (hV.drn (⟨n, rfl⟩ : Drn wr (wr.drewN n))).frozen t
            have HS := Lib.hid ((hV.set t (u64v V3)).drn (Drn.refl _).drew)
            rw [fillA_again (wl_len 64 b t) hlt] at HS
            have Hsn := Lib.hid hsn
            have HB6 := Lib.hid ((HBl.out.grown (grown_set wr ⟨L, t, none⟩ (u64v V3)) (by have := Hsz.out; omega) (fun x hx => Nat.le_of_eq (Option.some.inj hx))).drew)
            have Hs6 : Hid (L < (wr.setCell ⟨L, t, none⟩ (u64v V3)).drew.heap.size) := Lib.hid (by have := Hsz.out; simpa [World.setCell] using this)
            have q1 : IntKind.i64.wrap ((t : Int) * 8) = (f : Int) := by rw [IntWalk.i64_in _ (by omega)]; omega
            have q2 : IntKind.i64.wrap ((f : Int) + (j : Int)) = ((f + j : Nat) : Int) := by rw [IntWalk.i64_in _ (by omega)]; omega
            obtain ⟨fj, hfj⟩ : ∃ fj, f + j = fj := ⟨_, rfl⟩
            have q3 : (fj : Int) < 128 := by omega
            rw [hfj] at q2 hc hc'
            have i3 : (j : Int) < 8 := by omega
            have Hf := Lib.hid hf
            unfold u64v at HS HB6 Hs6
            clear hpl hget hsn hvl hlk hp hV hcl hV2 hV3 hg hfj hf HV HBl Hsz
            go_wp2_with fail
            go_region
            as_aux_lemma =>
            clear hcell hcell' hc hc' hfz hfz' f1 f2 f3 q1 q2 q3
            generalize (wr.setCell ⟨L, t, none⟩ (.int .u64 V3)).drew = w6 at *
            go_wp2_with fail
            first
            | (go_roundw
               case rel => exact ⟨j + 1, by omega, by go_num, by rw [Hf.out, Hsn.out]; exact HS.out, HB6.out, Hs6.out⟩
               case measure => (first | omega | (simp [intOf] <;> omega) | (simp only [intOf] <;> omega)))
            | exact ⟨⟨j + 1, by omega, by go_num, by rw [Hf.out, Hsn.out]; exact HS.out, HB6.out, Hs6.out⟩, by (first | omega | (simp [intOf] <;> omega) | (simp only [intOf] <;> omega))⟩
            | (refine ⟨?_, by (first | omega | (simp [intOf] <;> omega) | (simp only [intOf] <;> omega))⟩
               (repeat apply Exists.intro)
               refine (fun a b => And.intro b a) ?_ ?_
               · first | rfl | ((repeat refine ⟨rfl, ?_⟩); rfl)
               exact ⟨j + 1, by omega, by go_num, by rw [Hf.out, Hsn.out]; exact HS.out, HB6.out, Hs6.out⟩)
          · obtain rfl : j = 8 := by omega
            have hw1 := wl_next 64 b t
            rw [if_pos h16] at hw1
            have hsn := wl_snoc 64 b t _ hw1
            have hpl : (piece b (t * 8) 8).length ≤ 8 := by unfold piece; rw [List.length_take]; exact Nat.min_le_left _ _
            have HS : Hid (HB wr L 37 (fillA u64v (u64v 0) 80 (wl 64 b (t + 1)))) := Lib.hid (by
              rw [hsn]
              have h := HV.out
              rw [List.take_of_length_le hpl] at h
              exact h)
            clear hw1 hsn hpl HV
            go_wp2_with fail
            first
            | (go_roundw
               case rel => exact ⟨t + 1, by omega, by go_num, HS.out, HBl.out, Hsz.out⟩
               case measure => (first | omega | (simp [intOf] <;> omega) | (simp only [intOf] <;> omega)))
            | exact ⟨⟨t + 1, by omega, by go_num, HS.out, HBl.out, Hsz.out⟩, by (first | omega | (simp [intOf] <;> omega) | (simp only [intOf] <;> omega))⟩
            | (refine ⟨?_, by (first | omega | (simp [intOf] <;> omega) | (simp only [intOf] <;> omega))⟩
               (repeat apply Exists.intro)
               refine (fun a b => And.intro b a) ?_ ?_
               · first | rfl | ((repeat refine ⟨rfl, ?_⟩); rfl)
               exact ⟨t + 1, by omega, by go_num, HS.out, HBl.out, Hsz.out⟩)
      · obtain ⟨t15, e15⟩ : ∃ q, q + 15 = t := ⟨t - 15, by omega⟩
        obtain ⟨t2, e2⟩ : ∃ q, q + 2 = t := ⟨t - 2, by omega⟩
        obtain ⟨t16, e16⟩ : ∃ q, q + 16 = t := ⟨t - 16, by omega⟩
        obtain ⟨t7, e7⟩ : ∃ q, q + 7 = t := ⟨t - 7, by omega⟩
        have hw1 := wl_next 64 b t
        rw [if_neg h16, show t - 2 = t2 by omega, show t - 7 = t7 by omega, show t - 15 = t15 by omega, show t - 16 = t16 by omega] at hw1
        have g15 := fillA_get (f := u64v) (z := u64v 0) (M := 80) (j := t15) (l := wl 64 b t) (by rw [wl_len]; omega)
        have g2 := fillA_get (f := u64v) (z := u64v 0) (M := 80) (j := t2) (l := wl 64 b t) (by rw [wl_len]; omega)
        have g16 := fillA_get (f := u64v) (z := u64v 0) (M := 80) (j := t16) (l := wl 64 b t) (by rw [wl_len]; omega)
        have g7 := fillA_get (f := u64v) (z := u64v 0) (M := 80) (j := t7) (l := wl 64 b t) (by rw [wl_len]; omega)
        have hx := wl_get_lt (w := 64) (by decide) b t t15
        have hy := wl_get_lt (w := 64) (by decide) b t t2
        have hp := wl_get_lt (w := 64) (by decide) b t t16
        have hq := wl_get_lt (w := 64) (by decide) b t t7
        generalize (wl 64 b t)[t15]?.getD 0 = x at *
        generalize (wl 64 b t)[t2]?.getD 0 = y at *
        generalize (wl 64 b t)[t16]?.getD 0 = p at *
        generalize (wl 64 b t)[t7]?.getD 0 = q at *
        have k15 := HV.out.cell g15
        have k2 := HV.out.cell g2
        have q1 : IntKind.i64.wrap ((t : Int) - 15) = (t15 : Int) := by rw [IntWalk.i64_in _ (by omega)]; omega
        have q2 : IntKind.i64.wrap ((t : Int) - 2) = (t2 : Int) := by rw [IntWalk.i64_in _ (by omega)]; omega
        have q3 : IntKind.i64.wrap ((t : Int) - 16) = (t16 : Int) := by rw [IntWalk.i64_in _ (by omega)]; omega
        have q4 : IntKind.i64.wrap ((t : Int) - 7) = (t7 : Int) := by rw [IntWalk.i64_in _ (by omega)]; omega
        have i1 : (t15 : Int) < 80 := by omega
        have i2 : (t2 : Int) < 80 := by omega
        have i3 : (t16 : Int) < 80 := by omega
        have i4 : (t7 : Int) < 80 := by omega
        have i5 : (t : Int) < 80 := by omega
        have i6 : ¬ (t : Int) < 16 := by omega
        have hs0 := (sg_lt 64 (by decide) hx).1
        have hs1 := (sg_lt 64 (by decide) hy).2.1
        have Hs01 := Lib.hid (And.intro hs0 hs1)
        have Hw1 := Lib.hid hw1
        have HG := Lib.hid (And.intro g16 g7)
        have HX := Lib.hid (And.intro hx (And.intro hy (And.intro hp hq)))
        unfold u64v at k15 k2
        clear g15 g2 g16 g7 hw1 h16 e15 e2 e16 e7 hx hy hp hq hs0 hs1
        have Hf := Lib.hid (fun w => three_any y 64 17 19 10 true w (by decide) (by decide) (by decide) (by decide) HX.out.2.1)
        have Hg := Lib.hid (fun w => three_any x 64 7 18 3 true w (by decide) (by decide) (by decide) (by decide) HX.out.1)
        have Ha := Lib.hid (fun w => three_any y 64 19 61 6 true w (by decide) (by decide) (by decide) (by decide) HX.out.2.1)
        have Hb := Lib.hid (fun w => three_any x 64 1 8 7 true w (by decide) (by decide) (by decide) (by decide) HX.out.1)
        have e0 : three 64 19 61 6 true y = sg1 64 y := by unfold sg1; rw [if_pos rfl]
        have e1 : three 64 1 8 7 true x = sg0 64 x := by unfold sg0; rw [if_pos rfl]
        rw [e0] at Ha
        rw [e1] at Hb
        generalize three 64 17 19 10 true y = F0 at Hf
        generalize three 64 7 18 3 true x = G0 at Hg
        clear e0 e1
        go_wp2_with fail
        as_aux_lemma =>
        refine (Hf.out _).mono ?_
        rintro e w2 ⟨rfl, rfl⟩
        clear Hf
        go_wp2_with fail
        refine (Hg.out _).mono ?_
        rintro e w2 ⟨rfl, rfl⟩
        clear Hg
        go_wp2_with fail
        as_aux_lemma =>
        refine (Ha.out _).mono ?_
        rintro e w2 ⟨rfl, rfl⟩
        go_wp2_with fail
        refine (Hb.out _).mono ?_
        rintro e w2 ⟨rfl, rfl⟩
        go_upto_region 17 with fail
        as_aux_lemma =>
        have hw1 := Hw1.out
        have hS01 := Hs01.out
        have hX := HX.out
        obtain ⟨g16, g7⟩ := HG.out
        have hsg : Hid (sg0 64 x = sg0 64 x) := Lib.hid rfl
        generalize sg0 64 x = S0 at *
        generalize sg1 64 y = S1 at *
        obtain ⟨A1, hA1⟩ : ∃ A, (S1 + q) % 18446744073709551616 = A := ⟨_, rfl⟩
        obtain ⟨A2, hA2⟩ : ∃ A, (A1 + S0) % 18446744073709551616 = A := ⟨_, rfl⟩
        obtain ⟨A3, hA3⟩ : ∃ A, (A2 + p) % 18446744073709551616 = A := ⟨_, rfl⟩
        have a1 : IntKind.u64.wrap ((S1 : Int) + (q : Int)) = (A1 : Int) := by rw [← hA1, ← wrap64]; push_cast; rfl
        have a2 : IntKind.u64.wrap ((A1 : Int) + (S0 : Int)) = (A2 : Int) := by rw [← hA2, ← wrap64]; push_cast; rfl
        have a3 : IntKind.u64.wrap ((A2 : Int) + (p : Int)) = (A3 : Int) := by rw [← hA3, ← wrap64]; push_cast; rfl
        have hA : (S1 + q + S0 + p) % 18446744073709551616 = A3 % 18446744073709551616 := by omega
        have Hcu := Lib.hid (fun w => cut_any A3 64 w (by decide) (by omega))
        have hM2 : (2 : Nat) ^ 64 = 18446744073709551616 := by decide
        rw [hM2] at Hcu hw1
        have hw2 : (wl 64 b (t + 1))[t]? = some (A3 % 18446744073709551616) := by rw [hw1, ← hA]
        generalize A3 % 18446744073709551616 = R at *
        have hsn := wl_snoc 64 b t R hw2
        have k16 := HV.out.cell g16
        have k7 := HV.out.cell g7
        unfold u64v at k16 k7
        clear g16 g7 hw1 hw2 hS01 hX hA1 hA2 hA3 hA hM2 hsg k15 k2
        have Hsn := Lib.hid hsn
        clear hsn
        refine wp_region_still_tail 20 (by kernel_rfl) (by kernel_rfl) ?_
        simp only [List.take_succ_cons, List.take_zero, List.drop_succ_cons, List.drop_zero]
        repeat still_step
        still_call ((Hcu.out _).mono (fun _ _ h_ => ⟨h_.1, h_.2.symm⟩))
        repeat still_step
        refine wpStill_nil ?_
        as_aux_lemma =>
        have hVd := HV.out.drn (Drn.refl _).drew
        have hcd := hVd.cell (fillA_next (f := u64v) (z := u64v 0) (wl_len 64 b t) hlt)
        have hfd := hVd.frozen t
        have HS := Lib.hid (hVd.set t (u64v R))
        rw [fillA_set (wl_len 64 b t) hlt] at HS
        have HB6 := Lib.hid ((HBl.out.drew).grown (grown_set wr.drew ⟨L, t, none⟩ (u64v R)) (by have := Hsz.out; show L ≤ wr.heap.size; omega) (fun x hx => Nat.le_of_eq (Option.some.inj hx)))
        have Hs6 : Hid (L < (wr.drew.setCell ⟨L, t, none⟩ (u64v R)).heap.size) := Lib.hid (by have := Hsz.out; simpa [World.setCell] using this)
        unfold u64v at hcd HS HB6 Hs6
        clear hVd HV HBl Hsz Hcu Ha Hb a1 a2 a3 q1 q2 q3 q4 i1 i2 i3 i4 k16 k7
        go_wp2_with fail
        clear hcd hfd
        first
        | (go_roundw
           case rel => exact ⟨t + 1, by omega, by go_num, by rw [Hsn.out]; exact HS.out, HB6.out, Hs6.out⟩
           case measure => (first | omega | (simp [intOf] <;> omega) | (simp only [intOf] <;> omega)))
        | exact ⟨⟨t + 1, by omega, by go_num, by rw [Hsn.out]; exact HS.out, HB6.out, Hs6.out⟩, by (first | omega | (simp [intOf] <;> omega) | (simp only [intOf] <;> omega))⟩
        | (refine ⟨?_, by (first | omega | (simp [intOf] <;> omega) | (simp only [intOf] <;> omega))⟩
           (repeat apply Exists.intro)
           refine (fun a b => And.intro b a) ?_ ?_
           · first | rfl | ((repeat refine ⟨rfl, ?_⟩); rfl)
           exact ⟨t + 1, by omega, by go_num, by rw [Hsn.out]; exact HS.out, HB6.out, Hs6.out⟩)
    · obtain rfl : t = 80 := by omega
      have hv := HV.out
      rw [fillA_full (wl_len 64 b 80)] at hv
      have HL5 := Lib.hid hv
      have hSL := HLs.out
      have HS5 := Lib.hid (HS4.out.below HBl.out (by omega))
      have HR5 := Lib.hid (HR4.out.below HBl.out (by omega))
      have HB5 := Lib.hid (HB4.out.trans (HBl.out.mono (by omega)))
      have Hl5 := Hsz
      clear hv HV HBl Hsz hlt ht HS4 HR4 HB4 Hs4 Hr Hlt
      have Hz8 : Hid (∀ w, (zeroValue 63).run Tryd.prog w = .ok (.agg z8L.toArray) w) := Lib.hid (fun w => by kernel_rfl)
      have Hi8 := Lib.hid (infoA8 (s8l s) (s8l_len s))
      have Hi8' : Hid ((Tryd.prog.info? 63).map (·.size) = some ((s8l s).map u64v).toArray.size) := Lib.hid (by rw [List.size_toArray]; exact Hi8.out)
      have Hsz' : Hid (z8L.toArray.size = ((s8l s).map u64v).toArray.size) := Lib.hid rfl
      have Hone : Hid (((s8l s).map u64v).toArray.all (·.oneCell') = true) := Lib.hid (by simp [u64v, Value.oneCell'])
      have HrgS := Lib.hid HS5.out.whole
      have hz8 := Hz8.out
      obtain ⟨VB, hVB⟩ : ∃ VB, wr.heap.size = VB := ⟨_, rfl⟩
      have HN5 := Lib.hid (HB.new wr z8L 63)
      rw [hVB] at HN5
      have HVB := Lib.hid hVB
      go_upto_region 19 with (first
        | refine wpList_load_mid rfl _ _ rfl S 0 rfl ((s8l s).map u64v) _ HrgS.out Tryd.underlying63 rfl Hi8.out ?_
        | refine wpList_store_row rfl _ _ _ rfl VB ((s8l s).map u64v).toArray rfl rfl _ _ HN5.out Hi8'.out Hsz'.out Hone.out ?_)
      as_aux_lemma =>
      have HV6 : Hid (HB ((wr.alloc (.cells z8L.toArray 63)).setRow VB ((s8l s).map u64v).toArray) VB 63 ((s8l s).map u64v)) := Lib.hid (setRow_heap _ _ _ _ _ _ HN5.out)
      have Hg6 := Lib.hid (grown_row (wr.alloc (.cells z8L.toArray 63)) VB ((s8l s).map u64v).toArray)
      have HL6 := Lib.hid ((HL5.out.alloc (.cells z8L.toArray 63)).grown Hg6.out (fun e => by have := Option.some.inj e; have := Hl5.out; have := HVB.out; omega))
      have HS6 := Lib.hid ((HS5.out.alloc (.cells z8L.toArray 63)).grown Hg6.out (fun e => by have := Option.some.inj e; have := Hl5.out; have := HVB.out; omega))
      have HR6 := Lib.hid ((HR5.out.alloc (.cells z8L.toArray 63)).grown Hg6.out (fun e => by have := Option.some.inj e; have := Hl5.out; have := HVB.out; omega))
      have HB6 := Lib.hid ((HB5.out.alloc (by have := Hl5.out; omega) (.cells z8L.toArray 63)).grown Hg6.out (by have := Hl5.out; have := HVB.out; simp; omega) (fun x hx => by have := Option.some.inj hx; have := Hl5.out; have := HVB.out; omega))
      have Hs6 : Hid (VB < ((wr.alloc (.cells z8L.toArray 63)).setRow VB ((s8l s).map u64v).toArray).heap.size) := Lib.hid HV6.out.lt
      have HLV : Hid (L < VB) := Lib.hid (by have := Hl5.out; have := HVB.out; omega)
      generalize (wr.alloc (.cells z8L.toArray 63)).setRow VB ((s8l s).map u64v).toArray = w6 at *
      clear hz8 hVB HVB HN5 Hg6 HL5 HS5 HR5 HB5 Hl5 HrgS Hsz' Hone
      have Hnum : Hid (∀ s : List UInt8, (∀ j, j < 80 → okNum s j (cons64[j]?.getD 0) = true) → ∀ i w, i < 80 → Calls Tryd.prog 50 #[.string ⟨s.toArray⟩, .int .i64 (i : Nat)] w fun e w' => e = .returned (.int .u64 ((cons64[i]?.getD 0 : Nat) : Int)) ∧ w = w') := Lib.hid (fun s hs i w hi => number_any s cons64 80 i w hi (by omega) hs)
      have hwlt := wl_get_lt (w := 64) (by decide) b 80
      have Hwlt := Lib.hid hwlt
      have HwsL : Hid ((wl 64 b 80).length = 80) := Lib.hid (wl_len 64 b 80)
      have Hbl : Hid (block8 64 s b = add8 64 s (run8 64 (consw 64) (wl 64 b 80) 80 s)) := Lib.hid rfl
      have Hs64 := Lib.hid (fun t => run8_lt (w := 64) (ks := consw 64) (xs := wl 64 b 80) (s := s) Hs.out t)
      generalize wl 64 b 80 = ws at *
      clear hwlt
      go_upto_region 20 with fail
      go_loopw [18, 19, 20, 21, 22, 23, 24, 25] (fun t _ _ _ _ _ _ _ wr => B3In VB 64 80 ws s w6 t wr) (fun t _ _ _ _ _ _ _ _ => 80 - (intOf t).toNat)
      case atStart => exact ⟨0, by omega, rfl, HV6.out, Below.refl _ _, Hs6.out⟩
      case round =>
        as_aux_lemma =>
        clear HV6 Hs6
        obtain ⟨t, ht, rfl, hV, hBl, hsz⟩ := hrel
        have HV := Lib.hid hV
        have HBl := Lib.hid hBl
        have Hsz := Lib.hid hsz
        clear hV hBl hsz
        by_cases hlt : t < 80
        · have hst : run8 64 (consw 64) ws (t + 1) s = step8 64 ((consw 64)[t]?.getD 0) (ws[t]?.getD 0) (run8 64 (consw 64) ws t s) := rfl
          have Hlt8 := Lib.hid (Hs64.out t)
          have hX := Hwlt.out t
          have hLt : (ws.map u64v)[t]? = some (u64v (ws[t]?.getD 0)) := by rw [List.getElem?_map, List.getElem?_eq_getElem (by rw [HwsL.out]; exact hlt)]; rfl
          generalize ws[t]?.getD 0 = X at *
          generalize run8 64 (consw 64) ws t s = st at *
          obtain ⟨a, b', c, d, e, f, g, h⟩ := st
          have HX := Lib.hid hX
          have Hst := Lib.hid hst
          have hLr := HL6.out.below HBl.out HLV.out
          have HLt := Lib.hid hLt
          have HLr := Lib.hid hLr
          clear hX hst hLt hLr
          have hV := HV.out
          have k4 := hV.cell (i := 4) rfl
          have k0 := hV.cell (i := 0) rfl
          have i1 : (t : Int) < 80 := by omega
          unfold u64v at k4 k0
          clear hV
          go_wp2_with fail
          as_aux_lemma =>
          refine (Hnum.out _ (by decide +kernel) t wr (by omega)).mono ?_
          rintro e_ w2 ⟨rfl, rfl⟩
          clear Hnum
          have Hb1 := Lib.hid (fun w => three_any e 64 14 18 41 false w (by decide) (by decide) (by decide) (by decide) Hlt8.out.e)
          have Hb0 := Lib.hid (fun w => three_any a 64 28 34 39 false w (by decide) (by decide) (by decide) (by decide) Hlt8.out.a)
          have e0 : three 64 14 18 41 false e = bs1 64 e := by unfold bs1; rw [if_pos rfl]
          have e1 : three 64 28 34 39 false a = bs0 64 a := by unfold bs0; rw [if_pos rfl]
          rw [e0] at Hb1
          rw [e1] at Hb0
          clear e0 e1
          have hCw : (consw 64)[t]?.getD 0 = cons64[t]?.getD 0 := cons64_get t
          have hC0 : cons64[t]?.getD 0 < 18446744073709551616 := cons64_lt t (by omega)
          generalize hC1 : cons64[t]?.getD 0 = C at *
          have HC := Lib.hid hCw
          have HC0 := Lib.hid hC0
          clear hC0 hC1 hCw
          go_wp2_with fail
          as_aux_lemma =>
          refine (Hb1.out _).mono ?_
          rintro e_ w2 ⟨rfl, rfl⟩
          go_wp2_with fail
          refine (Hb0.out _).mono ?_
          rintro e_ w2 ⟨rfl, rfl⟩
          go_upto_region 29 with fail
          as_aux_lemma =>
          clear k4 k0
          have hq := Hlt8.out
          obtain ⟨-, -, hS0, hS1⟩ := sg_lt 64 (by decide) hq.a
          obtain ⟨-, -, -, hS1⟩ := sg_lt 64 (by decide) hq.e
          have HS0 := Lib.hid hS0
          have HS1 := Lib.hid hS1
          obtain ⟨S0, hS0e⟩ : ∃ S0, bs0 64 a = S0 := ⟨_, rfl⟩
          obtain ⟨S1, hS1e⟩ : ∃ S1, bs1 64 e = S1 := ⟨_, rfl⟩
          rw [hS0e, hS1e]
          rw [hS0e] at HS0
          rw [hS1e] at HS1
          have HS0e := Lib.hid hS0e
          have HS1e := Lib.hid hS1e
          obtain ⟨ne, m, ef, mg, c1, c2, c3, c4, c5, c6⟩ := chw_64 (W := 64) (by decide) hq.e hq.f hq.g
          have c2' : bits .xor .u64 (if IntKind.u64.signed = true then -1 else IntKind.u64.max) (e : Int) = (ne : Int) := by rw [if_neg (by decide)]; exact c2
          have Hcu := Lib.hid (fun w => cut_any ne 64 w (by decide) c3)
          rw [c4] at Hcu
          generalize hCH : chw 64 e f g = CH at *
          have HCH := Lib.hid hCH
          have hV := HV.out
          have k4 := fun n => (hV.drn (⟨n, rfl⟩ : Drn wr (wr.drewN n))).cell (i := 4) rfl
          have k5 := fun n => (hV.drn (⟨n, rfl⟩ : Drn wr (wr.drewN n))).cell (i := 5) rfl
          have k6 := fun n => (hV.drn (⟨n, rfl⟩ : Drn wr (wr.drewN n))).cell (i := 6) rfl
          have k4' := hV.cell (i := 4) rfl
          have k5' := hV.cell (i := 5) rfl
          have k6' := hV.cell (i := 6) rfl
          unfold u64v at k4 k5 k6 k4' k5' k6'
          clear hV hS0 hS1 hS0e hS1e hCH hq c3 c4
          go_quiet ((go_at_call 54; exact quiet_eq (Hcu.out _)))
          as_aux_lemma =>
          have hd : Drn wr (wr.drewN nq) := ⟨nq, rfl⟩
          have HV7 := Lib.hid (HV.out.drn hd)
          have HBl7 := Lib.hid (HBl.out.trans (hd.below _))
          have Hsz7 : Hid (VB < (wr.drewN nq).heap.size) := Lib.hid (by rw [hd.heap]; exact Hsz.out)
          have HLr7 := Lib.hid (HLr.out.drn hd)
          clear hd k4 k5 k6 k4' k5' k6' c1 c2 c2' c5 c6 Hcu HV HBl Hsz HLr
          generalize wr.drewN nq = w7 at *
          have hq := Hlt8.out
          have hqa : a < 2 ^ 64 := hq.a
          have hqb : b' < 2 ^ 64 := hq.b
          have hqc : c < 2 ^ 64 := hq.c
          have hm := mj_64 (a := a) (b := b') (c := c) (by omega) (by omega) (by omega)
          obtain ⟨y1, y2, y3, y4, y5⟩ := hm
          generalize a &&& b' = AB at *
          generalize a &&& c = AC at *
          generalize b' &&& c = BC at *
          generalize AB ^^^ AC = AM at *
          generalize hMJ : majw a b' c = MJ at *
          have HMJ := Lib.hid hMJ
          have hV := HV7.out
          have k0 := hV.cell (i := 0) rfl
          have k1 := hV.cell (i := 1) rfl
          have k2 := hV.cell (i := 2) rfl
          unfold u64v at k0 k1 k2
          clear hV hMJ hq hqa hqb hqc
          go_upto_region 31 with fail
          as_aux_lemma =>
          clear k0 k1 k2 y1 y2 y3 y4 y5
          obtain ⟨Z1, hZ1⟩ : ∃ A, (h + S1) % 18446744073709551616 = A := ⟨_, rfl⟩
          obtain ⟨Z2, hZ2⟩ : ∃ A, (Z1 + CH) % 18446744073709551616 = A := ⟨_, rfl⟩
          obtain ⟨Z3, hZ3⟩ : ∃ A, (Z2 + C) % 18446744073709551616 = A := ⟨_, rfl⟩
          obtain ⟨Z4, hZ4⟩ : ∃ A, (Z3 + X) % 18446744073709551616 = A := ⟨_, rfl⟩
          have z1 : IntKind.u64.wrap ((h : Int) + (S1 : Int)) = (Z1 : Int) := by rw [← hZ1, ← wrap64]; push_cast; rfl
          have z2 : IntKind.u64.wrap ((Z1 : Int) + (CH : Int)) = (Z2 : Int) := by rw [← hZ2, ← wrap64]; push_cast; rfl
          have z3 : IntKind.u64.wrap ((Z2 : Int) + (C : Int)) = (Z3 : Int) := by rw [← hZ3, ← wrap64]; push_cast; rfl
          have z4 : IntKind.u64.wrap ((Z3 : Int) + (X : Int)) = (Z4 : Int) := by rw [← hZ4, ← wrap64]; push_cast; rfl
          have Hcu := Lib.hid (fun w => cut_any Z4 64 w (by decide) (by omega))
          have hM2 : (2 : Nat) ^ 64 = 18446744073709551616 := by decide
          rw [hM2] at Hcu
          obtain ⟨ON, hON⟩ : ∃ A, Z4 % 18446744073709551616 = A := ⟨_, rfl⟩
          rw [hON] at Hcu
          have HON : Hid ((h + S1 + CH + C + X) % 18446744073709551616 = ON) := Lib.hid (by omega)
          have HON2 : Hid (ON < 18446744073709551616) := Lib.hid (by omega)
          have hV := HV7.out
          have k7 := fun n => (hV.drn (⟨n, rfl⟩ : Drn w7 (w7.drewN n))).cell (i := 7) rfl
          have k7' := hV.cell (i := 7) rfl
          have kL := fun n => (HLr7.out.drn (⟨n, rfl⟩ : Drn w7 (w7.drewN n))).cell HLt.out
          have kL' := HLr7.out.cell HLt.out
          unfold u64v at k7 k7' kL kL'
          clear hV hM2 hZ1 hZ2 hZ3 hZ4 hON
          go_quiet ((go_at_call 54; exact quiet_eq (Hcu.out _)))
          as_aux_lemma =>
          have hd : Drn w7 (w7.drewN nq) := ⟨nq, rfl⟩
          have HV8 := Lib.hid (HV7.out.drn hd)
          have HBl8 := Lib.hid (HBl7.out.trans (hd.below _))
          have Hsz8 : Hid (VB < (w7.drewN nq).heap.size) := Lib.hid (by rw [hd.heap]; exact Hsz7.out)
          clear hd k7 k7' kL kL' z1 z2 z3 z4 Hcu HV7 HBl7 Hsz7 HLr7 HLt
          generalize w7.drewN nq = w8 at *
          obtain ⟨U, hU⟩ : ∃ A, (S0 + MJ) % 18446744073709551616 = A := ⟨_, rfl⟩
          have z1 : IntKind.u64.wrap ((S0 : Int) + (MJ : Int)) = (U : Int) := by rw [← hU, ← wrap64]; push_cast; rfl
          have Hcu := Lib.hid (fun w => cut_any U 64 w (by decide) (by omega))
          have hM2 : (2 : Nat) ^ 64 = 18446744073709551616 := by decide
          rw [hM2] at Hcu
          obtain ⟨TW, hTW⟩ : ∃ A, U % 18446744073709551616 = A := ⟨_, rfl⟩
          rw [hTW] at Hcu
          have HTW : Hid ((S0 + MJ) % 18446744073709551616 = TW) := Lib.hid (by omega)
          have HTW2 : Hid (TW < 18446744073709551616) := Lib.hid (by omega)
          clear hM2 hU hTW
          go_wp2_with fail
          as_aux_lemma =>
          refine (Hcu.out _).mono ?_
          rintro e_ w2 ⟨rfl, rfl⟩
          clear z1 Hcu
          have hON := HON.out
          have hTW := HTW.out
          obtain ⟨P, hP⟩ : ∃ A, (ON + TW) % 18446744073709551616 = A := ⟨_, rfl⟩
          obtain ⟨Q, hQ⟩ : ∃ A, (d + ON) % 18446744073709551616 = A := ⟨_, rfl⟩
          have z1 : IntKind.u64.wrap ((ON : Int) + (TW : Int)) = (P : Int) := by rw [← hP, ← wrap64]; push_cast; rfl
          have z2 : IntKind.u64.wrap ((d : Int) + (ON : Int)) = (Q : Int) := by rw [← hQ, ← wrap64]; push_cast; rfl
          have Hcp := Lib.hid (fun w => cut_any P 64 w (by decide) (by omega))
          have Hcq := Lib.hid (fun w => cut_any Q 64 w (by decide) (by omega))
          have hM2 : (2 : Nat) ^ 64 = 18446744073709551616 := by decide
          rw [hM2] at Hcp Hcq
          obtain ⟨A', hA'⟩ : ∃ A, P % 18446744073709551616 = A := ⟨_, rfl⟩
          obtain ⟨E', hE'⟩ : ∃ A, Q % 18446744073709551616 = A := ⟨_, rfl⟩
          rw [hA'] at Hcp
          rw [hE'] at Hcq
          have Hres : Hid (run8 64 (consw 64) ws (t + 1) s = ⟨A', a, b', c, E', e, f, g⟩) := Lib.hid (by
            rw [Hst.out]
            unfold step8
            simp only
            rw [HS1e.out, HCH.out, HS0e.out, HMJ.out, HC.out, hM2]
            congr 1
            · omega
            · omega)
          clear hON hTW hP hQ hA' hE' hM2 HON HTW
          go_upto_region 33 with fail
          as_aux_lemma =>
          have hV := HV8.out
          have k0 := hV.cell (i := 0) rfl
          have k1 := hV.cell (i := 1) rfl
          have k2 := hV.cell (i := 2) rfl
          have k3 := hV.cell (i := 3) rfl
          have k4 := hV.cell (i := 4) rfl
          have k5 := hV.cell (i := 5) rfl
          have k6 := hV.cell (i := 6) rfl
          unfold u64v at k0 k1 k2 k3 k4 k5 k6
          clear hV
          refine wp_region_still_tail 24 (by kernel_rfl) (by kernel_rfl) ?_
          simp only [List.take_succ_cons, List.take_zero, List.drop_succ_cons, List.drop_zero]
          still_step
          still_step
          still_step
          still_step
          still_call ((Hcp.out _).mono (fun _ _ h_ => ⟨h_.1, h_.2.symm⟩))
          as_aux_lemma =>
          clear z1 Hcp
          still_step
          still_step
          still_step
          still_step
          still_step
          still_step
          as_aux_lemma =>
          still_step
          still_step
          still_step
          still_step
          still_step
          still_call ((Hcq.out _).mono (fun _ _ h_ => ⟨h_.1, h_.2.symm⟩))
          as_aux_lemma =>
          clear z2 Hcq
          still_step
          still_step
          still_step
          still_step
          as_aux_lemma =>
          still_step
          still_step
          refine wpStill_build8 rfl _ _ _ _ _ _ _ _ rfl A' a b' c E' e f g ?_ ?_ ?_ ?_ ?_ ?_ ?_ ?_ ?_
          iterate 8 (· go_simp)
          simp only [Act.put, List.setIfInBounds_toArray, List.set_cons_zero, List.set_cons_succ]
          refine wpStill_nil ?_
          as_aux_lemma =>
          have HVd := Lib.hid (HV8.out.drn (Drn.refl _).drew)
          have HBd := Lib.hid (HBl8.out.drew)
          have Hsd : Hid (VB < w8.drew.heap.size) := Lib.hid Hsz8.out
          clear HV8 HBl8 Hsz8 k0 k1 k2 k3 k4 k5 k6
          have HSz8 : Hid (((s8l ⟨a, b', c, d, e, f, g, h⟩).map u64v).toArray.size = ((s8l ⟨A', a, b', c, E', e, f, g⟩).map u64v).toArray.size) := Lib.hid rfl
          have Hi8n : Hid ((Tryd.prog.info? 63).map (·.size) = some ((s8l ⟨A', a, b', c, E', e, f, g⟩).map u64v).toArray.size) := Lib.hid (by rw [List.size_toArray]; exact infoA8 _ (s8l_len _))
          have Hone : Hid (((s8l ⟨A', a, b', c, E', e, f, g⟩).map u64v).toArray.all (·.oneCell') = true) := Lib.hid (by simp [u64v, Value.oneCell'])
          have HS9 : Hid (HB (w8.drew.setRow VB ((s8l ⟨A', a, b', c, E', e, f, g⟩).map u64v).toArray) VB 63 ((s8l ⟨A', a, b', c, E', e, f, g⟩).map u64v)) := Lib.hid (setRow_heap _ _ _ _ _ _ HVd.out)
          have HB9 := Lib.hid (HBd.out.grown (grown_row w8.drew VB ((s8l ⟨A', a, b', c, E', e, f, g⟩).map u64v).toArray) (by have := Hsd.out; omega) (fun x hx => Nat.le_of_eq (Option.some.inj hx)))
          have Hs9 : Hid (VB < (w8.drew.setRow VB ((s8l ⟨A', a, b', c, E', e, f, g⟩).map u64v).toArray).heap.size) := Lib.hid HS9.out.lt
          refine wpList_store_row rfl _ _ _ rfl VB ((s8l ⟨A', a, b', c, E', e, f, g⟩).map u64v).toArray rfl rfl _ _ HVd.out Hi8n.out HSz8.out Hone.out ?_
          as_aux_lemma =>
          go_wp2_with fail
          as_aux_lemma =>
          clear HVd HBd Hsd HSz8 Hi8n Hone
          have HX9 : Hid (HB (w8.drew.setRow VB ((s8l ⟨A', a, b', c, E', e, f, g⟩).map u64v).toArray) VB 63 ((s8l (run8 64 (consw 64) ws (t + 1) s)).map u64v)) := Lib.hid (by rw [Hres.out]; exact HS9.out)
          clear HS9 Hres
          go_roundw
          case rel => exact ⟨t + 1, by omega, by go_num, HX9.out, HB9.out, Hs9.out⟩
          case measure => (first | omega | (simp [intOf] <;> omega) | (simp only [intOf] <;> omega))
        · obtain rfl : t = 80 := by omega
          have Hlf := Lib.hid (Hs64.out 80)
          obtain ⟨V, hVe⟩ : ∃ V, run8 64 (consw 64) ws 80 s = V := ⟨_, rfl⟩
          rw [hVe] at HV Hlf Hbl
          have HS7 := Lib.hid (HS6.out.below HBl.out (by have := HLV.out; omega))
          have HR7 := Lib.hid (HR6.out.below HBl.out (by have := HLV.out; omega))
          have HB7 := Lib.hid (HB6.out.trans (HBl.out.mono (by have := HLV.out; omega)))
          have HLV7 := Lib.hid HLV.out
          clear hVe HS6 HR6 HB6 HBl hlt ht Hs64 HLV HL6 Hnum Hwlt HwsL
          go_upto_region 35 with fail
          go_loopw [26] (fun i wq => B4In VB (s8l (add8 64 s V)) (s8l V) wr i wq) (fun i _ => 8 - (intOf i).toNat)
          case atStart => exact ⟨0, by omega, rfl, by simpa [mixL] using HV.out, Below.refl _ _, Hsz.out⟩
          case round =>
            as_aux_lemma =>
            clear HV Hsz
            obtain ⟨t, ht, rfl, hV, hBl, hsz⟩ := hrel
            have HV := Lib.hid hV
            have HBl := Lib.hid hBl
            have Hsz := Lib.hid hsz
            clear hV hBl hsz
            by_cases hlt : t < 8
            · obtain ⟨X, hX⟩ : ∃ X, (s8l V)[t]? = some X := ⟨_, List.getElem?_eq_getElem (by rw [s8l_len]; exact hlt)⟩
              obtain ⟨Y, hY⟩ : ∃ Y, (s8l s)[t]? = some Y := ⟨_, List.getElem?_eq_getElem (by rw [s8l_len]; exact hlt)⟩
              have hnw := add8_get (w := 64) (s := s) (v := V) hlt
              rw [hX, hY] at hnw
              simp only [Option.getD_some] at hnw
              obtain ⟨Z, hZ⟩ : ∃ Z, (X + Y) % 18446744073709551616 = Z := ⟨_, rfl⟩
              have hM2 : (2 : Nat) ^ 64 = 18446744073709551616 := by decide
              obtain ⟨R, hR⟩ : ∃ R, Z % 18446744073709551616 = R := ⟨_, rfl⟩
              have hRR : (X + Y) % 2 ^ 64 = R := by rw [hM2]; omega
              have hnw2 : (s8l (add8 64 s V))[t]? = some R := by rw [← hRR]; exact hnw
              have s2 : IntKind.u64.wrap ((X : Int) + (Y : Int)) = (Z : Int) := by rw [← hZ, ← wrap64]; push_cast; rfl
              have Hcu := Lib.hid (fun w => cut_any Z 64 w (by decide) (by omega))
              rw [hM2, hR] at Hcu
              have i1 : (t : Int) < 8 := by omega
              have hml := mixL_len (new := s8l (add8 64 s V)) (old := s8l V) (i := t) rfl rfl (by omega)
              have hg : ((mixL (s8l (add8 64 s V)) (s8l V) t).map u64v)[t]? = some (.int .u64 (X : Int)) := by
                rw [List.getElem?_map, mixL_get rfl rfl hlt, hX]; rfl
              have hst : ((mixL (s8l (add8 64 s V)) (s8l V) t).map u64v).set t (.int .u64 (R : Int)) = (mixL (s8l (add8 64 s V)) (s8l V) (t + 1)).map u64v := by
                rw [← mixL_set rfl rfl hlt hnw2, List.map_set]; rfl
              have hgS : ((s8l s).map u64v)[t]? = some (.int .u64 (Y : Int)) := by rw [List.getElem?_map, hY]; rfl
              have hVd := HV.out.drn (Drn.refl _).drew
              have kv := HV.out.cell hg
              have ks := (HS7.out.below HBl.out (by have := HLV7.out; omega)).cell hgS
              have hcd := hVd.cell hg
              have hfd := hVd.frozen t
              have HS := Lib.hid (hVd.set t (.int .u64 (R : Int)))
              rw [hst] at HS
              have HB6 := Lib.hid ((HBl.out.drew).grown (grown_set wr.drew ⟨VB, t, none⟩ (.int .u64 (R : Int))) (by have := Hsz.out; show VB ≤ wr.heap.size; omega) (fun x hx => Nat.le_of_eq (Option.some.inj hx)))
              have Hs6 : Hid (VB < (wr.drew.setCell ⟨VB, t, none⟩ (.int .u64 (R : Int))).heap.size) := Lib.hid (by have := Hsz.out; simpa [World.setCell] using this)
              clear hX hY hnw hR hRR hZ hM2 hnw2 hml hg hst hgS hVd HV HBl Hsz
              go_upto_region 37 with fail
              refine wp_region_still_tail 11 (by kernel_rfl) (by kernel_rfl) ?_
              simp only [List.take_succ_cons, List.take_zero, List.drop_succ_cons, List.drop_zero]
              repeat still_step
              still_call ((Hcu.out _).mono (fun _ _ h_ => ⟨h_.1, h_.2.symm⟩))
              repeat still_step
              refine wpStill_nil ?_
              as_aux_lemma =>
              clear kv ks s2 Hcu
              go_wp2_with fail
              clear hcd hfd
              first
              | (go_roundw
                 case rel => exact ⟨t + 1, by omega, by go_num, HS.out, HB6.out, Hs6.out⟩
                 case measure => (first | omega | (simp [intOf] <;> omega) | (simp only [intOf] <;> omega)))
              | exact ⟨⟨t + 1, by omega, by go_num, HS.out, HB6.out, Hs6.out⟩, by (first | omega | (simp [intOf] <;> omega) | (simp only [intOf] <;> omega))⟩
              | (refine ⟨?_, by (first | omega | (simp [intOf] <;> omega) | (simp only [intOf] <;> omega))⟩
                 (repeat apply Exists.intro)
                 refine (fun a b => And.intro b a) ?_ ?_
                 · first | rfl | ((repeat refine ⟨rfl, ?_⟩); rfl)
                 exact ⟨t + 1, by omega, by go_num, HS.out, HB6.out, Hs6.out⟩)
            · obtain rfl : t = 8 := by omega
              have hv := HV.out
              have hmx : mixL (s8l (add8 64 s V)) (s8l V) 8 = s8l (block8 64 s b) := by rw [Hbl.out]; rfl
              rw [hmx] at hv
              obtain ⟨bl, hble⟩ : ∃ bl, block8 64 s b = bl := ⟨_, rfl⟩
              rw [hble] at hv
              have Hble := Lib.hid hble
              have Hrg := Lib.hid hv.whole
              have Hib : Hid ((Tryd.prog.info? 63).map (·.size) = some ((s8l bl).map u64v).length) := Lib.hid (infoA8 _ (s8l_len _))
              have HRr := Lib.hid (HR7.out.below HBl.out (by have := HLV7.out; have := HLs.out; omega))
              have Hib' : Hid ((Tryd.prog.info? 63).map (·.size) = some ((s8l bl).map u64v).toArray.size) := Lib.hid (by rw [List.size_toArray]; exact infoA8 _ (s8l_len _))
              have Hsz' : Hid (z8L.toArray.size = ((s8l bl).map u64v).toArray.size) := Lib.hid rfl
              have Hone : Hid (((s8l bl).map u64v).toArray.all (·.oneCell') = true) := Lib.hid (by simp [u64v, Value.oneCell'])
              have HBf := Lib.hid (HB7.out.trans (HBl.out.mono (by have := HLV7.out; have := HLs.out; omega)))
              have HBg := Lib.hid (HBf.out.grown (grown_row wr (S + 1) ((s8l bl).map u64v).toArray) (by have := HRr.out.lt; omega) (fun x hx => by have := Option.some.inj hx; omega))
              have HW9 : HB (wr.setRow (S + 1) ((s8l bl).map u64v).toArray) (S + 1) 63 ((s8l bl).map u64v) := setRow_heap _ _ _ _ _ _ HRr.out
              have Hrg9 := Lib.hid HW9.whole
              clear hv HV HBl Hsz hlt ht HW9 hmx hble Hbl HS7 HR7 HB7
              go_wp2_with (first
                | refine wpList_load_mid rfl _ _ rfl VB 0 rfl ((s8l bl).map u64v) _ Hrg.out Tryd.underlying63 rfl Hib.out ?_
                | refine wpList_store_row rfl _ _ _ rfl (S + 1) ((s8l bl).map u64v).toArray rfl rfl _ _ HRr.out Hib'.out Hsz'.out Hone.out ?_)
              have hv : (loadVar 63 ⟨(S + 1), 0, none⟩).run Tryd.prog (wr.setRow (S + 1) ((s8l bl).map u64v).toArray) = .ok (.agg ((s8l bl).map u64v).toArray) (wr.setRow (S + 1) ((s8l bl).map u64v).toArray) := run_loadVar_mid (P := Tryd.prog) _ (S + 1) 0 63 ((s8l bl).map u64v) _ Hrg9.out Tryd.underlying63 rfl Hib.out
              exact bodyPost_ret (v := .agg ((s8l bl).map u64v).toArray) (by simp [results, Tryd.results49, asAddr, hv, Result.andThen, Act.put]; try rfl) rfl ⟨by rw [Hble.out], by first | exact HBg.out | (rw [HSw.out]; exact HBg.out)⟩
end Go.Proofs.YtngkelflfahjbaaDoor
