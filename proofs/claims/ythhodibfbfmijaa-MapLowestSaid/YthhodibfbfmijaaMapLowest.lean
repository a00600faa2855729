/- No lower address would have done: the walk. No condition. -/
import Derived.Test.YthhodibfbfmijaaMapR
import Derived.Test.YthhodibfbfmijaaOpenG
import Derived.StillTailTactics

namespace Go.Proofs.Ythhodibfbfmijaa.mapLowest
open Go.ChangeShapes Go.WideShapes Go.ChangeAt Go.RowKit
set_option linter.unusedVariables false
set_option linter.unusedSimpArgs false
structure LowIn (a : Nat) (W0 : World) (i : Value) (wr : World) : Prop where
  x : ∃ k : Nat, posN a k < 1073807360 + a ∧ i = .int .u64 (posN a k : Nat) ∧ Below W0.heap.size W0 wr
structure MetIn (l : List Rg) (T n : Nat) (W0 : World) (q i : Value) (wr : World) : Prop where
  x : ∃ (j : Nat) (b : Bool), j ≤ l.length ∧ i = .int .i64 j ∧ q = .bool b ∧ (b = false → freeR (l.take j) T n = true) ∧ Below W0.heap.size W0 wr
/-- what Place says, for the search -/
theorem said (l : List Rg) (n a : Nat) (s wb x : Bool) : ((plR l n a s wb x).2 ≠ 0 ∧ (plR l n a s wb x).2 ≠ 221 ∧ (plR l n a s wb x).1 = default) ∨
    (0 < n ∧ n ≤ 65536 ∧ 0 < a ∧ a ≤ 65536 ∧ ∃ L, (((plR l n a s wb x).2 = 221 ∧ L = 1073807360) ∨ ((plR l n a s wb x).2 = 0 ∧ (plR l n a s wb x).1.base = L)) ∧ L ≤ 1073807360 ∧
      ∀ k, posN a k < L → posN a k + n ≤ 1073807360 → freeR l (posN a k) n = false) := by
  have hd : ∀ k, 0 < n → 0 < a → posN a k < 1073807360 → posN a k + n ≤ 1073807360 → freeR l (posN a k) n = true → Does l n a (posN a k) := fun k h0 h0a h1 h2 h3 =>
    ⟨by unfold posN; rw [Nat.add_sub_cancel_left]; exact Nat.mul_mod_left _ _, by simp only [inR, decide_eq_true_eq]; exact ⟨by unfold posN; omega, h1, h0, h2⟩, h3⟩
  by_cases h16 : 16 ≤ l.length
  · rw [plR_many h16]; exact Or.inl ⟨by decide, by decide, rfl⟩
  by_cases he : wantE n a wb x = 0
  · obtain ⟨h1, h2, h3, h4, _, _⟩ := wantE_ok he
    right
    refine ⟨h1, h2, h3, h4, ?_⟩
    rcases low_cases l n a with ⟨m, hm, hl⟩ | ⟨hm, hl⟩
    · rw [plR_some h16 he hm]
      have hr := hl.1.2.1
      simp only [inR, decide_eq_true_eq] at hr
      refine ⟨m, Or.inr ⟨rfl, rfl⟩, by omega, fun k hk hk2 => ?_⟩
      cases hf : freeR l (posN a k) n
      · rfl
      · have := hl.2 _ (hd k h1 h3 (by omega) hk2 hf)
        omega
    · rw [plR_none h16 he hm]
      refine ⟨_, Or.inl ⟨rfl, rfl⟩, Nat.le_refl _, fun k hk hk2 => ?_⟩
      cases hf : freeR l (posN a k) n
      · rfl
      · exact absurd (hd k h1 h3 hk hk2 hf) (hl _)
  · rw [plR_wrong h16 he]
    refine Or.inl ⟨he, ?_, rfl⟩
    unfold wantE
    split
    · decide
    · split <;> decide
set_option maxHeartbeats 1000000 in
theorem core (w : World) (ao : Option Addr) (len cap : Nat) (l : List Rg) (i : Int) (n a : Nat) (s wb x : Bool) (hl : l.length = len) (hlc : len ≤ cap) (hcap : cap * 24 ≤ 140737488351232) (hr : RdG w ao l) (hc : ao = none → cap = 0) (hok : RgsOk l) (ha : a < 18446744073709551616) :
    Calls Try.prog 4 #[.slice ao len cap, wv i n a s wb x] w fun e w' => e = .returned (.bool true) ∧ Below w.heap.size w w' := by
  have hguard : Try.prog.eqGuardType Try.prog.depth 30 = false := by kernel_rfl
  have hb0 : ∀ o, Below w.heap.size w (w.alloc o) := fun o => (Below.refl _ _).alloc (Nat.le_refl _) o
  have hBox := Blk.new w [.int .i64 i, .int .u64 n, .int .u64 a, .bool s, .bool wb, .bool x] 26
  have HP1 := fun ao' cap' w' h => Lib.hid (place_any ao' len cap' l i n a s wb x w' hl (by omega) h hok ha)
  have hs := said l n a s wb x
  have heq := fun w => rg_equal (plR l n a s wb x).1 default w
  generalize (plR l n a s wb x).1 = R at *
  generalize (plR l n a s wb x).2 = E at *
  have Hz := Lib.hid (posN_zero a)
  subst hl
  have Hhc := Lib.hid hc
  clear hc
  have Hha := Lib.hid ha
  clear ha
  have Hhok := Lib.hid hok
  clear hok
  unfold wv rgv at *
  rcases hs with ⟨hE0, hE1, rfl⟩ | ⟨hn0, hn1, ha0, ha1, L, hE, hL, HL⟩
  · have t1 : (E == 0) = false := by rw [beq_eq_false_iff_ne]; exact hE0
    have t2 : (E != 0) = true := by rw [bne, t1]; rfl
    have t3 : (E == 221) = false := by rw [beq_eq_false_iff_ne]; exact hE1
    have t4 : (E != 221) = true := by rw [bne, t3]; rfl
    simp only [decide_true] at heq
    have heq2 : ∀ w, (Op.equalIn 10000 30 (.agg #[.int .u64 0, .int .u64 0, .bool false, .bool false, .bool false, .bool false]) (.agg #[.int .u64 0, .int .u64 0, .bool false, .bool false, .bool false, .bool false])).run Try.prog w = .ok true w := heq
    clear hE0 hE1 heq
    go_enter Try.func4, Try.ntmps4
    go_wp2_with fail
    refine (awake_any _).mono ?_
    rintro e w1 ⟨rfl, hb1⟩
    have hB1 := (hb0 _).trans (hb1.mono (hb0 _).size)
    have hX1 := hBox.below hb1
    obtain ⟨⟨b0, b1, b2, b3, b4, b5⟩, -⟩ := hX1.six
    clear hb1 hb0 hBox
    go_wp2_with fail
    refine (HP1 _ _ _ (hr.below hB1)).out.mono ?_
    rintro e w4 ⟨rfl, hb4⟩
    have hB4 : Below w.heap.size w w4 := hB1.trans (hb4.mono hB1.size)
    have hB5 := fun o => hB4.alloc hB4.size o
    clear hb4 HP1 b0 b1 b2 b3 b4 b5
    go_wp2_with fail
    go_ret
    exact ⟨rfl, hB5 _⟩
  · rcases hE with ⟨rfl, rfl⟩ | ⟨rfl, hRb⟩
    · go_enter Try.func4, Try.ntmps4
      go_wp2_with fail
      refine (awake_any _).mono ?_
      rintro e w1 ⟨rfl, hb1⟩
      have hB1 := (hb0 _).trans (hb1.mono (hb0 _).size)
      have hX1 := hBox.below hb1
      obtain ⟨⟨b0, b1, b2, b3, b4, b5⟩, -⟩ := hX1.six
      clear hb1 hb0 hBox
      go_wp2_with fail
      refine (HP1 _ _ _ (hr.below hB1)).out.mono ?_
      rintro e w4 ⟨rfl, hb4⟩
      have hX4 := hX1.below hb4
      have hB4 : Below w.heap.size w w4 := hB1.trans (hb4.mono hB1.size)
      have hX5 := fun o => hX4.alloc o
      have hB5' := fun o => hB4.alloc hB4.size o
      have e6 : w.heap.size < w4.heap.size := hX4.1
      clear hb4 HP1 b0 b1 b2 b3 b4 b5 hX4 hX1 heq
      go_wp2_with fail
      have hC5 := hX5 (.cells #[.int .u64 R.base, .int .u64 R.size, .bool R.r, .bool R.w, .bool R.x, .bool R.s] 30)
      have hB5 := hB5' (.cells #[.int .u64 R.base, .int .u64 R.size, .bool R.r, .bool R.w, .bool R.x, .bool R.s] 30)
      generalize World.alloc _ _ = w5 at *
      clear hX5 hB5' hB4
      have HHL := Lib.hid HL
      clear HL
      have HL := HHL
      go_loopw [9, 10, 11] (fun i _ _ wr => LowIn a w5 i wr) (fun i _ _ _ => 1073807360 - (intOf i).toNat)
      case atStart => exact ⟨0, by rw [Hz.out]; omega, by rw [Hz.out]; rfl, Below.refl _ _⟩
      case round =>
        obtain ⟨k, hk, rfl, hbr⟩ := hrel
        have Hsucc := Lib.hid (posN_succ a k)
        have Hpos := Lib.hid (show 1073741824 ≤ posN a k from by unfold posN; omega)
        have HLk := Lib.hid (HL.out k)
        have hCr := hC5.below hbr
        obtain ⟨⟨b0, b1, b2, b3, b4, b5⟩, -⟩ := hCr.six
        have hBr := hB5.trans (hbr.mono hB5.size)
        by_cases hT : posN a k < 1073807360
        · have e1 : IntKind.u64.wrap ((1073807360 : Int) - (posN a k : Int)) = (1073807360 : Int) - (posN a k : Int) := IntWalk.u64_in _ (by omega)
          have h64 : posN a k < 18446744073709551616 := by omega
          have h63 : posN a k ≤ 1073807360 := by omega
          by_cases hin : posN a k + n ≤ 1073807360
          · have hfr := Lib.hid (HLk.out hT hin)
            have H0 := Lib.hid (show freeR (l.take 0) (posN a k) n = true from rfl)
            clear HLk
            have hnext : Hid (posN a (k + 1) < 1073807360 + a) := Lib.hid (by rw [Hsucc.out]; omega)
            have hle := Lib.hid (show (n : Int) ≤ (1073807360 : Int) - (posN a k : Int) by omega)
            clear hk hin
            generalize posN a k = T at *
            have hTL : (T : Int) < 1073807360 := by omega
            clear hT
            generalize hBT : (T : Int) = B at *
            have HBT := Lib.hid hBT
            have hgt := hle.out
            clear hBT hle
            go_wp2_with fail
            go_loopw [10, 11] (fun q i wr' => MetIn l T n wr q i wr') (fun q i _ => l.length - (intOf i).toNat)
            case atStart => exact ⟨0, false, by omega, rfl, rfl, fun _ => H0.out, Below.refl _ _⟩
            case round =>
              obtain ⟨j, b, hj, rfl, rfl, hfree, hbi⟩ := hrel
              have Hhfree := Lib.hid hfree
              clear hfree
              have hbi2 := hBr.trans (hbi.mono hBr.size)
              have hCi := hCr.below hbi
              clear b0 b1 b2 b3 b4 b5
              obtain ⟨⟨b0, b1, b2, b3, b4, b5⟩, -⟩ := hCi.six
              cases b
              · by_cases hlt : j < l.length
                · obtain ⟨bb, off, rfl, -, hcc⟩ := (hr.below hbi2) j hlt
                  have hs := Lib.hid (freeR_snoc l T n j hlt)
                  have hg := Lib.hid (Hhok.out _ (gAt_mem hlt))
                  have c0 := hcc 0 _ rfl
                  have c1 := hcc 1 _ rfl
                  have c2 := hcc 2 _ rfl
                  have c3 := hcc 3 _ rfl
                  have c4 := hcc 4 _ rfl
                  have c5 := hcc 5 _ rfl
                  clear hcc
                  simp only [Nat.add_zero] at c0
                  have Hap := fun w => Lib.hid (apart_any ⟨T, n, false, false, false, false⟩ (gAt l j) w h64 hg.out.1)
                  rw [show rgv ⟨T, n, false, false, false, false⟩ = .agg #[.int .u64 B, .int .u64 n, .bool false, .bool false, .bool false, .bool false] by rw [← HBT.out]; rfl] at Hap
                  generalize gAt l j = g at *
                  obtain ⟨gb, gn, gr, gw, gx, gs⟩ := g
                  unfold rgv at Hap
                  have e0 : (0 : Int) ≤ (j : Int) := by omega
                  have e1 : (j : Int) < (l.length : Int) := by omega
                  by_cases hgn : 0 < gn
                  · have hov := Lib.hid (awayN_ov (a := T) (b := gb) hn0 hgn)
                    simp only at Hap
                    have hdr := fun w' (h : Below (World.drew wr).heap.size (World.drew wr) w') => Lib.hid h
                    cases haw : awayN T n gb gn
                    · rw [haw] at Hap
                      clear haw hs
                      go_wp2_with fail
                      go_still_tail 15, (by kernel_rfl)
                      go_wp2_with fail
                      refine (Hap _).out.mono ?_
                      rintro e w' ⟨rfl, hb'⟩
                      have hbi3 := hbi.trans (hb'.undrew.mono hbi.size)
                      clear hb' c0 c1 c2 c3 c4 c5 b0 b1 b2 b3 b4 b5
                      go_wp2_with fail
                      first
                      | (go_roundw
                         case rel => exact ⟨j + 1, true, by omega, by go_num, rfl, fun h => (by cases h), hbi3⟩
                         case measure => (first | omega | (simp [intOf] <;> omega) | (simp only [intOf] <;> omega)))
                      | exact ⟨⟨j + 1, true, by omega, by go_num, rfl, fun h => (by cases h), hbi3⟩, by (first | omega | (simp [intOf] <;> omega) | (simp only [intOf] <;> omega))⟩
                      | (refine ⟨?_, by (first | omega | (simp [intOf] <;> omega) | (simp only [intOf] <;> omega))⟩
                         (repeat apply Exists.intro)
                         refine (fun a b => And.intro b a) ?_ ?_
                         · first | rfl | ((repeat refine ⟨rfl, ?_⟩); rfl)
                         exact ⟨j + 1, true, by omega, by go_num, rfl, fun h => (by cases h), hbi3⟩)
                    · have hF := Lib.hid (show freeR (l.take (j + 1)) T n = true by rw [hs.out, Hhfree.out rfl, hov.out, haw]; rfl)
                      rw [haw] at Hap
                      clear haw hs hov
                      go_wp2_with fail
                      go_still_tail 15, (by kernel_rfl)
                      go_wp2_with fail
                      refine (Hap _).out.mono ?_
                      rintro e w' ⟨rfl, hb'⟩
                      have hbi3 := hbi.trans (hb'.undrew.mono hbi.size)
                      clear hb' c0 c1 c2 c3 c4 c5 b0 b1 b2 b3 b4 b5
                      go_wp2_with fail
                      first
                      | (go_roundw
                         case rel => exact ⟨j + 1, false, by omega, by go_num, rfl, fun _ => hF.out, hbi3⟩
                         case measure => (first | omega | (simp [intOf] <;> omega) | (simp only [intOf] <;> omega)))
                      | exact ⟨⟨j + 1, false, by omega, by go_num, rfl, fun _ => hF.out, hbi3⟩, by (first | omega | (simp [intOf] <;> omega) | (simp only [intOf] <;> omega))⟩
                      | (refine ⟨?_, by (first | omega | (simp [intOf] <;> omega) | (simp only [intOf] <;> omega))⟩
                         (repeat apply Exists.intro)
                         refine (fun a b => And.intro b a) ?_ ?_
                         · first | rfl | ((repeat refine ⟨rfl, ?_⟩); rfl)
                         exact ⟨j + 1, false, by omega, by go_num, rfl, fun _ => hF.out, hbi3⟩)
                  · have hF := Lib.hid (show freeR (l.take (j + 1)) T n = true by rw [hs.out, Hhfree.out rfl]; simp [ov]; omega)
                    have hg0 : decide ((0 : Int) < (gn : Int)) = false := decide_eq_false (by omega)
                    have hgn0 : gn = 0 := by omega
                    subst hgn0
                    clear hs hg0 hgn
                    go_wp2_with fail
                    go_quiet (fail)
                    go_wp2_with fail
                    go_roundw
                    case rel => exact ⟨j + 1, false, by omega, by go_num, rfl, fun _ => hF.out, hbi.drewN _⟩
                    case measure => simp [intOf]; omega
                · exfalso
                  have h := Hhfree.out rfl
                  obtain rfl : j = l.length := by omega
                  rw [List.take_length, hfr.out] at h; cases h
              · have hbn := Lib.hid (hbr.trans (hbi.mono hbr.size))
                have hsum : IntKind.u64.wrap (B + (a : Int)) = B + (a : Int) := IntWalk.u64_in _ (by have := HBT.out; omega)
                have hroll : Hid (B + (a : Int) = ((posN a (k + 1) : Nat) : Int)) := Lib.hid (by rw [Hsucc.out, ← HBT.out]; rfl)
                have hmeas : B ≤ 1073807359 ∧ 1073741824 ≤ B ∧ 1 ≤ (a : Int) := by have := HBT.out; have := Hpos.out; omega
                obtain ⟨hm1, hm2, hm3⟩ := hmeas
                by_cases hlt : j < l.length
                · go_wp2_with fail
                  first
                  | (go_roundw
                     case rel => exact ⟨k + 1, hnext.out, by rw [← hroll.out], hbn.out⟩
                     case measure => (first | omega | (simp [intOf] <;> omega) | (simp only [intOf] <;> omega)))
                  | exact ⟨⟨k + 1, hnext.out, by rw [← hroll.out], hbn.out⟩, by (first | omega | (simp [intOf] <;> omega) | (simp only [intOf] <;> omega))⟩
                  | (refine ⟨?_, by (first | omega | (simp [intOf] <;> omega) | (simp only [intOf] <;> omega))⟩
                     (repeat apply Exists.intro)
                     refine (fun a b => And.intro b a) ?_ ?_
                     · first | rfl | ((repeat refine ⟨rfl, ?_⟩); rfl)
                     exact ⟨k + 1, hnext.out, by rw [← hroll.out], hbn.out⟩)
                · go_wp2_with fail
                  first
                  | (go_roundw
                     case rel => exact ⟨k + 1, hnext.out, by rw [← hroll.out], hbn.out⟩
                     case measure => (first | omega | (simp [intOf] <;> omega) | (simp only [intOf] <;> omega)))
                  | exact ⟨⟨k + 1, hnext.out, by rw [← hroll.out], hbn.out⟩, by (first | omega | (simp [intOf] <;> omega) | (simp only [intOf] <;> omega))⟩
                  | (refine ⟨?_, by (first | omega | (simp [intOf] <;> omega) | (simp only [intOf] <;> omega))⟩
                     (repeat apply Exists.intro)
                     refine (fun a b => And.intro b a) ?_ ?_
                     · first | rfl | ((repeat refine ⟨rfl, ?_⟩); rfl)
                     exact ⟨k + 1, hnext.out, by rw [← hroll.out], hbn.out⟩)
          · have hBT : ∃ B : Int, (posN a k : Int) = B ∧ B + n > 1073807360 ∧ B < 1073807360 ∧ B ≤ 1073807360 := ⟨_, rfl, by omega, by omega, by omega⟩
            obtain ⟨B, hB, hm1, hm2, hm3⟩ := hBT
            rw [hB] at e1 ⊢
            clear hin hT hB
            go_wp2_with fail
            go_ret
            exact ⟨rfl, hBr⟩
        · have hBT : ∃ B : Int, (posN a k : Int) = B ∧ 1073807360 ≤ B := ⟨_, rfl, by omega⟩
          obtain ⟨B, hB, hm1⟩ := hBT
          rw [hB]
          clear hT hB
          go_wp2_with fail
          go_ret
          exact ⟨rfl, hBr⟩
    · go_enter Try.func4, Try.ntmps4
      go_wp2_with fail
      refine (awake_any _).mono ?_
      rintro e w1 ⟨rfl, hb1⟩
      have hB1 := (hb0 _).trans (hb1.mono (hb0 _).size)
      have hX1 := hBox.below hb1
      obtain ⟨⟨b0, b1, b2, b3, b4, b5⟩, -⟩ := hX1.six
      clear hb1 hb0 hBox
      go_wp2_with fail
      refine (HP1 _ _ _ (hr.below hB1)).out.mono ?_
      rintro e w4 ⟨rfl, hb4⟩
      have hX4 := hX1.below hb4
      have hB4 : Below w.heap.size w w4 := hB1.trans (hb4.mono hB1.size)
      have hX5 := fun o => hX4.alloc o
      have hB5' := fun o => hB4.alloc hB4.size o
      have e6 : w.heap.size < w4.heap.size := hX4.1
      clear hb4 HP1 b0 b1 b2 b3 b4 b5 hX4 hX1 heq
      rw [hRb]
      go_wp2_with fail
      have hC5 := hX5 (.cells #[.int .u64 L, .int .u64 R.size, .bool R.r, .bool R.w, .bool R.x, .bool R.s] 30)
      have hB5 := hB5' (.cells #[.int .u64 L, .int .u64 R.size, .bool R.r, .bool R.w, .bool R.x, .bool R.s] 30)
      generalize World.alloc _ _ = w5 at *
      clear hX5 hB5' hB4
      have HHL := Lib.hid HL
      clear HL
      have HL := HHL
      go_loopw [9, 10, 11] (fun i _ _ wr => LowIn a w5 i wr) (fun i _ _ _ => 1073807360 - (intOf i).toNat)
      case atStart => exact ⟨0, by rw [Hz.out]; omega, by rw [Hz.out]; rfl, Below.refl _ _⟩
      case round =>
        obtain ⟨k, hk, rfl, hbr⟩ := hrel
        have Hsucc := Lib.hid (posN_succ a k)
        have Hpos := Lib.hid (show 1073741824 ≤ posN a k from by unfold posN; omega)
        have HLk := Lib.hid (HL.out k)
        have hCr := hC5.below hbr
        obtain ⟨⟨b0, b1, b2, b3, b4, b5⟩, -⟩ := hCr.six
        have hBr := hB5.trans (hbr.mono hB5.size)
        by_cases hT : posN a k < L
        · have e1 : IntKind.u64.wrap ((1073807360 : Int) - (posN a k : Int)) = (1073807360 : Int) - (posN a k : Int) := IntWalk.u64_in _ (by omega)
          have h64 : posN a k < 18446744073709551616 := by omega
          have h63 : posN a k ≤ 1073807360 := by omega
          by_cases hin : posN a k + n ≤ 1073807360
          · have hfr := Lib.hid (HLk.out hT hin)
            have H0 := Lib.hid (show freeR (l.take 0) (posN a k) n = true from rfl)
            clear HLk
            have hnext : Hid (posN a (k + 1) < 1073807360 + a) := Lib.hid (by rw [Hsucc.out]; omega)
            have hle := Lib.hid (show (n : Int) ≤ (1073807360 : Int) - (posN a k : Int) by omega)
            clear hk hin
            generalize posN a k = T at *
            have hTL : (T : Int) < L := by omega
            clear hT
            generalize hBT : (T : Int) = B at *
            have HBT := Lib.hid hBT
            have hgt := hle.out
            clear hBT hle
            go_wp2_with fail
            go_loopw [10, 11] (fun q i wr' => MetIn l T n wr q i wr') (fun q i _ => l.length - (intOf i).toNat)
            case atStart => exact ⟨0, false, by omega, rfl, rfl, fun _ => H0.out, Below.refl _ _⟩
            case round =>
              obtain ⟨j, b, hj, rfl, rfl, hfree, hbi⟩ := hrel
              have Hhfree := Lib.hid hfree
              clear hfree
              have hbi2 := hBr.trans (hbi.mono hBr.size)
              have hCi := hCr.below hbi
              clear b0 b1 b2 b3 b4 b5
              obtain ⟨⟨b0, b1, b2, b3, b4, b5⟩, -⟩ := hCi.six
              cases b
              · by_cases hlt : j < l.length
                · obtain ⟨bb, off, rfl, -, hcc⟩ := (hr.below hbi2) j hlt
                  have hs := Lib.hid (freeR_snoc l T n j hlt)
                  have hg := Lib.hid (Hhok.out _ (gAt_mem hlt))
                  have c0 := hcc 0 _ rfl
                  have c1 := hcc 1 _ rfl
                  have c2 := hcc 2 _ rfl
                  have c3 := hcc 3 _ rfl
                  have c4 := hcc 4 _ rfl
                  have c5 := hcc 5 _ rfl
                  clear hcc
                  simp only [Nat.add_zero] at c0
                  have Hap := fun w => Lib.hid (apart_any ⟨T, n, false, false, false, false⟩ (gAt l j) w h64 hg.out.1)
                  rw [show rgv ⟨T, n, false, false, false, false⟩ = .agg #[.int .u64 B, .int .u64 n, .bool false, .bool false, .bool false, .bool false] by rw [← HBT.out]; rfl] at Hap
                  generalize gAt l j = g at *
                  obtain ⟨gb, gn, gr, gw, gx, gs⟩ := g
                  unfold rgv at Hap
                  have e0 : (0 : Int) ≤ (j : Int) := by omega
                  have e1 : (j : Int) < (l.length : Int) := by omega
                  by_cases hgn : 0 < gn
                  · have hov := Lib.hid (awayN_ov (a := T) (b := gb) hn0 hgn)
                    simp only at Hap
                    have hdr := fun w' (h : Below (World.drew wr).heap.size (World.drew wr) w') => Lib.hid h
                    cases haw : awayN T n gb gn
                    · rw [haw] at Hap
                      clear haw hs
                      go_wp2_with fail
                      go_still_tail 15, (by kernel_rfl)
                      go_wp2_with fail
                      refine (Hap _).out.mono ?_
                      rintro e w' ⟨rfl, hb'⟩
                      have hbi3 := hbi.trans (hb'.undrew.mono hbi.size)
                      clear hb' c0 c1 c2 c3 c4 c5 b0 b1 b2 b3 b4 b5
                      go_wp2_with fail
                      first
                      | (go_roundw
                         case rel => exact ⟨j + 1, true, by omega, by go_num, rfl, fun h => (by cases h), hbi3⟩
                         case measure => (first | omega | (simp [intOf] <;> omega) | (simp only [intOf] <;> omega)))
                      | exact ⟨⟨j + 1, true, by omega, by go_num, rfl, fun h => (by cases h), hbi3⟩, by (first | omega | (simp [intOf] <;> omega) | (simp only [intOf] <;> omega))⟩
                      | (refine ⟨?_, by (first | omega | (simp [intOf] <;> omega) | (simp only [intOf] <;> omega))⟩
                         (repeat apply Exists.intro)
                         refine (fun a b => And.intro b a) ?_ ?_
                         · first | rfl | ((repeat refine ⟨rfl, ?_⟩); rfl)
                         exact ⟨j + 1, true, by omega, by go_num, rfl, fun h => (by cases h), hbi3⟩)
                    · have hF := Lib.hid (show freeR (l.take (j + 1)) T n = true by rw [hs.out, Hhfree.out rfl, hov.out, haw]; rfl)
                      rw [haw] at Hap
                      clear haw hs hov
                      go_wp2_with fail
                      go_still_tail 15, (by kernel_rfl)
                      go_wp2_with fail
                      refine (Hap _).out.mono ?_
                      rintro e w' ⟨rfl, hb'⟩
                      have hbi3 := hbi.trans (hb'.undrew.mono hbi.size)
                      clear hb' c0 c1 c2 c3 c4 c5 b0 b1 b2 b3 b4 b5
                      go_wp2_with fail
                      first
                      | (go_roundw
                         case rel => exact ⟨j + 1, false, by omega, by go_num, rfl, fun _ => hF.out, hbi3⟩
                         case measure => (first | omega | (simp [intOf] <;> omega) | (simp only [intOf] <;> omega)))
                      | exact ⟨⟨j + 1, false, by omega, by go_num, rfl, fun _ => hF.out, hbi3⟩, by (first | omega | (simp [intOf] <;> omega) | (simp only [intOf] <;> omega))⟩
                      | (refine ⟨?_, by (first | omega | (simp [intOf] <;> omega) | (simp only [intOf] <;> omega))⟩
                         (repeat apply Exists.intro)
                         refine (fun a b => And.intro b a) ?_ ?_
                         · first | rfl | ((repeat refine ⟨rfl, ?_⟩); rfl)
                         exact ⟨j + 1, false, by omega, by go_num, rfl, fun _ => hF.out, hbi3⟩)
                  · have hF := Lib.hid (show freeR (l.take (j + 1)) T n = true by rw [hs.out, Hhfree.out rfl]; simp [ov]; omega)
                    have hg0 : decide ((0 : Int) < (gn : Int)) = false := decide_eq_false (by omega)
                    have hgn0 : gn = 0 := by omega
                    subst hgn0
                    clear hs hg0 hgn
                    go_wp2_with fail
                    go_quiet (fail)
                    go_wp2_with fail
                    go_roundw
                    case rel => exact ⟨j + 1, false, by omega, by go_num, rfl, fun _ => hF.out, hbi.drewN _⟩
                    case measure => simp [intOf]; omega
                · exfalso
                  have h := Hhfree.out rfl
                  obtain rfl : j = l.length := by omega
                  rw [List.take_length, hfr.out] at h; cases h
              · have hbn := Lib.hid (hbr.trans (hbi.mono hbr.size))
                have hsum : IntKind.u64.wrap (B + (a : Int)) = B + (a : Int) := IntWalk.u64_in _ (by have := HBT.out; omega)
                have hroll : Hid (B + (a : Int) = ((posN a (k + 1) : Nat) : Int)) := Lib.hid (by rw [Hsucc.out, ← HBT.out]; rfl)
                have hmeas : B ≤ 1073807359 ∧ 1073741824 ≤ B ∧ 1 ≤ (a : Int) := by have := HBT.out; have := Hpos.out; omega
                obtain ⟨hm1, hm2, hm3⟩ := hmeas
                by_cases hlt : j < l.length
                · go_wp2_with fail
                  first
                  | (go_roundw
                     case rel => exact ⟨k + 1, hnext.out, by rw [← hroll.out], hbn.out⟩
                     case measure => (first | omega | (simp [intOf] <;> omega) | (simp only [intOf] <;> omega)))
                  | exact ⟨⟨k + 1, hnext.out, by rw [← hroll.out], hbn.out⟩, by (first | omega | (simp [intOf] <;> omega) | (simp only [intOf] <;> omega))⟩
                  | (refine ⟨?_, by (first | omega | (simp [intOf] <;> omega) | (simp only [intOf] <;> omega))⟩
                     (repeat apply Exists.intro)
                     refine (fun a b => And.intro b a) ?_ ?_
                     · first | rfl | ((repeat refine ⟨rfl, ?_⟩); rfl)
                     exact ⟨k + 1, hnext.out, by rw [← hroll.out], hbn.out⟩)
                · go_wp2_with fail
                  first
                  | (go_roundw
                     case rel => exact ⟨k + 1, hnext.out, by rw [← hroll.out], hbn.out⟩
                     case measure => (first | omega | (simp [intOf] <;> omega) | (simp only [intOf] <;> omega)))
                  | exact ⟨⟨k + 1, hnext.out, by rw [← hroll.out], hbn.out⟩, by (first | omega | (simp [intOf] <;> omega) | (simp only [intOf] <;> omega))⟩
                  | (refine ⟨?_, by (first | omega | (simp [intOf] <;> omega) | (simp only [intOf] <;> omega))⟩
                     (repeat apply Exists.intro)
                     refine (fun a b => And.intro b a) ?_ ?_
                     · first | rfl | ((repeat refine ⟨rfl, ?_⟩); rfl)
                     exact ⟨k + 1, hnext.out, by rw [← hroll.out], hbn.out⟩)
          · have hBT : ∃ B : Int, (posN a k : Int) = B ∧ B + n > 1073807360 ∧ B < L ∧ B ≤ 1073807360 := ⟨_, rfl, by omega, by omega, by omega⟩
            obtain ⟨B, hB, hm1, hm2, hm3⟩ := hBT
            rw [hB] at e1 ⊢
            clear hin hT hB
            go_wp2_with fail
            go_ret
            exact ⟨rfl, hBr⟩
        · have hBT : ∃ B : Int, (posN a k : Int) = B ∧ L ≤ B := ⟨_, rfl, by omega⟩
          obtain ⟨B, hB, hm1⟩ := hBT
          rw [hB]
          clear hT hB
          go_wp2_with fail
          go_ret
          exact ⟨rfl, hBr⟩
theorem walk {H : Type} (enc : TypeId × Value → H) (W : World) (base : Nat) (v0 : Value) (d0 : DataW H) (p0 : List MemPlace) (v1 : Value) (d1 : DataW H) (p1 : List MemPlace)
    (k0 : Value.okWide Try.prog W .any base 22 v0) (k1 : Value.okWide Try.prog W .any base 26 v1)
    (h0 : DataW.Trod enc Try.prog W 0 (fun _ => true) true 22 v0 d0 p0) (h1 : DataW.Trod enc Try.prog W 0 (fun _ => true) true 26 v1 d1 p1)
    (hsz : (DataW.weightsEach Try.prog [22, 26] ([d0, d1] ++ [])).all (· ≤ reachBytes) = true) :
    Calls Try.prog 4 #[v0, v1] W fun e w' => e = .returned (.bool true) ∧ Below W.heap.size W w' := by
  simp only [DataW.weightsEach, List.cons_append, List.nil_append] at hsz
  obtain ⟨z0, zz⟩ := all_app hsz
  obtain ⟨z1, _⟩ := all_app zz
  obtain ⟨ao, len, cap, l, rfl, hl, hlc, hcap, hr, hc, hok⟩ := open_regions k0 h0 z0
  obtain ⟨cs_, xs_, n_, rfl, hsz_, rfl, hxl_, hf_⟩ := open_struct Try.underlying26 k1 h1
  obtain ⟨c_I, c_N, c_A, c_S, c_Wb, c_X, rfl⟩ := arr6 (hsz_.trans (by kernel_rfl : Try.prog.cellsOf 26 = 6))
  obtain ⟨y_I, y_N, y_A, y_S, y_Wb, y_X, rfl⟩ := lst6 (hxl_.trans rfl)
  have cltbarbicanapiImage : Try.prog.cellsOf 23 = 1 := by kernel_rfl
  have cltbool : Try.prog.cellsOf 4 = 1 := by kernel_rfl
  have cltuint64 : Try.prog.cellsOf 24 = 1 := by kernel_rfl
  have e_I : DataW.trod enc Try.prog W 0 (fun _ => true) true n_ 23 [c_I] = some y_I := by have := hf_ 0 _ rfl; simpa [cltbarbicanapiImage] using this
  have e_N : DataW.trod enc Try.prog W 0 (fun _ => true) true n_ 24 [c_N] = some y_N := by have := hf_ 1 _ rfl; simpa [cltuint64] using this
  have e_A : DataW.trod enc Try.prog W 0 (fun _ => true) true n_ 24 [c_A] = some y_A := by have := hf_ 2 _ rfl; simpa [cltuint64] using this
  have e_S : DataW.trod enc Try.prog W 0 (fun _ => true) true n_ 4 [c_S] = some y_S := by have := hf_ 3 _ rfl; simpa [cltbool] using this
  have e_Wb : DataW.trod enc Try.prog W 0 (fun _ => true) true n_ 4 [c_Wb] = some y_Wb := by have := hf_ 4 _ rfl; simpa [cltbool] using this
  have e_X : DataW.trod enc Try.prog W 0 (fun _ => true) true n_ 4 [c_X] = some y_X := by have := hf_ 5 _ rfl; simpa [cltbool] using this
  simp only [DataW.weights, Try.underlying26, List.map_cons, List.map_nil, DataW.weightsEach] at z1
  obtain ⟨z_I, zz_0⟩ := all_app z1
  obtain ⟨z_N, zz_1⟩ := all_app zz_0
  obtain ⟨z_A, zz_2⟩ := all_app zz_1
  obtain ⟨z_S, zz_3⟩ := all_app zz_2
  obtain ⟨z_Wb, zz_4⟩ := all_app zz_3
  obtain ⟨z_X, zz_5⟩ := all_app zz_4
  obtain ⟨I, rfl, h0_I, h1_I⟩ := trod_i64 Try.underlying23 e_I
  obtain ⟨N, rfl, h_N⟩ := trod_u64 Try.underlying24 e_N
  obtain ⟨A, rfl, h_A⟩ := trod_u64 Try.underlying24 e_A
  obtain ⟨S, rfl⟩ := trod_b Try.underlying4 e_S
  obtain ⟨Wb, rfl⟩ := trod_b Try.underlying4 e_Wb
  obtain ⟨X, rfl⟩ := trod_b Try.underlying4 e_X
  clear hf_ hsz_ hxl_ e_I e_N e_A e_S e_Wb e_X z_I z_N z_A z_S z_Wb z_X zz_0 zz_1 zz_2 zz_3 zz_4 zz_5 z1 cltbarbicanapiImage cltbool cltuint64
  exact core W ao len cap l _ _ _ _ _ _ hl hlc hcap hr hc hok h_A
end Go.Proofs.Ythhodibfbfmijaa.mapLowest
