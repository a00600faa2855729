/- The document's Decode of metadata. No condition. -/
import Derived.Test.YtnmeidmiijcniaaFwS
import Derived.Test.YtnmeidmiijcniaaFwD
set_option linter.unusedVariables false
set_option linter.unusedSimpArgs false
namespace Go.Proofs.Ytnmeidmiijcniaa
open Go.RowKit
attribute [local go_sem ↓] build_b build_m Go.wp_at_zero Go.wp_at_succ
set_option maxRecDepth 100000 in
set_option maxHeartbeats 1000000 in
theorem rdec_any (ao : Option Addr) (n cap : Nat) (l : List UInt8) (w : World) (hl : l.length = n) (hn : n ≤ 9223372036854775807) (hr : Rd w ao l) :
    Calls Try.prog 12 #[.slice ao n cap] w fun e w' => e = .returned (decV (decM l)) ∧ Below w.heap.size w w' := by
  have hz := run_buildM0
  have HY := Lib.hid (HB.new w mec0 26)
  have HB1 := Lib.hid ((Below.refl w.heap.size w).alloc (Nat.le_refl _) (.cells mec0.toArray 26))
  obtain ⟨w1, hw1⟩ : ∃ w1, w.alloc (.cells mec0.toArray 26) = w1 := ⟨_, rfl⟩
  rw [hw1] at HY HB1
  obtain ⟨Y, hY⟩ : ∃ Y, w.heap.size = Y := ⟨_, rfl⟩
  rw [hY] at HY
  unfold mec0 at hw1
  have HYy := fun (_ : Unit) => Lib.hid hY
  have HYl := Lib.hid (Nat.le_of_eq hY)
  by_cases hn512 : n = 512
  · subst hn512
    obtain ⟨ad, off, rfl, -⟩ := hr 0 (by omega)
    have hr1 := hr.below HB1.out
    have Hg1 := Lib.hid (rget_ok (some ⟨ad, off, none⟩) 512 cap 4 4 l false w1 hl (by decide) hr1 (.inr (.inr (.inl rfl))) (by decide))
    rw [show ((4 : Nat) : Int) = 4 from rfl] at Hg1
    have Hl := Lib.hid hl
    have Hr3 := Lib.hid hr1
    go_enter Try.func12, Try.ntmps12
    clear hl hr1 hr hn
    go_wp2_with fail
    refine Hg1.out.mono ?_
    rintro e w3 ⟨rfl, rfl⟩
    clear Hg1 hw1
    go_upto_region 4 with fail
    generalize w1 = w3 at *
    obtain ⟨n8, h8⟩ : ∃ n, (l[8]?.getD 0).toNat = n := ⟨_, rfl⟩
    obtain ⟨n9, h9⟩ : ∃ n, (l[9]?.getD 0).toNat = n := ⟨_, rfl⟩
    obtain ⟨n10, h10⟩ : ∃ n, (l[10]?.getD 0).toNat = n := ⟨_, rfl⟩
    obtain ⟨n11, h11⟩ : ∃ n, (l[11]?.getD 0).toNat = n := ⟨_, rfl⟩
    have HS := Lib.hid (fun w' (hb : Below w3.heap.size w3 w') => B4.of (Hr3.out.below hb) Hl.out)
    have hbB := run_buildB
    have hbM := run_buildM
    have hz5 : ∀ w, (zeroValue 26).run Try.prog w = .ok (.agg #[.int .u32 0, .int .i64 0, .int .i64 0, .int .i64 0, .int .i64 0]) w := fun w => by kernel_rfl
    have hd0 : Drn w3 w3.drew := ⟨1, rfl⟩
    have HBa := Lib.hid (fun o => (hd0.below w3.heap.size).alloc (Nat.le_refl _) o)
    obtain ⟨sq, hsq⟩ : ∃ sq, getN l 4 4 false = sq := ⟨_, rfl⟩
    have hsl : sq < 4294967296 := by rw [← hsq]; exact getN_lt l 4 4 false (by rw [Hl.out]; decide)
    have e32 : IntKind.u32.wrap (sq : Int) = (sq : Int) := IntWalk.u32_in _ (by omega)
    have e8 : IntKind.i64.wrap (n8 : Int) = (n8 : Int) := IntWalk.i64_in _ (by have := (l[8]?.getD 0).toNat_lt; omega)
    have e9 : IntKind.i64.wrap (n9 : Int) = (n9 : Int) := IntWalk.i64_in _ (by have := (l[9]?.getD 0).toNat_lt; omega)
    have e10 : IntKind.i64.wrap (n10 : Int) = (n10 : Int) := IntWalk.i64_in _ (by have := (l[10]?.getD 0).toNat_lt; omega)
    have e11 : IntKind.i64.wrap (n11 : Int) = (n11 : Int) := IntWalk.i64_in _ (by have := (l[11]?.getD 0).toNat_lt; omega)
    have HM := fun (_ : Unit) => Lib.hid (show rdM l = ⟨sq, n8, n9, n10, n11⟩ by unfold rdM; rw [hsq, h8, h9, h10, h11])
    have Hsl := Lib.hid hsl
    rw [h8, h9, h10, h11] at HS
    rw [hsq]
    clear hsq h8 h9 h10 h11 hsl
    refine wp_region_held_drew (S := fun w' => B4 w' ad off n8 n9 n10 n11) (by kernel_rfl) (HS.out _ (hd0.below _)) (fun hHeld => ?_)
    refine wpAnyH_take (i := 0) (v := ?_) (by simp only [List.getElem?_toArray, List.getElem?_cons_succ, List.getElem?_cons_zero]; rfl) (by kernel_rfl) (by kernel_rfl) (by kernel_rfl) (by intro _ _ _ h_; exact h_) (Or.inl ⟨by rfl, ?_⟩) (by assumption) ?_
    rotate_left 1
    focus (intro w_ hSw_; try go_simp; try with_reducible rfl)
    simp only [Act.put, List.setIfInBounds_toArray, List.set_cons_zero, List.set_cons_succ]
    refine wpAnyH_take (i := 1) (v := ?_) (by simp only [List.getElem?_toArray, List.getElem?_cons_succ, List.getElem?_cons_zero]; rfl) (by kernel_rfl) (by kernel_rfl) (by kernel_rfl) (by intro _ _ _ h_; exact h_) (Or.inl ⟨by rfl, ?_⟩) (by assumption) ?_
    rotate_left 1
    focus (intro w_ hSw_; try go_simp; try with_reducible rfl)
    simp only [Act.put, List.setIfInBounds_toArray, List.set_cons_zero, List.set_cons_succ]
    refine wpAnyH_take (i := 2) (v := ?_) (by simp only [List.getElem?_toArray, List.getElem?_cons_succ, List.getElem?_cons_zero]; rfl) (by kernel_rfl) (by kernel_rfl) (by kernel_rfl) (by intro _ _ _ h_; exact h_) (Or.inl ⟨by rfl, ?_⟩) (by assumption) ?_
    rotate_left 1
    focus (intro w_ hSw_; try go_simp; try with_reducible rfl)
    simp only [Act.put, List.setIfInBounds_toArray, List.set_cons_zero, List.set_cons_succ]
    refine wpAnyH_take (i := 3) (v := ?_) (by simp only [List.getElem?_toArray, List.getElem?_cons_succ, List.getElem?_cons_zero]; rfl) (by kernel_rfl) (by kernel_rfl) (by kernel_rfl) (by intro _ _ _ h_; exact h_) (Or.inl ⟨by rfl, ?_⟩) (by assumption) ?_
    rotate_left 1
    focus (intro w_ hSw_; try go_simp; try with_reducible rfl)
    simp only [Act.put, List.setIfInBounds_toArray, List.set_cons_zero, List.set_cons_succ]
    refine wpAnyH_take (i := 4) (v := ?_) (by simp only [List.getElem?_toArray, List.getElem?_cons_succ, List.getElem?_cons_zero]; rfl) (by kernel_rfl) (by kernel_rfl) (by kernel_rfl) (by intro _ _ _ h_; exact h_) (Or.inl ⟨by rfl, ?_⟩) (by assumption) ?_
    rotate_left 1
    focus (intro w_ hSw_; obtain ⟨y8, y9, y10, y11⟩ := hSw_; try go_simp; try with_reducible rfl)
    simp only [Act.put, List.setIfInBounds_toArray, List.set_cons_zero, List.set_cons_succ]
    refine wpAnyH_take (i := 5) (v := ?_) (by simp only [List.getElem?_toArray, List.getElem?_cons_succ, List.getElem?_cons_zero]; rfl) (by kernel_rfl) (by kernel_rfl) (by kernel_rfl) (by intro _ _ _ h_; exact h_) (Or.inl ⟨by rfl, ?_⟩) (by assumption) ?_
    rotate_left 1
    focus (intro w_ hSw_; try go_simp; try with_reducible rfl)
    simp only [Act.put, List.setIfInBounds_toArray, List.set_cons_zero, List.set_cons_succ]
    refine wpAnyH_take (i := 6) (v := ?_) (by simp only [List.getElem?_toArray, List.getElem?_cons_succ, List.getElem?_cons_zero]; rfl) (by kernel_rfl) (by kernel_rfl) (by kernel_rfl) (by intro _ _ _ h_; exact h_) (Or.inl ⟨by rfl, ?_⟩) (by assumption) ?_
    rotate_left 1
    focus (intro w_ hSw_; try go_simp; try with_reducible rfl)
    simp only [Act.put, List.setIfInBounds_toArray, List.set_cons_zero, List.set_cons_succ]
    refine wpAnyH_take (i := 7) (v := ?_) (by simp only [List.getElem?_toArray, List.getElem?_cons_succ, List.getElem?_cons_zero]; rfl) (by kernel_rfl) (by kernel_rfl) (by kernel_rfl) (by intro _ _ _ h_; exact h_) (Or.inl ⟨by rfl, ?_⟩) (by assumption) ?_
    rotate_left 1
    focus (intro w_ hSw_; try go_simp; try with_reducible rfl)
    simp only [Act.put, List.setIfInBounds_toArray, List.set_cons_zero, List.set_cons_succ]
    refine wpAnyH_take (i := 8) (v := ?_) (by simp only [List.getElem?_toArray, List.getElem?_cons_succ, List.getElem?_cons_zero]; rfl) (by kernel_rfl) (by kernel_rfl) (by kernel_rfl) (by intro _ _ _ h_; exact h_) (Or.inl ⟨by rfl, ?_⟩) (by assumption) ?_
    rotate_left 1
    focus (intro w_ hSw_; obtain ⟨y8, y9, y10, y11⟩ := hSw_; try go_simp; try with_reducible rfl)
    simp only [Act.put, List.setIfInBounds_toArray, List.set_cons_zero, List.set_cons_succ]
    refine wpAnyH_take (i := 9) (v := ?_) (by simp only [List.getElem?_toArray, List.getElem?_cons_succ, List.getElem?_cons_zero]; rfl) (by kernel_rfl) (by kernel_rfl) (by kernel_rfl) (by intro _ _ _ h_; exact h_) (Or.inl ⟨by rfl, ?_⟩) (by assumption) ?_
    rotate_left 1
    focus (intro w_ hSw_; try go_simp; try with_reducible rfl)
    simp only [Act.put, List.setIfInBounds_toArray, List.set_cons_zero, List.set_cons_succ]
    refine wpAnyH_take (i := 10) (v := ?_) (by simp only [List.getElem?_toArray, List.getElem?_cons_succ, List.getElem?_cons_zero]; rfl) (by kernel_rfl) (by kernel_rfl) (by kernel_rfl) (by intro _ _ _ h_; exact h_) (Or.inl ⟨by rfl, ?_⟩) (by assumption) ?_
    rotate_left 1
    focus (intro w_ hSw_; try go_simp; try with_reducible rfl)
    simp only [Act.put, List.setIfInBounds_toArray, List.set_cons_zero, List.set_cons_succ]
    refine wpAnyH_take (i := 11) (v := ?_) (by simp only [List.getElem?_toArray, List.getElem?_cons_succ, List.getElem?_cons_zero]; rfl) (by kernel_rfl) (by kernel_rfl) (by kernel_rfl) (by intro _ _ _ h_; exact h_) (Or.inl ⟨by rfl, ?_⟩) (by assumption) ?_
    rotate_left 1
    focus (intro w_ hSw_; try go_simp; try with_reducible rfl)
    simp only [Act.put, List.setIfInBounds_toArray, List.set_cons_zero, List.set_cons_succ]
    refine wpAnyH_take (i := 12) (v := ?_) (by simp only [List.getElem?_toArray, List.getElem?_cons_succ, List.getElem?_cons_zero]; rfl) (by kernel_rfl) (by kernel_rfl) (by kernel_rfl) (by intro _ _ _ h_; exact h_) (Or.inl ⟨by rfl, ?_⟩) (by assumption) ?_
    rotate_left 1
    focus (intro w_ hSw_; try go_simp; try with_reducible rfl)
    simp only [Act.put, List.setIfInBounds_toArray, List.set_cons_zero, List.set_cons_succ]
    refine wpAnyH_take (i := 13) (v := ?_) (by simp only [List.getElem?_toArray, List.getElem?_cons_succ, List.getElem?_cons_zero]; rfl) (by kernel_rfl) (by kernel_rfl) (by kernel_rfl) (by intro _ _ _ h_; exact h_) (Or.inl ⟨by rfl, ?_⟩) (by assumption) ?_
    rotate_left 1
    focus (intro w_ hSw_; obtain ⟨y8, y9, y10, y11⟩ := hSw_; try go_simp; try with_reducible rfl)
    simp only [Act.put, List.setIfInBounds_toArray, List.set_cons_zero, List.set_cons_succ]
    refine wpAnyH_take (i := 14) (v := ?_) (by simp only [List.getElem?_toArray, List.getElem?_cons_succ, List.getElem?_cons_zero]; rfl) (by kernel_rfl) (by kernel_rfl) (by kernel_rfl) (by intro _ _ _ h_; exact h_) (Or.inl ⟨by rfl, ?_⟩) (by assumption) ?_
    rotate_left 1
    focus (intro w_ hSw_; try go_simp; try with_reducible rfl)
    simp only [Act.put, List.setIfInBounds_toArray, List.set_cons_zero, List.set_cons_succ]
    refine wpAnyH_take (i := 15) (v := ?_) (by simp only [List.getElem?_toArray, List.getElem?_cons_succ, List.getElem?_cons_zero]; rfl) (by kernel_rfl) (by kernel_rfl) (by kernel_rfl) (by intro _ _ _ h_; exact h_) (Or.inl ⟨by rfl, ?_⟩) (by assumption) ?_
    rotate_left 1
    focus (intro w_ hSw_; try go_simp; try with_reducible rfl)
    simp only [Act.put, List.setIfInBounds_toArray, List.set_cons_zero, List.set_cons_succ]
    refine wpAnyH_take (i := 16) (v := ?_) (by simp only [List.getElem?_toArray, List.getElem?_cons_succ, List.getElem?_cons_zero]; rfl) (by kernel_rfl) (by kernel_rfl) (by kernel_rfl) (by intro _ _ _ h_; exact h_) (Or.inl ⟨by rfl, ?_⟩) (by assumption) ?_
    rotate_left 1
    focus (intro w_ hSw_; try go_simp; try with_reducible rfl)
    simp only [Act.put, List.setIfInBounds_toArray, List.set_cons_zero, List.set_cons_succ]
    refine wpAnyH_take (i := 17) (v := ?_) (by simp only [List.getElem?_toArray, List.getElem?_cons_succ, List.getElem?_cons_zero]; rfl) (by kernel_rfl) (by kernel_rfl) (by kernel_rfl) (by intro _ _ _ h_; exact h_) (Or.inl ⟨by rfl, ?_⟩) (by assumption) ?_
    rotate_left 1
    focus (intro w_ hSw_; obtain ⟨y8, y9, y10, y11⟩ := hSw_; try go_simp; try with_reducible rfl)
    simp only [Act.put, List.setIfInBounds_toArray, List.set_cons_zero, List.set_cons_succ]
    refine wpAnyH_take (i := 18) (v := ?_) (by simp only [List.getElem?_toArray, List.getElem?_cons_succ, List.getElem?_cons_zero]; rfl) (by kernel_rfl) (by kernel_rfl) (by kernel_rfl) (by intro _ _ _ h_; exact h_) (Or.inl ⟨by rfl, ?_⟩) (by assumption) ?_
    rotate_left 1
    focus (intro w_ hSw_; try go_simp; try with_reducible rfl)
    simp only [Act.put, List.setIfInBounds_toArray, List.set_cons_zero, List.set_cons_succ]
    refine wpAnyH_take (i := 19) (v := ?_) (by simp only [List.getElem?_toArray, List.getElem?_cons_succ, List.getElem?_cons_zero]; rfl) (by kernel_rfl) (by kernel_rfl) (by kernel_rfl) (by intro _ _ _ h_; exact h_) (Or.inl ⟨by rfl, ?_⟩) (by assumption) ?_
    rotate_left 1
    focus (intro w_ hSw_; try go_simp; try with_reducible rfl)
    simp only [Act.put, List.setIfInBounds_toArray, List.set_cons_zero, List.set_cons_succ]
    refine wpAnyH_ready (rs := [20]) (by kernel_rfl) (by simp) ?_
    refine AllReadyH.cons (by simp only [List.getElem?_toArray, List.getElem?_cons_succ, List.getElem?_cons_zero]; rfl) (fun K hK => ?_) AllReadyH.nil
    go_simp
    refine hK.out _ _ (HS.out _ (HBa.out _)) (fun hHeld => ?_)
    clear hK K
    try simp only [Act.put, List.setIfInBounds_toArray, List.set_cons_zero, List.set_cons_succ]
    refine wpAnyH_ready (rs := [21]) (by kernel_rfl) (by simp) ?_
    refine AllReadyH.cons (by simp only [List.getElem?_toArray, List.getElem?_cons_succ, List.getElem?_cons_zero]; rfl) (fun K hK => ?_) AllReadyH.nil
    go_simp
    refine hK.out _ _ (HS.out _ (HBa.out _)) (fun hHeld => ?_)
    clear hK K
    try simp only [Act.put, List.setIfInBounds_toArray, List.set_cons_zero, List.set_cons_succ]
    refine wpAnyH_done (by kernel_rfl) ?_ _
    have HX := Lib.hid ((HB.new w3 (mec ⟨sq, n8, n9, n10, n11⟩) 26).drn (⟨1, rfl⟩ : Drn _ (w3.alloc (.cells (mec ⟨sq, n8, n9, n10, n11⟩).toArray 26)).drew))
    have HB4 := Lib.hid (show Below w3.heap.size w3 (w3.alloc (.cells (mec ⟨sq, n8, n9, n10, n11⟩).toArray 26)).drew from HBa.out _)
    obtain ⟨w4, hw4⟩ : ∃ w4, (w3.alloc (.cells (mec ⟨sq, n8, n9, n10, n11⟩).toArray 26)).drew = w4 := ⟨_, rfl⟩
    rw [hw4] at HX HB4
    unfold mec at hw4
    dsimp only at hw4
    rw [hw4]
    obtain ⟨X, hX⟩ : ∃ X, w3.heap.size = X := ⟨_, rfl⟩
    rw [hX] at HX ⊢
    have HY4 := Lib.hid (HY.out.below HB4.out HY.out.lt)
    have Hr4 := Lib.hid (Hr3.out.below HB4.out)
    have HBw := Lib.hid (HB1.out.trans (HB4.out.mono HB1.out.size))
    have HXY : Hid (w.heap.size ≤ X) := Lib.hid (by rw [← hX]; exact HB1.out.size)
    clear hw4 hX HY HB1 Hr3 HB4 HBa HS hHeld hd0 e32 e8 e9 e10 e11 hbB hbM hz5
    obtain ⟨x0, x1, x2, x3, x4⟩ := Five.of HX.out
    dsimp only at x0 x1 x2 x3 x4
    cases hrt : rightM ⟨sq, n8, n9, n10, n11⟩
    · have hdm : decM l = none := by unfold decM; rw [if_neg (fun h => by have h1 := h.2.1; rw [(HM ()).out, hrt] at h1; cases h1)]
      have Hdm := Lib.hid hdm
      have He := Lib.hid (renc_bad ⟨sq, n8, n9, n10, n11⟩ w4 hrt)
      unfold mev at He
      dsimp only at He
      clear hdm hrt HM
      go_wp2_with fail
      refine He.out.mono ?_
      rintro e w5 ⟨rfl, hb5⟩
      have Hsm := Lib.hid (same_any none (some ⟨ad, off, none⟩) 0 512 0 cap [] l w5 rfl Hl.out (by decide) (by decide) (Rd.nil _ _) (Hr4.out.below hb5))
      rw [decide_eq_false (fun h => by have := Hl.out; rw [← h] at this; cases this)] at Hsm
      have HY5 := Lib.hid (HY4.out.later hb5)
      have HB5 := Lib.hid (HBw.out.trans (hb5.mono HBw.out.size))
      clear He hb5 x0 x1 x2 x3 x4 HX HY4 HBw Hr4
      go_wp2_with fail
      refine Hsm.out.mono ?_
      rintro e w6 ⟨rfl, hd6⟩
      have HYz := Lib.hid (HY5.out.drn hd6)
      have HBz := Lib.hid (HB5.out.trans (hd6.below _))
      have HSz := Lib.hid HBz.out.size
      clear hd6 HY5 HB5 Hsm
      have Hs := fun (_ : Unit) => Lib.hid (meSet_hb HYz.out rfl (⟨0, 0, 0, 0, 0⟩ : Me))
      have Hg := fun (_ : Unit) => Lib.hid (HBz.out.grown (meSet_grown w6 Y (⟨0, 0, 0, 0, 0⟩ : Me)) HSz.out (by intro k hk; cases hk; exact HYl.out))
      have y0 := HYz.out.cell (i := 0) rfl
      have y1 := HYz.out.cell (i := 1) rfl
      have y2 := HYz.out.cell (i := 2) rfl
      have y3 := HYz.out.cell (i := 3) rfl
      have y4 := HYz.out.cell (i := 4) rfl
      have yf := HYz.out.frozen
      go_wp2_with fail
      clear y0 y1 y2 y3 y4 yf
      unfold meSet at Hs Hg
      generalize World.setCell _ _ _ = w9 at *
      have k0 := (Hs ()).out.cell (i := 0) rfl
      have k1 := (Hs ()).out.cell (i := 1) rfl
      have k2 := (Hs ()).out.cell (i := 2) rfl
      have k3 := (Hs ()).out.cell (i := 3) rfl
      have k4 := (Hs ()).out.cell (i := 4) rfl
      refine bodyPost_ret (v := decV none) (by simp [results, Try.results12, go_sem, k0, k1, k2, k3, k4]; try rfl) rfl ⟨by rw [Hdm.out], (Hg ()).out⟩
    · have He := Lib.hid (renc_ok ⟨sq, n8, n9, n10, n11⟩ w4 hrt Hsl.out)
      have Hrt := fun (_ : Unit) => Lib.hid hrt
      unfold mev at He
      dsimp only at He
      clear hrt
      go_wp2_with fail
      refine He.out.mono ?_
      rintro e w5 ⟨g, C, rfl, hC, ho5, hb5⟩
      obtain ⟨L, hL⟩ : ∃ L, encM ⟨sq, n8, n9, n10, n11⟩ = L := ⟨_, rfl⟩
      have hLl : L.length = 512 := by rw [← hL]; exact encM_len _
      rw [hL] at ho5
      have hr5 : Rd w5 (some ⟨g, 0, none⟩) L := by
        obtain ⟨a4, c4, he4, -, -, hr4⟩ := ho5.rd
        rw [hLl] at he4
        cases he4
        exact hr4
      have Hsm := Lib.hid (same_any (some ⟨g, 0, none⟩) (some ⟨ad, off, none⟩) 512 512 C cap L l w5 hLl Hl.out (by decide) (by decide) hr5 (Hr4.out.below hb5))
      have HY5 := Lib.hid (HY4.out.later hb5)
      have HX5 := Lib.hid (HX.out.later hb5)
      have HB5 := Lib.hid (HBw.out.trans (hb5.mono HBw.out.size))
      have HL := fun (_ : Unit) => Lib.hid hL
      clear He hb5 x0 x1 x2 x3 x4 HX HY4 HBw Hr4 hL hLl ho5 hr5 hC
      by_cases hLe : L = l
      · rw [decide_eq_true hLe] at Hsm
        have hdm : decM l = some ⟨sq, n8, n9, n10, n11⟩ := by
          unfold decM
          rw [if_pos ⟨Hl.out, by rw [(HM ()).out]; exact (Hrt ()).out, by rw [(HM ()).out, (HL ()).out]; exact hLe⟩, (HM ()).out]
        have Hdm := Lib.hid hdm
        clear hdm hLe
        go_wp2_with fail
        refine Hsm.out.mono ?_
        rintro e w6 ⟨rfl, hd6⟩
        have HYz := Lib.hid (HY5.out.drn hd6)
        have HBz := Lib.hid (HB5.out.trans (hd6.below _))
        have HSz := Lib.hid HBz.out.size
        obtain ⟨x0, x1, x2, x3, x4⟩ := Five.of (HX5.out.drn hd6)
        dsimp only at x0 x1 x2 x3 x4
        clear hd6 HY5 HB5 Hsm HX5
        have Hs := fun (_ : Unit) => Lib.hid (meSet_hb HYz.out rfl (⟨sq, n8, n9, n10, n11⟩ : Me))
        have Hg := fun (_ : Unit) => Lib.hid (HBz.out.grown (meSet_grown w6 Y (⟨sq, n8, n9, n10, n11⟩ : Me)) HSz.out (by intro k hk; cases hk; exact HYl.out))
        have y0 := HYz.out.cell (i := 0) rfl
        have y1 := HYz.out.cell (i := 1) rfl
        have y2 := HYz.out.cell (i := 2) rfl
        have y3 := HYz.out.cell (i := 3) rfl
        have y4 := HYz.out.cell (i := 4) rfl
        have yf := HYz.out.frozen
        go_wp2_with fail
        clear y0 y1 y2 y3 y4 yf
        unfold meSet at Hs Hg
        generalize World.setCell _ _ _ = w9 at *
        have k0 := (Hs ()).out.cell (i := 0) rfl
        have k1 := (Hs ()).out.cell (i := 1) rfl
        have k2 := (Hs ()).out.cell (i := 2) rfl
        have k3 := (Hs ()).out.cell (i := 3) rfl
        have k4 := (Hs ()).out.cell (i := 4) rfl
        refine bodyPost_ret (v := decV (some ⟨sq, n8, n9, n10, n11⟩)) (by simp [results, Try.results12, go_sem, k0, k1, k2, k3, k4]; try rfl) rfl ⟨by rw [Hdm.out], (Hg ()).out⟩
      · rw [decide_eq_false hLe] at Hsm
        have hdm : decM l = none := by unfold decM; rw [if_neg (fun h => hLe (by have h1 := h.2.2; rw [(HM ()).out, (HL ()).out] at h1; exact h1))]
        have Hdm := Lib.hid hdm
        clear hdm hLe
        go_wp2_with fail
        refine Hsm.out.mono ?_
        rintro e w6 ⟨rfl, hd6⟩
        have HYz := Lib.hid (HY5.out.drn hd6)
        have HBz := Lib.hid (HB5.out.trans (hd6.below _))
        have HSz := Lib.hid HBz.out.size
        clear hd6 HY5 HB5 Hsm HX5
        have Hs := fun (_ : Unit) => Lib.hid (meSet_hb HYz.out rfl (⟨0, 0, 0, 0, 0⟩ : Me))
        have Hg := fun (_ : Unit) => Lib.hid (HBz.out.grown (meSet_grown w6 Y (⟨0, 0, 0, 0, 0⟩ : Me)) HSz.out (by intro k hk; cases hk; exact HYl.out))
        have y0 := HYz.out.cell (i := 0) rfl
        have y1 := HYz.out.cell (i := 1) rfl
        have y2 := HYz.out.cell (i := 2) rfl
        have y3 := HYz.out.cell (i := 3) rfl
        have y4 := HYz.out.cell (i := 4) rfl
        have yf := HYz.out.frozen
        go_wp2_with fail
        clear y0 y1 y2 y3 y4 yf
        unfold meSet at Hs Hg
        generalize World.setCell _ _ _ = w9 at *
        have k0 := (Hs ()).out.cell (i := 0) rfl
        have k1 := (Hs ()).out.cell (i := 1) rfl
        have k2 := (Hs ()).out.cell (i := 2) rfl
        have k3 := (Hs ()).out.cell (i := 3) rfl
        have k4 := (Hs ()).out.cell (i := 4) rfl
        refine bodyPost_ret (v := decV none) (by simp [results, Try.results12, go_sem, k0, k1, k2, k3, k4]; try rfl) rfl ⟨by rw [Hdm.out], (Hg ()).out⟩
  · have hdm : decM l = none := by unfold decM; rw [if_neg (by rw [hl]; exact fun h => hn512 h.1)]
    have Hdm := Lib.hid hdm
    have i1 : ¬ ((n : Int) = 512) := by omega
    have HYz := HY
    have HBz := HB1
    have HSz := Lib.hid HB1.out.size
    clear hn512 hdm hl hr hn HY HB1
    have Hs := fun (_ : Unit) => Lib.hid (meSet_hb HYz.out rfl (⟨0, 0, 0, 0, 0⟩ : Me))
    have Hg := fun (_ : Unit) => Lib.hid (HBz.out.grown (meSet_grown w1 Y (⟨0, 0, 0, 0, 0⟩ : Me)) HSz.out (by intro k hk; cases hk; exact HYl.out))
    have y0 := HYz.out.cell (i := 0) rfl
    have y1 := HYz.out.cell (i := 1) rfl
    have y2 := HYz.out.cell (i := 2) rfl
    have y3 := HYz.out.cell (i := 3) rfl
    have y4 := HYz.out.cell (i := 4) rfl
    have yf := HYz.out.frozen
    go_enter Try.func12, Try.ntmps12
    go_wp2_with fail
    clear y0 y1 y2 y3 y4 yf
    unfold meSet at Hs Hg
    generalize World.setCell _ _ _ = w9 at *
    have k0 := (Hs ()).out.cell (i := 0) rfl
    have k1 := (Hs ()).out.cell (i := 1) rfl
    have k2 := (Hs ()).out.cell (i := 2) rfl
    have k3 := (Hs ()).out.cell (i := 3) rfl
    have k4 := (Hs ()).out.cell (i := 4) rfl
    refine bodyPost_ret (v := decV none) (by simp [results, Try.results12, go_sem, k0, k1, k2, k3, k4]; try rfl) rfl ⟨by rw [Hdm.out], (Hg ()).out⟩
end Go.Proofs.Ytnmeidmiijcniaa
