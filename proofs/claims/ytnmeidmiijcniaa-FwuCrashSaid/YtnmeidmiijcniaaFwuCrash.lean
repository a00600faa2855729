/- Power may go anywhere: the walk. No condition. -/
import Derived.Test.YtnmeidmiijcniaaFwX
import Derived.Test.YtnmeidmiijcniaaOpenM
import Derived.Test.YtnmeidmiijcniaaFwQ
namespace Go.Proofs.Ytnmeidmiijcniaa.fwuCrash
open Go.ChangeShapes Go.WideShapes Go.ChangeAt Go.RowKit
set_option linter.unusedVariables false
set_option linter.unusedSimpArgs false
attribute [local go_sem ↓] build_m Go.wp_at_zero Go.wp_at_succ
theorem BMap.frm {w w' : World} {b n : Nat} {F : Int → Option (List UInt8)} {K : Nat → Prop} (h : BMap w b n F) (hf : Frm K w w') (hne : ¬ K b) : BMap w' b n F := by
  have hlt := h.lt
  obtain ⟨D, ⟨es, clock, hb, F', hs, hD⟩, h2⟩ := h
  exact ⟨D, ⟨es, clock, (hf.block b hlt hne).trans hb, F', hs, hD⟩, h2⟩
theorem UpA.frm {w w' : World} {u p mb n : Nat} {s : Up} {f : Fl} {K : Nat → Prop} (h : UpA w u p mb n s f) (hf : Frm K w w') (h1 : ¬ K u) (h2 : ¬ K p) (h3 : ¬ K mb) : UpA w' u p mb n s f :=
  ⟨h.h.frm hf h1, ⟨h.fl.h.frm hf h2, BMap.frm h.fl.m hf h3, h.fl.ne⟩, h.ok, h.up, h.i, h.n1, h.n2⟩
def crc8 (m : Me) (cp kd : Int) (d : Bool) : List Value := [.int .u32 m.seq, .int .i64 m.b0, .int .i64 m.b1, .int .i64 m.act, .int .i64 m.tries, .int .i64 cp, .int .i64 kd, .bool d]
structure CrX (w : World) (x : Nat) (m : Me) (cp kd : Int) (d : Bool) : Prop where
  c0 : w.cell? ⟨x, 0, none⟩ = some (.int .u32 m.seq)
  c1 : w.cell? ⟨x, 1, none⟩ = some (.int .i64 m.b0)
  c2 : w.cell? ⟨x, 2, none⟩ = some (.int .i64 m.b1)
  c3 : w.cell? ⟨x, 3, none⟩ = some (.int .i64 m.act)
  c4 : w.cell? ⟨x, 4, none⟩ = some (.int .i64 m.tries)
  c5 : w.cell? ⟨x, 5, none⟩ = some (.int .i64 cp)
  c6 : w.cell? ⟨x, 6, none⟩ = some (.int .i64 kd)
  c7 : w.cell? ⟨x, 7, none⟩ = some (.bool d)
theorem CrX.of {w : World} {x : Nat} {m : Me} {cp kd : Int} {d : Bool} {t : TypeId} (h : HB w x t (crc8 m cp kd d)) : CrX w x m cp kd d :=
  ⟨h.cell rfl, h.cell rfl, h.cell rfl, h.cell rfl, h.cell rfl, h.cell rfl, h.cell rfl, h.cell rfl⟩
set_option maxRecDepth 100000 in
set_option maxHeartbeats 2000000 in
theorem core (W : World) (m : Me) (hs : m.seq < 4294967296) (cp kd : Int) (d : Bool) (hcp : I64 cp) (hkd : I64 kd) :
    Calls Try.prog 6 #[.agg (crc8 m cp kd d).toArray] W fun e w' => e = .returned (.bool true) ∧ Below W.heap.size W w' := by
  have HX := Lib.hid (HB.new W (crc8 m cp kd d) 54)
  have HB1 := Lib.hid ((Below.refl W.heap.size W).alloc (Nat.le_refl _) (.cells (crc8 m cp kd d).toArray 54))
  obtain ⟨w1, hw1⟩ : ∃ w1, W.alloc (.cells (crc8 m cp kd d).toArray 54) = w1 := ⟨_, rfl⟩
  rw [hw1] at HX HB1
  obtain ⟨X, hX⟩ : ∃ X, W.heap.size = X := ⟨_, rfl⟩
  rw [hX] at HX
  have Hs := Lib.hid (And.intro hs (And.intro hcp hkd))
  clear hs hcp hkd
  unfold crc8 at hw1
  rw [show (crc8 m cp kd d).toArray = #[.int .u32 m.seq, .int .i64 m.b0, .int .i64 m.b1, .int .i64 m.act, .int .i64 m.tries, .int .i64 cp, .int .i64 kd, .bool d] from rfl]
  go_enter Try.func6, Try.ntmps6
  go_upto_region 1 with fail
  have hd0 : Drn w1 w1.drew := ⟨1, rfl⟩
  have HS := Lib.hid (fun w' (hb : Below w1.heap.size w1 w') => CrX.of (HX.out.later hb))
  have HBa := Lib.hid (fun o => (hd0.below w1.heap.size).alloc (Nat.le_refl _) o)
  have hz5 : ∀ w, (zeroValue 26).run Try.prog w = .ok (.agg #[.int .u32 0, .int .i64 0, .int .i64 0, .int .i64 0, .int .i64 0]) w := fun w => by kernel_rfl
  refine wp_region_held_drew (S := fun w' => CrX w' X m cp kd d) (by kernel_rfl) (HS.out _ (hd0.below _)) (fun hHeld => ?_)
  refine wpAnyH_take (i := 0) (v := ?_) (by simp only [List.getElem?_toArray, List.getElem?_cons_succ, List.getElem?_cons_zero]; rfl) (by kernel_rfl) (by kernel_rfl) (by kernel_rfl) (by intro _ _ _ h_; exact h_) (Or.inl ⟨by rfl, ?_⟩) (by assumption) ?_
  rotate_left 1
  focus (intro w_ hSw_; try go_simp; try with_reducible rfl)
  simp only [Act.put, List.setIfInBounds_toArray, List.set_cons_zero, List.set_cons_succ]
  refine wpAnyH_take (i := 1) (v := ?_) (by simp only [List.getElem?_toArray, List.getElem?_cons_succ, List.getElem?_cons_zero]; rfl) (by kernel_rfl) (by kernel_rfl) (by kernel_rfl) (by intro _ _ _ h_; exact h_) (Or.inl ⟨by rfl, ?_⟩) (by assumption) ?_
  rotate_left 1
  focus (intro w_ hSw_; obtain ⟨y0, y1, y2, y3, y4, y5, y6, y7⟩ := hSw_; try go_simp; try with_reducible rfl)
  simp only [Act.put, List.setIfInBounds_toArray, List.set_cons_zero, List.set_cons_succ]
  refine wpAnyH_take (i := 2) (v := ?_) (by simp only [List.getElem?_toArray, List.getElem?_cons_succ, List.getElem?_cons_zero]; rfl) (by kernel_rfl) (by kernel_rfl) (by kernel_rfl) (by intro _ _ _ h_; exact h_) (Or.inl ⟨by rfl, ?_⟩) (by assumption) ?_
  rotate_left 1
  focus (intro w_ hSw_; try go_simp; try with_reducible rfl)
  simp only [Act.put, List.setIfInBounds_toArray, List.set_cons_zero, List.set_cons_succ]
  refine wpAnyH_take (i := 3) (v := ?_) (by simp only [List.getElem?_toArray, List.getElem?_cons_succ, List.getElem?_cons_zero]; rfl) (by kernel_rfl) (by kernel_rfl) (by kernel_rfl) (by intro _ _ _ h_; exact h_) (Or.inl ⟨by rfl, ?_⟩) (by assumption) ?_
  rotate_left 1
  focus (intro w_ hSw_; obtain ⟨y0, y1, y2, y3, y4, y5, y6, y7⟩ := hSw_; try go_simp; try with_reducible rfl)
  simp only [Act.put, List.setIfInBounds_toArray, List.set_cons_zero, List.set_cons_succ]
  refine wpAnyH_take (i := 4) (v := ?_) (by simp only [List.getElem?_toArray, List.getElem?_cons_succ, List.getElem?_cons_zero]; rfl) (by kernel_rfl) (by kernel_rfl) (by kernel_rfl) (by intro _ _ _ h_; exact h_) (Or.inl ⟨by rfl, ?_⟩) (by assumption) ?_
  rotate_left 1
  focus (intro w_ hSw_; try go_simp; try with_reducible rfl)
  simp only [Act.put, List.setIfInBounds_toArray, List.set_cons_zero, List.set_cons_succ]
  refine wpAnyH_take (i := 5) (v := ?_) (by simp only [List.getElem?_toArray, List.getElem?_cons_succ, List.getElem?_cons_zero]; rfl) (by kernel_rfl) (by kernel_rfl) (by kernel_rfl) (by intro _ _ _ h_; exact h_) (Or.inl ⟨by rfl, ?_⟩) (by assumption) ?_
  rotate_left 1
  focus (intro w_ hSw_; obtain ⟨y0, y1, y2, y3, y4, y5, y6, y7⟩ := hSw_; try go_simp; try with_reducible rfl)
  simp only [Act.put, List.setIfInBounds_toArray, List.set_cons_zero, List.set_cons_succ]
  refine wpAnyH_ready (rs := [6]) (by kernel_rfl) (by simp) ?_
  refine AllReadyH.cons (by simp only [List.getElem?_toArray, List.getElem?_cons_succ, List.getElem?_cons_zero]; rfl) (fun K hK => ?_) AllReadyH.nil
  go_simp
  refine hK.out _ _ (HS.out _ (HBa.out _)) (fun hHeld => ?_)
  clear hK K
  try simp only [Act.put, List.setIfInBounds_toArray, List.set_cons_zero, List.set_cons_succ]
  refine wpAnyH_ready (rs := [7]) (by kernel_rfl) (by simp) ?_
  refine AllReadyH.cons (by simp only [List.getElem?_toArray, List.getElem?_cons_succ, List.getElem?_cons_zero]; rfl) (fun K hK => ?_) AllReadyH.nil
  go_simp
  refine hK.out _ _ (HS.out _ (HBa.out _)) (fun hHeld => ?_)
  clear hK K
  try simp only [Act.put, List.setIfInBounds_toArray, List.set_cons_zero, List.set_cons_succ]
  refine wpAnyH_take (i := 8) (v := ?_) (by simp only [List.getElem?_toArray, List.getElem?_cons_succ, List.getElem?_cons_zero]; rfl) (by kernel_rfl) (by kernel_rfl) (by kernel_rfl) (by intro _ _ _ h_; exact h_) (Or.inl ⟨by rfl, ?_⟩) (by assumption) ?_
  rotate_left 1
  focus (intro w_ hSw_; try go_simp; try with_reducible rfl)
  simp only [Act.put, List.setIfInBounds_toArray, List.set_cons_zero, List.set_cons_succ]
  refine wpAnyH_take (i := 9) (v := ?_) (by simp only [List.getElem?_toArray, List.getElem?_cons_succ, List.getElem?_cons_zero]; rfl) (by kernel_rfl) (by kernel_rfl) (by kernel_rfl) (by intro _ _ _ h_; exact h_) (Or.inl ⟨by rfl, ?_⟩) (by assumption) ?_
  rotate_left 1
  focus (intro w_ hSw_; try go_simp; try with_reducible rfl)
  simp only [Act.put, List.setIfInBounds_toArray, List.set_cons_zero, List.set_cons_succ]
  refine wpAnyH_done (by kernel_rfl) ?_ _
  have HY := Lib.hid ((HB.new w1 (mec m) 26).drn (⟨1, rfl⟩ : Drn _ (w1.alloc (.cells (mec m).toArray 26)).drew))
  have HB2 := Lib.hid (show Below w1.heap.size w1 (w1.alloc (.cells (mec m).toArray 26)).drew from HBa.out _)
  have HX2 := Lib.hid (HX.out.later HB2.out)
  obtain ⟨w2, hw2⟩ : ∃ w2, (w1.alloc (.cells (mec m).toArray 26)).drew = w2 := ⟨_, rfl⟩
  rw [hw2] at HY HB2 HX2
  unfold mec at hw2
  rw [hw2]
  obtain ⟨Y, hY⟩ : ∃ Y, w1.heap.size = Y := ⟨_, rfl⟩
  rw [hY] at HY ⊢
  have HBy := Lib.hid (HB1.out.trans (HB2.out.mono HB1.out.size))
  have HYl : Hid (W.heap.size ≤ Y) := Lib.hid (by rw [← hY]; exact HB1.out.size)
  have x6 := (CrX.of HX2.out).c6
  obtain ⟨y0, y1, y2, y3, y4⟩ := Five.of HY.out
  clear HB1 HB2 HS HBa hz5 hHeld hd0 hw1 hw2 HX hX hY
  go_wp2_with fail
  refine (pick_any kd 5 _ Hs.out.2.2 (by decide) (by decide)).mono ?_
  rintro e w3 ⟨rfl, rfl⟩
  obtain ⟨k, hk⟩ : ∃ k : Nat, pickN kd 5 = (k : Int) := ⟨(pickN kd 5).toNat, (Int.toNat_of_nonneg (pickN_nonneg (by decide))).symm⟩
  have hk5 : k < 5 := by have := pickN_lt (c := kd) (n := 5) (by decide); omega
  rw [hk]
  have Hk5 := Lib.hid hk5
  clear hk hk5
  cases hrt : rightM m
  case false =>
    have Hmd := Lib.hid (fun w => made_bad m cp w hrt Hs.out.2.1)
    have He := Lib.hid (fun w => enc_bad m w hrt)
    unfold mev at Hmd He
    clear hrt
    go_wp2_with fail
    refine (Hmd.out _).mono ?_
    rintro e w3 ⟨rfl, hb3⟩
    have HY3 := Lib.hid (HY.out.later hb3)
    have HB3 := Lib.hid (HBy.out.trans (hb3.mono HBy.out.size))
    clear y0 y1 y2 y3 y4 x6 hb3 HY HBy
    obtain ⟨y0, y1, y2, y3, y4⟩ := Five.of HY3.out
    go_wp2_with fail
    refine (Hmd.out _).mono ?_
    rintro e w4 ⟨rfl, hb4⟩
    have HY4 := Lib.hid (HY3.out.later hb4)
    have HB4 := Lib.hid (HB3.out.trans (hb4.mono HB3.out.size))
    clear y0 y1 y2 y3 y4 hb4 HY3 HB3
    obtain ⟨y0, y1, y2, y3, y4⟩ := Five.of HY4.out
    go_wp2_with fail
    refine (He.out _).mono ?_
    rintro e w5 ⟨rfl, hb5⟩
    have HB5 := Lib.hid (HB4.out.trans (hb5.mono HB4.out.size))
    clear y0 y1 y2 y3 y4 hb5 HY4 HB4
    go_wp2_with fail
    refine (alive_any _).mono ?_
    rintro e w6 ⟨rfl, hb6⟩
    have HB6 := Lib.hid (HB5.out.trans (hb6.mono HB5.out.size))
    clear hb6 HB5
    go_wp2_with fail
    go_ret
    exact ⟨rfl, HB6.out⟩
  have hK : pickN cp 2 = 0 ∨ pickN cp 2 = 1 := by
    have h0 := pickN_nonneg (c := cp) (n := 2) (by decide)
    have h1 := pickN_lt (c := cp) (n := 2) (by decide)
    omega
  have Hmd := Lib.hid (fun w => made_ok m cp w hrt Hs.out.1 Hs.out.2.1)
  simp only [fM_eq] at Hmd
  generalize pickN cp 2 = K at *
  have Hcr := crashed (opN k) m K d hrt Hs.out.1 hK
  have Hd0 := fun u p mb w h => Lib.hid (do_any k Hk5.out u p mb 1 s10 (cfl m K 0 false) w h (by decide) (by simp [cfl]) (by simp [cfl]))
  have Hd1 := fun u p mb w h => Lib.hid (do_any k Hk5.out u p mb 1 s10 (cfl m K 1 d) w h (by decide) (by simp [cfl]) (by simp [cfl]))
  have hct : cutR (cfl m K 0 false) 1 d = (cfl m K 1 d, 0) := rfl
  simp only [show s10.meta' = 0 from rfl] at Hd0 Hd1
  obtain ⟨T0, hT0⟩ : ∃ T, chgF (opN k) (cfl m K 0 false) 0 = T := ⟨_, rfl⟩
  obtain ⟨T1, hT1⟩ : ∃ T, chgF (opN k) (cfl m K 1 d) 0 = T := ⟨_, rfl⟩
  simp only [hT0] at Hd0
  simp only [hT1] at Hd1
  obtain ⟨beh, is, kb, ki, h1, h2, h3⟩ := Hcr.x
  rw [hT0] at h1
  rw [hT1] at h2
  rw [hT0, hT1] at h3
  clear hT0 hT1 Hcr hK hrt
  have Hp := fun (_ : Unit) => Lib.hid (And.intro h1 (And.intro h2 h3))
  have Hct := fun (_ : Unit) => Lib.hid hct
  obtain ⟨F0, hF0⟩ : ∃ F, cfl m K 0 false = F := ⟨_, rfl⟩
  simp only [hF0] at Hmd Hd0 Hct
  have HF0 := fun (_ : Unit) => Lib.hid hF0
  obtain ⟨F1, hF1⟩ : ∃ F, cfl m K 1 d = F := ⟨_, rfl⟩
  simp only [hF1] at Hd1 Hct
  have HF1 := fun (_ : Unit) => Lib.hid hF1
  clear h1 h2 h3 hct hF0 hF1
  unfold mev at Hmd
  go_wp2_with fail
  refine (Hmd.out _).mono ?_
  rintro e w3 ⟨p, u, mb, rfl, hU, hp, hmb, hu, hb3⟩
  have HY3 := Lib.hid (HY.out.later hb3)
  have HB3 := Lib.hid (HBy.out.trans (hb3.mono HBy.out.size))
  have HU3 := fun (_ : Unit) => Lib.hid hU
  have HO3 := Lib.hid (show W.heap.size ≤ p ∧ W.heap.size ≤ mb ∧ W.heap.size ≤ u ∧ Y < p ∧ Y < mb ∧ p < w3.heap.size ∧ mb < w3.heap.size ∧ u < w3.heap.size from ⟨Nat.le_trans HBy.out.size hp, Nat.le_trans HBy.out.size hmb, Nat.le_trans HBy.out.size hu, Nat.lt_of_lt_of_le HY.out.lt hp, Nat.lt_of_lt_of_le HY.out.lt hmb, hU.lt.2.1, hU.lt.2.2, hU.lt.1⟩)
  clear y0 y1 y2 y3 y4 x6 hb3 HY HBy hU hp hmb hu
  obtain ⟨y0, y1, y2, y3, y4⟩ := Five.of HY3.out
  go_wp2_with fail
  refine (Hmd.out _).mono ?_
  rintro e w4 ⟨p', u', mb', rfl, hU, hp, hmb, hu, hb4⟩
  have HY4 := Lib.hid (HY3.out.later hb4)
  have HB4 := Lib.hid (HB3.out.trans (hb4.mono HB3.out.size))
  have HV4 := fun (_ : Unit) => Lib.hid hU
  have Hdo := fun (_ : Unit) => Lib.hid (Hd0 u p mb w4 ((HU3 ()).out.later hb4)).out
  have HO4 := Lib.hid (show w3.heap.size ≤ p' ∧ w3.heap.size ≤ mb' ∧ w3.heap.size ≤ u' ∧ p' < w4.heap.size ∧ mb' < w4.heap.size ∧ u' < w4.heap.size from ⟨hp, hmb, hu, hU.lt.2.1, hU.lt.2.2, hU.lt.1⟩)
  clear y0 y1 y2 y3 y4 hb4 HY3 HB3 hU hp hmb hu Hd0 HU3
  go_wp2_with fail
  refine (Hdo ()).out.mono ?_
  rintro e w5 ⟨rfl, hu5, hf5⟩
  have HY5 := Lib.hid (HY4.out.frm hf5 (fun e => by have := HO3.out; omega))
  have HB5 := Lib.hid (HB4.out.trans (hf5.below HB4.out.size (fun q hq => by have := HO3.out; omega)))
  have HV5 := fun (_ : Unit) => Lib.hid (UpA.frm (HV4 ()).out hf5 (fun e => by have := HO3.out; have := HO4.out; omega) (fun e => by have := HO3.out; have := HO4.out; omega) (fun e => by have := HO3.out; have := HO4.out; omega))
  have Hlo := fun (_ : Unit) => Lib.hid (load_any u p mb 2 s10 T0.1 w5 hu5)
  have HO5 := Lib.hid (show p' < w5.heap.size ∧ mb' < w5.heap.size from ⟨Nat.lt_of_lt_of_le HO4.out.2.2.2.1 hf5.size, Nat.lt_of_lt_of_le HO4.out.2.2.2.2.1 hf5.size⟩)
  clear hu5 hf5 Hdo HY4 HB4 HV4
  go_wp2_with fail
  refine (Hlo ()).out.mono ?_
  rw [show s10.meta' = 0 from rfl, (Hp ()).out.1]
  rintro e w6 ⟨rfl, hb6⟩
  unfold loadV mev
  dsimp only
  have HN := Lib.hid (HB.new w6 (mec beh) 26)
  have hb7 := hb6.trans (((Below.refl w6.heap.size w6).alloc (Nat.le_refl _) (.cells (mec beh).toArray 26)).mono hb6.size)
  obtain ⟨w7, hw7⟩ : ∃ w7, w6.alloc (.cells (mec beh).toArray 26) = w7 := ⟨_, rfl⟩
  rw [hw7] at HN hb7
  unfold mec at hw7
  have HNl := Lib.hid (show p' < w6.heap.size ∧ mb' < w6.heap.size from ⟨Nat.lt_of_lt_of_le HO5.out.1 hb6.size, Nat.lt_of_lt_of_le HO5.out.2 hb6.size⟩)
  obtain ⟨N, hN⟩ : ∃ N, w6.heap.size = N := ⟨_, rfl⟩
  rw [hN] at HN HNl
  have HY7 := Lib.hid (HY5.out.later hb7)
  have HB7 := Lib.hid (HB5.out.trans (hb7.mono HB5.out.size))
  have HV7 := fun (_ : Unit) => Lib.hid ((HV5 ()).out.later hb7)
  have Hcu := fun (_ : Unit) => Lib.hid (cut_any p' mb' 1 F0 1 d w7 ((HV5 ()).out.later hb7).fl (HV5 ()).out.ok)
  simp only [(Hct ()).out] at Hcu
  clear hb6 hb7 HY5 HB5 HV5 Hlo HO5
  go_wp2_with fail
  refine (Hcu ()).out.mono ?_
  rintro e w8 ⟨rfl, hf8, hg8⟩
  have hF1 : F1.Ok := by
    have h := (HV7 ()).out.ok
    rw [← (HF0 ()).out] at h
    rw [← (HF1 ()).out]
    exact ⟨h.s0, h.s1, by simp [cfl], by simp [cfl], h.b⟩
  have hsz : F1.size = F0.size := by rw [← (HF0 ()).out, ← (HF1 ()).out]; rfl
  have hv8 : UpA w8 u' p' mb' 1 s10 F1 := ⟨(HV7 ()).out.h.grown hg8 (fun e => (HV7 ()).out.n1 (Option.some.inj e)), hf8, hF1, by rw [hsz]; exact (HV7 ()).out.up, (HV7 ()).out.i, (HV7 ()).out.n1, (HV7 ()).out.n2⟩
  have Hdo := fun (_ : Unit) => Lib.hid (Hd1 u' p' mb' w8 hv8).out
  have HG8 := Lib.hid (Frm.grown (K := fun q => q = p' ∨ q = mb') hg8 (fun k hk => by cases hk; exact .inl rfl))
  clear hf8 hg8 hF1 hsz hv8 HV7 Hcu Hct Hmd HF0 HF1 Hd1 hw7
  go_wp2_with fail
  refine (Hdo ()).out.mono ?_
  rintro e w9 ⟨rfl, hv9, hf9⟩
  have HG9 := Lib.hid (HG8.out.trans hf9)
  have HV9 := fun (_ : Unit) => Lib.hid hv9
  have Hon := fun (_ : Unit) => Lib.hid (on_any p' mb' 2 T1.1 w9 hv9.fl)
  have Hpw := fun (_ : Unit) => Lib.hid (power_any p' mb' 2 T1.1 w9 hv9.fl)
  clear hv9 hf9 Hdo HG8
  obtain ⟨-, hp2, hp3⟩ := (Hp ()).out
  have Hp2 := fun (_ : Unit) => Lib.hid hp2
  clear hp2 Hp
  rcases hp3 with ⟨q1, q2, q3, q4⟩ | ⟨q1, q2, q3, q4⟩
  · rw [q2]
    simp only [q1, Bool.not_true] at Hon
    clear q1 q2
    cases d with
    | true =>
      have q5 := q3 rfl
      subst q5
      clear q3 q4
      go_wp2_with fail
      refine (Hon ()).out.mono ?_
      rintro e wn ⟨rfl, rfl⟩
      go_wp2_with fail
      refine (Hpw ()).out.mono ?_
      rintro e wp ⟨rfl, hfp, hgp⟩
      have hvp : UpA wp u' p' mb' 2 s10 (powerR T1.1) := ⟨(HV9 ()).out.h.grown hgp (fun e => (HV9 ()).out.n1 (Option.some.inj e)), hfp, ⟨(HV9 ()).out.ok.s0, (HV9 ()).out.ok.s1, by simp [powerR], by simp [powerR], (HV9 ()).out.ok.b⟩, (HV9 ()).out.up, (HV9 ()).out.i, (HV9 ()).out.n1, (HV9 ()).out.n2⟩
      have HGp := Lib.hid (HG9.out.trans (Frm.grown (K := fun q => q = p' ∨ q = mb') hgp (fun k hk => by cases hk; exact .inl rfl)))
      have Hlq := fun (_ : Unit) => Lib.hid (load_any u' p' mb' 2 s10 (powerR T1.1) wp hvp)
      clear hfp hgp hvp HV9 Hpw Hon HG9
      go_wp2_with fail
      refine (Hlq ()).out.mono ?_
      rw [show s10.meta' = 0 from rfl, (Hp2 ()).out]
      rintro e wq ⟨rfl, hbq⟩
      unfold loadV mev
      dsimp only
      have HGq := Lib.hid (HGp.out.trans (Frm.later hbq))
      clear hbq Hlq HGp Hp2
      have HZ := Lib.hid (HB.new wq (mec is) 26)
      have HGr := Lib.hid (HGq.out.alloc (.cells (mec is).toArray 26))
      obtain ⟨wr, hwr⟩ : ∃ wr, wq.alloc (.cells (mec is).toArray 26) = wr := ⟨_, rfl⟩
      rw [hwr] at HZ HGr
      unfold mec at hwr
      obtain ⟨Z, hZ⟩ : ∃ Z, wq.heap.size = Z := ⟨_, rfl⟩
      rw [hZ] at HZ
      have HBr := Lib.hid (HB7.out.trans (HGr.out.below HB7.out.size (fun q hq => by have := HO3.out; have := HO4.out; omega)))
      have HNr := Lib.hid (HN.out.frm HGr.out (fun e => by have := HNl.out; omega))
      have HYr := Lib.hid (HY7.out.frm HGr.out (fun e => by have := HO3.out; have := HO4.out; omega))
      clear HGq HGr HB7 HN HY7 HO3 HO4 HNl HX2 hHeld
      go_wp2_with fail
      refine (alive_any _).mono ?_
      rintro e ws ⟨rfl, hbs⟩
      have HZs := Lib.hid (HZ.out.later hbs)
      have HNs := Lib.hid (HNr.out.later hbs)
      have HYs := Lib.hid (HYr.out.later hbs)
      have HBs := Lib.hid (HBr.out.trans (hbs.mono HBr.out.size))
      clear hbs HZ HNr HYr HBr hwr
      obtain ⟨z0, z1, z2, z3, z4⟩ := Five.of HZs.out
      obtain ⟨n0, n1, n2, n3, n4⟩ := Five.of HNs.out
      obtain ⟨y0, y1, y2, y3, y4⟩ := Five.of HYs.out
      have heq := fun w => me_equal is is w
      rw [decide_eq_true rfl] at heq
      have hguard : Try.prog.eqGuardType Try.prog.depth 26 = false := by kernel_rfl
      go_wp2_with fail
      go_ret
      exact ⟨rfl, HBs.out⟩
    | false =>
      have q5 := q4 rfl
      subst q5
      clear q3 q4
      go_wp2_with fail
      refine (Hon ()).out.mono ?_
      rintro e wn ⟨rfl, rfl⟩
      go_wp2_with fail
      refine (Hpw ()).out.mono ?_
      rintro e wp ⟨rfl, hfp, hgp⟩
      have hvp : UpA wp u' p' mb' 2 s10 (powerR T1.1) := ⟨(HV9 ()).out.h.grown hgp (fun e => (HV9 ()).out.n1 (Option.some.inj e)), hfp, ⟨(HV9 ()).out.ok.s0, (HV9 ()).out.ok.s1, by simp [powerR], by simp [powerR], (HV9 ()).out.ok.b⟩, (HV9 ()).out.up, (HV9 ()).out.i, (HV9 ()).out.n1, (HV9 ()).out.n2⟩
      have HGp := Lib.hid (HG9.out.trans (Frm.grown (K := fun q => q = p' ∨ q = mb') hgp (fun k hk => by cases hk; exact .inl rfl)))
      have Hlq := fun (_ : Unit) => Lib.hid (load_any u' p' mb' 2 s10 (powerR T1.1) wp hvp)
      clear hfp hgp hvp HV9 Hpw Hon HG9
      go_wp2_with fail
      refine (Hlq ()).out.mono ?_
      rw [show s10.meta' = 0 from rfl, (Hp2 ()).out]
      rintro e wq ⟨rfl, hbq⟩
      unfold loadV mev
      dsimp only
      have HGq := Lib.hid (HGp.out.trans (Frm.later hbq))
      clear hbq Hlq HGp Hp2
      have HZ := Lib.hid (HB.new wq (mec is) 26)
      have HGr := Lib.hid (HGq.out.alloc (.cells (mec is).toArray 26))
      obtain ⟨wr, hwr⟩ : ∃ wr, wq.alloc (.cells (mec is).toArray 26) = wr := ⟨_, rfl⟩
      rw [hwr] at HZ HGr
      unfold mec at hwr
      obtain ⟨Z, hZ⟩ : ∃ Z, wq.heap.size = Z := ⟨_, rfl⟩
      rw [hZ] at HZ
      have HBr := Lib.hid (HB7.out.trans (HGr.out.below HB7.out.size (fun q hq => by have := HO3.out; have := HO4.out; omega)))
      have HNr := Lib.hid (HN.out.frm HGr.out (fun e => by have := HNl.out; omega))
      have HYr := Lib.hid (HY7.out.frm HGr.out (fun e => by have := HO3.out; have := HO4.out; omega))
      clear HGq HGr HB7 HN HY7 HO3 HO4 HNl HX2 hHeld
      go_wp2_with fail
      refine (alive_any _).mono ?_
      rintro e ws ⟨rfl, hbs⟩
      have HZs := Lib.hid (HZ.out.later hbs)
      have HNs := Lib.hid (HNr.out.later hbs)
      have HYs := Lib.hid (HYr.out.later hbs)
      have HBs := Lib.hid (HBr.out.trans (hbs.mono HBr.out.size))
      clear hbs HZ HNr HYr HBr hwr
      obtain ⟨z0, z1, z2, z3, z4⟩ := Five.of HZs.out
      obtain ⟨n0, n1, n2, n3, n4⟩ := Five.of HNs.out
      obtain ⟨y0, y1, y2, y3, y4⟩ := Five.of HYs.out
      have heq := fun w => me_equal is is w
      rw [decide_eq_true rfl] at heq
      have hguard : Try.prog.eqGuardType Try.prog.depth 26 = false := by kernel_rfl
      go_wp2_with fail
      go_ret
      exact ⟨rfl, HBs.out⟩
  · rw [q2]
    simp only [q1, Bool.not_false] at Hon
    subst q4
    subst q3
    clear q1 q2
    go_wp2_with fail
    refine (Hon ()).out.mono ?_
    rintro e wn ⟨rfl, rfl⟩
    go_wp2_with fail
    refine (Hpw ()).out.mono ?_
    rintro e wp ⟨rfl, hfp, hgp⟩
    have hvp : UpA wp u' p' mb' 2 s10 (powerR T1.1) := ⟨(HV9 ()).out.h.grown hgp (fun e => (HV9 ()).out.n1 (Option.some.inj e)), hfp, ⟨(HV9 ()).out.ok.s0, (HV9 ()).out.ok.s1, by simp [powerR], by simp [powerR], (HV9 ()).out.ok.b⟩, (HV9 ()).out.up, (HV9 ()).out.i, (HV9 ()).out.n1, (HV9 ()).out.n2⟩
    have HGp := Lib.hid (HG9.out.trans (Frm.grown (K := fun q => q = p' ∨ q = mb') hgp (fun k hk => by cases hk; exact .inl rfl)))
    have Hlq := fun (_ : Unit) => Lib.hid (load_any u' p' mb' 2 s10 (powerR T1.1) wp hvp)
    clear hfp hgp hvp HV9 Hpw Hon HG9
    go_wp2_with fail
    refine (Hlq ()).out.mono ?_
    rw [show s10.meta' = 0 from rfl, (Hp2 ()).out]
    rintro e wq ⟨rfl, hbq⟩
    unfold loadV mev
    dsimp only
    have HGq := Lib.hid (HGp.out.trans (Frm.later hbq))
    clear hbq Hlq HGp Hp2
    have HZ := Lib.hid (HB.new wq (mec is) 26)
    have HGr := Lib.hid (HGq.out.alloc (.cells (mec is).toArray 26))
    obtain ⟨wr, hwr⟩ : ∃ wr, wq.alloc (.cells (mec is).toArray 26) = wr := ⟨_, rfl⟩
    rw [hwr] at HZ HGr
    unfold mec at hwr
    obtain ⟨Z, hZ⟩ : ∃ Z, wq.heap.size = Z := ⟨_, rfl⟩
    rw [hZ] at HZ
    have HBr := Lib.hid (HB7.out.trans (HGr.out.below HB7.out.size (fun q hq => by have := HO3.out; have := HO4.out; omega)))
    have HNr := Lib.hid (HN.out.frm HGr.out (fun e => by have := HNl.out; omega))
    have HYr := Lib.hid (HY7.out.frm HGr.out (fun e => by have := HO3.out; have := HO4.out; omega))
    clear HGq HGr HB7 HN HY7 HO3 HO4 HNl HX2 hHeld
    go_wp2_with fail
    refine (alive_any _).mono ?_
    rintro e ws ⟨rfl, hbs⟩
    have HZs := Lib.hid (HZ.out.later hbs)
    have HNs := Lib.hid (HNr.out.later hbs)
    have HYs := Lib.hid (HYr.out.later hbs)
    have HBs := Lib.hid (HBr.out.trans (hbs.mono HBr.out.size))
    clear hbs HZ HNr HYr HBr hwr
    obtain ⟨z0, z1, z2, z3, z4⟩ := Five.of HZs.out
    obtain ⟨n0, n1, n2, n3, n4⟩ := Five.of HNs.out
    obtain ⟨y0, y1, y2, y3, y4⟩ := Five.of HYs.out
    have heq := fun w => me_equal is is w
    rw [decide_eq_true rfl] at heq
    have hguard : Try.prog.eqGuardType Try.prog.depth 26 = false := by kernel_rfl
    go_wp2_with fail
    go_ret
    exact ⟨rfl, HBs.out⟩
set_option maxRecDepth 100000 in
theorem walk {H : Type} (enc : TypeId × Value → H) (W : World) (base : Nat) (v0 : Value) (d0 : DataW H) (p0 : List MemPlace)
    (k0 : Value.okWide Try.prog W .any base 54 v0)
    (h0 : DataW.Trod enc Try.prog W 0 (fun _ => true) true 54 v0 d0 p0)
    (hsz : (DataW.weightsEach Try.prog [54] ([d0] ++ [])).all (· ≤ reachBytes) = true) :
    Calls Try.prog 6 #[v0] W fun e w' => e = .returned (.bool true) ∧ Below W.heap.size W w' := by
  obtain ⟨cs_, xs_, n_, rfl, hsz_, rfl, hxl_, hf_⟩ := open_struct Try.underlying54 k0 h0
  obtain ⟨b0, b1, b2, b3, b4, b5, b6, b7, rfl⟩ : ∃ b0 b1 b2 b3 b4 b5 b6 b7, cs_ = #[b0, b1, b2, b3, b4, b5, b6, b7] := by
    obtain ⟨l_⟩ := cs_
    have hl_ : l_.length = 8 := hsz_.trans (by kernel_rfl : Try.prog.cellsOf 54 = 8)
    match l_, hl_ with
    | [b0, b1, b2, b3, b4, b5, b6, b7], _ => exact ⟨b0, b1, b2, b3, b4, b5, b6, b7, rfl⟩
  obtain ⟨y0, y1, y2, y3, rfl⟩ := lst4 (hxl_.trans rfl)
  have k1 : Try.prog.cellsOf 26 = 5 := by kernel_rfl
  have k3 : Try.prog.cellsOf 3 = 1 := by kernel_rfl
  have k4 : Try.prog.cellsOf 4 = 1 := by kernel_rfl
  have g0 := hf_ 0 _ rfl
  have g1 := hf_ 1 _ rfl
  have g2 := hf_ 2 _ rfl
  have g3 := hf_ 3 _ rfl
  simp [k1, k3, k4] at g0 g1 g2 g3
  obtain ⟨m, hm, hok⟩ := me_cells _ _ _ g0 rfl
  obtain ⟨cp, rfl, hc, hc'⟩ := trod_i64 Try.underlying3 g1
  obtain ⟨kd, rfl, hk, hk'⟩ := trod_i64 Try.underlying3 g2
  obtain ⟨d, rfl⟩ := trod_b Try.underlying4 g3
  simp only [mec, List.cons.injEq, and_true] at hm
  obtain ⟨rfl, rfl, rfl, rfl, rfl⟩ := hm
  exact core W m hok.s cp kd d ⟨hc, hc'⟩ ⟨hk, hk'⟩
end Go.Proofs.Ytnmeidmiijcniaa.fwuCrash
