/- The document's hash: State. No condition. -/
import Derived.Test.YtngkelflfahjbaaDoorShaG
import Derived.Test.YtngkelflfahjbaaDoorShaSt
set_option linter.unusedVariables false
set_option linter.unusedSimpArgs false
namespace Go.Proofs.YtngkelflfahjbaaDoor
open Go.RowKit
attribute [local go_sem ↓] Go.wp_at_zero Go.wp_at_succ ld_a st_a
structure RstIn (B hb NN : Nat) (cs : List Value) (w0 : World) (P : List UInt8) (v i : Value) (wr : World) : Prop where
  x : ∃ (j : Nat) (u : Value), j ≤ 8 ∧ i = .int .i64 ((8 : Int) - 1 - (j : Int)) ∧ u = v ∧ SuC B hb cs w0 u (P ++ topL 8 NN j) wr
structure RstC (D hb : Nat) (cs : List Value) (st2 : S8) (bo : Option Addr) (rest : List UInt8) (w wx : World) : Prop where
  d : HB wx D 63 ((s8l st2).map u64v)
  h : HB wx hb 74 cs
  r : Rd wx bo rest
  b : Below w.heap.size w wx
theorem RstC.later {D hb : Nat} {cs : List Value} {st2 : S8} {bo : Option Addr} {rest : List UInt8} {w wx wy : World} (h : RstC D hb cs st2 bo rest w wx) (hy : Below wx.heap.size wx wy) : RstC D hb cs st2 bo rest w wy :=
  ⟨h.d.later hy, h.h.later hy, h.r.below hy, h.b.trans (hy.mono h.b.size)⟩
set_option maxRecDepth 100000 in
set_option maxHeartbeats 1000000 in
theorem rstate_any (hb k : Nat) (st : S8) (N0 : Nat) (ra : Option Addr) (rn rc : Nat) (L : List UInt8) (w : World) (hk : 1 ≤ k ∧ k ≤ 3) (hH : HB w hb 74 (rhC k st N0 (.slice ra rn rc))) (hs : st.Lt (2 ^ wK k)) (hN : N0 + rn < 18446744073709551616)
    (hl : L.length = rn) (hrn : rn ≤ 140737488352000) (hnc : rn ≤ rc) (hcm : rc ≤ 9223372036854775807) (hra : ra = none → rc = 0) (hr : Rd w ra L) (hlt : ∀ a, ra = some a → a.block < w.heap.size) :
    Calls Tryd.prog 45 #[.pointer (some ⟨hb, 0, none⟩)] w fun e w' => ∃ v, e = .returned v ∧ Own 5 w' w.heap.size v (stateL k (goB (wK k) st L).1 (N0 + rn) (goB (wK k) st L).2) ∧ Below w.heap.size w w' := by
  have hlr : (goB (wK k) st L).2.length ≤ 128 := by
    have h1 := (goB_left (wK k) _ st L rfl).2
    have h2 : sizeW (wK k) ≤ 128 := by unfold sizeW; split <;> decide
    omega
  have Hlr := Lib.hid hlr
  have Hgo := Lib.hid (fun w5 (h : Below w.heap.size w w5) => goes_any k st ra rn rc L w5 hk hs hl hnc hcm (hr.below h) (fun a e => Nat.lt_of_lt_of_le (hlt a e) h.size))
  have Hk := Lib.hid hk
  have HNr := Lib.hid hN
  have Hlt := Lib.hid hlt
  have Hra := Lib.hid hra
  have HHw := Lib.hid (fun w' (h : Below w.heap.size w w') => hH.later h)
  have HSS := Lib.hid (fun w' (h : Below w.heap.size w w') => And.intro ((hH.later h).cell (rhC_k k st N0 (.slice ra rn rc))) (And.intro (run_ldA (s := st) (show w'.rangeAt hb 1 ((s8l st).map u64v) from (hH.later h).range 1 8)) ((hH.later h).cell (rhC_v k st N0 (.slice ra rn rc)))))
  have hz8 : ∀ w, (zeroValue 63).run Tryd.prog w = .ok (.agg z8L.toArray) w := fun w => by kernel_rfl
  generalize (goB (wK k) st L).1 = st2 at *
  generalize (goB (wK k) st L).2 = rest at *
  have ek := Lib.hid (ofNat_k hk)
  have Hhb := Lib.hid hH.lt
  clear hk hH hs hN hl hrn hnc hcm hra hr hlt hlr
  go_enter Tryd.func45, Tryd.ntmps45
  go_upto_region 1 with fail
  go_cut [3, 4] (fun c d wx => ∃ D bo cc, c = .pointer (some ⟨D, 0, none⟩) ∧ d = .slice bo rest.length cc ∧ (bo = none → cc = 0) ∧ RstC D hb (rhC k st N0 (.slice ra rn rc)) st2 bo rest w wx)
  case first =>
   have hd0 : Drn w w.drew := ⟨1, rfl⟩
   refine wp_region_held_drew (S := fun w' => w'.cell? ⟨hb, 0, none⟩ = some (.int .i64 k) ∧ (ldA (.pointer (some ⟨hb, 1, none⟩))).run Tryd.prog w' = .ok (.agg ((s8l st).map u64v).toArray) w' ∧ w'.cell? ⟨hb, 10, none⟩ = some (.slice ra rn rc)) (by kernel_rfl) (HSS.out _ (hd0.below _)) (fun hHeld => ?_)
   refine wpAnyH_take (i := 0) (v := ?_) (by simp only [List.getElem?_toArray, List.getElem?_cons_succ, List.getElem?_cons_zero]; rfl) (by kernel_rfl) (by kernel_rfl) (by kernel_rfl) (by intro _ _ _ h_; exact h_) (Or.inl ⟨by rfl, ?_⟩) (by assumption) ?_
   rotate_left 1
   focus (intro w_ hSw_; go_simp; try with_reducible rfl)
   simp only [Act.put, List.setIfInBounds_toArray, List.set_cons_zero, List.set_cons_succ]
   refine wpAnyH_take (i := 1) (v := ?_) (by simp only [List.getElem?_toArray, List.getElem?_cons_succ, List.getElem?_cons_zero]; rfl) (by kernel_rfl) (by kernel_rfl) (by kernel_rfl) (by intro _ _ _ h_; exact h_) (Or.inl ⟨by rfl, ?_⟩) (by assumption) ?_
   rotate_left 1
   focus (intro w_ hSw_; go_simp; try with_reducible rfl)
   simp only [Act.put, List.setIfInBounds_toArray, List.set_cons_zero, List.set_cons_succ]
   refine wpAnyH_take (i := 2) (v := ?_) (by simp only [List.getElem?_toArray, List.getElem?_cons_succ, List.getElem?_cons_zero]; rfl) (by kernel_rfl) (by kernel_rfl) (by kernel_rfl) (by intro _ _ _ h_; exact h_) (Or.inl ⟨by rfl, ?_⟩) (by assumption) ?_
   rotate_left 1
   focus (intro w_ hSw_; go_simp; try with_reducible rfl)
   simp only [Act.put, List.setIfInBounds_toArray, List.set_cons_zero, List.set_cons_succ]
   refine wpAnyH_take (i := 3) (v := ?_) (by simp only [List.getElem?_toArray, List.getElem?_cons_succ, List.getElem?_cons_zero]; rfl) (by kernel_rfl) (by kernel_rfl) (by kernel_rfl) (by intro _ _ _ h_; exact h_) (Or.inl ⟨by rfl, ?_⟩) (by assumption) ?_
   rotate_left 1
   focus (intro w_ hSw_; go_simp; try with_reducible rfl)
   simp only [Act.put, List.setIfInBounds_toArray, List.set_cons_zero, List.set_cons_succ]
   refine wpAnyH_take (i := 4) (v := ?_) (by simp only [List.getElem?_toArray, List.getElem?_cons_succ, List.getElem?_cons_zero]; rfl) (by kernel_rfl) (by kernel_rfl) (by kernel_rfl) (by intro _ _ _ h_; exact h_) (Or.inl ⟨by rfl, ?_⟩) (by assumption) ?_
   rotate_left 1
   focus (intro w_ hSw_; go_simp; try with_reducible rfl)
   simp only [Act.put, List.setIfInBounds_toArray, List.set_cons_zero, List.set_cons_succ]
   refine wpAnyH_take (i := 5) (v := ?_) (by simp only [List.getElem?_toArray, List.getElem?_cons_succ, List.getElem?_cons_zero]; rfl) (by kernel_rfl) (by kernel_rfl) (by kernel_rfl) (by intro _ _ _ h_; exact h_) (Or.inl ⟨by rfl, ?_⟩) (by assumption) ?_
   rotate_left 1
   focus (intro w_ hSw_; go_simp; try with_reducible rfl)
   simp only [Act.put, List.setIfInBounds_toArray, List.set_cons_zero, List.set_cons_succ]
   refine wpAnyH_take (i := 6) (v := ?_) (by simp only [List.getElem?_toArray, List.getElem?_cons_succ, List.getElem?_cons_zero]; rfl) (by kernel_rfl) (by kernel_rfl) (by kernel_rfl) (by intro _ _ _ h_; exact h_) (Or.inl ⟨by rfl, ?_⟩) (by assumption) ?_
   rotate_left 1
   focus (intro w_ hSw_; go_simp; try with_reducible rfl)
   simp only [Act.put, List.setIfInBounds_toArray, List.set_cons_zero, List.set_cons_succ]
   refine wpAnyH_take (i := 7) (v := ?_) (by simp only [List.getElem?_toArray, List.getElem?_cons_succ, List.getElem?_cons_zero]; rfl) (by kernel_rfl) (by kernel_rfl) (by kernel_rfl) (by intro _ _ _ h_; exact h_) (Or.inl ⟨by rfl, ?_⟩) (by assumption) ?_
   rotate_left 1
   focus (intro w_ hSw_; go_simp; try with_reducible rfl)
   simp only [Act.put, List.setIfInBounds_toArray, List.set_cons_zero, List.set_cons_succ]
   refine wpAnyH_take (i := 8) (v := ?_) (by simp only [List.getElem?_toArray, List.getElem?_cons_succ, List.getElem?_cons_zero]; rfl) (by kernel_rfl) (by kernel_rfl) (by kernel_rfl) (by intro _ _ _ h_; exact h_) (Or.inl ⟨by rfl, ?_⟩) (by assumption) ?_
   rotate_left 1
   focus (intro w_ hSw_; go_simp; try with_reducible rfl)
   simp only [Act.put, List.setIfInBounds_toArray, List.set_cons_zero, List.set_cons_succ]
   refine wpAnyH_take (i := 9) (v := ?_) (by simp only [List.getElem?_toArray, List.getElem?_cons_succ, List.getElem?_cons_zero]; rfl) (by kernel_rfl) (by kernel_rfl) (by kernel_rfl) (by intro _ _ _ h_; exact h_) (Or.inl ⟨by rfl, ?_⟩) (by assumption) ?_
   rotate_left 1
   focus (intro w_ hSw_; go_simp; try with_reducible rfl)
   simp only [Act.put, List.setIfInBounds_toArray, List.set_cons_zero, List.set_cons_succ]
   refine wpAnyH_take (i := 10) (v := ?_) (by simp only [List.getElem?_toArray, List.getElem?_cons_succ, List.getElem?_cons_zero]; rfl) (by kernel_rfl) (by kernel_rfl) (by kernel_rfl) (by intro _ _ _ h_; exact h_) (Or.inl ⟨by rfl, ?_⟩) (by assumption) ?_
   rotate_left 1
   focus (intro w_ hSw_; go_simp; try with_reducible rfl)
   simp only [Act.put, List.setIfInBounds_toArray, List.set_cons_zero, List.set_cons_succ]
   refine wpAnyH_take (i := 11) (v := ?_) (by simp only [List.getElem?_toArray, List.getElem?_cons_succ, List.getElem?_cons_zero]; rfl) (by kernel_rfl) (by kernel_rfl) (by kernel_rfl) (by intro _ _ _ h_; exact h_) (Or.inl ⟨by rfl, ?_⟩) (by assumption) ?_
   rotate_left 1
   focus (intro w_ hSw_; go_simp; try with_reducible rfl)
   simp only [Act.put, List.setIfInBounds_toArray, List.set_cons_zero, List.set_cons_succ]
   refine wpAnyH_ready (rs := [12, 16]) (by kernel_rfl) (by simp) ?_
   refine AllReadyH.cons (by simp only [List.getElem?_toArray, List.getElem?_cons_succ, List.getElem?_cons_zero]; rfl) (fun K hK => ?_) (AllReadyH.cons (by simp only [List.getElem?_toArray, List.getElem?_cons_succ, List.getElem?_cons_zero]; rfl) (fun K hK => ?_) AllReadyH.nil)
   · go_simp
     refine (Hgo.out _ (hd0.below _)).mono ?_
     rintro e w5 ⟨bo, c, rfl, -, hcc, hrb, hbo, hbn, hb5⟩
     have hcz : bo = none → c = 0 := fun e => by have := Hra.out (hbn e); omega
     have hB5 : Below w.heap.size w w5 := (hd0.below _).trans hb5
     go_wp2_with fail
     refine hK.out _ _ (HSS.out _ hB5) (fun hHeld => ?_)
     clear hK K hHeld
     try simp only [Act.put, List.setIfInBounds_toArray, List.set_cons_zero, List.set_cons_succ]
     have hHeld := HSS.out _ hB5
     refine wpAnyH_take (i := 13) (v := ?_) (by simp only [List.getElem?_toArray, List.getElem?_cons_succ, List.getElem?_cons_zero]; rfl) (by kernel_rfl) (by kernel_rfl) (by kernel_rfl) (by intro _ _ _ h_; exact h_) (Or.inl ⟨by rfl, ?_⟩) (by assumption) ?_
     rotate_left 1
     focus (intro w_ hSw_; go_simp; try with_reducible rfl)
     simp only [Act.put, List.setIfInBounds_toArray, List.set_cons_zero, List.set_cons_succ]
     refine wpAnyH_take (i := 14) (v := ?_) (by simp only [List.getElem?_toArray, List.getElem?_cons_succ, List.getElem?_cons_zero]; rfl) (by kernel_rfl) (by kernel_rfl) (by kernel_rfl) (by intro _ _ _ h_; exact h_) (Or.inl ⟨by rfl, ?_⟩) (by assumption) ?_
     rotate_left 1
     focus (intro w_ hSw_; go_simp; try with_reducible rfl)
     simp only [Act.put, List.setIfInBounds_toArray, List.set_cons_zero, List.set_cons_succ]
     refine wpAnyH_take (i := 15) (v := ?_) (by simp only [List.getElem?_toArray, List.getElem?_cons_succ, List.getElem?_cons_zero]; rfl) (by kernel_rfl) (by kernel_rfl) (by kernel_rfl) (by intro _ _ _ h_; exact h_) (Or.inl ⟨by rfl, ?_⟩) (by assumption) ?_
     rotate_left 1
     focus (intro w_ hSw_; go_simp; try with_reducible rfl)
     simp only [Act.put, List.setIfInBounds_toArray, List.set_cons_zero, List.set_cons_succ]
     have HDn := Lib.hid (HB.new w5 z8L 63)
     have l2 := run_stA (s := st2) HDn.out rfl
     refine wpAnyH_ready (rs := [16]) (by kernel_rfl) (by simp) ?_
     refine AllReadyH.cons (by simp only [List.getElem?_toArray, List.getElem?_cons_succ, List.getElem?_cons_zero]; rfl) (fun K hK => ?_) AllReadyH.nil
     go_simp
     refine hK.out _ _ (HSS.out _ (hB5.alloc hB5.size _)) (fun hHeld => ?_)
     clear hK K hHeld
     try simp only [Act.put, List.setIfInBounds_toArray, List.set_cons_zero, List.set_cons_succ]
     have hHeld := HSS.out _ (hB5.alloc hB5.size (.cells z8L.toArray 63))
     have HD9 : Hid (HB ((w5.alloc (.cells z8L.toArray 63)).setRow w5.heap.size ((s8l st2).map u64v).toArray) w5.heap.size 63 ((s8l st2).map u64v)) := Lib.hid (setRow_heap _ _ _ _ _ _ HDn.out)
     have h59 : Below w5.heap.size w5 ((w5.alloc (.cells z8L.toArray 63)).setRow w5.heap.size ((s8l st2).map u64v).toArray) := ((Below.refl _ w5).alloc (Nat.le_refl _) (.cells z8L.toArray 63)).grown (grown_row (w5.alloc (.cells z8L.toArray 63)) w5.heap.size ((s8l st2).map u64v).toArray) (by simp) (fun x hx => by have := Option.some.inj hx; omega)
     have HB9 := Lib.hid (hB5.trans (h59.mono hB5.size))
     have Hrd9 := Lib.hid (hrb.below h59)
     refine wpAnyH_ready (rs := [17]) (by kernel_rfl) (by simp) ?_
     refine AllReadyH.cons (by simp only [List.getElem?_toArray, List.getElem?_cons_succ, List.getElem?_cons_zero]; rfl) (fun K hK => ?_) AllReadyH.nil
     go_simp
     refine hK.out _ _ (HSS.out _ HB9.out) (fun hHeld => ?_)
     clear hK K
     refine wpAnyH_take (i := 18) (v := ?_) (by simp only [List.getElem?_toArray, List.getElem?_cons_succ, List.getElem?_cons_zero]; rfl) (by kernel_rfl) (by kernel_rfl) (by kernel_rfl) (by intro _ _ _ h_; exact h_) (Or.inl ⟨by rfl, ?_⟩) (by assumption) ?_
     rotate_left 1
     focus (intro w_ hSw_; go_simp; try with_reducible rfl)
     simp only [Act.put, List.setIfInBounds_toArray, List.set_cons_zero, List.set_cons_succ]
     refine wpAnyH_done (by kernel_rfl) ?_ _
     have HRC := Lib.hid (RstC.mk HD9.out (HHw.out _ HB9.out) Hrd9.out HB9.out)
     clear l2 HDn hHeld hB5 hb5 hz8 Hgo h59 hrb hbo HD9 HB9 Hrd9
     generalize (w5.alloc (.cells z8L.toArray 63)).setRow w5.heap.size ((s8l st2).map u64v).toArray = w9 at *
     generalize w5.heap.size = D at *
     go_wp2_with fail
     go_meet
     case rel => exact ⟨_, _, _, rfl, rfl, hcz, HRC.out⟩
   · have hHeld2 := HSS.out _ ((hd0.below w.heap.size).alloc (Nat.le_refl _) (.cells z8L.toArray 63))
     have HDn : Hid (HB (w.drew.alloc (.cells z8L.toArray 63)) w.heap.size 63 z8L) := Lib.hid (HB.new w.drew z8L 63)
     go_simp
     refine hK.out _ _ hHeld2 (fun hHeld => ?_)
     clear hK K hHeld
     try simp only [Act.put, List.setIfInBounds_toArray, List.set_cons_zero, List.set_cons_succ]
     have hHeld := hHeld2
     refine wpAnyH_ready (rs := [12]) (by kernel_rfl) (by simp) ?_
     refine AllReadyH.cons (by simp only [List.getElem?_toArray, List.getElem?_cons_succ, List.getElem?_cons_zero]; rfl) (fun K hK => ?_) AllReadyH.nil
     go_simp
     refine (Hgo.out _ ((hd0.below w.heap.size).alloc (Nat.le_refl _) (.cells z8L.toArray 63))).mono ?_
     rintro e w5 ⟨bo, c, rfl, -, hcc, hrb, hbo, hbn, hb5⟩
     have hcz : bo = none → c = 0 := fun e => by have := Hra.out (hbn e); omega
     have hB5 : Below w.heap.size w w5 := ((hd0.below w.heap.size).alloc (Nat.le_refl _) (.cells z8L.toArray 63)).trans (hb5.mono (by simp))
     have HDc := Lib.hid (HDn.out.later hb5)
     have l2 := run_stA (s := st2) HDc.out rfl
     go_wp2_with fail
     refine hK.out _ _ (HSS.out _ hB5) (fun hHeld => ?_)
     clear hK K hHeld hHeld2
     try simp only [Act.put, List.setIfInBounds_toArray, List.set_cons_zero, List.set_cons_succ]
     have hHeld := HSS.out _ hB5
     refine wpAnyH_take (i := 13) (v := ?_) (by simp only [List.getElem?_toArray, List.getElem?_cons_succ, List.getElem?_cons_zero]; rfl) (by kernel_rfl) (by kernel_rfl) (by kernel_rfl) (by intro _ _ _ h_; exact h_) (Or.inl ⟨by rfl, ?_⟩) (by assumption) ?_
     rotate_left 1
     focus (intro w_ hSw_; go_simp; try with_reducible rfl)
     simp only [Act.put, List.setIfInBounds_toArray, List.set_cons_zero, List.set_cons_succ]
     refine wpAnyH_take (i := 14) (v := ?_) (by simp only [List.getElem?_toArray, List.getElem?_cons_succ, List.getElem?_cons_zero]; rfl) (by kernel_rfl) (by kernel_rfl) (by kernel_rfl) (by intro _ _ _ h_; exact h_) (Or.inl ⟨by rfl, ?_⟩) (by assumption) ?_
     rotate_left 1
     focus (intro w_ hSw_; go_simp; try with_reducible rfl)
     simp only [Act.put, List.setIfInBounds_toArray, List.set_cons_zero, List.set_cons_succ]
     refine wpAnyH_take (i := 15) (v := ?_) (by simp only [List.getElem?_toArray, List.getElem?_cons_succ, List.getElem?_cons_zero]; rfl) (by kernel_rfl) (by kernel_rfl) (by kernel_rfl) (by intro _ _ _ h_; exact h_) (Or.inl ⟨by rfl, ?_⟩) (by assumption) ?_
     rotate_left 1
     focus (intro w_ hSw_; go_simp; try with_reducible rfl)
     simp only [Act.put, List.setIfInBounds_toArray, List.set_cons_zero, List.set_cons_succ]
     have HD9 : Hid (HB (w5.setRow w.heap.size ((s8l st2).map u64v).toArray) w.heap.size 63 ((s8l st2).map u64v)) := Lib.hid (setRow_heap _ _ _ _ _ _ HDc.out)
     have HB9 := Lib.hid (hB5.grown (grown_row w5 w.heap.size ((s8l st2).map u64v).toArray) hB5.size (fun x hx => Nat.le_of_eq (Option.some.inj hx)))
     have Hrd9 := Lib.hid (hrb.grown (grown_row w5 w.heap.size ((s8l st2).map u64v).toArray) (fun a e h => by
       obtain ⟨a', e', h'⟩ := hbo a e
       have := Hlt.out a' e'
       have := Option.some.inj h
       omega))
     refine wpAnyH_ready (rs := [17]) (by kernel_rfl) (by simp) ?_
     refine AllReadyH.cons (by simp only [List.getElem?_toArray, List.getElem?_cons_succ, List.getElem?_cons_zero]; rfl) (fun K hK => ?_) AllReadyH.nil
     go_simp
     refine hK.out _ _ (HSS.out _ HB9.out) (fun hHeld => ?_)
     clear hK K
     refine wpAnyH_take (i := 18) (v := ?_) (by simp only [List.getElem?_toArray, List.getElem?_cons_succ, List.getElem?_cons_zero]; rfl) (by kernel_rfl) (by kernel_rfl) (by kernel_rfl) (by intro _ _ _ h_; exact h_) (Or.inl ⟨by rfl, ?_⟩) (by assumption) ?_
     rotate_left 1
     focus (intro w_ hSw_; go_simp; try with_reducible rfl)
     simp only [Act.put, List.setIfInBounds_toArray, List.set_cons_zero, List.set_cons_succ]
     refine wpAnyH_done (by kernel_rfl) ?_ _
     have HRC := Lib.hid (RstC.mk HD9.out (HHw.out _ HB9.out) Hrd9.out HB9.out)
     clear l2 HDn HDc hHeld hB5 hb5 hz8 Hgo hrb hbo HD9 HB9 Hrd9
     generalize w5.setRow w.heap.size ((s8l st2).map u64v).toArray = w9 at *
     generalize w.heap.size = D at *
     go_wp2_with fail
     go_meet
     case rel => exact ⟨_, _, _, rfl, rfl, hcz, HRC.out⟩

  case rest =>
  obtain ⟨D, bo, cc, rfl, rfl, hcz, hRC⟩ := hcut
  have HRC := Lib.hid hRC
  have Hcz := Lib.hid hcz
  have k0 := hRC.h.cell (rhC_k k st N0 (.slice ra rn rc))
  have Hle := Lib.hid (fun w' (h : Below wc.heap.size wc w') => rlen_any hb k st N0 ra rn rc w' (hRC.h.later h) HNr.out)
  have ek2 : IntKind.u8.wrap (k : Int) = (k : Int) := by
    rcases (by have := Hk.out; omega : k = 1 ∨ k = 2 ∨ k = 3) with rfl | rfl | rfl <;> rfl
  have HS1 : Hid (SuC wc.heap.size hb (rhC k st N0 (.slice ra rn rc)) wc (.slice (some ⟨wc.heap.size, 0, none⟩) 1 1) [UInt8.ofNat k] (wc.alloc (.cells #[.int .u8 (k : Nat)] 5))) := Lib.hid (by
    have hm := Own.made8 (E := 5) wc wc.heap.size [UInt8.ofNat k] (Nat.le_refl _) (by simp)
    rw [show ([UInt8.ofNat k].map bv).toArray = #[Value.int .u8 (k : Nat)] by rw [List.map_cons, List.map_nil, ek.out]] at hm
    exact ⟨hm, hRC.h.alloc _, (Below.refl _ _).alloc (Nat.le_refl _) _, by simp⟩)
  have Hhb2 : Hid (hb < wc.heap.size) := Lib.hid hRC.h.lt
  clear hRC hcz HSS HHw Hgo hz8
  go_wp2_with fail
  refine (Hle.out _ HS1.out.b).mono ?_
  rintro e w8 ⟨rfl, hd8⟩
  have HS8 := Lib.hid (HS1.out.drn hd8)
  generalize Value.slice (some ⟨wc.heap.size, 0, none⟩) 1 1 = v1 at *
  obtain ⟨NN, hNN⟩ : ∃ NN, N0 + rn = NN := ⟨_, rfl⟩
  rw [hNN]
  have HNN := Lib.hid hNN
  have HB1 := Lib.hid HRC.out.b
  clear hd8 HS1 Hle k0 ek2 hNN
  go_upto_region 5 with fail
  as_aux_lemma =>
  go_loopw [5, 7] (fun v i wr => RstIn wc.heap.size hb NN (rhC k st N0 (.slice ra rn rc)) wc [UInt8.ofNat k] v i wr) (fun _ i _ => (intOf i + 1).toNat)
  case atStart => exact ⟨0, _, by omega, by simp, rfl, by simpa [topL] using HS8.out⟩
  case round =>
    as_aux_lemma =>
    clear HS8
    obtain ⟨j, u, hj, rfl, rfl, hS⟩ := hrel
    have HS := Lib.hid hS
    clear hS
    by_cases hj8 : j < 8
    · obtain ⟨m, hm⟩ : ∃ m : Nat, 8 - 1 - j = m := ⟨_, rfl⟩
      have hby := byteAt_big 8 NN j
      have Htn := Lib.hid (topL_snoc 8 NN j)
      generalize byteAt 8 true NN j = c at *
      have em : ((8 : Int) - 1 - (j : Int)) = (m : Int) := by omega
      rw [em]
      rw [hm] at hby
      obtain ⟨e8, he8⟩ : ∃ e8, 8 * m = e8 := ⟨_, rfl⟩
      rw [he8] at hby
      have hby2 : (NN : Int) / (2 ^ e8 : Int) % 256 = (c.toNat : Int) := hby
      have q0 : IntKind.u64.wrap (m : Int) = (m : Int) := IntWalk.u64_in _ (by omega)
      have q1 : IntKind.u64.wrap (8 * (m : Int)) = (e8 : Int) := by rw [IntWalk.u64_in _ (by omega)]; omega
      have q2 : IntKind.i64.wrap ((m : Int) - 1) = (8 : Int) - 1 - ((j : Int) + 1) := by rw [IntWalk.i64_in _ (by omega)]; omega
      have q3 : (0 : Int) ≤ (m : Int) := by omega
      have q4 : min e8 64 = e8 := Nat.min_eq_left (by omega)
      have q5 : IntKind.u8.wrap ((NN : Int) / (2 ^ e8 : Int)) = (c.toNat : Int) := by rw [← hby2]; simp [IntKind.wrap, IntKind.bits, IntKind.signed]
      have HS5 := Lib.hid (HS.out.alloc (.cells #[.int .u8 c.toNat] 5))
      have Hhm := Lib.hid hm
      clear hm hby em HS he8
      go_wp2_with (at_builtin; refine wpList_append_at byteRow02 rfl _ _ rfl wc.heap.size u ([UInt8.ofNat k] ++ topL 8 NN j) rfl HS5.out.o ⟨wr.heap.size, 0, none⟩ 1 1 [c] rfl rfl (Rd.new wr [c] _ _) ?c1 HS5.out.s (1 + j + 1) ?c3 (by omega) ?_)
      case c1 => rw [List.length_append, topL_len]; simp; omega
      case c3 => rw [List.length_append, topL_len]; rfl
      intro g7 C7 w7 ho7 hg7 hk7
      have ho8 : Own 5 w7 wc.heap.size (.slice (some ⟨g7, 0, none⟩) (1 + j + 1) C7) ([UInt8.ofNat k] ++ topL 8 NN (j + 1)) := by rw [Htn.out]; exact ho7
      have HS7 := Lib.hid (HS5.out.step Hhb2.out ho8 hg7)
      clear ho7 ho8 hg7 hk7 q0 q1 q4 q5 hby2
      go_wp2_with fail
      have hm := Hhm.out
      first
      | (go_roundw
         case rel => exact ⟨j + 1, _, by omega, by push_cast; rfl, rfl, HS7.out⟩
         case measure => (first | omega | (simp [intOf] <;> omega) | (simp only [intOf] <;> omega)))
      | exact ⟨⟨j + 1, _, by omega, by push_cast; rfl, rfl, HS7.out⟩, by (first | omega | (simp [intOf] <;> omega) | (simp only [intOf] <;> omega))⟩
      | (refine ⟨?_, by (first | omega | (simp [intOf] <;> omega) | (simp only [intOf] <;> omega))⟩
         (repeat apply Exists.intro)
         refine (fun a b => And.intro b a) ?_ ?_
         · first | rfl | ((repeat refine ⟨rfl, ?_⟩); rfl)
         exact ⟨j + 1, _, by omega, by push_cast; rfl, rfl, HS7.out⟩)
    · obtain rfl : j = 8 := by omega
      have q6 : (8 : Int) - 1 - ((8 : Nat) : Int) = -1 := by decide
      rw [q6]
      have HSf := HS.out
      rw [show topL 8 NN 8 = encL 8 true NN from rfl] at HSf
      have HSf := Lib.hid HSf
      clear HS q6
      have Hwd := Lib.hid (fun w' => rwords_any k st2 w' Hk.out)
      have HRr := Lib.hid (fun w' (h : Below wc.heap.size wc w') => HRC.out.later h)
      have Hl9 := Lib.hid (fun w' (h : Below wc.heap.size wc w') => And.intro ((HRr.out w' h).h.cell (rhC_k k st N0 (.slice ra rn rc))) (run_ldA (s := st2) (HRr.out w' h).d.whole))
      have HBr := Lib.hid HSf.out.b
      have Hor := Lib.hid HSf.out.o
      have Hsr := Lib.hid HSf.out.s
      have Hp9 : Hid (([UInt8.ofNat k] ++ encL 8 true NN).length = 9) := Lib.hid (by rw [List.length_append, encL_length]; rfl)
      have Hwl : Hid ((wordsL (wK k) (s8l st2)).length ≤ 64) := Lib.hid (by
        rw [wordsL_len, s8l_len]
        unfold wK
        split <;> decide)
      clear HSf
      go_upto_region 8 with fail
      as_aux_lemma =>
      have hd0 : Drn wr wr.drew := ⟨1, rfl⟩
      have hB0 : Below wc.heap.size wc wr.drew := HBr.out.trans (hd0.below _)
      have Ho0 := Lib.hid (Hor.out.later (hd0.below _))
      refine wp_region_held_drew (S := fun w' => w'.cell? ⟨hb, 0, none⟩ = some (.int .i64 k) ∧ (ldA (.pointer (some ⟨D, 0, none⟩))).run Tryd.prog w' = .ok (.agg ((s8l st2).map u64v).toArray) w') (by kernel_rfl) (Hl9.out _ hB0) (fun hHeld => ?_)
      refine wpAnyH_take (i := 0) (v := ?_) (by simp only [List.getElem?_toArray, List.getElem?_cons_succ, List.getElem?_cons_zero]; rfl) (by kernel_rfl) (by kernel_rfl) (by kernel_rfl) (by intro _ _ _ h_; exact h_) (Or.inl ⟨by rfl, ?_⟩) (by assumption) ?_
      rotate_left 1
      focus (intro w_ hSw_; go_simp; try with_reducible rfl)
      simp only [Act.put, List.setIfInBounds_toArray, List.set_cons_zero, List.set_cons_succ]
      refine wpAnyH_take (i := 1) (v := ?_) (by simp only [List.getElem?_toArray, List.getElem?_cons_succ, List.getElem?_cons_zero]; rfl) (by kernel_rfl) (by kernel_rfl) (by kernel_rfl) (by intro _ _ _ h_; exact h_) (Or.inl ⟨by rfl, ?_⟩) (by assumption) ?_
      rotate_left 1
      focus (intro w_ hSw_; go_simp; try with_reducible rfl)
      simp only [Act.put, List.setIfInBounds_toArray, List.set_cons_zero, List.set_cons_succ]
      refine wpAnyH_take (i := 2) (v := ?_) (by simp only [List.getElem?_toArray, List.getElem?_cons_succ, List.getElem?_cons_zero]; rfl) (by kernel_rfl) (by kernel_rfl) (by kernel_rfl) (by intro _ _ _ h_; exact h_) (Or.inl ⟨by rfl, ?_⟩) (by assumption) ?_
      rotate_left 1
      focus (intro w_ hSw_; go_simp; try with_reducible rfl)
      simp only [Act.put, List.setIfInBounds_toArray, List.set_cons_zero, List.set_cons_succ]
      refine wpAnyH_take (i := 3) (v := ?_) (by simp only [List.getElem?_toArray, List.getElem?_cons_succ, List.getElem?_cons_zero]; rfl) (by kernel_rfl) (by kernel_rfl) (by kernel_rfl) (by intro _ _ _ h_; exact h_) (Or.inl ⟨by rfl, ?_⟩) (by assumption) ?_
      rotate_left 1
      focus (intro w_ hSw_; go_simp; try with_reducible rfl)
      simp only [Act.put, List.setIfInBounds_toArray, List.set_cons_zero, List.set_cons_succ]
      refine wpAnyH_take (i := 4) (v := ?_) (by simp only [List.getElem?_toArray, List.getElem?_cons_succ, List.getElem?_cons_zero]; rfl) (by kernel_rfl) (by kernel_rfl) (by kernel_rfl) (by intro _ _ _ h_; exact h_) (Or.inl ⟨by rfl, ?_⟩) (by assumption) ?_
      rotate_left 1
      focus (intro w_ hSw_; go_simp; try with_reducible rfl)
      simp only [Act.put, List.setIfInBounds_toArray, List.set_cons_zero, List.set_cons_succ]
      refine wpAnyH_take (i := 5) (v := ?_) (by simp only [List.getElem?_toArray, List.getElem?_cons_succ, List.getElem?_cons_zero]; rfl) (by kernel_rfl) (by kernel_rfl) (by kernel_rfl) (by intro _ _ _ h_; exact h_) (Or.inl ⟨by rfl, ?_⟩) (by assumption) ?_
      rotate_left 1
      focus (intro w_ hSw_; go_simp; try with_reducible rfl)
      simp only [Act.put, List.setIfInBounds_toArray, List.set_cons_zero, List.set_cons_succ]
      refine wpAnyH_ready (rs := [6]) (by kernel_rfl) (by simp) ?_
      refine AllReadyH.cons (by simp only [List.getElem?_toArray, List.getElem?_cons_succ, List.getElem?_cons_zero]; rfl) (fun K hK => ?_) AllReadyH.nil
      go_simp
      refine (Hwd.out _).mono ?_
      rintro e w12 ⟨vw, rfl, how, hbw⟩
      have hB12 : Below wc.heap.size wc w12 := hB0.trans (hbw.mono (Nat.le_trans Hsr.out (Nat.le_of_eq (by rw [hd0.heap]))))
      have ho12 := Ho0.out.later hbw
      obtain ⟨a6, c6, rfl, h61, h62, h63, h64, h65⟩ := how.rd3
      go_wp2_with fail
      refine hK.out _ _ (Hl9.out _ hB12) (fun hHeld => ?_)
      clear hK K
      try simp only [Act.put, List.setIfInBounds_toArray, List.set_cons_zero, List.set_cons_succ]
      refine wpAnyH_ready (rs := [7]) (by kernel_rfl) (by simp) ?_
      refine AllReadyH.cons (by simp only [List.getElem?_toArray, List.getElem?_cons_succ, List.getElem?_cons_zero]; rfl) (fun K hK => ?_) AllReadyH.nil
      refine step_of_wp rfl (wp_append_gr byteRow02 _ _ rfl wc.heap.size u _ rfl ho12 a6 (wordsL (wK k) (s8l st2)).length c6 (wordsL (wK k) (s8l st2)) rfl rfl h63 h64 (by rw [Hp9.out]; have := Hwl.out; omega) hB12.size (fun v8 w8' ho8 hg8 => ?_))
      have hB8 : Below wc.heap.size wc w8' := hB12.trans ((Below.refl _ _).grown hg8.g hB12.size (fun q hq => (own_blk ho12 hq).1))
      refine hK.out _ _ (Hl9.out _ hB8) (fun hHeld => ?_)
      clear hK K
      try simp only [Act.put, List.setIfInBounds_toArray, List.set_cons_zero, List.set_cons_succ]
      refine wpAnyH_take (i := 8) (v := ?_) (by simp only [List.getElem?_toArray, List.getElem?_cons_succ, List.getElem?_cons_zero]; rfl) (by kernel_rfl) (by kernel_rfl) (by kernel_rfl) (by intro _ _ _ h_; exact h_) (Or.inl ⟨by rfl, ?_⟩) (by assumption) ?_
      rotate_left 1
      focus (intro w_ hSw_; go_simp; try with_reducible rfl)
      simp only [Act.put, List.setIfInBounds_toArray, List.set_cons_zero, List.set_cons_succ]
      refine wpAnyH_done (by kernel_rfl) ?_ _
      have HO8 := Lib.hid ho8
      have HB8 := Lib.hid hB8
      clear hHeld hB8 ho8 hg8 h61 h62 h63 h64 h65 ho12 hB12 how hbw hB0 Ho0 hd0
      have hr8 := (HRr.out _ HB8.out).r
      go_wp2_with (at_builtin; refine wpList_append_gr byteRow02 rfl _ _ rfl wc.heap.size v8 _ rfl HO8.out bo rest.length cc rest rfl rfl hr8 Hcz.out (by rw [List.length_append, Hp9.out]; have := Hwl.out; have := Hlr.out; omega) HB8.out.size ?_)
      intro v9 w9 ho9 hg9
      have HO9 := Lib.hid ho9
      have HB9 : Hid (Below w.heap.size w w9) := Lib.hid (HB1.out.trans ((HB8.out.trans ((Below.refl _ _).grown hg9.g HB8.out.size (fun q hq => (own_blk HO8.out hq).1))).mono HB1.out.size))
      clear ho9 hg9 hr8
      go_wp2_with fail
      go_ret
      exact ⟨v9, rfl, by rw [← HNN.out] at HO9; exact HO9.out.mono HB1.out.size, HB9.out⟩
end Go.Proofs.YtngkelflfahjbaaDoor
