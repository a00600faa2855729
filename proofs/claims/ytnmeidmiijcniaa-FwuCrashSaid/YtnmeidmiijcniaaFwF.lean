/- The updater's Format. No condition. -/
import Derived.Test.YtnmeidmiijcniaaFwH
set_option linter.unusedVariables false
set_option linter.unusedSimpArgs false
namespace Go.Proofs.Ytnmeidmiijcniaa
open Go.RowKit
attribute [local go_sem ↓] build_m Go.wp_at_zero Go.wp_at_succ
def fresh (a : Int) : Me := if a = 0 then ⟨1, 3, 0, 0, 0⟩ else ⟨1, 0, 3, 1, 0⟩
theorem fresh_right (a : Int) : rightM (fresh a) = true := by
  unfold fresh
  split
  · decide
  · decide
def z512b : List UInt8 := List.replicate 512 0
def formatF (f : Fl) (m a : Int) : Fl × Int :=
  if a ≠ 0 ∧ a ≠ 1 then (f, 1) else if f.off then (f, 143) else if (writeR f m (encM (fresh a))).2 ≠ 0 then writeR f m (encM (fresh a)) else writeR (writeR f m (encM (fresh a))).1 (m + 1) z512b
theorem mk512b (w : World) : (Instr.makeSlice 27 (.int .i64 512) (.int .i64 512)).run Try.prog w = .ok (.slice (some ⟨w.heap.size, 0, none⟩) 512 512) (w.alloc (.cells (z512b.map bv).toArray 5)) := run_mk 512 (by decide) w
theorem run_buildMf (a : Int) (w : World) : (buildM #[(0, .int .u32 1), (2, .int .i64 a)]).run Try.prog w = .ok (.agg #[.int .u32 1, .int .i64 0, .int .i64 0, .int .i64 a, .int .i64 0]) w := by kernel_rfl
theorem writeR_on {f : Fl} {k : Int} {l : List UInt8} (h : (writeR f k l).2 = 0) : (writeR f k l).1.off = f.off := by
  unfold writeR at h ⊢
  by_cases h1 : f.left = 1
  · simp [h1] at h
  · simp [h1]
set_option maxRecDepth 100000 in
set_option maxHeartbeats 2000000 in
theorem format_any (a : Int) (u p mb n : Nat) (s : Up) (f : Fl) (w : World) (h : UpA w u p mb n s f) (hn : n + 1 < 281474976710655) (hw0 : 0 ≤ f.writes) (hw1 : f.writes + 1 < 9223372036854775807) :
    Calls Try.prog 19 #[.pointer (some ⟨u, 0, none⟩), .int .i64 a] w fun e w' =>
      e = .returned (.int .i64 (formatF f s.meta' a).2) ∧ UpA w' u p mb (n + 2) s (formatF f s.meta' a).1 ∧ Frm (fun q => q = p ∨ q = mb) w w' := by
  have H := Lib.hid h
  have Hn := Lib.hid (And.intro hn (And.intro hw0 hw1))
  have hbf := run_buildMf
  clear h hn hw0 hw1
  by_cases ha0 : a = 0
  · subst ha0
    have HX2 := Lib.hid (HB.new w (mec ⟨1, 3, 0, 0, 0⟩) 26)
    have HB2 := Lib.hid ((Below.refl w.heap.size w).alloc (Nat.le_refl _) (.cells (mec ⟨1, 3, 0, 0, 0⟩).toArray 26))
    obtain ⟨w2, hw2⟩ : ∃ w2, w.alloc (.cells (mec ⟨1, 3, 0, 0, 0⟩).toArray 26) = w2 := ⟨_, rfl⟩
    rw [hw2] at HX2 HB2
    unfold mec at hw2
    dsimp only at hw2
    rw [show ((1 : Nat) : Int) = 1 from rfl] at hw2
    go_enter Try.func19, Try.ntmps19
    go_upto_region 5 with fail
    try rw [hw2]
    obtain ⟨X, hX⟩ : ∃ X, w.heap.size = X := ⟨_, rfl⟩
    rw [hX] at HX2 ⊢
    clear hw2
    obtain ⟨M, hM⟩ : ∃ M : Me, ⟨1, 3, 0, 0, 0⟩ = M := ⟨_, rfl⟩
    have hMr : rightM M = true := by rw [← hM]; decide
    have hMs : M.seq < 4294967296 := by rw [← hM]; decide
    have hMf : encM (fresh 0) = encM M := by rw [← hM]; rfl
    rw [hM] at HX2
    clear hM
    obtain ⟨x0, x1, x2, x3, x4⟩ := Five.of HX2.out
    have He := Lib.hid (enc_ok M w2 hMr hMs)
    clear hMr hMs
    have hll := encM_len M
    obtain ⟨L, hL⟩ : ∃ L, encM M = L := ⟨_, rfl⟩
    rw [hL] at hll He hMf
    have HL := fun (_ : Unit) => Lib.hid hMf
    have Hll := fun (_ : Unit) => Lib.hid hll
    unfold mev at He
    have He := fun (_ : Unit) => He
    clear hL hll hMf
    go_wp2_with fail
    refine (He ()).out.mono ?_
    rintro e w3 ⟨g, C, rfl, hC, ho3, hb3⟩
    have HB3 := Lib.hid (HB2.out.trans (hb3.mono HB2.out.size))
    have hll := (Hll ()).out
    have hgb := own_blk ho3 (k := g) rfl
    have hr3 : Rd w3 (some ⟨g, 0, none⟩) L := by
      obtain ⟨a4, c4, he4, -, -, hr4⟩ := ho3.rd
      rw [hll] at he4
      cases he4
      exact hr4
    have Hr3 := Lib.hid hr3
    have HC3 := Lib.hid hC
    have Hg3 := Lib.hid (show w.heap.size ≤ g from Nat.le_trans HB2.out.size hgb.1)
    clear hb3 x0 x1 x2 x3 x4 He hll ho3 hr3 hC hgb HX2 HB2 hX
    go_upto_region 6 with fail
    have hd0 : Drn w3 w3.drew := ⟨1, rfl⟩
    have hU3 := H.out.later HB3.out
    have HUd := Lib.hid (hU3.later (hd0.below _))
    have HBd := Lib.hid (HB3.out.trans (hd0.below _))
    have hI := hU3.i.m
    unfold I64 at hI
    have hup := hU3.up.m
    have hsz := hU3.ok.s1
    have HI := Lib.hid (show I64 s.meta' ∧ I64 (s.meta' + 1) from ⟨hU3.i.m, by unfold I64; omega⟩)
    have e1 : IntKind.i64.wrap (s.meta' + 1) = s.meta' + 1 := IntWalk.i64_in _ (by omega)
    clear hU3 hI hup hsz
    cases ho : f.off
    case true =>
      have hF : formatF f s.meta' 0 = (f, 143) := by unfold formatF; rw [if_neg (by decide), ho, if_pos rfl]
      have HF := Lib.hid hF
      have hm0 : mayE f s.meta' = 143 := by unfold mayE; rw [ho, if_pos rfl]
      have Hwr := Lib.hid (writef_bad p mb n f s.meta' (some ⟨g, 0, none⟩) 512 C w3.drew HUd.out.fl (by rw [hm0]; decide))
      rw [hm0] at Hwr
      clear hF hm0 ho e1
      refine wp_region_held_drew (S := fun w' => UpX w' u p s) (by kernel_rfl) (UpX.of HUd.out.h) (fun hHeld => ?_)
      refine wpAnyH_take (i := 0) (v := ?_) (by simp only [List.getElem?_toArray, List.getElem?_cons_succ, List.getElem?_cons_zero]; rfl) (by kernel_rfl) (by kernel_rfl) (by kernel_rfl) (by intro _ _ _ h_; exact h_) (Or.inl ⟨by rfl, ?_⟩) (by assumption) ?_
      rotate_left 1
      focus (intro w_ hSw_; try go_simp; try with_reducible rfl)
      simp only [Act.put, List.setIfInBounds_toArray, List.set_cons_zero, List.set_cons_succ]
      refine wpAnyH_take (i := 1) (v := ?_) (by simp only [List.getElem?_toArray, List.getElem?_cons_succ, List.getElem?_cons_zero]; rfl) (by kernel_rfl) (by kernel_rfl) (by kernel_rfl) (by intro _ _ _ h_; exact h_) (Or.inl ⟨by rfl, ?_⟩) (by assumption) ?_
      rotate_left 1
      focus (intro w_ hSw_; try go_simp; try with_reducible rfl)
      simp only [Act.put, List.setIfInBounds_toArray, List.set_cons_zero, List.set_cons_succ]
      refine wpAnyH_take (i := 2) (v := ?_) (by simp only [List.getElem?_toArray, List.getElem?_cons_succ, List.getElem?_cons_zero]; rfl) (by kernel_rfl) (by kernel_rfl) (by kernel_rfl) (by intro _ _ _ h_; exact h_) (Or.inl ⟨by rfl, ?_⟩) (by assumption) ?_
      rotate_left 1
      focus (intro w_ hSw_; try go_simp; try with_reducible rfl)
      simp only [Act.put, List.setIfInBounds_toArray, List.set_cons_zero, List.set_cons_succ]
      refine wpAnyH_take (i := 3) (v := ?_) (by simp only [List.getElem?_toArray, List.getElem?_cons_succ, List.getElem?_cons_zero]; rfl) (by kernel_rfl) (by kernel_rfl) (by kernel_rfl) (by intro _ _ _ h_; exact h_) (Or.inl ⟨by rfl, ?_⟩) (by assumption) ?_
      rotate_left 1
      focus (intro w_ hSw_; obtain ⟨y0, y1, y2, y3, y4⟩ := hSw_; try go_simp; try with_reducible rfl)
      simp only [Act.put, List.setIfInBounds_toArray, List.set_cons_zero, List.set_cons_succ]
      refine wpAnyH_take (i := 4) (v := ?_) (by simp only [List.getElem?_toArray, List.getElem?_cons_succ, List.getElem?_cons_zero]; rfl) (by kernel_rfl) (by kernel_rfl) (by kernel_rfl) (by intro _ _ _ h_; exact h_) (Or.inl ⟨by rfl, ?_⟩) (by assumption) ?_
      rotate_left 1
      focus (intro w_ hSw_; try go_simp; try with_reducible rfl)
      simp only [Act.put, List.setIfInBounds_toArray, List.set_cons_zero, List.set_cons_succ]
      refine wpAnyH_take (i := 5) (v := ?_) (by simp only [List.getElem?_toArray, List.getElem?_cons_succ, List.getElem?_cons_zero]; rfl) (by kernel_rfl) (by kernel_rfl) (by kernel_rfl) (by intro _ _ _ h_; exact h_) (Or.inl ⟨by rfl, ?_⟩) (by assumption) ?_
      rotate_left 1
      focus (intro w_ hSw_; try go_simp; try with_reducible rfl)
      simp only [Act.put, List.setIfInBounds_toArray, List.set_cons_zero, List.set_cons_succ]
      refine wpAnyH_take (i := 6) (v := ?_) (by simp only [List.getElem?_toArray, List.getElem?_cons_succ, List.getElem?_cons_zero]; rfl) (by kernel_rfl) (by kernel_rfl) (by kernel_rfl) (by intro _ _ _ h_; exact h_) (Or.inl ⟨by rfl, ?_⟩) (by assumption) ?_
      rotate_left 1
      focus (intro w_ hSw_; try go_simp; try with_reducible rfl)
      simp only [Act.put, List.setIfInBounds_toArray, List.set_cons_zero, List.set_cons_succ]
      refine wpAnyH_take (i := 7) (v := ?_) (by simp only [List.getElem?_toArray, List.getElem?_cons_succ, List.getElem?_cons_zero]; rfl) (by kernel_rfl) (by kernel_rfl) (by kernel_rfl) (by intro _ _ _ h_; exact h_) (Or.inl ⟨by rfl, ?_⟩) (by assumption) ?_
      rotate_left 1
      focus (intro w_ hSw_; obtain ⟨y0, y1, y2, y3, y4⟩ := hSw_; try go_simp; try with_reducible rfl)
      simp only [Act.put, List.setIfInBounds_toArray, List.set_cons_zero, List.set_cons_succ]
      refine wpAnyH_take (i := 8) (v := ?_) (by simp only [List.getElem?_toArray, List.getElem?_cons_succ, List.getElem?_cons_zero]; rfl) (by kernel_rfl) (by kernel_rfl) (by kernel_rfl) (by intro _ _ _ h_; exact h_) (Or.inl ⟨by rfl, ?_⟩) (by assumption) ?_
      rotate_left 1
      focus (intro w_ hSw_; try go_simp; try with_reducible rfl)
      simp only [Act.put, List.setIfInBounds_toArray, List.set_cons_zero, List.set_cons_succ]
      refine wpAnyH_ready (rs := [9]) (by kernel_rfl) (by simp) ?_
      refine AllReadyH.cons (by simp only [List.getElem?_toArray, List.getElem?_cons_succ, List.getElem?_cons_zero]; rfl) (fun K hK => ?_) AllReadyH.nil
      try go_simp
      refine Hwr.out.mono ?_
      rintro e w4 ⟨rfl, rfl⟩
      go_wp2_with fail
      refine hK.out _ _ (UpX.of HUd.out.h) (fun hHeld => ?_)
      clear hK K
      try simp only [Act.put, List.setIfInBounds_toArray, List.set_cons_zero, List.set_cons_succ]
      refine wpAnyH_take (i := 10) (v := ?_) (by simp only [List.getElem?_toArray, List.getElem?_cons_succ, List.getElem?_cons_zero]; rfl) (by kernel_rfl) (by kernel_rfl) (by kernel_rfl) (by intro _ _ _ h_; exact h_) (Or.inl ⟨by rfl, ?_⟩) (by assumption) ?_
      rotate_left 1
      focus (intro w_ hSw_; try go_simp; try with_reducible rfl)
      simp only [Act.put, List.setIfInBounds_toArray, List.set_cons_zero, List.set_cons_succ]
      refine wpAnyH_done (by kernel_rfl) ?_ _
      clear hHeld Hwr
      go_wp2_with fail
      go_ret
      rw [HF.out]
      exact ⟨rfl, ⟨HUd.out.h, HUd.out.fl.mono (by omega), HUd.out.ok, HUd.out.up, HUd.out.i, HUd.out.n1, HUd.out.n2⟩, Frm.later HBd.out⟩
    have hm0 : mayE f s.meta' = 0 := by unfold mayE; rw [ho, if_neg (by decide), if_neg (by have := H.out.up.m; omega)]
    have Hwr := Lib.hid (writef_ok p mb n f s.meta' g 0 C L w3.drew HUd.out.fl H.out.ok HI.out.1 hm0 (Hll ()).out (hd0.rd Hr3.out) HC3.out (by have := Hn.out; omega) Hn.out.2.1 (by have := Hn.out; omega) (by have := H.out.lt; have := Hg3.out; omega))
    have Hpo := Lib.hid (put_ok23 (f := f) (k := s.meta') (l := L) H.out.ok (Hll ()).out)
    have hF : formatF f s.meta' 0 = (if (writeR f s.meta' L).2 ≠ 0 then writeR f s.meta' L else writeR (writeR f s.meta' L).1 (s.meta' + 1) z512b) := by
      unfold formatF
      rw [if_neg (by decide), ho, if_neg (by decide), (HL ()).out]
    have Hon := Lib.hid (fun h => (writeR_on (f := f) (k := s.meta') (l := L) h).trans ho)
    obtain ⟨W, hW⟩ : ∃ W, writeR f s.meta' L = W := ⟨_, rfl⟩
    rw [hW] at Hwr Hpo hF Hon
    obtain ⟨F2, e2⟩ := W
    dsimp only at Hwr Hpo hF Hon
    have HF := fun (_ : Unit) => Lib.hid hF
    clear hm0 ho hF hW
    refine wp_region_held_drew (S := fun w' => UpX w' u p s) (by kernel_rfl) (UpX.of HUd.out.h) (fun hHeld => ?_)
    refine wpAnyH_take (i := 0) (v := ?_) (by simp only [List.getElem?_toArray, List.getElem?_cons_succ, List.getElem?_cons_zero]; rfl) (by kernel_rfl) (by kernel_rfl) (by kernel_rfl) (by intro _ _ _ h_; exact h_) (Or.inl ⟨by rfl, ?_⟩) (by assumption) ?_
    rotate_left 1
    focus (intro w_ hSw_; try go_simp; try with_reducible rfl)
    simp only [Act.put, List.setIfInBounds_toArray, List.set_cons_zero, List.set_cons_succ]
    refine wpAnyH_take (i := 1) (v := ?_) (by simp only [List.getElem?_toArray, List.getElem?_cons_succ, List.getElem?_cons_zero]; rfl) (by kernel_rfl) (by kernel_rfl) (by kernel_rfl) (by intro _ _ _ h_; exact h_) (Or.inl ⟨by rfl, ?_⟩) (by assumption) ?_
    rotate_left 1
    focus (intro w_ hSw_; try go_simp; try with_reducible rfl)
    simp only [Act.put, List.setIfInBounds_toArray, List.set_cons_zero, List.set_cons_succ]
    refine wpAnyH_take (i := 2) (v := ?_) (by simp only [List.getElem?_toArray, List.getElem?_cons_succ, List.getElem?_cons_zero]; rfl) (by kernel_rfl) (by kernel_rfl) (by kernel_rfl) (by intro _ _ _ h_; exact h_) (Or.inl ⟨by rfl, ?_⟩) (by assumption) ?_
    rotate_left 1
    focus (intro w_ hSw_; try go_simp; try with_reducible rfl)
    simp only [Act.put, List.setIfInBounds_toArray, List.set_cons_zero, List.set_cons_succ]
    refine wpAnyH_take (i := 3) (v := ?_) (by simp only [List.getElem?_toArray, List.getElem?_cons_succ, List.getElem?_cons_zero]; rfl) (by kernel_rfl) (by kernel_rfl) (by kernel_rfl) (by intro _ _ _ h_; exact h_) (Or.inl ⟨by rfl, ?_⟩) (by assumption) ?_
    rotate_left 1
    focus (intro w_ hSw_; obtain ⟨y0, y1, y2, y3, y4⟩ := hSw_; try go_simp; try with_reducible rfl)
    simp only [Act.put, List.setIfInBounds_toArray, List.set_cons_zero, List.set_cons_succ]
    refine wpAnyH_take (i := 4) (v := ?_) (by simp only [List.getElem?_toArray, List.getElem?_cons_succ, List.getElem?_cons_zero]; rfl) (by kernel_rfl) (by kernel_rfl) (by kernel_rfl) (by intro _ _ _ h_; exact h_) (Or.inl ⟨by rfl, ?_⟩) (by assumption) ?_
    rotate_left 1
    focus (intro w_ hSw_; try go_simp; try with_reducible rfl)
    simp only [Act.put, List.setIfInBounds_toArray, List.set_cons_zero, List.set_cons_succ]
    refine wpAnyH_take (i := 5) (v := ?_) (by simp only [List.getElem?_toArray, List.getElem?_cons_succ, List.getElem?_cons_zero]; rfl) (by kernel_rfl) (by kernel_rfl) (by kernel_rfl) (by intro _ _ _ h_; exact h_) (Or.inl ⟨by rfl, ?_⟩) (by assumption) ?_
    rotate_left 1
    focus (intro w_ hSw_; try go_simp; try with_reducible rfl)
    simp only [Act.put, List.setIfInBounds_toArray, List.set_cons_zero, List.set_cons_succ]
    refine wpAnyH_take (i := 6) (v := ?_) (by simp only [List.getElem?_toArray, List.getElem?_cons_succ, List.getElem?_cons_zero]; rfl) (by kernel_rfl) (by kernel_rfl) (by kernel_rfl) (by intro _ _ _ h_; exact h_) (Or.inl ⟨by rfl, ?_⟩) (by assumption) ?_
    rotate_left 1
    focus (intro w_ hSw_; try go_simp; try with_reducible rfl)
    simp only [Act.put, List.setIfInBounds_toArray, List.set_cons_zero, List.set_cons_succ]
    refine wpAnyH_take (i := 7) (v := ?_) (by simp only [List.getElem?_toArray, List.getElem?_cons_succ, List.getElem?_cons_zero]; rfl) (by kernel_rfl) (by kernel_rfl) (by kernel_rfl) (by intro _ _ _ h_; exact h_) (Or.inl ⟨by rfl, ?_⟩) (by assumption) ?_
    rotate_left 1
    focus (intro w_ hSw_; obtain ⟨y0, y1, y2, y3, y4⟩ := hSw_; try go_simp; try with_reducible rfl)
    simp only [Act.put, List.setIfInBounds_toArray, List.set_cons_zero, List.set_cons_succ]
    refine wpAnyH_take (i := 8) (v := ?_) (by simp only [List.getElem?_toArray, List.getElem?_cons_succ, List.getElem?_cons_zero]; rfl) (by kernel_rfl) (by kernel_rfl) (by kernel_rfl) (by intro _ _ _ h_; exact h_) (Or.inl ⟨by rfl, ?_⟩) (by assumption) ?_
    rotate_left 1
    focus (intro w_ hSw_; try go_simp; try with_reducible rfl)
    simp only [Act.put, List.setIfInBounds_toArray, List.set_cons_zero, List.set_cons_succ]
    refine wpAnyH_ready (rs := [9]) (by kernel_rfl) (by simp) ?_
    refine AllReadyH.cons (by simp only [List.getElem?_toArray, List.getElem?_cons_succ, List.getElem?_cons_zero]; rfl) (fun K hK => ?_) AllReadyH.nil
    try go_simp
    refine Hwr.out.mono ?_
    rintro e w4 ⟨rfl, hfl4, hf4⟩
    have hu4 := HUd.out.h.frm hf4 (fun e => e.elim H.out.n1 H.out.n2)
    have HU4 := Lib.hid (show UpA w4 u p mb (n + 1) s F2 from ⟨hu4, hfl4, Hpo.out.1, by rw [Hpo.out.2.1]; exact H.out.up, H.out.i, H.out.n1, H.out.n2⟩)
    have HFr := Lib.hid (show Frm (fun q => q = p ∨ q = mb) w w4 from (Frm.later HBd.out).trans hf4)
    clear hHeld hu4 hfl4 hf4 HUd HBd Hwr
    go_wp2_with fail
    refine hK.out _ _ (UpX.of HU4.out.h) (fun hHeld => ?_)
    clear hK K
    try simp only [Act.put, List.setIfInBounds_toArray, List.set_cons_zero, List.set_cons_succ]
    refine wpAnyH_take (i := 10) (v := ?_) (by simp only [List.getElem?_toArray, List.getElem?_cons_succ, List.getElem?_cons_zero]; rfl) (by kernel_rfl) (by kernel_rfl) (by kernel_rfl) (by intro _ _ _ h_; exact h_) (Or.inl ⟨by rfl, ?_⟩) (by assumption) ?_
    rotate_left 1
    focus (intro w_ hSw_; try go_simp; try with_reducible rfl)
    simp only [Act.put, List.setIfInBounds_toArray, List.set_cons_zero, List.set_cons_succ]
    refine wpAnyH_done (by kernel_rfl) ?_ _
    clear hHeld hd0
    by_cases he2 : e2 = 0
    case neg =>
      have hF := (HF ()).out
      rw [if_pos he2] at hF
      have HF2 := Lib.hid hF
      clear hF HF
      go_wp2_with fail
      go_ret
      rw [HF2.out]
      exact ⟨rfl, ⟨HU4.out.h, HU4.out.fl.mono (by omega), HU4.out.ok, HU4.out.up, HU4.out.i, HU4.out.n1, HU4.out.n2⟩, HFr.out⟩
    subst he2
    have hF := (HF ()).out
    rw [if_neg (fun h => h rfl)] at hF
    have HF2 := Lib.hid hF
    clear hF HF
    have hmk := mk512b
    go_upto_region 9 with fail
    have hd0 : Drn w4 w4.drew := ⟨1, rfl⟩
    have HUd := Lib.hid (HU4.out.later (hd0.below _))
    have hbz := (Below.refl w4.drew.heap.size w4.drew).alloc (Nat.le_refl _) (.cells (z512b.map bv).toArray 5)
    have HUz := Lib.hid (HUd.out.later hbz)
    have HBz := Lib.hid ((hd0.below w4.heap.size).trans hbz)
    have Hrz := Lib.hid (Rd.new w4.drew z512b 5 (0, 0))
    obtain ⟨w5, hw5⟩ : ∃ w5, w4.drew.alloc (.cells (z512b.map bv).toArray 5) = w5 := ⟨_, rfl⟩
    rw [hw5] at HUz HBz Hrz
    have Hzp : Hid (w4.drew.heap.size ≠ p) := Lib.hid (by have := HU4.out.lt; show w4.heap.size ≠ p; omega)
    obtain ⟨Z, hZ⟩ : ∃ Z, w4.drew.heap.size = Z := ⟨_, rfl⟩
    rw [hZ] at Hrz Hzp
    have hm1 : mayE F2 (s.meta' + 1) = 0 := by unfold mayE; rw [Hon.out rfl, if_neg (by decide), if_neg (by have := HU4.out.up.m; omega)]
    have Hwr := Lib.hid (writef_ok p mb (n + 1) F2 (s.meta' + 1) Z 0 512 z512b w5 HUz.out.fl HU4.out.ok HI.out.2 hm1 (List.length_replicate ..) Hrz.out (Nat.le_refl _) (by have := Hn.out; omega) (by have := Hn.out; have := Hpo.out; omega) (by have := Hn.out; have := Hpo.out; omega) Hzp.out)
    have Hpo2 := Lib.hid (put_ok23 (f := F2) (k := s.meta' + 1) (l := z512b) HU4.out.ok (List.length_replicate ..))
    obtain ⟨W2, hW2⟩ : ∃ W2, writeR F2 (s.meta' + 1) z512b = W2 := ⟨_, rfl⟩
    rw [hW2] at Hwr Hpo2 HF2
    obtain ⟨F3, e3⟩ := W2
    dsimp only at Hwr Hpo2
    clear hbz hm1 hW2
    refine wp_region_held_drew (S := fun w' => UpX w' u p s) (by kernel_rfl) (UpX.of HUd.out.h) (fun hHeld => ?_)
    refine wpAnyH_take (i := 0) (v := ?_) (by simp only [List.getElem?_toArray, List.getElem?_cons_succ, List.getElem?_cons_zero]; rfl) (by kernel_rfl) (by kernel_rfl) (by kernel_rfl) (by intro _ _ _ h_; exact h_) (Or.inl ⟨by rfl, ?_⟩) (by assumption) ?_
    rotate_left 1
    focus (intro w_ hSw_; try go_simp; try with_reducible rfl)
    simp only [Act.put, List.setIfInBounds_toArray, List.set_cons_zero, List.set_cons_succ]
    refine wpAnyH_take (i := 1) (v := ?_) (by simp only [List.getElem?_toArray, List.getElem?_cons_succ, List.getElem?_cons_zero]; rfl) (by kernel_rfl) (by kernel_rfl) (by kernel_rfl) (by intro _ _ _ h_; exact h_) (Or.inl ⟨by rfl, ?_⟩) (by assumption) ?_
    rotate_left 1
    focus (intro w_ hSw_; try go_simp; try with_reducible rfl)
    simp only [Act.put, List.setIfInBounds_toArray, List.set_cons_zero, List.set_cons_succ]
    refine wpAnyH_take (i := 2) (v := ?_) (by simp only [List.getElem?_toArray, List.getElem?_cons_succ, List.getElem?_cons_zero]; rfl) (by kernel_rfl) (by kernel_rfl) (by kernel_rfl) (by intro _ _ _ h_; exact h_) (Or.inl ⟨by rfl, ?_⟩) (by assumption) ?_
    rotate_left 1
    focus (intro w_ hSw_; try go_simp; try with_reducible rfl)
    simp only [Act.put, List.setIfInBounds_toArray, List.set_cons_zero, List.set_cons_succ]
    refine wpAnyH_take (i := 3) (v := ?_) (by simp only [List.getElem?_toArray, List.getElem?_cons_succ, List.getElem?_cons_zero]; rfl) (by kernel_rfl) (by kernel_rfl) (by kernel_rfl) (by intro _ _ _ h_; exact h_) (Or.inl ⟨by rfl, ?_⟩) (by assumption) ?_
    rotate_left 1
    focus (intro w_ hSw_; obtain ⟨y0, y1, y2, y3, y4⟩ := hSw_; try go_simp; try with_reducible rfl)
    simp only [Act.put, List.setIfInBounds_toArray, List.set_cons_zero, List.set_cons_succ]
    refine wpAnyH_take (i := 4) (v := ?_) (by simp only [List.getElem?_toArray, List.getElem?_cons_succ, List.getElem?_cons_zero]; rfl) (by kernel_rfl) (by kernel_rfl) (by kernel_rfl) (by intro _ _ _ h_; exact h_) (Or.inl ⟨by rfl, ?_⟩) (by assumption) ?_
    rotate_left 1
    focus (intro w_ hSw_; try go_simp; try with_reducible rfl)
    simp only [Act.put, List.setIfInBounds_toArray, List.set_cons_zero, List.set_cons_succ]
    refine wpAnyH_take (i := 5) (v := ?_) (by simp only [List.getElem?_toArray, List.getElem?_cons_succ, List.getElem?_cons_zero]; rfl) (by kernel_rfl) (by kernel_rfl) (by kernel_rfl) (by intro _ _ _ h_; exact h_) (Or.inl ⟨by rfl, ?_⟩) (by assumption) ?_
    rotate_left 1
    focus (intro w_ hSw_; try go_simp; try with_reducible rfl)
    simp only [Act.put, List.setIfInBounds_toArray, List.set_cons_zero, List.set_cons_succ]
    refine wpAnyH_take (i := 6) (v := ?_) (by simp only [List.getElem?_toArray, List.getElem?_cons_succ, List.getElem?_cons_zero]; rfl) (by kernel_rfl) (by kernel_rfl) (by kernel_rfl) (by intro _ _ _ h_; exact h_) (Or.inl ⟨by rfl, ?_⟩) (by assumption) ?_
    rotate_left 1
    focus (intro w_ hSw_; try go_simp; try with_reducible rfl)
    simp only [Act.put, List.setIfInBounds_toArray, List.set_cons_zero, List.set_cons_succ]
    refine wpAnyH_take (i := 7) (v := ?_) (by simp only [List.getElem?_toArray, List.getElem?_cons_succ, List.getElem?_cons_zero]; rfl) (by kernel_rfl) (by kernel_rfl) (by kernel_rfl) (by intro _ _ _ h_; exact h_) (Or.inl ⟨by rfl, ?_⟩) (by assumption) ?_
    rotate_left 1
    focus (intro w_ hSw_; obtain ⟨y0, y1, y2, y3, y4⟩ := hSw_; try go_simp; try with_reducible rfl)
    simp only [Act.put, List.setIfInBounds_toArray, List.set_cons_zero, List.set_cons_succ]
    refine wpAnyH_take (i := 8) (v := ?_) (by simp only [List.getElem?_toArray, List.getElem?_cons_succ, List.getElem?_cons_zero]; rfl) (by kernel_rfl) (by kernel_rfl) (by kernel_rfl) (by intro _ _ _ h_; exact h_) (Or.inl ⟨by rfl, ?_⟩) (by assumption) ?_
    rotate_left 1
    focus (intro w_ hSw_; try go_simp; try with_reducible rfl)
    simp only [Act.put, List.setIfInBounds_toArray, List.set_cons_zero, List.set_cons_succ]
    refine wpAnyH_ready (rs := [9]) (by kernel_rfl) (by simp) ?_
    refine AllReadyH.cons (by simp only [List.getElem?_toArray, List.getElem?_cons_succ, List.getElem?_cons_zero]; rfl) (fun K hK => ?_) AllReadyH.nil
    try go_simp
    refine hK.out _ _ (by first | exact UpX.of HUz.out.h | (rw [← hw5] at HUz; exact UpX.of HUz.out.h)) (fun hHeld => ?_)
    clear hK K
    try simp only [Act.put, List.setIfInBounds_toArray, List.set_cons_zero, List.set_cons_succ]
    refine wpAnyH_ready (rs := [10]) (by kernel_rfl) (by simp) ?_
    refine AllReadyH.cons (by simp only [List.getElem?_toArray, List.getElem?_cons_succ, List.getElem?_cons_zero]; rfl) (fun K hK => ?_) AllReadyH.nil
    try go_simp
    refine Hwr.out.mono ?_
    rintro e w6 ⟨rfl, hfl6, hf6⟩
    have hu6 := HUz.out.h.frm hf6 (fun e => e.elim H.out.n1 H.out.n2)
    have HU6 := Lib.hid (show UpA w6 u p mb (n + 2) s F3 from ⟨hu6, hfl6, Hpo2.out.1, by rw [Hpo2.out.2.1]; exact HU4.out.up, H.out.i, H.out.n1, H.out.n2⟩)
    have HFr6 := Lib.hid (show Frm (fun q => q = p ∨ q = mb) w w6 from (HFr.out.trans (Frm.later HBz.out)).trans hf6)
    clear hHeld hu6 hfl6 hf6 HUz HBz Hwr HUd
    go_wp2_with fail
    refine hK.out _ _ (UpX.of HU6.out.h) (fun hHeld => ?_)
    clear hK K
    try simp only [Act.put, List.setIfInBounds_toArray, List.set_cons_zero, List.set_cons_succ]
    refine wpAnyH_take (i := 11) (v := ?_) (by simp only [List.getElem?_toArray, List.getElem?_cons_succ, List.getElem?_cons_zero]; rfl) (by kernel_rfl) (by kernel_rfl) (by kernel_rfl) (by intro _ _ _ h_; exact h_) (Or.inl ⟨by rfl, ?_⟩) (by assumption) ?_
    rotate_left 1
    focus (intro w_ hSw_; try go_simp; try with_reducible rfl)
    simp only [Act.put, List.setIfInBounds_toArray, List.set_cons_zero, List.set_cons_succ]
    refine wpAnyH_done (by kernel_rfl) ?_ _
    clear hHeld
    go_wp2_with fail
    go_ret
    rw [HF2.out]
    exact ⟨rfl, HU6.out, HFr6.out⟩
  by_cases ha1 : a = 1
  · subst ha1
    have HX2 := Lib.hid (HB.new w (mec ⟨1, 0, 3, 1, 0⟩) 26)
    have HB2 := Lib.hid ((Below.refl w.heap.size w).alloc (Nat.le_refl _) (.cells (mec ⟨1, 0, 3, 1, 0⟩).toArray 26))
    obtain ⟨w2, hw2⟩ : ∃ w2, w.alloc (.cells (mec ⟨1, 0, 3, 1, 0⟩).toArray 26) = w2 := ⟨_, rfl⟩
    rw [hw2] at HX2 HB2
    unfold mec at hw2
    dsimp only at hw2
    rw [show ((1 : Nat) : Int) = 1 from rfl] at hw2
    go_enter Try.func19, Try.ntmps19
    go_upto_region 5 with fail
    try rw [hw2]
    obtain ⟨X, hX⟩ : ∃ X, w.heap.size = X := ⟨_, rfl⟩
    rw [hX] at HX2 ⊢
    clear hw2
    obtain ⟨M, hM⟩ : ∃ M : Me, ⟨1, 0, 3, 1, 0⟩ = M := ⟨_, rfl⟩
    have hMr : rightM M = true := by rw [← hM]; decide
    have hMs : M.seq < 4294967296 := by rw [← hM]; decide
    have hMf : encM (fresh 1) = encM M := by rw [← hM]; rfl
    rw [hM] at HX2
    clear hM
    obtain ⟨x0, x1, x2, x3, x4⟩ := Five.of HX2.out
    have He := Lib.hid (enc_ok M w2 hMr hMs)
    clear hMr hMs
    have hll := encM_len M
    obtain ⟨L, hL⟩ : ∃ L, encM M = L := ⟨_, rfl⟩
    rw [hL] at hll He hMf
    have HL := fun (_ : Unit) => Lib.hid hMf
    have Hll := fun (_ : Unit) => Lib.hid hll
    unfold mev at He
    have He := fun (_ : Unit) => He
    clear hL hll hMf
    go_wp2_with fail
    refine (He ()).out.mono ?_
    rintro e w3 ⟨g, C, rfl, hC, ho3, hb3⟩
    have HB3 := Lib.hid (HB2.out.trans (hb3.mono HB2.out.size))
    have hll := (Hll ()).out
    have hgb := own_blk ho3 (k := g) rfl
    have hr3 : Rd w3 (some ⟨g, 0, none⟩) L := by
      obtain ⟨a4, c4, he4, -, -, hr4⟩ := ho3.rd
      rw [hll] at he4
      cases he4
      exact hr4
    have Hr3 := Lib.hid hr3
    have HC3 := Lib.hid hC
    have Hg3 := Lib.hid (show w.heap.size ≤ g from Nat.le_trans HB2.out.size hgb.1)
    clear hb3 x0 x1 x2 x3 x4 He hll ho3 hr3 hC hgb HX2 HB2 hX
    go_upto_region 6 with fail
    have hd0 : Drn w3 w3.drew := ⟨1, rfl⟩
    have hU3 := H.out.later HB3.out
    have HUd := Lib.hid (hU3.later (hd0.below _))
    have HBd := Lib.hid (HB3.out.trans (hd0.below _))
    have hI := hU3.i.m
    unfold I64 at hI
    have hup := hU3.up.m
    have hsz := hU3.ok.s1
    have HI := Lib.hid (show I64 s.meta' ∧ I64 (s.meta' + 1) from ⟨hU3.i.m, by unfold I64; omega⟩)
    have e1 : IntKind.i64.wrap (s.meta' + 1) = s.meta' + 1 := IntWalk.i64_in _ (by omega)
    clear hU3 hI hup hsz
    cases ho : f.off
    case true =>
      have hF : formatF f s.meta' 1 = (f, 143) := by unfold formatF; rw [if_neg (by decide), ho, if_pos rfl]
      have HF := Lib.hid hF
      have hm0 : mayE f s.meta' = 143 := by unfold mayE; rw [ho, if_pos rfl]
      have Hwr := Lib.hid (writef_bad p mb n f s.meta' (some ⟨g, 0, none⟩) 512 C w3.drew HUd.out.fl (by rw [hm0]; decide))
      rw [hm0] at Hwr
      clear hF hm0 ho e1
      refine wp_region_held_drew (S := fun w' => UpX w' u p s) (by kernel_rfl) (UpX.of HUd.out.h) (fun hHeld => ?_)
      refine wpAnyH_take (i := 0) (v := ?_) (by simp only [List.getElem?_toArray, List.getElem?_cons_succ, List.getElem?_cons_zero]; rfl) (by kernel_rfl) (by kernel_rfl) (by kernel_rfl) (by intro _ _ _ h_; exact h_) (Or.inl ⟨by rfl, ?_⟩) (by assumption) ?_
      rotate_left 1
      focus (intro w_ hSw_; try go_simp; try with_reducible rfl)
      simp only [Act.put, List.setIfInBounds_toArray, List.set_cons_zero, List.set_cons_succ]
      refine wpAnyH_take (i := 1) (v := ?_) (by simp only [List.getElem?_toArray, List.getElem?_cons_succ, List.getElem?_cons_zero]; rfl) (by kernel_rfl) (by kernel_rfl) (by kernel_rfl) (by intro _ _ _ h_; exact h_) (Or.inl ⟨by rfl, ?_⟩) (by assumption) ?_
      rotate_left 1
      focus (intro w_ hSw_; try go_simp; try with_reducible rfl)
      simp only [Act.put, List.setIfInBounds_toArray, List.set_cons_zero, List.set_cons_succ]
      refine wpAnyH_take (i := 2) (v := ?_) (by simp only [List.getElem?_toArray, List.getElem?_cons_succ, List.getElem?_cons_zero]; rfl) (by kernel_rfl) (by kernel_rfl) (by kernel_rfl) (by intro _ _ _ h_; exact h_) (Or.inl ⟨by rfl, ?_⟩) (by assumption) ?_
      rotate_left 1
      focus (intro w_ hSw_; try go_simp; try with_reducible rfl)
      simp only [Act.put, List.setIfInBounds_toArray, List.set_cons_zero, List.set_cons_succ]
      refine wpAnyH_take (i := 3) (v := ?_) (by simp only [List.getElem?_toArray, List.getElem?_cons_succ, List.getElem?_cons_zero]; rfl) (by kernel_rfl) (by kernel_rfl) (by kernel_rfl) (by intro _ _ _ h_; exact h_) (Or.inl ⟨by rfl, ?_⟩) (by assumption) ?_
      rotate_left 1
      focus (intro w_ hSw_; obtain ⟨y0, y1, y2, y3, y4⟩ := hSw_; try go_simp; try with_reducible rfl)
      simp only [Act.put, List.setIfInBounds_toArray, List.set_cons_zero, List.set_cons_succ]
      refine wpAnyH_take (i := 4) (v := ?_) (by simp only [List.getElem?_toArray, List.getElem?_cons_succ, List.getElem?_cons_zero]; rfl) (by kernel_rfl) (by kernel_rfl) (by kernel_rfl) (by intro _ _ _ h_; exact h_) (Or.inl ⟨by rfl, ?_⟩) (by assumption) ?_
      rotate_left 1
      focus (intro w_ hSw_; try go_simp; try with_reducible rfl)
      simp only [Act.put, List.setIfInBounds_toArray, List.set_cons_zero, List.set_cons_succ]
      refine wpAnyH_take (i := 5) (v := ?_) (by simp only [List.getElem?_toArray, List.getElem?_cons_succ, List.getElem?_cons_zero]; rfl) (by kernel_rfl) (by kernel_rfl) (by kernel_rfl) (by intro _ _ _ h_; exact h_) (Or.inl ⟨by rfl, ?_⟩) (by assumption) ?_
      rotate_left 1
      focus (intro w_ hSw_; try go_simp; try with_reducible rfl)
      simp only [Act.put, List.setIfInBounds_toArray, List.set_cons_zero, List.set_cons_succ]
      refine wpAnyH_take (i := 6) (v := ?_) (by simp only [List.getElem?_toArray, List.getElem?_cons_succ, List.getElem?_cons_zero]; rfl) (by kernel_rfl) (by kernel_rfl) (by kernel_rfl) (by intro _ _ _ h_; exact h_) (Or.inl ⟨by rfl, ?_⟩) (by assumption) ?_
      rotate_left 1
      focus (intro w_ hSw_; try go_simp; try with_reducible rfl)
      simp only [Act.put, List.setIfInBounds_toArray, List.set_cons_zero, List.set_cons_succ]
      refine wpAnyH_take (i := 7) (v := ?_) (by simp only [List.getElem?_toArray, List.getElem?_cons_succ, List.getElem?_cons_zero]; rfl) (by kernel_rfl) (by kernel_rfl) (by kernel_rfl) (by intro _ _ _ h_; exact h_) (Or.inl ⟨by rfl, ?_⟩) (by assumption) ?_
      rotate_left 1
      focus (intro w_ hSw_; obtain ⟨y0, y1, y2, y3, y4⟩ := hSw_; try go_simp; try with_reducible rfl)
      simp only [Act.put, List.setIfInBounds_toArray, List.set_cons_zero, List.set_cons_succ]
      refine wpAnyH_take (i := 8) (v := ?_) (by simp only [List.getElem?_toArray, List.getElem?_cons_succ, List.getElem?_cons_zero]; rfl) (by kernel_rfl) (by kernel_rfl) (by kernel_rfl) (by intro _ _ _ h_; exact h_) (Or.inl ⟨by rfl, ?_⟩) (by assumption) ?_
      rotate_left 1
      focus (intro w_ hSw_; try go_simp; try with_reducible rfl)
      simp only [Act.put, List.setIfInBounds_toArray, List.set_cons_zero, List.set_cons_succ]
      refine wpAnyH_ready (rs := [9]) (by kernel_rfl) (by simp) ?_
      refine AllReadyH.cons (by simp only [List.getElem?_toArray, List.getElem?_cons_succ, List.getElem?_cons_zero]; rfl) (fun K hK => ?_) AllReadyH.nil
      try go_simp
      refine Hwr.out.mono ?_
      rintro e w4 ⟨rfl, rfl⟩
      go_wp2_with fail
      refine hK.out _ _ (UpX.of HUd.out.h) (fun hHeld => ?_)
      clear hK K
      try simp only [Act.put, List.setIfInBounds_toArray, List.set_cons_zero, List.set_cons_succ]
      refine wpAnyH_take (i := 10) (v := ?_) (by simp only [List.getElem?_toArray, List.getElem?_cons_succ, List.getElem?_cons_zero]; rfl) (by kernel_rfl) (by kernel_rfl) (by kernel_rfl) (by intro _ _ _ h_; exact h_) (Or.inl ⟨by rfl, ?_⟩) (by assumption) ?_
      rotate_left 1
      focus (intro w_ hSw_; try go_simp; try with_reducible rfl)
      simp only [Act.put, List.setIfInBounds_toArray, List.set_cons_zero, List.set_cons_succ]
      refine wpAnyH_done (by kernel_rfl) ?_ _
      clear hHeld Hwr
      go_wp2_with fail
      go_ret
      rw [HF.out]
      exact ⟨rfl, ⟨HUd.out.h, HUd.out.fl.mono (by omega), HUd.out.ok, HUd.out.up, HUd.out.i, HUd.out.n1, HUd.out.n2⟩, Frm.later HBd.out⟩
    have hm0 : mayE f s.meta' = 0 := by unfold mayE; rw [ho, if_neg (by decide), if_neg (by have := H.out.up.m; omega)]
    have Hwr := Lib.hid (writef_ok p mb n f s.meta' g 0 C L w3.drew HUd.out.fl H.out.ok HI.out.1 hm0 (Hll ()).out (hd0.rd Hr3.out) HC3.out (by have := Hn.out; omega) Hn.out.2.1 (by have := Hn.out; omega) (by have := H.out.lt; have := Hg3.out; omega))
    have Hpo := Lib.hid (put_ok23 (f := f) (k := s.meta') (l := L) H.out.ok (Hll ()).out)
    have hF : formatF f s.meta' 1 = (if (writeR f s.meta' L).2 ≠ 0 then writeR f s.meta' L else writeR (writeR f s.meta' L).1 (s.meta' + 1) z512b) := by
      unfold formatF
      rw [if_neg (by decide), ho, if_neg (by decide), (HL ()).out]
    have Hon := Lib.hid (fun h => (writeR_on (f := f) (k := s.meta') (l := L) h).trans ho)
    obtain ⟨W, hW⟩ : ∃ W, writeR f s.meta' L = W := ⟨_, rfl⟩
    rw [hW] at Hwr Hpo hF Hon
    obtain ⟨F2, e2⟩ := W
    dsimp only at Hwr Hpo hF Hon
    have HF := fun (_ : Unit) => Lib.hid hF
    clear hm0 ho hF hW
    refine wp_region_held_drew (S := fun w' => UpX w' u p s) (by kernel_rfl) (UpX.of HUd.out.h) (fun hHeld => ?_)
    refine wpAnyH_take (i := 0) (v := ?_) (by simp only [List.getElem?_toArray, List.getElem?_cons_succ, List.getElem?_cons_zero]; rfl) (by kernel_rfl) (by kernel_rfl) (by kernel_rfl) (by intro _ _ _ h_; exact h_) (Or.inl ⟨by rfl, ?_⟩) (by assumption) ?_
    rotate_left 1
    focus (intro w_ hSw_; try go_simp; try with_reducible rfl)
    simp only [Act.put, List.setIfInBounds_toArray, List.set_cons_zero, List.set_cons_succ]
    refine wpAnyH_take (i := 1) (v := ?_) (by simp only [List.getElem?_toArray, List.getElem?_cons_succ, List.getElem?_cons_zero]; rfl) (by kernel_rfl) (by kernel_rfl) (by kernel_rfl) (by intro _ _ _ h_; exact h_) (Or.inl ⟨by rfl, ?_⟩) (by assumption) ?_
    rotate_left 1
    focus (intro w_ hSw_; try go_simp; try with_reducible rfl)
    simp only [Act.put, List.setIfInBounds_toArray, List.set_cons_zero, List.set_cons_succ]
    refine wpAnyH_take (i := 2) (v := ?_) (by simp only [List.getElem?_toArray, List.getElem?_cons_succ, List.getElem?_cons_zero]; rfl) (by kernel_rfl) (by kernel_rfl) (by kernel_rfl) (by intro _ _ _ h_; exact h_) (Or.inl ⟨by rfl, ?_⟩) (by assumption) ?_
    rotate_left 1
    focus (intro w_ hSw_; try go_simp; try with_reducible rfl)
    simp only [Act.put, List.setIfInBounds_toArray, List.set_cons_zero, List.set_cons_succ]
    refine wpAnyH_take (i := 3) (v := ?_) (by simp only [List.getElem?_toArray, List.getElem?_cons_succ, List.getElem?_cons_zero]; rfl) (by kernel_rfl) (by kernel_rfl) (by kernel_rfl) (by intro _ _ _ h_; exact h_) (Or.inl ⟨by rfl, ?_⟩) (by assumption) ?_
    rotate_left 1
    focus (intro w_ hSw_; obtain ⟨y0, y1, y2, y3, y4⟩ := hSw_; try go_simp; try with_reducible rfl)
    simp only [Act.put, List.setIfInBounds_toArray, List.set_cons_zero, List.set_cons_succ]
    refine wpAnyH_take (i := 4) (v := ?_) (by simp only [List.getElem?_toArray, List.getElem?_cons_succ, List.getElem?_cons_zero]; rfl) (by kernel_rfl) (by kernel_rfl) (by kernel_rfl) (by intro _ _ _ h_; exact h_) (Or.inl ⟨by rfl, ?_⟩) (by assumption) ?_
    rotate_left 1
    focus (intro w_ hSw_; try go_simp; try with_reducible rfl)
    simp only [Act.put, List.setIfInBounds_toArray, List.set_cons_zero, List.set_cons_succ]
    refine wpAnyH_take (i := 5) (v := ?_) (by simp only [List.getElem?_toArray, List.getElem?_cons_succ, List.getElem?_cons_zero]; rfl) (by kernel_rfl) (by kernel_rfl) (by kernel_rfl) (by intro _ _ _ h_; exact h_) (Or.inl ⟨by rfl, ?_⟩) (by assumption) ?_
    rotate_left 1
    focus (intro w_ hSw_; try go_simp; try with_reducible rfl)
    simp only [Act.put, List.setIfInBounds_toArray, List.set_cons_zero, List.set_cons_succ]
    refine wpAnyH_take (i := 6) (v := ?_) (by simp only [List.getElem?_toArray, List.getElem?_cons_succ, List.getElem?_cons_zero]; rfl) (by kernel_rfl) (by kernel_rfl) (by kernel_rfl) (by intro _ _ _ h_; exact h_) (Or.inl ⟨by rfl, ?_⟩) (by assumption) ?_
    rotate_left 1
    focus (intro w_ hSw_; try go_simp; try with_reducible rfl)
    simp only [Act.put, List.setIfInBounds_toArray, List.set_cons_zero, List.set_cons_succ]
    refine wpAnyH_take (i := 7) (v := ?_) (by simp only [List.getElem?_toArray, List.getElem?_cons_succ, List.getElem?_cons_zero]; rfl) (by kernel_rfl) (by kernel_rfl) (by kernel_rfl) (by intro _ _ _ h_; exact h_) (Or.inl ⟨by rfl, ?_⟩) (by assumption) ?_
    rotate_left 1
    focus (intro w_ hSw_; obtain ⟨y0, y1, y2, y3, y4⟩ := hSw_; try go_simp; try with_reducible rfl)
    simp only [Act.put, List.setIfInBounds_toArray, List.set_cons_zero, List.set_cons_succ]
    refine wpAnyH_take (i := 8) (v := ?_) (by simp only [List.getElem?_toArray, List.getElem?_cons_succ, List.getElem?_cons_zero]; rfl) (by kernel_rfl) (by kernel_rfl) (by kernel_rfl) (by intro _ _ _ h_; exact h_) (Or.inl ⟨by rfl, ?_⟩) (by assumption) ?_
    rotate_left 1
    focus (intro w_ hSw_; try go_simp; try with_reducible rfl)
    simp only [Act.put, List.setIfInBounds_toArray, List.set_cons_zero, List.set_cons_succ]
    refine wpAnyH_ready (rs := [9]) (by kernel_rfl) (by simp) ?_
    refine AllReadyH.cons (by simp only [List.getElem?_toArray, List.getElem?_cons_succ, List.getElem?_cons_zero]; rfl) (fun K hK => ?_) AllReadyH.nil
    try go_simp
    refine Hwr.out.mono ?_
    rintro e w4 ⟨rfl, hfl4, hf4⟩
    have hu4 := HUd.out.h.frm hf4 (fun e => e.elim H.out.n1 H.out.n2)
    have HU4 := Lib.hid (show UpA w4 u p mb (n + 1) s F2 from ⟨hu4, hfl4, Hpo.out.1, by rw [Hpo.out.2.1]; exact H.out.up, H.out.i, H.out.n1, H.out.n2⟩)
    have HFr := Lib.hid (show Frm (fun q => q = p ∨ q = mb) w w4 from (Frm.later HBd.out).trans hf4)
    clear hHeld hu4 hfl4 hf4 HUd HBd Hwr
    go_wp2_with fail
    refine hK.out _ _ (UpX.of HU4.out.h) (fun hHeld => ?_)
    clear hK K
    try simp only [Act.put, List.setIfInBounds_toArray, List.set_cons_zero, List.set_cons_succ]
    refine wpAnyH_take (i := 10) (v := ?_) (by simp only [List.getElem?_toArray, List.getElem?_cons_succ, List.getElem?_cons_zero]; rfl) (by kernel_rfl) (by kernel_rfl) (by kernel_rfl) (by intro _ _ _ h_; exact h_) (Or.inl ⟨by rfl, ?_⟩) (by assumption) ?_
    rotate_left 1
    focus (intro w_ hSw_; try go_simp; try with_reducible rfl)
    simp only [Act.put, List.setIfInBounds_toArray, List.set_cons_zero, List.set_cons_succ]
    refine wpAnyH_done (by kernel_rfl) ?_ _
    clear hHeld hd0
    by_cases he2 : e2 = 0
    case neg =>
      have hF := (HF ()).out
      rw [if_pos he2] at hF
      have HF2 := Lib.hid hF
      clear hF HF
      go_wp2_with fail
      go_ret
      rw [HF2.out]
      exact ⟨rfl, ⟨HU4.out.h, HU4.out.fl.mono (by omega), HU4.out.ok, HU4.out.up, HU4.out.i, HU4.out.n1, HU4.out.n2⟩, HFr.out⟩
    subst he2
    have hF := (HF ()).out
    rw [if_neg (fun h => h rfl)] at hF
    have HF2 := Lib.hid hF
    clear hF HF
    have hmk := mk512b
    go_upto_region 9 with fail
    have hd0 : Drn w4 w4.drew := ⟨1, rfl⟩
    have HUd := Lib.hid (HU4.out.later (hd0.below _))
    have hbz := (Below.refl w4.drew.heap.size w4.drew).alloc (Nat.le_refl _) (.cells (z512b.map bv).toArray 5)
    have HUz := Lib.hid (HUd.out.later hbz)
    have HBz := Lib.hid ((hd0.below w4.heap.size).trans hbz)
    have Hrz := Lib.hid (Rd.new w4.drew z512b 5 (0, 0))
    obtain ⟨w5, hw5⟩ : ∃ w5, w4.drew.alloc (.cells (z512b.map bv).toArray 5) = w5 := ⟨_, rfl⟩
    rw [hw5] at HUz HBz Hrz
    have Hzp : Hid (w4.drew.heap.size ≠ p) := Lib.hid (by have := HU4.out.lt; show w4.heap.size ≠ p; omega)
    obtain ⟨Z, hZ⟩ : ∃ Z, w4.drew.heap.size = Z := ⟨_, rfl⟩
    rw [hZ] at Hrz Hzp
    have hm1 : mayE F2 (s.meta' + 1) = 0 := by unfold mayE; rw [Hon.out rfl, if_neg (by decide), if_neg (by have := HU4.out.up.m; omega)]
    have Hwr := Lib.hid (writef_ok p mb (n + 1) F2 (s.meta' + 1) Z 0 512 z512b w5 HUz.out.fl HU4.out.ok HI.out.2 hm1 (List.length_replicate ..) Hrz.out (Nat.le_refl _) (by have := Hn.out; omega) (by have := Hn.out; have := Hpo.out; omega) (by have := Hn.out; have := Hpo.out; omega) Hzp.out)
    have Hpo2 := Lib.hid (put_ok23 (f := F2) (k := s.meta' + 1) (l := z512b) HU4.out.ok (List.length_replicate ..))
    obtain ⟨W2, hW2⟩ : ∃ W2, writeR F2 (s.meta' + 1) z512b = W2 := ⟨_, rfl⟩
    rw [hW2] at Hwr Hpo2 HF2
    obtain ⟨F3, e3⟩ := W2
    dsimp only at Hwr Hpo2
    clear hbz hm1 hW2
    refine wp_region_held_drew (S := fun w' => UpX w' u p s) (by kernel_rfl) (UpX.of HUd.out.h) (fun hHeld => ?_)
    refine wpAnyH_take (i := 0) (v := ?_) (by simp only [List.getElem?_toArray, List.getElem?_cons_succ, List.getElem?_cons_zero]; rfl) (by kernel_rfl) (by kernel_rfl) (by kernel_rfl) (by intro _ _ _ h_; exact h_) (Or.inl ⟨by rfl, ?_⟩) (by assumption) ?_
    rotate_left 1
    focus (intro w_ hSw_; try go_simp; try with_reducible rfl)
    simp only [Act.put, List.setIfInBounds_toArray, List.set_cons_zero, List.set_cons_succ]
    refine wpAnyH_take (i := 1) (v := ?_) (by simp only [List.getElem?_toArray, List.getElem?_cons_succ, List.getElem?_cons_zero]; rfl) (by kernel_rfl) (by kernel_rfl) (by kernel_rfl) (by intro _ _ _ h_; exact h_) (Or.inl ⟨by rfl, ?_⟩) (by assumption) ?_
    rotate_left 1
    focus (intro w_ hSw_; try go_simp; try with_reducible rfl)
    simp only [Act.put, List.setIfInBounds_toArray, List.set_cons_zero, List.set_cons_succ]
    refine wpAnyH_take (i := 2) (v := ?_) (by simp only [List.getElem?_toArray, List.getElem?_cons_succ, List.getElem?_cons_zero]; rfl) (by kernel_rfl) (by kernel_rfl) (by kernel_rfl) (by intro _ _ _ h_; exact h_) (Or.inl ⟨by rfl, ?_⟩) (by assumption) ?_
    rotate_left 1
    focus (intro w_ hSw_; try go_simp; try with_reducible rfl)
    simp only [Act.put, List.setIfInBounds_toArray, List.set_cons_zero, List.set_cons_succ]
    refine wpAnyH_take (i := 3) (v := ?_) (by simp only [List.getElem?_toArray, List.getElem?_cons_succ, List.getElem?_cons_zero]; rfl) (by kernel_rfl) (by kernel_rfl) (by kernel_rfl) (by intro _ _ _ h_; exact h_) (Or.inl ⟨by rfl, ?_⟩) (by assumption) ?_
    rotate_left 1
    focus (intro w_ hSw_; obtain ⟨y0, y1, y2, y3, y4⟩ := hSw_; try go_simp; try with_reducible rfl)
    simp only [Act.put, List.setIfInBounds_toArray, List.set_cons_zero, List.set_cons_succ]
    refine wpAnyH_take (i := 4) (v := ?_) (by simp only [List.getElem?_toArray, List.getElem?_cons_succ, List.getElem?_cons_zero]; rfl) (by kernel_rfl) (by kernel_rfl) (by kernel_rfl) (by intro _ _ _ h_; exact h_) (Or.inl ⟨by rfl, ?_⟩) (by assumption) ?_
    rotate_left 1
    focus (intro w_ hSw_; try go_simp; try with_reducible rfl)
    simp only [Act.put, List.setIfInBounds_toArray, List.set_cons_zero, List.set_cons_succ]
    refine wpAnyH_take (i := 5) (v := ?_) (by simp only [List.getElem?_toArray, List.getElem?_cons_succ, List.getElem?_cons_zero]; rfl) (by kernel_rfl) (by kernel_rfl) (by kernel_rfl) (by intro _ _ _ h_; exact h_) (Or.inl ⟨by rfl, ?_⟩) (by assumption) ?_
    rotate_left 1
    focus (intro w_ hSw_; try go_simp; try with_reducible rfl)
    simp only [Act.put, List.setIfInBounds_toArray, List.set_cons_zero, List.set_cons_succ]
    refine wpAnyH_take (i := 6) (v := ?_) (by simp only [List.getElem?_toArray, List.getElem?_cons_succ, List.getElem?_cons_zero]; rfl) (by kernel_rfl) (by kernel_rfl) (by kernel_rfl) (by intro _ _ _ h_; exact h_) (Or.inl ⟨by rfl, ?_⟩) (by assumption) ?_
    rotate_left 1
    focus (intro w_ hSw_; try go_simp; try with_reducible rfl)
    simp only [Act.put, List.setIfInBounds_toArray, List.set_cons_zero, List.set_cons_succ]
    refine wpAnyH_take (i := 7) (v := ?_) (by simp only [List.getElem?_toArray, List.getElem?_cons_succ, List.getElem?_cons_zero]; rfl) (by kernel_rfl) (by kernel_rfl) (by kernel_rfl) (by intro _ _ _ h_; exact h_) (Or.inl ⟨by rfl, ?_⟩) (by assumption) ?_
    rotate_left 1
    focus (intro w_ hSw_; obtain ⟨y0, y1, y2, y3, y4⟩ := hSw_; try go_simp; try with_reducible rfl)
    simp only [Act.put, List.setIfInBounds_toArray, List.set_cons_zero, List.set_cons_succ]
    refine wpAnyH_take (i := 8) (v := ?_) (by simp only [List.getElem?_toArray, List.getElem?_cons_succ, List.getElem?_cons_zero]; rfl) (by kernel_rfl) (by kernel_rfl) (by kernel_rfl) (by intro _ _ _ h_; exact h_) (Or.inl ⟨by rfl, ?_⟩) (by assumption) ?_
    rotate_left 1
    focus (intro w_ hSw_; try go_simp; try with_reducible rfl)
    simp only [Act.put, List.setIfInBounds_toArray, List.set_cons_zero, List.set_cons_succ]
    refine wpAnyH_ready (rs := [9]) (by kernel_rfl) (by simp) ?_
    refine AllReadyH.cons (by simp only [List.getElem?_toArray, List.getElem?_cons_succ, List.getElem?_cons_zero]; rfl) (fun K hK => ?_) AllReadyH.nil
    try go_simp
    refine hK.out _ _ (by first | exact UpX.of HUz.out.h | (rw [← hw5] at HUz; exact UpX.of HUz.out.h)) (fun hHeld => ?_)
    clear hK K
    try simp only [Act.put, List.setIfInBounds_toArray, List.set_cons_zero, List.set_cons_succ]
    refine wpAnyH_ready (rs := [10]) (by kernel_rfl) (by simp) ?_
    refine AllReadyH.cons (by simp only [List.getElem?_toArray, List.getElem?_cons_succ, List.getElem?_cons_zero]; rfl) (fun K hK => ?_) AllReadyH.nil
    try go_simp
    refine Hwr.out.mono ?_
    rintro e w6 ⟨rfl, hfl6, hf6⟩
    have hu6 := HUz.out.h.frm hf6 (fun e => e.elim H.out.n1 H.out.n2)
    have HU6 := Lib.hid (show UpA w6 u p mb (n + 2) s F3 from ⟨hu6, hfl6, Hpo2.out.1, by rw [Hpo2.out.2.1]; exact HU4.out.up, H.out.i, H.out.n1, H.out.n2⟩)
    have HFr6 := Lib.hid (show Frm (fun q => q = p ∨ q = mb) w w6 from (HFr.out.trans (Frm.later HBz.out)).trans hf6)
    clear hHeld hu6 hfl6 hf6 HUz HBz Hwr HUd
    go_wp2_with fail
    refine hK.out _ _ (UpX.of HU6.out.h) (fun hHeld => ?_)
    clear hK K
    try simp only [Act.put, List.setIfInBounds_toArray, List.set_cons_zero, List.set_cons_succ]
    refine wpAnyH_take (i := 11) (v := ?_) (by simp only [List.getElem?_toArray, List.getElem?_cons_succ, List.getElem?_cons_zero]; rfl) (by kernel_rfl) (by kernel_rfl) (by kernel_rfl) (by intro _ _ _ h_; exact h_) (Or.inl ⟨by rfl, ?_⟩) (by assumption) ?_
    rotate_left 1
    focus (intro w_ hSw_; try go_simp; try with_reducible rfl)
    simp only [Act.put, List.setIfInBounds_toArray, List.set_cons_zero, List.set_cons_succ]
    refine wpAnyH_done (by kernel_rfl) ?_ _
    clear hHeld
    go_wp2_with fail
    go_ret
    rw [HF2.out]
    exact ⟨rfl, HU6.out, HFr6.out⟩
  have hF : formatF f s.meta' a = (f, 1) := by unfold formatF; rw [if_pos ⟨ha0, ha1⟩]
  have HF := Lib.hid hF
  have g0 : (a != 0) = true := bne_iff_ne.2 ha0
  have g1 : (a != 1) = true := bne_iff_ne.2 ha1
  clear hF
  go_enter Try.func19, Try.ntmps19
  go_wp2_with fail
  go_ret
  rw [HF.out]
  exact ⟨rfl, ⟨H.out.h, H.out.fl.mono (by omega), H.out.ok, H.out.up, H.out.i, H.out.n1, H.out.n2⟩, Frm.refl _ _⟩
end Go.Proofs.Ytnmeidmiijcniaa
