/- The updater's metadata: current and Load of the program. No condition. -/
import Derived.Test.YtnmeidmiijcniaaFwO
import Derived.Test.YtnmeidmiijcniaaFwD
set_option linter.unusedVariables false
set_option linter.unusedSimpArgs false
namespace Go.Proofs.Ytnmeidmiijcniaa
open Go.RowKit
attribute [local go_sem ↓] build_m Go.wp_at_zero Go.wp_at_succ
/-- at u lies an updater of the flash at p -/
structure UpA (w : World) (u p mb n : Nat) (s : Up) (f : Fl) : Prop where
  h : HB w u 99 (upc p s)
  fl : FlA w p mb n f
  ok : f.Ok
  up : UpOk s f.size
  i : UpI s
  n1 : u ≠ p
  n2 : u ≠ mb
theorem UpA.later {w w' : World} {u p mb n : Nat} {s : Up} {f : Fl} (h : UpA w u p mb n s f) (hb : Below w.heap.size w w') : UpA w' u p mb n s f := ⟨h.h.later hb, h.fl.later hb, h.ok, h.up, h.i, h.n1, h.n2⟩
structure UpX (w : World) (u p : Nat) (s : Up) : Prop where
  c0 : w.cell? ⟨u, 0, none⟩ = some (.pointer (some ⟨p, 0, none⟩))
  c1 : w.cell? ⟨u, 1, none⟩ = some (.int .i64 s.meta')
  c2 : w.cell? ⟨u, 2, none⟩ = some (.int .i64 s.k0)
  c3 : w.cell? ⟨u, 3, none⟩ = some (.int .i64 s.k1)
  c4 : w.cell? ⟨u, 4, none⟩ = some (.int .i64 s.blocks)
theorem UpX.of {w : World} {u p : Nat} {s : Up} {t : TypeId} (h : HB w u t (upc p s)) : UpX w u p s := ⟨h.cell rfl, h.cell rfl, h.cell rfl, h.cell rfl, h.cell rfl⟩
/-- what is the best so far, and where it was read -/
def accR (f : Fl) (m : Int) : Nat → Me × Int
  | 0 => (⟨0, 0, 0, 0, 0⟩, -1)
  | k + 1 => match decM (readF f (m + k)) with
    | none => accR f m k
    | some x => if (accR f m k).2 < 0 ∨ (accR f m k).1.seq < x.seq then (x, (k : Int)) else accR f m k
def curR (f : Fl) (m : Int) : Option (Me × Int) := cur2 (decM (readF f m)) (decM (readF f (m + 1)))
def curE (f : Fl) (m : Int) : Me × Int × Int :=
  if f.off then (default, 0, 143) else match curR f m with
    | none => (default, 0, 231)
    | some (x, k) => (x, k, 0)
theorem acc_two (f : Fl) (m : Int) : curR f m = if (accR f m 2).2 < 0 then none else some (accR f m 2) := by
  unfold curR
  have e1 : m + ((0 : Nat) : Int) = m := by omega
  have e2 : m + ((1 : Nat) : Int) = m + 1 := by omega
  simp only [accR, e1, e2]
  cases h0 : decM (readF f m) with
  | none =>
    cases h1 : decM (readF f (m + 1)) with
    | none => rfl
    | some y => simp [cur2]
  | some x =>
    cases h1 : decM (readF f (m + 1)) with
    | none => simp [cur2]
    | some y =>
      simp only [cur2]
      by_cases hs : x.seq < y.seq
      · simp [hs]
      · simp [hs]
theorem acc_from (f : Fl) (m : Int) : ∀ k, -1 ≤ (accR f m k).2 ∧ (accR f m k).2 ≤ k
  | 0 => ⟨show (-1 : Int) ≤ -1 by decide, show (-1 : Int) ≤ 0 by decide⟩
  | k + 1 => by
    have ih := acc_from f m k
    simp only [accR]
    split
    · omega
    · split
      · simp only; omega
      · omega
structure CuIn (f : Fl) (m : Int) (w1 : World) (B Y : Nat) (fv kv : Value) (wr : World) : Prop where
  x : ∃ k : Nat, k ≤ 2 ∧ kv = .int .i64 k ∧ fv = .int .i64 (accR f m k).2 ∧ HB wr B 26 (mec (accR f m k).1) ∧ HB wr Y 26 mec0 ∧ Below Y w1 wr ∧ (0 < k → f.off = false)
def curV (t : Me × Int × Int) : Value := .tuple #[mev t.1, .int .i64 t.2.1, .int .i64 t.2.2]
set_option maxRecDepth 100000 in
set_option maxHeartbeats 2000000 in
theorem current_any (u p mb n : Nat) (s : Up) (f : Fl) (w : World) (h : UpA w u p mb n s f) :
    Calls Try.prog 50 #[.pointer (some ⟨u, 0, none⟩)] w fun e w' => e = .returned (curV (curE f s.meta')) ∧ Below w.heap.size w w' := by
  have hz := run_buildM0
  have H := Lib.hid h
  have HY := Lib.hid (HB.new w mec0 26)
  have HB1 := Lib.hid ((Below.refl w.heap.size w).alloc (Nat.le_refl _) (.cells mec0.toArray 26))
  obtain ⟨w1, hw1⟩ : ∃ w1, w.alloc (.cells mec0.toArray 26) = w1 := ⟨_, rfl⟩
  rw [hw1] at HY HB1
  obtain ⟨Y, hY⟩ : ∃ Y, w.heap.size = Y := ⟨_, rfl⟩
  rw [hY] at HY HB1
  have HC := Lib.hid (HB.new w1 mec0 26)
  have hb2 := (Below.refl w1.heap.size w1).alloc (Nat.le_refl _) (.cells mec0.toArray 26)
  have HYw := Lib.hid (HY.out.later hb2)
  have HYl := Lib.hid (show Y < w1.heap.size from HY.out.lt)
  obtain ⟨w2, hw2⟩ : ∃ w2, w1.alloc (.cells mec0.toArray 26) = w2 := ⟨_, rfl⟩
  rw [hw2] at HC HYw hb2
  obtain ⟨B, hB⟩ : ∃ B, w1.heap.size = B := ⟨_, rfl⟩
  rw [hB] at HC HYl
  have HB2 := Lib.hid (HB1.out.trans (hb2.mono (Nat.le_of_lt HY.out.lt)))
  have HYy := fun (_ : Unit) => Lib.hid hY
  have HU := Lib.hid (fun w' (hb : Below Y w w') => h.later (hb.mono (by rw [hY]; exact Nat.le_refl _)))
  rw [hY]
  unfold mec0 at hw1 hw2
  clear h hb2
  go_enter Try.func50, Try.ntmps50
  go_upto_region 6 with fail
  clear hw1 hw2 hB
  go_loopw [6, 15] (fun fv kv wr => CuIn f s.meta' w2 B Y fv kv wr) (fun _ kv _ => 2 - (intOf kv).toNat)
  case atStart => exact ⟨0, by decide, rfl, rfl, HC.out, HYw.out, Below.refl _ _, fun h => absurd h (by omega)⟩
  case round =>
    obtain ⟨k, hk, rfl, rfl, hbest, hyy, hb, hon⟩ := hrel
    have Hbest := Lib.hid hbest
    have HYz := Lib.hid hyy
    have Hb := Lib.hid (HB2.out.trans hb)
    have Hbw := Lib.hid hb
    have hfr := acc_from f s.meta' k
    have Hfr := Lib.hid hfr
    have Hon := Lib.hid hon
    clear hbest hyy hb hfr hon
    by_cases hk2 : k < 2
    · have q1 : (k : Int) < 2 := by omega
      have hU := HU.out wr Hb.out
      have hI := hU.i.m
      unfold I64 at hI
      have hup := hU.up.m
      have hsz := hU.ok.s1
      have e1 : IntKind.i64.wrap (s.meta' + (k : Int)) = s.meta' + (k : Int) := IntWalk.i64_in _ (by omega)
      have hd0 : Drn wr wr.drew := ⟨1, rfl⟩
      have HUd := Lib.hid (hU.later (hd0.below _))
      have hm : f.off = false → mayE f (s.meta' + (k : Int)) = 0 := fun ho => by unfold mayE; rw [ho, if_neg (by decide), if_neg (by omega)]
      have hoff : f.off = true → mayE f (s.meta' + (k : Int)) = 143 := fun ho => by unfold mayE; rw [ho, if_pos rfl]
      have hkI : I64 (s.meta' + (k : Int)) := by unfold I64; omega
      obtain ⟨mk, hmk⟩ : ∃ mk, s.meta' + (k : Int) = mk := ⟨_, rfl⟩
      rw [hmk] at e1 hm hoff hkI
      have Hmk := fun (_ : Unit) => Lib.hid hmk
      have Hm := Lib.hid hm
      have Hoff := Lib.hid hoff
      have HkI := Lib.hid hkI
      clear hU hI hup hsz hm hoff hkI
      have hacc : accR f s.meta' (k + 1) = match decM (readF f mk) with
        | none => accR f s.meta' k
        | some x => if (accR f s.meta' k).2 < 0 ∨ (accR f s.meta' k).1.seq < x.seq then (x, (k : Int)) else accR f s.meta' k := by
        simp only [accR]; rw [(Hmk ()).out]
      obtain ⟨bm, hbm⟩ : ∃ bm, (accR f s.meta' k).1 = bm := ⟨_, rfl⟩
      obtain ⟨fr, hfr⟩ : ∃ fr, (accR f s.meta' k).2 = fr := ⟨_, rfl⟩
      rw [hbm, hfr] at hacc
      rw [hbm] at Hbest
      rw [hfr] at Hfr ⊢
      have HP := fun (_ : Unit) => Lib.hid (show accR f s.meta' k = (bm, fr) by rw [← hbm, ← hfr])
      have Hacc := fun (_ : Unit) => Lib.hid hacc
      clear hacc hbm hfr
      go_upto_region 8 with fail
      refine wp_region_held_drew (S := fun w' => UpX w' u p s) (by kernel_rfl) (UpX.of HUd.out.h) (fun hHeld => ?_)
      refine wpAnyH_take (i := 0) (v := ?_) (by simp only [List.getElem?_toArray, List.getElem?_cons_succ, List.getElem?_cons_zero]; rfl) (by kernel_rfl) (by kernel_rfl) (by kernel_rfl) (by intro _ _ _ h_; exact h_) (Or.inl ⟨by rfl, ?_⟩) (by assumption) ?_
      rotate_left 1
      focus (intro w_ hSw_; try go_simp; try with_reducible rfl)
      simp only [Act.put, List.setIfInBounds_toArray, List.set_cons_zero, List.set_cons_succ]
      refine wpAnyH_take (i := 1) (v := ?_) (by simp only [List.getElem?_toArray, List.getElem?_cons_succ, List.getElem?_cons_zero]; rfl) (by kernel_rfl) (by kernel_rfl) (by kernel_rfl) (by intro _ _ _ h_; exact h_) (Or.inl ⟨by rfl, ?_⟩) (by assumption) ?_
      rotate_left 1
      focus (intro w_ hSw_; try go_simp; try with_reducible rfl)
      simp only [Act.put, List.setIfInBounds_toArray, List.set_cons_zero, List.set_cons_succ]
      refine wpAnyH_take (i := 2) (v := ?_) (by simp only [List.getElem?_toArray, List.getElem?_cons_succ, List.getElem?_cons_zero]; rfl) (by kernel_rfl) (by kernel_rfl) (by kernel_rfl) (by intro _ _ _ h_; exact h_) (Or.inl ⟨by rfl, ?_⟩) (by assumption) ?_
      rotate_left 1
      focus (intro w_ hSw_; try go_simp; try with_reducible rfl)
      simp only [Act.put, List.setIfInBounds_toArray, List.set_cons_zero, List.set_cons_succ]
      refine wpAnyH_take (i := 3) (v := ?_) (by simp only [List.getElem?_toArray, List.getElem?_cons_succ, List.getElem?_cons_zero]; rfl) (by kernel_rfl) (by kernel_rfl) (by kernel_rfl) (by intro _ _ _ h_; exact h_) (Or.inl ⟨by rfl, ?_⟩) (by assumption) ?_
      rotate_left 1
      focus (intro w_ hSw_; obtain ⟨y0, y1, y2, y3, y4⟩ := hSw_; try go_simp; try with_reducible rfl)
      simp only [Act.put, List.setIfInBounds_toArray, List.set_cons_zero, List.set_cons_succ]
      refine wpAnyH_take (i := 4) (v := ?_) (by simp only [List.getElem?_toArray, List.getElem?_cons_succ, List.getElem?_cons_zero]; rfl) (by kernel_rfl) (by kernel_rfl) (by kernel_rfl) (by intro _ _ _ h_; exact h_) (Or.inl ⟨by rfl, ?_⟩) (by assumption) ?_
      rotate_left 1
      focus (intro w_ hSw_; try go_simp; try with_reducible rfl)
      simp only [Act.put, List.setIfInBounds_toArray, List.set_cons_zero, List.set_cons_succ]
      refine wpAnyH_take (i := 5) (v := ?_) (by simp only [List.getElem?_toArray, List.getElem?_cons_succ, List.getElem?_cons_zero]; rfl) (by kernel_rfl) (by kernel_rfl) (by kernel_rfl) (by intro _ _ _ h_; exact h_) (Or.inl ⟨by rfl, ?_⟩) (by assumption) ?_
      rotate_left 1
      focus (intro w_ hSw_; try go_simp; try with_reducible rfl)
      simp only [Act.put, List.setIfInBounds_toArray, List.set_cons_zero, List.set_cons_succ]
      refine wpAnyH_take (i := 6) (v := ?_) (by simp only [List.getElem?_toArray, List.getElem?_cons_succ, List.getElem?_cons_zero]; rfl) (by kernel_rfl) (by kernel_rfl) (by kernel_rfl) (by intro _ _ _ h_; exact h_) (Or.inl ⟨by rfl, ?_⟩) (by assumption) ?_
      rotate_left 1
      focus (intro w_ hSw_; try go_simp; try with_reducible rfl)
      simp only [Act.put, List.setIfInBounds_toArray, List.set_cons_zero, List.set_cons_succ]
      refine wpAnyH_take (i := 7) (v := ?_) (by simp only [List.getElem?_toArray, List.getElem?_cons_succ, List.getElem?_cons_zero]; rfl) (by kernel_rfl) (by kernel_rfl) (by kernel_rfl) (by intro _ _ _ h_; exact h_) (Or.inl ⟨by rfl, ?_⟩) (by assumption) ?_
      rotate_left 1
      focus (intro w_ hSw_; obtain ⟨y0, y1, y2, y3, y4⟩ := hSw_; try go_simp; try with_reducible rfl)
      simp only [Act.put, List.setIfInBounds_toArray, List.set_cons_zero, List.set_cons_succ]
      refine wpAnyH_take (i := 8) (v := ?_) (by simp only [List.getElem?_toArray, List.getElem?_cons_succ, List.getElem?_cons_zero]; rfl) (by kernel_rfl) (by kernel_rfl) (by kernel_rfl) (by intro _ _ _ h_; exact h_) (Or.inl ⟨by rfl, ?_⟩) (by assumption) ?_
      rotate_left 1
      focus (intro w_ hSw_; try go_simp; try with_reducible rfl)
      simp only [Act.put, List.setIfInBounds_toArray, List.set_cons_zero, List.set_cons_succ]
      refine wpAnyH_take (i := 9) (v := ?_) (by simp only [List.getElem?_toArray, List.getElem?_cons_succ, List.getElem?_cons_zero]; rfl) (by kernel_rfl) (by kernel_rfl) (by kernel_rfl) (by intro _ _ _ h_; exact h_) (Or.inl ⟨by rfl, ?_⟩) (by assumption) ?_
      rotate_left 1
      focus (intro w_ hSw_; try go_simp; try with_reducible rfl)
      simp only [Act.put, List.setIfInBounds_toArray, List.set_cons_zero, List.set_cons_succ]
      refine wpAnyH_ready (rs := [10]) (by kernel_rfl) (by simp) ?_
      refine AllReadyH.cons (by simp only [List.getElem?_toArray, List.getElem?_cons_succ, List.getElem?_cons_zero]; rfl) (fun K hK => ?_) AllReadyH.nil
      go_simp
      cases ho : f.off
      · have Hrd := Lib.hid (readf_ok p mb n f mk wr.drew HUd.out.fl HUd.out.ok HkI.out (Hm.out ho))
        refine Hrd.out.mono ?_
        rintro e w5 ⟨rfl, hg5, hb5⟩
        have hb5' := (hd0.below wr.heap.size).trans hb5
        have hg5' := hg5
        obtain ⟨G, hG⟩ : ∃ G, wr.drew.heap.size = G := ⟨_, rfl⟩
        rw [hG] at hg5 ⊢
        have hll := readF_len HUd.out.ok mk
        obtain ⟨l, hl⟩ : ∃ l, readF f mk = l := ⟨_, rfl⟩
        rw [hl] at hg5 hll
        have hac2 := (Hacc ()).out
        rw [hl] at hac2
        have Hacc := fun (_ : Unit) => Lib.hid hac2
        clear hac2
        have Hdc := Lib.hid (dec_any (some ⟨G, 0, none⟩) 512 512 l w5 hll (Nat.le_refl _) (by decide) (HB.rd hg5))
        have HU5 := Lib.hid (UpX.of (HUd.out.h.later hb5))
        have HY5 := Lib.hid (HYz.out.later hb5')
        have HB5 := Lib.hid (Hbest.out.later hb5')
        have Hb6 := Lib.hid (Hbw.out.trans (hb5'.mono (Nat.le_of_lt HYz.out.lt)))
        clear hb5 hb5' hg5 hg5' hG hll hl Hrd HUd Hbest HYz Hbw Hb hd0 Hm Hoff HkI Hmk e1
        have Ho := Lib.hid ho
        clear ho
        go_wp2_with fail
        refine hK.out _ _ HU5.out (fun hHeld => ?_)
        clear hK K
        try simp only [Act.put, List.setIfInBounds_toArray, List.set_cons_zero, List.set_cons_succ]
        refine wpAnyH_take (i := 11) (v := ?_) (by simp only [List.getElem?_toArray, List.getElem?_cons_succ, List.getElem?_cons_zero]; rfl) (by kernel_rfl) (by kernel_rfl) (by kernel_rfl) (by intro _ _ _ h_; exact h_) (Or.inl ⟨by rfl, ?_⟩) (by assumption) ?_
        rotate_left 1
        focus (intro w_ hSw_; try go_simp; try with_reducible rfl)
        simp only [Act.put, List.setIfInBounds_toArray, List.set_cons_zero, List.set_cons_succ]
        refine wpAnyH_take (i := 12) (v := ?_) (by simp only [List.getElem?_toArray, List.getElem?_cons_succ, List.getElem?_cons_zero]; rfl) (by kernel_rfl) (by kernel_rfl) (by kernel_rfl) (by intro _ _ _ h_; exact h_) (Or.inl ⟨by rfl, ?_⟩) (by assumption) ?_
        rotate_left 1
        focus (intro w_ hSw_; try go_simp; try with_reducible rfl)
        simp only [Act.put, List.setIfInBounds_toArray, List.set_cons_zero, List.set_cons_succ]
        refine wpAnyH_take (i := 13) (v := ?_) (by simp only [List.getElem?_toArray, List.getElem?_cons_succ, List.getElem?_cons_zero]; rfl) (by kernel_rfl) (by kernel_rfl) (by kernel_rfl) (by intro _ _ _ h_; exact h_) (Or.inl ⟨by rfl, ?_⟩) (by assumption) ?_
        rotate_left 1
        focus (intro w_ hSw_; try go_simp; try with_reducible rfl)
        simp only [Act.put, List.setIfInBounds_toArray, List.set_cons_zero, List.set_cons_succ]
        refine wpAnyH_take (i := 14) (v := ?_) (by simp only [List.getElem?_toArray, List.getElem?_cons_succ, List.getElem?_cons_zero]; rfl) (by kernel_rfl) (by kernel_rfl) (by kernel_rfl) (by intro _ _ _ h_; exact h_) (Or.inl ⟨by rfl, ?_⟩) (by assumption) ?_
        rotate_left 1
        focus (intro w_ hSw_; try go_simp; try with_reducible rfl)
        simp only [Act.put, List.setIfInBounds_toArray, List.set_cons_zero, List.set_cons_succ]
        refine wpAnyH_take (i := 15) (v := ?_) (by simp only [List.getElem?_toArray, List.getElem?_cons_succ, List.getElem?_cons_zero]; rfl) (by kernel_rfl) (by kernel_rfl) (by kernel_rfl) (by intro _ _ _ h_; exact h_) (Or.inl ⟨by rfl, ?_⟩) (by assumption) ?_
        rotate_left 1
        focus (intro w_ hSw_; try go_simp; try with_reducible rfl)
        simp only [Act.put, List.setIfInBounds_toArray, List.set_cons_zero, List.set_cons_succ]
        refine wpAnyH_done (by kernel_rfl) ?_ _
        clear hHeld HU5
        unfold decV at Hdc
        obtain ⟨M, hM⟩ : ∃ M, (decM l).getD default = M := ⟨_, rfl⟩
        rw [hM] at Hdc
        obtain ⟨q0, qb0, qb1, qa, qt⟩ := M
        unfold mev at Hdc
        dsimp only at Hdc
        go_wp2_with fail
        refine Hdc.out.mono ?_
        rintro e w6 ⟨rfl, hb6⟩
        have HX7 := HB.new w6 (mec ⟨q0, qb0, qb1, qa, qt⟩) 26
        have hb7 := hb6.trans (((Below.refl w6.heap.size w6).alloc (Nat.le_refl _) (.cells (mec ⟨q0, qb0, qb1, qa, qt⟩).toArray 26)).mono hb6.size)
        obtain ⟨w7, hw7⟩ : ∃ w7, w6.alloc (.cells (mec ⟨q0, qb0, qb1, qa, qt⟩).toArray 26) = w7 := ⟨_, rfl⟩
        rw [hw7] at HX7 hb7
        obtain ⟨X, hX⟩ : ∃ X, w6.heap.size = X := ⟨_, rfl⟩
        rw [hX] at HX7
        unfold mec at hw7
        dsimp only at hw7
        obtain ⟨x0, x1, x2, x3, x4⟩ := Five.of HX7
        dsimp only at x0 x1 x2 x3 x4
        have HY7 := Lib.hid (HY5.out.later hb7)
        have HB7 := HB5.out.later hb7
        obtain ⟨z0, z1, z2, z3, z4⟩ := Five.of HB7
        have zf := HB7.frozen
        have HB7' := Lib.hid HB7
        have Hb8 := Lib.hid (Hb6.out.trans (hb7.mono (Nat.le_of_lt HY5.out.lt)))
        have HYB := Lib.hid (Nat.le_of_lt HYl.out)
        clear hb6 hb7 HX7 HB7 HY5 HB5 Hb6 Hdc
        cases hd : decM l with
        | none =>
          have hnx : accR f s.meta' (k + 1) = (bm, fr) := by rw [(Hacc ()).out, hd]; exact (HP ()).out
          have Hnx := fun (_ : Unit) => Lib.hid hnx
          clear hnx hd hM
          go_wp2_with fail
          first
          | (go_roundw
             case rel => exact ⟨k + 1, by omega, by go_num, by rw [(Hnx ()).out], by rw [(Hnx ()).out]; exact HB7'.out, HY7.out, Hb8.out, fun _ => Ho.out⟩
             case measure => (first | omega | (simp [intOf] <;> omega) | (simp only [intOf] <;> omega)))
          | exact ⟨⟨k + 1, by omega, by go_num, by rw [(Hnx ()).out], by rw [(Hnx ()).out]; exact HB7'.out, HY7.out, Hb8.out, fun _ => Ho.out⟩, by (first | omega | (simp [intOf] <;> omega) | (simp only [intOf] <;> omega))⟩
          | (refine ⟨?_, by (first | omega | (simp [intOf] <;> omega) | (simp only [intOf] <;> omega))⟩
             (repeat apply Exists.intro)
             refine (fun a b => And.intro b a) ?_ ?_
             · first | rfl | ((repeat refine ⟨rfl, ?_⟩); rfl)
             exact ⟨k + 1, by omega, by go_num, by rw [(Hnx ()).out], by rw [(Hnx ()).out]; exact HB7'.out, HY7.out, Hb8.out, fun _ => Ho.out⟩)
        | some x =>
          obtain rfl : x = ⟨q0, qb0, qb1, qa, qt⟩ := by rw [hd] at hM; exact hM
          have hac := (Hacc ()).out
          rw [hd] at hac
          dsimp only at hac
          have hnew := fun (_ : Unit) => Lib.hid (meSet_hb HB7'.out rfl (⟨q0, qb0, qb1, qa, qt⟩ : Me))
          have hyn := fun (_ : Unit) => Lib.hid (HY7.out.grown (meSet_grown w7 B (⟨q0, qb0, qb1, qa, qt⟩ : Me)) (fun e => by have := HYl.out; have := Option.some.inj e; omega))
          have hbn := fun (_ : Unit) => Lib.hid (Hb8.out.grown (meSet_grown w7 B (⟨q0, qb0, qb1, qa, qt⟩ : Me)) (by have := HY7.out.lt; omega) (fun q hq => by have := HYl.out; have := Option.some.inj hq; omega))
          unfold meSet at hnew hyn hbn
          dsimp only at hnew hyn hbn
          clear hd hM
          by_cases hf0 : fr < 0
          · rw [if_pos (.inl hf0)] at hac
            have Hnx := fun (_ : Unit) => Lib.hid hac
            clear hac
            go_wp2_with fail
            first
            | (go_roundw
               case rel => exact ⟨k + 1, by omega, by go_num, by rw [(Hnx ()).out], by rw [(Hnx ()).out]; exact (hnew ()).out, (hyn ()).out, (hbn ()).out, fun _ => Ho.out⟩
               case measure => (first | omega | (simp [intOf] <;> omega) | (simp only [intOf] <;> omega)))
            | exact ⟨⟨k + 1, by omega, by go_num, by rw [(Hnx ()).out], by rw [(Hnx ()).out]; exact (hnew ()).out, (hyn ()).out, (hbn ()).out, fun _ => Ho.out⟩, by (first | omega | (simp [intOf] <;> omega) | (simp only [intOf] <;> omega))⟩
            | (refine ⟨?_, by (first | omega | (simp [intOf] <;> omega) | (simp only [intOf] <;> omega))⟩
               (repeat apply Exists.intro)
               refine (fun a b => And.intro b a) ?_ ?_
               · first | rfl | ((repeat refine ⟨rfl, ?_⟩); rfl)
               exact ⟨k + 1, by omega, by go_num, by rw [(Hnx ()).out], by rw [(Hnx ()).out]; exact (hnew ()).out, (hyn ()).out, (hbn ()).out, fun _ => Ho.out⟩)
          · by_cases hlt : bm.seq < q0
            · have i2 : (bm.seq : Int) < (q0 : Int) := by omega
              rw [if_pos (.inr hlt)] at hac
              have Hnx := fun (_ : Unit) => Lib.hid hac
              clear hac hlt
              go_wp2_with fail
              first
              | (go_roundw
                 case rel => exact ⟨k + 1, by omega, by go_num, by rw [(Hnx ()).out], by rw [(Hnx ()).out]; exact (hnew ()).out, (hyn ()).out, (hbn ()).out, fun _ => Ho.out⟩
                 case measure => (first | omega | (simp [intOf] <;> omega) | (simp only [intOf] <;> omega)))
              | exact ⟨⟨k + 1, by omega, by go_num, by rw [(Hnx ()).out], by rw [(Hnx ()).out]; exact (hnew ()).out, (hyn ()).out, (hbn ()).out, fun _ => Ho.out⟩, by (first | omega | (simp [intOf] <;> omega) | (simp only [intOf] <;> omega))⟩
              | (refine ⟨?_, by (first | omega | (simp [intOf] <;> omega) | (simp only [intOf] <;> omega))⟩
                 (repeat apply Exists.intro)
                 refine (fun a b => And.intro b a) ?_ ?_
                 · first | rfl | ((repeat refine ⟨rfl, ?_⟩); rfl)
                 exact ⟨k + 1, by omega, by go_num, by rw [(Hnx ()).out], by rw [(Hnx ()).out]; exact (hnew ()).out, (hyn ()).out, (hbn ()).out, fun _ => Ho.out⟩)
            · have i2 : ¬ (bm.seq : Int) < (q0 : Int) := by omega
              rw [if_neg (fun h => h.elim hf0 hlt), (HP ()).out] at hac
              have Hnx := fun (_ : Unit) => Lib.hid hac
              clear hac hlt hnew hyn hbn
              go_wp2_with fail
              first
              | (go_roundw
                 case rel => exact ⟨k + 1, by omega, by go_num, by rw [(Hnx ()).out], by rw [(Hnx ()).out]; exact HB7'.out, HY7.out, Hb8.out, fun _ => Ho.out⟩
                 case measure => (first | omega | (simp [intOf] <;> omega) | (simp only [intOf] <;> omega)))
              | exact ⟨⟨k + 1, by omega, by go_num, by rw [(Hnx ()).out], by rw [(Hnx ()).out]; exact HB7'.out, HY7.out, Hb8.out, fun _ => Ho.out⟩, by (first | omega | (simp [intOf] <;> omega) | (simp only [intOf] <;> omega))⟩
              | (refine ⟨?_, by (first | omega | (simp [intOf] <;> omega) | (simp only [intOf] <;> omega))⟩
                 (repeat apply Exists.intro)
                 refine (fun a b => And.intro b a) ?_ ?_
                 · first | rfl | ((repeat refine ⟨rfl, ?_⟩); rfl)
                 exact ⟨k + 1, by omega, by go_num, by rw [(Hnx ()).out], by rw [(Hnx ()).out]; exact HB7'.out, HY7.out, Hb8.out, fun _ => Ho.out⟩)
      · have Hrd := Lib.hid (readf_bad p mb n f mk wr.drew HUd.out.fl (by rw [Hoff.out ho]; decide))
        rw [Hoff.out ho] at Hrd
        refine Hrd.out.mono ?_
        rintro e w' ⟨rfl, rfl⟩
        go_wp2_with fail
        refine hK.out _ _ (UpX.of HUd.out.h) (fun hHeld => ?_)
        clear hK K
        try simp only [Act.put, List.setIfInBounds_toArray, List.set_cons_zero, List.set_cons_succ]
        refine wpAnyH_take (i := 11) (v := ?_) (by simp only [List.getElem?_toArray, List.getElem?_cons_succ, List.getElem?_cons_zero]; rfl) (by kernel_rfl) (by kernel_rfl) (by kernel_rfl) (by intro _ _ _ h_; exact h_) (Or.inl ⟨by rfl, ?_⟩) (by assumption) ?_
        rotate_left 1
        focus (intro w_ hSw_; try go_simp; try with_reducible rfl)
        simp only [Act.put, List.setIfInBounds_toArray, List.set_cons_zero, List.set_cons_succ]
        refine wpAnyH_take (i := 12) (v := ?_) (by simp only [List.getElem?_toArray, List.getElem?_cons_succ, List.getElem?_cons_zero]; rfl) (by kernel_rfl) (by kernel_rfl) (by kernel_rfl) (by intro _ _ _ h_; exact h_) (Or.inl ⟨by rfl, ?_⟩) (by assumption) ?_
        rotate_left 1
        focus (intro w_ hSw_; try go_simp; try with_reducible rfl)
        simp only [Act.put, List.setIfInBounds_toArray, List.set_cons_zero, List.set_cons_succ]
        refine wpAnyH_take (i := 13) (v := ?_) (by simp only [List.getElem?_toArray, List.getElem?_cons_succ, List.getElem?_cons_zero]; rfl) (by kernel_rfl) (by kernel_rfl) (by kernel_rfl) (by intro _ _ _ h_; exact h_) (Or.inl ⟨by rfl, ?_⟩) (by assumption) ?_
        rotate_left 1
        focus (intro w_ hSw_; try go_simp; try with_reducible rfl)
        simp only [Act.put, List.setIfInBounds_toArray, List.set_cons_zero, List.set_cons_succ]
        refine wpAnyH_take (i := 14) (v := ?_) (by simp only [List.getElem?_toArray, List.getElem?_cons_succ, List.getElem?_cons_zero]; rfl) (by kernel_rfl) (by kernel_rfl) (by kernel_rfl) (by intro _ _ _ h_; exact h_) (Or.inl ⟨by rfl, ?_⟩) (by assumption) ?_
        rotate_left 1
        focus (intro w_ hSw_; try go_simp; try with_reducible rfl)
        simp only [Act.put, List.setIfInBounds_toArray, List.set_cons_zero, List.set_cons_succ]
        refine wpAnyH_take (i := 15) (v := ?_) (by simp only [List.getElem?_toArray, List.getElem?_cons_succ, List.getElem?_cons_zero]; rfl) (by kernel_rfl) (by kernel_rfl) (by kernel_rfl) (by intro _ _ _ h_; exact h_) (Or.inl ⟨by rfl, ?_⟩) (by assumption) ?_
        rotate_left 1
        focus (intro w_ hSw_; try go_simp; try with_reducible rfl)
        simp only [Act.put, List.setIfInBounds_toArray, List.set_cons_zero, List.set_cons_succ]
        refine wpAnyH_done (by kernel_rfl) ?_ _
        have hres : curE f s.meta' = (default, 0, 143) := by unfold curE; rw [if_pos ho]
        have Hres := Lib.hid hres
        have HYz := Lib.hid (HYz.out.drn hd0)
        have HBz := Lib.hid (Hb.out.trans (hd0.below _))
        clear hHeld Hrd HUd Hbest Hb hres ho Hmk Hm Hoff HkI e1 Hbw
        generalize wr.drew = w6 at *
        have Hs := fun (_ : Unit) => Lib.hid (meSet_hb HYz.out rfl (⟨0, 0, 0, 0, 0⟩ : Me))
        have Hg := fun (_ : Unit) => Lib.hid (HBz.out.grown (meSet_grown w6 Y (⟨0, 0, 0, 0, 0⟩ : Me)) (by have := HBz.out.size; have := HYz.out.lt; omega) (by intro k hk; cases hk; exact Nat.le_refl _))
        have y0 := HYz.out.cell (i := 0) rfl
        have y1 := HYz.out.cell (i := 1) rfl
        have y2 := HYz.out.cell (i := 2) rfl
        have y3 := HYz.out.cell (i := 3) rfl
        have y4 := HYz.out.cell (i := 4) rfl
        have yf := HYz.out.frozen
        go_wp2_with fail
        clear y0 y1 y2 y3 y4 yf
        unfold meSet at Hs Hg
        generalize World.setCell _ _ _ = w9 at *
        have k0 := (Hs ()).out.cell (i := 0) rfl
        have k1 := (Hs ()).out.cell (i := 1) rfl
        have k2 := (Hs ()).out.cell (i := 2) rfl
        have k3 := (Hs ()).out.cell (i := 3) rfl
        have k4 := (Hs ()).out.cell (i := 4) rfl
        refine bodyPost_ret (v := (curV (default, 0, 143))) (by simp [results, Try.results50, go_sem, k0, k1, k2, k3, k4]; try rfl) rfl ⟨?_, (Hg ()).out⟩
        rw [Hres.out]
    · have q1 : ¬ (k : Int) < 2 := by omega
      obtain rfl : k = 2 := by omega
      have hat := acc_two f s.meta'
      obtain ⟨bm, hbm⟩ : ∃ bm, (accR f s.meta' 2).1 = bm := ⟨_, rfl⟩
      obtain ⟨fr, hfr⟩ : ∃ fr, (accR f s.meta' 2).2 = fr := ⟨_, rfl⟩
      have hP : accR f s.meta' 2 = (bm, fr) := by rw [← hbm, ← hfr]
      rw [hP] at hat Hbest Hfr ⊢
      dsimp only at hat Hbest Hfr ⊢
      have hoff := Hon.out (by decide)
      obtain ⟨q0, qb0, qb1, qa, qt⟩ := bm
      have HBz := Hb
      have HSz : Hid (Y < wr.heap.size) := Lib.hid HYz.out.lt
      by_cases hf0 : fr < 0
      · rw [if_pos hf0] at hat
        have hres : curE f s.meta' = (default, 0, 231) := by unfold curE; rw [hoff, if_neg (by decide), hat]
        have Hres := Lib.hid hres
        clear hres hat hP hoff hbm hfr
        have Hs := fun (_ : Unit) => Lib.hid (meSet_hb HYz.out rfl (⟨0, 0, 0, 0, 0⟩ : Me))
        have Hg := fun (_ : Unit) => Lib.hid (HBz.out.grown (meSet_grown wr Y (⟨0, 0, 0, 0, 0⟩ : Me)) (Nat.le_of_lt HSz.out) (by intro k hk; cases hk; exact Nat.le_refl _))
        have y0 := HYz.out.cell (i := 0) rfl
        have y1 := HYz.out.cell (i := 1) rfl
        have y2 := HYz.out.cell (i := 2) rfl
        have y3 := HYz.out.cell (i := 3) rfl
        have y4 := HYz.out.cell (i := 4) rfl
        have yf := HYz.out.frozen
        go_wp2_with fail
        clear y0 y1 y2 y3 y4 yf
        unfold meSet at Hs Hg
        generalize World.setCell _ _ _ = w9 at *
        have k0 := (Hs ()).out.cell (i := 0) rfl
        have k1 := (Hs ()).out.cell (i := 1) rfl
        have k2 := (Hs ()).out.cell (i := 2) rfl
        have k3 := (Hs ()).out.cell (i := 3) rfl
        have k4 := (Hs ()).out.cell (i := 4) rfl
        refine bodyPost_ret (v := (curV (default, 0, 231))) (by simp [results, Try.results50, go_sem, k0, k1, k2, k3, k4]; try rfl) rfl ⟨?_, (Hg ()).out⟩
        rw [Hres.out]
      · rw [if_neg hf0] at hat
        have hres : curE f s.meta' = (⟨q0, qb0, qb1, qa, qt⟩, fr, 0) := by unfold curE; rw [hoff, if_neg (by decide), hat]
        have Hres := Lib.hid hres
        clear hres hat hP hoff hbm hfr
        have Hs := fun (_ : Unit) => Lib.hid (meSet_hb HYz.out rfl (⟨q0, qb0, qb1, qa, qt⟩ : Me))
        have Hg := fun (_ : Unit) => Lib.hid (HBz.out.grown (meSet_grown wr Y (⟨q0, qb0, qb1, qa, qt⟩ : Me)) (Nat.le_of_lt HSz.out) (by intro k hk; cases hk; exact Nat.le_refl _))
        obtain ⟨z0, z1, z2, z3, z4⟩ := Five.of Hbest.out
        dsimp only at z0 z1 z2 z3 z4
        have y0 := HYz.out.cell (i := 0) rfl
        have y1 := HYz.out.cell (i := 1) rfl
        have y2 := HYz.out.cell (i := 2) rfl
        have y3 := HYz.out.cell (i := 3) rfl
        have y4 := HYz.out.cell (i := 4) rfl
        have yf := HYz.out.frozen
        go_wp2_with fail
        clear z0 z1 z2 z3 z4
        clear y0 y1 y2 y3 y4 yf
        unfold meSet at Hs Hg
        generalize World.setCell _ _ _ = w9 at *
        have k0 := (Hs ()).out.cell (i := 0) rfl
        have k1 := (Hs ()).out.cell (i := 1) rfl
        have k2 := (Hs ()).out.cell (i := 2) rfl
        have k3 := (Hs ()).out.cell (i := 3) rfl
        have k4 := (Hs ()).out.cell (i := 4) rfl
        refine bodyPost_ret (v := (curV (⟨q0, qb0, qb1, qa, qt⟩, fr, 0))) (by simp [results, Try.results50, go_sem, k0, k1, k2, k3, k4]; try rfl) rfl ⟨?_, (Hg ()).out⟩
        rw [Hres.out]
end Go.Proofs.Ytnmeidmiijcniaa
