/- A region is added. No condition. -/
import Derived.Test.YtcbiohpgmooefaaRmI
import Derived.Test.YtcbiohpgmooefaaRmS
import Derived.Test.YtcbiohpgmooefaaRmF
set_option linter.unusedVariables false
set_option linter.unusedSimpArgs false
namespace Go.Proofs.Ytcbiohpgmooefaa
open Go.RowKit
attribute [local go_sem ↓] Go.wp_at_zero Go.wp_at_succ
/-- the table may be another: only RAM's block and the old table's are touched -/
structure Turned (B R : Nat) (m : List UInt8) (tv tv' : Value) (t' : List Rg) (w w' : World) : Prop where
  r : RamM B R m tv' t' w'
  f : Frm (fun q => q = R ∨ tv.ownBlock = some q) w w'
  k : ∀ q, tv'.ownBlock = some q → tv.ownBlock = some q ∨ w.heap.size ≤ q
theorem RamM.same {B R : Nat} {m : List UInt8} {tv : Value} {t : List Rg} {w w' : World} (h : RamM B R m tv t w) (hb : Below w.heap.size w w') : ∃ tv', Turned B R m tv tv' t w w' :=
  ⟨tv, h.later hb, Frm.later hb, fun q hq => .inl hq⟩
theorem rgc_arr (g : Rg) : (rgc g).toArray = #[.int .u64 g.base, .int .u64 g.size, .bool g.r, .bool g.w, .bool g.x, .bool g.s] := rfl
/-- X's six cells -/
structure Six (w : World) (x : Nat) (g : Rg) : Prop where
  c0 : w.cell? ⟨x, 0, none⟩ = some (.int .u64 g.base)
  c1 : w.cell? ⟨x, 1, none⟩ = some (.int .u64 g.size)
  c2 : w.cell? ⟨x, 2, none⟩ = some (.bool g.r)
  c3 : w.cell? ⟨x, 3, none⟩ = some (.bool g.w)
  c4 : w.cell? ⟨x, 4, none⟩ = some (.bool g.x)
  c5 : w.cell? ⟨x, 5, none⟩ = some (.bool g.s)
theorem Six.of {w : World} {x : Nat} {g : Rg} (h : HB w x 33 (rgc g)) : Six w x g := ⟨h.cell rfl, h.cell rfl, h.cell rfl, h.cell rfl, h.cell rfl, h.cell rfl⟩
theorem turned_put {B R : Nat} {m : List UInt8} {tv v' : Value} {t t' : List Rg} {wa w5 : World} (h : RamM B R m tv t wa) (ho : OwnS rgc 33 6 w5 B v' t') (hg : Gr wa w5 tv v') (ht : Tab t') :
    (RamM B R m v' t' (w5.setCell ⟨R, 65536, none⟩ v') ∧ Frm (fun q => q = R ∨ tv.ownBlock = some q) wa (w5.setCell ⟨R, 65536, none⟩ v')) ∧ w5.cell? ⟨R, 65536, none⟩ = some tv ∧ w5.frozen? ⟨R, 65536, none⟩ = false := by
  have hR : HB w5 R 60 (ramC m tv) := h.h.grown hg.g (fun e => h.nv e.symm)
  have hs := hR.set 65536 v'
  rw [ramC_set h.l] at hs
  have hnv : v'.ownBlock ≠ some R := fun e => (hg.k R e).elim h.nv (fun h1 => by have := h.h.lt; omega)
  have hf : Frm (fun q => q = R) w5 (w5.setCell ⟨R, 65536, none⟩ v') := Frm.grown (grown_set w5 ⟨R, 65536, none⟩ v') (fun k h => (Option.some.inj h).symm)
  refine ⟨⟨⟨hs, h.l, ho.frm hf (fun k hk e => hnv (by rw [hk, e])), ht, h.b, hnv⟩, ?_⟩, hR.cell (ramC_t h.l), hR.frozen _⟩
  exact (Frm.grown hg.g (fun k hk => .inr hk)).trans (hf.mono (fun k _ e => .inl e))
set_option maxHeartbeats 4000000 in
theorem add_any {B R : Nat} {m : List UInt8} {tv : Value} {t : List Rg} {w : World} (h : RamM B R m tv t w) (hB : B ≤ w.heap.size) (g : Rg) (hg : RgOk g) :
    Calls Try.prog 9 #[.pointer (some ⟨R, 0, none⟩), rgv g] w fun e w' => e = .returned (.int .i64 (addR t g).2) ∧ ∃ tv', Turned B R m tv tv' (addR t g).1 w w' := by
  have HX := Lib.hid (HB.new w (rgc g) 33)
  have hb1 := (Below.refl w.heap.size w).alloc (Nat.le_refl _) (.cells (rgc g).toArray 33)
  have HB1 := Lib.hid hb1
  have Hh := Lib.hid (fun w' (hb : Below w.heap.size w w') => h.later hb)
  have Ht := Lib.hid h.tb
  have Hg := Lib.hid hg
  have HBs := Lib.hid hB
  obtain ⟨ao, cap, rfl, h1, h2, hrd, h4⟩ := h.tv
  have k0 := (h.later hb1).tab
  have h16 := h.tb.n
  rw [rgc_arr] at HB1 HX hb1 k0
  clear h2 hrd h4 hB h1
  obtain ⟨X, hX⟩ : ∃ X, w.heap.size = X := ⟨_, rfl⟩
  have HXx := fun (_ : Unit) => Lib.hid hX
  obtain ⟨w1, hw1⟩ : ∃ w1, w.alloc (.cells #[.int .u64 g.base, .int .u64 g.size, .bool g.r, .bool g.w, .bool g.x, .bool g.s] 33) = w1 := ⟨_, rfl⟩
  rw [hX] at HX
  rw [hw1] at HB1 HX hb1 k0
  obtain ⟨x0, x1, x2, x3, x4, x5⟩ := Six.of HX.out
  obtain ⟨gb, gn, gr, gw, gx, gs⟩ := g
  dsimp only at *
  unfold rgv
  dsimp only
  by_cases c1 : t.length = 16
  · have Hres := fun (_ : Unit) => Lib.hid (show addR t ⟨gb, gn, gr, gw, gx, gs⟩ = (t, 164) by unfold addR; rw [if_pos c1])
    have HS := Lib.hid (h.same hb1)
    rw [c1] at k0
    clear c1 h hb1 h16
    go_enter Try.func9, Try.ntmps9
    go_wp2_with fail
    go_ret
    exact ⟨by rw [(Hres ()).out]; rfl, by rw [(Hres ()).out]; exact HS.out⟩
  have i1 : ¬ ((t.length : Int) = 16) := by omega
  by_cases c2 : gn = 0
  · have Hres := fun (_ : Unit) => Lib.hid (show addR t ⟨gb, gn, gr, gw, gx, gs⟩ = (t, 161) by unfold addR; rw [if_neg c1, if_pos (.inl c2)])
    have HS := Lib.hid (h.same hb1)
    subst c2
    rw [show ((0 : Nat) : Int) = 0 from rfl] at hw1 x1 ⊢
    clear c1 h hb1
    go_enter Try.func9, Try.ntmps9
    go_wp2_with fail
    go_ret
    exact ⟨by rw [(Hres ()).out]; rfl, by rw [(Hres ()).out]; exact HS.out⟩
  have i2 : ¬ ((gn : Int) = 0) := by omega
  have Hw := Lib.hid (fun w' => within_any gb gn w' hg.1)
  cases c3 : inRam gb gn
  · have Hres := fun (_ : Unit) => Lib.hid (show addR t ⟨gb, gn, gr, gw, gx, gs⟩ = (t, 161) by unfold addR; rw [if_neg c1, if_pos (.inr c3)])
    have HS := Lib.hid (h.same hb1)
    rw [c3] at Hw
    clear c1 c2 c3 h hb1
    go_enter Try.func9, Try.ntmps9
    go_wp2_with fail
    refine (Hw.out _).mono ?_
    rintro e w' ⟨rfl, rfl⟩
    clear Hw
    go_wp2_with fail
    go_ret
    exact ⟨by rw [(Hres ()).out]; rfl, by rw [(Hres ()).out]; exact HS.out⟩
  rw [c3] at Hw
  cases c4 : (gw && gx)
  case true =>
    have Hres := fun (_ : Unit) => Lib.hid (show addR t ⟨gb, gn, gr, gw, gx, gs⟩ = (t, 163) by unfold addR; rw [if_neg c1, if_neg (by rw [c3]; simp [c2]), if_pos c4])
    have HS := Lib.hid (h.same hb1)
    obtain ⟨rfl, rfl⟩ : gw = true ∧ gx = true := by cases gw <;> cases gx <;> simp_all
    clear c1 c2 c3 c4 h hb1
    go_enter Try.func9, Try.ntmps9
    go_wp2_with fail
    refine (Hw.out _).mono ?_
    rintro e w' ⟨rfl, rfl⟩
    clear Hw
    go_wp2_with fail
    go_ret
    exact ⟨by rw [(Hres ()).out]; rfl, by rw [(Hres ()).out]; exact HS.out⟩
  have Ha := Lib.hid (after_any (h.later hb1) gb)
  have Htb := Lib.hid (fun w' (hb : Below w1.heap.size w1 w') => (h.later hb1).later hb)
  have HX1 := Lib.hid (fun w' (hb : Below w1.heap.size w1 w') => HX.out.later hb)
  have Hadd := fun (_ : Unit) => Lib.hid (show laps t ⟨gb, gn, gr, gw, gx, gs⟩ = true → addR t ⟨gb, gn, gr, gw, gx, gs⟩ = (t, 162) from fun hl => by unfold addR; rw [if_neg c1, if_neg (by rw [c3]; simp [c2]), if_neg (by rw [c4]; decide), if_pos hl])
  have Hin := fun (_ : Unit) => Lib.hid (show laps t ⟨gb, gn, gr, gw, gx, gs⟩ = false → addR t ⟨gb, gn, gr, gw, gx, gs⟩ = (t.take (aft t gb) ++ ⟨gb, gn, gr, gw, gx, gs⟩ :: t.drop (aft t gb), 0) from fun hl => by unfold addR; rw [if_neg c1, if_neg (by rw [c3]; simp [c2]), if_neg (by rw [c4]; decide), if_neg (by rw [hl]; decide)])
  have hin := inRam_iff.1 c3
  have He := Lib.hid (fun w' => end_any ⟨gb, gn, gr, gw, gx, gs⟩ w' (by show gb + gn < 18446744073709551616; omega))
  have Hgg := Lib.hid (show 1073741824 ≤ gb ∧ gb + gn ≤ 1073807360 ∧ 0 < gn from ⟨hin.1, hin.2, by omega⟩)
  unfold rgv at He
  obtain ⟨E, hE⟩ : ∃ E, gb + gn = E := ⟨_, rfl⟩
  rw [hE] at He
  have HE := fun (_ : Unit) => Lib.hid hE
  have hi9 := aft_le t gb
  obtain ⟨i, hi⟩ : ∃ i, aft t gb = i := ⟨_, rfl⟩
  have Hi := fun (_ : Unit) => Lib.hid hi
  have HOw := Lib.hid (fun q hq => (h.o.blk rgc_len q hq).2)
  have HRl := Lib.hid h.h.lt
  rw [hi] at Ha hi9
  have c5 : (gw = true ∧ gx = false) ∨ gw = false := by cases gw <;> cases gx <;> simp_all
  clear c1 c2 c3 c4 h hb1 hin hg hE hi
  rcases c5 with ⟨rfl, rfl⟩ | rfl
  · go_enter Try.func9, Try.ntmps9
    go_wp2_with fail
    refine (Hw.out _).mono ?_
    rintro e w' ⟨rfl, rfl⟩
    clear Hw
    go_wp2_with fail
    refine Ha.out.mono ?_
    rintro e w2 ⟨rfl, hb2⟩
    have Hb2 := Lib.hid hb2
    have k2 := (Htb.out _ hb2).tab
    clear hb2 Ha x0 x1 x2 x3 x4 x5 k0 hw1 hX HX
    by_cases hil : i < t.length
    · have f1 : (i : Int) < (t.length : Int) := by omega
      obtain ⟨h, hh⟩ : ∃ h, t[i]? = some h := ⟨_, List.getElem?_eq_getElem hil⟩
      have hd0 : Drn w2 w2.drew := ⟨1, rfl⟩
      have hbd2 : Below w1.heap.size w1 w2.drew := Hb2.out.trans (hd0.below _)
      have hT := Htb.out _ hbd2
      have hlap : laps t ⟨gb, gn, gr, true, false, gs⟩ = decide (h.base < E) := by
        unfold laps
        show (match t[aft t gb]? with | some h => decide (h.base < gb + gn) | none => false) = _
        rw [(Hi ()).out, hh, (HE ()).out]
      have Hlap0 := Lib.hid hlap
      obtain ⟨_, _, hta, -, -, hr, -⟩ := hT.tv
      cases hta
      obtain ⟨b0, o0, rfl, hb0, hcl⟩ := hr i h hh
      have z0 : w2.drew.cell? ⟨b0, o0 + i * 6, none⟩ = some (.int .u64 h.base) := hcl 0 _ rfl
      have z1 := hT.tab
      have z2 := Six.of (HX1.out _ hbd2)
      have Hb0 := Lib.hid hb0
      clear hbd2 hd0 hT hlap hr hcl hh hb0
      go_upto_region 10 with fail
      refine wp_region_held_drew (S := fun w' => w'.cell? ⟨R, 65536, none⟩ = some (.slice (some ⟨b0, o0, none⟩) t.length cap) ∧ w'.cell? ⟨b0, o0 + i * 6, none⟩ = some (.int .u64 h.base) ∧ Six w' X ⟨gb, gn, gr, true, false, gs⟩) (by kernel_rfl) ⟨z1, z0, z2⟩ (fun hHeld => ?_)
      have h6 : ∀ w', Six w' X ⟨gb, gn, gr, true, false, gs⟩ → w'.cell? ⟨X, 0, none⟩ = some (.int .u64 gb) ∧ w'.cell? ⟨X, 1, none⟩ = some (.int .u64 gn) ∧ w'.cell? ⟨X, 2, none⟩ = some (.bool gr) ∧ w'.cell? ⟨X, 3, none⟩ = some (.bool true) ∧ w'.cell? ⟨X, 4, none⟩ = some (.bool false) ∧ w'.cell? ⟨X, 5, none⟩ = some (.bool gs) := fun w' h => ⟨h.c0, h.c1, h.c2, h.c3, h.c4, h.c5⟩
      clear z0 z1 z2 k2
      refine wpAnyH_take (i := 0) (v := ?_) (by simp only [List.getElem?_toArray, List.getElem?_cons_succ, List.getElem?_cons_zero]; rfl) (by kernel_rfl) (by kernel_rfl) (by kernel_rfl) (by intro _ _ _ h_; exact h_) (Or.inl ⟨by rfl, ?_⟩) (by assumption) ?_
      rotate_left 1
      focus (intro w_ hSw_; go_simp; try with_reducible rfl)
      simp only [Act.put, List.setIfInBounds_toArray, List.set_cons_zero, List.set_cons_succ]
      refine wpAnyH_take (i := 1) (v := ?_) (by simp only [List.getElem?_toArray, List.getElem?_cons_succ, List.getElem?_cons_zero]; rfl) (by kernel_rfl) (by kernel_rfl) (by kernel_rfl) (by intro _ _ _ h_; exact h_) (Or.inl ⟨by rfl, ?_⟩) (by assumption) ?_
      rotate_left 1
      focus (intro w_ hSw_; go_simp; try with_reducible rfl)
      simp only [Act.put, List.setIfInBounds_toArray, List.set_cons_zero, List.set_cons_succ]
      refine wpAnyH_take (i := 2) (v := ?_) (by simp only [List.getElem?_toArray, List.getElem?_cons_succ, List.getElem?_cons_zero]; rfl) (by kernel_rfl) (by kernel_rfl) (by kernel_rfl) (by intro _ _ _ h_; exact h_) (Or.inl ⟨by rfl, ?_⟩) (by assumption) ?_
      rotate_left 1
      focus (intro w_ hSw_; go_simp; try with_reducible rfl)
      simp only [Act.put, List.setIfInBounds_toArray, List.set_cons_zero, List.set_cons_succ]
      refine wpAnyH_take (i := 3) (v := ?_) (by simp only [List.getElem?_toArray, List.getElem?_cons_succ, List.getElem?_cons_zero]; rfl) (by kernel_rfl) (by kernel_rfl) (by kernel_rfl) (by intro _ _ _ h_; exact h_) (Or.inl ⟨by rfl, ?_⟩) (by assumption) ?_
      rotate_left 1
      focus (intro w_ hSw_; go_simp; try with_reducible rfl)
      simp only [Act.put, List.setIfInBounds_toArray, List.set_cons_zero, List.set_cons_succ]
      refine wpAnyH_take (i := 4) (v := ?_) (by simp only [List.getElem?_toArray, List.getElem?_cons_succ, List.getElem?_cons_zero]; rfl) (by kernel_rfl) (by kernel_rfl) (by kernel_rfl) (by intro _ _ _ h_; exact h_) (Or.inl ⟨by rfl, ?_⟩) (by assumption) ?_
      rotate_left 1
      focus (intro w_ hSw_; go_simp; try with_reducible rfl)
      simp only [Act.put, List.setIfInBounds_toArray, List.set_cons_zero, List.set_cons_succ]
      refine wpAnyH_take (i := 5) (v := ?_) (by simp only [List.getElem?_toArray, List.getElem?_cons_succ, List.getElem?_cons_zero]; rfl) (by kernel_rfl) (by kernel_rfl) (by kernel_rfl) (by intro _ _ _ h_; exact h_) (Or.inl ⟨by rfl, ?_⟩) (by assumption) ?_
      rotate_left 1
      focus (intro w_ hSw_; go_simp; try with_reducible rfl)
      simp only [Act.put, List.setIfInBounds_toArray, List.set_cons_zero, List.set_cons_succ]
      refine wpAnyH_take (i := 6) (v := ?_) (by simp only [List.getElem?_toArray, List.getElem?_cons_succ, List.getElem?_cons_zero]; rfl) (by kernel_rfl) (by kernel_rfl) (by kernel_rfl) (by intro _ _ _ h_; exact h_) (Or.inl ⟨by rfl, ?_⟩) (by assumption) ?_
      rotate_left 1
      focus (intro w_ hSw_; go_simp; try with_reducible rfl)
      simp only [Act.put, List.setIfInBounds_toArray, List.set_cons_zero, List.set_cons_succ]
      refine wpAnyH_take (i := 7) (v := ?_) (by simp only [List.getElem?_toArray, List.getElem?_cons_succ, List.getElem?_cons_zero]; rfl) (by kernel_rfl) (by kernel_rfl) (by kernel_rfl) (by intro _ _ _ h_; exact h_) (Or.inl ⟨by rfl, ?_⟩) (by assumption) ?_
      rotate_left 1
      focus (intro w_ hSw_; go_simp; try with_reducible rfl)
      simp only [Act.put, List.setIfInBounds_toArray, List.set_cons_zero, List.set_cons_succ]
      refine wpAnyH_take (i := 8) (v := ?_) (by simp only [List.getElem?_toArray, List.getElem?_cons_succ, List.getElem?_cons_zero]; rfl) (by kernel_rfl) (by kernel_rfl) (by kernel_rfl) (by intro _ _ _ h_; exact h_) (Or.inl ⟨by rfl, ?_⟩) (by assumption) ?_
      rotate_left 1
      focus (intro w_ hSw_; go_simp; try with_reducible rfl)
      simp only [Act.put, List.setIfInBounds_toArray, List.set_cons_zero, List.set_cons_succ]
      refine wpAnyH_take (i := 9) (v := ?_) (by simp only [List.getElem?_toArray, List.getElem?_cons_succ, List.getElem?_cons_zero]; rfl) (by kernel_rfl) (by kernel_rfl) (by kernel_rfl) (by intro _ _ _ h_; exact h_) (Or.inl ⟨by rfl, ?_⟩) (by assumption) ?_
      rotate_left 1
      focus (intro w_ hSw_; go_simp; try with_reducible rfl)
      simp only [Act.put, List.setIfInBounds_toArray, List.set_cons_zero, List.set_cons_succ]
      refine wpAnyH_take (i := 10) (v := ?_) (by simp only [List.getElem?_toArray, List.getElem?_cons_succ, List.getElem?_cons_zero]; rfl) (by kernel_rfl) (by kernel_rfl) (by kernel_rfl) (by intro _ _ _ h_; exact h_) (Or.inl ⟨by rfl, ?_⟩) (by assumption) ?_
      rotate_left 1
      focus (intro w_ hSw_; go_simp; try with_reducible rfl)
      simp only [Act.put, List.setIfInBounds_toArray, List.set_cons_zero, List.set_cons_succ]
      refine wpAnyH_take (i := 11) (v := ?_) (by simp only [List.getElem?_toArray, List.getElem?_cons_succ, List.getElem?_cons_zero]; rfl) (by kernel_rfl) (by kernel_rfl) (by kernel_rfl) (by intro _ _ _ h_; exact h_) (Or.inl ⟨by rfl, ?_⟩) (by assumption) ?_
      rotate_left 1
      focus (intro w_ hSw_; go_simp; try with_reducible rfl)
      simp only [Act.put, List.setIfInBounds_toArray, List.set_cons_zero, List.set_cons_succ]
      refine wpAnyH_take (i := 12) (v := ?_) (by simp only [List.getElem?_toArray, List.getElem?_cons_succ, List.getElem?_cons_zero]; rfl) (by kernel_rfl) (by kernel_rfl) (by kernel_rfl) (by intro _ _ _ h_; exact h_) (Or.inl ⟨by rfl, ?_⟩) (by assumption) ?_
      rotate_left 1
      focus (intro w_ hSw_; go_simp; try with_reducible rfl)
      simp only [Act.put, List.setIfInBounds_toArray, List.set_cons_zero, List.set_cons_succ]
      refine wpAnyH_take (i := 13) (v := ?_) (by simp only [List.getElem?_toArray, List.getElem?_cons_succ, List.getElem?_cons_zero]; rfl) (by kernel_rfl) (by kernel_rfl) (by kernel_rfl) (by intro _ _ _ h_; exact h_) (Or.inl ⟨by rfl, ?_⟩) (by assumption) ?_
      rotate_left 1
      focus (intro w_ hSw_; go_simp; try with_reducible rfl)
      simp only [Act.put, List.setIfInBounds_toArray, List.set_cons_zero, List.set_cons_succ]
      refine wpAnyH_take (i := 14) (v := ?_) (by simp only [List.getElem?_toArray, List.getElem?_cons_succ, List.getElem?_cons_zero]; rfl) (by kernel_rfl) (by kernel_rfl) (by kernel_rfl) (by intro _ _ _ h_; exact h_) (Or.inl ⟨by rfl, ?_⟩) (by assumption) ?_
      rotate_left 1
      focus (intro w_ hSw_; go_simp; try with_reducible rfl)
      simp only [Act.put, List.setIfInBounds_toArray, List.set_cons_zero, List.set_cons_succ]
      refine wpAnyH_take (i := 15) (v := ?_) (by simp only [List.getElem?_toArray, List.getElem?_cons_succ, List.getElem?_cons_zero]; rfl) (by kernel_rfl) (by kernel_rfl) (by kernel_rfl) (by intro _ _ _ h_; exact h_) (Or.inl ⟨by rfl, ?_⟩) (by assumption) ?_
      rotate_left 1
      focus (intro w_ hSw_; go_simp; try with_reducible rfl)
      simp only [Act.put, List.setIfInBounds_toArray, List.set_cons_zero, List.set_cons_succ]
      refine wpAnyH_take (i := 16) (v := ?_) (by simp only [List.getElem?_toArray, List.getElem?_cons_succ, List.getElem?_cons_zero]; rfl) (by kernel_rfl) (by kernel_rfl) (by kernel_rfl) (by intro _ _ _ h_; exact h_) (Or.inl ⟨by rfl, ?_⟩) (by assumption) ?_
      rotate_left 1
      focus (intro w_ hSw_; obtain ⟨z0, z1, z2, z3, z4, z5⟩ := h6 _ hSw_.2.2; go_simp; try with_reducible rfl)
      simp only [Act.put, List.setIfInBounds_toArray, List.set_cons_zero, List.set_cons_succ]
      clear h6
      refine wpAnyH_ready (rs := [17]) (by kernel_rfl) (by simp) ?_
      refine AllReadyH.cons (by simp only [List.getElem?_toArray, List.getElem?_cons_succ, List.getElem?_cons_zero]; rfl) (fun K hK => ?_) AllReadyH.nil
      go_simp
      refine (He.out _).mono ?_
      rintro e wz ⟨rfl, hbz⟩
      have hbz' : Below w1.heap.size w1 wz := (Hb2.out.trans ((⟨1, rfl⟩ : Drn w2 w2.drew).below _)).trans (hbz.mono Hb2.out.size)
      have Hbz := Lib.hid hbz'
      have y1 := (Htb.out _ hbz').tab
      have y2 : wz.cell? ⟨b0, o0 + i * 6, none⟩ = some (.int .u64 h.base) := cell_later hbz hHeld.2.1
      have y3 := Six.of (HX1.out _ hbz')
      clear hHeld hbz hbz' He Hb2
      go_wp2_with fail
      refine hK.out _ _ ⟨y1, y2, y3⟩ (fun hHeld => ?_)
      clear hK K
      try simp only [Act.put, List.setIfInBounds_toArray, List.set_cons_zero, List.set_cons_succ]
      by_cases hlt : h.base < E
      · have e1 : (h.base : Int) < (E : Int) := by omega
        have hA := (Hadd ()).out (by rw [Hlap0.out]; exact decide_eq_true hlt)
        have Hres := fun (_ : Unit) => Lib.hid hA
        have HS := Lib.hid (show ∃ tv', Turned B R m (.slice (some ⟨b0, o0, none⟩) t.length cap) tv' t w wz from ⟨_, Htb.out _ Hbz.out, Frm.later (HB1.out.trans (Hbz.out.mono HB1.out.size)), fun q hq => .inl hq⟩)
        clear hlt hA
        refine wpAnyH_take (i := 18) (v := ?_) (by simp only [List.getElem?_toArray, List.getElem?_cons_succ, List.getElem?_cons_zero]; rfl) (by kernel_rfl) (by kernel_rfl) (by kernel_rfl) (by intro _ _ _ h_; exact h_) (Or.inl ⟨by rfl, ?_⟩) (by assumption) ?_
        rotate_left 1
        focus (intro w_ hSw_; go_simp; try with_reducible rfl)
        simp only [Act.put, List.setIfInBounds_toArray, List.set_cons_zero, List.set_cons_succ]
        refine wpAnyH_take (i := 19) (v := ?_) (by simp only [List.getElem?_toArray, List.getElem?_cons_succ, List.getElem?_cons_zero]; rfl) (by kernel_rfl) (by kernel_rfl) (by kernel_rfl) (by intro _ _ _ h_; exact h_) (Or.inl ⟨by rfl, ?_⟩) (by assumption) ?_
        rotate_left 1
        focus (intro w_ hSw_; go_simp; try with_reducible rfl)
        simp only [Act.put, List.setIfInBounds_toArray, List.set_cons_zero, List.set_cons_succ]
        refine wpAnyH_done (by kernel_rfl) ?_ _
        clear hHeld y1 y2 y3
        go_wp2_with fail
        go_ret
        exact ⟨by rw [(Hres ()).out]; rfl, by rw [(Hres ()).out]; exact HS.out⟩
      · have e1 : ¬ (h.base : Int) < (E : Int) := by omega
        have Hlap : Hid (laps t ⟨gb, gn, gr, true, false, gs⟩ = false) := Lib.hid (by rw [Hlap0.out]; exact decide_eq_false hlt)
        clear hlt
        refine wpAnyH_take (i := 18) (v := ?_) (by simp only [List.getElem?_toArray, List.getElem?_cons_succ, List.getElem?_cons_zero]; rfl) (by kernel_rfl) (by kernel_rfl) (by kernel_rfl) (by intro _ _ _ h_; exact h_) (Or.inl ⟨by rfl, ?_⟩) (by assumption) ?_
        rotate_left 1
        focus (intro w_ hSw_; go_simp; try with_reducible rfl)
        simp only [Act.put, List.setIfInBounds_toArray, List.set_cons_zero, List.set_cons_succ]
        refine wpAnyH_take (i := 19) (v := ?_) (by simp only [List.getElem?_toArray, List.getElem?_cons_succ, List.getElem?_cons_zero]; rfl) (by kernel_rfl) (by kernel_rfl) (by kernel_rfl) (by intro _ _ _ h_; exact h_) (Or.inl ⟨by rfl, ?_⟩) (by assumption) ?_
        rotate_left 1
        focus (intro w_ hSw_; go_simp; try with_reducible rfl)
        simp only [Act.put, List.setIfInBounds_toArray, List.set_cons_zero, List.set_cons_succ]
        refine wpAnyH_done (by kernel_rfl) ?_ _
        clear hHeld y1 y2 y3 Hlap0
        have Hadd0 := fun (_ : Unit) => Lib.hid (((Hin ()).out Hlap.out).trans (by rw [(Hi ()).out]))
        have hd0 : Drn wz wz.drew := ⟨1, rfl⟩
        have hbd : Below w1.heap.size w1 wz.drew := Hbz.out.trans (hd0.below _)
        obtain ⟨wa, hwa⟩ : ∃ wa, (wz.alloc (.cells #[.int .u64 gb, .int .u64 gn, .bool gr, .bool true, .bool false, .bool gs] 33)).drew = wa := ⟨_, rfl⟩
        have hba0 : Below wz.heap.size wz wa := by
          rw [← hwa]
          exact ((Below.refl _ wz).alloc (Nat.le_refl _) _).trans (((⟨1, rfl⟩ : Drn (wz.alloc (.cells #[.int .u64 gb, .int .u64 gn, .bool gr, .bool true, .bool false, .bool gs] 33)) (wz.alloc (.cells #[.int .u64 gb, .int .u64 gn, .bool gr, .bool true, .bool false, .bool gs] 33)).drew)).below _)
        have hba : Below w1.heap.size w1 wa := Hbz.out.trans (hba0.mono Hbz.out.size)
        have hZ : HB wa wz.heap.size 33 (rgc ⟨gb, gn, gr, true, false, gs⟩) := by
          rw [← hwa]
          exact (HB.new wz (rgc ⟨gb, gn, gr, true, false, gs⟩) 33).drn ⟨1, rfl⟩
        have HTa := Lib.hid (Htb.out _ hba)
        have HXa := Lib.hid (HX1.out _ hba)
        have HBa := Lib.hid (HB1.out.trans (hba.mono HB1.out.size))
        have hts := Hh.out _ HB1.out
        have hown : ∀ q, (Value.slice (some ⟨b0, o0, none⟩) t.length cap).ownBlock = some q → q < X := fun q hq => by rw [← (HXx ()).out]; exact HOw.out q hq
        have HXn : Hid ((Value.slice (some ⟨b0, o0, none⟩) t.length cap).ownBlock ≠ some X) := Lib.hid (fun e => by have := hown _ e; omega)
        have HXR : Hid (X ≠ R) := Lib.hid (fun e => by have := HRl.out; have := (HXx ()).out; omega)
        have Hins := Lib.hid (ins_any HTa.out.o (Nat.le_trans HBs.out HBa.out.size) i hi9 (by omega) ⟨gb, gn, gr, true, false, gs⟩ wz.heap.size hZ (fun e => by
          have h1 := hown _ e
          have h2 := HB1.out.size
          have h3 := Hbz.out.size
          have h4 := (HXx ()).out
          omega))
        have y0 := (Htb.out _ hbd).tab
        have ya := HTa.out.tab
        have hX0 := Six.of (HX1.out _ hbd)
        have hXa := Six.of HXa.out
        clear hZ hba hba0 hd0 hts hown hbd
        go_upto_region 12 with fail
        refine wp_region_held_drew (S := fun w' => Six w' X ⟨gb, gn, gr, true, false, gs⟩) (by kernel_rfl) hX0 (fun hHeld => ?_)
        have h6 : ∀ w', Six w' X ⟨gb, gn, gr, true, false, gs⟩ → w'.cell? ⟨X, 0, none⟩ = some (.int .u64 gb) ∧ w'.cell? ⟨X, 1, none⟩ = some (.int .u64 gn) ∧ w'.cell? ⟨X, 2, none⟩ = some (.bool gr) ∧ w'.cell? ⟨X, 3, none⟩ = some (.bool true) ∧ w'.cell? ⟨X, 4, none⟩ = some (.bool false) ∧ w'.cell? ⟨X, 5, none⟩ = some (.bool gs) := fun w' h => ⟨h.c0, h.c1, h.c2, h.c3, h.c4, h.c5⟩
        refine wpAnyH_take (i := 0) (v := ?_) (by simp only [List.getElem?_toArray, List.getElem?_cons_succ, List.getElem?_cons_zero]; rfl) (by kernel_rfl) (by kernel_rfl) (by kernel_rfl) (by intro _ _ _ h_; exact h_) (Or.inl ⟨by rfl, ?_⟩) (by assumption) ?_
        rotate_left 1
        focus (intro w_ hSw_; go_simp; try with_reducible rfl)
        simp only [Act.put, List.setIfInBounds_toArray, List.set_cons_zero, List.set_cons_succ]
        refine wpAnyH_take (i := 1) (v := ?_) (by simp only [List.getElem?_toArray, List.getElem?_cons_succ, List.getElem?_cons_zero]; rfl) (by kernel_rfl) (by kernel_rfl) (by kernel_rfl) (by intro _ _ _ h_; exact h_) (Or.inl ⟨by rfl, ?_⟩) (by assumption) ?_
        rotate_left 1
        focus (intro w_ hSw_; go_simp; try with_reducible rfl)
        simp only [Act.put, List.setIfInBounds_toArray, List.set_cons_zero, List.set_cons_succ]
        refine wpAnyH_take (i := 2) (v := ?_) (by simp only [List.getElem?_toArray, List.getElem?_cons_succ, List.getElem?_cons_zero]; rfl) (by kernel_rfl) (by kernel_rfl) (by kernel_rfl) (by intro _ _ _ h_; exact h_) (Or.inl ⟨by rfl, ?_⟩) (by assumption) ?_
        rotate_left 1
        focus (intro w_ hSw_; go_simp; try with_reducible rfl)
        simp only [Act.put, List.setIfInBounds_toArray, List.set_cons_zero, List.set_cons_succ]
        refine wpAnyH_take (i := 3) (v := ?_) (by simp only [List.getElem?_toArray, List.getElem?_cons_succ, List.getElem?_cons_zero]; rfl) (by kernel_rfl) (by kernel_rfl) (by kernel_rfl) (by intro _ _ _ h_; exact h_) (Or.inl ⟨by rfl, ?_⟩) (by assumption) ?_
        rotate_left 1
        focus (intro w_ hSw_; go_simp; try with_reducible rfl)
        simp only [Act.put, List.setIfInBounds_toArray, List.set_cons_zero, List.set_cons_succ]
        refine wpAnyH_take (i := 5) (v := ?_) (by simp only [List.getElem?_toArray, List.getElem?_cons_succ, List.getElem?_cons_zero]; rfl) (by kernel_rfl) (by kernel_rfl) (by kernel_rfl) (by intro _ _ _ h_; exact h_) (Or.inl ⟨by rfl, ?_⟩) (by assumption) ?_
        rotate_left 1
        focus (intro w_ hSw_; go_simp; try with_reducible rfl)
        simp only [Act.put, List.setIfInBounds_toArray, List.set_cons_zero, List.set_cons_succ]
        refine wpAnyH_take (i := 6) (v := ?_) (by simp only [List.getElem?_toArray, List.getElem?_cons_succ, List.getElem?_cons_zero]; rfl) (by kernel_rfl) (by kernel_rfl) (by kernel_rfl) (by intro _ _ _ h_; exact h_) (Or.inl ⟨by rfl, ?_⟩) (by assumption) ?_
        rotate_left 1
        focus (intro w_ hSw_; obtain ⟨z0, z1, z2, z3, z4, z5⟩ := h6 _ hSw_; go_simp; try with_reducible rfl)
        simp only [Act.put, List.setIfInBounds_toArray, List.set_cons_zero, List.set_cons_succ]
        clear h6
        refine wpAnyH_ready (rs := [4, 7]) (by kernel_rfl) (by simp) ?_
        refine AllReadyH.cons (by simp only [List.getElem?_toArray, List.getElem?_cons_succ, List.getElem?_cons_zero]; rfl) (fun K hK => ?_) (AllReadyH.cons (by simp only [List.getElem?_toArray, List.getElem?_cons_succ, List.getElem?_cons_zero]; rfl) (fun K hK => ?_) AllReadyH.nil)
        · go_simp
          refine hK.out _ _ hX0 (fun hHeld2 => ?_)
          clear hK K
          try simp only [Act.put, List.setIfInBounds_toArray, List.set_cons_zero, List.set_cons_succ]
          refine wpAnyH_ready (rs := [7]) (by kernel_rfl) (by simp) ?_
          refine AllReadyH.cons (by simp only [List.getElem?_toArray, List.getElem?_cons_succ, List.getElem?_cons_zero]; rfl) (fun K hK => ?_) AllReadyH.nil
          go_simp
          refine hK.out _ _ hXa (fun hHeld3 => ?_)
          clear y0 hHeld hHeld2
          clear hK K
          try simp only [Act.put, List.setIfInBounds_toArray, List.set_cons_zero, List.set_cons_succ]
          refine wpAnyH_ready (rs := [8]) (by kernel_rfl) (by simp) ?_
          refine AllReadyH.cons (by simp only [List.getElem?_toArray, List.getElem?_cons_succ, List.getElem?_cons_zero]; rfl) (fun K hK => ?_) AllReadyH.nil
          go_simp
          refine (Hins.out).mono ?_
          rintro e w5 ⟨v5, rfl, ho5, hg5⟩
          have hTab := addR_tab Ht.out ⟨gb, gn, gr, true, false, gs⟩
          have hP := turned_put HTa.out ho5 hg5 (by rw [(Hadd0 ()).out] at hTab; exact hTab)
          have y5 := hP.2.1
          have f5 := hP.2.2
          have HXw := Six.of (HXa.out.grown hg5.g (fun e => HXn.out e.symm))
          have HFin := fun (_ : Unit) => Lib.hid (show ∃ tv', Turned B R m (.slice (some ⟨b0, o0, none⟩) t.length cap) tv' (t.take (aft t gb) ++ ⟨gb, gn, gr, true, false, gs⟩ :: t.drop (aft t gb)) w (w5.setCell ⟨R, 65536, none⟩ v5) from by
            refine ⟨v5, ?_, ?_, fun q hq => ?_⟩
            · rw [(Hi ()).out]; exact hP.1.1
            · exact (Frm.later HBa.out).trans hP.1.2
            · exact (hg5.k q hq).imp id (fun h => Nat.le_trans HBa.out.size h))
          have HXs := Six.of ((HXa.out.grown hg5.g (fun e => HXn.out e.symm)).other ⟨R, 65536, none⟩ v5 HXR.out)
          obtain ⟨a5, c5, rfl, -⟩ := ho5.rd rgc_len
          clear hTab hP ho5 hg5 Hins
          generalize (t.take i ++ ⟨gb, gn, gr, true, false, gs⟩ :: t.drop i).length = n5 at *
          go_wp2_with fail
          refine hK.out _ _ HXw (fun hHeld5 => ?_)
          clear hK K
          try simp only [Act.put, List.setIfInBounds_toArray, List.set_cons_zero, List.set_cons_succ]
          refine wpAnyH_take (i := 9) (v := ?_) (by simp only [List.getElem?_toArray, List.getElem?_cons_succ, List.getElem?_cons_zero]; rfl) (by kernel_rfl) (by kernel_rfl) (by kernel_rfl) (by intro _ _ _ h_; exact h_) (Or.inl ⟨by rfl, ?_⟩) (by assumption) ?_
          rotate_left 1
          focus (intro w_ hSw_; go_simp; try with_reducible rfl)
          simp only [Act.put, List.setIfInBounds_toArray, List.set_cons_zero, List.set_cons_succ]
          refine wpAnyH_take (i := 10) (v := ?_) (by simp only [List.getElem?_toArray, List.getElem?_cons_succ, List.getElem?_cons_zero]; rfl) (by kernel_rfl) (by kernel_rfl) (by kernel_rfl) (by intro _ _ _ h_; exact h_) (Or.inl ⟨by rfl, ?_⟩) (by assumption) ?_
          rotate_left 1
          focus (intro w_ hSw_; go_simp; try with_reducible rfl)
          simp only [Act.put, List.setIfInBounds_toArray, List.set_cons_zero, List.set_cons_succ]
          refine wpAnyH_ready (rs := [11]) (by kernel_rfl) (by simp) ?_
          refine AllReadyH.cons (by simp only [List.getElem?_toArray, List.getElem?_cons_succ, List.getElem?_cons_zero]; rfl) (fun K hK => ?_) AllReadyH.nil
          go_simp
          refine hK.out _ _ HXs (fun hHeld6 => ?_)
          clear hK K
          try simp only [Act.put, List.setIfInBounds_toArray, List.set_cons_zero, List.set_cons_succ]
          refine wpAnyH_done (by kernel_rfl) ?_ _
          clear hHeld5 hHeld6 HXw HXs y5 f5
          generalize w5.setCell _ _ = w6 at *
          go_wp2_with fail
          go_ret
          exact ⟨by rw [(Hadd0 ()).out]; rfl, by rw [(Hadd0 ()).out, ← (Hi ()).out]; exact (HFin ()).out⟩
        · go_simp
          refine hK.out _ _ hXa (fun hHeld2 => ?_)
          clear hK K
          try simp only [Act.put, List.setIfInBounds_toArray, List.set_cons_zero, List.set_cons_succ]
          refine wpAnyH_ready (rs := [4]) (by kernel_rfl) (by simp) ?_
          refine AllReadyH.cons (by simp only [List.getElem?_toArray, List.getElem?_cons_succ, List.getElem?_cons_zero]; rfl) (fun K hK => ?_) AllReadyH.nil
          go_simp
          refine hK.out _ _ hXa (fun hHeld3 => ?_)
          clear y0 hHeld hHeld2
          clear hK K
          try simp only [Act.put, List.setIfInBounds_toArray, List.set_cons_zero, List.set_cons_succ]
          refine wpAnyH_ready (rs := [8]) (by kernel_rfl) (by simp) ?_
          refine AllReadyH.cons (by simp only [List.getElem?_toArray, List.getElem?_cons_succ, List.getElem?_cons_zero]; rfl) (fun K hK => ?_) AllReadyH.nil
          go_simp
          refine (Hins.out).mono ?_
          rintro e w5 ⟨v5, rfl, ho5, hg5⟩
          have hTab := addR_tab Ht.out ⟨gb, gn, gr, true, false, gs⟩
          have hP := turned_put HTa.out ho5 hg5 (by rw [(Hadd0 ()).out] at hTab; exact hTab)
          have y5 := hP.2.1
          have f5 := hP.2.2
          have HXw := Six.of (HXa.out.grown hg5.g (fun e => HXn.out e.symm))
          have HFin := fun (_ : Unit) => Lib.hid (show ∃ tv', Turned B R m (.slice (some ⟨b0, o0, none⟩) t.length cap) tv' (t.take (aft t gb) ++ ⟨gb, gn, gr, true, false, gs⟩ :: t.drop (aft t gb)) w (w5.setCell ⟨R, 65536, none⟩ v5) from by
            refine ⟨v5, ?_, ?_, fun q hq => ?_⟩
            · rw [(Hi ()).out]; exact hP.1.1
            · exact (Frm.later HBa.out).trans hP.1.2
            · exact (hg5.k q hq).imp id (fun h => Nat.le_trans HBa.out.size h))
          have HXs := Six.of ((HXa.out.grown hg5.g (fun e => HXn.out e.symm)).other ⟨R, 65536, none⟩ v5 HXR.out)
          obtain ⟨a5, c5, rfl, -⟩ := ho5.rd rgc_len
          clear hTab hP ho5 hg5 Hins
          generalize (t.take i ++ ⟨gb, gn, gr, true, false, gs⟩ :: t.drop i).length = n5 at *
          go_wp2_with fail
          refine hK.out _ _ HXw (fun hHeld5 => ?_)
          clear hK K
          try simp only [Act.put, List.setIfInBounds_toArray, List.set_cons_zero, List.set_cons_succ]
          refine wpAnyH_take (i := 9) (v := ?_) (by simp only [List.getElem?_toArray, List.getElem?_cons_succ, List.getElem?_cons_zero]; rfl) (by kernel_rfl) (by kernel_rfl) (by kernel_rfl) (by intro _ _ _ h_; exact h_) (Or.inl ⟨by rfl, ?_⟩) (by assumption) ?_
          rotate_left 1
          focus (intro w_ hSw_; go_simp; try with_reducible rfl)
          simp only [Act.put, List.setIfInBounds_toArray, List.set_cons_zero, List.set_cons_succ]
          refine wpAnyH_take (i := 10) (v := ?_) (by simp only [List.getElem?_toArray, List.getElem?_cons_succ, List.getElem?_cons_zero]; rfl) (by kernel_rfl) (by kernel_rfl) (by kernel_rfl) (by intro _ _ _ h_; exact h_) (Or.inl ⟨by rfl, ?_⟩) (by assumption) ?_
          rotate_left 1
          focus (intro w_ hSw_; go_simp; try with_reducible rfl)
          simp only [Act.put, List.setIfInBounds_toArray, List.set_cons_zero, List.set_cons_succ]
          refine wpAnyH_ready (rs := [11]) (by kernel_rfl) (by simp) ?_
          refine AllReadyH.cons (by simp only [List.getElem?_toArray, List.getElem?_cons_succ, List.getElem?_cons_zero]; rfl) (fun K hK => ?_) AllReadyH.nil
          go_simp
          refine hK.out _ _ HXs (fun hHeld6 => ?_)
          clear hK K
          try simp only [Act.put, List.setIfInBounds_toArray, List.set_cons_zero, List.set_cons_succ]
          refine wpAnyH_done (by kernel_rfl) ?_ _
          clear hHeld5 hHeld6 HXw HXs y5 f5
          generalize w5.setCell _ _ = w6 at *
          go_wp2_with fail
          go_ret
          exact ⟨by rw [(Hadd0 ()).out]; rfl, by rw [(Hadd0 ()).out, ← (Hi ()).out]; exact (HFin ()).out⟩
    · have f1 : ¬ (i : Int) < (t.length : Int) := by omega
      have f2 : decide (i < t.length) = false := decide_eq_false hil
      have k2' := fun q => (Htb.out _ (Hb2.out.trans ((⟨q, rfl⟩ : Drn w2 (w2.drewN q)).below _))).tab
      have Hlap : Hid (laps t ⟨gb, gn, gr, true, false, gs⟩ = false) := Lib.hid (by
        unfold laps
        show (match t[aft t gb]? with | some h => decide (h.base < gb + gn) | none => false) = false
        rw [(Hi ()).out, List.getElem?_eq_none (by omega)])
      clear hil
      go_upto_region 10 with fail
      go_quiet (fail)
      obtain ⟨wz, hwz⟩ : ∃ wz, w2.drewN nq = wz := ⟨_, rfl⟩
      have Hbz : Hid (Below w1.heap.size w1 wz) := Lib.hid (by rw [← hwz]; exact Hb2.out.trans ((⟨nq, rfl⟩ : Drn w2 (w2.drewN nq)).below _))
      rw [hwz]
      clear k2 k2' f1 f2 hwz Hb2
      have Hadd0 := fun (_ : Unit) => Lib.hid (((Hin ()).out Hlap.out).trans (by rw [(Hi ()).out]))
      have hd0 : Drn wz wz.drew := ⟨1, rfl⟩
      have hbd : Below w1.heap.size w1 wz.drew := Hbz.out.trans (hd0.below _)
      obtain ⟨wa, hwa⟩ : ∃ wa, (wz.alloc (.cells #[.int .u64 gb, .int .u64 gn, .bool gr, .bool true, .bool false, .bool gs] 33)).drew = wa := ⟨_, rfl⟩
      have hba0 : Below wz.heap.size wz wa := by
        rw [← hwa]
        exact ((Below.refl _ wz).alloc (Nat.le_refl _) _).trans (((⟨1, rfl⟩ : Drn (wz.alloc (.cells #[.int .u64 gb, .int .u64 gn, .bool gr, .bool true, .bool false, .bool gs] 33)) (wz.alloc (.cells #[.int .u64 gb, .int .u64 gn, .bool gr, .bool true, .bool false, .bool gs] 33)).drew)).below _)
      have hba : Below w1.heap.size w1 wa := Hbz.out.trans (hba0.mono Hbz.out.size)
      have hZ : HB wa wz.heap.size 33 (rgc ⟨gb, gn, gr, true, false, gs⟩) := by
        rw [← hwa]
        exact (HB.new wz (rgc ⟨gb, gn, gr, true, false, gs⟩) 33).drn ⟨1, rfl⟩
      have HTa := Lib.hid (Htb.out _ hba)
      have HXa := Lib.hid (HX1.out _ hba)
      have HBa := Lib.hid (HB1.out.trans (hba.mono HB1.out.size))
      have hts := Hh.out _ HB1.out
      have hown : ∀ q, (Value.slice ao t.length cap).ownBlock = some q → q < X := fun q hq => by rw [← (HXx ()).out]; exact HOw.out q hq
      have HXn : Hid ((Value.slice ao t.length cap).ownBlock ≠ some X) := Lib.hid (fun e => by have := hown _ e; omega)
      have HXR : Hid (X ≠ R) := Lib.hid (fun e => by have := HRl.out; have := (HXx ()).out; omega)
      have Hins := Lib.hid (ins_any HTa.out.o (Nat.le_trans HBs.out HBa.out.size) i hi9 (by omega) ⟨gb, gn, gr, true, false, gs⟩ wz.heap.size hZ (fun e => by
        have h1 := hown _ e
        have h2 := HB1.out.size
        have h3 := Hbz.out.size
        have h4 := (HXx ()).out
        omega))
      have y0 := (Htb.out _ hbd).tab
      have ya := HTa.out.tab
      have hX0 := Six.of (HX1.out _ hbd)
      have hXa := Six.of HXa.out
      clear hZ hba hba0 hd0 hts hown hbd
      go_upto_region 12 with fail
      refine wp_region_held_drew (S := fun w' => Six w' X ⟨gb, gn, gr, true, false, gs⟩) (by kernel_rfl) hX0 (fun hHeld => ?_)
      have h6 : ∀ w', Six w' X ⟨gb, gn, gr, true, false, gs⟩ → w'.cell? ⟨X, 0, none⟩ = some (.int .u64 gb) ∧ w'.cell? ⟨X, 1, none⟩ = some (.int .u64 gn) ∧ w'.cell? ⟨X, 2, none⟩ = some (.bool gr) ∧ w'.cell? ⟨X, 3, none⟩ = some (.bool true) ∧ w'.cell? ⟨X, 4, none⟩ = some (.bool false) ∧ w'.cell? ⟨X, 5, none⟩ = some (.bool gs) := fun w' h => ⟨h.c0, h.c1, h.c2, h.c3, h.c4, h.c5⟩
      refine wpAnyH_take (i := 0) (v := ?_) (by simp only [List.getElem?_toArray, List.getElem?_cons_succ, List.getElem?_cons_zero]; rfl) (by kernel_rfl) (by kernel_rfl) (by kernel_rfl) (by intro _ _ _ h_; exact h_) (Or.inl ⟨by rfl, ?_⟩) (by assumption) ?_
      rotate_left 1
      focus (intro w_ hSw_; go_simp; try with_reducible rfl)
      simp only [Act.put, List.setIfInBounds_toArray, List.set_cons_zero, List.set_cons_succ]
      refine wpAnyH_take (i := 1) (v := ?_) (by simp only [List.getElem?_toArray, List.getElem?_cons_succ, List.getElem?_cons_zero]; rfl) (by kernel_rfl) (by kernel_rfl) (by kernel_rfl) (by intro _ _ _ h_; exact h_) (Or.inl ⟨by rfl, ?_⟩) (by assumption) ?_
      rotate_left 1
      focus (intro w_ hSw_; go_simp; try with_reducible rfl)
      simp only [Act.put, List.setIfInBounds_toArray, List.set_cons_zero, List.set_cons_succ]
      refine wpAnyH_take (i := 2) (v := ?_) (by simp only [List.getElem?_toArray, List.getElem?_cons_succ, List.getElem?_cons_zero]; rfl) (by kernel_rfl) (by kernel_rfl) (by kernel_rfl) (by intro _ _ _ h_; exact h_) (Or.inl ⟨by rfl, ?_⟩) (by assumption) ?_
      rotate_left 1
      focus (intro w_ hSw_; go_simp; try with_reducible rfl)
      simp only [Act.put, List.setIfInBounds_toArray, List.set_cons_zero, List.set_cons_succ]
      refine wpAnyH_take (i := 3) (v := ?_) (by simp only [List.getElem?_toArray, List.getElem?_cons_succ, List.getElem?_cons_zero]; rfl) (by kernel_rfl) (by kernel_rfl) (by kernel_rfl) (by intro _ _ _ h_; exact h_) (Or.inl ⟨by rfl, ?_⟩) (by assumption) ?_
      rotate_left 1
      focus (intro w_ hSw_; go_simp; try with_reducible rfl)
      simp only [Act.put, List.setIfInBounds_toArray, List.set_cons_zero, List.set_cons_succ]
      refine wpAnyH_take (i := 5) (v := ?_) (by simp only [List.getElem?_toArray, List.getElem?_cons_succ, List.getElem?_cons_zero]; rfl) (by kernel_rfl) (by kernel_rfl) (by kernel_rfl) (by intro _ _ _ h_; exact h_) (Or.inl ⟨by rfl, ?_⟩) (by assumption) ?_
      rotate_left 1
      focus (intro w_ hSw_; go_simp; try with_reducible rfl)
      simp only [Act.put, List.setIfInBounds_toArray, List.set_cons_zero, List.set_cons_succ]
      refine wpAnyH_take (i := 6) (v := ?_) (by simp only [List.getElem?_toArray, List.getElem?_cons_succ, List.getElem?_cons_zero]; rfl) (by kernel_rfl) (by kernel_rfl) (by kernel_rfl) (by intro _ _ _ h_; exact h_) (Or.inl ⟨by rfl, ?_⟩) (by assumption) ?_
      rotate_left 1
      focus (intro w_ hSw_; obtain ⟨z0, z1, z2, z3, z4, z5⟩ := h6 _ hSw_; go_simp; try with_reducible rfl)
      simp only [Act.put, List.setIfInBounds_toArray, List.set_cons_zero, List.set_cons_succ]
      clear h6
      refine wpAnyH_ready (rs := [4, 7]) (by kernel_rfl) (by simp) ?_
      refine AllReadyH.cons (by simp only [List.getElem?_toArray, List.getElem?_cons_succ, List.getElem?_cons_zero]; rfl) (fun K hK => ?_) (AllReadyH.cons (by simp only [List.getElem?_toArray, List.getElem?_cons_succ, List.getElem?_cons_zero]; rfl) (fun K hK => ?_) AllReadyH.nil)
      · go_simp
        refine hK.out _ _ hX0 (fun hHeld2 => ?_)
        clear hK K
        try simp only [Act.put, List.setIfInBounds_toArray, List.set_cons_zero, List.set_cons_succ]
        refine wpAnyH_ready (rs := [7]) (by kernel_rfl) (by simp) ?_
        refine AllReadyH.cons (by simp only [List.getElem?_toArray, List.getElem?_cons_succ, List.getElem?_cons_zero]; rfl) (fun K hK => ?_) AllReadyH.nil
        go_simp
        refine hK.out _ _ hXa (fun hHeld3 => ?_)
        clear y0 hHeld hHeld2
        clear hK K
        try simp only [Act.put, List.setIfInBounds_toArray, List.set_cons_zero, List.set_cons_succ]
        refine wpAnyH_ready (rs := [8]) (by kernel_rfl) (by simp) ?_
        refine AllReadyH.cons (by simp only [List.getElem?_toArray, List.getElem?_cons_succ, List.getElem?_cons_zero]; rfl) (fun K hK => ?_) AllReadyH.nil
        go_simp
        refine (Hins.out).mono ?_
        rintro e w5 ⟨v5, rfl, ho5, hg5⟩
        have hTab := addR_tab Ht.out ⟨gb, gn, gr, true, false, gs⟩
        have hP := turned_put HTa.out ho5 hg5 (by rw [(Hadd0 ()).out] at hTab; exact hTab)
        have y5 := hP.2.1
        have f5 := hP.2.2
        have HXw := Six.of (HXa.out.grown hg5.g (fun e => HXn.out e.symm))
        have HFin := fun (_ : Unit) => Lib.hid (show ∃ tv', Turned B R m (.slice ao t.length cap) tv' (t.take (aft t gb) ++ ⟨gb, gn, gr, true, false, gs⟩ :: t.drop (aft t gb)) w (w5.setCell ⟨R, 65536, none⟩ v5) from by
          refine ⟨v5, ?_, ?_, fun q hq => ?_⟩
          · rw [(Hi ()).out]; exact hP.1.1
          · exact (Frm.later HBa.out).trans hP.1.2
          · exact (hg5.k q hq).imp id (fun h => Nat.le_trans HBa.out.size h))
        have HXs := Six.of ((HXa.out.grown hg5.g (fun e => HXn.out e.symm)).other ⟨R, 65536, none⟩ v5 HXR.out)
        obtain ⟨a5, c5, rfl, -⟩ := ho5.rd rgc_len
        clear hTab hP ho5 hg5 Hins
        generalize (t.take i ++ ⟨gb, gn, gr, true, false, gs⟩ :: t.drop i).length = n5 at *
        go_wp2_with fail
        refine hK.out _ _ HXw (fun hHeld5 => ?_)
        clear hK K
        try simp only [Act.put, List.setIfInBounds_toArray, List.set_cons_zero, List.set_cons_succ]
        refine wpAnyH_take (i := 9) (v := ?_) (by simp only [List.getElem?_toArray, List.getElem?_cons_succ, List.getElem?_cons_zero]; rfl) (by kernel_rfl) (by kernel_rfl) (by kernel_rfl) (by intro _ _ _ h_; exact h_) (Or.inl ⟨by rfl, ?_⟩) (by assumption) ?_
        rotate_left 1
        focus (intro w_ hSw_; go_simp; try with_reducible rfl)
        simp only [Act.put, List.setIfInBounds_toArray, List.set_cons_zero, List.set_cons_succ]
        refine wpAnyH_take (i := 10) (v := ?_) (by simp only [List.getElem?_toArray, List.getElem?_cons_succ, List.getElem?_cons_zero]; rfl) (by kernel_rfl) (by kernel_rfl) (by kernel_rfl) (by intro _ _ _ h_; exact h_) (Or.inl ⟨by rfl, ?_⟩) (by assumption) ?_
        rotate_left 1
        focus (intro w_ hSw_; go_simp; try with_reducible rfl)
        simp only [Act.put, List.setIfInBounds_toArray, List.set_cons_zero, List.set_cons_succ]
        refine wpAnyH_ready (rs := [11]) (by kernel_rfl) (by simp) ?_
        refine AllReadyH.cons (by simp only [List.getElem?_toArray, List.getElem?_cons_succ, List.getElem?_cons_zero]; rfl) (fun K hK => ?_) AllReadyH.nil
        go_simp
        refine hK.out _ _ HXs (fun hHeld6 => ?_)
        clear hK K
        try simp only [Act.put, List.setIfInBounds_toArray, List.set_cons_zero, List.set_cons_succ]
        refine wpAnyH_done (by kernel_rfl) ?_ _
        clear hHeld5 hHeld6 HXw HXs y5 f5
        generalize w5.setCell _ _ = w6 at *
        go_wp2_with fail
        go_ret
        exact ⟨by rw [(Hadd0 ()).out]; rfl, by rw [(Hadd0 ()).out, ← (Hi ()).out]; exact (HFin ()).out⟩
      · go_simp
        refine hK.out _ _ hXa (fun hHeld2 => ?_)
        clear hK K
        try simp only [Act.put, List.setIfInBounds_toArray, List.set_cons_zero, List.set_cons_succ]
        refine wpAnyH_ready (rs := [4]) (by kernel_rfl) (by simp) ?_
        refine AllReadyH.cons (by simp only [List.getElem?_toArray, List.getElem?_cons_succ, List.getElem?_cons_zero]; rfl) (fun K hK => ?_) AllReadyH.nil
        go_simp
        refine hK.out _ _ hXa (fun hHeld3 => ?_)
        clear y0 hHeld hHeld2
        clear hK K
        try simp only [Act.put, List.setIfInBounds_toArray, List.set_cons_zero, List.set_cons_succ]
        refine wpAnyH_ready (rs := [8]) (by kernel_rfl) (by simp) ?_
        refine AllReadyH.cons (by simp only [List.getElem?_toArray, List.getElem?_cons_succ, List.getElem?_cons_zero]; rfl) (fun K hK => ?_) AllReadyH.nil
        go_simp
        refine (Hins.out).mono ?_
        rintro e w5 ⟨v5, rfl, ho5, hg5⟩
        have hTab := addR_tab Ht.out ⟨gb, gn, gr, true, false, gs⟩
        have hP := turned_put HTa.out ho5 hg5 (by rw [(Hadd0 ()).out] at hTab; exact hTab)
        have y5 := hP.2.1
        have f5 := hP.2.2
        have HXw := Six.of (HXa.out.grown hg5.g (fun e => HXn.out e.symm))
        have HFin := fun (_ : Unit) => Lib.hid (show ∃ tv', Turned B R m (.slice ao t.length cap) tv' (t.take (aft t gb) ++ ⟨gb, gn, gr, true, false, gs⟩ :: t.drop (aft t gb)) w (w5.setCell ⟨R, 65536, none⟩ v5) from by
          refine ⟨v5, ?_, ?_, fun q hq => ?_⟩
          · rw [(Hi ()).out]; exact hP.1.1
          · exact (Frm.later HBa.out).trans hP.1.2
          · exact (hg5.k q hq).imp id (fun h => Nat.le_trans HBa.out.size h))
        have HXs := Six.of ((HXa.out.grown hg5.g (fun e => HXn.out e.symm)).other ⟨R, 65536, none⟩ v5 HXR.out)
        obtain ⟨a5, c5, rfl, -⟩ := ho5.rd rgc_len
        clear hTab hP ho5 hg5 Hins
        generalize (t.take i ++ ⟨gb, gn, gr, true, false, gs⟩ :: t.drop i).length = n5 at *
        go_wp2_with fail
        refine hK.out _ _ HXw (fun hHeld5 => ?_)
        clear hK K
        try simp only [Act.put, List.setIfInBounds_toArray, List.set_cons_zero, List.set_cons_succ]
        refine wpAnyH_take (i := 9) (v := ?_) (by simp only [List.getElem?_toArray, List.getElem?_cons_succ, List.getElem?_cons_zero]; rfl) (by kernel_rfl) (by kernel_rfl) (by kernel_rfl) (by intro _ _ _ h_; exact h_) (Or.inl ⟨by rfl, ?_⟩) (by assumption) ?_
        rotate_left 1
        focus (intro w_ hSw_; go_simp; try with_reducible rfl)
        simp only [Act.put, List.setIfInBounds_toArray, List.set_cons_zero, List.set_cons_succ]
        refine wpAnyH_take (i := 10) (v := ?_) (by simp only [List.getElem?_toArray, List.getElem?_cons_succ, List.getElem?_cons_zero]; rfl) (by kernel_rfl) (by kernel_rfl) (by kernel_rfl) (by intro _ _ _ h_; exact h_) (Or.inl ⟨by rfl, ?_⟩) (by assumption) ?_
        rotate_left 1
        focus (intro w_ hSw_; go_simp; try with_reducible rfl)
        simp only [Act.put, List.setIfInBounds_toArray, List.set_cons_zero, List.set_cons_succ]
        refine wpAnyH_ready (rs := [11]) (by kernel_rfl) (by simp) ?_
        refine AllReadyH.cons (by simp only [List.getElem?_toArray, List.getElem?_cons_succ, List.getElem?_cons_zero]; rfl) (fun K hK => ?_) AllReadyH.nil
        go_simp
        refine hK.out _ _ HXs (fun hHeld6 => ?_)
        clear hK K
        try simp only [Act.put, List.setIfInBounds_toArray, List.set_cons_zero, List.set_cons_succ]
        refine wpAnyH_done (by kernel_rfl) ?_ _
        clear hHeld5 hHeld6 HXw HXs y5 f5
        generalize w5.setCell _ _ = w6 at *
        go_wp2_with fail
        go_ret
        exact ⟨by rw [(Hadd0 ()).out]; rfl, by rw [(Hadd0 ()).out, ← (Hi ()).out]; exact (HFin ()).out⟩
  · go_enter Try.func9, Try.ntmps9
    go_wp2_with fail
    refine (Hw.out _).mono ?_
    rintro e w' ⟨rfl, rfl⟩
    clear Hw
    go_wp2_with fail
    refine Ha.out.mono ?_
    rintro e w2 ⟨rfl, hb2⟩
    have Hb2 := Lib.hid hb2
    have k2 := (Htb.out _ hb2).tab
    clear hb2 Ha x0 x1 x2 x3 x4 x5 k0 hw1 hX HX
    by_cases hil : i < t.length
    · have f1 : (i : Int) < (t.length : Int) := by omega
      obtain ⟨h, hh⟩ : ∃ h, t[i]? = some h := ⟨_, List.getElem?_eq_getElem hil⟩
      have hd0 : Drn w2 w2.drew := ⟨1, rfl⟩
      have hbd2 : Below w1.heap.size w1 w2.drew := Hb2.out.trans (hd0.below _)
      have hT := Htb.out _ hbd2
      have hlap : laps t ⟨gb, gn, gr, false, gx, gs⟩ = decide (h.base < E) := by
        unfold laps
        show (match t[aft t gb]? with | some h => decide (h.base < gb + gn) | none => false) = _
        rw [(Hi ()).out, hh, (HE ()).out]
      have Hlap0 := Lib.hid hlap
      obtain ⟨_, _, hta, -, -, hr, -⟩ := hT.tv
      cases hta
      obtain ⟨b0, o0, rfl, hb0, hcl⟩ := hr i h hh
      have z0 : w2.drew.cell? ⟨b0, o0 + i * 6, none⟩ = some (.int .u64 h.base) := hcl 0 _ rfl
      have z1 := hT.tab
      have z2 := Six.of (HX1.out _ hbd2)
      have Hb0 := Lib.hid hb0
      clear hbd2 hd0 hT hlap hr hcl hh hb0
      go_upto_region 10 with fail
      refine wp_region_held_drew (S := fun w' => w'.cell? ⟨R, 65536, none⟩ = some (.slice (some ⟨b0, o0, none⟩) t.length cap) ∧ w'.cell? ⟨b0, o0 + i * 6, none⟩ = some (.int .u64 h.base) ∧ Six w' X ⟨gb, gn, gr, false, gx, gs⟩) (by kernel_rfl) ⟨z1, z0, z2⟩ (fun hHeld => ?_)
      have h6 : ∀ w', Six w' X ⟨gb, gn, gr, false, gx, gs⟩ → w'.cell? ⟨X, 0, none⟩ = some (.int .u64 gb) ∧ w'.cell? ⟨X, 1, none⟩ = some (.int .u64 gn) ∧ w'.cell? ⟨X, 2, none⟩ = some (.bool gr) ∧ w'.cell? ⟨X, 3, none⟩ = some (.bool false) ∧ w'.cell? ⟨X, 4, none⟩ = some (.bool gx) ∧ w'.cell? ⟨X, 5, none⟩ = some (.bool gs) := fun w' h => ⟨h.c0, h.c1, h.c2, h.c3, h.c4, h.c5⟩
      clear z0 z1 z2 k2
      refine wpAnyH_take (i := 0) (v := ?_) (by simp only [List.getElem?_toArray, List.getElem?_cons_succ, List.getElem?_cons_zero]; rfl) (by kernel_rfl) (by kernel_rfl) (by kernel_rfl) (by intro _ _ _ h_; exact h_) (Or.inl ⟨by rfl, ?_⟩) (by assumption) ?_
      rotate_left 1
      focus (intro w_ hSw_; go_simp; try with_reducible rfl)
      simp only [Act.put, List.setIfInBounds_toArray, List.set_cons_zero, List.set_cons_succ]
      refine wpAnyH_take (i := 1) (v := ?_) (by simp only [List.getElem?_toArray, List.getElem?_cons_succ, List.getElem?_cons_zero]; rfl) (by kernel_rfl) (by kernel_rfl) (by kernel_rfl) (by intro _ _ _ h_; exact h_) (Or.inl ⟨by rfl, ?_⟩) (by assumption) ?_
      rotate_left 1
      focus (intro w_ hSw_; go_simp; try with_reducible rfl)
      simp only [Act.put, List.setIfInBounds_toArray, List.set_cons_zero, List.set_cons_succ]
      refine wpAnyH_take (i := 2) (v := ?_) (by simp only [List.getElem?_toArray, List.getElem?_cons_succ, List.getElem?_cons_zero]; rfl) (by kernel_rfl) (by kernel_rfl) (by kernel_rfl) (by intro _ _ _ h_; exact h_) (Or.inl ⟨by rfl, ?_⟩) (by assumption) ?_
      rotate_left 1
      focus (intro w_ hSw_; go_simp; try with_reducible rfl)
      simp only [Act.put, List.setIfInBounds_toArray, List.set_cons_zero, List.set_cons_succ]
      refine wpAnyH_take (i := 3) (v := ?_) (by simp only [List.getElem?_toArray, List.getElem?_cons_succ, List.getElem?_cons_zero]; rfl) (by kernel_rfl) (by kernel_rfl) (by kernel_rfl) (by intro _ _ _ h_; exact h_) (Or.inl ⟨by rfl, ?_⟩) (by assumption) ?_
      rotate_left 1
      focus (intro w_ hSw_; go_simp; try with_reducible rfl)
      simp only [Act.put, List.setIfInBounds_toArray, List.set_cons_zero, List.set_cons_succ]
      refine wpAnyH_take (i := 4) (v := ?_) (by simp only [List.getElem?_toArray, List.getElem?_cons_succ, List.getElem?_cons_zero]; rfl) (by kernel_rfl) (by kernel_rfl) (by kernel_rfl) (by intro _ _ _ h_; exact h_) (Or.inl ⟨by rfl, ?_⟩) (by assumption) ?_
      rotate_left 1
      focus (intro w_ hSw_; go_simp; try with_reducible rfl)
      simp only [Act.put, List.setIfInBounds_toArray, List.set_cons_zero, List.set_cons_succ]
      refine wpAnyH_take (i := 5) (v := ?_) (by simp only [List.getElem?_toArray, List.getElem?_cons_succ, List.getElem?_cons_zero]; rfl) (by kernel_rfl) (by kernel_rfl) (by kernel_rfl) (by intro _ _ _ h_; exact h_) (Or.inl ⟨by rfl, ?_⟩) (by assumption) ?_
      rotate_left 1
      focus (intro w_ hSw_; go_simp; try with_reducible rfl)
      simp only [Act.put, List.setIfInBounds_toArray, List.set_cons_zero, List.set_cons_succ]
      refine wpAnyH_take (i := 6) (v := ?_) (by simp only [List.getElem?_toArray, List.getElem?_cons_succ, List.getElem?_cons_zero]; rfl) (by kernel_rfl) (by kernel_rfl) (by kernel_rfl) (by intro _ _ _ h_; exact h_) (Or.inl ⟨by rfl, ?_⟩) (by assumption) ?_
      rotate_left 1
      focus (intro w_ hSw_; go_simp; try with_reducible rfl)
      simp only [Act.put, List.setIfInBounds_toArray, List.set_cons_zero, List.set_cons_succ]
      refine wpAnyH_take (i := 7) (v := ?_) (by simp only [List.getElem?_toArray, List.getElem?_cons_succ, List.getElem?_cons_zero]; rfl) (by kernel_rfl) (by kernel_rfl) (by kernel_rfl) (by intro _ _ _ h_; exact h_) (Or.inl ⟨by rfl, ?_⟩) (by assumption) ?_
      rotate_left 1
      focus (intro w_ hSw_; go_simp; try with_reducible rfl)
      simp only [Act.put, List.setIfInBounds_toArray, List.set_cons_zero, List.set_cons_succ]
      refine wpAnyH_take (i := 8) (v := ?_) (by simp only [List.getElem?_toArray, List.getElem?_cons_succ, List.getElem?_cons_zero]; rfl) (by kernel_rfl) (by kernel_rfl) (by kernel_rfl) (by intro _ _ _ h_; exact h_) (Or.inl ⟨by rfl, ?_⟩) (by assumption) ?_
      rotate_left 1
      focus (intro w_ hSw_; go_simp; try with_reducible rfl)
      simp only [Act.put, List.setIfInBounds_toArray, List.set_cons_zero, List.set_cons_succ]
      refine wpAnyH_take (i := 9) (v := ?_) (by simp only [List.getElem?_toArray, List.getElem?_cons_succ, List.getElem?_cons_zero]; rfl) (by kernel_rfl) (by kernel_rfl) (by kernel_rfl) (by intro _ _ _ h_; exact h_) (Or.inl ⟨by rfl, ?_⟩) (by assumption) ?_
      rotate_left 1
      focus (intro w_ hSw_; go_simp; try with_reducible rfl)
      simp only [Act.put, List.setIfInBounds_toArray, List.set_cons_zero, List.set_cons_succ]
      refine wpAnyH_take (i := 10) (v := ?_) (by simp only [List.getElem?_toArray, List.getElem?_cons_succ, List.getElem?_cons_zero]; rfl) (by kernel_rfl) (by kernel_rfl) (by kernel_rfl) (by intro _ _ _ h_; exact h_) (Or.inl ⟨by rfl, ?_⟩) (by assumption) ?_
      rotate_left 1
      focus (intro w_ hSw_; go_simp; try with_reducible rfl)
      simp only [Act.put, List.setIfInBounds_toArray, List.set_cons_zero, List.set_cons_succ]
      refine wpAnyH_take (i := 11) (v := ?_) (by simp only [List.getElem?_toArray, List.getElem?_cons_succ, List.getElem?_cons_zero]; rfl) (by kernel_rfl) (by kernel_rfl) (by kernel_rfl) (by intro _ _ _ h_; exact h_) (Or.inl ⟨by rfl, ?_⟩) (by assumption) ?_
      rotate_left 1
      focus (intro w_ hSw_; go_simp; try with_reducible rfl)
      simp only [Act.put, List.setIfInBounds_toArray, List.set_cons_zero, List.set_cons_succ]
      refine wpAnyH_take (i := 12) (v := ?_) (by simp only [List.getElem?_toArray, List.getElem?_cons_succ, List.getElem?_cons_zero]; rfl) (by kernel_rfl) (by kernel_rfl) (by kernel_rfl) (by intro _ _ _ h_; exact h_) (Or.inl ⟨by rfl, ?_⟩) (by assumption) ?_
      rotate_left 1
      focus (intro w_ hSw_; go_simp; try with_reducible rfl)
      simp only [Act.put, List.setIfInBounds_toArray, List.set_cons_zero, List.set_cons_succ]
      refine wpAnyH_take (i := 13) (v := ?_) (by simp only [List.getElem?_toArray, List.getElem?_cons_succ, List.getElem?_cons_zero]; rfl) (by kernel_rfl) (by kernel_rfl) (by kernel_rfl) (by intro _ _ _ h_; exact h_) (Or.inl ⟨by rfl, ?_⟩) (by assumption) ?_
      rotate_left 1
      focus (intro w_ hSw_; go_simp; try with_reducible rfl)
      simp only [Act.put, List.setIfInBounds_toArray, List.set_cons_zero, List.set_cons_succ]
      refine wpAnyH_take (i := 14) (v := ?_) (by simp only [List.getElem?_toArray, List.getElem?_cons_succ, List.getElem?_cons_zero]; rfl) (by kernel_rfl) (by kernel_rfl) (by kernel_rfl) (by intro _ _ _ h_; exact h_) (Or.inl ⟨by rfl, ?_⟩) (by assumption) ?_
      rotate_left 1
      focus (intro w_ hSw_; go_simp; try with_reducible rfl)
      simp only [Act.put, List.setIfInBounds_toArray, List.set_cons_zero, List.set_cons_succ]
      refine wpAnyH_take (i := 15) (v := ?_) (by simp only [List.getElem?_toArray, List.getElem?_cons_succ, List.getElem?_cons_zero]; rfl) (by kernel_rfl) (by kernel_rfl) (by kernel_rfl) (by intro _ _ _ h_; exact h_) (Or.inl ⟨by rfl, ?_⟩) (by assumption) ?_
      rotate_left 1
      focus (intro w_ hSw_; go_simp; try with_reducible rfl)
      simp only [Act.put, List.setIfInBounds_toArray, List.set_cons_zero, List.set_cons_succ]
      refine wpAnyH_take (i := 16) (v := ?_) (by simp only [List.getElem?_toArray, List.getElem?_cons_succ, List.getElem?_cons_zero]; rfl) (by kernel_rfl) (by kernel_rfl) (by kernel_rfl) (by intro _ _ _ h_; exact h_) (Or.inl ⟨by rfl, ?_⟩) (by assumption) ?_
      rotate_left 1
      focus (intro w_ hSw_; obtain ⟨z0, z1, z2, z3, z4, z5⟩ := h6 _ hSw_.2.2; go_simp; try with_reducible rfl)
      simp only [Act.put, List.setIfInBounds_toArray, List.set_cons_zero, List.set_cons_succ]
      clear h6
      refine wpAnyH_ready (rs := [17]) (by kernel_rfl) (by simp) ?_
      refine AllReadyH.cons (by simp only [List.getElem?_toArray, List.getElem?_cons_succ, List.getElem?_cons_zero]; rfl) (fun K hK => ?_) AllReadyH.nil
      go_simp
      refine (He.out _).mono ?_
      rintro e wz ⟨rfl, hbz⟩
      have hbz' : Below w1.heap.size w1 wz := (Hb2.out.trans ((⟨1, rfl⟩ : Drn w2 w2.drew).below _)).trans (hbz.mono Hb2.out.size)
      have Hbz := Lib.hid hbz'
      have y1 := (Htb.out _ hbz').tab
      have y2 : wz.cell? ⟨b0, o0 + i * 6, none⟩ = some (.int .u64 h.base) := cell_later hbz hHeld.2.1
      have y3 := Six.of (HX1.out _ hbz')
      clear hHeld hbz hbz' He Hb2
      go_wp2_with fail
      refine hK.out _ _ ⟨y1, y2, y3⟩ (fun hHeld => ?_)
      clear hK K
      try simp only [Act.put, List.setIfInBounds_toArray, List.set_cons_zero, List.set_cons_succ]
      by_cases hlt : h.base < E
      · have e1 : (h.base : Int) < (E : Int) := by omega
        have hA := (Hadd ()).out (by rw [Hlap0.out]; exact decide_eq_true hlt)
        have Hres := fun (_ : Unit) => Lib.hid hA
        have HS := Lib.hid (show ∃ tv', Turned B R m (.slice (some ⟨b0, o0, none⟩) t.length cap) tv' t w wz from ⟨_, Htb.out _ Hbz.out, Frm.later (HB1.out.trans (Hbz.out.mono HB1.out.size)), fun q hq => .inl hq⟩)
        clear hlt hA
        refine wpAnyH_take (i := 18) (v := ?_) (by simp only [List.getElem?_toArray, List.getElem?_cons_succ, List.getElem?_cons_zero]; rfl) (by kernel_rfl) (by kernel_rfl) (by kernel_rfl) (by intro _ _ _ h_; exact h_) (Or.inl ⟨by rfl, ?_⟩) (by assumption) ?_
        rotate_left 1
        focus (intro w_ hSw_; go_simp; try with_reducible rfl)
        simp only [Act.put, List.setIfInBounds_toArray, List.set_cons_zero, List.set_cons_succ]
        refine wpAnyH_take (i := 19) (v := ?_) (by simp only [List.getElem?_toArray, List.getElem?_cons_succ, List.getElem?_cons_zero]; rfl) (by kernel_rfl) (by kernel_rfl) (by kernel_rfl) (by intro _ _ _ h_; exact h_) (Or.inl ⟨by rfl, ?_⟩) (by assumption) ?_
        rotate_left 1
        focus (intro w_ hSw_; go_simp; try with_reducible rfl)
        simp only [Act.put, List.setIfInBounds_toArray, List.set_cons_zero, List.set_cons_succ]
        refine wpAnyH_done (by kernel_rfl) ?_ _
        clear hHeld y1 y2 y3
        go_wp2_with fail
        go_ret
        exact ⟨by rw [(Hres ()).out]; rfl, by rw [(Hres ()).out]; exact HS.out⟩
      · have e1 : ¬ (h.base : Int) < (E : Int) := by omega
        have Hlap : Hid (laps t ⟨gb, gn, gr, false, gx, gs⟩ = false) := Lib.hid (by rw [Hlap0.out]; exact decide_eq_false hlt)
        clear hlt
        refine wpAnyH_take (i := 18) (v := ?_) (by simp only [List.getElem?_toArray, List.getElem?_cons_succ, List.getElem?_cons_zero]; rfl) (by kernel_rfl) (by kernel_rfl) (by kernel_rfl) (by intro _ _ _ h_; exact h_) (Or.inl ⟨by rfl, ?_⟩) (by assumption) ?_
        rotate_left 1
        focus (intro w_ hSw_; go_simp; try with_reducible rfl)
        simp only [Act.put, List.setIfInBounds_toArray, List.set_cons_zero, List.set_cons_succ]
        refine wpAnyH_take (i := 19) (v := ?_) (by simp only [List.getElem?_toArray, List.getElem?_cons_succ, List.getElem?_cons_zero]; rfl) (by kernel_rfl) (by kernel_rfl) (by kernel_rfl) (by intro _ _ _ h_; exact h_) (Or.inl ⟨by rfl, ?_⟩) (by assumption) ?_
        rotate_left 1
        focus (intro w_ hSw_; go_simp; try with_reducible rfl)
        simp only [Act.put, List.setIfInBounds_toArray, List.set_cons_zero, List.set_cons_succ]
        refine wpAnyH_done (by kernel_rfl) ?_ _
        clear hHeld y1 y2 y3 Hlap0
        have Hadd0 := fun (_ : Unit) => Lib.hid (((Hin ()).out Hlap.out).trans (by rw [(Hi ()).out]))
        have hd0 : Drn wz wz.drew := ⟨1, rfl⟩
        have hbd : Below w1.heap.size w1 wz.drew := Hbz.out.trans (hd0.below _)
        obtain ⟨wa, hwa⟩ : ∃ wa, (wz.alloc (.cells #[.int .u64 gb, .int .u64 gn, .bool gr, .bool false, .bool gx, .bool gs] 33)).drew = wa := ⟨_, rfl⟩
        have hba0 : Below wz.heap.size wz wa := by
          rw [← hwa]
          exact ((Below.refl _ wz).alloc (Nat.le_refl _) _).trans (((⟨1, rfl⟩ : Drn (wz.alloc (.cells #[.int .u64 gb, .int .u64 gn, .bool gr, .bool false, .bool gx, .bool gs] 33)) (wz.alloc (.cells #[.int .u64 gb, .int .u64 gn, .bool gr, .bool false, .bool gx, .bool gs] 33)).drew)).below _)
        have hba : Below w1.heap.size w1 wa := Hbz.out.trans (hba0.mono Hbz.out.size)
        have hZ : HB wa wz.heap.size 33 (rgc ⟨gb, gn, gr, false, gx, gs⟩) := by
          rw [← hwa]
          exact (HB.new wz (rgc ⟨gb, gn, gr, false, gx, gs⟩) 33).drn ⟨1, rfl⟩
        have HTa := Lib.hid (Htb.out _ hba)
        have HXa := Lib.hid (HX1.out _ hba)
        have HBa := Lib.hid (HB1.out.trans (hba.mono HB1.out.size))
        have hts := Hh.out _ HB1.out
        have hown : ∀ q, (Value.slice (some ⟨b0, o0, none⟩) t.length cap).ownBlock = some q → q < X := fun q hq => by rw [← (HXx ()).out]; exact HOw.out q hq
        have HXn : Hid ((Value.slice (some ⟨b0, o0, none⟩) t.length cap).ownBlock ≠ some X) := Lib.hid (fun e => by have := hown _ e; omega)
        have HXR : Hid (X ≠ R) := Lib.hid (fun e => by have := HRl.out; have := (HXx ()).out; omega)
        have Hins := Lib.hid (ins_any HTa.out.o (Nat.le_trans HBs.out HBa.out.size) i hi9 (by omega) ⟨gb, gn, gr, false, gx, gs⟩ wz.heap.size hZ (fun e => by
          have h1 := hown _ e
          have h2 := HB1.out.size
          have h3 := Hbz.out.size
          have h4 := (HXx ()).out
          omega))
        have y0 := (Htb.out _ hbd).tab
        have ya := HTa.out.tab
        have hX0 := Six.of (HX1.out _ hbd)
        have hXa := Six.of HXa.out
        clear hZ hba hba0 hd0 hts hown hbd
        go_upto_region 12 with fail
        refine wp_region_held_drew (S := fun w' => Six w' X ⟨gb, gn, gr, false, gx, gs⟩) (by kernel_rfl) hX0 (fun hHeld => ?_)
        have h6 : ∀ w', Six w' X ⟨gb, gn, gr, false, gx, gs⟩ → w'.cell? ⟨X, 0, none⟩ = some (.int .u64 gb) ∧ w'.cell? ⟨X, 1, none⟩ = some (.int .u64 gn) ∧ w'.cell? ⟨X, 2, none⟩ = some (.bool gr) ∧ w'.cell? ⟨X, 3, none⟩ = some (.bool false) ∧ w'.cell? ⟨X, 4, none⟩ = some (.bool gx) ∧ w'.cell? ⟨X, 5, none⟩ = some (.bool gs) := fun w' h => ⟨h.c0, h.c1, h.c2, h.c3, h.c4, h.c5⟩
        refine wpAnyH_take (i := 0) (v := ?_) (by simp only [List.getElem?_toArray, List.getElem?_cons_succ, List.getElem?_cons_zero]; rfl) (by kernel_rfl) (by kernel_rfl) (by kernel_rfl) (by intro _ _ _ h_; exact h_) (Or.inl ⟨by rfl, ?_⟩) (by assumption) ?_
        rotate_left 1
        focus (intro w_ hSw_; go_simp; try with_reducible rfl)
        simp only [Act.put, List.setIfInBounds_toArray, List.set_cons_zero, List.set_cons_succ]
        refine wpAnyH_take (i := 1) (v := ?_) (by simp only [List.getElem?_toArray, List.getElem?_cons_succ, List.getElem?_cons_zero]; rfl) (by kernel_rfl) (by kernel_rfl) (by kernel_rfl) (by intro _ _ _ h_; exact h_) (Or.inl ⟨by rfl, ?_⟩) (by assumption) ?_
        rotate_left 1
        focus (intro w_ hSw_; go_simp; try with_reducible rfl)
        simp only [Act.put, List.setIfInBounds_toArray, List.set_cons_zero, List.set_cons_succ]
        refine wpAnyH_take (i := 2) (v := ?_) (by simp only [List.getElem?_toArray, List.getElem?_cons_succ, List.getElem?_cons_zero]; rfl) (by kernel_rfl) (by kernel_rfl) (by kernel_rfl) (by intro _ _ _ h_; exact h_) (Or.inl ⟨by rfl, ?_⟩) (by assumption) ?_
        rotate_left 1
        focus (intro w_ hSw_; go_simp; try with_reducible rfl)
        simp only [Act.put, List.setIfInBounds_toArray, List.set_cons_zero, List.set_cons_succ]
        refine wpAnyH_take (i := 3) (v := ?_) (by simp only [List.getElem?_toArray, List.getElem?_cons_succ, List.getElem?_cons_zero]; rfl) (by kernel_rfl) (by kernel_rfl) (by kernel_rfl) (by intro _ _ _ h_; exact h_) (Or.inl ⟨by rfl, ?_⟩) (by assumption) ?_
        rotate_left 1
        focus (intro w_ hSw_; go_simp; try with_reducible rfl)
        simp only [Act.put, List.setIfInBounds_toArray, List.set_cons_zero, List.set_cons_succ]
        refine wpAnyH_take (i := 5) (v := ?_) (by simp only [List.getElem?_toArray, List.getElem?_cons_succ, List.getElem?_cons_zero]; rfl) (by kernel_rfl) (by kernel_rfl) (by kernel_rfl) (by intro _ _ _ h_; exact h_) (Or.inl ⟨by rfl, ?_⟩) (by assumption) ?_
        rotate_left 1
        focus (intro w_ hSw_; go_simp; try with_reducible rfl)
        simp only [Act.put, List.setIfInBounds_toArray, List.set_cons_zero, List.set_cons_succ]
        refine wpAnyH_take (i := 6) (v := ?_) (by simp only [List.getElem?_toArray, List.getElem?_cons_succ, List.getElem?_cons_zero]; rfl) (by kernel_rfl) (by kernel_rfl) (by kernel_rfl) (by intro _ _ _ h_; exact h_) (Or.inl ⟨by rfl, ?_⟩) (by assumption) ?_
        rotate_left 1
        focus (intro w_ hSw_; obtain ⟨z0, z1, z2, z3, z4, z5⟩ := h6 _ hSw_; go_simp; try with_reducible rfl)
        simp only [Act.put, List.setIfInBounds_toArray, List.set_cons_zero, List.set_cons_succ]
        clear h6
        refine wpAnyH_ready (rs := [4, 7]) (by kernel_rfl) (by simp) ?_
        refine AllReadyH.cons (by simp only [List.getElem?_toArray, List.getElem?_cons_succ, List.getElem?_cons_zero]; rfl) (fun K hK => ?_) (AllReadyH.cons (by simp only [List.getElem?_toArray, List.getElem?_cons_succ, List.getElem?_cons_zero]; rfl) (fun K hK => ?_) AllReadyH.nil)
        · go_simp
          refine hK.out _ _ hX0 (fun hHeld2 => ?_)
          clear hK K
          try simp only [Act.put, List.setIfInBounds_toArray, List.set_cons_zero, List.set_cons_succ]
          refine wpAnyH_ready (rs := [7]) (by kernel_rfl) (by simp) ?_
          refine AllReadyH.cons (by simp only [List.getElem?_toArray, List.getElem?_cons_succ, List.getElem?_cons_zero]; rfl) (fun K hK => ?_) AllReadyH.nil
          go_simp
          refine hK.out _ _ hXa (fun hHeld3 => ?_)
          clear y0 hHeld hHeld2
          clear hK K
          try simp only [Act.put, List.setIfInBounds_toArray, List.set_cons_zero, List.set_cons_succ]
          refine wpAnyH_ready (rs := [8]) (by kernel_rfl) (by simp) ?_
          refine AllReadyH.cons (by simp only [List.getElem?_toArray, List.getElem?_cons_succ, List.getElem?_cons_zero]; rfl) (fun K hK => ?_) AllReadyH.nil
          go_simp
          refine (Hins.out).mono ?_
          rintro e w5 ⟨v5, rfl, ho5, hg5⟩
          have hTab := addR_tab Ht.out ⟨gb, gn, gr, false, gx, gs⟩
          have hP := turned_put HTa.out ho5 hg5 (by rw [(Hadd0 ()).out] at hTab; exact hTab)
          have y5 := hP.2.1
          have f5 := hP.2.2
          have HXw := Six.of (HXa.out.grown hg5.g (fun e => HXn.out e.symm))
          have HFin := fun (_ : Unit) => Lib.hid (show ∃ tv', Turned B R m (.slice (some ⟨b0, o0, none⟩) t.length cap) tv' (t.take (aft t gb) ++ ⟨gb, gn, gr, false, gx, gs⟩ :: t.drop (aft t gb)) w (w5.setCell ⟨R, 65536, none⟩ v5) from by
            refine ⟨v5, ?_, ?_, fun q hq => ?_⟩
            · rw [(Hi ()).out]; exact hP.1.1
            · exact (Frm.later HBa.out).trans hP.1.2
            · exact (hg5.k q hq).imp id (fun h => Nat.le_trans HBa.out.size h))
          have HXs := Six.of ((HXa.out.grown hg5.g (fun e => HXn.out e.symm)).other ⟨R, 65536, none⟩ v5 HXR.out)
          obtain ⟨a5, c5, rfl, -⟩ := ho5.rd rgc_len
          clear hTab hP ho5 hg5 Hins
          generalize (t.take i ++ ⟨gb, gn, gr, false, gx, gs⟩ :: t.drop i).length = n5 at *
          go_wp2_with fail
          refine hK.out _ _ HXw (fun hHeld5 => ?_)
          clear hK K
          try simp only [Act.put, List.setIfInBounds_toArray, List.set_cons_zero, List.set_cons_succ]
          refine wpAnyH_take (i := 9) (v := ?_) (by simp only [List.getElem?_toArray, List.getElem?_cons_succ, List.getElem?_cons_zero]; rfl) (by kernel_rfl) (by kernel_rfl) (by kernel_rfl) (by intro _ _ _ h_; exact h_) (Or.inl ⟨by rfl, ?_⟩) (by assumption) ?_
          rotate_left 1
          focus (intro w_ hSw_; go_simp; try with_reducible rfl)
          simp only [Act.put, List.setIfInBounds_toArray, List.set_cons_zero, List.set_cons_succ]
          refine wpAnyH_take (i := 10) (v := ?_) (by simp only [List.getElem?_toArray, List.getElem?_cons_succ, List.getElem?_cons_zero]; rfl) (by kernel_rfl) (by kernel_rfl) (by kernel_rfl) (by intro _ _ _ h_; exact h_) (Or.inl ⟨by rfl, ?_⟩) (by assumption) ?_
          rotate_left 1
          focus (intro w_ hSw_; go_simp; try with_reducible rfl)
          simp only [Act.put, List.setIfInBounds_toArray, List.set_cons_zero, List.set_cons_succ]
          refine wpAnyH_ready (rs := [11]) (by kernel_rfl) (by simp) ?_
          refine AllReadyH.cons (by simp only [List.getElem?_toArray, List.getElem?_cons_succ, List.getElem?_cons_zero]; rfl) (fun K hK => ?_) AllReadyH.nil
          go_simp
          refine hK.out _ _ HXs (fun hHeld6 => ?_)
          clear hK K
          try simp only [Act.put, List.setIfInBounds_toArray, List.set_cons_zero, List.set_cons_succ]
          refine wpAnyH_done (by kernel_rfl) ?_ _
          clear hHeld5 hHeld6 HXw HXs y5 f5
          generalize w5.setCell _ _ = w6 at *
          go_wp2_with fail
          go_ret
          exact ⟨by rw [(Hadd0 ()).out]; rfl, by rw [(Hadd0 ()).out, ← (Hi ()).out]; exact (HFin ()).out⟩
        · go_simp
          refine hK.out _ _ hXa (fun hHeld2 => ?_)
          clear hK K
          try simp only [Act.put, List.setIfInBounds_toArray, List.set_cons_zero, List.set_cons_succ]
          refine wpAnyH_ready (rs := [4]) (by kernel_rfl) (by simp) ?_
          refine AllReadyH.cons (by simp only [List.getElem?_toArray, List.getElem?_cons_succ, List.getElem?_cons_zero]; rfl) (fun K hK => ?_) AllReadyH.nil
          go_simp
          refine hK.out _ _ hXa (fun hHeld3 => ?_)
          clear y0 hHeld hHeld2
          clear hK K
          try simp only [Act.put, List.setIfInBounds_toArray, List.set_cons_zero, List.set_cons_succ]
          refine wpAnyH_ready (rs := [8]) (by kernel_rfl) (by simp) ?_
          refine AllReadyH.cons (by simp only [List.getElem?_toArray, List.getElem?_cons_succ, List.getElem?_cons_zero]; rfl) (fun K hK => ?_) AllReadyH.nil
          go_simp
          refine (Hins.out).mono ?_
          rintro e w5 ⟨v5, rfl, ho5, hg5⟩
          have hTab := addR_tab Ht.out ⟨gb, gn, gr, false, gx, gs⟩
          have hP := turned_put HTa.out ho5 hg5 (by rw [(Hadd0 ()).out] at hTab; exact hTab)
          have y5 := hP.2.1
          have f5 := hP.2.2
          have HXw := Six.of (HXa.out.grown hg5.g (fun e => HXn.out e.symm))
          have HFin := fun (_ : Unit) => Lib.hid (show ∃ tv', Turned B R m (.slice (some ⟨b0, o0, none⟩) t.length cap) tv' (t.take (aft t gb) ++ ⟨gb, gn, gr, false, gx, gs⟩ :: t.drop (aft t gb)) w (w5.setCell ⟨R, 65536, none⟩ v5) from by
            refine ⟨v5, ?_, ?_, fun q hq => ?_⟩
            · rw [(Hi ()).out]; exact hP.1.1
            · exact (Frm.later HBa.out).trans hP.1.2
            · exact (hg5.k q hq).imp id (fun h => Nat.le_trans HBa.out.size h))
          have HXs := Six.of ((HXa.out.grown hg5.g (fun e => HXn.out e.symm)).other ⟨R, 65536, none⟩ v5 HXR.out)
          obtain ⟨a5, c5, rfl, -⟩ := ho5.rd rgc_len
          clear hTab hP ho5 hg5 Hins
          generalize (t.take i ++ ⟨gb, gn, gr, false, gx, gs⟩ :: t.drop i).length = n5 at *
          go_wp2_with fail
          refine hK.out _ _ HXw (fun hHeld5 => ?_)
          clear hK K
          try simp only [Act.put, List.setIfInBounds_toArray, List.set_cons_zero, List.set_cons_succ]
          refine wpAnyH_take (i := 9) (v := ?_) (by simp only [List.getElem?_toArray, List.getElem?_cons_succ, List.getElem?_cons_zero]; rfl) (by kernel_rfl) (by kernel_rfl) (by kernel_rfl) (by intro _ _ _ h_; exact h_) (Or.inl ⟨by rfl, ?_⟩) (by assumption) ?_
          rotate_left 1
          focus (intro w_ hSw_; go_simp; try with_reducible rfl)
          simp only [Act.put, List.setIfInBounds_toArray, List.set_cons_zero, List.set_cons_succ]
          refine wpAnyH_take (i := 10) (v := ?_) (by simp only [List.getElem?_toArray, List.getElem?_cons_succ, List.getElem?_cons_zero]; rfl) (by kernel_rfl) (by kernel_rfl) (by kernel_rfl) (by intro _ _ _ h_; exact h_) (Or.inl ⟨by rfl, ?_⟩) (by assumption) ?_
          rotate_left 1
          focus (intro w_ hSw_; go_simp; try with_reducible rfl)
          simp only [Act.put, List.setIfInBounds_toArray, List.set_cons_zero, List.set_cons_succ]
          refine wpAnyH_ready (rs := [11]) (by kernel_rfl) (by simp) ?_
          refine AllReadyH.cons (by simp only [List.getElem?_toArray, List.getElem?_cons_succ, List.getElem?_cons_zero]; rfl) (fun K hK => ?_) AllReadyH.nil
          go_simp
          refine hK.out _ _ HXs (fun hHeld6 => ?_)
          clear hK K
          try simp only [Act.put, List.setIfInBounds_toArray, List.set_cons_zero, List.set_cons_succ]
          refine wpAnyH_done (by kernel_rfl) ?_ _
          clear hHeld5 hHeld6 HXw HXs y5 f5
          generalize w5.setCell _ _ = w6 at *
          go_wp2_with fail
          go_ret
          exact ⟨by rw [(Hadd0 ()).out]; rfl, by rw [(Hadd0 ()).out, ← (Hi ()).out]; exact (HFin ()).out⟩
    · have f1 : ¬ (i : Int) < (t.length : Int) := by omega
      have f2 : decide (i < t.length) = false := decide_eq_false hil
      have k2' := fun q => (Htb.out _ (Hb2.out.trans ((⟨q, rfl⟩ : Drn w2 (w2.drewN q)).below _))).tab
      have Hlap : Hid (laps t ⟨gb, gn, gr, false, gx, gs⟩ = false) := Lib.hid (by
        unfold laps
        show (match t[aft t gb]? with | some h => decide (h.base < gb + gn) | none => false) = false
        rw [(Hi ()).out, List.getElem?_eq_none (by omega)])
      clear hil
      go_upto_region 10 with fail
      go_quiet (fail)
      obtain ⟨wz, hwz⟩ : ∃ wz, w2.drewN nq = wz := ⟨_, rfl⟩
      have Hbz : Hid (Below w1.heap.size w1 wz) := Lib.hid (by rw [← hwz]; exact Hb2.out.trans ((⟨nq, rfl⟩ : Drn w2 (w2.drewN nq)).below _))
      rw [hwz]
      clear k2 k2' f1 f2 hwz Hb2
      have Hadd0 := fun (_ : Unit) => Lib.hid (((Hin ()).out Hlap.out).trans (by rw [(Hi ()).out]))
      have hd0 : Drn wz wz.drew := ⟨1, rfl⟩
      have hbd : Below w1.heap.size w1 wz.drew := Hbz.out.trans (hd0.below _)
      obtain ⟨wa, hwa⟩ : ∃ wa, (wz.alloc (.cells #[.int .u64 gb, .int .u64 gn, .bool gr, .bool false, .bool gx, .bool gs] 33)).drew = wa := ⟨_, rfl⟩
      have hba0 : Below wz.heap.size wz wa := by
        rw [← hwa]
        exact ((Below.refl _ wz).alloc (Nat.le_refl _) _).trans (((⟨1, rfl⟩ : Drn (wz.alloc (.cells #[.int .u64 gb, .int .u64 gn, .bool gr, .bool false, .bool gx, .bool gs] 33)) (wz.alloc (.cells #[.int .u64 gb, .int .u64 gn, .bool gr, .bool false, .bool gx, .bool gs] 33)).drew)).below _)
      have hba : Below w1.heap.size w1 wa := Hbz.out.trans (hba0.mono Hbz.out.size)
      have hZ : HB wa wz.heap.size 33 (rgc ⟨gb, gn, gr, false, gx, gs⟩) := by
        rw [← hwa]
        exact (HB.new wz (rgc ⟨gb, gn, gr, false, gx, gs⟩) 33).drn ⟨1, rfl⟩
      have HTa := Lib.hid (Htb.out _ hba)
      have HXa := Lib.hid (HX1.out _ hba)
      have HBa := Lib.hid (HB1.out.trans (hba.mono HB1.out.size))
      have hts := Hh.out _ HB1.out
      have hown : ∀ q, (Value.slice ao t.length cap).ownBlock = some q → q < X := fun q hq => by rw [← (HXx ()).out]; exact HOw.out q hq
      have HXn : Hid ((Value.slice ao t.length cap).ownBlock ≠ some X) := Lib.hid (fun e => by have := hown _ e; omega)
      have HXR : Hid (X ≠ R) := Lib.hid (fun e => by have := HRl.out; have := (HXx ()).out; omega)
      have Hins := Lib.hid (ins_any HTa.out.o (Nat.le_trans HBs.out HBa.out.size) i hi9 (by omega) ⟨gb, gn, gr, false, gx, gs⟩ wz.heap.size hZ (fun e => by
        have h1 := hown _ e
        have h2 := HB1.out.size
        have h3 := Hbz.out.size
        have h4 := (HXx ()).out
        omega))
      have y0 := (Htb.out _ hbd).tab
      have ya := HTa.out.tab
      have hX0 := Six.of (HX1.out _ hbd)
      have hXa := Six.of HXa.out
      clear hZ hba hba0 hd0 hts hown hbd
      go_upto_region 12 with fail
      refine wp_region_held_drew (S := fun w' => Six w' X ⟨gb, gn, gr, false, gx, gs⟩) (by kernel_rfl) hX0 (fun hHeld => ?_)
      have h6 : ∀ w', Six w' X ⟨gb, gn, gr, false, gx, gs⟩ → w'.cell? ⟨X, 0, none⟩ = some (.int .u64 gb) ∧ w'.cell? ⟨X, 1, none⟩ = some (.int .u64 gn) ∧ w'.cell? ⟨X, 2, none⟩ = some (.bool gr) ∧ w'.cell? ⟨X, 3, none⟩ = some (.bool false) ∧ w'.cell? ⟨X, 4, none⟩ = some (.bool gx) ∧ w'.cell? ⟨X, 5, none⟩ = some (.bool gs) := fun w' h => ⟨h.c0, h.c1, h.c2, h.c3, h.c4, h.c5⟩
      refine wpAnyH_take (i := 0) (v := ?_) (by simp only [List.getElem?_toArray, List.getElem?_cons_succ, List.getElem?_cons_zero]; rfl) (by kernel_rfl) (by kernel_rfl) (by kernel_rfl) (by intro _ _ _ h_; exact h_) (Or.inl ⟨by rfl, ?_⟩) (by assumption) ?_
      rotate_left 1
      focus (intro w_ hSw_; go_simp; try with_reducible rfl)
      simp only [Act.put, List.setIfInBounds_toArray, List.set_cons_zero, List.set_cons_succ]
      refine wpAnyH_take (i := 1) (v := ?_) (by simp only [List.getElem?_toArray, List.getElem?_cons_succ, List.getElem?_cons_zero]; rfl) (by kernel_rfl) (by kernel_rfl) (by kernel_rfl) (by intro _ _ _ h_; exact h_) (Or.inl ⟨by rfl, ?_⟩) (by assumption) ?_
      rotate_left 1
      focus (intro w_ hSw_; go_simp; try with_reducible rfl)
      simp only [Act.put, List.setIfInBounds_toArray, List.set_cons_zero, List.set_cons_succ]
      refine wpAnyH_take (i := 2) (v := ?_) (by simp only [List.getElem?_toArray, List.getElem?_cons_succ, List.getElem?_cons_zero]; rfl) (by kernel_rfl) (by kernel_rfl) (by kernel_rfl) (by intro _ _ _ h_; exact h_) (Or.inl ⟨by rfl, ?_⟩) (by assumption) ?_
      rotate_left 1
      focus (intro w_ hSw_; go_simp; try with_reducible rfl)
      simp only [Act.put, List.setIfInBounds_toArray, List.set_cons_zero, List.set_cons_succ]
      refine wpAnyH_take (i := 3) (v := ?_) (by simp only [List.getElem?_toArray, List.getElem?_cons_succ, List.getElem?_cons_zero]; rfl) (by kernel_rfl) (by kernel_rfl) (by kernel_rfl) (by intro _ _ _ h_; exact h_) (Or.inl ⟨by rfl, ?_⟩) (by assumption) ?_
      rotate_left 1
      focus (intro w_ hSw_; go_simp; try with_reducible rfl)
      simp only [Act.put, List.setIfInBounds_toArray, List.set_cons_zero, List.set_cons_succ]
      refine wpAnyH_take (i := 5) (v := ?_) (by simp only [List.getElem?_toArray, List.getElem?_cons_succ, List.getElem?_cons_zero]; rfl) (by kernel_rfl) (by kernel_rfl) (by kernel_rfl) (by intro _ _ _ h_; exact h_) (Or.inl ⟨by rfl, ?_⟩) (by assumption) ?_
      rotate_left 1
      focus (intro w_ hSw_; go_simp; try with_reducible rfl)
      simp only [Act.put, List.setIfInBounds_toArray, List.set_cons_zero, List.set_cons_succ]
      refine wpAnyH_take (i := 6) (v := ?_) (by simp only [List.getElem?_toArray, List.getElem?_cons_succ, List.getElem?_cons_zero]; rfl) (by kernel_rfl) (by kernel_rfl) (by kernel_rfl) (by intro _ _ _ h_; exact h_) (Or.inl ⟨by rfl, ?_⟩) (by assumption) ?_
      rotate_left 1
      focus (intro w_ hSw_; obtain ⟨z0, z1, z2, z3, z4, z5⟩ := h6 _ hSw_; go_simp; try with_reducible rfl)
      simp only [Act.put, List.setIfInBounds_toArray, List.set_cons_zero, List.set_cons_succ]
      clear h6
      refine wpAnyH_ready (rs := [4, 7]) (by kernel_rfl) (by simp) ?_
      refine AllReadyH.cons (by simp only [List.getElem?_toArray, List.getElem?_cons_succ, List.getElem?_cons_zero]; rfl) (fun K hK => ?_) (AllReadyH.cons (by simp only [List.getElem?_toArray, List.getElem?_cons_succ, List.getElem?_cons_zero]; rfl) (fun K hK => ?_) AllReadyH.nil)
      · go_simp
        refine hK.out _ _ hX0 (fun hHeld2 => ?_)
        clear hK K
        try simp only [Act.put, List.setIfInBounds_toArray, List.set_cons_zero, List.set_cons_succ]
        refine wpAnyH_ready (rs := [7]) (by kernel_rfl) (by simp) ?_
        refine AllReadyH.cons (by simp only [List.getElem?_toArray, List.getElem?_cons_succ, List.getElem?_cons_zero]; rfl) (fun K hK => ?_) AllReadyH.nil
        go_simp
        refine hK.out _ _ hXa (fun hHeld3 => ?_)
        clear y0 hHeld hHeld2
        clear hK K
        try simp only [Act.put, List.setIfInBounds_toArray, List.set_cons_zero, List.set_cons_succ]
        refine wpAnyH_ready (rs := [8]) (by kernel_rfl) (by simp) ?_
        refine AllReadyH.cons (by simp only [List.getElem?_toArray, List.getElem?_cons_succ, List.getElem?_cons_zero]; rfl) (fun K hK => ?_) AllReadyH.nil
        go_simp
        refine (Hins.out).mono ?_
        rintro e w5 ⟨v5, rfl, ho5, hg5⟩
        have hTab := addR_tab Ht.out ⟨gb, gn, gr, false, gx, gs⟩
        have hP := turned_put HTa.out ho5 hg5 (by rw [(Hadd0 ()).out] at hTab; exact hTab)
        have y5 := hP.2.1
        have f5 := hP.2.2
        have HXw := Six.of (HXa.out.grown hg5.g (fun e => HXn.out e.symm))
        have HFin := fun (_ : Unit) => Lib.hid (show ∃ tv', Turned B R m (.slice ao t.length cap) tv' (t.take (aft t gb) ++ ⟨gb, gn, gr, false, gx, gs⟩ :: t.drop (aft t gb)) w (w5.setCell ⟨R, 65536, none⟩ v5) from by
          refine ⟨v5, ?_, ?_, fun q hq => ?_⟩
          · rw [(Hi ()).out]; exact hP.1.1
          · exact (Frm.later HBa.out).trans hP.1.2
          · exact (hg5.k q hq).imp id (fun h => Nat.le_trans HBa.out.size h))
        have HXs := Six.of ((HXa.out.grown hg5.g (fun e => HXn.out e.symm)).other ⟨R, 65536, none⟩ v5 HXR.out)
        obtain ⟨a5, c5, rfl, -⟩ := ho5.rd rgc_len
        clear hTab hP ho5 hg5 Hins
        generalize (t.take i ++ ⟨gb, gn, gr, false, gx, gs⟩ :: t.drop i).length = n5 at *
        go_wp2_with fail
        refine hK.out _ _ HXw (fun hHeld5 => ?_)
        clear hK K
        try simp only [Act.put, List.setIfInBounds_toArray, List.set_cons_zero, List.set_cons_succ]
        refine wpAnyH_take (i := 9) (v := ?_) (by simp only [List.getElem?_toArray, List.getElem?_cons_succ, List.getElem?_cons_zero]; rfl) (by kernel_rfl) (by kernel_rfl) (by kernel_rfl) (by intro _ _ _ h_; exact h_) (Or.inl ⟨by rfl, ?_⟩) (by assumption) ?_
        rotate_left 1
        focus (intro w_ hSw_; go_simp; try with_reducible rfl)
        simp only [Act.put, List.setIfInBounds_toArray, List.set_cons_zero, List.set_cons_succ]
        refine wpAnyH_take (i := 10) (v := ?_) (by simp only [List.getElem?_toArray, List.getElem?_cons_succ, List.getElem?_cons_zero]; rfl) (by kernel_rfl) (by kernel_rfl) (by kernel_rfl) (by intro _ _ _ h_; exact h_) (Or.inl ⟨by rfl, ?_⟩) (by assumption) ?_
        rotate_left 1
        focus (intro w_ hSw_; go_simp; try with_reducible rfl)
        simp only [Act.put, List.setIfInBounds_toArray, List.set_cons_zero, List.set_cons_succ]
        refine wpAnyH_ready (rs := [11]) (by kernel_rfl) (by simp) ?_
        refine AllReadyH.cons (by simp only [List.getElem?_toArray, List.getElem?_cons_succ, List.getElem?_cons_zero]; rfl) (fun K hK => ?_) AllReadyH.nil
        go_simp
        refine hK.out _ _ HXs (fun hHeld6 => ?_)
        clear hK K
        try simp only [Act.put, List.setIfInBounds_toArray, List.set_cons_zero, List.set_cons_succ]
        refine wpAnyH_done (by kernel_rfl) ?_ _
        clear hHeld5 hHeld6 HXw HXs y5 f5
        generalize w5.setCell _ _ = w6 at *
        go_wp2_with fail
        go_ret
        exact ⟨by rw [(Hadd0 ()).out]; rfl, by rw [(Hadd0 ()).out, ← (Hi ()).out]; exact (HFin ()).out⟩
      · go_simp
        refine hK.out _ _ hXa (fun hHeld2 => ?_)
        clear hK K
        try simp only [Act.put, List.setIfInBounds_toArray, List.set_cons_zero, List.set_cons_succ]
        refine wpAnyH_ready (rs := [4]) (by kernel_rfl) (by simp) ?_
        refine AllReadyH.cons (by simp only [List.getElem?_toArray, List.getElem?_cons_succ, List.getElem?_cons_zero]; rfl) (fun K hK => ?_) AllReadyH.nil
        go_simp
        refine hK.out _ _ hXa (fun hHeld3 => ?_)
        clear y0 hHeld hHeld2
        clear hK K
        try simp only [Act.put, List.setIfInBounds_toArray, List.set_cons_zero, List.set_cons_succ]
        refine wpAnyH_ready (rs := [8]) (by kernel_rfl) (by simp) ?_
        refine AllReadyH.cons (by simp only [List.getElem?_toArray, List.getElem?_cons_succ, List.getElem?_cons_zero]; rfl) (fun K hK => ?_) AllReadyH.nil
        go_simp
        refine (Hins.out).mono ?_
        rintro e w5 ⟨v5, rfl, ho5, hg5⟩
        have hTab := addR_tab Ht.out ⟨gb, gn, gr, false, gx, gs⟩
        have hP := turned_put HTa.out ho5 hg5 (by rw [(Hadd0 ()).out] at hTab; exact hTab)
        have y5 := hP.2.1
        have f5 := hP.2.2
        have HXw := Six.of (HXa.out.grown hg5.g (fun e => HXn.out e.symm))
        have HFin := fun (_ : Unit) => Lib.hid (show ∃ tv', Turned B R m (.slice ao t.length cap) tv' (t.take (aft t gb) ++ ⟨gb, gn, gr, false, gx, gs⟩ :: t.drop (aft t gb)) w (w5.setCell ⟨R, 65536, none⟩ v5) from by
          refine ⟨v5, ?_, ?_, fun q hq => ?_⟩
          · rw [(Hi ()).out]; exact hP.1.1
          · exact (Frm.later HBa.out).trans hP.1.2
          · exact (hg5.k q hq).imp id (fun h => Nat.le_trans HBa.out.size h))
        have HXs := Six.of ((HXa.out.grown hg5.g (fun e => HXn.out e.symm)).other ⟨R, 65536, none⟩ v5 HXR.out)
        obtain ⟨a5, c5, rfl, -⟩ := ho5.rd rgc_len
        clear hTab hP ho5 hg5 Hins
        generalize (t.take i ++ ⟨gb, gn, gr, false, gx, gs⟩ :: t.drop i).length = n5 at *
        go_wp2_with fail
        refine hK.out _ _ HXw (fun hHeld5 => ?_)
        clear hK K
        try simp only [Act.put, List.setIfInBounds_toArray, List.set_cons_zero, List.set_cons_succ]
        refine wpAnyH_take (i := 9) (v := ?_) (by simp only [List.getElem?_toArray, List.getElem?_cons_succ, List.getElem?_cons_zero]; rfl) (by kernel_rfl) (by kernel_rfl) (by kernel_rfl) (by intro _ _ _ h_; exact h_) (Or.inl ⟨by rfl, ?_⟩) (by assumption) ?_
        rotate_left 1
        focus (intro w_ hSw_; go_simp; try with_reducible rfl)
        simp only [Act.put, List.setIfInBounds_toArray, List.set_cons_zero, List.set_cons_succ]
        refine wpAnyH_take (i := 10) (v := ?_) (by simp only [List.getElem?_toArray, List.getElem?_cons_succ, List.getElem?_cons_zero]; rfl) (by kernel_rfl) (by kernel_rfl) (by kernel_rfl) (by intro _ _ _ h_; exact h_) (Or.inl ⟨by rfl, ?_⟩) (by assumption) ?_
        rotate_left 1
        focus (intro w_ hSw_; go_simp; try with_reducible rfl)
        simp only [Act.put, List.setIfInBounds_toArray, List.set_cons_zero, List.set_cons_succ]
        refine wpAnyH_ready (rs := [11]) (by kernel_rfl) (by simp) ?_
        refine AllReadyH.cons (by simp only [List.getElem?_toArray, List.getElem?_cons_succ, List.getElem?_cons_zero]; rfl) (fun K hK => ?_) AllReadyH.nil
        go_simp
        refine hK.out _ _ HXs (fun hHeld6 => ?_)
        clear hK K
        try simp only [Act.put, List.setIfInBounds_toArray, List.set_cons_zero, List.set_cons_succ]
        refine wpAnyH_done (by kernel_rfl) ?_ _
        clear hHeld5 hHeld6 HXw HXs y5 f5
        generalize w5.setCell _ _ = w6 at *
        go_wp2_with fail
        go_ret
        exact ⟨by rw [(Hadd0 ()).out]; rfl, by rw [(Hadd0 ()).out, ← (Hi ()).out]; exact (HFin ()).out⟩
end Go.Proofs.Ytcbiohpgmooefaa
