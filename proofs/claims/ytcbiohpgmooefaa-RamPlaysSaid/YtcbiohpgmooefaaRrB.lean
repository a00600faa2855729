/- The document's RAM: a region is added. No condition. -/
import Derived.Test.YtcbiohpgmooefaaRrD
import Derived.Test.YtcbiohpgmooefaaRmA
set_option linter.unusedVariables false
set_option linter.unusedSimpArgs false
namespace Go.Proofs.Ytcbiohpgmooefaa
open Go.RowKit
attribute [local go_sem ↓] Go.wp_at_zero Go.wp_at_succ
theorem RefM.same {B R : Nat} {m : List UInt8} {tv : Value} {t : List Rg} {w w' : World} (h : RefM B R m tv t w) (hb : Below w.heap.size w w') : ∃ tv', RTurned B R m tv tv' t w w' :=
  ⟨tv, h.later hb, Frm.later hb, fun q hq => .inl hq⟩
theorem at_lt {t : List Rg} (h : Tab t) {a k : Nat} {x : Rg} (hk : t[k]? = some x) (hx : x.has a = false) : (x.base < a ↔ k < aft t a) := by
  have h1 := aft_iff h (a := a) hk
  have h2 := h.at hk
  have h3 : ¬ (x.base ≤ a ∧ a < x.base + x.size) := fun hh => by rw [has_iff.2 hh] at hx; cases hx
  rw [← h1]
  omega
theorem laps_not {t : List Rg} (h : Tab t) {g : Rg} (hg : 0 < g.size) (hn : ∀ (j : Nat) (x : Rg), t[j]? = some x → x.has g.base = false ∧ g.has x.base = false) : laps t g = false := by
  cases hh : laps t g
  · rfl
  · obtain ⟨i, x, hi, h1⟩ := (laps_iff h hg).1 hh
    have := hn i x hi
    rcases h1 with h1 | h1
    · rw [this.1] at h1; cases h1
    · rw [this.2] at h1; cases h1
structure SixY (w : World) (b o : Nat) (g : Rg) : Prop where
  c0 : w.cell? ⟨b, o, none⟩ = some (.int .u64 g.base)
  c1 : w.cell? ⟨b, o + 1, none⟩ = some (.int .u64 g.size)
  c2 : w.cell? ⟨b, o + 2, none⟩ = some (.bool g.r)
  c3 : w.cell? ⟨b, o + 3, none⟩ = some (.bool g.w)
  c4 : w.cell? ⟨b, o + 4, none⟩ = some (.bool g.x)
  c5 : w.cell? ⟨b, o + 5, none⟩ = some (.bool g.s)
theorem SixY.of {w : World} {b o k : Nat} {t : List Rg} {g : Rg} (h : RdS rgc 6 w (some ⟨b, o, none⟩) t) (hk : t[k]? = some g) : SixY w b (o + k * 6) g := by
  obtain ⟨b', o', e, -, hc⟩ := h k g hk
  cases e
  exact ⟨hc 0 _ rfl, hc 1 _ rfl, hc 2 _ rfl, hc 3 _ rfl, hc 4 _ rfl, hc 5 _ rfl⟩
/-- what a drawn region of Add reads -/
structure RaS (R : Nat) (n : Nat) (b0 o0 cap k : Nat) (y : Rg) (X : Nat) (g : Rg) (w : World) : Prop where
  t : w.cell? ⟨R, 65536, none⟩ = some (.slice (some ⟨b0, o0, none⟩) n cap)
  y : SixY w b0 (o0 + k * 6) y
  x : Six w X g
theorem RaS.of {B R X k b0 o0 cap : Nat} {m : List UInt8} {t : List Rg} {g y : Rg} {w : World} (h : RefM B R m (.slice (some ⟨b0, o0, none⟩) t.length cap) t w) (hx : HB w X 33 (rgc g)) (hk : t[k]? = some y) : RaS R t.length b0 o0 cap k y X g w := by
  obtain ⟨_, _, hta, -, -, hr, -⟩ := h.tv
  cases hta
  exact ⟨h.tab, SixY.of hr hk, Six.of hx⟩
theorem wpList_append_S0 {α : Type} {cells : α → List Value} {sz : Nat} {E : TypeId} {P : Program} {T : TypeId} {nb : Nat} (L : Lay P T E sz nb cells) {w : World} {ops : Array Oper} {rest : List Oper} {o : Oper} {a : Act} {Q : Exit → Act → World → Prop} (hgd : o.guard = none) (s x : Operand)
    (ho : o.op = .call { callee := .builtin .append, args := #[s, x], argTypes := #[T, T] })
    (B : Nat) (v : Value) (l : List α) (hs : a.eval s = v) (hown : OwnS cells E sz w B v l) (hx : a.eval x = .slice none 0 0) (h : ∀ v', OwnS cells E sz w B v' l → wpList P ops Q rest (a.put o.dst v') w) : wpList P ops Q (o :: rest) a w :=
  wpList_plain hgd fun _ hK => by
    obtain ⟨i, z, hi, hz0, hz1, hz2, hz3⟩ := L.info
    have hrun := run_append_owned_none (P := P) (w := w) B T o.type E i sz L.ht hi v _ _ hown
    unfold Oper.wp
    simp [execOp, ho, resolve, invoke, builtin, hs, hx, hrun, Result.andThen]
    exact hK _ _ (h _ hown)
structure RaIn (t : List Rg) (g : Rg) (w1 : World) (av iv : Value) (wr : World) : Prop where
  x : ∃ k : Nat, k ≤ t.length ∧ iv = .int .i64 k ∧ av = .int .i64 ((min k (aft t g.base) : Nat) : Int) ∧ (∀ (j : Nat) (x : Rg), j < k → t[j]? = some x → x.has g.base = false ∧ g.has x.base = false) ∧ Below w1.heap.size w1 wr
set_option maxHeartbeats 4000000 in
theorem radd_any {B R : Nat} {m : List UInt8} {tv : Value} {t : List Rg} {w : World} (h : RefM B R m tv t w) (hB : B ≤ w.heap.size) (g : Rg) (hg : RgOk g) :
    Calls Try.prog 33 #[.pointer (some ⟨R, 0, none⟩), rgv g] w fun e w' => e = .returned (.int .i64 (addR t g).2) ∧ ∃ tv', RTurned B R m tv tv' (addR t g).1 w w' := by
  have HX := Lib.hid (HB.new w (rgc g) 33)
  have hb1 := (Below.refl w.heap.size w).alloc (Nat.le_refl _) (.cells (rgc g).toArray 33)
  have HB1 := Lib.hid hb1
  have Hh := Lib.hid h
  have Ht := Lib.hid h.tb
  have Hg := Lib.hid hg
  have HBs := Lib.hid hB
  obtain ⟨ao, cap, rfl, h1, h2, hrd, h4⟩ := h.tv
  have k0 := (h.later hb1).tab
  have h16 := h.tb.n
  rw [rgc_arr] at HB1 HX hb1 k0
  clear h2 hrd h4 hB h1
  obtain ⟨X, hX⟩ : ∃ X, w.heap.size = X := ⟨_, rfl⟩
  have HXx := fun (_ : Unit) => Lib.hid hX
  obtain ⟨w1, hw1⟩ : ∃ w1, w.alloc (.cells #[.int .u64 g.base, .int .u64 g.size, .bool g.r, .bool g.w, .bool g.x, .bool g.s] 33) = w1 := ⟨_, rfl⟩
  rw [hX] at HX
  rw [hw1] at HB1 HX hb1 k0
  obtain ⟨x0, x1, x2, x3, x4, x5⟩ := Six.of HX.out
  obtain ⟨gb, gn, gr, gw, gx, gs⟩ := g
  dsimp only at *
  unfold rgv
  dsimp only
  by_cases c1 : t.length = 16
  · have Hres := fun (_ : Unit) => Lib.hid (show addR t ⟨gb, gn, gr, gw, gx, gs⟩ = (t, 164) by unfold addR; rw [if_pos c1])
    have HS := Lib.hid (h.same hb1)
    rw [c1] at k0
    clear c1 h hb1 h16
    go_enter Try.func33, Try.ntmps33
    go_wp2_with fail
    go_ret
    exact ⟨by rw [(Hres ()).out]; rfl, by rw [(Hres ()).out]; exact HS.out⟩
  have i1 : ¬ ((t.length : Int) = 16) := by omega
  have Hw := Lib.hid (fun w' => within2_any gb gn w' hg.1)
  by_cases c2 : gn = 0
  · have Hres := fun (_ : Unit) => Lib.hid (show addR t ⟨gb, gn, gr, gw, gx, gs⟩ = (t, 161) by unfold addR; rw [if_neg c1, if_pos (.inl c2)])
    have HS := Lib.hid (h.same hb1)
    subst c2
    rw [show ((0 : Nat) : Int) = 0 from rfl] at hw1 x1 Hw ⊢
    clear c1 h hb1
    go_enter Try.func33, Try.ntmps33
    go_wp2_with fail
    refine (Hw.out _).mono ?_
    rintro e w' ⟨rfl, rfl⟩
    clear Hw
    go_wp2_with fail
    go_ret
    exact ⟨by rw [(Hres ()).out]; rfl, by rw [(Hres ()).out]; exact HS.out⟩
  have i2 : ¬ ((gn : Int) = 0) := by omega
  cases c3 : inRam gb gn
  · have Hres := fun (_ : Unit) => Lib.hid (show addR t ⟨gb, gn, gr, gw, gx, gs⟩ = (t, 161) by unfold addR; rw [if_neg c1, if_pos (.inr c3)])
    have HS := Lib.hid (h.same hb1)
    rw [c3] at Hw
    clear c1 c2 c3 h hb1
    go_enter Try.func33, Try.ntmps33
    go_wp2_with fail
    refine (Hw.out _).mono ?_
    rintro e w' ⟨rfl, rfl⟩
    clear Hw
    go_wp2_with fail
    go_ret
    exact ⟨by rw [(Hres ()).out]; rfl, by rw [(Hres ()).out]; exact HS.out⟩
  rw [c3] at Hw
  cases c4 : (gw && gx)
  case true =>
    have Hres := fun (_ : Unit) => Lib.hid (show addR t ⟨gb, gn, gr, gw, gx, gs⟩ = (t, 163) by unfold addR; rw [if_neg c1, if_neg (by rw [c3]; simp [c2]), if_pos c4])
    have HS := Lib.hid (h.same hb1)
    obtain ⟨rfl, rfl⟩ : gw = true ∧ gx = true := by cases gw <;> cases gx <;> simp_all
    clear c1 c2 c3 c4 h hb1
    go_enter Try.func33, Try.ntmps33
    go_wp2_with fail
    refine (Hw.out _).mono ?_
    rintro e w' ⟨rfl, rfl⟩
    clear Hw
    go_wp2_with fail
    go_ret
    exact ⟨by rw [(Hres ()).out]; rfl, by rw [(Hres ()).out]; exact HS.out⟩
  have Htb := Lib.hid (fun w' (hb : Below w1.heap.size w1 w') => (h.later hb1).later hb)
  have HX1 := Lib.hid (fun w' (hb : Below w1.heap.size w1 w') => HX.out.later hb)
  have Hadd := fun (_ : Unit) => Lib.hid (show laps t ⟨gb, gn, gr, gw, gx, gs⟩ = true → addR t ⟨gb, gn, gr, gw, gx, gs⟩ = (t, 162) from fun hl => by unfold addR; rw [if_neg c1, if_neg (by rw [c3]; simp [c2]), if_neg (by rw [c4]; decide), if_pos hl])
  have Hin := fun (_ : Unit) => Lib.hid (show laps t ⟨gb, gn, gr, gw, gx, gs⟩ = false → addR t ⟨gb, gn, gr, gw, gx, gs⟩ = (t.take (aft t gb) ++ ⟨gb, gn, gr, gw, gx, gs⟩ :: t.drop (aft t gb), 0) from fun hl => by unfold addR; rw [if_neg c1, if_neg (by rw [c3]; simp [c2]), if_neg (by rw [c4]; decide), if_neg (by rw [hl]; decide)])
  have hin := inRam_iff.1 c3
  have Hgg := Lib.hid (show 0 < gn from by omega)
  have c5 : (gw = true ∧ gx = false) ∨ gw = false := by cases gw <;> cases gx <;> simp_all
  have HTab := fun (_ : Unit) => Lib.hid (addR_tab h.tb ⟨gb, gn, gr, gw, gx, gs⟩)
  clear c1 c2 c3 c4 h hb1 hin hg
  rcases c5 with ⟨rfl, rfl⟩ | rfl
  · go_enter Try.func33, Try.ntmps33
    go_wp2_with fail
    refine (Hw.out _).mono ?_
    rintro e w' ⟨rfl, rfl⟩
    clear Hw
    go_wp2_with fail
    clear x0 x1 x2 x3 x4 x5 k0 hw1 hX HX
    go_loopw [6, 7, 8, 9] (fun av iv _ _ wr => RaIn t ⟨gb, gn, gr, true, false, gs⟩ w1 av iv wr) (fun _ iv _ _ _ => t.length - (intOf iv).toNat)
    case atStart => exact ⟨0, Nat.zero_le _, rfl, by rw [Nat.zero_min]; rfl, fun j x hj => absurd hj (Nat.not_lt_zero _), Below.refl _ _⟩
    case round =>
      obtain ⟨k, hk, rfl, rfl, hno, hb⟩ := hrel
      have Hno := Lib.hid hno
      have Hb := Lib.hid hb
      have k0 := (Htb.out _ hb).tab
      clear hno hb
      by_cases hkl : k < t.length
      · have q1 : (k : Int) < (t.length : Int) := by omega
        obtain ⟨y, hy⟩ : ∃ y, t[k]? = some y := ⟨_, List.getElem?_eq_getElem hkl⟩
        have Hy := fun (_ : Unit) => Lib.hid hy
        obtain ⟨_, _, hta, -, -, hr, -⟩ := (Htb.out _ Hb.out).tv
        cases hta
        obtain ⟨b0, o0, rfl, hb0, hcl⟩ := hr k y hy
        have hS := fun w' (h : Below wr.heap.size wr w') => RaS.of (Htb.out w' (Hb.out.trans (h.mono Hb.out.size))) (HX1.out w' (Hb.out.trans (h.mono Hb.out.size))) hy
        have HS := Lib.hid hS
        have hyn : y.base < 18446744073709551616 := by have := Ht.out.at hy; omega
        have HA := Lib.hid (fun w' => has_any y gb w' Hg.out.1)
        have HQ := Lib.hid (fun w' => has_any ⟨gb, gn, gr, true, false, gs⟩ y.base w' hyn)
        obtain ⟨A, hA⟩ : ∃ A, y.has gb = A := ⟨_, rfl⟩
        obtain ⟨Q, hQ⟩ : ∃ Q, Rg.has ⟨gb, gn, gr, true, false, gs⟩ y.base = Q := ⟨_, rfl⟩
        rw [hA] at HA
        rw [hQ] at HQ
        have HAe := fun (_ : Unit) => Lib.hid hA
        have HQe := fun (_ : Unit) => Lib.hid hQ
        unfold rgv at HA HQ
        dsimp only at HA HQ
        have h6 : ∀ w', RaS R t.length b0 o0 cap k y X ⟨gb, gn, gr, true, false, gs⟩ w' → (w'.cell? ⟨R, 65536, none⟩ = some (.slice (some ⟨b0, o0, none⟩) t.length cap) ∧ w'.cell? ⟨b0, o0 + k * 6, none⟩ = some (.int .u64 y.base) ∧ w'.cell? ⟨b0, o0 + k * 6 + 1, none⟩ = some (.int .u64 y.size) ∧ w'.cell? ⟨b0, o0 + k * 6 + 2, none⟩ = some (.bool y.r) ∧ w'.cell? ⟨b0, o0 + k * 6 + 3, none⟩ = some (.bool y.w) ∧ w'.cell? ⟨b0, o0 + k * 6 + 4, none⟩ = some (.bool y.x) ∧ w'.cell? ⟨b0, o0 + k * 6 + 5, none⟩ = some (.bool y.s)) ∧ w'.cell? ⟨X, 0, none⟩ = some (.int .u64 gb) ∧ w'.cell? ⟨X, 1, none⟩ = some (.int .u64 gn) ∧ w'.cell? ⟨X, 2, none⟩ = some (.bool gr) ∧ w'.cell? ⟨X, 3, none⟩ = some (.bool true) ∧ w'.cell? ⟨X, 4, none⟩ = some (.bool false) ∧ w'.cell? ⟨X, 5, none⟩ = some (.bool gs) := fun w' h => ⟨⟨h.t, h.y.c0, h.y.c1, h.y.c2, h.y.c3, h.y.c4, h.y.c5⟩, h.x.c0, h.x.c1, h.x.c2, h.x.c3, h.x.c4, h.x.c5⟩
        clear hr hcl hy hA hQ hyn hS
        go_upto_region 12 with fail
        have hd0 : Drn wr wr.drew := ⟨1, rfl⟩
        refine wp_region_held_drew (S := RaS R t.length b0 o0 cap k y X ⟨gb, gn, gr, true, false, gs⟩) (by kernel_rfl) (HS.out _ (hd0.below _)) (fun hHeld => ?_)
        refine wpAnyH_take (i := 0) (v := ?_) (by simp only [List.getElem?_toArray, List.getElem?_cons_succ, List.getElem?_cons_zero]; rfl) (by kernel_rfl) (by kernel_rfl) (by kernel_rfl) (by intro _ _ _ h_; exact h_) (Or.inl ⟨by rfl, ?_⟩) (by assumption) ?_
        rotate_left 1
        focus (intro w_ hSw_; go_simp; try with_reducible rfl)
        simp only [Act.put, List.setIfInBounds_toArray, List.set_cons_zero, List.set_cons_succ]
        refine wpAnyH_take (i := 1) (v := ?_) (by simp only [List.getElem?_toArray, List.getElem?_cons_succ, List.getElem?_cons_zero]; rfl) (by kernel_rfl) (by kernel_rfl) (by kernel_rfl) (by intro _ _ _ h_; exact h_) (Or.inl ⟨by rfl, ?_⟩) (by assumption) ?_
        rotate_left 1
        focus (intro w_ hSw_; go_simp; try with_reducible rfl)
        simp only [Act.put, List.setIfInBounds_toArray, List.set_cons_zero, List.set_cons_succ]
        refine wpAnyH_take (i := 2) (v := ?_) (by simp only [List.getElem?_toArray, List.getElem?_cons_succ, List.getElem?_cons_zero]; rfl) (by kernel_rfl) (by kernel_rfl) (by kernel_rfl) (by intro _ _ _ h_; exact h_) (Or.inl ⟨by rfl, ?_⟩) (by assumption) ?_
        rotate_left 1
        focus (intro w_ hSw_; go_simp; try with_reducible rfl)
        simp only [Act.put, List.setIfInBounds_toArray, List.set_cons_zero, List.set_cons_succ]
        refine wpAnyH_take (i := 3) (v := ?_) (by simp only [List.getElem?_toArray, List.getElem?_cons_succ, List.getElem?_cons_zero]; rfl) (by kernel_rfl) (by kernel_rfl) (by kernel_rfl) (by intro _ _ _ h_; exact h_) (Or.inl ⟨by rfl, ?_⟩) (by assumption) ?_
        rotate_left 1
        focus (intro w_ hSw_; obtain ⟨⟨y9, y0, y1, y2, y3, y4, y5⟩, z0, z1, z2, z3, z4, z5⟩ := h6 _ hSw_; go_simp; try with_reducible rfl)
        simp only [Act.put, List.setIfInBounds_toArray, List.set_cons_zero, List.set_cons_succ]
        refine wpAnyH_take (i := 4) (v := ?_) (by simp only [List.getElem?_toArray, List.getElem?_cons_succ, List.getElem?_cons_zero]; rfl) (by kernel_rfl) (by kernel_rfl) (by kernel_rfl) (by intro _ _ _ h_; exact h_) (Or.inl ⟨by rfl, ?_⟩) (by assumption) ?_
        rotate_left 1
        focus (intro w_ hSw_; go_simp; try with_reducible rfl)
        simp only [Act.put, List.setIfInBounds_toArray, List.set_cons_zero, List.set_cons_succ]
        refine wpAnyH_take (i := 5) (v := ?_) (by simp only [List.getElem?_toArray, List.getElem?_cons_succ, List.getElem?_cons_zero]; rfl) (by kernel_rfl) (by kernel_rfl) (by kernel_rfl) (by intro _ _ _ h_; exact h_) (Or.inl ⟨by rfl, ?_⟩) (by assumption) ?_
        rotate_left 1
        focus (intro w_ hSw_; obtain ⟨⟨y9, y0, y1, y2, y3, y4, y5⟩, z0, z1, z2, z3, z4, z5⟩ := h6 _ hSw_; go_simp; try with_reducible rfl)
        simp only [Act.put, List.setIfInBounds_toArray, List.set_cons_zero, List.set_cons_succ]
        refine wpAnyH_take (i := 6) (v := ?_) (by simp only [List.getElem?_toArray, List.getElem?_cons_succ, List.getElem?_cons_zero]; rfl) (by kernel_rfl) (by kernel_rfl) (by kernel_rfl) (by intro _ _ _ h_; exact h_) (Or.inl ⟨by rfl, ?_⟩) (by assumption) ?_
        rotate_left 1
        focus (intro w_ hSw_; obtain ⟨⟨y9, y0, y1, y2, y3, y4, y5⟩, z0, z1, z2, z3, z4, z5⟩ := h6 _ hSw_; go_simp; try with_reducible rfl)
        simp only [Act.put, List.setIfInBounds_toArray, List.set_cons_zero, List.set_cons_succ]
        refine wpAnyH_take (i := 7) (v := ?_) (by simp only [List.getElem?_toArray, List.getElem?_cons_succ, List.getElem?_cons_zero]; rfl) (by kernel_rfl) (by kernel_rfl) (by kernel_rfl) (by intro _ _ _ h_; exact h_) (Or.inl ⟨by rfl, ?_⟩) (by assumption) ?_
        rotate_left 1
        focus (intro w_ hSw_; go_simp; try with_reducible rfl)
        simp only [Act.put, List.setIfInBounds_toArray, List.set_cons_zero, List.set_cons_succ]
        refine wpAnyH_take (i := 8) (v := ?_) (by simp only [List.getElem?_toArray, List.getElem?_cons_succ, List.getElem?_cons_zero]; rfl) (by kernel_rfl) (by kernel_rfl) (by kernel_rfl) (by intro _ _ _ h_; exact h_) (Or.inl ⟨by rfl, ?_⟩) (by assumption) ?_
        rotate_left 1
        focus (intro w_ hSw_; obtain ⟨⟨y9, y0, y1, y2, y3, y4, y5⟩, z0, z1, z2, z3, z4, z5⟩ := h6 _ hSw_; go_simp; try with_reducible rfl)
        simp only [Act.put, List.setIfInBounds_toArray, List.set_cons_zero, List.set_cons_succ]
        refine wpAnyH_ready (rs := [9]) (by kernel_rfl) (by simp) ?_
        refine AllReadyH.cons (by simp only [List.getElem?_toArray, List.getElem?_cons_succ, List.getElem?_cons_zero]; rfl) (fun K hK => ?_) AllReadyH.nil
        go_simp
        refine (HA.out _).mono ?_
        rintro e w3 ⟨rfl, hb3⟩
        have hb3' : Below wr.heap.size wr w3 := (hd0.below _).trans hb3
        have Hb3 := Lib.hid hb3'
        clear hHeld hb3 hb3' HA
        go_wp2_with fail
        refine hK.out _ _ (HS.out _ Hb3.out) (fun hHeld => ?_)
        clear hK K
        try simp only [Act.put, List.setIfInBounds_toArray, List.set_cons_zero, List.set_cons_succ]
        refine wpAnyH_take (i := 10) (v := ?_) (by simp only [List.getElem?_toArray, List.getElem?_cons_succ, List.getElem?_cons_zero]; rfl) (by kernel_rfl) (by kernel_rfl) (by kernel_rfl) (by intro _ _ _ h_; exact h_) (Or.inl ⟨by rfl, ?_⟩) (by assumption) ?_
        rotate_left 1
        focus (intro w_ hSw_; go_simp; try with_reducible rfl)
        simp only [Act.put, List.setIfInBounds_toArray, List.set_cons_zero, List.set_cons_succ]
        refine wpAnyH_done (by kernel_rfl) ?_ _
        clear hHeld hd0
        go_upto_region 13 with fail
        have hd0 : Drn w3 w3.drew := ⟨1, rfl⟩
        refine wp_region_held_drew (S := RaS R t.length b0 o0 cap k y X ⟨gb, gn, gr, true, false, gs⟩) (by kernel_rfl) (HS.out _ (Hb3.out.trans (hd0.below _))) (fun hHeld => ?_)
        refine wpAnyH_take (i := 0) (v := ?_) (by simp only [List.getElem?_toArray, List.getElem?_cons_succ, List.getElem?_cons_zero]; rfl) (by kernel_rfl) (by kernel_rfl) (by kernel_rfl) (by intro _ _ _ h_; exact h_) (Or.inl ⟨by rfl, ?_⟩) (by assumption) ?_
        rotate_left 1
        focus (intro w_ hSw_; obtain ⟨⟨y9, y0, y1, y2, y3, y4, y5⟩, z0, z1, z2, z3, z4, z5⟩ := h6 _ hSw_; go_simp; try with_reducible rfl)
        simp only [Act.put, List.setIfInBounds_toArray, List.set_cons_zero, List.set_cons_succ]
        refine wpAnyH_take (i := 1) (v := ?_) (by simp only [List.getElem?_toArray, List.getElem?_cons_succ, List.getElem?_cons_zero]; rfl) (by kernel_rfl) (by kernel_rfl) (by kernel_rfl) (by intro _ _ _ h_; exact h_) (Or.inl ⟨by rfl, ?_⟩) (by assumption) ?_
        rotate_left 1
        focus (intro w_ hSw_; go_simp; try with_reducible rfl)
        simp only [Act.put, List.setIfInBounds_toArray, List.set_cons_zero, List.set_cons_succ]
        refine wpAnyH_take (i := 2) (v := ?_) (by simp only [List.getElem?_toArray, List.getElem?_cons_succ, List.getElem?_cons_zero]; rfl) (by kernel_rfl) (by kernel_rfl) (by kernel_rfl) (by intro _ _ _ h_; exact h_) (Or.inl ⟨by rfl, ?_⟩) (by assumption) ?_
        rotate_left 1
        focus (intro w_ hSw_; go_simp; try with_reducible rfl)
        simp only [Act.put, List.setIfInBounds_toArray, List.set_cons_zero, List.set_cons_succ]
        refine wpAnyH_take (i := 3) (v := ?_) (by simp only [List.getElem?_toArray, List.getElem?_cons_succ, List.getElem?_cons_zero]; rfl) (by kernel_rfl) (by kernel_rfl) (by kernel_rfl) (by intro _ _ _ h_; exact h_) (Or.inl ⟨by rfl, ?_⟩) (by assumption) ?_
        rotate_left 1
        focus (intro w_ hSw_; go_simp; try with_reducible rfl)
        simp only [Act.put, List.setIfInBounds_toArray, List.set_cons_zero, List.set_cons_succ]
        refine wpAnyH_take (i := 4) (v := ?_) (by simp only [List.getElem?_toArray, List.getElem?_cons_succ, List.getElem?_cons_zero]; rfl) (by kernel_rfl) (by kernel_rfl) (by kernel_rfl) (by intro _ _ _ h_; exact h_) (Or.inl ⟨by rfl, ?_⟩) (by assumption) ?_
        rotate_left 1
        focus (intro w_ hSw_; obtain ⟨⟨y9, y0, y1, y2, y3, y4, y5⟩, z0, z1, z2, z3, z4, z5⟩ := h6 _ hSw_; go_simp; try with_reducible rfl)
        simp only [Act.put, List.setIfInBounds_toArray, List.set_cons_zero, List.set_cons_succ]
        refine wpAnyH_take (i := 5) (v := ?_) (by simp only [List.getElem?_toArray, List.getElem?_cons_succ, List.getElem?_cons_zero]; rfl) (by kernel_rfl) (by kernel_rfl) (by kernel_rfl) (by intro _ _ _ h_; exact h_) (Or.inl ⟨by rfl, ?_⟩) (by assumption) ?_
        rotate_left 1
        focus (intro w_ hSw_; go_simp; try with_reducible rfl)
        simp only [Act.put, List.setIfInBounds_toArray, List.set_cons_zero, List.set_cons_succ]
        refine wpAnyH_take (i := 6) (v := ?_) (by simp only [List.getElem?_toArray, List.getElem?_cons_succ, List.getElem?_cons_zero]; rfl) (by kernel_rfl) (by kernel_rfl) (by kernel_rfl) (by intro _ _ _ h_; exact h_) (Or.inl ⟨by rfl, ?_⟩) (by assumption) ?_
        rotate_left 1
        focus (intro w_ hSw_; obtain ⟨⟨y9, y0, y1, y2, y3, y4, y5⟩, z0, z1, z2, z3, z4, z5⟩ := h6 _ hSw_; go_simp; try with_reducible rfl)
        simp only [Act.put, List.setIfInBounds_toArray, List.set_cons_zero, List.set_cons_succ]
        refine wpAnyH_take (i := 7) (v := ?_) (by simp only [List.getElem?_toArray, List.getElem?_cons_succ, List.getElem?_cons_zero]; rfl) (by kernel_rfl) (by kernel_rfl) (by kernel_rfl) (by intro _ _ _ h_; exact h_) (Or.inl ⟨by rfl, ?_⟩) (by assumption) ?_
        rotate_left 1
        focus (intro w_ hSw_; go_simp; try with_reducible rfl)
        simp only [Act.put, List.setIfInBounds_toArray, List.set_cons_zero, List.set_cons_succ]
        refine wpAnyH_take (i := 8) (v := ?_) (by simp only [List.getElem?_toArray, List.getElem?_cons_succ, List.getElem?_cons_zero]; rfl) (by kernel_rfl) (by kernel_rfl) (by kernel_rfl) (by intro _ _ _ h_; exact h_) (Or.inl ⟨by rfl, ?_⟩) (by assumption) ?_
        rotate_left 1
        focus (intro w_ hSw_; obtain ⟨⟨y9, y0, y1, y2, y3, y4, y5⟩, z0, z1, z2, z3, z4, z5⟩ := h6 _ hSw_; go_simp; try with_reducible rfl)
        simp only [Act.put, List.setIfInBounds_toArray, List.set_cons_zero, List.set_cons_succ]
        refine wpAnyH_ready (rs := [9]) (by kernel_rfl) (by simp) ?_
        refine AllReadyH.cons (by simp only [List.getElem?_toArray, List.getElem?_cons_succ, List.getElem?_cons_zero]; rfl) (fun K hK => ?_) AllReadyH.nil
        go_simp
        refine (HQ.out _).mono ?_
        rintro e w4 ⟨rfl, hb4⟩
        have hb4' : Below wr.heap.size wr w4 := Hb3.out.trans (((hd0.below _).trans hb4).mono Hb3.out.size)
        have Hb4 := Lib.hid hb4'
        clear hHeld hb4 hb4' HQ Hb3
        go_wp2_with fail
        refine hK.out _ _ (HS.out _ Hb4.out) (fun hHeld => ?_)
        clear hK K
        try simp only [Act.put, List.setIfInBounds_toArray, List.set_cons_zero, List.set_cons_succ]
        refine wpAnyH_take (i := 10) (v := ?_) (by simp only [List.getElem?_toArray, List.getElem?_cons_succ, List.getElem?_cons_zero]; rfl) (by kernel_rfl) (by kernel_rfl) (by kernel_rfl) (by intro _ _ _ h_; exact h_) (Or.inl ⟨by rfl, ?_⟩) (by assumption) ?_
        rotate_left 1
        focus (intro w_ hSw_; go_simp; try with_reducible rfl)
        simp only [Act.put, List.setIfInBounds_toArray, List.set_cons_zero, List.set_cons_succ]
        refine wpAnyH_done (by kernel_rfl) ?_ _
        clear hHeld hd0 h6
        have HW : Hid (Below w.heap.size w w4) := Lib.hid (HB1.out.trans ((Hb.out.trans (Hb4.out.mono Hb.out.size)).mono HB1.out.size))
        by_cases hAQ : A = true ∨ Q = true
        · have Hres := fun (_ : Unit) => Lib.hid ((Hadd ()).out ((laps_iff Ht.out Hgg.out).2 ⟨k, y, (Hy ()).out, by rw [(HAe ()).out, show Rg.has ⟨gb, gn, gr, true, false, gs⟩ y.base = Q from (HQe ()).out]; exact hAQ⟩))
          have HSS := Lib.hid (Hh.out.same HW.out)
          clear HAe HQe
          rcases hAQ with rfl | rfl
          · go_wp2_with fail
            go_ret
            exact ⟨by rw [(Hres ()).out]; rfl, by rw [(Hres ()).out]; exact HSS.out⟩
          · cases A
            · go_wp2_with fail
              go_ret
              exact ⟨by rw [(Hres ()).out]; rfl, by rw [(Hres ()).out]; exact HSS.out⟩
            · go_wp2_with fail
              go_ret
              exact ⟨by rw [(Hres ()).out]; rfl, by rw [(Hres ()).out]; exact HSS.out⟩
        · obtain ⟨rfl, rfl⟩ : A = false ∧ Q = false := by cases A <;> cases Q <;> simp_all
          have Hno2 : Hid (∀ (j : Nat) (x : Rg), j < k + 1 → t[j]? = some x → x.has gb = false ∧ Rg.has ⟨gb, gn, gr, true, false, gs⟩ x.base = false) := Lib.hid (fun j x hj hx => by
            rcases Nat.lt_or_ge j k with h1 | h1
            · exact Hno.out j x h1 hx
            · have e : j = k := by omega
              rw [e, (Hy ()).out] at hx
              rw [← Option.some.inj hx]; exact ⟨(HAe ()).out, (HQe ()).out⟩)
          have hal := at_lt Ht.out (Hy ()).out (HAe ()).out
          have g0 := fun n => (HS.out (w4.drewN n) (Hb4.out.trans ((⟨n, rfl⟩ : Drn w4 (w4.drewN n)).below _))).t
          have g1 := fun n => (HS.out (w4.drewN n) (Hb4.out.trans ((⟨n, rfl⟩ : Drn w4 (w4.drewN n)).below _))).y.c0
          have g2 := fun n => (HS.out (w4.drewN n) (Hb4.out.trans ((⟨n, rfl⟩ : Drn w4 (w4.drewN n)).below _))).x.c0
          have g3 := (HS.out w4 Hb4.out).t
          have g4 := (HS.out w4 Hb4.out).y.c0
          have g5 := (HS.out w4 Hb4.out).x.c0
          have HNb := Lib.hid (fun n => Hb.out.trans ((Hb4.out.trans ((⟨n, rfl⟩ : Drn w4 (w4.drewN n)).below _)).mono Hb.out.size))
          by_cases hlt : y.base < gb
          · have e1 : (y.base : Int) < (gb : Int) := by omega
            have Hmin := fun (_ : Unit) => Lib.hid (show min (k + 1) (aft t gb) = k + 1 by have := hal.1 hlt; omega)
            clear hlt hal hAQ HAe HQe k0
            go_upto_region 16 with fail
            go_quiet (fail)
            go_wp2_with fail
            first
            | (go_roundw
               case rel => exact ⟨k + 1, by omega, by go_num, by rw [(Hmin ()).out]; go_num, Hno2.out, HNb.out _⟩
               case measure => (first | omega | (simp [intOf] <;> omega) | (simp only [intOf] <;> omega)))
            | exact ⟨⟨k + 1, by omega, by go_num, by rw [(Hmin ()).out]; go_num, Hno2.out, HNb.out _⟩, by (first | omega | (simp [intOf] <;> omega) | (simp only [intOf] <;> omega))⟩
            | (refine ⟨?_, by (first | omega | (simp [intOf] <;> omega) | (simp only [intOf] <;> omega))⟩
               (repeat apply Exists.intro)
               refine (fun a b => And.intro b a) ?_ ?_
               · first | rfl | ((repeat refine ⟨rfl, ?_⟩); rfl)
               exact ⟨k + 1, by omega, by go_num, by rw [(Hmin ()).out]; go_num, Hno2.out, HNb.out _⟩)
          · have e1 : ¬ (y.base : Int) < (gb : Int) := by omega
            have Hmin := fun (_ : Unit) => Lib.hid (show min (k + 1) (aft t gb) = min k (aft t gb) by have := fun h => hlt (hal.2 h); omega)
            clear hlt hal hAQ HAe HQe k0
            go_upto_region 16 with fail
            go_quiet (fail)
            go_wp2_with fail
            first
            | (go_roundw
               case rel => exact ⟨k + 1, by omega, by go_num, by rw [(Hmin ()).out], Hno2.out, HNb.out _⟩
               case measure => (first | omega | (simp [intOf] <;> omega) | (simp only [intOf] <;> omega)))
            | exact ⟨⟨k + 1, by omega, by go_num, by rw [(Hmin ()).out], Hno2.out, HNb.out _⟩, by (first | omega | (simp [intOf] <;> omega) | (simp only [intOf] <;> omega))⟩
            | (refine ⟨?_, by (first | omega | (simp [intOf] <;> omega) | (simp only [intOf] <;> omega))⟩
               (repeat apply Exists.intro)
               refine (fun a b => And.intro b a) ?_ ?_
               · first | rfl | ((repeat refine ⟨rfl, ?_⟩); rfl)
               exact ⟨k + 1, by omega, by go_num, by rw [(Hmin ()).out], Hno2.out, HNb.out _⟩)
      · have q1 : ¬ (k : Int) < (t.length : Int) := by omega
        have hlap := laps_not Ht.out (g := ⟨gb, gn, gr, true, false, gs⟩) Hgg.out (fun j x hj => Hno.out j x (by have := (List.getElem?_eq_some_iff.1 hj).1; omega) hj)
        have Hres := fun (_ : Unit) => Lib.hid ((Hin ()).out hlap)
        have hTab := (HTab ()).out
        rw [(Hres ()).out] at hTab
        have HT1 := Lib.hid hTab
        have hle := aft_le t gb
        dsimp only
        rw [Nat.min_eq_right (by omega)]
        generalize aft t gb = i at *
        have HWr : Hid (Below w.heap.size w wr) := Lib.hid (HB1.out.trans (Hb.out.mono HB1.out.size))
        obtain ⟨_, _, hta, hcp, -, hr, hnc⟩ := (Htb.out _ Hb.out).tv
        cases hta
        clear hTab hlap Hno hk hkl HTab Hadd Hin i2 Hgg
        cases ao with
        | none =>
          obtain rfl := hnc rfl
          have h0 : t.length = 0 := by omega
          obtain rfl := List.eq_nil_of_length_eq_zero h0
          obtain rfl : i = 0 := by simpa using hle
          have Hb1 := Lib.hid (Below.refl wr.heap.size wr)
          clear hr hcp hnc h0 hle
          go_wp2_with (at_builtin; refine wpList_append_S0 rgLay rfl _ _ rfl wr.heap.size (.slice none 0 0) [] rfl (OwnS.nil _ _) rfl ?_)
          intro v1 ho1
          have Ho1 := Lib.hid ho1
          clear ho1
          obtain ⟨x0, x1, x2, x3, x4, x5⟩ := Six.of (HX1.out wr (Hb.out.trans (Hb1.out.mono Hb.out.size)))
          have HD := Lib.hid (HB.new wr (rgc ⟨gb, gn, gr, true, false, gs⟩) 33)
          have Hb2a := Lib.hid ((Below.refl wr.heap.size wr).alloc (Nat.le_refl _) (.cells (rgc ⟨gb, gn, gr, true, false, gs⟩).toArray 33))
          obtain ⟨wd, hwd⟩ : ∃ wd, wr.alloc (.cells #[.int .u64 gb, .int .u64 gn, .bool gr, .bool true, .bool false, .bool gs] 33) = wd := ⟨_, rfl⟩
          have hwd2 : wr.alloc (.cells (rgc ⟨gb, gn, gr, true, false, gs⟩).toArray 33) = wd := hwd
          rw [hwd2] at HD Hb2a
          clear hwd2
          go_wp2_with (at_builtin; refine wpList_append_SG rgLay rfl _ _ rfl wr.heap.size v1 [] rfl (Ho1.out.later Hb2a.out) ⟨wr.heap.size, 0, none⟩ 1 1 [⟨gb, gn, gr, true, false, gs⟩] rfl rfl (RdS.one HD.out) (by have := Ht.out.n; simp only [maxLen, List.length_take, List.length_nil]; omega) (by have := Ht.out.n; simp only [List.length_take, List.length_nil]; omega) (Nat.le_trans Hb1.out.size Hb2a.out.size) ?_)
          intro v2 w3 ho2 hg2
          have Hb2 := Lib.hid (show Below wr.heap.size wr w3 from (Hb1.out.trans (Hb2a.out.mono Hb1.out.size)).grown hg2.g (Nat.le_trans Hb1.out.size Hb2a.out.size) (fun q hq => ((Ho1.out.later Hb2a.out).blk rgc_len q hq).1))
          have Ho2 := Lib.hid ho2
          have k0 := (Htb.out w3 (Hb.out.trans (Hb2.out.mono Hb.out.size))).tab
          clear ho2 hg2 x0 x1 x2 x3 x4 x5 hwd HD Hb2a
          go_wp2_with (at_builtin; refine wpList_append_S0 rgLay rfl _ _ rfl wr.heap.size v2 _ rfl Ho2.out rfl ?_)
          intro v3 ho3
          have HN := RefM.newtab Hh.out HBs.out (HWr.out.trans (Hb2.out.mono HWr.out.size)) (ho3.mono HWr.out.size) (by simpa using HT1.out)
          obtain ⟨hN, k2, f2⟩ := HN
          have HN := Lib.hid hN
          obtain ⟨a2, c2, rfl, -, -, -, -⟩ := ho3.rd rgc_len
          clear hN k0 Ho1 Hb1 Hb2 Ho2 ho3
          go_wp2_with fail
          go_ret
          exact ⟨by rw [(Hres ()).out]; rfl, by rw [(Hres ()).out]; exact ⟨_, by simpa using HN.out⟩⟩
        | some a0 =>
          have Hr := Lib.hid hr
          obtain ⟨b0, o0, x0⟩ := a0
          obtain rfl : x0 = none := by
            rcases (Htb.out _ Hb.out).o.cases rgc_len with ⟨hv, -⟩ | ⟨_, _, hv, -⟩ <;> cases hv
            rfl
          have q2 : (i : Int) ≤ (t.length : Int) := by omega
          have q3 : (i : Int) ≤ (cap : Int) := by omega
          have h16 := Ht.out.n
          have Hb0 := Lib.hid (Below.refl wr.heap.size wr)
          have Hr1 := fun (_ : Unit) => Lib.hid (rds_take Hr.out i)
          have Hcp := Lib.hid hcp
          clear hr hcp hnc
          go_wp2_with (at_builtin; refine wpList_append_SG rgLay rfl _ _ rfl wr.heap.size (.slice none 0 0) [] rfl (OwnS.nil _ _) ⟨b0, o0, none⟩ i cap (t.take i) rfl (by rw [List.length_take]; omega) (Hr1 ()).out (by simp only [maxLen, List.length_nil]; omega) (by simp only [List.length_nil]; omega) (Nat.le_refl _) ?_)
          intro v1 wa ho1 hg1
          have Hb1 := Lib.hid (show Below wr.heap.size wr wa from (Below.refl _ wr).grown hg1.g (Nat.le_refl _) (by intro k hk; cases hk))
          have Ho1 := Lib.hid ho1
          clear hg1 ho1 k0 Hr1
          obtain ⟨x0, x1, x2, x3, x4, x5⟩ := Six.of (HX1.out wa (Hb.out.trans (Hb1.out.mono Hb.out.size)))
          have HD := Lib.hid (HB.new wa (rgc ⟨gb, gn, gr, true, false, gs⟩) 33)
          have Hb2a := Lib.hid ((Below.refl wa.heap.size wa).alloc (Nat.le_refl _) (.cells (rgc ⟨gb, gn, gr, true, false, gs⟩).toArray 33))
          obtain ⟨wd, hwd⟩ : ∃ wd, wa.alloc (.cells #[.int .u64 gb, .int .u64 gn, .bool gr, .bool true, .bool false, .bool gs] 33) = wd := ⟨_, rfl⟩
          have hwd2 : wa.alloc (.cells (rgc ⟨gb, gn, gr, true, false, gs⟩).toArray 33) = wd := hwd
          rw [hwd2] at HD Hb2a
          clear hwd2
          go_wp2_with (at_builtin; refine wpList_append_SG rgLay rfl _ _ rfl wr.heap.size v1 (t.take i) rfl (Ho1.out.later Hb2a.out) ⟨wa.heap.size, 0, none⟩ 1 1 [⟨gb, gn, gr, true, false, gs⟩] rfl rfl (RdS.one HD.out) (by have := Ht.out.n; simp only [maxLen, List.length_take, List.length_nil]; omega) (by have := Ht.out.n; simp only [List.length_take, List.length_nil]; omega) (Nat.le_trans Hb1.out.size Hb2a.out.size) ?_)
          intro v2 w3 ho2 hg2
          have Hb2 := Lib.hid (show Below wr.heap.size wr w3 from (Hb1.out.trans (Hb2a.out.mono Hb1.out.size)).grown hg2.g (Nat.le_trans Hb1.out.size Hb2a.out.size) (fun q hq => ((Ho1.out.later Hb2a.out).blk rgc_len q hq).1))
          have Ho2 := Lib.hid ho2
          have k0 := (Htb.out w3 (Hb.out.trans (Hb2.out.mono Hb.out.size))).tab
          clear ho2 hg2 x0 x1 x2 x3 x4 x5 hwd HD Hb2a
          obtain ⟨sa, hsa⟩ : ∃ sa : Addr, (if cap = i then (⟨b0, o0, none⟩ : Addr) else ⟨b0, o0 + i * 6, none⟩) = sa := ⟨_, rfl⟩
          have Hr2 : Hid (RdS rgc 6 w3 (some sa) (t.drop i)) := Lib.hid (by
            rw [← hsa]
            split
            · rw [List.drop_eq_nil_of_le (by have := Hcp.out; omega)]; intro j g hj; cases hj
            · exact rds_drop (Hr.out.below Hb2.out) i)
          have hsa' : (if cap = i then (some ⟨b0, o0, none⟩ : Option Addr) else some ⟨b0, o0 + i * 6, none⟩) = some sa := by rw [← hsa]; split <;> rfl
          clear hsa
          go_wp2_with (at_builtin; refine wpList_append_SG rgLay rfl _ _ rfl wr.heap.size v2 _ rfl Ho2.out sa (t.length - i) (cap - i) (t.drop i) rfl (by rw [List.length_drop]) Hr2.out (by simp only [maxLen, List.length_take, List.length_append, List.length_cons, List.length_nil]; omega) (by simp only [List.length_take, List.length_append, List.length_cons, List.length_nil]; omega) Hb2.out.size ?_)
          intro v3 w4 ho3 hg3
          have hb3 : Below wr.heap.size wr w4 := Hb2.out.grown hg3.g Hb2.out.size (fun q hq => (Ho2.out.blk rgc_len q hq).1)
          have HN := RefM.newtab Hh.out HBs.out (HWr.out.trans (hb3.mono HWr.out.size)) (ho3.mono HWr.out.size) HT1.out
          obtain ⟨hN, k2, f2⟩ := HN
          have HN := Lib.hid hN
          obtain ⟨a2, c2, rfl, -, -, -, -⟩ := ho3.rd rgc_len
          clear hN k0 Ho1 Hb1 Hb2 Ho2 hb3 ho3 hg3 Hr2 hsa' Hr
          generalize (t.take i ++ _ :: t.drop i).length = n2 at *
          go_wp2_with fail
          go_ret
          exact ⟨by rw [(Hres ()).out]; rfl, by rw [(Hres ()).out]; exact ⟨_, HN.out⟩⟩
  · go_enter Try.func33, Try.ntmps33
    go_wp2_with fail
    refine (Hw.out _).mono ?_
    rintro e w' ⟨rfl, rfl⟩
    clear Hw
    go_wp2_with fail
    clear x0 x1 x2 x3 x4 x5 k0 hw1 hX HX
    go_loopw [6, 7, 8, 9] (fun av iv _ _ wr => RaIn t ⟨gb, gn, gr, false, gx, gs⟩ w1 av iv wr) (fun _ iv _ _ _ => t.length - (intOf iv).toNat)
    case atStart => exact ⟨0, Nat.zero_le _, rfl, by rw [Nat.zero_min]; rfl, fun j x hj => absurd hj (Nat.not_lt_zero _), Below.refl _ _⟩
    case round =>
      obtain ⟨k, hk, rfl, rfl, hno, hb⟩ := hrel
      have Hno := Lib.hid hno
      have Hb := Lib.hid hb
      have k0 := (Htb.out _ hb).tab
      clear hno hb
      by_cases hkl : k < t.length
      · have q1 : (k : Int) < (t.length : Int) := by omega
        obtain ⟨y, hy⟩ : ∃ y, t[k]? = some y := ⟨_, List.getElem?_eq_getElem hkl⟩
        have Hy := fun (_ : Unit) => Lib.hid hy
        obtain ⟨_, _, hta, -, -, hr, -⟩ := (Htb.out _ Hb.out).tv
        cases hta
        obtain ⟨b0, o0, rfl, hb0, hcl⟩ := hr k y hy
        have hS := fun w' (h : Below wr.heap.size wr w') => RaS.of (Htb.out w' (Hb.out.trans (h.mono Hb.out.size))) (HX1.out w' (Hb.out.trans (h.mono Hb.out.size))) hy
        have HS := Lib.hid hS
        have hyn : y.base < 18446744073709551616 := by have := Ht.out.at hy; omega
        have HA := Lib.hid (fun w' => has_any y gb w' Hg.out.1)
        have HQ := Lib.hid (fun w' => has_any ⟨gb, gn, gr, false, gx, gs⟩ y.base w' hyn)
        obtain ⟨A, hA⟩ : ∃ A, y.has gb = A := ⟨_, rfl⟩
        obtain ⟨Q, hQ⟩ : ∃ Q, Rg.has ⟨gb, gn, gr, false, gx, gs⟩ y.base = Q := ⟨_, rfl⟩
        rw [hA] at HA
        rw [hQ] at HQ
        have HAe := fun (_ : Unit) => Lib.hid hA
        have HQe := fun (_ : Unit) => Lib.hid hQ
        unfold rgv at HA HQ
        dsimp only at HA HQ
        have h6 : ∀ w', RaS R t.length b0 o0 cap k y X ⟨gb, gn, gr, false, gx, gs⟩ w' → (w'.cell? ⟨R, 65536, none⟩ = some (.slice (some ⟨b0, o0, none⟩) t.length cap) ∧ w'.cell? ⟨b0, o0 + k * 6, none⟩ = some (.int .u64 y.base) ∧ w'.cell? ⟨b0, o0 + k * 6 + 1, none⟩ = some (.int .u64 y.size) ∧ w'.cell? ⟨b0, o0 + k * 6 + 2, none⟩ = some (.bool y.r) ∧ w'.cell? ⟨b0, o0 + k * 6 + 3, none⟩ = some (.bool y.w) ∧ w'.cell? ⟨b0, o0 + k * 6 + 4, none⟩ = some (.bool y.x) ∧ w'.cell? ⟨b0, o0 + k * 6 + 5, none⟩ = some (.bool y.s)) ∧ w'.cell? ⟨X, 0, none⟩ = some (.int .u64 gb) ∧ w'.cell? ⟨X, 1, none⟩ = some (.int .u64 gn) ∧ w'.cell? ⟨X, 2, none⟩ = some (.bool gr) ∧ w'.cell? ⟨X, 3, none⟩ = some (.bool false) ∧ w'.cell? ⟨X, 4, none⟩ = some (.bool gx) ∧ w'.cell? ⟨X, 5, none⟩ = some (.bool gs) := fun w' h => ⟨⟨h.t, h.y.c0, h.y.c1, h.y.c2, h.y.c3, h.y.c4, h.y.c5⟩, h.x.c0, h.x.c1, h.x.c2, h.x.c3, h.x.c4, h.x.c5⟩
        clear hr hcl hy hA hQ hyn hS
        go_upto_region 12 with fail
        have hd0 : Drn wr wr.drew := ⟨1, rfl⟩
        refine wp_region_held_drew (S := RaS R t.length b0 o0 cap k y X ⟨gb, gn, gr, false, gx, gs⟩) (by kernel_rfl) (HS.out _ (hd0.below _)) (fun hHeld => ?_)
        refine wpAnyH_take (i := 0) (v := ?_) (by simp only [List.getElem?_toArray, List.getElem?_cons_succ, List.getElem?_cons_zero]; rfl) (by kernel_rfl) (by kernel_rfl) (by kernel_rfl) (by intro _ _ _ h_; exact h_) (Or.inl ⟨by rfl, ?_⟩) (by assumption) ?_
        rotate_left 1
        focus (intro w_ hSw_; go_simp; try with_reducible rfl)
        simp only [Act.put, List.setIfInBounds_toArray, List.set_cons_zero, List.set_cons_succ]
        refine wpAnyH_take (i := 1) (v := ?_) (by simp only [List.getElem?_toArray, List.getElem?_cons_succ, List.getElem?_cons_zero]; rfl) (by kernel_rfl) (by kernel_rfl) (by kernel_rfl) (by intro _ _ _ h_; exact h_) (Or.inl ⟨by rfl, ?_⟩) (by assumption) ?_
        rotate_left 1
        focus (intro w_ hSw_; go_simp; try with_reducible rfl)
        simp only [Act.put, List.setIfInBounds_toArray, List.set_cons_zero, List.set_cons_succ]
        refine wpAnyH_take (i := 2) (v := ?_) (by simp only [List.getElem?_toArray, List.getElem?_cons_succ, List.getElem?_cons_zero]; rfl) (by kernel_rfl) (by kernel_rfl) (by kernel_rfl) (by intro _ _ _ h_; exact h_) (Or.inl ⟨by rfl, ?_⟩) (by assumption) ?_
        rotate_left 1
        focus (intro w_ hSw_; go_simp; try with_reducible rfl)
        simp only [Act.put, List.setIfInBounds_toArray, List.set_cons_zero, List.set_cons_succ]
        refine wpAnyH_take (i := 3) (v := ?_) (by simp only [List.getElem?_toArray, List.getElem?_cons_succ, List.getElem?_cons_zero]; rfl) (by kernel_rfl) (by kernel_rfl) (by kernel_rfl) (by intro _ _ _ h_; exact h_) (Or.inl ⟨by rfl, ?_⟩) (by assumption) ?_
        rotate_left 1
        focus (intro w_ hSw_; obtain ⟨⟨y9, y0, y1, y2, y3, y4, y5⟩, z0, z1, z2, z3, z4, z5⟩ := h6 _ hSw_; go_simp; try with_reducible rfl)
        simp only [Act.put, List.setIfInBounds_toArray, List.set_cons_zero, List.set_cons_succ]
        refine wpAnyH_take (i := 4) (v := ?_) (by simp only [List.getElem?_toArray, List.getElem?_cons_succ, List.getElem?_cons_zero]; rfl) (by kernel_rfl) (by kernel_rfl) (by kernel_rfl) (by intro _ _ _ h_; exact h_) (Or.inl ⟨by rfl, ?_⟩) (by assumption) ?_
        rotate_left 1
        focus (intro w_ hSw_; go_simp; try with_reducible rfl)
        simp only [Act.put, List.setIfInBounds_toArray, List.set_cons_zero, List.set_cons_succ]
        refine wpAnyH_take (i := 5) (v := ?_) (by simp only [List.getElem?_toArray, List.getElem?_cons_succ, List.getElem?_cons_zero]; rfl) (by kernel_rfl) (by kernel_rfl) (by kernel_rfl) (by intro _ _ _ h_; exact h_) (Or.inl ⟨by rfl, ?_⟩) (by assumption) ?_
        rotate_left 1
        focus (intro w_ hSw_; obtain ⟨⟨y9, y0, y1, y2, y3, y4, y5⟩, z0, z1, z2, z3, z4, z5⟩ := h6 _ hSw_; go_simp; try with_reducible rfl)
        simp only [Act.put, List.setIfInBounds_toArray, List.set_cons_zero, List.set_cons_succ]
        refine wpAnyH_take (i := 6) (v := ?_) (by simp only [List.getElem?_toArray, List.getElem?_cons_succ, List.getElem?_cons_zero]; rfl) (by kernel_rfl) (by kernel_rfl) (by kernel_rfl) (by intro _ _ _ h_; exact h_) (Or.inl ⟨by rfl, ?_⟩) (by assumption) ?_
        rotate_left 1
        focus (intro w_ hSw_; obtain ⟨⟨y9, y0, y1, y2, y3, y4, y5⟩, z0, z1, z2, z3, z4, z5⟩ := h6 _ hSw_; go_simp; try with_reducible rfl)
        simp only [Act.put, List.setIfInBounds_toArray, List.set_cons_zero, List.set_cons_succ]
        refine wpAnyH_take (i := 7) (v := ?_) (by simp only [List.getElem?_toArray, List.getElem?_cons_succ, List.getElem?_cons_zero]; rfl) (by kernel_rfl) (by kernel_rfl) (by kernel_rfl) (by intro _ _ _ h_; exact h_) (Or.inl ⟨by rfl, ?_⟩) (by assumption) ?_
        rotate_left 1
        focus (intro w_ hSw_; go_simp; try with_reducible rfl)
        simp only [Act.put, List.setIfInBounds_toArray, List.set_cons_zero, List.set_cons_succ]
        refine wpAnyH_take (i := 8) (v := ?_) (by simp only [List.getElem?_toArray, List.getElem?_cons_succ, List.getElem?_cons_zero]; rfl) (by kernel_rfl) (by kernel_rfl) (by kernel_rfl) (by intro _ _ _ h_; exact h_) (Or.inl ⟨by rfl, ?_⟩) (by assumption) ?_
        rotate_left 1
        focus (intro w_ hSw_; obtain ⟨⟨y9, y0, y1, y2, y3, y4, y5⟩, z0, z1, z2, z3, z4, z5⟩ := h6 _ hSw_; go_simp; try with_reducible rfl)
        simp only [Act.put, List.setIfInBounds_toArray, List.set_cons_zero, List.set_cons_succ]
        refine wpAnyH_ready (rs := [9]) (by kernel_rfl) (by simp) ?_
        refine AllReadyH.cons (by simp only [List.getElem?_toArray, List.getElem?_cons_succ, List.getElem?_cons_zero]; rfl) (fun K hK => ?_) AllReadyH.nil
        go_simp
        refine (HA.out _).mono ?_
        rintro e w3 ⟨rfl, hb3⟩
        have hb3' : Below wr.heap.size wr w3 := (hd0.below _).trans hb3
        have Hb3 := Lib.hid hb3'
        clear hHeld hb3 hb3' HA
        go_wp2_with fail
        refine hK.out _ _ (HS.out _ Hb3.out) (fun hHeld => ?_)
        clear hK K
        try simp only [Act.put, List.setIfInBounds_toArray, List.set_cons_zero, List.set_cons_succ]
        refine wpAnyH_take (i := 10) (v := ?_) (by simp only [List.getElem?_toArray, List.getElem?_cons_succ, List.getElem?_cons_zero]; rfl) (by kernel_rfl) (by kernel_rfl) (by kernel_rfl) (by intro _ _ _ h_; exact h_) (Or.inl ⟨by rfl, ?_⟩) (by assumption) ?_
        rotate_left 1
        focus (intro w_ hSw_; go_simp; try with_reducible rfl)
        simp only [Act.put, List.setIfInBounds_toArray, List.set_cons_zero, List.set_cons_succ]
        refine wpAnyH_done (by kernel_rfl) ?_ _
        clear hHeld hd0
        go_upto_region 13 with fail
        have hd0 : Drn w3 w3.drew := ⟨1, rfl⟩
        refine wp_region_held_drew (S := RaS R t.length b0 o0 cap k y X ⟨gb, gn, gr, false, gx, gs⟩) (by kernel_rfl) (HS.out _ (Hb3.out.trans (hd0.below _))) (fun hHeld => ?_)
        refine wpAnyH_take (i := 0) (v := ?_) (by simp only [List.getElem?_toArray, List.getElem?_cons_succ, List.getElem?_cons_zero]; rfl) (by kernel_rfl) (by kernel_rfl) (by kernel_rfl) (by intro _ _ _ h_; exact h_) (Or.inl ⟨by rfl, ?_⟩) (by assumption) ?_
        rotate_left 1
        focus (intro w_ hSw_; obtain ⟨⟨y9, y0, y1, y2, y3, y4, y5⟩, z0, z1, z2, z3, z4, z5⟩ := h6 _ hSw_; go_simp; try with_reducible rfl)
        simp only [Act.put, List.setIfInBounds_toArray, List.set_cons_zero, List.set_cons_succ]
        refine wpAnyH_take (i := 1) (v := ?_) (by simp only [List.getElem?_toArray, List.getElem?_cons_succ, List.getElem?_cons_zero]; rfl) (by kernel_rfl) (by kernel_rfl) (by kernel_rfl) (by intro _ _ _ h_; exact h_) (Or.inl ⟨by rfl, ?_⟩) (by assumption) ?_
        rotate_left 1
        focus (intro w_ hSw_; go_simp; try with_reducible rfl)
        simp only [Act.put, List.setIfInBounds_toArray, List.set_cons_zero, List.set_cons_succ]
        refine wpAnyH_take (i := 2) (v := ?_) (by simp only [List.getElem?_toArray, List.getElem?_cons_succ, List.getElem?_cons_zero]; rfl) (by kernel_rfl) (by kernel_rfl) (by kernel_rfl) (by intro _ _ _ h_; exact h_) (Or.inl ⟨by rfl, ?_⟩) (by assumption) ?_
        rotate_left 1
        focus (intro w_ hSw_; go_simp; try with_reducible rfl)
        simp only [Act.put, List.setIfInBounds_toArray, List.set_cons_zero, List.set_cons_succ]
        refine wpAnyH_take (i := 3) (v := ?_) (by simp only [List.getElem?_toArray, List.getElem?_cons_succ, List.getElem?_cons_zero]; rfl) (by kernel_rfl) (by kernel_rfl) (by kernel_rfl) (by intro _ _ _ h_; exact h_) (Or.inl ⟨by rfl, ?_⟩) (by assumption) ?_
        rotate_left 1
        focus (intro w_ hSw_; go_simp; try with_reducible rfl)
        simp only [Act.put, List.setIfInBounds_toArray, List.set_cons_zero, List.set_cons_succ]
        refine wpAnyH_take (i := 4) (v := ?_) (by simp only [List.getElem?_toArray, List.getElem?_cons_succ, List.getElem?_cons_zero]; rfl) (by kernel_rfl) (by kernel_rfl) (by kernel_rfl) (by intro _ _ _ h_; exact h_) (Or.inl ⟨by rfl, ?_⟩) (by assumption) ?_
        rotate_left 1
        focus (intro w_ hSw_; obtain ⟨⟨y9, y0, y1, y2, y3, y4, y5⟩, z0, z1, z2, z3, z4, z5⟩ := h6 _ hSw_; go_simp; try with_reducible rfl)
        simp only [Act.put, List.setIfInBounds_toArray, List.set_cons_zero, List.set_cons_succ]
        refine wpAnyH_take (i := 5) (v := ?_) (by simp only [List.getElem?_toArray, List.getElem?_cons_succ, List.getElem?_cons_zero]; rfl) (by kernel_rfl) (by kernel_rfl) (by kernel_rfl) (by intro _ _ _ h_; exact h_) (Or.inl ⟨by rfl, ?_⟩) (by assumption) ?_
        rotate_left 1
        focus (intro w_ hSw_; go_simp; try with_reducible rfl)
        simp only [Act.put, List.setIfInBounds_toArray, List.set_cons_zero, List.set_cons_succ]
        refine wpAnyH_take (i := 6) (v := ?_) (by simp only [List.getElem?_toArray, List.getElem?_cons_succ, List.getElem?_cons_zero]; rfl) (by kernel_rfl) (by kernel_rfl) (by kernel_rfl) (by intro _ _ _ h_; exact h_) (Or.inl ⟨by rfl, ?_⟩) (by assumption) ?_
        rotate_left 1
        focus (intro w_ hSw_; obtain ⟨⟨y9, y0, y1, y2, y3, y4, y5⟩, z0, z1, z2, z3, z4, z5⟩ := h6 _ hSw_; go_simp; try with_reducible rfl)
        simp only [Act.put, List.setIfInBounds_toArray, List.set_cons_zero, List.set_cons_succ]
        refine wpAnyH_take (i := 7) (v := ?_) (by simp only [List.getElem?_toArray, List.getElem?_cons_succ, List.getElem?_cons_zero]; rfl) (by kernel_rfl) (by kernel_rfl) (by kernel_rfl) (by intro _ _ _ h_; exact h_) (Or.inl ⟨by rfl, ?_⟩) (by assumption) ?_
        rotate_left 1
        focus (intro w_ hSw_; go_simp; try with_reducible rfl)
        simp only [Act.put, List.setIfInBounds_toArray, List.set_cons_zero, List.set_cons_succ]
        refine wpAnyH_take (i := 8) (v := ?_) (by simp only [List.getElem?_toArray, List.getElem?_cons_succ, List.getElem?_cons_zero]; rfl) (by kernel_rfl) (by kernel_rfl) (by kernel_rfl) (by intro _ _ _ h_; exact h_) (Or.inl ⟨by rfl, ?_⟩) (by assumption) ?_
        rotate_left 1
        focus (intro w_ hSw_; obtain ⟨⟨y9, y0, y1, y2, y3, y4, y5⟩, z0, z1, z2, z3, z4, z5⟩ := h6 _ hSw_; go_simp; try with_reducible rfl)
        simp only [Act.put, List.setIfInBounds_toArray, List.set_cons_zero, List.set_cons_succ]
        refine wpAnyH_ready (rs := [9]) (by kernel_rfl) (by simp) ?_
        refine AllReadyH.cons (by simp only [List.getElem?_toArray, List.getElem?_cons_succ, List.getElem?_cons_zero]; rfl) (fun K hK => ?_) AllReadyH.nil
        go_simp
        refine (HQ.out _).mono ?_
        rintro e w4 ⟨rfl, hb4⟩
        have hb4' : Below wr.heap.size wr w4 := Hb3.out.trans (((hd0.below _).trans hb4).mono Hb3.out.size)
        have Hb4 := Lib.hid hb4'
        clear hHeld hb4 hb4' HQ Hb3
        go_wp2_with fail
        refine hK.out _ _ (HS.out _ Hb4.out) (fun hHeld => ?_)
        clear hK K
        try simp only [Act.put, List.setIfInBounds_toArray, List.set_cons_zero, List.set_cons_succ]
        refine wpAnyH_take (i := 10) (v := ?_) (by simp only [List.getElem?_toArray, List.getElem?_cons_succ, List.getElem?_cons_zero]; rfl) (by kernel_rfl) (by kernel_rfl) (by kernel_rfl) (by intro _ _ _ h_; exact h_) (Or.inl ⟨by rfl, ?_⟩) (by assumption) ?_
        rotate_left 1
        focus (intro w_ hSw_; go_simp; try with_reducible rfl)
        simp only [Act.put, List.setIfInBounds_toArray, List.set_cons_zero, List.set_cons_succ]
        refine wpAnyH_done (by kernel_rfl) ?_ _
        clear hHeld hd0 h6
        have HW : Hid (Below w.heap.size w w4) := Lib.hid (HB1.out.trans ((Hb.out.trans (Hb4.out.mono Hb.out.size)).mono HB1.out.size))
        by_cases hAQ : A = true ∨ Q = true
        · have Hres := fun (_ : Unit) => Lib.hid ((Hadd ()).out ((laps_iff Ht.out Hgg.out).2 ⟨k, y, (Hy ()).out, by rw [(HAe ()).out, show Rg.has ⟨gb, gn, gr, false, gx, gs⟩ y.base = Q from (HQe ()).out]; exact hAQ⟩))
          have HSS := Lib.hid (Hh.out.same HW.out)
          clear HAe HQe
          rcases hAQ with rfl | rfl
          · go_wp2_with fail
            go_ret
            exact ⟨by rw [(Hres ()).out]; rfl, by rw [(Hres ()).out]; exact HSS.out⟩
          · cases A
            · go_wp2_with fail
              go_ret
              exact ⟨by rw [(Hres ()).out]; rfl, by rw [(Hres ()).out]; exact HSS.out⟩
            · go_wp2_with fail
              go_ret
              exact ⟨by rw [(Hres ()).out]; rfl, by rw [(Hres ()).out]; exact HSS.out⟩
        · obtain ⟨rfl, rfl⟩ : A = false ∧ Q = false := by cases A <;> cases Q <;> simp_all
          have Hno2 : Hid (∀ (j : Nat) (x : Rg), j < k + 1 → t[j]? = some x → x.has gb = false ∧ Rg.has ⟨gb, gn, gr, false, gx, gs⟩ x.base = false) := Lib.hid (fun j x hj hx => by
            rcases Nat.lt_or_ge j k with h1 | h1
            · exact Hno.out j x h1 hx
            · have e : j = k := by omega
              rw [e, (Hy ()).out] at hx
              rw [← Option.some.inj hx]; exact ⟨(HAe ()).out, (HQe ()).out⟩)
          have hal := at_lt Ht.out (Hy ()).out (HAe ()).out
          have g0 := fun n => (HS.out (w4.drewN n) (Hb4.out.trans ((⟨n, rfl⟩ : Drn w4 (w4.drewN n)).below _))).t
          have g1 := fun n => (HS.out (w4.drewN n) (Hb4.out.trans ((⟨n, rfl⟩ : Drn w4 (w4.drewN n)).below _))).y.c0
          have g2 := fun n => (HS.out (w4.drewN n) (Hb4.out.trans ((⟨n, rfl⟩ : Drn w4 (w4.drewN n)).below _))).x.c0
          have g3 := (HS.out w4 Hb4.out).t
          have g4 := (HS.out w4 Hb4.out).y.c0
          have g5 := (HS.out w4 Hb4.out).x.c0
          have HNb := Lib.hid (fun n => Hb.out.trans ((Hb4.out.trans ((⟨n, rfl⟩ : Drn w4 (w4.drewN n)).below _)).mono Hb.out.size))
          by_cases hlt : y.base < gb
          · have e1 : (y.base : Int) < (gb : Int) := by omega
            have Hmin := fun (_ : Unit) => Lib.hid (show min (k + 1) (aft t gb) = k + 1 by have := hal.1 hlt; omega)
            clear hlt hal hAQ HAe HQe k0
            go_upto_region 16 with fail
            go_quiet (fail)
            go_wp2_with fail
            first
            | (go_roundw
               case rel => exact ⟨k + 1, by omega, by go_num, by rw [(Hmin ()).out]; go_num, Hno2.out, HNb.out _⟩
               case measure => (first | omega | (simp [intOf] <;> omega) | (simp only [intOf] <;> omega)))
            | exact ⟨⟨k + 1, by omega, by go_num, by rw [(Hmin ()).out]; go_num, Hno2.out, HNb.out _⟩, by (first | omega | (simp [intOf] <;> omega) | (simp only [intOf] <;> omega))⟩
            | (refine ⟨?_, by (first | omega | (simp [intOf] <;> omega) | (simp only [intOf] <;> omega))⟩
               (repeat apply Exists.intro)
               refine (fun a b => And.intro b a) ?_ ?_
               · first | rfl | ((repeat refine ⟨rfl, ?_⟩); rfl)
               exact ⟨k + 1, by omega, by go_num, by rw [(Hmin ()).out]; go_num, Hno2.out, HNb.out _⟩)
          · have e1 : ¬ (y.base : Int) < (gb : Int) := by omega
            have Hmin := fun (_ : Unit) => Lib.hid (show min (k + 1) (aft t gb) = min k (aft t gb) by have := fun h => hlt (hal.2 h); omega)
            clear hlt hal hAQ HAe HQe k0
            go_upto_region 16 with fail
            go_quiet (fail)
            go_wp2_with fail
            first
            | (go_roundw
               case rel => exact ⟨k + 1, by omega, by go_num, by rw [(Hmin ()).out], Hno2.out, HNb.out _⟩
               case measure => (first | omega | (simp [intOf] <;> omega) | (simp only [intOf] <;> omega)))
            | exact ⟨⟨k + 1, by omega, by go_num, by rw [(Hmin ()).out], Hno2.out, HNb.out _⟩, by (first | omega | (simp [intOf] <;> omega) | (simp only [intOf] <;> omega))⟩
            | (refine ⟨?_, by (first | omega | (simp [intOf] <;> omega) | (simp only [intOf] <;> omega))⟩
               (repeat apply Exists.intro)
               refine (fun a b => And.intro b a) ?_ ?_
               · first | rfl | ((repeat refine ⟨rfl, ?_⟩); rfl)
               exact ⟨k + 1, by omega, by go_num, by rw [(Hmin ()).out], Hno2.out, HNb.out _⟩)
      · have q1 : ¬ (k : Int) < (t.length : Int) := by omega
        have hlap := laps_not Ht.out (g := ⟨gb, gn, gr, false, gx, gs⟩) Hgg.out (fun j x hj => Hno.out j x (by have := (List.getElem?_eq_some_iff.1 hj).1; omega) hj)
        have Hres := fun (_ : Unit) => Lib.hid ((Hin ()).out hlap)
        have hTab := (HTab ()).out
        rw [(Hres ()).out] at hTab
        have HT1 := Lib.hid hTab
        have hle := aft_le t gb
        dsimp only
        rw [Nat.min_eq_right (by omega)]
        generalize aft t gb = i at *
        have HWr : Hid (Below w.heap.size w wr) := Lib.hid (HB1.out.trans (Hb.out.mono HB1.out.size))
        obtain ⟨_, _, hta, hcp, -, hr, hnc⟩ := (Htb.out _ Hb.out).tv
        cases hta
        clear hTab hlap Hno hk hkl HTab Hadd Hin i2 Hgg
        cases ao with
        | none =>
          obtain rfl := hnc rfl
          have h0 : t.length = 0 := by omega
          obtain rfl := List.eq_nil_of_length_eq_zero h0
          obtain rfl : i = 0 := by simpa using hle
          have Hb1 := Lib.hid (Below.refl wr.heap.size wr)
          clear hr hcp hnc h0 hle
          go_wp2_with (at_builtin; refine wpList_append_S0 rgLay rfl _ _ rfl wr.heap.size (.slice none 0 0) [] rfl (OwnS.nil _ _) rfl ?_)
          intro v1 ho1
          have Ho1 := Lib.hid ho1
          clear ho1
          obtain ⟨x0, x1, x2, x3, x4, x5⟩ := Six.of (HX1.out wr (Hb.out.trans (Hb1.out.mono Hb.out.size)))
          have HD := Lib.hid (HB.new wr (rgc ⟨gb, gn, gr, false, gx, gs⟩) 33)
          have Hb2a := Lib.hid ((Below.refl wr.heap.size wr).alloc (Nat.le_refl _) (.cells (rgc ⟨gb, gn, gr, false, gx, gs⟩).toArray 33))
          obtain ⟨wd, hwd⟩ : ∃ wd, wr.alloc (.cells #[.int .u64 gb, .int .u64 gn, .bool gr, .bool false, .bool gx, .bool gs] 33) = wd := ⟨_, rfl⟩
          have hwd2 : wr.alloc (.cells (rgc ⟨gb, gn, gr, false, gx, gs⟩).toArray 33) = wd := hwd
          rw [hwd2] at HD Hb2a
          clear hwd2
          go_wp2_with (at_builtin; refine wpList_append_SG rgLay rfl _ _ rfl wr.heap.size v1 [] rfl (Ho1.out.later Hb2a.out) ⟨wr.heap.size, 0, none⟩ 1 1 [⟨gb, gn, gr, false, gx, gs⟩] rfl rfl (RdS.one HD.out) (by have := Ht.out.n; simp only [maxLen, List.length_take, List.length_nil]; omega) (by have := Ht.out.n; simp only [List.length_take, List.length_nil]; omega) (Nat.le_trans Hb1.out.size Hb2a.out.size) ?_)
          intro v2 w3 ho2 hg2
          have Hb2 := Lib.hid (show Below wr.heap.size wr w3 from (Hb1.out.trans (Hb2a.out.mono Hb1.out.size)).grown hg2.g (Nat.le_trans Hb1.out.size Hb2a.out.size) (fun q hq => ((Ho1.out.later Hb2a.out).blk rgc_len q hq).1))
          have Ho2 := Lib.hid ho2
          have k0 := (Htb.out w3 (Hb.out.trans (Hb2.out.mono Hb.out.size))).tab
          clear ho2 hg2 x0 x1 x2 x3 x4 x5 hwd HD Hb2a
          go_wp2_with (at_builtin; refine wpList_append_S0 rgLay rfl _ _ rfl wr.heap.size v2 _ rfl Ho2.out rfl ?_)
          intro v3 ho3
          have HN := RefM.newtab Hh.out HBs.out (HWr.out.trans (Hb2.out.mono HWr.out.size)) (ho3.mono HWr.out.size) (by simpa using HT1.out)
          obtain ⟨hN, k2, f2⟩ := HN
          have HN := Lib.hid hN
          obtain ⟨a2, c2, rfl, -, -, -, -⟩ := ho3.rd rgc_len
          clear hN k0 Ho1 Hb1 Hb2 Ho2 ho3
          go_wp2_with fail
          go_ret
          exact ⟨by rw [(Hres ()).out]; rfl, by rw [(Hres ()).out]; exact ⟨_, by simpa using HN.out⟩⟩
        | some a0 =>
          have Hr := Lib.hid hr
          obtain ⟨b0, o0, x0⟩ := a0
          obtain rfl : x0 = none := by
            rcases (Htb.out _ Hb.out).o.cases rgc_len with ⟨hv, -⟩ | ⟨_, _, hv, -⟩ <;> cases hv
            rfl
          have q2 : (i : Int) ≤ (t.length : Int) := by omega
          have q3 : (i : Int) ≤ (cap : Int) := by omega
          have h16 := Ht.out.n
          have Hb0 := Lib.hid (Below.refl wr.heap.size wr)
          have Hr1 := fun (_ : Unit) => Lib.hid (rds_take Hr.out i)
          have Hcp := Lib.hid hcp
          clear hr hcp hnc
          go_wp2_with (at_builtin; refine wpList_append_SG rgLay rfl _ _ rfl wr.heap.size (.slice none 0 0) [] rfl (OwnS.nil _ _) ⟨b0, o0, none⟩ i cap (t.take i) rfl (by rw [List.length_take]; omega) (Hr1 ()).out (by simp only [maxLen, List.length_nil]; omega) (by simp only [List.length_nil]; omega) (Nat.le_refl _) ?_)
          intro v1 wa ho1 hg1
          have Hb1 := Lib.hid (show Below wr.heap.size wr wa from (Below.refl _ wr).grown hg1.g (Nat.le_refl _) (by intro k hk; cases hk))
          have Ho1 := Lib.hid ho1
          clear hg1 ho1 k0 Hr1
          obtain ⟨x0, x1, x2, x3, x4, x5⟩ := Six.of (HX1.out wa (Hb.out.trans (Hb1.out.mono Hb.out.size)))
          have HD := Lib.hid (HB.new wa (rgc ⟨gb, gn, gr, false, gx, gs⟩) 33)
          have Hb2a := Lib.hid ((Below.refl wa.heap.size wa).alloc (Nat.le_refl _) (.cells (rgc ⟨gb, gn, gr, false, gx, gs⟩).toArray 33))
          obtain ⟨wd, hwd⟩ : ∃ wd, wa.alloc (.cells #[.int .u64 gb, .int .u64 gn, .bool gr, .bool false, .bool gx, .bool gs] 33) = wd := ⟨_, rfl⟩
          have hwd2 : wa.alloc (.cells (rgc ⟨gb, gn, gr, false, gx, gs⟩).toArray 33) = wd := hwd
          rw [hwd2] at HD Hb2a
          clear hwd2
          go_wp2_with (at_builtin; refine wpList_append_SG rgLay rfl _ _ rfl wr.heap.size v1 (t.take i) rfl (Ho1.out.later Hb2a.out) ⟨wa.heap.size, 0, none⟩ 1 1 [⟨gb, gn, gr, false, gx, gs⟩] rfl rfl (RdS.one HD.out) (by have := Ht.out.n; simp only [maxLen, List.length_take, List.length_nil]; omega) (by have := Ht.out.n; simp only [List.length_take, List.length_nil]; omega) (Nat.le_trans Hb1.out.size Hb2a.out.size) ?_)
          intro v2 w3 ho2 hg2
          have Hb2 := Lib.hid (show Below wr.heap.size wr w3 from (Hb1.out.trans (Hb2a.out.mono Hb1.out.size)).grown hg2.g (Nat.le_trans Hb1.out.size Hb2a.out.size) (fun q hq => ((Ho1.out.later Hb2a.out).blk rgc_len q hq).1))
          have Ho2 := Lib.hid ho2
          have k0 := (Htb.out w3 (Hb.out.trans (Hb2.out.mono Hb.out.size))).tab
          clear ho2 hg2 x0 x1 x2 x3 x4 x5 hwd HD Hb2a
          obtain ⟨sa, hsa⟩ : ∃ sa : Addr, (if cap = i then (⟨b0, o0, none⟩ : Addr) else ⟨b0, o0 + i * 6, none⟩) = sa := ⟨_, rfl⟩
          have Hr2 : Hid (RdS rgc 6 w3 (some sa) (t.drop i)) := Lib.hid (by
            rw [← hsa]
            split
            · rw [List.drop_eq_nil_of_le (by have := Hcp.out; omega)]; intro j g hj; cases hj
            · exact rds_drop (Hr.out.below Hb2.out) i)
          have hsa' : (if cap = i then (some ⟨b0, o0, none⟩ : Option Addr) else some ⟨b0, o0 + i * 6, none⟩) = some sa := by rw [← hsa]; split <;> rfl
          clear hsa
          go_wp2_with (at_builtin; refine wpList_append_SG rgLay rfl _ _ rfl wr.heap.size v2 _ rfl Ho2.out sa (t.length - i) (cap - i) (t.drop i) rfl (by rw [List.length_drop]) Hr2.out (by simp only [maxLen, List.length_take, List.length_append, List.length_cons, List.length_nil]; omega) (by simp only [List.length_take, List.length_append, List.length_cons, List.length_nil]; omega) Hb2.out.size ?_)
          intro v3 w4 ho3 hg3
          have hb3 : Below wr.heap.size wr w4 := Hb2.out.grown hg3.g Hb2.out.size (fun q hq => (Ho2.out.blk rgc_len q hq).1)
          have HN := RefM.newtab Hh.out HBs.out (HWr.out.trans (hb3.mono HWr.out.size)) (ho3.mono HWr.out.size) HT1.out
          obtain ⟨hN, k2, f2⟩ := HN
          have HN := Lib.hid hN
          obtain ⟨a2, c2, rfl, -, -, -, -⟩ := ho3.rd rgc_len
          clear hN k0 Ho1 Hb1 Hb2 Ho2 hb3 ho3 hg3 Hr2 hsa' Hr
          generalize (t.take i ++ _ :: t.drop i).length = n2 at *
          go_wp2_with fail
          go_ret
          exact ⟨by rw [(Hres ()).out]; rfl, by rw [(Hres ()).out]; exact ⟨_, HN.out⟩⟩
end Go.Proofs.Ytcbiohpgmooefaa
