/- Metadata have one block, and one bad byte is seen: the walk. No condition. -/
import Derived.Test.YtnmeidmiijcniaaFwuMetas
import Derived.Test.YtnmeidmiijcniaaPk23
import Derived.Test.YtnmeidmiijcniaaOpenM
namespace Go.Proofs.Ytnmeidmiijcniaa.fwuBack
open Go.ChangeShapes Go.WideShapes Go.ChangeAt Go.RowKit Go.Proofs.Ytnmeidmiijcniaa.fwuMetas
set_option linter.unusedVariables false
set_option linter.unusedSimpArgs false
attribute [local go_sem ↓] build_m Go.wp_at_zero Go.wp_at_succ
def bdc (m : Me) (ao : Option Addr) (n cap : Nat) (at' : Int) (by' : UInt8) : List Value := [.int .u32 m.seq, .int .i64 m.b0, .int .i64 m.b1, .int .i64 m.act, .int .i64 m.tries, .slice ao n cap, .int .i64 at', .int .u8 by'.toNat]
structure BdX (w : World) (x : Nat) (m : Me) (ao : Option Addr) (n cap : Nat) (at' : Int) (by' : UInt8) : Prop where
  c0 : w.cell? ⟨x, 0, none⟩ = some (.int .u32 m.seq)
  c1 : w.cell? ⟨x, 1, none⟩ = some (.int .i64 m.b0)
  c2 : w.cell? ⟨x, 2, none⟩ = some (.int .i64 m.b1)
  c3 : w.cell? ⟨x, 3, none⟩ = some (.int .i64 m.act)
  c4 : w.cell? ⟨x, 4, none⟩ = some (.int .i64 m.tries)
  c5 : w.cell? ⟨x, 5, none⟩ = some (.slice ao n cap)
  c6 : w.cell? ⟨x, 6, none⟩ = some (.int .i64 at')
  c7 : w.cell? ⟨x, 7, none⟩ = some (.int .u8 by'.toNat)
theorem BdX.of {w : World} {x : Nat} {m : Me} {ao : Option Addr} {n cap : Nat} {a : Int} {b : UInt8} {t : TypeId} (h : HB w x t (bdc m ao n cap a b)) : BdX w x m ao n cap a b :=
  ⟨h.cell rfl, h.cell rfl, h.cell rfl, h.cell rfl, h.cell rfl, h.cell rfl, h.cell rfl, h.cell rfl⟩
set_option maxRecDepth 100000 in
set_option maxHeartbeats 2000000 in
theorem core (W : World) (m : Me) (hs : m.seq < 4294967296) (ao : Option Addr) (n cap : Nat) (l : List UInt8) (hl : l.length = n) (hn : n ≤ cap) (hc : cap ≤ 140737488351232) (hr : Rd W ao l) (At : Int) (hA : I64 At) (By : UInt8) :
    Calls Try.prog 4 #[.agg (bdc m ao n cap At By).toArray] W fun e w' => e = .returned (.bool true) ∧ Below W.heap.size W w' := by
  have Hl := Lib.hid (And.intro hl (And.intro hn hc))
  have Hr := Lib.hid (fun w' (h : Below W.heap.size W w') => hr.below h)
  have HX := Lib.hid (HB.new W (bdc m ao n cap At By) 37)
  have HB1 := Lib.hid ((Below.refl W.heap.size W).alloc (Nat.le_refl _) (.cells (bdc m ao n cap At By).toArray 37))
  obtain ⟨w1, hw1⟩ : ∃ w1, W.alloc (.cells (bdc m ao n cap At By).toArray 37) = w1 := ⟨_, rfl⟩
  rw [hw1] at HX HB1
  obtain ⟨X, hX⟩ : ∃ X, W.heap.size = X := ⟨_, rfl⟩
  rw [hX] at HX
  have HAt := Lib.hid hA
  have Hs := Lib.hid hs
  clear hl hn hc hr hA hs
  unfold bdc at hw1
  rw [show (bdc m ao n cap At By).toArray = #[.int .u32 m.seq, .int .i64 m.b0, .int .i64 m.b1, .int .i64 m.act, .int .i64 m.tries, .slice ao n cap, .int .i64 At, .int .u8 By.toNat] from rfl]
  go_enter Try.func4, Try.ntmps4
  go_upto_region 1 with fail
  have hd0 : Drn w1 w1.drew := ⟨1, rfl⟩
  have HS := Lib.hid (fun w' (hb : Below w1.heap.size w1 w') => BdX.of (HX.out.later hb))
  have HBa := Lib.hid (fun o => (hd0.below w1.heap.size).alloc (Nat.le_refl _) o)
  have hz5 : ∀ w, (zeroValue 26).run Try.prog w = .ok (.agg #[.int .u32 0, .int .i64 0, .int .i64 0, .int .i64 0, .int .i64 0]) w := fun w => by kernel_rfl
  refine wp_region_held_drew (S := fun w' => BdX w' X m ao n cap At By) (by kernel_rfl) (HS.out _ (hd0.below _)) (fun hHeld => ?_)
  refine wpAnyH_take (i := 0) (v := ?_) (by simp only [List.getElem?_toArray, List.getElem?_cons_succ, List.getElem?_cons_zero]; rfl) (by kernel_rfl) (by kernel_rfl) (by kernel_rfl) (by intro _ _ _ h_; exact h_) (Or.inl ⟨by rfl, ?_⟩) (by assumption) ?_
  rotate_left 1
  focus (intro w_ hSw_; try go_simp; try with_reducible rfl)
  simp only [Act.put, List.setIfInBounds_toArray, List.set_cons_zero, List.set_cons_succ]
  refine wpAnyH_take (i := 1) (v := ?_) (by simp only [List.getElem?_toArray, List.getElem?_cons_succ, List.getElem?_cons_zero]; rfl) (by kernel_rfl) (by kernel_rfl) (by kernel_rfl) (by intro _ _ _ h_; exact h_) (Or.inl ⟨by rfl, ?_⟩) (by assumption) ?_
  rotate_left 1
  focus (intro w_ hSw_; obtain ⟨y0, y1, y2, y3, y4, y5, y6, y7⟩ := hSw_; try go_simp; try with_reducible rfl)
  simp only [Act.put, List.setIfInBounds_toArray, List.set_cons_zero, List.set_cons_succ]
  refine wpAnyH_take (i := 2) (v := ?_) (by simp only [List.getElem?_toArray, List.getElem?_cons_succ, List.getElem?_cons_zero]; rfl) (by kernel_rfl) (by kernel_rfl) (by kernel_rfl) (by intro _ _ _ h_; exact h_) (Or.inl ⟨by rfl, ?_⟩) (by assumption) ?_
  rotate_left 1
  focus (intro w_ hSw_; try go_simp; try with_reducible rfl)
  simp only [Act.put, List.setIfInBounds_toArray, List.set_cons_zero, List.set_cons_succ]
  refine wpAnyH_take (i := 3) (v := ?_) (by simp only [List.getElem?_toArray, List.getElem?_cons_succ, List.getElem?_cons_zero]; rfl) (by kernel_rfl) (by kernel_rfl) (by kernel_rfl) (by intro _ _ _ h_; exact h_) (Or.inl ⟨by rfl, ?_⟩) (by assumption) ?_
  rotate_left 1
  focus (intro w_ hSw_; obtain ⟨y0, y1, y2, y3, y4, y5, y6, y7⟩ := hSw_; try go_simp; try with_reducible rfl)
  simp only [Act.put, List.setIfInBounds_toArray, List.set_cons_zero, List.set_cons_succ]
  refine wpAnyH_take (i := 4) (v := ?_) (by simp only [List.getElem?_toArray, List.getElem?_cons_succ, List.getElem?_cons_zero]; rfl) (by kernel_rfl) (by kernel_rfl) (by kernel_rfl) (by intro _ _ _ h_; exact h_) (Or.inl ⟨by rfl, ?_⟩) (by assumption) ?_
  rotate_left 1
  focus (intro w_ hSw_; try go_simp; try with_reducible rfl)
  simp only [Act.put, List.setIfInBounds_toArray, List.set_cons_zero, List.set_cons_succ]
  refine wpAnyH_take (i := 5) (v := ?_) (by simp only [List.getElem?_toArray, List.getElem?_cons_succ, List.getElem?_cons_zero]; rfl) (by kernel_rfl) (by kernel_rfl) (by kernel_rfl) (by intro _ _ _ h_; exact h_) (Or.inl ⟨by rfl, ?_⟩) (by assumption) ?_
  rotate_left 1
  focus (intro w_ hSw_; obtain ⟨y0, y1, y2, y3, y4, y5, y6, y7⟩ := hSw_; try go_simp; try with_reducible rfl)
  simp only [Act.put, List.setIfInBounds_toArray, List.set_cons_zero, List.set_cons_succ]
  refine wpAnyH_take (i := 6) (v := ?_) (by simp only [List.getElem?_toArray, List.getElem?_cons_succ, List.getElem?_cons_zero]; rfl) (by kernel_rfl) (by kernel_rfl) (by kernel_rfl) (by intro _ _ _ h_; exact h_) (Or.inl ⟨by rfl, ?_⟩) (by assumption) ?_
  rotate_left 1
  focus (intro w_ hSw_; try go_simp; try with_reducible rfl)
  simp only [Act.put, List.setIfInBounds_toArray, List.set_cons_zero, List.set_cons_succ]
  refine wpAnyH_take (i := 7) (v := ?_) (by simp only [List.getElem?_toArray, List.getElem?_cons_succ, List.getElem?_cons_zero]; rfl) (by kernel_rfl) (by kernel_rfl) (by kernel_rfl) (by intro _ _ _ h_; exact h_) (Or.inl ⟨by rfl, ?_⟩) (by assumption) ?_
  rotate_left 1
  focus (intro w_ hSw_; obtain ⟨y0, y1, y2, y3, y4, y5, y6, y7⟩ := hSw_; try go_simp; try with_reducible rfl)
  simp only [Act.put, List.setIfInBounds_toArray, List.set_cons_zero, List.set_cons_succ]
  refine wpAnyH_ready (rs := [8]) (by kernel_rfl) (by simp) ?_
  refine AllReadyH.cons (by simp only [List.getElem?_toArray, List.getElem?_cons_succ, List.getElem?_cons_zero]; rfl) (fun K hK => ?_) AllReadyH.nil
  go_simp
  refine hK.out _ _ (HS.out _ (HBa.out _)) (fun hHeld => ?_)
  clear hK K
  try simp only [Act.put, List.setIfInBounds_toArray, List.set_cons_zero, List.set_cons_succ]
  refine wpAnyH_ready (rs := [9]) (by kernel_rfl) (by simp) ?_
  refine AllReadyH.cons (by simp only [List.getElem?_toArray, List.getElem?_cons_succ, List.getElem?_cons_zero]; rfl) (fun K hK => ?_) AllReadyH.nil
  go_simp
  refine hK.out _ _ (HS.out _ (HBa.out _)) (fun hHeld => ?_)
  clear hK K
  try simp only [Act.put, List.setIfInBounds_toArray, List.set_cons_zero, List.set_cons_succ]
  refine wpAnyH_take (i := 10) (v := ?_) (by simp only [List.getElem?_toArray, List.getElem?_cons_succ, List.getElem?_cons_zero]; rfl) (by kernel_rfl) (by kernel_rfl) (by kernel_rfl) (by intro _ _ _ h_; exact h_) (Or.inl ⟨by rfl, ?_⟩) (by assumption) ?_
  rotate_left 1
  focus (intro w_ hSw_; try go_simp; try with_reducible rfl)
  simp only [Act.put, List.setIfInBounds_toArray, List.set_cons_zero, List.set_cons_succ]
  refine wpAnyH_take (i := 11) (v := ?_) (by simp only [List.getElem?_toArray, List.getElem?_cons_succ, List.getElem?_cons_zero]; rfl) (by kernel_rfl) (by kernel_rfl) (by kernel_rfl) (by intro _ _ _ h_; exact h_) (Or.inl ⟨by rfl, ?_⟩) (by assumption) ?_
  rotate_left 1
  focus (intro w_ hSw_; try go_simp; try with_reducible rfl)
  simp only [Act.put, List.setIfInBounds_toArray, List.set_cons_zero, List.set_cons_succ]
  refine wpAnyH_take (i := 12) (v := ?_) (by simp only [List.getElem?_toArray, List.getElem?_cons_succ, List.getElem?_cons_zero]; rfl) (by kernel_rfl) (by kernel_rfl) (by kernel_rfl) (by intro _ _ _ h_; exact h_) (Or.inl ⟨by rfl, ?_⟩) (by assumption) ?_
  rotate_left 1
  focus (intro w_ hSw_; try go_simp; try with_reducible rfl)
  simp only [Act.put, List.setIfInBounds_toArray, List.set_cons_zero, List.set_cons_succ]
  refine wpAnyH_done (by kernel_rfl) ?_ _
  have HY := Lib.hid ((HB.new w1 (mec m) 26).drn (⟨1, rfl⟩ : Drn _ (w1.alloc (.cells (mec m).toArray 26)).drew))
  have HB2 := Lib.hid (show Below w1.heap.size w1 (w1.alloc (.cells (mec m).toArray 26)).drew from HBa.out _)
  obtain ⟨w2, hw2⟩ : ∃ w2, (w1.alloc (.cells (mec m).toArray 26)).drew = w2 := ⟨_, rfl⟩
  rw [hw2] at HY HB2
  unfold mec at hw2
  rw [hw2]
  obtain ⟨Y, hY⟩ : ∃ Y, w1.heap.size = Y := ⟨_, rfl⟩
  rw [hY] at HY ⊢
  have HBy := Lib.hid (HB1.out.trans (HB2.out.mono HB1.out.size))
  have HYl : Hid (W.heap.size ≤ Y) := Lib.hid (by rw [← hY]; exact HB1.out.size)
  obtain ⟨y0, y1, y2, y3, y4⟩ := Five.of HY.out
  clear HB1 HB2 HS HBa hz5 hHeld hd0 hw1 hw2 HX hX hY
  cases hrt : rightM m
  case false =>
    have He := Lib.hid (enc_bad m w2 hrt)
    unfold mev at He
    go_wp2_with fail
    refine He.out.mono ?_
    rintro e w3 ⟨rfl, hb3⟩
    have HBz := Lib.hid (HBy.out.trans (hb3.mono HBy.out.size))
    clear hb3 He y0 y1 y2 y3 y4 HY HBy hrt
    go_upto_region 12 with fail
    have Hd := Lib.hid (dec_any ao n cap l w3 Hl.out.1 Hl.out.2.1 (by have := Hl.out; omega) (Hr.out _ HBz.out))
    rw [show decV (decM l) = .tuple #[.agg #[.int .u32 ((decM l).getD default).seq, .int .i64 ((decM l).getD default).b0, .int .i64 ((decM l).getD default).b1, .int .i64 ((decM l).getD default).act, .int .i64 ((decM l).getD default).tries], .int .i64 (if (decM l).isSome then 0 else 231)] from rfl] at Hd
    cases hdl : decM l with
    | none =>
      rw [hdl] at Hd
      rw [show (none : Option Me).getD default = ⟨0, 0, 0, 0, 0⟩ from rfl, show (if (none : Option Me).isSome then (0 : Int) else 231) = 231 from rfl] at Hd
      dsimp only at Hd
      rw [show ((0 : Nat) : Int) = 0 from rfl] at Hd
      have hz := run_buildM0
      clear hdl
      go_wp2_with fail
      refine Hd.out.mono ?_
      rintro e wd ⟨rfl, hbd⟩
      have HZ := Lib.hid (HB.new wd mec0 26)
      have hbe := hbd.trans (((Below.refl wd.heap.size wd).alloc (Nat.le_refl _) (.cells mec0.toArray 26)).mono hbd.size)
      have HBe := Lib.hid (HBz.out.trans (hbe.mono HBz.out.size))
      obtain ⟨we, hwe⟩ : ∃ we, wd.alloc (.cells mec0.toArray 26) = we := ⟨_, rfl⟩
      rw [hwe] at HZ HBe
      have hwe' : wd.alloc (.cells #[.int .u32 0, .int .i64 0, .int .i64 0, .int .i64 0, .int .i64 0] 26) = we := hwe
      have Hwe := fun (_ : Unit) => Lib.hid hwe'
      obtain ⟨Z, hZ⟩ : ∃ Z, wd.heap.size = Z := ⟨_, rfl⟩
      rw [hZ] at HZ
      clear hbd hbe Hd hwe hwe'
      go_wp2_with fail
      rw [(Hwe ()).out]
      refine (alive_any _).mono ?_
      rintro e wf ⟨rfl, hbf⟩
      have hZf := HZ.out.later hbf
      have z0 : wf.cell? ⟨Z, 0, none⟩ = some (.int .u32 0) := hZf.cell (i := 0) rfl
      have z1 : wf.cell? ⟨Z, 1, none⟩ = some (.int .i64 0) := hZf.cell (i := 1) rfl
      have z2 : wf.cell? ⟨Z, 2, none⟩ = some (.int .i64 0) := hZf.cell (i := 2) rfl
      have z3 : wf.cell? ⟨Z, 3, none⟩ = some (.int .i64 0) := hZf.cell (i := 3) rfl
      have z4 : wf.cell? ⟨Z, 4, none⟩ = some (.int .i64 0) := hZf.cell (i := 4) rfl
      have HBf := Lib.hid (HBe.out.trans (hbf.mono HBe.out.size))
      have heq := fun w => me_equal ⟨0, 0, 0, 0, 0⟩ ⟨0, 0, 0, 0, 0⟩ w
      rw [decide_eq_true rfl] at heq
      dsimp only at heq
      rw [show ((0 : Nat) : Int) = 0 from rfl] at heq
      have hguard : Try.prog.eqGuardType Try.prog.depth 26 = false := by kernel_rfl
      clear hbf hZf HZ HBe Hwe
      go_wp2_with fail
      go_ret
      exact ⟨rfl, HBf.out⟩
    | some M =>
      obtain ⟨hln, hMr, hMl, -, hMs⟩ := dec_some hdl
      rw [hdl] at Hd
      rw [show (some M : Option Me).getD default = M from rfl, show (if (some M : Option Me).isSome then (0 : Int) else 231) = 0 from rfl] at Hd
      have HM := Lib.hid (And.intro hMr (And.intro hMl hMs))
      clear hdl hln hMr hMl hMs
      go_wp2_with fail
      refine Hd.out.mono ?_
      rintro e wd ⟨rfl, hbd⟩
      have HZ := Lib.hid (HB.new wd (mec M) 26)
      have hbe := hbd.trans (((Below.refl wd.heap.size wd).alloc (Nat.le_refl _) (.cells (mec M).toArray 26)).mono hbd.size)
      have HBe := Lib.hid (HBz.out.trans (hbe.mono HBz.out.size))
      obtain ⟨we, hwe⟩ : ∃ we, wd.alloc (.cells (mec M).toArray 26) = we := ⟨_, rfl⟩
      rw [hwe] at HZ HBe
      unfold mec at hwe
      obtain ⟨Z, hZ⟩ : ∃ Z, wd.heap.size = Z := ⟨_, rfl⟩
      rw [hZ] at HZ
      have hZ5 := Five.of HZ.out
      have z0 := hZ5.c0
      have z1 := hZ5.c1
      have z2 := hZ5.c2
      have z3 := hZ5.c3
      have z4 := hZ5.c4
      have Hen := Lib.hid (enc_ok M we HM.out.1 HM.out.2.2)
      unfold mev at Hen
      clear hbd hbe Hd hZ5
      go_wp2_with fail
      refine Hen.out.mono ?_
      rintro e wf ⟨gf, Cf, rfl, hCf, hof, hbf⟩
      have HBf := Lib.hid (HBe.out.trans (hbf.mono HBe.out.size))
      have Hof := Lib.hid hof
      clear hCf hof hbf Hen z0 z1 z2 z3 z4 hwe
      go_wp2_with fail
      refine (alive_any _).mono ?_
      rintro e wg ⟨rfl, hbg⟩
      have HBg := Lib.hid (HBf.out.trans (hbg.mono HBf.out.size))
      have hrg : Rd wg (some ⟨gf, 0, none⟩) l := by
        obtain ⟨a4, c4, he4, -, -, hr4⟩ := (Hof.out.later hbg).rd
        rw [encM_len] at he4
        cases he4
        rw [HM.out.2.1] at hr4
        exact hr4
      have hl512 : n = 512 := by rw [← Hl.out.1, ← HM.out.2.1, encM_len]
      have Hsm := Lib.hid (same_any (some ⟨gf, 0, none⟩) ao 512 n Cf cap l l wg (by rw [Hl.out.1, hl512]) Hl.out.1 (by decide) (by have := Hl.out; omega) hrg (Hr.out _ HBg.out))
      rw [decide_eq_true rfl] at Hsm
      clear hbg hrg hl512 Hof HBf HBe
      go_wp2_with fail
      refine Hsm.out.mono ?_
      rintro e wh ⟨rfl, hdh⟩
      have HBh := Lib.hid (HBg.out.trans (hdh.below _))
      clear hdh Hsm
      go_wp2_with fail
      go_ret
      exact ⟨rfl, HBh.out⟩
  have He := Lib.hid (enc_ok m w2 hrt Hs.out)
  unfold mev at He
  go_wp2_with fail
  refine He.out.mono ?_
  rintro e w3 ⟨g, C, rfl, hC, ho3, hb3⟩
  have HY3 := Lib.hid (HY.out.later hb3)
  have HB3 := Lib.hid (HBy.out.trans (hb3.mono HBy.out.size))
  have hll := encM_len m
  have hde := dec_enc hrt Hs.out
  have hdset := fun j c => dec_set hrt j c
  obtain ⟨L, hL⟩ : ∃ L, encM m = L := ⟨_, rfl⟩
  rw [hL] at ho3 hll hde
  simp only [hL] at hdset
  have hgb := own_blk ho3 (k := g) rfl
  have hr3 : Rd w3 (some ⟨g, 0, none⟩) L := by
    obtain ⟨a4, c4, he4, -, -, hr4⟩ := ho3.rd
    rw [hll] at he4
    cases he4
    exact hr4
  have Ho3 := Lib.hid ho3
  have Hll := fun (_ : Unit) => Lib.hid hll
  have HC := Lib.hid hC
  have HgB := Lib.hid (show W.heap.size ≤ g from Nat.le_trans HBy.out.size hgb.1)
  have HgY : Hid (g ≠ Y) := Lib.hid (by have := HY.out.lt; omega)
  have Hdset := fun (_ : Unit) => Lib.hid hdset
  have Hd1 := Lib.hid (dec_any (some ⟨g, 0, none⟩) 512 C L w3 hll hC (by
    obtain ⟨_, _, _, hC1, hC2, _⟩ := ho3.at
    simp only [maxLen] at hC2; omega) hr3)
  rw [hde, show decV (some m) = .tuple #[.agg #[.int .u32 m.seq, .int .i64 m.b0, .int .i64 m.b1, .int .i64 m.act, .int .i64 m.tries], .int .i64 0] from rfl] at Hd1
  have HCm : Hid (C ≤ 9223372036854775807) := Lib.hid (by
    obtain ⟨_, _, _, hC1, hC2, _⟩ := ho3.at
    simp only [maxLen] at hC2; omega)
  clear He hb3 ho3 hll hde hdset hgb hr3 hC hL y0 y1 y2 y3 y4 HY HBy hrt
  go_wp2_with fail
  refine Hd1.out.mono ?_
  rintro e w4 ⟨rfl, hb4⟩
  have HN := Lib.hid (HB.new w4 (mec m) 26)
  have hb5 := hb4.trans (((Below.refl w4.heap.size w4).alloc (Nat.le_refl _) (.cells (mec m).toArray 26)).mono hb4.size)
  obtain ⟨w5, hw5⟩ : ∃ w5, w4.alloc (.cells (mec m).toArray 26) = w5 := ⟨_, rfl⟩
  rw [hw5] at HN hb5
  unfold mec at hw5
  obtain ⟨N, hN⟩ : ∃ N, w4.heap.size = N := ⟨_, rfl⟩
  rw [hN] at HN
  have HY5 := HY3.out.later hb5
  obtain ⟨y0, y1, y2, y3, y4⟩ := Five.of HY5
  obtain ⟨z0, z1, z2, z3, z4⟩ := Five.of HN.out
  have Ho5 := Lib.hid (Ho3.out.later hb5)
  have HB5 := Lib.hid (HB3.out.trans (hb5.mono HB3.out.size))
  have heq := fun w => me_equal m m w
  rw [decide_eq_true rfl] at heq
  have hguard : Try.prog.eqGuardType Try.prog.depth 26 = false := by kernel_rfl
  clear hb4 hb5 Hd1 Ho3 HY3 HB3 HY5
  by_cases hby : By = 0
  · have e0 : ((By.toNat : Int) != 0) = false := by rw [hby]; decide
    have e1 : By.toNat = 0 := by rw [hby]; rfl
    rw [e1] at e0 ⊢
    clear hby e1 e0
    have HBz := HB5
    go_upto_region 12 with fail
    clear y0 y1 y2 y3 y4 z0 z1 z2 z3 z4 heq hguard HN hw5
    have Hd := Lib.hid (dec_any ao n cap l w5 Hl.out.1 Hl.out.2.1 (by have := Hl.out; omega) (Hr.out _ HBz.out))
    rw [show decV (decM l) = .tuple #[.agg #[.int .u32 ((decM l).getD default).seq, .int .i64 ((decM l).getD default).b0, .int .i64 ((decM l).getD default).b1, .int .i64 ((decM l).getD default).act, .int .i64 ((decM l).getD default).tries], .int .i64 (if (decM l).isSome then 0 else 231)] from rfl] at Hd
    cases hdl : decM l with
    | none =>
      rw [hdl] at Hd
      rw [show (none : Option Me).getD default = ⟨0, 0, 0, 0, 0⟩ from rfl, show (if (none : Option Me).isSome then (0 : Int) else 231) = 231 from rfl] at Hd
      dsimp only at Hd
      rw [show ((0 : Nat) : Int) = 0 from rfl] at Hd
      have hz := run_buildM0
      clear hdl
      go_wp2_with fail
      refine Hd.out.mono ?_
      rintro e wd ⟨rfl, hbd⟩
      have HZ := Lib.hid (HB.new wd mec0 26)
      have hbe := hbd.trans (((Below.refl wd.heap.size wd).alloc (Nat.le_refl _) (.cells mec0.toArray 26)).mono hbd.size)
      have HBe := Lib.hid (HBz.out.trans (hbe.mono HBz.out.size))
      obtain ⟨we, hwe⟩ : ∃ we, wd.alloc (.cells mec0.toArray 26) = we := ⟨_, rfl⟩
      rw [hwe] at HZ HBe
      have hwe' : wd.alloc (.cells #[.int .u32 0, .int .i64 0, .int .i64 0, .int .i64 0, .int .i64 0] 26) = we := hwe
      have Hwe := fun (_ : Unit) => Lib.hid hwe'
      obtain ⟨Z, hZ⟩ : ∃ Z, wd.heap.size = Z := ⟨_, rfl⟩
      rw [hZ] at HZ
      clear hbd hbe Hd hwe hwe'
      go_wp2_with fail
      rw [(Hwe ()).out]
      refine (alive_any _).mono ?_
      rintro e wf ⟨rfl, hbf⟩
      have hZf := HZ.out.later hbf
      have z0 : wf.cell? ⟨Z, 0, none⟩ = some (.int .u32 0) := hZf.cell (i := 0) rfl
      have z1 : wf.cell? ⟨Z, 1, none⟩ = some (.int .i64 0) := hZf.cell (i := 1) rfl
      have z2 : wf.cell? ⟨Z, 2, none⟩ = some (.int .i64 0) := hZf.cell (i := 2) rfl
      have z3 : wf.cell? ⟨Z, 3, none⟩ = some (.int .i64 0) := hZf.cell (i := 3) rfl
      have z4 : wf.cell? ⟨Z, 4, none⟩ = some (.int .i64 0) := hZf.cell (i := 4) rfl
      have HBf := Lib.hid (HBe.out.trans (hbf.mono HBe.out.size))
      have heq := fun w => me_equal ⟨0, 0, 0, 0, 0⟩ ⟨0, 0, 0, 0, 0⟩ w
      rw [decide_eq_true rfl] at heq
      dsimp only at heq
      rw [show ((0 : Nat) : Int) = 0 from rfl] at heq
      have hguard : Try.prog.eqGuardType Try.prog.depth 26 = false := by kernel_rfl
      clear hbf hZf HZ HBe Hwe
      go_wp2_with fail
      go_ret
      exact ⟨rfl, HBf.out⟩
    | some M =>
      obtain ⟨hln, hMr, hMl, -, hMs⟩ := dec_some hdl
      rw [hdl] at Hd
      rw [show (some M : Option Me).getD default = M from rfl, show (if (some M : Option Me).isSome then (0 : Int) else 231) = 0 from rfl] at Hd
      have HM := Lib.hid (And.intro hMr (And.intro hMl hMs))
      clear hdl hln hMr hMl hMs
      go_wp2_with fail
      refine Hd.out.mono ?_
      rintro e wd ⟨rfl, hbd⟩
      have HZ := Lib.hid (HB.new wd (mec M) 26)
      have hbe := hbd.trans (((Below.refl wd.heap.size wd).alloc (Nat.le_refl _) (.cells (mec M).toArray 26)).mono hbd.size)
      have HBe := Lib.hid (HBz.out.trans (hbe.mono HBz.out.size))
      obtain ⟨we, hwe⟩ : ∃ we, wd.alloc (.cells (mec M).toArray 26) = we := ⟨_, rfl⟩
      rw [hwe] at HZ HBe
      unfold mec at hwe
      obtain ⟨Z, hZ⟩ : ∃ Z, wd.heap.size = Z := ⟨_, rfl⟩
      rw [hZ] at HZ
      have hZ5 := Five.of HZ.out
      have z0 := hZ5.c0
      have z1 := hZ5.c1
      have z2 := hZ5.c2
      have z3 := hZ5.c3
      have z4 := hZ5.c4
      have Hen := Lib.hid (enc_ok M we HM.out.1 HM.out.2.2)
      unfold mev at Hen
      clear hbd hbe Hd hZ5
      go_wp2_with fail
      refine Hen.out.mono ?_
      rintro e wf ⟨gf, Cf, rfl, hCf, hof, hbf⟩
      have HBf := Lib.hid (HBe.out.trans (hbf.mono HBe.out.size))
      have Hof := Lib.hid hof
      clear hCf hof hbf Hen z0 z1 z2 z3 z4 hwe
      go_wp2_with fail
      refine (alive_any _).mono ?_
      rintro e wg ⟨rfl, hbg⟩
      have HBg := Lib.hid (HBf.out.trans (hbg.mono HBf.out.size))
      have hrg : Rd wg (some ⟨gf, 0, none⟩) l := by
        obtain ⟨a4, c4, he4, -, -, hr4⟩ := (Hof.out.later hbg).rd
        rw [encM_len] at he4
        cases he4
        rw [HM.out.2.1] at hr4
        exact hr4
      have hl512 : n = 512 := by rw [← Hl.out.1, ← HM.out.2.1, encM_len]
      have Hsm := Lib.hid (same_any (some ⟨gf, 0, none⟩) ao 512 n Cf cap l l wg (by rw [Hl.out.1, hl512]) Hl.out.1 (by decide) (by have := Hl.out; omega) hrg (Hr.out _ HBg.out))
      rw [decide_eq_true rfl] at Hsm
      clear hbg hrg hl512 Hof HBf HBe
      go_wp2_with fail
      refine Hsm.out.mono ?_
      rintro e wh ⟨rfl, hdh⟩
      have HBh := Lib.hid (HBg.out.trans (hdh.below _))
      clear hdh Hsm
      go_wp2_with fail
      go_ret
      exact ⟨rfl, HBh.out⟩
  · have e0 : ¬ ((By.toNat : Int) = 0) := fun h => hby (UInt8.toNat_inj.mp (by simpa using h))
    have e1 : ((By.toNat : Int) != 0) = true := bne_iff_ne.2 e0
    obtain ⟨j, hj⟩ : ∃ j : Nat, pickN At 512 = (j : Int) := ⟨(pickN At 512).toNat, (Int.toNat_of_nonneg (pickN_nonneg (by decide))).symm⟩
    have hj2 : j < 512 := by have := pickN_lt (c := At) (n := 512) (by decide); omega
    have Hpk := fun w => Lib.hid (pick_any At 512 w HAt.out (by decide) (by decide))
    simp only [hj] at Hpk
    obtain ⟨c, hc⟩ : ∃ c, L[j]?.getD 0 = c := ⟨_, rfl⟩
    obtain ⟨c2, hc2⟩ : ∃ c2, c ^^^ By = c2 := ⟨_, rfl⟩
    have ex : bits BinOp.xor IntKind.u8 (c.toNat : Int) (By.toNat : Int) = (c2.toNat : Int) := by rw [← hc2]; exact u8_xor8 c By
    have hcj : w5.cell? ⟨g, j, none⟩ = some (.int .u8 c.toNat) := by rw [← hc]; exact Ho5.out.at.2.2.2.2.2.1 j hj2
    have hfr := Ho5.out.at.2.2.2.2.2.2 j
    have Hset := fun (_ : Unit) => Lib.hid ((Hdset ()).out j c2 hj2 (by rw [← hc2, hc]; exact xor_ne c By hby))
    have hjc : ¬ C < j := by have := HC.out; omega
    clear hby e0 hj hc hc2
    go_upto_region 8 with fail
    clear y0 y1 y2 y3 y4 z0 z1 z2 z3 z4 heq hguard HN hw5 hHeld
    go_wp2_with fail
    refine (Hpk _).out.mono ?_
    rintro e w6 ⟨rfl, rfl⟩
    go_wp2_with fail
    refine (Hpk _).out.mono ?_
    rintro e w6 ⟨rfl, rfl⟩
    go_wp2_with fail
    obtain ⟨w6, hw6⟩ : ∃ w6, w5.setCell ⟨g, j, none⟩ (.int .u8 c2.toNat) = w6 := ⟨_, rfl⟩
    have Ho6 := Lib.hid (Ho5.out.store j c2 (by rw [(Hll ()).out]; exact hj2))
    have HB6 := Lib.hid (HB5.out.setCell (show W.heap.size ≤ (⟨g, j, none⟩ : Addr).block from HgB.out) (.int .u8 c2.toNat))
    rw [hw6] at Ho6 HB6 ⊢
    have hr6 : Rd w6 (some ⟨g, 0, none⟩) (L.set j c2) := by
      obtain ⟨a4, c4, he4, -, -, hr4⟩ := Ho6.out.rd
      simp only [Value.slice.injEq] at he4
      obtain ⟨rfl, -, -⟩ := he4
      exact hr4
    have Hd6 := Lib.hid (dec_any (some ⟨g, 0, none⟩) 512 C (L.set j c2) w6 (by rw [List.length_set]; exact (Hll ()).out) HC.out HCm.out hr6)
    rw [(Hset ()).out, show decV none = .tuple #[.agg #[.int .u32 0, .int .i64 0, .int .i64 0, .int .i64 0, .int .i64 0], .int .i64 231] from rfl] at Hd6
    clear hr6 hcj hfr hw6 Ho6 HB5 Ho5 Hset ex Hpk hjc hj2
    refine Hd6.out.mono ?_
    rintro e w7 ⟨rfl, hb7⟩
    have HBv := Lib.hid (HB6.out.trans (hb7.mono HB6.out.size))
    clear Hd6 HB6 hb7
    go_upto_region 12 with fail
    have HBz := Lib.hid (HBv.out.alloc HBv.out.size (.cells #[.int .u32 0, .int .i64 0, .int .i64 0, .int .i64 0, .int .i64 0] 26))
    obtain ⟨w8, hw8⟩ : ∃ w8, w7.alloc (.cells #[.int .u32 0, .int .i64 0, .int .i64 0, .int .i64 0, .int .i64 0] 26) = w8 := ⟨_, rfl⟩
    rw [hw8] at HBz
    simp only [hw8]
    clear hw8 HBv
    generalize w7.heap.size = V at *
    have Hd := Lib.hid (dec_any ao n cap l w8 Hl.out.1 Hl.out.2.1 (by have := Hl.out; omega) (Hr.out _ HBz.out))
    rw [show decV (decM l) = .tuple #[.agg #[.int .u32 ((decM l).getD default).seq, .int .i64 ((decM l).getD default).b0, .int .i64 ((decM l).getD default).b1, .int .i64 ((decM l).getD default).act, .int .i64 ((decM l).getD default).tries], .int .i64 (if (decM l).isSome then 0 else 231)] from rfl] at Hd
    cases hdl : decM l with
    | none =>
      rw [hdl] at Hd
      rw [show (none : Option Me).getD default = ⟨0, 0, 0, 0, 0⟩ from rfl, show (if (none : Option Me).isSome then (0 : Int) else 231) = 231 from rfl] at Hd
      dsimp only at Hd
      rw [show ((0 : Nat) : Int) = 0 from rfl] at Hd
      have hz := run_buildM0
      clear hdl
      go_wp2_with fail
      refine Hd.out.mono ?_
      rintro e wd ⟨rfl, hbd⟩
      have HZ := Lib.hid (HB.new wd mec0 26)
      have hbe := hbd.trans (((Below.refl wd.heap.size wd).alloc (Nat.le_refl _) (.cells mec0.toArray 26)).mono hbd.size)
      have HBe := Lib.hid (HBz.out.trans (hbe.mono HBz.out.size))
      obtain ⟨we, hwe⟩ : ∃ we, wd.alloc (.cells mec0.toArray 26) = we := ⟨_, rfl⟩
      rw [hwe] at HZ HBe
      have hwe' : wd.alloc (.cells #[.int .u32 0, .int .i64 0, .int .i64 0, .int .i64 0, .int .i64 0] 26) = we := hwe
      have Hwe := fun (_ : Unit) => Lib.hid hwe'
      obtain ⟨Z, hZ⟩ : ∃ Z, wd.heap.size = Z := ⟨_, rfl⟩
      rw [hZ] at HZ
      clear hbd hbe Hd hwe hwe'
      go_wp2_with fail
      rw [(Hwe ()).out]
      refine (alive_any _).mono ?_
      rintro e wf ⟨rfl, hbf⟩
      have hZf := HZ.out.later hbf
      have z0 : wf.cell? ⟨Z, 0, none⟩ = some (.int .u32 0) := hZf.cell (i := 0) rfl
      have z1 : wf.cell? ⟨Z, 1, none⟩ = some (.int .i64 0) := hZf.cell (i := 1) rfl
      have z2 : wf.cell? ⟨Z, 2, none⟩ = some (.int .i64 0) := hZf.cell (i := 2) rfl
      have z3 : wf.cell? ⟨Z, 3, none⟩ = some (.int .i64 0) := hZf.cell (i := 3) rfl
      have z4 : wf.cell? ⟨Z, 4, none⟩ = some (.int .i64 0) := hZf.cell (i := 4) rfl
      have HBf := Lib.hid (HBe.out.trans (hbf.mono HBe.out.size))
      have heq := fun w => me_equal ⟨0, 0, 0, 0, 0⟩ ⟨0, 0, 0, 0, 0⟩ w
      rw [decide_eq_true rfl] at heq
      dsimp only at heq
      rw [show ((0 : Nat) : Int) = 0 from rfl] at heq
      have hguard : Try.prog.eqGuardType Try.prog.depth 26 = false := by kernel_rfl
      clear hbf hZf HZ HBe Hwe
      go_wp2_with fail
      go_ret
      exact ⟨rfl, HBf.out⟩
    | some M =>
      obtain ⟨hln, hMr, hMl, -, hMs⟩ := dec_some hdl
      rw [hdl] at Hd
      rw [show (some M : Option Me).getD default = M from rfl, show (if (some M : Option Me).isSome then (0 : Int) else 231) = 0 from rfl] at Hd
      have HM := Lib.hid (And.intro hMr (And.intro hMl hMs))
      clear hdl hln hMr hMl hMs
      go_wp2_with fail
      refine Hd.out.mono ?_
      rintro e wd ⟨rfl, hbd⟩
      have HZ := Lib.hid (HB.new wd (mec M) 26)
      have hbe := hbd.trans (((Below.refl wd.heap.size wd).alloc (Nat.le_refl _) (.cells (mec M).toArray 26)).mono hbd.size)
      have HBe := Lib.hid (HBz.out.trans (hbe.mono HBz.out.size))
      obtain ⟨we, hwe⟩ : ∃ we, wd.alloc (.cells (mec M).toArray 26) = we := ⟨_, rfl⟩
      rw [hwe] at HZ HBe
      unfold mec at hwe
      obtain ⟨Z, hZ⟩ : ∃ Z, wd.heap.size = Z := ⟨_, rfl⟩
      rw [hZ] at HZ
      have hZ5 := Five.of HZ.out
      have z0 := hZ5.c0
      have z1 := hZ5.c1
      have z2 := hZ5.c2
      have z3 := hZ5.c3
      have z4 := hZ5.c4
      have Hen := Lib.hid (enc_ok M we HM.out.1 HM.out.2.2)
      unfold mev at Hen
      clear hbd hbe Hd hZ5
      go_wp2_with fail
      refine Hen.out.mono ?_
      rintro e wf ⟨gf, Cf, rfl, hCf, hof, hbf⟩
      have HBf := Lib.hid (HBe.out.trans (hbf.mono HBe.out.size))
      have Hof := Lib.hid hof
      clear hCf hof hbf Hen z0 z1 z2 z3 z4 hwe
      go_wp2_with fail
      refine (alive_any _).mono ?_
      rintro e wg ⟨rfl, hbg⟩
      have HBg := Lib.hid (HBf.out.trans (hbg.mono HBf.out.size))
      have hrg : Rd wg (some ⟨gf, 0, none⟩) l := by
        obtain ⟨a4, c4, he4, -, -, hr4⟩ := (Hof.out.later hbg).rd
        rw [encM_len] at he4
        cases he4
        rw [HM.out.2.1] at hr4
        exact hr4
      have hl512 : n = 512 := by rw [← Hl.out.1, ← HM.out.2.1, encM_len]
      have Hsm := Lib.hid (same_any (some ⟨gf, 0, none⟩) ao 512 n Cf cap l l wg (by rw [Hl.out.1, hl512]) Hl.out.1 (by decide) (by have := Hl.out; omega) hrg (Hr.out _ HBg.out))
      rw [decide_eq_true rfl] at Hsm
      clear hbg hrg hl512 Hof HBf HBe
      go_wp2_with fail
      refine Hsm.out.mono ?_
      rintro e wh ⟨rfl, hdh⟩
      have HBh := Lib.hid (HBg.out.trans (hdh.below _))
      clear hdh Hsm
      go_wp2_with fail
      go_ret
      exact ⟨rfl, HBh.out⟩
set_option maxRecDepth 100000 in
theorem walk {H : Type} (enc : TypeId × Value → H) (W : World) (base : Nat) (v0 : Value) (d0 : DataW H) (p0 : List MemPlace)
    (k0 : Value.okWide Try.prog W .any base 37 v0)
    (h0 : DataW.Trod enc Try.prog W 0 (fun _ => true) true 37 v0 d0 p0)
    (hsz : (DataW.weightsEach Try.prog [37] ([d0] ++ [])).all (· ≤ reachBytes) = true) :
    Calls Try.prog 4 #[v0] W fun e w' => e = .returned (.bool true) ∧ Below W.heap.size W w' := by
  obtain ⟨cs_, xs_, n_, rfl, hsz_, rfl, hxl_, hf_⟩ := open_struct Try.underlying37 k0 h0
  obtain ⟨b0, b1, b2, b3, b4, b5, b6, b7, rfl⟩ : ∃ b0 b1 b2 b3 b4 b5 b6 b7, cs_ = #[b0, b1, b2, b3, b4, b5, b6, b7] := by
    obtain ⟨l_⟩ := cs_
    have hl_ : l_.length = 8 := hsz_.trans (by kernel_rfl : Try.prog.cellsOf 37 = 8)
    match l_, hl_ with
    | [b0, b1, b2, b3, b4, b5, b6, b7], _ => exact ⟨b0, b1, b2, b3, b4, b5, b6, b7, rfl⟩
  obtain ⟨y0, y1, y2, y3, rfl⟩ := lst4 (hxl_.trans rfl)
  have k1 : Try.prog.cellsOf 26 = 5 := by kernel_rfl
  have k2 : Try.prog.cellsOf 27 = 1 := by kernel_rfl
  have k3 : Try.prog.cellsOf 3 = 1 := by kernel_rfl
  have k4 : Try.prog.cellsOf 5 = 1 := by kernel_rfl
  have g0 := hf_ 0 _ rfl
  have g1 := hf_ 1 _ rfl
  have g2 := hf_ 2 _ rfl
  have g3 := hf_ 3 _ rfl
  simp [k1, k2, k3, k4] at g0 g1 g2 g3
  simp only [List.cons_append, List.nil_append, DataW.weightsEach] at hsz
  obtain ⟨hz, -⟩ := all_app hsz
  simp only [DataW.weights, Try.underlying37, List.map_cons, List.map_nil, DataW.weightsEach] at hz
  obtain ⟨z0, hz⟩ := all_app hz
  obtain ⟨z1, hz⟩ := all_app hz
  obtain ⟨m, hm, hok⟩ := me_cells _ _ _ g0 rfl
  obtain ⟨ao, n, cap, l, rfl, hl, hn, hcap, hrd, -⟩ := trod_bytes Try.underlying27 Try.underlying5 (by kernel_rfl) (by kernel_rfl) g1 z1
  obtain ⟨a, rfl, ha, ha'⟩ := trod_i64 Try.underlying3 g2
  obtain ⟨c, rfl⟩ := trod_u8 Try.underlying5 g3
  simp only [mec, List.cons.injEq, and_true] at hm
  obtain ⟨rfl, rfl, rfl, rfl, rfl⟩ := hm
  exact core W m hok.s ao n cap l hl hn hcap hrd a ⟨ha, ha'⟩ c
end Go.Proofs.Ytnmeidmiijcniaa.fwuBack
