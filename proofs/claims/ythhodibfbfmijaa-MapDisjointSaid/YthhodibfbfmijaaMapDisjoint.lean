/- What is placed is pairwise apart: the walk. No condition. -/
import Derived.Test.YthhodibfbfmijaaMapPlans
import Derived.Test.YthhodibfbfmijaaMapJ
import Derived.StillTailTactics
namespace Go.Proofs.Ythhodibfbfmijaa.mapDisjoint
open Go.ChangeShapes Go.WideShapes Go.ChangeAt Go.RowKit
set_option linter.unusedVariables false
set_option linter.unusedSimpArgs false
/-- what a place that was given is -/
structure Good (L : List Rg) (t : Wt) (g : Rg) : Prop where
  b0 : 1073741824 ≤ g.base
  b1 : g.base + g.size ≤ 1073807360
  n0 : 0 < g.size
  n1 : g.size = t.n
  a0 : 0 < t.a
  a1 : t.a ≤ 65536
  al : g.base % t.a = 0
  r : g.r = true
  w : g.w = t.w
  x : g.x = t.x
  s : g.s = t.s
  wx : (g.w && g.x) = false
  fr : freeR L g.base g.size = true
theorem good_of {L : List Rg} {t : Wt} {g : Rg} (h : plW L t = (g, 0)) : Good L t g := by
  obtain ⟨_, he, m, _, hl, rfl⟩ := plW_info h
  obtain ⟨h1, h2, h3, h4, hp, hwx⟩ := wantE_ok he
  obtain ⟨d1, d2, d3⟩ := hl.1
  have hr := d2
  simp only [inR, decide_eq_true_eq] at hr
  exact ⟨hr.1, hr.2.2.2, hr.2.2.1, rfl, h3, h4, by rw [← off_mod (ram_mod hp h4) hr.1]; exact d1, rfl, rfl, rfl, rfl, hwx, d3⟩
theorem away_of {L : List Rg} {t : Wt} {g : Rg} (h : Good L t g) {y : Rg} (hy : y ∈ L) (hs : 0 < y.size) : awayN g.base g.size y.base y.size = true := by
  have := freeR_iff.1 h.fr y hy
  rw [awayN_ov h.n0 hs] at this
  simpa using this
theorem run_good {taken : List Rg} {l : List Wt} {n : Nat} {r : List Rg} (h : Run taken l n r) {i : Nat} {t : Wt} (hi : i < n) (ht : l[i]? = some t) : Good (taken ++ r.take i) t (gAt r i) := good_of (h.2 i t hi ht)
theorem gAt_take {r : List Rg} {i k : Nat} (hk : k < i) (hi : i ≤ r.length) : gAt r k ∈ r.take i := by
  have h1 : (r.take i)[k]? = some (gAt r k) := by
    rw [List.getElem?_take_of_lt hk]
    unfold gAt
    rw [List.getElem?_eq_getElem (show k < r.length by omega)]; rfl
  exact List.mem_of_getElem? h1
theorem run_check {l : List Wt} {n : Nat} {r : List Rg} (h : Run [] l n r) (hn : n ≤ l.length) (hf : r.length ≤ 16) : ckE r = 0 := by
  refine ckE_all (by omega) fun i hi => ?_
  obtain ⟨t, ht⟩ : ∃ t, l[i]? = some t := ⟨_, List.getElem?_eq_getElem (show i < l.length by have := h.1; omega)⟩
  have hg := run_good h (by rw [← h.1]; exact hi) ht
  have h1 : inR (gAt r i).base (gAt r i).size = true := by
    have := hg.b0; have := hg.b1; have := hg.n0
    simp only [inR, decide_eq_true_eq]; omega
  have h2 := hg.fr
  rw [List.nil_append] at h2
  unfold ckAt
  rw [h1, hg.wx, h2]
  rfl
structure OutIn (W3 : World) (m : Nat) (i : Value) (wr : World) : Prop where
  x : ∃ k : Nat, k ≤ m ∧ i = .int .i64 k ∧ Below W3.heap.size W3 wr
structure In1 (i : Nat) (W : World) (v : Value) (wr : World) : Prop where
  x : ∃ j : Nat, j ≤ i ∧ v = .int .i64 j ∧ Below W.heap.size W wr
set_option maxRecDepth 100000 in
set_option maxHeartbeats 4000000 in
theorem core (w : World) (ao bo : Option Addr) (len cap m cb : Nat) (taken : List Rg) (l : List Wt) (hl : taken.length = len) (hlc : len ≤ cap) (hcap : cap * 24 ≤ 140737488351232) (hr : RdG w ao taken) (hc : ao = none → cap = 0) (hok : RgsOk taken)
    (hm : l.length = m) (hmb : m ≤ 140737488351232) (hrw : RdS wcells 6 w bo l) (hwok : ∀ t ∈ l, t.Ok) :
    Calls Try.prog 8 #[.slice ao len cap, .slice bo m cb] w fun e w' => e = .returned (.bool true) ∧ Below w.heap.size w w' := by
  have HP := fun w' h h2 => Lib.hid (plan_any ao bo len m cap cb taken l w' hl (by omega) hc h hok hm hmb h2 hwok)
  have Hhc := Lib.hid hc
  clear hc
  have Hhok := Lib.hid hok
  clear hok
  have Hhm := Lib.hid hm
  clear hm
  have Hhl := Lib.hid hl
  clear hl
  go_enter Try.func8, Try.ntmps8
  go_wp2_with fail
  refine (awake_any _).mono ?_
  rintro e w1 ⟨rfl, hB1⟩
  go_wp2_with fail
  refine (HP _ (hr.below hB1) (hrw.below hB1)).out.mono ?_
  rintro e w3 ⟨v, r, k, E, rfl, hov, hres, hb3⟩
  have hB3 := hB1.trans (hb3.mono hB1.size)
  obtain ⟨vo, vc, rfl, hvc0, hvc, hrv⟩ := hov.rd
  have hrl := hres.few
  clear hb3 hB1 hov HP
  by_cases hE : E = 0
  · subst hE
    have hrun : k = m ∧ Run taken l m r := by
      rcases hres with ⟨_, h1, h2⟩ | ⟨h, _⟩
      · rw [Hhm.out] at h1; subst h1; exact ⟨rfl, h2⟩
      · exact absurd rfl h
    obtain ⟨rfl, hrun⟩ := hrun
    have Hrun := Lib.hid hrun
    have hrlen := Lib.hid hrun.1
    clear hrun hres
    rw [hrlen.out] at hvc0 hrl ⊢
    go_wp2_with fail
    go_loopw [9, 10, 11, 12, 13, 14, 15] (fun i _ _ _ _ _ _ wr => OutIn w3 k i wr) (fun i _ _ _ _ _ _ _ => k - (intOf i).toNat)
    case atStart => exact ⟨0, by omega, rfl, Below.refl _ _⟩
    case round =>
      obtain ⟨i, hi, rfl, hbr⟩ := hrel
      have hBr := hB3.trans (hbr.mono hB3.size)
      by_cases hlt : i < k
      · obtain ⟨tt, ht⟩ : ∃ tt, l[i]? = some tt := ⟨_, List.getElem?_eq_getElem (show i < l.length by have := Hhm.out; omega)⟩
        have hgd := run_good Hrun.out hlt ht
        have hmem : Hid (∀ j, j < i → 0 < (gAt r j).size → awayN (gAt r i).base (gAt r i).size (gAt r j).base (gAt r j).size = true) := Lib.hid fun j hj h0 =>
          away_of hgd (List.mem_append_right _ (gAt_take hj (by have := hrlen.out; omega))) h0
        have hmemT : Hid (∀ j, j < taken.length → 0 < (gAt taken j).size → awayN (gAt r i).base (gAt r i).size (gAt taken j).base (gAt taken j).size = true) := Lib.hid fun j hj h0 =>
          away_of hgd (List.mem_append_left _ (gAt_mem hj)) h0
        have hall : Hid (∀ j, j < k → 0 < (gAt r j).size ∧ (gAt r j).base < 18446744073709551616) := Lib.hid fun j hj => by
          obtain ⟨tj, htj⟩ : ∃ tt, l[j]? = some tt := ⟨_, List.getElem?_eq_getElem (show j < l.length by have := Hhm.out; omega)⟩
          have hj' := run_good Hrun.out hj htj
          exact ⟨hj'.n0, by have := hj'.b1; omega⟩
        obtain ⟨gb', go', hge, -, hgc⟩ := (hrv.below hbr) i (by have := hrlen.out; omega)
        subst hge
        obtain ⟨x, off, rfl, hx, hcw⟩ := hrw i tt ht
        have hcell := fun o q v hq => ((hBr.alloc hBr.size o).cell (p := ⟨x, off + i * 6 + q, none⟩) hx).trans (hcw q v hq)
        have d0 := fun o => hcell o 0 _ rfl
        have d1 := fun o => hcell o 1 _ rfl
        have d2 := fun o => hcell o 2 _ rfl
        have d3 := fun o => hcell o 3 _ rfl
        have d4 := fun o => hcell o 4 _ rfl
        have d5 := fun o => hcell o 5 _ rfl
        have c0 := hgc 0 _ rfl
        have c1 := hgc 1 _ rfl
        have c2 := hgc 2 _ rfl
        have c3 := hgc 3 _ rfl
        have c4 := hgc 4 _ rfl
        have c5 := hgc 5 _ rfl
        simp only [Nat.add_zero] at c0 d0
        clear hcw hcell hgc ht
        generalize gAt r i = g at *
        obtain ⟨gb, gn, gr, gw, gx, gs⟩ := g
        obtain ⟨ti, tn, ta, ts, tw, tx⟩ := tt
        obtain ⟨M0, M1, M2, e1, M4, M5, M6, e2, e3, e4, e5, hwx, -⟩ := hgd
        simp only at M0 M1 M2 e1 M4 M5 M6 e2 e3 e4 e5 hwx c0 c1 c2 c3 c4 c5 d0 d1 d2 d3 d4 d5 hmem hmemT
        subst e1
        subst e2
        subst e3
        subst e4
        subst e5
        have hg64 : gb < 18446744073709551616 := by omega
        have hme : (gb : Int) % (ta : Int) = 0 := by omega
        have hmt : (gb : Int).tmod (ta : Int) = 0 := by rw [Int.tmod_eq_emod_of_nonneg (by omega)]; exact hme
        have I0 : (1073741824 : Int) ≤ (gb : Int) := by omega
        have I1 : (gb : Int) + gn ≤ 1073807360 := by omega
        obtain ⟨M, hM⟩ : ∃ M : Int, (gb : Int) = M := ⟨_, rfl⟩
        rw [hM] at c0 hme hmt I0 I1
        have hM := Lib.hid hM
        have I2 : (gn : Int) ≤ 65536 - (M - 1073741824) := by omega
        have tz1 : ((gn : Int) == 0) = false := by rw [beq_eq_false_iff_ne]; omega
        have tz2 : ((ta : Int) == 0) = false := by rw [beq_eq_false_iff_ne]; omega
        clear M0 M1 M6
        have e0 : (0 : Int) ≤ (i : Int) := by omega
        have e1 : (i : Int) < (k : Int) := by omega
        have HX1 := Blk.new wr [.int .u64 M, .int .u64 gn, .bool true, .bool gw, .bool gx, .bool gs] 30
        have HX := Lib.hid (HX1.alloc (.cells #[.int .i64 ti, .int .u64 gn, .int .u64 ta, .bool gs, .bool gw, .bool gx] 26))
        have HB5 := Lib.hid ((hbr.alloc hbr.size (.cells #[.int .u64 M, .int .u64 gn, .bool true, .bool gw, .bool gx, .bool gs] 30)).alloc (by have := hbr.size; simp; omega) (.cells #[.int .i64 ti, .int .u64 gn, .int .u64 ta, .bool gs, .bool gw, .bool gx] 26))
        clear HX1
        cases gw
        · clear hwx
          go_wp2_with fail
          generalize World.alloc _ _ = w5 at *
          have hx10 : wr.heap.size < w5.heap.size := HX.out.1
          obtain ⟨p10, hp10⟩ : ∃ p10, wr.heap.size = p10 := ⟨_, rfl⟩
          rw [hp10] at HX ⊢
          clear hp10 c0 c1 c2 c3 c4 c5 d0 d1 d2 d3 d4 d5
          go_loopw [12, 13] (fun v _ wr' => In1 i w5 v wr') (fun v _ _ => i - (intOf v).toNat)
          case atStart => exact ⟨0, by omega, rfl, Below.refl _ _⟩
          case round =>
            obtain ⟨j, hj, rfl, hbj⟩ := hrel
            have hXj := HX.out.below hbj
            obtain ⟨⟨b0, b1, b2, b3, b4, b5⟩, -⟩ := hXj.six
            have hB5j := HB5.out.trans (hbj.mono HB5.out.size)
            have hBj := hB3.trans (hB5j.mono hB3.size)
            by_cases hji : j < i
            · obtain ⟨yb, yo, hye, -, hyc⟩ := (hrv.below hB5j) j (by have := hrlen.out; omega)
              cases hye
              have y0 := hyc 0 _ rfl
              have y1 := hyc 1 _ rfl
              have y2 := hyc 2 _ rfl
              have y3 := hyc 3 _ rfl
              have y4 := hyc 4 _ rfl
              have y5 := hyc 5 _ rfl
              simp only [Nat.add_zero] at y0
              clear hyc
              have hyg := hall.out j (by omega)
              have hya := hmem.out j hji hyg.1
              have hap := fun w' => Lib.hid (apart_any ⟨gb, gn, true, false, gx, gs⟩ (gAt r j) w' hg64 hyg.2)
              rw [hya] at hap
              clear hya hyg
              unfold rgv at hap
              rw [hM.out] at hap
              generalize gAt r j = y at *
              have e0 : (0 : Int) ≤ (j : Int) := by omega
              have e1 : (j : Int) < (k : Int) := by omega
              go_wp2_with fail
              go_still_tail 5, (by kernel_rfl)
              go_wp2_with fail
              refine (hap _).out.mono ?_
              rintro e w' ⟨rfl, hb'⟩
              have hbj3 := hbj.trans (hb'.undrew.mono hbj.size)
              clear hb' y0 y1 y2 y3 y4 y5 b0 b1 b2 b3 b4 b5 hap
              go_wp2_with fail
              first
              | (go_roundw
                 case rel => exact ⟨j + 1, by omega, by go_num, hbj3⟩
                 case measure => (first | omega | (simp [intOf] <;> omega) | (simp only [intOf] <;> omega)))
              | exact ⟨⟨j + 1, by omega, by go_num, hbj3⟩, by (first | omega | (simp [intOf] <;> omega) | (simp only [intOf] <;> omega))⟩
              | (refine ⟨?_, by (first | omega | (simp [intOf] <;> omega) | (simp only [intOf] <;> omega))⟩
                 (repeat apply Exists.intro)
                 refine (fun a b => And.intro b a) ?_ ?_
                 · first | rfl | ((repeat refine ⟨rfl, ?_⟩); rfl)
                 exact ⟨j + 1, by omega, by go_num, hbj3⟩)
            · go_wp2_with fail
              go_loopw [14, 15] (fun v _ wr' => In1 len w5 v wr') (fun v _ _ => len - (intOf v).toNat)
              case atStart => exact ⟨0, by omega, rfl, hbj⟩
              case round =>
                clear hbj hB5j hBj hXj b0 b1 b2 b3 b4 b5 hji hj
                obtain ⟨j, hj, rfl, hbj⟩ := hrel
                have hXj := HX.out.below hbj
                obtain ⟨⟨b0, b1, b2, b3, b4, b5⟩, -⟩ := hXj.six
                have hB5j := HB5.out.trans (hbj.mono HB5.out.size)
                have hBj := hB3.trans (hB5j.mono hB3.size)
                by_cases hji : j < len
                · obtain ⟨yb, yo, rfl, -, hyc⟩ := (hr.below hBj) j (by have := Hhl.out; omega)
                  have y0 := hyc 0 _ rfl
                  have y1 := hyc 1 _ rfl
                  have y2 := hyc 2 _ rfl
                  have y3 := hyc 3 _ rfl
                  have y4 := hyc 4 _ rfl
                  have y5 := hyc 5 _ rfl
                  simp only [Nat.add_zero] at y0
                  clear hyc
                  have hyg := Hhok.out _ (gAt_mem (show j < taken.length by have := Hhl.out; omega))
                  have hya := Lib.hid (hmemT.out j (show j < taken.length by have := Hhl.out; omega))
                  have hap := fun w' => Lib.hid (apart_any ⟨gb, gn, true, false, gx, gs⟩ (gAt taken j) w' hg64 hyg.1)
                  unfold rgv at hap
                  rw [hM.out] at hap
                  clear hyg
                  generalize gAt taken j = y at *
                  obtain ⟨yyb, yyn, yyr, yyw, yyx, yys⟩ := y
                  simp only at hap
                  have e0 : (0 : Int) ≤ (j : Int) := by omega
                  have e1 : (j : Int) < (len : Int) := by omega
                  by_cases hyn : yyn = 0
                  · subst hyn
                    clear hap hya
                    go_wp2_with fail
                    go_quiet (fail)
                    go_wp2_with fail
                    go_roundw
                    case rel => exact ⟨j + 1, by omega, by go_num, hbj.trans (Drn.below ⟨_, rfl⟩ _)⟩
                    case measure => simp [intOf]; omega
                  · have tn0 : ((yyn : Int) == 0) = false := by rw [beq_eq_false_iff_ne]; omega
                    have hya2 := hya.out (by simp only; omega)
                    simp only at hya2
                    rw [hya2] at hap
                    clear hya hya2 hyn
                    go_wp2_with fail
                    go_still_tail 12, (by kernel_rfl)
                    go_wp2_with fail
                    refine (hap _).out.mono ?_
                    rintro e w' ⟨rfl, hb'⟩
                    have hbj3 := hbj.trans (hb'.undrew.mono hbj.size)
                    clear hb' y0 y1 y2 y3 y4 y5 b0 b1 b2 b3 b4 b5 hap
                    go_wp2_with fail
                    first
                    | (go_roundw
                       case rel => exact ⟨j + 1, by omega, by go_num, hbj3⟩
                       case measure => (first | omega | (simp [intOf] <;> omega) | (simp only [intOf] <;> omega)))
                    | exact ⟨⟨j + 1, by omega, by go_num, hbj3⟩, by (first | omega | (simp [intOf] <;> omega) | (simp only [intOf] <;> omega))⟩
                    | (refine ⟨?_, by (first | omega | (simp [intOf] <;> omega) | (simp only [intOf] <;> omega))⟩
                       (repeat apply Exists.intro)
                       refine (fun a b => And.intro b a) ?_ ?_
                       · first | rfl | ((repeat refine ⟨rfl, ?_⟩); rfl)
                       exact ⟨j + 1, by omega, by go_num, hbj3⟩)
                · go_wp2_with fail
                  first
                  | (go_roundw
                     case rel => exact ⟨i + 1, by omega, by go_num, hB5j⟩
                     case measure => (first | omega | (simp [intOf] <;> omega) | (simp only [intOf] <;> omega)))
                  | exact ⟨⟨i + 1, by omega, by go_num, hB5j⟩, by (first | omega | (simp [intOf] <;> omega) | (simp only [intOf] <;> omega))⟩
                  | (refine ⟨?_, by (first | omega | (simp [intOf] <;> omega) | (simp only [intOf] <;> omega))⟩
                     (repeat apply Exists.intro)
                     refine (fun a b => And.intro b a) ?_ ?_
                     · first | rfl | ((repeat refine ⟨rfl, ?_⟩); rfl)
                     exact ⟨i + 1, by omega, by go_num, hB5j⟩)
        · obtain rfl : gx = false := by simpa using hwx
          clear hwx
          go_wp2_with fail
          generalize World.alloc _ _ = w5 at *
          have hx10 : wr.heap.size < w5.heap.size := HX.out.1
          obtain ⟨p10, hp10⟩ : ∃ p10, wr.heap.size = p10 := ⟨_, rfl⟩
          rw [hp10] at HX ⊢
          clear hp10 c0 c1 c2 c3 c4 c5 d0 d1 d2 d3 d4 d5
          go_loopw [12, 13] (fun v _ wr' => In1 i w5 v wr') (fun v _ _ => i - (intOf v).toNat)
          case atStart => exact ⟨0, by omega, rfl, Below.refl _ _⟩
          case round =>
            obtain ⟨j, hj, rfl, hbj⟩ := hrel
            have hXj := HX.out.below hbj
            obtain ⟨⟨b0, b1, b2, b3, b4, b5⟩, -⟩ := hXj.six
            have hB5j := HB5.out.trans (hbj.mono HB5.out.size)
            have hBj := hB3.trans (hB5j.mono hB3.size)
            by_cases hji : j < i
            · obtain ⟨yb, yo, hye, -, hyc⟩ := (hrv.below hB5j) j (by have := hrlen.out; omega)
              cases hye
              have y0 := hyc 0 _ rfl
              have y1 := hyc 1 _ rfl
              have y2 := hyc 2 _ rfl
              have y3 := hyc 3 _ rfl
              have y4 := hyc 4 _ rfl
              have y5 := hyc 5 _ rfl
              simp only [Nat.add_zero] at y0
              clear hyc
              have hyg := hall.out j (by omega)
              have hya := hmem.out j hji hyg.1
              have hap := fun w' => Lib.hid (apart_any ⟨gb, gn, true, true, false, gs⟩ (gAt r j) w' hg64 hyg.2)
              rw [hya] at hap
              clear hya hyg
              unfold rgv at hap
              rw [hM.out] at hap
              generalize gAt r j = y at *
              have e0 : (0 : Int) ≤ (j : Int) := by omega
              have e1 : (j : Int) < (k : Int) := by omega
              go_wp2_with fail
              go_still_tail 5, (by kernel_rfl)
              go_wp2_with fail
              refine (hap _).out.mono ?_
              rintro e w' ⟨rfl, hb'⟩
              have hbj3 := hbj.trans (hb'.undrew.mono hbj.size)
              clear hb' y0 y1 y2 y3 y4 y5 b0 b1 b2 b3 b4 b5 hap
              go_wp2_with fail
              first
              | (go_roundw
                 case rel => exact ⟨j + 1, by omega, by go_num, hbj3⟩
                 case measure => (first | omega | (simp [intOf] <;> omega) | (simp only [intOf] <;> omega)))
              | exact ⟨⟨j + 1, by omega, by go_num, hbj3⟩, by (first | omega | (simp [intOf] <;> omega) | (simp only [intOf] <;> omega))⟩
              | (refine ⟨?_, by (first | omega | (simp [intOf] <;> omega) | (simp only [intOf] <;> omega))⟩
                 (repeat apply Exists.intro)
                 refine (fun a b => And.intro b a) ?_ ?_
                 · first | rfl | ((repeat refine ⟨rfl, ?_⟩); rfl)
                 exact ⟨j + 1, by omega, by go_num, hbj3⟩)
            · go_wp2_with fail
              go_loopw [14, 15] (fun v _ wr' => In1 len w5 v wr') (fun v _ _ => len - (intOf v).toNat)
              case atStart => exact ⟨0, by omega, rfl, hbj⟩
              case round =>
                clear hbj hB5j hBj hXj b0 b1 b2 b3 b4 b5 hji hj
                obtain ⟨j, hj, rfl, hbj⟩ := hrel
                have hXj := HX.out.below hbj
                obtain ⟨⟨b0, b1, b2, b3, b4, b5⟩, -⟩ := hXj.six
                have hB5j := HB5.out.trans (hbj.mono HB5.out.size)
                have hBj := hB3.trans (hB5j.mono hB3.size)
                by_cases hji : j < len
                · obtain ⟨yb, yo, rfl, -, hyc⟩ := (hr.below hBj) j (by have := Hhl.out; omega)
                  have y0 := hyc 0 _ rfl
                  have y1 := hyc 1 _ rfl
                  have y2 := hyc 2 _ rfl
                  have y3 := hyc 3 _ rfl
                  have y4 := hyc 4 _ rfl
                  have y5 := hyc 5 _ rfl
                  simp only [Nat.add_zero] at y0
                  clear hyc
                  have hyg := Hhok.out _ (gAt_mem (show j < taken.length by have := Hhl.out; omega))
                  have hya := Lib.hid (hmemT.out j (show j < taken.length by have := Hhl.out; omega))
                  have hap := fun w' => Lib.hid (apart_any ⟨gb, gn, true, true, false, gs⟩ (gAt taken j) w' hg64 hyg.1)
                  unfold rgv at hap
                  rw [hM.out] at hap
                  clear hyg
                  generalize gAt taken j = y at *
                  obtain ⟨yyb, yyn, yyr, yyw, yyx, yys⟩ := y
                  simp only at hap
                  have e0 : (0 : Int) ≤ (j : Int) := by omega
                  have e1 : (j : Int) < (len : Int) := by omega
                  by_cases hyn : yyn = 0
                  · subst hyn
                    clear hap hya
                    go_wp2_with fail
                    go_quiet (fail)
                    go_wp2_with fail
                    go_roundw
                    case rel => exact ⟨j + 1, by omega, by go_num, hbj.trans (Drn.below ⟨_, rfl⟩ _)⟩
                    case measure => simp [intOf]; omega
                  · have tn0 : ((yyn : Int) == 0) = false := by rw [beq_eq_false_iff_ne]; omega
                    have hya2 := hya.out (by simp only; omega)
                    simp only at hya2
                    rw [hya2] at hap
                    clear hya hya2 hyn
                    go_wp2_with fail
                    go_still_tail 12, (by kernel_rfl)
                    go_wp2_with fail
                    refine (hap _).out.mono ?_
                    rintro e w' ⟨rfl, hb'⟩
                    have hbj3 := hbj.trans (hb'.undrew.mono hbj.size)
                    clear hb' y0 y1 y2 y3 y4 y5 b0 b1 b2 b3 b4 b5 hap
                    go_wp2_with fail
                    first
                    | (go_roundw
                       case rel => exact ⟨j + 1, by omega, by go_num, hbj3⟩
                       case measure => (first | omega | (simp [intOf] <;> omega) | (simp only [intOf] <;> omega)))
                    | exact ⟨⟨j + 1, by omega, by go_num, hbj3⟩, by (first | omega | (simp [intOf] <;> omega) | (simp only [intOf] <;> omega))⟩
                    | (refine ⟨?_, by (first | omega | (simp [intOf] <;> omega) | (simp only [intOf] <;> omega))⟩
                       (repeat apply Exists.intro)
                       refine (fun a b => And.intro b a) ?_ ?_
                       · first | rfl | ((repeat refine ⟨rfl, ?_⟩); rfl)
                       exact ⟨j + 1, by omega, by go_num, hbj3⟩)
                · go_wp2_with fail
                  first
                  | (go_roundw
                     case rel => exact ⟨i + 1, by omega, by go_num, hB5j⟩
                     case measure => (first | omega | (simp [intOf] <;> omega) | (simp only [intOf] <;> omega)))
                  | exact ⟨⟨i + 1, by omega, by go_num, hB5j⟩, by (first | omega | (simp [intOf] <;> omega) | (simp only [intOf] <;> omega))⟩
                  | (refine ⟨?_, by (first | omega | (simp [intOf] <;> omega) | (simp only [intOf] <;> omega))⟩
                     (repeat apply Exists.intro)
                     refine (fun a b => And.intro b a) ?_ ?_
                     · first | rfl | ((repeat refine ⟨rfl, ?_⟩); rfl)
                     exact ⟨i + 1, by omega, by go_num, hB5j⟩)
      · obtain rfl : i = k := by omega
        by_cases hl0 : 0 < len
        · go_wp2_with fail
          go_ret
          exact ⟨rfl, hBr⟩
        · have ht0 : taken = [] := List.eq_nil_of_length_eq_zero (by have := Hhl.out; omega)
          have hrok : RgsOk r := by
            have := Hrun.out.ok (by rw [Hhm.out]; exact Nat.le_refl _) Hhok.out
            rw [ht0, List.nil_append] at this; exact this
          have hck := check_any vo i vc r wr hrlen.out hvc0 (by omega) (hrv.below hbr) hrok
          have hE0 : ckE r = 0 := run_check (by rw [← ht0]; exact Hrun.out) (by rw [Hhm.out]; exact Nat.le_refl _) (by rw [hrlen.out]; exact hrl)
          rw [hE0] at hck
          have Hck := Lib.hid hck
          obtain rfl : len = 0 := by omega
          clear hck hE0 hrok ht0
          go_wp2_with fail
          refine Hck.out.mono ?_
          rintro e w9 ⟨rfl, hb9⟩
          have hB9 := hBr.trans (hb9.mono hBr.size)
          clear hb9 Hck
          go_wp2_with fail
          go_ret
          exact ⟨rfl, hB9⟩
  · have hres2 : r = [] ∧ k < m := by
      rcases hres with ⟨h, _⟩ | ⟨_, h1, o, t, h2, _⟩
      · exact absurd h hE
      · exact ⟨h1, by rw [← Hhm.out]; exact (List.getElem?_eq_some_iff.1 h2).1⟩
    obtain ⟨rfl, hkm⟩ := hres2
    have t1 : (E == 0) = false := beq_eq_false_iff_ne.2 hE
    have t2 : (E != 0) = true := bne_iff_ne.2 hE
    clear hE hres
    simp only [List.length_nil]
    go_wp2_with fail
    go_ret
    exact ⟨rfl, hB3⟩
theorem walk {H : Type} (enc : TypeId × Value → H) (W : World) (base : Nat) (v0 : Value) (d0 : DataW H) (p0 : List MemPlace) (v1 : Value) (d1 : DataW H) (p1 : List MemPlace)
    (k0 : Value.okWide Try.prog W .any base 22 v0) (k1 : Value.okWide Try.prog W .any base 39 v1)
    (h0 : DataW.Trod enc Try.prog W 0 (fun _ => true) true 22 v0 d0 p0) (h1 : DataW.Trod enc Try.prog W 0 (fun _ => true) true 39 v1 d1 p1)
    (hsz : (DataW.weightsEach Try.prog [22, 39] ([d0, d1] ++ [])).all (· ≤ reachBytes) = true) :
    Calls Try.prog 8 #[v0, v1] W fun e w' => e = .returned (.bool true) ∧ Below W.heap.size W w' := by
  simp only [DataW.weightsEach, List.cons_append, List.nil_append] at hsz
  obtain ⟨z0, zz⟩ := all_app hsz
  obtain ⟨z1, _⟩ := all_app zz
  obtain ⟨ao, len, cap, l, rfl, hl, hlc, hcap, hr, hc, hok⟩ := open_regions k0 h0 z0
  obtain ⟨bo, m, cb, ws, rfl, hm, hmc, hcb, hrw, hcw, hwok⟩ := open_wants k1 h1 z1
  exact core W ao bo len cap m cb l ws hl hlc hcap hr hc hok hm (by omega) hrw hwok
end Go.Proofs.Ythhodibfbfmijaa.mapDisjoint
