/- The bytes of an image, and whether two tables are one: the document's. No condition. -/
import Derived.Test.YtefkmlfpdlnodaaFipT
import Derived.Test.YtefkmlfpdlnodaaFipI
import Derived.Test.YtefkmlfpdlnodaaSameN
import Derived.Test.YtefkmlfpdlnodaaFipB
import Derived.Deep.RegionLaw
set_option linter.unusedVariables false
set_option linter.unusedSimpArgs false
namespace Go.Proofs.Ytefkmlfpdlnodaa
open Go.RowKit
attribute [local go_sem ↓] build_en store_en load_en load_gu store_gu build_gu bs_en bs_gu
structure RIxIn (B gb : Nat) (g : Gu) (v : Value) (es : List En) (W : World) (i : Value) (wr : World) : Prop where
  x : ∃ k : Nat, k ≤ es.length ∧ i = .int .i64 k ∧ (∀ x ∈ es.take k, x.id ≠ g) ∧ HB wr gb 30 (guc g) ∧ OwnS enc 32 19 wr B v es ∧ Below B W wr ∧ B ≤ wr.heap.size
theorem find_at {es : List En} {k : Nat} {y : En} {g : Gu} (hy : es[k]? = some y) (hno : ∀ x ∈ es.take k, x.id ≠ g) (hi : y.id = g) : es.find? (fun x => decide (x.id = g)) = some y := by
  have h1 := List.getElem?_eq_some_iff.1 hy
  have h2 : es = es.take k ++ (y :: es.drop (k + 1)) := by
    rw [← h1.2, ← List.drop_eq_getElem_cons h1.1, List.take_append_drop]
  rw [h2, List.find?_append]
  have h3 : (es.take k).find? (fun x => decide (x.id = g)) = none := List.find?_eq_none.2 (fun x hx => by simp [hno x hx])
  rw [h3, List.find?_cons, decide_eq_true hi]; rfl
set_option maxRecDepth 100000 in
set_option maxHeartbeats 1000000 in
theorem rimage_any (ao : Option Addr) (n cap : Nat) (l : List UInt8) (g : Gu) (w : World) (hl : l.length = n) (hcap : n ≤ cap) (hcm : n ≤ 140737488351232) (hcz : ao = none → cap = 0) (hr : Rd w ao l) :
    Calls Try.prog 15 #[.slice ao n cap, .agg (guc g).toArray] w fun e w' => ∃ v, e = .returned (.tuple #[v, .int .i64 (imageR l g).2]) ∧ Own 5 w' w.heap.size v (imageR l g).1 ∧ Below w.heap.size w w' := by
  have hb0 := (Below.refl w.heap.size w).alloc (Nat.le_refl _) (.cells (guc g).toArray 30)
  have Hb0 := Lib.hid hb0
  have Hr0 := Lib.hid (hr.below hb0)
  have HG0 := Lib.hid (HB.new w (guc g) 30)
  have Hop := Lib.hid (ropen_any ao n cap l _ hl hcap hcm Hr0.out)
  have Hrw := Lib.hid hr
  have Hl := Lib.hid hl
  have Hcap := Lib.hid hcap
  have Hcz := Lib.hid hcz
  have Hs0 : Hid (w.heap.size ≤ (w.alloc (.cells (guc g).toArray 30)).heap.size) := Lib.hid hb0.size
  clear hb0 hr hl hcap hcm hcz
  go_enter Try.func15, Try.ntmps15
  go_wp2_with fail
  as_aux_lemma =>
  generalize w.alloc (.cells (guc g).toArray 30) = w1 at *
  obtain ⟨gb, hgb⟩ : ∃ gb, w.heap.size = gb := ⟨_, rfl⟩
  rw [hgb] at HG0 ⊢
  obtain ⟨B, hB⟩ : ∃ B, w.heap.size = B := ⟨_, rfl⟩
  rw [hB] at Hb0 Hs0
  have HBx := Lib.hid hB
  clear hgb
  refine Hop.out.mono ?_
  rintro e w2 ⟨v, rfl, hsaid, hb2⟩
  have Hb2 := Lib.hid (Hb0.out.trans (hb2.mono Hs0.out))
  have Hr2 := Lib.hid (Hr0.out.below hb2)
  have HG2 := Lib.hid (HG0.out.later hb2)
  have Hs2 : Hid (B ≤ w2.heap.size) := Lib.hid (Nat.le_trans Hs0.out hb2.size)
  rcases hsaid.x with ⟨es, hes, hown⟩ | ⟨hno, rfl⟩
  case inr =>
    have htr : openR l = (none, (openR l).2) := Prod.ext hno rfl
    have hres := Lib.hid (imageR_none htr g)
    have hne := openR_fail htr
    generalize (openR l).2 = c at *
    have e3 : (c == 0) = false := beq_eq_false_iff_ne.2 hne
    have e4 : (c != 0) = true := by rw [bne, e3]; rfl
    clear hno htr hne hsaid hb2 hB
    go_wp2_with fail
    go_ret2
    exact ⟨.slice none 0 0, by rw [hres.out]; rfl, by rw [hres.out]; exact Own.nil _ _ _, by rw [HBx.out]; exact Hb2.out⟩
  have htr : openR l = (some es, (openR l).2) := Prod.ext hes rfl
  have h00 := (openR_some htr).1
  have Hop2 := Lib.hid htr
  rw [h00]
  have HO2 := Lib.hid (hown.mono Hs0.out)
  obtain ⟨ao2, cp, rfl, hcp, hcm2, -, -⟩ := HO2.out.rd enc_len
  have h32 : es.length ≤ 32 := by
    obtain ⟨_, _, _, e, ht, _⟩ := openR_some htr
    exact (tabR_ok ht).2.1
  have H32 := Lib.hid h32
  clear hes htr h00 hown hsaid hb2 h32 hcp hcm2 hB
  go_wp2_with fail
  go_loopw [8] (fun i wr => RIxIn B gb g (.slice ao2 es.length cp) es w i wr) (fun i _ => es.length - (intOf i).toNat)
  case atStart => exact ⟨0, by omega, rfl, (fun x hx => by simp at hx), HG2.out, HO2.out, Hb2.out, Hs2.out⟩
  case round =>
    as_aux_lemma =>
    clear HG2 HO2 Hb2 Hs2 Hr2 Hr0 HG0 Hb0 Hs0 Hop
    obtain ⟨k, hk, rfl, hno, hg, ho, hb, hs⟩ := hrel
    have HO := Lib.hid ho
    have HG := Lib.hid hg
    have Hb := Lib.hid hb
    have Hs := Lib.hid hs
    have Hno := Lib.hid hno
    clear ho hg hb hno hs
    by_cases hlt : k < es.length
    · obtain ⟨y, hy⟩ : ∃ y, es[k]? = some y := ⟨_, List.getElem?_eq_getElem hlt⟩
      obtain ⟨gx, hao⟩ : ∃ g, ao2 = some ⟨g, 0, none⟩ := by
        rcases HO.out.cases enc_len with ⟨_, h⟩ | ⟨g, _, h, _⟩
        · rw [h] at hlt; simp at hlt
        · cases h; exact ⟨g, rfl⟩
      subst hao
      have hl1 := run_loadGu (rangeEnGu (HO.out.range hy))
      have hl1d := fun m => run_loadGu (rangeEnGu ((HO.out.drn (⟨m, rfl⟩ : Drn wr (wr.drewN m))).range hy))
      have hl2 := run_loadGu HG.out.whole
      have hl2d := fun m => run_loadGu (HG.out.drn (⟨m, rfl⟩ : Drn wr (wr.drewN m))).whole
      have heq := fun w => gu_equal y.id g w
      have hgd : Try.prog.eqGuardType Try.prog.depth 30 = false := by kernel_rfl
      have f0 : (0 : Int) ≤ (k : Int) := by omega
      have f1 : (k : Int) < (es.length : Int) := by omega
      have f3 : (k : Int) < 32 := by have := H32.out; omega
      by_cases hi : y.id = g
      · have hf := find_at hy Hno.out hi
        have hres := Lib.hid (imageR_hit Hop2.out hf)
        rw [decide_eq_true hi] at heq
        obtain ⟨z1, z2, z3, z4, -⟩ := openR_fit Hop2.out (List.mem_of_getElem? hy)
        have hr0 := HO.out.range hy
        have c16 := hr0 16 _ (enc_off y)
        have c17 := hr0 17 _ (enc_sz y)
        have Hgl : Hid (gx < wr.heap.size) := Lib.hid (HO.out.blk enc_len gx rfl).2
        obtain ⟨so, hso⟩ : ∃ so, y.off = so := ⟨_, rfl⟩
        obtain ⟨ss, hss⟩ : ∃ ss, y.sz = ss := ⟨_, rfl⟩
        rw [hso] at c16 z2 z3 hres
        rw [hss] at c17 z1 z3 hres
        rw [Hl.out] at z2 z3
        obtain ⟨_, _, hn17, -⟩ := openR_some Hop2.out
        rw [Hl.out] at hn17
        obtain ⟨E, hE⟩ : ∃ E, so + ss = E := ⟨_, rfl⟩
        have hcx := Hcap.out
        obtain ⟨bo, hsl, -, hslr⟩ := slice_bytes byteRow ao n cap so E (by omega) (by omega) .u64 .u64
        have e9 : IntKind.u64.wrap ((so : Int) + (ss : Int)) = (E : Int) := by rw [IntWalk.u64_in _ (by omega)]; omega
        have ex : E - so = ss := by omega
        rw [ex] at hsl hslr
        have Hz : Hid (0 < ss) := Lib.hid (by omega)
        have Hzb : Hid (ss ≤ 131072) := Lib.hid (by omega)
        have Hpl : Hid ((piece l so ss).length = ss) := Lib.hid (by unfold piece; have := Hl.out; simp; omega)
        have Hslr := Lib.hid (fun w' (h : Rd w' ao l) => hslr w' l h Hl.out (by omega))
        clear hf hi hy hlt hk hr0 z1 z2 z3 z4 hso hss hn17 hcx ex hslr hE
        go_wp2_with fail
        go_quiet (fail)
        generalize hwd : World.drewN _ _ = w5
        have hdd : Drn wr w5 := ⟨_, hwd.symm⟩
        have Hb5 := Lib.hid (Hb.out.trans (hdd.below _))
        have Hs5 : Hid (B ≤ w5.heap.size) := Lib.hid (by rw [hdd.size]; exact Hs.out)
        have c16 : w5.cell? ⟨gx, k * 19 + 16, none⟩ = some (.int .u64 so) := (hdd.cell _).trans c16
        have c17 : w5.cell? ⟨gx, k * 19 + 17, none⟩ = some (.int .u64 ss) := (hdd.cell _).trans c17
        have Hgl5 : Hid (gx < w5.heap.size) := Lib.hid (by rw [hdd.size]; exact Hgl.out)
        clear hl1 hl1d hl2 hl2d heq hgd hdd hwd HO HG Hb Hs
        go_wp2_with fail
        as_aux_lemma =>
        have hd0 : Drn w5 w5.drew := ⟨1, rfl⟩
        have Hb6 := Lib.hid (Hb5.out.trans (hd0.below _))
        have Hs6 : Hid (B ≤ w5.drew.heap.size) := Lib.hid Hs5.out
        have Hgl6 : Hid (gx < w5.drew.heap.size) := Lib.hid Hgl5.out
        have hS0 : w5.drew.cell? ⟨gx, k * 19 + 16, none⟩ = some (.int .u64 so) ∧ w5.drew.cell? ⟨gx, k * 19 + 17, none⟩ = some (.int .u64 ss) := ⟨c16, c17⟩
        obtain ⟨x, hx⟩ : ∃ x, w5.heap.size = x := ⟨_, rfl⟩
        have hxd : w5.drew.heap.size = x := hx
        have Hb7 := Lib.hid (Hb6.out.alloc Hs6.out (.cells #[] 5))
        have Hm7 : Hid (Own 5 (w5.drew.alloc (.cells #[] 5)) B (.slice (some ⟨x, 0, none⟩) 0 0) []) := Lib.hid (by have := Own.made0 5 w5.drew B Hs6.out; rw [hxd] at this; exact this)
        have hS1 : (w5.drew.alloc (.cells #[] 5)).cell? ⟨gx, k * 19 + 16, none⟩ = some (.int .u64 so) ∧ (w5.drew.alloc (.cells #[] 5)).cell? ⟨gx, k * 19 + 17, none⟩ = some (.int .u64 ss) := by
          have hba := (Below.refl w5.drew.heap.size w5.drew).alloc (Nat.le_refl _) (.cells #[] 5)
          exact ⟨(hba.cell (p := ⟨gx, k * 19 + 16, none⟩) Hgl6.out).trans hS0.1, (hba.cell (p := ⟨gx, k * 19 + 17, none⟩) Hgl6.out).trans hS0.2⟩
        have Hs7 : Hid (B ≤ (w5.drew.alloc (.cells #[] 5)).heap.size) := Lib.hid (by simp; have := Hs6.out; simp at this; omega)
        have HrF := Lib.hid (Hslr.out _ (Hrw.out.below (by rw [HBx.out]; exact Hb7.out)))
        have Hlp : Hid (((l.drop so).take ss).length = ss) := Hpl
        obtain ⟨ad, hbo⟩ : ∃ ad, bo = some ad := by
          obtain ⟨b, o, e, _⟩ := HrF.out 0 (by rw [Hlp.out]; exact Hz.out)
          exact ⟨_, e⟩
        subst hbo
        clear c16 c17 Hb5 Hs5 Hgl5 hd0
        refine wp_region_held_drew (S := fun w' => w'.cell? ⟨gx, k * 19 + 16, none⟩ = some (.int .u64 so) ∧ w'.cell? ⟨gx, k * 19 + 17, none⟩ = some (.int .u64 ss)) (by kernel_rfl) hS0 (fun hHeld => ?_)
        refine wpAnyH_take (i := 1) (v := ?_) (by simp only [List.getElem?_toArray, List.getElem?_cons_succ, List.getElem?_cons_zero]; rfl) (by kernel_rfl) (by kernel_rfl) (by kernel_rfl) (by intro _ _ _ h_; exact h_) (Or.inl ⟨by rfl, ?_⟩) (by assumption) ?_
        rotate_left 1
        focus (intro w_ hSw_; go_simp; try with_reducible rfl)
        simp only [Act.put, List.setIfInBounds_toArray, List.set_cons_zero, List.set_cons_succ]
        refine wpAnyH_take (i := 2) (v := ?_) (by simp only [List.getElem?_toArray, List.getElem?_cons_succ, List.getElem?_cons_zero]; rfl) (by kernel_rfl) (by kernel_rfl) (by kernel_rfl) (by intro _ _ _ h_; exact h_) (Or.inl ⟨by rfl, ?_⟩) (by assumption) ?_
        rotate_left 1
        focus (intro w_ hSw_; go_simp; try with_reducible rfl)
        simp only [Act.put, List.setIfInBounds_toArray, List.set_cons_zero, List.set_cons_succ]
        refine wpAnyH_take (i := 3) (v := ?_) (by simp only [List.getElem?_toArray, List.getElem?_cons_succ, List.getElem?_cons_zero]; rfl) (by kernel_rfl) (by kernel_rfl) (by kernel_rfl) (by intro _ _ _ h_; exact h_) (Or.inl ⟨by rfl, ?_⟩) (by assumption) ?_
        rotate_left 1
        focus (intro w_ hSw_; go_simp; try with_reducible rfl)
        simp only [Act.put, List.setIfInBounds_toArray, List.set_cons_zero, List.set_cons_succ]
        refine wpAnyH_take (i := 4) (v := ?_) (by simp only [List.getElem?_toArray, List.getElem?_cons_succ, List.getElem?_cons_zero]; rfl) (by kernel_rfl) (by kernel_rfl) (by kernel_rfl) (by intro _ _ _ h_; exact h_) (Or.inl ⟨by rfl, ?_⟩) (by assumption) ?_
        rotate_left 1
        focus (intro w_ hSw_; go_simp; try with_reducible rfl)
        simp only [Act.put, List.setIfInBounds_toArray, List.set_cons_zero, List.set_cons_succ]
        refine wpAnyH_take (i := 5) (v := ?_) (by simp only [List.getElem?_toArray, List.getElem?_cons_succ, List.getElem?_cons_zero]; rfl) (by kernel_rfl) (by kernel_rfl) (by kernel_rfl) (by intro _ _ _ h_; exact h_) (Or.inl ⟨by rfl, ?_⟩) (by assumption) ?_
        rotate_left 1
        focus (intro w_ hSw_; go_simp; try with_reducible rfl)
        simp only [Act.put, List.setIfInBounds_toArray, List.set_cons_zero, List.set_cons_succ]
        refine wpAnyH_take (i := 6) (v := ?_) (by simp only [List.getElem?_toArray, List.getElem?_cons_succ, List.getElem?_cons_zero]; rfl) (by kernel_rfl) (by kernel_rfl) (by kernel_rfl) (by intro _ _ _ h_; exact h_) (Or.inl ⟨by rfl, ?_⟩) (by assumption) ?_
        rotate_left 1
        focus (intro w_ hSw_; go_simp; try with_reducible rfl)
        simp only [Act.put, List.setIfInBounds_toArray, List.set_cons_zero, List.set_cons_succ]
        refine wpAnyH_take (i := 7) (v := ?_) (by simp only [List.getElem?_toArray, List.getElem?_cons_succ, List.getElem?_cons_zero]; rfl) (by kernel_rfl) (by kernel_rfl) (by kernel_rfl) (by intro _ _ _ h_; exact h_) (Or.inl ⟨by rfl, ?_⟩) (by assumption) ?_
        rotate_left 1
        focus (intro w_ hSw_; go_simp; try with_reducible rfl)
        simp only [Act.put, List.setIfInBounds_toArray, List.set_cons_zero, List.set_cons_succ]
        refine wpAnyH_take (i := 8) (v := ?_) (by simp only [List.getElem?_toArray, List.getElem?_cons_succ, List.getElem?_cons_zero]; rfl) (by kernel_rfl) (by kernel_rfl) (by kernel_rfl) (by intro _ _ _ h_; exact h_) (Or.inl ⟨by rfl, ?_⟩) (by assumption) ?_
        rotate_left 1
        focus (intro w_ hSw_; go_simp; try with_reducible rfl)
        simp only [Act.put, List.setIfInBounds_toArray, List.set_cons_zero, List.set_cons_succ]
        refine wpAnyH_take (i := 9) (v := ?_) (by simp only [List.getElem?_toArray, List.getElem?_cons_succ, List.getElem?_cons_zero]; rfl) (by kernel_rfl) (by kernel_rfl) (by kernel_rfl) (by intro _ _ _ h_; exact h_) (Or.inl ⟨by rfl, ?_⟩) (by assumption) ?_
        rotate_left 1
        focus (intro w_ hSw_; go_simp; try with_reducible rfl)
        simp only [Act.put, List.setIfInBounds_toArray, List.set_cons_zero, List.set_cons_succ]
        refine wpAnyH_take (i := 10) (v := ?_) (by simp only [List.getElem?_toArray, List.getElem?_cons_succ, List.getElem?_cons_zero]; rfl) (by kernel_rfl) (by kernel_rfl) (by kernel_rfl) (by intro _ _ _ h_; exact h_) (Or.inl ⟨by rfl, ?_⟩) (by assumption) ?_
        rotate_left 1
        focus (intro w_ hSw_; go_simp; try with_reducible rfl)
        simp only [Act.put, List.setIfInBounds_toArray, List.set_cons_zero, List.set_cons_succ]
        refine wpAnyH_take (i := 11) (v := ?_) (by simp only [List.getElem?_toArray, List.getElem?_cons_succ, List.getElem?_cons_zero]; rfl) (by kernel_rfl) (by kernel_rfl) (by kernel_rfl) (by intro _ _ _ h_; exact h_) (Or.inl ⟨by rfl, ?_⟩) (by assumption) ?_
        rotate_left 1
        focus (intro w_ hSw_; go_simp; try with_reducible rfl)
        simp only [Act.put, List.setIfInBounds_toArray, List.set_cons_zero, List.set_cons_succ]
        refine wpAnyH_take (i := 12) (v := ?_) (by simp only [List.getElem?_toArray, List.getElem?_cons_succ, List.getElem?_cons_zero]; rfl) (by kernel_rfl) (by kernel_rfl) (by kernel_rfl) (by intro _ _ _ h_; exact h_) (Or.inl ⟨by rfl, ?_⟩) (by assumption) ?_
        rotate_left 1
        focus (intro w_ hSw_; go_simp; try with_reducible rfl)
        simp only [Act.put, List.setIfInBounds_toArray, List.set_cons_zero, List.set_cons_succ]
        refine wpAnyH_take (i := 13) (v := ?_) (by simp only [List.getElem?_toArray, List.getElem?_cons_succ, List.getElem?_cons_zero]; rfl) (by kernel_rfl) (by kernel_rfl) (by kernel_rfl) (by intro _ _ _ h_; exact h_) (Or.inl ⟨by rfl, ?_⟩) (by assumption) ?_
        rotate_left 1
        focus (intro w_ hSw_; go_simp; try with_reducible rfl)
        simp only [Act.put, List.setIfInBounds_toArray, List.set_cons_zero, List.set_cons_succ]
        refine wpAnyH_take (i := 14) (v := ?_) (by simp only [List.getElem?_toArray, List.getElem?_cons_succ, List.getElem?_cons_zero]; rfl) (by kernel_rfl) (by kernel_rfl) (by kernel_rfl) (by intro _ _ _ h_; exact h_) (Or.inl ⟨by rfl, ?_⟩) (by assumption) ?_
        rotate_left 1
        focus (intro w_ hSw_; go_simp; try with_reducible rfl)
        simp only [Act.put, List.setIfInBounds_toArray, List.set_cons_zero, List.set_cons_succ]
        refine wpAnyH_take (i := 15) (v := ?_) (by simp only [List.getElem?_toArray, List.getElem?_cons_succ, List.getElem?_cons_zero]; rfl) (by kernel_rfl) (by kernel_rfl) (by kernel_rfl) (by intro _ _ _ h_; exact h_) (Or.inl ⟨by rfl, ?_⟩) (by assumption) ?_
        rotate_left 1
        focus (intro w_ hSw_; go_simp; try with_reducible rfl)
        simp only [Act.put, List.setIfInBounds_toArray, List.set_cons_zero, List.set_cons_succ]
        refine wpAnyH_take (i := 16) (v := ?_) (by simp only [List.getElem?_toArray, List.getElem?_cons_succ, List.getElem?_cons_zero]; rfl) (by kernel_rfl) (by kernel_rfl) (by kernel_rfl) (by intro _ _ _ h_; exact h_) (Or.inl ⟨by rfl, ?_⟩) (by assumption) ?_
        rotate_left 1
        focus (intro w_ hSw_; go_simp; try with_reducible rfl)
        simp only [Act.put, List.setIfInBounds_toArray, List.set_cons_zero, List.set_cons_succ]
        refine wpAnyH_take (i := 17) (v := ?_) (by simp only [List.getElem?_toArray, List.getElem?_cons_succ, List.getElem?_cons_zero]; rfl) (by kernel_rfl) (by kernel_rfl) (by kernel_rfl) (by intro _ _ _ h_; exact h_) (Or.inl ⟨by rfl, ?_⟩) (by assumption) ?_
        rotate_left 1
        focus (intro w_ hSw_; go_simp; try with_reducible rfl)
        simp only [Act.put, List.setIfInBounds_toArray, List.set_cons_zero, List.set_cons_succ]
        refine wpAnyH_take (i := 18) (v := ?_) (by simp only [List.getElem?_toArray, List.getElem?_cons_succ, List.getElem?_cons_zero]; rfl) (by kernel_rfl) (by kernel_rfl) (by kernel_rfl) (by intro _ _ _ h_; exact h_) (Or.inl ⟨by rfl, ?_⟩) (by assumption) ?_
        rotate_left 1
        focus (intro w_ hSw_; go_simp; try with_reducible rfl)
        simp only [Act.put, List.setIfInBounds_toArray, List.set_cons_zero, List.set_cons_succ]
        refine wpAnyH_ready (rs := [0]) (by kernel_rfl) (by simp) ?_
        refine AllReadyH.cons (by simp only [List.getElem?_toArray, List.getElem?_cons_succ, List.getElem?_cons_zero]; rfl) (fun K hK => ?_) AllReadyH.nil
        go_simp
        refine hK.out _ _ hS1 (fun hHeld => ?_)
        clear hK K
        try simp only [Act.put, List.setIfInBounds_toArray, List.set_cons_zero, List.set_cons_succ]
        refine wpAnyH_ready (rs := [19]) (by kernel_rfl) (by simp) ?_
        refine AllReadyH.cons (by simp only [List.getElem?_toArray, List.getElem?_cons_succ, List.getElem?_cons_zero]; rfl) (fun K hK => ?_) AllReadyH.nil
        refine step_of_wp rfl (wp_append_at byteRow _ _ rfl B (.slice (some ⟨x, 0, none⟩) 0 0) [] rfl Hm7.out ad ss (cap - so) _ rfl Hlp.out HrF.out (by simp; have := Hzb.out; omega) Hs7.out ss (by simp) Hz.out ?_)
        intro g3 C3 w8 ho8 hg8 hk8
        have hb8 : Below x (w5.drew.alloc (.cells #[] 5)) w8 := (Below.refl x _).grown hg8 (by simp; omega) (fun q hq => by have := Option.some.inj hq; simp only at this; omega)
        have hgx : gx < x := by have := Hgl6.out; rw [hxd] at this; exact this
        refine hK.out _ _ ⟨(hb8.cell (p := ⟨gx, k * 19 + 16, none⟩) hgx).trans hS1.1, (hb8.cell (p := ⟨gx, k * 19 + 17, none⟩) hgx).trans hS1.2⟩ (fun hHeld => ?_)
        clear hK K
        try simp only [Act.put, List.setIfInBounds_toArray, List.set_cons_zero, List.set_cons_succ]
        refine wpAnyH_take (i := 20) (v := ?_) (by simp only [List.getElem?_toArray, List.getElem?_cons_succ, List.getElem?_cons_zero]; rfl) (by kernel_rfl) (by kernel_rfl) (by kernel_rfl) (by intro _ _ _ h_; exact h_) (Or.inl ⟨by rfl, ?_⟩) (by assumption) ?_
        rotate_left 1
        focus (intro w_ hSw_; go_simp; try with_reducible rfl)
        simp only [Act.put, List.setIfInBounds_toArray, List.set_cons_zero, List.set_cons_succ]
        refine wpAnyH_take (i := 21) (v := ?_) (by simp only [List.getElem?_toArray, List.getElem?_cons_succ, List.getElem?_cons_zero]; rfl) (by kernel_rfl) (by kernel_rfl) (by kernel_rfl) (by intro _ _ _ h_; exact h_) (Or.inl ⟨by rfl, ?_⟩) (by assumption) ?_
        rotate_left 1
        focus (intro w_ hSw_; go_simp; try with_reducible rfl)
        simp only [Act.put, List.setIfInBounds_toArray, List.set_cons_zero, List.set_cons_succ]
        refine wpAnyH_done (by kernel_rfl) ?_ _
        have HBf := Lib.hid (Hb7.out.trans (hb8.mono (by have := Hs6.out; rw [hxd] at this; exact this)))
        have HOf := Lib.hid ho8
        clear ho8 hg8 hk8 hb8 hS0 hS1 hHeld
        go_wp2_with fail
        go_ret2
        exact ⟨_, by rw [hres.out]; rfl, by rw [hres.out]; exact HOf.out.mono (by have := HBx.out; omega), by rw [HBx.out]; exact HBf.out⟩
      · rw [decide_eq_false hi] at heq
        have Hn1 : Hid (∀ x ∈ es.take (k + 1), x.id ≠ g) := Lib.hid (fun x hx => by
          rw [List.take_add_one, hy, List.mem_append] at hx
          rcases hx with hx | hx
          · exact Hno.out x hx
          · simp at hx; subst hx; exact hi)
        clear hi hy hlt hk
        go_wp2_with fail
        go_quiet (fail)
        go_wp2_with fail
        have hdd : Drn wr (wr.drewN nq) := ⟨_, rfl⟩
        first
        | (go_roundw
           case rel => exact ⟨k + 1, by omega, by go_num, Hn1.out, HG.out.drn hdd, HO.out.drn hdd, Hb.out.trans (hdd.below _), Hs.out⟩
           case measure => (first | omega | (simp [intOf] <;> omega) | (simp only [intOf] <;> omega)))
        | exact ⟨⟨k + 1, by omega, by go_num, Hn1.out, HG.out.drn hdd, HO.out.drn hdd, Hb.out.trans (hdd.below _), Hs.out⟩, by (first | omega | (simp [intOf] <;> omega) | (simp only [intOf] <;> omega))⟩
        | (refine ⟨?_, by (first | omega | (simp [intOf] <;> omega) | (simp only [intOf] <;> omega))⟩
           (repeat apply Exists.intro)
           refine (fun a b => And.intro b a) ?_ ?_
           · first | rfl | ((repeat refine ⟨rfl, ?_⟩); rfl)
           exact ⟨k + 1, by omega, by go_num, Hn1.out, HG.out.drn hdd, HO.out.drn hdd, Hb.out.trans (hdd.below _), Hs.out⟩)
    · obtain rfl : k = es.length := by omega
      have hf : es.find? (fun x => decide (x.id = g)) = none := List.find?_eq_none.2 (fun x hx => by have := Hno.out x (by rw [List.take_of_length_le (Nat.le_refl _)]; exact hx); simp [this])
      have hres := Lib.hid (imageR_miss Hop2.out hf)
      clear hf hlt
      go_wp2_with fail
      go_ret2
      exact ⟨.slice none 0 0, by rw [hres.out]; rfl, by rw [hres.out]; exact Own.nil _ _ _, by rw [HBx.out]; exact Hb.out⟩
end Go.Proofs.Ytefkmlfpdlnodaa
