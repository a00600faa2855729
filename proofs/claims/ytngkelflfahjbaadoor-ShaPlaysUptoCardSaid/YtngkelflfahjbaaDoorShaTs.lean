/- Chapter 2's law: a step of both hashes. No condition. -/
import Derived.Test.YtngkelflfahjbaaDoorShaTo
import Derived.Deep.RegionHeld3
import Derived.Deep.DrawnRows
set_option linter.unusedVariables false
set_option linter.unusedSimpArgs false
namespace Go.Proofs.YtngkelflfahjbaaDoor
open Go.RowKit
attribute [local go_sem ↓] Go.wp_at_zero Go.wp_at_succ
/-- bytes were taken in by both -/
theorem pair_wrote {B H1 H2 k : Nat} {st : S8} {N : Nat} {va vb v6 v7 : Value} {L l : List UInt8} {w1 w6 w7 : World} (h : Pair B H1 H2 k st N va vb L w1) (hsz : B ≤ w1.heap.size)
    (h6 : HB w6 H1 67 (hashC k (goB (wK k) (goB (wK k) st L).1 ((goB (wK k) st L).2 ++ l)).1 (N + L.length + l.length) v6)) (o6 : Own 5 w6 w1.heap.size v6 (goB (wK k) (goB (wK k) st L).1 ((goB (wK k) st L).2 ++ l)).2) (f6 : Frm (fun q => q = H1) w1 w6)
    (h7 : HB w7 H2 74 (rhC k st N v7)) (o7 : Own 5 w7 B v7 (L ++ l)) (f7 : Frm (wroteF H2 vb) w6 w7) (k7 : ∀ q, v7.ownBlock = some q → vb.ownBlock = some q ∨ w6.heap.size ≤ q) (hfit : N + L.length + l.length ≤ 2305843009213693951) :
    Pair B H1 H2 k st N v6 v7 (L ++ l) w7 ∧ Frm (fun q => q = H1 ∨ q = H2 ∨ vb.ownBlock = some q) w1 w7 ∧ ∀ q, pairF H1 H2 v6 v7 q → pairF H1 H2 va vb q ∨ w1.heap.size ≤ q := by
  have e := (goB_app (wK k) l _ st L rfl).symm
  rw [e] at h6 o6
  have l1 := h.h1.lt
  have l2 := h.h2.lt
  have lb : ∀ q, vb.ownBlock = some q → q < w1.heap.size := fun q hq => (own_blk h.ob hq).2
  have hs6 := f6.size
  refine ⟨⟨h.hk, h.hs, ?_, ?_, h7, o7, h.n1, ?_, h.b1, h.b2, h.hh, fun e => ?_, fun e => ?_, fun e => ?_, fun e => ?_, fun q hq e => ?_⟩, ?_, ?_⟩
  · rw [List.length_append, ← Nat.add_assoc]
    exact h6.frm f7 (fun e => e.elim h.hh h.c1)
  · exact (o6.frm f7 (fun q hq e => by
      have := (own_blk o6 hq).1
      exact e.elim (fun e => by omega) (fun e => by have := lb _ e; omega))).mono hsz
  · rw [List.length_append]; omega
  · have := (own_blk o6 e).1; omega
  · have := (own_blk o6 e).1; omega
  · exact (k7 _ e).elim h.c1 (fun e => by omega)
  · exact (k7 _ e).elim h.c2 (fun e => by omega)
  · have h1 := own_blk o6 hq
    exact (k7 _ e).elim (fun e => by have := lb _ e; omega) (fun e => by omega)
  · exact (f6.mono (fun _ _ h => .inl h)).trans (f7.mono (fun _ _ h => h.elim (fun h => .inr (.inl h)) (fun h => .inr (.inr h))))
  · rintro q (rfl | rfl | hq | hq)
    · exact .inl (.inl rfl)
    · exact .inl (.inr (.inl rfl))
    · exact .inr (own_blk o6 hq).1
    · exact (k7 _ hq).elim (fun h => .inl (.inr (.inr (.inr h)))) (fun h => .inr (by omega))
set_option maxRecDepth 100000 in
set_option maxHeartbeats 1000000 in
theorem step1 {T H1 H2 k : Nat} {st : S8} {N : Nat} {va vb lv wv : Value} {L : List UInt8} {es : List Ent} {c d : Nat} {W w : World} (h : Tw W.heap.size T H1 H2 k st N va vb lv wv L es c d W w) (hc : c ≤ 209715200) (hd : d ≤ 200) (htab : TabOk W) (h00 : 0 < W.heap.size)
    (bits : Int) (ao : Option Addr) (n cap : Nat) (l : List UInt8) (hl : l.length = n) (hn : n ≤ 1048576) (hnc : n ≤ cap) (hnil : ao = none → cap = 0) (hr : Rd W ao l) :
    Calls Tryd.prog 33 #[.pointer (some ⟨T, 0, none⟩), .agg #[.int .i64 1, .int .i64 bits, .slice ao n cap]] w fun e w' => e = .returned (.bool true) ∧ ∃ lv' wv' es', TwE W.heap.size T lv' wv' es' (c + 1048576) (d + 1) W w' (fun _ => False) := by
  have Hl := Lib.hid hl
  have Hn := Lib.hid hn
  have Hnc := Lib.hid hnc
  have Hnil := Lib.hid hnil
  have Hc := Lib.hid hc
  have Hd := Lib.hid hd
  have Htab := Lib.hid htab
  have H00 := Lib.hid h00
  have Hr := Lib.hid (fun w' (h : Below W.heap.size W w') => hr.below h)
  have HX := Lib.hid (HB.new w [.int .i64 1, .int .i64 bits, .slice ao n cap] 61)
  have Hhx := Lib.hid (fun w' (hb : Below w.heap.size w w') => h.later hb)
  have Hrx := Lib.hid (fun w' (hb : Below w.heap.size w w') => hr.below (h.v.bl.trans (hb.mono h.v.sz)))
  have HXp : Hid (∀ q, pairF H1 H2 va vb q → q ≠ w.heap.size) := Lib.hid (fun q hq e => by have := (h.v.h.lt hq).2; omega)
  clear h hl hn hnc hnil hc hd htab h00 hr
  go_enter Tryd.func33, Tryd.ntmps33
  go_upto_region 3 with fail
  as_aux_lemma =>
  have HT0 := Lib.hid (Hhx.out _ ((Below.refl _ w).alloc (Nat.le_refl _) (.cells #[.int .i64 1, .int .i64 bits, .slice ao n cap] 61)))
  have hr0 := Hrx.out _ ((Below.refl _ w).alloc (Nat.le_refl _) (.cells #[.int .i64 1, .int .i64 bits, .slice ao n cap] 61))
  generalize w.alloc (.cells #[.int .i64 1, .int .i64 bits, .slice ao n cap] 61) = w0 at *
  generalize w.heap.size = X at *
  have k2 := HX.out.cell (i := 2) rfl
  have Hown := Lib.hid (own_any ao n cap l w0 Hl.out (by have := Hn.out; omega) Hnil.out hr0)
  clear hr0 Hrx Hhx
  go_wp2_with fail
  as_aux_lemma =>
  clear k2
  refine Hown.out.mono ?_
  rintro e w1 ⟨g, C, rfl, hC, hC2, ho1, hb1⟩
  have HC := Lib.hid (And.intro hC hC2)
  have Ho1 := Lib.hid ho1
  have HT1 := Lib.hid (HT0.out.later hb1)
  have HX1 := Lib.hid (HX.out.later hb1)
  have Hru := Lib.hid (ho1.lend Hl.out).1
  have Hg : Hid (w0.heap.size ≤ g ∧ g < w1.heap.size) := Lib.hid (own_blk ho1 rfl)
  have HTg : Hid (T < w0.heap.size) := Lib.hid HT0.out.t.lt
  have HBw : Hid (W.heap.size ≤ w0.heap.size) := Lib.hid HT0.out.v.sz
  have Hlst : Hid (∀ q, lstF lv wv es q → q < w0.heap.size) := Lib.hid (fun q hq => (HT0.out.v.l.lt hq).2)
  have Hpr : Hid (∀ q, pairF H1 H2 va vb q → q < w0.heap.size ∧ q ≠ X) := Lib.hid (fun q hq => ⟨(HT0.out.v.h.lt hq).2, HXp.out q hq⟩)
  have hgH : g ≠ H1 := fun e => by have := (Hpr.out H1 (.inl rfl)).1; have := Hg.out.1; omega
  clear hC hC2 ho1 hb1 Hown HX HT0 HXp
  have k0 := HT1.out.t.cell (i := 0) rfl
  obtain ⟨ra, rc, hva, va1, va2, va3, va4, va5⟩ := HT1.out.v.h.oa.rd3
  have hll := (goB_left (wK k) _ st L rfl).2
  have hsz : sizeW (wK k) ≤ 128 := by unfold sizeW; split <;> decide
  have hn := Hn.out
  have hcn := Hc.out
  have hlc := HT1.out.v.lc
  have hP := HT1.out.v.h
  by_cases hfit : N + L.length + n ≤ 2305843009213693951
  · have h1 := hP.h1
    have ha1 := hP.a1
    rw [hva] at h1 ha1
    have Hpw := Lib.hid (pwrite_any H1 k (goB (wK k) st L).1 (N + L.length) ra _ rc _ (some ⟨g, 0, none⟩) n C l w1 hP.hk h1 (goB_lt (wK k) _ st L rfl hP.hs) rfl va4 va3 (fun a e h => ha1 (by rw [e]; exact congrArg some h)) Hl.out (fun e => by cases e)
      (fun w' hg => Hru.out.grown hg (fun a e h => by cases e; exact hgH (Option.some.inj h))) hP.n2 hfit (by omega) (Htab.out.below HT1.out.v.bl) (by have := hP.b1; have := H00.out; omega))
    have Hfit := Lib.hid hfit
    clear va1 va2 va3 va4 va5 hll hsz hn hcn hlc hP h1 ha1 hfit hva hgH
    go_wp2_with fail
    as_aux_lemma =>
    clear k0
    refine Hpw.out.mono ?_
    rintro e w6 ⟨v6, rfl, hH6, ho6, hf6⟩
    have hd6 : Drn w6 w6.drew := ⟨1, rfl⟩
    have HH6 := Lib.hid (hH6.drn hd6)
    have HO6 := Lib.hid (ho6.later (hd6.below _))
    have HF6 : Hid (Frm (fun q => q = H1) w1 w6.drew) := Lib.hid (hf6.trans (Frm.drn hd6))
    clear hH6 ho6 hf6 hd6 Hpw
    go_upto_region 5 with fail
    as_aux_lemma =>
    have hp1 := Hpr.out H1 (.inl rfl)
    have hp2 := Hpr.out H2 (.inr (.inl rfl))
    have hT6 : HB w6.drew T 58 (twC H1 H2 lv wv) := HT1.out.t.frm HF6.out (fun e => HT1.out.v.t1 (.inl e))
    have hX6 := HX1.out.frm HF6.out (fun e => hp1.2 e.symm)
    have hb6 : Below W.heap.size W w6.drew := HT1.out.v.bl.trans (HF6.out.below HT1.out.v.sz (fun q e => e ▸ HT1.out.v.h.b1))
    have h26 := HT1.out.v.h.h2.frm HF6.out (fun e => HT1.out.v.h.hh e.symm)
    have ob6 := HT1.out.v.h.ob.frm HF6.out (fun q hq e => HT1.out.v.h.c1 (by rw [hq, e]))
    have hs6 := HF6.out.size
    obtain ⟨ua, uc, hub, u1, u2, u3, u4, u5⟩ := ob6.rd3
    have hvb : ∀ q, vb.ownBlock = some q → q < w0.heap.size ∧ q ≠ X := fun q hq => Hpr.out q (.inr (.inr (.inr hq)))
    have hc2 := HT1.out.v.h.c2
    have hlc := HT1.out.v.lc
    have hcn := Hc.out
    have hn := Hn.out
    have hfit := Hfit.out
    have hrw : Calls Tryd.prog 26 #[.pointer (some ⟨H2, 0, none⟩), .slice ao n cap] w6.drew fun e w' => ∃ v, e = .returned (.bool true) ∧ HB w' H2 74 (rhC k st N v) ∧ Own 5 w' W.heap.size v (L ++ l) ∧ Frm (wroteF H2 vb) w6.drew w' ∧
        (∀ q, v.ownBlock = some q → vb.ownBlock = some q ∨ w6.drew.heap.size ≤ q) := by
      rw [hub] at h26 ob6 hc2 ⊢
      exact rwrite_any H2 k st N W.heap.size ua _ uc L ao n cap l w6.drew h26 rfl ob6 (Nat.le_trans HT1.out.v.sz hs6) (fun a e h => hc2 (by rw [e]; exact congrArg some h)) (by omega) (by omega) Hl.out (Hr.out _ hb6) Hnil.out (by omega)
    have Hrw := Lib.hid hrw
    have k1 : w6.drew.cell? ⟨T, 1, none⟩ = some (.pointer (some ⟨H2, 0, none⟩)) := hT6.cell (i := 1) rfl
    have k2 : w6.drew.cell? ⟨X, 2, none⟩ = some (.slice ao n cap) := hX6.cell (i := 2) rfl
    have HTX := Lib.hid (And.intro hT6 hX6)
    have Hvb := Lib.hid hvb
    have Hb6 := Lib.hid hb6
    clear hp1 hT6 hX6 hb6 h26 ob6 hs6 hub u1 u2 u3 u4 u5 hvb hc2 hlc hcn hn hfit hrw HX1
    refine wp_region_held_drew (S := fun w' => w'.cell? ⟨T, 1, none⟩ = some (.pointer (some ⟨H2, 0, none⟩)) ∧ w'.cell? ⟨X, 2, none⟩ = some (.slice ao n cap)) (by kernel_rfl) ⟨k1, k2⟩ (fun hHeld => ?_)
    clear k1 k2
    refine wpAnyH_take (i := 0) (v := ?_) (by simp only [List.getElem?_toArray, List.getElem?_cons_succ, List.getElem?_cons_zero]; rfl) (by kernel_rfl) (by kernel_rfl) (by kernel_rfl) (by intro _ _ _ h_; exact h_) (Or.inl ⟨by rfl, ?_⟩) (by assumption) ?_
    rotate_left 1
    focus (intro w_ hSw_; go_simp; try with_reducible rfl)
    simp only [Act.put, List.setIfInBounds_toArray, List.set_cons_zero, List.set_cons_succ]
    refine wpAnyH_take (i := 1) (v := ?_) (by simp only [List.getElem?_toArray, List.getElem?_cons_succ, List.getElem?_cons_zero]; rfl) (by kernel_rfl) (by kernel_rfl) (by kernel_rfl) (by intro _ _ _ h_; exact h_) (Or.inl ⟨by rfl, ?_⟩) (by assumption) ?_
    rotate_left 1
    focus (intro w_ hSw_; go_simp; try with_reducible rfl)
    simp only [Act.put, List.setIfInBounds_toArray, List.set_cons_zero, List.set_cons_succ]
    refine wpAnyH_take (i := 2) (v := ?_) (by simp only [List.getElem?_toArray, List.getElem?_cons_succ, List.getElem?_cons_zero]; rfl) (by kernel_rfl) (by kernel_rfl) (by kernel_rfl) (by intro _ _ _ h_; exact h_) (Or.inl ⟨by rfl, ?_⟩) (by assumption) ?_
    rotate_left 1
    focus (intro w_ hSw_; go_simp; try with_reducible rfl)
    simp only [Act.put, List.setIfInBounds_toArray, List.set_cons_zero, List.set_cons_succ]
    refine wpAnyH_take (i := 3) (v := ?_) (by simp only [List.getElem?_toArray, List.getElem?_cons_succ, List.getElem?_cons_zero]; rfl) (by kernel_rfl) (by kernel_rfl) (by kernel_rfl) (by intro _ _ _ h_; exact h_) (Or.inl ⟨by rfl, ?_⟩) (by assumption) ?_
    rotate_left 1
    focus (intro w_ hSw_; go_simp; try with_reducible rfl)
    simp only [Act.put, List.setIfInBounds_toArray, List.set_cons_zero, List.set_cons_succ]
    refine wpAnyH_take (i := 4) (v := ?_) (by simp only [List.getElem?_toArray, List.getElem?_cons_succ, List.getElem?_cons_zero]; rfl) (by kernel_rfl) (by kernel_rfl) (by kernel_rfl) (by intro _ _ _ h_; exact h_) (Or.inl ⟨by rfl, ?_⟩) (by assumption) ?_
    rotate_left 1
    focus (intro w_ hSw_; go_simp; try with_reducible rfl)
    simp only [Act.put, List.setIfInBounds_toArray, List.set_cons_zero, List.set_cons_succ]
    refine wpAnyH_take (i := 5) (v := ?_) (by simp only [List.getElem?_toArray, List.getElem?_cons_succ, List.getElem?_cons_zero]; rfl) (by kernel_rfl) (by kernel_rfl) (by kernel_rfl) (by intro _ _ _ h_; exact h_) (Or.inl ⟨by rfl, ?_⟩) (by assumption) ?_
    rotate_left 1
    focus (intro w_ hSw_; go_simp; try with_reducible rfl)
    simp only [Act.put, List.setIfInBounds_toArray, List.set_cons_zero, List.set_cons_succ]
    refine wpAnyH_ready (rs := [6]) (by kernel_rfl) (by simp) ?_
    refine AllReadyH.cons (by simp only [List.getElem?_toArray, List.getElem?_cons_succ, List.getElem?_cons_zero]; rfl) (fun K hK => ?_) AllReadyH.nil
    go_simp
    refine Hrw.out.mono ?_
    rintro e w7 ⟨v7, rfl, hH7, ho7, hf7, hk7⟩
    have hp1 := Hpr.out H1 (.inl rfl)
    have hp2 := Hpr.out H2 (.inr (.inl rfl))
    have hnT : ¬ wroteF H2 vb T := fun e => HT1.out.v.t1 (e.elim (fun e => .inr (.inl e)) (fun e => .inr (.inr (.inr e))))
    have hnX : ¬ wroteF H2 vb X := fun e => e.elim (fun e => hp2.2 e.symm) (fun e => (Hvb.out _ e).2 rfl)
    have hT7 := HTX.out.1.frm hf7 hnT
    have hX7 := HTX.out.2.frm hf7 hnX
    have HPW := Lib.hid (pair_wrote HT1.out.v.h HT1.out.v.sz (by rw [Hl.out]; exact HH6.out) HO6.out HF6.out hH7 ho7 hf7 hk7 (by rw [Hl.out]; exact Hfit.out))
    have hou7 := (Ho1.out.frm HF6.out (fun q hq e => by have h1 : g = q := Option.some.inj hq; have := Hg.out.1; omega)).frm hf7 (fun q hq e => by
      have h1 : g = q := Option.some.inj hq
      have := Hg.out.1
      rcases e with e | e
      · omega
      · have := (Hvb.out _ e).1; omega)
    have hb7 : Below W.heap.size W w7 := Hb6.out.trans (hf7.below (Nat.le_trans HT1.out.v.sz HF6.out.size) (fun q e => e.elim (fun e => e ▸ HT1.out.v.h.b2) (fun e => (own_blk HT1.out.v.h.ob e).1)))
    have HT7 : Hid (Tv W.heap.size T H1 H2 k st N v6 v7 lv wv (L ++ l) es (c + 1048576) (d + 1) W w7) := Lib.hid (by
      have hlc := HT1.out.v.lc
      have hn := Hn.out
      have hll := Hl.out
      exact (HT1.out.v.swap (K := fun q => q = H1 ∨ q = H2 ∨ vb.ownBlock = some q) HPW.out.2.1 (fun q e => e.elim .inl (fun e => e.elim (fun e => .inr (.inl e)) (fun e => .inr (.inr (.inr e))))) HPW.out.1 HPW.out.2.2 (c' := c + 1048576) (by rw [List.length_append]; omega)).mono (Nat.le_refl _) (Nat.le_succ d))
    have HTt7 := Lib.hid hT7
    have HX7 := Lib.hid hX7
    have Hou7 := Lib.hid hou7
    have HB7 := Lib.hid hb7
    have HPg : Hid (∀ q, pairF H1 H2 v6 v7 q → ¬ q = g) := Lib.hid (fun q hq e => (HPW.out.2.2 q hq).elim (fun h => by have := (Hpr.out q h).1; have := Hg.out.1; omega) (fun h => by have := Hg.out.2; omega))
    have k1 : w7.cell? ⟨T, 1, none⟩ = some (.pointer (some ⟨H2, 0, none⟩)) := hT7.cell (i := 1) rfl
    have k2 : w7.cell? ⟨X, 2, none⟩ = some (.slice ao n cap) := hX7.cell (i := 2) rfl
    clear hp1 hp2 hnT hnX hT7 hX7 hou7 hb7 hH7 ho7 hf7 hk7 HPW Hrw HTX Hvb Hb6 HH6 HO6 HF6 HT1 Ho1 Hru Hpr
    go_wp2_with fail
    refine hK.out _ _ ⟨k1, k2⟩ (fun hHeld => ?_)
    clear hHeld
    clear hK K
    try simp only [Act.put, List.setIfInBounds_toArray, List.set_cons_zero, List.set_cons_succ]
    have hHeld := And.intro k1 k2
    refine wpAnyH_take (i := 7) (v := ?_) (by simp only [List.getElem?_toArray, List.getElem?_cons_succ, List.getElem?_cons_zero]; rfl) (by kernel_rfl) (by kernel_rfl) (by kernel_rfl) (by intro _ _ _ h_; exact h_) (Or.inl ⟨by rfl, ?_⟩) (by assumption) ?_
    rotate_left 1
    focus (intro w_ hSw_; go_simp; try with_reducible rfl)
    simp only [Act.put, List.setIfInBounds_toArray, List.set_cons_zero, List.set_cons_succ]
    refine wpAnyH_done (by kernel_rfl) ?_ _
    clear hHeld k1
    have Hst := Lib.hid (still_any ao g n C cap w0.heap.size l w7 Hl.out (by have := Hn.out; omega) HC.out.1 (Hr.out _ HB7.out) Hou7.out)
    go_wp2_with fail
    clear k2
    refine Hst.out.mono ?_
    rintro e w5 ⟨rfl, hd5⟩
    have HT5 : Hid (Tw W.heap.size T H1 H2 k st N v6 v7 lv wv (L ++ l) es (c + 1048576) (d + 1) W w5) := Lib.hid ⟨HTt7.out.drn hd5, HT7.out.later (hd5.below _)⟩
    have Hou5 := Lib.hid (Hou7.out.later (hd5.below _))
    clear hd5 Hst HTt7 HT7 Hou7 HB7 HX7
    go_upto_region 8 with fail
    as_aux_lemma =>
    go_loopw [9] (fun i wr => FillIn w0.heap.size g n C w5 i wr) (fun i _ => n - (intOf i).toNat)
    case atStart => exact ⟨0, l ++ [77], Nat.zero_le _, by rw [List.length_append, Hl.out]; rfl, rfl, Hou5.out, Frm.refl _ _⟩
    case round =>
      as_aux_lemma =>
      obtain ⟨t, lt, ht, hlt, rfl, ho, hf⟩ := hrel
      have hn := Hn.out
      by_cases htn : t < n
      · have i1 : (t : Int) < (n : Int) := by omega
        obtain ⟨-, -, -, -, -, hc, hfz⟩ := ho.at
        have hct := hc t (by omega)
        have hft := hfz t
        have Hstep := Lib.hid (fill_step ho hlt hf t htn 98)
        have Hlt2 := Lib.hid hlt
        clear hc hfz ho hf hlt
        go_wp2_with fail
        first
        | (go_roundw
           case rel => exact ⟨t + 1, _, by omega, by rw [List.length_set]; exact Hlt2.out, by go_num, Hstep.out.1, Hstep.out.2⟩
           case measure => (first | omega | (simp [intOf] <;> omega) | (simp only [intOf] <;> omega)))
        | exact ⟨⟨t + 1, _, by omega, by rw [List.length_set]; exact Hlt2.out, by go_num, Hstep.out.1, Hstep.out.2⟩, by (first | omega | (simp [intOf] <;> omega) | (simp only [intOf] <;> omega))⟩
        | (refine ⟨?_, by (first | omega | (simp [intOf] <;> omega) | (simp only [intOf] <;> omega))⟩
           (repeat apply Exists.intro)
           refine (fun a b => And.intro b a) ?_ ?_
           · first | rfl | ((repeat refine ⟨rfl, ?_⟩); rfl)
           exact ⟨t + 1, _, by omega, by rw [List.length_set]; exact Hlt2.out, by go_num, Hstep.out.1, Hstep.out.2⟩)
      · have i1 : ¬ (t : Int) < (n : Int) := by omega
        have HF := Lib.hid (HT5.out.other hf (fun q e => by have := HBw.out; have := Hg.out; omega) (by have := HTg.out; have := Hg.out; omega) (fun q hq => HPg.out q hq) (fun q hq e => by have := Hlst.out q hq; have := Hg.out; omega))
        clear ho hf hn hlt
        go_wp2_with fail
        go_ret
        exact ⟨rfl, _, _, _, ⟨_, _, _, _, _, _, _, _, HF.out, fun _ _ => id⟩⟩
  · have Hpw := Lib.hid (pwrite_long H1 k (goB (wK k) st L).1 (N + L.length) va (some ⟨g, 0, none⟩) n C w1 hP.h1 hP.n2 hfit (by omega))
    obtain ⟨ua, uc, hub, u1, u2, u3, u4, u5⟩ := hP.ob.rd3
    have hrw : Calls Tryd.prog 26 #[.pointer (some ⟨H2, 0, none⟩), .slice ao n cap] w1.drew fun e w' => e = .returned (.bool false) ∧ Drn w1.drew w' := by
      have h2 := hP.h2
      rw [hub] at h2
      exact rwrite_long H2 k st N ua _ uc ao n cap w1.drew (h2.drn ⟨1, rfl⟩) hP.n2 hfit (by omega)
    have Hrw := Lib.hid hrw
    clear va1 va2 va3 va4 va5 hll hsz hn hcn hlc hP hfit hva hgH u1 u2 u3 u4 u5 hub hrw
    go_wp2_with fail
    as_aux_lemma =>
    clear k0
    refine Hpw.out.mono ?_
    rintro e w6 ⟨rfl, rfl⟩
    clear Hpw
    have k1 : w1.drew.cell? ⟨T, 1, none⟩ = some (.pointer (some ⟨H2, 0, none⟩)) := HT1.out.t.cell (i := 1) rfl
    have k2 : w1.drew.cell? ⟨X, 2, none⟩ = some (.slice ao n cap) := HX1.out.cell (i := 2) rfl
    go_upto_region 5 with fail
    as_aux_lemma =>
    refine wp_region_held_drew (S := fun w' => w'.cell? ⟨T, 1, none⟩ = some (.pointer (some ⟨H2, 0, none⟩)) ∧ w'.cell? ⟨X, 2, none⟩ = some (.slice ao n cap)) (by kernel_rfl) ⟨k1, k2⟩ (fun hHeld => ?_)
    clear k1 k2
    refine wpAnyH_take (i := 0) (v := ?_) (by simp only [List.getElem?_toArray, List.getElem?_cons_succ, List.getElem?_cons_zero]; rfl) (by kernel_rfl) (by kernel_rfl) (by kernel_rfl) (by intro _ _ _ h_; exact h_) (Or.inl ⟨by rfl, ?_⟩) (by assumption) ?_
    rotate_left 1
    focus (intro w_ hSw_; go_simp; try with_reducible rfl)
    simp only [Act.put, List.setIfInBounds_toArray, List.set_cons_zero, List.set_cons_succ]
    refine wpAnyH_take (i := 1) (v := ?_) (by simp only [List.getElem?_toArray, List.getElem?_cons_succ, List.getElem?_cons_zero]; rfl) (by kernel_rfl) (by kernel_rfl) (by kernel_rfl) (by intro _ _ _ h_; exact h_) (Or.inl ⟨by rfl, ?_⟩) (by assumption) ?_
    rotate_left 1
    focus (intro w_ hSw_; go_simp; try with_reducible rfl)
    simp only [Act.put, List.setIfInBounds_toArray, List.set_cons_zero, List.set_cons_succ]
    refine wpAnyH_take (i := 2) (v := ?_) (by simp only [List.getElem?_toArray, List.getElem?_cons_succ, List.getElem?_cons_zero]; rfl) (by kernel_rfl) (by kernel_rfl) (by kernel_rfl) (by intro _ _ _ h_; exact h_) (Or.inl ⟨by rfl, ?_⟩) (by assumption) ?_
    rotate_left 1
    focus (intro w_ hSw_; go_simp; try with_reducible rfl)
    simp only [Act.put, List.setIfInBounds_toArray, List.set_cons_zero, List.set_cons_succ]
    refine wpAnyH_take (i := 3) (v := ?_) (by simp only [List.getElem?_toArray, List.getElem?_cons_succ, List.getElem?_cons_zero]; rfl) (by kernel_rfl) (by kernel_rfl) (by kernel_rfl) (by intro _ _ _ h_; exact h_) (Or.inl ⟨by rfl, ?_⟩) (by assumption) ?_
    rotate_left 1
    focus (intro w_ hSw_; go_simp; try with_reducible rfl)
    simp only [Act.put, List.setIfInBounds_toArray, List.set_cons_zero, List.set_cons_succ]
    refine wpAnyH_take (i := 4) (v := ?_) (by simp only [List.getElem?_toArray, List.getElem?_cons_succ, List.getElem?_cons_zero]; rfl) (by kernel_rfl) (by kernel_rfl) (by kernel_rfl) (by intro _ _ _ h_; exact h_) (Or.inl ⟨by rfl, ?_⟩) (by assumption) ?_
    rotate_left 1
    focus (intro w_ hSw_; go_simp; try with_reducible rfl)
    simp only [Act.put, List.setIfInBounds_toArray, List.set_cons_zero, List.set_cons_succ]
    refine wpAnyH_take (i := 5) (v := ?_) (by simp only [List.getElem?_toArray, List.getElem?_cons_succ, List.getElem?_cons_zero]; rfl) (by kernel_rfl) (by kernel_rfl) (by kernel_rfl) (by intro _ _ _ h_; exact h_) (Or.inl ⟨by rfl, ?_⟩) (by assumption) ?_
    rotate_left 1
    focus (intro w_ hSw_; go_simp; try with_reducible rfl)
    simp only [Act.put, List.setIfInBounds_toArray, List.set_cons_zero, List.set_cons_succ]
    refine wpAnyH_ready (rs := [6]) (by kernel_rfl) (by simp) ?_
    refine AllReadyH.cons (by simp only [List.getElem?_toArray, List.getElem?_cons_succ, List.getElem?_cons_zero]; rfl) (fun K hK => ?_) AllReadyH.nil
    go_simp
    refine Hrw.out.mono ?_
    rintro e w7 ⟨rfl, hd7⟩
    have hd17 : Drn w1 w7 := (⟨1, rfl⟩ : Drn w1 w1.drew).trans hd7
    have HT7 := Lib.hid (HT1.out.later (hd17.below _))
    have Hou7 := Lib.hid (Ho1.out.later (hd17.below _))
    have k1 : w7.cell? ⟨T, 1, none⟩ = some (.pointer (some ⟨H2, 0, none⟩)) := HT7.out.t.cell (i := 1) rfl
    have k2 : w7.cell? ⟨X, 2, none⟩ = some (.slice ao n cap) := (HX1.out.drn hd17).cell (i := 2) rfl
    clear hd7 hd17 HT1 Ho1 Hru HX1 Hrw
    go_wp2_with fail
    refine hK.out _ _ ⟨k1, k2⟩ (fun hHeld => ?_)
    clear hHeld
    clear hK K
    try simp only [Act.put, List.setIfInBounds_toArray, List.set_cons_zero, List.set_cons_succ]
    have hHeld := And.intro k1 k2
    refine wpAnyH_take (i := 7) (v := ?_) (by simp only [List.getElem?_toArray, List.getElem?_cons_succ, List.getElem?_cons_zero]; rfl) (by kernel_rfl) (by kernel_rfl) (by kernel_rfl) (by intro _ _ _ h_; exact h_) (Or.inl ⟨by rfl, ?_⟩) (by assumption) ?_
    rotate_left 1
    focus (intro w_ hSw_; go_simp; try with_reducible rfl)
    simp only [Act.put, List.setIfInBounds_toArray, List.set_cons_zero, List.set_cons_succ]
    refine wpAnyH_done (by kernel_rfl) ?_ _
    clear hHeld k1
    have Hst := Lib.hid (still_any ao g n C cap w0.heap.size l w7 Hl.out (by have := Hn.out; omega) HC.out.1 (Hr.out _ HT7.out.v.bl) Hou7.out)
    go_wp2_with fail
    clear k2
    refine Hst.out.mono ?_
    rintro e w5 ⟨rfl, hd5⟩
    have HT5 : Hid (Tw W.heap.size T H1 H2 k st N va vb lv wv L es (c + 1048576) (d + 1) W w5) := Lib.hid ⟨HT7.out.t.drn hd5, (HT7.out.v.later (hd5.below _)).mono (by omega) (by omega)⟩
    have Hou5 := Lib.hid (Hou7.out.later (hd5.below _))
    have HPg : Hid (∀ q, pairF H1 H2 va vb q → ¬ q = g) := Lib.hid (fun q hq e => by have := (Hpr.out q hq).1; have := Hg.out.1; omega)
    clear hd5 Hst HT7 Hou7 Hpr
    go_upto_region 8 with fail
    as_aux_lemma =>
    go_loopw [9] (fun i wr => FillIn w0.heap.size g n C w5 i wr) (fun i _ => n - (intOf i).toNat)
    case atStart => exact ⟨0, l ++ [77], Nat.zero_le _, by rw [List.length_append, Hl.out]; rfl, rfl, Hou5.out, Frm.refl _ _⟩
    case round =>
      as_aux_lemma =>
      obtain ⟨t, lt, ht, hlt, rfl, ho, hf⟩ := hrel
      have hn := Hn.out
      by_cases htn : t < n
      · have i1 : (t : Int) < (n : Int) := by omega
        obtain ⟨-, -, -, -, -, hc, hfz⟩ := ho.at
        have hct := hc t (by omega)
        have hft := hfz t
        have Hstep := Lib.hid (fill_step ho hlt hf t htn 98)
        have Hlt2 := Lib.hid hlt
        clear hc hfz ho hf hlt
        go_wp2_with fail
        first
        | (go_roundw
           case rel => exact ⟨t + 1, _, by omega, by rw [List.length_set]; exact Hlt2.out, by go_num, Hstep.out.1, Hstep.out.2⟩
           case measure => (first | omega | (simp [intOf] <;> omega) | (simp only [intOf] <;> omega)))
        | exact ⟨⟨t + 1, _, by omega, by rw [List.length_set]; exact Hlt2.out, by go_num, Hstep.out.1, Hstep.out.2⟩, by (first | omega | (simp [intOf] <;> omega) | (simp only [intOf] <;> omega))⟩
        | (refine ⟨?_, by (first | omega | (simp [intOf] <;> omega) | (simp only [intOf] <;> omega))⟩
           (repeat apply Exists.intro)
           refine (fun a b => And.intro b a) ?_ ?_
           · first | rfl | ((repeat refine ⟨rfl, ?_⟩); rfl)
           exact ⟨t + 1, _, by omega, by rw [List.length_set]; exact Hlt2.out, by go_num, Hstep.out.1, Hstep.out.2⟩)
      · have i1 : ¬ (t : Int) < (n : Int) := by omega
        have HF := Lib.hid (HT5.out.other hf (fun q e => by have := HBw.out; have := Hg.out; omega) (by have := HTg.out; have := Hg.out; omega) (fun q hq => HPg.out q hq) (fun q hq e => by have := Hlst.out q hq; have := Hg.out; omega))
        clear ho hf hn hlt
        go_wp2_with fail
        go_ret
        exact ⟨rfl, _, _, _, ⟨_, _, _, _, _, _, _, _, HF.out, fun _ _ => id⟩⟩
end Go.Proofs.YtngkelflfahjbaaDoor
