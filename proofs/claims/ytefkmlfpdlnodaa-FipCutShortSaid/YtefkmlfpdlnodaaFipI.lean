/- The bytes of an image: the program's. No condition. -/
import Derived.Test.YtefkmlfpdlnodaaFipQ
import Derived.Shelf.Abstract
import Derived.Deep.RegionHeld3
import Derived.Deep.DrawnRows
set_option linter.unusedVariables false
set_option linter.unusedSimpArgs false
namespace Go.Proofs.Ytefkmlfpdlnodaa
open Go.RowKit
attribute [local go_sem ↓] build_en store_en load_en load_gu store_gu build_gu bs_en Go.wp_at_zero Go.wp_at_succ
theorem fresh_en_box (w : World) (e : En) : HB (w.alloc (.cells (enc e).toArray 32)) w.heap.size 32 (enc e) := HB.new _ _ _
set_option maxHeartbeats 400000 in
theorem pimg1_any (e : En) (g : Gu) (gb : Nat) (w : World) (hg : HB w gb 30 (guc g)) :
    Calls Try.prog 24 #[.agg (enc e).toArray, .pointer (some ⟨gb, 0, none⟩)] w fun r w' => r = .returned (.bool (decide (e.id = g))) ∧ Below w.heap.size w w' := by
  have hl1 := run_loadGu (rangeGu (fresh_en_box w e))
  have hl2 := run_loadGu ((hg.alloc (.cells (enc e).toArray 32)).whole)
  have heq := fun w => gu_equal e.id g w
  have hgd : Try.prog.eqGuardType Try.prog.depth 30 = false := by kernel_rfl
  have HB1 := Lib.hid ((Below.refl w.heap.size w).alloc (Nat.le_refl _) (.cells (enc e).toArray 32))
  clear hg
  generalize decide (e.id = g) = d at *
  go_enter Try.func24, Try.ntmps24
  go_wp2_with fail
  go_ret
  exact ⟨rfl, HB1.out⟩
structure IxIn (B gb : Nat) (g : Gu) (v : Value) (es : List En) (W : World) (i : Value) (wr : World) : Prop where
  x : ∃ k : Nat, k ≤ es.length ∧ i = .int .i64 k ∧ (∀ x ∈ es.take k, x.id ≠ g) ∧ HB wr gb 30 (guc g) ∧ OwnS enc 32 19 wr B v es ∧ Below W.heap.size W wr
set_option maxHeartbeats 400000 in
theorem pindex_any (B : Nat) (ao : Option Addr) (cp : Nat) (es : List En) (g : Gu) (gb : Nat) (w : World) (h32 : es.length ≤ 32) (ho : OwnS enc 32 19 w B (.slice ao es.length cp) es) (hg : HB w gb 30 (guc g)) :
    Calls Try.prog 23 #[.slice ao es.length cp, .func (.func 24) #[] #[.pointer (some ⟨gb, 0, none⟩)]] w fun r w' =>
      ((∃ (k : Nat) (x : En), r = .returned (.int .i64 k) ∧ es[k]? = some x ∧ es.find? (fun x => decide (x.id = g)) = some x) ∨ (r = .returned (.int .i64 (-1)) ∧ es.find? (fun x => decide (x.id = g)) = none)) ∧ Below w.heap.size w w' := by
  have eg : ∀ args w, (callFunc 24 args).run Try.prog w = .ok (.enter 24 args) w := fun args w => by kernel_rfl
  have HO := Lib.hid ho
  have HG := Lib.hid hg
  have H32 := Lib.hid h32
  clear ho hg h32
  go_enter Try.func23, Try.ntmps23
  go_wp2_with fail
  go_loopw [5, 8] (fun _ i wr => IxIn B gb g (.slice ao es.length cp) es w i wr) (fun _ i _ => es.length - (intOf i).toNat)
  case atStart => exact ⟨0, by omega, rfl, (fun x hx => by simp at hx), HG.out, HO.out, Below.refl _ _⟩
  case round =>
    as_aux_lemma =>
    clear HO HG
    obtain ⟨k, hk, rfl, hno, hg, ho, hb⟩ := hrel
    have HO := Lib.hid ho
    have HG := Lib.hid hg
    have HB1 := Lib.hid hb
    have Hno := Lib.hid hno
    clear ho hg hb hno
    by_cases hlt : k < es.length
    · obtain ⟨y, hy⟩ : ∃ y, es[k]? = some y := ⟨_, List.getElem?_eq_getElem hlt⟩
      obtain ⟨gx, hao⟩ : ∃ g, ao = some ⟨g, 0, none⟩ := by
        rcases HO.out.cases enc_len with ⟨_, h⟩ | ⟨g, _, h, _⟩
        · rw [h] at hlt; simp at hlt
        · cases h; exact ⟨g, rfl⟩
      subst hao
      have hle := run_loadEn (HO.out.range hy)
      have Hp := Lib.hid (fun w' h => pimg1_any y g gb w' h)
      have f0 : (0 : Int) ≤ (k : Int) := by omega
      have f1 : (k : Int) < (es.length : Int) := by omega
      have f3 : (k : Int) < 32 := by have := H32.out; omega
      by_cases hi : y.id = g
      · have hf : Hid (es.find? (fun x => decide (x.id = g)) = some y) := Lib.hid (by
          have h1 := List.getElem?_eq_some_iff.1 hy
          have h2 : es = es.take k ++ (y :: es.drop (k + 1)) := by
            rw [← h1.2, ← List.drop_eq_getElem_cons h1.1, List.take_append_drop]
          rw [h2, List.find?_append]
          have h3 : (es.take k).find? (fun x => decide (x.id = g)) = none := List.find?_eq_none.2 (fun x hx => by simp [Hno.out x hx])
          rw [h3, List.find?_cons, decide_eq_true hi]; rfl)
        rw [decide_eq_true hi] at Hp
        have Hy := Lib.hid hy
        clear hi hy hlt hk
        go_wp2_with (go_at_fn 24; refine (Hp.out _ HG.out).mono ?_; rintro r w' ⟨rfl, hb'⟩)
        have hd2 := HB1.out.trans (hb'.mono HB1.out.size)
        go_wp2_with fail
        go_ret
        exact ⟨Or.inl ⟨k, y, rfl, Hy.out, hf.out⟩, hd2⟩
      · rw [decide_eq_false hi] at Hp
        have Hn1 : Hid (∀ x ∈ es.take (k + 1), x.id ≠ g) := Lib.hid (fun x hx => by
          rw [List.take_add_one, hy, List.mem_append] at hx
          rcases hx with hx | hx
          · exact Hno.out x hx
          · simp at hx; subst hx; exact hi)
        clear hi hy hlt hk
        go_wp2_with (go_at_fn 24; refine (Hp.out _ HG.out).mono ?_; rintro r w' ⟨rfl, hb'⟩)
        have hd2 := Lib.hid (HB1.out.trans (hb'.mono HB1.out.size))
        have HO2 := Lib.hid (HO.out.later hb')
        have HG2 := Lib.hid (HG.out.later hb')
        clear hb' hle
        go_wp2_with fail
        first
        | (go_roundw
           case rel => exact ⟨k + 1, by omega, by go_num, Hn1.out, HG2.out, HO2.out, hd2.out⟩
           case measure => (first | omega | (simp [intOf] <;> omega) | (simp only [intOf] <;> omega)))
        | exact ⟨⟨k + 1, by omega, by go_num, Hn1.out, HG2.out, HO2.out, hd2.out⟩, by (first | omega | (simp [intOf] <;> omega) | (simp only [intOf] <;> omega))⟩
        | (refine ⟨?_, by (first | omega | (simp [intOf] <;> omega) | (simp only [intOf] <;> omega))⟩
           (repeat apply Exists.intro)
           refine (fun a b => And.intro b a) ?_ ?_
           · first | rfl | ((repeat refine ⟨rfl, ?_⟩); rfl)
           exact ⟨k + 1, by omega, by go_num, Hn1.out, HG2.out, HO2.out, hd2.out⟩)
    · obtain rfl : k = es.length := by omega
      have hf : es.find? (fun x => decide (x.id = g)) = none := List.find?_eq_none.2 (fun x hx => by have := Hno.out x (by rw [List.take_of_length_le (Nat.le_refl _)]; exact hx); simp [this])
      have Hf := Lib.hid hf
      clear hf hlt
      go_wp2_with fail
      go_ret
      exact ⟨Or.inr ⟨rfl, Hf.out⟩, HB1.out⟩
theorem imageR_none {l : List UInt8} {c : Int} (h : openR l = (none, c)) (g : Gu) : imageR l g = ([], c) := by unfold imageR; rw [h]
theorem imageR_miss {l : List UInt8} {es : List En} {c : Int} {g : Gu} (h : openR l = (some es, c)) (hf : es.find? (fun x => decide (x.id = g)) = none) : imageR l g = ([], 197) := by unfold imageR; rw [h]; simp only [hf]
theorem imageR_hit {l : List UInt8} {es : List En} {c : Int} {g : Gu} {x : En} (h : openR l = (some es, c)) (hf : es.find? (fun x => decide (x.id = g)) = some x) : imageR l g = (piece l x.off x.sz, 0) := by unfold imageR; rw [h]; simp only [hf]
theorem openR_some {l : List UInt8} {es : List En} {c : Int} (h : openR l = (some es, c)) : c = 0 ∧ 16 ≤ l.length ∧ l.length ≤ 131072 ∧ ∃ e, tabR l = (some (es, e), 0) ∧ chkGo l.length e [] es = 0 := by
  unfold openR at h
  split at h
  · cases h
  · rename_i h1
    split at h
    · cases h
    · rename_i es' e c' ht
      split at h
      · rename_i hc
        cases h
        obtain ⟨rfl, _⟩ := tabR_ok ht
        refine ⟨rfl, ?_, ?_, e, ht, hc⟩
        · have := fun h => h1 (Or.inl h); omega
        · have := fun h => h1 (Or.inr (Or.inl h)); omega
      · cases h
theorem openR_fail {l : List UInt8} {c : Int} (h : openR l = (none, c)) : c ≠ 0 := by
  unfold openR at h
  split at h
  · cases h; decide
  · split at h
    · rename_i c' ht
      cases h
      exact tabGo_none _ _ _ ht
    · split at h
      · cases h
      · rename_i hc
        cases h
        exact hc
theorem openR_fit {l : List UInt8} {es : List En} {c : Int} (h : openR l = (some es, c)) {x : En} (hx : x ∈ es) : x.sz ≠ 0 ∧ x.off ≤ l.length ∧ x.sz ≤ l.length - x.off ∧ x.Ok ∧ es.length ≤ 32 := by
  obtain ⟨_, _, _, e, ht, hc⟩ := openR_some h
  obtain ⟨h1, h2, h3, h4⟩ := badE_false (chkGo_in _ _ hc x hx)
  obtain ⟨_, h5, h6, _⟩ := tabR_ok ht
  exact ⟨h1, h3, h4, h6 x hx, h5⟩
set_option maxRecDepth 100000 in
set_option maxHeartbeats 400000 in
theorem pimage_any (ao : Option Addr) (n cap : Nat) (l : List UInt8) (g : Gu) (w : World) (hl : l.length = n) (hcap : n ≤ cap) (hcm : n ≤ 140737488351232) (hcz : ao = none → cap = 0) (hr : Rd w ao l) :
    Calls Try.prog 14 #[.slice ao n cap, .agg (guc g).toArray] w fun e w' => ∃ v, e = .returned (.tuple #[v, .int .i64 (imageR l g).2]) ∧ Own 5 w' w.heap.size v (imageR l g).1 ∧ Below w.heap.size w w' := by
  have hb0 := (Below.refl w.heap.size w).alloc (Nat.le_refl _) (.cells (guc g).toArray 30)
  have Hb0 := Lib.hid hb0
  have Hr0 := Lib.hid (hr.below hb0)
  have HG0 := Lib.hid (HB.new w (guc g) 30)
  have Hop := Lib.hid (popen_any ao n cap l _ hl hcap hcm Hr0.out)
  have Hl := Lib.hid hl
  have Hcap := Lib.hid hcap
  have Hcm := Lib.hid hcm
  have Hcz := Lib.hid hcz
  have Hs0 : Hid (w.heap.size ≤ (w.alloc (.cells (guc g).toArray 30)).heap.size) := Lib.hid hb0.size
  clear hb0 hr hl hcap hcm hcz
  go_enter Try.func14, Try.ntmps14
  go_wp2_with fail
  as_aux_lemma =>
  generalize w.alloc (.cells (guc g).toArray 30) = w1 at *
  refine Hop.out.mono ?_
  rintro e w2 ⟨v, rfl, hsaid, hb2⟩
  have Hb2 := Lib.hid (Hb0.out.trans (hb2.mono Hs0.out))
  have Hr2 := Lib.hid (Hr0.out.below hb2)
  have HG2 := Lib.hid (HG0.out.later hb2)
  have Hs2 : Hid (w.heap.size ≤ w2.heap.size) := Lib.hid (Nat.le_trans Hs0.out hb2.size)
  rcases hsaid.x with ⟨es, hes, hown⟩ | ⟨hno, rfl⟩
  case inr =>
    have htr : openR l = (none, (openR l).2) := Prod.ext hno rfl
    have hres := Lib.hid (imageR_none htr g)
    have hne := openR_fail htr
    generalize (openR l).2 = c at *
    have e3 : (c == 0) = false := beq_eq_false_iff_ne.2 hne
    have e4 : (c != 0) = true := by rw [bne, e3]; rfl
    clear hno htr hne hsaid hb2
    go_wp2_with fail
    go_ret2
    exact ⟨.slice none 0 0, by rw [hres.out]; rfl, by rw [hres.out]; exact Own.nil _ _ _, Hb2.out⟩
  have htr : openR l = (some es, (openR l).2) := Prod.ext hes rfl
  have h00 := (openR_some htr).1
  have Hop2 := Lib.hid htr
  rw [h00]
  have HO2 := Lib.hid (hown.mono Hs0.out)
  obtain ⟨ao2, cp, rfl, hcp, hcm2, -, -⟩ := HO2.out.rd enc_len
  have h32 : es.length ≤ 32 := by
    obtain ⟨_, _, _, e, ht, _⟩ := openR_some htr
    exact (tabR_ok ht).2.1
  have Hix := Lib.hid (pindex_any w.heap.size ao2 cp es g w.heap.size w2 h32 HO2.out HG2.out)
  have H32 := Lib.hid h32
  clear hes htr h00 hown hsaid hb2 h32 hcp hcm2
  go_wp2_with fail
  as_aux_lemma =>
  refine Hix.out.mono ?_
  rintro r w3 ⟨hk, hb3⟩
  have Hb3 := Lib.hid (Hb2.out.trans (hb3.mono Hs2.out))
  have Hr3 := Lib.hid (Hr2.out.below hb3)
  have HO3 := Lib.hid (HO2.out.later hb3)
  have Hs3 : Hid (w.heap.size ≤ w3.heap.size) := Lib.hid (Nat.le_trans Hs2.out hb3.size)
  clear hb3 Hb2 Hr2 HO2 Hs2
  rcases hk with ⟨k, x, rfl, hx, hf⟩ | ⟨rfl, hf⟩
  case inr =>
    have hres := Lib.hid (imageR_miss Hop2.out hf)
    clear hf
    go_wp2_with fail
    go_ret2
    exact ⟨.slice none 0 0, by rw [hres.out]; rfl, by rw [hres.out]; exact Own.nil _ _ _, Hb3.out⟩
  have hres := Lib.hid (imageR_hit Hop2.out hf)
  have hlt := (List.getElem?_eq_some_iff.1 hx).1
  obtain ⟨gx, hao⟩ : ∃ g, ao2 = some ⟨g, 0, none⟩ := by
    rcases HO3.out.cases enc_len with ⟨_, h⟩ | ⟨g, _, h, _⟩
    · rw [h] at hlt; simp at hlt
    · cases h; exact ⟨g, rfl⟩
  subst hao
  obtain ⟨z1, z2, z3, z4, -⟩ := openR_fit Hop2.out (List.mem_of_getElem? hx)
  have hr0 := HO3.out.range hx
  have c16 := hr0 16 _ (enc_off x)
  have c17 := hr0 17 _ (enc_sz x)
  have Hgl : Hid (gx < w3.heap.size) := Lib.hid (HO3.out.blk enc_len gx rfl).2
  have hfit : fitsB x.off x.sz n = true := by have := Hl.out; unfold fitsB; simp; omega
  have hcut : cutR l x.off x.sz = piece l x.off x.sz := by unfold cutR piece; rw [Hl.out, if_pos hfit]
  have hce : cutE n x.off x.sz = 0 := by unfold cutE; rw [if_pos hfit]
  have Hct := Lib.hid (fun (w' : World) (h : Rd w' ao l) => cut_any ao n cap x.off x.sz l w' Hl.out Hcap.out Hcm.out Hcz.out h z4.o z4.s)
  rw [hcut, hce] at Hct
  have f0 : (0 : Int) ≤ (k : Int) := by omega
  have f1 : (k : Int) < (es.length : Int) := by omega
  have f2 : ¬ ((k : Int) < 0) := by omega
  clear hf hlt hx hfit hcut hce hr0 z1 z2 z3 z4
  go_wp2_with fail
  as_aux_lemma =>
  have hd0 : Drn w3 w3.drew := ⟨1, rfl⟩
  have Hr4 := Lib.hid (hd0.rd Hr3.out)
  have Hb4 := Lib.hid (Hb3.out.trans (hd0.below _))
  have Hs4 : Hid (w.heap.size ≤ w3.drew.heap.size) := Lib.hid Hs3.out
  have Hgl4 : Hid (gx < w3.drew.heap.size) := Lib.hid Hgl.out
  have hc0 : w3.drew.cell? ⟨gx, k * 19 + 16, none⟩ = some (.int .u64 x.off) ∧ w3.drew.cell? ⟨gx, k * 19 + 17, none⟩ = some (.int .u64 x.sz) := ⟨c16, c17⟩
  have Hkp : Hid (∀ w', Below w3.drew.heap.size w3.drew w' → w'.cell? ⟨gx, k * 19 + 16, none⟩ = some (.int .u64 x.off) ∧ w'.cell? ⟨gx, k * 19 + 17, none⟩ = some (.int .u64 x.sz)) := Lib.hid fun w' h => ⟨(h.cell (p := ⟨gx, k * 19 + 16, none⟩) Hgl4.out).trans hc0.1, (h.cell (p := ⟨gx, k * 19 + 17, none⟩) Hgl4.out).trans hc0.2⟩
  have Hct4 := Lib.hid (Hct.out _ Hr4.out)
  clear Hr3 Hb3 Hs3 hd0 Hgl
  go_region_held3 (fun w' => w'.cell? ⟨gx, k * 19 + 16, none⟩ = some (.int .u64 x.off) ∧ w'.cell? ⟨gx, k * 19 + 17, none⟩ = some (.int .u64 x.sz))
    (first | exact hc0 | go_keep | exact Hkp.out _ hb5)
    (first
      | (go_at_call 25
         refine Hct4.out.mono ?_
         rintro r w5 ⟨v5, rfl, ho5, hb5⟩))
  all_goals
    have HBf := Lib.hid (Hb4.out.trans (hb5.mono Hs4.out))
    have HOf := Lib.hid (ho5.mono Hs4.out)
    clear ho5 hb5
    go_wp2_with fail
    go_ret2
    exact ⟨v5, by rw [hres.out]; rfl, by rw [hres.out]; exact HOf.out, HBf.out⟩
end Go.Proofs.Ytefkmlfpdlnodaa
