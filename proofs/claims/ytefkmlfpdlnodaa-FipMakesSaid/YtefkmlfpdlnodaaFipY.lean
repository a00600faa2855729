/- A package made, by the document. No condition. -/
import Derived.Test.YtefkmlfpdlnodaaFipX
import Derived.Test.YtefkmlfpdlnodaaAppZ
import Derived.Lib.AppendZeros
import Derived.BigQuiet
import Derived.Deep.RegionHeld3
import Derived.Deep.DrawnRows
set_option linter.unusedVariables false
set_option linter.unusedSimpArgs false
namespace Go.Proofs.Ytefkmlfpdlnodaa
open Go.RowKit
attribute [local go_sem ↓] build_en store_en load_en load_gu store_gu build_gu bs_en Go.wp_at_zero Go.wp_at_succ
/-- the two lists of the call's own -/
structure Two (B gb : Nat) (vt vd : Value) (tab data : List UInt8) (W w : World) : Prop where
  t : Own 5 w B vt tab
  d : Own 5 w B vd data
  ne : ∀ q, vt.ownBlock = some q → vd.ownBlock ≠ some q
  g : HB w gb 30 (guc gz)
  lt : gb < B
  b : Below gb W w
  s : B ≤ w.heap.size
theorem Two.later {B gb : Nat} {vt vd : Value} {tab data : List UInt8} {W w w' : World} (h : Two B gb vt vd tab data W w) (hb : Below w.heap.size w w') : Two B gb vt vd tab data W w' :=
  ⟨h.t.later hb, h.d.later hb, h.ne, h.g.later hb, h.lt, h.b.trans (hb.mono (Nat.le_trans (Nat.le_of_lt h.lt) h.s)), Nat.le_trans h.s hb.size⟩
theorem Two.tab {B gb : Nat} {vt vt' vd : Value} {tab tab' data : List UInt8} {W w w' : World} (h : Two B gb vt vd tab data W w) (ho : Own 5 w' B vt' tab') (hg : Gr w w' vt vt') : Two B gb vt' vd tab' data W w' :=
  ⟨ho, h.d.grown hg.g (fun k hk e => h.ne k e hk), fun q hq hd => by
    rcases hg.k q hq with h1 | h1
    · exact h.ne q h1 hd
    · have := (own_blk h.d hd).2; omega, h.g.grown hg.g (fun e => by have := (own_blk h.t e.symm).1; have := h.lt; omega), h.lt,
    h.b.trans ((Below.refl gb w).grown hg.g (Nat.le_trans (Nat.le_of_lt h.lt) h.s) (fun q hq => Nat.le_trans (Nat.le_of_lt h.lt) (own_blk h.t hq).1)), Nat.le_trans h.s hg.g.size⟩
theorem Two.data {B gb : Nat} {vt vd vd' : Value} {tab data data' : List UInt8} {W w w' : World} (h : Two B gb vt vd tab data W w) (ho : Own 5 w' B vd' data') (hg : Gr w w' vd vd') : Two B gb vt vd' tab data' W w' :=
  ⟨h.t.grown hg.g (fun k hk e => h.ne k hk e), ho, fun q hq hd => by
    rcases hg.k q hd with h1 | h1
    · exact h.ne q hq h1
    · have := (own_blk h.t hq).2; omega, h.g.grown hg.g (fun e => by have := (own_blk h.d e.symm).1; have := h.lt; omega), h.lt,
    h.b.trans ((Below.refl gb w).grown hg.g (Nat.le_trans (Nat.le_of_lt h.lt) h.s) (fun q hq => Nat.le_trans (Nat.le_of_lt h.lt) (own_blk h.d hq).1)), Nat.le_trans h.s hg.g.size⟩
structure MkRIn (B gb n fr : Nat) (ids : List Gu) (Z : List (Gu × List UInt8)) (W : World) (a vt vd i : Value) (wr : World) : Prop where
  x : ∃ (k : Nat) (tab data : List UInt8) (ut ud : Value), k ≤ n ∧ i = .int .i64 k ∧ a = .int .i64 ((fr + data.length : Nat) : Int) ∧ ut = vt ∧ ud = vd ∧ makeGo fr [] headB [] Z = makeGo fr (ids.take k) tab data (Z.drop k) ∧ Two B gb ut ud tab data W wr ∧ tab.length = 16 + 40 * k ∧ data.length ≤ 131072
structure TwIn (g : Gu) (ids : List Gu) (k : Nat) (W : World) (i : Value) (wr : World) : Prop where
  x : ∃ j : Nat, j ≤ k ∧ i = .int .i64 j ∧ g ∉ ids.take j ∧ Drn W wr
structure IdIn (B gb : Nat) (vd : Value) (g : Gu) (tab data : List UInt8) (W : World) (b i : Value) (wr : World) : Prop where
  x : ∃ (j : Nat) (u : Value), j ≤ 16 ∧ i = .int .i64 j ∧ u = b ∧ Two B gb u vd (tab ++ g.1.take j) data W wr
set_option maxRecDepth 100000 in
set_option maxHeartbeats 1000000 in
theorem rmake_any (a1 a2 : Option Addr) (n n2 c1 c2 : Nat) (ids : List Gu) (ims : List Im) (w : World) (hl1 : ids.length = n) (hl2 : ims.length = n2) (hn : n ≤ 140737488351232) (hn2 : n2 ≤ 140737488351232) (hc1 : n ≤ c1) (hr1 : RdS guc 16 w a1 ids) (hr2 : RdS imc 1 w a2 ims) (hok : ∀ m ∈ ims, Im.Ok w m) :
    Calls Try.prog 17 #[.slice a1 n c1, .slice a2 n2 c2] w fun e w' => ∃ v, e = .returned (.tuple #[v, .int .i64 (makeR ids (ims.map Im.l)).2]) ∧ Own 5 w' w.heap.size v (makeR ids (ims.map Im.l)).1 ∧ Below w.heap.size w w' := by
  by_cases hne : n = n2
  case neg =>
    have hres := Lib.hid (makeR_arg (ids := ids) (imgs := ims.map Im.l) (Or.inl (by rw [List.length_map]; omega)))
    have e1 : ((n : Int) == (n2 : Int)) = false := beq_eq_false_iff_ne.2 (by omega)
    have e2 : ((n : Int) != (n2 : Int)) = true := by rw [bne, e1]; rfl
    have HBf := Lib.hid (Below.refl w.heap.size w)
    clear hne hr1 hr2 hok
    go_enter Try.func17, Try.ntmps17
    go_wp2_with fail
    go_ret2
    exact ⟨.slice none 0 0, by rw [hres.out]; rfl, by rw [hres.out]; exact Own.nil _ _ _, HBf.out⟩
  subst hne
  by_cases h32 : 32 < n
  · have hres := Lib.hid (makeR_arg (ids := ids) (imgs := ims.map Im.l) (Or.inr (by omega)))
    have e1 : (32 : Int) < (n : Int) := by omega
    have HBf := Lib.hid (Below.refl w.heap.size w)
    clear hr1 hr2 hok
    go_enter Try.func17, Try.ntmps17
    go_wp2_with fail
    go_ret2
    exact ⟨.slice none 0 0, by rw [hres.out]; rfl, by rw [hres.out]; exact Own.nil _ _ _, HBf.out⟩
  have Harg : Hid (¬ (ids.length ≠ (ims.map Im.l).length ∨ 32 < ids.length)) := Lib.hid (by rw [List.length_map]; omega)
  have e1 : ¬ ((32 : Int) < (n : Int)) := by omega
  have hbz := run_buildGz w
  have hst := freshGu_st w gz
  have HF := Lib.hid (freshGu_hb w gz)
  have HFb := Lib.hid (freshGu_below w gz)
  have HR1 := Lib.hid hr1
  have HR2 := Lib.hid hr2
  have HOk := Lib.hid hok
  have Hl1 := Lib.hid hl1
  have Hl2 := Lib.hid hl2
  have H32 := Lib.hid h32
  have Hc1 := Lib.hid hc1
  obtain ⟨fr, hfr⟩ : ∃ fr, 16 + 40 * (n + 1) = fr := ⟨_, rfl⟩
  have hfr2 : fr ≤ 1336 := by omega
  have q1 : IntKind.i64.wrap ((n : Int) + 1) = ((n + 1 : Nat) : Int) := by simp [IntKind.wrap, IntKind.bits, IntKind.signed]; omega
  have q2 : IntKind.i64.wrap (40 * ((n : Int) + 1)) = 40 * ((n : Int) + 1) := by simp [IntKind.wrap, IntKind.bits, IntKind.signed]; omega
  have q3 : IntKind.i64.wrap (16 + 40 * ((n : Int) + 1)) = (fr : Int) := by rw [← hfr]; simp [IntKind.wrap, IntKind.bits, IntKind.signed]; omega
  have Hfr := Lib.hid hfr
  clear hr1 hr2 hok h32 hl1 hl2 hn hn2 hc1 hfr
  go_enter Try.func17, Try.ntmps17
  go_wp2_with fail
  as_aux_lemma =>
  have Hs0 : Hid (w.heap.size + 1 ≤ (freshGu w gz).heap.size) := Lib.hid (by have := HF.out.lt; omega)
  generalize freshGu w gz = w1 at *
  obtain ⟨gb, hgb⟩ : ∃ gb, w.heap.size = gb := ⟨_, rfl⟩
  rw [hgb] at HF HFb Hs0 ⊢
  have HBx := Lib.hid hgb
  clear hgb hst hbz q1 q2 q3
  have HT1 : Hid (Two (gb + 1) gb (.slice none 0 0) (.slice none 0 0) [] [] w w1) := Lib.hid ⟨Own.nil _ _ _, Own.nil _ _ _, fun q h => (by cases h), HF.out, Nat.lt_succ_self _, HFb.out, Hs0.out⟩
  clear HF HFb Hs0
  refine (rput_any (gb + 1) _ [] 4 2858680321 w1 HT1.out.t (by decide) (by decide) HT1.out.s (by decide)).mono ?_
  rintro e w2 ⟨v2, rfl, ho2, hg2, hs2⟩
  have HT2 := Lib.hid (HT1.out.tab ho2 hg2)
  clear ho2 hg2 hs2 HT1
  go_wp2_with fail
  refine (rput_any (gb + 1) _ _ 4 305419896 w2 HT2.out.t (by decide) (by decide) HT2.out.s (by simp [encL_length])).mono ?_
  rintro e w3 ⟨v3, rfl, ho3, hg3, hs3⟩
  have HT3 := Lib.hid (HT2.out.tab ho3 hg3)
  clear ho3 hg3 hs3 HT2
  go_wp2_with fail
  refine (rput_any (gb + 1) _ _ 8 0 w3 HT3.out.t (by decide) (by decide) HT3.out.s (by simp [encL_length])).mono ?_
  rintro e w4 ⟨v4, rfl, ho4, hg4, hs4⟩
  have HT4 : Hid (Two (gb + 1) gb v4 (.slice none 0 0) headB [] w w4) := Lib.hid (HT3.out.tab ho4 hg4)
  clear ho4 hg4 hs4 HT3
  go_wp2_with fail
  as_aux_lemma =>
  have HZ : Hid (∀ (k : Nat) (g : Gu) (m : Im), ids[k]? = some g → ims[k]? = some m → (ids.zip (ims.map Im.l)).drop k = (g, m.l) :: (ids.zip (ims.map Im.l)).drop (k + 1)) := Lib.hid fun k g m h1 h2 => by
    have h3 : (ids.zip (ims.map Im.l))[k]? = some (g, m.l) := by
      rw [List.getElem?_zip_eq_some, List.getElem?_map, h2]; exact ⟨h1, rfl⟩
    have h4 := List.getElem?_eq_some_iff.1 h3
    rw [List.drop_eq_getElem_cons h4.1, h4.2]
  go_loopw [7, 8, 9, 10, 11, 12] (fun a vt vd i _ _ wr => MkRIn (gb + 1) gb n fr ids (ids.zip (ims.map Im.l)) w a vt vd i wr) (fun _ _ _ i _ _ _ => n - (intOf i).toNat)
  case atStart => exact ⟨0, headB, [], v4, _, by omega, rfl, rfl, rfl, rfl, rfl, HT4.out, (by unfold headB; simp [encL_length]), by decide⟩
  case round =>
    as_aux_lemma =>
    clear HT4
    obtain ⟨k, tab, data, vt, vd, hk, rfl, rfl, rfl, rfl, hgo, ht, htl, hdl⟩ := hrel
    have Hgo := Lib.hid hgo
    have HT := Lib.hid ht
    have Htl := Lib.hid htl
    have Hdl := Lib.hid hdl
    clear hgo ht htl hdl
    by_cases hlt : k < n
    · obtain ⟨g, hg⟩ : ∃ g, ids[k]? = some g := ⟨_, List.getElem?_eq_getElem (by have := Hl1.out; omega)⟩
      obtain ⟨m, hm⟩ : ∃ m, ims[k]? = some m := ⟨_, List.getElem?_eq_getElem (by have := Hl2.out; omega)⟩
      have HRw := Lib.hid (HR1.out.below (by rw [HBx.out]; exact HT.out.b))
      obtain ⟨b1, o1, rfl, hb1l, hrg0⟩ := HRw.out k g hg
      have hrg : wr.rangeAt b1 (o1 + k * 16) (guc g) := fun j v hj => hrg0 j v hj
      obtain ⟨b2, o2, rfl, hb2l, hc2⟩ := HR2.out k m hm
      have hb1g : b1 < gb := by
        obtain ⟨b', o', e', h', _⟩ := HR1.out k g hg
        cases e'; rw [← HBx.out]; exact h'
      have Hb1g := Lib.hid hb1g
      have Hb2g : Hid (b2 < gb) := Lib.hid (by rw [← HBx.out]; exact hb2l)
      have hmo := HOk.out m (List.mem_of_getElem? hm)
      have hl1 := run_loadGu hrg
      have hl1d := fun q => run_loadGu (w := wr.drewN q) (b := b1) (o := o1 + k * 16) (g := g) (fun j v hj => hrg j v hj)
      have hl2 := run_loadGu HT.out.g.whole
      have hl2d := fun q => run_loadGu (HT.out.g.drn (⟨q, rfl⟩ : Drn wr (wr.drewN q))).whole
      have heq := fun w => gu_equal g gz w
      have hgd : Try.prog.eqGuardType Try.prog.depth 30 = false := by kernel_rfl
      have Hrg := Lib.hid hrg
      have Hdr := Lib.hid (HZ.out k g m hg hm)
      have Htk : Hid (ids.take (k + 1) = ids.take k ++ [g]) := Lib.hid (by rw [List.take_add_one, hg]; rfl)
      have Hg := Lib.hid hg
      have Hmo := Lib.hid hmo
      have Hc2 := Lib.hid hc2
      have f0 : (0 : Int) ≤ (k : Int) := by omega
      have f1 : (k : Int) < (n : Int) := by omega
      obtain ⟨at_, hat⟩ : ∃ at_, fr + data.length = at_ := ⟨_, rfl⟩
      rw [hat]
      have Hat := Lib.hid hat
      have HRI : Hid (∀ w', Below gb w w' → w'.rangeAt b1 (o1 + k * 16) (guc g)) := Lib.hid (fun w' hb j v hj => by
        obtain ⟨b', o', e', _, h'⟩ := (HR1.out.below (by rw [HBx.out]; exact hb)) k g hg
        cases e'
        exact h' j v hj)
      clear hg hm hrg0 hrg hb1l hb1g hmo hc2 hb2l hat
      by_cases hz : g = gz
      · have hr := Lib.hid (show makeGo fr [] headB [] (ids.zip (ims.map Im.l)) = (none, 192) by rw [Hgo.out, Hdr.out, makeGo, if_pos hz])
        have hres := Lib.hid (makeR_none Harg.out (by rw [Hl1.out, Hfr.out]; exact hr.out))
        rw [decide_eq_true hz] at heq
        clear hz
        go_wp2_with fail
        go_quiet (fail)
        go_wp2_with fail
        go_ret2
        exact ⟨.slice none 0 0, by rw [hres.out]; rfl, by rw [hres.out]; exact Own.nil _ _ _, by rw [HBx.out]; exact (HT.out.later ((⟨nq, rfl⟩ : Drn wr (wr.drewN nq)).below _)).b⟩
      have Hz := Lib.hid hz
      rw [decide_eq_false hz] at heq
      clear hz
      go_wp2_with fail
      go_quiet (fail)
      go_wp2_with fail
      as_aux_lemma =>
      have HT5 := Lib.hid (HT.out.later ((⟨nq, rfl⟩ : Drn wr (wr.drewN nq)).below _))
      have Hr5 : Hid ((wr.drewN nq).rangeAt b1 (o1 + k * 16) (guc g)) := Lib.hid (fun j v hj => Hrg.out j v hj)
      clear hl1 hl1d hl2 hl2d heq Hrg HT HRw
      generalize wr.drewN nq = w5 at *
      go_loopw [11] (fun j wx => TwIn g ids k w5 j wx) (fun j _ => k - (intOf j).toNat)
      case atStart => exact ⟨0, by omega, rfl, by simp, Drn.refl _⟩
      case round =>
        as_aux_lemma =>
        obtain ⟨j, hj, rfl, hno, hd⟩ := hrel
        have HT6 := Lib.hid (HT5.out.later (hd.below _))
        have hr6 : wr.rangeAt b1 (o1 + k * 16) (guc g) := fun q v hq => by
          have := (hd.below (b1 + 1)).cell (p := ⟨b1, o1 + k * 16 + q, none⟩) (Nat.lt_succ_self _)
          rw [this]; exact Hr5.out q v hq
        have Hno := Lib.hid hno
        have Hd := Lib.hid hd
        clear HT5 Hr5 hno hd
        by_cases hjk : j < k
        · obtain ⟨y, hy⟩ : ∃ y, ids[j]? = some y := ⟨_, List.getElem?_eq_getElem (by have := Hl1.out; omega)⟩
          obtain ⟨b', o', e', _, hy0⟩ := (HR1.out.below (by rw [HBx.out]; exact HT6.out.b)) j y hy
          cases e'
          have hry : wr.rangeAt b1 (o1 + j * 16) (guc y) := fun q v hq => hy0 q v hq
          have hl1 := run_loadGu hry
          have hl1d := fun q => run_loadGu (w := wr.drewN q) (b := b1) (o := o1 + j * 16) (g := y) (fun j v hj => hry j v hj)
          have hl2 := run_loadGu hr6
          have hl2d := fun q => run_loadGu (w := wr.drewN q) (b := b1) (o := o1 + k * 16) (g := g) (fun j v hj => hr6 j v hj)
          have heq := fun w => gu_equal y g w
          have g0 : (0 : Int) ≤ (j : Int) := by omega
          have g1 : (j : Int) < (k : Int) := by omega
          have g2 : (j : Int) < (n : Int) := by omega
          have Hy := Lib.hid hy
          clear hy hy0 hry hr6
          by_cases hyg : y = g
          · have hin : g ∈ ids.take k := List.mem_of_getElem? (show (ids.take k)[j]? = some g by rw [List.getElem?_take_of_lt hjk, Hy.out, hyg])
            have hr := Lib.hid (show makeGo fr [] headB [] (ids.zip (ims.map Im.l)) = (none, 195) by rw [Hgo.out, Hdr.out, makeGo, if_neg Hz.out, if_pos hin])
            have hres := Lib.hid (makeR_none Harg.out (by rw [Hl1.out, Hfr.out]; exact hr.out))
            rw [decide_eq_true hyg] at heq
            clear hyg hin
            go_wp2_with fail
            go_quiet (fail)
            go_wp2_with fail
            go_ret2
            exact ⟨.slice none 0 0, by rw [hres.out]; rfl, by rw [hres.out]; exact Own.nil _ _ _, by rw [HBx.out]; exact (HT6.out.later ((⟨nq, rfl⟩ : Drn wr (wr.drewN nq)).below _)).b⟩
          · have Hn1 : Hid (g ∉ ids.take (j + 1)) := Lib.hid (by
              rw [List.take_add_one, Hy.out, List.mem_append]
              rintro (h | h)
              · exact Hno.out h
              · simp at h; exact hyg h.symm)
            have e32 := H32.out
            rw [decide_eq_false hyg] at heq
            clear hyg
            go_wp2_with fail
            go_quiet (fail)
            go_wp2_with fail
            first
            | (go_roundw
               case rel => exact ⟨j + 1, by omega, by go_num, Hn1.out, Hd.out.trans ⟨nq, rfl⟩⟩
               case measure => (first | omega | (simp [intOf] <;> omega) | (simp only [intOf] <;> omega)))
            | exact ⟨⟨j + 1, by omega, by go_num, Hn1.out, Hd.out.trans ⟨nq, rfl⟩⟩, by (first | omega | (simp [intOf] <;> omega) | (simp only [intOf] <;> omega))⟩
            | (refine ⟨?_, by (first | omega | (simp [intOf] <;> omega) | (simp only [intOf] <;> omega))⟩
               (repeat apply Exists.intro)
               refine (fun a b => And.intro b a) ?_ ?_
               · first | rfl | ((repeat refine ⟨rfl, ?_⟩); rfl)
               exact ⟨j + 1, by omega, by go_num, Hn1.out, Hd.out.trans ⟨nq, rfl⟩⟩)
        · obtain rfl : k = j := by omega
          clear hjk hr6
          have HCI : Hid (∀ w', Below gb w w' → w'.cell? ⟨b2, o2 + k, none⟩ = some (.slice m.ao m.l.length m.cap)) := Lib.hid (fun w' hb => by
            have := (hb.cell (p := ⟨b2, o2 + k * 1 + 0, none⟩) Hb2g.out).trans (Hc2.out 0 _ rfl)
            rw [Nat.mul_one, Nat.add_zero] at this
            exact this)
          have c2k := HCI.out _ HT6.out.b
          obtain ⟨D, hD⟩ : ∃ D : Int, 131072 - (at_ : Int) = D := ⟨_, rfl⟩
          have qd : IntKind.i64.wrap (131072 - (at_ : Int)) = D := by
            rw [hD]; have := Hat.out; have := Hdl.out; simp [IntKind.wrap, IntKind.bits, IntKind.signed]; omega
          have HD := Lib.hid hD
          clear hD
          have Hml : Hid (m.l.length ≤ 9223372036854775807) := Lib.hid (by have := Hmo.out.c; have := Hmo.out.x; unfold maxLen at this; omega)
          by_cases hl0 : m.l.length = 0
          · have hr := Lib.hid (show makeGo fr [] headB [] (ids.zip (ims.map Im.l)) = (none, 193) by rw [Hgo.out, Hdr.out, makeGo, if_neg Hz.out, if_neg Hno.out, if_pos (Or.inl hl0)])
            have hres := Lib.hid (makeR_none Harg.out (by rw [Hl1.out, Hfr.out]; exact hr.out))
            rw [hl0] at c2k
            clear hl0
            go_wp2_with fail
            go_ret2
            exact ⟨.slice none 0 0, by rw [hres.out]; rfl, by rw [hres.out]; exact Own.nil _ _ _, by rw [HBx.out]; exact (HT6.out).b⟩
          obtain ⟨ml, hml⟩ : ∃ ml, m.l.length = ml := ⟨_, rfl⟩
          rw [hml] at c2k hl0 Hml HCI
          have HLm := Lib.hid hml
          have HL0 := Lib.hid hl0
          have m1 : ((ml : Int) == 0) = false := beq_eq_false_iff_ne.2 (by omega)
          by_cases hbig : D < (ml : Int)
          · have hr := Lib.hid (show makeGo fr [] headB [] (ids.zip (ims.map Im.l)) = (none, 193) by
              rw [Hgo.out, Hdr.out, makeGo, if_neg Hz.out, if_neg Hno.out, if_pos (Or.inr (by have := Hat.out; have := HD.out; have := HLm.out; omega))])
            have hres := Lib.hid (makeR_none Harg.out (by rw [Hl1.out, Hfr.out]; exact hr.out))
            clear hml hl0
            go_wp2_with fail
            go_ret2
            exact ⟨.slice none 0 0, by rw [hres.out]; rfl, by rw [hres.out]; exact Own.nil _ _ _, by rw [HBx.out]; exact (HT6.out).b⟩
          have Hfit : Hid (ml + at_ ≤ 131072) := Lib.hid (by have := HD.out; omega)
          have Hnx : Hid (makeGo fr [] headB [] (ids.zip (ims.map Im.l)) = makeGo fr (ids.take (k + 1)) (tab ++ entB g at_ ml) (data ++ m.l) ((ids.zip (ims.map Im.l)).drop (k + 1))) := Lib.hid (by
            rw [Hgo.out, Hdr.out, makeGo, if_neg Hz.out, if_neg Hno.out, if_neg (by have := Hat.out; have := HD.out; have := HLm.out; omega), Htk.out, hml, Hat.out])
          have b1x : ¬ (D < (ml : Int)) := hbig
          clear hml hbig
          go_wp2_with fail
          as_aux_lemma =>
          clear qd m1 b1x hl0 c2k Hgo Hdr Hz Hno Hd
          go_loopw [8, 12] (fun b i wx => IdIn (gb + 1) gb vd g tab data w b i wx) (fun _ i _ => 16 - (intOf i).toNat)
          case atStart => exact ⟨0, vt, by omega, rfl, rfl, by rw [List.take_zero, List.append_nil]; exact HT6.out⟩
          case round =>
            as_aux_lemma =>
            clear HT6
            obtain ⟨j, u, hj, rfl, rfl, ht⟩ := hrel
            have HT7 := Lib.hid ht
            clear ht
            by_cases hj6 : j < 16
            · obtain ⟨c, hc⟩ : ∃ c, g.1[j]? = some c := ⟨_, List.getElem?_eq_getElem (by rw [g.2]; exact hj6)⟩
              have cc : wr.cell? ⟨b1, o1 + k * 16 + j, none⟩ = some (.int .u8 c.toNat) := HRI.out _ HT7.out.b j _ (by unfold guc; rw [List.getElem?_map, hc]; rfl)
              have Htk1 : Hid (g.1.take (j + 1) = g.1.take j ++ [c]) := Lib.hid (by rw [List.take_add_one, hc]; rfl)
              have hlg : (g.1.take j).length = j := by rw [List.length_take, g.2]; omega
              have Hlg := Lib.hid hlg
              have g0 : (0 : Int) ≤ (j : Int) := by omega
              have g1 : (j : Int) < 16 := by omega
              have Hnew := Lib.hid (HT7.out.t.alloc (.cells #[.int .u8 c.toNat] 5))
              have e32 := H32.out
              clear hc hlg
              go_wp2_with (at_builtin; refine wpList_append_at byteRow rfl _ _ rfl (gb + 1) u (tab ++ g.1.take j) rfl Hnew.out ⟨wr.heap.size, 0, none⟩ 1 1 [c] rfl rfl (Rd.new wr [c] _ _) ?c1 ?c2 (tab.length + j + 1) ?c3 (by omega) ?_)
              case c1 => rw [List.length_append, Hlg.out, Htl.out]; omega
              case c2 => exact Nat.le_trans HT7.out.s (by simp)
              case c3 => rw [List.length_append, Hlg.out]
              intro q C w8 ho8 hg8 hk8
              have HT8 : Hid (Two (gb + 1) gb (.slice (some ⟨q, 0, none⟩) (tab.length + j + 1) C) vd (tab ++ g.1.take (j + 1)) data w w8) := Lib.hid (HT7.out.tab (by rw [Htk1.out]; exact ho8) ⟨(grown_alloc wr (.cells #[.int .u8 c.toNat] 5) u.ownBlock).trans hg8, fun x hx => by
                cases hx
                rcases hk8 with h | h
                · exact Or.inl h.symm
                · right; rw [h]; simp⟩)
              clear ho8 hg8 hk8 cc Hnew
              go_wp2_with fail
              first
              | (go_roundw
                 case rel => exact ⟨j + 1, _, by omega, by go_num, rfl, HT8.out⟩
                 case measure => (first | omega | (simp [intOf] <;> omega) | (simp only [intOf] <;> omega)))
              | exact ⟨⟨j + 1, _, by omega, by go_num, rfl, HT8.out⟩, by (first | omega | (simp [intOf] <;> omega) | (simp only [intOf] <;> omega))⟩
              | (refine ⟨?_, by (first | omega | (simp [intOf] <;> omega) | (simp only [intOf] <;> omega))⟩
                 (repeat apply Exists.intro)
                 refine (fun a b => And.intro b a) ?_ ?_
                 · first | rfl | ((repeat refine ⟨rfl, ?_⟩); rfl)
                 exact ⟨j + 1, _, by omega, by go_num, rfl, HT8.out⟩)
            · obtain rfl : j = 16 := by omega
              have HT8 : Hid (Two (gb + 1) gb u vd (tab ++ g.1) data w wr) := Lib.hid (by
                have h := HT7.out
                rw [List.take_of_length_le (by rw [g.2]; exact Nat.le_refl _)] at h
                exact h)
              have qat : IntKind.u64.wrap (at_ : Int) = (at_ : Int) := IntWalk.u64_in _ (by have := Hat.out; have := Hdl.out; omega)
              have qml : IntKind.u64.wrap (ml : Int) = (ml : Int) := IntWalk.u64_in _ (by have := Hfit.out; omega)
              have Hput1 := Lib.hid (fun w' (h : Two (gb + 1) gb u vd (tab ++ g.1) data w w') => rput_any (gb + 1) u (tab ++ g.1) 8 at_ w' h.t (by decide) (by have := Hfit.out; omega) h.s (by rw [List.length_append, g.2, Htl.out]; have := H32.out; omega))
              have Hput2 := Lib.hid (fun (v1 : Value) w' (h : Two (gb + 1) gb v1 vd (tab ++ g.1 ++ encL 8 false at_) data w w') => rput_any (gb + 1) v1 _ 8 ml w' h.t (by decide) (by have := Hfit.out; omega) h.s (by rw [List.length_append, List.length_append, g.2, Htl.out, encL_length]; have := H32.out; omega))
              have Hput3 := Lib.hid (fun (v1 : Value) w' (h : Two (gb + 1) gb v1 vd (tab ++ g.1 ++ encL 8 false at_ ++ encL 8 false ml) data w w') => rput_any (gb + 1) v1 _ 8 0 w' h.t (by decide) (by decide) h.s (by rw [List.length_append, List.length_append, List.length_append, g.2, Htl.out, encL_length, encL_length]; have := H32.out; omega))
              clear HT7
              go_wp2_with fail
              as_aux_lemma =>
              have HT9 := Lib.hid (HT8.out.later ((⟨1, rfl⟩ : Drn wr wr.drew).below _))
              have hS0 := HCI.out _ HT9.out.b
              refine wp_region_held_drew (S := fun w' => w'.cell? ⟨b2, o2 + k, none⟩ = some (.slice m.ao ml m.cap)) (by kernel_rfl) hS0 (fun hHeld => ?_)
              refine wpAnyH_take (i := 0) (v := ?_) (by simp only [List.getElem?_toArray, List.getElem?_cons_succ, List.getElem?_cons_zero]; rfl) (by kernel_rfl) (by kernel_rfl) (by kernel_rfl) (by intro _ _ _ h_; exact h_) (Or.inl ⟨by rfl, ?_⟩) (by assumption) ?_
              rotate_left 1
              focus (intro w_ hSw_; go_simp; try with_reducible rfl)
              simp only [Act.put, List.setIfInBounds_toArray, List.set_cons_zero, List.set_cons_succ]
              refine wpAnyH_take (i := 1) (v := ?_) (by simp only [List.getElem?_toArray, List.getElem?_cons_succ, List.getElem?_cons_zero]; rfl) (by kernel_rfl) (by kernel_rfl) (by kernel_rfl) (by intro _ _ _ h_; exact h_) (Or.inl ⟨by rfl, ?_⟩) (by assumption) ?_
              rotate_left 1
              focus (intro w_ hSw_; go_simp; try with_reducible rfl)
              simp only [Act.put, List.setIfInBounds_toArray, List.set_cons_zero, List.set_cons_succ]
              refine wpAnyH_take (i := 2) (v := ?_) (by simp only [List.getElem?_toArray, List.getElem?_cons_succ, List.getElem?_cons_zero]; rfl) (by kernel_rfl) (by kernel_rfl) (by kernel_rfl) (by intro _ _ _ h_; exact h_) (Or.inl ⟨by rfl, ?_⟩) (by assumption) ?_
              rotate_left 1
              focus (intro w_ hSw_; go_simp; try with_reducible rfl)
              simp only [Act.put, List.setIfInBounds_toArray, List.set_cons_zero, List.set_cons_succ]
              refine wpAnyH_take (i := 4) (v := ?_) (by simp only [List.getElem?_toArray, List.getElem?_cons_succ, List.getElem?_cons_zero]; rfl) (by kernel_rfl) (by kernel_rfl) (by kernel_rfl) (by intro _ _ _ h_; exact h_) (Or.inl ⟨by rfl, ?_⟩) (by assumption) ?_
              rotate_left 1
              focus (intro w_ hSw_; go_simp; try with_reducible rfl)
              simp only [Act.put, List.setIfInBounds_toArray, List.set_cons_zero, List.set_cons_succ]
              refine wpAnyH_take (i := 5) (v := ?_) (by simp only [List.getElem?_toArray, List.getElem?_cons_succ, List.getElem?_cons_zero]; rfl) (by kernel_rfl) (by kernel_rfl) (by kernel_rfl) (by intro _ _ _ h_; exact h_) (Or.inl ⟨by rfl, ?_⟩) (by assumption) ?_
              rotate_left 1
              focus (intro w_ hSw_; go_simp; try with_reducible rfl)
              simp only [Act.put, List.setIfInBounds_toArray, List.set_cons_zero, List.set_cons_succ]
              refine wpAnyH_take (i := 6) (v := ?_) (by simp only [List.getElem?_toArray, List.getElem?_cons_succ, List.getElem?_cons_zero]; rfl) (by kernel_rfl) (by kernel_rfl) (by kernel_rfl) (by intro _ _ _ h_; exact h_) (Or.inl ⟨by rfl, ?_⟩) (by assumption) ?_
              rotate_left 1
              focus (intro w_ hSw_; go_simp; try with_reducible rfl)
              simp only [Act.put, List.setIfInBounds_toArray, List.set_cons_zero, List.set_cons_succ]
              refine wpAnyH_take (i := 7) (v := ?_) (by simp only [List.getElem?_toArray, List.getElem?_cons_succ, List.getElem?_cons_zero]; rfl) (by kernel_rfl) (by kernel_rfl) (by kernel_rfl) (by intro _ _ _ h_; exact h_) (Or.inl ⟨by rfl, ?_⟩) (by assumption) ?_
              rotate_left 1
              focus (intro w_ hSw_; go_simp; try with_reducible rfl)
              simp only [Act.put, List.setIfInBounds_toArray, List.set_cons_zero, List.set_cons_succ]
              refine wpAnyH_take (i := 8) (v := ?_) (by simp only [List.getElem?_toArray, List.getElem?_cons_succ, List.getElem?_cons_zero]; rfl) (by kernel_rfl) (by kernel_rfl) (by kernel_rfl) (by intro _ _ _ h_; exact h_) (Or.inl ⟨by rfl, ?_⟩) (by assumption) ?_
              rotate_left 1
              focus (intro w_ hSw_; go_simp; try with_reducible rfl)
              simp only [Act.put, List.setIfInBounds_toArray, List.set_cons_zero, List.set_cons_succ]
              refine wpAnyH_take (i := 9) (v := ?_) (by simp only [List.getElem?_toArray, List.getElem?_cons_succ, List.getElem?_cons_zero]; rfl) (by kernel_rfl) (by kernel_rfl) (by kernel_rfl) (by intro _ _ _ h_; exact h_) (Or.inl ⟨by rfl, ?_⟩) (by assumption) ?_
              rotate_left 1
              focus (intro w_ hSw_; go_simp; try with_reducible rfl)
              simp only [Act.put, List.setIfInBounds_toArray, List.set_cons_zero, List.set_cons_succ]
              refine wpAnyH_ready (rs := [3]) (by kernel_rfl) (by simp) ?_
              refine AllReadyH.cons (by simp only [List.getElem?_toArray, List.getElem?_cons_succ, List.getElem?_cons_zero]; rfl) (fun K hK => ?_) AllReadyH.nil
              go_simp
              refine (Hput1.out _ HT9.out).mono ?_
              rintro e w10 ⟨v1, rfl, ho_, hg_, -⟩
              have HT10 := Lib.hid (HT9.out.tab ho_ hg_)
              clear ho_ hg_
              go_wp2_with fail
              refine hK.out _ _ (HCI.out _ HT10.out.b) (fun hHeld => ?_)
              clear hK K
              try simp only [Act.put, List.setIfInBounds_toArray, List.set_cons_zero, List.set_cons_succ]
              refine wpAnyH_ready (rs := [10]) (by kernel_rfl) (by simp) ?_
              refine AllReadyH.cons (by simp only [List.getElem?_toArray, List.getElem?_cons_succ, List.getElem?_cons_zero]; rfl) (fun K hK => ?_) AllReadyH.nil
              go_simp
              refine (Hput2.out _ _ HT10.out).mono ?_
              rintro e w11 ⟨v2, rfl, ho_, hg_, -⟩
              have HT11 := Lib.hid (HT10.out.tab ho_ hg_)
              clear ho_ hg_
              go_wp2_with fail
              refine hK.out _ _ (HCI.out _ HT11.out.b) (fun hHeld => ?_)
              clear hK K
              try simp only [Act.put, List.setIfInBounds_toArray, List.set_cons_zero, List.set_cons_succ]
              refine wpAnyH_ready (rs := [11]) (by kernel_rfl) (by simp) ?_
              refine AllReadyH.cons (by simp only [List.getElem?_toArray, List.getElem?_cons_succ, List.getElem?_cons_zero]; rfl) (fun K hK => ?_) AllReadyH.nil
              go_simp
              refine (Hput3.out _ _ HT11.out).mono ?_
              rintro e w12 ⟨v3, rfl, ho_, hg_, -⟩
              have HT12 := Lib.hid (HT11.out.tab ho_ hg_)
              clear ho_ hg_
              go_wp2_with fail
              refine hK.out _ _ (HCI.out _ HT12.out.b) (fun hHeld => ?_)
              clear hK K
              try simp only [Act.put, List.setIfInBounds_toArray, List.set_cons_zero, List.set_cons_succ]
              refine wpAnyH_take (i := 12) (v := ?_) (by simp only [List.getElem?_toArray, List.getElem?_cons_succ, List.getElem?_cons_zero]; rfl) (by kernel_rfl) (by kernel_rfl) (by kernel_rfl) (by intro _ _ _ h_; exact h_) (Or.inl ⟨by rfl, ?_⟩) (by assumption) ?_
              rotate_left 1
              focus (intro w_ hSw_; go_simp; try with_reducible rfl)
              simp only [Act.put, List.setIfInBounds_toArray, List.set_cons_zero, List.set_cons_succ]
              refine wpAnyH_done (by kernel_rfl) ?_ _
              all_goals
                as_aux_lemma =>
                have HT13 : Hid (Two (gb + 1) gb v3 vd (tab ++ entB g at_ ml) data w w12) := Lib.hid (by
                  have h := HT12.out
                  have e : tab ++ g.1 ++ encL 8 false at_ ++ encL 8 false ml ++ encL 8 false 0 = tab ++ entB g at_ ml := by simp [entB]
                  rw [e] at h; exact h)
                have c13 := HCI.out _ HT13.out.b
                obtain ⟨amv, hamv⟩ : ∃ amv, m.ao = some amv := by
                  obtain ⟨b, o, e, _⟩ := Hmo.out.r 0 (by rw [HLm.out]; have := HL0.out; omega)
                  exact ⟨_, e⟩
                have Hrm : Hid (Rd w12 (some amv) m.l) := Lib.hid (by rw [← hamv]; exact Hmo.out.r.below (by rw [HBx.out]; exact HT13.out.b))
                rw [hamv] at c13 HCI
                have qs : IntKind.i64.wrap ((at_ : Int) + (ml : Int)) = ((at_ + ml : Nat) : Int) := by have := Hfit.out; simp [IntKind.wrap, IntKind.bits, IntKind.signed]; omega
                clear hamv HT12 HT11 HT10 HT9 HT8 Hput1 Hput2 Hput3 hS0 hHeld
                go_wp2_with (at_builtin; refine wpList_append_at byteRow rfl _ _ rfl (gb + 1) vd data rfl HT13.out.d amv ml m.cap m.l rfl HLm.out Hrm.out (by have := Hdl.out; have := Hfit.out; omega) HT13.out.s (data.length + ml) rfl (by have := HL0.out; omega) ?_)
                intro q C w14 ho14 hg14 hk14
                have HT14 : Hid (Two (gb + 1) gb v3 (.slice (some ⟨q, 0, none⟩) (data.length + ml) C) (tab ++ entB g at_ ml) (data ++ m.l) w w14) := Lib.hid (HT13.out.data ho14 ⟨hg14, fun x hx => by
                  cases hx
                  rcases hk14 with h | h
                  · exact Or.inl h.symm
                  · right; rw [h]; exact Nat.le_refl _⟩)
                have c14 := HCI.out _ HT14.out.b
                have e32 := H32.out
                clear ho14 hg14 hk14 c13 HT13 Hrm
                go_wp2_with fail
                first
                | (go_roundw
                   case rel => exact ⟨k + 1, tab ++ entB g at_ ml, data ++ m.l, _, _, by omega, by go_num, by (rw [List.length_append, HLm.out, ← Nat.add_assoc, Hat.out]; push_cast; try rfl), rfl, rfl, Hnx.out, HT14.out, by rw [List.length_append, entB_len, Htl.out]; omega, by rw [List.length_append, HLm.out]; have := Hfit.out; have := Hat.out; omega⟩
                   case measure => (first | omega | (simp [intOf] <;> omega) | (simp only [intOf] <;> omega)))
                | exact ⟨⟨k + 1, tab ++ entB g at_ ml, data ++ m.l, _, _, by omega, by go_num, by (rw [List.length_append, HLm.out, ← Nat.add_assoc, Hat.out]; push_cast; try rfl), rfl, rfl, Hnx.out, HT14.out, by rw [List.length_append, entB_len, Htl.out]; omega, by rw [List.length_append, HLm.out]; have := Hfit.out; have := Hat.out; omega⟩, by (first | omega | (simp [intOf] <;> omega) | (simp only [intOf] <;> omega))⟩
                | (refine ⟨?_, by (first | omega | (simp [intOf] <;> omega) | (simp only [intOf] <;> omega))⟩
                   (repeat apply Exists.intro)
                   refine (fun a b => And.intro b a) ?_ ?_
                   · first | rfl | ((repeat refine ⟨rfl, ?_⟩); rfl)
                   exact ⟨k + 1, tab ++ entB g at_ ml, data ++ m.l, _, _, by omega, by go_num, by (rw [List.length_append, HLm.out, ← Nat.add_assoc, Hat.out]; push_cast; try rfl), rfl, rfl, Hnx.out, HT14.out, by rw [List.length_append, entB_len, Htl.out]; omega, by rw [List.length_append, HLm.out]; have := Hfit.out; have := Hat.out; omega⟩)
    · obtain rfl : n = k := by omega
      have hmk : makeGo fr [] headB [] (ids.zip (ims.map Im.l)) = (some (tab, data), 0) := by
        rw [Hgo.out, List.drop_of_length_le (by rw [List.length_zip, List.length_map, Hl1.out, Hl2.out]; omega)]; rfl
      have hres := makeR_some Harg.out (by rw [Hl1.out, Hfr.out]; exact hmk)
      rw [Hl1.out, Hfr.out] at hres
      have Hres := Lib.hid hres
      obtain ⟨at_, hat⟩ : ∃ at_, fr + data.length = at_ := ⟨_, rfl⟩
      rw [hat] at Hres ⊢
      have Hat := Lib.hid hat
      clear hmk hres hlt hat Hgo
      have e32 := H32.out
      have qat : IntKind.u64.wrap (at_ : Int) = (at_ : Int) := IntWalk.u64_in _ (by have := Hat.out; have := Hdl.out; omega)
      obtain ⟨aod, cd, rfl, -, -, -⟩ := HT.out.d.rd
      obtain ⟨v7, w7, hz7, ho7, hg7⟩ := run_append_zeros wr 22 (gb + 1) vt tab HT.out.t 16 (by decide) (by decide) (by rw [Htl.out]; omega) HT.out.s (by rw [Htl.out]; omega)
      have HT7 := Lib.hid (HT.out.tab ho7 hg7)
      clear ho7 hg7
      go_wp2_with (at_builtin; refine Go.Lib.wpList_append_run _ rfl _ _ _ _ rfl _ _ rfl rfl _ _ hz7 ?_)
      clear hz7
      go_wp2_with fail
      have hlz : (List.replicate 16 (0 : UInt8)).length = 16 := List.length_replicate
      refine (rput_any (gb + 1) v7 _ 8 at_ w7 HT7.out.t (by decide) (by have := Hat.out; have := Hdl.out; omega) HT7.out.s (by rw [List.length_append, Htl.out, hlz]; omega)).mono ?_
      rintro e w8 ⟨v8, rfl, ho8, hg8, -⟩
      have HT8 := Lib.hid (HT7.out.tab ho8 hg8)
      clear ho8 hg8 HT7
      go_wp2_with fail
      refine (rput_any (gb + 1) v8 _ 8 0 w8 HT8.out.t (by decide) (by decide) HT8.out.s (by rw [List.length_append, List.length_append, Htl.out, hlz, encL_length]; omega)).mono ?_
      rintro e w9 ⟨v9, rfl, ho9, hg9, -⟩
      have HT9 := Lib.hid (HT8.out.tab ho9 hg9)
      clear ho9 hg9 HT8
      go_wp2_with fail
      refine (rput_any (gb + 1) v9 _ 8 0 w9 HT9.out.t (by decide) (by decide) HT9.out.s (by rw [List.length_append, List.length_append, List.length_append, Htl.out, hlz, encL_length, encL_length]; omega)).mono ?_
      rintro e w10 ⟨v10, rfl, ho10, hg10, -⟩
      have HT10 : Hid (Two (gb + 1) gb v10 (.slice aod data.length cd) (tab ++ entB gz at_ 0) data w w10) := Lib.hid (by
        have h := HT9.out.tab ho10 hg10
        have e : tab ++ List.replicate 16 0 ++ encL 8 false at_ ++ encL 8 false 0 ++ encL 8 false 0 = tab ++ entB gz at_ 0 := by simp [entB, gz]
        rw [e] at h; exact h)
      clear ho10 hg10 HT9 hlz
      have Hdz : Hid (aod = none → cd = 0) := Lib.hid (by
        rcases HT10.out.d.cases with ⟨h, _⟩ | ⟨g, c, h, _⟩
        · simp only [Value.slice.injEq] at h; exact fun _ => h.2.2
        · simp only [Value.slice.injEq] at h; rw [h.1]; exact fun h => by cases h)
      have Hrd : Hid (Rd w10 aod data) := Lib.hid (by
        obtain ⟨ao, c, he, _, _, hr⟩ := HT10.out.d.rd
        cases he; exact hr)
      go_wp2_with (at_builtin; refine wpList_append_bytes byteRow rfl _ _ rfl (gb + 1) v10 (tab ++ entB gz at_ 0) rfl HT10.out.t aod data.length cd data rfl Hdz.out rfl Hrd.out (by rw [List.length_append, entB_len, Htl.out]; have := Hdl.out; omega) HT10.out.s ?_)
      intro v11 w11 ho11 hg11
      have HB11 := Lib.hid (HT10.out.b.trans ((Below.refl gb w10).grown hg11 (Nat.le_trans (Nat.le_of_lt HT10.out.lt) HT10.out.s) (fun q hq => Nat.le_trans (Nat.le_of_lt HT10.out.lt) (own_blk HT10.out.t hq).1)))
      have HO11 := Lib.hid (ho11.mono (Nat.le_succ gb))
      clear ho11 hg11 HT10 Hdz Hrd
      go_wp2_with fail
      go_ret2
      exact ⟨v11, by rw [Hres.out]; rfl, by (rw [Hres.out, HBx.out]; have h := HO11.out; rw [← List.append_assoc] at h; exact h), by rw [HBx.out]; exact HB11.out⟩
end Go.Proofs.Ytefkmlfpdlnodaa
