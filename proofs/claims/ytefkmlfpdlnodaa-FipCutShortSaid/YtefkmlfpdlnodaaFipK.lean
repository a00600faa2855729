/- A package made, by the program. No condition. -/
import Derived.Test.YtefkmlfpdlnodaaFipB
import Derived.Deep.RegionHeld3
import Derived.Deep.DrawnRows
import Derived.Deep.RegionWith
set_option linter.unusedVariables false
set_option linter.unusedSimpArgs false
namespace Go.Proofs.Ytefkmlfpdlnodaa
open Go.RowKit
attribute [local go_sem ↓] build_en store_en load_en load_gu store_gu build_gu bs_en Go.wp_at_zero Go.wp_at_succ
structure MkIn (B mb n fr : Nat) (ids : List Gu) (Z : List (Gu × List UInt8)) (W : World) (i : Value) (wr : World) : Prop where
  x : ∃ (k : Nat) (tab data : List UInt8) (vt vd : Value), k ≤ n ∧ i = .int .i64 k ∧ makeGo fr [] headB [] Z = makeGo fr (ids.take k) tab data (Z.drop k) ∧ MK wr B mb vt vd tab data ∧ tab.length = 16 + 40 * k ∧ data.length ≤ 131072 ∧ Below mb W wr ∧ B ≤ wr.heap.size
set_option maxRecDepth 100000 in
set_option maxHeartbeats 2000000 in
theorem pmake_any (a1 a2 : Option Addr) (n n2 c1 c2 : Nat) (ids : List Gu) (ims : List Im) (w : World) (hl1 : ids.length = n) (hl2 : ims.length = n2) (hn : n ≤ 140737488351232) (hn2 : n2 ≤ 140737488351232) (hc1 : n ≤ c1) (hr1 : RdS guc 16 w a1 ids) (hr2 : RdS imc 1 w a2 ims) (hok : ∀ m ∈ ims, Im.Ok w m) :
    Calls Try.prog 16 #[.slice a1 n c1, .slice a2 n2 c2] w fun e w' => ∃ v, e = .returned (.tuple #[v, .int .i64 (makeR ids (ims.map Im.l)).2]) ∧ Own 5 w' w.heap.size v (makeR ids (ims.map Im.l)).1 ∧ Below w.heap.size w w' := by
  by_cases hne : n = n2
  case neg =>
    have hres := Lib.hid (makeR_arg (ids := ids) (imgs := ims.map Im.l) (Or.inl (by rw [List.length_map]; omega)))
    have e1 : ((n : Int) == (n2 : Int)) = false := beq_eq_false_iff_ne.2 (by omega)
    have e2 : ((n : Int) != (n2 : Int)) = true := by rw [bne, e1]; rfl
    have HBf := Lib.hid (Below.refl w.heap.size w)
    clear hne hr1 hr2 hok
    go_enter Try.func16, Try.ntmps16
    go_wp2_with fail
    go_ret2
    exact ⟨.slice none 0 0, by rw [hres.out]; rfl, by rw [hres.out]; exact Own.nil _ _ _, HBf.out⟩
  subst hne
  by_cases h32 : 32 < n
  · have hres := Lib.hid (makeR_arg (ids := ids) (imgs := ims.map Im.l) (Or.inr (by omega)))
    have e1 : (32 : Int) < (n : Int) := by omega
    have HBf := Lib.hid (Below.refl w.heap.size w)
    clear hr1 hr2 hok
    go_enter Try.func16, Try.ntmps16
    go_wp2_with fail
    go_ret2
    exact ⟨.slice none 0 0, by rw [hres.out]; rfl, by rw [hres.out]; exact Own.nil _ _ _, HBf.out⟩
  have Harg : Hid (¬ (ids.length ≠ (ims.map Im.l).length ∨ 32 < ids.length)) := Lib.hid (by rw [List.length_map]; omega)
  have e1 : ¬ ((32 : Int) < (n : Int)) := by omega
  have hm0 := HB.new w [.slice none 0 0, .slice none 0 0] 57
  have HM0 : Hid (MK (w.alloc (.cells #[.slice none 0 0, .slice none 0 0] 57)) (w.heap.size + 1) w.heap.size (.slice none 0 0) (.slice none 0 0) [] []) :=
    Lib.hid ⟨hm0, Own.nil _ _ _, Own.nil _ _ _, Nat.lt_succ_self _, fun k h => by cases h⟩
  have HB0 := Lib.hid ((Below.refl w.heap.size w).alloc (Nat.le_refl _) (.cells #[.slice none 0 0, .slice none 0 0] 57))
  have Hs0 : Hid (w.heap.size + 1 ≤ (w.alloc (.cells #[.slice none 0 0, .slice none 0 0] 57)).heap.size) := Lib.hid (by simp)
  have HR1 := Lib.hid hr1
  have HR2 := Lib.hid hr2
  have HOk := Lib.hid hok
  have Hl1 := Lib.hid hl1
  have Hl2 := Lib.hid hl2
  have H32 := Lib.hid h32
  have Hc1 := Lib.hid hc1
  clear hm0 hr1 hr2 hok h32 hl1 hl2 hn hn2 hc1
  go_enter Try.func16, Try.ntmps16
  go_wp2_with fail
  as_aux_lemma =>
  generalize w.alloc (.cells #[.slice none 0 0, .slice none 0 0] 57) = w1 at *
  obtain ⟨mb, hmb⟩ : ∃ mb, w.heap.size = mb := ⟨_, rfl⟩
  rw [hmb] at HM0 HB0 Hs0 ⊢
  have HBx := Lib.hid hmb
  clear hmb
  refine (mnum_any (mb + 1) mb 4 2858680321 _ _ [] [] w1 HM0.out (Or.inl rfl) (by decide) (by decide) Hs0.out (by decide)).mono ?_
  rintro e w2 ⟨rfl, ⟨vt2, hm2, -⟩, hb2, hs2⟩
  have HM2 := Lib.hid hm2
  have HB2 := Lib.hid (HB0.out.trans hb2)
  have Hs2 : Hid (mb + 1 ≤ w2.heap.size) := Lib.hid (Nat.le_trans Hs0.out hs2)
  clear hm2 hb2 hs2 HM0 HB0 Hs0
  go_wp2_with fail
  refine (mnum_any (mb + 1) mb 4 305419896 _ _ _ [] w2 HM2.out (Or.inl rfl) (by decide) (by decide) Hs2.out (by simp [encL_length])).mono ?_
  rintro e w3 ⟨rfl, ⟨vt3, hm3, -⟩, hb3, hs3⟩
  have HM3 := Lib.hid hm3
  have HB3 := Lib.hid (HB2.out.trans hb3)
  have Hs3 : Hid (mb + 1 ≤ w3.heap.size) := Lib.hid (Nat.le_trans Hs2.out hs3)
  clear hm3 hb3 hs3 HM2 HB2 Hs2
  go_wp2_with fail
  refine (mnum_any (mb + 1) mb 8 0 _ _ _ [] w3 HM3.out (Or.inr rfl) (by decide) (by decide) Hs3.out (by simp [encL_length])).mono ?_
  rintro e w4 ⟨rfl, ⟨vt4, hm4, -⟩, hb4, hs4⟩
  have HM4 : Hid (MK w4 (mb + 1) mb vt4 (.slice none 0 0) headB []) := Lib.hid hm4
  have HB4 := Lib.hid (HB3.out.trans hb4)
  have Hs4 : Hid (mb + 1 ≤ w4.heap.size) := Lib.hid (Nat.le_trans Hs3.out hs4)
  clear hm4 hb4 hs4 HM3 HB3 Hs3
  obtain ⟨fr, hfr⟩ : ∃ fr, 16 + 40 * (n + 1) = fr := ⟨_, rfl⟩
  have hfr2 : fr ≤ 1336 := by have := H32.out; omega
  have q1 : IntKind.i64.wrap ((n : Int) + 1) = ((n + 1 : Nat) : Int) := by have := H32.out; simp [IntKind.wrap, IntKind.bits, IntKind.signed]; omega
  have q2 : IntKind.i64.wrap (40 * ((n : Int) + 1)) = 40 * ((n : Int) + 1) := by have := H32.out; simp [IntKind.wrap, IntKind.bits, IntKind.signed]; omega
  have q3 : IntKind.i64.wrap (16 + 40 * ((n : Int) + 1)) = (fr : Int) := by have := H32.out; rw [← hfr]; simp [IntKind.wrap, IntKind.bits, IntKind.signed]; omega
  have Hfr := Lib.hid hfr
  clear hfr
  go_wp2_with fail
  as_aux_lemma =>
  clear q1 q2 q3
  have HZ : Hid (∀ (k : Nat) (g : Gu) (m : Im), ids[k]? = some g → ims[k]? = some m → (ids.zip (ims.map Im.l)).drop k = (g, m.l) :: (ids.zip (ims.map Im.l)).drop (k + 1)) := Lib.hid fun k g m h1 h2 => by
    have h3 : (ids.zip (ims.map Im.l))[k]? = some (g, m.l) := by
      rw [List.getElem?_zip_eq_some, List.getElem?_map, h2]; exact ⟨h1, rfl⟩
    have h4 := List.getElem?_eq_some_iff.1 h3
    rw [List.drop_eq_getElem_cons h4.1, h4.2]
  go_loopw [36] (fun i wr => MkIn (mb + 1) mb n fr ids (ids.zip (ims.map Im.l)) w i wr) (fun i _ => n - (intOf i).toNat)
  case atStart => exact ⟨0, headB, [], vt4, _, by omega, rfl, rfl, HM4.out, (by unfold headB; simp [encL_length]), by decide, HB4.out, Hs4.out⟩
  case round =>
    as_aux_lemma =>
    clear HM4 HB4 Hs4
    obtain ⟨k, tab, data, vt, vd, hk, rfl, hgo, hm, htl, hdl, hb, hs⟩ := hrel
    have Hgo := Lib.hid hgo
    have HM := Lib.hid hm
    have Htl := Lib.hid htl
    have Hdl := Lib.hid hdl
    have Hb := Lib.hid hb
    have Hs := Lib.hid hs
    have Hk := Lib.hid hk
    obtain ⟨aod, cd, rfl, -, -, hrd⟩ := hm.d.rd
    have Hrd := Lib.hid hrd
    have Hdz : Hid (aod = none → cd = 0) := Lib.hid (by
      rcases hm.d.cases with ⟨h, _⟩ | ⟨g, c, h, _⟩
      · simp only [Value.slice.injEq] at h; exact fun _ => h.2.2
      · simp only [Value.slice.injEq] at h; rw [h.1]; exact fun h => by cases h)
    clear hgo hm htl hdl hb hs hk hrd
    have cd1 := HM.out.h.cell (i := 1) rfl
    by_cases hlt : k < n
    · obtain ⟨g, hg⟩ : ∃ g, ids[k]? = some g := ⟨_, List.getElem?_eq_getElem (by have := Hl1.out; omega)⟩
      obtain ⟨m, hm⟩ : ∃ m, ims[k]? = some m := ⟨_, List.getElem?_eq_getElem (by have := Hl2.out; omega)⟩
      have HRw := Lib.hid (HR1.out.below (by rw [HBx.out]; exact Hb.out))
      have HRw2 := Lib.hid (HR2.out.below (by rw [HBx.out]; exact Hb.out))
      obtain ⟨b1, o1, rfl, hrg⟩ := rds_range HRw.out hg
      obtain ⟨b2, o2, rfl, hb2l, hc2⟩ := HR2.out k m hm
      have hmo := HOk.out m (List.mem_of_getElem? hm)
      have hlg := run_loadGu hrg
      have hst := freshGu_st wr g
      have Hfh := Lib.hid (freshGu_hb wr g)
      have Hfb := Lib.hid (freshGu_below wr g)
      have HMf := Lib.hid (HM.out.later Hfb.out)
      have HBf := Lib.hid (Hb.out.trans (Hfb.out.mono (by have := Hs.out; omega)))
      have Hsf : Hid (mb + 1 ≤ (freshGu wr g).heap.size) := Lib.hid (Nat.le_trans Hs.out Hfb.out.size)
      have Hdr := Lib.hid (HZ.out k g m hg hm)
      have Htk : Hid (ids.take (k + 1) = ids.take k ++ [g]) := Lib.hid (by rw [List.take_add_one, hg]; rfl)
      have Hmo := Lib.hid hmo
      have Hc2 := Lib.hid hc2
      have Hb2l := Lib.hid hb2l
      have f0 : (0 : Int) ≤ (k : Int) := by omega
      have f1 : (k : Int) < (n : Int) := by omega
      obtain ⟨at_, hat⟩ : ∃ at_, fr + data.length = at_ := ⟨_, rfl⟩
      have qa : IntKind.i64.wrap ((fr : Int) + (data.length : Int)) = (at_ : Int) := by rw [← hat]; have := Hdl.out; simp [IntKind.wrap, IntKind.bits, IntKind.signed]; omega
      have Hat := Lib.hid hat
      have cdf := HMf.out.h.cell (i := 1) rfl
      have hlf := run_loadGu Hfh.out.whole
      have heq := fun w => gu_equal g gz w
      have hbz := fun w => run_buildGz w
      have hgd : Try.prog.eqGuardType Try.prog.depth 30 = false := by kernel_rfl
      have Hlt := Lib.hid hlt
      clear hg hm hrg hmo hc2 hb2l hat cd1 hlt
      by_cases hz : g = gz
      · have hr := Lib.hid (show makeGo fr [] headB [] (ids.zip (ims.map Im.l)) = (none, 192) by rw [Hgo.out, Hdr.out, makeGo, if_pos hz])
        have hres := Lib.hid (makeR_none Harg.out (by rw [Hl1.out, Hfr.out]; exact hr.out))
        rw [decide_eq_true hz] at heq
        clear hz
        go_wp2_with fail
        go_ret2
        exact ⟨.slice none 0 0, by rw [hres.out]; rfl, by rw [hres.out]; exact Own.nil _ _ _, by rw [HBx.out]; exact HBf.out⟩
      have Hz := Lib.hid hz
      rw [decide_eq_false hz] at heq
      clear hz
      go_wp2_with fail
      as_aux_lemma =>
      clear hst hlf heq hbz hlg cdf
      generalize freshGu wr g = w5 at *
      obtain ⟨xb, hxb⟩ : ∃ xb, wr.heap.size = xb := ⟨_, rfl⟩
      rw [hxb] at Hfh Hfb ⊢
      have Hxm : Hid (mb + 1 ≤ xb) := Lib.hid (by have := Hs.out; omega)
      have Hvx : Hid (vt.ownBlock ≠ some xb) := Lib.hid (fun h => by have := (own_blk HM.out.t h).2; omega)
      clear hxb HM Hb Hs HRw HRw2 Hfb
      have hd0 : Drn w5 w5.drew := ⟨1, rfl⟩
      have HX6 := Lib.hid (Hfh.out.drn hd0)
      have HM6 := Lib.hid (HMf.out.later (hd0.below _))
      have HB6 := Lib.hid (HBf.out.trans (hd0.below _))
      have Hs6 : Hid (mb + 1 ≤ w5.drew.heap.size) := Lib.hid Hsf.out
      have hlk : (ids.take k).length = k := by rw [List.length_take]; have := Hl1.out; have := Hlt.out; omega
      have HRk : Hid (RdS guc 16 w5.drew (some ⟨b1, o1, none⟩) (ids.take k)) := Lib.hid fun j y hy => by
        have hj : j < k := by
          rcases Nat.lt_or_ge j k with h | h
          · exact h
          · rw [List.getElem?_eq_none (by rw [hlk]; exact h)] at hy; cases hy
        rw [List.getElem?_take_of_lt hj] at hy
        exact (HR1.out.below (by rw [HBx.out]; exact HB6.out)) j y hy
      have hct := gcontains_any (some ⟨b1, o1, none⟩) c1 (ids.take k) g w5.drew (by rw [hlk]; have := Hlt.out; have := H32.out; omega) HRk.out
      rw [hlk] at hct
      have Hct := Lib.hid hct
      have hS0 : w5.drew.rangeAt xb 0 (guc g) := HX6.out.whole
      have hu30 := Try.underlying30
      have hi30 := guInfo g
      have f2 : (k : Int) ≤ (c1 : Int) := by have := Hc1.out; have := Hlt.out; omega
      have HkB : Hid (∀ w', Below w5.drew.heap.size w5.drew w' → w'.rangeAt xb 0 (guc g)) := Lib.hid fun w' h => (HX6.out.later h).whole
      clear hct hd0 hlk Hfh HMf HBf Hsf HRk
      go_region_held3 (fun w' => w'.rangeAt xb 0 (guc g))
        (first | exact hS0 | exact HkB.out _ hb7 | assumption)
        (first
          | (go_at_call 27
             refine Hct.out.mono ?_
             rintro r w7 ⟨rfl, hb7⟩))
      as_aux_lemma =>
      have HX7 := Lib.hid (HX6.out.later hb7)
      have HM7 := Lib.hid (HM6.out.later hb7)
      have HB7 := Lib.hid (HB6.out.trans (hb7.mono (by have := Hs6.out; omega)))
      have Hs7 : Hid (mb + 1 ≤ w7.heap.size) := Lib.hid (Nat.le_trans Hs6.out hb7.size)
      clear hb7 HX6 HM6 HB6 Hs6 HkB hS0 Hct f2
      by_cases hin : g ∈ ids.take k
      · have hr := Lib.hid (show makeGo fr [] headB [] (ids.zip (ims.map Im.l)) = (none, 195) by rw [Hgo.out, Hdr.out, makeGo, if_neg Hz.out, if_pos hin])
        have hres := Lib.hid (makeR_none Harg.out (by rw [Hl1.out, Hfr.out]; exact hr.out))
        have HBf := HB7
        rw [decide_eq_true hin]
        clear hin
        go_wp2_with fail
        go_ret2
        exact ⟨.slice none 0 0, by rw [hres.out]; rfl, by rw [hres.out]; exact Own.nil _ _ _, by rw [HBx.out]; exact HBf.out⟩
      have Hin := Lib.hid hin
      rw [decide_eq_false hin]
      clear hin
      have c2k : w7.cell? ⟨b2, o2 + k, none⟩ = some (.slice m.ao m.l.length m.cap) := by
        have := (HB7.out.cell (p := ⟨b2, o2 + k * 1 + 0, none⟩) (by show b2 < mb; rw [← HBx.out]; exact Hb2l.out)).trans (Hc2.out 0 _ rfl)
        rw [Nat.mul_one, Nat.add_zero] at this
        exact this
      obtain ⟨D, hD⟩ : ∃ D : Int, 131072 - (at_ : Int) = D := ⟨_, rfl⟩
      have qd : IntKind.i64.wrap (131072 - (at_ : Int)) = D := by
        rw [hD]; have := Hat.out; have := Hdl.out; simp [IntKind.wrap, IntKind.bits, IntKind.signed]; omega
      have HD := Lib.hid hD
      clear hD
      have Hml : Hid (m.l.length ≤ 9223372036854775807) := Lib.hid (by have := Hmo.out.c; have := Hmo.out.x; unfold maxLen at this; omega)
      by_cases hl0 : m.l.length = 0
      · have hr := Lib.hid (show makeGo fr [] headB [] (ids.zip (ims.map Im.l)) = (none, 193) by rw [Hgo.out, Hdr.out, makeGo, if_neg Hz.out, if_neg Hin.out, if_pos (Or.inl hl0)])
        have hres := Lib.hid (makeR_none Harg.out (by rw [Hl1.out, Hfr.out]; exact hr.out))
        have HBf := HB7
        rw [hl0] at c2k
        clear hl0
        go_wp2_with fail
        go_ret2
        exact ⟨.slice none 0 0, by rw [hres.out]; rfl, by rw [hres.out]; exact Own.nil _ _ _, by rw [HBx.out]; exact HBf.out⟩
      obtain ⟨ml, hml⟩ : ∃ ml, m.l.length = ml := ⟨_, rfl⟩
      rw [hml] at c2k hl0 Hml
      have HLm := Lib.hid hml
      have HL0 := Lib.hid hl0
      have m1 : ((ml : Int) == 0) = false := beq_eq_false_iff_ne.2 (by omega)
      by_cases hbig : D < (ml : Int)
      · have hr := Lib.hid (show makeGo fr [] headB [] (ids.zip (ims.map Im.l)) = (none, 193) by
          rw [Hgo.out, Hdr.out, makeGo, if_neg Hz.out, if_neg Hin.out, if_pos (Or.inr (by have := Hat.out; have := HD.out; have := HLm.out; omega))])
        have hres := Lib.hid (makeR_none Harg.out (by rw [Hl1.out, Hfr.out]; exact hr.out))
        have HBf := HB7
        clear hml hl0
        go_wp2_with fail
        go_ret2
        exact ⟨.slice none 0 0, by rw [hres.out]; rfl, by rw [hres.out]; exact Own.nil _ _ _, by rw [HBx.out]; exact HBf.out⟩
      have Hfit : Hid (ml + at_ ≤ 131072) := Lib.hid (by have := HD.out; omega)
      have Hnx : Hid (makeGo fr [] headB [] (ids.zip (ims.map Im.l)) = makeGo fr (ids.take (k + 1)) (tab ++ entB g at_ ml) (data ++ m.l) ((ids.zip (ims.map Im.l)).drop (k + 1))) := Lib.hid (by
        rw [Hgo.out, Hdr.out, makeGo, if_neg Hz.out, if_neg Hin.out, if_neg (by have := Hat.out; have := HD.out; have := HLm.out; omega), Htk.out, hml, Hat.out])
      have b1x : ¬ (D < (ml : Int)) := hbig
      clear hml hbig
      go_wp2_with fail
      as_aux_lemma =>
      clear qd m1 b1x hl0
      have hd0 : Drn w7 w7.drew := ⟨1, rfl⟩
      have HX8 := Lib.hid (HX7.out.drn hd0)
      have HM8 := Lib.hid (HM7.out.later (hd0.below _))
      have HB8 := Lib.hid (HB7.out.trans (hd0.below _))
      have Hs8 : Hid (mb + 1 ≤ w7.drew.heap.size) := Lib.hid Hs7.out
      have hlf := run_loadGu HX8.out.whole
      have c2d : w7.drew.cell? ⟨b2, o2 + k, none⟩ = some (.slice m.ao ml m.cap) := c2k
      have Hen := Lib.hid (mentry_any (mb + 1) mb g at_ ml vt _ tab data w7.drew HM8.out Hs8.out (by have := Htl.out; have := H32.out; have := Hlt.out; omega) (by have := Hfit.out; omega) (by have := Hfit.out; omega))
      clear hd0 HX7 HM7 HB7 Hs7 c2k
      have hS0 : w7.drew.rangeAt xb 0 (guc g) ∧ w7.drew.cell? ⟨b2, o2 + k, none⟩ = some (.slice m.ao ml m.cap) := ⟨HX8.out.whole, c2d⟩
      have Hb2m : Hid (b2 < mb) := Lib.hid (by rw [← HBx.out]; exact Hb2l.out)
      have HkA : Hid (∀ w' vt', Apart w7.drew w' mb vt vt' → Below mb w7.drew w' → w'.rangeAt xb 0 (guc g) ∧ w'.cell? ⟨b2, o2 + k, none⟩ = some (.slice m.ao ml m.cap)) := Lib.hid fun w' vt' ha hb => ⟨(ha xb _ _ (by have := Hxm.out; omega) Hvx.out HX8.out).1.whole, (hb.cell (p := ⟨b2, o2 + k, none⟩) Hb2m.out).trans c2d⟩
      go_region_held3 (fun w' => w'.rangeAt xb 0 (guc g) ∧ w'.cell? ⟨b2, o2 + k, none⟩ = some (.slice m.ao ml m.cap))
        (first | exact hS0 | exact HkA.out _ _ ha9 hb9 | assumption)
        (first
          | (go_at_call 28
             refine Hen.out.mono ?_
             rintro r w9 ⟨rfl, ⟨vt9, hm9, ha9⟩, hb9, hs9⟩))
      all_goals
        as_aux_lemma =>
        have HM9 := Lib.hid hm9
        have HB9 := Lib.hid (HB8.out.trans hb9)
        have Hs9 : Hid (mb + 1 ≤ w9.heap.size) := Lib.hid (Nat.le_trans Hs8.out hs9)
        clear hm9 hb9 hs9 Hen HX8 HM8 HB8 Hs8 hlf c2d ha9 HkA hS0 Hb2m
        have c2k : w9.cell? ⟨b2, o2 + k, none⟩ = some (.slice m.ao ml m.cap) := by
          have := (HB9.out.cell (p := ⟨b2, o2 + k * 1 + 0, none⟩) (by show b2 < mb; rw [← HBx.out]; exact Hb2l.out)).trans (Hc2.out 0 _ rfl)
          rw [Nat.mul_one, Nat.add_zero, HLm.out] at this
          exact this
        obtain ⟨amv, hamv⟩ : ∃ amv, m.ao = some amv := by
          by_cases h0 : 0 < m.l.length
          · obtain ⟨b, o, e, _⟩ := Hmo.out.r 0 h0; exact ⟨_, e⟩
          · have := HLm.out; have := HL0.out; omega
        go_wp2_with fail
        have hd0 : Drn w9 w9.drew := ⟨1, rfl⟩
        have HM10 := Lib.hid (HM9.out.later (hd0.below _))
        have HB10 := Lib.hid (HB9.out.trans (hd0.below _))
        have Hs10 : Hid (mb + 1 ≤ w9.drew.heap.size) := Lib.hid Hs9.out
        have Hrm : Hid (Rd w9.drew (some amv) m.l) := Lib.hid (by rw [← hamv]; exact Hmo.out.r.below (by rw [HBx.out]; exact HB10.out))
        rw [hamv] at c2k
        have c2d : w9.drew.cell? ⟨b2, o2 + k, none⟩ = some (.slice (some amv) ml m.cap) := c2k
        have cd1 : w9.cell? ⟨mb, 1, none⟩ = some (.slice aod data.length cd) := HM9.out.h.cell (i := 1) rfl
        have cd2 := HM10.out.h.cell (i := 1) rfl
        clear hd0 HM9 HB9 Hs9 hamv
        have Hb2m : Hid (b2 < mb) := Lib.hid (by rw [← HBx.out]; exact Hb2l.out)
        have HkS : Hid (∀ w', Below mb w9.drew w' → w'.cell? ⟨b2, o2 + k, none⟩ = some (.slice (some amv) ml m.cap)) := Lib.hid fun w' hb => (hb.cell (p := ⟨b2, o2 + k, none⟩) Hb2m.out).trans c2d
        refine wp_region_held_drew (S := fun w' => w'.cell? ⟨b2, o2 + k, none⟩ = some (.slice (some amv) ml m.cap)) (by kernel_rfl) c2d (fun hHeld => ?_)
        refine wpAnyH_take (i := 0) (v := ?_) (by simp only [List.getElem?_toArray, List.getElem?_cons_succ, List.getElem?_cons_zero]; rfl) (by kernel_rfl) (by kernel_rfl) (by kernel_rfl) (by intro _ _ _ h_; exact h_) (Or.inl ⟨by rfl, ?_⟩) (by assumption) ?_
        rotate_left 1
        focus (intro w_ hSw_; go_simp; try with_reducible rfl)
        simp only [Act.put, List.setIfInBounds_toArray, List.set_cons_zero, List.set_cons_succ]
        refine wpAnyH_take (i := 1) (v := ?_) (by simp only [List.getElem?_toArray, List.getElem?_cons_succ, List.getElem?_cons_zero]; rfl) (by kernel_rfl) (by kernel_rfl) (by kernel_rfl) (by intro _ _ _ h_; exact h_) (Or.inl ⟨by rfl, ?_⟩) (by assumption) ?_
        rotate_left 1
        focus (intro w_ hSw_; go_simp; try with_reducible rfl)
        simp only [Act.put, List.setIfInBounds_toArray, List.set_cons_zero, List.set_cons_succ]
        refine wpAnyH_take (i := 2) (v := ?_) (by simp only [List.getElem?_toArray, List.getElem?_cons_succ, List.getElem?_cons_zero]; rfl) (by kernel_rfl) (by kernel_rfl) (by kernel_rfl) (by intro _ _ _ h_; exact h_) (Or.inl ⟨by rfl, ?_⟩) (by assumption) ?_
        rotate_left 1
        focus (intro w_ hSw_; go_simp; try with_reducible rfl)
        simp only [Act.put, List.setIfInBounds_toArray, List.set_cons_zero, List.set_cons_succ]
        refine wpAnyH_take (i := 3) (v := ?_) (by simp only [List.getElem?_toArray, List.getElem?_cons_succ, List.getElem?_cons_zero]; rfl) (by kernel_rfl) (by kernel_rfl) (by kernel_rfl) (by intro _ _ _ h_; exact h_) (Or.inl ⟨by rfl, ?_⟩) (by assumption) ?_
        rotate_left 1
        focus (intro w_ hSw_; go_simp; try with_reducible rfl)
        simp only [Act.put, List.setIfInBounds_toArray, List.set_cons_zero, List.set_cons_succ]
        refine wpAnyH_take (i := 5) (v := ?_) (by simp only [List.getElem?_toArray, List.getElem?_cons_succ, List.getElem?_cons_zero]; rfl) (by kernel_rfl) (by kernel_rfl) (by kernel_rfl) (by intro _ _ _ h_; exact h_) (Or.inl ⟨by rfl, ?_⟩) (by assumption) ?_
        rotate_left 1
        focus (intro w_ hSw_; go_simp; try with_reducible rfl)
        simp only [Act.put, List.setIfInBounds_toArray, List.set_cons_zero, List.set_cons_succ]
        refine wpAnyH_take (i := 6) (v := ?_) (by simp only [List.getElem?_toArray, List.getElem?_cons_succ, List.getElem?_cons_zero]; rfl) (by kernel_rfl) (by kernel_rfl) (by kernel_rfl) (by intro _ _ _ h_; exact h_) (Or.inl ⟨by rfl, ?_⟩) (by assumption) ?_
        rotate_left 1
        focus (intro w_ hSw_; go_simp; try with_reducible rfl)
        simp only [Act.put, List.setIfInBounds_toArray, List.set_cons_zero, List.set_cons_succ]
        refine wpAnyH_take (i := 7) (v := ?_) (by simp only [List.getElem?_toArray, List.getElem?_cons_succ, List.getElem?_cons_zero]; rfl) (by kernel_rfl) (by kernel_rfl) (by kernel_rfl) (by intro _ _ _ h_; exact h_) (Or.inl ⟨by rfl, ?_⟩) (by assumption) ?_
        rotate_left 1
        focus (intro w_ hSw_; go_simp; try with_reducible rfl)
        simp only [Act.put, List.setIfInBounds_toArray, List.set_cons_zero, List.set_cons_succ]
        refine wpAnyH_take (i := 8) (v := ?_) (by simp only [List.getElem?_toArray, List.getElem?_cons_succ, List.getElem?_cons_zero]; rfl) (by kernel_rfl) (by kernel_rfl) (by kernel_rfl) (by intro _ _ _ h_; exact h_) (Or.inl ⟨by rfl, ?_⟩) (by assumption) ?_
        rotate_left 1
        focus (intro w_ hSw_; go_simp; try with_reducible rfl)
        simp only [Act.put, List.setIfInBounds_toArray, List.set_cons_zero, List.set_cons_succ]
        refine wpAnyH_ready (rs := [4]) (by kernel_rfl) (by simp) ?_
        refine AllReadyH.cons (by simp only [List.getElem?_toArray, List.getElem?_cons_succ, List.getElem?_cons_zero]; rfl) (fun K hK => ?_) AllReadyH.nil
        go_simp
        refine hK.out _ _ (by assumption) (fun hHeld => ?_)
        clear hK K
        try simp only [Act.put, List.setIfInBounds_toArray, List.set_cons_zero, List.set_cons_succ]
        refine wpAnyH_ready (rs := [9]) (by kernel_rfl) (by simp) ?_
        refine AllReadyH.cons (by simp only [List.getElem?_toArray, List.getElem?_cons_succ, List.getElem?_cons_zero]; rfl) (fun K hK => ?_) AllReadyH.nil
        refine step_of_wp rfl (wp_append_at byteRow _ _ rfl (mb + 1) (.slice aod data.length cd) data rfl HM10.out.d amv ml m.cap m.l rfl HLm.out Hrm.out (by have := Hdl.out; have := Hfit.out; omega) Hs10.out (data.length + ml) rfl (by have := HL0.out; omega) ?_)
        intro g3 C3 w3 ho3 hg3 hk3
        have d0 := (HM10.out.data ho3 hg3 (hk3.imp (fun h => h) (fun h => congrArg some h))).2.2.cell (i := 1) rfl
        have e0 := (HM10.out.data ho3 hg3 (hk3.imp (fun h => h) (fun h => congrArg some h))).2.2.frozen 1
        have hbb := (HM10.out.data ho3 hg3 (hk3.imp (fun h => h) (fun h => congrArg some h))).2.1
        have hbg : Below mb w9.drew w3 := (Below.refl mb w9.drew).grown hg3 (Nat.le_of_lt HM10.out.size) (fun q hq => by have := (own_blk HM10.out.d hq).1; omega)
        refine hK.out _ _ (HkS.out _ hbg) (fun hHeld => ?_)
        clear hK K
        try simp only [Act.put, List.setIfInBounds_toArray, List.set_cons_zero, List.set_cons_succ]
        refine wpAnyH_take (i := 10) (v := ?_) (by simp only [List.getElem?_toArray, List.getElem?_cons_succ, List.getElem?_cons_zero]; rfl) (by kernel_rfl) (by kernel_rfl) (by kernel_rfl) (by intro _ _ _ h_; exact h_) (Or.inl ⟨by rfl, ?_⟩) (by assumption) ?_
        rotate_left 1
        focus (intro w_ hSw_; go_simp; try with_reducible rfl)
        simp only [Act.put, List.setIfInBounds_toArray, List.set_cons_zero, List.set_cons_succ]
        refine wpAnyH_take (i := 11) (v := ?_) (by simp only [List.getElem?_toArray, List.getElem?_cons_succ, List.getElem?_cons_zero]; rfl) (by kernel_rfl) (by kernel_rfl) (by kernel_rfl) (by intro _ _ _ h_; exact h_) (Or.inl ⟨by rfl, ?_⟩) (by assumption) ?_
        rotate_left 1
        focus (intro w_ hSw_; go_simp; try with_reducible rfl)
        simp only [Act.put, List.setIfInBounds_toArray, List.set_cons_zero, List.set_cons_succ]
        refine wpAnyH_ready (rs := [12]) (by kernel_rfl) (by simp) ?_
        refine AllReadyH.cons (by simp only [List.getElem?_toArray, List.getElem?_cons_succ, List.getElem?_cons_zero]; rfl) (fun K hK => ?_) AllReadyH.nil
        go_simp
        refine hK.out _ _ (HkS.out _ hbb) (fun hHeld => ?_)
        clear hK K hbb hbg HkS Hb2m
        refine wpAnyH_done (by kernel_rfl) ?_ _
        all_goals
          as_aux_lemma =>
          obtain ⟨hm3, hb3, -⟩ := HM10.out.data ho3 hg3 (hk3.imp (fun h => h) (fun h => congrArg some h))
          have HM11 := Lib.hid hm3
          have HB11 := Lib.hid (HB10.out.trans hb3)
          have Hs11 : Hid (mb + 1 ≤ (w3.setCell ⟨mb, 1, none⟩ (.slice (some ⟨g3, 0, none⟩) (data.length + ml) C3)).heap.size) := Lib.hid (Nat.le_trans Hs10.out (by simp [World.setCell]; exact hg3.size))
          clear hm3 hb3 ho3 hg3 hk3 d0 e0 c2d c2k cd1 cd2 HM10 HB10 Hs10 Hrm
          generalize w3.setCell ⟨mb, 1, none⟩ (.slice (some ⟨g3, 0, none⟩) (data.length + ml) C3) = w12 at *
          have f9 : (k : Int) + 1 ≤ 32 := by have := Hlt.out; have := H32.out; omega
          go_wp2_with fail
          first
          | (go_roundw
             case rel => exact ⟨k + 1, _, _, _, _, by have := Hlt.out; omega, by go_num, Hnx.out, HM11.out, by rw [List.length_append, entB_len, Htl.out]; omega, by rw [List.length_append, HLm.out]; have := Hfit.out; have := Hat.out; omega, HB11.out, Hs11.out⟩
             case measure => (first | omega | (simp [intOf] <;> omega) | (simp only [intOf] <;> omega)))
          | exact ⟨⟨k + 1, _, _, _, _, by have := Hlt.out; omega, by go_num, Hnx.out, HM11.out, by rw [List.length_append, entB_len, Htl.out]; omega, by rw [List.length_append, HLm.out]; have := Hfit.out; have := Hat.out; omega, HB11.out, Hs11.out⟩, by (first | omega | (simp [intOf] <;> omega) | (simp only [intOf] <;> omega))⟩
          | (refine ⟨?_, by (first | omega | (simp [intOf] <;> omega) | (simp only [intOf] <;> omega))⟩
             (repeat apply Exists.intro)
             refine (fun a b => And.intro b a) ?_ ?_
             · first | rfl | ((repeat refine ⟨rfl, ?_⟩); rfl)
             exact ⟨k + 1, _, _, _, _, by have := Hlt.out; omega, by go_num, Hnx.out, HM11.out, by rw [List.length_append, entB_len, Htl.out]; omega, by rw [List.length_append, HLm.out]; have := Hfit.out; have := Hat.out; omega, HB11.out, Hs11.out⟩)
    · obtain rfl : k = n := by have := Hk.out; omega
      have hzl : (ids.zip (ims.map Im.l)).length = k := by rw [List.length_zip, List.length_map, Hl1.out, Hl2.out, Nat.min_self]
      have hr : makeGo fr [] headB [] (ids.zip (ims.map Im.l)) = (some (tab, data), 0) := by
        rw [Hgo.out, List.drop_of_length_le (by omega), makeGo]
      have hres := Lib.hid (makeR_some Harg.out (by rw [Hl1.out, Hfr.out]; exact hr))
      obtain ⟨at_, hat⟩ : ∃ at_, fr + data.length = at_ := ⟨_, rfl⟩
      rw [Hl1.out, Hfr.out, hat] at hres
      have qa : IntKind.i64.wrap ((fr : Int) + (data.length : Int)) = (at_ : Int) := by rw [← hat]; have := Hdl.out; simp [IntKind.wrap, IntKind.bits, IntKind.signed]; omega
      have hbz := fun w => run_buildGz w
      have Hen := Lib.hid (mentry_any (mb + 1) mb gz at_ 0 vt _ tab data wr HM.out Hs.out (by have := Htl.out; have := H32.out; omega) (by have := Hdl.out; omega) (by decide))
      clear hzl hr hat hlt
      go_wp2_with fail
      as_aux_lemma =>
      refine Hen.out.mono ?_
      rintro r w9 ⟨rfl, ⟨vt9, hm9, -⟩, hb9, hs9⟩
      have HM9 := Lib.hid hm9
      have HB9 := Lib.hid (Hb.out.trans hb9)
      have Hs9 : Hid (mb + 1 ≤ w9.heap.size) := Lib.hid (Nat.le_trans Hs.out hs9)
      have Htl9 : Hid ((tab ++ entB gz at_ 0).length = 56 + 40 * k) := Lib.hid (by rw [List.length_append, entB_len, Htl.out]; omega)
      clear hm9 hb9 hs9 Hen HM Hb Hs cd1 qa hbz
      go_wp2_with fail
      as_aux_lemma =>
      have hd0 : Drn w9 w9.drew := ⟨1, rfl⟩
      have HM10 := Lib.hid (HM9.out.later (hd0.below _))
      have HB10 := Lib.hid (HB9.out.trans (hd0.below _))
      have Hs10 : Hid (mb + 1 ≤ w9.drew.heap.size) := Lib.hid Hs9.out
      have cc0 : w9.cell? ⟨mb, 0, none⟩ = some vt9 := HM9.out.h.cell (i := 0) rfl
      have cc0d := HM10.out.h.cell (i := 0) rfl
      have cc1 : w9.cell? ⟨mb, 1, none⟩ = some (.slice aod data.length cd) := HM9.out.h.cell (i := 1) rfl
      have cc1d := HM10.out.h.cell (i := 1) rfl
      clear hd0 HM9 HB9 Hs9
      obtain ⟨aod', cd', he, -, -, hrdd⟩ := HM10.out.d.rd
      have Hrdd : Hid (Rd w9.drew aod data) := Lib.hid (by
        simp only [Value.slice.injEq] at he
        rw [he.1]; exact hrdd)
      clear he hrdd
      cases aod with
      | none =>
        have hcd := Hdz.out rfl
        have hdn : data = [] := by
          by_cases h0 : 0 < data.length
          · obtain ⟨_, _, e, _⟩ := Hrdd.out 0 h0; cases e
          · exact List.eq_nil_of_length_eq_zero (by omega)
        subst hdn
        subst hcd
        have hS0 : w9.drew.cell? ⟨mb, 0, none⟩ = some vt9 ∧ w9.drew.cell? ⟨mb, 1, none⟩ = some (.slice none 0 0) := ⟨cc0d, cc1d⟩
        refine wp_region_held_drew (S := fun w' => w'.cell? ⟨mb, 0, none⟩ = some vt9 ∧ w'.cell? ⟨mb, 1, none⟩ = some (.slice none 0 0)) (by kernel_rfl) hS0 (fun hHeld => ?_)
        refine wpAnyH_take (i := 0) (v := ?_) (by simp only [List.getElem?_toArray, List.getElem?_cons_succ, List.getElem?_cons_zero]; rfl) (by kernel_rfl) (by kernel_rfl) (by kernel_rfl) (by intro _ _ _ h_; exact h_) (Or.inl ⟨by rfl, ?_⟩) (by assumption) ?_
        rotate_left 1
        focus (intro w_ hSw_; go_simp; try with_reducible rfl)
        simp only [Act.put, List.setIfInBounds_toArray, List.set_cons_zero, List.set_cons_succ]
        refine wpAnyH_take (i := 1) (v := ?_) (by simp only [List.getElem?_toArray, List.getElem?_cons_succ, List.getElem?_cons_zero]; rfl) (by kernel_rfl) (by kernel_rfl) (by kernel_rfl) (by intro _ _ _ h_; exact h_) (Or.inl ⟨by rfl, ?_⟩) (by assumption) ?_
        rotate_left 1
        focus (intro w_ hSw_; go_simp; try with_reducible rfl)
        simp only [Act.put, List.setIfInBounds_toArray, List.set_cons_zero, List.set_cons_succ]
        refine wpAnyH_take (i := 2) (v := ?_) (by simp only [List.getElem?_toArray, List.getElem?_cons_succ, List.getElem?_cons_zero]; rfl) (by kernel_rfl) (by kernel_rfl) (by kernel_rfl) (by intro _ _ _ h_; exact h_) (Or.inl ⟨by rfl, ?_⟩) (by assumption) ?_
        rotate_left 1
        focus (intro w_ hSw_; go_simp; try with_reducible rfl)
        simp only [Act.put, List.setIfInBounds_toArray, List.set_cons_zero, List.set_cons_succ]
        refine wpAnyH_take (i := 3) (v := ?_) (by simp only [List.getElem?_toArray, List.getElem?_cons_succ, List.getElem?_cons_zero]; rfl) (by kernel_rfl) (by kernel_rfl) (by kernel_rfl) (by intro _ _ _ h_; exact h_) (Or.inl ⟨by rfl, ?_⟩) (by assumption) ?_
        rotate_left 1
        focus (intro w_ hSw_; go_simp; try with_reducible rfl)
        simp only [Act.put, List.setIfInBounds_toArray, List.set_cons_zero, List.set_cons_succ]
        refine wpAnyH_take (i := 4) (v := ?_) (by simp only [List.getElem?_toArray, List.getElem?_cons_succ, List.getElem?_cons_zero]; rfl) (by kernel_rfl) (by kernel_rfl) (by kernel_rfl) (by intro _ _ _ h_; exact h_) (Or.inl ⟨by rfl, ?_⟩) (by assumption) ?_
        rotate_left 1
        focus (intro w_ hSw_; go_simp; try with_reducible rfl)
        simp only [Act.put, List.setIfInBounds_toArray, List.set_cons_zero, List.set_cons_succ]
        refine wpAnyH_take (i := 5) (v := ?_) (by simp only [List.getElem?_toArray, List.getElem?_cons_succ, List.getElem?_cons_zero]; rfl) (by kernel_rfl) (by kernel_rfl) (by kernel_rfl) (by intro _ _ _ h_; exact h_) (Or.inl ⟨by rfl, ?_⟩) (by assumption) ?_
        rotate_left 1
        focus (intro w_ hSw_; go_simp; try with_reducible rfl)
        simp only [Act.put, List.setIfInBounds_toArray, List.set_cons_zero, List.set_cons_succ]
        refine wpAnyH_take (i := 6) (v := ?_) (by simp only [List.getElem?_toArray, List.getElem?_cons_succ, List.getElem?_cons_zero]; rfl) (by kernel_rfl) (by kernel_rfl) (by kernel_rfl) (by intro _ _ _ h_; exact h_) (Or.inl ⟨by rfl, ?_⟩) (by assumption) ?_
        rotate_left 1
        focus (intro w_ hSw_; go_simp; try with_reducible rfl)
        simp only [Act.put, List.setIfInBounds_toArray, List.set_cons_zero, List.set_cons_succ]
        refine wpAnyH_take (i := 7) (v := ?_) (by simp only [List.getElem?_toArray, List.getElem?_cons_succ, List.getElem?_cons_zero]; rfl) (by kernel_rfl) (by kernel_rfl) (by kernel_rfl) (by intro _ _ _ h_; exact h_) (Or.inl ⟨by rfl, ?_⟩) (by assumption) ?_
        rotate_left 1
        focus (intro w_ hSw_; go_simp; try with_reducible rfl)
        simp only [Act.put, List.setIfInBounds_toArray, List.set_cons_zero, List.set_cons_succ]
        refine wpAnyH_ready (rs := [8]) (by kernel_rfl) (by simp) ?_
        refine AllReadyH.cons (by simp only [List.getElem?_toArray, List.getElem?_cons_succ, List.getElem?_cons_zero]; rfl) (fun K hK => ?_) AllReadyH.nil
        refine step_of_wp rfl (wp_append_none byteRow _ _ rfl (mb + 1) vt9 (tab ++ entB gz at_ 0) rfl HM10.out.t rfl ?_)
        refine hK.out _ _ hS0 (fun hHeld => ?_)
        clear hK K
        try simp only [Act.put, List.setIfInBounds_toArray, List.set_cons_zero, List.set_cons_succ]
        refine wpAnyH_take (i := 9) (v := ?_) (by simp only [List.getElem?_toArray, List.getElem?_cons_succ, List.getElem?_cons_zero]; rfl) (by kernel_rfl) (by kernel_rfl) (by kernel_rfl) (by intro _ _ _ h_; exact h_) (Or.inl ⟨by rfl, ?_⟩) (by assumption) ?_
        rotate_left 1
        focus (intro w_ hSw_; go_simp; try with_reducible rfl)
        simp only [Act.put, List.setIfInBounds_toArray, List.set_cons_zero, List.set_cons_succ]
        refine wpAnyH_take (i := 10) (v := ?_) (by simp only [List.getElem?_toArray, List.getElem?_cons_succ, List.getElem?_cons_zero]; rfl) (by kernel_rfl) (by kernel_rfl) (by kernel_rfl) (by intro _ _ _ h_; exact h_) (Or.inl ⟨by rfl, ?_⟩) (by assumption) ?_
        rotate_left 1
        focus (intro w_ hSw_; go_simp; try with_reducible rfl)
        simp only [Act.put, List.setIfInBounds_toArray, List.set_cons_zero, List.set_cons_succ]
        refine wpAnyH_done (by kernel_rfl) ?_ _
        all_goals
          go_wp2_with fail
          go_ret2
          exact ⟨vt9, by rw [hres.out]; rfl, by rw [hres.out, List.append_nil]; exact HM10.out.t.mono (Nat.le_trans (Nat.le_of_eq HBx.out) (Nat.le_succ mb)), by rw [HBx.out]; exact HB10.out⟩
      | some ad =>
        obtain ⟨NN, hNN⟩ : ∃ NN, (tab ++ entB gz at_ 0).length + data.length = NN := ⟨_, rfl⟩
        have hS0 : w9.drew.cell? ⟨mb, 0, none⟩ = some vt9 ∧ w9.drew.cell? ⟨mb, 1, none⟩ = some (.slice (some ad) data.length cd) := ⟨cc0d, cc1d⟩
        refine wp_region_held_drew (S := fun w' => w'.cell? ⟨mb, 0, none⟩ = some vt9 ∧ w'.cell? ⟨mb, 1, none⟩ = some (.slice (some ad) data.length cd)) (by kernel_rfl) hS0 (fun hHeld => ?_)
        refine wpAnyH_take (i := 0) (v := ?_) (by simp only [List.getElem?_toArray, List.getElem?_cons_succ, List.getElem?_cons_zero]; rfl) (by kernel_rfl) (by kernel_rfl) (by kernel_rfl) (by intro _ _ _ h_; exact h_) (Or.inl ⟨by rfl, ?_⟩) (by assumption) ?_
        rotate_left 1
        focus (intro w_ hSw_; go_simp; try with_reducible rfl)
        simp only [Act.put, List.setIfInBounds_toArray, List.set_cons_zero, List.set_cons_succ]
        refine wpAnyH_take (i := 1) (v := ?_) (by simp only [List.getElem?_toArray, List.getElem?_cons_succ, List.getElem?_cons_zero]; rfl) (by kernel_rfl) (by kernel_rfl) (by kernel_rfl) (by intro _ _ _ h_; exact h_) (Or.inl ⟨by rfl, ?_⟩) (by assumption) ?_
        rotate_left 1
        focus (intro w_ hSw_; go_simp; try with_reducible rfl)
        simp only [Act.put, List.setIfInBounds_toArray, List.set_cons_zero, List.set_cons_succ]
        refine wpAnyH_take (i := 2) (v := ?_) (by simp only [List.getElem?_toArray, List.getElem?_cons_succ, List.getElem?_cons_zero]; rfl) (by kernel_rfl) (by kernel_rfl) (by kernel_rfl) (by intro _ _ _ h_; exact h_) (Or.inl ⟨by rfl, ?_⟩) (by assumption) ?_
        rotate_left 1
        focus (intro w_ hSw_; go_simp; try with_reducible rfl)
        simp only [Act.put, List.setIfInBounds_toArray, List.set_cons_zero, List.set_cons_succ]
        refine wpAnyH_take (i := 3) (v := ?_) (by simp only [List.getElem?_toArray, List.getElem?_cons_succ, List.getElem?_cons_zero]; rfl) (by kernel_rfl) (by kernel_rfl) (by kernel_rfl) (by intro _ _ _ h_; exact h_) (Or.inl ⟨by rfl, ?_⟩) (by assumption) ?_
        rotate_left 1
        focus (intro w_ hSw_; go_simp; try with_reducible rfl)
        simp only [Act.put, List.setIfInBounds_toArray, List.set_cons_zero, List.set_cons_succ]
        refine wpAnyH_take (i := 4) (v := ?_) (by simp only [List.getElem?_toArray, List.getElem?_cons_succ, List.getElem?_cons_zero]; rfl) (by kernel_rfl) (by kernel_rfl) (by kernel_rfl) (by intro _ _ _ h_; exact h_) (Or.inl ⟨by rfl, ?_⟩) (by assumption) ?_
        rotate_left 1
        focus (intro w_ hSw_; go_simp; try with_reducible rfl)
        simp only [Act.put, List.setIfInBounds_toArray, List.set_cons_zero, List.set_cons_succ]
        refine wpAnyH_take (i := 5) (v := ?_) (by simp only [List.getElem?_toArray, List.getElem?_cons_succ, List.getElem?_cons_zero]; rfl) (by kernel_rfl) (by kernel_rfl) (by kernel_rfl) (by intro _ _ _ h_; exact h_) (Or.inl ⟨by rfl, ?_⟩) (by assumption) ?_
        rotate_left 1
        focus (intro w_ hSw_; go_simp; try with_reducible rfl)
        simp only [Act.put, List.setIfInBounds_toArray, List.set_cons_zero, List.set_cons_succ]
        refine wpAnyH_take (i := 6) (v := ?_) (by simp only [List.getElem?_toArray, List.getElem?_cons_succ, List.getElem?_cons_zero]; rfl) (by kernel_rfl) (by kernel_rfl) (by kernel_rfl) (by intro _ _ _ h_; exact h_) (Or.inl ⟨by rfl, ?_⟩) (by assumption) ?_
        rotate_left 1
        focus (intro w_ hSw_; go_simp; try with_reducible rfl)
        simp only [Act.put, List.setIfInBounds_toArray, List.set_cons_zero, List.set_cons_succ]
        refine wpAnyH_take (i := 7) (v := ?_) (by simp only [List.getElem?_toArray, List.getElem?_cons_succ, List.getElem?_cons_zero]; rfl) (by kernel_rfl) (by kernel_rfl) (by kernel_rfl) (by intro _ _ _ h_; exact h_) (Or.inl ⟨by rfl, ?_⟩) (by assumption) ?_
        rotate_left 1
        focus (intro w_ hSw_; go_simp; try with_reducible rfl)
        simp only [Act.put, List.setIfInBounds_toArray, List.set_cons_zero, List.set_cons_succ]
        refine wpAnyH_ready (rs := [8]) (by kernel_rfl) (by simp) ?_
        refine AllReadyH.cons (by simp only [List.getElem?_toArray, List.getElem?_cons_succ, List.getElem?_cons_zero]; rfl) (fun K hK => ?_) AllReadyH.nil
        refine step_of_wp rfl (wp_append_at byteRow _ _ rfl (mb + 1) vt9 (tab ++ entB gz at_ 0) rfl HM10.out.t ad data.length cd data rfl rfl Hrdd.out (by have := Hdl.out; have := Htl9.out; have := H32.out; omega) Hs10.out NN hNN (by have := Htl9.out; omega) ?_)
        intro g3 C3 w3 ho3 hg3 hk3
        have hm3 := HM10.out.h.grown hg3 (fun e => by have := (own_blk HM10.out.t e.symm).1; omega)
        refine hK.out _ _ ⟨hm3.cell (i := 0) rfl, hm3.cell (i := 1) rfl⟩ (fun hHeld => ?_)
        clear hK K hm3
        try simp only [Act.put, List.setIfInBounds_toArray, List.set_cons_zero, List.set_cons_succ]
        refine wpAnyH_take (i := 9) (v := ?_) (by simp only [List.getElem?_toArray, List.getElem?_cons_succ, List.getElem?_cons_zero]; rfl) (by kernel_rfl) (by kernel_rfl) (by kernel_rfl) (by intro _ _ _ h_; exact h_) (Or.inl ⟨by rfl, ?_⟩) (by assumption) ?_
        rotate_left 1
        focus (intro w_ hSw_; go_simp; try with_reducible rfl)
        simp only [Act.put, List.setIfInBounds_toArray, List.set_cons_zero, List.set_cons_succ]
        refine wpAnyH_take (i := 10) (v := ?_) (by simp only [List.getElem?_toArray, List.getElem?_cons_succ, List.getElem?_cons_zero]; rfl) (by kernel_rfl) (by kernel_rfl) (by kernel_rfl) (by intro _ _ _ h_; exact h_) (Or.inl ⟨by rfl, ?_⟩) (by assumption) ?_
        rotate_left 1
        focus (intro w_ hSw_; go_simp; try with_reducible rfl)
        simp only [Act.put, List.setIfInBounds_toArray, List.set_cons_zero, List.set_cons_succ]
        refine wpAnyH_done (by kernel_rfl) ?_ _
        all_goals
          have HBf := Lib.hid (HB10.out.grown hg3 (Nat.le_of_lt HM10.out.size) (fun q hq => by have := (own_blk HM10.out.t hq).1; omega))
          have HOf := Lib.hid ho3
          clear ho3 hg3 hk3
          go_wp2_with fail
          go_ret2
          exact ⟨_, by rw [hres.out]; rfl, by rw [hres.out]; exact HOf.out.mono (Nat.le_trans (Nat.le_of_eq HBx.out) (Nat.le_succ mb)), by rw [HBx.out]; exact HBf.out⟩
end Go.Proofs.Ytefkmlfpdlnodaa
