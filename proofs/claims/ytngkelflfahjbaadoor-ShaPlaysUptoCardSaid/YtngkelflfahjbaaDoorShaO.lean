/- The program's digests of a whole message. No condition. -/
import Derived.Test.YtngkelflfahjbaaDoorShaJ
import Derived.Laws.Cover3
set_option linter.unusedVariables false
set_option linter.unusedSimpArgs false
namespace Go.Proofs.YtngkelflfahjbaaDoor
open Go.RowKit
theorem firstK_lt (k : Nat) (hk : 1 ≤ k ∧ k ≤ 3) : (firstK k).Lt (2 ^ wK k) := by
  rcases (by omega : k = 1 ∨ k = 2 ∨ k = 3) with rfl | rfl | rfl <;> exact ⟨by decide, by decide, by decide, by decide, by decide, by decide, by decide, by decide⟩
theorem digS_len (k : Nat) (hk : 1 ≤ k ∧ k ≤ 3) (s : S8) (n : Nat) (l : List UInt8) : (digS k s n l).length = digK k := by
  unfold digS
  rw [List.length_take, wordsL_len, s8l_len]
  rcases (by omega : k = 1 ∨ k = 2 ∨ k = 3) with rfl | rfl | rfl <;> rfl
set_option maxHeartbeats 1000000 in
theorem psum_any (k : Nat) (ao : Option Addr) (n cap : Nat) (l : List UInt8) (w : World) (hk : 1 ≤ k ∧ k ≤ 3) (hl : l.length = n) (hnc : n ≤ cap) (hcm : cap ≤ 9223372036854775807) (hc0 : ao = none → cap = 0) (hr : Rd w ao l) (hlt : ∀ a, ao = some a → a.block < w.heap.size) (htab : TabOk w) (h00 : 0 < w.heap.size) :
    Calls Tryd.prog 34 #[.int .i64 ((8 * digK k : Nat) : Int), .slice ao n cap] w fun e w' => ∃ g C, e = .returned (.slice (some ⟨g, 0, none⟩) (digK k) C) ∧ Own 5 w' w.heap.size (.slice (some ⟨g, 0, none⟩) (digK k) C) (digS k (firstK k) n l) ∧ Below w.heap.size w w' := by
  have Hnew := Lib.hid (new_any k w hk)
  have Hk := Lib.hid hk
  have Hl := Lib.hid hl
  have Hnc := Lib.hid hnc
  have Hcm := Lib.hid hcm
  have Hc0 := Lib.hid hc0
  have Hr := Lib.hid hr
  have Hlt := Lib.hid hlt
  have Htab := Lib.hid htab
  have H00 := Lib.hid h00
  have q1 : IntKind.u64.wrap (n : Int) = (n : Int) := IntWalk.u64_in _ (by omega)
  obtain ⟨D, hD⟩ : ∃ D, 8 * digK k = D := ⟨_, rfl⟩
  rw [hD] at Hnew ⊢
  clear hk hl hnc hcm hc0 hr hlt htab h00 hD
  go_enter Tryd.func34, Tryd.ntmps34
  go_wp2_with fail
  refine Hnew.out.mono ?_
  rintro e w1 ⟨H, rfl, hH, hHs, hb1⟩
  have HH := Lib.hid hH
  have HHs := Lib.hid hHs
  have HB1 := Lib.hid hb1
  have Hr1 := Lib.hid (Hr.out.below hb1)
  have Ht1 := Lib.hid (Htab.out.below hb1)
  have Hlt1 : Hid (H < w1.heap.size) := Lib.hid hH.lt
  clear hH hHs hb1 Hnew
  go_wp2_with fail
  as_aux_lemma =>
  refine (blocks_any H k (firstK k) 0 (.slice none 0 0) ao n cap l w1 Hk.out HH.out (firstK_lt k Hk.out) Hl.out Hnc.out (by have := Hcm.out; omega) Hr1.out (fun a e h => by have := Hlt.out a e; have := HHs.out; omega) Ht1.out (by have := HHs.out; have := H00.out; omega)).mono ?_
  rintro e w2 ⟨bo, c, rfl, hmc, hcc, hrb, hbo, hbn, hH2, hg2⟩
  obtain ⟨hleft, hlsz⟩ := goB_left (wK k) l.length (firstK k) l rfl
  have Hdw := Lib.hid (digS_whole k (firstK k) l n)
  have Hst := Lib.hid (goB_lt (wK k) l.length (firstK k) l rfl (firstK_lt k Hk.out))
  have Hm : Hid ((goB (wK k) (firstK k) l).2.length ≤ 128) := Lib.hid (by
    have : sizeW (wK k) ≤ 128 := by unfold sizeW; split <;> decide
    omega)
  generalize (goB (wK k) (firstK k) l).1 = st at *
  generalize (goB (wK k) (firstK k) l).2 = rest at *
  obtain ⟨m, hm⟩ : ∃ m, rest.length = m := ⟨_, rfl⟩
  rw [hm] at hmc Hm ⊢
  have HM := Lib.hid hm
  have HH2 := Lib.hid hH2
  have HG2 := Lib.hid hg2
  have Hrb := Lib.hid hrb
  have Hbo := Lib.hid hbo
  have Hbc : Hid (bo = none → c = 0) := Lib.hid (fun e => by have := Hc0.out (hbn e); omega)
  have Hne : Hid (∀ a, bo = some a → some a.block ≠ some H) := Lib.hid (fun a e h => by
    obtain ⟨a', e1, e2⟩ := hbo a e
    have := Hlt.out a' e1
    have := HHs.out
    have := Option.some.inj h
    omega)
  clear hmc hcc hrb hbo hbn hH2 hg2 hleft hlsz hm HH Hr1
  have k20 := HH2.out.cell (hashC_rv k st 0 (.slice none 0 0))
  have f20 := HH2.out.frozen 20
  have HH3 : Hid (HB (w2.setCell ⟨H, 20, none⟩ (.slice bo m c)) H 67 (hashC k st 0 (.slice bo m c))) := Lib.hid (HH2.out.set 20 (.slice bo m c))
  have HG3 := Lib.hid (HG2.out.trans (grown_set w2 ⟨H, 20, none⟩ (.slice bo m c)))
  go_upto_region 3 with fail
  as_aux_lemma =>
  clear k20 f20 HH2 HG2
  generalize w2.setCell ⟨H, 20, none⟩ (.slice bo m c) = w3 at *
  have k19 := HH3.out.cell (hashC_n k st 0 (.slice bo m c))
  have f19 := HH3.out.frozen 19
  have HH4 : Hid (HB (w3.setCell ⟨H, 19, none⟩ (.int .u64 (n : Nat))) H 67 (hashC k st n (.slice bo m c))) := Lib.hid (HH3.out.set 19 (.int .u64 (n : Nat)))
  have HG4 := Lib.hid (HG3.out.trans (grown_set w3 ⟨H, 19, none⟩ (.int .u64 (n : Nat))))
  go_upto_region 4 with fail
  as_aux_lemma =>
  clear k19 f19 HH3 HG3 q1
  generalize w3.setCell ⟨H, 19, none⟩ (.int .u64 (n : Nat)) = w4 at *
  have HB4 : Hid (Below w.heap.size w w4) := Lib.hid (HB1.out.grown HG4.out HB1.out.size (fun x hx => by have := Option.some.inj hx; have := HHs.out; omega))
  have Hr4 := Lib.hid (Hrb.out.grown HG4.out Hne.out)
  have Hsm := Lib.hid (sum_any H k st n bo m c rest w4 Hk.out HH4.out Hst.out (by have := Hnc.out; have := Hcm.out; omega) HM.out (by have := Hm.out; omega) Hbc.out Hr4.out (Htab.out.below HB4.out) (by have := HB4.out.size; have := H00.out; omega))
  clear HH4 HG4 Hr4 Hrb Hne Hbo
  go_wp2_with fail
  refine Hsm.out.mono ?_
  rintro e w5 ⟨g, C, rfl, ho5, hb5⟩
  have HO5 := Lib.hid (ho5.mono HB4.out.size)
  have HB5 := Lib.hid (HB4.out.trans (hb5.mono HB4.out.size))
  clear ho5 hb5 Hsm
  go_wp2_with fail
  go_ret
  exact ⟨g, C, rfl, by rw [← Hdw.out]; exact HO5.out, HB5.out⟩
set_option maxRecDepth 100000 in
set_option maxHeartbeats 1000000 in
theorem psum32 (ao : Option Addr) (n cap : Nat) (l : List UInt8) (w : World) (hl : l.length = n) (hnc : n ≤ cap) (hcm : cap ≤ 9223372036854775807) (hc0 : ao = none → cap = 0) (hr : Rd w ao l) (hlt : ∀ a, ao = some a → a.block < w.heap.size) (htab : TabOk w) (h00 : 0 < w.heap.size) :
    Calls Tryd.prog 11 #[.slice ao n cap] w fun e w' => e = .returned (.agg ((digS 1 (firstK 1) n l).map bv).toArray) ∧ Below w.heap.size w w' := by
  have hz : ∀ w, (zeroValue 25).run Tryd.prog w = .ok (.agg (List.replicate 32 (bv 0)).toArray) w := fun w => by kernel_rfl
  have Hz1 := Lib.hid (HB.new w (List.replicate 32 (bv 0)) 25)
  have HB0 := Lib.hid ((Below.refl w.heap.size w).alloc (Nat.le_refl _) (.cells (List.replicate 32 (bv 0)).toArray 25))
  have Hsu := Lib.hid (psum_any 1 ao n cap l (w.alloc (.cells (List.replicate 32 (bv 0)).toArray 25)) (by decide) hl hnc hcm hc0 (hr.below HB0.out) (fun a e => by have := hlt a e; simp; omega) (htab.below HB0.out) (by simp))
  have hdl := digS_len 1 (by decide) (firstK 1) n l
  have hDk : digK 1 = 32 := rfl
  rw [hDk] at hdl Hsu
  have Hdl := Lib.hid hdl
  have Hi : Hid ((Tryd.prog.info? 25).map (·.size) = some ((digS 1 (firstK 1) n l).map bv).length) := Lib.hid (by rw [List.length_map, hdl]; kernel_rfl)
  have Hi' : Hid ((Tryd.prog.info? 25).map (·.size) = some ((digS 1 (firstK 1) n l).map bv).toArray.size) := Lib.hid Hi.out
  have Hsz : Hid ((List.replicate 32 (bv 0)).toArray.size = ((digS 1 (firstK 1) n l).map bv).toArray.size) := Lib.hid (by simp [hdl])
  have Hone : Hid (((digS 1 (firstK 1) n l).map bv).toArray.all (·.oneCell') = true) := Lib.hid (by simp [bv, Value.oneCell'])
  clear hl hnc hcm hc0 hr hlt htab h00 hdl hDk
  generalize digS 1 (firstK 1) n l = dg at *
  go_enter Tryd.func11, Tryd.ntmps11
  go_wp2_with fail
  as_aux_lemma =>
  refine Hsu.out.mono ?_
  rintro e w1 ⟨g, C, rfl, ho, hb⟩
  have HO := Lib.hid ho
  have HR1 := Lib.hid (Hz1.out.later hb)
  have HB1 := Lib.hid (HB0.out.trans (hb.mono (by simp)))
  have hat : ∀ w, (Instr.arrayAt 25 (.slice (some ⟨g, 0, none⟩) 32 C)).run Tryd.prog w = .ok (.pointer (some ⟨g, 0, none⟩)) w := fun w => run_arrayAt w 25 _ 32 _ 32 C Tryd.underlying25 (Nat.le_refl _)
  have Hrg : Hid (w1.rangeAt g 0 (dg.map bv)) := Lib.hid (fun j v hj => by
    have hlt : j < dg.length := by have := (List.getElem?_eq_some_iff.1 hj).1; simpa using this
    rcases ho.cases with ⟨h, _⟩ | ⟨g', C', he, _, _, _, _, hc, _⟩
    · cases h
    · rw [Hdl.out] at he
      cases he
      rw [Nat.zero_add, hc j hlt, ← hj, List.getElem?_map, List.getElem?_eq_getElem hlt]; rfl)
  have hR8 : HB (w1.setRow w.heap.size (dg.map bv).toArray) w.heap.size 25 (dg.map bv) := setRow_heap _ _ _ _ _ _ HR1.out
  have Hv := Lib.hid (run_loadVar_mid (P := Tryd.prog) _ w.heap.size 0 25 (dg.map bv) _ hR8.whole Tryd.underlying25 rfl Hi.out)
  have HBf := Lib.hid (HB1.out.grown (grown_row w1 w.heap.size (dg.map bv).toArray) HB1.out.size (fun x hx => Nat.le_of_eq (Option.some.inj hx)))
  clear ho hb hR8 hz Hz1 HB0 Hsu HO
  go_wp2_with (first | (refine wpList_load_mid rfl _ _ rfl g 0 rfl (dg.map bv) _ Hrg.out Tryd.underlying25 rfl Hi.out ?_) | (refine wpList_store_row rfl _ _ _ rfl w.heap.size (dg.map bv).toArray rfl rfl _ _ HR1.out Hi'.out Hsz.out Hone.out ?_))
  generalize w1.setRow w.heap.size (dg.map bv).toArray = w9 at *
  have hv := Hv.out
  refine bodyPost_ret (v := .agg (dg.map bv).toArray) (by simp [results, Tryd.results11, asAddr, hv, Result.andThen, Act.put]; try rfl) rfl ⟨rfl, HBf.out⟩
set_option maxRecDepth 100000 in
set_option maxHeartbeats 1000000 in
theorem psum48 (ao : Option Addr) (n cap : Nat) (l : List UInt8) (w : World) (hl : l.length = n) (hnc : n ≤ cap) (hcm : cap ≤ 9223372036854775807) (hc0 : ao = none → cap = 0) (hr : Rd w ao l) (hlt : ∀ a, ao = some a → a.block < w.heap.size) (htab : TabOk w) (h00 : 0 < w.heap.size) :
    Calls Tryd.prog 12 #[.slice ao n cap] w fun e w' => e = .returned (.agg ((digS 2 (firstK 2) n l).map bv).toArray) ∧ Below w.heap.size w w' := by
  have hz : ∀ w, (zeroValue 27).run Tryd.prog w = .ok (.agg (List.replicate 48 (bv 0)).toArray) w := fun w => by kernel_rfl
  have Hz1 := Lib.hid (HB.new w (List.replicate 48 (bv 0)) 27)
  have HB0 := Lib.hid ((Below.refl w.heap.size w).alloc (Nat.le_refl _) (.cells (List.replicate 48 (bv 0)).toArray 27))
  have Hsu := Lib.hid (psum_any 2 ao n cap l (w.alloc (.cells (List.replicate 48 (bv 0)).toArray 27)) (by decide) hl hnc hcm hc0 (hr.below HB0.out) (fun a e => by have := hlt a e; simp; omega) (htab.below HB0.out) (by simp))
  have hdl := digS_len 2 (by decide) (firstK 2) n l
  have hDk : digK 2 = 48 := rfl
  rw [hDk] at hdl Hsu
  have Hdl := Lib.hid hdl
  have Hi : Hid ((Tryd.prog.info? 27).map (·.size) = some ((digS 2 (firstK 2) n l).map bv).length) := Lib.hid (by rw [List.length_map, hdl]; kernel_rfl)
  have Hi' : Hid ((Tryd.prog.info? 27).map (·.size) = some ((digS 2 (firstK 2) n l).map bv).toArray.size) := Lib.hid Hi.out
  have Hsz : Hid ((List.replicate 48 (bv 0)).toArray.size = ((digS 2 (firstK 2) n l).map bv).toArray.size) := Lib.hid (by simp [hdl])
  have Hone : Hid (((digS 2 (firstK 2) n l).map bv).toArray.all (·.oneCell') = true) := Lib.hid (by simp [bv, Value.oneCell'])
  clear hl hnc hcm hc0 hr hlt htab h00 hdl hDk
  generalize digS 2 (firstK 2) n l = dg at *
  go_enter Tryd.func12, Tryd.ntmps12
  go_wp2_with fail
  as_aux_lemma =>
  refine Hsu.out.mono ?_
  rintro e w1 ⟨g, C, rfl, ho, hb⟩
  have HO := Lib.hid ho
  have HR1 := Lib.hid (Hz1.out.later hb)
  have HB1 := Lib.hid (HB0.out.trans (hb.mono (by simp)))
  have hat : ∀ w, (Instr.arrayAt 27 (.slice (some ⟨g, 0, none⟩) 48 C)).run Tryd.prog w = .ok (.pointer (some ⟨g, 0, none⟩)) w := fun w => run_arrayAt w 27 _ 48 _ 48 C Tryd.underlying27 (Nat.le_refl _)
  have Hrg : Hid (w1.rangeAt g 0 (dg.map bv)) := Lib.hid (fun j v hj => by
    have hlt : j < dg.length := by have := (List.getElem?_eq_some_iff.1 hj).1; simpa using this
    rcases ho.cases with ⟨h, _⟩ | ⟨g', C', he, _, _, _, _, hc, _⟩
    · cases h
    · rw [Hdl.out] at he
      cases he
      rw [Nat.zero_add, hc j hlt, ← hj, List.getElem?_map, List.getElem?_eq_getElem hlt]; rfl)
  have hR8 : HB (w1.setRow w.heap.size (dg.map bv).toArray) w.heap.size 27 (dg.map bv) := setRow_heap _ _ _ _ _ _ HR1.out
  have Hv := Lib.hid (run_loadVar_mid (P := Tryd.prog) _ w.heap.size 0 27 (dg.map bv) _ hR8.whole Tryd.underlying27 rfl Hi.out)
  have HBf := Lib.hid (HB1.out.grown (grown_row w1 w.heap.size (dg.map bv).toArray) HB1.out.size (fun x hx => Nat.le_of_eq (Option.some.inj hx)))
  clear ho hb hR8 hz Hz1 HB0 Hsu HO
  go_wp2_with (first | (refine wpList_load_mid rfl _ _ rfl g 0 rfl (dg.map bv) _ Hrg.out Tryd.underlying27 rfl Hi.out ?_) | (refine wpList_store_row rfl _ _ _ rfl w.heap.size (dg.map bv).toArray rfl rfl _ _ HR1.out Hi'.out Hsz.out Hone.out ?_))
  generalize w1.setRow w.heap.size (dg.map bv).toArray = w9 at *
  have hv := Hv.out
  refine bodyPost_ret (v := .agg (dg.map bv).toArray) (by simp [results, Tryd.results12, asAddr, hv, Result.andThen, Act.put]; try rfl) rfl ⟨rfl, HBf.out⟩
set_option maxRecDepth 100000 in
set_option maxHeartbeats 1000000 in
theorem psum64 (ao : Option Addr) (n cap : Nat) (l : List UInt8) (w : World) (hl : l.length = n) (hnc : n ≤ cap) (hcm : cap ≤ 9223372036854775807) (hc0 : ao = none → cap = 0) (hr : Rd w ao l) (hlt : ∀ a, ao = some a → a.block < w.heap.size) (htab : TabOk w) (h00 : 0 < w.heap.size) :
    Calls Tryd.prog 13 #[.slice ao n cap] w fun e w' => e = .returned (.agg ((digS 3 (firstK 3) n l).map bv).toArray) ∧ Below w.heap.size w w' := by
  have hz : ∀ w, (zeroValue 29).run Tryd.prog w = .ok (.agg (List.replicate 64 (bv 0)).toArray) w := fun w => by kernel_rfl
  have Hz1 := Lib.hid (HB.new w (List.replicate 64 (bv 0)) 29)
  have HB0 := Lib.hid ((Below.refl w.heap.size w).alloc (Nat.le_refl _) (.cells (List.replicate 64 (bv 0)).toArray 29))
  have Hsu := Lib.hid (psum_any 3 ao n cap l (w.alloc (.cells (List.replicate 64 (bv 0)).toArray 29)) (by decide) hl hnc hcm hc0 (hr.below HB0.out) (fun a e => by have := hlt a e; simp; omega) (htab.below HB0.out) (by simp))
  have hdl := digS_len 3 (by decide) (firstK 3) n l
  have hDk : digK 3 = 64 := rfl
  rw [hDk] at hdl Hsu
  have Hdl := Lib.hid hdl
  have Hi : Hid ((Tryd.prog.info? 29).map (·.size) = some ((digS 3 (firstK 3) n l).map bv).length) := Lib.hid (by rw [List.length_map, hdl]; kernel_rfl)
  have Hi' : Hid ((Tryd.prog.info? 29).map (·.size) = some ((digS 3 (firstK 3) n l).map bv).toArray.size) := Lib.hid Hi.out
  have Hsz : Hid ((List.replicate 64 (bv 0)).toArray.size = ((digS 3 (firstK 3) n l).map bv).toArray.size) := Lib.hid (by simp [hdl])
  have Hone : Hid (((digS 3 (firstK 3) n l).map bv).toArray.all (·.oneCell') = true) := Lib.hid (by simp [bv, Value.oneCell'])
  clear hl hnc hcm hc0 hr hlt htab h00 hdl hDk
  generalize digS 3 (firstK 3) n l = dg at *
  go_enter Tryd.func13, Tryd.ntmps13
  go_wp2_with fail
  as_aux_lemma =>
  refine Hsu.out.mono ?_
  rintro e w1 ⟨g, C, rfl, ho, hb⟩
  have HO := Lib.hid ho
  have HR1 := Lib.hid (Hz1.out.later hb)
  have HB1 := Lib.hid (HB0.out.trans (hb.mono (by simp)))
  have hat : ∀ w, (Instr.arrayAt 29 (.slice (some ⟨g, 0, none⟩) 64 C)).run Tryd.prog w = .ok (.pointer (some ⟨g, 0, none⟩)) w := fun w => run_arrayAt w 29 _ 64 _ 64 C Tryd.underlying29 (Nat.le_refl _)
  have Hrg : Hid (w1.rangeAt g 0 (dg.map bv)) := Lib.hid (fun j v hj => by
    have hlt : j < dg.length := by have := (List.getElem?_eq_some_iff.1 hj).1; simpa using this
    rcases ho.cases with ⟨h, _⟩ | ⟨g', C', he, _, _, _, _, hc, _⟩
    · cases h
    · rw [Hdl.out] at he
      cases he
      rw [Nat.zero_add, hc j hlt, ← hj, List.getElem?_map, List.getElem?_eq_getElem hlt]; rfl)
  have hR8 : HB (w1.setRow w.heap.size (dg.map bv).toArray) w.heap.size 29 (dg.map bv) := setRow_heap _ _ _ _ _ _ HR1.out
  have Hv := Lib.hid (run_loadVar_mid (P := Tryd.prog) _ w.heap.size 0 29 (dg.map bv) _ hR8.whole Tryd.underlying29 rfl Hi.out)
  have HBf := Lib.hid (HB1.out.grown (grown_row w1 w.heap.size (dg.map bv).toArray) HB1.out.size (fun x hx => Nat.le_of_eq (Option.some.inj hx)))
  clear ho hb hR8 hz Hz1 HB0 Hsu HO
  go_wp2_with (first | (refine wpList_load_mid rfl _ _ rfl g 0 rfl (dg.map bv) _ Hrg.out Tryd.underlying29 rfl Hi.out ?_) | (refine wpList_store_row rfl _ _ _ rfl w.heap.size (dg.map bv).toArray rfl rfl _ _ HR1.out Hi'.out Hsz.out Hone.out ?_))
  generalize w1.setRow w.heap.size (dg.map bv).toArray = w9 at *
  have hv := Hv.out
  refine bodyPost_ret (v := .agg (dg.map bv).toArray) (by simp [results, Tryd.results13, asAddr, hv, Result.andThen, Act.put]; try rfl) rfl ⟨rfl, HBf.out⟩
end Go.Proofs.YtngkelflfahjbaaDoor
