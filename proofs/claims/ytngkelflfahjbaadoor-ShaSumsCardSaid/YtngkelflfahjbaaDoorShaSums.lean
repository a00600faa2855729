/- The three digests of any message are those of FIPS 180-4: the walk. No condition. -/
import Derived.Test.YtngkelflfahjbaaDoorShaH
import Derived.Test.YtngkelflfahjbaaDoorShaW
import Derived.Test.YtngkelflfahjbaaDoorShaA
import Derived.Test.YtngkelflfahjbaaDoorOwnB
import Derived.Test.YtngkelflfahjbaaDoorOpen
import Derived.Test.YtngkelflfahjbaaDoorShaTab
import Derived.Deep.RegionHeld3
import Derived.Deep.DrawnRows
namespace Go.Proofs.YtngkelflfahjbaaDoor.shaSums
open Go.ChangeShapes Go.WideShapes Go.ChangeAt Go.RowKit
set_option linter.unusedVariables false
set_option linter.unusedSimpArgs false
attribute [local go_sem ↓] Go.wp_at_zero Go.wp_at_succ ldfD32 stfD32 ldfD48 stfD48 ldfD64 stfD64
set_option maxRecDepth 100000 in
set_option maxHeartbeats 1000000 in
theorem core (W : World) (ao : Option Addr) (n cap : Nat) (l : List UInt8) (hl : l.length = n) (hn : n ≤ cap) (hcap : cap ≤ 140737488351232) (hr : Rd W ao l) (hnil : ao = none → cap = 0) (htab : TabOk W) (h00 : 0 < W.heap.size) :
    Calls Tryd.prog 3 #[.slice ao n cap] W fun e w' => e = .returned (.bool true) ∧ Below W.heap.size W w' := by
  have Haw := Lib.hid (awake02_any W htab h00)
  have Hl := Lib.hid hl
  have Hn := Lib.hid hn
  have Hcap := Lib.hid hcap
  have Hr := Lib.hid hr
  have Hnil := Lib.hid hnil
  have Htab := Lib.hid htab
  have H00 := Lib.hid h00
  have hz32 : ∀ w, (zeroValue 25).run Tryd.prog w = .ok (.agg (zbL 32).toArray) w := fun w => by kernel_rfl
  have hz48 : ∀ w, (zeroValue 27).run Tryd.prog w = .ok (.agg (zbL 48).toArray) w := fun w => by kernel_rfl
  have hz64 : ∀ w, (zeroValue 29).run Tryd.prog w = .ok (.agg (zbL 64).toArray) w := fun w => by kernel_rfl
  clear hl hn hcap hr hnil htab h00
  go_enter Tryd.func3, Tryd.ntmps3
  go_wp2_with fail
  refine Haw.out.mono ?_
  rintro e w1 ⟨rfl, hb1⟩
  have Hb1 := Lib.hid hb1
  clear hb1
  go_wp2_with fail
  refine (own_any ao n cap l w1 Hl.out (by have := Hn.out; have := Hcap.out; omega) Hnil.out (Hr.out.below Hb1.out)).mono ?_
  rintro e w2 ⟨g, C, rfl, hC, hCm, hown, hb2⟩
  obtain ⟨hlend, -⟩ := hown.lend Hl.out
  have HC := Lib.hid hC
  have HCm := Lib.hid hCm
  have HUw2 := Lib.hid hlend
  have HGw2 : Hid (g < w2.heap.size) := Lib.hid hown.at.2.2.1
  have HBw2 : Hid (Below W.heap.size W w2) := Lib.hid (Hb1.out.trans (hb2.mono Hb1.out.size))
  have HTw2 := Lib.hid (Htab.out.below HBw2.out)
  have H0w2 : Hid (0 < w2.heap.size) := Lib.hid (Nat.lt_of_lt_of_le H00.out HBw2.out.size)
  have HOw2 := Lib.hid hown
  have HRw2 := Lib.hid (Hr.out.below HBw2.out)
  clear hC hCm hown hb2 hlend Hb1 Haw Hr Htab H00
  go_wp2_with fail
  as_aux_lemma =>
  refine (psum32 (some ⟨g, 0, none⟩) n C l w2 Hl.out (by have := HC.out; omega) HCm.out (fun h => by cases h) HUw2.out (fun a e => by cases e; exact HGw2.out) HTw2.out H0w2.out).mono ?_
  rintro e w_ ⟨rfl, hb_⟩
  have HV := Lib.hid (HB.new w_ (zbL 32) 25)
  have hdl : (digS 1 (firstK 1) n l).length = 32 := digS_len 1 (by decide) _ _ _
  have s_ := runstD32 (w := w_.alloc (.cells (zbL 32).toArray 25)) HV.out (zbL_len _) hdl
  have hW : HB ((w_.alloc (.cells (zbL 32).toArray 25)).setRow w_.heap.size ((digS 1 (firstK 1) n l).map bv).toArray) w_.heap.size 25 ((digS 1 (firstK 1) n l).map bv) := setRow_heap _ _ _ _ _ _ HV.out
  have hb2_ : Below w2.heap.size w2 ((w_.alloc (.cells (zbL 32).toArray 25)).setRow w_.heap.size ((digS 1 (firstK 1) n l).map bv).toArray) := (hb_.alloc hb_.size (.cells (zbL 32).toArray 25)).grown (grown_row (w_.alloc (.cells (zbL 32).toArray 25)) w_.heap.size ((digS 1 (firstK 1) n l).map bv).toArray) (by have := hb_.size; simp; omega) (fun x hx => by have := Option.some.inj hx; have := hb_.size; omega)
  have HW4 := Lib.hid hW
  have hq_ := Lib.hid hb2_
  clear hb_ hb2_ hW hdl
  go_upto_region 4 with fail
  as_aux_lemma =>
  clear s_ HV
  generalize (w_.alloc (.cells (zbL 32).toArray 25)).setRow w_.heap.size ((digS 1 (firstK 1) n l).map bv).toArray = w3 at *
  generalize w_.heap.size = X3 at *
  have HUw3 := Lib.hid (HUw2.out.below hq_.out)
  have HGw3 : Hid (g < w3.heap.size) := Lib.hid (Nat.lt_of_lt_of_le HGw2.out hq_.out.size)
  have HTw3 := Lib.hid (HTw2.out.below hq_.out)
  have H0w3 : Hid (0 < w3.heap.size) := Lib.hid (Nat.lt_of_lt_of_le H0w2.out hq_.out.size)
  have HOw3 := Lib.hid (HOw2.out.later hq_.out)
  have HRw3 := Lib.hid (HRw2.out.below hq_.out)
  have HBw3 := Lib.hid (HBw2.out.trans (hq_.out.mono HBw2.out.size))
  go_wp2_with fail
  as_aux_lemma =>
  refine (psum48 (some ⟨g, 0, none⟩) n C l w3 Hl.out (by have := HC.out; omega) HCm.out (fun h => by cases h) HUw3.out (fun a e => by cases e; exact HGw3.out) HTw3.out H0w3.out).mono ?_
  rintro e w_ ⟨rfl, hb_⟩
  have HV := Lib.hid (HB.new w_ (zbL 48) 27)
  have hdl : (digS 2 (firstK 2) n l).length = 48 := digS_len 2 (by decide) _ _ _
  have s_ := runstD48 (w := w_.alloc (.cells (zbL 48).toArray 27)) HV.out (zbL_len _) hdl
  have hW : HB ((w_.alloc (.cells (zbL 48).toArray 27)).setRow w_.heap.size ((digS 2 (firstK 2) n l).map bv).toArray) w_.heap.size 27 ((digS 2 (firstK 2) n l).map bv) := setRow_heap _ _ _ _ _ _ HV.out
  have hb2_ : Below w3.heap.size w3 ((w_.alloc (.cells (zbL 48).toArray 27)).setRow w_.heap.size ((digS 2 (firstK 2) n l).map bv).toArray) := (hb_.alloc hb_.size (.cells (zbL 48).toArray 27)).grown (grown_row (w_.alloc (.cells (zbL 48).toArray 27)) w_.heap.size ((digS 2 (firstK 2) n l).map bv).toArray) (by have := hb_.size; simp; omega) (fun x hx => by have := Option.some.inj hx; have := hb_.size; omega)
  have HW5 := Lib.hid hW
  have hq_ := Lib.hid hb2_
  clear hb_ hb2_ hW hdl
  go_upto_region 5 with fail
  as_aux_lemma =>
  clear s_ HV
  generalize (w_.alloc (.cells (zbL 48).toArray 27)).setRow w_.heap.size ((digS 2 (firstK 2) n l).map bv).toArray = w4 at *
  generalize w_.heap.size = X4 at *
  have HUw4 := Lib.hid (HUw3.out.below hq_.out)
  have HGw4 : Hid (g < w4.heap.size) := Lib.hid (Nat.lt_of_lt_of_le HGw3.out hq_.out.size)
  have HTw4 := Lib.hid (HTw3.out.below hq_.out)
  have H0w4 : Hid (0 < w4.heap.size) := Lib.hid (Nat.lt_of_lt_of_le H0w3.out hq_.out.size)
  have HOw4 := Lib.hid (HOw3.out.later hq_.out)
  have HRw4 := Lib.hid (HRw3.out.below hq_.out)
  have HBw4 := Lib.hid (HBw3.out.trans (hq_.out.mono HBw3.out.size))
  have HW4 := Lib.hid (HW4.out.later hq_.out)
  clear hq_
  go_wp2_with fail
  as_aux_lemma =>
  refine (psum64 (some ⟨g, 0, none⟩) n C l w4 Hl.out (by have := HC.out; omega) HCm.out (fun h => by cases h) HUw4.out (fun a e => by cases e; exact HGw4.out) HTw4.out H0w4.out).mono ?_
  rintro e w_ ⟨rfl, hb_⟩
  have HV := Lib.hid (HB.new w_ (zbL 64) 29)
  have hdl : (digS 3 (firstK 3) n l).length = 64 := digS_len 3 (by decide) _ _ _
  have s_ := runstD64 (w := w_.alloc (.cells (zbL 64).toArray 29)) HV.out (zbL_len _) hdl
  have hW : HB ((w_.alloc (.cells (zbL 64).toArray 29)).setRow w_.heap.size ((digS 3 (firstK 3) n l).map bv).toArray) w_.heap.size 29 ((digS 3 (firstK 3) n l).map bv) := setRow_heap _ _ _ _ _ _ HV.out
  have hb2_ : Below w4.heap.size w4 ((w_.alloc (.cells (zbL 64).toArray 29)).setRow w_.heap.size ((digS 3 (firstK 3) n l).map bv).toArray) := (hb_.alloc hb_.size (.cells (zbL 64).toArray 29)).grown (grown_row (w_.alloc (.cells (zbL 64).toArray 29)) w_.heap.size ((digS 3 (firstK 3) n l).map bv).toArray) (by have := hb_.size; simp; omega) (fun x hx => by have := Option.some.inj hx; have := hb_.size; omega)
  have HW6 := Lib.hid hW
  have hq_ := Lib.hid hb2_
  clear hb_ hb2_ hW hdl
  go_upto_region 6 with fail
  as_aux_lemma =>
  clear s_ HV
  generalize (w_.alloc (.cells (zbL 64).toArray 29)).setRow w_.heap.size ((digS 3 (firstK 3) n l).map bv).toArray = w5 at *
  generalize w_.heap.size = X5 at *
  have HUw5 := Lib.hid (HUw4.out.below hq_.out)
  have HGw5 : Hid (g < w5.heap.size) := Lib.hid (Nat.lt_of_lt_of_le HGw4.out hq_.out.size)
  have HTw5 := Lib.hid (HTw4.out.below hq_.out)
  have H0w5 : Hid (0 < w5.heap.size) := Lib.hid (Nat.lt_of_lt_of_le H0w4.out hq_.out.size)
  have HOw5 := Lib.hid (HOw4.out.later hq_.out)
  have HRw5 := Lib.hid (HRw4.out.below hq_.out)
  have HBw5 := Lib.hid (HBw4.out.trans (hq_.out.mono HBw4.out.size))
  have HW4 := Lib.hid (HW4.out.later hq_.out)
  have HW5 := Lib.hid (HW5.out.later hq_.out)
  clear hq_
  go_wp2_with fail
  as_aux_lemma =>
  refine (still_any ao g n C cap _ l w5 Hl.out (by have := Hn.out; have := Hcap.out; omega) HC.out HRw5.out HOw5.out).mono ?_
  rintro e w6 ⟨rfl, hd6⟩
  have hl32 : (digS 1 (firstK 1) n l).length = 32 := digS_len 1 (by decide) _ _ _
  have hl48 : (digS 2 (firstK 2) n l).length = 48 := digS_len 2 (by decide) _ _ _
  have hl64 : (digS 3 (firstK 3) n l).length = 64 := digS_len 3 (by decide) _ _ _
  have heq1 := fun w => eqD32 hl32 w
  have heq2 := fun w => eqD48 hl48 w
  have heq3 := fun w => eqD64 hl64 w
  have Hs1 := Lib.hid (fun w' (h : Below w6.heap.size w6 w') => rsum32 ao n cap l w' Hl.out Hn.out (by have := Hn.out; have := Hcap.out; omega) Hnil.out ((hd6.rd HRw5.out).below h))
  have Hs2 := Lib.hid (fun w' (h : Below w6.heap.size w6 w') => rsum48 ao n cap l w' Hl.out Hn.out (by have := Hn.out; have := Hcap.out; omega) Hnil.out ((hd6.rd HRw5.out).below h))
  have Hs3 := Lib.hid (fun w' (h : Below w6.heap.size w6 w') => rsum64 ao n cap l w' Hl.out Hn.out (by have := Hn.out; have := Hcap.out; omega) Hnil.out ((hd6.rd HRw5.out).below h))
  have HkS := Lib.hid (fun w' (h : Below w6.heap.size w6 w') => And.intro (runldD32 ((HW4.out.drn hd6).later h) hl32) (And.intro (runldD48 ((HW5.out.drn hd6).later h) hl48) (runldD64 ((HW6.out.drn hd6).later h) hl64)))
  have HB6 := Lib.hid (HBw5.out.trans (hd6.below _))
  have Hz6 : Hid (W.heap.size ≤ w6.heap.size) := Lib.hid (by rw [hd6.heap]; exact HBw5.out.size)
  generalize digS 1 (firstK 1) n l = d1 at *
  generalize digS 2 (firstK 2) n l = d2 at *
  generalize digS 3 (firstK 3) n l = d3 at *
  clear hd6 HW4 HW5 HW6 HUw5 HGw5 HTw5 H0w5 HOw5 HRw5 HBw5 hl32 hl48 hl64 hz32 hz48 hz64
  clear HUw4 HGw4 HTw4 H0w4 HOw4 HRw4 HBw4 HUw3 HGw3 HTw3 H0w3 HOw3 HRw3 HBw3 HUw2 HGw2 HTw2 H0w2 HOw2 HRw2 HBw2
  go_upto_region 7 with fail
  as_aux_lemma =>
  have h0 : Below w6.heap.size w6 w6.drew := (⟨1, rfl⟩ : Drn w6 w6.drew).below _
  refine wp_region_held_drew (S := fun w' => (ldD32 (.pointer (some ⟨X3, 0, none⟩))).run Tryd.prog w' = .ok (.agg (d1.map bv).toArray) w' ∧ (ldD48 (.pointer (some ⟨X4, 0, none⟩))).run Tryd.prog w' = .ok (.agg (d2.map bv).toArray) w' ∧ (ldD64 (.pointer (some ⟨X5, 0, none⟩))).run Tryd.prog w' = .ok (.agg (d3.map bv).toArray) w') (by kernel_rfl) (HkS.out _ h0) (fun hHeld => ?_)
  refine wpAnyH_take (i := 0) (v := ?_) (by simp only [List.getElem?_toArray, List.getElem?_cons_succ, List.getElem?_cons_zero]; rfl) (by kernel_rfl) (by kernel_rfl) (by kernel_rfl) (by intro _ _ _ h_; exact h_) (Or.inl ⟨by rfl, ?_⟩) (by assumption) ?_
  rotate_left 1
  focus (intro w_ hSw_; go_simp; try with_reducible rfl)
  simp only [Act.put, List.setIfInBounds_toArray, List.set_cons_zero, List.set_cons_succ]
  refine wpAnyH_take (i := 1) (v := ?_) (by simp only [List.getElem?_toArray, List.getElem?_cons_succ, List.getElem?_cons_zero]; rfl) (by kernel_rfl) (by kernel_rfl) (by kernel_rfl) (by intro _ _ _ h_; exact h_) (Or.inl ⟨by rfl, ?_⟩) (by assumption) ?_
  rotate_left 1
  focus (intro w_ hSw_; go_simp; try with_reducible rfl)
  simp only [Act.put, List.setIfInBounds_toArray, List.set_cons_zero, List.set_cons_succ]
  refine wpAnyH_take (i := 2) (v := ?_) (by simp only [List.getElem?_toArray, List.getElem?_cons_succ, List.getElem?_cons_zero]; rfl) (by kernel_rfl) (by kernel_rfl) (by kernel_rfl) (by intro _ _ _ h_; exact h_) (Or.inl ⟨by rfl, ?_⟩) (by assumption) ?_
  rotate_left 1
  focus (intro w_ hSw_; go_simp; try with_reducible rfl)
  simp only [Act.put, List.setIfInBounds_toArray, List.set_cons_zero, List.set_cons_succ]
  refine wpAnyH_take (i := 3) (v := ?_) (by simp only [List.getElem?_toArray, List.getElem?_cons_succ, List.getElem?_cons_zero]; rfl) (by kernel_rfl) (by kernel_rfl) (by kernel_rfl) (by intro _ _ _ h_; exact h_) (Or.inl ⟨by rfl, ?_⟩) (by assumption) ?_
  rotate_left 1
  focus (intro w_ hSw_; go_simp; try with_reducible rfl)
  simp only [Act.put, List.setIfInBounds_toArray, List.set_cons_zero, List.set_cons_succ]
  refine wpAnyH_take (i := 4) (v := ?_) (by simp only [List.getElem?_toArray, List.getElem?_cons_succ, List.getElem?_cons_zero]; rfl) (by kernel_rfl) (by kernel_rfl) (by kernel_rfl) (by intro _ _ _ h_; exact h_) (Or.inl ⟨by rfl, ?_⟩) (by assumption) ?_
  rotate_left 1
  focus (intro w_ hSw_; go_simp; try with_reducible rfl)
  simp only [Act.put, List.setIfInBounds_toArray, List.set_cons_zero, List.set_cons_succ]
  refine wpAnyH_take (i := 5) (v := ?_) (by simp only [List.getElem?_toArray, List.getElem?_cons_succ, List.getElem?_cons_zero]; rfl) (by kernel_rfl) (by kernel_rfl) (by kernel_rfl) (by intro _ _ _ h_; exact h_) (Or.inl ⟨by rfl, ?_⟩) (by assumption) ?_
  rotate_left 1
  focus (intro w_ hSw_; go_simp; try with_reducible rfl)
  simp only [Act.put, List.setIfInBounds_toArray, List.set_cons_zero, List.set_cons_succ]
  refine wpAnyH_take (i := 6) (v := ?_) (by simp only [List.getElem?_toArray, List.getElem?_cons_succ, List.getElem?_cons_zero]; rfl) (by kernel_rfl) (by kernel_rfl) (by kernel_rfl) (by intro _ _ _ h_; exact h_) (Or.inl ⟨by rfl, ?_⟩) (by assumption) ?_
  rotate_left 1
  focus (intro w_ hSw_; go_simp; try with_reducible rfl)
  simp only [Act.put, List.setIfInBounds_toArray, List.set_cons_zero, List.set_cons_succ]
  refine wpAnyH_ready (rs := [7]) (by kernel_rfl) (by simp) ?_
  refine AllReadyH.cons (by simp only [List.getElem?_toArray, List.getElem?_cons_succ, List.getElem?_cons_zero]; rfl) (fun K hK => ?_) AllReadyH.nil
  go_simp
  refine (Hs1.out _ h0).mono ?_
  rintro e w7 ⟨rfl, hb7⟩
  have h1 : Below w6.heap.size w6 w7 := h0.trans (hb7.mono h0.size)
  clear hb7
  go_wp2_with fail
  refine hK.out _ _ (HkS.out _ h1) (fun hHeld => ?_)
  clear hK K hHeld
  try simp only [Act.put, List.setIfInBounds_toArray, List.set_cons_zero, List.set_cons_succ]
  have hHeld := HkS.out _ h1
  refine wpAnyH_take (i := 8) (v := ?_) (by simp only [List.getElem?_toArray, List.getElem?_cons_succ, List.getElem?_cons_zero]; rfl) (by kernel_rfl) (by kernel_rfl) (by kernel_rfl) (by intro _ _ _ h_; exact h_) (Or.inl ⟨by rfl, ?_⟩) (by assumption) ?_
  rotate_left 1
  focus (intro w_ hSw_; go_simp; try with_reducible rfl)
  simp only [Act.put, List.setIfInBounds_toArray, List.set_cons_zero, List.set_cons_succ]
  refine wpAnyH_take (i := 9) (v := ?_) (by simp only [List.getElem?_toArray, List.getElem?_cons_succ, List.getElem?_cons_zero]; rfl) (by kernel_rfl) (by kernel_rfl) (by kernel_rfl) (by intro _ _ _ h_; exact h_) (Or.inl ⟨by rfl, ?_⟩) (by assumption) ?_
  rotate_left 1
  focus (intro w_ hSw_; go_simp; try with_reducible rfl)
  simp only [Act.put, List.setIfInBounds_toArray, List.set_cons_zero, List.set_cons_succ]
  refine wpAnyH_take (i := 10) (v := ?_) (by simp only [List.getElem?_toArray, List.getElem?_cons_succ, List.getElem?_cons_zero]; rfl) (by kernel_rfl) (by kernel_rfl) (by kernel_rfl) (by intro _ _ _ h_; exact h_) (Or.inl ⟨by rfl, ?_⟩) (by assumption) ?_
  rotate_left 1
  focus (intro w_ hSw_; go_simp; try with_reducible rfl)
  simp only [Act.put, List.setIfInBounds_toArray, List.set_cons_zero, List.set_cons_succ]
  refine wpAnyH_take (i := 11) (v := ?_) (by simp only [List.getElem?_toArray, List.getElem?_cons_succ, List.getElem?_cons_zero]; rfl) (by kernel_rfl) (by kernel_rfl) (by kernel_rfl) (by intro _ _ _ h_; exact h_) (Or.inl ⟨by rfl, ?_⟩) (by assumption) ?_
  rotate_left 1
  focus (intro w_ hSw_; go_simp; try with_reducible rfl)
  simp only [Act.put, List.setIfInBounds_toArray, List.set_cons_zero, List.set_cons_succ]
  refine wpAnyH_take (i := 12) (v := ?_) (by simp only [List.getElem?_toArray, List.getElem?_cons_succ, List.getElem?_cons_zero]; rfl) (by kernel_rfl) (by kernel_rfl) (by kernel_rfl) (by intro _ _ _ h_; exact h_) (Or.inl ⟨by rfl, ?_⟩) (by assumption) ?_
  rotate_left 1
  focus (intro w_ hSw_; go_simp; try with_reducible rfl)
  simp only [Act.put, List.setIfInBounds_toArray, List.set_cons_zero, List.set_cons_succ]
  refine wpAnyH_ready (rs := [13]) (by kernel_rfl) (by simp) ?_
  refine AllReadyH.cons (by simp only [List.getElem?_toArray, List.getElem?_cons_succ, List.getElem?_cons_zero]; rfl) (fun K hK => ?_) AllReadyH.nil
  go_simp
  refine (Hs2.out _ h1).mono ?_
  rintro e w8 ⟨rfl, hb7⟩
  have h2 : Below w6.heap.size w6 w8 := h1.trans (hb7.mono h1.size)
  clear hb7
  go_wp2_with fail
  refine hK.out _ _ (HkS.out _ h2) (fun hHeld => ?_)
  clear hK K hHeld
  try simp only [Act.put, List.setIfInBounds_toArray, List.set_cons_zero, List.set_cons_succ]
  have hHeld := HkS.out _ h2
  refine wpAnyH_take (i := 14) (v := ?_) (by simp only [List.getElem?_toArray, List.getElem?_cons_succ, List.getElem?_cons_zero]; rfl) (by kernel_rfl) (by kernel_rfl) (by kernel_rfl) (by intro _ _ _ h_; exact h_) (Or.inl ⟨by rfl, ?_⟩) (by assumption) ?_
  rotate_left 1
  focus (intro w_ hSw_; go_simp; try with_reducible rfl)
  simp only [Act.put, List.setIfInBounds_toArray, List.set_cons_zero, List.set_cons_succ]
  refine wpAnyH_take (i := 15) (v := ?_) (by simp only [List.getElem?_toArray, List.getElem?_cons_succ, List.getElem?_cons_zero]; rfl) (by kernel_rfl) (by kernel_rfl) (by kernel_rfl) (by intro _ _ _ h_; exact h_) (Or.inl ⟨by rfl, ?_⟩) (by assumption) ?_
  rotate_left 1
  focus (intro w_ hSw_; go_simp; try with_reducible rfl)
  simp only [Act.put, List.setIfInBounds_toArray, List.set_cons_zero, List.set_cons_succ]
  refine wpAnyH_take (i := 16) (v := ?_) (by simp only [List.getElem?_toArray, List.getElem?_cons_succ, List.getElem?_cons_zero]; rfl) (by kernel_rfl) (by kernel_rfl) (by kernel_rfl) (by intro _ _ _ h_; exact h_) (Or.inl ⟨by rfl, ?_⟩) (by assumption) ?_
  rotate_left 1
  focus (intro w_ hSw_; go_simp; try with_reducible rfl)
  simp only [Act.put, List.setIfInBounds_toArray, List.set_cons_zero, List.set_cons_succ]
  refine wpAnyH_take (i := 17) (v := ?_) (by simp only [List.getElem?_toArray, List.getElem?_cons_succ, List.getElem?_cons_zero]; rfl) (by kernel_rfl) (by kernel_rfl) (by kernel_rfl) (by intro _ _ _ h_; exact h_) (Or.inl ⟨by rfl, ?_⟩) (by assumption) ?_
  rotate_left 1
  focus (intro w_ hSw_; go_simp; try with_reducible rfl)
  simp only [Act.put, List.setIfInBounds_toArray, List.set_cons_zero, List.set_cons_succ]
  refine wpAnyH_take (i := 18) (v := ?_) (by simp only [List.getElem?_toArray, List.getElem?_cons_succ, List.getElem?_cons_zero]; rfl) (by kernel_rfl) (by kernel_rfl) (by kernel_rfl) (by intro _ _ _ h_; exact h_) (Or.inl ⟨by rfl, ?_⟩) (by assumption) ?_
  rotate_left 1
  focus (intro w_ hSw_; go_simp; try with_reducible rfl)
  simp only [Act.put, List.setIfInBounds_toArray, List.set_cons_zero, List.set_cons_succ]
  refine wpAnyH_ready (rs := [19]) (by kernel_rfl) (by simp) ?_
  refine AllReadyH.cons (by simp only [List.getElem?_toArray, List.getElem?_cons_succ, List.getElem?_cons_zero]; rfl) (fun K hK => ?_) AllReadyH.nil
  go_simp
  refine (Hs3.out _ h2).mono ?_
  rintro e w9 ⟨rfl, hb7⟩
  have h3 : Below w6.heap.size w6 w9 := h2.trans (hb7.mono h2.size)
  clear hb7
  go_wp2_with fail
  refine hK.out _ _ (HkS.out _ h3) (fun hHeld => ?_)
  clear hK K hHeld
  try simp only [Act.put, List.setIfInBounds_toArray, List.set_cons_zero, List.set_cons_succ]
  have hHeld := HkS.out _ h3
  refine wpAnyH_take (i := 20) (v := ?_) (by simp only [List.getElem?_toArray, List.getElem?_cons_succ, List.getElem?_cons_zero]; rfl) (by kernel_rfl) (by kernel_rfl) (by kernel_rfl) (by intro _ _ _ h_; exact h_) (Or.inl ⟨by rfl, ?_⟩) (by assumption) ?_
  rotate_left 1
  focus (intro w_ hSw_; go_simp; try with_reducible rfl)
  simp only [Act.put, List.setIfInBounds_toArray, List.set_cons_zero, List.set_cons_succ]
  refine wpAnyH_take (i := 21) (v := ?_) (by simp only [List.getElem?_toArray, List.getElem?_cons_succ, List.getElem?_cons_zero]; rfl) (by kernel_rfl) (by kernel_rfl) (by kernel_rfl) (by intro _ _ _ h_; exact h_) (Or.inl ⟨by rfl, ?_⟩) (by assumption) ?_
  rotate_left 1
  focus (intro w_ hSw_; go_simp; try with_reducible rfl)
  simp only [Act.put, List.setIfInBounds_toArray, List.set_cons_zero, List.set_cons_succ]
  refine wpAnyH_take (i := 22) (v := ?_) (by simp only [List.getElem?_toArray, List.getElem?_cons_succ, List.getElem?_cons_zero]; rfl) (by kernel_rfl) (by kernel_rfl) (by kernel_rfl) (by intro _ _ _ h_; exact h_) (Or.inl ⟨by rfl, ?_⟩) (by assumption) ?_
  rotate_left 1
  focus (intro w_ hSw_; go_simp; try with_reducible rfl)
  simp only [Act.put, List.setIfInBounds_toArray, List.set_cons_zero, List.set_cons_succ]
  refine wpAnyH_done (by kernel_rfl) ?_ _
  have HBf := Lib.hid (HB6.out.trans (h3.mono Hz6.out))
  clear h0 h1 h2 h3 hHeld
  go_wp2_with fail
  go_ret
  exact ⟨rfl, HBf.out⟩
theorem walk {H : Type} (enc : TypeId × Value → H) (W : World) (base : Nat) (v0 : Value) (d0 : DataW H) (p0 : List MemPlace)
    (k0 : Value.okWide Tryd.prog W .any base 22 v0)
    (h0 : DataW.Trod enc Tryd.prog W 0 (fun _ => true) true 22 v0 d0 p0)
    (hsz : (DataW.weightsEach Tryd.prog [22] ([d0] ++ [])).all (· ≤ reachBytes) = true) (hL : laidMetH Tryd.prog laidL W) :
    Calls Tryd.prog 3 #[v0] W fun e w' => e = .returned (.bool true) ∧ Below W.heap.size W w' := by
  obtain ⟨hT, h00⟩ := tab_of_laid hL
  simp only [List.cons_append, List.nil_append, DataW.weightsEach] at hsz
  obtain ⟨z0, hsz⟩ := all_app hsz
  obtain ⟨ao, n, cap, l, rfl, hl, hn, hcap, hrd, hnil⟩ := open_bytes Tryd.underlying22 Tryd.underlying5 (by kernel_rfl) (by kernel_rfl) k0 h0 z0
  exact core W ao n cap l hl hn hcap hrd hnil hT h00
end Go.Proofs.YtngkelflfahjbaaDoor.shaSums
