/- The law's digest. No condition. -/
import Derived.Test.YtngkelflfahjbaaDoorShaW
import Derived.Test.YtngkelflfahjbaaDoorShaH
set_option linter.unusedVariables false
set_option linter.unusedSimpArgs false
namespace Go.Proofs.YtngkelflfahjbaaDoor
open Go.RowKit
attribute [local go_sem ↓] stfD32 stfD48 stfD64
theorem rd_row {w : World} {b : Nat} {t : TypeId} {l : List UInt8} (h : HB w b t (l.map bv)) : Rd w (some ⟨b, 0, none⟩) l := fun j hj => ⟨b, 0, rfl, by
  rw [Nat.zero_add]
  rw [h.cell (i := j) (v := bv (l[j]?.getD 0)) (by rw [List.getElem?_map, List.getElem?_eq_getElem hj]; rfl)]
  rfl⟩
set_option maxRecDepth 100000 in
set_option maxHeartbeats 1000000 in
theorem digest32 (ao : Option Addr) (n cap : Nat) (l : List UInt8) (w : World) (hl : l.length = n) (hnc : n ≤ cap) (hcm : cap ≤ 9223372036854775807) (hc0 : ao = none → cap = 0) (hr : Rd w ao l) (hlt : ∀ a, ao = some a → a.block < w.heap.size) (htab : TabOk w) (h00 : 0 < w.heap.size) :
    Calls Tryd.prog 31 #[.int .i64 256, .slice ao n cap] w fun e w' => ∃ x, e = .returned (.slice (some ⟨x, 0, none⟩) 32 32) ∧ Rd w' (some ⟨x, 0, none⟩) (digS 1 (firstK 1) n l) ∧ Below w.heap.size w w' := by
  have hz32 : ∀ w, (zeroValue 25).run Tryd.prog w = .ok (.agg (zbL 32).toArray) w := fun w => by kernel_rfl
  have hz48 : ∀ w, (zeroValue 27).run Tryd.prog w = .ok (.agg (zbL 48).toArray) w := fun w => by kernel_rfl
  have hz64 : ∀ w, (zeroValue 29).run Tryd.prog w = .ok (.agg (zbL 64).toArray) w := fun w => by kernel_rfl
  have Hl := Lib.hid hl
  have Hnc := Lib.hid hnc
  have Hcm := Lib.hid hcm
  have Hc0 := Lib.hid hc0
  have HUw := Lib.hid hr
  have HGw := Lib.hid hlt
  have HTw := Lib.hid htab
  have H0w := Lib.hid h00
  have HBw := Lib.hid (Below.refl w.heap.size w)
  clear hl hnc hcm hc0 hr hlt htab h00
  go_enter Tryd.func31, Tryd.ntmps31
  go_wp2_with fail
  as_aux_lemma =>
  refine (psum32 ao n cap l w Hl.out Hnc.out Hcm.out Hc0.out HUw.out HGw.out HTw.out H0w.out).mono ?_
  rintro e w_ ⟨rfl, hb_⟩
  have HV := Lib.hid (HB.new w_ (zbL 32) 25)
  have hdl : (digS 1 (firstK 1) n l).length = 32 := digS_len 1 (by decide) _ _ _
  have s_ := runstD32 (w := w_.alloc (.cells (zbL 32).toArray 25)) HV.out (zbL_len _) hdl
  have hW : HB ((w_.alloc (.cells (zbL 32).toArray 25)).setRow w_.heap.size ((digS 1 (firstK 1) n l).map bv).toArray) w_.heap.size 25 ((digS 1 (firstK 1) n l).map bv) := setRow_heap _ _ _ _ _ _ HV.out
  have hb2_ : Below w.heap.size w ((w_.alloc (.cells (zbL 32).toArray 25)).setRow w_.heap.size ((digS 1 (firstK 1) n l).map bv).toArray) := (hb_.alloc hb_.size (.cells (zbL 32).toArray 25)).grown (grown_row (w_.alloc (.cells (zbL 32).toArray 25)) w_.heap.size ((digS 1 (firstK 1) n l).map bv).toArray) (by have := hb_.size; simp; omega) (fun x hx => by have := Option.some.inj hx; have := hb_.size; omega)
  have HW2 := Lib.hid hW
  have hq_ := Lib.hid hb2_
  have HXs2 : Hid (w.heap.size ≤ w_.heap.size) := Lib.hid hb_.size
  clear hb_ hb2_ hW hdl
  go_upto_region 2 with fail
  as_aux_lemma =>
  clear s_ HV
  generalize (w_.alloc (.cells (zbL 32).toArray 25)).setRow w_.heap.size ((digS 1 (firstK 1) n l).map bv).toArray = w3 at *
  generalize w_.heap.size = X32 at *
  have HUw3 := Lib.hid (HUw.out.below hq_.out)
  have HGw3 : Hid (∀ a, ao = some a → a.block < w3.heap.size) := Lib.hid (fun a e => Nat.lt_of_lt_of_le (HGw.out a e) hq_.out.size)
  have HTw3 := Lib.hid (HTw.out.below hq_.out)
  have H0w3 : Hid (0 < w3.heap.size) := Lib.hid (Nat.lt_of_lt_of_le H0w.out hq_.out.size)
  have HBw3 := Lib.hid (HBw.out.trans (hq_.out.mono HBw.out.size))
  go_wp2_with fail
  as_aux_lemma =>
  refine (psum48 ao n cap l w3 Hl.out Hnc.out Hcm.out Hc0.out HUw3.out HGw3.out HTw3.out H0w3.out).mono ?_
  rintro e w_ ⟨rfl, hb_⟩
  have HV := Lib.hid (HB.new w_ (zbL 48) 27)
  have hdl : (digS 2 (firstK 2) n l).length = 48 := digS_len 2 (by decide) _ _ _
  have s_ := runstD48 (w := w_.alloc (.cells (zbL 48).toArray 27)) HV.out (zbL_len _) hdl
  have hW : HB ((w_.alloc (.cells (zbL 48).toArray 27)).setRow w_.heap.size ((digS 2 (firstK 2) n l).map bv).toArray) w_.heap.size 27 ((digS 2 (firstK 2) n l).map bv) := setRow_heap _ _ _ _ _ _ HV.out
  have hb2_ : Below w3.heap.size w3 ((w_.alloc (.cells (zbL 48).toArray 27)).setRow w_.heap.size ((digS 2 (firstK 2) n l).map bv).toArray) := (hb_.alloc hb_.size (.cells (zbL 48).toArray 27)).grown (grown_row (w_.alloc (.cells (zbL 48).toArray 27)) w_.heap.size ((digS 2 (firstK 2) n l).map bv).toArray) (by have := hb_.size; simp; omega) (fun x hx => by have := Option.some.inj hx; have := hb_.size; omega)
  have HW3 := Lib.hid hW
  have hq_ := Lib.hid hb2_
  have HXs3 : Hid (w3.heap.size ≤ w_.heap.size) := Lib.hid hb_.size
  clear hb_ hb2_ hW hdl
  go_upto_region 3 with fail
  as_aux_lemma =>
  clear s_ HV
  generalize (w_.alloc (.cells (zbL 48).toArray 27)).setRow w_.heap.size ((digS 2 (firstK 2) n l).map bv).toArray = w4 at *
  generalize w_.heap.size = X48 at *
  have HUw4 := Lib.hid (HUw3.out.below hq_.out)
  have HGw4 : Hid (∀ a, ao = some a → a.block < w4.heap.size) := Lib.hid (fun a e => Nat.lt_of_lt_of_le (HGw3.out a e) hq_.out.size)
  have HTw4 := Lib.hid (HTw3.out.below hq_.out)
  have H0w4 : Hid (0 < w4.heap.size) := Lib.hid (Nat.lt_of_lt_of_le H0w3.out hq_.out.size)
  have HBw4 := Lib.hid (HBw3.out.trans (hq_.out.mono HBw3.out.size))
  have HW2 := Lib.hid (HW2.out.later hq_.out)
  clear hq_
  go_wp2_with fail
  as_aux_lemma =>
  refine (psum64 ao n cap l w4 Hl.out Hnc.out Hcm.out Hc0.out HUw4.out HGw4.out HTw4.out H0w4.out).mono ?_
  rintro e w_ ⟨rfl, hb_⟩
  have HV := Lib.hid (HB.new w_ (zbL 64) 29)
  have hdl : (digS 3 (firstK 3) n l).length = 64 := digS_len 3 (by decide) _ _ _
  have s_ := runstD64 (w := w_.alloc (.cells (zbL 64).toArray 29)) HV.out (zbL_len _) hdl
  have hW : HB ((w_.alloc (.cells (zbL 64).toArray 29)).setRow w_.heap.size ((digS 3 (firstK 3) n l).map bv).toArray) w_.heap.size 29 ((digS 3 (firstK 3) n l).map bv) := setRow_heap _ _ _ _ _ _ HV.out
  have hb2_ : Below w4.heap.size w4 ((w_.alloc (.cells (zbL 64).toArray 29)).setRow w_.heap.size ((digS 3 (firstK 3) n l).map bv).toArray) := (hb_.alloc hb_.size (.cells (zbL 64).toArray 29)).grown (grown_row (w_.alloc (.cells (zbL 64).toArray 29)) w_.heap.size ((digS 3 (firstK 3) n l).map bv).toArray) (by have := hb_.size; simp; omega) (fun x hx => by have := Option.some.inj hx; have := hb_.size; omega)
  have HW4 := Lib.hid hW
  have hq_ := Lib.hid hb2_
  have HXs4 : Hid (w4.heap.size ≤ w_.heap.size) := Lib.hid hb_.size
  clear hb_ hb2_ hW hdl
  go_upto_region 4 with fail
  as_aux_lemma =>
  clear s_ HV
  generalize (w_.alloc (.cells (zbL 64).toArray 29)).setRow w_.heap.size ((digS 3 (firstK 3) n l).map bv).toArray = w5 at *
  generalize w_.heap.size = X64 at *
  have HUw5 := Lib.hid (HUw4.out.below hq_.out)
  have HGw5 : Hid (∀ a, ao = some a → a.block < w5.heap.size) := Lib.hid (fun a e => Nat.lt_of_lt_of_le (HGw4.out a e) hq_.out.size)
  have HTw5 := Lib.hid (HTw4.out.below hq_.out)
  have H0w5 : Hid (0 < w5.heap.size) := Lib.hid (Nat.lt_of_lt_of_le H0w4.out hq_.out.size)
  have HBw5 := Lib.hid (HBw4.out.trans (hq_.out.mono HBw4.out.size))
  have HW2 := Lib.hid (HW2.out.later hq_.out)
  have HW3 := Lib.hid (HW3.out.later hq_.out)
  clear hq_ hz32 hz48 hz64
  go_wp2_with fail
  go_ret
  exact ⟨X32, rfl, (by first | exact rd_row HW2.out | exact rd_row HW3.out | exact rd_row HW4.out), HBw5.out⟩
set_option maxRecDepth 100000 in
set_option maxHeartbeats 1000000 in
theorem digest48 (ao : Option Addr) (n cap : Nat) (l : List UInt8) (w : World) (hl : l.length = n) (hnc : n ≤ cap) (hcm : cap ≤ 9223372036854775807) (hc0 : ao = none → cap = 0) (hr : Rd w ao l) (hlt : ∀ a, ao = some a → a.block < w.heap.size) (htab : TabOk w) (h00 : 0 < w.heap.size) :
    Calls Tryd.prog 31 #[.int .i64 384, .slice ao n cap] w fun e w' => ∃ x, e = .returned (.slice (some ⟨x, 0, none⟩) 48 48) ∧ Rd w' (some ⟨x, 0, none⟩) (digS 2 (firstK 2) n l) ∧ Below w.heap.size w w' := by
  have hz32 : ∀ w, (zeroValue 25).run Tryd.prog w = .ok (.agg (zbL 32).toArray) w := fun w => by kernel_rfl
  have hz48 : ∀ w, (zeroValue 27).run Tryd.prog w = .ok (.agg (zbL 48).toArray) w := fun w => by kernel_rfl
  have hz64 : ∀ w, (zeroValue 29).run Tryd.prog w = .ok (.agg (zbL 64).toArray) w := fun w => by kernel_rfl
  have Hl := Lib.hid hl
  have Hnc := Lib.hid hnc
  have Hcm := Lib.hid hcm
  have Hc0 := Lib.hid hc0
  have HUw := Lib.hid hr
  have HGw := Lib.hid hlt
  have HTw := Lib.hid htab
  have H0w := Lib.hid h00
  have HBw := Lib.hid (Below.refl w.heap.size w)
  clear hl hnc hcm hc0 hr hlt htab h00
  go_enter Tryd.func31, Tryd.ntmps31
  go_wp2_with fail
  as_aux_lemma =>
  refine (psum32 ao n cap l w Hl.out Hnc.out Hcm.out Hc0.out HUw.out HGw.out HTw.out H0w.out).mono ?_
  rintro e w_ ⟨rfl, hb_⟩
  have HV := Lib.hid (HB.new w_ (zbL 32) 25)
  have hdl : (digS 1 (firstK 1) n l).length = 32 := digS_len 1 (by decide) _ _ _
  have s_ := runstD32 (w := w_.alloc (.cells (zbL 32).toArray 25)) HV.out (zbL_len _) hdl
  have hW : HB ((w_.alloc (.cells (zbL 32).toArray 25)).setRow w_.heap.size ((digS 1 (firstK 1) n l).map bv).toArray) w_.heap.size 25 ((digS 1 (firstK 1) n l).map bv) := setRow_heap _ _ _ _ _ _ HV.out
  have hb2_ : Below w.heap.size w ((w_.alloc (.cells (zbL 32).toArray 25)).setRow w_.heap.size ((digS 1 (firstK 1) n l).map bv).toArray) := (hb_.alloc hb_.size (.cells (zbL 32).toArray 25)).grown (grown_row (w_.alloc (.cells (zbL 32).toArray 25)) w_.heap.size ((digS 1 (firstK 1) n l).map bv).toArray) (by have := hb_.size; simp; omega) (fun x hx => by have := Option.some.inj hx; have := hb_.size; omega)
  have HW2 := Lib.hid hW
  have hq_ := Lib.hid hb2_
  have HXs2 : Hid (w.heap.size ≤ w_.heap.size) := Lib.hid hb_.size
  clear hb_ hb2_ hW hdl
  go_upto_region 2 with fail
  as_aux_lemma =>
  clear s_ HV
  generalize (w_.alloc (.cells (zbL 32).toArray 25)).setRow w_.heap.size ((digS 1 (firstK 1) n l).map bv).toArray = w3 at *
  generalize w_.heap.size = X32 at *
  have HUw3 := Lib.hid (HUw.out.below hq_.out)
  have HGw3 : Hid (∀ a, ao = some a → a.block < w3.heap.size) := Lib.hid (fun a e => Nat.lt_of_lt_of_le (HGw.out a e) hq_.out.size)
  have HTw3 := Lib.hid (HTw.out.below hq_.out)
  have H0w3 : Hid (0 < w3.heap.size) := Lib.hid (Nat.lt_of_lt_of_le H0w.out hq_.out.size)
  have HBw3 := Lib.hid (HBw.out.trans (hq_.out.mono HBw.out.size))
  go_wp2_with fail
  as_aux_lemma =>
  refine (psum48 ao n cap l w3 Hl.out Hnc.out Hcm.out Hc0.out HUw3.out HGw3.out HTw3.out H0w3.out).mono ?_
  rintro e w_ ⟨rfl, hb_⟩
  have HV := Lib.hid (HB.new w_ (zbL 48) 27)
  have hdl : (digS 2 (firstK 2) n l).length = 48 := digS_len 2 (by decide) _ _ _
  have s_ := runstD48 (w := w_.alloc (.cells (zbL 48).toArray 27)) HV.out (zbL_len _) hdl
  have hW : HB ((w_.alloc (.cells (zbL 48).toArray 27)).setRow w_.heap.size ((digS 2 (firstK 2) n l).map bv).toArray) w_.heap.size 27 ((digS 2 (firstK 2) n l).map bv) := setRow_heap _ _ _ _ _ _ HV.out
  have hb2_ : Below w3.heap.size w3 ((w_.alloc (.cells (zbL 48).toArray 27)).setRow w_.heap.size ((digS 2 (firstK 2) n l).map bv).toArray) := (hb_.alloc hb_.size (.cells (zbL 48).toArray 27)).grown (grown_row (w_.alloc (.cells (zbL 48).toArray 27)) w_.heap.size ((digS 2 (firstK 2) n l).map bv).toArray) (by have := hb_.size; simp; omega) (fun x hx => by have := Option.some.inj hx; have := hb_.size; omega)
  have HW3 := Lib.hid hW
  have hq_ := Lib.hid hb2_
  have HXs3 : Hid (w3.heap.size ≤ w_.heap.size) := Lib.hid hb_.size
  clear hb_ hb2_ hW hdl
  go_upto_region 3 with fail
  as_aux_lemma =>
  clear s_ HV
  generalize (w_.alloc (.cells (zbL 48).toArray 27)).setRow w_.heap.size ((digS 2 (firstK 2) n l).map bv).toArray = w4 at *
  generalize w_.heap.size = X48 at *
  have HUw4 := Lib.hid (HUw3.out.below hq_.out)
  have HGw4 : Hid (∀ a, ao = some a → a.block < w4.heap.size) := Lib.hid (fun a e => Nat.lt_of_lt_of_le (HGw3.out a e) hq_.out.size)
  have HTw4 := Lib.hid (HTw3.out.below hq_.out)
  have H0w4 : Hid (0 < w4.heap.size) := Lib.hid (Nat.lt_of_lt_of_le H0w3.out hq_.out.size)
  have HBw4 := Lib.hid (HBw3.out.trans (hq_.out.mono HBw3.out.size))
  have HW2 := Lib.hid (HW2.out.later hq_.out)
  clear hq_
  go_wp2_with fail
  as_aux_lemma =>
  refine (psum64 ao n cap l w4 Hl.out Hnc.out Hcm.out Hc0.out HUw4.out HGw4.out HTw4.out H0w4.out).mono ?_
  rintro e w_ ⟨rfl, hb_⟩
  have HV := Lib.hid (HB.new w_ (zbL 64) 29)
  have hdl : (digS 3 (firstK 3) n l).length = 64 := digS_len 3 (by decide) _ _ _
  have s_ := runstD64 (w := w_.alloc (.cells (zbL 64).toArray 29)) HV.out (zbL_len _) hdl
  have hW : HB ((w_.alloc (.cells (zbL 64).toArray 29)).setRow w_.heap.size ((digS 3 (firstK 3) n l).map bv).toArray) w_.heap.size 29 ((digS 3 (firstK 3) n l).map bv) := setRow_heap _ _ _ _ _ _ HV.out
  have hb2_ : Below w4.heap.size w4 ((w_.alloc (.cells (zbL 64).toArray 29)).setRow w_.heap.size ((digS 3 (firstK 3) n l).map bv).toArray) := (hb_.alloc hb_.size (.cells (zbL 64).toArray 29)).grown (grown_row (w_.alloc (.cells (zbL 64).toArray 29)) w_.heap.size ((digS 3 (firstK 3) n l).map bv).toArray) (by have := hb_.size; simp; omega) (fun x hx => by have := Option.some.inj hx; have := hb_.size; omega)
  have HW4 := Lib.hid hW
  have hq_ := Lib.hid hb2_
  have HXs4 : Hid (w4.heap.size ≤ w_.heap.size) := Lib.hid hb_.size
  clear hb_ hb2_ hW hdl
  go_upto_region 4 with fail
  as_aux_lemma =>
  clear s_ HV
  generalize (w_.alloc (.cells (zbL 64).toArray 29)).setRow w_.heap.size ((digS 3 (firstK 3) n l).map bv).toArray = w5 at *
  generalize w_.heap.size = X64 at *
  have HUw5 := Lib.hid (HUw4.out.below hq_.out)
  have HGw5 : Hid (∀ a, ao = some a → a.block < w5.heap.size) := Lib.hid (fun a e => Nat.lt_of_lt_of_le (HGw4.out a e) hq_.out.size)
  have HTw5 := Lib.hid (HTw4.out.below hq_.out)
  have H0w5 : Hid (0 < w5.heap.size) := Lib.hid (Nat.lt_of_lt_of_le H0w4.out hq_.out.size)
  have HBw5 := Lib.hid (HBw4.out.trans (hq_.out.mono HBw4.out.size))
  have HW2 := Lib.hid (HW2.out.later hq_.out)
  have HW3 := Lib.hid (HW3.out.later hq_.out)
  clear hq_ hz32 hz48 hz64
  go_wp2_with fail
  go_ret
  exact ⟨X48, rfl, (by first | exact rd_row HW2.out | exact rd_row HW3.out | exact rd_row HW4.out), HBw5.out⟩
set_option maxRecDepth 100000 in
set_option maxHeartbeats 1000000 in
theorem digest64 (ao : Option Addr) (n cap : Nat) (l : List UInt8) (w : World) (hl : l.length = n) (hnc : n ≤ cap) (hcm : cap ≤ 9223372036854775807) (hc0 : ao = none → cap = 0) (hr : Rd w ao l) (hlt : ∀ a, ao = some a → a.block < w.heap.size) (htab : TabOk w) (h00 : 0 < w.heap.size) :
    Calls Tryd.prog 31 #[.int .i64 512, .slice ao n cap] w fun e w' => ∃ x, e = .returned (.slice (some ⟨x, 0, none⟩) 64 64) ∧ Rd w' (some ⟨x, 0, none⟩) (digS 3 (firstK 3) n l) ∧ Below w.heap.size w w' := by
  have hz32 : ∀ w, (zeroValue 25).run Tryd.prog w = .ok (.agg (zbL 32).toArray) w := fun w => by kernel_rfl
  have hz48 : ∀ w, (zeroValue 27).run Tryd.prog w = .ok (.agg (zbL 48).toArray) w := fun w => by kernel_rfl
  have hz64 : ∀ w, (zeroValue 29).run Tryd.prog w = .ok (.agg (zbL 64).toArray) w := fun w => by kernel_rfl
  have Hl := Lib.hid hl
  have Hnc := Lib.hid hnc
  have Hcm := Lib.hid hcm
  have Hc0 := Lib.hid hc0
  have HUw := Lib.hid hr
  have HGw := Lib.hid hlt
  have HTw := Lib.hid htab
  have H0w := Lib.hid h00
  have HBw := Lib.hid (Below.refl w.heap.size w)
  clear hl hnc hcm hc0 hr hlt htab h00
  go_enter Tryd.func31, Tryd.ntmps31
  go_wp2_with fail
  as_aux_lemma =>
  refine (psum32 ao n cap l w Hl.out Hnc.out Hcm.out Hc0.out HUw.out HGw.out HTw.out H0w.out).mono ?_
  rintro e w_ ⟨rfl, hb_⟩
  have HV := Lib.hid (HB.new w_ (zbL 32) 25)
  have hdl : (digS 1 (firstK 1) n l).length = 32 := digS_len 1 (by decide) _ _ _
  have s_ := runstD32 (w := w_.alloc (.cells (zbL 32).toArray 25)) HV.out (zbL_len _) hdl
  have hW : HB ((w_.alloc (.cells (zbL 32).toArray 25)).setRow w_.heap.size ((digS 1 (firstK 1) n l).map bv).toArray) w_.heap.size 25 ((digS 1 (firstK 1) n l).map bv) := setRow_heap _ _ _ _ _ _ HV.out
  have hb2_ : Below w.heap.size w ((w_.alloc (.cells (zbL 32).toArray 25)).setRow w_.heap.size ((digS 1 (firstK 1) n l).map bv).toArray) := (hb_.alloc hb_.size (.cells (zbL 32).toArray 25)).grown (grown_row (w_.alloc (.cells (zbL 32).toArray 25)) w_.heap.size ((digS 1 (firstK 1) n l).map bv).toArray) (by have := hb_.size; simp; omega) (fun x hx => by have := Option.some.inj hx; have := hb_.size; omega)
  have HW2 := Lib.hid hW
  have hq_ := Lib.hid hb2_
  have HXs2 : Hid (w.heap.size ≤ w_.heap.size) := Lib.hid hb_.size
  clear hb_ hb2_ hW hdl
  go_upto_region 2 with fail
  as_aux_lemma =>
  clear s_ HV
  generalize (w_.alloc (.cells (zbL 32).toArray 25)).setRow w_.heap.size ((digS 1 (firstK 1) n l).map bv).toArray = w3 at *
  generalize w_.heap.size = X32 at *
  have HUw3 := Lib.hid (HUw.out.below hq_.out)
  have HGw3 : Hid (∀ a, ao = some a → a.block < w3.heap.size) := Lib.hid (fun a e => Nat.lt_of_lt_of_le (HGw.out a e) hq_.out.size)
  have HTw3 := Lib.hid (HTw.out.below hq_.out)
  have H0w3 : Hid (0 < w3.heap.size) := Lib.hid (Nat.lt_of_lt_of_le H0w.out hq_.out.size)
  have HBw3 := Lib.hid (HBw.out.trans (hq_.out.mono HBw.out.size))
  go_wp2_with fail
  as_aux_lemma =>
  refine (psum48 ao n cap l w3 Hl.out Hnc.out Hcm.out Hc0.out HUw3.out HGw3.out HTw3.out H0w3.out).mono ?_
  rintro e w_ ⟨rfl, hb_⟩
  have HV := Lib.hid (HB.new w_ (zbL 48) 27)
  have hdl : (digS 2 (firstK 2) n l).length = 48 := digS_len 2 (by decide) _ _ _
  have s_ := runstD48 (w := w_.alloc (.cells (zbL 48).toArray 27)) HV.out (zbL_len _) hdl
  have hW : HB ((w_.alloc (.cells (zbL 48).toArray 27)).setRow w_.heap.size ((digS 2 (firstK 2) n l).map bv).toArray) w_.heap.size 27 ((digS 2 (firstK 2) n l).map bv) := setRow_heap _ _ _ _ _ _ HV.out
  have hb2_ : Below w3.heap.size w3 ((w_.alloc (.cells (zbL 48).toArray 27)).setRow w_.heap.size ((digS 2 (firstK 2) n l).map bv).toArray) := (hb_.alloc hb_.size (.cells (zbL 48).toArray 27)).grown (grown_row (w_.alloc (.cells (zbL 48).toArray 27)) w_.heap.size ((digS 2 (firstK 2) n l).map bv).toArray) (by have := hb_.size; simp; omega) (fun x hx => by have := Option.some.inj hx; have := hb_.size; omega)
  have HW3 := Lib.hid hW
  have hq_ := Lib.hid hb2_
  have HXs3 : Hid (w3.heap.size ≤ w_.heap.size) := Lib.hid hb_.size
  clear hb_ hb2_ hW hdl
  go_upto_region 3 with fail
  as_aux_lemma =>
  clear s_ HV
  generalize (w_.alloc (.cells (zbL 48).toArray 27)).setRow w_.heap.size ((digS 2 (firstK 2) n l).map bv).toArray = w4 at *
  generalize w_.heap.size = X48 at *
  have HUw4 := Lib.hid (HUw3.out.below hq_.out)
  have HGw4 : Hid (∀ a, ao = some a → a.block < w4.heap.size) := Lib.hid (fun a e => Nat.lt_of_lt_of_le (HGw3.out a e) hq_.out.size)
  have HTw4 := Lib.hid (HTw3.out.below hq_.out)
  have H0w4 : Hid (0 < w4.heap.size) := Lib.hid (Nat.lt_of_lt_of_le H0w3.out hq_.out.size)
  have HBw4 := Lib.hid (HBw3.out.trans (hq_.out.mono HBw3.out.size))
  have HW2 := Lib.hid (HW2.out.later hq_.out)
  clear hq_
  go_wp2_with fail
  as_aux_lemma =>
  refine (psum64 ao n cap l w4 Hl.out Hnc.out Hcm.out Hc0.out HUw4.out HGw4.out HTw4.out H0w4.out).mono ?_
  rintro e w_ ⟨rfl, hb_⟩
  have HV := Lib.hid (HB.new w_ (zbL 64) 29)
  have hdl : (digS 3 (firstK 3) n l).length = 64 := digS_len 3 (by decide) _ _ _
  have s_ := runstD64 (w := w_.alloc (.cells (zbL 64).toArray 29)) HV.out (zbL_len _) hdl
  have hW : HB ((w_.alloc (.cells (zbL 64).toArray 29)).setRow w_.heap.size ((digS 3 (firstK 3) n l).map bv).toArray) w_.heap.size 29 ((digS 3 (firstK 3) n l).map bv) := setRow_heap _ _ _ _ _ _ HV.out
  have hb2_ : Below w4.heap.size w4 ((w_.alloc (.cells (zbL 64).toArray 29)).setRow w_.heap.size ((digS 3 (firstK 3) n l).map bv).toArray) := (hb_.alloc hb_.size (.cells (zbL 64).toArray 29)).grown (grown_row (w_.alloc (.cells (zbL 64).toArray 29)) w_.heap.size ((digS 3 (firstK 3) n l).map bv).toArray) (by have := hb_.size; simp; omega) (fun x hx => by have := Option.some.inj hx; have := hb_.size; omega)
  have HW4 := Lib.hid hW
  have hq_ := Lib.hid hb2_
  have HXs4 : Hid (w4.heap.size ≤ w_.heap.size) := Lib.hid hb_.size
  clear hb_ hb2_ hW hdl
  go_upto_region 4 with fail
  as_aux_lemma =>
  clear s_ HV
  generalize (w_.alloc (.cells (zbL 64).toArray 29)).setRow w_.heap.size ((digS 3 (firstK 3) n l).map bv).toArray = w5 at *
  generalize w_.heap.size = X64 at *
  have HUw5 := Lib.hid (HUw4.out.below hq_.out)
  have HGw5 : Hid (∀ a, ao = some a → a.block < w5.heap.size) := Lib.hid (fun a e => Nat.lt_of_lt_of_le (HGw4.out a e) hq_.out.size)
  have HTw5 := Lib.hid (HTw4.out.below hq_.out)
  have H0w5 : Hid (0 < w5.heap.size) := Lib.hid (Nat.lt_of_lt_of_le H0w4.out hq_.out.size)
  have HBw5 := Lib.hid (HBw4.out.trans (hq_.out.mono HBw4.out.size))
  have HW2 := Lib.hid (HW2.out.later hq_.out)
  have HW3 := Lib.hid (HW3.out.later hq_.out)
  clear hq_ hz32 hz48 hz64
  go_wp2_with fail
  go_ret
  exact ⟨X64, rfl, (by first | exact rd_row HW2.out | exact rd_row HW3.out | exact rd_row HW4.out), HBw5.out⟩
end Go.Proofs.YtngkelflfahjbaaDoor
