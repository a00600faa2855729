/- made of law 23: an updater of ten blocks, with right metadata in a copy. No condition. -/
import Derived.Test.YtnmeidmiijcniaaFwA
import Derived.Test.YtnmeidmiijcniaaPk23
import Derived.Test.YtnmeidmiijcniaaFwuMetas
set_option linter.unusedVariables false
set_option linter.unusedSimpArgs false
namespace Go.Proofs.Ytnmeidmiijcniaa
open Go.RowKit
def g10 : Fl := ⟨10, false, 0, false, 0, fun _ => none⟩
def s10 : Up := ⟨0, 2, 6, 4⟩
theorem g10_ok : g10.Ok := ⟨by decide, by decide, by decide, by decide, fun k l h => by cases h⟩
theorem s10_ok : UpOk s10 g10.size := upOk_iff.1 (by decide)
theorem s10_i : UpI s10 := ⟨⟨by decide, by decide⟩, ⟨by decide, by decide⟩, ⟨by decide, by decide⟩, ⟨by decide, by decide⟩⟩
def fM (m : Me) (c : Int) : Fl := (writeR g10 c (encM m)).1
set_option maxRecDepth 100000 in
set_option maxHeartbeats 1000000 in
theorem made_bad (m : Me) (c : Int) (w : World) (hr : rightM m = false) (hc : I64 c) :
    Calls Try.prog 25 #[mev m, .int .i64 c] w fun e w' => e = .returned (.tuple #[.pointer none, .pointer none, .bool false]) ∧ Below w.heap.size w w' := by
  have HE := Lib.hid (fun w' => enc_bad m w' hr)
  have HC := Lib.hid hc
  clear hr hc
  unfold mev at HE ⊢
  try dsimp only at HE ⊢
  go_enter Try.func25, Try.ntmps25
  go_wp2_with fail
  refine (HE.out _).mono ?_
  rintro e w1 ⟨rfl, hb1⟩
  have hb0 := (Below.refl w.heap.size w).alloc (Nat.le_refl _) (.cells #[.int .u32 m.seq, .int .i64 m.b0, .int .i64 m.b1, .int .i64 m.act, .int .i64 m.tries] 26)
  have HB1 := Lib.hid (hb0.trans (hb1.mono hb0.size))
  have Hnew := fun (_ : Unit) => Lib.hid (new_any 10 none 0 0 [] w1 rfl (by decide) (fun j g hj => by cases hj) (fun b hb => by cases hb))
  clear hb1 HE hb0
  go_wp2_with fail
  refine (Hnew ()).out.mono ?_
  rintro e w2 ⟨v, he, hsaid, hb2⟩
  rw [show newR 10 (([] : List Bk).map Bk.p) = (some g10, 0) from rfl] at he hsaid
  subst he
  rcases hsaid with ⟨f, p, mb, hff, rfl, hfa, hp, hmb⟩ | ⟨hno, -⟩
  case inr => cases hno
  obtain rfl : g10 = f := by cases hff; rfl
  have HB2 := Lib.hid (HB1.out.trans (hb2.mono HB1.out.size))
  have Hop := fun (_ : Unit) => Lib.hid (open_any p mb 0 g10 s10 w2 hfa g10_ok s10_i)
  clear hff hfa hb2 hp hmb Hnew HB1
  go_wp2_with fail
  refine (Hop ()).out.mono ?_
  rintro e w3 ⟨hor, hb3⟩
  rcases hor with ⟨-, u, rfl, hu, hus⟩ | ⟨hno, -⟩
  case inr => exact absurd hno (by decide)
  have HB3 := Lib.hid (HB2.out.trans (hb3.mono HB2.out.size))
  clear hu hus hb3 Hop HB2
  go_wp2_with fail
  exact bodyPost_ret (v := .tuple #[.pointer none, .pointer none, .bool false]) (by simp [results, Try.results25, go_sem]; try rfl) rfl ⟨rfl, HB3.out⟩
set_option maxRecDepth 100000 in
set_option maxHeartbeats 1000000 in
theorem made_ok (m : Me) (c : Int) (w : World) (hr : rightM m = true) (hs : m.seq < 4294967296) (hc : I64 c) :
    Calls Try.prog 25 #[mev m, .int .i64 c] w fun e w' => ∃ p u mb, e = .returned (.tuple #[.pointer (some ⟨p, 0, none⟩), .pointer (some ⟨u, 0, none⟩), .bool true]) ∧ UpA w' u p mb 1 s10 (fM m (pickN c 2)) ∧
      w.heap.size ≤ p ∧ w.heap.size ≤ mb ∧ w.heap.size ≤ u ∧ Below w.heap.size w w' := by
  have HE := Lib.hid (fun w' => enc_ok m w' hr hs)
  have HC := Lib.hid hc
  clear hr hc hs
  have HL := fun (_ : Unit) => Lib.hid (encM_len m)
  have hfm : fM m (pickN c 2) = (writeR g10 (pickN c 2) (encM m)).1 := rfl
  obtain ⟨L, hL⟩ : ∃ L, encM m = L := ⟨_, rfl⟩
  simp only [hL] at HE HL hfm
  clear hL
  obtain ⟨F, hF⟩ : ∃ F, fM m (pickN c 2) = F := ⟨_, rfl⟩
  rw [hF] at hfm ⊢
  have Hfm := fun (_ : Unit) => Lib.hid hfm
  clear hF hfm
  unfold mev at HE ⊢
  try dsimp only at HE ⊢
  go_enter Try.func25, Try.ntmps25
  go_wp2_with fail
  refine (HE.out _).mono ?_
  rintro e w1 ⟨g, C, rfl, hC, ho1, hb1⟩
  have hb0 := (Below.refl w.heap.size w).alloc (Nat.le_refl _) (.cells #[.int .u32 m.seq, .int .i64 m.b0, .int .i64 m.b1, .int .i64 m.act, .int .i64 m.tries] 26)
  have HB1 := Lib.hid (hb0.trans (hb1.mono hb0.size))
  have HO1 := Lib.hid ho1
  have HCC := Lib.hid hC
  have Hnew := fun (_ : Unit) => Lib.hid (new_any 10 none 0 0 [] w1 rfl (by decide) (fun j g hj => by cases hj) (fun b hb => by cases hb))
  clear hb1 HE ho1 hC hb0
  go_wp2_with fail
  refine (Hnew ()).out.mono ?_
  rintro e w2 ⟨v, he, hsaid, hb2⟩
  rw [show newR 10 (([] : List Bk).map Bk.p) = (some g10, 0) from rfl] at he hsaid
  subst he
  rcases hsaid with ⟨f, p, mb, hff, rfl, hfa, hp, hmb⟩ | ⟨hno, -⟩
  case inr => cases hno
  obtain rfl : g10 = f := by cases hff; rfl
  have HB2 := Lib.hid (HB1.out.trans (hb2.mono HB1.out.size))
  have HO2 := Lib.hid (HO1.out.later hb2)
  have hgl := (own_blk HO1.out (k := g) rfl).2
  have Hpm := Lib.hid (show w.heap.size ≤ p ∧ w.heap.size ≤ mb ∧ g < p from ⟨Nat.le_trans HB1.out.size hp, Nat.le_trans HB1.out.size hmb, by omega⟩)
  have HF2 := fun (_ : Unit) => Lib.hid hfa
  have Hop := fun (_ : Unit) => Lib.hid (open_any p mb 0 g10 s10 w2 hfa g10_ok s10_i)
  clear hff hfa hb2 hp hmb Hnew HB1 HO1 hgl
  go_wp2_with fail
  refine (Hop ()).out.mono ?_
  rintro e w3 ⟨hor, hb3⟩
  rcases hor with ⟨-, u, rfl, hu, hus⟩ | ⟨hno, -⟩
  case inr => exact absurd hno (by decide)
  have HB3 := Lib.hid (HB2.out.trans (hb3.mono HB2.out.size))
  have HF3 := fun (_ : Unit) => Lib.hid ((HF2 ()).out.later hb3)
  have HO3 := Lib.hid (HO2.out.later hb3)
  have HU := fun (_ : Unit) => Lib.hid hu
  have hlt := (HF2 ()).out.h.lt
  have hlt2 := (HF2 ()).out.m.lt
  have Hul := Lib.hid (show w.heap.size ≤ u ∧ u ≠ p ∧ u ≠ mb from ⟨Nat.le_trans HB2.out.size hus, by omega, by omega⟩)
  clear hu hus hb3 Hop HB2 HO2 HF2 hlt hlt2
  go_wp2_with fail
  refine (pick_any c 2 _ HC.out (by decide) (by decide)).mono ?_
  rintro e w4 ⟨rfl, rfl⟩
  obtain ⟨K, hK⟩ : ∃ K, pickN c 2 = K := ⟨_, rfl⟩
  have hK0 : 0 ≤ K ∧ K < 2 := by rw [← hK]; exact ⟨pickN_nonneg (by decide), pickN_lt (by decide)⟩
  rw [hK] at Hfm ⊢
  have hr3 : Rd w3 (some ⟨g, 0, none⟩) L := by
    obtain ⟨a4, c4, he4, -, -, hr4⟩ := HO3.out.rd
    rw [(HL ()).out] at he4
    cases he4
    exact hr4
  have Hwr := fun (_ : Unit) => Lib.hid (writef_ok p mb 0 g10 K g 0 C L w3 (HF3 ()).out g10_ok ⟨by omega, by omega⟩ (by unfold mayE; rw [if_neg (by decide), if_neg (by have := hK0; simp only [g10]; omega)]) (HL ()).out hr3 HCC.out (by decide) (by decide) (by decide) (by have := Hpm.out; omega))
  have hw0 : (writeR g10 K L).2 = 0 := by unfold g10; rw [writeR_zero]
  have HP := fun (_ : Unit) => Lib.hid (put_ok23 (f := g10) (k := K) g10_ok (HL ()).out)
  rw [hw0] at Hwr
  clear hw0 hr3 hK
  go_wp2_with fail
  refine (Hwr ()).out.mono ?_
  rintro e w5 ⟨rfl, hf5, hfr5⟩
  have HF5 := fun (_ : Unit) => Lib.hid hf5
  have HFR := Lib.hid hfr5
  clear hf5 hfr5 Hwr
  go_wp2_with fail
  refine bodyPost_ret (v := .tuple #[.pointer (some ⟨p, 0, none⟩), .pointer (some ⟨u, 0, none⟩), .bool true]) (by simp [results, Try.results25, go_sem]; try rfl) rfl ⟨p, u, mb, rfl, ?_, Hpm.out.1, Hpm.out.2.1, Hul.out.1, HB3.out.trans (HFR.out.below HB3.out.size (fun q hq => by have := Hpm.out; omega))⟩
  rw [(Hfm ()).out]
  exact ⟨(HU ()).out.frm HFR.out (fun e => by have := Hul.out; omega), (HF5 ()).out, (HP ()).out.1, by rw [(HP ()).out.2.1]; exact s10_ok, s10_i, Hul.out.2.1, Hul.out.2.2⟩
end Go.Proofs.Ytnmeidmiijcniaa
