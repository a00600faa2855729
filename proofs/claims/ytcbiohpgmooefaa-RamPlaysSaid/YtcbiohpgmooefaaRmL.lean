/- The live question of RAM's laws. No condition. -/
import Derived.Test.YtcbiohpgmooefaaRmA
import Derived.Test.YtcbiohpgmooefaaRmG
set_option linter.unusedVariables false
set_option linter.unusedSimpArgs false
namespace Go.Proofs.Ytcbiohpgmooefaa
open Go.RowKit
attribute [local go_sem ↓] build_rg
def g16 : Rg := ⟨1073741824, 16, true, true, false, false⟩
theorem add16 : addR [] g16 = ([g16], 0) := by rfl
theorem may1 : mayR [g16] false 2 1073741832 1 = 0 := by rfl
theorem may2 : mayR [g16] true 1 1073741832 1 = 0 := by rfl
theorem may3 : mayR [g16] false 2 1073741832 9 = 165 := by rfl
theorem run_build16 (w : World) : (buildRg #[(0, .int .u64 1073741824), (1, .int .u64 16), (2, .bool true), (3, .bool true)]).run Try.prog w = .ok (.agg #[.int .u64 1073741824, .int .u64 16, .bool true, .bool true, .bool false, .bool false]) w := by kernel_rfl
theorem getR_spl {m b : List UInt8} {o : Nat} (h : o ≤ m.length) : getR (spl m o b) o b.length = b := by
  unfold getR spl
  have e : (m.take o).length = o := by rw [List.length_take]; omega
  rw [List.append_assoc, List.drop_left' e, List.take_left]
set_option maxHeartbeats 1000000 in
theorem alive_any (w : World) :
    Calls Try.prog 8 #[] w fun e w' => e = .returned (.bool true) ∧ Below w.heap.size w w' := by
  have hz := run_build16
  have Hn := Lib.hid (new_any w)
  go_enter Try.func8, Try.ntmps8
  go_wp2_with fail
  refine Hn.out.mono ?_
  rintro e w1 ⟨rfl, hR, hb1⟩
  have Hb1 := Lib.hid hb1
  obtain ⟨B, hB⟩ : ∃ B, w.heap.size = B := ⟨_, rfl⟩
  rw [hB] at hR Hb1 ⊢
  have HBx := fun (_ : Unit) => Lib.hid hB
  have Ha := Lib.hid (add_any hR (by have := hb1.size; omega) g16 ⟨by decide, by decide⟩)
  rw [add16] at Ha
  unfold rgv at Ha
  clear hR hb1 Hn hB
  go_wp2_with fail
  refine Ha.out.mono ?_
  rintro e w2 ⟨rfl, tv2, hT2⟩
  have Hz1 : Hid (B ≤ w1.heap.size) := Lib.hid (by have := Hb1.out.size; have := (HBx ()).out; omega)
  have Hb2 : Hid (Below B w w2) := Lib.hid (Hb1.out.trans (hT2.f.below Hz1.out (fun q hq => hq.elim (fun e => by omega) (fun e => by cases e))))
  have hR3 := fun mk => hT2.r.later ((Below.refl w2.heap.size w2).alloc (Nat.le_refl _) (.cells #[.int .u8 7] 5 mk))
  have Hs1 := Lib.hid (fun mk => store_any (hR3 mk) false 1073741832 (some ⟨w2.heap.size, 0, none⟩) 1 1 [7] (by decide) rfl (by decide) (fun w' hb => (Rd.new w2 [7] 5 mk).below hb))
  rw [may1] at Hs1
  have Hz2 : Hid (B ≤ w2.heap.size) := Lib.hid (Nat.le_trans Hz1.out hT2.f.size)
  clear hT2 hR3 Ha
  obtain ⟨M, hM⟩ : ∃ M, putR m0 0 1073741832 [7] = M := ⟨_, rfl⟩
  have HM := fun (_ : Unit) => Lib.hid (show gotR M 0 1073741832 1 = [7] by
    rw [← hM]
    unfold gotR putR
    rw [if_pos rfl, if_pos rfl]
    exact getR_spl (b := [7]) (by rw [m0_len]; decide))
  rw [hM] at Hs1
  clear hM
  go_wp2_with fail
  refine (Hs1.out _).mono ?_
  rintro e w4 ⟨rfl, hL4⟩
  have hb23 : Below B w2 (w2.alloc (.cells #[.int .u8 7] 5)) := (Below.refl _ _).alloc Hz2.out _
  have Hb4 : Hid (Below B w w4) := Lib.hid ((Hb2.out.trans hb23).trans (hL4.f.below (Nat.le_trans Hz2.out (by simp)) (fun q e => by omega)))
  have Hz4 : Hid (B < w4.heap.size) := Lib.hid hL4.r.h.lt
  have Hl := Lib.hid (load_any hL4.r true 1073741832 1 (by decide))
  have HR4 := Lib.hid (fun w' (hb : Below w4.heap.size w4 w') => hL4.r.later hb)
  rw [may2, (HM ()).out] at Hl
  clear hb23 hL4 Hs1 HM
  go_wp2_with fail
  refine Hl.out.mono ?_
  rintro e w5 ⟨v5, rfl, ho5, hb5⟩
  rcases ho5.cases with ⟨-, h⟩ | ⟨g5, C5, rfl, hg5, hlt5, hc5, hcm5, -, -⟩
  · cases h
  have Hb5 := Lib.hid (Hb4.out.trans (hb5.mono (Nat.le_of_lt Hz4.out)))
  have Hbl5 := Lib.hid hb5
  have Ho5 := Lib.hid ho5
  have Hg5 := Lib.hid hg5
  have HR5 := Lib.hid (fun w' (hb : Below w5.heap.size w5 w') => HR4.out _ (hb5.trans (hb.mono hb5.size)))
  obtain ⟨i0, hi, hz0, hz1, hz2⟩ := info_parts byteRow.info
  have Hi := Lib.hid hi
  clear ho5 hb5 hg5 hlt5 hc5 hcm5 Hl HR4 hi
  go_wp2_with (at_make; refine wpList_make_full _ rfl _ _ 23 rfl w5.heap.size 5 i0 (.int .u8 0) 1 Try.underlying23 Hi.out hz0 hz1 _ _ _ _ 9 rfl rfl rfl rfl (by rw [hz2]; decide) (by decide) (Nat.le_refl _) ?_)
  intro w6 hown hgr
  have hb6 : Below w5.heap.size w5 w6 := (Below.refl _ _).grown hgr (Nat.le_refl _) (by intro q hq; cases hq)
  have hz9 := Own.zeros hown
  obtain ⟨_, _, he, -, -, hrd⟩ := hz9.rd
  cases he
  have Hs2 := Lib.hid (store_any (HR5.out _ hb6) false 1073741832 (some ⟨w5.heap.size, 0, none⟩) 9 9 (List.replicate 9 0) (by decide) rfl (by decide) (fun w' hb => hrd.below hb))
  rw [may3] at Hs2
  have Hb6 := Lib.hid hb6
  clear hown hgr hb6 hz9 hrd HR5 Hi
  go_wp2_with fail
  refine Hs2.out.mono ?_
  rintro e w7 ⟨rfl, hL7⟩
  have Hb7 : Hid (Below B w w7) := Lib.hid ((Hb5.out.trans (Hb6.out.mono (by have := Hbl5.out.size; have := Hz4.out; omega))).trans (hL7.f.below (by have := Hb6.out.size; have := Hbl5.out.size; have := Hz4.out; omega) (fun q e => by omega)))
  have ho7 := (Ho5.out.later Hb6.out).frm hL7.f (fun k hk e => by have h1 : g5 = k := Option.some.inj hk; have := Hg5.out; have := Hz4.out; omega)
  have k7 : w7.cell? ⟨g5, 0, none⟩ = some (.int .u8 7) := ho7.at.2.2.2.2.2.1 0 (by decide)
  clear ho7 hL7 Hs2
  go_wp2_with fail
  go_ret
  exact ⟨rfl, by rw [(HBx ()).out]; exact Hb7.out⟩
end Go.Proofs.Ytcbiohpgmooefaa
