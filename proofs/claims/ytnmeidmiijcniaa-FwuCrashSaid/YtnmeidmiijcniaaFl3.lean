/- A new flash. No condition. -/
import Derived.Test.YtnmeidmiijcniaaFl2
import Derived.Test.YtnmeidmiijcniaaOpenS
import Derived.Deep.RegionHeld3
import Derived.Deep.DrawnRows
set_option linter.unusedVariables false
set_option linter.unusedSimpArgs false
namespace Go.Proofs.Ytnmeidmiijcniaa
open Go.RowKit
attribute [local go_sem ↓] Go.wp_at_zero Go.wp_at_succ
def NewSaid (w w' : World) (R : Option Fl × Int) (n : Nat) (v : Value) : Prop :=
  (∃ f p mb, R = (some f, 0) ∧ v = .pointer (some ⟨p, 0, none⟩) ∧ FlA w' p mb n f ∧ w.heap.size ≤ p ∧ w.heap.size ≤ mb) ∨ (R.1 = none ∧ v = .pointer none)
structure NewIn (size : Int) (L : List Bk) (B : Nat) (W : World) (v : Value) (wr : World) : Prop where
  x : ∃ (j : Nat) (F : Int → Option (List UInt8)), j ≤ L.length ∧ v = .int .i64 j ∧ newGo size (fun _ => none) (L.map Bk.p) = newGo size F ((L.drop j).map Bk.p) ∧
    HB wr (B + 1) 109 [.int .i64 size, .map (some B), .bool false, .int .i64 0, .bool false, .int .i64 0] ∧ BMap wr B j F ∧ Below B W wr ∧ ∀ k l, F k = some l → l.length = 512
theorem newGo_bad {size n : Int} {F : Int → Option (List UInt8)} {d : List UInt8} {r : List (Int × List UInt8)} (h : n < 0 ∨ size ≤ n ∨ (F n).isSome = true) : newGo size F ((n, d) :: r) = (none, 141) := by
  rw [newGo, if_pos h]
theorem newGo_size {size n : Int} {F : Int → Option (List UInt8)} {d : List UInt8} {r : List (Int × List UInt8)} (h : ¬ (n < 0 ∨ size ≤ n ∨ (F n).isSome = true)) (h2 : d.length ≠ 512) : newGo size F ((n, d) :: r) = (none, 142) := by
  rw [newGo, if_neg h, if_pos h2]
theorem newGo_put {size n : Int} {F : Int → Option (List UInt8)} {d : List UInt8} {r : List (Int × List UInt8)} (h : ¬ (n < 0 ∨ size ≤ n ∨ (F n).isSome = true)) (h2 : d.length = 512) : newGo size F ((n, d) :: r) = newGo size (put F n d) r := by
  rw [newGo, if_neg h, if_neg (by simpa using h2)]
theorem grown_setCells (b : Nat) : ∀ (vs : List Value) (o : Nat) (w : World), w.grownBy (w.setCells b o vs) (some b) := by
  intro vs
  induction vs with
  | nil => intro o w; exact World.grownBy.refl _ _
  | cons v vs ih =>
    intro o w
    exact (grown_set w ⟨b, o, none⟩ v).trans (ih (o + 1) _)
set_option maxRecDepth 100000 in
set_option maxHeartbeats 4000000 in
theorem new_any (size : Int) (ao : Option Addr) (n cap : Nat) (L : List Bk) (w : World) (hl : L.length = n) (hn : n ≤ 140737488351232) (hr : RdS bkc 2 w ao L) (hok : ∀ b ∈ L, b.Ok w) :
    Calls Try.prog 30 #[.int .i64 size, .slice ao n cap] w fun e w' => ∃ v, e = .returned (.tuple #[v, .int .i64 (newR size (L.map Bk.p)).2]) ∧ NewSaid w w' (newR size (L.map Bk.p)) n v ∧ Below w.heap.size w w' := by
  by_cases hs : size < 1 ∨ 1048576 < size
  · have hR : newR size (L.map Bk.p) = (none, 1) := by unfold newR; rw [if_pos hs]
    rw [hR]
    by_cases h1 : size < 1
    · clear hs hR
      go_enter Try.func30, Try.ntmps30
      go_wp2_with fail
      go_ret2
      exact ⟨_, rfl, Or.inr ⟨rfl, rfl⟩, Below.refl _ _⟩
    · have h2 : 1048576 < size := by omega
      clear hs hR
      go_enter Try.func30, Try.ntmps30
      go_wp2_with fail
      go_ret2
      exact ⟨_, rfl, Or.inr ⟨rfl, rfl⟩, Below.refl _ _⟩
  have hR : newR size (L.map Bk.p) = ((newGo size (fun _ => none) (L.map Bk.p)).1.map fun F => (⟨size, false, 0, false, 0, F⟩ : Fl), (newGo size (fun _ => none) (L.map Bk.p)).2) := by unfold newR; rw [if_neg hs]
  have s0 : 1 ≤ size := by omega
  have s1 : size ≤ 1048576 := by omega
  rw [hR]
  clear hs hR
  have hM := Lib.hid (BMap.made w)
  have hb0 := Lib.hid ((Below.refl w.heap.size w).alloc (Nat.le_refl _) (.map #[] 0))
  have hP := HB.new (w.alloc (.map #[] 0)) [.int .i64 size, .map (some w.heap.size), .bool false, .int .i64 0, .bool false, .int .i64 0] 109
  rw [show (w.alloc (.map #[] 0)).heap.size = w.heap.size + 1 by simp] at hP
  have HP := Lib.hid hP
  have HM := Lib.hid (hM.out.alloc (.cells #[.int .i64 size, .map (some w.heap.size), .bool false, .int .i64 0, .bool false, .int .i64 0] 109))
  have HB0 := Lib.hid (hb0.out.alloc hb0.out.size (.cells #[.int .i64 size, .map (some w.heap.size), .bool false, .int .i64 0, .bool false, .int .i64 0] 109))
  clear hP hM hb0
  have Hl := Lib.hid hl
  have hmm := @run_makeMap Try.prog
  clear hl
  go_enter Try.func30, Try.ntmps30
  go_wp2_with fail
  generalize (w.alloc (.map #[] 0)).alloc (.cells #[.int .i64 size, .map (some w.heap.size), .bool false, .int .i64 0, .bool false, .int .i64 0] 109) = w1 at *
  obtain ⟨B, hB⟩ : ∃ B, w.heap.size = B := ⟨_, rfl⟩
  rw [hB] at HP HM HB0 ⊢
  have HBx := Lib.hid hB
  clear hB hmm
  go_loopw [8, 9, 10, 23] (fun _ _ _ k wr => NewIn size L B w k wr) (fun _ _ _ k _ => n - (intOf k).toNat)
  case atStart => exact ⟨0, _, by omega, rfl, rfl, HP.out, HM.out, HB0.out, fun k l h => by cases h⟩
  case round =>
    clear HP HM HB0
    obtain ⟨j, F, hj, rfl, hgo, hP, hM, hb, hF⟩ := hrel
    have HF := Lib.hid hF
    clear hF
    have Hgo := Lib.hid hgo
    have HM := Lib.hid hM
    clear hgo hM
    by_cases hlt : j < n
    · obtain ⟨bk, hbk⟩ : ∃ bk, L[j]? = some bk := ⟨_, List.getElem?_eq_getElem (show j < L.length by have := Hl.out; omega)⟩
      obtain ⟨x, off, rfl, hx, hc⟩ := hr j bk hbk
      have hbo := Lib.hid (hok bk (List.mem_of_getElem? hbk))
      have hdrop : Hid (L.drop j = bk :: L.drop (j + 1)) := Lib.hid (by
        have hj' := (List.getElem?_eq_some_iff.1 hbk)
        rw [List.drop_eq_getElem_cons hj'.1, hj'.2])
      have hcell := fun i v hi => (hb.cell (p := ⟨x, off + j * 2 + i, none⟩) (by rw [← HBx.out]; exact hx)).trans (hc i v hi)
      have c0 := hcell 0 _ rfl
      have c1 := hcell 1 _ rfl
      simp only [Nat.add_zero] at c0
      clear hc hcell hbk
      have e0 : (0 : Int) ≤ (j : Int) := by omega
      have e1 : (j : Int) < (n : Int) := by omega
      obtain ⟨bn, ba, bc, bl⟩ := bk
      simp only at c0 c1
      go_wp2_with fail
      have HX := HB.new wr [.int .i64 bn, .slice ba bl.length bc] 111
      have hP3 := hP.alloc (.cells #[.int .i64 bn, .slice ba bl.length bc] 111)
      have hM3 := Lib.hid (HM.out.alloc (.cells #[.int .i64 bn, .slice ba bl.length bc] 111))
      have hb3 := Lib.hid (hb.alloc (by have := hP.lt; omega) (.cells #[.int .i64 bn, .slice ba bl.length bc] 111))
      have hpx : B + 1 ≠ wr.heap.size := by have := hP.lt; omega
      have hBx : B ≠ wr.heap.size := by have := hP.lt; omega
      have hBw : B + 1 < wr.heap.size := hP.lt
      clear hP hb HM c0 c1 hr hx
      generalize wr.alloc (.cells #[.int .i64 bn, .slice ba bl.length bc] 111) = w3 at *
      obtain ⟨x8, hx8⟩ : ∃ x8, wr.heap.size = x8 := ⟨_, rfl⟩
      rw [hx8] at HX hpx hBx hBw ⊢
      clear hx8
      have hk := hbo.out.i
      simp only at hk
      obtain ⟨l0, hl0⟩ : ∃ l0, (F bn).getD zero512 = l0 := ⟨_, rfl⟩
      have hx83 := HX.lt
      have hp3lt := hP3.lt
      have HXh := Lib.hid HX
      have HP3 := Lib.hid hP3
      have hl0' : Hid (∀ w' : World, w3.grownBy w' (some w3.heap.size) → (w'.cell? ⟨B + 1, 1, none⟩ = some (.map (some B)) ∧ w'.cell? ⟨x8, 0, none⟩ = some (.int .i64 bn) ∧
          (Instr.lookup 107 (.map (some B)) (.int .i64 bn) true).run Try.prog w' = .ok (.tuple #[.agg (l0.map bv).toArray, .bool (F bn).isSome]) w')) := Lib.hid fun w' hg => by
        refine ⟨(HP3.out.grown hg (fun e => by have := Option.some.inj e; omega)).cell rfl, (HXh.out.grown hg (fun e => by have := Option.some.inj e; omega)).cell rfl, ?_⟩
        have := (hM3.out.kept hg (fun e => by have := hM3.out.lt; have := Option.some.inj e; omega)).look_ok hk
        rw [hl0] at this
        exact this
      have c11 := hP3.cell (i := 1) rfl
      have c80 := HX.cell (i := 0) rfl
      have hl0x := hl0
      clear HX hP3 hl0
      obtain ⟨n9, hn9⟩ : ∃ n9, w3.heap.size = n9 := ⟨_, rfl⟩
      have HN9 := Lib.hid hn9
      have hz' : ∀ w, (zeroValue 113).run Try.prog w = .ok (.agg (zero512.map bv).toArray) w := zeroBlk
      have hone : ∀ v ∈ l0.map bv, v.oneCell' = true := bv_one l0
      clear hn9
      have hl5 : l0.length = 512 := by
        cases hfb : F bn with
        | none => rw [hfb] at hl0x; rw [← hl0x]; exact zero512_len
        | some l => rw [hfb] at hl0x; rw [← hl0x]; exact HF.out bn l hfb
      have Hl5 := Lib.hid hl5
      have hth : (w3.alloc (.cells (zero512.map bv).toArray 113)).drew.there w3.heap.size 0 (l0.map bv).length :=
        (World.there_drew _ _ _ _).2 ((HB.new w3 (zero512.map bv) 113).there (by rw [List.length_map, List.length_map, hl5, zero512_len]; exact Nat.le_refl _))
      have hi7 : (Try.prog.info? 113).map (·.size) = some (l0.map bv).length := by rw [List.length_map, hl5]; exact infoB
      obtain ⟨tw, htw⟩ : ∃ tw, (F bn).isSome = tw := ⟨_, rfl⟩
      rw [htw] at hl0'
      have Htw := Lib.hid htw
      clear htw hl5 hl0x
      go_region_held3 (fun w' => w'.cell? ⟨B + 1, 1, none⟩ = some (.map (some B)) ∧ w'.cell? ⟨x8, 0, none⟩ = some (.int .i64 bn) ∧ (Instr.lookup 107 (.map (some B)) (.int .i64 bn) true).run Try.prog w' = .ok (.tuple #[.agg (l0.map bv).toArray, .bool tw]) w')
        (first | exact hl0'.out _ (grown_drn ⟨1, rfl⟩ _) | exact hl0'.out _ ((grown_drn ⟨1, rfl⟩ _).trans (grown_alloc _ _ _)) | exact hl0'.out _ (((grown_drn ⟨1, rfl⟩ _).trans (grown_alloc _ _ _)).trans (grown_setCells _ _ _ _)))
        (fail)
      all_goals
        have hg4 : w3.grownBy ((w3.alloc (.cells (zero512.map bv).toArray 113)).drew.setCells w3.heap.size 0 (l0.map bv)) (some w3.heap.size) := ((grown_alloc w3 _ _).trans (grown_drn ⟨1, rfl⟩ _)).trans (grown_setCells _ _ _ _)
        have HX4 := Lib.hid (HXh.out.grown hg4 (fun e => by have := Option.some.inj e; omega))
        have HP4 := Lib.hid (HP3.out.grown hg4 (fun e => by have := Option.some.inj e; omega))
        have hM4 := Lib.hid (hM3.out.kept hg4 (fun e => by have := hM3.out.lt; have := Option.some.inj e; omega))
        have hb4 := Lib.hid (hb3.out.grown hg4 (by omega) (by intro k hk'; have := Option.some.inj hk'; omega))
        have hs4 := hg4.size
        clear hth hi7 hz' hone hl0' c11 c80 HXh HP3 hM3 hb3 hg4
        generalize World.setCells _ _ _ _ = w4 at *
        have d0 := HX4.out.cell (i := 0) rfl
        have d1 := HX4.out.cell (i := 1) rfl
        have p1 := HP4.out.cell (i := 1) rfl
        have hgo2 := Hgo.out
        rw [hdrop.out, List.map_cons] at hgo2
        have Hgo2 := Lib.hid hgo2
        clear hgo2
        by_cases h1 : bn < 0
        · have hres := Lib.hid (Hgo2.out.trans (newGo_bad (Or.inl h1)))
          go_wp2_with fail
          go_ret2
          exact ⟨_, by rw [hres.out]; rfl, Or.inr ⟨by rw [hres.out]; rfl, rfl⟩, by rw [HBx.out]; exact hb4.out⟩
        by_cases h2 : size ≤ bn
        · have hres := Lib.hid (Hgo2.out.trans (newGo_bad (Or.inr (Or.inl h2))))
          go_wp2_with fail
          go_ret2
          exact ⟨_, by rw [hres.out]; rfl, Or.inr ⟨by rw [hres.out]; rfl, rfl⟩, by rw [HBx.out]; exact hb4.out⟩
        cases tw
        · by_cases h5 : bl.length = 512
          · have hnb : ¬ (bn < 0 ∨ size ≤ bn ∨ (F bn).isSome = true) := fun h => h.elim h1 (fun h => h.elim h2 (fun h => by rw [Htw.out] at h; cases h))
            have hres := Lib.hid (Hgo2.out.trans (newGo_put hnb h5))
            have hbr := hbo.out.r
            simp only at hbr
            obtain ⟨xb, xo, rfl, -⟩ := hbr 0 (by omega)
            have hxl : xb < w.heap.size := block_lt_of_cell (show w.cell? ⟨xb, xo + 0, none⟩ = _ from by obtain ⟨y, z, e, hc⟩ := hbr 0 (by omega); cases e; exact hc)
            have hld : Hid (w4.drew.rangeAt xb xo (bl.map bv)) := Lib.hid (blkV_load h5 (fun q hq => by
              obtain ⟨y, z, e, hc⟩ := hbr q hq
              cases e
              exact (hb4.out.cell (p := ⟨xb, xo + q, none⟩) (by rw [← HBx.out]; exact hxl)).trans hc))
            rw [h5] at d1
            have hat : ∀ w, (Instr.arrayAt 113 (.slice (some ⟨xb, xo, none⟩) 512 bc)).run Try.prog w = .ok (.pointer (some ⟨xb, xo, none⟩)) w := fun w => run_arrayAt w 113 _ 512 _ 512 bc Try.underlying113 (Nat.le_refl _)
            have hnm : Hid (j < maxLen) := Lib.hid (by unfold maxLen; omega)
            have H5 := Lib.hid h5
            clear h5 hbr hxl hnb
            go_wp2_with fail
            go_still_tail 10, (by kernel_rfl)
            refine wpStill_load_mid rfl _ _ rfl xb xo rfl (bl.map bv) _ hld.out Try.underlying113 rfl (by rw [List.length_map, H5.out]; exact infoB) ?_
            refine wpStill_nil ?_
            go_wp2_with (refine wpList_put_blk rfl _ _ _ rfl B j F rfl (BMap.drn hM4.out ⟨1, rfl⟩) hnm.out bn bl rfl rfl hk H5.out ?_)
            intro w5 hm5 hg5
            have hg5' := (grown_drn (Drn.drew (Drn.refl w4)) (some B)).trans hg5
            have HP5 := Lib.hid (HP4.out.grown hg5' (fun e => by have := Option.some.inj e; omega))
            have hb5 := Lib.hid (hb4.out.grown hg5' (by omega) (by intro k hk'; have := Option.some.inj hk'; omega))
            have HM5 := Lib.hid hm5
            have hres2 : Hid (newGo size (fun _ => none) (L.map Bk.p) = newGo size (put F bn bl) ((L.drop (j + 1)).map Bk.p)) := hres
            have hF5 : Hid (∀ k l, put F bn bl k = some l → l.length = 512) := Lib.hid fun k l h => by
              unfold put at h
              split at h
              · cases h; exact H5.out
              · exact HF.out k l h
            clear hm5 hg5 hg5' d0 d1 p1
            go_wp2_with fail
            go_roundw
            case rel => exact ⟨j + 1, put F bn bl, by have := Hl.out; omega, by go_num, hres2.out, HP5.out, HM5.out, hb5.out, hF5.out⟩
            case measure => simp [intOf]; omega
          · have hnb : ¬ (bn < 0 ∨ size ≤ bn ∨ (F bn).isSome = true) := fun h => h.elim h1 (fun h => h.elim h2 (fun h => by rw [Htw.out] at h; cases h))
            have hres := Lib.hid (Hgo2.out.trans (newGo_size hnb h5))
            have t1 : ((bl.length : Int) == 512) = false := by rw [beq_eq_false_iff_ne]; omega
            have t2 : ((bl.length : Int) != 512) = true := by rw [bne, t1]; rfl
            clear h5 hnb
            go_wp2_with fail
            go_ret2
            exact ⟨_, by rw [hres.out]; rfl, Or.inr ⟨by rw [hres.out]; rfl, rfl⟩, by rw [HBx.out]; exact hb4.out⟩
        · have hres := Lib.hid (Hgo2.out.trans (newGo_bad (Or.inr (Or.inr Htw.out))))
          go_wp2_with fail
          go_ret2
          exact ⟨_, by rw [hres.out]; rfl, Or.inr ⟨by rw [hres.out]; rfl, rfl⟩, by rw [HBx.out]; exact hb4.out⟩
    · obtain rfl : j = n := by have := Hl.out; omega
      have hres := Lib.hid Hgo.out
      rw [List.drop_eq_nil_of_le (by rw [Hl.out]; exact Nat.le_refl _)] at hres
      have hres2 : Hid (newGo size (fun _ => none) (L.map Bk.p) = (some F, 0)) := hres
      have HPh := Lib.hid hP
      have hbh := Lib.hid hb
      clear hP hb hres
      go_wp2_with fail
      go_ret2
      refine ⟨_, by rw [hres2.out]; rfl, Or.inl ⟨⟨size, false, 0, false, 0, F⟩, B + 1, B, by rw [hres2.out]; rfl, rfl, ⟨HPh.out, HM.out, by omega⟩, by rw [HBx.out]; omega, by rw [HBx.out]; exact Nat.le_refl _⟩, by rw [HBx.out]; exact hbh.out⟩
end Go.Proofs.Ytnmeidmiijcniaa
