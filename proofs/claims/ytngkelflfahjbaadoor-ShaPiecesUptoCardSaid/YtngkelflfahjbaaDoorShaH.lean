/- The document's Sum256, Sum384, Sum512. No condition. -/
import Derived.Test.YtngkelflfahjbaaDoorShaG
import Derived.Test.YtngkelflfahjbaaDoorShaO
set_option linter.unusedVariables false
set_option linter.unusedSimpArgs false
namespace Go.Proofs.YtngkelflfahjbaaDoor
open Go.RowKit
attribute [local go_sem ↓] Go.wp_at_zero Go.wp_at_succ
theorem Own.rd2 {w : World} {B : Nat} {v : Value} {l : List UInt8} (h : Own 5 w B v l) : ∃ ao cap, v = .slice ao l.length cap ∧ l.length ≤ cap ∧ cap ≤ 9223372036854775807 ∧ Rd w ao l ∧ (ao = none → cap = 0) ∧ (∀ a, ao = some a → B ≤ a.block ∧ a.block < w.heap.size) := by
  have hb := fun k (hk : v.ownBlock = some k) => own_blk h hk
  obtain ⟨ao, cap, rfl, h1, h2, h3⟩ := h.rd
  refine ⟨ao, cap, rfl, h1, by simpa [maxLen] using h2, h3, ?_, fun a e => by subst e; exact hb _ rfl⟩
  rintro rfl
  rcases h.cases with ⟨e, -⟩ | ⟨g, c, e, -⟩
  · exact (Value.slice.inj e).2.2
  · cases (Value.slice.inj e).1
/-- so many noughts -/
def zbL (n : Nat) : List Value := List.replicate n (bv 0)
theorem zbL_len (n : Nat) : (zbL n).length = n := by unfold zbL; simp
theorem digS_own {w : World} {B g n C : Nat} {l : List UInt8} (h : Own 5 w B (.slice (some ⟨g, 0, none⟩) n C) l) : ∀ j u, (l.map bv)[j]? = some u → w.cell? ((⟨g, 0, none⟩ : Addr).add j) = some u := by
  obtain ⟨ao, cap, e, -, -, h3⟩ := h.rd
  cases e
  exact h3.news
set_option maxRecDepth 100000 in
set_option maxHeartbeats 1000000 in
theorem rsum32 (ao : Option Addr) (n cap : Nat) (l : List UInt8) (w : World) (hl : l.length = n) (hnc : n ≤ cap) (hn : n ≤ 140737488352000) (hc0 : ao = none → cap = 0) (hr : Rd w ao l) :
    Calls Tryd.prog 15 #[.slice ao n cap] w fun e w' => e = .returned (.agg ((digS 1 (firstK 1) n l).map bv).toArray) ∧ Below w.heap.size w w' := by
  have hz : ∀ w, (zeroValue 25).run Tryd.prog w = .ok (.agg (zbL 32).toArray) w := fun w => by kernel_rfl
  have HR0 := Lib.hid (HB.new w (zbL 32) 25)
  have HB0 := Lib.hid ((Below.refl w.heap.size w).alloc (Nat.le_refl _) (.cells (zbL 32).toArray 25))
  have hsz0 : (w.alloc (.cells (zbL 32).toArray 25)).heap.size = w.heap.size + 1 := by simp
  have HO0 := Lib.hid (HB.new (w.alloc (.cells (zbL 32).toArray 25)) (zbL 32) 25)
  rw [hsz0] at HO0
  have HR1 := Lib.hid (HR0.out.alloc (.cells (zbL 32).toArray 25))
  have HB1 := Lib.hid (HB0.out.alloc HB0.out.size (.cells (zbL 32).toArray 25))
  have hdl := digS_len 1 (by decide) (firstK 1) n l
  have hDk : digK 1 = 32 := rfl
  rw [hDk] at hdl
  have Hdl := Lib.hid hdl
  have Hl := Lib.hid hl
  have Hnc := Lib.hid hnc
  have Hn := Lib.hid hn
  have Hc0 := Lib.hid hc0
  have Hr1 := Lib.hid (hr.below HB1.out)
  clear hl hnc hn hc0 hr hdl hDk hsz0 HR0 HB0
  go_enter Tryd.func15, Tryd.ntmps15
  go_upto_region 2 with fail
  as_aux_lemma =>
  generalize (w.alloc (.cells (zbL 32).toArray 25)).alloc (.cells (zbL 32).toArray 25) = w1 at *
  obtain ⟨S, hS⟩ : ∃ S, w.heap.size = S := ⟨_, rfl⟩
  rw [hS] at HR1 HO0 HB1 ⊢
  have HSx := Lib.hid hS
  have Hsz1 : Hid (S + 1 < w1.heap.size) := Lib.hid HO0.out.lt
  have Hnew := Lib.hid (rnew_any 1 w1 (by decide))
  rw [show ((8 * digK 1 : Nat) : Int) = 256 from rfl] at Hnew
  clear hz hS
  go_wp2_with fail
  refine Hnew.out.mono ?_
  rintro e w2 ⟨H, rfl, hH, hHs, hb2⟩
  have HH2 := Lib.hid hH
  have HHs := Lib.hid hHs
  have Hb2 := Lib.hid hb2
  have HR2 := Lib.hid (HR1.out.later hb2)
  have HO2 := Lib.hid (HO0.out.later hb2)
  have HB2 := Lib.hid (HB1.out.trans (hb2.mono (by have := Hsz1.out; omega)))
  have Hr2 := Lib.hid (Hr1.out.below hb2)
  have Hsz2 : Hid (w1.heap.size ≤ w2.heap.size) := Lib.hid hb2.size
  clear hH hHs hb2 Hnew HR1 HO0 HB1 Hr1
  go_wp2_with fail
  as_aux_lemma =>
  refine (rwrite_any H 1 (firstK 1) 0 w2.heap.size none 0 0 [] ao n cap l w2 HH2.out rfl (Own.nil _ _ _) (Nat.le_refl _) (fun a e => by cases e) (by decide) (by have := Hn.out; omega) Hl.out Hr2.out Hc0.out (by have := Hn.out; omega)).mono ?_
  rintro e w3 ⟨v, rfl, hH3, ho3, hf3, -⟩
  obtain ⟨ra, rc, rfl, hr1, hr2, hr3, hr4, -⟩ := ho3.rd2
  rw [List.nil_append, Hl.out] at hH3 hr1
  rw [List.nil_append] at hr3
  have hb3 : Below (w1.heap.size) w2 w3 := hf3.below Hsz2.out (fun q hq => by
    rcases hq with h | h
    · have := HHs.out; omega
    · cases h)
  have HR3 := Lib.hid (HR2.out.below hb3 (by have := Hsz1.out; omega))
  have HO3 := Lib.hid (HO2.out.below hb3 (by have := Hsz1.out; omega))
  have HB3 := Lib.hid (HB2.out.trans (hb3.mono (by have := Hsz1.out; omega)))
  have Hsz3 : Hid (S + 1 < w3.heap.size) := Lib.hid HO3.out.lt
  have Hsu := Lib.hid (fun w' (h : Drn w3 w') => rsum_any H 1 (firstK 1) 0 ra n rc l w' (by decide) (hH3.drn h) (firstK_lt 1 (by decide)) (by have := Hn.out; omega) Hl.out Hn.out hr4 (h.rd hr3))
  rw [show digK 1 = 32 from rfl, Nat.zero_add] at Hsu
  obtain ⟨dg, hdg⟩ : ∃ dg, digS 1 (firstK 1) n l = dg := ⟨_, rfl⟩
  rw [hdg] at Hdl Hsu
  have Hdg := Lib.hid hdg
  clear hdg
  clear hH3 ho3 hf3 hr1 hr2 hr3 hr4 hb3 HH2 HHs Hb2 HR2 HO2 HB2 Hr2
  go_upto_region 4 with fail
  as_aux_lemma =>
  have hd3 : Drn w3 w3.drew := ⟨1, rfl⟩
  refine wp_region_held_drew (S := fun w' => True) (by kernel_rfl) trivial (fun hHeld => ?_)
  refine wpAnyH_take (i := 0) (v := ?_) (by simp only [List.getElem?_toArray, List.getElem?_cons_succ, List.getElem?_cons_zero]; rfl) (by kernel_rfl) (by kernel_rfl) (by kernel_rfl) (by intro _ _ _ h_; exact h_) (Or.inl ⟨by rfl, ?_⟩) (by assumption) ?_
  rotate_left 1
  focus (intro w_ hSw_; go_simp; try with_reducible rfl)
  simp only [Act.put, List.setIfInBounds_toArray, List.set_cons_zero, List.set_cons_succ]
  refine wpAnyH_take (i := 1) (v := ?_) (by simp only [List.getElem?_toArray, List.getElem?_cons_succ, List.getElem?_cons_zero]; rfl) (by kernel_rfl) (by kernel_rfl) (by kernel_rfl) (by intro _ _ _ h_; exact h_) (Or.inl ⟨by rfl, ?_⟩) (by assumption) ?_
  rotate_left 1
  focus (intro w_ hSw_; go_simp; try with_reducible rfl)
  simp only [Act.put, List.setIfInBounds_toArray, List.set_cons_zero, List.set_cons_succ]
  refine wpAnyH_ready (rs := [2]) (by kernel_rfl) (by simp) ?_
  refine AllReadyH.cons (by simp only [List.getElem?_toArray, List.getElem?_cons_succ, List.getElem?_cons_zero]; rfl) (fun K hK => ?_) AllReadyH.nil
  go_simp
  refine (Hsu.out _ hd3).mono ?_
  rintro e w5 ⟨g, C, rfl, ho5, hb5⟩
  have HR5 := Lib.hid ((HR3.out.drn hd3).later hb5)
  have HO5 := Lib.hid ((HO3.out.drn hd3).later hb5)
  have HB5 : Hid (Below S w w5) := Lib.hid (HB3.out.trans ((hd3.below S).trans (hb5.mono (by have := Hsz3.out; show S ≤ w3.heap.size; omega))))
  have Hsrc := Lib.hid (digS_own ho5)
  clear ho5 hb5 hd3 Hsu HR3 HO3 HB3
  go_wp2_with fail
  refine hK.out _ _ trivial (fun hHeld => ?_)
  clear hK K hHeld
  try simp only [Act.put, List.setIfInBounds_toArray, List.set_cons_zero, List.set_cons_succ]
  have hHeld : True := trivial
  refine wpAnyH_ready (rs := [3]) (by kernel_rfl) (by simp) ?_
  refine AllReadyH.cons (by simp only [List.getElem?_toArray, List.getElem?_cons_succ, List.getElem?_cons_zero]; rfl) (fun K hK => ?_) AllReadyH.nil
  refine step_of_wp rfl (wp_copy_row (.tmp 13) (.tmp 15) 22 22 rfl 5 Tryd.underlying22 (by kernel_rfl) (S + 1) 0 32 32 ⟨g, 0, none⟩ 32 C rfl rfl (zbL 32) 25 HO5.out (dg.map bv) (by rw [List.length_map, Hdl.out]; rfl) Hsrc.out (by rw [List.length_map, Hdl.out, zbL_len]; exact Nat.le_refl _) (bv_one _) (dg.map bv) (by rw [List.take_zero, List.nil_append, List.drop_of_length_le (by rw [List.length_map, Hdl.out, zbL_len]; exact Nat.le_refl _), List.append_nil]) ?_)
  refine hK.out _ _ trivial (fun hHeld => ?_)
  clear hK K hHeld
  try simp only [Act.put, List.setIfInBounds_toArray, List.set_cons_zero, List.set_cons_succ]
  refine wpAnyH_done (by kernel_rfl) ?_ _
  have HO6 : Hid (HB (w5.setRow (S + 1) (dg.map bv).toArray) (S + 1) 25 (dg.map bv)) := Lib.hid (setRow_heap _ _ _ _ _ _ HO5.out)
  have Hg6 := Lib.hid (grown_row w5 (S + 1) (dg.map bv).toArray)
  have HR6 := Lib.hid (HR5.out.grown Hg6.out (fun e => by have := Option.some.inj e; omega))
  have HB6 := Lib.hid (HB5.out.grown Hg6.out (by have := HO5.out.lt; omega) (fun x hx => by have := Option.some.inj hx; omega))
  clear HR5 HO5 HB5 Hg6 Hsrc
  generalize w5.setRow (S + 1) (dg.map bv).toArray = w6 at *
  have Hrg := Lib.hid HO6.out.whole
  have Hi : Hid ((Tryd.prog.info? 25).map (·.size) = some (dg.map bv).length) := Lib.hid (by rw [List.length_map, Hdl.out]; kernel_rfl)
  have Hi' : Hid ((Tryd.prog.info? 25).map (·.size) = some (dg.map bv).toArray.size) := Lib.hid Hi.out
  have Hsz : Hid ((zbL 32).toArray.size = (dg.map bv).toArray.size) := Lib.hid (by rw [List.size_toArray, List.size_toArray, zbL_len, List.length_map, Hdl.out])
  have Hone : Hid ((dg.map bv).toArray.all (·.oneCell') = true) := Lib.hid (by simp [bv, Value.oneCell'])
  have HBg := Lib.hid (HB6.out.grown (grown_row w6 S (dg.map bv).toArray) (by have := HR6.out.lt; omega) (fun x hx => Nat.le_of_eq (Option.some.inj hx)))
  have HW9 : HB (w6.setRow S (dg.map bv).toArray) S 25 (dg.map bv) := setRow_heap _ _ _ _ _ _ HR6.out
  have Hrg9 := Lib.hid HW9.whole
  clear HW9
  go_wp2_with (first
    | refine wpList_load_mid rfl _ _ rfl (S + 1) 0 rfl (dg.map bv) _ Hrg.out Tryd.underlying25 rfl Hi.out ?_
    | refine wpList_store_row rfl _ _ _ rfl S (dg.map bv).toArray rfl rfl _ _ HR6.out Hi'.out Hsz.out Hone.out ?_)
  have hv : (loadVar 25 ⟨S, 0, none⟩).run Tryd.prog (w6.setRow S (dg.map bv).toArray) = .ok (.agg (dg.map bv).toArray) (w6.setRow S (dg.map bv).toArray) := run_loadVar_mid (P := Tryd.prog) _ S 0 25 (dg.map bv) _ Hrg9.out Tryd.underlying25 rfl Hi.out
  exact bodyPost_ret (v := .agg (dg.map bv).toArray) (by simp [results, Tryd.results15, asAddr, hv, Result.andThen, Act.put]; try rfl) rfl ⟨by rw [Hdg.out], by rw [HSx.out]; exact HBg.out⟩
set_option maxRecDepth 100000 in
set_option maxHeartbeats 1000000 in
theorem rsum48 (ao : Option Addr) (n cap : Nat) (l : List UInt8) (w : World) (hl : l.length = n) (hnc : n ≤ cap) (hn : n ≤ 140737488352000) (hc0 : ao = none → cap = 0) (hr : Rd w ao l) :
    Calls Tryd.prog 16 #[.slice ao n cap] w fun e w' => e = .returned (.agg ((digS 2 (firstK 2) n l).map bv).toArray) ∧ Below w.heap.size w w' := by
  have hz : ∀ w, (zeroValue 27).run Tryd.prog w = .ok (.agg (zbL 48).toArray) w := fun w => by kernel_rfl
  have HR0 := Lib.hid (HB.new w (zbL 48) 27)
  have HB0 := Lib.hid ((Below.refl w.heap.size w).alloc (Nat.le_refl _) (.cells (zbL 48).toArray 27))
  have hsz0 : (w.alloc (.cells (zbL 48).toArray 27)).heap.size = w.heap.size + 1 := by simp
  have HO0 := Lib.hid (HB.new (w.alloc (.cells (zbL 48).toArray 27)) (zbL 48) 27)
  rw [hsz0] at HO0
  have HR1 := Lib.hid (HR0.out.alloc (.cells (zbL 48).toArray 27))
  have HB1 := Lib.hid (HB0.out.alloc HB0.out.size (.cells (zbL 48).toArray 27))
  have hdl := digS_len 2 (by decide) (firstK 2) n l
  have hDk : digK 2 = 48 := rfl
  rw [hDk] at hdl
  have Hdl := Lib.hid hdl
  have Hl := Lib.hid hl
  have Hnc := Lib.hid hnc
  have Hn := Lib.hid hn
  have Hc0 := Lib.hid hc0
  have Hr1 := Lib.hid (hr.below HB1.out)
  clear hl hnc hn hc0 hr hdl hDk hsz0 HR0 HB0
  go_enter Tryd.func16, Tryd.ntmps16
  go_upto_region 2 with fail
  as_aux_lemma =>
  generalize (w.alloc (.cells (zbL 48).toArray 27)).alloc (.cells (zbL 48).toArray 27) = w1 at *
  obtain ⟨S, hS⟩ : ∃ S, w.heap.size = S := ⟨_, rfl⟩
  rw [hS] at HR1 HO0 HB1 ⊢
  have HSx := Lib.hid hS
  have Hsz1 : Hid (S + 1 < w1.heap.size) := Lib.hid HO0.out.lt
  have Hnew := Lib.hid (rnew_any 2 w1 (by decide))
  rw [show ((8 * digK 2 : Nat) : Int) = 384 from rfl] at Hnew
  clear hz hS
  go_wp2_with fail
  refine Hnew.out.mono ?_
  rintro e w2 ⟨H, rfl, hH, hHs, hb2⟩
  have HH2 := Lib.hid hH
  have HHs := Lib.hid hHs
  have Hb2 := Lib.hid hb2
  have HR2 := Lib.hid (HR1.out.later hb2)
  have HO2 := Lib.hid (HO0.out.later hb2)
  have HB2 := Lib.hid (HB1.out.trans (hb2.mono (by have := Hsz1.out; omega)))
  have Hr2 := Lib.hid (Hr1.out.below hb2)
  have Hsz2 : Hid (w1.heap.size ≤ w2.heap.size) := Lib.hid hb2.size
  clear hH hHs hb2 Hnew HR1 HO0 HB1 Hr1
  go_wp2_with fail
  as_aux_lemma =>
  refine (rwrite_any H 2 (firstK 2) 0 w2.heap.size none 0 0 [] ao n cap l w2 HH2.out rfl (Own.nil _ _ _) (Nat.le_refl _) (fun a e => by cases e) (by decide) (by have := Hn.out; omega) Hl.out Hr2.out Hc0.out (by have := Hn.out; omega)).mono ?_
  rintro e w3 ⟨v, rfl, hH3, ho3, hf3, -⟩
  obtain ⟨ra, rc, rfl, hr1, hr2, hr3, hr4, -⟩ := ho3.rd2
  rw [List.nil_append, Hl.out] at hH3 hr1
  rw [List.nil_append] at hr3
  have hb3 : Below (w1.heap.size) w2 w3 := hf3.below Hsz2.out (fun q hq => by
    rcases hq with h | h
    · have := HHs.out; omega
    · cases h)
  have HR3 := Lib.hid (HR2.out.below hb3 (by have := Hsz1.out; omega))
  have HO3 := Lib.hid (HO2.out.below hb3 (by have := Hsz1.out; omega))
  have HB3 := Lib.hid (HB2.out.trans (hb3.mono (by have := Hsz1.out; omega)))
  have Hsz3 : Hid (S + 1 < w3.heap.size) := Lib.hid HO3.out.lt
  have Hsu := Lib.hid (fun w' (h : Drn w3 w') => rsum_any H 2 (firstK 2) 0 ra n rc l w' (by decide) (hH3.drn h) (firstK_lt 2 (by decide)) (by have := Hn.out; omega) Hl.out Hn.out hr4 (h.rd hr3))
  rw [show digK 2 = 48 from rfl, Nat.zero_add] at Hsu
  obtain ⟨dg, hdg⟩ : ∃ dg, digS 2 (firstK 2) n l = dg := ⟨_, rfl⟩
  rw [hdg] at Hdl Hsu
  have Hdg := Lib.hid hdg
  clear hdg
  clear hH3 ho3 hf3 hr1 hr2 hr3 hr4 hb3 HH2 HHs Hb2 HR2 HO2 HB2 Hr2
  go_upto_region 4 with fail
  as_aux_lemma =>
  have hd3 : Drn w3 w3.drew := ⟨1, rfl⟩
  refine wp_region_held_drew (S := fun w' => True) (by kernel_rfl) trivial (fun hHeld => ?_)
  refine wpAnyH_take (i := 0) (v := ?_) (by simp only [List.getElem?_toArray, List.getElem?_cons_succ, List.getElem?_cons_zero]; rfl) (by kernel_rfl) (by kernel_rfl) (by kernel_rfl) (by intro _ _ _ h_; exact h_) (Or.inl ⟨by rfl, ?_⟩) (by assumption) ?_
  rotate_left 1
  focus (intro w_ hSw_; go_simp; try with_reducible rfl)
  simp only [Act.put, List.setIfInBounds_toArray, List.set_cons_zero, List.set_cons_succ]
  refine wpAnyH_take (i := 1) (v := ?_) (by simp only [List.getElem?_toArray, List.getElem?_cons_succ, List.getElem?_cons_zero]; rfl) (by kernel_rfl) (by kernel_rfl) (by kernel_rfl) (by intro _ _ _ h_; exact h_) (Or.inl ⟨by rfl, ?_⟩) (by assumption) ?_
  rotate_left 1
  focus (intro w_ hSw_; go_simp; try with_reducible rfl)
  simp only [Act.put, List.setIfInBounds_toArray, List.set_cons_zero, List.set_cons_succ]
  refine wpAnyH_ready (rs := [2]) (by kernel_rfl) (by simp) ?_
  refine AllReadyH.cons (by simp only [List.getElem?_toArray, List.getElem?_cons_succ, List.getElem?_cons_zero]; rfl) (fun K hK => ?_) AllReadyH.nil
  go_simp
  refine (Hsu.out _ hd3).mono ?_
  rintro e w5 ⟨g, C, rfl, ho5, hb5⟩
  have HR5 := Lib.hid ((HR3.out.drn hd3).later hb5)
  have HO5 := Lib.hid ((HO3.out.drn hd3).later hb5)
  have HB5 : Hid (Below S w w5) := Lib.hid (HB3.out.trans ((hd3.below S).trans (hb5.mono (by have := Hsz3.out; show S ≤ w3.heap.size; omega))))
  have Hsrc := Lib.hid (digS_own ho5)
  clear ho5 hb5 hd3 Hsu HR3 HO3 HB3
  go_wp2_with fail
  refine hK.out _ _ trivial (fun hHeld => ?_)
  clear hK K hHeld
  try simp only [Act.put, List.setIfInBounds_toArray, List.set_cons_zero, List.set_cons_succ]
  have hHeld : True := trivial
  refine wpAnyH_ready (rs := [3]) (by kernel_rfl) (by simp) ?_
  refine AllReadyH.cons (by simp only [List.getElem?_toArray, List.getElem?_cons_succ, List.getElem?_cons_zero]; rfl) (fun K hK => ?_) AllReadyH.nil
  refine step_of_wp rfl (wp_copy_row (.tmp 13) (.tmp 15) 22 22 rfl 5 Tryd.underlying22 (by kernel_rfl) (S + 1) 0 48 48 ⟨g, 0, none⟩ 48 C rfl rfl (zbL 48) 27 HO5.out (dg.map bv) (by rw [List.length_map, Hdl.out]; rfl) Hsrc.out (by rw [List.length_map, Hdl.out, zbL_len]; exact Nat.le_refl _) (bv_one _) (dg.map bv) (by rw [List.take_zero, List.nil_append, List.drop_of_length_le (by rw [List.length_map, Hdl.out, zbL_len]; exact Nat.le_refl _), List.append_nil]) ?_)
  refine hK.out _ _ trivial (fun hHeld => ?_)
  clear hK K hHeld
  try simp only [Act.put, List.setIfInBounds_toArray, List.set_cons_zero, List.set_cons_succ]
  refine wpAnyH_done (by kernel_rfl) ?_ _
  have HO6 : Hid (HB (w5.setRow (S + 1) (dg.map bv).toArray) (S + 1) 27 (dg.map bv)) := Lib.hid (setRow_heap _ _ _ _ _ _ HO5.out)
  have Hg6 := Lib.hid (grown_row w5 (S + 1) (dg.map bv).toArray)
  have HR6 := Lib.hid (HR5.out.grown Hg6.out (fun e => by have := Option.some.inj e; omega))
  have HB6 := Lib.hid (HB5.out.grown Hg6.out (by have := HO5.out.lt; omega) (fun x hx => by have := Option.some.inj hx; omega))
  clear HR5 HO5 HB5 Hg6 Hsrc
  generalize w5.setRow (S + 1) (dg.map bv).toArray = w6 at *
  have Hrg := Lib.hid HO6.out.whole
  have Hi : Hid ((Tryd.prog.info? 27).map (·.size) = some (dg.map bv).length) := Lib.hid (by rw [List.length_map, Hdl.out]; kernel_rfl)
  have Hi' : Hid ((Tryd.prog.info? 27).map (·.size) = some (dg.map bv).toArray.size) := Lib.hid Hi.out
  have Hsz : Hid ((zbL 48).toArray.size = (dg.map bv).toArray.size) := Lib.hid (by rw [List.size_toArray, List.size_toArray, zbL_len, List.length_map, Hdl.out])
  have Hone : Hid ((dg.map bv).toArray.all (·.oneCell') = true) := Lib.hid (by simp [bv, Value.oneCell'])
  have HBg := Lib.hid (HB6.out.grown (grown_row w6 S (dg.map bv).toArray) (by have := HR6.out.lt; omega) (fun x hx => Nat.le_of_eq (Option.some.inj hx)))
  have HW9 : HB (w6.setRow S (dg.map bv).toArray) S 27 (dg.map bv) := setRow_heap _ _ _ _ _ _ HR6.out
  have Hrg9 := Lib.hid HW9.whole
  clear HW9
  go_wp2_with (first
    | refine wpList_load_mid rfl _ _ rfl (S + 1) 0 rfl (dg.map bv) _ Hrg.out Tryd.underlying27 rfl Hi.out ?_
    | refine wpList_store_row rfl _ _ _ rfl S (dg.map bv).toArray rfl rfl _ _ HR6.out Hi'.out Hsz.out Hone.out ?_)
  have hv : (loadVar 27 ⟨S, 0, none⟩).run Tryd.prog (w6.setRow S (dg.map bv).toArray) = .ok (.agg (dg.map bv).toArray) (w6.setRow S (dg.map bv).toArray) := run_loadVar_mid (P := Tryd.prog) _ S 0 27 (dg.map bv) _ Hrg9.out Tryd.underlying27 rfl Hi.out
  exact bodyPost_ret (v := .agg (dg.map bv).toArray) (by simp [results, Tryd.results16, asAddr, hv, Result.andThen, Act.put]; try rfl) rfl ⟨by rw [Hdg.out], by rw [HSx.out]; exact HBg.out⟩
set_option maxRecDepth 100000 in
set_option maxHeartbeats 1000000 in
theorem rsum64 (ao : Option Addr) (n cap : Nat) (l : List UInt8) (w : World) (hl : l.length = n) (hnc : n ≤ cap) (hn : n ≤ 140737488352000) (hc0 : ao = none → cap = 0) (hr : Rd w ao l) :
    Calls Tryd.prog 17 #[.slice ao n cap] w fun e w' => e = .returned (.agg ((digS 3 (firstK 3) n l).map bv).toArray) ∧ Below w.heap.size w w' := by
  have hz : ∀ w, (zeroValue 29).run Tryd.prog w = .ok (.agg (zbL 64).toArray) w := fun w => by kernel_rfl
  have HR0 := Lib.hid (HB.new w (zbL 64) 29)
  have HB0 := Lib.hid ((Below.refl w.heap.size w).alloc (Nat.le_refl _) (.cells (zbL 64).toArray 29))
  have hsz0 : (w.alloc (.cells (zbL 64).toArray 29)).heap.size = w.heap.size + 1 := by simp
  have HO0 := Lib.hid (HB.new (w.alloc (.cells (zbL 64).toArray 29)) (zbL 64) 29)
  rw [hsz0] at HO0
  have HR1 := Lib.hid (HR0.out.alloc (.cells (zbL 64).toArray 29))
  have HB1 := Lib.hid (HB0.out.alloc HB0.out.size (.cells (zbL 64).toArray 29))
  have hdl := digS_len 3 (by decide) (firstK 3) n l
  have hDk : digK 3 = 64 := rfl
  rw [hDk] at hdl
  have Hdl := Lib.hid hdl
  have Hl := Lib.hid hl
  have Hnc := Lib.hid hnc
  have Hn := Lib.hid hn
  have Hc0 := Lib.hid hc0
  have Hr1 := Lib.hid (hr.below HB1.out)
  clear hl hnc hn hc0 hr hdl hDk hsz0 HR0 HB0
  go_enter Tryd.func17, Tryd.ntmps17
  go_upto_region 2 with fail
  as_aux_lemma =>
  generalize (w.alloc (.cells (zbL 64).toArray 29)).alloc (.cells (zbL 64).toArray 29) = w1 at *
  obtain ⟨S, hS⟩ : ∃ S, w.heap.size = S := ⟨_, rfl⟩
  rw [hS] at HR1 HO0 HB1 ⊢
  have HSx := Lib.hid hS
  have Hsz1 : Hid (S + 1 < w1.heap.size) := Lib.hid HO0.out.lt
  have Hnew := Lib.hid (rnew_any 3 w1 (by decide))
  rw [show ((8 * digK 3 : Nat) : Int) = 512 from rfl] at Hnew
  clear hz hS
  go_wp2_with fail
  refine Hnew.out.mono ?_
  rintro e w2 ⟨H, rfl, hH, hHs, hb2⟩
  have HH2 := Lib.hid hH
  have HHs := Lib.hid hHs
  have Hb2 := Lib.hid hb2
  have HR2 := Lib.hid (HR1.out.later hb2)
  have HO2 := Lib.hid (HO0.out.later hb2)
  have HB2 := Lib.hid (HB1.out.trans (hb2.mono (by have := Hsz1.out; omega)))
  have Hr2 := Lib.hid (Hr1.out.below hb2)
  have Hsz2 : Hid (w1.heap.size ≤ w2.heap.size) := Lib.hid hb2.size
  clear hH hHs hb2 Hnew HR1 HO0 HB1 Hr1
  go_wp2_with fail
  as_aux_lemma =>
  refine (rwrite_any H 3 (firstK 3) 0 w2.heap.size none 0 0 [] ao n cap l w2 HH2.out rfl (Own.nil _ _ _) (Nat.le_refl _) (fun a e => by cases e) (by decide) (by have := Hn.out; omega) Hl.out Hr2.out Hc0.out (by have := Hn.out; omega)).mono ?_
  rintro e w3 ⟨v, rfl, hH3, ho3, hf3, -⟩
  obtain ⟨ra, rc, rfl, hr1, hr2, hr3, hr4, -⟩ := ho3.rd2
  rw [List.nil_append, Hl.out] at hH3 hr1
  rw [List.nil_append] at hr3
  have hb3 : Below (w1.heap.size) w2 w3 := hf3.below Hsz2.out (fun q hq => by
    rcases hq with h | h
    · have := HHs.out; omega
    · cases h)
  have HR3 := Lib.hid (HR2.out.below hb3 (by have := Hsz1.out; omega))
  have HO3 := Lib.hid (HO2.out.below hb3 (by have := Hsz1.out; omega))
  have HB3 := Lib.hid (HB2.out.trans (hb3.mono (by have := Hsz1.out; omega)))
  have Hsz3 : Hid (S + 1 < w3.heap.size) := Lib.hid HO3.out.lt
  have Hsu := Lib.hid (fun w' (h : Drn w3 w') => rsum_any H 3 (firstK 3) 0 ra n rc l w' (by decide) (hH3.drn h) (firstK_lt 3 (by decide)) (by have := Hn.out; omega) Hl.out Hn.out hr4 (h.rd hr3))
  rw [show digK 3 = 64 from rfl, Nat.zero_add] at Hsu
  obtain ⟨dg, hdg⟩ : ∃ dg, digS 3 (firstK 3) n l = dg := ⟨_, rfl⟩
  rw [hdg] at Hdl Hsu
  have Hdg := Lib.hid hdg
  clear hdg
  clear hH3 ho3 hf3 hr1 hr2 hr3 hr4 hb3 HH2 HHs Hb2 HR2 HO2 HB2 Hr2
  go_upto_region 4 with fail
  as_aux_lemma =>
  have hd3 : Drn w3 w3.drew := ⟨1, rfl⟩
  refine wp_region_held_drew (S := fun w' => True) (by kernel_rfl) trivial (fun hHeld => ?_)
  refine wpAnyH_take (i := 0) (v := ?_) (by simp only [List.getElem?_toArray, List.getElem?_cons_succ, List.getElem?_cons_zero]; rfl) (by kernel_rfl) (by kernel_rfl) (by kernel_rfl) (by intro _ _ _ h_; exact h_) (Or.inl ⟨by rfl, ?_⟩) (by assumption) ?_
  rotate_left 1
  focus (intro w_ hSw_; go_simp; try with_reducible rfl)
  simp only [Act.put, List.setIfInBounds_toArray, List.set_cons_zero, List.set_cons_succ]
  refine wpAnyH_take (i := 1) (v := ?_) (by simp only [List.getElem?_toArray, List.getElem?_cons_succ, List.getElem?_cons_zero]; rfl) (by kernel_rfl) (by kernel_rfl) (by kernel_rfl) (by intro _ _ _ h_; exact h_) (Or.inl ⟨by rfl, ?_⟩) (by assumption) ?_
  rotate_left 1
  focus (intro w_ hSw_; go_simp; try with_reducible rfl)
  simp only [Act.put, List.setIfInBounds_toArray, List.set_cons_zero, List.set_cons_succ]
  refine wpAnyH_ready (rs := [2]) (by kernel_rfl) (by simp) ?_
  refine AllReadyH.cons (by simp only [List.getElem?_toArray, List.getElem?_cons_succ, List.getElem?_cons_zero]; rfl) (fun K hK => ?_) AllReadyH.nil
  go_simp
  refine (Hsu.out _ hd3).mono ?_
  rintro e w5 ⟨g, C, rfl, ho5, hb5⟩
  have HR5 := Lib.hid ((HR3.out.drn hd3).later hb5)
  have HO5 := Lib.hid ((HO3.out.drn hd3).later hb5)
  have HB5 : Hid (Below S w w5) := Lib.hid (HB3.out.trans ((hd3.below S).trans (hb5.mono (by have := Hsz3.out; show S ≤ w3.heap.size; omega))))
  have Hsrc := Lib.hid (digS_own ho5)
  clear ho5 hb5 hd3 Hsu HR3 HO3 HB3
  go_wp2_with fail
  refine hK.out _ _ trivial (fun hHeld => ?_)
  clear hK K hHeld
  try simp only [Act.put, List.setIfInBounds_toArray, List.set_cons_zero, List.set_cons_succ]
  have hHeld : True := trivial
  refine wpAnyH_ready (rs := [3]) (by kernel_rfl) (by simp) ?_
  refine AllReadyH.cons (by simp only [List.getElem?_toArray, List.getElem?_cons_succ, List.getElem?_cons_zero]; rfl) (fun K hK => ?_) AllReadyH.nil
  refine step_of_wp rfl (wp_copy_row (.tmp 13) (.tmp 15) 22 22 rfl 5 Tryd.underlying22 (by kernel_rfl) (S + 1) 0 64 64 ⟨g, 0, none⟩ 64 C rfl rfl (zbL 64) 29 HO5.out (dg.map bv) (by rw [List.length_map, Hdl.out]; rfl) Hsrc.out (by rw [List.length_map, Hdl.out, zbL_len]; exact Nat.le_refl _) (bv_one _) (dg.map bv) (by rw [List.take_zero, List.nil_append, List.drop_of_length_le (by rw [List.length_map, Hdl.out, zbL_len]; exact Nat.le_refl _), List.append_nil]) ?_)
  refine hK.out _ _ trivial (fun hHeld => ?_)
  clear hK K hHeld
  try simp only [Act.put, List.setIfInBounds_toArray, List.set_cons_zero, List.set_cons_succ]
  refine wpAnyH_done (by kernel_rfl) ?_ _
  have HO6 : Hid (HB (w5.setRow (S + 1) (dg.map bv).toArray) (S + 1) 29 (dg.map bv)) := Lib.hid (setRow_heap _ _ _ _ _ _ HO5.out)
  have Hg6 := Lib.hid (grown_row w5 (S + 1) (dg.map bv).toArray)
  have HR6 := Lib.hid (HR5.out.grown Hg6.out (fun e => by have := Option.some.inj e; omega))
  have HB6 := Lib.hid (HB5.out.grown Hg6.out (by have := HO5.out.lt; omega) (fun x hx => by have := Option.some.inj hx; omega))
  clear HR5 HO5 HB5 Hg6 Hsrc
  generalize w5.setRow (S + 1) (dg.map bv).toArray = w6 at *
  have Hrg := Lib.hid HO6.out.whole
  have Hi : Hid ((Tryd.prog.info? 29).map (·.size) = some (dg.map bv).length) := Lib.hid (by rw [List.length_map, Hdl.out]; kernel_rfl)
  have Hi' : Hid ((Tryd.prog.info? 29).map (·.size) = some (dg.map bv).toArray.size) := Lib.hid Hi.out
  have Hsz : Hid ((zbL 64).toArray.size = (dg.map bv).toArray.size) := Lib.hid (by rw [List.size_toArray, List.size_toArray, zbL_len, List.length_map, Hdl.out])
  have Hone : Hid ((dg.map bv).toArray.all (·.oneCell') = true) := Lib.hid (by simp [bv, Value.oneCell'])
  have HBg := Lib.hid (HB6.out.grown (grown_row w6 S (dg.map bv).toArray) (by have := HR6.out.lt; omega) (fun x hx => Nat.le_of_eq (Option.some.inj hx)))
  have HW9 : HB (w6.setRow S (dg.map bv).toArray) S 29 (dg.map bv) := setRow_heap _ _ _ _ _ _ HR6.out
  have Hrg9 := Lib.hid HW9.whole
  clear HW9
  go_wp2_with (first
    | refine wpList_load_mid rfl _ _ rfl (S + 1) 0 rfl (dg.map bv) _ Hrg.out Tryd.underlying29 rfl Hi.out ?_
    | refine wpList_store_row rfl _ _ _ rfl S (dg.map bv).toArray rfl rfl _ _ HR6.out Hi'.out Hsz.out Hone.out ?_)
  have hv : (loadVar 29 ⟨S, 0, none⟩).run Tryd.prog (w6.setRow S (dg.map bv).toArray) = .ok (.agg (dg.map bv).toArray) (w6.setRow S (dg.map bv).toArray) := run_loadVar_mid (P := Tryd.prog) _ S 0 29 (dg.map bv) _ Hrg9.out Tryd.underlying29 rfl Hi.out
  exact bodyPost_ret (v := .agg (dg.map bv).toArray) (by simp [results, Tryd.results17, asAddr, hv, Result.andThen, Act.put]; try rfl) rfl ⟨by rw [Hdg.out], by rw [HSx.out]; exact HBg.out⟩
end Go.Proofs.YtngkelflfahjbaaDoor
