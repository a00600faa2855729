/- Chapter 2's law: steps of both hashes that answer. No condition. -/
import Derived.Test.YtngkelflfahjbaaDoorShaTs
import Derived.Test.YtngkelflfahjbaaDoorShaO
set_option linter.unusedVariables false
set_option linter.unusedSimpArgs false
namespace Go.Proofs.YtngkelflfahjbaaDoor
open Go.RowKit
attribute [local go_sem ↓] Go.wp_at_zero Go.wp_at_succ
theorem Tw.put {B T H1 H2 k : Nat} {st : S8} {N : Nat} {va vb lv wv lv' wv' : Value} {L : List UInt8} {es : List Ent} {e : Ent} {c d : Nat} {W w w' : World} (h : Tw B T H1 H2 k st N va vb lv wv L es c d W w) (hp : PutOk B T (.pointer (some ⟨H1, 0, none⟩)) (.pointer (some ⟨H2, 0, none⟩)) lv wv lv' wv' es e w w')
    (hq : ∀ q, pairF H1 H2 va vb q → q ≠ e.p ∧ q ≠ e.q) (hT : T ≠ e.p ∧ T ≠ e.q) : Tw B T H1 H2 k st N va vb lv' wv' L (es ++ [e]) c (d + 1) W w' := by
  have hv := h.v
  refine ⟨hp.t, ⟨hv.h.frm hp.f ?_, hp.l, hv.tb, Nat.lt_of_lt_of_le hv.tl hp.f.size, ?_, hv.t1, ?_, hv.lc, ?_, hv.bl.trans (hp.f.below hv.sz ?_), Nat.le_trans hv.sz hp.f.size⟩⟩
  · rintro q h1 (rfl | h2 | h2)
    · exact hv.t1 h1
    · exact hv.dj q h1 (.inl h2)
    · exact hv.dj q h1 (.inr (.inl h2))
  · intro q h1 h2
    rcases hp.n q h2 with h3 | h3 | h3 | h3
    · exact hv.dj q h1 h3
    · exact (hq q h1).1 h3
    · exact (hq q h1).2 h3
    · have := (hv.h.lt h1).2; omega
  · intro h2
    rcases hp.n T h2 with h3 | h3 | h3 | h3
    · exact hv.t2 h3
    · exact hT.1 h3
    · exact hT.2 h3
    · have := hv.tl; omega
  · rw [List.length_append]; have := hv.el; simp; omega
  · rintro q (rfl | h2 | h2)
    · exact hv.tb
    · exact (hv.l.lt (.inl h2)).1
    · exact (hv.l.lt (.inr (.inl h2))).1
set_option maxRecDepth 100000 in
set_option maxHeartbeats 1000000 in
theorem step2 {T H1 H2 k : Nat} {st : S8} {N : Nat} {va vb lv wv : Value} {L : List UInt8} {es : List Ent} {c d : Nat} {W w : World} (h : Tw W.heap.size T H1 H2 k st N va vb lv wv L es c d W w) (hc : c ≤ 209715200) (hd : d ≤ 200) (htab : TabOk W) (h00 : 0 < W.heap.size)
    (bits : Int) (ao : Option Addr) (n cap : Nat) (l : List UInt8) (hl : l.length = n) (hn : n ≤ 1048576) (hnc : n ≤ cap) (hnil : ao = none → cap = 0) (hr : Rd W ao l) :
    Calls Tryd.prog 33 #[.pointer (some ⟨T, 0, none⟩), .agg #[.int .i64 2, .int .i64 bits, .slice ao n cap]] w fun e w' => e = .returned (.bool true) ∧ ∃ lv' wv' es', TwE W.heap.size T lv' wv' es' (c + 1048576) (d + 1) W w' (fun _ => False) := by
  have Hl := Lib.hid hl
  have Hn := Lib.hid hn
  have Hnc := Lib.hid hnc
  have Hnil := Lib.hid hnil
  have Hc := Lib.hid hc
  have Hd := Lib.hid hd
  have Htab := Lib.hid htab
  have H00 := Lib.hid h00
  have Hr := Lib.hid (fun w' (h : Below W.heap.size W w') => hr.below h)
  have HX := Lib.hid (HB.new w [.int .i64 2, .int .i64 bits, .slice ao n cap] 61)
  have Hhx := Lib.hid (fun w' (hb : Below w.heap.size w w') => h.later hb)
  clear h hl hn hnc hnil hc hd htab h00 hr
  have HT0 := Lib.hid (Hhx.out _ ((Below.refl _ w).alloc (Nat.le_refl _) (.cells #[.int .i64 2, .int .i64 bits, .slice ao n cap] 61)))
  go_enter Tryd.func33, Tryd.ntmps33
  go_upto_region 13 with fail
  as_aux_lemma =>
  generalize w.alloc (.cells #[.int .i64 2, .int .i64 bits, .slice ao n cap] 61) = w0 at *
  generalize w.heap.size = X at *
  clear Hhx
  have HP := Lib.hid HT0.out.v.h
  obtain ⟨A, hA⟩ : ∃ A, digS k st (N + L.length) L = A := ⟨_, rfl⟩
  have hlc := HT0.out.v.lc
  have hcn := Hc.out
  have HA : Hid (Calls Tryd.prog 20 #[.pointer (some ⟨H1, 0, none⟩)] w0.drew fun e w' => ∃ v, e = .returned v ∧ Own 5 w' w0.drew.heap.size v A ∧ Below w0.drew.heap.size w0.drew w') := Lib.hid (by
    have hP := HP.out
    obtain ⟨ra, rc, hva, va1, va2, va3, va4, va5⟩ := hP.oa.rd3
    have h1 := hP.h1
    rw [hva] at h1
    have hll := (goB_left (wK k) _ st L rfl).2
    have hsz : sizeW (wK k) ≤ 128 := by unfold sizeW; split <;> decide
    have hn2 := hP.n2
    refine (sum_any H1 k (goB (wK k) st L).1 (N + L.length) ra _ rc _ w0.drew hP.hk (h1.drn ⟨1, rfl⟩) (goB_lt (wK k) _ st L rfl hP.hs) (by omega) rfl (by omega) va4 ((⟨1, rfl⟩ : Drn w0 w0.drew).rd va3) (Htab.out.below (HT0.out.v.bl.trans ((⟨1, rfl⟩ : Drn w0 w0.drew).below _))) (by have := H00.out; have := HT0.out.v.sz; show 0 < w0.heap.size; omega)).mono ?_
    rintro e w' ⟨g, C, rfl, ho, hb⟩
    rw [digS_whole, hA] at ho
    exact ⟨_, rfl, ho, hb⟩)
  have HB2 : Hid (∀ w', Below w0.drew.heap.size w0.drew w' → Calls Tryd.prog 27 #[.pointer (some ⟨H2, 0, none⟩)] w' fun e w'' => ∃ v, e = .returned v ∧ Own 5 w'' w'.heap.size v A ∧ Below w'.heap.size w' w'') := Lib.hid (fun w' hb => by
    have hP := HP.out
    obtain ⟨ua, uc, hvb, va1, va2, va3, va4, va5⟩ := hP.ob.rd3
    have h2 := hP.h2
    rw [hvb] at h2
    have hn2 := hP.n2
    have hbb : Below w0.heap.size w0 w' := ((⟨1, rfl⟩ : Drn w0 w0.drew).below _).trans hb
    refine (rsum_any H2 k st N ua _ uc L w' hP.hk (h2.later hbb) hP.hs (by omega) rfl (by omega) va4 (va3.below hbb)).mono ?_
    rintro e w'' ⟨g, C, rfl, ho, hb⟩
    rw [hA] at ho
    exact ⟨_, rfl, ho, hb⟩)
  have HAs : Hid (A.length ≤ 256) := Lib.hid (by
    have := digS_len k HP.out.hk st (N + L.length) L
    rw [hA] at this
    rw [this]
    unfold digK; split <;> (try split) <;> decide)
  have HAn : Hid (A ≠ []) := Lib.hid (fun h => by
    have := digS_len k HP.out.hk st (N + L.length) L
    rw [hA, h] at this
    have h2 : digK k ≠ 0 := by unfold digK; split <;> (try split) <;> decide
    exact h2 this.symm)
  clear hA hlc hcn HP Htab H00 Hr HX
  go_upto_region 13 with fail
  as_aux_lemma =>
  have hd0 : Drn w0 w0.drew := ⟨1, rfl⟩
  have hT0 := HT0.out.t.drn hd0
  have k0 : w0.drew.cell? ⟨T, 0, none⟩ = some (.pointer (some ⟨H1, 0, none⟩)) := hT0.cell (i := 0) rfl
  have k1 : w0.drew.cell? ⟨T, 1, none⟩ = some (.pointer (some ⟨H2, 0, none⟩)) := hT0.cell (i := 1) rfl
  refine wp_region_held_drew (S := fun w' => w'.cell? ⟨T, 0, none⟩ = some (.pointer (some ⟨H1, 0, none⟩)) ∧ w'.cell? ⟨T, 1, none⟩ = some (.pointer (some ⟨H2, 0, none⟩))) (by kernel_rfl) ⟨k0, k1⟩ (fun hHeld => ?_)
  clear k0 k1 hT0 hd0
  refine wpAnyH_take (i := 0) (v := ?_) (by simp only [List.getElem?_toArray, List.getElem?_cons_succ, List.getElem?_cons_zero]; rfl) (by kernel_rfl) (by kernel_rfl) (by kernel_rfl) (by intro _ _ _ h_; exact h_) (Or.inl ⟨by rfl, ?_⟩) (by assumption) ?_
  rotate_left 1
  focus (intro w_ hSw_; go_simp; try with_reducible rfl)
  simp only [Act.put, List.setIfInBounds_toArray, List.set_cons_zero, List.set_cons_succ]
  refine wpAnyH_take (i := 1) (v := ?_) (by simp only [List.getElem?_toArray, List.getElem?_cons_succ, List.getElem?_cons_zero]; rfl) (by kernel_rfl) (by kernel_rfl) (by kernel_rfl) (by intro _ _ _ h_; exact h_) (Or.inl ⟨by rfl, ?_⟩) (by assumption) ?_
  rotate_left 1
  focus (intro w_ hSw_; go_simp; try with_reducible rfl)
  simp only [Act.put, List.setIfInBounds_toArray, List.set_cons_zero, List.set_cons_succ]
  refine wpAnyH_take (i := 2) (v := ?_) (by simp only [List.getElem?_toArray, List.getElem?_cons_succ, List.getElem?_cons_zero]; rfl) (by kernel_rfl) (by kernel_rfl) (by kernel_rfl) (by intro _ _ _ h_; exact h_) (Or.inl ⟨by rfl, ?_⟩) (by assumption) ?_
  rotate_left 1
  focus (intro w_ hSw_; go_simp; try with_reducible rfl)
  simp only [Act.put, List.setIfInBounds_toArray, List.set_cons_zero, List.set_cons_succ]
  refine wpAnyH_take (i := 3) (v := ?_) (by simp only [List.getElem?_toArray, List.getElem?_cons_succ, List.getElem?_cons_zero]; rfl) (by kernel_rfl) (by kernel_rfl) (by kernel_rfl) (by intro _ _ _ h_; exact h_) (Or.inl ⟨by rfl, ?_⟩) (by assumption) ?_
  rotate_left 1
  focus (intro w_ hSw_; go_simp; try with_reducible rfl)
  simp only [Act.put, List.setIfInBounds_toArray, List.set_cons_zero, List.set_cons_succ]
  refine wpAnyH_take (i := 4) (v := ?_) (by simp only [List.getElem?_toArray, List.getElem?_cons_succ, List.getElem?_cons_zero]; rfl) (by kernel_rfl) (by kernel_rfl) (by kernel_rfl) (by intro _ _ _ h_; exact h_) (Or.inl ⟨by rfl, ?_⟩) (by assumption) ?_
  rotate_left 1
  focus (intro w_ hSw_; go_simp; try with_reducible rfl)
  simp only [Act.put, List.setIfInBounds_toArray, List.set_cons_zero, List.set_cons_succ]
  refine wpAnyH_take (i := 6) (v := ?_) (by simp only [List.getElem?_toArray, List.getElem?_cons_succ, List.getElem?_cons_zero]; rfl) (by kernel_rfl) (by kernel_rfl) (by kernel_rfl) (by intro _ _ _ h_; exact h_) (Or.inl ⟨by rfl, ?_⟩) (by assumption) ?_
  rotate_left 1
  focus (intro w_ hSw_; go_simp; try with_reducible rfl)
  simp only [Act.put, List.setIfInBounds_toArray, List.set_cons_zero, List.set_cons_succ]
  refine wpAnyH_take (i := 7) (v := ?_) (by simp only [List.getElem?_toArray, List.getElem?_cons_succ, List.getElem?_cons_zero]; rfl) (by kernel_rfl) (by kernel_rfl) (by kernel_rfl) (by intro _ _ _ h_; exact h_) (Or.inl ⟨by rfl, ?_⟩) (by assumption) ?_
  rotate_left 1
  focus (intro w_ hSw_; go_simp; try with_reducible rfl)
  simp only [Act.put, List.setIfInBounds_toArray, List.set_cons_zero, List.set_cons_succ]
  refine wpAnyH_take (i := 8) (v := ?_) (by simp only [List.getElem?_toArray, List.getElem?_cons_succ, List.getElem?_cons_zero]; rfl) (by kernel_rfl) (by kernel_rfl) (by kernel_rfl) (by intro _ _ _ h_; exact h_) (Or.inl ⟨by rfl, ?_⟩) (by assumption) ?_
  rotate_left 1
  focus (intro w_ hSw_; go_simp; try with_reducible rfl)
  simp only [Act.put, List.setIfInBounds_toArray, List.set_cons_zero, List.set_cons_succ]
  refine wpAnyH_take (i := 9) (v := ?_) (by simp only [List.getElem?_toArray, List.getElem?_cons_succ, List.getElem?_cons_zero]; rfl) (by kernel_rfl) (by kernel_rfl) (by kernel_rfl) (by intro _ _ _ h_; exact h_) (Or.inl ⟨by rfl, ?_⟩) (by assumption) ?_
  rotate_left 1
  focus (intro w_ hSw_; go_simp; try with_reducible rfl)
  simp only [Act.put, List.setIfInBounds_toArray, List.set_cons_zero, List.set_cons_succ]
  refine wpAnyH_ready (rs := [5]) (by kernel_rfl) (by simp) ?_
  refine AllReadyH.cons (by simp only [List.getElem?_toArray, List.getElem?_cons_succ, List.getElem?_cons_zero]; rfl) (fun K hK => ?_) AllReadyH.nil
  go_simp
  refine HA.out.mono ?_
  rintro e w2 ⟨v2, rfl, ho2, hb2⟩
  have hb02 : Below w0.heap.size w0 w2 := ((⟨1, rfl⟩ : Drn w0 w0.drew).below _).trans hb2
  have HT2 := Lib.hid (HT0.out.later hb02)
  have Hb2 := Lib.hid hb2
  have Ho2 := Lib.hid ho2
  have k0 : w2.cell? ⟨T, 0, none⟩ = some (.pointer (some ⟨H1, 0, none⟩)) := HT2.out.t.cell (i := 0) rfl
  have k1 : w2.cell? ⟨T, 1, none⟩ = some (.pointer (some ⟨H2, 0, none⟩)) := HT2.out.t.cell (i := 1) rfl
  clear hHeld ho2 hb2 hb02 HA
  go_wp2_with fail
  refine hK.out _ _ ⟨k0, k1⟩ (fun hHeld => ?_)
  clear k0 k1
  clear hK K
  try simp only [Act.put, List.setIfInBounds_toArray, List.set_cons_zero, List.set_cons_succ]
  refine wpAnyH_ready (rs := [10]) (by kernel_rfl) (by simp) ?_
  refine AllReadyH.cons (by simp only [List.getElem?_toArray, List.getElem?_cons_succ, List.getElem?_cons_zero]; rfl) (fun K hK => ?_) AllReadyH.nil
  go_simp
  refine (HB2.out _ Hb2.out).mono ?_
  rintro e w3 ⟨v3, rfl, ho3, hb3⟩
  have HT3 := Lib.hid (HT2.out.later hb3)
  have hO2 := Ho2.out.later hb3
  have hlt2 : ∀ q, v2.ownBlock = some q → w0.drew.heap.size ≤ q ∧ q < w2.heap.size := fun q hq => own_blk Ho2.out hq
  rcases hO2.cases with ⟨-, h⟩ | ⟨g2, C2, rfl, -, -, -, -, -, -⟩
  · exact absurd h HAn.out
  rcases ho3.cases with ⟨-, h⟩ | ⟨g3, C3, rfl, -, -, -, -, -, -⟩
  · exact absurd h HAn.out
  have hg2 := hlt2 g2 rfl
  have hg3 : w2.heap.size ≤ g3 ∧ g3 < w3.heap.size := own_blk ho3 rfl
  have hszd : w0.drew.heap.size = w0.heap.size := rfl
  rw [hszd] at hg2
  have hBs := HT0.out.v.sz
  have hold : ∀ q, lstF lv wv es q → q < g2 := fun q hq => by have := (HT0.out.v.l.lt hq).2; omega
  have hTl := HT0.out.v.tl
  have hen := HT0.out.v.el
  have hd := Hd.out
  have hPut := put_any W.heap.size T (.pointer (some ⟨H1, 0, none⟩)) (.pointer (some ⟨H2, 0, none⟩)) lv wv es ⟨g2, g3, C2, C3, A⟩ w3 HT3.out.t HT3.out.v.l HT3.out.v.tb HT3.out.v.t2 HT3.out.v.sz ⟨hO2.mono (by rw [hszd]; exact hBs), ho3.mono (by have := Hb2.out.size; rw [hszd] at this; omega), by show g2 < g3; omega, HAs.out⟩ hold (by show T < g2; omega) (by omega)
  have Hput := Lib.hid hPut
  have Hpq : Hid (∀ q, pairF H1 H2 va vb q → q ≠ g2 ∧ q ≠ g3) := Lib.hid (fun q hq => by have := (HT0.out.v.h.lt hq).2; have := Hb2.out.size; rw [hszd] at this; omega)
  have HTn : Hid (T ≠ g2 ∧ T ≠ g3) := Lib.hid (by have := Hb2.out.size; rw [hszd] at this; omega)
  have k0 : w3.cell? ⟨T, 0, none⟩ = some (.pointer (some ⟨H1, 0, none⟩)) := HT3.out.t.cell (i := 0) rfl
  have k1 : w3.cell? ⟨T, 1, none⟩ = some (.pointer (some ⟨H2, 0, none⟩)) := HT3.out.t.cell (i := 1) rfl
  clear hHeld ho3 hb3 hO2 hlt2 hg2 hg3 hszd hBs hold hTl hen hd hPut HB2 Ho2 HT2 Hb2 HT0
  go_wp2_with fail
  refine hK.out _ _ ⟨k0, k1⟩ (fun hHeld => ?_)
  clear k0 k1
  clear hK K
  try simp only [Act.put, List.setIfInBounds_toArray, List.set_cons_zero, List.set_cons_succ]
  refine wpAnyH_ready (rs := [11]) (by kernel_rfl) (by simp) ?_
  refine AllReadyH.cons (by simp only [List.getElem?_toArray, List.getElem?_cons_succ, List.getElem?_cons_zero]; rfl) (fun K hK => ?_) AllReadyH.nil
  go_simp
  refine Hput.out.mono ?_
  rintro e w4 ⟨rfl, lv', wv', hp⟩
  have HT4 := Lib.hid (HT3.out.put hp Hpq.out HTn.out)
  have k0 : w4.cell? ⟨T, 0, none⟩ = some (.pointer (some ⟨H1, 0, none⟩)) := HT4.out.t.cell (i := 0) rfl
  have k1 : w4.cell? ⟨T, 1, none⟩ = some (.pointer (some ⟨H2, 0, none⟩)) := HT4.out.t.cell (i := 1) rfl
  clear hHeld hp Hput Hpq HTn HT3
  go_wp2_with fail
  refine hK.out _ _ ⟨k0, k1⟩ (fun hHeld => ?_)
  clear hHeld
  clear hK K
  try simp only [Act.put, List.setIfInBounds_toArray, List.set_cons_zero, List.set_cons_succ]
  have hHeld := And.intro k0 k1
  clear k0 k1
  refine wpAnyH_take (i := 12) (v := ?_) (by simp only [List.getElem?_toArray, List.getElem?_cons_succ, List.getElem?_cons_zero]; rfl) (by kernel_rfl) (by kernel_rfl) (by kernel_rfl) (by intro _ _ _ h_; exact h_) (Or.inl ⟨by rfl, ?_⟩) (by assumption) ?_
  rotate_left 1
  focus (intro w_ hSw_; go_simp; try with_reducible rfl)
  simp only [Act.put, List.setIfInBounds_toArray, List.set_cons_zero, List.set_cons_succ]
  refine wpAnyH_done (by kernel_rfl) ?_ _
  clear hHeld
  go_wp2_with fail
  go_ret
  exact ⟨rfl, lv', wv', _, ⟨_, _, _, _, _, _, _, _, ⟨HT4.out.t, HT4.out.v.mono (by omega) (Nat.le_refl _)⟩, fun _ _ => id⟩⟩
set_option maxRecDepth 100000 in
set_option maxHeartbeats 1000000 in
theorem step3 {T H1 H2 k : Nat} {st : S8} {N : Nat} {va vb lv wv : Value} {L : List UInt8} {es : List Ent} {c d : Nat} {W w : World} (h : Tw W.heap.size T H1 H2 k st N va vb lv wv L es c d W w) (hc : c ≤ 209715200) (hd : d ≤ 200) (htab : TabOk W) (h00 : 0 < W.heap.size)
    (bits : Int) (ao : Option Addr) (n cap : Nat) (l : List UInt8) (hl : l.length = n) (hn : n ≤ 1048576) (hnc : n ≤ cap) (hnil : ao = none → cap = 0) (hr : Rd W ao l) :
    Calls Tryd.prog 33 #[.pointer (some ⟨T, 0, none⟩), .agg #[.int .i64 3, .int .i64 bits, .slice ao n cap]] w fun e w' => e = .returned (.bool true) ∧ ∃ lv' wv' es', TwE W.heap.size T lv' wv' es' (c + 1048576) (d + 1) W w' (fun _ => False) := by
  have Hl := Lib.hid hl
  have Hn := Lib.hid hn
  have Hnc := Lib.hid hnc
  have Hnil := Lib.hid hnil
  have Hc := Lib.hid hc
  have Hd := Lib.hid hd
  have Htab := Lib.hid htab
  have H00 := Lib.hid h00
  have Hr := Lib.hid (fun w' (h : Below W.heap.size W w') => hr.below h)
  have HX := Lib.hid (HB.new w [.int .i64 3, .int .i64 bits, .slice ao n cap] 61)
  have Hhx := Lib.hid (fun w' (hb : Below w.heap.size w w') => h.later hb)
  clear h hl hn hnc hnil hc hd htab h00 hr
  have HT0 := Lib.hid (Hhx.out _ ((Below.refl _ w).alloc (Nat.le_refl _) (.cells #[.int .i64 3, .int .i64 bits, .slice ao n cap] 61)))
  go_enter Tryd.func33, Tryd.ntmps33
  go_upto_region 15 with fail
  as_aux_lemma =>
  generalize w.alloc (.cells #[.int .i64 3, .int .i64 bits, .slice ao n cap] 61) = w0 at *
  generalize w.heap.size = X at *
  clear Hhx
  have HP := Lib.hid HT0.out.v.h
  obtain ⟨A, hA⟩ : ∃ A, stateL k (goB (wK k) st L).1 (N + L.length) (goB (wK k) st L).2 = A := ⟨_, rfl⟩
  have hlc := HT0.out.v.lc
  have hcn := Hc.out
  have HA : Hid (Calls Tryd.prog 21 #[.pointer (some ⟨H1, 0, none⟩)] w0.drew fun e w' => ∃ v, e = .returned v ∧ Own 5 w' w0.drew.heap.size v A ∧ Below w0.drew.heap.size w0.drew w') := Lib.hid (by
    have hP := HP.out
    obtain ⟨ra, rc, hva, va1, va2, va3, va4, va5⟩ := hP.oa.rd3
    have h1 := hP.h1
    rw [hva] at h1
    have hll := (goB_left (wK k) _ st L rfl).2
    have hsz : sizeW (wK k) ≤ 128 := by unfold sizeW; split <;> decide
    have hp := pstate_any H1 k (goB (wK k) st L).1 (N + L.length) ra _ rc _ w0.drew hP.hk (h1.drn ⟨1, rfl⟩) rfl (by omega) va4 ((⟨1, rfl⟩ : Drn w0 w0.drew).rd va3)
    rw [hA] at hp
    exact hp)
  have HB2 : Hid (∀ w', Below w0.drew.heap.size w0.drew w' → Calls Tryd.prog 45 #[.pointer (some ⟨H2, 0, none⟩)] w' fun e w'' => ∃ v, e = .returned v ∧ Own 5 w'' w'.heap.size v A ∧ Below w'.heap.size w' w'') := Lib.hid (fun w' hb => by
    have hP := HP.out
    obtain ⟨ua, uc, hvb, va1, va2, va3, va4, va5⟩ := hP.ob.rd3
    have h2 := hP.h2
    rw [hvb] at h2
    have hn2 := hP.n2
    have hbb : Below w0.heap.size w0 w' := ((⟨1, rfl⟩ : Drn w0 w0.drew).below _).trans hb
    have hp := rstate_any H2 k st N ua _ uc L w' hP.hk (h2.later hbb) hP.hs (by omega) rfl (by omega) va1 va2 va4 (va3.below hbb) (fun a e => Nat.lt_of_lt_of_le (va5 a e).2 hbb.size)
    rw [hA] at hp
    exact hp)
  have HAs : Hid (A.length ≤ 256) := Lib.hid (by
    have := stateL_len HP.out.hk (goB (wK k) st L).1 (N + L.length) (goB (wK k) st L).2
    have hll := (goB_left (wK k) _ st L rfl).2
    have hsz : sizeW (wK k) ≤ 128 := by unfold sizeW; split <;> decide
    have hw : wK k ≤ 64 := by unfold wK; split <;> decide
    rw [hA] at this
    omega)
  have HAn : Hid (A ≠ []) := Lib.hid (fun h => by
    have := stateL_len HP.out.hk (goB (wK k) st L).1 (N + L.length) (goB (wK k) st L).2
    rw [hA, h, List.length_nil] at this
    omega)
  clear hA hlc hcn HP Htab H00 Hr HX
  go_upto_region 15 with fail
  as_aux_lemma =>
  have hd0 : Drn w0 w0.drew := ⟨1, rfl⟩
  have hT0 := HT0.out.t.drn hd0
  have k0 : w0.drew.cell? ⟨T, 0, none⟩ = some (.pointer (some ⟨H1, 0, none⟩)) := hT0.cell (i := 0) rfl
  have k1 : w0.drew.cell? ⟨T, 1, none⟩ = some (.pointer (some ⟨H2, 0, none⟩)) := hT0.cell (i := 1) rfl
  refine wp_region_held_drew (S := fun w' => w'.cell? ⟨T, 0, none⟩ = some (.pointer (some ⟨H1, 0, none⟩)) ∧ w'.cell? ⟨T, 1, none⟩ = some (.pointer (some ⟨H2, 0, none⟩))) (by kernel_rfl) ⟨k0, k1⟩ (fun hHeld => ?_)
  clear k0 k1 hT0 hd0
  refine wpAnyH_take (i := 0) (v := ?_) (by simp only [List.getElem?_toArray, List.getElem?_cons_succ, List.getElem?_cons_zero]; rfl) (by kernel_rfl) (by kernel_rfl) (by kernel_rfl) (by intro _ _ _ h_; exact h_) (Or.inl ⟨by rfl, ?_⟩) (by assumption) ?_
  rotate_left 1
  focus (intro w_ hSw_; go_simp; try with_reducible rfl)
  simp only [Act.put, List.setIfInBounds_toArray, List.set_cons_zero, List.set_cons_succ]
  refine wpAnyH_take (i := 1) (v := ?_) (by simp only [List.getElem?_toArray, List.getElem?_cons_succ, List.getElem?_cons_zero]; rfl) (by kernel_rfl) (by kernel_rfl) (by kernel_rfl) (by intro _ _ _ h_; exact h_) (Or.inl ⟨by rfl, ?_⟩) (by assumption) ?_
  rotate_left 1
  focus (intro w_ hSw_; go_simp; try with_reducible rfl)
  simp only [Act.put, List.setIfInBounds_toArray, List.set_cons_zero, List.set_cons_succ]
  refine wpAnyH_take (i := 2) (v := ?_) (by simp only [List.getElem?_toArray, List.getElem?_cons_succ, List.getElem?_cons_zero]; rfl) (by kernel_rfl) (by kernel_rfl) (by kernel_rfl) (by intro _ _ _ h_; exact h_) (Or.inl ⟨by rfl, ?_⟩) (by assumption) ?_
  rotate_left 1
  focus (intro w_ hSw_; go_simp; try with_reducible rfl)
  simp only [Act.put, List.setIfInBounds_toArray, List.set_cons_zero, List.set_cons_succ]
  refine wpAnyH_take (i := 3) (v := ?_) (by simp only [List.getElem?_toArray, List.getElem?_cons_succ, List.getElem?_cons_zero]; rfl) (by kernel_rfl) (by kernel_rfl) (by kernel_rfl) (by intro _ _ _ h_; exact h_) (Or.inl ⟨by rfl, ?_⟩) (by assumption) ?_
  rotate_left 1
  focus (intro w_ hSw_; go_simp; try with_reducible rfl)
  simp only [Act.put, List.setIfInBounds_toArray, List.set_cons_zero, List.set_cons_succ]
  refine wpAnyH_take (i := 4) (v := ?_) (by simp only [List.getElem?_toArray, List.getElem?_cons_succ, List.getElem?_cons_zero]; rfl) (by kernel_rfl) (by kernel_rfl) (by kernel_rfl) (by intro _ _ _ h_; exact h_) (Or.inl ⟨by rfl, ?_⟩) (by assumption) ?_
  rotate_left 1
  focus (intro w_ hSw_; go_simp; try with_reducible rfl)
  simp only [Act.put, List.setIfInBounds_toArray, List.set_cons_zero, List.set_cons_succ]
  refine wpAnyH_take (i := 6) (v := ?_) (by simp only [List.getElem?_toArray, List.getElem?_cons_succ, List.getElem?_cons_zero]; rfl) (by kernel_rfl) (by kernel_rfl) (by kernel_rfl) (by intro _ _ _ h_; exact h_) (Or.inl ⟨by rfl, ?_⟩) (by assumption) ?_
  rotate_left 1
  focus (intro w_ hSw_; go_simp; try with_reducible rfl)
  simp only [Act.put, List.setIfInBounds_toArray, List.set_cons_zero, List.set_cons_succ]
  refine wpAnyH_take (i := 7) (v := ?_) (by simp only [List.getElem?_toArray, List.getElem?_cons_succ, List.getElem?_cons_zero]; rfl) (by kernel_rfl) (by kernel_rfl) (by kernel_rfl) (by intro _ _ _ h_; exact h_) (Or.inl ⟨by rfl, ?_⟩) (by assumption) ?_
  rotate_left 1
  focus (intro w_ hSw_; go_simp; try with_reducible rfl)
  simp only [Act.put, List.setIfInBounds_toArray, List.set_cons_zero, List.set_cons_succ]
  refine wpAnyH_take (i := 8) (v := ?_) (by simp only [List.getElem?_toArray, List.getElem?_cons_succ, List.getElem?_cons_zero]; rfl) (by kernel_rfl) (by kernel_rfl) (by kernel_rfl) (by intro _ _ _ h_; exact h_) (Or.inl ⟨by rfl, ?_⟩) (by assumption) ?_
  rotate_left 1
  focus (intro w_ hSw_; go_simp; try with_reducible rfl)
  simp only [Act.put, List.setIfInBounds_toArray, List.set_cons_zero, List.set_cons_succ]
  refine wpAnyH_take (i := 9) (v := ?_) (by simp only [List.getElem?_toArray, List.getElem?_cons_succ, List.getElem?_cons_zero]; rfl) (by kernel_rfl) (by kernel_rfl) (by kernel_rfl) (by intro _ _ _ h_; exact h_) (Or.inl ⟨by rfl, ?_⟩) (by assumption) ?_
  rotate_left 1
  focus (intro w_ hSw_; go_simp; try with_reducible rfl)
  simp only [Act.put, List.setIfInBounds_toArray, List.set_cons_zero, List.set_cons_succ]
  refine wpAnyH_ready (rs := [5]) (by kernel_rfl) (by simp) ?_
  refine AllReadyH.cons (by simp only [List.getElem?_toArray, List.getElem?_cons_succ, List.getElem?_cons_zero]; rfl) (fun K hK => ?_) AllReadyH.nil
  go_simp
  refine HA.out.mono ?_
  rintro e w2 ⟨v2, rfl, ho2, hb2⟩
  have hb02 : Below w0.heap.size w0 w2 := ((⟨1, rfl⟩ : Drn w0 w0.drew).below _).trans hb2
  have HT2 := Lib.hid (HT0.out.later hb02)
  have Hb2 := Lib.hid hb2
  have Ho2 := Lib.hid ho2
  have k0 : w2.cell? ⟨T, 0, none⟩ = some (.pointer (some ⟨H1, 0, none⟩)) := HT2.out.t.cell (i := 0) rfl
  have k1 : w2.cell? ⟨T, 1, none⟩ = some (.pointer (some ⟨H2, 0, none⟩)) := HT2.out.t.cell (i := 1) rfl
  clear hHeld ho2 hb2 hb02 HA
  go_wp2_with fail
  refine hK.out _ _ ⟨k0, k1⟩ (fun hHeld => ?_)
  clear k0 k1
  clear hK K
  try simp only [Act.put, List.setIfInBounds_toArray, List.set_cons_zero, List.set_cons_succ]
  refine wpAnyH_ready (rs := [10]) (by kernel_rfl) (by simp) ?_
  refine AllReadyH.cons (by simp only [List.getElem?_toArray, List.getElem?_cons_succ, List.getElem?_cons_zero]; rfl) (fun K hK => ?_) AllReadyH.nil
  go_simp
  refine (HB2.out _ Hb2.out).mono ?_
  rintro e w3 ⟨v3, rfl, ho3, hb3⟩
  have HT3 := Lib.hid (HT2.out.later hb3)
  have hO2 := Ho2.out.later hb3
  have hlt2 : ∀ q, v2.ownBlock = some q → w0.drew.heap.size ≤ q ∧ q < w2.heap.size := fun q hq => own_blk Ho2.out hq
  rcases hO2.cases with ⟨-, h⟩ | ⟨g2, C2, rfl, -, -, -, -, -, -⟩
  · exact absurd h HAn.out
  rcases ho3.cases with ⟨-, h⟩ | ⟨g3, C3, rfl, -, -, -, -, -, -⟩
  · exact absurd h HAn.out
  have hg2 := hlt2 g2 rfl
  have hg3 : w2.heap.size ≤ g3 ∧ g3 < w3.heap.size := own_blk ho3 rfl
  have hszd : w0.drew.heap.size = w0.heap.size := rfl
  rw [hszd] at hg2
  have hBs := HT0.out.v.sz
  have hold : ∀ q, lstF lv wv es q → q < g2 := fun q hq => by have := (HT0.out.v.l.lt hq).2; omega
  have hTl := HT0.out.v.tl
  have hen := HT0.out.v.el
  have hd := Hd.out
  have hPut := put_any W.heap.size T (.pointer (some ⟨H1, 0, none⟩)) (.pointer (some ⟨H2, 0, none⟩)) lv wv es ⟨g2, g3, C2, C3, A⟩ w3 HT3.out.t HT3.out.v.l HT3.out.v.tb HT3.out.v.t2 HT3.out.v.sz ⟨hO2.mono (by rw [hszd]; exact hBs), ho3.mono (by have := Hb2.out.size; rw [hszd] at this; omega), by show g2 < g3; omega, HAs.out⟩ hold (by show T < g2; omega) (by omega)
  have Hput := Lib.hid hPut
  have Hpq : Hid (∀ q, pairF H1 H2 va vb q → q ≠ g2 ∧ q ≠ g3) := Lib.hid (fun q hq => by have := (HT0.out.v.h.lt hq).2; have := Hb2.out.size; rw [hszd] at this; omega)
  have HTn : Hid (T ≠ g2 ∧ T ≠ g3) := Lib.hid (by have := Hb2.out.size; rw [hszd] at this; omega)
  have k0 : w3.cell? ⟨T, 0, none⟩ = some (.pointer (some ⟨H1, 0, none⟩)) := HT3.out.t.cell (i := 0) rfl
  have k1 : w3.cell? ⟨T, 1, none⟩ = some (.pointer (some ⟨H2, 0, none⟩)) := HT3.out.t.cell (i := 1) rfl
  clear hHeld ho3 hb3 hO2 hlt2 hg2 hg3 hszd hBs hold hTl hen hd hPut HB2 Ho2 HT2 Hb2 HT0
  go_wp2_with fail
  refine hK.out _ _ ⟨k0, k1⟩ (fun hHeld => ?_)
  clear k0 k1
  clear hK K
  try simp only [Act.put, List.setIfInBounds_toArray, List.set_cons_zero, List.set_cons_succ]
  refine wpAnyH_ready (rs := [11]) (by kernel_rfl) (by simp) ?_
  refine AllReadyH.cons (by simp only [List.getElem?_toArray, List.getElem?_cons_succ, List.getElem?_cons_zero]; rfl) (fun K hK => ?_) AllReadyH.nil
  go_simp
  refine Hput.out.mono ?_
  rintro e w4 ⟨rfl, lv', wv', hp⟩
  have HT4 := Lib.hid (HT3.out.put hp Hpq.out HTn.out)
  have k0 : w4.cell? ⟨T, 0, none⟩ = some (.pointer (some ⟨H1, 0, none⟩)) := HT4.out.t.cell (i := 0) rfl
  have k1 : w4.cell? ⟨T, 1, none⟩ = some (.pointer (some ⟨H2, 0, none⟩)) := HT4.out.t.cell (i := 1) rfl
  clear hHeld hp Hput Hpq HTn HT3
  go_wp2_with fail
  refine hK.out _ _ ⟨k0, k1⟩ (fun hHeld => ?_)
  clear hHeld
  clear hK K
  try simp only [Act.put, List.setIfInBounds_toArray, List.set_cons_zero, List.set_cons_succ]
  have hHeld := And.intro k0 k1
  clear k0 k1
  refine wpAnyH_take (i := 12) (v := ?_) (by simp only [List.getElem?_toArray, List.getElem?_cons_succ, List.getElem?_cons_zero]; rfl) (by kernel_rfl) (by kernel_rfl) (by kernel_rfl) (by intro _ _ _ h_; exact h_) (Or.inl ⟨by rfl, ?_⟩) (by assumption) ?_
  rotate_left 1
  focus (intro w_ hSw_; go_simp; try with_reducible rfl)
  simp only [Act.put, List.setIfInBounds_toArray, List.set_cons_zero, List.set_cons_succ]
  refine wpAnyH_done (by kernel_rfl) ?_ _
  clear hHeld
  go_wp2_with fail
  go_ret
  exact ⟨rfl, lv', wv', _, ⟨_, _, _, _, _, _, _, _, ⟨HT4.out.t, HT4.out.v.mono (by omega) (Nat.le_refl _)⟩, fun _ _ => id⟩⟩
end Go.Proofs.YtngkelflfahjbaaDoor
