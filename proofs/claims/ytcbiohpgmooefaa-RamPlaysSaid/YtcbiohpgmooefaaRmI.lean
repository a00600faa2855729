/- slices.Insert of one region. No condition. -/
import Derived.Test.YtcbiohpgmooefaaRmM
import Derived.Test.YtcbiohpgmooefaaApS
import Derived.Lib.Overlaps
import Derived.Deep.RegionHeld3
import Derived.Deep.DrawnRows
import Derived.Deep.DeepCutAuto
set_option linter.unusedVariables false
set_option linter.unusedSimpArgs false
namespace Go.Proofs.Ytcbiohpgmooefaa
open Go.RowKit
attribute [local go_sem ↓] Go.wp_at_zero Go.wp_at_succ
def fl (l : List Rg) : List Value := l.flatMap rgc
theorem fl_len (l : List Rg) : (fl l).length = l.length * 6 := flat_length rgc_len l
theorem fl_one (l : List Rg) : ∀ u ∈ fl l, u.oneCell' = true := flatS_one rgLay.one l
/-- room: what lies there, cut in three -/
theorem cut3 {cur : List Value} {t : List Rg} {i : Nat} (hi : i ≤ t.length) (ht : cur.take (t.length * 6) = fl t) : cur = fl (t.take i) ++ (fl (t.drop i) ++ cur.drop (t.length * 6)) := by
  have h1 := (List.take_append_drop (t.length * 6) cur).symm
  rw [ht] at h1
  rw [← List.append_assoc]
  have h2 : fl t = fl (t.take i) ++ fl (t.drop i) := by unfold fl; rw [← List.flatMap_append, List.take_append_drop]
  rw [← h2]
  exact h1
theorem ins_fl (t : List Rg) (i : Nat) (x : Rg) : fl (t.take i ++ x :: t.drop i) = fl (t.take i) ++ (rgc x ++ fl (t.drop i)) := by
  unfold fl
  rw [List.flatMap_append, List.flatMap_cons]
/-- shifted up, then laid -/
theorem shift_lay (A D r X : List Value) (hX : X.length = 6) (hr : 6 ≤ r.length) (cur1 : List Value) (h1 : cur1 = (A ++ (D ++ r)).take (A.length + 6) ++ D ++ (A ++ (D ++ r)).drop (A.length + 6 + D.length)) :
    cur1.length = (A ++ (D ++ r)).length ∧ cur1.take A.length ++ X ++ cur1.drop (A.length + X.length) = A ++ (X ++ (D ++ r.drop 6)) := by
  have e1 : ((A ++ (D ++ r)).take (A.length + 6)).length = A.length + 6 := by rw [List.length_take, List.length_append, List.length_append]; omega
  have e2 : (A ++ (D ++ r)).drop (A.length + 6 + D.length) = r.drop 6 := by
    rw [show A.length + 6 + D.length = A.length + (D.length + 6) by omega, ← List.drop_drop, List.drop_left, ← List.drop_drop, List.drop_left]
  rw [e2] at h1
  have e3 : cur1.take A.length = A := by
    rw [h1, List.append_assoc, List.take_append_of_le_length (by omega), List.take_take, Nat.min_eq_left (by omega), List.take_left]
  have e4 : cur1.drop (A.length + X.length) = D ++ r.drop 6 := by
    rw [h1, hX, List.append_assoc, List.drop_left' e1]
  refine ⟨?_, by rw [e3, e4, List.append_assoc]⟩
  rw [h1]
  simp only [List.length_append, List.length_drop, e1]
  omega
/-- laid into new room, then the rest behind it -/
theorem lay_rest (A D Z X : List Value) (hX : X.length = 6) (hZ : 6 + D.length ≤ Z.length) (cur1 : List Value) (h1 : cur1 = (A ++ Z).take A.length ++ X ++ (A ++ Z).drop (A.length + X.length)) :
    cur1.length = (A ++ Z).length ∧ cur1.take (A.length + 6) ++ D ++ cur1.drop (A.length + 6 + D.length) = A ++ (X ++ (D ++ Z.drop (6 + D.length))) := by
  have e0 : cur1 = (A ++ X) ++ Z.drop 6 := by rw [h1, List.take_left, hX, ← List.drop_drop, List.drop_left]
  have e5 : (A ++ X).length = A.length + 6 := by rw [List.length_append, hX]
  refine ⟨by rw [e0]; simp only [List.length_append, List.length_drop, hX]; omega, ?_⟩
  rw [e0, List.take_left' e5, ← e5, ← List.drop_drop, List.drop_left, List.drop_drop]
  simp [List.append_assoc]
theorem own_cap (ao : Option Addr) (n n' c c' : Nat) : (Value.slice ao n c).ownBlock = (Value.slice ao n' c').ownBlock := by
  cases ao <;> rfl
theorem gr_cap {w w' : World} {ao : Option Addr} {n n' c c' : Nat} {v : Value} (h : Gr w w' (.slice ao n c) v) : Gr w w' (.slice ao n' c') v := by
  have e := own_cap ao n n' c c'
  exact ⟨by rw [← e]; exact h.g, by rw [← e]; exact h.k⟩
set_option maxHeartbeats 1000000 in
theorem ins_any {B : Nat} {v : Value} {t : List Rg} {w : World} (ho : OwnS rgc 33 6 w B v t) (hB : B ≤ w.heap.size) (i : Nat) (hi : i ≤ t.length) (ht : t.length ≤ 1000) (x : Rg) (xb : Nat) (hx : HB w xb 33 (rgc x)) (hne : v.ownBlock ≠ some xb) :
    Calls Try.prog 27 #[v, .int .i64 i, .slice (some ⟨xb, 0, none⟩) 1 1] w fun e w' => ∃ v', e = .returned v' ∧ OwnS rgc 33 6 w' B v' (t.take i ++ x :: t.drop i) ∧ Gr w w' v v' := by
  by_cases hin : i = t.length
  · have Hr := Lib.hid (RdS.one (cells := rgc) (sz := 6) (x := x) hx)
    have Ho := Lib.hid ho
    have Ht := Lib.hid ht
    have HB := Lib.hid hB
    obtain ⟨ao, cap, rfl, h1, h2, -, -⟩ := ho.rd rgc_len
    have Hres : Hid (t.take i ++ x :: t.drop i = t ++ [x]) := Lib.hid (by rw [hin, List.take_length, List.drop_length])
    subst hin
    generalize hn : t.length = n at *
    have Hn := Lib.hid hn
    clear hn ho hx hne ht hB
    go_enter Try.func27, Try.ntmps27
    go_wp2_with (at_builtin; refine wpList_append_SG rgLay rfl _ _ rfl B (.slice ao n cap) t rfl Ho.out ⟨xb, 0, none⟩ 1 1 [x] rfl rfl Hr.out (by rw [Hn.out]; have := Ht.out; simp only [maxLen]; omega) (by rw [Hn.out]; have := Ht.out; omega) HB.out ?_)
    all_goals
      intro v' w' ho' hg'
      have HO := Lib.hid (And.intro ho' hg')
      clear ho' hg'
      go_wp2_with fail
      go_ret
      exact ⟨_, rfl, by rw [Hres.out]; exact HO.out.1, gr_cap HO.out.2⟩
  · obtain ⟨ao, cap, rfl, h1, h2, -, -⟩ := ho.rd rgc_len
    obtain ⟨g, rfl⟩ : ∃ g, ao = some ⟨g, 0, none⟩ := by
      rcases ho.cases rgc_len with ⟨hv, h0⟩ | ⟨g, c, hv, -⟩
      · have : t.length = 0 := by rw [h0]; rfl
        omega
      · cases hv; exact ⟨g, rfl⟩
    obtain ⟨cur, hg, -, hlc, hcm, hcs, htk, hBg⟩ := ho.hb
    have hxg : xb ≠ g := fun e => hne (by rw [e]; rfl)
    have hcut := cut3 hi htk
    obtain ⟨A, hA⟩ : ∃ A, fl (t.take i) = A := ⟨_, rfl⟩
    obtain ⟨D, hD⟩ : ∃ D, fl (t.drop i) = D := ⟨_, rfl⟩
    obtain ⟨r, hr⟩ : ∃ r, cur.drop (t.length * 6) = r := ⟨_, rfl⟩
    have hAl : A.length = i * 6 := by rw [← hA, fl_len, List.length_take, Nat.min_eq_left hi]
    have hDl : D.length = (t.length - i) * 6 := by rw [← hD, fl_len, List.length_drop]
    have hrl : r.length = (cap - t.length) * 6 := by rw [← hr, List.length_drop, hcs]; omega
    have hA1 : ∀ u ∈ A, u.oneCell' = true := by rw [← hA]; exact fl_one _
    have hD1 : ∀ u ∈ D, u.oneCell' = true := by rw [← hD]; exact fl_one _
    have hX1 : ∀ u ∈ rgc x, u.oneCell' = true := rgLay.one x
    have hres := ins_fl t i x
    have hrn : (t.take i ++ x :: t.drop i).length = t.length + 1 := by rw [List.length_append, List.length_cons, List.length_take, List.length_drop]; omega
    rw [hA, hD] at hres
    rw [hA, hD, hr] at hcut
    have hsz6 : (Try.prog.info? 33).map (·.size) = some 6 := by kernel_rfl
    generalize hn : t.length = n at *
    have Hn := Lib.hid hn
    have hi2 : i < n := by omega
    subst hcut
    by_cases hroom : n + 1 ≤ cap
    · have m1 : (n : Int) + 1 ≤ (cap : Int) := by omega
      have m2 : (i : Int) + 1 ≤ (n : Int) + 1 := by omega
      have m3 : ¬ ((i : Int) = (n : Int)) := by omega
      have m4 : ((i : Int) == (n : Int)) = false := beq_false_of_ne m3
      obtain ⟨C1, hC1⟩ : ∃ C1, (A ++ (D ++ r)).take (A.length + 6) ++ D ++ (A ++ (D ++ r)).drop (A.length + 6 + D.length) = C1 := ⟨_, rfl⟩
      obtain ⟨hs1, hs2⟩ := shift_lay A D r (rgc x) rfl (by omega) C1 hC1.symm
      have hd0 : Drn w w.drew := ⟨1, rfl⟩
      have hgd := hg.drn hd0
      have hc1 : (Builtin.copy_ #[22, 22] 3 #[.slice (some ⟨g, (i + 1) * 6, none⟩) (n - i) (cap - (i + 1)), .slice (some ⟨g, i * 6, none⟩) (n + 1 - i) (cap - i)]).run Try.prog w.drew = .ok (goInt ((n - i : Nat) : Int)) (w.drew.setRow g C1.toArray) := by
        have h := run_copy_S (P := Try.prog) w.drew 22 22 3 33 6 g ((i + 1) * 6) (n - i) (cap - (i + 1)) ⟨g, i * 6, none⟩ (n + 1 - i) (cap - i) _ 33 D Try.underlying22 hsz6 hgd (n - i) (Nat.min_eq_right (by omega)) hDl
          (fun j v hj => by
            have hjl := (List.getElem?_eq_some_iff.1 hj).1
            rw [Addr.add_lit]
            refine hgd.cell ?_
            rw [List.getElem?_append_right (by omega), hAl, Nat.add_sub_cancel_left, List.getElem?_append_left hjl]
            exact hj) (by rw [hcs, hDl]; omega) hD1
        rw [h, ← hC1, hAl, show (i + 1) * 6 = i * 6 + 6 by omega]
      have hr1 := hgd.row C1
      obtain ⟨w2, hw2⟩ : ∃ w2, w.drew.setRow g C1.toArray = w2 := ⟨_, rfl⟩
      rw [hw2] at hc1 hr1
      have hx2 := (hx.drn hd0).frm hr1.2 hxg
      have hc2 : (Builtin.copy_ #[22, 22] 3 #[.slice (some ⟨g, i * 6, none⟩) (n + 1 - i) (cap - i), .slice (some ⟨xb, 0, none⟩) 1 1]).run Try.prog w2 = .ok (goInt 1) (w2.setRow g (A ++ (rgc x ++ (D ++ r.drop 6))).toArray) := by
        have h := run_copy_S (P := Try.prog) w2 22 22 3 33 6 g (i * 6) (n + 1 - i) (cap - i) ⟨xb, 0, none⟩ 1 1 _ 33 (rgc x) Try.underlying22 hsz6 hr1.1 1 (Nat.min_eq_left (by omega)) rfl
          (fun j v hj => by
            rw [Addr.add_lit, Nat.zero_add]
            exact hx2.cell hj) (by rw [hs1, hcs, rgc_len]; omega) hX1
        rw [← hAl, hs2] at h
        rw [← hAl]
        exact h
      have hr2 := hr1.1.row (A ++ (rgc x ++ (D ++ r.drop 6)))
      have hov : ∀ lb cb, (callFunc 44 #[.slice (some ⟨xb, 0, none⟩) 1 1, .slice (some ⟨g, (i + 1) * 6, none⟩) lb cb]).run Try.prog w = .ok (.value (.bool false)) w := fun lb cb => by
        have hs : ∀ w, (sizeOf 33).run Try.prog w = .ok 6 w := fun w => by
          rw [sizeOf, typeInfo]
          kernel_rfl
        rw [run_callFunc_extern Try.func44 (by kernel_rfl) (by kernel_rfl) (by kernel_rfl) (e := Extern.SlicesOverlaps.overlaps #[22, 22] #[4]) (by kernel_rfl),
          Lib.run_overlaps_apart w 22 4 33 Try.underlying22 6 hs ⟨xb, 0, none⟩ ⟨g, (i + 1) * 6, none⟩ 1 1 lb cb hxg 33 33 6 (cap * 6)
            (by unfold World.shape?; rw [show w.heap[xb]? = _ from hx]; rfl) (by unfold World.shape?; rw [show w.heap[g]? = _ from hg, ← hcs]; rfl) (by omega) (hx.frozen 0) (hx.frozen 6)]
        rfl
      obtain ⟨w3, hw3⟩ : ∃ w3, w2.setRow g (A ++ (rgc x ++ (D ++ r.drop 6))).toArray = w3 := ⟨_, rfl⟩
      rw [hw3] at hc2 hr2
      have HO : Hid (OwnS rgc 33 6 w3 B (.slice (some ⟨g, 0, none⟩) (n + 1) cap) (t.take i ++ x :: t.drop i)) := Lib.hid (by
        have h := OwnS.of rgc_len hr2.1 hBg (t.take i ++ x :: t.drop i) (by rw [hrn]; exact hroom) hcm (by simp only [List.length_append, List.length_drop, rgc_len] at hcs ⊢; omega) (by
          rw [hrn, show (t.take i ++ x :: t.drop i).flatMap rgc = _ from hres]
          have e : (n + 1) * 6 = (A ++ (rgc x ++ D)).length := by simp only [List.length_append, rgc_len]; omega
          rw [e, show A ++ (rgc x ++ (D ++ r.drop 6)) = (A ++ (rgc x ++ D)) ++ r.drop 6 by simp only [List.append_assoc], List.take_left])
        rw [hrn] at h
        exact h)
      have HG : Hid (Gr w w3 (.slice (some ⟨g, 0, none⟩) n cap) (.slice (some ⟨g, 0, none⟩) (n + 1) cap)) := Lib.hid ⟨((grown_drn hd0 _).trans ⟨hr1.2.os, hr1.2.tape, hr1.2.output, hr1.2.size, fun k hk hne => hr1.2.block k hk (fun e => hne (by rw [e]; rfl))⟩).trans ⟨hr2.2.os, hr2.2.tape, hr2.2.output, hr2.2.size, fun k hk hne => hr2.2.block k hk (fun e => hne (by rw [e]; rfl))⟩, fun q hq => .inl hq⟩
      clear hw2 hw3 hr1 hr2 hx2 hC1 hs1 hs2 hgd hd0 hg hcs htk hr hrl hAl hDl hA1 hD1 hX1 hres hrn hx hne ho hA hD hsz6 hBg hcm h2 hn
      go_enter Try.func27, Try.ntmps27
      go_upto_region 15 with fail
      as_aux_lemma =>
      have n1 : (i : Int) ≤ (n : Int) := by omega
      have fw : IntKind.i64.wrap ((i : Int) + 1) = ((i + 1 : Nat) : Int) := by rw [IntWalk.i64_in _ (by omega)]; omega
      have fc : ¬ cap = i + 1 := by omega
      have fd : ¬ cap = i := by omega
      have n3 : ((i + 1 : Nat) : Int) ≤ (n : Int) + 1 := by omega
      have n4 : (i : Int) ≤ (n : Int) + 1 := by omega
      have n5 : (0 : Int) ≤ (i : Int) + 1 := by omega
      refine wp_region_held_drew (S := fun _ => True) (by kernel_rfl) trivial (fun hHeld => ?_)
      refine wpAnyH_take (i := 0) (v := ?_) (by simp only [List.getElem?_toArray, List.getElem?_cons_succ, List.getElem?_cons_zero]; rfl) (by kernel_rfl) (by kernel_rfl) (by kernel_rfl) (by intro _ _ _ h_; exact h_) (Or.inl ⟨by rfl, ?_⟩) (by assumption) ?_
      rotate_left 1
      focus (intro w_ hSw_; go_simp; try with_reducible rfl)
      simp only [Act.put, List.setIfInBounds_toArray, List.set_cons_zero, List.set_cons_succ]
      refine wpAnyH_take (i := 1) (v := ?_) (by simp only [List.getElem?_toArray, List.getElem?_cons_succ, List.getElem?_cons_zero]; rfl) (by kernel_rfl) (by kernel_rfl) (by kernel_rfl) (by intro _ _ _ h_; exact h_) (Or.inl ⟨by rfl, ?_⟩) (by assumption) ?_
      rotate_left 1
      focus (intro w_ hSw_; go_simp; try with_reducible rfl)
      simp only [Act.put, List.setIfInBounds_toArray, List.set_cons_zero, List.set_cons_succ]
      refine wpAnyH_take (i := 2) (v := ?_) (by simp only [List.getElem?_toArray, List.getElem?_cons_succ, List.getElem?_cons_zero]; rfl) (by kernel_rfl) (by kernel_rfl) (by kernel_rfl) (by intro _ _ _ h_; exact h_) (Or.inl ⟨by rfl, ?_⟩) (by assumption) ?_
      rotate_left 1
      focus (intro w_ hSw_; go_simp; try with_reducible rfl)
      simp only [Act.put, List.setIfInBounds_toArray, List.set_cons_zero, List.set_cons_succ]
      refine wpAnyH_take (i := 3) (v := ?_) (by simp only [List.getElem?_toArray, List.getElem?_cons_succ, List.getElem?_cons_zero]; rfl) (by kernel_rfl) (by kernel_rfl) (by kernel_rfl) (by intro _ _ _ h_; exact h_) (Or.inl ⟨by rfl, ?_⟩) (by assumption) ?_
      rotate_left 1
      focus (intro w_ hSw_; go_simp; try with_reducible rfl)
      simp only [Act.put, List.setIfInBounds_toArray, List.set_cons_zero, List.set_cons_succ]
      refine wpAnyH_take (i := 4) (v := ?_) (by simp only [List.getElem?_toArray, List.getElem?_cons_succ, List.getElem?_cons_zero]; rfl) (by kernel_rfl) (by kernel_rfl) (by kernel_rfl) (by intro _ _ _ h_; exact h_) (Or.inl ⟨by rfl, ?_⟩) (by assumption) ?_
      rotate_left 1
      focus (intro w_ hSw_; go_simp; try with_reducible rfl)
      simp only [Act.put, List.setIfInBounds_toArray, List.set_cons_zero, List.set_cons_succ]
      refine wpAnyH_take (i := 5) (v := ?_) (by simp only [List.getElem?_toArray, List.getElem?_cons_succ, List.getElem?_cons_zero]; rfl) (by kernel_rfl) (by kernel_rfl) (by kernel_rfl) (by intro _ _ _ h_; exact h_) (Or.inl ⟨by rfl, ?_⟩) (by assumption) ?_
      rotate_left 1
      focus (intro w_ hSw_; go_simp; try with_reducible rfl)
      simp only [Act.put, List.setIfInBounds_toArray, List.set_cons_zero, List.set_cons_succ]
      refine wpAnyH_take (i := 6) (v := ?_) (by simp only [List.getElem?_toArray, List.getElem?_cons_succ, List.getElem?_cons_zero]; rfl) (by kernel_rfl) (by kernel_rfl) (by kernel_rfl) (by intro _ _ _ h_; exact h_) (Or.inl ⟨by rfl, ?_⟩) (by assumption) ?_
      rotate_left 1
      focus (intro w_ hSw_; go_simp; try with_reducible rfl)
      simp only [Act.put, List.setIfInBounds_toArray, List.set_cons_zero, List.set_cons_succ]
      refine wpAnyH_take (i := 7) (v := ?_) (by simp only [List.getElem?_toArray, List.getElem?_cons_succ, List.getElem?_cons_zero]; rfl) (by kernel_rfl) (by kernel_rfl) (by kernel_rfl) (by intro _ _ _ h_; exact h_) (Or.inl ⟨by rfl, ?_⟩) (by assumption) ?_
      rotate_left 1
      focus (intro w_ hSw_; go_simp; try with_reducible rfl)
      simp only [Act.put, List.setIfInBounds_toArray, List.set_cons_zero, List.set_cons_succ]
      refine wpAnyH_ready (rs := [8]) (by kernel_rfl) (by simp) ?_
      refine AllReadyH.cons (by simp only [List.getElem?_toArray, List.getElem?_cons_succ, List.getElem?_cons_zero]; rfl) (fun K hK => ?_) AllReadyH.nil
      go_simp
      refine hK.out _ _ trivial (fun hHeld2 => ?_)
      clear hK K
      try simp only [Act.put, List.setIfInBounds_toArray, List.set_cons_zero, List.set_cons_succ]
      refine wpAnyH_done (by kernel_rfl) ?_ _
      clear hHeld hHeld2 hc1 hov
      go_wp2_with fail
      go_ret
      exact ⟨_, rfl, HO.out, HG.out⟩
    · -- grows
      obtain ⟨ti, tz, hti, hz0, hz1, hz2, hz3⟩ := rgLay.info
      have hfirst := run_firstCells_some (P := Try.prog) w.drew ti.size i ⟨g, 0, none⟩ i cap A (by rw [hz1, hAl]) (fun j v hj => by
        rw [Addr.add_lit, Nat.zero_add]
        have hjl := (List.getElem?_eq_some_iff.1 hj).1
        refine (hg.drn ⟨1, rfl⟩).cell ?_
        rw [List.getElem?_append_left hjl]
        exact hj)
      have hap := Go.Lib.run_append_grow_zeros (P := Try.prog) w 22 3 22 33 ti tz .i64 .i64 Try.underlying22 Try.underlying3 hti hz0 (some ⟨g, 0, none⟩) i cap A hfirst (n + 1 - i) (by omega) (by omega) (by omega) (by omega) (by rw [hz2]; omega)
        (growslice_fits (by omega) (by rw [hz2]; omega))
      rw [show i + (n + 1 - i) = n + 1 by omega] at hap
      have hge := grownCap_ge w (n + 1) cap 33
      have hcm2 : grownCap w (n + 1) cap 33 ≤ maxLen := grownCap_le_maxLen w (n + 1) cap _ (by simp only [maxLen]; omega)
      obtain ⟨C, hC⟩ : ∃ C, grownCap w (n + 1) cap 33 = C := ⟨_, rfl⟩
      rw [hC] at hap hge hcm2
      obtain ⟨Z, hZ⟩ : ∃ Z : List Value, (Builtin.zeroCells tz.cells (n + 1 - i) ++ Builtin.zeroCells tz.cells (C - (n + 1))).toList = Z := ⟨_, rfl⟩
      have hZl : Z.length = (C - i) * 6 := by
        rw [← hZ]
        simp only [Array.toList_append, List.length_append, Array.length_toList, size_zeroCells, hz3]
        omega
      have hAZ : (A.toArray ++ Builtin.zeroCells tz.cells (n + 1 - i) ++ Builtin.zeroCells tz.cells (C - (n + 1))) = (A ++ Z).toArray := by
        rw [← hZ]
        simp
      rw [hAZ] at hap
      have hG0 : HB (w.drew.alloc (.cells (A ++ Z).toArray 33)) w.heap.size 33 (A ++ Z) := HB.new w.drew (A ++ Z) 33
      have hb1 : Below w.heap.size w (w.drew.alloc (.cells (A ++ Z).toArray 33)) := (Drn.below ⟨1, rfl⟩ _).alloc (Nat.le_refl _) _
      obtain ⟨w1, hw1⟩ : ∃ w1, w.drew.alloc (.cells (A ++ Z).toArray 33) = w1 := ⟨_, rfl⟩
      rw [hw1] at hap hG0 hb1
      have hgl := hg.lt
      have hxl := hx.lt
      have hg1 := hg.later hb1
      have hx1 := hx.later hb1
      obtain ⟨G, hGs⟩ : ∃ G, w.heap.size = G := ⟨_, rfl⟩
      rw [hGs] at hap hG0 hgl hxl hB
      have hbG : Below G w w1 := by rw [← hGs]; exact hb1
      obtain ⟨C1, hC1⟩ : ∃ C1, (A ++ Z).take A.length ++ rgc x ++ (A ++ Z).drop (A.length + (rgc x).length) = C1 := ⟨_, rfl⟩
      obtain ⟨hs1, hs2⟩ := lay_rest A D Z (rgc x) rfl (by rw [hDl, hZl]; omega) C1 hC1.symm
      have hAZl : (A ++ Z).length = C * 6 := by rw [List.length_append, hAl, hZl]; omega
      have hc1 : (Builtin.copy_ #[22, 22] 3 #[.slice (some ⟨G, i * 6, none⟩) (n + 1 - i) (C - i), .slice (some ⟨xb, 0, none⟩) 1 1]).run Try.prog w1 = .ok (goInt 1) (w1.setRow G C1.toArray) := by
        have h := run_copy_S (P := Try.prog) w1 22 22 3 33 6 G (i * 6) (n + 1 - i) (C - i) ⟨xb, 0, none⟩ 1 1 _ 33 (rgc x) Try.underlying22 hsz6 hG0 1 (Nat.min_eq_left (by omega)) rfl
          (fun j v hj => by
            rw [Addr.add_lit, Nat.zero_add]
            exact hx1.cell hj) (by rw [hAZl, rgc_len]; omega) hX1
        rw [← hAl, hC1] at h
        rw [← hAl]
        exact h
      have hr1 := hG0.row C1
      obtain ⟨w2, hw2⟩ : ∃ w2, w1.setRow G C1.toArray = w2 := ⟨_, rfl⟩
      rw [hw2] at hc1 hr1
      have hd2 : Drn w2 w2.drew := ⟨1, rfl⟩
      have hg2 := (hg1.frm hr1.2 (by omega)).drn hd2
      have hG2 := hr1.1.drn hd2
      have hc2 : (Builtin.copy_ #[22, 22] 3 #[.slice (some ⟨G, (i + 1) * 6, none⟩) (n - i) (C - (i + 1)), .slice (some ⟨g, i * 6, none⟩) (n - i) (cap - i)]).run Try.prog w2.drew = .ok (goInt ((n - i : Nat) : Int)) (w2.drew.setRow G (A ++ (rgc x ++ (D ++ Z.drop (6 + D.length)))).toArray) := by
        have h := run_copy_S (P := Try.prog) w2.drew 22 22 3 33 6 G ((i + 1) * 6) (n - i) (C - (i + 1)) ⟨g, i * 6, none⟩ (n - i) (cap - i) _ 33 D Try.underlying22 hsz6 hG2 (n - i) (Nat.min_eq_left (Nat.le_refl _)) hDl
          (fun j v hj => by
            have hjl := (List.getElem?_eq_some_iff.1 hj).1
            rw [Addr.add_lit]
            refine hg2.cell ?_
            rw [List.getElem?_append_right (by omega), hAl, Nat.add_sub_cancel_left, List.getElem?_append_left hjl]
            exact hj) (by rw [hs1, hAZl, hDl]; omega) hD1
        rw [h, ← hs2, hAl, show (i + 1) * 6 = i * 6 + 6 by omega]
      have hr2 := hG2.row (A ++ (rgc x ++ (D ++ Z.drop (6 + D.length))))
      obtain ⟨w3, hw3⟩ : ∃ w3, w2.drew.setRow G (A ++ (rgc x ++ (D ++ Z.drop (6 + D.length)))).toArray = w3 := ⟨_, rfl⟩
      rw [hw3] at hc2 hr2
      have HO : Hid (OwnS rgc 33 6 w3 B (.slice (some ⟨G, 0, none⟩) (n + 1) C) (t.take i ++ x :: t.drop i)) := Lib.hid (by
        have h := OwnS.of rgc_len hr2.1 (by omega) (t.take i ++ x :: t.drop i) (by rw [hrn]; exact hge) hcm2 (by simp only [List.length_append, List.length_drop, rgc_len] at hAZl ⊢; omega) (by
          rw [hrn, show (t.take i ++ x :: t.drop i).flatMap rgc = _ from hres]
          have e : (n + 1) * 6 = (A ++ (rgc x ++ D)).length := by simp only [List.length_append, rgc_len]; omega
          rw [e, show A ++ (rgc x ++ (D ++ Z.drop (6 + D.length))) = (A ++ (rgc x ++ D)) ++ Z.drop (6 + D.length) by simp only [List.append_assoc], List.take_left])
        rw [hrn] at h
        exact h)
      have HG : Hid (Gr w w3 (.slice (some ⟨g, 0, none⟩) n cap) (.slice (some ⟨G, 0, none⟩) (n + 1) C)) := Lib.hid ⟨grown_below (by
        have h1 : Below G w w2 := hbG.trans (hr1.2.below (Nat.le_of_lt hG0.lt) (fun q e => by omega))
        have h2 : Below G w w3 := (h1.trans (hd2.below G)).trans (hr2.2.below (Nat.le_of_lt hG2.lt) (fun q e => by omega))
        rw [hGs]; exact h2) _, fun q hq => .inr (by have e : G = q := Option.some.inj hq; omega)⟩
      have m3 : ¬ ((i : Int) = (n : Int)) := by omega
      have m4 : ((i : Int) == (n : Int)) = false := beq_false_of_ne m3
      have m5 : (cap : Int) < (n : Int) + 1 := by omega
      have m6 : (i : Int) ≤ (n : Int) + 1 := by omega
      have m7 : (i : Int) ≤ (cap : Int) := by omega
      have fk : (n : Int) + 1 - (i : Int) = ((n + 1 - i : Nat) : Int) := by omega
      have fd : ¬ C = i := by omega
      have fe : ¬ cap = i := by omega
      clear hw1 hw2 hw3 hr1 hr2 hd2 hg2 hG2 hC1 hs1 hs2 hg hcs htk hr hrl hAl hDl hA1 hD1 hX1 hres hrn hx hne ho hA hD hsz6 hBg hcm h2 hn hAZ hZ hZl hAZl hb1 hbG hg1 hx1 hG0 hfirst hti hz0 hz1 hz2 hz3 hC hcm2
      go_enter Try.func27, Try.ntmps27
      go_wp2_with (at_builtin; refine Go.Lib.wpList_append_run _ rfl _ _ _ _ rfl (.slice (some ⟨g, 0, none⟩) i cap) (.int .i64 ((n + 1 - i : Nat) : Int)) rfl rfl _ _ hap ?_)
      clear hap
      go_upto_region 11 with fail
      as_aux_lemma =>
      have fw : IntKind.i64.wrap ((i : Int) + 1) = ((i + 1 : Nat) : Int) := by rw [IntWalk.i64_in _ (by omega)]; omega
      have fc : ¬ C = i + 1 := by omega
      have n3 : ((i + 1 : Nat) : Int) ≤ (n : Int) + 1 := by omega
      have n1 : (i : Int) ≤ (n : Int) := by omega
      have n5 : (0 : Int) ≤ (i : Int) + 1 := by omega
      have ff : n + 1 - (i + 1) = n - i := by omega
      refine wp_region_held_drew (S := fun _ => True) (by kernel_rfl) trivial (fun hHeld => ?_)
      refine wpAnyH_take (i := 0) (v := ?_) (by simp only [List.getElem?_toArray, List.getElem?_cons_succ, List.getElem?_cons_zero]; rfl) (by kernel_rfl) (by kernel_rfl) (by kernel_rfl) (by intro _ _ _ h_; exact h_) (Or.inl ⟨by rfl, ?_⟩) (by assumption) ?_
      rotate_left 1
      focus (intro w_ hSw_; go_simp; try with_reducible rfl)
      simp only [Act.put, List.setIfInBounds_toArray, List.set_cons_zero, List.set_cons_succ]
      refine wpAnyH_take (i := 1) (v := ?_) (by simp only [List.getElem?_toArray, List.getElem?_cons_succ, List.getElem?_cons_zero]; rfl) (by kernel_rfl) (by kernel_rfl) (by kernel_rfl) (by intro _ _ _ h_; exact h_) (Or.inl ⟨by rfl, ?_⟩) (by assumption) ?_
      rotate_left 1
      focus (intro w_ hSw_; go_simp; try with_reducible rfl)
      simp only [Act.put, List.setIfInBounds_toArray, List.set_cons_zero, List.set_cons_succ]
      refine wpAnyH_take (i := 2) (v := ?_) (by simp only [List.getElem?_toArray, List.getElem?_cons_succ, List.getElem?_cons_zero]; rfl) (by kernel_rfl) (by kernel_rfl) (by kernel_rfl) (by intro _ _ _ h_; exact h_) (Or.inl ⟨by rfl, ?_⟩) (by assumption) ?_
      rotate_left 1
      focus (intro w_ hSw_; go_simp; try with_reducible rfl)
      simp only [Act.put, List.setIfInBounds_toArray, List.set_cons_zero, List.set_cons_succ]
      refine wpAnyH_take (i := 3) (v := ?_) (by simp only [List.getElem?_toArray, List.getElem?_cons_succ, List.getElem?_cons_zero]; rfl) (by kernel_rfl) (by kernel_rfl) (by kernel_rfl) (by intro _ _ _ h_; exact h_) (Or.inl ⟨by rfl, ?_⟩) (by assumption) ?_
      rotate_left 1
      focus (intro w_ hSw_; go_simp; try with_reducible rfl)
      simp only [Act.put, List.setIfInBounds_toArray, List.set_cons_zero, List.set_cons_succ]
      refine wpAnyH_take (i := 4) (v := ?_) (by simp only [List.getElem?_toArray, List.getElem?_cons_succ, List.getElem?_cons_zero]; rfl) (by kernel_rfl) (by kernel_rfl) (by kernel_rfl) (by intro _ _ _ h_; exact h_) (Or.inl ⟨by rfl, ?_⟩) (by assumption) ?_
      rotate_left 1
      focus (intro w_ hSw_; go_simp; try with_reducible rfl)
      simp only [Act.put, List.setIfInBounds_toArray, List.set_cons_zero, List.set_cons_succ]
      refine wpAnyH_take (i := 5) (v := ?_) (by simp only [List.getElem?_toArray, List.getElem?_cons_succ, List.getElem?_cons_zero]; rfl) (by kernel_rfl) (by kernel_rfl) (by kernel_rfl) (by intro _ _ _ h_; exact h_) (Or.inl ⟨by rfl, ?_⟩) (by assumption) ?_
      rotate_left 1
      focus (intro w_ hSw_; go_simp; try with_reducible rfl)
      simp only [Act.put, List.setIfInBounds_toArray, List.set_cons_zero, List.set_cons_succ]
      refine wpAnyH_take (i := 6) (v := ?_) (by simp only [List.getElem?_toArray, List.getElem?_cons_succ, List.getElem?_cons_zero]; rfl) (by kernel_rfl) (by kernel_rfl) (by kernel_rfl) (by intro _ _ _ h_; exact h_) (Or.inl ⟨by rfl, ?_⟩) (by assumption) ?_
      rotate_left 1
      focus (intro w_ hSw_; go_simp; try with_reducible rfl)
      simp only [Act.put, List.setIfInBounds_toArray, List.set_cons_zero, List.set_cons_succ]
      refine wpAnyH_take (i := 7) (v := ?_) (by simp only [List.getElem?_toArray, List.getElem?_cons_succ, List.getElem?_cons_zero]; rfl) (by kernel_rfl) (by kernel_rfl) (by kernel_rfl) (by intro _ _ _ h_; exact h_) (Or.inl ⟨by rfl, ?_⟩) (by assumption) ?_
      rotate_left 1
      focus (intro w_ hSw_; go_simp; try with_reducible rfl)
      simp only [Act.put, List.setIfInBounds_toArray, List.set_cons_zero, List.set_cons_succ]
      refine wpAnyH_ready (rs := [8]) (by kernel_rfl) (by simp) ?_
      refine AllReadyH.cons (by simp only [List.getElem?_toArray, List.getElem?_cons_succ, List.getElem?_cons_zero]; rfl) (fun K hK => ?_) AllReadyH.nil
      go_simp
      refine hK.out _ _ trivial (fun hHeld2 => ?_)
      clear hK K
      try simp only [Act.put, List.setIfInBounds_toArray, List.set_cons_zero, List.set_cons_succ]
      refine wpAnyH_done (by kernel_rfl) ?_ _
      clear hHeld hHeld2 hc1 hc2
      go_wp2_with fail
      go_ret
      exact ⟨_, rfl, HO.out, HG.out⟩
end Go.Proofs.Ytcbiohpgmooefaa
