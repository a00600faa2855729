/- slices.Delete of one region. No condition. -/
import Derived.Test.YtcbiohpgmooefaaRmI
import Derived.ArgAppend
set_option linter.unusedVariables false
set_option linter.unusedSimpArgs false
namespace Go.Proofs.Ytcbiohpgmooefaa
open Go.RowKit
attribute [local go_sem ↓] Go.wp_at_zero Go.wp_at_succ
def z6 : List Value := [.int .u64 0, .int .u64 0, .bool false, .bool false, .bool false, .bool false]
theorem run_clear6 (w : World) (ty : TypeId) (b o c : Nat) (hc : ∀ j, j < 6 → (w.cell? ⟨b, o + j, none⟩).isSome = true) (hf : ∀ j, j < 6 → w.frozen? ⟨b, o + j, none⟩ = false) :
    (Builtin.clear_ #[22] ty #[.slice (some ⟨b, o, none⟩) 1 c]).run Try.prog w = .ok (.tuple #[]) (w.setCells b o z6) := by
  have hz : ∀ w, (zeroValue 33).run Try.prog w = .ok (.agg z6.toArray) w := fun w => by kernel_rfl
  have hzc : (Builtin.zeroCells (Value.agg z6.toArray).cells 1).toList = z6 := by kernel_rfl
  have hst := run_storeCells_cells (P := Try.prog) b o z6 0 w (by simpa [z6] using hc) (by simpa [z6] using hf) (by intro v hv; simp only [z6, List.mem_cons, List.not_mem_nil, or_false] at hv; rcases hv with rfl | rfl | rfl | rfl | rfl | rfl <;> rfl)
  simp only [Nat.add_zero] at hst
  simp [Builtin.clear_, run_underlying Try.underlying22, hz, hzc, hst]
theorem HB.some {w : World} {b : Nat} {t : TypeId} {cs : List Value} (h : HB w b t cs) {i : Nat} (hi : i < cs.length) : (w.cell? ⟨b, i, none⟩).isSome = true := by
  rw [h.cell (List.getElem?_eq_getElem hi)]; rfl
set_option maxHeartbeats 2000000 in
theorem del_any {B : Nat} {v : Value} {t : List Rg} {w : World} (ho : OwnS rgc 33 6 w B v t) (i : Nat) (hi : i < t.length) (ht : t.length ≤ 1000) :
    Calls Try.prog 31 #[v, .int .i64 i, .int .i64 ((i + 1 : Nat) : Int)] w fun e w' => ∃ v', e = .returned v' ∧ OwnS rgc 33 6 w' B v' (t.take i ++ t.drop (i + 1)) ∧ Gr w w' v v' := by
  obtain ⟨ao, cap, rfl, h1, h2, -, -⟩ := ho.rd rgc_len
  obtain ⟨g, rfl⟩ : ∃ g, ao = some ⟨g, 0, none⟩ := by
    rcases ho.cases rgc_len with ⟨hv, h0⟩ | ⟨g, c, hv, -⟩
    · have : t.length = 0 := by rw [h0]; rfl
      omega
    · cases hv; exact ⟨g, rfl⟩
  obtain ⟨cur, hg, -, hlc, hcm, hcs, htk, hBg⟩ := ho.hb
  obtain ⟨A, hA⟩ : ∃ A, fl (t.take i) = A := ⟨_, rfl⟩
  obtain ⟨D, hD⟩ : ∃ D, fl (t.drop (i + 1)) = D := ⟨_, rfl⟩
  have hAl : A.length = i * 6 := by rw [← hA, fl_len, List.length_take, Nat.min_eq_left (by omega)]
  have hDl : D.length = (t.length - (i + 1)) * 6 := by rw [← hD, fl_len, List.length_drop]
  have hD1 : ∀ u ∈ D, u.oneCell' = true := by rw [← hD]; exact fl_one _
  have hres : fl (t.take i ++ t.drop (i + 1)) = A ++ D := by rw [← hA, ← hD]; unfold fl; rw [List.flatMap_append]
  have hrn : (t.take i ++ t.drop (i + 1)).length = t.length - 1 := by rw [List.length_append, List.length_take, List.length_drop]; omega
  have hcA : cur.take (i * 6) = A := by
    have h := cut3 (i := i) (by omega) htk
    rw [h, ← hAl, hA, List.take_left]
  have hcD : ∀ j u, D[j]? = some u → cur[(i + 1) * 6 + j]? = some u := fun j u hj => by
    have h := cut3 (i := i + 1) (by omega) htk
    have hl : (fl (t.take (i + 1))).length = (i + 1) * 6 := by rw [fl_len, List.length_take, Nat.min_eq_left (by omega)]
    have hjl := (List.getElem?_eq_some_iff.1 hj).1
    rw [h, List.getElem?_append_right (by omega), hl, Nat.add_sub_cancel_left, hD, List.getElem?_append_left hjl]
    exact hj
  generalize hn : t.length = n at *
  obtain ⟨ti, tz, hti, hz0, hz1, hz2, hz3⟩ := rgLay.info
  have hd0 : Drn w w.drew := ⟨1, rfl⟩
  have hgd := hg.drn hd0
  obtain ⟨sa, hsa⟩ : ∃ sa : Addr, (if cap = i + 1 then (⟨g, 0, none⟩ : Addr) else ⟨g, (i + 1) * 6, none⟩) = sa := ⟨_, rfl⟩
  have hap := run_append_room_cells (P := Try.prog) w.drew 22 22 33 ti Try.underlying22 hti g 0 i cap sa (n - (i + 1)) (cap - (i + 1)) D (by rw [hz1]; exact hDl) (fun j u hj => by
    have hjl := (List.getElem?_eq_some_iff.1 hj).1
    rw [← hsa, if_neg (by omega), Addr.add_lit]
    exact hgd.cell (hcD j u hj)) hD1 (by omega) (fun j hj => by rw [hz1]; exact hgd.some (by rw [hcs]; omega)) (fun j hj => hgd.frozen _)
  rw [hz1, Nat.zero_add, show i + (n - (i + 1)) = n - 1 by omega] at hap
  obtain ⟨C2, hC2⟩ : ∃ C2, cur.take (i * 6) ++ D ++ cur.drop (i * 6 + D.length) = C2 := ⟨_, rfl⟩
  have hg2 := HB.fill D cur (i * 6) hgd (by rw [hcs, hDl]; omega)
  have hgr2 := grown_setCells g D (i * 6) w.drew
  have hC2l : C2.length = cap * 6 := by rw [← hC2]; simp only [List.length_append, List.length_take, List.length_drop, hcs, hDl]; omega
  obtain ⟨w2, hw2⟩ : ∃ w2, w.drew.setCells g (i * 6) D = w2 := ⟨_, rfl⟩
  rw [hC2] at hg2
  rw [hw2] at hap hg2 hgr2
  have hcl := run_clear6 w2 0 g ((n - 1) * 6) (cap - (n - 1)) (fun j hj => hg2.some (by rw [hC2l]; omega)) (fun j hj => hg2.frozen _)
  have hg3 := HB.fill z6 C2 ((n - 1) * 6) hg2 (by rw [hC2l]; simp only [z6, List.length_cons, List.length_nil]; omega)
  have hgr3 := grown_setCells g z6 ((n - 1) * 6) w2
  obtain ⟨w3, hw3⟩ : ∃ w3, w2.setCells g ((n - 1) * 6) z6 = w3 := ⟨_, rfl⟩
  rw [hw3] at hcl hg3 hgr3
  have HO : Hid (OwnS rgc 33 6 w3 B (.slice (some ⟨g, 0, none⟩) (n - 1) cap) (t.take i ++ t.drop (i + 1))) := Lib.hid (by
    have h := OwnS.of rgc_len hg3 hBg (t.take i ++ t.drop (i + 1)) (by rw [hrn]; omega) hcm (by simp only [List.length_append, List.length_take, List.length_drop, hC2l, z6, List.length_cons, List.length_nil]; omega) (by
      rw [hrn, show (t.take i ++ t.drop (i + 1)).flatMap rgc = _ from hres]
      have e : (n - 1) * 6 = (A ++ D).length := by rw [List.length_append, hAl, hDl]; omega
      rw [List.append_assoc, List.take_append_of_le_length (by rw [List.length_take, hC2l]; omega), List.take_take, Nat.min_self, ← hC2, hcA, e, List.take_left])
    rw [hrn] at h
    exact h)
  have HG : Hid (Gr w w3 (.slice (some ⟨g, 0, none⟩) n cap) (.slice (some ⟨g, 0, none⟩) (n - 1) cap)) := Lib.hid ⟨((grown_drn hd0 _).trans hgr2).trans hgr3, fun q hq => .inl hq⟩
  clear hw2 hw3 hC2 hC2l hg2 hg3 hgr2 hgr3 hcD hcA hg hgd hd0 hcs htk hAl hDl hD1 hres hrn ho hA hD hBg hcm h2 hn hti hz0 hz1 hz2 hz3
  have m1 : (i : Int) ≤ (n : Int) := by omega
  have m2 : ((i + 1 : Nat) : Int) ≤ (n : Int) := by omega
  have m3 : ((i + 1 : Nat) : Int) ≤ (cap : Int) := by omega
  have m4 : (i : Int) ≤ (cap : Int) := by omega
  have m5 : ((n - 1 : Nat) : Int) ≤ (n : Int) := by omega
  have m6 : (n : Int) ≤ (cap : Int) := by omega
  have m7 : ¬ cap = n - 1 := by omega
  have m8 : n - (n - 1) = 1 := by omega
  go_enter Try.func31, Try.ntmps31
  have hsa' : (if cap = i + 1 then (some ⟨g, 0, none⟩ : Option Addr) else some ⟨g, (i + 1) * 6, none⟩) = some sa := by rw [← hsa]; split <;> rfl
  clear hsa
  go_upto_region 5 with fail
  refine wp_region_held_drew (S := fun _ => True) (by kernel_rfl) trivial (fun hHeld => ?_)
  have m9 : (0 : Int) ≤ (i : Int) + 1 := by omega
  have m10 : (i : Int) + 1 ≤ (n : Int) := by omega
  refine wpAnyH_take (i := 0) (v := ?_) (by simp only [List.getElem?_toArray, List.getElem?_cons_succ, List.getElem?_cons_zero]; rfl) (by kernel_rfl) (by kernel_rfl) (by kernel_rfl) (by intro _ _ _ h_; exact h_) (Or.inl ⟨by rfl, ?_⟩) (by assumption) ?_
  rotate_left 1
  focus (intro w_ hSw_; go_simp; try with_reducible rfl)
  simp only [Act.put, List.setIfInBounds_toArray, List.set_cons_zero, List.set_cons_succ]
  refine wpAnyH_take (i := 1) (v := ?_) (by simp only [List.getElem?_toArray, List.getElem?_cons_succ, List.getElem?_cons_zero]; rfl) (by kernel_rfl) (by kernel_rfl) (by kernel_rfl) (by intro _ _ _ h_; exact h_) (Or.inl ⟨by rfl, ?_⟩) (by assumption) ?_
  rotate_left 1
  focus (intro w_ hSw_; go_simp; try with_reducible rfl)
  simp only [Act.put, List.setIfInBounds_toArray, List.set_cons_zero, List.set_cons_succ]
  refine wpAnyH_take (i := 2) (v := ?_) (by simp only [List.getElem?_toArray, List.getElem?_cons_succ, List.getElem?_cons_zero]; rfl) (by kernel_rfl) (by kernel_rfl) (by kernel_rfl) (by intro _ _ _ h_; exact h_) (Or.inl ⟨by rfl, ?_⟩) (by assumption) ?_
  rotate_left 1
  focus (intro w_ hSw_; go_simp; try with_reducible rfl)
  simp only [Act.put, List.setIfInBounds_toArray, List.set_cons_zero, List.set_cons_succ]
  refine wpAnyH_take (i := 3) (v := ?_) (by simp only [List.getElem?_toArray, List.getElem?_cons_succ, List.getElem?_cons_zero]; rfl) (by kernel_rfl) (by kernel_rfl) (by kernel_rfl) (by intro _ _ _ h_; exact h_) (Or.inl ⟨by rfl, ?_⟩) (by assumption) ?_
  rotate_left 1
  focus (intro w_ hSw_; go_simp; try with_reducible rfl)
  simp only [Act.put, List.setIfInBounds_toArray, List.set_cons_zero, List.set_cons_succ]
  refine wpAnyH_take (i := 4) (v := ?_) (by simp only [List.getElem?_toArray, List.getElem?_cons_succ, List.getElem?_cons_zero]; rfl) (by kernel_rfl) (by kernel_rfl) (by kernel_rfl) (by intro _ _ _ h_; exact h_) (Or.inl ⟨by rfl, ?_⟩) (by assumption) ?_
  rotate_left 1
  focus (intro w_ hSw_; go_simp; try with_reducible rfl)
  simp only [Act.put, List.setIfInBounds_toArray, List.set_cons_zero, List.set_cons_succ]
  refine wpAnyH_take (i := 5) (v := ?_) (by simp only [List.getElem?_toArray, List.getElem?_cons_succ, List.getElem?_cons_zero]; rfl) (by kernel_rfl) (by kernel_rfl) (by kernel_rfl) (by intro _ _ _ h_; exact h_) (Or.inl ⟨by rfl, ?_⟩) (by assumption) ?_
  rotate_left 1
  focus (intro w_ hSw_; go_simp; try with_reducible rfl)
  simp only [Act.put, List.setIfInBounds_toArray, List.set_cons_zero, List.set_cons_succ]
  refine wpAnyH_ready (rs := [6]) (by kernel_rfl) (by simp) ?_
  refine AllReadyH.cons (by simp only [List.getElem?_toArray, List.getElem?_cons_succ, List.getElem?_cons_zero]; rfl) (fun K hK => ?_) AllReadyH.nil
  refine step_of_wp rfl (Go.Lib.wp_append_run _ _ _ _ _ rfl (.slice (some ⟨g, 0, none⟩) i cap) (.slice (some sa) (n - (i + 1)) (cap - (i + 1))) rfl rfl _ _ hap ?_)
  refine hK.out _ _ trivial (fun hHeld2 => ?_)
  clear hK K
  try simp only [Act.put, List.setIfInBounds_toArray, List.set_cons_zero, List.set_cons_succ]
  refine wpAnyH_take (i := 7) (v := ?_) (by simp only [List.getElem?_toArray, List.getElem?_cons_succ, List.getElem?_cons_zero]; rfl) (by kernel_rfl) (by kernel_rfl) (by kernel_rfl) (by intro _ _ _ h_; exact h_) (Or.inl ⟨by rfl, ?_⟩) (by assumption) ?_
  rotate_left 1
  focus (intro w_ hSw_; go_simp; try with_reducible rfl)
  simp only [Act.put, List.setIfInBounds_toArray, List.set_cons_zero, List.set_cons_succ]
  refine wpAnyH_done (by kernel_rfl) ?_ _
  clear hHeld hHeld2 hap hsa' m9 m10
  go_wp2_with fail
  go_ret
  exact ⟨_, rfl, HO.out, HG.out⟩
/-- what Drop looks for -/
theorem pick_any (g : Rg) (X b : Nat) (w : World) (hX : w.cell? ⟨X, 0, none⟩ = some (.int .u64 b)) :
    Calls Try.prog 30 #[rgv g, .pointer (some ⟨X, 0, none⟩)] w fun e w' => e = .returned (.bool (decide (g.base = b))) ∧ Below w.heap.size w w' := by
  obtain ⟨gb, gn, gr, gw, gx, gs⟩ := g
  unfold rgv
  dsimp only
  have hXa := fun o => cell_later ((Below.refl w.heap.size w).alloc (Nat.le_refl _) o) hX
  have HB := fun o => Lib.hid ((Below.refl _ w).alloc (Nat.le_refl _) o)
  by_cases h : gb = b
  · subst h
    have i1 : ((gb : Int) == (gb : Int)) = true := beq_self_eq_true _
    go_enter Try.func30, Try.ntmps30
    go_wp2_with fail
    go_ret
    exact ⟨by simp, (HB _).out⟩
  · have i1 : ((gb : Int) == (b : Int)) = false := beq_false_of_ne (by omega)
    have i2 : ¬ (gb : Int) = (b : Int) := by omega
    have Hd := Lib.hid (show decide (gb = b) = false from decide_eq_false h)
    clear h
    go_enter Try.func30, Try.ntmps30
    go_wp2_with fail
    go_ret
    exact ⟨by rw [Hd.out]; rfl, (HB _).out⟩
end Go.Proofs.Ytcbiohpgmooefaa
