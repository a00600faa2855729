/- The program's hash: State. No condition. -/
import Derived.Test.YtngkelflfahjbaaDoorShaWr
import Derived.Deep.RegionHeld3
import Derived.Deep.RegionWith
import Derived.Deep.DrawnRows
set_option linter.unusedVariables false
set_option linter.unusedSimpArgs false
namespace Go.Proofs.YtngkelflfahjbaaDoor
open Go.RowKit
attribute [local go_sem ↓] Go.wp_at_zero Go.wp_at_succ
theorem Own.made8 {E : TypeId} (w : World) (B : Nat) (l : List UInt8) (hB : B ≤ w.heap.size) (hm : l.length ≤ 9223372036854775807) :
    Own E (w.alloc (.cells (l.map bv).toArray E)) B (.slice (some ⟨w.heap.size, 0, none⟩) l.length l.length) l :=
  ⟨by simp, .inr ⟨w.heap.size, l.length, _, rfl, hB, heap_alloc_new w _, Nat.le_refl _, by simpa [maxLen] using hm, by simp, by
    rw [List.take_of_length_le (by simp)]⟩⟩
/-- a state as bytes -/
def stateL (k : Nat) (st : S8) (n : Nat) (rest : List UInt8) : List UInt8 := [UInt8.ofNat k] ++ encL 8 true n ++ wordsL (wK k) (s8l st) ++ rest
theorem hashC_k (k : Nat) (st : S8) (n : Nat) (rv : Value) : (hashC k st n rv)[0]? = some (.int .u8 k) := rfl
theorem ofNat_k {k : Nat} (hk : 1 ≤ k ∧ k ≤ 3) : bv (UInt8.ofNat k) = .int .u8 (k : Nat) := by
  rcases (by omega : k = 1 ∨ k = 2 ∨ k = 3) with rfl | rfl | rfl <;> rfl
set_option maxRecDepth 100000 in
set_option maxHeartbeats 1000000 in
theorem pstate_any (hb k : Nat) (st : S8) (n : Nat) (ra : Option Addr) (rn rc : Nat) (rest : List UInt8) (w : World) (hk : 1 ≤ k ∧ k ≤ 3) (hH : HB w hb 67 (hashC k st n (.slice ra rn rc)))
    (hl : rest.length = rn) (hrn : rn ≤ 140737488354000) (hra : ra = none → rc = 0) (hr : Rd w ra rest) :
    Calls Tryd.prog 21 #[.pointer (some ⟨hb, 0, none⟩)] w fun e w' => ∃ v, e = .returned v ∧ Own 5 w' w.heap.size v (stateL k st n rest) ∧ Below w.heap.size w w' := by
  have Hk := Lib.hid hk
  have Hl := Lib.hid hl
  have Hrn := Lib.hid hrn
  have Hra := Lib.hid hra
  have HkS := Lib.hid (fun w' (h : Below w.heap.size w w') => And.intro ((hH.later h).cell (hashC_k k st n (.slice ra rn rc))) (And.intro ((hH.later h).cell (hashC_n k st n (.slice ra rn rc))) ((hH.later h).cell (hashC_rv k st n (.slice ra rn rc)))))
  have HHs := Lib.hid (fun w' (h : Below w.heap.size w w') => hH.later h)
  have Hrs := Lib.hid (fun w' (h : Below w.heap.size w w') => hr.below h)
  have ek := Lib.hid (ofNat_k hk)
  clear hk hl hrn hra hr hH
  go_enter Tryd.func21, Tryd.ntmps21
  go_upto_region 3 with fail
  as_aux_lemma =>
  have h0 : Below w.heap.size w w.drew := (⟨1, rfl⟩ : Drn w w.drew).below _
  refine wp_region_held_drew (S := fun w' => w'.cell? ⟨hb, 0, none⟩ = some (.int .u8 (k : Nat)) ∧ w'.cell? ⟨hb, 19, none⟩ = some (.int .u64 (n : Nat)) ∧ w'.cell? ⟨hb, 20, none⟩ = some (.slice ra rn rc)) (by kernel_rfl) (HkS.out _ h0) (fun hHeld => ?_)
  refine wpAnyH_take (i := 0) (v := ?_) (by simp only [List.getElem?_toArray, List.getElem?_cons_succ, List.getElem?_cons_zero]; rfl) (by kernel_rfl) (by kernel_rfl) (by kernel_rfl) (by intro _ _ _ h_; exact h_) (Or.inl ⟨by rfl, ?_⟩) (by assumption) ?_
  rotate_left 1
  focus (intro w_ hSw_; go_simp; try with_reducible rfl)
  simp only [Act.put, List.setIfInBounds_toArray, List.set_cons_zero, List.set_cons_succ]
  refine wpAnyH_take (i := 1) (v := ?_) (by simp only [List.getElem?_toArray, List.getElem?_cons_succ, List.getElem?_cons_zero]; rfl) (by kernel_rfl) (by kernel_rfl) (by kernel_rfl) (by intro _ _ _ h_; exact h_) (Or.inl ⟨by rfl, ?_⟩) (by assumption) ?_
  rotate_left 1
  focus (intro w_ hSw_; go_simp; try with_reducible rfl)
  simp only [Act.put, List.setIfInBounds_toArray, List.set_cons_zero, List.set_cons_succ]
  refine wpAnyH_take (i := 2) (v := ?_) (by simp only [List.getElem?_toArray, List.getElem?_cons_succ, List.getElem?_cons_zero]; rfl) (by kernel_rfl) (by kernel_rfl) (by kernel_rfl) (by intro _ _ _ h_; exact h_) (Or.inl ⟨by rfl, ?_⟩) (by assumption) ?_
  rotate_left 1
  focus (intro w_ hSw_; go_simp; try with_reducible rfl)
  simp only [Act.put, List.setIfInBounds_toArray, List.set_cons_zero, List.set_cons_succ]
  refine wpAnyH_take (i := 3) (v := ?_) (by simp only [List.getElem?_toArray, List.getElem?_cons_succ, List.getElem?_cons_zero]; rfl) (by kernel_rfl) (by kernel_rfl) (by kernel_rfl) (by intro _ _ _ h_; exact h_) (Or.inl ⟨by rfl, ?_⟩) (by assumption) ?_
  rotate_left 1
  focus (intro w_ hSw_; go_simp; try with_reducible rfl)
  simp only [Act.put, List.setIfInBounds_toArray, List.set_cons_zero, List.set_cons_succ]
  refine wpAnyH_take (i := 4) (v := ?_) (by simp only [List.getElem?_toArray, List.getElem?_cons_succ, List.getElem?_cons_zero]; rfl) (by kernel_rfl) (by kernel_rfl) (by kernel_rfl) (by intro _ _ _ h_; exact h_) (Or.inl ⟨by rfl, ?_⟩) (by assumption) ?_
  rotate_left 1
  focus (intro w_ hSw_; go_simp; try with_reducible rfl)
  simp only [Act.put, List.setIfInBounds_toArray, List.set_cons_zero, List.set_cons_succ]
  refine wpAnyH_take (i := 6) (v := ?_) (by simp only [List.getElem?_toArray, List.getElem?_cons_succ, List.getElem?_cons_zero]; rfl) (by kernel_rfl) (by kernel_rfl) (by kernel_rfl) (by intro _ _ _ h_; exact h_) (Or.inl ⟨by rfl, ?_⟩) (by assumption) ?_
  rotate_left 1
  focus (intro w_ hSw_; go_simp; try with_reducible rfl)
  simp only [Act.put, List.setIfInBounds_toArray, List.set_cons_zero, List.set_cons_succ]
  refine wpAnyH_take (i := 7) (v := ?_) (by simp only [List.getElem?_toArray, List.getElem?_cons_succ, List.getElem?_cons_zero]; rfl) (by kernel_rfl) (by kernel_rfl) (by kernel_rfl) (by intro _ _ _ h_; exact h_) (Or.inl ⟨by rfl, ?_⟩) (by assumption) ?_
  rotate_left 1
  focus (intro w_ hSw_; go_simp; try with_reducible rfl)
  simp only [Act.put, List.setIfInBounds_toArray, List.set_cons_zero, List.set_cons_succ]
  refine wpAnyH_take (i := 8) (v := ?_) (by simp only [List.getElem?_toArray, List.getElem?_cons_succ, List.getElem?_cons_zero]; rfl) (by kernel_rfl) (by kernel_rfl) (by kernel_rfl) (by intro _ _ _ h_; exact h_) (Or.inl ⟨by rfl, ?_⟩) (by assumption) ?_
  rotate_left 1
  focus (intro w_ hSw_; go_simp; try with_reducible rfl)
  simp only [Act.put, List.setIfInBounds_toArray, List.set_cons_zero, List.set_cons_succ]
  refine wpAnyH_take (i := 9) (v := ?_) (by simp only [List.getElem?_toArray, List.getElem?_cons_succ, List.getElem?_cons_zero]; rfl) (by kernel_rfl) (by kernel_rfl) (by kernel_rfl) (by intro _ _ _ h_; exact h_) (Or.inl ⟨by rfl, ?_⟩) (by assumption) ?_
  rotate_left 1
  focus (intro w_ hSw_; go_simp; try with_reducible rfl)
  simp only [Act.put, List.setIfInBounds_toArray, List.set_cons_zero, List.set_cons_succ]
  have h1 : Below w.heap.size w (w.drew.alloc (.cells #[.int .u8 (k : Nat)] 5)) := h0.alloc (Nat.le_refl _) _
  refine wpAnyH_ready (rs := [5]) (by kernel_rfl) (by simp) ?_
  refine AllReadyH.cons (by simp only [List.getElem?_toArray, List.getElem?_cons_succ, List.getElem?_cons_zero]; rfl) (fun K hK => ?_) AllReadyH.nil
  go_simp
  refine hK.out _ _ (HkS.out _ h1) (fun hHeld2 => ?_)
  clear hK K
  try simp only [Act.put, List.setIfInBounds_toArray, List.set_cons_zero, List.set_cons_succ]
  have Hm := Lib.hid (Own.made8 (E := 5) w.drew w.heap.size [UInt8.ofNat k] (Nat.le_refl _) (by simp))
  rw [show ([UInt8.ofNat k].map bv).toArray = #[Value.int .u8 (k : Nat)] by rw [List.map_cons, List.map_nil, ek.out]] at Hm
  have Hpu := Lib.hid (sput_any w.heap.size _ _ 8 n _ Hm.out (by decide) h1.size (by simp))
  refine wpAnyH_ready (rs := [10]) (by kernel_rfl) (by simp) ?_
  refine AllReadyH.cons (by simp only [List.getElem?_toArray, List.getElem?_cons_succ, List.getElem?_cons_zero]; rfl) (fun K hK => ?_) AllReadyH.nil
  go_simp
  refine Hpu.out.mono ?_
  rintro e w4 ⟨v4, rfl, ho4, hg4, hs4⟩
  have h4 : Below w.heap.size w w4 := h1.trans (((Below.refl _ _).grown hg4.g h1.size (fun q hq => (own_blk Hm.out hq).1)))
  go_wp2_with fail
  refine hK.out _ _ (HkS.out _ h4) (fun hHeld3 => ?_)
  clear hHeld hHeld2
  clear hK K
  try simp only [Act.put, List.setIfInBounds_toArray, List.set_cons_zero, List.set_cons_succ]
  have hHeld := HkS.out _ h4
  refine wpAnyH_take (i := 11) (v := ?_) (by simp only [List.getElem?_toArray, List.getElem?_cons_succ, List.getElem?_cons_zero]; rfl) (by kernel_rfl) (by kernel_rfl) (by kernel_rfl) (by intro _ _ _ h_; exact h_) (Or.inl ⟨by rfl, ?_⟩) (by assumption) ?_
  rotate_left 1
  focus (intro w_ hSw_; go_simp; try with_reducible rfl)
  simp only [Act.put, List.setIfInBounds_toArray, List.set_cons_zero, List.set_cons_succ]
  refine wpAnyH_done (by kernel_rfl) ?_ _
  have Ho4 := Lib.hid ho4
  have HB4 := Lib.hid h4
  have Hz4 := Lib.hid hs4
  clear hHeld hHeld3 ho4 hg4 hs4 h4 h1 h0 Hpu Hm
  go_upto_region 4 with fail
  as_aux_lemma =>
  have h0 : Below w.heap.size w w4.drew := HB4.out.trans ((⟨1, rfl⟩ : Drn w4 w4.drew).below _)
  have Ho5 : Hid (Own 5 w4.drew w.heap.size v4 ([UInt8.ofNat k] ++ encL 8 true n)) := Lib.hid (Ho4.out.grown (grown_drn (⟨1, rfl⟩ : Drn w4 w4.drew) none) (fun k _ e => by cases e))
  have Hwd := Lib.hid (words_any hb k st n (.slice ra rn rc) w4.drew Hk.out (HHs.out _ h0))
  refine wp_region_held_drew (S := fun w' => w'.cell? ⟨hb, 0, none⟩ = some (.int .u8 (k : Nat)) ∧ w'.cell? ⟨hb, 19, none⟩ = some (.int .u64 (n : Nat)) ∧ w'.cell? ⟨hb, 20, none⟩ = some (.slice ra rn rc)) (by kernel_rfl) (HkS.out _ h0) (fun hHeld => ?_)
  refine wpAnyH_take (i := 0) (v := ?_) (by simp only [List.getElem?_toArray, List.getElem?_cons_succ, List.getElem?_cons_zero]; rfl) (by kernel_rfl) (by kernel_rfl) (by kernel_rfl) (by intro _ _ _ h_; exact h_) (Or.inl ⟨by rfl, ?_⟩) (by assumption) ?_
  rotate_left 1
  focus (intro w_ hSw_; go_simp; try with_reducible rfl)
  simp only [Act.put, List.setIfInBounds_toArray, List.set_cons_zero, List.set_cons_succ]
  refine wpAnyH_take (i := 1) (v := ?_) (by simp only [List.getElem?_toArray, List.getElem?_cons_succ, List.getElem?_cons_zero]; rfl) (by kernel_rfl) (by kernel_rfl) (by kernel_rfl) (by intro _ _ _ h_; exact h_) (Or.inl ⟨by rfl, ?_⟩) (by assumption) ?_
  rotate_left 1
  focus (intro w_ hSw_; go_simp; try with_reducible rfl)
  simp only [Act.put, List.setIfInBounds_toArray, List.set_cons_zero, List.set_cons_succ]
  refine wpAnyH_take (i := 4) (v := ?_) (by simp only [List.getElem?_toArray, List.getElem?_cons_succ, List.getElem?_cons_zero]; rfl) (by kernel_rfl) (by kernel_rfl) (by kernel_rfl) (by intro _ _ _ h_; exact h_) (Or.inl ⟨by rfl, ?_⟩) (by assumption) ?_
  rotate_left 1
  focus (intro w_ hSw_; go_simp; try with_reducible rfl)
  simp only [Act.put, List.setIfInBounds_toArray, List.set_cons_zero, List.set_cons_succ]
  refine wpAnyH_take (i := 5) (v := ?_) (by simp only [List.getElem?_toArray, List.getElem?_cons_succ, List.getElem?_cons_zero]; rfl) (by kernel_rfl) (by kernel_rfl) (by kernel_rfl) (by intro _ _ _ h_; exact h_) (Or.inl ⟨by rfl, ?_⟩) (by assumption) ?_
  rotate_left 1
  focus (intro w_ hSw_; go_simp; try with_reducible rfl)
  simp only [Act.put, List.setIfInBounds_toArray, List.set_cons_zero, List.set_cons_succ]
  refine wpAnyH_take (i := 6) (v := ?_) (by simp only [List.getElem?_toArray, List.getElem?_cons_succ, List.getElem?_cons_zero]; rfl) (by kernel_rfl) (by kernel_rfl) (by kernel_rfl) (by intro _ _ _ h_; exact h_) (Or.inl ⟨by rfl, ?_⟩) (by assumption) ?_
  rotate_left 1
  focus (intro w_ hSw_; go_simp; try with_reducible rfl)
  simp only [Act.put, List.setIfInBounds_toArray, List.set_cons_zero, List.set_cons_succ]
  refine wpAnyH_take (i := 7) (v := ?_) (by simp only [List.getElem?_toArray, List.getElem?_cons_succ, List.getElem?_cons_zero]; rfl) (by kernel_rfl) (by kernel_rfl) (by kernel_rfl) (by intro _ _ _ h_; exact h_) (Or.inl ⟨by rfl, ?_⟩) (by assumption) ?_
  rotate_left 1
  focus (intro w_ hSw_; go_simp; try with_reducible rfl)
  simp only [Act.put, List.setIfInBounds_toArray, List.set_cons_zero, List.set_cons_succ]
  refine wpAnyH_ready (rs := [2]) (by kernel_rfl) (by simp) ?_
  refine AllReadyH.cons (by simp only [List.getElem?_toArray, List.getElem?_cons_succ, List.getElem?_cons_zero]; rfl) (fun K hK => ?_) AllReadyH.nil
  go_simp
  refine Hwd.out.mono ?_
  rintro e w6 ⟨v6, rfl, ho6, hb6⟩
  have h6 : Below w.heap.size w w6 := h0.trans (hb6.mono h0.size)
  go_wp2_with fail
  refine hK.out _ _ (HkS.out _ h6) (fun hHeld2 => ?_)
  clear hHeld
  clear hK K
  try simp only [Act.put, List.setIfInBounds_toArray, List.set_cons_zero, List.set_cons_succ]
  have hHeld := HkS.out _ h6
  obtain ⟨a6, c6, rfl, h61, h62, h63, h64, h65⟩ := ho6.rd3
  have ho7 := Ho5.out.later hb6
  have hwl : (wordsL (wK k) (s8l st)).length ≤ 64 := by
    rw [wordsL_len, s8l_len]
    unfold wK
    split <;> decide
  refine wpAnyH_ready (rs := [3]) (by kernel_rfl) (by simp) ?_
  refine AllReadyH.cons (by simp only [List.getElem?_toArray, List.getElem?_cons_succ, List.getElem?_cons_zero]; rfl) (fun K hK => ?_) AllReadyH.nil
  refine step_of_wp rfl (wp_append_gr byteRow02 _ _ rfl w.heap.size v4 _ rfl ho7 a6 (wordsL (wK k) (s8l st)).length c6 (wordsL (wK k) (s8l st)) rfl rfl h63 h64 (by rw [List.length_append, encL_length]; simp; omega) h6.size (fun v8 w8 ho8 hg8 => ?_))
  have h8 : Below w.heap.size w w8 := h6.trans ((Below.refl _ _).grown hg8.g h6.size (fun q hq => (own_blk ho7 hq).1))
  refine hK.out _ _ (HkS.out _ h8) (fun hHeld3 => ?_)
  clear hHeld hHeld2
  clear hK K
  try simp only [Act.put, List.setIfInBounds_toArray, List.set_cons_zero, List.set_cons_succ]
  have hHeld := HkS.out _ h8
  refine wpAnyH_ready (rs := [8]) (by kernel_rfl) (by simp) ?_
  refine AllReadyH.cons (by simp only [List.getElem?_toArray, List.getElem?_cons_succ, List.getElem?_cons_zero]; rfl) (fun K hK => ?_) AllReadyH.nil
  refine step_of_wp rfl (wp_append_gr byteRow02 _ _ rfl w.heap.size v8 _ rfl ho8 ra rn rc rest rfl Hl.out (Hrs.out _ h8) Hra.out (by rw [List.length_append, List.length_append, encL_length]; have := Hrn.out; simp; omega) h8.size (fun v9 w9 ho9 hg9 => ?_))
  have h9 : Below w.heap.size w w9 := h8.trans ((Below.refl _ _).grown hg9.g h8.size (fun q hq => (own_blk ho8 hq).1))
  refine hK.out _ _ (HkS.out _ h9) (fun hHeld4 => ?_)
  clear hHeld hHeld3
  clear hK K
  try simp only [Act.put, List.setIfInBounds_toArray, List.set_cons_zero, List.set_cons_succ]
  have hHeld := HkS.out _ h9
  refine wpAnyH_take (i := 9) (v := ?_) (by simp only [List.getElem?_toArray, List.getElem?_cons_succ, List.getElem?_cons_zero]; rfl) (by kernel_rfl) (by kernel_rfl) (by kernel_rfl) (by intro _ _ _ h_; exact h_) (Or.inl ⟨by rfl, ?_⟩) (by assumption) ?_
  rotate_left 1
  focus (intro w_ hSw_; go_simp; try with_reducible rfl)
  simp only [Act.put, List.setIfInBounds_toArray, List.set_cons_zero, List.set_cons_succ]
  refine wpAnyH_done (by kernel_rfl) ?_ _
  have Ho9 := Lib.hid ho9
  have HB9 := Lib.hid h9
  clear hHeld hHeld4 ho9 h9 h8 ho8 ho7 h6 h61 h62 h63 h64 h65 hwl hg8 hg9 ho6 hb6 h0
  go_wp2_with fail
  go_ret
  exact ⟨v9, rfl, Ho9.out, HB9.out⟩
end Go.Proofs.YtngkelflfahjbaaDoor
