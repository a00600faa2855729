/- The program's Open of bytes that are no state. No condition. (Written by shaob.py; the two first cases and the join by hand, there too.) -/
import Derived.Test.YtngkelflfahjbaaDoorShaOp
set_option linter.unusedVariables false
set_option linter.unusedSimpArgs false
namespace Go.Proofs.YtngkelflfahjbaaDoor
open Go.RowKit
attribute [local go_sem ↓] Go.wp_at_zero Go.wp_at_succ build_ho
set_option maxRecDepth 100000 in
set_option maxHeartbeats 2000000 in
theorem popen_bad3 (ao : Option Addr) (len cap : Nat) (l : List UInt8) (w : World) (k n : Nat) (hl : l.length = len) (hlen : len ≤ 140737488355000) (hcap : len ≤ cap) (hnil : ao = none → cap = 0) (hr : Rd w ao l) (hlt : ∀ a, ao = some a → a.block < w.heap.size)
    (hk : 1 ≤ k ∧ k ≤ 3) (hk0 : (l[0]?.getD 0).toNat = k) (hn : beN (piece l 1 8) = n) (h9 : 9 ≤ len) (hbad : ¬ (n ≤ 2305843009213693951 ∧ len = 9 + wK k + n % sizeW (wK k))) :
    Calls Tryd.prog 23 #[.slice ao len cap] w fun e w' => e = .returned (.tuple #[.pointer none, .int .i64 23]) ∧ Below w.heap.size w w' := by
  have hW := size_kind hk
  have hnb : n < 18446744073709551616 := by
    have h := beN_lt (piece l 1 8)
    rw [hn] at h
    have h2 : (piece l 1 8).length ≤ 8 := by unfold piece; rw [List.length_take]; exact Nat.min_le_left _ _
    exact Nat.lt_of_lt_of_le h (Nat.pow_le_pow_right (by decide) h2)
  have Hnb := Lib.hid hnb
  have H99 := Lib.hid h9
  clear hnb
  obtain ⟨b0, o0, hao, hc0⟩ := hr 0 (by omega)
  rw [hk0, Nat.add_zero] at hc0
  obtain ⟨k1, hk1⟩ : ∃ k1, k = k1 + 1 := ⟨k - 1, by omega⟩
  have g1 : IntKind.u8.wrap ((k : Int) - 1) = (k1 : Int) := by
    rcases (by omega : k = 1 ∨ k = 2 ∨ k = 3) with rfl | rfl | rfl
    · obtain rfl : k1 = 0 := by omega
      decide
    · obtain rfl : k1 = 1 := by omega
      decide
    · obtain rfl : k1 = 2 := by omega
      decide
  have hidx := fun w => idx_kind k1 (by omega) w
  rw [← hk1] at hidx
  have hbld := fun w => run_buildHo k n (by omega) w
  have g2 : ¬ (len : Int) < 9 := by omega
  have g3 : ¬ (k : Int) < 1 := by omega
  have g4 : ¬ (3 : Int) < (k : Int) := by omega
  have g5 : (0 : Int) < (len : Int) := by omega
  have g6 : 0 < len := by omega
  obtain ⟨bo, hsl, -, hslr⟩ := slice_bytes byteRow02 ao len cap 1 9 (by omega) (by omega) .i64 .i64
  have Hwo := Lib.hid (fun w' (h : Below w.heap.size w w') => word_any bo 8 (cap - 1) (piece l 1 8) w' (by unfold piece; rw [List.length_take, List.length_drop]; omega) (by decide) (hslr w' l (hr.below h) hl h9))
  rw [hn] at Hwo
  have HkS := Lib.hid (fun w' (h : Below w.heap.size w w') => (cell_later h hc0))
  have Hl := Lib.hid hl
  have Hlen0 := Lib.hid hlen
  have Hcap := Lib.hid hcap
  have Hnil := Lib.hid hnil
  have Hr := Lib.hid hr
  have Hlt := Lib.hid hlt
  have Hk := Lib.hid hk
  have Hbad := Lib.hid hbad
  clear hl hlen hcap hnil hr hlt hk hk0 hn hbad hslr hk1
  push_cast at hsl
  try simp only [Nat.reduceSub] at hsl
  subst hao
  go_enter Tryd.func23, Tryd.ntmps23
  go_upto_region 3 with fail
  as_aux_lemma =>
  clear hc0 g2 g3 g4
  have h0 : Below w.heap.size w w.drew := (⟨1, rfl⟩ : Drn w w.drew).below _
  refine wp_region_held_drew (S := fun w' => w'.cell? ⟨b0, o0, none⟩ = some (.int .u8 (k : Nat))) (by kernel_rfl) (HkS.out _ h0) (fun hHeld => ?_)
  refine wpAnyH_take (i := 1) (v := ?_) (by simp only [List.getElem?_toArray, List.getElem?_cons_succ, List.getElem?_cons_zero]; rfl) (by kernel_rfl) (by kernel_rfl) (by kernel_rfl) (by intro _ _ _ h_; exact h_) (Or.inl ⟨by rfl, ?_⟩) (by assumption) ?_
  rotate_left 1
  focus (intro w_ hSw_; go_simp; try with_reducible rfl)
  simp only [Act.put, List.setIfInBounds_toArray, List.set_cons_zero, List.set_cons_succ]
  refine wpAnyH_take (i := 2) (v := ?_) (by simp only [List.getElem?_toArray, List.getElem?_cons_succ, List.getElem?_cons_zero]; rfl) (by kernel_rfl) (by kernel_rfl) (by kernel_rfl) (by intro _ _ _ h_; exact h_) (Or.inl ⟨by rfl, ?_⟩) (by assumption) ?_
  rotate_left 1
  focus (intro w_ hSw_; go_simp; try with_reducible rfl)
  simp only [Act.put, List.setIfInBounds_toArray, List.set_cons_zero, List.set_cons_succ]
  refine wpAnyH_take (i := 3) (v := ?_) (by simp only [List.getElem?_toArray, List.getElem?_cons_succ, List.getElem?_cons_zero]; rfl) (by kernel_rfl) (by kernel_rfl) (by kernel_rfl) (by intro _ _ _ h_; exact h_) (Or.inl ⟨by rfl, ?_⟩) (by assumption) ?_
  rotate_left 1
  focus (intro w_ hSw_; go_simp; try with_reducible rfl)
  simp only [Act.put, List.setIfInBounds_toArray, List.set_cons_zero, List.set_cons_succ]
  refine wpAnyH_take (i := 4) (v := ?_) (by simp only [List.getElem?_toArray, List.getElem?_cons_succ, List.getElem?_cons_zero]; rfl) (by kernel_rfl) (by kernel_rfl) (by kernel_rfl) (by intro _ _ _ h_; exact h_) (Or.inl ⟨by rfl, ?_⟩) (by assumption) ?_
  rotate_left 1
  focus (intro w_ hSw_; go_simp; try with_reducible rfl)
  simp only [Act.put, List.setIfInBounds_toArray, List.set_cons_zero, List.set_cons_succ]
  refine wpAnyH_take (i := 6) (v := ?_) (by simp only [List.getElem?_toArray, List.getElem?_cons_succ, List.getElem?_cons_zero]; rfl) (by kernel_rfl) (by kernel_rfl) (by kernel_rfl) (by intro _ _ _ h_; exact h_) (Or.inl ⟨by rfl, ?_⟩) (by assumption) ?_
  rotate_left 1
  focus (intro w_ hSw_; go_simp; try with_reducible rfl)
  simp only [Act.put, List.setIfInBounds_toArray, List.set_cons_zero, List.set_cons_succ]
  refine wpAnyH_take (i := 7) (v := ?_) (by simp only [List.getElem?_toArray, List.getElem?_cons_succ, List.getElem?_cons_zero]; rfl) (by kernel_rfl) (by kernel_rfl) (by kernel_rfl) (by intro _ _ _ h_; exact h_) (Or.inl ⟨by rfl, ?_⟩) (by assumption) ?_
  rotate_left 1
  focus (intro w_ hSw_; go_simp; try with_reducible rfl)
  simp only [Act.put, List.setIfInBounds_toArray, List.set_cons_zero, List.set_cons_succ]
  refine wpAnyH_ready (rs := [0]) (by kernel_rfl) (by simp) ?_
  refine AllReadyH.cons (by simp only [List.getElem?_toArray, List.getElem?_cons_succ, List.getElem?_cons_zero]; rfl) (fun K hK => ?_) AllReadyH.nil
  go_simp
  refine (kinds_any w.drew).mono ?_
  rintro e w3 ⟨rfl, hbk_⟩
  have h3 : Below w.heap.size w w3 := h0.trans (hbk_.mono h0.size)
  clear hbk_
  go_wp2_with fail
  refine hK.out _ _ (HkS.out _ h3) (fun hHeld2 => ?_)
  clear hHeld hHeld2
  clear hK K
  try simp only [Act.put, List.setIfInBounds_toArray, List.set_cons_zero, List.set_cons_succ]
  have hHeld := HkS.out _ h3
  refine wpAnyH_take (i := 5) (v := ?_) (by simp only [List.getElem?_toArray, List.getElem?_cons_succ, List.getElem?_cons_zero]; rfl) (by kernel_rfl) (by kernel_rfl) (by kernel_rfl) (by intro _ _ _ h_; exact h_) (Or.inl ⟨by rfl, ?_⟩) (by assumption) ?_
  rotate_left 1
  focus (intro w_ hSw_; go_simp; try with_reducible rfl)
  simp only [Act.put, List.setIfInBounds_toArray, List.set_cons_zero, List.set_cons_succ]
  refine wpAnyH_ready (rs := [8]) (by kernel_rfl) (by simp) ?_
  refine AllReadyH.cons (by simp only [List.getElem?_toArray, List.getElem?_cons_succ, List.getElem?_cons_zero]; rfl) (fun K hK => ?_) AllReadyH.nil
  go_simp
  refine (Hwo.out _ h3).mono ?_
  rintro e w_ ⟨rfl, rfl⟩
  go_wp2_with fail
  refine hK.out _ _ (HkS.out _ h3) (fun hHeld2 => ?_)
  clear hHeld hHeld2
  clear hK K
  try simp only [Act.put, List.setIfInBounds_toArray, List.set_cons_zero, List.set_cons_succ]
  have hHeld := HkS.out _ h3
  refine wpAnyH_take (i := 9) (v := ?_) (by simp only [List.getElem?_toArray, List.getElem?_cons_succ, List.getElem?_cons_zero]; rfl) (by kernel_rfl) (by kernel_rfl) (by kernel_rfl) (by intro _ _ _ h_; exact h_) (Or.inl ⟨by rfl, ?_⟩) (by assumption) ?_
  rotate_left 1
  focus (intro w_ hSw_; go_simp; try with_reducible rfl)
  simp only [Act.put, List.setIfInBounds_toArray, List.set_cons_zero, List.set_cons_succ]
  refine wpAnyH_ready (rs := [10]) (by kernel_rfl) (by simp) ?_
  refine AllReadyH.cons (by simp only [List.getElem?_toArray, List.getElem?_cons_succ, List.getElem?_cons_zero]; rfl) (fun K hK => ?_) AllReadyH.nil
  go_simp
  refine hK.out _ _ (HkS.out _ (h3.alloc h3.size _)) (fun hHeld2 => ?_)
  clear hHeld
  clear hK K
  try simp only [Act.put, List.setIfInBounds_toArray, List.set_cons_zero, List.set_cons_succ]
  have hHeld := hHeld2
  refine wpAnyH_take (i := 11) (v := ?_) (by simp only [List.getElem?_toArray, List.getElem?_cons_succ, List.getElem?_cons_zero]; rfl) (by kernel_rfl) (by kernel_rfl) (by kernel_rfl) (by intro _ _ _ h_; exact h_) (Or.inl ⟨by rfl, ?_⟩) (by assumption) ?_
  rotate_left 1
  focus (intro w_ hSw_; go_simp; try with_reducible rfl)
  simp only [Act.put, List.setIfInBounds_toArray, List.set_cons_zero, List.set_cons_succ]
  refine wpAnyH_done (by kernel_rfl) ?_ _
  clear hHeld hHeld2 HkS Hwo hidx hbld hsl g1 g5 g6
  have HH5 := Lib.hid (HB.new w3 (hashC k zS8 n (.slice none 0 0)) 67)
  have hsw := h3.size
  obtain ⟨H, hH⟩ : ∃ H, (w3).heap.size = H := ⟨_, rfl⟩
  have HB5 := Lib.hid (h3.alloc h3.size (.cells (hashC k zS8 n (.slice none 0 0)).toArray 67))
  have Hlt5 : Hid (∀ a, some (⟨b0, o0, none⟩ : Addr) = some a → a.block < H) := Lib.hid (fun a e => by have := Hlt.out a e; omega)
  have Hr5 := Lib.hid (Hr.out.below HB5.out)
  have HHw : Hid (w.heap.size ≤ H) := Lib.hid (by omega)
  have Hs6 : Hid (H < ((w3).alloc (.cells (hashC k zS8 n (.slice none 0 0)).toArray 67)).heap.size) := Lib.hid (by simp; omega)
  rw [hH] at HH5 ⊢
  generalize (w3).alloc (.cells (hashC k zS8 n (.slice none 0 0)).toArray 67) = w5 at *
  generalize (some (⟨b0, o0, none⟩ : Addr)) = ao at *
  have HH6 := HH5
  have Hr := Hr5
  have HltH := Hlt5
  clear hsw hH Hr5 Hlt5 Hlt h0 h9 h3
  rcases hW with ⟨-, hw, hz⟩ | ⟨-, hw, hz⟩
  · have Hw := Lib.hid hw
    have Hkb := Lib.hid (kblock_any H k zS8 n (.slice none 0 0) w5 Hk.out HH6.out)
    rw [hz, hw] at Hbad
    rw [hz] at Hkb
    clear hw hz
    go_wp2_with fail
    as_aux_lemma =>
    refine Hkb.out.mono ?_
    rintro e w_ ⟨rfl, rfl⟩
    clear Hkb
    have k19 := HH6.out.cell (hashC_n k zS8 n (.slice none 0 0))
    obtain ⟨R, hR⟩ : ∃ R, n % 64 = R := ⟨_, rfl⟩
    obtain ⟨D, hD⟩ : ∃ D, len - 9 = D := ⟨_, rfl⟩
    obtain ⟨E, hE⟩ : ∃ E, 32 + R = E := ⟨_, rfl⟩
    have hbad := Hbad.out
    have hlen0 := Hlen0.out
    have hnb := Hnb.out
    have h99 := H99.out
    rw [hR] at hbad
    have e2 : IntKind.i64.wrap ((len : Int) - 9) = (D : Int) := by rw [IntWalk.i64_in _ (by omega)]; omega
    have e5 : (n : Int) % 64 = (R : Int) := by rw [← hR]; rfl
    have e5' : (n : Int).tmod 64 = (R : Int) := by rw [Int.tmod_eq_emod_of_nonneg (by omega)]; exact e5
    have e5w : IntKind.u64.wrap (R : Int) = (R : Int) := IntWalk.u64_in _ (by omega)
    have e5i : IntKind.i64.wrap (R : Int) = (R : Int) := IntWalk.i64_in _ (by omega)
    have e6 : IntKind.i64.wrap (32 + (R : Int)) = (E : Int) := by rw [IntWalk.i64_in _ (by omega)]; omega
    by_cases hn : n ≤ 2305843009213693951
    · have e1 : ¬ (2305843009213693951 : Int) < (n : Int) := by omega
      have hDE : ¬ D = E := fun h => hbad ⟨hn, by omega⟩
      have e7 : ((D : Int) == (E : Int)) = false := beq_eq_false_iff_ne.2 (by omega)
      have e8 : ((D : Int) != (E : Int)) = true := bne_iff_ne.2 (by omega)
      have e9 : ¬ (D : Int) = (E : Int) := by omega
      clear hR hD hE hbad hlen0 hnb h99 hDE
      go_wp2_with fail
      go_ret2
      exact ⟨rfl, HB5.out⟩
    · have e1 : (2305843009213693951 : Int) < (n : Int) := by omega
      clear hR hD hE hbad hlen0 hnb h99
      go_wp2_with fail
      go_ret2
      exact ⟨rfl, HB5.out⟩
  · have Hw := Lib.hid hw
    have Hkb := Lib.hid (kblock_any H k zS8 n (.slice none 0 0) w5 Hk.out HH6.out)
    rw [hz, hw] at Hbad
    rw [hz] at Hkb
    clear hw hz
    go_wp2_with fail
    as_aux_lemma =>
    refine Hkb.out.mono ?_
    rintro e w_ ⟨rfl, rfl⟩
    clear Hkb
    have k19 := HH6.out.cell (hashC_n k zS8 n (.slice none 0 0))
    obtain ⟨R, hR⟩ : ∃ R, n % 128 = R := ⟨_, rfl⟩
    obtain ⟨D, hD⟩ : ∃ D, len - 9 = D := ⟨_, rfl⟩
    obtain ⟨E, hE⟩ : ∃ E, 64 + R = E := ⟨_, rfl⟩
    have hbad := Hbad.out
    have hlen0 := Hlen0.out
    have hnb := Hnb.out
    have h99 := H99.out
    rw [hR] at hbad
    have e2 : IntKind.i64.wrap ((len : Int) - 9) = (D : Int) := by rw [IntWalk.i64_in _ (by omega)]; omega
    have e5 : (n : Int) % 128 = (R : Int) := by rw [← hR]; rfl
    have e5' : (n : Int).tmod 128 = (R : Int) := by rw [Int.tmod_eq_emod_of_nonneg (by omega)]; exact e5
    have e5w : IntKind.u64.wrap (R : Int) = (R : Int) := IntWalk.u64_in _ (by omega)
    have e5i : IntKind.i64.wrap (R : Int) = (R : Int) := IntWalk.i64_in _ (by omega)
    have e6 : IntKind.i64.wrap (64 + (R : Int)) = (E : Int) := by rw [IntWalk.i64_in _ (by omega)]; omega
    by_cases hn : n ≤ 2305843009213693951
    · have e1 : ¬ (2305843009213693951 : Int) < (n : Int) := by omega
      have hDE : ¬ D = E := fun h => hbad ⟨hn, by omega⟩
      have e7 : ((D : Int) == (E : Int)) = false := beq_eq_false_iff_ne.2 (by omega)
      have e8 : ((D : Int) != (E : Int)) = true := bne_iff_ne.2 (by omega)
      have e9 : ¬ (D : Int) = (E : Int) := by omega
      clear hR hD hE hbad hlen0 hnb h99 hDE
      go_wp2_with fail
      go_ret2
      exact ⟨rfl, HB5.out⟩
    · have e1 : (2305843009213693951 : Int) < (n : Int) := by omega
      clear hR hD hE hbad hlen0 hnb h99
      go_wp2_with fail
      go_ret2
      exact ⟨rfl, HB5.out⟩
/-- may bytes be opened? -/
structure OpOk (l : List UInt8) (k n : Nat) : Prop where
  h9 : 9 ≤ l.length
  hk : 1 ≤ k ∧ k ≤ 3
  hk0 : (l[0]?.getD 0).toNat = k
  hn : beN (piece l 1 8) = n
  hn2 : n ≤ 2305843009213693951
  hsz : l.length = 9 + wK k + n % sizeW (wK k)
theorem popen_bad (ao : Option Addr) (len cap : Nat) (l : List UInt8) (w : World) (hl : l.length = len) (hlen : len ≤ 140737488355000) (hcap : len ≤ cap) (hnil : ao = none → cap = 0) (hr : Rd w ao l) (hlt : 0 < len → ∀ a, ao = some a → a.block < w.heap.size) (hno : ¬ ∃ k n, OpOk l k n) :
    Calls Tryd.prog 23 #[.slice ao len cap] w fun e w' => e = .returned (.tuple #[.pointer none, .int .i64 23]) ∧ Below w.heap.size w w' := by
  by_cases h9 : 9 ≤ len
  · by_cases hk : 1 ≤ (l[0]?.getD 0).toNat ∧ (l[0]?.getD 0).toNat ≤ 3
    · exact popen_bad3 ao len cap l w _ _ hl hlen hcap hnil hr (hlt (by omega)) hk rfl rfl h9 (fun h => hno ⟨_, _, ⟨by omega, hk, rfl, rfl, h.1, by rw [hl]; exact h.2⟩⟩)
    · obtain ⟨b0, o0, rfl, hc0⟩ := hr 0 (by omega)
      generalize (l[0]?.getD 0).toNat = k at *
      rw [Nat.add_zero] at hc0
      have g2 : ¬ (len : Int) < 9 := by omega
      have g5 : (0 : Int) < (len : Int) := by omega
      have g6 : 0 < len := by omega
      by_cases h1 : k < 1
      · have g3 : (k : Int) < 1 := by omega
        clear hr hlt hno hl hlen hcap hnil hk h1 h9
        go_enter Tryd.func23, Tryd.ntmps23
        go_wp2_with fail
        go_ret2
        exact ⟨rfl, Below.refl _ _⟩
      · have g3 : ¬ (k : Int) < 1 := by omega
        have g4 : (3 : Int) < (k : Int) := by omega
        clear hr hlt hno hl hlen hcap hnil hk h1 h9
        go_enter Tryd.func23, Tryd.ntmps23
        go_wp2_with fail
        go_ret2
        exact ⟨rfl, Below.refl _ _⟩
  · have g2 : (len : Int) < 9 := by omega
    clear hr hlt hno hl hlen hcap hnil h9
    go_enter Tryd.func23, Tryd.ntmps23
    go_wp2_with fail
    go_ret2
    exact ⟨rfl, Below.refl _ _⟩
end Go.Proofs.YtngkelflfahjbaaDoor
