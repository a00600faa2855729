/- The program's hash: Reset, and New of what there is not. No condition. -/
import Derived.Test.YtngkelflfahjbaaDoorShaJ
import Derived.Test.YtngkelflfahjbaaDoorShaE
import Derived.Test.YtngkelflfahjbaaDoorShaM
import Derived.Deep.RegionHeld3
import Derived.Deep.DrawnRows
set_option linter.unusedVariables false
set_option linter.unusedSimpArgs false
namespace Go.Proofs.YtngkelflfahjbaaDoor
open Go.RowKit
attribute [local go_sem ↓] Go.wp_at_zero Go.wp_at_succ ld_a build_hs
def ldK (p : Value) : Sem Value := Instr.loadAt 65 p
theorem ld_k (p : Value) : Instr.loadAt 65 p = ldK p := rfl
def stH (p v : Value) : Sem Unit := Instr.storeAt 67 p v
theorem st_h (p v : Value) : Instr.storeAt 67 p v = stH p v := rfl
theorem run_ldK {w : World} {b o k : Nat} (h : w.rangeAt b o (kdC k)) : (ldK (.pointer (some ⟨b, o, none⟩))).run Tryd.prog w = .ok (.agg (kdC k).toArray) w :=
  run_loadAt_mid (P := Tryd.prog) w b o 65 (kdC k) _ h Tryd.underlying65 rfl (by show _ = some 11; kernel_rfl)
theorem run_stH {w : World} {b : Nat} {t : TypeId} {old : List Value} (k : Nat) (st : S8) (n : Nat) (h : HB w b t old) (ho : old.length = 21) : (stH (.pointer (some ⟨b, 0, none⟩)) (.agg (hashC k st n (.slice none 0 0)).toArray)).run Tryd.prog w = .ok () (w.setRow b (hashC k st n (.slice none 0 0)).toArray) := by
  have hv := run_storeVar_row (P := Tryd.prog) w b t 67 old.toArray (hashC k st n (.slice none 0 0)).toArray h (by rw [List.size_toArray]; exact hashInfo k st n _) (by rw [List.size_toArray, List.size_toArray, hashC_len, ho]) (hashC_one k st n none 0 0)
  unfold stH
  simp only [Instr.storeAt, Instr.sureAddr, Sem.run_bind, Sem.run_pure, Result.andThen_ok, hv]
attribute [local go_sem ↓] ld_k st_h
set_option maxRecDepth 100000 in
set_option maxHeartbeats 1000000 in
theorem preset_any (hb k : Nat) (st : S8) (n : Nat) (ra : Option Addr) (rn rc : Nat) (w : World) (hk : 1 ≤ k ∧ k ≤ 3) (hH : HB w hb 67 (hashC k st n (.slice ra rn rc))) :
    Calls Tryd.prog 19 #[.pointer (some ⟨hb, 0, none⟩)] w fun e w' => e = .returned (.tuple #[]) ∧ HB w' hb 67 (hashC k (firstK k) 0 (.slice none 0 0)) ∧ Frm (fun q => q = hb) w w' := by
  have Hk := Lib.hid hk
  have HH := Lib.hid (show HB w.drew hb 67 (hashC k st n (.slice ra rn rc)) from hH)
  have l1 := run_ldK (k := k) (show w.drew.rangeAt hb 0 (kdC k) from HH.out.range 0 11)
  have l2 := run_ldA (s := firstK k) (show w.drew.rangeAt hb 3 ((s8l (firstK k)).map u64v) from HH.out.range 3 8)
  have l3 := run_stH k (firstK k) 0 HH.out (hashC_len _ _ _ _)
  have L12 := Lib.hid (And.intro l1 l2)
  have Hb := Lib.hid (fun w => run_buildHs k (by omega) w)
  clear hk hH l1 l2
  go_enter Tryd.func19, Tryd.ntmps19
  go_upto_region 1 with fail
  as_aux_lemma =>
  refine wp_region_held_drew (S := fun w' => (ldK (.pointer (some ⟨hb, 0, none⟩))).run Tryd.prog w' = .ok (.agg (kdC k).toArray) w' ∧ (ldA (.pointer (some ⟨hb, 3, none⟩))).run Tryd.prog w' = .ok (.agg ((s8l (firstK k)).map u64v).toArray) w') (by kernel_rfl) L12.out (fun hHeld => ?_)
  refine wpAnyH_take (i := 0) (v := ?_) (by simp only [List.getElem?_toArray, List.getElem?_cons_succ, List.getElem?_cons_zero]; rfl) (by kernel_rfl) (by kernel_rfl) (by kernel_rfl) (by intro _ _ _ h_; exact h_) (Or.inl ⟨by rfl, ?_⟩) (by assumption) ?_
  rotate_left 1
  focus (intro w_ hSw_; go_simp; try with_reducible rfl)
  simp only [Act.put, List.setIfInBounds_toArray, List.set_cons_zero, List.set_cons_succ]
  refine wpAnyH_take (i := 1) (v := ?_) (by simp only [List.getElem?_toArray, List.getElem?_cons_succ, List.getElem?_cons_zero]; rfl) (by kernel_rfl) (by kernel_rfl) (by kernel_rfl) (by intro _ _ _ h_; exact h_) (Or.inl ⟨by rfl, ?_⟩) (by assumption) ?_
  rotate_left 1
  focus (intro w_ hSw_; go_simp; try with_reducible rfl)
  simp only [Act.put, List.setIfInBounds_toArray, List.set_cons_zero, List.set_cons_succ]
  refine wpAnyH_take (i := 2) (v := ?_) (by simp only [List.getElem?_toArray, List.getElem?_cons_succ, List.getElem?_cons_zero]; rfl) (by kernel_rfl) (by kernel_rfl) (by kernel_rfl) (by intro _ _ _ h_; exact h_) (Or.inl ⟨by rfl, ?_⟩) (by assumption) ?_
  rotate_left 1
  focus (intro w_ hSw_; go_simp; try with_reducible rfl)
  simp only [Act.put, List.setIfInBounds_toArray, List.set_cons_zero, List.set_cons_succ]
  refine wpAnyH_take (i := 3) (v := ?_) (by simp only [List.getElem?_toArray, List.getElem?_cons_succ, List.getElem?_cons_zero]; rfl) (by kernel_rfl) (by kernel_rfl) (by kernel_rfl) (by intro _ _ _ h_; exact h_) (Or.inl ⟨by rfl, ?_⟩) (by assumption) ?_
  rotate_left 1
  focus (intro w_ hSw_; go_simp; try with_reducible rfl)
  simp only [Act.put, List.setIfInBounds_toArray, List.set_cons_zero, List.set_cons_succ]
  refine wpAnyH_take (i := 4) (v := ?_) (by simp only [List.getElem?_toArray, List.getElem?_cons_succ, List.getElem?_cons_zero]; rfl) (by kernel_rfl) (by kernel_rfl) (by kernel_rfl) (by intro _ _ _ h_; exact h_) (Or.inl ⟨by rfl, ?_⟩) (by assumption) ?_
  rotate_left 1
  focus (intro w_ hSw_; go_simp; try with_reducible rfl)
  simp only [Act.put, List.setIfInBounds_toArray, List.set_cons_zero, List.set_cons_succ]
  refine wpAnyH_take (i := 5) (v := ?_) (by simp only [List.getElem?_toArray, List.getElem?_cons_succ, List.getElem?_cons_zero]; rfl) (by kernel_rfl) (by kernel_rfl) (by kernel_rfl) (by intro _ _ _ h_; exact h_) (Or.inl ⟨by rfl, ?_⟩) (by assumption) ?_
  rotate_left 1
  focus (intro w_ hSw_; go_simp; try with_reducible rfl)
  simp only [Act.put, List.setIfInBounds_toArray, List.set_cons_zero, List.set_cons_succ]
  refine wpAnyH_take (i := 6) (v := ?_) (by simp only [List.getElem?_toArray, List.getElem?_cons_succ, List.getElem?_cons_zero]; rfl) (by kernel_rfl) (by kernel_rfl) (by kernel_rfl) (by intro _ _ _ h_; exact h_) (Or.inl ⟨by rfl, ?_⟩) (by assumption) ?_
  rotate_left 1
  focus (intro w_ hSw_; go_simp; try with_reducible rfl)
  simp only [Act.put, List.setIfInBounds_toArray, List.set_cons_zero, List.set_cons_succ]
  refine wpAnyH_take (i := 7) (v := ?_) (by simp only [List.getElem?_toArray, List.getElem?_cons_succ, List.getElem?_cons_zero]; rfl) (by kernel_rfl) (by kernel_rfl) (by kernel_rfl) (by intro _ _ _ h_; exact h_) (Or.inl ⟨by rfl, ?_⟩) (by assumption) ?_
  rotate_left 1
  focus (intro w_ hSw_; go_simp; try with_reducible rfl)
  simp only [Act.put, List.setIfInBounds_toArray, List.set_cons_zero, List.set_cons_succ]
  refine wpAnyH_take (i := 8) (v := ?_) (by simp only [List.getElem?_toArray, List.getElem?_cons_succ, List.getElem?_cons_zero]; rfl) (by kernel_rfl) (by kernel_rfl) (by kernel_rfl) (by intro _ _ _ h_; exact h_) (Or.inl ⟨by rfl, ?_⟩) (by assumption) ?_
  rotate_left 1
  focus (intro w_ hSw_; go_simp; try with_reducible rfl)
  simp only [Act.put, List.setIfInBounds_toArray, List.set_cons_zero, List.set_cons_succ]
  refine wpAnyH_take (i := 9) (v := ?_) (by simp only [List.getElem?_toArray, List.getElem?_cons_succ, List.getElem?_cons_zero]; rfl) (by kernel_rfl) (by kernel_rfl) (by kernel_rfl) (by intro _ _ _ h_; exact h_) (Or.inl ⟨by rfl, ?_⟩) (by assumption) ?_
  rotate_left 1
  focus (intro w_ hSw_; go_simp; try with_reducible rfl)
  simp only [Act.put, List.setIfInBounds_toArray, List.set_cons_zero, List.set_cons_succ]
  have hbw := fun w => Hb.out w
  refine wpAnyH_take (i := 10) (v := ?_) (by simp only [List.getElem?_toArray, List.getElem?_cons_succ, List.getElem?_cons_zero]; rfl) (by kernel_rfl) (by kernel_rfl) (by kernel_rfl) (by intro _ _ _ h_; exact h_) (Or.inl ⟨by rfl, ?_⟩) (by assumption) ?_
  rotate_left 1
  focus (intro w_ hSw_; go_simp; try with_reducible rfl)
  simp only [Act.put, List.setIfInBounds_toArray, List.set_cons_zero, List.set_cons_succ]
  refine wpAnyH_take (i := 11) (v := ?_) (by simp only [List.getElem?_toArray, List.getElem?_cons_succ, List.getElem?_cons_zero]; rfl) (by kernel_rfl) (by kernel_rfl) (by kernel_rfl) (by intro _ _ _ h_; exact h_) (Or.inl ⟨by rfl, ?_⟩) (by assumption) ?_
  rotate_left 1
  focus (intro w_ hSw_; go_simp; try with_reducible rfl)
  simp only [Act.put, List.setIfInBounds_toArray, List.set_cons_zero, List.set_cons_succ]
  refine wpAnyH_ready (rs := [12]) (by kernel_rfl) (by simp) ?_
  refine AllReadyH.cons (by simp only [List.getElem?_toArray, List.getElem?_cons_succ, List.getElem?_cons_zero]; rfl) (fun K hK => ?_) AllReadyH.nil
  go_simp
  have HN : Hid (HB (w.drew.setRow hb (hashC k (firstK k) 0 (.slice none 0 0)).toArray) hb 67 (hashC k (firstK k) 0 (.slice none 0 0))) := Lib.hid (setRow_heap _ _ _ _ _ _ HH.out)
  refine hK.out _ _ ⟨run_ldK (k := k) (HN.out.range 0 11), run_ldA (s := firstK k) (HN.out.range 3 8)⟩ (fun hHeld => ?_)
  refine wpAnyH_done (by kernel_rfl) ?_ _
  have HF : Hid (Frm (fun q => q = hb) w (w.drew.setRow hb (hashC k (firstK k) 0 (.slice none 0 0)).toArray)) := Lib.hid ((Frm.drn ⟨1, rfl⟩).trans (Frm.grown (grown_row w.drew hb _) (fun q e => (Option.some.inj e).symm)))
  clear hHeld l3 hbw hK K
  go_wp2_with fail
  go_end0
  exact ⟨rfl, HN.out, HF.out⟩
theorem ne_dig {d : Int} (h1 : d ≠ 256) (h2 : d ≠ 384) (h3 : d ≠ 512) {t : Nat} (ht : t < 3) : ¬ ((digK (t + 1) : Int) * 8 = d) := by
  rcases (by omega : t = 0 ∨ t = 1 ∨ t = 2) with rfl | rfl | rfl
  · show ¬ ((32 : Int) * 8 = d); omega
  · show ¬ ((48 : Int) * 8 = d); omega
  · show ¬ ((64 : Int) * 8 = d); omega
set_option maxRecDepth 100000 in
set_option maxHeartbeats 1000000 in
theorem new_none (d : Int) (w : World) (h1 : d ≠ 256) (h2 : d ≠ 384) (h3 : d ≠ 512) :
    Calls Tryd.prog 30 #[.int .i64 d] w fun e w' => e = .returned (.tuple #[.pointer none, .int .i64 21]) ∧ Below w.heap.size w w' := by
  have hz : ∀ w, (zeroValue 65).run Tryd.prog w = .ok (.agg kzz.toArray) w := fun w => by kernel_rfl
  have Hi3 : Hid (∀ t : Nat, t < 3 → ∀ w, (Instr.index 70 (.agg kall.toArray) (.int .i64 (t : Int))).run Tryd.prog w = .ok (.agg (kdC (t + 1)).toArray) w) := Lib.hid (fun t ht w => by
    rcases (by omega : t = 0 ∨ t = 1 ∨ t = 2) with rfl | rfl | rfl <;> kernel_rfl)
  have Hik : Hid (∀ j, (Tryd.prog.info? 65).map (·.size) = some (kdC j).toArray.size) := Lib.hid (fun j => by show _ = some 11; kernel_rfl)
  have Hne := Lib.hid (fun (t : Nat) ht => ne_dig h1 h2 h3 (t := t) ht)
  clear h1 h2 h3
  go_enter Tryd.func30, Tryd.ntmps30
  go_wp2_with fail
  refine (kinds_any w).mono ?_
  rintro e w1 ⟨rfl, hb1⟩
  have HB1 := Lib.hid hb1
  clear hb1
  go_wp2_with fail
  as_aux_lemma =>
  go_loopw [5, 7] (fun _ i wr => NeIn 4 w i wr) (fun _ i _ => 3 - (intOf i).toNat)
  case atStart => exact ⟨0, by omega, rfl, HB1.out⟩
  case round =>
    as_aux_lemma =>
    clear HB1
    obtain ⟨t, ht, rfl, hb⟩ := hrel
    have HBw := Lib.hid hb
    by_cases ht3 : t < 3
    · have hidx := Hi3.out t ht3
      have HV := Lib.hid (HB.new wr kzz 65)
      have HW : Hid (HB ((wr.alloc (.cells kzz.toArray 65)).setRow wr.heap.size (kdC (t + 1)).toArray) wr.heap.size 65 (kdC (t + 1))) := Lib.hid (setRow_heap _ _ _ _ _ _ HV.out)
      have HB5 := Lib.hid ((hb.alloc hb.size (.cells kzz.toArray 65)).grown (grown_row (wr.alloc (.cells kzz.toArray 65)) wr.heap.size (kdC (t + 1)).toArray) (by have := hb.size; simp; omega) (fun x hx => by have := Option.some.inj hx; have := hb.size; omega))
      have Hsz : Hid (kzz.toArray.size = (kdC (t + 1)).toArray.size) := Lib.hid rfl
      have Hone := Lib.hid (kd_one (t + 1))
      have hik := Hik.out (t + 1)
      have Hikt := Lib.hid hik
      have i1 : (t : Int) < 3 := by omega
      have hne := Hne.out t ht3
      clear hb hik
      go_upto_region 4 with (refine wpList_store_row rfl _ _ _ rfl wr.heap.size (kdC (t + 1)).toArray rfl rfl _ _ HV.out Hikt.out Hsz.out Hone.out ?_)
      as_aux_lemma =>
      clear hz hidx HV HBw Hsz Hone Hikt
      generalize ((wr.alloc (.cells kzz.toArray 65)).setRow wr.heap.size (kdC (t + 1)).toArray) = w5 at *
      generalize wr.heap.size = VB at *
      have k2 : w5.cell? ⟨VB, 2, none⟩ = some (.int .i64 (digK (t + 1) : Int)) := HW.out.cell (i := 2) rfl
      obtain ⟨d1, hd1⟩ : ∃ d, digK (t + 1) = d := ⟨_, rfl⟩
      have hdl : d1 ≤ 64 := by
        rw [← hd1]; unfold digK; split
        · decide
        · split <;> decide
      rw [hd1] at k2 hne
      have s1 : IntKind.i64.wrap ((d1 : Int) * 8) = (d1 : Int) * 8 := IntWalk.i64_in _ (by omega)
      have s2 : ((d1 : Int) * 8 == d) = false := beq_eq_false_iff_ne.2 hne
      clear hne hdl hd1
      go_wp2_with fail
      clear s1 s2 k2
      first
      | (go_roundw
         case rel => exact ⟨t + 1, by omega, by go_num, HB5.out⟩
         case measure => (first | omega | (simp [intOf] <;> omega) | (simp only [intOf] <;> omega)))
      | exact ⟨⟨t + 1, by omega, by go_num, HB5.out⟩, by (first | omega | (simp [intOf] <;> omega) | (simp only [intOf] <;> omega))⟩
      | (refine ⟨?_, by (first | omega | (simp [intOf] <;> omega) | (simp only [intOf] <;> omega))⟩
         (repeat apply Exists.intro)
         refine (fun a b => And.intro b a) ?_ ?_
         · first | rfl | ((repeat refine ⟨rfl, ?_⟩); rfl)
         exact ⟨t + 1, by omega, by go_num, HB5.out⟩)
    · have i1 : ¬ (t : Int) < 3 := by omega
      clear hb
      go_wp2_with fail
      go_ret2
      exact ⟨rfl, HBw.out⟩
end Go.Proofs.YtngkelflfahjbaaDoor
