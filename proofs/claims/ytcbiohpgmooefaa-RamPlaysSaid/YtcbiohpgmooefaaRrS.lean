/- The document's RAM: bytes are written. No condition. -/
import Derived.Test.YtcbiohpgmooefaaRrA
import Derived.Deep.DeepCutAuto
import Derived.Deep.RegionHeld3
import Derived.Deep.DrawnRows
set_option linter.unusedVariables false
set_option linter.unusedSimpArgs false
namespace Go.Proofs.Ytcbiohpgmooefaa
open Go.RowKit
attribute [local go_sem ↓] Go.wp_at_zero Go.wp_at_succ
theorem RefM.other {B R : Nat} {m : List UInt8} {tv : Value} {t : List Rg} {w w' : World} {K : Nat → Prop} (h : RefM B R m tv t w) (hf : Frm K w w') (h1 : ¬ K R) (h2 : ∀ k, tv.ownBlock = some k → ¬ K k) : RefM B R m tv t w' :=
  ⟨h.h.frm hf h1, h.l, h.o.frm hf h2, h.tb, h.b, h.nv⟩
theorem ramC_put {m : List UInt8} {tv : Value} {j : Nat} (h : j < m.length) (y : UInt8) : (ramC m tv).set j (.int .u8 y.toNat) = ramC (m.set j y) tv := by
  unfold ramC
  rw [List.set_append_left _ _ (by rw [List.length_map]; exact h), List.map_set]
  rfl
theorem RefM.put {B R : Nat} {m : List UInt8} {tv : Value} {t : List Rg} {w : World} (h : RefM B R m tv t w) {j : Nat} (hj : j < 65536) (y : UInt8) : RefM B R (m.set j y) tv t (w.setCell ⟨R, j, none⟩ (.int .u8 y.toNat)) ∧ Frm (fun q => q = R) w (w.setCell ⟨R, j, none⟩ (.int .u8 y.toNat)) := by
  have hs := h.h.set j (.int .u8 y.toNat)
  rw [ramC_put (by rw [h.l]; exact hj)] at hs
  have hf : Frm (fun q => q = R) w (w.setCell ⟨R, j, none⟩ (.int .u8 y.toNat)) := Frm.grown (grown_set w ⟨R, j, none⟩ _) (fun k h => (Option.some.inj h).symm)
  exact ⟨⟨hs, by rw [List.length_set]; exact h.l, h.o.frm hf (fun k hk e => h.nv (by rw [hk, e])), h.tb, h.b, h.nv⟩, hf⟩
structure RsIn (B R : Nat) (m : List UInt8) (tv : Value) (t : List Rg) (o : Nat) (b : List UInt8) (w : World) (kv : Value) (wr : World) : Prop where
  x : ∃ k : Nat, k ≤ b.length ∧ kv = .int .i64 k ∧ RefM B R (spl m o (b.take k)) tv t wr ∧ Frm (fun q => q = R) w wr
set_option maxHeartbeats 2000000 in
theorem rset_any {B R : Nat} {m : List UInt8} {tv : Value} {t : List Rg} {w : World} (h : RefM B R m tv t w) (x : Nat) (ao : Option Addr) (n cap : Nat) (b : List UInt8) (hl : b.length = n) (hin : inRam x n = true) (hr : ∀ w', Frm (fun q => q = R) w w' → Rd w' ao b) :
    Calls Try.prog 49 #[.pointer (some ⟨R, 0, none⟩), .int .u64 x, .slice ao n cap] w fun e w' => e = .returned (.tuple #[]) ∧ RefM B R (spl m (x - 1073741824) b) tv t w' ∧ Frm (fun q => q = R) w w' := by
  have hi := inRam_iff.1 hin
  obtain ⟨o, ho⟩ : ∃ o, x - 1073741824 = o := ⟨_, rfl⟩
  rw [ho]
  have e1 : (x : Int) - 1073741824 = (o : Int) := by omega
  have Hon := fun (_ : Unit) => Lib.hid (show o + n ≤ 65536 by omega)
  have Hl := fun (_ : Unit) => Lib.hid hl
  have Hml := fun (_ : Unit) => Lib.hid h.l
  have Hr := Lib.hid hr
  have H0 := Lib.hid (show RefM B R (spl m o (b.take 0)) tv t w by rw [List.take_zero, spl_nil]; exact h)
  clear h hin hi ho hl hr
  go_enter Try.func49, Try.ntmps49
  go_wp2_with fail
  go_loopw [6] (fun kv wr => RsIn B R m tv t o b w kv wr) (fun kv _ => n - (intOf kv).toNat)
  case atStart => exact ⟨0, Nat.zero_le _, rfl, H0.out, Frm.refl _ _⟩
  case round =>
    clear H0
    obtain ⟨k, hk, rfl, hR, hf⟩ := hrel
    have HR := Lib.hid hR
    have Hf := Lib.hid hf
    have hon := (Hon ()).out
    have hlb := (Hl ()).out
    by_cases hkn : k < n
    · have q1 : (k : Int) < (n : Int) := by omega
      obtain ⟨A, hA⟩ : ∃ A, o + k = A := ⟨_, rfl⟩
      have p0 : IntKind.u64.wrap (k : Int) = (k : Int) := IntWalk.u64_in _ (by omega)
      have p1 : (o : Int) + (k : Int) = (A : Int) := by omega
      have p2 : (A : Int) < 65536 := by omega
      have p3 : IntKind.u64.wrap (o : Int) = (o : Int) := IntWalk.u64_in _ (by omega)
      have p4 : IntKind.u64.wrap (A : Int) = (A : Int) := IntWalk.u64_in _ (by omega)
      have hd : Drn wr wr.drew := ⟨1, rfl⟩
      obtain ⟨b0, o0, rfl, hc⟩ := (Hr.out _ (hf.trans (Frm.drn hd))) k (by omega)
      have hsn : spl m o (b.take (k + 1)) = (spl m o (b.take k)).set A (b[k]?.getD 0) := by
        have h1 := take_snoc8 b k (by omega)
        rw [h1, spl_snoc (by rw [List.length_take, (Hml ()).out]; omega), List.length_take, Nat.min_eq_left (by omega), hA]
      have hRd := hR.later (hd.below _)
      obtain ⟨hP, hPf⟩ := hRd.put (j := A) (by omega) (b[k]?.getD 0)
      rw [← hsn] at hP
      obtain ⟨v0, kc⟩ : ∃ v0, wr.drew.cell? ⟨R, A, none⟩ = some v0 := ⟨_, hRd.h.cell (List.getElem?_eq_getElem (show A < (ramC (spl m o (b.take k)) tv).length by rw [ramC_len, hR.l]; omega))⟩
      have kf := hRd.h.frozen A
      have HP := fun (_ : Unit) => Lib.hid (And.intro hP ((hf.trans (Frm.drn hd)).trans hPf))
      have hc2 : (wr.drew.setCell ⟨R, A, none⟩ (.int .u8 (b[k]?.getD 0).toNat)).cell? ⟨b0, o0 + k, none⟩ = some (.int .u8 (b[k]?.getD 0).toNat) := by
        obtain ⟨b9, o9, e9, hc9⟩ := (Hr.out _ ((hf.trans (Frm.drn hd)).trans hPf)) k (by omega)
        cases e9
        exact hc9
      generalize b[k]?.getD 0 = y at *
      clear hA hsn hRd hP hPf hR hf hd hon
      go_upto_region 3 with fail
      refine wp_region_held_drew (S := fun w' => w'.cell? ⟨b0, o0 + k, none⟩ = some (.int .u8 y.toNat)) (by kernel_rfl) hc (fun hHeld => ?_)
      refine wpAnyH_take (i := 0) (v := ?_) (by simp only [List.getElem?_toArray, List.getElem?_cons_succ, List.getElem?_cons_zero]; rfl) (by kernel_rfl) (by kernel_rfl) (by kernel_rfl) (by intro _ _ _ h_; exact h_) (Or.inl ⟨by rfl, ?_⟩) (by assumption) ?_
      rotate_left 1
      focus (intro w_ hSw_; go_simp; try with_reducible rfl)
      simp only [Act.put, List.setIfInBounds_toArray, List.set_cons_zero, List.set_cons_succ]
      refine wpAnyH_take (i := 1) (v := ?_) (by simp only [List.getElem?_toArray, List.getElem?_cons_succ, List.getElem?_cons_zero]; rfl) (by kernel_rfl) (by kernel_rfl) (by kernel_rfl) (by intro _ _ _ h_; exact h_) (Or.inl ⟨by rfl, ?_⟩) (by assumption) ?_
      rotate_left 1
      focus (intro w_ hSw_; go_simp; try with_reducible rfl)
      simp only [Act.put, List.setIfInBounds_toArray, List.set_cons_zero, List.set_cons_succ]
      refine wpAnyH_take (i := 2) (v := ?_) (by simp only [List.getElem?_toArray, List.getElem?_cons_succ, List.getElem?_cons_zero]; rfl) (by kernel_rfl) (by kernel_rfl) (by kernel_rfl) (by intro _ _ _ h_; exact h_) (Or.inl ⟨by rfl, ?_⟩) (by assumption) ?_
      rotate_left 1
      focus (intro w_ hSw_; go_simp; try with_reducible rfl)
      simp only [Act.put, List.setIfInBounds_toArray, List.set_cons_zero, List.set_cons_succ]
      refine wpAnyH_take (i := 3) (v := ?_) (by simp only [List.getElem?_toArray, List.getElem?_cons_succ, List.getElem?_cons_zero]; rfl) (by kernel_rfl) (by kernel_rfl) (by kernel_rfl) (by intro _ _ _ h_; exact h_) (Or.inl ⟨by rfl, ?_⟩) (by assumption) ?_
      rotate_left 1
      focus (intro w_ hSw_; go_simp; try with_reducible rfl)
      simp only [Act.put, List.setIfInBounds_toArray, List.set_cons_zero, List.set_cons_succ]
      refine wpAnyH_take (i := 4) (v := ?_) (by simp only [List.getElem?_toArray, List.getElem?_cons_succ, List.getElem?_cons_zero]; rfl) (by kernel_rfl) (by kernel_rfl) (by kernel_rfl) (by intro _ _ _ h_; exact h_) (Or.inl ⟨by rfl, ?_⟩) (by assumption) ?_
      rotate_left 1
      focus (intro w_ hSw_; go_simp; try with_reducible rfl)
      simp only [Act.put, List.setIfInBounds_toArray, List.set_cons_zero, List.set_cons_succ]
      refine wpAnyH_take (i := 5) (v := ?_) (by simp only [List.getElem?_toArray, List.getElem?_cons_succ, List.getElem?_cons_zero]; rfl) (by kernel_rfl) (by kernel_rfl) (by kernel_rfl) (by intro _ _ _ h_; exact h_) (Or.inl ⟨by rfl, ?_⟩) (by assumption) ?_
      rotate_left 1
      focus (intro w_ hSw_; go_simp; try with_reducible rfl)
      simp only [Act.put, List.setIfInBounds_toArray, List.set_cons_zero, List.set_cons_succ]
      refine wpAnyH_take (i := 6) (v := ?_) (by simp only [List.getElem?_toArray, List.getElem?_cons_succ, List.getElem?_cons_zero]; rfl) (by kernel_rfl) (by kernel_rfl) (by kernel_rfl) (by intro _ _ _ h_; exact h_) (Or.inl ⟨by rfl, ?_⟩) (by assumption) ?_
      rotate_left 1
      focus (intro w_ hSw_; go_simp; try with_reducible rfl)
      simp only [Act.put, List.setIfInBounds_toArray, List.set_cons_zero, List.set_cons_succ]
      refine wpAnyH_take (i := 7) (v := ?_) (by simp only [List.getElem?_toArray, List.getElem?_cons_succ, List.getElem?_cons_zero]; rfl) (by kernel_rfl) (by kernel_rfl) (by kernel_rfl) (by intro _ _ _ h_; exact h_) (Or.inl ⟨by rfl, ?_⟩) (by assumption) ?_
      rotate_left 1
      focus (intro w_ hSw_; go_simp; try with_reducible rfl)
      simp only [Act.put, List.setIfInBounds_toArray, List.set_cons_zero, List.set_cons_succ]
      refine wpAnyH_take (i := 8) (v := ?_) (by simp only [List.getElem?_toArray, List.getElem?_cons_succ, List.getElem?_cons_zero]; rfl) (by kernel_rfl) (by kernel_rfl) (by kernel_rfl) (by intro _ _ _ h_; exact h_) (Or.inl ⟨by rfl, ?_⟩) (by assumption) ?_
      rotate_left 1
      focus (intro w_ hSw_; go_simp; try with_reducible rfl)
      simp only [Act.put, List.setIfInBounds_toArray, List.set_cons_zero, List.set_cons_succ]
      refine wpAnyH_take (i := 9) (v := ?_) (by simp only [List.getElem?_toArray, List.getElem?_cons_succ, List.getElem?_cons_zero]; rfl) (by kernel_rfl) (by kernel_rfl) (by kernel_rfl) (by intro _ _ _ h_; exact h_) (Or.inl ⟨by rfl, ?_⟩) (by assumption) ?_
      rotate_left 1
      focus (intro w_ hSw_; go_simp; try with_reducible rfl)
      simp only [Act.put, List.setIfInBounds_toArray, List.set_cons_zero, List.set_cons_succ]
      refine wpAnyH_take (i := 10) (v := ?_) (by simp only [List.getElem?_toArray, List.getElem?_cons_succ, List.getElem?_cons_zero]; rfl) (by kernel_rfl) (by kernel_rfl) (by kernel_rfl) (by intro _ _ _ h_; exact h_) (Or.inl ⟨by rfl, ?_⟩) (by assumption) ?_
      rotate_left 1
      focus (intro w_ hSw_; go_simp; try with_reducible rfl)
      simp only [Act.put, List.setIfInBounds_toArray, List.set_cons_zero, List.set_cons_succ]
      refine wpAnyH_take (i := 11) (v := ?_) (by simp only [List.getElem?_toArray, List.getElem?_cons_succ, List.getElem?_cons_zero]; rfl) (by kernel_rfl) (by kernel_rfl) (by kernel_rfl) (by intro _ _ _ h_; exact h_) (Or.inl ⟨by rfl, ?_⟩) (by assumption) ?_
      rotate_left 1
      focus (intro w_ hSw_; go_simp; try with_reducible rfl)
      simp only [Act.put, List.setIfInBounds_toArray, List.set_cons_zero, List.set_cons_succ]
      refine wpAnyH_take (i := 12) (v := ?_) (by simp only [List.getElem?_toArray, List.getElem?_cons_succ, List.getElem?_cons_zero]; rfl) (by kernel_rfl) (by kernel_rfl) (by kernel_rfl) (by intro _ _ _ h_; exact h_) (Or.inl ⟨by rfl, ?_⟩) (by assumption) ?_
      rotate_left 1
      focus (intro w_ hSw_; go_simp; try with_reducible rfl)
      simp only [Act.put, List.setIfInBounds_toArray, List.set_cons_zero, List.set_cons_succ]
      refine wpAnyH_ready (rs := [13]) (by kernel_rfl) (by simp) ?_
      refine AllReadyH.cons (by simp only [List.getElem?_toArray, List.getElem?_cons_succ, List.getElem?_cons_zero]; rfl) (fun K hK => ?_) AllReadyH.nil
      go_simp
      refine hK.out _ _ hc2 (fun hHeld2 => ?_)
      clear hK K
      try simp only [Act.put, List.setIfInBounds_toArray, List.set_cons_zero, List.set_cons_succ]
      refine wpAnyH_done (by kernel_rfl) ?_ _
      clear hHeld hHeld2 hc hc2 kc kf
      obtain ⟨w6, hw6⟩ : ∃ w6, wr.drew.setCell ⟨R, A, none⟩ (.int .u8 y.toNat) = w6 := ⟨_, rfl⟩
      rw [hw6] at HP
      have e6 : (wr.setCell ⟨R, A, none⟩ (.int .u8 y.toNat)).drew = w6 := hw6
      rw [e6]
      clear hw6 e6
      go_wp2_with fail
      first
      | (go_roundw
         case rel => exact ⟨k + 1, by omega, by go_num, (HP ()).out.1, (HP ()).out.2⟩
         case measure => (first | omega | (simp [intOf] <;> omega) | (simp only [intOf] <;> omega)))
      | exact ⟨⟨k + 1, by omega, by go_num, (HP ()).out.1, (HP ()).out.2⟩, by (first | omega | (simp [intOf] <;> omega) | (simp only [intOf] <;> omega))⟩
      | (refine ⟨?_, by (first | omega | (simp [intOf] <;> omega) | (simp only [intOf] <;> omega))⟩
         (repeat apply Exists.intro)
         refine (fun a b => And.intro b a) ?_ ?_
         · first | rfl | ((repeat refine ⟨rfl, ?_⟩); rfl)
         exact ⟨k + 1, by omega, by go_num, (HP ()).out.1, (HP ()).out.2⟩)
    · have q1 : ¬ (k : Int) < (n : Int) := by omega
      have e : b.take k = b := List.take_of_length_le (by omega)
      rw [e] at HR
      clear hR hf e
      go_wp2_with fail
      go_end0
      exact ⟨rfl, HR.out, Hf.out⟩
end Go.Proofs.Ytcbiohpgmooefaa
