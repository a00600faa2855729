/- The document's Put, and Same. No condition. -/
import Derived.Test.YtnmeidmiijcniaaRef1
set_option linter.unusedVariables false
set_option linter.unusedSimpArgs false
namespace Go.Proofs.Ytnmeidmiijcniaa
open Go.RowKit
structure SameIn (a b : List UInt8) (w : World) (i : Value) (w' : World) : Prop where
  x : ∃ k : Nat, k ≤ a.length ∧ i = .int .i64 k ∧ a.take k = b.take k ∧ Drn w w'
theorem same_step {a b : List UInt8} {k : Nat} (h : a.take k = b.take k) (ha : k < a.length) (hb : k < b.length) (e : a[k]?.getD 0 = b[k]?.getD 0) : a.take (k + 1) = b.take (k + 1) := by
  rw [take_snoc8 a k ha, take_snoc8 b k hb, h, e]
set_option maxHeartbeats 400000 in
theorem same_any (ao bo : Option Addr) (n m ca cb : Nat) (a b : List UInt8) (w : World) (ha : a.length = n) (hb : b.length = m) (hn : n ≤ 9223372036854775807) (hm : m ≤ 9223372036854775807) (hra : Rd w ao a) (hrb : Rd w bo b) :
    Calls Try.prog 13 #[.slice ao n ca, .slice bo m cb] w fun e w' => e = .returned (.bool (decide (a = b))) ∧ Drn w w' := by
  by_cases hnm : n = m
  · subst hnm
    have Hha := Lib.hid ha
    clear ha
    have Hhb := Lib.hid hb
    clear hb
    go_enter Try.func13, Try.ntmps13
    go_wp2_with fail
    go_loopw [5] (SameIn a b w) (fun i _ => n - (intOf i).toNat)
    case atStart => exact ⟨0, by omega, rfl, rfl, Drn.refl _⟩
    case round =>
      obtain ⟨k, hk, rfl, htk, hd⟩ := hrel
      have Hhtk := Lib.hid htk
      clear htk
      have hra' := hd.rd hra
      have hrb' := hd.rd hrb
      by_cases hlt : k < n
      · obtain ⟨xb, xo, rfl, hca⟩ := hra' k (by have := Hha.out; omega)
        obtain ⟨yb, yo, rfl, hcb⟩ := hrb' k (by have := Hhb.out; omega)
        have e0 : (0 : Int) ≤ (k : Int) := by omega
        have e1 : (k : Int) < (n : Int) := by omega
        by_cases hxy : a[k]?.getD 0 = b[k]?.getD 0
        · have hst := Lib.hid (same_step Hhtk.out (by have := Hha.out; omega) (by have := Hhb.out; omega) hxy)
          rw [hxy] at hca
          generalize b[k]?.getD 0 = c at *
          have Hhxy := Lib.hid hxy
          clear hxy
          go_wp2_with fail
          go_quiet (fail)
          go_wp2_with fail
          first
          | (go_roundw
             case rel => exact ⟨k + 1, by have := Hha.out; omega, by go_num, hst.out, hd.step _⟩
             case measure => (first | omega | (simp [intOf] <;> omega) | (simp only [intOf] <;> omega)))
          | exact ⟨⟨k + 1, by have := Hha.out; omega, by go_num, hst.out, hd.step _⟩, by (first | omega | (simp [intOf] <;> omega) | (simp only [intOf] <;> omega))⟩
          | (refine ⟨?_, by (first | omega | (simp [intOf] <;> omega) | (simp only [intOf] <;> omega))⟩
             (repeat apply Exists.intro)
             refine (fun a b => And.intro b a) ?_ ?_
             · first | rfl | ((repeat refine ⟨rfl, ?_⟩); rfl)
             exact ⟨k + 1, by have := Hha.out; omega, by go_num, hst.out, hd.step _⟩)
        · have hne : ((a[k]?.getD 0).toNat : Int) ≠ (b[k]?.getD 0).toNat := by
            intro h
            exact hxy (UInt8.toNat_inj.mp (by omega))
          have hres : decide (a = b) = false := decide_eq_false (by rintro rfl; exact hxy rfl)
          have Hres := Lib.hid hres
          clear hres hxy
          generalize (a[k]?.getD 0).toNat = x at *
          generalize (b[k]?.getD 0).toNat = y at *
          have h1 : ((x : Int) == (y : Int)) = false := beq_eq_false_iff_ne.mpr hne
          have h2 : ((x : Int) != (y : Int)) = true := bne_iff_ne.mpr hne
          clear hne
          go_wp2_with fail
          go_quiet (fail)
          go_wp2_with fail
          go_ret
          exact ⟨by rw [Hres.out]; rfl, hd.step _⟩
      · have hres : decide (a = b) = true := decide_eq_true (by
          have h := Hhtk.out
          rwa [List.take_of_length_le (by have := Hha.out; omega), List.take_of_length_le (by have := Hhb.out; omega)] at h)
        have Hres := Lib.hid hres
        clear hres
        go_wp2_with fail
        go_ret
        exact ⟨by rw [Hres.out]; rfl, hd⟩
  · have hres : decide (a = b) = false := decide_eq_false (by rintro rfl; exact hnm (ha.symm.trans hb))
    have Hres := Lib.hid hres
    clear hres ha hb
    have h1 : ((n : Int) == (m : Int)) = false := beq_eq_false_iff_ne.mpr (by omega)
    have h2 : ((n : Int) != (m : Int)) = true := bne_iff_ne.mpr (by omega)
    clear hnm
    go_enter Try.func13, Try.ntmps13
    go_wp2_with fail
    go_ret
    exact ⟨by rw [Hres.out]; rfl, Drn.refl _⟩
theorem same_true (ao bo : Option Addr) (n m ca cb : Nat) (a b : List UInt8) (w : World) (h : a = b) (ha : a.length = n) (hb : b.length = m) (hn : n ≤ 9223372036854775807) (hm : m ≤ 9223372036854775807) (hra : Rd w ao a) (hrb : Rd w bo b) :
    Calls Try.prog 13 #[.slice ao n ca, .slice bo m cb] w fun e w' => e = .returned (.bool true) ∧ Drn w w' :=
  (same_any ao bo n m ca cb a b w ha hb hn hm hra hrb).mono fun _ _ ⟨he, hd⟩ => ⟨by rw [he, decide_eq_true h], hd⟩
end Go.Proofs.Ytnmeidmiijcniaa
