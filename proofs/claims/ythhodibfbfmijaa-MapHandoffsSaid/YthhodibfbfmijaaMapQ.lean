/- When two regions are one. No condition. -/
import Derived.Test.YthhodibfbfmijaaMapM
import Derived.Laws.StructEq
set_option linter.unusedVariables false
set_option linter.unusedSimpArgs false
namespace Go.Proofs.Ythhodibfbfmijaa
open Go.RowKit
theorem rg_equal (x y : Rg) (w : World) : (Op.equalIn 10000 30 (.agg #[.int .u64 x.base, .int .u64 x.size, .bool x.r, .bool x.w, .bool x.x, .bool x.s]) (.agg #[.int .u64 y.base, .int .u64 y.size, .bool y.r, .bool y.w, .bool y.x, .bool y.s])).run Try.prog w = .ok (decide (x = y)) w := by
  have u24 := Try.underlying24
  have a24 := Try.isAgg24
  have z24 := Try.sizeOf24
  have u4 := Try.underlying4
  have a4 := Try.isAgg4
  have z4 := Try.sizeOf4
  have hS : Try.prog.underlying 30 = some (.struct (Try.prog.fieldsOf 30)) := by kernel_rfl
  have hp : Try.prog.stoodInHeld 30 = false := by kernel_rfl
  rw [show (10000 : Nat) = 9999 + 1 from rfl, run_equalIn_agg w 9999 30 _ _ hS hp]
  simp only [Program.fieldsOf, Try.underlying30]
  obtain ⟨b1, n1, r1, w1, x1, s1⟩ := x
  obtain ⟨b2, n2, r2, w2, x2, s2⟩ := y
  have hd : decide ((⟨b1, n1, r1, w1, x1, s1⟩ : Rg) = ⟨b2, n2, r2, w2, x2, s2⟩) = (decide (b1 = b2) && decide (n1 = n2) && (r1 == r2) && (w1 == w2) && (x1 == x2) && (s1 == s2)) := by
    rw [Bool.eq_iff_iff]
    simp [Rg.mk.injEq, and_assoc]
  rw [hd]
  clear hd hS hp
  go_simp
  by_cases h1 : b1 = b2
  · subst h1
    by_cases h2 : n1 = n2
    · subst h2
      simp
      cases r1 <;> cases r2 <;> cases w1 <;> cases w2 <;> simp <;> cases x1 <;> cases x2 <;> cases s1 <;> cases s2 <;> rfl
    · have i2 : ¬ ((n1 : Int) = n2) := by omega
      simp [h2, i2]
  · have i1 : ¬ ((b1 : Int) = b2) := by omega
    simp [h1, i1]
structure SameG (a b : List Rg) (w : World) (i : Value) (wr : World) : Prop where
  x : ∃ k : Nat, k ≤ a.length ∧ i = .int .i64 k ∧ a.take k = b.take k ∧ Drn w wr
theorem sameG_step {a b : List Rg} {k : Nat} (h : a.take k = b.take k) (ha : k < a.length) (hb : k < b.length) (he : gAt a k = gAt b k) : a.take (k + 1) = b.take (k + 1) := by
  rw [take_snocG a k ha, take_snocG b k hb, h, he]
set_option maxHeartbeats 1000000 in
theorem sameG_any (ao bo : Option Addr) (n m ca cb : Nat) (a b : List Rg) (w : World) (ha : a.length = n) (hb : b.length = m) (hn : n ≤ 9223372036854775807) (hm : m ≤ 9223372036854775807) (hra : RdG w ao a) (hrb : RdG w bo b) :
    Calls Try.prog 19 #[.slice ao n ca, .slice bo m cb] w fun e w' => e = .returned (.bool (decide (a = b))) ∧ Drn w w' := by
  have hguard : Try.prog.eqGuardType Try.prog.depth 30 = false := by kernel_rfl
  by_cases hnm : n = m
  · subst hnm
    have Hha := Lib.hid ha
    clear ha
    have Hhb := Lib.hid hb
    clear hb
    go_enter Try.func19, Try.ntmps19
    go_wp2_with fail
    go_loopw [5] (SameG a b w) (fun i _ => n - (intOf i).toNat)
    case atStart => exact ⟨0, by omega, rfl, rfl, Drn.refl _⟩
    case round =>
      obtain ⟨k, hk, rfl, htk, hd⟩ := hrel
      have Hhtk := Lib.hid htk
      clear htk
      have hra' := hd.rdG hra
      have hrb' := hd.rdG hrb
      by_cases hlt : k < n
      · obtain ⟨xb, xo, rfl, -, hca⟩ := hra' k (by have := Hha.out; omega)
        obtain ⟨yb, yo, rfl, -, hcb⟩ := hrb' k (by have := Hhb.out; omega)
        have e0 : (0 : Int) ≤ (k : Int) := by omega
        have e1 : (k : Int) < (n : Int) := by omega
        have c0 := hca 0 _ rfl
        have c1 := hca 1 _ rfl
        have c2 := hca 2 _ rfl
        have c3 := hca 3 _ rfl
        have c4 := hca 4 _ rfl
        have c5 := hca 5 _ rfl
        have d0 := hcb 0 _ rfl
        have d1 := hcb 1 _ rfl
        have d2 := hcb 2 _ rfl
        have d3 := hcb 3 _ rfl
        have d4 := hcb 4 _ rfl
        have d5 := hcb 5 _ rfl
        clear hca hcb hra' hrb'
        simp only [Nat.add_zero] at c0 d0
        have heq := fun w => rg_equal (gAt a k) (gAt b k) w
        by_cases hxy : gAt a k = gAt b k
        · have hst := Lib.hid (sameG_step Hhtk.out (by have := Hha.out; omega) (by have := Hhb.out; omega) hxy)
          simp only [decide_eq_true hxy] at heq
          clear hxy
          generalize gAt a k = g at *
          generalize gAt b k = h at *
          go_wp2_with fail
          go_quiet (fail)
          go_wp2_with fail
          first
          | (go_roundw
             case rel => exact ⟨k + 1, by have := Hha.out; omega, by go_num, hst.out, hd.step _⟩
             case measure => (first | omega | (simp [intOf] <;> omega) | (simp only [intOf] <;> omega)))
          | exact ⟨⟨k + 1, by have := Hha.out; omega, by go_num, hst.out, hd.step _⟩, by (first | omega | (simp [intOf] <;> omega) | (simp only [intOf] <;> omega))⟩
          | (refine ⟨?_, by (first | omega | (simp [intOf] <;> omega) | (simp only [intOf] <;> omega))⟩
             (repeat apply Exists.intro)
             refine (fun a b => And.intro b a) ?_ ?_
             · first | rfl | ((repeat refine ⟨rfl, ?_⟩); rfl)
             exact ⟨k + 1, by have := Hha.out; omega, by go_num, hst.out, hd.step _⟩)
        · have hres : decide (a = b) = false := decide_eq_false (by rintro rfl; exact hxy rfl)
          have Hres := Lib.hid hres
          simp only [decide_eq_false hxy] at heq
          clear hres hxy
          generalize gAt a k = g at *
          generalize gAt b k = h at *
          go_wp2_with fail
          go_quiet (fail)
          go_wp2_with fail
          go_ret
          exact ⟨by rw [Hres.out]; rfl, hd.step _⟩
      · have hres : decide (a = b) = true := decide_eq_true (by
          have h := Hhtk.out
          rwa [List.take_of_length_le (by have := Hha.out; omega), List.take_of_length_le (by have := Hhb.out; omega)] at h)
        have Hres := Lib.hid hres
        clear hres
        go_wp2_with fail
        go_ret
        exact ⟨by rw [Hres.out]; rfl, hd⟩
  · have hres : decide (a = b) = false := decide_eq_false (by rintro rfl; exact hnm (ha.symm.trans hb))
    have Hres := Lib.hid hres
    clear hres ha hb
    have h1 : ((n : Int) == (m : Int)) = false := beq_eq_false_iff_ne.mpr (by omega)
    have h2 : ((n : Int) != (m : Int)) = true := bne_iff_ne.mpr (by omega)
    clear hnm
    go_enter Try.func19, Try.ntmps19
    go_wp2_with fail
    go_ret
    exact ⟨by rw [Hres.out]; rfl, Drn.refl _⟩
end Go.Proofs.Ythhodibfbfmijaa
