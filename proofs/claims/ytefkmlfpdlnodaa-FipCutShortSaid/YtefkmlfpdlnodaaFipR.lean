/- The document's number and name out of a package's bytes. No condition. -/
import Derived.Test.YtefkmlfpdlnodaaFipN
import Derived.Test.YtefkmlfpdlnodaaRef1
set_option linter.unusedVariables false
set_option linter.unusedSimpArgs false
namespace Go.Proofs.Ytefkmlfpdlnodaa
open Go.RowKit
attribute [local go_sem ↓] build_en store_en load_en load_gu store_gu
theorem rnum_ok (ao : Option Addr) (n cap A k : Nat) (l : List UInt8) (w : World) (hl : l.length = n) (hn : n ≤ 140737488351232) (hr : Rd w ao l) (hs : SizeOk k) (hp : A + k ≤ n) :
    Calls Try.prog 18 #[.slice ao n cap, .int .i64 A, .int .i64 k] w fun e w' => e = .returned (.int .u64 (getN l A k false)) ∧ w = w' := by
  have Hg := Lib.hid (rget_ok ao n cap A k l false w hl hn hr hs hp)
  clear hl hr hs hp hn
  go_enter Try.func18, Try.ntmps18
  go_wp2_with fail
  refine Hg.out.mono ?_
  rintro e w' ⟨rfl, hd⟩
  go_wp2_with fail
  go_ret
  exact ⟨rfl, hd⟩
def gpre (l : List UInt8) (a k : Nat) : List Value := (List.range 16).map fun i => if i < k then bv (l[a + i]?.getD 0) else .int .u8 0
theorem gpre_len (l : List UInt8) (a k : Nat) : (gpre l a k).length = 16 := by simp [gpre]
theorem gpre_set (l : List UInt8) (a : Nat) {k : Nat} (hk : k < 16) : (gpre l a k).set k (bv (l[a + k]?.getD 0)) = gpre l a (k + 1) := by
  apply List.ext_getElem?
  intro i
  rw [List.getElem?_set]
  by_cases hi : i < 16
  · by_cases e : k = i
    · subst e; simp [gpre, hk]
    · have e2 : (i < k + 1) = (i < k) := by rw [eq_iff_iff]; omega
      simp [gpre, hi, e, e2]
  · have e : ¬ k = i := by omega
    simp [gpre, hi, e]
theorem gpre_zero (l : List UInt8) (a : Nat) : gpre l a 0 = guc gz := rfl
theorem gpre_all (l : List UInt8) (a : Nat) : gpre l a 16 = guc (guAt l a) := by
  apply List.ext_getElem?
  intro i
  by_cases hi : i < 16
  · simp [gpre, guc, guAt, hi]
  · simp [gpre, guc, guAt, hi]
structure GuIn (B rb gb : Nat) (l : List UInt8) (a : Nat) (W : World) (i : Value) (wr : World) : Prop where
  x : ∃ k : Nat, k ≤ 16 ∧ i = .int .i64 k ∧ HB wr gb 30 (gpre l a k) ∧ HB wr rb 30 (guc gz) ∧ Below B W wr
set_option maxRecDepth 100000 in
set_option maxHeartbeats 400000 in
theorem guid_any (ao : Option Addr) (n cap a : Nat) (l : List UInt8) (w : World) (hl : l.length = n) (hn : n ≤ 140737488351232) (hr : Rd w ao l) (ha : a + 16 ≤ n) :
    Calls Try.prog 31 #[.slice ao n cap, .int .i64 a] w fun e w' => e = .returned (.agg (guc (guAt l a)).toArray) ∧ Below w.heap.size w w' := by
  have h1 := HB.new w (guc gz) 30
  have h2 := HB.new (w.alloc (.cells (guc gz).toArray 30)) (guc gz) 30
  have H1 := Lib.hid (h1.alloc (.cells (guc gz).toArray 30))
  have H2 := Lib.hid h2
  have hb := ((Below.refl w.heap.size w).alloc (Nat.le_refl _) (.cells (guc gz).toArray 30)).alloc (by simp) (.cells (guc gz).toArray 30)
  have Hb := Lib.hid hb
  have Hl := Lib.hid hl
  have Hr := Lib.hid hr
  clear h1 h2 hb hl hr
  go_enter Try.func31, Try.ntmps31
  go_wp2_with fail
  as_aux_lemma =>
  change Code.wp _ _ _ _ ((w.alloc (.cells (guc gz).toArray 30)).alloc (.cells (guc gz).toArray 30))
  have hsz : (w.alloc (.cells (guc gz).toArray 30)).heap.size = w.heap.size + 1 := by simp
  rw [hsz] at H2
  generalize (w.alloc (.cells (guc gz).toArray 30)).alloc (.cells (guc gz).toArray 30) = w1 at *
  obtain ⟨B, hB⟩ : ∃ B, w.heap.size = B := ⟨_, rfl⟩
  obtain ⟨B1, hB1⟩ : ∃ B1, B + 1 = B1 := ⟨_, rfl⟩
  rw [hB] at H1 H2 Hb ⊢
  rw [hB1] at H2 ⊢
  have HBx := Lib.hid hB
  have HB1 := Lib.hid hB1
  clear hB hB1 hsz
  go_loopw [6] (GuIn B B B1 l a w) (fun i _ => 16 - (intOf i).toNat)
  case atStart => exact ⟨0, by omega, rfl, by rw [gpre_zero]; exact H2.out, H1.out, Hb.out⟩
  case round =>
    as_aux_lemma =>
    clear H1 H2 Hb
    obtain ⟨k, hk, rfl, hg, hres, hb⟩ := hrel
    by_cases hlt : k < 16
    · obtain ⟨xb, xo, rfl, hc⟩ := (Hr.out.below (by rw [HBx.out]; exact hb)) (a + k) (by have := Hl.out; omega)
      have hs := hg.set k (bv (l[a + k]?.getD 0))
      rw [gpre_set l a hlt] at hs
      have hne : B ≠ B1 := by have := HB1.out; omega
      have hs2 := hres.other ⟨B1, k, none⟩ (bv (l[a + k]?.getD 0)) hne
      have hb2 := hb.grown (grown_set wr ⟨B1, k, none⟩ (bv (l[a + k]?.getD 0))) (by have := hb.size; rw [HBx.out] at this; exact this) (by intro q hq; have e1 : B1 = q := Option.some.inj hq; have := HB1.out; omega)
      have c1 := hg.cell (i := k) (v := .int .u8 0) (by simp [gpre, hlt])
      have f1 := hg.frozen k
      unfold bv at hs hs2 hb2
      have Hs := Lib.hid hs
      have Hs2 := Lib.hid hs2
      have Hb2 := Lib.hid hb2
      clear hs hs2 hb2 hg hres hb
      generalize l[a + k]?.getD 0 = c at *
      have e0 : (0 : Int) ≤ (k : Int) := by omega
      have e1 : (k : Int) < 16 := by omega
      have e2 : (0 : Int) ≤ (a : Int) + (k : Int) := by omega
      have e3 : (a : Int) + (k : Int) < (n : Int) := by omega
      have e4 : ((a : Int) + (k : Int)).toNat = a + k := by omega
      go_wp2_with fail
      first
      | (go_roundw
         case rel => exact ⟨k + 1, by omega, by go_num, Hs.out, Hs2.out, Hb2.out⟩
         case measure => (first | omega | (simp [intOf] <;> omega) | (simp only [intOf] <;> omega)))
      | exact ⟨⟨k + 1, by omega, by go_num, Hs.out, Hs2.out, Hb2.out⟩, by (first | omega | (simp [intOf] <;> omega) | (simp only [intOf] <;> omega))⟩
      | (refine ⟨?_, by (first | omega | (simp [intOf] <;> omega) | (simp only [intOf] <;> omega))⟩
         (repeat apply Exists.intro)
         refine (fun a b => And.intro b a) ?_ ?_
         · first | rfl | ((repeat refine ⟨rfl, ?_⟩); rfl)
         exact ⟨k + 1, by omega, by go_num, Hs.out, Hs2.out, Hb2.out⟩)
    · obtain rfl : k = 16 := by omega
      rw [gpre_all] at hg
      have hl1 := run_loadGu (hg.whole)
      have ht := hres.there (o := 0) (n := 16) (by rw [guc_len]; exact Nat.le_refl _)
      have hst := run_storeGu (guAt l a) ht
      have hfin := hres.fillAll (vs := guc (guAt l a)) (by rw [guc_len, guc_len])
      have hv := run_loadVar_mid (P := Try.prog) _ B 0 30 (guc (guAt l a)) _ hfin.whole Try.underlying30 rfl (guInfo _)
      have hb2 := hb.grown (grown_setCells B (guc (guAt l a)) 0 wr) (by have := hb.size; rw [HBx.out] at this; exact this) (by intro q hq; have e1 : B = q := Option.some.inj hq; omega)
      have Hb2 := Lib.hid hb2
      clear hb2 hg ht hres hfin hb
      go_wp2_with fail
      refine bodyPost_ret (v := .agg (guc (guAt l a)).toArray) (by simp [results, Try.results31, asAddr, hv, Result.andThen]; try rfl) rfl ⟨rfl, by rw [HBx.out]; exact Hb2.out⟩
end Go.Proofs.Ytefkmlfpdlnodaa
