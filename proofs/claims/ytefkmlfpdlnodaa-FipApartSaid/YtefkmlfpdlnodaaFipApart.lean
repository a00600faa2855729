/- No two images share a byte: the walk. No condition. -/
import Derived.Test.YtefkmlfpdlnodaaFipV
import Derived.Test.YtefkmlfpdlnodaaFipQ
import Derived.Test.YtefkmlfpdlnodaaFipA
import Derived.Test.YtefkmlfpdlnodaaOpen
namespace Go.Proofs.Ytefkmlfpdlnodaa.fipApart
open Go.ChangeShapes Go.WideShapes Go.ChangeAt Go.RowKit
set_option linter.unusedVariables false
set_option linter.unusedSimpArgs false
attribute [local go_sem ↓] load_en store_en build_en load_gu build_gu
structure ApIn (B : Nat) (v : Value) (es : List En) (W : World) (i : Value) (wr : World) : Prop where
  x : ∃ k : Nat, k ≤ es.length ∧ i = .int .i64 k ∧ OwnS Go.Proofs.Ytefkmlfpdlnodaa.enc 32 19 wr B v es ∧ Below B W wr ∧ B ≤ wr.heap.size
structure ApLap (B xb : Nat) (x : En) (k : Nat) (v : Value) (es : List En) (W : World) (i : Value) (wr : World) : Prop where
  x : ∃ j : Nat, j ≤ k ∧ i = .int .i64 j ∧ HB wr xb 32 (Go.Proofs.Ytefkmlfpdlnodaa.enc x) ∧ OwnS Go.Proofs.Ytefkmlfpdlnodaa.enc 32 19 wr B v es ∧ Below B W wr ∧ B ≤ wr.heap.size
theorem own_ptr {w : World} {B n cp : Nat} {ao : Option Addr} {es : List En} (h : OwnS Go.Proofs.Ytefkmlfpdlnodaa.enc 32 19 w B (.slice ao n cp) es) {j : Nat} (hj : j < es.length) : ∃ g, ao = some ⟨g, 0, none⟩ := by
  rcases h.cases enc_len with ⟨_, h⟩ | ⟨g, _, h, _⟩
  · rw [h] at hj; simp at hj
  · cases h; exact ⟨g, rfl⟩
set_option maxHeartbeats 1000000 in
set_option maxRecDepth 100000 in
theorem core (w : World) (ao : Option Addr) (n cap : Nat) (l : List UInt8) (hl : l.length = n) (hcap : n ≤ cap) (hcm : n ≤ 140737488351232) (hcz : ao = none → cap = 0) (hr : Rd w ao l) :
    Calls Try.prog 7 #[.slice ao n cap] w fun e w' => e = .returned (.bool true) ∧ Below w.heap.size w w' := by
  have Hop := Lib.hid (popen_any ao n cap l w hl hcap hcm hr)
  have Hl := Lib.hid hl
  have Hcap := Lib.hid hcap
  clear hl hcz hr hcap
  go_enter Try.func7, Try.ntmps7
  go_wp2_with fail
  as_aux_lemma =>
  obtain ⟨B, hB⟩ : ∃ B, w.heap.size = B := ⟨_, rfl⟩
  have HBx := Lib.hid hB
  refine Hop.out.mono ?_
  rintro e w2 ⟨v, rfl, hsaid, hb2⟩
  rw [hB] at hb2
  have Hb2 := Lib.hid hb2
  have Hs2 : Hid (B ≤ w2.heap.size) := Lib.hid (by rw [← hB]; have := hb2.size; omega)
  rcases hsaid.x with ⟨es, hes, hown⟩ | ⟨hno, rfl⟩
  case inr =>
    have htr : openR l = (none, (openR l).2) := Prod.ext hno rfl
    have hne := openR_fail htr
    generalize (openR l).2 = c at *
    have e3 : (c == 0) = false := beq_eq_false_iff_ne.2 hne
    have e4 : (c != 0) = true := by rw [bne, e3]; rfl
    clear hno htr hne hsaid hb2 hB
    go_wp2_with fail
    refine (alive_any _).mono ?_
    rintro e w5 ⟨rfl, hb5⟩
    have HB5 := Lib.hid (Hb2.out.trans (hb5.mono Hs2.out))
    clear hb5
    go_wp2_with fail
    go_ret
    exact ⟨rfl, by rw [HBx.out]; exact HB5.out⟩
  have htr : openR l = (some es, (openR l).2) := Prod.ext hes rfl
  have h00 := (openR_some htr).1
  rw [h00]
  rw [h00] at htr
  have Htr := Lib.hid htr
  have Hfit := Lib.hid (fun x hx => openR_fit htr (x := x) hx)
  have Hap := Lib.hid (fun i x hx => openR_apart htr (i := i) (x := x) hx)
  have H131 : Hid (n ≤ 131072) := Lib.hid (by rw [← Hl.out]; exact (openR_some htr).2.2.1)
  have H32 : Hid (es.length ≤ 32) := Lib.hid (by
    cases es with
    | nil => exact Nat.zero_le _
    | cons x xs => exact (openR_fit htr (List.mem_cons_self)).2.2.2.2)
  rw [hB] at hown
  have HO2 := Lib.hid hown
  clear hsaid hes hown htr h00 hb2 hB Hop
  obtain ⟨av, cv, rfl, -, -, -, -⟩ := HO2.out.rd enc_len
  have g6 : IntKind.u64.wrap (n : Int) = (n : Int) := IntWalk.u64_in _ (by have := H131.out; omega)
  go_wp2_with fail
  go_loopw [6, 7, 8, 9] (fun i _ _ _ wr => ApIn B (.slice av es.length cv) es w i wr) (fun i _ _ _ _ => es.length - (intOf i).toNat)
  case atStart => exact ⟨0, by omega, rfl, HO2.out, Hb2.out, Hs2.out⟩
  case round =>
    as_aux_lemma =>
    clear HO2 Hb2 Hs2 g6
    obtain ⟨k, hk, rfl, hown, hb, hs⟩ := hrel
    have HO := Lib.hid hown
    have Hb := Lib.hid hb
    have Hs := Lib.hid hs
    clear hown hb hs
    have e32 := H32.out
    by_cases hlt : k < es.length
    · obtain ⟨x, hx⟩ : ∃ x, es[k]? = some x := ⟨_, List.getElem?_eq_getElem hlt⟩
      obtain ⟨g, rfl⟩ := own_ptr HO.out hlt
      have hle := run_loadEn (HO.out.range hx)
      have hst := fresh_st wr x
      have Hfh := Lib.hid (fresh_hb wr x)
      have Hfb := Lib.hid (fresh_below wr x)
      have HBf := Lib.hid (Hb.out.trans (Hfb.out.mono Hs.out))
      have Hsf : Hid (B ≤ (freshEn wr x).heap.size) := Lib.hid (Nat.le_trans Hs.out Hfb.out.size)
      have HOf := Lib.hid (HO.out.later Hfb.out)
      have hc16 := Hfh.out.cell (enc_off x)
      have hc17 := Hfh.out.cell (enc_sz x)
      have hlg := run_loadGu (rangeGu Hfh.out)
      have hbz := run_buildGz (freshEn wr x)
      obtain ⟨z1, z2, z3, z4, -⟩ := Hfit.out x (List.mem_of_getElem? hx)
      obtain ⟨z5, z6, z7⟩ := Hap.out k x hx
      have heq := fun w => gu_equal x.id gz w
      rw [decide_eq_false z5] at heq
      have hgd : Try.prog.eqGuardType Try.prog.depth 30 = false := by kernel_rfl
      have HZ7 := Lib.hid z7
      rw [Hl.out] at z2 z3
      have h131 := H131.out
      obtain ⟨so, hso⟩ : ∃ so, x.off = so := ⟨_, rfl⟩
      obtain ⟨ss, hss⟩ : ∃ ss, x.sz = ss := ⟨_, rfl⟩
      rw [hso] at hc16 z2 z3 z6
      rw [hss] at hc17 z1 z3
      have Hso := Lib.hid hso
      have Hss := Lib.hid hss
      have f0 : (0 : Int) ≤ (k : Int) := by omega
      have f1 : (k : Int) < (es.length : Int) := by omega
      have f2 : ((ss : Int) == 0) = false := beq_eq_false_iff_ne.2 (by omega)
      have f3 : ¬ ((n : Int) < (so : Int)) := by omega
      have f4 : IntKind.u64.wrap ((n : Int) - (so : Int)) = ((n - so : Nat) : Int) := by rw [IntWalk.u64_in _ (by omega)]; omega
      have f5 : ¬ (((n - so : Nat) : Int) < (ss : Int)) := by omega
      have f6 : ¬ ((so : Int) < 16 + 40 * ((es.length : Int) + 1)) := by omega
      have Hlt := Lib.hid hlt
      have Hlen : Hid (so + ss < 18446744073709551616) := Lib.hid (by omega)
      clear hx hso hss z4 z5 z7 hlt
      go_wp2_with fail
      as_aux_lemma =>
      clear hc16 hc17 hle hst hlg hbz heq f2 f3 f4 f5 f6 z1 z2 z3 z6 Hb Hs HO Hfb h131
      generalize freshEn wr x = w5 at *
      obtain ⟨xb, hxb⟩ : ∃ xb, wr.heap.size = xb := ⟨_, rfl⟩
      rw [hxb] at Hfh ⊢
      clear hxb
      obtain ⟨X, hX⟩ : ∃ X : Nat, (so + ss) % 18446744073709551616 = X := ⟨_, rfl⟩
      have wX : IntKind.u64.wrap ((so : Int) + (ss : Int)) = (X : Int) := by rw [wrap_sum, hX]
      have HX := Lib.hid hX
      clear hX
      go_loopw [8, 9] (fun j _ wr => ApLap B xb x k (.slice (some ⟨g, 0, none⟩) es.length cv) es w j wr) (fun j _ _ => k - (intOf j).toNat)
      case atStart => exact ⟨0, by omega, rfl, Hfh.out, HOf.out, HBf.out, Hsf.out⟩
      case round =>
        as_aux_lemma =>
        clear Hfh HOf HBf Hsf
        obtain ⟨q, hq, rfl, hx, hown, hb, hs⟩ := hrel
        have HX1 := Lib.hid hx
        have HO1 := Lib.hid hown
        have HB1x := Lib.hid hb
        have HS1 := Lib.hid hs
        clear hx hown hb hs
        have hkl := Hlt.out
        by_cases hqk : q < k
        · obtain ⟨y, hy⟩ : ∃ y, es[q]? = some y := ⟨_, List.getElem?_eq_getElem (by omega)⟩
          have hle := run_loadEn (HO1.out.range hy)
          have hst := fresh_st wr y
          have Hfh := Lib.hid (fresh_hb wr y)
          have Hfb := Lib.hid (fresh_below wr y)
          have HXf := Lib.hid (HX1.out.later Hfb.out)
          have HOf := Lib.hid (HO1.out.later Hfb.out)
          have HBf := Lib.hid (HB1x.out.trans (Hfb.out.mono HS1.out))
          have Hsf : Hid (B ≤ (freshEn wr y).heap.size) := Lib.hid (Nat.le_trans HS1.out Hfb.out.size)
          have hc16 := Hfh.out.cell (enc_off y)
          have hc17 := Hfh.out.cell (enc_sz y)
          have hlg := run_loadGu (rangeGu Hfh.out)
          have hlx := run_loadGu (rangeGu HXf.out)
          have hd16 := HXf.out.cell (enc_off x)
          have hd17 := HXf.out.cell (enc_sz x)
          rw [Hso.out] at hd16
          rw [Hss.out] at hd17
          obtain ⟨y1, y2⟩ := HZ7.out q y hqk hy
          have heq := fun w => gu_equal x.id y.id w
          rw [decide_eq_false y1] at heq
          obtain ⟨yo, hyo⟩ : ∃ yo, y.off = yo := ⟨_, rfl⟩
          obtain ⟨ys, hys⟩ : ∃ ys, y.sz = ys := ⟨_, rfl⟩
          obtain ⟨Y, hY⟩ : ∃ Y : Nat, (yo + ys) % 18446744073709551616 = Y := ⟨_, rfl⟩
          have Hlap : lap x y = (decide (so < (y.off + y.sz) % 18446744073709551616) && decide (y.off < X)) := by unfold lap; rw [Hso.out, Hss.out, HX.out]
          rw [hyo, hys, hY, y2] at Hlap
          rw [hyo] at hc16
          rw [hys] at hc17
          have wY : IntKind.u64.wrap ((yo : Int) + (ys : Int)) = (Y : Int) := by rw [wrap_sum, hY]
          have f0 : (0 : Int) ≤ (q : Int) := by omega
          have f1 : (q : Int) < (k : Int) := by omega
          have f2 : (q : Int) < (es.length : Int) := by omega
          clear hy hyo hys hY y1 y2
          by_cases a1 : so < Y
          · have a2 : ¬ yo < X := by
              intro a2
              rw [decide_eq_true a1, decide_eq_true a2] at Hlap
              cases Hlap
            have b1 : (so : Int) < (Y : Int) := by omega
            have b2 : ¬ ((yo : Int) < (X : Int)) := by omega
            clear a1 a2 Hlap
            go_wp2_with fail
            first
            | (go_roundw
               case rel => exact ⟨q + 1, by omega, by go_num, HXf.out, HOf.out, HBf.out, Hsf.out⟩
               case measure => (first | omega | (simp [intOf] <;> omega) | (simp only [intOf] <;> omega)))
            | exact ⟨⟨q + 1, by omega, by go_num, HXf.out, HOf.out, HBf.out, Hsf.out⟩, by (first | omega | (simp [intOf] <;> omega) | (simp only [intOf] <;> omega))⟩
            | (refine ⟨?_, by (first | omega | (simp [intOf] <;> omega) | (simp only [intOf] <;> omega))⟩
               (repeat apply Exists.intro)
               refine (fun a b => And.intro b a) ?_ ?_
               · first | rfl | ((repeat refine ⟨rfl, ?_⟩); rfl)
               exact ⟨q + 1, by omega, by go_num, HXf.out, HOf.out, HBf.out, Hsf.out⟩)
          · have b1 : ¬ ((so : Int) < (Y : Int)) := by omega
            clear a1 Hlap
            go_wp2_with fail
            first
            | (go_roundw
               case rel => exact ⟨q + 1, by omega, by go_num, HXf.out, HOf.out, HBf.out, Hsf.out⟩
               case measure => (first | omega | (simp [intOf] <;> omega) | (simp only [intOf] <;> omega)))
            | exact ⟨⟨q + 1, by omega, by go_num, HXf.out, HOf.out, HBf.out, Hsf.out⟩, by (first | omega | (simp [intOf] <;> omega) | (simp only [intOf] <;> omega))⟩
            | (refine ⟨?_, by (first | omega | (simp [intOf] <;> omega) | (simp only [intOf] <;> omega))⟩
               (repeat apply Exists.intro)
               refine (fun a b => And.intro b a) ?_ ?_
               · first | rfl | ((repeat refine ⟨rfl, ?_⟩); rfl)
               exact ⟨q + 1, by omega, by go_num, HXf.out, HOf.out, HBf.out, Hsf.out⟩)
        · obtain rfl : q = k := by omega
          clear hqk
          go_wp2_with fail
          first
          | (go_roundw
             case rel => exact ⟨q + 1, by omega, by go_num, HO1.out, HB1x.out, HS1.out⟩
             case measure => (first | omega | (simp [intOf] <;> omega) | (simp only [intOf] <;> omega)))
          | exact ⟨⟨q + 1, by omega, by go_num, HO1.out, HB1x.out, HS1.out⟩, by (first | omega | (simp [intOf] <;> omega) | (simp only [intOf] <;> omega))⟩
          | (refine ⟨?_, by (first | omega | (simp [intOf] <;> omega) | (simp only [intOf] <;> omega))⟩
             (repeat apply Exists.intro)
             refine (fun a b => And.intro b a) ?_ ?_
             · first | rfl | ((repeat refine ⟨rfl, ?_⟩); rfl)
             exact ⟨q + 1, by omega, by go_num, HO1.out, HB1x.out, HS1.out⟩)
    · go_wp2_with fail
      as_aux_lemma =>
      refine (alive_any _).mono ?_
      rintro e w5 ⟨rfl, hb5⟩
      have HB5 := Lib.hid (Hb.out.trans (hb5.mono Hs.out))
      clear hb5 Hb Hs HO
      go_wp2_with fail
      go_ret
      exact ⟨rfl, by rw [HBx.out]; exact HB5.out⟩
set_option maxRecDepth 100000 in
theorem walk {H : Type} (enc : TypeId × Value → H) (W : World) (base : Nat) (v0 : Value) (d0 : DataW H) (p0 : List MemPlace)
    (k0 : Value.okWide Try.prog W .any base 22 v0)
    (h0 : DataW.Trod enc Try.prog W 0 (fun _ => true) true 22 v0 d0 p0)
    (hsz : (DataW.weightsEach Try.prog [22] ([d0] ++ [])).all (· ≤ reachBytes) = true) :
    Calls Try.prog 7 #[v0] W fun e w' => e = .returned (.bool true) ∧ Below W.heap.size W w' := by
  simp only [DataW.weightsEach, List.cons_append, List.nil_append] at hsz
  obtain ⟨z0, hsz⟩ := all_app hsz
  obtain ⟨ao, n, cap, l, rfl, hl, hn, hcap, hrd, hnil⟩ := open_bytes Try.underlying22 Try.underlying5 (by kernel_rfl) (by kernel_rfl) k0 h0 z0
  exact core W ao n cap l hl hn (by omega) hnil hrd
end Go.Proofs.Ytefkmlfpdlnodaa.fipApart
