/- Whether bytes may be gone to. No condition. -/
import Derived.Test.YtcbiohpgmooefaaRmO
set_option linter.unusedVariables false
set_option linter.unusedSimpArgs false
namespace Go.Proofs.Ytcbiohpgmooefaa
open Go.RowKit
attribute [local go_sem ↓] build_rg
/-- how far the run of regions goes -/
structure MayIn (t : List Rg) (sec : Bool) (a : Int) (x0 n : Nat) (w : World) (av : Value) (wr : World) : Prop where
  x : ∃ x : Nat, x0 ≤ x ∧ av = .int .u64 x ∧ (x < x0 + n → mayGo t sec a x0 n = mayGo t sec a x (x0 + n - x)) ∧ (x0 + n ≤ x → mayGo t sec a x0 n = 0) ∧ x < 18446744073709551616 ∧ Below w.heap.size w wr
theorem rgc_cells (g : Rg) : (rgc g).toArray = #[.int .u64 g.base, .int .u64 g.size, .bool g.r, .bool g.w, .bool g.x, .bool g.s] := rfl
theorem mayGo_zero {t : List Rg} {sec : Bool} {a : Int} {x n : Nat} (h : n = 0) : mayGo t sec a x n = 0 := by rw [h]; rfl
set_option maxHeartbeats 1000000 in
theorem may_any {B R : Nat} {m : List UInt8} {tv : Value} {t : List Rg} {w : World} (h : RamM B R m tv t w) (sec : Bool) (a : Int) (x n : Nat) (hx : x < 18446744073709551616) :
    Calls Try.prog 23 #[.pointer (some ⟨R, 0, none⟩), .bool sec, .int .i64 a, .int .u64 x, .int .u64 n] w fun e w' => e = .returned (.int .i64 (mayR t sec a x n)) ∧ Below w.heap.size w w' := by
  by_cases ha1 : a < 1
  · have Hd := Lib.hid (show mayR t sec a x n = 1 by unfold mayR; rw [if_pos (.inl ha1)])
    clear h
    go_enter Try.func23, Try.ntmps23
    go_wp2_with fail
    go_ret
    exact ⟨by rw [Hd.out]; rfl, Below.refl _ _⟩
  by_cases ha3 : 3 < a
  · have Hd := Lib.hid (show mayR t sec a x n = 1 by unfold mayR; rw [if_pos (.inr ha3)])
    clear h
    go_enter Try.func23, Try.ntmps23
    go_wp2_with fail
    go_ret
    exact ⟨by rw [Hd.out]; rfl, Below.refl _ _⟩
  have Hw := Lib.hid (fun w' => within_any x n w' hx)
  cases hin : inRam x n
  · have Hd := Lib.hid (show mayR t sec a x n = 161 by unfold mayR; rw [if_neg (by omega), if_pos hin])
    rw [hin] at Hw
    clear h hin
    go_enter Try.func23, Try.ntmps23
    go_wp2_with fail
    refine (Hw.out _).mono ?_
    rintro e w' ⟨rfl, rfl⟩
    clear Hw
    go_wp2_with fail
    go_ret
    exact ⟨by rw [Hd.out]; rfl, Below.refl _ _⟩
  · have Hd := Lib.hid (show mayR t sec a x n = mayGo t sec a x n by unfold mayR; rw [if_neg (by omega), if_neg (by rw [hin]; decide)])
    have hin2 := inRam_iff.1 hin
    rw [hin] at Hw
    have e1 : IntKind.u64.wrap ((x : Int) + (n : Int)) = ((x + n : Nat) : Int) := by rw [IntWalk.u64_in _ (by omega)]; omega
    have Hh := Lib.hid (fun w' (hb : Below w.heap.size w w') => h.later hb)
    have Ht := Lib.hid h.tb
    have Ha := Lib.hid (And.intro (show 1 ≤ a by omega) (show a ≤ 3 by omega))
    have Hin := Lib.hid hin2
    obtain ⟨L, hL⟩ : ∃ L, x + n = L := ⟨_, rfl⟩
    have HL := Lib.hid hL
    rw [hL] at e1
    clear h hin hin2 hL
    go_enter Try.func23, Try.ntmps23
    go_wp2_with fail
    refine (Hw.out _).mono ?_
    rintro e w' ⟨rfl, rfl⟩
    clear Hw
    go_wp2_with fail
    clear e1
    go_loopw [3, 12, 13] (fun av _ _ wr => MayIn t sec a x n w av wr) (fun av _ _ _ => L - (intOf av).toNat)
    case atStart => exact ⟨x, Nat.le_refl _, rfl, fun _ => by rw [Nat.add_sub_cancel_left], fun h => (mayGo_zero (by omega)), hx, Below.refl _ _⟩
    case round =>
      as_aux_lemma =>
      obtain ⟨y, hxy, rfl, hm, h0, hy, hb⟩ := hrel
      have Hm := Lib.hid hm
      have H0 := Lib.hid h0
      have Hb := Lib.hid hb
      have hL := HL.out
      have hin := Hin.out
      clear hm h0 hb
      by_cases hyL : y < L
      · have f1 : (y : Int) < (L : Int) := by omega
        have Hf := Lib.hid (find_any (Hh.out _ Hb.out) y)
        have Hgo := Lib.hid (Hm.out (by omega))
        cases hfr : findR t y with
        | none =>
          rw [fR_none hfr] at Hf
          have Hr := Lib.hid (Hd.out.trans (Hgo.out.trans ((mayGo_hit (by rw [mayAt_none hfr]; decide) (by omega)).trans (mayAt_none hfr))))
          clear hfr hL hin hxy hyL Hgo
          go_wp2_with fail
          refine Hf.out.mono ?_
          rintro e w2 ⟨rfl, hb2⟩
          have Hb2 := Lib.hid (Hb.out.trans (hb2.mono Hb.out.size))
          clear hb2 Hf
          unfold rgv
          go_wp2_with fail
          go_ret
          exact ⟨by rw [Hr.out]; rfl, Hb2.out.alloc Hb2.out.size _⟩
        | some g =>
          rw [fR_some hfr] at Hf
          have hgk := findR_ok Ht.out hfr
          have hgok := RgOk.of Ht.out hgk.1
          have Hop := Lib.hid (fun w' => open_any g sec a w' Ha.out.1 Ha.out.2)
          have Hen := Lib.hid (fun w' => end_any g w' (by omega))
          obtain ⟨E, hE⟩ : ∃ E, g.base + g.size = E := ⟨_, rfl⟩
          rw [hE] at Hen hgk
          have HE : Hid (y < E ∧ E ≤ 1073807360) := Lib.hid ⟨hgk.2.2.1, hgk.2.2.2⟩
          cases ho : opn g sec a
          · have Hr := Lib.hid (Hd.out.trans (Hgo.out.trans ((mayGo_hit (by rw [mayAt_some hfr, ho]; decide) (by omega)).trans (by rw [mayAt_some hfr, ho]; rfl : _ = (163 : Int)))))
            rw [ho] at Hop
            clear hfr hL hin hxy hyL Hgo ho hgk hgok hE
            unfold rgv at Hf Hop Hen
            go_wp2_with fail
            refine Hf.out.mono ?_
            rintro e w2 ⟨rfl, hb2⟩
            have Hb2 := Lib.hid ((Hb.out.trans (hb2.mono Hb.out.size)).alloc (Nat.le_trans Hb.out.size hb2.size) (.cells (rgc g).toArray 33))
            rw [rgc_cells] at Hb2
            clear hb2 Hf
            go_wp2_with fail
            refine (Hop.out _).mono ?_
            rintro e w3 ⟨rfl, hb3⟩
            have Hb3 := Lib.hid (Hb2.out.trans (hb3.mono Hb2.out.size))
            clear hb3 Hop
            go_wp2_with fail
            go_ret
            exact ⟨by rw [Hr.out]; rfl, Hb3.out⟩
          · have Hskip : Hid (E ≤ L → mayGo t sec a x n = mayGo t sec a E (L - E)) := Lib.hid (fun h => by
              have := mayGo_skip Ht.out hfr ho (E - y) (x + n - y) (by omega) (by omega)
              rw [Hgo.out, this, show y + (E - y) = E by omega, show x + n - y - (E - y) = L - E by omega])
            have Hover : Hid (L ≤ E → mayGo t sec a x n = 0) := Lib.hid (fun h => by
              have := mayGo_skip Ht.out hfr ho (x + n - y) (x + n - y) (by omega) (Nat.le_refl _)
              rw [Hgo.out, this]
              exact mayGo_zero (by omega))
            rw [ho] at Hop
            have Hsc : Hid (HB (wr.alloc (.cells (rgc g).toArray 33)) wr.heap.size 33 (rgc g)) := Lib.hid (HB.new _ _ _)
            clear hfr ho hgk hgok hE Hgo Hsc
            unfold rgv at Hf Hop Hen
            go_wp2_with fail
            refine Hf.out.mono ?_
            rintro e w2 ⟨rfl, hb2⟩
            have Hb2 := Lib.hid ((Hb.out.trans (hb2.mono Hb.out.size)).alloc (Nat.le_trans Hb.out.size hb2.size) (.cells (rgc g).toArray 33))
            have HX2 := Lib.hid (HB.new w2 (rgc g) 33)
            rw [rgc_cells] at Hb2
            clear hb2 Hf
            go_wp2_with fail
            refine (Hop.out _).mono ?_
            rintro e w3 ⟨rfl, hb3⟩
            have Hb3 := Lib.hid (Hb2.out.trans (hb3.mono Hb2.out.size))
            have hX3 := HX2.out.later hb3
            have x0 := hX3.cell (i := 0) rfl
            have x1 := hX3.cell (i := 1) rfl
            have x2 := hX3.cell (i := 2) rfl
            have x3 := hX3.cell (i := 3) rfl
            have x4 := hX3.cell (i := 4) rfl
            have x5 := hX3.cell (i := 5) rfl
            clear hb3 Hop HX2 hX3
            go_wp2_with fail
            refine (Hen.out _).mono ?_
            rintro e w4 ⟨rfl, hb4⟩
            have Hb4 := Lib.hid (Hb3.out.trans (hb4.mono Hb3.out.size))
            clear hb4 Hen x0 x1 x2 x3 x4 x5
            have hE := HE.out
            go_wp2_with fail
            first
            | (go_roundw
               case rel => exact ⟨E, by omega, rfl, fun h => by rw [hL]; exact Hskip.out (by omega), fun h => Hover.out (by omega), by omega, Hb4.out⟩
               case measure => (first | omega | (simp [intOf] <;> omega) | (simp only [intOf] <;> omega)))
            | exact ⟨⟨E, by omega, rfl, fun h => by rw [hL]; exact Hskip.out (by omega), fun h => Hover.out (by omega), by omega, Hb4.out⟩, by (first | omega | (simp [intOf] <;> omega) | (simp only [intOf] <;> omega))⟩
            | (refine ⟨?_, by (first | omega | (simp [intOf] <;> omega) | (simp only [intOf] <;> omega))⟩
               (repeat apply Exists.intro)
               refine (fun a b => And.intro b a) ?_ ?_
               · first | rfl | ((repeat refine ⟨rfl, ?_⟩); rfl)
               exact ⟨E, by omega, rfl, fun h => by rw [hL]; exact Hskip.out (by omega), fun h => Hover.out (by omega), by omega, Hb4.out⟩)
      · have f1 : ¬ (y : Int) < (L : Int) := by omega
        have Hr := Lib.hid (Hd.out.trans (H0.out (by omega)))
        clear hL hin hxy hyL
        go_wp2_with fail
        go_ret
        exact ⟨by rw [Hr.out]; rfl, Hb.out⟩
end Go.Proofs.Ytcbiohpgmooefaa
