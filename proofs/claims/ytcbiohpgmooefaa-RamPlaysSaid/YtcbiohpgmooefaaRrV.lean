/- One op of a script, of RAM and of the document's RAM: Regions, Find. No condition. -/
import Derived.Test.YtcbiohpgmooefaaRrU
set_option linter.unusedVariables false
set_option linter.unusedSimpArgs false
namespace Go.Proofs.Ytcbiohpgmooefaa
open Go.RowKit
attribute [local go_sem ↓] build_rg
structure ZIn (w3 : World) (base n g L : Nat) (iv : Value) (wr : World) : Prop where
  x : ∃ (k : Nat) (cur : List Value), k ≤ n ∧ iv = .int .i64 k ∧ (0 < n → HB wr g 33 cur ∧ cur.length = L) ∧ Below base w3 wr
section
variable {A B : Nat} {m : List UInt8} {t : List Rg} {va vb : Value} {w : World}
set_option maxRecDepth 100000 in
set_option maxHeartbeats 1000000 in
theorem step3 (h : Tw A B m m t t va vb w) (o : OpR) (hk : o.kind = 3) :
    Calls Try.prog 16 #[.pointer (some ⟨A, 0, none⟩), .pointer (some ⟨B, 0, none⟩), orv o] w fun e w' => e = .returned (.bool true) ∧ Stepped A B w w' := by
  have hz := run_buildRg0
  have HX := Lib.hid (HB.new w (orc o) 44)
  have HB1 := Lib.hid ((Below.refl w.heap.size w).alloc (Nat.le_refl _) (.cells (orc o).toArray 44))
  have HT := Lib.hid (h.later HB1.out)
  have HA1 := Lib.hid (HB1.out.mono (Nat.le_of_lt h.lt.1))
  obtain ⟨w1, hw1⟩ : ∃ w1, w.alloc (.cells (orc o).toArray 44) = w1 := ⟨_, rfl⟩
  rw [hw1] at HX HB1 HT HA1
  unfold orc at hw1
  obtain ⟨X, hX⟩ : ∃ X, w.heap.size = X := ⟨_, rfl⟩
  rw [hX] at HX
  have HXx := fun (_ : Unit) => Lib.hid hX
  unfold orv
  obtain ⟨x0, x1, x2, x3, x4, x5, x6, x7, x8, x9, x10, x11⟩ := OpX.of HX.out
  rw [hk] at x0 hw1 ⊢
  clear hk h
  go_enter Try.func16, Try.ntmps16
  have Hf := Lib.hid (regions_any HT.out.a)
  go_wp2_with fail
  clear x0 x1 x2 x3 x4 x5 x6 x7 x8 x9 x10 x11
  refine Hf.out.mono ?_
  rintro e w2 ⟨v2, rfl, ho2, hb2⟩
  have HT2 := Lib.hid (HT.out.later hb2)
  have h16 := HT.out.a.tb.n
  have k0 := HT2.out.b.tab
  obtain ⟨ao2, cp2, rfl, hc2, -, hrd2, -⟩ := ho2.rd rgc_len
  obtain ⟨bo, bc, rfl, -, -, hrdb, -⟩ := HT2.out.b.tv
  have Hf2 := Lib.hid (samer_any ao2 bo t.length cp2 bc t w2 rfl (by omega) hrd2 hrdb)
  have Ho2 := Lib.hid ho2
  have HBz : Hid (Below w1.heap.size w1 w2) := Lib.hid hb2
  clear ho2 hb2 hc2 hrd2 hrdb Hf HX
  go_wp2_with fail
  refine Hf2.out.mono ?_
  rintro e w3 ⟨rfl, hd3⟩
  have HT3 := Lib.hid (HT2.out.later (hd3.below _))
  have Ho3 := Lib.hid (Ho2.out.later (hd3.below _))
  have HB3 : Hid (Below w1.heap.size w1 w3) := Lib.hid (HBz.out.trans (hd3.below _))
  have HZ : Hid (∃ g L cur, (0 < t.length → ao2 = some ⟨g, 0, none⟩ ∧ HB w3 g 33 cur ∧ cur.length = L ∧ w1.heap.size ≤ g ∧ t.length * 6 ≤ L)) := Lib.hid (by
    by_cases hn : 0 < t.length
    · rcases Ho3.out.cases rgc_len with ⟨hv, h0⟩ | ⟨g, c, hv, -⟩
      · rw [h0] at hn; simp at hn
      · obtain ⟨rfl, -, rfl⟩ : ao2 = some ⟨g, 0, none⟩ ∧ True ∧ cp2 = c := by cases hv; exact ⟨rfl, trivial, rfl⟩
        obtain ⟨cur, hg, -, hlc, hcm, hcs, htk, hBg⟩ := Ho3.out.hb
        exact ⟨g, cur.length, cur, fun _ => ⟨rfl, hg, rfl, hBg, by rw [hcs]; exact Nat.mul_le_mul_right 6 hlc⟩⟩
    · exact ⟨0, 0, [], fun h => absurd h hn⟩)
  obtain ⟨g, L, cur, hz1⟩ := HZ.out
  have Hz := Lib.hid hz1
  clear hd3 hz1 HZ Ho2 Ho3 HT2 Hf2 k0 HBz
  go_wp2_with fail
  go_loopw [9] (fun iv wr => ZIn w3 w1.heap.size t.length g L iv wr) (fun iv _ => t.length - (intOf iv).toNat)
  case atStart => exact ⟨0, cur, Nat.zero_le _, rfl, fun h => ⟨(Hz.out h).2.1, (Hz.out h).2.2.1⟩, Below.refl _ _⟩
  case round =>
    obtain ⟨k, cur1, hk, rfl, hc1, hb1⟩ := hrel
    have Hb1 := Lib.hid hb1
    have Hc1 := Lib.hid hc1
    clear hb1 hc1
    by_cases hlt : k < t.length
    · have q1 : (k : Int) < (t.length : Int) := by omega
      obtain ⟨rfl, -, -, hgB, hL⟩ := Hz.out (by omega)
      obtain ⟨hg, hl⟩ := Hc1.out (by omega)
      have hat : ∀ j, j < 6 → ∃ u, wr.cell? ⟨g, k * 6 + j, none⟩ = some u := fun j hj => ⟨_, hg.cell (List.getElem?_eq_getElem (show k * 6 + j < cur1.length by omega))⟩
      obtain ⟨u0, k0⟩ := hat 0 (by decide)
      obtain ⟨u1, k1⟩ := hat 1 (by decide)
      obtain ⟨u2, k2⟩ := hat 2 (by decide)
      obtain ⟨u3, k3⟩ := hat 3 (by decide)
      obtain ⟨u4, k4⟩ := hat 4 (by decide)
      obtain ⟨u5, k5⟩ := hat 5 (by decide)
      rw [Nat.add_zero] at k0
      have f0 := hg.frozen
      have hnew := (((((hg.set (k * 6) (.int .u64 0)).set (k * 6 + 1) (.int .u64 0)).set (k * 6 + 2) (.bool false)).set (k * 6 + 3) (.bool false)).set (k * 6 + 4) (.bool false)).set (k * 6 + 5) (.bool false)
      have Hn := fun (_ : Unit) => Lib.hid hnew
      have Hbn := fun (_ : Unit) => Lib.hid ((((((Hb1.out.setCell (p := ⟨g, k * 6, none⟩) hgB (.int .u64 0)).setCell (p := ⟨g, k * 6 + 1, none⟩) hgB (.int .u64 0)).setCell (p := ⟨g, k * 6 + 2, none⟩) hgB (.bool false)).setCell (p := ⟨g, k * 6 + 3, none⟩) hgB (.bool false)).setCell (p := ⟨g, k * 6 + 4, none⟩) hgB (.bool false)).setCell (p := ⟨g, k * 6 + 5, none⟩) hgB (.bool false))
      have Hl := fun (_ : Unit) => Lib.hid hl
      clear hnew hg hat hl hL hgB Hb1 Hc1
      go_wp2_with fail
      first
      | (go_roundw
         case rel => exact ⟨k + 1, _, by omega, by go_num, fun _ => ⟨(Hn ()).out, by simp only [List.length_set]; exact (Hl ()).out⟩, (Hbn ()).out⟩
         case measure => (first | omega | (simp [intOf] <;> omega) | (simp only [intOf] <;> omega)))
      | exact ⟨⟨k + 1, _, by omega, by go_num, fun _ => ⟨(Hn ()).out, by simp only [List.length_set]; exact (Hl ()).out⟩, (Hbn ()).out⟩, by (first | omega | (simp [intOf] <;> omega) | (simp only [intOf] <;> omega))⟩
      | (refine ⟨?_, by (first | omega | (simp [intOf] <;> omega) | (simp only [intOf] <;> omega))⟩
         (repeat apply Exists.intro)
         refine (fun a b => And.intro b a) ?_ ?_
         · first | rfl | ((repeat refine ⟨rfl, ?_⟩); rfl)
         exact ⟨k + 1, _, by omega, by go_num, fun _ => ⟨(Hn ()).out, by simp only [List.length_set]; exact (Hl ()).out⟩, (Hbn ()).out⟩)
    · have q1 : ¬ (k : Int) < (t.length : Int) := by omega
      have HB4 := Lib.hid (HB3.out.trans Hb1.out)
      have HT4 := Lib.hid (HT.out.later HB4.out)
      have HA4 := Lib.hid (HA1.out.trans (HB4.out.mono (Nat.le_of_lt HT.out.lt.1)))
      clear Hc1 Hz Hb1 HB3
      go_wp2_with fail
      go_ret
      exact ⟨rfl, ⟨_, _, _, _, HT4.out⟩, HA4.out⟩
set_option maxRecDepth 100000 in
set_option maxHeartbeats 1000000 in
theorem step4 (h : Tw A B m m t t va vb w) (o : OpR) (hk : o.kind = 4) (hx : o.x < 18446744073709551616) :
    Calls Try.prog 16 #[.pointer (some ⟨A, 0, none⟩), .pointer (some ⟨B, 0, none⟩), orv o] w fun e w' => e = .returned (.bool true) ∧ Stepped A B w w' := by
  have hzr := run_buildRg0
  have hguard : Try.prog.eqGuardType Try.prog.depth 33 = false := by kernel_rfl
  have HX := Lib.hid (HB.new w (orc o) 44)
  have HB1 := Lib.hid ((Below.refl w.heap.size w).alloc (Nat.le_refl _) (.cells (orc o).toArray 44))
  have HT := Lib.hid (h.later HB1.out)
  have HA1 := Lib.hid (HB1.out.mono (Nat.le_of_lt h.lt.1))
  obtain ⟨w1, hw1⟩ : ∃ w1, w.alloc (.cells (orc o).toArray 44) = w1 := ⟨_, rfl⟩
  rw [hw1] at HX HB1 HT HA1
  unfold orc at hw1
  obtain ⟨X, hX⟩ : ∃ X, w.heap.size = X := ⟨_, rfl⟩
  rw [hX] at HX
  have HXx := fun (_ : Unit) => Lib.hid hX
  unfold orv
  obtain ⟨x0, x1, x2, x3, x4, x5, x6, x7, x8, x9, x10, x11⟩ := OpX.of HX.out
  rw [hk] at x0 hw1 ⊢
  clear hk h
  have HC := Lib.hid (fun w' (hb : Below w1.heap.size w1 w') => OpX.of (HX.out.later hb))
  obtain ⟨g, hg⟩ : ∃ g, (findR t o.x).getD default = g := ⟨_, rfl⟩
  obtain ⟨is, his⟩ : ∃ is, (findR t o.x).isSome = is := ⟨_, rfl⟩
  have hfr : fR t o.x = .tuple #[rgv g, .bool is] := by unfold fR; rw [hg, his]
  have Hf := Lib.hid (find_any HT.out.a o.x)
  have Hf2 := Lib.hid (fun w' (hb : Below w1.heap.size w1 w') => rfind_any (HT.out.later hb).b o.x hx)
  rw [hfr] at Hf Hf2
  clear hg his hfr hx
  unfold rgv at Hf Hf2
  obtain ⟨gb, gn, gr, gw, gx, gs⟩ := g
  dsimp only at Hf Hf2
  have heq := fun w => rg_equal ⟨gb, gn, gr, gw, gx, gs⟩ ⟨gb, gn, gr, gw, gx, gs⟩ w
  rw [decide_eq_true rfl] at heq
  dsimp only at heq
  go_enter Try.func16, Try.ntmps16
  go_wp2_with fail
  clear x0 x1 x2 x3 x4 x5 x6 x7 x8 x9 x10 x11
  refine Hf.out.mono ?_
  rintro e w2 ⟨rfl, hb2⟩
  have HY := Lib.hid (HB.new w2 (rgc ⟨gb, gn, gr, gw, gx, gs⟩) 33)
  have Hb3 := Lib.hid (hb2.alloc hb2.size (.cells (rgc ⟨gb, gn, gr, gw, gx, gs⟩).toArray 33))
  obtain ⟨w3, hw3⟩ : ∃ w3, w2.alloc (.cells #[.int .u64 gb, .int .u64 gn, .bool gr, .bool gw, .bool gx, .bool gs] 33) = w3 := ⟨_, rfl⟩
  have hw3' : w2.alloc (.cells (rgc ⟨gb, gn, gr, gw, gx, gs⟩).toArray 33) = w3 := hw3
  rw [hw3'] at HY Hb3
  obtain ⟨Y, hY⟩ : ∃ Y, w2.heap.size = Y := ⟨_, rfl⟩
  rw [hY] at HY
  have hc := (HC.out _ Hb3.out).c9
  have Hg2 := Lib.hid (Hf2.out _ Hb3.out)
  clear hb2 hw3' Hf Hf2
  go_wp2_with fail
  clear hc
  refine Hg2.out.mono ?_
  rintro e w4 ⟨rfl, hb4⟩
  have HY4 := Lib.hid (HY.out.later hb4)
  have HZ := Lib.hid (HB.new w4 (rgc ⟨gb, gn, gr, gw, gx, gs⟩) 33)
  have hb5 := (Below.refl _ w4).alloc (Nat.le_refl _) (.cells (rgc ⟨gb, gn, gr, gw, gx, gs⟩).toArray 33)
  have Hb5 := Lib.hid (Hb3.out.trans ((hb4.trans (hb5.mono hb4.size)).mono Hb3.out.size))
  have HY5 := Lib.hid (HY4.out.later hb5)
  obtain ⟨w5, hw5⟩ : ∃ w5, w4.alloc (.cells #[.int .u64 gb, .int .u64 gn, .bool gr, .bool gw, .bool gx, .bool gs] 33) = w5 := ⟨_, rfl⟩
  have hw5' : w4.alloc (.cells (rgc ⟨gb, gn, gr, gw, gx, gs⟩).toArray 33) = w5 := hw5
  rw [hw5'] at HZ HY5 Hb5
  obtain ⟨Z, hZ⟩ : ∃ Z, w4.heap.size = Z := ⟨_, rfl⟩
  rw [hZ] at HZ
  obtain ⟨y0, y1, y2, y3, y4, y5⟩ := Six.of HY5.out
  obtain ⟨z0, z1, z2, z3, z4, z5⟩ := Six.of HZ.out
  have HT5 := Lib.hid (HT.out.later Hb5.out)
  have HA5 := Lib.hid (HA1.out.trans (Hb5.out.mono (Nat.le_of_lt HT.out.lt.1)))
  clear hw5' hb4 hb5 HY4 HZ HY5 Hb5 Hb3 HY HC HT HX Hg2
  dsimp only at *
  go_wp2_with fail
  go_ret
  exact ⟨rfl, ⟨_, _, _, _, HT5.out⟩, HA5.out⟩
end
end Go.Proofs.Ytcbiohpgmooefaa
