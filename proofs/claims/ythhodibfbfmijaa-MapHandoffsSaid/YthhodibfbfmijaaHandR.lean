/- A handoff as bytes: the document's word. No condition. -/
import Derived.Test.YthhodibfbfmijaaHandQ
set_option linter.unusedVariables false
set_option linter.unusedSimpArgs false
namespace Go.Proofs.Ythhodibfbfmijaa
open Go.RowKit
structure ByIn2 (B : Nat) (pre : List UInt8) (V : Nat) (v4 : Value) (w4 : World) (c x j : Value) (wr : World) : Prop where
  x : ∃ (k : Nat) (vo : Value), k ≤ 8 ∧ j = .int .i64 (k : Nat) ∧ vo = c ∧ x = .int .u64 ((V / 256 ^ k : Nat) : Int) ∧ Own 5 wr B vo (pre ++ encL k false V) ∧ Gr w4 wr v4 vo ∧ B ≤ wr.heap.size
set_option maxHeartbeats 400000 in
theorem rbytes_any (h : Ho) (w : World) (hok : h.Ok) (hm : mayR h = true) :
    Calls Try.prog 25 #[hov h] w fun e w' => ∃ v, e = .returned v ∧ Own 5 w' w.heap.size v (hoB h) ∧ Below w.heap.size w w' := by
  obtain ⟨m1, m2⟩ := hand_bounds hm
  have Hbytes : Hid (hoB h = hoT h ++ encX (hoX h)) := Lib.hid rfl
  have hI : ((UInt8.ofNat h.img.toNat).toNat : Int) = h.img := by rw [UInt8.toNat_ofNat']; omega
  generalize hc0 : UInt8.ofNat h.img.toNat = c0 at *
  have q1 : IntKind.u8.wrap (c0.toNat : Int) = (c0.toNat : Int) := by have := c0.toNat_lt; simp [IntKind.wrap, IntKind.bits, IntKind.signed]; omega
  have HT : Hid (hoT h = [c0, if h.sec then 1 else 0]) := Lib.hid (by unfold hoT; rw [hc0])
  have HX : Hid (hoX h = [h.base, h.size, h.a, h.b, h.c, h.d]) := Lib.hid rfl
  have HO6 : Hid (h.base < 18446744073709551616 ∧ h.size < 18446744073709551616 ∧ h.a < 18446744073709551616 ∧ h.b < 18446744073709551616 ∧ h.c < 18446744073709551616 ∧ h.d < 18446744073709551616) := Lib.hid ⟨hok.base, hok.size, hok.a, hok.b, hok.c, hok.d⟩
  unfold hov at *
  rw [← hI]
  clear m1 m2 hm hI hc0 hok
  generalize hoX h = xs at *
  generalize hoT h = pre at *
  generalize hoB h = res at *
  generalize h.base = x1 at *
  generalize h.size = x2 at *
  generalize h.sec = s at *
  generalize h.a = x3 at *
  generalize h.b = x4 at *
  generalize h.c = x5 at *
  generalize h.d = x6 at *
  clear h
  go_enter Try.func25, Try.ntmps25
  cases s
  · go_wp2_with fail
    as_aux_lemma =>
    have Hpl : Hid (pre.length = 2) := Lib.hid (by rw [HT.out]; rfl)
    have Ho3 : Hid (Own 5 ((w.alloc (.cells #[.int .i64 c0.toNat, .int .u64 x1, .int .u64 x2, .bool false, .int .u64 x3, .int .u64 x4, .int .u64 x5, .int .u64 x6] 45)).alloc (.cells #[.int .u8 c0.toNat, .int .u8 0] 5)) w.heap.size (.slice (some ⟨w.heap.size + 1, 0, none⟩) 2 2) [c0, 0]) := Lib.hid (by
      have h := Own.made (E := 5) (w.alloc (.cells #[.int .i64 c0.toNat, .int .u64 x1, .int .u64 x2, .bool false, .int .u64 x3, .int .u64 x4, .int .u64 x5, .int .u64 x6] 45)) w.heap.size [c0, 0] (by simp) (by simp [maxLen])
      rw [show (w.alloc (.cells #[.int .i64 c0.toNat, .int .u64 x1, .int .u64 x2, .bool false, .int .u64 x3, .int .u64 x4, .int .u64 x5, .int .u64 x6] 45)).heap.size = w.heap.size + 1 by simp] at h
      exact h)
    have HB3 := Lib.hid (((Below.refl w.heap.size w).alloc (Nat.le_refl _) (.cells #[.int .i64 c0.toNat, .int .u64 x1, .int .u64 x2, .bool false, .int .u64 x3, .int .u64 x4, .int .u64 x5, .int .u64 x6] 45)).alloc (by simp) (.cells #[.int .u8 c0.toNat, .int .u8 0] 5))
    have Hsz3 : Hid (((w.alloc (.cells #[.int .i64 c0.toNat, .int .u64 x1, .int .u64 x2, .bool false, .int .u64 x3, .int .u64 x4, .int .u64 x5, .int .u64 x6] 45)).alloc (.cells #[.int .u8 c0.toNat, .int .u8 0] 5)).heap.size = w.heap.size + 1 + 1) := Lib.hid (by simp)
    generalize (w.alloc (.cells #[.int .i64 c0.toNat, .int .u64 x1, .int .u64 x2, .bool false, .int .u64 x3, .int .u64 x4, .int .u64 x5, .int .u64 x6] 45)).alloc (.cells #[.int .u8 c0.toNat, .int .u8 0] 5) = w3 at *
    obtain ⟨g1, hg1⟩ : ∃ g1, w.heap.size + 1 = g1 := ⟨_, rfl⟩
    obtain ⟨g, hg⟩ : ∃ g, g1 + 1 = g := ⟨_, rfl⟩
    rw [hg1] at Ho3 Hsz3 ⊢
    rw [hg] at Hsz3 ⊢
    have Hs3 : Hid (g1 < g) := Lib.hid (by omega)
    clear hg hg1
    have Hm := Lib.hid (OwnS.made (cells := uc) (sz := 1) (E := 24) (fun _ => rfl) w3 w3.heap.size [x1, x2, x3, x4, x5, x6] (Nat.le_refl _) (by simp [maxLen]))
    have Hbl := Lib.hid ((Below.refl w3.heap.size w3).alloc (Nat.le_refl _) (.cells #[.int .u64 x1, .int .u64 x2, .int .u64 x3, .int .u64 x4, .int .u64 x5, .int .u64 x6] 24))
    replace Hm : Hid (OwnS uc 24 1 (w3.alloc (.cells #[.int .u64 x1, .int .u64 x2, .int .u64 x3, .int .u64 x4, .int .u64 x5, .int .u64 x6] 24)) g (.slice (some ⟨g, 0, none⟩) 6 6) [x1, x2, x3, x4, x5, x6]) := Lib.hid (by have h := Hm.out; rw [Hsz3.out] at h; exact h)
    have HOo := Lib.hid (Ho3.out.later Hbl.out)
    have Hb4 := Lib.hid (HB3.out.trans (Hbl.out.mono HB3.out.size))
    clear HB3 Hbl Ho3 Hsz3
    generalize w3.alloc (.cells #[.int .u64 x1, .int .u64 x2, .int .u64 x3, .int .u64 x4, .int .u64 x5, .int .u64 x6] 24) = wc at *
    have HO4 : Hid (OwnS uc 24 1 wc g (.slice (some ⟨g, 0, none⟩) 6 6) xs) := Lib.hid (by rw [HX.out]; exact Hm.out)
    have Ho4 : Hid (Own 5 wc w.heap.size (.slice (some ⟨g1, 0, none⟩) 2 2) pre) := Lib.hid (by rw [HT.out]; exact HOo.out)
    have HXl : Hid (xs.length = 6) := Lib.hid (by rw [HX.out]; rfl)
    clear Hm HOo HT
    go_loopw [3, 5, 6, 7] (fun c idx _ _ wr => EnIn w.heap.size pre xs (.slice (some ⟨g1, 0, none⟩) 2 2) wc c idx wr) (fun _ idx _ _ _ => 6 - (intOf idx).toNat)
    case atStart => exact ⟨0, _, by omega, rfl, rfl, by simpa [encX] using Ho4.out, Gr.refl _ _, Hb4.out.size⟩
    case round =>
      as_aux_lemma =>
      obtain ⟨k, vo, hk, rfl, rfl, hown, hgr, hs⟩ := hrel
      have HOw := Lib.hid hown
      have HGr := Lib.hid hgr
      have Hs := Lib.hid hs
      clear hown hgr hs
      by_cases hlt : k < 6
      · obtain ⟨V, hV⟩ : ∃ V, xs[k]? = some V := ⟨_, List.getElem?_eq_getElem (by have := HXl.out; omega)⟩
        have HXr := HO4.out.grown HGr.out.g (fun q hq h => by
          have e1 : g = q := Option.some.inj hq
          have e2 : g1 = q := Option.some.inj h
          have := Hs3.out
          omega)
        have hcell : wr.cell? ⟨g, k, none⟩ = some (.int .u64 V) := by
          rcases HXr.cases uc_len with ⟨h, _⟩ | ⟨g', C', he, _, _, _, _, h5, _⟩
          · cases h
          · rw [HXl.out] at he
            cases he
            have := h5 k V hV 0 _ rfl
            rwa [Nat.mul_one, Nat.add_zero] at this
        have HVlt : Hid (V < 18446744073709551616) := Lib.hid (by
          have hmem := List.mem_of_getElem? hV
          rw [HX.out] at hmem
          have h6 := HO6.out
          simp only [List.mem_cons, List.not_mem_nil, or_false] at hmem
          omega)
        have Hnx : Hid (pre ++ encX (xs.take (k + 1)) = (pre ++ encX (xs.take k)) ++ encL 8 false V) := Lib.hid (by rw [encX_snoc xs k V hV, List.append_assoc])
        have Hol : Hid ((pre ++ encX (xs.take k)).length ≤ 100) := Lib.hid (by
          rw [List.length_append, encX_len, List.length_take]
          have := Hpl.out
          omega)
        clear HXr hV
        have f1 : (k : Int) < 6 := by omega
        have f0 : (0 : Int) ≤ (k : Int) := by omega
        generalize pre ++ encX (xs.take k) = po at *
        go_wp2_with fail
        as_aux_lemma =>
        go_loopw [3, 6, 7] (fun c x j wr2 => ByIn2 w.heap.size po V vo wr c x j wr2) (fun _ _ j _ => 8 - (intOf j).toNat)
        case atStart => exact ⟨0, _, by omega, rfl, rfl, by rw [Nat.pow_zero, Nat.div_one], by simpa [encL] using HOw.out, Gr.refl _ _, Hs.out⟩
        case round =>
          as_aux_lemma =>
          obtain ⟨j, vp, hj, rfl, rfl, rfl, hown, hgr, hs⟩ := hrel
          have HOw2 := Lib.hid hown
          have HGr2 := Lib.hid hgr
          have Hs2 := Lib.hid hs
          clear hown hgr hs
          obtain ⟨W, hW⟩ : ∃ W : Nat, V / 256 ^ j = W := ⟨_, rfl⟩
          rw [hW]
          have hWl : W < 18446744073709551616 := by have := Nat.div_le_self V (256 ^ j); have := HVlt.out; omega
          by_cases hlt : j < 8
          · obtain ⟨c, hc⟩ : ∃ c : UInt8, UInt8.ofNat W = c := ⟨_, rfl⟩
            have Hen : Hid (encL (j + 1) false V = encL j false V ++ [c]) := Lib.hid (by rw [encL_snoc, hW, hc])
            have r0 : (c.toNat : Int) = ((W % 256 : Nat) : Int) := by rw [← hc]; simp
            have r1 : (W : Int).tmod 256 = (c.toNat : Int) := by rw [r0]; rw [Int.tmod_eq_emod_of_nonneg (by omega)]; omega
            have r2 : (W : Int) % 256 = (c.toNat : Int) := by rw [r0]; omega
            obtain ⟨W2, hW2⟩ : ∃ W2 : Nat, W / 256 = W2 := ⟨_, rfl⟩
            have r4 : (W : Int) / 256 = (W2 : Int) := by omega
            have r3 : (W : Int).tdiv 256 = (W2 : Int) := by rw [Int.tdiv_eq_ediv_of_nonneg (by omega)]; exact r4
            have r6 : IntKind.u64.wrap (W2 : Int) = (W2 : Int) := IntWalk.u64_in _ (by omega)
            have hcl := c.toNat_lt
            have r5 : IntKind.u8.wrap (c.toNat : Int) = (c.toNat : Int) := by simp [IntKind.wrap, IntKind.bits, IntKind.signed]; omega
            have HW2 : Hid (V / 256 ^ (j + 1) = W2) := Lib.hid (by rw [Nat.pow_succ, ← Nat.div_div_eq_div_mul, hW, hW2])
            clear r0 hc hW hW2 hWl hcl
            have Hnew := Lib.hid (HOw2.out.alloc (.cells #[.int .u8 c.toNat] 5))
            go_wp2_with (at_builtin; refine wpList_append_at byteRow22 rfl _ _ rfl w.heap.size vp (po ++ encL j false V) rfl Hnew.out ⟨wr.heap.size, 0, none⟩ 1 1 [c] rfl rfl (Rd.new wr [c] _ _) ?c1 ?c2 (po.length + j + 1) ?c3 (by omega) ?_)
            case c1 => rw [List.length_append, encL_length]; have := Hol.out; omega
            case c2 => exact Nat.le_trans Hs2.out (by simp)
            case c3 => rw [List.length_append, encL_length]
            intro g5 C5 w5 ho5 hg5 hk5
            have HO5 : Hid (Own 5 w5 w.heap.size (.slice (some ⟨g5, 0, none⟩) (po.length + j + 1) C5) (po ++ encL (j + 1) false V)) := Lib.hid (by rw [Hen.out]; exact ho5)
            have HG5 := Lib.hid (HGr2.out.trans (v2 := .slice (some ⟨g5, 0, none⟩) (po.length + j + 1) C5) (w2 := w5) ⟨(grown_alloc wr (.cells #[.int .u8 c.toNat] 5) vp.ownBlock).trans hg5, fun q hq => by
              cases hq
              rcases hk5 with h | h
              · exact Or.inl h.symm
              · right; rw [h]; simp⟩)
            have Hs5 : Hid (w.heap.size ≤ w5.heap.size) := Lib.hid (Nat.le_trans Hs2.out (Nat.le_trans (by simp) hg5.size))
            clear ho5 hg5 hk5
            go_wp2_with fail
            first
            | (go_roundw
               case rel => exact ⟨j + 1, _, by omega, by go_num, rfl, by rw [HW2.out], HO5.out, HG5.out, Hs5.out⟩
               case measure => (first | omega | (simp [intOf] <;> omega) | (simp only [intOf] <;> omega)))
            | exact ⟨⟨j + 1, _, by omega, by go_num, rfl, by rw [HW2.out], HO5.out, HG5.out, Hs5.out⟩, by (first | omega | (simp [intOf] <;> omega) | (simp only [intOf] <;> omega))⟩
            | (refine ⟨?_, by (first | omega | (simp [intOf] <;> omega) | (simp only [intOf] <;> omega))⟩
               (repeat apply Exists.intro)
               refine (fun a b => And.intro b a) ?_ ?_
               · first | rfl | ((repeat refine ⟨rfl, ?_⟩); rfl)
               exact ⟨j + 1, _, by omega, by go_num, rfl, by rw [HW2.out], HO5.out, HG5.out, Hs5.out⟩)
          · obtain rfl : j = 8 := by omega
            clear hW
            go_wp2_with fail
            first
            | (go_roundw
               case rel => exact ⟨k + 1, vp, by omega, by go_num, rfl, by rw [Hnx.out]; exact HOw2.out, HGr.out.trans HGr2.out, Hs2.out⟩
               case measure => (first | omega | (simp [intOf] <;> omega) | (simp only [intOf] <;> omega)))
            | exact ⟨⟨k + 1, vp, by omega, by go_num, rfl, by rw [Hnx.out]; exact HOw2.out, HGr.out.trans HGr2.out, Hs2.out⟩, by (first | omega | (simp [intOf] <;> omega) | (simp only [intOf] <;> omega))⟩
            | (refine ⟨?_, by (first | omega | (simp [intOf] <;> omega) | (simp only [intOf] <;> omega))⟩
               (repeat apply Exists.intro)
               refine (fun a b => And.intro b a) ?_ ?_
               · first | rfl | ((repeat refine ⟨rfl, ?_⟩); rfl)
               exact ⟨k + 1, vp, by omega, by go_num, rfl, by rw [Hnx.out]; exact HOw2.out, HGr.out.trans HGr2.out, Hs2.out⟩)
      · obtain rfl : k = 6 := by omega
        go_wp2_with fail
        go_ret
        exact ⟨vo, rfl, by (have h := HOw.out; rw [List.take_of_length_le (by rw [HXl.out]; exact Nat.le_refl _)] at h; rw [Hbytes.out]; exact h), Hb4.out.trans (HGr.out.below Ho4.out Hb4.out.size)⟩
  · go_wp2_with fail
    as_aux_lemma =>
    have Hpl : Hid (pre.length = 2) := Lib.hid (by rw [HT.out]; rfl)
    have Ho3 : Hid (Own 5 ((w.alloc (.cells #[.int .i64 c0.toNat, .int .u64 x1, .int .u64 x2, .bool true, .int .u64 x3, .int .u64 x4, .int .u64 x5, .int .u64 x6] 45)).alloc (.cells #[.int .u8 c0.toNat, .int .u8 1] 5)) w.heap.size (.slice (some ⟨w.heap.size + 1, 0, none⟩) 2 2) [c0, 1]) := Lib.hid (by
      have h := Own.made (E := 5) (w.alloc (.cells #[.int .i64 c0.toNat, .int .u64 x1, .int .u64 x2, .bool true, .int .u64 x3, .int .u64 x4, .int .u64 x5, .int .u64 x6] 45)) w.heap.size [c0, 1] (by simp) (by simp [maxLen])
      rw [show (w.alloc (.cells #[.int .i64 c0.toNat, .int .u64 x1, .int .u64 x2, .bool true, .int .u64 x3, .int .u64 x4, .int .u64 x5, .int .u64 x6] 45)).heap.size = w.heap.size + 1 by simp] at h
      exact h)
    have HB3 := Lib.hid (((Below.refl w.heap.size w).alloc (Nat.le_refl _) (.cells #[.int .i64 c0.toNat, .int .u64 x1, .int .u64 x2, .bool true, .int .u64 x3, .int .u64 x4, .int .u64 x5, .int .u64 x6] 45)).alloc (by simp) (.cells #[.int .u8 c0.toNat, .int .u8 1] 5))
    have Hsz3 : Hid (((w.alloc (.cells #[.int .i64 c0.toNat, .int .u64 x1, .int .u64 x2, .bool true, .int .u64 x3, .int .u64 x4, .int .u64 x5, .int .u64 x6] 45)).alloc (.cells #[.int .u8 c0.toNat, .int .u8 1] 5)).heap.size = w.heap.size + 1 + 1) := Lib.hid (by simp)
    generalize (w.alloc (.cells #[.int .i64 c0.toNat, .int .u64 x1, .int .u64 x2, .bool true, .int .u64 x3, .int .u64 x4, .int .u64 x5, .int .u64 x6] 45)).alloc (.cells #[.int .u8 c0.toNat, .int .u8 1] 5) = w3 at *
    obtain ⟨g1, hg1⟩ : ∃ g1, w.heap.size + 1 = g1 := ⟨_, rfl⟩
    obtain ⟨g, hg⟩ : ∃ g, g1 + 1 = g := ⟨_, rfl⟩
    rw [hg1] at Ho3 Hsz3 ⊢
    rw [hg] at Hsz3 ⊢
    have Hs3 : Hid (g1 < g) := Lib.hid (by omega)
    clear hg hg1
    have Hm := Lib.hid (OwnS.made (cells := uc) (sz := 1) (E := 24) (fun _ => rfl) w3 w3.heap.size [x1, x2, x3, x4, x5, x6] (Nat.le_refl _) (by simp [maxLen]))
    have Hbl := Lib.hid ((Below.refl w3.heap.size w3).alloc (Nat.le_refl _) (.cells #[.int .u64 x1, .int .u64 x2, .int .u64 x3, .int .u64 x4, .int .u64 x5, .int .u64 x6] 24))
    replace Hm : Hid (OwnS uc 24 1 (w3.alloc (.cells #[.int .u64 x1, .int .u64 x2, .int .u64 x3, .int .u64 x4, .int .u64 x5, .int .u64 x6] 24)) g (.slice (some ⟨g, 0, none⟩) 6 6) [x1, x2, x3, x4, x5, x6]) := Lib.hid (by have h := Hm.out; rw [Hsz3.out] at h; exact h)
    have HOo := Lib.hid (Ho3.out.later Hbl.out)
    have Hb4 := Lib.hid (HB3.out.trans (Hbl.out.mono HB3.out.size))
    clear HB3 Hbl Ho3 Hsz3
    generalize w3.alloc (.cells #[.int .u64 x1, .int .u64 x2, .int .u64 x3, .int .u64 x4, .int .u64 x5, .int .u64 x6] 24) = wc at *
    have HO4 : Hid (OwnS uc 24 1 wc g (.slice (some ⟨g, 0, none⟩) 6 6) xs) := Lib.hid (by rw [HX.out]; exact Hm.out)
    have Ho4 : Hid (Own 5 wc w.heap.size (.slice (some ⟨g1, 0, none⟩) 2 2) pre) := Lib.hid (by rw [HT.out]; exact HOo.out)
    have HXl : Hid (xs.length = 6) := Lib.hid (by rw [HX.out]; rfl)
    clear Hm HOo HT
    go_loopw [3, 5, 6, 7] (fun c idx _ _ wr => EnIn w.heap.size pre xs (.slice (some ⟨g1, 0, none⟩) 2 2) wc c idx wr) (fun _ idx _ _ _ => 6 - (intOf idx).toNat)
    case atStart => exact ⟨0, _, by omega, rfl, rfl, by simpa [encX] using Ho4.out, Gr.refl _ _, Hb4.out.size⟩
    case round =>
      as_aux_lemma =>
      obtain ⟨k, vo, hk, rfl, rfl, hown, hgr, hs⟩ := hrel
      have HOw := Lib.hid hown
      have HGr := Lib.hid hgr
      have Hs := Lib.hid hs
      clear hown hgr hs
      by_cases hlt : k < 6
      · obtain ⟨V, hV⟩ : ∃ V, xs[k]? = some V := ⟨_, List.getElem?_eq_getElem (by have := HXl.out; omega)⟩
        have HXr := HO4.out.grown HGr.out.g (fun q hq h => by
          have e1 : g = q := Option.some.inj hq
          have e2 : g1 = q := Option.some.inj h
          have := Hs3.out
          omega)
        have hcell : wr.cell? ⟨g, k, none⟩ = some (.int .u64 V) := by
          rcases HXr.cases uc_len with ⟨h, _⟩ | ⟨g', C', he, _, _, _, _, h5, _⟩
          · cases h
          · rw [HXl.out] at he
            cases he
            have := h5 k V hV 0 _ rfl
            rwa [Nat.mul_one, Nat.add_zero] at this
        have HVlt : Hid (V < 18446744073709551616) := Lib.hid (by
          have hmem := List.mem_of_getElem? hV
          rw [HX.out] at hmem
          have h6 := HO6.out
          simp only [List.mem_cons, List.not_mem_nil, or_false] at hmem
          omega)
        have Hnx : Hid (pre ++ encX (xs.take (k + 1)) = (pre ++ encX (xs.take k)) ++ encL 8 false V) := Lib.hid (by rw [encX_snoc xs k V hV, List.append_assoc])
        have Hol : Hid ((pre ++ encX (xs.take k)).length ≤ 100) := Lib.hid (by
          rw [List.length_append, encX_len, List.length_take]
          have := Hpl.out
          omega)
        clear HXr hV
        have f1 : (k : Int) < 6 := by omega
        have f0 : (0 : Int) ≤ (k : Int) := by omega
        generalize pre ++ encX (xs.take k) = po at *
        go_wp2_with fail
        as_aux_lemma =>
        go_loopw [3, 6, 7] (fun c x j wr2 => ByIn2 w.heap.size po V vo wr c x j wr2) (fun _ _ j _ => 8 - (intOf j).toNat)
        case atStart => exact ⟨0, _, by omega, rfl, rfl, by rw [Nat.pow_zero, Nat.div_one], by simpa [encL] using HOw.out, Gr.refl _ _, Hs.out⟩
        case round =>
          as_aux_lemma =>
          obtain ⟨j, vp, hj, rfl, rfl, rfl, hown, hgr, hs⟩ := hrel
          have HOw2 := Lib.hid hown
          have HGr2 := Lib.hid hgr
          have Hs2 := Lib.hid hs
          clear hown hgr hs
          obtain ⟨W, hW⟩ : ∃ W : Nat, V / 256 ^ j = W := ⟨_, rfl⟩
          rw [hW]
          have hWl : W < 18446744073709551616 := by have := Nat.div_le_self V (256 ^ j); have := HVlt.out; omega
          by_cases hlt : j < 8
          · obtain ⟨c, hc⟩ : ∃ c : UInt8, UInt8.ofNat W = c := ⟨_, rfl⟩
            have Hen : Hid (encL (j + 1) false V = encL j false V ++ [c]) := Lib.hid (by rw [encL_snoc, hW, hc])
            have r0 : (c.toNat : Int) = ((W % 256 : Nat) : Int) := by rw [← hc]; simp
            have r1 : (W : Int).tmod 256 = (c.toNat : Int) := by rw [r0]; rw [Int.tmod_eq_emod_of_nonneg (by omega)]; omega
            have r2 : (W : Int) % 256 = (c.toNat : Int) := by rw [r0]; omega
            obtain ⟨W2, hW2⟩ : ∃ W2 : Nat, W / 256 = W2 := ⟨_, rfl⟩
            have r4 : (W : Int) / 256 = (W2 : Int) := by omega
            have r3 : (W : Int).tdiv 256 = (W2 : Int) := by rw [Int.tdiv_eq_ediv_of_nonneg (by omega)]; exact r4
            have r6 : IntKind.u64.wrap (W2 : Int) = (W2 : Int) := IntWalk.u64_in _ (by omega)
            have hcl := c.toNat_lt
            have r5 : IntKind.u8.wrap (c.toNat : Int) = (c.toNat : Int) := by simp [IntKind.wrap, IntKind.bits, IntKind.signed]; omega
            have HW2 : Hid (V / 256 ^ (j + 1) = W2) := Lib.hid (by rw [Nat.pow_succ, ← Nat.div_div_eq_div_mul, hW, hW2])
            clear r0 hc hW hW2 hWl hcl
            have Hnew := Lib.hid (HOw2.out.alloc (.cells #[.int .u8 c.toNat] 5))
            go_wp2_with (at_builtin; refine wpList_append_at byteRow22 rfl _ _ rfl w.heap.size vp (po ++ encL j false V) rfl Hnew.out ⟨wr.heap.size, 0, none⟩ 1 1 [c] rfl rfl (Rd.new wr [c] _ _) ?c1 ?c2 (po.length + j + 1) ?c3 (by omega) ?_)
            case c1 => rw [List.length_append, encL_length]; have := Hol.out; omega
            case c2 => exact Nat.le_trans Hs2.out (by simp)
            case c3 => rw [List.length_append, encL_length]
            intro g5 C5 w5 ho5 hg5 hk5
            have HO5 : Hid (Own 5 w5 w.heap.size (.slice (some ⟨g5, 0, none⟩) (po.length + j + 1) C5) (po ++ encL (j + 1) false V)) := Lib.hid (by rw [Hen.out]; exact ho5)
            have HG5 := Lib.hid (HGr2.out.trans (v2 := .slice (some ⟨g5, 0, none⟩) (po.length + j + 1) C5) (w2 := w5) ⟨(grown_alloc wr (.cells #[.int .u8 c.toNat] 5) vp.ownBlock).trans hg5, fun q hq => by
              cases hq
              rcases hk5 with h | h
              · exact Or.inl h.symm
              · right; rw [h]; simp⟩)
            have Hs5 : Hid (w.heap.size ≤ w5.heap.size) := Lib.hid (Nat.le_trans Hs2.out (Nat.le_trans (by simp) hg5.size))
            clear ho5 hg5 hk5
            go_wp2_with fail
            first
            | (go_roundw
               case rel => exact ⟨j + 1, _, by omega, by go_num, rfl, by rw [HW2.out], HO5.out, HG5.out, Hs5.out⟩
               case measure => (first | omega | (simp [intOf] <;> omega) | (simp only [intOf] <;> omega)))
            | exact ⟨⟨j + 1, _, by omega, by go_num, rfl, by rw [HW2.out], HO5.out, HG5.out, Hs5.out⟩, by (first | omega | (simp [intOf] <;> omega) | (simp only [intOf] <;> omega))⟩
            | (refine ⟨?_, by (first | omega | (simp [intOf] <;> omega) | (simp only [intOf] <;> omega))⟩
               (repeat apply Exists.intro)
               refine (fun a b => And.intro b a) ?_ ?_
               · first | rfl | ((repeat refine ⟨rfl, ?_⟩); rfl)
               exact ⟨j + 1, _, by omega, by go_num, rfl, by rw [HW2.out], HO5.out, HG5.out, Hs5.out⟩)
          · obtain rfl : j = 8 := by omega
            clear hW
            go_wp2_with fail
            first
            | (go_roundw
               case rel => exact ⟨k + 1, vp, by omega, by go_num, rfl, by rw [Hnx.out]; exact HOw2.out, HGr.out.trans HGr2.out, Hs2.out⟩
               case measure => (first | omega | (simp [intOf] <;> omega) | (simp only [intOf] <;> omega)))
            | exact ⟨⟨k + 1, vp, by omega, by go_num, rfl, by rw [Hnx.out]; exact HOw2.out, HGr.out.trans HGr2.out, Hs2.out⟩, by (first | omega | (simp [intOf] <;> omega) | (simp only [intOf] <;> omega))⟩
            | (refine ⟨?_, by (first | omega | (simp [intOf] <;> omega) | (simp only [intOf] <;> omega))⟩
               (repeat apply Exists.intro)
               refine (fun a b => And.intro b a) ?_ ?_
               · first | rfl | ((repeat refine ⟨rfl, ?_⟩); rfl)
               exact ⟨k + 1, vp, by omega, by go_num, rfl, by rw [Hnx.out]; exact HOw2.out, HGr.out.trans HGr2.out, Hs2.out⟩)
      · obtain rfl : k = 6 := by omega
        go_wp2_with fail
        go_ret
        exact ⟨vo, rfl, by (have h := HOw.out; rw [List.take_of_length_le (by rw [HXl.out]; exact Nat.le_refl _)] at h; rw [Hbytes.out]; exact h), Hb4.out.trans (HGr.out.below Ho4.out Hb4.out.size)⟩
end Go.Proofs.Ythhodibfbfmijaa
