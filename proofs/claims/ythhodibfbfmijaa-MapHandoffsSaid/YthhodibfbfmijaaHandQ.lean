/- A handoff as bytes: memmap.Encode. No condition. -/
import Derived.Test.YthhodibfbfmijaaHandP
import Derived.Deep.DeepCutAuto
set_option linter.unusedVariables false
set_option linter.unusedSimpArgs false
namespace Go.Proofs.Ythhodibfbfmijaa
open Go.RowKit
/-- the bytes that are out, behind those of v4 -/
structure EnIn (B : Nat) (pre : List UInt8) (xs : List Nat) (v4 : Value) (w4 : World) (c idx : Value) (wr : World) : Prop where
  x : ∃ k vo, k ≤ 6 ∧ idx = .int .i64 (k : Nat) ∧ vo = c ∧ Own 5 wr B vo (pre ++ encX (xs.take k)) ∧ Gr w4 wr v4 vo ∧ B ≤ wr.heap.size
structure EnIn2 (B : Nat) (pre : List UInt8) (V : Nat) (v4 : Value) (w4 : World) (c j : Value) (wr : World) : Prop where
  x : ∃ (k : Nat) (vo : Value), k ≤ 8 ∧ j = .int .i64 (k : Nat) ∧ vo = c ∧ Own 5 wr B vo (pre ++ encL k false V) ∧ Gr w4 wr v4 vo ∧ B ≤ wr.heap.size
theorem hand_bounds {h : Ho} (hm : mayR h = true) : 1 ≤ h.img ∧ h.img < 12 := by
  unfold mayR at hm
  simp only [Bool.and_eq_true, decide_eq_true_eq] at hm
  exact hm.1
theorem uc_len (n : Nat) : (uc n).length = 1 := rfl
theorem box_args {w : World} {b : Nat} {t : TypeId} {v0 v1 v2 v3 : Value} {x3 x4 x5 x6 : Nat} (h : HB w b t [v0, v1, v2, v3, .int .u64 x3, .int .u64 x4, .int .u64 x5, .int .u64 x6]) : RdS uc 1 w (some ⟨b, 4, none⟩) [x3, x4, x5, x6] := fun j g hj => by
  have hlt : j < 4 := (List.getElem?_eq_some_iff.1 hj).1
  refine ⟨b, 4, rfl, h.lt, fun i v hi => ?_⟩
  have hi0 : i = 0 := by have := (List.getElem?_eq_some_iff.1 hi).1; simp [uc] at this; exact this
  subst hi0
  simp only [uc, List.getElem?_cons_zero, Option.some.injEq] at hi
  subst hi
  rw [Nat.mul_one, Nat.add_zero]
  match j, hlt, hj with
  | 0, _, hj => simp at hj; subst hj; exact h.cell rfl
  | 1, _, hj => simp at hj; subst hj; exact h.cell rfl
  | 2, _, hj => simp at hj; subst hj; exact h.cell rfl
  | 3, _, hj => simp at hj; subst hj; exact h.cell rfl
/-- the list of numbers, behind what was there -/
structure EnCut (xs : List Nat) (w3 : World) (c26 c27 c28 : Value) (wx : World) : Prop where
  x : ∃ g C, c26 = .slice (some ⟨g, 0, none⟩) 6 C ∧ c27 = .int .i64 6 ∧ c28 = .int .i64 0 ∧ OwnS uc 24 1 wx w3.heap.size (.slice (some ⟨g, 0, none⟩) 6 C) xs ∧ Below w3.heap.size w3 wx
set_option maxHeartbeats 4000000 in
theorem henc_any (h : Ho) (w : World) (hok : h.Ok) :
    Calls Try.prog 20 #[hov h] w fun e w' => ∃ v, e = .returned (.tuple #[v, .int .i64 (if mayR h then 0 else 226)]) ∧ Own 5 w' w.heap.size v (if mayR h then hoB h else []) ∧ Below w.heap.size w w' := by
  have Hmay := fun w => Lib.hid (hmay_any h w hok.base)
  have hH := HB.new w [.int .i64 h.img, .int .u64 h.base, .int .u64 h.size, .bool h.sec, .int .u64 h.a, .int .u64 h.b, .int .u64 h.c, .int .u64 h.d] 45
  have hB0 := (Below.refl w.heap.size w).alloc (Nat.le_refl _) (.cells #[.int .i64 h.img, .int .u64 h.base, .int .u64 h.size, .bool h.sec, .int .u64 h.a, .int .u64 h.b, .int .u64 h.c, .int .u64 h.d] 45)
  have HH := Lib.hid hH
  have HB0 := Lib.hid hB0
  have Hok := Lib.hid hok
  clear hH hB0 hok
  cases hm : mayR h
  · have Hm := Lib.hid hm
    rw [hm] at Hmay
    clear hm
    unfold hov at *
    go_enter Try.func20, Try.ntmps20
    go_wp2_with fail
    as_aux_lemma =>
    refine (Hmay _).out.mono ?_
    rintro e w1 ⟨rfl, hb1⟩
    have HBw := Lib.hid (HB0.out.trans (hb1.mono HB0.out.size))
    clear hb1 HB0 HH
    go_wp2_with fail
    go_ret2
    exact ⟨_, rfl, Own.nil _ _ _, HBw.out⟩
  obtain ⟨m1, m2⟩ := hand_bounds hm
  have Hbytes : Hid (hoB h = hoT h ++ encX (hoX h)) := Lib.hid rfl
  rw [hm] at Hmay
  simp only [if_true]
  have hI : ((UInt8.ofNat h.img.toNat).toNat : Int) = h.img := by rw [UInt8.toNat_ofNat']; omega
  generalize hc0 : UInt8.ofNat h.img.toNat = c0 at *
  have q1 : IntKind.u8.wrap (c0.toNat : Int) = (c0.toNat : Int) := by have := c0.toNat_lt; simp [IntKind.wrap, IntKind.bits, IntKind.signed]; omega
  have HT : Hid (hoT h = [c0, if h.sec then 1 else 0]) := Lib.hid (by unfold hoT; rw [hc0])
  have HX : Hid (hoX h = [h.base, h.size, h.a, h.b, h.c, h.d]) := Lib.hid rfl
  have HO6 : Hid (h.base < 18446744073709551616 ∧ h.size < 18446744073709551616 ∧ h.a < 18446744073709551616 ∧ h.b < 18446744073709551616 ∧ h.c < 18446744073709551616 ∧ h.d < 18446744073709551616) := Lib.hid ⟨Hok.out.base, Hok.out.size, Hok.out.a, Hok.out.b, Hok.out.c, Hok.out.d⟩
  unfold hov at *
  rw [← hI] at HH HB0 Hmay ⊢
  clear m1 m2 hm hI hc0 Hok
  generalize hoX h = xs at *
  generalize hoT h = pre at *
  generalize hoB h = res at *
  generalize h.base = x1 at *
  generalize h.size = x2 at *
  generalize h.sec = s at *
  generalize h.a = x3 at *
  generalize h.b = x4 at *
  generalize h.c = x5 at *
  generalize h.d = x6 at *
  clear h
  go_enter Try.func20, Try.ntmps20
  go_wp2_with fail
  as_aux_lemma =>
  refine (Hmay _).out.mono ?_
  rintro e w1 ⟨rfl, hb1⟩
  have HBw := Lib.hid (HB0.out.trans (hb1.mono HB0.out.size))
  have HH1 := Lib.hid (HH.out.later hb1)
  clear hb1 HB0 HH Hmay
  have k1 := HH1.out.cell (i := 0) rfl
  have k2 := fun o => (HH1.out.alloc o).cell (i := 3) rfl
  have hs1 : w.heap.size < w1.heap.size := HH1.out.lt
  have Hs1 := Lib.hid hs1
  clear hs1
  cases s
  · go_wp2_with fail
    as_aux_lemma =>
    have Hpl : Hid (pre.length = 2) := Lib.hid (by rw [HT.out]; rfl)
    have Ho3 : Hid (Own 5 (w1.alloc (.cells #[.int .u8 c0.toNat, .int .u8 0] 5)) w.heap.size (.slice (some ⟨w1.heap.size, 0, none⟩) 2 2) [c0, 0]) := Lib.hid (Own.made (E := 5) w1 w.heap.size [c0, 0] HBw.out.size (by simp [maxLen]))
    have HH3 := Lib.hid (HH1.out.alloc (.cells #[.int .u8 c0.toNat, .int .u8 0] 5))
    have HB3 := Lib.hid (HBw.out.alloc HBw.out.size (.cells #[.int .u8 c0.toNat, .int .u8 0] 5))
    have Hs3 : Hid (w1.heap.size < (w1.alloc (.cells #[.int .u8 c0.toNat, .int .u8 0] 5)).heap.size) := Lib.hid (by simp)
    clear k1 k2 HBw HH1
    generalize w1.alloc (.cells #[.int .u8 c0.toNat, .int .u8 0] 5) = w3 at *
    generalize w1.heap.size = g1 at *
    have k1 := fun n => (HH3.out.drn (⟨n, rfl⟩ : Drn w3 (w3.drewN n))).cell (i := 1) rfl
    have k2 := fun n => (HH3.out.drn (⟨n, rfl⟩ : Drn w3 (w3.drewN n))).cell (i := 2) rfl
    have k1' := HH3.out.cell (i := 1) rfl
    have k2' := HH3.out.cell (i := 2) rfl
    have Hm : Hid (OwnS uc 24 1 (w3.alloc (.cells #[.int .u64 x1, .int .u64 x2] 24)) w3.heap.size (.slice (some ⟨w3.heap.size, 0, none⟩) 2 2) [x1, x2]) := Lib.hid (OwnS.made (cells := uc) (sz := 1) (fun _ => rfl) w3 w3.heap.size [x1, x2] (Nat.le_refl _) (by simp [maxLen]))
    have Hr := Lib.hid (box_args (HH3.out.alloc (.cells #[.int .u64 x1, .int .u64 x2] 24)))
    have Hz : Hid (w3.heap.size ≤ (w3.alloc (.cells #[.int .u64 x1, .int .u64 x2] 24)).heap.size) := Lib.hid (by simp)
    have Hmd : Hid (OwnS uc 24 1 (w3.alloc (.cells #[.int .u64 x1, .int .u64 x2] 24)).drew w3.heap.size (.slice (some ⟨w3.heap.size, 0, none⟩) 2 2) [x1, x2]) := Lib.hid (Hm.out.drn (Drn.refl _).drew)
    have Hrd := Lib.hid (box_args ((HH3.out.alloc (.cells #[.int .u64 x1, .int .u64 x2] 24)).drn (Drn.refl _).drew))
    have Hbl := Lib.hid ((Below.refl w3.heap.size w3).alloc (Nat.le_refl _) (.cells #[.int .u64 x1, .int .u64 x2] 24))
    go_cut [26, 27, 28] (fun c26 c27 c28 wx => EnCut xs w3 c26 c27 c28 wx)
    case first =>
      go_region_law ((first | refine step_of_wp rfl (wp_append_SN ucLay _ _ rfl w3.heap.size _ [x1, x2] rfl Hmd.out ⟨w.heap.size, 4, none⟩ 4 4 [x3, x4, x5, x6] rfl rfl Hrd.out (by simp [maxLen]) (by simp) Hz.out 6 rfl (by decide) ?_) | refine step_of_wp rfl (wp_append_SN ucLay _ _ rfl w3.heap.size _ [x1, x2] rfl Hm.out ⟨w.heap.size, 4, none⟩ 4 4 [x3, x4, x5, x6] rfl rfl Hr.out (by simp [maxLen]) (by simp) Hz.out 6 rfl (by decide) ?_)); intro g4 C4 w4 ho4 hg4)
      all_goals
        first
        | have hg5 : (w3.alloc (.cells #[.int .u64 x1, .int .u64 x2] 24)).drew.grownBy w4 (some w3.heap.size) := hg4
          have hb5 := Hbl.out.drew.grown hg5 Hz.out (fun q hq => Nat.le_of_eq (Option.some.inj hq))
        | have hg5 : (w3.alloc (.cells #[.int .u64 x1, .int .u64 x2] 24)).grownBy w4 (some w3.heap.size) := hg4
          have hb5 := Hbl.out.grown hg5 Hz.out (fun q hq => Nat.le_of_eq (Option.some.inj hq))
        have hx5 : OwnS uc 24 1 w4 w3.heap.size (.slice (some ⟨g4, 0, none⟩) 6 C4) xs := by rw [HX.out]; exact ho4
        have Hb5 := Lib.hid hb5
        have Hx5 := Lib.hid hx5
        clear hg4 hg5 ho4 hb5 hx5
        go_wp2_with fail
        go_meet
        exact ⟨g4, C4, rfl, rfl, rfl, Hx5.out, Hb5.out⟩
    case rest =>
    obtain ⟨g, C, rfl, rfl, rfl, ho4, hb4⟩ := hcut
    have HO4 := Lib.hid ho4
    have Hb4 := Lib.hid (HB3.out.trans (hb4.mono HB3.out.size))
    have Ho4 : Hid (Own 5 wc w.heap.size (.slice (some ⟨g1, 0, none⟩) 2 2) pre) := Lib.hid (by rw [HT.out]; exact Ho3.out.later hb4)
    have Hgg : Hid (g1 < g) := Lib.hid (Nat.lt_of_lt_of_le Hs3.out (ho4.blk uc_len g rfl).1)
    have HXl : Hid (xs.length = 6) := Lib.hid (by rw [HX.out]; rfl)
    clear ho4 hb4 Hm Hr Hz Hmd Hrd Hbl Ho3 Hs3 k1 k2 k1' k2' HH3 HB3 HT
    go_wp2_with fail
    as_aux_lemma =>
    go_loopw [4, 6, 7, 28, 32] (fun c _ _ idx _ wr => EnIn w.heap.size pre xs (.slice (some ⟨g1, 0, none⟩) 2 2) wc c idx wr) (fun _ _ _ idx _ _ => 6 - (intOf idx).toNat)
    case atStart => exact ⟨0, _, by omega, rfl, rfl, by simpa [encX] using Ho4.out, Gr.refl _ _, Hb4.out.size⟩
    case round =>
      as_aux_lemma =>
      obtain ⟨k, vo, hk, rfl, rfl, hown, hgr, hs⟩ := hrel
      have HOw := Lib.hid hown
      have HGr := Lib.hid hgr
      have Hs := Lib.hid hs
      clear hown hgr hs
      by_cases hlt : k < 6
      · obtain ⟨V, hV⟩ : ∃ V, xs[k]? = some V := ⟨_, List.getElem?_eq_getElem (by have := HXl.out; omega)⟩
        have HXr := HO4.out.grown HGr.out.g (fun q hq h => by
          have e1 : g = q := Option.some.inj hq
          have e2 : g1 = q := Option.some.inj h
          have := Hgg.out
          omega)
        have hcell : wr.cell? ⟨g, k, none⟩ = some (.int .u64 V) := by
          rcases HXr.cases uc_len with ⟨h, _⟩ | ⟨g', C', he, _, _, _, _, h5, _⟩
          · cases h
          · rw [HXl.out] at he
            cases he
            have := h5 k V hV 0 _ rfl
            rwa [Nat.mul_one, Nat.add_zero] at this
        have HVlt : Hid (V < 18446744073709551616) := Lib.hid (by
          have hmem := List.mem_of_getElem? hV
          rw [HX.out] at hmem
          have h6 := HO6.out
          simp only [List.mem_cons, List.not_mem_nil, or_false] at hmem
          omega)
        have Hnx : Hid (pre ++ encX (xs.take (k + 1)) = (pre ++ encX (xs.take k)) ++ encL 8 false V) := Lib.hid (by rw [encX_snoc xs k V hV, List.append_assoc])
        have Hol : Hid ((pre ++ encX (xs.take k)).length ≤ 100) := Lib.hid (by
          rw [List.length_append, encX_len, List.length_take]
          have := Hpl.out
          omega)
        clear HXr hV
        have f1 : (k : Int) < 6 := by omega
        have f0 : (0 : Int) ≤ (k : Int) := by omega
        generalize pre ++ encX (xs.take k) = po at *
        go_wp2_with fail
        as_aux_lemma =>
        go_loopw [4, 7, 32] (fun c _ j wr2 => EnIn2 w.heap.size po V vo wr c j wr2) (fun _ _ j _ => 8 - (intOf j).toNat)
        case atStart => exact ⟨0, _, by omega, rfl, rfl, by simpa [encL] using HOw.out, Gr.refl _ _, Hs.out⟩
        case round =>
          as_aux_lemma =>
          obtain ⟨j, vp, hj, rfl, rfl, hown, hgr, hs⟩ := hrel
          have HOw2 := Lib.hid hown
          have HGr2 := Lib.hid hgr
          have Hs2 := Lib.hid hs
          clear hown hgr hs
          by_cases hlt : j < 8
          · have r0 : (V : Int) / 2 ^ (8 * j) % 256 = ((byteAt 8 false V j).toNat : Int) := byteAt_little 8 V j
            have Hen : Hid (encL (j + 1) false V = encL j false V ++ [byteAt 8 false V j]) := Lib.hid (encL_snoc j V)
            generalize byteAt 8 false V j = c at *
            have Hnew := Lib.hid (HOw2.out.alloc (.cells #[.int .u8 c.toNat] 5))
            go_wp2_with (at_builtin; refine wpList_append_at byteRow22 rfl _ _ rfl w.heap.size vp (po ++ encL j false V) rfl Hnew.out ⟨wr.heap.size, 0, none⟩ 1 1 [c] rfl rfl (Rd.new wr [c] _ _) ?c1 ?c2 (po.length + j + 1) ?c3 (by omega) ?_)
            case c1 => rw [List.length_append, encL_length]; have := Hol.out; omega
            case c2 => exact Nat.le_trans Hs2.out (by simp)
            case c3 => rw [List.length_append, encL_length]
            intro g5 C5 w5 ho5 hg5 hk5
            have HO5 : Hid (Own 5 w5 w.heap.size (.slice (some ⟨g5, 0, none⟩) (po.length + j + 1) C5) (po ++ encL (j + 1) false V)) := Lib.hid (by rw [Hen.out]; exact ho5)
            have HG5 := Lib.hid (HGr2.out.trans (v2 := .slice (some ⟨g5, 0, none⟩) (po.length + j + 1) C5) (w2 := w5) ⟨(grown_alloc wr (.cells #[.int .u8 c.toNat] 5) vp.ownBlock).trans hg5, fun q hq => by
              cases hq
              rcases hk5 with h | h
              · exact Or.inl h.symm
              · right; rw [h]; simp⟩)
            have Hs5 : Hid (w.heap.size ≤ w5.heap.size) := Lib.hid (Nat.le_trans Hs2.out (Nat.le_trans (by simp) hg5.size))
            clear ho5 hg5 hk5
            go_wp2_with fail
            first
            | (go_roundw
               case rel => exact ⟨j + 1, _, by omega, by go_num, rfl, HO5.out, HG5.out, Hs5.out⟩
               case measure => (first | omega | (simp [intOf] <;> omega) | (simp only [intOf] <;> omega)))
            | exact ⟨⟨j + 1, _, by omega, by go_num, rfl, HO5.out, HG5.out, Hs5.out⟩, by (first | omega | (simp [intOf] <;> omega) | (simp only [intOf] <;> omega))⟩
            | (refine ⟨?_, by (first | omega | (simp [intOf] <;> omega) | (simp only [intOf] <;> omega))⟩
               (repeat apply Exists.intro)
               refine (fun a b => And.intro b a) ?_ ?_
               · first | rfl | ((repeat refine ⟨rfl, ?_⟩); rfl)
               exact ⟨j + 1, _, by omega, by go_num, rfl, HO5.out, HG5.out, Hs5.out⟩)
          · obtain rfl : j = 8 := by omega
            go_wp2_with fail
            first
            | (go_roundw
               case rel => exact ⟨k + 1, vp, by omega, by go_num, rfl, by rw [Hnx.out]; exact HOw2.out, HGr.out.trans HGr2.out, Hs2.out⟩
               case measure => (first | omega | (simp [intOf] <;> omega) | (simp only [intOf] <;> omega)))
            | exact ⟨⟨k + 1, vp, by omega, by go_num, rfl, by rw [Hnx.out]; exact HOw2.out, HGr.out.trans HGr2.out, Hs2.out⟩, by (first | omega | (simp [intOf] <;> omega) | (simp only [intOf] <;> omega))⟩
            | (refine ⟨?_, by (first | omega | (simp [intOf] <;> omega) | (simp only [intOf] <;> omega))⟩
               (repeat apply Exists.intro)
               refine (fun a b => And.intro b a) ?_ ?_
               · first | rfl | ((repeat refine ⟨rfl, ?_⟩); rfl)
               exact ⟨k + 1, vp, by omega, by go_num, rfl, by rw [Hnx.out]; exact HOw2.out, HGr.out.trans HGr2.out, Hs2.out⟩)
      · obtain rfl : k = 6 := by omega
        go_wp2_with fail
        go_ret2
        exact ⟨vo, rfl, by (have h := HOw.out; rw [List.take_of_length_le (by rw [HXl.out]; exact Nat.le_refl _)] at h; rw [Hbytes.out]; exact h), Hb4.out.trans (HGr.out.below Ho4.out Hb4.out.size)⟩
  · go_wp2_with fail
    as_aux_lemma =>
    have Hpl : Hid (pre.length = 2) := Lib.hid (by rw [HT.out]; rfl)
    have Ho3 : Hid (Own 5 (w1.alloc (.cells #[.int .u8 c0.toNat, .int .u8 1] 5)) w.heap.size (.slice (some ⟨w1.heap.size, 0, none⟩) 2 2) [c0, 1]) := Lib.hid (Own.made (E := 5) w1 w.heap.size [c0, 1] HBw.out.size (by simp [maxLen]))
    have HH3 := Lib.hid (HH1.out.alloc (.cells #[.int .u8 c0.toNat, .int .u8 1] 5))
    have HB3 := Lib.hid (HBw.out.alloc HBw.out.size (.cells #[.int .u8 c0.toNat, .int .u8 1] 5))
    have Hs3 : Hid (w1.heap.size < (w1.alloc (.cells #[.int .u8 c0.toNat, .int .u8 1] 5)).heap.size) := Lib.hid (by simp)
    clear k1 k2 HBw HH1
    generalize w1.alloc (.cells #[.int .u8 c0.toNat, .int .u8 1] 5) = w3 at *
    generalize w1.heap.size = g1 at *
    have k1 := fun n => (HH3.out.drn (⟨n, rfl⟩ : Drn w3 (w3.drewN n))).cell (i := 1) rfl
    have k2 := fun n => (HH3.out.drn (⟨n, rfl⟩ : Drn w3 (w3.drewN n))).cell (i := 2) rfl
    have k1' := HH3.out.cell (i := 1) rfl
    have k2' := HH3.out.cell (i := 2) rfl
    have Hm : Hid (OwnS uc 24 1 (w3.alloc (.cells #[.int .u64 x1, .int .u64 x2] 24)) w3.heap.size (.slice (some ⟨w3.heap.size, 0, none⟩) 2 2) [x1, x2]) := Lib.hid (OwnS.made (cells := uc) (sz := 1) (fun _ => rfl) w3 w3.heap.size [x1, x2] (Nat.le_refl _) (by simp [maxLen]))
    have Hr := Lib.hid (box_args (HH3.out.alloc (.cells #[.int .u64 x1, .int .u64 x2] 24)))
    have Hz : Hid (w3.heap.size ≤ (w3.alloc (.cells #[.int .u64 x1, .int .u64 x2] 24)).heap.size) := Lib.hid (by simp)
    have Hmd : Hid (OwnS uc 24 1 (w3.alloc (.cells #[.int .u64 x1, .int .u64 x2] 24)).drew w3.heap.size (.slice (some ⟨w3.heap.size, 0, none⟩) 2 2) [x1, x2]) := Lib.hid (Hm.out.drn (Drn.refl _).drew)
    have Hrd := Lib.hid (box_args ((HH3.out.alloc (.cells #[.int .u64 x1, .int .u64 x2] 24)).drn (Drn.refl _).drew))
    have Hbl := Lib.hid ((Below.refl w3.heap.size w3).alloc (Nat.le_refl _) (.cells #[.int .u64 x1, .int .u64 x2] 24))
    go_cut [26, 27, 28] (fun c26 c27 c28 wx => EnCut xs w3 c26 c27 c28 wx)
    case first =>
      go_region_law ((first | refine step_of_wp rfl (wp_append_SN ucLay _ _ rfl w3.heap.size _ [x1, x2] rfl Hmd.out ⟨w.heap.size, 4, none⟩ 4 4 [x3, x4, x5, x6] rfl rfl Hrd.out (by simp [maxLen]) (by simp) Hz.out 6 rfl (by decide) ?_) | refine step_of_wp rfl (wp_append_SN ucLay _ _ rfl w3.heap.size _ [x1, x2] rfl Hm.out ⟨w.heap.size, 4, none⟩ 4 4 [x3, x4, x5, x6] rfl rfl Hr.out (by simp [maxLen]) (by simp) Hz.out 6 rfl (by decide) ?_)); intro g4 C4 w4 ho4 hg4)
      all_goals
        first
        | have hg5 : (w3.alloc (.cells #[.int .u64 x1, .int .u64 x2] 24)).drew.grownBy w4 (some w3.heap.size) := hg4
          have hb5 := Hbl.out.drew.grown hg5 Hz.out (fun q hq => Nat.le_of_eq (Option.some.inj hq))
        | have hg5 : (w3.alloc (.cells #[.int .u64 x1, .int .u64 x2] 24)).grownBy w4 (some w3.heap.size) := hg4
          have hb5 := Hbl.out.grown hg5 Hz.out (fun q hq => Nat.le_of_eq (Option.some.inj hq))
        have hx5 : OwnS uc 24 1 w4 w3.heap.size (.slice (some ⟨g4, 0, none⟩) 6 C4) xs := by rw [HX.out]; exact ho4
        have Hb5 := Lib.hid hb5
        have Hx5 := Lib.hid hx5
        clear hg4 hg5 ho4 hb5 hx5
        go_wp2_with fail
        go_meet
        exact ⟨g4, C4, rfl, rfl, rfl, Hx5.out, Hb5.out⟩
    case rest =>
    obtain ⟨g, C, rfl, rfl, rfl, ho4, hb4⟩ := hcut
    have HO4 := Lib.hid ho4
    have Hb4 := Lib.hid (HB3.out.trans (hb4.mono HB3.out.size))
    have Ho4 : Hid (Own 5 wc w.heap.size (.slice (some ⟨g1, 0, none⟩) 2 2) pre) := Lib.hid (by rw [HT.out]; exact Ho3.out.later hb4)
    have Hgg : Hid (g1 < g) := Lib.hid (Nat.lt_of_lt_of_le Hs3.out (ho4.blk uc_len g rfl).1)
    have HXl : Hid (xs.length = 6) := Lib.hid (by rw [HX.out]; rfl)
    clear ho4 hb4 Hm Hr Hz Hmd Hrd Hbl Ho3 Hs3 k1 k2 k1' k2' HH3 HB3 HT
    go_wp2_with fail
    as_aux_lemma =>
    go_loopw [4, 6, 7, 28, 32] (fun c _ _ idx _ wr => EnIn w.heap.size pre xs (.slice (some ⟨g1, 0, none⟩) 2 2) wc c idx wr) (fun _ _ _ idx _ _ => 6 - (intOf idx).toNat)
    case atStart => exact ⟨0, _, by omega, rfl, rfl, by simpa [encX] using Ho4.out, Gr.refl _ _, Hb4.out.size⟩
    case round =>
      as_aux_lemma =>
      obtain ⟨k, vo, hk, rfl, rfl, hown, hgr, hs⟩ := hrel
      have HOw := Lib.hid hown
      have HGr := Lib.hid hgr
      have Hs := Lib.hid hs
      clear hown hgr hs
      by_cases hlt : k < 6
      · obtain ⟨V, hV⟩ : ∃ V, xs[k]? = some V := ⟨_, List.getElem?_eq_getElem (by have := HXl.out; omega)⟩
        have HXr := HO4.out.grown HGr.out.g (fun q hq h => by
          have e1 : g = q := Option.some.inj hq
          have e2 : g1 = q := Option.some.inj h
          have := Hgg.out
          omega)
        have hcell : wr.cell? ⟨g, k, none⟩ = some (.int .u64 V) := by
          rcases HXr.cases uc_len with ⟨h, _⟩ | ⟨g', C', he, _, _, _, _, h5, _⟩
          · cases h
          · rw [HXl.out] at he
            cases he
            have := h5 k V hV 0 _ rfl
            rwa [Nat.mul_one, Nat.add_zero] at this
        have HVlt : Hid (V < 18446744073709551616) := Lib.hid (by
          have hmem := List.mem_of_getElem? hV
          rw [HX.out] at hmem
          have h6 := HO6.out
          simp only [List.mem_cons, List.not_mem_nil, or_false] at hmem
          omega)
        have Hnx : Hid (pre ++ encX (xs.take (k + 1)) = (pre ++ encX (xs.take k)) ++ encL 8 false V) := Lib.hid (by rw [encX_snoc xs k V hV, List.append_assoc])
        have Hol : Hid ((pre ++ encX (xs.take k)).length ≤ 100) := Lib.hid (by
          rw [List.length_append, encX_len, List.length_take]
          have := Hpl.out
          omega)
        clear HXr hV
        have f1 : (k : Int) < 6 := by omega
        have f0 : (0 : Int) ≤ (k : Int) := by omega
        generalize pre ++ encX (xs.take k) = po at *
        go_wp2_with fail
        as_aux_lemma =>
        go_loopw [4, 7, 32] (fun c _ j wr2 => EnIn2 w.heap.size po V vo wr c j wr2) (fun _ _ j _ => 8 - (intOf j).toNat)
        case atStart => exact ⟨0, _, by omega, rfl, rfl, by simpa [encL] using HOw.out, Gr.refl _ _, Hs.out⟩
        case round =>
          as_aux_lemma =>
          obtain ⟨j, vp, hj, rfl, rfl, hown, hgr, hs⟩ := hrel
          have HOw2 := Lib.hid hown
          have HGr2 := Lib.hid hgr
          have Hs2 := Lib.hid hs
          clear hown hgr hs
          by_cases hlt : j < 8
          · have r0 : (V : Int) / 2 ^ (8 * j) % 256 = ((byteAt 8 false V j).toNat : Int) := byteAt_little 8 V j
            have Hen : Hid (encL (j + 1) false V = encL j false V ++ [byteAt 8 false V j]) := Lib.hid (encL_snoc j V)
            generalize byteAt 8 false V j = c at *
            have Hnew := Lib.hid (HOw2.out.alloc (.cells #[.int .u8 c.toNat] 5))
            go_wp2_with (at_builtin; refine wpList_append_at byteRow22 rfl _ _ rfl w.heap.size vp (po ++ encL j false V) rfl Hnew.out ⟨wr.heap.size, 0, none⟩ 1 1 [c] rfl rfl (Rd.new wr [c] _ _) ?c1 ?c2 (po.length + j + 1) ?c3 (by omega) ?_)
            case c1 => rw [List.length_append, encL_length]; have := Hol.out; omega
            case c2 => exact Nat.le_trans Hs2.out (by simp)
            case c3 => rw [List.length_append, encL_length]
            intro g5 C5 w5 ho5 hg5 hk5
            have HO5 : Hid (Own 5 w5 w.heap.size (.slice (some ⟨g5, 0, none⟩) (po.length + j + 1) C5) (po ++ encL (j + 1) false V)) := Lib.hid (by rw [Hen.out]; exact ho5)
            have HG5 := Lib.hid (HGr2.out.trans (v2 := .slice (some ⟨g5, 0, none⟩) (po.length + j + 1) C5) (w2 := w5) ⟨(grown_alloc wr (.cells #[.int .u8 c.toNat] 5) vp.ownBlock).trans hg5, fun q hq => by
              cases hq
              rcases hk5 with h | h
              · exact Or.inl h.symm
              · right; rw [h]; simp⟩)
            have Hs5 : Hid (w.heap.size ≤ w5.heap.size) := Lib.hid (Nat.le_trans Hs2.out (Nat.le_trans (by simp) hg5.size))
            clear ho5 hg5 hk5
            go_wp2_with fail
            first
            | (go_roundw
               case rel => exact ⟨j + 1, _, by omega, by go_num, rfl, HO5.out, HG5.out, Hs5.out⟩
               case measure => (first | omega | (simp [intOf] <;> omega) | (simp only [intOf] <;> omega)))
            | exact ⟨⟨j + 1, _, by omega, by go_num, rfl, HO5.out, HG5.out, Hs5.out⟩, by (first | omega | (simp [intOf] <;> omega) | (simp only [intOf] <;> omega))⟩
            | (refine ⟨?_, by (first | omega | (simp [intOf] <;> omega) | (simp only [intOf] <;> omega))⟩
               (repeat apply Exists.intro)
               refine (fun a b => And.intro b a) ?_ ?_
               · first | rfl | ((repeat refine ⟨rfl, ?_⟩); rfl)
               exact ⟨j + 1, _, by omega, by go_num, rfl, HO5.out, HG5.out, Hs5.out⟩)
          · obtain rfl : j = 8 := by omega
            go_wp2_with fail
            first
            | (go_roundw
               case rel => exact ⟨k + 1, vp, by omega, by go_num, rfl, by rw [Hnx.out]; exact HOw2.out, HGr.out.trans HGr2.out, Hs2.out⟩
               case measure => (first | omega | (simp [intOf] <;> omega) | (simp only [intOf] <;> omega)))
            | exact ⟨⟨k + 1, vp, by omega, by go_num, rfl, by rw [Hnx.out]; exact HOw2.out, HGr.out.trans HGr2.out, Hs2.out⟩, by (first | omega | (simp [intOf] <;> omega) | (simp only [intOf] <;> omega))⟩
            | (refine ⟨?_, by (first | omega | (simp [intOf] <;> omega) | (simp only [intOf] <;> omega))⟩
               (repeat apply Exists.intro)
               refine (fun a b => And.intro b a) ?_ ?_
               · first | rfl | ((repeat refine ⟨rfl, ?_⟩); rfl)
               exact ⟨k + 1, vp, by omega, by go_num, rfl, by rw [Hnx.out]; exact HOw2.out, HGr.out.trans HGr2.out, Hs2.out⟩)
      · obtain rfl : k = 6 := by omega
        go_wp2_with fail
        go_ret2
        exact ⟨vo, rfl, by (have h := HOw.out; rw [List.take_of_length_le (by rw [HXl.out]; exact Nat.le_refl _)] at h; rw [Hbytes.out]; exact h), Hb4.out.trans (HGr.out.below Ho4.out Hb4.out.size)⟩
end Go.Proofs.Ythhodibfbfmijaa
