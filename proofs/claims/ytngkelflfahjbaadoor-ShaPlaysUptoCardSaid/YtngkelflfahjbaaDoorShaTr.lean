/- Chapter 2's law: the other steps of both hashes. No condition. -/
import Derived.Test.YtngkelflfahjbaaDoorShaTq
set_option linter.unusedVariables false
set_option linter.unusedSimpArgs false
namespace Go.Proofs.YtngkelflfahjbaaDoor
open Go.RowKit
attribute [local go_sem ↓] Go.wp_at_zero Go.wp_at_succ build_rh
theorem TwE.any {B T H1 H2 k : Nat} {st : S8} {N : Nat} {va vb lv wv : Value} {L : List UInt8} {es : List Ent} {c d : Nat} {W w : World} (h : Tw B T H1 H2 k st N va vb lv wv L es c d W w) : TwE B T lv wv es (c + 1048576) (d + 1) W w (fun _ => False) :=
  ⟨_, _, _, _, _, _, _, _, ⟨h.t, h.v.mono (Nat.le_add_right _ _) (Nat.le_succ _)⟩, fun _ _ => id⟩
theorem TwE.more {B T : Nat} {lv wv : Value} {es : List Ent} {c d : Nat} {W w : World} {K : Nat → Prop} (h : TwE B T lv wv es c d W w K) : TwE B T lv wv es c (d + 1) W w K := by
  obtain ⟨a1, a2, a3, a4, a5, a6, a7, a8, h, hk⟩ := h.x
  exact ⟨a1, a2, a3, a4, a5, a6, a7, a8, ⟨h.t, h.v.mono (Nat.le_refl _) (Nat.le_succ _)⟩, hk⟩
theorem fresh_pair {B G1 G2 k : Nat} {w : World} (hk : 1 ≤ k ∧ k ≤ 3) (h1 : HB w G1 67 (hashC k (firstK k) 0 (.slice none 0 0))) (h2 : HB w G2 74 (rhC k (firstK k) 0 (.slice none 0 0))) (b1 : B ≤ G1) (b2 : B ≤ G2) (hne : G1 ≠ G2) :
    Pair B G1 G2 k (firstK k) 0 (.slice none 0 0) (.slice none 0 0) [] w := by
  have hg := goB_end (s := firstK k) (show ([] : List UInt8).length < sizeW (wK k) from sizeW_pos _)
  refine ⟨hk, firstK_lt k hk, by rw [hg]; exact h1, by rw [hg]; exact Own.nil _ _ _, h2, Own.nil _ _ _, Nat.zero_mod _, by decide, b1, b2, hne, fun e => (by cases e), fun e => (by cases e), fun e => (by cases e), fun e => (by cases e), fun q hq => (by cases hq)⟩
theorem reset_done {B T H1 H2 k : Nat} {st : S8} {N : Nat} {va vb lv wv : Value} {L : List UInt8} {es : List Ent} {c d : Nat} {W w0 w1 w2 : World} (h : Tw B T H1 H2 k st N va vb lv wv L es c d W w0) (h6 : HB w1 H1 67 (hashC k (firstK k) 0 (.slice none 0 0))) (f6 : Frm (fun q => q = H1) w0 w1) (hb : Below w1.heap.size w1 w2) :
    Tw B T H1 w2.heap.size k (firstK k) 0 (.slice none 0 0) (.slice none 0 0) lv wv [] es c d W ((w2.alloc (.cells (rhC k (firstK k) 0 (.slice none 0 0)).toArray 74)).setCell ⟨T, 1, none⟩ (.pointer (some ⟨w2.heap.size, 0, none⟩))) := by
  have hk := h.v.h.hk
  have hl1 := h.v.h.h1.lt
  have hb1 := h.v.h.b1
  have hz := h.v.sz
  have hs6 := f6.size
  have hs2 := hb.size
  have hTne : ¬ T = H1 := fun e => h.v.t1 (.inl e)
  have hN := HB.new w2 (rhC k (firstK k) 0 (.slice none 0 0)) 74
  have hf : Frm (fun q => q = H1) w0 (w2.alloc (.cells (rhC k (firstK k) 0 (.slice none 0 0)).toArray 74)) := (f6.trans (Frm.later hb)).alloc _
  have h1 := (h6.later hb).alloc (.cells (rhC k (firstK k) 0 (.slice none 0 0)).toArray 74)
  have hp := fresh_pair (B := B) hk h1 hN hb1 (by omega) (by omega)
  have hT := h.t.frm hf hTne
  have hv := h.v.swap hf (fun q e => .inl e) hp (fun q hq => hq.elim (fun e => .inl (.inl e)) (fun hq => hq.elim (fun e => .inr (by omega)) (fun hq => hq.elim (fun e => by cases e) (fun e => by cases e)))) (L' := []) (c' := c) (Nat.zero_le _)
  exact ⟨hT.set 1 _, hv.cell (Frm.grown (grown_set _ ⟨T, 1, none⟩ _) (fun k h => (Option.some.inj h).symm))⟩
theorem new_done {B T H1 H2 k : Nat} {st : S8} {N : Nat} {va vb lv wv : Value} {L : List UInt8} {es : List Ent} {c d : Nat} {W w0 w1 w2 : World} (h : Tw B T H1 H2 k st N va vb lv wv L es c d W w0) {k' G1 G2 : Nat} (hk : 1 ≤ k' ∧ k' ≤ 3) (h1 : HB w1 G1 67 (hashC k' (firstK k') 0 (.slice none 0 0))) (s1 : w0.heap.size ≤ G1) (hb1 : Below w0.heap.size w0 w1)
    (h2 : HB w2 G2 74 (rhC k' (firstK k') 0 (.slice none 0 0))) (s2 : w1.heap.size ≤ G2) (hb2 : Below w1.heap.size w1 w2) :
    Tw B T G1 G2 k' (firstK k') 0 (.slice none 0 0) (.slice none 0 0) lv wv [] es c d W ((w2.setCell ⟨T, 0, none⟩ (.pointer (some ⟨G1, 0, none⟩))).setCell ⟨T, 1, none⟩ (.pointer (some ⟨G2, 0, none⟩))) := by
  have hz := h.v.sz
  have hlt := h1.lt
  have hb : Below w0.heap.size w0 w2 := hb1.trans (hb2.mono hb1.size)
  have hs1 := hb1.size
  have hp := fresh_pair (B := B) hk (h1.later hb2) h2 (by omega) (by omega) (by omega)
  have hv := h.v.swap (K := fun _ => False) (Frm.later hb) (fun _ h => h.elim) hp (fun q hq => .inr (hq.elim (fun e => by omega) (fun hq => hq.elim (fun e => by omega) (fun hq => hq.elim (fun e => by cases e) (fun e => by cases e))))) (L' := []) (c' := c) (Nat.zero_le _)
  exact ⟨((h.t.later hb).set 0 _).set 1 _, hv.cell ((Frm.grown (grown_set _ ⟨T, 0, none⟩ _) (fun k h => (Option.some.inj h).symm)).trans (Frm.grown (grown_set _ ⟨T, 1, none⟩ _) (fun k h => (Option.some.inj h).symm)))⟩
set_option maxRecDepth 100000 in
set_option maxHeartbeats 1000000 in
theorem step7 {T H1 H2 k : Nat} {st : S8} {N : Nat} {va vb lv wv : Value} {L : List UInt8} {es : List Ent} {c d : Nat} {W w : World} (h : Tw W.heap.size T H1 H2 k st N va vb lv wv L es c d W w) (hc : c ≤ 209715200) (hd : d ≤ 200) (htab : TabOk W) (h00 : 0 < W.heap.size)
    (bits : Int) (ao : Option Addr) (n cap : Nat) (l : List UInt8) (hl : l.length = n) (hn : n ≤ 1048576) (hnc : n ≤ cap) (hnil : ao = none → cap = 0) (hr : Rd W ao l) :
    Calls Tryd.prog 33 #[.pointer (some ⟨T, 0, none⟩), .agg #[.int .i64 7, .int .i64 bits, .slice ao n cap]] w fun e w' => e = .returned (.bool true) ∧ ∃ lv' wv' es', TwE W.heap.size T lv' wv' es' (c + 1048576) (d + 1) W w' (fun _ => False) := by
  have Hl := Lib.hid hl
  have Hn := Lib.hid hn
  have Hnc := Lib.hid hnc
  have Hnil := Lib.hid hnil
  have Hc := Lib.hid hc
  have Hd := Lib.hid hd
  have Htab := Lib.hid htab
  have H00 := Lib.hid h00
  have Hr := Lib.hid (fun w' (h : Below W.heap.size W w') => hr.below h)
  have Hrl := Lib.hid (show 0 < n → ∀ a, ao = some a → a.block < W.heap.size from fun h => hr.lt (by omega))
  have HXl : Hid (T < w.heap.size) := Lib.hid h.v.tl
  have HX := Lib.hid (HB.new w [.int .i64 7, .int .i64 bits, .slice ao n cap] 61)
  have Hhx := Lib.hid (fun w' (hb : Below w.heap.size w w') => h.later hb)
  clear h hl hn hnc hnil hc hd htab h00 hr
  have HT0 := Lib.hid (Hhx.out _ ((Below.refl _ w).alloc (Nat.le_refl _) (.cells #[.int .i64 7, .int .i64 bits, .slice ao n cap] 61)))
  go_enter Tryd.func33, Tryd.ntmps33
  go_upto_region 30 with fail
  as_aux_lemma =>
  generalize w.alloc (.cells #[.int .i64 7, .int .i64 bits, .slice ao n cap] 61) = w0 at *
  generalize w.heap.size = X at *
  have k2 := HX.out.cell (i := 2) rfl
  have Hop := Lib.hid (open_any (⟨HT0.out.t, HT0.out.v.mono (Nat.le_add_right c 1048576) (Nat.le_succ d)⟩ : Tw _ _ _ _ _ _ _ _ _ _ _ _ _ (c + 1048576) (d + 1) _ _) (by omega) ao n cap l Hl.out (by have := Hn.out; omega) Hnc.out Hnil.out (Hr.out _ HT0.out.v.bl) (fun h a e => Nat.lt_of_lt_of_le (Hrl.out h a e) HT0.out.v.sz))
  clear Hhx
  go_wp2_with fail
  refine Hop.out.mono ?_
  rintro e w1 ⟨rfl, hE⟩
  have HE := Lib.hid hE
  clear hE Hop k2
  go_wp2_with fail
  go_ret
  exact ⟨rfl, _, _, _, HE.out⟩
set_option maxRecDepth 100000 in
set_option maxHeartbeats 1000000 in
theorem step4 {T H1 H2 k : Nat} {st : S8} {N : Nat} {va vb lv wv : Value} {L : List UInt8} {es : List Ent} {c d : Nat} {W w : World} (h : Tw W.heap.size T H1 H2 k st N va vb lv wv L es c d W w) (hc : c ≤ 209715200) (hd : d ≤ 200) (htab : TabOk W) (h00 : 0 < W.heap.size)
    (bits : Int) (ao : Option Addr) (n cap : Nat) (l : List UInt8) (hl : l.length = n) (hn : n ≤ 1048576) (hnc : n ≤ cap) (hnil : ao = none → cap = 0) (hr : Rd W ao l) :
    Calls Tryd.prog 33 #[.pointer (some ⟨T, 0, none⟩), .agg #[.int .i64 4, .int .i64 bits, .slice ao n cap]] w fun e w' => e = .returned (.bool true) ∧ ∃ lv' wv' es', TwE W.heap.size T lv' wv' es' (c + 1048576) (d + 1) W w' (fun _ => False) := by
  have Hl := Lib.hid hl
  have Hn := Lib.hid hn
  have Hnc := Lib.hid hnc
  have Hnil := Lib.hid hnil
  have Hc := Lib.hid hc
  have Hd := Lib.hid hd
  have Htab := Lib.hid htab
  have H00 := Lib.hid h00
  have Hr := Lib.hid (fun w' (h : Below W.heap.size W w') => hr.below h)
  have Hrl := Lib.hid (show 0 < n → ∀ a, ao = some a → a.block < W.heap.size from fun h => hr.lt (by omega))
  have HXl : Hid (T < w.heap.size) := Lib.hid h.v.tl
  have HX := Lib.hid (HB.new w [.int .i64 4, .int .i64 bits, .slice ao n cap] 61)
  have Hhx := Lib.hid (fun w' (hb : Below w.heap.size w w') => h.later hb)
  clear h hl hn hnc hnil hc hd htab h00 hr
  have HT0 := Lib.hid (Hhx.out _ ((Below.refl _ w).alloc (Nat.le_refl _) (.cells #[.int .i64 4, .int .i64 bits, .slice ao n cap] 61)))
  go_enter Tryd.func33, Tryd.ntmps33
  go_upto_region 17 with fail
  as_aux_lemma =>
  generalize w.alloc (.cells #[.int .i64 4, .int .i64 bits, .slice ao n cap] 61) = w0 at *
  generalize w.heap.size = X at *
  have k1 := HT0.out.t.cell (i := 1) rfl
  have hst : Calls Tryd.prog 45 #[.pointer (some ⟨H2, 0, none⟩)] w0 fun e w'' => ∃ v, e = .returned v ∧ Own 5 w'' w0.heap.size v (stateL k (goB (wK k) st L).1 (N + L.length) (goB (wK k) st L).2) ∧ Below w0.heap.size w0 w'' := by
    have hP := HT0.out.v.h
    obtain ⟨ua, uc, hvb, va1, va2, va3, va4, va5⟩ := hP.ob.rd3
    have h2 := hP.h2
    rw [hvb] at h2
    have hn2 := hP.n2
    have hlc := HT0.out.v.lc
    have hcn := Hc.out
    exact rstate_any H2 k st N ua _ uc L w0 hP.hk h2 hP.hs (by omega) rfl (by omega) va1 va2 va4 va3 (fun a e => (va5 a e).2)
  have Hst := Lib.hid hst
  clear Hhx hst
  go_wp2_with fail
  refine Hst.out.mono ?_
  rintro e w1 ⟨v1, rfl, ho1, hb1⟩
  obtain ⟨a1, c1, rfl, h1, h2, h3, h4, h5⟩ := ho1.rd3
  have HT1 := HT0.out.later hb1
  have hln : (stateL k (goB (wK k) st L).1 (N + L.length) (goB (wK k) st L).2).length ≤ 140737488352000 := by
    rw [stateL_len HT0.out.v.h.hk]
    have hll := (goB_left (wK k) _ st L rfl).2
    have hsz : sizeW (wK k) ≤ 128 := by unfold sizeW; split <;> decide
    have hw : wK k ≤ 64 := by unfold wK; split <;> decide
    omega
  have Hop := Lib.hid (open_any (⟨HT1.t, HT1.v.mono (Nat.le_add_right c 1048576) (Nat.le_succ d)⟩ : Tw _ _ _ _ _ _ _ _ _ _ _ _ _ (c + 1048576) (d + 1) _ _) (by omega) a1 _ c1 _ rfl hln h1 h4 h3 (fun _ a e => (h5 a e).2))
  clear ho1 hb1 h1 h2 h3 h4 h5 HT1 hln Hst k1 HT0
  go_wp2_with fail
  refine Hop.out.mono ?_
  rintro e w2 ⟨rfl, hE⟩
  have HE := Lib.hid hE
  clear hE Hop
  go_wp2_with fail
  go_ret
  exact ⟨rfl, _, _, _, HE.out⟩
set_option maxRecDepth 100000 in
set_option maxHeartbeats 1000000 in
theorem step6 {T H1 H2 k : Nat} {st : S8} {N : Nat} {va vb lv wv : Value} {L : List UInt8} {es : List Ent} {c d : Nat} {W w : World} (h : Tw W.heap.size T H1 H2 k st N va vb lv wv L es c d W w) (hc : c ≤ 209715200) (hd : d ≤ 200) (htab : TabOk W) (h00 : 0 < W.heap.size)
    (bits : Int) (ao : Option Addr) (n cap : Nat) (l : List UInt8) (hl : l.length = n) (hn : n ≤ 1048576) (hnc : n ≤ cap) (hnil : ao = none → cap = 0) (hr : Rd W ao l) :
    Calls Tryd.prog 33 #[.pointer (some ⟨T, 0, none⟩), .agg #[.int .i64 6, .int .i64 bits, .slice ao n cap]] w fun e w' => e = .returned (.bool true) ∧ ∃ lv' wv' es', TwE W.heap.size T lv' wv' es' (c + 1048576) (d + 1) W w' (fun _ => False) := by
  have Hl := Lib.hid hl
  have Hn := Lib.hid hn
  have Hnc := Lib.hid hnc
  have Hnil := Lib.hid hnil
  have Hc := Lib.hid hc
  have Hd := Lib.hid hd
  have Htab := Lib.hid htab
  have H00 := Lib.hid h00
  have Hr := Lib.hid (fun w' (h : Below W.heap.size W w') => hr.below h)
  have Hrl := Lib.hid (show 0 < n → ∀ a, ao = some a → a.block < W.heap.size from fun h => hr.lt (by omega))
  have HXl : Hid (T < w.heap.size) := Lib.hid h.v.tl
  have HX := Lib.hid (HB.new w [.int .i64 6, .int .i64 bits, .slice ao n cap] 61)
  have Hhx := Lib.hid (fun w' (hb : Below w.heap.size w w') => h.later hb)
  clear h hl hn hnc hnil hc hd htab h00 hr
  have HT0 := Lib.hid (Hhx.out _ ((Below.refl _ w).alloc (Nat.le_refl _) (.cells #[.int .i64 6, .int .i64 bits, .slice ao n cap] 61)))
  go_enter Tryd.func33, Tryd.ntmps33
  go_upto_region 22 with fail
  as_aux_lemma =>
  generalize w.alloc (.cells #[.int .i64 6, .int .i64 bits, .slice ao n cap] 61) = w0 at *
  generalize w.heap.size = X at *
  clear Hhx
  have hXT : X ≠ T := fun e => by have := HX.out; have := HXl.out; omega
  have hcs : (∃ k', (1 ≤ k' ∧ k' ≤ 3) ∧ bits = ((8 * digK k' : Nat) : Int)) ∨ (bits ≠ 256 ∧ bits ≠ 384 ∧ bits ≠ 512) := by
    by_cases e1 : bits = 256
    · exact .inl ⟨1, by decide, e1⟩
    · by_cases e2 : bits = 384
      · exact .inl ⟨2, by decide, e2⟩
      · by_cases e3 : bits = 512
        · exact .inl ⟨3, by decide, e3⟩
        · exact .inr ⟨e1, e2, e3⟩
  have k1 := HX.out.cell (i := 1) rfl
  rcases hcs with ⟨k', hk', hbits⟩ | ⟨b1, b2, b3⟩
  · have Hn1 := Lib.hid (new_any k' w0 hk')
    have Hn2 := Lib.hid (fun w' => rnew_any k' w' hk')
    have HXk := Lib.hid (fun w' (h : Below w0.heap.size w0 w') => (HX.out.later h).cell (i := 1) rfl)
    rw [← hbits] at Hn1 Hn2
    have Hk' := Lib.hid hk'
    clear hk' hbits
    go_wp2_with fail
    refine Hn1.out.mono ?_
    rintro e w1 ⟨G1, rfl, hG1, hs1, hb1⟩
    have HG1 := Lib.hid hG1
    have Hs1 := Lib.hid hs1
    have Hb1 := Lib.hid hb1
    have k1' := HXk.out _ hb1
    clear hG1 hs1 hb1 k1 Hn1
    go_wp2_with fail
    refine (Hn2.out _).mono ?_
    rintro e w2 ⟨G2, rfl, hG2, hs2, hb2⟩
    have hb02 : Below w0.heap.size w0 w2 := Hb1.out.trans (hb2.mono Hb1.out.size)
    have HE := Lib.hid (TwE.any (new_done HT0.out Hk'.out HG1.out Hs1.out Hb1.out hG2 hs2 hb2))
    have hT2 := HT0.out.t.later hb02
    have k0 := hT2.cell (i := 0) rfl
    have k1 := hT2.cell (i := 1) rfl
    have f0 := hT2.frozen 0
    have f1 := hT2.frozen 1
    clear hG2 hs2 hb2 hb02 hT2 k1' Hn2 HG1 Hs1 Hb1 HXk HX
    go_wp2_with fail
    go_ret
    exact ⟨rfl, _, _, _, HE.out⟩
  · have Hn1 := Lib.hid (new_none bits w0 b1 b2 b3)
    have Hn2 := Lib.hid (fun w' => rnew_none bits w' b1 b2 b3)
    have HXk := Lib.hid (fun w' (h : Below w0.heap.size w0 w') => (HX.out.later h).cell (i := 1) rfl)
    clear b1 b2 b3
    go_wp2_with fail
    refine Hn1.out.mono ?_
    rintro e w1 ⟨rfl, hb1⟩
    have HE := Lib.hid (TwE.any (HT0.out.later hb1))
    have k1' := HXk.out _ hb1
    clear hb1 k1 Hn1
    go_wp2_with fail
    refine (Hn2.out _).mono ?_
    rintro e w2 ⟨rfl, rfl⟩
    clear k1' Hn2 HXk HX HT0
    go_wp2_with fail
    go_ret
    exact ⟨rfl, _, _, _, HE.out⟩
set_option maxRecDepth 100000 in
set_option maxHeartbeats 1000000 in
theorem step5 {T H1 H2 k : Nat} {st : S8} {N : Nat} {va vb lv wv : Value} {L : List UInt8} {es : List Ent} {c d : Nat} {W w : World} (h : Tw W.heap.size T H1 H2 k st N va vb lv wv L es c d W w) (hc : c ≤ 209715200) (hd : d ≤ 200) (htab : TabOk W) (h00 : 0 < W.heap.size)
    (bits : Int) (ao : Option Addr) (n cap : Nat) (l : List UInt8) (hl : l.length = n) (hn : n ≤ 1048576) (hnc : n ≤ cap) (hnil : ao = none → cap = 0) (hr : Rd W ao l) :
    Calls Tryd.prog 33 #[.pointer (some ⟨T, 0, none⟩), .agg #[.int .i64 5, .int .i64 bits, .slice ao n cap]] w fun e w' => e = .returned (.bool true) ∧ ∃ lv' wv' es', TwE W.heap.size T lv' wv' es' (c + 1048576) (d + 1) W w' (fun _ => False) := by
  have Hl := Lib.hid hl
  have Hn := Lib.hid hn
  have Hnc := Lib.hid hnc
  have Hnil := Lib.hid hnil
  have Hc := Lib.hid hc
  have Hd := Lib.hid hd
  have Htab := Lib.hid htab
  have H00 := Lib.hid h00
  have Hr := Lib.hid (fun w' (h : Below W.heap.size W w') => hr.below h)
  have Hrl := Lib.hid (show 0 < n → ∀ a, ao = some a → a.block < W.heap.size from fun h => hr.lt (by omega))
  have HXl : Hid (T < w.heap.size) := Lib.hid h.v.tl
  have HX := Lib.hid (HB.new w [.int .i64 5, .int .i64 bits, .slice ao n cap] 61)
  have Hhx := Lib.hid (fun w' (hb : Below w.heap.size w w') => h.later hb)
  clear h hl hn hnc hnil hc hd htab h00 hr
  have HT0 := Lib.hid (Hhx.out _ ((Below.refl _ w).alloc (Nat.le_refl _) (.cells #[.int .i64 5, .int .i64 bits, .slice ao n cap] 61)))
  go_enter Tryd.func33, Tryd.ntmps33
  go_upto_region 19 with fail
  as_aux_lemma =>
  generalize w.alloc (.cells #[.int .i64 5, .int .i64 bits, .slice ao n cap] 61) = w0 at *
  generalize w.heap.size = X at *
  clear Hhx
  have k0 := HT0.out.t.cell (i := 0) rfl
  have hrs : Calls Tryd.prog 19 #[.pointer (some ⟨H1, 0, none⟩)] w0 fun e w' => e = .returned (.tuple #[]) ∧ HB w' H1 67 (hashC k (firstK k) 0 (.slice none 0 0)) ∧ Frm (fun q => q = H1) w0 w' := by
    obtain ⟨ra, rc, hva, -, -, -, -, -⟩ := HT0.out.v.h.oa.rd3
    have h1 := HT0.out.v.h.h1
    rw [hva] at h1
    exact preset_any H1 k _ _ ra _ rc w0 HT0.out.v.h.hk h1
  have Hrs := Lib.hid hrs
  clear hrs
  go_wp2_with fail
  as_aux_lemma =>
  clear k0
  refine Hrs.out.mono ?_
  rintro e w1 ⟨rfl, hH1, hf1⟩
  have HH1 := Lib.hid hH1
  have HF1 := Lib.hid hf1
  have hbd : Below w1.heap.size w1 w1.drew := (⟨1, rfl⟩ : Drn w1 w1.drew).below _
  have HTs := Lib.hid (fun w' (h : Below w1.heap.size w1 w') => And.intro ((HT0.out.t.frm hf1 (fun e => HT0.out.v.t1 (.inl e))).later h) ((HT0.out.v.h.h2.frm hf1 (fun e => HT0.out.v.h.hh e.symm)).later h))
  have Hk := Lib.hid HT0.out.v.h.hk
  have Hfi := Lib.hid (fun w' => first_any k w' HT0.out.v.h.hk)
  have hbld := fun w => run_buildRh k (firstK k) w
  have HTH : Hid (T ≠ H2) := Lib.hid (fun e => HT0.out.v.t1 (.inr (.inl e)))
  clear hH1 hf1 Hrs
  go_upto_region 20 with fail
  as_aux_lemma =>
  have S0 := (HTs.out _ hbd).2.cell (rhC_k k st N vb)
  have t0 := (HTs.out _ hbd).1.cell (i := 1) rfl
  refine wp_region_held_drew (S := fun w' => w'.cell? ⟨H2, 0, none⟩ = some (.int .i64 k)) (by kernel_rfl) S0 (fun hHeld => ?_)
  refine wpAnyH_take (i := 0) (v := ?_) (by simp only [List.getElem?_toArray, List.getElem?_cons_succ, List.getElem?_cons_zero]; rfl) (by kernel_rfl) (by kernel_rfl) (by kernel_rfl) (by intro _ _ _ h_; exact h_) (Or.inl ⟨by rfl, ?_⟩) (by assumption) ?_
  rotate_left 1
  focus (intro w_ hSw_; go_simp; try with_reducible rfl)
  simp only [Act.put, List.setIfInBounds_toArray, List.set_cons_zero, List.set_cons_succ]
  refine wpAnyH_take (i := 1) (v := ?_) (by simp only [List.getElem?_toArray, List.getElem?_cons_succ, List.getElem?_cons_zero]; rfl) (by kernel_rfl) (by kernel_rfl) (by kernel_rfl) (by intro _ _ _ h_; exact h_) (Or.inl ⟨by rfl, ?_⟩) (by assumption) ?_
  rotate_left 1
  focus (intro w_ hSw_; go_simp; try with_reducible rfl)
  simp only [Act.put, List.setIfInBounds_toArray, List.set_cons_zero, List.set_cons_succ]
  refine wpAnyH_take (i := 2) (v := ?_) (by simp only [List.getElem?_toArray, List.getElem?_cons_succ, List.getElem?_cons_zero]; rfl) (by kernel_rfl) (by kernel_rfl) (by kernel_rfl) (by intro _ _ _ h_; exact h_) (Or.inl ⟨by rfl, ?_⟩) (by assumption) ?_
  rotate_left 1
  focus (intro w_ hSw_; go_simp; try with_reducible rfl)
  simp only [Act.put, List.setIfInBounds_toArray, List.set_cons_zero, List.set_cons_succ]
  refine wpAnyH_take (i := 3) (v := ?_) (by simp only [List.getElem?_toArray, List.getElem?_cons_succ, List.getElem?_cons_zero]; rfl) (by kernel_rfl) (by kernel_rfl) (by kernel_rfl) (by intro _ _ _ h_; exact h_) (Or.inl ⟨by rfl, ?_⟩) (by assumption) ?_
  rotate_left 1
  focus (intro w_ hSw_; go_simp; try with_reducible rfl)
  simp only [Act.put, List.setIfInBounds_toArray, List.set_cons_zero, List.set_cons_succ]
  refine wpAnyH_take (i := 8) (v := ?_) (by simp only [List.getElem?_toArray, List.getElem?_cons_succ, List.getElem?_cons_zero]; rfl) (by kernel_rfl) (by kernel_rfl) (by kernel_rfl) (by intro _ _ _ h_; exact h_) (Or.inl ⟨by rfl, ?_⟩) (by assumption) ?_
  rotate_left 1
  focus (intro w_ hSw_; go_simp; try with_reducible rfl)
  simp only [Act.put, List.setIfInBounds_toArray, List.set_cons_zero, List.set_cons_succ]
  refine wpAnyH_take (i := 9) (v := ?_) (by simp only [List.getElem?_toArray, List.getElem?_cons_succ, List.getElem?_cons_zero]; rfl) (by kernel_rfl) (by kernel_rfl) (by kernel_rfl) (by intro _ _ _ h_; exact h_) (Or.inl ⟨by rfl, ?_⟩) (by assumption) ?_
  rotate_left 1
  focus (intro w_ hSw_; go_simp; try with_reducible rfl)
  simp only [Act.put, List.setIfInBounds_toArray, List.set_cons_zero, List.set_cons_succ]
  refine wpAnyH_take (i := 10) (v := ?_) (by simp only [List.getElem?_toArray, List.getElem?_cons_succ, List.getElem?_cons_zero]; rfl) (by kernel_rfl) (by kernel_rfl) (by kernel_rfl) (by intro _ _ _ h_; exact h_) (Or.inl ⟨by rfl, ?_⟩) (by assumption) ?_
  rotate_left 1
  focus (intro w_ hSw_; go_simp; try with_reducible rfl)
  simp only [Act.put, List.setIfInBounds_toArray, List.set_cons_zero, List.set_cons_succ]
  clear hbd
  refine wpAnyH_ready (rs := [4, 11]) (by kernel_rfl) (by simp) ?_
  refine AllReadyH.cons (by simp only [List.getElem?_toArray, List.getElem?_cons_succ, List.getElem?_cons_zero]; rfl) (fun K hK => ?_) (AllReadyH.cons (by simp only [List.getElem?_toArray, List.getElem?_cons_succ, List.getElem?_cons_zero]; rfl) (fun K hK => ?_) AllReadyH.nil)
  · go_simp
    refine hK.out _ _ S0 (fun hHeld => ?_)
    clear hK K
    try simp only [Act.put, List.setIfInBounds_toArray, List.set_cons_zero, List.set_cons_succ]
    refine wpAnyH_take (i := 5) (v := ?_) (by simp only [List.getElem?_toArray, List.getElem?_cons_succ, List.getElem?_cons_zero]; rfl) (by kernel_rfl) (by kernel_rfl) (by kernel_rfl) (by intro _ _ _ h_; exact h_) (Or.inl ⟨by rfl, ?_⟩) (by assumption) ?_
    rotate_left 1
    focus (intro w_ hSw_; go_simp; try with_reducible rfl)
    simp only [Act.put, List.setIfInBounds_toArray, List.set_cons_zero, List.set_cons_succ]
    refine wpAnyH_take (i := 6) (v := ?_) (by simp only [List.getElem?_toArray, List.getElem?_cons_succ, List.getElem?_cons_zero]; rfl) (by kernel_rfl) (by kernel_rfl) (by kernel_rfl) (by intro _ _ _ h_; exact h_) (Or.inl ⟨by rfl, ?_⟩) (by assumption) ?_
    rotate_left 1
    focus (intro w_ hSw_; go_simp; try with_reducible rfl)
    simp only [Act.put, List.setIfInBounds_toArray, List.set_cons_zero, List.set_cons_succ]
    refine wpAnyH_take (i := 7) (v := ?_) (by simp only [List.getElem?_toArray, List.getElem?_cons_succ, List.getElem?_cons_zero]; rfl) (by kernel_rfl) (by kernel_rfl) (by kernel_rfl) (by intro _ _ _ h_; exact h_) (Or.inl ⟨by rfl, ?_⟩) (by assumption) ?_
    rotate_left 1
    focus (intro w_ hSw_; go_simp; try with_reducible rfl)
    simp only [Act.put, List.setIfInBounds_toArray, List.set_cons_zero, List.set_cons_succ]
    refine wpAnyH_ready (rs := [11]) (by kernel_rfl) (by simp) ?_
    refine AllReadyH.cons (by simp only [List.getElem?_toArray, List.getElem?_cons_succ, List.getElem?_cons_zero]; rfl) (fun K hK => ?_) AllReadyH.nil
    go_simp
    refine hK.out _ _ S0 (fun hHeld => ?_)
    clear hK K
    try simp only [Act.put, List.setIfInBounds_toArray, List.set_cons_zero, List.set_cons_succ]
    refine wpAnyH_take (i := 12) (v := ?_) (by simp only [List.getElem?_toArray, List.getElem?_cons_succ, List.getElem?_cons_zero]; rfl) (by kernel_rfl) (by kernel_rfl) (by kernel_rfl) (by intro _ _ _ h_; exact h_) (Or.inl ⟨by rfl, ?_⟩) (by assumption) ?_
    rotate_left 1
    focus (intro w_ hSw_; go_simp; try with_reducible rfl)
    simp only [Act.put, List.setIfInBounds_toArray, List.set_cons_zero, List.set_cons_succ]
    refine wpAnyH_take (i := 13) (v := ?_) (by simp only [List.getElem?_toArray, List.getElem?_cons_succ, List.getElem?_cons_zero]; rfl) (by kernel_rfl) (by kernel_rfl) (by kernel_rfl) (by intro _ _ _ h_; exact h_) (Or.inl ⟨by rfl, ?_⟩) (by assumption) ?_
    rotate_left 1
    focus (intro w_ hSw_; go_simp; try with_reducible rfl)
    simp only [Act.put, List.setIfInBounds_toArray, List.set_cons_zero, List.set_cons_succ]
    refine wpAnyH_take (i := 14) (v := ?_) (by simp only [List.getElem?_toArray, List.getElem?_cons_succ, List.getElem?_cons_zero]; rfl) (by kernel_rfl) (by kernel_rfl) (by kernel_rfl) (by intro _ _ _ h_; exact h_) (Or.inl ⟨by rfl, ?_⟩) (by assumption) ?_
    rotate_left 1
    focus (intro w_ hSw_; go_simp; try with_reducible rfl)
    simp only [Act.put, List.setIfInBounds_toArray, List.set_cons_zero, List.set_cons_succ]
    refine wpAnyH_ready (rs := [15]) (by kernel_rfl) (by simp) ?_
    refine AllReadyH.cons (by simp only [List.getElem?_toArray, List.getElem?_cons_succ, List.getElem?_cons_zero]; rfl) (fun K hK => ?_) AllReadyH.nil
    go_simp
    refine (Hfi.out _).mono ?_
    rintro e w2 ⟨rfl, hb2⟩
    have hbb : Below w1.heap.size w1 w2 := (show Below w1.heap.size w1 w1.drew from (⟨1, rfl⟩ : Drn w1 w1.drew).below _).trans hb2
    have S2 := (HTs.out _ hbb).2.cell (rhC_k k st N vb)
    have t2 := (HTs.out _ hbb).1.cell (i := 1) rfl
    have Hbb := Lib.hid hbb
    clear hHeld hb2 hbb t0 Hfi
    go_wp2_with fail
    refine hK.out _ _ S2 (fun hHeld => ?_)
    clear hK K
    try simp only [Act.put, List.setIfInBounds_toArray, List.set_cons_zero, List.set_cons_succ]
    refine wpAnyH_take (i := 16) (v := ?_) (by simp only [List.getElem?_toArray, List.getElem?_cons_succ, List.getElem?_cons_zero]; rfl) (by kernel_rfl) (by kernel_rfl) (by kernel_rfl) (by intro _ _ _ h_; exact h_) (Or.inl ⟨by rfl, ?_⟩) (by assumption) ?_
    rotate_left 1
    focus (intro w_ hSw_; go_simp; try with_reducible rfl)
    simp only [Act.put, List.setIfInBounds_toArray, List.set_cons_zero, List.set_cons_succ]
    clear t2
    refine wpAnyH_ready (rs := [17]) (by kernel_rfl) (by simp) ?_
    refine AllReadyH.cons (by simp only [List.getElem?_toArray, List.getElem?_cons_succ, List.getElem?_cons_zero]; rfl) (fun K hK => ?_) AllReadyH.nil
    go_simp
    have ha : Below w1.heap.size w1 (w2.alloc (.cells (rhC k (firstK k) 0 (.slice none 0 0)).toArray 74)) := Hbb.out.alloc (Hbb.out.size) _
    have S3 := (HTs.out _ ha).2.cell (rhC_k k st N vb)
    have t3 := (HTs.out _ ha).1.cell (i := 1) rfl
    have f3 := (HTs.out _ ha).1.frozen 1
    have hD := Lib.hid (TwE.any (reset_done HT0.out HH1.out HF1.out Hbb.out))
    have S4 := (World.cell?_setCell_far _ ⟨T, 1, none⟩ ⟨H2, 0, none⟩ (.pointer (some ⟨w2.heap.size, 0, none⟩)) HTH.out).trans S3
    refine hK.out _ _ S3 (fun hHeld => ?_)
    clear hK K
    try simp only [Act.put, List.setIfInBounds_toArray, List.set_cons_zero, List.set_cons_succ]
    refine wpAnyH_take (i := 18) (v := ?_) (by simp only [List.getElem?_toArray, List.getElem?_cons_succ, List.getElem?_cons_zero]; rfl) (by kernel_rfl) (by kernel_rfl) (by kernel_rfl) (by intro _ _ _ h_; exact h_) (Or.inl ⟨by rfl, ?_⟩) (by assumption) ?_
    rotate_left 1
    focus (intro w_ hSw_; go_simp; try with_reducible rfl)
    simp only [Act.put, List.setIfInBounds_toArray, List.set_cons_zero, List.set_cons_succ]
    refine wpAnyH_take (i := 19) (v := ?_) (by simp only [List.getElem?_toArray, List.getElem?_cons_succ, List.getElem?_cons_zero]; rfl) (by kernel_rfl) (by kernel_rfl) (by kernel_rfl) (by intro _ _ _ h_; exact h_) (Or.inl ⟨by rfl, ?_⟩) (by assumption) ?_
    rotate_left 1
    focus (intro w_ hSw_; go_simp; try with_reducible rfl)
    simp only [Act.put, List.setIfInBounds_toArray, List.set_cons_zero, List.set_cons_succ]
    refine wpAnyH_ready (rs := [20]) (by kernel_rfl) (by simp) ?_
    refine AllReadyH.cons (by simp only [List.getElem?_toArray, List.getElem?_cons_succ, List.getElem?_cons_zero]; rfl) (fun K hK => ?_) AllReadyH.nil
    go_simp
    refine hK.out _ _ S4 (fun hHeld => ?_)
    clear hK K
    try simp only [Act.put, List.setIfInBounds_toArray, List.set_cons_zero, List.set_cons_succ]
    refine wpAnyH_done (by kernel_rfl) ?_ _
    clear hHeld S0 S2 S3 S4 t3 f3 hbld
    generalize World.setCell _ _ _ = w5 at *
    go_wp2_with fail
    go_ret
    exact ⟨rfl, _, _, _, hD.out⟩
  · go_simp
    refine hK.out _ _ S0 (fun hHeld => ?_)
    clear hK K
    try simp only [Act.put, List.setIfInBounds_toArray, List.set_cons_zero, List.set_cons_succ]
    refine wpAnyH_take (i := 12) (v := ?_) (by simp only [List.getElem?_toArray, List.getElem?_cons_succ, List.getElem?_cons_zero]; rfl) (by kernel_rfl) (by kernel_rfl) (by kernel_rfl) (by intro _ _ _ h_; exact h_) (Or.inl ⟨by rfl, ?_⟩) (by assumption) ?_
    rotate_left 1
    focus (intro w_ hSw_; go_simp; try with_reducible rfl)
    simp only [Act.put, List.setIfInBounds_toArray, List.set_cons_zero, List.set_cons_succ]
    refine wpAnyH_take (i := 13) (v := ?_) (by simp only [List.getElem?_toArray, List.getElem?_cons_succ, List.getElem?_cons_zero]; rfl) (by kernel_rfl) (by kernel_rfl) (by kernel_rfl) (by intro _ _ _ h_; exact h_) (Or.inl ⟨by rfl, ?_⟩) (by assumption) ?_
    rotate_left 1
    focus (intro w_ hSw_; go_simp; try with_reducible rfl)
    simp only [Act.put, List.setIfInBounds_toArray, List.set_cons_zero, List.set_cons_succ]
    refine wpAnyH_take (i := 14) (v := ?_) (by simp only [List.getElem?_toArray, List.getElem?_cons_succ, List.getElem?_cons_zero]; rfl) (by kernel_rfl) (by kernel_rfl) (by kernel_rfl) (by intro _ _ _ h_; exact h_) (Or.inl ⟨by rfl, ?_⟩) (by assumption) ?_
    rotate_left 1
    focus (intro w_ hSw_; go_simp; try with_reducible rfl)
    simp only [Act.put, List.setIfInBounds_toArray, List.set_cons_zero, List.set_cons_succ]
    refine wpAnyH_ready (rs := [4, 15]) (by kernel_rfl) (by simp) ?_
    refine AllReadyH.cons (by simp only [List.getElem?_toArray, List.getElem?_cons_succ, List.getElem?_cons_zero]; rfl) (fun K hK => ?_) (AllReadyH.cons (by simp only [List.getElem?_toArray, List.getElem?_cons_succ, List.getElem?_cons_zero]; rfl) (fun K hK => ?_) AllReadyH.nil)
    · go_simp
      refine hK.out _ _ S0 (fun hHeld => ?_)
      clear hK K
      try simp only [Act.put, List.setIfInBounds_toArray, List.set_cons_zero, List.set_cons_succ]
      refine wpAnyH_take (i := 5) (v := ?_) (by simp only [List.getElem?_toArray, List.getElem?_cons_succ, List.getElem?_cons_zero]; rfl) (by kernel_rfl) (by kernel_rfl) (by kernel_rfl) (by intro _ _ _ h_; exact h_) (Or.inl ⟨by rfl, ?_⟩) (by assumption) ?_
      rotate_left 1
      focus (intro w_ hSw_; go_simp; try with_reducible rfl)
      simp only [Act.put, List.setIfInBounds_toArray, List.set_cons_zero, List.set_cons_succ]
      refine wpAnyH_take (i := 6) (v := ?_) (by simp only [List.getElem?_toArray, List.getElem?_cons_succ, List.getElem?_cons_zero]; rfl) (by kernel_rfl) (by kernel_rfl) (by kernel_rfl) (by intro _ _ _ h_; exact h_) (Or.inl ⟨by rfl, ?_⟩) (by assumption) ?_
      rotate_left 1
      focus (intro w_ hSw_; go_simp; try with_reducible rfl)
      simp only [Act.put, List.setIfInBounds_toArray, List.set_cons_zero, List.set_cons_succ]
      refine wpAnyH_take (i := 7) (v := ?_) (by simp only [List.getElem?_toArray, List.getElem?_cons_succ, List.getElem?_cons_zero]; rfl) (by kernel_rfl) (by kernel_rfl) (by kernel_rfl) (by intro _ _ _ h_; exact h_) (Or.inl ⟨by rfl, ?_⟩) (by assumption) ?_
      rotate_left 1
      focus (intro w_ hSw_; go_simp; try with_reducible rfl)
      simp only [Act.put, List.setIfInBounds_toArray, List.set_cons_zero, List.set_cons_succ]
      refine wpAnyH_ready (rs := [15]) (by kernel_rfl) (by simp) ?_
      refine AllReadyH.cons (by simp only [List.getElem?_toArray, List.getElem?_cons_succ, List.getElem?_cons_zero]; rfl) (fun K hK => ?_) AllReadyH.nil
      go_simp
      refine (Hfi.out _).mono ?_
      rintro e w2 ⟨rfl, hb2⟩
      have hbb : Below w1.heap.size w1 w2 := (show Below w1.heap.size w1 w1.drew from (⟨1, rfl⟩ : Drn w1 w1.drew).below _).trans hb2
      have S2 := (HTs.out _ hbb).2.cell (rhC_k k st N vb)
      have t2 := (HTs.out _ hbb).1.cell (i := 1) rfl
      have Hbb := Lib.hid hbb
      clear hHeld hb2 hbb t0 Hfi
      go_wp2_with fail
      refine hK.out _ _ S2 (fun hHeld => ?_)
      clear hK K
      try simp only [Act.put, List.setIfInBounds_toArray, List.set_cons_zero, List.set_cons_succ]
      refine wpAnyH_take (i := 16) (v := ?_) (by simp only [List.getElem?_toArray, List.getElem?_cons_succ, List.getElem?_cons_zero]; rfl) (by kernel_rfl) (by kernel_rfl) (by kernel_rfl) (by intro _ _ _ h_; exact h_) (Or.inl ⟨by rfl, ?_⟩) (by assumption) ?_
      rotate_left 1
      focus (intro w_ hSw_; go_simp; try with_reducible rfl)
      simp only [Act.put, List.setIfInBounds_toArray, List.set_cons_zero, List.set_cons_succ]
      clear t2
      refine wpAnyH_ready (rs := [17]) (by kernel_rfl) (by simp) ?_
      refine AllReadyH.cons (by simp only [List.getElem?_toArray, List.getElem?_cons_succ, List.getElem?_cons_zero]; rfl) (fun K hK => ?_) AllReadyH.nil
      go_simp
      have ha : Below w1.heap.size w1 (w2.alloc (.cells (rhC k (firstK k) 0 (.slice none 0 0)).toArray 74)) := Hbb.out.alloc (Hbb.out.size) _
      have S3 := (HTs.out _ ha).2.cell (rhC_k k st N vb)
      have t3 := (HTs.out _ ha).1.cell (i := 1) rfl
      have f3 := (HTs.out _ ha).1.frozen 1
      have hD := Lib.hid (TwE.any (reset_done HT0.out HH1.out HF1.out Hbb.out))
      have S4 := (World.cell?_setCell_far _ ⟨T, 1, none⟩ ⟨H2, 0, none⟩ (.pointer (some ⟨w2.heap.size, 0, none⟩)) HTH.out).trans S3
      refine hK.out _ _ S3 (fun hHeld => ?_)
      clear hK K
      try simp only [Act.put, List.setIfInBounds_toArray, List.set_cons_zero, List.set_cons_succ]
      refine wpAnyH_take (i := 18) (v := ?_) (by simp only [List.getElem?_toArray, List.getElem?_cons_succ, List.getElem?_cons_zero]; rfl) (by kernel_rfl) (by kernel_rfl) (by kernel_rfl) (by intro _ _ _ h_; exact h_) (Or.inl ⟨by rfl, ?_⟩) (by assumption) ?_
      rotate_left 1
      focus (intro w_ hSw_; go_simp; try with_reducible rfl)
      simp only [Act.put, List.setIfInBounds_toArray, List.set_cons_zero, List.set_cons_succ]
      refine wpAnyH_take (i := 19) (v := ?_) (by simp only [List.getElem?_toArray, List.getElem?_cons_succ, List.getElem?_cons_zero]; rfl) (by kernel_rfl) (by kernel_rfl) (by kernel_rfl) (by intro _ _ _ h_; exact h_) (Or.inl ⟨by rfl, ?_⟩) (by assumption) ?_
      rotate_left 1
      focus (intro w_ hSw_; go_simp; try with_reducible rfl)
      simp only [Act.put, List.setIfInBounds_toArray, List.set_cons_zero, List.set_cons_succ]
      refine wpAnyH_ready (rs := [20]) (by kernel_rfl) (by simp) ?_
      refine AllReadyH.cons (by simp only [List.getElem?_toArray, List.getElem?_cons_succ, List.getElem?_cons_zero]; rfl) (fun K hK => ?_) AllReadyH.nil
      go_simp
      refine hK.out _ _ S4 (fun hHeld => ?_)
      clear hK K
      try simp only [Act.put, List.setIfInBounds_toArray, List.set_cons_zero, List.set_cons_succ]
      refine wpAnyH_done (by kernel_rfl) ?_ _
      clear hHeld S0 S2 S3 S4 t3 f3 hbld
      generalize World.setCell _ _ _ = w5 at *
      go_wp2_with fail
      go_ret
      exact ⟨rfl, _, _, _, hD.out⟩
    · go_simp
      refine (Hfi.out _).mono ?_
      rintro e w2 ⟨rfl, hb2⟩
      have hbb : Below w1.heap.size w1 w2 := (show Below w1.heap.size w1 w1.drew from (⟨1, rfl⟩ : Drn w1 w1.drew).below _).trans hb2
      have S2 := (HTs.out _ hbb).2.cell (rhC_k k st N vb)
      have t2 := (HTs.out _ hbb).1.cell (i := 1) rfl
      have Hbb := Lib.hid hbb
      clear hHeld hb2 hbb t0 Hfi
      go_wp2_with fail
      refine hK.out _ _ S2 (fun hHeld => ?_)
      clear hK K
      try simp only [Act.put, List.setIfInBounds_toArray, List.set_cons_zero, List.set_cons_succ]
      refine wpAnyH_ready (rs := [4]) (by kernel_rfl) (by simp) ?_
      refine AllReadyH.cons (by simp only [List.getElem?_toArray, List.getElem?_cons_succ, List.getElem?_cons_zero]; rfl) (fun K hK => ?_) AllReadyH.nil
      go_simp
      refine hK.out _ _ S2 (fun hHeld => ?_)
      clear hK K
      try simp only [Act.put, List.setIfInBounds_toArray, List.set_cons_zero, List.set_cons_succ]
      refine wpAnyH_take (i := 5) (v := ?_) (by simp only [List.getElem?_toArray, List.getElem?_cons_succ, List.getElem?_cons_zero]; rfl) (by kernel_rfl) (by kernel_rfl) (by kernel_rfl) (by intro _ _ _ h_; exact h_) (Or.inl ⟨by rfl, ?_⟩) (by assumption) ?_
      rotate_left 1
      focus (intro w_ hSw_; go_simp; try with_reducible rfl)
      simp only [Act.put, List.setIfInBounds_toArray, List.set_cons_zero, List.set_cons_succ]
      refine wpAnyH_take (i := 6) (v := ?_) (by simp only [List.getElem?_toArray, List.getElem?_cons_succ, List.getElem?_cons_zero]; rfl) (by kernel_rfl) (by kernel_rfl) (by kernel_rfl) (by intro _ _ _ h_; exact h_) (Or.inl ⟨by rfl, ?_⟩) (by assumption) ?_
      rotate_left 1
      focus (intro w_ hSw_; go_simp; try with_reducible rfl)
      simp only [Act.put, List.setIfInBounds_toArray, List.set_cons_zero, List.set_cons_succ]
      refine wpAnyH_take (i := 7) (v := ?_) (by simp only [List.getElem?_toArray, List.getElem?_cons_succ, List.getElem?_cons_zero]; rfl) (by kernel_rfl) (by kernel_rfl) (by kernel_rfl) (by intro _ _ _ h_; exact h_) (Or.inl ⟨by rfl, ?_⟩) (by assumption) ?_
      rotate_left 1
      focus (intro w_ hSw_; go_simp; try with_reducible rfl)
      simp only [Act.put, List.setIfInBounds_toArray, List.set_cons_zero, List.set_cons_succ]
      refine wpAnyH_take (i := 16) (v := ?_) (by simp only [List.getElem?_toArray, List.getElem?_cons_succ, List.getElem?_cons_zero]; rfl) (by kernel_rfl) (by kernel_rfl) (by kernel_rfl) (by intro _ _ _ h_; exact h_) (Or.inl ⟨by rfl, ?_⟩) (by assumption) ?_
      rotate_left 1
      focus (intro w_ hSw_; go_simp; try with_reducible rfl)
      simp only [Act.put, List.setIfInBounds_toArray, List.set_cons_zero, List.set_cons_succ]
      clear t2
      refine wpAnyH_ready (rs := [17]) (by kernel_rfl) (by simp) ?_
      refine AllReadyH.cons (by simp only [List.getElem?_toArray, List.getElem?_cons_succ, List.getElem?_cons_zero]; rfl) (fun K hK => ?_) AllReadyH.nil
      go_simp
      have ha : Below w1.heap.size w1 (w2.alloc (.cells (rhC k (firstK k) 0 (.slice none 0 0)).toArray 74)) := Hbb.out.alloc (Hbb.out.size) _
      have S3 := (HTs.out _ ha).2.cell (rhC_k k st N vb)
      have t3 := (HTs.out _ ha).1.cell (i := 1) rfl
      have f3 := (HTs.out _ ha).1.frozen 1
      have hD := Lib.hid (TwE.any (reset_done HT0.out HH1.out HF1.out Hbb.out))
      have S4 := (World.cell?_setCell_far _ ⟨T, 1, none⟩ ⟨H2, 0, none⟩ (.pointer (some ⟨w2.heap.size, 0, none⟩)) HTH.out).trans S3
      refine hK.out _ _ S3 (fun hHeld => ?_)
      clear hK K
      try simp only [Act.put, List.setIfInBounds_toArray, List.set_cons_zero, List.set_cons_succ]
      refine wpAnyH_take (i := 18) (v := ?_) (by simp only [List.getElem?_toArray, List.getElem?_cons_succ, List.getElem?_cons_zero]; rfl) (by kernel_rfl) (by kernel_rfl) (by kernel_rfl) (by intro _ _ _ h_; exact h_) (Or.inl ⟨by rfl, ?_⟩) (by assumption) ?_
      rotate_left 1
      focus (intro w_ hSw_; go_simp; try with_reducible rfl)
      simp only [Act.put, List.setIfInBounds_toArray, List.set_cons_zero, List.set_cons_succ]
      refine wpAnyH_take (i := 19) (v := ?_) (by simp only [List.getElem?_toArray, List.getElem?_cons_succ, List.getElem?_cons_zero]; rfl) (by kernel_rfl) (by kernel_rfl) (by kernel_rfl) (by intro _ _ _ h_; exact h_) (Or.inl ⟨by rfl, ?_⟩) (by assumption) ?_
      rotate_left 1
      focus (intro w_ hSw_; go_simp; try with_reducible rfl)
      simp only [Act.put, List.setIfInBounds_toArray, List.set_cons_zero, List.set_cons_succ]
      refine wpAnyH_ready (rs := [20]) (by kernel_rfl) (by simp) ?_
      refine AllReadyH.cons (by simp only [List.getElem?_toArray, List.getElem?_cons_succ, List.getElem?_cons_zero]; rfl) (fun K hK => ?_) AllReadyH.nil
      go_simp
      refine hK.out _ _ S4 (fun hHeld => ?_)
      clear hK K
      try simp only [Act.put, List.setIfInBounds_toArray, List.set_cons_zero, List.set_cons_succ]
      refine wpAnyH_done (by kernel_rfl) ?_ _
      clear hHeld S0 S2 S3 S4 t3 f3 hbld
      generalize World.setCell _ _ _ = w5 at *
      go_wp2_with fail
      go_ret
      exact ⟨rfl, _, _, _, hD.out⟩
set_option maxRecDepth 100000 in
set_option maxHeartbeats 1000000 in
theorem step_any {T H1 H2 k : Nat} {st : S8} {N : Nat} {va vb lv wv : Value} {L : List UInt8} {es : List Ent} {c d : Nat} {W w : World} (h : Tw W.heap.size T H1 H2 k st N va vb lv wv L es c d W w) (hc : c ≤ 209715200) (hd : d ≤ 200) (htab : TabOk W) (h00 : 0 < W.heap.size)
    (kind bits : Int) (ao : Option Addr) (n cap : Nat) (l : List UInt8) (hl : l.length = n) (hn : n ≤ 1048576) (hnc : n ≤ cap) (hnil : ao = none → cap = 0) (hr : Rd W ao l) :
    Calls Tryd.prog 33 #[.pointer (some ⟨T, 0, none⟩), .agg #[.int .i64 kind, .int .i64 bits, .slice ao n cap]] w fun e w' => e = .returned (.bool true) ∧ ∃ lv' wv' es', TwE W.heap.size T lv' wv' es' (c + 1048576) (d + 1) W w' (fun _ => False) := by
  by_cases e1 : kind = 1
  · subst e1; exact step1 h hc hd htab h00 bits ao n cap l hl hn hnc hnil hr
  by_cases e2 : kind = 2
  · subst e2; exact step2 h hc hd htab h00 bits ao n cap l hl hn hnc hnil hr
  by_cases e3 : kind = 3
  · subst e3; exact step3 h hc hd htab h00 bits ao n cap l hl hn hnc hnil hr
  by_cases e4 : kind = 4
  · subst e4; exact step4 h hc hd htab h00 bits ao n cap l hl hn hnc hnil hr
  by_cases e5 : kind = 5
  · subst e5; exact step5 h hc hd htab h00 bits ao n cap l hl hn hnc hnil hr
  by_cases e6 : kind = 6
  · subst e6; exact step6 h hc hd htab h00 bits ao n cap l hl hn hnc hnil hr
  by_cases e7 : kind = 7
  · subst e7; exact step7 h hc hd htab h00 bits ao n cap l hl hn hnc hnil hr
  have i1 : ((kind : Int) == 1) = false := beq_false_of_ne e1
  have i2 : ((kind : Int) == 2) = false := beq_false_of_ne e2
  have i3 : ((kind : Int) == 3) = false := beq_false_of_ne e3
  have i4 : ((kind : Int) == 4) = false := beq_false_of_ne e4
  have i5 : ((kind : Int) == 5) = false := beq_false_of_ne e5
  have i6 : ((kind : Int) == 6) = false := beq_false_of_ne e6
  have i7 : ((kind : Int) == 7) = false := beq_false_of_ne e7
  clear e1 e2 e3 e4 e5 e6 e7
  have Hl := Lib.hid hl
  have Hn := Lib.hid hn
  have Hnc := Lib.hid hnc
  have Hnil := Lib.hid hnil
  have Hc := Lib.hid hc
  have Hd := Lib.hid hd
  have Htab := Lib.hid htab
  have H00 := Lib.hid h00
  have Hr := Lib.hid (fun w' (h : Below W.heap.size W w') => hr.below h)
  have Hrl := Lib.hid (show 0 < n → ∀ a, ao = some a → a.block < W.heap.size from fun h => hr.lt (by omega))
  have HXl : Hid (T < w.heap.size) := Lib.hid h.v.tl
  have HX := Lib.hid (HB.new w [.int .i64 kind, .int .i64 bits, .slice ao n cap] 61)
  have Hhx := Lib.hid (fun w' (hb : Below w.heap.size w w') => h.later hb)
  clear h hl hn hnc hnil hc hd htab h00 hr
  have HT0 := Lib.hid (Hhx.out _ ((Below.refl _ w).alloc (Nat.le_refl _) (.cells #[.int .i64 kind, .int .i64 bits, .slice ao n cap] 61)))
  go_enter Tryd.func33, Tryd.ntmps33
  go_upto_region 31 with fail
  as_aux_lemma =>
  have HE := Lib.hid (TwE.any HT0.out)
  generalize w.alloc (.cells #[.int .i64 kind, .int .i64 bits, .slice ao n cap] 61) = w0 at *
  clear HT0 Hhx
  go_wp2_with fail
  go_ret
  exact ⟨rfl, _, _, _, HE.out⟩
end Go.Proofs.YtngkelflfahjbaaDoor
