/- Chapter 2's law: both hashes go on from a state. No condition. -/
import Derived.Test.YtngkelflfahjbaaDoorShaTw
import Derived.Test.YtngkelflfahjbaaDoorShaRb
import Derived.Test.YtngkelflfahjbaaDoorOwnB
set_option linter.unusedVariables false
set_option linter.unusedSimpArgs false
namespace Go.Proofs.YtngkelflfahjbaaDoor
open Go.RowKit
/-- the twin, with hashes that have none of the blocks K -/
structure TwE (B T : Nat) (lv wv : Value) (es : List Ent) (c d : Nat) (W w : World) (K : Nat → Prop) : Prop where
  x : ∃ H1 H2 k st N va vb L, Tw B T H1 H2 k st N va vb lv wv L es c d W w ∧ ∀ q, pairF H1 H2 va vb q → ¬ K q
/-- a block of bytes is filled -/
structure FillIn (B g n C : Nat) (w0 : World) (i : Value) (wr : World) : Prop where
  x : ∃ (t : Nat) (l : List UInt8), t ≤ n ∧ l.length = n + 1 ∧ i = .int .i64 (t : Nat) ∧ Own 5 wr B (.slice (some ⟨g, 0, none⟩) (n + 1) C) l ∧ Frm (fun q => q = g) w0 wr
theorem fill_step {B g n C : Nat} {w0 wr : World} {l : List UInt8} (ho : Own 5 wr B (.slice (some ⟨g, 0, none⟩) (n + 1) C) l) (hl : l.length = n + 1) (hf : Frm (fun q => q = g) w0 wr) (t : Nat) (ht : t < n) (x : UInt8) :
    Own 5 (wr.setCell ⟨g, t, none⟩ (.int .u8 x.toNat)) B (.slice (some ⟨g, 0, none⟩) (n + 1) C) (l.set t x) ∧ Frm (fun q => q = g) w0 (wr.setCell ⟨g, t, none⟩ (.int .u8 x.toNat)) :=
  ⟨ho.store t x (by omega), hf.trans (Frm.grown (grown_set wr ⟨g, t, none⟩ _) (fun k h => (Option.some.inj h).symm))⟩
theorem Tw.other {B T H1 H2 k : Nat} {st : S8} {N : Nat} {va vb lv wv : Value} {L : List UInt8} {es : List Ent} {c d : Nat} {W w w' : World} (h : Tw B T H1 H2 k st N va vb lv wv L es c d W w) {K : Nat → Prop} (hf : Frm K w w') (hK : ∀ q, K q → B ≤ q) (h0 : ¬ K T) (h1 : ∀ q, pairF H1 H2 va vb q → ¬ K q) (h2 : ∀ q, lstF lv wv es q → ¬ K q) : Tw B T H1 H2 k st N va vb lv wv L es c d W w' :=
  ⟨h.t.frm hf h0, h.v.other hf hK h1 h2⟩
theorem opened_pair {B H1 H2 k nn : Nat} {v1 v2 : Value} {l : List UInt8} {w : World} (hok : OpOk l k nn) (h1 : HB w H1 67 (hashC k (stOf (wK k) l) nn v1)) (o1 : Own 5 w (H1 + 1) v1 (l.drop (9 + wK k)))
    (h2 : HB w H2 74 (rhC k (stOf (wK k) l) (nn - nn % sizeW (wK k)) v2)) (o2 : Own 5 w (H2 + 1) v2 (l.drop (9 + wK k))) (hB : B ≤ H1) (h12 : H1 < H2) (hv1 : ∀ q, v1.ownBlock = some q → q < H2) :
    Pair B H1 H2 k (stOf (wK k) l) (nn - nn % sizeW (wK k)) v1 v2 (l.drop (9 + wK k)) w := by
  have hR : (l.drop (9 + wK k)).length = nn % sizeW (wK k) := by rw [List.length_drop]; have := hok.hsz; omega
  have hlt : (l.drop (9 + wK k)).length < sizeW (wK k) := by rw [hR]; exact Nat.mod_lt _ (sizeW_pos _)
  have hg := goB_end (s := stOf (wK k) l) hlt
  have hmod := Nat.mod_le nn (sizeW (wK k))
  have hn2 := hok.hn2
  refine ⟨hok.hk, stOf_lt hok.hk l, ?_, ?_, h2, o2.mono (by omega), ?_, ?_, hB, by omega, by omega, fun e => ?_, fun e => ?_, fun e => ?_, fun e => ?_, fun q hq e => ?_⟩
  · rw [hg, hR, Nat.sub_add_cancel hmod]; exact h1
  · rw [hg]; exact o1.mono (by omega)
  · rcases size_kind hok.hk with ⟨-, -, hz⟩ | ⟨-, -, hz⟩ <;> rw [hz] <;> omega
  · rw [hR]; omega
  · have := (own_blk o1 e).1; omega
  · have := hv1 _ e; omega
  · have := (own_blk o2 e).1; omega
  · have := (own_blk o2 e).1; omega
  · have := (own_blk o2 e).1; have := hv1 _ hq; omega
set_option maxRecDepth 100000 in
set_option maxHeartbeats 1000000 in
theorem open_any {B T H1 H2 k : Nat} {st : S8} {N : Nat} {va vb lv wv : Value} {L : List UInt8} {es : List Ent} {c d : Nat} {W w : World} (h : Tw B T H1 H2 k st N va vb lv wv L es c d W w) (hc : 128 ≤ c)
    (ao : Option Addr) (n cap : Nat) (l : List UInt8) (hl : l.length = n) (hn : n ≤ 140737488352000) (hnc : n ≤ cap) (hnil : ao = none → cap = 0) (hr : Rd w ao l) (hlt : 0 < n → ∀ a, ao = some a → a.block < w.heap.size) :
    Calls Tryd.prog 46 #[.pointer (some ⟨T, 0, none⟩), .slice ao n cap] w fun e w' => e = .returned (.bool true) ∧ TwE B T lv wv es c d W w' (fun _ => False) := by
  have Hh := Lib.hid h
  have Hc := Lib.hid hc
  have Hl := Lib.hid hl
  have Hn := Lib.hid hn
  have Hnc := Lib.hid hnc
  have Hnil := Lib.hid hnil
  have Hr := Lib.hid (fun w' (h : Below w.heap.size w w') => hr.below h)
  have Hlt := Lib.hid hlt
  have Hown := Lib.hid (own_any ao n cap l w hl hn hnil hr)
  clear h hc hl hn hnc hnil hr hlt
  go_enter Tryd.func46, Tryd.ntmps46
  go_wp2_with fail
  refine Hown.out.mono ?_
  rintro e w1 ⟨g, C, rfl, hC, hC2, ho1, hb1⟩
  have HC := Lib.hid (And.intro hC hC2)
  have Ho1 := Lib.hid ho1
  have Hb1 := Lib.hid hb1
  have Hru := Lib.hid (ho1.lend Hl.out).1
  have Hg : Hid (w.heap.size ≤ g ∧ g < w1.heap.size) := Lib.hid (own_blk ho1 rfl)
  clear hC hC2 ho1 hb1 Hown
  by_cases hok : ∃ k nn, OpOk l k nn
  · obtain ⟨k', nn, hok⟩ := hok
    have hn := Hn.out
    have Hpo := Lib.hid (popen_ok (some ⟨g, 0, none⟩) n C l w1 k' nn Hl.out (by omega) (by have := HC.out; omega) (fun e => by cases e) Hru.out (fun a e => by cases e; exact Hg.out.2) hok.hk hok.hk0 hok.hn hok.hn2 (by rw [← Hl.out]; exact hok.hsz))
    have Hro := Lib.hid (fun w' (h : Below w.heap.size w w') => ropen_ok ao n cap l w' k' nn Hl.out (by omega) Hnc.out Hnil.out (Hr.out w' h) (fun a e => Nat.lt_of_lt_of_le (Hlt.out (by have := hok.h9; have := Hl.out; omega) a e) h.size) hok)
    have Hok := Lib.hid hok
    clear hok hn
    go_wp2_with fail
    as_aux_lemma =>
    refine Hpo.out.mono ?_
    rintro e w2 ⟨G1, v1, rfl, hG1, ho2, hs2, hb2⟩
    have HG1 := Lib.hid hG1
    have Ho2 := Lib.hid ho2
    have Hs2 := Lib.hid hs2
    have Hb12 : Hid (Below w1.heap.size w1 w2) := Lib.hid hb2
    have Hb2 : Hid (Below w.heap.size w w2) := Lib.hid (Hb1.out.trans (hb2.mono Hb1.out.size))
    clear hG1 ho2 hs2 hb2 Hpo
    go_wp2_with fail
    refine (Hro.out _ Hb2.out).mono ?_
    rintro e w3 ⟨G2, v2, rfl, hG2, ho3, hs3, hb3⟩
    have HP : Hid (Pair B G1 G2 k' (stOf (wK k') l) (nn - nn % sizeW (wK k')) v1 v2 (l.drop (9 + wK k')) w3) := Lib.hid (opened_pair Hok.out (HG1.out.later hb3) (Ho2.out.later hb3) hG2 ho3
      (by have := Hh.out.v.sz; have := Hb1.out.size; have := Hs2.out; omega) (Nat.lt_of_lt_of_le HG1.out.lt hs3) (fun q hq => Nat.lt_of_lt_of_le (own_blk Ho2.out hq).2 hs3))
    have HF : Hid (∀ q, pairF G1 G2 v1 v2 q → w1.heap.size ≤ q) := Lib.hid (by
      have := Hs2.out
      have := HG1.out.lt
      have := Hb12.out.size
      rintro q (rfl | rfl | hq | hq)
      · omega
      · omega
      · have := (own_blk Ho2.out hq).1; omega
      · have := (own_blk ho3 hq).1; omega)
    have Hb3 : Hid (Below w.heap.size w w3) := Lib.hid (Hb2.out.trans (hb3.mono Hb2.out.size))
    have Hou := Lib.hid ((Ho1.out.later Hb12.out).later hb3)
    clear hG2 ho3 hs3 hb3 Hro HG1 Ho2 Hs2 Hb12 Hb2 Ho1 Hru
    have Hst := Lib.hid (still_any ao g n C cap w.heap.size l w3 Hl.out Hn.out HC.out.1 (Hr.out _ Hb3.out) Hou.out)
    go_wp2_with fail
    refine Hst.out.mono ?_
    rintro e w4 ⟨rfl, hd4⟩
    have HT4 : Hid (Tv B T G1 G2 k' (stOf (wK k') l) (nn - nn % sizeW (wK k')) v1 v2 lv wv (l.drop (9 + wK k')) es c d W w4) := Lib.hid (by
      have hdl : (l.drop (9 + wK k')).length ≤ c := by
        rw [List.length_drop]
        have h1 := Hok.out.hsz
        have h2 := Nat.mod_lt nn (sizeW_pos (wK k'))
        have h3 : sizeW (wK k') ≤ 128 := by unfold sizeW; split <;> decide
        have := Hc.out
        omega
      exact (Hh.out.v.swap (K := fun _ => False) (Frm.later Hb3.out) (fun _ h => h.elim) HP.out (fun q hq => .inr (Nat.le_trans Hb1.out.size (HF.out q hq))) hdl).later (hd4.below _))
    have HTt : Hid (HB w4 T 58 (twC H1 H2 lv wv)) := Lib.hid ((Hh.out.t.later Hb3.out).drn hd4)
    have Hou4 := Lib.hid (Hou.out.later (hd4.below _))
    have HTg : Hid (T < w.heap.size) := Lib.hid Hh.out.t.lt
    have HBw : Hid (B ≤ w.heap.size) := Lib.hid Hh.out.v.sz
    have Hlst : Hid (∀ q, lstF lv wv es q → q < w.heap.size) := Lib.hid (fun q hq => (Hh.out.v.l.lt hq).2)
    generalize stOf (wK k') l = st' at *
    generalize nn - nn % sizeW (wK k') = N' at *
    generalize l.drop (9 + wK k') = L' at *
    clear hd4 HP Hb3 Hou Hst Hh Hok Hr Hlt Hnil Hnc
    have k0 := HTt.out.cell (i := 0) rfl
    have k1 := HTt.out.cell (i := 1) rfl
    have f0 := HTt.out.frozen 0
    have f1 := HTt.out.frozen 1
    have HT1 := Lib.hid ((HTt.out.set 0 (.pointer (some ⟨G1, 0, none⟩))).set 1 (.pointer (some ⟨G2, 0, none⟩)))
    have HF1 : Hid (Frm (fun q => q = T) w4 ((w4.setCell ⟨T, 0, none⟩ (.pointer (some ⟨G1, 0, none⟩))).setCell ⟨T, 1, none⟩ (.pointer (some ⟨G2, 0, none⟩)))) := Lib.hid
      ((Frm.grown (grown_set w4 ⟨T, 0, none⟩ _) (fun k h => (Option.some.inj h).symm)).trans (Frm.grown (grown_set _ ⟨T, 1, none⟩ _) (fun k h => (Option.some.inj h).symm)))
    clear HTt
    go_upto_region 10 with fail
    as_aux_lemma =>
    clear k0 k1 f0 f1
    generalize (w4.setCell ⟨T, 0, none⟩ (.pointer (some ⟨G1, 0, none⟩))).setCell ⟨T, 1, none⟩ (.pointer (some ⟨G2, 0, none⟩)) = w5 at *
    have HT5 : Hid (Tw B T G1 G2 k' st' N' v1 v2 lv wv L' es c d W w5) := Lib.hid ⟨HT1.out, HT4.out.cell HF1.out⟩
    have Hou5 := Lib.hid (Hou4.out.frm HF1.out (fun q hq e => by have h1 : g = q := Option.some.inj hq; have := Hg.out.1; have := HTg.out; omega))
    have HPg : Hid (∀ q, pairF G1 G2 v1 v2 q → ¬ q = g) := Lib.hid (fun q hq e => by have := HF.out q hq; have := Hg.out.2; omega)
    clear HT1 HT4 HF1 Hou4 HF
    go_upto_region 11 with fail
    as_aux_lemma =>
    go_loopw [11] (fun i wr => FillIn w.heap.size g n C w5 i wr) (fun i _ => n - (intOf i).toNat)
    case atStart => exact ⟨0, l ++ [77], Nat.zero_le _, by rw [List.length_append, Hl.out]; rfl, rfl, Hou5.out, Frm.refl _ _⟩
    case round =>
      as_aux_lemma =>
      obtain ⟨t, lt, ht, hlt, rfl, ho, hf⟩ := hrel
      have hn := Hn.out
      by_cases htn : t < n
      · have i1 : (t : Int) < (n : Int) := by omega
        obtain ⟨-, -, -, -, -, hc, hfz⟩ := ho.at
        have hct := hc t (by omega)
        have hft := hfz t
        have Hstep := Lib.hid (fill_step ho hlt hf t htn 99)
        have Hlt2 := Lib.hid hlt
        clear hc hfz ho hf hlt
        go_wp2_with fail
        first
        | (go_roundw
           case rel => exact ⟨t + 1, _, by omega, by rw [List.length_set]; exact Hlt2.out, by go_num, Hstep.out.1, Hstep.out.2⟩
           case measure => (first | omega | (simp [intOf] <;> omega) | (simp only [intOf] <;> omega)))
        | exact ⟨⟨t + 1, _, by omega, by rw [List.length_set]; exact Hlt2.out, by go_num, Hstep.out.1, Hstep.out.2⟩, by (first | omega | (simp [intOf] <;> omega) | (simp only [intOf] <;> omega))⟩
        | (refine ⟨?_, by (first | omega | (simp [intOf] <;> omega) | (simp only [intOf] <;> omega))⟩
           (repeat apply Exists.intro)
           refine (fun a b => And.intro b a) ?_ ?_
           · first | rfl | ((repeat refine ⟨rfl, ?_⟩); rfl)
           exact ⟨t + 1, _, by omega, by rw [List.length_set]; exact Hlt2.out, by go_num, Hstep.out.1, Hstep.out.2⟩)
      · have i1 : ¬ (t : Int) < (n : Int) := by omega
        have HF := Lib.hid (HT5.out.other hf (fun q e => by have := HBw.out; have := Hg.out; omega) (by have := HTg.out; have := Hg.out; omega) (fun q hq => HPg.out q hq) (fun q hq e => by have := Hlst.out q hq; have := Hg.out; omega))
        clear ho hf hn hlt
        go_wp2_with fail
        go_ret
        exact ⟨rfl, ⟨_, _, _, _, _, _, _, _, HF.out, fun _ _ => id⟩⟩
  · have hn := Hn.out
    have Hpo := Lib.hid (popen_bad (some ⟨g, 0, none⟩) n C l w1 Hl.out (by omega) (by have := HC.out; omega) (fun e => by cases e) Hru.out (fun _ a e => by cases e; exact Hg.out.2) hok)
    have Hro := Lib.hid (fun w' (h : Below w.heap.size w w') => ropen_bad ao n cap l w' Hl.out (by omega) Hnc.out Hnil.out (Hr.out w' h) (fun h0 a e => Nat.lt_of_lt_of_le (Hlt.out h0 a e) h.size) hok)
    clear hok hn
    go_wp2_with fail
    as_aux_lemma =>
    refine Hpo.out.mono ?_
    rintro e w2 ⟨rfl, hb2⟩
    have Hb2 : Hid (Below w.heap.size w w2) := Lib.hid (Hb1.out.trans (hb2.mono Hb1.out.size))
    have Ho2 := Lib.hid (Ho1.out.later hb2)
    clear hb2 Hpo Hru Ho1
    go_wp2_with fail
    refine (Hro.out _ Hb2.out).mono ?_
    rintro e w3 ⟨rfl, rfl⟩
    have Hst := Lib.hid (still_any ao g n C cap w.heap.size l w2 Hl.out Hn.out HC.out.1 (Hr.out _ Hb2.out) Ho2.out)
    clear Hro
    go_wp2_with fail
    refine Hst.out.mono ?_
    rintro e w5 ⟨rfl, hd5⟩
    have HT5 := Lib.hid ((Hh.out.later Hb2.out).later (hd5.below _))
    have Hou5 := Lib.hid (Ho2.out.later (hd5.below _))
    have HTg : Hid (T < w.heap.size) := Lib.hid Hh.out.t.lt
    have HBw : Hid (B ≤ w.heap.size) := Lib.hid Hh.out.v.sz
    have Hlst : Hid (∀ q, lstF lv wv es q → q < w.heap.size) := Lib.hid (fun q hq => (Hh.out.v.l.lt hq).2)
    have HPg : Hid (∀ q, pairF H1 H2 va vb q → ¬ q = g) := Lib.hid (fun q hq e => by have := (Hh.out.v.h.lt hq).2; have := Hg.out.1; omega)
    clear hd5 Hst Ho2 Hb2 Hh Hr Hlt Hnil Hnc
    go_upto_region 11 with fail
    as_aux_lemma =>
    go_loopw [11] (fun i wr => FillIn w.heap.size g n C w5 i wr) (fun i _ => n - (intOf i).toNat)
    case atStart => exact ⟨0, l ++ [77], Nat.zero_le _, by rw [List.length_append, Hl.out]; rfl, rfl, Hou5.out, Frm.refl _ _⟩
    case round =>
      as_aux_lemma =>
      obtain ⟨t, lt, ht, hlt, rfl, ho, hf⟩ := hrel
      have hn := Hn.out
      by_cases htn : t < n
      · have i1 : (t : Int) < (n : Int) := by omega
        obtain ⟨-, -, -, -, -, hc, hfz⟩ := ho.at
        have hct := hc t (by omega)
        have hft := hfz t
        have Hstep := Lib.hid (fill_step ho hlt hf t htn 99)
        have Hlt2 := Lib.hid hlt
        clear hc hfz ho hf hlt
        go_wp2_with fail
        first
        | (go_roundw
           case rel => exact ⟨t + 1, _, by omega, by rw [List.length_set]; exact Hlt2.out, by go_num, Hstep.out.1, Hstep.out.2⟩
           case measure => (first | omega | (simp [intOf] <;> omega) | (simp only [intOf] <;> omega)))
        | exact ⟨⟨t + 1, _, by omega, by rw [List.length_set]; exact Hlt2.out, by go_num, Hstep.out.1, Hstep.out.2⟩, by (first | omega | (simp [intOf] <;> omega) | (simp only [intOf] <;> omega))⟩
        | (refine ⟨?_, by (first | omega | (simp [intOf] <;> omega) | (simp only [intOf] <;> omega))⟩
           (repeat apply Exists.intro)
           refine (fun a b => And.intro b a) ?_ ?_
           · first | rfl | ((repeat refine ⟨rfl, ?_⟩); rfl)
           exact ⟨t + 1, _, by omega, by rw [List.length_set]; exact Hlt2.out, by go_num, Hstep.out.1, Hstep.out.2⟩)
      · have i1 : ¬ (t : Int) < (n : Int) := by omega
        have HF := Lib.hid (HT5.out.other hf (fun q e => by have := HBw.out; have := Hg.out; omega) (by have := HTg.out; have := Hg.out; omega) (fun q hq => HPg.out q hq) (fun q hq e => by have := Hlst.out q hq; have := Hg.out; omega))
        clear ho hf hn hlt
        go_wp2_with fail
        go_ret
        exact ⟨rfl, ⟨_, _, _, _, _, _, _, _, HF.out, fun _ _ => id⟩⟩
end Go.Proofs.YtngkelflfahjbaaDoor
