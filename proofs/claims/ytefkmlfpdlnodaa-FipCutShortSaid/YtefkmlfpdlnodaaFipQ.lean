/- A package opened, by the program. No condition. -/
import Derived.Test.YtefkmlfpdlnodaaFipP
import Derived.Test.YtefkmlfpdlnodaaCutP
set_option linter.unusedVariables false
set_option linter.unusedSimpArgs false
namespace Go.Proofs.Ytefkmlfpdlnodaa
open Go.RowKit
attribute [local go_sem ↓] build_en store_en load_en load_gu store_gu build_gu bs_en
structure OpSaid (w w' : World) (R : Option (List En) × Int) (v : Value) : Prop where
  x : (∃ es, R.1 = some es ∧ OwnS enc 32 19 w' w.heap.size v es) ∨ (R.1 = none ∧ v = .slice none 0 0)
theorem openR_head {l : List UInt8} (h : l.length < 16 ∨ 131072 < l.length ∨ getN l 0 4 false ≠ 2858680321 ∨ getN l 4 4 false = 0 ∨ getN l 8 8 false ≠ 0) : openR l = (none, 191) := by
  unfold openR; rw [if_pos h]
theorem openR_tab {l : List UInt8} (h : ¬ (l.length < 16 ∨ 131072 < l.length ∨ getN l 0 4 false ≠ 2858680321 ∨ getN l 4 4 false = 0 ∨ getN l 8 8 false ≠ 0)) {c : Int} (ht : tabR l = (none, c)) : openR l = (none, c) := by
  unfold openR; rw [if_neg h, ht]
theorem openR_chk {l : List UInt8} (h : ¬ (l.length < 16 ∨ 131072 < l.length ∨ getN l 0 4 false ≠ 2858680321 ∨ getN l 4 4 false = 0 ∨ getN l 8 8 false ≠ 0)) {es : List En} {e : Nat} {c : Int} (ht : tabR l = (some (es, e), c)) :
    openR l = if chkGo l.length e [] es = 0 then (some es, 0) else (none, chkGo l.length e [] es) := by
  unfold openR; rw [if_neg h, ht]
theorem wrap_sum (a b : Nat) : IntKind.u64.wrap ((a : Int) + (b : Int)) = (((a + b) % 18446744073709551616 : Nat) : Int) := by
  simp [IntKind.wrap, IntKind.bits, IntKind.signed]
structure ChkIn (B : Nat) (n en : Nat) (v : Value) (es : List En) (W : World) (i : Value) (wr : World) : Prop where
  x : ∃ k : Nat, k ≤ es.length ∧ i = .int .i64 k ∧ chkGo n en [] es = chkGo n en (es.take k) (es.drop k) ∧ OwnS enc 32 19 wr B v es ∧ Below B W wr ∧ B ≤ wr.heap.size
structure LapIn (B xb : Nat) (x : En) (k : Nat) (v : Value) (es : List En) (W : World) (j : Value) (wr : World) : Prop where
  x : ∃ q : Nat, q ≤ k ∧ j = .int .i64 q ∧ (es.take q).any (lap x) = false ∧ HB wr xb 32 (enc x) ∧ OwnS enc 32 19 wr B v es ∧ Below B W wr ∧ B ≤ wr.heap.size
theorem chk_none {l : List UInt8} {es : List En} {en : Nat} {c : Int} (h : openR l = if chkGo l.length en [] es = 0 then (some es, 0) else (none, chkGo l.length en [] es)) (hc : chkGo l.length en [] es = c) (h0 : c ≠ 0) : openR l = (none, c) := by
  rw [h, hc, if_neg h0]
set_option maxRecDepth 100000 in
set_option maxHeartbeats 1000000 in
theorem popen_any (ao : Option Addr) (n cap : Nat) (l : List UInt8) (w : World) (hl : l.length = n) (hcap : n ≤ cap) (hcm : n ≤ 140737488351232) (hr : Rd w ao l) :
    Calls Try.prog 10 #[.slice ao n cap] w fun e w' => ∃ v, e = .returned (.tuple #[v, .int .i64 (openR l).2]) ∧ OpSaid w w' (openR l) v ∧ Below w.heap.size w w' := by
  have HB0 := Lib.hid (Below.refl w.heap.size w)
  by_cases h16 : n < 16
  · have hres := Lib.hid (openR_head (l := l) (Or.inl (by omega)))
    have HBn := HB0
    have e1 : (n : Int) < 16 := by omega
    clear hr
    go_enter Try.func10, Try.ntmps10
    go_wp2_with fail
    go_ret2
    exact ⟨.slice none 0 0, by rw [hres.out]; rfl, ⟨Or.inr ⟨by rw [hres.out], rfl⟩⟩, HBn.out⟩
  by_cases hbig : 131072 < n
  · have hres := Lib.hid (openR_head (l := l) (Or.inr (Or.inl (by omega))))
    have HBn := HB0
    have e1 : ¬ ((n : Int) < 16) := by omega
    have e2 : (131072 : Int) < n := by omega
    clear hr
    go_enter Try.func10, Try.ntmps10
    go_wp2_with fail
    go_ret2
    exact ⟨.slice none 0 0, by rw [hres.out]; rfl, ⟨Or.inr ⟨by rw [hres.out], rfl⟩⟩, HBn.out⟩
  obtain ⟨b0, off, rfl, -⟩ := hr 0 (by omega)
  have e1 : ¬ ((n : Int) < 16) := by omega
  have e2 : ¬ ((131072 : Int) < n) := by omega
  have hn := fun (w' : World) (h : Rd w' (some ⟨b0, off, none⟩) l) => Lib.hid (pnum_ok (some ⟨b0, off, none⟩) n cap 0 4 l w' hl (by omega) h (by right; right; left; rfl) (by omega))
  have hn2 := fun (w' : World) (h : Rd w' (some ⟨b0, off, none⟩) l) => Lib.hid (pnum_ok (some ⟨b0, off, none⟩) n cap 4 4 l w' hl (by omega) h (by right; right; left; rfl) (by omega))
  have hn3 := fun (w' : World) (h : Rd w' (some ⟨b0, off, none⟩) l) => Lib.hid (pnum_ok (some ⟨b0, off, none⟩) n cap 8 8 l w' hl (by omega) h (by right; right; right; rfl) (by omega))
  have htb := fun (w' : World) (h : Rd w' (some ⟨b0, off, none⟩) l) => Lib.hid (ptable_any b0 off cap n l w' hl (by omega) (by omega) hcap (fun j hj => by obtain ⟨b, o, e, hc⟩ := h j (by omega); cases e; exact hc))
  have Hr := Lib.hid hr
  have H16 := Lib.hid h16
  have Hbig := Lib.hid hbig
  have Hl := Lib.hid hl
  have Hcap := Lib.hid hcap
  have Hn := Lib.hid hn
  have Hn2 := Lib.hid hn2
  have Hn3 := Lib.hid hn3
  have Htb := Lib.hid htb
  clear hr h16 hbig hl hcap hn hn2 hn3 htb
  go_enter Try.func10, Try.ntmps10
  go_wp2_with fail
  as_aux_lemma =>
  refine (Hn.out _ Hr.out).out.mono ?_
  rintro e w1 ⟨rfl, hd1⟩
  have Hr1 := Lib.hid (hd1.rd Hr.out)
  have HB1 := Lib.hid (hd1.below w.heap.size)
  clear hd1
  by_cases t1 : getN l 0 4 false = 2858680321
  case neg =>
    have hres := Lib.hid (openR_head (l := l) (Or.inr (Or.inr (Or.inl t1))))
    have HBn := HB1
    generalize getN l 0 4 false = g at *
    have e3 : ((g : Int) == 2858680321) = false := beq_eq_false_iff_ne.2 (by omega)
    have e4 : ((g : Int) != 2858680321) = true := by rw [bne, e3]; rfl
    clear t1
    go_wp2_with fail
    go_ret2
    exact ⟨.slice none 0 0, by rw [hres.out]; rfl, ⟨Or.inr ⟨by rw [hres.out], rfl⟩⟩, HBn.out⟩
  rw [t1]
  have T1 := Lib.hid t1
  clear t1
  go_wp2_with fail
  as_aux_lemma =>
  refine (Hn2.out _ Hr1.out).out.mono ?_
  rintro e w2 ⟨rfl, hd1⟩
  have Hr2 := Lib.hid (hd1.rd Hr1.out)
  have HB2 := Lib.hid (HB1.out.trans (hd1.below _))
  clear hd1
  by_cases t2 : getN l 4 4 false = 0
  case pos =>
    have hres := Lib.hid (openR_head (l := l) (Or.inr (Or.inr (Or.inr (Or.inl t2)))))
    have HBn := HB2
    rw [t2]
    clear t2
    go_wp2_with fail
    go_ret2
    exact ⟨.slice none 0 0, by rw [hres.out]; rfl, ⟨Or.inr ⟨by rw [hres.out], rfl⟩⟩, HBn.out⟩
  have T2 := Lib.hid t2
  have Hres2 := Lib.hid t2
  obtain ⟨g, hg⟩ : ∃ g, getN l 4 4 false = g := ⟨_, rfl⟩
  rw [hg] at t2 ⊢
  have e3 : ((g : Int) == 0) = false := beq_eq_false_iff_ne.2 (by omega)
  have e4 : ((g : Int) != 0) = true := by rw [bne, e3]; rfl
  clear t2 hg
  go_wp2_with fail
  as_aux_lemma =>
  clear e3 e4
  refine (Hn3.out _ Hr2.out).out.mono ?_
  rintro e w3 ⟨rfl, hd1⟩
  have Hr3 := Lib.hid (hd1.rd Hr2.out)
  have HB3 := Lib.hid (HB2.out.trans (hd1.below _))
  clear hd1
  by_cases t3 : getN l 8 8 false = 0
  case neg =>
    have hres := Lib.hid (openR_head (l := l) (Or.inr (Or.inr (Or.inr (Or.inr t3)))))
    have HBn := HB3
    generalize getN l 8 8 false = g at *
    have e3 : ((g : Int) == 0) = false := beq_eq_false_iff_ne.2 (by omega)
    have e4 : ((g : Int) != 0) = true := by rw [bne, e3]; rfl
    clear t3
    go_wp2_with fail
    go_ret2
    exact ⟨.slice none 0 0, by rw [hres.out]; rfl, ⟨Or.inr ⟨by rw [hres.out], rfl⟩⟩, HBn.out⟩
  rw [t3]
  have Hnh : Hid (¬ (l.length < 16 ∨ 131072 < l.length ∨ getN l 0 4 false ≠ 2858680321 ∨ getN l 4 4 false = 0 ∨ getN l 8 8 false ≠ 0)) := Lib.hid (by
    rw [Hl.out]
    rintro (h | h | h | h | h)
    · exact H16.out h
    · exact Hbig.out h
    · exact h T1.out
    · exact T2.out h
    · exact h t3)
  clear t3
  go_wp2_with fail
  as_aux_lemma =>
  refine (Htb.out _ Hr3.out).out.mono ?_
  rintro e w4 ⟨v, en, rfl, hsaid, hb4⟩
  have HB4 := Lib.hid (HB3.out.trans (hb4.mono HB3.out.size))
  rcases hsaid.x with ⟨es, hes, hown⟩ | ⟨hno, rfl, rfl⟩
  case inr =>
    have htr : tabR l = (none, (tabR l).2) := Prod.ext hno rfl
    have hres := Lib.hid (openR_tab Hnh.out htr)
    have hne := tabGo_none _ _ _ htr
    have HBn := HB4
    generalize (tabR l).2 = c at *
    have e3 : (c == 0) = false := beq_eq_false_iff_ne.2 hne
    have e4 : (c != 0) = true := by rw [bne, e3]; rfl
    clear hno htr hne hsaid hb4
    go_wp2_with fail
    go_ret2
    exact ⟨.slice none 0 0, by rw [hres.out]; rfl, ⟨Or.inr ⟨by rw [hres.out], rfl⟩⟩, HBn.out⟩
  have htr : tabR l = (some (es, en), (tabR l).2) := Prod.ext hes rfl
  obtain ⟨h0, h32, hok, hen, -⟩ := tabR_ok htr
  have Hchk := Lib.hid (openR_chk Hnh.out htr)
  rw [h0]
  have HO4 := Lib.hid (hown.mono HB3.out.size)
  have Hok := Lib.hid hok
  have H32 := Lib.hid h32
  have Hen := Lib.hid hen
  clear hes htr h0 hok hown hsaid hb4 h32 hen
  obtain ⟨ao2, cp, rfl, hcp, hcm2, -, -⟩ := HO4.out.rd enc_len
  go_wp2_with fail
  as_aux_lemma =>
  clear hcp hcm2
  obtain ⟨B, hB⟩ : ∃ B, w.heap.size = B := ⟨_, rfl⟩
  rw [hB] at HO4 HB4
  have HBx := Lib.hid hB
  clear hB
  go_loopw [45] (fun i wr => ChkIn B n en (.slice ao2 es.length cp) es w i wr) (fun i _ => es.length - (intOf i).toNat)
  case atStart => exact ⟨0, by omega, rfl, by rw [List.take_zero, List.drop_zero], HO4.out, HB4.out, by have := HB4.out.size; rw [HBx.out] at this; exact this⟩
  case round =>
    as_aux_lemma =>
    clear HO4 HB4
    obtain ⟨k, hk, rfl, hgo, hown, hb, hs⟩ := hrel
    have Hgo := Lib.hid hgo
    have HO := Lib.hid hown
    have Hb := Lib.hid hb
    have Hs := Lib.hid hs
    clear hgo hown hb hs
    by_cases hlt : k < es.length
    · obtain ⟨x, hx⟩ : ∃ x, es[k]? = some x := ⟨_, List.getElem?_eq_getElem hlt⟩
      obtain ⟨g, cp', he', hg1, hg2, hg3, hg4, hg5, hg6⟩ : ∃ g cp', Value.slice ao2 es.length cp = .slice (some ⟨g, 0, none⟩) es.length cp' ∧ B ≤ g ∧ g < wr.heap.size ∧ es.length ≤ cp' ∧ cp' ≤ maxLen ∧ (∀ j x, es[j]? = some x → ∀ i u, (enc x)[i]? = some u → wr.cell? ⟨g, j * 19 + i, none⟩ = some u) ∧ (∀ j, wr.frozen? ⟨g, j, none⟩ = false) := by
        rcases HO.out.cases enc_len with ⟨_, h⟩ | h
        · rw [h] at hlt; simp at hlt
        · exact h
      cases he'
      have hle := run_loadEn (w := wr) (b := g) (o := k * 19) (e := x) (fun j u hj => hg5 k x hx j u hj)
      have Hcell := Lib.hid hg5
      have Hg := Lib.hid hg1
      have Hg2 := Lib.hid hg2
      have Hg3 := Lib.hid hg3
      have hst := fresh_st wr x
      have Hfh := Lib.hid (fresh_hb wr x)
      have Hfb := Lib.hid (fresh_below wr x)
      have Hxo := Lib.hid (Hok.out x (List.mem_of_getElem? hx))
      have Hdr : Hid (es.drop k = x :: es.drop (k + 1)) := Lib.hid (by
        have h1 := List.getElem?_eq_some_iff.1 hx
        rw [List.drop_eq_getElem_cons h1.1, h1.2])
      have Htk : Hid (es.take (k + 1) = es.take k ++ [x]) := Lib.hid (by rw [List.take_add_one, hx]; rfl)
      have HBf := Lib.hid (Hb.out.trans (Hfb.out.mono Hs.out))
      have Hsf : Hid (B ≤ (freshEn wr x).heap.size) := Lib.hid (Nat.le_trans Hs.out Hfb.out.size)
      have HOf := Lib.hid (HO.out.later Hfb.out)
      have hc16 := Hfh.out.cell (enc_off x)
      have hc17 := Hfh.out.cell (enc_sz x)
      have Hft := Lib.hid (fun w => fits_any x.off x.sz n w Hxo.out.o Hxo.out.s (by have := Hbig.out; omega))
      have Hgx : Hid (g ≠ wr.heap.size) := Lib.hid (by have := Hg2.out; omega)
      have e0 : (0 : Int) ≤ (k : Int) := by omega
      have e5 : (k : Int) < (es.length : Int) := by omega
      have e7 : (k : Int) ≤ (cp : Int) := by have := Hg3.out; omega
      have e6 : IntKind.u64.wrap (n : Int) = (n : Int) := IntWalk.u64_in _ (by have := Hbig.out; omega)
      have Hlt := Lib.hid hlt
      have Hk := Lib.hid hk
      clear hg1 hg2 hg3 hg4 hg5 hg6 hx hlt hk
      obtain ⟨so, hso⟩ : ∃ so, x.off = so := ⟨_, rfl⟩
      obtain ⟨ss, hss⟩ : ∃ ss, x.sz = ss := ⟨_, rfl⟩
      rw [hso] at hc16
      rw [hss] at hc17
      rw [hso, hss] at Hft
      have Hso := Lib.hid hso
      have Hss := Lib.hid hss
      by_cases hz : ss = 0
      · have hres := Lib.hid (chk_none Hchk.out (c := 193) (by rw [Hl.out, Hgo.out, Hdr.out, chkGo, if_pos (by unfold badE; rw [hss, decide_eq_true hz]; rfl)]) (by decide))
        subst hz
        clear hso hss
        go_wp2_with fail
        go_ret2
        exact ⟨.slice none 0 0, by rw [hres.out]; rfl, ⟨Or.inr ⟨by rw [hres.out], rfl⟩⟩, by rw [HBx.out]; exact HBf.out⟩
      have z1 : ((ss : Int) == 0) = false := beq_eq_false_iff_ne.2 (by omega)
      by_cases ho : so < en
      · have hres := Lib.hid (chk_none Hchk.out (c := 193) (by rw [Hl.out, Hgo.out, Hdr.out, chkGo, if_pos (by unfold badE; rw [hso, decide_eq_true ho]; simp)]) (by decide))
        have o1 : (so : Int) < (en : Int) := by omega
        clear hso hss ho hz
        go_wp2_with fail
        go_ret2
        exact ⟨.slice none 0 0, by rw [hres.out]; rfl, ⟨Or.inr ⟨by rw [hres.out], rfl⟩⟩, by rw [HBx.out]; exact HBf.out⟩
      have o1 : ¬ ((so : Int) < (en : Int)) := by omega
      by_cases hf : fitsB so ss n = true
      case neg =>
        have hres := Lib.hid (chk_none Hchk.out (c := 193) (by
          rw [Hl.out, Hgo.out, Hdr.out, chkGo, if_pos]
          unfold fitsB at hf
          unfold badE
          rw [hso, hss]
          simp at hf ⊢
          omega) (by decide))
        have hf' : fitsB so ss n = false := by simpa using hf
        clear hso hss ho hz hf
        go_wp2_with fail
        refine (Hft.out _).mono ?_
        rintro e w' ⟨rfl, rfl⟩
        rw [hf']
        go_wp2_with fail
        go_ret2
        exact ⟨.slice none 0 0, by rw [hres.out]; rfl, ⟨Or.inr ⟨by rw [hres.out], rfl⟩⟩, by rw [HBx.out]; exact HBf.out⟩
      have Hnb : Hid (badE n en x = false) := Lib.hid (by
        unfold fitsB at hf
        unfold badE
        rw [hso, hss]
        simp at hf ⊢
        omega)
      have hso2 := hso
      clear hso hss ho hz
      go_wp2_with fail
      refine (Hft.out _).mono ?_
      rintro e w' ⟨rfl, rfl⟩
      rw [hf]
      have Hf := Lib.hid hf
      clear hf z1 o1 hle hst Hft
      go_wp2_with fail
      as_aux_lemma =>
      clear hc16 hc17
      generalize freshEn wr x = w5 at *
      obtain ⟨xb, hxb⟩ : ∃ xb, wr.heap.size = xb := ⟨_, rfl⟩
      rw [hxb] at Hgx Hfh ⊢
      clear Hfb Hcell Hg2 hxb Hb Hs HO
      obtain ⟨X, hX⟩ : ∃ X : Nat, (so + ss) % 18446744073709551616 = X := ⟨_, rfl⟩
      have wX : IntKind.u64.wrap ((so : Int) + (ss : Int)) = (X : Int) := by rw [wrap_sum, hX]
      have HX := Lib.hid hX
      clear hX
      go_loopw [74] (fun j wr => LapIn B xb x k (.slice (some ⟨g, 0, none⟩) es.length cp) es w j wr) (fun j _ => k - (intOf j).toNat)
      case atStart => exact ⟨0, by omega, rfl, by rw [List.take_zero]; rfl, Hfh.out, HOf.out, HBf.out, Hsf.out⟩
      case round =>
        as_aux_lemma =>
        clear Hfh HOf HBf Hsf
        obtain ⟨q, hq, rfl, hany, hx, hown, hb, hs⟩ := hrel
        have HX1 := Lib.hid hx
        have HO1 := Lib.hid hown
        have HB1x := Lib.hid hb
        have HS1 := Lib.hid hs
        have Hany := Lib.hid hany
        clear hx hown hb hs hany
        by_cases hlt : q < k
        · obtain ⟨y, hy⟩ : ∃ y, es[q]? = some y := ⟨_, List.getElem?_eq_getElem (by have := Hlt.out; omega)⟩
          obtain ⟨g', cp', he', -, hg2, -, -, hg5, -⟩ : ∃ g' cp', Value.slice (some ⟨g, 0, none⟩) es.length cp = .slice (some ⟨g', 0, none⟩) es.length cp' ∧ B ≤ g' ∧ g' < wr.heap.size ∧ es.length ≤ cp' ∧ cp' ≤ maxLen ∧ (∀ j x, es[j]? = some x → ∀ i u, (enc x)[i]? = some u → wr.cell? ⟨g', j * 19 + i, none⟩ = some u) ∧ (∀ j, wr.frozen? ⟨g', j, none⟩ = false) := by
            rcases HO1.out.cases enc_len with ⟨h, _⟩ | h
            · cases h
            · exact h
          cases he'
          have hle := run_loadEn (w := wr) (b := g) (o := q * 19) (e := y) (fun j u hj => hg5 q y hy j u hj)
          have hst := fresh_st wr y
          have Hfh := Lib.hid (fresh_hb wr y)
          have Hfb := Lib.hid (fresh_below wr y)
          have HXf := Lib.hid (HX1.out.later Hfb.out)
          have HOf := Lib.hid (HO1.out.later Hfb.out)
          have HBf := Lib.hid (HB1x.out.trans (Hfb.out.mono HS1.out))
          have Hsf : Hid (B ≤ (freshEn wr y).heap.size) := Lib.hid (Nat.le_trans HS1.out Hfb.out.size)
          have hc16 := Hfh.out.cell (enc_off y)
          have hc17 := Hfh.out.cell (enc_sz y)
          have hd16 := HXf.out.cell (enc_off x)
          have hd17 := HXf.out.cell (enc_sz x)
          rw [Hso.out] at hd16
          rw [Hss.out] at hd17
          have Htq : Hid (es.take (q + 1) = es.take q ++ [y]) := Lib.hid (by rw [List.take_add_one, hy]; rfl)
          have f0 : (0 : Int) ≤ (q : Int) := by omega
          have f1 : (q : Int) < (k : Int) := by omega
          have f2 : (q : Int) < (es.length : Int) := by have := Hlt.out; omega
          have f3 : (q : Int) < 32 := by have := Hlt.out; have := H32.out; omega
          have Hlap : Hid (lap x y = (decide (so < (y.off + y.sz) % 18446744073709551616) && decide (y.off < X))) := Lib.hid (by unfold lap; rw [Hso.out, Hss.out, HX.out])
          have Hmem : Hid (y ∈ es.take k) := Lib.hid (List.mem_of_getElem? (show (es.take k)[q]? = some y by rw [List.getElem?_take_of_lt hlt]; exact hy))
          obtain ⟨yo, hyo⟩ : ∃ yo, y.off = yo := ⟨_, rfl⟩
          obtain ⟨ys, hys⟩ : ∃ ys, y.sz = ys := ⟨_, rfl⟩
          obtain ⟨Y, hY⟩ : ∃ Y : Nat, (yo + ys) % 18446744073709551616 = Y := ⟨_, rfl⟩
          rw [hyo, hys, hY] at Hlap
          rw [hyo] at hc16
          rw [hys] at hc17
          have wY : IntKind.u64.wrap ((yo : Int) + (ys : Int)) = (Y : Int) := by rw [wrap_sum, hY]
          have Hq := Lib.hid hq
          clear hy hyo hys hY hg5 hg2 hlt hq
          by_cases a1 : so < Y
          · by_cases a2 : yo < X
            · have hl : lap x y = true := by rw [Hlap.out, decide_eq_true a1, decide_eq_true a2]; rfl
              have hres := Lib.hid (chk_none Hchk.out (c := 194) (by rw [Hl.out, Hgo.out, Hdr.out, chkGo, if_neg (by rw [Hnb.out]; decide), if_pos (List.any_eq_true.2 ⟨y, Hmem.out, hl⟩)]) (by decide))
              have b1 : (so : Int) < (Y : Int) := by omega
              have b2 : (yo : Int) < (X : Int) := by omega
              clear a1 a2 hl
              go_wp2_with fail
              go_ret2
              exact ⟨.slice none 0 0, by rw [hres.out]; rfl, ⟨Or.inr ⟨by rw [hres.out], rfl⟩⟩, by rw [HBx.out]; exact HBf.out⟩
            · have hl : lap x y = false := by rw [Hlap.out, decide_eq_true a1, decide_eq_false a2]; rfl
              have Hn1 : Hid ((es.take (q + 1)).any (lap x) = false) := Lib.hid (by rw [Htq.out, List.any_append, Hany.out]; simp [hl])
              have b1 : (so : Int) < (Y : Int) := by omega
              have b2 : ¬ ((yo : Int) < (X : Int)) := by omega
              clear a1 a2 hl
              go_wp2_with fail
              first
              | (go_roundw
                 case rel => exact ⟨q + 1, by omega, by go_num, Hn1.out, HXf.out, HOf.out, HBf.out, Hsf.out⟩
                 case measure => (first | omega | (simp [intOf] <;> omega) | (simp only [intOf] <;> omega)))
              | exact ⟨⟨q + 1, by omega, by go_num, Hn1.out, HXf.out, HOf.out, HBf.out, Hsf.out⟩, by (first | omega | (simp [intOf] <;> omega) | (simp only [intOf] <;> omega))⟩
              | (refine ⟨?_, by (first | omega | (simp [intOf] <;> omega) | (simp only [intOf] <;> omega))⟩
                 (repeat apply Exists.intro)
                 refine (fun a b => And.intro b a) ?_ ?_
                 · first | rfl | ((repeat refine ⟨rfl, ?_⟩); rfl)
                 exact ⟨q + 1, by omega, by go_num, Hn1.out, HXf.out, HOf.out, HBf.out, Hsf.out⟩)
          · have hl : lap x y = false := by rw [Hlap.out, decide_eq_false a1]; rfl
            have Hn1 : Hid ((es.take (q + 1)).any (lap x) = false) := Lib.hid (by rw [Htq.out, List.any_append, Hany.out]; simp [hl])
            have b1 : ¬ ((so : Int) < (Y : Int)) := by omega
            clear a1 hl
            go_wp2_with fail
            first
            | (go_roundw
               case rel => exact ⟨q + 1, by omega, by go_num, Hn1.out, HXf.out, HOf.out, HBf.out, Hsf.out⟩
               case measure => (first | omega | (simp [intOf] <;> omega) | (simp only [intOf] <;> omega)))
            | exact ⟨⟨q + 1, by omega, by go_num, Hn1.out, HXf.out, HOf.out, HBf.out, Hsf.out⟩, by (first | omega | (simp [intOf] <;> omega) | (simp only [intOf] <;> omega))⟩
            | (refine ⟨?_, by (first | omega | (simp [intOf] <;> omega) | (simp only [intOf] <;> omega))⟩
               (repeat apply Exists.intro)
               refine (fun a b => And.intro b a) ?_ ?_
               · first | rfl | ((repeat refine ⟨rfl, ?_⟩); rfl)
               exact ⟨q + 1, by omega, by go_num, Hn1.out, HXf.out, HOf.out, HBf.out, Hsf.out⟩)
        · obtain rfl : q = k := by omega
          have Hnx : Hid (chkGo n en [] es = chkGo n en (es.take (q + 1)) (es.drop (q + 1))) := Lib.hid (by
            rw [Hgo.out, Hdr.out, chkGo, if_neg (by rw [Hnb.out]; decide), if_neg (by rw [Hany.out]; decide), Htk.out])
          clear hlt
          have f3 : (q : Int) < 32 := by have := Hlt.out; have := H32.out; omega
          go_wp2_with fail
          first
          | (go_roundw
             case rel => exact ⟨q + 1, by have := Hlt.out; omega, by go_num, Hnx.out, HO1.out, HB1x.out, HS1.out⟩
             case measure => (first | omega | (simp [intOf] <;> omega) | (simp only [intOf] <;> omega)))
          | exact ⟨⟨q + 1, by have := Hlt.out; omega, by go_num, Hnx.out, HO1.out, HB1x.out, HS1.out⟩, by (first | omega | (simp [intOf] <;> omega) | (simp only [intOf] <;> omega))⟩
          | (refine ⟨?_, by (first | omega | (simp [intOf] <;> omega) | (simp only [intOf] <;> omega))⟩
             (repeat apply Exists.intro)
             refine (fun a b => And.intro b a) ?_ ?_
             · first | rfl | ((repeat refine ⟨rfl, ?_⟩); rfl)
             exact ⟨q + 1, by have := Hlt.out; omega, by go_num, Hnx.out, HO1.out, HB1x.out, HS1.out⟩)
    · obtain rfl : k = es.length := by omega
      have hc0 : chkGo l.length en [] es = 0 := by
        rw [Hl.out, Hgo.out, List.drop_of_length_le (Nat.le_refl _)]; rfl
      have hres := Lib.hid (Hchk.out.trans (if_pos hc0))
      clear hlt hc0
      go_wp2_with fail
      go_ret2
      exact ⟨_, by rw [hres.out]; rfl, ⟨Or.inl ⟨es, by rw [hres.out], by rw [HBx.out]; exact HO.out⟩⟩, by rw [HBx.out]; exact Hb.out⟩
end Go.Proofs.Ytefkmlfpdlnodaa
