/- Any bytes are opened just if they are a state, and told again as the same bytes: the walk. No condition. -/
import Derived.Test.YtngkelflfahjbaaDoorShaRb
import Derived.Test.YtngkelflfahjbaaDoorShaG
import Derived.Test.YtngkelflfahjbaaDoorShaA
import Derived.Test.YtngkelflfahjbaaDoorSame2
import Derived.Test.YtngkelflfahjbaaDoorOpen
import Derived.Test.YtngkelflfahjbaaDoorShaTab
namespace Go.Proofs.YtngkelflfahjbaaDoor.shaOpens
open Go.ChangeShapes Go.WideShapes Go.ChangeAt Go.RowKit
set_option linter.unusedVariables false
set_option linter.unusedSimpArgs false
/-- both hashes, in a world -/
structure Both (B H1 H2 k : Nat) (cs rs : List Value) (va vb : Value) (ra rb : List UInt8) (W w : World) : Prop where
  h1 : HB w H1 67 cs
  h2 : HB w H2 74 rs
  oa : Own 5 w (H1 + 1) va ra
  ob : Own 5 w (H2 + 1) vb rb
  lt : B ≤ H1 ∧ H1 < H2
  na : va.ownBlock ≠ some H2
  nb : ∀ q, va.ownBlock = some q → vb.ownBlock ≠ some q
  bl : Below B W w
  sz : B ≤ w.heap.size
theorem Both.later {B H1 H2 k : Nat} {cs rs : List Value} {va vb : Value} {ra rb : List UInt8} {W w w' : World} (h : Both B H1 H2 k cs rs va vb ra rb W w) (hb : Below w.heap.size w w') : Both B H1 H2 k cs rs va vb ra rb W w' :=
  ⟨h.h1.later hb, h.h2.later hb, h.oa.later hb, h.ob.later hb, h.lt, h.na, h.nb, h.bl.trans (hb.mono h.sz), Nat.le_trans h.sz hb.size⟩
theorem Both.drn {B H1 H2 k : Nat} {cs rs : List Value} {va vb : Value} {ra rb : List UInt8} {W w w' : World} (h : Both B H1 H2 k cs rs va vb ra rb W w) (hd : Drn w w') : Both B H1 H2 k cs rs va vb ra rb W w' := h.later (hd.below _)
/-- the first has taken bytes in -/
theorem Both.wroteA {B H1 H2 k : Nat} {cs cs' rs : List Value} {va va' vb : Value} {ra ra' rb : List UInt8} {W w w' : World} (h : Both B H1 H2 k cs rs va vb ra rb W w) (hh : HB w' H1 67 cs') (ho : Own 5 w' w.heap.size va' ra') (hf : Frm (fun q => q = H1) w w') : Both B H1 H2 k cs' rs va' vb ra' rb W w' := by
  have hl := h.lt
  refine ⟨hh, h.h2.frm hf (by omega), ho.mono (by have := h.h1.lt; omega), h.ob.frm hf (fun q hq e => by have := (own_blk h.ob hq).1; omega), h.lt, fun e => ?_, fun q hq e => ?_, h.bl.trans (hf.below h.sz (fun q hq => by omega)), Nat.le_trans h.sz hf.size⟩
  · have := (own_blk ho e).1
    have := h.h2.lt
    omega
  · have := (own_blk ho hq).1
    have := (own_blk h.ob e).2
    omega
/-- the second has taken bytes in -/
theorem Both.wroteB {B H1 H2 k : Nat} {cs rs rs' : List Value} {va vb vb' : Value} {ra rb rb' : List UInt8} {W w w' : World} (h : Both B H1 H2 k cs rs va vb ra rb W w) (hh : HB w' H2 74 rs') (ho : Own 5 w' (H2 + 1) vb' rb') (hf : Frm (wroteF H2 vb) w w')
    (hk : ∀ q, vb'.ownBlock = some q → vb.ownBlock = some q ∨ w.heap.size ≤ q) : Both B H1 H2 k cs rs' va vb' ra rb' W w' := by
  have hl := h.lt
  refine ⟨h.h1.frm hf (fun e => ?_), hh, h.oa.frm hf (fun q hq e => ?_), ho, h.lt, h.na, fun q hq e => ?_, h.bl.trans (hf.below h.sz (fun q hq => ?_)), Nat.le_trans h.sz hf.size⟩
  · rcases e with e | e
    · omega
    · have := (own_blk h.ob e).1; omega
  · rcases e with e | e
    · subst e; exact h.na hq
    · exact h.nb q hq e
  · rcases hk q e with e2 | e2
    · exact h.nb q hq e2
    · have := (own_blk h.oa hq).2; omega
  · rcases hq with e | e
    · omega
    · have := (own_blk h.ob e).1; omega
set_option maxRecDepth 100000 in
set_option maxHeartbeats 1000000 in
theorem core (W : World) (ao : Option Addr) (n cap : Nat) (l : List UInt8) (mo : Option Addr) (mn mc : Nat) (ml : List UInt8) (hl : l.length = n) (hn : n ≤ cap) (hcap : cap ≤ 140737488351232) (hr : Rd W ao l) (hnil : ao = none → cap = 0)
    (hml : ml.length = mn) (hmn : mn ≤ 140737488351232) (hmr : Rd W mo ml) (hmnil : mo = none → mc = 0) (htab : TabOk W) (h00 : 0 < W.heap.size) :
    Calls Tryd.prog 5 #[.slice ao n cap, .slice mo mn mc] W fun e w' => e = .returned (.bool true) ∧ Below W.heap.size W w' := by
  have Haw := Lib.hid (awake02_any W htab h00)
  have hltW : 0 < n → ∀ a, ao = some a → a.block < W.heap.size := fun h => hr.lt (by omega)
  have Hl := Lib.hid hl
  have Hn := Lib.hid hn
  have Hcap := Lib.hid hcap
  have Hr := Lib.hid hr
  have Hnil := Lib.hid hnil
  have Hml := Lib.hid hml
  have Hmn := Lib.hid hmn
  have Hmr := Lib.hid hmr
  have Hmnil := Lib.hid hmnil
  have Htab := Lib.hid htab
  have H00 := Lib.hid h00
  have HltW := Lib.hid hltW
  clear hl hn hcap hr hnil hml hmn hmr hmnil htab h00 hltW
  go_enter Tryd.func5, Tryd.ntmps5
  go_wp2_with fail
  refine Haw.out.mono ?_
  rintro e w1 ⟨rfl, hb1⟩
  have Hb1 := Lib.hid hb1
  have Hr1 := Lib.hid (Hr.out.below hb1)
  have Hlt1 : Hid (0 < n → ∀ a, ao = some a → a.block < w1.heap.size) := Lib.hid (fun h a e => Nat.lt_of_lt_of_le (HltW.out h a e) hb1.size)
  clear hb1 Haw HltW
  by_cases hok : ∃ k nn, OpOk l k nn
  · obtain ⟨k, nn, hok⟩ := hok
    have h9 := hok.h9
    rw [Hl.out] at h9
    have hcap := Hcap.out
    have hnc := Hn.out
    have Hpo := Lib.hid (popen_ok ao n cap l w1 k nn Hl.out (by omega) hnc Hnil.out Hr1.out (Hlt1.out (by omega)) hok.hk hok.hk0 hok.hn hok.hn2 (by rw [← Hl.out]; exact hok.hsz))
    have Hro := Lib.hid (fun w' (h : Below w1.heap.size w1 w') => ropen_ok ao n cap l w' k nn Hl.out (by omega) hnc Hnil.out (Hr1.out.below h) (fun a e => Nat.lt_of_lt_of_le (Hlt1.out (by omega) a e) h.size) hok)
    have Hsl := Lib.hid (stateL_stOf hok.hk l hok.hk0 hok.hn (by have := hok.hsz; omega))
    have Hst := Lib.hid (stOf_lt hok.hk l)
    have hsz := hok.hsz
    have hszl : sizeW (wK k) ≤ 128 := by unfold sizeW; split <;> decide
    have hmod := Nat.mod_lt nn (sizeW_pos (wK k))
    have hmodle := Nat.mod_le nn (sizeW (wK k))
    obtain ⟨R, hR⟩ : ∃ R, nn % sizeW (wK k) = R := ⟨_, rfl⟩
    rw [hR] at hsz hmod hmodle Hro
    obtain ⟨N0, hN0⟩ : ∃ N0, nn - R = N0 := ⟨_, rfl⟩
    rw [hN0] at Hro
    have Hrl : Hid ((l.drop (9 + wK k)).length = R) := Lib.hid (by rw [List.length_drop]; omega)
    have HR : Hid (R ≤ 128 ∧ N0 + R = nn ∧ nn ≤ 2305843009213693951) := Lib.hid (by have := hok.hn2; omega)
    have Hk := Lib.hid hok.hk
    generalize stOf (wK k) l = st at *
    generalize l.drop (9 + wK k) = rest at *
    clear hok h9 hcap hnc hsz hszl hmod hmodle hR hN0
    go_wp2_with fail
    as_aux_lemma =>
    refine Hpo.out.mono ?_
    rintro e w2 ⟨H1, v1, rfl, hH1, ho1, hs1, hb2⟩
    have HH1 := Lib.hid hH1
    have Ho1 := Lib.hid ho1
    have Hb2 := Lib.hid hb2
    have Hs1 := Lib.hid hs1
    clear hH1 ho1 hs1 hb2 Hpo
    go_wp2_with fail
    refine (Hro.out _ Hb2.out).mono ?_
    rintro e w3 ⟨H2, v2, rfl, hH2, ho2, hs2, hb3⟩
    have HT3 : Hid (Both W.heap.size H1 H2 k (hashC k st nn v1) (rhC k st N0 v2) v1 v2 rest rest W w3) := Lib.hid (by
      have h1 := Hb1.out.size
      have h2 := Hb2.out.size
      have h3 := Hs1.out
      have h4 := HH1.out.lt
      refine ⟨HH1.out.later hb3, hH2, Ho1.out.later hb3, ho2, ⟨by omega, by omega⟩, fun e => ?_, fun q hq e => ?_, Hb1.out.trans ((Hb2.out.trans (hb3.mono h2)).mono h1), by have := hb3.size; omega⟩
      · have := (own_blk Ho1.out e).2; omega
      · have := (own_blk Ho1.out hq).2
        have := (own_blk ho2 e).1
        omega)
    clear hH2 ho2 hs2 hb3 HH1 Ho1 Hb2 Hs1 Hro Hlt1 Hr1 Hb1
    obtain ⟨va, vc, hva, va1, va2, va3, va4, va5⟩ := HT3.out.oa.rd3
    obtain ⟨ua, uc, hua, -, -, -, -, -⟩ := HT3.out.ob.rd3
    rw [Hrl.out] at hva hua
    subst hva
    subst hua
    have Hps := Lib.hid (pstate_any H1 k st nn va R vc rest w3 Hk.out HT3.out.h1 Hrl.out (by have := HR.out; omega) va4 va3)
    clear va1 va2 va3 va4 va5
    go_wp2_with fail
    as_aux_lemma =>
    refine Hps.out.mono ?_
    rintro e w4 ⟨v4, rfl, ho4, hb4⟩
    rw [Hsl.out] at ho4
    obtain ⟨a4, c4, rfl, -, -, r4, -, -⟩ := ho4.rd3
    have HT4 := Lib.hid (HT3.out.later hb4)
    have Hsm := Lib.hid (same2_true a4 ao l.length n c4 cap l l w4 rfl rfl Hl.out (by have := Hl.out; have := Hn.out; have := Hcap.out; omega) (by have := Hn.out; have := Hcap.out; omega) r4 (Hr.out.below HT4.out.bl))
    clear ho4 hb4 r4 Hps HT3
    go_wp2_with fail
    refine Hsm.out.mono ?_
    rintro e w5 ⟨rfl, hd5⟩
    have HT5 := Lib.hid (HT4.out.drn hd5)
    clear hd5 HT4 Hsm
    obtain ⟨va', vc', hva, va1, va2, va3, va4, va5⟩ := HT5.out.oa.rd3
    obtain ⟨e1, -, e3⟩ := Value.slice.inj hva
    subst e1
    subst e3
    obtain ⟨ua', uc', hua, ua1, ua2, ua3, ua4, ua5⟩ := HT5.out.ob.rd3
    obtain ⟨e4, -, e6⟩ := Value.slice.inj hua
    subst e4
    subst e6
    have hR := HR.out
    have hmn := Hmn.out
    by_cases hfit : nn + mn ≤ 2305843009213693951
    · have Hpw := Lib.hid (pwrite_any H1 k st nn va R vc rest mo mn mc ml w5 Hk.out HT5.out.h1 Hst.out Hrl.out va4 va3 (fun a e => by have := (va5 a e).1; omega) Hml.out Hmnil.out (Rd.far Hmr.out HT5.out.bl HT5.out.lt.1) hR.2.2 hfit (by omega) (Htab.out.below HT5.out.bl) (by have := HT5.out.lt; have := H00.out; omega))
      clear hva va1 va2 va3 va4 va5 hua ua1 ua2 ua3 ua4 ua5 hR hmn
      go_wp2_with fail
      as_aux_lemma =>
      refine Hpw.out.mono ?_
      rintro e w6 ⟨v6, rfl, hH6, ho6, hf6⟩
      have HT6 := Lib.hid (HT5.out.wroteA hH6 ho6 hf6)
      have hR := HR.out
      have hmn := Hmn.out
      have Hrw := Lib.hid (rwrite_any H2 k st N0 (H2 + 1) ua R uc rest mo mn mc ml w6 HT6.out.h2 Hrl.out HT6.out.ob HT6.out.h2.lt (fun a e h => by subst e; have := (own_blk HT6.out.ob rfl).1; omega) (by omega) (by omega) Hml.out (Hmr.out.below HT6.out.bl) Hmnil.out (by omega))
      clear hH6 ho6 hf6 HT5 Hpw hR hmn
      go_wp2_with fail
      refine Hrw.out.mono ?_
      rintro e w7 ⟨v7, rfl, hH7, ho7, hf7, hk7⟩
      have HT7 := Lib.hid (HT6.out.wroteB hH7 ho7 hf7 hk7)
      have hll : (rest ++ ml).length = R + mn := by rw [List.length_append, Hrl.out, Hml.out]
      have hR := HR.out
      have hmn := Hmn.out
      have HL : Hid ((rest ++ ml).length ≤ 140737488352000) := Lib.hid (by omega)
      have HnA : Hid (nn + mn ≤ 2305843009213693951 ∧ nn + mn = N0 + (rest ++ ml).length) := Lib.hid ⟨hfit, by omega⟩
      have Hdig : Hid (digS k (goB (wK k) st (rest ++ ml)).1 (nn + mn) (goB (wK k) st (rest ++ ml)).2 = digS k st (N0 + (rest ++ ml).length) (rest ++ ml)) := Lib.hid (by rw [digS_whole, HnA.out.2])
      have HstA := Lib.hid (goB_lt (wK k) _ st (rest ++ ml) rfl Hst.out)
      have HrA : Hid ((goB (wK k) st (rest ++ ml)).2.length ≤ 128) := Lib.hid (by
        have h1 := (goB_left (wK k) _ st (rest ++ ml) rfl).2
        have h2 : sizeW (wK k) ≤ 128 := by unfold sizeW; split <;> decide
        omega)
      generalize (goB (wK k) st (rest ++ ml)).1 = stA at *
      generalize (goB (wK k) st (rest ++ ml)).2 = restA at *
      generalize rest ++ ml = L at *
      generalize nn + mn = nA at *
      clear hH7 ho7 hf7 hk7 HT6 Hrw hll hR hmn hfit
      go_wp2_with fail
      as_aux_lemma =>
      obtain ⟨xa, xc, hxe, xa1, xa2, xa3, xa4, xa5⟩ := HT7.out.oa.rd3
      obtain ⟨ya, yc, hye, ya1, ya2, ya3, ya4, ya5⟩ := HT7.out.ob.rd3
      have hh1 := HT7.out.h1
      have hh2 := HT7.out.h2
      rw [hxe] at hh1
      rw [hye] at hh2
      have hW7 : W.heap.size ≤ w7.heap.size := HT7.out.sz
      have Hsa := Lib.hid (sum_any H1 k stA nA xa restA.length xc restA w7 Hk.out hh1 HstA.out (by have := HnA.out; omega) rfl (by have := HrA.out; omega) xa4 xa3 (Htab.out.below HT7.out.bl) (by have := H00.out; omega))
      have Hsb := Lib.hid (fun w' (h : Below w7.heap.size w7 w') => rsum_any H2 k st N0 ya L.length yc L w' Hk.out (hh2.later h) Hst.out (by have := HnA.out; have := HL.out; omega) rfl (by have := HL.out; omega) ya4 (ya3.below h))
      have Hla := Lib.hid (fun w' (h : Below w7.heap.size w7 w') => plen_any H1 k stA nA (.slice xa restA.length xc) w' (hh1.later h))
      have Hlb := Lib.hid (fun w' (h : Below w7.heap.size w7 w') => rlen_any H2 k st N0 ya L.length yc w' (hh2.later h) (by have := HnA.out; have := HL.out; omega))
      have HB7 := Lib.hid HT7.out.bl
      have HW7 := Lib.hid hW7
      clear hxe xa1 xa2 xa3 xa4 xa5 hye ya1 ya2 ya3 ya4 ya5 hh1 hh2 hW7 HT7
      refine Hsa.out.mono ?_
      rintro e w8 ⟨g8, C8, rfl, ho8, hb8⟩
      clear Hsa
      go_wp2_with fail
      refine (Hsb.out _ hb8).mono ?_
      rintro e w9 ⟨g9, C9, rfl, ho9, hb9⟩
      have hb79 : Below w7.heap.size w7 w9 := hb8.trans (hb9.mono hb8.size)
      have ho89 := ho8.later hb9
      rw [Hdig.out] at ho89
      obtain ⟨p1, q1, he1, -, -, r1, -, -⟩ := ho89.rd3
      obtain ⟨p2, q2, he2, -, -, r2, -, -⟩ := ho9.rd3
      obtain ⟨e1, e1n, -⟩ := Value.slice.inj he1
      obtain ⟨e2, e2n, -⟩ := Value.slice.inj he2
      rw [← e1] at r1
      rw [← e2] at r2
      have Hsm := Lib.hid (same2_true (some ⟨g8, 0, none⟩) (some ⟨g9, 0, none⟩) (digK k) (digK k) C8 C9 _ _ w9 rfl e1n.symm e2n.symm (by unfold digK; split <;> (try split) <;> omega) (by unfold digK; split <;> (try split) <;> omega) r1 r2)
      have Hb79 := Lib.hid hb79
      clear ho8 hb8 ho9 hb9 hb79 ho89 he1 r1 he2 r2 e1 e1n e2 e2n Hsb
      go_wp2_with fail
      refine Hsm.out.mono ?_
      rintro e w10 ⟨rfl, hd10⟩
      have hb10 : Below w7.heap.size w7 w10 := Hb79.out.trans (hd10.below _)
      clear Hsm
      go_wp2_with fail
      refine (Hla.out _ hb10).mono ?_
      rintro e w11 ⟨rfl, rfl⟩
      go_wp2_with fail
      refine (Hlb.out _ hb10).mono ?_
      rintro e w12 ⟨rfl, hd12⟩
      have HBf := Lib.hid (HB7.out.trans ((hb10.trans (hd12.below _)).mono HW7.out))
      have hlen := HnA.out.2
      rw [← hlen]
      clear hb10 hd12 hd10 hlen
      go_wp2_with fail
      go_ret
      exact ⟨rfl, HBf.out⟩
    · have Hpw := Lib.hid (pwrite_long H1 k st nn (.slice va R vc) mo mn mc w5 HT5.out.h1 hR.2.2 hfit (by omega))
      have Hrw := Lib.hid (rwrite_long H2 k st N0 ua R uc mo mn mc w5 HT5.out.h2 (by omega) (by omega) (by omega))
      clear hva va1 va2 va3 va4 va5 hua ua1 ua2 ua3 ua4 ua5 hR hmn
      go_wp2_with fail
      as_aux_lemma =>
      refine Hpw.out.mono ?_
      rintro e w6 ⟨rfl, rfl⟩
      go_wp2_with fail
      refine Hrw.out.mono ?_
      rintro e w7 ⟨rfl, hd7⟩
      have HT7 := Lib.hid (HT5.out.drn hd7)
      have hR := HR.out
      have HL : Hid (rest.length ≤ 140737488352000) := Lib.hid (by have := Hrl.out; omega)
      have HnA : Hid (nn ≤ 2305843009213693951 ∧ nn = N0 + rest.length) := Lib.hid (by have := Hrl.out; omega)
      have Hdig : Hid (digS k st nn rest = digS k st (N0 + rest.length) rest) := Lib.hid (by rw [← HnA.out.2])
      have HstA := Hst
      have HrA : Hid (rest.length ≤ 128) := Lib.hid (by have := Hrl.out; omega)
      clear hd7 HT5 Hrw Hpw hR hfit
      go_wp2_with fail
      as_aux_lemma =>
      obtain ⟨xa, xc, hxe, xa1, xa2, xa3, xa4, xa5⟩ := HT7.out.oa.rd3
      obtain ⟨ya, yc, hye, ya1, ya2, ya3, ya4, ya5⟩ := HT7.out.ob.rd3
      have hh1 := HT7.out.h1
      have hh2 := HT7.out.h2
      rw [hxe] at hh1
      rw [hye] at hh2
      have hW7 : W.heap.size ≤ w7.heap.size := HT7.out.sz
      have Hsa := Lib.hid (sum_any H1 k st nn xa rest.length xc rest w7 Hk.out hh1 HstA.out (by have := HnA.out; omega) rfl (by have := HrA.out; omega) xa4 xa3 (Htab.out.below HT7.out.bl) (by have := H00.out; omega))
      have Hsb := Lib.hid (fun w' (h : Below w7.heap.size w7 w') => rsum_any H2 k st N0 ya rest.length yc rest w' Hk.out (hh2.later h) Hst.out (by have := HnA.out; have := HL.out; omega) rfl (by have := HL.out; omega) ya4 (ya3.below h))
      have Hla := Lib.hid (fun w' (h : Below w7.heap.size w7 w') => plen_any H1 k st nn (.slice xa rest.length xc) w' (hh1.later h))
      have Hlb := Lib.hid (fun w' (h : Below w7.heap.size w7 w') => rlen_any H2 k st N0 ya rest.length yc w' (hh2.later h) (by have := HnA.out; have := HL.out; omega))
      have HB7 := Lib.hid HT7.out.bl
      have HW7 := Lib.hid hW7
      clear hxe xa1 xa2 xa3 xa4 xa5 hye ya1 ya2 ya3 ya4 ya5 hh1 hh2 hW7 HT7
      refine Hsa.out.mono ?_
      rintro e w8 ⟨g8, C8, rfl, ho8, hb8⟩
      clear Hsa
      go_wp2_with fail
      refine (Hsb.out _ hb8).mono ?_
      rintro e w9 ⟨g9, C9, rfl, ho9, hb9⟩
      have hb79 : Below w7.heap.size w7 w9 := hb8.trans (hb9.mono hb8.size)
      have ho89 := ho8.later hb9
      rw [Hdig.out] at ho89
      obtain ⟨p1, q1, he1, -, -, r1, -, -⟩ := ho89.rd3
      obtain ⟨p2, q2, he2, -, -, r2, -, -⟩ := ho9.rd3
      obtain ⟨e1, e1n, -⟩ := Value.slice.inj he1
      obtain ⟨e2, e2n, -⟩ := Value.slice.inj he2
      rw [← e1] at r1
      rw [← e2] at r2
      have Hsm := Lib.hid (same2_true (some ⟨g8, 0, none⟩) (some ⟨g9, 0, none⟩) (digK k) (digK k) C8 C9 _ _ w9 rfl e1n.symm e2n.symm (by unfold digK; split <;> (try split) <;> omega) (by unfold digK; split <;> (try split) <;> omega) r1 r2)
      have Hb79 := Lib.hid hb79
      clear ho8 hb8 ho9 hb9 hb79 ho89 he1 r1 he2 r2 e1 e1n e2 e2n Hsb
      go_wp2_with fail
      refine Hsm.out.mono ?_
      rintro e w10 ⟨rfl, hd10⟩
      have hb10 : Below w7.heap.size w7 w10 := Hb79.out.trans (hd10.below _)
      clear Hsm
      go_wp2_with fail
      refine (Hla.out _ hb10).mono ?_
      rintro e w11 ⟨rfl, rfl⟩
      go_wp2_with fail
      refine (Hlb.out _ hb10).mono ?_
      rintro e w12 ⟨rfl, hd12⟩
      have HBf := Lib.hid (HB7.out.trans ((hb10.trans (hd12.below _)).mono HW7.out))
      have hlen := HnA.out.2
      rw [← hlen]
      clear hb10 hd12 hd10 hlen
      go_wp2_with fail
      go_ret
      exact ⟨rfl, HBf.out⟩
  · have hcap := Hcap.out
    have hnc := Hn.out
    have Hpo := Lib.hid (popen_bad ao n cap l w1 Hl.out (by omega) hnc Hnil.out Hr1.out Hlt1.out hok)
    have Hro := Lib.hid (fun w' (h : Below w1.heap.size w1 w') => ropen_bad ao n cap l w' Hl.out (by omega) hnc Hnil.out (Hr1.out.below h) (fun h0 a e => Nat.lt_of_lt_of_le (Hlt1.out h0 a e) h.size) hok)
    clear hcap hnc hok
    go_wp2_with fail
    as_aux_lemma =>
    refine Hpo.out.mono ?_
    rintro e w2 ⟨rfl, hb2⟩
    have HBf := Lib.hid (Hb1.out.trans (hb2.mono Hb1.out.size))
    have Hro2 := Lib.hid (Hro.out _ hb2)
    clear hb2 Hro Hpo
    go_wp2_with fail
    refine Hro2.out.mono ?_
    rintro e w3 ⟨rfl, rfl⟩
    go_wp2_with fail
    go_ret
    exact ⟨rfl, HBf.out⟩
theorem walk {H : Type} (enc : TypeId × Value → H) (W : World) (base : Nat) (v0 : Value) (d0 : DataW H) (p0 : List MemPlace) (v1 : Value) (d1 : DataW H) (p1 : List MemPlace)
    (k0 : Value.okWide Tryd.prog W .any base 22 v0) (k1 : Value.okWide Tryd.prog W .any base 22 v1)
    (h0 : DataW.Trod enc Tryd.prog W 0 (fun _ => true) true 22 v0 d0 p0) (h1 : DataW.Trod enc Tryd.prog W 0 (fun _ => true) true 22 v1 d1 p1)
    (hsz : (DataW.weightsEach Tryd.prog [22, 22] ([d0, d1] ++ [])).all (· ≤ reachBytes) = true) (hL : laidMetH Tryd.prog laidL W) :
    Calls Tryd.prog 5 #[v0, v1] W fun e w' => e = .returned (.bool true) ∧ Below W.heap.size W w' := by
  obtain ⟨hT, h00⟩ := tab_of_laid hL
  simp only [List.cons_append, List.nil_append, DataW.weightsEach] at hsz
  obtain ⟨z0, hsz⟩ := all_app hsz
  obtain ⟨z1, hsz⟩ := all_app hsz
  obtain ⟨ao, n, cap, l, rfl, hl, hn, hcap, hrd, hnil⟩ := open_bytes Tryd.underlying22 Tryd.underlying5 (by kernel_rfl) (by kernel_rfl) k0 h0 z0
  obtain ⟨mo, mn, mc, ml, rfl, hml, hmn, hmcap, hmrd, hmnil⟩ := open_bytes Tryd.underlying22 Tryd.underlying5 (by kernel_rfl) (by kernel_rfl) k1 h1 z1
  exact core W ao n cap l mo mn mc ml hl hn hcap hrd hnil hml (by omega) hmrd hmnil hT h00
end Go.Proofs.YtngkelflfahjbaaDoor.shaOpens
