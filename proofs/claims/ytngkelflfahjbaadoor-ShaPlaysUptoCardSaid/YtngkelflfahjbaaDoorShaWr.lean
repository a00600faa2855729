/- The program's hash: Write, Len. No condition. -/
import Derived.Test.YtngkelflfahjbaaDoorShaF
import Derived.Test.YtngkelflfahjbaaDoorShaJ
import Derived.Deep.DeepCutAuto
set_option linter.unusedVariables false
set_option linter.unusedSimpArgs false
namespace Go.Proofs.YtngkelflfahjbaaDoor
open Go.RowKit
theorem Own.rd3 {w : World} {B : Nat} {v : Value} {l : List UInt8} (h : Own 5 w B v l) : ∃ ao cap, v = .slice ao l.length cap ∧ l.length ≤ cap ∧ cap ≤ 9223372036854775807 ∧ Rd w ao l ∧ (ao = none → cap = 0) ∧ (∀ a, ao = some a → B ≤ a.block ∧ a.block < w.heap.size) := by
  have hb := fun k (hk : v.ownBlock = some k) => own_blk h hk
  obtain ⟨ao, cap, rfl, h1, h2, h3⟩ := h.rd
  refine ⟨ao, cap, rfl, h1, by simpa [maxLen] using h2, h3, ?_, fun a e => by subst e; exact hb _ rfl⟩
  rintro rfl
  rcases h.cases with ⟨e, -⟩ | ⟨g, c, e, -⟩
  · exact (Value.slice.inj e).2.2
  · cases (Value.slice.inj e).1
theorem Rd.far {W w : World} {bo : Option Addr} {b : List UInt8} {hb : Nat} (h : Rd W bo b) (hbl : Below W.heap.size W w) (hH : W.heap.size ≤ hb) : ∀ w', w.grownBy w' (some hb) → Rd w' bo b := fun w' hg j hj => by
  obtain ⟨b0, off, e, hc⟩ := h j hj
  have hlt : b0 < W.heap.size := block_lt_of_cell hc
  refine ⟨b0, off, e, ?_⟩
  exact hg.cell (cell_later hbl hc) (fun e2 => by have e1 : b0 = hb := Option.some.inj e2; omega)
def oneK (hb B : Nat) : Nat → Prop := fun q => q = hb ∨ B ≤ q
theorem Frm.one {hb : Nat} {w w' : World} (h : Frm (oneK hb w.heap.size) w w') : Frm (fun q => q = hb) w w' := h.mono (fun k hk h => by
  rcases h with h | h
  · exact h
  · omega)
theorem hashC_set19 (k : Nat) (st : S8) (n n' : Nat) (rv : Value) : (hashC k st n rv).set 19 (.int .u64 n') = hashC k st n' rv := rfl
theorem hashC_set20 (k : Nat) (st : S8) (n : Nat) (rv rv' : Value) : (hashC k st n rv).set 20 rv' = hashC k st n rv' := rfl
theorem plen_any (hb k : Nat) (st : S8) (n : Nat) (rv : Value) (w : World) (hH : HB w hb 67 (hashC k st n rv)) :
    Calls Tryd.prog 22 #[.pointer (some ⟨hb, 0, none⟩)] w fun e w' => e = .returned (.int .u64 (n : Nat)) ∧ w = w' := by
  have k19 := hH.cell (hashC_n k st n rv)
  clear hH
  go_enter Tryd.func22, Tryd.ntmps22
  go_wp2_with fail
  go_ret
  exact ⟨rfl, rfl⟩
theorem pwrite_long (hb k : Nat) (st : S8) (n : Nat) (rv : Value) (bo : Option Addr) (m c : Nat) (w : World) (hH : HB w hb 67 (hashC k st n rv)) (hn : n ≤ 2305843009213693951) (hfit : ¬ n + m ≤ 2305843009213693951) (hm : m < 18446744073709551616) :
    Calls Tryd.prog 18 #[.pointer (some ⟨hb, 0, none⟩), .slice bo m c] w fun e w' => e = .returned (.int .i64 22) ∧ w = w' := by
  have k19 := hH.cell (hashC_n k st n rv)
  have q1 : IntKind.u64.wrap (m : Int) = (m : Int) := IntWalk.u64_in _ (by omega)
  obtain ⟨R, hR⟩ : ∃ R, 2305843009213693951 - n = R := ⟨_, rfl⟩
  have q2 : IntKind.u64.wrap (2305843009213693951 - (n : Int)) = (R : Int) := by rw [IntWalk.u64_in _ (by omega)]; omega
  have q3 : decide ((m : Int) > (R : Int)) = true := decide_eq_true (by omega)
  have q4 : (R : Int) < (m : Int) := by omega
  clear hH hn hfit hm hR
  go_enter Tryd.func18, Tryd.ntmps18
  go_wp2_with fail
  go_ret
  exact ⟨rfl, rfl⟩
set_option maxRecDepth 100000 in
set_option maxHeartbeats 1000000 in
theorem pwrite_any (hb k : Nat) (st : S8) (n : Nat) (ra : Option Addr) (rn rc : Nat) (rest : List UInt8) (bo : Option Addr) (m c : Nat) (b : List UInt8) (w : World) (hk : 1 ≤ k ∧ k ≤ 3) (hH : HB w hb 67 (hashC k st n (.slice ra rn rc))) (hs : st.Lt (2 ^ wK k))
    (hl : rest.length = rn) (hra : ra = none → rc = 0) (hr : Rd w ra rest) (hrne : ∀ a, ra = some a → a.block ≠ hb) (hbl : b.length = m) (hnil : bo = none → c = 0) (hrb : ∀ w', w.grownBy w' (some hb) → Rd w' bo b)
    (hn : n ≤ 2305843009213693951) (hfit : n + m ≤ 2305843009213693951) (hsz : rn + m ≤ 140737488355000) (htab : TabOk w) (hb0 : hb ≠ 0) :
    Calls Tryd.prog 18 #[.pointer (some ⟨hb, 0, none⟩), .slice bo m c] w fun e w' => ∃ v, e = .returned (.int .i64 0) ∧ HB w' hb 67 (hashC k (goB (wK k) st (rest ++ b)).1 (n + m) v) ∧ Own 5 w' w.heap.size v (goB (wK k) st (rest ++ b)).2 ∧ Frm (fun q => q = hb) w w' := by
  have k19 := hH.cell (hashC_n k st n (.slice ra rn rc))
  have f19 := hH.frozen 19
  have q1 : IntKind.u64.wrap (m : Int) = (m : Int) := IntWalk.u64_in _ (by omega)
  obtain ⟨R, hR⟩ : ∃ R, 2305843009213693951 - n = R := ⟨_, rfl⟩
  have q2 : IntKind.u64.wrap (2305843009213693951 - (n : Int)) = (R : Int) := by rw [IntWalk.u64_in _ (by omega)]; omega
  have q3 : decide ((m : Int) > (R : Int)) = false := decide_eq_false (by omega)
  have q4 : ¬ (R : Int) < (m : Int) := by omega
  obtain ⟨M, hM⟩ : ∃ M, n + m = M := ⟨_, rfl⟩
  have q5 : IntKind.u64.wrap ((n : Int) + (m : Int)) = (M : Int) := by rw [IntWalk.u64_in _ (by omega)]; omega
  have HM := Lib.hid hM
  have HH1 : Hid (HB (w.setCell ⟨hb, 19, none⟩ (.int .u64 M)) hb 67 (hashC k st M (.slice ra rn rc))) := Lib.hid (hH.set 19 (.int .u64 M))
  have hg1 := grown_set w ⟨hb, 19, none⟩ (.int .u64 (M : Nat))
  have Hr1 := Lib.hid (hr.grown hg1 (fun a e h => hrne a e (Option.some.inj h)))
  have Hb1 := Lib.hid (hrb _ hg1)
  have HF1 : Hid (Frm (oneK hb w.heap.size) w (w.setCell ⟨hb, 19, none⟩ (.int .u64 M))) := Lib.hid (Frm.grown hg1 (fun q hq => Or.inl (Option.some.inj hq).symm))
  have Ht1 := Lib.hid (htab.grown hg1 hb0)
  have Hz1 : Hid (w.heap.size ≤ (w.setCell ⟨hb, 19, none⟩ (.int .u64 (M : Nat))).heap.size) := Lib.hid hg1.size
  have Hhb : Hid (hb < w.heap.size) := Lib.hid hH.lt
  have Hk := Lib.hid hk
  have Hs := Lib.hid hs
  have Hl := Lib.hid hl
  have Hra := Lib.hid hra
  have Hbl := Lib.hid hbl
  have Hnil := Lib.hid hnil
  have Hsz := Lib.hid hsz
  have Hb0 := Lib.hid hb0
  clear hH hk hs hl hra hr hrne hbl hnil hrb hn hfit hsz htab hb0 hg1 hR hM
  go_enter Tryd.func18, Tryd.ntmps18
  go_upto_region 6 with fail
  as_aux_lemma =>
  clear k19 f19 q1
  generalize w.setCell ⟨hb, 19, none⟩ (.int .u64 (M : Nat)) = w1 at *
  obtain ⟨B, hB⟩ : ∃ B, w.heap.size = B := ⟨_, rfl⟩
  have HBx := Lib.hid hB
  rw [hB] at HF1 Hz1 Hhb
  clear hB
  have Hm1 := Lib.hid (Own.made0 5 w1 B Hz1.out)
  have k20 := (HH1.out.alloc (.cells #[] 5)).cell (hashC_rv k st M (.slice ra rn rc))
  go_wp2_with (at_builtin; refine wpList_append_gr byteRow02 rfl _ _ rfl B _ [] rfl Hm1.out ra rn rc rest rfl Hl.out (Hr1.out.below ((Below.refl _ _).alloc (Nat.le_refl _) _)) Hra.out (by have := Hsz.out; simp; omega) (by have := Hz1.out; simp; omega) ?_)
  intro v2 w2 ho2 hg2
  have HH2 := Lib.hid ((HH1.out.alloc (.cells #[] 5)).grown hg2.g (fun e => by have e1 : hb = w1.heap.size := Option.some.inj e; have := Hhb.out; have := Hz1.out; omega))
  have HF2 := Lib.hid ((HF1.out.trans (Frm.later ((Below.refl _ _).alloc (Nat.le_refl _) (.cells #[] 5)))).trans (Frm.grown hg2.g (fun q hq => Or.inr (by have e1 : w1.heap.size = q := Option.some.inj hq; have := Hz1.out; omega))))
  have hbw2 : Below w1.heap.size w1 w2 := ((Below.refl _ _).alloc (Nat.le_refl _) (.cells #[] 5)).grown hg2.g (by simp) (fun q hq => by have e1 : w1.heap.size = q := Option.some.inj hq; omega)
  have Hb2 := Lib.hid (Hb1.out.below hbw2)
  have Ht2 := Lib.hid (Ht1.out.below hbw2)
  have Hz2 : Hid (B ≤ w2.heap.size) := Lib.hid (Nat.le_trans Hz1.out hbw2.size)
  have Ho2 := Lib.hid ho2
  clear k20 ho2 hg2 hbw2 HH1 HF1 Hb1 Ht1 Hz1 Hr1 Hm1
  go_wp2_with (at_builtin; refine wpList_append_gr byteRow02 rfl _ _ rfl B v2 rest rfl Ho2.out bo m c b rfl Hbl.out Hb2.out Hnil.out (by rw [Hl.out]; have := Hsz.out; omega) Hz2.out ?_)
  intro v3 w3 ho3 hg3
  have HH3 := Lib.hid (HH2.out.grown hg3.g (fun e => by have := (own_blk Ho2.out e.symm).1; have := Hhb.out; omega))
  have HF3 := Lib.hid (HF2.out.trans (Frm.grown hg3.g (fun q hq => Or.inr (own_blk Ho2.out hq).1)))
  have hbw3 : Below B w2 w3 := (Below.refl _ _).grown hg3.g Hz2.out (fun q hq => (own_blk Ho2.out hq).1)
  have Ht3 : Hid (TabOk w3) := Lib.hid (fun i hi => (hbw3.cell (p := ⟨0, i, none⟩) (by have := Hhb.out; show 0 < B; omega)).trans (Ht2.out i hi))
  have Hz3 : Hid (B ≤ w3.heap.size) := Lib.hid (Nat.le_trans Hz2.out hg3.g.size)
  have Ho3 := Lib.hid ho3
  clear ho3 hg3 hbw3 HH2 HF2 Hb2 Ht2 Hz2 Ho2
  go_upto_region 7 with fail
  as_aux_lemma =>
  obtain ⟨aa, ac, rfl, ha1, ha2, har, hal, hab⟩ := Ho3.out.rd3
  have HHa := Lib.hid (HH3.out.alloc (.cells #[] 5))
  have HFa := Lib.hid (HF3.out.trans (Frm.later ((Below.refl _ _).alloc (Nat.le_refl _) (.cells #[] 5))))
  have Hma := Lib.hid (Own.made0 5 w3 B Hz3.out)
  have Hza : Hid (B ≤ (w3.alloc (.cells #[] 5)).heap.size) := Lib.hid (Nat.le_trans Hz3.out (by simp))
  have Hbk := Lib.hid (blocks_any hb k st M (.slice ra rn rc) aa (rest ++ b).length ac (rest ++ b) (w3.alloc (.cells #[] 5)) Hk.out HHa.out Hs.out rfl ha1 ha2 (har.below ((Below.refl _ _).alloc (Nat.le_refl _) _)) (fun a e h => by have := (hab a e).1; have := Hhb.out; omega) (Ht3.out.below ((Below.refl _ _).alloc (Nat.le_refl _) _)) Hb0.out)
  have Hleft := Lib.hid (goB_left (wK k) _ st (rest ++ b) rfl)
  have Hszk : Hid (sizeW (wK k) ≤ 128) := Lib.hid (by unfold sizeW; split <;> decide)
  have Hne7 : Hid (∀ a, aa = some a → B ≤ a.block ∧ a.block < w3.heap.size) := Lib.hid hab
  have Hal := Lib.hid hal
  generalize (rest ++ b).length = tn at *
  generalize hse : (goB (wK k) st (rest ++ b)).1 = st' at *
  generalize hre : (goB (wK k) st (rest ++ b)).2 = rest' at *
  have HSe := Lib.hid hse
  have HRe := Lib.hid hre
  clear hse hre
  have hw3 : (w3.alloc (.cells #[] 5)).heap.size = w3.heap.size + 1 := by simp
  clear ha1 ha2 har hal hab Ho3 HH3 HF3 Ht3 HHa
  go_wp2_with fail
  as_aux_lemma =>
  refine Hbk.out.mono ?_
  rintro e w4 ⟨b4, c4, rfl, h41, h42, h43, h44, h45, hH4, hg4⟩
  have Ho4 := Lib.hid (Hma.out.grown hg4 (fun q h1 h2 => by have e1 : w3.heap.size = q := Option.some.inj h1; have e2 : hb = q := Option.some.inj h2; have := Hhb.out; have := Hz3.out; omega))
  have HF4 := Lib.hid (HFa.out.trans (Frm.grown hg4 (fun q hq => Or.inl (Option.some.inj hq).symm)))
  have Hz4 : Hid (B ≤ w4.heap.size) := Lib.hid (Nat.le_trans Hza.out hg4.size)
  have HH4 := Lib.hid hH4
  have Hr4 := Lib.hid (h43.grown hg4 (fun a e1 e2 => by
    obtain ⟨a', e3, e4⟩ := h44 a e1
    have := (Hne7.out a' e3).1
    have := Hhb.out
    have := Option.some.inj e2
    omega))
  have Hn4 : Hid (b4 = none → c4 = 0) := Lib.hid (fun e => by have := Hal.out (h45 e); omega)
  have Hl4 : Hid (rest'.length ≤ 128) := Lib.hid (by have := Hleft.out.2; have := Hszk.out; omega)
  clear h41 h42 h43 h44 h45 hH4 hg4 Hbk Hma HFa Hza hw3
  go_wp2_with (at_builtin; refine wpList_append_gr byteRow02 rfl _ _ rfl B _ [] rfl Ho4.out b4 rest'.length c4 rest' rfl rfl Hr4.out Hn4.out (by have := Hl4.out; simp; omega) Hz4.out ?_)
  intro v5 w5 ho5 hg5
  obtain ⟨a5, c5, rfl, -, -, -, -, -⟩ := ho5.rd3
  have HH5 := Lib.hid (HH4.out.grown hg5.g (fun e => by have := (own_blk Ho4.out e.symm).1; have := Hhb.out; omega))
  have HF5 := Lib.hid (HF4.out.trans (Frm.grown hg5.g (fun q hq => Or.inr (own_blk Ho4.out hq).1)))
  have k20 := HH5.out.cell (hashC_rv k st' M (.slice ra rn rc))
  have f20 := HH5.out.frozen 20
  obtain ⟨n5, hn5⟩ : ∃ n5, rest'.length = n5 := ⟨_, rfl⟩
  rw [hn5] at ho5 hg5 ⊢
  have HH6 : Hid (HB (w5.setCell ⟨hb, 20, none⟩ (.slice a5 n5 c5)) hb 67 (hashC k st' M (.slice a5 n5 c5))) := Lib.hid (HH5.out.set 20 (.slice a5 n5 c5))
  have hvb : (Value.slice a5 n5 c5).ownBlock ≠ some hb := fun e => by have := (own_blk ho5 e).1; have := Hhb.out; omega
  have Ho6 := Lib.hid (ho5.other (a := ⟨hb, 20, none⟩) hvb (.slice a5 n5 c5))
  have HF6 : Hid (Frm (oneK hb B) w (w5.setCell ⟨hb, 20, none⟩ (.slice a5 n5 c5))) := Lib.hid (HF5.out.trans (Frm.grown (grown_set w5 ⟨hb, 20, none⟩ (.slice a5 n5 c5)) (fun q hq => Or.inl (Option.some.inj hq).symm)))
  clear ho5 hg5 HH5 HF5 hvb hn5 HH4 HF4 Ho4 Hr4 Hn4 Hl4 Hz4 Hleft
  go_wp2_with fail
  go_ret
  exact ⟨_, rfl, by rw [HM.out, HSe.out]; exact HH6.out, by rw [HBx.out, HRe.out]; exact Ho6.out, Frm.one (by rw [HBx.out]; exact HF6.out)⟩
end Go.Proofs.YtngkelflfahjbaaDoor
