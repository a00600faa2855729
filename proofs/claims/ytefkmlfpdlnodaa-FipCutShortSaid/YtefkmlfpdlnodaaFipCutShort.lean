/- A package that is cut off, or has bytes behind it, is refused: the walk. No condition. -/
import Derived.Test.YtefkmlfpdlnodaaFipC
import Derived.Test.YtefkmlfpdlnodaaFipK
import Derived.Test.YtefkmlfpdlnodaaFipA
import Derived.Test.YtefkmlfpdlnodaaFipZ
import Derived.Lib.AppendZeros
namespace Go.Proofs.Ytefkmlfpdlnodaa.fipCutShort
open Go.ChangeShapes Go.WideShapes Go.ChangeAt Go.RowKit
set_option linter.unusedVariables false
set_option linter.unusedSimpArgs false
theorem im_below {w w' : World} {m : Im} (h : m.Ok w) (hb : Below w.heap.size w w') : m.Ok w' := ⟨h.r.below hb, h.c, h.x, h.z⟩
theorem own_rd {w : World} {B n cp : Nat} {a : Option Addr} {l : List UInt8} (h : Own 5 w B (.slice a n cp) l) : Rd w a l := by
  obtain ⟨ao, c, he, _, _, hr⟩ := h.rd
  cases he; exact hr
theorem rd_take {w : World} {a : Option Addr} {l : List UInt8} (h : Rd w a l) (t : Nat) : Rd w a (l.take t) := fun j hj => by
  rw [List.length_take] at hj
  obtain ⟨b, o, e, hc⟩ := h j (by omega)
  exact ⟨b, o, e, by rw [List.getElem?_take_of_lt (by omega)]; exact hc⟩
set_option maxRecDepth 100000 in
set_option maxHeartbeats 400000 in
theorem core (w : World) (a1 a2 a3 : Option Addr) (n n2 n3 c1 c2 c3 : Nat) (ids : List Gu) (ims : List Im) (at_ : Int) (more : List UInt8)
    (hl1 : ids.length = n) (hl2 : ims.length = n2) (hn : n ≤ 140737488351232) (hn2 : n2 ≤ 140737488351232) (hc1 : n ≤ c1) (hr1 : RdS guc 16 w a1 ids) (hr2 : RdS imc 1 w a2 ims) (hok : ∀ m ∈ ims, Im.Ok w m)
    (hat : -9223372036854775808 ≤ at_ ∧ at_ ≤ 9223372036854775807) (hl3 : more.length = n3) (hc3 : n3 ≤ c3) (hm3 : c3 ≤ 140737488351232) (hr3 : Rd w a3 more) (hz3 : a3 = none → c3 = 0) :
    Calls Try.prog 8 #[.agg #[.slice a1 n c1, .slice a2 n2 c2, .int .i64 at_, .slice a3 n3 c3]] w fun e w' => e = .returned (.bool true) ∧ Below w.heap.size w w' := by
  have Hmk := Lib.hid (fun w' (h : Below w.heap.size w w') => pmake_any a1 a2 n n2 c1 c2 ids ims w' hl1 hl2 hn hn2 hc1 (hr1.below h) (hr2.below h) (fun m hm => im_below (hok m hm) h))
  have Hat := Lib.hid hat
  have Hl3 := Lib.hid hl3
  have Hc3 := Lib.hid hc3
  have HL3 := Lib.hid hm3
  have Hr3 := Lib.hid hr3
  have Hz3 := Lib.hid hz3
  clear hl1 hl2 hn hn2 hc1 hr1 hr2 hok hat hl3 hc3 hm3 hr3 hz3
  go_enter Try.func8, Try.ntmps8
  go_wp2_with fail
  go_region
  as_aux_lemma =>
  generalize hW1 : World.drew _ = w1
  have hd1 : Drn (w.alloc (.cells #[.slice a1 n c1, .slice a2 n2 c2, .int .i64 at_, .slice a3 n3 c3] 44)) w1 := by
    rw [← hW1]; exact (Drn.refl _).drew
  have Hb1 : Hid (Below w.heap.size w w1) := Lib.hid (((Below.refl _ w).alloc (Nat.le_refl _) _).trans (hd1.below _))
  clear hd1 hW1
  go_wp2_with fail
  as_aux_lemma =>
  refine (Hmk.out _ Hb1.out).mono ?_
  rintro e w2 ⟨v, rfl, ho2, hb2⟩
  have HO2 := Lib.hid (ho2.mono Hb1.out.size)
  have Hb2 := Lib.hid (Hb1.out.trans (hb2.mono Hb1.out.size))
  clear ho2 hb2 Hmk
  obtain ⟨av, cv, rfl, hvc, hvm, -⟩ := HO2.out.rd
  by_cases hc0 : (makeR ids (ims.map Im.l)).2 = 0
  case neg =>
    have e3 : ((makeR ids (ims.map Im.l)).2 == 0) = false := beq_eq_false_iff_ne.2 hc0
    have e4 : ((makeR ids (ims.map Im.l)).2 != 0) = true := by rw [bne, e3]; rfl
    generalize (makeR ids (ims.map Im.l)).2 = c at *
    clear hc0
    go_wp2_with fail
    as_aux_lemma =>
    refine (alive_any _).mono ?_
    rintro e w5 ⟨rfl, hb5⟩
    have HB5 := Lib.hid (Hb2.out.trans (hb5.mono Hb2.out.size))
    clear hb5
    go_wp2_with fail
    go_ret
    exact ⟨rfl, HB5.out⟩
  have Hnilv : Hid (av = none → cv = 0) := Lib.hid (by
    rcases HO2.out.cases with ⟨h, _⟩ | ⟨g, c, h, _⟩
    · simp only [Value.slice.injEq] at h; exact fun _ => h.2.2
    · simp only [Value.slice.injEq] at h; rw [h.1]; exact fun h => by cases h)
  obtain ⟨-, h131, es, hop, -⟩ := back hc0
  have Hcut := Lib.hid (fun (l : List UInt8) ha hne => cut_short hc0 (l := l) ha hne)
  rw [hc0]
  generalize (makeR ids (ims.map Im.l)).1 = b at *
  have hb16 := (openR_some hop).2.1
  have f1 : ((b.length : Int) == 0) = false := beq_eq_false_iff_ne.2 (by omega)
  have f2 : ¬ ((b.length : Int) = 0) := by omega
  have Hop := Lib.hid hop
  have hA0 : 0 ≤ (if at_ < 0 then -(at_ + 1) else at_) ∧ (if at_ < 0 then -(at_ + 1) else at_) ≤ 9223372036854775807 := by
    have := Hat.out
    split <;> omega
  obtain ⟨A, hA⟩ : ∃ A : Nat, (if at_ < 0 then -(at_ + 1) else at_) = (A : Int) := ⟨_, (Int.toNat_of_nonneg hA0.1).symm⟩
  obtain ⟨t, ht⟩ : ∃ t, A % b.length = t := ⟨_, rfl⟩
  have htl : t < b.length := by rw [← ht]; exact Nat.mod_lt _ (by omega)
  have r2 : (A : Int) % (b.length : Int) = (t : Int) := by rw [← ht]; exact (Int.natCast_emod _ _).symm
  have r1 : (A : Int).tmod (b.length : Int) = (t : Int) := by rw [Int.tmod_eq_emod_of_nonneg (by omega)]; exact r2
  have Htl := Lib.hid htl
  have H131 := Lib.hid h131
  have f3 : (0 : Int) ≤ (t : Int) := by omega
  have f4 : (t : Int) ≤ (cv : Int) := by omega
  clear hc0 hop htl ht h131 hb16 hvm
  by_cases hneg : at_ < 0
  · rw [if_pos hneg] at hA hA0
    have q1 : IntKind.i64.wrap (at_ + 1) = at_ + 1 := by have := Hat.out; simp [IntKind.wrap, IntKind.bits, IntKind.signed]; omega
    have q2 : IntKind.i64.wrap (-(at_ + 1)) = (A : Int) := by have := Hat.out; rw [hA]; simp [IntKind.wrap, IntKind.bits, IntKind.signed]; omega
    clear hA hA0
    go_wp2_with fail
    as_aux_lemma =>
    refine (popen_all av t cv (b.take t) w2 (by rw [List.length_take]; have := Htl.out; omega) (by omega) (by have := H131.out; have := Htl.out; omega) (rd_take (own_rd HO2.out) t)).mono ?_
    rintro e w3 ⟨v, rfl, hb3⟩
    have hcA := Hcut.out _ (agree_take b t) (by rw [List.length_take]; have := Htl.out; omega)
    generalize (openR (b.take t)).2 = cA at *
    have HO3 := Lib.hid (HO2.out.later hb3)
    have Hb3 := Lib.hid (Hb2.out.trans (hb3.mono Hb2.out.size))
    have HcA := Lib.hid hcA
    have Hm3 := Lib.hid (Own.made0 5 w3 w.heap.size Hb3.out.size)
    have hr3' := fun o => Lib.hid ((own_rd HO3.out).below ((Below.refl w3.heap.size w3).alloc (Nat.le_refl _) o))
    clear hb3 hcA Hb2 HO2 r1 r2 f1 f2 f3 f4
    have H131' := H131.out
    go_wp2_with (at_builtin; refine wpList_append_bytes byteRow rfl _ _ rfl w.heap.size _ [] rfl Hm3.out av b.length cv b rfl Hnilv.out rfl (hr3' _).out ?c2 ?c3 ?_)
    case c2 => simp; omega
    case c3 => exact Nat.le_trans Hb3.out.size (by simp)
    intro v4 w4 ho4 hg4
    as_aux_lemma =>
    have hw3s : w.heap.size ≤ (w3.alloc (Obj.cells #[] 5)).heap.size := Nat.le_trans Hb3.out.size (by simp)
    have hb4 := (Below.refl w.heap.size (w3.alloc (Obj.cells #[] 5))).grown hg4 hw3s (fun q hq => (own_blk Hm3.out hq).1)
    have Hb4 := Lib.hid ((Hb3.out.alloc Hb3.out.size (Obj.cells #[] 5)).trans hb4)
    have hr4 := Hr3.out.below Hb4.out
    obtain ⟨v5, w5, hz5, ho5, hg5⟩ : ∃ v5 w5, (Builtin.append_ #[22, 22] 22 #[v4, .slice a3 n3 c3]).run Try.prog w4 = .ok v5 w5 ∧ Own 5 w5 w.heap.size v5 (b ++ more) ∧ w4.grownBy w5 v4.ownBlock := by
      have h3 := Hl3.out
      have hm := HL3.out
      have hc := Hc3.out
      cases a3 with
      | none =>
        obtain rfl := Hz3.out rfl
        obtain rfl : n3 = 0 := by omega
        obtain rfl : more = [] := List.eq_nil_of_length_eq_zero h3
        obtain ⟨i, hi, hz0, hz1, hz2⟩ := info_parts byteRow.info
        exact ⟨v4, w4, run_append_owned_none (P := Try.prog) (w := w4) w.heap.size 22 22 5 i 1 byteRow.ht hi v4 _ _ ho4, by rw [List.append_nil]; exact ho4, World.grownBy.refl _ _⟩
      | some ad =>
        obtain ⟨v5, w5, h1, h2, h3⟩ := run_append_long w4 22 w.heap.size v4 b ho4 ad n3 c3 more h3 hr4 (by omega) Hb4.out.size (by have := Htl.out; omega)
        exact ⟨v5, w5, h1, h2, h3.g⟩
    have Hb5 := Lib.hid (Hb4.out.trans ((Below.refl w.heap.size w4).grown hg5 Hb4.out.size (fun q hq => (own_blk ho4 hq).1)))
    have Ho5 := Lib.hid ho5
    clear hg4 hg5 ho4 ho5 hb4 hw3s hr4 hr3' Hm3 HO3 Hb3 Hb4
    go_wp2_with (at_builtin; refine Go.Lib.wpList_append_run _ rfl _ _ _ _ rfl _ _ rfl rfl _ _ hz5 ?_)
    clear hz5
    obtain ⟨a5, c5, rfl, h5c, h5m, h5r⟩ := Ho5.out.rd
    have Hr5 := Lib.hid h5r
    have H5c := Lib.hid h5c
    obtain ⟨N5, hN5⟩ : ∃ N5, (b ++ more).length = N5 := ⟨_, rfl⟩
    have HN5 := Lib.hid hN5
    rw [hN5]
    clear h5c h5m h5r hN5 H131'
    go_wp2_with fail
    as_aux_lemma =>
    refine (popen_all a5 N5 c5 (b ++ more) w5 HN5.out (by rw [← HN5.out]; exact H5c.out) (by rw [← HN5.out, List.length_append, Hl3.out]; have := H131.out; have := HL3.out; have := Hc3.out; omega) Hr5.out).mono ?_
    rintro e w6 ⟨v6, rfl, hb6⟩
    have Hb6 := Lib.hid (Hb5.out.trans (hb6.mono Hb5.out.size))
    have hfin : ((openR (b ++ more)).2 == 0) = ((n3 : Int) == 0) := by
      by_cases h0 : n3 = 0
      · subst h0
        obtain rfl : more = [] := List.eq_nil_of_length_eq_zero Hl3.out
        rw [List.append_nil, Hop.out]; rfl
      · have h1 : ((n3 : Int) == 0) = false := beq_eq_false_iff_ne.2 (by omega)
        have h2 := Hcut.out _ (agree_append b more) (by rw [List.length_append, Hl3.out]; omega)
        rw [h1]
        exact beq_eq_false_iff_ne.2 h2
    generalize (openR (b ++ more)).2 = cB at *
    have Hfin := Lib.hid hfin
    have hca : (cA == 0) = false := beq_eq_false_iff_ne.2 HcA.out
    have hcb : (cA != 0) = true := by rw [bne, hca]; rfl
    clear hb6 hfin Ho5 Hr5 H5c HN5 Hop Hcut Hb5
    go_wp2_with fail
    as_aux_lemma =>
    refine (alive_any _).mono ?_
    rintro e w7 ⟨rfl, hb7⟩
    have Hb7 := Lib.hid (Hb6.out.trans (hb7.mono Hb6.out.size))
    clear hb7 Hb6
    cases hx : ((n3 : Int) == 0)
    · have hy : (cB == 0) = false := by rw [Hfin.out, hx]
      go_wp2_with fail
      go_ret
      exact ⟨rfl, Hb7.out⟩
    · have hy : (cB == 0) = true := by rw [Hfin.out, hx]
      go_wp2_with fail
      go_ret
      exact ⟨rfl, Hb7.out⟩
  · rw [if_neg hneg] at hA hA0
    subst hA
    clear hA0
    go_wp2_with fail
    as_aux_lemma =>
    refine (popen_all av t cv (b.take t) w2 (by rw [List.length_take]; have := Htl.out; omega) (by omega) (by have := H131.out; have := Htl.out; omega) (rd_take (own_rd HO2.out) t)).mono ?_
    rintro e w3 ⟨v, rfl, hb3⟩
    have hcA := Hcut.out _ (agree_take b t) (by rw [List.length_take]; have := Htl.out; omega)
    generalize (openR (b.take t)).2 = cA at *
    have HO3 := Lib.hid (HO2.out.later hb3)
    have Hb3 := Lib.hid (Hb2.out.trans (hb3.mono Hb2.out.size))
    have HcA := Lib.hid hcA
    have Hm3 := Lib.hid (Own.made0 5 w3 w.heap.size Hb3.out.size)
    have hr3' := fun o => Lib.hid ((own_rd HO3.out).below ((Below.refl w3.heap.size w3).alloc (Nat.le_refl _) o))
    clear hb3 hcA Hb2 HO2 r1 r2 f1 f2 f3 f4
    have H131' := H131.out
    go_wp2_with (at_builtin; refine wpList_append_bytes byteRow rfl _ _ rfl w.heap.size _ [] rfl Hm3.out av b.length cv b rfl Hnilv.out rfl (hr3' _).out ?c2 ?c3 ?_)
    case c2 => simp; omega
    case c3 => exact Nat.le_trans Hb3.out.size (by simp)
    intro v4 w4 ho4 hg4
    as_aux_lemma =>
    have hw3s : w.heap.size ≤ (w3.alloc (Obj.cells #[] 5)).heap.size := Nat.le_trans Hb3.out.size (by simp)
    have hb4 := (Below.refl w.heap.size (w3.alloc (Obj.cells #[] 5))).grown hg4 hw3s (fun q hq => (own_blk Hm3.out hq).1)
    have Hb4 := Lib.hid ((Hb3.out.alloc Hb3.out.size (Obj.cells #[] 5)).trans hb4)
    have hr4 := Hr3.out.below Hb4.out
    obtain ⟨v5, w5, hz5, ho5, hg5⟩ : ∃ v5 w5, (Builtin.append_ #[22, 22] 22 #[v4, .slice a3 n3 c3]).run Try.prog w4 = .ok v5 w5 ∧ Own 5 w5 w.heap.size v5 (b ++ more) ∧ w4.grownBy w5 v4.ownBlock := by
      have h3 := Hl3.out
      have hm := HL3.out
      have hc := Hc3.out
      cases a3 with
      | none =>
        obtain rfl := Hz3.out rfl
        obtain rfl : n3 = 0 := by omega
        obtain rfl : more = [] := List.eq_nil_of_length_eq_zero h3
        obtain ⟨i, hi, hz0, hz1, hz2⟩ := info_parts byteRow.info
        exact ⟨v4, w4, run_append_owned_none (P := Try.prog) (w := w4) w.heap.size 22 22 5 i 1 byteRow.ht hi v4 _ _ ho4, by rw [List.append_nil]; exact ho4, World.grownBy.refl _ _⟩
      | some ad =>
        obtain ⟨v5, w5, h1, h2, h3⟩ := run_append_long w4 22 w.heap.size v4 b ho4 ad n3 c3 more h3 hr4 (by omega) Hb4.out.size (by have := Htl.out; omega)
        exact ⟨v5, w5, h1, h2, h3.g⟩
    have Hb5 := Lib.hid (Hb4.out.trans ((Below.refl w.heap.size w4).grown hg5 Hb4.out.size (fun q hq => (own_blk ho4 hq).1)))
    have Ho5 := Lib.hid ho5
    clear hg4 hg5 ho4 ho5 hb4 hw3s hr4 hr3' Hm3 HO3 Hb3 Hb4
    go_wp2_with (at_builtin; refine Go.Lib.wpList_append_run _ rfl _ _ _ _ rfl _ _ rfl rfl _ _ hz5 ?_)
    clear hz5
    obtain ⟨a5, c5, rfl, h5c, h5m, h5r⟩ := Ho5.out.rd
    have Hr5 := Lib.hid h5r
    have H5c := Lib.hid h5c
    obtain ⟨N5, hN5⟩ : ∃ N5, (b ++ more).length = N5 := ⟨_, rfl⟩
    have HN5 := Lib.hid hN5
    rw [hN5]
    clear h5c h5m h5r hN5 H131'
    go_wp2_with fail
    as_aux_lemma =>
    refine (popen_all a5 N5 c5 (b ++ more) w5 HN5.out (by rw [← HN5.out]; exact H5c.out) (by rw [← HN5.out, List.length_append, Hl3.out]; have := H131.out; have := HL3.out; have := Hc3.out; omega) Hr5.out).mono ?_
    rintro e w6 ⟨v6, rfl, hb6⟩
    have Hb6 := Lib.hid (Hb5.out.trans (hb6.mono Hb5.out.size))
    have hfin : ((openR (b ++ more)).2 == 0) = ((n3 : Int) == 0) := by
      by_cases h0 : n3 = 0
      · subst h0
        obtain rfl : more = [] := List.eq_nil_of_length_eq_zero Hl3.out
        rw [List.append_nil, Hop.out]; rfl
      · have h1 : ((n3 : Int) == 0) = false := beq_eq_false_iff_ne.2 (by omega)
        have h2 := Hcut.out _ (agree_append b more) (by rw [List.length_append, Hl3.out]; omega)
        rw [h1]
        exact beq_eq_false_iff_ne.2 h2
    generalize (openR (b ++ more)).2 = cB at *
    have Hfin := Lib.hid hfin
    have hca : (cA == 0) = false := beq_eq_false_iff_ne.2 HcA.out
    have hcb : (cA != 0) = true := by rw [bne, hca]; rfl
    clear hb6 hfin Ho5 Hr5 H5c HN5 Hop Hcut Hb5
    go_wp2_with fail
    as_aux_lemma =>
    refine (alive_any _).mono ?_
    rintro e w7 ⟨rfl, hb7⟩
    have Hb7 := Lib.hid (Hb6.out.trans (hb7.mono Hb6.out.size))
    clear hb7 Hb6
    cases hx : ((n3 : Int) == 0)
    · have hy : (cB == 0) = false := by rw [Hfin.out, hx]
      go_wp2_with fail
      go_ret
      exact ⟨rfl, Hb7.out⟩
    · have hy : (cB == 0) = true := by rw [Hfin.out, hx]
      go_wp2_with fail
      go_ret
      exact ⟨rfl, Hb7.out⟩
set_option maxRecDepth 100000 in
theorem walk {H : Type} (enc : TypeId × Value → H) (W : World) (base : Nat) (v0 : Value) (d0 : DataW H) (p0 : List MemPlace)
    (k0 : Value.okWide Try.prog W .any base 44 v0)
    (h0 : DataW.Trod enc Try.prog W 0 (fun _ => true) true 44 v0 d0 p0)
    (hsz : (DataW.weightsEach Try.prog [44] ([d0] ++ [])).all (· ≤ reachBytes) = true) :
    Calls Try.prog 8 #[v0] W fun e w' => e = .returned (.bool true) ∧ Below W.heap.size W w' := by
  simp only [DataW.weightsEach, List.cons_append, List.nil_append] at hsz
  obtain ⟨z0, hsz⟩ := all_app hsz
  obtain ⟨a1, n, c1, ids, a2, n2, c2, ims, at_, a3, n3, c3, more, rfl, ⟨h1, h2, h3, h4⟩, ⟨i1, i2, i3, i4, i6⟩, hq, ⟨j1, j2, j3, j4, j5⟩⟩ := short_parts k0 h0 z0
  exact core W a1 a2 a3 n n2 n3 c1 c2 c3 ids ims at_ more h1 i1 (by omega) (by omega) h2 h4 i4 i6 hq j1 j2 j3 j4 j5
end Go.Proofs.Ytefkmlfpdlnodaa.fipCutShort
