/- A region is dropped; the regions told. No condition. -/
import Derived.Test.YtcbiohpgmooefaaRmD
import Derived.Test.YtcbiohpgmooefaaRmA
import Derived.Shelf.Abstract
set_option linter.unusedVariables false
set_option linter.unusedSimpArgs false
namespace Go.Proofs.Ytcbiohpgmooefaa
open Go.RowKit
def idxR (t : List Rg) (b : Nat) : Nat := t.findIdx (fun g => decide (g.base = b))
theorem idx_le (t : List Rg) (b : Nat) : idxR t b ≤ t.length := List.findIdx_le_length
theorem idx_at {t : List Rg} {b : Nat} {x : Rg} (hi : t[idxR t b]? = some x) : x.base = b := by
  have h1 := List.getElem?_eq_some_iff.1 hi
  have h0 : List.findIdx (fun g : Rg => decide (g.base = b)) t < t.length := h1.1
  have := List.findIdx_getElem (xs := t) (p := fun g => decide (g.base = b)) (w := h0)
  have h2 : t[List.findIdx (fun g => decide (g.base = b)) t]'h0 = x := h1.2
  rw [h2] at this
  simpa using this
theorem idx_before {t : List Rg} {b i : Nat} {x : Rg} (hi : t[i]? = some x) (h : i < idxR t b) : x.base ≠ b := by
  have h1 := List.getElem?_eq_some_iff.1 hi
  have := List.not_of_lt_findIdx h
  rw [h1.2] at this
  simpa using this
theorem idx_hit {t : List Rg} {b i : Nat} {x : Rg} (hi : t[i]? = some x) (hx : x.base = b) (hle : i ≤ idxR t b) : idxR t b = i := by
  rcases Nat.lt_or_ge i (idxR t b) with h | h
  · exact absurd hx (idx_before hi h)
  · omega
theorem idx_miss {t : List Rg} {b i : Nat} {x : Rg} (hi : t[i]? = some x) (hx : x.base ≠ b) (hle : i ≤ idxR t b) : i + 1 ≤ idxR t b := by
  rcases Nat.lt_or_ge i (idxR t b) with h | h
  · exact h
  · have e : idxR t b = i := by omega
    exact absurd (idx_at (by rw [e]; exact hi)) hx
def ixR (t : List Rg) (b : Nat) : Int := if idxR t b < t.length then (idxR t b : Int) else -1
structure IxIn (t : List Rg) (b : Nat) (w : World) (i : Value) (wr : World) : Prop where
  x : ∃ k : Nat, k ≤ t.length ∧ i = .int .i64 k ∧ k ≤ idxR t b ∧ Below w.heap.size w wr
set_option maxHeartbeats 1000000 in
theorem index_any (ao : Option Addr) (len cap : Nat) (l : List Rg) (X b : Nat) (w : World) (hl : l.length = len) (hbig : len ≤ 1000) (hr : RdS rgc 6 w ao l) (hX : w.cell? ⟨X, 0, none⟩ = some (.int .u64 b)) :
    Calls Try.prog 29 #[.slice ao len cap, .func (.func 30) #[] #[.pointer (some ⟨X, 0, none⟩)]] w fun e w' => e = .returned (.int .i64 (ixR l b)) ∧ Below w.heap.size w w' := by
  have eg : ∀ args w, (callFunc 30 args).run Try.prog w = .ok (.enter 30 args) w := fun args w => by kernel_rfl
  have Hl := Lib.hid hl
  have Hr := Lib.hid (fun w' (h : Below w.heap.size w w') => hr.below h)
  have HX := Lib.hid (fun w' (h : Below w.heap.size w w') => cell_later h hX)
  have Hbig := Lib.hid hbig
  clear hl hr hX hbig
  go_enter Try.func29, Try.ntmps29
  go_wp2_with fail
  go_loopw [5, 8] (fun _ i wr => IxIn l b w i wr) (fun _ i _ => len - (intOf i).toNat)
  case atStart => exact ⟨0, Nat.zero_le _, rfl, Nat.zero_le _, Below.refl _ _⟩
  case round =>
    obtain ⟨k, hk, rfl, hki, hb⟩ := hrel
    have Hb := Lib.hid hb
    have hlen := Hl.out
    have hbig := Hbig.out
    by_cases hlt : k < len
    · have e1 : (k : Int) < (len : Int) := by omega
      obtain ⟨g, hg⟩ : ∃ g, l[k]? = some g := ⟨_, List.getElem?_eq_getElem (by omega)⟩
      obtain ⟨b0, o0, rfl, hb0, hcl⟩ := Hr.out _ hb k g hg
      have c0 : wr.cell? ⟨b0, o0 + k * 6, none⟩ = _ := hcl 0 _ rfl
      have c1 := hcl 1 _ rfl
      have c2 := hcl 2 _ rfl
      have c3 := hcl 3 _ rfl
      have c4 := hcl 4 _ rfl
      have c5 := hcl 5 _ rfl
      have Hp := Lib.hid (pick_any g X b wr (HX.out _ hb))
      unfold rgv at Hp
      by_cases hgb : g.base = b
      · have Hres := fun (_ : Unit) => Lib.hid (show ixR l b = (k : Int) from by
          have h := idx_hit hg hgb hki
          unfold ixR
          rw [h, if_pos (by omega)])
        rw [decide_eq_true hgb] at Hp
        clear hgb hcl hg hb0 hki hb
        go_wp2_with (go_at_fn 30; refine Hp.out.mono ?_; rintro e w' ⟨rfl, hb'⟩)
        have HB' := Lib.hid (Hb.out.trans (hb'.mono Hb.out.size))
        clear hb' c0 c1 c2 c3 c4 c5 Hp
        go_wp2_with fail
        go_ret
        exact ⟨by rw [(Hres ()).out]; rfl, HB'.out⟩
      · have hnext := idx_miss hg hgb hki
        rw [decide_eq_false hgb] at Hp
        clear hgb hcl hg hb0 hki hb
        go_wp2_with (go_at_fn 30; refine Hp.out.mono ?_; rintro e w' ⟨rfl, hb'⟩)
        have HB' := Lib.hid (Hb.out.trans (hb'.mono Hb.out.size))
        clear hb' c0 c1 c2 c3 c4 c5 Hp
        go_wp2_with fail
        first
        | (go_roundw
           case rel => exact ⟨k + 1, by omega, by go_num, hnext, HB'.out⟩
           case measure => (first | omega | (simp [intOf] <;> omega) | (simp only [intOf] <;> omega)))
        | exact ⟨⟨k + 1, by omega, by go_num, hnext, HB'.out⟩, by (first | omega | (simp [intOf] <;> omega) | (simp only [intOf] <;> omega))⟩
        | (refine ⟨?_, by (first | omega | (simp [intOf] <;> omega) | (simp only [intOf] <;> omega))⟩
           (repeat apply Exists.intro)
           refine (fun a b => And.intro b a) ?_ ?_
           · first | rfl | ((repeat refine ⟨rfl, ?_⟩); rfl)
           exact ⟨k + 1, by omega, by go_num, hnext, HB'.out⟩)
    · have e1 : ¬ (k : Int) < (len : Int) := by omega
      have Hres := fun (_ : Unit) => Lib.hid (show ixR l b = -1 from if_neg (by omega))
      clear hb hki
      go_wp2_with fail
      go_ret
      exact ⟨by rw [(Hres ()).out]; rfl, Hb.out⟩
theorem dropR_none {t : List Rg} {b : Nat} (h : ixR t b = -1) : dropR t b = (t, 165) := by
  unfold ixR at h
  unfold dropR
  by_cases h1 : idxR t b < t.length
  · rw [if_pos h1] at h; omega
  · exact if_neg h1
theorem dropR_some {t : List Rg} {b i : Nat} (h : ixR t b = (i : Int)) : i < t.length ∧ dropR t b = (t.take i ++ t.drop (i + 1), 0) := by
  unfold ixR at h
  by_cases h1 : idxR t b < t.length
  · rw [if_pos h1] at h
    have e : idxR t b = i := by omega
    refine ⟨by omega, ?_⟩
    unfold dropR
    rw [show List.findIdx (fun g : Rg => decide (g.base = b)) t = i from e, if_pos (by omega)]
  · rw [if_neg h1] at h; omega
theorem ixR_cases (t : List Rg) (b : Nat) : ixR t b = -1 ∨ ∃ i : Nat, ixR t b = (i : Int) := by
  unfold ixR
  split
  · exact .inr ⟨_, rfl⟩
  · exact .inl rfl
set_option maxHeartbeats 1000000 in
theorem drop_any {B R : Nat} {m : List UInt8} {tv : Value} {t : List Rg} {w : World} (h : RamM B R m tv t w) (hB : B ≤ w.heap.size) (b : Nat) :
    Calls Try.prog 14 #[.pointer (some ⟨R, 0, none⟩), .int .u64 b] w fun e w' => e = .returned (.int .i64 (dropR t b).2) ∧ ∃ tv', Turned B R m tv tv' (dropR t b).1 w w' := by
  have hX := HB.new w [.int .u64 b] 24
  have hb1 := (Below.refl w.heap.size w).alloc (Nat.le_refl _) (.cells #[.int .u64 b] 24)
  obtain ⟨w1, hw1⟩ : ∃ w1, w.alloc (.cells #[.int .u64 b] 24) = w1 := ⟨_, rfl⟩
  have hX1 : HB w1 w.heap.size 24 [.int .u64 b] := by rw [← hw1]; exact hX
  rw [hw1] at hb1
  have h1 := h.later hb1
  obtain ⟨ao, cap, rfl, -, -, hr, -⟩ := h1.tv
  have k1 := h1.tab
  have h16 := h.tb.n
  have Hi := Lib.hid (index_any ao t.length cap t w.heap.size b w1 rfl (by omega) hr (hX1.cell (i := 0) rfl))
  have Hh := Lib.hid h
  have Hh1 := Lib.hid (fun w' (hb : Below w1.heap.size w1 w') => h1.later hb)
  have Hb1 := Lib.hid hb1
  have HBs := Lib.hid hB
  rcases ixR_cases t b with hix | ⟨i, hix⟩
  · have Hres := fun (_ : Unit) => Lib.hid (dropR_none hix)
    rw [hix] at Hi
    clear hX hX1 h hB h1 hr hb1 hix
    go_enter Try.func14, Try.ntmps14
    go_wp2_with fail
    refine Hi.out.mono ?_
    rintro e w2 ⟨rfl, hb2⟩
    have HS := Lib.hid (Hh.out.same (Hb1.out.trans (hb2.mono Hb1.out.size)))
    clear hb2 Hi k1 hw1
    go_wp2_with fail
    go_ret
    exact ⟨by rw [(Hres ()).out]; rfl, by rw [(Hres ()).out]; exact HS.out⟩
  · obtain ⟨hil, hdr⟩ := dropR_some hix
    have Hres := fun (_ : Unit) => Lib.hid hdr
    have Htab := Lib.hid (dropR_tab Hh.out.tb b)
    rw [hdr] at Htab
    rw [hix] at Hi
    clear hX hX1 h hB h1 hr hb1 hix hdr
    go_enter Try.func14, Try.ntmps14
    go_wp2_with fail
    refine Hi.out.mono ?_
    rintro e w2 ⟨rfl, hb2⟩
    have H2 := Lib.hid (Hh1.out _ hb2)
    have Hb2 := Lib.hid (Hb1.out.trans (hb2.mono Hb1.out.size))
    have k2 := H2.out.tab
    have Hd := Lib.hid (del_any H2.out.o i hil (by omega))
    have i0 : ¬ (i : Int) < 0 := by omega
    rw [show ((i + 1 : Nat) : Int) = (i : Int) + 1 by omega] at Hd
    clear hb2 Hi k1 hw1 Hh1
    go_wp2_with fail
    refine Hd.out.mono ?_
    rintro e w3 ⟨v3, rfl, ho3, hg3⟩
    have hP := turned_put H2.out ho3 hg3 Htab.out
    have y5 := hP.2.1
    have f5 := hP.2.2
    have HFin := fun (_ : Unit) => Lib.hid (show ∃ tv', Turned B R m (.slice ao t.length cap) tv' (t.take i ++ t.drop (i + 1)) w (w3.setCell ⟨R, 65536, none⟩ v3) from
      ⟨v3, hP.1.1, (Frm.later Hb2.out).trans hP.1.2, fun q hq => (hg3.k q hq).imp id (fun h => Nat.le_trans Hb2.out.size h)⟩)
    obtain ⟨a5, c5, rfl, -⟩ := ho3.rd rgc_len
    clear hP ho3 hg3 Hd k2
    generalize (t.take i ++ t.drop (i + 1)).length = n5 at *
    go_wp2_with fail
    clear y5 f5
    generalize w3.setCell _ _ = w6 at *
    go_ret
    exact ⟨by rw [(Hres ()).out]; rfl, by rw [(Hres ()).out]; exact (HFin ()).out⟩
set_option maxHeartbeats 1000000 in
theorem cloneg_any (ao : Option Addr) (n cap : Nat) (l : List Rg) (w : World) (hl : l.length = n) (hn : n ≤ 1000) (hc : ao = none → cap = 0) (hr : RdS rgc 6 w ao l) :
    Calls Try.prog 32 #[.slice ao n cap] w fun e w' => ∃ v, e = .returned v ∧ OwnS rgc 33 6 w' w.heap.size v l ∧ Below w.heap.size w w' := by
  have hq := fun (w : World) (a : Option Addr) (n cap : Nat) => Lib.run_eql_slice_nil (P := Try.prog) w 22 33 a n cap 0 0 Try.underlying22
  cases ao with
  | none =>
    obtain rfl := hc rfl
    have h0 : l = [] := by
      by_cases h0 : 0 < l.length
      · obtain ⟨_, _, e, _⟩ := hr 0 _ (List.getElem?_eq_getElem h0); cases e
      · exact List.eq_nil_of_length_eq_zero (by omega)
    subst h0
    obtain rfl : n = 0 := hl.symm
    go_enter Try.func32, Try.ntmps32
    go_wp2
    go_ret
    exact ⟨_, rfl, OwnS.nil _ _, Below.refl _ _⟩
  | some a =>
    have Hl := Lib.hid hl
    have Hn := Lib.hid hn
    have Hr := fun o => Lib.hid (hr.below ((Below.refl _ w).alloc (Nat.le_refl _) o))
    have hm : Hid (OwnS rgc 33 6 (w.alloc (.cells #[] 33)) w.heap.size (.slice (some ⟨w.heap.size, 0, none⟩) 0 0) []) := Lib.hid (World.ownsRow_made w #[] 0 (Nat.le_refl _) (by decide) rfl)
    clear hl hn hr
    go_enter Try.func32, Try.ntmps32
    go_wp2_with (at_builtin; refine wpList_append_SG rgLay rfl _ _ rfl w.heap.size (.slice (some ⟨w.heap.size, 0, none⟩) 0 0) [] rfl hm.out a n cap l rfl Hl.out (Hr _).out (by have := Hn.out; simp only [maxLen, List.length_nil]; omega) (by have := Hn.out; simp only [List.length_nil]; omega) (by simp) ?_)
    intro v' w' ho' hg'
    have HO := Lib.hid (And.intro ho' (((Below.refl w.heap.size w).alloc (Nat.le_refl _) _).grown hg'.g (by simp) (by intro k hk; cases hk; exact Nat.le_refl _)))
    clear ho' hg'
    go_wp2_with fail
    go_ret
    exact ⟨_, rfl, by simpa using HO.out.1, HO.out.2⟩
theorem regions_any {B R : Nat} {m : List UInt8} {tv : Value} {t : List Rg} {w : World} (h : RamM B R m tv t w) :
    Calls Try.prog 15 #[.pointer (some ⟨R, 0, none⟩)] w fun e w' => ∃ v, e = .returned v ∧ OwnS rgc 33 6 w' w.heap.size v t ∧ Below w.heap.size w w' := by
  obtain ⟨ao, cap, rfl, -, -, hr, hc⟩ := h.tv
  have k := h.tab
  have h16 := h.tb.n
  have Hc := Lib.hid (cloneg_any ao t.length cap t w rfl (by omega) hc hr)
  clear h hr hc
  go_enter Try.func15, Try.ntmps15
  go_wp2_with fail
  refine Hc.out.mono ?_
  rintro e w' ⟨v, rfl, ho, hb⟩
  have HO := Lib.hid (And.intro ho hb)
  clear ho hb Hc k
  go_wp2_with fail
  go_ret
  exact ⟨_, rfl, HO.out.1, HO.out.2⟩
end Go.Proofs.Ytcbiohpgmooefaa
