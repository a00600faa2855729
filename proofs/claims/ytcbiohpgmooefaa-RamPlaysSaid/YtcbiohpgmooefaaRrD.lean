/- The document's RAM: a region is dropped. No condition. -/
import Derived.Test.YtcbiohpgmooefaaRrS
import Derived.Test.YtcbiohpgmooefaaRmX
set_option linter.unusedVariables false
set_option linter.unusedSimpArgs false
namespace Go.Proofs.Ytcbiohpgmooefaa
open Go.RowKit
/-- the document's table may be another, wholly new -/
structure RTurned (B R : Nat) (m : List UInt8) (tv tv' : Value) (t' : List Rg) (w w' : World) : Prop where
  r : RefM B R m tv' t' w'
  f : Frm (fun q => q = R) w w'
  k : ∀ q, tv'.ownBlock = some q → tv.ownBlock = some q ∨ w.heap.size ≤ q
theorem RefM.newtab {B R : Nat} {m : List UInt8} {tv v' : Value} {t t' : List Rg} {w w5 : World} (h : RefM B R m tv t w) (hB : B ≤ w.heap.size) (hb : Below w.heap.size w w5) (ho : OwnS rgc 33 6 w5 w.heap.size v' t') (ht : Tab t') :
    RTurned B R m tv v' t' w (w5.setCell ⟨R, 65536, none⟩ v') ∧ w5.cell? ⟨R, 65536, none⟩ = some tv ∧ w5.frozen? ⟨R, 65536, none⟩ = false := by
  have h5 := h.later hb
  have hs := h5.h.set 65536 v'
  rw [ramC_set h.l] at hs
  have hnv : v'.ownBlock ≠ some R := fun e => by have := (ho.blk rgc_len R e).1; have := h.h.lt; omega
  have hf : Frm (fun q => q = R) w5 (w5.setCell ⟨R, 65536, none⟩ v') := Frm.grown (grown_set w5 ⟨R, 65536, none⟩ v') (fun k h => (Option.some.inj h).symm)
  exact ⟨⟨⟨hs, h.l, (ho.mono hB).frm hf (fun k hk e => hnv (by rw [hk, e])), ht, h.b, hnv⟩, (Frm.later hb).trans hf, fun q hq => .inr (ho.blk rgc_len q hq).1⟩, h5.h.cell (ramC_t h.l), h5.h.frozen _⟩
theorem rds_take {w : World} {b o : Nat} {t : List Rg} (h : RdS rgc 6 w (some ⟨b, o, none⟩) t) (k : Nat) : RdS rgc 6 w (some ⟨b, o, none⟩) (t.take k) := fun j g hj => by
  rw [List.getElem?_take] at hj
  split at hj
  · exact h j g hj
  · cases hj
theorem rds_drop {w : World} {b o : Nat} {t : List Rg} (h : RdS rgc 6 w (some ⟨b, o, none⟩) t) (k : Nat) : RdS rgc 6 w (some ⟨b, o + k * 6, none⟩) (t.drop k) := fun j g hj => by
  rw [List.getElem?_drop] at hj
  obtain ⟨b', o', e, hlt, hc⟩ := h (k + j) g hj
  cases e
  exact ⟨b, o + k * 6, rfl, hlt, fun i u hi => by rw [show o + k * 6 + j * 6 + i = o + (k + j) * 6 + i by omega]; exact hc i u hi⟩
structure RdIn (t : List Rg) (b : Nat) (w : World) (i : Value) (wr : World) : Prop where
  x : ∃ k : Nat, k ≤ t.length ∧ i = .int .i64 k ∧ k ≤ idxR t b ∧ w = wr
set_option maxHeartbeats 2000000 in
theorem rdrop_any {B R : Nat} {m : List UInt8} {tv : Value} {t : List Rg} {w : World} (h : RefM B R m tv t w) (hB : B ≤ w.heap.size) (b : Nat) :
    Calls Try.prog 34 #[.pointer (some ⟨R, 0, none⟩), .int .u64 b] w fun e w' => e = .returned (.int .i64 (dropR t b).2) ∧ ∃ tv', RTurned B R m tv tv' (dropR t b).1 w w' := by
  have Hh := Lib.hid h
  have HB := Lib.hid hB
  have h16 := h.tb.n
  obtain ⟨ao, cap, rfl, hcap, -, hr, -⟩ := h.tv
  have k0 := h.tab
  have Hr := Lib.hid hr
  clear h hB hr
  go_enter Try.func34, Try.ntmps34
  go_wp2_with fail
  go_loopw [5, 6] (fun i _ wr => RdIn t b w i wr) (fun i _ _ => t.length - (intOf i).toNat)
  case atStart => exact ⟨0, Nat.zero_le _, rfl, Nat.zero_le _, rfl⟩
  case round =>
    obtain ⟨k, hk, rfl, hki, rfl⟩ := hrel
    by_cases hkl : k < t.length
    · have q1 : (k : Int) < (t.length : Int) := by omega
      obtain ⟨g, hg⟩ : ∃ g, t[k]? = some g := ⟨_, List.getElem?_eq_getElem hkl⟩
      obtain ⟨b0, o0, rfl, -, hcl⟩ := Hr.out k g hg
      have c0 : w.cell? ⟨b0, o0 + k * 6, none⟩ = some (.int .u64 g.base) := hcl 0 _ rfl
      by_cases hgb : g.base = b
      · subst hgb
        have hidx := idx_hit hg rfl hki
        have Hres := fun (_ : Unit) => Lib.hid (dropR_some (t := t) (b := g.base) (i := k) (by unfold ixR; rw [hidx, if_pos hkl])).2
        have Htab := fun (_ : Unit) => Lib.hid (dropR_tab Hh.out.tb g.base)
        have q2 : (k : Int) ≤ (t.length : Int) := by omega
        have q3 : (k : Int) ≤ (cap : Int) := by omega
        have q4 : k ≤ t.length := hk
        clear hcl hidx hki hg hk
        have Hr1 := fun (_ : Unit) => Lib.hid (rds_take Hr.out k)
        go_wp2_with (at_builtin; refine wpList_append_SG rgLay rfl _ _ rfl w.heap.size (.slice none 0 0) [] rfl (OwnS.nil _ _) ⟨b0, o0, none⟩ k cap (t.take k) rfl (by rw [List.length_take]; omega) (Hr1 ()).out (by simp only [maxLen, List.length_nil]; omega) (by simp only [List.length_nil]; omega) (Nat.le_refl _) ?_)
        intro v1 w1 ho1 hg1
        have hb1 : Below w.heap.size w w1 := (Below.refl _ w).grown hg1.g (Nat.le_refl _) (by intro k hk; cases hk)
        have h1 := Hh.out.later hb1
        have k1 := h1.tab
        obtain ⟨sa, hsa⟩ : ∃ sa : Addr, (if cap = k + 1 then (⟨b0, o0, none⟩ : Addr) else ⟨b0, o0 + (k + 1) * 6, none⟩) = sa := ⟨_, rfl⟩
        have Hr2 : Hid (RdS rgc 6 w1 (some sa) (t.drop (k + 1))) := Lib.hid (by
          rw [← hsa]
          split
          · rw [List.drop_eq_nil_of_le (by omega)]; intro j g hj; cases hj
          · exact rds_drop (Hr.out.below hb1) (k + 1))
        have hsa' : (if cap = k + 1 then (some ⟨b0, o0, none⟩ : Option Addr) else some ⟨b0, o0 + (k + 1) * 6, none⟩) = some sa := by rw [← hsa]; split <;> rfl
        have Ho1 := Lib.hid ho1
        have Hb1 := Lib.hid hb1
        have Hh1 := Lib.hid h1
        clear hg1 hb1 h1 ho1 k0 c0 Hr Hr1 hsa
        have q5 : ((k : Int) + 1) ≤ (t.length : Int) := by omega
        go_wp2_with (at_builtin; refine wpList_append_SG rgLay rfl _ _ rfl w.heap.size v1 (t.take k) rfl Ho1.out sa (t.length - (k + 1)) (cap - (k + 1)) (t.drop (k + 1)) rfl (by rw [List.length_drop]) Hr2.out (by simp only [maxLen, List.length_take]; omega) (by simp only [List.length_take]; omega) Hb1.out.size ?_)
        intro v2 w2 ho2 hg2
        have hb2 : Below w.heap.size w w2 := Hb1.out.grown hg2.g Hb1.out.size (fun q hq => (Ho1.out.blk rgc_len q hq).1)
        obtain ⟨a2, c2, rfl, -, -, -, -⟩ := ho2.rd rgc_len
        have HN := RefM.newtab Hh.out HB.out hb2 ho2 (by have := (Htab ()).out; rw [(Hres ()).out] at this; exact this)
        obtain ⟨hN, k2, f2⟩ := HN
        have HN := Lib.hid hN
        clear hN hg2 hb2 ho2 k1 Ho1 Hb1 Hh1 Htab Hr2 hsa'
        generalize (t.take k ++ t.drop (k + 1)).length = n2 at *
        go_wp2_with fail
        go_ret
        exact ⟨by rw [(Hres ()).out]; rfl, by rw [(Hres ()).out]; exact ⟨_, HN.out⟩⟩
      · have i1 : ¬ (g.base : Int) = (b : Int) := by omega
        have hnext := idx_miss hg hgb hki
        clear hcl hg hgb hki
        go_wp2_with fail
        first
        | (go_roundw
           case rel => exact ⟨k + 1, by omega, by go_num, hnext, rfl⟩
           case measure => (first | omega | (simp [intOf] <;> omega) | (simp only [intOf] <;> omega)))
        | exact ⟨⟨k + 1, by omega, by go_num, hnext, rfl⟩, by (first | omega | (simp [intOf] <;> omega) | (simp only [intOf] <;> omega))⟩
        | (refine ⟨?_, by (first | omega | (simp [intOf] <;> omega) | (simp only [intOf] <;> omega))⟩
           (repeat apply Exists.intro)
           refine (fun a b => And.intro b a) ?_ ?_
           · first | rfl | ((repeat refine ⟨rfl, ?_⟩); rfl)
           exact ⟨k + 1, by omega, by go_num, hnext, rfl⟩)
    · have q1 : ¬ (k : Int) < (t.length : Int) := by omega
      have Hres := fun (_ : Unit) => Lib.hid (dropR_none (t := t) (b := b) (if_neg (by omega)))
      clear hki
      go_wp2_with fail
      go_ret
      exact ⟨by rw [(Hres ()).out]; rfl, by rw [(Hres ()).out]; exact ⟨_, Hh.out, Frm.refl _ _, fun q hq => .inl hq⟩⟩
end Go.Proofs.Ytcbiohpgmooefaa
