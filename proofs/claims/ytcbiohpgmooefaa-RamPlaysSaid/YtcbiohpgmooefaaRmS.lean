/- Where an address lies: within, end, the place of a region. No condition. -/
import Derived.Test.YtcbiohpgmooefaaRmM
import Derived.Shelf.Abstract
set_option linter.unusedVariables false
set_option linter.unusedSimpArgs false
namespace Go.Proofs.Ytcbiohpgmooefaa
open Go.RowKit
theorem fits_any (f s l : Nat) (w : World) (hl : l < 18446744073709551616) :
    Calls Try.prog 41 #[.int .u64 f, .int .u64 s, .int .u64 l] w fun e w' => e = .returned (.bool (decide (f + s ≤ l))) ∧ w = w' := by
  by_cases h1 : f ≤ l
  · have i1 : (f : Int) ≤ (l : Int) := by omega
    have e1 : IntKind.u64.wrap ((l : Int) - (f : Int)) = ((l - f : Nat) : Int) := by rw [IntWalk.u64_in _ (by omega)]; omega
    by_cases h2 : s ≤ l - f
    · have i2 : (s : Int) ≤ ((l - f : Nat) : Int) := by omega
      have Hd := Lib.hid (show decide (f + s ≤ l) = true from decide_eq_true (by omega))
      clear h1 h2 hl
      generalize ((l - f : Nat) : Int) = d at *
      go_enter Try.func41, Try.ntmps41
      go_wp2_with fail
      go_ret
      exact ⟨by rw [Hd.out]; rfl, rfl⟩
    · have i2 : ¬ (s : Int) ≤ ((l - f : Nat) : Int) := by omega
      have Hd := Lib.hid (show decide (f + s ≤ l) = false from decide_eq_false (by omega))
      clear h1 h2 hl
      generalize ((l - f : Nat) : Int) = d at *
      go_enter Try.func41, Try.ntmps41
      go_wp2_with fail
      go_ret
      exact ⟨by rw [Hd.out]; rfl, rfl⟩
  · have i1 : ¬ (f : Int) ≤ (l : Int) := by omega
    have Hd := Lib.hid (show decide (f + s ≤ l) = false from decide_eq_false (by omega))
    clear h1 hl
    go_enter Try.func41, Try.ntmps41
    go_wp2_with fail
    go_ret
    exact ⟨by rw [Hd.out]; rfl, rfl⟩
theorem within_any (b n : Nat) (w : World) (hb : b < 18446744073709551616) :
    Calls Try.prog 24 #[.int .u64 b, .int .u64 n] w fun e w' => e = .returned (.bool (inRam b n)) ∧ w = w' := by
  by_cases h1 : 1073741824 ≤ b
  · have i1 : (1073741824 : Int) ≤ (b : Int) := by omega
    have e1 : IntKind.u64.wrap ((b : Int) - 1073741824) = ((b - 1073741824 : Nat) : Int) := by rw [IntWalk.u64_in _ (by omega)]; omega
    have Hf := Lib.hid (fits_any (b - 1073741824) n 65536 w (by decide))
    have Hd := Lib.hid (show decide (b - 1073741824 + n ≤ 65536) = inRam b n by
      unfold inRam
      exact decide_eq_decide.2 (by omega))
    rw [Hd.out] at Hf
    clear Hd h1 hb
    generalize b - 1073741824 = d at *
    generalize inRam b n = r at *
    go_enter Try.func24, Try.ntmps24
    go_wp2_with fail
    refine Hf.out.mono ?_
    rintro e w' ⟨rfl, rfl⟩
    clear Hf
    go_wp2_with fail
    go_ret
    exact ⟨rfl, rfl⟩
  · have i1 : ¬ (1073741824 : Int) ≤ (b : Int) := by omega
    have Hd := Lib.hid (show inRam b n = false by
      cases hh : inRam b n
      · rfl
      · have := inRam_iff.1 hh
        omega)
    clear h1 hb
    go_enter Try.func24, Try.ntmps24
    go_wp2_with fail
    go_ret
    exact ⟨by rw [Hd.out]; rfl, rfl⟩
theorem end_any (g : Rg) (w : World) (h : g.base + g.size < 18446744073709551616) :
    Calls Try.prog 26 #[rgv g] w fun e w' => e = .returned (.int .u64 ((g.base + g.size : Nat) : Int)) ∧ Below w.heap.size w w' := by
  obtain ⟨b, n, r, wr, x, s⟩ := g
  unfold rgv
  simp only at h ⊢
  have e1 : IntKind.u64.wrap ((b : Int) + (n : Int)) = ((b + n : Nat) : Int) := by rw [IntWalk.u64_in _ (by omega)]; omega
  have HB := fun o => Lib.hid ((Below.refl _ w).alloc (Nat.le_refl _) o)
  clear h
  generalize ((b + n : Nat) : Int) = d at *
  go_enter Try.func26, Try.ntmps26
  go_wp2_with fail
  go_ret
  exact ⟨rfl, (HB _).out⟩
/-- what the search asks -/
theorem cmp_any (g : Rg) (at' : Nat) (w : World) (h : g.base + g.size < 18446744073709551616) :
    Calls Try.prog 43 #[rgv g, .int .u64 at'] w fun e w' => e = .returned (.int .i64 (if g.base + g.size ≤ at' then -1 else 1)) ∧ Below w.heap.size w w' := by
  have He := Lib.hid (fun w' => end_any g w' h)
  have HB := fun o => Lib.hid ((Below.refl _ w).alloc (Nat.le_refl _) o)
  obtain ⟨b, n, r, wr, x, s⟩ := g
  unfold rgv at He ⊢
  simp only at h He ⊢
  generalize b + n = d at *
  by_cases hd : d ≤ at'
  · have i1 : (d : Int) ≤ (at' : Int) := by omega
    have Hd := Lib.hid (show (if d ≤ at' then (-1 : Int) else 1) = -1 from if_pos hd)
    clear hd h
    go_enter Try.func43, Try.ntmps43
    go_wp2_with fail
    refine (He.out _).mono ?_
    rintro e w' ⟨rfl, hb⟩
    have HB2 := Lib.hid ((HB _).out.trans (hb.mono (HB _).out.size))
    clear hb He
    go_wp2_with fail
    go_ret
    exact ⟨rfl, HB2.out⟩
  · have i1 : ¬ (d : Int) ≤ (at' : Int) := by omega
    have Hd := Lib.hid (show (if d ≤ at' then (-1 : Int) else 1) = 1 from if_neg hd)
    clear hd h
    go_enter Try.func43, Try.ntmps43
    go_wp2_with fail
    refine (He.out _).mono ?_
    rintro e w' ⟨rfl, hb⟩
    have HB2 := Lib.hid ((HB _).out.trans (hb.mono (HB _).out.size))
    clear hb He
    go_wp2_with fail
    go_ret
    exact ⟨rfl, HB2.out⟩
structure BsIn (l : List Rg) (at' : Nat) (w : World) (iv jv : Value) (wr : World) : Prop where
  x : ∃ i j : Nat, i ≤ aft l at' ∧ aft l at' ≤ j ∧ j ≤ l.length ∧ iv = .int .i64 i ∧ jv = .int .i64 j ∧ Below w.heap.size w wr
set_option maxHeartbeats 1000000 in
theorem bs_any (ao : Option Addr) (n cap : Nat) (l : List Rg) (at' : Nat) (w : World) (hl : l.length = n) (ht : Tab l) (hr : RdS rgc 6 w ao l) :
    Calls Try.prog 42 #[.slice ao n cap, .int .u64 at', .func (.func 43) #[] #[]] w fun e w' => e = .returned (.tuple #[.int .i64 (aft l at' : Nat), .bool false]) ∧ Below w.heap.size w w' := by
  have eg : ∀ args w, (callFunc 43 args).run Try.prog w = .ok (.enter 43 args) w := fun args w => by kernel_rfl
  have Hl := Lib.hid hl
  have Ht := Lib.hid ht
  have Hr := Lib.hid (fun w' (h : Below w.heap.size w w') => hr.below h)
  have Hn16 : Hid (n ≤ 16) := Lib.hid (by have := ht.n; omega)
  clear hl ht hr
  go_enter Try.func42, Try.ntmps42
  go_wp2_with fail
  go_loopw [9, 10, 11] (fun i j _ wr => BsIn l at' w i j wr) (fun i j _ _ => (intOf j).toNat - (intOf i).toNat)
  case atStart => exact ⟨0, n, Nat.zero_le _, by have := aft_le l at'; have := Hl.out; omega, by have := Hl.out; omega, rfl, rfl, Below.refl _ _⟩
  case round =>
    as_aux_lemma =>
    obtain ⟨i, j, hi, hj, hjl, rfl, rfl, hb⟩ := hrel
    have Hb := Lib.hid hb
    have hn16 := Hn16.out
    have hln := Hl.out
    by_cases hij : i < j
    · have f1 : (i : Int) < (j : Int) := by omega
      obtain ⟨h, hh⟩ : ∃ h : Nat, (i + j) / 2 = h := ⟨_, rfl⟩
      have hh1 : i ≤ h ∧ h < j := by omega
      obtain ⟨g, hg⟩ : ∃ g, l[h]? = some g := ⟨_, List.getElem?_eq_getElem (by omega)⟩
      obtain ⟨b0, o0, rfl, hb0, hcl⟩ := Hr.out wr hb h g hg
      have c0 : wr.cell? ⟨b0, o0 + h * 6, none⟩ = _ := hcl 0 _ rfl
      have c1 := hcl 1 _ rfl
      have c2 := hcl 2 _ rfl
      have c3 := hcl 3 _ rfl
      have c4 := hcl 4 _ rfl
      have c5 := hcl 5 _ rfl
      have fh : ((i : Int) + (j : Int)) / 2 = (h : Int) := by omega
      have hgr := Ht.out.at hg
      have Hc := Lib.hid (cmp_any g at' wr (by omega))
      have Hn2 : Hid (j ≤ 16 ∧ h ≤ 15) := Lib.hid (by omega)
      have hif := aft_iff Ht.out hg (a := at')
      unfold rgv at Hc
      clear hcl hg hgr Hr Hl hb
      by_cases hd : g.base + g.size ≤ at'
      · have hh2 := hif.1 hd
        rw [if_pos hd] at Hc
        clear hd hif
        go_wp2_with fail
        refine Hc.out.mono ?_
        rintro e w' ⟨rfl, hb'⟩
        have Hb' := Lib.hid (Hb.out.trans (hb'.mono Hb.out.size))
        clear hb' Hc c0 c1 c2 c3 c4 c5 Hb
        go_wp2_with fail
        first
        | (go_roundw
           case rel => exact ⟨h + 1, j, by omega, by omega, by omega, by go_num, rfl, Hb'.out⟩
           case measure => (first | omega | (simp [intOf] <;> omega) | (simp only [intOf] <;> omega)))
        | exact ⟨⟨h + 1, j, by omega, by omega, by omega, by go_num, rfl, Hb'.out⟩, by (first | omega | (simp [intOf] <;> omega) | (simp only [intOf] <;> omega))⟩
        | (refine ⟨?_, by (first | omega | (simp [intOf] <;> omega) | (simp only [intOf] <;> omega))⟩
           (repeat apply Exists.intro)
           refine (fun a b => And.intro b a) ?_ ?_
           · first | rfl | ((repeat refine ⟨rfl, ?_⟩); rfl)
           exact ⟨h + 1, j, by omega, by omega, by omega, by go_num, rfl, Hb'.out⟩)
      · have hh2 : aft l at' ≤ h := by
          rcases Nat.lt_or_ge h (aft l at') with h3 | h3
          · exact absurd (hif.2 h3) hd
          · exact h3
        rw [if_neg hd] at Hc
        clear hd hif
        go_wp2_with fail
        refine Hc.out.mono ?_
        rintro e w' ⟨rfl, hb'⟩
        have Hb' := Lib.hid (Hb.out.trans (hb'.mono Hb.out.size))
        clear hb' Hc c0 c1 c2 c3 c4 c5 Hb
        go_wp2_with fail
        first
        | (go_roundw
           case rel => exact ⟨i, h, by omega, by omega, by omega, rfl, rfl, Hb'.out⟩
           case measure => (first | omega | (simp [intOf] <;> omega) | (simp only [intOf] <;> omega)))
        | exact ⟨⟨i, h, by omega, by omega, by omega, rfl, rfl, Hb'.out⟩, by (first | omega | (simp [intOf] <;> omega) | (simp only [intOf] <;> omega))⟩
        | (refine ⟨?_, by (first | omega | (simp [intOf] <;> omega) | (simp only [intOf] <;> omega))⟩
           (repeat apply Exists.intro)
           refine (fun a b => And.intro b a) ?_ ?_
           · first | rfl | ((repeat refine ⟨rfl, ?_⟩); rfl)
           exact ⟨i, h, by omega, by omega, by omega, rfl, rfl, Hb'.out⟩)
    · have f1 : ¬ (i : Int) < (j : Int) := by omega
      have Hia : Hid (i = aft l at') := Lib.hid (by omega)
      by_cases hin : i < n
      · have f2 : (i : Int) < (n : Int) := by omega
        have hgl : i < l.length := by omega
        obtain ⟨g, hg⟩ : ∃ g, l[i]? = some g := ⟨_, List.getElem?_eq_getElem hgl⟩
        obtain ⟨b0, o0, rfl, hb0, hcl⟩ := Hr.out wr hb i g hg
        have c0 : wr.cell? ⟨b0, o0 + i * 6, none⟩ = _ := hcl 0 _ rfl
        have c1 := hcl 1 _ rfl
        have c2 := hcl 2 _ rfl
        have c3 := hcl 3 _ rfl
        have c4 := hcl 4 _ rfl
        have c5 := hcl 5 _ rfl
        have hgr := Ht.out.at hg
        have Hc := Lib.hid (cmp_any g at' wr (by omega))
        rw [if_neg (by have := aft_at (a := at') (by rw [← Hia.out]; exact hg); omega)] at Hc
        unfold rgv at Hc
        clear hgl hcl hg hgr Hr Hl hb
        clear hi hj hjl hn16 hln
        go_wp2_with fail
        refine Hc.out.mono ?_
        rintro e w' ⟨rfl, hb'⟩
        have Hb' := Lib.hid (Hb.out.trans (hb'.mono Hb.out.size))
        clear hb' Hc c0 c1 c2 c3 c4 c5 Hb
        go_wp2_with fail
        go_ret2
        exact ⟨by rw [← Hia.out]; rfl, Hb'.out⟩
      · have f2 : ¬ (i : Int) < (n : Int) := by omega
        clear hb Hr hi hj hjl hn16 hln
        go_wp2_with fail
        go_ret2
        exact ⟨by rw [← Hia.out]; rfl, Hb.out⟩
theorem after_any {B R : Nat} {m : List UInt8} {tv : Value} {t : List Rg} {w : World} (h : RamM B R m tv t w) (at' : Nat) :
    Calls Try.prog 25 #[.pointer (some ⟨R, 0, none⟩), .int .u64 at'] w fun e w' => e = .returned (.int .i64 (aft t at' : Nat)) ∧ Below w.heap.size w w' := by
  obtain ⟨ao, cap, rfl, -, -, hr, -⟩ := h.tv
  have k := h.tab
  have Hb := Lib.hid (bs_any ao t.length cap t at' w rfl h.tb hr)
  clear h hr
  go_enter Try.func25, Try.ntmps25
  go_wp2_with fail
  refine Hb.out.mono ?_
  rintro e w' ⟨rfl, hb⟩
  have HB := Lib.hid hb
  clear hb Hb k
  go_wp2_with fail
  go_ret
  exact ⟨rfl, HB.out⟩
end Go.Proofs.Ytcbiohpgmooefaa
