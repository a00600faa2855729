/- slices.ContainsFunc with memmap's predicates. No condition. -/
import Derived.Test.YthhodibfbfmijaaMapP
import Derived.Shelf.Abstract
set_option linter.unusedVariables false
set_option linter.unusedSimpArgs false
namespace Go.Proofs.Ythhodibfbfmijaa
open Go.RowKit
/-- two cells of a block, that hold a piece -/
def Pc (w : World) (g b n : Nat) : Prop := g < w.heap.size ∧ w.cell? ⟨g, 0, none⟩ = some (.int .u64 b) ∧ w.cell? ⟨g, 1, none⟩ = some (.int .u64 n)
theorem Pc.below {w w' : World} {g b n : Nat} (h : Pc w g b n) (hb : Below w.heap.size w w') : Pc w' g b n :=
  ⟨Nat.lt_of_lt_of_le h.1 hb.size, by rw [hb.cell (p := ⟨g, 0, none⟩) h.1]; exact h.2.1, by rw [hb.cell (p := ⟨g, 1, none⟩) h.1]; exact h.2.2⟩
theorem pred_any (g b n : Nat) (t : Rg) (w : World) (hp : Pc w g b n) (hb : b < 18446744073709551616) (ht : t.base < 18446744073709551616) :
    Calls Try.prog 29 #[rgv t, .pointer (some ⟨g, 0, none⟩)] w fun e w' => e = .returned (.bool (ov b n t.base t.size)) ∧ Below w.heap.size w w' := by
  obtain ⟨tb, tn, tr, tw, tx, ts⟩ := t
  obtain ⟨hg, h0, h1⟩ := hp
  have HB0 : ∀ o1, Hid (Below w.heap.size w (w.alloc o1)) := fun o1 => Lib.hid ((Below.refl _ w).alloc (Nat.le_refl _) o1)
  have Ho := fun w => Lib.hid (overlap_any b n tb tn w hb ht)
  unfold rgv
  unfold pc at Ho
  generalize ov b n tb tn = r at *
  clear hb ht
  go_enter Try.func29, Try.ntmps29
  go_wp2_with fail
  refine (Ho _).out.mono ?_
  rintro e w' ⟨rfl, hb1⟩
  have hB := (HB0 _).out.trans (hb1.mono (HB0 _).out.size)
  go_wp2_with fail
  go_ret
  exact ⟨rfl, hB⟩
structure IdxIn (l : List Rg) (b n : Nat) (w : World) (i : Value) (wr : World) : Prop where
  x : ∃ k : Nat, k ≤ l.length ∧ i = .int .i64 k ∧ freeR (l.take k) b n = true ∧ Below w.heap.size w wr
set_option maxHeartbeats 1000000 in
theorem index_any (ao : Option Addr) (len cap : Nat) (l : List Rg) (g b n : Nat) (w : World) (hl : l.length = len) (hbig : len ≤ 9223372036854775807) (hr : RdG w ao l) (hok : RgsOk l) (hp : Pc w g b n) (hb : b < 18446744073709551616) :
    Calls Try.prog 37 #[.slice ao len cap, .func (.func 29) #[] #[.pointer (some ⟨g, 0, none⟩)]] w fun e w' => (∃ k : Int, e = .returned (.int .i64 k) ∧ (freeR l b n = true → k = -1) ∧ (freeR l b n = false → 0 ≤ k)) ∧ Below w.heap.size w w' := by
  subst hl
  have eg : ∀ args w, (callFunc 29 args).run Try.prog w = .ok (.enter 29 args) w := fun args w => by kernel_rfl
  have H0 := Lib.hid (show freeR (l.take 0) b n = true from rfl)
  have Hhb := Lib.hid hb
  clear hb
  go_enter Try.func37, Try.ntmps37
  go_wp2_with fail
  go_loopw [5, 8] (fun _ i wr => IdxIn l b n w i wr) (fun _ i _ => l.length - (intOf i).toNat)
  case atStart => exact ⟨0, by omega, rfl, H0.out, Below.refl _ _⟩
  case round =>
    obtain ⟨k, hk, rfl, hf, hd⟩ := hrel
    have Hhf := Lib.hid hf
    clear hf
    have hr' := hr.below hd
    by_cases hlt : k < l.length
    · obtain ⟨bb, off, rfl, -, hc⟩ := hr' k hlt
      have hs := Lib.hid (freeR_snoc l b n k hlt)
      have hh := Lib.hid (freeR_hit l b n k hlt)
      have hg := Lib.hid (hok _ (gAt_mem hlt))
      have c0 := hc 0 _ rfl
      have c1 := hc 1 _ rfl
      have c2 := hc 2 _ rfl
      have c3 := hc 3 _ rfl
      have c4 := hc 4 _ rfl
      have c5 := hc 5 _ rfl
      clear hc hr' hr
      simp only [Nat.add_zero] at c0
      have Hp := fun w' h => Lib.hid (pred_any g b n (gAt l k) w' h Hhb.out hg.out.1)
      have hpw := hp.below hd
      generalize gAt l k = t at *
      obtain ⟨gb, gn, gr, gw, gx, gs⟩ := t
      unfold rgv at Hp
      have e0 : (0 : Int) ≤ (k : Int) := by omega
      have e1 : (k : Int) < (l.length : Int) := by omega
      cases ho : ov b n gb gn
      · have hF := Lib.hid (show freeR (l.take (k + 1)) b n = true by rw [hs.out, Hhf.out, ho]; rfl)
        rw [ho] at Hp
        clear ho hs hh
        go_wp2_with (go_at_fn 29; refine (Hp _ hpw).out.mono ?_; rintro e w' ⟨rfl, hb'⟩)
        have hd2 := hd.trans (hb'.mono hd.size)
        clear c0 c1 c2 c3 c4 c5
        go_wp2_with fail
        first
        | (go_roundw
           case rel => exact ⟨k + 1, by omega, by go_num, hF.out, hd2⟩
           case measure => (first | omega | (simp [intOf] <;> omega) | (simp only [intOf] <;> omega)))
        | exact ⟨⟨k + 1, by omega, by go_num, hF.out, hd2⟩, by (first | omega | (simp [intOf] <;> omega) | (simp only [intOf] <;> omega))⟩
        | (refine ⟨?_, by (first | omega | (simp [intOf] <;> omega) | (simp only [intOf] <;> omega))⟩
           (repeat apply Exists.intro)
           refine (fun a b => And.intro b a) ?_ ?_
           · first | rfl | ((repeat refine ⟨rfl, ?_⟩); rfl)
           exact ⟨k + 1, by omega, by go_num, hF.out, hd2⟩)
      · have hF := Lib.hid (hh.out ho)
        rw [ho] at Hp
        clear ho hs hh
        go_wp2_with (go_at_fn 29; refine (Hp _ hpw).out.mono ?_; rintro e w' ⟨rfl, hb'⟩)
        have hd2 := hd.trans (hb'.mono hd.size)
        clear c0 c1 c2 c3 c4 c5
        go_wp2_with fail
        go_ret
        exact ⟨⟨k, rfl, fun h => (by rw [hF.out] at h; cases h), fun _ => by omega⟩, hd2⟩
    · obtain rfl : k = l.length := by omega
      have hF := Lib.hid (show freeR l b n = true by have := Hhf.out; rwa [List.take_length] at this)
      go_wp2_with fail
      go_ret
      exact ⟨⟨-1, rfl, fun _ => rfl, fun h => by rw [hF.out] at h; cases h⟩, hd⟩
theorem contains_any (ao : Option Addr) (len cap : Nat) (l : List Rg) (g b n : Nat) (w : World) (hl : l.length = len) (hbig : len ≤ 9223372036854775807) (hr : RdG w ao l) (hok : RgsOk l) (hp : Pc w g b n) (hb : b < 18446744073709551616) :
    Calls Try.prog 28 #[.slice ao len cap, .func (.func 29) #[] #[.pointer (some ⟨g, 0, none⟩)]] w fun e w' => e = .returned (.bool (!freeR l b n)) ∧ Below w.heap.size w w' := by
  have Hi := Lib.hid (index_any ao len cap l g b n w hl hbig hr hok hp hb)
  clear hr hok hp hb hl
  cases hf : freeR l b n
  · rw [hf] at Hi
    go_enter Try.func28, Try.ntmps28
    go_wp2_with fail
    refine Hi.out.mono ?_
    rintro e w' ⟨⟨k, rfl, h1, h2⟩, hb⟩
    have hk := h2 trivial
    clear h1 h2
    go_wp2_with fail
    go_ret
    exact ⟨rfl, hb⟩
  · rw [hf] at Hi
    go_enter Try.func28, Try.ntmps28
    go_wp2_with fail
    refine Hi.out.mono ?_
    rintro e w' ⟨⟨k, rfl, h1, h2⟩, hb⟩
    have hk := h1 trivial
    clear h1 h2
    subst hk
    go_wp2_with fail
    go_ret
    exact ⟨rfl, hb⟩
end Go.Proofs.Ythhodibfbfmijaa
