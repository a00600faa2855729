/- The document's Open of bytes that are no state. No condition. (Written by sharb.py.) -/
import Derived.Test.YtngkelflfahjbaaDoorShaRo
set_option linter.unusedVariables false
set_option linter.unusedSimpArgs false
namespace Go.Proofs.YtngkelflfahjbaaDoor
open Go.RowKit
attribute [local go_sem ↓] Go.wp_at_zero Go.wp_at_succ build_ro
set_option maxRecDepth 100000 in
set_option maxHeartbeats 2000000 in
theorem ropen_bad3 (ao : Option Addr) (len cap : Nat) (l : List UInt8) (w : World) (k n : Nat) (hl : l.length = len) (hlen : len ≤ 140737488355000) (hcap : len ≤ cap) (hnil : ao = none → cap = 0) (hr : Rd w ao l) (hlt : ∀ a, ao = some a → a.block < w.heap.size) (hk : 1 ≤ k ∧ k ≤ 3) (hk0 : (l[0]?.getD 0).toNat = k) (hn : beN (piece l 1 8) = n) (h9 : 9 ≤ len) (hbad : ¬ (n ≤ 2305843009213693951 ∧ len = 9 + wK k + n % sizeW (wK k))) :
    Calls Tryd.prog 24 #[.slice ao len cap] w fun e w' => e = .returned (.tuple #[.pointer none, .bool false]) ∧ w = w' := by
  have hW := size_kind hk
  have hnb : n < 18446744073709551616 := by
    have h := beN_lt (piece l 1 8)
    rw [hn] at h
    have h2 : (piece l 1 8).length ≤ 8 := by unfold piece; rw [List.length_take]; exact Nat.min_le_left _ _
    exact Nat.lt_of_lt_of_le h (Nat.pow_le_pow_right (by decide) h2)
  have Hnb := Lib.hid hnb
  clear hnb
  obtain ⟨b0, o0, hao, hc0⟩ := hr 0 (by omega)
  rw [hk0, Nat.add_zero] at hc0
  have g1 : IntKind.i64.wrap (k : Int) = (k : Int) := IntWalk.i64_in _ (by omega)
  have g2 : ¬ (len : Int) < 9 := by omega
  have g3 : ¬ (k : Int) < 1 := by omega
  have g4 : ¬ (3 : Int) < (k : Int) := by omega
  have g5 : (0 : Int) < (len : Int) := by omega
  have g6 : 0 < len := by omega
  have Hkd := Lib.hid (fun w => kind_any k w hk)
  have Hl := Lib.hid hl
  have Hlen0 := Lib.hid hlen
  have Hcap := Lib.hid hcap
  have Hnil := Lib.hid hnil
  have Hr := Lib.hid hr
  have Hlt := Lib.hid hlt
  have Hk := Lib.hid hk
  have Hn0 := Lib.hid hn
  have Hbad := Lib.hid hbad
  have H99 := Lib.hid h9
  clear hl hlen hcap hnil hr hlt hk hk0 hn hbad h9
  subst hao
  have HW := Lib.hid hW
  generalize rnds (wK k) = z2 at *
  generalize digK k = z3 at *
  go_enter Tryd.func24, Tryd.ntmps24
  go_wp2_with fail
  as_aux_lemma =>
  refine (Hkd.out _).mono ?_
  rintro e w_ ⟨rfl, rfl⟩
  clear Hkd hc0 g1 g2 g3 g4 g5 g6
  go_upto_region 7 with fail
  generalize (some (⟨b0, o0, none⟩ : Addr)) = ao at *
  as_aux_lemma =>
  go_loopw [9, 10] (fun x i wr => RoN l w x i wr) (fun _ i _ => 9 - (intOf i).toNat)
  case atStart => exact ⟨0, by omega, rfl, rfl, rfl⟩
  case round =>
    as_aux_lemma =>
    obtain ⟨t, ht, rfl, rfl, rfl⟩ := hrel
    by_cases hlt : t < 8
    · obtain ⟨bb, o, hao2, hc⟩ := Hr.out (1 + t) (by have := Hl.out; have := H99.out; omega)
      have hpl : (piece l 1 8).length = 8 := piece_len (by have := Hl.out; have := H99.out; omega)
      have hget : (piece l 1 8)[t]?.getD 0 = l[1 + t]?.getD 0 := by unfold piece; rw [List.getElem?_take_of_lt hlt, List.getElem?_drop]
      have hst : beN ((piece l 1 8).take (t + 1)) = beN ((piece l 1 8).take t) * 256 + (l[1 + t]?.getD 0).toNat := by rw [take_snoc8 _ t (by omega), beN_snoc, hget]
      have hV := beN_lt ((piece l 1 8).take t)
      have hlk : ((piece l 1 8).take t).length = t := by rw [List.length_take]; omega
      rw [hlk] at hV
      have hp : (256 : Nat) ^ t ≤ 256 ^ 7 := Nat.pow_le_pow_right (by decide) (by omega)
      generalize beN ((piece l 1 8).take t) = V at *
      generalize l[1 + t]?.getD 0 = c at *
      have hcl := c.toNat_lt
      obtain ⟨V2, hV2⟩ : ∃ V2, V * 256 = V2 := ⟨_, rfl⟩
      obtain ⟨V3, hV3⟩ : ∃ V3, V2 + c.toNat = V3 := ⟨_, rfl⟩
      have f1 : IntKind.u64.wrap ((V : Int) * 256) = (V2 : Int) := by rw [IntWalk.u64_in _ (by omega)]; omega
      have f2 : IntKind.u64.wrap (c.toNat : Int) = (c.toNat : Int) := IntWalk.u64_in _ (by omega)
      have f3 : IntKind.u64.wrap ((V2 : Int) + (c.toNat : Int)) = (V3 : Int) := by rw [IntWalk.u64_in _ (by omega)]; omega
      obtain ⟨t1, ht1⟩ : ∃ t1, 1 + t = t1 := ⟨_, rfl⟩
      rw [ht1] at hc ⊢
      have i1 : (t1 : Int) < 9 := by omega
      have i2 : t1 < len := by have := H99.out; omega
      have i3 : IntKind.i64.wrap ((t1 : Int) + 1) = ((1 + (t + 1) : Nat) : Int) := by rw [IntWalk.i64_in _ (by omega)]; omega
      have Hst : Hid (beN ((piece l 1 8).take (t + 1)) = V3) := Lib.hid (by rw [hst, hV2, hV3])
      have Ht1 := Lib.hid ht1
      subst hao2
      clear hpl hget hst hV hlk hp hcl hV2 hV3 ht1
      go_wp2_with fail
      have ht1 := Ht1.out
      first
      | (go_roundw
         case rel => exact ⟨t + 1, by omega, by first | rfl | go_num | (congr 1; omega), by rw [Hst.out], rfl⟩
         case measure => (first | omega | (simp [intOf] <;> omega) | (simp only [intOf] <;> omega)))
      | exact ⟨⟨t + 1, by omega, by first | rfl | go_num | (congr 1; omega), by rw [Hst.out], rfl⟩, by (first | omega | (simp [intOf] <;> omega) | (simp only [intOf] <;> omega))⟩
      | (refine ⟨?_, by (first | omega | (simp [intOf] <;> omega) | (simp only [intOf] <;> omega))⟩
         (repeat apply Exists.intro)
         refine (fun a b => And.intro b a) ?_ ?_
         · first | rfl | ((repeat refine ⟨rfl, ?_⟩); rfl)
         exact ⟨t + 1, by omega, by first | rfl | go_num | (congr 1; omega), by rw [Hst.out], rfl⟩)
    · obtain rfl : t = 8 := by omega
      rw [show beN ((piece l 1 8).take 8) = n by rw [List.take_of_length_le (by unfold piece; rw [List.length_take]; exact Nat.min_le_left _ _)]; exact Hn0.out]
      as_aux_lemma =>
      have i1 : ¬ ((1 + 8 : Nat) : Int) < 9 := by decide
      rcases HW.out with ⟨-, hw, hz⟩ | ⟨-, hw, hz⟩
      · rw [hz, hw] at Hbad
        rw [hz, hw]
        clear hw hz hW HW
        obtain ⟨R, hR⟩ : ∃ R, n % 64 = R := ⟨_, rfl⟩
        have hbad := Hbad.out
        have hlen0 := Hlen0.out
        have hnb := Hnb.out
        have h99 := H99.out
        rw [hR] at hbad
        have hRl : R < 64 := by rw [← hR]; exact Nat.mod_lt _ (by decide)
        obtain ⟨E, hE⟩ : ∃ E, 41 + R = E := ⟨_, rfl⟩
        have e1 : (n : Int) % 64 = (R : Int) := by rw [← hR]; rfl
        have e1' : (n : Int).tmod 64 = (R : Int) := by rw [Int.tmod_eq_emod_of_nonneg (by omega)]; exact e1
        have e1w : IntKind.u64.wrap (R : Int) = (R : Int) := IntWalk.u64_in _ (by omega)
        have e1i : IntKind.i64.wrap (R : Int) = (R : Int) := IntWalk.i64_in _ (by omega)
        have e3 : IntKind.i64.wrap (41 + (R : Int)) = (E : Int) := by rw [IntWalk.i64_in _ (by omega)]; omega
        by_cases hn : n ≤ 2305843009213693951
        · have e2 : ¬ (2305843009213693952 : Int) ≤ (n : Int) := by omega
          have e2' : (n : Int) < (2305843009213693952 : Int) := by omega
          have hDE : ¬ len = E := fun h => hbad ⟨hn, by omega⟩
          have e7 : ((len : Int) == (E : Int)) = false := beq_eq_false_iff_ne.2 (by omega)
          have e8 : ((len : Int) != (E : Int)) = true := bne_iff_ne.2 (by omega)
          have e9 : ¬ (len : Int) = (E : Int) := by omega
          have e10 : ¬ len = E := hDE
          clear hR hE hbad hlen0 hnb h99 hRl hDE
          go_wp2_with fail
          go_ret2
          exact ⟨rfl, rfl⟩
        · have e2 : (2305843009213693952 : Int) ≤ (n : Int) := by omega
          clear hR hE hbad hlen0 hnb h99 hRl
          go_wp2_with fail
          go_ret2
          exact ⟨rfl, rfl⟩
      · rw [hz, hw] at Hbad
        rw [hz, hw]
        clear hw hz hW HW
        obtain ⟨R, hR⟩ : ∃ R, n % 128 = R := ⟨_, rfl⟩
        have hbad := Hbad.out
        have hlen0 := Hlen0.out
        have hnb := Hnb.out
        have h99 := H99.out
        rw [hR] at hbad
        have hRl : R < 128 := by rw [← hR]; exact Nat.mod_lt _ (by decide)
        obtain ⟨E, hE⟩ : ∃ E, 73 + R = E := ⟨_, rfl⟩
        have e1 : (n : Int) % 128 = (R : Int) := by rw [← hR]; rfl
        have e1' : (n : Int).tmod 128 = (R : Int) := by rw [Int.tmod_eq_emod_of_nonneg (by omega)]; exact e1
        have e1w : IntKind.u64.wrap (R : Int) = (R : Int) := IntWalk.u64_in _ (by omega)
        have e1i : IntKind.i64.wrap (R : Int) = (R : Int) := IntWalk.i64_in _ (by omega)
        have e3 : IntKind.i64.wrap (73 + (R : Int)) = (E : Int) := by rw [IntWalk.i64_in _ (by omega)]; omega
        by_cases hn : n ≤ 2305843009213693951
        · have e2 : ¬ (2305843009213693952 : Int) ≤ (n : Int) := by omega
          have e2' : (n : Int) < (2305843009213693952 : Int) := by omega
          have hDE : ¬ len = E := fun h => hbad ⟨hn, by omega⟩
          have e7 : ((len : Int) == (E : Int)) = false := beq_eq_false_iff_ne.2 (by omega)
          have e8 : ((len : Int) != (E : Int)) = true := bne_iff_ne.2 (by omega)
          have e9 : ¬ (len : Int) = (E : Int) := by omega
          have e10 : ¬ len = E := hDE
          clear hR hE hbad hlen0 hnb h99 hRl hDE
          go_wp2_with fail
          go_ret2
          exact ⟨rfl, rfl⟩
        · have e2 : (2305843009213693952 : Int) ≤ (n : Int) := by omega
          clear hR hE hbad hlen0 hnb h99 hRl
          go_wp2_with fail
          go_ret2
          exact ⟨rfl, rfl⟩
theorem ropen_bad (ao : Option Addr) (len cap : Nat) (l : List UInt8) (w : World) (hl : l.length = len) (hlen : len ≤ 140737488355000) (hcap : len ≤ cap) (hnil : ao = none → cap = 0) (hr : Rd w ao l) (hlt : 0 < len → ∀ a, ao = some a → a.block < w.heap.size) (hno : ¬ ∃ k n, OpOk l k n) :
    Calls Tryd.prog 24 #[.slice ao len cap] w fun e w' => e = .returned (.tuple #[.pointer none, .bool false]) ∧ w = w' := by
  by_cases h9 : 9 ≤ len
  · by_cases hk : 1 ≤ (l[0]?.getD 0).toNat ∧ (l[0]?.getD 0).toNat ≤ 3
    · exact ropen_bad3 ao len cap l w _ _ hl hlen hcap hnil hr (hlt (by omega)) hk rfl rfl h9 (fun h => hno ⟨_, _, ⟨by omega, hk, rfl, rfl, h.1, by rw [hl]; exact h.2⟩⟩)
    · obtain ⟨b0, o0, rfl, hc0⟩ := hr 0 (by omega)
      generalize (l[0]?.getD 0).toNat = k at *
      rw [Nat.add_zero] at hc0
      have g2 : ¬ (len : Int) < 9 := by omega
      have g5 : (0 : Int) < (len : Int) := by omega
      have g6 : 0 < len := by omega
      by_cases h1 : k < 1
      · have g3 : (k : Int) < 1 := by omega
        clear hr hlt hno hl hlen hcap hnil hk h1 h9
        go_enter Tryd.func24, Tryd.ntmps24
        go_wp2_with fail
        go_ret2
        exact ⟨rfl, rfl⟩
      · have g3 : ¬ (k : Int) < 1 := by omega
        have g4 : (3 : Int) < (k : Int) := by omega
        clear hr hlt hno hl hlen hcap hnil hk h1 h9
        go_enter Tryd.func24, Tryd.ntmps24
        go_wp2_with fail
        go_ret2
        exact ⟨rfl, rfl⟩
  · have g2 : (len : Int) < 9 := by omega
    clear hr hlt hno hl hlen hcap hnil h9
    go_enter Tryd.func24, Tryd.ntmps24
    go_wp2_with fail
    go_ret2
    exact ⟨rfl, rfl⟩
end Go.Proofs.YtngkelflfahjbaaDoor
