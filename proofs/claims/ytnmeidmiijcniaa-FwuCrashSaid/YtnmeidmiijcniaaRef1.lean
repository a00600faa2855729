/- The document's functions on numbers in bytes: Get, Put, Same. No condition. -/
import Derived.Test.YtnmeidmiijcniaaPut
import Derived.Test.YtnmeidmiijcniaaGet
set_option linter.unusedVariables false
set_option linter.unusedSimpArgs false
namespace Go.Proofs.Ytnmeidmiijcniaa
open Go.RowKit
theorem width_ok (s : Int) (w : World) (hs : SizeOk s) :
    Calls Try.prog 74 #[.int .i64 s] w fun e w' => e = .returned (.bool true) ∧ w = w' := by
  rcases hs with rfl | rfl | rfl | rfl
  all_goals
    go_enter Try.func74, Try.ntmps74
    go_wp2
    go_ret
    exact ⟨rfl, rfl⟩
theorem width_no (s : Int) (w : World) (hs : ¬ SizeOk s) :
    Calls Try.prog 74 #[.int .i64 s] w fun e w' => e = .returned (.bool false) ∧ w = w' := by
  have h1 : (s == 1) = false := by rw [beq_eq_false_iff_ne]; intro h; exact hs (.inl h)
  have h2 : (s == 2) = false := by rw [beq_eq_false_iff_ne]; intro h; exact hs (.inr (.inl h))
  have h4 : (s == 4) = false := by rw [beq_eq_false_iff_ne]; intro h; exact hs (.inr (.inr (.inl h)))
  have h8 : (s == 8) = false := by rw [beq_eq_false_iff_ne]; intro h; exact hs (.inr (.inr (.inr h)))
  clear hs
  go_enter Try.func74, Try.ntmps74
  go_wp2
  go_ret
  exact ⟨rfl, rfl⟩
def rgetAt (p : List UInt8) (m : Nat) (big : Bool) : Nat := if big then beN (p.take m) else beN (p.reverse.take m)
structure RGetIn (p : List UInt8) (k : Nat) (big : Bool) (v i : Value) : Prop where
  x : ∃ m : Nat, m ≤ k ∧ i = .int .i64 m ∧ v = .int .u64 (rgetAt p m big)
theorem rgetAt_lt (p : List UInt8) (k m : Nat) (big : Bool) (hp : p.length = k) (hm : m < k) (hk : k ≤ 8) : rgetAt p m big < 72057594037927936 := by
  show rgetAt p m big < 256 ^ 7
  have h7 : (256 : Nat) ^ m ≤ 256 ^ 7 := Nat.pow_le_pow_right (by decide) (by omega)
  unfold rgetAt
  split
  · have := beN_lt (p.take m)
    have hl : (p.take m).length = m := by simp; omega
    rw [hl] at this; omega
  · have := beN_lt (p.reverse.take m)
    have hl : (p.reverse.take m).length = m := by simp; omega
    rw [hl] at this; omega
theorem rget_step (p : List UInt8) (k m : Nat) (big : Bool) (c : UInt8) (hp : p.length = k) (hm : m < k) (hc : p[if big then m else k - 1 - m]?.getD 0 = c) : rgetAt p (m + 1) big = rgetAt p m big * 256 + c.toNat := by
  unfold rgetAt
  cases big
  · simp only [Bool.false_eq_true, if_false] at hc ⊢
    rw [take_snoc8 _ _ (by simp; omega), beN_snoc]
    congr 2
    rw [← hc]
    simp only [List.getElem?_reverse (show m < p.length by omega)]
    rw [hp]
  · simp only [if_true] at hc ⊢
    rw [take_snoc8 _ _ (by omega), beN_snoc, hc]
set_option maxHeartbeats 400000 in
theorem rget_ok (ao : Option Addr) (n cap A k : Nat) (l : List UInt8) (big : Bool) (w : World) (hl : l.length = n) (hn : n ≤ 140737488351232) (hr : Rd w ao l) (hs : SizeOk k) (hp : A + k ≤ n) :
    Calls Try.prog 47 #[.slice ao n cap, .int .i64 A, .int .i64 k, .bool big] w fun e w' => e = .returned (.tuple #[.int .u64 (getN l A k big), .int .i64 0]) ∧ w = w' := by
  have Hwd := Lib.hid (width_ok k w hs)
  have Hhl := Lib.hid hl
  clear hl
  have hk8 : 1 ≤ k ∧ k ≤ 8 := by unfold SizeOk at hs; omega
  clear hs
  have t1 : (n : Int) - A < k → False := by omega
  have t2 : ((n : Int) < A) → False := by omega
  go_enter Try.func47, Try.ntmps47
  go_wp2_with (go_at_call 74; refine Hwd.out.mono ?_; rintro e w' ⟨rfl, rfl⟩)
  go_loop [11, 12] (RGetIn (piece l A k) k big) (fun _ i => k - (intOf i).toNat)
  case atStart => exact ⟨0, by omega, rfl, by cases big <;> rfl⟩
  case round =>
    obtain ⟨m, hm, rfl, rfl⟩ := hrel
    have hpl : (piece l A k).length = k := piece_length l A k (by have := Hhl.out; omega)
    by_cases hlt : m < k
    · have hb := rgetAt_lt _ k m big hpl hlt hk8.2
      cases big
      · obtain ⟨b, off, rfl, hcell⟩ := hr (A + (k - 1 - m)) (by have := Hhl.out; omega)
        generalize hcc : l[A + (k - 1 - m)]?.getD 0 = c at *
        have hst := rget_step (piece l A k) k m false c hpl hlt (by simp only [Bool.false_eq_true, if_false]; rw [piece_get l A k _ (by omega)]; exact hcc)
        have e1 : ((A : Int) + k - 1 - m).toNat = A + (k - 1 - m) := by omega
        have hcb : c.toNat < 256 := c.toNat_lt
        generalize rgetAt (piece l A k) m false = V at *
        have Hhcc := Lib.hid hcc
        clear hcc
        have Hhst := Lib.hid hst
        clear hst
        have Hhpl := Lib.hid hpl
        clear hpl
        go_wp2_with fail
        first
        | (go_round
           case rel => exact ⟨m + 1, by omega, by go_num, by rw [Hhst.out]; simp⟩
           case measure => (first | omega | (simp [intOf] <;> omega) | (simp only [intOf] <;> omega)))
        | exact ⟨⟨m + 1, by omega, by go_num, by rw [Hhst.out]; simp⟩, by (first | omega | (simp [intOf] <;> omega) | (simp only [intOf] <;> omega))⟩
        | (refine ⟨?_, by (first | omega | (simp [intOf] <;> omega) | (simp only [intOf] <;> omega))⟩
           (repeat apply Exists.intro)
           refine (fun a b => And.intro b a) ?_ ?_
           · first | rfl | ((repeat refine ⟨rfl, ?_⟩); rfl)
           exact ⟨m + 1, by omega, by go_num, by rw [Hhst.out]; simp⟩)
      · obtain ⟨b, off, rfl, hcell⟩ := hr (A + m) (by have := Hhl.out; omega)
        generalize hcc : l[A + m]?.getD 0 = c at *
        have hst := rget_step (piece l A k) k m true c hpl hlt (by simp only [if_true]; rw [piece_get l A k _ (by omega)]; exact hcc)
        have hcb : c.toNat < 256 := c.toNat_lt
        generalize rgetAt (piece l A k) m true = V at *
        have Hhcc := Lib.hid hcc
        clear hcc
        have Hhst := Lib.hid hst
        clear hst
        have Hhpl := Lib.hid hpl
        clear hpl
        go_wp2_with fail
        first
        | (go_round
           case rel => exact ⟨m + 1, by omega, by go_num, by rw [Hhst.out]; simp⟩
           case measure => (first | omega | (simp [intOf] <;> omega) | (simp only [intOf] <;> omega)))
        | exact ⟨⟨m + 1, by omega, by go_num, by rw [Hhst.out]; simp⟩, by (first | omega | (simp [intOf] <;> omega) | (simp only [intOf] <;> omega))⟩
        | (refine ⟨?_, by (first | omega | (simp [intOf] <;> omega) | (simp only [intOf] <;> omega))⟩
           (repeat apply Exists.intro)
           refine (fun a b => And.intro b a) ?_ ?_
           · first | rfl | ((repeat refine ⟨rfl, ?_⟩); rfl)
           exact ⟨m + 1, by omega, by go_num, by rw [Hhst.out]; simp⟩)
    · obtain rfl : m = k := by omega
      go_wp2_with fail
      go_ret2
      have he : rgetAt (piece l A m) m big = getN l A m big := by
        unfold rgetAt getN leN
        cases big
        · simp only [Bool.false_eq_true, if_false]
          rw [List.take_of_length_le (by simp; omega)]
        · simp only [if_true]
          rw [List.take_of_length_le (by omega)]
      exact ⟨by rw [← he]; rfl, rfl⟩
theorem rget_size (ao : Option Addr) (n cap : Nat) (A k : Int) (big : Bool) (w : World) (hs : ¬ SizeOk k) :
    Calls Try.prog 47 #[.slice ao n cap, .int .i64 A, .int .i64 k, .bool big] w fun e w' => e = .returned (.tuple #[.int .u64 0, .int .i64 1]) ∧ w = w' := by
  have Hwd := Lib.hid (width_no k w hs)
  clear hs
  go_enter Try.func47, Try.ntmps47
  go_wp2_with (go_at_call 74; refine Hwd.out.mono ?_; rintro e w' ⟨rfl, rfl⟩)
  go_ret2
  exact ⟨rfl, rfl⟩
theorem rget_end (ao : Option Addr) (n cap : Nat) (A k : Int) (big : Bool) (w : World) (hn : n ≤ 140737488351232) (hs : SizeOk k) (hp : ¬ PlaceOk n A k) :
    Calls Try.prog 47 #[.slice ao n cap, .int .i64 A, .int .i64 k, .bool big] w fun e w' => e = .returned (.tuple #[.int .u64 0, .int .i64 11]) ∧ w = w' := by
  have Hwd := Lib.hid (width_ok k w hs)
  have hk8 : 1 ≤ k ∧ k ≤ 8 := by unfold SizeOk at hs; omega
  clear hs
  by_cases p0 : A < 0
  · clear hp
    go_enter Try.func47, Try.ntmps47
    go_wp2_with (go_at_call 74; refine Hwd.out.mono ?_; rintro e w' ⟨rfl, rfl⟩)
    go_ret2
    exact ⟨rfl, rfl⟩
  · have q0 : 0 ≤ A := by omega
    by_cases p1 : (n : Int) < A
    · clear hp
      go_enter Try.func47, Try.ntmps47
      go_wp2_with (go_at_call 74; refine Hwd.out.mono ?_; rintro e w' ⟨rfl, rfl⟩)
      go_ret2
      exact ⟨rfl, rfl⟩
    · have q1 : A ≤ n := by omega
      have q2 : (n : Int) - A < k := by
        by_cases h : (n : Int) - A < k
        · exact h
        · exact absurd ⟨q0, by omega⟩ hp
      clear hp p0 p1
      go_enter Try.func47, Try.ntmps47
      go_wp2_with (go_at_call 74; refine Hwd.out.mono ?_; rintro e w' ⟨rfl, rfl⟩)
      go_ret2
      exact ⟨rfl, rfl⟩
end Go.Proofs.Ytnmeidmiijcniaa
