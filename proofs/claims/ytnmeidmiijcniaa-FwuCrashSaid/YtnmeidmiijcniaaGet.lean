/- octets.Get. No condition. -/
import Derived.Test.YtnmeidmiijcniaaOct
import Derived.Test.YtnmeidmiijcniaaNum
set_option linter.unusedVariables false
set_option linter.unusedSimpArgs false
namespace Go.Proofs.Ytnmeidmiijcniaa
open Go.RowKit
structure GetIn (p : List UInt8) (k : Nat) (big : Bool) (w : World) (v i : Value) (w' : World) : Prop where
  x : ∃ m : Nat, m ≤ k ∧ i = .int .i64 m ∧ v = .int .u64 (getAt p k m big) ∧ Drn w w'

set_option maxHeartbeats 400000 in
theorem get_ok (ao : Option Addr) (n cap A k : Nat) (l : List UInt8) (big : Bool) (w : World) (hl : l.length = n) (hn : n ≤ 140737488351232) (hr : Rd w ao l) (hs : SizeOk k) (hp : A + k ≤ n) :
    Calls Try.prog 42 #[.slice ao n cap, .int .i64 A, .int .i64 k, .bool big] w fun e w' => e = .returned (.tuple #[.int .u64 (getN l A k big), .int .i64 0]) ∧ Drn w w' := by
  have Hhl := Lib.hid hl
  clear hl
  have hk8 : k ≤ 8 := by unfold SizeOk at hs; omega
  have hpl := place_ok ao n cap A k w hn hs ⟨by omega, by omega⟩
  have Hpl := Lib.hid hpl
  clear hpl
  have Hhs := Lib.hid hs
  clear hs
  go_enter Try.func42, Try.ntmps42
  go_wp2_with (go_at_call 72; refine Hpl.out.mono ?_; rintro e w' ⟨rfl, rfl⟩)
  go_loopw [11, 21] (GetIn (piece l A k) k big w) (fun _ i _ => k - (intOf i).toNat)
  case atStart => exact ⟨0, by omega, rfl, by simp [getAt, leN, beN], Drn.refl _⟩
  case round =>
    obtain ⟨m, hm, rfl, rfl, hd⟩ := hrel
    have hr' := hd.rd hr
    by_cases hlt : m < k
    · obtain ⟨b, off, rfl, hcell⟩ := hr' (A + m) (by have := Hhl.out; omega)
      generalize hcc : l[A + m]?.getD 0 = c at *
      have Hhcc := Lib.hid hcc
      clear hcc
      cases big
      · have hsh : ∀ w, Calls Try.prog 73 #[.int .i64 m, .int .i64 k, .bool false] w fun e w' => e = .returned (.int .i64 (8 * (m : Int))) ∧ w = w' := fun w => shift_little m k w (by omega) (by omega) (by omega)
        have Hhsh := Lib.hid hsh
        clear hsh
        have e1 : IntKind.i64.wrap ((A : Int) + (m : Int)) = (A : Int) + (m : Int) := IntWalk.i64_in _ (by omega)
        have e2 : (0 : Int) ≤ (A : Int) + (m : Int) := by omega
        have e3 : ((A : Int) + (m : Int)).toNat = A + m := by omega
        have e4 : (A : Int) + (m : Int) < (n : Int) := by omega
        have e5 : (0 : Int) ≤ 8 * (m : Int) := by omega
        have e6 : 8 * (m : Int) ≤ 64 := by omega
        go_wp2_with fail
        go_quiet ((go_at_call 73; exact quiet_eq (Hhsh.out _)))
        clear e1 e2 e3 e4 e5 e6
        go_wp2_with fail
        first
        | (go_roundw
           case rel => exact ⟨m + 1, by omega, by go_num, by rw [getStep_little _ _ _ _ (piece_length l A k (by have := Hhl.out; omega)) ((piece_get l A k m hlt).trans Hhcc.out) hlt hk8], hd.step _⟩
           case measure => (first | omega | (simp [intOf] <;> omega) | (simp only [intOf] <;> omega)))
        | exact ⟨⟨m + 1, by omega, by go_num, by rw [getStep_little _ _ _ _ (piece_length l A k (by have := Hhl.out; omega)) ((piece_get l A k m hlt).trans Hhcc.out) hlt hk8], hd.step _⟩, by (first | omega | (simp [intOf] <;> omega) | (simp only [intOf] <;> omega))⟩
        | (refine ⟨?_, by (first | omega | (simp [intOf] <;> omega) | (simp only [intOf] <;> omega))⟩
           (repeat apply Exists.intro)
           refine (fun a b => And.intro b a) ?_ ?_
           · first | rfl | ((repeat refine ⟨rfl, ?_⟩); rfl)
           exact ⟨m + 1, by omega, by go_num, by rw [getStep_little _ _ _ _ (piece_length l A k (by have := Hhl.out; omega)) ((piece_get l A k m hlt).trans Hhcc.out) hlt hk8], hd.step _⟩)
      · have hsh : ∀ w, Calls Try.prog 73 #[.int .i64 m, .int .i64 k, .bool true] w fun e w' => e = .returned (.int .i64 (8 * ((k : Int) - 1 - m))) ∧ w = w' := fun w => shift_big m k w (by omega) (by omega) (by omega)
        have Hhsh := Lib.hid hsh
        clear hsh
        have e1 : IntKind.i64.wrap ((A : Int) + (m : Int)) = (A : Int) + (m : Int) := IntWalk.i64_in _ (by omega)
        have e2 : (0 : Int) ≤ (A : Int) + (m : Int) := by omega
        have e3 : ((A : Int) + (m : Int)).toNat = A + m := by omega
        have e4 : (A : Int) + (m : Int) < (n : Int) := by omega
        have e5 : (0 : Int) ≤ 8 * ((k : Int) - 1 - m) := by omega
        have e6 : 8 * ((k : Int) - 1 - m) ≤ 64 := by omega
        go_wp2_with fail
        go_quiet ((go_at_call 73; exact quiet_eq (Hhsh.out _)))
        clear e1 e2 e3 e4 e5 e6
        go_wp2_with fail
        first
        | (go_roundw
           case rel => exact ⟨m + 1, by omega, by go_num, by rw [getStep_big _ _ _ _ (piece_length l A k (by have := Hhl.out; omega)) ((piece_get l A k m hlt).trans Hhcc.out) hlt hk8], hd.step _⟩
           case measure => (first | omega | (simp [intOf] <;> omega) | (simp only [intOf] <;> omega)))
        | exact ⟨⟨m + 1, by omega, by go_num, by rw [getStep_big _ _ _ _ (piece_length l A k (by have := Hhl.out; omega)) ((piece_get l A k m hlt).trans Hhcc.out) hlt hk8], hd.step _⟩, by (first | omega | (simp [intOf] <;> omega) | (simp only [intOf] <;> omega))⟩
        | (refine ⟨?_, by (first | omega | (simp [intOf] <;> omega) | (simp only [intOf] <;> omega))⟩
           (repeat apply Exists.intro)
           refine (fun a b => And.intro b a) ?_ ?_
           · first | rfl | ((repeat refine ⟨rfl, ?_⟩); rfl)
           exact ⟨m + 1, by omega, by go_num, by rw [getStep_big _ _ _ _ (piece_length l A k (by have := Hhl.out; omega)) ((piece_get l A k m hlt).trans Hhcc.out) hlt hk8], hd.step _⟩)
    · obtain rfl : m = k := by omega
      go_wp2_with fail
      go_ret2
      have he : getAt (piece l A m) m m big = getN l A m big := getAt_end _ _ _ (piece_length l A m (by have := Hhl.out; omega))
      exact ⟨by rw [← he]; rfl, hd⟩
theorem get_size (ao : Option Addr) (n cap : Nat) (A k : Int) (big : Bool) (w : World) (hs : ¬ SizeOk k) :
    Calls Try.prog 42 #[.slice ao n cap, .int .i64 A, .int .i64 k, .bool big] w fun e w' => e = .returned (.tuple #[.int .u64 0, .int .i64 1]) ∧ w = w' := by
  have Hpl := Lib.hid (place_size ao n cap A k w hs)
  clear hs
  go_enter Try.func42, Try.ntmps42
  go_wp2_with (go_at_call 72; refine Hpl.out.mono ?_; rintro e w' ⟨rfl, rfl⟩)
  go_ret2
  exact ⟨rfl, rfl⟩
theorem get_end (ao : Option Addr) (n cap : Nat) (A k : Int) (big : Bool) (w : World) (hn : n ≤ 140737488351232) (hs : SizeOk k) (hp : ¬ PlaceOk n A k) :
    Calls Try.prog 42 #[.slice ao n cap, .int .i64 A, .int .i64 k, .bool big] w fun e w' => e = .returned (.tuple #[.int .u64 0, .int .i64 11]) ∧ w = w' := by
  have Hpl := Lib.hid (place_end ao n cap A k w hn hs hp)
  clear hs hp
  go_enter Try.func42, Try.ntmps42
  go_wp2_with (go_at_call 72; refine Hpl.out.mono ?_; rintro e w' ⟨rfl, rfl⟩)
  go_ret2
  exact ⟨rfl, rfl⟩
end Go.Proofs.Ytnmeidmiijcniaa
