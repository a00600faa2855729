/- What the functions of package octets answer, by their contracts. No condition. -/
import Derived.Test.YtnmeidmiijcniaaProg
import Derived.Test.YtnmeidmiijcniaaU
set_option linter.unusedVariables false
set_option linter.unusedSimpArgs false
namespace Go.Proofs.Ytnmeidmiijcniaa
open Go.RowKit

/-- may a number of so many bytes stand there? -/
def SizeOk (s : Int) : Prop := s = 1 ∨ s = 2 ∨ s = 4 ∨ s = 8
def PlaceOk (n : Nat) (at_ size : Int) : Prop := 0 ≤ at_ ∧ at_ + size ≤ n

theorem shift_big (i s : Int) (w : World) (h0 : 0 ≤ i) (h1 : i < s) (h2 : s ≤ 8) :
    Calls Try.prog 73 #[.int .i64 i, .int .i64 s, .bool true] w fun e w' => e = .returned (.int .i64 (8 * (s - 1 - i))) ∧ w = w' := by
  go_enter Try.func73, Try.ntmps73
  go_wp2
  go_ret
  exact ⟨rfl, rfl⟩
theorem shift_little (i s : Int) (w : World) (h0 : 0 ≤ i) (h1 : i < s) (h2 : s ≤ 8) :
    Calls Try.prog 73 #[.int .i64 i, .int .i64 s, .bool false] w fun e w' => e = .returned (.int .i64 (8 * i)) ∧ w = w' := by
  go_enter Try.func73, Try.ntmps73
  go_wp2
  go_ret
  exact ⟨rfl, rfl⟩
theorem place_ok (ao : Option Addr) (n cap : Nat) (at_ size : Int) (w : World) (hn : n ≤ 140737488351232) (hs : SizeOk size) (hp : PlaceOk n at_ size) :
    Calls Try.prog 72 #[.slice ao n cap, .int .i64 at_, .int .i64 size] w fun e w' => e = .returned (.int .i64 0) ∧ w = w' := by
  obtain ⟨p0, p1⟩ := hp
  rcases hs with rfl | rfl | rfl | rfl
  all_goals
    go_enter Try.func72, Try.ntmps72
    go_wp2
    go_ret
    exact ⟨rfl, rfl⟩
theorem place_size (ao : Option Addr) (n cap : Nat) (at_ size : Int) (w : World) (hs : ¬ SizeOk size) :
    Calls Try.prog 72 #[.slice ao n cap, .int .i64 at_, .int .i64 size] w fun e w' => e = .returned (.int .i64 1) ∧ w = w' := by
  have h1 : (size == 1) = false := by rw [beq_eq_false_iff_ne]; intro h; exact hs (.inl h)
  have h2 : (size == 2) = false := by rw [beq_eq_false_iff_ne]; intro h; exact hs (.inr (.inl h))
  have h4 : (size == 4) = false := by rw [beq_eq_false_iff_ne]; intro h; exact hs (.inr (.inr (.inl h)))
  have h8 : (size == 8) = false := by rw [beq_eq_false_iff_ne]; intro h; exact hs (.inr (.inr (.inr h)))
  clear hs
  go_enter Try.func72, Try.ntmps72
  go_wp2
  go_ret
  exact ⟨rfl, rfl⟩
theorem place_end (ao : Option Addr) (n cap : Nat) (at_ size : Int) (w : World) (hn : n ≤ 140737488351232) (hs : SizeOk size) (hp : ¬ PlaceOk n at_ size) :
    Calls Try.prog 72 #[.slice ao n cap, .int .i64 at_, .int .i64 size] w fun e w' => e = .returned (.int .i64 11) ∧ w = w' := by
  by_cases p0 : at_ < 0
  · rcases hs with rfl | rfl | rfl | rfl
    all_goals
      go_enter Try.func72, Try.ntmps72
      go_wp2
      go_ret
      exact ⟨rfl, rfl⟩
  · have q0 : 0 ≤ at_ := by omega
    by_cases p1 : (n : Int) < at_
    · rcases hs with rfl | rfl | rfl | rfl
      all_goals
        go_enter Try.func72, Try.ntmps72
        go_wp2
        go_ret
        exact ⟨rfl, rfl⟩
    · have q1 : at_ ≤ n := by omega
      have q2 : (n : Int) - at_ < size := by
        by_cases h : (n : Int) - at_ < size
        · exact h
        · exact absurd ⟨q0, by omega⟩ hp
      clear hp p0 p1
      rcases hs with rfl | rfl | rfl | rfl
      all_goals
        go_enter Try.func72, Try.ntmps72
        go_wp2
        go_ret
        exact ⟨rfl, rfl⟩
end Go.Proofs.Ytnmeidmiijcniaa
