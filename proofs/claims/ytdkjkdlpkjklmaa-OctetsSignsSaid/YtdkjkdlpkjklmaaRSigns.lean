/- The document's Sign and Narrow. No condition. -/
import Derived.Test.YtdkjkdlpkjklmaaSigns
set_option linter.unusedVariables false
set_option linter.unusedSimpArgs false
namespace Go.Proofs.Ytdkjkdlpkjklmaa
open Go.RowKit
def p2 (k : Nat) : Nat := 2 ^ k
structure PowIn (n : Nat) (p i : Value) : Prop where
  x : ∃ k : Nat, k ≤ n ∧ i = .int .i64 k ∧ p = .int .u64 (p2 k)
theorem power_any (n : Nat) (w : World) (hn : n ≤ 63) :
    Calls Try.prog 34 #[.int .i64 n] w fun e w' => e = .returned (.int .u64 (p2 n)) ∧ w = w' := by
  go_enter Try.func34, Try.ntmps34
  go_wp2
  go_loop [3, 4] (PowIn n) (fun _ i => n - (intOf i).toNat)
  case atStart => exact ⟨0, by omega, rfl, rfl⟩
  case round =>
    obtain ⟨k, hk, rfl, rfl⟩ := hrel
    by_cases hlt : k < n
    · have hp : p2 k ≤ 2 ^ 62 := Nat.pow_le_pow_right (show 0 < 2 by decide) (show k ≤ 62 by omega)
      have e2 := Lib.hid (show p2 (k + 1) = p2 k * 2 from Nat.pow_succ ..)
      have e1 : IntKind.u64.wrap ((p2 k : Int) * 2) = ((p2 k * 2 : Nat) : Int) := by
        rw [IntWalk.u64_in _ (by omega)]; push_cast; rfl
      clear hp
      go_wp2
      first
      | (go_round
         case rel => exact ⟨k + 1, by omega, by go_num, by rw [e2.out]; push_cast; rfl⟩
         case measure => (first | omega | (simp [intOf] <;> omega) | (simp only [intOf] <;> omega)))
      | exact ⟨⟨k + 1, by omega, by go_num, by rw [e2.out]; push_cast; rfl⟩, by (first | omega | (simp [intOf] <;> omega) | (simp only [intOf] <;> omega))⟩
      | (refine ⟨?_, by (first | omega | (simp [intOf] <;> omega) | (simp only [intOf] <;> omega))⟩
         (repeat apply Exists.intro)
         refine (fun a b => And.intro b a) ?_ ?_
         · first | rfl | ((repeat refine ⟨rfl, ?_⟩); rfl)
         exact ⟨k + 1, by omega, by go_num, by rw [e2.out]; push_cast; rfl⟩)
    · obtain rfl : k = n := by omega
      go_wp2
      go_ret
      exact ⟨rfl, rfl⟩
theorem rsign_arg (v : Nat) (b : Int) (w : World) (h : ¬ (1 ≤ b ∧ b ≤ 64)) :
    Calls Try.prog 14 #[.int .u64 v, .int .i64 b] w fun e w' => e = .returned (.tuple #[.int .i64 0, .int .i64 1]) ∧ w = w' := by
  by_cases h1 : b < 1
  · clear h
    go_enter Try.func14, Try.ntmps14
    go_wp2_with fail
    go_ret2
    exact ⟨rfl, rfl⟩
  · have h2 : 64 < b := by omega
    have h3 : 1 ≤ b := by omega
    clear h h1
    go_enter Try.func14, Try.ntmps14
    go_wp2_with fail
    go_ret2
    exact ⟨rfl, rfl⟩
theorem rsign_range (v b : Nat) (w : World) (h1 : 1 ≤ b) (h2 : b ≤ 64) (hv64 : v < 18446744073709551616) (hv : ¬ v < 2 ^ b) :
    Calls Try.prog 14 #[.int .u64 v, .int .i64 b] w fun e w' => e = .returned (.tuple #[.int .i64 0, .int .i64 12]) ∧ w = w' := by
  have h64 : b < 64 := by
    by_cases h : b < 64
    · exact h
    · obtain rfl : b = 64 := by omega
      exact absurd hv64 hv
  have Hpw := Lib.hid (power_any b w (by omega))
  have hge : 2 ^ b ≤ v := by omega
  clear hv hv64
  change p2 b ≤ v at hge
  generalize p2 b = P at *
  go_enter Try.func14, Try.ntmps14
  go_wp2_with (go_at_call 34; refine Hpw.out.mono ?_; rintro e w' ⟨rfl, rfl⟩)
  go_ret2
  exact ⟨rfl, rfl⟩
set_option maxHeartbeats 400000 in
theorem rsign_ok (v b : Nat) (w : World) (h1 : 1 ≤ b) (h2 : b ≤ 64) (hv : v < 2 ^ b) :
    Calls Try.prog 14 #[.int .u64 v, .int .i64 b] w fun e w' => e = .returned (.tuple #[.int .i64 (signN v b), .int .i64 0]) ∧ w = w' := by
  have hh : p2 b = 2 * p2 (b - 1) := pow_half b h1
  have hp0 : 0 < p2 (b - 1) := Nat.two_pow_pos (b - 1)
  have hp63 : p2 (b - 1) ≤ 2 ^ 63 := Nat.pow_le_pow_right (show 0 < 2 by decide) (show b - 1 ≤ 63 by omega)
  have e63 : (2 : Nat) ^ 63 = 9223372036854775808 := by decide
  rw [e63] at hp63
  have Hpw2 := Lib.hid (power_any (b - 1) w (by omega))
  have ebi : ((b - 1 : Nat) : Int) = (b : Int) - 1 := by omega
  rw [ebi] at Hpw2
  have hres : signN v b = if v < p2 (b - 1) then (v : Int) else (v : Int) - ((p2 b : Nat) : Int) := by unfold signN; rw [ipow b]; rfl
  change v < p2 b at hv
  have HP : b < 64 → Calls Try.prog 34 #[.int .i64 b] w fun e w' => e = .returned (.int .u64 (p2 b)) ∧ w = w' := fun h => power_any b w (by omega)
  clear e63 ebi
  generalize p2 (b - 1) = P at *
  generalize p2 b = PB at *
  by_cases hlt : v < P
  · rw [if_pos hlt] at hres
    have c3 : IntKind.i64.wrap (v : Int) = (v : Int) := IntWalk.i64_in _ (by omega)
    clear hh hp0 hp63
    have Hhres := Lib.hid hres
    clear hres
    by_cases h64 : b < 64
    · have H := Lib.hid (HP h64)
      clear HP
      go_enter Try.func14, Try.ntmps14
      go_wp2_with fail
      refine H.out.mono ?_
      rintro e w' ⟨rfl, rfl⟩
      go_wp2_with fail
      refine Hpw2.out.mono ?_
      rintro e w' ⟨rfl, rfl⟩
      go_wp2_with fail
      go_ret2
      exact ⟨by rw [Hhres.out]; rfl, rfl⟩
    · clear HP
      go_enter Try.func14, Try.ntmps14
      go_wp2_with fail
      refine Hpw2.out.mono ?_
      rintro e w' ⟨rfl, rfl⟩
      go_wp2_with fail
      go_ret2
      exact ⟨by rw [Hhres.out]; rfl, rfl⟩
  · rw [if_neg hlt] at hres
    have hge : P ≤ v := by omega
    have c1 : IntKind.u64.wrap ((P : Int) - 1) = ((P - 1 : Nat) : Int) := by rw [IntWalk.u64_in _ (by omega)]; omega
    have c2 : IntKind.i64.wrap ((P - 1 : Nat) : Int) = ((P - 1 : Nat) : Int) := IntWalk.i64_in _ (by omega)
    have c3 : IntKind.i64.wrap (-((P - 1 : Nat) : Int)) = -((P - 1 : Nat) : Int) := IntWalk.i64_in _ (by omega)
    have c4 : IntKind.i64.wrap (-((P - 1 : Nat) : Int) - 1) = -((P - 1 : Nat) : Int) - 1 := IntWalk.i64_in _ (by omega)
    have c5 : IntKind.u64.wrap ((v : Int) - (P : Int)) = ((v - P : Nat) : Int) := by rw [IntWalk.u64_in _ (by omega)]; omega
    have c6 : IntKind.i64.wrap ((v - P : Nat) : Int) = ((v - P : Nat) : Int) := IntWalk.i64_in _ (by omega)
    have c7 : IntKind.i64.wrap (-((P - 1 : Nat) : Int) - 1 + ((v - P : Nat) : Int)) = (v : Int) - (PB : Int) := by rw [IntWalk.i64_in _ (by omega)]; omega
    generalize P - 1 = P1 at *
    generalize v - P = VP at *
    clear hh hp0 hp63
    have Hhres := Lib.hid hres
    clear hres
    by_cases h64 : b < 64
    · have H := Lib.hid (HP h64)
      clear HP
      go_enter Try.func14, Try.ntmps14
      go_wp2_with fail
      refine H.out.mono ?_
      rintro e w' ⟨rfl, rfl⟩
      go_wp2_with fail
      refine Hpw2.out.mono ?_
      rintro e w' ⟨rfl, rfl⟩
      go_wp2_with fail
      go_ret2
      exact ⟨by rw [Hhres.out]; rfl, rfl⟩
    · clear HP
      go_enter Try.func14, Try.ntmps14
      go_wp2_with fail
      refine Hpw2.out.mono ?_
      rintro e w' ⟨rfl, rfl⟩
      go_wp2_with fail
      go_ret2
      exact ⟨by rw [Hhres.out]; rfl, rfl⟩
end Go.Proofs.Ytdkjkdlpkjklmaa
