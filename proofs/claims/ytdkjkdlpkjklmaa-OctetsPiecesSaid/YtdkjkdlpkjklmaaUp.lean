/- Up: the program's and the document's. No condition. -/
import Derived.Test.YtdkjkdlpkjklmaaPieces
set_option linter.unusedVariables false
set_option linter.unusedSimpArgs false
namespace Go.Proofs.Ytdkjkdlpkjklmaa
open Go.RowKit
theorem up_arg (v a : Nat) (w : World) (ha : a < 18446744073709551616) (hp : ¬ Pow2 a) :
    Calls Try.prog 29 #[.int .u64 v, .int .u64 a] w fun e w' => e = .returned (.tuple #[.int .u64 0, .int .i64 1]) ∧ w = w' := by
  by_cases h0 : a = 0
  · have hz : ((a : Int) == 0) = true := by rw [beq_iff_eq]; omega
    clear ha hp h0
    go_enter Try.func29, Try.ntmps29
    go_wp2
    go_ret2
    exact ⟨rfl, rfl⟩
  · have hz : ((a : Int) == 0) = false := by rw [beq_eq_false_iff_ne]; omega
    have e1 : IntKind.u64.wrap ((a : Int) - 1) = ((a - 1 : Nat) : Int) := by rw [IntWalk.u64_in _ (by omega)]; omega
    have e2 : bits BinOp.and IntKind.u64 (a : Int) ((a - 1 : Nat) : Int) = ((a &&& (a - 1) : Nat) : Int) := u64_and_nat _ _ ha (by omega)
    have e3 : (((a &&& (a - 1) : Nat) : Int) != 0) = true := by
      rw [bne_iff_ne]
      intro h
      exact hp ((pow2_and a h0).1 (by omega))
    generalize a &&& (a - 1) = M at *
    generalize a - 1 = A1 at *
    clear ha hp h0
    go_enter Try.func29, Try.ntmps29
    go_wp2
    go_ret2
    exact ⟨rfl, rfl⟩
theorem up_run (v a U : Nat) (w : World) (ha : a < 18446744073709551616) (hv : v < 18446744073709551616) (hp : Pow2 a)
    (hU : U = ((v + a) % 18446744073709551616 + 18446744073709551615) % 18446744073709551616 / a * a) :
    Calls Try.prog 29 #[.int .u64 v, .int .u64 a] w fun e w' => (if U < v then e = .returned (.tuple #[.int .u64 0, .int .i64 12]) else e = .returned (.tuple #[.int .u64 U, .int .i64 0])) ∧ w = w' := by
  obtain ⟨j, hj, hja⟩ := pow2_le a hp ha
  have hpos : 0 < a := by rw [hja]; exact Nat.two_pow_pos j
  have hz : ((a : Int) == 0) = false := by rw [beq_eq_false_iff_ne]; omega
  have e1 : IntKind.u64.wrap ((a : Int) - 1) = ((a - 1 : Nat) : Int) := by rw [IntWalk.u64_in _ (by omega)]; omega
  have e2 : bits BinOp.and IntKind.u64 (a : Int) ((a - 1 : Nat) : Int) = ((a &&& (a - 1) : Nat) : Int) := u64_and_nat _ _ ha (by omega)
  have e3 : (((a &&& (a - 1) : Nat) : Int) != 0) = false := by
    rw [bne_eq_false_iff_eq, (pow2_and a (by omega)).2 hp]; rfl
  have e4 : IntKind.u64.wrap ((v : Int) + a) = (((v + a) % 18446744073709551616 : Nat) : Int) := by rw [IntKind.wrap_u64]; omega
  have e5 : IntKind.u64.wrap ((((v + a) % 18446744073709551616 : Nat) : Int) - 1) = ((((v + a) % 18446744073709551616 + 18446744073709551615) % 18446744073709551616 : Nat) : Int) := by rw [IntKind.wrap_u64]; omega
  have e6 : bits BinOp.andNot IntKind.u64 ((((v + a) % 18446744073709551616 + 18446744073709551615) % 18446744073709551616 : Nat) : Int) ((a - 1 : Nat) : Int) = (U : Int) := by
    rw [hU, hja]
    exact up_mask _ j (Nat.mod_lt _ (by decide)) hj
  generalize a &&& (a - 1) = M at *
  generalize a - 1 = A1 at *
  generalize ((v + a) % 18446744073709551616 + 18446744073709551615) % 18446744073709551616 = X at *
  generalize (v + a) % 18446744073709551616 = Y at *
  clear ha hv hp hU hj hja hpos
  by_cases hlt : U < v
  · have t1 : decide (U < v) = true := decide_eq_true hlt
    rw [show (fun (e : Ending) (w' : World) => (if U < v then e = .returned (.tuple #[.int .u64 0, .int .i64 12]) else e = .returned (.tuple #[.int .u64 U, .int .i64 0])) ∧ w = w') = fun e w' => e = .returned (.tuple #[.int .u64 0, .int .i64 12]) ∧ w = w' from by funext e w'; rw [if_pos hlt]]
    go_enter Try.func29, Try.ntmps29
    go_wp2
    go_ret2
    exact ⟨rfl, rfl⟩
  · have t1 : decide (U < v) = false := decide_eq_false hlt
    rw [show (fun (e : Ending) (w' : World) => (if U < v then e = .returned (.tuple #[.int .u64 0, .int .i64 12]) else e = .returned (.tuple #[.int .u64 U, .int .i64 0])) ∧ w = w') = fun e w' => e = .returned (.tuple #[.int .u64 U, .int .i64 0]) ∧ w = w' from by funext e w'; rw [if_neg hlt]]
    go_enter Try.func29, Try.ntmps29
    go_wp2
    go_ret2
    exact ⟨rfl, rfl⟩
open Classical in
noncomputable def upE (v a : Nat) : Int := if Pow2 a then (if v + a - 1 < 18446744073709551616 then 0 else 12) else 1
open Classical in
noncomputable def upX (v a : Nat) : Nat := if Pow2 a ∧ v + a - 1 < 18446744073709551616 then upN v a else 0
theorem up_any (v a : Nat) (w : World) (ha : a < 18446744073709551616) (hv : v < 18446744073709551616) :
    Calls Try.prog 29 #[.int .u64 v, .int .u64 a] w fun e w' => e = .returned (.tuple #[.int .u64 (upX v a), .int .i64 (upE v a)]) ∧ w = w' := by
  by_cases hp : Pow2 a
  · obtain ⟨j, hj, hja⟩ := pow2_le a hp ha
    have hpos : 0 < a := by rw [hja]; exact Nat.two_pow_pos j
    refine (up_run v a _ w ha hv hp rfl).mono fun e w' ⟨he, hw⟩ => ⟨?_, hw⟩
    by_cases hlt : v + a - 1 < 18446744073709551616
    · have hX : ((v + a) % 18446744073709551616 + 18446744073709551615) % 18446744073709551616 = v + a - 1 := by omega
      rw [hX] at he
      have hge := upN_ge v a hpos
      rw [if_neg (by unfold upN at hge; omega)] at he
      rw [he]
      unfold upX upE
      rw [if_pos ⟨hp, hlt⟩, if_pos hp, if_pos hlt]
      rfl
    · have hX : ((v + a) % 18446744073709551616 + 18446744073709551615) % 18446744073709551616 = v + a - 1 - 18446744073709551616 := by omega
      rw [hX, Nat.div_eq_of_lt (by omega), Nat.zero_mul, if_pos (by omega)] at he
      rw [he]
      unfold upX upE
      rw [if_neg (fun h => hlt h.2), if_pos hp, if_neg hlt]
      rfl
  · refine (up_arg v a w ha hp).mono fun e w' ⟨he, hw⟩ => ⟨?_, hw⟩
    rw [he]
    unfold upX upE
    rw [if_neg (fun h => hp h.1), if_neg hp]
    rfl
end Go.Proofs.Ytdkjkdlpkjklmaa
