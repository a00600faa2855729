/- The document's Narrow; all four at any arguments. No condition. -/
import Derived.Test.YtdkjkdlpkjklmaaRSigns
set_option linter.unusedVariables false
set_option linter.unusedSimpArgs false
namespace Go.Proofs.Ytdkjkdlpkjklmaa
open Go.RowKit
theorem rnarrow_arg (n : Int) (b : Int) (w : World) (h : ¬ (1 ≤ b ∧ b ≤ 64)) :
    Calls Try.prog 15 #[.int .i64 n, .int .i64 b] w fun e w' => e = .returned (.tuple #[.int .u64 0, .int .i64 1]) ∧ w = w' := by
  by_cases h1 : b < 1
  · clear h
    go_enter Try.func15, Try.ntmps15
    go_wp2_with fail
    go_ret2
    exact ⟨rfl, rfl⟩
  · have h2 : 64 < b := by omega
    have h3 : 1 ≤ b := by omega
    clear h h1
    go_enter Try.func15, Try.ntmps15
    go_wp2_with fail
    go_ret2
    exact ⟨rfl, rfl⟩
set_option maxHeartbeats 400000 in
theorem rnarrow_run (n : Int) (b : Nat) (w : World) (h1 : 1 ≤ b) (h2 : b ≤ 64) (l1 : -9223372036854775808 ≤ n) (l2 : n ≤ 9223372036854775807) :
    Calls Try.prog 15 #[.int .i64 n, .int .i64 b] w fun e w' => e = .returned (.tuple #[.int .u64 (if inBits n b then narrowN n b else 0 : Nat), .int .i64 (if inBits n b then 0 else 12)]) ∧ w = w' := by
  have hh : p2 b = 2 * p2 (b - 1) := pow_half b h1
  have hp0 : 0 < p2 (b - 1) := Nat.two_pow_pos (b - 1)
  have hp63 : p2 (b - 1) ≤ 2 ^ 63 := Nat.pow_le_pow_right (show 0 < 2 by decide) (show b - 1 ≤ 63 by omega)
  have e63 : (2 : Nat) ^ 63 = 9223372036854775808 := by decide
  rw [e63] at hp63
  have Hpw := Lib.hid (power_any (b - 1) w (by omega))
  have ebi : ((b - 1 : Nat) : Int) = (b : Int) - 1 := by omega
  rw [ebi] at Hpw
  have hin : inBits n b ↔ -((p2 (b - 1) : Nat) : Int) ≤ n ∧ n < ((p2 (b - 1) : Nat) : Int) := by unfold inBits; rw [ipow (b - 1)]; rfl
  have hnar : narrowN n b = (n % ((p2 b : Nat) : Int)).toNat := by unfold narrowN; rw [ipow b]; rfl
  clear e63 ebi
  generalize p2 (b - 1) = P at *
  generalize p2 b = PB at *
  by_cases h0 : 0 ≤ n
  · obtain ⟨n, rfl⟩ := Int.eq_ofNat_of_zero_le h0
    have c1 : IntKind.u64.wrap (n : Int) = (n : Int) := IntWalk.u64_in _ (by omega)
    have t0 : decide ((0 : Int) ≤ (n : Int)) = true := decide_eq_true h0
    by_cases hlt : n < P
    · have hres : narrowN n b = n := by rw [hnar, Int.emod_eq_of_lt (by omega) (by omega)]; rfl
      have hi : inBits n b := hin.2 ⟨by omega, by omega⟩
      rw [if_pos hi, if_pos hi, hres]
      clear hin hnar hi hres hh hp0 hp63 l1 l2
      go_enter Try.func15, Try.ntmps15
      go_wp2_with fail
      refine Hpw.out.mono ?_
      rintro e w' ⟨rfl, rfl⟩
      go_wp2_with fail
      go_ret2
      exact ⟨rfl, rfl⟩
    · have hi : ¬ inBits n b := fun h => by have := (hin.1 h).2; omega
      have hge : P ≤ n := by omega
      rw [if_neg hi, if_neg hi]
      clear hin hnar hi hh hp0 hp63 l1 l2
      go_enter Try.func15, Try.ntmps15
      go_wp2_with fail
      refine Hpw.out.mono ?_
      rintro e w' ⟨rfl, rfl⟩
      go_wp2_with fail
      go_ret2
      exact ⟨rfl, rfl⟩
  · obtain ⟨m, hm⟩ : ∃ m : Nat, n = -(m : Int) - 1 := ⟨(-(n + 1)).toNat, by omega⟩
    have t0 : decide ((0 : Int) ≤ n) = false := decide_eq_false h0
    have c1 : IntKind.i64.wrap (n + 1) = -(m : Int) := by rw [IntWalk.i64_in _ (by omega)]; omega
    have c2 : IntKind.i64.wrap (m : Int) = (m : Int) := IntWalk.i64_in _ (by omega)
    have c3 : IntKind.u64.wrap (m : Int) = (m : Int) := IntWalk.u64_in _ (by omega)
    by_cases hlt : m < P
    · have hres : narrowN n b = P + (P - 1 - m) := by
        rw [hnar]
        have e : n % (PB : Int) = n + (PB : Int) := by
          rw [← Int.add_mul_emod_self_left n (PB : Int) 1, Int.mul_one, Int.emod_eq_of_lt (by omega) (by omega)]
        rw [e]; omega
      have hi : inBits n b := hin.2 ⟨by omega, by omega⟩
      rw [if_pos hi, if_pos hi, hres]
      have c4 : IntKind.u64.wrap ((P : Int) - 1) = ((P - 1 : Nat) : Int) := by rw [IntWalk.u64_in _ (by omega)]; omega
      have c5 : IntKind.u64.wrap (((P - 1 : Nat) : Int) - (m : Int)) = ((P - 1 - m : Nat) : Int) := by rw [IntWalk.u64_in _ (by omega)]; omega
      have c6 : IntKind.u64.wrap ((P : Int) + ((P - 1 - m : Nat) : Int)) = ((P + (P - 1 - m) : Nat) : Int) := by rw [IntWalk.u64_in _ (by omega)]; omega
      clear hin hnar hi hres hh hp0 hp63 l1 l2 hm
      generalize P + (P - 1 - m) = R at *
      generalize P - 1 - m = R1 at *
      generalize P - 1 = R2 at *
      go_enter Try.func15, Try.ntmps15
      go_wp2_with fail
      refine Hpw.out.mono ?_
      rintro e w' ⟨rfl, rfl⟩
      go_wp2_with fail
      go_ret2
      exact ⟨rfl, rfl⟩
    · have hi : ¬ inBits n b := fun h => by have := (hin.1 h).1; omega
      have hge : P ≤ m := by omega
      rw [if_neg hi, if_neg hi]
      clear hin hnar hi hh hp0 hp63 l1 l2 hm
      go_enter Try.func15, Try.ntmps15
      go_wp2_with fail
      refine Hpw.out.mono ?_
      rintro e w' ⟨rfl, rfl⟩
      go_wp2_with fail
      go_ret2
      exact ⟨rfl, rfl⟩

theorem signX_ok {v : Nat} {b : Int} (h : 1 ≤ b ∧ b ≤ 64) (hv : v < 2 ^ b.toNat) : signX v b = signN v b.toNat := by unfold signX; rw [if_pos ⟨h.1, h.2, hv⟩]
theorem sign_any (v : Nat) (b : Int) (w : World) (hv64 : v < 18446744073709551616) :
    Calls Try.prog 12 #[.int .u64 v, .int .i64 b] w fun e w' => e = .returned (.tuple #[.int .i64 (signX v b), .int .i64 (signE v b)]) ∧ w = w' := by
  by_cases h : 1 ≤ b ∧ b ≤ 64
  · obtain ⟨c, rfl⟩ := Int.eq_ofNat_of_zero_le (show 0 ≤ b by omega)
    by_cases hv : v < 2 ^ c
    · refine (sign_ok v c w (by omega) (by omega) hv).mono fun e w' ⟨he, hw⟩ => ⟨?_, hw⟩
      rw [he, signX_ok h hv]; unfold signE; rw [if_pos h, if_pos (show v < 2 ^ (c : Int).toNat from hv)]; rfl
    · refine (sign_range v c w (by omega) (by omega) hv64 hv).mono fun e w' ⟨he, hw⟩ => ⟨?_, hw⟩
      rw [he]; unfold signE signX; rw [if_pos h, if_neg (show ¬ v < 2 ^ (c : Int).toNat from hv), if_neg (fun x => hv x.2.2)]
  · refine (sign_arg v b w h).mono fun e w' ⟨he, hw⟩ => ⟨?_, hw⟩
    rw [he]; unfold signE signX; rw [if_neg h, if_neg (fun x => h ⟨x.1, x.2.1⟩)]
theorem rsign_any (v : Nat) (b : Int) (w : World) (hv64 : v < 18446744073709551616) :
    Calls Try.prog 14 #[.int .u64 v, .int .i64 b] w fun e w' => e = .returned (.tuple #[.int .i64 (signX v b), .int .i64 (signE v b)]) ∧ w = w' := by
  by_cases h : 1 ≤ b ∧ b ≤ 64
  · obtain ⟨c, rfl⟩ := Int.eq_ofNat_of_zero_le (show 0 ≤ b by omega)
    by_cases hv : v < 2 ^ c
    · refine (rsign_ok v c w (by omega) (by omega) hv).mono fun e w' ⟨he, hw⟩ => ⟨?_, hw⟩
      rw [he, signX_ok h hv]; unfold signE; rw [if_pos h, if_pos (show v < 2 ^ (c : Int).toNat from hv)]; rfl
    · refine (rsign_range v c w (by omega) (by omega) hv64 hv).mono fun e w' ⟨he, hw⟩ => ⟨?_, hw⟩
      rw [he]; unfold signE signX; rw [if_pos h, if_neg (show ¬ v < 2 ^ (c : Int).toNat from hv), if_neg (fun x => hv x.2.2)]
  · refine (rsign_arg v b w h).mono fun e w' ⟨he, hw⟩ => ⟨?_, hw⟩
    rw [he]; unfold signE signX; rw [if_neg h, if_neg (fun x => h ⟨x.1, x.2.1⟩)]
theorem narrow_any (n : Int) (b : Int) (w : World) :
    Calls Try.prog 13 #[.int .i64 n, .int .i64 b] w fun e w' => e = .returned (.tuple #[.int .u64 (narrowX n b), .int .i64 (narrowE n b)]) ∧ w = w' := by
  by_cases h : 1 ≤ b ∧ b ≤ 64
  · obtain ⟨c, rfl⟩ := Int.eq_ofNat_of_zero_le (show 0 ≤ b by omega)
    by_cases hi : inBits n c
    · refine (narrow_ok n c w (by omega) (by omega) hi).mono fun e w' ⟨he, hw⟩ => ⟨?_, hw⟩
      rw [he]; unfold narrowE narrowX; rw [if_pos h, if_pos (show inBits n (c : Int).toNat from hi), if_pos ⟨h.1, h.2, hi⟩]; rfl
    · refine (narrow_range n c w (by omega) (by omega) hi).mono fun e w' ⟨he, hw⟩ => ⟨?_, hw⟩
      rw [he]; unfold narrowE narrowX; rw [if_pos h, if_neg (show ¬ inBits n (c : Int).toNat from hi), if_neg (fun x => hi x.2.2)]; rfl
  · refine (narrow_arg n b w h).mono fun e w' ⟨he, hw⟩ => ⟨?_, hw⟩
    rw [he]; unfold narrowE narrowX; rw [if_neg h, if_neg (fun x => h ⟨x.1, x.2.1⟩)]; rfl
theorem rnarrow_any (n : Int) (b : Int) (w : World) (l1 : -9223372036854775808 ≤ n) (l2 : n ≤ 9223372036854775807) :
    Calls Try.prog 15 #[.int .i64 n, .int .i64 b] w fun e w' => e = .returned (.tuple #[.int .u64 (narrowX n b), .int .i64 (narrowE n b)]) ∧ w = w' := by
  by_cases h : 1 ≤ b ∧ b ≤ 64
  · obtain ⟨c, rfl⟩ := Int.eq_ofNat_of_zero_le (show 0 ≤ b by omega)
    refine (rnarrow_run n c w (by omega) (by omega) l1 l2).mono fun e w' ⟨he, hw⟩ => ⟨?_, hw⟩
    have e1 : narrowE n (c : Int) = if inBits n c then 0 else 12 := by unfold narrowE; rw [if_pos h]; rfl
    have e2 : narrowX n (c : Int) = if inBits n c then narrowN n c else 0 := by
      by_cases hi : inBits n c
      · rw [if_pos hi]; unfold narrowX; rw [if_pos ⟨h.1, h.2, hi⟩]; rfl
      · rw [if_neg hi]; unfold narrowX; rw [if_neg (fun x => hi x.2.2)]
    rw [he, e1, e2]
  · refine (rnarrow_arg n b w h).mono fun e w' ⟨he, hw⟩ => ⟨?_, hw⟩
    rw [he]; unfold narrowE narrowX; rw [if_neg h, if_neg (fun x => h ⟨x.1, x.2.1⟩)]; rfl
/-- back and forth -/
theorem back1 {v : Nat} {b : Int} (h : signE v b = 0) : narrowE (signX v b) b = 0 ∧ narrowX (signX v b) b = v := by
  unfold signE at h
  by_cases h1 : 1 ≤ b ∧ b ≤ 64
  · rw [if_pos h1] at h
    by_cases hv : v < 2 ^ b.toNat
    · rw [signX_ok h1 hv]
      have hi := signN_bits v b.toNat (by omega) hv
      unfold narrowE narrowX
      rw [if_pos h1, if_pos hi, if_pos ⟨h1.1, h1.2, hi⟩]
      exact ⟨rfl, narrow_sign v b.toNat (by omega) hv⟩
    · rw [if_neg hv] at h; cases h
  · rw [if_neg h1] at h; cases h
theorem back2 {n : Int} {b : Int} (h : narrowE n b = 0) : signE (narrowX n b) b = 0 ∧ signX (narrowX n b) b = n ∧ narrowX n b < 18446744073709551616 := by
  unfold narrowE at h
  by_cases h1 : 1 ≤ b ∧ b ≤ 64
  · rw [if_pos h1] at h
    by_cases hi : inBits n b.toNat
    · have e : narrowX n b = narrowN n b.toNat := by unfold narrowX; rw [if_pos ⟨h1.1, h1.2, hi⟩]
      have hlt := narrowN_lt n b.toNat
      rw [e, signX_ok h1 hlt]
      refine ⟨?_, sign_narrow n b.toNat (by omega) hi, ?_⟩
      · unfold signE; rw [if_pos h1, if_pos hlt]
      · exact Nat.lt_of_lt_of_le hlt (Nat.pow_le_pow_right (n := 2) (by decide) (show b.toNat ≤ 64 by omega))
    · rw [if_neg hi] at h; cases h
  · rw [if_neg h1] at h; cases h
end Go.Proofs.Ytdkjkdlpkjklmaa
