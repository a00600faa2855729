/- The document's Up. No condition. -/
import Derived.Test.YtdkjkdlpkjklmaaUp
set_option linter.unusedVariables false
set_option linter.unusedSimpArgs false
namespace Go.Proofs.Ytdkjkdlpkjklmaa
open Go.RowKit
structure RUpIn (a : Nat) (p : Value) : Prop where
  x : ∃ q : Nat, p = .int .u64 q ∧ (Pow2 q ↔ Pow2 a) ∧ q ≤ a
theorem not_pow2_0 : ¬ Pow2 0 := by
  rintro ⟨j, hj⟩; have := Nat.two_pow_pos j; omega
set_option maxHeartbeats 400000 in
theorem rup_any (v a : Nat) (w : World) (ha : a < 18446744073709551616) (hv : v < 18446744073709551616) :
    Calls Try.prog 31 #[.int .u64 v, .int .u64 a] w fun e w' => e = .returned (.tuple #[.int .u64 (upX v a), .int .i64 (upE v a)]) ∧ w = w' := by
  have Hha := Lib.hid ha
  clear ha
  have Hhv := Lib.hid hv
  clear hv
  go_enter Try.func31, Try.ntmps31
  go_wp2
  go_loop [6] (RUpIn a) (fun p => (intOf p).toNat)
  case atStart => exact ⟨a, rfl, Iff.rfl, Nat.le_refl _⟩
  case round =>
    obtain ⟨q, rfl, hq, hqa⟩ := hrel
    have Hq := Lib.hid hq
    clear hq
    by_cases h1 : 1 < q
    · by_cases h2 : q % 2 = 0
      · have t1 : decide (1 < q) = true := decide_eq_true h1
        have t2 : ((q : Int) % 2 == 0) = true := by rw [beq_iff_eq]; omega
        have e1 : IntKind.u64.wrap ((q : Int) / 2) = ((q / 2 : Nat) : Int) := by
          rw [IntWalk.u64_in _ (by have := Hha.out; omega)]; rfl
        have t1' : decide ((1 : Int) < (q : Int)) = true := decide_eq_true (by omega)
        have hst := Lib.hid (((pow2_half q h2 h1).trans Hq.out))
        have hm : q / 2 < q := by omega
        have hle : q / 2 ≤ a := by omega
        have Hh2 := Lib.hid h2
        clear h2
        generalize q / 2 = Q at *
        go_wp2
        first
        | (go_round
           case rel => exact ⟨Q, by first | rfl | simp, hst.out, hle⟩
           case measure => (first | omega | (simp [intOf] <;> omega) | (simp only [intOf] <;> omega)))
        | exact ⟨⟨Q, by first | rfl | simp, hst.out, hle⟩, by (first | omega | (simp [intOf] <;> omega) | (simp only [intOf] <;> omega))⟩
        | (refine ⟨?_, by (first | omega | (simp [intOf] <;> omega) | (simp only [intOf] <;> omega))⟩
           (repeat apply Exists.intro)
           refine (fun a b => And.intro b a) ?_ ?_
           · first | rfl | ((repeat refine ⟨rfl, ?_⟩); rfl)
           exact ⟨Q, by first | rfl | simp, hst.out, hle⟩)
      · have t1 : decide (1 < q) = true := decide_eq_true h1
        have t1' : decide ((1 : Int) < (q : Int)) = true := decide_eq_true (by omega)
        have t2 : ((q : Int) % 2 == 0) = false := by rw [beq_eq_false_iff_ne]; omega
        have t3 : ((q : Int) != 1) = true := by rw [bne_iff_ne]; omega
        have hn : ¬ Pow2 a := fun h => pow2_odd q h2 (by omega) (Hq.out.2 h)
        have hX := Lib.hid (show upX v a = 0 by unfold upX; rw [if_neg (fun h => hn h.1)])
        have hE := Lib.hid (show upE v a = 1 by unfold upE; rw [if_neg hn])
        clear hn h2
        go_wp2
        go_ret2
        exact ⟨by rw [hX.out, hE.out]; rfl, rfl⟩
    · by_cases h0 : q = 1
      · subst h0
        have hp : Pow2 a := Hq.out.1 ⟨0, rfl⟩
        obtain ⟨j, hj, hja⟩ := pow2_le a hp Hha.out
        have hpos : 0 < a := by rw [hja]; exact Nat.two_pow_pos j
        have hne : ((a : Int) == 0) = false := by rw [beq_eq_false_iff_ne]; omega
        have hne2 : ¬ ((a : Int) = 0) := by omega
        have em : (v : Int).tmod (a : Int) = ((v % a : Nat) : Int) := by rw [IntWalk.rem_in _ _ (by omega)]; rfl
        have em2 : (v : Int) % (a : Int) = ((v % a : Nat) : Int) := rfl
        have hlt := Nat.mod_lt v hpos
        have hrest := upN_rest v a hpos
        by_cases hr : v % a = 0
        · have t1 : (((v % a : Nat) : Int) == 0) = true := by rw [hr]; rfl
          rw [if_pos hr] at hrest
          have hroom : v + a - 1 < 18446744073709551616 := by
            have := mult_room v j hj Hhv.out (by rw [← hja]; exact hr)
            rw [← hja] at this; omega
          have hX := Lib.hid (show upX v a = v by unfold upX; rw [if_pos ⟨hp, hroom⟩, hrest])
          have hE := Lib.hid (show upE v a = 0 by unfold upE; rw [if_pos hp, if_pos hroom])
          clear hroom hrest hr hlt hp hja hj h1
          generalize v % a = R at *
          go_wp2
          go_ret2
          exact ⟨by rw [hX.out, hE.out]; rfl, rfl⟩
        · have t1 : (((v % a : Nat) : Int) == 0) = false := by rw [beq_eq_false_iff_ne]; omega
          rw [if_neg hr] at hrest
          have e1 : IntKind.u64.wrap ((a : Int) - ((v % a : Nat) : Int)) = ((a - v % a : Nat) : Int) := by rw [IntWalk.u64_in _ (by have := Hha.out; omega)]; omega
          have e2 : IntKind.u64.wrap (18446744073709551615 - (v : Int)) = ((18446744073709551615 - v : Nat) : Int) := by rw [IntWalk.u64_in _ (by have := Hhv.out; omega)]; have := Hhv.out; omega
          have hup : v + a - 1 < 18446744073709551616 ↔ a - v % a ≤ 18446744073709551615 - v := by
            have hm := upN_mult v a
            rw [hrest] at hm
            constructor
            · intro h
              by_cases h2 : v + (a - v % a) < 18446744073709551616
              · have := Hhv.out; omega
              · exfalso
                have hd := Nat.div_add_mod v a
                have hv' : a * (v / a) + a ≤ 18446744073709551616 := by
                  have := mult_room (a * (v / a)) j hj (by have := Hhv.out; omega) (by rw [← hja]; exact Nat.mul_mod_right a (v / a))
                  rwa [← hja] at this
                omega
            · intro h
              have hv' := Hhv.out
              have hr' : v + (a - v % a) + a ≤ 18446744073709551616 := by
                have := mult_room (v + (a - v % a)) j hj (by omega) (by rw [← hja]; exact hm)
                rwa [← hja] at this
              omega
          by_cases hlt2 : 18446744073709551615 - v < a - v % a
          · have t2 : decide (18446744073709551615 - v < a - v % a) = true := decide_eq_true hlt2
            have hno : ¬ v + a - 1 < 18446744073709551616 := fun h => by have := hup.1 h; omega
            have hX := Lib.hid (show upX v a = 0 by unfold upX; rw [if_neg (fun h => hno h.2)])
            have hE := Lib.hid (show upE v a = 12 by unfold upE; rw [if_pos hp, if_neg hno])
            clear hno hlt2 hup hrest hr hlt hp hja hj h1
            generalize 18446744073709551615 - v = MV at *
            generalize a - v % a = AR at *
            generalize v % a = R at *
            go_wp2
            go_ret2
            exact ⟨by rw [hX.out, hE.out]; rfl, rfl⟩
          · have t2 : decide (18446744073709551615 - v < a - v % a) = false := decide_eq_false hlt2
            have hyes : v + a - 1 < 18446744073709551616 := hup.2 (by omega)
            have e3 : IntKind.u64.wrap ((v : Int) + ((a - v % a : Nat) : Int)) = ((v + (a - v % a) : Nat) : Int) := by rw [IntWalk.u64_in _ (by have := Hhv.out; omega)]; omega
            have hX := Lib.hid (show upX v a = v + (a - v % a) by unfold upX; rw [if_pos ⟨hp, hyes⟩, hrest])
            have hE := Lib.hid (show upE v a = 0 by unfold upE; rw [if_pos hp, if_pos hyes])
            clear hyes hlt2 hup hrest hr hlt hp hja hj h1
            generalize v + (a - v % a) = VR at *
            generalize 18446744073709551615 - v = MV at *
            generalize a - v % a = AR at *
            generalize v % a = R at *
            go_wp2
            go_ret2
            exact ⟨by rw [hX.out, hE.out]; rfl, rfl⟩
      · obtain rfl : q = 0 := by omega
        have hn : ¬ Pow2 a := fun h => not_pow2_0 (Hq.out.2 h)
        have hX := Lib.hid (show upX v a = 0 by unfold upX; rw [if_neg (fun h => hn h.1)])
        have hE := Lib.hid (show upE v a = 1 by unfold upE; rw [if_neg hn])
        clear hn h0 h1
        go_wp2
        go_ret2
        exact ⟨by rw [hX.out, hE.out]; rfl, rfl⟩
end Go.Proofs.Ytdkjkdlpkjklmaa
