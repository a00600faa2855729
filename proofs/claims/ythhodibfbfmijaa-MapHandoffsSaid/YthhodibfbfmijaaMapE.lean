/- Why a want may not be: memmap.wrong and the document's May. No condition. -/
import Derived.Test.YthhodibfbfmijaaMapW
set_option linter.unusedVariables false
set_option linter.unusedSimpArgs false
namespace Go.Proofs.Ythhodibfbfmijaa
open Go.RowKit
def wv (i n a : Int) (s w x : Bool) : Value := .agg #[.int .i64 i, .int .u64 n, .int .u64 a, .bool s, .bool w, .bool x]
theorem wrong_run (i n a a1 m : Int) (s wr x : Bool) (r : Int) (w : World) (f1 : 1 ≤ a → IntKind.u64.wrap (a - 1) = a1) (f2 : bits BinOp.and IntKind.u64 a a1 = m)
    (hr : r = if n < 1 ∨ 65536 < n ∨ a < 1 ∨ 65536 < a ∨ m ≠ 0 then 224 else if wr && x then 222 else 0) :
    Calls Try.prog 26 #[wv i n a s wr x] w fun e w' => e = .returned (.int .i64 r) ∧ Below w.heap.size w w' := by
  have Hb : ∀ o1, Hid (Below w.heap.size w (w.alloc o1)) := fun o1 => Lib.hid ((Below.refl _ w).alloc (Nat.le_refl _) o1)
  unfold wv
  by_cases h1 : n < 1
  · clear f1 f2
    have HR := Lib.hid (show r = 224 from by rw [hr, if_pos (by omega)])
    clear hr
    go_enter Try.func26, Try.ntmps26
    go_wp2
    go_ret
    exact ⟨by rw [HR.out]; rfl, (Hb _).out⟩
  have gh1 : ¬ (n < 1) := h1
  by_cases h2 : 65536 < n
  · clear f1 f2
    have HR := Lib.hid (show r = 224 from by rw [hr, if_pos (by omega)])
    clear hr
    go_enter Try.func26, Try.ntmps26
    go_wp2
    go_ret
    exact ⟨by rw [HR.out]; rfl, (Hb _).out⟩
  have gh2 : ¬ (65536 < n) := h2
  by_cases h3 : a < 1
  · clear f1 f2
    have HR := Lib.hid (show r = 224 from by rw [hr, if_pos (by omega)])
    clear hr
    go_enter Try.func26, Try.ntmps26
    go_wp2
    go_ret
    exact ⟨by rw [HR.out]; rfl, (Hb _).out⟩
  have gh3 : ¬ (a < 1) := h3
  by_cases h4 : 65536 < a
  · clear f1 f2
    have HR := Lib.hid (show r = 224 from by rw [hr, if_pos (by omega)])
    clear hr
    go_enter Try.func26, Try.ntmps26
    go_wp2
    go_ret
    exact ⟨by rw [HR.out]; rfl, (Hb _).out⟩
  have gh4 : ¬ (65536 < a) := h4
  have e1 := f1 (by omega)
  clear f1
  by_cases h5 : m = 0
  · subst h5
    have t1 : ((0 : Int) == 0) = true := rfl
    rw [if_neg (by omega)] at hr
    cases wr
    · have HR := Lib.hid (show r = 0 from by rw [hr]; rfl)
      clear hr
      go_enter Try.func26, Try.ntmps26
      go_wp2
      go_ret
      exact ⟨by rw [HR.out]; rfl, (Hb _).out⟩
    · cases x
      · have HR := Lib.hid (show r = 0 from by rw [hr]; rfl)
        clear hr
        go_enter Try.func26, Try.ntmps26
        go_wp2
        go_ret
        exact ⟨by rw [HR.out]; rfl, (Hb _).out⟩
      · have HR := Lib.hid (show r = 222 from by rw [hr]; rfl)
        clear hr
        go_enter Try.func26, Try.ntmps26
        go_wp2
        go_ret
        exact ⟨by rw [HR.out]; rfl, (Hb _).out⟩
  · have t1 : (m == 0) = false := by rw [beq_eq_false_iff_ne]; exact h5
    have t2 : (m != 0) = true := by rw [bne, t1]; rfl
    have HR := Lib.hid (show r = 224 from by rw [hr, if_pos (by omega)])
    clear hr
    go_enter Try.func26, Try.ntmps26
    go_wp2
    go_ret
    exact ⟨by rw [HR.out]; rfl, (Hb _).out⟩
theorem wrong_any (i : Int) (n a : Nat) (s wr x : Bool) (w : World) (ha : a < 18446744073709551616) :
    Calls Try.prog 26 #[wv i n a s wr x] w fun e w' => e = .returned (.int .i64 (wantE n a wr x)) ∧ Below w.heap.size w w' := by
  by_cases h0 : a = 0
  · refine wrong_run i n a 0 _ s wr x _ w (fun h => by omega) rfl ?_
    unfold wantE
    rw [if_pos (by omega), if_pos (by omega)]
  · refine wrong_run i n a ((a - 1 : Nat) : Int) ((a &&& (a - 1) : Nat) : Int) s wr x _ w (fun h => by rw [IntWalk.u64_in _ (by omega)]; omega) (u64_and_nat _ _ ha (by omega)) ?_
    have hp := pow2_and a h0
    unfold wantE
    by_cases hc : n = 0 ∨ 65536 < n ∨ a = 0 ∨ 65536 < a ∨ ¬ Pow2 a
    · rw [if_pos hc, if_pos]
      rcases hc with h | h | h | h | h
      · omega
      · omega
      · omega
      · omega
      · have : a &&& (a - 1) ≠ 0 := fun h' => h (hp.1 h')
        omega
    · rw [if_neg hc]
      refine (if_neg fun h => ?_).symm
      apply hc
      rcases h with h | h | h | h | h
      · omega
      · omega
      · omega
      · omega
      · refine Or.inr (Or.inr (Or.inr (Or.inr fun h' => h ?_)))
        rw [hp.2 h']; rfl
def pw (k : Nat) : Nat := 2 ^ k
theorem pw_zero : pw 0 = 1 := rfl
theorem pw_succ (k : Nat) : pw (k + 1) = 2 * pw k := by simp [pw, Nat.pow_succ, Nat.mul_comm]
theorem pw_le {k j : Nat} (h : k ≤ j) : pw k ≤ pw j := Nat.pow_le_pow_right (by omega) h
open Classical in
noncomputable def isP (a k : Nat) : Bool := decide (∃ j, j < k ∧ a = pw j)
theorem isP_zero (a : Nat) : isP a 0 = false := decide_eq_false (fun ⟨j, h, _⟩ => by omega)
theorem isP_succ (a k : Nat) : isP a (k + 1) = (isP a k || decide (a = pw k)) := by
  unfold isP
  rw [Bool.eq_iff_iff]
  simp only [decide_eq_true_eq, Bool.or_eq_true]
  constructor
  · rintro ⟨j, h1, h2⟩
    by_cases h : j = k
    · subst h; exact Or.inr h2
    · exact Or.inl ⟨j, by omega, h2⟩
  · rintro (⟨j, h1, h2⟩ | h)
    · exact ⟨j, by omega, h2⟩
    · exact ⟨k, by omega, h⟩
theorem isP_all (a : Nat) : isP a 17 = true ↔ (Pow2 a ∧ a ≤ 65536) := by
  unfold isP
  simp only [decide_eq_true_eq]
  constructor
  · rintro ⟨j, h1, h2⟩
    refine ⟨⟨j, h2⟩, ?_⟩
    have := pw_le (show j ≤ 16 by omega)
    have e : pw 16 = 65536 := rfl
    omega
  · rintro ⟨⟨j, h1⟩, h2⟩
    refine ⟨j, ?_, h1⟩
    by_cases h : j < 17
    · exact h
    · have := pw_le (show 17 ≤ j by omega)
      have e : pw 17 = 131072 := rfl
      have : pw j = 2 ^ j := rfl
      omega
structure MayIn (a : Nat) (p v : Value) : Prop where
  x : ∃ k : Nat, k ≤ 17 ∧ v = .int .u64 (pw k : Nat) ∧ p = .bool (isP a k)
theorem may_any (i : Int) (n a : Nat) (s wr x : Bool) (w : World) :
    Calls Try.prog 31 #[wv i n a s wr x] w fun e w' => e = .returned (.int .i64 (wantE n a wr x)) ∧ Below w.heap.size w w' := by
  have Hb : ∀ o1, Hid (Below w.heap.size w (w.alloc o1)) := fun o1 => Lib.hid ((Below.refl _ w).alloc (Nat.le_refl _) o1)
  unfold wv
  go_enter Try.func31, Try.ntmps31
  go_wp2_with fail
  go_loop [3, 4] (MayIn a) (fun _ v => 131072 - (intOf v).toNat)
  case atStart => exact ⟨0, by omega, rfl, by rw [isP_zero]⟩
  case round =>
    obtain ⟨k, hk, rfl, rfl⟩ := hrel
    have hs := Lib.hid (isP_succ a k)
    have hp2 := Lib.hid (pw_succ k)
    have hpos : 1 ≤ pw k := pw_le (Nat.zero_le k)
    by_cases hlt : k < 17
    · have hle : pw k ≤ 65536 := pw_le (show k ≤ 16 by omega)
      generalize isP a k = q at *
      generalize pw k = v at *
      by_cases he : a = v
      · subst he
        have H1 := Lib.hid (show isP a (k + 1) = true by rw [hs.out]; simp)
        clear hs
        cases q
        · go_wp2_with fail
          first
          | (go_round
             case rel => exact ⟨k + 1, by omega, by rw [hp2.out]; go_num, by rw [H1.out]; try simp⟩
             case measure => (first | omega | (simp [intOf] <;> omega) | (simp only [intOf] <;> omega)))
          | exact ⟨⟨k + 1, by omega, by rw [hp2.out]; go_num, by rw [H1.out]; try simp⟩, by (first | omega | (simp [intOf] <;> omega) | (simp only [intOf] <;> omega))⟩
          | (refine ⟨?_, by (first | omega | (simp [intOf] <;> omega) | (simp only [intOf] <;> omega))⟩
             (repeat apply Exists.intro)
             refine (fun a b => And.intro b a) ?_ ?_
             · first | rfl | ((repeat refine ⟨rfl, ?_⟩); rfl)
             exact ⟨k + 1, by omega, by rw [hp2.out]; go_num, by rw [H1.out]; try simp⟩)
        · go_wp2_with fail
          first
          | (go_round
             case rel => exact ⟨k + 1, by omega, by rw [hp2.out]; go_num, by rw [H1.out]; try simp⟩
             case measure => (first | omega | (simp [intOf] <;> omega) | (simp only [intOf] <;> omega)))
          | exact ⟨⟨k + 1, by omega, by rw [hp2.out]; go_num, by rw [H1.out]; try simp⟩, by (first | omega | (simp [intOf] <;> omega) | (simp only [intOf] <;> omega))⟩
          | (refine ⟨?_, by (first | omega | (simp [intOf] <;> omega) | (simp only [intOf] <;> omega))⟩
             (repeat apply Exists.intro)
             refine (fun a b => And.intro b a) ?_ ?_
             · first | rfl | ((repeat refine ⟨rfl, ?_⟩); rfl)
             exact ⟨k + 1, by omega, by rw [hp2.out]; go_num, by rw [H1.out]; try simp⟩)
      · have H1 := Lib.hid (show isP a (k + 1) = q by rw [hs.out, decide_eq_false he]; simp)
        have t1 : ((a : Int) == (v : Int)) = false := by rw [beq_eq_false_iff_ne]; omega
        clear hs he
        cases q
        · go_wp2_with fail
          first
          | (go_round
             case rel => exact ⟨k + 1, by omega, by rw [hp2.out]; go_num, by rw [H1.out]; try simp⟩
             case measure => (first | omega | (simp [intOf] <;> omega) | (simp only [intOf] <;> omega)))
          | exact ⟨⟨k + 1, by omega, by rw [hp2.out]; go_num, by rw [H1.out]; try simp⟩, by (first | omega | (simp [intOf] <;> omega) | (simp only [intOf] <;> omega))⟩
          | (refine ⟨?_, by (first | omega | (simp [intOf] <;> omega) | (simp only [intOf] <;> omega))⟩
             (repeat apply Exists.intro)
             refine (fun a b => And.intro b a) ?_ ?_
             · first | rfl | ((repeat refine ⟨rfl, ?_⟩); rfl)
             exact ⟨k + 1, by omega, by rw [hp2.out]; go_num, by rw [H1.out]; try simp⟩)
        · go_wp2_with fail
          first
          | (go_round
             case rel => exact ⟨k + 1, by omega, by rw [hp2.out]; go_num, by rw [H1.out]; try simp⟩
             case measure => (first | omega | (simp [intOf] <;> omega) | (simp only [intOf] <;> omega)))
          | exact ⟨⟨k + 1, by omega, by rw [hp2.out]; go_num, by rw [H1.out]; try simp⟩, by (first | omega | (simp [intOf] <;> omega) | (simp only [intOf] <;> omega))⟩
          | (refine ⟨?_, by (first | omega | (simp [intOf] <;> omega) | (simp only [intOf] <;> omega))⟩
             (repeat apply Exists.intro)
             refine (fun a b => And.intro b a) ?_ ?_
             · first | rfl | ((repeat refine ⟨rfl, ?_⟩); rfl)
             exact ⟨k + 1, by omega, by rw [hp2.out]; go_num, by rw [H1.out]; try simp⟩)
    · obtain rfl : k = 17 := by omega
      have e17 : pw 17 = 131072 := rfl
      have ha := isP_all a
      have hW : wantE n a wr x = if n = 0 ∨ 65536 < n ∨ isP a 17 = false then 224 else if wr && x then 222 else 0 := by
        unfold wantE
        by_cases hq : isP a 17 = true
        · have := ha.1 hq
          have h0 : a ≠ 0 := fun h => by obtain ⟨j, hj⟩ := this.1; have := Nat.two_pow_pos j; omega
          by_cases hc : n = 0 ∨ 65536 < n
          · rw [if_pos (by omega), if_pos (by omega)]
          · have A : ¬ (n = 0 ∨ 65536 < n ∨ a = 0 ∨ 65536 < a ∨ ¬ Pow2 a) := by
              rintro (h | h | h | h | h)
              · omega
              · omega
              · omega
              · omega
              · exact h this.1
            have B : ¬ (n = 0 ∨ 65536 < n ∨ isP a 17 = false) := by
              rw [hq]; rintro (h | h | h)
              · omega
              · omega
              · cases h
            rw [if_neg A, if_neg B]
        · have hf : isP a 17 = false := by simpa using hq
          rw [if_pos, if_pos (Or.inr (Or.inr hf))]
          by_cases hc : Pow2 a ∧ a ≤ 65536
          · exact absurd (ha.2 hc) hq
          · by_cases h1 : Pow2 a
            · have : ¬ a ≤ 65536 := fun h => hc ⟨h1, h⟩
              omega
            · exact Or.inr (Or.inr (Or.inr (Or.inr h1)))
      rw [e17]
      clear hs hp2 hpos e17 ha
      generalize isP a 17 = q at *
      by_cases h1 : n = 0
      · have HR := Lib.hid (show wantE n a wr x = 224 by rw [hW, if_pos (Or.inl h1)])
        clear hW
        subst h1
        go_wp2_with fail
        go_ret
        exact ⟨by rw [HR.out]; rfl, (Hb _).out⟩
      · have t1 : ((n : Int) == 0) = false := by rw [beq_eq_false_iff_ne]; omega
        by_cases h2 : 65536 < n
        · have HR := Lib.hid (show wantE n a wr x = 224 by rw [hW, if_pos (Or.inr (Or.inl h2))])
          clear hW
          go_wp2_with fail
          go_ret
          exact ⟨by rw [HR.out]; rfl, (Hb _).out⟩
        · cases q
          · have HR := Lib.hid (show wantE n a wr x = 224 by rw [hW, if_pos (Or.inr (Or.inr rfl))])
            clear hW
            go_wp2_with fail
            go_ret
            exact ⟨by rw [HR.out]; rfl, (Hb _).out⟩
          · have hW' : wantE n a wr x = if wr && x then 222 else 0 := by
              rw [hW]
              refine if_neg ?_
              rintro (h | h | h)
              · exact h1 h
              · exact h2 h
              · cases h
            clear hW
            have HR := Lib.hid hW'
            clear hW'
            cases wr
            · go_wp2_with fail
              go_ret
              exact ⟨by rw [HR.out]; rfl, (Hb _).out⟩
            · cases x
              · go_wp2_with fail
                go_ret
                exact ⟨by rw [HR.out]; rfl, (Hb _).out⟩
              · go_wp2_with fail
                go_ret
                exact ⟨by rw [HR.out]; rfl, (Hb _).out⟩
end Go.Proofs.Ythhodibfbfmijaa
