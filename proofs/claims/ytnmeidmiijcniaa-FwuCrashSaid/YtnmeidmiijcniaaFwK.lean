/- What each call does to the metadata: the program's closures. No condition. -/
import Derived.Test.YtnmeidmiijcniaaFwP
import Derived.Test.YtnmeidmiijcniaaFwM
set_option linter.unusedVariables false
set_option linter.unusedSimpArgs false
namespace Go.Proofs.Ytnmeidmiijcniaa
open Go.RowKit
theorem when_any (b : Bool) (w : World) : Calls Try.prog 54 #[.bool b] w fun e w' => e = .returned (.int .i64 (if b then 0 else 232)) ∧ w = w' := by
  cases b
  · go_enter Try.func54, Try.ntmps54
    go_wp2
    go_ret
    exact ⟨rfl, rfl⟩
  · go_enter Try.func54, Try.ntmps54
    go_wp2
    go_ret
    exact ⟨rfl, rfl⟩
/-- the closure fid does op to the metadata at X -/
structure ClC (fid : FuncId) (op : Me → Me × Int) : Prop where
  run : ∀ (args : Array Value) (w : World), (callFunc fid args).run Try.prog w = .ok (.enter fid args) w
  zero : ∀ (m : Me) (X : Nat) (w : World), Right m → m.act = 0 → HB w X 26 (mec m) →
    Calls Try.prog fid #[.pointer (some ⟨X, 0, none⟩), .pointer (some ⟨X, 1, none⟩), .pointer (some ⟨X, 2, none⟩)] w fun e w' => e = .returned (.int .i64 (op m).2) ∧ HB w' X 26 (mec (op m).1) ∧ w.grownBy w' (some X)
  one : ∀ (m : Me) (X : Nat) (w : World), Right m → m.act = 1 → HB w X 26 (mec m) →
    Calls Try.prog fid #[.pointer (some ⟨X, 0, none⟩), .pointer (some ⟨X, 2, none⟩), .pointer (some ⟨X, 1, none⟩)] w fun e w' => e = .returned (.int .i64 (op m).2) ∧ HB w' X 26 (mec (op m).1) ∧ w.grownBy w' (some X)
set_option maxHeartbeats 1000000 in
theorem accept_cl : ClC 56 acceptE where
  run := fun args w => by kernel_rfl
  zero := fun m X w hr hact h => by
    obtain ⟨sq, b0, b1, act, tr⟩ := m
    dsimp only at hact
    subst hact
    have H := fun (_ : Unit) => Lib.hid h
    have htr := hr.t
    dsimp only at htr
    clear hr
    obtain ⟨c0, c1, c2, c3, c4⟩ := Five.of h
    have cf := h.frozen
    dsimp only at c0 c1 c2 c3 c4
    clear h
    generalize hR : acceptE _ = R
    have HR := fun (_ : Unit) => Lib.hid hR
    clear hR
    by_cases h1 : b0 = 2
    · have Hop := fun (_ : Unit) => Lib.hid (show acceptE ⟨sq, b0, b1, 0, tr⟩ = _ by unfold acceptE; rw [if_pos (by simp [Me.bank]; exact h1)])
      have Hn := fun (_ : Unit) => Lib.hid (((H ()).out.set 1 (.int .i64 3)).set 4 (.int .i64 0))
      have Hg := fun (_ : Unit) => Lib.hid ((grown_set w ⟨X, 1, none⟩ (.int .i64 3)).trans (grown_set _ ⟨X, 4, none⟩ (.int .i64 0)))
      go_enter Try.func56, Try.ntmps56
      go_wp2_with (first | (go_at_call 54; refine (when_any _ _).mono ?_; rintro e w' ⟨rfl, rfl⟩))
      go_ret
      rw [← (HR ()).out, (Hop ()).out]
      exact ⟨rfl, by first | exact (Hn ()).out | exact (H ()).out, by first | exact (Hg ()).out | exact World.grownBy.refl _ _⟩
    · have Hop := fun (_ : Unit) => Lib.hid (show acceptE ⟨sq, b0, b1, 0, tr⟩ = _ by unfold acceptE; rw [if_neg (by simp [Me.bank]; exact h1)])
      go_enter Try.func56, Try.ntmps56
      go_wp2_with (first | (go_at_call 54; refine (when_any _ _).mono ?_; rintro e w' ⟨rfl, rfl⟩))
      go_ret
      rw [← (HR ()).out, (Hop ()).out]
      exact ⟨rfl, by first | exact (Hn ()).out | exact (H ()).out, by first | exact (Hg ()).out | exact World.grownBy.refl _ _⟩
  one := fun m X w hr hact h => by
    obtain ⟨sq, b0, b1, act, tr⟩ := m
    dsimp only at hact
    subst hact
    have H := fun (_ : Unit) => Lib.hid h
    have htr := hr.t
    dsimp only at htr
    clear hr
    obtain ⟨c0, c1, c2, c3, c4⟩ := Five.of h
    have cf := h.frozen
    dsimp only at c0 c1 c2 c3 c4
    clear h
    generalize hR : acceptE _ = R
    have HR := fun (_ : Unit) => Lib.hid hR
    clear hR
    by_cases h1 : b1 = 2
    · have Hop := fun (_ : Unit) => Lib.hid (show acceptE ⟨sq, b0, b1, 1, tr⟩ = _ by unfold acceptE; rw [if_pos (by simp [Me.bank]; exact h1)])
      have Hn := fun (_ : Unit) => Lib.hid (((H ()).out.set 2 (.int .i64 3)).set 4 (.int .i64 0))
      have Hg := fun (_ : Unit) => Lib.hid ((grown_set w ⟨X, 2, none⟩ (.int .i64 3)).trans (grown_set _ ⟨X, 4, none⟩ (.int .i64 0)))
      go_enter Try.func56, Try.ntmps56
      go_wp2_with (first | (go_at_call 54; refine (when_any _ _).mono ?_; rintro e w' ⟨rfl, rfl⟩))
      go_ret
      rw [← (HR ()).out, (Hop ()).out]
      exact ⟨rfl, by first | exact (Hn ()).out | exact (H ()).out, by first | exact (Hg ()).out | exact World.grownBy.refl _ _⟩
    · have Hop := fun (_ : Unit) => Lib.hid (show acceptE ⟨sq, b0, b1, 1, tr⟩ = _ by unfold acceptE; rw [if_neg (by simp [Me.bank]; exact h1)])
      go_enter Try.func56, Try.ntmps56
      go_wp2_with (first | (go_at_call 54; refine (when_any _ _).mono ?_; rintro e w' ⟨rfl, rfl⟩))
      go_ret
      rw [← (HR ()).out, (Hop ()).out]
      exact ⟨rfl, by first | exact (Hn ()).out | exact (H ()).out, by first | exact (Hg ()).out | exact World.grownBy.refl _ _⟩
set_option maxHeartbeats 1000000 in
theorem cancel_cl : ClC 57 cancelE where
  run := fun args w => by kernel_rfl
  zero := fun m X w hr hact h => by
    obtain ⟨sq, b0, b1, act, tr⟩ := m
    dsimp only at hact
    subst hact
    have H := fun (_ : Unit) => Lib.hid h
    have htr := hr.t
    dsimp only at htr
    clear hr
    obtain ⟨c0, c1, c2, c3, c4⟩ := Five.of h
    have cf := h.frozen
    dsimp only at c0 c1 c2 c3 c4
    clear h
    generalize hR : cancelE _ = R
    have HR := fun (_ : Unit) => Lib.hid hR
    clear hR
    by_cases h1 : b1 = 1
    · have Hop := fun (_ : Unit) => Lib.hid (show cancelE ⟨sq, b0, b1, 0, tr⟩ = _ by unfold cancelE; rw [if_pos (by simp [Me.bank]; exact h1)])
      have Hn := fun (_ : Unit) => Lib.hid ((H ()).out.set 2 (.int .i64 0))
      have Hg := fun (_ : Unit) => Lib.hid (grown_set w ⟨X, 2, none⟩ (.int .i64 0))
      go_enter Try.func57, Try.ntmps57
      go_wp2_with (first | (go_at_call 54; refine (when_any _ _).mono ?_; rintro e w' ⟨rfl, rfl⟩))
      go_ret
      rw [← (HR ()).out, (Hop ()).out]
      exact ⟨rfl, by first | exact (Hn ()).out | exact (H ()).out, by first | exact (Hg ()).out | exact World.grownBy.refl _ _⟩
    · have Hop := fun (_ : Unit) => Lib.hid (show cancelE ⟨sq, b0, b1, 0, tr⟩ = _ by unfold cancelE; rw [if_neg (by simp [Me.bank]; exact h1)])
      go_enter Try.func57, Try.ntmps57
      go_wp2_with (first | (go_at_call 54; refine (when_any _ _).mono ?_; rintro e w' ⟨rfl, rfl⟩))
      go_ret
      rw [← (HR ()).out, (Hop ()).out]
      exact ⟨rfl, by first | exact (Hn ()).out | exact (H ()).out, by first | exact (Hg ()).out | exact World.grownBy.refl _ _⟩
  one := fun m X w hr hact h => by
    obtain ⟨sq, b0, b1, act, tr⟩ := m
    dsimp only at hact
    subst hact
    have H := fun (_ : Unit) => Lib.hid h
    have htr := hr.t
    dsimp only at htr
    clear hr
    obtain ⟨c0, c1, c2, c3, c4⟩ := Five.of h
    have cf := h.frozen
    dsimp only at c0 c1 c2 c3 c4
    clear h
    generalize hR : cancelE _ = R
    have HR := fun (_ : Unit) => Lib.hid hR
    clear hR
    by_cases h1 : b0 = 1
    · have Hop := fun (_ : Unit) => Lib.hid (show cancelE ⟨sq, b0, b1, 1, tr⟩ = _ by unfold cancelE; rw [if_pos (by simp [Me.bank]; exact h1)])
      have Hn := fun (_ : Unit) => Lib.hid ((H ()).out.set 1 (.int .i64 0))
      have Hg := fun (_ : Unit) => Lib.hid (grown_set w ⟨X, 1, none⟩ (.int .i64 0))
      go_enter Try.func57, Try.ntmps57
      go_wp2_with (first | (go_at_call 54; refine (when_any _ _).mono ?_; rintro e w' ⟨rfl, rfl⟩))
      go_ret
      rw [← (HR ()).out, (Hop ()).out]
      exact ⟨rfl, by first | exact (Hn ()).out | exact (H ()).out, by first | exact (Hg ()).out | exact World.grownBy.refl _ _⟩
    · have Hop := fun (_ : Unit) => Lib.hid (show cancelE ⟨sq, b0, b1, 1, tr⟩ = _ by unfold cancelE; rw [if_neg (by simp [Me.bank]; exact h1)])
      go_enter Try.func57, Try.ntmps57
      go_wp2_with (first | (go_at_call 54; refine (when_any _ _).mono ?_; rintro e w' ⟨rfl, rfl⟩))
      go_ret
      rw [← (HR ()).out, (Hop ()).out]
      exact ⟨rfl, by first | exact (Hn ()).out | exact (H ()).out, by first | exact (Hg ()).out | exact World.grownBy.refl _ _⟩
set_option maxHeartbeats 1000000 in
theorem begin_cl : ClC 53 beginE where
  run := fun args w => by kernel_rfl
  zero := fun m X w hr hact h => by
    obtain ⟨sq, b0, b1, act, tr⟩ := m
    dsimp only at hact
    subst hact
    have H := fun (_ : Unit) => Lib.hid h
    have htr := hr.t
    dsimp only at htr
    clear hr
    obtain ⟨c0, c1, c2, c3, c4⟩ := Five.of h
    have cf := h.frozen
    dsimp only at c0 c1 c2 c3 c4
    clear h
    generalize hR : beginE _ = R
    have HR := fun (_ : Unit) => Lib.hid hR
    clear hR
    by_cases h1 : b0 = 3
    · by_cases h2 : b1 = 1
      · have Hop := fun (_ : Unit) => Lib.hid (show beginE ⟨sq, b0, b1, 0, tr⟩ = _ by unfold beginE; rw [if_neg (by simp [Me.bank]; exact fun _ => h2)])
        go_enter Try.func53, Try.ntmps53
        go_wp2_with (first | (go_at_call 54; refine (when_any _ _).mono ?_; rintro e w' ⟨rfl, rfl⟩))
        go_ret
        rw [← (HR ()).out, (Hop ()).out]
        exact ⟨rfl, by first | exact (Hn ()).out | exact (H ()).out, by first | exact (Hg ()).out | exact World.grownBy.refl _ _⟩
      · have Hop := fun (_ : Unit) => Lib.hid (show beginE ⟨sq, b0, b1, 0, tr⟩ = _ by unfold beginE; rw [if_pos (by simp [Me.bank]; exact ⟨h1, h2⟩)])
        have h2' : (b1 != 1) = true := bne_iff_ne.2 h2
        have Hn := fun (_ : Unit) => Lib.hid ((H ()).out.set 2 (.int .i64 1))
        have Hg := fun (_ : Unit) => Lib.hid (grown_set w ⟨X, 2, none⟩ (.int .i64 1))
        go_enter Try.func53, Try.ntmps53
        go_wp2_with (first | (go_at_call 54; refine (when_any _ _).mono ?_; rintro e w' ⟨rfl, rfl⟩))
        go_ret
        rw [← (HR ()).out, (Hop ()).out]
        exact ⟨rfl, by first | exact (Hn ()).out | exact (H ()).out, by first | exact (Hg ()).out | exact World.grownBy.refl _ _⟩
    · have Hop := fun (_ : Unit) => Lib.hid (show beginE ⟨sq, b0, b1, 0, tr⟩ = _ by unfold beginE; rw [if_neg (by simp [Me.bank]; exact fun h => absurd h h1)])
      go_enter Try.func53, Try.ntmps53
      go_wp2_with (first | (go_at_call 54; refine (when_any _ _).mono ?_; rintro e w' ⟨rfl, rfl⟩))
      go_ret
      rw [← (HR ()).out, (Hop ()).out]
      exact ⟨rfl, by first | exact (Hn ()).out | exact (H ()).out, by first | exact (Hg ()).out | exact World.grownBy.refl _ _⟩
  one := fun m X w hr hact h => by
    obtain ⟨sq, b0, b1, act, tr⟩ := m
    dsimp only at hact
    subst hact
    have H := fun (_ : Unit) => Lib.hid h
    have htr := hr.t
    dsimp only at htr
    clear hr
    obtain ⟨c0, c1, c2, c3, c4⟩ := Five.of h
    have cf := h.frozen
    dsimp only at c0 c1 c2 c3 c4
    clear h
    generalize hR : beginE _ = R
    have HR := fun (_ : Unit) => Lib.hid hR
    clear hR
    by_cases h1 : b1 = 3
    · by_cases h2 : b0 = 1
      · have Hop := fun (_ : Unit) => Lib.hid (show beginE ⟨sq, b0, b1, 1, tr⟩ = _ by unfold beginE; rw [if_neg (by simp [Me.bank]; exact fun _ => h2)])
        go_enter Try.func53, Try.ntmps53
        go_wp2_with (first | (go_at_call 54; refine (when_any _ _).mono ?_; rintro e w' ⟨rfl, rfl⟩))
        go_ret
        rw [← (HR ()).out, (Hop ()).out]
        exact ⟨rfl, by first | exact (Hn ()).out | exact (H ()).out, by first | exact (Hg ()).out | exact World.grownBy.refl _ _⟩
      · have Hop := fun (_ : Unit) => Lib.hid (show beginE ⟨sq, b0, b1, 1, tr⟩ = _ by unfold beginE; rw [if_pos (by simp [Me.bank]; exact ⟨h1, h2⟩)])
        have h2' : (b0 != 1) = true := bne_iff_ne.2 h2
        have Hn := fun (_ : Unit) => Lib.hid ((H ()).out.set 1 (.int .i64 1))
        have Hg := fun (_ : Unit) => Lib.hid (grown_set w ⟨X, 1, none⟩ (.int .i64 1))
        go_enter Try.func53, Try.ntmps53
        go_wp2_with (first | (go_at_call 54; refine (when_any _ _).mono ?_; rintro e w' ⟨rfl, rfl⟩))
        go_ret
        rw [← (HR ()).out, (Hop ()).out]
        exact ⟨rfl, by first | exact (Hn ()).out | exact (H ()).out, by first | exact (Hg ()).out | exact World.grownBy.refl _ _⟩
    · have Hop := fun (_ : Unit) => Lib.hid (show beginE ⟨sq, b0, b1, 1, tr⟩ = _ by unfold beginE; rw [if_neg (by simp [Me.bank]; exact fun h => absurd h h1)])
      go_enter Try.func53, Try.ntmps53
      go_wp2_with (first | (go_at_call 54; refine (when_any _ _).mono ?_; rintro e w' ⟨rfl, rfl⟩))
      go_ret
      rw [← (HR ()).out, (Hop ()).out]
      exact ⟨rfl, by first | exact (Hn ()).out | exact (H ()).out, by first | exact (Hg ()).out | exact World.grownBy.refl _ _⟩
set_option maxHeartbeats 1000000 in
theorem finish_cl : ClC 55 finishE where
  run := fun args w => by kernel_rfl
  zero := fun m X w hr hact h => by
    obtain ⟨sq, b0, b1, act, tr⟩ := m
    dsimp only at hact
    subst hact
    have H := fun (_ : Unit) => Lib.hid h
    have htr := hr.t
    dsimp only at htr
    clear hr
    obtain ⟨c0, c1, c2, c3, c4⟩ := Five.of h
    have cf := h.frozen
    dsimp only at c0 c1 c2 c3 c4
    clear h
    generalize hR : finishE _ = R
    have HR := fun (_ : Unit) => Lib.hid hR
    clear hR
    by_cases h1 : b1 = 1
    · by_cases h2 : b0 = 2
      · have Hop := fun (_ : Unit) => Lib.hid (show finishE ⟨sq, b0, b1, 0, tr⟩ = _ by unfold finishE; rw [if_neg (by simp [Me.bank]; exact fun _ => h2)])
        go_enter Try.func55, Try.ntmps55
        go_wp2_with (first | (go_at_call 54; refine (when_any _ _).mono ?_; rintro e w' ⟨rfl, rfl⟩))
        go_ret
        rw [← (HR ()).out, (Hop ()).out]
        exact ⟨rfl, by first | exact (Hn ()).out | exact (H ()).out, by first | exact (Hg ()).out | exact World.grownBy.refl _ _⟩
      · have h2' : (b0 != 2) = true := bne_iff_ne.2 h2
        by_cases h3 : 4294967288 < sq
        · have Hop := fun (_ : Unit) => Lib.hid (show finishE ⟨sq, b0, b1, 0, tr⟩ = _ by unfold finishE; rw [if_pos (by simp [Me.bank]; exact ⟨h1, h2⟩), if_pos h3])
          have h3' : (4294967288 : Int) < (sq : Int) := by omega
          clear h3
          go_enter Try.func55, Try.ntmps55
          go_wp2_with (first | (go_at_call 54; refine (when_any _ _).mono ?_; rintro e w' ⟨rfl, rfl⟩))
          go_ret
          rw [← (HR ()).out, (Hop ()).out]
          exact ⟨rfl, by first | exact (Hn ()).out | exact (H ()).out, by first | exact (Hg ()).out | exact World.grownBy.refl _ _⟩
        · have Hop := fun (_ : Unit) => Lib.hid (show finishE ⟨sq, b0, b1, 0, tr⟩ = _ by unfold finishE; rw [if_pos (by simp [Me.bank]; exact ⟨h1, h2⟩), if_neg h3])
          have h3' : ¬ (4294967288 : Int) < (sq : Int) := by omega
          clear h3
          have Hn := fun (_ : Unit) => Lib.hid ((((H ()).out.set 2 (.int .i64 2)).set 3 (.int .i64 (1 - 0))).set 4 (.int .i64 3))
          have Hg := fun (_ : Unit) => Lib.hid (((grown_set w ⟨X, 2, none⟩ (.int .i64 2)).trans (grown_set _ ⟨X, 3, none⟩ (.int .i64 (1 - 0)))).trans (grown_set _ ⟨X, 4, none⟩ (.int .i64 3)))
          go_enter Try.func55, Try.ntmps55
          go_wp2_with (first | (go_at_call 54; refine (when_any _ _).mono ?_; rintro e w' ⟨rfl, rfl⟩))
          go_ret
          rw [← (HR ()).out, (Hop ()).out]
          exact ⟨rfl, by first | exact (Hn ()).out | exact (H ()).out, by first | exact (Hg ()).out | exact World.grownBy.refl _ _⟩
    · have Hop := fun (_ : Unit) => Lib.hid (show finishE ⟨sq, b0, b1, 0, tr⟩ = _ by unfold finishE; rw [if_neg (by simp [Me.bank]; exact fun h => absurd h h1)])
      go_enter Try.func55, Try.ntmps55
      go_wp2_with (first | (go_at_call 54; refine (when_any _ _).mono ?_; rintro e w' ⟨rfl, rfl⟩))
      go_ret
      rw [← (HR ()).out, (Hop ()).out]
      exact ⟨rfl, by first | exact (Hn ()).out | exact (H ()).out, by first | exact (Hg ()).out | exact World.grownBy.refl _ _⟩
  one := fun m X w hr hact h => by
    obtain ⟨sq, b0, b1, act, tr⟩ := m
    dsimp only at hact
    subst hact
    have H := fun (_ : Unit) => Lib.hid h
    have htr := hr.t
    dsimp only at htr
    clear hr
    obtain ⟨c0, c1, c2, c3, c4⟩ := Five.of h
    have cf := h.frozen
    dsimp only at c0 c1 c2 c3 c4
    clear h
    generalize hR : finishE _ = R
    have HR := fun (_ : Unit) => Lib.hid hR
    clear hR
    by_cases h1 : b0 = 1
    · by_cases h2 : b1 = 2
      · have Hop := fun (_ : Unit) => Lib.hid (show finishE ⟨sq, b0, b1, 1, tr⟩ = _ by unfold finishE; rw [if_neg (by simp [Me.bank]; exact fun _ => h2)])
        go_enter Try.func55, Try.ntmps55
        go_wp2_with (first | (go_at_call 54; refine (when_any _ _).mono ?_; rintro e w' ⟨rfl, rfl⟩))
        go_ret
        rw [← (HR ()).out, (Hop ()).out]
        exact ⟨rfl, by first | exact (Hn ()).out | exact (H ()).out, by first | exact (Hg ()).out | exact World.grownBy.refl _ _⟩
      · have h2' : (b1 != 2) = true := bne_iff_ne.2 h2
        by_cases h3 : 4294967288 < sq
        · have Hop := fun (_ : Unit) => Lib.hid (show finishE ⟨sq, b0, b1, 1, tr⟩ = _ by unfold finishE; rw [if_pos (by simp [Me.bank]; exact ⟨h1, h2⟩), if_pos h3])
          have h3' : (4294967288 : Int) < (sq : Int) := by omega
          clear h3
          go_enter Try.func55, Try.ntmps55
          go_wp2_with (first | (go_at_call 54; refine (when_any _ _).mono ?_; rintro e w' ⟨rfl, rfl⟩))
          go_ret
          rw [← (HR ()).out, (Hop ()).out]
          exact ⟨rfl, by first | exact (Hn ()).out | exact (H ()).out, by first | exact (Hg ()).out | exact World.grownBy.refl _ _⟩
        · have Hop := fun (_ : Unit) => Lib.hid (show finishE ⟨sq, b0, b1, 1, tr⟩ = _ by unfold finishE; rw [if_pos (by simp [Me.bank]; exact ⟨h1, h2⟩), if_neg h3])
          have h3' : ¬ (4294967288 : Int) < (sq : Int) := by omega
          clear h3
          have Hn := fun (_ : Unit) => Lib.hid ((((H ()).out.set 1 (.int .i64 2)).set 3 (.int .i64 (1 - 1))).set 4 (.int .i64 3))
          have Hg := fun (_ : Unit) => Lib.hid (((grown_set w ⟨X, 1, none⟩ (.int .i64 2)).trans (grown_set _ ⟨X, 3, none⟩ (.int .i64 (1 - 1)))).trans (grown_set _ ⟨X, 4, none⟩ (.int .i64 3)))
          go_enter Try.func55, Try.ntmps55
          go_wp2_with (first | (go_at_call 54; refine (when_any _ _).mono ?_; rintro e w' ⟨rfl, rfl⟩))
          go_ret
          rw [← (HR ()).out, (Hop ()).out]
          exact ⟨rfl, by first | exact (Hn ()).out | exact (H ()).out, by first | exact (Hg ()).out | exact World.grownBy.refl _ _⟩
    · have Hop := fun (_ : Unit) => Lib.hid (show finishE ⟨sq, b0, b1, 1, tr⟩ = _ by unfold finishE; rw [if_neg (by simp [Me.bank]; exact fun h => absurd h h1)])
      go_enter Try.func55, Try.ntmps55
      go_wp2_with (first | (go_at_call 54; refine (when_any _ _).mono ?_; rintro e w' ⟨rfl, rfl⟩))
      go_ret
      rw [← (HR ()).out, (Hop ()).out]
      exact ⟨rfl, by first | exact (Hn ()).out | exact (H ()).out, by first | exact (Hg ()).out | exact World.grownBy.refl _ _⟩
set_option maxHeartbeats 1000000 in
theorem choose_cl : ClC 52 chooseE where
  run := fun args w => by kernel_rfl
  zero := fun m X w hr hact h => by
    obtain ⟨sq, b0, b1, act, tr⟩ := m
    dsimp only at hact
    subst hact
    have H := fun (_ : Unit) => Lib.hid h
    have htr := hr.t
    dsimp only at htr
    clear hr
    obtain ⟨c0, c1, c2, c3, c4⟩ := Five.of h
    have cf := h.frozen
    dsimp only at c0 c1 c2 c3 c4
    clear h
    generalize hR : chooseE _ = R
    have HR := fun (_ : Unit) => Lib.hid hR
    clear hR
    by_cases h1 : b0 = 3
    · have Hop := fun (_ : Unit) => Lib.hid (show chooseE ⟨sq, b0, b1, 0, tr⟩ = _ by unfold chooseE; rw [if_pos (by simp [Me.bank]; exact h1)])
      go_enter Try.func52, Try.ntmps52
      go_wp2_with (first | (go_at_call 54; refine (when_any _ _).mono ?_; rintro e w' ⟨rfl, rfl⟩))
      go_ret
      rw [← (HR ()).out, (Hop ()).out]
      exact ⟨rfl, by first | exact (Hn ()).out | exact (H ()).out, by first | exact (Hg ()).out | exact World.grownBy.refl _ _⟩
    by_cases h2 : b0 = 2
    · by_cases h3 : 0 < tr
      · have Hop := fun (_ : Unit) => Lib.hid (show chooseE ⟨sq, b0, b1, 0, tr⟩ = _ by unfold chooseE; rw [if_neg (by simp [Me.bank]; exact h1), if_pos (by simp [Me.bank]; exact ⟨h2, h3⟩)])
        have e1 : IntKind.i64.wrap (tr - 1) = tr - 1 := IntWalk.i64_in _ (by omega)
        have Hn := fun (_ : Unit) => Lib.hid ((H ()).out.set 4 (.int .i64 (tr - 1)))
        have Hg := fun (_ : Unit) => Lib.hid (grown_set w ⟨X, 4, none⟩ (.int .i64 (tr - 1)))
        clear htr
        go_enter Try.func52, Try.ntmps52
        go_wp2_with (first | (go_at_call 54; refine (when_any _ _).mono ?_; rintro e w' ⟨rfl, rfl⟩))
        go_ret
        rw [← (HR ()).out, (Hop ()).out]
        exact ⟨rfl, by first | exact (Hn ()).out | exact (H ()).out, by first | exact (Hg ()).out | exact World.grownBy.refl _ _⟩
      · by_cases h4 : b1 = 3
        · have Hop := fun (_ : Unit) => Lib.hid (show chooseE ⟨sq, b0, b1, 0, tr⟩ = _ by unfold chooseE; rw [if_neg (by simp [Me.bank]; exact h1), if_neg (by simp [Me.bank]; intro _; omega), if_pos (by simp [Me.bank]; exact h4)])
          have Hn := fun (_ : Unit) => Lib.hid ((((H ()).out.set 1 (.int .i64 0)).set 3 (.int .i64 (1 - 0))).set 4 (.int .i64 0))
          have Hg := fun (_ : Unit) => Lib.hid (((grown_set w ⟨X, 1, none⟩ (.int .i64 0)).trans (grown_set _ ⟨X, 3, none⟩ (.int .i64 (1 - 0)))).trans (grown_set _ ⟨X, 4, none⟩ (.int .i64 0)))
          go_enter Try.func52, Try.ntmps52
          go_wp2_with (first | (go_at_call 54; refine (when_any _ _).mono ?_; rintro e w' ⟨rfl, rfl⟩))
          go_ret
          rw [← (HR ()).out, (Hop ()).out]
          exact ⟨rfl, by first | exact (Hn ()).out | exact (H ()).out, by first | exact (Hg ()).out | exact World.grownBy.refl _ _⟩
        · have Hop := fun (_ : Unit) => Lib.hid (show chooseE ⟨sq, b0, b1, 0, tr⟩ = _ by unfold chooseE; rw [if_neg (by simp [Me.bank]; exact h1), if_neg (by simp [Me.bank]; intro _; omega), if_neg (by simp [Me.bank]; exact h4)])
          go_enter Try.func52, Try.ntmps52
          go_wp2_with (first | (go_at_call 54; refine (when_any _ _).mono ?_; rintro e w' ⟨rfl, rfl⟩))
          go_ret
          rw [← (HR ()).out, (Hop ()).out]
          exact ⟨rfl, by first | exact (Hn ()).out | exact (H ()).out, by first | exact (Hg ()).out | exact World.grownBy.refl _ _⟩
    · by_cases h4 : b1 = 3
      · have Hop := fun (_ : Unit) => Lib.hid (show chooseE ⟨sq, b0, b1, 0, tr⟩ = _ by unfold chooseE; rw [if_neg (by simp [Me.bank]; exact h1), if_neg (by simp [Me.bank]; exact fun h => absurd h h2), if_pos (by simp [Me.bank]; exact h4)])
        have Hn := fun (_ : Unit) => Lib.hid ((((H ()).out.set 1 (.int .i64 0)).set 3 (.int .i64 (1 - 0))).set 4 (.int .i64 0))
        have Hg := fun (_ : Unit) => Lib.hid (((grown_set w ⟨X, 1, none⟩ (.int .i64 0)).trans (grown_set _ ⟨X, 3, none⟩ (.int .i64 (1 - 0)))).trans (grown_set _ ⟨X, 4, none⟩ (.int .i64 0)))
        go_enter Try.func52, Try.ntmps52
        go_wp2_with (first | (go_at_call 54; refine (when_any _ _).mono ?_; rintro e w' ⟨rfl, rfl⟩))
        go_ret
        rw [← (HR ()).out, (Hop ()).out]
        exact ⟨rfl, by first | exact (Hn ()).out | exact (H ()).out, by first | exact (Hg ()).out | exact World.grownBy.refl _ _⟩
      · have Hop := fun (_ : Unit) => Lib.hid (show chooseE ⟨sq, b0, b1, 0, tr⟩ = _ by unfold chooseE; rw [if_neg (by simp [Me.bank]; exact h1), if_neg (by simp [Me.bank]; exact fun h => absurd h h2), if_neg (by simp [Me.bank]; exact h4)])
        go_enter Try.func52, Try.ntmps52
        go_wp2_with (first | (go_at_call 54; refine (when_any _ _).mono ?_; rintro e w' ⟨rfl, rfl⟩))
        go_ret
        rw [← (HR ()).out, (Hop ()).out]
        exact ⟨rfl, by first | exact (Hn ()).out | exact (H ()).out, by first | exact (Hg ()).out | exact World.grownBy.refl _ _⟩
  one := fun m X w hr hact h => by
    obtain ⟨sq, b0, b1, act, tr⟩ := m
    dsimp only at hact
    subst hact
    have H := fun (_ : Unit) => Lib.hid h
    have htr := hr.t
    dsimp only at htr
    clear hr
    obtain ⟨c0, c1, c2, c3, c4⟩ := Five.of h
    have cf := h.frozen
    dsimp only at c0 c1 c2 c3 c4
    clear h
    generalize hR : chooseE _ = R
    have HR := fun (_ : Unit) => Lib.hid hR
    clear hR
    by_cases h1 : b1 = 3
    · have Hop := fun (_ : Unit) => Lib.hid (show chooseE ⟨sq, b0, b1, 1, tr⟩ = _ by unfold chooseE; rw [if_pos (by simp [Me.bank]; exact h1)])
      go_enter Try.func52, Try.ntmps52
      go_wp2_with (first | (go_at_call 54; refine (when_any _ _).mono ?_; rintro e w' ⟨rfl, rfl⟩))
      go_ret
      rw [← (HR ()).out, (Hop ()).out]
      exact ⟨rfl, by first | exact (Hn ()).out | exact (H ()).out, by first | exact (Hg ()).out | exact World.grownBy.refl _ _⟩
    by_cases h2 : b1 = 2
    · by_cases h3 : 0 < tr
      · have Hop := fun (_ : Unit) => Lib.hid (show chooseE ⟨sq, b0, b1, 1, tr⟩ = _ by unfold chooseE; rw [if_neg (by simp [Me.bank]; exact h1), if_pos (by simp [Me.bank]; exact ⟨h2, h3⟩)])
        have e1 : IntKind.i64.wrap (tr - 1) = tr - 1 := IntWalk.i64_in _ (by omega)
        have Hn := fun (_ : Unit) => Lib.hid ((H ()).out.set 4 (.int .i64 (tr - 1)))
        have Hg := fun (_ : Unit) => Lib.hid (grown_set w ⟨X, 4, none⟩ (.int .i64 (tr - 1)))
        clear htr
        go_enter Try.func52, Try.ntmps52
        go_wp2_with (first | (go_at_call 54; refine (when_any _ _).mono ?_; rintro e w' ⟨rfl, rfl⟩))
        go_ret
        rw [← (HR ()).out, (Hop ()).out]
        exact ⟨rfl, by first | exact (Hn ()).out | exact (H ()).out, by first | exact (Hg ()).out | exact World.grownBy.refl _ _⟩
      · by_cases h4 : b0 = 3
        · have Hop := fun (_ : Unit) => Lib.hid (show chooseE ⟨sq, b0, b1, 1, tr⟩ = _ by unfold chooseE; rw [if_neg (by simp [Me.bank]; exact h1), if_neg (by simp [Me.bank]; intro _; omega), if_pos (by simp [Me.bank]; exact h4)])
          have Hn := fun (_ : Unit) => Lib.hid ((((H ()).out.set 2 (.int .i64 0)).set 3 (.int .i64 (1 - 1))).set 4 (.int .i64 0))
          have Hg := fun (_ : Unit) => Lib.hid (((grown_set w ⟨X, 2, none⟩ (.int .i64 0)).trans (grown_set _ ⟨X, 3, none⟩ (.int .i64 (1 - 1)))).trans (grown_set _ ⟨X, 4, none⟩ (.int .i64 0)))
          go_enter Try.func52, Try.ntmps52
          go_wp2_with (first | (go_at_call 54; refine (when_any _ _).mono ?_; rintro e w' ⟨rfl, rfl⟩))
          go_ret
          rw [← (HR ()).out, (Hop ()).out]
          exact ⟨rfl, by first | exact (Hn ()).out | exact (H ()).out, by first | exact (Hg ()).out | exact World.grownBy.refl _ _⟩
        · have Hop := fun (_ : Unit) => Lib.hid (show chooseE ⟨sq, b0, b1, 1, tr⟩ = _ by unfold chooseE; rw [if_neg (by simp [Me.bank]; exact h1), if_neg (by simp [Me.bank]; intro _; omega), if_neg (by simp [Me.bank]; exact h4)])
          go_enter Try.func52, Try.ntmps52
          go_wp2_with (first | (go_at_call 54; refine (when_any _ _).mono ?_; rintro e w' ⟨rfl, rfl⟩))
          go_ret
          rw [← (HR ()).out, (Hop ()).out]
          exact ⟨rfl, by first | exact (Hn ()).out | exact (H ()).out, by first | exact (Hg ()).out | exact World.grownBy.refl _ _⟩
    · by_cases h4 : b0 = 3
      · have Hop := fun (_ : Unit) => Lib.hid (show chooseE ⟨sq, b0, b1, 1, tr⟩ = _ by unfold chooseE; rw [if_neg (by simp [Me.bank]; exact h1), if_neg (by simp [Me.bank]; exact fun h => absurd h h2), if_pos (by simp [Me.bank]; exact h4)])
        have Hn := fun (_ : Unit) => Lib.hid ((((H ()).out.set 2 (.int .i64 0)).set 3 (.int .i64 (1 - 1))).set 4 (.int .i64 0))
        have Hg := fun (_ : Unit) => Lib.hid (((grown_set w ⟨X, 2, none⟩ (.int .i64 0)).trans (grown_set _ ⟨X, 3, none⟩ (.int .i64 (1 - 1)))).trans (grown_set _ ⟨X, 4, none⟩ (.int .i64 0)))
        go_enter Try.func52, Try.ntmps52
        go_wp2_with (first | (go_at_call 54; refine (when_any _ _).mono ?_; rintro e w' ⟨rfl, rfl⟩))
        go_ret
        rw [← (HR ()).out, (Hop ()).out]
        exact ⟨rfl, by first | exact (Hn ()).out | exact (H ()).out, by first | exact (Hg ()).out | exact World.grownBy.refl _ _⟩
      · have Hop := fun (_ : Unit) => Lib.hid (show chooseE ⟨sq, b0, b1, 1, tr⟩ = _ by unfold chooseE; rw [if_neg (by simp [Me.bank]; exact h1), if_neg (by simp [Me.bank]; exact fun h => absurd h h2), if_neg (by simp [Me.bank]; exact h4)])
        go_enter Try.func52, Try.ntmps52
        go_wp2_with (first | (go_at_call 54; refine (when_any _ _).mono ?_; rintro e w' ⟨rfl, rfl⟩))
        go_ret
        rw [← (HR ()).out, (Hop ()).out]
        exact ⟨rfl, by first | exact (Hn ()).out | exact (H ()).out, by first | exact (Hg ()).out | exact World.grownBy.refl _ _⟩
end Go.Proofs.Ytnmeidmiijcniaa
