/- do of law 23: one of the calls that change metadata. No condition. -/
import Derived.Test.YtnmeidmiijcniaaFwH
set_option linter.unusedVariables false
set_option linter.unusedSimpArgs false
namespace Go.Proofs.Ytnmeidmiijcniaa
open Go.RowKit
def opN : Nat → Me → Me × Int
  | 0 => beginE
  | 1 => finishE
  | 2 => acceptE
  | 3 => cancelE
  | _ => chooseE
set_option maxHeartbeats 1000000 in
theorem do_any (k : Nat) (hk : k < 5) (u p mb n : Nat) (s : Up) (f : Fl) (w : World) (h : UpA w u p mb n s f) (hn : n < 281474976710655) (hw0 : 0 ≤ f.writes) (hw1 : f.writes < 9223372036854775807) :
    Calls Try.prog 26 #[.pointer (some ⟨u, 0, none⟩), .int .i64 k] w fun e w' =>
      e = .returned (.int .i64 (chgF (opN k) f s.meta').2.2) ∧ UpA w' u p mb (n + 1) s (chgF (opN k) f s.meta').1 ∧ Frm (fun q => q = p ∨ q = mb) w w' := by
  have H0 := fun (_ : Unit) => Lib.hid (begin_up u p mb n s f w h hn hw0 hw1)
  have H1 := fun (_ : Unit) => Lib.hid (finish_up u p mb n s f w h hn hw0 hw1)
  have H2 := fun (_ : Unit) => Lib.hid (accept_up u p mb n s f w h hn hw0 hw1)
  have H3 := fun (_ : Unit) => Lib.hid (cancel_up u p mb n s f w h hn hw0 hw1)
  have H4 := fun (_ : Unit) => Lib.hid (choose_up u p mb n s f w h hn hw0 hw1)
  clear h hn hw0 hw1
  rcases (show k = 0 ∨ k = 1 ∨ k = 2 ∨ k = 3 ∨ k = 4 by omega) with rfl | rfl | rfl | rfl | rfl
  · clear hk H1 H2 H3 H4
    go_enter Try.func26, Try.ntmps26
    go_wp2_with fail
    refine (H0 ()).out.mono ?_
    rintro e w2 ⟨rfl, h2, h3⟩
    have HQ := fun (_ : Unit) => Lib.hid (And.intro h2 h3)
    clear h2 h3 H0
    go_wp2_with fail
    go_ret
    exact ⟨rfl, (HQ ()).out.1, (HQ ()).out.2⟩
  · clear hk H0 H2 H3 H4
    go_enter Try.func26, Try.ntmps26
    go_wp2_with fail
    refine (H1 ()).out.mono ?_
    rintro e w2 ⟨rfl, h2, h3⟩
    have HQ := fun (_ : Unit) => Lib.hid (And.intro h2 h3)
    clear h2 h3 H1
    go_wp2_with fail
    go_ret
    exact ⟨rfl, (HQ ()).out.1, (HQ ()).out.2⟩
  · clear hk H0 H1 H3 H4
    go_enter Try.func26, Try.ntmps26
    go_wp2_with fail
    refine (H2 ()).out.mono ?_
    rintro e w2 ⟨rfl, h2, h3⟩
    have HQ := fun (_ : Unit) => Lib.hid (And.intro h2 h3)
    clear h2 h3 H2
    go_wp2_with fail
    go_ret
    exact ⟨rfl, (HQ ()).out.1, (HQ ()).out.2⟩
  · clear hk H0 H1 H2 H4
    go_enter Try.func26, Try.ntmps26
    go_wp2_with fail
    refine (H3 ()).out.mono ?_
    rintro e w2 ⟨rfl, h2, h3⟩
    have HQ := fun (_ : Unit) => Lib.hid (And.intro h2 h3)
    clear h2 h3 H3
    go_wp2_with fail
    go_ret
    exact ⟨rfl, (HQ ()).out.1, (HQ ()).out.2⟩
  · clear hk H0 H1 H2 H3
    unfold chooseF at H4
    obtain ⟨A, hA⟩ : ∃ A, (if (chgF chooseE f s.meta').2.2 = 0 then (chgF chooseE f s.meta').2.1 else 0) = A := ⟨_, rfl⟩
    simp only [hA] at H4
    obtain ⟨C, hC⟩ : ∃ C, (chgF chooseE f s.meta').2.2 = C := ⟨_, rfl⟩
    simp only [hC] at H4
    rw [show (chgF (opN 4) f s.meta').2.2 = C from hC]
    clear hA hC
    go_enter Try.func26, Try.ntmps26
    go_wp2_with fail
    refine (H4 ()).out.mono ?_
    rintro e w2 ⟨rfl, h2, h3⟩
    have HQ := fun (_ : Unit) => Lib.hid (And.intro h2 h3)
    clear h2 h3 H4
    go_wp2_with fail
    go_ret
    exact ⟨rfl, (HQ ()).out.1, (HQ ()).out.2⟩
end Go.Proofs.Ytnmeidmiijcniaa
