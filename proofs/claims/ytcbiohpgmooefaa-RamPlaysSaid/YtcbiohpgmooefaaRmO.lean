/- Whether a region is open; whether bytes may be gone to. No condition. -/
import Derived.Test.YtcbiohpgmooefaaRmF
set_option linter.unusedVariables false
set_option linter.unusedSimpArgs false
namespace Go.Proofs.Ytcbiohpgmooefaa
open Go.RowKit
attribute [local go_sem ↓] build_rg
set_option maxHeartbeats 1000000 in
theorem open_any (g : Rg) (sec : Bool) (a : Int) (w : World) (h1 : 1 ≤ a) (h2 : a ≤ 3) :
    Calls Try.prog 40 #[rgv g, .bool sec, .int .i64 a] w fun e w' => e = .returned (.bool (opn g sec a)) ∧ Below w.heap.size w w' := by
  obtain ⟨b, n, r, wr, x, s⟩ := g
  have HX := Lib.hid (fun o => (Below.refl _ w).alloc (Nat.le_refl _) o)
  rcases (by omega : a = 1 ∨ a = 2 ∨ a = 3) with rfl | rfl | rfl
  all_goals
    unfold rgv opn right
    clear h1 h2
    cases sec <;> cases s <;> (go_enter Try.func40, Try.ntmps40) <;> go_wp2_with fail
    all_goals
      go_ret
      exact ⟨rfl, ((Below.refl _ w).alloc (Nat.le_refl _) _).alloc (by simp) _⟩
end Go.Proofs.Ytcbiohpgmooefaa
