/- No hash: nothing is done, and nothing is told: the walk. No condition. -/
import Derived.Test.YtngkelflfahjbaaDoorShaA
import Derived.Test.YtngkelflfahjbaaDoorOpen
import Derived.Test.YtngkelflfahjbaaDoorShaTab
namespace Go.Proofs.YtngkelflfahjbaaDoor.shaNil
open Go.ChangeShapes Go.WideShapes Go.ChangeAt Go.RowKit
set_option linter.unusedVariables false
set_option linter.unusedSimpArgs false
set_option maxHeartbeats 1000000 in
theorem core (W : World) (v : Value) (htab : TabOk W) (h00 : 0 < W.heap.size) :
    Calls Tryd.prog 4 #[v] W fun e w' => e = .returned (.bool true) ∧ Below W.heap.size W w' := by
  have Haw := Lib.hid (awake02_any W htab h00)
  clear htab h00
  go_enter Tryd.func4, Tryd.ntmps4
  go_wp2_with fail
  refine Haw.out.mono ?_
  rintro e w1 ⟨rfl, hb⟩
  have HB := Lib.hid hb
  clear hb Haw
  go_wp2_with fail
  refine (write_nil w1 v).mono ?_
  rintro e w2 ⟨rfl, rfl⟩
  go_wp2_with fail
  refine (reset_nil w1 v).mono ?_
  rintro e w2 ⟨rfl, rfl⟩
  go_wp2_with fail
  refine (sum_nil w1 v).mono ?_
  rintro e w2 ⟨rfl, rfl⟩
  go_wp2_with fail
  refine (state_nil w1 v).mono ?_
  rintro e w2 ⟨rfl, rfl⟩
  go_wp2_with fail
  refine (len_nil w1 v).mono ?_
  rintro e w2 ⟨rfl, rfl⟩
  go_wp2_with fail
  go_ret
  exact ⟨rfl, HB.out⟩
theorem walk {H : Type} (enc : TypeId × Value → H) (W : World) (base : Nat) (v0 : Value) (d0 : DataW H) (p0 : List MemPlace)
    (k0 : Value.okWide Tryd.prog W .any base 22 v0)
    (h0 : DataW.Trod enc Tryd.prog W 0 (fun _ => true) true 22 v0 d0 p0)
    (hsz : (DataW.weightsEach Tryd.prog [22] ([d0] ++ [])).all (· ≤ reachBytes) = true) (hL : laidMetH Tryd.prog laidL W) :
    Calls Tryd.prog 4 #[v0] W fun e w' => e = .returned (.bool true) ∧ Below W.heap.size W w' := by
  obtain ⟨hT, h00⟩ := tab_of_laid hL
  exact core W v0 hT h00
end Go.Proofs.YtngkelflfahjbaaDoor.shaNil
