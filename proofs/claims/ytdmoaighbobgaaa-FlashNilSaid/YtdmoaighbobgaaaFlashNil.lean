/- No flash: the walk. No condition. -/
import Derived.Test.YtdmoaighbobgaaaFl4
namespace Go.Proofs.Ytdmoaighbobgaaa.flashNil
open Go.ChangeShapes Go.WideShapes Go.ChangeAt Go.RowKit
set_option linter.unusedVariables false
set_option linter.unusedSimpArgs false
set_option maxHeartbeats 1000000 in
theorem core (w : World) (i : Int) (ao : Option Addr) (n cap : Nat) :
    Calls Try.prog 6 #[.int .i64 i, .slice ao n cap] w fun e w' => e = .returned (.bool true) ∧ Below w.heap.size w w' := by
  go_enter Try.func6, Try.ntmps6
  go_wp2_with (first
    | (go_at_call 14; refine (read_nil _ _).mono ?_; rintro e w' ⟨rfl, rfl⟩)
    | (go_at_call 19; refine (span_nil _ _ _ _ _).mono ?_; rintro e w' ⟨rfl, rfl⟩)
    | (go_at_call 16; refine (power_nil _).mono ?_; rintro e w' ⟨rfl, rfl⟩))
  refine (alive_any _).mono ?_
  rintro e w1 ⟨rfl, hb⟩
  go_wp2_with (first
    | (go_at_call 12; refine (write_nil _ _ _).mono ?_; rintro e w' ⟨rfl, rfl⟩)
    | (go_at_call 10; refine (cut_nil _ _ _).mono ?_; rintro e w' ⟨rfl, rfl⟩)
    | (go_at_call 13; refine (on_nil _).mono ?_; rintro e w' ⟨rfl, rfl⟩)
    | (go_at_call 18; refine (size_nil _).mono ?_; rintro e w' ⟨rfl, rfl⟩)
    | (go_at_call 15; refine (writes_nil _).mono ?_; rintro e w' ⟨rfl, rfl⟩)
    | (go_at_call 25; refine (blocks_nil _).mono ?_; rintro e w' ⟨rfl, rfl⟩))
  go_ret
  exact ⟨rfl, hb⟩
set_option maxRecDepth 100000 in
theorem walk {H : Type} (enc : TypeId × Value → H) (W : World) (base : Nat) (v0 : Value) (d0 : DataW H) (p0 : List MemPlace) (v1 : Value) (d1 : DataW H) (p1 : List MemPlace)
    (k0 : Value.okWide Try.prog W .any base 3 v0) (k1 : Value.okWide Try.prog W .any base 30 v1)
    (h0 : DataW.Trod enc Try.prog W 0 (fun _ => true) true 3 v0 d0 p0) (h1 : DataW.Trod enc Try.prog W 0 (fun _ => true) true 30 v1 d1 p1)
    (hsz : (DataW.weightsEach Try.prog [3, 30] ([d0, d1] ++ [])).all (· ≤ reachBytes) = true) :
    Calls Try.prog 6 #[v0, v1] W fun e w' => e = .returned (.bool true) ∧ Below W.heap.size W w' := by
  simp only [DataW.weightsEach, List.cons_append, List.nil_append] at hsz
  obtain ⟨z0, hsz⟩ := all_app hsz
  obtain ⟨z1, hsz⟩ := all_app hsz
  obtain ⟨i, rfl, rfl, rfl, wi⟩ := open_int Try.underlying3 k0 h0
  obtain ⟨ao, n, cap, l, rfl, hl, hn, hcap, hrd, _⟩ := open_bytes Try.underlying30 Try.underlying5 (by kernel_rfl) (by kernel_rfl) k1 h1 z1
  exact core W i ao n cap
end Go.Proofs.Ytdmoaighbobgaaa.flashNil
