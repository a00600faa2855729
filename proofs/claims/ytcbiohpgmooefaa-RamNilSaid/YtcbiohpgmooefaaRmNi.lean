/- RAM's answers where there is none. No condition. -/
import Derived.Test.YtcbiohpgmooefaaRmF
import Derived.Test.YtcbiohpgmooefaaRmG
set_option linter.unusedVariables false
set_option linter.unusedSimpArgs false
namespace Go.Proofs.Ytcbiohpgmooefaa
open Go.RowKit
attribute [local go_sem ↓] build_rg
theorem may_nil (s : Bool) (a : Int) (x n : Nat) (w : World) :
    Calls Try.prog 23 #[.pointer none, .bool s, .int .i64 a, .int .u64 x, .int .u64 n] w fun e w' => e = .returned (.int .i64 1) ∧ w = w' := by
  go_enter Try.func23, Try.ntmps23
  go_wp2
  go_ret
  exact ⟨rfl, rfl⟩
theorem load_nil (s : Bool) (x n : Nat) (w : World) :
    Calls Try.prog 20 #[.pointer none, .bool s, .int .u64 x, .int .u64 n] w fun e w' => e = .returned (.tuple #[.slice none 0 0, .int .i64 1]) ∧ w = w' := by
  have Hm := Lib.hid (may_nil s 1 x n w)
  go_enter Try.func20, Try.ntmps20
  go_wp2_with fail
  refine Hm.out.mono ?_
  rintro e w' ⟨rfl, rfl⟩
  go_wp2_with fail
  go_ret2
  exact ⟨rfl, rfl⟩
theorem fetch_nil (s : Bool) (x n : Nat) (w : World) :
    Calls Try.prog 21 #[.pointer none, .bool s, .int .u64 x, .int .u64 n] w fun e w' => e = .returned (.tuple #[.slice none 0 0, .int .i64 1]) ∧ w = w' := by
  have Hm := Lib.hid (may_nil s 3 x n w)
  go_enter Try.func21, Try.ntmps21
  go_wp2_with fail
  refine Hm.out.mono ?_
  rintro e w' ⟨rfl, rfl⟩
  go_wp2_with fail
  go_ret2
  exact ⟨rfl, rfl⟩
theorem store_nil (s : Bool) (x : Nat) (ao : Option Addr) (n cap : Nat) (w : World) (hn : n ≤ 9223372036854775807) :
    Calls Try.prog 12 #[.pointer none, .bool s, .int .u64 x, .slice ao n cap] w fun e w' => e = .returned (.int .i64 1) ∧ w = w' := by
  have cn : IntKind.u64.wrap (n : Int) = (n : Int) := IntWalk.u64_in _ (by omega)
  have Hm := Lib.hid (may_nil s 2 x n w)
  clear hn
  go_enter Try.func12, Try.ntmps12
  go_wp2_with fail
  refine Hm.out.mono ?_
  rintro e w' ⟨rfl, rfl⟩
  go_wp2_with fail
  go_ret
  exact ⟨rfl, rfl⟩
theorem place_nil (x : Nat) (ao : Option Addr) (n cap : Nat) (w : World) :
    Calls Try.prog 10 #[.pointer none, .int .u64 x, .slice ao n cap] w fun e w' => e = .returned (.int .i64 1) ∧ w = w' := by
  go_enter Try.func10, Try.ntmps10
  go_wp2
  go_ret
  exact ⟨rfl, rfl⟩
theorem peek_nil (x n : Nat) (w : World) :
    Calls Try.prog 11 #[.pointer none, .int .u64 x, .int .u64 n] w fun e w' => e = .returned (.tuple #[.slice none 0 0, .int .i64 1]) ∧ w = w' := by
  go_enter Try.func11, Try.ntmps11
  go_wp2
  go_ret2
  exact ⟨rfl, rfl⟩
theorem regions_nil (w : World) :
    Calls Try.prog 15 #[.pointer none] w fun e w' => e = .returned (.slice none 0 0) ∧ w = w' := by
  go_enter Try.func15, Try.ntmps15
  go_wp2
  go_ret
  exact ⟨rfl, rfl⟩
theorem wipe_nil (w : World) :
    Calls Try.prog 22 #[.pointer none] w fun e w' => e = .returned (.tuple #[]) ∧ w = w' := by
  go_enter Try.func22, Try.ntmps22
  go_wp2_with fail
  go_end0
  exact ⟨rfl, rfl⟩
theorem add_nil (g : Rg) (w : World) :
    Calls Try.prog 9 #[.pointer none, rgv g] w fun e w' => e = .returned (.int .i64 1) ∧ Below w.heap.size w w' := by
  unfold rgv
  go_enter Try.func9, Try.ntmps9
  go_wp2
  go_ret
  exact ⟨rfl, (Below.refl _ w).alloc (Nat.le_refl _) _⟩
theorem drop_nil (x : Nat) (w : World) :
    Calls Try.prog 14 #[.pointer none, .int .u64 x] w fun e w' => e = .returned (.int .i64 1) ∧ Below w.heap.size w w' := by
  go_enter Try.func14, Try.ntmps14
  go_wp2
  go_ret
  exact ⟨rfl, (Below.refl _ w).alloc (Nat.le_refl _) _⟩
theorem find_nil (x : Nat) (w : World) :
    Calls Try.prog 13 #[.pointer none, .int .u64 x] w fun e w' => e = .returned (.tuple #[rgv default, .bool false]) ∧ Below w.heap.size w w' := by
  have hz := run_buildRg0
  have HX := HB.new w rg0 33
  have HB1 := Lib.hid ((Below.refl _ w).alloc (Nat.le_refl _) (.cells rg0.toArray 33))
  have k0 := HX.cell (i := 0) rfl
  have k1 := HX.cell (i := 1) rfl
  have k2 := HX.cell (i := 2) rfl
  have k3 := HX.cell (i := 3) rfl
  have k4 := HX.cell (i := 4) rfl
  have k5 := HX.cell (i := 5) rfl
  unfold rg0 at k0 k1 k2 k3 k4 k5 HB1
  clear HX
  go_enter Try.func13, Try.ntmps13
  go_wp2_with fail
  refine bodyPost_ret (v := .tuple #[rgv default, .bool false]) (by simp [results, Try.results13, go_sem, k0, k1, k2, k3, k4, k5]; try rfl) rfl ⟨rfl, HB1.out⟩
end Go.Proofs.Ytcbiohpgmooefaa
