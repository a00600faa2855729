/- When two regions are one. No condition. -/
import Derived.Test.YtcbiohpgmooefaaRmM
import Derived.Laws.StructEq
set_option linter.unusedVariables false
set_option linter.unusedSimpArgs false
namespace Go.Proofs.Ytcbiohpgmooefaa
open Go.RowKit
theorem rg_equal (x y : Rg) (w : World) : (Op.equalIn 10000 33 (.agg #[.int .u64 x.base, .int .u64 x.size, .bool x.r, .bool x.w, .bool x.x, .bool x.s]) (.agg #[.int .u64 y.base, .int .u64 y.size, .bool y.r, .bool y.w, .bool y.x, .bool y.s])).run Try.prog w = .ok (decide (x = y)) w := by
  have u24 := Try.underlying24
  have a24 := Try.isAgg24
  have z24 := Try.sizeOf24
  have u4 := Try.underlying4
  have a4 := Try.isAgg4
  have z4 := Try.sizeOf4
  have hS : Try.prog.underlying 33 = some (.struct (Try.prog.fieldsOf 33)) := by kernel_rfl
  have hp : Try.prog.stoodInHeld 33 = false := by kernel_rfl
  rw [show (10000 : Nat) = 9999 + 1 from rfl, run_equalIn_agg w 9999 33 _ _ hS hp]
  simp only [Program.fieldsOf, Try.underlying33]
  obtain ⟨b1, n1, r1, w1, x1, s1⟩ := x
  obtain ⟨b2, n2, r2, w2, x2, s2⟩ := y
  have hd : decide ((⟨b1, n1, r1, w1, x1, s1⟩ : Rg) = ⟨b2, n2, r2, w2, x2, s2⟩) = (decide (b1 = b2) && decide (n1 = n2) && (r1 == r2) && (w1 == w2) && (x1 == x2) && (s1 == s2)) := by
    rw [Bool.eq_iff_iff]
    simp [Rg.mk.injEq, and_assoc]
  rw [hd]
  clear hd hS hp
  go_simp
  by_cases h1 : b1 = b2
  · subst h1
    by_cases h2 : n1 = n2
    · subst h2
      simp
      cases r1 <;> cases r2 <;> cases w1 <;> cases w2 <;> simp <;> cases x1 <;> cases x2 <;> cases s1 <;> cases s2 <;> rfl
    · have i2 : ¬ ((n1 : Int) = n2) := by omega
      simp [h2, i2]
  · have i1 : ¬ ((b1 : Int) = b2) := by omega
    simp [h1, i1]
end Go.Proofs.Ytcbiohpgmooefaa
