/- When metadata are one. No condition. -/
import Derived.Test.YtnmeidmiijcniaaFwM
import Derived.Laws.StructEq
import Derived.ChangeKeysEq
set_option linter.unusedVariables false
set_option linter.unusedSimpArgs false
namespace Go.Proofs.Ytnmeidmiijcniaa
open Go.RowKit
theorem bk_equal (p1 q1 p2 q2 : Int) (w : World) : (Op.equalIn 9999 24 (.agg #[.int .i64 p1, .int .i64 q1]) (.agg #[.int .i64 p2, .int .i64 q2])).run Try.prog w = .ok (decide (p1 = p2) && decide (q1 = q2)) w := by
  have hi : ∃ i, Try.prog.info? 23 = some i ∧ i.size = 1 := by
    have h : (Try.prog.info? 23).map (fun i => i.size) = some 1 := by kernel_rfl
    cases hq : Try.prog.info? 23 with
    | none => rw [hq] at h; cases h
    | some i => rw [hq] at h; exact ⟨i, rfl, Option.some.inj h⟩
  obtain ⟨i, hi, hs⟩ := hi
  have u6 := Try.underlying23
  rw [show (9999 : Nat) = 9998 + 1 from rfl, run_equalIn_array (P := Try.prog) w 9998 _ _ Try.underlying24 hi]
  have hc : Try.prog.cellsOf 23 = 1 := by kernel_rfl
  have a6 := Try.isAgg23
  have z6 := Try.sizeOf23
  rw [hc]
  simp only [show List.range 2 = [0, 1] from rfl, Op.eqItems]
  clear hi hs
  go_simp
  by_cases h1 : p1 = p2
  · subst h1
    by_cases h2 : q1 = q2
    · subst h2; simp
    · simp [h2]
  · simp [h1]
theorem me_equal (x y : Me) (w : World) : (Op.equalIn 10000 26 (.agg #[.int .u32 x.seq, .int .i64 x.b0, .int .i64 x.b1, .int .i64 x.act, .int .i64 x.tries]) (.agg #[.int .u32 y.seq, .int .i64 y.b0, .int .i64 y.b1, .int .i64 y.act, .int .i64 y.tries])).run Try.prog w = .ok (decide (x = y)) w := by
  have u24 := Try.underlying22
  have a24 := Try.isAgg22
  have z24 := Try.sizeOf22
  have u4 := Try.underlying3
  have a4 := Try.isAgg3
  have z4 := Try.sizeOf3
  have u5 := Try.underlying24
  have a5 := Try.isAgg24
  have z5 := Try.sizeOf24
  have u6 := Try.underlying23
  have a6 := Try.isAgg23
  have z6 := Try.sizeOf23
  have hS : Try.prog.underlying 26 = some (.struct (Try.prog.fieldsOf 26)) := by kernel_rfl
  have hp : Try.prog.stoodInHeld 26 = false := by kernel_rfl
  rw [show (10000 : Nat) = 9999 + 1 from rfl, run_equalIn_agg w 9999 26 _ _ hS hp]
  simp only [Program.fieldsOf, Try.underlying26]
  obtain ⟨s1, p1, q1, a1, t1⟩ := x
  obtain ⟨s2, p2, q2, a2, t2⟩ := y
  have hd : decide ((⟨s1, p1, q1, a1, t1⟩ : Me) = ⟨s2, p2, q2, a2, t2⟩) = (decide (s1 = s2) && decide (p1 = p2) && decide (q1 = q2) && decide (a1 = a2) && decide (t1 = t2)) := by
    rw [Bool.eq_iff_iff]
    simp [Me.mk.injEq, and_assoc]
  rw [hd]
  clear hd hS hp
  have hb := bk_equal p1 q1 p2 q2
  go_simp
  by_cases h0 : s1 = s2
  · subst h0
    by_cases h1 : p1 = p2
    · subst h1
      by_cases h2 : q1 = q2
      · subst h2
        by_cases h3 : a1 = a2
        · subst h3
          by_cases h4 : t1 = t2
          · subst h4; simp
          · simp [h4]
        · simp [h3]
      · simp [h2]
    · simp [h1]
  · have i0 : ¬ (s1 : Int) = s2 := by omega
    simp [h0, i0]
end Go.Proofs.Ytnmeidmiijcniaa
