/- How an argument that is a handoff is opened; a handoff is itself. No condition. -/
import Derived.Test.YthhodibfbfmijaaHandE
import Derived.Test.YthhodibfbfmijaaOpen
set_option linter.unusedVariables false
set_option linter.unusedSimpArgs false
namespace Go.Proofs.Ythhodibfbfmijaa
open Go.RowKit Go.ChangeShapes Go.WideShapes Go.ChangeAt
theorem ho_parts {H : Type} {enc : TypeId × Value → H} {W : World} {base : Nat} {r : Reach} {v : Value} {d : DataW H} {p : List MemPlace}
    (k : Value.okWide Try.prog W r base 45 v) (h : DataW.Trod enc Try.prog W 0 (fun _ => true) true 45 v d p) :
    ∃ g : Ho, v = hov g ∧ g.Ok := by
  obtain ⟨cs_, xs_, n_, rfl, hsz_, rfl, hxl_, hf_⟩ := open_struct Try.underlying45 k h
  obtain ⟨ls_⟩ := cs_
  have hl8 : ls_.length = 8 := hsz_.trans (by kernel_rfl : Try.prog.cellsOf 45 = 8)
  obtain ⟨c0, c1, c2, c3, c4, c5, c6, c7, rfl⟩ : ∃ a b c d e f g i, ls_ = [a, b, c, d, e, f, g, i] := by
    match ls_, hl8 with
    | [a, b, c, d, e, f, g, i], _ => exact ⟨a, b, c, d, e, f, g, i, rfl⟩
  obtain ⟨y0, y1, y2, y3, y4, rfl⟩ : ∃ a b c d e, xs_ = [a, b, c, d, e] := by
    have hx5 : xs_.length = 5 := hxl_.trans rfl
    match xs_, hx5 with
    | [a, b, c, d, e], _ => exact ⟨a, b, c, d, e, rfl⟩
  have k1 : Try.prog.cellsOf 23 = 1 := by kernel_rfl
  have k2 : Try.prog.cellsOf 24 = 1 := by kernel_rfl
  have k3 : Try.prog.cellsOf 4 = 1 := by kernel_rfl
  have k4 : Try.prog.cellsOf 43 = 4 := by kernel_rfl
  have g0 := hf_ 0 _ rfl
  have g1 := hf_ 1 _ rfl
  have g2 := hf_ 2 _ rfl
  have g3 := hf_ 3 _ rfl
  have g4 := hf_ 4 _ rfl
  simp [k1, k2, k3, k4] at g0 g1 g2 g3 g4
  obtain ⟨I, rfl, i1, i2⟩ := trod_i64 Try.underlying23 g0
  obtain ⟨b, rfl, hb⟩ := trod_u64 Try.underlying24 g1
  obtain ⟨n, rfl, hn⟩ := trod_u64 Try.underlying24 g2
  obtain ⟨s, rfl⟩ := trod_b Try.underlying4 g3
  obtain ⟨xs, n4, _, _, _, hxl, hh⟩ := DataW.trod_array Try.underlying43 g4
  rw [k2] at hh
  obtain ⟨z0, z1, z2, z3, rfl⟩ : ∃ a b c d, xs = [a, b, c, d] := by
    match xs, hxl with
    | [a, b, c, d], _ => exact ⟨a, b, c, d, rfl⟩
  have a0 := hh 0 (by decide)
  have a1 := hh 1 (by decide)
  have a2 := hh 2 (by decide)
  have a3 := hh 3 (by decide)
  simp at a0 a1 a2 a3
  obtain ⟨x0, rfl, h0⟩ := trod_u64 Try.underlying24 a0
  obtain ⟨x1, rfl, h1⟩ := trod_u64 Try.underlying24 a1
  obtain ⟨x2, rfl, h2⟩ := trod_u64 Try.underlying24 a2
  obtain ⟨x3, rfl, h3⟩ := trod_u64 Try.underlying24 a3
  exact ⟨⟨I, b, n, s, x0, x1, x2, x3⟩, rfl, ⟨⟨i1, i2⟩, hb, hn, h0, h1, h2, h3⟩⟩
theorem a4_refl (d : Nat) (x0 x1 x2 x3 : Nat) (w : World) : (Op.equalIn (d + 2) 43 (.agg #[.int .u64 x0, .int .u64 x1, .int .u64 x2, .int .u64 x3]) (.agg #[.int .u64 x0, .int .u64 x1, .int .u64 x2, .int .u64 x3])).run Try.prog w = .ok true w := by
  have u24 := Try.underlying24
  have a24 := Try.isAgg24
  have z24 := Try.sizeOf24
  have u5 := Try.underlying43
  have a5 := Try.isAgg43
  have z5 := Try.sizeOf43
  have he := fun (x : Nat) => run_equalIn_int (P := Try.prog) w d 24 .u64 .u64 (x : Int) (x : Int) u24
  rw [show d + 2 = d + 1 + 1 from rfl]
  unfold Op.equalIn
  simp only [Sem.run_bind, run_underlying u5, Result.andThen_ok, z24]
  simp only [Std.Legacy.Range.forIn_eq_forIn_range', Std.Legacy.Range.size]
  rw [show List.range' 0 ((4 - 0 + 1 - 1) / 1) 1 = [0, 1, 2, 3] from rfl]
  simp only [List.forIn_cons, List.forIn_nil]
  go_simp
theorem ho_refl (h : Ho) (w : World) : (Op.equalIn 10000 45 (hov h) (hov h)).run Try.prog w = .ok true w := by
  have u24 := Try.underlying24
  have a24 := Try.isAgg24
  have z24 := Try.sizeOf24
  have u4 := Try.underlying4
  have a4 := Try.isAgg4
  have z4 := Try.sizeOf4
  have u3 := Try.underlying23
  have a3 := Try.isAgg23
  have z3 := Try.sizeOf23
  have u5 := Try.underlying43
  have a5 := Try.isAgg43
  have z5 := Try.sizeOf43
  have hS : Try.prog.underlying 45 = some (.struct (Try.prog.fieldsOf 45)) := by kernel_rfl
  have hp : Try.prog.stoodInHeld 45 = false := by kernel_rfl
  obtain ⟨I, b, n, s, x0, x1, x2, x3⟩ := h
  unfold hov
  rw [show (10000 : Nat) = 9999 + 1 from rfl, run_equalIn_agg w 9999 45 _ _ hS hp]
  simp only [Program.fieldsOf, Try.underlying45]
  clear hS hp
  have h4 := a4_refl 9997 x0 x1 x2 x3 w
  go_simp
end Go.Proofs.Ythhodibfbfmijaa
