/- The law's alive, and pick; no flash. No condition. -/
import Derived.Test.YtdmoaighbobgaaaFl3
set_option linter.unusedVariables false
set_option linter.unusedSimpArgs false
namespace Go.Proofs.Ytdmoaighbobgaaa
open Go.RowKit
def f7 : Fl := ⟨3, false, 0, false, 0, put (fun _ => none) 1 (filled [7])⟩
theorem newR_7 : newR 3 [(1, filled [7])] = (some f7, 0) := by
  unfold newR
  rw [if_neg (by omega), newGo_put (by simp) (filled_len _), newGo]
  rfl
theorem f7_ok : f7.Ok := ⟨by decide, by decide, by decide, by decide, fun k l h => by
  simp only [f7, put] at h
  split at h
  · cases h; exact filled_len _
  · cases h⟩
theorem filled_7 : ((filled [7]).map bv)[0]? = some (.int .u8 7) := by
  unfold filled
  rw [List.cons_append, List.take_succ_cons, List.map_cons, List.getElem?_cons_zero]
  rfl
set_option maxRecDepth 100000 in
set_option maxHeartbeats 1000000 in
theorem alive_any (w : World) : Calls Try.prog 8 #[] w fun e w' => e = .returned (.bool true) ∧ Below w.heap.size w w' := by
  have hr0 := Lib.hid (Rd.new w [7] 5 (0, 0))
  have hb0 := Lib.hid ((Below.refl w.heap.size w).alloc (Nat.le_refl _) (.cells ([7].map bv).toArray 5))
  go_enter Try.func8, Try.ntmps8
  go_wp2_with fail
  refine (filled_any (some ⟨w.heap.size, 0, none⟩) 1 1 [7] _ rfl (by decide) hr0.out).mono ?_
  rintro e w1 ⟨rfl, hf1, hb1⟩
  have hB1 := Lib.hid (hb0.out.trans (hb1.mono hb0.out.size))
  have hf1' := Lib.hid hf1
  clear hf1 hb1
  go_wp2_with fail
  rw [show (w.alloc (.cells ([7].map bv).toArray 5)).heap.size = w.heap.size + 1 by simp] at hf1'
  have hb2 := Lib.hid (hB1.out.alloc hB1.out.size (.cells #[.int .i64 1, .slice (some ⟨w.heap.size + 1, 0, none⟩) 512 512] 48))
  have hf2 := Lib.hid (hf1'.out.alloc (.cells #[.int .i64 1, .slice (some ⟨w.heap.size + 1, 0, none⟩) 512 512] 48))
  have hL := HB.new w1 [.int .i64 1, .slice (some ⟨w.heap.size + 1, 0, none⟩) 512 512] 48
  have hrs : Hid (RdS bkc 2 (w1.alloc (.cells #[.int .i64 1, .slice (some ⟨w.heap.size + 1, 0, none⟩) 512 512] 48)) (some ⟨w1.heap.size, 0, none⟩) [⟨1, some ⟨w.heap.size + 1, 0, none⟩, 512, filled [7]⟩]) := Lib.hid fun j g hj => by
    have hj0 : j = 0 := by
      rcases Nat.lt_or_ge j 1 with h | h
      · omega
      · rw [List.getElem?_eq_none (by simpa using h)] at hj; cases hj
    subst hj0
    cases hj
    refine ⟨w1.heap.size, 0, rfl, hL.lt, fun i v hi => ?_⟩
    unfold bkc at hi
    simp only [filled_len] at hi
    have := hL.cell hi
    rw [show 0 + 0 * 2 + i = i by omega]; exact this
  have hbk : Hid (∀ b ∈ ([⟨1, some ⟨w.heap.size + 1, 0, none⟩, 512, filled [7]⟩] : List Bk), b.Ok (w1.alloc (.cells #[.int .i64 1, .slice (some ⟨w.heap.size + 1, 0, none⟩) 512 512] 48))) := Lib.hid fun b hb => by
    rw [List.mem_singleton] at hb
    subst hb
    exact ⟨⟨by simp only; omega, by simp only; omega⟩, hf2.out.rd, by simp only [filled_len]; exact Nat.le_refl _, by simp only [maxLen]; omega, fun h => by cases h⟩
  clear hL hr0 hb0
  refine (new_any 3 (some ⟨w1.heap.size, 0, none⟩) 1 1 [⟨1, some ⟨w.heap.size + 1, 0, none⟩, 512, filled [7]⟩] _ rfl (by decide) hrs.out hbk.out).mono ?_
  rintro e w3 ⟨v, he, hsaid, hb3⟩
  have hnr : newR 3 (([⟨1, some ⟨w.heap.size + 1, 0, none⟩, 512, filled [7]⟩] : List Bk).map Bk.p) = (some f7, 0) := newR_7
  rw [hnr] at he hsaid
  subst he
  have hB3 := Lib.hid (hb2.out.trans (hb3.mono hb2.out.size))
  clear hb3 hrs hbk hnr hb2 hf2
  rcases hsaid with ⟨f, p, mb, hf, rfl, hfl, -, -⟩ | ⟨h, -⟩
  · obtain rfl : f7 = f := by simpa using hf
    clear hf
    have hfl3 := Lib.hid hfl
    clear hfl
    have hrd := fun w' h => Lib.hid (readf_ok p mb 1 f7 1 w' h f7_ok ⟨by decide, by decide⟩ (by decide))
    have hrb := fun w' h => Lib.hid (readf_bad p mb 1 f7 3 w' h (by decide))
    rw [show mayE f7 3 = 141 by decide] at hrb
    rw [show readF f7 1 = filled [7] by rfl] at hrd
    have hon := fun w' h => Lib.hid (on_any p mb 1 f7 w' h)
    have hsz := fun w' h => Lib.hid (size_any p mb 1 f7 w' h)
    rw [show f7.off = false from rfl] at hon
    rw [show f7.size = 3 from rfl] at hsz
    have h70 := Lib.hid filled_7
    generalize f7 = fl at *
    generalize filled [7] = l7 at *
    go_wp2_with fail
    refine (hrd _ hfl3.out).out.mono ?_
    rintro e w4 ⟨rfl, hh4, hb4⟩
    have hB4 := Lib.hid (hB3.out.trans (hb4.mono hB3.out.size))
    have hfl4 := Lib.hid (hfl3.out.later hb4)
    have c0 := hh4.cell h70.out
    clear hb4 hh4
    go_wp2_with fail
    refine (hrb _ hfl4.out).out.mono ?_
    rintro e w' ⟨rfl, rfl⟩
    go_wp2_with fail
    refine (hon _ hfl4.out).out.mono ?_
    rintro e w' ⟨rfl, rfl⟩
    go_wp2_with fail
    refine (hsz _ hfl4.out).out.mono ?_
    rintro e w' ⟨rfl, rfl⟩
    go_wp2_with fail
    go_ret
    exact ⟨rfl, hB4.out⟩
  · cases h
theorem may_nil (k : Int) (w : World) : Calls Try.prog 27 #[.pointer none, .int .i64 k] w fun e w' => e = .returned (.int .i64 1) ∧ w = w' := by
  go_enter Try.func27, Try.ntmps27
  go_wp2_with fail
  go_ret
  exact ⟨rfl, rfl⟩
theorem read_nil (k : Int) (w : World) : Calls Try.prog 14 #[.pointer none, .int .i64 k] w fun e w' => e = .returned (.tuple #[.slice none 0 0, .int .i64 1]) ∧ w = w' := by
  go_enter Try.func14, Try.ntmps14
  go_wp2_with fail
  refine (may_nil _ _).mono ?_
  rintro e w' ⟨rfl, rfl⟩
  go_wp2_with fail
  go_ret2
  exact ⟨rfl, rfl⟩
theorem span_nil (a b c d : Int) (w : World) : Calls Try.prog 19 #[.pointer none, .int .i64 a, .int .i64 b, .int .u64 c, .int .u64 d] w fun e w' => e = .returned (.tuple #[.slice none 0 0, .int .i64 1]) ∧ w = w' := by
  go_enter Try.func19, Try.ntmps19
  go_wp2_with fail
  refine (may_nil _ _).mono ?_
  rintro e w' ⟨rfl, rfl⟩
  go_wp2_with fail
  go_ret2
  exact ⟨rfl, rfl⟩
theorem write_nil (k : Int) (v : Value) (w : World) : Calls Try.prog 12 #[.pointer none, .int .i64 k, v] w fun e w' => e = .returned (.int .i64 1) ∧ w = w' := by
  go_enter Try.func12, Try.ntmps12
  go_wp2_with fail
  refine (may_nil _ _).mono ?_
  rintro e w' ⟨rfl, rfl⟩
  go_wp2_with fail
  go_ret
  exact ⟨rfl, rfl⟩
theorem cut_nil (k : Int) (d : Bool) (w : World) : Calls Try.prog 10 #[.pointer none, .int .i64 k, .bool d] w fun e w' => e = .returned (.int .i64 1) ∧ w = w' := by
  go_enter Try.func10, Try.ntmps10
  go_wp2_with fail
  refine (may_nil _ _).mono ?_
  rintro e w' ⟨rfl, rfl⟩
  go_wp2_with fail
  go_ret
  exact ⟨rfl, rfl⟩
theorem power_nil (w : World) : Calls Try.prog 16 #[.pointer none] w fun e w' => e = .returned (.tuple #[]) ∧ w = w' := by
  go_enter Try.func16, Try.ntmps16
  go_wp2_with fail
  go_end0
  exact ⟨rfl, rfl⟩
theorem on_nil (w : World) : Calls Try.prog 13 #[.pointer none] w fun e w' => e = .returned (.bool false) ∧ w = w' := by
  go_enter Try.func13, Try.ntmps13
  go_wp2_with fail
  go_ret
  exact ⟨rfl, rfl⟩
theorem size_nil (w : World) : Calls Try.prog 18 #[.pointer none] w fun e w' => e = .returned (.int .i64 0) ∧ w = w' := by
  go_enter Try.func18, Try.ntmps18
  go_wp2_with fail
  go_ret
  exact ⟨rfl, rfl⟩
theorem writes_nil (w : World) : Calls Try.prog 15 #[.pointer none] w fun e w' => e = .returned (.int .i64 0) ∧ w = w' := by
  go_enter Try.func15, Try.ntmps15
  go_wp2_with fail
  go_ret
  exact ⟨rfl, rfl⟩
theorem blocks_nil (w : World) : Calls Try.prog 25 #[.pointer none] w fun e w' => e = .returned (.slice none 0 0) ∧ w = w' := by
  go_enter Try.func25, Try.ntmps25
  go_wp2_with fail
  go_ret
  exact ⟨rfl, rfl⟩
def pickN (c : Int) (n : Int) : Int := (if c < 0 then -(c + 1) else c) % n
theorem pick_any (c n : Int) (w : World) (h : I64 c) (hn : 0 < n) (hn1 : n ≤ 9223372036854775807) :
    Calls Try.prog 9 #[.int .i64 c, .int .i64 n] w fun e w' => e = .returned (.int .i64 (pickN c n)) ∧ w = w' := by
  obtain ⟨h0, h1⟩ := h
  unfold pickN
  by_cases hc : c < 0
  · rw [if_pos hc]
    have t1 : (-(c + 1)).tmod n = (-(c + 1)) % n := Int.tmod_eq_emod_of_nonneg (by omega)
    have t2 : (n == 0) = false := by rw [beq_eq_false_iff_ne]; omega
    go_enter Try.func9, Try.ntmps9
    go_wp2_with fail
    go_ret
    exact ⟨rfl, rfl⟩
  · rw [if_neg hc]
    have t1 : c.tmod n = c % n := Int.tmod_eq_emod_of_nonneg (by omega)
    go_enter Try.func9, Try.ntmps9
    go_wp2_with fail
    go_ret
    exact ⟨rfl, rfl⟩
theorem pickN_nonneg {c n : Int} (hn : 0 < n) : 0 ≤ pickN c n := Int.emod_nonneg _ (by omega)
theorem pickN_lt {c n : Int} (hn : 0 < n) : pickN c n < n := Int.emod_lt_of_pos _ hn
end Go.Proofs.Ytdmoaighbobgaaa
