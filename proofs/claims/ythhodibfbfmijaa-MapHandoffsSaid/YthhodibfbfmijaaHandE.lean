/- Whether a handoff may be: the program's word and the document's. No condition. -/
import Derived.Test.YthhodibfbfmijaaHandN
import Derived.Test.YthhodibfbfmijaaMapW
set_option linter.unusedVariables false
set_option linter.unusedSimpArgs false
namespace Go.Proofs.Ythhodibfbfmijaa
open Go.RowKit
def hov (h : Ho) : Value := .agg #[.int .i64 h.img, .int .u64 h.base, .int .u64 h.size, .bool h.sec, .int .u64 h.a, .int .u64 h.b, .int .u64 h.c, .int .u64 h.d]
set_option maxHeartbeats 400000 in
theorem hmay_any (h : Ho) (w : World) (hb : h.base < 18446744073709551616) :
    Calls Try.prog 36 #[hov h] w fun e w' => e = .returned (.bool (mayR h)) ∧ Below w.heap.size w w' := by
  obtain ⟨I, B, N, s, a1, a2, a3, a4⟩ := h
  have HB1 : ∀ o1, Hid (Below w.heap.size w (w.alloc o1)) := fun o1 => Lib.hid ((Below.refl _ w).alloc (Nat.le_refl _) o1)
  have Hin := fun w => Lib.hid (inside_any B N w hb)
  unfold hov mayR
  simp only
  have e1 : ((0 : Int) < I) ↔ (1 ≤ I) := by omega
  clear hb
  by_cases h1 : 0 < I
  · have HD1 := Lib.hid (decide_eq_true (e1.1 h1))
    clear e1
    by_cases h2 : I < 12
    · have HD2 := Lib.hid (decide_eq_true h2)
      go_enter Try.func36, Try.ntmps36
      go_wp2_with fail
      as_aux_lemma =>
      refine (Hin _).out.mono ?_
      rintro e w1 ⟨rfl, hb1⟩
      have HB := Lib.hid ((HB1 _).out.trans (hb1.mono (HB1 _).out.size))
      clear hb1
      go_wp2_with fail
      go_ret
      exact ⟨by rw [HD1.out, HD2.out]; simp, HB.out⟩
    · have HD2 := Lib.hid (decide_eq_false h2)
      go_enter Try.func36, Try.ntmps36
      go_wp2_with fail
      go_ret
      exact ⟨by rw [HD1.out, HD2.out]; simp, (HB1 _).out⟩
  · have HD1 := Lib.hid (decide_eq_false (fun h => h1 (e1.2 h)))
    clear e1
    go_enter Try.func36, Try.ntmps36
    go_wp2_with fail
    go_ret
    exact ⟨by rw [HD1.out]; simp, (HB1 _).out⟩
set_option maxHeartbeats 400000 in
theorem rhmay_any (h : Ho) (w : World) :
    Calls Try.prog 23 #[hov h] w fun e w' => e = .returned (.bool (mayR h)) ∧ Below w.heap.size w w' := by
  obtain ⟨I, B, N, s, a1, a2, a3, a4⟩ := h
  have HB1 : ∀ o1, Hid (Below w.heap.size w (w.alloc o1)) := fun o1 => Lib.hid ((Below.refl _ w).alloc (Nat.le_refl _) o1)
  have Hin := fun w => Lib.hid (rin_any B N w)
  unfold hov mayR
  simp only
  go_enter Try.func23, Try.ntmps23
  go_wp2_with fail
  as_aux_lemma =>
  refine (Hin _).out.mono ?_
  rintro e w1 ⟨rfl, rfl⟩
  cases hin : inR B N
  · go_wp2_with fail
    go_ret
    exact ⟨by simp [hin], (HB1 _).out⟩
  · by_cases h1 : 1 ≤ I
    · have HD1 := Lib.hid (decide_eq_true h1)
      by_cases h2 : I < 12
      · have HD2 := Lib.hid (decide_eq_true h2)
        go_wp2_with fail
        go_ret
        exact ⟨by rw [HD1.out, HD2.out]; simp [hin], (HB1 _).out⟩
      · have HD2 := Lib.hid (decide_eq_false h2)
        go_wp2_with fail
        go_ret
        exact ⟨by rw [HD1.out, HD2.out]; simp [hin], (HB1 _).out⟩
    · have HD1 := Lib.hid (decide_eq_false h1)
      go_wp2_with fail
      go_ret
      exact ⟨by rw [HD1.out]; simp, (HB1 _).out⟩
end Go.Proofs.Ythhodibfbfmijaa
