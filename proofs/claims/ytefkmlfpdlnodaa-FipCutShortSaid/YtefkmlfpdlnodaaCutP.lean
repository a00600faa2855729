/- Fits and Cut: the program's. No condition. -/
import Derived.Test.YtefkmlfpdlnodaaPut
set_option linter.unusedVariables false
set_option linter.unusedSimpArgs false
namespace Go.Proofs.Ytefkmlfpdlnodaa
open Go.RowKit
def fitsB (f s l : Nat) : Bool := decide (f ≤ l) && decide (s ≤ l - f)
theorem fits_any (f s l : Nat) (w : World) (hf : f < 18446744073709551616) (hs : s < 18446744073709551616) (hl : l < 18446744073709551616) :
    Calls Try.prog 22 #[.int .u64 f, .int .u64 s, .int .u64 l] w fun e w' => e = .returned (.bool (fitsB f s l)) ∧ w = w' := by
  by_cases h : f ≤ l
  · have e1 : IntKind.u64.wrap ((l : Int) - f) = ((l - f : Nat) : Int) := by rw [IntWalk.u64_in _ (by omega)]; omega
    have hr := Lib.hid (show fitsB f s l = decide (s ≤ l - f) by unfold fitsB; rw [decide_eq_true h, Bool.true_and])
    have t1 : decide (f ≤ l) = true := decide_eq_true (by omega)
    clear hf hs hl
    by_cases h2 : s ≤ l - f
    · have t2 : decide (s ≤ l - f) = true := decide_eq_true (by omega)
      have hr2 := Lib.hid (hr.out.trans (decide_eq_true h2))
      generalize l - f = d at *
      clear h h2 hr
      go_enter Try.func22, Try.ntmps22
      go_wp2
      go_ret
      exact ⟨by rw [hr2.out]; rfl, rfl⟩
    · have t2 : decide (s ≤ l - f) = false := decide_eq_false (by omega)
      have hr2 := Lib.hid (hr.out.trans (decide_eq_false h2))
      generalize l - f = d at *
      clear h h2 hr
      go_enter Try.func22, Try.ntmps22
      go_wp2
      go_ret
      exact ⟨by rw [hr2.out]; rfl, rfl⟩
  · have hr := Lib.hid (show fitsB f s l = false by unfold fitsB; rw [decide_eq_false h, Bool.false_and])
    have t1 : decide (f ≤ l) = false := decide_eq_false (by omega)
    clear hf hs hl
    go_enter Try.func22, Try.ntmps22
    go_wp2
    go_ret
    exact ⟨by rw [hr.out]; rfl, rfl⟩
def cutR (l : List UInt8) (f s : Nat) : List UInt8 := if fitsB f s l.length = true then (l.drop f).take s else []
def cutE (n f s : Nat) : Int := if fitsB f s n = true then 0 else 11
theorem fitsB_true {f s l : Nat} (h : fitsB f s l = true) : f ≤ l ∧ f + s ≤ l := by
  unfold fitsB at h
  rw [Bool.and_eq_true, decide_eq_true_eq, decide_eq_true_eq] at h
  omega
set_option maxHeartbeats 400000 in
theorem cut_any (ao : Option Addr) (n cap f s : Nat) (l : List UInt8) (w : World) (hl : l.length = n) (hn : n ≤ cap) (hcap : n ≤ 140737488351232) (hc : ao = none → cap = 0) (hr : Rd w ao l) (hf : f < 18446744073709551616) (hs : s < 18446744073709551616) :
    Calls Try.prog 25 #[.slice ao n cap, .int .u64 f, .int .u64 s] w fun e w' => ∃ v, e = .returned (.tuple #[v, .int .i64 (cutE n f s)]) ∧ Own 5 w' w.heap.size v (cutR l f s) ∧ Below w.heap.size w w' := by
  have Hft := Lib.hid (fits_any f s n w hf hs (by omega))
  have hconv : IntKind.u64.wrap (n : Int) = (n : Int) := IntWalk.u64_in _ (by omega)
  by_cases hB : fitsB f s n = true
  · obtain ⟨b1, b2⟩ := fitsB_true hB
    obtain ⟨bo, hsl, hbn, hbr⟩ := slice_bytes byteRow ao n cap f (f + s) (by omega) (by omega) .u64 .u64
    have hpl : ((l.drop f).take (f + s - f)).length = s := by simp; omega
    have es : f + s - f = s := by omega
    have hsn : s ≤ 140737488351232 := by omega
    have e1 : IntKind.u64.wrap ((f : Int) + s) = ((f + s : Nat) : Int) := by rw [IntWalk.u64_in _ (by omega)]; omega
    have hrd := Lib.hid (hbr w l hr hl b2)
    have hce := Lib.hid (show cutE n f s = 0 by unfold cutE; rw [if_pos hB])
    have hcr := Lib.hid (show cutR l f s = (l.drop f).take s by unfold cutR; rw [if_pos (by rw [hl]; exact hB)])
    rw [es] at hpl hsl hrd
    have hcn : bo = none → cap - f = 0 := fun h => by rw [hc (hbn h)]; omega
    generalize hN : f + s = N at *
    clear hbr hbn hr hf hs hN es
    have Hhl := Lib.hid hl
    clear hl
    have Hhc := Lib.hid hc
    clear hc
    have Hhpl := Lib.hid hpl
    clear hpl
    have Hhcn := Lib.hid hcn
    clear hcn
    have HhB := Lib.hid hB
    clear hB
    go_enter Try.func25, Try.ntmps25
    go_wp2_with (go_at_call 22; refine Hft.out.mono ?_; rintro e w' ⟨rfl, rfl⟩; rw [HhB.out])
    refine (clone_any bo s (cap - f) ((l.drop f).take s) w Hhpl.out (by omega) Hhcn.out hrd.out).mono ?_
    rintro e w1 ⟨v, rfl, ho, hb⟩
    clear hsl e1 hconv
    go_wp2_with fail
    go_ret2
    exact ⟨v, by rw [hce.out]; rfl, by rw [hcr.out]; exact ho, hb⟩
  · have hB' : fitsB f s n = false := by simpa using hB
    have hce := Lib.hid (show cutE n f s = 11 by unfold cutE; rw [if_neg hB])
    have hcr := Lib.hid (show cutR l f s = [] by unfold cutR; rw [if_neg (by rw [hl]; exact hB)])
    clear hf hs hr hB
    have Hhl := Lib.hid hl
    clear hl
    have Hhc := Lib.hid hc
    clear hc
    have HhB' := Lib.hid hB'
    clear hB'
    go_enter Try.func25, Try.ntmps25
    go_wp2_with (go_at_call 22; refine Hft.out.mono ?_; rintro e w' ⟨rfl, rfl⟩; rw [HhB'.out])
    go_ret2
    exact ⟨.slice none 0 0, by rw [hce.out]; rfl, by rw [hcr.out]; exact Own.nil _ _ _, Below.refl _ _⟩
end Go.Proofs.Ytefkmlfpdlnodaa
