/- slices.Clone of bytes. No condition. -/
import Derived.Test.YtnmeidmiijcniaaProg
import Derived.Test.YtnmeidmiijcniaaHB
set_option linter.unusedVariables false
set_option linter.unusedSimpArgs false
namespace Go.Proofs.Ytnmeidmiijcniaa
open Go.RowKit
theorem byteRow : ByteRow Try.prog 27 5 := ⟨Try.underlying27, by kernel_rfl⟩
set_option maxHeartbeats 400000 in
theorem clone_any (ao : Option Addr) (n cap : Nat) (l : List UInt8) (w : World) (hl : l.length = n) (hn : n ≤ 140737488355328) (hc : ao = none → cap = 0) (hr : Rd w ao l) :
    Calls Try.prog 70 #[.slice ao n cap] w fun e w' => ∃ v, e = .returned v ∧ Own 5 w' w.heap.size v l ∧ Below w.heap.size w w' := by
  have hq := fun (w : World) (a : Option Addr) (n cap : Nat) => Lib.run_eql_slice_nil (P := Try.prog) w 27 5 a n cap 0 0 Try.underlying27
  cases ao with
  | none =>
    obtain rfl := hc rfl
    have h0 : l = [] := by
      by_cases h0 : 0 < l.length
      · obtain ⟨_, _, e, _⟩ := hr 0 h0; cases e
      · exact List.eq_nil_of_length_eq_zero (by omega)
    subst h0
    obtain rfl : n = 0 := hl.symm
    go_enter Try.func70, Try.ntmps70
    go_wp2
    go_ret
    exact ⟨_, rfl, Own.nil _ _ _, Below.refl _ _⟩
  | some a =>
    have Hhl := Lib.hid hl
    clear hl
    have hr' := fun o => Lib.hid (hr.below ((Below.refl _ w).alloc (Nat.le_refl _) o))
    have hm := Lib.hid (Own.made0 5 w w.heap.size (Nat.le_refl _))
    go_enter Try.func70, Try.ntmps70
    go_wp2_with (at_builtin; refine wpList_append_bytes byteRow rfl _ _ rfl w.heap.size _ [] rfl hm.out _ n cap l rfl ?c1 Hhl.out (hr' _).out ?c2 ?c3 ?_)
    case c1 => intro h; cases h
    case c2 => simpa using hn
    case c3 => simp
    intro v' w' hown hgr
    go_wp2
    go_ret
    exact ⟨_, rfl, by simpa using hown, ((Below.refl _ _).alloc (Nat.le_refl _) _).grown hgr (by simp) (by intro k hk; cases hk; exact Nat.le_refl _)⟩
theorem clone_pos (ao : Option Addr) (n cap : Nat) (l : List UInt8) (w : World) (hl : l.length = n) (hn : n ≤ 140737488355328) (hc : ao = none → cap = 0) (hr : Rd w ao l) (h0 : 0 < n) :
    Calls Try.prog 70 #[.slice ao n cap] w fun e w' => ∃ g C, e = .returned (.slice (some ⟨g, 0, none⟩) n C) ∧ n ≤ C ∧ w.heap.size ≤ g ∧ g < w'.heap.size ∧ Own 5 w' w.heap.size (.slice (some ⟨g, 0, none⟩) n C) l ∧ Below w.heap.size w w' :=
  (clone_any ao n cap l w hl hn hc hr).mono fun e w' ⟨v, he, ho, hb⟩ => by
    rcases ho.cases with ⟨_, h⟩ | ⟨g, C, h, h1, h2, h3, _⟩
    · subst h; simp at hl; omega
    · subst hl; subst h; exact ⟨g, C, he, h3, h1, h2, ho, hb⟩
theorem u8_xor8 (a b : UInt8) : bits BinOp.xor IntKind.u8 a.toNat b.toNat = ((a ^^^ b).toNat : Int) := by
  rw [u8_xor_nat _ _ a.toNat_lt b.toNat_lt, UInt8.toNat_xor]
/-- a[l:h] of an array of one-cell elements -/
theorem slice_array {P : Program} {T E : TypeId} (N : Nat) (ht : P.underlying T = some (.array N E)) (hs : (P.info? E).map (·.size) = some 1) (b off l h : Nat) (h1 : l ≤ h) (h2 : h ≤ N) :
    ∃ off', (∀ (w : World) (kl kh : IntKind), (Instr.sliceAt T (.pointer (some ⟨b, off, none⟩)) (some (.int kl (l : Int))) (some (.int kh (h : Int))) none).run P w = .ok (.slice (some ⟨b, off', none⟩) (h - l) (N - l)) w) ∧ (l < N → off' = off + l) := by
  have he : P.elem T = E := by simp [Program.elem, ht]
  have hn : P.arrayLen T = N := by simp [Program.arrayLen, ht]
  refine ⟨if N = l then off else off + l, fun w kl kh => ?_, fun hl => if_neg (by omega)⟩
  rw [run_sliceAt_array_lh (P := P) w T ⟨b, off, none⟩ (by rw [he, hn]; exact ht) kl kh (l : Int) (h : Int) (by omega) (by omega) (by rw [hn]; omega)]
  have hsz : (sizeOf (P.elem T)).run P w = .ok 1 w := by
    rw [he]
    cases hq : P.info? E with
    | none => simp [hq] at hs
    | some i => simp [hq] at hs; simp [sizeOf, typeInfo, hq, hs]
  rw [hsz]
  simp only [Result.andThen, slicedAt, hn, Int.toNat_natCast, Nat.mul_one]
  by_cases e : N = l
  · simp [e]
  · simp only [if_neg e, Addr.add_mid]
end Go.Proofs.Ytnmeidmiijcniaa
