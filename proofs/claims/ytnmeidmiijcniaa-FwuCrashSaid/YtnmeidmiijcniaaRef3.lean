/- The document's Put. No condition. -/
import Derived.Test.YtnmeidmiijcniaaRef2
set_option linter.unusedVariables false
set_option linter.unusedSimpArgs false
namespace Go.Proofs.Ytnmeidmiijcniaa
open Go.RowKit
def rS (k m : Nat) (big : Bool) (j : Nat) : Bool := decide ((if big then k - 1 - j else j) < m)
structure RPutIn (W : World) (l : List UInt8) (A k : Nat) (big : Bool) (v g C n : Nat) (x i : Value) (wr : World) : Prop where
  x : ∃ m : Nat, m ≤ k ∧ i = .int .i64 m ∧ x = .int .u64 ((v / 256 ^ m : Nat) : Int) ∧ Own 5 wr W.heap.size (.slice (some ⟨g, 0, none⟩) n C) (putP l A k big v (rS k m big)) ∧ Below W.heap.size W wr ∧ g < wr.heap.size
theorem rputIn_step {W wr : World} {l : List UInt8} {A k : Nat} {big : Bool} {v g C n m : Nat} (hA : A + k ≤ l.length) (hm : m < k) (hg : W.heap.size ≤ g)
    (ho : Own 5 wr W.heap.size (.slice (some ⟨g, 0, none⟩) n C) (putP l A k big v (rS k m big))) (hb : Below W.heap.size W wr) (hgw : g < wr.heap.size) (p : Nat) (hp : p = A + if big then k - 1 - m else m) :
    RPutIn W l A k big v g C n (.int .u64 (((v / 256 ^ m : Nat) : Int) / 256)) (.int .i64 ((m : Int) + 1)) (wr.setCell ⟨g, p, none⟩ (.int .u8 (((v / 256 ^ m : Nat) : Int) % 256))) := by
  subst hp
  have hj : (if big then k - 1 - m else m) < k := by split <;> omega
  have hbyte : (((v / 256 ^ m : Nat) : Int) % 256) = ((byteAt k big v (if big then k - 1 - m else m)).toNat : Int) := by
    unfold byteAt
    rw [byte_of]
    cases big
    · rfl
    · simp only [if_true]
      rw [show k - 1 - (k - 1 - m) = m from by omega]
  have h := ho.store (A + if big then k - 1 - m else m) (byteAt k big v (if big then k - 1 - m else m)) (by rw [putP_length]; omega)
  rw [putP_set _ _ _ _ _ _ _ hj] at h
  have e : putP l A k big v (fun i => rS k m big i || i == if big then k - 1 - m else m) = putP l A k big v (rS k (m + 1) big) := putP_congr fun j hjk => by
    unfold rS
    cases big
    · simp only [Bool.false_eq_true, if_false]
      by_cases h1 : j < m
      · simp [h1]; omega
      · by_cases h2 : j = m
        · simp [h2]
        · have : (j == m) = false := by rw [beq_eq_false_iff_ne]; exact h2
          simp [h1, this]; omega
    · simp only [if_true]
      by_cases h1 : k - 1 - j < m
      · simp [h1]; omega
      · by_cases h2 : j = k - 1 - m
        · subst h2; simp; omega
        · have : (j == k - 1 - m) = false := by rw [beq_eq_false_iff_ne]; exact h2
          simp [h1, this]; omega
  rw [e, ← hbyte] at h
  refine ⟨m + 1, by omega, by go_num, ?_, h, hb.setCell hg _, by simpa [World.setCell] using hgw⟩
  rw [Nat.pow_succ, ← Nat.div_div_eq_div_mul]
  generalize v / 256 ^ m = V
  exact congrArg (Value.int IntKind.u64) (by omega)
set_option maxHeartbeats 400000 in
theorem rput_run (ao : Option Addr) (n cap A k v : Nat) (l : List UInt8) (big : Bool) (w : World) (hl : l.length = n) (hn : n ≤ 140737488351232) (hc : ao = none → cap = 0) (hr : Rd w ao l) (hs : SizeOk k) (hp : A + k ≤ n) (hv64 : v < 18446744073709551616) :
    Calls Try.prog 45 #[.slice ao n cap, .int .i64 A, .int .i64 k, .bool big, .int .u64 v] w fun e w' =>
      (∃ g C, v < 256 ^ k ∧ e = .returned (.tuple #[.slice (some ⟨g, 0, none⟩) n C, .int .i64 0]) ∧ n ≤ C ∧ Own 5 w' w.heap.size (.slice (some ⟨g, 0, none⟩) n C) (putL l A k big v) ∧ Below w.heap.size w w') ∨
      (¬ v < 256 ^ k ∧ e = .returned (.tuple #[.slice none 0 0, .int .i64 12]) ∧ Below w.heap.size w w') := by
  have hk8 : 1 ≤ k ∧ k ≤ 8 := by unfold SizeOk at hs; omega
  have Hge := Lib.hid (rget_ok ao n cap A k l big w hl hn hr hs hp)
  have hr' := fun o => Lib.hid (hr.below ((Below.refl _ w).alloc (Nat.le_refl _) o))
  have hm := Lib.hid (Own.made0 5 w w.heap.size (Nat.le_refl _))
  have Hhl := Lib.hid hl
  clear hl
  have Hhc := Lib.hid hc
  clear hc
  have Hhv64 := Lib.hid hv64
  clear hv64
  clear hr
  go_enter Try.func45, Try.ntmps45
  go_wp2_with (first | (go_at_call 47; refine Hge.out.mono ?_; rintro e w' ⟨rfl, rfl⟩) | (at_builtin; refine wpList_append_bytes_pos byteRow rfl _ _ rfl w.heap.size _ [] rfl hm.out _ n cap l rfl Hhc.out Hhl.out (hr' _).out n ?c0 ?c1 ?c2 ?c3 ?_))
  case c0 => simp
  case c1 => omega
  case c2 => omega
  case c3 => simp
  intro g C w1 hown hgr
  have hb : Below w.heap.size w w1 := ((Below.refl _ _).alloc (Nat.le_refl _) _).grown hgr (by simp) (by intro k hk; cases hk; exact Nat.le_refl _)
  obtain ⟨-, hg, hg1, hC, -, -, -⟩ := hown.at
  clear hgr hr' Hhc hm
  go_wp2_with fail
  go_loopw [4, 15] (RPutIn w l A k big v g C n) (fun _ i _ => k - (intOf i).toNat)
  case atStart => exact ⟨0, by omega, rfl, by simp, by rw [putP_none _ _ _ _ _ _ (by intro j _; simp [rS])]; simpa using hown, hb, hg1⟩
  case round =>
    clear hown hb hg1
    obtain ⟨m, hm, rfl, rfl, hown, hb, hg1⟩ := hrel
    by_cases hlt : m < k
    · obtain ⟨-, -, -, -, -, hcells, hfz⟩ := hown.at
      have hx : v / 256 ^ m ≤ 18446744073709551615 := Nat.le_of_lt_succ (Nat.lt_of_le_of_lt (Nat.div_le_self _ _) Hhv64.out)
      cases big
      · have hcell := hcells (A + m) (by omega)
        have hfr := hfz (A + m)
        have hstep := Lib.hid (rputIn_step (by have := Hhl.out; omega) hlt hg hown hb hg1 (A + m) rfl)
        clear hcells hfz hown hb hg1
        generalize v / 256 ^ m = V at *
        go_wp2_with fail
        first
        | (go_roundw
           case rel => exact hstep.out
           case measure => (first | omega | (simp [intOf] <;> omega) | (simp only [intOf] <;> omega)))
        | exact ⟨hstep.out, by (first | omega | (simp [intOf] <;> omega) | (simp only [intOf] <;> omega))⟩
        | (refine ⟨?_, by (first | omega | (simp [intOf] <;> omega) | (simp only [intOf] <;> omega))⟩
           (repeat apply Exists.intro)
           refine (fun a b => And.intro b a) ?_ ?_
           · first | rfl | ((repeat refine ⟨rfl, ?_⟩); rfl)
           exact hstep.out)
      · have hcell := hcells (A + (k - 1 - m)) (by omega)
        have hfr := hfz (A + (k - 1 - m))
        have hstep := Lib.hid (rputIn_step (by have := Hhl.out; omega) hlt hg hown hb hg1 (A + (k - 1 - m)) rfl)
        have e1 : ((A : Int) + k - 1 - m).toNat = A + (k - 1 - m) := by omega
        clear hcells hfz hown hb hg1
        generalize v / 256 ^ m = V at *
        go_wp2_with fail
        first
        | (go_roundw
           case rel => exact hstep.out
           case measure => (first | omega | (simp [intOf] <;> omega) | (simp only [intOf] <;> omega)))
        | exact ⟨hstep.out, by (first | omega | (simp [intOf] <;> omega) | (simp only [intOf] <;> omega))⟩
        | (refine ⟨?_, by (first | omega | (simp [intOf] <;> omega) | (simp only [intOf] <;> omega))⟩
           (repeat apply Exists.intro)
           refine (fun a b => And.intro b a) ?_ ?_
           · first | rfl | ((repeat refine ⟨rfl, ?_⟩); rfl)
           exact hstep.out)
    · obtain rfl : m = k := by omega
      have e : putP l A m big v (rS m m big) = putL l A m big v := putP_congr fun j hj => by unfold rS; cases big <;> simp <;> omega
      rw [e] at hown
      by_cases hv : v < 256 ^ m
      · have hz : v / 256 ^ m = 0 := Nat.div_eq_of_lt hv
        rw [hz]
        have Hhv := Lib.hid hv
        clear hv
        have Hhz := Lib.hid hz
        clear hz
        go_wp2_with fail
        go_ret2
        exact .inl ⟨g, C, Hhv.out, rfl, hC, hown, hb⟩
      · have hz : 0 < v / 256 ^ m := Nat.div_pos (by omega) (Nat.pow_pos (by decide))
        have Hhv := Lib.hid hv
        clear hv
        generalize v / 256 ^ m = V at *
        go_wp2_with fail
        go_ret2
        exact .inr ⟨Hhv.out, rfl, hb⟩
end Go.Proofs.Ytnmeidmiijcniaa
