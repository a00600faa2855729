/- slices.Clone of bytes, octets.Put. No condition. -/
import Derived.Test.YtnmeidmiijcniaaByte
import Derived.Test.YtnmeidmiijcniaaOct
import Derived.Test.YtnmeidmiijcniaaNum
set_option linter.unusedVariables false
set_option linter.unusedSimpArgs false
namespace Go.Proofs.Ytnmeidmiijcniaa
open Go.RowKit
structure PutIn (W : World) (l : List UInt8) (A k : Nat) (big : Bool) (v g C n : Nat) (i : Value) (wr : World) : Prop where
  x : ∃ m : Nat, m ≤ k ∧ i = .int .i64 m ∧ Own 5 wr W.heap.size (.slice (some ⟨g, 0, none⟩) n C) (putP l A k big v fun j => decide (j < m)) ∧ Below W.heap.size W wr ∧ g < wr.heap.size
theorem putIn_step {W wr : World} {l : List UInt8} {A k : Nat} {big : Bool} {v g C n m : Nat} (hA : A + k ≤ l.length) (hm : m < k) (hg : W.heap.size ≤ g)
    (ho : Own 5 wr W.heap.size (.slice (some ⟨g, 0, none⟩) n C) (putP l A k big v fun j => decide (j < m))) (hb : Below W.heap.size W wr) (hgw : g < wr.heap.size) :
    PutIn W l A k big v g C n (.int .i64 ((m : Int) + 1)) (wr.setCell ⟨g, A + m, none⟩ (.int .u8 (byteAt k big v m).toNat)) := by
  have h := ho.store (A + m) (byteAt k big v m) (by rw [putP_length]; omega)
  rw [putP_set _ _ _ _ _ _ _ hm] at h
  have e : putP l A k big v (fun i => decide (i < m) || i == m) = putP l A k big v (fun i => decide (i < m + 1)) := putP_congr fun j _ => by
    by_cases h1 : j < m
    · simp [h1]; omega
    · by_cases h2 : j = m
      · simp [h2]
      · have : (j == m) = false := by rw [beq_eq_false_iff_ne]; exact h2
        simp [h1, this]; omega
  rw [e] at h
  exact ⟨m + 1, by omega, by go_num, h, hb.setCell hg _, by simpa [World.setCell] using hgw⟩
set_option maxHeartbeats 400000 in
theorem put_ok (ao : Option Addr) (n cap A k v : Nat) (l : List UInt8) (big : Bool) (w : World) (hl : l.length = n) (hn : n ≤ 140737488351232) (hc : ao = none → cap = 0) (hr : Rd w ao l) (hs : SizeOk k) (hp : A + k ≤ n) (hv : v < 256 ^ k) :
    Calls Try.prog 40 #[.slice ao n cap, .int .i64 A, .int .i64 k, .bool big, .int .u64 v] w fun e w' =>
      ∃ g C, e = .returned (.tuple #[.slice (some ⟨g, 0, none⟩) n C, .int .i64 0]) ∧ n ≤ C ∧ Own 5 w' w.heap.size (.slice (some ⟨g, 0, none⟩) n C) (putL l A k big v) ∧ Below w.heap.size w w' := by
  have hk8 : 1 ≤ k ∧ k ≤ 8 := by unfold SizeOk at hs; omega
  have Hpl := Lib.hid (place_ok ao n cap A k w hn hs ⟨by omega, by omega⟩)
  have Hcl := Lib.hid (clone_pos ao n cap l w hl (by omega) hc hr (by omega))
  have hz : k < 8 → ((v : Int) / 2 ^ (8 * k) == 0) = true := by
    intro _
    rw [shr_byte, Nat.div_eq_of_lt hv]; rfl
  have Hhl := Lib.hid hl
  clear hl
  have Hhv := Lib.hid hv
  clear hv
  clear hr hc
  by_cases h8 : k < 8
  · have hz1 := hz h8
    have hz2 : ((v : Int) / 2 ^ (8 * k) != 0) = false := by rw [bne, hz1]; rfl
    clear hz
    go_enter Try.func40, Try.ntmps40
    go_wp2_with (go_at_call 72; refine Hpl.out.mono ?_; rintro e w' ⟨rfl, rfl⟩)
    clear hz1 hz2
    refine Hcl.out.mono ?_
    rintro e w1 ⟨g, C, rfl, hC, hg, hg1, hown, hb⟩
    go_wp2_with fail
    go_loopw [34] (PutIn w l A k big v g C n) (fun i _ => k - (intOf i).toNat)
    case atStart => exact ⟨0, by omega, rfl, by rw [putP_none _ _ _ _ _ _ (by simp)]; exact hown, hb, hg1⟩
    case round =>
      clear hown hb hg1
      obtain ⟨m, hm, rfl, hown, hb, hg1⟩ := hrel
      by_cases hlt : m < k
      · obtain ⟨-, -, -, -, -, hcells, hfz⟩ := hown.at
        have hcell := hcells (A + m) (by omega)
        have hfr := hfz (A + m)
        clear hcells hfz
        cases big
        · have hsh : ∀ w, Calls Try.prog 73 #[.int .i64 m, .int .i64 k, .bool false] w fun e w' => e = .returned (.int .i64 (8 * (m : Int))) ∧ w = w' := fun w => shift_little m k w (by omega) (by omega) (by omega)
          have Hhsh := Lib.hid hsh
          clear hsh
          go_wp2_with (go_at_call 73; refine (Hhsh.out _).mono ?_; rintro e w' ⟨rfl, rfl⟩)
          rw [byteAt_little k]
          first
          | (go_roundw
             case rel => exact putIn_step (by have := Hhl.out; omega) hlt hg hown hb hg1
             case measure => (first | omega | (simp [intOf] <;> omega) | (simp only [intOf] <;> omega)))
          | exact ⟨putIn_step (by have := Hhl.out; omega) hlt hg hown hb hg1, by (first | omega | (simp [intOf] <;> omega) | (simp only [intOf] <;> omega))⟩
          | (refine ⟨?_, by (first | omega | (simp [intOf] <;> omega) | (simp only [intOf] <;> omega))⟩
             (repeat apply Exists.intro)
             refine (fun a b => And.intro b a) ?_ ?_
             · first | rfl | ((repeat refine ⟨rfl, ?_⟩); rfl)
             exact putIn_step (by have := Hhl.out; omega) hlt hg hown hb hg1)
        · have hsh : ∀ w, Calls Try.prog 73 #[.int .i64 m, .int .i64 k, .bool true] w fun e w' => e = .returned (.int .i64 (8 * ((k : Int) - 1 - m))) ∧ w = w' := fun w => shift_big m k w (by omega) (by omega) (by omega)
          have Hhsh := Lib.hid hsh
          clear hsh
          go_wp2_with (go_at_call 73; refine (Hhsh.out _).mono ?_; rintro e w' ⟨rfl, rfl⟩)
          rw [byteAt_big k]
          first
          | (go_roundw
             case rel => exact putIn_step (by have := Hhl.out; omega) hlt hg hown hb hg1
             case measure => (first | omega | (simp [intOf] <;> omega) | (simp only [intOf] <;> omega)))
          | exact ⟨putIn_step (by have := Hhl.out; omega) hlt hg hown hb hg1, by (first | omega | (simp [intOf] <;> omega) | (simp only [intOf] <;> omega))⟩
          | (refine ⟨?_, by (first | omega | (simp [intOf] <;> omega) | (simp only [intOf] <;> omega))⟩
             (repeat apply Exists.intro)
             refine (fun a b => And.intro b a) ?_ ?_
             · first | rfl | ((repeat refine ⟨rfl, ?_⟩); rfl)
             exact putIn_step (by have := Hhl.out; omega) hlt hg hown hb hg1)
      · go_wp2_with fail
        go_ret2
        have e : putP l A k big v (fun j => decide (j < m)) = putL l A k big v := putP_congr fun j hj => by simp; omega
        rw [e] at hown
        exact ⟨g, C, rfl, hC, hown, hb⟩
  · clear hz
    go_enter Try.func40, Try.ntmps40
    go_wp2_with (go_at_call 72; refine Hpl.out.mono ?_; rintro e w' ⟨rfl, rfl⟩)
    refine Hcl.out.mono ?_
    rintro e w1 ⟨g, C, rfl, hC, hg, hg1, hown, hb⟩
    go_wp2_with fail
    go_loopw [34] (PutIn w l A k big v g C n) (fun i _ => k - (intOf i).toNat)
    case atStart => exact ⟨0, by omega, rfl, by rw [putP_none _ _ _ _ _ _ (by simp)]; exact hown, hb, hg1⟩
    case round =>
      clear hown hb hg1
      obtain ⟨m, hm, rfl, hown, hb, hg1⟩ := hrel
      by_cases hlt : m < k
      · obtain ⟨-, -, -, -, -, hcells, hfz⟩ := hown.at
        have hcell := hcells (A + m) (by omega)
        have hfr := hfz (A + m)
        clear hcells hfz
        cases big
        · have hsh : ∀ w, Calls Try.prog 73 #[.int .i64 m, .int .i64 k, .bool false] w fun e w' => e = .returned (.int .i64 (8 * (m : Int))) ∧ w = w' := fun w => shift_little m k w (by omega) (by omega) (by omega)
          have Hhsh := Lib.hid hsh
          clear hsh
          go_wp2_with (go_at_call 73; refine (Hhsh.out _).mono ?_; rintro e w' ⟨rfl, rfl⟩)
          rw [byteAt_little k]
          first
          | (go_roundw
             case rel => exact putIn_step (by have := Hhl.out; omega) hlt hg hown hb hg1
             case measure => (first | omega | (simp [intOf] <;> omega) | (simp only [intOf] <;> omega)))
          | exact ⟨putIn_step (by have := Hhl.out; omega) hlt hg hown hb hg1, by (first | omega | (simp [intOf] <;> omega) | (simp only [intOf] <;> omega))⟩
          | (refine ⟨?_, by (first | omega | (simp [intOf] <;> omega) | (simp only [intOf] <;> omega))⟩
             (repeat apply Exists.intro)
             refine (fun a b => And.intro b a) ?_ ?_
             · first | rfl | ((repeat refine ⟨rfl, ?_⟩); rfl)
             exact putIn_step (by have := Hhl.out; omega) hlt hg hown hb hg1)
        · have hsh : ∀ w, Calls Try.prog 73 #[.int .i64 m, .int .i64 k, .bool true] w fun e w' => e = .returned (.int .i64 (8 * ((k : Int) - 1 - m))) ∧ w = w' := fun w => shift_big m k w (by omega) (by omega) (by omega)
          have Hhsh := Lib.hid hsh
          clear hsh
          go_wp2_with (go_at_call 73; refine (Hhsh.out _).mono ?_; rintro e w' ⟨rfl, rfl⟩)
          rw [byteAt_big k]
          first
          | (go_roundw
             case rel => exact putIn_step (by have := Hhl.out; omega) hlt hg hown hb hg1
             case measure => (first | omega | (simp [intOf] <;> omega) | (simp only [intOf] <;> omega)))
          | exact ⟨putIn_step (by have := Hhl.out; omega) hlt hg hown hb hg1, by (first | omega | (simp [intOf] <;> omega) | (simp only [intOf] <;> omega))⟩
          | (refine ⟨?_, by (first | omega | (simp [intOf] <;> omega) | (simp only [intOf] <;> omega))⟩
             (repeat apply Exists.intro)
             refine (fun a b => And.intro b a) ?_ ?_
             · first | rfl | ((repeat refine ⟨rfl, ?_⟩); rfl)
             exact putIn_step (by have := Hhl.out; omega) hlt hg hown hb hg1)
      · go_wp2_with fail
        go_ret2
        have e : putP l A k big v (fun j => decide (j < m)) = putL l A k big v := putP_congr fun j hj => by simp; omega
        rw [e] at hown
        exact ⟨g, C, rfl, hC, hown, hb⟩
theorem put_size (ao : Option Addr) (n cap : Nat) (A k v : Int) (big : Bool) (w : World) (hs : ¬ SizeOk k) :
    Calls Try.prog 40 #[.slice ao n cap, .int .i64 A, .int .i64 k, .bool big, .int .u64 v] w fun e w' => e = .returned (.tuple #[.slice none 0 0, .int .i64 1]) ∧ w = w' := by
  have Hpl := Lib.hid (place_size ao n cap A k w hs)
  clear hs
  go_enter Try.func40, Try.ntmps40
  go_wp2_with (go_at_call 72; refine Hpl.out.mono ?_; rintro e w' ⟨rfl, rfl⟩)
  go_ret2
  exact ⟨rfl, rfl⟩
theorem put_end (ao : Option Addr) (n cap : Nat) (A k v : Int) (big : Bool) (w : World) (hn : n ≤ 140737488351232) (hs : SizeOk k) (hp : ¬ PlaceOk n A k) :
    Calls Try.prog 40 #[.slice ao n cap, .int .i64 A, .int .i64 k, .bool big, .int .u64 v] w fun e w' => e = .returned (.tuple #[.slice none 0 0, .int .i64 11]) ∧ w = w' := by
  have Hpl := Lib.hid (place_end ao n cap A k w hn hs hp)
  clear hs hp
  go_enter Try.func40, Try.ntmps40
  go_wp2_with (go_at_call 72; refine Hpl.out.mono ?_; rintro e w' ⟨rfl, rfl⟩)
  go_ret2
  exact ⟨rfl, rfl⟩
theorem put_range (ao : Option Addr) (n cap A k v : Nat) (big : Bool) (w : World) (hn : n ≤ 140737488351232) (hs : SizeOk k) (hp : A + k ≤ n) (hv : ¬ v < 256 ^ k) (hv64 : v < 18446744073709551616) :
    Calls Try.prog 40 #[.slice ao n cap, .int .i64 A, .int .i64 k, .bool big, .int .u64 v] w fun e w' => e = .returned (.tuple #[.slice none 0 0, .int .i64 12]) ∧ w = w' := by
  have Hpl := Lib.hid (place_ok ao n cap A k w hn hs ⟨by omega, by omega⟩)
  have hk8 : 1 ≤ k ∧ k ≤ 8 := by unfold SizeOk at hs; omega
  have hlt : k < 8 := by
    by_cases h : k < 8
    · exact h
    · exfalso
      obtain rfl : k = 8 := by omega
      exact hv hv64
  have hz2 : ((v : Int) / 2 ^ (8 * k) != 0) = true := by
    rw [shr_byte, bne_iff_ne]
    have : 0 < v / 256 ^ k := Nat.div_pos (by omega) (Nat.pow_pos (by decide))
    omega
  clear hs hv
  go_enter Try.func40, Try.ntmps40
  go_wp2_with (go_at_call 72; refine Hpl.out.mono ?_; rintro e w' ⟨rfl, rfl⟩)
  go_ret2
  exact ⟨rfl, rfl⟩
end Go.Proofs.Ytnmeidmiijcniaa
