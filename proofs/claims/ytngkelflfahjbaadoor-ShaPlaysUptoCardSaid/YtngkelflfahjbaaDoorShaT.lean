/- SHA-2's small functions: a word read, a number laid down. No condition. -/
import Derived.Test.YtngkelflfahjbaaDoorShaS
set_option linter.unusedVariables false
set_option linter.unusedSimpArgs false
namespace Go.Proofs.YtngkelflfahjbaaDoor
open Go.RowKit
structure WoIn (n : Nat) (l : List UInt8) (w : World) (x i : Value) (wr : World) : Prop where
  x : ∃ k : Nat, k ≤ n ∧ i = .int .i64 (k : Nat) ∧ x = .int .u64 ((beN (l.take k) : Nat) : Int) ∧ w = wr
set_option maxHeartbeats 400000 in
theorem word_any (ao : Option Addr) (n cap : Nat) (l : List UInt8) (w : World) (hl : l.length = n) (hn : n ≤ 8) (hr : Rd w ao l) :
    Calls Tryd.prog 40 #[.slice ao n cap] w fun e w' => e = .returned (.int .u64 (beN l : Nat)) ∧ w = w' := by
  have Hl := Lib.hid hl
  have Hr := Lib.hid hr
  clear hl hr
  go_enter Tryd.func40, Tryd.ntmps40
  go_wp2_with fail
  go_loopw [3, 5, 8] (fun x _ i wr => WoIn n l w x i wr) (fun _ _ i _ => n - (intOf i).toNat)
  case atStart => exact ⟨0, by omega, rfl, rfl, rfl⟩
  case round =>
    obtain ⟨k, hk, rfl, rfl, rfl⟩ := hrel
    by_cases hlt : k < n
    · obtain ⟨bb, o, rfl, hc⟩ := Hr.out k (by have := Hl.out; omega)
      have hst : Hid (beN (l.take (k + 1)) = beN (l.take k) * 256 + (l[k]?.getD 0).toNat) := Lib.hid (by rw [take_snoc8 l k (by have := Hl.out; omega), beN_snoc])
      have hV := beN_lt (l.take k)
      have hlk : (l.take k).length = k := by rw [List.length_take]; have := Hl.out; omega
      rw [hlk] at hV
      have hp : (256 : Nat) ^ k ≤ 256 ^ 7 := Nat.pow_le_pow_right (by decide) (by omega)
      generalize beN (l.take k) = V at *
      generalize l[k]?.getD 0 = c at *
      have hcl := c.toNat_lt
      obtain ⟨P, hP⟩ : ∃ P, V * 256 = P := ⟨_, rfl⟩
      have f1 : (V : Int) * 256 % 18446744073709551616 = (P : Int) := by omega
      have f2 : IntKind.u64.wrap ((V : Int) * 256) = (P : Int) := by rw [← hP]; rw [IntWalk.u64_in _ (by omega)]; rfl
      have f3 : IntKind.u64.wrap (c.toNat : Int) = (c.toNat : Int) := IntWalk.u64_in _ (by omega)
      have f4 : bits .or .u64 (P : Int) (c.toNat : Int) = ((V * 256 + c.toNat : Nat) : Int) := by
        have := or_add_lo V c.toNat 8 hcl (by omega)
        rw [← hP]; exact this
      rw [← hst.out] at f4
      have f0 : (0 : Int) ≤ (k : Int) := by omega
      have f9 : (k : Int) < (n : Int) := by omega
      have Hst := hst
      clear hst hV hlk hp hP hcl
      obtain ⟨V2, hV2⟩ : ∃ V2, beN (l.take (k + 1)) = V2 := ⟨_, rfl⟩
      rw [hV2] at f4
      have HV2 := Lib.hid hV2
      clear hV2 Hst
      go_wp2_with fail
      first
      | (go_roundw
         case rel => exact ⟨k + 1, by omega, by go_num, by rw [HV2.out], rfl⟩
         case measure => (first | omega | (simp [intOf] <;> omega) | (simp only [intOf] <;> omega)))
      | exact ⟨⟨k + 1, by omega, by go_num, by rw [HV2.out], rfl⟩, by (first | omega | (simp [intOf] <;> omega) | (simp only [intOf] <;> omega))⟩
      | (refine ⟨?_, by (first | omega | (simp [intOf] <;> omega) | (simp only [intOf] <;> omega))⟩
         (repeat apply Exists.intro)
         refine (fun a b => And.intro b a) ?_ ?_
         · first | rfl | ((repeat refine ⟨rfl, ?_⟩); rfl)
         exact ⟨k + 1, by omega, by go_num, by rw [HV2.out], rfl⟩)
    · obtain rfl : k = n := by omega
      rw [List.take_of_length_le (by rw [Hl.out]; exact Nat.le_refl _)]
      go_wp2_with fail
      go_ret
      exact ⟨rfl, rfl⟩
/-- the first j digits, from the top -/
def topL (size x j : Nat) : List UInt8 := (List.range j).map (byteAt size true x)
theorem topL_snoc (size x j : Nat) : topL size x (j + 1) = topL size x j ++ [byteAt size true x j] := by
  unfold topL; rw [List.range_succ, List.map_append]; rfl
theorem topL_len (size x j : Nat) : (topL size x j).length = j := by simp [topL]
structure PuIn (B : Nat) (v : Value) (l : List UInt8) (size x : Nat) (w : World) (b i : Value) (wr : World) : Prop where
  x : ∃ (j : Nat) (u : Value), j ≤ size ∧ i = .int .i64 ((size : Int) - 1 - (j : Int)) ∧ u = b ∧ Own 5 wr B u (l ++ topL size x j) ∧ Gr w wr v u ∧ B ≤ wr.heap.size
set_option maxHeartbeats 400000 in
theorem sput_any (B : Nat) (v : Value) (l : List UInt8) (size x : Nat) (w : World) (ho : Own 5 w B v l) (hk : size ≤ 8) (hB : B ≤ w.heap.size) (hl : l.length ≤ 140737488355000) :
    Calls Tryd.prog 37 #[v, .int .u64 (x : Nat), .int .i64 (size : Nat)] w fun e w' => ∃ v', e = .returned v' ∧ Own 5 w' B v' (l ++ encL size true x) ∧ Gr w w' v v' ∧ B ≤ w'.heap.size := by
  have Ho := Lib.hid ho
  have HB := Lib.hid hB
  have Hll := Lib.hid hl
  have q0 : IntKind.i64.wrap ((size : Int) - 1) = (size : Int) - 1 := IntWalk.i64_in _ (by omega)
  clear ho hB hl
  go_enter Tryd.func37, Tryd.ntmps37
  go_wp2_with fail
  go_loopw [0, 7] (fun b i wr => PuIn B v l size x w b i wr) (fun _ i _ => (intOf i + 1).toNat)
  case atStart => exact ⟨0, v, by omega, by simp, rfl, by simpa [topL] using Ho.out, Gr.refl _ _, HB.out⟩
  case round =>
    clear q0
    obtain ⟨j, u, hj, rfl, rfl, hown, hgr, hs⟩ := hrel
    have HO := Lib.hid hown
    have HG := Lib.hid hgr
    have Hs := Lib.hid hs
    clear hown hgr hs
    by_cases hlt : j < size
    · obtain ⟨m, hm⟩ : ∃ m : Nat, (size : Int) - 1 - (j : Int) = (m : Int) := ⟨size - 1 - j, by omega⟩
      have Hm := Lib.hid hm
      have hby := byteAt_big size x j
      rw [show size - 1 - j = m by omega] at hby
      have Hsn := Lib.hid (topL_snoc size x j)
      generalize byteAt size true x j = c at *
      rw [hm]
      have hby2 : (x : Int) / (2 ^ (8 * m) : Int) % 256 = (c.toNat : Int) := by
        have e : ((8 * m : Nat)) = 8 * m := rfl
        exact hby
      have q1 : IntKind.i64.wrap (8 * (m : Int)) = 8 * (m : Int) := IntWalk.i64_in _ (by omega)
      have q2 : IntKind.i64.wrap ((m : Int) - 1) = (size : Int) - 1 - ((j : Int) + 1) := by rw [IntWalk.i64_in _ (by omega)]; omega
      have q3 : (0 : Int) ≤ (m : Int) := by omega
      have q4 : min (8 * m) 64 = 8 * m := Nat.min_eq_left (by omega)
      have Hnew := Lib.hid (HO.out.alloc (.cells #[.int .u8 c.toNat] 5))
      clear hm hby
      go_wp2_with (at_builtin; refine wpList_append_at byteRow02 rfl _ _ rfl B u (l ++ topL size x j) rfl Hnew.out ⟨wr.heap.size, 0, none⟩ 1 1 [c] rfl rfl (Rd.new wr [c] _ _) ?c1 ?c2 (l.length + j + 1) ?c3 (by omega) ?_)
      case c1 => rw [List.length_append, topL_len]; have := Hll.out; omega
      case c2 => exact Nat.le_trans Hs.out (by simp)
      case c3 => rw [List.length_append, topL_len]
      intro g C w2 ho2 hg2 hk2
      have HO2 : Hid (Own 5 w2 B (.slice (some ⟨g, 0, none⟩) (l.length + j + 1) C) (l ++ topL size x (j + 1))) := Lib.hid (by rw [Hsn.out]; exact ho2)
      have HG2 := Lib.hid (HG.out.trans (v2 := .slice (some ⟨g, 0, none⟩) (l.length + j + 1) C) (w2 := w2) ⟨(grown_alloc wr (.cells #[.int .u8 c.toNat] 5) u.ownBlock).trans hg2, fun q hq => by
        cases hq
        rcases hk2 with h | h
        · exact Or.inl h.symm
        · right; rw [h]; simp⟩)
      have Hs2 : Hid (B ≤ w2.heap.size) := Lib.hid (Nat.le_trans Hs.out (Nat.le_trans (by simp) hg2.size))
      clear ho2 hg2 hk2 q1 q4 hby2
      go_wp2_with fail
      have hm := Hm.out
      first
      | (go_roundw
         case rel => exact ⟨j + 1, _, by omega, by push_cast; rfl, rfl, HO2.out, HG2.out, Hs2.out⟩
         case measure => (first | omega | (simp [intOf] <;> omega) | (simp only [intOf] <;> omega)))
      | exact ⟨⟨j + 1, _, by omega, by push_cast; rfl, rfl, HO2.out, HG2.out, Hs2.out⟩, by (first | omega | (simp [intOf] <;> omega) | (simp only [intOf] <;> omega))⟩
      | (refine ⟨?_, by (first | omega | (simp [intOf] <;> omega) | (simp only [intOf] <;> omega))⟩
         (repeat apply Exists.intro)
         refine (fun a b => And.intro b a) ?_ ?_
         · first | rfl | ((repeat refine ⟨rfl, ?_⟩); rfl)
         exact ⟨j + 1, _, by omega, by push_cast; rfl, rfl, HO2.out, HG2.out, Hs2.out⟩)
    · obtain rfl : j = size := by omega
      have q5 : ¬ (0 : Int) ≤ (j : Int) - 1 - (j : Int) := by omega
      have q6 : (j : Int) - 1 - (j : Int) = -1 := by omega
      rw [q6]
      go_wp2_with fail
      go_ret
      exact ⟨_, rfl, HO.out, HG.out, Hs.out⟩
end Go.Proofs.YtngkelflfahjbaaDoor
