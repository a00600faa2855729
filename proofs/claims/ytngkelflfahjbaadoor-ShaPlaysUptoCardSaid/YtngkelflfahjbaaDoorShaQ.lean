/- The document's SHA-2: numbers out of digits, Kind, First. No condition. -/
import Derived.Test.YtngkelflfahjbaaDoorShaP
set_option linter.unusedVariables false
set_option linter.unusedSimpArgs false
namespace Go.Proofs.YtngkelflfahjbaaDoor
open Go.RowKit
/-- a byte of a text -/
theorem index_text (w : World) (t : List UInt8) (j : Nat) (h1 : j < t.length) :
    (Instr.index 9 (.string ⟨t.toArray⟩) (.int .i64 (j : Int))).run Tryd.prog w = .ok (.int .u8 ((t[j]?.getD 0).toNat : Int)) w := by
  have hu : Tryd.prog.underlying 9 = some .string := Tryd.underlying9
  have hg : ((⟨t.toArray⟩ : ByteArray)[j]?) = some (t[j]?.getD 0) := by
    have hs : j < (⟨t.toArray⟩ : ByteArray).size := by simpa [ByteArray.size] using h1
    rw [getElem?_pos (⟨t.toArray⟩ : ByteArray) j hs]
    simp [h1, ByteArray.getElem_eq_getElem_data]
  simp only [Instr.index, Sem.run_bind, asIntOf, Sem.run_pure, Result.andThen, run_underlying hu]
  simp [hg, Sem.run_pure]
/-- the worth of a digit -/
def hx (c : UInt8) : Nat := if 97 ≤ c.toNat then c.toNat - 97 + 10 else c.toNat - 48
def okH (c : UInt8) : Bool := decide (48 ≤ c.toNat) && decide (hx c < 16)
def numL (l : List UInt8) : Nat := l.foldl (fun x c => x * 16 + hx c) 0
theorem numL_snoc (l : List UInt8) (c : UInt8) : numL (l ++ [c]) = numL l * 16 + hx c := by simp [numL]
theorem numL_go : ∀ (l : List UInt8) (x : Nat), (∀ c ∈ l, okH c = true) → l.foldl (fun x c => x * 16 + hx c) x < (x + 1) * 16 ^ l.length
  | [], x, _ => by simp
  | c :: l, x, h => by
    have h2 := h c (List.mem_cons_self ..)
    unfold okH at h2
    simp only [Bool.and_eq_true, decide_eq_true_eq] at h2
    have h1 := numL_go l (x * 16 + hx c) (fun y hy => h y (List.mem_cons_of_mem _ hy))
    rw [List.foldl_cons, List.length_cons, Nat.pow_succ]
    have h3 : (x * 16 + hx c + 1) * 16 ^ l.length ≤ ((x + 1) * 16) * 16 ^ l.length := Nat.mul_le_mul_right _ (by omega)
    rw [Nat.mul_comm (16 ^ l.length) 16, ← Nat.mul_assoc]
    omega
theorem numL_lt (l : List UInt8) (h : ∀ c ∈ l, okH c = true) : numL l < 16 ^ l.length := by
  have := numL_go l 0 h
  unfold numL
  omega
def okNum (t : List UInt8) (i c : Nat) : Bool := decide (16 * i + 16 ≤ t.length) && (((t.drop (16 * i)).take 16).all okH && decide (numL ((t.drop (16 * i)).take 16) = c))
structure NuIn (t : List UInt8) (s : Nat) (w : World) (x k : Value) (wr : World) : Prop where
  x : ∃ n : Nat, n ≤ 16 ∧ k = .int .i64 ((s + n : Nat) : Int) ∧ x = .int .u64 ((numL (((t.drop s).take 16).take n) : Nat) : Int) ∧ w = wr
set_option maxHeartbeats 400000 in
theorem number_any (t : List UInt8) (cs : List Nat) (M i : Nat) (w : World) (hi : i < M) (hM : M ≤ 100) (h : ∀ j, j < M → okNum t j (cs[j]?.getD 0) = true) :
    Calls Tryd.prog 50 #[.string ⟨t.toArray⟩, .int .i64 (i : Nat)] w fun e w' => e = .returned (.int .u64 ((cs[i]?.getD 0 : Nat) : Int)) ∧ w = w' := by
  have h0 := h i hi
  unfold okNum at h0
  simp only [Bool.and_eq_true, decide_eq_true_eq] at h0
  obtain ⟨hlen, hall, hnum⟩ := h0
  obtain ⟨s, hs⟩ : ∃ s, 16 * i = s := ⟨_, rfl⟩
  rw [hs] at hlen hall hnum
  have Hall : Hid (∀ c ∈ (t.drop s).take 16, okH c = true) := Lib.hid (fun c hc => List.all_eq_true.1 hall c hc)
  have Hnum := Lib.hid hnum
  have Hlen := Lib.hid hlen
  have q1 : IntKind.i64.wrap (16 * (i : Int)) = (s : Int) := by rw [IntWalk.i64_in _ (by omega)]; omega
  have q2 : IntKind.i64.wrap ((s : Int) + 16) = ((s + 16 : Nat) : Int) := by rw [IntWalk.i64_in _ (by omega)]; omega
  have Hs : Hid (s < 1600) := Lib.hid (by omega)
  obtain ⟨E, hE⟩ : ∃ E, s + 16 = E := ⟨_, rfl⟩
  rw [hE] at q2
  have HE := Lib.hid hE
  clear h hall hnum hlen hs hi hM hE
  go_enter Tryd.func50, Tryd.ntmps50
  go_wp2_with fail
  go_loopw [5, 6, 7] (fun x k _ wr => NuIn t s w x k wr) (fun _ k _ _ => E - (intOf k).toNat)
  case atStart => exact ⟨0, by omega, rfl, rfl, rfl⟩
  case round =>
    obtain ⟨n, hn, rfl, rfl, rfl⟩ := hrel
    have hE := HE.out
    by_cases hlt : n < 16
    · have hl : ((t.drop s).take 16).length = 16 := by rw [List.length_take, List.length_drop]; have := Hlen.out; omega
      have hsn : numL (((t.drop s).take 16).take (n + 1)) = numL (((t.drop s).take 16).take n) * 16 + hx (t[s + n]?.getD 0) := by
        rw [take_snoc8 _ n (by omega), numL_snoc, List.getElem?_take_of_lt hlt, List.getElem?_drop]
      have hok : okH (t[s + n]?.getD 0) = true := by
        refine Hall.out _ ?_
        have : ((t.drop s).take 16)[n]? = some (t[s + n]?.getD 0) := by
          rw [List.getElem?_take_of_lt hlt, List.getElem?_drop, List.getElem?_eq_getElem (by have := Hlen.out; omega)]; rfl
        exact List.mem_of_getElem? this
      have hb := numL_lt (((t.drop s).take 16).take n) (fun c hc => Hall.out c (List.mem_of_mem_take hc))
      have hl2 : (((t.drop s).take 16).take n).length = n := by rw [List.length_take, hl]; omega
      rw [hl2] at hb
      have hp : (16 : Nat) ^ n ≤ 16 ^ 15 := Nat.pow_le_pow_right (by decide) (by omega)
      have hix := fun w => index_text w t (s + n) (by have := Hlen.out; omega)
      generalize numL (((t.drop s).take 16).take n) = V at *
      generalize t[s + n]?.getD 0 = c at *
      unfold okH at hok
      simp only [Bool.and_eq_true, decide_eq_true_eq] at hok
      obtain ⟨hc1, hc2⟩ := hok
      obtain ⟨d, hd⟩ : ∃ d, hx c = d := ⟨_, rfl⟩
      rw [hd] at hc2 hsn
      have f1 : IntKind.u64.wrap (c.toNat : Int) = (c.toNat : Int) := IntWalk.u64_in _ (by have := c.toNat_lt; omega)
      obtain ⟨V2, hV2⟩ : ∃ V2, V * 16 = V2 := ⟨_, rfl⟩
      obtain ⟨V3, hV3⟩ : ∃ V3, V2 + d = V3 := ⟨_, rfl⟩
      have f2 : IntKind.u64.wrap ((V : Int) * 16) = (V2 : Int) := by rw [IntWalk.u64_in _ (by omega)]; omega
      have f3 : IntKind.u64.wrap ((V2 : Int) + (d : Int)) = (V3 : Int) := by rw [IntWalk.u64_in _ (by omega)]; omega
      rw [hV2, hV3] at hsn
      have q3 : ((s + n : Nat) : Int) < ((E : Nat) : Int) := by omega
      have q4 : IntKind.i64.wrap (((s + n : Nat) : Int) + 1) = ((s + (n + 1) : Nat) : Int) := by rw [IntWalk.i64_in _ (by have := Hs.out; omega)]; omega
      have Hn : Hid (E - (s + n) = 16 - n) := Lib.hid (by omega)
      by_cases h97 : 97 ≤ c.toNat
      · have f4 : (97 : Int) ≤ (c.toNat : Int) := by omega
        obtain ⟨c1, hc1'⟩ : ∃ c1, c.toNat - 97 = c1 := ⟨_, rfl⟩
        have hd2 : c1 + 10 = d := by rw [← hd]; unfold hx; rw [if_pos h97]; omega
        have f5 : IntKind.u64.wrap ((c.toNat : Int) - 97) = (c1 : Int) := by rw [IntWalk.u64_in _ (by omega)]; omega
        have f6 : IntKind.u64.wrap ((c1 : Int) + 10) = (d : Int) := by rw [IntWalk.u64_in _ (by omega)]; omega
        generalize hsn' : s + n = sn at *
        have Hsn := Lib.hid hsn
        have HsN := Lib.hid hsn'
        clear hsn hc1 hc2 hd hV2 hV3 hb hp hl hl2 hc1' hd2 h97 hE hsn'
        go_wp2_with fail
        have hE := HE.out
        have hsn' := HsN.out
        first
        | (go_roundw
           case rel => exact ⟨n + 1, by omega, by first | rfl | go_num, by rw [Hsn.out], rfl⟩
           case measure => (first | omega | (simp [intOf] <;> omega) | (simp only [intOf] <;> omega)))
        | exact ⟨⟨n + 1, by omega, by first | rfl | go_num, by rw [Hsn.out], rfl⟩, by (first | omega | (simp [intOf] <;> omega) | (simp only [intOf] <;> omega))⟩
        | (refine ⟨?_, by (first | omega | (simp [intOf] <;> omega) | (simp only [intOf] <;> omega))⟩
           (repeat apply Exists.intro)
           refine (fun a b => And.intro b a) ?_ ?_
           · first | rfl | ((repeat refine ⟨rfl, ?_⟩); rfl)
           exact ⟨n + 1, by omega, by first | rfl | go_num, by rw [Hsn.out], rfl⟩)
      · have f4 : ¬ (97 : Int) ≤ (c.toNat : Int) := by omega
        have hd2 : c.toNat - 48 = d := by rw [← hd]; unfold hx; rw [if_neg h97]
        have f5 : IntKind.u64.wrap ((c.toNat : Int) - 48) = (d : Int) := by rw [IntWalk.u64_in _ (by omega)]; omega
        generalize hsn' : s + n = sn at *
        have Hsn := Lib.hid hsn
        have HsN := Lib.hid hsn'
        clear hsn hc1 hc2 hd hV2 hV3 hb hp hl hl2 hd2 h97 hE hsn'
        go_wp2_with fail
        have hE := HE.out
        have hsn' := HsN.out
        first
        | (go_roundw
           case rel => exact ⟨n + 1, by omega, by first | rfl | go_num, by rw [Hsn.out], rfl⟩
           case measure => (first | omega | (simp [intOf] <;> omega) | (simp only [intOf] <;> omega)))
        | exact ⟨⟨n + 1, by omega, by first | rfl | go_num, by rw [Hsn.out], rfl⟩, by (first | omega | (simp [intOf] <;> omega) | (simp only [intOf] <;> omega))⟩
        | (refine ⟨?_, by (first | omega | (simp [intOf] <;> omega) | (simp only [intOf] <;> omega))⟩
           (repeat apply Exists.intro)
           refine (fun a b => And.intro b a) ?_ ?_
           · first | rfl | ((repeat refine ⟨rfl, ?_⟩); rfl)
           exact ⟨n + 1, by omega, by first | rfl | go_num, by rw [Hsn.out], rfl⟩)
    · obtain rfl : n = 16 := by omega
      rw [List.take_of_length_le (show ((t.drop s).take 16).length ≤ 16 by rw [List.length_take]; exact Nat.min_le_left _ _), Hnum.out]
      have q3 : ¬ (((s + 16 : Nat) : Int) < ((E : Nat) : Int)) := by omega
      generalize s + 16 = sn at *
      clear hE
      go_wp2_with fail
      go_ret
      exact ⟨rfl, rfl⟩
end Go.Proofs.YtngkelflfahjbaaDoor
