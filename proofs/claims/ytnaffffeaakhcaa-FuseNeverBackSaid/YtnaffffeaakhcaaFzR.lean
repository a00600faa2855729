/- The document's fuses. No condition. -/
import Derived.Test.YtnaffffeaakhcaaFzN
set_option linter.unusedVariables false
set_option linter.unusedSimpArgs false
namespace Go.Proofs.Ytnaffffeaakhcaa
open Go.RowKit
theorem bits64_length (n : Nat) : (bits64 n).length = 64 := by simp [bits64]
theorem cellsR_b {f : Fz} (ho : f.Ok) {k : Nat} (hk : k < 64) : f.cellsR[k]? = some (.int .u8 (f.b[k]?.getD 0).toNat) := by
  unfold Fz.cellsR
  rw [List.getElem?_append_left (by simp [ho.hb]; exact hk), List.getElem?_map, List.getElem?_eq_getElem (by rw [ho.hb]; exact hk)]
  rfl
theorem cellsR_n {f : Fz} (ho : f.Ok) {k : Nat} (hk : k < 64) : f.cellsR[64 + k]? = some (.bool (f.n.testBit k)) := by
  unfold Fz.cellsR
  rw [List.getElem?_append_right (by simp [ho.hb])]
  simp only [List.length_map, ho.hb]
  rw [show 64 + k - 64 = k by omega, List.getElem?_append_left (by rw [bits64_length]; exact hk)]
  simp [bits64, hk]
theorem cellsR_c {f : Fz} (ho : f.Ok) {k : Nat} (hk : k < 4) : f.cellsR[128 + k]? = some (.int .u32 (f.c[k]?.getD 0 : Nat)) := by
  unfold Fz.cellsR
  rw [List.getElem?_append_right (by simp [ho.hb]; omega)]
  simp only [List.length_map, ho.hb]
  rw [List.getElem?_append_right (by rw [bits64_length]; omega), bits64_length, show 128 + k - 64 - 64 = k by omega, List.getElem?_map, List.getElem?_eq_getElem (by rw [ho.hc]; exact hk)]
  rfl
theorem bits64_set (n k : Nat) (hk : k < 64) : (bits64 n).set k (.bool true) = bits64 (n ||| 1 <<< k) := by
  apply List.ext_getElem?
  intro i
  rw [List.getElem?_set, bits64_length]
  by_cases hi : i < 64
  · by_cases e : k = i
    · subst e
      simp [bits64, hk, Nat.testBit_or, Nat.one_shiftLeft]
    · rw [if_neg e]
      simp [bits64, hi, Nat.testBit_or, Nat.one_shiftLeft, Nat.testBit_two_pow, e]
  · have h1 : (bits64 n)[i]? = none := List.getElem?_eq_none (by rw [bits64_length]; omega)
    have h2 : (bits64 (n ||| 1 <<< k))[i]? = none := List.getElem?_eq_none (by rw [bits64_length]; omega)
    have e : ¬ k = i := by omega
    rw [if_neg e, h1, h2]
theorem cellsR_set {f : Fz} (ho : f.Ok) {k : Nat} (hk : k < 64) (v : UInt8) : (f.cellsR.set k (.int .u8 v.toNat)).set (64 + k) (.bool true) = (f.burn k v).cellsR := by
  unfold Fz.cellsR Fz.burn
  rw [List.set_append_left _ _ (by simp [ho.hb]; exact hk), List.set_append_right _ _ (by simp [ho.hb])]
  simp only [List.length_set, List.length_map, ho.hb]
  rw [show 64 + k - 64 = k by omega, List.set_append_left _ _ (by rw [bits64_length]; exact hk), bits64_set _ _ hk, List.map_set]
  rfl
theorem cellsR_setc {f : Fz} (ho : f.Ok) {k : Nat} (hk : k < 4) (x : Nat) : f.cellsR.set (128 + k) (.int .u32 x) = (⟨f.b, f.n, f.c.set k x⟩ : Fz).cellsR := by
  unfold Fz.cellsR
  rw [List.set_append_right _ _ (by simp [ho.hb]; omega)]
  simp only [List.length_map, ho.hb]
  rw [List.set_append_right _ _ (by rw [bits64_length]; omega), bits64_length, show 128 + k - 64 - 64 = k by omega, List.map_set]
  rfl
theorem rburn_any (p : Nat) (f : Fz) (i : Int) (v : UInt8) (w : World) (h : HB w p 31 f.cellsR) (ho : f.Ok) :
    Calls Try.prog 19 #[.pointer (some ⟨p, 0, none⟩), .int .i64 i, .int .u8 v.toNat] w fun e w' => e = .returned (.int .i64 (burnR f i v).2) ∧ HB w' p 31 (burnR f i v).1.cellsR ∧ w.grownBy w' (some p) := by
  unfold burnR
  by_cases hi : i < 0 ∨ 64 ≤ i
  · simp only [if_pos hi]
    by_cases h1 : i < 0
    · clear hi
      go_enter Try.func19, Try.ntmps19
      go_wp2_with fail
      go_ret
      exact ⟨rfl, (by first | exact h | trivial), World.grownBy.refl _ _⟩
    · have h2 : 64 ≤ i := by omega
      clear hi
      go_enter Try.func19, Try.ntmps19
      go_wp2_with fail
      go_ret
      exact ⟨rfl, (by first | exact h | trivial), World.grownBy.refl _ _⟩
  · simp only [if_neg hi]
    obtain ⟨k, rfl⟩ : ∃ k : Nat, i = k := ⟨i.toNat, by omega⟩
    have hk : k < 64 := by omega
    have e0 : (0 : Int) ≤ (k : Int) := by omega
    have e1 : (k : Int) < 64 := by omega
    have c1 := h.cell (cellsR_b ho hk)
    have c2 := h.cell (cellsR_n ho hk)
    have f1 := h.frozen k
    clear hi
    simp only [Int.toNat_natCast]
    cases hb : f.n.testBit k
    · rw [hb] at c2
      have h1 := h.set k (.int .u8 v.toNat)
      have hg1 := grown_set w ⟨p, k, none⟩ (.int .u8 v.toNat)
      have c3 := h1.cell (show (f.cellsR.set k (Value.int .u8 v.toNat))[64 + k]? = some (.bool false) by rw [List.getElem?_set_ne (by omega), cellsR_n ho hk, hb])
      have f2 := h1.frozen (64 + k)
      have h2 := h1.set (64 + k) (.bool true)
      rw [cellsR_set ho hk] at h2
      have hg2 := grown_set (w.setCell ⟨p, k, none⟩ (.int .u8 v.toNat)) ⟨p, 64 + k, none⟩ (.bool true)
      have H2 := Lib.hid h2
      have HG := Lib.hid (hg1.trans hg2)
      clear h2 hg1 hg2 h1 hb
      go_enter Try.func19, Try.ntmps19
      go_wp2_with fail
      go_ret
      exact ⟨rfl, H2.out, HG.out⟩
    · rw [hb] at c2
      clear c1 f1 hb
      go_enter Try.func19, Try.ntmps19
      go_wp2_with fail
      go_ret
      exact ⟨rfl, (by first | exact h | trivial), World.grownBy.refl _ _⟩
theorem rread_any (p : Nat) (f : Fz) (i : Int) (w : World) (h : HB w p 31 f.cellsR) (ho : f.Ok) :
    Calls Try.prog 20 #[.pointer (some ⟨p, 0, none⟩), .int .i64 i] w fun e w' => e = .returned (.tuple #[bv (readR f i).1, .bool (readR f i).2.1, .int .i64 (readR f i).2.2]) ∧ Drn w w' := by
  unfold readR
  by_cases hi : i < 0 ∨ 64 ≤ i
  · simp only [if_pos hi]
    by_cases h1 : i < 0
    · clear hi
      go_enter Try.func20, Try.ntmps20
      go_wp2_with fail
      go_ret3
      exact ⟨rfl, Drn.refl _⟩
    · have h2 : 64 ≤ i := by omega
      clear hi
      go_enter Try.func20, Try.ntmps20
      go_wp2_with fail
      go_ret3
      exact ⟨rfl, Drn.refl _⟩
  · simp only [if_neg hi]
    obtain ⟨k, rfl⟩ : ∃ k : Nat, i = k := ⟨i.toNat, by omega⟩
    have hk : k < 64 := by omega
    have e0 : (0 : Int) ≤ (k : Int) := by omega
    have e1 : (k : Int) < 64 := by omega
    have c1 := h.cell (cellsR_b ho hk)
    have c2 := h.cell (cellsR_n ho hk)
    clear hi h
    go_enter Try.func20, Try.ntmps20
    go_wp2_with fail
    go_quiet (fail)
    go_wp2_with fail
    go_ret3
    exact ⟨rfl, ⟨_, rfl⟩⟩
theorem rcounter_any (p : Nat) (f : Fz) (i : Int) (w : World) (h : HB w p 31 f.cellsR) (ho : f.Ok) :
    Calls Try.prog 21 #[.pointer (some ⟨p, 0, none⟩), .int .i64 i] w fun e w' => e = .returned (.tuple #[cv (counterR f i).1, .int .i64 (counterR f i).2]) ∧ w = w' := by
  unfold counterR
  by_cases hi : i < 0 ∨ 4 ≤ i
  · simp only [if_pos hi]
    by_cases h1 : i < 0
    · clear hi
      go_enter Try.func21, Try.ntmps21
      go_wp2_with fail
      go_ret2
      exact ⟨rfl, rfl⟩
    · have h2 : 4 ≤ i := by omega
      clear hi
      go_enter Try.func21, Try.ntmps21
      go_wp2_with fail
      go_ret2
      exact ⟨rfl, rfl⟩
  · simp only [if_neg hi]
    obtain ⟨k, rfl⟩ : ∃ k : Nat, i = k := ⟨i.toNat, by omega⟩
    have hk : k < 4 := by omega
    have e0 : (0 : Int) ≤ (k : Int) := by omega
    have e1 : (k : Int) < 4 := by omega
    have c1 := h.cell (cellsR_c ho hk)
    clear hi
    go_enter Try.func21, Try.ntmps21
    go_wp2_with fail
    go_ret2
    exact ⟨rfl, rfl⟩
theorem rraise_any (p : Nat) (f : Fz) (i : Int) (x : Nat) (w : World) (h : HB w p 31 f.cellsR) (ho : f.Ok) :
    Calls Try.prog 22 #[.pointer (some ⟨p, 0, none⟩), .int .i64 i, .int .u32 x] w fun e w' => e = .returned (.int .i64 (raiseR f i x).2) ∧ HB w' p 31 (raiseR f i x).1.cellsR ∧ w.grownBy w' (some p) := by
  unfold raiseR
  by_cases hi : i < 0 ∨ 4 ≤ i
  · simp only [if_pos hi]
    by_cases h1 : i < 0
    · clear hi
      go_enter Try.func22, Try.ntmps22
      go_wp2_with fail
      go_ret
      exact ⟨rfl, (by first | exact h | trivial), World.grownBy.refl _ _⟩
    · have h2 : 4 ≤ i := by omega
      clear hi
      go_enter Try.func22, Try.ntmps22
      go_wp2_with fail
      go_ret
      exact ⟨rfl, (by first | exact h | trivial), World.grownBy.refl _ _⟩
  · simp only [if_neg hi]
    obtain ⟨k, rfl⟩ : ∃ k : Nat, i = k := ⟨i.toNat, by omega⟩
    have hk : k < 4 := by omega
    have e0 : (0 : Int) ≤ (k : Int) := by omega
    have e1 : (k : Int) < 4 := by omega
    have c1 := h.cell (cellsR_c ho hk)
    have f1 := h.frozen (128 + k)
    have h2 := h.set (128 + k) (.int .u32 x)
    rw [cellsR_setc ho hk] at h2
    have H2 := Lib.hid h2
    have hg2 := Lib.hid (grown_set w ⟨p, 128 + k, none⟩ (.int .u32 x))
    simp only [Int.toNat_natCast]
    generalize f.c[k]?.getD 0 = y at *
    clear hi h2
    by_cases hx : x < y
    · rw [if_pos hx]
      clear f1
      go_enter Try.func22, Try.ntmps22
      go_wp2_with fail
      go_ret
      exact ⟨rfl, (by first | exact h | trivial), World.grownBy.refl _ _⟩
    · rw [if_neg hx]
      go_enter Try.func22, Try.ntmps22
      go_wp2_with fail
      go_ret
      exact ⟨rfl, H2.out, hg2.out⟩
theorem rrow_bad (p : Nat) (i n : Int) (w : World) (hb : rowBad i n) (hn : -9223372036854775808 ≤ n ∧ n ≤ 9223372036854775807) (hi : -9223372036854775808 ≤ i ∧ i ≤ 9223372036854775807) :
    Calls Try.prog 14 #[.pointer (some ⟨p, 0, none⟩), .int .i64 i, .int .i64 n] w fun e w' => e = .returned (.tuple #[.slice none 0 0, .bool false, .int .i64 153]) ∧ w = w' := by
  obtain ⟨n0, n1⟩ := hn
  obtain ⟨i0, i1⟩ := hi
  unfold rowBad at hb
  by_cases h1 : i < 0
  · clear hb
    go_enter Try.func14, Try.ntmps14
    go_wp2_with fail
    go_ret3
    exact ⟨rfl, rfl⟩
  by_cases h2 : n < 0
  · clear hb
    go_enter Try.func14, Try.ntmps14
    go_wp2_with fail
    go_ret3
    exact ⟨rfl, rfl⟩
  by_cases h3 : 64 < i
  · clear hb
    go_enter Try.func14, Try.ntmps14
    go_wp2_with fail
    go_ret3
    exact ⟨rfl, rfl⟩
  have h4 : 64 - i < n := by omega
  clear hb
  go_enter Try.func14, Try.ntmps14
  go_wp2_with fail
  go_ret3
  exact ⟨rfl, rfl⟩
structure RRowIn (f : Fz) (k m : Nat) (w : World) (q o v : Value) (wr : World) : Prop where
  x : ∃ T : Nat, k ≤ T ∧ T ≤ k + m ∧ v = .int .i64 T ∧ q = .bool (allB f.n k (T - k)) ∧ Own 5 wr w.heap.size o ((f.b.drop k).take (T - k)) ∧ Below w.heap.size w wr
set_option maxHeartbeats 1000000 in
theorem rrow_good (p : Nat) (f : Fz) (k m : Nat) (w : World) (h : HB w p 31 f.cellsR) (ho : f.Ok) (hkm : k + m ≤ 64) :
    Calls Try.prog 14 #[.pointer (some ⟨p, 0, none⟩), .int .i64 k, .int .i64 m] w fun e w' => ∃ v, e = .returned (.tuple #[v, .bool (allB f.n k m), .int .i64 0]) ∧ Own 5 w' w.heap.size v ((f.b.drop k).take m) ∧ Below w.heap.size w w' := by
  have h1 : (m : Int) ≤ 64 - (k : Int) := by omega
  have h2 : (k : Int) ≤ 64 := by omega
  have HA0 := Lib.hid (allB_zero f.n k)
  go_enter Try.func14, Try.ntmps14
  go_wp2_with fail
  go_loopw [9, 10, 11] (fun q o i wr => RRowIn f k m w q o i wr) (fun _ _ i _ => 100 - (intOf i).toNat)
  case atStart => exact ⟨k, by omega, by omega, rfl, by rw [Nat.sub_self, HA0.out], by rw [Nat.sub_self]; exact Own.nil _ _ _, Below.refl _ _⟩
  case round =>
    obtain ⟨T, hT0, hT1, rfl, rfl, hown, hb⟩ := hrel
    have hsucc := allB_succ f.n k (T - k)
    rw [show T - k + 1 = T + 1 - k by omega, show k + (T - k) = T by omega] at hsucc
    have HS := Lib.hid hsucc
    clear hsucc
    by_cases hlt : T < k + m
    · have hlt2 : (T : Int) < (k : Int) + (m : Int) := by omega
      have hT : T < 64 := by omega
      have hr := h.below hb h.lt
      have c1 := hr.cell (cellsR_b ho hT)
      have e0 : (0 : Int) ≤ (T : Int) := by omega
      have e1 : (T : Int) < 64 := by omega
      have htk : ((f.b.drop k).take (T - k)) ++ [f.b[T]?.getD 0] = (f.b.drop k).take (T + 1 - k) := by
        rw [show T + 1 - k = (T - k) + 1 by omega, List.take_add_one, List.getElem?_drop, show k + (T - k) = T by omega, List.getElem?_eq_getElem (by rw [ho.hb]; exact hT)]
        rfl
      have Htk := Lib.hid htk
      have hlen : ((f.b.drop k).take (T - k)).length = T - k := by simp [ho.hb]; omega
      have Hlen := Lib.hid hlen
      clear htk hlen
      generalize (f.b.drop k).take (T - k) = L at *
      generalize f.b[T]?.getD 0 = c at *
      have c2 := cellsR_n ho hT
      have hs := hb.size
      have HR := Lib.hid hr
      clear hr
      go_wp2_with (at_builtin; refine wpList_append_bytes byteRow rfl _ _ rfl w.heap.size _ L rfl (hown.alloc _) _ 1 1 [c] rfl ?c1 rfl (Rd.new wr [c] _ _) ?c2 ?c3 ?_)
      case c1 => intro h; cases h
      case c2 => rw [Hlen.out]; omega
      case c3 => simp; omega
      intro v' w' hown' hgr
      have hb' : Below w.heap.size w w' := (hb.alloc hs _).grown hgr (by simp; omega) (by
        intro q hq
        rcases hown.cases with ⟨h, _⟩ | ⟨g, C, h, h1, _⟩
        · subst h; cases hq
        · subst h; cases hq; exact h1)
      rw [Htk.out] at hown'
      have c3 := (h.below hb' h.lt).cell c2
      clear hown hgr c1 HR c2 Htk
      generalize allB f.n k (T - k) = q at *
      generalize f.n.testBit T = b at *
      cases q
      · go_wp2_with fail
        first
        | (go_roundw
           case rel => exact ⟨T + 1, by omega, by omega, by go_num, by rw [HS.out]; rfl, hown', hb'⟩
           case measure => (first | omega | (simp [intOf] <;> omega) | (simp only [intOf] <;> omega)))
        | exact ⟨⟨T + 1, by omega, by omega, by go_num, by rw [HS.out]; rfl, hown', hb'⟩, by (first | omega | (simp [intOf] <;> omega) | (simp only [intOf] <;> omega))⟩
        | (refine ⟨?_, by (first | omega | (simp [intOf] <;> omega) | (simp only [intOf] <;> omega))⟩
           (repeat apply Exists.intro)
           refine (fun a b => And.intro b a) ?_ ?_
           · first | rfl | ((repeat refine ⟨rfl, ?_⟩); rfl)
           exact ⟨T + 1, by omega, by omega, by go_num, by rw [HS.out]; rfl, hown', hb'⟩)
      · go_wp2_with fail
        first
        | (go_roundw
           case rel => exact ⟨T + 1, by omega, by omega, by go_num, by rw [HS.out]; rfl, hown', hb'⟩
           case measure => (first | omega | (simp [intOf] <;> omega) | (simp only [intOf] <;> omega)))
        | exact ⟨⟨T + 1, by omega, by omega, by go_num, by rw [HS.out]; rfl, hown', hb'⟩, by (first | omega | (simp [intOf] <;> omega) | (simp only [intOf] <;> omega))⟩
        | (refine ⟨?_, by (first | omega | (simp [intOf] <;> omega) | (simp only [intOf] <;> omega))⟩
           (repeat apply Exists.intro)
           refine (fun a b => And.intro b a) ?_ ?_
           · first | rfl | ((repeat refine ⟨rfl, ?_⟩); rfl)
           exact ⟨T + 1, by omega, by omega, by go_num, by rw [HS.out]; rfl, hown', hb'⟩)
    · obtain rfl : T = k + m := by omega
      have hq : k + m - k = m := by omega
      rw [hq] at hown ⊢
      clear HS
      obtain ⟨q, hQ⟩ : ∃ q, allB f.n k m = q := ⟨_, rfl⟩
      rw [hQ]
      have HQ := Lib.hid hQ
      clear hQ hq
      go_wp2_with fail
      go_ret3
      exact ⟨_, by rw [HQ.out]; rfl, hown, hb⟩
end Go.Proofs.Ytnaffffeaakhcaa
