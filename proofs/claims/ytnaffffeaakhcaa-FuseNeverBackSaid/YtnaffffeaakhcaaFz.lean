/- Fuses: what they hold, and how both texts keep it. No condition. -/
import Derived.Test.YtnaffffeaakhcaaProg
import Derived.Test.YtnaffffeaakhcaaByte

import Derived.Laws.Tables
set_option linter.unusedVariables false
set_option linter.unusedSimpArgs false
namespace Go.Proofs.Ytnaffffeaakhcaa
open Go.RowKit
structure Fz where
  b : List UInt8
  n : Nat
  c : List Nat
structure Fz.Ok (f : Fz) : Prop where
  hb : f.b.length = 64
  hn : f.n < 18446744073709551616
  hc : f.c.length = 4
  h32 : ∀ x ∈ f.c, x < 4294967296
def cv (x : Nat) : Value := .int .u32 x
def Fz.cellsA (f : Fz) : List Value := f.b.map bv ++ (.int .u64 f.n :: f.c.map cv)
def bits64 (n : Nat) : List Value := (List.range 64).map fun i => .bool (n.testBit i)
def Fz.cellsR (f : Fz) : List Value := f.b.map bv ++ (bits64 f.n ++ f.c.map cv)
theorem has_ok (p : Option Addr) (i n : Int) (w : World) (hp : p ≠ none) :
    Calls Try.prog 18 #[.pointer p, .int .i64 i, .int .i64 n] w fun e w' => e = .returned (.int .i64 (if i < 0 ∨ n ≤ i then 153 else 0)) ∧ w = w' := by
  cases p with
  | none => exact absurd rfl hp
  | some p =>
    clear hp
    by_cases h1 : i < 0
    · rw [if_pos (Or.inl h1)]
      go_enter Try.func18, Try.ntmps18
      go_wp2_with fail
      go_ret
      exact ⟨rfl, rfl⟩
    · by_cases h2 : n ≤ i
      · rw [if_pos (Or.inr h2)]
        go_enter Try.func18, Try.ntmps18
        go_wp2_with fail
        go_ret
        exact ⟨rfl, rfl⟩
      · rw [if_neg (fun h => h.elim h1 h2)]
        go_enter Try.func18, Try.ntmps18
        go_wp2_with fail
        go_ret
        exact ⟨rfl, rfl⟩
theorem has_nil (i n : Int) (w : World) :
    Calls Try.prog 18 #[.pointer none, .int .i64 i, .int .i64 n] w fun e w' => e = .returned (.int .i64 1) ∧ w = w' := by
  go_enter Try.func18, Try.ntmps18
  go_wp2_with fail
  go_ret
  exact ⟨rfl, rfl⟩
def Fz.zero : Fz := ⟨List.replicate 64 0, 0, [0, 0, 0, 0]⟩
theorem cellsA_b {f : Fz} (ho : f.Ok) {k : Nat} (hk : k < 64) : f.cellsA[k]? = some (bv (f.b[k]?.getD 0)) := by
  unfold Fz.cellsA
  rw [List.getElem?_append_left (by simp [ho.hb]; exact hk), List.getElem?_map, List.getElem?_eq_getElem (by rw [ho.hb]; exact hk)]
  rfl
theorem cellsA_n {f : Fz} (ho : f.Ok) : f.cellsA[64]? = some (.int .u64 f.n) := by
  unfold Fz.cellsA
  rw [List.getElem?_append_right (by simp [ho.hb])]
  simp [ho.hb]
theorem cellsA_c {f : Fz} (ho : f.Ok) {k : Nat} (hk : k < 4) : f.cellsA[65 + k]? = some (cv (f.c[k]?.getD 0)) := by
  unfold Fz.cellsA
  rw [List.getElem?_append_right (by simp [ho.hb]; omega)]
  simp only [List.length_map, ho.hb]
  rw [show 65 + k - 64 = k + 1 by omega, List.getElem?_cons_succ, List.getElem?_map, List.getElem?_eq_getElem (by rw [ho.hc]; exact hk)]
  rfl
theorem bit_and (n k : Nat) (hn : n < 18446744073709551616) : (bits BinOp.and IntKind.u64 ((n : Int) / 2 ^ k) 1 != 0) = n.testBit k := by
  have h1 : ((n : Int) / 2 ^ k) = ((n / 2 ^ k : Nat) : Int) := by rw [Int.natCast_ediv, Int.natCast_pow]; rfl
  have h2 : (1 : Int) = ((1 : Nat) : Int) := rfl
  rw [h1, h2, u64_and_nat _ _ (Nat.lt_of_le_of_lt (Nat.div_le_self _ _) hn) (by decide)]
  rw [Nat.testBit, Nat.shiftRight_eq_div_pow, Nat.and_comm]
  rw [Bool.eq_iff_iff]
  simp
  omega
theorem new_any (w : World) :
    Calls Try.prog 6 #[] w fun e w' => e = .returned (.pointer (some ⟨w.heap.size, 0, none⟩)) ∧ w' = w.alloc (.cells Fz.zero.cellsA.toArray 53) := by
  have hz : ∀ w, (zeroValue 53).run Try.prog w = .ok (.agg Fz.zero.cellsA.toArray) w := fun w => by kernel_rfl
  go_enter Try.func6, Try.ntmps6
  go_wp2_with fail
  go_ret
  exact ⟨rfl, rfl⟩
def readR (f : Fz) (i : Int) : UInt8 × Bool × Int := if i < 0 ∨ 64 ≤ i then (0, false, 153) else (f.b[i.toNat]?.getD 0, f.n.testBit i.toNat, 0)
theorem read_any (p : Nat) (f : Fz) (i : Int) (w : World) (h : HB w p 53 f.cellsA) (ho : f.Ok) :
    Calls Try.prog 16 #[.pointer (some ⟨p, 0, none⟩), .int .i64 i] w fun e w' => e = .returned (.tuple #[bv (readR f i).1, .bool (readR f i).2.1, .int .i64 (readR f i).2.2]) ∧ Drn w w' := by
  by_cases hi : i < 0 ∨ 64 ≤ i
  · have hH := fun w => has_ok (some ⟨p, 0, none⟩) i 64 w (by simp)
    simp only [if_pos hi] at hH
    unfold readR
    rw [if_pos hi]
    clear hi
    go_enter Try.func16, Try.ntmps16
    go_wp2_with fail
    refine (hH _).mono ?_
    rintro e w' ⟨rfl, rfl⟩
    go_wp2_with fail
    go_ret3
    exact ⟨rfl, Drn.refl _⟩
  · have hH := fun w => has_ok (some ⟨p, 0, none⟩) i 64 w (by simp)
    simp only [if_neg hi] at hH
    unfold readR
    rw [if_neg hi]
    obtain ⟨k, rfl⟩ : ∃ k : Nat, i = k := ⟨i.toNat, by omega⟩
    have hk : k < 64 := by omega
    clear hi
    have e0 : (0 : Int) ≤ (k : Int) := by omega
    have e1 : (k : Int) < 64 := by omega
    have c1 := h.cell (cellsA_b ho hk)
    have c2 := h.cell (cellsA_n ho)
    have c3 := bit_and f.n k ho.hn
    clear h
    go_enter Try.func16, Try.ntmps16
    go_wp2_with fail
    refine (hH _).mono ?_
    rintro e w' ⟨rfl, rfl⟩
    go_wp2_with fail
    go_quiet (fail)
    go_wp2_with fail
    go_ret3
    exact ⟨rfl, ⟨_, rfl⟩⟩
def Fz.burn (f : Fz) (k : Nat) (v : UInt8) : Fz := ⟨f.b.set k v, f.n ||| 1 <<< k, f.c⟩
theorem or_bit (n k : Nat) (hn : n < 18446744073709551616) (hk : k < 64) : bits BinOp.or IntKind.u64 (n : Int) (IntKind.u64.wrap (2 ^ k)) = ((n ||| 1 <<< k : Nat) : Int) := by
  have h0 : 2 ^ k < 2 ^ 64 := Nat.pow_lt_pow_right (by omega) hk
  have h1 : IntKind.u64.wrap ((2 : Int) ^ k) = ((2 ^ k : Nat) : Int) := by
    have : ((2 : Int) ^ k) = ((2 ^ k : Nat) : Int) := by rw [Int.natCast_pow]; rfl
    rw [this]
    generalize 2 ^ k = q at *
    exact IntWalk.u64_in _ (by omega)
  rw [h1, u64_or_nat _ _ hn (by omega), Nat.one_shiftLeft]
theorem burn_lt {n k : Nat} (hn : n < 18446744073709551616) (hk : k < 64) : n ||| 1 <<< k < 18446744073709551616 := by
  have h0 : 2 ^ k < 2 ^ 64 := Nat.pow_lt_pow_right (by omega) hk
  rw [Nat.one_shiftLeft]
  exact Nat.or_lt_two_pow (n := 64) hn h0
theorem Fz.Ok.burn {f : Fz} (h : f.Ok) {k : Nat} (hk : k < 64) (v : UInt8) : (f.burn k v).Ok := ⟨by simp [Fz.burn, h.hb], burn_lt h.hn hk, h.hc, h.h32⟩
theorem cellsA_set {f : Fz} (ho : f.Ok) {k : Nat} (hk : k < 64) (v : UInt8) (m : Nat) : (f.cellsA.set k (.int .u8 v.toNat)).set 64 (.int .u64 m) = (⟨f.b.set k v, m, f.c⟩ : Fz).cellsA := by
  unfold Fz.cellsA
  rw [List.set_append_left _ _ (by simp [ho.hb]; exact hk), List.set_append_right _ _ (by simp [ho.hb])]
  simp [ho.hb, List.map_set, bv]
theorem burn_ok (p : Nat) (f : Fz) (k : Nat) (v : UInt8) (w : World) (h : HB w p 53 f.cellsA) (ho : f.Ok) (hk : k < 64) (hb : f.n.testBit k = false) :
    Calls Try.prog 9 #[.pointer (some ⟨p, 0, none⟩), .int .i64 k, bv v] w fun e w' => e = .returned (.int .i64 0) ∧ HB w' p 53 (f.burn k v).cellsA ∧ w.grownBy w' (some p) := by
  have hH := fun w => has_ok (some ⟨p, 0, none⟩) k 64 w (by simp)
  simp only [if_neg (show ¬ ((k : Int) < 0 ∨ (64 : Int) ≤ k) by omega)] at hH
  have e0 : (0 : Int) ≤ (k : Int) := by omega
  have e1 : (k : Int) < 64 := by omega
  have c1 := h.cell (cellsA_b ho hk)
  have c2 := h.cell (cellsA_n ho)
  have f1 := h.frozen k
  have c3 := bit_and f.n k ho.hn
  rw [hb] at c3
  have h1 := h.set k (.int .u8 v.toNat)
  clear hb
  unfold bv at c1 ⊢
  go_enter Try.func9, Try.ntmps9
  go_wp2_with fail
  refine (hH _).mono ?_
  rintro e w' ⟨rfl, rfl⟩
  go_wp2_with fail
  have hg1 := grown_set w ⟨p, k, none⟩ (.int .u8 v.toNat)
  have c4 := h1.cell (show (f.cellsA.set k (Value.int .u8 v.toNat))[64]? = some (.int .u64 f.n) by rw [List.getElem?_set_ne (by omega)]; exact cellsA_n ho)
  have f2 := h1.frozen 64
  clear c1 c2 f1 h
  generalize w.setCell _ _ = w1 at *
  go_region
  have h2 := h1.set 64 (.int .u64 ((f.n ||| 1 <<< k : Nat) : Int))
  rw [cellsA_set ho hk] at h2
  have hg2 := grown_set w1 ⟨p, 64, none⟩ (.int .u64 ((f.n ||| 1 <<< k : Nat) : Int))
  rw [or_bit f.n k ho.hn hk]
  clear h1 c4 f2 c3
  generalize w1.setCell _ _ = w2 at *
  have h3 : HB w2.drew p 53 (f.burn k v).cellsA := h2
  have hg3 : w.grownBy w2.drew (some p) := (hg1.trans hg2).trans (grown_drn ⟨1, rfl⟩ _)
  clear h2 hg1 hg2
  go_wp2_with fail
  go_ret
  exact ⟨rfl, h3, hg3⟩
def burnR (f : Fz) (i : Int) (v : UInt8) : Fz × Int := if i < 0 ∨ 64 ≤ i then (f, 153) else if f.n.testBit i.toNat then (f, 151) else (f.burn i.toNat v, 0)
theorem burnR_ok {f : Fz} (h : f.Ok) (i : Int) (v : UInt8) : (burnR f i v).1.Ok := by
  unfold burnR
  split
  · exact h
  · split
    · exact h
    · exact h.burn (by omega) v
theorem burn_any (p : Nat) (f : Fz) (i : Int) (v : UInt8) (w : World) (h : HB w p 53 f.cellsA) (ho : f.Ok) :
    Calls Try.prog 9 #[.pointer (some ⟨p, 0, none⟩), .int .i64 i, bv v] w fun e w' => e = .returned (.int .i64 (burnR f i v).2) ∧ HB w' p 53 (burnR f i v).1.cellsA ∧ w.grownBy w' (some p) := by
  by_cases hi : i < 0 ∨ 64 ≤ i
  · have hH := fun w => has_ok (some ⟨p, 0, none⟩) i 64 w (by simp)
    simp only [if_pos hi] at hH
    unfold burnR
    rw [if_pos hi]
    clear hi
    go_enter Try.func9, Try.ntmps9
    go_wp2_with fail
    refine (hH _).mono ?_
    rintro e w' ⟨rfl, rfl⟩
    go_wp2_with fail
    go_ret
    exact ⟨rfl, h, World.grownBy.refl _ _⟩
  · obtain ⟨k, rfl⟩ : ∃ k : Nat, i = k := ⟨i.toNat, by omega⟩
    have hk : k < 64 := by omega
    have e2 : ((k : Int)).toNat = k := by omega
    cases hb : f.n.testBit k
    · have e : burnR f k v = (f.burn k v, 0) := by unfold burnR; rw [if_neg hi, e2, hb]; rfl
      rw [e]
      exact burn_ok p f k v w h ho hk hb
    · have hH := fun w => has_ok (some ⟨p, 0, none⟩) k 64 w (by simp)
      simp only [if_neg hi] at hH
      have e : burnR f k v = (f, 151) := by unfold burnR; rw [if_neg hi, e2, hb]; rfl
      rw [e]
      have e0 : (0 : Int) ≤ (k : Int) := by omega
      have e1 : (k : Int) < 64 := by omega
      have c2 := h.cell (cellsA_n ho)
      have c3 := bit_and f.n k ho.hn
      rw [hb] at c3
      clear hb hi e e2
      go_enter Try.func9, Try.ntmps9
      go_wp2_with fail
      refine (hH _).mono ?_
      rintro e w' ⟨rfl, rfl⟩
      go_wp2_with fail
      go_ret
      exact ⟨rfl, h, World.grownBy.refl _ _⟩
def counterR (f : Fz) (i : Int) : Nat × Int := if i < 0 ∨ 4 ≤ i then (0, 153) else (f.c[i.toNat]?.getD 0, 0)
theorem counter_any (p : Nat) (f : Fz) (i : Int) (w : World) (h : HB w p 53 f.cellsA) (ho : f.Ok) :
    Calls Try.prog 17 #[.pointer (some ⟨p, 0, none⟩), .int .i64 i] w fun e w' => e = .returned (.tuple #[cv (counterR f i).1, .int .i64 (counterR f i).2]) ∧ w = w' := by
  have hH := fun w => has_ok (some ⟨p, 0, none⟩) i 4 w (by simp)
  unfold counterR
  by_cases hi : i < 0 ∨ 4 ≤ i
  · simp only [if_pos hi] at hH ⊢
    clear hi
    go_enter Try.func17, Try.ntmps17
    go_wp2_with fail
    refine (hH _).mono ?_
    rintro e w' ⟨rfl, rfl⟩
    go_wp2_with fail
    go_ret2
    exact ⟨rfl, rfl⟩
  · simp only [if_neg hi] at hH ⊢
    obtain ⟨k, rfl⟩ : ∃ k : Nat, i = k := ⟨i.toNat, by omega⟩
    have hk : k < 4 := by omega
    have e0 : (0 : Int) ≤ (k : Int) := by omega
    have e1 : (k : Int) < 4 := by omega
    have c1 := h.cell (cellsA_c ho hk)
    clear hi
    go_enter Try.func17, Try.ntmps17
    go_wp2_with fail
    refine (hH _).mono ?_
    rintro e w' ⟨rfl, rfl⟩
    go_wp2_with fail
    go_ret2
    exact ⟨rfl, rfl⟩
def raiseR (f : Fz) (i : Int) (x : Nat) : Fz × Int := if i < 0 ∨ 4 ≤ i then (f, 153) else if x < f.c[i.toNat]?.getD 0 then (f, 152) else (⟨f.b, f.n, f.c.set i.toNat x⟩, 0)
theorem raiseR_ok {f : Fz} (h : f.Ok) (i : Int) {x : Nat} (hx : x < 4294967296) : (raiseR f i x).1.Ok := by
  unfold raiseR
  split
  · exact h
  · split
    · exact h
    · refine ⟨h.hb, h.hn, by simp [h.hc], fun y hy => ?_⟩
      rcases List.mem_or_eq_of_mem_set hy with hy | rfl
      · exact h.h32 y hy
      · exact hx
theorem cellsA_setc {f : Fz} (ho : f.Ok) {k : Nat} (hk : k < 4) (x : Nat) : f.cellsA.set (65 + k) (.int .u32 x) = (⟨f.b, f.n, f.c.set k x⟩ : Fz).cellsA := by
  unfold Fz.cellsA
  rw [List.set_append_right _ _ (by simp [ho.hb]; omega)]
  simp only [List.length_map, ho.hb]
  rw [show 65 + k - 64 = k + 1 by omega, List.set_cons_succ, List.map_set]
  rfl
theorem raise_any (p : Nat) (f : Fz) (i : Int) (x : Nat) (w : World) (h : HB w p 53 f.cellsA) (ho : f.Ok) :
    Calls Try.prog 11 #[.pointer (some ⟨p, 0, none⟩), .int .i64 i, cv x] w fun e w' => e = .returned (.int .i64 (raiseR f i x).2) ∧ HB w' p 53 (raiseR f i x).1.cellsA ∧ w.grownBy w' (some p) := by
  have hH := fun w => has_ok (some ⟨p, 0, none⟩) i 4 w (by simp)
  unfold raiseR
  by_cases hi : i < 0 ∨ 4 ≤ i
  · simp only [if_pos hi] at hH ⊢
    clear hi
    go_enter Try.func11, Try.ntmps11
    go_wp2_with fail
    refine (hH _).mono ?_
    rintro e w' ⟨rfl, rfl⟩
    go_wp2_with fail
    go_ret
    exact ⟨rfl, h, World.grownBy.refl _ _⟩
  · simp only [if_neg hi] at hH ⊢
    obtain ⟨k, rfl⟩ : ∃ k : Nat, i = k := ⟨i.toNat, by omega⟩
    have hk : k < 4 := by omega
    have e0 : (0 : Int) ≤ (k : Int) := by omega
    have e1 : (k : Int) < 4 := by omega
    have c1 := h.cell (cellsA_c ho hk)
    have f1 := h.frozen (65 + k)
    have h2 := h.set (65 + k) (.int .u32 x)
    rw [cellsA_setc ho hk] at h2
    have H2 := Lib.hid h2
    have hg2 := Lib.hid (grown_set w ⟨p, 65 + k, none⟩ (.int .u32 x))
    simp only [Int.toNat_natCast]
    generalize f.c[k]?.getD 0 = y at *
    unfold cv at *
    clear hi h2
    by_cases hx : x < y
    · rw [if_pos hx]
      clear f1
      go_enter Try.func11, Try.ntmps11
      go_wp2_with fail
      refine (hH _).mono ?_
      rintro e w' ⟨rfl, rfl⟩
      go_wp2_with fail
      go_ret
      exact ⟨rfl, h, World.grownBy.refl _ _⟩
    · rw [if_neg hx]
      go_enter Try.func11, Try.ntmps11
      go_wp2_with fail
      refine (hH _).mono ?_
      rintro e w' ⟨rfl, rfl⟩
      go_wp2_with fail
      go_ret
      exact ⟨rfl, H2.out, hg2.out⟩
theorem cellsA_length {f : Fz} (ho : f.Ok) : f.cellsA.length = 69 := by simp [Fz.cellsA, ho.hb, ho.hc]
theorem copy_any (p : Nat) (f : Fz) (w : World) (h : HB w p 53 f.cellsA) (ho : f.Ok) :
    Calls Try.prog 8 #[.pointer (some ⟨p, 0, none⟩)] w fun e w' => e = .returned (.pointer (some ⟨w.heap.size, 0, none⟩)) ∧ HB w' w.heap.size 53 f.cellsA ∧ Below w.heap.size w w' := by
  have h69 := Lib.hid (cellsA_length ho)
  have hz : ∀ w, (zeroValue 53).run Try.prog w = .ok (.agg Fz.zero.cellsA.toArray) w := fun w => by kernel_rfl
  have hN := Lib.hid (HB.new w Fz.zero.cellsA 53)
  have hi : Hid ((Try.prog.info? 53).map (·.size) = some 69) := Lib.hid (by kernel_rfl)
  have h1 : Hid (f.cellsA.toArray.all (·.oneCell') = true) := Lib.hid (by
    rw [Array.all_eq_true_iff_forall_mem]
    intro x hx
    simp [Fz.cellsA] at hx
    rcases hx with ⟨c, _, rfl⟩ | rfl | ⟨c, _, rfl⟩ <;> rfl)
  have hh := Lib.hid h
  clear h
  go_enter Try.func8, Try.ntmps8
  go_wp2_with (first
    | (refine wpList_load_mid rfl _ _ rfl p 0 rfl f.cellsA _ hh.out.whole Try.underlying53 rfl (by rw [h69.out]; exact hi.out) ?_)
    | (refine wpList_store_row rfl _ _ _ rfl w.heap.size f.cellsA.toArray rfl rfl _ _ hN.out (by simpa [h69.out] using hi.out) (by simp [h69.out, cellsA_length]; rfl) h1.out ?_))
  go_ret
  refine ⟨rfl, setRow_heap _ _ _ _ _ _ hN.out, ((Below.refl _ w).alloc (Nat.le_refl _) (.cells Fz.zero.cellsA.toArray 53)).trans ⟨rfl, rfl, rfl, by simp, fun k hk => setRow_other _ _ _ _ (by omega)⟩⟩
def allB (n k j : Nat) : Bool := (List.range j).all fun t => n.testBit (k + t)
theorem allB_zero (n k : Nat) : allB n k 0 = true := rfl
theorem allB_succ (n k j : Nat) : allB n k (j + 1) = (allB n k j && n.testBit (k + j)) := by simp [allB, List.range_succ]
def rowBad (i n : Int) : Prop := i < 0 ∨ n < 0 ∨ 64 < i ∨ 64 - i < n
structure RowIn (f : Fz) (k m : Nat) (q v : Value) : Prop where
  x : ∃ T : Nat, k ≤ T ∧ T ≤ k + m ∧ v = .int .i64 T ∧ q = .bool (allB f.n k (T - k))
theorem row_bad (p : Nat) (i n : Int) (w : World) (hb : rowBad i n) (hn : -9223372036854775808 ≤ n ∧ n ≤ 9223372036854775807) (hi : -9223372036854775808 ≤ i ∧ i ≤ 9223372036854775807) :
    Calls Try.prog 13 #[.pointer (some ⟨p, 0, none⟩), .int .i64 i, .int .i64 n] w fun e w' => e = .returned (.tuple #[.slice none 0 0, .bool false, .int .i64 153]) ∧ w = w' := by
  obtain ⟨n0, n1⟩ := hn
  obtain ⟨i0, i1⟩ := hi
  unfold rowBad at hb
  by_cases h1 : i < 0
  · clear hb
    go_enter Try.func13, Try.ntmps13
    go_wp2_with fail
    go_ret3
    exact ⟨rfl, rfl⟩
  by_cases h2 : n < 0
  · clear hb
    go_enter Try.func13, Try.ntmps13
    go_wp2_with fail
    go_ret3
    exact ⟨rfl, rfl⟩
  by_cases h3 : 64 < i
  · clear hb
    go_enter Try.func13, Try.ntmps13
    go_wp2_with fail
    go_ret3
    exact ⟨rfl, rfl⟩
  have h4 : 64 - i < n := by omega
  clear hb
  go_enter Try.func13, Try.ntmps13
  go_wp2_with fail
  go_ret3
  exact ⟨rfl, rfl⟩
set_option maxHeartbeats 400000 in
theorem row_good (p : Nat) (f : Fz) (k m : Nat) (w : World) (h : HB w p 53 f.cellsA) (ho : f.Ok) (hkm : k + m ≤ 64) :
    Calls Try.prog 13 #[.pointer (some ⟨p, 0, none⟩), .int .i64 k, .int .i64 m] w fun e w' => ∃ v, e = .returned (.tuple #[v, .bool (allB f.n k m), .int .i64 0]) ∧ Own 5 w' w.heap.size v ((f.b.drop k).take m) ∧ Below w.heap.size w w' := by
  have c2 := h.cell (cellsA_n ho)
  have h1 : (m : Int) ≤ 64 - (k : Int) := by omega
  have h2 : (k : Int) ≤ 64 := by omega
  have HA0 := Lib.hid (allB_zero f.n k)
  obtain ⟨off, hsl, hoff⟩ := slice_array (P := Try.prog) (T := 26) 64 Try.underlying26 (by kernel_rfl) p 0 k (k + m) (by omega) hkm
  have hsl' : ∀ w, (Instr.sliceAt 26 (.pointer (some ⟨p, 0, none⟩)) (some (.int .i64 (k : Int))) (some (.int .i64 ((k : Int) + (m : Int)))) none).run Try.prog w = .ok (.slice (some ⟨p, off, none⟩) m (64 - k)) w := fun w => by
    have := hsl w .i64 .i64
    rw [Int.natCast_add, Nat.add_sub_cancel_left] at this; exact this
  have hlen : ((f.b.drop k).take m).length = m := by simp [ho.hb]; omega
  have hrd : Rd w (some ⟨p, off, none⟩) ((f.b.drop k).take m) := fun j hj => by
    rw [hlen] at hj
    refine ⟨p, off, rfl, ?_⟩
    rw [hoff (by omega), Nat.zero_add, h.cell (cellsA_b ho (show k + j < 64 by omega))]
    simp [bv, List.getElem?_take, hj, List.getElem?_drop]
  have Hcl := fun cap => Lib.hid (clone_any (some ⟨p, off, none⟩) m cap _ w hlen (by omega) (fun h => by cases h) hrd)
  clear hsl hoff hlen hrd
  go_enter Try.func13, Try.ntmps13
  go_wp2_with fail
  go_loop [9, 10] (RowIn f k m) (fun _ i => 100 - (intOf i).toNat)
  case atStart => exact ⟨k, by omega, by omega, rfl, by rw [Nat.sub_self, HA0.out]⟩
  case round =>
    obtain ⟨T, hT0, hT1, rfl, rfl⟩ := hrel
    have hbit := bit_and f.n T ho.hn
    have hsucc := allB_succ f.n k (T - k)
    rw [show T - k + 1 = T + 1 - k by omega, show k + (T - k) = T by omega] at hsucc
    have HS := Lib.hid hsucc
    clear hsucc
    by_cases hlt : T < k + m
    · have hlt2 : (T : Int) < (k : Int) + (m : Int) := by omega
      generalize allB f.n k (T - k) = q at *
      generalize f.n.testBit T = b at *
      cases q
      · go_wp2_with fail
        first
        | (go_round
           case rel => exact ⟨T + 1, by omega, by omega, by go_num, by rw [HS.out]; rfl⟩
           case measure => (first | omega | (simp [intOf] <;> omega) | (simp only [intOf] <;> omega)))
        | exact ⟨⟨T + 1, by omega, by omega, by go_num, by rw [HS.out]; rfl⟩, by (first | omega | (simp [intOf] <;> omega) | (simp only [intOf] <;> omega))⟩
        | (refine ⟨?_, by (first | omega | (simp [intOf] <;> omega) | (simp only [intOf] <;> omega))⟩
           (repeat apply Exists.intro)
           refine (fun a b => And.intro b a) ?_ ?_
           · first | rfl | ((repeat refine ⟨rfl, ?_⟩); rfl)
           exact ⟨T + 1, by omega, by omega, by go_num, by rw [HS.out]; rfl⟩)
      · go_wp2_with fail
        first
        | (go_round
           case rel => exact ⟨T + 1, by omega, by omega, by go_num, by rw [HS.out]; rfl⟩
           case measure => (first | omega | (simp [intOf] <;> omega) | (simp only [intOf] <;> omega)))
        | exact ⟨⟨T + 1, by omega, by omega, by go_num, by rw [HS.out]; rfl⟩, by (first | omega | (simp [intOf] <;> omega) | (simp only [intOf] <;> omega))⟩
        | (refine ⟨?_, by (first | omega | (simp [intOf] <;> omega) | (simp only [intOf] <;> omega))⟩
           (repeat apply Exists.intro)
           refine (fun a b => And.intro b a) ?_ ?_
           · first | rfl | ((repeat refine ⟨rfl, ?_⟩); rfl)
           exact ⟨T + 1, by omega, by omega, by go_num, by rw [HS.out]; rfl⟩)
    · obtain rfl : T = k + m := by omega
      clear hbit HS
      have hq : k + m - k = m := by omega
      rw [hq]
      obtain ⟨q, hQ⟩ : ∃ q, allB f.n k m = q := ⟨_, rfl⟩
      rw [hQ]
      have HQ := Lib.hid hQ
      clear hQ hq
      go_wp2_with fail
      refine (Hcl _).out.mono ?_
      rintro e w' ⟨v, rfl, hown, hb⟩
      go_wp2_with fail
      go_ret3
      exact ⟨v, by rw [HQ.out]; rfl, hown, hb⟩
end Go.Proofs.Ytnaffffeaakhcaa
