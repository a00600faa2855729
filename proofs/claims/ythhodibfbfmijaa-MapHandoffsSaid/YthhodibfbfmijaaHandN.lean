/- Handoffs and their bytes: plain laws, no program in sight. No condition. -/
import Derived.Test.YthhodibfbfmijaaNum
import Derived.Test.YthhodibfbfmijaaMapN
set_option linter.unusedVariables false
set_option linter.unusedSimpArgs false
namespace Go.Proofs.Ythhodibfbfmijaa
open Go.RowKit
structure Ho where
  img : Int
  base : Nat
  size : Nat
  sec : Bool
  a : Nat
  b : Nat
  c : Nat
  d : Nat
deriving DecidableEq
def hoz : Ho := ⟨0, 0, 0, false, 0, 0, 0, 0⟩
structure Ho.Ok (h : Ho) : Prop where
  i : -9223372036854775808 ≤ h.img ∧ h.img ≤ 9223372036854775807
  base : h.base < 18446744073709551616
  size : h.size < 18446744073709551616
  a : h.a < 18446744073709551616
  b : h.b < 18446744073709551616
  c : h.c < 18446744073709551616
  d : h.d < 18446744073709551616
def mayR (h : Ho) : Bool := decide (1 ≤ h.img) && decide (h.img < 12) && inR h.base h.size
def hoX (h : Ho) : List Nat := [h.base, h.size, h.a, h.b, h.c, h.d]
def hoT (h : Ho) : List UInt8 := [UInt8.ofNat h.img.toNat, if h.sec then 1 else 0]
def encX (l : List Nat) : List UInt8 := l.flatMap (encL 8 false)
def hoB (h : Ho) : List UInt8 := hoT h ++ encX (hoX h)
theorem encX_len : ∀ l : List Nat, (encX l).length = 8 * l.length
  | [] => rfl
  | x :: l => by unfold encX; rw [List.flatMap_cons, List.length_append, encL_length]; have := encX_len l; unfold encX at this; rw [this, List.length_cons]; omega
theorem encX_snoc (l : List Nat) (k x : Nat) (h : l[k]? = some x) : encX (l.take (k + 1)) = encX (l.take k) ++ encL 8 false x := by
  unfold encX
  rw [List.take_add_one, h, List.flatMap_append]
  simp
theorem hoB_len (h : Ho) : (hoB h).length = 50 := by
  unfold hoB; rw [List.length_append, encX_len]; rfl
/-- the number q, of which the first i bytes behind the head are told -/
def numP (b : List UInt8) (i q : Nat) : Nat := getN b (2 + 8 * q) (min 8 (i - 8 * q)) false
def rawR (b : List UInt8) : Ho := ⟨((b[0]?.getD 0).toNat : Nat), getN b 2 8 false, getN b 10 8 false, decide ((b[1]?.getD 0).toNat = 1), getN b 18 8 false, getN b 26 8 false, getN b 34 8 false, getN b 42 8 false⟩
def decR (b : List UInt8) : Ho × Bool := if b.length = 50 ∧ (b[1]?.getD 0).toNat ≤ 1 ∧ mayR (rawR b) = true then (rawR b, true) else (hoz, false)
theorem decR_yes {b : List UInt8} (h : b.length = 50) (h1 : (b[1]?.getD 0).toNat ≤ 1) (h2 : mayR (rawR b) = true) : decR b = (rawR b, true) := if_pos ⟨h, h1, h2⟩
theorem decR_no {b : List UInt8} (h : ¬ (b.length = 50 ∧ (b[1]?.getD 0).toNat ≤ 1 ∧ mayR (rawR b) = true)) : decR b = (hoz, false) := if_neg h
theorem getN_64u (l : List UInt8) (a : Nat) : getN l a 8 false < 18446744073709551616 := by
  unfold getN
  simp only [Bool.false_eq_true, if_false]
  have h := leN_lt (piece l a 8)
  have hl : (piece l a 8).length ≤ 8 := by unfold piece; simp; omega
  have := Nat.pow_le_pow_right (show 0 < 256 by decide) hl
  omega
theorem rawR_ok (b : List UInt8) : (rawR b).Ok := by
  have := (b[0]?.getD 0).toNat_lt
  exact ⟨⟨by simp only [rawR]; omega, by simp only [rawR]; omega⟩, getN_64u _ _, getN_64u _ _, getN_64u _ _, getN_64u _ _, getN_64u _ _, getN_64u _ _⟩
theorem hoz_ok : hoz.Ok := ⟨by decide, by decide, by decide, by decide, by decide, by decide, by decide⟩
theorem getN_mid {A C : List UInt8} {n v : Nat} (hn : A.length = n) (hv : v < 18446744073709551616) : getN (A ++ (encL 8 false v ++ C)) n 8 false = v := by
  unfold getN
  simp only [Bool.false_eq_true, if_false]
  have hp : piece (A ++ (encL 8 false v ++ C)) n 8 = encL 8 false v := by
    unfold piece
    rw [← hn, List.drop_left]
    exact List.take_left' (encL_length _ _ _)
  rw [hp, encL_little, Nat.mod_eq_of_lt (by omega)]
theorem list6 {b : List UInt8} (h : b.length = 50) : b = [b[0]?.getD 0, b[1]?.getD 0] ++ (piece b 2 8 ++ (piece b 10 8 ++ (piece b 18 8 ++ (piece b 26 8 ++ (piece b 34 8 ++ piece b 42 8))))) := by
  have hd : ∀ k, b.drop k = piece b k 8 ++ b.drop (k + 8) := fun k => by
    unfold piece
    rw [← List.drop_drop]
    exact (List.take_append_drop 8 (b.drop k)).symm
  have h0 : b = [b[0]?.getD 0, b[1]?.getD 0] ++ b.drop 2 := by
    match b, h with
    | x :: y :: r, _ => rfl
  have h50 : b.drop 50 = [] := List.drop_eq_nil_of_le (by omega)
  have e : b.drop 2 = piece b 2 8 ++ (piece b 10 8 ++ (piece b 18 8 ++ (piece b 26 8 ++ (piece b 34 8 ++ piece b 42 8)))) := by
    rw [hd 2, hd 10, hd 18, hd 26, hd 34, hd 42, h50, List.append_nil]
  rw [e] at h0
  exact h0
/-- bytes that are read are laid down again -/
theorem hoB_raw {b : List UInt8} (h : b.length = 50) (h1 : (b[1]?.getD 0).toNat ≤ 1) : hoB (rawR b) = b := by
  have e0 : UInt8.ofNat ((rawR b).img.toNat) = b[0]?.getD 0 := by simp [rawR]
  have e1 : (if (rawR b).sec then (1 : UInt8) else 0) = b[1]?.getD 0 := by
    apply UInt8.toNat_inj.mp
    by_cases hx : (b[1]?.getD 0).toNat = 1
    · simp [rawR, hx]
    · simp only [rawR, hx, decide_false, Bool.false_eq_true, if_false]
      show 0 = _
      omega
  have hp : ∀ k, k + 8 ≤ 50 → encL 8 false (getN b k 8 false) = piece b k 8 := fun k hk => encL_getN b k 8 false (by omega)
  conv => rhs; rw [list6 h]
  unfold hoB hoT encX hoX
  rw [e0, e1]
  simp only [rawR, List.flatMap_cons, List.flatMap_nil, List.append_nil]
  rw [hp 2 (by omega), hp 10 (by omega), hp 18 (by omega), hp 26 (by omega), hp 34 (by omega), hp 42 (by omega)]
/-- what may be is read again as it was -/
theorem raw_hoB {h : Ho} (ho : h.Ok) (hm : mayR h = true) : rawR (hoB h) = h ∧ ((hoB h)[1]?.getD 0).toNat ≤ 1 := by
  unfold mayR at hm
  simp only [Bool.and_eq_true, decide_eq_true_eq] at hm
  obtain ⟨⟨m1, m2⟩, -⟩ := hm
  have e : hoB h = hoT h ++ (encL 8 false h.base ++ (encL 8 false h.size ++ (encL 8 false h.a ++ (encL 8 false h.b ++ (encL 8 false h.c ++ (encL 8 false h.d ++ [])))))) := by
    unfold hoB encX hoX; simp only [List.flatMap_cons, List.flatMap_nil]
  have z0 : (hoB h)[0]?.getD 0 = UInt8.ofNat h.img.toNat := rfl
  have z1 : (hoB h)[1]?.getD 0 = if h.sec then 1 else 0 := rfl
  have n1 : getN (hoB h) 2 8 false = h.base := by rw [e]; exact getN_mid rfl ho.base
  have n2 : getN (hoB h) 10 8 false = h.size := by rw [e, ← List.append_assoc]; exact getN_mid (by simp [encL_length, hoT]) ho.size
  have n3 : getN (hoB h) 18 8 false = h.a := by rw [e, ← List.append_assoc, ← List.append_assoc]; exact getN_mid (by simp [encL_length, hoT]) ho.a
  have n4 : getN (hoB h) 26 8 false = h.b := by rw [e, ← List.append_assoc, ← List.append_assoc, ← List.append_assoc]; exact getN_mid (by simp [encL_length, hoT]) ho.b
  have n5 : getN (hoB h) 34 8 false = h.c := by rw [e, ← List.append_assoc, ← List.append_assoc, ← List.append_assoc, ← List.append_assoc]; exact getN_mid (by simp [encL_length, hoT]) ho.c
  have n6 : getN (hoB h) 42 8 false = h.d := by rw [e, ← List.append_assoc, ← List.append_assoc, ← List.append_assoc, ← List.append_assoc, ← List.append_assoc]; exact getN_mid (by simp [encL_length, hoT]) ho.d
  refine ⟨?_, ?_⟩
  · unfold rawR
    rw [n1, n2, n3, n4, n5, n6, z0, z1]
    have : ((UInt8.ofNat h.img.toNat).toNat : Int) = h.img := by
      rw [UInt8.toNat_ofNat']; omega
    rw [this]
    obtain ⟨I, bb, n, s, a1, a2, a3, a4⟩ := h
    cases s <;> rfl
  · rw [z1]; cases h.sec <;> decide
theorem dec_hoB {h : Ho} (ho : h.Ok) (hm : mayR h = true) : decR (hoB h) = (h, true) := by
  obtain ⟨e1, e2⟩ := raw_hoB ho hm
  have := decR_yes (hoB_len h) e2 (by rw [e1]; exact hm)
  rw [this, e1]
theorem decR_said (b : List UInt8) : (decR b = (hoz, false)) ∨ (decR b = (rawR b, true) ∧ b.length = 50 ∧ mayR (rawR b) = true ∧ hoB (rawR b) = b) := by
  by_cases h : b.length = 50 ∧ (b[1]?.getD 0).toNat ≤ 1 ∧ mayR (rawR b) = true
  · exact Or.inr ⟨if_pos h, h.1, h.2.2, hoB_raw h.1 h.2.1⟩
  · exact Or.inl (if_neg h)
/-! ### numbers that grow byte by byte -/
theorem numP_zero (b : List UInt8) (q : Nat) : numP b 0 q = 0 := by
  unfold numP; rw [Nat.zero_sub, Nat.min_zero]; rfl
theorem numP_other {b : List UInt8} {i q : Nat} (h : q ≠ i / 8) : numP b (i + 1) q = numP b i q := by
  unfold numP
  congr 1
  omega
theorem getN_snoc (b : List UInt8) (a m : Nat) (h : a + m < b.length) : getN b a (m + 1) false = getN b a m false + (b[a + m]?.getD 0).toNat * 256 ^ m := by
  unfold getN piece
  simp only [Bool.false_eq_true, if_false]
  rw [take_snoc8 _ m (by simp; omega), leN_snoc, List.getElem?_drop]
  congr 3
  simp; omega
theorem getN_pre (b : List UInt8) (a m : Nat) (h : a + m < b.length) : getN b a (m + 1) false = 256 * getN b (a + 1) m false + (b[a]?.getD 0).toNat := by
  unfold getN piece
  simp only [Bool.false_eq_true, if_false]
  have : b.drop a = b[a]?.getD 0 :: b.drop (a + 1) := by
    rw [List.drop_eq_getElem_cons (show a < b.length by omega), List.getElem?_eq_getElem (show a < b.length by omega)]; rfl
  rw [this, List.take_succ_cons, leN_cons, Nat.mul_comm]
theorem numP_full {b : List UInt8} {q : Nat} (h : q < 6) : numP b 48 q = getN b (2 + 8 * q) 8 false := by
  unfold numP
  congr 1
  omega
theorem numP_step {b : List UInt8} {i : Nat} (hb : b.length = 50) (h : i < 48) :
    bits BinOp.or IntKind.u64 (numP b i (i / 8) : Int) (IntKind.u64.wrap (IntKind.u64.wrap ((b[2 + i]?.getD 0).toNat : Int) * 2 ^ (8 * (i % 8)))) = (numP b (i + 1) (i / 8) : Int) := by
  have hm : i % 8 < 8 := Nat.mod_lt _ (by decide)
  have e1 : numP b i (i / 8) = getN b (2 + 8 * (i / 8)) (i % 8) false := by unfold numP; congr 1; omega
  have e2 : numP b (i + 1) (i / 8) = getN b (2 + 8 * (i / 8)) (i % 8 + 1) false := by unfold numP; congr 1; omega
  obtain ⟨h1, h2⟩ := wrap_byte_shift (b[2 + i]?.getD 0) (i % 8) hm
  rw [e1, e2, h1, getN_snoc b _ _ (by omega), show 2 + 8 * (i / 8) + i % 8 = 2 + i by omega, pow256]
  have hlt := getN_lt b (2 + 8 * (i / 8)) (i % 8) false (by omega)
  rw [pow256] at hlt
  have hlt2 := getN_64u b (2 + 8 * (i / 8))
  refine or_add_hi _ _ _ hlt ?_
  have h3 : getN b (2 + 8 * (i / 8)) (i % 8) false + (b[2 + i]?.getD 0).toNat * 256 ^ (i % 8) = getN b (2 + 8 * (i / 8)) (i % 8 + 1) false := by
    rw [getN_snoc b _ _ (by omega), show 2 + 8 * (i / 8) + i % 8 = 2 + i by omega]
  have h4 := getN_lt b (2 + 8 * (i / 8)) (i % 8 + 1) false (by omega)
  rw [← pow256, h3]
  have h5 : (256 : Nat) ^ (i % 8 + 1) ≤ 256 ^ 8 := Nat.pow_le_pow_right (by decide) (by omega)
  omega
end Go.Proofs.Ythhodibfbfmijaa
