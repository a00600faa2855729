/- Numbers out of bytes: plain laws, no program in sight. No condition. -/
import Derived.Test.YtnmeidmiijcniaaU
set_option linter.unusedVariables false
set_option linter.unusedSimpArgs false
namespace Go.Proofs.Ytnmeidmiijcniaa
open Go.RowKit
def beN (l : List UInt8) : Nat := l.foldl (fun v c => v * 256 + c.toNat) 0
def leN (l : List UInt8) : Nat := beN l.reverse
def piece (l : List UInt8) (at_ size : Nat) : List UInt8 := (l.drop at_).take size
def getN (l : List UInt8) (at_ size : Nat) (big : Bool) : Nat := if big then beN (piece l at_ size) else leN (piece l at_ size)
def getAt (p : List UInt8) (k i : Nat) (big : Bool) : Nat := if big then beN (p.take i) * 256 ^ (k - i) else leN (p.take i)

theorem take_snoc8 (l : List UInt8) (m : Nat) (h : m < l.length) : l.take (m + 1) = l.take m ++ [l[m]?.getD 0] := by
  rw [List.take_add_one]; simp [List.getElem?_eq_getElem h]
theorem beN_snoc (l : List UInt8) (c : UInt8) : beN (l ++ [c]) = beN l * 256 + c.toNat := by simp [beN]
theorem leN_cons (l : List UInt8) (c : UInt8) : leN (c :: l) = leN l * 256 + c.toNat := by simp [leN, beN_snoc]
theorem leN_nil : leN [] = 0 := rfl
theorem leN_snoc (l : List UInt8) (c : UInt8) : leN (l ++ [c]) = leN l + c.toNat * 256 ^ l.length := by
  induction l with
  | nil => simp [leN, beN]
  | cons x l ih => rw [List.cons_append, leN_cons, ih, leN_cons, List.length_cons, Nat.pow_succ, Nat.add_mul, Nat.mul_assoc]; omega
theorem leN_lt (l : List UInt8) : leN l < 256 ^ l.length := by
  induction l with
  | nil => simp [leN, beN]
  | cons x l ih => rw [leN_cons, List.length_cons, Nat.pow_succ]; have := x.toNat_lt; omega
theorem beN_lt (l : List UInt8) : beN l < 256 ^ l.length := by
  have := leN_lt l.reverse
  simpa [leN] using this
theorem piece_length (l : List UInt8) (A k : Nat) (h : A + k ≤ l.length) : (piece l A k).length = k := by simp [piece]; omega
theorem piece_get (l : List UInt8) (A k m : Nat) (h : m < k) : (piece l A k)[m]?.getD 0 = l[A + m]?.getD 0 := by
  simp [piece, List.getElem?_take, h, List.getElem?_drop]
theorem pow256 (n : Nat) : (256 : Nat) ^ n = 2 ^ (8 * n) := by rw [Nat.pow_mul]
theorem or_add_hi (a b i : Nat) (ha : a < 2 ^ i) (hs : a + b * 2 ^ i < 18446744073709551616) : bits BinOp.or IntKind.u64 (a : Int) ((b * 2 ^ i : Nat) : Int) = ((a + b * 2 ^ i : Nat) : Int) := by
  rw [u64_or_nat _ _ (by omega) (by omega)]
  have := Nat.two_pow_add_eq_or_of_lt ha b
  rw [Nat.or_comm, Nat.mul_comm b, ← this, Nat.add_comm]
theorem or_add_lo (a b i : Nat) (hb : b < 2 ^ i) (hs : a * 2 ^ i + b < 18446744073709551616) : bits BinOp.or IntKind.u64 ((a * 2 ^ i : Nat) : Int) (b : Int) = ((a * 2 ^ i + b : Nat) : Int) := by
  rw [u64_or_nat _ _ (by omega) (by omega)]
  have := Nat.two_pow_add_eq_or_of_lt hb a
  rw [Nat.mul_comm a, ← this]
theorem wrap_byte_shift (c : UInt8) (j : Nat) (hj : j < 8) : IntKind.u64.wrap (IntKind.u64.wrap (c.toNat : Int) * 2 ^ (8 * j)) = ((c.toNat * 2 ^ (8 * j) : Nat) : Int) ∧ c.toNat * 2 ^ (8 * j) < 18446744073709551616 := by
  have hc := c.toNat_lt
  have hb : c.toNat * 2 ^ (8 * j) < 18446744073709551616 := by
    have h1 : c.toNat * 2 ^ (8 * j) < 256 * 2 ^ (8 * j) := Nat.mul_lt_mul_of_pos_right hc (Nat.two_pow_pos _)
    have h2 : 256 * 2 ^ (8 * j) ≤ 18446744073709551616 := by
      have : 8 * j ≤ 56 := by omega
      have := Nat.pow_le_pow_right (show 0 < 2 by decide) this
      calc 256 * 2 ^ (8 * j) ≤ 256 * 2 ^ 56 := Nat.mul_le_mul_left _ this
        _ = 18446744073709551616 := by decide
    omega
  refine ⟨?_, hb⟩
  rw [IntWalk.u64_in (c.toNat : Int) (by omega)]
  have e : (c.toNat : Int) * 2 ^ (8 * j) = ((c.toNat * 2 ^ (8 * j) : Nat) : Int) := by push_cast; rfl
  rw [e]
  exact IntWalk.u64_in _ (by omega)
theorem getStep_little (p : List UInt8) (k m : Nat) (c : UInt8) (hp : p.length = k) (hc : p[m]?.getD 0 = c) (hm : m < k) (hk : k ≤ 8) :
    bits BinOp.or IntKind.u64 (getAt p k m false : Int) (IntKind.u64.wrap (IntKind.u64.wrap (c.toNat : Int) * 2 ^ (8 * m))) = ((getAt p k (m + 1) false : Nat) : Int) := by
  obtain ⟨h1, h2⟩ := wrap_byte_shift c m (by omega)
  have hl : (p.take m).length = m := by simp; omega
  have hlt := leN_lt (p.take m)
  rw [hl, pow256] at hlt
  have hs : getAt p k (m + 1) false = leN (p.take m) + c.toNat * 2 ^ (8 * m) := by
    simp only [getAt, Bool.false_eq_true, if_false]
    rw [take_snoc8 p m (by omega), hc, leN_snoc, hl, pow256]
  have hb : leN (p.take m) + c.toNat * 2 ^ (8 * m) < 18446744073709551616 := by
    have := leN_lt (p.take m ++ [c])
    rw [leN_snoc, hl, pow256] at this
    have h8 : (p.take m ++ [c]).length ≤ 8 := by simp; omega
    have := Nat.lt_of_lt_of_le this (Nat.pow_le_pow_right (by decide) h8)
    exact this
  rw [h1, hs]
  show bits BinOp.or IntKind.u64 ((getAt p k m false : Nat) : Int) _ = _
  simp only [getAt, Bool.false_eq_true, if_false]
  exact or_add_hi _ _ _ hlt hb
theorem getStep_big (p : List UInt8) (k m : Nat) (c : UInt8) (hp : p.length = k) (hc : p[m]?.getD 0 = c) (hm : m < k) (hk : k ≤ 8) :
    bits BinOp.or IntKind.u64 (getAt p k m true : Int) (IntKind.u64.wrap (IntKind.u64.wrap (c.toNat : Int) * 2 ^ (8 * (k - 1 - m)))) = ((getAt p k (m + 1) true : Nat) : Int) := by
  obtain ⟨h1, h2⟩ := wrap_byte_shift c (k - 1 - m) (by omega)
  have hl : (p.take m).length = m := by simp; omega
  have hlt : c.toNat * 2 ^ (8 * (k - 1 - m)) < 2 ^ (8 * (k - m)) := by
    have e : 8 * (k - m) = 8 + 8 * (k - 1 - m) := by omega
    rw [e, Nat.pow_add]
    exact Nat.mul_lt_mul_of_pos_right c.toNat_lt (Nat.two_pow_pos _)
  have hs : getAt p k (m + 1) true = beN (p.take m) * 2 ^ (8 * (k - m)) + c.toNat * 2 ^ (8 * (k - 1 - m)) := by
    simp only [getAt, if_true]
    rw [take_snoc8 p m (by omega), hc, beN_snoc, pow256, Nat.add_mul, Nat.mul_assoc]
    have e : 8 * (k - m) = 8 + 8 * (k - (m + 1)) := by omega
    have e2 : k - 1 - m = k - (m + 1) := by omega
    rw [e, Nat.pow_add, e2]
  have hb : beN (p.take m) * 2 ^ (8 * (k - m)) + c.toNat * 2 ^ (8 * (k - 1 - m)) < 18446744073709551616 := by
    have h := beN_lt (p.take m)
    rw [hl, pow256] at h
    have h3 : (beN (p.take m) + 1) * 2 ^ (8 * (k - m)) ≤ 2 ^ (8 * m) * 2 ^ (8 * (k - m)) := Nat.mul_le_mul_right _ h
    rw [← Nat.pow_add, show 8 * m + 8 * (k - m) = 8 * k from by omega, Nat.add_mul] at h3
    have := Nat.pow_le_pow_right (show 0 < 2 by decide) (show 8 * k ≤ 64 by omega)
    have e64 : (2 : Nat) ^ 64 = 18446744073709551616 := by decide
    omega
  rw [h1, hs]
  show bits BinOp.or IntKind.u64 ((getAt p k m true : Nat) : Int) _ = _
  simp only [getAt, if_true]
  rw [pow256]
  exact or_add_lo _ _ _ hlt hb
theorem getAt_end (p : List UInt8) (k : Nat) (big : Bool) (hp : p.length = k) : getAt p k k big = if big then beN p else leN p := by
  cases big <;> simp [getAt, ← hp]

/-! ### laying numbers down -/
def byteAt (k : Nat) (big : Bool) (v j : Nat) : UInt8 := UInt8.ofNat (v / 256 ^ (if big then k - 1 - j else j))
def putP (l : List UInt8) (A k : Nat) (big : Bool) (v : Nat) (S : Nat → Bool) : List UInt8 :=
  l.mapIdx fun i c => if A ≤ i ∧ i < A + k ∧ S (i - A) = true then byteAt k big v (i - A) else c
def putL (l : List UInt8) (A k : Nat) (big : Bool) (v : Nat) : List UInt8 := putP l A k big v fun _ => true
theorem putP_length (l : List UInt8) (A k : Nat) (big : Bool) (v : Nat) (S : Nat → Bool) : (putP l A k big v S).length = l.length := by simp [putP]
theorem putL_length (l : List UInt8) (A k : Nat) (big : Bool) (v : Nat) : (putL l A k big v).length = l.length := putP_length ..
theorem putP_congr {l : List UInt8} {A k : Nat} {big : Bool} {v : Nat} {S S' : Nat → Bool} (h : ∀ j, j < k → S j = S' j) : putP l A k big v S = putP l A k big v S' := by
  apply List.ext_getElem (by simp [putP])
  intro i h1 h2
  simp only [putP, List.getElem_mapIdx]
  by_cases hA : A ≤ i ∧ i < A + k
  · rw [h (i - A) (by omega)]
  · rw [if_neg (by omega), if_neg (by omega)]
theorem putP_none (l : List UInt8) (A k : Nat) (big : Bool) (v : Nat) (S : Nat → Bool) (h : ∀ j, j < k → S j = false) : putP l A k big v S = l := by
  apply List.ext_getElem (by simp [putP])
  intro i h1 h2
  simp only [putP, List.getElem_mapIdx]
  rw [if_neg]
  intro ⟨a, b, c⟩
  rw [h _ (by omega)] at c
  cases c
theorem putP_set (l : List UInt8) (A k : Nat) (big : Bool) (v : Nat) (S : Nat → Bool) (j : Nat) (hj : j < k) : (putP l A k big v S).set (A + j) (byteAt k big v j) = putP l A k big v (fun i => S i || i == j) := by
  apply List.ext_getElem (by simp [putP])
  intro i h1 h2
  simp only [putP, List.getElem_set, List.getElem_mapIdx]
  by_cases e : A + j = i
  · subst e
    simp [hj]
  · rw [if_neg e]
    by_cases hA : A ≤ i ∧ i < A + k
    · have : (i - A == j) = false := by rw [beq_eq_false_iff_ne]; omega
      simp only [this, Bool.or_false]
    · rw [if_neg (by omega), if_neg (by omega)]
theorem byte_of (x : Nat) : ((UInt8.ofNat x).toNat : Int) = (x : Int) % 256 := by simp
theorem shr_byte (v j : Nat) : ((v : Int) / 2 ^ (8 * j)) = ((v / 256 ^ j : Nat) : Int) := by
  rw [pow256]; push_cast; rfl
theorem byteAt_little (k v j : Nat) : (v : Int) / 2 ^ (8 * j) % 256 = ((byteAt k false v j).toNat : Int) := by
  rw [shr_byte, byteAt, byte_of]; rfl
theorem byteAt_big (k v j : Nat) : (v : Int) / 2 ^ (8 * (k - 1 - j)) % 256 = ((byteAt k true v j).toNat : Int) := by
  rw [shr_byte, byteAt, byte_of]; rfl

/-! ### what was laid down is read again -/
def encL (k : Nat) (big : Bool) (v : Nat) : List UInt8 := (List.range k).map (byteAt k big v)
theorem encL_length (k : Nat) (big : Bool) (v : Nat) : (encL k big v).length = k := by simp [encL]
theorem piece_putL (l : List UInt8) (A k : Nat) (big : Bool) (v : Nat) (h : A + k ≤ l.length) : piece (putL l A k big v) A k = encL k big v := by
  apply List.ext_getElem
  · rw [piece_length _ _ _ (by rw [putL_length]; exact h), encL_length]
  · intro i h1 h2
    rw [encL_length] at h2
    simp [piece, putL, putP, encL, h2]
theorem leN_range (v : Nat) : ∀ k, leN ((List.range k).map fun j => UInt8.ofNat (v / 256 ^ j)) = v % 256 ^ k
  | 0 => by simp [leN, beN, Nat.mod_one]
  | k + 1 => by
    rw [List.range_succ, List.map_append, List.map_cons, List.map_nil, leN_snoc, leN_range v k]
    simp only [List.length_map, List.length_range]
    rw [Nat.mod_pow_succ]
    have : (UInt8.ofNat (v / 256 ^ k)).toNat = v / 256 ^ k % 256 := by simp
    rw [this, Nat.mul_comm]
theorem encL_little (k v : Nat) : leN (encL k false v) = v % 256 ^ k := leN_range v k
theorem encL_big (k v : Nat) : beN (encL k true v) = v % 256 ^ k := by
  have e : (encL k true v).reverse = encL k false v := by
    apply List.ext_getElem
    · simp [encL]
    · intro i h1 h2
      simp [encL] at h2
      simp [encL, byteAt]
      congr 3
      omega
  rw [← encL_little, ← e]
  simp [leN]
theorem getN_putL (l : List UInt8) (A k : Nat) (big : Bool) (v : Nat) (h : A + k ≤ l.length) (hv : v < 256 ^ k) : getN (putL l A k big v) A k big = v := by
  unfold getN
  rw [piece_putL l A k big v h]
  cases big
  · simp only [Bool.false_eq_true, if_false]; rw [encL_little, Nat.mod_eq_of_lt hv]
  · simp only [if_true]; rw [encL_big, Nat.mod_eq_of_lt hv]
theorem leN_inj : ∀ (p q : List UInt8), p.length = q.length → leN p = leN q → p = q
  | [], [], _, _ => rfl
  | [], _ :: _, h, _ => by simp at h
  | _ :: _, [], h, _ => by simp at h
  | c :: p, d :: q, h, e => by
    rw [leN_cons, leN_cons] at e
    have hc := c.toNat_lt
    have hd := d.toNat_lt
    have e1 : c.toNat = d.toNat := by omega
    have e2 : leN p = leN q := by omega
    rw [UInt8.toNat_inj.mp e1, leN_inj p q (by simpa using h) e2]
theorem getN_lt (l : List UInt8) (A k : Nat) (big : Bool) (h : A + k ≤ l.length) : getN l A k big < 256 ^ k := by
  have hl := piece_length l A k h
  unfold getN
  cases big
  · simp only [Bool.false_eq_true, if_false]; have := leN_lt (piece l A k); rwa [hl] at this
  · simp only [if_true]; have := beN_lt (piece l A k); rwa [hl] at this
theorem encL_getN (l : List UInt8) (A k : Nat) (big : Bool) (h : A + k ≤ l.length) : encL k big (getN l A k big) = piece l A k := by
  have hlt := getN_lt l A k big h
  have hl := piece_length l A k h
  cases big
  · refine leN_inj _ _ (by rw [encL_length, hl]) ?_
    rw [encL_little, Nat.mod_eq_of_lt hlt]; rfl
  · have : (encL k true (getN l A k true)).reverse = (piece l A k).reverse := by
      refine leN_inj _ _ (by simp [encL_length, hl]) ?_
      have e1 := encL_big k (getN l A k true)
      rw [Nat.mod_eq_of_lt hlt] at e1
      simp only [leN, List.reverse_reverse]
      rw [e1]; rfl
    simpa using congrArg List.reverse this
theorem putL_back (l : List UInt8) (A k : Nat) (big : Bool) (v : Nat) (h : A + k ≤ l.length) : putL (putL l A k big v) A k big (getN l A k big) = l := by
  apply List.ext_getElem
  · simp [putL_length]
  · intro i h1 h2
    by_cases hi : A ≤ i ∧ i < A + k
    · have e := encL_getN l A k big h
      have hj : i - A < k := by omega
      have e1 : (encL k big (getN l A k big))[i - A]'(by rw [encL_length]; exact hj) = (piece l A k)[i - A]'(by rw [piece_length _ _ _ h]; exact hj) := by simp [e]
      simp [encL, piece] at e1
      simp only [putL, putP, List.getElem_mapIdx]
      rw [if_pos ⟨hi.1, hi.2, by trivial⟩, e1]
      congr 1
      omega
    · simp only [putL, putP, List.getElem_mapIdx]
      rw [if_neg (by omega), if_neg (by omega)]
theorem putL_other (l : List UInt8) (A k : Nat) (big : Bool) (v i : Nat) (hi : ¬ (A ≤ i ∧ i < A + k)) : (putL l A k big v)[i]?.getD 0 = l[i]?.getD 0 := by
  by_cases hl : i < l.length
  · rw [List.getElem?_eq_getElem (by rw [putL_length]; exact hl), List.getElem?_eq_getElem hl]
    simp only [putL, putP, List.getElem_mapIdx, Option.getD_some]
    rw [if_neg (by omega)]
  · rw [List.getElem?_eq_none (by rw [putL_length]; omega), List.getElem?_eq_none (by omega)]
end Go.Proofs.Ytnmeidmiijcniaa
