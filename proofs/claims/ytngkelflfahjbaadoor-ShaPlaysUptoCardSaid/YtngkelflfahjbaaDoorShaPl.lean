/- SHA-2 states as bytes, plain. No condition. -/
import Derived.Test.YtngkelflfahjbaaDoorShaOp
set_option linter.unusedVariables false
set_option linter.unusedSimpArgs false
namespace Go.Proofs.YtngkelflfahjbaaDoor
open Go.RowKit
theorem beN_inj {p q : List UInt8} (hl : p.length = q.length) (h : beN p = beN q) : p = q := by
  have h2 : leN p.reverse = leN q.reverse := by unfold leN; rw [List.reverse_reverse, List.reverse_reverse]; exact h
  have := leN_inj p.reverse q.reverse (by rw [List.length_reverse, List.length_reverse]; exact hl) h2
  exact List.reverse_inj.1 this
theorem encL_beN {l : List UInt8} {k : Nat} (hl : l.length = k) : encL k true (beN l) = l := by
  apply beN_inj (by rw [encL_length, hl])
  rw [encL_big, Nat.mod_eq_of_lt]
  have := beN_lt l
  rw [hl] at this
  exact this
theorem piece_app (l : List UInt8) (a n m : Nat) : piece l a n ++ piece l (a + n) m = piece l a (n + m) := by
  unfold piece
  rw [List.take_add, ← List.drop_drop]
theorem piece_len {l : List UInt8} {a n : Nat} (h : a + n ≤ l.length) : (piece l a n).length = n := by unfold piece; rw [List.length_take, List.length_drop]; omega
theorem words_stOf {k : Nat} (hk : 1 ≤ k ∧ k ≤ 3) (l : List UInt8) (h : 9 + wK k ≤ l.length) : wordsL (wK k) (s8l (stOf (wK k) l)) = piece l 9 (wK k) := by
  rcases size_kind hk with ⟨-, hw, -⟩ | ⟨-, hw, -⟩
  · rw [hw] at h ⊢
    have e : ∀ a, a + 4 ≤ l.length → encL 4 true (beN (piece l a 4)) = piece l a 4 := fun a ha => encL_beN (piece_len ha)
    show (encL 4 true (beN (piece l 9 4)) ++ (encL 4 true (beN (piece l 13 4)) ++ (encL 4 true (beN (piece l 17 4)) ++ (encL 4 true (beN (piece l 21 4)) ++ (encL 4 true (beN (piece l 25 4)) ++ (encL 4 true (beN (piece l 29 4)) ++ (encL 4 true (beN (piece l 33 4)) ++ (encL 4 true (beN (piece l 37 4)) ++ [])))))))) = _
    rw [e 9 (by omega), e 13 (by omega), e 17 (by omega), e 21 (by omega), e 25 (by omega), e 29 (by omega), e 33 (by omega), e 37 (by omega), List.append_nil]
    rw [piece_app l 33 4 4, piece_app l 29 4 (4 + 4), piece_app l 25 4, piece_app l 21 4, piece_app l 17 4, piece_app l 13 4, piece_app l 9 4]
  · rw [hw] at h ⊢
    have e : ∀ a, a + 8 ≤ l.length → encL 8 true (beN (piece l a 8)) = piece l a 8 := fun a ha => encL_beN (piece_len ha)
    show (encL 8 true (beN (piece l 9 8)) ++ (encL 8 true (beN (piece l 17 8)) ++ (encL 8 true (beN (piece l 25 8)) ++ (encL 8 true (beN (piece l 33 8)) ++ (encL 8 true (beN (piece l 41 8)) ++ (encL 8 true (beN (piece l 49 8)) ++ (encL 8 true (beN (piece l 57 8)) ++ (encL 8 true (beN (piece l 65 8)) ++ [])))))))) = _
    rw [e 9 (by omega), e 17 (by omega), e 25 (by omega), e 33 (by omega), e 41 (by omega), e 49 (by omega), e 57 (by omega), e 65 (by omega), List.append_nil]
    rw [piece_app l 57 8 8, piece_app l 49 8 (8 + 8), piece_app l 41 8, piece_app l 33 8, piece_app l 25 8, piece_app l 17 8, piece_app l 9 8]
/-- a state that was opened is told as the same bytes -/
theorem stateL_stOf {k n : Nat} (hk : 1 ≤ k ∧ k ≤ 3) (l : List UInt8) (hk0 : (l[0]?.getD 0).toNat = k) (hn : beN (piece l 1 8) = n) (h : 9 + wK k ≤ l.length) : stateL k (stOf (wK k) l) n (l.drop (9 + wK k)) = l := by
  unfold stateL
  rw [words_stOf hk l h, ← hn, encL_beN (piece_len (by omega))]
  have e0 : [UInt8.ofNat k] = piece l 0 1 := by
    cases l with
    | nil => simp at h
    | cons c l =>
      have : c.toNat = k := hk0
      rw [← this]
      unfold piece
      simp
  rw [e0, piece_app l 0 1 8, piece_app l 0 (1 + 8) (wK k)]
  unfold piece
  rw [List.drop_zero, show 1 + 8 + wK k = 9 + wK k by omega, List.take_append_drop]
/-- and the other way round -/
theorem stateL_len {k : Nat} (hk : 1 ≤ k ∧ k ≤ 3) (st : S8) (n : Nat) (rest : List UInt8) : (stateL k st n rest).length = 9 + wK k + rest.length := by
  unfold stateL
  rw [List.length_append, List.length_append, List.length_append, encL_length, wordsL_len, s8l_len]
  rcases size_kind hk with ⟨-, hw, -⟩ | ⟨-, hw, -⟩ <;> rw [hw] <;> simp
theorem stateL_k {k : Nat} (hk : 1 ≤ k ∧ k ≤ 3) (st : S8) (n : Nat) (rest : List UInt8) : ((stateL k st n rest)[0]?.getD 0).toNat = k := by
  unfold stateL
  rcases (by omega : k = 1 ∨ k = 2 ∨ k = 3) with rfl | rfl | rfl <;> rfl
theorem piece_mid {p m q : List UInt8} {a n : Nat} (hp : p.length = a) (hm : m.length = n) : piece (p ++ m ++ q) a n = m := by
  unfold piece
  rw [List.append_assoc, ← hp, List.drop_left, ← hm, List.take_left]
theorem stateL_n (k : Nat) (st : S8) (n : Nat) (rest : List UInt8) (hn : n < 18446744073709551616) : beN (piece (stateL k st n rest) 1 8) = n := by
  unfold stateL
  rw [List.append_assoc, piece_mid (by rfl) (encL_length _ _ _), encL_big, Nat.mod_eq_of_lt hn]
theorem stateL_rest {k : Nat} (hk : 1 ≤ k ∧ k ≤ 3) (st : S8) (n : Nat) (rest : List UInt8) : (stateL k st n rest).drop (9 + wK k) = rest := by
  unfold stateL
  have e : ([UInt8.ofNat k] ++ encL 8 true n ++ wordsL (wK k) (s8l st)).length = 9 + wK k := by
    have := stateL_len hk st n []
    unfold stateL at this
    rw [List.append_nil] at this
    simpa using this
  rw [← e, List.drop_left]
theorem stateL_st {k : Nat} (hk : 1 ≤ k ∧ k ≤ 3) (st : S8) (n : Nat) (rest : List UInt8) (hs : st.Lt (2 ^ wK k)) : stOf (wK k) (stateL k st n rest) = st := by
  obtain ⟨a, b, c, d, e, f, g, h⟩ := st
  have key : ∀ (p q : List UInt8) (x i : Nat), stateL k ⟨a, b, c, d, e, f, g, h⟩ n rest = p ++ encL (wK k / 8) true x ++ q → p.length = 9 + i * (wK k / 8) → x < 2 ^ wK k → beN (piece (stateL k ⟨a, b, c, d, e, f, g, h⟩ n rest) (9 + i * (wK k / 8)) (wK k / 8)) = x := by
    intro p q x i hl hp hx
    rw [hl, piece_mid hp (encL_length _ _ _), encL_big, Nat.mod_eq_of_lt]
    have h3 : (256 : Nat) ^ (wK k / 8) = 2 ^ wK k := by
      rcases size_kind hk with ⟨-, hw, -⟩ | ⟨-, hw, -⟩ <;> rw [hw]
    rw [h3]
    exact hx
  have hh : ∀ (s : Nat), (encL (wK k / 8) true s).length = wK k / 8 := fun s => encL_length _ _ _
  have hw : ∀ (l : List Nat), wordsL (wK k) l = l.flatMap (encL (wK k / 8) true) := fun l => rfl
  unfold stOf mk8
  have h0 := key ([UInt8.ofNat k] ++ encL 8 true n) (encL (wK k / 8) true b ++ encL (wK k / 8) true c ++ encL (wK k / 8) true d ++ encL (wK k / 8) true e ++ encL (wK k / 8) true f ++ encL (wK k / 8) true g ++ encL (wK k / 8) true h ++ rest) a 0 (by unfold stateL s8l; rw [hw]; simp) (by simp [encL_length]) hs.a
  have h1 := key ([UInt8.ofNat k] ++ encL 8 true n ++ encL (wK k / 8) true a) (encL (wK k / 8) true c ++ encL (wK k / 8) true d ++ encL (wK k / 8) true e ++ encL (wK k / 8) true f ++ encL (wK k / 8) true g ++ encL (wK k / 8) true h ++ rest) b 1 (by unfold stateL s8l; rw [hw]; simp) (by simp [encL_length]; omega) hs.b
  have h2 := key ([UInt8.ofNat k] ++ encL 8 true n ++ encL (wK k / 8) true a ++ encL (wK k / 8) true b) (encL (wK k / 8) true d ++ encL (wK k / 8) true e ++ encL (wK k / 8) true f ++ encL (wK k / 8) true g ++ encL (wK k / 8) true h ++ rest) c 2 (by unfold stateL s8l; rw [hw]; simp) (by simp [encL_length]; omega) hs.c
  have h3 := key ([UInt8.ofNat k] ++ encL 8 true n ++ encL (wK k / 8) true a ++ encL (wK k / 8) true b ++ encL (wK k / 8) true c) (encL (wK k / 8) true e ++ encL (wK k / 8) true f ++ encL (wK k / 8) true g ++ encL (wK k / 8) true h ++ rest) d 3 (by unfold stateL s8l; rw [hw]; simp) (by simp [encL_length]; omega) hs.d
  have h4 := key ([UInt8.ofNat k] ++ encL 8 true n ++ encL (wK k / 8) true a ++ encL (wK k / 8) true b ++ encL (wK k / 8) true c ++ encL (wK k / 8) true d) (encL (wK k / 8) true f ++ encL (wK k / 8) true g ++ encL (wK k / 8) true h ++ rest) e 4 (by unfold stateL s8l; rw [hw]; simp) (by simp [encL_length]; omega) hs.e
  have h5 := key ([UInt8.ofNat k] ++ encL 8 true n ++ encL (wK k / 8) true a ++ encL (wK k / 8) true b ++ encL (wK k / 8) true c ++ encL (wK k / 8) true d ++ encL (wK k / 8) true e) (encL (wK k / 8) true g ++ encL (wK k / 8) true h ++ rest) f 5 (by unfold stateL s8l; rw [hw]; simp) (by simp [encL_length]; omega) hs.f
  have h6 := key ([UInt8.ofNat k] ++ encL 8 true n ++ encL (wK k / 8) true a ++ encL (wK k / 8) true b ++ encL (wK k / 8) true c ++ encL (wK k / 8) true d ++ encL (wK k / 8) true e ++ encL (wK k / 8) true f) (encL (wK k / 8) true h ++ rest) g 6 (by unfold stateL s8l; rw [hw]; simp) (by simp [encL_length]; omega) hs.g
  have h7 := key ([UInt8.ofNat k] ++ encL 8 true n ++ encL (wK k / 8) true a ++ encL (wK k / 8) true b ++ encL (wK k / 8) true c ++ encL (wK k / 8) true d ++ encL (wK k / 8) true e ++ encL (wK k / 8) true f ++ encL (wK k / 8) true g) rest h 7 (by unfold stateL s8l; rw [hw]; simp) (by simp [encL_length]; omega) hs.h
  show S8.mk _ _ _ _ _ _ _ _ = S8.mk _ _ _ _ _ _ _ _
  congr 1
end Go.Proofs.YtngkelflfahjbaaDoor
