/- The update's metadata and their block: plain laws, no program in sight. -/
import Derived.Test.YtnmeidmiijcniaaNum
import Derived.Test.YtnmeidmiijcniaaCrcMath
set_option linter.unusedVariables false
set_option linter.unusedSimpArgs false
namespace Go.Proofs.Ytnmeidmiijcniaa
open Go.RowKit
structure Me where
  seq : Nat
  b0 : Int
  b1 : Int
  act : Int
  tries : Int
deriving DecidableEq
instance : Inhabited Me := ⟨⟨0, 0, 0, 0, 0⟩⟩
def Me.bank (m : Me) (i : Int) : Int := if i = 0 then m.b0 else m.b1
def rightM (m : Me) : Bool :=
  decide ((m.act = 0 ∨ m.act = 1) ∧ 0 ≤ m.tries ∧ m.tries ≤ 3) && decide ((0 ≤ m.b0 ∧ m.b0 ≤ 3) ∧ 0 ≤ m.b1 ∧ m.b1 ≤ 3) &&
    decide (m.bank (1 - m.act) ≠ 2 ∧ m.bank m.act ≠ 1 ∧ (m.bank m.act = 2 ∨ m.tries = 0))
structure Right (m : Me) : Prop where
  a : m.act = 0 ∨ m.act = 1
  t : 0 ≤ m.tries ∧ m.tries ≤ 3
  p : 0 ≤ m.b0 ∧ m.b0 ≤ 3
  q : 0 ≤ m.b1 ∧ m.b1 ≤ 3
  o : m.bank (1 - m.act) ≠ 2
  n : m.bank m.act ≠ 1
  k : m.bank m.act = 2 ∨ m.tries = 0
theorem right_iff {m : Me} : rightM m = true ↔ Right m := by
  unfold rightM
  simp only [Bool.and_eq_true, decide_eq_true_eq]
  constructor
  · rintro ⟨⟨⟨h1, h2, h3⟩, h4, h5⟩, h6, h7, h8⟩
    exact ⟨h1, ⟨h2, h3⟩, h4, h5, h6, h7, h8⟩
  · rintro ⟨h1, ⟨h2, h3⟩, h4, h5, h6, h7, h8⟩
    exact ⟨⟨⟨h1, h2, h3⟩, h4, h5⟩, h6, h7, h8⟩
def oct (i : Int) : UInt8 := UInt8.ofNat i.toNat
def magic : List UInt8 := [70, 87, 85, 49]
def head12 (m : Me) : List UInt8 := magic ++ encL 4 false m.seq ++ [oct m.b0, oct m.b1, oct m.act, oct m.tries]
def body (m : Me) : List UInt8 := head12 m ++ List.replicate 496 0
def encM (m : Me) : List UInt8 := body m ++ encL 4 false (crc 0#32 (body m)).toNat
theorem head12_len (m : Me) : (head12 m).length = 12 := by unfold head12 magic; simp [encL_length]
theorem body_len (m : Me) : (body m).length = 508 := by unfold body; rw [List.length_append, head12_len, List.length_replicate]
theorem encM_len (m : Me) : (encM m).length = 512 := by unfold encM; rw [List.length_append, body_len, encL_length]
theorem encM_take (m : Me) : (encM m).take 508 = body m := by unfold encM; rw [List.take_left' (body_len m)]
theorem encM_drop (m : Me) : (encM m).drop 508 = encL 4 false (crc 0#32 (body m)).toNat := by unfold encM; rw [List.drop_left' (body_len m)]
theorem putL_tail (a r : List UInt8) (k v : Nat) (hr : r.length = k) : putL (a ++ r) a.length k false v = a ++ encL k false v := by
  apply List.ext_getElem
  · rw [putL_length, List.length_append, List.length_append, encL_length, hr]
  intro i h1 h2
  simp only [putL, putP, List.getElem_mapIdx]
  by_cases hi : i < a.length
  · rw [if_neg (by omega), List.getElem_append_left hi, List.getElem_append_left hi]
  · have h3 : i < a.length + k := by rw [putL_length, List.length_append, hr] at h1; exact h1
    rw [if_pos ⟨by omega, h3, trivial⟩, List.getElem_append_right (by omega)]
    unfold encL
    rw [List.getElem_map, List.getElem_range]
/-- twelve bytes and noughts, its sum laid down last -/
theorem enc_put (m : Me) : putL (head12 m ++ List.replicate 500 0) 508 4 false (crc 0#32 ((head12 m ++ List.replicate 500 0).take 508)).toNat = encM m := by
  have e : head12 m ++ List.replicate 500 (0 : UInt8) = body m ++ List.replicate 4 0 := by
    unfold body
    rw [List.append_assoc, List.replicate_append_replicate]
  rw [e, List.take_left' (body_len m)]
  have := putL_tail (body m) (List.replicate 4 0) 4 (crc 0#32 (body m)).toNat (List.length_replicate ..)
  rw [body_len] at this
  exact this
def rdM (b : List UInt8) : Me := ⟨getN b 4 4 false, (b[8]?.getD 0).toNat, (b[9]?.getD 0).toNat, (b[10]?.getD 0).toNat, (b[11]?.getD 0).toNat⟩
def decM (b : List UInt8) : Option Me := if b.length = 512 ∧ rightM (rdM b) = true ∧ encM (rdM b) = b then some (rdM b) else none
theorem oct_nat (c : UInt8) : oct (c.toNat : Int) = c := by unfold oct; rw [Int.toNat_natCast]; exact UInt8.ofNat_toNat
theorem nat_oct {i : Int} (h0 : 0 ≤ i) (h1 : i < 256) : ((oct i).toNat : Int) = i := by
  unfold oct
  rw [UInt8.toNat_ofNat']
  omega
theorem list4 {l : List UInt8} (h : l.length = 4) : l = [l[0]?.getD 0, l[1]?.getD 0, l[2]?.getD 0, l[3]?.getD 0] := by
  match l, h with
  | [a, b, c, d], _ => rfl
theorem split12 (b : List UInt8) (h : b.length = 512) : b.take 12 = b.take 4 ++ piece b 4 4 ++ [b[8]?.getD 0, b[9]?.getD 0, b[10]?.getD 0, b[11]?.getD 0] := by
  have e1 : b.take 12 = b.take 4 ++ (b.drop 4).take 8 := by rw [← List.take_add]
  have e2 : (b.drop 4).take 8 = (b.drop 4).take 4 ++ ((b.drop 4).drop 4).take 4 := by rw [← List.take_add]
  have e3 := list4 (l := ((b.drop 4).drop 4).take 4) (by rw [List.length_take, List.length_drop, List.length_drop]; omega)
  rw [e1, e2, ← List.append_assoc]
  congr 1
  rw [e3, List.drop_drop]
  simp only [List.getElem?_take, List.getElem?_drop]
  rfl
theorem head_rd (b : List UInt8) (h : b.length = 512) (hm : b.take 4 = magic) : head12 (rdM b) = b.take 12 := by
  unfold head12 rdM
  rw [split12 b h, hm]
  simp only [oct_nat]
  rw [encL_getN b 4 4 false (by omega)]
/-- the block is metadata's: as the program looks at it -/
theorem enc_iff (b : List UInt8) (h : b.length = 512) : encM (rdM b) = b ↔ (b.take 4 = magic ∧ getN b 508 4 false = (crc 0#32 (b.take 508)).toNat ∧ (b.drop 12).take 496 = List.replicate 496 0) := by
  constructor
  · intro he
    have hb : b.take 508 = body (rdM b) := by rw [← encM_take, he]
    have h4 : b.take 4 = magic := by
      have : b.take 4 = (b.take 508).take 4 := by rw [List.take_take]; rfl
      rw [this, hb]
      unfold body head12
      rw [List.append_assoc, List.append_assoc, List.take_left' (show magic.length = 4 from rfl)]
    refine ⟨h4, ?_, ?_⟩
    · have hd : piece b 508 4 = encL 4 false (crc 0#32 (b.take 508)).toNat := by
        unfold piece
        rw [hb]
        have : (b.drop 508).take 4 = b.drop 508 := List.take_of_length_le (by rw [List.length_drop]; omega)
        rw [this, ← encM_drop, he]
      unfold getN
      rw [hd]
      simp only [Bool.false_eq_true, if_false]
      rw [encL_little, Nat.mod_eq_of_lt]
      have := (crc 0#32 (b.take 508)).isLt
      simpa using this
    · have : (b.drop 12).take 496 = (b.take 508).drop 12 := by rw [List.drop_take]
      rw [this, hb]
      unfold body
      rw [List.drop_left' (head12_len _)]
  · rintro ⟨hm, hc, hz⟩
    have hh := head_rd b h hm
    have hb : body (rdM b) = b.take 508 := by
      unfold body
      rw [hh, ← hz, ← List.take_add]
    unfold encM
    rw [hb, ← hc, encL_getN b 508 4 false (by omega)]
    unfold piece
    rw [List.take_of_length_le (l := b.drop 508) (by rw [List.length_drop]; omega), List.take_append_drop]
theorem rd_enc {m : Me} (h : rightM m = true) (hs : m.seq < 4294967296) : rdM (encM m) = m := by
  have hr := right_iff.1 h
  have hseq : getN (encM m) 4 4 false = m.seq := by
    have hp : piece (encM m) 4 4 = encL 4 false m.seq := by
      unfold piece encM body head12
      simp only [List.append_assoc]
      rw [List.drop_left' (show magic.length = 4 from rfl), List.take_left' (encL_length ..)]
    unfold getN
    rw [hp]
    simp only [Bool.false_eq_true, if_false]
    rw [encL_little, Nat.mod_eq_of_lt hs]
  have hat : ∀ j, j < 4 → (encM m)[8 + j]? = [oct m.b0, oct m.b1, oct m.act, oct m.tries][j]? := fun j hj => by
    unfold encM body head12
    simp only [List.append_assoc]
    rw [List.getElem?_append_right (by unfold magic; simp; omega), List.getElem?_append_right (by rw [encL_length]; unfold magic; simp; omega), List.getElem?_append_left (by rw [encL_length]; unfold magic; simp; omega)]
    rw [encL_length]
    congr 1
    unfold magic; simp; omega
  unfold rdM
  rw [hseq, show (encM m)[8]? = _ from hat 0 (by decide), show (encM m)[9]? = _ from hat 1 (by decide), show (encM m)[10]? = _ from hat 2 (by decide), show (encM m)[11]? = _ from hat 3 (by decide)]
  have ha := hr.a
  obtain ⟨seq, b0, b1, act, tries⟩ := m
  have h1 := hr.p
  have h2 := hr.q
  have h3 := hr.t
  dsimp only at *
  simp only [List.getElem?_cons_zero, List.getElem?_cons_succ, Option.getD_some]
  rw [nat_oct h1.1 (by omega), nat_oct h2.1 (by omega), nat_oct (by omega) (by omega), nat_oct h3.1 (by omega)]
theorem dec_enc {m : Me} (h : rightM m = true) (hs : m.seq < 4294967296) : decM (encM m) = some m := by
  unfold decM
  rw [rd_enc h hs, if_pos ⟨encM_len m, h, rfl⟩]
theorem dec_some {b : List UInt8} {m : Me} (h : decM b = some m) : b.length = 512 ∧ rightM m = true ∧ encM m = b ∧ rdM b = m ∧ m.seq < 4294967296 := by
  unfold decM at h
  split at h
  · rename_i hc
    cases h
    refine ⟨hc.1, hc.2.1, hc.2.2, rfl, ?_⟩
    unfold rdM
    have := getN_lt b 4 4 false (by omega)
    exact this
  · cases h
/-- one byte of it changed: it is none -/
theorem dec_set {m : Me} (h : rightM m = true) (j : Nat) (c : UInt8) (hj : j < 512) (hc : c ≠ (encM m)[j]?.getD 0) : decM ((encM m).set j c) = none := by
  cases hd : decM ((encM m).set j c) with
  | none => rfl
  | some n =>
    exfalso
    obtain ⟨-, -, he, -, -⟩ := dec_some hd
    have h1 : body n = ((encM m).take 508).set j c := by rw [← encM_take, he, List.take_set]
    have h2 : encL 4 false (crc 0#32 (body n)).toNat = ((encM m).set j c).drop 508 := by rw [← encM_drop, he]
    by_cases hj2 : j < 508
    · rw [List.drop_set_of_lt hj2, encM_drop] at h2
      have h3 := congrArg leN h2
      rw [encL_little, encL_little, Nat.mod_eq_of_lt (by have := (crc 0#32 (body n)).isLt; simpa using this), Nat.mod_eq_of_lt (by have := (crc 0#32 (body m)).isLt; simpa using this)] at h3
      have h4 := BitVec.eq_of_toNat_eq h3
      rw [encM_take] at h1
      rw [h1] at h4
      refine crc_set (body m) 0#32 j c (by rw [body_len]; exact hj2) (fun e => hc ?_) h4
      rw [e]
      unfold encM
      rw [List.getElem?_append_left (by rw [body_len]; exact hj2)]
    · rw [encM_take, List.set_eq_of_length_le (by rw [body_len]; omega)] at h1
      have h3 : encM n = encM m := by unfold encM; rw [h1]
      rw [h3] at he
      have h4 : ((encM m).set j c)[j]? = (encM m)[j]? := by rw [← he]
      rw [List.getElem?_set_self (by rw [encM_len]; exact hj)] at h4
      exact hc (by rw [← h4]; rfl)
end Go.Proofs.Ytnmeidmiijcniaa
