/- A CRC-32 is that of its parts, and one changed byte changes it: plain laws. No condition. -/
import Derived.Test.YtnmeidmiijcniaaU
set_option linter.unusedVariables false
set_option linter.unusedSimpArgs false
namespace Go.Proofs.Ytnmeidmiijcniaa
open Go.RowKit
theorem crc_parts (a b : List UInt8) : crc (crc 0#32 a) b = crc 0#32 (a ++ b) := by
  unfold crc crcRun
  rw [List.foldl_append, BitVec.not_not]
theorem crcBit_top (r : BitVec 32) : (crcBit r).getLsbD 31 = r.getLsbD 0 := by
  by_cases h : r.toNat % 2 = 1
  · rw [crcBit_odd r h]
    have : r.getLsbD 0 = true := by simp [BitVec.getLsbD, h]
    rw [this]
    simp
  · rw [crcBit_even r h]
    have : r.getLsbD 0 = false := by
      have : r.toNat % 2 = 0 := by omega
      simp [BitVec.getLsbD, Nat.testBit, this]
    rw [this]
    simp
theorem bv_halves {r s : BitVec 32} (h0 : r.getLsbD 0 = s.getLsbD 0) (h1 : r >>> 1 = s >>> 1) : r = s := by
  apply BitVec.eq_of_getLsbD_eq
  intro i hi
  cases i with
  | zero => exact h0
  | succ i =>
    have := congrArg (fun x => BitVec.getLsbD x i) h1
    simpa [BitVec.getLsbD_ushiftRight, Nat.add_comm] using this
theorem crcBit_inj {r s : BitVec 32} (h : crcBit r = crcBit s) : r = s := by
  have h0 : r.getLsbD 0 = s.getLsbD 0 := by rw [← crcBit_top r, ← crcBit_top s, h]
  refine bv_halves h0 ?_
  have hp : (r &&& 1#32) = (s &&& 1#32) := by
    rw [and_one, and_one]
    have e : (r.toNat % 2 = 1) ↔ (s.toNat % 2 = 1) := by
      have a : r.getLsbD 0 = decide (r.toNat % 2 = 1) := by simp [BitVec.getLsbD, Nat.testBit]; rfl
      have b : s.getLsbD 0 = decide (s.toNat % 2 = 1) := by simp [BitVec.getLsbD, Nat.testBit]; rfl
      rw [a, b] at h0
      simpa using h0
    by_cases k : r.toNat % 2 = 1
    · rw [if_pos k, if_pos (e.1 k)]
    · rw [if_neg k, if_neg (fun j => k (e.2 j))]
  unfold crcBit at h
  rw [hp] at h
  have := congrArg (fun x => x ^^^ (0xEDB88320#32 &&& (- (s &&& 1#32)))) h
  simpa [BitVec.xor_assoc] using this
theorem repeat_inj {α : Type} (f : α → α) (hf : ∀ {a b}, f a = f b → a = b) (n : Nat) : ∀ {a b}, Nat.repeat f n a = Nat.repeat f n b → a = b := by
  induction n with
  | zero => intro a b h; exact h
  | succ n ih => intro a b h; exact ih (hf h)
theorem crcByte_inj {r s : BitVec 32} {c : UInt8} (h : crcByte r c = crcByte s c) : r = s := by
  have := repeat_inj crcBit crcBit_inj 8 h
  have := congrArg (fun x => x ^^^ (c.toBitVec.setWidth 32)) this
  simpa [BitVec.xor_assoc] using this
theorem crcByte_inj' {r : BitVec 32} {c d : UInt8} (h : crcByte r c = crcByte r d) : c = d := by
  have := repeat_inj crcBit crcBit_inj 8 h
  have := congrArg (fun x => r ^^^ x) this
  have e : c.toBitVec.setWidth 32 = d.toBitVec.setWidth 32 := by simpa [← BitVec.xor_assoc] using this
  have e2 := congrArg BitVec.toNat e
  simp at e2
  have h1 := c.toNat_lt
  have h2 := d.toNat_lt
  apply UInt8.toNat_inj.mp
  omega
theorem crcRun_inj (l : List UInt8) : ∀ {r s : BitVec 32}, crcRun r l = crcRun s l → r = s := by
  induction l with
  | nil => intro r s h; exact h
  | cons c l ih => intro r s h; exact crcByte_inj (ih h)
theorem crcRun_set (l : List UInt8) : ∀ (r : BitVec 32) (j : Nat) (c : UInt8), j < l.length → c ≠ l[j]?.getD 0 → crcRun r (l.set j c) ≠ crcRun r l := by
  induction l with
  | nil => intro r j c h; simp at h
  | cons d l ih =>
    intro r j c h hc he
    cases j with
    | zero =>
      simp only [List.set_cons_zero] at he
      have := crcByte_inj' (crcRun_inj l (show crcRun (crcByte r c) l = crcRun (crcByte r d) l from he))
      simp at hc
      exact hc this
    | succ j =>
      simp only [List.set_cons_succ] at he
      refine ih (crcByte r d) j c (by simpa using h) (by simpa using hc) he
theorem crc_set (l : List UInt8) (s : BitVec 32) (j : Nat) (c : UInt8) (h : j < l.length) (hc : c ≠ l[j]?.getD 0) : crc s (l.set j c) ≠ crc s l := by
  intro he
  refine crcRun_set l (~~~ s) j c h hc ?_
  unfold crc at he
  have := congrArg (fun x => ~~~ x) he
  simpa using this
theorem u8_xor (a b : UInt8) : bits BinOp.xor IntKind.u8 a.toNat b.toNat = ((a ^^^ b).toNat : Int) := by
  rw [u8_xor_nat _ _ a.toNat_lt b.toNat_lt, UInt8.toNat_xor]
theorem xor_ne (c b : UInt8) (h : b ≠ 0) : c ^^^ b ≠ c := by
  intro he
  apply h
  have := congrArg (fun x => c ^^^ x) he
  simpa [← UInt8.xor_assoc] using this
end Go.Proofs.Ytnmeidmiijcniaa
