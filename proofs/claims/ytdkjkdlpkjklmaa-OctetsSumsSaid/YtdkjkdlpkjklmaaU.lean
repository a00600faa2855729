/- Words and small laws of this session's own that all texts of the seat use: what it means that a slice of bytes reads as a list; numbers of 32 bits as BitVec. No condition. -/
import Derived.WalkKit
import Derived.WalkSpells
import Derived.WalkLawsBesides
import Derived.Laws.BitsAllLaws
import Derived.Lib.Hide
import Derived.Lib.SlBytesConst
namespace Go.Proofs.Ytdkjkdlpkjklmaa
open Go.RowKit

/-- a slice's address, and the bytes that are read there -/
def Rd (w : World) (ao : Option Addr) (l : List UInt8) : Prop := ∀ j, j < l.length → ∃ b off, ao = some ⟨b, off, none⟩ ∧ w.cell? ⟨b, off + j, none⟩ = some (.int .u8 ((l[j]?.getD 0).toNat))

theorem Rd.below {w w' : World} {ao : Option Addr} {l : List UInt8} (h : Rd w ao l) (hb : Below w.heap.size w w') : Rd w' ao l := fun j hj =>
  let ⟨b, off, e, hc⟩ := h j hj; ⟨b, off, e, cell_later hb hc⟩
/-- a byte as a value -/
def bv (c : UInt8) : Value := .int .u8 c.toNat
theorem Rd.new (w : World) (l : List UInt8) (e : TypeId) (m : Nat × Nat) : Rd (w.alloc (.cells (l.map bv).toArray e m)) (some ⟨w.heap.size, 0, none⟩) l := fun j hj =>
  ⟨w.heap.size, 0, rfl, by
    rw [World.cell?_alloc_mark]
    simp [bv, hj]⟩
theorem Rd.nil (w : World) (ao : Option Addr) : Rd w ao [] := fun j hj => absurd hj (by simp)

theorem u32_xor_bv (a b : BitVec 32) : bits BinOp.xor IntKind.u32 a.toNat b.toNat = ((a ^^^ b).toNat : Int) := by
  rw [u32_xor_nat _ _ a.isLt b.isLt, BitVec.toNat_xor]
theorem u32_and_bv (a b : BitVec 32) : bits BinOp.and IntKind.u32 a.toNat b.toNat = ((a &&& b).toNat : Int) := by
  rw [u32_and_nat _ _ a.isLt b.isLt, BitVec.toNat_and]
theorem u32_not_bv (a : BitVec 32) : bits BinOp.xor IntKind.u32 IntKind.u32.max a.toNat = ((~~~ a).toNat : Int) := by
  have h : IntKind.u32.max = (((BitVec.allOnes 32).toNat : Nat) : Int) := by decide +kernel
  rw [h, u32_xor_bv]
  congr 2
theorem bv_shr1 (r : BitVec 32) : (r.toNat : Int) / (2 : Int) = ((r >>> 1).toNat : Int) := by
  rw [BitVec.toNat_ushiftRight, Nat.shiftRight_eq_div_pow]; rfl
theorem u32_neg_bv (a : BitVec 32) : (-(a.toNat : Int)) % 4294967296 = ((-a).toNat : Int) := by
  rw [BitVec.toNat_neg]; have := a.isLt; omega
theorem byte_32 (c : UInt8) : (c.toNat : Int) % 4294967296 = ((c.toBitVec.setWidth 32).toNat : Int) := by
  have := c.toNat_lt; simp; omega
theorem repeat_succ {α : Type} (f : α → α) (n : Nat) (a : α) : Nat.repeat f (n + 1) a = f (Nat.repeat f n a) := rfl
theorem and_one (r : BitVec 32) : r &&& 1#32 = if r.toNat % 2 = 1 then 1#32 else 0#32 := by
  apply BitVec.eq_of_toNat_eq
  rw [BitVec.toNat_and]
  show r.toNat &&& 1 = _
  rw [Nat.and_one_is_mod]
  split <;> rename_i h
  · rw [h]; rfl
  · have : r.toNat % 2 = 0 := by omega
    rw [this]; rfl

/-- CRC-32, bit by bit -/
def crcBit (r : BitVec 32) : BitVec 32 := (r >>> 1) ^^^ (0xEDB88320#32 &&& (- (r &&& 1#32)))
def crcByte (r : BitVec 32) (c : UInt8) : BitVec 32 := Nat.repeat crcBit 8 (r ^^^ (c.toBitVec.setWidth 32))
def crcRun (r : BitVec 32) (l : List UInt8) : BitVec 32 := l.foldl crcByte r
def crc (s : BitVec 32) (l : List UInt8) : BitVec 32 := ~~~ (crcRun (~~~ s) l)
theorem crcRun_snoc (r : BitVec 32) (zs : List UInt8) (k : Nat) (h : k < zs.length) : crcRun r (zs.take (k + 1)) = crcByte (crcRun r (zs.take k)) (zs[k]?.getD 0) := by
  unfold crcRun
  rw [List.take_add_one, List.foldl_append]
  simp [List.getElem?_eq_getElem h]
theorem crcBit_int (r : BitVec 32) : bits BinOp.xor IntKind.u32 ((r.toNat : Int) / 2) (bits BinOp.and IntKind.u32 3988292384 ((-(bits BinOp.and IntKind.u32 (r.toNat : Int) 1)) % 4294967296)) = ((crcBit r).toNat : Int) := by
  have h1 : (1 : Int) = ((1#32).toNat : Int) := rfl
  have h2 : (3988292384 : Int) = ((0xEDB88320#32).toNat : Int) := rfl
  have h0 := bv_shr1 r
  rw [h0, h1, h2, u32_and_bv, u32_neg_bv, u32_and_bv, u32_xor_bv]
  rfl
theorem crcBit_odd (r : BitVec 32) (h : r.toNat % 2 = 1) : crcBit r = (r >>> 1) ^^^ 0xEDB88320#32 := by
  unfold crcBit; rw [and_one, if_pos h]; rfl
theorem crcBit_even (r : BitVec 32) (h : ¬ r.toNat % 2 = 1) : crcBit r = (r >>> 1) := by
  unfold crcBit; rw [and_one, if_neg h]; simp
end Go.Proofs.Ytdkjkdlpkjklmaa
