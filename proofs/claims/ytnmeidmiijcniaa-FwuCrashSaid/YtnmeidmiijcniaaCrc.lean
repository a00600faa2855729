/- CRC-32: what the program's function and the document's function answer, by their contracts. No condition. -/
import Derived.Test.YtnmeidmiijcniaaProg
import Derived.Test.YtnmeidmiijcniaaU
set_option linter.unusedVariables false
set_option linter.unusedSimpArgs false
namespace Go.Proofs.Ytnmeidmiijcniaa
open Go.RowKit
structure CrcOut (s : BitVec 32) (zs : List UInt8) (len : Nat) (r i : Value) : Prop where
  x : ∃ k : Nat, k ≤ len ∧ i = .int .i64 k ∧ r = .int .u32 (crcRun (~~~ s) (zs.take k)).toNat
structure CrcIn (X : BitVec 32) (r i : Value) : Prop where
  x : ∃ m : Nat, m ≤ 8 ∧ i = .int .i64 m ∧ r = .int .u32 (Nat.repeat crcBit m X).toNat

set_option maxHeartbeats 400000 in
theorem crc_any (ao : Option Addr) (len cap : Nat) (zs : List UInt8) (s : BitVec 32) (si : Int) (hs : si = s.toNat) (w : World) (hz : zs.length = len) (hbig : len ≤ 9223372036854775807) (hc : Rd w ao zs) :
    Calls Try.prog 41 #[.int .u32 si, .slice ao len cap] w fun e w' => e = .returned (.int .u32 (crc s zs).toNat) ∧ w = w' := by
  subst hs
  have Hz := Lib.hid hz
  clear hz
  go_enter Try.func41, Try.ntmps41
  go_wp2
  rw [u32_not_bv]
  go_loop [5, 12] (CrcOut s zs len) (fun _ i => len - (intOf i).toNat)
  case atStart => exact ⟨0, by omega, rfl, rfl⟩
  case round =>
    obtain ⟨k, hk, rfl, rfl⟩ := hrel
    by_cases hlt : k < len
    · have hstep := Lib.hid (crcRun_snoc (~~~ s) zs k (by have := Hz.out; omega))
      obtain ⟨b, off, rfl, hcell⟩ := hc k (by have := Hz.out; omega)
      generalize zs[k]?.getD 0 = c at *
      clear hc
      generalize hR : crcRun (~~~ s) (zs.take k) = R at *
      clear hR
      go_wp2
      go_loop [5, 20] (CrcIn (R ^^^ (c.toBitVec.setWidth 32))) (fun _ i => 8 - (intOf i).toNat)
      case atStart => exact ⟨0, by omega, rfl, by rw [byte_32, u32_xor_bv]; rfl⟩
      case round =>
        obtain ⟨m, hm, rfl, rfl⟩ := hrel
        by_cases hlt8 : m < 8
        · go_wp2
          first
          | (go_round
             case rel => exact ⟨m + 1, by omega, by go_num, by rw [crcBit_int]; rfl⟩
             case measure => (first | omega | (simp [intOf] <;> omega) | (simp only [intOf] <;> omega)))
          | exact ⟨⟨m + 1, by omega, by go_num, by rw [crcBit_int]; rfl⟩, by (first | omega | (simp [intOf] <;> omega) | (simp only [intOf] <;> omega))⟩
          | (refine ⟨?_, by (first | omega | (simp [intOf] <;> omega) | (simp only [intOf] <;> omega))⟩
             (repeat apply Exists.intro)
             refine (fun a b => And.intro b a) ?_ ?_
             · first | rfl | ((repeat refine ⟨rfl, ?_⟩); rfl)
             exact ⟨m + 1, by omega, by go_num, by rw [crcBit_int]; rfl⟩)
        · go_wp2
          obtain rfl : m = 8 := by omega
          first
          | (go_round
             case rel => exact ⟨k + 1, by omega, by go_num, by rw [hstep.out]; rfl⟩
             case measure => (first | omega | (simp [intOf] <;> omega) | (simp only [intOf] <;> omega)))
          | exact ⟨⟨k + 1, by omega, by go_num, by rw [hstep.out]; rfl⟩, by (first | omega | (simp [intOf] <;> omega) | (simp only [intOf] <;> omega))⟩
          | (refine ⟨?_, by (first | omega | (simp [intOf] <;> omega) | (simp only [intOf] <;> omega))⟩
             (repeat apply Exists.intro)
             refine (fun a b => And.intro b a) ?_ ?_
             · first | rfl | ((repeat refine ⟨rfl, ?_⟩); rfl)
             exact ⟨k + 1, by omega, by go_num, by rw [hstep.out]; rfl⟩)
    · go_wp2
      go_ret
      have ht : zs.take k = zs := List.take_of_length_le (by have := Hz.out; omega)
      have hx : bits BinOp.xor IntKind.u32 IntKind.u32.max (crcRun (~~~ s) (zs.take k)).toNat = ((crc s zs).toNat : Int) := by rw [u32_not_bv, ht]; rfl
      exact ⟨by rw [← hx]; rfl, rfl⟩

set_option maxHeartbeats 400000 in
theorem rcrc_any (ao : Option Addr) (len cap : Nat) (zs : List UInt8) (s : BitVec 32) (si : Int) (hs : si = s.toNat) (w : World) (hz : zs.length = len) (hbig : len ≤ 9223372036854775807) (hc : Rd w ao zs) :
    Calls Try.prog 46 #[.int .u32 si, .slice ao len cap] w fun e w' => e = .returned (.int .u32 (crc s zs).toNat) ∧ w = w' := by
  subst hs
  have Hz := Lib.hid hz
  clear hz
  go_enter Try.func46, Try.ntmps46
  go_wp2
  rw [u32_not_bv]
  go_loop [5, 6] (CrcOut s zs len) (fun _ i => len - (intOf i).toNat)
  case atStart => exact ⟨0, by omega, rfl, rfl⟩
  case round =>
    obtain ⟨k, hk, rfl, rfl⟩ := hrel
    by_cases hlt : k < len
    · have hstep := Lib.hid (crcRun_snoc (~~~ s) zs k (by have := Hz.out; omega))
      obtain ⟨b, off, rfl, hcell⟩ := hc k (by have := Hz.out; omega)
      generalize zs[k]?.getD 0 = c at *
      clear hc
      generalize hR : crcRun (~~~ s) (zs.take k) = R at *
      clear hR
      go_wp2
      go_loop [5, 7] (CrcIn (R ^^^ (c.toBitVec.setWidth 32))) (fun _ i => 8 - (intOf i).toNat)
      case atStart => exact ⟨0, by omega, rfl, by rw [byte_32, u32_xor_bv]; rfl⟩
      case round =>
        obtain ⟨m, hm, rfl, rfl⟩ := hrel
        by_cases hlt8 : m < 8
        · have hs1 := Lib.hid (repeat_succ crcBit m (R ^^^ (c.toBitVec.setWidth 32)))
          generalize Nat.repeat crcBit m (R ^^^ (c.toBitVec.setWidth 32)) = S at *
          by_cases hp : S.toNat % 2 = 1
          · have hs2 := Lib.hid (crcBit_odd S hp)
            have hp' : ((S.toNat : Int) % 2 == 1) = true := by rw [beq_iff_eq]; omega
            clear hp
            go_wp2
            first
            | (go_round
               case rel => exact ⟨m + 1, by omega, by go_num, by rw [hs1.out, hs2.out, bv_shr1, show (3988292384 : Int) = ((0xEDB88320#32).toNat : Int) from rfl, u32_xor_bv]⟩
               case measure => (first | omega | (simp [intOf] <;> omega) | (simp only [intOf] <;> omega)))
            | exact ⟨⟨m + 1, by omega, by go_num, by rw [hs1.out, hs2.out, bv_shr1, show (3988292384 : Int) = ((0xEDB88320#32).toNat : Int) from rfl, u32_xor_bv]⟩, by (first | omega | (simp [intOf] <;> omega) | (simp only [intOf] <;> omega))⟩
            | (refine ⟨?_, by (first | omega | (simp [intOf] <;> omega) | (simp only [intOf] <;> omega))⟩
               (repeat apply Exists.intro)
               refine (fun a b => And.intro b a) ?_ ?_
               · first | rfl | ((repeat refine ⟨rfl, ?_⟩); rfl)
               exact ⟨m + 1, by omega, by go_num, by rw [hs1.out, hs2.out, bv_shr1, show (3988292384 : Int) = ((0xEDB88320#32).toNat : Int) from rfl, u32_xor_bv]⟩)
          · have hs2 := Lib.hid (crcBit_even S hp)
            have hp' : ((S.toNat : Int) % 2 == 1) = false := by rw [beq_eq_false_iff_ne]; omega
            clear hp
            go_wp2
            first
            | (go_round
               case rel => exact ⟨m + 1, by omega, by go_num, by rw [hs1.out, hs2.out, bv_shr1]⟩
               case measure => (first | omega | (simp [intOf] <;> omega) | (simp only [intOf] <;> omega)))
            | exact ⟨⟨m + 1, by omega, by go_num, by rw [hs1.out, hs2.out, bv_shr1]⟩, by (first | omega | (simp [intOf] <;> omega) | (simp only [intOf] <;> omega))⟩
            | (refine ⟨?_, by (first | omega | (simp [intOf] <;> omega) | (simp only [intOf] <;> omega))⟩
               (repeat apply Exists.intro)
               refine (fun a b => And.intro b a) ?_ ?_
               · first | rfl | ((repeat refine ⟨rfl, ?_⟩); rfl)
               exact ⟨m + 1, by omega, by go_num, by rw [hs1.out, hs2.out, bv_shr1]⟩)
        · go_wp2
          obtain rfl : m = 8 := by omega
          first
          | (go_round
             case rel => exact ⟨k + 1, by omega, by go_num, by rw [hstep.out]; rfl⟩
             case measure => (first | omega | (simp [intOf] <;> omega) | (simp only [intOf] <;> omega)))
          | exact ⟨⟨k + 1, by omega, by go_num, by rw [hstep.out]; rfl⟩, by (first | omega | (simp [intOf] <;> omega) | (simp only [intOf] <;> omega))⟩
          | (refine ⟨?_, by (first | omega | (simp [intOf] <;> omega) | (simp only [intOf] <;> omega))⟩
             (repeat apply Exists.intro)
             refine (fun a b => And.intro b a) ?_ ?_
             · first | rfl | ((repeat refine ⟨rfl, ?_⟩); rfl)
             exact ⟨k + 1, by omega, by go_num, by rw [hstep.out]; rfl⟩)
    · go_wp2
      go_ret
      have ht : zs.take k = zs := List.take_of_length_le (by have := Hz.out; omega)
      have hx : bits BinOp.xor IntKind.u32 IntKind.u32.max (crcRun (~~~ s) (zs.take k)).toNat = ((crc s zs).toNat : Int) := by rw [u32_not_bv, ht]; rfl
      exact ⟨by rw [← hx]; rfl, rfl⟩
end Go.Proofs.Ytnmeidmiijcniaa
