/- Bytes told as digits: octets.Hex and the document's. No condition. -/
import Derived.Test.YtdkjkdlpkjklmaaPut
set_option linter.unusedVariables false
set_option linter.unusedSimpArgs false
namespace Go.Proofs.Ytdkjkdlpkjklmaa
open Go.RowKit
def digits16 : List UInt8 := [48, 49, 50, 51, 52, 53, 54, 55, 56, 57, 97, 98, 99, 100, 101, 102]
def hexD (n : Nat) : UInt8 := digits16.getD n 0
def hex2 (c : UInt8) : List UInt8 := [hexD (c.toNat / 16), hexD (c.toNat % 16)]
def hexL (l : List UInt8) : List UInt8 := l.flatMap hex2
theorem hexL_length (l : List UInt8) : (hexL l).length = 2 * l.length := by
  induction l with
  | nil => rfl
  | cons c l ih => simp [hexL, hex2] at ih ⊢; omega
theorem hexL_snoc (l : List UInt8) (m : Nat) (h : m < l.length) : hexL (l.take (m + 1)) = hexL (l.take m) ++ hex2 (l[m]?.getD 0) := by
  rw [take_snoc8 l m h]; simp [hexL]
theorem index_digit (w : World) (n : Nat) (h : n < 16) (k : IntKind) :
    (Instr.index 9 (.string { data := #[48, 49, 50, 51, 52, 53, 54, 55, 56, 57, 97, 98, 99, 100, 101, 102] }) (.int k (n : Int))).run Try.prog w = .ok (.int .u8 ((hexD n).toNat : Int)) w := by
  rcases (show n = 0 ∨ n = 1 ∨ n = 2 ∨ n = 3 ∨ n = 4 ∨ n = 5 ∨ n = 6 ∨ n = 7 ∨ n = 8 ∨ n = 9 ∨ n = 10 ∨ n = 11 ∨ n = 12 ∨ n = 13 ∨ n = 14 ∨ n = 15 by omega) with rfl | rfl | rfl | rfl | rfl | rfl | rfl | rfl | rfl | rfl | rfl | rfl | rfl | rfl | rfl | rfl
  all_goals kernel_rfl
structure HexIn (W : World) (l : List UInt8) (n g : Nat) (v i : Value) (wr : World) : Prop where
  x : ∃ k : Nat, k ≤ n ∧ i = .int .i64 k ∧ v = .slice (some ⟨g, 0, none⟩) (2 * k) (2 * n) ∧ Own 5 wr W.heap.size (.slice (some ⟨g, 0, none⟩) (2 * k) (2 * n)) (hexL (l.take k)) ∧ Below W.heap.size W wr
set_option maxHeartbeats 400000 in
theorem hex_any (ao : Option Addr) (n cap : Nat) (l : List UInt8) (w : World) (hl : l.length = n) (hn : n ≤ 140737488351232) (hr : Rd w ao l) :
    Calls Try.prog 24 #[.slice ao n cap] w fun e w' => e = .returned (.string ⟨(hexL l).toArray⟩) ∧ Below w.heap.size w w' := by
  obtain ⟨i0, hi, hz0, hz1, hz2⟩ := info_parts byteRow.info
  have Hhl := Lib.hid hl
  clear hl
  go_enter Try.func24, Try.ntmps24
  go_wp2_with (at_make; refine wpList_make_own _ rfl _ _ 23 rfl w.heap.size 5 i0 (.int .u8 0) 1 Try.underlying23 hi hz0 hz1 _ _ _ (2 * n) rfl rfl ?c1 ?c2 ?c3 ?c4 ?_)
  case c1 => push_cast; rfl
  case c2 => rw [hz2]; omega
  case c3 => simp only [maxLen]; omega
  case c4 => exact Nat.le_refl _
  intro w1 hown hgr
  have hb : Below w.heap.size w w1 := (Below.refl _ _).grown hgr (Nat.le_refl _) (by intro k hk; cases hk)
  have ho : Own 5 w1 w.heap.size (.slice (some ⟨w.heap.size, 0, none⟩) (2 * 0) (2 * n)) (hexL (l.take 0)) := hown
  clear hown hgr
  have hr1 := hr.below hb
  go_wp2_with fail
  go_loopw [3, 12] (HexIn w l n w.heap.size) (fun _ i _ => n - (intOf i).toNat)
  case atStart => exact ⟨0, by omega, rfl, rfl, ho, hb⟩
  case round =>
    clear ho hb hr1
    obtain ⟨k, hk, rfl, rfl, ho, hb⟩ := hrel
    by_cases hlt : k < n
    · have hst := Lib.hid (hexL_snoc l k (by have := Hhl.out; omega))
      obtain ⟨b, off, rfl, hcell⟩ := hr.below hb k (by have := Hhl.out; omega)
      have hcb : (l[k]?.getD 0).toNat < 256 := (l[k]?.getD 0).toNat_lt
      have hx := fun w => index_digit w ((l[k]?.getD 0).toNat / 16) (by omega) .u8
      have hy := fun w => index_digit w ((l[k]?.getD 0).toNat % 16) (by omega) .u8
      push_cast at hx hy
      have Hx := Lib.hid hx
      have Hy := Lib.hid hy
      clear hx hy
      generalize l[k]?.getD 0 = c at *
      clear hr
      go_wp2_with fail
      have hx := Hx.out
      have hy := Hy.out
      clear Hx Hy
      have e15 := u8_and15 (c.toNat : Int) (by omega) (by omega)
      go_region_law ((refine step_of_wp rfl (wp_append_fit byteRow _ _ rfl w.heap.size w.heap.size (2 * k) (2 * n) _ rfl (ho.alloc _) _ 2 2 [hexD (c.toNat / 16), hexD (c.toNat % 16)] rfl rfl (Rd.new _ _ _ _) (2 * k + 2) rfl (by omega) ?_); intro w2 ho2 hgr2))
      all_goals
        have hb2 : Below w.heap.size w w2 := by
          first
          | exact (hb.alloc hb.size _).drew.grown hgr2 (by have := hb.size; simp; omega) (by intro k hk; cases hk; exact Nat.le_refl _)
          | exact (hb.alloc hb.size _).grown hgr2 (by have := hb.size; simp; omega) (by intro k hk; cases hk; exact Nat.le_refl _)
        clear hgr2 e15 hx hy
        go_wp2_with fail
        first
        | (go_roundw
           case rel => exact ⟨k + 1, by omega, by go_num, rfl, by rw [hst.out]; exact ho2, hb2⟩
           case measure => (first | omega | (simp [intOf] <;> omega) | (simp only [intOf] <;> omega)))
        | exact ⟨⟨k + 1, by omega, by go_num, rfl, by rw [hst.out]; exact ho2, hb2⟩, by (first | omega | (simp [intOf] <;> omega) | (simp only [intOf] <;> omega))⟩
        | (refine ⟨?_, by (first | omega | (simp [intOf] <;> omega) | (simp only [intOf] <;> omega))⟩
           (repeat apply Exists.intro)
           refine (fun a b => And.intro b a) ?_ ?_
           · first | rfl | ((repeat refine ⟨rfl, ?_⟩); rfl)
           exact ⟨k + 1, by omega, by go_num, rfl, by rw [hst.out]; exact ho2, hb2⟩)
    · obtain rfl : k = n := by omega
      rw [List.take_of_length_le (by have := Hhl.out; omega)] at ho
      have hconv : ∀ W : World, (∀ a, W.cell? a = wr.cell? a) → (convert 23 9 (.slice (some ⟨w.heap.size, 0, none⟩) (2 * k) (2 * k))).run Try.prog W = .ok (.string ⟨(hexL l).toArray⟩) W := fun W hW => by
        obtain ⟨h1, -, -, -, -, h6, -⟩ := ho.at
        rw [h1]
        refine Go.run_convert_bytes_back W _ _ 5 ⟨w.heap.size, 0, none⟩ _ (hexL l) Try.underlying23 Try.underlying5 Try.underlying9 fun j hj => ?_
        have hadd : (⟨w.heap.size, 0, none⟩ : Addr).add j = ⟨w.heap.size, j, none⟩ := by unfold Addr.add; split <;> simp_all
        rw [hadd, hW, h6 j (by omega)]
        simp [hj]
      have hc0 := hconv wr (fun _ => rfl)
      clear hconv
      go_wp2_with fail
      go_ret
      exact ⟨rfl, hb⟩
end Go.Proofs.Ytdkjkdlpkjklmaa
