/- The law's Filled. No condition. -/
import Derived.Test.YtnmeidmiijcniaaFl
import Derived.Laws.CopyOwn
set_option linter.unusedVariables false
set_option linter.unusedSimpArgs false
namespace Go.Proofs.Ytnmeidmiijcniaa
open Go.RowKit
/-- 512 bytes that begin so -/
def filled (l : List UInt8) : List UInt8 := (l ++ zero512).take 512
theorem filled_len (l : List UInt8) : (filled l).length = 512 := by
  unfold filled; simp [zero512_len]
theorem filled_splice (l : List UInt8) : splice (zero512.map bv) 0 ((l.take 512).map bv) = (filled l).map bv := by
  unfold splice filled
  rw [List.take_zero, List.nil_append, List.take_append, ← List.map_drop, ← List.map_append]
  congr 2
  simp only [Nat.zero_add, List.length_map, List.length_take]
  unfold zero512
  rw [List.drop_replicate, List.take_replicate]
  congr 1
  omega
set_option maxRecDepth 100000 in
set_option maxHeartbeats 400000 in
theorem filled_any (ao : Option Addr) (n cap : Nat) (l : List UInt8) (w : World) (hl : l.length = n) (hn : n ≤ 9223372036854775807) (hr : Rd w ao l) :
    Calls Try.prog 37 #[.slice ao n cap] w fun e w' => e = .returned (.slice (some ⟨w.heap.size, 0, none⟩) 512 512) ∧ HB w' w.heap.size 5 ((filled l).map bv) ∧ Below w.heap.size w w' := by
  have hmk : ∀ w, (Instr.makeSlice 27 (.int .i64 512) (.int .i64 512)).run Try.prog w = .ok (.slice (some ⟨w.heap.size, 0, none⟩) 512 512) (w.alloc (.cells (zero512.map bv).toArray 5)) := fun w => by kernel_rfl
  have hN := Lib.hid (HB.new w (zero512.map bv) 5)
  have hb := Lib.hid ((Below.refl w.heap.size w).alloc (Nat.le_refl _) (.cells (zero512.map bv).toArray 5))
  have hr' := Lib.hid (hr.below hb.out)
  have h1 : Hid (((l.take 512).map bv).length = Nat.min n 512) := Lib.hid (by rw [List.length_map, List.length_take, hl]; exact Nat.min_comm _ _)
  have h2 : Hid (0 < ((l.take 512).map bv).length → (some (⟨w.heap.size, 0, none⟩ : Addr)) = some ⟨w.heap.size, 0, none⟩ ∧ ∃ ad, ao = some ad ∧ ∀ j v, ((l.take 512).map bv)[j]? = some v → (w.alloc (.cells (zero512.map bv).toArray 5)).cell? (ad.add j) = some v) := Lib.hid fun h0 => by
    refine ⟨rfl, ?_⟩
    have hl0 : 0 < l.length := by
      cases l with
      | nil => simp at h0
      | cons x l => simp
    obtain ⟨b, off, rfl, _⟩ := hr'.out 0 hl0
    refine ⟨_, rfl, fun j v hj => hr'.out.news j v ?_⟩
    rw [List.getElem?_map] at hj ⊢
    by_cases hj5 : j < 512
    · rw [List.getElem?_take_of_lt hj5] at hj; exact hj
    · rw [List.getElem?_take, if_neg hj5] at hj; cases hj
  have h3 : Hid (0 + ((l.take 512).map bv).length ≤ (zero512.map bv).length) := Lib.hid (by simp [zero512_len]; omega)
  have hu8 : Hid ((Try.prog.info? 5).map (·.size) = some 1) := Lib.hid (by kernel_rfl)
  have Hhl := Lib.hid hl
  clear hl
  go_enter Try.func37, Try.ntmps37
  go_wp2_with (refine wpList_copy_splice rfl _ _ _ _ rfl 5 Try.underlying27 hu8.out (some ⟨w.heap.size, 0, none⟩) ao 512 512 n cap rfl rfl w.heap.size 0 (zero512.map bv) 5 hN.out ((l.take 512).map bv) h1.out h2.out h3.out (bv_one _) w.heap.size w hb.out (Nat.le_refl _) ?_)
  intro w' hg hb'
  rw [← List.map_take, filled_splice] at hg
  have hg' := Lib.hid hg.out
  clear hg
  go_wp2_with fail
  go_ret
  exact ⟨rfl, hg'.out, hb'⟩
/-- a block that is handed in: its number, where its bytes lie, they themselves -/
structure Bk where
  n : Int
  ao : Option Addr
  cap : Nat
  l : List UInt8
def bkc (b : Bk) : List Value := [.int .i64 b.n, .slice b.ao b.l.length b.cap]
structure Bk.Ok (w : World) (b : Bk) : Prop where
  i : I64 b.n
  r : Rd w b.ao b.l
  c : b.l.length ≤ b.cap
  m : b.cap ≤ maxLen
  z : b.ao = none → b.cap = 0
/-- all blocks laid in, in order; or why not -/
def newGo (size : Int) (F : Int → Option (List UInt8)) : List (Int × List UInt8) → Option (Int → Option (List UInt8)) × Int
  | [] => (some F, 0)
  | (n, d) :: r => if n < 0 ∨ size ≤ n ∨ (F n).isSome = true then (none, 141) else if d.length ≠ 512 then (none, 142) else newGo size (put F n d) r
def newR (size : Int) (L : List (Int × List UInt8)) : Option Fl × Int :=
  if size < 1 ∨ 1048576 < size then (none, 1) else ((newGo size (fun _ => none) L).1.map fun F => ⟨size, false, 0, false, 0, F⟩, (newGo size (fun _ => none) L).2)
def Bk.p (b : Bk) : Int × List UInt8 := (b.n, b.l)
end Go.Proofs.Ytnmeidmiijcniaa
