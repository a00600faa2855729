/- SHA-2 in plain Lean: whole messages. No condition. -/
import Derived.Test.YtngkelflfahjbaaDoorShaU
set_option linter.unusedVariables false
set_option linter.unusedSimpArgs false
namespace Go.Proofs.YtngkelflfahjbaaDoor
open Go.RowKit
def sizeW (w : Nat) : Nat := if w = 64 then 128 else 64
theorem sizeW_pos (w : Nat) : 0 < sizeW w := by unfold sizeW; split <;> decide
/-- all whole blocks are taken in; what is left over -/
def goB (w : Nat) (s : S8) (l : List UInt8) : S8 × List UInt8 :=
  if h : l.length < sizeW w then (s, l) else goB w (block8 w s (l.take (sizeW w))) (l.drop (sizeW w))
termination_by l.length
decreasing_by
  have := sizeW_pos w
  rw [List.length_drop]
  omega
theorem goB_end {w : Nat} {s : S8} {l : List UInt8} (h : l.length < sizeW w) : goB w s l = (s, l) := by rw [goB, dif_pos h]
theorem goB_step {w : Nat} {s : S8} {l : List UInt8} (h : ¬ l.length < sizeW w) : goB w s l = goB w (block8 w s (l.take (sizeW w))) (l.drop (sizeW w)) := by rw [goB, dif_neg h]
theorem goB_app (w : Nat) (m : List UInt8) : ∀ (n : Nat) (s : S8) (l : List UInt8), l.length = n → goB w s (l ++ m) = goB w (goB w s l).1 ((goB w s l).2 ++ m) := by
  intro n
  induction n using Nat.strongRecOn with
  | ind n ih =>
    intro s l hl
    by_cases h : l.length < sizeW w
    · rw [goB_end h]
    · have hp := sizeW_pos w
      rw [goB_step (l := l) h, goB_step (l := l ++ m) (by rw [List.length_append]; omega), List.take_append_of_le_length (by omega), List.drop_append_of_le_length (by omega)]
      exact ih (l.drop (sizeW w)).length (by rw [List.length_drop]; omega) _ _ rfl
theorem goB_left (w : Nat) : ∀ (n : Nat) (s : S8) (l : List UInt8), l.length = n → (goB w s l).2.length = l.length % sizeW w ∧ (goB w s l).2.length < sizeW w := by
  intro n
  induction n using Nat.strongRecOn with
  | ind n ih =>
    intro s l hl
    have hp := sizeW_pos w
    by_cases h : l.length < sizeW w
    · rw [goB_end h]; exact ⟨(Nat.mod_eq_of_lt h).symm, h⟩
    · rw [goB_step h]
      have h2 := ih (l.drop (sizeW w)).length (by rw [List.length_drop]; omega) (block8 w s (l.take (sizeW w))) _ rfl
      refine ⟨?_, h2.2⟩
      rw [h2.1, List.length_drop, Nat.mod_eq_sub_mod (by omega : sizeW w ≤ l.length)]
theorem add8_lt {w : Nat} (s v : S8) : (add8 w s v).Lt (2 ^ w) :=
  ⟨Nat.mod_lt _ (Nat.two_pow_pos _), Nat.mod_lt _ (Nat.two_pow_pos _), Nat.mod_lt _ (Nat.two_pow_pos _), Nat.mod_lt _ (Nat.two_pow_pos _), Nat.mod_lt _ (Nat.two_pow_pos _), Nat.mod_lt _ (Nat.two_pow_pos _), Nat.mod_lt _ (Nat.two_pow_pos _), Nat.mod_lt _ (Nat.two_pow_pos _)⟩
theorem goB_lt (w : Nat) : ∀ (n : Nat) (s : S8) (l : List UInt8), l.length = n → s.Lt (2 ^ w) → (goB w s l).1.Lt (2 ^ w) := by
  intro n
  induction n using Nat.strongRecOn with
  | ind n ih =>
    intro s l hl hs
    have hp := sizeW_pos w
    by_cases h : l.length < sizeW w
    · rw [goB_end h]; exact hs
    · rw [goB_step h]
      exact ih (l.drop (sizeW w)).length (by rw [List.length_drop]; omega) _ _ rfl (add8_lt _ _)
/-- how many noughts -/
def zerosW (w len : Nat) : Nat := (2 * sizeW w - sizeW w / 8 - (len + 1) % sizeW w) % sizeW w
def padL (w : Nat) (rest : List UInt8) (n : Nat) : List UInt8 := rest ++ [128] ++ List.replicate (zerosW w rest.length) 0 ++ List.replicate (if w = 64 then 8 else 0) 0 ++ encL 8 true (n * 8 % 18446744073709551616)
def wordsL (w : Nat) (l : List Nat) : List UInt8 := l.flatMap (encL (w / 8) true)
def wK (k : Nat) : Nat := if k = 1 then 32 else 64
def digK (k : Nat) : Nat := if k = 1 then 32 else if k = 2 then 48 else 64
def firstK (k : Nat) : S8 :=
  if k = 1 then ⟨1779033703, 3144134277, 1013904242, 2773480762, 1359893119, 2600822924, 528734635, 1541459225⟩
  else if k = 2 then ⟨14680500436340154072, 7105036623409894663, 10473403895298186519, 1526699215303891257, 7436329637833083697, 10282925794625328401, 15784041429090275239, 5167115440072839076⟩
  else ⟨7640891576956012808, 13503953896175478587, 4354685564936845355, 11912009170470909681, 5840696475078001361, 11170449401992604703, 2270897969802886507, 6620516959819538809⟩
/-- what a hash answers: kind, state, bytes taken in, bytes left over -/
def digS (k : Nat) (s : S8) (n : Nat) (rest : List UInt8) : List UInt8 := (wordsL (wK k) (s8l (goB (wK k) s (padL (wK k) rest n)).1)).take (digK k)
theorem wordsL_len (w : Nat) : ∀ l : List Nat, (wordsL w l).length = l.length * (w / 8)
  | [] => by simp [wordsL]
  | x :: l => by
    have ih := wordsL_len w l
    unfold wordsL at ih ⊢
    rw [List.flatMap_cons, List.length_append, encL_length, ih, List.length_cons, Nat.succ_mul, Nat.add_comm]
theorem wordsL_snoc (w : Nat) (l : List Nat) (i x : Nat) (h : l[i]? = some x) : wordsL w (l.take (i + 1)) = wordsL w (l.take i) ++ encL (w / 8) true x := by
  unfold wordsL
  rw [List.take_add_one, h, List.flatMap_append]
  simp
theorem zerosW_mod (w len q : Nat) : zerosW w (len % sizeW w) = zerosW w len := by
  unfold zerosW
  rw [Nat.mod_add_mod]
/-- the digest of a whole message -/
theorem digS_whole (k : Nat) (s : S8) (l : List UInt8) (n : Nat) : digS k (goB (wK k) s l).1 n (goB (wK k) s l).2 = digS k s n l := by
  unfold digS
  have h : goB (wK k) s (padL (wK k) l n) = goB (wK k) (goB (wK k) s l).1 (padL (wK k) (goB (wK k) s l).2 n) := by
    have e1 : padL (wK k) l n = l ++ ([128] ++ List.replicate (zerosW (wK k) l.length) 0 ++ List.replicate (if wK k = 64 then 8 else 0) 0 ++ encL 8 true (n * 8 % 18446744073709551616)) := by unfold padL; simp only [List.append_assoc]
    have e2 : padL (wK k) (goB (wK k) s l).2 n = (goB (wK k) s l).2 ++ ([128] ++ List.replicate (zerosW (wK k) (goB (wK k) s l).2.length) 0 ++ List.replicate (if wK k = 64 then 8 else 0) 0 ++ encL 8 true (n * 8 % 18446744073709551616)) := by unfold padL; simp only [List.append_assoc]
    rw [e1, e2, (goB_left (wK k) _ s l rfl).1, zerosW_mod _ _ 0, goB_app (wK k) _ _ s l rfl]
  rw [h]
theorem abc_dig : (digS 1 (firstK 1) 3 [97, 98, 99])[0]? = some 0xba ∧ (digS 1 (firstK 1) 3 [97, 98, 99])[1]? = some 0x78 ∧ (digS 1 (firstK 1) 3 [97, 98, 99])[31]? = some 0xad := by
  have hw : wK 1 = 32 := rfl
  have hl : (padL 32 [97, 98, 99] 3).length = 64 := by decide +kernel
  have hg : (goB 32 (firstK 1) (padL 32 [97, 98, 99] 3)).1 = block8 32 (firstK 1) (padL 32 [97, 98, 99] 3) := by
    rw [goB_step (by rw [hl]; decide), goB_end (by rw [List.length_drop, hl]; decide), List.take_of_length_le (by rw [hl]; decide)]
  unfold digS
  rw [hw, hg]
  decide +kernel
end Go.Proofs.YtngkelflfahjbaaDoor
