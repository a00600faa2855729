/- The updater of two banks: plain laws, no program in sight. -/
import Derived.Test.YtnmeidmiijcniaaFwN
set_option linter.unusedVariables false
set_option linter.unusedSimpArgs false
namespace Go.Proofs.Ytnmeidmiijcniaa
open Go.RowKit
structure Up where
  meta' : Int
  k0 : Int
  k1 : Int
  blocks : Int
/-- does a span lie within so many blocks? -/
def inSp (size a n : Int) : Bool := decide (0 ≤ a) && decide (a ≤ size) && decide (n ≤ size - a)
/-- do two spans share a block? -/
def lapS (a n b m : Int) : Bool := decide (a < b + m) && decide (b < a + n)
structure UpOk (s : Up) (size : Int) : Prop where
  b : 1 ≤ s.blocks
  m : 0 ≤ s.meta' ∧ s.meta' + 2 ≤ size
  x : 0 ≤ s.k0 ∧ s.k0 + s.blocks ≤ size
  y : 0 ≤ s.k1 ∧ s.k1 + s.blocks ≤ size
  mx : s.meta' + 2 ≤ s.k0 ∨ s.k0 + s.blocks ≤ s.meta'
  my : s.meta' + 2 ≤ s.k1 ∨ s.k1 + s.blocks ≤ s.meta'
  xy : s.k0 + s.blocks ≤ s.k1 ∨ s.k1 + s.blocks ≤ s.k0
def upOk (s : Up) (size : Int) : Bool :=
  decide (1 ≤ s.blocks) && inSp size s.meta' 2 && inSp size s.k0 s.blocks && inSp size s.k1 s.blocks && !lapS s.k0 s.blocks s.meta' 2 && !lapS s.k1 s.blocks s.meta' 2 && !lapS s.k1 s.blocks s.k0 s.blocks
theorem upOk_iff {s : Up} {size : Int} : upOk s size = true ↔ UpOk s size := by
  obtain ⟨m, x, y, b⟩ := s
  unfold upOk inSp lapS
  simp only [Bool.and_eq_true, Bool.not_eq_true', Bool.and_eq_false_iff, decide_eq_true_eq, decide_eq_false_iff_not]
  constructor
  · rintro ⟨⟨⟨⟨⟨⟨h1, h2⟩, h3⟩, h4⟩, h5⟩, h6⟩, h7⟩
    exact ⟨h1, ⟨h2.1.1, by simp only; omega⟩, ⟨h3.1.1, by simp only; omega⟩, ⟨h4.1.1, by simp only; omega⟩, by simp only; omega, by simp only; omega, by simp only; omega⟩
  · rintro ⟨h1, h2, h3, h4, h5, h6, h7⟩
    simp only at *
    refine ⟨⟨⟨⟨⟨⟨h1, ?_⟩, ?_⟩, ?_⟩, ?_⟩, ?_⟩, ?_⟩ <;> omega
theorem upOk_no {s : Up} {size : Int} (h : ¬ UpOk s size) : upOk s size = false := by
  cases hh : upOk s size
  · rfl
  · exact absurd (upOk_iff.1 hh) h
/-- the metadata of two copies, and the copy that they were read from -/
def cur2 (a b : Option Me) : Option (Me × Int) :=
  match a, b with
  | none, none => none
  | some m, none => some (m, 0)
  | none, some m => some (m, 1)
  | some a, some b => if a.seq < b.seq then some (b, 1) else some (a, 0)
/-- what a call does to the metadata: its error, and the metadata as changed -/
def beginE (m : Me) : Me × Int := if m.bank m.act = 3 ∧ m.bank (1 - m.act) ≠ 1 then (if m.act = 0 then { m with b1 := 1 } else { m with b0 := 1 }, 0) else (m, 232)
def finishE (m : Me) : Me × Int :=
  if m.bank (1 - m.act) = 1 ∧ m.bank m.act ≠ 2 then (if 4294967288 < m.seq then (m, 231) else (if m.act = 0 then { m with b1 := 2, act := 1, tries := 3 } else { m with b0 := 2, act := 0, tries := 3 }, 0)) else (m, 232)
def acceptE (m : Me) : Me × Int := if m.bank m.act = 2 then (if m.act = 0 then { m with b0 := 3, tries := 0 } else { m with b1 := 3, tries := 0 }, 0) else (m, 232)
def cancelE (m : Me) : Me × Int := if m.bank (1 - m.act) = 1 then (if m.act = 0 then { m with b1 := 0 } else { m with b0 := 0 }, 0) else (m, 232)
def chooseE (m : Me) : Me × Int :=
  if m.bank m.act = 3 then (m, 0)
  else if m.bank m.act = 2 ∧ 0 < m.tries then ({ m with tries := m.tries - 1 }, 0)
  else if m.bank (1 - m.act) = 3 then (if m.act = 0 then { m with b0 := 0, act := 1, tries := 0 } else { m with b1 := 0, act := 0, tries := 0 }, 0)
  else (m, 234)
/-- what change saves: none where nothing is to be saved (or may be), with the bank and the error that it then answers -/
def changeE (op : Me → Me × Int) (m : Me) : Option Me × Int × Int :=
  if (op m).2 ≠ 0 ∨ (op m).1 = m then (none, (op m).1.act, (op m).2)
  else if m.seq = 4294967295 then (none, 0, 231)
  else if rightM { (op m).1 with seq := m.seq + 1 } = true then (some { (op m).1 with seq := m.seq + 1 }, (op m).1.act, 0)
  else (none, 0, 231)
end Go.Proofs.Ytnmeidmiijcniaa
