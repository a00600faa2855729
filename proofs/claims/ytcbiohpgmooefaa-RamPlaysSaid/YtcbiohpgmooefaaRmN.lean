/- RAM and its regions: plain laws, no program in sight. -/
set_option linter.unusedVariables false
set_option linter.unusedSimpArgs false
namespace Go.Proofs.Ytcbiohpgmooefaa
structure Rg where
  base : Nat
  size : Nat
  r : Bool
  w : Bool
  x : Bool
  s : Bool
deriving DecidableEq
instance : Inhabited Rg := ⟨⟨0, 0, false, false, false, false⟩⟩
def RgOk (g : Rg) : Prop := g.base < 18446744073709551616 ∧ g.size < 18446744073709551616
def inRam (b n : Nat) : Bool := decide (1073741824 ≤ b ∧ b + n ≤ 1073807360)
theorem inRam_iff {b n : Nat} : inRam b n = true ↔ 1073741824 ≤ b ∧ b + n ≤ 1073807360 := decide_eq_true_iff
def Rg.has (g : Rg) (a : Nat) : Bool := decide (g.base ≤ a ∧ a < g.base + g.size)
theorem has_iff {g : Rg} {a : Nat} : g.has a = true ↔ g.base ≤ a ∧ a < g.base + g.size := decide_eq_true_iff
/-- a table of regions -/
structure Tab (t : List Rg) : Prop where
  ok : ∀ g ∈ t, 0 < g.size ∧ inRam g.base g.size = true ∧ (g.w && g.x) = false
  o : t.Pairwise (fun a b => a.base + a.size ≤ b.base)
  n : t.length ≤ 16
theorem Tab.nil : Tab [] := ⟨fun g h => (by cases h), .nil, Nat.zero_le _⟩
def aft (t : List Rg) (a : Nat) : Nat := t.findIdx (fun g => decide (a < g.base + g.size))
theorem aft_le (t : List Rg) (a : Nat) : aft t a ≤ t.length := List.findIdx_le_length
theorem Tab.lt {t : List Rg} (h : Tab t) {i j : Nat} {x y : Rg} (hi : t[i]? = some x) (hj : t[j]? = some y) (hij : i < j) : x.base + x.size ≤ y.base := by
  have h1 := (List.getElem?_eq_some_iff.1 hi)
  have h2 := (List.getElem?_eq_some_iff.1 hj)
  have := List.pairwise_iff_getElem.1 h.o i j h1.1 h2.1 hij
  rw [h1.2, h2.2] at this
  exact this
theorem Tab.at {t : List Rg} (h : Tab t) {i : Nat} {x : Rg} (hi : t[i]? = some x) : 0 < x.size ∧ 1073741824 ≤ x.base ∧ x.base + x.size ≤ 1073807360 := by
  have := h.ok x (List.mem_of_getElem? hi)
  exact ⟨this.1, inRam_iff.1 this.2.1⟩
theorem aft_below {t : List Rg} {a i : Nat} {x : Rg} (hi : t[i]? = some x) (h : i < aft t a) : x.base + x.size ≤ a := by
  have h1 := List.getElem?_eq_some_iff.1 hi
  have := List.not_of_lt_findIdx h
  rw [h1.2] at this
  simp at this
  exact this
theorem aft_at {t : List Rg} {a : Nat} {x : Rg} (hi : t[aft t a]? = some x) : a < x.base + x.size := by
  have h1 := List.getElem?_eq_some_iff.1 hi
  have h0 : List.findIdx (fun g : Rg => decide (a < g.base + g.size)) t < t.length := h1.1
  have := List.findIdx_getElem (xs := t) (p := fun g => decide (a < g.base + g.size)) (w := h0)
  have h2 : t[List.findIdx (fun g => decide (a < g.base + g.size)) t]'h0 = x := h1.2
  rw [h2] at this
  simpa using this
theorem aft_above {t : List Rg} (h : Tab t) {a i : Nat} {x : Rg} (hi : t[i]? = some x) (hle : aft t a ≤ i) : a < x.base + x.size := by
  have h1 := List.getElem?_eq_some_iff.1 hi
  have hlt := h1.1
  obtain ⟨y, hy⟩ : ∃ y, t[aft t a]? = some y := ⟨_, List.getElem?_eq_getElem (show aft t a < t.length by omega)⟩
  have h2 := aft_at hy
  rcases Nat.lt_or_ge (aft t a) i with h3 | h3
  · have := h.lt hy hi h3
    omega
  · have e : aft t a = i := by omega
    rw [e, hi] at hy
    rw [← Option.some.inj hy] at h2
    exact h2
theorem aft_iff {t : List Rg} (h : Tab t) {a i : Nat} {x : Rg} (hi : t[i]? = some x) : (x.base + x.size ≤ a ↔ i < aft t a) := by
  constructor
  · intro h1
    rcases Nat.lt_or_ge i (aft t a) with h2 | h2
    · exact h2
    · have := aft_above h hi h2
      omega
  · exact aft_below hi
/-- the region that has an address -/
def findR (t : List Rg) (a : Nat) : Option Rg := t.find? (fun g => g.has a)
theorem findR_none {t : List Rg} {a : Nat} (h : ∀ (i : Nat) (x : Rg), t[i]? = some x → x.has a = false) : findR t a = none := by
  unfold findR
  rw [List.find?_eq_none]
  intro x hx
  obtain ⟨i, hi⟩ := List.getElem?_of_mem hx
  rw [h i x hi]
  decide
theorem findR_some {t : List Rg} (h : Tab t) {a i : Nat} {x : Rg} (hi : t[i]? = some x) (hx : x.has a = true) : findR t a = some x := by
  unfold findR
  have h1 := List.getElem?_eq_some_iff.1 hi
  rw [List.find?_eq_some_iff_getElem]
  refine ⟨hx, i, h1.1, h1.2, fun j hj => ?_⟩
  have hlt := h1.1
  have hjs : t[j]? = some (t[j]'(by omega)) := List.getElem?_eq_getElem (by omega)
  have h2 := h.lt hjs hi hj
  have h3 := has_iff.1 hx
  cases hh : (t[j]'(by omega)).has a
  · rfl
  · have := has_iff.1 hh
    omega
theorem find_aft {t : List Rg} (h : Tab t) (a : Nat) : findR t a = (match t[aft t a]? with | some g => if g.base ≤ a then some g else none | none => none) := by
  cases hg : t[aft t a]? with
  | none =>
    have hlen := List.getElem?_eq_none_iff.1 hg
    refine findR_none fun i x hi => ?_
    have h1 := (List.getElem?_eq_some_iff.1 hi).1
    have := aft_below hi (show i < aft t a by omega)
    cases hh : x.has a
    · rfl
    · have := has_iff.1 hh
      omega
  | some g =>
    have h1 := aft_at hg
    show _ = if g.base ≤ a then some g else none
    by_cases hb : g.base ≤ a
    · rw [if_pos hb]
      exact findR_some h hg (has_iff.2 ⟨hb, h1⟩)
    · rw [if_neg hb]
      refine findR_none fun i x hi => ?_
      cases hh : x.has a
      · rfl
      · have h3 := has_iff.1 hh
        rcases Nat.lt_trichotomy i (aft t a) with h4 | h4 | h4
        · have := aft_below hi h4
          omega
        · rw [h4, hg] at hi
          have := Option.some.inj hi
          subst this
          omega
        · have := h.lt hg hi h4
          omega
theorem findR_ok {t : List Rg} (h : Tab t) {a : Nat} {g : Rg} (hf : findR t a = some g) : g ∈ t ∧ g.base ≤ a ∧ a < g.base + g.size ∧ g.base + g.size ≤ 1073807360 := by
  unfold findR at hf
  have h1 := List.find?_some hf
  have h2 := List.mem_of_find?_eq_some hf
  have h3 := has_iff.1 h1
  have h4 := inRam_iff.1 (h.ok g h2).2.1
  exact ⟨h2, h3.1, h3.2, h4.2⟩
/-- what is open -/
def right (g : Rg) (a : Int) : Bool := if a = 1 then g.r else if a = 2 then g.w else g.x
def opn (g : Rg) (sec : Bool) (a : Int) : Bool := (sec || !g.s) && right g a
def mayAt (t : List Rg) (sec : Bool) (a : Int) (x : Nat) : Int :=
  match findR t x with
  | none => 165
  | some g => if opn g sec a then 0 else 163
def mayGo (t : List Rg) (sec : Bool) (a : Int) : Nat → Nat → Int
  | _, 0 => 0
  | x, n + 1 => if mayAt t sec a x = 0 then mayGo t sec a (x + 1) n else mayAt t sec a x
def mayR (t : List Rg) (sec : Bool) (a : Int) (x n : Nat) : Int := if a < 1 ∨ 3 < a then 1 else if inRam x n = false then 161 else mayGo t sec a x n
theorem mayAt_none {t : List Rg} {sec : Bool} {a : Int} {x : Nat} (h : findR t x = none) : mayAt t sec a x = 165 := by unfold mayAt; rw [h]
theorem mayAt_some {t : List Rg} {sec : Bool} {a : Int} {x : Nat} {g : Rg} (h : findR t x = some g) : mayAt t sec a x = if opn g sec a then 0 else 163 := by unfold mayAt; rw [h]
theorem findR_same {t : List Rg} (h : Tab t) {x y : Nat} {g : Rg} (hf : findR t x = some g) (h1 : x ≤ y) (h2 : y < g.base + g.size) : findR t y = some g := by
  have hok := findR_ok h hf
  obtain ⟨i, hi⟩ := List.getElem?_of_mem hok.1
  exact findR_some h hi (has_iff.2 ⟨by omega, h2⟩)
theorem mayGo_skip {t : List Rg} (h : Tab t) {sec : Bool} {a : Int} {x : Nat} {g : Rg} (hf : findR t x = some g) (ho : opn g sec a = true) : ∀ k n, x + k ≤ g.base + g.size → k ≤ n → mayGo t sec a x n = mayGo t sec a (x + k) (n - k)
  | 0, n, _, _ => by simp
  | k + 1, n, h1, h2 => by
    rw [mayGo_skip h hf ho k n (by omega) (by omega)]
    have e : n - k = (n - (k + 1)) + 1 := by omega
    rw [e]
    show (if mayAt t sec a (x + k) = 0 then mayGo t sec a (x + k + 1) (n - (k + 1)) else mayAt t sec a (x + k)) = _
    rw [mayAt_some (findR_same h hf (by omega) (by omega)), if_pos ho, if_pos rfl]
    rfl
theorem mayGo_hit {t : List Rg} {sec : Bool} {a : Int} {x n : Nat} (h : mayAt t sec a x ≠ 0) (hn : 0 < n) : mayGo t sec a x n = mayAt t sec a x := by
  obtain ⟨m, rfl⟩ : ∃ m, n = m + 1 := ⟨n - 1, by omega⟩
  show (if _ then _ else _) = _
  rw [if_neg h]
theorem mayGo_step {t : List Rg} {sec : Bool} {a : Int} {x n : Nat} (h : mayAt t sec a x = 0) (hn : 0 < n) : mayGo t sec a x n = mayGo t sec a (x + 1) (n - 1) := by
  obtain ⟨m, rfl⟩ : ∃ m, n = m + 1 := ⟨n - 1, by omega⟩
  show (if _ then _ else _) = _
  rw [if_pos h]
  rfl
/-- where a region is added -/
def laps (t : List Rg) (g : Rg) : Bool := match t[aft t g.base]? with | some h => decide (h.base < g.base + g.size) | none => false
def addR (t : List Rg) (g : Rg) : List Rg × Int :=
  if t.length = 16 then (t, 164) else if g.size = 0 ∨ inRam g.base g.size = false then (t, 161) else if (g.w && g.x) = true then (t, 163) else
  if laps t g = true then (t, 162) else (t.take (aft t g.base) ++ g :: t.drop (aft t g.base), 0)
theorem laps_iff {t : List Rg} (h : Tab t) {g : Rg} (hg : 0 < g.size) : laps t g = true ↔ ∃ (i : Nat) (x : Rg), t[i]? = some x ∧ (x.has g.base = true ∨ g.has x.base = true) := by
  unfold laps
  cases hx : t[aft t g.base]? with
  | none =>
    have hlen := List.getElem?_eq_none_iff.1 hx
    constructor
    · intro h; cases h
    · rintro ⟨i, x, hi, hh⟩
      have h1 := (List.getElem?_eq_some_iff.1 hi).1
      have h2 := aft_below hi (show i < aft t g.base by omega)
      have h3 := h.at hi
      rcases hh with hh | hh <;> have := has_iff.1 hh <;> omega
  | some y =>
    have h1 := aft_at hx
    have h3 := h.at hx
    simp only [decide_eq_true_iff]
    constructor
    · intro h2
      refine ⟨_, y, hx, ?_⟩
      rcases Nat.lt_or_ge g.base y.base with h4 | h4
      · exact .inr (has_iff.2 ⟨by omega, h2⟩)
      · exact .inl (has_iff.2 ⟨h4, h1⟩)
    · rintro ⟨i, x, hi, hh⟩
      have h5 := h.at hi
      rcases Nat.lt_trichotomy i (aft t g.base) with h4 | h4 | h4
      · have := aft_below hi h4
        rcases hh with hh | hh <;> have := has_iff.1 hh <;> omega
      · rw [h4, hx] at hi
        have := Option.some.inj hi
        subst this
        rcases hh with hh | hh <;> have := has_iff.1 hh <;> omega
      · have := h.lt hx hi h4
        rcases hh with hh | hh <;> have := has_iff.1 hh <;> omega
theorem addR_tab {t : List Rg} (h : Tab t) (g : Rg) : Tab (addR t g).1 := by
  unfold addR
  by_cases h1 : t.length = 16
  · rw [if_pos h1]; exact h
  rw [if_neg h1]
  by_cases h2 : g.size = 0 ∨ inRam g.base g.size = false
  · rw [if_pos h2]; exact h
  rw [if_neg h2]
  by_cases h3 : (g.w && g.x) = true
  · rw [if_pos h3]; exact h
  rw [if_neg h3]
  by_cases h4 : laps t g = true
  · rw [if_pos h4]; exact h
  rw [if_neg h4]
  have hsz : 0 < g.size := by omega
  have hin : inRam g.base g.size = true := by
    cases hh : inRam g.base g.size
    · exact absurd (Or.inr hh) h2
    · rfl
  have hn := h.n
  have hle := aft_le t g.base
  have htk : ∀ x ∈ t.take (aft t g.base), x.base + x.size ≤ g.base := by
    intro x hx
    obtain ⟨i, hi⟩ := List.getElem?_of_mem hx
    rw [List.getElem?_take] at hi
    split at hi
    · exact aft_below hi (by assumption)
    · cases hi
  have hdr : ∀ x ∈ t.drop (aft t g.base), g.base + g.size ≤ x.base := by
    intro x hx
    obtain ⟨i, hi⟩ := List.getElem?_of_mem hx
    rw [List.getElem?_drop] at hi
    have h5 := aft_above h hi (Nat.le_add_right _ _)
    rcases Nat.lt_or_ge x.base (g.base + g.size) with h6 | h6
    · exfalso
      refine h4 ((laps_iff h hsz).2 ⟨_, x, hi, ?_⟩)
      rcases Nat.lt_or_ge g.base x.base with h7 | h7
      · exact .inr (has_iff.2 ⟨by omega, h6⟩)
      · exact .inl (has_iff.2 ⟨h7, h5⟩)
    · exact h6
  have ho := h.o
  rw [← List.take_append_drop (aft t g.base) t, List.pairwise_append] at ho
  refine ⟨fun x hx => ?_, ?_, ?_⟩
  · rcases List.mem_append.1 hx with hx | hx
    · exact h.ok x (List.mem_of_mem_take hx)
    · rcases List.mem_cons.1 hx with rfl | hx
      · exact ⟨hsz, hin, by simpa using h3⟩
      · exact h.ok x (List.mem_of_mem_drop hx)
  · show List.Pairwise _ (t.take (aft t g.base) ++ g :: t.drop (aft t g.base))
    rw [List.pairwise_append]
    refine ⟨ho.1, List.pairwise_cons.2 ⟨hdr, ho.2.1⟩, fun a ha b hb => ?_⟩
    rcases List.mem_cons.1 hb with rfl | hb
    · exact htk a ha
    · exact ho.2.2 a ha b hb
  · show (t.take (aft t g.base) ++ g :: t.drop (aft t g.base)).length ≤ 16
    rw [List.length_append, List.length_cons, List.length_take, List.length_drop]
    omega
/-- a region is taken away -/
def dropR (t : List Rg) (b : Nat) : List Rg × Int := if t.findIdx (fun g => decide (g.base = b)) < t.length then (t.take (t.findIdx (fun g => decide (g.base = b))) ++ t.drop (t.findIdx (fun g => decide (g.base = b)) + 1), 0) else (t, 165)
theorem dropR_tab {t : List Rg} (h : Tab t) (b : Nat) : Tab (dropR t b).1 := by
  unfold dropR
  split
  · have hlt := by assumption
    generalize t.findIdx (fun g => decide (g.base = b)) = i at *
    have hs : (t.take i ++ t.drop (i + 1)).Sublist t := by
      have h1 : (t.drop (i + 1)).Sublist (t.drop i) := by
        rw [← List.drop_drop]
        exact List.drop_sublist _ _
      have h2 := (List.Sublist.refl (t.take i)).append h1
      rw [List.take_append_drop] at h2
      exact h2
    exact ⟨fun g hg => h.ok g (hs.subset hg), h.o.sublist hs, Nat.le_trans hs.length_le h.n⟩
  · exact h
/-- bytes in the middle -/
def spl (m : List UInt8) (o : Nat) (b : List UInt8) : List UInt8 := m.take o ++ b ++ m.drop (o + b.length)
theorem spl_len {m b : List UInt8} {o : Nat} (h : o + b.length ≤ m.length) : (spl m o b).length = m.length := by
  unfold spl
  rw [List.length_append, List.length_append, List.length_take, List.length_drop]
  omega
def getR (m : List UInt8) (o n : Nat) : List UInt8 := (m.drop o).take n
theorem spl_nil (m : List UInt8) (o : Nat) : spl m o [] = m := by
  unfold spl
  simp
theorem spl_snoc {m b : List UInt8} {o : Nat} {x : UInt8} (h : o + b.length < m.length) : spl m o (b ++ [x]) = (spl m o b).set (o + b.length) x := by
  unfold spl
  have hl : (m.take o ++ b).length = o + b.length := by rw [List.length_append, List.length_take]; omega
  have e1 : m.take o ++ (b ++ [x]) ++ m.drop (o + (b ++ [x]).length) = (m.take o ++ b) ++ (x :: m.drop (o + b.length + 1)) := by
    rw [List.length_append, List.length_singleton]
    simp [Nat.add_assoc]
  have e2 : m.drop (o + b.length) = m[o + b.length]'h :: m.drop (o + b.length + 1) := List.drop_eq_getElem_cons h
  rw [e1, e2]
  generalize m.take o ++ b = P at *
  generalize m[o + b.length] = y at *
  rw [← hl]
  simp
theorem getR_len {m : List UInt8} {o n : Nat} (h : o + n ≤ m.length) : (getR m o n).length = n := by
  unfold getR
  rw [List.length_take, List.length_drop]
  omega
theorem getR_snoc {m : List UInt8} {o n : Nat} (h : o + n < m.length) : getR m o (n + 1) = getR m o n ++ [m[o + n]?.getD 0] := by
  unfold getR
  rw [List.take_add_one, List.getElem?_drop, List.getElem?_eq_getElem h]
  rfl
end Go.Proofs.Ytcbiohpgmooefaa
