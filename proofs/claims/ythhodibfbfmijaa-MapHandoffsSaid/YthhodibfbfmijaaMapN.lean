/- Where stages are placed: plain laws, no program in sight. -/
import Derived.Test.YthhodibfbfmijaaBits
set_option linter.unusedVariables false
set_option linter.unusedSimpArgs false
namespace Go.Proofs.Ythhodibfbfmijaa
structure Rg where
  base : Nat
  size : Nat
  r : Bool
  w : Bool
  x : Bool
  s : Bool
deriving DecidableEq
instance : Inhabited Rg := ⟨⟨0, 0, false, false, false, false⟩⟩
def RgOk (g : Rg) : Prop := g.base < 18446744073709551616 ∧ g.size < 18446744073709551616
def ov (a n b m : Nat) : Bool := decide (0 < n ∧ 0 < m ∧ (if a ≤ b then b - a < n else a - b < m))
def inR (b n : Nat) : Bool := decide (1073741824 ≤ b ∧ b < 1073807360 ∧ 0 < n ∧ b + n ≤ 1073807360)
def freeR (taken : List Rg) (b n : Nat) : Bool := !(taken.any fun t => ov b n t.base t.size)
theorem freeR_iff {taken : List Rg} {b n : Nat} : freeR taken b n = true ↔ ∀ t ∈ taken, ov b n t.base t.size = false := by
  unfold freeR; simp
open Classical in
/-- why a want may not be -/
noncomputable def wantE (n al : Nat) (w x : Bool) : Int := if n = 0 ∨ 65536 < n ∨ al = 0 ∨ 65536 < al ∨ ¬ Pow2 al then 224 else if w && x then 222 else 0
/-- a place that does -/
def Does (taken : List Rg) (n al m : Nat) : Prop := (m - 1073741824) % al = 0 ∧ inR m n = true ∧ freeR taken m n = true
def Least (taken : List Rg) (n al m : Nat) : Prop := Does taken n al m ∧ ∀ m', Does taken n al m' → m ≤ m'
theorem Least.uniq {taken : List Rg} {n al m m' : Nat} (h : Least taken n al m) (h' : Least taken n al m') : m = m' :=
  Nat.le_antisymm (h.2 _ h'.1) (h'.2 _ h.1)
theorem least_of_does {taken : List Rg} {n al : Nat} : ∀ m, Does taken n al m → ∃ m0, Least taken n al m0 := by
  intro m
  induction m using Nat.strongRecOn with
  | ind m ih =>
    intro h
    by_cases hl : ∃ m', m' < m ∧ Does taken n al m'
    · obtain ⟨m', h1, h2⟩ := hl
      exact ih m' h1 h2
    · exact ⟨m, h, fun m' h' => by
        by_cases hc : m ≤ m'
        · exact hc
        · exact absurd ⟨m', by omega, h'⟩ hl⟩
/-- the multiple that is not below x -/
def behind (t : Rg) (al : Nat) : Nat := upN (t.base + t.size) al
def Cand (taken : List Rg) (al c : Nat) : Prop := c = 1073741824 ∨ ∃ t ∈ taken, t.base < 1073807360 ∧ t.size < 1073807360 - t.base ∧ c = behind t al
theorem ram_mod {al : Nat} (h : Pow2 al) (h2 : al ≤ 65536) : 1073741824 % al = 0 := by
  obtain ⟨j, rfl⟩ := h
  have hj : j ≤ 16 := by
    by_cases hj : j ≤ 16
    · exact hj
    · have := Nat.pow_lt_pow_right (a := 2) (by omega) (show 16 < j by omega)
      omega
  have e : (1073741824 : Nat) = 2 ^ j * 2 ^ (30 - j) := by rw [← Nat.pow_add, show j + (30 - j) = 30 by omega]
  rw [e]; exact Nat.mul_mod_right _ _
theorem off_mod {al m : Nat} (h : 1073741824 % al = 0) (hm : 1073741824 ≤ m) : (m - 1073741824) % al = m % al := by
  have : m % al = ((m - 1073741824) + 1073741824) % al := by congr 1; omega
  rw [this, Nat.add_mod, h, Nat.add_zero, Nat.mod_mod]
/-- the lowest place that does is a candidate -/
theorem least_cand {taken : List Rg} {n al m : Nat} (hal : 0 < al) (hr : 1073741824 % al = 0) (h : Least taken n al m) : Cand taken al m := by
  obtain ⟨⟨h1, h2, h3⟩, h4⟩ := h
  simp only [inR, decide_eq_true_eq] at h2
  by_cases hm : m = 1073741824
  · exact Or.inl hm
  · right
    have hge : 1073741824 + al ≤ m := by
      rcases Nat.lt_or_ge (m - 1073741824) al with h5 | h5
      · rw [Nat.mod_eq_of_lt h5] at h1; omega
      · omega
    have hmod : (m - al - 1073741824) % al = 0 := by
      have e : m - 1073741824 = (m - al - 1073741824) + al := by omega
      rw [e, Nat.add_mod_right] at h1
      exact h1
    have hnot : ¬ Does taken n al (m - al) := fun hd => by have := h4 _ hd; omega
    have hin : inR (m - al) n = true := by simp only [inR, decide_eq_true_eq]; omega
    have hf : freeR taken (m - al) n ≠ true := fun hf => hnot ⟨hmod, hin, hf⟩
    rw [Ne, freeR_iff] at hf
    have : ∃ t ∈ taken, ov (m - al) n t.base t.size = true := by
      apply Classical.byContradiction
      intro hc
      apply hf
      intro t ht
      cases hh : ov (m - al) n t.base t.size
      · rfl
      · exact absurd ⟨t, ht, hh⟩ hc
    obtain ⟨t, ht, ho⟩ := this
    have hn := (freeR_iff.1 h3) t ht
    simp only [ov, decide_eq_true_eq] at ho
    simp only [ov, decide_eq_false_iff_not] at hn
    have hbt : t.base + t.size ≤ m ∧ m - al < t.base + t.size := by
      obtain ⟨o1, o2, o3⟩ := ho
      by_cases c1 : m - al ≤ t.base
      · rw [if_pos c1] at o3
        by_cases c2 : m ≤ t.base
        · exfalso; apply hn; refine ⟨o1, o2, ?_⟩; rw [if_pos c2]; omega
        · have : ¬ (m - t.base < t.size) := fun c3 => hn ⟨o1, o2, by rw [if_neg c2]; exact c3⟩
          omega
      · rw [if_neg c1] at o3
        have c2 : ¬ m ≤ t.base := by omega
        have : ¬ (m - t.base < t.size) := fun c3 => hn ⟨o1, o2, by rw [if_neg c2]; exact c3⟩
        omega
    refine ⟨t, ht, by omega, by omega, ?_⟩
    have hmm : m % al = 0 := by rw [← off_mod hr (by omega)]; exact h1
    unfold behind upN
    obtain ⟨q, rfl⟩ : ∃ q, m = q * al := ⟨m / al, by have := Nat.div_add_mod m al; rw [hmm, Nat.add_zero, Nat.mul_comm] at this; exact this.symm⟩
    have hq : (t.base + t.size + al - 1) / al = q := by
      have hpos : 0 < q := by
        rcases Nat.eq_zero_or_pos q with h | h
        · subst h; omega
        · exact h
      apply Nat.div_eq_of_lt_le
      · omega
      · rw [Nat.succ_mul]; omega
    rw [hq]
/-- a candidate is aligned -/
theorem cand_mod {taken : List Rg} {al c : Nat} (hr : 1073741824 % al = 0) (h : Cand taken al c) : c % al = 0 := by
  rcases h with rfl | ⟨t, _, _, _, rfl⟩
  · exact hr
  · exact upN_mult _ _
open Classical in
noncomputable def low (taken : List Rg) (n al : Nat) : Option Nat := if h : ∃ m, Least taken n al m then some h.choose else none
theorem low_some {taken : List Rg} {n al m : Nat} (h : Least taken n al m) : low taken n al = some m := by
  have hex : ∃ m, Least taken n al m := ⟨m, h⟩
  unfold low
  rw [dif_pos hex]
  exact congrArg some (hex.choose_spec.uniq h)
theorem low_none {taken : List Rg} {n al : Nat} (h : ∀ m, ¬ Does taken n al m) : low taken n al = none := by
  unfold low
  rw [dif_neg]
  rintro ⟨m, hm⟩
  exact h m hm.1
theorem low_cases (taken : List Rg) (n al : Nat) : (∃ m, low taken n al = some m ∧ Least taken n al m) ∨ (low taken n al = none ∧ ∀ m, ¬ Does taken n al m) := by
  by_cases h : ∃ m, Does taken n al m
  · obtain ⟨m, hm⟩ := h
    obtain ⟨m0, h0⟩ := least_of_does m hm
    exact Or.inl ⟨m0, low_some h0, h0⟩
  · refine Or.inr ⟨low_none fun m hm => h ⟨m, hm⟩, fun m hm => h ⟨m, hm⟩⟩
/-- the best of all candidates that do, or the end -/
theorem best_low {taken : List Rg} {n al : Nat} (hal : 0 < al) (hr : 1073741824 % al = 0) {b : Nat}
    (h1 : b = 1073807360 ∨ (inR b n = true ∧ freeR taken b n = true ∧ b % al = 0)) (h2 : ∀ c, Cand taken al c → inR c n = true → freeR taken c n = true → b ≤ c) :
    low taken n al = if b = 1073807360 then none else some b := by
  rcases low_cases taken n al with ⟨m, e, hm⟩ | ⟨e, hm⟩
  · rw [e]
    have hmr := hm.1.2.1
    simp only [inR, decide_eq_true_eq] at hmr
    have hle := h2 m (least_cand hal hr hm) hm.1.2.1 hm.1.2.2
    rcases h1 with h1 | ⟨g1, g2, g3⟩
    · omega
    · have hb := g1
      simp only [inR, decide_eq_true_eq] at hb
      have hd : Does taken n al b := ⟨by rw [off_mod hr (by omega)]; exact g3, g1, g2⟩
      have := hm.2 b hd
      rw [if_neg (by omega)]
      congr 1; omega
  · rw [e]
    rcases h1 with h1 | ⟨g1, g2, g3⟩
    · rw [if_pos h1]
    · have hb := g1
      simp only [inR, decide_eq_true_eq] at hb
      exact absurd ⟨by rw [off_mod hr (by omega)]; exact g3, g1, g2⟩ (hm b)
/-- the search one after the other -/
theorem seek_low_hit {taken : List Rg} {n al i : Nat} (hal : 0 < al) (h1 : inR (1073741824 + i * al) n = true) (h2 : freeR taken (1073741824 + i * al) n = true)
    (h3 : ∀ j, j < i → ¬ (inR (1073741824 + j * al) n = true ∧ freeR taken (1073741824 + j * al) n = true)) : low taken n al = some (1073741824 + i * al) := by
  refine low_some ⟨⟨by rw [Nat.add_sub_cancel_left]; exact Nat.mul_mod_left _ _, h1, h2⟩, fun m' ⟨g1, g2, g3⟩ => ?_⟩
  have hg := g2
  simp only [inR, decide_eq_true_eq] at hg
  obtain ⟨q, hq⟩ : ∃ q, m' - 1073741824 = q * al := ⟨(m' - 1073741824) / al, by have := Nat.div_add_mod (m' - 1073741824) al; rw [g1, Nat.add_zero, Nat.mul_comm] at this; exact this.symm⟩
  have hm' : m' = 1073741824 + q * al := by omega
  subst hm'
  by_cases hqi : q < i
  · exact absurd ⟨g2, g3⟩ (h3 q hqi)
  · have := Nat.mul_le_mul_right al (show i ≤ q by omega)
    omega
theorem seek_low_miss {taken : List Rg} {n al i : Nat} (hal : 0 < al) (h1 : inR (1073741824 + i * al) n = false ∨ 1073807360 ≤ 1073741824 + i * al)
    (h3 : ∀ j, j < i → ¬ (inR (1073741824 + j * al) n = true ∧ freeR taken (1073741824 + j * al) n = true)) : low taken n al = none := by
  refine low_none fun m' ⟨g1, g2, g3⟩ => ?_
  have hg := g2
  simp only [inR, decide_eq_true_eq] at hg
  obtain ⟨q, hq⟩ : ∃ q, m' - 1073741824 = q * al := ⟨(m' - 1073741824) / al, by have := Nat.div_add_mod (m' - 1073741824) al; rw [g1, Nat.add_zero, Nat.mul_comm] at this; exact this.symm⟩
  have hm' : m' = 1073741824 + q * al := by omega
  subst hm'
  by_cases hqi : q < i
  · exact h3 q hqi ⟨g2, g3⟩
  · have := Nat.mul_le_mul_right al (show i ≤ q by omega)
    rcases h1 with h1 | h1
    · simp only [inR, decide_eq_false_iff_not] at h1
      exact h1 ⟨by omega, by omega, by omega, by omega⟩
    · omega
end Go.Proofs.Ythhodibfbfmijaa
