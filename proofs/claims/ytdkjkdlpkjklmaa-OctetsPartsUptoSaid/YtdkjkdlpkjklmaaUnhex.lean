/- Digits read again: plain laws, and the contracts of digit and FromHex, the program's and the document's. No condition. -/
import Derived.Test.YtdkjkdlpkjklmaaHex
set_option linter.unusedVariables false
set_option linter.unusedSimpArgs false
namespace Go.Proofs.Ytdkjkdlpkjklmaa
open Go.RowKit
def hv (c : UInt8) : Nat := if 48 ≤ c.toNat ∧ c.toNat ≤ 57 then c.toNat - 48 else if 97 ≤ c.toNat ∧ c.toNat ≤ 102 then c.toNat - 87 else 16
def at8 (t : List UInt8) (i : Nat) : UInt8 := t[i]?.getD 0
def OkHex (t : List UInt8) : Prop := t.length % 2 = 0 ∧ ∀ j, j < t.length / 2 → hv (at8 t (2 * j)) < 16 ∧ hv (at8 t (2 * j + 1)) < 16
def bytesHex (t : List UInt8) (k : Nat) : List UInt8 := (List.range k).map fun j => UInt8.ofNat (16 * hv (at8 t (2 * j)) + hv (at8 t (2 * j + 1)))
theorem bytesHex_length (t : List UInt8) (k : Nat) : (bytesHex t k).length = k := by simp [bytesHex]
theorem bytesHex_succ (t : List UInt8) (k : Nat) : bytesHex t (k + 1) = bytesHex t k ++ [UInt8.ofNat (16 * hv (at8 t (2 * k)) + hv (at8 t (2 * k + 1)))] := by simp [bytesHex, List.range_succ]
theorem hv_le (c : UInt8) : hv c ≤ 16 := by unfold hv; split <;> (try split) <;> omega
theorem hv_hexD (n : Nat) (h : n < 16) : hv (hexD n) = n := by
  rcases (show n = 0 ∨ n = 1 ∨ n = 2 ∨ n = 3 ∨ n = 4 ∨ n = 5 ∨ n = 6 ∨ n = 7 ∨ n = 8 ∨ n = 9 ∨ n = 10 ∨ n = 11 ∨ n = 12 ∨ n = 13 ∨ n = 14 ∨ n = 15 by omega) with rfl | rfl | rfl | rfl | rfl | rfl | rfl | rfl | rfl | rfl | rfl | rfl | rfl | rfl | rfl | rfl
  all_goals decide
theorem hexD_hv (c : UInt8) (h : hv c < 16) : hexD (hv c) = c := by
  apply UInt8.toNat_inj.mp
  have e : ∀ n : Fin 16, (hexD n.val).toNat = if n.val < 10 then n.val + 48 else n.val + 87 := by decide
  have := e ⟨hv c, h⟩
  rw [this]
  show (if hv c < 10 then hv c + 48 else hv c + 87) = c.toNat
  unfold hv at h ⊢
  split at h
  · rename_i h1
    rw [if_pos h1, if_pos (by omega)]; omega
  · rename_i h1
    split at h
    · rename_i h2
      rw [if_neg h1, if_pos h2, if_neg (by omega)]; omega
    · omega
theorem hexL_at (l : List UInt8) : ∀ j, j < l.length → at8 (hexL l) (2 * j) = hexD ((at8 l j).toNat / 16) ∧ at8 (hexL l) (2 * j + 1) = hexD ((at8 l j).toNat % 16) := by
  induction l with
  | nil => intro j h; simp at h
  | cons c l ih =>
    intro j h
    cases j with
    | zero => simp [at8, hexL, hex2]
    | succ j =>
      have := ih j (by simpa using h)
      simp only [at8, hexL, hex2, List.flatMap_cons] at this ⊢
      have e1 : 2 * (j + 1) = 2 * j + 1 + 1 := by omega
      rw [e1]
      simpa using this
theorem okHex_hexL (l : List UInt8) : OkHex (hexL l) := by
  refine ⟨by rw [hexL_length]; omega, fun j hj => ?_⟩
  rw [hexL_length] at hj
  obtain ⟨h1, h2⟩ := hexL_at l j (by omega)
  have := (at8 l j).toNat_lt
  rw [h1, h2, hv_hexD _ (by omega), hv_hexD _ (by omega)]
  omega
theorem bytes_hexL (l : List UInt8) : bytesHex (hexL l) l.length = l := by
  apply List.ext_getElem
  · rw [bytesHex_length]
  · intro j h1 h2
    obtain ⟨e1, e2⟩ := hexL_at l j h2
    have hb := (at8 l j).toNat_lt
    have e3 : at8 l j = l[j] := by simp [at8, h2]
    simp only [bytesHex, List.getElem_map, List.getElem_range]
    rw [e1, e2, hv_hexD _ (by omega), hv_hexD _ (by omega), ← e3]
    apply UInt8.toNat_inj.mp
    simp
    omega
theorem hexL_bytes (t : List UInt8) (h : OkHex t) : hexL (bytesHex t (t.length / 2)) = t := by
  obtain ⟨h0, h1⟩ := h
  have hl : (hexL (bytesHex t (t.length / 2))).length = t.length := by rw [hexL_length, bytesHex_length]; omega
  apply List.ext_getElem hl
  intro i hi1 hi2
  have key : ∀ j, j < t.length / 2 → at8 (hexL (bytesHex t (t.length / 2))) (2 * j) = at8 t (2 * j) ∧ at8 (hexL (bytesHex t (t.length / 2))) (2 * j + 1) = at8 t (2 * j + 1) := by
    intro j hj
    obtain ⟨e1, e2⟩ := hexL_at (bytesHex t (t.length / 2)) j (by rw [bytesHex_length]; exact hj)
    obtain ⟨g1, g2⟩ := h1 j hj
    have e3 : at8 (bytesHex t (t.length / 2)) j = UInt8.ofNat (16 * hv (at8 t (2 * j)) + hv (at8 t (2 * j + 1))) := by simp [at8, bytesHex, hj]
    have e4 : (UInt8.ofNat (16 * hv (at8 t (2 * j)) + hv (at8 t (2 * j + 1)))).toNat = 16 * hv (at8 t (2 * j)) + hv (at8 t (2 * j + 1)) := by simp; omega
    rw [e1, e2, e3, e4]
    rw [show (16 * hv (at8 t (2 * j)) + hv (at8 t (2 * j + 1))) / 16 = hv (at8 t (2 * j)) by omega, show (16 * hv (at8 t (2 * j)) + hv (at8 t (2 * j + 1))) % 16 = hv (at8 t (2 * j + 1)) by omega]
    exact ⟨hexD_hv _ g1, hexD_hv _ g2⟩
  have ha : ∀ (l : List UInt8) (h : i < l.length), l[i] = at8 l i := fun l h => by simp [at8, h]
  rw [ha _ hi1, ha _ hi2]
  obtain ⟨k1, k2⟩ := key (i / 2) (by omega)
  by_cases hp : i % 2 = 0
  · rw [show 2 * (i / 2) = i by omega] at k1; exact k1
  · rw [show 2 * (i / 2) + 1 = i by omega] at k2; exact k2
open Classical in
noncomputable def fromE (t : List UInt8) : Int := if OkHex t then 0 else 13
open Classical in
noncomputable def fromL (t : List UInt8) : List UInt8 := if OkHex t then bytesHex t (t.length / 2) else []

theorem hv_cases (c : UInt8) : (48 ≤ c.toNat ∧ c.toNat ≤ 57 ∧ hv c = c.toNat - 48) ∨ (97 ≤ c.toNat ∧ c.toNat ≤ 102 ∧ hv c = c.toNat - 87) ∨ (hv c = 16 ∧ (c.toNat < 48 ∨ (57 < c.toNat ∧ c.toNat < 97) ∨ 102 < c.toNat)) := by
  unfold hv; split
  · left; omega
  · split
    · right; left; omega
    · right; right; omega
theorem digit_yes (c : UInt8) (w : World) (h : hv c < 16) :
    Calls Try.prog 39 #[.int .u8 c.toNat] w fun e w' => e = .returned (.tuple #[.int .u8 (hv c), .bool true]) ∧ w = w' := by
  rcases hv_cases c with ⟨h1, h2, h3⟩ | ⟨h1, h2, h3⟩ | ⟨h1, _⟩
  · have h3' := Lib.hid h3
    clear h h3
    generalize c.toNat = x at *
    go_enter Try.func39, Try.ntmps39
    go_wp2
    go_ret2
    refine ⟨?_, rfl⟩
    rw [h3'.out, show ((x - 48 : Nat) : Int) = (x : Int) - 48 by omega]
    rfl
  · have h3' := Lib.hid h3
    clear h h3
    generalize c.toNat = x at *
    go_enter Try.func39, Try.ntmps39
    go_wp2
    go_ret2
    refine ⟨?_, rfl⟩
    rw [h3'.out, show ((x - 87 : Nat) : Int) = (x : Int) - 97 + 10 by omega]
    rfl
  · omega
theorem digit_no (c : UInt8) (w : World) (h : ¬ hv c < 16) :
    Calls Try.prog 39 #[.int .u8 c.toNat] w fun e w' => e = .returned (.tuple #[.int .u8 0, .bool false]) ∧ w = w' := by
  rcases hv_cases c with ⟨h1, h2, h3⟩ | ⟨h1, h2, h3⟩ | ⟨h1, h2⟩
  · omega
  · omega
  · clear h h1
    generalize c.toNat = x at *
    rcases h2 with h2 | ⟨h2, h3⟩ | h2
    all_goals
      go_enter Try.func39, Try.ntmps39
      go_wp2
      go_ret2
      exact ⟨rfl, rfl⟩
theorem rdigit_any (c : UInt8) (w : World) :
    Calls Try.prog 40 #[.int .u8 c.toNat] w fun e w' => e = .returned (.int .i64 (hv c)) ∧ w = w' := by
  rcases hv_cases c with ⟨h1, h2, h3⟩ | ⟨h1, h2, h3⟩ | ⟨h1, h2⟩
  · have h3' := Lib.hid h3
    clear h3
    generalize c.toNat = x at *
    go_enter Try.func40, Try.ntmps40
    go_wp2
    go_ret
    refine ⟨?_, rfl⟩
    rw [h3'.out, show ((x - 48 : Nat) : Int) = (x : Int) - 48 by omega]
    rfl
  · have h3' := Lib.hid h3
    clear h3
    generalize c.toNat = x at *
    go_enter Try.func40, Try.ntmps40
    go_wp2
    go_ret
    refine ⟨?_, rfl⟩
    rw [h3'.out, show ((x - 87 : Nat) : Int) = (x : Int) - 97 + 10 by omega]
    rfl
  · have h3' := Lib.hid h1
    clear h1
    generalize c.toNat = x at *
    rcases h2 with h2 | ⟨h2, h3⟩ | h2
    all_goals
      go_enter Try.func40, Try.ntmps40
      go_wp2
      go_ret
      exact ⟨by rw [h3'.out]; rfl, rfl⟩
end Go.Proofs.Ytdkjkdlpkjklmaa
