/- A package that is cut off, or has bytes behind it, is refused: the plain law. No condition. -/
import Derived.Test.YtefkmlfpdlnodaaFipW
set_option linter.unusedVariables false
set_option linter.unusedSimpArgs false
namespace Go.Proofs.Ytefkmlfpdlnodaa
open Go.RowKit
/-- two lists that are one as far as both go -/
def Agree (l x : List UInt8) : Prop := ∀ i, i < l.length → i < x.length → l[i]? = x[i]?
theorem piece_agree {l x : List UInt8} {a k : Nat} (h : Agree l x) (hl : a + k ≤ l.length) (hx : a + k ≤ x.length) : piece l a k = piece x a k := by
  unfold piece
  apply List.ext_getElem?
  intro i
  rw [List.getElem?_take, List.getElem?_take]
  split
  · rw [List.getElem?_drop, List.getElem?_drop]; exact h _ (by omega) (by omega)
  · rfl
theorem entAt_agree {l x : List UInt8} {a : Nat} (h : Agree l x) (hl : a + 40 ≤ l.length) (hx : a + 40 ≤ x.length) : entAt l a = entAt x a := by
  unfold entAt getN
  simp only [Bool.false_eq_true, if_false]
  rw [piece_agree h (a := a + 16) (by omega) (by omega), piece_agree h (a := a + 24) (by omega) (by omega), piece_agree h (a := a + 32) (by omega) (by omega)]
  congr 1
  apply Subtype.ext
  unfold guAt
  have hm : (List.range 16).map (fun i => l[a + i]?.getD 0) = (List.range 16).map (fun i => x[a + i]?.getD 0) := List.map_congr_left fun i hi => by
    rw [List.mem_range] at hi
    rw [h (a + i) (by omega) (by omega)]
  exact hm
theorem tabGo_bad {l x Q : List UInt8} {N : Nat} (hN : N < 18446744073709551616) (hag : Agree l x) (hne : l.length ≠ N) : ∀ (es : List En) (P : List UInt8) (F a : Nat) (es0 : List En), x = P ++ (tabB es ++ (entB gz N 0 ++ Q)) → P.length = a → l.length < F + a →
    (∀ e ∈ es, e.id ≠ gz ∧ e.id ∉ es0.map En.id ∧ e.off < 18446744073709551616 ∧ e.sz < 18446744073709551616 ∧ e.fl = 0) → (es.map En.id).Nodup → es0.length + es.length ≤ 32 → (tabGo l F a es0).1 = none
  | [], P, F, a, es0, hl, ha, hF, _, _, _ => by
    by_cases hlen : l.length < a + 40
    · rw [tabGo_short hlen]
    · have hx : a + 40 ≤ x.length := by rw [hl]; simp only [List.length_append, entB_len]; omega
      have he : entAt l a = ⟨gz, N, 0, 0⟩ := by
        rw [entAt_agree hag (by omega) hx]
        have := entAt_mid (P := P) (Q := Q) (g := gz) ha hN (by decide : 0 < 18446744073709551616)
        simp only [tabB, List.flatMap_nil, List.nil_append] at hl
        rw [← hl] at this
        exact this
      rw [tabGo_end hF hlen (by rw [he]), if_neg (by rw [he]; intro h; simp only [En.mk.injEq] at h; exact hne h.2.1.symm)]
  | e :: r, P, F, a, es0, hl, ha, hF, hz, hn, h32 => by
    by_cases hlen : l.length < a + 40
    · rw [tabGo_short hlen]
    · obtain ⟨z1, z2, z3, z4, z5⟩ := hz e (List.mem_cons_self)
      have e1 : P ++ (tabB (e :: r) ++ (entB gz N 0 ++ Q)) = P ++ (entB e.id e.off e.sz ++ (tabB r ++ (entB gz N 0 ++ Q))) := by simp [tabB]
      have hx : a + 40 ≤ x.length := by rw [hl, e1]; simp only [List.length_append, entB_len]; omega
      have he : entAt l a = e := by
        rw [entAt_agree hag (by omega) hx]
        have := entAt_mid (P := P) (Q := tabB r ++ (entB gz N 0 ++ Q)) (g := e.id) ha z3 z4
        rw [← e1, ← hl] at this
        rw [this]
        cases e
        simp only at z5
        rw [z5]
      rw [List.length_cons] at h32
      obtain ⟨F', h1, h2⟩ := tabGo_next (es := es0) hF hlen (by rw [he]; exact z1) (show es0.length ≠ 32 by omega) (by rw [he]; exact z2)
      rw [List.map_cons, List.nodup_cons] at hn
      rw [h1, he]
      exact tabGo_bad hN hag hne r (P ++ entB e.id e.off e.sz) F' (a + 40) (es0 ++ [e]) (by rw [List.append_assoc, ← e1]; exact hl) (by rw [List.length_append, entB_len, ha]) h2 (fun y hy => by
        obtain ⟨y1, y2, y3, y4, y5⟩ := hz y (List.mem_cons_of_mem _ hy)
        refine ⟨y1, fun hm => ?_, y3, y4, y5⟩
        rw [List.map_append, List.mem_append] at hm
        rcases hm with hm | hm
        · exact y2 hm
        · simp only [List.map_cons, List.map_nil, List.mem_singleton] at hm
          exact hn.1 (hm ▸ List.mem_map_of_mem hy)) hn.2 (by simp only [List.length_append, List.length_cons, List.length_nil]; omega)
theorem openR_bad {l : List UInt8} (h : (tabR l).1 = none) : (openR l).2 ≠ 0 := by
  have ht : tabR l = (none, (tabR l).2) := Prod.ext h rfl
  by_cases hh : l.length < 16 ∨ 131072 < l.length ∨ getN l 0 4 false ≠ 2858680321 ∨ getN l 4 4 false = 0 ∨ getN l 8 8 false ≠ 0
  · rw [openR_head hh]; decide
  · rw [openR_tab hh ht]; exact tabGo_none _ _ _ ht
/-- a list that goes along with a package, but is longer or shorter, is refused -/
theorem cut_short {ids : List Gu} {imgs : List (List UInt8)} (h : (makeR ids imgs).2 = 0) {l : List UInt8} (ha : Agree l (makeR ids imgs).1) (hne : l.length ≠ (makeR ids imgs).1.length) : (openR l).2 ≠ 0 := by
  obtain ⟨_, h131, _⟩ := back h
  rcases makeR_said ids imgs with ⟨h1, _⟩ | ⟨_, hlen, h32, tab, data, hsh, hb⟩
  · exact absurd h h1
  rw [hb] at ha hne h131
  obtain ⟨fr, hfr⟩ : ∃ fr, 16 + 40 * (ids.length + 1) = fr := ⟨_, rfl⟩
  obtain ⟨Z, hZ⟩ : ∃ Z, ids.zip imgs = Z := ⟨_, rfl⟩
  have hZl : Z.length = ids.length := by rw [← hZ, List.length_zip]; omega
  rw [hfr, hZ] at hsh
  rw [hfr] at ha hne h131
  obtain ⟨s1, s2, s3, s4, s5, s6⟩ := hsh
  rw [List.length_nil] at s1
  rw [List.nil_append] at s2
  subst s1
  subst s2
  obtain ⟨es, hes⟩ : ∃ es, ents fr 0 Z = es := ⟨_, rfl⟩
  have hel : es.length = ids.length := by rw [← hes, ents_len, hZl]
  have hei : es.map En.id = Z.map Prod.fst := by rw [← hes, ents_ids]
  rw [hes] at ha hne h131
  have hbl : (headB ++ tabB es ++ entB gz (fr + (allB Z).length) 0 ++ allB Z).length = fr + (allB Z).length := by
    simp only [List.length_append, entB_len, headB_len, tabB_len, hel]; omega
  rw [hbl] at hne h131
  apply openR_bad
  unfold tabR
  exact tabGo_bad (Q := allB Z) (by omega) ha hne es headB (l.length + 1) 16 [] (by simp) headB_len (by omega) (fun e he => by
    obtain ⟨a1, a2, a3⟩ := ents_in Z 0 e (by rw [hes]; exact he)
    exact ⟨(s3 e.id (by rw [← hei]; exact List.mem_map_of_mem he)).1, by simp, by omega, by omega, a3⟩) (by rw [hei]; exact s4) (by rw [hel]; simpa using h32)
theorem agree_take (x : List UInt8) (t : Nat) : Agree (x.take t) x := fun i hi hx => by
  rw [List.length_take] at hi
  rw [List.getElem?_take_of_lt (by omega)]
theorem agree_append (x m : List UInt8) : Agree (x ++ m) x := fun i hi hx => List.getElem?_append_left hx
end Go.Proofs.Ytefkmlfpdlnodaa
