/- What was packed is unpacked: the plain law. No condition. -/
import Derived.Test.YtefkmlfpdlnodaaFipV
import Derived.Test.YtefkmlfpdlnodaaFipJ
import Derived.Test.YtefkmlfpdlnodaaFipB
set_option linter.unusedVariables false
set_option linter.unusedSimpArgs false
namespace Go.Proofs.Ytefkmlfpdlnodaa
open Go.RowKit
theorem piece_app {A X C : List UInt8} {n k : Nat} (hn : A.length = n) (hk : X.length = k) : piece (A ++ (X ++ C)) n k = X := by
  subst hn; subst hk; simp [piece]
theorem getN_app {A C : List UInt8} {n k v : Nat} (hn : A.length = n) (hv : v < 256 ^ k) : getN (A ++ (encL k false v ++ C)) n k false = v := by
  unfold getN
  rw [piece_app hn (encL_length _ _ _)]
  simp only [Bool.false_eq_true, if_false]
  rw [encL_little, Nat.mod_eq_of_lt hv]
theorem entAt_mid {P Q : List UInt8} {g : Gu} {o s a : Nat} (ha : P.length = a) (ho : o < 18446744073709551616) (hs : s < 18446744073709551616) : entAt (P ++ (entB g o s ++ Q)) a = ⟨g, o, s, 0⟩ := by
  have e1 : P ++ (entB g o s ++ Q) = (P ++ g.1) ++ (encL 8 false o ++ (encL 8 false s ++ (encL 8 false 0 ++ Q))) := by simp [entB]
  have e2 : P ++ (entB g o s ++ Q) = (P ++ g.1 ++ encL 8 false o) ++ (encL 8 false s ++ (encL 8 false 0 ++ Q)) := by simp [entB]
  have e3 : P ++ (entB g o s ++ Q) = (P ++ g.1 ++ encL 8 false o ++ encL 8 false s) ++ (encL 8 false 0 ++ Q) := by simp [entB]
  have hg := g.2
  have p8 : (256 : Nat) ^ 8 = 18446744073709551616 := by decide
  unfold entAt
  congr 1
  · apply Subtype.ext
    unfold guAt
    apply List.ext_getElem?
    intro i
    rw [List.getElem?_map]
    rcases Nat.lt_or_ge i 16 with h | h
    · rw [List.getElem?_range h, Option.map_some]
      have : (P ++ (entB g o s ++ Q))[a + i]? = g.1[i]? := by
        rw [List.getElem?_append_right (by omega), show a + i - P.length = i by omega]
        unfold entB
        simp only [List.append_assoc]
        rw [List.getElem?_append_left (by omega)]
      rw [this, List.getElem?_eq_getElem (by omega)]
      rfl
    · rw [List.getElem?_eq_none (by simp; omega), List.getElem?_eq_none (by omega)]; rfl
  · rw [e1]; exact getN_app (by simp; omega) (by rw [p8]; exact ho)
  · rw [e2]; exact getN_app (by simp [encL_length]; omega) (by rw [p8]; exact hs)
  · rw [e3]; exact getN_app (by simp [encL_length]; omega) (by decide)
/-- the entries of images that lie one behind the other -/
def ents (fr : Nat) : Nat → List (Gu × List UInt8) → List En
  | _, [] => []
  | dl, (g, d) :: r => ⟨g, fr + dl, d.length, 0⟩ :: ents fr (dl + d.length) r
theorem ents_len (fr : Nat) : ∀ (Z : List (Gu × List UInt8)) (dl : Nat), (ents fr dl Z).length = Z.length
  | [], _ => rfl
  | (g, d) :: r, dl => by simp [ents, ents_len fr r]
theorem ents_ids (fr : Nat) : ∀ (Z : List (Gu × List UInt8)) (dl : Nat), (ents fr dl Z).map En.id = Z.map Prod.fst
  | [], _ => rfl
  | (g, d) :: r, dl => by simp [ents, ents_ids fr r]
def tabB (es : List En) : List UInt8 := es.flatMap fun e => entB e.id e.off e.sz
theorem tabB_len : ∀ es : List En, (tabB es).length = 40 * es.length
  | [] => rfl
  | e :: r => by
    have := tabB_len r
    unfold tabB at this ⊢
    rw [List.flatMap_cons, List.length_append, entB_len, this, List.length_cons]; omega
def allB (Z : List (Gu × List UInt8)) : List UInt8 := (Z.map Prod.snd).flatten
structure Shape (fr : Nat) (prev : List Gu) (tab data : List UInt8) (Z : List (Gu × List UInt8)) (tab' data' : List UInt8) : Prop where
  t : tab' = tab ++ tabB (ents fr data.length Z)
  d : data' = data ++ allB Z
  z : ∀ g ∈ Z.map Prod.fst, g ≠ gz ∧ g ∉ prev
  n : (Z.map Prod.fst).Nodup
  l : ∀ d ∈ Z.map Prod.snd, d.length ≠ 0
  s : Z ≠ [] → fr + data'.length ≤ 131072
theorem mk_shape {fr : Nat} {tab' data' : List UInt8} {c : Int} : ∀ (Z : List (Gu × List UInt8)) (prev : List Gu) (tab data : List UInt8), makeGo fr prev tab data Z = (some (tab', data'), c) → Shape fr prev tab data Z tab' data'
  | [], prev, tab, data, h => by
    rw [makeGo] at h
    cases h
    exact ⟨by simp [ents, tabB], by simp [allB], fun g hg => (by cases hg), List.nodup_nil, fun d hd => (by cases hd), fun h => absurd rfl h⟩
  | (g, d) :: r, prev, tab, data, h => by
    rw [makeGo] at h
    split at h
    · cases h
    · rename_i h1
      split at h
      · cases h
      · rename_i h2
        split at h
        · cases h
        · rename_i h3
          obtain ⟨a1, a2, a3, a4, a5, a6⟩ := mk_shape r _ _ _ h
          rw [List.length_append] at a1
          refine ⟨?_, ?_, ?_, ?_, ?_, ?_⟩
          · rw [a1, ents]; simp [tabB]
          · rw [a2]; simp [allB]
          · intro x hx
            rw [List.map_cons, List.mem_cons] at hx
            rcases hx with rfl | hx
            · exact ⟨h1, h2⟩
            · exact ⟨(a3 x hx).1, fun hm => (a3 x hx).2 (List.mem_append_left _ hm)⟩
          · rw [List.map_cons, List.nodup_cons]
            exact ⟨fun hm => (a3 _ hm).2 (List.mem_append_right _ (List.mem_singleton.2 rfl)), a4⟩
          · intro x hx
            rw [List.map_cons, List.mem_cons] at hx
            rcases hx with rfl | hx
            · omega
            · exact a5 x hx
          · intro _
            cases r with
            | nil => rw [a2]; simp [allB]; omega
            | cons y ys => exact a6 (by simp)
theorem tabGo_walk {l Q : List UInt8} (hl64 : l.length < 18446744073709551616) : ∀ (es : List En) (P : List UInt8) (F a : Nat) (es0 : List En), l = P ++ (tabB es ++ (entB gz l.length 0 ++ Q)) → P.length = a → l.length < F + a →
    (∀ e ∈ es, e.id ≠ gz ∧ e.id ∉ es0.map En.id ∧ e.off < 18446744073709551616 ∧ e.sz < 18446744073709551616 ∧ e.fl = 0) → (es.map En.id).Nodup → es0.length + es.length ≤ 32 → tabGo l F a es0 = (some (es0 ++ es, a + 40 * (es.length + 1)), 0)
  | [], P, F, a, es0, hl, ha, hF, _, _, _ => by
    have he : entAt l a = ⟨gz, l.length, 0, 0⟩ := by
      have := entAt_mid (P := P) (Q := Q) (g := gz) ha hl64 (by decide : 0 < 18446744073709551616)
      simp only [tabB, List.flatMap_nil, List.nil_append] at hl
      rw [← hl] at this
      exact this
    have hlen : ¬ l.length < a + 40 := by
      have := congrArg List.length hl
      simp only [List.length_append, entB_len] at this
      omega
    rw [tabGo_end hF hlen (by rw [he]), if_pos he, List.append_nil]
    rfl
  | e :: r, P, F, a, es0, hl, ha, hF, hz, hn, h32 => by
    obtain ⟨z1, z2, z3, z4, z5⟩ := hz e (List.mem_cons_self)
    have e1 : P ++ (tabB (e :: r) ++ (entB gz l.length 0 ++ Q)) = P ++ (entB e.id e.off e.sz ++ (tabB r ++ (entB gz l.length 0 ++ Q))) := by simp [tabB]
    have he : entAt l a = e := by
      have := entAt_mid (P := P) (Q := tabB r ++ (entB gz l.length 0 ++ Q)) (g := e.id) ha z3 z4
      rw [← e1, ← hl] at this
      rw [this]
      cases e
      simp only at z5
      rw [z5]
    have hlen : ¬ l.length < a + 40 := by
      have := congrArg List.length (hl.trans e1)
      simp only [List.length_append, entB_len] at this
      omega
    rw [List.length_cons] at h32
    obtain ⟨F', h1, h2⟩ := tabGo_next (es := es0) hF hlen (by rw [he]; exact z1) (show es0.length ≠ 32 by omega) (by rw [he]; exact z2)
    rw [List.map_cons, List.nodup_cons] at hn
    rw [h1, he, tabGo_walk hl64 r (P ++ entB e.id e.off e.sz) F' (a + 40) (es0 ++ [e]) (by rw [List.append_assoc, ← e1]; exact hl) (by rw [List.length_append, entB_len, ha]) h2 (fun x hx => by
      obtain ⟨y1, y2, y3, y4, y5⟩ := hz x (List.mem_cons_of_mem _ hx)
      refine ⟨y1, fun hm => ?_, y3, y4, y5⟩
      rw [List.map_append, List.mem_append] at hm
      rcases hm with hm | hm
      · exact y2 hm
      · simp only [List.map_cons, List.map_nil, List.mem_singleton] at hm
        exact hn.1 (hm ▸ List.mem_map_of_mem hx)) hn.2 (by simp only [List.length_append, List.length_cons, List.length_nil]; omega)]
    rw [List.append_assoc, List.singleton_append, List.length_cons]
    rw [show a + 40 + 40 * (r.length + 1) = a + 40 * (r.length + 1 + 1) by omega]
theorem chk_walk {n fr : Nat} (h131 : n ≤ 131072) : ∀ (Z : List (Gu × List UInt8)) (dl : Nat) (done : List En), (∀ y ∈ done, y.off + y.sz ≤ fr + dl) → (∀ d ∈ Z.map Prod.snd, d.length ≠ 0) → fr + dl + (allB Z).length ≤ n → chkGo n fr done (ents fr dl Z) = 0
  | [], _, _, _, _, _ => rfl
  | (g, d) :: r, dl, done, hd, hz, hn => by
    have hl : (allB ((g, d) :: r)).length = d.length + (allB r).length := by simp [allB]
    rw [hl] at hn
    have hz0 := hz d (by simp)
    rw [ents, chkGo, if_neg, if_neg]
    · refine chk_walk h131 r _ _ (fun y hy => ?_) (fun x hx => hz x (by rw [List.map_cons]; exact List.mem_cons_of_mem _ hx)) (by omega)
      rw [List.mem_append, List.mem_singleton] at hy
      rcases hy with hy | rfl
      · have := hd y hy; omega
      · simp only; omega
    · intro ha
      obtain ⟨y, hy, hlap⟩ := List.any_eq_true.1 ha
      have := hd y hy
      unfold lap at hlap
      rw [Nat.mod_eq_of_lt (by omega)] at hlap
      simp only [Bool.and_eq_true, decide_eq_true_eq] at hlap
      omega
    · unfold badE
      simp only [Bool.or_eq_true, decide_eq_true_eq]
      omega
theorem ents_piece {fr : Nat} {T : List UInt8} (hT : T.length = fr) : ∀ (Z : List (Gu × List UInt8)) (dl : Nat) (D : List UInt8), D.length = dl → ∀ (i : Nat) (e : En), (ents fr dl Z)[i]? = some e → ∃ g d, Z[i]? = some (g, d) ∧ e.id = g ∧ piece (T ++ (D ++ allB Z)) e.off e.sz = d
  | [], _, _, _, i, e, h => by simp [ents] at h
  | (g, d) :: r, dl, D, hD, i, e, h => by
    have e1 : T ++ (D ++ allB ((g, d) :: r)) = (T ++ D) ++ (d ++ allB r) := by simp [allB]
    have e2 : T ++ (D ++ allB ((g, d) :: r)) = T ++ ((D ++ d) ++ allB r) := by simp [allB]
    rw [ents] at h
    cases i with
    | zero =>
      simp only [List.getElem?_cons_zero, Option.some.injEq] at h
      subst h
      exact ⟨g, d, rfl, rfl, by rw [e1]; exact piece_app (by simp; omega) rfl⟩
    | succ i =>
      rw [List.getElem?_cons_succ] at h
      obtain ⟨g', d', h1, h2, h3⟩ := ents_piece hT r (dl + d.length) (D ++ d) (by simp; omega) i e h
      exact ⟨g', d', h1, h2, by rw [e2]; exact h3⟩
theorem makeGo_none {fr : Nat} {c : Int} : ∀ (Z : List (Gu × List UInt8)) (prev : List Gu) (tab data : List UInt8), makeGo fr prev tab data Z = (none, c) → c ≠ 0
  | [], _, _, _, h => by rw [makeGo] at h; cases h
  | (g, d) :: r, prev, tab, data, h => by
    rw [makeGo] at h
    split at h
    · cases h; decide
    · split at h
      · cases h; decide
      · split at h
        · cases h; decide
        · exact makeGo_none r _ _ _ h
theorem headB_len : headB.length = 16 := by simp [headB, encL_length]
theorem headB_get (R : List UInt8) : getN (headB ++ R) 0 4 false = 2858680321 ∧ getN (headB ++ R) 4 4 false = 305419896 ∧ getN (headB ++ R) 8 8 false = 0 := by
  have e0 : headB ++ R = [] ++ (encL 4 false 2858680321 ++ (encL 4 false 305419896 ++ (encL 8 false 0 ++ R))) := by simp [headB]
  have e1 : headB ++ R = encL 4 false 2858680321 ++ (encL 4 false 305419896 ++ (encL 8 false 0 ++ R)) := by simp [headB]
  have e2 : headB ++ R = (encL 4 false 2858680321 ++ encL 4 false 305419896) ++ (encL 8 false 0 ++ R) := by simp [headB]
  refine ⟨?_, ?_, ?_⟩
  · rw [e0]; exact getN_app rfl (by decide)
  · rw [e1]; exact getN_app (encL_length _ _ _) (by decide)
  · rw [e2]; exact getN_app (by simp [encL_length]) (by decide)
theorem ents_in {fr : Nat} : ∀ (Z : List (Gu × List UInt8)) (dl : Nat) (e : En), e ∈ ents fr dl Z → e.off ≤ fr + dl + (allB Z).length ∧ e.sz ≤ (allB Z).length ∧ e.fl = 0
  | [], _, e, h => by simp [ents] at h
  | (g, d) :: r, dl, e, h => by
    have hl : (allB ((g, d) :: r)).length = d.length + (allB r).length := by simp [allB]
    rw [ents, List.mem_cons] at h
    rcases h with rfl | h
    · exact ⟨by simp only; omega, by simp only; omega, rfl⟩
    · obtain ⟨h1, h2, h3⟩ := ents_in r _ e h
      exact ⟨by omega, by omega, h3⟩
/-- either nothing was packed, or the package is a head, the entries of just these images, the end, the images -/
theorem makeR_said (ids : List Gu) (imgs : List (List UInt8)) : ((makeR ids imgs).2 ≠ 0 ∧ (makeR ids imgs).1 = []) ∨
    ((makeR ids imgs).2 = 0 ∧ ids.length = imgs.length ∧ ids.length ≤ 32 ∧ ∃ tab data, Shape (16 + 40 * (ids.length + 1)) [] headB [] (ids.zip imgs) tab data ∧
      (makeR ids imgs).1 = tab ++ entB gz (16 + 40 * (ids.length + 1) + data.length) 0 ++ data) := by
  by_cases h : ids.length ≠ imgs.length ∨ 32 < ids.length
  · left; rw [makeR_arg h]; exact ⟨by decide, rfl⟩
  · rcases hm : makeGo (16 + 40 * (ids.length + 1)) [] headB [] (ids.zip imgs) with ⟨_ | ⟨tab, data⟩, c⟩
    · left; rw [makeR_none h hm]; exact ⟨makeGo_none _ _ _ _ hm, rfl⟩
    · right; rw [makeR_some h hm]; exact ⟨rfl, by omega, by omega, tab, data, mk_shape _ _ _ _ hm, rfl⟩
/-- what was packed is unpacked -/
theorem back {ids : List Gu} {imgs : List (List UInt8)} (h : (makeR ids imgs).2 = 0) : ids.length = imgs.length ∧ (makeR ids imgs).1.length ≤ 131072 ∧ ∃ es, openR (makeR ids imgs).1 = (some es, 0) ∧ es.length = ids.length ∧
    ∀ (i : Nat) (e : En), es[i]? = some e → ids[i]? = some e.id ∧ ∃ d, imgs[i]? = some d ∧ imageR (makeR ids imgs).1 e.id = (d, 0) := by
  rcases makeR_said ids imgs with ⟨h1, _⟩ | ⟨_, hlen, h32, tab, data, hsh, hb⟩
  · exact absurd h h1
  rw [hb]
  generalize (makeR ids imgs).1 = b0 at *
  obtain ⟨fr, hfr⟩ : ∃ fr, 16 + 40 * (ids.length + 1) = fr := ⟨_, rfl⟩
  obtain ⟨Z, hZ⟩ : ∃ Z, ids.zip imgs = Z := ⟨_, rfl⟩
  have hZl : Z.length = ids.length := by rw [← hZ, List.length_zip]; omega
  have hZ1 : Z.map Prod.fst = ids := by rw [← hZ]; exact List.map_fst_zip (by omega)
  rw [hfr, hZ] at hsh
  rw [hfr]
  obtain ⟨s1, s2, s3, s4, s5, s6⟩ := hsh
  rw [List.length_nil] at s1
  rw [List.nil_append] at s2
  subst s1
  subst s2
  obtain ⟨es, hes⟩ : ∃ es, ents fr 0 Z = es := ⟨_, rfl⟩
  have hel : es.length = ids.length := by rw [← hes, ents_len, hZl]
  have hei : es.map En.id = ids := by rw [← hes, ents_ids, hZ1]
  have htl : (headB ++ tabB es).length + 40 = fr := by rw [List.length_append, headB_len, tabB_len, hel]; omega
  have h131 : fr + (allB Z).length ≤ 131072 := by
    cases hz : Z with
    | nil => rw [hz] at hZl; simp at hZl; simp [allB]; omega
    | cons y ys => rw [hz] at s6; exact s6 (by simp)
  rw [hes]
  obtain ⟨b, hbb⟩ : ∃ b, headB ++ tabB es ++ entB gz (fr + (allB Z).length) 0 ++ allB Z = b := ⟨_, rfl⟩
  have hbl : b.length = fr + (allB Z).length := by rw [← hbb, List.length_append, List.length_append, entB_len]; omega
  rw [hbb]
  have hb1 : b = headB ++ (tabB es ++ (entB gz b.length 0 ++ allB Z)) := by rw [hbl, ← hbb]; simp
  have htab : tabR b = (some (es, fr), 0) := by
    have := tabGo_walk (l := b) (Q := allB Z) (by omega) es headB (b.length + 1) 16 [] hb1 headB_len (by omega) (fun e he => by
      obtain ⟨a1, a2, a3⟩ := ents_in Z 0 e (by rw [hes]; exact he)
      exact ⟨(s3 e.id (by rw [hZ1, ← hei]; exact List.mem_map_of_mem he)).1, by simp, by omega, by omega, a3⟩) (by rw [hei, ← hZ1]; exact s4) (by rw [hel]; simpa using h32)
    unfold tabR
    rw [this, hel, hfr]
    rfl
  have hchk : chkGo b.length fr [] es = 0 := by
    rw [← hes]
    exact chk_walk (by omega) Z 0 [] (fun y hy => by cases hy) s5 (by omega)
  have hop : openR b = (some es, 0) := by
    obtain ⟨g1, g2, g3⟩ := headB_get (tabB es ++ (entB gz b.length 0 ++ allB Z))
    rw [← hb1] at g1 g2 g3
    unfold openR
    rw [if_neg (by rw [g1, g2, g3]; simp; omega), htab]
    simp only [hchk, if_true]
  refine ⟨hlen, by omega, es, hop, hel, fun i e he => ?_⟩
  obtain ⟨g, d, z1, z2, z3⟩ := ents_piece (fr := fr) (T := headB ++ tabB es ++ entB gz (fr + (allB Z).length) 0) (by rw [List.length_append, entB_len]; exact htl) Z 0 [] rfl i e (by rw [hes]; exact he)
  rw [List.nil_append, hbb] at z3
  have hid : ids[i]? = some e.id := by rw [← hei, List.getElem?_map, he]; rfl
  refine ⟨hid, d, ?_, ?_⟩
  · rw [← hZ, List.getElem?_zip_eq_some] at z1
    exact z1.2
  · have hf : es.find? (fun x => decide (x.id = e.id)) = some e := by
      refine find_at he (fun x hx hxe => ?_) rfl
      obtain ⟨k, hk⟩ := List.getElem?_of_mem hx
      have hki : k < i := by
        rcases Nat.lt_or_ge k i with h | h
        · exact h
        · rw [List.getElem?_eq_none (by rw [List.length_take]; omega)] at hk; cases hk
      rw [List.getElem?_take_of_lt hki] at hk
      exact (openR_apart hop he).2.2 k x hki hk |>.1 hxe.symm
    rw [imageR_hit hop hf, z3]
end Go.Proofs.Ytefkmlfpdlnodaa
