/- The program's hash: its words as bytes. No condition. -/
import Derived.Test.YtngkelflfahjbaaDoorShaK
set_option linter.unusedVariables false
set_option linter.unusedSimpArgs false
namespace Go.Proofs.YtngkelflfahjbaaDoor
open Go.RowKit
structure WsIn (ww : Nat) (l : List Nat) (w : World) (o i : Value) (wr : World) : Prop where
  x : ∃ (t : Nat) (u : Value), t ≤ 8 ∧ i = .int .i64 (t : Nat) ∧ u = o ∧ Own 5 wr w.heap.size u (wordsL ww (l.take t)) ∧ Gr w wr (.slice none 0 0) u ∧ w.heap.size ≤ wr.heap.size
set_option maxHeartbeats 1000000 in
theorem words_any (hb k : Nat) (st : S8) (n : Nat) (rv : Value) (w : World) (hk : 1 ≤ k ∧ k ≤ 3) (hH : HB w hb 67 (hashC k st n rv)) :
    Calls Tryd.prog 38 #[.pointer (some ⟨hb, 0, none⟩)] w fun e w' => ∃ v, e = .returned v ∧ Own 5 w' w.heap.size v (wordsL (wK k) (s8l st)) ∧ Below w.heap.size w w' := by
  have hrg := hH.range 11 8
  have hi63 : (Tryd.prog.info? 63).map (·.size) = some ((s8l st).map u64v).length := by rw [List.length_map]; kernel_rfl
  have Hrg := Lib.hid (show w.rangeAt hb 11 ((s8l st).map u64v) from hrg)
  have Hi63 := Lib.hid hi63
  have HH := Lib.hid hH
  have Hk := Lib.hid hk
  clear hrg hi63 hH
  rcases size_kind hk with ⟨h1, hw, hsz⟩ | ⟨h1, hw, hsz⟩
  · rw [hw]
    have Hsz0 := Lib.hid hsz
    clear h1 hw hsz hk
    go_enter Tryd.func38, Tryd.ntmps38
    go_wp2_with (refine wpList_load_mid rfl _ _ rfl hb 11 rfl ((s8l st).map u64v) _ Hrg.out Tryd.underlying63 rfl Hi63.out ?_)
    as_aux_lemma =>
    go_loopw [3, 5, 10] (fun o _ i wr => WsIn 32 (s8l st) w o i wr) (fun _ _ i _ => 8 - (intOf i).toNat)
    case atStart => exact ⟨0, _, by omega, rfl, rfl, by simpa [wordsL] using Own.nil _ _ _, Gr.refl _ _, Nat.le_refl _⟩
    case round =>
      as_aux_lemma =>
      obtain ⟨t, u, ht, rfl, rfl, hown, hgr, hsz⟩ := hrel
      have HO := Lib.hid hown
      have HG := Lib.hid hgr
      have Hsz := Lib.hid hsz
      clear hown hgr hsz
      by_cases hlt : t < 8
      · obtain ⟨X, hX⟩ : ∃ X, (s8l st)[t]? = some X := ⟨_, List.getElem?_eq_getElem (by rw [s8l_len]; exact hlt)⟩
        have hidx : ∀ w, (Instr.index 63 (.agg ((s8l st).map u64v).toArray) (.int .i64 (t : Int))).run Tryd.prog w = .ok (.int .u64 (X : Int)) w := fun w => run_index_one (P := Tryd.prog) w 63 37 8 t ((s8l st).map u64v) .i64 (u64v X) Tryd.underlying63 (Tryd.sizeOf37 w) (Tryd.isAgg37 w) hlt (by rw [List.getElem?_map, hX]; rfl)
        have HHr := HH.out.grown HG.out.g (by intro e; cases e)
        have Hkb := kblock_any hb k st n rv wr Hk.out HHr
        rw [Hsz0.out] at Hkb
        have HKb := Lib.hid Hkb
        have Hsn : Hid (wordsL 32 ((s8l st).take (t + 1)) = wordsL 32 ((s8l st).take t) ++ encL 4 true X) := Lib.hid (wordsL_snoc 32 (s8l st) t X hX)
        have Hlen : Hid ((wordsL 32 ((s8l st).take t)).length ≤ 100) := Lib.hid (by
          rw [wordsL_len, List.length_take, s8l_len]
          have h1 : min t 8 ≤ 8 := Nat.min_le_right _ _
          show min t 8 * 4 ≤ 100
          omega)
        have Hpu := Lib.hid (fun w5 (h : Own 5 w5 w.heap.size u (wordsL 32 ((s8l st).take t))) h2 => sput_any w.heap.size u (wordsL 32 ((s8l st).take t)) 4 X w5 h (by decide) h2 (by have := Hlen.out; omega))
        have i1 : (t : Int) < 8 := by omega
        clear hX HHr Hkb
        go_wp2_with fail
        as_aux_lemma =>
        refine HKb.out.mono ?_
        rintro e w2 ⟨rfl, rfl⟩
        go_wp2_with fail
        as_aux_lemma =>
        refine (Hpu.out _ HO.out Hsz.out).mono ?_
        rintro e w3 ⟨u3, rfl, ho3, hg3, hs3⟩
        have HO3 : Hid (Own 5 w3 w.heap.size u3 (wordsL 32 ((s8l st).take (t + 1)))) := Lib.hid (by rw [Hsn.out]; exact ho3)
        have HG3 := Lib.hid (HG.out.trans hg3)
        have Hs3 := Lib.hid hs3
        clear ho3 hg3 hs3 HKb Hpu HO HG Hsz hidx Hsn Hlen
        go_wp2_with fail
        first
        | (go_roundw
           case rel => exact ⟨t + 1, u3, by omega, by go_num, rfl, HO3.out, HG3.out, Hs3.out⟩
           case measure => (first | omega | (simp [intOf] <;> omega) | (simp only [intOf] <;> omega)))
        | exact ⟨⟨t + 1, u3, by omega, by go_num, rfl, HO3.out, HG3.out, Hs3.out⟩, by (first | omega | (simp [intOf] <;> omega) | (simp only [intOf] <;> omega))⟩
        | (refine ⟨?_, by (first | omega | (simp [intOf] <;> omega) | (simp only [intOf] <;> omega))⟩
           (repeat apply Exists.intro)
           refine (fun a b => And.intro b a) ?_ ?_
           · first | rfl | ((repeat refine ⟨rfl, ?_⟩); rfl)
           exact ⟨t + 1, u3, by omega, by go_num, rfl, HO3.out, HG3.out, Hs3.out⟩)
      · obtain rfl : t = 8 := by omega
        go_wp2_with fail
        go_ret
        refine ⟨u, rfl, ?_, ?_⟩
        · have h := HO.out
          rw [List.take_of_length_le (by rw [s8l_len]; exact Nat.le_refl _)] at h
          exact h
        · exact HG.out.below (Own.nil _ _ _) (Nat.le_refl _)
  · rw [hw]
    have Hsz0 := Lib.hid hsz
    clear h1 hw hsz hk
    go_enter Tryd.func38, Tryd.ntmps38
    go_wp2_with (refine wpList_load_mid rfl _ _ rfl hb 11 rfl ((s8l st).map u64v) _ Hrg.out Tryd.underlying63 rfl Hi63.out ?_)
    as_aux_lemma =>
    go_loopw [3, 5, 10] (fun o _ i wr => WsIn 64 (s8l st) w o i wr) (fun _ _ i _ => 8 - (intOf i).toNat)
    case atStart => exact ⟨0, _, by omega, rfl, rfl, by simpa [wordsL] using Own.nil _ _ _, Gr.refl _ _, Nat.le_refl _⟩
    case round =>
      as_aux_lemma =>
      obtain ⟨t, u, ht, rfl, rfl, hown, hgr, hsz⟩ := hrel
      have HO := Lib.hid hown
      have HG := Lib.hid hgr
      have Hsz := Lib.hid hsz
      clear hown hgr hsz
      by_cases hlt : t < 8
      · obtain ⟨X, hX⟩ : ∃ X, (s8l st)[t]? = some X := ⟨_, List.getElem?_eq_getElem (by rw [s8l_len]; exact hlt)⟩
        have hidx : ∀ w, (Instr.index 63 (.agg ((s8l st).map u64v).toArray) (.int .i64 (t : Int))).run Tryd.prog w = .ok (.int .u64 (X : Int)) w := fun w => run_index_one (P := Tryd.prog) w 63 37 8 t ((s8l st).map u64v) .i64 (u64v X) Tryd.underlying63 (Tryd.sizeOf37 w) (Tryd.isAgg37 w) hlt (by rw [List.getElem?_map, hX]; rfl)
        have HHr := HH.out.grown HG.out.g (by intro e; cases e)
        have Hkb := kblock_any hb k st n rv wr Hk.out HHr
        rw [Hsz0.out] at Hkb
        have HKb := Lib.hid Hkb
        have Hsn : Hid (wordsL 64 ((s8l st).take (t + 1)) = wordsL 64 ((s8l st).take t) ++ encL 8 true X) := Lib.hid (wordsL_snoc 64 (s8l st) t X hX)
        have Hlen : Hid ((wordsL 64 ((s8l st).take t)).length ≤ 100) := Lib.hid (by
          rw [wordsL_len, List.length_take, s8l_len]
          have h1 : min t 8 ≤ 8 := Nat.min_le_right _ _
          show min t 8 * 8 ≤ 100
          omega)
        have Hpu := Lib.hid (fun w5 (h : Own 5 w5 w.heap.size u (wordsL 64 ((s8l st).take t))) h2 => sput_any w.heap.size u (wordsL 64 ((s8l st).take t)) 8 X w5 h (by decide) h2 (by have := Hlen.out; omega))
        have i1 : (t : Int) < 8 := by omega
        clear hX HHr Hkb
        go_wp2_with fail
        as_aux_lemma =>
        refine HKb.out.mono ?_
        rintro e w2 ⟨rfl, rfl⟩
        go_wp2_with fail
        as_aux_lemma =>
        refine (Hpu.out _ HO.out Hsz.out).mono ?_
        rintro e w3 ⟨u3, rfl, ho3, hg3, hs3⟩
        have HO3 : Hid (Own 5 w3 w.heap.size u3 (wordsL 64 ((s8l st).take (t + 1)))) := Lib.hid (by rw [Hsn.out]; exact ho3)
        have HG3 := Lib.hid (HG.out.trans hg3)
        have Hs3 := Lib.hid hs3
        clear ho3 hg3 hs3 HKb Hpu HO HG Hsz hidx Hsn Hlen
        go_wp2_with fail
        first
        | (go_roundw
           case rel => exact ⟨t + 1, u3, by omega, by go_num, rfl, HO3.out, HG3.out, Hs3.out⟩
           case measure => (first | omega | (simp [intOf] <;> omega) | (simp only [intOf] <;> omega)))
        | exact ⟨⟨t + 1, u3, by omega, by go_num, rfl, HO3.out, HG3.out, Hs3.out⟩, by (first | omega | (simp [intOf] <;> omega) | (simp only [intOf] <;> omega))⟩
        | (refine ⟨?_, by (first | omega | (simp [intOf] <;> omega) | (simp only [intOf] <;> omega))⟩
           (repeat apply Exists.intro)
           refine (fun a b => And.intro b a) ?_ ?_
           · first | rfl | ((repeat refine ⟨rfl, ?_⟩); rfl)
           exact ⟨t + 1, u3, by omega, by go_num, rfl, HO3.out, HG3.out, Hs3.out⟩)
      · obtain rfl : t = 8 := by omega
        go_wp2_with fail
        go_ret
        refine ⟨u, rfl, ?_, ?_⟩
        · have h := HO.out
          rw [List.take_of_length_le (by rw [s8l_len]; exact Nat.le_refl _)] at h
          exact h
        · exact HG.out.below (Own.nil _ _ _) (Nat.le_refl _)
end Go.Proofs.YtngkelflfahjbaaDoor
