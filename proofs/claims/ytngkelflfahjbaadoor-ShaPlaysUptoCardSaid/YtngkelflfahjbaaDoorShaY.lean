/- The document's SHA-2: Kind, First. No condition. -/
import Derived.Test.YtngkelflfahjbaaDoorShaQ
import Derived.Test.YtngkelflfahjbaaDoorShaI
set_option linter.unusedVariables false
set_option linter.unusedSimpArgs false
namespace Go.Proofs.YtngkelflfahjbaaDoor
open Go.RowKit
theorem kind_any (k : Nat) (w : World) (hk : 1 ≤ k ∧ k ≤ 3) :
    Calls Tryd.prog 29 #[.int .i64 (k : Nat)] w fun e w' => e = .returned (.tuple #[.int .u64 (wK k : Nat), .int .i64 (sizeW (wK k) : Nat), .int .i64 (rnds (wK k) : Nat), .int .i64 (digK k : Nat)]) ∧ w = w' := by
  rcases (by omega : k = 1 ∨ k = 2 ∨ k = 3) with rfl | rfl | rfl
  all_goals
    clear hk
    go_enter Tryd.func29, Tryd.ntmps29
    go_wp2_with fail
    exact bodyPost_ret (by simp [results, Tryd.results29, go_sem]; exact ⟨rfl, rfl, rfl, rfl⟩) rfl ⟨rfl, rfl⟩
/-- the 16 numbers -/
def sqs : List Nat := s8l (firstK 3) ++ s8l (firstK 2)
theorem first_at (k t : Nat) (hk : 1 ≤ k ∧ k ≤ 3) (ht : t < 8) : ∃ N X, sqs[if k = 2 then t + 8 else t]?.getD 0 = N ∧ (s8l (firstK k))[t]? = some X ∧ X = (if k = 1 then N / 4294967296 else N) := by
  rcases (by omega : k = 1 ∨ k = 2 ∨ k = 3) with rfl | rfl | rfl
  all_goals
    match t, ht with
    | 0, _ => exact ⟨_, _, rfl, rfl, rfl⟩
    | 1, _ => exact ⟨_, _, rfl, rfl, rfl⟩
    | 2, _ => exact ⟨_, _, rfl, rfl, rfl⟩
    | 3, _ => exact ⟨_, _, rfl, rfl, rfl⟩
    | 4, _ => exact ⟨_, _, rfl, rfl, rfl⟩
    | 5, _ => exact ⟨_, _, rfl, rfl, rfl⟩
    | 6, _ => exact ⟨_, _, rfl, rfl, rfl⟩
    | 7, _ => exact ⟨_, _, rfl, rfl, rfl⟩
def z8L : List Value := fillA u64v (u64v 0) 8 []
structure FiIn (B k : Nat) (w : World) (i : Value) (wr : World) : Prop where
  x : ∃ t : Nat, t ≤ 8 ∧ i = .int .i64 (t : Nat) ∧ HB wr B 63 (fillA u64v (u64v 0) 8 ((s8l (firstK k)).take t)) ∧ Below B w wr ∧ B < wr.heap.size
set_option maxRecDepth 100000 in
set_option maxHeartbeats 1000000 in
theorem first_any (k : Nat) (w : World) (hk : 1 ≤ k ∧ k ≤ 3) :
    Calls Tryd.prog 43 #[.int .i64 (k : Nat)] w fun e w' => e = .returned (.agg ((s8l (firstK k)).map u64v).toArray) ∧ Below w.heap.size w w' := by
  have hz8 : ∀ w, (zeroValue 63).run Tryd.prog w = .ok (.agg z8L.toArray) w := fun w => by kernel_rfl
  have Hk := Lib.hid hk
  have HW0 := Lib.hid (HB.new w z8L 63)
  have HB0 := Lib.hid ((Below.refl w.heap.size w).alloc (Nat.le_refl _) (.cells z8L.toArray 63))
  have Hs0 : Hid ((w.alloc (.cells z8L.toArray 63)).heap.size = w.heap.size + 1) := Lib.hid (by simp)
  clear hk
  go_enter Tryd.func43, Tryd.ntmps43
  go_upto_region 1 with fail
  as_aux_lemma =>
  generalize w.alloc (.cells z8L.toArray 63) = w1 at *
  have HW1 := Lib.hid (HB.new w1 z8L 63)
  have HWr := Lib.hid (HW0.out.alloc (.cells z8L.toArray 63))
  have HB1 := Lib.hid (HB0.out.alloc HB0.out.size (.cells z8L.toArray 63))
  have Hs1 : Hid ((w1.alloc (.cells z8L.toArray 63)).heap.size = w1.heap.size + 1) := Lib.hid (by simp)
  go_upto_region 2 with fail
  as_aux_lemma =>
  generalize w1.alloc (.cells z8L.toArray 63) = w2 at *
  obtain ⟨B, hB⟩ : ∃ B, w1.heap.size = B := ⟨_, rfl⟩
  rw [hB] at HW1 Hs1 Hs0 ⊢
  obtain ⟨R, hR⟩ : ∃ R, w.heap.size = R := ⟨_, rfl⟩
  rw [hR] at HW0 HWr HB0 HB1 Hs0 ⊢
  have HR := Lib.hid hR
  clear hB hR hz8 HW0 HB0
  go_upto_region 3 with fail
  go_loopw [4, 5] (fun i _ wr => FiIn B k w2 i wr) (fun i _ _ => 8 - (intOf i).toNat)
  case atStart => exact ⟨0, by omega, rfl, (show HB w2 B 63 z8L from HW1.out), Below.refl _ _, by have := Hs1.out; omega⟩
  case round =>
    as_aux_lemma =>
    obtain ⟨t, ht, rfl, hV, hBl, hsz⟩ := hrel
    clear HW1
    have HV := Lib.hid hV
    have HBl := Lib.hid hBl
    have Hsz := Lib.hid hsz
    clear hV hBl hsz
    by_cases hlt : t < 8
    · obtain ⟨N, X, hN, hX, hNX⟩ := first_at k t Hk.out hlt
      have hok : ∀ s : List UInt8, (∀ j, j < 16 → okNum s j (sqs[j]?.getD 0) = true) → ∀ i w, i < 16 → Calls Tryd.prog 50 #[.string ⟨s.toArray⟩, .int .i64 (i : Nat)] w fun e w' => e = .returned (.int .u64 ((sqs[i]?.getD 0 : Nat) : Int)) ∧ w = w' := fun s hs i w hi => number_any s sqs 16 i w hi (by omega) hs
      have Hok := Lib.hid hok
      have hlk : ((s8l (firstK k)).take t).length = t := by rw [List.length_take, s8l_len]; omega
      have hsn : (s8l (firstK k)).take t ++ [X] = (s8l (firstK k)).take (t + 1) := by rw [List.take_add_one, hX]; rfl
      have hcell := HV.out.cell (fillA_next (f := u64v) (z := u64v 0) hlk hlt)
      have hfz := HV.out.frozen t
      have HSN : Hid (HB (wr.setCell ⟨B, t, none⟩ (u64v N)) B 63 (fillA u64v (u64v 0) 8 ((s8l (firstK k)).take t ++ [N]))) := Lib.hid (by rw [← fillA_set hlk hlt]; exact HV.out.set t (u64v N))
      have HBN := Lib.hid (HBl.out.grown (grown_set wr ⟨B, t, none⟩ (u64v N)) (by have := Hsz.out; omega) (fun x hx => Nat.le_of_eq (Option.some.inj hx)))
      have HsN : Hid (B < (wr.setCell ⟨B, t, none⟩ (u64v N)).heap.size) := Lib.hid (by have := Hsz.out; simpa [World.setCell] using this)
      have i1 : (t : Int) < 8 := by omega
      unfold u64v at hcell HSN HBN HsN
      have HX := Lib.hid hX
      have HNX := Lib.hid hNX
      have HN := Lib.hid hN
      have Hlk := Lib.hid hlk
      have Hsn := Lib.hid hsn
      clear hX hNX hN hlk hsn hok
      rcases (by have := Hk.out; omega : k = 1 ∨ k = 2 ∨ k = 3) with rfl | rfl | rfl
      · go_wp2_with fail
        as_aux_lemma =>
        refine (Hok.out _ (by decide +kernel) t wr (by omega)).mono ?_
        rintro e w3 ⟨rfl, rfl⟩
        have hN : sqs[t]?.getD 0 = N := HN.out
        rw [hN]
        go_upto_region 9 with fail
        as_aux_lemma =>
        clear hcell hfz Hok
        generalize wr.setCell ⟨B, t, none⟩ (.int .u64 (N : Nat)) = w4 at *
        have hl1 : ((s8l (firstK 1)).take t ++ [N]).length = t + 1 := by rw [List.length_append, Hlk.out]; rfl
        have hg : (fillA u64v (u64v 0) 8 ((s8l (firstK 1)).take t ++ [N]))[t]? = some (.int .u64 (N : Nat)) := by
          rw [fillA_get (by rw [hl1]; omega), List.getElem?_append_right (by rw [Hlk.out]; exact Nat.le_refl _), Hlk.out, Nat.sub_self]; rfl
        have hcell := HSN.out.cell hg
        have hfz := HSN.out.frozen t
        obtain ⟨X', hX'⟩ : ∃ X', N / 4294967296 = X' := ⟨_, rfl⟩
        have hXX : X = X' := by rw [← hX']; exact HNX.out
        subst hXX
        have d1 : (N : Int) / 4294967296 = (X : Int) := by rw [← hX']; rfl
        have d2 : (N : Int).tdiv 4294967296 = (X : Int) := by rw [Int.tdiv_eq_ediv_of_nonneg (by omega)]; exact d1
        have HNs : Hid (N < 18446744073709551616) := Lib.hid (by
          rw [← HN.out]
          have : ∀ j, j < 8 → sqs[j]?.getD 0 < 18446744073709551616 := by decide +kernel
          exact this t hlt)
        have d3 : IntKind.u64.wrap (X : Int) = (X : Int) := IntWalk.u64_in _ (by have := HNs.out; omega)
        have HS5 : Hid (HB (w4.setCell ⟨B, t, none⟩ (.int .u64 (X : Nat))) B 63 (fillA u64v (u64v 0) 8 ((s8l (firstK 1)).take (t + 1)))) := Lib.hid (by
          rw [← Hsn.out]
          have h := HSN.out.set t (.int .u64 (X : Nat))
          have e : (fillA u64v (u64v 0) 8 ((s8l (firstK 1)).take t ++ [N])).set t (.int .u64 (X : Nat)) = fillA u64v (u64v 0) 8 ((s8l (firstK 1)).take t ++ [X]) := by
            rw [← fillA_set Hlk.out hlt, ← fillA_set Hlk.out hlt, List.set_set]; rfl
          exact (show HB _ _ _ ((fillA u64v (u64v 0) 8 ((s8l (firstK 1)).take t ++ [N])).set t (.int .u64 (X : Nat))) from h) |> fun h => by rw [e] at h; exact h)
        have HB5 := Lib.hid (HBN.out.grown (grown_set w4 ⟨B, t, none⟩ (.int .u64 (X : Nat))) (by have := HsN.out; omega) (fun x hx => Nat.le_of_eq (Option.some.inj hx)))
        have Hs5 : Hid (B < (w4.setCell ⟨B, t, none⟩ (.int .u64 (X : Nat))).heap.size) := Lib.hid (by have := HsN.out; simpa [World.setCell] using this)
        clear hX' hg hl1 HSN HBN HsN
        go_wp2_with fail
        first
        | (go_roundw
           case rel => exact ⟨t + 1, by omega, by go_num, HS5.out, HB5.out, Hs5.out⟩
           case measure => (first | omega | (simp [intOf] <;> omega) | (simp only [intOf] <;> omega)))
        | exact ⟨⟨t + 1, by omega, by go_num, HS5.out, HB5.out, Hs5.out⟩, by (first | omega | (simp [intOf] <;> omega) | (simp only [intOf] <;> omega))⟩
        | (refine ⟨?_, by (first | omega | (simp [intOf] <;> omega) | (simp only [intOf] <;> omega))⟩
           (repeat apply Exists.intro)
           refine (fun a b => And.intro b a) ?_ ?_
           · first | rfl | ((repeat refine ⟨rfl, ?_⟩); rfl)
           exact ⟨t + 1, by omega, by go_num, HS5.out, HB5.out, Hs5.out⟩)
      · have q8 : IntKind.i64.wrap ((t : Int) + 8) = ((t + 8 : Nat) : Int) := by rw [IntWalk.i64_in _ (by omega)]; omega
        go_wp2_with fail
        as_aux_lemma =>
        refine (Hok.out _ (by decide +kernel) (t + 8) wr (by omega)).mono ?_
        rintro e w3 ⟨rfl, rfl⟩
        have hN : sqs[t + 8]?.getD 0 = N := HN.out
        have hXX : X = N := HNX.out
        subst hXX
        rw [hN]
        have HS5 : Hid (HB (wr.setCell ⟨B, t, none⟩ (.int .u64 (X : Nat))) B 63 (fillA u64v (u64v 0) 8 ((s8l (firstK 2)).take (t + 1)))) := Lib.hid (by rw [← Hsn.out]; exact HSN.out)
        clear hN Hok HSN
        go_wp2_with fail
        clear hcell hfz
        first
        | (go_roundw
           case rel => exact ⟨t + 1, by omega, by go_num, HS5.out, HBN.out, HsN.out⟩
           case measure => (first | omega | (simp [intOf] <;> omega) | (simp only [intOf] <;> omega)))
        | exact ⟨⟨t + 1, by omega, by go_num, HS5.out, HBN.out, HsN.out⟩, by (first | omega | (simp [intOf] <;> omega) | (simp only [intOf] <;> omega))⟩
        | (refine ⟨?_, by (first | omega | (simp [intOf] <;> omega) | (simp only [intOf] <;> omega))⟩
           (repeat apply Exists.intro)
           refine (fun a b => And.intro b a) ?_ ?_
           · first | rfl | ((repeat refine ⟨rfl, ?_⟩); rfl)
           exact ⟨t + 1, by omega, by go_num, HS5.out, HBN.out, HsN.out⟩)
      · go_wp2_with fail
        as_aux_lemma =>
        refine (Hok.out _ (by decide +kernel) t wr (by omega)).mono ?_
        rintro e w3 ⟨rfl, rfl⟩
        have hN : sqs[t]?.getD 0 = N := HN.out
        have hXX : X = N := HNX.out
        subst hXX
        rw [hN]
        have HS5 : Hid (HB (wr.setCell ⟨B, t, none⟩ (.int .u64 (X : Nat))) B 63 (fillA u64v (u64v 0) 8 ((s8l (firstK 3)).take (t + 1)))) := Lib.hid (by rw [← Hsn.out]; exact HSN.out)
        clear hN Hok HSN
        go_wp2_with fail
        clear hcell hfz
        first
        | (go_roundw
           case rel => exact ⟨t + 1, by omega, by go_num, HS5.out, HBN.out, HsN.out⟩
           case measure => (first | omega | (simp [intOf] <;> omega) | (simp only [intOf] <;> omega)))
        | exact ⟨⟨t + 1, by omega, by go_num, HS5.out, HBN.out, HsN.out⟩, by (first | omega | (simp [intOf] <;> omega) | (simp only [intOf] <;> omega))⟩
        | (refine ⟨?_, by (first | omega | (simp [intOf] <;> omega) | (simp only [intOf] <;> omega))⟩
           (repeat apply Exists.intro)
           refine (fun a b => And.intro b a) ?_ ?_
           · first | rfl | ((repeat refine ⟨rfl, ?_⟩); rfl)
           exact ⟨t + 1, by omega, by go_num, HS5.out, HBN.out, HsN.out⟩)
    · obtain rfl : t = 8 := by omega
      have hv := HV.out
      rw [List.take_of_length_le (by rw [s8l_len]; exact Nat.le_refl _), fillA_full (s8l_len _)] at hv
      have Hrg := Lib.hid hv.whole
      have Hi8 : Hid ((Tryd.prog.info? 63).map (·.size) = some ((s8l (firstK k)).map u64v).length) := Lib.hid (by rw [List.length_map]; kernel_rfl)
      have HRr := Lib.hid (HWr.out.below HBl.out (by have := Hs0.out; omega))
      have Hi8' : Hid ((Tryd.prog.info? 63).map (·.size) = some ((s8l (firstK k)).map u64v).toArray.size) := Lib.hid (by rw [List.size_toArray, List.length_map]; kernel_rfl)
      have Hsz' : Hid (z8L.toArray.size = ((s8l (firstK k)).map u64v).toArray.size) := Lib.hid (by rw [List.size_toArray, List.size_toArray, List.length_map, s8l_len]; rfl)
      have Hone : Hid (((s8l (firstK k)).map u64v).toArray.all (·.oneCell') = true) := Lib.hid (by simp [u64v, Value.oneCell'])
      have HBf := Lib.hid (HB1.out.trans (HBl.out.mono (by have := Hs0.out; omega)))
      have HBg := Lib.hid (HBf.out.grown (grown_row wr R ((s8l (firstK k)).map u64v).toArray) (by have := HBf.out.size; have := HR.out; omega) (fun x hx => Nat.le_of_eq (Option.some.inj hx)))
      have HW9 : HB (wr.setRow R ((s8l (firstK k)).map u64v).toArray) R 63 ((s8l (firstK k)).map u64v) := setRow_heap _ _ _ _ _ _ HRr.out
      have Hrg9 := Lib.hid HW9.whole
      clear hv HV HBl Hsz hlt ht HW9
      go_wp2_with (first
        | refine wpList_load_mid rfl _ _ rfl B 0 rfl ((s8l (firstK k)).map u64v) _ Hrg.out Tryd.underlying63 rfl Hi8.out ?_
        | refine wpList_store_row rfl _ _ _ rfl R ((s8l (firstK k)).map u64v).toArray rfl rfl _ _ HRr.out Hi8'.out Hsz'.out Hone.out ?_)
      have hv : (loadVar 63 ⟨R, 0, none⟩).run Tryd.prog (wr.setRow R ((s8l (firstK k)).map u64v).toArray) = .ok (.agg ((s8l (firstK k)).map u64v).toArray) (wr.setRow R ((s8l (firstK k)).map u64v).toArray) := run_loadVar_mid (P := Tryd.prog) _ R 0 63 ((s8l (firstK k)).map u64v) _ Hrg9.out Tryd.underlying63 rfl Hi8.out
      exact bodyPost_ret (v := .agg ((s8l (firstK k)).map u64v).toArray) (by simp [results, Tryd.results43, asAddr, hv, Result.andThen, Act.put]; try rfl) rfl ⟨rfl, by rw [HR.out]; exact HBg.out⟩
end Go.Proofs.YtngkelflfahjbaaDoor
