/- The document's hash: Words. No condition. -/
import Derived.Test.YtngkelflfahjbaaDoorShaY
import Derived.Deep.DeepCutAuto
set_option linter.unusedVariables false
set_option linter.unusedSimpArgs false
namespace Go.Proofs.YtngkelflfahjbaaDoor
open Go.RowKit
structure RwIn (S W : Nat) (cs : List Value) (l : List Nat) (w : World) (o i : Value) (wr : World) : Prop where
  x : ∃ (t : Nat) (u : Value), t ≤ 8 ∧ i = .int .i64 (t : Nat) ∧ u = o ∧ Own 5 wr (S + 1) u (wordsL W (l.take t)) ∧ HB wr S 63 cs ∧ Below S w wr ∧ S + 1 ≤ wr.heap.size
structure RvIn (S W q X : Nat) (cs : List Value) (l : List UInt8) (w : World) (o n : Value) (wr : World) : Prop where
  x : ∃ (j : Nat) (u : Value), j ≤ q ∧ n = .int .i64 ((W : Int) - 8 - 8 * (j : Int)) ∧ u = o ∧ Own 5 wr (S + 1) u (l ++ topL q X j) ∧ HB wr S 63 cs ∧ Below S w wr ∧ S + 1 ≤ wr.heap.size
set_option maxHeartbeats 1000000 in
theorem rwords_any (k : Nat) (s : S8) (w : World) (hk : 1 ≤ k ∧ k ≤ 3) :
    Calls Tryd.prog 42 #[.int .i64 (k : Nat), .agg ((s8l s).map u64v).toArray] w fun e w' => ∃ v, e = .returned v ∧ Own 5 w' w.heap.size v (wordsL (wK k) (s8l s)) ∧ Below w.heap.size w w' := by
  have HS1 := Lib.hid (HB.new w ((s8l s).map u64v) 63)
  have HB1 := Lib.hid ((Below.refl w.heap.size w).alloc (Nat.le_refl _) (.cells ((s8l s).map u64v).toArray 63))
  have Hs1 : Hid (w.heap.size + 1 ≤ (w.alloc (.cells ((s8l s).map u64v).toArray 63)).heap.size) := Lib.hid (by simp)
  have Hkd := Lib.hid (fun w => kind_any k w hk)
  have hW := size_kind hk
  clear hk
  generalize sizeW (wK k) = z1 at *
  generalize rnds (wK k) = z2 at *
  generalize digK k = z3 at *
  go_enter Tryd.func42, Tryd.ntmps42
  go_upto_region 1 with fail
  as_aux_lemma =>
  generalize w.alloc (.cells ((s8l s).map u64v).toArray 63) = w1 at *
  obtain ⟨S, hS⟩ : ∃ S, w.heap.size = S := ⟨_, rfl⟩
  rw [hS] at HS1 HB1 Hs1 ⊢
  have HSw := Lib.hid hS
  rcases hW with ⟨-, hw, -⟩ | ⟨-, hw, -⟩
  · rw [hw] at Hkd
    have Hw := Lib.hid hw
    clear hS hw
    go_wp2_with fail
    as_aux_lemma =>
    refine (Hkd.out _).mono ?_
    rintro e w2 ⟨rfl, rfl⟩
    clear Hkd
    go_upto_region 4 with fail
    go_loopw [9, 10, 11] (fun o i _ wr => RwIn S 32 ((s8l s).map u64v) (s8l s) w o i wr) (fun _ i _ _ => 8 - (intOf i).toNat)
    case atStart => exact ⟨0, _, by omega, rfl, rfl, by simpa [wordsL] using Own.nil _ _ _, HS1.out, HB1.out, Hs1.out⟩
    case round =>
      as_aux_lemma =>
      clear HS1 HB1 Hs1
      obtain ⟨t, u, ht, rfl, rfl, hown, hS, hB, hsz⟩ := hrel
      have HO := Lib.hid hown
      have HS := Lib.hid hS
      have HBl := Lib.hid hB
      have Hsz := Lib.hid hsz
      clear hown hS hB hsz
      by_cases hlt : t < 8
      · obtain ⟨X, hX⟩ : ∃ X, (s8l s)[t]? = some X := ⟨_, List.getElem?_eq_getElem (by rw [s8l_len]; exact hlt)⟩
        have Hsn : Hid (wordsL 32 ((s8l s).take (t + 1)) = wordsL 32 ((s8l s).take t) ++ encL 4 true X) := Lib.hid (wordsL_snoc 32 (s8l s) t X hX)
        have Hlen : Hid ((wordsL 32 ((s8l s).take t)).length ≤ 100) := Lib.hid (by
          rw [wordsL_len, List.length_take, s8l_len]
          have h1 : min t 8 ≤ 8 := Nat.min_le_right _ _
          show min t 8 * 4 ≤ 100
          omega)
        have i1 : (t : Int) < 8 := by omega
        have HX := Lib.hid (show ((s8l s).map u64v)[t]? = some (.int .u64 (X : Int)) by rw [List.getElem?_map, hX]; rfl)
        clear hX
        generalize (s8l s).map u64v = cs at *
        generalize wordsL 32 ((s8l s).take t) = pre at *
        go_wp2_with fail
        go_loopw [9, 11] (fun o n wr => RvIn S 32 4 X cs pre w o n wr) (fun _ n _ => (intOf n + 8).toNat)
        case atStart => exact ⟨0, u, by omega, rfl, rfl, by simpa [topL] using HO.out, HS.out, HBl.out, Hsz.out⟩
        case round =>
          as_aux_lemma =>
          clear HO HS HBl Hsz
          obtain ⟨j, u, hj, rfl, rfl, hown, hS, hB, hsz⟩ := hrel
          have HO := Lib.hid hown
          have HS := Lib.hid hS
          have HBl := Lib.hid hB
          have Hsz := Lib.hid hsz
          clear hown hS hB hsz
          by_cases hjt : j < 4
          · obtain ⟨m, hm⟩ : ∃ m : Nat, 8 * (4 - 1 - j) = m := ⟨_, rfl⟩
            have hby := byteAt_big 4 X j
            have Htn := Lib.hid (topL_snoc 4 X j)
            generalize byteAt 4 true X j = c at *
            have em : ((32 : Nat) : Int) - 8 - 8 * (j : Int) = (m : Int) := by omega
            rw [em]
            have hby2 : (X : Int) / (2 ^ m : Int) % 256 = (c.toNat : Int) := by rw [← hm]; exact hby
            have q1 : IntKind.u64.wrap (m : Int) = (m : Int) := IntWalk.u64_in _ (by omega)
            have q2 : IntKind.i64.wrap ((m : Int) - 8) = ((32 : Nat) : Int) - 8 - 8 * ((j : Int) + 1) := by rw [IntWalk.i64_in _ (by omega)]; omega
            have q3 : (0 : Int) ≤ (m : Int) := by omega
            have q4 : min m 64 = m := Nat.min_eq_left (by omega)
            have q5 : IntKind.u8.wrap ((X : Int) / (2 ^ m : Int)) = (c.toNat : Int) := by rw [← hby2]; simp [IntKind.wrap, IntKind.bits, IntKind.signed]
            have k1 := HS.out.cell HX.out
            have Hnew := Lib.hid (HO.out.alloc (.cells #[.int .u8 c.toNat] 5))
            have HSn := Lib.hid (HS.out.alloc (.cells #[.int .u8 c.toNat] 5))
            have HBn := Lib.hid (HBl.out.alloc (by have := Hsz.out; omega) (.cells #[.int .u8 c.toNat] 5))
            have Hsn2 : Hid (S + 1 ≤ (wr.alloc (.cells #[.int .u8 c.toNat] 5)).heap.size) := Lib.hid (Nat.le_trans Hsz.out (by simp))
            have Hhm := Lib.hid hm
            clear hm hby em HS HBl
            go_wp2_with (at_builtin; refine wpList_append_at byteRow02 rfl _ _ rfl (S + 1) u (pre ++ topL 4 X j) rfl Hnew.out ⟨wr.heap.size, 0, none⟩ 1 1 [c] rfl rfl (Rd.new wr [c] _ _) ?c1 Hsn2.out (pre.length + j + 1) ?c3 (by omega) ?_)
            case c1 => rw [List.length_append, topL_len]; have := Hlen.out; omega
            case c3 => rw [List.length_append, topL_len]
            intro g C w2 ho2 hg2 hk2
            have HO2 : Hid (Own 5 w2 (S + 1) (.slice (some ⟨g, 0, none⟩) (pre.length + j + 1) C) (pre ++ topL 4 X (j + 1))) := Lib.hid (by rw [Htn.out]; exact ho2)
            have HS2 := Lib.hid (HSn.out.grown hg2 (fun e => by have := (own_blk Hnew.out e.symm).1; omega))
            have HB2 := Lib.hid (HBn.out.grown hg2 (by have := Hsn2.out; omega) (fun q hq => by have := (own_blk Hnew.out hq).1; omega))
            have Hs2 : Hid (S + 1 ≤ w2.heap.size) := Lib.hid (Nat.le_trans Hsn2.out hg2.size)
            clear ho2 hg2 hk2 q1 q4 q5 hby2 k1 HSn HBn Hsn2 Hnew
            go_wp2_with fail
            have hm := Hhm.out
            first
            | (go_roundw
               case rel => exact ⟨j + 1, _, by omega, by push_cast; rfl, rfl, HO2.out, HS2.out, HB2.out, Hs2.out⟩
               case measure => (first | omega | (simp [intOf] <;> omega) | (simp only [intOf] <;> omega)))
            | exact ⟨⟨j + 1, _, by omega, by push_cast; rfl, rfl, HO2.out, HS2.out, HB2.out, Hs2.out⟩, by (first | omega | (simp [intOf] <;> omega) | (simp only [intOf] <;> omega))⟩
            | (refine ⟨?_, by (first | omega | (simp [intOf] <;> omega) | (simp only [intOf] <;> omega))⟩
               (repeat apply Exists.intro)
               refine (fun a b => And.intro b a) ?_ ?_
               · first | rfl | ((repeat refine ⟨rfl, ?_⟩); rfl)
               exact ⟨j + 1, _, by omega, by push_cast; rfl, rfl, HO2.out, HS2.out, HB2.out, Hs2.out⟩)
          · obtain rfl : j = 4 := by omega
            have q6 : ((32 : Nat) : Int) - 8 - 8 * ((4 : Nat) : Int) = -8 := by decide
            rw [q6]
            have HO3 : Hid (Own 5 wr (S + 1) u (wordsL 32 ((s8l s).take (t + 1)))) := Lib.hid (by rw [Hsn.out]; exact HO.out)
            clear HO q6
            go_wp2_with fail
            first
            | (go_roundw
               case rel => exact ⟨t + 1, u, by omega, by go_num, rfl, HO3.out, HS.out, HBl.out, Hsz.out⟩
               case measure => (first | omega | (simp [intOf] <;> omega) | (simp only [intOf] <;> omega)))
            | exact ⟨⟨t + 1, u, by omega, by go_num, rfl, HO3.out, HS.out, HBl.out, Hsz.out⟩, by (first | omega | (simp [intOf] <;> omega) | (simp only [intOf] <;> omega))⟩
            | (refine ⟨?_, by (first | omega | (simp [intOf] <;> omega) | (simp only [intOf] <;> omega))⟩
               (repeat apply Exists.intro)
               refine (fun a b => And.intro b a) ?_ ?_
               · first | rfl | ((repeat refine ⟨rfl, ?_⟩); rfl)
               exact ⟨t + 1, u, by omega, by go_num, rfl, HO3.out, HS.out, HBl.out, Hsz.out⟩)
      · obtain rfl : t = 8 := by omega
        go_wp2_with fail
        go_ret
        refine ⟨u, rfl, ?_, ?_⟩
        · have h := HO.out
          rw [List.take_of_length_le (by rw [s8l_len]; exact Nat.le_refl _)] at h
          rw [HSw.out, Hw.out]
          exact h.mono (Nat.le_succ S)
        · rw [HSw.out]
          exact HBl.out
  · rw [hw] at Hkd
    have Hw := Lib.hid hw
    clear hS hw
    go_wp2_with fail
    as_aux_lemma =>
    refine (Hkd.out _).mono ?_
    rintro e w2 ⟨rfl, rfl⟩
    clear Hkd
    go_upto_region 4 with fail
    go_loopw [9, 10, 11] (fun o i _ wr => RwIn S 64 ((s8l s).map u64v) (s8l s) w o i wr) (fun _ i _ _ => 8 - (intOf i).toNat)
    case atStart => exact ⟨0, _, by omega, rfl, rfl, by simpa [wordsL] using Own.nil _ _ _, HS1.out, HB1.out, Hs1.out⟩
    case round =>
      as_aux_lemma =>
      clear HS1 HB1 Hs1
      obtain ⟨t, u, ht, rfl, rfl, hown, hS, hB, hsz⟩ := hrel
      have HO := Lib.hid hown
      have HS := Lib.hid hS
      have HBl := Lib.hid hB
      have Hsz := Lib.hid hsz
      clear hown hS hB hsz
      by_cases hlt : t < 8
      · obtain ⟨X, hX⟩ : ∃ X, (s8l s)[t]? = some X := ⟨_, List.getElem?_eq_getElem (by rw [s8l_len]; exact hlt)⟩
        have Hsn : Hid (wordsL 64 ((s8l s).take (t + 1)) = wordsL 64 ((s8l s).take t) ++ encL 8 true X) := Lib.hid (wordsL_snoc 64 (s8l s) t X hX)
        have Hlen : Hid ((wordsL 64 ((s8l s).take t)).length ≤ 100) := Lib.hid (by
          rw [wordsL_len, List.length_take, s8l_len]
          have h1 : min t 8 ≤ 8 := Nat.min_le_right _ _
          show min t 8 * 8 ≤ 100
          omega)
        have i1 : (t : Int) < 8 := by omega
        have HX := Lib.hid (show ((s8l s).map u64v)[t]? = some (.int .u64 (X : Int)) by rw [List.getElem?_map, hX]; rfl)
        clear hX
        generalize (s8l s).map u64v = cs at *
        generalize wordsL 64 ((s8l s).take t) = pre at *
        go_wp2_with fail
        go_loopw [9, 11] (fun o n wr => RvIn S 64 8 X cs pre w o n wr) (fun _ n _ => (intOf n + 8).toNat)
        case atStart => exact ⟨0, u, by omega, rfl, rfl, by simpa [topL] using HO.out, HS.out, HBl.out, Hsz.out⟩
        case round =>
          as_aux_lemma =>
          clear HO HS HBl Hsz
          obtain ⟨j, u, hj, rfl, rfl, hown, hS, hB, hsz⟩ := hrel
          have HO := Lib.hid hown
          have HS := Lib.hid hS
          have HBl := Lib.hid hB
          have Hsz := Lib.hid hsz
          clear hown hS hB hsz
          by_cases hjt : j < 8
          · obtain ⟨m, hm⟩ : ∃ m : Nat, 8 * (8 - 1 - j) = m := ⟨_, rfl⟩
            have hby := byteAt_big 8 X j
            have Htn := Lib.hid (topL_snoc 8 X j)
            generalize byteAt 8 true X j = c at *
            have em : ((64 : Nat) : Int) - 8 - 8 * (j : Int) = (m : Int) := by omega
            rw [em]
            have hby2 : (X : Int) / (2 ^ m : Int) % 256 = (c.toNat : Int) := by rw [← hm]; exact hby
            have q1 : IntKind.u64.wrap (m : Int) = (m : Int) := IntWalk.u64_in _ (by omega)
            have q2 : IntKind.i64.wrap ((m : Int) - 8) = ((64 : Nat) : Int) - 8 - 8 * ((j : Int) + 1) := by rw [IntWalk.i64_in _ (by omega)]; omega
            have q3 : (0 : Int) ≤ (m : Int) := by omega
            have q4 : min m 64 = m := Nat.min_eq_left (by omega)
            have q5 : IntKind.u8.wrap ((X : Int) / (2 ^ m : Int)) = (c.toNat : Int) := by rw [← hby2]; simp [IntKind.wrap, IntKind.bits, IntKind.signed]
            have k1 := HS.out.cell HX.out
            have Hnew := Lib.hid (HO.out.alloc (.cells #[.int .u8 c.toNat] 5))
            have HSn := Lib.hid (HS.out.alloc (.cells #[.int .u8 c.toNat] 5))
            have HBn := Lib.hid (HBl.out.alloc (by have := Hsz.out; omega) (.cells #[.int .u8 c.toNat] 5))
            have Hsn2 : Hid (S + 1 ≤ (wr.alloc (.cells #[.int .u8 c.toNat] 5)).heap.size) := Lib.hid (Nat.le_trans Hsz.out (by simp))
            have Hhm := Lib.hid hm
            clear hm hby em HS HBl
            go_wp2_with (at_builtin; refine wpList_append_at byteRow02 rfl _ _ rfl (S + 1) u (pre ++ topL 8 X j) rfl Hnew.out ⟨wr.heap.size, 0, none⟩ 1 1 [c] rfl rfl (Rd.new wr [c] _ _) ?c1 Hsn2.out (pre.length + j + 1) ?c3 (by omega) ?_)
            case c1 => rw [List.length_append, topL_len]; have := Hlen.out; omega
            case c3 => rw [List.length_append, topL_len]
            intro g C w2 ho2 hg2 hk2
            have HO2 : Hid (Own 5 w2 (S + 1) (.slice (some ⟨g, 0, none⟩) (pre.length + j + 1) C) (pre ++ topL 8 X (j + 1))) := Lib.hid (by rw [Htn.out]; exact ho2)
            have HS2 := Lib.hid (HSn.out.grown hg2 (fun e => by have := (own_blk Hnew.out e.symm).1; omega))
            have HB2 := Lib.hid (HBn.out.grown hg2 (by have := Hsn2.out; omega) (fun q hq => by have := (own_blk Hnew.out hq).1; omega))
            have Hs2 : Hid (S + 1 ≤ w2.heap.size) := Lib.hid (Nat.le_trans Hsn2.out hg2.size)
            clear ho2 hg2 hk2 q1 q4 q5 hby2 k1 HSn HBn Hsn2 Hnew
            go_wp2_with fail
            have hm := Hhm.out
            first
            | (go_roundw
               case rel => exact ⟨j + 1, _, by omega, by push_cast; rfl, rfl, HO2.out, HS2.out, HB2.out, Hs2.out⟩
               case measure => (first | omega | (simp [intOf] <;> omega) | (simp only [intOf] <;> omega)))
            | exact ⟨⟨j + 1, _, by omega, by push_cast; rfl, rfl, HO2.out, HS2.out, HB2.out, Hs2.out⟩, by (first | omega | (simp [intOf] <;> omega) | (simp only [intOf] <;> omega))⟩
            | (refine ⟨?_, by (first | omega | (simp [intOf] <;> omega) | (simp only [intOf] <;> omega))⟩
               (repeat apply Exists.intro)
               refine (fun a b => And.intro b a) ?_ ?_
               · first | rfl | ((repeat refine ⟨rfl, ?_⟩); rfl)
               exact ⟨j + 1, _, by omega, by push_cast; rfl, rfl, HO2.out, HS2.out, HB2.out, Hs2.out⟩)
          · obtain rfl : j = 8 := by omega
            have q6 : ((64 : Nat) : Int) - 8 - 8 * ((8 : Nat) : Int) = -8 := by decide
            rw [q6]
            have HO3 : Hid (Own 5 wr (S + 1) u (wordsL 64 ((s8l s).take (t + 1)))) := Lib.hid (by rw [Hsn.out]; exact HO.out)
            clear HO q6
            go_wp2_with fail
            first
            | (go_roundw
               case rel => exact ⟨t + 1, u, by omega, by go_num, rfl, HO3.out, HS.out, HBl.out, Hsz.out⟩
               case measure => (first | omega | (simp [intOf] <;> omega) | (simp only [intOf] <;> omega)))
            | exact ⟨⟨t + 1, u, by omega, by go_num, rfl, HO3.out, HS.out, HBl.out, Hsz.out⟩, by (first | omega | (simp [intOf] <;> omega) | (simp only [intOf] <;> omega))⟩
            | (refine ⟨?_, by (first | omega | (simp [intOf] <;> omega) | (simp only [intOf] <;> omega))⟩
               (repeat apply Exists.intro)
               refine (fun a b => And.intro b a) ?_ ?_
               · first | rfl | ((repeat refine ⟨rfl, ?_⟩); rfl)
               exact ⟨t + 1, u, by omega, by go_num, rfl, HO3.out, HS.out, HBl.out, Hsz.out⟩)
      · obtain rfl : t = 8 := by omega
        go_wp2_with fail
        go_ret
        refine ⟨u, rfl, ?_, ?_⟩
        · have h := HO.out
          rw [List.take_of_length_le (by rw [s8l_len]; exact Nat.le_refl _)] at h
          rw [HSw.out, Hw.out]
          exact h.mono (Nat.le_succ S)
        · rw [HSw.out]
          exact HBl.out
end Go.Proofs.YtngkelflfahjbaaDoor
