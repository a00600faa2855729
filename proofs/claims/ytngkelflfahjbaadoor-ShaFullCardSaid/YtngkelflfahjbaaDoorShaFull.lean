/- A hash takes in no more than 2^61 - 1 bytes in all, and one that refuses stays as it was: the walk. No condition. -/
import Derived.Test.YtngkelflfahjbaaDoorShaPl
import Derived.Test.YtngkelflfahjbaaDoorShaA
import Derived.Test.YtngkelflfahjbaaDoorSame2
import Derived.Test.YtngkelflfahjbaaDoorOpen
import Derived.Test.YtngkelflfahjbaaDoorShaTab
import Derived.Deep.DeepCutAuto
namespace Go.Proofs.YtngkelflfahjbaaDoor.shaFull
open Go.ChangeShapes Go.WideShapes Go.ChangeAt Go.RowKit
set_option linter.unusedVariables false
set_option linter.unusedSimpArgs false
structure F1In (B n : Nat) (W : World) (w0 : List UInt8) (v i : Value) (wr : World) : Prop where
  x : ∃ (j : Nat) (u : Value), j ≤ 8 ∧ i = .int .i64 ((8 : Int) - 1 - (j : Int)) ∧ u = v ∧ Own 5 wr (B + 1) u (w0 ++ topL 8 n j) ∧ Below B W wr ∧ B + 1 ≤ wr.heap.size
structure F2In (B T : Nat) (W : World) (P : List UInt8) (v i : Value) (wr : World) : Prop where
  x : ∃ (t : Nat) (u : Value) (fl : List UInt8), t ≤ T ∧ fl.length = t ∧ i = .int .i64 (t : Nat) ∧ u = v ∧ Own 5 wr (B + 1) u (P ++ fl) ∧ Below B W wr ∧ B + 1 ≤ wr.heap.size
set_option maxRecDepth 100000 in
set_option maxHeartbeats 2000000 in
theorem core (W : World) (kind left : Int) (wo : Option Addr) (wn wcap : Nat) (wl : List UInt8) (mo : Option Addr) (mn mc : Nat) (ml : List UInt8)
    (hkb : -9223372036854775808 ≤ kind ∧ kind ≤ 9223372036854775807) (hlb : -9223372036854775808 ≤ left ∧ left ≤ 9223372036854775807)
    (hwl : wl.length = wn) (hwr : Rd W wo wl) (hwn : wn ≤ 140737488351232) (hml : ml.length = mn) (hmr : Rd W mo ml) (hmn : mn ≤ 140737488351232) (hmnil : mo = none → mc = 0) (htab : TabOk W) (h00 : 0 < W.heap.size) :
    Calls Tryd.prog 6 #[.agg #[.int .i64 kind, .int .i64 left, .slice wo wn wcap, .slice mo mn mc]] W fun e w' => e = .returned (.bool true) ∧ Below W.heap.size W w' := by
  have HB0 := Lib.hid ((Below.refl W.heap.size W).alloc (Nat.le_refl _) (.cells #[.int .i64 kind, .int .i64 left, .slice wo wn wcap, .slice mo mn mc] 45))
  have Haw := Lib.hid (awake02_any (W.alloc (.cells #[.int .i64 kind, .int .i64 left, .slice wo wn wcap, .slice mo mn mc] 45)) (htab.below HB0.out) (by simp))
  obtain ⟨B, hB⟩ : ∃ B, W.heap.size = B := ⟨_, rfl⟩
  have Hs0 : Hid ((W.alloc (.cells #[.int .i64 kind, .int .i64 left, .slice wo wn wcap, .slice mo mn mc] 45)).heap.size = B + 1) := Lib.hid (by simp [← hB])
  have HBx := Lib.hid hB
  have Hwl := Lib.hid hwl
  have Hwr := Lib.hid hwr
  have Hwn := Lib.hid hwn
  have Hml := Lib.hid hml
  have Hmr := Lib.hid hmr
  have Hmn := Lib.hid hmn
  have Hmnil := Lib.hid hmnil
  have Htab := Lib.hid htab
  have H00 := Lib.hid h00
  obtain ⟨a, ha, ha2⟩ : ∃ a : Nat, (a : Int) = (if kind < 0 then -(kind + 1) else kind) ∧ a < 9223372036854775808 := ⟨(if kind < 0 then -(kind + 1) else kind).toNat, by split <;> omega, by split <;> omega⟩
  obtain ⟨b, hb, hb2⟩ : ∃ b : Nat, (b : Int) = (if left < 0 then -(left + 1) else left) ∧ b < 9223372036854775808 := ⟨(if left < 0 then -(left + 1) else left).toNat, by split <;> omega, by split <;> omega⟩
  have Ha2 := Lib.hid ha2
  have Hb2 := Lib.hid hb2
  have hk1 : kind < 0 → IntKind.i64.wrap (kind + 1) = kind + 1 := fun h => IntWalk.i64_in _ (by omega)
  have hk2 : kind < 0 → IntKind.i64.wrap (-(kind + 1)) = (a : Int) := fun h => by rw [IntWalk.i64_in _ (by omega), ha, if_pos h]
  have hk3 : ¬ kind < 0 → kind = (a : Int) := fun h => by rw [ha, if_neg h]
  have hl1 : left < 0 → IntKind.i64.wrap (left + 1) = left + 1 := fun h => IntWalk.i64_in _ (by omega)
  have hl2 : left < 0 → IntKind.i64.wrap (-(left + 1)) = (b : Int) := fun h => by rw [IntWalk.i64_in _ (by omega), hb, if_pos h]
  have hl3 : ¬ left < 0 → left = (b : Int) := fun h => by rw [hb, if_neg h]
  clear ha ha2 hb hb2 hkb hlb hB hwl hwr hwn hml hmr hmn hmnil htab h00
  go_enter Tryd.func6, Tryd.ntmps6
  go_wp2_with fail
  refine Haw.out.mono ?_
  rintro e w1 ⟨rfl, hb1⟩
  have HB1 : Hid (Below B W w1) := Lib.hid (by have h := HB0.out.trans (hb1.mono (by simp)); rw [HBx.out] at h; exact h)
  have Hz1 : Hid (B + 1 ≤ w1.heap.size) := Lib.hid (by have := hb1.size; rw [Hs0.out] at this; exact this)
  clear hb1 Haw HB0 Hs0
  go_upto_if 32 with fail
  go_cut [3] (fun c3 wx => c3 = .int .i64 (a : Int) ∧ wx = w1)
  case first =>
    by_cases hneg : kind < 0
    · have e1 := hk1 hneg
      have e2 := hk2 hneg
      clear hk1 hk2 hk3 hl1 hl2 hl3
      go_wp2_with fail
      go_meet
      case rel => exact ⟨rfl, rfl⟩
    · have He1 := Lib.hid (hk3 (by omega))
      clear hk1 hk2 hk3 hl1 hl2 hl3
      go_wp2_with fail
      go_meet
      case rel => exact ⟨by rw [He1.out], rfl⟩
  case rest =>
  obtain ⟨rfl, rfl⟩ := hcut
  clear hk1 hk2 hk3
  as_aux_lemma =>
  go_upto_if 37 with fail
  go_cut [4] (fun c4 wx => c4 = .int .i64 (b : Int) ∧ wx = wc)
  case first =>
    by_cases hneg : left < 0
    · have e1 := hl1 hneg
      have e2 := hl2 hneg
      clear hl1 hl2 hl3
      go_wp2_with fail
      go_meet
      case rel => exact ⟨rfl, rfl⟩
    · have He1 := Lib.hid (hl3 (by omega))
      clear hl1 hl2 hl3
      go_wp2_with fail
      go_meet
      case rel => exact ⟨by rw [He1.out], rfl⟩
  case rest =>
  obtain ⟨rfl, rfl⟩ := hcut
  clear hl1 hl2 hl3
  as_aux_lemma =>
  obtain ⟨a3, ha3⟩ : ∃ x, a % 3 = x := ⟨_, rfl⟩
  obtain ⟨k, hk⟩ : ∃ k, 1 + a3 = k := ⟨_, rfl⟩
  have hkr : 1 ≤ k ∧ k ≤ 3 := by omega
  have p1 : (a : Int) % 3 = (a3 : Int) := by omega
  have p1' : (a : Int).tmod 3 = (a3 : Int) := by rw [Int.tmod_eq_emod_of_nonneg (by omega)]; exact p1
  have p2 : IntKind.i64.wrap (1 + (a3 : Int)) = (k : Int) := by rw [IntWalk.i64_in _ (by omega)]; omega
  obtain ⟨b3, hb3⟩ : ∃ x, b % 300 = x := ⟨_, rfl⟩
  have hb3l : b3 < 300 := by omega
  have r1 : (b : Int) % 300 = (b3 : Int) := by omega
  have r1' : (b : Int).tmod 300 = (b3 : Int) := by rw [Int.tmod_eq_emod_of_nonneg (by omega)]; exact r1
  have r2 : IntKind.u64.wrap (b3 : Int) = (b3 : Int) := IntWalk.u64_in _ (by omega)
  obtain ⟨n, hn⟩ : ∃ n, 2305843009213693951 - b3 = n := ⟨_, rfl⟩
  have r3 : IntKind.u64.wrap (2305843009213693951 - (b3 : Int)) = (n : Int) := by rw [IntWalk.u64_in _ (by omega)]; omega
  have r4 : IntKind.u8.wrap (k : Int) = (k : Int) := by rcases (by omega : k = 1 ∨ k = 2 ∨ k = 3) with rfl | rfl | rfl <;> decide
  have Hk := Lib.hid hkr
  have Hn := Lib.hid (show n ≤ 2305843009213693951 ∧ 2305843009213693951 - b3 = n ∧ b3 < 300 from by omega)
  have HW := Lib.hid (size_kind hkr)
  have Hkd := Lib.hid (fun w => kind_any k w hkr)
  generalize hW0 : wK k = ww at *
  generalize hS0 : sizeW ww = sz at *
  generalize rnds ww = z2 at *
  generalize digK k = z3 at *
  have HWw := Lib.hid hW0
  have HSz := Lib.hid hS0
  clear ha3 hk hkr hb3 hb3l hn hW0 hS0
  go_wp2_with fail
  refine (Hkd.out _).mono ?_
  rintro e w_ ⟨rfl, rfl⟩
  clear Hkd
  have hz1 := Hz1.out
  have hle : B ≤ wc.heap.size := by omega
  have ek := ofNat_k Hk.out
  have Hm := Lib.hid (Own.made8 (E := 5) wc (B + 1) [UInt8.ofNat k] hz1 (by simp))
  rw [show ([UInt8.ofNat k].map bv).toArray = #[Value.int .u8 (k : Nat)] by rw [List.map_cons, List.map_nil, ek]] at Hm
  have HBm := Lib.hid (HB1.out.alloc hle (.cells #[.int .u8 (k : Nat)] 5))
  have Hzm : Hid (B + 1 ≤ (wc.alloc (.cells #[.int .u8 (k : Nat)] 5)).heap.size) := Lib.hid (Nat.le_trans hz1 (by simp))
  obtain ⟨w0, hw0⟩ : ∃ w0, [UInt8.ofNat k] = w0 := ⟨_, rfl⟩
  have hw0l : w0.length = 1 := by rw [← hw0]; rfl
  rw [hw0, hw0l] at Hm
  have Hw0 := Lib.hid hw0
  have Hw0l := Lib.hid hw0l
  clear hz1 hle ek HB1 Hz1 hw0 hw0l
  go_upto_region 15 with fail
  as_aux_lemma =>
  clear p1 p1' p2 r4
  go_loopw [14, 15] (fun v i wr => F1In B n W w0 v i wr) (fun _ i _ => (intOf i + 1).toNat)
  case atStart => exact ⟨0, _, by omega, by simp, rfl, by simpa [topL] using Hm.out, HBm.out, Hzm.out⟩
  case round =>
    as_aux_lemma =>
    clear Hm HBm Hzm
    obtain ⟨j, u, hj, rfl, rfl, hO, hB, hz⟩ := hrel
    have HO := Lib.hid hO
    have HBw := Lib.hid hB
    have Hz := Lib.hid hz
    clear hO hB hz
    by_cases hj8 : j < 8
    · obtain ⟨m, hm⟩ : ∃ m : Nat, 8 - 1 - j = m := ⟨_, rfl⟩
      have hby := byteAt_big 8 n j
      have Htn := Lib.hid (topL_snoc 8 n j)
      generalize byteAt 8 true n j = c at *
      have em : ((8 : Int) - 1 - (j : Int)) = (m : Int) := by omega
      rw [em]
      rw [hm] at hby
      obtain ⟨e8, he8⟩ : ∃ e8, 8 * m = e8 := ⟨_, rfl⟩
      rw [he8] at hby
      have hby2 : (n : Int) / (2 ^ e8 : Int) % 256 = (c.toNat : Int) := hby
      have q0 : IntKind.u64.wrap (m : Int) = (m : Int) := IntWalk.u64_in _ (by omega)
      have q1 : IntKind.u64.wrap (8 * (m : Int)) = (e8 : Int) := by rw [IntWalk.u64_in _ (by omega)]; omega
      have q2 : IntKind.i64.wrap ((m : Int) - 1) = (8 : Int) - 1 - ((j : Int) + 1) := by rw [IntWalk.i64_in _ (by omega)]; omega
      have q3 : (0 : Int) ≤ (m : Int) := by omega
      have q4 : min e8 64 = e8 := Nat.min_eq_left (by omega)
      have q5 : IntKind.u8.wrap ((n : Int) / (2 ^ e8 : Int)) = (c.toNat : Int) := by rw [← hby2]; simp [IntKind.wrap, IntKind.bits, IntKind.signed]
      have HO5 := Lib.hid (HO.out.alloc (.cells #[.int .u8 c.toNat] 5))
      have HB5 := Lib.hid (HBw.out.alloc (by have := Hz.out; omega) (.cells #[.int .u8 c.toNat] 5))
      have Hz5 : Hid (B + 1 ≤ (wr.alloc (.cells #[.int .u8 c.toNat] 5)).heap.size) := Lib.hid (Nat.le_trans Hz.out (by simp))
      have Hhm := Lib.hid hm
      clear hm hby em HO HBw he8
      go_wp2_with (at_builtin; refine wpList_append_at byteRow02 rfl _ _ rfl (B + 1) u (w0 ++ topL 8 n j) rfl HO5.out ⟨wr.heap.size, 0, none⟩ 1 1 [c] rfl rfl (Rd.new wr [c] _ _) ?c1 Hz5.out (1 + j + 1) ?c3 (by omega) ?_)
      case c1 => rw [List.length_append, topL_len, Hw0l.out]; omega
      case c3 => rw [List.length_append, topL_len, Hw0l.out]
      intro g7 C7 w7 ho7 hg7 hk7
      have ho8 : Own 5 w7 (B + 1) (.slice (some ⟨g7, 0, none⟩) (1 + j + 1) C7) (w0 ++ topL 8 n (j + 1)) := by rw [Htn.out]; exact ho7
      have HO7 := Lib.hid ho8
      have HB7 := Lib.hid (HB5.out.grown hg7 (by have := Hz5.out; omega) (fun q hq => by have := (own_blk HO5.out hq).1; omega))
      have Hz7 : Hid (B + 1 ≤ w7.heap.size) := Lib.hid (Nat.le_trans Hz5.out hg7.size)
      clear ho7 ho8 hg7 hk7 q0 q1 q4 q5 hby2
      go_wp2_with fail
      have hm := Hhm.out
      first
      | (go_roundw
         case rel => exact ⟨j + 1, _, by omega, by push_cast; rfl, rfl, HO7.out, HB7.out, Hz7.out⟩
         case measure => (first | omega | (simp [intOf] <;> omega) | (simp only [intOf] <;> omega)))
      | exact ⟨⟨j + 1, _, by omega, by push_cast; rfl, rfl, HO7.out, HB7.out, Hz7.out⟩, by (first | omega | (simp [intOf] <;> omega) | (simp only [intOf] <;> omega))⟩
      | (refine ⟨?_, by (first | omega | (simp [intOf] <;> omega) | (simp only [intOf] <;> omega))⟩
         (repeat apply Exists.intro)
         refine (fun a b => And.intro b a) ?_ ?_
         · first | rfl | ((repeat refine ⟨rfl, ?_⟩); rfl)
         exact ⟨j + 1, _, by omega, by push_cast; rfl, rfl, HO7.out, HB7.out, Hz7.out⟩)
    · obtain rfl : j = 8 := by omega
      have q6 : (8 : Int) - 1 - ((8 : Nat) : Int) = -1 := by decide
      rw [q6]
      obtain ⟨P, hP⟩ : ∃ P, w0 ++ topL 8 n 8 = P := ⟨_, rfl⟩
      have hPl : P.length = 9 := by rw [← hP, List.length_append, topL_len, Hw0l.out]
      have HP : Hid (P = [UInt8.ofNat k] ++ encL 8 true n) := Lib.hid (by rw [← hP, Hw0.out]; rfl)
      have hO := HO.out
      rw [hP] at hO
      have HO := Lib.hid hO
      have HPl := Lib.hid hPl
      obtain ⟨R, hR⟩ : ∃ R, n % sz = R := ⟨_, rfl⟩
      have hRl : R < sz := by rw [← hR]; exact Nat.mod_lt _ (by have := HW.out; omega)
      have hWl : ww ≤ 64 ∧ sz ≤ 128 := by have := HW.out; omega
      obtain ⟨T, hT⟩ : ∃ T, ww + R = T := ⟨_, rfl⟩
      have s1 : IntKind.i64.wrap (ww : Int) = (ww : Int) := IntWalk.i64_in _ (by omega)
      have s2 : IntKind.u64.wrap (sz : Int) = (sz : Int) := IntWalk.u64_in _ (by omega)
      have s3 : (n : Int) % (sz : Int) = (R : Int) := by rw [← hR]; rfl
      have s3' : (n : Int).tmod (sz : Int) = (R : Int) := by rw [Int.tmod_eq_emod_of_nonneg (by omega)]; exact s3
      have s4 : IntKind.i64.wrap (R : Int) = (R : Int) := IntWalk.i64_in _ (by omega)
      have s4' : IntKind.u64.wrap (R : Int) = (R : Int) := IntWalk.u64_in _ (by omega)
      have s5 : IntKind.i64.wrap ((ww : Int) + (R : Int)) = (T : Int) := by rw [IntWalk.i64_in _ (by omega)]; omega
      have s6 : ((sz : Int) == 0) = false := beq_eq_false_iff_ne.2 (by have := HW.out; omega)
      have s7 : ¬ (sz : Int) = 0 := by have := HW.out; omega
      have hTl : T ≤ 192 := by omega
      have HR := Lib.hid hR
      have HT := Lib.hid hT
      clear hO hPl hR hRl hWl hT hP
      go_upto_region 19 with fail
      as_aux_lemma =>
      go_loopw [14, 16, 17] (fun v i _ wr => F2In B T W P v i wr) (fun _ i _ _ => T - (intOf i).toNat)
      case atStart => exact ⟨0, u, [], by omega, rfl, rfl, rfl, by simpa using HO.out, HBw.out, Hz.out⟩
      case round =>
        as_aux_lemma =>
        clear HO HBw Hz
        obtain ⟨t, u, fl, ht, hfl, rfl, rfl, hO, hB, hz⟩ := hrel
        have HO := Lib.hid hO
        have HBw := Lib.hid hB
        have Hz := Lib.hid hz
        have Hfl := Lib.hid hfl
        clear hO hB hz hfl
        by_cases hlt : t < T
        · have i1 : (t : Int) < (T : Int) := by omega
          have j1 : IntKind.u8.wrap (t : Int) = ((t % 256 : Nat) : Int) := by simp [IntKind.wrap, IntKind.bits, IntKind.signed]
          by_cases hwn : t < wn
          · have i2 : (t : Int) < (wn : Int) := by omega
            have hwr2 := Hwr.out.below (by rw [HBx.out]; exact HBw.out)
            obtain ⟨bb, oo, hwo, hc⟩ := hwr2 t (by rw [Hwl.out]; exact hwn)
            subst hwo
            generalize wl[t]?.getD 0 = c at *
            have i3 : t < wn := hwn
            clear hwr2
            have HO5 := Lib.hid (HO.out.alloc (.cells #[.int .u8 c.toNat] 5))
            have HB5 := Lib.hid (HBw.out.alloc (by have := Hz.out; omega) (.cells #[.int .u8 c.toNat] 5))
            have Hz5 : Hid (B + 1 ≤ (wr.alloc (.cells #[.int .u8 c.toNat] 5)).heap.size) := Lib.hid (Nat.le_trans Hz.out (by simp))
            clear HO HBw
            go_wp2_with (at_builtin; refine wpList_append_at byteRow02 rfl _ _ rfl (B + 1) u (P ++ fl) rfl HO5.out ⟨wr.heap.size, 0, none⟩ 1 1 [c] rfl rfl (Rd.new wr [c] _ _) (by rw [List.length_append, HPl.out, Hfl.out]; omega) Hz5.out (9 + t + 1) (by rw [List.length_append, HPl.out, Hfl.out]) (by omega) ?_)
            intro g7 C7 w7 ho7 hg7 hk7
            have HO7 : Hid (Own 5 w7 (B + 1) (.slice (some ⟨g7, 0, none⟩) (9 + t + 1) C7) (P ++ (fl ++ [c]))) := Lib.hid (by first | exact ho7 | (rw [← List.append_assoc]; exact ho7))
            have HB7 := Lib.hid (HB5.out.grown hg7 (by have := Hz5.out; omega) (fun q hq => by have := (own_blk HO5.out hq).1; omega))
            have Hz7 : Hid (B + 1 ≤ w7.heap.size) := Lib.hid (Nat.le_trans Hz5.out hg7.size)
            have Hfl7 : Hid ((fl ++ [c]).length = t + 1) := Lib.hid (by rw [List.length_append, Hfl.out]; rfl)
            clear ho7 hg7 hk7 HO5 HB5 Hz5 s1 s2 s3 s3' s4 s4' s5 s6 s7 j1
            go_wp2_with fail
            first
            | (go_roundw
               case rel => exact ⟨t + 1, _, fl ++ [c], by omega, Hfl7.out, by go_num, rfl, HO7.out, HB7.out, Hz7.out⟩
               case measure => (first | omega | (simp [intOf] <;> omega) | (simp only [intOf] <;> omega)))
            | exact ⟨⟨t + 1, _, fl ++ [c], by omega, Hfl7.out, by go_num, rfl, HO7.out, HB7.out, Hz7.out⟩, by (first | omega | (simp [intOf] <;> omega) | (simp only [intOf] <;> omega))⟩
            | (refine ⟨?_, by (first | omega | (simp [intOf] <;> omega) | (simp only [intOf] <;> omega))⟩
               (repeat apply Exists.intro)
               refine (fun a b => And.intro b a) ?_ ?_
               · first | rfl | ((repeat refine ⟨rfl, ?_⟩); rfl)
               exact ⟨t + 1, _, fl ++ [c], by omega, Hfl7.out, by go_num, rfl, HO7.out, HB7.out, Hz7.out⟩)
          · have i2 : ¬ (t : Int) < (wn : Int) := by omega
            have hc : ((t % 256 : Nat) : Int) = ((UInt8.ofNat t).toNat : Int) := by rw [UInt8.toNat_ofNat']
            rw [hc] at j1
            generalize UInt8.ofNat t = c at *
            clear hc
            have HO5 := Lib.hid (HO.out.alloc (.cells #[.int .u8 c.toNat] 5))
            have HB5 := Lib.hid (HBw.out.alloc (by have := Hz.out; omega) (.cells #[.int .u8 c.toNat] 5))
            have Hz5 : Hid (B + 1 ≤ (wr.alloc (.cells #[.int .u8 c.toNat] 5)).heap.size) := Lib.hid (Nat.le_trans Hz.out (by simp))
            clear HO HBw
            go_wp2_with (at_builtin; refine wpList_append_at byteRow02 rfl _ _ rfl (B + 1) u (P ++ fl) rfl HO5.out ⟨wr.heap.size, 0, none⟩ 1 1 [c] rfl rfl (Rd.new wr [c] _ _) (by rw [List.length_append, HPl.out, Hfl.out]; omega) Hz5.out (9 + t + 1) (by rw [List.length_append, HPl.out, Hfl.out]) (by omega) ?_)
            intro g7 C7 w7 ho7 hg7 hk7
            have HO7 : Hid (Own 5 w7 (B + 1) (.slice (some ⟨g7, 0, none⟩) (9 + t + 1) C7) (P ++ (fl ++ [c]))) := Lib.hid (by first | exact ho7 | (rw [← List.append_assoc]; exact ho7))
            have HB7 := Lib.hid (HB5.out.grown hg7 (by have := Hz5.out; omega) (fun q hq => by have := (own_blk HO5.out hq).1; omega))
            have Hz7 : Hid (B + 1 ≤ w7.heap.size) := Lib.hid (Nat.le_trans Hz5.out hg7.size)
            have Hfl7 : Hid ((fl ++ [c]).length = t + 1) := Lib.hid (by rw [List.length_append, Hfl.out]; rfl)
            clear ho7 hg7 hk7 HO5 HB5 Hz5 s1 s2 s3 s3' s4 s4' s5 s6 s7 j1
            go_wp2_with fail
            first
            | (go_roundw
               case rel => exact ⟨t + 1, _, fl ++ [c], by omega, Hfl7.out, by go_num, rfl, HO7.out, HB7.out, Hz7.out⟩
               case measure => (first | omega | (simp [intOf] <;> omega) | (simp only [intOf] <;> omega)))
            | exact ⟨⟨t + 1, _, fl ++ [c], by omega, Hfl7.out, by go_num, rfl, HO7.out, HB7.out, Hz7.out⟩, by (first | omega | (simp [intOf] <;> omega) | (simp only [intOf] <;> omega))⟩
            | (refine ⟨?_, by (first | omega | (simp [intOf] <;> omega) | (simp only [intOf] <;> omega))⟩
               (repeat apply Exists.intro)
               refine (fun a b => And.intro b a) ?_ ?_
               · first | rfl | ((repeat refine ⟨rfl, ?_⟩); rfl)
               exact ⟨t + 1, _, fl ++ [c], by omega, Hfl7.out, by go_num, rfl, HO7.out, HB7.out, Hz7.out⟩)
        · obtain rfl : t = T := by omega
          have i1 : ¬ (t : Int) < (t : Int) := by omega
          obtain ⟨l, hl⟩ : ∃ l, P ++ fl = l := ⟨_, rfl⟩
          have hO := HO.out
          rw [hl] at hO
          have hll : l.length = 9 + ww + R := by rw [← hl, List.length_append, HPl.out, Hfl.out]; have := HT.out; omega
          have hlk : (l[0]?.getD 0).toNat = k := by rw [← hl, HP.out]; rcases (by have := Hk.out; omega : k = 1 ∨ k = 2 ∨ k = 3) with rfl | rfl | rfl <;> rfl
          have hn1 := Hn.out.1
          have hln : beN (piece l 1 8) = n := by rw [← hl, HP.out, piece_mid (by rfl) (encL_length _ _ _), encL_big, Nat.mod_eq_of_lt (by omega)]
          obtain ⟨ua, uc, rfl, hu1, hu2, hu3, hu4, hu5⟩ := hO.rd3
          have Hop := Lib.hid (popen_ok ua l.length uc l wr k n rfl (by have := HW.out; have := Nat.mod_lt n (show 0 < sz by omega); have := HR.out; omega) hu1 hu4 hu3 (fun a e => (hu5 a e).2) Hk.out hlk hln hn1 (by rw [HWw.out, HSz.out, HR.out, hll]))
          have Hsl := Lib.hid (stateL_stOf Hk.out l hlk hln (by rw [HWw.out]; omega))
          have Hlt := Lib.hid (stOf_lt Hk.out l)
          have Hrl : Hid ((l.drop (9 + wK k)).length = R) := Lib.hid (by rw [List.length_drop, HWw.out]; omega)
          have HOl := Lib.hid hO
          have Hll : Hid (l.length ≤ 1000 ∧ R ≤ 128) := Lib.hid (by have := HW.out; have := Nat.mod_lt n (show 0 < sz by omega); have := HR.out; omega)
          have Hu3 := Lib.hid hu3
          generalize stOf (wK k) l = st at *
          generalize l.drop (9 + wK k) = rest at *
          clear hO hll hlk hln hu1 hu2 hu3 hu4 hu5 hl hn1 HO HP HPl Hfl
          go_wp2_with fail
          as_aux_lemma =>
          refine Hop.out.mono ?_
          rintro e w5 ⟨H, v, rfl, hH5, ho5, hHs, hb5⟩
          clear s1 s2 s3 s3' s4 s4' s5 s6 s7 Hop r2 r3 i1
          have HHs : Hid (W.heap.size ≤ H) := Lib.hid (by have := HBx.out; have := Hz.out; omega)
          have HB5 : Hid (Below B W w5) := Lib.hid (HBw.out.trans (hb5.mono (by have := Hz.out; omega)))
          have hB5 : Below W.heap.size W w5 := by rw [HBx.out]; exact HB5.out
          have HH5 := Lib.hid hH5
          have HO5 := Lib.hid (HOl.out.later hb5)
          have Ht5 := Lib.hid (Htab.out.below hB5)
          have H05 : Hid (H ≠ 0) := Lib.hid (by have := HHs.out; have := H00.out; omega)
          obtain ⟨va, vc, rfl, hv1, hv2, hv3, hv4, hv5⟩ := ho5.rd3
          rw [Hrl.out] at hv1 HH5
          have Hz5 : Hid (B ≤ w5.heap.size) := Lib.hid (by have := hB5.size; have := HBx.out; omega)
          have q1 : IntKind.u64.wrap (mn : Int) = (mn : Int) := IntWalk.u64_in _ (by have := Hmn.out; omega)
          have hn := Hn.out
          by_cases hfit : mn ≤ b3
          · have f1 : (mn : Int) ≤ (b3 : Int) := by omega
            have Hpw := Lib.hid (pwrite_any H k st n va R vc rest mo mn mc ml w5 Hk.out HH5.out Hlt.out Hrl.out hv4 hv3 (fun a e => by have := (hv5 a e).1; omega) Hml.out Hmnil.out (Rd.far Hmr.out hB5 HHs.out) hn.1 (by omega) (by have := Hll.out; omega) Ht5.out H05.out)
            obtain ⟨M, hM⟩ : ∃ M, n + mn = M := ⟨_, rfl⟩
            have q2 : IntKind.u64.wrap ((n : Int) + (mn : Int)) = (M : Int) := by rw [IntWalk.u64_in _ (by omega)]; omega
            have HM := Lib.hid hM
            clear hv1 hv2 hv3 hv4 hv5 hn hH5 ho5 hHs hb5 hB5 hM
            go_wp2_with fail
            as_aux_lemma =>
            refine Hpw.out.mono ?_
            rintro e w6 ⟨v6, rfl, hH6, ho6, hf6⟩
            rw [HM.out] at hH6
            have Hle := Lib.hid (plen_any H k _ M v6 w6 hH6)
            have HB6 := Lib.hid (HB5.out.trans (hf6.below Hz5.out (fun q hq => by have := HHs.out; have := HBx.out; omega)))
            clear hH6 ho6 hf6 Hpw
            go_wp2_with fail
            refine Hle.out.mono ?_
            rintro e w7 ⟨rfl, rfl⟩
            clear Hle
            go_wp2_with fail
            go_ret
            exact ⟨rfl, by rw [HBx.out]; exact HB6.out⟩
          · have f1 : ¬ (mn : Int) ≤ (b3 : Int) := by omega
            have f2 : (b3 : Int) < (mn : Int) := by omega
            have Hpw := Lib.hid (pwrite_long H k st n (.slice va R vc) mo mn mc w5 HH5.out hn.1 (by omega) (by have := Hmn.out; omega))
            have Hle := Lib.hid (plen_any H k st n (.slice va R vc) w5 HH5.out)
            have Hps := Lib.hid (pstate_any H k st n va R vc rest w5 Hk.out HH5.out Hrl.out (by have := Hll.out; omega) hv4 hv3)
            clear hv1 hv2 hv3 hv4 hv5 hn hH5 ho5 hHs hb5 hB5
            go_wp2_with fail
            as_aux_lemma =>
            refine Hpw.out.mono ?_
            rintro e w6 ⟨rfl, rfl⟩
            clear Hpw
            go_wp2_with fail
            refine Hle.out.mono ?_
            rintro e w7 ⟨rfl, rfl⟩
            clear Hle
            go_wp2_with fail
            refine Hps.out.mono ?_
            rintro e w8 ⟨v8, rfl, ho8, hb8⟩
            rw [Hsl.out] at ho8
            obtain ⟨a8, c8, rfl, h81, h82, h83, h84, h85⟩ := ho8.rd3
            have hO8 := HO5.out.later hb8
            obtain ⟨a9, c9, he9, -, -, h93, -, -⟩ := hO8.rd3
            obtain ⟨e1, -, -⟩ := Value.slice.inj he9
            rw [← e1] at h93
            have Hsm := Lib.hid (same2_true a8 ua l.length l.length c8 uc l l w8 rfl rfl rfl (by have := Hll.out; omega) (by have := Hll.out; omega) h83 h93)
            have HB8 := Lib.hid (HB5.out.trans (hb8.mono Hz5.out))
            clear ho8 h81 h82 h83 h84 h85 hO8 he9 h93 e1 Hps hb8
            go_wp2_with fail
            refine Hsm.out.mono ?_
            rintro e w9 ⟨rfl, hd9⟩
            have HB9 := Lib.hid (HB8.out.trans (hd9.below _))
            clear Hsm hd9
            go_wp2_with fail
            go_ret
            exact ⟨rfl, by rw [HBx.out]; exact HB9.out⟩
theorem walk {H : Type} (enc : TypeId × Value → H) (W : World) (base : Nat) (v0 : Value) (d0 : DataW H) (p0 : List MemPlace)
    (k0 : Value.okWide Tryd.prog W .any base 45 v0)
    (h0 : DataW.Trod enc Tryd.prog W 0 (fun _ => true) true 45 v0 d0 p0)
    (hsz : (DataW.weightsEach Tryd.prog [45] ([d0] ++ [])).all (· ≤ reachBytes) = true) (hL : laidMetH Tryd.prog laidL W) :
    Calls Tryd.prog 6 #[v0] W fun e w' => e = .returned (.bool true) ∧ Below W.heap.size W w' := by
  obtain ⟨hT, h00⟩ := tab_of_laid hL
  simp only [List.cons_append, List.nil_append, DataW.weightsEach] at hsz
  obtain ⟨z0, hsz⟩ := all_app hsz
  obtain ⟨cs_, xs_, n_, rfl, hsz_, rfl, hxl_, hf_⟩ := open_struct Tryd.underlying45 k0 h0
  obtain ⟨c_K, c_L, c_Wd, c_M, rfl⟩ := arr4 (hsz_.trans (by kernel_rfl : Tryd.prog.cellsOf 45 = 4))
  obtain ⟨y_K, y_L, y_Wd, y_M, rfl⟩ := lst4 (hxl_.trans rfl)
  have cltsluint8 : Tryd.prog.cellsOf 22 = 1 := by kernel_rfl
  have cltint : Tryd.prog.cellsOf 3 = 1 := by kernel_rfl
  have e_K : DataW.trod enc Tryd.prog W 0 (fun _ => true) true n_ 3 [c_K] = some y_K := by have := hf_ 0 _ rfl; simpa [cltint] using this
  have e_L : DataW.trod enc Tryd.prog W 0 (fun _ => true) true n_ 3 [c_L] = some y_L := by have := hf_ 1 _ rfl; simpa [cltint] using this
  have e_Wd : DataW.trod enc Tryd.prog W 0 (fun _ => true) true n_ 22 [c_Wd] = some y_Wd := by have := hf_ 2 _ rfl; simpa [cltsluint8] using this
  have e_M : DataW.trod enc Tryd.prog W 0 (fun _ => true) true n_ 22 [c_M] = some y_M := by have := hf_ 3 _ rfl; simpa [cltsluint8] using this
  simp only [DataW.weights, Tryd.underlying45, List.map_cons, List.map_nil, DataW.weightsEach] at z0
  obtain ⟨z_K, zz_0⟩ := all_app z0
  obtain ⟨z_L, zz_1⟩ := all_app zz_0
  obtain ⟨z_Wd, zz_2⟩ := all_app zz_1
  obtain ⟨z_M, zz_3⟩ := all_app zz_2
  obtain ⟨K, rfl, h0_K, h1_K⟩ := trod_i64 Tryd.underlying3 e_K
  obtain ⟨L, rfl, h0_L, h1_L⟩ := trod_i64 Tryd.underlying3 e_L
  obtain ⟨ao_Wd, n_Wd, cap_Wd, l_Wd, rfl, hl_Wd, hn_Wd, hcap_Wd, hrd_Wd, hc_Wd⟩ := trod_bytes Tryd.underlying22 Tryd.underlying5 (by kernel_rfl) (by kernel_rfl) e_Wd z_Wd
  obtain ⟨ao_M, n_M, cap_M, l_M, rfl, hl_M, hn_M, hcap_M, hrd_M, hc_M⟩ := trod_bytes Tryd.underlying22 Tryd.underlying5 (by kernel_rfl) (by kernel_rfl) e_M z_M
  clear hf_ hsz_ hxl_ e_K e_L e_Wd e_M z_K z_L z_Wd z_M zz_0 zz_1 zz_2 zz_3 z0 cltsluint8 cltint
  exact core W K L ao_Wd n_Wd cap_Wd l_Wd ao_M n_M cap_M l_M ⟨h0_K, h1_K⟩ ⟨h0_L, h1_L⟩ hl_Wd hrd_Wd (by omega) hl_M hrd_M (by omega) hc_M hT h00
end Go.Proofs.YtngkelflfahjbaaDoor.shaFull
