/- The document's Open of a hash. No condition. -/
import Derived.Test.YtngkelflfahjbaaDoorShaOb
import Derived.Test.YtngkelflfahjbaaDoorShaPl
import Derived.StillTailTactics
set_option linter.unusedVariables false
set_option linter.unusedSimpArgs false
namespace Go.Proofs.YtngkelflfahjbaaDoor
open Go.RowKit
def buildRo (ps : Array (Nat × Value)) : Sem Value := Instr.build 74 ps
theorem build_ro (ps : Array (Nat × Value)) : Instr.build 74 ps = buildRo ps := rfl
theorem run_buildRo (k N : Nat) (w : World) : (buildRo #[(0, .int .i64 k), (2, .int .u64 N)]).run Tryd.prog w = .ok (.agg (rhC k zS8 N (.slice none 0 0)).toArray) w := by kernel_rfl
structure RoN (l : List UInt8) (w : World) (x i : Value) (wr : World) : Prop where
  x : ∃ t : Nat, t ≤ 8 ∧ i = .int .i64 ((1 + t : Nat) : Int) ∧ x = .int .u64 ((beN ((piece l 1 8).take t) : Nat) : Int) ∧ w = wr
structure RoA (H k N : Nat) (new : List Nat) (w : World) (i : Value) (wr : World) : Prop where
  x : ∃ t : Nat, t ≤ 8 ∧ i = .int .i64 (t : Nat) ∧ HB wr H 74 ([Value.int .i64 (k : Nat)] ++ (mixL new (s8l zS8) t).map u64v ++ [Value.int .u64 (N : Nat), Value.slice none 0 0]) ∧ Below H w wr ∧ H < wr.heap.size
structure RoB (H k N q t : Nat) (pc : List UInt8) (new : List Nat) (w : World) (i : Value) (wr : World) : Prop where
  x : ∃ j : Nat, j ≤ q ∧ i = .int .i64 (j : Nat) ∧ HB wr H 74 ([Value.int .i64 (k : Nat)] ++ ((mixL new (s8l zS8) t).set t (beN (pc.take j))).map u64v ++ [Value.int .u64 (N : Nat), Value.slice none 0 0]) ∧ Below H w wr ∧ H < wr.heap.size
attribute [local go_sem ↓] Go.wp_at_zero Go.wp_at_succ build_ro
set_option maxRecDepth 100000 in
set_option maxHeartbeats 2000000 in
theorem ropen_ok (ao : Option Addr) (len cap : Nat) (l : List UInt8) (w : World) (k n : Nat) (hl : l.length = len) (hlen : len ≤ 140737488355000) (hcap : len ≤ cap) (hnil : ao = none → cap = 0) (hr : Rd w ao l) (hlt : ∀ a, ao = some a → a.block < w.heap.size) (hok : OpOk l k n) :
    Calls Tryd.prog 24 #[.slice ao len cap] w fun e w' => ∃ H v, e = .returned (.tuple #[.pointer (some ⟨H, 0, none⟩), .bool true]) ∧ HB w' H 74 (rhC k (stOf (wK k) l) (n - n % sizeW (wK k)) v) ∧ Own 5 w' (H + 1) v (l.drop (9 + wK k)) ∧ w.heap.size ≤ H ∧ Below w.heap.size w w' := by
  have hk := hok.hk
  have hW := size_kind hk
  have h9 := hok.h9
  rw [hl] at h9
  obtain ⟨b0, o0, hao, hc0⟩ := hr 0 (by omega)
  rw [hok.hk0, Nat.add_zero] at hc0
  have g1 : IntKind.i64.wrap (k : Int) = (k : Int) := IntWalk.i64_in _ (by omega)
  have g2 : ¬ (len : Int) < 9 := by omega
  have g3 : ¬ (k : Int) < 1 := by omega
  have g4 : ¬ (3 : Int) < (k : Int) := by omega
  have g5 : (0 : Int) < (len : Int) := by omega
  have g6 : 0 < len := by omega
  have Hkd := Lib.hid (fun w => kind_any k w hk)
  have Hl := Lib.hid hl
  have Hlen0 := Lib.hid hlen
  have Hcap := Lib.hid hcap
  have Hnil := Lib.hid hnil
  have Hr := Lib.hid hr
  have Hlt := Lib.hid hlt
  have Hk := Lib.hid hk
  have Hn2 := Lib.hid hok.hn2
  have Hn0 := Lib.hid hok.hn
  have Hlen2 : Hid (len = 9 + wK k + n % sizeW (wK k)) := Lib.hid (by rw [← hl]; exact hok.hsz)
  have H99 := Lib.hid h9
  clear hl hlen hcap hnil hr hlt hk hok h9
  subst hao
  have HW := Lib.hid hW
  generalize rnds (wK k) = z2 at *
  generalize digK k = z3 at *
  go_enter Tryd.func24, Tryd.ntmps24
  go_wp2_with fail
  as_aux_lemma =>
  refine (Hkd.out _).mono ?_
  rintro e w_ ⟨rfl, rfl⟩
  clear Hkd hc0 g1 g2 g3 g4 g5 g6
  go_upto_region 7 with fail
  generalize (some (⟨b0, o0, none⟩ : Addr)) = ao at *
  as_aux_lemma =>
  go_loopw [9, 10] (fun x i wr => RoN l w x i wr) (fun _ i _ => 9 - (intOf i).toNat)
  case atStart => exact ⟨0, by omega, rfl, rfl, rfl⟩
  case round =>
    as_aux_lemma =>
    obtain ⟨t, ht, rfl, rfl, rfl⟩ := hrel
    by_cases hlt : t < 8
    · obtain ⟨bb, o, hao2, hc⟩ := Hr.out (1 + t) (by have := Hl.out; have := H99.out; omega)
      have hpl : (piece l 1 8).length = 8 := piece_len (by have := Hl.out; have := H99.out; omega)
      have hget : (piece l 1 8)[t]?.getD 0 = l[1 + t]?.getD 0 := by unfold piece; rw [List.getElem?_take_of_lt hlt, List.getElem?_drop]
      have hst : beN ((piece l 1 8).take (t + 1)) = beN ((piece l 1 8).take t) * 256 + (l[1 + t]?.getD 0).toNat := by rw [take_snoc8 _ t (by omega), beN_snoc, hget]
      have hV := beN_lt ((piece l 1 8).take t)
      have hlk : ((piece l 1 8).take t).length = t := by rw [List.length_take]; omega
      rw [hlk] at hV
      have hp : (256 : Nat) ^ t ≤ 256 ^ 7 := Nat.pow_le_pow_right (by decide) (by omega)
      generalize beN ((piece l 1 8).take t) = V at *
      generalize l[1 + t]?.getD 0 = c at *
      have hcl := c.toNat_lt
      obtain ⟨V2, hV2⟩ : ∃ V2, V * 256 = V2 := ⟨_, rfl⟩
      obtain ⟨V3, hV3⟩ : ∃ V3, V2 + c.toNat = V3 := ⟨_, rfl⟩
      have f1 : IntKind.u64.wrap ((V : Int) * 256) = (V2 : Int) := by rw [IntWalk.u64_in _ (by omega)]; omega
      have f2 : IntKind.u64.wrap (c.toNat : Int) = (c.toNat : Int) := IntWalk.u64_in _ (by omega)
      have f3 : IntKind.u64.wrap ((V2 : Int) + (c.toNat : Int)) = (V3 : Int) := by rw [IntWalk.u64_in _ (by omega)]; omega
      obtain ⟨t1, ht1⟩ : ∃ t1, 1 + t = t1 := ⟨_, rfl⟩
      rw [ht1] at hc ⊢
      have i1 : (t1 : Int) < 9 := by omega
      have i2 : t1 < len := by have := H99.out; omega
      have i3 : IntKind.i64.wrap ((t1 : Int) + 1) = ((1 + (t + 1) : Nat) : Int) := by rw [IntWalk.i64_in _ (by omega)]; omega
      have Hst : Hid (beN ((piece l 1 8).take (t + 1)) = V3) := Lib.hid (by rw [hst, hV2, hV3])
      have Ht1 := Lib.hid ht1
      subst hao2
      clear hpl hget hst hV hlk hp hcl hV2 hV3 ht1
      go_wp2_with fail
      have ht1 := Ht1.out
      first
      | (go_roundw
         case rel => exact ⟨t + 1, by omega, by first | rfl | go_num | (congr 1; omega), by rw [Hst.out], rfl⟩
         case measure => (first | omega | (simp [intOf] <;> omega) | (simp only [intOf] <;> omega)))
      | exact ⟨⟨t + 1, by omega, by first | rfl | go_num | (congr 1; omega), by rw [Hst.out], rfl⟩, by (first | omega | (simp [intOf] <;> omega) | (simp only [intOf] <;> omega))⟩
      | (refine ⟨?_, by (first | omega | (simp [intOf] <;> omega) | (simp only [intOf] <;> omega))⟩
         (repeat apply Exists.intro)
         refine (fun a b => And.intro b a) ?_ ?_
         · first | rfl | ((repeat refine ⟨rfl, ?_⟩); rfl)
         exact ⟨t + 1, by omega, by first | rfl | go_num | (congr 1; omega), by rw [Hst.out], rfl⟩)
    · obtain rfl : t = 8 := by omega
      rw [show beN ((piece l 1 8).take 8) = n by rw [List.take_of_length_le (by unfold piece; rw [List.length_take]; exact Nat.min_le_left _ _)]; exact Hn0.out]
      as_aux_lemma =>
      have i1 : ¬ ((1 + 8 : Nat) : Int) < 9 := by decide
      rcases HW.out with ⟨-, hw, hz⟩ | ⟨-, hw, hz⟩
      · have Hw := Lib.hid hw
        rw [hz, hw] at Hlen2
        rw [hz, hw]
        clear hw hz hW HW
        obtain ⟨R, hR⟩ : ∃ R, n % 64 = R := ⟨_, rfl⟩
        obtain ⟨N, hN⟩ : ∃ N, n - R = N := ⟨_, rfl⟩
        have hlen2 := Hlen2.out
        have hlen0 := Hlen0.out
        have hn2 := Hn2.out
        rw [hR] at hlen2
        have e1 : (n : Int) % 64 = (R : Int) := by rw [← hR]; rfl
        have e1' : (n : Int).tmod 64 = (R : Int) := by rw [Int.tmod_eq_emod_of_nonneg (by omega)]; exact e1
        have e1w : IntKind.u64.wrap (R : Int) = (R : Int) := IntWalk.u64_in _ (by omega)
        have e1i : IntKind.i64.wrap (R : Int) = (R : Int) := IntWalk.i64_in _ (by omega)
        have e2 : ¬ (2305843009213693952 : Int) ≤ (n : Int) := by omega
        have e2' : (n : Int) < (2305843009213693952 : Int) := by omega
        have e3 : IntKind.i64.wrap (41 + (R : Int)) = (len : Int) := by rw [IntWalk.i64_in _ (by omega)]; omega
        have e4 : IntKind.u64.wrap ((n : Int) - (R : Int)) = (N : Int) := by rw [IntWalk.u64_in _ (by omega)]; omega
        have hbld := fun w => run_buildRo k N w
        have HN : Hid (n - n % 64 = N) := Lib.hid (by rw [hR]; exact hN)
        clear hR hN hlen2 hlen0 hn2
        go_upto_region 14 with fail
        as_aux_lemma =>
        clear e1 e1' e1w e1i e2 e2' e3 e4 hbld i1
        have HH6 : Hid (HB (w.alloc (.cells (rhC k zS8 N (.slice none 0 0)).toArray 74)) w.heap.size 74 (rhC k zS8 N (.slice none 0 0))) := Lib.hid (HB.new w _ _)
        have HB5 := Lib.hid ((Below.refl w.heap.size w).alloc (Nat.le_refl _) (.cells (rhC k zS8 N (.slice none 0 0)).toArray 74))
        obtain ⟨H, hH⟩ : ∃ H, w.heap.size = H := ⟨_, rfl⟩
        have Hs6 : Hid (H < (w.alloc (.cells (rhC k zS8 N (.slice none 0 0)).toArray 74)).heap.size) := Lib.hid (by simp; omega)
        have Hr5 := Lib.hid (Hr.out.below HB5.out)
        have HltH : Hid (∀ a, ao = some a → a.block < H) := Lib.hid (fun a e => by have := Hlt.out a e; omega)
        rw [hH] at HH6 HB5 ⊢
        have HHx := Lib.hid hH
        generalize w.alloc (.cells (rhC k zS8 N (.slice none 0 0)).toArray 74) = w5 at *
        clear hH Hlt Hr
        go_upto_region 16 with fail
        go_loopw [14, 15] (fun i _ wr => RoA H k N (s8l (stOf 32 l)) w5 i wr) (fun i _ _ => 8 - (intOf i).toNat)
        case atStart => exact ⟨0, by omega, rfl, HH6.out, Below.refl _ _, Hs6.out⟩
        case round =>
          as_aux_lemma =>
          clear HH6 Hs6
          obtain ⟨t, ht, rfl, hH, hBl, hsz⟩ := hrel
          have HH := Lib.hid hH
          have HBl := Lib.hid hBl
          have Hsz := Lib.hid hsz
          clear hH hBl hsz
          by_cases hlt : t < 8
          · obtain ⟨f, hf⟩ : ∃ f, 9 + t * 4 = f := ⟨_, rfl⟩
            obtain ⟨F1, hF1⟩ : ∃ x, t * 4 = x := ⟨_, rfl⟩
            have p1 : IntKind.i64.wrap ((t : Int) * 4) = (F1 : Int) := by rw [IntWalk.i64_in _ (by omega)]; omega
            have p2 : IntKind.i64.wrap (9 + (F1 : Int)) = (f : Int) := by rw [IntWalk.i64_in _ (by omega)]; omega
            have hlen2 := Hlen2.out
            have hfl : f + 4 ≤ len := by omega
            have i1 : (t : Int) < 8 := by omega
            have hml := mixL_len (new := s8l (stOf 32 l)) (old := s8l zS8) (i := t) rfl rfl (by omega)
            have hz0 : (mixL (s8l (stOf 32 l)) (s8l zS8) t)[t]? = some 0 := by rw [mixL_get rfl rfl hlt]; match t, hlt with | 0, _ => rfl | 1, _ => rfl | 2, _ => rfl | 3, _ => rfl | 4, _ => rfl | 5, _ => rfl | 6, _ => rfl | 7, _ => rfl
            have hstart : (mixL (s8l (stOf 32 l)) (s8l zS8) t).set t 0 = mixL (s8l (stOf 32 l)) (s8l zS8) t := by
              apply List.ext_getElem?
              intro i
              rw [List.getElem?_set]
              split
              · rename_i h
                subst h
                rw [hz0, if_pos (by rw [hml]; exact hlt)]
              · rfl
            have hnew : (s8l (stOf 32 l))[t]? = some (beN (piece l f 4)) := by
              unfold stOf
              rw [mk8_get _ hlt, ← hf]
            have hend : (mixL (s8l (stOf 32 l)) (s8l zS8) t).set t (beN (piece l f 4)) = mixL (s8l (stOf 32 l)) (s8l zS8) (t + 1) := mixL_set rfl rfl hlt hnew
            have hpl : (piece l f 4).length = 4 := piece_len (by rw [Hl.out]; exact hfl)
            have HH0 : Hid (HB wr H 74 ([Value.int .i64 (k : Nat)] ++ ((mixL (s8l (stOf 32 l)) (s8l zS8) t).set t (beN ((piece l f 4).take 0))).map u64v ++ [Value.int .u64 (N : Nat), Value.slice none 0 0])) := Lib.hid (by
              rw [List.take_zero, show beN [] = 0 from rfl, hstart]; exact HH.out)
            have Hend := Lib.hid hend
            have Hpl := Lib.hid hpl
            have Hml := Lib.hid hml
            have Hfl := Lib.hid hfl
            clear hF1 hlen2 hfl hml hz0 hstart hnew hend hpl HH
            go_upto_region 19 with fail
            go_loopw [15] (fun i wr => RoB H k N 4 t (piece l f 4) (s8l (stOf 32 l)) w5 i wr) (fun i _ => 4 - (intOf i).toNat)
            case atStart => exact ⟨0, by omega, rfl, HH0.out, HBl.out, Hsz.out⟩
            case round =>
              as_aux_lemma =>
              clear HH0 HBl Hsz
              obtain ⟨j, hj, rfl, hH, hBl, hsz⟩ := hrel
              have HH := Lib.hid hH
              have HBl := Lib.hid hBl
              have Hsz := Lib.hid hsz
              clear hH hBl hsz
              by_cases hjt : j < 4
              · have hRw := Rd.belowM Hr5.out HBl.out HltH.out
                obtain ⟨bb, o, hao2, hc⟩ := hRw (f + j) (by rw [Hl.out]; have := Hfl.out; omega)
                have hget : (piece l f 4)[j]?.getD 0 = l[f + j]?.getD 0 := by unfold piece; rw [List.getElem?_take_of_lt hjt, List.getElem?_drop]
                have hst : beN ((piece l f 4).take (j + 1)) = beN ((piece l f 4).take j) * 256 + (l[f + j]?.getD 0).toNat := by rw [take_snoc8 _ j (by rw [Hpl.out]; exact hjt), beN_snoc, hget]
                have hV := beN_lt ((piece l f 4).take j)
                have hlk : ((piece l f 4).take j).length = j := by rw [List.length_take, Hpl.out]; omega
                rw [hlk] at hV
                have hp : (256 : Nat) ^ j ≤ 256 ^ 7 := Nat.pow_le_pow_right (by decide) (by omega)
                have hH := HH.out
                generalize beN ((piece l f 4).take j) = V at *
                generalize l[f + j]?.getD 0 = c at *
                have hcl := c.toNat_lt
                obtain ⟨V2, hV2⟩ : ∃ V2, V * 256 = V2 := ⟨_, rfl⟩
                obtain ⟨V3, hV3⟩ : ∃ V3, V2 + c.toNat = V3 := ⟨_, rfl⟩
                have f1 : IntKind.u64.wrap ((V : Int) * 256) = (V2 : Int) := by rw [IntWalk.u64_in _ (by omega)]; omega
                have f2 : IntKind.u64.wrap (c.toNat : Int) = (c.toNat : Int) := IntWalk.u64_in _ (by omega)
                have f3 : IntKind.u64.wrap ((V2 : Int) + (c.toNat : Int)) = (V3 : Int) := by rw [IntWalk.u64_in _ (by omega)]; omega
                have hml := Hml.out
                have hlen8 : ((mixL (s8l (stOf 32 l)) (s8l zS8) t).set t V).length = 8 := by rw [List.length_set, hml]
                have hg : ([Value.int .i64 (k : Nat)] ++ ((mixL (s8l (stOf 32 l)) (s8l zS8) t).set t V).map u64v ++ [Value.int .u64 (N : Nat), Value.slice none 0 0])[1 + t]? = some (.int .u64 (V : Int)) := by
                  rw [mid_get (n := 1) rfl (by rw [List.length_map, hlen8]; exact hlt), List.getElem?_map, List.getElem?_set_self (by rw [hml]; exact hlt)]; rfl
                have hset : ([Value.int .i64 (k : Nat)] ++ ((mixL (s8l (stOf 32 l)) (s8l zS8) t).set t V).map u64v ++ [Value.int .u64 (N : Nat), Value.slice none 0 0]).set (1 + t) (.int .u64 (V3 : Int)) = [Value.int .i64 (k : Nat)] ++ ((mixL (s8l (stOf 32 l)) (s8l zS8) t).set t V3).map u64v ++ [Value.int .u64 (N : Nat), Value.slice none 0 0] := by
                  rw [mid_set (n := 1) rfl (by rw [List.length_map, hlen8]; exact hlt), show (Value.int .u64 (V3 : Int)) = u64v V3 from rfl, ← List.map_set, List.set_set]
                have kv := hH.cell hg
                have hHd := hH.drn (Drn.refl _).drew
                have hcd := hHd.cell hg
                have hfd := hHd.frozen (1 + t)
                have HS := Lib.hid (hHd.set (1 + t) (.int .u64 (V3 : Int)))
                rw [hset] at HS
                have HB7 := Lib.hid ((HBl.out.drew).grown (grown_set wr.drew ⟨H, 1 + t, none⟩ (.int .u64 (V3 : Int))) (by have := Hsz.out; show H ≤ wr.heap.size; omega) (fun x hx => Nat.le_of_eq (Option.some.inj hx)))
                have Hs7 : Hid (H < (wr.drew.setCell ⟨H, 1 + t, none⟩ (.int .u64 (V3 : Int))).heap.size) := Lib.hid (by have := Hsz.out; simpa [World.setCell] using this)
                have Hst : Hid (beN ((piece l f 4).take (j + 1)) = V3) := Lib.hid (by rw [hst, hV2, hV3])
                obtain ⟨fj, hfj⟩ : ∃ x, f + j = x := ⟨_, rfl⟩
                have p3 : IntKind.i64.wrap ((f : Int) + (j : Int)) = (fj : Int) := by have := Hfl.out; have := Hlen0.out; rw [IntWalk.i64_in _ (by omega)]; omega
                have p4 : fj < len := by have := Hfl.out; omega
                have p5 : (j : Int) < 4 := by omega
                rw [hfj] at hc
                subst hao2
                clear hRw hget hst hV hlk hp hcl hV2 hV3 hml hlen8 hg hset hHd hfj HH HBl Hsz hH
                go_upto_region 21 with fail
                refine wp_region_still_tail 23 (by kernel_rfl) (by kernel_rfl) ?_
                simp only [List.take_succ_cons, List.take_zero, List.drop_succ_cons, List.drop_zero]
                repeat still_step
                refine wpStill_nil ?_
                as_aux_lemma =>
                clear kv f1 f2 f3 p3 p4 hc
                go_wp2_with fail
                clear hcd hfd
                first
                | (go_roundw
                   case rel => exact ⟨j + 1, by omega, by go_num, by rw [Hst.out]; exact HS.out, HB7.out, Hs7.out⟩
                   case measure => (first | omega | (simp [intOf] <;> omega) | (simp only [intOf] <;> omega)))
                | exact ⟨⟨j + 1, by omega, by go_num, by rw [Hst.out]; exact HS.out, HB7.out, Hs7.out⟩, by (first | omega | (simp [intOf] <;> omega) | (simp only [intOf] <;> omega))⟩
                | (refine ⟨?_, by (first | omega | (simp [intOf] <;> omega) | (simp only [intOf] <;> omega))⟩
                   (repeat apply Exists.intro)
                   refine (fun a b => And.intro b a) ?_ ?_
                   · first | rfl | ((repeat refine ⟨rfl, ?_⟩); rfl)
                   exact ⟨j + 1, by omega, by go_num, by rw [Hst.out]; exact HS.out, HB7.out, Hs7.out⟩)
              · obtain rfl : j = 4 := by omega
                have HHn : Hid (HB wr H 74 ([Value.int .i64 (k : Nat)] ++ (mixL (s8l (stOf 32 l)) (s8l zS8) (t + 1)).map u64v ++ [Value.int .u64 (N : Nat), Value.slice none 0 0])) := Lib.hid (by
                  have h := HH.out
                  rw [List.take_of_length_le (by rw [Hpl.out]; exact Nat.le_refl _), Hend.out] at h
                  exact h)
                have i5 : ¬ ((4 : Nat) : Int) < 4 := by omega
                clear HH
                go_wp2_with fail
                first
                | (go_roundw
                   case rel => exact ⟨t + 1, by omega, by go_num, HHn.out, HBl.out, Hsz.out⟩
                   case measure => (first | omega | (simp [intOf] <;> omega) | (simp only [intOf] <;> omega)))
                | exact ⟨⟨t + 1, by omega, by go_num, HHn.out, HBl.out, Hsz.out⟩, by (first | omega | (simp [intOf] <;> omega) | (simp only [intOf] <;> omega))⟩
                | (refine ⟨?_, by (first | omega | (simp [intOf] <;> omega) | (simp only [intOf] <;> omega))⟩
                   (repeat apply Exists.intro)
                   refine (fun a b => And.intro b a) ?_ ?_
                   · first | rfl | ((repeat refine ⟨rfl, ?_⟩); rfl)
                   exact ⟨t + 1, by omega, by go_num, HHn.out, HBl.out, Hsz.out⟩)
          · obtain rfl : t = 8 := by omega
            have hH := HH.out
            rw [show mixL (s8l (stOf 32 l)) (s8l zS8) 8 = s8l (stOf 32 l) from by unfold mixL; rfl] at hH
            have HH8 : Hid (HB wr H 74 (rhC k (stOf 32 l) N (.slice none 0 0))) := Lib.hid hH
            have Hr8 := Lib.hid (Rd.belowM Hr5.out HBl.out HltH.out)
            clear hH HH hlt ht
            have hlen2 := Hlen2.out
            have hcap := Hcap.out
            obtain ⟨bo, hsl, -, hbn, hslr⟩ := slice_lo ao len cap 41 (by omega) hcap .i64
            push_cast at hsl
            have w1 : IntKind.i64.wrap 32 = 32 := by decide
            have w2 : IntKind.i64.wrap 41 = 41 := by decide
            have hd0 : Drn wr wr.drew := ⟨1, rfl⟩
            have Hr9 := Lib.hid (hd0.rd (hslr wr l Hr8.out Hl.out))
            have Hrl : Hid ((l.drop 41).length = len - 41) := Lib.hid (by rw [List.length_drop, Hl.out])
            have Hbn : Hid (bo = none → cap - 41 = 0) := Lib.hid (fun e => by have := Hnil.out (hbn e); omega)
            have HHd := Lib.hid (HH8.out.drn hd0)
            have HBd := Lib.hid (HBl.out.trans (hd0.below _))
            have Hsd : Hid (H + 1 ≤ wr.drew.heap.size) := Lib.hid (by have := Hsz.out; show H + 1 ≤ wr.heap.size; omega)
            have hc10 : wr.drew.cell? ⟨H, 10, none⟩ = some (.slice none 0 0) := HHd.out.cell (rhC_v k (stOf 32 l) N (.slice none 0 0))
            clear hslr hbn Hr8 hlen2 hcap HH8 HBl Hsz
            go_upto_region 22 with fail
            have hc10' : wr.cell? ⟨H, 10, none⟩ = some (.slice none 0 0) := hc10
            refine wp_region_held_drew (S := fun w' => True) (by kernel_rfl) trivial (fun hHeld => ?_)
            refine wpAnyH_take (i := 0) (v := ?_) (by simp only [List.getElem?_toArray, List.getElem?_cons_succ, List.getElem?_cons_zero]; rfl) (by kernel_rfl) (by kernel_rfl) (by kernel_rfl) (by intro _ _ _ h_; exact h_) (Or.inl ⟨by rfl, ?_⟩) (by assumption) ?_
            rotate_left 1
            focus (intro w_ hSw_; go_simp; try with_reducible rfl)
            simp only [Act.put, List.setIfInBounds_toArray, List.set_cons_zero, List.set_cons_succ]
            refine wpAnyH_take (i := 1) (v := ?_) (by simp only [List.getElem?_toArray, List.getElem?_cons_succ, List.getElem?_cons_zero]; rfl) (by kernel_rfl) (by kernel_rfl) (by kernel_rfl) (by intro _ _ _ h_; exact h_) (Or.inl ⟨by rfl, ?_⟩) (by assumption) ?_
            rotate_left 1
            focus (intro w_ hSw_; go_simp; try with_reducible rfl)
            simp only [Act.put, List.setIfInBounds_toArray, List.set_cons_zero, List.set_cons_succ]
            refine wpAnyH_take (i := 2) (v := ?_) (by simp only [List.getElem?_toArray, List.getElem?_cons_succ, List.getElem?_cons_zero]; rfl) (by kernel_rfl) (by kernel_rfl) (by kernel_rfl) (by intro _ _ _ h_; exact h_) (Or.inl ⟨by rfl, ?_⟩) (by assumption) ?_
            rotate_left 1
            focus (intro w_ hSw_; go_simp; try with_reducible rfl)
            simp only [Act.put, List.setIfInBounds_toArray, List.set_cons_zero, List.set_cons_succ]
            refine wpAnyH_take (i := 3) (v := ?_) (by simp only [List.getElem?_toArray, List.getElem?_cons_succ, List.getElem?_cons_zero]; rfl) (by kernel_rfl) (by kernel_rfl) (by kernel_rfl) (by intro _ _ _ h_; exact h_) (Or.inl ⟨by rfl, ?_⟩) (by assumption) ?_
            rotate_left 1
            focus (intro w_ hSw_; go_simp; try with_reducible rfl)
            simp only [Act.put, List.setIfInBounds_toArray, List.set_cons_zero, List.set_cons_succ]
            refine wpAnyH_take (i := 5) (v := ?_) (by simp only [List.getElem?_toArray, List.getElem?_cons_succ, List.getElem?_cons_zero]; rfl) (by kernel_rfl) (by kernel_rfl) (by kernel_rfl) (by intro _ _ _ h_; exact h_) (Or.inl ⟨by rfl, ?_⟩) (by assumption) ?_
            rotate_left 1
            focus (intro w_ hSw_; go_simp; try with_reducible rfl)
            simp only [Act.put, List.setIfInBounds_toArray, List.set_cons_zero, List.set_cons_succ]
            refine wpAnyH_take (i := 6) (v := ?_) (by simp only [List.getElem?_toArray, List.getElem?_cons_succ, List.getElem?_cons_zero]; rfl) (by kernel_rfl) (by kernel_rfl) (by kernel_rfl) (by intro _ _ _ h_; exact h_) (Or.inl ⟨by rfl, ?_⟩) (by assumption) ?_
            rotate_left 1
            focus (intro w_ hSw_; go_simp; try with_reducible rfl)
            simp only [Act.put, List.setIfInBounds_toArray, List.set_cons_zero, List.set_cons_succ]
            refine wpAnyH_take (i := 7) (v := ?_) (by simp only [List.getElem?_toArray, List.getElem?_cons_succ, List.getElem?_cons_zero]; rfl) (by kernel_rfl) (by kernel_rfl) (by kernel_rfl) (by intro _ _ _ h_; exact h_) (Or.inl ⟨by rfl, ?_⟩) (by assumption) ?_
            rotate_left 1
            focus (intro w_ hSw_; go_simp; try with_reducible rfl)
            simp only [Act.put, List.setIfInBounds_toArray, List.set_cons_zero, List.set_cons_succ]
            refine wpAnyH_take (i := 8) (v := ?_) (by simp only [List.getElem?_toArray, List.getElem?_cons_succ, List.getElem?_cons_zero]; rfl) (by kernel_rfl) (by kernel_rfl) (by kernel_rfl) (by intro _ _ _ h_; exact h_) (Or.inl ⟨by rfl, ?_⟩) (by assumption) ?_
            rotate_left 1
            focus (intro w_ hSw_; go_simp; try with_reducible rfl)
            simp only [Act.put, List.setIfInBounds_toArray, List.set_cons_zero, List.set_cons_succ]
            refine wpAnyH_take (i := 9) (v := ?_) (by simp only [List.getElem?_toArray, List.getElem?_cons_succ, List.getElem?_cons_zero]; rfl) (by kernel_rfl) (by kernel_rfl) (by kernel_rfl) (by intro _ _ _ h_; exact h_) (Or.inl ⟨by rfl, ?_⟩) (by assumption) ?_
            rotate_left 1
            focus (intro w_ hSw_; go_simp; try with_reducible rfl)
            simp only [Act.put, List.setIfInBounds_toArray, List.set_cons_zero, List.set_cons_succ]
            refine wpAnyH_ready (rs := [4]) (by kernel_rfl) (by simp) ?_
            refine AllReadyH.cons (by simp only [List.getElem?_toArray, List.getElem?_cons_succ, List.getElem?_cons_zero]; rfl) (fun K hK => ?_) AllReadyH.nil
            go_simp
            refine hK.out _ _ trivial (fun hHeld2 => ?_)
            clear hHeld hHeld2
            clear hK K
            try simp only [Act.put, List.setIfInBounds_toArray, List.set_cons_zero, List.set_cons_succ]
            have hHeld : True := trivial
            refine wpAnyH_ready (rs := [10]) (by kernel_rfl) (by simp) ?_
            refine AllReadyH.cons (by simp only [List.getElem?_toArray, List.getElem?_cons_succ, List.getElem?_cons_zero]; rfl) (fun K hK => ?_) AllReadyH.nil
            refine step_of_wp rfl (wp_append_gr byteRow02 _ _ rfl (H + 1) (.slice none 0 0) [] rfl (Own.nil _ _ _) bo (len - 41) (cap - 41) (l.drop 41) rfl Hrl.out Hr9.out Hbn.out (by have := Hlen0.out; simp; omega) Hsd.out (fun v9 w9 ho9 hg9 => ?_))
            refine hK.out _ _ trivial (fun hHeld2 => ?_)
            clear hHeld2
            clear hK K
            try simp only [Act.put, List.setIfInBounds_toArray, List.set_cons_zero, List.set_cons_succ]
            rw [List.nil_append] at ho9
            obtain ⟨a9, c9, rfl, -, -, -, -, -⟩ := ho9.rd3
            have HH9 := Lib.hid (HHd.out.grown hg9.g (fun e => by cases e))
            have HB9 := Lib.hid (HBd.out.grown hg9.g (by have := Hsd.out; omega) (fun x hx => by cases hx))
            have k10 := HH9.out.cell (rhC_v k (stOf 32 l) N (.slice none 0 0))
            have f10 := HH9.out.frozen 10
            generalize (l.drop 41).length = n9 at *
            have HH10 : Hid (HB (w9.setCell ⟨H, 10, none⟩ (.slice a9 n9 c9)) H 74 (rhC k (stOf 32 l) N (.slice a9 n9 c9))) := Lib.hid (HH9.out.set 10 (.slice a9 n9 c9))
            have hvb : (Value.slice a9 n9 c9).ownBlock ≠ some H := fun e => by have := (own_blk ho9 e).1; omega
            have Ho10 := Lib.hid (ho9.other (a := ⟨H, 10, none⟩) hvb (.slice a9 n9 c9))
            have HB10 := Lib.hid (HB9.out.grown (grown_set w9 ⟨H, 10, none⟩ (.slice a9 n9 c9)) (by have := HH9.out.lt; omega) (fun x hx => Nat.le_of_eq (Option.some.inj hx)))
            clear ho9 hg9 hvb HB9 HHd HBd Hsd hc10 hc10' hsl hd0
            refine wpAnyH_take (i := 11) (v := ?_) (by simp only [List.getElem?_toArray, List.getElem?_cons_succ, List.getElem?_cons_zero]; rfl) (by kernel_rfl) (by kernel_rfl) (by kernel_rfl) (by intro _ _ _ h_; exact h_) (Or.inl ⟨by rfl, ?_⟩) (by assumption) ?_
            rotate_left 1
            focus (intro w_ hSw_; go_simp; try with_reducible rfl)
            simp only [Act.put, List.setIfInBounds_toArray, List.set_cons_zero, List.set_cons_succ]
            refine wpAnyH_take (i := 12) (v := ?_) (by simp only [List.getElem?_toArray, List.getElem?_cons_succ, List.getElem?_cons_zero]; rfl) (by kernel_rfl) (by kernel_rfl) (by kernel_rfl) (by intro _ _ _ h_; exact h_) (Or.inl ⟨by rfl, ?_⟩) (by assumption) ?_
            rotate_left 1
            focus (intro w_ hSw_; go_simp; try with_reducible rfl)
            simp only [Act.put, List.setIfInBounds_toArray, List.set_cons_zero, List.set_cons_succ]
            refine wpAnyH_ready (rs := [13]) (by kernel_rfl) (by simp) ?_
            refine AllReadyH.cons (by simp only [List.getElem?_toArray, List.getElem?_cons_succ, List.getElem?_cons_zero]; rfl) (fun K hK => ?_) AllReadyH.nil
            go_simp
            refine hK.out _ _ trivial (fun hHeld2 => ?_)
            clear hK K hHeld hHeld2 k10 f10 HH9
            refine wpAnyH_done (by kernel_rfl) ?_ _
            go_wp2_with fail
            go_ret2
            exact ⟨H, _, rfl, by rw [Hw.out, show sizeW 32 = 64 from rfl, HN.out]; exact HH10.out, by rw [Hw.out]; exact Ho10.out, by have := HHx.out; omega, by rw [HHx.out]; exact HB5.out.trans HB10.out⟩
      · have Hw := Lib.hid hw
        rw [hz, hw] at Hlen2
        rw [hz, hw]
        clear hw hz hW HW
        obtain ⟨R, hR⟩ : ∃ R, n % 128 = R := ⟨_, rfl⟩
        obtain ⟨N, hN⟩ : ∃ N, n - R = N := ⟨_, rfl⟩
        have hlen2 := Hlen2.out
        have hlen0 := Hlen0.out
        have hn2 := Hn2.out
        rw [hR] at hlen2
        have e1 : (n : Int) % 128 = (R : Int) := by rw [← hR]; rfl
        have e1' : (n : Int).tmod 128 = (R : Int) := by rw [Int.tmod_eq_emod_of_nonneg (by omega)]; exact e1
        have e1w : IntKind.u64.wrap (R : Int) = (R : Int) := IntWalk.u64_in _ (by omega)
        have e1i : IntKind.i64.wrap (R : Int) = (R : Int) := IntWalk.i64_in _ (by omega)
        have e2 : ¬ (2305843009213693952 : Int) ≤ (n : Int) := by omega
        have e2' : (n : Int) < (2305843009213693952 : Int) := by omega
        have e3 : IntKind.i64.wrap (73 + (R : Int)) = (len : Int) := by rw [IntWalk.i64_in _ (by omega)]; omega
        have e4 : IntKind.u64.wrap ((n : Int) - (R : Int)) = (N : Int) := by rw [IntWalk.u64_in _ (by omega)]; omega
        have hbld := fun w => run_buildRo k N w
        have HN : Hid (n - n % 128 = N) := Lib.hid (by rw [hR]; exact hN)
        clear hR hN hlen2 hlen0 hn2
        go_upto_region 14 with fail
        as_aux_lemma =>
        clear e1 e1' e1w e1i e2 e2' e3 e4 hbld i1
        have HH6 : Hid (HB (w.alloc (.cells (rhC k zS8 N (.slice none 0 0)).toArray 74)) w.heap.size 74 (rhC k zS8 N (.slice none 0 0))) := Lib.hid (HB.new w _ _)
        have HB5 := Lib.hid ((Below.refl w.heap.size w).alloc (Nat.le_refl _) (.cells (rhC k zS8 N (.slice none 0 0)).toArray 74))
        obtain ⟨H, hH⟩ : ∃ H, w.heap.size = H := ⟨_, rfl⟩
        have Hs6 : Hid (H < (w.alloc (.cells (rhC k zS8 N (.slice none 0 0)).toArray 74)).heap.size) := Lib.hid (by simp; omega)
        have Hr5 := Lib.hid (Hr.out.below HB5.out)
        have HltH : Hid (∀ a, ao = some a → a.block < H) := Lib.hid (fun a e => by have := Hlt.out a e; omega)
        rw [hH] at HH6 HB5 ⊢
        have HHx := Lib.hid hH
        generalize w.alloc (.cells (rhC k zS8 N (.slice none 0 0)).toArray 74) = w5 at *
        clear hH Hlt Hr
        go_upto_region 16 with fail
        go_loopw [14, 15] (fun i _ wr => RoA H k N (s8l (stOf 64 l)) w5 i wr) (fun i _ _ => 8 - (intOf i).toNat)
        case atStart => exact ⟨0, by omega, rfl, HH6.out, Below.refl _ _, Hs6.out⟩
        case round =>
          as_aux_lemma =>
          clear HH6 Hs6
          obtain ⟨t, ht, rfl, hH, hBl, hsz⟩ := hrel
          have HH := Lib.hid hH
          have HBl := Lib.hid hBl
          have Hsz := Lib.hid hsz
          clear hH hBl hsz
          by_cases hlt : t < 8
          · obtain ⟨f, hf⟩ : ∃ f, 9 + t * 8 = f := ⟨_, rfl⟩
            obtain ⟨F1, hF1⟩ : ∃ x, t * 8 = x := ⟨_, rfl⟩
            have p1 : IntKind.i64.wrap ((t : Int) * 8) = (F1 : Int) := by rw [IntWalk.i64_in _ (by omega)]; omega
            have p2 : IntKind.i64.wrap (9 + (F1 : Int)) = (f : Int) := by rw [IntWalk.i64_in _ (by omega)]; omega
            have hlen2 := Hlen2.out
            have hfl : f + 8 ≤ len := by omega
            have i1 : (t : Int) < 8 := by omega
            have hml := mixL_len (new := s8l (stOf 64 l)) (old := s8l zS8) (i := t) rfl rfl (by omega)
            have hz0 : (mixL (s8l (stOf 64 l)) (s8l zS8) t)[t]? = some 0 := by rw [mixL_get rfl rfl hlt]; match t, hlt with | 0, _ => rfl | 1, _ => rfl | 2, _ => rfl | 3, _ => rfl | 4, _ => rfl | 5, _ => rfl | 6, _ => rfl | 7, _ => rfl
            have hstart : (mixL (s8l (stOf 64 l)) (s8l zS8) t).set t 0 = mixL (s8l (stOf 64 l)) (s8l zS8) t := by
              apply List.ext_getElem?
              intro i
              rw [List.getElem?_set]
              split
              · rename_i h
                subst h
                rw [hz0, if_pos (by rw [hml]; exact hlt)]
              · rfl
            have hnew : (s8l (stOf 64 l))[t]? = some (beN (piece l f 8)) := by
              unfold stOf
              rw [mk8_get _ hlt, ← hf]
            have hend : (mixL (s8l (stOf 64 l)) (s8l zS8) t).set t (beN (piece l f 8)) = mixL (s8l (stOf 64 l)) (s8l zS8) (t + 1) := mixL_set rfl rfl hlt hnew
            have hpl : (piece l f 8).length = 8 := piece_len (by rw [Hl.out]; exact hfl)
            have HH0 : Hid (HB wr H 74 ([Value.int .i64 (k : Nat)] ++ ((mixL (s8l (stOf 64 l)) (s8l zS8) t).set t (beN ((piece l f 8).take 0))).map u64v ++ [Value.int .u64 (N : Nat), Value.slice none 0 0])) := Lib.hid (by
              rw [List.take_zero, show beN [] = 0 from rfl, hstart]; exact HH.out)
            have Hend := Lib.hid hend
            have Hpl := Lib.hid hpl
            have Hml := Lib.hid hml
            have Hfl := Lib.hid hfl
            clear hF1 hlen2 hfl hml hz0 hstart hnew hend hpl HH
            go_upto_region 19 with fail
            go_loopw [15] (fun i wr => RoB H k N 8 t (piece l f 8) (s8l (stOf 64 l)) w5 i wr) (fun i _ => 8 - (intOf i).toNat)
            case atStart => exact ⟨0, by omega, rfl, HH0.out, HBl.out, Hsz.out⟩
            case round =>
              as_aux_lemma =>
              clear HH0 HBl Hsz
              obtain ⟨j, hj, rfl, hH, hBl, hsz⟩ := hrel
              have HH := Lib.hid hH
              have HBl := Lib.hid hBl
              have Hsz := Lib.hid hsz
              clear hH hBl hsz
              by_cases hjt : j < 8
              · have hRw := Rd.belowM Hr5.out HBl.out HltH.out
                obtain ⟨bb, o, hao2, hc⟩ := hRw (f + j) (by rw [Hl.out]; have := Hfl.out; omega)
                have hget : (piece l f 8)[j]?.getD 0 = l[f + j]?.getD 0 := by unfold piece; rw [List.getElem?_take_of_lt hjt, List.getElem?_drop]
                have hst : beN ((piece l f 8).take (j + 1)) = beN ((piece l f 8).take j) * 256 + (l[f + j]?.getD 0).toNat := by rw [take_snoc8 _ j (by rw [Hpl.out]; exact hjt), beN_snoc, hget]
                have hV := beN_lt ((piece l f 8).take j)
                have hlk : ((piece l f 8).take j).length = j := by rw [List.length_take, Hpl.out]; omega
                rw [hlk] at hV
                have hp : (256 : Nat) ^ j ≤ 256 ^ 7 := Nat.pow_le_pow_right (by decide) (by omega)
                have hH := HH.out
                generalize beN ((piece l f 8).take j) = V at *
                generalize l[f + j]?.getD 0 = c at *
                have hcl := c.toNat_lt
                obtain ⟨V2, hV2⟩ : ∃ V2, V * 256 = V2 := ⟨_, rfl⟩
                obtain ⟨V3, hV3⟩ : ∃ V3, V2 + c.toNat = V3 := ⟨_, rfl⟩
                have f1 : IntKind.u64.wrap ((V : Int) * 256) = (V2 : Int) := by rw [IntWalk.u64_in _ (by omega)]; omega
                have f2 : IntKind.u64.wrap (c.toNat : Int) = (c.toNat : Int) := IntWalk.u64_in _ (by omega)
                have f3 : IntKind.u64.wrap ((V2 : Int) + (c.toNat : Int)) = (V3 : Int) := by rw [IntWalk.u64_in _ (by omega)]; omega
                have hml := Hml.out
                have hlen8 : ((mixL (s8l (stOf 64 l)) (s8l zS8) t).set t V).length = 8 := by rw [List.length_set, hml]
                have hg : ([Value.int .i64 (k : Nat)] ++ ((mixL (s8l (stOf 64 l)) (s8l zS8) t).set t V).map u64v ++ [Value.int .u64 (N : Nat), Value.slice none 0 0])[1 + t]? = some (.int .u64 (V : Int)) := by
                  rw [mid_get (n := 1) rfl (by rw [List.length_map, hlen8]; exact hlt), List.getElem?_map, List.getElem?_set_self (by rw [hml]; exact hlt)]; rfl
                have hset : ([Value.int .i64 (k : Nat)] ++ ((mixL (s8l (stOf 64 l)) (s8l zS8) t).set t V).map u64v ++ [Value.int .u64 (N : Nat), Value.slice none 0 0]).set (1 + t) (.int .u64 (V3 : Int)) = [Value.int .i64 (k : Nat)] ++ ((mixL (s8l (stOf 64 l)) (s8l zS8) t).set t V3).map u64v ++ [Value.int .u64 (N : Nat), Value.slice none 0 0] := by
                  rw [mid_set (n := 1) rfl (by rw [List.length_map, hlen8]; exact hlt), show (Value.int .u64 (V3 : Int)) = u64v V3 from rfl, ← List.map_set, List.set_set]
                have kv := hH.cell hg
                have hHd := hH.drn (Drn.refl _).drew
                have hcd := hHd.cell hg
                have hfd := hHd.frozen (1 + t)
                have HS := Lib.hid (hHd.set (1 + t) (.int .u64 (V3 : Int)))
                rw [hset] at HS
                have HB7 := Lib.hid ((HBl.out.drew).grown (grown_set wr.drew ⟨H, 1 + t, none⟩ (.int .u64 (V3 : Int))) (by have := Hsz.out; show H ≤ wr.heap.size; omega) (fun x hx => Nat.le_of_eq (Option.some.inj hx)))
                have Hs7 : Hid (H < (wr.drew.setCell ⟨H, 1 + t, none⟩ (.int .u64 (V3 : Int))).heap.size) := Lib.hid (by have := Hsz.out; simpa [World.setCell] using this)
                have Hst : Hid (beN ((piece l f 8).take (j + 1)) = V3) := Lib.hid (by rw [hst, hV2, hV3])
                obtain ⟨fj, hfj⟩ : ∃ x, f + j = x := ⟨_, rfl⟩
                have p3 : IntKind.i64.wrap ((f : Int) + (j : Int)) = (fj : Int) := by have := Hfl.out; have := Hlen0.out; rw [IntWalk.i64_in _ (by omega)]; omega
                have p4 : fj < len := by have := Hfl.out; omega
                have p5 : (j : Int) < 8 := by omega
                rw [hfj] at hc
                subst hao2
                clear hRw hget hst hV hlk hp hcl hV2 hV3 hml hlen8 hg hset hHd hfj HH HBl Hsz hH
                go_upto_region 21 with fail
                refine wp_region_still_tail 23 (by kernel_rfl) (by kernel_rfl) ?_
                simp only [List.take_succ_cons, List.take_zero, List.drop_succ_cons, List.drop_zero]
                repeat still_step
                refine wpStill_nil ?_
                as_aux_lemma =>
                clear kv f1 f2 f3 p3 p4 hc
                go_wp2_with fail
                clear hcd hfd
                first
                | (go_roundw
                   case rel => exact ⟨j + 1, by omega, by go_num, by rw [Hst.out]; exact HS.out, HB7.out, Hs7.out⟩
                   case measure => (first | omega | (simp [intOf] <;> omega) | (simp only [intOf] <;> omega)))
                | exact ⟨⟨j + 1, by omega, by go_num, by rw [Hst.out]; exact HS.out, HB7.out, Hs7.out⟩, by (first | omega | (simp [intOf] <;> omega) | (simp only [intOf] <;> omega))⟩
                | (refine ⟨?_, by (first | omega | (simp [intOf] <;> omega) | (simp only [intOf] <;> omega))⟩
                   (repeat apply Exists.intro)
                   refine (fun a b => And.intro b a) ?_ ?_
                   · first | rfl | ((repeat refine ⟨rfl, ?_⟩); rfl)
                   exact ⟨j + 1, by omega, by go_num, by rw [Hst.out]; exact HS.out, HB7.out, Hs7.out⟩)
              · obtain rfl : j = 8 := by omega
                have HHn : Hid (HB wr H 74 ([Value.int .i64 (k : Nat)] ++ (mixL (s8l (stOf 64 l)) (s8l zS8) (t + 1)).map u64v ++ [Value.int .u64 (N : Nat), Value.slice none 0 0])) := Lib.hid (by
                  have h := HH.out
                  rw [List.take_of_length_le (by rw [Hpl.out]; exact Nat.le_refl _), Hend.out] at h
                  exact h)
                have i5 : ¬ ((8 : Nat) : Int) < 8 := by omega
                clear HH
                go_wp2_with fail
                first
                | (go_roundw
                   case rel => exact ⟨t + 1, by omega, by go_num, HHn.out, HBl.out, Hsz.out⟩
                   case measure => (first | omega | (simp [intOf] <;> omega) | (simp only [intOf] <;> omega)))
                | exact ⟨⟨t + 1, by omega, by go_num, HHn.out, HBl.out, Hsz.out⟩, by (first | omega | (simp [intOf] <;> omega) | (simp only [intOf] <;> omega))⟩
                | (refine ⟨?_, by (first | omega | (simp [intOf] <;> omega) | (simp only [intOf] <;> omega))⟩
                   (repeat apply Exists.intro)
                   refine (fun a b => And.intro b a) ?_ ?_
                   · first | rfl | ((repeat refine ⟨rfl, ?_⟩); rfl)
                   exact ⟨t + 1, by omega, by go_num, HHn.out, HBl.out, Hsz.out⟩)
          · obtain rfl : t = 8 := by omega
            have hH := HH.out
            rw [show mixL (s8l (stOf 64 l)) (s8l zS8) 8 = s8l (stOf 64 l) from by unfold mixL; rfl] at hH
            have HH8 : Hid (HB wr H 74 (rhC k (stOf 64 l) N (.slice none 0 0))) := Lib.hid hH
            have Hr8 := Lib.hid (Rd.belowM Hr5.out HBl.out HltH.out)
            clear hH HH hlt ht
            have hlen2 := Hlen2.out
            have hcap := Hcap.out
            obtain ⟨bo, hsl, -, hbn, hslr⟩ := slice_lo ao len cap 73 (by omega) hcap .i64
            push_cast at hsl
            have w1 : IntKind.i64.wrap 64 = 64 := by decide
            have w2 : IntKind.i64.wrap 73 = 73 := by decide
            have hd0 : Drn wr wr.drew := ⟨1, rfl⟩
            have Hr9 := Lib.hid (hd0.rd (hslr wr l Hr8.out Hl.out))
            have Hrl : Hid ((l.drop 73).length = len - 73) := Lib.hid (by rw [List.length_drop, Hl.out])
            have Hbn : Hid (bo = none → cap - 73 = 0) := Lib.hid (fun e => by have := Hnil.out (hbn e); omega)
            have HHd := Lib.hid (HH8.out.drn hd0)
            have HBd := Lib.hid (HBl.out.trans (hd0.below _))
            have Hsd : Hid (H + 1 ≤ wr.drew.heap.size) := Lib.hid (by have := Hsz.out; show H + 1 ≤ wr.heap.size; omega)
            have hc10 : wr.drew.cell? ⟨H, 10, none⟩ = some (.slice none 0 0) := HHd.out.cell (rhC_v k (stOf 64 l) N (.slice none 0 0))
            clear hslr hbn Hr8 hlen2 hcap HH8 HBl Hsz
            go_upto_region 22 with fail
            have hc10' : wr.cell? ⟨H, 10, none⟩ = some (.slice none 0 0) := hc10
            refine wp_region_held_drew (S := fun w' => True) (by kernel_rfl) trivial (fun hHeld => ?_)
            refine wpAnyH_take (i := 0) (v := ?_) (by simp only [List.getElem?_toArray, List.getElem?_cons_succ, List.getElem?_cons_zero]; rfl) (by kernel_rfl) (by kernel_rfl) (by kernel_rfl) (by intro _ _ _ h_; exact h_) (Or.inl ⟨by rfl, ?_⟩) (by assumption) ?_
            rotate_left 1
            focus (intro w_ hSw_; go_simp; try with_reducible rfl)
            simp only [Act.put, List.setIfInBounds_toArray, List.set_cons_zero, List.set_cons_succ]
            refine wpAnyH_take (i := 1) (v := ?_) (by simp only [List.getElem?_toArray, List.getElem?_cons_succ, List.getElem?_cons_zero]; rfl) (by kernel_rfl) (by kernel_rfl) (by kernel_rfl) (by intro _ _ _ h_; exact h_) (Or.inl ⟨by rfl, ?_⟩) (by assumption) ?_
            rotate_left 1
            focus (intro w_ hSw_; go_simp; try with_reducible rfl)
            simp only [Act.put, List.setIfInBounds_toArray, List.set_cons_zero, List.set_cons_succ]
            refine wpAnyH_take (i := 2) (v := ?_) (by simp only [List.getElem?_toArray, List.getElem?_cons_succ, List.getElem?_cons_zero]; rfl) (by kernel_rfl) (by kernel_rfl) (by kernel_rfl) (by intro _ _ _ h_; exact h_) (Or.inl ⟨by rfl, ?_⟩) (by assumption) ?_
            rotate_left 1
            focus (intro w_ hSw_; go_simp; try with_reducible rfl)
            simp only [Act.put, List.setIfInBounds_toArray, List.set_cons_zero, List.set_cons_succ]
            refine wpAnyH_take (i := 3) (v := ?_) (by simp only [List.getElem?_toArray, List.getElem?_cons_succ, List.getElem?_cons_zero]; rfl) (by kernel_rfl) (by kernel_rfl) (by kernel_rfl) (by intro _ _ _ h_; exact h_) (Or.inl ⟨by rfl, ?_⟩) (by assumption) ?_
            rotate_left 1
            focus (intro w_ hSw_; go_simp; try with_reducible rfl)
            simp only [Act.put, List.setIfInBounds_toArray, List.set_cons_zero, List.set_cons_succ]
            refine wpAnyH_take (i := 5) (v := ?_) (by simp only [List.getElem?_toArray, List.getElem?_cons_succ, List.getElem?_cons_zero]; rfl) (by kernel_rfl) (by kernel_rfl) (by kernel_rfl) (by intro _ _ _ h_; exact h_) (Or.inl ⟨by rfl, ?_⟩) (by assumption) ?_
            rotate_left 1
            focus (intro w_ hSw_; go_simp; try with_reducible rfl)
            simp only [Act.put, List.setIfInBounds_toArray, List.set_cons_zero, List.set_cons_succ]
            refine wpAnyH_take (i := 6) (v := ?_) (by simp only [List.getElem?_toArray, List.getElem?_cons_succ, List.getElem?_cons_zero]; rfl) (by kernel_rfl) (by kernel_rfl) (by kernel_rfl) (by intro _ _ _ h_; exact h_) (Or.inl ⟨by rfl, ?_⟩) (by assumption) ?_
            rotate_left 1
            focus (intro w_ hSw_; go_simp; try with_reducible rfl)
            simp only [Act.put, List.setIfInBounds_toArray, List.set_cons_zero, List.set_cons_succ]
            refine wpAnyH_take (i := 7) (v := ?_) (by simp only [List.getElem?_toArray, List.getElem?_cons_succ, List.getElem?_cons_zero]; rfl) (by kernel_rfl) (by kernel_rfl) (by kernel_rfl) (by intro _ _ _ h_; exact h_) (Or.inl ⟨by rfl, ?_⟩) (by assumption) ?_
            rotate_left 1
            focus (intro w_ hSw_; go_simp; try with_reducible rfl)
            simp only [Act.put, List.setIfInBounds_toArray, List.set_cons_zero, List.set_cons_succ]
            refine wpAnyH_take (i := 8) (v := ?_) (by simp only [List.getElem?_toArray, List.getElem?_cons_succ, List.getElem?_cons_zero]; rfl) (by kernel_rfl) (by kernel_rfl) (by kernel_rfl) (by intro _ _ _ h_; exact h_) (Or.inl ⟨by rfl, ?_⟩) (by assumption) ?_
            rotate_left 1
            focus (intro w_ hSw_; go_simp; try with_reducible rfl)
            simp only [Act.put, List.setIfInBounds_toArray, List.set_cons_zero, List.set_cons_succ]
            refine wpAnyH_take (i := 9) (v := ?_) (by simp only [List.getElem?_toArray, List.getElem?_cons_succ, List.getElem?_cons_zero]; rfl) (by kernel_rfl) (by kernel_rfl) (by kernel_rfl) (by intro _ _ _ h_; exact h_) (Or.inl ⟨by rfl, ?_⟩) (by assumption) ?_
            rotate_left 1
            focus (intro w_ hSw_; go_simp; try with_reducible rfl)
            simp only [Act.put, List.setIfInBounds_toArray, List.set_cons_zero, List.set_cons_succ]
            refine wpAnyH_ready (rs := [4]) (by kernel_rfl) (by simp) ?_
            refine AllReadyH.cons (by simp only [List.getElem?_toArray, List.getElem?_cons_succ, List.getElem?_cons_zero]; rfl) (fun K hK => ?_) AllReadyH.nil
            go_simp
            refine hK.out _ _ trivial (fun hHeld2 => ?_)
            clear hHeld hHeld2
            clear hK K
            try simp only [Act.put, List.setIfInBounds_toArray, List.set_cons_zero, List.set_cons_succ]
            have hHeld : True := trivial
            refine wpAnyH_ready (rs := [10]) (by kernel_rfl) (by simp) ?_
            refine AllReadyH.cons (by simp only [List.getElem?_toArray, List.getElem?_cons_succ, List.getElem?_cons_zero]; rfl) (fun K hK => ?_) AllReadyH.nil
            refine step_of_wp rfl (wp_append_gr byteRow02 _ _ rfl (H + 1) (.slice none 0 0) [] rfl (Own.nil _ _ _) bo (len - 73) (cap - 73) (l.drop 73) rfl Hrl.out Hr9.out Hbn.out (by have := Hlen0.out; simp; omega) Hsd.out (fun v9 w9 ho9 hg9 => ?_))
            refine hK.out _ _ trivial (fun hHeld2 => ?_)
            clear hHeld2
            clear hK K
            try simp only [Act.put, List.setIfInBounds_toArray, List.set_cons_zero, List.set_cons_succ]
            rw [List.nil_append] at ho9
            obtain ⟨a9, c9, rfl, -, -, -, -, -⟩ := ho9.rd3
            have HH9 := Lib.hid (HHd.out.grown hg9.g (fun e => by cases e))
            have HB9 := Lib.hid (HBd.out.grown hg9.g (by have := Hsd.out; omega) (fun x hx => by cases hx))
            have k10 := HH9.out.cell (rhC_v k (stOf 64 l) N (.slice none 0 0))
            have f10 := HH9.out.frozen 10
            generalize (l.drop 73).length = n9 at *
            have HH10 : Hid (HB (w9.setCell ⟨H, 10, none⟩ (.slice a9 n9 c9)) H 74 (rhC k (stOf 64 l) N (.slice a9 n9 c9))) := Lib.hid (HH9.out.set 10 (.slice a9 n9 c9))
            have hvb : (Value.slice a9 n9 c9).ownBlock ≠ some H := fun e => by have := (own_blk ho9 e).1; omega
            have Ho10 := Lib.hid (ho9.other (a := ⟨H, 10, none⟩) hvb (.slice a9 n9 c9))
            have HB10 := Lib.hid (HB9.out.grown (grown_set w9 ⟨H, 10, none⟩ (.slice a9 n9 c9)) (by have := HH9.out.lt; omega) (fun x hx => Nat.le_of_eq (Option.some.inj hx)))
            clear ho9 hg9 hvb HB9 HHd HBd Hsd hc10 hc10' hsl hd0
            refine wpAnyH_take (i := 11) (v := ?_) (by simp only [List.getElem?_toArray, List.getElem?_cons_succ, List.getElem?_cons_zero]; rfl) (by kernel_rfl) (by kernel_rfl) (by kernel_rfl) (by intro _ _ _ h_; exact h_) (Or.inl ⟨by rfl, ?_⟩) (by assumption) ?_
            rotate_left 1
            focus (intro w_ hSw_; go_simp; try with_reducible rfl)
            simp only [Act.put, List.setIfInBounds_toArray, List.set_cons_zero, List.set_cons_succ]
            refine wpAnyH_take (i := 12) (v := ?_) (by simp only [List.getElem?_toArray, List.getElem?_cons_succ, List.getElem?_cons_zero]; rfl) (by kernel_rfl) (by kernel_rfl) (by kernel_rfl) (by intro _ _ _ h_; exact h_) (Or.inl ⟨by rfl, ?_⟩) (by assumption) ?_
            rotate_left 1
            focus (intro w_ hSw_; go_simp; try with_reducible rfl)
            simp only [Act.put, List.setIfInBounds_toArray, List.set_cons_zero, List.set_cons_succ]
            refine wpAnyH_ready (rs := [13]) (by kernel_rfl) (by simp) ?_
            refine AllReadyH.cons (by simp only [List.getElem?_toArray, List.getElem?_cons_succ, List.getElem?_cons_zero]; rfl) (fun K hK => ?_) AllReadyH.nil
            go_simp
            refine hK.out _ _ trivial (fun hHeld2 => ?_)
            clear hK K hHeld hHeld2 k10 f10 HH9
            refine wpAnyH_done (by kernel_rfl) ?_ _
            go_wp2_with fail
            go_ret2
            exact ⟨H, _, rfl, by rw [Hw.out, show sizeW 64 = 128 from rfl, HN.out]; exact HH10.out, by rw [Hw.out]; exact Ho10.out, by have := HHx.out; omega, by rw [HHx.out]; exact HB5.out.trans HB10.out⟩
end Go.Proofs.YtngkelflfahjbaaDoor
