/- The document's hash: Sum. No condition. -/
import Derived.Test.YtngkelflfahjbaaDoorShaE
import Derived.Test.YtngkelflfahjbaaDoorShaF
import Derived.Deep.RegionHeld3
import Derived.Deep.RegionWith
import Derived.Deep.DrawnRows
set_option linter.unusedVariables false
set_option linter.unusedSimpArgs false
namespace Go.Proofs.YtngkelflfahjbaaDoor
open Go.RowKit
attribute [local go_sem ↓] Go.wp_at_zero Go.wp_at_succ ld_a st_a
theorem pad_end2 (sz tl rn Z j : Nat) (h : (sz = 64 ∧ tl = 8) ∨ (sz = 128 ∧ tl = 16)) (hZ : Z = (2 * sz - sz / 8 - (rn + 1) % sz) % sz) (hj : j ≤ Z) : (rn + 1 + j + tl) % sz = 0 ↔ j = Z := by
  rcases h with ⟨rfl, rfl⟩ | ⟨rfl, rfl⟩ <;> omega
/-- a hash, and bytes under way -/
structure SuC (B hb : Nat) (cs : List Value) (w0 : World) (v : Value) (l : List UInt8) (wr : World) : Prop where
  o : Own 5 wr B v l
  h : HB wr hb 74 cs
  b : Below B w0 wr
  s : B ≤ wr.heap.size
theorem SuC.step {B hb : Nat} {cs : List Value} {w0 wr w' : World} {v v' : Value} {l l' : List UInt8} (h : SuC B hb cs w0 v l wr) (hlt : hb < B) (ho : Own 5 w' B v' l') (hg : wr.grownBy w' v.ownBlock) : SuC B hb cs w0 v' l' w' :=
  ⟨ho, h.h.grown hg (fun e => by have := (own_blk h.o e.symm).1; omega), h.b.grown hg h.s (fun q hq => (own_blk h.o hq).1), Nat.le_trans h.s hg.size⟩
theorem SuC.alloc {B hb : Nat} {cs : List Value} {w0 wr : World} {v : Value} {l : List UInt8} (h : SuC B hb cs w0 v l wr) (o : Obj) : SuC B hb cs w0 v l (wr.alloc o) :=
  ⟨h.o.alloc o, h.h.alloc o, h.b.alloc h.s o, Nat.le_trans h.s (by simp)⟩
theorem SuC.later {B hb : Nat} {cs : List Value} {w0 wr w' : World} {v : Value} {l : List UInt8} (h : SuC B hb cs w0 v l wr) (hb' : Below wr.heap.size wr w') : SuC B hb cs w0 v l w' :=
  ⟨h.o.later hb', h.h.later hb', h.b.trans (hb'.mono h.s), Nat.le_trans h.s hb'.size⟩
theorem SuC.drn {B hb : Nat} {cs : List Value} {w0 wr w' : World} {v : Value} {l : List UInt8} (h : SuC B hb cs w0 v l wr) (hd : Drn wr w') : SuC B hb cs w0 v l w' := h.later (hd.below _)
structure Su1In (B hb : Nat) (cs : List Value) (w0 : World) (rest : List UInt8) (Z : Nat) (v : Value) (wr : World) : Prop where
  x : ∃ (j N g C : Nat), j ≤ Z ∧ N = rest.length + 1 + j ∧ v = .slice (some ⟨g, 0, none⟩) N C ∧ SuC B hb cs w0 v (rest ++ [128] ++ List.replicate j 0) wr
structure Su2In (B hb tl : Nat) (cs : List Value) (w0 : World) (P : List UInt8) (v i : Value) (wr : World) : Prop where
  x : ∃ (j : Nat) (u : Value), j ≤ tl - 8 ∧ i = .int .i64 ((8 + j : Nat) : Int) ∧ u = v ∧ SuC B hb cs w0 u (P ++ List.replicate j 0) wr
structure Su3In (B hb NN : Nat) (cs : List Value) (w0 : World) (P : List UInt8) (v i : Value) (wr : World) : Prop where
  x : ∃ (j : Nat) (u : Value), j ≤ 8 ∧ i = .int .i64 ((8 : Int) - 1 - (j : Int)) ∧ u = v ∧ SuC B hb cs w0 u (P ++ topL 8 NN j) wr
set_option maxRecDepth 100000 in
set_option maxHeartbeats 2000000 in
theorem rsum_any (hb k : Nat) (st : S8) (N0 : Nat) (ra : Option Addr) (rn rc : Nat) (rest : List UInt8) (w : World) (hk : 1 ≤ k ∧ k ≤ 3) (hH : HB w hb 74 (rhC k st N0 (.slice ra rn rc))) (hs : st.Lt (2 ^ wK k)) (hN : N0 + rn < 18446744073709551616)
    (hl : rest.length = rn) (hrn : rn ≤ 140737488352000) (hra : ra = none → rc = 0) (hr : Rd w ra rest) :
    Calls Tryd.prog 27 #[.pointer (some ⟨hb, 0, none⟩)] w fun e w' => ∃ g C, e = .returned (.slice (some ⟨g, 0, none⟩) (digK k) C) ∧ Own 5 w' w.heap.size (.slice (some ⟨g, 0, none⟩) (digK k) C) (digS k st (N0 + rn) rest) ∧ Below w.heap.size w w' := by
  have Hkd := Lib.hid (fun w => kind_any k w hk)
  have Hk := Lib.hid hk
  have HH := Lib.hid hH
  have Hs := Lib.hid hs
  have HNr := Lib.hid hN
  have Hl := Lib.hid hl
  have Hrn := Lib.hid hrn
  have Hra := Lib.hid hra
  have Hr := Lib.hid hr
  obtain ⟨B, hB⟩ : ∃ B, w.heap.size = B := ⟨_, rfl⟩
  have Hhb : Hid (hb < B) := Lib.hid (by rw [← hB]; exact hH.lt)
  have HS0 : Hid (SuC B hb (rhC k st N0 (.slice ra rn rc)) w (.slice none 0 0) [] w) := Lib.hid ⟨Own.nil _ _ _, hH, Below.refl _ _, by rw [hB]; exact Nat.le_refl _⟩
  have k0 := hH.cell (rhC_k k st N0 (.slice ra rn rc))
  have k10 := hH.cell (rhC_v k st N0 (.slice ra rn rc))
  rw [hB]
  clear hk hH hs hN hl hrn hra hr hB
  go_enter Tryd.func27, Tryd.ntmps27
  go_wp2_with fail
  refine (Hkd.out _).mono ?_
  rintro e w1 ⟨rfl, rfl⟩
  go_wp2_with (at_builtin; refine wpList_append_gr byteRow02 rfl _ _ rfl B (.slice none 0 0) [] rfl HS0.out.o ra rn rc rest rfl Hl.out Hr.out Hra.out (by have := Hrn.out; simp; omega) HS0.out.s ?_)
  intro v5 w5 ho5 hg5
  have HS5 := Lib.hid (HS0.out.step Hhb.out ho5 hg5.g)
  clear ho5 hg5 k10 k0 HS0
  have HS6a := Lib.hid (HS5.out.alloc (.cells #[.int .u8 128] 5))
  have hNl := Hrn.out
  have hNl2 := Hl.out
  obtain ⟨N6, hN6⟩ : ∃ N6, rest.length + 1 = N6 := ⟨_, rfl⟩
  have HN6 := Lib.hid hN6
  go_wp2_with (at_builtin; refine wpList_append_at byteRow02 rfl _ _ rfl B v5 rest rfl HS6a.out.o ⟨w5.heap.size, 0, none⟩ 1 1 [128] rfl rfl (Rd.new w5 [128] _ _) (by omega) HS6a.out.s N6 hN6 (by omega) ?_)
  intro g6 C6 w6 ho6 hg6 hk6
  have HS6 := Lib.hid (HS6a.out.step Hhb.out ho6 hg6)
  clear ho6 hg6 hk6 HS5 HS6a hNl hNl2 hN6
  rcases size_kind Hk.out with ⟨h1, hw, hz⟩ | ⟨h1, hw, hz⟩
  · rw [hz]
    have Hw := Lib.hid hw
    clear hw hz Hkd HH Hr
    have Hk1 := Lib.hid h1
    clear h1
    obtain ⟨Z, hZ⟩ : ∃ Z, zerosW 32 rest.length = Z := ⟨_, rfl⟩
    have HZ := Lib.hid hZ
    have Hpe := Lib.hid (fun j (hj : j ≤ Z) => pad_end2 64 8 rest.length Z j (by decide) (by rw [← hZ]; rfl) hj)
    have HZl : Hid (Z < 64) := Lib.hid (by rw [← hZ]; exact Nat.mod_lt _ (by decide))
    have k0 := HS6.out.h.cell (rhC_k k st N0 (.slice ra rn rc))
    have t0 : ¬ (1 : Int) < (k : Int) := by have := Hk1.out; omega
    clear hZ
    go_upto_region 8 with fail
    as_aux_lemma =>
    clear k0 t0
    go_loopw [7] (fun v wr => Su1In B hb (rhC k st N0 (.slice ra rn rc)) w rest Z v wr) (fun v _ => (rest.length + 1 + Z) - lenV v)
    case atStart => exact ⟨0, N6, g6, C6, Nat.zero_le _, HN6.out.symm, rfl, by simpa using HS6.out⟩
    case round =>
      as_aux_lemma =>
      clear HS6 HN6
      obtain ⟨j, N, g, C, hj, hN, rfl, hS⟩ := hrel
      have HS := Lib.hid hS
      have HN := Lib.hid hN
      have hpe := Hpe.out j hj
      rw [← hN] at hpe
      obtain ⟨R, hR⟩ : ∃ R, (N + 8) % 64 = R := ⟨_, rfl⟩
      rw [hR] at hpe
      obtain ⟨N2, hN2⟩ : ∃ N2, N + 8 = N2 := ⟨_, rfl⟩
      rw [hN2] at hR
      have hNb : N ≤ 140737488354000 := by have := Hrn.out; have := Hl.out; have := HZl.out; omega
      have r0 : IntKind.i64.wrap ((N : Int) + 8) = (N2 : Int) := by rw [IntWalk.i64_in _ (by omega)]; omega
      have r2 : (N2 : Int) % 64 = (R : Int) := by rw [← hR]; rfl
      have r1 : (N2 : Int).tmod 64 = (R : Int) := by rw [Int.tmod_eq_emod_of_nonneg (by omega)]; exact r2
      clear hR hS hN2
      by_cases hlt : j = Z
      · have hR := hpe.2 hlt
        rw [hR] at r1 r2
        subst hlt
        clear hpe hR hN
        have hlen : (rest ++ [128] ++ List.replicate j (0 : UInt8)).length ≤ 140737488353000 := by
          have := Hrn.out; have := Hl.out; have := HZl.out; simp; omega
        have Hlen := Lib.hid hlen
        have HPQ : Hid (padL 32 rest (N0 + rn) = (rest ++ [128] ++ List.replicate j 0) ++ List.replicate (8 - 8) 0 ++ encL 8 true ((N0 + rn) * 8 % 18446744073709551616)) := Lib.hid (by
          unfold padL
          rw [HZ.out]
          rfl)
        generalize rest ++ [128] ++ List.replicate j (0 : UInt8) = P at *
        clear hlen HZ Hpe HZl hj hNb HN
        go_upto_region 11 with fail
        as_aux_lemma =>
        clear r0 r1 r2
        generalize Value.slice (some ⟨g, 0, none⟩) N C = v6 at *
        go_loopw [7, 9] (fun v i wr => Su2In B hb 8 (rhC k st N0 (.slice ra rn rc)) w P v i wr) (fun _ i _ => 8 - (intOf i).toNat)
        case atStart => exact ⟨0, _, Nat.zero_le _, rfl, rfl, by simpa using HS.out⟩
        case round =>
          as_aux_lemma =>
          clear HS
          obtain ⟨j, u, hj, rfl, rfl, hS⟩ := hrel
          have HS := Lib.hid hS
          clear hS
          by_cases hjt : j < 8 - 8
          · have i1 : ((8 + j : Nat) : Int) < 8 := by omega
            exact absurd hjt (Nat.not_lt_zero j)
          · obtain rfl : j = 8 - 8 := by omega
            have i1 : ¬ ((8 + (8 - 8) : Nat) : Int) < 8 := by omega
            have Hlen2 : Hid ((P ++ List.replicate (8 - 8) (0 : UInt8)).length ≤ 140737488354000) := Lib.hid (by have := Hlen.out; simp; omega)
            generalize P ++ List.replicate (8 - 8) (0 : UInt8) = P2 at *
            have Hle := Lib.hid (rlen_any hb k st N0 ra rn rc wr HS.out.h HNr.out)
            go_wp2_with fail
            as_aux_lemma =>
            refine Hle.out.mono ?_
            rintro e w8 ⟨rfl, hd8⟩
            have HS8 := Lib.hid (HS.out.drn hd8)
            obtain ⟨NN, hNN⟩ : ∃ NN, (N0 + rn) * 8 % 18446744073709551616 = NN := ⟨_, rfl⟩
            have s1 : IntKind.u64.wrap (((N0 + rn : Nat) : Int) * 8) = (NN : Int) := by
              rw [show ((N0 + rn : Nat) : Int) * 8 = (((N0 + rn) * 8 : Nat) : Int) by push_cast; rfl, wrap64, hNN]
            generalize hM0 : N0 + rn = M0 at *
            have HNN := Lib.hid hNN
            have HM0 := Lib.hid hM0
            clear hd8 HS hNN hM0 i1 Hle
            go_upto_region 16 with fail
            as_aux_lemma =>
            go_loopw [7, 11] (fun v i wr => Su3In B hb NN (rhC k st N0 (.slice ra rn rc)) w P2 v i wr) (fun _ i _ => (intOf i + 1).toNat)
            case atStart => exact ⟨0, _, by omega, by simp, rfl, by simpa [topL] using HS8.out⟩
            case round =>
              as_aux_lemma =>
              clear HS8
              obtain ⟨j, u, hj, rfl, rfl, hS⟩ := hrel
              have HS := Lib.hid hS
              clear hS
              by_cases hj8 : j < 8
              · obtain ⟨m, hm⟩ : ∃ m : Nat, 8 - 1 - j = m := ⟨_, rfl⟩
                have hby := byteAt_big 8 NN j
                have Htn := Lib.hid (topL_snoc 8 NN j)
                generalize byteAt 8 true NN j = c at *
                have em : ((8 : Int) - 1 - (j : Int)) = (m : Int) := by omega
                rw [em]
                rw [hm] at hby
                obtain ⟨e8, he8⟩ : ∃ e8, 8 * m = e8 := ⟨_, rfl⟩
                rw [he8] at hby
                have hby2 : (NN : Int) / (2 ^ e8 : Int) % 256 = (c.toNat : Int) := hby
                have q0 : IntKind.u64.wrap (m : Int) = (m : Int) := IntWalk.u64_in _ (by omega)
                have q1 : IntKind.u64.wrap (8 * (m : Int)) = (e8 : Int) := by rw [IntWalk.u64_in _ (by omega)]; omega
                have q2 : IntKind.i64.wrap ((m : Int) - 1) = (8 : Int) - 1 - ((j : Int) + 1) := by rw [IntWalk.i64_in _ (by omega)]; omega
                have q3 : (0 : Int) ≤ (m : Int) := by omega
                have q4 : min e8 64 = e8 := Nat.min_eq_left (by omega)
                have q5 : IntKind.u8.wrap ((NN : Int) / (2 ^ e8 : Int)) = (c.toNat : Int) := by rw [← hby2]; simp [IntKind.wrap, IntKind.bits, IntKind.signed]
                have HS5 := Lib.hid (HS.out.alloc (.cells #[.int .u8 c.toNat] 5))
                have Hhm := Lib.hid hm
                clear hm hby em HS he8
                go_wp2_with (at_builtin; refine wpList_append_at byteRow02 rfl _ _ rfl B u (P2 ++ topL 8 NN j) rfl HS5.out.o ⟨wr.heap.size, 0, none⟩ 1 1 [c] rfl rfl (Rd.new wr [c] _ _) ?c1 HS5.out.s (P2.length + j + 1) ?c3 (by omega) ?_)
                case c1 => rw [List.length_append, topL_len]; have := Hlen2.out; omega
                case c3 => rw [List.length_append, topL_len]
                intro g7 C7 w7 ho7 hg7 hk7
                have ho8 : Own 5 w7 B (.slice (some ⟨g7, 0, none⟩) (P2.length + j + 1) C7) (P2 ++ topL 8 NN (j + 1)) := by rw [Htn.out]; exact ho7
                have HS7 := Lib.hid (HS5.out.step Hhb.out ho8 hg7)
                clear ho7 ho8 hg7 hk7 q0 q1 q4 q5 hby2
                go_wp2_with fail
                have hm := Hhm.out
                first
                | (go_roundw
                   case rel => exact ⟨j + 1, _, by omega, by push_cast; rfl, rfl, HS7.out⟩
                   case measure => (first | omega | (simp [intOf] <;> omega) | (simp only [intOf] <;> omega)))
                | exact ⟨⟨j + 1, _, by omega, by push_cast; rfl, rfl, HS7.out⟩, by (first | omega | (simp [intOf] <;> omega) | (simp only [intOf] <;> omega))⟩
                | (refine ⟨?_, by (first | omega | (simp [intOf] <;> omega) | (simp only [intOf] <;> omega))⟩
                   (repeat apply Exists.intro)
                   refine (fun a b => And.intro b a) ?_ ?_
                   · first | rfl | ((repeat refine ⟨rfl, ?_⟩); rfl)
                   exact ⟨j + 1, _, by omega, by push_cast; rfl, rfl, HS7.out⟩)
              · obtain rfl : j = 8 := by omega
                have q6 : (8 : Int) - 1 - ((8 : Nat) : Int) = -1 := by decide
                rw [q6]
                have hP : P2 ++ topL 8 NN 8 = padL (wK k) rest (N0 + rn) := by rw [Hw.out, HM0.out, HPQ.out, HNN.out]; rfl
                have HSf := HS.out
                rw [hP] at HSf
                have HSf := Lib.hid HSf
                have Hpl : Hid ((padL (wK k) rest (N0 + rn)).length ≤ 140737488355000) := Lib.hid (by rw [← hP, List.length_append, topL_len]; have := Hlen2.out; omega)
                clear hP HS s1 HNN HM0 HPQ q6 Hlen Hlen2
                obtain ⟨ua, uc, rfl, hu1, hu2, hur⟩ := HSf.out.o.rd
                have hult : ∀ a, ua = some a → a.block < wr.heap.size := fun a e => by subst e; exact (own_blk HSf.out.o rfl).2
                have Hgo := Lib.hid (fun w5 (h : Below wr.heap.size wr w5) => goes_any k st ua _ uc (padL (wK k) rest (N0 + rn)) w5 Hk.out Hs.out rfl hu1 (by simpa [maxLen] using hu2) (hur.below h) (fun a e => Nat.lt_of_lt_of_le (hult a e) h.size))
                have Hres : Hid (digS k st (N0 + rn) rest = (wordsL (wK k) (s8l (goB (wK k) st (padL (wK k) rest (N0 + rn))).1)).take (digK k)) := Lib.hid rfl
                have HSS := Lib.hid (fun w' (h : Below wr.heap.size wr w') => And.intro ((HSf.out.h.later h).cell (rhC_k k st N0 (.slice ra rn rc))) (run_ldA (s := st) (show w'.rangeAt hb 1 ((s8l st).map u64v) from (HSf.out.h.later h).range 1 8)))
                have hz8 : ∀ w, (zeroValue 63).run Tryd.prog w = .ok (.agg z8L.toArray) w := fun w => by kernel_rfl
                generalize (goB (wK k) st (padL (wK k) rest (N0 + rn))).1 = st2 at *
                generalize (padL (wK k) rest (N0 + rn)).length = pn at *
                clear hu1 hu2 hur hult
                go_upto_region 19 with fail
                as_aux_lemma =>
                have hd0 : Drn wr wr.drew := ⟨1, rfl⟩
                refine wp_region_held_drew (S := fun w' => w'.cell? ⟨hb, 0, none⟩ = some (.int .i64 k) ∧ (ldA (.pointer (some ⟨hb, 1, none⟩))).run Tryd.prog w' = .ok (.agg ((s8l st).map u64v).toArray) w') (by kernel_rfl) (HSS.out _ (hd0.below _)) (fun hHeld => ?_)
                refine wpAnyH_take (i := 0) (v := ?_) (by simp only [List.getElem?_toArray, List.getElem?_cons_succ, List.getElem?_cons_zero]; rfl) (by kernel_rfl) (by kernel_rfl) (by kernel_rfl) (by intro _ _ _ h_; exact h_) (Or.inl ⟨by rfl, ?_⟩) (by assumption) ?_
                rotate_left 1
                focus (intro w_ hSw_; go_simp; try with_reducible rfl)
                simp only [Act.put, List.setIfInBounds_toArray, List.set_cons_zero, List.set_cons_succ]
                refine wpAnyH_take (i := 1) (v := ?_) (by simp only [List.getElem?_toArray, List.getElem?_cons_succ, List.getElem?_cons_zero]; rfl) (by kernel_rfl) (by kernel_rfl) (by kernel_rfl) (by intro _ _ _ h_; exact h_) (Or.inl ⟨by rfl, ?_⟩) (by assumption) ?_
                rotate_left 1
                focus (intro w_ hSw_; go_simp; try with_reducible rfl)
                simp only [Act.put, List.setIfInBounds_toArray, List.set_cons_zero, List.set_cons_succ]
                refine wpAnyH_take (i := 2) (v := ?_) (by simp only [List.getElem?_toArray, List.getElem?_cons_succ, List.getElem?_cons_zero]; rfl) (by kernel_rfl) (by kernel_rfl) (by kernel_rfl) (by intro _ _ _ h_; exact h_) (Or.inl ⟨by rfl, ?_⟩) (by assumption) ?_
                rotate_left 1
                focus (intro w_ hSw_; go_simp; try with_reducible rfl)
                simp only [Act.put, List.setIfInBounds_toArray, List.set_cons_zero, List.set_cons_succ]
                refine wpAnyH_take (i := 3) (v := ?_) (by simp only [List.getElem?_toArray, List.getElem?_cons_succ, List.getElem?_cons_zero]; rfl) (by kernel_rfl) (by kernel_rfl) (by kernel_rfl) (by intro _ _ _ h_; exact h_) (Or.inl ⟨by rfl, ?_⟩) (by assumption) ?_
                rotate_left 1
                focus (intro w_ hSw_; go_simp; try with_reducible rfl)
                simp only [Act.put, List.setIfInBounds_toArray, List.set_cons_zero, List.set_cons_succ]
                refine wpAnyH_take (i := 4) (v := ?_) (by simp only [List.getElem?_toArray, List.getElem?_cons_succ, List.getElem?_cons_zero]; rfl) (by kernel_rfl) (by kernel_rfl) (by kernel_rfl) (by intro _ _ _ h_; exact h_) (Or.inl ⟨by rfl, ?_⟩) (by assumption) ?_
                rotate_left 1
                focus (intro w_ hSw_; go_simp; try with_reducible rfl)
                simp only [Act.put, List.setIfInBounds_toArray, List.set_cons_zero, List.set_cons_succ]
                refine wpAnyH_take (i := 5) (v := ?_) (by simp only [List.getElem?_toArray, List.getElem?_cons_succ, List.getElem?_cons_zero]; rfl) (by kernel_rfl) (by kernel_rfl) (by kernel_rfl) (by intro _ _ _ h_; exact h_) (Or.inl ⟨by rfl, ?_⟩) (by assumption) ?_
                rotate_left 1
                focus (intro w_ hSw_; go_simp; try with_reducible rfl)
                simp only [Act.put, List.setIfInBounds_toArray, List.set_cons_zero, List.set_cons_succ]
                refine wpAnyH_take (i := 6) (v := ?_) (by simp only [List.getElem?_toArray, List.getElem?_cons_succ, List.getElem?_cons_zero]; rfl) (by kernel_rfl) (by kernel_rfl) (by kernel_rfl) (by intro _ _ _ h_; exact h_) (Or.inl ⟨by rfl, ?_⟩) (by assumption) ?_
                rotate_left 1
                focus (intro w_ hSw_; go_simp; try with_reducible rfl)
                simp only [Act.put, List.setIfInBounds_toArray, List.set_cons_zero, List.set_cons_succ]
                refine wpAnyH_take (i := 7) (v := ?_) (by simp only [List.getElem?_toArray, List.getElem?_cons_succ, List.getElem?_cons_zero]; rfl) (by kernel_rfl) (by kernel_rfl) (by kernel_rfl) (by intro _ _ _ h_; exact h_) (Or.inl ⟨by rfl, ?_⟩) (by assumption) ?_
                rotate_left 1
                focus (intro w_ hSw_; go_simp; try with_reducible rfl)
                simp only [Act.put, List.setIfInBounds_toArray, List.set_cons_zero, List.set_cons_succ]
                refine wpAnyH_take (i := 8) (v := ?_) (by simp only [List.getElem?_toArray, List.getElem?_cons_succ, List.getElem?_cons_zero]; rfl) (by kernel_rfl) (by kernel_rfl) (by kernel_rfl) (by intro _ _ _ h_; exact h_) (Or.inl ⟨by rfl, ?_⟩) (by assumption) ?_
                rotate_left 1
                focus (intro w_ hSw_; go_simp; try with_reducible rfl)
                simp only [Act.put, List.setIfInBounds_toArray, List.set_cons_zero, List.set_cons_succ]
                refine wpAnyH_ready (rs := [9, 13]) (by kernel_rfl) (by simp) ?_
                refine AllReadyH.cons (by simp only [List.getElem?_toArray, List.getElem?_cons_succ, List.getElem?_cons_zero]; rfl) (fun K hK => ?_) (AllReadyH.cons (by simp only [List.getElem?_toArray, List.getElem?_cons_succ, List.getElem?_cons_zero]; rfl) (fun K hK => ?_) AllReadyH.nil)
                · go_simp
                  refine (Hgo.out _ (hd0.below _)).mono ?_
                  rintro e w5 ⟨bo, c, rfl, -, -, -, -, -, hb5⟩
                  have hB5 : Below wr.heap.size wr w5 := (hd0.below _).trans hb5
                  go_wp2_with fail
                  refine hK.out _ _ (HSS.out _ hB5) (fun hHeld => ?_)
                  clear hK K hHeld
                  try simp only [Act.put, List.setIfInBounds_toArray, List.set_cons_zero, List.set_cons_succ]
                  have hHeld := HSS.out _ hB5
                  refine wpAnyH_take (i := 10) (v := ?_) (by simp only [List.getElem?_toArray, List.getElem?_cons_succ, List.getElem?_cons_zero]; rfl) (by kernel_rfl) (by kernel_rfl) (by kernel_rfl) (by intro _ _ _ h_; exact h_) (Or.inl ⟨by rfl, ?_⟩) (by assumption) ?_
                  rotate_left 1
                  focus (intro w_ hSw_; go_simp; try with_reducible rfl)
                  simp only [Act.put, List.setIfInBounds_toArray, List.set_cons_zero, List.set_cons_succ]
                  refine wpAnyH_take (i := 11) (v := ?_) (by simp only [List.getElem?_toArray, List.getElem?_cons_succ, List.getElem?_cons_zero]; rfl) (by kernel_rfl) (by kernel_rfl) (by kernel_rfl) (by intro _ _ _ h_; exact h_) (Or.inl ⟨by rfl, ?_⟩) (by assumption) ?_
                  rotate_left 1
                  focus (intro w_ hSw_; go_simp; try with_reducible rfl)
                  simp only [Act.put, List.setIfInBounds_toArray, List.set_cons_zero, List.set_cons_succ]
                  refine wpAnyH_take (i := 12) (v := ?_) (by simp only [List.getElem?_toArray, List.getElem?_cons_succ, List.getElem?_cons_zero]; rfl) (by kernel_rfl) (by kernel_rfl) (by kernel_rfl) (by intro _ _ _ h_; exact h_) (Or.inl ⟨by rfl, ?_⟩) (by assumption) ?_
                  rotate_left 1
                  focus (intro w_ hSw_; go_simp; try with_reducible rfl)
                  simp only [Act.put, List.setIfInBounds_toArray, List.set_cons_zero, List.set_cons_succ]
                  have HDn := Lib.hid (HB.new w5 z8L 63)
                  have l2 := run_stA (s := st2) HDn.out rfl
                  refine wpAnyH_ready (rs := [13]) (by kernel_rfl) (by simp) ?_
                  refine AllReadyH.cons (by simp only [List.getElem?_toArray, List.getElem?_cons_succ, List.getElem?_cons_zero]; rfl) (fun K hK => ?_) AllReadyH.nil
                  go_simp
                  refine hK.out _ _ (HSS.out _ (hB5.alloc hB5.size _)) (fun hHeld => ?_)
                  clear hK K hHeld
                  try simp only [Act.put, List.setIfInBounds_toArray, List.set_cons_zero, List.set_cons_succ]
                  have HD9 : Hid (HB ((w5.alloc (.cells z8L.toArray 63)).setRow w5.heap.size ((s8l st2).map u64v).toArray) w5.heap.size 63 ((s8l st2).map u64v)) := Lib.hid (setRow_heap _ _ _ _ _ _ HDn.out)
                  have HB9 := Lib.hid ((hB5.alloc hB5.size (.cells z8L.toArray 63)).grown (grown_row (w5.alloc (.cells z8L.toArray 63)) w5.heap.size ((s8l st2).map u64v).toArray) (by have := hB5.size; simp; omega) (fun x hx => by have := Option.some.inj hx; have := hB5.size; omega))
                  refine wpAnyH_ready (rs := [14]) (by kernel_rfl) (by simp) ?_
                  refine AllReadyH.cons (by simp only [List.getElem?_toArray, List.getElem?_cons_succ, List.getElem?_cons_zero]; rfl) (fun K hK => ?_) AllReadyH.nil
                  go_simp
                  refine hK.out _ _ (HSS.out _ HB9.out) (fun hHeld => ?_)
                  clear hK K
                  refine wpAnyH_take (i := 15) (v := ?_) (by simp only [List.getElem?_toArray, List.getElem?_cons_succ, List.getElem?_cons_zero]; rfl) (by kernel_rfl) (by kernel_rfl) (by kernel_rfl) (by intro _ _ _ h_; exact h_) (Or.inl ⟨by rfl, ?_⟩) (by assumption) ?_
                  rotate_left 1
                  focus (intro w_ hSw_; go_simp; try with_reducible rfl)
                  simp only [Act.put, List.setIfInBounds_toArray, List.set_cons_zero, List.set_cons_succ]
                  refine wpAnyH_done (by kernel_rfl) ?_ _
                  clear l2 HDn hHeld hB5 hb5 hz8 Hgo
                  generalize (w5.alloc (.cells z8L.toArray 63)).setRow w5.heap.size ((s8l st2).map u64v).toArray = w9 at *
                  generalize w5.heap.size = D at *
                  have Hwd := Lib.hid (fun w' => rwords_any k st2 w' Hk.out)
                  have Hl9 := Lib.hid (fun w' (h : Below w9.heap.size w9 w') => And.intro (HSS.out w' (HB9.out.trans (h.mono HB9.out.size))).1 (run_ldA (s := st2) (HD9.out.later h).whole))
                  go_upto_region 20 with fail
                  as_aux_lemma =>
                  have hd9 : Drn w9 w9.drew := ⟨1, rfl⟩
                  refine wp_region_held_drew (S := fun w' => w'.cell? ⟨hb, 0, none⟩ = some (.int .i64 k) ∧ (ldA (.pointer (some ⟨D, 0, none⟩))).run Tryd.prog w' = .ok (.agg ((s8l st2).map u64v).toArray) w') (by kernel_rfl) (Hl9.out _ (hd9.below _)) (fun hHeld => ?_)
                  refine wpAnyH_take (i := 0) (v := ?_) (by simp only [List.getElem?_toArray, List.getElem?_cons_succ, List.getElem?_cons_zero]; rfl) (by kernel_rfl) (by kernel_rfl) (by kernel_rfl) (by intro _ _ _ h_; exact h_) (Or.inl ⟨by rfl, ?_⟩) (by assumption) ?_
                  rotate_left 1
                  focus (intro w_ hSw_; go_simp; try with_reducible rfl)
                  simp only [Act.put, List.setIfInBounds_toArray, List.set_cons_zero, List.set_cons_succ]
                  refine wpAnyH_take (i := 1) (v := ?_) (by simp only [List.getElem?_toArray, List.getElem?_cons_succ, List.getElem?_cons_zero]; rfl) (by kernel_rfl) (by kernel_rfl) (by kernel_rfl) (by intro _ _ _ h_; exact h_) (Or.inl ⟨by rfl, ?_⟩) (by assumption) ?_
                  rotate_left 1
                  focus (intro w_ hSw_; go_simp; try with_reducible rfl)
                  simp only [Act.put, List.setIfInBounds_toArray, List.set_cons_zero, List.set_cons_succ]
                  refine wpAnyH_take (i := 2) (v := ?_) (by simp only [List.getElem?_toArray, List.getElem?_cons_succ, List.getElem?_cons_zero]; rfl) (by kernel_rfl) (by kernel_rfl) (by kernel_rfl) (by intro _ _ _ h_; exact h_) (Or.inl ⟨by rfl, ?_⟩) (by assumption) ?_
                  rotate_left 1
                  focus (intro w_ hSw_; go_simp; try with_reducible rfl)
                  simp only [Act.put, List.setIfInBounds_toArray, List.set_cons_zero, List.set_cons_succ]
                  refine wpAnyH_take (i := 3) (v := ?_) (by simp only [List.getElem?_toArray, List.getElem?_cons_succ, List.getElem?_cons_zero]; rfl) (by kernel_rfl) (by kernel_rfl) (by kernel_rfl) (by intro _ _ _ h_; exact h_) (Or.inl ⟨by rfl, ?_⟩) (by assumption) ?_
                  rotate_left 1
                  focus (intro w_ hSw_; go_simp; try with_reducible rfl)
                  simp only [Act.put, List.setIfInBounds_toArray, List.set_cons_zero, List.set_cons_succ]
                  refine wpAnyH_take (i := 4) (v := ?_) (by simp only [List.getElem?_toArray, List.getElem?_cons_succ, List.getElem?_cons_zero]; rfl) (by kernel_rfl) (by kernel_rfl) (by kernel_rfl) (by intro _ _ _ h_; exact h_) (Or.inl ⟨by rfl, ?_⟩) (by assumption) ?_
                  rotate_left 1
                  focus (intro w_ hSw_; go_simp; try with_reducible rfl)
                  simp only [Act.put, List.setIfInBounds_toArray, List.set_cons_zero, List.set_cons_succ]
                  refine wpAnyH_take (i := 6) (v := ?_) (by simp only [List.getElem?_toArray, List.getElem?_cons_succ, List.getElem?_cons_zero]; rfl) (by kernel_rfl) (by kernel_rfl) (by kernel_rfl) (by intro _ _ _ h_; exact h_) (Or.inl ⟨by rfl, ?_⟩) (by assumption) ?_
                  rotate_left 1
                  focus (intro w_ hSw_; go_simp; try with_reducible rfl)
                  simp only [Act.put, List.setIfInBounds_toArray, List.set_cons_zero, List.set_cons_succ]
                  refine wpAnyH_ready (rs := [5]) (by kernel_rfl) (by simp) ?_
                  refine AllReadyH.cons (by simp only [List.getElem?_toArray, List.getElem?_cons_succ, List.getElem?_cons_zero]; rfl) (fun K hK => ?_) AllReadyH.nil
                  go_simp
                  refine (Hwd.out _).mono ?_
                  rintro e w12 ⟨vw, rfl, how, hbw⟩
                  have HOw := Lib.hid how
                  have Hbw : Hid (Below w9.heap.size w9 w12) := Lib.hid ((hd9.below _).trans hbw)
                  rcases how.cases with ⟨-, h⟩ | ⟨gw, cw, rfl, -, -, hcw, hcwm, -, -⟩
                  · have hl8 := wordsL_len (wK k) (s8l st2)
                    rw [h] at hl8
                    rw [Hw.out] at hl8
                    cases hl8
                  have Hwl : Hid (digK k ≤ (wordsL (wK k) (s8l st2)).length) := Lib.hid (by
                    rw [wordsL_len, s8l_len]
                    unfold digK wK
                    split
                    · decide
                    · split <;> decide)
                  have hsl := slice_bytes_block byteRow02 (some ⟨gw, 0, none⟩) (wordsL (wK k) (s8l st2)).length cw (digK k) (by have := Hwl.out; omega) .i64
                  clear how hbw Hwd hd9 hcw hcwm
                  go_wp2_with fail
                  refine hK.out _ _ (Hl9.out _ Hbw.out) (fun hHeld => ?_)
                  clear hK K
                  try simp only [Act.put, List.setIfInBounds_toArray, List.set_cons_zero, List.set_cons_succ]
                  refine wpAnyH_take (i := 7) (v := ?_) (by simp only [List.getElem?_toArray, List.getElem?_cons_succ, List.getElem?_cons_zero]; rfl) (by kernel_rfl) (by kernel_rfl) (by kernel_rfl) (by intro _ _ _ h_; exact h_) (Or.inl ⟨by rfl, ?_⟩) (by assumption) ?_
                  rotate_left 1
                  focus (intro w_ hSw_; go_simp; try with_reducible rfl)
                  simp only [Act.put, List.setIfInBounds_toArray, List.set_cons_zero, List.set_cons_succ]
                  refine wpAnyH_take (i := 8) (v := ?_) (by simp only [List.getElem?_toArray, List.getElem?_cons_succ, List.getElem?_cons_zero]; rfl) (by kernel_rfl) (by kernel_rfl) (by kernel_rfl) (by intro _ _ _ h_; exact h_) (Or.inl ⟨by rfl, ?_⟩) (by assumption) ?_
                  rotate_left 1
                  focus (intro w_ hSw_; go_simp; try with_reducible rfl)
                  simp only [Act.put, List.setIfInBounds_toArray, List.set_cons_zero, List.set_cons_succ]
                  refine wpAnyH_done (by kernel_rfl) ?_ _
                  go_wp2_with fail
                  go_ret
                  exact ⟨gw, cw, rfl, by rw [Hres.out]; exact (HOw.out.prefix Hwl.out).mono (Nat.le_trans HSf.out.s HB9.out.size), (HSf.out.b.trans (HB9.out.mono HSf.out.s)).trans (Hbw.out.mono (Nat.le_trans HSf.out.s HB9.out.size))⟩
                · have hHeld2 := HSS.out _ ((hd0.below wr.heap.size).alloc (Nat.le_refl _) (.cells z8L.toArray 63))
                  have HDn : Hid (HB (wr.drew.alloc (.cells z8L.toArray 63)) wr.heap.size 63 z8L) := Lib.hid (HB.new wr.drew z8L 63)
                  go_simp
                  refine hK.out _ _ hHeld2 (fun hHeld => ?_)
                  clear hK K hHeld
                  try simp only [Act.put, List.setIfInBounds_toArray, List.set_cons_zero, List.set_cons_succ]
                  have hHeld := hHeld2
                  refine wpAnyH_ready (rs := [9]) (by kernel_rfl) (by simp) ?_
                  refine AllReadyH.cons (by simp only [List.getElem?_toArray, List.getElem?_cons_succ, List.getElem?_cons_zero]; rfl) (fun K hK => ?_) AllReadyH.nil
                  go_simp
                  refine (Hgo.out _ ((hd0.below wr.heap.size).alloc (Nat.le_refl _) (.cells z8L.toArray 63))).mono ?_
                  rintro e w5 ⟨bo, c, rfl, -, -, -, -, -, hb5⟩
                  have hB5 : Below wr.heap.size wr w5 := ((hd0.below wr.heap.size).alloc (Nat.le_refl _) (.cells z8L.toArray 63)).trans (hb5.mono (by simp))
                  have HDc := Lib.hid (HDn.out.later hb5)
                  have l2 := run_stA (s := st2) HDc.out rfl
                  go_wp2_with fail
                  refine hK.out _ _ (HSS.out _ hB5) (fun hHeld => ?_)
                  clear hK K hHeld hHeld2
                  try simp only [Act.put, List.setIfInBounds_toArray, List.set_cons_zero, List.set_cons_succ]
                  have hHeld := HSS.out _ hB5
                  refine wpAnyH_take (i := 10) (v := ?_) (by simp only [List.getElem?_toArray, List.getElem?_cons_succ, List.getElem?_cons_zero]; rfl) (by kernel_rfl) (by kernel_rfl) (by kernel_rfl) (by intro _ _ _ h_; exact h_) (Or.inl ⟨by rfl, ?_⟩) (by assumption) ?_
                  rotate_left 1
                  focus (intro w_ hSw_; go_simp; try with_reducible rfl)
                  simp only [Act.put, List.setIfInBounds_toArray, List.set_cons_zero, List.set_cons_succ]
                  refine wpAnyH_take (i := 11) (v := ?_) (by simp only [List.getElem?_toArray, List.getElem?_cons_succ, List.getElem?_cons_zero]; rfl) (by kernel_rfl) (by kernel_rfl) (by kernel_rfl) (by intro _ _ _ h_; exact h_) (Or.inl ⟨by rfl, ?_⟩) (by assumption) ?_
                  rotate_left 1
                  focus (intro w_ hSw_; go_simp; try with_reducible rfl)
                  simp only [Act.put, List.setIfInBounds_toArray, List.set_cons_zero, List.set_cons_succ]
                  refine wpAnyH_take (i := 12) (v := ?_) (by simp only [List.getElem?_toArray, List.getElem?_cons_succ, List.getElem?_cons_zero]; rfl) (by kernel_rfl) (by kernel_rfl) (by kernel_rfl) (by intro _ _ _ h_; exact h_) (Or.inl ⟨by rfl, ?_⟩) (by assumption) ?_
                  rotate_left 1
                  focus (intro w_ hSw_; go_simp; try with_reducible rfl)
                  simp only [Act.put, List.setIfInBounds_toArray, List.set_cons_zero, List.set_cons_succ]
                  have HD9 : Hid (HB (w5.setRow wr.heap.size ((s8l st2).map u64v).toArray) wr.heap.size 63 ((s8l st2).map u64v)) := Lib.hid (setRow_heap _ _ _ _ _ _ HDc.out)
                  have HB9 := Lib.hid (hB5.grown (grown_row w5 wr.heap.size ((s8l st2).map u64v).toArray) hB5.size (fun x hx => Nat.le_of_eq (Option.some.inj hx)))
                  refine wpAnyH_ready (rs := [14]) (by kernel_rfl) (by simp) ?_
                  refine AllReadyH.cons (by simp only [List.getElem?_toArray, List.getElem?_cons_succ, List.getElem?_cons_zero]; rfl) (fun K hK => ?_) AllReadyH.nil
                  go_simp
                  refine hK.out _ _ (HSS.out _ HB9.out) (fun hHeld => ?_)
                  clear hK K
                  refine wpAnyH_take (i := 15) (v := ?_) (by simp only [List.getElem?_toArray, List.getElem?_cons_succ, List.getElem?_cons_zero]; rfl) (by kernel_rfl) (by kernel_rfl) (by kernel_rfl) (by intro _ _ _ h_; exact h_) (Or.inl ⟨by rfl, ?_⟩) (by assumption) ?_
                  rotate_left 1
                  focus (intro w_ hSw_; go_simp; try with_reducible rfl)
                  simp only [Act.put, List.setIfInBounds_toArray, List.set_cons_zero, List.set_cons_succ]
                  refine wpAnyH_done (by kernel_rfl) ?_ _
                  clear l2 HDn HDc hHeld hB5 hb5 hz8 Hgo
                  generalize w5.setRow wr.heap.size ((s8l st2).map u64v).toArray = w9 at *
                  obtain ⟨D, hD⟩ : ∃ D, wr.heap.size = D := ⟨_, rfl⟩
                  rw [hD] at HD9 ⊢
                  clear hD
                  have Hwd := Lib.hid (fun w' => rwords_any k st2 w' Hk.out)
                  have Hl9 := Lib.hid (fun w' (h : Below w9.heap.size w9 w') => And.intro (HSS.out w' (HB9.out.trans (h.mono HB9.out.size))).1 (run_ldA (s := st2) (HD9.out.later h).whole))
                  go_upto_region 20 with fail
                  as_aux_lemma =>
                  have hd9 : Drn w9 w9.drew := ⟨1, rfl⟩
                  refine wp_region_held_drew (S := fun w' => w'.cell? ⟨hb, 0, none⟩ = some (.int .i64 k) ∧ (ldA (.pointer (some ⟨D, 0, none⟩))).run Tryd.prog w' = .ok (.agg ((s8l st2).map u64v).toArray) w') (by kernel_rfl) (Hl9.out _ (hd9.below _)) (fun hHeld => ?_)
                  refine wpAnyH_take (i := 0) (v := ?_) (by simp only [List.getElem?_toArray, List.getElem?_cons_succ, List.getElem?_cons_zero]; rfl) (by kernel_rfl) (by kernel_rfl) (by kernel_rfl) (by intro _ _ _ h_; exact h_) (Or.inl ⟨by rfl, ?_⟩) (by assumption) ?_
                  rotate_left 1
                  focus (intro w_ hSw_; go_simp; try with_reducible rfl)
                  simp only [Act.put, List.setIfInBounds_toArray, List.set_cons_zero, List.set_cons_succ]
                  refine wpAnyH_take (i := 1) (v := ?_) (by simp only [List.getElem?_toArray, List.getElem?_cons_succ, List.getElem?_cons_zero]; rfl) (by kernel_rfl) (by kernel_rfl) (by kernel_rfl) (by intro _ _ _ h_; exact h_) (Or.inl ⟨by rfl, ?_⟩) (by assumption) ?_
                  rotate_left 1
                  focus (intro w_ hSw_; go_simp; try with_reducible rfl)
                  simp only [Act.put, List.setIfInBounds_toArray, List.set_cons_zero, List.set_cons_succ]
                  refine wpAnyH_take (i := 2) (v := ?_) (by simp only [List.getElem?_toArray, List.getElem?_cons_succ, List.getElem?_cons_zero]; rfl) (by kernel_rfl) (by kernel_rfl) (by kernel_rfl) (by intro _ _ _ h_; exact h_) (Or.inl ⟨by rfl, ?_⟩) (by assumption) ?_
                  rotate_left 1
                  focus (intro w_ hSw_; go_simp; try with_reducible rfl)
                  simp only [Act.put, List.setIfInBounds_toArray, List.set_cons_zero, List.set_cons_succ]
                  refine wpAnyH_take (i := 3) (v := ?_) (by simp only [List.getElem?_toArray, List.getElem?_cons_succ, List.getElem?_cons_zero]; rfl) (by kernel_rfl) (by kernel_rfl) (by kernel_rfl) (by intro _ _ _ h_; exact h_) (Or.inl ⟨by rfl, ?_⟩) (by assumption) ?_
                  rotate_left 1
                  focus (intro w_ hSw_; go_simp; try with_reducible rfl)
                  simp only [Act.put, List.setIfInBounds_toArray, List.set_cons_zero, List.set_cons_succ]
                  refine wpAnyH_take (i := 4) (v := ?_) (by simp only [List.getElem?_toArray, List.getElem?_cons_succ, List.getElem?_cons_zero]; rfl) (by kernel_rfl) (by kernel_rfl) (by kernel_rfl) (by intro _ _ _ h_; exact h_) (Or.inl ⟨by rfl, ?_⟩) (by assumption) ?_
                  rotate_left 1
                  focus (intro w_ hSw_; go_simp; try with_reducible rfl)
                  simp only [Act.put, List.setIfInBounds_toArray, List.set_cons_zero, List.set_cons_succ]
                  refine wpAnyH_take (i := 6) (v := ?_) (by simp only [List.getElem?_toArray, List.getElem?_cons_succ, List.getElem?_cons_zero]; rfl) (by kernel_rfl) (by kernel_rfl) (by kernel_rfl) (by intro _ _ _ h_; exact h_) (Or.inl ⟨by rfl, ?_⟩) (by assumption) ?_
                  rotate_left 1
                  focus (intro w_ hSw_; go_simp; try with_reducible rfl)
                  simp only [Act.put, List.setIfInBounds_toArray, List.set_cons_zero, List.set_cons_succ]
                  refine wpAnyH_ready (rs := [5]) (by kernel_rfl) (by simp) ?_
                  refine AllReadyH.cons (by simp only [List.getElem?_toArray, List.getElem?_cons_succ, List.getElem?_cons_zero]; rfl) (fun K hK => ?_) AllReadyH.nil
                  go_simp
                  refine (Hwd.out _).mono ?_
                  rintro e w12 ⟨vw, rfl, how, hbw⟩
                  have HOw := Lib.hid how
                  have Hbw : Hid (Below w9.heap.size w9 w12) := Lib.hid ((hd9.below _).trans hbw)
                  rcases how.cases with ⟨-, h⟩ | ⟨gw, cw, rfl, -, -, hcw, hcwm, -, -⟩
                  · have hl8 := wordsL_len (wK k) (s8l st2)
                    rw [h] at hl8
                    rw [Hw.out] at hl8
                    cases hl8
                  have Hwl : Hid (digK k ≤ (wordsL (wK k) (s8l st2)).length) := Lib.hid (by
                    rw [wordsL_len, s8l_len]
                    unfold digK wK
                    split
                    · decide
                    · split <;> decide)
                  have hsl := slice_bytes_block byteRow02 (some ⟨gw, 0, none⟩) (wordsL (wK k) (s8l st2)).length cw (digK k) (by have := Hwl.out; omega) .i64
                  clear how hbw Hwd hd9 hcw hcwm
                  go_wp2_with fail
                  refine hK.out _ _ (Hl9.out _ Hbw.out) (fun hHeld => ?_)
                  clear hK K
                  try simp only [Act.put, List.setIfInBounds_toArray, List.set_cons_zero, List.set_cons_succ]
                  refine wpAnyH_take (i := 7) (v := ?_) (by simp only [List.getElem?_toArray, List.getElem?_cons_succ, List.getElem?_cons_zero]; rfl) (by kernel_rfl) (by kernel_rfl) (by kernel_rfl) (by intro _ _ _ h_; exact h_) (Or.inl ⟨by rfl, ?_⟩) (by assumption) ?_
                  rotate_left 1
                  focus (intro w_ hSw_; go_simp; try with_reducible rfl)
                  simp only [Act.put, List.setIfInBounds_toArray, List.set_cons_zero, List.set_cons_succ]
                  refine wpAnyH_take (i := 8) (v := ?_) (by simp only [List.getElem?_toArray, List.getElem?_cons_succ, List.getElem?_cons_zero]; rfl) (by kernel_rfl) (by kernel_rfl) (by kernel_rfl) (by intro _ _ _ h_; exact h_) (Or.inl ⟨by rfl, ?_⟩) (by assumption) ?_
                  rotate_left 1
                  focus (intro w_ hSw_; go_simp; try with_reducible rfl)
                  simp only [Act.put, List.setIfInBounds_toArray, List.set_cons_zero, List.set_cons_succ]
                  refine wpAnyH_done (by kernel_rfl) ?_ _
                  go_wp2_with fail
                  go_ret
                  exact ⟨gw, cw, rfl, by rw [Hres.out]; exact (HOw.out.prefix Hwl.out).mono (Nat.le_trans HSf.out.s HB9.out.size), (HSf.out.b.trans (HB9.out.mono HSf.out.s)).trans (Hbw.out.mono (Nat.le_trans HSf.out.s HB9.out.size))⟩
      · have hRn : ¬ R = 0 := fun h => hlt (hpe.1 h)
        have t1 : ((R : Int) == 0) = false := beq_eq_false_iff_ne.2 (by omega)
        have t2 : ((R : Int) != 0) = true := bne_iff_ne.2 (by omega)
        have HS5 := Lib.hid (HS.out.alloc (.cells #[.int .u8 0] 5))
        have hlen : (rest ++ [128] ++ List.replicate j (0 : UInt8)).length = N := by simp; omega
        have Hlen := Lib.hid hlen
        have HNb := Lib.hid hNb
        clear hpe hRn hN hlen hNb
        go_wp2_with (at_builtin; refine wpList_append_at byteRow02 rfl _ _ rfl B _ (rest ++ [128] ++ List.replicate j 0) rfl HS5.out.o ⟨wr.heap.size, 0, none⟩ 1 1 [0] rfl rfl (Rd.new wr [0] _ _) ?c1 HS5.out.s (N + 1) ?c3 (by omega) ?_)
        case c1 => rw [Hlen.out]; have := HNb.out; omega
        case c3 => rw [Hlen.out]
        intro g7 C7 w7 ho7 hg7 hk7
        have e7 : rest ++ 128 :: (List.replicate j (0 : UInt8) ++ [0]) = rest ++ [128] ++ List.replicate (j + 1) 0 := by rw [List.replicate_succ']; simp
        rw [e7] at ho7
        have HS7 := Lib.hid (HS5.out.step Hhb.out ho7 hg7)
        clear e7
        clear ho7 hg7 hk7 t1 t2 r0 r1 r2
        go_wp2_with fail
        have hN := HN.out
        first
        | (go_roundw
           case rel => exact ⟨j + 1, N + 1, g7, C7, by omega, by omega, rfl, HS7.out⟩
           case measure => (first | omega | (simp [intOf] <;> omega) | (simp only [intOf] <;> omega)))
        | exact ⟨⟨j + 1, N + 1, g7, C7, by omega, by omega, rfl, HS7.out⟩, by (first | omega | (simp [intOf] <;> omega) | (simp only [intOf] <;> omega))⟩
        | (refine ⟨?_, by (first | omega | (simp [intOf] <;> omega) | (simp only [intOf] <;> omega))⟩
           (repeat apply Exists.intro)
           refine (fun a b => And.intro b a) ?_ ?_
           · first | rfl | ((repeat refine ⟨rfl, ?_⟩); rfl)
           exact ⟨j + 1, N + 1, g7, C7, by omega, by omega, rfl, HS7.out⟩)
  · rw [hz]
    have Hw := Lib.hid hw
    have Hk1 : Hid (1 < k) := Lib.hid (by have := Hk.out; omega)
    clear hw hz Hkd HH Hr h1
    obtain ⟨Z, hZ⟩ : ∃ Z, zerosW 64 rest.length = Z := ⟨_, rfl⟩
    have HZ := Lib.hid hZ
    have Hpe := Lib.hid (fun j (hj : j ≤ Z) => pad_end2 128 16 rest.length Z j (by decide) (by rw [← hZ]; rfl) hj)
    have HZl : Hid (Z < 128) := Lib.hid (by rw [← hZ]; exact Nat.mod_lt _ (by decide))
    have k0 := HS6.out.h.cell (rhC_k k st N0 (.slice ra rn rc))
    have t0 : (1 : Int) < (k : Int) := by have := Hk1.out; omega
    clear hZ
    go_upto_region 8 with fail
    as_aux_lemma =>
    clear k0 t0
    go_loopw [7] (fun v wr => Su1In B hb (rhC k st N0 (.slice ra rn rc)) w rest Z v wr) (fun v _ => (rest.length + 1 + Z) - lenV v)
    case atStart => exact ⟨0, N6, g6, C6, Nat.zero_le _, HN6.out.symm, rfl, by simpa using HS6.out⟩
    case round =>
      as_aux_lemma =>
      clear HS6 HN6
      obtain ⟨j, N, g, C, hj, hN, rfl, hS⟩ := hrel
      have HS := Lib.hid hS
      have HN := Lib.hid hN
      have hpe := Hpe.out j hj
      rw [← hN] at hpe
      obtain ⟨R, hR⟩ : ∃ R, (N + 16) % 128 = R := ⟨_, rfl⟩
      rw [hR] at hpe
      obtain ⟨N2, hN2⟩ : ∃ N2, N + 16 = N2 := ⟨_, rfl⟩
      rw [hN2] at hR
      have hNb : N ≤ 140737488354000 := by have := Hrn.out; have := Hl.out; have := HZl.out; omega
      have r0 : IntKind.i64.wrap ((N : Int) + 16) = (N2 : Int) := by rw [IntWalk.i64_in _ (by omega)]; omega
      have r2 : (N2 : Int) % 128 = (R : Int) := by rw [← hR]; rfl
      have r1 : (N2 : Int).tmod 128 = (R : Int) := by rw [Int.tmod_eq_emod_of_nonneg (by omega)]; exact r2
      clear hR hS hN2
      by_cases hlt : j = Z
      · have hR := hpe.2 hlt
        rw [hR] at r1 r2
        subst hlt
        clear hpe hR hN
        have hlen : (rest ++ [128] ++ List.replicate j (0 : UInt8)).length ≤ 140737488353000 := by
          have := Hrn.out; have := Hl.out; have := HZl.out; simp; omega
        have Hlen := Lib.hid hlen
        have HPQ : Hid (padL 64 rest (N0 + rn) = (rest ++ [128] ++ List.replicate j 0) ++ List.replicate (16 - 8) 0 ++ encL 8 true ((N0 + rn) * 8 % 18446744073709551616)) := Lib.hid (by
          unfold padL
          rw [HZ.out]
          rfl)
        generalize rest ++ [128] ++ List.replicate j (0 : UInt8) = P at *
        clear hlen HZ Hpe HZl hj hNb HN
        go_upto_region 11 with fail
        as_aux_lemma =>
        clear r0 r1 r2
        generalize Value.slice (some ⟨g, 0, none⟩) N C = v6 at *
        go_loopw [7, 9] (fun v i wr => Su2In B hb 16 (rhC k st N0 (.slice ra rn rc)) w P v i wr) (fun _ i _ => 16 - (intOf i).toNat)
        case atStart => exact ⟨0, _, Nat.zero_le _, rfl, rfl, by simpa using HS.out⟩
        case round =>
          as_aux_lemma =>
          clear HS
          obtain ⟨j, u, hj, rfl, rfl, hS⟩ := hrel
          have HS := Lib.hid hS
          clear hS
          by_cases hjt : j < 16 - 8
          · have i1 : ((8 + j : Nat) : Int) < 16 := by omega
            have HS5 := Lib.hid (HS.out.alloc (.cells #[.int .u8 0] 5))
            go_wp2_with (at_builtin; refine wpList_append_at byteRow02 rfl _ _ rfl B u (P ++ List.replicate j 0) rfl HS5.out.o ⟨wr.heap.size, 0, none⟩ 1 1 [0] rfl rfl (Rd.new wr [0] _ _) (by rw [List.length_append, List.length_replicate]; have := Hlen.out; omega) HS5.out.s (P.length + j + 1) (by simp) (by omega) ?_)
            intro g7 C7 w7 ho7 hg7 hk7
            have e7 : P ++ (List.replicate j (0 : UInt8) ++ [0]) = P ++ List.replicate (j + 1) 0 := by rw [List.replicate_succ']
            first | rw [e7] at ho7 | rw [List.append_assoc, e7] at ho7
            have HS7 := Lib.hid (HS5.out.step Hhb.out ho7 hg7)
            clear e7 ho7 hg7 hk7
            go_wp2_with fail
            first
            | (go_roundw
               case rel => exact ⟨j + 1, _, by omega, by go_num, rfl, HS7.out⟩
               case measure => (first | omega | (simp [intOf] <;> omega) | (simp only [intOf] <;> omega)))
            | exact ⟨⟨j + 1, _, by omega, by go_num, rfl, HS7.out⟩, by (first | omega | (simp [intOf] <;> omega) | (simp only [intOf] <;> omega))⟩
            | (refine ⟨?_, by (first | omega | (simp [intOf] <;> omega) | (simp only [intOf] <;> omega))⟩
               (repeat apply Exists.intro)
               refine (fun a b => And.intro b a) ?_ ?_
               · first | rfl | ((repeat refine ⟨rfl, ?_⟩); rfl)
               exact ⟨j + 1, _, by omega, by go_num, rfl, HS7.out⟩)
          · obtain rfl : j = 16 - 8 := by omega
            have i1 : ¬ ((8 + (16 - 8) : Nat) : Int) < 16 := by omega
            have Hlen2 : Hid ((P ++ List.replicate (16 - 8) (0 : UInt8)).length ≤ 140737488354000) := Lib.hid (by have := Hlen.out; simp; omega)
            generalize P ++ List.replicate (16 - 8) (0 : UInt8) = P2 at *
            have Hle := Lib.hid (rlen_any hb k st N0 ra rn rc wr HS.out.h HNr.out)
            go_wp2_with fail
            as_aux_lemma =>
            refine Hle.out.mono ?_
            rintro e w8 ⟨rfl, hd8⟩
            have HS8 := Lib.hid (HS.out.drn hd8)
            obtain ⟨NN, hNN⟩ : ∃ NN, (N0 + rn) * 8 % 18446744073709551616 = NN := ⟨_, rfl⟩
            have s1 : IntKind.u64.wrap (((N0 + rn : Nat) : Int) * 8) = (NN : Int) := by
              rw [show ((N0 + rn : Nat) : Int) * 8 = (((N0 + rn) * 8 : Nat) : Int) by push_cast; rfl, wrap64, hNN]
            generalize hM0 : N0 + rn = M0 at *
            have HNN := Lib.hid hNN
            have HM0 := Lib.hid hM0
            clear hd8 HS hNN hM0 i1 Hle
            go_upto_region 16 with fail
            as_aux_lemma =>
            go_loopw [7, 11] (fun v i wr => Su3In B hb NN (rhC k st N0 (.slice ra rn rc)) w P2 v i wr) (fun _ i _ => (intOf i + 1).toNat)
            case atStart => exact ⟨0, _, by omega, by simp, rfl, by simpa [topL] using HS8.out⟩
            case round =>
              as_aux_lemma =>
              clear HS8
              obtain ⟨j, u, hj, rfl, rfl, hS⟩ := hrel
              have HS := Lib.hid hS
              clear hS
              by_cases hj8 : j < 8
              · obtain ⟨m, hm⟩ : ∃ m : Nat, 8 - 1 - j = m := ⟨_, rfl⟩
                have hby := byteAt_big 8 NN j
                have Htn := Lib.hid (topL_snoc 8 NN j)
                generalize byteAt 8 true NN j = c at *
                have em : ((8 : Int) - 1 - (j : Int)) = (m : Int) := by omega
                rw [em]
                rw [hm] at hby
                obtain ⟨e8, he8⟩ : ∃ e8, 8 * m = e8 := ⟨_, rfl⟩
                rw [he8] at hby
                have hby2 : (NN : Int) / (2 ^ e8 : Int) % 256 = (c.toNat : Int) := hby
                have q0 : IntKind.u64.wrap (m : Int) = (m : Int) := IntWalk.u64_in _ (by omega)
                have q1 : IntKind.u64.wrap (8 * (m : Int)) = (e8 : Int) := by rw [IntWalk.u64_in _ (by omega)]; omega
                have q2 : IntKind.i64.wrap ((m : Int) - 1) = (8 : Int) - 1 - ((j : Int) + 1) := by rw [IntWalk.i64_in _ (by omega)]; omega
                have q3 : (0 : Int) ≤ (m : Int) := by omega
                have q4 : min e8 64 = e8 := Nat.min_eq_left (by omega)
                have q5 : IntKind.u8.wrap ((NN : Int) / (2 ^ e8 : Int)) = (c.toNat : Int) := by rw [← hby2]; simp [IntKind.wrap, IntKind.bits, IntKind.signed]
                have HS5 := Lib.hid (HS.out.alloc (.cells #[.int .u8 c.toNat] 5))
                have Hhm := Lib.hid hm
                clear hm hby em HS he8
                go_wp2_with (at_builtin; refine wpList_append_at byteRow02 rfl _ _ rfl B u (P2 ++ topL 8 NN j) rfl HS5.out.o ⟨wr.heap.size, 0, none⟩ 1 1 [c] rfl rfl (Rd.new wr [c] _ _) ?c1 HS5.out.s (P2.length + j + 1) ?c3 (by omega) ?_)
                case c1 => rw [List.length_append, topL_len]; have := Hlen2.out; omega
                case c3 => rw [List.length_append, topL_len]
                intro g7 C7 w7 ho7 hg7 hk7
                have ho8 : Own 5 w7 B (.slice (some ⟨g7, 0, none⟩) (P2.length + j + 1) C7) (P2 ++ topL 8 NN (j + 1)) := by rw [Htn.out]; exact ho7
                have HS7 := Lib.hid (HS5.out.step Hhb.out ho8 hg7)
                clear ho7 ho8 hg7 hk7 q0 q1 q4 q5 hby2
                go_wp2_with fail
                have hm := Hhm.out
                first
                | (go_roundw
                   case rel => exact ⟨j + 1, _, by omega, by push_cast; rfl, rfl, HS7.out⟩
                   case measure => (first | omega | (simp [intOf] <;> omega) | (simp only [intOf] <;> omega)))
                | exact ⟨⟨j + 1, _, by omega, by push_cast; rfl, rfl, HS7.out⟩, by (first | omega | (simp [intOf] <;> omega) | (simp only [intOf] <;> omega))⟩
                | (refine ⟨?_, by (first | omega | (simp [intOf] <;> omega) | (simp only [intOf] <;> omega))⟩
                   (repeat apply Exists.intro)
                   refine (fun a b => And.intro b a) ?_ ?_
                   · first | rfl | ((repeat refine ⟨rfl, ?_⟩); rfl)
                   exact ⟨j + 1, _, by omega, by push_cast; rfl, rfl, HS7.out⟩)
              · obtain rfl : j = 8 := by omega
                have q6 : (8 : Int) - 1 - ((8 : Nat) : Int) = -1 := by decide
                rw [q6]
                have hP : P2 ++ topL 8 NN 8 = padL (wK k) rest (N0 + rn) := by rw [Hw.out, HM0.out, HPQ.out, HNN.out]; rfl
                have HSf := HS.out
                rw [hP] at HSf
                have HSf := Lib.hid HSf
                have Hpl : Hid ((padL (wK k) rest (N0 + rn)).length ≤ 140737488355000) := Lib.hid (by rw [← hP, List.length_append, topL_len]; have := Hlen2.out; omega)
                clear hP HS s1 HNN HM0 HPQ q6 Hlen Hlen2
                obtain ⟨ua, uc, rfl, hu1, hu2, hur⟩ := HSf.out.o.rd
                have hult : ∀ a, ua = some a → a.block < wr.heap.size := fun a e => by subst e; exact (own_blk HSf.out.o rfl).2
                have Hgo := Lib.hid (fun w5 (h : Below wr.heap.size wr w5) => goes_any k st ua _ uc (padL (wK k) rest (N0 + rn)) w5 Hk.out Hs.out rfl hu1 (by simpa [maxLen] using hu2) (hur.below h) (fun a e => Nat.lt_of_lt_of_le (hult a e) h.size))
                have Hres : Hid (digS k st (N0 + rn) rest = (wordsL (wK k) (s8l (goB (wK k) st (padL (wK k) rest (N0 + rn))).1)).take (digK k)) := Lib.hid rfl
                have HSS := Lib.hid (fun w' (h : Below wr.heap.size wr w') => And.intro ((HSf.out.h.later h).cell (rhC_k k st N0 (.slice ra rn rc))) (run_ldA (s := st) (show w'.rangeAt hb 1 ((s8l st).map u64v) from (HSf.out.h.later h).range 1 8)))
                have hz8 : ∀ w, (zeroValue 63).run Tryd.prog w = .ok (.agg z8L.toArray) w := fun w => by kernel_rfl
                generalize (goB (wK k) st (padL (wK k) rest (N0 + rn))).1 = st2 at *
                generalize (padL (wK k) rest (N0 + rn)).length = pn at *
                clear hu1 hu2 hur hult
                go_upto_region 19 with fail
                as_aux_lemma =>
                have hd0 : Drn wr wr.drew := ⟨1, rfl⟩
                refine wp_region_held_drew (S := fun w' => w'.cell? ⟨hb, 0, none⟩ = some (.int .i64 k) ∧ (ldA (.pointer (some ⟨hb, 1, none⟩))).run Tryd.prog w' = .ok (.agg ((s8l st).map u64v).toArray) w') (by kernel_rfl) (HSS.out _ (hd0.below _)) (fun hHeld => ?_)
                refine wpAnyH_take (i := 0) (v := ?_) (by simp only [List.getElem?_toArray, List.getElem?_cons_succ, List.getElem?_cons_zero]; rfl) (by kernel_rfl) (by kernel_rfl) (by kernel_rfl) (by intro _ _ _ h_; exact h_) (Or.inl ⟨by rfl, ?_⟩) (by assumption) ?_
                rotate_left 1
                focus (intro w_ hSw_; go_simp; try with_reducible rfl)
                simp only [Act.put, List.setIfInBounds_toArray, List.set_cons_zero, List.set_cons_succ]
                refine wpAnyH_take (i := 1) (v := ?_) (by simp only [List.getElem?_toArray, List.getElem?_cons_succ, List.getElem?_cons_zero]; rfl) (by kernel_rfl) (by kernel_rfl) (by kernel_rfl) (by intro _ _ _ h_; exact h_) (Or.inl ⟨by rfl, ?_⟩) (by assumption) ?_
                rotate_left 1
                focus (intro w_ hSw_; go_simp; try with_reducible rfl)
                simp only [Act.put, List.setIfInBounds_toArray, List.set_cons_zero, List.set_cons_succ]
                refine wpAnyH_take (i := 2) (v := ?_) (by simp only [List.getElem?_toArray, List.getElem?_cons_succ, List.getElem?_cons_zero]; rfl) (by kernel_rfl) (by kernel_rfl) (by kernel_rfl) (by intro _ _ _ h_; exact h_) (Or.inl ⟨by rfl, ?_⟩) (by assumption) ?_
                rotate_left 1
                focus (intro w_ hSw_; go_simp; try with_reducible rfl)
                simp only [Act.put, List.setIfInBounds_toArray, List.set_cons_zero, List.set_cons_succ]
                refine wpAnyH_take (i := 3) (v := ?_) (by simp only [List.getElem?_toArray, List.getElem?_cons_succ, List.getElem?_cons_zero]; rfl) (by kernel_rfl) (by kernel_rfl) (by kernel_rfl) (by intro _ _ _ h_; exact h_) (Or.inl ⟨by rfl, ?_⟩) (by assumption) ?_
                rotate_left 1
                focus (intro w_ hSw_; go_simp; try with_reducible rfl)
                simp only [Act.put, List.setIfInBounds_toArray, List.set_cons_zero, List.set_cons_succ]
                refine wpAnyH_take (i := 4) (v := ?_) (by simp only [List.getElem?_toArray, List.getElem?_cons_succ, List.getElem?_cons_zero]; rfl) (by kernel_rfl) (by kernel_rfl) (by kernel_rfl) (by intro _ _ _ h_; exact h_) (Or.inl ⟨by rfl, ?_⟩) (by assumption) ?_
                rotate_left 1
                focus (intro w_ hSw_; go_simp; try with_reducible rfl)
                simp only [Act.put, List.setIfInBounds_toArray, List.set_cons_zero, List.set_cons_succ]
                refine wpAnyH_take (i := 5) (v := ?_) (by simp only [List.getElem?_toArray, List.getElem?_cons_succ, List.getElem?_cons_zero]; rfl) (by kernel_rfl) (by kernel_rfl) (by kernel_rfl) (by intro _ _ _ h_; exact h_) (Or.inl ⟨by rfl, ?_⟩) (by assumption) ?_
                rotate_left 1
                focus (intro w_ hSw_; go_simp; try with_reducible rfl)
                simp only [Act.put, List.setIfInBounds_toArray, List.set_cons_zero, List.set_cons_succ]
                refine wpAnyH_take (i := 6) (v := ?_) (by simp only [List.getElem?_toArray, List.getElem?_cons_succ, List.getElem?_cons_zero]; rfl) (by kernel_rfl) (by kernel_rfl) (by kernel_rfl) (by intro _ _ _ h_; exact h_) (Or.inl ⟨by rfl, ?_⟩) (by assumption) ?_
                rotate_left 1
                focus (intro w_ hSw_; go_simp; try with_reducible rfl)
                simp only [Act.put, List.setIfInBounds_toArray, List.set_cons_zero, List.set_cons_succ]
                refine wpAnyH_take (i := 7) (v := ?_) (by simp only [List.getElem?_toArray, List.getElem?_cons_succ, List.getElem?_cons_zero]; rfl) (by kernel_rfl) (by kernel_rfl) (by kernel_rfl) (by intro _ _ _ h_; exact h_) (Or.inl ⟨by rfl, ?_⟩) (by assumption) ?_
                rotate_left 1
                focus (intro w_ hSw_; go_simp; try with_reducible rfl)
                simp only [Act.put, List.setIfInBounds_toArray, List.set_cons_zero, List.set_cons_succ]
                refine wpAnyH_take (i := 8) (v := ?_) (by simp only [List.getElem?_toArray, List.getElem?_cons_succ, List.getElem?_cons_zero]; rfl) (by kernel_rfl) (by kernel_rfl) (by kernel_rfl) (by intro _ _ _ h_; exact h_) (Or.inl ⟨by rfl, ?_⟩) (by assumption) ?_
                rotate_left 1
                focus (intro w_ hSw_; go_simp; try with_reducible rfl)
                simp only [Act.put, List.setIfInBounds_toArray, List.set_cons_zero, List.set_cons_succ]
                refine wpAnyH_ready (rs := [9, 13]) (by kernel_rfl) (by simp) ?_
                refine AllReadyH.cons (by simp only [List.getElem?_toArray, List.getElem?_cons_succ, List.getElem?_cons_zero]; rfl) (fun K hK => ?_) (AllReadyH.cons (by simp only [List.getElem?_toArray, List.getElem?_cons_succ, List.getElem?_cons_zero]; rfl) (fun K hK => ?_) AllReadyH.nil)
                · go_simp
                  refine (Hgo.out _ (hd0.below _)).mono ?_
                  rintro e w5 ⟨bo, c, rfl, -, -, -, -, -, hb5⟩
                  have hB5 : Below wr.heap.size wr w5 := (hd0.below _).trans hb5
                  go_wp2_with fail
                  refine hK.out _ _ (HSS.out _ hB5) (fun hHeld => ?_)
                  clear hK K hHeld
                  try simp only [Act.put, List.setIfInBounds_toArray, List.set_cons_zero, List.set_cons_succ]
                  have hHeld := HSS.out _ hB5
                  refine wpAnyH_take (i := 10) (v := ?_) (by simp only [List.getElem?_toArray, List.getElem?_cons_succ, List.getElem?_cons_zero]; rfl) (by kernel_rfl) (by kernel_rfl) (by kernel_rfl) (by intro _ _ _ h_; exact h_) (Or.inl ⟨by rfl, ?_⟩) (by assumption) ?_
                  rotate_left 1
                  focus (intro w_ hSw_; go_simp; try with_reducible rfl)
                  simp only [Act.put, List.setIfInBounds_toArray, List.set_cons_zero, List.set_cons_succ]
                  refine wpAnyH_take (i := 11) (v := ?_) (by simp only [List.getElem?_toArray, List.getElem?_cons_succ, List.getElem?_cons_zero]; rfl) (by kernel_rfl) (by kernel_rfl) (by kernel_rfl) (by intro _ _ _ h_; exact h_) (Or.inl ⟨by rfl, ?_⟩) (by assumption) ?_
                  rotate_left 1
                  focus (intro w_ hSw_; go_simp; try with_reducible rfl)
                  simp only [Act.put, List.setIfInBounds_toArray, List.set_cons_zero, List.set_cons_succ]
                  refine wpAnyH_take (i := 12) (v := ?_) (by simp only [List.getElem?_toArray, List.getElem?_cons_succ, List.getElem?_cons_zero]; rfl) (by kernel_rfl) (by kernel_rfl) (by kernel_rfl) (by intro _ _ _ h_; exact h_) (Or.inl ⟨by rfl, ?_⟩) (by assumption) ?_
                  rotate_left 1
                  focus (intro w_ hSw_; go_simp; try with_reducible rfl)
                  simp only [Act.put, List.setIfInBounds_toArray, List.set_cons_zero, List.set_cons_succ]
                  have HDn := Lib.hid (HB.new w5 z8L 63)
                  have l2 := run_stA (s := st2) HDn.out rfl
                  refine wpAnyH_ready (rs := [13]) (by kernel_rfl) (by simp) ?_
                  refine AllReadyH.cons (by simp only [List.getElem?_toArray, List.getElem?_cons_succ, List.getElem?_cons_zero]; rfl) (fun K hK => ?_) AllReadyH.nil
                  go_simp
                  refine hK.out _ _ (HSS.out _ (hB5.alloc hB5.size _)) (fun hHeld => ?_)
                  clear hK K hHeld
                  try simp only [Act.put, List.setIfInBounds_toArray, List.set_cons_zero, List.set_cons_succ]
                  have HD9 : Hid (HB ((w5.alloc (.cells z8L.toArray 63)).setRow w5.heap.size ((s8l st2).map u64v).toArray) w5.heap.size 63 ((s8l st2).map u64v)) := Lib.hid (setRow_heap _ _ _ _ _ _ HDn.out)
                  have HB9 := Lib.hid ((hB5.alloc hB5.size (.cells z8L.toArray 63)).grown (grown_row (w5.alloc (.cells z8L.toArray 63)) w5.heap.size ((s8l st2).map u64v).toArray) (by have := hB5.size; simp; omega) (fun x hx => by have := Option.some.inj hx; have := hB5.size; omega))
                  refine wpAnyH_ready (rs := [14]) (by kernel_rfl) (by simp) ?_
                  refine AllReadyH.cons (by simp only [List.getElem?_toArray, List.getElem?_cons_succ, List.getElem?_cons_zero]; rfl) (fun K hK => ?_) AllReadyH.nil
                  go_simp
                  refine hK.out _ _ (HSS.out _ HB9.out) (fun hHeld => ?_)
                  clear hK K
                  refine wpAnyH_take (i := 15) (v := ?_) (by simp only [List.getElem?_toArray, List.getElem?_cons_succ, List.getElem?_cons_zero]; rfl) (by kernel_rfl) (by kernel_rfl) (by kernel_rfl) (by intro _ _ _ h_; exact h_) (Or.inl ⟨by rfl, ?_⟩) (by assumption) ?_
                  rotate_left 1
                  focus (intro w_ hSw_; go_simp; try with_reducible rfl)
                  simp only [Act.put, List.setIfInBounds_toArray, List.set_cons_zero, List.set_cons_succ]
                  refine wpAnyH_done (by kernel_rfl) ?_ _
                  clear l2 HDn hHeld hB5 hb5 hz8 Hgo
                  generalize (w5.alloc (.cells z8L.toArray 63)).setRow w5.heap.size ((s8l st2).map u64v).toArray = w9 at *
                  generalize w5.heap.size = D at *
                  have Hwd := Lib.hid (fun w' => rwords_any k st2 w' Hk.out)
                  have Hl9 := Lib.hid (fun w' (h : Below w9.heap.size w9 w') => And.intro (HSS.out w' (HB9.out.trans (h.mono HB9.out.size))).1 (run_ldA (s := st2) (HD9.out.later h).whole))
                  go_upto_region 20 with fail
                  as_aux_lemma =>
                  have hd9 : Drn w9 w9.drew := ⟨1, rfl⟩
                  refine wp_region_held_drew (S := fun w' => w'.cell? ⟨hb, 0, none⟩ = some (.int .i64 k) ∧ (ldA (.pointer (some ⟨D, 0, none⟩))).run Tryd.prog w' = .ok (.agg ((s8l st2).map u64v).toArray) w') (by kernel_rfl) (Hl9.out _ (hd9.below _)) (fun hHeld => ?_)
                  refine wpAnyH_take (i := 0) (v := ?_) (by simp only [List.getElem?_toArray, List.getElem?_cons_succ, List.getElem?_cons_zero]; rfl) (by kernel_rfl) (by kernel_rfl) (by kernel_rfl) (by intro _ _ _ h_; exact h_) (Or.inl ⟨by rfl, ?_⟩) (by assumption) ?_
                  rotate_left 1
                  focus (intro w_ hSw_; go_simp; try with_reducible rfl)
                  simp only [Act.put, List.setIfInBounds_toArray, List.set_cons_zero, List.set_cons_succ]
                  refine wpAnyH_take (i := 1) (v := ?_) (by simp only [List.getElem?_toArray, List.getElem?_cons_succ, List.getElem?_cons_zero]; rfl) (by kernel_rfl) (by kernel_rfl) (by kernel_rfl) (by intro _ _ _ h_; exact h_) (Or.inl ⟨by rfl, ?_⟩) (by assumption) ?_
                  rotate_left 1
                  focus (intro w_ hSw_; go_simp; try with_reducible rfl)
                  simp only [Act.put, List.setIfInBounds_toArray, List.set_cons_zero, List.set_cons_succ]
                  refine wpAnyH_take (i := 2) (v := ?_) (by simp only [List.getElem?_toArray, List.getElem?_cons_succ, List.getElem?_cons_zero]; rfl) (by kernel_rfl) (by kernel_rfl) (by kernel_rfl) (by intro _ _ _ h_; exact h_) (Or.inl ⟨by rfl, ?_⟩) (by assumption) ?_
                  rotate_left 1
                  focus (intro w_ hSw_; go_simp; try with_reducible rfl)
                  simp only [Act.put, List.setIfInBounds_toArray, List.set_cons_zero, List.set_cons_succ]
                  refine wpAnyH_take (i := 3) (v := ?_) (by simp only [List.getElem?_toArray, List.getElem?_cons_succ, List.getElem?_cons_zero]; rfl) (by kernel_rfl) (by kernel_rfl) (by kernel_rfl) (by intro _ _ _ h_; exact h_) (Or.inl ⟨by rfl, ?_⟩) (by assumption) ?_
                  rotate_left 1
                  focus (intro w_ hSw_; go_simp; try with_reducible rfl)
                  simp only [Act.put, List.setIfInBounds_toArray, List.set_cons_zero, List.set_cons_succ]
                  refine wpAnyH_take (i := 4) (v := ?_) (by simp only [List.getElem?_toArray, List.getElem?_cons_succ, List.getElem?_cons_zero]; rfl) (by kernel_rfl) (by kernel_rfl) (by kernel_rfl) (by intro _ _ _ h_; exact h_) (Or.inl ⟨by rfl, ?_⟩) (by assumption) ?_
                  rotate_left 1
                  focus (intro w_ hSw_; go_simp; try with_reducible rfl)
                  simp only [Act.put, List.setIfInBounds_toArray, List.set_cons_zero, List.set_cons_succ]
                  refine wpAnyH_take (i := 6) (v := ?_) (by simp only [List.getElem?_toArray, List.getElem?_cons_succ, List.getElem?_cons_zero]; rfl) (by kernel_rfl) (by kernel_rfl) (by kernel_rfl) (by intro _ _ _ h_; exact h_) (Or.inl ⟨by rfl, ?_⟩) (by assumption) ?_
                  rotate_left 1
                  focus (intro w_ hSw_; go_simp; try with_reducible rfl)
                  simp only [Act.put, List.setIfInBounds_toArray, List.set_cons_zero, List.set_cons_succ]
                  refine wpAnyH_ready (rs := [5]) (by kernel_rfl) (by simp) ?_
                  refine AllReadyH.cons (by simp only [List.getElem?_toArray, List.getElem?_cons_succ, List.getElem?_cons_zero]; rfl) (fun K hK => ?_) AllReadyH.nil
                  go_simp
                  refine (Hwd.out _).mono ?_
                  rintro e w12 ⟨vw, rfl, how, hbw⟩
                  have HOw := Lib.hid how
                  have Hbw : Hid (Below w9.heap.size w9 w12) := Lib.hid ((hd9.below _).trans hbw)
                  rcases how.cases with ⟨-, h⟩ | ⟨gw, cw, rfl, -, -, hcw, hcwm, -, -⟩
                  · have hl8 := wordsL_len (wK k) (s8l st2)
                    rw [h] at hl8
                    rw [Hw.out] at hl8
                    cases hl8
                  have Hwl : Hid (digK k ≤ (wordsL (wK k) (s8l st2)).length) := Lib.hid (by
                    rw [wordsL_len, s8l_len]
                    unfold digK wK
                    split
                    · decide
                    · split <;> decide)
                  have hsl := slice_bytes_block byteRow02 (some ⟨gw, 0, none⟩) (wordsL (wK k) (s8l st2)).length cw (digK k) (by have := Hwl.out; omega) .i64
                  clear how hbw Hwd hd9 hcw hcwm
                  go_wp2_with fail
                  refine hK.out _ _ (Hl9.out _ Hbw.out) (fun hHeld => ?_)
                  clear hK K
                  try simp only [Act.put, List.setIfInBounds_toArray, List.set_cons_zero, List.set_cons_succ]
                  refine wpAnyH_take (i := 7) (v := ?_) (by simp only [List.getElem?_toArray, List.getElem?_cons_succ, List.getElem?_cons_zero]; rfl) (by kernel_rfl) (by kernel_rfl) (by kernel_rfl) (by intro _ _ _ h_; exact h_) (Or.inl ⟨by rfl, ?_⟩) (by assumption) ?_
                  rotate_left 1
                  focus (intro w_ hSw_; go_simp; try with_reducible rfl)
                  simp only [Act.put, List.setIfInBounds_toArray, List.set_cons_zero, List.set_cons_succ]
                  refine wpAnyH_take (i := 8) (v := ?_) (by simp only [List.getElem?_toArray, List.getElem?_cons_succ, List.getElem?_cons_zero]; rfl) (by kernel_rfl) (by kernel_rfl) (by kernel_rfl) (by intro _ _ _ h_; exact h_) (Or.inl ⟨by rfl, ?_⟩) (by assumption) ?_
                  rotate_left 1
                  focus (intro w_ hSw_; go_simp; try with_reducible rfl)
                  simp only [Act.put, List.setIfInBounds_toArray, List.set_cons_zero, List.set_cons_succ]
                  refine wpAnyH_done (by kernel_rfl) ?_ _
                  go_wp2_with fail
                  go_ret
                  exact ⟨gw, cw, rfl, by rw [Hres.out]; exact (HOw.out.prefix Hwl.out).mono (Nat.le_trans HSf.out.s HB9.out.size), (HSf.out.b.trans (HB9.out.mono HSf.out.s)).trans (Hbw.out.mono (Nat.le_trans HSf.out.s HB9.out.size))⟩
                · have hHeld2 := HSS.out _ ((hd0.below wr.heap.size).alloc (Nat.le_refl _) (.cells z8L.toArray 63))
                  have HDn : Hid (HB (wr.drew.alloc (.cells z8L.toArray 63)) wr.heap.size 63 z8L) := Lib.hid (HB.new wr.drew z8L 63)
                  go_simp
                  refine hK.out _ _ hHeld2 (fun hHeld => ?_)
                  clear hK K hHeld
                  try simp only [Act.put, List.setIfInBounds_toArray, List.set_cons_zero, List.set_cons_succ]
                  have hHeld := hHeld2
                  refine wpAnyH_ready (rs := [9]) (by kernel_rfl) (by simp) ?_
                  refine AllReadyH.cons (by simp only [List.getElem?_toArray, List.getElem?_cons_succ, List.getElem?_cons_zero]; rfl) (fun K hK => ?_) AllReadyH.nil
                  go_simp
                  refine (Hgo.out _ ((hd0.below wr.heap.size).alloc (Nat.le_refl _) (.cells z8L.toArray 63))).mono ?_
                  rintro e w5 ⟨bo, c, rfl, -, -, -, -, -, hb5⟩
                  have hB5 : Below wr.heap.size wr w5 := ((hd0.below wr.heap.size).alloc (Nat.le_refl _) (.cells z8L.toArray 63)).trans (hb5.mono (by simp))
                  have HDc := Lib.hid (HDn.out.later hb5)
                  have l2 := run_stA (s := st2) HDc.out rfl
                  go_wp2_with fail
                  refine hK.out _ _ (HSS.out _ hB5) (fun hHeld => ?_)
                  clear hK K hHeld hHeld2
                  try simp only [Act.put, List.setIfInBounds_toArray, List.set_cons_zero, List.set_cons_succ]
                  have hHeld := HSS.out _ hB5
                  refine wpAnyH_take (i := 10) (v := ?_) (by simp only [List.getElem?_toArray, List.getElem?_cons_succ, List.getElem?_cons_zero]; rfl) (by kernel_rfl) (by kernel_rfl) (by kernel_rfl) (by intro _ _ _ h_; exact h_) (Or.inl ⟨by rfl, ?_⟩) (by assumption) ?_
                  rotate_left 1
                  focus (intro w_ hSw_; go_simp; try with_reducible rfl)
                  simp only [Act.put, List.setIfInBounds_toArray, List.set_cons_zero, List.set_cons_succ]
                  refine wpAnyH_take (i := 11) (v := ?_) (by simp only [List.getElem?_toArray, List.getElem?_cons_succ, List.getElem?_cons_zero]; rfl) (by kernel_rfl) (by kernel_rfl) (by kernel_rfl) (by intro _ _ _ h_; exact h_) (Or.inl ⟨by rfl, ?_⟩) (by assumption) ?_
                  rotate_left 1
                  focus (intro w_ hSw_; go_simp; try with_reducible rfl)
                  simp only [Act.put, List.setIfInBounds_toArray, List.set_cons_zero, List.set_cons_succ]
                  refine wpAnyH_take (i := 12) (v := ?_) (by simp only [List.getElem?_toArray, List.getElem?_cons_succ, List.getElem?_cons_zero]; rfl) (by kernel_rfl) (by kernel_rfl) (by kernel_rfl) (by intro _ _ _ h_; exact h_) (Or.inl ⟨by rfl, ?_⟩) (by assumption) ?_
                  rotate_left 1
                  focus (intro w_ hSw_; go_simp; try with_reducible rfl)
                  simp only [Act.put, List.setIfInBounds_toArray, List.set_cons_zero, List.set_cons_succ]
                  have HD9 : Hid (HB (w5.setRow wr.heap.size ((s8l st2).map u64v).toArray) wr.heap.size 63 ((s8l st2).map u64v)) := Lib.hid (setRow_heap _ _ _ _ _ _ HDc.out)
                  have HB9 := Lib.hid (hB5.grown (grown_row w5 wr.heap.size ((s8l st2).map u64v).toArray) hB5.size (fun x hx => Nat.le_of_eq (Option.some.inj hx)))
                  refine wpAnyH_ready (rs := [14]) (by kernel_rfl) (by simp) ?_
                  refine AllReadyH.cons (by simp only [List.getElem?_toArray, List.getElem?_cons_succ, List.getElem?_cons_zero]; rfl) (fun K hK => ?_) AllReadyH.nil
                  go_simp
                  refine hK.out _ _ (HSS.out _ HB9.out) (fun hHeld => ?_)
                  clear hK K
                  refine wpAnyH_take (i := 15) (v := ?_) (by simp only [List.getElem?_toArray, List.getElem?_cons_succ, List.getElem?_cons_zero]; rfl) (by kernel_rfl) (by kernel_rfl) (by kernel_rfl) (by intro _ _ _ h_; exact h_) (Or.inl ⟨by rfl, ?_⟩) (by assumption) ?_
                  rotate_left 1
                  focus (intro w_ hSw_; go_simp; try with_reducible rfl)
                  simp only [Act.put, List.setIfInBounds_toArray, List.set_cons_zero, List.set_cons_succ]
                  refine wpAnyH_done (by kernel_rfl) ?_ _
                  clear l2 HDn HDc hHeld hB5 hb5 hz8 Hgo
                  generalize w5.setRow wr.heap.size ((s8l st2).map u64v).toArray = w9 at *
                  obtain ⟨D, hD⟩ : ∃ D, wr.heap.size = D := ⟨_, rfl⟩
                  rw [hD] at HD9 ⊢
                  clear hD
                  have Hwd := Lib.hid (fun w' => rwords_any k st2 w' Hk.out)
                  have Hl9 := Lib.hid (fun w' (h : Below w9.heap.size w9 w') => And.intro (HSS.out w' (HB9.out.trans (h.mono HB9.out.size))).1 (run_ldA (s := st2) (HD9.out.later h).whole))
                  go_upto_region 20 with fail
                  as_aux_lemma =>
                  have hd9 : Drn w9 w9.drew := ⟨1, rfl⟩
                  refine wp_region_held_drew (S := fun w' => w'.cell? ⟨hb, 0, none⟩ = some (.int .i64 k) ∧ (ldA (.pointer (some ⟨D, 0, none⟩))).run Tryd.prog w' = .ok (.agg ((s8l st2).map u64v).toArray) w') (by kernel_rfl) (Hl9.out _ (hd9.below _)) (fun hHeld => ?_)
                  refine wpAnyH_take (i := 0) (v := ?_) (by simp only [List.getElem?_toArray, List.getElem?_cons_succ, List.getElem?_cons_zero]; rfl) (by kernel_rfl) (by kernel_rfl) (by kernel_rfl) (by intro _ _ _ h_; exact h_) (Or.inl ⟨by rfl, ?_⟩) (by assumption) ?_
                  rotate_left 1
                  focus (intro w_ hSw_; go_simp; try with_reducible rfl)
                  simp only [Act.put, List.setIfInBounds_toArray, List.set_cons_zero, List.set_cons_succ]
                  refine wpAnyH_take (i := 1) (v := ?_) (by simp only [List.getElem?_toArray, List.getElem?_cons_succ, List.getElem?_cons_zero]; rfl) (by kernel_rfl) (by kernel_rfl) (by kernel_rfl) (by intro _ _ _ h_; exact h_) (Or.inl ⟨by rfl, ?_⟩) (by assumption) ?_
                  rotate_left 1
                  focus (intro w_ hSw_; go_simp; try with_reducible rfl)
                  simp only [Act.put, List.setIfInBounds_toArray, List.set_cons_zero, List.set_cons_succ]
                  refine wpAnyH_take (i := 2) (v := ?_) (by simp only [List.getElem?_toArray, List.getElem?_cons_succ, List.getElem?_cons_zero]; rfl) (by kernel_rfl) (by kernel_rfl) (by kernel_rfl) (by intro _ _ _ h_; exact h_) (Or.inl ⟨by rfl, ?_⟩) (by assumption) ?_
                  rotate_left 1
                  focus (intro w_ hSw_; go_simp; try with_reducible rfl)
                  simp only [Act.put, List.setIfInBounds_toArray, List.set_cons_zero, List.set_cons_succ]
                  refine wpAnyH_take (i := 3) (v := ?_) (by simp only [List.getElem?_toArray, List.getElem?_cons_succ, List.getElem?_cons_zero]; rfl) (by kernel_rfl) (by kernel_rfl) (by kernel_rfl) (by intro _ _ _ h_; exact h_) (Or.inl ⟨by rfl, ?_⟩) (by assumption) ?_
                  rotate_left 1
                  focus (intro w_ hSw_; go_simp; try with_reducible rfl)
                  simp only [Act.put, List.setIfInBounds_toArray, List.set_cons_zero, List.set_cons_succ]
                  refine wpAnyH_take (i := 4) (v := ?_) (by simp only [List.getElem?_toArray, List.getElem?_cons_succ, List.getElem?_cons_zero]; rfl) (by kernel_rfl) (by kernel_rfl) (by kernel_rfl) (by intro _ _ _ h_; exact h_) (Or.inl ⟨by rfl, ?_⟩) (by assumption) ?_
                  rotate_left 1
                  focus (intro w_ hSw_; go_simp; try with_reducible rfl)
                  simp only [Act.put, List.setIfInBounds_toArray, List.set_cons_zero, List.set_cons_succ]
                  refine wpAnyH_take (i := 6) (v := ?_) (by simp only [List.getElem?_toArray, List.getElem?_cons_succ, List.getElem?_cons_zero]; rfl) (by kernel_rfl) (by kernel_rfl) (by kernel_rfl) (by intro _ _ _ h_; exact h_) (Or.inl ⟨by rfl, ?_⟩) (by assumption) ?_
                  rotate_left 1
                  focus (intro w_ hSw_; go_simp; try with_reducible rfl)
                  simp only [Act.put, List.setIfInBounds_toArray, List.set_cons_zero, List.set_cons_succ]
                  refine wpAnyH_ready (rs := [5]) (by kernel_rfl) (by simp) ?_
                  refine AllReadyH.cons (by simp only [List.getElem?_toArray, List.getElem?_cons_succ, List.getElem?_cons_zero]; rfl) (fun K hK => ?_) AllReadyH.nil
                  go_simp
                  refine (Hwd.out _).mono ?_
                  rintro e w12 ⟨vw, rfl, how, hbw⟩
                  have HOw := Lib.hid how
                  have Hbw : Hid (Below w9.heap.size w9 w12) := Lib.hid ((hd9.below _).trans hbw)
                  rcases how.cases with ⟨-, h⟩ | ⟨gw, cw, rfl, -, -, hcw, hcwm, -, -⟩
                  · have hl8 := wordsL_len (wK k) (s8l st2)
                    rw [h] at hl8
                    rw [Hw.out] at hl8
                    cases hl8
                  have Hwl : Hid (digK k ≤ (wordsL (wK k) (s8l st2)).length) := Lib.hid (by
                    rw [wordsL_len, s8l_len]
                    unfold digK wK
                    split
                    · decide
                    · split <;> decide)
                  have hsl := slice_bytes_block byteRow02 (some ⟨gw, 0, none⟩) (wordsL (wK k) (s8l st2)).length cw (digK k) (by have := Hwl.out; omega) .i64
                  clear how hbw Hwd hd9 hcw hcwm
                  go_wp2_with fail
                  refine hK.out _ _ (Hl9.out _ Hbw.out) (fun hHeld => ?_)
                  clear hK K
                  try simp only [Act.put, List.setIfInBounds_toArray, List.set_cons_zero, List.set_cons_succ]
                  refine wpAnyH_take (i := 7) (v := ?_) (by simp only [List.getElem?_toArray, List.getElem?_cons_succ, List.getElem?_cons_zero]; rfl) (by kernel_rfl) (by kernel_rfl) (by kernel_rfl) (by intro _ _ _ h_; exact h_) (Or.inl ⟨by rfl, ?_⟩) (by assumption) ?_
                  rotate_left 1
                  focus (intro w_ hSw_; go_simp; try with_reducible rfl)
                  simp only [Act.put, List.setIfInBounds_toArray, List.set_cons_zero, List.set_cons_succ]
                  refine wpAnyH_take (i := 8) (v := ?_) (by simp only [List.getElem?_toArray, List.getElem?_cons_succ, List.getElem?_cons_zero]; rfl) (by kernel_rfl) (by kernel_rfl) (by kernel_rfl) (by intro _ _ _ h_; exact h_) (Or.inl ⟨by rfl, ?_⟩) (by assumption) ?_
                  rotate_left 1
                  focus (intro w_ hSw_; go_simp; try with_reducible rfl)
                  simp only [Act.put, List.setIfInBounds_toArray, List.set_cons_zero, List.set_cons_succ]
                  refine wpAnyH_done (by kernel_rfl) ?_ _
                  go_wp2_with fail
                  go_ret
                  exact ⟨gw, cw, rfl, by rw [Hres.out]; exact (HOw.out.prefix Hwl.out).mono (Nat.le_trans HSf.out.s HB9.out.size), (HSf.out.b.trans (HB9.out.mono HSf.out.s)).trans (Hbw.out.mono (Nat.le_trans HSf.out.s HB9.out.size))⟩
      · have hRn : ¬ R = 0 := fun h => hlt (hpe.1 h)
        have t1 : ((R : Int) == 0) = false := beq_eq_false_iff_ne.2 (by omega)
        have t2 : ((R : Int) != 0) = true := bne_iff_ne.2 (by omega)
        have HS5 := Lib.hid (HS.out.alloc (.cells #[.int .u8 0] 5))
        have hlen : (rest ++ [128] ++ List.replicate j (0 : UInt8)).length = N := by simp; omega
        have Hlen := Lib.hid hlen
        have HNb := Lib.hid hNb
        clear hpe hRn hN hlen hNb
        go_wp2_with (at_builtin; refine wpList_append_at byteRow02 rfl _ _ rfl B _ (rest ++ [128] ++ List.replicate j 0) rfl HS5.out.o ⟨wr.heap.size, 0, none⟩ 1 1 [0] rfl rfl (Rd.new wr [0] _ _) ?c1 HS5.out.s (N + 1) ?c3 (by omega) ?_)
        case c1 => rw [Hlen.out]; have := HNb.out; omega
        case c3 => rw [Hlen.out]
        intro g7 C7 w7 ho7 hg7 hk7
        have e7 : rest ++ 128 :: (List.replicate j (0 : UInt8) ++ [0]) = rest ++ [128] ++ List.replicate (j + 1) 0 := by rw [List.replicate_succ']; simp
        rw [e7] at ho7
        have HS7 := Lib.hid (HS5.out.step Hhb.out ho7 hg7)
        clear e7
        clear ho7 hg7 hk7 t1 t2 r0 r1 r2
        go_wp2_with fail
        have hN := HN.out
        first
        | (go_roundw
           case rel => exact ⟨j + 1, N + 1, g7, C7, by omega, by omega, rfl, HS7.out⟩
           case measure => (first | omega | (simp [intOf] <;> omega) | (simp only [intOf] <;> omega)))
        | exact ⟨⟨j + 1, N + 1, g7, C7, by omega, by omega, rfl, HS7.out⟩, by (first | omega | (simp [intOf] <;> omega) | (simp only [intOf] <;> omega))⟩
        | (refine ⟨?_, by (first | omega | (simp [intOf] <;> omega) | (simp only [intOf] <;> omega))⟩
           (repeat apply Exists.intro)
           refine (fun a b => And.intro b a) ?_ ?_
           · first | rfl | ((repeat refine ⟨rfl, ?_⟩); rfl)
           exact ⟨j + 1, N + 1, g7, C7, by omega, by omega, rfl, HS7.out⟩)
end Go.Proofs.YtngkelflfahjbaaDoor
