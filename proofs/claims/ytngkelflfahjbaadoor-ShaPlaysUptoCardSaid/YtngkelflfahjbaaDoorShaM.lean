/- The program's hash: Sum. No condition. -/
import Derived.Test.YtngkelflfahjbaaDoorShaL
import Derived.Deep.RegionHeld3
import Derived.Deep.RegionWith
import Derived.Deep.DrawnRows
set_option linter.unusedVariables false
set_option linter.unusedSimpArgs false
namespace Go.Proofs.YtngkelflfahjbaaDoor
open Go.RowKit
/-- the copy of a hash at G, and the padded bytes -/
structure SumC (G : Nat) (cs : List Value) (w0 : World) (v : Value) (l : List UInt8) (wr : World) : Prop where
  o : Own 5 wr (G + 1) v l
  h : HB wr G 67 cs
  b : Below G w0 wr
  s : G + 1 ≤ wr.heap.size
theorem SumC.step {G : Nat} {cs : List Value} {w0 wr w' : World} {v v' : Value} {l l' : List UInt8} (h : SumC G cs w0 v l wr) (ho : Own 5 w' (G + 1) v' l') (hg : wr.grownBy w' v.ownBlock) : SumC G cs w0 v' l' w' :=
  ⟨ho, h.h.grown hg (fun e => by have := (own_blk h.o e.symm).1; omega), h.b.grown hg (by have := h.s; omega) (fun q hq => by have := (own_blk h.o hq).1; omega), Nat.le_trans h.s hg.size⟩
theorem SumC.alloc {G : Nat} {cs : List Value} {w0 wr : World} {v : Value} {l : List UInt8} (h : SumC G cs w0 v l wr) (o : Obj) : SumC G cs w0 v l (wr.alloc o) :=
  ⟨h.o.alloc o, h.h.alloc o, h.b.alloc (by have := h.s; omega) o, Nat.le_trans h.s (by simp)⟩
theorem Own.prefix {E : TypeId} {w : World} {B g n C t : Nat} {l : List UInt8} (h : Own E w B (.slice (some ⟨g, 0, none⟩) n C) l) (ht : t ≤ n) : Own E w B (.slice (some ⟨g, 0, none⟩) t C) (l.take t) := by
  obtain ⟨hn, -⟩ := h.at
  subst hn
  rcases h.2 with ⟨e, _⟩ | ⟨g', C', cur, e, hb, hg, hnc, hcm, hcs, htake⟩
  · cases e
  · cases e
    have hl : (l.take t).length = t := by rw [List.length_take]; omega
    refine ⟨by simp, .inr ⟨g, C, cur, by rw [hl], hb, hg, by rw [hl]; omega, hcm, hcs, ?_⟩⟩
    rw [hl, Nat.mul_one]
    rw [Nat.mul_one] at htake
    rw [List.map_take, ← htake, List.take_take, Nat.min_eq_left ht]
structure ZeIn (G : Nat) (cs : List Value) (w0 : World) (rest : List UInt8) (Z : Nat) (v : Value) (wr : World) : Prop where
  x : ∃ (j N g C : Nat), j ≤ Z ∧ N = rest.length + 1 + j ∧ v = .slice (some ⟨g, 0, none⟩) N C ∧ SumC G cs w0 v (rest ++ [128] ++ List.replicate j 0) wr
def hz0 : List Value := [.int .u8 0, .bool false, .int .i64 0, .int .u64 0, .int .u64 0, .int .u64 0, .int .u64 0, .int .u64 0, .int .u64 0, .int .u64 0, .int .u64 0, .int .u64 0, .int .u64 0, .int .u64 0, .int .u64 0, .int .u64 0, .int .u64 0, .int .u64 0, .int .u64 0, .int .u64 0, .slice none 0 0]
theorem hashC_len (k : Nat) (st : S8) (n : Nat) (rv : Value) : (hashC k st n rv).length = 21 := rfl
theorem hashC_one (k : Nat) (st : S8) (n : Nat) (ra : Option Addr) (rn rc : Nat) : (hashC k st n (.slice ra rn rc)).toArray.all (·.oneCell') = true := by
  simp [hashC, kdC, s8l, u64v, Value.oneCell']
theorem hashInfo (k : Nat) (st : S8) (n : Nat) (rv : Value) : (Tryd.prog.info? 67).map (·.size) = some (hashC k st n rv).length := by rw [hashC_len]; kernel_rfl
theorem pad_end (sz th rn Z j : Nat) (h : (sz = 64 ∧ th = 56) ∨ (sz = 128 ∧ th = 112)) (hZ : Z = (2 * sz - sz / 8 - (rn + 1) % sz) % sz) (hj : j ≤ Z) : (rn + 1 + j) % sz = th ↔ j = Z := by
  rcases h with ⟨rfl, rfl⟩ | ⟨rfl, rfl⟩ <;> omega
attribute [local go_sem ↓] Go.wp_at_zero Go.wp_at_succ
set_option maxRecDepth 100000 in
set_option maxHeartbeats 1000000 in
theorem sum_any (hb k : Nat) (st : S8) (n : Nat) (ra : Option Addr) (rn rc : Nat) (rest : List UInt8) (w : World) (hk : 1 ≤ k ∧ k ≤ 3) (hH : HB w hb 67 (hashC k st n (.slice ra rn rc))) (hs : st.Lt (2 ^ wK k)) (hn : n < 18446744073709551616)
    (hl : rest.length = rn) (hrn : rn ≤ 140737488350000) (hra : ra = none → rc = 0) (hr : Rd w ra rest) (htab : TabOk w) (h00 : 0 < w.heap.size) :
    Calls Tryd.prog 20 #[.pointer (some ⟨hb, 0, none⟩)] w fun e w' => ∃ g C, e = .returned (.slice (some ⟨g, 0, none⟩) (digK k) C) ∧ Own 5 w' w.heap.size (.slice (some ⟨g, 0, none⟩) (digK k) C) (digS k st n rest) ∧ Below w.heap.size w w' := by
  have hzH : ∀ w, (zeroValue 67).run Tryd.prog w = .ok (.agg hz0.toArray) w := fun w => by kernel_rfl
  have Hk := Lib.hid hk
  have HH := Lib.hid hH
  have Hs := Lib.hid hs
  have Hn := Lib.hid hn
  have Hl := Lib.hid hl
  have Hrn := Lib.hid hrn
  have Hra := Lib.hid hra
  have Hr := Lib.hid hr
  have Htab := Lib.hid htab
  have H00 := Lib.hid h00
  have Hrg := Lib.hid hH.whole
  have HV := Lib.hid (HB.new w hz0 67)
  have hgr := grown_row (w.alloc (.cells hz0.toArray 67)) w.heap.size (hashC k st n (.slice ra rn rc)).toArray
  have HG1 : Hid (HB ((w.alloc (.cells hz0.toArray 67)).setRow w.heap.size (hashC k st n (.slice ra rn rc)).toArray) w.heap.size 67 (hashC k st n (.slice ra rn rc))) := Lib.hid (setRow_heap _ _ _ _ _ _ HV.out)
  have HB1 := Lib.hid (((Below.refl w.heap.size w).alloc (Nat.le_refl _) (.cells hz0.toArray 67)).grown hgr (by simp) (fun x hx => Nat.le_of_eq (Option.some.inj hx)))
  have Hz1 : Hid (((w.alloc (.cells hz0.toArray 67)).setRow w.heap.size (hashC k st n (.slice ra rn rc)).toArray).heap.size = w.heap.size + 1) := Lib.hid (by simp [World.setRow])
  have Hone := Lib.hid (hashC_one k st n ra rn rc)
  have Hi1 := Lib.hid (hashInfo k st n (.slice ra rn rc))
  have Hi2 : Hid ((Tryd.prog.info? 67).map (·.size) = some (hashC k st n (.slice ra rn rc)).toArray.size) := Lib.hid (hashInfo k st n (.slice ra rn rc))
  have Hsz : Hid (hz0.toArray.size = (hashC k st n (.slice ra rn rc)).toArray.size) := Lib.hid rfl
  clear hk hH hs hn hl hrn hra hr htab h00 hgr
  go_enter Tryd.func20, Tryd.ntmps20
  go_wp2_with (first | (refine wpList_load_mid rfl _ _ rfl hb 0 rfl (hashC k st n (.slice ra rn rc)) _ Hrg.out Tryd.underlying67 rfl Hi1.out ?_) | (refine wpList_store_row rfl _ _ _ rfl w.heap.size (hashC k st n (.slice ra rn rc)).toArray rfl rfl _ _ HV.out Hi2.out Hsz.out Hone.out ?_))
  as_aux_lemma =>
  have Hr1 := Lib.hid (Hr.out.below HB1.out)
  have Htab1 := Lib.hid (Htab.out.below HB1.out)
  clear hzH Hrg HV Hone Hi1 Hi2 Hsz HH
  generalize ((w.alloc (.cells hz0.toArray 67)).setRow w.heap.size (hashC k st n (.slice ra rn rc)).toArray) = w1 at *
  obtain ⟨G, hG⟩ : ∃ G, w.heap.size = G := ⟨_, rfl⟩
  rw [hG] at HG1 HB1 Hz1 ⊢
  have HGx := Lib.hid hG
  clear hG
  refine (kblock_any G k st n (.slice ra rn rc) w1 Hk.out HG1.out).mono ?_
  rintro e w2 ⟨rfl, rfl⟩
  have c20 := fun o => (HG1.out.alloc o).cell (hashC_rv k st n (.slice ra rn rc))
  have Hm0 : Hid (Own 5 (w1.alloc (.cells #[] 5)) (G + 1) (.slice (some ⟨G + 1, 0, none⟩) 0 0) []) := Lib.hid (by
    have h := Own.made0 5 w1 (G + 1) (by rw [Hz1.out]; exact Nat.le_refl _)
    rw [Hz1.out] at h; exact h)
  have HS0 : Hid (SumC G (hashC k st n (.slice ra rn rc)) w (.slice (some ⟨G + 1, 0, none⟩) 0 0) [] (w1.alloc (.cells #[] 5))) := Lib.hid ⟨Hm0.out, HG1.out.alloc _, HB1.out.alloc (by rw [Hz1.out]; omega) _, by simp [Hz1.out]⟩
  have hr1' := fun o => Lib.hid (Hr1.out.below ((Below.refl w1.heap.size w1).alloc (Nat.le_refl _) o))
  have hz1 := Hz1.out
  go_wp2_with (at_builtin; refine wpList_append_bytes byteRow02 rfl _ _ rfl (G + 1) _ [] rfl Hm0.out ra rn rc rest rfl Hra.out Hl.out (hr1' _).out (by have := Hrn.out; simp; omega) HS0.out.s ?_)
  intro v4 w4 ho4 hg4
  have HS4 := Lib.hid (HS0.out.step (v' := v4) (l' := rest) ho4 hg4)
  have HS5 := Lib.hid (HS4.out.alloc (.cells #[.int .u8 128] 5))
  clear ho4 hg4 c20 hr1' hz1 HS0 Hm0
  go_wp2_with (at_builtin; refine wpList_append_at byteRow02 rfl _ _ rfl (G + 1) v4 rest rfl HS5.out.o ⟨w4.heap.size, 0, none⟩ 1 1 [128] rfl rfl (Rd.new w4 [128] _ _) (by have := Hrn.out; have := Hl.out; omega) HS5.out.s (rest.length + 1) rfl (by omega) ?_)
  intro g6 C6 w6 ho6 hg6 hk6
  have HS6 := Lib.hid (HS5.out.step ho6 hg6)
  clear ho6 hg6 hk6 HS4 HS5
  obtain ⟨N6, hN6⟩ : ∃ N6, rest.length + 1 = N6 := ⟨_, rfl⟩
  rw [hN6] at HS6 ⊢
  have HN6 := Lib.hid hN6
  clear hN6
  rcases size_kind Hk.out with ⟨h1, hw, hsz⟩ | ⟨h1, hw, hsz⟩
  · rw [hsz]
    have H1 := Lib.hid h1
    have Hw := Lib.hid hw
    have Hsz := Lib.hid hsz
    clear h1 hw hsz
    obtain ⟨Z, hZ⟩ : ∃ Z, zerosW 32 rest.length = Z := ⟨_, rfl⟩
    have HZ := Lib.hid hZ
    have Hpe := Lib.hid (fun j (hj : j ≤ Z) => pad_end 64 56 rest.length Z j (by decide) (by rw [← hZ]; rfl) hj)
    have HZl : Hid (Z < 64) := Lib.hid (by rw [← hZ]; exact Nat.mod_lt _ (by decide))
    clear hZ
    go_wp2_with fail
    as_aux_lemma =>
    go_loopw [5] (fun v wr => ZeIn G (hashC k st n (.slice ra rn rc)) w rest Z v wr) (fun v _ => (rest.length + 1 + Z) - lenV v)
    case atStart => exact ⟨0, N6, g6, C6, Nat.zero_le _, HN6.out.symm, rfl, by simpa using HS6.out⟩
    case round =>
      as_aux_lemma =>
      clear HS6 HN6
      obtain ⟨j, N, g, C, hj, hN, rfl, hS⟩ := hrel
      have HS := Lib.hid hS
      have HN := Lib.hid hN
      have hpe := Hpe.out j hj
      rw [← hN] at hpe
      obtain ⟨R, hR⟩ : ∃ R, N % 64 = R := ⟨_, rfl⟩
      rw [hR] at hpe
      have r2 : (N : Int) % 64 = (R : Int) := by rw [← hR]; rfl
      have r1 : (N : Int).tmod 64 = (R : Int) := by rw [Int.tmod_eq_emod_of_nonneg (by omega)]; exact r2
      clear hR hS
      by_cases hlt : j = Z
      · have hR := hpe.2 hlt
        rw [hR] at r1 r2
        subst hlt
        clear hpe hR hN
        have c1 := HS.out.h.cell (hashC_long k st n (.slice ra rn rc))
        rw [show decide (k ≠ 1) = false from (decide_eq_false (fun h => h H1.out))] at c1
        have c19 := HS.out.h.cell (hashC_n k st n (.slice ra rn rc))
        obtain ⟨NN, hNN⟩ : ∃ NN, n * 8 % 18446744073709551616 = NN := ⟨_, rfl⟩
        have e8 : (n : Int) * 8 = ((n * 8 : Nat) : Int) := by omega
        have s1 : IntKind.u64.wrap ((n : Int) * 8) = (NN : Int) := by rw [e8, wrap64, hNN]
        have s2 : (n : Int) * 8 % 18446744073709551616 = (NN : Int) := by omega
        clear e8
        have HNN := Lib.hid hNN
        have hlen : (rest ++ [128] ++ List.replicate j (0 : UInt8)).length ≤ 140737488351000 := by
          have := Hrn.out; have := Hl.out; have := HZl.out; simp; omega
        have Hlen := Lib.hid hlen
        clear hNN hlen
        go_wp2_with fail
        as_aux_lemma =>
        clear r1 r2 c1
        have HSq := HS
        have hpq : ∃ L, rest ++ [128] ++ List.replicate j (0 : UInt8) = L ∧ padL (wK k) rest n = L ++ encL 8 true NN ∧ L.length ≤ 140737488351100 := ⟨_, rfl, by
          unfold padL
          rw [Hw.out, if_neg (by decide), HZ.out, HNN.out]
          simp, by have := Hlen.out; omega⟩
        obtain ⟨L, hL, hpad, hLl⟩ := hpq
        rw [hL] at HSq
        have Hpad := Lib.hid hpad
        have HLl := Lib.hid hLl
        clear hL hpad hLl HS Hlen HNN HZ Hpe HZl hj s1 s2 c19
        generalize hv9 : Value.slice (some ⟨g, 0, none⟩) N C = v9 at *
        clear hv9
        refine (sput_any (G + 1) v9 L 8 NN _ HSq.out.o (by decide) HSq.out.s (by have := HLl.out; omega)).mono ?_
        rintro e w10 ⟨v10, rfl, ho10, hg10, -⟩
        have HS10 := Lib.hid (HSq.out.step ho10 hg10.g)
        rw [← Hpad.out] at HS10
        clear ho10 hg10 HSq
        obtain ⟨P, hP⟩ : ∃ P, padL (wK k) rest n = P := ⟨_, rfl⟩
        have HPl : Hid (P.length ≤ 140737488351200 ∧ 0 < P.length) := Lib.hid (by rw [← hP, Hpad.out, List.length_append, encL_length]; have := HLl.out; omega)
        have HP := Lib.hid hP
        rw [hP] at HS10
        clear hP Hpad HLl
        rcases HS10.out.o.cases with ⟨-, h⟩ | ⟨gp, cp, rfl, hgp, -, hcp, hcpm, hcell, -⟩
        · have := HPl.out.2
          rw [h] at this
          cases this
        obtain ⟨ap, cp', he, -, -, hrp⟩ := HS10.out.o.rd
        cases he
        have Hgp := Lib.hid hgp
        have hcp2 := hcp
        have Hrp := Lib.hid hrp
        have Hcp := Lib.hid hcp
        have Hcpm := Lib.hid hcpm
        clear hgp hcp hcp2 hrp hcell hcpm
        go_wp2_with fail
        as_aux_lemma =>
        refine (blocks_any G k st n (.slice ra rn rc) (some ⟨gp, 0, none⟩) P.length cp P w10 Hk.out HS10.out.h Hs.out rfl Hcp.out Hcpm.out Hrp.out (by intro a e; cases e; show gp ≠ G; have := Hgp.out; omega) (Htab.out.below (by rw [HGx.out]; exact HS10.out.b)) (by have := H00.out; have := HGx.out; omega)).mono ?_
        rintro e w11 ⟨bo, c11, rfl, -, -, -, -, -, hH11, hg11⟩
        have HH11 := Lib.hid hH11
        have HB11 := Lib.hid (HS10.out.b.grown hg11 (by have := HS10.out.s; omega) (fun x hx => Nat.le_of_eq (Option.some.inj hx)))
        have Hs11 : Hid (G + 1 ≤ w11.heap.size) := Lib.hid (Nat.le_trans HS10.out.s hg11.size)
        have Hres : Hid (digS k st n rest = (wordsL (wK k) (s8l (goB (wK k) st P).1)).take (digK k)) := Lib.hid (by unfold digS; rw [HP.out])
        clear hH11 hg11 HS10 Hrp Hcp Hcpm Hgp
        generalize (goB (wK k) st P).1 = st2 at *
        go_wp2_with fail
        as_aux_lemma =>
        have hdg := HH11.out.cell (hashC_dig k st2 n (.slice ra rn rc))
        have Hwd := Lib.hid (fun w5 (h : Drn w11 w5) => words_any G k st2 n (.slice ra rn rc) w5 Hk.out (HH11.out.drn h))
        have hd0 : Drn w11 w11.drew := ⟨1, rfl⟩
        have HDG : Hid (∀ w5, Below w11.heap.size w11 w5 → w5.cell? ⟨G, 2, none⟩ = some (.int .i64 (digK k : Int))) := Lib.hid (fun w5 h => cell_later h (HH11.out.cell (hashC_dig k st2 n (.slice ra rn rc))))
        refine wp_region_held_drew (S := fun w' => w'.cell? ⟨G, 2, none⟩ = some (.int .i64 (digK k : Int))) (by kernel_rfl) hdg (fun hHeld => ?_)
        clear hdg
        refine wpAnyH_take (i := 1) (v := ?_) (by simp only [List.getElem?_toArray, List.getElem?_cons_succ, List.getElem?_cons_zero]; rfl) (by kernel_rfl) (by kernel_rfl) (by kernel_rfl) (by intro _ _ _ h_; exact h_) (Or.inl ⟨by rfl, ?_⟩) (by assumption) ?_
        rotate_left 1
        focus (intro w_ hSw_; go_simp; try with_reducible rfl)
        simp only [Act.put, List.setIfInBounds_toArray, List.set_cons_zero, List.set_cons_succ]
        refine wpAnyH_take (i := 2) (v := ?_) (by simp only [List.getElem?_toArray, List.getElem?_cons_succ, List.getElem?_cons_zero]; rfl) (by kernel_rfl) (by kernel_rfl) (by kernel_rfl) (by intro _ _ _ h_; exact h_) (Or.inl ⟨by rfl, ?_⟩) (by assumption) ?_
        rotate_left 1
        focus (intro w_ hSw_; go_simp; try with_reducible rfl)
        simp only [Act.put, List.setIfInBounds_toArray, List.set_cons_zero, List.set_cons_succ]
        refine wpAnyH_take (i := 3) (v := ?_) (by simp only [List.getElem?_toArray, List.getElem?_cons_succ, List.getElem?_cons_zero]; rfl) (by kernel_rfl) (by kernel_rfl) (by kernel_rfl) (by intro _ _ _ h_; exact h_) (Or.inl ⟨by rfl, ?_⟩) (by assumption) ?_
        rotate_left 1
        focus (intro w_ hSw_; go_simp; try with_reducible rfl)
        simp only [Act.put, List.setIfInBounds_toArray, List.set_cons_zero, List.set_cons_succ]
        refine wpAnyH_ready (rs := [0]) (by kernel_rfl) (by simp) ?_
        refine AllReadyH.cons (by simp only [List.getElem?_toArray, List.getElem?_cons_succ, List.getElem?_cons_zero]; rfl) (fun K hK => ?_) AllReadyH.nil
        go_simp
        refine (Hwd.out _ hd0).mono ?_
        rintro e w12 ⟨vw, rfl, how, hbw⟩
        have HOw := Lib.hid how
        have Hbw : Hid (Below w11.heap.size w11 w12) := Lib.hid ((hd0.below _).trans hbw)
        rcases how.cases with ⟨-, h⟩ | ⟨gw, cw, rfl, -, -, hcw, hcwm, -, -⟩
        · have hl8 := wordsL_len (wK k) (s8l st2)
          rw [h] at hl8
          rw [Hw.out] at hl8
          cases hl8
        have Hwl : Hid (digK k ≤ (wordsL (wK k) (s8l st2)).length) := Lib.hid (by
          rw [wordsL_len, s8l_len]
          unfold digK wK
          split
          · decide
          · split <;> decide)
        have hsl := slice_bytes_block byteRow02 (some ⟨gw, 0, none⟩) (wordsL (wK k) (s8l st2)).length cw (digK k) (by have := Hwl.out; omega) .i64
        clear how hbw Hwd hd0 hcw hcwm
        go_wp2_with fail
        refine hK.out _ _ (HDG.out _ Hbw.out) (fun hHeld => ?_)
        clear hK K
        try simp only [Act.put, List.setIfInBounds_toArray, List.set_cons_zero, List.set_cons_succ]
        refine wpAnyH_take (i := 4) (v := ?_) (by simp only [List.getElem?_toArray, List.getElem?_cons_succ, List.getElem?_cons_zero]; rfl) (by kernel_rfl) (by kernel_rfl) (by kernel_rfl) (by intro _ _ _ h_; exact h_) (Or.inl ⟨by rfl, ?_⟩) (by assumption) ?_
        rotate_left 1
        focus (intro w_ hSw_; go_simp; try with_reducible rfl)
        simp only [Act.put, List.setIfInBounds_toArray, List.set_cons_zero, List.set_cons_succ]
        refine wpAnyH_take (i := 5) (v := ?_) (by simp only [List.getElem?_toArray, List.getElem?_cons_succ, List.getElem?_cons_zero]; rfl) (by kernel_rfl) (by kernel_rfl) (by kernel_rfl) (by intro _ _ _ h_; exact h_) (Or.inl ⟨by rfl, ?_⟩) (by assumption) ?_
        rotate_left 1
        focus (intro w_ hSw_; go_simp; try with_reducible rfl)
        simp only [Act.put, List.setIfInBounds_toArray, List.set_cons_zero, List.set_cons_succ]
        refine wpAnyH_done (by kernel_rfl) ?_ _
        go_wp2_with fail
        go_ret
        exact ⟨gw, cw, rfl, by rw [Hres.out]; exact (HOw.out.prefix Hwl.out).mono (by rw [HGx.out]; have := Hs11.out; show G ≤ w11.heap.size; omega), by rw [HGx.out]; exact HB11.out.trans (Hbw.out.mono (by have := Hs11.out; omega))⟩
      · have hRn : ¬ R = 56 := fun h => hlt (hpe.1 h)
        have t1 : ((R : Int) == 56) = false := beq_eq_false_iff_ne.2 (by omega)
        have t2 : ((R : Int) != 56) = true := bne_iff_ne.2 (by omega)
        have HS5 := Lib.hid (HS.out.alloc (.cells #[.int .u8 0] 5))
        have hlen : (rest ++ [128] ++ List.replicate j (0 : UInt8)).length = N := by simp; omega
        have Hlen := Lib.hid hlen
        clear hpe hRn hN hlen
        go_wp2_with (at_builtin; refine wpList_append_at byteRow02 rfl _ _ rfl (G + 1) _ (rest ++ [128] ++ List.replicate j 0) rfl HS5.out.o ⟨wr.heap.size, 0, none⟩ 1 1 [0] rfl rfl (Rd.new wr [0] _ _) ?c1 HS5.out.s (N + 1) ?c3 (by omega) ?_)
        case c1 => rw [Hlen.out]; have := HN.out; have := Hrn.out; have := Hl.out; have := HZl.out; omega
        case c3 => rw [Hlen.out]
        intro g7 C7 w7 ho7 hg7 hk7
        have e7 : rest ++ 128 :: (List.replicate j (0 : UInt8) ++ [0]) = rest ++ [128] ++ List.replicate (j + 1) 0 := by rw [List.replicate_succ']; simp
        rw [e7] at ho7
        have HS7 := Lib.hid (HS5.out.step ho7 hg7)
        clear e7
        clear ho7 hg7 hk7 t1 t2 r1 r2
        go_wp2_with fail
        have hN := HN.out
        first
        | (go_roundw
           case rel => exact ⟨j + 1, N + 1, g7, C7, by omega, by omega, rfl, HS7.out⟩
           case measure => (first | omega | (simp [intOf] <;> omega) | (simp only [intOf] <;> omega)))
        | exact ⟨⟨j + 1, N + 1, g7, C7, by omega, by omega, rfl, HS7.out⟩, by (first | omega | (simp [intOf] <;> omega) | (simp only [intOf] <;> omega))⟩
        | (refine ⟨?_, by (first | omega | (simp [intOf] <;> omega) | (simp only [intOf] <;> omega))⟩
           (repeat apply Exists.intro)
           refine (fun a b => And.intro b a) ?_ ?_
           · first | rfl | ((repeat refine ⟨rfl, ?_⟩); rfl)
           exact ⟨j + 1, N + 1, g7, C7, by omega, by omega, rfl, HS7.out⟩)
  · rw [hsz]
    have H1 := Lib.hid h1
    have Hw := Lib.hid hw
    have Hsz := Lib.hid hsz
    clear h1 hw hsz
    obtain ⟨Z, hZ⟩ : ∃ Z, zerosW 64 rest.length = Z := ⟨_, rfl⟩
    have HZ := Lib.hid hZ
    have Hpe := Lib.hid (fun j (hj : j ≤ Z) => pad_end 128 112 rest.length Z j (by decide) (by rw [← hZ]; rfl) hj)
    have HZl : Hid (Z < 128) := Lib.hid (by rw [← hZ]; exact Nat.mod_lt _ (by decide))
    clear hZ
    go_wp2_with fail
    as_aux_lemma =>
    go_loopw [5] (fun v wr => ZeIn G (hashC k st n (.slice ra rn rc)) w rest Z v wr) (fun v _ => (rest.length + 1 + Z) - lenV v)
    case atStart => exact ⟨0, N6, g6, C6, Nat.zero_le _, HN6.out.symm, rfl, by simpa using HS6.out⟩
    case round =>
      as_aux_lemma =>
      clear HS6 HN6
      obtain ⟨j, N, g, C, hj, hN, rfl, hS⟩ := hrel
      have HS := Lib.hid hS
      have HN := Lib.hid hN
      have hpe := Hpe.out j hj
      rw [← hN] at hpe
      obtain ⟨R, hR⟩ : ∃ R, N % 128 = R := ⟨_, rfl⟩
      rw [hR] at hpe
      have r2 : (N : Int) % 128 = (R : Int) := by rw [← hR]; rfl
      have r1 : (N : Int).tmod 128 = (R : Int) := by rw [Int.tmod_eq_emod_of_nonneg (by omega)]; exact r2
      clear hR hS
      by_cases hlt : j = Z
      · have hR := hpe.2 hlt
        rw [hR] at r1 r2
        subst hlt
        clear hpe hR hN
        have c1 := HS.out.h.cell (hashC_long k st n (.slice ra rn rc))
        rw [show decide (k ≠ 1) = true from (decide_eq_true H1.out)] at c1
        have c19 := HS.out.h.cell (hashC_n k st n (.slice ra rn rc))
        obtain ⟨NN, hNN⟩ : ∃ NN, n * 8 % 18446744073709551616 = NN := ⟨_, rfl⟩
        have e8 : (n : Int) * 8 = ((n * 8 : Nat) : Int) := by omega
        have s1 : IntKind.u64.wrap ((n : Int) * 8) = (NN : Int) := by rw [e8, wrap64, hNN]
        have s2 : (n : Int) * 8 % 18446744073709551616 = (NN : Int) := by omega
        clear e8
        have HNN := Lib.hid hNN
        have hlen : (rest ++ [128] ++ List.replicate j (0 : UInt8)).length ≤ 140737488351000 := by
          have := Hrn.out; have := Hl.out; have := HZl.out; simp; omega
        have Hlen := Lib.hid hlen
        clear hNN hlen
        go_wp2_with fail
        as_aux_lemma =>
        clear r1 r2 c1
        refine (sput_any (G + 1) _ (rest ++ [128] ++ List.replicate j 0) 8 0 wr HS.out.o (by decide) HS.out.s (by have := Hlen.out; omega)).mono ?_
        rintro e w8 ⟨v9, rfl, ho8, hg8, -⟩
        have HS8 := Lib.hid (HS.out.step ho8 hg8.g)
        have c19 := HS8.out.h.cell (hashC_n k st n (.slice ra rn rc))
        clear ho8 hg8
        have hpq : ∃ L, rest ++ [128] ++ List.replicate j (0 : UInt8) ++ encL 8 true 0 = L ∧ padL (wK k) rest n = L ++ encL 8 true NN ∧ L.length ≤ 140737488351100 := ⟨_, rfl, by
          unfold padL
          rw [Hw.out, if_pos rfl, HZ.out, HNN.out]
          rfl, by rw [List.length_append, encL_length]; have := Hlen.out; omega⟩
        obtain ⟨L, hL, hpad, hLl⟩ := hpq
        rw [hL] at HS8
        have HSq := HS8
        have Hpad := Lib.hid hpad
        have HLl := Lib.hid hLl
        clear hL hpad hLl HS Hlen HNN HZ Hpe HZl hj HS8
        go_wp2_with fail
        as_aux_lemma =>
        clear c19 s1 s2
        refine (sput_any (G + 1) v9 L 8 NN _ HSq.out.o (by decide) HSq.out.s (by have := HLl.out; omega)).mono ?_
        rintro e w10 ⟨v10, rfl, ho10, hg10, -⟩
        have HS10 := Lib.hid (HSq.out.step ho10 hg10.g)
        rw [← Hpad.out] at HS10
        clear ho10 hg10 HSq
        obtain ⟨P, hP⟩ : ∃ P, padL (wK k) rest n = P := ⟨_, rfl⟩
        have HPl : Hid (P.length ≤ 140737488351200 ∧ 0 < P.length) := Lib.hid (by rw [← hP, Hpad.out, List.length_append, encL_length]; have := HLl.out; omega)
        have HP := Lib.hid hP
        rw [hP] at HS10
        clear hP Hpad HLl
        rcases HS10.out.o.cases with ⟨-, h⟩ | ⟨gp, cp, rfl, hgp, -, hcp, hcpm, hcell, -⟩
        · have := HPl.out.2
          rw [h] at this
          cases this
        obtain ⟨ap, cp', he, -, -, hrp⟩ := HS10.out.o.rd
        cases he
        have Hgp := Lib.hid hgp
        have hcp2 := hcp
        have Hrp := Lib.hid hrp
        have Hcp := Lib.hid hcp
        have Hcpm := Lib.hid hcpm
        clear hgp hcp hcp2 hrp hcell hcpm
        go_wp2_with fail
        as_aux_lemma =>
        refine (blocks_any G k st n (.slice ra rn rc) (some ⟨gp, 0, none⟩) P.length cp P w10 Hk.out HS10.out.h Hs.out rfl Hcp.out Hcpm.out Hrp.out (by intro a e; cases e; show gp ≠ G; have := Hgp.out; omega) (Htab.out.below (by rw [HGx.out]; exact HS10.out.b)) (by have := H00.out; have := HGx.out; omega)).mono ?_
        rintro e w11 ⟨bo, c11, rfl, -, -, -, -, -, hH11, hg11⟩
        have HH11 := Lib.hid hH11
        have HB11 := Lib.hid (HS10.out.b.grown hg11 (by have := HS10.out.s; omega) (fun x hx => Nat.le_of_eq (Option.some.inj hx)))
        have Hs11 : Hid (G + 1 ≤ w11.heap.size) := Lib.hid (Nat.le_trans HS10.out.s hg11.size)
        have Hres : Hid (digS k st n rest = (wordsL (wK k) (s8l (goB (wK k) st P).1)).take (digK k)) := Lib.hid (by unfold digS; rw [HP.out])
        clear hH11 hg11 HS10 Hrp Hcp Hcpm Hgp
        generalize (goB (wK k) st P).1 = st2 at *
        go_wp2_with fail
        as_aux_lemma =>
        have hdg := HH11.out.cell (hashC_dig k st2 n (.slice ra rn rc))
        have Hwd := Lib.hid (fun w5 (h : Drn w11 w5) => words_any G k st2 n (.slice ra rn rc) w5 Hk.out (HH11.out.drn h))
        have hd0 : Drn w11 w11.drew := ⟨1, rfl⟩
        have HDG : Hid (∀ w5, Below w11.heap.size w11 w5 → w5.cell? ⟨G, 2, none⟩ = some (.int .i64 (digK k : Int))) := Lib.hid (fun w5 h => cell_later h (HH11.out.cell (hashC_dig k st2 n (.slice ra rn rc))))
        refine wp_region_held_drew (S := fun w' => w'.cell? ⟨G, 2, none⟩ = some (.int .i64 (digK k : Int))) (by kernel_rfl) hdg (fun hHeld => ?_)
        clear hdg
        refine wpAnyH_take (i := 1) (v := ?_) (by simp only [List.getElem?_toArray, List.getElem?_cons_succ, List.getElem?_cons_zero]; rfl) (by kernel_rfl) (by kernel_rfl) (by kernel_rfl) (by intro _ _ _ h_; exact h_) (Or.inl ⟨by rfl, ?_⟩) (by assumption) ?_
        rotate_left 1
        focus (intro w_ hSw_; go_simp; try with_reducible rfl)
        simp only [Act.put, List.setIfInBounds_toArray, List.set_cons_zero, List.set_cons_succ]
        refine wpAnyH_take (i := 2) (v := ?_) (by simp only [List.getElem?_toArray, List.getElem?_cons_succ, List.getElem?_cons_zero]; rfl) (by kernel_rfl) (by kernel_rfl) (by kernel_rfl) (by intro _ _ _ h_; exact h_) (Or.inl ⟨by rfl, ?_⟩) (by assumption) ?_
        rotate_left 1
        focus (intro w_ hSw_; go_simp; try with_reducible rfl)
        simp only [Act.put, List.setIfInBounds_toArray, List.set_cons_zero, List.set_cons_succ]
        refine wpAnyH_take (i := 3) (v := ?_) (by simp only [List.getElem?_toArray, List.getElem?_cons_succ, List.getElem?_cons_zero]; rfl) (by kernel_rfl) (by kernel_rfl) (by kernel_rfl) (by intro _ _ _ h_; exact h_) (Or.inl ⟨by rfl, ?_⟩) (by assumption) ?_
        rotate_left 1
        focus (intro w_ hSw_; go_simp; try with_reducible rfl)
        simp only [Act.put, List.setIfInBounds_toArray, List.set_cons_zero, List.set_cons_succ]
        refine wpAnyH_ready (rs := [0]) (by kernel_rfl) (by simp) ?_
        refine AllReadyH.cons (by simp only [List.getElem?_toArray, List.getElem?_cons_succ, List.getElem?_cons_zero]; rfl) (fun K hK => ?_) AllReadyH.nil
        go_simp
        refine (Hwd.out _ hd0).mono ?_
        rintro e w12 ⟨vw, rfl, how, hbw⟩
        have HOw := Lib.hid how
        have Hbw : Hid (Below w11.heap.size w11 w12) := Lib.hid ((hd0.below _).trans hbw)
        rcases how.cases with ⟨-, h⟩ | ⟨gw, cw, rfl, -, -, hcw, hcwm, -, -⟩
        · have hl8 := wordsL_len (wK k) (s8l st2)
          rw [h] at hl8
          rw [Hw.out] at hl8
          cases hl8
        have Hwl : Hid (digK k ≤ (wordsL (wK k) (s8l st2)).length) := Lib.hid (by
          rw [wordsL_len, s8l_len]
          unfold digK wK
          split
          · decide
          · split <;> decide)
        have hsl := slice_bytes_block byteRow02 (some ⟨gw, 0, none⟩) (wordsL (wK k) (s8l st2)).length cw (digK k) (by have := Hwl.out; omega) .i64
        clear how hbw Hwd hd0 hcw hcwm
        go_wp2_with fail
        refine hK.out _ _ (HDG.out _ Hbw.out) (fun hHeld => ?_)
        clear hK K
        try simp only [Act.put, List.setIfInBounds_toArray, List.set_cons_zero, List.set_cons_succ]
        refine wpAnyH_take (i := 4) (v := ?_) (by simp only [List.getElem?_toArray, List.getElem?_cons_succ, List.getElem?_cons_zero]; rfl) (by kernel_rfl) (by kernel_rfl) (by kernel_rfl) (by intro _ _ _ h_; exact h_) (Or.inl ⟨by rfl, ?_⟩) (by assumption) ?_
        rotate_left 1
        focus (intro w_ hSw_; go_simp; try with_reducible rfl)
        simp only [Act.put, List.setIfInBounds_toArray, List.set_cons_zero, List.set_cons_succ]
        refine wpAnyH_take (i := 5) (v := ?_) (by simp only [List.getElem?_toArray, List.getElem?_cons_succ, List.getElem?_cons_zero]; rfl) (by kernel_rfl) (by kernel_rfl) (by kernel_rfl) (by intro _ _ _ h_; exact h_) (Or.inl ⟨by rfl, ?_⟩) (by assumption) ?_
        rotate_left 1
        focus (intro w_ hSw_; go_simp; try with_reducible rfl)
        simp only [Act.put, List.setIfInBounds_toArray, List.set_cons_zero, List.set_cons_succ]
        refine wpAnyH_done (by kernel_rfl) ?_ _
        go_wp2_with fail
        go_ret
        exact ⟨gw, cw, rfl, by rw [Hres.out]; exact (HOw.out.prefix Hwl.out).mono (by rw [HGx.out]; have := Hs11.out; show G ≤ w11.heap.size; omega), by rw [HGx.out]; exact HB11.out.trans (Hbw.out.mono (by have := Hs11.out; omega))⟩
      · have hRn : ¬ R = 112 := fun h => hlt (hpe.1 h)
        have t1 : ((R : Int) == 112) = false := beq_eq_false_iff_ne.2 (by omega)
        have t2 : ((R : Int) != 112) = true := bne_iff_ne.2 (by omega)
        have HS5 := Lib.hid (HS.out.alloc (.cells #[.int .u8 0] 5))
        have hlen : (rest ++ [128] ++ List.replicate j (0 : UInt8)).length = N := by simp; omega
        have Hlen := Lib.hid hlen
        clear hpe hRn hN hlen
        go_wp2_with (at_builtin; refine wpList_append_at byteRow02 rfl _ _ rfl (G + 1) _ (rest ++ [128] ++ List.replicate j 0) rfl HS5.out.o ⟨wr.heap.size, 0, none⟩ 1 1 [0] rfl rfl (Rd.new wr [0] _ _) ?c1 HS5.out.s (N + 1) ?c3 (by omega) ?_)
        case c1 => rw [Hlen.out]; have := HN.out; have := Hrn.out; have := Hl.out; have := HZl.out; omega
        case c3 => rw [Hlen.out]
        intro g7 C7 w7 ho7 hg7 hk7
        have e7 : rest ++ 128 :: (List.replicate j (0 : UInt8) ++ [0]) = rest ++ [128] ++ List.replicate (j + 1) 0 := by rw [List.replicate_succ']; simp
        rw [e7] at ho7
        have HS7 := Lib.hid (HS5.out.step ho7 hg7)
        clear e7
        clear ho7 hg7 hk7 t1 t2 r1 r2
        go_wp2_with fail
        have hN := HN.out
        first
        | (go_roundw
           case rel => exact ⟨j + 1, N + 1, g7, C7, by omega, by omega, rfl, HS7.out⟩
           case measure => (first | omega | (simp [intOf] <;> omega) | (simp only [intOf] <;> omega)))
        | exact ⟨⟨j + 1, N + 1, g7, C7, by omega, by omega, rfl, HS7.out⟩, by (first | omega | (simp [intOf] <;> omega) | (simp only [intOf] <;> omega))⟩
        | (refine ⟨?_, by (first | omega | (simp [intOf] <;> omega) | (simp only [intOf] <;> omega))⟩
           (repeat apply Exists.intro)
           refine (fun a b => And.intro b a) ?_ ?_
           · first | rfl | ((repeat refine ⟨rfl, ?_⟩); rfl)
           exact ⟨j + 1, N + 1, g7, C7, by omega, by omega, rfl, HS7.out⟩)
end Go.Proofs.YtngkelflfahjbaaDoor
