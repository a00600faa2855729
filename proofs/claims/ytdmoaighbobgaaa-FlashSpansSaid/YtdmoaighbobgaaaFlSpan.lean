/- Bytes that are read out of some blocks: flash.Span. No condition. -/
import Derived.Test.YtdmoaighbobgaaaFl2
namespace Go.Proofs.Ytdmoaighbobgaaa
open Go.RowKit
set_option linter.unusedVariables false
set_option linter.unusedSimpArgs false
/-- m blocks from a on, one behind the other -/
def flat (f : Fl) (a : Nat) : Nat → List UInt8
  | 0 => []
  | m + 1 => flat f a m ++ readF f ((a + m : Nat) : Int)
theorem flat_len {f : Fl} (ho : f.Ok) (a m : Nat) : (flat f a m).length = m * 512 := by
  induction m with
  | zero => rfl
  | succ m ih => rw [flat, List.length_append, ih, readF_len ho]; omega
theorem flat_at {f : Fl} (ho : f.Ok) (a : Nat) {m i r : Nat} (hi : i < m) (hr : r < 512) : (flat f a m)[i * 512 + r]? = (readF f ((a + i : Nat) : Int))[r]? := by
  induction m with
  | zero => omega
  | succ m ih =>
    rw [flat]
    by_cases h : i = m
    · subst h
      rw [List.getElem?_append_right (by rw [flat_len ho]; omega), flat_len ho]
      congr 1; omega
    · rw [List.getElem?_append_left (by rw [flat_len ho]; omega), ih (by omega)]
theorem flat_piece {f : Fl} (ho : f.Ok) (a : Nat) {m t c : Nat} (hi : t / 512 < m) (hc : t % 512 + c ≤ 512) : ((flat f a m).drop t).take c = ((readF f ((a + t / 512 : Nat) : Int)).drop (t % 512)).take c := by
  apply List.ext_getElem?
  intro q
  rw [List.getElem?_take, List.getElem?_take]
  by_cases h : q < c
  · rw [if_pos h, if_pos h, List.getElem?_drop, List.getElem?_drop]
    have e : t + q = t / 512 * 512 + (t % 512 + q) := by omega
    rw [e, flat_at ho a hi (by omega)]
  · rw [if_neg h, if_neg h]
theorem take_more {α : Type} (l : List α) (x k c : Nat) : (l.drop x).take k ++ (l.drop (x + k)).take c = (l.drop x).take (k + c) := by
  rw [List.take_add, List.drop_drop]
structure SpanIn (B p mb n : Nat) (f : Fl) (a m x y g : Nat) (W : World) (o t : Value) (wr : World) : Prop where
  x : ∃ k : Nat, k ≤ y ∧ t = .int .u64 ((x + k : Nat) : Int) ∧ o = .slice (some ⟨g, 0, none⟩) k y ∧ Own 5 wr B (.slice (some ⟨g, 0, none⟩) k y) (((flat f a m).drop x).take k) ∧ Below B W wr ∧ B ≤ wr.heap.size
set_option maxRecDepth 100000 in
set_option maxHeartbeats 400000 in
theorem span_ok (p mb n : Nat) (f : Fl) (a m x y : Nat) (w : World) (h : FlA w p mb n f) (ho : f.Ok) (hoff : f.off = false) (ha : ((a + m : Nat) : Int) ≤ f.size) (hx : x ≤ m * 512) (hy : y ≤ m * 512 - x) (hy1 : y ≤ 131072) :
    Calls Try.prog 19 #[.pointer (some ⟨p, 0, none⟩), .int .i64 (a : Int), .int .i64 (m : Int), .int .u64 (x : Int), .int .u64 (y : Int)] w fun e w' =>
      e = .returned (.tuple #[.slice (some ⟨w.heap.size, 0, none⟩) y y, .int .i64 0]) ∧ Own 5 w' w.heap.size (.slice (some ⟨w.heap.size, 0, none⟩) y y) (((flat f a m).drop x).take y) ∧ Below w.heap.size w w' := by
  have hs0 := ho.s0
  have hs1 := ho.s1
  have hm0 : mayE f 0 = 0 := by unfold mayE; rw [hoff, if_neg (by decide), if_neg (by omega)]
  have hm := mayf_any p mb n f 0 w h
  rw [hm0] at hm
  have Hm := Lib.hid hm
  have hlook := fun (i : Nat) (hi : i < 1048576) => Lib.hid (h.m.look (k := (i : Int)) ⟨by omega, by omega⟩)
  have Hlook := Lib.hid hlook
  have c0 := h.h.cell (i := 0) rfl
  have c1 := h.h.cell (i := 1) rfl
  obtain ⟨i0, hi, hz0, hz1, hz2⟩ := info_parts byteRow.info
  have hcd := Lib.hid (fun (t c : Nat) (h1 : t / 512 < m) (h2 : t % 512 + c ≤ 512) => flat_piece ho a h1 h2)
  have hrl := Lib.hid (fun k => readF_len ho k)
  obtain ⟨s, hs⟩ : ∃ s : Nat, f.size = s := ⟨f.size.toNat, by omega⟩
  rw [hs] at hs0 hs1 ha
  have hcs : f.cells mb = [.int .i64 s, .map (some mb), .bool f.off, .int .i64 f.left, .bool f.done, .int .i64 f.writes] := by unfold Fl.cells; rw [hs]
  change _ = some (Value.int .i64 f.size) at c0
  change _ = some (Value.map (some mb)) at c1
  rw [hs] at c0
  have e2 : ¬ ((s : Int) < (a : Int)) := by omega
  have e3 : ¬ ((s : Int) - (a : Int) < (m : Int)) := by omega
  have e4 : IntKind.u64.wrap (m : Int) = (m : Int) := IntWalk.u64_in _ (by omega)
  obtain ⟨M, hM⟩ : ∃ M : Nat, m * 512 = M := ⟨_, rfl⟩
  rw [hM] at hx hy
  have hM1 : M ≤ 536870912 := by omega
  have e5 : IntKind.u64.wrap ((m : Int) * 512) = (M : Int) := by rw [IntWalk.u64_in _ (by omega)]; omega
  have e6 : ¬ ((M : Int) < (x : Int)) := by omega
  have e7 : IntKind.u64.wrap ((M : Int) - (x : Int)) = (M : Int) - (x : Int) := IntWalk.u64_in _ (by omega)
  have e8 : ¬ ((M : Int) - (x : Int) < (y : Int)) := by omega
  have e9 : ¬ ((131072 : Int) < (y : Int)) := by omega
  have HM := Lib.hid hM
  have Hx := Lib.hid hx
  have Hy := Lib.hid hy
  have Ha := Lib.hid ha
  clear hM hx hy ha
  have H := Lib.hid h
  have Hs := Lib.hid hs
  clear hm hm0 hlook Hlook h ho hoff hs hcs
  go_enter Try.func19, Try.ntmps19
  go_wp2_with fail
  refine Hm.out.mono ?_
  rintro e w' ⟨rfl, rfl⟩
  go_wp2_with (at_make; refine wpList_make_own _ rfl _ _ 30 rfl w.heap.size 5 i0 (.int .u8 0) 1 Try.underlying30 hi hz0 hz1 _ _ _ y rfl rfl rfl ?c2 ?c3 ?c4 ?_)
  case c2 => rw [hz2]; omega
  case c3 => simp only [maxLen]; omega
  case c4 => exact Nat.le_refl _
  intro w1 hown hgr
  have hb : Below w.heap.size w w1 := (Below.refl _ _).grown hgr (Nat.le_refl _) (by intro k hk; cases hk)
  have hoo : Own 5 w1 w.heap.size (.slice (some ⟨w.heap.size, 0, none⟩) 0 y) (((flat f a m).drop x).take 0) := hown
  have hsz := hb.size
  have e10 : IntKind.u64.wrap ((x : Int) + (y : Int)) = ((x + y : Nat) : Int) := by have := Hx.out; rw [IntWalk.u64_in _ (by omega)]; omega
  obtain ⟨E, hE⟩ : ∃ E : Nat, x + y = E := ⟨_, rfl⟩
  rw [hE] at e10
  have HE := Lib.hid hE
  clear hown hgr hE hy1 c0 c1 e2 e3 e4 e5 e6 e7 e8 e9
  go_wp2_with fail
  go_loopw [14, 15, 16, 17, 18] (fun o t _ _ _ wr => SpanIn w.heap.size p mb n f a m x y w.heap.size w o t wr) (fun _ t _ _ _ _ => E - (intOf t).toNat)
  case atStart => exact ⟨0, by omega, rfl, rfl, hoo, hb, hsz⟩
  case round =>
    clear hoo hb hsz
    obtain ⟨k, hk, rfl, rfl, hoo, hb, hsz⟩ := hrel
    obtain ⟨t, ht⟩ : ∃ t : Nat, x + k = t := ⟨_, rfl⟩
    rw [ht]
    have Ht := Lib.hid ht
    have Hoo := Lib.hid hoo
    clear ht hoo
    by_cases hlt : k < y
    · have l0 : (t : Int) < (E : Int) := by have := HE.out; have := Ht.out; omega
      have tM : t < M := by have := Hy.out; have := Ht.out; omega
      obtain ⟨d, hd⟩ : ∃ d : Nat, t / 512 = d := ⟨_, rfl⟩
      obtain ⟨r, hr⟩ : ∃ r : Nat, t % 512 = r := ⟨_, rfl⟩
      obtain ⟨I, hI⟩ : ∃ I : Nat, a + d = I := ⟨_, rfl⟩
      have dm : d < m := by have := HM.out; omega
      have r512 : r < 512 := by omega
      have f1 : (t : Int).tdiv 512 = (d : Int) := by rw [Int.tdiv_eq_ediv_of_nonneg (by omega)]; omega
      have f2 : (t : Int) / 512 = (d : Int) := by omega
      have f3 : (t : Int).tmod 512 = (r : Int) := by rw [Int.tmod_eq_emod_of_nonneg (by omega)]; omega
      have f4 : (t : Int) % 512 = (r : Int) := by omega
      have hI1 : I < 1048576 := by have := Ha.out; omega
      have f5 : (a : Int) + (d : Int) = (I : Int) := by omega
      have f6 : (0 : Int) ≤ I := by omega
      have f7 : (0 : Int) ≤ d := by omega
      have f8 : (0 : Int) ≤ t := by omega
      have hla := H.out.later hb
      have c1 := hla.h.cell (i := 1) rfl
      change _ = some (Value.map (some mb)) at c1
      have hlook := hla.m.look (k := (I : Int)) ⟨by omega, by omega⟩
      have Hlen := Lib.hid (hrl.out (I : Int))
      have Hpc := Lib.hid (fun (c : Nat) (h : r + c ≤ 512) => by have := hcd.out t c (by rw [hd]; exact dm) (by rw [hr]; exact h); rw [hd, hr, hI] at this; exact this)
      change _ = Result.ok (blkV (readF f (I : Int))) wr at hlook
      generalize readF f (I : Int) = L at *
      have hN := Lib.hid (HB.new wr (zero512.map bv) 70)
      have hall := Lib.hid (oneB L)
      have hib : Hid ((Try.prog.info? 70).map (·.size) = some (L.map bv).toArray.size) := Lib.hid (by rw [List.size_toArray, List.length_map, Hlen.out]; exact infoB)
      have hszb : Hid ((zero512.map bv).toArray.size = (L.map bv).toArray.size) := Lib.hid (by rw [List.size_toArray, List.size_toArray, List.length_map, List.length_map, Hlen.out, zero512_len])
      unfold blkV at hlook
      have hz' : ∀ w, (zeroValue 70).run Try.prog w = .ok (.agg (zero512.map bv).toArray) w := zeroBlk
      have Hd := Lib.hid hd
      have Hr := Lib.hid hr
      have HI := Lib.hid hI
      have Hf5 := Lib.hid hla
      clear hd hr hI hla
      obtain ⟨R, hR⟩ : ∃ R : Nat, R + t = r + E := ⟨r + E - t, by have := HE.out; have := Ht.out; omega⟩
      have rR : r ≤ R := by have := HE.out; have := Ht.out; omega
      have hEM : E ≤ M := by have := HE.out; have := Hy.out; omega
      have g1 : IntKind.u64.wrap ((r : Int) + (x : Int) + (y : Int) - (t : Int)) = (R : Int) := by have := HE.out; rw [IntWalk.u64_in _ (by omega)]; omega
      have g2 : IntKind.u64.wrap ((r : Int) + (x : Int)) = (r : Int) + (x : Int) := IntWalk.u64_in _ (by have := HE.out; omega)
      have g3 : IntKind.u64.wrap ((r : Int) + (x : Int) + (y : Int)) = (r : Int) + (x : Int) + (y : Int) := IntWalk.u64_in _ (by have := HE.out; omega)
      have HR := Lib.hid hR
      clear hR hEM
      by_cases hR5 : 512 ≤ R
      · have q1 : (512 : Int) ≤ (R : Int) := by omega
        have q2 : ¬ ((R : Int) < 512) := by omega
        obtain ⟨off, hsl, hoff⟩ := slice_array (P := Try.prog) (T := 70) 512 Try.underlying70 (by kernel_rfl) wr.heap.size 0 r 512 (by omega) (by omega)
        obtain rfl : off = r := by rw [hoff r512]; omega
        obtain ⟨c, hc⟩ : ∃ c : Nat, 512 - off = c := ⟨_, rfl⟩
        rw [hc] at hsl
        have hsl' := fun w => hsl w .u64 .u64
        push_cast at hsl'
        have Hc := Lib.hid hc
        clear hsl hoff hc
        have hkc : k + c ≤ y := by have := HE.out; have := Ht.out; have := HR.out; have := Hc.out; omega
        have hc5 : off + c ≤ 512 := by have := Hc.out; omega
        have hW2 : Hid (HB ((wr.alloc (.cells (zero512.map bv).toArray 70)).setRow wr.heap.size (L.map bv).toArray) wr.heap.size 70 (L.map bv)) := Lib.hid (setRow_heap _ _ _ _ _ _ hN.out)
        have hB2 : Hid (Below wr.heap.size wr ((wr.alloc (.cells (zero512.map bv).toArray 70)).setRow wr.heap.size (L.map bv).toArray)) := Lib.hid (((Below.refl _ wr).alloc (Nat.le_refl _) (.cells (zero512.map bv).toArray 70)).trans ⟨rfl, rfl, rfl, by simp, fun k hk => setRow_other _ _ _ _ (by omega)⟩)
        have hPl : Hid (((L.drop off).take c).length = c) := Lib.hid (by have := Hlen.out; simp; omega)
        have hPr : Hid (Rd ((wr.alloc (.cells (zero512.map bv).toArray 70)).setRow wr.heap.size (L.map bv).toArray) (some ⟨wr.heap.size, off, none⟩) ((L.drop off).take c)) := Lib.hid fun j hj => ⟨wr.heap.size, off, rfl, by
          rw [hPl.out] at hj
          have hl := Hlen.out
          refine hW2.out.cell ?_
          rw [List.getElem?_map, List.getElem?_take, if_pos hj, List.getElem?_drop, List.getElem?_eq_getElem (show off + j < L.length by omega)]
          rfl⟩
        have hOw := Lib.hid (Hoo.out.later hB2.out)
        go_wp2_with (first | (at_builtin; refine wpList_append_fit byteRow rfl _ _ rfl w.heap.size w.heap.size k y _ rfl hOw.out ⟨wr.heap.size, off, none⟩ c _ _ rfl hPl.out hPr.out (k + c) rfl hkc ?_) | (refine wpList_store_row rfl _ _ _ rfl wr.heap.size (L.map bv).toArray rfl rfl _ _ hN.out hib.out hszb.out hall.out ?_))
        intro w3 ho3 hg3
        have hcp : 0 < c := by have := Hc.out; have := HR.out; omega
        have HO3 : Hid (Own 5 w3 w.heap.size (.slice (some ⟨w.heap.size, 0, none⟩) (k + c) y) (((flat f a m).drop x).take (k + c))) := Lib.hid (by
          have h1 := Hpc.out c hc5
          rw [← Ht.out] at h1
          rw [← h1, take_more] at ho3
          exact ho3)
        have HB3 := Lib.hid ((hb.trans (hB2.out.mono hsz)).grown hg3 (Nat.le_trans hsz (by simp)) (by intro q hq; have e1 : w.heap.size = q := Option.some.inj hq; omega))
        have hs3 : w.heap.size ≤ w3.heap.size := HB3.out.size
        have q5 : IntKind.u64.wrap ((t : Int) + (c : Int)) = (t : Int) + (c : Int) := IntWalk.u64_in _ (by have := HM.out; omega)
        have q6 : IntKind.u64.wrap (c : Int) = (c : Int) := IntWalk.u64_in _ (by omega)
        clear ho3 hg3 hb hlook hsl'
        go_wp2_with fail
        first
        | (go_roundw
           case rel => exact ⟨k + c, hkc, by rw [show ((x + (k + c) : Nat) : Int) = (t : Int) + (c : Int) by have := Ht.out; omega], rfl, HO3.out, HB3.out, hs3⟩
           case measure => (first | omega | (simp [intOf] <;> omega) | (simp only [intOf] <;> omega)))
        | exact ⟨⟨k + c, hkc, by rw [show ((x + (k + c) : Nat) : Int) = (t : Int) + (c : Int) by have := Ht.out; omega], rfl, HO3.out, HB3.out, hs3⟩, by (first | omega | (simp [intOf] <;> omega) | (simp only [intOf] <;> omega))⟩
        | (refine ⟨?_, by (first | omega | (simp [intOf] <;> omega) | (simp only [intOf] <;> omega))⟩
           (repeat apply Exists.intro)
           refine (fun a b => And.intro b a) ?_ ?_
           · first | rfl | ((repeat refine ⟨rfl, ?_⟩); rfl)
           exact ⟨k + c, hkc, by rw [show ((x + (k + c) : Nat) : Int) = (t : Int) + (c : Int) by have := Ht.out; omega], rfl, HO3.out, HB3.out, hs3⟩)
      · have q1 : (R : Int) < 512 := by omega
        have q2 : ¬ ((512 : Int) ≤ (R : Int)) := by omega
        obtain ⟨off, hsl, hoff⟩ := slice_array (P := Try.prog) (T := 70) 512 Try.underlying70 (by kernel_rfl) wr.heap.size 0 r R (by omega) (by omega)
        obtain rfl : off = r := by rw [hoff r512]; omega
        obtain ⟨c, hc⟩ : ∃ c : Nat, R - off = c := ⟨_, rfl⟩
        rw [hc] at hsl
        have hsl' := fun w => hsl w .u64 .u64
        push_cast at hsl'
        have Hc := Lib.hid hc
        clear hsl hoff hc
        have hkc : k + c ≤ y := by have := HE.out; have := Ht.out; have := HR.out; have := Hc.out; omega
        have hc5 : off + c ≤ 512 := by have := Hc.out; omega
        have hW2 : Hid (HB ((wr.alloc (.cells (zero512.map bv).toArray 70)).setRow wr.heap.size (L.map bv).toArray) wr.heap.size 70 (L.map bv)) := Lib.hid (setRow_heap _ _ _ _ _ _ hN.out)
        have hB2 : Hid (Below wr.heap.size wr ((wr.alloc (.cells (zero512.map bv).toArray 70)).setRow wr.heap.size (L.map bv).toArray)) := Lib.hid (((Below.refl _ wr).alloc (Nat.le_refl _) (.cells (zero512.map bv).toArray 70)).trans ⟨rfl, rfl, rfl, by simp, fun k hk => setRow_other _ _ _ _ (by omega)⟩)
        have hPl : Hid (((L.drop off).take c).length = c) := Lib.hid (by have := Hlen.out; simp; omega)
        have hPr : Hid (Rd ((wr.alloc (.cells (zero512.map bv).toArray 70)).setRow wr.heap.size (L.map bv).toArray) (some ⟨wr.heap.size, off, none⟩) ((L.drop off).take c)) := Lib.hid fun j hj => ⟨wr.heap.size, off, rfl, by
          rw [hPl.out] at hj
          have hl := Hlen.out
          refine hW2.out.cell ?_
          rw [List.getElem?_map, List.getElem?_take, if_pos hj, List.getElem?_drop, List.getElem?_eq_getElem (show off + j < L.length by omega)]
          rfl⟩
        have hOw := Lib.hid (Hoo.out.later hB2.out)
        go_wp2_with (first | (at_builtin; refine wpList_append_fit byteRow rfl _ _ rfl w.heap.size w.heap.size k y _ rfl hOw.out ⟨wr.heap.size, off, none⟩ c _ _ rfl hPl.out hPr.out (k + c) rfl hkc ?_) | (refine wpList_store_row rfl _ _ _ rfl wr.heap.size (L.map bv).toArray rfl rfl _ _ hN.out hib.out hszb.out hall.out ?_))
        intro w3 ho3 hg3
        have hcp : 0 < c := by have := Hc.out; have := HR.out; omega
        have HO3 : Hid (Own 5 w3 w.heap.size (.slice (some ⟨w.heap.size, 0, none⟩) (k + c) y) (((flat f a m).drop x).take (k + c))) := Lib.hid (by
          have h1 := Hpc.out c hc5
          rw [← Ht.out] at h1
          rw [← h1, take_more] at ho3
          exact ho3)
        have HB3 := Lib.hid ((hb.trans (hB2.out.mono hsz)).grown hg3 (Nat.le_trans hsz (by simp)) (by intro q hq; have e1 : w.heap.size = q := Option.some.inj hq; omega))
        have hs3 : w.heap.size ≤ w3.heap.size := HB3.out.size
        have q5 : IntKind.u64.wrap ((t : Int) + (c : Int)) = (t : Int) + (c : Int) := IntWalk.u64_in _ (by have := HM.out; omega)
        have q6 : IntKind.u64.wrap (c : Int) = (c : Int) := IntWalk.u64_in _ (by omega)
        clear ho3 hg3 hb hlook hsl'
        go_wp2_with fail
        first
        | (go_roundw
           case rel => exact ⟨k + c, hkc, by rw [show ((x + (k + c) : Nat) : Int) = (t : Int) + (c : Int) by have := Ht.out; omega], rfl, HO3.out, HB3.out, hs3⟩
           case measure => (first | omega | (simp [intOf] <;> omega) | (simp only [intOf] <;> omega)))
        | exact ⟨⟨k + c, hkc, by rw [show ((x + (k + c) : Nat) : Int) = (t : Int) + (c : Int) by have := Ht.out; omega], rfl, HO3.out, HB3.out, hs3⟩, by (first | omega | (simp [intOf] <;> omega) | (simp only [intOf] <;> omega))⟩
        | (refine ⟨?_, by (first | omega | (simp [intOf] <;> omega) | (simp only [intOf] <;> omega))⟩
           (repeat apply Exists.intro)
           refine (fun a b => And.intro b a) ?_ ?_
           · first | rfl | ((repeat refine ⟨rfl, ?_⟩); rfl)
           exact ⟨k + c, hkc, by rw [show ((x + (k + c) : Nat) : Int) = (t : Int) + (c : Int) by have := Ht.out; omega], rfl, HO3.out, HB3.out, hs3⟩)
    · obtain rfl : k = y := by omega
      have l0 : ¬ ((t : Int) < (E : Int)) := by have := HE.out; have := Ht.out; omega
      go_wp2_with fail
      go_ret2
      exact ⟨rfl, Hoo.out, hb⟩
set_option maxRecDepth 100000 in
set_option maxHeartbeats 400000 in
theorem span_long (p mb n : Nat) (f : Fl) (a m x y : Nat) (w : World) (h : FlA w p mb n f) (ho : f.Ok) (hoff : f.off = false) (ha : ((a + m : Nat) : Int) ≤ f.size) (hx : x ≤ m * 512) (hy : m * 512 < x + y) :
    Calls Try.prog 19 #[.pointer (some ⟨p, 0, none⟩), .int .i64 (a : Int), .int .i64 (m : Int), .int .u64 (x : Int), .int .u64 (y : Int)] w fun e w' =>
      e = .returned (.tuple #[.slice none 0 0, .int .i64 142]) ∧ w = w' := by
  have hs0 := ho.s0
  have hs1 := ho.s1
  have hm0 : mayE f 0 = 0 := by unfold mayE; rw [hoff, if_neg (by decide), if_neg (by omega)]
  have hm := mayf_any p mb n f 0 w h
  rw [hm0] at hm
  have Hm := Lib.hid hm
  have c0 := h.h.cell (i := 0) rfl
  obtain ⟨s, hs⟩ : ∃ s : Nat, f.size = s := ⟨f.size.toNat, by omega⟩
  rw [hs] at hs0 hs1 ha
  change _ = some (Value.int .i64 f.size) at c0
  rw [hs] at c0
  have e2 : ¬ ((s : Int) < (a : Int)) := by omega
  have e3 : ¬ ((s : Int) - (a : Int) < (m : Int)) := by omega
  have e4 : IntKind.u64.wrap (m : Int) = (m : Int) := IntWalk.u64_in _ (by omega)
  obtain ⟨M, hM⟩ : ∃ M : Nat, m * 512 = M := ⟨_, rfl⟩
  rw [hM] at hx hy
  have hM1 : M ≤ 536870912 := by omega
  have e5 : IntKind.u64.wrap ((m : Int) * 512) = (M : Int) := by rw [IntWalk.u64_in _ (by omega)]; omega
  have e6 : ¬ ((M : Int) < (x : Int)) := by omega
  have e7 : IntKind.u64.wrap ((M : Int) - (x : Int)) = (M : Int) - (x : Int) := IntWalk.u64_in _ (by omega)
  have e8 : (M : Int) - (x : Int) < (y : Int) := by omega
  clear hm hm0 h ho hoff hs hM hx hy ha
  go_enter Try.func19, Try.ntmps19
  go_wp2_with fail
  refine Hm.out.mono ?_
  rintro e w' ⟨rfl, rfl⟩
  go_wp2_with fail
  go_ret2
  exact ⟨rfl, rfl⟩
end Go.Proofs.Ytdmoaighbobgaaa
