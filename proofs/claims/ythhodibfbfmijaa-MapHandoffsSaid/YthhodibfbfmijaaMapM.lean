/- Place of memmap. No condition. -/
import Derived.Test.YthhodibfbfmijaaMapK
set_option linter.unusedVariables false
set_option linter.unusedSimpArgs false
namespace Go.Proofs.Ythhodibfbfmijaa
open Go.RowKit Go.Maps
theorem cand_nil {a c : Nat} : Cand [] a c ↔ c = 1073741824 := by
  constructor
  · rintro (h | ⟨t, ht, _⟩)
    · exact h
    · cases ht
  · exact Or.inl
theorem cand_skip {l : List Rg} {a k c : Nat} (h : k < l.length) (hn : ¬ ((gAt l k).base < 1073807360 ∧ (gAt l k).size < 1073807360 - (gAt l k).base)) : Cand (l.take (k + 1)) a c ↔ Cand (l.take k) a c := by
  rw [take_snocG l k h]
  unfold Cand
  constructor
  · rintro (h | ⟨t, ht, h1, h2, h3⟩)
    · exact Or.inl h
    · rcases List.mem_append.1 ht with ht | ht
      · exact Or.inr ⟨t, ht, h1, h2, h3⟩
      · rw [List.mem_singleton] at ht; subst ht; exact absurd ⟨h1, h2⟩ hn
  · rintro (h | ⟨t, ht, h1, h2, h3⟩)
    · exact Or.inl h
    · exact Or.inr ⟨t, List.mem_append_left _ ht, h1, h2, h3⟩
theorem cand_add {l : List Rg} {a k c : Nat} (h : k < l.length) (hn : (gAt l k).base < 1073807360 ∧ (gAt l k).size < 1073807360 - (gAt l k).base) : Cand (l.take (k + 1)) a c ↔ (Cand (l.take k) a c ∨ c = behind (gAt l k) a) := by
  rw [take_snocG l k h]
  unfold Cand
  constructor
  · rintro (h | ⟨t, ht, h1, h2, h3⟩)
    · exact Or.inl (Or.inl h)
    · rcases List.mem_append.1 ht with ht | ht
      · exact Or.inl (Or.inr ⟨t, ht, h1, h2, h3⟩)
      · rw [List.mem_singleton] at ht; subst ht; exact Or.inr h3
  · rintro ((h | ⟨t, ht, h1, h2, h3⟩) | h)
    · exact Or.inl h
    · exact Or.inr ⟨t, List.mem_append_left _ ht, h1, h2, h3⟩
    · exact Or.inr ⟨_, List.mem_append_right _ (by simp), hn.1, hn.2, h⟩
theorem behind_mask {t : Rg} {a : Nat} (hp : Pow2 a) (ha : a ≤ 65536) (h1 : t.base < 1073807360) (h2 : t.size < 1073807360 - t.base) :
    bits BinOp.andNot IntKind.u64 ((t.base : Int) + (t.size : Int) + (a : Int) - 1) ((a : Int) - 1) = (behind t a : Int) ∧ behind t a < 18446744073709551616 := by
  obtain ⟨j, rfl⟩ := hp
  have h0 := Nat.two_pow_pos j
  have hj : j < 64 := by
    rcases Nat.lt_or_ge j 64 with h | h
    · exact h
    · have := Nat.pow_le_pow_right (show 0 < 2 by decide) h; omega
  have e := up_mask (t.base + t.size + 2 ^ j - 1) j (by omega) hj
  have e1 : ((t.base : Int) + (t.size : Int) + ((2 ^ j : Nat) : Int) - 1) = ((t.base + t.size + 2 ^ j - 1 : Nat) : Int) := by omega
  have e2 : ((2 ^ j : Nat) : Int) - 1 = ((2 ^ j - 1 : Nat) : Int) := by omega
  rw [e1, e2, e]
  refine ⟨rfl, ?_⟩
  have := Nat.div_mul_le_self (t.base + t.size + 2 ^ j - 1) (2 ^ j)
  unfold behind upN
  omega
abbrev MapAt (w : World) (b n : Nat) (D : DataW Unit) : Prop := w.ownsMap Try.prog 59 (plainElem Try.prog 4) b n D
theorem below_of_grown {a c : World} (h : a.grownBy c none) : Below a.heap.size a c := ⟨h.os, h.tape, h.output, h.size, fun k hk => h.block k hk (by simp)⟩
theorem grown_of_below {a c : World} (h : Below a.heap.size a c) (row : Option Nat) : a.grownBy c row := ⟨h.os, h.tape, h.output, h.size, fun k hk _ => h.block k hk⟩
theorem Blk.grown {w w' : World} {b : Nat} {cs : List Value} {row : Option Nat} (h : Blk w b cs) (hg : w.grownBy w' row) (hne : some b ≠ row) : Blk w' b cs :=
  ⟨Nat.lt_of_lt_of_le h.1 hg.size, fun k v hk => by rw [World.cell?_of_block (w := w) (a := ⟨b, k, none⟩) (hg.block b h.1 hne)]; exact h.2.1 k v hk, fun k => by rw [World.frozen?_of_block (w := w) (a := ⟨b, k, none⟩) (hg.block b h.1 hne)]; exact h.2.2 k⟩
theorem grownBy_set (W : World) (b k : Nat) (v : Value) : W.grownBy (W.setCell ⟨b, k, none⟩ v) (some b) :=
  ⟨rfl, rfl, rfl, by simp [World.setCell], fun i hi hne => Below.heap_setCell W ⟨b, k, none⟩ v i (fun e => hne (by rw [e]))⟩
structure BestIn (l : List Rg) (n a : Nat) (w1 : World) (g r : Nat) (D : DataW Unit) (wr : World) : Prop where
  x : ∃ (left : Lit → Bool) (cnt bb sz : Nat), wr.ranges Try.prog 59 (plainElem Try.prog 4) w1.heap.size r (l.length + 1) D left cnt ∧ Blk wr g [.int .u64 bb, .int .u64 sz] ∧
    ((bb = 1073807360 ∧ sz = 0) ∨ (inR bb n = true ∧ freeR l bb n = true ∧ bb % a = 0 ∧ sz = n)) ∧
    (∀ c, Cand l a c → c < 18446744073709551616 → left (kp c n) = false → inR c n = true → freeR l c n = true → bb ≤ c) ∧ (∀ kl, left kl = true → Maps.has D kl = true) ∧ Below w1.heap.size w1 wr
theorem left_step {left : Lit → Bool} {n c c' : Nat} (hn : n < 18446744073709551616) (hc : c < 18446744073709551616) (hc' : c' < 18446744073709551616) (h : (left (kp c' n) && !(kp c' n).sameKey (kp c n)) = false) : left (kp c' n) = false ∨ c' = c := by
  cases hl : left (kp c' n)
  · exact Or.inl rfl
  · rw [hl, Bool.true_and, Bool.not_eq_false'] at h
    exact Or.inr (kp_inj hc' hn hc hn (WideAt.sameKey_eq h)).1
structure FillIn (l : List Rg) (n a : Nat) (w1 : World) (i : Value) (wr : World) : Prop where
  x : ∃ (k : Nat) (D : DataW Unit), k ≤ l.length ∧ i = .int .i64 k ∧ Below w1.heap.size w1 wr ∧ MapAt wr w1.heap.size (k + 1) D ∧ Holds D (Cand (l.take k) a) n
set_option maxHeartbeats 1000000 in
theorem place_ok (ao : Option Addr) (len cap : Nat) (l : List Rg) (i : Int) (n a : Nat) (s wb x : Bool) (w : World) (hl : l.length = len) (h16 : ¬ 16 ≤ len) (hr : RdG w ao l) (hok : RgsOk l) (he : wantE n a wb x = 0) :
    Calls Try.prog 11 #[.slice ao len cap, wv i n a s wb x] w fun e w' => e = .returned (.tuple #[rgv (plR l n a s wb x).1, .int .i64 (plR l n a s wb x).2]) ∧ Below w.heap.size w w' := by
  have HB0 : ∀ o1 o2, Hid (Below w.heap.size w ((w.alloc o1).alloc o2)) := fun o1 o2 => Lib.hid (((Below.refl _ w).alloc (Nat.le_refl _) o1).alloc (by simp) o2)
  have HC1 := fun o2 => Lib.hid ((Blk.new w [.int .i64 i, .int .u64 n, .int .u64 a, .bool s, .bool wb, .bool x] 26).alloc o2)
  have HC2 := fun o1 => Lib.hid (Blk.new1 w o1 [.int .u64 0, .int .u64 0, .bool false, .bool false, .bool false, .bool false] 30)
  obtain ⟨hn0, hn1, ha0, ha1, hpa, hwx⟩ := wantE_ok he
  have Hlo := fun m h => Lib.hid (plR_some (l := l) (s := s) (m := m) (by omega) he h)
  have Hno := fun h => Lib.hid (plR_none (l := l) (s := s) (by omega) he h)
  have Hm := fun w => Lib.hid (wrong_any i n a s wb x w (by omega))
  rw [he] at Hm
  have hmm := @run_makeMap Try.prog
  have Hpa := Lib.hid hpa
  clear hpa hwx he
  unfold wv at *
  unfold rgv
  go_enter Try.func11, Try.ntmps11
  go_wp2_with fail
  refine (Hm _).out.mono ?_
  rintro e w1 ⟨rfl, hb1⟩
  have hB := (HB0 _ _).out.trans (hb1.mono (HB0 _ _).out.size)
  have hC2 := (HC2 _).out.below hb1
  have hC1 := (HC1 _).out.below hb1
  clear hb1 HC1 HC2 HB0
  have hr1 := hr.below hB
  clear hr
  have b1 := fun o => (hC1.alloc o).2.1 1 _ rfl
  have hM0 : MapAt (w1.alloc (.map #[] 0)) w1.heap.size 0 (.map []) := World.ownsMap_made _ _ _ _
  have hH0 := Lib.hid ((holds_empty n).put (c := 1073741824) (by omega) (by omega) (.lit (.bool true)))
  have hkey := Lib.hid (show keyOf Try.prog 59 (.agg #[.int .u64 1073741824, .int .u64 n]) = some (kp 1073741824 n) from keyOf_pc (b := 1073741824) (n := n) (by omega) (by omega))
  have hval := Lib.hid (plainElem_bool (H := Unit) Try.underlying4 true)
  go_wp2_with (refine wpList_insert_own _ rfl _ _ _ _ rfl 59 4 pieceLaw Try.underlying60 _ w1.heap.size 0 _ rfl hM0 (by decide) _ _ (kp 1073741824 n) rfl rfl hkey.out _ [] hval.out ?_; intro w2 hM hg2)
  have hb2 : Below w1.heap.size w1 w2 := ((Below.refl _ _).alloc (Nat.le_refl _) _).grown hg2 (by simp) (by intro k hk; cases hk; exact Nat.le_refl _)
  have Hmask := fun (t : Rg) h1 h2 => Lib.hid (behind_mask (t := t) Hpa.out ha1 h1 h2)
  clear b1 hM0 hkey hg2
  subst hl
  go_wp2_with fail
  go_loopw [9, 10, 31] (fun _ _ i wr => FillIn l n a w1 i wr) (fun _ _ i _ => l.length - (intOf i).toNat)
  case atStart => exact ⟨0, _, by omega, rfl, hb2, hM, hH0.out.congr fun c => by rw [List.take_zero, cand_nil]; simp⟩
  case round =>
    clear hM hb2 hH0
    obtain ⟨k, D, hk, rfl, hbr, hM, hH⟩ := hrel
    have HH := Lib.hid hH
    clear hH
    have hrr := hr1.below hbr
    have b1 := fun o => ((hC1.below hbr).alloc o).2.1 1 _ rfl
    have b2 := fun o => ((hC1.below hbr).alloc o).2.1 2 _ rfl
    by_cases hlt : k < l.length
    · obtain ⟨bb, off, rfl, -, hc⟩ := hrr k hlt
      have hgok := Lib.hid (hok _ (gAt_mem hlt))
      have c0 := hc 0 _ rfl
      have c1 := hc 1 _ rfl
      have c2 := hc 2 _ rfl
      have c3 := hc 3 _ rfl
      have c4 := hc 4 _ rfl
      have c5 := hc 5 _ rfl
      clear hc hrr
      simp only [Nat.add_zero] at c0
      have hskip := Lib.hid (fun c => cand_skip (a := a) (c := c) hlt)
      have hadd := Lib.hid (fun c => cand_add (a := a) (c := c) hlt)
      have Hmk := Hmask (gAt l k)
      generalize gAt l k = t at *
      obtain ⟨gb, gn, gr, gw, gx, gs⟩ := t
      have e0 : (0 : Int) ≤ (k : Int) := by omega
      have e1 : (k : Int) < (l.length : Int) := by omega
      have hbl := hbr.alloc hbr.size
      have hG0 : (0 : Int) ≤ (gb : Int) := by omega
      have hN0 : (0 : Int) ≤ (gn : Int) := by omega
      by_cases hc1 : (gb : Int) < 1073807360
      · by_cases hc2 : (gn : Int) < 1073807360 - gb
        · obtain ⟨hq, hq64⟩ := (Hmk (by simp only; omega) (by simp only; omega)).out
          have hS := fun (D' : DataW Unit) (h : Holds D' (fun c => Cand (l.take k) a c ∨ c = behind ⟨gb, gn, gr, gw, gx, gs⟩ a) n) => Lib.hid (h.congr fun c => (hadd.out c ⟨by simp only; omega, by simp only; omega⟩).symm)
          have hput := Lib.hid (HH.out.put hq64 (by omega) (.lit (.bool true)))
          have hkey := Lib.hid (show keyOf Try.prog 59 (.agg #[.int .u64 (behind ⟨gb, gn, gr, gw, gx, gs⟩ a : Nat), .int .u64 n]) = some (kp (behind ⟨gb, gn, gr, gw, gx, gs⟩ a) n) from keyOf_pc hq64 (by omega))
          have hS2 := Lib.hid (hS _ hput.out).out
          simp only at hq
          clear hskip hadd Hmk HH hS hput hq64
          generalize behind ⟨gb, gn, gr, gw, gx, gs⟩ a = q at *
          generalize (gb : Int) = G at *
          generalize (gn : Int) = N at *
          go_wp2_with (at_mapUpdate; refine wpList_mapUpdate_own _ rfl _ _ _ _ rfl 59 4 pieceLaw Try.underlying60 _ w1.heap.size (k + 1) _ rfl (hM.alloc _) (by simp only [maxLen]; omega) _ _ (kp q n) rfl rfl hkey.out _ [] hval.out ?_; intro w3 hM3 hg3)
          have hb3 : Below w1.heap.size w1 w3 := (hbl _).grown hg3 (by have := hbr.size; simp; omega) (by intro k hk; cases hk; exact Nat.le_refl _)
          clear hg3 hM hbr hbl
          go_wp2_with fail
          first
          | (go_roundw
             case rel => exact ⟨k + 1, _, by omega, by go_num, hb3, hM3, hS2.out⟩
             case measure => (first | omega | (simp [intOf] <;> omega) | (simp only [intOf] <;> omega)))
          | exact ⟨⟨k + 1, _, by omega, by go_num, hb3, hM3, hS2.out⟩, by (first | omega | (simp [intOf] <;> omega) | (simp only [intOf] <;> omega))⟩
          | (refine ⟨?_, by (first | omega | (simp [intOf] <;> omega) | (simp only [intOf] <;> omega))⟩
             (repeat apply Exists.intro)
             refine (fun a b => And.intro b a) ?_ ?_
             · first | rfl | ((repeat refine ⟨rfl, ?_⟩); rfl)
             exact ⟨k + 1, _, by omega, by go_num, hb3, hM3, hS2.out⟩)
        · have hS := Lib.hid (HH.out.congr fun c => (hskip.out c (fun h => by simp only at h; omega)).symm)
          generalize (gb : Int) = G at *
          generalize (gn : Int) = N at *
          clear hskip hadd Hmk HH
          go_wp2_with fail
          first
          | (go_roundw
             case rel => exact ⟨k + 1, D, by omega, by go_num, hbl _, (hM.alloc _).mono (by omega), hS.out⟩
             case measure => (first | omega | (simp [intOf] <;> omega) | (simp only [intOf] <;> omega)))
          | exact ⟨⟨k + 1, D, by omega, by go_num, hbl _, (hM.alloc _).mono (by omega), hS.out⟩, by (first | omega | (simp [intOf] <;> omega) | (simp only [intOf] <;> omega))⟩
          | (refine ⟨?_, by (first | omega | (simp [intOf] <;> omega) | (simp only [intOf] <;> omega))⟩
             (repeat apply Exists.intro)
             refine (fun a b => And.intro b a) ?_ ?_
             · first | rfl | ((repeat refine ⟨rfl, ?_⟩); rfl)
             exact ⟨k + 1, D, by omega, by go_num, hbl _, (hM.alloc _).mono (by omega), hS.out⟩)
      · have hS := Lib.hid (HH.out.congr fun c => (hskip.out c (fun h => by simp only at h; omega)).symm)
        generalize (gb : Int) = G at *
        generalize (gn : Int) = N at *
        clear hskip hadd Hmk HH
        go_wp2_with fail
        first
        | (go_roundw
           case rel => exact ⟨k + 1, D, by omega, by go_num, hbl _, (hM.alloc _).mono (by omega), hS.out⟩
           case measure => (first | omega | (simp [intOf] <;> omega) | (simp only [intOf] <;> omega)))
        | exact ⟨⟨k + 1, D, by omega, by go_num, hbl _, (hM.alloc _).mono (by omega), hS.out⟩, by (first | omega | (simp [intOf] <;> omega) | (simp only [intOf] <;> omega))⟩
        | (refine ⟨?_, by (first | omega | (simp [intOf] <;> omega) | (simp only [intOf] <;> omega))⟩
           (repeat apply Exists.intro)
           refine (fun a b => And.intro b a) ?_ ?_
           · first | rfl | ((repeat refine ⟨rfl, ?_⟩); rfl)
           exact ⟨k + 1, D, by omega, by go_num, hbl _, (hM.alloc _).mono (by omega), hS.out⟩)
    · obtain rfl : k = l.length := by omega
      have hall := Lib.hid (HH.out.congr (S' := Cand l a) fun c => by rw [List.take_length])
      have hBk := Blk.new wr [.int .u64 1073807360, .int .u64 0] 59
      have hMlt := hM.lt
      have hb14 := fun o => Lib.hid (hbr.alloc hbr.size o)
      clear HH hrr b1 b2 Hmask
      go_wp2_with (at_range; refine wpList_range_own _ rfl _ _ rfl 59 4 pieceLaw Try.underlying60 _ w1.heap.size (l.length + 1) D rfl (hM.alloc _) ?_; intro w0 hrg0 hg0 hs0)
      go_frame
      have hb0 : Below w1.heap.size w1 w0 := (hb14 _).out.grown hg0 (hb14 _).out.size (by intro k hk; cases hk)
      have hBk0 := hBk.grown hg0 (by simp)
      have e1 : ∀ o, (wr.alloc o).heap.size = wr.heap.size + 1 := fun o => by simp
      rw [e1] at hrg0
      simp only [e1]
      have HL0 := Lib.hid (show ∀ kl, Maps.has D kl = true → Maps.has D kl = true from fun _ h => h)
      have HS0 := Lib.hid (show ∀ c, Cand l a c → c < 18446744073709551616 → Maps.has D (kp c n) = false → inR c n = true → freeR l c n = true → 1073807360 ≤ c from fun c h1 h2 h3 _ _ => by
        rw [(hall.out.2 (kp c n)).2 ⟨c, h1, h2, rfl⟩] at h3; cases h3)
      clear hg0 hs0 hBk hM hb14 hbr
      generalize wr.heap.size = g at *
      go_loopw [12] (fun _ wr => BestIn l n a w1 g (g + 1) D wr) (fun _ wr => wr.rangeLeft w1.heap.size (g + 1))
      case atStart => exact ⟨_, _, 1073807360, 0, hrg0, hBk0, Or.inl ⟨rfl, rfl⟩, HS0.out, HL0.out, hb0⟩
      case round =>
        clear hrg0 hBk0 HS0 HL0 hb0 e1
        obtain ⟨left, cnt, bb, sz, hrg, hBk, hbest, hmin, hleft, hbr⟩ := hrel
        have Hhbest := Lib.hid hbest
        clear hbest
        have Hhmin := Lib.hid hmin
        clear hmin
        have Hhleft := Lib.hid hleft
        clear hleft
        go_wp2_with (at_next; refine wpList_next_ranges _ rfl _ rfl 59 pieceLaw _ (fun y : Nat × Nat => .agg #[.int .u64 y.1, .int .u64 y.2]) (fun v : Value => v) (fun key kl h => by obtain ⟨y, hy, _⟩ := pc_inv h; exact ⟨y, hy⟩) (fun v y h => ⟨v, rfl⟩) w1.heap.size (g + 1) (l.length + 1) D left cnt rfl hrg ?_ ?_)
        · intro _ hl0
          have hlow := best_low (taken := l) (n := n) ha0 (ram_mod Hpa.out ha1) (b := bb) (by
            rcases Hhbest.out with h | h
            · exact Or.inl h.1
            · exact Or.inr ⟨h.1, h.2.1, h.2.2.1⟩) (fun c h1 h2 h3 => by
              have : c < 18446744073709551616 := by simp only [inR, decide_eq_true_eq] at h2; omega
              exact Hhmin.out c h1 this (hl0 _) h2 h3)
          have hBw := hB.trans (hbr.mono hB.size)
          have hC2' := hC2.below hbr
          obtain ⟨⟨c0, c1, c2, c3, c4, c5⟩, f0, f1, f2, f3, f4, f5⟩ := hC2'.six
          obtain ⟨⟨b0, b1, b2, b3, b4, b5⟩, -⟩ := (hC1.below hbr).six
          have d0 := hBk.2.1 0 _ rfl
          have d1 := hBk.2.1 1 _ rfl
          rcases Hhbest.out with ⟨q1, q2⟩ | ⟨q1, q2, q3, q4⟩
          · subst q2
            rw [if_pos q1] at hlow
            have hres := Hno hlow
            clear hlow Hhbest Hhmin Hhleft hrg hl0 q1 hBk hC1 hC2 hr1 hbr
            go_wp2_with fail
            generalize hW6 : World.setCell _ _ _ = W6
            have hB6 : Below w.heap.size w W6 := by
              rw [← hW6]
              iterate 6 (refine Below.setCell ?_ (by simp) _)
              exact hBw
            obtain ⟨⟨k0, k1, k2, k3, k4, k5⟩, -⟩ := (show Blk W6 (w.heap.size + 1) [.int .u64 0, .int .u64 0, .bool false, .bool false, .bool false, .bool false] from by
                rw [← hW6]
                refine BlkE.all ?_
                iterate 6 (refine BlkE.put rfl ?_)
                exact BlkE.of (hC2') rfl (fun k hk => by have : k < 6 := hk; simp; omega)).six
            clear hW6 c0 c1 c2 c3 c4 c5 f0 f1 f2 f3 f4 f5
            refine bodyPost_ret (v := .tuple #[rgv default, .int .i64 (221)]) (by simp [results, Try.results11, go_sem, k0, k1, k2, k3, k4, k5]; try rfl) rfl ⟨by rw [hres.out]; rfl, hB6⟩
          · rw [q4] at d1
            have hne : bb ≠ 1073807360 := by simp only [inR, decide_eq_true_eq] at q1; omega
            rw [if_neg hne] at hlow
            have hres := Hlo _ hlow
            have t1 : ((n : Int) == 0) = false := by rw [beq_eq_false_iff_ne]; omega
            clear hlow Hhbest Hhmin Hhleft hrg hl0 q1 q2 q3 q4 hBk hC1 hC2 hr1 hbr hne
            go_wp2_with fail
            generalize hW6 : World.setCell _ _ _ = W6
            have hB6 : Below w.heap.size w W6 := by
              rw [← hW6]
              iterate 6 (refine Below.setCell ?_ (by simp) _)
              exact hBw
            obtain ⟨⟨k0, k1, k2, k3, k4, k5⟩, -⟩ := (show Blk W6 (w.heap.size + 1) [.int .u64 (bb : Nat), .int .u64 (n : Nat), .bool true, .bool wb, .bool x, .bool s] from by
                rw [← hW6]
                refine BlkE.all ?_
                iterate 6 (refine BlkE.put rfl ?_)
                exact BlkE.of (hC2') rfl (fun k hk => by have : k < 6 := hk; simp; omega)).six
            clear hW6 c0 c1 c2 c3 c4 c5 f0 f1 f2 f3 f4 f5
            refine bodyPost_ret (v := .tuple #[rgv ⟨bb, n, true, wb, x, s⟩, .int .i64 (0)]) (by simp [results, Try.results11, go_sem, k0, k1, k2, k3, k4, k5]; try rfl) rfl ⟨by rw [hres.out]; rfl, hB6⟩
        · intro y0 y1 yb kl d ps w' cnt' hkey hlk hv hat hrg1 hlt1 hg1 hs1 hen
          obtain ⟨c, hcand, hc64, rfl⟩ := (hall.out.2 kl).1 (Hhleft.out kl hlk)
          have hinj := pieceLaw.inj hkey (keyOf_pc hc64 (show n < 18446744073709551616 by omega))
          unfold pc at hinj
          simp only [Value.agg.injEq, Array.mk.injEq, List.cons.injEq, Value.int.injEq, true_and, and_true] at hinj
          obtain ⟨rfl, rfl⟩ : c = y0 ∧ n = y1 := by omega
          have hbr1 := hbr.grown hg1 hbr.size (by intro k hk; cases hk; omega)
          have hBk1 := hBk.grown hg1 (by simp)
          have Hst := Lib.hid (fun c' h64 h => left_step (left := left) (show n < 18446744073709551616 by omega) hc64 (c' := c') h64 h)
          have Hl2 := Lib.hid (show ∀ kl, (left kl && !kl.sameKey (kp c n)) = true → Maps.has D kl = true from fun kl h => Hhleft.out kl (Bool.and_eq_true _ _ ▸ h).1)
          have Hcm := Lib.hid (cand_mod (ram_mod Hpa.out ha1) hcand)
          have Hleq := Lib.hid hrg.left_eq
          have Hins := fun w => Lib.hid (inside_any c n w hc64)
          unfold pc at Hins
          have hPc0 : Pc (w'.alloc (.cells #[.int .u64 c, .int .u64 n] 59)) w'.heap.size c n := by
            have h := Blk.new w' [.int .u64 c, .int .u64 n] 59
            exact ⟨h.1, h.2.1 0 _ rfl, h.2.1 1 _ rfl⟩
          clear hkey hlk hv hat hg1 hs1 hinj hrg hBk hbr Hhleft
          go_wp2_with fail
          refine (Hins _).out.mono ?_
          rintro e w5 ⟨rfl, hb5⟩
          have hbw5 : Below w'.heap.size w' w5 := ((Below.refl _ _).alloc (Nat.le_refl _) _).trans (hb5.mono (by simp))
          have hPc := hPc0.below hb5
          have hrg5 := hrg1.kept (grown_of_below hbw5 none) (by simp) (by simp)
          have hBk5 := hBk1.below hbw5
          have hbr5 := hbr1.trans (hbw5.mono hbr1.size)
          clear hPc0 hb5 hrg1 hBk1 hbr1 hbw5 Hins hen
          cases hin : inR c n
          · have hmin2 := Lib.hid (show ∀ c', Cand l a c' → c' < 18446744073709551616 → (left (kp c' n) && !(kp c' n).sameKey (kp c n)) = false → inR c' n = true → freeR l c' n = true → bb ≤ c' from fun c' h1 h2 h3 h4 h5 => by
              rcases Hst.out c' h2 h3 with h | rfl
              · exact Hhmin.out c' h1 h2 h h4 h5
              · rw [hin] at h4; cases h4)
            clear hin Hst Hhmin hcand hPc hC1 hC2 hr1 Hcm
            go_wp2_with fail
            go_roundw
            case rel => exact ⟨_, cnt', bb, sz, hrg5, hBk5, Hhbest.out, hmin2.out, Hl2.out, hbr5⟩
            case measure => rw [hrg5.left_eq, Hleq.out]; exact hlt1
          · go_wp2_with fail
            refine (contains_any ao l.length cap l w'.heap.size c n w5 rfl (by omega) (hr1.below hbr5) hok hPc hc64).mono ?_
            rintro e w6 ⟨rfl, hb6⟩
            have hPc6 := hPc.below hb6
            have hrg6 := hrg5.kept (grown_of_below hb6 none) (by simp) (by simp)
            have hBk6 := hBk5.below hb6
            have hbr6 := hbr5.trans (hb6.mono hbr5.size)
            clear hPc hrg5 hBk5 hbr5 hb6
            cases hfr : freeR l c n
            · have hmin2 := Lib.hid (show ∀ c', Cand l a c' → c' < 18446744073709551616 → (left (kp c' n) && !(kp c' n).sameKey (kp c n)) = false → inR c' n = true → freeR l c' n = true → bb ≤ c' from fun c' h1 h2 h3 h4 h5 => by
                rcases Hst.out c' h2 h3 with h | rfl
                · exact Hhmin.out c' h1 h2 h h4 h5
                · rw [hfr] at h5; cases h5)
              clear hin hfr Hst Hhmin hcand hPc6 hC1 hC2 hr1 Hcm
              go_wp2_with fail
              go_roundw
              case rel => exact ⟨_, cnt', bb, sz, hrg6, hBk6, Hhbest.out, hmin2.out, Hl2.out, hbr6⟩
              case measure => rw [hrg6.left_eq, Hleq.out]; exact hlt1
            · obtain ⟨-, p0, p1⟩ := hPc6
              have d0 := hBk6.2.1 0 _ rfl
              have d1 := hBk6.2.1 1 _ rfl
              have fr0 := hBk6.2.2 0
              have fr1 := hBk6.2.2 1
              by_cases hcb : c < bb
              · have hmin2 := Lib.hid (show ∀ c', Cand l a c' → c' < 18446744073709551616 → (left (kp c' n) && !(kp c' n).sameKey (kp c n)) = false → inR c' n = true → freeR l c' n = true → c ≤ c' from fun c' h1 h2 h3 h4 h5 => by
                  rcases Hst.out c' h2 h3 with h | rfl
                  · have := Hhmin.out c' h1 h2 h h4 h5; omega
                  · exact Nat.le_refl _)
                have hbest2 := Lib.hid (show inR c n = true ∧ freeR l c n = true ∧ c % a = 0 from ⟨hin, hfr, Hcm.out⟩)
                clear hin hfr Hst Hhmin hcand hC1 hC2 hr1 Hcm
                go_wp2_with fail
                generalize hW7 : World.setCell _ _ _ = W7
                have hBk7 : Blk W7 g [.int .u64 c, .int .u64 n] := by
                  rw [← hW7]
                  refine BlkE.all ?_
                  iterate 2 (refine BlkE.put rfl ?_)
                  exact BlkE.of hBk6 rfl (fun k hk => by have : k < 2 := hk; simp; omega)
                have hg7 : w6.grownBy W7 (some g) := by rw [← hW7]; exact (grownBy_set _ _ _ _).trans (grownBy_set _ _ _ _)
                have hrg7 := hrg6.kept hg7 (by simp; omega) (by simp)
                have hbr7 := hbr6.grown hg7 hbr6.size (by intro k hk; cases hk; omega)
                clear hW7 hg7 hrg6 hbr6 hBk6
                go_roundw
                case rel => exact ⟨_, cnt', c, n, hrg7, hBk7, Or.inr ⟨hbest2.out.1, hbest2.out.2.1, hbest2.out.2.2, rfl⟩, hmin2.out, Hl2.out, hbr7⟩
                case measure => rw [hrg7.left_eq, Hleq.out]; exact hlt1
              · have hmin2 := Lib.hid (show ∀ c', Cand l a c' → c' < 18446744073709551616 → (left (kp c' n) && !(kp c' n).sameKey (kp c n)) = false → inR c' n = true → freeR l c' n = true → bb ≤ c' from fun c' h1 h2 h3 h4 h5 => by
                  rcases Hst.out c' h2 h3 with h | rfl
                  · exact Hhmin.out c' h1 h2 h h4 h5
                  · omega)
                clear hin hfr Hst Hhmin hcand hC1 hC2 hr1 Hcm
                go_wp2_with fail
                go_roundw
                case rel => exact ⟨_, cnt', bb, sz, hrg6, hBk6, Hhbest.out, hmin2.out, Hl2.out, hbr6⟩
                case measure => rw [hrg6.left_eq, Hleq.out]; exact hlt1
theorem place_any (ao : Option Addr) (len cap : Nat) (l : List Rg) (i : Int) (n a : Nat) (s wb x : Bool) (w : World) (hl : l.length = len) (hbig : len ≤ 9223372036854775807) (hr : RdG w ao l) (hok : RgsOk l) (ha64 : a < 18446744073709551616) :
    Calls Try.prog 11 #[.slice ao len cap, wv i n a s wb x] w fun e w' => e = .returned (.tuple #[rgv (plR l n a s wb x).1, .int .i64 (plR l n a s wb x).2]) ∧ Below w.heap.size w w' := by
  by_cases h16 : 16 ≤ len
  · rw [plR_many (by omega)]
    unfold wv rgv
    go_enter Try.func11, Try.ntmps11
    go_wp2_with fail
    refine bodyPost_ret (v := .tuple #[rgv (default), .int .i64 (225)]) (by simp [results, Try.results11, go_sem]; try rfl) rfl ⟨rfl, ?_⟩
    exact ((Below.refl _ _).alloc (Nat.le_refl _) _).alloc (by simp) _
  by_cases he : wantE n a wb x = 0
  · exact place_ok ao len cap l i n a s wb x w hl h16 hr hok he
  · rw [plR_wrong (by omega) he]
    have HB0 : ∀ o1 o2, Hid (Below w.heap.size w ((w.alloc o1).alloc o2)) := fun o1 o2 => Lib.hid (((Below.refl _ w).alloc (Nat.le_refl _) o1).alloc (by simp) o2)
    have HC2 := fun o1 => Lib.hid (Blk.new1 w o1 [.int .u64 0, .int .u64 0, .bool false, .bool false, .bool false, .bool false] 30)
    have t1 : (wantE n a wb x == 0) = false := by rw [beq_eq_false_iff_ne]; exact he
    have t2 : (wantE n a wb x != 0) = true := by rw [bne, t1]; rfl
    have Hm := fun w => Lib.hid (wrong_any i n a s wb x w ha64)
    clear he hok hr
    generalize wantE n a wb x = E at *
    unfold wv at *
    unfold rgv
    go_enter Try.func11, Try.ntmps11
    go_wp2_with fail
    refine (Hm _).out.mono ?_
    rintro e w1 ⟨rfl, hb1⟩
    have hB := (HB0 _ _).out.trans (hb1.mono (HB0 _ _).out.size)
    have hC2 := (HC2 _).out.below hb1
    obtain ⟨⟨c0, c1, c2, c3, c4, c5⟩, f0, f1, f2, f3, f4, f5⟩ := hC2.six
    clear hb1 HC2 HB0
    go_wp2_with fail
    generalize hW6 : World.setCell _ _ _ = W6
    have hB6 : Below w.heap.size w W6 := by
      rw [← hW6]
      iterate 6 (refine Below.setCell ?_ (by simp) _)
      exact hB
    obtain ⟨⟨k0, k1, k2, k3, k4, k5⟩, -⟩ := (show Blk W6 (w.heap.size + 1) [.int .u64 0, .int .u64 0, .bool false, .bool false, .bool false, .bool false] from by
        rw [← hW6]
        refine BlkE.all ?_
        iterate 6 (refine BlkE.put rfl ?_)
        exact BlkE.of (hC2) rfl (fun k hk => by have : k < 6 := hk; simp; omega)).six
    clear hW6 c0 c1 c2 c3 c4 c5 f0 f1 f2 f3 f4 f5
    refine bodyPost_ret (v := .tuple #[rgv default, .int .i64 (E)]) (by simp [results, Try.results11, go_sem, k0, k1, k2, k3, k4, k5]; try rfl) rfl ⟨rfl, hB6⟩
end Go.Proofs.Ythhodibfbfmijaa
