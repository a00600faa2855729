/- The document's Place. No condition. -/
import Derived.Test.YthhodibfbfmijaaMapF
set_option linter.unusedVariables false
set_option linter.unusedSimpArgs false
namespace Go.Proofs.Ythhodibfbfmijaa
open Go.RowKit
/-- what a stage gets, and the error -/
noncomputable def plR (l : List Rg) (n a : Nat) (s wr x : Bool) : Rg × Int :=
  if 16 ≤ l.length then (default, 225) else if wantE n a wr x ≠ 0 then (default, wantE n a wr x) else
  match low l n a with
  | none => (default, 221)
  | some m => (⟨m, n, true, wr, x, s⟩, 0)
theorem plR_many {l : List Rg} {n a : Nat} {s wr x : Bool} (h : 16 ≤ l.length) : plR l n a s wr x = (default, 225) := by unfold plR; rw [if_pos h]
theorem plR_wrong {l : List Rg} {n a : Nat} {s wr x : Bool} (h : ¬ 16 ≤ l.length) (h2 : wantE n a wr x ≠ 0) : plR l n a s wr x = (default, wantE n a wr x) := by unfold plR; rw [if_neg h, if_pos h2]
theorem plR_none {l : List Rg} {n a : Nat} {s wr x : Bool} (h : ¬ 16 ≤ l.length) (h2 : wantE n a wr x = 0) (h3 : low l n a = none) : plR l n a s wr x = (default, 221) := by
  unfold plR; rw [if_neg h, if_neg (by simpa using h2), h3]
theorem plR_some {l : List Rg} {n a m : Nat} {s wr x : Bool} (h : ¬ 16 ≤ l.length) (h2 : wantE n a wr x = 0) (h3 : low l n a = some m) : plR l n a s wr x = (⟨m, n, true, wr, x, s⟩, 0) := by
  unfold plR; rw [if_neg h, if_neg (by simpa using h2), h3]
theorem wantE_ok {n a : Nat} {w x : Bool} (h : wantE n a w x = 0) : 0 < n ∧ n ≤ 65536 ∧ 0 < a ∧ a ≤ 65536 ∧ Pow2 a ∧ (w && x) = false := by
  unfold wantE at h
  by_cases hc : n = 0 ∨ 65536 < n ∨ a = 0 ∨ 65536 < a ∨ ¬ Pow2 a
  · rw [if_pos hc] at h; omega
  · rw [if_neg hc] at h
    have hp : Pow2 a := Classical.byContradiction fun h' => hc (Or.inr (Or.inr (Or.inr (Or.inr h'))))
    refine ⟨by omega, by omega, by omega, by omega, hp, ?_⟩
    cases hb : (w && x)
    · rfl
    · rw [hb] at h; simp at h
/-- a block of the call's own -/
def Blk (w : World) (b : Nat) (cs : List Value) : Prop := b < w.heap.size ∧ (∀ k v, cs[k]? = some v → w.cell? ⟨b, k, none⟩ = some v) ∧ ∀ k, w.frozen? ⟨b, k, none⟩ = false
theorem Blk.below {w w' : World} {b : Nat} {cs : List Value} (h : Blk w b cs) (hb : Below w.heap.size w w') : Blk w' b cs :=
  ⟨Nat.lt_of_lt_of_le h.1 hb.size, fun k v hk => by rw [hb.cell (p := ⟨b, k, none⟩) h.1]; exact h.2.1 k v hk, fun k => by rw [hb.frozen (p := ⟨b, k, none⟩) h.1]; exact h.2.2 k⟩
theorem Blk.alloc {w : World} {b : Nat} {cs : List Value} (h : Blk w b cs) (o : Obj) : Blk (w.alloc o) b cs := h.below ((Below.refl _ _).alloc (Nat.le_refl _) o)
theorem Blk.drewN {w : World} {b : Nat} {cs : List Value} (h : Blk w b cs) (n : Nat) : Blk (w.drewN n) b cs := h.below (Drn.below ⟨n, rfl⟩ _)
theorem Blk.new (w : World) (cs : List Value) (t : TypeId) : Blk (w.alloc (.cells cs.toArray t)) w.heap.size cs := by
  refine ⟨by simp, fun k v hk => ?_, fun k => ?_⟩
  · simp [go_sem, hk]
  · simp [go_sem]
theorem Blk.new1 (w : World) (o : Obj) (cs : List Value) (t : TypeId) : Blk ((w.alloc o).alloc (.cells cs.toArray t)) (w.heap.size + 1) cs := by
  have h := Blk.new (w.alloc o) cs t
  have e : (w.alloc o).heap.size = w.heap.size + 1 := by simp
  rwa [e] at h
theorem Blk.drn {w w' : World} {b : Nat} {cs : List Value} (h : Blk w b cs) (hd : Drn w w') : Blk w' b cs := h.below (hd.below _)
theorem Blk.six {w : World} {b : Nat} {v0 v1 v2 v3 v4 v5 : Value} (h : Blk w b [v0, v1, v2, v3, v4, v5]) :
    (w.cell? ⟨b, 0, none⟩ = some v0 ∧ w.cell? ⟨b, 1, none⟩ = some v1 ∧ w.cell? ⟨b, 2, none⟩ = some v2 ∧ w.cell? ⟨b, 3, none⟩ = some v3 ∧ w.cell? ⟨b, 4, none⟩ = some v4 ∧ w.cell? ⟨b, 5, none⟩ = some v5) ∧
    w.frozen? ⟨b, 0, none⟩ = false ∧ w.frozen? ⟨b, 1, none⟩ = false ∧ w.frozen? ⟨b, 2, none⟩ = false ∧ w.frozen? ⟨b, 3, none⟩ = false ∧ w.frozen? ⟨b, 4, none⟩ = false ∧ w.frozen? ⟨b, 5, none⟩ = false :=
  ⟨⟨h.2.1 0 _ rfl, h.2.1 1 _ rfl, h.2.1 2 _ rfl, h.2.1 3 _ rfl, h.2.1 4 _ rfl, h.2.1 5 _ rfl⟩, h.2.2 0, h.2.2 1, h.2.2 2, h.2.2 3, h.2.2 4, h.2.2 5⟩
def BlkE (d : List Nat) (w : World) (b : Nat) (cs : List Value) : Prop :=
  b < w.heap.size ∧ (∀ k v, cs[k]? = some v → (∃ u, w.cell? ⟨b, k, none⟩ = some u) ∧ (k ∉ d → w.cell? ⟨b, k, none⟩ = some v)) ∧ ∀ k, w.frozen? ⟨b, k, none⟩ = false
theorem BlkE.put {d : List Nat} {w : World} {b k : Nat} {cs : List Value} {v : Value} (hv : cs[k]? = some v) (h : BlkE (k :: d) w b cs) : BlkE d (w.setCell ⟨b, k, none⟩ v) b cs := by
  refine ⟨by simpa [World.setCell] using h.1, fun j u hj => ?_, fun j => by rw [World.frozen?_setCell]; exact h.2.2 j⟩
  obtain ⟨⟨u0, h1⟩, h2⟩ := h.2.1 j u hj
  by_cases e : j = k
  · subst e
    rw [hv] at hj
    cases hj
    have := World.cell?_setCell_same (w := w) (a := ⟨b, j, none⟩) (v := v) h1
    exact ⟨⟨_, this⟩, fun _ => this⟩
  · have e2 : (⟨b, k, none⟩ : Addr) ≠ ⟨b, j, none⟩ := fun h => by cases h; exact e rfl
    rw [World.cell?_setCell_other (w := w) (h := e2)]
    exact ⟨⟨u0, h1⟩, fun hd => h2 (by simp [e, hd])⟩
theorem BlkE.of {d : List Nat} {w : World} {b : Nat} {cs cs0 : List Value} (h : Blk w b cs0) (hl : cs.length = cs0.length) (hd : ∀ k, k < cs.length → k ∈ d) : BlkE d w b cs := by
  refine ⟨h.1, fun k v hk => ?_, h.2.2⟩
  have hlt : k < cs.length := by
    rcases Nat.lt_or_ge k cs.length with h | h
    · exact h
    · rw [List.getElem?_eq_none h] at hk; cases hk
  exact ⟨⟨_, h.2.1 k cs0[k] (List.getElem?_eq_getElem (by omega))⟩, fun hn => absurd (hd k hlt) hn⟩
theorem BlkE.all {w : World} {b : Nat} {cs : List Value} (h : BlkE [] w b cs) : Blk w b cs := ⟨h.1, fun k v hk => (h.2.1 k v hk).2 (by simp), h.2.2⟩
def posN (a k : Nat) : Nat := 1073741824 + k * a
theorem posN_zero (a : Nat) : posN a 0 = 1073741824 := by simp [posN]
theorem posN_succ (a k : Nat) : posN a (k + 1) = posN a k + a := by simp [posN, Nat.add_mul]; omega
structure PlIn (l : List Rg) (n a : Nat) (W0 : World) (i : Value) (wr : World) : Prop where
  x : ∃ k : Nat, posN a k < 1073807360 + a ∧ i = .int .u64 (posN a k : Nat) ∧ (∀ j, j < k → ¬ (inR (posN a j) n = true ∧ freeR l (posN a j) n = true)) ∧ Drn W0 wr
set_option maxHeartbeats 1000000 in
theorem rplace_any (ao : Option Addr) (len cap : Nat) (l : List Rg) (i : Int) (n a : Nat) (s wb x : Bool) (w : World) (hl : l.length = len) (hbig : len ≤ 9223372036854775807) (hr : RdG w ao l) (hok : RgsOk l) :
    Calls Try.prog 12 #[.slice ao len cap, wv i n a s wb x] w fun e w' => e = .returned (.tuple #[rgv (plR l n a s wb x).1, .int .i64 (plR l n a s wb x).2]) ∧ Below w.heap.size w w' := by
  by_cases h16 : 16 ≤ len
  · rw [plR_many (by omega)]
    unfold wv rgv
    go_enter Try.func12, Try.ntmps12
    go_wp2_with fail
    refine bodyPost_ret (v := .tuple #[rgv (default), .int .i64 (225)]) (by simp [results, Try.results12, go_sem]; try rfl) rfl ⟨rfl, ?_⟩
    exact ((Below.refl _ _).alloc (Nat.le_refl _) _).alloc (by simp) _
  have HB0 : ∀ o1 o2, Hid (Below w.heap.size w ((w.alloc o1).alloc o2)) := fun o1 o2 => Lib.hid (((Below.refl _ w).alloc (Nat.le_refl _) o1).alloc (by simp) o2)
  have HC1 := fun o2 => Lib.hid ((Blk.new w [.int .i64 i, .int .u64 n, .int .u64 a, .bool s, .bool wb, .bool x] 26).alloc o2)
  have HC2 := fun o1 => Lib.hid (Blk.new1 w o1 [.int .u64 0, .int .u64 0, .bool false, .bool false, .bool false, .bool false] 30)
  by_cases he : wantE n a wb x = 0
  · obtain ⟨hn0, hn1, ha0, ha1, hpa, hwx⟩ := wantE_ok he
    have Hlo := fun m h => Lib.hid (plR_some (l := l) (s := s) (m := m) (by omega) he h)
    have Hno := fun h => Lib.hid (plR_none (l := l) (s := s) (by omega) he h)
    have Hm := fun w => Lib.hid (may_any i n a s wb x w)
    have Hz := Lib.hid (posN_zero a)
    rw [he] at Hm
    clear hpa hwx he
    unfold wv at *
    unfold rgv
    go_enter Try.func12, Try.ntmps12
    go_wp2_with fail
    refine (Hm _).out.mono ?_
    rintro e w1 ⟨rfl, hb1⟩
    have hB := (HB0 _ _).out.trans (hb1.mono (HB0 _ _).out.size)
    have hC2 := (HC2 _).out.below hb1
    have hC1 := (HC1 _).out.below hb1
    clear hb1 HC1 HC2 HB0
    have hr1 := hr.below hB
    clear hr
    go_wp2_with fail
    go_loopw [7, 8, 9] (fun i _ _ wr => PlIn l n a w1 i wr) (fun i _ _ _ => 1073807360 - (intOf i).toNat)
    case atStart => exact ⟨0, by rw [Hz.out]; omega, by rw [Hz.out]; rfl, fun j hj => absurd hj (by omega), Drn.refl _⟩
    case round =>
      obtain ⟨k, hk, rfl, hmiss, hd⟩ := hrel
      have Hsucc := Lib.hid (posN_succ a k)
      have Hmiss := Lib.hid hmiss
      have Hpos := Lib.hid (show posN a k = 1073741824 + k * a from rfl)
      clear hmiss
      obtain ⟨⟨b0, b1, b2, b3, b4, b5⟩, -⟩ := (hC1.drn hd).six
      have hrr := hd.rdG hr1
      have hBr := hB.trans (hd.below _)
      have Hin := fun w => Lib.hid (rin_any (posN a k) n w)
      by_cases hT : (posN a k : Int) < 1073807360
      · cases hin : inR (posN a k) n
        · have hlow := Hno (seek_low_miss (i := k) ha0 (Or.inl (by rw [← Hpos.out]; exact hin)) Hmiss.out)
          rw [hin] at Hin
          obtain ⟨⟨c0, c1, c2, c3, c4, c5⟩, f0, f1, f2, f3, f4, f5⟩ := (hC2.drn hd).six
          clear hin Hmiss hC1 Hpos Hsucc
          generalize posN a k = T at *
          go_wp2_with fail
          refine (Hin _).out.mono ?_
          rintro e w' ⟨rfl, rfl⟩
          go_wp2_with fail
          generalize hW6 : World.setCell _ _ _ = W6
          have hB6 : Below w.heap.size w W6 := by
            rw [← hW6]
            iterate 6 (refine Below.setCell ?_ (by simp) _)
            exact hBr
          obtain ⟨⟨k0, k1, k2, k3, k4, k5⟩, -⟩ := (show Blk W6 (w.heap.size + 1) [.int .u64 0, .int .u64 0, .bool false, .bool false, .bool false, .bool false] from by
              rw [← hW6]
              refine BlkE.all ?_
              iterate 6 (refine BlkE.put rfl ?_)
              exact BlkE.of (hC2.drn hd) rfl (fun k hk => by have : k < 6 := hk; simp; omega)).six
          clear hW6 c0 c1 c2 c3 c4 c5 f0 f1 f2 f3 f4 f5
          refine bodyPost_ret (v := .tuple #[rgv default, .int .i64 (221)]) (by simp [results, Try.results12, go_sem, k0, k1, k2, k3, k4, k5]; try rfl) rfl ⟨by rw [hlow.out]; rfl, hB6⟩
        · rw [hin] at Hin
          have Hfr := fun w h => Lib.hid (rfree_any ao len cap l (posN a k) n w hl hbig h hok (by omega))
          have hf1 := fun h => Hlo _ (seek_low_hit (i := k) ha0 (by rw [← Hpos.out]; exact hin) h Hmiss.out)
          rw [← Hpos.out] at hf1
          have hf0 : freeR l (posN a k) n = false → Hid (∀ j, j < k + 1 → ¬ (inR (posN a j) n = true ∧ freeR l (posN a j) n = true)) := fun h => Lib.hid fun j hj => by
            by_cases e : j < k
            · exact Hmiss.out j e
            · obtain rfl : j = k := by omega
              rintro ⟨-, h2⟩
              rw [h] at h2; cases h2
          cases hfr : freeR l (posN a k) n
          · have hnext := hf0 hfr
            rw [hfr] at Hfr
            clear hf0 hf1 hin hfr hC2 hC1 Hmiss Hpos
            generalize posN a k = T at *
            go_wp2_with fail
            refine (Hin _).out.mono ?_
            rintro e w' ⟨rfl, rfl⟩
            go_wp2_with fail
            refine (Hfr _ hrr).out.mono ?_
            rintro e w2 ⟨rfl, hd2⟩
            have c2 := (hd2.cell ⟨w.heap.size, 2, none⟩).trans b2
            clear hrr hBr
            go_wp2_with fail
            first
            | (go_roundw
               case rel => exact ⟨k + 1, by rw [Hsucc.out]; omega, by rw [Hsucc.out]; go_num, hnext.out, hd.trans hd2⟩
               case measure => (first | omega | (simp [intOf] <;> omega) | (simp only [intOf] <;> omega)))
            | exact ⟨⟨k + 1, by rw [Hsucc.out]; omega, by rw [Hsucc.out]; go_num, hnext.out, hd.trans hd2⟩, by (first | omega | (simp [intOf] <;> omega) | (simp only [intOf] <;> omega))⟩
            | (refine ⟨?_, by (first | omega | (simp [intOf] <;> omega) | (simp only [intOf] <;> omega))⟩
               (repeat apply Exists.intro)
               refine (fun a b => And.intro b a) ?_ ?_
               · first | rfl | ((repeat refine ⟨rfl, ?_⟩); rfl)
               exact ⟨k + 1, by rw [Hsucc.out]; omega, by rw [Hsucc.out]; go_num, hnext.out, hd.trans hd2⟩)
          · have hlow := hf1 hfr
            rw [hfr] at Hfr
            clear hf0 hf1 hin hfr Hmiss Hpos Hsucc
            generalize posN a k = T at *
            go_wp2_with fail
            refine (Hin _).out.mono ?_
            rintro e w' ⟨rfl, rfl⟩
            go_wp2_with fail
            refine (Hfr _ hrr).out.mono ?_
            rintro e w2 ⟨rfl, hd2⟩
            have hB2 := hBr.trans (hd2.below _)
            have hC2' := hC2.drn (hd.trans hd2)
            obtain ⟨⟨c0, c1, c2, c3, c4, c5⟩, f0, f1, f2, f3, f4, f5⟩ := hC2'.six
            clear b0 b1 b2 b3 b4 b5
            obtain ⟨⟨b0, b1, b2, b3, b4, b5⟩, -⟩ := (hC1.drn (hd.trans hd2)).six
            clear hrr hBr hC1 hC2 hd hd2
            go_wp2_with fail
            generalize hW6 : World.setCell _ _ _ = W6
            have hB6 : Below w.heap.size w W6 := by
              rw [← hW6]
              iterate 6 (refine Below.setCell ?_ (by simp) _)
              exact hB2
            obtain ⟨⟨k0, k1, k2, k3, k4, k5⟩, -⟩ := (show Blk W6 (w.heap.size + 1) [.int .u64 (T : Nat), .int .u64 (n : Nat), .bool true, .bool wb, .bool x, .bool s] from by
                rw [← hW6]
                refine BlkE.all ?_
                iterate 6 (refine BlkE.put rfl ?_)
                exact BlkE.of (hC2') rfl (fun k hk => by have : k < 6 := hk; simp; omega)).six
            clear hW6 c0 c1 c2 c3 c4 c5 f0 f1 f2 f3 f4 f5
            refine bodyPost_ret (v := .tuple #[rgv ⟨T, n, true, wb, x, s⟩, .int .i64 (0)]) (by simp [results, Try.results12, go_sem, k0, k1, k2, k3, k4, k5]; try rfl) rfl ⟨by rw [hlow.out]; rfl, hB6⟩
      · have hlow := Hno (seek_low_miss (i := k) ha0 (Or.inr (by rw [← Hpos.out]; omega)) Hmiss.out)
        obtain ⟨⟨c0, c1, c2, c3, c4, c5⟩, f0, f1, f2, f3, f4, f5⟩ := (hC2.drn hd).six
        clear Hmiss hC1 Hpos Hsucc Hin
        generalize posN a k = T at *
        go_wp2_with fail
        generalize hW6 : World.setCell _ _ _ = W6
        have hB6 : Below w.heap.size w W6 := by
          rw [← hW6]
          iterate 6 (refine Below.setCell ?_ (by simp) _)
          exact hBr
        obtain ⟨⟨k0, k1, k2, k3, k4, k5⟩, -⟩ := (show Blk W6 (w.heap.size + 1) [.int .u64 0, .int .u64 0, .bool false, .bool false, .bool false, .bool false] from by
            rw [← hW6]
            refine BlkE.all ?_
            iterate 6 (refine BlkE.put rfl ?_)
            exact BlkE.of (hC2.drn hd) rfl (fun k hk => by have : k < 6 := hk; simp; omega)).six
        clear hW6 c0 c1 c2 c3 c4 c5 f0 f1 f2 f3 f4 f5
        refine bodyPost_ret (v := .tuple #[rgv default, .int .i64 (221)]) (by simp [results, Try.results12, go_sem, k0, k1, k2, k3, k4, k5]; try rfl) rfl ⟨by rw [hlow.out]; rfl, hB6⟩
  · rw [plR_wrong (by omega) he]
    have t1 : (wantE n a wb x == 0) = false := by rw [beq_eq_false_iff_ne]; exact he
    have t2 : (wantE n a wb x != 0) = true := by rw [bne, t1]; rfl
    have Hm := fun w => Lib.hid (may_any i n a s wb x w)
    clear he hok hr
    generalize wantE n a wb x = E at *
    unfold wv at *
    unfold rgv
    go_enter Try.func12, Try.ntmps12
    go_wp2_with fail
    refine (Hm _).out.mono ?_
    rintro e w1 ⟨rfl, hb1⟩
    have hB := (HB0 _ _).out.trans (hb1.mono (HB0 _ _).out.size)
    have hC2 := (HC2 _).out.below hb1
    obtain ⟨⟨c0, c1, c2, c3, c4, c5⟩, f0, f1, f2, f3, f4, f5⟩ := hC2.six
    clear hb1 HC1 HC2 HB0
    go_wp2_with fail
    generalize hW6 : World.setCell _ _ _ = W6
    have hB6 : Below w.heap.size w W6 := by
      rw [← hW6]
      iterate 6 (refine Below.setCell ?_ (by simp) _)
      exact hB
    obtain ⟨⟨k0, k1, k2, k3, k4, k5⟩, -⟩ := (show Blk W6 (w.heap.size + 1) [.int .u64 0, .int .u64 0, .bool false, .bool false, .bool false, .bool false] from by
        rw [← hW6]
        refine BlkE.all ?_
        iterate 6 (refine BlkE.put rfl ?_)
        exact BlkE.of (hC2) rfl (fun k hk => by have : k < 6 := hk; simp; omega)).six
    clear hW6 c0 c1 c2 c3 c4 c5 f0 f1 f2 f3 f4 f5
    refine bodyPost_ret (v := .tuple #[rgv default, .int .i64 (E)]) (by simp [results, Try.results12, go_sem, k0, k1, k2, k3, k4, k5]; try rfl) rfl ⟨rfl, hB6⟩
end Go.Proofs.Ythhodibfbfmijaa
