/- What was burnt stays, no counter falls: the walk. No condition. -/
import Derived.Test.YtnaffffeaakhcaaFzO
namespace Go.Proofs.Ytnaffffeaakhcaa.fuseNeverBack
open Go.ChangeShapes Go.WideShapes Go.ChangeAt Go.RowKit
set_option linter.unusedVariables false
set_option linter.unusedSimpArgs false
def byteOf (f : Fz) (k : Nat) : UInt8 := f.b[k]?.getD 0
def wasOf (f : Fz) (k : Nat) : Int := if f.n.testBit k then (byteOf f k).toNat + 1 else 0
def mixW (f g : Fz) (k : Nat) : List Value := (List.range 64).map fun i => .int .i64 (if i < k then wasOf g i else wasOf f i)
def mixC (f g : Fz) (k : Nat) : List Value := (List.range 4).map fun i => .int .u32 ((if i < k then g.c[i]?.getD 0 else f.c[i]?.getD 0 : Nat) : Int)
def Inv (f : Fz) : Prop := ∀ k, k < 64 → f.n.testBit k = false → byteOf f k = 0
def Fwd (f g : Fz) : Prop := (∀ k, k < 64 → f.n.testBit k = true → g.n.testBit k = true ∧ byteOf g k = byteOf f k) ∧ ∀ k, k < 4 → f.c[k]?.getD 0 ≤ g.c[k]?.getD 0
theorem zero_inv : Inv Fz.zero := fun k hk _ => by
  unfold byteOf
  rw [show Fz.zero.b = List.replicate 64 0 from rfl, List.getElem?_replicate, if_pos hk]; rfl
theorem Fwd.refl (f : Fz) : Fwd f f := ⟨fun _ _ h => ⟨h, rfl⟩, fun _ _ => Nat.le_refl _⟩
theorem mixW_at (f g : Fz) {k : Nat} (hk : k < 64) : (mixW f g k)[k]? = some (.int .i64 (wasOf f k)) := by simp [mixW, hk]
theorem mixW_set (f g : Fz) {k : Nat} (hk : k < 64) : (mixW f g k).set k (.int .i64 (wasOf g k)) = mixW f g (k + 1) := by
  apply List.ext_getElem?
  intro i
  rw [List.getElem?_set]
  by_cases hi : i < 64
  · by_cases e : k = i
    · subst e; simp [mixW, hk]
    · rw [if_neg e]
      have : (i < k) = (i < k + 1) := by rw [eq_iff_iff]; omega
      simp [mixW, hi, this]
  · have h1 : (mixW f g k)[i]? = none := List.getElem?_eq_none (by simp [mixW]; omega)
    have h2 : (mixW f g (k + 1))[i]? = none := List.getElem?_eq_none (by simp [mixW]; omega)
    rw [if_neg (by omega), h1, h2]
theorem mixW_skip (f g : Fz) {k : Nat} (hk : k < 64) (h : wasOf f k = wasOf g k) : mixW f g k = mixW f g (k + 1) := by
  rw [← mixW_set f g hk, ← h]
  apply List.ext_getElem?
  intro i
  rw [List.getElem?_set]
  split
  · rename_i e; subst e; rw [mixW_at f g hk]; simp [mixW, hk]
  · rfl
theorem mixW_end (f g : Fz) : mixW f g 64 = mixW g g 0 := by
  apply List.map_congr_left
  intro i hi
  simp at hi
  simp [hi]
theorem mixC_at (f g : Fz) {k : Nat} (hk : k < 4) : (mixC f g k)[k]? = some (.int .u32 (f.c[k]?.getD 0 : Nat)) := by simp [mixC, hk]
theorem mixC_set (f g : Fz) {k : Nat} (hk : k < 4) : (mixC f g k).set k (.int .u32 (g.c[k]?.getD 0 : Nat)) = mixC f g (k + 1) := by
  apply List.ext_getElem?
  intro i
  rw [List.getElem?_set]
  by_cases hi : i < 4
  · by_cases e : k = i
    · subst e; simp [mixC, hk]
    · rw [if_neg e]
      have : (i < k) = (i < k + 1) := by rw [eq_iff_iff]; omega
      simp [mixC, hi, this]
  · have h1 : (mixC f g k)[i]? = none := List.getElem?_eq_none (by simp [mixC]; omega)
    have h2 : (mixC f g (k + 1))[i]? = none := List.getElem?_eq_none (by simp [mixC]; omega)
    rw [if_neg (by omega), h1, h2]
theorem mixC_end (f g : Fz) : mixC f g 4 = mixC g g 0 := by
  apply List.map_congr_left
  intro i hi
  simp at hi
  simp [hi]
theorem burn_bit (f : Fz) {k j : Nat} (hk : k < 64) (v : UInt8) : (f.burn k v).n.testBit j = (f.n.testBit j || decide (k = j)) := by
  simp [Fz.burn, Nat.testBit_or, Nat.one_shiftLeft, Nat.testBit_two_pow]
theorem burn_byte (f : Fz) {k j : Nat} (h : k ≠ j) (v : UInt8) : byteOf (f.burn k v) j = byteOf f j := by
  unfold byteOf Fz.burn
  rw [List.getElem?_set_ne h]
theorem burnR_fwd (f : Fz) (i : Int) (v : UInt8) : Fwd f (burnR f i v).1 := by
  unfold burnR
  split
  · exact Fwd.refl f
  · rename_i hi
    split
    · exact Fwd.refl f
    · rename_i hb
      refine ⟨fun k hk h => ?_, fun _ _ => Nat.le_refl _⟩
      have hne : i.toNat ≠ k := fun e => by rw [e] at hb; exact hb h
      exact ⟨by rw [burn_bit f (by omega)]; simp [h], burn_byte f hne v⟩
theorem burnR_inv {f : Fz} (h : Inv f) (i : Int) (v : UInt8) : Inv (burnR f i v).1 := by
  unfold burnR
  split
  · exact h
  · rename_i hi
    split
    · exact h
    · intro k hk hf
      rw [burn_bit f (by omega)] at hf
      simp at hf
      rw [burn_byte f hf.2 v]
      exact h k hk hf.1
theorem raiseR_fwd (f : Fz) (ho : f.Ok) (i : Int) (x : Nat) : Fwd f (raiseR f i x).1 := by
  unfold raiseR
  split
  · exact Fwd.refl f
  · rename_i hi
    split
    · exact Fwd.refl f
    · rename_i hb
      refine ⟨fun k hk h => ⟨h, rfl⟩, fun k hk => ?_⟩
      simp only
      rw [List.getElem?_set]
      by_cases e : i.toNat = k
      · subst e
        rw [if_pos rfl, if_pos (by rw [ho.hc]; exact hk)]
        simp only [Option.getD_some]
        omega
      · rw [if_neg e]; exact Nat.le_refl _
theorem raiseR_inv {f : Fz} (h : Inv f) (i : Int) (x : Nat) : Inv (raiseR f i x).1 := by
  unfold raiseR
  split
  · exact h
  · split
    · exact h
    · exact h
theorem burnE_bad {f : Fz} {i : Int} (v : UInt8) (h : i < 0 ∨ 64 ≤ i) : (burnR f i v).2 = 153 := by unfold burnR; rw [if_pos h]
theorem burnE_ok {f : Fz} {i : Int} (v : UInt8) (h : ¬ (i < 0 ∨ 64 ≤ i)) : (burnR f i v).2 ≠ 153 := by
  unfold burnR; rw [if_neg h]; split <;> simp
structure NbIn (B wb cb : Nat) (W : World) (p i : Value) (wr : World) : Prop where
  x : ∃ (k a : Nat) (f : Fz), i = .int .i64 k ∧ p = .pointer (some ⟨a, 0, none⟩) ∧ HB wr a 53 f.cellsA ∧ HB wr wb 45 (mixW f f 0) ∧ HB wr cb 29 (mixC f f 0) ∧ f.Ok ∧ Inv f ∧ a ≠ wb ∧ a ≠ cb ∧ B ≤ a ∧ k ≤ 140737488351232 ∧ Below B W wr ∧ B ≤ wr.heap.size
structure N2In (B a wb cb : Nat) (f g : Fz) (W : World) (i : Value) (wr : World) : Prop where
  x : ∃ k : Nat, i = .int .i64 k ∧ k ≤ 64 ∧ HB wr a 53 g.cellsA ∧ HB wr wb 45 (mixW f g k) ∧ HB wr cb 29 (mixC f g 0) ∧ Below B W wr ∧ B ≤ wr.heap.size
structure N3In (B a wb cb : Nat) (f g : Fz) (W : World) (i : Value) (wr : World) : Prop where
  x : ∃ k : Nat, i = .int .i64 k ∧ k ≤ 4 ∧ HB wr a 53 g.cellsA ∧ HB wr wb 45 (mixW g g 0) ∧ HB wr cb 29 (mixC f g k) ∧ Below B W wr ∧ B ≤ wr.heap.size
theorem readR_at (f : Fz) {k : Nat} (hk : k < 64) : readR f k = (byteOf f k, f.n.testBit k, 0) := by
  unfold readR byteOf; rw [if_neg (by omega), Int.toNat_natCast]
theorem counterR_at (f : Fz) {k : Nat} (hk : k < 4) : counterR f k = (f.c[k]?.getD 0, 0) := by
  unfold counterR; rw [if_neg (by omega), Int.toNat_natCast]
set_option maxRecDepth 100000 in
set_option maxHeartbeats 4000000 in
theorem core (w : World) (ao : Option Addr) (len cap : Nat) (l : List OpZ) (hl : l.length = len) (hlc : len ≤ cap) (hcap : cap * 32 ≤ 140737488351232) (hr : RdS ocells 5 w ao l) (hok : ∀ o ∈ l, OpZ.Ok o) :
    Calls Try.prog 4 #[.slice ao len cap] w fun e w' => e = .returned (.bool true) ∧ Below w.heap.size w w' := by
  have hz1 : ∀ w, (zeroValue 45).run Try.prog w = .ok (.agg (mixW Fz.zero Fz.zero 0).toArray) w := fun w => by kernel_rfl
  have hz2 : ∀ w, (zeroValue 29).run Try.prog w = .ok (.agg (mixC Fz.zero Fz.zero 0).toArray) w := fun w => by kernel_rfl
  have hA := Lib.hid (HB.new w Fz.zero.cellsA 53)
  have hB0 := Lib.hid ((Below.refl w.heap.size w).alloc (Nat.le_refl _) (.cells Fz.zero.cellsA.toArray 53))
  go_enter Try.func4, Try.ntmps4
  go_wp2_with fail
  refine (new_any _).mono ?_
  rintro e w' ⟨rfl, rfl⟩
  go_wp2_with fail
  refine (alive_any _).mono ?_
  rintro e w2 ⟨rfl, hb2⟩
  have hB2 := hB0.out.trans (hb2.mono hB0.out.size)
  have hA2 := hA.out.later hb2
  have hlt2 := hA2.lt
  clear hb2 hA hB0
  have hW3 := HB.new w2 (mixW Fz.zero Fz.zero 0) 45
  have hA3 := hA2.alloc (.cells (mixW Fz.zero Fz.zero 0).toArray 45)
  have hB3 := hB2.alloc hB2.size (.cells (mixW Fz.zero Fz.zero 0).toArray 45)
  have hC4 := HB.new (w2.alloc (.cells (mixW Fz.zero Fz.zero 0).toArray 45)) (mixC Fz.zero Fz.zero 0) 29
  have hsz : (w2.alloc (.cells (mixW Fz.zero Fz.zero 0).toArray 45)).heap.size = w2.heap.size + 1 := by simp
  rw [hsz] at hC4
  have HC4 := Lib.hid hC4
  have HA4 := Lib.hid (hA3.alloc (.cells (mixC Fz.zero Fz.zero 0).toArray 29))
  have HW4 := Lib.hid (hW3.alloc (.cells (mixC Fz.zero Fz.zero 0).toArray 29))
  have HB4 := Lib.hid (hB3.alloc hB3.size (.cells (mixC Fz.zero Fz.zero 0).toArray 29))
  clear hC4 hA3 hW3 hB3 hsz hA2 hB2
  go_wp2_with fail
  generalize (w2.alloc (.cells (mixW Fz.zero Fz.zero 0).toArray 45)).alloc (.cells (mixC Fz.zero Fz.zero 0).toArray 29) = w4 at *
  obtain ⟨B, hBx⟩ : ∃ B, w.heap.size = B := ⟨_, rfl⟩
  rw [hBx] at HA4 HB4 hlt2 ⊢
  have HBx := Lib.hid hBx
  obtain ⟨wb, hwb⟩ : ∃ wb, w2.heap.size = wb := ⟨_, rfl⟩
  rw [hwb] at HC4 HW4 hlt2 ⊢
  obtain ⟨cb, hcb⟩ : ∃ cb, wb + 1 = cb := ⟨_, rfl⟩
  rw [hcb] at HC4 ⊢
  have hcw : cb ≠ wb := by omega
  have hBw : B ≤ wb := by omega
  have hBc : B ≤ cb := by omega
  have ha0 : B ≠ wb := by omega
  have ha1 : B ≠ cb := by omega
  clear hBx hwb hcb hz1 hz2 hlt2
  go_loopw [3, 6, 7, 8, 9, 10, 11, 12, 13, 14, 15] (fun p i _ _ _ _ _ _ _ _ _ wr => NbIn B wb cb w p i wr) (fun _ i _ _ _ _ _ _ _ _ _ _ => len - (intOf i).toNat)
  case atStart => exact ⟨0, B, Fz.zero, rfl, rfl, HA4.out, HW4.out, HC4.out, zero_ok, zero_inv, ha0, ha1, Nat.le_refl _, by omega, HB4.out, by have := HB4.out.size; rw [HBx.out] at this; exact this⟩
  case round =>
    clear HA4 HW4 HC4 HB4 ha0 ha1
    obtain ⟨k, a, f, rfl, rfl, hA, hW, hC, ho, hinv, haw, hac, hBa, hk, hBr, hBs⟩ := hrel
    have HF := Lib.hid ho
    have HFI := Lib.hid hinv
    have HA := Lib.hid hA
    have HW := Lib.hid hW
    have HC := Lib.hid hC
    have Hl := Lib.hid hl
    clear ho hinv hA hW hC
    by_cases hlt : k < len
    · obtain ⟨o, hlk⟩ : ∃ o, l[k]? = some o := ⟨_, List.getElem?_eq_getElem (show k < l.length by omega)⟩
      obtain ⟨x, off, rfl, hx, hc⟩ := hr k o hlk
      have hoo := Lib.hid (hok _ (List.mem_of_getElem? hlk))
      clear hl hlk
      obtain ⟨q, i, n, v, c⟩ := o
      have hcell := fun w' (h : Below B w w') i v hi => (h.cell (p := ⟨x, off + k * 5 + i, none⟩) (by rw [← HBx.out]; exact hx)).trans (hc i v hi)
      have c0 := hcell wr hBr 0 _ rfl
      have c1 := hcell wr hBr 1 _ rfl
      have c2 := hcell wr hBr 2 _ rfl
      have c3 := hcell wr hBr 3 _ rfl
      have c4 := hcell wr hBr 4 _ rfl
      simp only [Nat.add_zero] at c0
      clear hc hcell
      have e0 : (0 : Int) ≤ (k : Int) := by omega
      have e1 : (k : Int) < (len : Int) := by omega
      by_cases h2000 : k < 2000
      · have hT2 : (k : Int) < 2000 := by omega
        have HX0 := Lib.hid (HB.new wr [.int .i64 q, .int .i64 i, .int .i64 n, .int .u8 v.toNat, .int .u32 c] 34)
        have HA0 := Lib.hid (HA.out.alloc (.cells #[.int .i64 q, .int .i64 i, .int .i64 n, .int .u8 v.toNat, .int .u32 c] 34))
        have HW0 := Lib.hid (HW.out.alloc (.cells #[.int .i64 q, .int .i64 i, .int .i64 n, .int .u8 v.toNat, .int .u32 c] 34))
        have HC0 := Lib.hid (HC.out.alloc (.cells #[.int .i64 q, .int .i64 i, .int .i64 n, .int .u8 v.toNat, .int .u32 c] 34))
        have HB0 := Lib.hid (hBr.alloc hBs (.cells #[.int .i64 q, .int .i64 i, .int .i64 n, .int .u8 v.toNat, .int .u32 c] 34))
        have hs0 : wr.heap.size < (wr.alloc (.cells #[.int .i64 q, .int .i64 i, .int .i64 n, .int .u8 v.toNat, .int .u32 c] 34)).heap.size := by simp
        have hax : a ≠ wr.heap.size := by have := HA.out.lt; omega
        by_cases hq1 : q = 1
        · subst hq1
          have H1 := fun w' h => Lib.hid (burn_any a f i v w' h HF.out)
          have HG := Lib.hid (burnR_ok HF.out i v)
          have HFW := Lib.hid (burnR_fwd f i v)
          have HGI := Lib.hid (burnR_inv HFI.out i v)
          have hbad := Lib.hid (burnE_bad (f := f) (i := i) v)
          have hgood := Lib.hid (burnE_ok (f := f) (i := i) v)
          unfold bv at H1
          generalize (burnR f i v).1 = g at *
          generalize (burnR f i v).2 = E at *
          go_wp2_with fail
          clear c0 c1 c2 c3 c4
          generalize wr.alloc (.cells #[.int .i64 1, .int .i64 i, .int .i64 n, .int .u8 v.toNat, .int .u32 c] 34) = w5 at *
          obtain ⟨bx, hbx⟩ : ∃ bx, wr.heap.size = bx := ⟨_, rfl⟩
          rw [hbx] at HX0 hs0 hax hBs ⊢
          refine (H1 _ HA0.out).out.mono ?_
          rintro e w6 ⟨rfl, hA6, hg6⟩
          have HA9 := Lib.hid hA6
          have HW9 := Lib.hid (HW0.out.grown hg6 (fun e => haw (by cases e; rfl)))
          have HC9 := Lib.hid (HC0.out.grown hg6 (fun e => hac (by cases e; rfl)))
          have hX6 := HX0.out.grown hg6 (fun e => hax (by cases e; rfl))
          have hB9 := Lib.hid (HB0.out.grown hg6 (by omega) (by intro k hk; cases hk; exact hBa))
          have hs9 : B ≤ w6.heap.size := by have := hg6.size; omega
          have c1 := hX6.cell (i := 1) rfl
          obtain ⟨a2, ha2⟩ : ∃ a2, a = a2 := ⟨_, rfl⟩
          rw [ha2] at haw hac HA9 ⊢
          have hBa2 : B ≤ a2 := by omega
          clear ha2 hA6 hg6 hX6 HX0 HA0 HW0 HC0 HB0 H1 HA HW HC hBr hbx
          by_cases h1 : i < 0
          · have hE := hbad.out (Or.inl h1)
            subst hE
            clear hbad hgood
            go_wp2_with fail
            clear c1
            go_loopw [9, 10, 11, 12] (fun i _ _ _ wr => N2In B a2 wb cb f g w i wr) (fun i _ _ _ _ => 64 - (intOf i).toNat)
            case atStart => exact ⟨0, rfl, by omega, HA9.out, HW9.out, HC9.out, hB9.out, hs9⟩
            case round =>
              clear HA9 HW9 HC9 hB9 hs9
              obtain ⟨j, rfl, hj, hA, hW, hC, hBj, hsj⟩ := hrel
              have HA := Lib.hid hA
              have HW := Lib.hid hW
              have HC := Lib.hid hC
              have HBj := Lib.hid hBj
              clear hA hW hC hBj
              by_cases hj64 : j < 64
              · have hrd := fun w' h => Lib.hid (read_any a2 g j w' h HG.out)
                simp only [readR_at g hj64] at hrd
                unfold bv at hrd
                have e0 : (0 : Int) ≤ (j : Int) := by omega
                have e1 : (j : Int) < 64 := by omega
                have hset := Lib.hid (mixW_set f g hj64)
                have hskip := Lib.hid (mixW_skip f g hj64)
                have hat := Lib.hid (mixW_at f g hj64)
                have hfw := Lib.hid (HFW.out.1 j hj64)
                have hgi := Lib.hid (HGI.out j hj64)
                have hwf : Hid (wasOf f j = if f.n.testBit j then ((byteOf f j).toNat : Int) + 1 else 0) := Lib.hid rfl
                have hwg : Hid (wasOf g j = if g.n.testBit j then ((byteOf g j).toNat : Int) + 1 else 0) := Lib.hid rfl
                have hbl : (byteOf g j).toNat < 256 := UInt8.toNat_lt _
                go_wp2_with fail
                refine (hrd _ HA.out).out.mono ?_
                rintro e w10 ⟨rfl, hd10⟩
                have hB10 := Lib.hid (HBj.out.trans (hd10.below _))
                have hA10 := Lib.hid (HA.out.drn hd10)
                have hW10 := HW.out.drn hd10
                have hC10 := Lib.hid (HC.out.drn hd10)
                have hs10 : B ≤ w10.heap.size := by rw [hd10.heap]; exact hsj
                clear hd10 HA HW HC HBj hsj hrd
                have c0 := hW10.cell hat.out
                have f0 := hW10.frozen j
                have HW10 := Lib.hid hW10
                clear hW10
                cases htg : g.n.testBit j
                · have htf : f.n.testBit j = false := by
                    cases h : f.n.testBit j
                    · rfl
                    · have := (hfw.out h).1; rw [htg] at this; cases this
                  have h0 := hgi.out htg
                  have hwf0 : wasOf f j = 0 := by rw [hwf.out, htf]; rfl
                  have hwg0 : wasOf g j = 0 := by rw [hwg.out, htg]; rfl
                  have hsk := Lib.hid (hskip.out (hwf0.trans hwg0.symm))
                  rw [hwf0] at c0
                  rw [h0] at hbl ⊢
                  clear hfw hgi hwf hwg htf h0 hwf0 hwg0 hset hskip hat htg f0 hbl
                  go_wp2_with fail
                  first
                  | (go_roundw
                     case rel => exact ⟨j + 1, by go_num, by omega, hA10.out, by rw [← hsk.out]; exact HW10.out, hC10.out, hB10.out, hs10⟩
                     case measure => (first | omega | (simp [intOf] <;> omega) | (simp only [intOf] <;> omega)))
                  | exact ⟨⟨j + 1, by go_num, by omega, hA10.out, by rw [← hsk.out]; exact HW10.out, hC10.out, hB10.out, hs10⟩, by (first | omega | (simp [intOf] <;> omega) | (simp only [intOf] <;> omega))⟩
                  | (refine ⟨?_, by (first | omega | (simp [intOf] <;> omega) | (simp only [intOf] <;> omega))⟩
                     (repeat apply Exists.intro)
                     refine (fun a b => And.intro b a) ?_ ?_
                     · first | rfl | ((repeat refine ⟨rfl, ?_⟩); rfl)
                     exact ⟨j + 1, by go_num, by omega, hA10.out, by rw [← hsk.out]; exact HW10.out, hC10.out, hB10.out, hs10⟩)
                · have hwg1 : wasOf g j = (byteOf g j).toNat + 1 := by rw [hwg.out, htg]; rfl
                  rw [hwg1] at hset
                  have hst := HW10.out.set j (.int .i64 ((byteOf g j).toNat + 1))
                  rw [hset.out] at hst
                  have hgs := grown_set w10 ⟨wb, j, none⟩ (.int .i64 ((byteOf g j).toNat + 1))
                  have HW11 := Lib.hid hst
                  have hA11 := Lib.hid (hA10.out.grown hgs (fun e => by cases e; exact haw rfl))
                  have hC11 := Lib.hid (hC10.out.grown hgs (fun e => by cases e; exact hcw rfl))
                  have hB11 := Lib.hid (hB10.out.grown hgs hs10 (by intro k hk; cases hk; exact hBw))
                  have hs11 := Nat.le_trans hs10 hgs.size
                  cases htf : f.n.testBit j
                  · have hwf0 : wasOf f j = 0 := by rw [hwf.out, htf]; rfl
                    rw [hwf0] at c0
                    clear hfw hgi hwf hwg htf hwf0 hset hskip hat htg hwg1 hst hgs
                    generalize byteOf g j = v at *
                    go_wp2_with fail
                    first
                    | (go_roundw
                       case rel => exact ⟨j + 1, by go_num, by omega, hA11.out, HW11.out, hC11.out, hB11.out, hs11⟩
                       case measure => (first | omega | (simp [intOf] <;> omega) | (simp only [intOf] <;> omega)))
                    | exact ⟨⟨j + 1, by go_num, by omega, hA11.out, HW11.out, hC11.out, hB11.out, hs11⟩, by (first | omega | (simp [intOf] <;> omega) | (simp only [intOf] <;> omega))⟩
                    | (refine ⟨?_, by (first | omega | (simp [intOf] <;> omega) | (simp only [intOf] <;> omega))⟩
                       (repeat apply Exists.intro)
                       refine (fun a b => And.intro b a) ?_ ?_
                       · first | rfl | ((repeat refine ⟨rfl, ?_⟩); rfl)
                       exact ⟨j + 1, by go_num, by omega, hA11.out, HW11.out, hC11.out, hB11.out, hs11⟩)
                  · have hwf1 : wasOf f j = (byteOf g j).toNat + 1 := by rw [hwf.out, htf, (hfw.out htf).2]; rfl
                    rw [hwf1] at c0
                    clear hfw hgi hwf hwg htf hwf1 hset hskip hat htg hwg1 hst hgs
                    generalize byteOf g j = v at *
                    go_wp2_with fail
                    first
                    | (go_roundw
                       case rel => exact ⟨j + 1, by go_num, by omega, hA11.out, HW11.out, hC11.out, hB11.out, hs11⟩
                       case measure => (first | omega | (simp [intOf] <;> omega) | (simp only [intOf] <;> omega)))
                    | exact ⟨⟨j + 1, by go_num, by omega, hA11.out, HW11.out, hC11.out, hB11.out, hs11⟩, by (first | omega | (simp [intOf] <;> omega) | (simp only [intOf] <;> omega))⟩
                    | (refine ⟨?_, by (first | omega | (simp [intOf] <;> omega) | (simp only [intOf] <;> omega))⟩
                       (repeat apply Exists.intro)
                       refine (fun a b => And.intro b a) ?_ ?_
                       · first | rfl | ((repeat refine ⟨rfl, ?_⟩); rfl)
                       exact ⟨j + 1, by go_num, by omega, hA11.out, HW11.out, hC11.out, hB11.out, hs11⟩)
              · obtain rfl : j = 64 := by omega
                rw [mixW_end] at HW
                clear hj64 hj
                go_wp2_with fail
                go_loopw [13, 14, 15] (fun i _ _ wr => N3In B a2 wb cb f g w i wr) (fun i _ _ _ => 4 - (intOf i).toNat)
                case atStart => exact ⟨0, rfl, by omega, HA.out, HW.out, HC.out, HBj.out, hsj⟩
                case round =>
                  clear HA HW HC HBj hsj
                  obtain ⟨j, rfl, hj, hA, hW, hC, hBj, hsj⟩ := hrel
                  have HA := Lib.hid hA
                  have HW := Lib.hid hW
                  have HC := Lib.hid hC
                  have HBj := Lib.hid hBj
                  clear hA hW hC hBj
                  by_cases hj4 : j < 4
                  · have hcn := fun w' h => Lib.hid (counter_any a2 g j w' h HG.out)
                    simp only [counterR_at g hj4] at hcn
                    unfold cv at hcn
                    have e0 : (0 : Int) ≤ (j : Int) := by omega
                    have e1 : (j : Int) < 4 := by omega
                    have c0 := HC.out.cell (mixC_at f g hj4)
                    have f0 := HC.out.frozen j
                    have hle := HFW.out.2 j hj4
                    have hst := HC.out.set j (.int .u32 (g.c[j]?.getD 0 : Nat))
                    rw [mixC_set f g hj4] at hst
                    have hgs := grown_set wr ⟨cb, j, none⟩ (.int .u32 (g.c[j]?.getD 0 : Nat))
                    have HC11 := Lib.hid hst
                    have hA11 := Lib.hid (HA.out.grown hgs (fun e => by cases e; exact hac rfl))
                    have hW11 := Lib.hid (HW.out.grown hgs (fun e => by cases e; exact hcw rfl))
                    have hB11 := Lib.hid (HBj.out.grown hgs hsj (by intro k hk; cases hk; exact hBc))
                    have hs11 := Nat.le_trans hsj hgs.size
                    clear hst hgs
                    generalize g.c[j]?.getD 0 = y at *
                    generalize f.c[j]?.getD 0 = y0 at *
                    go_wp2_with fail
                    refine (hcn _ HA.out).out.mono ?_
                    rintro e w10 ⟨rfl, rfl⟩
                    clear hcn
                    go_wp2_with fail
                    first
                    | (go_roundw
                       case rel => exact ⟨j + 1, by go_num, by omega, hA11.out, hW11.out, HC11.out, hB11.out, hs11⟩
                       case measure => (first | omega | (simp [intOf] <;> omega) | (simp only [intOf] <;> omega)))
                    | exact ⟨⟨j + 1, by go_num, by omega, hA11.out, hW11.out, HC11.out, hB11.out, hs11⟩, by (first | omega | (simp [intOf] <;> omega) | (simp only [intOf] <;> omega))⟩
                    | (refine ⟨?_, by (first | omega | (simp [intOf] <;> omega) | (simp only [intOf] <;> omega))⟩
                       (repeat apply Exists.intro)
                       refine (fun a b => And.intro b a) ?_ ?_
                       · first | rfl | ((repeat refine ⟨rfl, ?_⟩); rfl)
                       exact ⟨j + 1, by go_num, by omega, hA11.out, hW11.out, HC11.out, hB11.out, hs11⟩)
                  · obtain rfl : j = 4 := by omega
                    rw [mixC_end] at HC
                    clear hj4 hj
                    go_wp2_with fail
                    first
                    | (go_roundw
                       case rel => exact ⟨k + 1, a2, g, by go_num, rfl, HA.out, HW.out, HC.out, HG.out, HGI.out, haw, hac, hBa2, by omega, HBj.out, hsj⟩
                       case measure => (first | omega | (simp [intOf] <;> omega) | (simp only [intOf] <;> omega)))
                    | exact ⟨⟨k + 1, a2, g, by go_num, rfl, HA.out, HW.out, HC.out, HG.out, HGI.out, haw, hac, hBa2, by omega, HBj.out, hsj⟩, by (first | omega | (simp [intOf] <;> omega) | (simp only [intOf] <;> omega))⟩
                    | (refine ⟨?_, by (first | omega | (simp [intOf] <;> omega) | (simp only [intOf] <;> omega))⟩
                       (repeat apply Exists.intro)
                       refine (fun a b => And.intro b a) ?_ ?_
                       · first | rfl | ((repeat refine ⟨rfl, ?_⟩); rfl)
                       exact ⟨k + 1, a2, g, by go_num, rfl, HA.out, HW.out, HC.out, HG.out, HGI.out, haw, hac, hBa2, by omega, HBj.out, hsj⟩)
          by_cases h2 : 64 ≤ i
          · have hE := hbad.out (Or.inr h2)
            subst hE
            clear hbad hgood
            go_wp2_with fail
            clear c1
            go_loopw [9, 10, 11, 12] (fun i _ _ _ wr => N2In B a2 wb cb f g w i wr) (fun i _ _ _ _ => 64 - (intOf i).toNat)
            case atStart => exact ⟨0, rfl, by omega, HA9.out, HW9.out, HC9.out, hB9.out, hs9⟩
            case round =>
              clear HA9 HW9 HC9 hB9 hs9
              obtain ⟨j, rfl, hj, hA, hW, hC, hBj, hsj⟩ := hrel
              have HA := Lib.hid hA
              have HW := Lib.hid hW
              have HC := Lib.hid hC
              have HBj := Lib.hid hBj
              clear hA hW hC hBj
              by_cases hj64 : j < 64
              · have hrd := fun w' h => Lib.hid (read_any a2 g j w' h HG.out)
                simp only [readR_at g hj64] at hrd
                unfold bv at hrd
                have e0 : (0 : Int) ≤ (j : Int) := by omega
                have e1 : (j : Int) < 64 := by omega
                have hset := Lib.hid (mixW_set f g hj64)
                have hskip := Lib.hid (mixW_skip f g hj64)
                have hat := Lib.hid (mixW_at f g hj64)
                have hfw := Lib.hid (HFW.out.1 j hj64)
                have hgi := Lib.hid (HGI.out j hj64)
                have hwf : Hid (wasOf f j = if f.n.testBit j then ((byteOf f j).toNat : Int) + 1 else 0) := Lib.hid rfl
                have hwg : Hid (wasOf g j = if g.n.testBit j then ((byteOf g j).toNat : Int) + 1 else 0) := Lib.hid rfl
                have hbl : (byteOf g j).toNat < 256 := UInt8.toNat_lt _
                go_wp2_with fail
                refine (hrd _ HA.out).out.mono ?_
                rintro e w10 ⟨rfl, hd10⟩
                have hB10 := Lib.hid (HBj.out.trans (hd10.below _))
                have hA10 := Lib.hid (HA.out.drn hd10)
                have hW10 := HW.out.drn hd10
                have hC10 := Lib.hid (HC.out.drn hd10)
                have hs10 : B ≤ w10.heap.size := by rw [hd10.heap]; exact hsj
                clear hd10 HA HW HC HBj hsj hrd
                have c0 := hW10.cell hat.out
                have f0 := hW10.frozen j
                have HW10 := Lib.hid hW10
                clear hW10
                cases htg : g.n.testBit j
                · have htf : f.n.testBit j = false := by
                    cases h : f.n.testBit j
                    · rfl
                    · have := (hfw.out h).1; rw [htg] at this; cases this
                  have h0 := hgi.out htg
                  have hwf0 : wasOf f j = 0 := by rw [hwf.out, htf]; rfl
                  have hwg0 : wasOf g j = 0 := by rw [hwg.out, htg]; rfl
                  have hsk := Lib.hid (hskip.out (hwf0.trans hwg0.symm))
                  rw [hwf0] at c0
                  rw [h0] at hbl ⊢
                  clear hfw hgi hwf hwg htf h0 hwf0 hwg0 hset hskip hat htg f0 hbl
                  go_wp2_with fail
                  first
                  | (go_roundw
                     case rel => exact ⟨j + 1, by go_num, by omega, hA10.out, by rw [← hsk.out]; exact HW10.out, hC10.out, hB10.out, hs10⟩
                     case measure => (first | omega | (simp [intOf] <;> omega) | (simp only [intOf] <;> omega)))
                  | exact ⟨⟨j + 1, by go_num, by omega, hA10.out, by rw [← hsk.out]; exact HW10.out, hC10.out, hB10.out, hs10⟩, by (first | omega | (simp [intOf] <;> omega) | (simp only [intOf] <;> omega))⟩
                  | (refine ⟨?_, by (first | omega | (simp [intOf] <;> omega) | (simp only [intOf] <;> omega))⟩
                     (repeat apply Exists.intro)
                     refine (fun a b => And.intro b a) ?_ ?_
                     · first | rfl | ((repeat refine ⟨rfl, ?_⟩); rfl)
                     exact ⟨j + 1, by go_num, by omega, hA10.out, by rw [← hsk.out]; exact HW10.out, hC10.out, hB10.out, hs10⟩)
                · have hwg1 : wasOf g j = (byteOf g j).toNat + 1 := by rw [hwg.out, htg]; rfl
                  rw [hwg1] at hset
                  have hst := HW10.out.set j (.int .i64 ((byteOf g j).toNat + 1))
                  rw [hset.out] at hst
                  have hgs := grown_set w10 ⟨wb, j, none⟩ (.int .i64 ((byteOf g j).toNat + 1))
                  have HW11 := Lib.hid hst
                  have hA11 := Lib.hid (hA10.out.grown hgs (fun e => by cases e; exact haw rfl))
                  have hC11 := Lib.hid (hC10.out.grown hgs (fun e => by cases e; exact hcw rfl))
                  have hB11 := Lib.hid (hB10.out.grown hgs hs10 (by intro k hk; cases hk; exact hBw))
                  have hs11 := Nat.le_trans hs10 hgs.size
                  cases htf : f.n.testBit j
                  · have hwf0 : wasOf f j = 0 := by rw [hwf.out, htf]; rfl
                    rw [hwf0] at c0
                    clear hfw hgi hwf hwg htf hwf0 hset hskip hat htg hwg1 hst hgs
                    generalize byteOf g j = v at *
                    go_wp2_with fail
                    first
                    | (go_roundw
                       case rel => exact ⟨j + 1, by go_num, by omega, hA11.out, HW11.out, hC11.out, hB11.out, hs11⟩
                       case measure => (first | omega | (simp [intOf] <;> omega) | (simp only [intOf] <;> omega)))
                    | exact ⟨⟨j + 1, by go_num, by omega, hA11.out, HW11.out, hC11.out, hB11.out, hs11⟩, by (first | omega | (simp [intOf] <;> omega) | (simp only [intOf] <;> omega))⟩
                    | (refine ⟨?_, by (first | omega | (simp [intOf] <;> omega) | (simp only [intOf] <;> omega))⟩
                       (repeat apply Exists.intro)
                       refine (fun a b => And.intro b a) ?_ ?_
                       · first | rfl | ((repeat refine ⟨rfl, ?_⟩); rfl)
                       exact ⟨j + 1, by go_num, by omega, hA11.out, HW11.out, hC11.out, hB11.out, hs11⟩)
                  · have hwf1 : wasOf f j = (byteOf g j).toNat + 1 := by rw [hwf.out, htf, (hfw.out htf).2]; rfl
                    rw [hwf1] at c0
                    clear hfw hgi hwf hwg htf hwf1 hset hskip hat htg hwg1 hst hgs
                    generalize byteOf g j = v at *
                    go_wp2_with fail
                    first
                    | (go_roundw
                       case rel => exact ⟨j + 1, by go_num, by omega, hA11.out, HW11.out, hC11.out, hB11.out, hs11⟩
                       case measure => (first | omega | (simp [intOf] <;> omega) | (simp only [intOf] <;> omega)))
                    | exact ⟨⟨j + 1, by go_num, by omega, hA11.out, HW11.out, hC11.out, hB11.out, hs11⟩, by (first | omega | (simp [intOf] <;> omega) | (simp only [intOf] <;> omega))⟩
                    | (refine ⟨?_, by (first | omega | (simp [intOf] <;> omega) | (simp only [intOf] <;> omega))⟩
                       (repeat apply Exists.intro)
                       refine (fun a b => And.intro b a) ?_ ?_
                       · first | rfl | ((repeat refine ⟨rfl, ?_⟩); rfl)
                       exact ⟨j + 1, by go_num, by omega, hA11.out, HW11.out, hC11.out, hB11.out, hs11⟩)
              · obtain rfl : j = 64 := by omega
                rw [mixW_end] at HW
                clear hj64 hj
                go_wp2_with fail
                go_loopw [13, 14, 15] (fun i _ _ wr => N3In B a2 wb cb f g w i wr) (fun i _ _ _ => 4 - (intOf i).toNat)
                case atStart => exact ⟨0, rfl, by omega, HA.out, HW.out, HC.out, HBj.out, hsj⟩
                case round =>
                  clear HA HW HC HBj hsj
                  obtain ⟨j, rfl, hj, hA, hW, hC, hBj, hsj⟩ := hrel
                  have HA := Lib.hid hA
                  have HW := Lib.hid hW
                  have HC := Lib.hid hC
                  have HBj := Lib.hid hBj
                  clear hA hW hC hBj
                  by_cases hj4 : j < 4
                  · have hcn := fun w' h => Lib.hid (counter_any a2 g j w' h HG.out)
                    simp only [counterR_at g hj4] at hcn
                    unfold cv at hcn
                    have e0 : (0 : Int) ≤ (j : Int) := by omega
                    have e1 : (j : Int) < 4 := by omega
                    have c0 := HC.out.cell (mixC_at f g hj4)
                    have f0 := HC.out.frozen j
                    have hle := HFW.out.2 j hj4
                    have hst := HC.out.set j (.int .u32 (g.c[j]?.getD 0 : Nat))
                    rw [mixC_set f g hj4] at hst
                    have hgs := grown_set wr ⟨cb, j, none⟩ (.int .u32 (g.c[j]?.getD 0 : Nat))
                    have HC11 := Lib.hid hst
                    have hA11 := Lib.hid (HA.out.grown hgs (fun e => by cases e; exact hac rfl))
                    have hW11 := Lib.hid (HW.out.grown hgs (fun e => by cases e; exact hcw rfl))
                    have hB11 := Lib.hid (HBj.out.grown hgs hsj (by intro k hk; cases hk; exact hBc))
                    have hs11 := Nat.le_trans hsj hgs.size
                    clear hst hgs
                    generalize g.c[j]?.getD 0 = y at *
                    generalize f.c[j]?.getD 0 = y0 at *
                    go_wp2_with fail
                    refine (hcn _ HA.out).out.mono ?_
                    rintro e w10 ⟨rfl, rfl⟩
                    clear hcn
                    go_wp2_with fail
                    first
                    | (go_roundw
                       case rel => exact ⟨j + 1, by go_num, by omega, hA11.out, hW11.out, HC11.out, hB11.out, hs11⟩
                       case measure => (first | omega | (simp [intOf] <;> omega) | (simp only [intOf] <;> omega)))
                    | exact ⟨⟨j + 1, by go_num, by omega, hA11.out, hW11.out, HC11.out, hB11.out, hs11⟩, by (first | omega | (simp [intOf] <;> omega) | (simp only [intOf] <;> omega))⟩
                    | (refine ⟨?_, by (first | omega | (simp [intOf] <;> omega) | (simp only [intOf] <;> omega))⟩
                       (repeat apply Exists.intro)
                       refine (fun a b => And.intro b a) ?_ ?_
                       · first | rfl | ((repeat refine ⟨rfl, ?_⟩); rfl)
                       exact ⟨j + 1, by go_num, by omega, hA11.out, hW11.out, HC11.out, hB11.out, hs11⟩)
                  · obtain rfl : j = 4 := by omega
                    rw [mixC_end] at HC
                    clear hj4 hj
                    go_wp2_with fail
                    first
                    | (go_roundw
                       case rel => exact ⟨k + 1, a2, g, by go_num, rfl, HA.out, HW.out, HC.out, HG.out, HGI.out, haw, hac, hBa2, by omega, HBj.out, hsj⟩
                       case measure => (first | omega | (simp [intOf] <;> omega) | (simp only [intOf] <;> omega)))
                    | exact ⟨⟨k + 1, a2, g, by go_num, rfl, HA.out, HW.out, HC.out, HG.out, HGI.out, haw, hac, hBa2, by omega, HBj.out, hsj⟩, by (first | omega | (simp [intOf] <;> omega) | (simp only [intOf] <;> omega))⟩
                    | (refine ⟨?_, by (first | omega | (simp [intOf] <;> omega) | (simp only [intOf] <;> omega))⟩
                       (repeat apply Exists.intro)
                       refine (fun a b => And.intro b a) ?_ ?_
                       · first | rfl | ((repeat refine ⟨rfl, ?_⟩); rfl)
                       exact ⟨k + 1, a2, g, by go_num, rfl, HA.out, HW.out, HC.out, HG.out, HGI.out, haw, hac, hBa2, by omega, HBj.out, hsj⟩)
          have hE := hgood.out (by omega)
          have t1 : (E == 153) = false := beq_eq_false_iff_ne.2 hE
          clear hbad hgood hE
          go_wp2_with fail
          clear c1
          go_loopw [9, 10, 11, 12] (fun i _ _ _ wr => N2In B a2 wb cb f g w i wr) (fun i _ _ _ _ => 64 - (intOf i).toNat)
          case atStart => exact ⟨0, rfl, by omega, HA9.out, HW9.out, HC9.out, hB9.out, hs9⟩
          case round =>
            clear HA9 HW9 HC9 hB9 hs9
            obtain ⟨j, rfl, hj, hA, hW, hC, hBj, hsj⟩ := hrel
            have HA := Lib.hid hA
            have HW := Lib.hid hW
            have HC := Lib.hid hC
            have HBj := Lib.hid hBj
            clear hA hW hC hBj
            by_cases hj64 : j < 64
            · have hrd := fun w' h => Lib.hid (read_any a2 g j w' h HG.out)
              simp only [readR_at g hj64] at hrd
              unfold bv at hrd
              have e0 : (0 : Int) ≤ (j : Int) := by omega
              have e1 : (j : Int) < 64 := by omega
              have hset := Lib.hid (mixW_set f g hj64)
              have hskip := Lib.hid (mixW_skip f g hj64)
              have hat := Lib.hid (mixW_at f g hj64)
              have hfw := Lib.hid (HFW.out.1 j hj64)
              have hgi := Lib.hid (HGI.out j hj64)
              have hwf : Hid (wasOf f j = if f.n.testBit j then ((byteOf f j).toNat : Int) + 1 else 0) := Lib.hid rfl
              have hwg : Hid (wasOf g j = if g.n.testBit j then ((byteOf g j).toNat : Int) + 1 else 0) := Lib.hid rfl
              have hbl : (byteOf g j).toNat < 256 := UInt8.toNat_lt _
              go_wp2_with fail
              refine (hrd _ HA.out).out.mono ?_
              rintro e w10 ⟨rfl, hd10⟩
              have hB10 := Lib.hid (HBj.out.trans (hd10.below _))
              have hA10 := Lib.hid (HA.out.drn hd10)
              have hW10 := HW.out.drn hd10
              have hC10 := Lib.hid (HC.out.drn hd10)
              have hs10 : B ≤ w10.heap.size := by rw [hd10.heap]; exact hsj
              clear hd10 HA HW HC HBj hsj hrd
              have c0 := hW10.cell hat.out
              have f0 := hW10.frozen j
              have HW10 := Lib.hid hW10
              clear hW10
              cases htg : g.n.testBit j
              · have htf : f.n.testBit j = false := by
                  cases h : f.n.testBit j
                  · rfl
                  · have := (hfw.out h).1; rw [htg] at this; cases this
                have h0 := hgi.out htg
                have hwf0 : wasOf f j = 0 := by rw [hwf.out, htf]; rfl
                have hwg0 : wasOf g j = 0 := by rw [hwg.out, htg]; rfl
                have hsk := Lib.hid (hskip.out (hwf0.trans hwg0.symm))
                rw [hwf0] at c0
                rw [h0] at hbl ⊢
                clear hfw hgi hwf hwg htf h0 hwf0 hwg0 hset hskip hat htg f0 hbl
                go_wp2_with fail
                first
                | (go_roundw
                   case rel => exact ⟨j + 1, by go_num, by omega, hA10.out, by rw [← hsk.out]; exact HW10.out, hC10.out, hB10.out, hs10⟩
                   case measure => (first | omega | (simp [intOf] <;> omega) | (simp only [intOf] <;> omega)))
                | exact ⟨⟨j + 1, by go_num, by omega, hA10.out, by rw [← hsk.out]; exact HW10.out, hC10.out, hB10.out, hs10⟩, by (first | omega | (simp [intOf] <;> omega) | (simp only [intOf] <;> omega))⟩
                | (refine ⟨?_, by (first | omega | (simp [intOf] <;> omega) | (simp only [intOf] <;> omega))⟩
                   (repeat apply Exists.intro)
                   refine (fun a b => And.intro b a) ?_ ?_
                   · first | rfl | ((repeat refine ⟨rfl, ?_⟩); rfl)
                   exact ⟨j + 1, by go_num, by omega, hA10.out, by rw [← hsk.out]; exact HW10.out, hC10.out, hB10.out, hs10⟩)
              · have hwg1 : wasOf g j = (byteOf g j).toNat + 1 := by rw [hwg.out, htg]; rfl
                rw [hwg1] at hset
                have hst := HW10.out.set j (.int .i64 ((byteOf g j).toNat + 1))
                rw [hset.out] at hst
                have hgs := grown_set w10 ⟨wb, j, none⟩ (.int .i64 ((byteOf g j).toNat + 1))
                have HW11 := Lib.hid hst
                have hA11 := Lib.hid (hA10.out.grown hgs (fun e => by cases e; exact haw rfl))
                have hC11 := Lib.hid (hC10.out.grown hgs (fun e => by cases e; exact hcw rfl))
                have hB11 := Lib.hid (hB10.out.grown hgs hs10 (by intro k hk; cases hk; exact hBw))
                have hs11 := Nat.le_trans hs10 hgs.size
                cases htf : f.n.testBit j
                · have hwf0 : wasOf f j = 0 := by rw [hwf.out, htf]; rfl
                  rw [hwf0] at c0
                  clear hfw hgi hwf hwg htf hwf0 hset hskip hat htg hwg1 hst hgs
                  generalize byteOf g j = v at *
                  go_wp2_with fail
                  first
                  | (go_roundw
                     case rel => exact ⟨j + 1, by go_num, by omega, hA11.out, HW11.out, hC11.out, hB11.out, hs11⟩
                     case measure => (first | omega | (simp [intOf] <;> omega) | (simp only [intOf] <;> omega)))
                  | exact ⟨⟨j + 1, by go_num, by omega, hA11.out, HW11.out, hC11.out, hB11.out, hs11⟩, by (first | omega | (simp [intOf] <;> omega) | (simp only [intOf] <;> omega))⟩
                  | (refine ⟨?_, by (first | omega | (simp [intOf] <;> omega) | (simp only [intOf] <;> omega))⟩
                     (repeat apply Exists.intro)
                     refine (fun a b => And.intro b a) ?_ ?_
                     · first | rfl | ((repeat refine ⟨rfl, ?_⟩); rfl)
                     exact ⟨j + 1, by go_num, by omega, hA11.out, HW11.out, hC11.out, hB11.out, hs11⟩)
                · have hwf1 : wasOf f j = (byteOf g j).toNat + 1 := by rw [hwf.out, htf, (hfw.out htf).2]; rfl
                  rw [hwf1] at c0
                  clear hfw hgi hwf hwg htf hwf1 hset hskip hat htg hwg1 hst hgs
                  generalize byteOf g j = v at *
                  go_wp2_with fail
                  first
                  | (go_roundw
                     case rel => exact ⟨j + 1, by go_num, by omega, hA11.out, HW11.out, hC11.out, hB11.out, hs11⟩
                     case measure => (first | omega | (simp [intOf] <;> omega) | (simp only [intOf] <;> omega)))
                  | exact ⟨⟨j + 1, by go_num, by omega, hA11.out, HW11.out, hC11.out, hB11.out, hs11⟩, by (first | omega | (simp [intOf] <;> omega) | (simp only [intOf] <;> omega))⟩
                  | (refine ⟨?_, by (first | omega | (simp [intOf] <;> omega) | (simp only [intOf] <;> omega))⟩
                     (repeat apply Exists.intro)
                     refine (fun a b => And.intro b a) ?_ ?_
                     · first | rfl | ((repeat refine ⟨rfl, ?_⟩); rfl)
                     exact ⟨j + 1, by go_num, by omega, hA11.out, HW11.out, hC11.out, hB11.out, hs11⟩)
            · obtain rfl : j = 64 := by omega
              rw [mixW_end] at HW
              clear hj64 hj
              go_wp2_with fail
              go_loopw [13, 14, 15] (fun i _ _ wr => N3In B a2 wb cb f g w i wr) (fun i _ _ _ => 4 - (intOf i).toNat)
              case atStart => exact ⟨0, rfl, by omega, HA.out, HW.out, HC.out, HBj.out, hsj⟩
              case round =>
                clear HA HW HC HBj hsj
                obtain ⟨j, rfl, hj, hA, hW, hC, hBj, hsj⟩ := hrel
                have HA := Lib.hid hA
                have HW := Lib.hid hW
                have HC := Lib.hid hC
                have HBj := Lib.hid hBj
                clear hA hW hC hBj
                by_cases hj4 : j < 4
                · have hcn := fun w' h => Lib.hid (counter_any a2 g j w' h HG.out)
                  simp only [counterR_at g hj4] at hcn
                  unfold cv at hcn
                  have e0 : (0 : Int) ≤ (j : Int) := by omega
                  have e1 : (j : Int) < 4 := by omega
                  have c0 := HC.out.cell (mixC_at f g hj4)
                  have f0 := HC.out.frozen j
                  have hle := HFW.out.2 j hj4
                  have hst := HC.out.set j (.int .u32 (g.c[j]?.getD 0 : Nat))
                  rw [mixC_set f g hj4] at hst
                  have hgs := grown_set wr ⟨cb, j, none⟩ (.int .u32 (g.c[j]?.getD 0 : Nat))
                  have HC11 := Lib.hid hst
                  have hA11 := Lib.hid (HA.out.grown hgs (fun e => by cases e; exact hac rfl))
                  have hW11 := Lib.hid (HW.out.grown hgs (fun e => by cases e; exact hcw rfl))
                  have hB11 := Lib.hid (HBj.out.grown hgs hsj (by intro k hk; cases hk; exact hBc))
                  have hs11 := Nat.le_trans hsj hgs.size
                  clear hst hgs
                  generalize g.c[j]?.getD 0 = y at *
                  generalize f.c[j]?.getD 0 = y0 at *
                  go_wp2_with fail
                  refine (hcn _ HA.out).out.mono ?_
                  rintro e w10 ⟨rfl, rfl⟩
                  clear hcn
                  go_wp2_with fail
                  first
                  | (go_roundw
                     case rel => exact ⟨j + 1, by go_num, by omega, hA11.out, hW11.out, HC11.out, hB11.out, hs11⟩
                     case measure => (first | omega | (simp [intOf] <;> omega) | (simp only [intOf] <;> omega)))
                  | exact ⟨⟨j + 1, by go_num, by omega, hA11.out, hW11.out, HC11.out, hB11.out, hs11⟩, by (first | omega | (simp [intOf] <;> omega) | (simp only [intOf] <;> omega))⟩
                  | (refine ⟨?_, by (first | omega | (simp [intOf] <;> omega) | (simp only [intOf] <;> omega))⟩
                     (repeat apply Exists.intro)
                     refine (fun a b => And.intro b a) ?_ ?_
                     · first | rfl | ((repeat refine ⟨rfl, ?_⟩); rfl)
                     exact ⟨j + 1, by go_num, by omega, hA11.out, hW11.out, HC11.out, hB11.out, hs11⟩)
                · obtain rfl : j = 4 := by omega
                  rw [mixC_end] at HC
                  clear hj4 hj
                  go_wp2_with fail
                  first
                  | (go_roundw
                     case rel => exact ⟨k + 1, a2, g, by go_num, rfl, HA.out, HW.out, HC.out, HG.out, HGI.out, haw, hac, hBa2, by omega, HBj.out, hsj⟩
                     case measure => (first | omega | (simp [intOf] <;> omega) | (simp only [intOf] <;> omega)))
                  | exact ⟨⟨k + 1, a2, g, by go_num, rfl, HA.out, HW.out, HC.out, HG.out, HGI.out, haw, hac, hBa2, by omega, HBj.out, hsj⟩, by (first | omega | (simp [intOf] <;> omega) | (simp only [intOf] <;> omega))⟩
                  | (refine ⟨?_, by (first | omega | (simp [intOf] <;> omega) | (simp only [intOf] <;> omega))⟩
                     (repeat apply Exists.intro)
                     refine (fun a b => And.intro b a) ?_ ?_
                     · first | rfl | ((repeat refine ⟨rfl, ?_⟩); rfl)
                     exact ⟨k + 1, a2, g, by go_num, rfl, HA.out, HW.out, HC.out, HG.out, HGI.out, haw, hac, hBa2, by omega, HBj.out, hsj⟩)
        have t1 : (q == 1) = false := beq_eq_false_iff_ne.2 hq1
        by_cases hq5 : q = 5
        · subst hq5
          have H1 := fun w' h => Lib.hid (raise_any a f i c w' h HF.out)
          have HG := Lib.hid (raiseR_ok HF.out i hoo.out.c1)
          have HFW := Lib.hid (raiseR_fwd f HF.out i c)
          have HGI := Lib.hid (raiseR_inv HFI.out i c)
          unfold cv at H1
          generalize (raiseR f i c).1 = g at *
          generalize (raiseR f i c).2 = E at *
          go_wp2_with fail
          clear c0 c1 c2 c3 c4
          generalize wr.alloc (.cells #[.int .i64 5, .int .i64 i, .int .i64 n, .int .u8 v.toNat, .int .u32 c] 34) = w5 at *
          obtain ⟨bx, hbx⟩ : ∃ bx, wr.heap.size = bx := ⟨_, rfl⟩
          rw [hbx] at HX0 hs0 hax hBs ⊢
          refine (H1 _ HA0.out).out.mono ?_
          rintro e w6 ⟨rfl, hA6, hg6⟩
          have HA9 := Lib.hid hA6
          have HW9 := Lib.hid (HW0.out.grown hg6 (fun e => haw (by cases e; rfl)))
          have HC9 := Lib.hid (HC0.out.grown hg6 (fun e => hac (by cases e; rfl)))
          have hB9 := Lib.hid (HB0.out.grown hg6 (by omega) (by intro k hk; cases hk; exact hBa))
          have hs9 : B ≤ w6.heap.size := by have := hg6.size; omega
          obtain ⟨a2, ha2⟩ : ∃ a2, a = a2 := ⟨_, rfl⟩
          rw [ha2] at haw hac HA9 ⊢
          have hBa2 : B ≤ a2 := by omega
          clear ha2 hA6 hg6 HX0 HA0 HW0 HC0 HB0 H1 HA HW HC hBr hbx t1 hq1
          go_wp2_with fail
          go_loopw [9, 10, 11, 12] (fun i _ _ _ wr => N2In B a2 wb cb f g w i wr) (fun i _ _ _ _ => 64 - (intOf i).toNat)
          case atStart => exact ⟨0, rfl, by omega, HA9.out, HW9.out, HC9.out, hB9.out, hs9⟩
          case round =>
            clear HA9 HW9 HC9 hB9 hs9
            obtain ⟨j, rfl, hj, hA, hW, hC, hBj, hsj⟩ := hrel
            have HA := Lib.hid hA
            have HW := Lib.hid hW
            have HC := Lib.hid hC
            have HBj := Lib.hid hBj
            clear hA hW hC hBj
            by_cases hj64 : j < 64
            · have hrd := fun w' h => Lib.hid (read_any a2 g j w' h HG.out)
              simp only [readR_at g hj64] at hrd
              unfold bv at hrd
              have e0 : (0 : Int) ≤ (j : Int) := by omega
              have e1 : (j : Int) < 64 := by omega
              have hset := Lib.hid (mixW_set f g hj64)
              have hskip := Lib.hid (mixW_skip f g hj64)
              have hat := Lib.hid (mixW_at f g hj64)
              have hfw := Lib.hid (HFW.out.1 j hj64)
              have hgi := Lib.hid (HGI.out j hj64)
              have hwf : Hid (wasOf f j = if f.n.testBit j then ((byteOf f j).toNat : Int) + 1 else 0) := Lib.hid rfl
              have hwg : Hid (wasOf g j = if g.n.testBit j then ((byteOf g j).toNat : Int) + 1 else 0) := Lib.hid rfl
              have hbl : (byteOf g j).toNat < 256 := UInt8.toNat_lt _
              go_wp2_with fail
              refine (hrd _ HA.out).out.mono ?_
              rintro e w10 ⟨rfl, hd10⟩
              have hB10 := Lib.hid (HBj.out.trans (hd10.below _))
              have hA10 := Lib.hid (HA.out.drn hd10)
              have hW10 := HW.out.drn hd10
              have hC10 := Lib.hid (HC.out.drn hd10)
              have hs10 : B ≤ w10.heap.size := by rw [hd10.heap]; exact hsj
              clear hd10 HA HW HC HBj hsj hrd
              have c0 := hW10.cell hat.out
              have f0 := hW10.frozen j
              have HW10 := Lib.hid hW10
              clear hW10
              cases htg : g.n.testBit j
              · have htf : f.n.testBit j = false := by
                  cases h : f.n.testBit j
                  · rfl
                  · have := (hfw.out h).1; rw [htg] at this; cases this
                have h0 := hgi.out htg
                have hwf0 : wasOf f j = 0 := by rw [hwf.out, htf]; rfl
                have hwg0 : wasOf g j = 0 := by rw [hwg.out, htg]; rfl
                have hsk := Lib.hid (hskip.out (hwf0.trans hwg0.symm))
                rw [hwf0] at c0
                rw [h0] at hbl ⊢
                clear hfw hgi hwf hwg htf h0 hwf0 hwg0 hset hskip hat htg f0 hbl
                go_wp2_with fail
                first
                | (go_roundw
                   case rel => exact ⟨j + 1, by go_num, by omega, hA10.out, by rw [← hsk.out]; exact HW10.out, hC10.out, hB10.out, hs10⟩
                   case measure => (first | omega | (simp [intOf] <;> omega) | (simp only [intOf] <;> omega)))
                | exact ⟨⟨j + 1, by go_num, by omega, hA10.out, by rw [← hsk.out]; exact HW10.out, hC10.out, hB10.out, hs10⟩, by (first | omega | (simp [intOf] <;> omega) | (simp only [intOf] <;> omega))⟩
                | (refine ⟨?_, by (first | omega | (simp [intOf] <;> omega) | (simp only [intOf] <;> omega))⟩
                   (repeat apply Exists.intro)
                   refine (fun a b => And.intro b a) ?_ ?_
                   · first | rfl | ((repeat refine ⟨rfl, ?_⟩); rfl)
                   exact ⟨j + 1, by go_num, by omega, hA10.out, by rw [← hsk.out]; exact HW10.out, hC10.out, hB10.out, hs10⟩)
              · have hwg1 : wasOf g j = (byteOf g j).toNat + 1 := by rw [hwg.out, htg]; rfl
                rw [hwg1] at hset
                have hst := HW10.out.set j (.int .i64 ((byteOf g j).toNat + 1))
                rw [hset.out] at hst
                have hgs := grown_set w10 ⟨wb, j, none⟩ (.int .i64 ((byteOf g j).toNat + 1))
                have HW11 := Lib.hid hst
                have hA11 := Lib.hid (hA10.out.grown hgs (fun e => by cases e; exact haw rfl))
                have hC11 := Lib.hid (hC10.out.grown hgs (fun e => by cases e; exact hcw rfl))
                have hB11 := Lib.hid (hB10.out.grown hgs hs10 (by intro k hk; cases hk; exact hBw))
                have hs11 := Nat.le_trans hs10 hgs.size
                cases htf : f.n.testBit j
                · have hwf0 : wasOf f j = 0 := by rw [hwf.out, htf]; rfl
                  rw [hwf0] at c0
                  clear hfw hgi hwf hwg htf hwf0 hset hskip hat htg hwg1 hst hgs
                  generalize byteOf g j = v at *
                  go_wp2_with fail
                  first
                  | (go_roundw
                     case rel => exact ⟨j + 1, by go_num, by omega, hA11.out, HW11.out, hC11.out, hB11.out, hs11⟩
                     case measure => (first | omega | (simp [intOf] <;> omega) | (simp only [intOf] <;> omega)))
                  | exact ⟨⟨j + 1, by go_num, by omega, hA11.out, HW11.out, hC11.out, hB11.out, hs11⟩, by (first | omega | (simp [intOf] <;> omega) | (simp only [intOf] <;> omega))⟩
                  | (refine ⟨?_, by (first | omega | (simp [intOf] <;> omega) | (simp only [intOf] <;> omega))⟩
                     (repeat apply Exists.intro)
                     refine (fun a b => And.intro b a) ?_ ?_
                     · first | rfl | ((repeat refine ⟨rfl, ?_⟩); rfl)
                     exact ⟨j + 1, by go_num, by omega, hA11.out, HW11.out, hC11.out, hB11.out, hs11⟩)
                · have hwf1 : wasOf f j = (byteOf g j).toNat + 1 := by rw [hwf.out, htf, (hfw.out htf).2]; rfl
                  rw [hwf1] at c0
                  clear hfw hgi hwf hwg htf hwf1 hset hskip hat htg hwg1 hst hgs
                  generalize byteOf g j = v at *
                  go_wp2_with fail
                  first
                  | (go_roundw
                     case rel => exact ⟨j + 1, by go_num, by omega, hA11.out, HW11.out, hC11.out, hB11.out, hs11⟩
                     case measure => (first | omega | (simp [intOf] <;> omega) | (simp only [intOf] <;> omega)))
                  | exact ⟨⟨j + 1, by go_num, by omega, hA11.out, HW11.out, hC11.out, hB11.out, hs11⟩, by (first | omega | (simp [intOf] <;> omega) | (simp only [intOf] <;> omega))⟩
                  | (refine ⟨?_, by (first | omega | (simp [intOf] <;> omega) | (simp only [intOf] <;> omega))⟩
                     (repeat apply Exists.intro)
                     refine (fun a b => And.intro b a) ?_ ?_
                     · first | rfl | ((repeat refine ⟨rfl, ?_⟩); rfl)
                     exact ⟨j + 1, by go_num, by omega, hA11.out, HW11.out, hC11.out, hB11.out, hs11⟩)
            · obtain rfl : j = 64 := by omega
              rw [mixW_end] at HW
              clear hj64 hj
              go_wp2_with fail
              go_loopw [13, 14, 15] (fun i _ _ wr => N3In B a2 wb cb f g w i wr) (fun i _ _ _ => 4 - (intOf i).toNat)
              case atStart => exact ⟨0, rfl, by omega, HA.out, HW.out, HC.out, HBj.out, hsj⟩
              case round =>
                clear HA HW HC HBj hsj
                obtain ⟨j, rfl, hj, hA, hW, hC, hBj, hsj⟩ := hrel
                have HA := Lib.hid hA
                have HW := Lib.hid hW
                have HC := Lib.hid hC
                have HBj := Lib.hid hBj
                clear hA hW hC hBj
                by_cases hj4 : j < 4
                · have hcn := fun w' h => Lib.hid (counter_any a2 g j w' h HG.out)
                  simp only [counterR_at g hj4] at hcn
                  unfold cv at hcn
                  have e0 : (0 : Int) ≤ (j : Int) := by omega
                  have e1 : (j : Int) < 4 := by omega
                  have c0 := HC.out.cell (mixC_at f g hj4)
                  have f0 := HC.out.frozen j
                  have hle := HFW.out.2 j hj4
                  have hst := HC.out.set j (.int .u32 (g.c[j]?.getD 0 : Nat))
                  rw [mixC_set f g hj4] at hst
                  have hgs := grown_set wr ⟨cb, j, none⟩ (.int .u32 (g.c[j]?.getD 0 : Nat))
                  have HC11 := Lib.hid hst
                  have hA11 := Lib.hid (HA.out.grown hgs (fun e => by cases e; exact hac rfl))
                  have hW11 := Lib.hid (HW.out.grown hgs (fun e => by cases e; exact hcw rfl))
                  have hB11 := Lib.hid (HBj.out.grown hgs hsj (by intro k hk; cases hk; exact hBc))
                  have hs11 := Nat.le_trans hsj hgs.size
                  clear hst hgs
                  generalize g.c[j]?.getD 0 = y at *
                  generalize f.c[j]?.getD 0 = y0 at *
                  go_wp2_with fail
                  refine (hcn _ HA.out).out.mono ?_
                  rintro e w10 ⟨rfl, rfl⟩
                  clear hcn
                  go_wp2_with fail
                  first
                  | (go_roundw
                     case rel => exact ⟨j + 1, by go_num, by omega, hA11.out, hW11.out, HC11.out, hB11.out, hs11⟩
                     case measure => (first | omega | (simp [intOf] <;> omega) | (simp only [intOf] <;> omega)))
                  | exact ⟨⟨j + 1, by go_num, by omega, hA11.out, hW11.out, HC11.out, hB11.out, hs11⟩, by (first | omega | (simp [intOf] <;> omega) | (simp only [intOf] <;> omega))⟩
                  | (refine ⟨?_, by (first | omega | (simp [intOf] <;> omega) | (simp only [intOf] <;> omega))⟩
                     (repeat apply Exists.intro)
                     refine (fun a b => And.intro b a) ?_ ?_
                     · first | rfl | ((repeat refine ⟨rfl, ?_⟩); rfl)
                     exact ⟨j + 1, by go_num, by omega, hA11.out, hW11.out, HC11.out, hB11.out, hs11⟩)
                · obtain rfl : j = 4 := by omega
                  rw [mixC_end] at HC
                  clear hj4 hj
                  go_wp2_with fail
                  first
                  | (go_roundw
                     case rel => exact ⟨k + 1, a2, g, by go_num, rfl, HA.out, HW.out, HC.out, HG.out, HGI.out, haw, hac, hBa2, by omega, HBj.out, hsj⟩
                     case measure => (first | omega | (simp [intOf] <;> omega) | (simp only [intOf] <;> omega)))
                  | exact ⟨⟨k + 1, a2, g, by go_num, rfl, HA.out, HW.out, HC.out, HG.out, HGI.out, haw, hac, hBa2, by omega, HBj.out, hsj⟩, by (first | omega | (simp [intOf] <;> omega) | (simp only [intOf] <;> omega))⟩
                  | (refine ⟨?_, by (first | omega | (simp [intOf] <;> omega) | (simp only [intOf] <;> omega))⟩
                     (repeat apply Exists.intro)
                     refine (fun a b => And.intro b a) ?_ ?_
                     · first | rfl | ((repeat refine ⟨rfl, ?_⟩); rfl)
                     exact ⟨k + 1, a2, g, by go_num, rfl, HA.out, HW.out, HC.out, HG.out, HGI.out, haw, hac, hBa2, by omega, HBj.out, hsj⟩)
        have t5 : (q == 5) = false := beq_eq_false_iff_ne.2 hq5
        have HG := HF
        have HFW := Lib.hid (Fwd.refl f)
        have HGI := HFI
        by_cases hq6 : q = 6
        · subst hq6
          go_wp2_with fail
          clear c0 c1 c2 c3 c4
          generalize wr.alloc (.cells #[.int .i64 6, .int .i64 i, .int .i64 n, .int .u8 v.toNat, .int .u32 c] 34) = w5 at *
          obtain ⟨bx, hbx⟩ : ∃ bx, wr.heap.size = bx := ⟨_, rfl⟩
          have hlw := HW.out.lt
          have hlc2 := HC.out.lt
          rw [hbx] at HX0 hs0 hax hBs hlw hlc2 ⊢
          refine (copy_any a f _ HA0.out HF.out).mono ?_
          rintro e w6 ⟨rfl, hA6, hb6⟩
          have HA9 := Lib.hid hA6
          have HW9 := Lib.hid (HW0.out.later hb6)
          have HC9 := Lib.hid (HC0.out.later hb6)
          have hB9 := Lib.hid (HB0.out.trans (hb6.mono (by omega)))
          have hs9 : B ≤ w6.heap.size := by have := hb6.size; omega
          obtain ⟨a2, ha2⟩ : ∃ a2, w5.heap.size = a2 := ⟨_, rfl⟩
          rw [ha2] at HA9 ⊢
          have hBa2 : B ≤ a2 := by omega
          have haw2 : a2 ≠ wb := by omega
          have hac2 : a2 ≠ cb := by omega
          clear haw hac
          have haw := haw2
          have hac := hac2
          clear ha2 hA6 hb6 HX0 HA0 HW0 HC0 HB0 HA HW HC hBr hbx t1 hq1 t5 hq5
          obtain ⟨g, hg⟩ : ∃ g, f = g := ⟨_, rfl⟩
          rw [hg] at HA9 HG HGI
          have HFW : Hid (Fwd f g) := by rw [hg]; exact Lib.hid (Fwd.refl g)
          clear hg
          go_wp2_with fail
          go_loopw [9, 10, 11, 12] (fun i _ _ _ wr => N2In B a2 wb cb f g w i wr) (fun i _ _ _ _ => 64 - (intOf i).toNat)
          case atStart => exact ⟨0, rfl, by omega, HA9.out, HW9.out, HC9.out, hB9.out, hs9⟩
          case round =>
            clear HA9 HW9 HC9 hB9 hs9
            obtain ⟨j, rfl, hj, hA, hW, hC, hBj, hsj⟩ := hrel
            have HA := Lib.hid hA
            have HW := Lib.hid hW
            have HC := Lib.hid hC
            have HBj := Lib.hid hBj
            clear hA hW hC hBj
            by_cases hj64 : j < 64
            · have hrd := fun w' h => Lib.hid (read_any a2 g j w' h HG.out)
              simp only [readR_at g hj64] at hrd
              unfold bv at hrd
              have e0 : (0 : Int) ≤ (j : Int) := by omega
              have e1 : (j : Int) < 64 := by omega
              have hset := Lib.hid (mixW_set f g hj64)
              have hskip := Lib.hid (mixW_skip f g hj64)
              have hat := Lib.hid (mixW_at f g hj64)
              have hfw := Lib.hid (HFW.out.1 j hj64)
              have hgi := Lib.hid (HGI.out j hj64)
              have hwf : Hid (wasOf f j = if f.n.testBit j then ((byteOf f j).toNat : Int) + 1 else 0) := Lib.hid rfl
              have hwg : Hid (wasOf g j = if g.n.testBit j then ((byteOf g j).toNat : Int) + 1 else 0) := Lib.hid rfl
              have hbl : (byteOf g j).toNat < 256 := UInt8.toNat_lt _
              go_wp2_with fail
              refine (hrd _ HA.out).out.mono ?_
              rintro e w10 ⟨rfl, hd10⟩
              have hB10 := Lib.hid (HBj.out.trans (hd10.below _))
              have hA10 := Lib.hid (HA.out.drn hd10)
              have hW10 := HW.out.drn hd10
              have hC10 := Lib.hid (HC.out.drn hd10)
              have hs10 : B ≤ w10.heap.size := by rw [hd10.heap]; exact hsj
              clear hd10 HA HW HC HBj hsj hrd
              have c0 := hW10.cell hat.out
              have f0 := hW10.frozen j
              have HW10 := Lib.hid hW10
              clear hW10
              cases htg : g.n.testBit j
              · have htf : f.n.testBit j = false := by
                  cases h : f.n.testBit j
                  · rfl
                  · have := (hfw.out h).1; rw [htg] at this; cases this
                have h0 := hgi.out htg
                have hwf0 : wasOf f j = 0 := by rw [hwf.out, htf]; rfl
                have hwg0 : wasOf g j = 0 := by rw [hwg.out, htg]; rfl
                have hsk := Lib.hid (hskip.out (hwf0.trans hwg0.symm))
                rw [hwf0] at c0
                rw [h0] at hbl ⊢
                clear hfw hgi hwf hwg htf h0 hwf0 hwg0 hset hskip hat htg f0 hbl
                go_wp2_with fail
                first
                | (go_roundw
                   case rel => exact ⟨j + 1, by go_num, by omega, hA10.out, by rw [← hsk.out]; exact HW10.out, hC10.out, hB10.out, hs10⟩
                   case measure => (first | omega | (simp [intOf] <;> omega) | (simp only [intOf] <;> omega)))
                | exact ⟨⟨j + 1, by go_num, by omega, hA10.out, by rw [← hsk.out]; exact HW10.out, hC10.out, hB10.out, hs10⟩, by (first | omega | (simp [intOf] <;> omega) | (simp only [intOf] <;> omega))⟩
                | (refine ⟨?_, by (first | omega | (simp [intOf] <;> omega) | (simp only [intOf] <;> omega))⟩
                   (repeat apply Exists.intro)
                   refine (fun a b => And.intro b a) ?_ ?_
                   · first | rfl | ((repeat refine ⟨rfl, ?_⟩); rfl)
                   exact ⟨j + 1, by go_num, by omega, hA10.out, by rw [← hsk.out]; exact HW10.out, hC10.out, hB10.out, hs10⟩)
              · have hwg1 : wasOf g j = (byteOf g j).toNat + 1 := by rw [hwg.out, htg]; rfl
                rw [hwg1] at hset
                have hst := HW10.out.set j (.int .i64 ((byteOf g j).toNat + 1))
                rw [hset.out] at hst
                have hgs := grown_set w10 ⟨wb, j, none⟩ (.int .i64 ((byteOf g j).toNat + 1))
                have HW11 := Lib.hid hst
                have hA11 := Lib.hid (hA10.out.grown hgs (fun e => by cases e; exact haw rfl))
                have hC11 := Lib.hid (hC10.out.grown hgs (fun e => by cases e; exact hcw rfl))
                have hB11 := Lib.hid (hB10.out.grown hgs hs10 (by intro k hk; cases hk; exact hBw))
                have hs11 := Nat.le_trans hs10 hgs.size
                cases htf : f.n.testBit j
                · have hwf0 : wasOf f j = 0 := by rw [hwf.out, htf]; rfl
                  rw [hwf0] at c0
                  clear hfw hgi hwf hwg htf hwf0 hset hskip hat htg hwg1 hst hgs
                  generalize byteOf g j = v at *
                  go_wp2_with fail
                  first
                  | (go_roundw
                     case rel => exact ⟨j + 1, by go_num, by omega, hA11.out, HW11.out, hC11.out, hB11.out, hs11⟩
                     case measure => (first | omega | (simp [intOf] <;> omega) | (simp only [intOf] <;> omega)))
                  | exact ⟨⟨j + 1, by go_num, by omega, hA11.out, HW11.out, hC11.out, hB11.out, hs11⟩, by (first | omega | (simp [intOf] <;> omega) | (simp only [intOf] <;> omega))⟩
                  | (refine ⟨?_, by (first | omega | (simp [intOf] <;> omega) | (simp only [intOf] <;> omega))⟩
                     (repeat apply Exists.intro)
                     refine (fun a b => And.intro b a) ?_ ?_
                     · first | rfl | ((repeat refine ⟨rfl, ?_⟩); rfl)
                     exact ⟨j + 1, by go_num, by omega, hA11.out, HW11.out, hC11.out, hB11.out, hs11⟩)
                · have hwf1 : wasOf f j = (byteOf g j).toNat + 1 := by rw [hwf.out, htf, (hfw.out htf).2]; rfl
                  rw [hwf1] at c0
                  clear hfw hgi hwf hwg htf hwf1 hset hskip hat htg hwg1 hst hgs
                  generalize byteOf g j = v at *
                  go_wp2_with fail
                  first
                  | (go_roundw
                     case rel => exact ⟨j + 1, by go_num, by omega, hA11.out, HW11.out, hC11.out, hB11.out, hs11⟩
                     case measure => (first | omega | (simp [intOf] <;> omega) | (simp only [intOf] <;> omega)))
                  | exact ⟨⟨j + 1, by go_num, by omega, hA11.out, HW11.out, hC11.out, hB11.out, hs11⟩, by (first | omega | (simp [intOf] <;> omega) | (simp only [intOf] <;> omega))⟩
                  | (refine ⟨?_, by (first | omega | (simp [intOf] <;> omega) | (simp only [intOf] <;> omega))⟩
                     (repeat apply Exists.intro)
                     refine (fun a b => And.intro b a) ?_ ?_
                     · first | rfl | ((repeat refine ⟨rfl, ?_⟩); rfl)
                     exact ⟨j + 1, by go_num, by omega, hA11.out, HW11.out, hC11.out, hB11.out, hs11⟩)
            · obtain rfl : j = 64 := by omega
              rw [mixW_end] at HW
              clear hj64 hj
              go_wp2_with fail
              go_loopw [13, 14, 15] (fun i _ _ wr => N3In B a2 wb cb f g w i wr) (fun i _ _ _ => 4 - (intOf i).toNat)
              case atStart => exact ⟨0, rfl, by omega, HA.out, HW.out, HC.out, HBj.out, hsj⟩
              case round =>
                clear HA HW HC HBj hsj
                obtain ⟨j, rfl, hj, hA, hW, hC, hBj, hsj⟩ := hrel
                have HA := Lib.hid hA
                have HW := Lib.hid hW
                have HC := Lib.hid hC
                have HBj := Lib.hid hBj
                clear hA hW hC hBj
                by_cases hj4 : j < 4
                · have hcn := fun w' h => Lib.hid (counter_any a2 g j w' h HG.out)
                  simp only [counterR_at g hj4] at hcn
                  unfold cv at hcn
                  have e0 : (0 : Int) ≤ (j : Int) := by omega
                  have e1 : (j : Int) < 4 := by omega
                  have c0 := HC.out.cell (mixC_at f g hj4)
                  have f0 := HC.out.frozen j
                  have hle := HFW.out.2 j hj4
                  have hst := HC.out.set j (.int .u32 (g.c[j]?.getD 0 : Nat))
                  rw [mixC_set f g hj4] at hst
                  have hgs := grown_set wr ⟨cb, j, none⟩ (.int .u32 (g.c[j]?.getD 0 : Nat))
                  have HC11 := Lib.hid hst
                  have hA11 := Lib.hid (HA.out.grown hgs (fun e => by cases e; exact hac rfl))
                  have hW11 := Lib.hid (HW.out.grown hgs (fun e => by cases e; exact hcw rfl))
                  have hB11 := Lib.hid (HBj.out.grown hgs hsj (by intro k hk; cases hk; exact hBc))
                  have hs11 := Nat.le_trans hsj hgs.size
                  clear hst hgs
                  generalize g.c[j]?.getD 0 = y at *
                  generalize f.c[j]?.getD 0 = y0 at *
                  go_wp2_with fail
                  refine (hcn _ HA.out).out.mono ?_
                  rintro e w10 ⟨rfl, rfl⟩
                  clear hcn
                  go_wp2_with fail
                  first
                  | (go_roundw
                     case rel => exact ⟨j + 1, by go_num, by omega, hA11.out, hW11.out, HC11.out, hB11.out, hs11⟩
                     case measure => (first | omega | (simp [intOf] <;> omega) | (simp only [intOf] <;> omega)))
                  | exact ⟨⟨j + 1, by go_num, by omega, hA11.out, hW11.out, HC11.out, hB11.out, hs11⟩, by (first | omega | (simp [intOf] <;> omega) | (simp only [intOf] <;> omega))⟩
                  | (refine ⟨?_, by (first | omega | (simp [intOf] <;> omega) | (simp only [intOf] <;> omega))⟩
                     (repeat apply Exists.intro)
                     refine (fun a b => And.intro b a) ?_ ?_
                     · first | rfl | ((repeat refine ⟨rfl, ?_⟩); rfl)
                     exact ⟨j + 1, by go_num, by omega, hA11.out, hW11.out, HC11.out, hB11.out, hs11⟩)
                · obtain rfl : j = 4 := by omega
                  rw [mixC_end] at HC
                  clear hj4 hj
                  go_wp2_with fail
                  first
                  | (go_roundw
                     case rel => exact ⟨k + 1, a2, g, by go_num, rfl, HA.out, HW.out, HC.out, HG.out, HGI.out, haw, hac, hBa2, by omega, HBj.out, hsj⟩
                     case measure => (first | omega | (simp [intOf] <;> omega) | (simp only [intOf] <;> omega)))
                  | exact ⟨⟨k + 1, a2, g, by go_num, rfl, HA.out, HW.out, HC.out, HG.out, HGI.out, haw, hac, hBa2, by omega, HBj.out, hsj⟩, by (first | omega | (simp [intOf] <;> omega) | (simp only [intOf] <;> omega))⟩
                  | (refine ⟨?_, by (first | omega | (simp [intOf] <;> omega) | (simp only [intOf] <;> omega))⟩
                     (repeat apply Exists.intro)
                     refine (fun a b => And.intro b a) ?_ ?_
                     · first | rfl | ((repeat refine ⟨rfl, ?_⟩); rfl)
                     exact ⟨k + 1, a2, g, by go_num, rfl, HA.out, HW.out, HC.out, HG.out, HGI.out, haw, hac, hBa2, by omega, HBj.out, hsj⟩)
        have t6 : (q == 6) = false := beq_eq_false_iff_ne.2 hq6
        have H1 := fun w' h => Lib.hid (row_any a f i n w' h HF.out ⟨hoo.out.i0, hoo.out.i1⟩ ⟨hoo.out.n0, hoo.out.n1⟩)
        generalize (rowR f i n).1 = L0 at *
        generalize (rowR f i n).2.1 = r2 at *
        generalize (rowR f i n).2.2 = r3 at *
        go_wp2_with fail
        clear c0 c1 c2 c3 c4
        generalize wr.alloc (.cells #[.int .i64 q, .int .i64 i, .int .i64 n, .int .u8 v.toNat, .int .u32 c] 34) = w5 at *
        obtain ⟨bx, hbx⟩ : ∃ bx, wr.heap.size = bx := ⟨_, rfl⟩
        rw [hbx] at HX0 hs0 hax hBs ⊢
        refine (H1 _ HA0.out).out.mono ?_
        rintro e w6 ⟨v1, rfl, -, hb6⟩
        have HA9 := Lib.hid (HA0.out.later hb6)
        have HW9 := Lib.hid (HW0.out.later hb6)
        have HC9 := Lib.hid (HC0.out.later hb6)
        have hB9 := Lib.hid (HB0.out.trans (hb6.mono (by omega)))
        have hs9 : B ≤ w6.heap.size := by have := hb6.size; omega
        obtain ⟨a2, ha2⟩ : ∃ a2, a = a2 := ⟨_, rfl⟩
        rw [ha2] at haw hac HA9 ⊢
        have hBa2 : B ≤ a2 := by omega
        clear ha2 hb6 HX0 HA0 HW0 HC0 HB0 HA HW HC hBr hbx t1 hq1 t5 hq5 t6 hq6 H1
        obtain ⟨g, hg⟩ : ∃ g, f = g := ⟨_, rfl⟩
        rw [hg] at HA9 HG HGI
        have HFW : Hid (Fwd f g) := by rw [hg]; exact Lib.hid (Fwd.refl g)
        clear hg
        go_wp2_with fail
        go_loopw [9, 10, 11, 12] (fun i _ _ _ wr => N2In B a2 wb cb f g w i wr) (fun i _ _ _ _ => 64 - (intOf i).toNat)
        case atStart => exact ⟨0, rfl, by omega, HA9.out, HW9.out, HC9.out, hB9.out, hs9⟩
        case round =>
          clear HA9 HW9 HC9 hB9 hs9
          obtain ⟨j, rfl, hj, hA, hW, hC, hBj, hsj⟩ := hrel
          have HA := Lib.hid hA
          have HW := Lib.hid hW
          have HC := Lib.hid hC
          have HBj := Lib.hid hBj
          clear hA hW hC hBj
          by_cases hj64 : j < 64
          · have hrd := fun w' h => Lib.hid (read_any a2 g j w' h HG.out)
            simp only [readR_at g hj64] at hrd
            unfold bv at hrd
            have e0 : (0 : Int) ≤ (j : Int) := by omega
            have e1 : (j : Int) < 64 := by omega
            have hset := Lib.hid (mixW_set f g hj64)
            have hskip := Lib.hid (mixW_skip f g hj64)
            have hat := Lib.hid (mixW_at f g hj64)
            have hfw := Lib.hid (HFW.out.1 j hj64)
            have hgi := Lib.hid (HGI.out j hj64)
            have hwf : Hid (wasOf f j = if f.n.testBit j then ((byteOf f j).toNat : Int) + 1 else 0) := Lib.hid rfl
            have hwg : Hid (wasOf g j = if g.n.testBit j then ((byteOf g j).toNat : Int) + 1 else 0) := Lib.hid rfl
            have hbl : (byteOf g j).toNat < 256 := UInt8.toNat_lt _
            go_wp2_with fail
            refine (hrd _ HA.out).out.mono ?_
            rintro e w10 ⟨rfl, hd10⟩
            have hB10 := Lib.hid (HBj.out.trans (hd10.below _))
            have hA10 := Lib.hid (HA.out.drn hd10)
            have hW10 := HW.out.drn hd10
            have hC10 := Lib.hid (HC.out.drn hd10)
            have hs10 : B ≤ w10.heap.size := by rw [hd10.heap]; exact hsj
            clear hd10 HA HW HC HBj hsj hrd
            have c0 := hW10.cell hat.out
            have f0 := hW10.frozen j
            have HW10 := Lib.hid hW10
            clear hW10
            cases htg : g.n.testBit j
            · have htf : f.n.testBit j = false := by
                cases h : f.n.testBit j
                · rfl
                · have := (hfw.out h).1; rw [htg] at this; cases this
              have h0 := hgi.out htg
              have hwf0 : wasOf f j = 0 := by rw [hwf.out, htf]; rfl
              have hwg0 : wasOf g j = 0 := by rw [hwg.out, htg]; rfl
              have hsk := Lib.hid (hskip.out (hwf0.trans hwg0.symm))
              rw [hwf0] at c0
              rw [h0] at hbl ⊢
              clear hfw hgi hwf hwg htf h0 hwf0 hwg0 hset hskip hat htg f0 hbl
              go_wp2_with fail
              first
              | (go_roundw
                 case rel => exact ⟨j + 1, by go_num, by omega, hA10.out, by rw [← hsk.out]; exact HW10.out, hC10.out, hB10.out, hs10⟩
                 case measure => (first | omega | (simp [intOf] <;> omega) | (simp only [intOf] <;> omega)))
              | exact ⟨⟨j + 1, by go_num, by omega, hA10.out, by rw [← hsk.out]; exact HW10.out, hC10.out, hB10.out, hs10⟩, by (first | omega | (simp [intOf] <;> omega) | (simp only [intOf] <;> omega))⟩
              | (refine ⟨?_, by (first | omega | (simp [intOf] <;> omega) | (simp only [intOf] <;> omega))⟩
                 (repeat apply Exists.intro)
                 refine (fun a b => And.intro b a) ?_ ?_
                 · first | rfl | ((repeat refine ⟨rfl, ?_⟩); rfl)
                 exact ⟨j + 1, by go_num, by omega, hA10.out, by rw [← hsk.out]; exact HW10.out, hC10.out, hB10.out, hs10⟩)
            · have hwg1 : wasOf g j = (byteOf g j).toNat + 1 := by rw [hwg.out, htg]; rfl
              rw [hwg1] at hset
              have hst := HW10.out.set j (.int .i64 ((byteOf g j).toNat + 1))
              rw [hset.out] at hst
              have hgs := grown_set w10 ⟨wb, j, none⟩ (.int .i64 ((byteOf g j).toNat + 1))
              have HW11 := Lib.hid hst
              have hA11 := Lib.hid (hA10.out.grown hgs (fun e => by cases e; exact haw rfl))
              have hC11 := Lib.hid (hC10.out.grown hgs (fun e => by cases e; exact hcw rfl))
              have hB11 := Lib.hid (hB10.out.grown hgs hs10 (by intro k hk; cases hk; exact hBw))
              have hs11 := Nat.le_trans hs10 hgs.size
              cases htf : f.n.testBit j
              · have hwf0 : wasOf f j = 0 := by rw [hwf.out, htf]; rfl
                rw [hwf0] at c0
                clear hfw hgi hwf hwg htf hwf0 hset hskip hat htg hwg1 hst hgs
                generalize byteOf g j = v at *
                go_wp2_with fail
                first
                | (go_roundw
                   case rel => exact ⟨j + 1, by go_num, by omega, hA11.out, HW11.out, hC11.out, hB11.out, hs11⟩
                   case measure => (first | omega | (simp [intOf] <;> omega) | (simp only [intOf] <;> omega)))
                | exact ⟨⟨j + 1, by go_num, by omega, hA11.out, HW11.out, hC11.out, hB11.out, hs11⟩, by (first | omega | (simp [intOf] <;> omega) | (simp only [intOf] <;> omega))⟩
                | (refine ⟨?_, by (first | omega | (simp [intOf] <;> omega) | (simp only [intOf] <;> omega))⟩
                   (repeat apply Exists.intro)
                   refine (fun a b => And.intro b a) ?_ ?_
                   · first | rfl | ((repeat refine ⟨rfl, ?_⟩); rfl)
                   exact ⟨j + 1, by go_num, by omega, hA11.out, HW11.out, hC11.out, hB11.out, hs11⟩)
              · have hwf1 : wasOf f j = (byteOf g j).toNat + 1 := by rw [hwf.out, htf, (hfw.out htf).2]; rfl
                rw [hwf1] at c0
                clear hfw hgi hwf hwg htf hwf1 hset hskip hat htg hwg1 hst hgs
                generalize byteOf g j = v at *
                go_wp2_with fail
                first
                | (go_roundw
                   case rel => exact ⟨j + 1, by go_num, by omega, hA11.out, HW11.out, hC11.out, hB11.out, hs11⟩
                   case measure => (first | omega | (simp [intOf] <;> omega) | (simp only [intOf] <;> omega)))
                | exact ⟨⟨j + 1, by go_num, by omega, hA11.out, HW11.out, hC11.out, hB11.out, hs11⟩, by (first | omega | (simp [intOf] <;> omega) | (simp only [intOf] <;> omega))⟩
                | (refine ⟨?_, by (first | omega | (simp [intOf] <;> omega) | (simp only [intOf] <;> omega))⟩
                   (repeat apply Exists.intro)
                   refine (fun a b => And.intro b a) ?_ ?_
                   · first | rfl | ((repeat refine ⟨rfl, ?_⟩); rfl)
                   exact ⟨j + 1, by go_num, by omega, hA11.out, HW11.out, hC11.out, hB11.out, hs11⟩)
          · obtain rfl : j = 64 := by omega
            rw [mixW_end] at HW
            clear hj64 hj
            go_wp2_with fail
            go_loopw [13, 14, 15] (fun i _ _ wr => N3In B a2 wb cb f g w i wr) (fun i _ _ _ => 4 - (intOf i).toNat)
            case atStart => exact ⟨0, rfl, by omega, HA.out, HW.out, HC.out, HBj.out, hsj⟩
            case round =>
              clear HA HW HC HBj hsj
              obtain ⟨j, rfl, hj, hA, hW, hC, hBj, hsj⟩ := hrel
              have HA := Lib.hid hA
              have HW := Lib.hid hW
              have HC := Lib.hid hC
              have HBj := Lib.hid hBj
              clear hA hW hC hBj
              by_cases hj4 : j < 4
              · have hcn := fun w' h => Lib.hid (counter_any a2 g j w' h HG.out)
                simp only [counterR_at g hj4] at hcn
                unfold cv at hcn
                have e0 : (0 : Int) ≤ (j : Int) := by omega
                have e1 : (j : Int) < 4 := by omega
                have c0 := HC.out.cell (mixC_at f g hj4)
                have f0 := HC.out.frozen j
                have hle := HFW.out.2 j hj4
                have hst := HC.out.set j (.int .u32 (g.c[j]?.getD 0 : Nat))
                rw [mixC_set f g hj4] at hst
                have hgs := grown_set wr ⟨cb, j, none⟩ (.int .u32 (g.c[j]?.getD 0 : Nat))
                have HC11 := Lib.hid hst
                have hA11 := Lib.hid (HA.out.grown hgs (fun e => by cases e; exact hac rfl))
                have hW11 := Lib.hid (HW.out.grown hgs (fun e => by cases e; exact hcw rfl))
                have hB11 := Lib.hid (HBj.out.grown hgs hsj (by intro k hk; cases hk; exact hBc))
                have hs11 := Nat.le_trans hsj hgs.size
                clear hst hgs
                generalize g.c[j]?.getD 0 = y at *
                generalize f.c[j]?.getD 0 = y0 at *
                go_wp2_with fail
                refine (hcn _ HA.out).out.mono ?_
                rintro e w10 ⟨rfl, rfl⟩
                clear hcn
                go_wp2_with fail
                first
                | (go_roundw
                   case rel => exact ⟨j + 1, by go_num, by omega, hA11.out, hW11.out, HC11.out, hB11.out, hs11⟩
                   case measure => (first | omega | (simp [intOf] <;> omega) | (simp only [intOf] <;> omega)))
                | exact ⟨⟨j + 1, by go_num, by omega, hA11.out, hW11.out, HC11.out, hB11.out, hs11⟩, by (first | omega | (simp [intOf] <;> omega) | (simp only [intOf] <;> omega))⟩
                | (refine ⟨?_, by (first | omega | (simp [intOf] <;> omega) | (simp only [intOf] <;> omega))⟩
                   (repeat apply Exists.intro)
                   refine (fun a b => And.intro b a) ?_ ?_
                   · first | rfl | ((repeat refine ⟨rfl, ?_⟩); rfl)
                   exact ⟨j + 1, by go_num, by omega, hA11.out, hW11.out, HC11.out, hB11.out, hs11⟩)
              · obtain rfl : j = 4 := by omega
                rw [mixC_end] at HC
                clear hj4 hj
                go_wp2_with fail
                first
                | (go_roundw
                   case rel => exact ⟨k + 1, a2, g, by go_num, rfl, HA.out, HW.out, HC.out, HG.out, HGI.out, haw, hac, hBa2, by omega, HBj.out, hsj⟩
                   case measure => (first | omega | (simp [intOf] <;> omega) | (simp only [intOf] <;> omega)))
                | exact ⟨⟨k + 1, a2, g, by go_num, rfl, HA.out, HW.out, HC.out, HG.out, HGI.out, haw, hac, hBa2, by omega, HBj.out, hsj⟩, by (first | omega | (simp [intOf] <;> omega) | (simp only [intOf] <;> omega))⟩
                | (refine ⟨?_, by (first | omega | (simp [intOf] <;> omega) | (simp only [intOf] <;> omega))⟩
                   (repeat apply Exists.intro)
                   refine (fun a b => And.intro b a) ?_ ?_
                   · first | rfl | ((repeat refine ⟨rfl, ?_⟩); rfl)
                   exact ⟨k + 1, a2, g, by go_num, rfl, HA.out, HW.out, HC.out, HG.out, HGI.out, haw, hac, hBa2, by omega, HBj.out, hsj⟩)
      · clear c0 c1 c2 c3 c4
        go_wp2_with fail
        go_ret
        exact ⟨rfl, by rw [HBx.out]; exact hBr⟩
    · clear hl
      go_wp2_with fail
      go_ret
      exact ⟨rfl, by rw [HBx.out]; exact hBr⟩
theorem walk {H : Type} (enc : TypeId × Value → H) (W : World) (base : Nat) (v0 : Value) (d0 : DataW H) (p0 : List MemPlace)
    (k0 : Value.okWide Try.prog W .any base 22 v0)
    (h0 : DataW.Trod enc Try.prog W 0 (fun _ => true) true 22 v0 d0 p0)
    (hsz : (DataW.weightsEach Try.prog [22] ([d0] ++ [])).all (· ≤ reachBytes) = true) :
    Calls Try.prog 4 #[v0] W fun e w' => e = .returned (.bool true) ∧ Below W.heap.size W w' := by
  simp only [DataW.weightsEach, List.cons_append, List.nil_append] at hsz
  obtain ⟨z0, zz⟩ := all_app hsz
  obtain ⟨ao, len, cap, l, rfl, hl, hlc, hcap, hr, hc, hok⟩ := open_script k0 h0 z0
  exact core W ao len cap l hl hlc hcap hr hok
end Go.Proofs.Ytnaffffeaakhcaa.fuseNeverBack
