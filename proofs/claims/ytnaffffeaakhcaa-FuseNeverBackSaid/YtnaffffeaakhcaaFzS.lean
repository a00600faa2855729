/- An op of both: they answer alike. No condition. -/
import Derived.Test.YtnaffffeaakhcaaFzR
import Derived.Test.YtnaffffeaakhcaaSame
import Derived.Deep.RegionHeld3
import Derived.Deep.DrawnRows
set_option linter.unusedVariables false
set_option linter.unusedSimpArgs false
namespace Go.Proofs.Ytnaffffeaakhcaa
open Go.RowKit
attribute [local go_sem ↓] Go.wp_at_zero Go.wp_at_succ
structure OpZ where
  kind : Int
  i : Int
  n : Int
  v : UInt8
  c : Nat
structure OpZ.Ok (o : OpZ) : Prop where
  i0 : -9223372036854775808 ≤ o.i
  i1 : o.i ≤ 9223372036854775807
  n0 : -9223372036854775808 ≤ o.n
  n1 : o.n ≤ 9223372036854775807
  c1 : o.c < 4294967296
def ocells (o : OpZ) : List Value := [.int .i64 o.kind, .int .i64 o.i, .int .i64 o.n, .int .u8 o.v.toNat, .int .u32 o.c]
def stepR (f : Fz) (o : OpZ) : Fz := if o.kind = 1 then (burnR f o.i o.v).1 else if o.kind = 5 then (raiseR f o.i o.c).1 else f
theorem stepR_ok {f : Fz} (h : f.Ok) {o : OpZ} (ho : o.Ok) : (stepR f o).Ok := by
  unfold stepR
  split
  · exact burnR_ok h _ _
  · split
    · exact raiseR_ok h _ ho.c1
    · exact h
def Two (a b k : Nat) : Prop := k = a ∨ k = b
def Both (w : World) (a b : Nat) (f : Fz) : Prop := HB w a 53 f.cellsA ∧ HB w b 31 f.cellsR
set_option maxRecDepth 100000 in
set_option maxHeartbeats 1000000 in
theorem step1 (a b : Nat) (f : Fz) (i n : Int) (v : UInt8) (c : Nat) (w : World) (h : Both w a b f) (hab : a ≠ b) (ho : f.Ok) :
    Calls Try.prog 12 #[.pointer (some ⟨a, 0, none⟩), .pointer (some ⟨b, 0, none⟩), .agg #[.int .i64 1, .int .i64 i, .int .i64 n, .int .u8 v.toNat, .int .u32 c]] w
      fun e w' => e = .returned (.bool true) ∧ Both w' a b (burnR f i v).1 ∧ Frm (Two a b) w w' := by
  have hX := HB.new w [.int .i64 1, .int .i64 i, .int .i64 n, .int .u8 v.toNat, .int .u32 c] 34
  have hF0 := Lib.hid ((Frm.refl (Two a b) w).alloc (.cells #[.int .i64 1, .int .i64 i, .int .i64 n, .int .u8 v.toNat, .int .u32 c] 34))
  obtain ⟨hA, hR⟩ := h
  have hA0 := hA.alloc (.cells #[.int .i64 1, .int .i64 i, .int .i64 n, .int .u8 v.toNat, .int .u32 c] 34)
  have hR0 := hR.alloc (.cells #[.int .i64 1, .int .i64 i, .int .i64 n, .int .u8 v.toNat, .int .u32 c] 34)
  have hsa := hA.lt
  have hsb := hR.lt
  unfold Both
  clear hA hR
  have H1 := fun w1 h => Lib.hid (burn_any a f i v w1 h ho)
  have H2 := fun w1 h => Lib.hid (rburn_any b f i v w1 h ho)
  try unfold bv at *
  try unfold cv at *
  generalize (burnR f i v).1 = g at *
  generalize (burnR f i v).2 = E at *
  have c0 := hX.cell (i := 0) rfl
  have c1 := hX.cell (i := 1) rfl
  have c3 := hX.cell (i := 3) rfl
  go_enter Try.func12, Try.ntmps12
  go_wp2_with fail
  generalize w.alloc (.cells #[.int .i64 1, .int .i64 i, .int .i64 n, .int .u8 v.toNat, .int .u32 c] 34) = w0 at *
  obtain ⟨x, hx⟩ : ∃ x, w.heap.size = x := ⟨_, rfl⟩
  rw [hx] at c0 c1 c3 hX ⊢
  have Hxa : a ≠ x := by omega
  have Hxb : b ≠ x := by omega
  have Hab := Lib.hid (show ∀ (row : Nat), row = a → some b ≠ some row from fun row h e => hab (by cases e; exact h.symm))
  clear hx hsa hsb c0
  go_region_held3 (fun w' => w'.cell? ⟨x, 1, none⟩ = some (.int .i64 i) ∧ w'.cell? ⟨x, 3, none⟩ = some (.int .u8 v.toNat))
    (first
      | go_keep
      | exact ⟨hgA.cell (show World.cell? _ _ = _ from c1) (fun e => Hxa (by cases e; rfl)), hgA.cell (show World.cell? _ _ = _ from c3) (fun e => Hxa (by cases e; rfl))⟩
      | exact ⟨hgR.cell (hgA.cell (show World.cell? _ _ = _ from c1) (fun e => Hxa (by cases e; rfl))) (fun e => Hxb (by cases e; rfl)), hgR.cell (hgA.cell (show World.cell? _ _ = _ from c3) (fun e => Hxa (by cases e; rfl))) (fun e => Hxb (by cases e; rfl))⟩)
    (first
     | (go_at_call 9; refine (H1 _ (by assumption)).out.mono ?_; rintro e w1 ⟨rfl, hA1, hgA⟩)
     | (go_at_call 19; refine (H2 _ ((hR0.drn (Drn.drew (Drn.refl w0))).grown hgA (Hab.out _ rfl))).out.mono ?_; rintro e w2 ⟨rfl, hR2, hgR⟩))
  have hA2 := hA1.grown hgR (fun e => hab (by cases e; rfl))
  have hF := hF0.out.trans ((Frm.drn (Drn.drew (Drn.refl _))).trans ((Frm.grown hgA (fun k h => by cases h; exact Or.inl rfl)).trans (Frm.grown hgR (fun k h => by cases h; exact Or.inr rfl))))
  clear hgA hgR hA1 hA0 hR0 c1 c3 hX hF0 H1 H2
  have HA := Lib.hid hA2
  have HR := Lib.hid hR2
  have HF := Lib.hid hF
  clear hA2 hR2 hF
  go_wp2_with fail
  go_ret
  exact ⟨rfl, ⟨HA.out, HR.out⟩, HF.out⟩
set_option maxRecDepth 100000 in
set_option maxHeartbeats 1000000 in
theorem step5 (a b : Nat) (f : Fz) (i n : Int) (v : UInt8) (c : Nat) (w : World) (h : Both w a b f) (hab : a ≠ b) (ho : f.Ok) :
    Calls Try.prog 12 #[.pointer (some ⟨a, 0, none⟩), .pointer (some ⟨b, 0, none⟩), .agg #[.int .i64 5, .int .i64 i, .int .i64 n, .int .u8 v.toNat, .int .u32 c]] w
      fun e w' => e = .returned (.bool true) ∧ Both w' a b (raiseR f i c).1 ∧ Frm (Two a b) w w' := by
  have hX := HB.new w [.int .i64 5, .int .i64 i, .int .i64 n, .int .u8 v.toNat, .int .u32 c] 34
  have hF0 := Lib.hid ((Frm.refl (Two a b) w).alloc (.cells #[.int .i64 5, .int .i64 i, .int .i64 n, .int .u8 v.toNat, .int .u32 c] 34))
  obtain ⟨hA, hR⟩ := h
  have hA0 := hA.alloc (.cells #[.int .i64 5, .int .i64 i, .int .i64 n, .int .u8 v.toNat, .int .u32 c] 34)
  have hR0 := hR.alloc (.cells #[.int .i64 5, .int .i64 i, .int .i64 n, .int .u8 v.toNat, .int .u32 c] 34)
  have hsa := hA.lt
  have hsb := hR.lt
  unfold Both
  clear hA hR
  have H1 := fun w1 h => Lib.hid (raise_any a f i c w1 h ho)
  have H2 := fun w1 h => Lib.hid (rraise_any b f i c w1 h ho)
  try unfold bv at *
  try unfold cv at *
  generalize (raiseR f i c).1 = g at *
  generalize (raiseR f i c).2 = E at *
  have c0 := hX.cell (i := 0) rfl
  have c1 := hX.cell (i := 1) rfl
  have c3 := hX.cell (i := 4) rfl
  go_enter Try.func12, Try.ntmps12
  go_wp2_with fail
  generalize w.alloc (.cells #[.int .i64 5, .int .i64 i, .int .i64 n, .int .u8 v.toNat, .int .u32 c] 34) = w0 at *
  obtain ⟨x, hx⟩ : ∃ x, w.heap.size = x := ⟨_, rfl⟩
  rw [hx] at c0 c1 c3 hX ⊢
  have Hxa : a ≠ x := by omega
  have Hxb : b ≠ x := by omega
  have Hab := Lib.hid (show ∀ (row : Nat), row = a → some b ≠ some row from fun row h e => hab (by cases e; exact h.symm))
  clear hx hsa hsb c0
  go_region_held3 (fun w' => w'.cell? ⟨x, 1, none⟩ = some (.int .i64 i) ∧ w'.cell? ⟨x, 4, none⟩ = some (.int .u32 c))
    (first
      | go_keep
      | exact ⟨hgA.cell (show World.cell? _ _ = _ from c1) (fun e => Hxa (by cases e; rfl)), hgA.cell (show World.cell? _ _ = _ from c3) (fun e => Hxa (by cases e; rfl))⟩
      | exact ⟨hgR.cell (hgA.cell (show World.cell? _ _ = _ from c1) (fun e => Hxa (by cases e; rfl))) (fun e => Hxb (by cases e; rfl)), hgR.cell (hgA.cell (show World.cell? _ _ = _ from c3) (fun e => Hxa (by cases e; rfl))) (fun e => Hxb (by cases e; rfl))⟩)
    (first
     | (go_at_call 11; refine (H1 _ (by assumption)).out.mono ?_; rintro e w1 ⟨rfl, hA1, hgA⟩)
     | (go_at_call 22; refine (H2 _ ((hR0.drn (Drn.drew (Drn.refl w0))).grown hgA (Hab.out _ rfl))).out.mono ?_; rintro e w2 ⟨rfl, hR2, hgR⟩))
  have hA2 := hA1.grown hgR (fun e => hab (by cases e; rfl))
  have hF := hF0.out.trans ((Frm.drn (Drn.drew (Drn.refl _))).trans ((Frm.grown hgA (fun k h => by cases h; exact Or.inl rfl)).trans (Frm.grown hgR (fun k h => by cases h; exact Or.inr rfl))))
  clear hgA hgR hA1 hA0 hR0 c1 c3 hX hF0 H1 H2
  have HA := Lib.hid hA2
  have HR := Lib.hid hR2
  have HF := Lib.hid hF
  clear hA2 hR2 hF
  go_wp2_with fail
  go_ret
  exact ⟨rfl, ⟨HA.out, HR.out⟩, HF.out⟩
set_option maxRecDepth 100000 in
set_option maxHeartbeats 1000000 in
theorem step2 (a b : Nat) (f : Fz) (i n : Int) (v : UInt8) (c : Nat) (w : World) (h : Both w a b f) (hab : a ≠ b) (ho : f.Ok) :
    Calls Try.prog 12 #[.pointer (some ⟨a, 0, none⟩), .pointer (some ⟨b, 0, none⟩), .agg #[.int .i64 2, .int .i64 i, .int .i64 n, .int .u8 v.toNat, .int .u32 c]] w
      fun e w' => e = .returned (.bool true) ∧ Both w' a b f ∧ Frm (Two a b) w w' := by
  have hX := HB.new w [.int .i64 2, .int .i64 i, .int .i64 n, .int .u8 v.toNat, .int .u32 c] 34
  have hF0 := Lib.hid ((Frm.refl (Two a b) w).alloc (.cells #[.int .i64 2, .int .i64 i, .int .i64 n, .int .u8 v.toNat, .int .u32 c] 34))
  obtain ⟨hA, hR⟩ := h
  have hA0 := hA.alloc (.cells #[.int .i64 2, .int .i64 i, .int .i64 n, .int .u8 v.toNat, .int .u32 c] 34)
  have hR0 := hR.alloc (.cells #[.int .i64 2, .int .i64 i, .int .i64 n, .int .u8 v.toNat, .int .u32 c] 34)
  have hsa := hA.lt
  have hsb := hR.lt
  unfold Both
  clear hA hR
  have H1 := fun w1 h => Lib.hid (read_any a f i w1 h ho)
  have H2 := fun w1 h => Lib.hid (rread_any b f i w1 h ho)
  unfold bv at *
  generalize (readR f i).1 = r1 at *
  generalize (readR f i).2.1 = r2 at *
  generalize (readR f i).2.2 = r3 at *
  go_enter Try.func12, Try.ntmps12
  go_wp2_with fail
  refine (H1 _ hA0).out.mono ?_
  rintro e w1 ⟨rfl, hd1⟩
  have hR1 := hR0.drn hd1
  have c1 := (hX.drn hd1).cell (i := 1) rfl
  go_wp2_with fail
  refine (H2 _ hR1).out.mono ?_
  rintro e w2 ⟨rfl, hd2⟩
  have HA := Lib.hid ((hA0.drn hd1).drn hd2)
  have HR := Lib.hid (hR1.drn hd2)
  have HF := Lib.hid (hF0.out.trans ((Frm.drn hd1).trans (Frm.drn hd2)))
  clear hd1 hd2 hR1 hA0 hR0 hX c1 hF0 H1 H2
  go_wp2_with fail
  go_ret
  exact ⟨rfl, ⟨HA.out, HR.out⟩, HF.out⟩
set_option maxRecDepth 100000 in
set_option maxHeartbeats 1000000 in
theorem step4 (a b : Nat) (f : Fz) (i n : Int) (v : UInt8) (c : Nat) (w : World) (h : Both w a b f) (hab : a ≠ b) (ho : f.Ok) :
    Calls Try.prog 12 #[.pointer (some ⟨a, 0, none⟩), .pointer (some ⟨b, 0, none⟩), .agg #[.int .i64 4, .int .i64 i, .int .i64 n, .int .u8 v.toNat, .int .u32 c]] w
      fun e w' => e = .returned (.bool true) ∧ Both w' a b f ∧ Frm (Two a b) w w' := by
  have hX := HB.new w [.int .i64 4, .int .i64 i, .int .i64 n, .int .u8 v.toNat, .int .u32 c] 34
  have hF0 := Lib.hid ((Frm.refl (Two a b) w).alloc (.cells #[.int .i64 4, .int .i64 i, .int .i64 n, .int .u8 v.toNat, .int .u32 c] 34))
  obtain ⟨hA, hR⟩ := h
  have hA0 := hA.alloc (.cells #[.int .i64 4, .int .i64 i, .int .i64 n, .int .u8 v.toNat, .int .u32 c] 34)
  have hR0 := hR.alloc (.cells #[.int .i64 4, .int .i64 i, .int .i64 n, .int .u8 v.toNat, .int .u32 c] 34)
  have hsa := hA.lt
  have hsb := hR.lt
  unfold Both
  clear hA hR
  have H1 := fun w1 h => Lib.hid (counter_any a f i w1 h ho)
  have H2 := fun w1 h => Lib.hid (rcounter_any b f i w1 h ho)
  unfold cv at *
  generalize (counterR f i).1 = r1 at *
  generalize (counterR f i).2 = r2 at *
  have HA := Lib.hid hA0
  have HR := Lib.hid hR0
  clear hX hA0 hR0
  go_enter Try.func12, Try.ntmps12
  go_wp2_with fail
  refine (H1 _ HA.out).out.mono ?_
  rintro e w1 ⟨rfl, rfl⟩
  go_wp2_with fail
  refine (H2 _ HR.out).out.mono ?_
  rintro e w2 ⟨rfl, rfl⟩
  go_wp2_with fail
  go_ret
  exact ⟨rfl, ⟨HA.out, HR.out⟩, hF0.out⟩
set_option maxRecDepth 100000 in
set_option maxHeartbeats 1000000 in
theorem step0 (a b : Nat) (f : Fz) (q i n : Int) (v : UInt8) (c : Nat) (w : World) (h : Both w a b f) (q1 : q ≠ 1) (q2 : q ≠ 2) (q3 : q ≠ 3) (q4 : q ≠ 4) (q5 : q ≠ 5) :
    Calls Try.prog 12 #[.pointer (some ⟨a, 0, none⟩), .pointer (some ⟨b, 0, none⟩), .agg #[.int .i64 q, .int .i64 i, .int .i64 n, .int .u8 v.toNat, .int .u32 c]] w
      fun e w' => e = .returned (.bool true) ∧ Both w' a b f ∧ Frm (Two a b) w w' := by
  have hX := HB.new w [.int .i64 q, .int .i64 i, .int .i64 n, .int .u8 v.toNat, .int .u32 c] 34
  have hF0 := Lib.hid ((Frm.refl (Two a b) w).alloc (.cells #[.int .i64 q, .int .i64 i, .int .i64 n, .int .u8 v.toNat, .int .u32 c] 34))
  obtain ⟨hA, hR⟩ := h
  have hA0 := hA.alloc (.cells #[.int .i64 q, .int .i64 i, .int .i64 n, .int .u8 v.toNat, .int .u32 c] 34)
  have hR0 := hR.alloc (.cells #[.int .i64 q, .int .i64 i, .int .i64 n, .int .u8 v.toNat, .int .u32 c] 34)
  have hsa := hA.lt
  have hsb := hR.lt
  unfold Both
  clear hA hR
  have HA := Lib.hid hA0
  have HR := Lib.hid hR0
  have t1 : (q == 1) = false := beq_eq_false_iff_ne.2 q1
  have t2 : (q == 2) = false := beq_eq_false_iff_ne.2 q2
  have t3 : (q == 3) = false := beq_eq_false_iff_ne.2 q3
  have t4 : (q == 4) = false := beq_eq_false_iff_ne.2 q4
  have t5 : (q == 5) = false := beq_eq_false_iff_ne.2 q5
  clear hX hA0 hR0 q1 q2 q3 q4 q5
  go_enter Try.func12, Try.ntmps12
  go_wp2_with fail
  go_ret
  exact ⟨rfl, ⟨HA.out, HR.out⟩, hF0.out⟩
def rowR (f : Fz) (i n : Int) : List UInt8 × Bool × Int := if i < 0 ∨ n < 0 ∨ 64 < i ∨ 64 - i < n then ([], false, 153) else ((f.b.drop i.toNat).take n.toNat, allB f.n i.toNat n.toNat, 0)
theorem rowR_len {f : Fz} (ho : f.Ok) (i n : Int) : (rowR f i n).1.length ≤ 64 := by
  unfold rowR
  split
  · simp
  · simp [ho.hb]; omega
theorem row_any (p : Nat) (f : Fz) (i n : Int) (w : World) (h : HB w p 53 f.cellsA) (ho : f.Ok) (hi : -9223372036854775808 ≤ i ∧ i ≤ 9223372036854775807) (hn : -9223372036854775808 ≤ n ∧ n ≤ 9223372036854775807) :
    Calls Try.prog 13 #[.pointer (some ⟨p, 0, none⟩), .int .i64 i, .int .i64 n] w fun e w' => ∃ v, e = .returned (.tuple #[v, .bool (rowR f i n).2.1, .int .i64 (rowR f i n).2.2]) ∧ Own 5 w' w.heap.size v (rowR f i n).1 ∧ Below w.heap.size w w' := by
  unfold rowR
  by_cases hb : i < 0 ∨ n < 0 ∨ 64 < i ∨ 64 - i < n
  · simp only [if_pos hb]
    refine (row_bad p i n w hb hn hi).mono ?_
    rintro e w' ⟨rfl, rfl⟩
    exact ⟨_, rfl, Own.nil _ _ _, Below.refl _ _⟩
  · simp only [if_neg hb]
    obtain ⟨k, rfl⟩ : ∃ k : Nat, i = k := ⟨i.toNat, by omega⟩
    obtain ⟨m, rfl⟩ : ∃ m : Nat, n = m := ⟨n.toNat, by omega⟩
    exact row_good p f k m w h ho (by omega)
theorem rrow_any (p : Nat) (f : Fz) (i n : Int) (w : World) (h : HB w p 31 f.cellsR) (ho : f.Ok) (hi : -9223372036854775808 ≤ i ∧ i ≤ 9223372036854775807) (hn : -9223372036854775808 ≤ n ∧ n ≤ 9223372036854775807) :
    Calls Try.prog 14 #[.pointer (some ⟨p, 0, none⟩), .int .i64 i, .int .i64 n] w fun e w' => ∃ v, e = .returned (.tuple #[v, .bool (rowR f i n).2.1, .int .i64 (rowR f i n).2.2]) ∧ Own 5 w' w.heap.size v (rowR f i n).1 ∧ Below w.heap.size w w' := by
  unfold rowR
  by_cases hb : i < 0 ∨ n < 0 ∨ 64 < i ∨ 64 - i < n
  · simp only [if_pos hb]
    refine (rrow_bad p i n w hb hn hi).mono ?_
    rintro e w' ⟨rfl, rfl⟩
    exact ⟨_, rfl, Own.nil _ _ _, Below.refl _ _⟩
  · simp only [if_neg hb]
    obtain ⟨k, rfl⟩ : ∃ k : Nat, i = k := ⟨i.toNat, by omega⟩
    obtain ⟨m, rfl⟩ : ∃ m : Nat, n = m := ⟨n.toNat, by omega⟩
    exact rrow_good p f k m w h ho (by omega)
structure X3In (B g m C : Nat) (W : World) (i : Value) (wr : World) : Prop where
  x : ∃ (j : Nat) (L : List UInt8), j ≤ m ∧ i = .int .i64 j ∧ L.length = m ∧ Own 5 wr B (.slice (some ⟨g, 0, none⟩) m C) L ∧ Below B W wr
set_option maxRecDepth 100000 in
set_option maxHeartbeats 1000000 in
theorem step3 (a b : Nat) (f : Fz) (i n : Int) (v : UInt8) (c : Nat) (w : World) (h : Both w a b f) (hab : a ≠ b) (ho : f.Ok) (hi : -9223372036854775808 ≤ i ∧ i ≤ 9223372036854775807) (hn : -9223372036854775808 ≤ n ∧ n ≤ 9223372036854775807) :
    Calls Try.prog 12 #[.pointer (some ⟨a, 0, none⟩), .pointer (some ⟨b, 0, none⟩), .agg #[.int .i64 3, .int .i64 i, .int .i64 n, .int .u8 v.toNat, .int .u32 c]] w
      fun e w' => e = .returned (.bool true) ∧ Both w' a b f ∧ Frm (Two a b) w w' := by
  have hX := HB.new w [.int .i64 3, .int .i64 i, .int .i64 n, .int .u8 v.toNat, .int .u32 c] 34
  have hF0 := Lib.hid ((Frm.refl (Two a b) w).alloc (.cells #[.int .i64 3, .int .i64 i, .int .i64 n, .int .u8 v.toNat, .int .u32 c] 34))
  obtain ⟨hA, hR⟩ := h
  have hA0 := hA.alloc (.cells #[.int .i64 3, .int .i64 i, .int .i64 n, .int .u8 v.toNat, .int .u32 c] 34)
  have hR0 := hR.alloc (.cells #[.int .i64 3, .int .i64 i, .int .i64 n, .int .u8 v.toNat, .int .u32 c] 34)
  have hsa := hA.lt
  have hsb := hR.lt
  unfold Both
  clear hA hR
  have H1 := fun w1 h => Lib.hid (row_any a f i n w1 h ho hi hn)
  have H2 := fun w1 h => Lib.hid (rrow_any b f i n w1 h ho hi hn)
  have hlen := rowR_len ho i n
  generalize (rowR f i n).1 = L0 at *
  generalize (rowR f i n).2.1 = r2 at *
  generalize (rowR f i n).2.2 = r3 at *
  have HA := Lib.hid hA0
  have HR := Lib.hid hR0
  have HX := Lib.hid hX
  clear hX hA0 hR0
  go_enter Try.func12, Try.ntmps12
  go_wp2_with fail
  refine (H1 _ HA.out).out.mono ?_
  rintro e w1 ⟨v1, rfl, ho1, hb1⟩
  have c1 := (HX.out.later hb1).cell (i := 1) rfl
  have c2 := (HX.out.later hb1).cell (i := 2) rfl
  generalize w.alloc (.cells #[.int .i64 3, .int .i64 i, .int .i64 n, .int .u8 v.toNat, .int .u32 c] 34) = w0 at *
  generalize hx : w.heap.size = x at *
  go_wp2_with fail
  refine (H2 _ (HR.out.later hb1)).out.mono ?_
  rintro e w2 ⟨v2, rfl, ho2, hb2⟩
  have hB2 := hb1.trans (hb2.mono hb1.size)
  have ho1' := ho1.later hb2
  obtain ⟨bo, cb, rfl, -, -, hrb⟩ := ho2.rd
  clear hb1 hb2 c1 c2 ho1 ho2 H1 H2 HX
  rcases ho1'.cases with ⟨rfl, rfl⟩ | ⟨g, C, rfl, hg0, hg1, hC, _, _, _⟩
  · go_wp2_with fail
    refine (same_true none bo 0 _ 0 cb [] [] w2 rfl rfl rfl (by decide) (by decide) (Rd.nil _ _) hrb).mono ?_
    rintro e w3 ⟨rfl, hd⟩
    have hB9 := hB2.trans (hd.below _)
    clear hd ho1' hrb hB2
    go_wp2_with fail
    go_loop [20] (fun i => i = .int .i64 0) (fun _ => 0)
    case atStart => rfl
    case round =>
      subst hrel
      go_wp2_with fail
      go_ret
      exact ⟨rfl, ⟨(HA.out.below hB9 HA.out.lt), (HR.out.below hB9 HR.out.lt)⟩, hF0.out.trans (Frm.later hB9)⟩
  · have hr1 : Rd w2 (some ⟨g, 0, none⟩) L0 := by
      obtain ⟨ao, cap, e, _, _, hr⟩ := ho1'.rd
      cases e; exact hr
    obtain ⟨m, hm⟩ : ∃ m, L0.length = m := ⟨_, rfl⟩
    rw [hm] at hlen hC ho1' ⊢
    have Hm := Lib.hid hm
    clear hm
    go_wp2_with fail
    refine (same_true (some ⟨g, 0, none⟩) bo m m C cb L0 L0 w2 rfl Hm.out Hm.out (by omega) (by omega) hr1 hrb).mono ?_
    rintro e w3 ⟨rfl, hd⟩
    have hB3 := hB2.trans (hd.below _)
    have ho3 := ho1'.later (hd.below _)
    clear hd ho1' hrb hB2 hr1 hg1
    go_wp2_with fail
    go_loopw [20] (X3In w0.heap.size g m C w0) (fun i _ => m - (intOf i).toNat)
    case atStart => exact ⟨0, L0, by omega, rfl, Hm.out, ho3, hB3⟩
    case round =>
      obtain ⟨j, L, hj, rfl, hL, hown, hB9⟩ := hrel
      clear ho3 hB3
      by_cases hlt : j < m
      · obtain ⟨-, -, -, -, -, hc, hf⟩ := hown.at
        have c1 := hc j (by omega)
        have f1 := hf j
        have e0 : (0 : Int) ≤ (j : Int) := by omega
        have e1 : (j : Int) < (m : Int) := by omega
        have HL := Lib.hid hL
        have HO := Lib.hid hown
        clear hc hf hL hown
        generalize (L[j]?.getD 0) = q at *
        have ex : bits BinOp.xor IntKind.u8 (q.toNat : Int) 255 = ((q ^^^ 255).toNat : Int) := u8_xor8 q 255
        have hst := Lib.hid (HO.out.store j (q ^^^ 255) (by rw [HL.out]; exact hlt))
        have hB10 := Lib.hid (hB9.setCell (p := ⟨g, j, none⟩) hg0 (.int .u8 (q ^^^ 255).toNat))
        go_wp2_with fail
        first
        | (go_roundw
           case rel => exact ⟨j + 1, L.set j (q ^^^ 255), by omega, by go_num, by rw [List.length_set]; exact HL.out, hst.out, hB10.out⟩
           case measure => (first | omega | (simp [intOf] <;> omega) | (simp only [intOf] <;> omega)))
        | exact ⟨⟨j + 1, L.set j (q ^^^ 255), by omega, by go_num, by rw [List.length_set]; exact HL.out, hst.out, hB10.out⟩, by (first | omega | (simp [intOf] <;> omega) | (simp only [intOf] <;> omega))⟩
        | (refine ⟨?_, by (first | omega | (simp [intOf] <;> omega) | (simp only [intOf] <;> omega))⟩
           (repeat apply Exists.intro)
           refine (fun a b => And.intro b a) ?_ ?_
           · first | rfl | ((repeat refine ⟨rfl, ?_⟩); rfl)
           exact ⟨j + 1, L.set j (q ^^^ 255), by omega, by go_num, by rw [List.length_set]; exact HL.out, hst.out, hB10.out⟩)
      · obtain rfl : j = m := by omega
        go_wp2_with fail
        go_ret
        exact ⟨rfl, ⟨(HA.out.below hB9 HA.out.lt), (HR.out.below hB9 HR.out.lt)⟩, hF0.out.trans (Frm.later hB9)⟩
theorem step_any (a b : Nat) (f : Fz) (o : OpZ) (w : World) (h : Both w a b f) (hab : a ≠ b) (ho : f.Ok) (oo : o.Ok) :
    Calls Try.prog 12 #[.pointer (some ⟨a, 0, none⟩), .pointer (some ⟨b, 0, none⟩), .agg (ocells o).toArray] w
      fun e w' => e = .returned (.bool true) ∧ Both w' a b (stepR f o) ∧ Frm (Two a b) w w' := by
  obtain ⟨q, i, n, v, c⟩ := o
  unfold stepR
  by_cases q1 : q = 1
  · subst q1; exact step1 a b f i n v c w h hab ho
  by_cases q5 : q = 5
  · subst q5; exact step5 a b f i n v c w h hab ho
  rw [if_neg q1, if_neg q5]
  by_cases q2 : q = 2
  · subst q2; exact step2 a b f i n v c w h hab ho
  by_cases q3 : q = 3
  · subst q3; exact step3 a b f i n v c w h hab ho ⟨oo.i0, oo.i1⟩ ⟨oo.n0, oo.n1⟩
  by_cases q4 : q = 4
  · subst q4; exact step4 a b f i n v c w h hab ho
  exact step0 a b f q i n v c w h q1 q2 q3 q4 q5
end Go.Proofs.Ytnaffffeaakhcaa
