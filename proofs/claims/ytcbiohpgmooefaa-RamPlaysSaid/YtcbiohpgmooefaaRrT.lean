/- RAM and the document's RAM side by side. No condition. -/
import Derived.Test.YtcbiohpgmooefaaRrB
import Derived.Test.YtcbiohpgmooefaaRrL
import Derived.Test.YtcbiohpgmooefaaRrE
import Derived.Test.YtcbiohpgmooefaaRmE
import Derived.Test.YtcbiohpgmooefaaRrQ
import Derived.Test.YtcbiohpgmooefaaSame
import Derived.Test.YtcbiohpgmooefaaByte
set_option linter.unusedVariables false
set_option linter.unusedSimpArgs false
namespace Go.Proofs.Ytcbiohpgmooefaa
open Go.RowKit
structure Tw (A B : Nat) (ma mb : List UInt8) (ta tb : List Rg) (va vb : Value) (w : World) : Prop where
  a : RamM A A ma va ta w
  b : RefM A B mb vb tb w
  ne : A < B
  ab : va.ownBlock ≠ some B
  ba : vb.ownBlock ≠ some A
  vv : ∀ q, va.ownBlock = some q → vb.ownBlock ≠ some q
section
variable {A B : Nat} {ma mb : List UInt8} {ta tb : List Rg} {va vb : Value} {w w' : World}
theorem Tw.later (h : Tw A B ma mb ta tb va vb w) (hb : Below w.heap.size w w') : Tw A B ma mb ta tb va vb w' := ⟨h.a.later hb, h.b.later hb, h.ne, h.ab, h.ba, h.vv⟩
theorem Tw.lt (h : Tw A B ma mb ta tb va vb w) : A < w.heap.size ∧ B < w.heap.size := ⟨h.a.h.lt, h.b.h.lt⟩
theorem Tw.turnA {va' : Value} {t' : List Rg} (h : Tw A B ma mb ta tb va vb w) (ht : Turned A A ma va va' t' w w') : Tw A B ma mb t' tb va' vb w' ∧ Below A w w' := by
  have hl := h.lt
  refine ⟨⟨ht.r, h.b.other ht.f (fun e => e.elim (fun e => by have := h.ne; omega) h.ab) (fun k hk e => e.elim (fun e => h.ba (e ▸ hk)) (fun e => h.vv k e hk)), h.ne, fun e => (ht.k _ e).elim h.ab (fun e => by omega), h.ba, fun q hq e => (ht.k _ hq).elim (fun e2 => h.vv q e2 e) (fun e2 => by have := (h.b.o.blk rgc_len q e).2; omega)⟩, ?_⟩
  exact ht.f.below (Nat.le_of_lt hl.1) (fun q hq => hq.elim (fun e => by omega) (fun e => (h.a.o.blk rgc_len q e).1))
theorem Tw.turnB {vb' : Value} {t' : List Rg} (h : Tw A B ma mb ta tb va vb w) (ht : RTurned A B mb vb vb' t' w w') : Tw A B ma mb ta t' va vb' w' ∧ Below A w w' := by
  have hl := h.lt
  refine ⟨⟨h.a.other ht.f (fun e => by have := h.ne; omega) (fun k hk e => h.ab (by rw [hk, e])), ht.r, h.ne, h.ab, fun e => (ht.k _ e).elim h.ba (fun e => by omega), fun q hq e => (ht.k _ e).elim (h.vv q hq) (fun e2 => by have := (h.a.o.blk rgc_len q hq).2; omega)⟩, ?_⟩
  exact ht.f.below (Nat.le_of_lt hl.1) (fun q hq => by have := h.ne; omega)
theorem Tw.layA {va' : Value} {m' : List UInt8} {t' : List Rg} (h : Tw A B ma mb ta tb va vb w) (ht : Laid A A m' va' t' w w') (hv : va' = va ∨ va' = .slice none 0 0) : Tw A B m' mb t' tb va' vb w' ∧ Below A w w' := by
  have hl := h.lt
  have hv' : ∀ q, va'.ownBlock = some q → va.ownBlock = some q := fun q hq => by
    rcases hv with e | e
    · rw [← e]; exact hq
    · rw [e] at hq; cases hq
  exact ⟨⟨ht.r, h.b.other ht.f (fun e => by have := h.ne; omega) (fun k hk e => h.ba (by rw [hk, e])), h.ne, fun e => h.ab (hv' _ e), h.ba, fun q hq => h.vv q (hv' q hq)⟩, ht.f.below (Nat.le_of_lt hl.1) (fun q hq => by omega)⟩
theorem Tw.layB {vb' : Value} {m' : List UInt8} {t' : List Rg} (h : Tw A B ma mb ta tb va vb w) (hr : RefM A B m' vb' t' w') (hf : Frm (fun q => q = B) w w') (hv : vb' = vb ∨ vb' = .slice none 0 0) : Tw A B ma m' ta t' va vb' w' ∧ Below A w w' := by
  have hl := h.lt
  have hv' : ∀ q, vb'.ownBlock = some q → vb.ownBlock = some q := fun q hq => by
    rcases hv with e | e
    · rw [← e]; exact hq
    · rw [e] at hq; cases hq
  exact ⟨⟨h.a.other hf (fun e => by have := h.ne; omega) (fun k hk e => h.ab (by rw [hk, e])), hr, h.ne, h.ab, fun e => h.ba (hv' _ e), fun q hq e => h.vv q hq (hv' q e)⟩, hf.below (Nat.le_of_lt hl.1) (fun q hq => by have := h.ne; omega)⟩
end
/-- an op that lies in a block of its own -/
structure OpX (w : World) (X : Nat) (o : OpR) : Prop where
  c0 : w.cell? ⟨X, 0, none⟩ = some (.int .i64 o.kind)
  c1 : w.cell? ⟨X, 1, none⟩ = some (.int .u64 o.r.base)
  c2 : w.cell? ⟨X, 2, none⟩ = some (.int .u64 o.r.size)
  c3 : w.cell? ⟨X, 3, none⟩ = some (.bool o.r.r)
  c4 : w.cell? ⟨X, 4, none⟩ = some (.bool o.r.w)
  c5 : w.cell? ⟨X, 5, none⟩ = some (.bool o.r.x)
  c6 : w.cell? ⟨X, 6, none⟩ = some (.bool o.r.s)
  c7 : w.cell? ⟨X, 7, none⟩ = some (.bool o.sec)
  c8 : w.cell? ⟨X, 8, none⟩ = some (.int .i64 o.a)
  c9 : w.cell? ⟨X, 9, none⟩ = some (.int .u64 o.x)
  c10 : w.cell? ⟨X, 10, none⟩ = some (.int .u64 o.n)
  c11 : w.cell? ⟨X, 11, none⟩ = some (.slice o.ao o.l.length o.cap)
theorem OpX.of {w : World} {X : Nat} {o : OpR} {t : TypeId} (h : HB w X t (orc o)) : OpX w X o :=
  ⟨h.cell rfl, h.cell rfl, h.cell rfl, h.cell rfl, h.cell rfl, h.cell rfl, h.cell rfl, h.cell rfl, h.cell rfl, h.cell rfl, h.cell rfl, h.cell rfl⟩
def orv (o : OpR) : Value := .agg #[.int .i64 o.kind, .int .u64 o.r.base, .int .u64 o.r.size, .bool o.r.r, .bool o.r.w, .bool o.r.x, .bool o.r.s, .bool o.sec, .int .i64 o.a, .int .u64 o.x, .int .u64 o.n, .slice o.ao o.l.length o.cap]
structure XIn (w3 : World) (base n : Nat) (v : Value) (iv : Value) (wr : World) : Prop where
  x : ∃ (k : Nat) (l : List UInt8), k ≤ n ∧ iv = .int .i64 k ∧ l.length = n ∧ Own 5 wr base v l ∧ Below base w3 wr
set_option maxRecDepth 100000 in
set_option maxHeartbeats 1000000 in
theorem reads6 {A B base : Nat} {m : List UInt8} {t : List Rg} {va vb : Value} {w : World} (h : Tw A B m m t t va vb w) (o : OpR) (hx : o.x < 18446744073709551616) (hbase : base = w.heap.size) (hk : o.kind = 6) :
    Calls Try.prog 39 #[.pointer (some ⟨A, 0, none⟩), .pointer (some ⟨B, 0, none⟩), orv o] w fun e w' => e = .returned (.bool true) ∧ Below base w w' := by
  have HX := Lib.hid (HB.new w (orc o) 44)
  have HB1 := Lib.hid ((Below.refl w.heap.size w).alloc (Nat.le_refl _) (.cells (orc o).toArray 44))
  have HT := Lib.hid (h.later HB1.out)
  have Hx := Lib.hid hx
  obtain ⟨w1, hw1⟩ : ∃ w1, w.alloc (.cells (orc o).toArray 44) = w1 := ⟨_, rfl⟩
  rw [hw1] at HX HB1 HT
  unfold orc at hw1
  obtain ⟨X, hX⟩ : ∃ X, w.heap.size = X := ⟨_, rfl⟩
  rw [hX] at HX HB1
  have HS1 := Lib.hid HB1.out.size
  rw [hX] at hbase HS1
  subst hbase
  have HXx := fun (_ : Unit) => Lib.hid hX
  have HC := Lib.hid (fun w' (hb : Below w1.heap.size w1 w') => OpX.of (HX.out.later hb))
  have hc0 := HC.out w1 (Below.refl _ _)
  obtain ⟨kind, r, sec, acc, x, n, ao, cap, l⟩ := o
  unfold orv
  dsimp only at *
  clear h hx HX
  subst hk
  obtain ⟨x0, x1, x2, x3, x4, x5, x6, x7, x8, x9, x10, x11⟩ := hc0
  have Ha := Lib.hid (load_any HT.out.a sec x n Hx.out)
  have Hb := Lib.hid (fun w2 (hb : Below w1.heap.size w1 w2) => rload_any (HT.out.later hb).b sec 1 x n Hx.out)
  clear HT
  dsimp only at *
  go_enter Try.func39, Try.ntmps39
  go_wp2_with fail
  refine Ha.out.mono ?_
  rintro e w2 ⟨v1, rfl, ho1, hb2⟩
  have Ho1 := Lib.hid ho1
  have Hb2 := Lib.hid hb2
  have hc0 := HC.out w2 hb2
  have Hb' := Lib.hid (Hb.out w2 hb2)
  clear x0 x1 x2 x3 x4 x5 x6 x7 x8 x9 x10 x11 ho1 hb2 Ha Hb
  obtain ⟨x0, x1, x2, x3, x4, x5, x6, x7, x8, x9, x10, x11⟩ := hc0
  dsimp only at *
  go_wp2_with fail
  refine Hb'.out.mono ?_
  rintro e w3 ⟨v2, rfl, ho2, hb3⟩
  have Ho2 := Lib.hid ho2
  have Hbz := Lib.hid (HB1.out.trans ((Hb2.out.trans (hb3.mono Hb2.out.size)).mono HS1.out))
  have Ho1 := Lib.hid ((Ho1.out.later hb3).mono HS1.out)
  have Ho2 := Lib.hid (Ho2.out.mono (Nat.le_trans HS1.out Hb2.out.size))
  clear x0 x1 x2 x3 x4 x5 x6 x7 x8 x9 x10 x11 ho2 hb3 Hb' HC
  generalize mayR t sec 1 x n = RES at *
  go_upto_region 15 with fail
  obtain ⟨ao1, cp1, rfl, hc1, hm1, hrd1⟩ := (Ho1.out).rd
  obtain ⟨ao2, cp2, rfl, -, -, hrd2⟩ := (Ho2.out).rd
  generalize hl9 : (gotR m RES x n) = ll at *
  generalize hN : (ll).length = N at *
  have HS := Lib.hid (same_any ao1 ao2 N N cp1 cp2 ll ll w3 hN hN (by simp only [maxLen] at hm1; omega) (by simp only [maxLen] at hm1; omega) hrd1 hrd2)
  rw [decide_eq_true rfl] at HS
  have hNm : N ≤ 9223372036854775807 := by simp only [maxLen] at hm1; omega
  clear hc1 hm1 hrd1 hrd2
  go_wp2_with fail
  refine HS.out.mono ?_
  rintro e wy ⟨rfl, hdy⟩
  have Hoy := Lib.hid ((Ho1.out).later (hdy.below _))
  have Hby := Lib.hid ((Hbz.out).trans (hdy.below _))
  clear hdy HS Ho1 Ho2 Hbz
  go_wp2_with fail
  go_loopw [12] (fun iv wr => XIn wy base N (.slice ao1 N cp1) iv wr) (fun iv _ => N - (intOf iv).toNat)
  case atStart => exact ⟨0, _, Nat.zero_le _, rfl, hN, Hoy.out, Below.refl _ _⟩
  case round =>
    obtain ⟨k, l2, hk, rfl, hl2, ho, hb⟩ := hrel
    have Ho := Lib.hid ho
    have Hb := Lib.hid hb
    clear ho hb
    by_cases hlt : k < N
    · have q1 : (k : Int) < (N : Int) := by omega
      obtain ⟨g, rfl⟩ : ∃ g, ao1 = some ⟨g, 0, none⟩ := by
        rcases (Ho.out).cases with ⟨hv, -⟩ | ⟨g, _, hv, -⟩
        · cases hv; omega
        · cases hv; exact ⟨g, rfl⟩
      obtain ⟨-, hg1, hg2, -, -, hcl, hfz⟩ := (Ho.out).at
      have k0 := hcl k (by omega)
      have k1 := hfz k
      have Hst := Lib.hid (fun c => (Ho.out).store k c (by omega))
      have Hbs := Lib.hid (fun u => (Hb.out).setCell (p := ⟨g, k, none⟩) hg1 u)
      clear hcl hfz hg1 hg2 Ho Hb
      obtain ⟨c, hc⟩ : ∃ c, l2[k]?.getD 0 = c := ⟨_, rfl⟩
      rw [hc] at k0
      obtain ⟨c2, hc2⟩ : ∃ c2 : UInt8, c ^^^ 255 = c2 := ⟨_, rfl⟩
      have e1 : bits BinOp.xor IntKind.u8 (c.toNat : Int) 255 = (c2.toNat : Int) := by rw [← hc2]; exact u8_xor8 c 255
      have Hl := fun (_ : Unit) => Lib.hid hl2
      clear hc hl2 hc2
      go_wp2_with fail
      first
      | (go_roundw
         case rel => exact ⟨k + 1, _, by omega, by go_num, by rw [List.length_set]; exact (Hl ()).out, Hst.out _, Hbs.out _⟩
         case measure => (first | omega | (simp [intOf] <;> omega) | (simp only [intOf] <;> omega)))
      | exact ⟨⟨k + 1, _, by omega, by go_num, by rw [List.length_set]; exact (Hl ()).out, Hst.out _, Hbs.out _⟩, by (first | omega | (simp [intOf] <;> omega) | (simp only [intOf] <;> omega))⟩
      | (refine ⟨?_, by (first | omega | (simp [intOf] <;> omega) | (simp only [intOf] <;> omega))⟩
         (repeat apply Exists.intro)
         refine (fun a b => And.intro b a) ?_ ?_
         · first | rfl | ((repeat refine ⟨rfl, ?_⟩); rfl)
         exact ⟨k + 1, _, by omega, by go_num, by rw [List.length_set]; exact (Hl ()).out, Hst.out _, Hbs.out _⟩)
    · have q1 : ¬ (k : Int) < (N : Int) := by omega
      have HB := Lib.hid ((Hby.out).trans (Hb.out))
      go_wp2_with fail
      go_ret
      exact ⟨rfl, HB.out⟩
set_option maxRecDepth 100000 in
set_option maxHeartbeats 1000000 in
theorem reads8 {A B base : Nat} {m : List UInt8} {t : List Rg} {va vb : Value} {w : World} (h : Tw A B m m t t va vb w) (o : OpR) (hx : o.x < 18446744073709551616) (hbase : base = w.heap.size) (hk : o.kind = 8) :
    Calls Try.prog 39 #[.pointer (some ⟨A, 0, none⟩), .pointer (some ⟨B, 0, none⟩), orv o] w fun e w' => e = .returned (.bool true) ∧ Below base w w' := by
  have HX := Lib.hid (HB.new w (orc o) 44)
  have HB1 := Lib.hid ((Below.refl w.heap.size w).alloc (Nat.le_refl _) (.cells (orc o).toArray 44))
  have HT := Lib.hid (h.later HB1.out)
  have Hx := Lib.hid hx
  obtain ⟨w1, hw1⟩ : ∃ w1, w.alloc (.cells (orc o).toArray 44) = w1 := ⟨_, rfl⟩
  rw [hw1] at HX HB1 HT
  unfold orc at hw1
  obtain ⟨X, hX⟩ : ∃ X, w.heap.size = X := ⟨_, rfl⟩
  rw [hX] at HX HB1
  have HS1 := Lib.hid HB1.out.size
  rw [hX] at hbase HS1
  subst hbase
  have HXx := fun (_ : Unit) => Lib.hid hX
  have HC := Lib.hid (fun w' (hb : Below w1.heap.size w1 w') => OpX.of (HX.out.later hb))
  have hc0 := HC.out w1 (Below.refl _ _)
  obtain ⟨kind, r, sec, acc, x, n, ao, cap, l⟩ := o
  unfold orv
  dsimp only at *
  clear h hx HX
  subst hk
  obtain ⟨x0, x1, x2, x3, x4, x5, x6, x7, x8, x9, x10, x11⟩ := hc0
  have Ha := Lib.hid (fetch_any HT.out.a sec x n Hx.out)
  have Hb := Lib.hid (fun w2 (hb : Below w1.heap.size w1 w2) => rload_any (HT.out.later hb).b sec 3 x n Hx.out)
  clear HT
  dsimp only at *
  go_enter Try.func39, Try.ntmps39
  go_wp2_with fail
  refine Ha.out.mono ?_
  rintro e w2 ⟨v1, rfl, ho1, hb2⟩
  have Ho1 := Lib.hid ho1
  have Hb2 := Lib.hid hb2
  have hc0 := HC.out w2 hb2
  have Hb' := Lib.hid (Hb.out w2 hb2)
  clear x0 x1 x2 x3 x4 x5 x6 x7 x8 x9 x10 x11 ho1 hb2 Ha Hb
  obtain ⟨x0, x1, x2, x3, x4, x5, x6, x7, x8, x9, x10, x11⟩ := hc0
  dsimp only at *
  go_wp2_with fail
  refine Hb'.out.mono ?_
  rintro e w3 ⟨v2, rfl, ho2, hb3⟩
  have Ho2 := Lib.hid ho2
  have Hbz := Lib.hid (HB1.out.trans ((Hb2.out.trans (hb3.mono Hb2.out.size)).mono HS1.out))
  have Ho1 := Lib.hid ((Ho1.out.later hb3).mono HS1.out)
  have Ho2 := Lib.hid (Ho2.out.mono (Nat.le_trans HS1.out Hb2.out.size))
  clear x0 x1 x2 x3 x4 x5 x6 x7 x8 x9 x10 x11 ho2 hb3 Hb' HC
  generalize mayR t sec 3 x n = RES at *
  go_upto_region 15 with fail
  obtain ⟨ao1, cp1, rfl, hc1, hm1, hrd1⟩ := (Ho1.out).rd
  obtain ⟨ao2, cp2, rfl, -, -, hrd2⟩ := (Ho2.out).rd
  generalize hl9 : (gotR m RES x n) = ll at *
  generalize hN : (ll).length = N at *
  have HS := Lib.hid (same_any ao1 ao2 N N cp1 cp2 ll ll w3 hN hN (by simp only [maxLen] at hm1; omega) (by simp only [maxLen] at hm1; omega) hrd1 hrd2)
  rw [decide_eq_true rfl] at HS
  have hNm : N ≤ 9223372036854775807 := by simp only [maxLen] at hm1; omega
  clear hc1 hm1 hrd1 hrd2
  go_wp2_with fail
  refine HS.out.mono ?_
  rintro e wy ⟨rfl, hdy⟩
  have Hoy := Lib.hid ((Ho1.out).later (hdy.below _))
  have Hby := Lib.hid ((Hbz.out).trans (hdy.below _))
  clear hdy HS Ho1 Ho2 Hbz
  go_wp2_with fail
  go_loopw [12] (fun iv wr => XIn wy base N (.slice ao1 N cp1) iv wr) (fun iv _ => N - (intOf iv).toNat)
  case atStart => exact ⟨0, _, Nat.zero_le _, rfl, hN, Hoy.out, Below.refl _ _⟩
  case round =>
    obtain ⟨k, l2, hk, rfl, hl2, ho, hb⟩ := hrel
    have Ho := Lib.hid ho
    have Hb := Lib.hid hb
    clear ho hb
    by_cases hlt : k < N
    · have q1 : (k : Int) < (N : Int) := by omega
      obtain ⟨g, rfl⟩ : ∃ g, ao1 = some ⟨g, 0, none⟩ := by
        rcases (Ho.out).cases with ⟨hv, -⟩ | ⟨g, _, hv, -⟩
        · cases hv; omega
        · cases hv; exact ⟨g, rfl⟩
      obtain ⟨-, hg1, hg2, -, -, hcl, hfz⟩ := (Ho.out).at
      have k0 := hcl k (by omega)
      have k1 := hfz k
      have Hst := Lib.hid (fun c => (Ho.out).store k c (by omega))
      have Hbs := Lib.hid (fun u => (Hb.out).setCell (p := ⟨g, k, none⟩) hg1 u)
      clear hcl hfz hg1 hg2 Ho Hb
      obtain ⟨c, hc⟩ : ∃ c, l2[k]?.getD 0 = c := ⟨_, rfl⟩
      rw [hc] at k0
      obtain ⟨c2, hc2⟩ : ∃ c2 : UInt8, c ^^^ 255 = c2 := ⟨_, rfl⟩
      have e1 : bits BinOp.xor IntKind.u8 (c.toNat : Int) 255 = (c2.toNat : Int) := by rw [← hc2]; exact u8_xor8 c 255
      have Hl := fun (_ : Unit) => Lib.hid hl2
      clear hc hl2 hc2
      go_wp2_with fail
      first
      | (go_roundw
         case rel => exact ⟨k + 1, _, by omega, by go_num, by rw [List.length_set]; exact (Hl ()).out, Hst.out _, Hbs.out _⟩
         case measure => (first | omega | (simp [intOf] <;> omega) | (simp only [intOf] <;> omega)))
      | exact ⟨⟨k + 1, _, by omega, by go_num, by rw [List.length_set]; exact (Hl ()).out, Hst.out _, Hbs.out _⟩, by (first | omega | (simp [intOf] <;> omega) | (simp only [intOf] <;> omega))⟩
      | (refine ⟨?_, by (first | omega | (simp [intOf] <;> omega) | (simp only [intOf] <;> omega))⟩
         (repeat apply Exists.intro)
         refine (fun a b => And.intro b a) ?_ ?_
         · first | rfl | ((repeat refine ⟨rfl, ?_⟩); rfl)
         exact ⟨k + 1, _, by omega, by go_num, by rw [List.length_set]; exact (Hl ()).out, Hst.out _, Hbs.out _⟩)
    · have q1 : ¬ (k : Int) < (N : Int) := by omega
      have HB := Lib.hid ((Hby.out).trans (Hb.out))
      go_wp2_with fail
      go_ret
      exact ⟨rfl, HB.out⟩
set_option maxRecDepth 100000 in
set_option maxHeartbeats 1000000 in
theorem reads10 {A B base : Nat} {m : List UInt8} {t : List Rg} {va vb : Value} {w : World} (h : Tw A B m m t t va vb w) (o : OpR) (hx : o.x < 18446744073709551616) (hbase : base = w.heap.size) (hk : o.kind = 10) :
    Calls Try.prog 39 #[.pointer (some ⟨A, 0, none⟩), .pointer (some ⟨B, 0, none⟩), orv o] w fun e w' => e = .returned (.bool true) ∧ Below base w w' := by
  have HX := Lib.hid (HB.new w (orc o) 44)
  have HB1 := Lib.hid ((Below.refl w.heap.size w).alloc (Nat.le_refl _) (.cells (orc o).toArray 44))
  have HT := Lib.hid (h.later HB1.out)
  have Hx := Lib.hid hx
  obtain ⟨w1, hw1⟩ : ∃ w1, w.alloc (.cells (orc o).toArray 44) = w1 := ⟨_, rfl⟩
  rw [hw1] at HX HB1 HT
  unfold orc at hw1
  obtain ⟨X, hX⟩ : ∃ X, w.heap.size = X := ⟨_, rfl⟩
  rw [hX] at HX HB1
  have HS1 := Lib.hid HB1.out.size
  rw [hX] at hbase HS1
  subst hbase
  have HXx := fun (_ : Unit) => Lib.hid hX
  have HC := Lib.hid (fun w' (hb : Below w1.heap.size w1 w') => OpX.of (HX.out.later hb))
  have hc0 := HC.out w1 (Below.refl _ _)
  obtain ⟨kind, r, sec, acc, x, n, ao, cap, l⟩ := o
  unfold orv
  dsimp only at *
  clear h hx HX
  subst hk
  obtain ⟨x0, x1, x2, x3, x4, x5, x6, x7, x8, x9, x10, x11⟩ := hc0
  have Ha := Lib.hid (peek_any HT.out.a x n Hx.out)
  have Hb := Lib.hid (fun w2 (hb : Below w1.heap.size w1 w2) => rpeek_any (HT.out.later hb).b x n Hx.out)
  generalize hRES : (if inRam x n = true then (0 : Int) else 161) = RES at Ha Hb
  generalize hLL : (if inRam x n = true then getR m (x - 1073741824) n else []) = ll at Ha Hb
  clear HT hRES hLL
  dsimp only at *
  go_enter Try.func39, Try.ntmps39
  go_wp2_with fail
  refine Ha.out.mono ?_
  rintro e w2 ⟨v1, rfl, ho1, hb2⟩
  have Ho1 := Lib.hid ho1
  have Hb2 := Lib.hid hb2
  have hc0 := HC.out w2 hb2
  have Hb' := Lib.hid (Hb.out w2 hb2)
  clear x0 x1 x2 x3 x4 x5 x6 x7 x8 x9 x10 x11 ho1 hb2 Ha Hb
  obtain ⟨x0, x1, x2, x3, x4, x5, x6, x7, x8, x9, x10, x11⟩ := hc0
  dsimp only at *
  go_wp2_with fail
  refine Hb'.out.mono ?_
  rintro e w3 ⟨v2, rfl, ho2, hb3⟩
  have Ho2 := Lib.hid ho2
  have Hbz := Lib.hid (HB1.out.trans ((Hb2.out.trans (hb3.mono Hb2.out.size)).mono HS1.out))
  have Ho1 := Lib.hid ((Ho1.out.later hb3).mono HS1.out)
  have Ho2 := Lib.hid (Ho2.out.mono (Nat.le_trans HS1.out Hb2.out.size))
  clear x0 x1 x2 x3 x4 x5 x6 x7 x8 x9 x10 x11 ho2 hb3 Hb' HC
  go_upto_region 15 with fail
  obtain ⟨ao1, cp1, rfl, hc1, hm1, hrd1⟩ := (Ho1.out).rd
  obtain ⟨ao2, cp2, rfl, -, -, hrd2⟩ := (Ho2.out).rd
  generalize hN : (ll).length = N at *
  have HS := Lib.hid (same_any ao1 ao2 N N cp1 cp2 ll ll w3 hN hN (by simp only [maxLen] at hm1; omega) (by simp only [maxLen] at hm1; omega) hrd1 hrd2)
  rw [decide_eq_true rfl] at HS
  have hNm : N ≤ 9223372036854775807 := by simp only [maxLen] at hm1; omega
  clear hc1 hm1 hrd1 hrd2
  go_wp2_with fail
  refine HS.out.mono ?_
  rintro e wy ⟨rfl, hdy⟩
  have Hoy := Lib.hid ((Ho1.out).later (hdy.below _))
  have Hby := Lib.hid ((Hbz.out).trans (hdy.below _))
  clear hdy HS Ho1 Ho2 Hbz
  go_wp2_with fail
  go_loopw [12] (fun iv wr => XIn wy base N (.slice ao1 N cp1) iv wr) (fun iv _ => N - (intOf iv).toNat)
  case atStart => exact ⟨0, _, Nat.zero_le _, rfl, hN, Hoy.out, Below.refl _ _⟩
  case round =>
    obtain ⟨k, l2, hk, rfl, hl2, ho, hb⟩ := hrel
    have Ho := Lib.hid ho
    have Hb := Lib.hid hb
    clear ho hb
    by_cases hlt : k < N
    · have q1 : (k : Int) < (N : Int) := by omega
      obtain ⟨g, rfl⟩ : ∃ g, ao1 = some ⟨g, 0, none⟩ := by
        rcases (Ho.out).cases with ⟨hv, -⟩ | ⟨g, _, hv, -⟩
        · cases hv; omega
        · cases hv; exact ⟨g, rfl⟩
      obtain ⟨-, hg1, hg2, -, -, hcl, hfz⟩ := (Ho.out).at
      have k0 := hcl k (by omega)
      have k1 := hfz k
      have Hst := Lib.hid (fun c => (Ho.out).store k c (by omega))
      have Hbs := Lib.hid (fun u => (Hb.out).setCell (p := ⟨g, k, none⟩) hg1 u)
      clear hcl hfz hg1 hg2 Ho Hb
      obtain ⟨c, hc⟩ : ∃ c, l2[k]?.getD 0 = c := ⟨_, rfl⟩
      rw [hc] at k0
      obtain ⟨c2, hc2⟩ : ∃ c2 : UInt8, c ^^^ 255 = c2 := ⟨_, rfl⟩
      have e1 : bits BinOp.xor IntKind.u8 (c.toNat : Int) 255 = (c2.toNat : Int) := by rw [← hc2]; exact u8_xor8 c 255
      have Hl := fun (_ : Unit) => Lib.hid hl2
      clear hc hl2 hc2
      go_wp2_with fail
      first
      | (go_roundw
         case rel => exact ⟨k + 1, _, by omega, by go_num, by rw [List.length_set]; exact (Hl ()).out, Hst.out _, Hbs.out _⟩
         case measure => (first | omega | (simp [intOf] <;> omega) | (simp only [intOf] <;> omega)))
      | exact ⟨⟨k + 1, _, by omega, by go_num, by rw [List.length_set]; exact (Hl ()).out, Hst.out _, Hbs.out _⟩, by (first | omega | (simp [intOf] <;> omega) | (simp only [intOf] <;> omega))⟩
      | (refine ⟨?_, by (first | omega | (simp [intOf] <;> omega) | (simp only [intOf] <;> omega))⟩
         (repeat apply Exists.intro)
         refine (fun a b => And.intro b a) ?_ ?_
         · first | rfl | ((repeat refine ⟨rfl, ?_⟩); rfl)
         exact ⟨k + 1, _, by omega, by go_num, by rw [List.length_set]; exact (Hl ()).out, Hst.out _, Hbs.out _⟩)
    · have q1 : ¬ (k : Int) < (N : Int) := by omega
      have HB := Lib.hid ((Hby.out).trans (Hb.out))
      go_wp2_with fail
      go_ret
      exact ⟨rfl, HB.out⟩
set_option maxRecDepth 100000 in
set_option maxHeartbeats 1000000 in
theorem reads0 {A B base : Nat} {m : List UInt8} {t : List Rg} {va vb : Value} {w : World} (h : Tw A B m m t t va vb w) (o : OpR) (hx : o.x < 18446744073709551616) (hbase : base = w.heap.size) (hk6 : o.kind ≠ 6) (hk8 : o.kind ≠ 8) (hk10 : o.kind ≠ 10) :
    Calls Try.prog 39 #[.pointer (some ⟨A, 0, none⟩), .pointer (some ⟨B, 0, none⟩), orv o] w fun e w' => e = .returned (.bool true) ∧ Below base w w' := by
  have HX := Lib.hid (HB.new w (orc o) 44)
  have HB1 := Lib.hid ((Below.refl w.heap.size w).alloc (Nat.le_refl _) (.cells (orc o).toArray 44))
  have HT := Lib.hid (h.later HB1.out)
  have Hx := Lib.hid hx
  obtain ⟨w1, hw1⟩ : ∃ w1, w.alloc (.cells (orc o).toArray 44) = w1 := ⟨_, rfl⟩
  rw [hw1] at HX HB1 HT
  unfold orc at hw1
  obtain ⟨X, hX⟩ : ∃ X, w.heap.size = X := ⟨_, rfl⟩
  rw [hX] at HX HB1
  have HS1 := Lib.hid HB1.out.size
  rw [hX] at hbase HS1
  subst hbase
  have HXx := fun (_ : Unit) => Lib.hid hX
  have HC := Lib.hid (fun w' (hb : Below w1.heap.size w1 w') => OpX.of (HX.out.later hb))
  have hc0 := HC.out w1 (Below.refl _ _)
  obtain ⟨kind, r, sec, acc, x, n, ao, cap, l⟩ := o
  unfold orv
  dsimp only at *
  clear h hx HX
  obtain ⟨x0, x1, x2, x3, x4, x5, x6, x7, x8, x9, x10, x11⟩ := hc0
  have Ho1 := Lib.hid (Own.nil 5 w1 base)
  have Ho2 := Lib.hid (Own.nil 5 w1 base)
  have Hbz := HB1
  clear HB1 HT
  go_enter Try.func39, Try.ntmps39
  go_upto_region 15 with fail
  generalize Value.slice none 0 0 = v at Ho1 Ho2 ⊢
  obtain ⟨ao1, cp1, rfl, hc1, hm1, hrd1⟩ := (Ho1.out).rd
  obtain ⟨ao2, cp2, hao2, -, -, hrd2⟩ := (Ho2.out).rd
  cases hao2
  generalize hN : (([] : List UInt8)).length = N at *
  have HS := Lib.hid (same_any ao1 ao1 N N cp1 cp1 ([] : List UInt8) ([] : List UInt8) w1 hN hN (by simp only [maxLen] at hm1; omega) (by simp only [maxLen] at hm1; omega) hrd1 hrd2)
  rw [decide_eq_true rfl] at HS
  have hNm : N ≤ 9223372036854775807 := by simp only [maxLen] at hm1; omega
  clear hc1 hm1 hrd1 hrd2
  go_wp2_with fail
  refine HS.out.mono ?_
  rintro e wy ⟨rfl, hdy⟩
  have Hoy := Lib.hid ((Ho1.out).later (hdy.below _))
  have Hby := Lib.hid ((Hbz.out).trans (hdy.below _))
  clear hdy HS Ho1 Ho2 Hbz
  go_wp2_with fail
  go_loopw [12] (fun iv wr => XIn wy base N (.slice ao1 N cp1) iv wr) (fun iv _ => N - (intOf iv).toNat)
  case atStart => exact ⟨0, _, Nat.zero_le _, rfl, hN, Hoy.out, Below.refl _ _⟩
  case round =>
    obtain ⟨k, l2, hk, rfl, hl2, ho, hb⟩ := hrel
    have Ho := Lib.hid ho
    have Hb := Lib.hid hb
    clear ho hb
    by_cases hlt : k < N
    · have q1 : (k : Int) < (N : Int) := by omega
      obtain ⟨g, rfl⟩ : ∃ g, ao1 = some ⟨g, 0, none⟩ := by
        rcases (Ho.out).cases with ⟨hv, -⟩ | ⟨g, _, hv, -⟩
        · cases hv; omega
        · cases hv; exact ⟨g, rfl⟩
      obtain ⟨-, hg1, hg2, -, -, hcl, hfz⟩ := (Ho.out).at
      have k0 := hcl k (by omega)
      have k1 := hfz k
      have Hst := Lib.hid (fun c => (Ho.out).store k c (by omega))
      have Hbs := Lib.hid (fun u => (Hb.out).setCell (p := ⟨g, k, none⟩) hg1 u)
      clear hcl hfz hg1 hg2 Ho Hb
      obtain ⟨c, hc⟩ : ∃ c, l2[k]?.getD 0 = c := ⟨_, rfl⟩
      rw [hc] at k0
      obtain ⟨c2, hc2⟩ : ∃ c2 : UInt8, c ^^^ 255 = c2 := ⟨_, rfl⟩
      have e1 : bits BinOp.xor IntKind.u8 (c.toNat : Int) 255 = (c2.toNat : Int) := by rw [← hc2]; exact u8_xor8 c 255
      have Hl := fun (_ : Unit) => Lib.hid hl2
      clear hc hl2 hc2
      go_wp2_with fail
      first
      | (go_roundw
         case rel => exact ⟨k + 1, _, by omega, by go_num, by rw [List.length_set]; exact (Hl ()).out, Hst.out _, Hbs.out _⟩
         case measure => (first | omega | (simp [intOf] <;> omega) | (simp only [intOf] <;> omega)))
      | exact ⟨⟨k + 1, _, by omega, by go_num, by rw [List.length_set]; exact (Hl ()).out, Hst.out _, Hbs.out _⟩, by (first | omega | (simp [intOf] <;> omega) | (simp only [intOf] <;> omega))⟩
      | (refine ⟨?_, by (first | omega | (simp [intOf] <;> omega) | (simp only [intOf] <;> omega))⟩
         (repeat apply Exists.intro)
         refine (fun a b => And.intro b a) ?_ ?_
         · first | rfl | ((repeat refine ⟨rfl, ?_⟩); rfl)
         exact ⟨k + 1, _, by omega, by go_num, by rw [List.length_set]; exact (Hl ()).out, Hst.out _, Hbs.out _⟩)
    · have q1 : ¬ (k : Int) < (N : Int) := by omega
      have HB := Lib.hid ((Hby.out).trans (Hb.out))
      go_wp2_with fail
      go_ret
      exact ⟨rfl, HB.out⟩
theorem reads_any {A B base : Nat} {m : List UInt8} {t : List Rg} {va vb : Value} {w : World} (h : Tw A B m m t t va vb w) (o : OpR) (hx : o.x < 18446744073709551616) (hbase : base = w.heap.size) :
    Calls Try.prog 39 #[.pointer (some ⟨A, 0, none⟩), .pointer (some ⟨B, 0, none⟩), orv o] w fun e w' => e = .returned (.bool true) ∧ Below base w w' := by
  by_cases h6 : o.kind = 6
  · exact reads6 h o hx hbase h6
  by_cases h8 : o.kind = 8
  · exact reads8 h o hx hbase h8
  by_cases h10 : o.kind = 10
  · exact reads10 h o hx hbase h10
  exact reads0 h o hx hbase h6 h8 h10
end Go.Proofs.Ytcbiohpgmooefaa
