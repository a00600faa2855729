/- A package's maker: its numbers and entries. No condition. -/
import Derived.Test.YtefkmlfpdlnodaaFipI
import Derived.Maps.AppendAt
import Derived.Deep.RegionLaw
import Derived.Laws.AppendOwnNone
set_option linter.unusedVariables false
set_option linter.unusedSimpArgs false
namespace Go.Proofs.Ytefkmlfpdlnodaa
open Go.RowKit
attribute [local go_sem ↓] build_en store_en load_en load_gu store_gu build_gu bs_en
/-- append(s, x...) of bytes that lie somewhere: where the new value's row lies is told -/
theorem wp_append_at {P : Program} {T E : TypeId} (R : ByteRow P T E) {w : World} {o : Oper} {a : Act} {K : Act → World → Prop} {Q : Exit → Act → World → Prop} (s x : Operand)
    (ho : o.op = .call { callee := .builtin .append, args := #[s, x], argTypes := #[T, T] })
    (B : Nat) (v : Value) (l : List UInt8) (hs : a.eval s = v) (hown : Own E w B v l) (ad : Addr) (m c : Nat) (l2 : List UInt8) (hx : a.eval x = .slice (some ad) m c) (hl : l2.length = m) (hr : Rd w (some ad) l2)
    (hbytes : l.length + m ≤ 140737488355328) (hB : B ≤ w.heap.size) (N : Nat) (hN : l.length + m = N) (hpos : 0 < N)
    (h : ∀ g C w', Own E w' B (.slice (some ⟨g, 0, none⟩) N C) (l ++ l2) → w.grownBy w' v.ownBlock → (some g = v.ownBlock ∨ g = w.heap.size) → K (a.put o.dst (.slice (some ⟨g, 0, none⟩) N C)) w') : o.wp P a w K Q := by
  obtain ⟨i, hi, hz0, hz1, hz2⟩ := info_parts R.info
  obtain ⟨v', w', hrun, h2, h3, h4, h5⟩ := run_append_own_at (P := P) w B T o.type E i (.int .u8 0) 1 1 R.ht hi hz0 hz1 hz2 rfl (by decide) v l.length (l.map bv) hown ad m c (l2.map bv) (by simp [hl]) hr.news (bv_one _) (by simp only [maxLen]; omega) (by omega) hB
  unfold Oper.wp execOp
  simp only [ho, resolve, invoke, builtin, Sem.run_bind, Sem.run_pure, Result.andThen_ok, List.map_toArray, List.map_cons, List.map_nil, hs, hx, hrun]
  have hO : Own E w' B v' (l ++ l2) := by
    unfold Own
    rw [List.length_append, List.map_append, hl]
    exact h2
  rcases hO.cases with ⟨_, h0⟩ | ⟨g, C, hv, _⟩
  · have : l.length + l2.length = 0 := by rw [← List.length_append, h0]; rfl
    omega
  · have e : (l ++ l2).length = N := by rw [List.length_append]; omega
    rw [e] at hv
    subst hv
    exact h g C w' hO h3 (h5.imp id (fun e => Option.some.inj e))
theorem wpList_append_at {P : Program} {T E : TypeId} (R : ByteRow P T E) {w : World} {ops : Array Oper} {rest : List Oper} {o : Oper} {a : Act} {Q : Exit → Act → World → Prop} (hgd : o.guard = none) (s x : Operand)
    (ho : o.op = .call { callee := .builtin .append, args := #[s, x], argTypes := #[T, T] })
    (B : Nat) (v : Value) (l : List UInt8) (hs : a.eval s = v) (hown : Own E w B v l) (ad : Addr) (m c : Nat) (l2 : List UInt8) (hx : a.eval x = .slice (some ad) m c) (hl : l2.length = m) (hr : Rd w (some ad) l2)
    (hbytes : l.length + m ≤ 140737488355328) (hB : B ≤ w.heap.size) (N : Nat) (hN : l.length + m = N) (hpos : 0 < N)
    (h : ∀ g C w', Own E w' B (.slice (some ⟨g, 0, none⟩) N C) (l ++ l2) → w.grownBy w' v.ownBlock → (some g = v.ownBlock ∨ g = w.heap.size) → wpList P ops Q rest (a.put o.dst (.slice (some ⟨g, 0, none⟩) N C)) w') : wpList P ops Q (o :: rest) a w :=
  wpList_plain hgd fun _ hK => wp_append_at R s x ho B v l hs hown ad m c l2 hx hl hr hbytes hB N hN hpos fun g C w' h1 h2 h3 => hK _ _ (h g C w' h1 h2 h3)
theorem wp_append_none {P : Program} {T E : TypeId} (R : ByteRow P T E) {w : World} {o : Oper} {a : Act} {K : Act → World → Prop} {Q : Exit → Act → World → Prop} (s x : Operand)
    (ho : o.op = .call { callee := .builtin .append, args := #[s, x], argTypes := #[T, T] })
    (B : Nat) (v : Value) (l : List UInt8) (hs : a.eval s = v) (hown : Own E w B v l) (hx : a.eval x = .slice none 0 0) (h : K (a.put o.dst v) w) : o.wp P a w K Q := by
  obtain ⟨i, hi, hz0, hz1, hz2⟩ := info_parts R.info
  have hrun := run_append_owned_none (P := P) (w := w) B T o.type E i 1 R.ht hi v _ _ hown
  unfold Oper.wp
  simp [execOp, ho, resolve, invoke, builtin, hs, hx, hrun, Result.andThen]
  exact h
/-- a maker at mb: its table, its data -/
structure MK (w : World) (B mb : Nat) (vt vd : Value) (tab data : List UInt8) : Prop where
  h : HB w mb 57 [vt, vd]
  t : Own 5 w B vt tab
  d : Own 5 w B vd data
  lt : mb < B
  ne : ∀ k, vt.ownBlock = some k → vd.ownBlock ≠ some k
theorem own_blk {E : TypeId} {w : World} {B : Nat} {v : Value} {l : List UInt8} (h : Own E w B v l) {k : Nat} (hk : v.ownBlock = some k) : B ≤ k ∧ k < w.heap.size := by
  rcases h.cases with ⟨rfl, _⟩ | ⟨g, cap, rfl, h1, h2, _⟩
  · cases hk
  · have e : g = k := Option.some.inj hk
    omega
theorem MK.later {w w' : World} {B mb : Nat} {vt vd : Value} {tab data : List UInt8} (h : MK w B mb vt vd tab data) (hb : Below w.heap.size w w') : MK w' B mb vt vd tab data := ⟨h.h.later hb, h.t.later hb, h.d.later hb, h.lt, h.ne⟩
theorem MK.size {w : World} {B mb : Nat} {vt vd : Value} {tab data : List UInt8} (h : MK w B mb vt vd tab data) : mb < w.heap.size := h.h.lt
/-- the table is written on -/
theorem MK.table {w w' : World} {B mb : Nat} {vt vd vt' : Value} {tab data more : List UInt8} (h : MK w B mb vt vd tab data) (ho : Own 5 w' B vt' (tab ++ more)) (hg : w.grownBy w' vt.ownBlock) (hk : vt'.ownBlock = vt.ownBlock ∨ vt'.ownBlock = some w.heap.size) :
    MK (w'.setCell ⟨mb, 0, none⟩ vt') B mb vt' vd (tab ++ more) data ∧ (∀ D, mb ≤ D → Below mb w (w'.setCell ⟨mb, 0, none⟩ vt')) ∧ HB w' mb 57 [vt, vd] := by
  have hne : ∀ k, vt.ownBlock = some k → mb ≠ k := fun k hk => by have := (own_blk h.t hk).1; have := h.lt; omega
  have hm : HB w' mb 57 [vt, vd] := h.h.grown hg (fun e => hne _ e.symm rfl)
  have hd : Own 5 w' B vd data := h.d.grown hg (fun k h1 h2 => h.ne k h2 h1)
  have hs := grown_set w' ⟨mb, 0, none⟩ vt'
  refine ⟨⟨hm.set 0 vt', ho.grown hs (fun k h1 h2 => ?_), hd.grown hs (fun k h1 h2 => ?_), h.lt, fun k h1 h2 => ?_⟩, fun D hD => ?_, hm⟩
  · have := (own_blk ho h1).1; have := h.lt; have e := Option.some.inj h2; simp only at e; omega
  · have := (own_blk hd h1).1; have := h.lt; have e := Option.some.inj h2; simp only at e; omega
  · rcases hk with hk | hk
    · exact h.ne k (hk ▸ h1) h2
    · rw [hk] at h1
      have e := Option.some.inj h1
      have := (own_blk h.d h2).2
      omega
  · have h1 : Below mb w w' := (Below.refl mb w).grown hg (Nat.le_of_lt h.size) (fun k hk => by have := (own_blk h.t hk).1; have := h.lt; omega)
    exact h1.grown hs (Nat.le_trans (Nat.le_of_lt h.size) hg.size) (fun k hk => by have := Option.some.inj hk; simp only at this; omega)
/-- a block that is neither the maker nor its table's row stays -/
def Apart (w w' : World) (mb : Nat) (vt vt' : Value) : Prop := ∀ b t cs, b ≠ mb → vt.ownBlock ≠ some b → HB w b t cs → HB w' b t cs ∧ vt'.ownBlock ≠ some b
theorem Apart.trans {w w' w'' : World} {mb : Nat} {a b c : Value} (h : Apart w w' mb a b) (k : Apart w' w'' mb b c) : Apart w w'' mb a c := fun x t cs h1 h2 h3 =>
  let ⟨h4, h5⟩ := h x t cs h1 h2 h3; k x t cs h1 h5 h4
theorem Apart.pre {w w' w'' : World} {mb : Nat} {a b : Value} (h : Below w.heap.size w w') (k : Apart w' w'' mb a b) : Apart w w'' mb a b := fun x t cs h1 h2 h3 => k x t cs h1 h2 (h3.later h)
theorem apart_one {w w3 : World} {mb g n C : Nat} {vt : Value} (hg : w.grownBy w3 vt.ownBlock) (hk : some g = vt.ownBlock ∨ g = w.heap.size) :
    Apart w (w3.setCell ⟨mb, 0, none⟩ (.slice (some ⟨g, 0, none⟩) n C)) mb vt (.slice (some ⟨g, 0, none⟩) n C) := fun b t cs h1 h2 h3 => by
  refine ⟨(h3.grown hg (fun e => h2 e.symm)).other _ _ h1, fun e => ?_⟩
  have e' : g = b := Option.some.inj e
  rcases hk with hk | hk
  · exact h2 (by rw [← hk, e'])
  · have := h3.lt; omega
theorem putL_zero (k v : Nat) (big : Bool) : putL (List.replicate k 0) 0 k big v = encL k big v := by
  have h := piece_putL (List.replicate k 0) 0 k big v (by simp)
  unfold piece at h
  rw [List.drop_zero, List.take_of_length_le (by rw [putL_length]; simp)] at h
  exact h
set_option maxHeartbeats 400000 in
theorem mnum_any (B mb k v : Nat) (vt vd : Value) (tab data : List UInt8) (w : World) (h : MK w B mb vt vd tab data) (hk : k = 4 ∨ k = 8) (hv : v < 256 ^ k) (hv64 : v < 18446744073709551616) (hB : B ≤ w.heap.size) (ht : tab.length ≤ 1000000) :
    Calls Try.prog 26 #[.pointer (some ⟨mb, 0, none⟩), .int .i64 k, .int .u64 v] w fun e w' => e = .returned (.tuple #[]) ∧ (∃ vt', MK w' B mb vt' vd (tab ++ encL k false v) data ∧ Apart w w' mb vt vt') ∧ Below mb w w' ∧ w.heap.size ≤ w'.heap.size := by
  have hkk : (k : Int) = k := rfl
  have hk8 : k ≤ 8 := by omega
  have hs4 : SizeOk k := hk.elim (fun h => by subst h; exact Or.inr (Or.inr (Or.inl rfl))) (fun h => by subst h; exact Or.inr (Or.inr (Or.inr rfl)))
  have H := Lib.hid h
  have HBs := Lib.hid hB
  have Hp := fun (w' : World) (g : Nat) (hr : Rd w' (some ⟨g, 0, none⟩) (List.replicate k 0)) => Lib.hid (put_ok (some ⟨g, 0, none⟩) k k 0 k v (List.replicate k 0) false w' (by simp) (by omega) (fun h => by cases h) hr hs4 (by omega) hv)
  have HP := Lib.hid Hp
  obtain ⟨i0, hi, hz0, hz1, hz2⟩ := info_parts byteRow.info
  clear h hB Hp hs4 hv
  go_enter Try.func26, Try.ntmps26
  go_wp2_with (at_make; refine wpList_make_full _ rfl _ _ 22 rfl w.heap.size 5 i0 (.int .u8 0) 1 Try.underlying22 hi hz0 hz1 _ _ _ _ k rfl rfl rfl rfl (by rw [hz2]; omega) (by simp only [maxLen]; omega) (Nat.le_refl _) ?_)
  intro w1 hown hgr
  have hb1 : Below w.heap.size w w1 := (Below.refl _ _).grown hgr (Nat.le_refl _) (by intro q hq; cases hq)
  have hz := Own.zeros hown
  obtain ⟨ao', cp', he', -, -, hrd⟩ := hz.rd
  obtain ⟨rfl, -, -⟩ : ao' = some ⟨w.heap.size, 0, none⟩ ∧ True ∧ True := by
    simp only [Value.slice.injEq] at he'
    exact ⟨he'.1.symm, trivial, trivial⟩
  have HP1 := Lib.hid (HP.out w1 w.heap.size hrd)
  have H1 := Lib.hid (H.out.later hb1)
  have HB1 := Lib.hid (hb1.mono (Nat.le_of_lt H.out.size))
  have HL1 := Lib.hid hb1
  have Hs1 : Hid (w.heap.size ≤ w1.heap.size) := Lib.hid hb1.size
  clear hown hgr hb1 hz he' hrd HP
  go_wp2_with fail
  refine HP1.out.out.mono ?_
  rintro e w2 ⟨g, C, rfl, hC, ho2, hb2⟩
  rw [putL_zero] at ho2
  have H2 := Lib.hid (H1.out.later hb2)
  have HB2 := Lib.hid (HB1.out.trans (hb2.mono (Nat.le_trans (Nat.le_of_lt H.out.size) Hs1.out)))
  have Hs2 : Hid (w.heap.size ≤ w2.heap.size) := Lib.hid (Nat.le_trans Hs1.out hb2.size)
  obtain ⟨hln, -, -, -, -, hcl, -⟩ := ho2.at
  have Hr2 : Hid (Rd w2 (some ⟨g, 0, none⟩) (encL k false v)) := Lib.hid fun j hj => ⟨g, 0, rfl, by rw [Nat.zero_add]; exact hcl j (by rw [encL_length] at hj; exact hj)⟩
  have c0 := H2.out.h.cell (i := 0) rfl
  have HL2 := Lib.hid (HL1.out.trans (hb2.mono Hs1.out))
  clear ho2 hb2 hln hcl HP1 H1 HB1
  go_wp2_with (at_builtin; refine wpList_append_at byteRow rfl _ _ rfl B vt tab rfl H2.out.t ⟨g, 0, none⟩ k C (encL k false v) rfl (encL_length _ _ _) Hr2.out (by omega) (Nat.le_trans HBs.out Hs2.out) (tab.length + k) rfl (by omega) ?_)
  intro g3 C3 w3 ho3 hg3 hk3
  obtain ⟨hm3, hb3, hm3'⟩ := H2.out.table ho3 hg3 (hk3.imp (fun h => h) (fun h => congrArg some h))
  have Hm3 := Lib.hid hm3
  have Hb3 := Lib.hid (hb3 mb (Nat.le_refl _))
  have d0 := hm3'.cell (i := 0) rfl
  have e0 := hm3'.frozen 0
  have Hs3 : Hid (w.heap.size ≤ (w3.setCell ⟨mb, 0, none⟩ (.slice (some ⟨g3, 0, none⟩) (tab.length + k) C3)).heap.size) := Lib.hid (Nat.le_trans Hs2.out (by simp [World.setCell]; exact hg3.size))
  have Ha : Hid (Apart w2 (w3.setCell ⟨mb, 0, none⟩ (.slice (some ⟨g3, 0, none⟩) (tab.length + k) C3)) mb vt (.slice (some ⟨g3, 0, none⟩) (tab.length + k) C3)) := Lib.hid (apart_one hg3 hk3)
  clear ho3 hg3 hk3 hm3 hb3 hm3'
  go_wp2_with fail
  go_end0
  exact ⟨rfl, ⟨_, Hm3.out, Ha.out.pre HL2.out⟩, HB2.out.trans Hb3.out, Hs3.out⟩
def entB (g : Gu) (o s : Nat) : List UInt8 := g.1 ++ encL 8 false o ++ encL 8 false s ++ encL 8 false 0
theorem entB_len (g : Gu) (o s : Nat) : (entB g o s).length = 40 := by
  unfold entB; simp [encL_length, g.2]
set_option maxHeartbeats 400000 in
theorem mentry_any (B mb : Nat) (g : Gu) (o s : Nat) (vt vd : Value) (tab data : List UInt8) (w : World) (h : MK w B mb vt vd tab data) (hB : B ≤ w.heap.size) (ht : tab.length ≤ 900000) (ho : o < 4294967296) (hs : s < 4294967296) :
    Calls Try.prog 28 #[.pointer (some ⟨mb, 0, none⟩), .agg (guc g).toArray, .int .i64 o, .int .i64 s] w fun e w' => e = .returned (.tuple #[]) ∧ (∃ vt', MK w' B mb vt' vd (tab ++ entB g o s) data ∧ Apart w w' mb vt vt') ∧ Below mb w w' ∧ w.heap.size ≤ w'.heap.size := by
  have hb0 := (Below.refl w.heap.size w).alloc (Nat.le_refl _) (.cells (guc g).toArray 30)
  have H1 := Lib.hid (h.later hb0)
  have HB1 := Lib.hid (hb0.mono (Nat.le_of_lt h.size))
  have HG := Lib.hid (HB.new w (guc g) 30)
  have HL0 := Lib.hid hb0
  have Hs1 : Hid (w.heap.size ≤ (w.alloc (.cells (guc g).toArray 30)).heap.size) := Lib.hid hb0.size
  have HBs := Lib.hid hB
  have u1 : IntKind.u64.wrap (o : Int) = (o : Int) := IntWalk.u64_in _ (by omega)
  have u2 : IntKind.u64.wrap (s : Int) = (s : Int) := IntWalk.u64_in _ (by omega)
  clear hb0 h hB
  go_enter Try.func28, Try.ntmps28
  go_wp2_with fail
  as_aux_lemma =>
  generalize w.alloc (.cells (guc g).toArray 30) = w1 at *
  obtain ⟨x, hx⟩ : ∃ x, w.heap.size = x := ⟨_, rfl⟩
  rw [hx] at HG ⊢
  have hxw : w.heap.size = w.heap.size := rfl
  have hd0 : Drn w1 w1.drew := ⟨1, rfl⟩
  have H2 := Lib.hid (H1.out.later (hd0.below _))
  have Hb2 := Lib.hid (HB1.out.trans (hd0.below _))
  have Hs2 : Hid (w.heap.size ≤ w1.drew.heap.size) := Lib.hid Hs1.out
  have HG2 : Hid (Rd w1.drew (some ⟨x, 0, none⟩) g.1) := Lib.hid fun j hj => ⟨x, 0, rfl, by
    rw [Nat.zero_add]
    exact (HG.out.drn hd0).cell (by unfold guc; rw [List.getElem?_map, List.getElem?_eq_getElem hj]; rfl)⟩
  have c0 := H2.out.h.cell (i := 0) rfl
  have c0' : w1.cell? ⟨mb, 0, none⟩ = some vt := H1.out.h.cell (i := 0) rfl
  have HL2 := Lib.hid (HL0.out.trans (hd0.below _))
  clear hx
  go_region_law ((refine step_of_wp rfl (wp_append_at byteRow _ _ rfl B vt tab rfl H2.out.t ⟨x, 0, none⟩ 16 16 g.1 rfl g.2 HG2.out (by omega) (Nat.le_trans HBs.out Hs2.out) (tab.length + 16) rfl (by omega) ?_)); intro g3 C3 w3 ho3 hg3 hk3; have d0 := (H2.out.table ho3 hg3 (hk3.imp (fun h => h) (fun h => congrArg some h))).2.2.cell (i := 0) rfl; have e0 := (H2.out.table ho3 hg3 (hk3.imp (fun h => h) (fun h => congrArg some h))).2.2.frozen 0)
  obtain ⟨hm3, hb3, -⟩ := H2.out.table ho3 hg3 (hk3.imp (fun h => h) (fun h => congrArg some h))
  have Hm3 := Lib.hid hm3
  have Hb3 := Lib.hid (Hb2.out.trans (hb3 mb (Nat.le_refl _)))
  have Hs3 : Hid (w.heap.size ≤ (w3.setCell ⟨mb, 0, none⟩ (.slice (some ⟨g3, 0, none⟩) (tab.length + 16) C3)).heap.size) := Lib.hid (Nat.le_trans Hs2.out (by simp [World.setCell]; exact hg3.size))
  have Ha3 : Hid (Apart w (w3.setCell ⟨mb, 0, none⟩ (.slice (some ⟨g3, 0, none⟩) (tab.length + 16) C3)) mb vt (.slice (some ⟨g3, 0, none⟩) (tab.length + 16) C3)) := Lib.hid ((apart_one hg3 hk3).pre (by rw [hxw]; exact HL2.out))
  clear ho3 hg3 hk3 hm3 hb3 d0 e0 c0 c0' hd0 H2 Hb2 HG2 H1 HB1 HG
  generalize w3.setCell ⟨mb, 0, none⟩ (.slice (some ⟨g3, 0, none⟩) (tab.length + 16) C3) = w4 at *
  have hg16 := g.2
  have Hn1 := Lib.hid (mnum_any B mb 8 o _ vd (tab ++ g.1) data w4 Hm3.out (Or.inr rfl) (by omega) (by omega) (Nat.le_trans HBs.out Hs3.out) (by rw [List.length_append]; omega))
  go_wp2_with fail
  refine Hn1.out.mono ?_
  rintro e w5 ⟨rfl, ⟨vt5, hm5, ha5⟩, hb5, hs5⟩
  have Ha5 := Lib.hid (Ha3.out.trans ha5)
  have Hm5 := Lib.hid hm5
  have Hb5 := Lib.hid (Hb3.out.trans hb5)
  have Hs5 : Hid (w.heap.size ≤ w5.heap.size) := Lib.hid (Nat.le_trans Hs3.out hs5)
  clear hm5 hb5 hs5 Hn1 ha5
  have Hn2 := Lib.hid (mnum_any B mb 8 s _ vd _ data w5 Hm5.out (Or.inr rfl) (by omega) (by omega) (Nat.le_trans HBs.out Hs5.out) (by simp [encL_length]; omega))
  go_wp2_with fail
  refine Hn2.out.mono ?_
  rintro e w6 ⟨rfl, ⟨vt6, hm6, ha6⟩, hb6, hs6⟩
  have Ha6 := Lib.hid (Ha5.out.trans ha6)
  have Hm6 := Lib.hid hm6
  have Hb6 := Lib.hid (Hb5.out.trans hb6)
  have Hs6 : Hid (w.heap.size ≤ w6.heap.size) := Lib.hid (Nat.le_trans Hs5.out hs6)
  clear hm6 hb6 hs6 Hn2 ha6
  have Hn3 := Lib.hid (mnum_any B mb 8 0 _ vd _ data w6 Hm6.out (Or.inr rfl) (by decide) (by decide) (Nat.le_trans HBs.out Hs6.out) (by simp [encL_length]; omega))
  go_wp2_with fail
  refine Hn3.out.mono ?_
  rintro e w7 ⟨rfl, ⟨vt7, hm7, ha7⟩, hb7, hs7⟩
  have Ha7 := Lib.hid (Ha6.out.trans ha7)
  have Hm7 := Lib.hid hm7
  have Hb7 := Lib.hid (Hb6.out.trans hb7)
  have Hs7 : Hid (w.heap.size ≤ w7.heap.size) := Lib.hid (Nat.le_trans Hs6.out hs7)
  clear hm7 hb7 hs7 Hn3 ha7
  go_wp2_with fail
  go_end0
  refine ⟨rfl, ⟨vt7, ?_, Ha7.out⟩, Hb7.out, Hs7.out⟩
  have := Hm7.out
  unfold entB
  simp only [List.append_assoc] at this ⊢
  exact this
structure GIn (B : Nat) (L : List Gu) (g : Gu) (gb : Nat) (ao : Option Addr) (W : World) (i : Value) (wr : World) : Prop where
  x : ∃ k : Nat, k ≤ L.length ∧ i = .int .i64 k ∧ g ∉ L.take k ∧ HB wr gb 30 (guc g) ∧ RdS guc 16 wr ao L ∧ Below B W wr ∧ B ≤ wr.heap.size
theorem rds_range {w : World} {ao : Option Addr} {L : List Gu} (h : RdS guc 16 w ao L) {k : Nat} {y : Gu} (hy : L[k]? = some y) : ∃ b off, ao = some ⟨b, off, none⟩ ∧ w.rangeAt b (off + k * 16) (guc y) := by
  obtain ⟨b, off, e, _, hc⟩ := h k y hy
  exact ⟨b, off, e, fun i v hi => hc i v hi⟩
set_option maxHeartbeats 400000 in
theorem gindex_any (ao : Option Addr) (cp : Nat) (L : List Gu) (g : Gu) (w : World) (h32 : L.length ≤ 32) (hr : RdS guc 16 w ao L) :
    Calls Try.prog 35 #[.slice ao L.length cp, .agg (guc g).toArray] w fun r w' =>
      (∃ k : Int, r = .returned (.int .i64 k) ∧ (g ∈ L → 0 ≤ k) ∧ (g ∉ L → k = -1)) ∧ Below w.heap.size w w' := by
  have hb0 := (Below.refl w.heap.size w).alloc (Nat.le_refl _) (.cells (guc g).toArray 30)
  have HG := Lib.hid (HB.new w (guc g) 30)
  have HR := Lib.hid (hr.below hb0)
  have HB0 := Lib.hid hb0
  have H32 := Lib.hid h32
  clear hr h32 hb0
  go_enter Try.func35, Try.ntmps35
  go_wp2_with fail
  generalize w.alloc (.cells (guc g).toArray 30) = w1 at *
  obtain ⟨B, hB⟩ : ∃ B, w.heap.size = B := ⟨_, rfl⟩
  rw [hB] at HG HB0 ⊢
  have HBx := Lib.hid hB
  have Hs0 : Hid (B ≤ w1.heap.size) := Lib.hid (by have := HG.out.lt; omega)
  clear hB
  go_loopw [5, 8] (fun _ i wr => GIn B L g B ao w i wr) (fun _ i _ => L.length - (intOf i).toNat)
  case atStart => exact ⟨0, by omega, rfl, by simp, HG.out, HR.out, HB0.out, Hs0.out⟩
  case round =>
    as_aux_lemma =>
    clear HG HR HB0 Hs0
    obtain ⟨k, hk, rfl, hno, hg, hr, hb, hs⟩ := hrel
    have HR := Lib.hid hr
    have HG := Lib.hid hg
    have HB1 := Lib.hid hb
    have Hs := Lib.hid hs
    have Hno := Lib.hid hno
    clear hr hg hb hno hs
    by_cases hlt : k < L.length
    · obtain ⟨y, hy⟩ : ∃ y, L[k]? = some y := ⟨_, List.getElem?_eq_getElem hlt⟩
      obtain ⟨b, off, rfl, hrg⟩ := rds_range HR.out hy
      have hl1 := run_loadGu hrg
      have hl1d := fun m => run_loadGu (w := wr.drewN m) (b := b) (o := off + k * 16) (g := y) (fun j v hj => hrg j v hj)
      have hl2 := run_loadGu HG.out.whole
      have hl2d := fun m => run_loadGu (HG.out.drn (⟨m, rfl⟩ : Drn wr (wr.drewN m))).whole
      have heq := fun w => gu_equal g y w
      have hgd : Try.prog.eqGuardType Try.prog.depth 30 = false := by kernel_rfl
      have f0 : (0 : Int) ≤ (k : Int) := by omega
      have f1 : (k : Int) < (L.length : Int) := by omega
      have f3 : (k : Int) < 32 := by have := H32.out; omega
      by_cases hi : g = y
      · have hin : Hid (g ∈ L) := Lib.hid (by rw [hi]; exact List.mem_of_getElem? hy)
        rw [decide_eq_true hi] at heq
        clear hi hy hlt hk hrg
        go_wp2_with fail
        go_quiet (fail)
        go_wp2_with fail
        go_ret
        exact ⟨⟨k, rfl, fun _ => by omega, fun h => absurd hin.out h⟩, by rw [HBx.out]; exact HB1.out.trans ((⟨_, rfl⟩ : Drn wr (wr.drewN nq)).below _)⟩
      · have Hn1 : Hid (g ∉ L.take (k + 1)) := Lib.hid (by
          rw [List.take_add_one, hy, List.mem_append]
          rintro (h | h)
          · exact Hno.out h
          · simp at h; exact hi h)
        rw [decide_eq_false hi] at heq
        clear hi hy hlt hk hrg
        go_wp2_with fail
        go_quiet (fail)
        go_wp2_with fail
        have hdd : Drn wr (wr.drewN nq) := ⟨_, rfl⟩
        first
        | (go_roundw
           case rel => exact ⟨k + 1, by omega, by go_num, Hn1.out, HG.out.drn hdd, HR.out.drn hdd, HB1.out.trans (hdd.below _), Hs.out⟩
           case measure => (first | omega | (simp [intOf] <;> omega) | (simp only [intOf] <;> omega)))
        | exact ⟨⟨k + 1, by omega, by go_num, Hn1.out, HG.out.drn hdd, HR.out.drn hdd, HB1.out.trans (hdd.below _), Hs.out⟩, by (first | omega | (simp [intOf] <;> omega) | (simp only [intOf] <;> omega))⟩
        | (refine ⟨?_, by (first | omega | (simp [intOf] <;> omega) | (simp only [intOf] <;> omega))⟩
           (repeat apply Exists.intro)
           refine (fun a b => And.intro b a) ?_ ?_
           · first | rfl | ((repeat refine ⟨rfl, ?_⟩); rfl)
           exact ⟨k + 1, by omega, by go_num, Hn1.out, HG.out.drn hdd, HR.out.drn hdd, HB1.out.trans (hdd.below _), Hs.out⟩)
    · obtain rfl : k = L.length := by omega
      have hno := Hno.out
      rw [List.take_of_length_le (Nat.le_refl _)] at hno
      have Hn := Lib.hid hno
      clear hno hlt
      go_wp2_with fail
      go_ret
      exact ⟨⟨-1, rfl, fun h => absurd h Hn.out, fun _ => rfl⟩, by rw [HBx.out]; exact HB1.out⟩
theorem gcontains_any (ao : Option Addr) (cp : Nat) (L : List Gu) (g : Gu) (w : World) (h32 : L.length ≤ 32) (hr : RdS guc 16 w ao L) :
    Calls Try.prog 27 #[.slice ao L.length cp, .agg (guc g).toArray] w fun r w' => r = .returned (.bool (decide (g ∈ L))) ∧ Below w.heap.size w w' := by
  have hb0 := (Below.refl w.heap.size w).alloc (Nat.le_refl _) (.cells (guc g).toArray 30)
  have Hi := Lib.hid (gindex_any ao cp L g _ h32 (hr.below hb0))
  have HB0 := Lib.hid hb0
  have hl := run_loadGu (HB.new w (guc g) 30).whole
  clear hb0 h32 hr
  go_enter Try.func27, Try.ntmps27
  go_wp2_with fail
  refine Hi.out.mono ?_
  rintro r w2 ⟨⟨k, rfl, h1, h2⟩, hb2⟩
  have hB := HB0.out.trans (hb2.mono HB0.out.size)
  by_cases hin : g ∈ L
  · have hk := h1 hin
    have Hin := Lib.hid hin
    clear h1 h2 hin hb2
    go_wp2_with fail
    go_ret
    exact ⟨by rw [decide_eq_true Hin.out]; rfl, hB⟩
  · have hk := h2 hin
    subst hk
    have Hin := Lib.hid hin
    clear h1 h2 hin hb2
    go_wp2_with fail
    go_ret
    exact ⟨by rw [decide_eq_false Hin.out]; rfl, hB⟩
/-- the data are written on -/
theorem MK.data {w w' : World} {B mb : Nat} {vt vd vd' : Value} {tab data more : List UInt8} (h : MK w B mb vt vd tab data) (ho : Own 5 w' B vd' (data ++ more)) (hg : w.grownBy w' vd.ownBlock) (hk : vd'.ownBlock = vd.ownBlock ∨ vd'.ownBlock = some w.heap.size) :
    MK (w'.setCell ⟨mb, 1, none⟩ vd') B mb vt vd' tab (data ++ more) ∧ Below mb w (w'.setCell ⟨mb, 1, none⟩ vd') ∧ HB w' mb 57 [vt, vd] := by
  have hne : ∀ k, vd.ownBlock = some k → mb ≠ k := fun k hk => by have := (own_blk h.d hk).1; have := h.lt; omega
  have hm : HB w' mb 57 [vt, vd] := h.h.grown hg (fun e => hne _ e.symm rfl)
  have ht : Own 5 w' B vt tab := h.t.grown hg (fun k h1 h2 => h.ne k h1 h2)
  have hs := grown_set w' ⟨mb, 1, none⟩ vd'
  refine ⟨⟨hm.set 1 vd', ht.grown hs (fun k h1 h2 => ?_), ho.grown hs (fun k h1 h2 => ?_), h.lt, fun k h1 h2 => ?_⟩, ?_, hm⟩
  · have := (own_blk ht h1).1; have := h.lt; have e := Option.some.inj h2; simp only at e; omega
  · have := (own_blk ho h1).1; have := h.lt; have e := Option.some.inj h2; simp only at e; omega
  · rcases hk with hk | hk
    · exact h.ne k h1 (hk ▸ h2)
    · rw [hk] at h2
      have e := Option.some.inj h2
      have := (own_blk h.t h1).2
      omega
  · have h1 : Below mb w w' := (Below.refl mb w).grown hg (Nat.le_of_lt h.size) (fun k hk => by have := (own_blk h.d hk).1; have := h.lt; omega)
    exact h1.grown hs (Nat.le_trans (Nat.le_of_lt h.size) hg.size) (fun k hk => by have := Option.some.inj hk; simp only at this; omega)
/-- a list of bytes that is handed in among others -/
structure Im where
  ao : Option Addr
  cap : Nat
  l : List UInt8
def imc (m : Im) : List Value := [.slice m.ao m.l.length m.cap]
structure Im.Ok (w : World) (m : Im) : Prop where
  r : Rd w m.ao m.l
  c : m.l.length ≤ m.cap
  x : m.cap ≤ maxLen
  z : m.ao = none → m.cap = 0
def headB : List UInt8 := encL 4 false 2858680321 ++ encL 4 false 305419896 ++ encL 8 false 0
def makeGo (fr : Nat) : List Gu → List UInt8 → List UInt8 → List (Gu × List UInt8) → Option (List UInt8 × List UInt8) × Int
  | _, tab, data, [] => (some (tab, data), 0)
  | prev, tab, data, (g, d) :: r =>
    if g = gz then (none, 192) else if g ∈ prev then (none, 195) else if d.length = 0 ∨ 131072 < d.length + (fr + data.length) then (none, 193)
    else makeGo fr (prev ++ [g]) (tab ++ entB g (fr + data.length) d.length) (data ++ d) r
def makeR (ids : List Gu) (imgs : List (List UInt8)) : List UInt8 × Int :=
  if ids.length ≠ imgs.length ∨ 32 < ids.length then ([], 1)
  else match makeGo (16 + 40 * (ids.length + 1)) [] headB [] (ids.zip imgs) with
    | (none, c) => ([], c)
    | (some (tab, data), _) => (tab ++ entB gz (16 + 40 * (ids.length + 1) + data.length) 0 ++ data, 0)
theorem makeR_arg {ids : List Gu} {imgs : List (List UInt8)} (h : ids.length ≠ imgs.length ∨ 32 < ids.length) : makeR ids imgs = ([], 1) := by unfold makeR; rw [if_pos h]
theorem makeR_none {ids : List Gu} {imgs : List (List UInt8)} (h : ¬ (ids.length ≠ imgs.length ∨ 32 < ids.length)) {c : Int} (hm : makeGo (16 + 40 * (ids.length + 1)) [] headB [] (ids.zip imgs) = (none, c)) : makeR ids imgs = ([], c) := by
  unfold makeR; rw [if_neg h, hm]
theorem makeR_some {ids : List Gu} {imgs : List (List UInt8)} (h : ¬ (ids.length ≠ imgs.length ∨ 32 < ids.length)) {tab data : List UInt8} {c : Int} (hm : makeGo (16 + 40 * (ids.length + 1)) [] headB [] (ids.zip imgs) = (some (tab, data), c)) :
    makeR ids imgs = (tab ++ entB gz (16 + 40 * (ids.length + 1) + data.length) 0 ++ data, 0) := by
  unfold makeR; rw [if_neg h, hm]
end Go.Proofs.Ytefkmlfpdlnodaa
