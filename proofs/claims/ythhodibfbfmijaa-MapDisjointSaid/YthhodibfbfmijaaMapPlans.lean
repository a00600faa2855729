/- Stages are placed one after the other: the walk. No condition. -/
import Derived.Test.YthhodibfbfmijaaMapY
import Derived.Test.YthhodibfbfmijaaOpenG

set_option linter.unusedVariables false
set_option linter.unusedSimpArgs false
namespace Go.Proofs.Ythhodibfbfmijaa
open Go.ChangeShapes Go.WideShapes Go.ChangeAt Go.RowKit
theorem want_cells {H : Type} {enc : TypeId × Value → H} {W : World} (fuel : Nat) (cs : List Value) (y : DataW H × List MemPlace)
    (h : DataW.trod enc Try.prog W 0 (fun _ => true) true fuel 26 cs = some y) (hl : cs.length = 6) :
    ∃ o : Wt, cs = wcells o ∧ o.Ok := by
  obtain ⟨xs, n, _, _, _, hxl, hh⟩ := DataW.trod_struct Try.underlying26 h
  obtain ⟨c0, c1, c2, c3, c4, c5, rfl⟩ := lst6 hl
  obtain ⟨y0, y1, y2, y3, y4, y5, rfl⟩ := lst6 (hxl.trans rfl)
  have k1 : Try.prog.cellsOf 23 = 1 := by kernel_rfl
  have k2 : Try.prog.cellsOf 24 = 1 := by kernel_rfl
  have k3 : Try.prog.cellsOf 4 = 1 := by kernel_rfl
  have h0 := hh 0 _ rfl
  have h1 := hh 1 _ rfl
  have h2 := hh 2 _ rfl
  have h3 := hh 3 _ rfl
  have h4 := hh 4 _ rfl
  have h5 := hh 5 _ rfl
  simp [k1, k2, k3] at h0 h1 h2 h3 h4 h5
  obtain ⟨i, rfl, q0, q1⟩ := trod_i64 Try.underlying23 h0
  obtain ⟨n, rfl, hn⟩ := trod_u64 Try.underlying24 h1
  obtain ⟨a, rfl, ha⟩ := trod_u64 Try.underlying24 h2
  obtain ⟨s, rfl⟩ := trod_b Try.underlying4 h3
  obtain ⟨w, rfl⟩ := trod_b Try.underlying4 h4
  obtain ⟨x, rfl⟩ := trod_b Try.underlying4 h5
  exact ⟨⟨i, n, a, s, w, x⟩, rfl, hn, ha⟩
theorem open_wants {H : Type} {enc : TypeId × Value → H} {W : World} {base : Nat} {r : Reach} {v : Value} {d : DataW H} {p : List MemPlace}
    (k : Value.okWide Try.prog W r base 39 v) (h : DataW.Trod enc Try.prog W 0 (fun _ => true) true 39 v d p) (hz : (DataW.weights Try.prog 39 d).all (· ≤ reachBytes) = true) :
    ∃ ao n cap l, v = .slice ao n cap ∧ l.length = n ∧ n ≤ cap ∧ cap * 32 ≤ 140737488351232 ∧ RdS wcells 6 W ao l ∧ (ao = none → cap = 0) ∧ ∀ o ∈ l, Wt.Ok o :=
  open_structs Try.underlying39 (by kernel_rfl) (by kernel_rfl) (by decide) (fun _ => rfl) want_cells k h hz
/-- a row of regions of the call's own, whatever they are -/
def OwnX (w : World) (B : Nat) (v : Value) (n : Nat) : Prop := ∃ xs, w.ownsRow B 30 6 v n xs
theorem OwnX.set {w : World} {B g n C : Nat} (h : OwnX w B (.slice (some ⟨g, 0, none⟩) n C) n) (j : Nat) (v : Value) : OwnX (w.setCell ⟨g, j, none⟩ v) B (.slice (some ⟨g, 0, none⟩) n C) n := by
  obtain ⟨xs, hx⟩ := h
  exact ⟨_, (World.ownsRow.stored hx j v).1⟩
theorem OwnX.grown {w w' : World} {B n : Nat} {v : Value} {row : Option Nat} (h : OwnX w B v n) (hg : w.grownBy w' row) (hne : ∀ k, v.ownBlock = some k → row ≠ some k) : OwnX w' B v n := by
  obtain ⟨xs, hx⟩ := h
  exact ⟨xs, World.ownsRow.kept hx hg (by
    cases hv : v.ownBlock with
    | none => exact Or.inl rfl
    | some k => exact Or.inr (fun e => hne k hv e.symm))⟩
theorem OwnX.cell {w : World} {B g n C : Nat} (h : OwnX w B (.slice (some ⟨g, 0, none⟩) n C) n) {j : Nat} (hj : j < n * 6) : (∃ v, w.cell? ⟨g, j, none⟩ = some v) ∧ w.frozen? ⟨g, j, none⟩ = false := by
  obtain ⟨xs, hx⟩ := h
  refine ⟨?_, World.ownsRow.frozenAt hx j⟩
  rw [World.ownsRow.cellAt hx j hj]
  exact ⟨_, List.getElem?_eq_getElem (by rw [hx.1]; exact hj)⟩
theorem wpList_append_X {w : World} {ops : Array Oper} {rest : List Oper} {o : Oper} {a : Act} {Q : Exit → Act → World → Prop} (hgd : o.guard = none) (s x : Operand)
    (ho : o.op = .call { callee := .builtin .append, args := #[s, x], argTypes := #[22, 22] })
    (B : Nat) (v : Value) (n : Nat) (hs : a.eval s = v) (hown : OwnX w B v n) (ad : Addr) (m c : Nat) (l2 : List Rg) (hx : a.eval x = .slice (some ad) m c) (hl : l2.length = m) (hr : RdG w (some ad) l2)
    (hbytes : (n + m) * 24 ≤ 140737488355328) (hB : B ≤ w.heap.size)
    (h : ∀ v' w', w.grownBy w' v.ownBlock → wpList Try.prog ops Q rest (a.put o.dst v') w') : wpList Try.prog ops Q (o :: rest) a w := by
  obtain ⟨i, hi, hz0, hz1, hz2⟩ := info_parts infoG
  obtain ⟨xs, hxs⟩ := hown
  refine wpList_append_own w hgd s x _ ho B _ i _ 6 24 Try.underlying22 hi hz0 hz1 hz2 rfl (by decide) v _ _ hs hxs ad m c (flatG l2) hx (by rw [flatG_length, hl]) hr.news (flatG_one _)
    (by simp only [maxLen]; omega) (by omega) hB ?_
  intro v' w' h1 h2 _
  exact h v' w' h2
def g9 : Rg := ⟨0, 9, false, false, false, false⟩
theorem new_two (w : World) : RdG (w.alloc (.cells #[.int .u64 0, .int .u64 9, .bool false, .bool false, .bool false, .bool false, .int .u64 0, .int .u64 9, .bool false, .bool false, .bool false, .bool false] 30)) (some ⟨w.heap.size, 0, none⟩) [g9, g9] := by
  intro j hj
  have hj2 : j < 2 := hj
  refine ⟨w.heap.size, 0, rfl, by simp, fun i v hi => ?_⟩
  have hi6 : i < 6 := by
    rcases Nat.lt_or_ge i 6 with h | h
    · exact h
    · rw [List.getElem?_eq_none (by simpa [rgc] using h)] at hi; cases hi
  have h := (Blk.new w [.int .u64 0, .int .u64 9, .bool false, .bool false, .bool false, .bool false, .int .u64 0, .int .u64 9, .bool false, .bool false, .bool false, .bool false] 30).2.1 (0 + j * 6 + i) v
  apply h
  rcases (show j = 0 ∨ j = 1 by omega) with rfl | rfl
  · rcases (show i = 0 ∨ i = 1 ∨ i = 2 ∨ i = 3 ∨ i = 4 ∨ i = 5 by omega) with rfl | rfl | rfl | rfl | rfl | rfl <;> exact hi
  · rcases (show i = 0 ∨ i = 1 ∨ i = 2 ∨ i = 3 ∨ i = 4 ∨ i = 5 by omega) with rfl | rfl | rfl | rfl | rfl | rfl <;> exact hi
theorem OwnG.x {w : World} {B : Nat} {v : Value} {l : List Rg} (h : OwnG w B v l) : OwnX w B v l.length := ⟨_, h⟩
theorem Res.len {taken : List Rg} {l : List Wt} {r : List Rg} {n : Nat} {e : Int} (h : Res taken l r n e) : r.length ≤ l.length := by
  rcases h with ⟨_, h1, h2⟩ | ⟨_, h1, _⟩
  · rw [h2.1, h1]; exact Nat.le_refl _
  · rw [h1]; simp
theorem Res.few {taken : List Rg} {l : List Wt} {r : List Rg} {n : Nat} {e : Int} (h : Res taken l r n e) : r.length ≤ 16 := by
  rcases h with ⟨_, h1, h2⟩ | ⟨_, h1, _⟩
  · rw [h2.1]
    by_cases hn : n ≤ 16
    · exact hn
    · obtain ⟨t, ht⟩ : ∃ t, l[16]? = some t := ⟨_, List.getElem?_eq_getElem (show 16 < l.length by omega)⟩
      have := (plW_info (h2.2 16 t (by omega) ht)).1
      simp [h2.1] at this
      omega
  · rw [h1]; simp
end Go.Proofs.Ythhodibfbfmijaa
namespace Go.Proofs.Ythhodibfbfmijaa.mapPlans
open Go.ChangeShapes Go.WideShapes Go.ChangeAt Go.RowKit
structure StIn (B g n C : Nat) (W : World) (i : Value) (wr : World) : Prop where
  x : ∃ j : Nat, j ≤ n ∧ i = .int .i64 j ∧ OwnX wr B (.slice (some ⟨g, 0, none⟩) n C) n ∧ W.grownBy wr (some g)
set_option maxHeartbeats 2000000 in
theorem core (w : World) (ao bo : Option Addr) (len cap m cb : Nat) (taken : List Rg) (l : List Wt) (hl : taken.length = len) (hlc : len ≤ cap) (hcap : cap * 24 ≤ 140737488351232) (hr : RdG w ao taken) (hc : ao = none → cap = 0) (hok : RgsOk taken)
    (hm : l.length = m) (hmb : m ≤ 140737488351232) (hrw : RdS wcells 6 w bo l) (hwok : ∀ t ∈ l, t.Ok) :
    Calls Try.prog 6 #[.slice ao len cap, .slice bo m cb] w fun e w' => e = .returned (.bool true) ∧ Below w.heap.size w w' := by
  have HP := fun ao' cap' w' hc' h h2 => Lib.hid (plan_any ao' bo len m cap' cb taken l w' hl (by omega) hc' h hok hm hmb h2 hwok)
  have HR := fun w' h h2 => Lib.hid (rplan_any ao bo len m cap cb taken l w' hl (by omega) hc h hok hm hmb h2 hwok)
  have Hhc := Lib.hid hc
  clear hc
  have Hhok := Lib.hid hok
  clear hok
  have Hhm := Lib.hid hm
  clear hm
  go_enter Try.func6, Try.ntmps6
  go_wp2_with fail
  refine (awake_any _).mono ?_
  rintro e w1 ⟨rfl, hB1⟩
  go_wp2_with fail
  refine (own_any ao len cap taken w1 hl (by omega) Hhc.out (hr.below hB1)).mono ?_
  rintro e w2 ⟨g0, C0, rfl, hC0, hown, hb2⟩
  have hB2 := hB1.trans (hb2.mono hB1.size)
  have hownl : g0 < w2.heap.size := hown.lt g0 rfl
  clear hb2 hB1
  go_wp2_with fail
  refine (HP _ _ _ (fun h => by cases h) (hown.lend hl).1 (hrw.below hB2)).out.mono ?_
  rintro e w3 ⟨v, r, k, E, rfl, hov, hres, hb3⟩
  have hB3 := hB2.trans (hb3.mono hB2.size)
  have hown3 := hown.later hb3
  have hs23 := hb3.size
  clear hb3 hown
  go_wp2_with fail
  refine (HR _ (hr.below hB3) (hrw.below hB3)).out.mono ?_
  rintro e w4 ⟨xo, xc, r2, k2, E2, rfl, hrx, hxb, hres2, hb4⟩
  obtain ⟨rfl, rfl, rfl⟩ := hres.uniq hres2
  have hB4 := hB3.trans (hb4.mono hB3.size)
  have hown4 := hown3.later hb4
  have hov4 := hov.later hb4
  have hvl := hov.lt
  have hvb := hov.block
  have hs34 := hb4.size
  have Hres := Lib.hid hres
  have hrl := hres.few
  clear hb4 hown3 hov hB3 hres hres2
  obtain ⟨vo, vc, rfl, -, hvc, hrv⟩ := hov4.rd
  go_wp2_with fail
  refine (sameG_any vo xo r.length r.length vc xc r r w4 rfl rfl (by omega) (by omega) hrv hrx).mono ?_
  rintro e w5 ⟨he, hd⟩
  rw [decide_eq_true rfl] at he
  subst he
  have hB5 := hB4.trans (hd.below _)
  have hown5 := hown4.later (hd.below _)
  have hov5 := hov4.later (hd.below _)
  have hrx5 := hd.rdG hrx
  have hs45w : w4.heap.size ≤ w5.heap.size := by rw [hd.heap]; exact Nat.le_refl _
  clear hd hB4 hown4 hov4 hrx hrv
  have hown5x := hov5.x
  have hs5 : w4.heap.size ≤ w5.heap.size := hs45w
  have hwsz : w.heap.size ≤ w2.heap.size := hB2.size
  obtain ⟨B, hB⟩ : ∃ B, w2.heap.size = B := ⟨_, rfl⟩
  rw [hB] at hvb hown5x hs23 hwsz hov5
  rw [hB] at hownl
  have HB := Lib.hid hB
  clear hB
  have Hhvl := Lib.hid hvl
  clear hvl
  have Hhvb := Lib.hid hvb
  clear hvb
  have Hhxb := Lib.hid hxb
  clear hxb
  rcases hov5.cases with ⟨h1, h2⟩ | ⟨g, C, h1, hgB, hg1, hgC, _, _, _⟩
  · subst h2
    simp only [List.length_nil] at *
    cases h1
    clear hov5
    go_wp2_with fail
    go_loop [14] (fun i => i = .int .i64 0) (fun _ => 0)
    case atStart => rfl
    case round =>
      subst hrel
      go_wp2_with (at_builtin; refine wpList_append_X rfl _ _ rfl B (Value.slice none 0 0) 0 rfl (hown5x.grown (grown_alloc w5 _ none) (by simp)) _ 2 2 [g9, g9] rfl rfl (new_two w5) (by decide) ?d2 ?_)
      case d2 => have := hB5.size; try simp
                 omega
      intro v7 w7 hg7
      have hB7 := (hB5.alloc hB5.size _).grown hg7 (by have := hB5.size; simp; omega) (by intro k hk; cases hk)
      have hown7 := (hown5.alloc _).grown hg7 (fun k _ h => by cases h)
      have hrx7 := (hrx5.below ((Below.refl w5.heap.size w5).alloc (Nat.le_refl _) _)).grown hg7 (fun a _ h => by cases h)
      clear hg7 hB5 hown5 hrx5 hown5x
      go_wp2_with fail
      refine (still_any ao g0 len C0 cap _ taken _ hl (by omega) hC0 (hr.below hB7) hown7).mono ?_
      rintro e w8 ⟨rfl, hd8⟩
      have hB8 := hB7.trans (hd8.below _)
      have hown8 := hown7.later (hd8.below _)
      have hrx8 := hd8.rdG hrx7
      clear hd8 hB7 hown7 hrx7
      go_wp2_with fail
      refine (HP _ _ _ (fun h => by cases h) (hown8.lend hl).1 (hrw.below hB8)).out.mono ?_
      rintro e w9 ⟨v9, r9, k9, E9, rfl, hov9, hres9, hb9⟩
      obtain ⟨e1, e2, e3⟩ := hres9.uniq Hres.out
      have hr16 := hres9.few
      subst e2
      subst e3
      have He1 := Lib.hid e1
      clear e1
      have hB9 := hB8.trans (hb9.mono hB8.size)
      have hrx9 := hrx8.below hb9
      clear hb9 hB8 hown8 hrx8 hres9
      obtain ⟨vo9, vc9, rfl, -, hvc9, hrv9⟩ := hov9.rd
      clear hov9
      go_wp2_with fail
      refine (sameG_any vo9 xo r9.length _ vc9 xc r9 r9 w9 rfl (by rw [He1.out]; first | rfl | exact HN.out) (by omega) (by omega) hrv9 (by rw [He1.out]; exact hrx9)).mono ?_
      rintro e w10 ⟨he, hd10⟩
      rw [decide_eq_true rfl] at he
      subst he
      have hB10 := hB9.trans (hd10.below _)
      clear hd10 hB9 hrx9 hrv9 HP HR
      go_wp2_with fail
      go_ret
      exact ⟨rfl, hB10⟩
  · cases h1
    clear hov5
    generalize hN : r.length = N at *
    have HN := Lib.hid hN
    clear hN
    go_wp2_with fail
    go_loopw [14] (StIn B g N vc w5) (fun i _ => N - (intOf i).toNat)
    case atStart => exact ⟨0, by omega, rfl, hown5x, World.grownBy.refl _ _⟩
    case round =>
      clear hown5x
      obtain ⟨j, hj, rfl, hox, hgr⟩ := hrel
      by_cases hlt : j < N
      · obtain ⟨⟨v0, c0⟩, f0⟩ := hox.cell (j := j * 6) (by omega)
        obtain ⟨⟨v1, c1⟩, f1⟩ := hox.cell (j := j * 6 + 1) (by omega)
        obtain ⟨⟨v2, c2⟩, f2⟩ := hox.cell (j := j * 6 + 2) (by omega)
        obtain ⟨⟨v3, c3⟩, f3⟩ := hox.cell (j := j * 6 + 3) (by omega)
        obtain ⟨⟨v4, c4⟩, f4⟩ := hox.cell (j := j * 6 + 4) (by omega)
        obtain ⟨⟨v5, c5⟩, f5⟩ := hox.cell (j := j * 6 + 5) (by omega)
        have e0 : (0 : Int) ≤ (j : Int) := by omega
        have e1 : (j : Int) < (N : Int) := by omega
        have HOX := Lib.hid hox
        have HGR := Lib.hid hgr
        clear hox hgr
        go_wp2_with fail
        generalize hW6 : World.setCell _ _ _ = W6
        have hox6 : Hid (OwnX W6 B (.slice (some ⟨g, 0, none⟩) N vc) N) := by
          rw [← hW6]
          iterate 6 (refine OwnX.set ?_ _ _)
          exact HOX.out
        have hgr6 : Hid (w5.grownBy W6 (some g)) := by
          rw [← hW6]
          iterate 6 (refine World.grownBy.trans ?_ (grown_set _ _ _))
          exact HGR.out
        clear hW6 c0 c1 c2 c3 c4 c5 f0 f1 f2 f3 f4 f5
        first
        | (go_roundw
           case rel => exact ⟨j + 1, by omega, by go_num, hox6.out, hgr6.out⟩
           case measure => (first | omega | (simp [intOf] <;> omega) | (simp only [intOf] <;> omega)))
        | exact ⟨⟨j + 1, by omega, by go_num, hox6.out, hgr6.out⟩, by (first | omega | (simp [intOf] <;> omega) | (simp only [intOf] <;> omega))⟩
        | (refine ⟨?_, by (first | omega | (simp [intOf] <;> omega) | (simp only [intOf] <;> omega))⟩
           (repeat apply Exists.intro)
           refine (fun a b => And.intro b a) ?_ ?_
           · first | rfl | ((repeat refine ⟨rfl, ?_⟩); rfl)
           exact ⟨j + 1, by omega, by go_num, hox6.out, hgr6.out⟩)
      · obtain rfl : j = N := by omega
        have hs6 := hgr.size
        have hB6 := hB5.grown hgr hB5.size (by intro k hk; cases hk; omega)
        have hown6 := hown5.grown hgr (by intro k hk h; have e1 : g0 = k := Option.some.inj hk; have e2 : g = k := Option.some.inj h; omega)
        have hrx6 := hrx5.grown hgr (by
          intro a ha h
          have e2 : a.block = g := Option.some.inj h
          have h1 := Hhxb.out a ha
          have h2 := Hhvl.out g rfl
          omega)
        clear hgr hB5 hown5 hrx5
        go_wp2_with (at_builtin; refine wpList_append_X rfl _ _ rfl B (Value.slice (some ⟨g, 0, none⟩) j vc) j rfl (hox.grown (grown_alloc wr _ none) (by simp)) _ 2 2 [g9, g9] rfl rfl (new_two wr) ?d1 ?d2 ?_)
        case d1 => omega
        case d2 => simp; omega
        intro v7 w7 hg7
        have hB7 := (hB6.alloc hB6.size _).grown hg7 (by have := hB6.size; simp; omega) (by intro k hk; have e1 : g = k := Option.some.inj hk; omega)
        have hown7 := (hown6.alloc _).grown hg7 (by intro k hk h; have e1 : g0 = k := Option.some.inj hk; have e2 : g = k := Option.some.inj h; omega)
        have hrx7 := (hrx6.below ((Below.refl wr.heap.size wr).alloc (Nat.le_refl _) _)).grown hg7 (by
          intro a ha h
          have e2 : a.block = g := Option.some.inj h
          have h1 := Hhxb.out a ha
          have h2 := Hhvl.out g rfl
          omega)
        clear hg7 hB6 hown6 hrx6 hox
        go_wp2_with fail
        refine (still_any ao g0 len C0 cap _ taken _ hl (by omega) hC0 (hr.below hB7) hown7).mono ?_
        rintro e w8 ⟨rfl, hd8⟩
        have hB8 := hB7.trans (hd8.below _)
        have hown8 := hown7.later (hd8.below _)
        have hrx8 := hd8.rdG hrx7
        clear hd8 hB7 hown7 hrx7
        go_wp2_with fail
        refine (HP _ _ _ (fun h => by cases h) (hown8.lend hl).1 (hrw.below hB8)).out.mono ?_
        rintro e w9 ⟨v9, r9, k9, E9, rfl, hov9, hres9, hb9⟩
        obtain ⟨e1, e2, e3⟩ := hres9.uniq Hres.out
        have hr16 := hres9.few
        subst e2
        subst e3
        have He1 := Lib.hid e1
        clear e1
        have hB9 := hB8.trans (hb9.mono hB8.size)
        have hrx9 := hrx8.below hb9
        clear hb9 hB8 hown8 hrx8 hres9
        obtain ⟨vo9, vc9, rfl, -, hvc9, hrv9⟩ := hov9.rd
        clear hov9
        go_wp2_with fail
        refine (sameG_any vo9 xo r9.length _ vc9 xc r9 r9 w9 rfl (by rw [He1.out]; first | rfl | exact HN.out) (by omega) (by omega) hrv9 (by rw [He1.out]; exact hrx9)).mono ?_
        rintro e w10 ⟨he, hd10⟩
        rw [decide_eq_true rfl] at he
        subst he
        have hB10 := hB9.trans (hd10.below _)
        clear hd10 hB9 hrx9 hrv9 HP HR
        go_wp2_with fail
        go_ret
        exact ⟨rfl, hB10⟩
theorem walk {H : Type} (enc : TypeId × Value → H) (W : World) (base : Nat) (v0 : Value) (d0 : DataW H) (p0 : List MemPlace) (v1 : Value) (d1 : DataW H) (p1 : List MemPlace)
    (k0 : Value.okWide Try.prog W .any base 22 v0) (k1 : Value.okWide Try.prog W .any base 39 v1)
    (h0 : DataW.Trod enc Try.prog W 0 (fun _ => true) true 22 v0 d0 p0) (h1 : DataW.Trod enc Try.prog W 0 (fun _ => true) true 39 v1 d1 p1)
    (hsz : (DataW.weightsEach Try.prog [22, 39] ([d0, d1] ++ [])).all (· ≤ reachBytes) = true) :
    Calls Try.prog 6 #[v0, v1] W fun e w' => e = .returned (.bool true) ∧ Below W.heap.size W w' := by
  simp only [DataW.weightsEach, List.cons_append, List.nil_append] at hsz
  obtain ⟨z0, zz⟩ := all_app hsz
  obtain ⟨z1, _⟩ := all_app zz
  obtain ⟨ao, len, cap, l, rfl, hl, hlc, hcap, hr, hc, hok⟩ := open_regions k0 h0 z0
  obtain ⟨bo, m, cb, ws, rfl, hm, hmc, hcb, hrw, hcw, hwok⟩ := open_wants k1 h1 z1
  exact core W ao bo len cap m cb l ws hl hlc hcap hr hc hok hm (by omega) hrw hwok
end Go.Proofs.Ythhodibfbfmijaa.mapPlans
