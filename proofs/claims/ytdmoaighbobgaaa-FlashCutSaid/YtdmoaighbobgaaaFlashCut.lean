/- A block is wholly old or wholly new: the walk. No condition. -/
import Derived.Test.YtdmoaighbobgaaaFl5
import Derived.Test.YtdmoaighbobgaaaSame
namespace Go.Proofs.Ytdmoaighbobgaaa.flashCut
open Go.ChangeShapes Go.WideShapes Go.ChangeAt Go.RowKit
set_option linter.unusedVariables false
set_option linter.unusedSimpArgs false
/-- where the flash stands behind j writes, of which the one numbered A was to be the last -/
def Stands (A : Int) (D : Bool) (j : Nat) (f : Fl) : Prop :=
  f.size = 8 ∧ f.done = D ∧ (((j : Int) < A ∧ f.off = false ∧ f.left = A - j ∧ f.writes = j) ∨ (A ≤ j ∧ f.off = true ∧ f.left = 0 ∧ f.writes = A - 1 + (if D then 1 else 0)))
/-- the law's own list of what is wanted: eight slices -/
def wantC (g : Nat → Nat) (k : Nat) : List Value := (List.range 8).map fun i => if i < k then .slice (some ⟨g i, 0, none⟩) 512 512 else .slice none 0 0
structure Wants (B p mb wb : Nat) (f : Fl) (g : Nat → Nat) (k : Nat) (w : World) : Prop where
  h : HB w wb 31 (wantC g k)
  e : ∀ i, i < k → HB w (g i) 5 ((readF f i).map bv) ∧ B ≤ g i ∧ g i ≠ p ∧ g i ≠ mb ∧ g i ≠ wb
theorem wantC_at (g : Nat → Nat) (k : Nat) {i : Nat} (hi : i < 8) : (wantC g k)[i]? = some (if i < k then .slice (some ⟨g i, 0, none⟩) 512 512 else .slice none 0 0) := by
  simp [wantC, hi]
def upd (g : Nat → Nat) (k x : Nat) : Nat → Nat := fun i => if i = k then x else g i
theorem wantC_next (g : Nat → Nat) {k : Nat} (hk : k < 8) (x : Nat) : (wantC g k).set k (.slice (some ⟨x, 0, none⟩) 512 512) = wantC (upd g k x) (k + 1) := by
  apply List.ext_getElem?
  intro i
  rw [List.getElem?_set]
  by_cases hi : i < 8
  · by_cases e : k = i
    · subst e; simp [wantC, hk, upd]
    · rw [if_neg e, wantC_at _ _ hi, wantC_at _ _ hi]
      have e2 : ¬ i = k := fun h => e h.symm
      have e3 : (i < k) = (i < k + 1) := by rw [eq_iff_iff]; omega
      simp [upd, e2, e3]
  · have h1 : (wantC g k)[i]? = none := List.getElem?_eq_none (by simp [wantC]; omega)
    have h2 : (wantC (upd g k x) (k + 1))[i]? = none := List.getElem?_eq_none (by simp [wantC]; omega)
    rw [if_neg (by omega), h1, h2]
theorem wantC_put (g : Nat → Nat) {k : Nat} (hk : k < 8) (x : Nat) : (wantC g 8).set k (.slice (some ⟨x, 0, none⟩) 512 512) = wantC (upd g k x) 8 := by
  apply List.ext_getElem?
  intro i
  rw [List.getElem?_set]
  by_cases hi : i < 8
  · by_cases e : k = i
    · subst e; simp [wantC, hk, upd]
    · rw [if_neg e, wantC_at _ _ hi, wantC_at _ _ hi]
      have e2 : ¬ i = k := fun h => e h.symm
      simp [upd, e2, hi]
  · have h1 : (wantC g 8)[i]? = none := List.getElem?_eq_none (by simp [wantC]; omega)
    have h2 : (wantC (upd g k x) 8)[i]? = none := List.getElem?_eq_none (by simp [wantC]; omega)
    rw [if_neg (by omega), h1, h2]
theorem Wants.frm {B p mb wb k : Nat} {f : Fl} {g : Nat → Nat} {w w' : World} {K : Nat → Prop} (h : Wants B p mb wb f g k w) (hf : Frm K w w') (h1 : ¬ K wb) (h2 : ∀ i, i < k → ¬ K (g i)) : Wants B p mb wb f g k w' :=
  ⟨h.h.frm hf h1, fun i hi => ⟨(h.e i hi).1.frm hf (h2 i hi), (h.e i hi).2⟩⟩
theorem Wants.later {B p mb wb k : Nat} {f : Fl} {g : Nat → Nat} {w w' : World} (h : Wants B p mb wb f g k w) (hb : Below w.heap.size w w') : Wants B p mb wb f g k w' :=
  ⟨h.h.later hb, fun i hi => ⟨(h.e i hi).1.later hb, (h.e i hi).2⟩⟩
theorem Wants.grownB {B p mb wb k : Nat} {f : Fl} {g : Nat → Nat} {w w' : World} (h : Wants B p mb wb f g k w) (hg : w.grownBy w' (some p)) (hpw : p ≠ wb) : Wants B p mb wb f g k w' :=
  ⟨h.h.grown hg (fun e => hpw (Option.some.inj e).symm), fun i hi => ⟨(h.e i hi).1.grown hg (fun e => (h.e i hi).2.2.1 (Option.some.inj e)), (h.e i hi).2⟩⟩
theorem Wants.same {B p mb wb k : Nat} {f f' : Fl} {g : Nat → Nat} {w : World} (h : Wants B p mb wb f g k w) (he : f'.F = f.F) : Wants B p mb wb f' g k w :=
  ⟨h.h, fun i hi => by
    have := h.e i hi
    unfold readF at this ⊢
    rw [he]; exact this⟩
structure CutIn (B p mb wb : Nat) (A : Int) (D : Bool) (n : Nat) (W : World) (c i : Value) (wr : World) : Prop where
  x : ∃ (j N : Nat) (f : Fl) (g : Nat → Nat), j ≤ n ∧ i = .int .i64 j ∧ c = .int .i64 f.writes ∧ N ≤ j ∧ FlA wr p mb N f ∧ f.Ok ∧ Stands A D j f ∧ Wants B p mb wb f g 8 wr ∧ Below B W wr ∧ B ≤ wr.heap.size
structure FillIn (B p mb wb : Nat) (f : Fl) (W : World) (i : Value) (wr : World) : Prop where
  x : ∃ (j : Nat) (g : Nat → Nat), j ≤ 8 ∧ i = .int .i64 j ∧ FlA wr p mb 0 f ∧ Wants B p mb wb f g j wr ∧ Below B W wr ∧ B ≤ wr.heap.size
structure BackIn (B p mb wb N : Nat) (f : Fl) (g : Nat → Nat) (W : World) (i : Value) (wr : World) : Prop where
  x : ∃ j : Nat, j ≤ 8 ∧ i = .int .i64 j ∧ FlA wr p mb N f ∧ Wants B p mb wb f g 8 wr ∧ Below B W wr ∧ B ≤ wr.heap.size
def f8 : Fl := ⟨8, false, 0, false, 0, fun _ => none⟩
theorem f8_ok : f8.Ok := ⟨by decide, by decide, by decide, by decide, fun k l h => by cases h⟩
theorem newR_8 : newR 8 [] = (some f8, 0) := by
  unfold newR; rw [if_neg (by omega)]; rfl
theorem filled_nil : filled [] = zero512 := by
  unfold filled; rw [List.nil_append, List.take_of_length_le (by rw [zero512_len]; exact Nat.le_refl _)]
def fA (A : Int) (D : Bool) : Fl := ⟨8, false, A, D, 0, fun _ => none⟩
theorem fA_ok {A : Int} (D : Bool) (h : 0 ≤ A) (h1 : A ≤ 9223372036854775807) : (fA A D).Ok := ⟨by simp only [fA]; omega, by simp only [fA]; omega, h, h1, fun k l h => by cases h⟩
theorem cutR_8 {A : Int} (D : Bool) (h : 0 ≤ A) : cutR f8 A D = (fA A D, 0) := by
  unfold cutR f8 fA
  simp only
  rw [if_neg (by decide), if_neg (by omega)]
set_option maxRecDepth 100000 in
set_option maxHeartbeats 1500000 in
theorem core (w : World) (ao : Option Addr) (len cap : Nat) (l : List OpF) (at0 : Int) (D : Bool) (hl : l.length = len) (hlc : len ≤ cap) (hcap : cap * 72 ≤ 140737488351232) (hr : RdS ofc 8 w ao l) (hok : ∀ o ∈ l, OpF.Ok w o) (hat : I64 at0) :
    Calls Try.prog 3 #[.slice ao len cap, .int .i64 at0, .bool D] w fun e w' => e = .returned (.bool true) ∧ Below w.heap.size w w' := by
  have hN := fun w' => Lib.hid (new_any 8 none 0 0 [] w' rfl (by decide) (fun j g h => by simp at h) (fun b h => by cases h))
  rw [show newR 8 (([] : List Bk).map Bk.p) = (some f8, 0) from newR_8] at hN
  have hz8 : ∀ w, (zeroValue 31).run Try.prog w = .ok (.agg (wantC (fun _ => 0) 0).toArray) w := fun w => by kernel_rfl
  have Hl := Lib.hid hl
  clear hl
  go_enter Try.func3, Try.ntmps3
  go_wp2_with fail
  refine (hN _).out.mono ?_
  rintro e w1 ⟨v, rfl, hsaid, hb1⟩
  rcases hsaid with ⟨f, p, mb, hf, rfl, hfl, hp, hmb⟩ | ⟨h, -⟩
  case inr => cases h
  obtain rfl : f8 = f := by simpa using hf
  have Hfl1 := Lib.hid hfl
  clear hf hfl hN
  obtain ⟨B, hB⟩ : ∃ B, w.heap.size = B := ⟨_, rfl⟩
  rw [hB] at hb1 hp hmb
  have HBx := Lib.hid hB
  have hs1 : B ≤ w1.heap.size := by rw [← hB]; exact hb1.size
  clear hB
  go_wp2_with fail
  refine (alive_any _).mono ?_
  rintro e w2 ⟨rfl, hb2⟩
  have Hfl2 := Lib.hid (Hfl1.out.later hb2)
  have HB2 := Lib.hid (hb1.trans (hb2.mono hs1))
  have hs2 : B ≤ w2.heap.size := Nat.le_trans hs1 hb2.size
  clear hb1 hb2 hs1 Hfl1
  by_cases h400 : len ≤ 400
  · have e1 : (len : Int) ≤ 400 := by omega
    go_wp2_with fail
    obtain ⟨n, hnn⟩ : ∃ n : Nat, n = len := ⟨_, rfl⟩
    have hn4 : n ≤ 400 := by omega
    have hnl : n ≤ len := by omega
    subst hnn
    clear e1 h400
    have Hnn := Lib.hid (Eq.refl (n : Int))
    have hpk := Lib.hid (pickN_nonneg (c := at0) (n := ((n : Int) + 1)) (by omega))
    have hpl := Lib.hid (pickN_lt (c := at0) (n := ((n : Int) + 1)) (by omega))
    refine (pick_any at0 ((n : Int) + 1) _ hat (by omega) (by omega)).mono ?_
    rintro e w' ⟨rfl, rfl⟩
    generalize pickN at0 ((n : Int) + 1) = q at *
    have hq0 := hpk.out
    have hq1 : q < (n : Int) + 1 := by have := hpl.out; have := Hnn.out; omega
    clear hpk hpl
    have hcut := fun w' h => Lib.hid (cut_any p mb 0 f8 (1 + q) D w' h f8_ok)
    rw [cutR_8 D (show 0 ≤ 1 + q by omega)] at hcut
    go_wp2_with fail
    refine (hcut _ Hfl2.out).out.mono ?_
    rintro e w3 ⟨rfl, hfl3, hg3⟩
    have HB3 := HB2.out.grown hg3 hs2 (by intro k hk; have := Option.some.inj hk; omega)
    have hs3 : B ≤ w3.heap.size := Nat.le_trans hs2 hg3.size
    have hlp := hfl3.h.lt
    have hlm := hfl3.m.lt
    have HW4 := Lib.hid (HB.new w3 (wantC (fun _ => 0) 0) 31)
    have HF4 := Lib.hid (hfl3.alloc (.cells (wantC (fun _ => 0) 0).toArray 31))
    have HB4 := Lib.hid (HB3.alloc hs3 (.cells (wantC (fun _ => 0) 0).toArray 31))
    have hs4 : B ≤ (w3.alloc (.cells (wantC (fun _ => 0) 0).toArray 31)).heap.size := by simp; omega
    clear hcut hg3 HB3 HB2 Hfl2 hfl3
    obtain ⟨A, hA⟩ : ∃ A : Int, 1 + q = A := ⟨_, rfl⟩
    rw [hA] at HF4
    have hA1 : 1 ≤ A := by omega
    have hA2 : A ≤ (n : Int) + 1 := by omega
    go_wp2_with fail
    clear hA hq0 hq1 hz8
    generalize w3.alloc (.cells (wantC (fun _ => 0) 0).toArray 31) = w4 at *
    obtain ⟨wb, hwb⟩ : ∃ wb, w3.heap.size = wb := ⟨_, rfl⟩
    rw [hwb] at HW4 hlp hlm hs3 ⊢
    clear hwb
    have hpw : p ≠ wb := by omega
    have hmw : mb ≠ wb := by omega
    have hfm : p ≠ mb := HF4.out.ne
    go_loopw [11] (FillIn B p mb wb (fA A D) w) (fun i _ => 8 - (intOf i).toNat)
    case atStart => exact ⟨0, fun _ => 0, by omega, rfl, HF4.out, ⟨HW4.out, fun i hi => by omega⟩, HB4.out, hs4⟩
    case round =>
      clear HW4 HF4 HB4 hs4
      obtain ⟨j, g, hj, rfl, hfl, hwt, hB4, hs4⟩ := hrel
      have HFl := Lib.hid hfl
      have HWt := Lib.hid hwt
      have HB4 := Lib.hid hB4
      clear hfl hwt hB4
      by_cases hlt : j < 8
      · have e0 : (0 : Int) ≤ (j : Int) := by omega
        have e1 : (j : Int) < 8 := by omega
        go_wp2_with fail
        refine (filled_any none 0 0 [] _ rfl (by decide) (Rd.nil _ _)).mono ?_
        rintro e w5 ⟨rfl, hh5, hb5⟩
        have hF5 := HFl.out.later hb5
        have hW5 := HWt.out.later hb5
        have hB5 := HB4.out.trans (hb5.mono hs4)
        have hs5 : B ≤ w5.heap.size := Nat.le_trans hs4 hb5.size
        have hgx := hh5.lt
        have hxp : wr.heap.size ≠ p := by have := HFl.out.h.lt; omega
        have hxm : wr.heap.size ≠ mb := by have := HFl.out.m.lt; omega
        have hxw : wr.heap.size ≠ wb := by have := HWt.out.h.lt; omega
        have hxg : ∀ i, i < j → g i ≠ wr.heap.size := fun i hi => by have := (HWt.out.e i hi).1.lt; omega
        obtain ⟨x, hx⟩ : ∃ x, wr.heap.size = x := ⟨_, rfl⟩
        rw [hx] at hh5 hgx hxp hxm hxw hxg ⊢
        have hBx5 : B ≤ x := by omega
        clear hx
        have c0 := hW5.h.cell (wantC_at g j hlt)
        rw [if_neg (Nat.lt_irrefl j)] at c0
        have f0 := hW5.h.frozen j
        have hg6 := grown_set w5 ⟨wb, j, none⟩ (.slice (some ⟨x, 0, none⟩) 512 512)
        have H6 := hW5.h.set j (.slice (some ⟨x, 0, none⟩) 512 512)
        rw [wantC_next g hlt x] at H6
        have HW6 : Hid (Wants B p mb wb (fA A D) (upd g j x) (j + 1) (w5.setCell ⟨wb, j, none⟩ (.slice (some ⟨x, 0, none⟩) 512 512))) := Lib.hid ⟨H6, fun i hi => by
          unfold upd
          by_cases e : i = j
          · subst e
            rw [if_pos rfl]
            refine ⟨?_, hBx5, hxp, hxm, hxw⟩
            have := hh5.grown hg6 (fun e => hxw (Option.some.inj e))
            rw [filled_nil] at this
            exact this
          · rw [if_neg e]
            have := hW5.e i (by omega)
            exact ⟨this.1.grown hg6 (fun e => this.2.2.2.2 (Option.some.inj e)), this.2⟩⟩
        have HF6 := Lib.hid (hF5.grown hg6 (fun e => hpw (Option.some.inj e)) (fun e => hmw (Option.some.inj e)))
        have HB6 := Lib.hid (hB5.grown hg6 hs5 (by intro k hk; have e1 : wb = k := Option.some.inj hk; omega))
        have hs6 := Nat.le_trans hs5 hg6.size
        clear hF5 hW5 hB5 hb5 hh5 hg6 H6 HFl HWt HB4 hxg
        go_wp2_with fail
        first
        | (go_roundw
           case rel => exact ⟨j + 1, upd g j x, by omega, by go_num, HF6.out, HW6.out, HB6.out, hs6⟩
           case measure => (first | omega | (simp [intOf] <;> omega) | (simp only [intOf] <;> omega)))
        | exact ⟨⟨j + 1, upd g j x, by omega, by go_num, HF6.out, HW6.out, HB6.out, hs6⟩, by (first | omega | (simp [intOf] <;> omega) | (simp only [intOf] <;> omega))⟩
        | (refine ⟨?_, by (first | omega | (simp [intOf] <;> omega) | (simp only [intOf] <;> omega))⟩
           (repeat apply Exists.intro)
           refine (fun a b => And.intro b a) ?_ ?_
           · first | rfl | ((repeat refine ⟨rfl, ?_⟩); rfl)
           exact ⟨j + 1, upd g j x, by omega, by go_num, HF6.out, HW6.out, HB6.out, hs6⟩)
      · obtain rfl : j = 8 := by omega
        clear hlt hj
        go_wp2_with fail
        go_loopw [12, 13, 14, 15, 16] (fun c i _ _ _ wr => CutIn B p mb wb A D n w c i wr) (fun _ i _ _ _ _ => n - (intOf i).toNat)
        case atStart => exact ⟨0, 0, fA A D, g, by omega, rfl, rfl, Nat.le_refl _, HFl.out, fA_ok D (by omega) (by omega), ⟨rfl, rfl, Or.inl ⟨by omega, rfl, by simp only [fA]; omega, rfl⟩⟩, HWt.out, HB4.out, hs4⟩
        case round =>
          clear HFl HWt HB4 hs4
          obtain ⟨j, N, f, g, hj, rfl, rfl, hN, hfl, hfo, hst, hwt, hB4, hs4⟩ := hrel
          have HFl := Lib.hid hfl
          have HFo := Lib.hid hfo
          have HSt := Lib.hid hst
          have HWt := Lib.hid hwt
          have HB4 := Lib.hid hB4
          clear hfl hfo hst hwt
          by_cases hlt : j < n
          · obtain ⟨o, hlk⟩ : ∃ o, l[j]? = some o := ⟨_, List.getElem?_eq_getElem (show j < l.length by have := Hl.out; omega)⟩
            obtain ⟨x0, off, rfl, hx0, hc⟩ := hr j o hlk
            have hoo := Lib.hid (hok o (List.mem_of_getElem? hlk))
            clear hlk
            have hcell := fun i v hi => (hB4.cell (p := ⟨x0, off + j * 8 + i, none⟩) (by rw [← HBx.out]; exact hx0)).trans (hc i v hi)
            have c1 := hcell 1 _ rfl
            have c3 := hcell 3 _ rfl
            clear hc hcell hB4
            have e0 : (0 : Int) ≤ (j : Int) := by omega
            have e1 : (j : Int) < (n : Int) := by omega
            have e2 : (j : Int) < (n : Int) := by omega
            go_wp2_with fail
            refine (pick_any o.n 8 _ hoo.out.n (by decide) (by decide)).mono ?_
            rintro e w' ⟨rfl, rfl⟩
            have hk0 : 0 ≤ pickN o.n 8 := pickN_nonneg (by decide)
            have hk1 : pickN o.n 8 < 8 := pickN_lt (by decide)
            obtain ⟨k, hk⟩ : ∃ k : Nat, pickN o.n 8 = k := ⟨(pickN o.n 8).toNat, by omega⟩
            rw [hk] at hk0 hk1 ⊢
            clear hk
            have hk8 : k < 8 := by omega
            go_wp2_with fail
            refine (filled_any o.ao _ o.cap o.l _ rfl (by have := hoo.out.c; have := hoo.out.x; unfold maxLen at this; omega) (hoo.out.r.below (by rw [HBx.out]; exact HB4.out))).mono ?_
            rintro e w5 ⟨rfl, hh5, hb5⟩
            have hF5 := Lib.hid (HFl.out.later hb5)
            have hW5 := Lib.hid (HWt.out.later hb5)
            have hB5 := Lib.hid (HB4.out.trans (hb5.mono hs4))
            have hs5 : B ≤ w5.heap.size := Nat.le_trans hs4 hb5.size
            have hxp : wr.heap.size ≠ p := by have := HFl.out.h.lt; omega
            have hxm : wr.heap.size ≠ mb := by have := HFl.out.m.lt; omega
            have hxw : wr.heap.size ≠ wb := by have := HWt.out.h.lt; omega
            have hxg : Hid (∀ i, i < 8 → g i ≠ wr.heap.size) := Lib.hid fun i hi => by have := (HWt.out.e i hi).1.lt; omega
            obtain ⟨x, hx⟩ : ∃ x, wr.heap.size = x := ⟨_, rfl⟩
            rw [hx] at hh5 hxp hxm hxw hxg ⊢
            have hBx5 : B ≤ x := by omega
            have Hh5 := Lib.hid hh5
            have hfl5 := Lib.hid (filled_len o.l)
            clear hx hb5 HFl HWt HB4 c1 c3 hh5 hoo hx0
            have hrd5 := Lib.hid Hh5.out.rd
            obtain ⟨hsz, hdn, hst⟩ := HSt.out
            clear HSt
            obtain ⟨size, off', left, done, writes, F⟩ := f
            simp only at hsz hdn hst
            subst hsz
            subst hdn
            rcases hst with ⟨ha, h1, h2, h3⟩ | ⟨ha, h1, h2, h3⟩
            · subst h1
              subst h2
              subst h3
              have hwr := fun w' h hr' => Lib.hid (writef_ok p mb N ⟨8, false, A - j, done, j, F⟩ k x 0 512 (filled o.l) w' h HFo.out ⟨by omega, by omega⟩ (by unfold mayE; simp only; rw [if_neg (by decide), if_neg (by omega)]) hfl5.out hr' (Nat.le_refl _) (by omega) (by simp only; omega) (by simp only; omega) hxp)
              have hgp : Hid (∀ i, i < 8 → ¬ (g i = p ∨ g i = mb)) := Lib.hid fun i hi h => by
                have := (hW5.out.e i hi).2
                rcases h with h | h
                · exact this.2.1 h
                · exact this.2.2.1 h
              have hbelow : Hid (∀ b : Nat, (b = p ∨ b = mb) → B ≤ b) := Lib.hid (by rintro b (rfl | rfl) <;> omega)
              by_cases hlast : (j : Int) + 1 = A
              · have hl1 : A - (j : Int) = 1 := by omega
                have hge : A ≤ (j : Int) + 1 := by omega
                have teq : ((j : Int) + 1 == A) = true := beq_iff_eq.2 hlast
                rw [hl1] at hwr hF5 hW5 HFo
                have Hlast := Lib.hid hlast
                clear hlast hl1
                cases done
                · simp only [writeR_go] at hwr
                  go_wp2_with fail
                  refine (hwr _ hF5.out hrd5.out).out.mono ?_
                  rintro e w6 ⟨rfl, hf6, hfr6⟩
                  have HF6 := Lib.hid hf6
                  have HW6 := Lib.hid ((hW5.out.frm hfr6 (by rintro (h | h) <;> omega) hgp.out).same (f' := ⟨8, true, 0, false, j, F⟩) rfl)
                  have HB6 := Lib.hid (hB5.out.trans (hfr6.below hs5 hbelow.out))
                  have hs6 := Nat.le_trans hs5 hfr6.size
                  clear hf6 hfr6 hF5 hW5 hB5 hwr
                  go_wp2_with fail
                  refine (on_any p mb (N + 1) _ _ HF6.out).mono ?_
                  rintro e w' ⟨rfl, rfl⟩
                  go_wp2_with fail
                  first
                  | (go_roundw
                     case rel => exact ⟨⟨j + 1, N + 1, ⟨8, true, 0, false, j, F⟩, g, by omega, by go_num, rfl, by omega, HF6.out, ⟨HFo.out.s0, HFo.out.s1, by simp only; omega, by simp only; omega, HFo.out.b⟩, ⟨rfl, rfl, Or.inr ⟨by omega, rfl, rfl, by simp only; have := Hlast.out; simp; omega⟩⟩, HW6.out, HB6.out, hs6⟩⟩
                     case measure => (first | omega | (simp [intOf] <;> omega) | (simp only [intOf] <;> omega)))
                  | exact ⟨⟨⟨j + 1, N + 1, ⟨8, true, 0, false, j, F⟩, g, by omega, by go_num, rfl, by omega, HF6.out, ⟨HFo.out.s0, HFo.out.s1, by simp only; omega, by simp only; omega, HFo.out.b⟩, ⟨rfl, rfl, Or.inr ⟨by omega, rfl, rfl, by simp only; have := Hlast.out; simp; omega⟩⟩, HW6.out, HB6.out, hs6⟩⟩, by (first | omega | (simp [intOf] <;> omega) | (simp only [intOf] <;> omega))⟩
                  | (refine ⟨?_, by (first | omega | (simp [intOf] <;> omega) | (simp only [intOf] <;> omega))⟩
                     (repeat apply Exists.intro)
                     refine (fun a b => And.intro b a) ?_ ?_
                     · first | rfl | ((repeat refine ⟨rfl, ?_⟩); rfl)
                     exact ⟨⟨j + 1, N + 1, ⟨8, true, 0, false, j, F⟩, g, by omega, by go_num, rfl, by omega, HF6.out, ⟨HFo.out.s0, HFo.out.s1, by simp only; omega, by simp only; omega, HFo.out.b⟩, ⟨rfl, rfl, Or.inr ⟨by omega, rfl, rfl, by simp only; have := Hlast.out; simp; omega⟩⟩, HW6.out, HB6.out, hs6⟩⟩)
                · simp only [writeR_do] at hwr
                  go_wp2_with fail
                  refine (hwr _ hF5.out hrd5.out).out.mono ?_
                  rintro e w6 ⟨rfl, hf6, hfr6⟩
                  have HF6 := Lib.hid hf6
                  have hx6 := Hh5.out.frm hfr6 (by rintro (h | h) <;> omega)
                  have hW6 := hW5.out.frm hfr6 (by rintro (h | h) <;> omega) hgp.out
                  have hB6 := hB5.out.trans (hfr6.below hs5 hbelow.out)
                  have hs6 := Nat.le_trans hs5 hfr6.size
                  have c0 := hW6.h.cell (wantC_at g 8 hk8)
                  rw [if_pos hk8] at c0
                  have f0 := hW6.h.frozen k
                  have hg7 := grown_set w6 ⟨wb, k, none⟩ (.slice (some ⟨x, 0, none⟩) 512 512)
                  have H7 := hW6.h.set k (.slice (some ⟨x, 0, none⟩) 512 512)
                  rw [wantC_put g hk8 x] at H7
                  have HW7 : Hid (Wants B p mb wb ⟨8, false, 0, false, 0, put F k (filled o.l)⟩ (upd g k x) 8 (w6.setCell ⟨wb, k, none⟩ (.slice (some ⟨x, 0, none⟩) 512 512))) := Lib.hid ⟨H7, fun i hi => by
                    unfold upd readF put
                    by_cases e : i = k
                    · subst e
                      simp only [if_true]
                      refine ⟨?_, hBx5, hxp, hxm, hxw⟩
                      have := hx6.grown hg7 (fun e => hxw (Option.some.inj e))
                      simpa using this
                    · have := hW6.e i hi
                      have e2 : ¬ ((i : Int) = (k : Int)) := by omega
                      simp only [e, e2, if_false]
                      exact ⟨this.1.grown hg7 (fun e => this.2.2.2.2 (Option.some.inj e)), this.2⟩⟩
                  have HF7 := Lib.hid (hf6.grown hg7 (fun e => hpw (Option.some.inj e)) (fun e => hmw (Option.some.inj e)))
                  have HB7 := Lib.hid (hB6.grown hg7 hs6 (by intro q hq; have e1 : wb = q := Option.some.inj hq; omega))
                  have hs7 := Nat.le_trans hs6 hg7.size
                  have HFb : Hid (∀ q z, put F k (filled o.l) q = some z → z.length = 512) := Lib.hid fun q z h => by
                    unfold put at h
                    split at h
                    · cases h; exact hfl5.out
                    · exact HFo.out.b q z h
                  clear hf6 hfr6 hF5 hW5 hB5 hwr hx6 hW6 hB6 hg7 H7
                  go_wp2_with fail
                  refine (on_any p mb (N + 1) _ _ HF6.out).mono ?_
                  rintro e w' ⟨rfl, rfl⟩
                  go_wp2_with fail
                  first
                  | (go_roundw
                     case rel => exact ⟨⟨j + 1, N + 1, ⟨8, true, 0, true, (j : Int) + 1, put F k (filled o.l)⟩, upd g k x, by omega, by go_num, rfl, by omega, HF7.out, ⟨HFo.out.s0, HFo.out.s1, by simp only; omega, by simp only; omega, HFb.out⟩, ⟨rfl, rfl, Or.inr ⟨by omega, rfl, rfl, by simp only; have := Hlast.out; simp; omega⟩⟩, HW7.out.same rfl, HB7.out, hs7⟩⟩
                     case measure => (first | omega | (simp [intOf] <;> omega) | (simp only [intOf] <;> omega)))
                  | exact ⟨⟨⟨j + 1, N + 1, ⟨8, true, 0, true, (j : Int) + 1, put F k (filled o.l)⟩, upd g k x, by omega, by go_num, rfl, by omega, HF7.out, ⟨HFo.out.s0, HFo.out.s1, by simp only; omega, by simp only; omega, HFb.out⟩, ⟨rfl, rfl, Or.inr ⟨by omega, rfl, rfl, by simp only; have := Hlast.out; simp; omega⟩⟩, HW7.out.same rfl, HB7.out, hs7⟩⟩, by (first | omega | (simp [intOf] <;> omega) | (simp only [intOf] <;> omega))⟩
                  | (refine ⟨?_, by (first | omega | (simp [intOf] <;> omega) | (simp only [intOf] <;> omega))⟩
                     (repeat apply Exists.intro)
                     refine (fun a b => And.intro b a) ?_ ?_
                     · first | rfl | ((repeat refine ⟨rfl, ?_⟩); rfl)
                     exact ⟨⟨j + 1, N + 1, ⟨8, true, 0, true, (j : Int) + 1, put F k (filled o.l)⟩, upd g k x, by omega, by go_num, rfl, by omega, HF7.out, ⟨HFo.out.s0, HFo.out.s1, by simp only; omega, by simp only; omega, HFb.out⟩, ⟨rfl, rfl, Or.inr ⟨by omega, rfl, rfl, by simp only; have := Hlast.out; simp; omega⟩⟩, HW7.out.same rfl, HB7.out, hs7⟩⟩)
              · have hl1 : A - (j : Int) ≠ 1 := by omega
                have hlt2 : (j : Int) + 1 < A := by omega
                have hmax : max (A - (j : Int) - 1) 0 = A - ((j + 1 : Nat) : Int) := by omega
                simp only [writeR_ne hl1, hmax] at hwr
                have Hmx := Lib.hid hmax
                clear hmax hl1 hlast
                go_wp2_with fail
                refine (hwr _ hF5.out hrd5.out).out.mono ?_
                rintro e w6 ⟨rfl, hf6, hfr6⟩
                have HF6 := Lib.hid hf6
                have hx6 := Hh5.out.frm hfr6 (by rintro (h | h) <;> omega)
                have hW6 := hW5.out.frm hfr6 (by rintro (h | h) <;> omega) hgp.out
                have hB6 := hB5.out.trans (hfr6.below hs5 hbelow.out)
                have hs6 := Nat.le_trans hs5 hfr6.size
                have c0 := hW6.h.cell (wantC_at g 8 hk8)
                rw [if_pos hk8] at c0
                have f0 := hW6.h.frozen k
                have hg7 := grown_set w6 ⟨wb, k, none⟩ (.slice (some ⟨x, 0, none⟩) 512 512)
                have H7 := hW6.h.set k (.slice (some ⟨x, 0, none⟩) 512 512)
                rw [wantC_put g hk8 x] at H7
                have HW7 : Hid (Wants B p mb wb ⟨8, false, 0, false, 0, put F k (filled o.l)⟩ (upd g k x) 8 (w6.setCell ⟨wb, k, none⟩ (.slice (some ⟨x, 0, none⟩) 512 512))) := Lib.hid ⟨H7, fun i hi => by
                  unfold upd readF put
                  by_cases e : i = k
                  · subst e
                    simp only [if_true]
                    refine ⟨?_, hBx5, hxp, hxm, hxw⟩
                    have := hx6.grown hg7 (fun e => hxw (Option.some.inj e))
                    simpa using this
                  · have := hW6.e i hi
                    have e2 : ¬ ((i : Int) = (k : Int)) := by omega
                    simp only [e, e2, if_false]
                    exact ⟨this.1.grown hg7 (fun e => this.2.2.2.2 (Option.some.inj e)), this.2⟩⟩
                have HF7 := Lib.hid (hf6.grown hg7 (fun e => hpw (Option.some.inj e)) (fun e => hmw (Option.some.inj e)))
                have HB7 := Lib.hid (hB6.grown hg7 hs6 (by intro q hq; have e1 : wb = q := Option.some.inj hq; omega))
                have hs7 := Nat.le_trans hs6 hg7.size
                have HFb : Hid (∀ q z, put F k (filled o.l) q = some z → z.length = 512) := Lib.hid fun q z h => by
                  unfold put at h
                  split at h
                  · cases h; exact hfl5.out
                  · exact HFo.out.b q z h
                clear hf6 hfr6 hF5 hW5 hB5 hwr hx6 hW6 hB6 hg7 H7
                go_wp2_with fail
                refine (on_any p mb (N + 1) _ _ HF6.out).mono ?_
                rintro e w' ⟨rfl, rfl⟩
                go_wp2_with fail
                first
                | (go_roundw
                   case rel => exact ⟨⟨j + 1, N + 1, ⟨8, false, A - ((j + 1 : Nat) : Int), done, (j : Int) + 1, put F k (filled o.l)⟩, upd g k x, by omega, by go_num, rfl, by omega, HF7.out, ⟨HFo.out.s0, HFo.out.s1, by simp only; omega, by simp only; omega, HFb.out⟩, ⟨rfl, rfl, Or.inl ⟨by omega, rfl, rfl, by simp only; omega⟩⟩, HW7.out.same rfl, HB7.out, hs7⟩⟩
                   case measure => (first | omega | (simp [intOf] <;> omega) | (simp only [intOf] <;> omega)))
                | exact ⟨⟨⟨j + 1, N + 1, ⟨8, false, A - ((j + 1 : Nat) : Int), done, (j : Int) + 1, put F k (filled o.l)⟩, upd g k x, by omega, by go_num, rfl, by omega, HF7.out, ⟨HFo.out.s0, HFo.out.s1, by simp only; omega, by simp only; omega, HFb.out⟩, ⟨rfl, rfl, Or.inl ⟨by omega, rfl, rfl, by simp only; omega⟩⟩, HW7.out.same rfl, HB7.out, hs7⟩⟩, by (first | omega | (simp [intOf] <;> omega) | (simp only [intOf] <;> omega))⟩
                | (refine ⟨?_, by (first | omega | (simp [intOf] <;> omega) | (simp only [intOf] <;> omega))⟩
                   (repeat apply Exists.intro)
                   refine (fun a b => And.intro b a) ?_ ?_
                   · first | rfl | ((repeat refine ⟨rfl, ?_⟩); rfl)
                   exact ⟨⟨j + 1, N + 1, ⟨8, false, A - ((j + 1 : Nat) : Int), done, (j : Int) + 1, put F k (filled o.l)⟩, upd g k x, by omega, by go_num, rfl, by omega, HF7.out, ⟨HFo.out.s0, HFo.out.s1, by simp only; omega, by simp only; omega, HFb.out⟩, ⟨rfl, rfl, Or.inl ⟨by omega, rfl, rfl, by simp only; omega⟩⟩, HW7.out.same rfl, HB7.out, hs7⟩⟩)
            · subst h1
              subst h2
              have H3 := Lib.hid h3
              clear h3
              have hwr := fun w' h => Lib.hid (writef_bad p mb N ⟨8, true, 0, done, writes, F⟩ k (some ⟨x, 0, none⟩) 512 512 w' h (by unfold mayE; simp))
              rw [show mayE ⟨8, true, 0, done, writes, F⟩ k = 143 from rfl] at hwr
              have tlt : ¬ ((j : Int) + 1 < A) := by omega
              have teq : ((j : Int) + 1 == A) = false := beq_eq_false_iff_ne.2 (by omega)
              go_wp2_with fail
              refine (hwr _ hF5.out).out.mono ?_
              rintro e w6 ⟨rfl, rfl⟩
              go_wp2_with fail
              refine (on_any p mb N _ _ hF5.out).mono ?_
              rintro e w' ⟨rfl, rfl⟩
              go_wp2_with fail
              first
              | (go_roundw
                 case rel => exact ⟨⟨j + 1, N, ⟨8, true, 0, done, writes, F⟩, g, by omega, by go_num, rfl, by omega, hF5.out, HFo.out, ⟨rfl, rfl, Or.inr ⟨by omega, rfl, rfl, H3.out⟩⟩, hW5.out, hB5.out, hs5⟩⟩
                 case measure => (first | omega | (simp [intOf] <;> omega) | (simp only [intOf] <;> omega)))
              | exact ⟨⟨⟨j + 1, N, ⟨8, true, 0, done, writes, F⟩, g, by omega, by go_num, rfl, by omega, hF5.out, HFo.out, ⟨rfl, rfl, Or.inr ⟨by omega, rfl, rfl, H3.out⟩⟩, hW5.out, hB5.out, hs5⟩⟩, by (first | omega | (simp [intOf] <;> omega) | (simp only [intOf] <;> omega))⟩
              | (refine ⟨?_, by (first | omega | (simp [intOf] <;> omega) | (simp only [intOf] <;> omega))⟩
                 (repeat apply Exists.intro)
                 refine (fun a b => And.intro b a) ?_ ?_
                 · first | rfl | ((repeat refine ⟨rfl, ?_⟩); rfl)
                 exact ⟨⟨j + 1, N, ⟨8, true, 0, done, writes, F⟩, g, by omega, by go_num, rfl, by omega, hF5.out, HFo.out, ⟨rfl, rfl, Or.inr ⟨by omega, rfl, rfl, H3.out⟩⟩, hW5.out, hB5.out, hs5⟩⟩)
          · obtain rfl : j = n := by omega
            clear hlt hj
            obtain ⟨hsz, hdn, hst⟩ := HSt.out
            clear HSt
            obtain ⟨size, off', left, done, writes, F⟩ := f
            simp only at hsz hdn hst
            subst hsz
            subst hdn
            rcases hst with ⟨ha, h1, h2, h3⟩ | ⟨ha, h1, h2, h3⟩
            · subst h1
              subst h2
              subst h3
              have tge : ¬ (A ≤ (j : Int)) := by omega
              go_wp2_with fail
              refine (readf_ok p mb N _ 0 _ HFl.out HFo.out ⟨by decide, by decide⟩ rfl).mono ?_
              rintro e w5 ⟨rfl, -, hb5⟩
              have HFl5 := Lib.hid (HFl.out.later hb5)
              have HWt5 := Lib.hid (HWt.out.later hb5)
              have HB5 := Lib.hid (HB4.out.trans (hb5.mono hs4))
              have hs5 : B ≤ w5.heap.size := Nat.le_trans hs4 hb5.size
              clear HFl HWt HB4 hb5
              go_wp2_with fail
              refine (writes_any p mb N _ _ HFl5.out).mono ?_
              rintro e w' ⟨rfl, rfl⟩
              go_wp2_with fail
              refine (power_any p mb N _ _ HFl5.out).mono ?_
              rintro e w6 ⟨rfl, hfl6, hg6⟩
              have hF6 := Lib.hid hfl6
              have hW6 := Lib.hid (HWt5.out.grownB hg6 hpw)
              have hB6 := Lib.hid (HB5.out.grown hg6 hs5 (by intro q hq; have e1 : p = q := Option.some.inj hq; omega))
              have hs6 : B ≤ w6.heap.size := Nat.le_trans hs5 hg6.size
              have hOk := Lib.hid HFo.out.b
              clear hfl6 hg6 HFl5 HWt5 HB5 HFo
              go_wp2_with fail
              go_loopw [19, 20, 21] (fun i _ _ wr => BackIn B p mb wb N ⟨8, false, 0, done, ((j : Nat) : Int), F⟩ g w i wr) (fun i _ _ _ => 8 - (intOf i).toNat)
              case atStart => exact ⟨0, by omega, rfl, hF6.out, hW6.out.same rfl, hB6.out, hs6⟩
              case round =>
                clear hF6 hW6 hB6 hs6
                obtain ⟨i, hi, rfl, hfl, hwt, hB6, hs6⟩ := hrel
                have HFl := Lib.hid hfl
                have HWt := Lib.hid hwt
                have HB6 := Lib.hid hB6
                clear hfl hwt hB6
                by_cases hlt : i < 8
                · have e0 : (0 : Int) ≤ (i : Int) := by omega
                  have e1 : (i : Int) < 8 := by omega
                  have hOk' : Fl.Ok ⟨8, false, 0, done, ((j : Nat) : Int), F⟩ := ⟨by simp only; omega, by simp only; omega, by simp only; omega, by simp only; omega, hOk.out⟩
                  go_wp2_with fail
                  refine (readf_ok p mb N ⟨8, false, 0, done, ((j : Nat) : Int), F⟩ i _ HFl.out hOk' ⟨by omega, by omega⟩ (by unfold mayE; simp only; rw [if_neg (by decide), if_neg (by omega)])).mono ?_
                  rintro e w7 ⟨rfl, hh7, hb7⟩
                  have hF7 := Lib.hid (HFl.out.later hb7)
                  have hW7 := Lib.hid (HWt.out.later hb7)
                  have hB7 := Lib.hid (HB6.out.trans (hb7.mono hs6))
                  have hs7 : B ≤ w7.heap.size := Nat.le_trans hs6 hb7.size
                  have c0 := hW7.out.h.cell (wantC_at g 8 hlt)
                  rw [if_pos hlt] at c0
                  have hr1 := Lib.hid hh7.rd
                  have hr2 := Lib.hid (hW7.out.e i hlt).1.rd
                  have hln := Lib.hid (readF_len hOk' i)
                  clear hb7 hh7 HFl HWt HB6
                  go_wp2_with fail
                  refine (same_true _ _ _ _ _ _ _ _ _ rfl hln.out hln.out (by decide) (by decide) hr1.out hr2.out).mono ?_
                  rintro e w8 ⟨rfl, hd8⟩
                  have hF8 := Lib.hid (hF7.out.later (hd8.below _))
                  have hW8 := Lib.hid (hW7.out.later (hd8.below _))
                  have hB8 := Lib.hid (hB7.out.trans (hd8.below _))
                  have hs8 : B ≤ w8.heap.size := Nat.le_trans hs7 (hd8.below w7.heap.size).size
                  clear hF7 hW7 hB7 c0 hr1 hr2 hd8
                  go_wp2_with fail
                  first
                  | (go_roundw
                     case rel => exact ⟨i + 1, by omega, by go_num, hF8.out, hW8.out, hB8.out, hs8⟩
                     case measure => (first | omega | (simp [intOf] <;> omega) | (simp only [intOf] <;> omega)))
                  | exact ⟨⟨i + 1, by omega, by go_num, hF8.out, hW8.out, hB8.out, hs8⟩, by (first | omega | (simp [intOf] <;> omega) | (simp only [intOf] <;> omega))⟩
                  | (refine ⟨?_, by (first | omega | (simp [intOf] <;> omega) | (simp only [intOf] <;> omega))⟩
                     (repeat apply Exists.intro)
                     refine (fun a b => And.intro b a) ?_ ?_
                     · first | rfl | ((repeat refine ⟨rfl, ?_⟩); rfl)
                     exact ⟨i + 1, by omega, by go_num, hF8.out, hW8.out, hB8.out, hs8⟩)
                · obtain rfl : i = 8 := by omega
                  go_wp2_with fail
                  refine (on_any p mb N _ _ HFl.out).mono ?_
                  rintro e w' ⟨rfl, rfl⟩
                  go_wp2_with fail
                  go_ret
                  exact ⟨rfl, by rw [HBx.out]; exact HB6.out⟩
            · subst h1
              subst h2
              clear h3
              go_wp2_with fail
              refine (readf_bad p mb N _ 0 _ HFl.out (by unfold mayE; simp)).mono ?_
              rintro e w5 ⟨rfl, rfl⟩
              have HFl5 := Lib.hid HFl.out
              have HWt5 := Lib.hid HWt.out
              have HB5 := Lib.hid HB4.out
              have hs5 := hs4
              clear HFl HWt HB4
              rw [show mayE ⟨8, true, 0, done, writes, F⟩ 0 = 143 from rfl]
              go_wp2_with fail
              refine (writes_any p mb N _ _ HFl5.out).mono ?_
              rintro e w' ⟨rfl, rfl⟩
              go_wp2_with fail
              refine (power_any p mb N _ _ HFl5.out).mono ?_
              rintro e w6 ⟨rfl, hfl6, hg6⟩
              have hF6 := Lib.hid hfl6
              have hW6 := Lib.hid (HWt5.out.grownB hg6 hpw)
              have hB6 := Lib.hid (HB5.out.grown hg6 hs5 (by intro q hq; have e1 : p = q := Option.some.inj hq; omega))
              have hs6 : B ≤ w6.heap.size := Nat.le_trans hs5 hg6.size
              have hOk := Lib.hid HFo.out.b
              clear hfl6 hg6 HFl5 HWt5 HB5 HFo
              go_wp2_with fail
              go_loopw [19, 20, 21] (fun i _ _ wr => BackIn B p mb wb N ⟨8, false, 0, done, writes, F⟩ g w i wr) (fun i _ _ _ => 8 - (intOf i).toNat)
              case atStart => exact ⟨0, by omega, rfl, hF6.out, hW6.out.same rfl, hB6.out, hs6⟩
              case round =>
                clear hF6 hW6 hB6 hs6
                obtain ⟨i, hi, rfl, hfl, hwt, hB6, hs6⟩ := hrel
                have HFl := Lib.hid hfl
                have HWt := Lib.hid hwt
                have HB6 := Lib.hid hB6
                clear hfl hwt hB6
                by_cases hlt : i < 8
                · have e0 : (0 : Int) ≤ (i : Int) := by omega
                  have e1 : (i : Int) < 8 := by omega
                  have hOk' : Fl.Ok ⟨8, false, 0, done, writes, F⟩ := ⟨by simp only; omega, by simp only; omega, by simp only; omega, by simp only; omega, hOk.out⟩
                  go_wp2_with fail
                  refine (readf_ok p mb N ⟨8, false, 0, done, writes, F⟩ i _ HFl.out hOk' ⟨by omega, by omega⟩ (by unfold mayE; simp only; rw [if_neg (by decide), if_neg (by omega)])).mono ?_
                  rintro e w7 ⟨rfl, hh7, hb7⟩
                  have hF7 := Lib.hid (HFl.out.later hb7)
                  have hW7 := Lib.hid (HWt.out.later hb7)
                  have hB7 := Lib.hid (HB6.out.trans (hb7.mono hs6))
                  have hs7 : B ≤ w7.heap.size := Nat.le_trans hs6 hb7.size
                  have c0 := hW7.out.h.cell (wantC_at g 8 hlt)
                  rw [if_pos hlt] at c0
                  have hr1 := Lib.hid hh7.rd
                  have hr2 := Lib.hid (hW7.out.e i hlt).1.rd
                  have hln := Lib.hid (readF_len hOk' i)
                  clear hb7 hh7 HFl HWt HB6
                  go_wp2_with fail
                  refine (same_true _ _ _ _ _ _ _ _ _ rfl hln.out hln.out (by decide) (by decide) hr1.out hr2.out).mono ?_
                  rintro e w8 ⟨rfl, hd8⟩
                  have hF8 := Lib.hid (hF7.out.later (hd8.below _))
                  have hW8 := Lib.hid (hW7.out.later (hd8.below _))
                  have hB8 := Lib.hid (hB7.out.trans (hd8.below _))
                  have hs8 : B ≤ w8.heap.size := Nat.le_trans hs7 (hd8.below w7.heap.size).size
                  clear hF7 hW7 hB7 c0 hr1 hr2 hd8
                  go_wp2_with fail
                  first
                  | (go_roundw
                     case rel => exact ⟨i + 1, by omega, by go_num, hF8.out, hW8.out, hB8.out, hs8⟩
                     case measure => (first | omega | (simp [intOf] <;> omega) | (simp only [intOf] <;> omega)))
                  | exact ⟨⟨i + 1, by omega, by go_num, hF8.out, hW8.out, hB8.out, hs8⟩, by (first | omega | (simp [intOf] <;> omega) | (simp only [intOf] <;> omega))⟩
                  | (refine ⟨?_, by (first | omega | (simp [intOf] <;> omega) | (simp only [intOf] <;> omega))⟩
                     (repeat apply Exists.intro)
                     refine (fun a b => And.intro b a) ?_ ?_
                     · first | rfl | ((repeat refine ⟨rfl, ?_⟩); rfl)
                     exact ⟨i + 1, by omega, by go_num, hF8.out, hW8.out, hB8.out, hs8⟩)
                · obtain rfl : i = 8 := by omega
                  go_wp2_with fail
                  refine (on_any p mb N _ _ HFl.out).mono ?_
                  rintro e w' ⟨rfl, rfl⟩
                  go_wp2_with fail
                  go_ret
                  exact ⟨rfl, by rw [HBx.out]; exact HB6.out⟩
  · go_wp2_with fail
    obtain ⟨n, hnn⟩ : ∃ n : Nat, (400 : Int) = n := ⟨400, rfl⟩
    have hn4 : n ≤ 400 := by omega
    have hnl : n ≤ len := by omega
    rw [hnn]
    have Hnn := Lib.hid hnn.symm
    clear hnn h400
    have hpk := Lib.hid (pickN_nonneg (c := at0) (n := 401) (by omega))
    have hpl := Lib.hid (pickN_lt (c := at0) (n := 401) (by omega))
    refine (pick_any at0 401 _ hat (by omega) (by omega)).mono ?_
    rintro e w' ⟨rfl, rfl⟩
    generalize pickN at0 401 = q at *
    have hq0 := hpk.out
    have hq1 : q < (n : Int) + 1 := by have := hpl.out; have := Hnn.out; omega
    clear hpk hpl
    have hcut := fun w' h => Lib.hid (cut_any p mb 0 f8 (1 + q) D w' h f8_ok)
    rw [cutR_8 D (show 0 ≤ 1 + q by omega)] at hcut
    go_wp2_with fail
    refine (hcut _ Hfl2.out).out.mono ?_
    rintro e w3 ⟨rfl, hfl3, hg3⟩
    have HB3 := HB2.out.grown hg3 hs2 (by intro k hk; have := Option.some.inj hk; omega)
    have hs3 : B ≤ w3.heap.size := Nat.le_trans hs2 hg3.size
    have hlp := hfl3.h.lt
    have hlm := hfl3.m.lt
    have HW4 := Lib.hid (HB.new w3 (wantC (fun _ => 0) 0) 31)
    have HF4 := Lib.hid (hfl3.alloc (.cells (wantC (fun _ => 0) 0).toArray 31))
    have HB4 := Lib.hid (HB3.alloc hs3 (.cells (wantC (fun _ => 0) 0).toArray 31))
    have hs4 : B ≤ (w3.alloc (.cells (wantC (fun _ => 0) 0).toArray 31)).heap.size := by simp; omega
    clear hcut hg3 HB3 HB2 Hfl2 hfl3
    obtain ⟨A, hA⟩ : ∃ A : Int, 1 + q = A := ⟨_, rfl⟩
    rw [hA] at HF4
    have hA1 : 1 ≤ A := by omega
    have hA2 : A ≤ (n : Int) + 1 := by omega
    go_wp2_with fail
    clear hA hq0 hq1 hz8
    generalize w3.alloc (.cells (wantC (fun _ => 0) 0).toArray 31) = w4 at *
    obtain ⟨wb, hwb⟩ : ∃ wb, w3.heap.size = wb := ⟨_, rfl⟩
    rw [hwb] at HW4 hlp hlm hs3 ⊢
    clear hwb
    have hpw : p ≠ wb := by omega
    have hmw : mb ≠ wb := by omega
    have hfm : p ≠ mb := HF4.out.ne
    go_loopw [11] (FillIn B p mb wb (fA A D) w) (fun i _ => 8 - (intOf i).toNat)
    case atStart => exact ⟨0, fun _ => 0, by omega, rfl, HF4.out, ⟨HW4.out, fun i hi => by omega⟩, HB4.out, hs4⟩
    case round =>
      clear HW4 HF4 HB4 hs4
      obtain ⟨j, g, hj, rfl, hfl, hwt, hB4, hs4⟩ := hrel
      have HFl := Lib.hid hfl
      have HWt := Lib.hid hwt
      have HB4 := Lib.hid hB4
      clear hfl hwt hB4
      by_cases hlt : j < 8
      · have e0 : (0 : Int) ≤ (j : Int) := by omega
        have e1 : (j : Int) < 8 := by omega
        go_wp2_with fail
        refine (filled_any none 0 0 [] _ rfl (by decide) (Rd.nil _ _)).mono ?_
        rintro e w5 ⟨rfl, hh5, hb5⟩
        have hF5 := HFl.out.later hb5
        have hW5 := HWt.out.later hb5
        have hB5 := HB4.out.trans (hb5.mono hs4)
        have hs5 : B ≤ w5.heap.size := Nat.le_trans hs4 hb5.size
        have hgx := hh5.lt
        have hxp : wr.heap.size ≠ p := by have := HFl.out.h.lt; omega
        have hxm : wr.heap.size ≠ mb := by have := HFl.out.m.lt; omega
        have hxw : wr.heap.size ≠ wb := by have := HWt.out.h.lt; omega
        have hxg : ∀ i, i < j → g i ≠ wr.heap.size := fun i hi => by have := (HWt.out.e i hi).1.lt; omega
        obtain ⟨x, hx⟩ : ∃ x, wr.heap.size = x := ⟨_, rfl⟩
        rw [hx] at hh5 hgx hxp hxm hxw hxg ⊢
        have hBx5 : B ≤ x := by omega
        clear hx
        have c0 := hW5.h.cell (wantC_at g j hlt)
        rw [if_neg (Nat.lt_irrefl j)] at c0
        have f0 := hW5.h.frozen j
        have hg6 := grown_set w5 ⟨wb, j, none⟩ (.slice (some ⟨x, 0, none⟩) 512 512)
        have H6 := hW5.h.set j (.slice (some ⟨x, 0, none⟩) 512 512)
        rw [wantC_next g hlt x] at H6
        have HW6 : Hid (Wants B p mb wb (fA A D) (upd g j x) (j + 1) (w5.setCell ⟨wb, j, none⟩ (.slice (some ⟨x, 0, none⟩) 512 512))) := Lib.hid ⟨H6, fun i hi => by
          unfold upd
          by_cases e : i = j
          · subst e
            rw [if_pos rfl]
            refine ⟨?_, hBx5, hxp, hxm, hxw⟩
            have := hh5.grown hg6 (fun e => hxw (Option.some.inj e))
            rw [filled_nil] at this
            exact this
          · rw [if_neg e]
            have := hW5.e i (by omega)
            exact ⟨this.1.grown hg6 (fun e => this.2.2.2.2 (Option.some.inj e)), this.2⟩⟩
        have HF6 := Lib.hid (hF5.grown hg6 (fun e => hpw (Option.some.inj e)) (fun e => hmw (Option.some.inj e)))
        have HB6 := Lib.hid (hB5.grown hg6 hs5 (by intro k hk; have e1 : wb = k := Option.some.inj hk; omega))
        have hs6 := Nat.le_trans hs5 hg6.size
        clear hF5 hW5 hB5 hb5 hh5 hg6 H6 HFl HWt HB4 hxg
        go_wp2_with fail
        first
        | (go_roundw
           case rel => exact ⟨j + 1, upd g j x, by omega, by go_num, HF6.out, HW6.out, HB6.out, hs6⟩
           case measure => (first | omega | (simp [intOf] <;> omega) | (simp only [intOf] <;> omega)))
        | exact ⟨⟨j + 1, upd g j x, by omega, by go_num, HF6.out, HW6.out, HB6.out, hs6⟩, by (first | omega | (simp [intOf] <;> omega) | (simp only [intOf] <;> omega))⟩
        | (refine ⟨?_, by (first | omega | (simp [intOf] <;> omega) | (simp only [intOf] <;> omega))⟩
           (repeat apply Exists.intro)
           refine (fun a b => And.intro b a) ?_ ?_
           · first | rfl | ((repeat refine ⟨rfl, ?_⟩); rfl)
           exact ⟨j + 1, upd g j x, by omega, by go_num, HF6.out, HW6.out, HB6.out, hs6⟩)
      · obtain rfl : j = 8 := by omega
        clear hlt hj
        go_wp2_with fail
        go_loopw [12, 13, 14, 15, 16] (fun c i _ _ _ wr => CutIn B p mb wb A D n w c i wr) (fun _ i _ _ _ _ => n - (intOf i).toNat)
        case atStart => exact ⟨0, 0, fA A D, g, by omega, rfl, rfl, Nat.le_refl _, HFl.out, fA_ok D (by omega) (by omega), ⟨rfl, rfl, Or.inl ⟨by omega, rfl, by simp only [fA]; omega, rfl⟩⟩, HWt.out, HB4.out, hs4⟩
        case round =>
          clear HFl HWt HB4 hs4
          obtain ⟨j, N, f, g, hj, rfl, rfl, hN, hfl, hfo, hst, hwt, hB4, hs4⟩ := hrel
          have HFl := Lib.hid hfl
          have HFo := Lib.hid hfo
          have HSt := Lib.hid hst
          have HWt := Lib.hid hwt
          have HB4 := Lib.hid hB4
          clear hfl hfo hst hwt
          by_cases hlt : j < n
          · obtain ⟨o, hlk⟩ : ∃ o, l[j]? = some o := ⟨_, List.getElem?_eq_getElem (show j < l.length by have := Hl.out; omega)⟩
            obtain ⟨x0, off, rfl, hx0, hc⟩ := hr j o hlk
            have hoo := Lib.hid (hok o (List.mem_of_getElem? hlk))
            clear hlk
            have hcell := fun i v hi => (hB4.cell (p := ⟨x0, off + j * 8 + i, none⟩) (by rw [← HBx.out]; exact hx0)).trans (hc i v hi)
            have c1 := hcell 1 _ rfl
            have c3 := hcell 3 _ rfl
            clear hc hcell hB4
            have e0 : (0 : Int) ≤ (j : Int) := by omega
            have e1 : (j : Int) < (len : Int) := by omega
            have e2 : (j : Int) < (n : Int) := by omega
            go_wp2_with fail
            refine (pick_any o.n 8 _ hoo.out.n (by decide) (by decide)).mono ?_
            rintro e w' ⟨rfl, rfl⟩
            have hk0 : 0 ≤ pickN o.n 8 := pickN_nonneg (by decide)
            have hk1 : pickN o.n 8 < 8 := pickN_lt (by decide)
            obtain ⟨k, hk⟩ : ∃ k : Nat, pickN o.n 8 = k := ⟨(pickN o.n 8).toNat, by omega⟩
            rw [hk] at hk0 hk1 ⊢
            clear hk
            have hk8 : k < 8 := by omega
            go_wp2_with fail
            refine (filled_any o.ao _ o.cap o.l _ rfl (by have := hoo.out.c; have := hoo.out.x; unfold maxLen at this; omega) (hoo.out.r.below (by rw [HBx.out]; exact HB4.out))).mono ?_
            rintro e w5 ⟨rfl, hh5, hb5⟩
            have hF5 := Lib.hid (HFl.out.later hb5)
            have hW5 := Lib.hid (HWt.out.later hb5)
            have hB5 := Lib.hid (HB4.out.trans (hb5.mono hs4))
            have hs5 : B ≤ w5.heap.size := Nat.le_trans hs4 hb5.size
            have hxp : wr.heap.size ≠ p := by have := HFl.out.h.lt; omega
            have hxm : wr.heap.size ≠ mb := by have := HFl.out.m.lt; omega
            have hxw : wr.heap.size ≠ wb := by have := HWt.out.h.lt; omega
            have hxg : Hid (∀ i, i < 8 → g i ≠ wr.heap.size) := Lib.hid fun i hi => by have := (HWt.out.e i hi).1.lt; omega
            obtain ⟨x, hx⟩ : ∃ x, wr.heap.size = x := ⟨_, rfl⟩
            rw [hx] at hh5 hxp hxm hxw hxg ⊢
            have hBx5 : B ≤ x := by omega
            have Hh5 := Lib.hid hh5
            have hfl5 := Lib.hid (filled_len o.l)
            clear hx hb5 HFl HWt HB4 c1 c3 hh5 hoo hx0
            have hrd5 := Lib.hid Hh5.out.rd
            obtain ⟨hsz, hdn, hst⟩ := HSt.out
            clear HSt
            obtain ⟨size, off', left, done, writes, F⟩ := f
            simp only at hsz hdn hst
            subst hsz
            subst hdn
            rcases hst with ⟨ha, h1, h2, h3⟩ | ⟨ha, h1, h2, h3⟩
            · subst h1
              subst h2
              subst h3
              have hwr := fun w' h hr' => Lib.hid (writef_ok p mb N ⟨8, false, A - j, done, j, F⟩ k x 0 512 (filled o.l) w' h HFo.out ⟨by omega, by omega⟩ (by unfold mayE; simp only; rw [if_neg (by decide), if_neg (by omega)]) hfl5.out hr' (Nat.le_refl _) (by omega) (by simp only; omega) (by simp only; omega) hxp)
              have hgp : Hid (∀ i, i < 8 → ¬ (g i = p ∨ g i = mb)) := Lib.hid fun i hi h => by
                have := (hW5.out.e i hi).2
                rcases h with h | h
                · exact this.2.1 h
                · exact this.2.2.1 h
              have hbelow : Hid (∀ b : Nat, (b = p ∨ b = mb) → B ≤ b) := Lib.hid (by rintro b (rfl | rfl) <;> omega)
              by_cases hlast : (j : Int) + 1 = A
              · have hl1 : A - (j : Int) = 1 := by omega
                have hge : A ≤ (j : Int) + 1 := by omega
                have teq : ((j : Int) + 1 == A) = true := beq_iff_eq.2 hlast
                rw [hl1] at hwr hF5 hW5 HFo
                have Hlast := Lib.hid hlast
                clear hlast hl1
                cases done
                · simp only [writeR_go] at hwr
                  go_wp2_with fail
                  refine (hwr _ hF5.out hrd5.out).out.mono ?_
                  rintro e w6 ⟨rfl, hf6, hfr6⟩
                  have HF6 := Lib.hid hf6
                  have HW6 := Lib.hid ((hW5.out.frm hfr6 (by rintro (h | h) <;> omega) hgp.out).same (f' := ⟨8, true, 0, false, j, F⟩) rfl)
                  have HB6 := Lib.hid (hB5.out.trans (hfr6.below hs5 hbelow.out))
                  have hs6 := Nat.le_trans hs5 hfr6.size
                  clear hf6 hfr6 hF5 hW5 hB5 hwr
                  go_wp2_with fail
                  refine (on_any p mb (N + 1) _ _ HF6.out).mono ?_
                  rintro e w' ⟨rfl, rfl⟩
                  go_wp2_with fail
                  first
                  | (go_roundw
                     case rel => exact ⟨⟨j + 1, N + 1, ⟨8, true, 0, false, j, F⟩, g, by omega, by go_num, rfl, by omega, HF6.out, ⟨HFo.out.s0, HFo.out.s1, by simp only; omega, by simp only; omega, HFo.out.b⟩, ⟨rfl, rfl, Or.inr ⟨by omega, rfl, rfl, by simp only; have := Hlast.out; simp; omega⟩⟩, HW6.out, HB6.out, hs6⟩⟩
                     case measure => (first | omega | (simp [intOf] <;> omega) | (simp only [intOf] <;> omega)))
                  | exact ⟨⟨⟨j + 1, N + 1, ⟨8, true, 0, false, j, F⟩, g, by omega, by go_num, rfl, by omega, HF6.out, ⟨HFo.out.s0, HFo.out.s1, by simp only; omega, by simp only; omega, HFo.out.b⟩, ⟨rfl, rfl, Or.inr ⟨by omega, rfl, rfl, by simp only; have := Hlast.out; simp; omega⟩⟩, HW6.out, HB6.out, hs6⟩⟩, by (first | omega | (simp [intOf] <;> omega) | (simp only [intOf] <;> omega))⟩
                  | (refine ⟨?_, by (first | omega | (simp [intOf] <;> omega) | (simp only [intOf] <;> omega))⟩
                     (repeat apply Exists.intro)
                     refine (fun a b => And.intro b a) ?_ ?_
                     · first | rfl | ((repeat refine ⟨rfl, ?_⟩); rfl)
                     exact ⟨⟨j + 1, N + 1, ⟨8, true, 0, false, j, F⟩, g, by omega, by go_num, rfl, by omega, HF6.out, ⟨HFo.out.s0, HFo.out.s1, by simp only; omega, by simp only; omega, HFo.out.b⟩, ⟨rfl, rfl, Or.inr ⟨by omega, rfl, rfl, by simp only; have := Hlast.out; simp; omega⟩⟩, HW6.out, HB6.out, hs6⟩⟩)
                · simp only [writeR_do] at hwr
                  go_wp2_with fail
                  refine (hwr _ hF5.out hrd5.out).out.mono ?_
                  rintro e w6 ⟨rfl, hf6, hfr6⟩
                  have HF6 := Lib.hid hf6
                  have hx6 := Hh5.out.frm hfr6 (by rintro (h | h) <;> omega)
                  have hW6 := hW5.out.frm hfr6 (by rintro (h | h) <;> omega) hgp.out
                  have hB6 := hB5.out.trans (hfr6.below hs5 hbelow.out)
                  have hs6 := Nat.le_trans hs5 hfr6.size
                  have c0 := hW6.h.cell (wantC_at g 8 hk8)
                  rw [if_pos hk8] at c0
                  have f0 := hW6.h.frozen k
                  have hg7 := grown_set w6 ⟨wb, k, none⟩ (.slice (some ⟨x, 0, none⟩) 512 512)
                  have H7 := hW6.h.set k (.slice (some ⟨x, 0, none⟩) 512 512)
                  rw [wantC_put g hk8 x] at H7
                  have HW7 : Hid (Wants B p mb wb ⟨8, false, 0, false, 0, put F k (filled o.l)⟩ (upd g k x) 8 (w6.setCell ⟨wb, k, none⟩ (.slice (some ⟨x, 0, none⟩) 512 512))) := Lib.hid ⟨H7, fun i hi => by
                    unfold upd readF put
                    by_cases e : i = k
                    · subst e
                      simp only [if_true]
                      refine ⟨?_, hBx5, hxp, hxm, hxw⟩
                      have := hx6.grown hg7 (fun e => hxw (Option.some.inj e))
                      simpa using this
                    · have := hW6.e i hi
                      have e2 : ¬ ((i : Int) = (k : Int)) := by omega
                      simp only [e, e2, if_false]
                      exact ⟨this.1.grown hg7 (fun e => this.2.2.2.2 (Option.some.inj e)), this.2⟩⟩
                  have HF7 := Lib.hid (hf6.grown hg7 (fun e => hpw (Option.some.inj e)) (fun e => hmw (Option.some.inj e)))
                  have HB7 := Lib.hid (hB6.grown hg7 hs6 (by intro q hq; have e1 : wb = q := Option.some.inj hq; omega))
                  have hs7 := Nat.le_trans hs6 hg7.size
                  have HFb : Hid (∀ q z, put F k (filled o.l) q = some z → z.length = 512) := Lib.hid fun q z h => by
                    unfold put at h
                    split at h
                    · cases h; exact hfl5.out
                    · exact HFo.out.b q z h
                  clear hf6 hfr6 hF5 hW5 hB5 hwr hx6 hW6 hB6 hg7 H7
                  go_wp2_with fail
                  refine (on_any p mb (N + 1) _ _ HF6.out).mono ?_
                  rintro e w' ⟨rfl, rfl⟩
                  go_wp2_with fail
                  first
                  | (go_roundw
                     case rel => exact ⟨⟨j + 1, N + 1, ⟨8, true, 0, true, (j : Int) + 1, put F k (filled o.l)⟩, upd g k x, by omega, by go_num, rfl, by omega, HF7.out, ⟨HFo.out.s0, HFo.out.s1, by simp only; omega, by simp only; omega, HFb.out⟩, ⟨rfl, rfl, Or.inr ⟨by omega, rfl, rfl, by simp only; have := Hlast.out; simp; omega⟩⟩, HW7.out.same rfl, HB7.out, hs7⟩⟩
                     case measure => (first | omega | (simp [intOf] <;> omega) | (simp only [intOf] <;> omega)))
                  | exact ⟨⟨⟨j + 1, N + 1, ⟨8, true, 0, true, (j : Int) + 1, put F k (filled o.l)⟩, upd g k x, by omega, by go_num, rfl, by omega, HF7.out, ⟨HFo.out.s0, HFo.out.s1, by simp only; omega, by simp only; omega, HFb.out⟩, ⟨rfl, rfl, Or.inr ⟨by omega, rfl, rfl, by simp only; have := Hlast.out; simp; omega⟩⟩, HW7.out.same rfl, HB7.out, hs7⟩⟩, by (first | omega | (simp [intOf] <;> omega) | (simp only [intOf] <;> omega))⟩
                  | (refine ⟨?_, by (first | omega | (simp [intOf] <;> omega) | (simp only [intOf] <;> omega))⟩
                     (repeat apply Exists.intro)
                     refine (fun a b => And.intro b a) ?_ ?_
                     · first | rfl | ((repeat refine ⟨rfl, ?_⟩); rfl)
                     exact ⟨⟨j + 1, N + 1, ⟨8, true, 0, true, (j : Int) + 1, put F k (filled o.l)⟩, upd g k x, by omega, by go_num, rfl, by omega, HF7.out, ⟨HFo.out.s0, HFo.out.s1, by simp only; omega, by simp only; omega, HFb.out⟩, ⟨rfl, rfl, Or.inr ⟨by omega, rfl, rfl, by simp only; have := Hlast.out; simp; omega⟩⟩, HW7.out.same rfl, HB7.out, hs7⟩⟩)
              · have hl1 : A - (j : Int) ≠ 1 := by omega
                have hlt2 : (j : Int) + 1 < A := by omega
                have hmax : max (A - (j : Int) - 1) 0 = A - ((j + 1 : Nat) : Int) := by omega
                simp only [writeR_ne hl1, hmax] at hwr
                have Hmx := Lib.hid hmax
                clear hmax hl1 hlast
                go_wp2_with fail
                refine (hwr _ hF5.out hrd5.out).out.mono ?_
                rintro e w6 ⟨rfl, hf6, hfr6⟩
                have HF6 := Lib.hid hf6
                have hx6 := Hh5.out.frm hfr6 (by rintro (h | h) <;> omega)
                have hW6 := hW5.out.frm hfr6 (by rintro (h | h) <;> omega) hgp.out
                have hB6 := hB5.out.trans (hfr6.below hs5 hbelow.out)
                have hs6 := Nat.le_trans hs5 hfr6.size
                have c0 := hW6.h.cell (wantC_at g 8 hk8)
                rw [if_pos hk8] at c0
                have f0 := hW6.h.frozen k
                have hg7 := grown_set w6 ⟨wb, k, none⟩ (.slice (some ⟨x, 0, none⟩) 512 512)
                have H7 := hW6.h.set k (.slice (some ⟨x, 0, none⟩) 512 512)
                rw [wantC_put g hk8 x] at H7
                have HW7 : Hid (Wants B p mb wb ⟨8, false, 0, false, 0, put F k (filled o.l)⟩ (upd g k x) 8 (w6.setCell ⟨wb, k, none⟩ (.slice (some ⟨x, 0, none⟩) 512 512))) := Lib.hid ⟨H7, fun i hi => by
                  unfold upd readF put
                  by_cases e : i = k
                  · subst e
                    simp only [if_true]
                    refine ⟨?_, hBx5, hxp, hxm, hxw⟩
                    have := hx6.grown hg7 (fun e => hxw (Option.some.inj e))
                    simpa using this
                  · have := hW6.e i hi
                    have e2 : ¬ ((i : Int) = (k : Int)) := by omega
                    simp only [e, e2, if_false]
                    exact ⟨this.1.grown hg7 (fun e => this.2.2.2.2 (Option.some.inj e)), this.2⟩⟩
                have HF7 := Lib.hid (hf6.grown hg7 (fun e => hpw (Option.some.inj e)) (fun e => hmw (Option.some.inj e)))
                have HB7 := Lib.hid (hB6.grown hg7 hs6 (by intro q hq; have e1 : wb = q := Option.some.inj hq; omega))
                have hs7 := Nat.le_trans hs6 hg7.size
                have HFb : Hid (∀ q z, put F k (filled o.l) q = some z → z.length = 512) := Lib.hid fun q z h => by
                  unfold put at h
                  split at h
                  · cases h; exact hfl5.out
                  · exact HFo.out.b q z h
                clear hf6 hfr6 hF5 hW5 hB5 hwr hx6 hW6 hB6 hg7 H7
                go_wp2_with fail
                refine (on_any p mb (N + 1) _ _ HF6.out).mono ?_
                rintro e w' ⟨rfl, rfl⟩
                go_wp2_with fail
                first
                | (go_roundw
                   case rel => exact ⟨⟨j + 1, N + 1, ⟨8, false, A - ((j + 1 : Nat) : Int), done, (j : Int) + 1, put F k (filled o.l)⟩, upd g k x, by omega, by go_num, rfl, by omega, HF7.out, ⟨HFo.out.s0, HFo.out.s1, by simp only; omega, by simp only; omega, HFb.out⟩, ⟨rfl, rfl, Or.inl ⟨by omega, rfl, rfl, by simp only; omega⟩⟩, HW7.out.same rfl, HB7.out, hs7⟩⟩
                   case measure => (first | omega | (simp [intOf] <;> omega) | (simp only [intOf] <;> omega)))
                | exact ⟨⟨⟨j + 1, N + 1, ⟨8, false, A - ((j + 1 : Nat) : Int), done, (j : Int) + 1, put F k (filled o.l)⟩, upd g k x, by omega, by go_num, rfl, by omega, HF7.out, ⟨HFo.out.s0, HFo.out.s1, by simp only; omega, by simp only; omega, HFb.out⟩, ⟨rfl, rfl, Or.inl ⟨by omega, rfl, rfl, by simp only; omega⟩⟩, HW7.out.same rfl, HB7.out, hs7⟩⟩, by (first | omega | (simp [intOf] <;> omega) | (simp only [intOf] <;> omega))⟩
                | (refine ⟨?_, by (first | omega | (simp [intOf] <;> omega) | (simp only [intOf] <;> omega))⟩
                   (repeat apply Exists.intro)
                   refine (fun a b => And.intro b a) ?_ ?_
                   · first | rfl | ((repeat refine ⟨rfl, ?_⟩); rfl)
                   exact ⟨⟨j + 1, N + 1, ⟨8, false, A - ((j + 1 : Nat) : Int), done, (j : Int) + 1, put F k (filled o.l)⟩, upd g k x, by omega, by go_num, rfl, by omega, HF7.out, ⟨HFo.out.s0, HFo.out.s1, by simp only; omega, by simp only; omega, HFb.out⟩, ⟨rfl, rfl, Or.inl ⟨by omega, rfl, rfl, by simp only; omega⟩⟩, HW7.out.same rfl, HB7.out, hs7⟩⟩)
            · subst h1
              subst h2
              have H3 := Lib.hid h3
              clear h3
              have hwr := fun w' h => Lib.hid (writef_bad p mb N ⟨8, true, 0, done, writes, F⟩ k (some ⟨x, 0, none⟩) 512 512 w' h (by unfold mayE; simp))
              rw [show mayE ⟨8, true, 0, done, writes, F⟩ k = 143 from rfl] at hwr
              have tlt : ¬ ((j : Int) + 1 < A) := by omega
              have teq : ((j : Int) + 1 == A) = false := beq_eq_false_iff_ne.2 (by omega)
              go_wp2_with fail
              refine (hwr _ hF5.out).out.mono ?_
              rintro e w6 ⟨rfl, rfl⟩
              go_wp2_with fail
              refine (on_any p mb N _ _ hF5.out).mono ?_
              rintro e w' ⟨rfl, rfl⟩
              go_wp2_with fail
              first
              | (go_roundw
                 case rel => exact ⟨⟨j + 1, N, ⟨8, true, 0, done, writes, F⟩, g, by omega, by go_num, rfl, by omega, hF5.out, HFo.out, ⟨rfl, rfl, Or.inr ⟨by omega, rfl, rfl, H3.out⟩⟩, hW5.out, hB5.out, hs5⟩⟩
                 case measure => (first | omega | (simp [intOf] <;> omega) | (simp only [intOf] <;> omega)))
              | exact ⟨⟨⟨j + 1, N, ⟨8, true, 0, done, writes, F⟩, g, by omega, by go_num, rfl, by omega, hF5.out, HFo.out, ⟨rfl, rfl, Or.inr ⟨by omega, rfl, rfl, H3.out⟩⟩, hW5.out, hB5.out, hs5⟩⟩, by (first | omega | (simp [intOf] <;> omega) | (simp only [intOf] <;> omega))⟩
              | (refine ⟨?_, by (first | omega | (simp [intOf] <;> omega) | (simp only [intOf] <;> omega))⟩
                 (repeat apply Exists.intro)
                 refine (fun a b => And.intro b a) ?_ ?_
                 · first | rfl | ((repeat refine ⟨rfl, ?_⟩); rfl)
                 exact ⟨⟨j + 1, N, ⟨8, true, 0, done, writes, F⟩, g, by omega, by go_num, rfl, by omega, hF5.out, HFo.out, ⟨rfl, rfl, Or.inr ⟨by omega, rfl, rfl, H3.out⟩⟩, hW5.out, hB5.out, hs5⟩⟩)
          · obtain rfl : j = n := by omega
            clear hlt hj
            obtain ⟨hsz, hdn, hst⟩ := HSt.out
            clear HSt
            obtain ⟨size, off', left, done, writes, F⟩ := f
            simp only at hsz hdn hst
            subst hsz
            subst hdn
            rcases hst with ⟨ha, h1, h2, h3⟩ | ⟨ha, h1, h2, h3⟩
            · subst h1
              subst h2
              subst h3
              have tge : ¬ (A ≤ (j : Int)) := by omega
              go_wp2_with fail
              refine (readf_ok p mb N _ 0 _ HFl.out HFo.out ⟨by decide, by decide⟩ rfl).mono ?_
              rintro e w5 ⟨rfl, -, hb5⟩
              have HFl5 := Lib.hid (HFl.out.later hb5)
              have HWt5 := Lib.hid (HWt.out.later hb5)
              have HB5 := Lib.hid (HB4.out.trans (hb5.mono hs4))
              have hs5 : B ≤ w5.heap.size := Nat.le_trans hs4 hb5.size
              clear HFl HWt HB4 hb5
              go_wp2_with fail
              refine (writes_any p mb N _ _ HFl5.out).mono ?_
              rintro e w' ⟨rfl, rfl⟩
              go_wp2_with fail
              refine (power_any p mb N _ _ HFl5.out).mono ?_
              rintro e w6 ⟨rfl, hfl6, hg6⟩
              have hF6 := Lib.hid hfl6
              have hW6 := Lib.hid (HWt5.out.grownB hg6 hpw)
              have hB6 := Lib.hid (HB5.out.grown hg6 hs5 (by intro q hq; have e1 : p = q := Option.some.inj hq; omega))
              have hs6 : B ≤ w6.heap.size := Nat.le_trans hs5 hg6.size
              have hOk := Lib.hid HFo.out.b
              clear hfl6 hg6 HFl5 HWt5 HB5 HFo
              go_wp2_with fail
              go_loopw [19, 20, 21] (fun i _ _ wr => BackIn B p mb wb N ⟨8, false, 0, done, ((j : Nat) : Int), F⟩ g w i wr) (fun i _ _ _ => 8 - (intOf i).toNat)
              case atStart => exact ⟨0, by omega, rfl, hF6.out, hW6.out.same rfl, hB6.out, hs6⟩
              case round =>
                clear hF6 hW6 hB6 hs6
                obtain ⟨i, hi, rfl, hfl, hwt, hB6, hs6⟩ := hrel
                have HFl := Lib.hid hfl
                have HWt := Lib.hid hwt
                have HB6 := Lib.hid hB6
                clear hfl hwt hB6
                by_cases hlt : i < 8
                · have e0 : (0 : Int) ≤ (i : Int) := by omega
                  have e1 : (i : Int) < 8 := by omega
                  have hOk' : Fl.Ok ⟨8, false, 0, done, ((j : Nat) : Int), F⟩ := ⟨by simp only; omega, by simp only; omega, by simp only; omega, by simp only; omega, hOk.out⟩
                  go_wp2_with fail
                  refine (readf_ok p mb N ⟨8, false, 0, done, ((j : Nat) : Int), F⟩ i _ HFl.out hOk' ⟨by omega, by omega⟩ (by unfold mayE; simp only; rw [if_neg (by decide), if_neg (by omega)])).mono ?_
                  rintro e w7 ⟨rfl, hh7, hb7⟩
                  have hF7 := Lib.hid (HFl.out.later hb7)
                  have hW7 := Lib.hid (HWt.out.later hb7)
                  have hB7 := Lib.hid (HB6.out.trans (hb7.mono hs6))
                  have hs7 : B ≤ w7.heap.size := Nat.le_trans hs6 hb7.size
                  have c0 := hW7.out.h.cell (wantC_at g 8 hlt)
                  rw [if_pos hlt] at c0
                  have hr1 := Lib.hid hh7.rd
                  have hr2 := Lib.hid (hW7.out.e i hlt).1.rd
                  have hln := Lib.hid (readF_len hOk' i)
                  clear hb7 hh7 HFl HWt HB6
                  go_wp2_with fail
                  refine (same_true _ _ _ _ _ _ _ _ _ rfl hln.out hln.out (by decide) (by decide) hr1.out hr2.out).mono ?_
                  rintro e w8 ⟨rfl, hd8⟩
                  have hF8 := Lib.hid (hF7.out.later (hd8.below _))
                  have hW8 := Lib.hid (hW7.out.later (hd8.below _))
                  have hB8 := Lib.hid (hB7.out.trans (hd8.below _))
                  have hs8 : B ≤ w8.heap.size := Nat.le_trans hs7 (hd8.below w7.heap.size).size
                  clear hF7 hW7 hB7 c0 hr1 hr2 hd8
                  go_wp2_with fail
                  first
                  | (go_roundw
                     case rel => exact ⟨i + 1, by omega, by go_num, hF8.out, hW8.out, hB8.out, hs8⟩
                     case measure => (first | omega | (simp [intOf] <;> omega) | (simp only [intOf] <;> omega)))
                  | exact ⟨⟨i + 1, by omega, by go_num, hF8.out, hW8.out, hB8.out, hs8⟩, by (first | omega | (simp [intOf] <;> omega) | (simp only [intOf] <;> omega))⟩
                  | (refine ⟨?_, by (first | omega | (simp [intOf] <;> omega) | (simp only [intOf] <;> omega))⟩
                     (repeat apply Exists.intro)
                     refine (fun a b => And.intro b a) ?_ ?_
                     · first | rfl | ((repeat refine ⟨rfl, ?_⟩); rfl)
                     exact ⟨i + 1, by omega, by go_num, hF8.out, hW8.out, hB8.out, hs8⟩)
                · obtain rfl : i = 8 := by omega
                  go_wp2_with fail
                  refine (on_any p mb N _ _ HFl.out).mono ?_
                  rintro e w' ⟨rfl, rfl⟩
                  go_wp2_with fail
                  go_ret
                  exact ⟨rfl, by rw [HBx.out]; exact HB6.out⟩
            · subst h1
              subst h2
              clear h3
              go_wp2_with fail
              refine (readf_bad p mb N _ 0 _ HFl.out (by unfold mayE; simp)).mono ?_
              rintro e w5 ⟨rfl, rfl⟩
              have HFl5 := Lib.hid HFl.out
              have HWt5 := Lib.hid HWt.out
              have HB5 := Lib.hid HB4.out
              have hs5 := hs4
              clear HFl HWt HB4
              rw [show mayE ⟨8, true, 0, done, writes, F⟩ 0 = 143 from rfl]
              go_wp2_with fail
              refine (writes_any p mb N _ _ HFl5.out).mono ?_
              rintro e w' ⟨rfl, rfl⟩
              go_wp2_with fail
              refine (power_any p mb N _ _ HFl5.out).mono ?_
              rintro e w6 ⟨rfl, hfl6, hg6⟩
              have hF6 := Lib.hid hfl6
              have hW6 := Lib.hid (HWt5.out.grownB hg6 hpw)
              have hB6 := Lib.hid (HB5.out.grown hg6 hs5 (by intro q hq; have e1 : p = q := Option.some.inj hq; omega))
              have hs6 : B ≤ w6.heap.size := Nat.le_trans hs5 hg6.size
              have hOk := Lib.hid HFo.out.b
              clear hfl6 hg6 HFl5 HWt5 HB5 HFo
              go_wp2_with fail
              go_loopw [19, 20, 21] (fun i _ _ wr => BackIn B p mb wb N ⟨8, false, 0, done, writes, F⟩ g w i wr) (fun i _ _ _ => 8 - (intOf i).toNat)
              case atStart => exact ⟨0, by omega, rfl, hF6.out, hW6.out.same rfl, hB6.out, hs6⟩
              case round =>
                clear hF6 hW6 hB6 hs6
                obtain ⟨i, hi, rfl, hfl, hwt, hB6, hs6⟩ := hrel
                have HFl := Lib.hid hfl
                have HWt := Lib.hid hwt
                have HB6 := Lib.hid hB6
                clear hfl hwt hB6
                by_cases hlt : i < 8
                · have e0 : (0 : Int) ≤ (i : Int) := by omega
                  have e1 : (i : Int) < 8 := by omega
                  have hOk' : Fl.Ok ⟨8, false, 0, done, writes, F⟩ := ⟨by simp only; omega, by simp only; omega, by simp only; omega, by simp only; omega, hOk.out⟩
                  go_wp2_with fail
                  refine (readf_ok p mb N ⟨8, false, 0, done, writes, F⟩ i _ HFl.out hOk' ⟨by omega, by omega⟩ (by unfold mayE; simp only; rw [if_neg (by decide), if_neg (by omega)])).mono ?_
                  rintro e w7 ⟨rfl, hh7, hb7⟩
                  have hF7 := Lib.hid (HFl.out.later hb7)
                  have hW7 := Lib.hid (HWt.out.later hb7)
                  have hB7 := Lib.hid (HB6.out.trans (hb7.mono hs6))
                  have hs7 : B ≤ w7.heap.size := Nat.le_trans hs6 hb7.size
                  have c0 := hW7.out.h.cell (wantC_at g 8 hlt)
                  rw [if_pos hlt] at c0
                  have hr1 := Lib.hid hh7.rd
                  have hr2 := Lib.hid (hW7.out.e i hlt).1.rd
                  have hln := Lib.hid (readF_len hOk' i)
                  clear hb7 hh7 HFl HWt HB6
                  go_wp2_with fail
                  refine (same_true _ _ _ _ _ _ _ _ _ rfl hln.out hln.out (by decide) (by decide) hr1.out hr2.out).mono ?_
                  rintro e w8 ⟨rfl, hd8⟩
                  have hF8 := Lib.hid (hF7.out.later (hd8.below _))
                  have hW8 := Lib.hid (hW7.out.later (hd8.below _))
                  have hB8 := Lib.hid (hB7.out.trans (hd8.below _))
                  have hs8 : B ≤ w8.heap.size := Nat.le_trans hs7 (hd8.below w7.heap.size).size
                  clear hF7 hW7 hB7 c0 hr1 hr2 hd8
                  go_wp2_with fail
                  first
                  | (go_roundw
                     case rel => exact ⟨i + 1, by omega, by go_num, hF8.out, hW8.out, hB8.out, hs8⟩
                     case measure => (first | omega | (simp [intOf] <;> omega) | (simp only [intOf] <;> omega)))
                  | exact ⟨⟨i + 1, by omega, by go_num, hF8.out, hW8.out, hB8.out, hs8⟩, by (first | omega | (simp [intOf] <;> omega) | (simp only [intOf] <;> omega))⟩
                  | (refine ⟨?_, by (first | omega | (simp [intOf] <;> omega) | (simp only [intOf] <;> omega))⟩
                     (repeat apply Exists.intro)
                     refine (fun a b => And.intro b a) ?_ ?_
                     · first | rfl | ((repeat refine ⟨rfl, ?_⟩); rfl)
                     exact ⟨i + 1, by omega, by go_num, hF8.out, hW8.out, hB8.out, hs8⟩)
                · obtain rfl : i = 8 := by omega
                  go_wp2_with fail
                  refine (on_any p mb N _ _ HFl.out).mono ?_
                  rintro e w' ⟨rfl, rfl⟩
                  go_wp2_with fail
                  go_ret
                  exact ⟨rfl, by rw [HBx.out]; exact HB6.out⟩
set_option maxRecDepth 100000 in
theorem walk {H : Type} (enc : TypeId × Value → H) (W : World) (base : Nat) (v0 : Value) (d0 : DataW H) (p0 : List MemPlace) (v1 : Value) (d1 : DataW H) (p1 : List MemPlace) (v2 : Value) (d2 : DataW H) (p2 : List MemPlace)
    (k0 : Value.okWide Try.prog W .any base 22 v0) (k1 : Value.okWide Try.prog W .any base 3 v1) (k2 : Value.okWide Try.prog W .any base 4 v2)
    (h0 : DataW.Trod enc Try.prog W 0 (fun _ => true) true 22 v0 d0 p0) (h1 : DataW.Trod enc Try.prog W 0 (fun _ => true) true 3 v1 d1 p1) (h2 : DataW.Trod enc Try.prog W 0 (fun _ => true) true 4 v2 d2 p2)
    (hsz : (DataW.weightsEach Try.prog [22, 3, 4] ([d0, d1, d2] ++ [])).all (· ≤ reachBytes) = true) :
    Calls Try.prog 3 #[v0, v1, v2] W fun e w' => e = .returned (.bool true) ∧ Below W.heap.size W w' := by
  simp only [DataW.weightsEach, List.cons_append, List.nil_append] at hsz
  obtain ⟨z0, hsz⟩ := all_app hsz
  obtain ⟨ao, n, cap, l, rfl, hl, hlc, hcap, hr, hc, hok⟩ := open_opfs k0 h0 z0
  obtain ⟨i, rfl, rfl, rfl, wi⟩ := open_int Try.underlying3 k1 h1
  obtain ⟨b, rfl, _⟩ := open_bool Try.underlying4 k2 h2
  simp [Lit.wf, IntKind.min, IntKind.max, IntKind.bits, IntKind.signed] at wi
  exact core W ao n cap l i b hl hlc hcap hr hok ⟨by omega, by omega⟩
end Go.Proofs.Ytdmoaighbobgaaa.flashCut
