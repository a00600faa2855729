/- Bytes read out of some blocks are those blocks' bytes: the walk. No condition. -/
import Derived.Test.YtdmoaighbobgaaaFl5
import Derived.Test.YtdmoaighbobgaaaFlSpan
import Derived.Test.YtdmoaighbobgaaaSame
import Derived.Test.YtdmoaighbobgaaaOpenT
import Derived.Deep.RegionHeld3
import Derived.Deep.DrawnRows
namespace Go.Proofs.Ytdmoaighbobgaaa.flashSpans
open Go.ChangeShapes Go.WideShapes Go.ChangeAt Go.RowKit
set_option linter.unusedVariables false
set_option linter.unusedSimpArgs false
attribute [local go_sem ↓] Go.wp_at_zero Go.wp_at_succ
/-- a flash of S blocks that is on, no cut laid in -/
def Plain (S : Int) (f : Fl) : Prop := f.size = S ∧ f.off = false ∧ f.left = 0
structure FillS (B p mb cb : Nat) (C : List Value) (S : Int) (W : World) (i : Value) (wr : World) : Prop where
  x : ∃ (j : Nat) (f : Fl), i = .int .i64 j ∧ j ≤ 140737488351232 ∧ FlA wr p mb j f ∧ f.Ok ∧ Plain S f ∧ f.writes = j ∧ HB wr cb 44 C ∧ Below B W wr ∧ B ≤ wr.heap.size
structure AllIn (B D p mb N : Nat) (f : Fl) (a m : Nat) (W : World) (v i : Value) (wr : World) : Prop where
  x : ∃ (k : Nat) (u : Value), k ≤ m ∧ i = .int .i64 k ∧ u = v ∧ Own 5 wr D u (flat f a k) ∧ FlA wr p mb N f ∧ Below B W wr ∧ D ≤ wr.heap.size
theorem own_blk {E : TypeId} {w : World} {B : Nat} {v : Value} {l : List UInt8} (h : Own E w B v l) {k : Nat} (hk : v.ownBlock = some k) : B ≤ k ∧ k < w.heap.size := by
  rcases h.cases with ⟨rfl, _⟩ | ⟨g, cap, rfl, h1, h2, _⟩
  · cases hk
  · have e : g = k := Option.some.inj hk
    omega
theorem plain_write {S : Int} {f : Fl} {k : Int} {l : List UInt8} (h : Plain S f) (ho : f.Ok) (hl : l.length = 512) :
    Plain S (writeR f k l).1 ∧ (writeR f k l).1.Ok ∧ (writeR f k l).1.writes = f.writes + 1 := by
  obtain ⟨size, off, left, done, writes, F⟩ := f
  obtain ⟨h1, h2, h3⟩ := h
  simp only at h1 h2 h3
  subst h3
  rw [writeR_zero]
  refine ⟨⟨h1, h2, rfl⟩, ⟨ho.s0, ho.s1, ho.l0, ho.l1, fun q z hz => ?_⟩, rfl⟩
  simp only [put] at hz
  split at hz
  · cases hz; exact hl
  · exact ho.b q z hz
def fS (S : Int) : Fl := ⟨S, false, 0, false, 0, fun _ => none⟩
theorem newR_S {S : Int} (h1 : 1 ≤ S) (h2 : S ≤ 1048576) : newR S [] = (some (fS S), 0) := by
  unfold newR; rw [if_neg (by omega)]; rfl
set_option maxRecDepth 100000 in
set_option maxHeartbeats 400000 in
theorem core (w : World) (blocks : Int) (ao : Option Addr) (len cap : Nat) (L : List Bk) (raw : Bool) (first nb from' size : Int) (hl : L.length = len) (hlc : len ≤ cap) (hcap : cap * 32 ≤ 140737488351232) (hr : RdS bkc 2 w ao L) (hok : ∀ o ∈ L, o.Ok w)
    (h0 : I64 blocks) (h1 : I64 first) (h2 : I64 nb) (h3 : I64 from') (h4 : I64 size) :
    Calls Try.prog 4 #[.agg #[.int .i64 blocks, .slice ao len cap, .bool raw, .int .i64 first, .int .i64 nb, .int .i64 from', .int .i64 size]] w fun e w' => e = .returned (.bool true) ∧ Below w.heap.size w w' := by
  have Hl := Lib.hid hl
  clear hl
  have Hhr := Lib.hid hr
  clear hr
  have Hhok := Lib.hid hok
  clear hok
  have Hh1 := Lib.hid h1
  clear h1
  have Hh2 := Lib.hid h2
  clear h2
  have Hh3 := Lib.hid h3
  clear h3
  have Hh4 := Lib.hid h4
  clear h4
  have Hhcap := Lib.hid hcap
  clear hcap
  go_enter Try.func4, Try.ntmps4
  go_wp2_with fail
  go_region
  generalize hW1 : World.drew _ = w1
  have hd1 : Drn ((w.alloc (.cells #[.int .i64 blocks, .slice ao len cap, .bool raw, .int .i64 first, .int .i64 nb, .int .i64 from', .int .i64 size] 46)).alloc (.cells #[.int .i64 blocks, .slice ao len cap, .bool raw] 44)) w1 := by
    rw [← hW1]; exact (Drn.refl _).drew
  have HC1 := Lib.hid ((HB.new (w.alloc (.cells #[.int .i64 blocks, .slice ao len cap, .bool raw, .int .i64 first, .int .i64 nb, .int .i64 from', .int .i64 size] 46)) [.int .i64 blocks, .slice ao len cap, .bool raw] 44).drn hd1)
  have hb1 : Below w.heap.size w w1 := (((Below.refl _ w).alloc (Nat.le_refl _) _).alloc (by simp) _).trans (hd1.below _)
  clear hd1 hW1
  obtain ⟨cb, hcb⟩ : ∃ cb, w.heap.size + 1 = cb := ⟨_, rfl⟩
  have hcs : (w.alloc (.cells #[.int .i64 blocks, .slice ao len cap, .bool raw, .int .i64 first, .int .i64 nb, .int .i64 from', .int .i64 size] 46)).heap.size = cb := by rw [← hcb]; simp
  rw [hcs] at HC1
  rw [hcb]
  obtain ⟨B, hB⟩ : ∃ B, w.heap.size = B := ⟨_, rfl⟩
  rw [hB] at hb1 hcb ⊢
  have HBx := Lib.hid hB
  have hs1 : B ≤ w1.heap.size := by rw [← hB]; exact hb1.size
  clear hB hcs
  as_aux_lemma =>
  have c0 := HC1.out.cell (i := 0) rfl
  go_wp2_with fail
  refine (pick_any blocks 40 _ h0 (by decide) (by decide)).mono ?_
  rintro e w' ⟨rfl, rfl⟩
  clear h0
  as_aux_lemma =>
  have hpk := pickN_nonneg (c := blocks) (n := 40) (by decide)
  have hpl := pickN_lt (c := blocks) (n := 40) (by decide)
  obtain ⟨S, hS⟩ : ∃ S : Nat, 1 + pickN blocks 40 = S := ⟨(1 + pickN blocks 40).toNat, by omega⟩
  have hS1 : 1 ≤ S := by omega
  have hS2 : S ≤ 40 := by omega
  have hN := fun w' => Lib.hid (new_any (S : Int) none 0 0 [] w' rfl (by decide) (fun j g h => by simp at h) (fun b h => by cases h))
  rw [show newR (S : Int) (([] : List Bk).map Bk.p) = (some (fS S), 0) from newR_S (by omega) (by omega)] at hN
  generalize pickN blocks 40 = q at *
  have e1 : IntKind.i64.wrap (1 + q) = (S : Int) := by rw [← hS]; simp [IntKind.wrap, IntKind.bits, IntKind.signed]; omega
  have Hs := Lib.hid hS
  clear c0 hS hpk hpl
  go_wp2_with fail
  refine (hN _).out.mono ?_
  rintro e w2 ⟨v, rfl, hsaid, hb2⟩
  as_aux_lemma =>
  rcases hsaid with ⟨f, p, mb, hf, rfl, hfl, hp, hmb⟩ | ⟨h, -⟩
  case inr => cases h
  obtain rfl : fS (S : Int) = f := by simpa using hf
  have Hfl2 := Lib.hid hfl
  have HC2 := Lib.hid (HC1.out.later hb2)
  have hb2' := Lib.hid (hb1.trans (hb2.mono hs1))
  have hs2 : B ≤ w2.heap.size := Nat.le_trans hs1 hb2.size
  have hpB : B ≤ p := Nat.le_trans hs1 hp
  have hmB : B ≤ mb := Nat.le_trans hs1 hmb
  have hcp : cb ≠ p := by have := HC1.out.lt; omega
  have hcm : cb ≠ mb := by have := HC1.out.lt; omega
  clear hf hfl hN hb1 hb2 hs1 hp hmb HC1 e1
  go_wp2_with fail
  refine (alive_any _).mono ?_
  rintro e w3 ⟨rfl, hb3⟩
  as_aux_lemma =>
  have Hfl3 := Lib.hid (Hfl2.out.later hb3)
  have HC3 := Lib.hid (HC2.out.later hb3)
  have HB3 := Lib.hid (hb2'.out.trans (hb3.mono hs2))
  have hs3 : B ≤ w3.heap.size := Nat.le_trans hs2 hb3.size
  clear hb2' hb3 hs2 Hfl2 HC2
  go_wp2_with fail
  refine (size_any p mb 0 _ _ Hfl3.out).mono ?_
  rintro e w' ⟨rfl, rfl⟩
  as_aux_lemma =>
  rw [show (fS (S : Int)).size = (S : Int) from rfl]
  go_wp2_with fail
  have Hhlc := Lib.hid hlc
  clear hlc
  have HhS1 := Lib.hid hS1
  clear hS1
  have HhS2 := Lib.hid hS2
  clear hS2
  have Hhcb := Lib.hid hcb
  clear hcb
  have HhpB := Lib.hid hpB
  clear hpB
  have HhmB := Lib.hid hmB
  clear hmB
  have Hhcp := Lib.hid hcp
  clear hcp
  have Hhcm := Lib.hid hcm
  clear hcm
  go_loopw [11] (FillS B p mb cb [.int .i64 blocks, .slice ao len cap, .bool raw] (S : Int) w) (fun i _ => len - (intOf i).toNat)
  case atStart => have hS1 := HhS1.out; have hS2 := HhS2.out; exact ⟨0, fS S, rfl, by decide, Hfl3.out, ⟨by simp only [fS]; omega, by simp only [fS]; omega, by simp only [fS]; omega, by simp only [fS]; omega, fun k l h => by cases h⟩, ⟨rfl, rfl, rfl⟩, rfl, HC3.out, HB3.out, hs3⟩
  case round =>
    as_aux_lemma =>
    clear Hfl3 HB3 hs3 HC3
    obtain ⟨j, f, rfl, hj, hfl, hfo, hpl, hwr, hc4, hb4, hs4⟩ := hrel
    have HFl := Lib.hid hfl
    have HFo := Lib.hid hfo
    have HPl := Lib.hid hpl
    have Hwr := Lib.hid hwr
    have HB4 := Lib.hid hb4
    have HC4 := Lib.hid hc4
    have cc := hc4.cell (i := 1) rfl
    clear hfl hfo hpl hwr hb4 hc4
    by_cases hlt : j < len
    · obtain ⟨o, hlk⟩ : ∃ o, L[j]? = some o := ⟨_, List.getElem?_eq_getElem (show j < L.length by have := Hl.out; omega)⟩
      obtain ⟨x0, off, rfl, hx0, hc⟩ := Hhr.out j o hlk
      have hoo := Lib.hid (Hhok.out o (List.mem_of_getElem? hlk))
      clear hlk
      have hcell := fun i v hi => (HB4.out.cell (p := ⟨x0, off + j * 2 + i, none⟩) (by rw [← HBx.out]; exact hx0)).trans (hc i v hi)
      have c0 := hcell 0 _ rfl
      have c1 := hcell 1 _ rfl
      simp only [Nat.add_zero] at c0
      clear hc hcell
      have e0 : (0 : Int) ≤ (j : Int) := by omega
      have e1 : (j : Int) < (len : Int) := by omega
      go_wp2_with fail
      as_aux_lemma =>
      have hd0 : Drn wr wr.drew := ⟨1, rfl⟩
      have HF5 := Lib.hid (HFl.out.drn hd0)
      have HC5 := Lib.hid (HC4.out.drn hd0)
      have HB5 := Lib.hid (HB4.out.trans (hd0.below _))
      have hs5 : B ≤ wr.drew.heap.size := hs4
      clear HFl HC4 HB4 hs4
      have Hkp : Hid (∀ w', Frm (fun b => b = p ∨ b = mb) wr.drew w' → (w'.cell? ⟨cb, 1, none⟩ = some (.slice (some ⟨x0, off, none⟩) len cap) ∧ w'.cell? ⟨x0, off + j * 2, none⟩ = some (.int .i64 o.n) ∧ w'.cell? ⟨x0, off + j * 2 + 1, none⟩ = some (.slice o.ao o.l.length o.cap))) := Lib.hid fun w' hf => by
        have hc := (HC5.out.frm hf (by rintro (h | h); exact Hhcp.out h; exact Hhcm.out h)).cell (i := 1) rfl
        have hxx : w'.heap[x0]? = wr.drew.heap[x0]? := hf.block x0 (by have := HBx.out; omega) (by have := HBx.out; have := HhpB.out; have := HhmB.out; rintro (h | h) <;> omega)
        exact ⟨hc, (World.cell?_of_block hxx).trans c0, (World.cell?_of_block hxx).trans c1⟩
      have Hk0 : Hid (0 ≤ pickN o.n S) := Lib.hid (pickN_nonneg (by have := HhS1.out; omega))
      have Hk1 : Hid (pickN o.n S < S) := Lib.hid (pickN_lt (by have := HhS1.out; omega))
      have hpk := fun w => Lib.hid (pick_any o.n (S : Int) w hoo.out.i (by have := HhS1.out; omega) (by have := HhS2.out; omega))
      obtain ⟨k, hk⟩ : ∃ k, pickN o.n S = k := ⟨_, rfl⟩
      rw [hk] at Hk0 Hk1
      have Hpk : Hid (∀ w, Calls Try.prog 9 #[.int .i64 o.n, .int .i64 (S : Int)] w fun e w' => e = .returned (.int .i64 k) ∧ w = w') := Lib.hid fun w => by rw [← hk]; exact (hpk w).out
      have Hfi : Hid (∀ w', wr.drew = w' → Calls Try.prog 11 #[.slice o.ao o.l.length o.cap] w' fun e w'' => e = .returned (.slice (some ⟨wr.drew.heap.size, 0, none⟩) 512 512) ∧ HB w'' wr.drew.heap.size 5 ((filled o.l).map bv) ∧ Below wr.drew.heap.size wr.drew w'') := Lib.hid fun w' h => by
        subst h
        exact filled_any o.ao _ o.cap o.l _ rfl (by have := hoo.out.c; have := hoo.out.m; unfold maxLen at this; omega) (hoo.out.r.below (by rw [HBx.out]; exact HB5.out))
      have Hwr5 : Hid (∀ w', HB w' wr.drew.heap.size 5 ((filled o.l).map bv) → Below wr.drew.heap.size wr.drew w' → Calls Try.prog 12 #[.pointer (some ⟨p, 0, none⟩), .int .i64 k, .slice (some ⟨wr.drew.heap.size, 0, none⟩) 512 512] w' fun e w'' => e = .returned (.int .i64 (writeR f k (filled o.l)).2) ∧
          FlA w'' p mb (j + 1) (writeR f k (filled o.l)).1 ∧ Frm (fun b => b = p ∨ b = mb) w' w'') := Lib.hid fun w' hh hb => by
        have hp := HPl.out
        refine writef_ok p mb j f k wr.drew.heap.size 0 512 (filled o.l) w' (HF5.out.later hb) HFo.out ⟨by have := Hk0.out; omega, by have := Hk1.out; have := HhS2.out; omega⟩ ?_ (filled_len _) hh.rd (Nat.le_refl _) (by omega) (by rw [Hwr.out]; omega) (by rw [Hwr.out]; omega) (by have := HF5.out.h.lt; omega)
        unfold mayE; rw [hp.2.1, hp.1, if_neg (by decide), if_neg (by have := Hk0.out; have := Hk1.out; omega)]
      clear hk hpk hoo hd0
      go_region_held3 (fun w' => w'.cell? ⟨cb, 1, none⟩ = some (.slice (some ⟨x0, off, none⟩) len cap) ∧ w'.cell? ⟨x0, off + j * 2, none⟩ = some (.int .i64 o.n) ∧ w'.cell? ⟨x0, off + j * 2 + 1, none⟩ = some (.slice o.ao o.l.length o.cap))
        (first | go_keep | exact Hkp.out _ (Frm.later Hb6.out) | exact Hkp.out _ ((Frm.later Hb6.out).trans Hb7.out))
        (first
          | (go_at_call 9
             refine (Hpk.out _).mono ?_
             rintro e w' ⟨rfl, rfl⟩)
          | (go_at_call 11
             refine (Hfi.out _ rfl).mono ?_
             rintro e w6 ⟨rfl, hh6, hb6⟩
             have Hh6 := Lib.hid hh6
             have Hb6 := Lib.hid hb6
             clear hh6 hb6)
          | (go_at_call 12
             refine (Hwr5.out _ Hh6.out Hb6.out).mono ?_
             rintro e w7 ⟨rfl, hf7, hfr7⟩
             have Hf7 := Lib.hid hf7
             have Hb7 := Lib.hid hfr7
             clear hf7 hfr7))
      as_aux_lemma =>
      obtain ⟨hp7, ho7, hw7⟩ := plain_write (k := k) HPl.out HFo.out (filled_len o.l)
      have hb7 : Below B wr.drew w7 := (Hb6.out.mono hs5).trans (Hb7.out.below (Nat.le_trans hs5 Hb6.out.size) (by have := HhpB.out; have := HhmB.out; rintro b (rfl | rfl) <;> omega))
      have HB7 := Lib.hid (HB5.out.trans hb7)
      have hs7 : B ≤ w7.heap.size := Nat.le_trans hs5 hb7.size
      have HC7 := Lib.hid ((HC5.out.later Hb6.out).frm Hb7.out (by rintro (h | h); exact Hhcp.out h; exact Hhcm.out h))
      have Hp7 := Lib.hid hp7
      have Ho7 := Lib.hid ho7
      have Hw7 : Hid ((writeR f k (filled o.l)).1.writes = ((j + 1 : Nat) : Int)) := Lib.hid (by rw [hw7, Hwr.out]; rfl)
      have hj2 : j + 1 ≤ 140737488351232 := by have := Hhlc.out; have := Hhcap.out; omega
      clear hp7 ho7 hw7 hb7 Hkp Hpk Hfi Hwr5 HF5 HC5 HB5 Hh6 Hb6 Hb7 c0 c1 cc
      generalize (writeR f k (filled o.l)).1 = f' at *
      go_wp2_with fail
      first
      | (go_roundw
         case rel => exact ⟨j + 1, f', by go_num, hj2, Hf7.out, Ho7.out, Hp7.out, Hw7.out, HC7.out, HB7.out, hs7⟩
         case measure => (first | omega | (simp [intOf] <;> omega) | (simp only [intOf] <;> omega)))
      | exact ⟨⟨j + 1, f', by go_num, hj2, Hf7.out, Ho7.out, Hp7.out, Hw7.out, HC7.out, HB7.out, hs7⟩, by (first | omega | (simp [intOf] <;> omega) | (simp only [intOf] <;> omega))⟩
      | (refine ⟨?_, by (first | omega | (simp [intOf] <;> omega) | (simp only [intOf] <;> omega))⟩
         (repeat apply Exists.intro)
         refine (fun a b => And.intro b a) ?_ ?_
         · first | rfl | ((repeat refine ⟨rfl, ?_⟩); rfl)
         exact ⟨j + 1, f', by go_num, hj2, Hf7.out, Ho7.out, Hp7.out, Hw7.out, HC7.out, HB7.out, hs7⟩)
    · have e1 : ¬ ((j : Int) < (len : Int)) := by omega
      have hoff := HPl.out.2.1
      have hsz := HPl.out.1
      have Hoff := Lib.hid hoff
      have Hsz := Lib.hid hsz
      have HBj := Lib.hid HB4
      clear hoff hsz hlt hj HC4
      go_wp2_with fail
      as_aux_lemma =>
      clear cc
      have q1 := HhS1.out
      have q2 := HhS2.out
      refine (pick_any first (S : Int) _ Hh1.out (by omega) (by omega)).mono ?_
      rintro e w' ⟨rfl, rfl⟩
      have b0 : 0 ≤ pickN first S := pickN_nonneg (by omega)
      have b1 : pickN first S < S := pickN_lt (by omega)
      obtain ⟨a, ha⟩ : ∃ a : Nat, pickN first S = a := ⟨(pickN first S).toNat, by omega⟩
      rw [ha] at b0 b1 ⊢
      clear ha
      obtain ⟨d, hd⟩ : ∃ d : Nat, (S : Int) - (a : Int) = d := ⟨S - a, by omega⟩
      have e2 : IntKind.i64.wrap ((S : Int) - (a : Int)) = (d : Int) := by rw [hd]; simp [IntKind.wrap, IntKind.bits, IntKind.signed]; omega
      have hd1 : 1 ≤ d := by omega
      have hd2 : a + d ≤ 40 := by omega
      have Had : Hid (a + d = S) := Lib.hid (by omega)
      clear b0 b1 q1 q2
      go_wp2_with fail
      refine (pick_any nb (d : Int) _ Hh2.out (by omega) (by omega)).mono ?_
      rintro e w' ⟨rfl, rfl⟩
      have b0 : 0 ≤ pickN nb d := pickN_nonneg (by omega)
      have b1 : pickN nb d < d := pickN_lt (by omega)
      obtain ⟨m0, hm0⟩ : ∃ m : Nat, pickN nb d = m := ⟨(pickN nb d).toNat, by omega⟩
      rw [hm0] at b0 b1 ⊢
      clear hm0 e2 hd
      obtain ⟨m, hm⟩ : ∃ m : Nat, m0 + 1 = m := ⟨_, rfl⟩
      have hm1 : 1 ≤ m := by omega
      have hm2 : m ≤ d := by omega
      have e3 : IntKind.i64.wrap ((m0 : Int) + 1) = (m : Int) := by rw [← hm]; simp [IntKind.wrap, IntKind.bits, IntKind.signed]; omega
      obtain ⟨M, hM⟩ : ∃ M : Nat, m * 512 = M := ⟨_, rfl⟩
      have hM2 : M ≤ 20480 := by omega
      have e4 : IntKind.i64.wrap ((m : Int) * 512) = (M : Int) := by rw [← hM]; simp [IntKind.wrap, IntKind.bits, IntKind.signed]; omega
      have e5 : IntKind.i64.wrap ((M : Int) + 1) = ((M + 1 : Nat) : Int) := by simp [IntKind.wrap, IntKind.bits, IntKind.signed]; omega
      have HM := Lib.hid hM
      clear b0 b1 hm hM
      obtain ⟨M1, hM1⟩ : ∃ M1 : Nat, M + 1 = M1 := ⟨_, rfl⟩
      rw [hM1] at e5
      go_wp2_with fail
      refine (pick_any from' (M1 : Int) _ Hh3.out (by omega) (by omega)).mono ?_
      rintro e w' ⟨rfl, rfl⟩
      have b0 : 0 ≤ pickN from' M1 := pickN_nonneg (by omega)
      have b1 : pickN from' M1 < M1 := pickN_lt (by omega)
      obtain ⟨x, hx⟩ : ∃ x : Nat, pickN from' M1 = x := ⟨(pickN from' M1).toNat, by omega⟩
      rw [hx] at b0 b1 ⊢
      clear hx e3 e5
      obtain ⟨r, hr⟩ : ∃ r : Nat, M - x = r := ⟨_, rfl⟩
      have hxr : x + r = M := by omega
      have e6 : IntKind.i64.wrap ((M : Int) - (x : Int)) = (r : Int) := by simp [IntKind.wrap, IntKind.bits, IntKind.signed]; omega
      obtain ⟨r1, hr1⟩ : ∃ r1 : Nat, r + 1 = r1 := ⟨_, rfl⟩
      have e7 : IntKind.i64.wrap ((r : Int) + 1) = (r1 : Int) := by rw [← hr1]; simp [IntKind.wrap, IntKind.bits, IntKind.signed]; omega
      have Hxr := Lib.hid hxr
      have Hr1 := Lib.hid hr1
      clear b0 b1 hM1 hr hxr
      go_wp2_with fail
      refine (pick_any size (r1 : Int) _ Hh4.out (by have := Hr1.out; omega) (by have := Hr1.out; have := Hxr.out; omega)).mono ?_
      rintro e w' ⟨rfl, rfl⟩
      have b0 : 0 ≤ pickN size r1 := pickN_nonneg (by have := Hr1.out; omega)
      have b1 : pickN size r1 < r1 := pickN_lt (by have := Hr1.out; omega)
      obtain ⟨y, hy⟩ : ∃ y : Nat, pickN size r1 = y := ⟨(pickN size r1).toNat, by omega⟩
      rw [hy] at b0 b1 ⊢
      have Hy : Hid (y ≤ r) := Lib.hid (by have := Hr1.out; omega)
      clear hy b0 b1 e4 hr1
      go_wp2_with fail
      as_aux_lemma =>
      have hfl := HFl.out
      have Hpl : Hid (p < wr.heap.size) := Lib.hid hfl.h.lt
      have Hml : Hid (mb < wr.heap.size) := Lib.hid hfl.m.lt
      obtain ⟨D, hD⟩ : ∃ D, wr.heap.size = D := ⟨_, rfl⟩
      rw [hD] at Hpl Hml hs4
      have HsD : Hid (D ≤ wr.heap.size) := Lib.hid (by omega)
      have HBD := Lib.hid hs4
      clear hfl hD hs4
      go_loopw [16, 17, 18, 19] (fun v i _ _ wr => AllIn B D p mb j f a m w v i wr) (fun _ i _ _ _ => m - (intOf i).toNat)
      case atStart => exact ⟨0, _, by omega, rfl, rfl, Own.nil _ _ _, HFl.out, HBj.out.out, HsD.out⟩
      case round =>
        as_aux_lemma =>
        clear HFl HB4 HBj HsD
        obtain ⟨k, v, hk, rfl, rfl, hown, hfl, hb5, hs5⟩ := hrel
        have HOwn := Lib.hid hown
        have HFl := Lib.hid hfl
        have HB5 := Lib.hid hb5
        have HS5 := Lib.hid hs5
        clear hown hfl hb5 hs5
        by_cases hlt : k < m
        · have l0 : (k : Int) < (m : Int) := by omega
          obtain ⟨K, hK⟩ : ∃ K : Nat, a + k = K := ⟨_, rfl⟩
          have e8 : IntKind.i64.wrap ((a : Int) + (k : Int)) = (K : Int) := by rw [← hK]; simp [IntKind.wrap, IntKind.bits, IntKind.signed]; omega
          have hK1 : K < S := by have := Had.out; omega
          have hrd := Lib.hid (readf_ok p mb j f (K : Int) wr HFl.out HFo.out ⟨by omega, by omega⟩ (by unfold mayE; rw [Hoff.out, Hsz.out, if_neg (by decide), if_neg (by omega)]))
          have HK := Lib.hid hK
          clear hK
          go_wp2_with fail
          refine hrd.out.mono ?_
          rintro e w6 ⟨rfl, hh6, hb6⟩
          have HO6 := Lib.hid (HOwn.out.later hb6)
          have HF6 := Lib.hid (HFl.out.later hb6)
          have HB6 := Lib.hid (HB5.out.trans (hb6.mono (Nat.le_trans HBD.out HS5.out)))
          have HS6 : Hid (D ≤ w6.heap.size) := Lib.hid (Nat.le_trans HS5.out hb6.size)
          have Hrd6 := Lib.hid hh6.rd
          have Hln := Lib.hid (readF_len HFo.out (K : Int))
          have Hfln := Lib.hid (flat_len HFo.out a k)
          have hbl := hb6.size
          clear hrd hh6 hb6 HOwn HFl HB5
          go_wp2_with (at_builtin; refine wpList_append_bytes byteRow rfl _ _ rfl D v _ rfl HO6.out (some ⟨wr.heap.size, 0, none⟩) 512 512 _ rfl (fun h => by cases h) Hln.out Hrd6.out (by rw [Hfln.out]; omega) HS6.out ?_)
          intro v7 w7 ho7 hg7
          have hob := Lib.hid (fun q (hq : v.ownBlock = some q) => own_blk HO6.out hq)
          have HO7 : Hid (Own 5 w7 D v7 (flat f a (k + 1))) := Lib.hid (by rw [flat, HK.out]; exact ho7)
          have HF7 := Lib.hid (HF6.out.grown hg7 (fun e => by have := hob.out p e.symm; have := Hpl.out; omega) (fun e => by have := hob.out mb e.symm; have := Hml.out; omega))
          have HB7 := Lib.hid (HB6.out.grown hg7 (Nat.le_trans HBD.out HS6.out) (fun q hq => Nat.le_trans HBD.out (hob.out q hq).1))
          have HS7 : Hid (D ≤ w7.heap.size) := Lib.hid (Nat.le_trans HS6.out hg7.size)
          clear ho7 hg7 HO6 HF6 HB6 HS6
          go_wp2_with fail
          first
          | (go_roundw
             case rel => exact ⟨k + 1, _, by omega, by go_num, rfl, HO7.out, HF7.out, HB7.out, HS7.out⟩
             case measure => (first | omega | (simp [intOf] <;> omega) | (simp only [intOf] <;> omega)))
          | exact ⟨⟨k + 1, _, by omega, by go_num, rfl, HO7.out, HF7.out, HB7.out, HS7.out⟩, by (first | omega | (simp [intOf] <;> omega) | (simp only [intOf] <;> omega))⟩
          | (refine ⟨?_, by (first | omega | (simp [intOf] <;> omega) | (simp only [intOf] <;> omega))⟩
             (repeat apply Exists.intro)
             refine (fun a b => And.intro b a) ?_ ?_
             · first | rfl | ((repeat refine ⟨rfl, ?_⟩); rfl)
             exact ⟨k + 1, _, by omega, by go_num, rfl, HO7.out, HF7.out, HB7.out, HS7.out⟩)
        · have l0 : ¬ ((k : Int) < (m : Int)) := by omega
          obtain rfl : k = m := by omega
          as_aux_lemma =>
          obtain ⟨ao, C, rfl, hlC, hCm, hrd⟩ := HOwn.out.rd
          have hfln : (flat f a k).length = M := (flat_len HFo.out a k).trans HM.out
          have Hfln := Lib.hid hfln
          have Hrd := Lib.hid hrd
          have HlC := Lib.hid hlC
          have HCm := Lib.hid hCm
          rw [hfln] at HlC ⊢
          clear hfln hrd hlC hCm
          have u1 : IntKind.u64.wrap (x : Int) = (x : Int) := IntWalk.u64_in _ (by have := Hxr.out; omega)
          have u2 : IntKind.u64.wrap (y : Int) = (y : Int) := IntWalk.u64_in _ (by have := Hy.out; have := Hxr.out; omega)
          have u3 : IntKind.u64.wrap (r1 : Int) = (r1 : Int) := IntWalk.u64_in _ (by have := Hr1.out; have := Hxr.out; omega)
          have Hsp := Lib.hid (span_ok p mb j f a k x y wr HFl.out HFo.out Hoff.out (by rw [Hsz.out]; have := Had.out; omega) (by rw [HM.out]; have := Hxr.out; omega) (by rw [HM.out]; have := Hxr.out; have := Hy.out; omega) (by have := Hxr.out; have := Hy.out; omega))
          have Hsl := Lib.hid (fun w' (hf : FlA w' p mb j f) => span_long p mb j f a k x r1 w' hf HFo.out Hoff.out (by rw [Hsz.out]; have := Had.out; omega) (by rw [HM.out]; have := Hxr.out; omega) (by rw [HM.out]; have := Hxr.out; have := Hr1.out; omega))
          obtain ⟨E, hE⟩ : ∃ E : Nat, x + y = E := ⟨_, rfl⟩
          obtain ⟨bo, hsl, -, hslr⟩ := slice_bytes (byteRow) ao M C x E (by omega) (by have := Hxr.out; have := Hy.out; have := HlC.out; omega) .i64 .i64
          have e9 : IntKind.i64.wrap ((x : Int) + (y : Int)) = (E : Int) := by have := Hxr.out; have := Hy.out; simp [IntKind.wrap, IntKind.bits, IntKind.signed]; omega
          have ex : E - x = y := by omega
          rw [ex] at hsl hslr
          have Hslr := Lib.hid hslr
          have HE := Lib.hid hE
          clear hslr ex hE
          go_wp2_with fail
          refine Hsp.out.mono ?_
          rintro e w6 ⟨rfl, ho6, hb6⟩
          have HF6 := Lib.hid (HFl.out.later hb6)
          have HO6 := Lib.hid (HOwn.out.later hb6)
          have HB6 := Lib.hid (HB5.out.trans (hb6.mono (Nat.le_trans HBD.out HS5.out)))
          have Ho6 := Lib.hid ho6
          clear ho6 hb6 HFl HOwn HB5 Hsp
          go_wp2_with fail
          refine (Hsl.out _ HF6.out).mono ?_
          rintro e w' ⟨rfl, rfl⟩
          go_wp2_with fail
          obtain ⟨ao6, C6, he6, hlC6, hCm6, hrd6⟩ := HO6.out.rd
          cases he6
          obtain ⟨hl7s, -, -, -, -, hcl7, -⟩ := Ho6.out.at
          have hrd7 : Rd w6 (some ⟨wr.heap.size, 0, none⟩) (((flat f a k).drop x).take y) := fun i hi => ⟨wr.heap.size, 0, rfl, by rw [Nat.zero_add]; exact hcl7 i (by omega)⟩
          have hl7 := hl7s.symm
          refine (same_true _ _ _ _ _ _ _ _ _ rfl hl7 hl7 (by have := Hxr.out; have := Hy.out; omega) (by have := Hxr.out; have := Hy.out; omega) hrd7 (Hslr.out _ _ hrd6 Hfln.out (by have := HE.out; have := Hxr.out; have := Hy.out; omega))).mono ?_
          rintro e w7 ⟨rfl, hd7⟩
          clear hl7 hl7s hcl7 hrd7 hrd6 hlC6 hCm6 hsl u1 u2 u3 e9 e6 e7 Hsl Hslr Ho6
          go_wp2_with fail
          go_ret
          exact ⟨rfl, by rw [HBx.out]; exact HB6.out.trans (hd7.below _)⟩
set_option maxRecDepth 100000 in
theorem walk {H : Type} (enc : TypeId × Value → H) (W : World) (base : Nat) (v0 : Value) (d0 : DataW H) (p0 : List MemPlace)
    (k0 : Value.okWide Try.prog W .any base 46 v0)
    (h0 : DataW.Trod enc Try.prog W 0 (fun _ => true) true 46 v0 d0 p0)
    (hsz : (DataW.weightsEach Try.prog [46] ([d0] ++ [])).all (· ≤ reachBytes) = true) :
    Calls Try.prog 4 #[v0] W fun e w' => e = .returned (.bool true) ∧ Below W.heap.size W w' := by
  obtain ⟨cs_, xs_, n_, rfl, hsz_, rfl, hxl_, hf_⟩ := open_struct Try.underlying46 k0 h0
  obtain ⟨ls_⟩ := cs_
  obtain ⟨c0, c1, c2, c3, c4, c5, c6, rfl⟩ := lst7 (hsz_.trans (by kernel_rfl : Try.prog.cellsOf 46 = 7))
  obtain ⟨y0, y1, y2, y3, y4, rfl⟩ := lst5 (hxl_.trans rfl)
  have k1 : Try.prog.cellsOf 3 = 1 := by kernel_rfl
  have k2 : Try.prog.cellsOf 44 = 3 := by kernel_rfl
  have g0 := hf_ 0 _ rfl
  have g1 := hf_ 1 _ rfl
  have g2 := hf_ 2 _ rfl
  have g3 := hf_ 3 _ rfl
  have g4 := hf_ 4 _ rfl
  simp [k1, k2] at g0 g1 g2 g3 g4
  simp only [DataW.weights, Try.underlying46, List.map_cons, List.map_nil, DataW.weightsEach] at hsz
  obtain ⟨hz0, _⟩ := all_app hsz
  obtain ⟨hz0, _⟩ := all_app hz0
  obtain ⟨q1, rfl, a1, b1⟩ := trod_i64 Try.underlying3 g1
  obtain ⟨q2, rfl, a2, b2⟩ := trod_i64 Try.underlying3 g2
  obtain ⟨q3, rfl, a3, b3⟩ := trod_i64 Try.underlying3 g3
  obtain ⟨q4, rfl, a4, b4⟩ := trod_i64 Try.underlying3 g4
  obtain ⟨blocks, ao, len, cap, L, raw, hcs, hi, hl, hlc, hcap, hr, -, hok⟩ := content_cells g0 rfl hz0
  simp only [List.cons.injEq, and_true] at hcs
  obtain ⟨rfl, rfl, rfl⟩ := hcs
  exact core W blocks ao len cap L raw q1 q2 q3 q4 hl hlc hcap hr hok hi ⟨a1, b1⟩ ⟨a2, b2⟩ ⟨a3, b3⟩ ⟨a4, b4⟩
end Go.Proofs.Ytdmoaighbobgaaa.flashSpans
