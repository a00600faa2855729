/- The handoff of some bytes: memmap.Decode. No condition. -/
import Derived.Test.YthhodibfbfmijaaHandE
import Derived.Test.YthhodibfbfmijaaHB
import Derived.Laws.Cover3
import Derived.Deep.RegionHeld3
import Derived.Deep.RegionWith
import Derived.Deep.DrawnRows
set_option linter.unusedVariables false
set_option linter.unusedSimpArgs false
namespace Go.Proofs.Ythhodibfbfmijaa
open Go.RowKit
theorem byteRow22s : ByteRow Try.prog 46 5 := ⟨Try.underlying46, by kernel_rfl⟩
/-- b[f:] of bytes -/
theorem slice_from (b o n cap f : Nat) (h1 : f ≤ n) (h2 : n < cap ∨ f < n) (h3 : n ≤ cap) (kl : IntKind) (w : World) :
    (Instr.slice 46 (.slice (some ⟨b, o, none⟩) n cap) (some (.int kl (f : Int))) none none).run Try.prog w = .ok (.slice (some ⟨b, o + f, none⟩) (n - f) (cap - f)) w := by
  obtain ⟨i, hi, hz0, hz1, hz2⟩ := info_parts byteRow22s.info
  have he : Try.prog.elem 46 = 5 := by kernel_rfl
  rw [run_slice_l (P := Try.prog) w 46 (some ⟨b, o, none⟩) n cap (by rw [he]; exact Try.underlying46) kl (f : Int) (by omega) (by omega)]
  have hs : (sizeOf (Try.prog.elem 46)).run Try.prog w = .ok 1 w := by rw [he]; simp [sizeOf, typeInfo, hi, hz1]
  rw [hs]
  have hne : ¬ cap = f := by omega
  simp [Result.andThen, sliced, hne]
  unfold Addr.add
  by_cases h0 : f = 0
  · subst h0; simp
  · simp [h0]
/-- the six numbers, of which the first k bytes are told -/
def l6 (b : List UInt8) (k : Nat) : List Value := (List.range 6).map fun q => .int .u64 (numP b k q)
theorem l6_get {b : List UInt8} {k q : Nat} (h : q < 6) : (l6 b k)[q]? = some (.int .u64 (numP b k q)) := by
  unfold l6; rw [List.getElem?_map, List.getElem?_range h]; rfl
theorem l6_len (b : List UInt8) (k : Nat) : (l6 b k).length = 6 := by simp [l6]
theorem l6_zero (b : List UInt8) : l6 b 0 = [.int .u64 0, .int .u64 0, .int .u64 0, .int .u64 0, .int .u64 0, .int .u64 0] := by
  unfold l6; simp [numP_zero]; rfl
theorem l6_set {b : List UInt8} {k : Nat} (h : k < 48) : (l6 b k).set (k / 8) (.int .u64 (numP b (k + 1) (k / 8))) = l6 b (k + 1) := by
  apply List.ext_getElem?
  intro q
  rw [List.getElem?_set]
  by_cases hq : k / 8 = q
  · subst hq
    rw [if_pos rfl, if_pos (by rw [l6_len]; omega), l6_get (by omega)]
  · rw [if_neg hq]
    by_cases h6 : q < 6
    · rw [l6_get h6, l6_get h6, numP_other (fun e => hq e.symm)]
    · rw [List.getElem?_eq_none (by rw [l6_len]; omega), List.getElem?_eq_none (by rw [l6_len]; omega)]
theorem l6_full (b : List UInt8) : l6 b 48 = [.int .u64 (getN b 2 8 false), .int .u64 (getN b 10 8 false), .int .u64 (getN b 18 8 false), .int .u64 (getN b 26 8 false), .int .u64 (getN b 34 8 false), .int .u64 (getN b 42 8 false)] := by
  have h := fun q (hq : q < 6) => numP_full (b := b) hq
  unfold l6
  simp only [List.range, List.range.loop, List.map_cons, List.map_nil]
  rw [h 0 (by omega), h 1 (by omega), h 2 (by omega), h 3 (by omega), h 4 (by omega), h 5 (by omega)]
def decE (b : List UInt8) : Int := if (decR b).2 then 0 else 226
structure DcIn (b : List UInt8) (R L : Nat) (W : World) (i : Value) (wr : World) : Prop where
  x : ∃ k : Nat, k ≤ 48 ∧ i = .int .i64 (k : Nat) ∧ HB wr L 68 (l6 b k) ∧ HB wr R 45 [.int .i64 0, .int .u64 0, .int .u64 0, .bool false, .int .u64 0, .int .u64 0, .int .u64 0, .int .u64 0] ∧ Below R W wr
def buildHo (ps : Array (Nat × Value)) : Sem Value := Instr.build 45 ps
theorem build_ho (ps : Array (Nat × Value)) : Instr.build 45 ps = buildHo ps := rfl
theorem run_buildHo (c : Int) (s : Bool) (x1 x2 x3 x4 x5 x6 : Nat) (w : World) : (buildHo #[(0, .int .i64 c), (3, .bool s), (1, .int .u64 x1), (2, .int .u64 x2), (4, .agg #[.int .u64 x3, .int .u64 x4, .int .u64 x5, .int .u64 x6])]).run Try.prog w = .ok (.agg #[.int .i64 c, .int .u64 x1, .int .u64 x2, .bool s, .int .u64 x3, .int .u64 x4, .int .u64 x5, .int .u64 x6]) w := by kernel_rfl
theorem run_buildHz (w : World) : (buildHo #[]).run Try.prog w = .ok (.agg #[.int .i64 0, .int .u64 0, .int .u64 0, .bool false, .int .u64 0, .int .u64 0, .int .u64 0, .int .u64 0]) w := by kernel_rfl
attribute [local go_sem ↓] build_ho
attribute [local go_sem] run_buildHo run_buildHz
attribute [local go_sem ↓] Go.wp_at_zero Go.wp_at_succ
theorem hoInfo : (Try.prog.info? 45).map (·.size) = some 8 := by kernel_rfl
theorem grown_row (w : World) (g : Nat) (cs : Array Value) : w.grownBy (w.setRow g cs) (some g) := ⟨rfl, rfl, rfl, by simp [World.setRow], fun k hk hne => setRow_other w g k cs (fun e => hne (by rw [e]))⟩
set_option maxHeartbeats 1000000 in
theorem hdec_any (ao : Option Addr) (n cap : Nat) (b : List UInt8) (w : World) (hl : b.length = n) (hcap : n ≤ cap) (hn : n ≤ 140737488355328) (hr : Rd w ao b) :
    Calls Try.prog 21 #[.slice ao n cap] w fun e w' => e = .returned (.tuple #[hov (decR b).1, .int .i64 (decE b)]) ∧ Below w.heap.size w w' := by
  have HB0 : ∀ o1, Hid (Below w.heap.size w (w.alloc o1)) := fun o1 => Lib.hid ((Below.refl _ w).alloc (Nat.le_refl _) o1)
  by_cases h50 : n = 50
  · subst h50
    obtain ⟨bb, off, rfl, -⟩ := hr 0 (by omega)
    have hc : ∀ j, j < 50 → w.cell? ⟨bb, off + j, none⟩ = some (.int .u8 ((b[j]?.getD 0).toNat)) := fun j hj => by
      obtain ⟨b', o', e, h⟩ := hr j (by omega)
      cases e; exact h
    have hc1 := fun o => cell_later (HB0 o).out (hc 1 (by omega))
    by_cases h1 : (b[1]?.getD 0).toNat ≤ 1
    · have hmay := fun w => hmay_any (rawR b) w (rawR_ok b).base
      have Hmay := fun w => Lib.hid (hmay w)
      have H1 := Lib.hid h1
      have Hl := Lib.hid hl
      have Hc := Lib.hid hc
      have Hst := Lib.hid (fun k (hk : k < 48) => numP_step (b := b) hl hk)
      have hsl := fun w => slice_from bb off 50 cap 2 (by omega) (by omega) (by omega) .i64 w
      have f1 : ((b[1]?.getD 0).toNat : Int) ≤ 1 := by omega
      clear hmay hr h1 hl hc
      go_enter Try.func21, Try.ntmps21
      go_wp2_with fail
      as_aux_lemma =>
      have HR0 := HB.new w [.int .i64 0, .int .u64 0, .int .u64 0, .bool false, .int .u64 0, .int .u64 0, .int .u64 0, .int .u64 0] 45
      have HLr := HR0.alloc (.cells (l6 b 0).toArray 68)
      have HL0 := HB.new (w.alloc (.cells #[.int .i64 0, .int .u64 0, .int .u64 0, .bool false, .int .u64 0, .int .u64 0, .int .u64 0, .int .u64 0] 45)) (l6 b 0) 68
      have HB2 := (HB0 (.cells #[.int .i64 0, .int .u64 0, .int .u64 0, .bool false, .int .u64 0, .int .u64 0, .int .u64 0, .int .u64 0] 45)).out.alloc (by simp) (.cells (l6 b 0).toArray 68)
      rw [show (w.alloc (.cells #[.int .i64 0, .int .u64 0, .int .u64 0, .bool false, .int .u64 0, .int .u64 0, .int .u64 0, .int .u64 0] 45)).heap.size = w.heap.size + 1 by simp] at HL0
      rw [l6_zero] at HLr HB2
      have HL1 : HB ((w.alloc (.cells #[.int .i64 0, .int .u64 0, .int .u64 0, .bool false, .int .u64 0, .int .u64 0, .int .u64 0, .int .u64 0] 45)).alloc (.cells #[.int .u64 0, .int .u64 0, .int .u64 0, .int .u64 0, .int .u64 0, .int .u64 0] 68)) (w.heap.size + 1) 68 (l6 b 0) := by
        rw [l6_zero] at HL0 ⊢; exact HL0
      have Hr2 := Lib.hid HLr
      have Hl2 := Lib.hid HL1
      have Hb2 := Lib.hid HB2
      clear HR0 HLr HL0 HB2 HL1 HB0 hc1
      obtain ⟨R, hR⟩ : ∃ R, w.heap.size = R := ⟨_, rfl⟩
      obtain ⟨L, hL⟩ : ∃ L, R + 1 = L := ⟨_, rfl⟩
      rw [hR, hL] at Hl2
      rw [hR] at Hr2 Hb2
      rw [hR, hL]
      have HRx := Lib.hid hR
      have HRL : Hid (R < L) := Lib.hid (by omega)
      clear hR hL
      change Code.wp _ _ _ _ ((w.alloc (.cells #[.int .i64 0, .int .u64 0, .int .u64 0, .bool false, .int .u64 0, .int .u64 0, .int .u64 0, .int .u64 0] 45)).alloc (.cells #[.int .u64 0, .int .u64 0, .int .u64 0, .int .u64 0, .int .u64 0, .int .u64 0] 68))
      have Hc' := Lib.hid (fun (wx : World) (h : Below R w wx) j hj => cell_later (wx := wx) (by rw [HRx.out]; exact h) (Hc.out j hj))
      generalize (w.alloc (.cells #[.int .i64 0, .int .u64 0, .int .u64 0, .bool false, .int .u64 0, .int .u64 0, .int .u64 0, .int .u64 0] 45)).alloc (.cells #[.int .u64 0, .int .u64 0, .int .u64 0, .int .u64 0, .int .u64 0, .int .u64 0] 68) = w2 at *
      clear Hc hsl
      go_loopw [5, 6, 21] (fun _ _ i wr => DcIn b R L w i wr) (fun _ _ i _ => 48 - (intOf i).toNat)
      case atStart => exact ⟨0, by omega, rfl, Hl2.out, Hr2.out, Hb2.out⟩
      case round =>
        as_aux_lemma =>
        clear Hl2 Hr2 Hb2
        obtain ⟨k, hk, rfl, hL, hR, hB⟩ := hrel
        have HL := Lib.hid hL
        have HR := Lib.hid hR
        have HBx := Lib.hid hB
        clear hL hR hB
        by_cases hlt : k < 48
        · have hst := Hst.out k hlt
          have hq6 : k / 8 < 6 := by omega
          have hget := l6_get (b := b) (k := k) hq6
          have hset := l6_set (b := b) hlt
          have r1 : (k : Int).tdiv 8 = ((k / 8 : Nat) : Int) := by rw [Int.tdiv_eq_ediv_of_nonneg (by omega)]; rfl
          have r2 : (k : Int).tmod 8 = ((k % 8 : Nat) : Int) := by rw [Int.tmod_eq_emod_of_nonneg (by omega)]; rfl
          have r3 : (k : Int) / 8 = ((k / 8 : Nat) : Int) := rfl
          have r4 : (k : Int) % 8 = ((k % 8 : Nat) : Int) := rfl
          have hm8 : k % 8 < 8 := Nat.mod_lt _ (by decide)
          generalize numP b k (k / 8) = P0 at *
          generalize numP b (k + 1) (k / 8) = P1 at *
          generalize (k / 8) = q at *
          generalize (k % 8) = m at *
          have hcb := Hc'.out wr HBx.out (2 + k) (by omega)
          rw [← Nat.add_assoc] at hcb
          generalize b[2 + k]?.getD 0 = c at *
          have hcell := HL.out.cell hget
          have hfz := HL.out.frozen q
          have hcelld := fun x => (HL.out.drn (⟨x, rfl⟩ : Drn wr (wr.drewN x))).cell hget
          have hfzd := fun x => (HL.out.drn (⟨x, rfl⟩ : Drn wr (wr.drewN x))).frozen q
          have HLs := Lib.hid (HL.out.set q (.int .u64 P1))
          have Hset := Lib.hid hset
          have q1 : (q : Int) < 6 := by omega
          have q2 : (m : Int) < 8 := by omega
          have q3 : (k : Int) < 48 := by omega
          have q4 : IntKind.i64.wrap (8 * (m : Int)) = 8 * (m : Int) := IntWalk.i64_in _ (by omega)
          have q5 : IntKind.i64.wrap (q : Int) = (q : Int) := IntWalk.i64_in _ (by omega)
          clear hget hset hq6 hm8
          go_wp2_with fail
          go_region
          have HL3 : Hid (HB (wr.setCell ⟨L, q, none⟩ (.int .u64 P1)).drew L 68 (l6 b (k + 1))) := Lib.hid (by rw [← Hset.out]; exact HLs.out.drn (Drn.refl _).drew)
          have HR3 := Lib.hid ((HR.out.other ⟨L, q, none⟩ (.int .u64 P1) (by have := HRL.out; show R ≠ L; omega)).drn (Drn.refl _).drew)
          have HB3 := Lib.hid ((HBx.out.grown (grown_set wr ⟨L, q, none⟩ (.int .u64 P1)) (by rw [← HRx.out]; exact HBx.out.size) (fun x hx => by have e : L = x := Option.some.inj hx; have := HRL.out; omega)).drew)
          clear HLs HL HR HBx hst hcell hfz hcelld hfzd hcb r1 r2 r3 r4 q1 q2 q4 q5
          generalize (wr.setCell ⟨L, q, none⟩ (.int .u64 P1)).drew = w5 at *
          go_wp2_with fail
          first
          | (go_roundw
             case rel => exact ⟨k + 1, by omega, by go_num, HL3.out, HR3.out, HB3.out⟩
             case measure => (first | omega | (simp [intOf] <;> omega) | (simp only [intOf] <;> omega)))
          | exact ⟨⟨k + 1, by omega, by go_num, HL3.out, HR3.out, HB3.out⟩, by (first | omega | (simp [intOf] <;> omega) | (simp only [intOf] <;> omega))⟩
          | (refine ⟨?_, by (first | omega | (simp [intOf] <;> omega) | (simp only [intOf] <;> omega))⟩
             (repeat apply Exists.intro)
             refine (fun a b => And.intro b a) ?_ ?_
             · first | rfl | ((repeat refine ⟨rfl, ?_⟩); rfl)
             exact ⟨k + 1, by omega, by go_num, HL3.out, HR3.out, HB3.out⟩)
        · obtain rfl : k = 48 := by omega
          have hraw : Hid (rawR b = ⟨((b[0]?.getD 0).toNat : Nat), getN b 2 8 false, getN b 10 8 false, decide ((b[1]?.getD 0).toNat = 1), getN b 18 8 false, getN b 26 8 false, getN b 34 8 false, getN b 42 8 false⟩) := Lib.hid rfl
          have HL5 := HL.out
          rw [l6_full b] at HL5
          clear HL
          have hb0 := Hc'.out wr HBx.out 0 (by omega)
          have hb1 := Hc'.out wr HBx.out 1 (by omega)
          rw [Nat.add_zero] at hb0
          obtain ⟨sb, hsb⟩ : ∃ sb : Bool, decide (((b[1]?.getD 0) : UInt8).toNat = 1) = sb := ⟨_, rfl⟩
          have hsb2 : (((b[1]?.getD 0).toNat : Int) == 1) = sb := by rw [← hsb, Bool.eq_iff_iff, decide_eq_true_iff, beq_iff_eq]; omega
          rw [hsb] at hraw
          generalize getN b 2 8 false = x1 at *
          generalize getN b 10 8 false = x2 at *
          generalize getN b 18 8 false = x3 at *
          generalize getN b 26 8 false = x4 at *
          generalize getN b 34 8 false = x5 at *
          generalize getN b 42 8 false = x6 at *
          have Hres := Lib.hid (fun h : mayR (rawR b) = true => decR_yes Hl.out H1.out h)
          have Hres2 := Lib.hid (fun h : mayR (rawR b) = false => decR_no (b := b) (fun h' => by rw [h] at h'; exact absurd h'.2.2 (by decide)))
          generalize (b[1]?.getD 0).toNat = c1 at *
          have hcl := (b[0]?.getD 0).toNat_lt
          generalize (b[0]?.getD 0).toNat = c0 at *
          have q0 : IntKind.i64.wrap (c0 : Int) = (c0 : Int) := IntWalk.i64_in _ (by omega)
          have HH9 := fun (wx : World) => Lib.hid (HB.new wx [.int .i64 (c0 : Nat), .int .u64 x1, .int .u64 x2, .bool sb, .int .u64 x3, .int .u64 x4, .int .u64 x5, .int .u64 x6] 45)
          have l0 := HL5.cell (i := 0) rfl
          have l1 := HL5.cell (i := 1) rfl
          have l2 := HL5.cell (i := 2) rfl
          have l3 := HL5.cell (i := 3) rfl
          have l4 := HL5.cell (i := 4) rfl
          have l5 := HL5.cell (i := 5) rfl
          have hat : ∀ w, (Instr.arrayAt 43 (.slice (some ⟨L, 2, none⟩) 4 4)).run Try.prog w = .ok (.pointer (some ⟨L, 2, none⟩)) w := fun w => run_arrayAt w 43 _ 4 _ 4 4 Try.underlying43 (Nat.le_refl _)
          have HL6 := Lib.hid HL5
          clear hsb HL5 Hst Hc' hcl H1 Hl
          have HS0 : Hid (∀ o, (wr.alloc o).drew.cell? ⟨bb, off, none⟩ = some (.int .u8 (c0 : Nat)) ∧ (wr.alloc o).drew.cell? ⟨bb, off + 1, none⟩ = some (.int .u8 (c1 : Nat)) ∧ (wr.alloc o).drew.cell? ⟨L, 0, none⟩ = some (.int .u64 x1) ∧ (wr.alloc o).drew.cell? ⟨L, 1, none⟩ = some (.int .u64 x2) ∧ (wr.alloc o).drew.cell? ⟨L, 2, none⟩ = some (.int .u64 x3) ∧ (wr.alloc o).drew.cell? ⟨L, 3, none⟩ = some (.int .u64 x4) ∧ (wr.alloc o).drew.cell? ⟨L, 4, none⟩ = some (.int .u64 x5) ∧ (wr.alloc o).drew.cell? ⟨L, 5, none⟩ = some (.int .u64 x6)) :=
            Lib.hid (fun o => ⟨cell_later ((Below.refl wr.heap.size wr).alloc (Nat.le_refl _) o).drew hb0, cell_later ((Below.refl wr.heap.size wr).alloc (Nat.le_refl _) o).drew hb1, ((HL6.out.alloc o).drn (Drn.refl _).drew).cell rfl, ((HL6.out.alloc o).drn (Drn.refl _).drew).cell rfl, ((HL6.out.alloc o).drn (Drn.refl _).drew).cell rfl, ((HL6.out.alloc o).drn (Drn.refl _).drew).cell rfl, ((HL6.out.alloc o).drn (Drn.refl _).drew).cell rfl, ((HL6.out.alloc o).drn (Drn.refl _).drew).cell rfl⟩)
          clear HL6
          go_wp2_with fail
          refine wp_region_held_drew (S := fun w' => w'.cell? ⟨bb, off, none⟩ = some (.int .u8 (c0 : Nat)) ∧ w'.cell? ⟨bb, off + 1, none⟩ = some (.int .u8 (c1 : Nat)) ∧ w'.cell? ⟨L, 0, none⟩ = some (.int .u64 x1) ∧ w'.cell? ⟨L, 1, none⟩ = some (.int .u64 x2) ∧ w'.cell? ⟨L, 2, none⟩ = some (.int .u64 x3) ∧ w'.cell? ⟨L, 3, none⟩ = some (.int .u64 x4) ∧ w'.cell? ⟨L, 4, none⟩ = some (.int .u64 x5) ∧ w'.cell? ⟨L, 5, none⟩ = some (.int .u64 x6)) (by kernel_rfl) ⟨hb0, hb1, l0, l1, l2, l3, l4, l5⟩ (fun hHeld => ?_)
          clear hb0 hb1 l0 l1 l2 l3 l4 l5
          refine wpAnyH_take (i := 0) (v := ?_) (by simp only [List.getElem?_toArray, List.getElem?_cons_succ, List.getElem?_cons_zero]; rfl) (by kernel_rfl) (by kernel_rfl) (by kernel_rfl) (by intro _ _ _ h_; exact h_) (Or.inl ⟨by rfl, ?_⟩) (by assumption) ?_
          rotate_left 1
          focus (intro w_ hSw_; obtain ⟨s0, s1, s2, s3, s4, s5, s6, s7⟩ := hSw_; go_simp; try with_reducible rfl)
          simp only [Act.put, List.setIfInBounds_toArray, List.set_cons_zero, List.set_cons_succ]
          refine wpAnyH_take (i := 1) (v := ?_) (by simp only [List.getElem?_toArray, List.getElem?_cons_succ, List.getElem?_cons_zero]; rfl) (by kernel_rfl) (by kernel_rfl) (by kernel_rfl) (by intro _ _ _ h_; exact h_) (Or.inl ⟨by rfl, ?_⟩) (by assumption) ?_
          rotate_left 1
          focus (intro w_ hSw_; obtain ⟨s0, s1, s2, s3, s4, s5, s6, s7⟩ := hSw_; go_simp; try with_reducible rfl)
          simp only [Act.put, List.setIfInBounds_toArray, List.set_cons_zero, List.set_cons_succ]
          refine wpAnyH_take (i := 2) (v := ?_) (by simp only [List.getElem?_toArray, List.getElem?_cons_succ, List.getElem?_cons_zero]; rfl) (by kernel_rfl) (by kernel_rfl) (by kernel_rfl) (by intro _ _ _ h_; exact h_) (Or.inl ⟨by rfl, ?_⟩) (by assumption) ?_
          rotate_left 1
          focus (intro w_ hSw_; obtain ⟨s0, s1, s2, s3, s4, s5, s6, s7⟩ := hSw_; go_simp; try with_reducible rfl)
          simp only [Act.put, List.setIfInBounds_toArray, List.set_cons_zero, List.set_cons_succ]
          refine wpAnyH_take (i := 3) (v := ?_) (by simp only [List.getElem?_toArray, List.getElem?_cons_succ, List.getElem?_cons_zero]; rfl) (by kernel_rfl) (by kernel_rfl) (by kernel_rfl) (by intro _ _ _ h_; exact h_) (Or.inl ⟨by rfl, ?_⟩) (by assumption) ?_
          rotate_left 1
          focus (intro w_ hSw_; obtain ⟨s0, s1, s2, s3, s4, s5, s6, s7⟩ := hSw_; go_simp; try with_reducible rfl)
          simp only [Act.put, List.setIfInBounds_toArray, List.set_cons_zero, List.set_cons_succ]
          refine wpAnyH_take (i := 4) (v := ?_) (by simp only [List.getElem?_toArray, List.getElem?_cons_succ, List.getElem?_cons_zero]; rfl) (by kernel_rfl) (by kernel_rfl) (by kernel_rfl) (by intro _ _ _ h_; exact h_) (Or.inl ⟨by rfl, ?_⟩) (by assumption) ?_
          rotate_left 1
          focus (intro w_ hSw_; obtain ⟨s0, s1, s2, s3, s4, s5, s6, s7⟩ := hSw_; go_simp; try with_reducible rfl)
          simp only [Act.put, List.setIfInBounds_toArray, List.set_cons_zero, List.set_cons_succ]
          refine wpAnyH_take (i := 5) (v := ?_) (by simp only [List.getElem?_toArray, List.getElem?_cons_succ, List.getElem?_cons_zero]; rfl) (by kernel_rfl) (by kernel_rfl) (by kernel_rfl) (by intro _ _ _ h_; exact h_) (Or.inl ⟨by rfl, ?_⟩) (by assumption) ?_
          rotate_left 1
          focus (intro w_ hSw_; obtain ⟨s0, s1, s2, s3, s4, s5, s6, s7⟩ := hSw_; go_simp; try with_reducible rfl)
          simp only [Act.put, List.setIfInBounds_toArray, List.set_cons_zero, List.set_cons_succ]
          refine wpAnyH_take (i := 6) (v := ?_) (by simp only [List.getElem?_toArray, List.getElem?_cons_succ, List.getElem?_cons_zero]; rfl) (by kernel_rfl) (by kernel_rfl) (by kernel_rfl) (by intro _ _ _ h_; exact h_) (Or.inl ⟨by rfl, ?_⟩) (by assumption) ?_
          rotate_left 1
          focus (intro w_ hSw_; obtain ⟨s0, s1, s2, s3, s4, s5, s6, s7⟩ := hSw_; go_simp; try with_reducible rfl)
          simp only [Act.put, List.setIfInBounds_toArray, List.set_cons_zero, List.set_cons_succ]
          refine wpAnyH_take (i := 7) (v := ?_) (by simp only [List.getElem?_toArray, List.getElem?_cons_succ, List.getElem?_cons_zero]; rfl) (by kernel_rfl) (by kernel_rfl) (by kernel_rfl) (by intro _ _ _ h_; exact h_) (Or.inl ⟨by rfl, ?_⟩) (by assumption) ?_
          rotate_left 1
          focus (intro w_ hSw_; obtain ⟨s0, s1, s2, s3, s4, s5, s6, s7⟩ := hSw_; go_simp; try with_reducible rfl)
          simp only [Act.put, List.setIfInBounds_toArray, List.set_cons_zero, List.set_cons_succ]
          refine wpAnyH_take (i := 8) (v := ?_) (by simp only [List.getElem?_toArray, List.getElem?_cons_succ, List.getElem?_cons_zero]; rfl) (by kernel_rfl) (by kernel_rfl) (by kernel_rfl) (by intro _ _ _ h_; exact h_) (Or.inl ⟨by rfl, ?_⟩) (by assumption) ?_
          rotate_left 1
          focus (intro w_ hSw_; obtain ⟨s0, s1, s2, s3, s4, s5, s6, s7⟩ := hSw_; go_simp; try with_reducible rfl)
          simp only [Act.put, List.setIfInBounds_toArray, List.set_cons_zero, List.set_cons_succ]
          refine wpAnyH_take (i := 9) (v := ?_) (by simp only [List.getElem?_toArray, List.getElem?_cons_succ, List.getElem?_cons_zero]; rfl) (by kernel_rfl) (by kernel_rfl) (by kernel_rfl) (by intro _ _ _ h_; exact h_) (Or.inl ⟨by rfl, ?_⟩) (by assumption) ?_
          rotate_left 1
          focus (intro w_ hSw_; obtain ⟨s0, s1, s2, s3, s4, s5, s6, s7⟩ := hSw_; go_simp; try with_reducible rfl)
          simp only [Act.put, List.setIfInBounds_toArray, List.set_cons_zero, List.set_cons_succ]
          refine wpAnyH_take (i := 10) (v := ?_) (by simp only [List.getElem?_toArray, List.getElem?_cons_succ, List.getElem?_cons_zero]; rfl) (by kernel_rfl) (by kernel_rfl) (by kernel_rfl) (by intro _ _ _ h_; exact h_) (Or.inl ⟨by rfl, ?_⟩) (by assumption) ?_
          rotate_left 1
          focus (intro w_ hSw_; obtain ⟨s0, s1, s2, s3, s4, s5, s6, s7⟩ := hSw_; go_simp; try with_reducible rfl)
          simp only [Act.put, List.setIfInBounds_toArray, List.set_cons_zero, List.set_cons_succ]
          refine wpAnyH_take (i := 11) (v := ?_) (by simp only [List.getElem?_toArray, List.getElem?_cons_succ, List.getElem?_cons_zero]; rfl) (by kernel_rfl) (by kernel_rfl) (by kernel_rfl) (by intro _ _ _ h_; exact h_) (Or.inl ⟨by rfl, ?_⟩) (by assumption) ?_
          rotate_left 1
          focus (intro w_ hSw_; obtain ⟨s0, s1, s2, s3, s4, s5, s6, s7⟩ := hSw_; go_simp; try with_reducible rfl)
          simp only [Act.put, List.setIfInBounds_toArray, List.set_cons_zero, List.set_cons_succ]
          refine wpAnyH_take (i := 12) (v := ?_) (by simp only [List.getElem?_toArray, List.getElem?_cons_succ, List.getElem?_cons_zero]; rfl) (by kernel_rfl) (by kernel_rfl) (by kernel_rfl) (by intro _ _ _ h_; exact h_) (Or.inl ⟨by rfl, ?_⟩) (by assumption) ?_
          rotate_left 1
          focus (intro w_ hSw_; obtain ⟨s0, s1, s2, s3, s4, s5, s6, s7⟩ := hSw_; go_simp; try with_reducible rfl)
          simp only [Act.put, List.setIfInBounds_toArray, List.set_cons_zero, List.set_cons_succ]
          refine wpAnyH_take (i := 13) (v := ?_) (by simp only [List.getElem?_toArray, List.getElem?_cons_succ, List.getElem?_cons_zero]; rfl) (by kernel_rfl) (by kernel_rfl) (by kernel_rfl) (by intro _ _ _ h_; exact h_) (Or.inl ⟨by rfl, ?_⟩) (by assumption) ?_
          rotate_left 1
          focus (intro w_ hSw_; obtain ⟨s0, s1, s2, s3, s4, s5, s6, s7⟩ := hSw_; go_simp; try with_reducible rfl)
          simp only [Act.put, List.setIfInBounds_toArray, List.set_cons_zero, List.set_cons_succ]
          refine wpAnyH_take (i := 14) (v := ?_) (by simp only [List.getElem?_toArray, List.getElem?_cons_succ, List.getElem?_cons_zero]; rfl) (by kernel_rfl) (by kernel_rfl) (by kernel_rfl) (by intro _ _ _ h_; exact h_) (Or.inl ⟨by rfl, ?_⟩) (by assumption) ?_
          rotate_left 1
          focus (intro w_ hSw_; obtain ⟨s0, s1, s2, s3, s4, s5, s6, s7⟩ := hSw_; go_simp; try with_reducible rfl)
          simp only [Act.put, List.setIfInBounds_toArray, List.set_cons_zero, List.set_cons_succ]
          refine wpAnyH_take (i := 15) (v := ?_) (by simp only [List.getElem?_toArray, List.getElem?_cons_succ, List.getElem?_cons_zero]; rfl) (by kernel_rfl) (by kernel_rfl) (by kernel_rfl) (by intro _ _ _ h_; exact h_) (Or.inl ⟨by rfl, ?_⟩) (by assumption) ?_
          rotate_left 1
          focus (intro w_ hSw_; obtain ⟨s0, s1, s2, s3, s4, s5, s6, s7⟩ := hSw_; go_simp; try with_reducible rfl)
          simp only [Act.put, List.setIfInBounds_toArray, List.set_cons_zero, List.set_cons_succ]
          refine wpAnyH_ready (rs := [16]) (by kernel_rfl) (by simp) ?_
          refine AllReadyH.cons (by simp only [List.getElem?_toArray, List.getElem?_cons_succ, List.getElem?_cons_zero]; rfl) (fun K hK => ?_) AllReadyH.nil
          go_simp
          refine hK.out _ _ (HS0.out _) (fun hHeld => ?_)
          clear hK K
          try simp only [Act.put, List.setIfInBounds_toArray, List.set_cons_zero, List.set_cons_succ]
          refine wpAnyH_ready (rs := [17]) (by kernel_rfl) (by simp) ?_
          refine AllReadyH.cons (by simp only [List.getElem?_toArray, List.getElem?_cons_succ, List.getElem?_cons_zero]; rfl) (fun K hK => ?_) AllReadyH.nil
          go_simp
          refine hK.out _ _ (HS0.out _) (fun hHeld => ?_)
          clear hK K
          refine wpAnyH_done (by kernel_rfl) ?_ _
          as_aux_lemma =>
          have HH := Lib.hid ((HH9 wr).out.drn (Drn.refl _).drew)
          have HR6 := Lib.hid ((HR.out.alloc (.cells #[.int .i64 (c0 : Nat), .int .u64 x1, .int .u64 x2, .bool sb, .int .u64 x3, .int .u64 x4, .int .u64 x5, .int .u64 x6] 45)).drn (Drn.refl _).drew)
          have hsw : R ≤ wr.heap.size := by rw [← HRx.out]; exact HBx.out.size
          have HB6 := Lib.hid ((HBx.out.alloc hsw (.cells #[.int .i64 (c0 : Nat), .int .u64 x1, .int .u64 x2, .bool sb, .int .u64 x3, .int .u64 x4, .int .u64 x5, .int .u64 x6] 45)).drew)
          have Hne : Hid (R < wr.heap.size) := Lib.hid HR.out.lt
          clear HH9 HR HBx hsw hat hsb2 HS0
          generalize (wr.alloc (.cells #[.int .i64 (c0 : Nat), .int .u64 x1, .int .u64 x2, .bool sb, .int .u64 x3, .int .u64 x4, .int .u64 x5, .int .u64 x6] 45)).drew = w6 at *
          generalize wr.heap.size = H at *
          clear hHeld q0 hlt hk f1
          have Hm : Hid (∀ w, Calls Try.prog 36 #[.agg #[.int .i64 (c0 : Nat), .int .u64 x1, .int .u64 x2, .bool sb, .int .u64 x3, .int .u64 x4, .int .u64 x5, .int .u64 x6]] w fun e w' => e = .returned (.bool (mayR (rawR b))) ∧ Below w.heap.size w w') := Lib.hid (fun w => by
            have h := (Hmay w).out
            rw [hraw.out] at h ⊢
            exact h)
          have k0 := HH.out.cell (i := 0) rfl
          have k1 := HH.out.cell (i := 1) rfl
          have k2 := HH.out.cell (i := 2) rfl
          have k3 := HH.out.cell (i := 3) rfl
          have k4 := HH.out.cell (i := 4) rfl
          have k5 := HH.out.cell (i := 5) rfl
          have k6 := HH.out.cell (i := 6) rfl
          have k7 := HH.out.cell (i := 7) rfl
          go_wp2_with fail
          as_aux_lemma =>
          refine (Hm.out _).mono ?_
          rintro e w7 ⟨rfl, hb7⟩
          have HR7 := Lib.hid (HR6.out.later hb7)
          have HH7 := Lib.hid (HH.out.later hb7)
          have HB7 := Lib.hid (HB6.out.trans (hb7.mono (by have := HR6.out.lt; omega)))
          clear hb7 HR6 HH HB6 k0 k1 k2 k3 k4 k5 k6 k7 Hmay Hm
          cases hmy : mayR (rawR b)
          · have hq := Hres2.out hmy
            have HRes := Lib.hid (⟨hq, by unfold decE; rw [hq]; rfl⟩ : decR b = (hoz, false) ∧ decE b = 226)
            clear hq hmy Hres Hres2 HH7
            go_wp2_with (refine wpList_store_row rfl _ _ _ rfl R #[.int .i64 0, .int .u64 0, .int .u64 0, .bool false, .int .u64 0, .int .u64 0, .int .u64 0, .int .u64 0] rfl rfl _ _ HR7.out hoInfo rfl (by decide +kernel) ?_)
            have hR8 : HB (w7.setRow R #[.int .i64 0, .int .u64 0, .int .u64 0, .bool false, .int .u64 0, .int .u64 0, .int .u64 0, .int .u64 0]) R 45 [.int .i64 0, .int .u64 0, .int .u64 0, .bool false, .int .u64 0, .int .u64 0, .int .u64 0, .int .u64 0] := setRow_heap w7 R _ #[.int .i64 0, .int .u64 0, .int .u64 0, .bool false, .int .u64 0, .int .u64 0, .int .u64 0, .int .u64 0] _ _ HR7.out
            have hB8 := HB7.out.grown (grown_row w7 R #[.int .i64 0, .int .u64 0, .int .u64 0, .bool false, .int .u64 0, .int .u64 0, .int .u64 0, .int .u64 0]) (by have := HR7.out.lt; omega) (fun x hx => Nat.le_of_eq (Option.some.inj hx))
            have Hv := Lib.hid (run_loadVar_mid (P := Try.prog) _ R 0 45 [.int .i64 0, .int .u64 0, .int .u64 0, .bool false, .int .u64 0, .int .u64 0, .int .u64 0, .int .u64 0] _ hR8.whole Try.underlying45 rfl hoInfo)
            have HB8 := Lib.hid hB8
            clear hR8 hB8 HR7 HB7
            generalize w7.setRow R #[.int .i64 0, .int .u64 0, .int .u64 0, .bool false, .int .u64 0, .int .u64 0, .int .u64 0, .int .u64 0] = w8 at *
            go_wp2_with fail
            have hv := Hv.out
            refine bodyPost_ret (v := .tuple #[.agg #[.int .i64 0, .int .u64 0, .int .u64 0, .bool false, .int .u64 0, .int .u64 0, .int .u64 0, .int .u64 0], .int .i64 226]) (by simp [results, Try.results21, asAddr, hv, Result.andThen]; try rfl) rfl ⟨by rw [HRes.out.1, HRes.out.2]; rfl, by rw [HRx.out]; exact HB8.out⟩
          · have hq := Hres.out hmy
            have HRes : Hid (decR b = (⟨(c0 : Nat), x1, x2, sb, x3, x4, x5, x6⟩, true) ∧ decE b = 0) := Lib.hid ⟨by rw [hq, hraw.out], by unfold decE; rw [hq]; rfl⟩
            clear hq hmy Hres Hres2
            have hone : (#[.int .i64 (c0 : Nat), .int .u64 x1, .int .u64 x2, .bool sb, .int .u64 x3, .int .u64 x4, .int .u64 x5, .int .u64 x6] : Array Value).all (·.oneCell') = true := by simp [Value.oneCell']
            have Hone := Lib.hid hone
            clear hone
            have k0 := HH7.out.cell (i := 0) rfl
            have k1 := HH7.out.cell (i := 1) rfl
            have k2 := HH7.out.cell (i := 2) rfl
            have k3 := HH7.out.cell (i := 3) rfl
            have k4 := HH7.out.cell (i := 4) rfl
            have k5 := HH7.out.cell (i := 5) rfl
            have k6 := HH7.out.cell (i := 6) rfl
            have k7 := HH7.out.cell (i := 7) rfl
            go_wp2_with (refine wpList_store_row rfl _ _ _ rfl R #[.int .i64 (c0 : Nat), .int .u64 x1, .int .u64 x2, .bool sb, .int .u64 x3, .int .u64 x4, .int .u64 x5, .int .u64 x6] rfl rfl _ _ HR7.out hoInfo rfl Hone.out ?_)
            have hR8 : HB (w7.setRow R #[.int .i64 (c0 : Nat), .int .u64 x1, .int .u64 x2, .bool sb, .int .u64 x3, .int .u64 x4, .int .u64 x5, .int .u64 x6]) R 45 [.int .i64 (c0 : Nat), .int .u64 x1, .int .u64 x2, .bool sb, .int .u64 x3, .int .u64 x4, .int .u64 x5, .int .u64 x6] := setRow_heap w7 R _ #[.int .i64 (c0 : Nat), .int .u64 x1, .int .u64 x2, .bool sb, .int .u64 x3, .int .u64 x4, .int .u64 x5, .int .u64 x6] _ _ HR7.out
            have hB8 := HB7.out.grown (grown_row w7 R #[.int .i64 (c0 : Nat), .int .u64 x1, .int .u64 x2, .bool sb, .int .u64 x3, .int .u64 x4, .int .u64 x5, .int .u64 x6]) (by have := HR7.out.lt; omega) (fun x hx => Nat.le_of_eq (Option.some.inj hx))
            have Hv := Lib.hid (run_loadVar_mid (P := Try.prog) _ R 0 45 [.int .i64 (c0 : Nat), .int .u64 x1, .int .u64 x2, .bool sb, .int .u64 x3, .int .u64 x4, .int .u64 x5, .int .u64 x6] _ hR8.whole Try.underlying45 rfl hoInfo)
            have HB8 := Lib.hid hB8
            clear hR8 hB8 HR7 HB7
            generalize w7.setRow R #[.int .i64 (c0 : Nat), .int .u64 x1, .int .u64 x2, .bool sb, .int .u64 x3, .int .u64 x4, .int .u64 x5, .int .u64 x6] = w8 at *
            go_wp2_with fail
            have hv := Hv.out
            refine bodyPost_ret (v := .tuple #[.agg #[.int .i64 (c0 : Nat), .int .u64 x1, .int .u64 x2, .bool sb, .int .u64 x3, .int .u64 x4, .int .u64 x5, .int .u64 x6], .int .i64 0]) (by simp [results, Try.results21, asAddr, hv, Result.andThen]; try rfl) rfl ⟨by rw [HRes.out.1, HRes.out.2]; rfl, by rw [HRx.out]; exact HB8.out⟩
    · have hq := decR_no (b := b) (fun h => h1 h.2.1)
      have HR := Lib.hid (⟨hq, by unfold decE; rw [hq]; rfl⟩ : decR b = (hoz, false) ∧ decE b = 226)
      have f1 : ¬ ((b[1]?.getD 0).toNat : Int) ≤ 1 := by omega
      have f2 : (1 : Int) < ((b[1]?.getD 0).toNat : Int) := by omega
      generalize (b[1]?.getD 0).toNat = c1 at *
      clear hq hr hl hc h1
      go_enter Try.func21, Try.ntmps21
      go_wp2_with fail
      refine bodyPost_ret (v := .tuple #[hov hoz, .int .i64 226]) (by simp [results, Try.results21, go_sem]; try rfl) rfl ⟨by rw [HR.out.1, HR.out.2], ?_⟩
      exact (HB0 _).out
  · have hq := decR_no (b := b) (fun h => h50 (by omega))
    have HR := Lib.hid (⟨hq, by unfold decE; rw [hq]; rfl⟩ : decR b = (hoz, false) ∧ decE b = 226)
    clear hq
    have e1 : ((n : Int) == 50) = false := beq_eq_false_iff_ne.2 (by omega)
    have e2 : ((n : Int) != 50) = true := bne_iff_ne.2 (by omega)
    clear hr hl h50
    go_enter Try.func21, Try.ntmps21
    go_wp2_with fail
    refine bodyPost_ret (v := .tuple #[hov hoz, .int .i64 226]) (by simp [results, Try.results21, go_sem]; try rfl) rfl ⟨by rw [HR.out.1, HR.out.2], ?_⟩
    exact (HB0 _).out
end Go.Proofs.Ythhodibfbfmijaa
