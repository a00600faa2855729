/- Regions are apart: the walk. No condition. -/
import Derived.Test.YtcbiohpgmooefaaRmX
import Derived.Test.YtcbiohpgmooefaaRmL
import Derived.Test.YtcbiohpgmooefaaRmE
import Derived.Test.YtcbiohpgmooefaaRmQ
import Derived.BigQuiet
namespace Go.Proofs.Ytcbiohpgmooefaa.ramApart
open Go.ChangeShapes Go.WideShapes Go.ChangeAt Go.RowKit
set_option linter.unusedVariables false
set_option linter.unusedSimpArgs false
structure AIn (R n : Nat) (w1 : World) (iv : Value) (wr : World) : Prop where
  x : ∃ (i : Nat) (m : List UInt8) (tv : Value) (t : List Rg), i ≤ n ∧ iv = .int .i64 (i : Nat) ∧ RamM R R m tv t wr ∧ Below R w1 wr ∧ R < wr.heap.size
theorem turned_below {R : Nat} {m : List UInt8} {tv tv' : Value} {t t' : List Rg} {w w' : World} (h : RamM R R m tv t w) (ht : Turned R R m tv tv' t' w w') : Below R w w' :=
  ht.f.below (Nat.le_of_lt h.h.lt) (fun q hq => hq.elim (fun e => by omega) (fun e => (h.o.blk rgc_len q e).1))
structure KIn (t : List Rg) (w6 : World) (fv kv : Value) (wx : World) : Prop where
  x : ∃ (k F : Nat), k ≤ t.length ∧ kv = .int .i64 (k : Nat) ∧ fv = .int .u64 (F : Nat) ∧ (∀ (j : Nat) (x : Rg), k ≤ j → t[j]? = some x → F ≤ x.base) ∧ Below w6.heap.size w6 wx
set_option maxRecDepth 100000 in
set_option maxHeartbeats 4000000 in
theorem core (W : World) (a1 : Option Addr) (n c1 : Nat) (ops : List OpR) (hl1 : ops.length = n) (hn1 : n ≤ 140737488351232) (hr1 : RdS orc 12 W a1 ops) (hok : ∀ o ∈ ops, OpR.Ok W o) :
    Calls Try.prog 4 #[.slice a1 n c1] W fun e w' => e = .returned (.bool true) ∧ Below W.heap.size W w' := by
  have H1 := Lib.hid (And.intro hl1 hn1)
  have Hok := Lib.hid hok
  have Hr1 := Lib.hid (fun w' (h : Below W.heap.size W w') => hr1.below h)
  clear hl1 hn1 hr1 hok
  go_enter Try.func4, Try.ntmps4
  go_wp2_with fail
  refine (new_any _).mono ?_
  rintro e w2 ⟨rfl, hR, hb2⟩
  obtain ⟨R, hRr⟩ : ∃ R, W.heap.size = R := ⟨_, rfl⟩
  have HRr := fun (_ : Unit) => Lib.hid hRr
  rw [hRr] at hR hb2 Hr1 ⊢
  have HR2 := Lib.hid hR
  have Hb2 := Lib.hid hb2
  clear hR hb2 hRr
  go_wp2_with fail
  refine (alive_any _).mono ?_
  rintro e w3 ⟨rfl, hb3⟩
  have HI : Hid (AIn R n W (.int .i64 (0 : Nat)) w3) := Lib.hid ⟨0, _, _, _, Nat.zero_le _, rfl, HR2.out.later hb3, Hb2.out.trans (hb3.mono (Nat.le_of_lt HR2.out.h.lt)), Nat.lt_of_lt_of_le HR2.out.h.lt hb3.size⟩
  clear hb3 HR2 Hb2
  go_upto_region 5 with fail
  go_loopw [4, 5, 6, 7, 8, 9, 10] (fun i _ _ _ _ _ _ wr => AIn R n W i wr) (fun i _ _ _ _ _ _ _ => n - (intOf i).toNat)
  case atStart => exact HI.out
  case round =>
    clear HI
    obtain ⟨i, m, tv, t, hi, rfl, hR, hb, hlt⟩ := hrel
    have HR := Lib.hid hR
    have Hb := Lib.hid hb
    have Hlt := Lib.hid hlt
    have hn1 := H1.out.2
    clear hR hb hlt
    by_cases hgo : i < n ∧ i < 300
    · have f1 : (i : Int) < (n : Int) := by omega
      have f2 : (i : Int) < 300 := by omega
      obtain ⟨o, ho⟩ : ∃ o, ops[i]? = some o := ⟨_, List.getElem?_eq_getElem (by rw [H1.out.1]; exact hgo.1)⟩
      have hook := Hok.out o (List.mem_of_getElem? ho)
      obtain ⟨b1, o1, rfl, -, hcl⟩ := Hr1.out _ Hb.out i o ho
      have d0 : wr.cell? ⟨b1, o1 + i * 12, none⟩ = _ := hcl 0 _ rfl
      by_cases hkd : o.kind = 2
      · have d9 := hcl 9 _ rfl
        have Hc := Lib.hid (drop_any HR.out (Nat.le_of_lt Hlt.out) o.x)
        rw [hkd] at d0
        obtain ⟨t', ht'⟩ : ∃ t', (dropR t o.x).1 = t' := ⟨_, rfl⟩
        rw [ht'] at Hc
        clear hcl ho hook hkd ht'
        go_wp2_with fail
        refine Hc.out.mono ?_
        rintro e w5 ⟨rfl, tv', hT⟩
        clear d0 d9
        have HR5 := Lib.hid hT.r
        have Hb5 := Lib.hid (Hb.out.trans (turned_below HR.out hT))
        have Hl5 := Lib.hid (Nat.lt_of_lt_of_le Hlt.out hT.f.size)
        clear hT Hc HR Hb
        go_wp2_with fail
        refine (regions_any HR5.out).mono ?_
        rintro e w6 ⟨v6, rfl, ho6, hb6⟩
        have HR6 := Lib.hid (HR5.out.later hb6)
        have Hb6 := Lib.hid (Hb5.out.trans (hb6.mono (Nat.le_of_lt HR5.out.h.lt)))
        obtain ⟨a6, c6, rfl, -, -, hr6, -⟩ := ho6.rd rgc_len
        have Hr6 := Lib.hid hr6
        have h16 := HR6.out.tb.n
        have h16' : ¬ (16 : Int) < ((t').length : Int) := by omega
        clear ho6 hb6 hr6 HR5 Hb5
        go_upto_region 15 with fail
        clear h16'
        go_loopw [6, 7, 8, 9, 10] (fun fv kv _ _ _ wx => KIn t' w6 fv kv wx) (fun _ kv _ _ _ _ => (t').length - (intOf kv).toNat)
        case atStart => exact ⟨0, 1073741824, Nat.zero_le _, rfl, rfl, fun j x _ hx => (HR6.out.tb.at hx).2.1, Below.refl _ _⟩
        case round =>
          obtain ⟨k, F, hk, rfl, rfl, hF, hbx⟩ := hrel
          have Hbx := Lib.hid hbx
          have HF := Lib.hid hF
          clear hF
          by_cases hkl : k < (t').length
          · have q1 : (k : Int) < ((t').length : Int) := by omega
            obtain ⟨g, hg⟩ : ∃ g, (t')[k]? = some g := ⟨_, List.getElem?_eq_getElem hkl⟩
            have hat := HR6.out.tb.at hg
            have hok := HR6.out.tb.ok g (List.mem_of_getElem? hg)
            have hFg := HF.out k g (Nat.le_refl _) hg
            have hnext : Hid (∀ (j : Nat) (x : Rg), k + 1 ≤ j → (t')[j]? = some x → g.base + g.size ≤ x.base) := Lib.hid (fun j x hj hx => HR6.out.tb.lt hg hx (by omega))
            have hfs := fR_some (findR_some (a := g.base + g.size - 1) HR6.out.tb hg (has_iff.2 ⟨by omega, by omega⟩))
            have Hfd := Lib.hid (fun w' (h : Below wr.heap.size wr w') => find_any (HR6.out.later (hbx.trans (h.mono hbx.size))) (g.base + g.size - 1))
            rw [hfs] at Hfd
            clear hfs
            obtain ⟨b0, o0, rfl, -, hcl⟩ := (Hr6.out.below hbx) k g hg
            have c0 : wr.cell? ⟨b0, o0 + k * 6, none⟩ = _ := hcl 0 _ rfl
            have c1 := hcl 1 _ rfl
            have c2 := hcl 2 _ rfl
            have c3 := hcl 3 _ rfl
            have c4 := hcl 4 _ rfl
            have c5 := hcl 5 _ rfl
            clear hcl hg
            obtain ⟨gb, gn, gr, gw, gx, gs⟩ := g
            unfold rgv at Hfd
            dsimp only at *
            have heq := fun w => rg_equal ⟨gb, gn, gr, gw, gx, gs⟩ ⟨gb, gn, gr, gw, gx, gs⟩ w
            rw [decide_eq_true rfl] at heq
            dsimp only at heq
            have hguard : Try.prog.eqGuardType Try.prog.depth 33 = false := by kernel_rfl
            obtain ⟨o, ho⟩ : ∃ o, gb - 1073741824 = o := ⟨_, rfl⟩
            have p1 : (gb : Int) - 1073741824 = (o : Int) := by omega
            obtain ⟨q, hq⟩ : ∃ q, 65536 - o = q := ⟨_, rfl⟩
            have p2 : (65536 : Int) - (o : Int) = (q : Int) := by omega
            obtain ⟨E, hE⟩ : ∃ E, gb + gn = E := ⟨_, rfl⟩
            have p3 : (gb : Int) + (gn : Int) = (E : Int) := by omega
            rw [hE] at Hfd hnext
            obtain ⟨E1, hE1⟩ : ∃ E1, E - 1 = E1 := ⟨_, rfl⟩
            have p4 : (E : Int) - 1 = (E1 : Int) := by omega
            rw [hE1] at Hfd
            have p5 : ¬ (gb : Int) < (F : Int) := by omega
            have p6 : ¬ (gn : Int) = 0 := by omega
            have p7 : ¬ (65536 : Int) ≤ (o : Int) := by omega
            have p8 : ¬ (q : Int) < (gn : Int) := by omega
            have p9 : E ≤ 1073807360 ∧ 1073741824 ≤ gb ∧ 1 ≤ E := by omega
            have p0 : (gw = true ∧ gx = false) ∨ gw = false := by
              have := hok.2.2
              cases gw <;> cases gx <;> simp_all
            clear hat hok hFg ho hq hE hE1
            rcases p0 with ⟨rfl, rfl⟩ | rfl
            · have hX := HB.new wr (rgc ⟨gb, gn, gr, true, false, gs⟩) 33
              have hbX := (Below.refl wr.heap.size wr).alloc (Nat.le_refl _) (.cells (rgc ⟨gb, gn, gr, true, false, gs⟩).toArray 33)
              obtain ⟨wX, hwX⟩ : ∃ wX, wr.alloc (.cells #[.int .u64 gb, .int .u64 gn, .bool gr, .bool true, .bool false, .bool gs] 33) = wX := ⟨_, rfl⟩
              have hwX' : wr.alloc (.cells (rgc ⟨gb, gn, gr, true, false, gs⟩).toArray 33) = wX := hwX
              rw [hwX'] at hX hbX
              have HX := Lib.hid hX
              have HbX := Lib.hid hbX
              have HwX := fun (_ : Unit) => Lib.hid hwX
              clear hX hbX hwX hwX'
              go_wp2_with fail
              rw [(HwX ()).out]
              refine (Hfd.out _ HbX.out).mono ?_
              rintro e w8 ⟨rfl, hb8⟩
              have hX8 := HX.out.later hb8
              have Hb8 := Lib.hid (Hbx.out.trans ((HbX.out.trans (hb8.mono HbX.out.size)).mono Hbx.out.size))
              have x0 := fun o => (hX8.alloc o).cell (i := 0) rfl
              have x1 := fun o => (hX8.alloc o).cell (i := 1) rfl
              have x2 := fun o => (hX8.alloc o).cell (i := 2) rfl
              have x3 := fun o => (hX8.alloc o).cell (i := 3) rfl
              have x4 := fun o => (hX8.alloc o).cell (i := 4) rfl
              have x5 := fun o => (hX8.alloc o).cell (i := 5) rfl
              clear hb8 hX8 c0 c1 c2 c3 c4 c5 HwX HX HbX Hfd
              generalize wr.heap.size = XX at *
              go_wp2_with fail
              first
              | (go_roundw
                 case rel => exact ⟨k + 1, E, by omega, by go_num, rfl, hnext.out, Hb8.out.alloc Hb8.out.size _⟩
                 case measure => (first | omega | (simp [intOf] <;> omega) | (simp only [intOf] <;> omega)))
              | exact ⟨⟨k + 1, E, by omega, by go_num, rfl, hnext.out, Hb8.out.alloc Hb8.out.size _⟩, by (first | omega | (simp [intOf] <;> omega) | (simp only [intOf] <;> omega))⟩
              | (refine ⟨?_, by (first | omega | (simp [intOf] <;> omega) | (simp only [intOf] <;> omega))⟩
                 (repeat apply Exists.intro)
                 refine (fun a b => And.intro b a) ?_ ?_
                 · first | rfl | ((repeat refine ⟨rfl, ?_⟩); rfl)
                 exact ⟨k + 1, E, by omega, by go_num, rfl, hnext.out, Hb8.out.alloc Hb8.out.size _⟩)
            · have hX := HB.new wr (rgc ⟨gb, gn, gr, false, gx, gs⟩) 33
              have hbX := (Below.refl wr.heap.size wr).alloc (Nat.le_refl _) (.cells (rgc ⟨gb, gn, gr, false, gx, gs⟩).toArray 33)
              obtain ⟨wX, hwX⟩ : ∃ wX, wr.alloc (.cells #[.int .u64 gb, .int .u64 gn, .bool gr, .bool false, .bool gx, .bool gs] 33) = wX := ⟨_, rfl⟩
              have hwX' : wr.alloc (.cells (rgc ⟨gb, gn, gr, false, gx, gs⟩).toArray 33) = wX := hwX
              rw [hwX'] at hX hbX
              have HX := Lib.hid hX
              have HbX := Lib.hid hbX
              have HwX := fun (_ : Unit) => Lib.hid hwX
              clear hX hbX hwX hwX'
              go_wp2_with fail
              rw [(HwX ()).out]
              refine (Hfd.out _ HbX.out).mono ?_
              rintro e w8 ⟨rfl, hb8⟩
              have hX8 := HX.out.later hb8
              have Hb8 := Lib.hid (Hbx.out.trans ((HbX.out.trans (hb8.mono HbX.out.size)).mono Hbx.out.size))
              have x0 := fun o => (hX8.alloc o).cell (i := 0) rfl
              have x1 := fun o => (hX8.alloc o).cell (i := 1) rfl
              have x2 := fun o => (hX8.alloc o).cell (i := 2) rfl
              have x3 := fun o => (hX8.alloc o).cell (i := 3) rfl
              have x4 := fun o => (hX8.alloc o).cell (i := 4) rfl
              have x5 := fun o => (hX8.alloc o).cell (i := 5) rfl
              clear hb8 hX8 c0 c1 c2 c3 c4 c5 HwX HX HbX Hfd
              generalize wr.heap.size = XX at *
              go_wp2_with fail
              first
              | (go_roundw
                 case rel => exact ⟨k + 1, E, by omega, by go_num, rfl, hnext.out, Hb8.out.alloc Hb8.out.size _⟩
                 case measure => (first | omega | (simp [intOf] <;> omega) | (simp only [intOf] <;> omega)))
              | exact ⟨⟨k + 1, E, by omega, by go_num, rfl, hnext.out, Hb8.out.alloc Hb8.out.size _⟩, by (first | omega | (simp [intOf] <;> omega) | (simp only [intOf] <;> omega))⟩
              | (refine ⟨?_, by (first | omega | (simp [intOf] <;> omega) | (simp only [intOf] <;> omega))⟩
                 (repeat apply Exists.intro)
                 refine (fun a b => And.intro b a) ?_ ?_
                 · first | rfl | ((repeat refine ⟨rfl, ?_⟩); rfl)
                 exact ⟨k + 1, E, by omega, by go_num, rfl, hnext.out, Hb8.out.alloc Hb8.out.size _⟩)
          · have q1 : ¬ (k : Int) < ((t').length : Int) := by omega
            have HRz := Lib.hid (HR6.out.later hbx)
            have Hbz := Lib.hid (Hb6.out.trans (hbx.mono (Nat.le_of_lt HR6.out.h.lt)))
            have Hlz := Lib.hid (Nat.lt_of_lt_of_le HR6.out.h.lt hbx.size)
            go_wp2_with fail
            first
            | (go_roundw
               case rel => exact ⟨i + 1, _, _, _, by omega, by go_num, HRz.out, Hbz.out, Hlz.out⟩
               case measure => (first | omega | (simp [intOf] <;> omega) | (simp only [intOf] <;> omega)))
            | exact ⟨⟨i + 1, _, _, _, by omega, by go_num, HRz.out, Hbz.out, Hlz.out⟩, by (first | omega | (simp [intOf] <;> omega) | (simp only [intOf] <;> omega))⟩
            | (refine ⟨?_, by (first | omega | (simp [intOf] <;> omega) | (simp only [intOf] <;> omega))⟩
               (repeat apply Exists.intro)
               refine (fun a b => And.intro b a) ?_ ?_
               · first | rfl | ((repeat refine ⟨rfl, ?_⟩); rfl)
               exact ⟨i + 1, _, _, _, by omega, by go_num, HRz.out, Hbz.out, Hlz.out⟩)
      · have i0 : ¬ (o.kind : Int) = 2 := hkd
        have d1 := hcl 1 _ rfl
        have d2 := hcl 2 _ rfl
        have d3 := hcl 3 _ rfl
        have d4 := hcl 4 _ rfl
        have d5 := hcl 5 _ rfl
        have d6 := hcl 6 _ rfl
        have Hc := Lib.hid (add_any HR.out (Nat.le_of_lt Hlt.out) o.r hook.r)
        unfold rgv at Hc
        obtain ⟨t', ht'⟩ : ∃ t', (addR t o.r).1 = t' := ⟨_, rfl⟩
        rw [ht'] at Hc
        clear hcl ho hook hkd ht'
        go_wp2_with fail
        refine Hc.out.mono ?_
        rintro e w5 ⟨rfl, tv', hT⟩
        clear d0 d1 d2 d3 d4 d5 d6 i0
        have HR5 := Lib.hid hT.r
        have Hb5 := Lib.hid (Hb.out.trans (turned_below HR.out hT))
        have Hl5 := Lib.hid (Nat.lt_of_lt_of_le Hlt.out hT.f.size)
        clear hT Hc HR Hb
        go_wp2_with fail
        refine (regions_any HR5.out).mono ?_
        rintro e w6 ⟨v6, rfl, ho6, hb6⟩
        have HR6 := Lib.hid (HR5.out.later hb6)
        have Hb6 := Lib.hid (Hb5.out.trans (hb6.mono (Nat.le_of_lt HR5.out.h.lt)))
        obtain ⟨a6, c6, rfl, -, -, hr6, -⟩ := ho6.rd rgc_len
        have Hr6 := Lib.hid hr6
        have h16 := HR6.out.tb.n
        have h16' : ¬ (16 : Int) < ((t').length : Int) := by omega
        clear ho6 hb6 hr6 HR5 Hb5
        go_upto_region 15 with fail
        clear h16'
        go_loopw [6, 7, 8, 9, 10] (fun fv kv _ _ _ wx => KIn t' w6 fv kv wx) (fun _ kv _ _ _ _ => (t').length - (intOf kv).toNat)
        case atStart => exact ⟨0, 1073741824, Nat.zero_le _, rfl, rfl, fun j x _ hx => (HR6.out.tb.at hx).2.1, Below.refl _ _⟩
        case round =>
          obtain ⟨k, F, hk, rfl, rfl, hF, hbx⟩ := hrel
          have Hbx := Lib.hid hbx
          have HF := Lib.hid hF
          clear hF
          by_cases hkl : k < (t').length
          · have q1 : (k : Int) < ((t').length : Int) := by omega
            obtain ⟨g, hg⟩ : ∃ g, (t')[k]? = some g := ⟨_, List.getElem?_eq_getElem hkl⟩
            have hat := HR6.out.tb.at hg
            have hok := HR6.out.tb.ok g (List.mem_of_getElem? hg)
            have hFg := HF.out k g (Nat.le_refl _) hg
            have hnext : Hid (∀ (j : Nat) (x : Rg), k + 1 ≤ j → (t')[j]? = some x → g.base + g.size ≤ x.base) := Lib.hid (fun j x hj hx => HR6.out.tb.lt hg hx (by omega))
            have hfs := fR_some (findR_some (a := g.base + g.size - 1) HR6.out.tb hg (has_iff.2 ⟨by omega, by omega⟩))
            have Hfd := Lib.hid (fun w' (h : Below wr.heap.size wr w') => find_any (HR6.out.later (hbx.trans (h.mono hbx.size))) (g.base + g.size - 1))
            rw [hfs] at Hfd
            clear hfs
            obtain ⟨b0, o0, rfl, -, hcl⟩ := (Hr6.out.below hbx) k g hg
            have c0 : wr.cell? ⟨b0, o0 + k * 6, none⟩ = _ := hcl 0 _ rfl
            have c1 := hcl 1 _ rfl
            have c2 := hcl 2 _ rfl
            have c3 := hcl 3 _ rfl
            have c4 := hcl 4 _ rfl
            have c5 := hcl 5 _ rfl
            clear hcl hg
            obtain ⟨gb, gn, gr, gw, gx, gs⟩ := g
            unfold rgv at Hfd
            dsimp only at *
            have heq := fun w => rg_equal ⟨gb, gn, gr, gw, gx, gs⟩ ⟨gb, gn, gr, gw, gx, gs⟩ w
            rw [decide_eq_true rfl] at heq
            dsimp only at heq
            have hguard : Try.prog.eqGuardType Try.prog.depth 33 = false := by kernel_rfl
            obtain ⟨o, ho⟩ : ∃ o, gb - 1073741824 = o := ⟨_, rfl⟩
            have p1 : (gb : Int) - 1073741824 = (o : Int) := by omega
            obtain ⟨q, hq⟩ : ∃ q, 65536 - o = q := ⟨_, rfl⟩
            have p2 : (65536 : Int) - (o : Int) = (q : Int) := by omega
            obtain ⟨E, hE⟩ : ∃ E, gb + gn = E := ⟨_, rfl⟩
            have p3 : (gb : Int) + (gn : Int) = (E : Int) := by omega
            rw [hE] at Hfd hnext
            obtain ⟨E1, hE1⟩ : ∃ E1, E - 1 = E1 := ⟨_, rfl⟩
            have p4 : (E : Int) - 1 = (E1 : Int) := by omega
            rw [hE1] at Hfd
            have p5 : ¬ (gb : Int) < (F : Int) := by omega
            have p6 : ¬ (gn : Int) = 0 := by omega
            have p7 : ¬ (65536 : Int) ≤ (o : Int) := by omega
            have p8 : ¬ (q : Int) < (gn : Int) := by omega
            have p9 : E ≤ 1073807360 ∧ 1073741824 ≤ gb ∧ 1 ≤ E := by omega
            have p0 : (gw = true ∧ gx = false) ∨ gw = false := by
              have := hok.2.2
              cases gw <;> cases gx <;> simp_all
            clear hat hok hFg ho hq hE hE1
            rcases p0 with ⟨rfl, rfl⟩ | rfl
            · have hX := HB.new wr (rgc ⟨gb, gn, gr, true, false, gs⟩) 33
              have hbX := (Below.refl wr.heap.size wr).alloc (Nat.le_refl _) (.cells (rgc ⟨gb, gn, gr, true, false, gs⟩).toArray 33)
              obtain ⟨wX, hwX⟩ : ∃ wX, wr.alloc (.cells #[.int .u64 gb, .int .u64 gn, .bool gr, .bool true, .bool false, .bool gs] 33) = wX := ⟨_, rfl⟩
              have hwX' : wr.alloc (.cells (rgc ⟨gb, gn, gr, true, false, gs⟩).toArray 33) = wX := hwX
              rw [hwX'] at hX hbX
              have HX := Lib.hid hX
              have HbX := Lib.hid hbX
              have HwX := fun (_ : Unit) => Lib.hid hwX
              clear hX hbX hwX hwX'
              go_wp2_with fail
              rw [(HwX ()).out]
              refine (Hfd.out _ HbX.out).mono ?_
              rintro e w8 ⟨rfl, hb8⟩
              have hX8 := HX.out.later hb8
              have Hb8 := Lib.hid (Hbx.out.trans ((HbX.out.trans (hb8.mono HbX.out.size)).mono Hbx.out.size))
              have x0 := fun o => (hX8.alloc o).cell (i := 0) rfl
              have x1 := fun o => (hX8.alloc o).cell (i := 1) rfl
              have x2 := fun o => (hX8.alloc o).cell (i := 2) rfl
              have x3 := fun o => (hX8.alloc o).cell (i := 3) rfl
              have x4 := fun o => (hX8.alloc o).cell (i := 4) rfl
              have x5 := fun o => (hX8.alloc o).cell (i := 5) rfl
              clear hb8 hX8 c0 c1 c2 c3 c4 c5 HwX HX HbX Hfd
              generalize wr.heap.size = XX at *
              go_wp2_with fail
              first
              | (go_roundw
                 case rel => exact ⟨k + 1, E, by omega, by go_num, rfl, hnext.out, Hb8.out.alloc Hb8.out.size _⟩
                 case measure => (first | omega | (simp [intOf] <;> omega) | (simp only [intOf] <;> omega)))
              | exact ⟨⟨k + 1, E, by omega, by go_num, rfl, hnext.out, Hb8.out.alloc Hb8.out.size _⟩, by (first | omega | (simp [intOf] <;> omega) | (simp only [intOf] <;> omega))⟩
              | (refine ⟨?_, by (first | omega | (simp [intOf] <;> omega) | (simp only [intOf] <;> omega))⟩
                 (repeat apply Exists.intro)
                 refine (fun a b => And.intro b a) ?_ ?_
                 · first | rfl | ((repeat refine ⟨rfl, ?_⟩); rfl)
                 exact ⟨k + 1, E, by omega, by go_num, rfl, hnext.out, Hb8.out.alloc Hb8.out.size _⟩)
            · have hX := HB.new wr (rgc ⟨gb, gn, gr, false, gx, gs⟩) 33
              have hbX := (Below.refl wr.heap.size wr).alloc (Nat.le_refl _) (.cells (rgc ⟨gb, gn, gr, false, gx, gs⟩).toArray 33)
              obtain ⟨wX, hwX⟩ : ∃ wX, wr.alloc (.cells #[.int .u64 gb, .int .u64 gn, .bool gr, .bool false, .bool gx, .bool gs] 33) = wX := ⟨_, rfl⟩
              have hwX' : wr.alloc (.cells (rgc ⟨gb, gn, gr, false, gx, gs⟩).toArray 33) = wX := hwX
              rw [hwX'] at hX hbX
              have HX := Lib.hid hX
              have HbX := Lib.hid hbX
              have HwX := fun (_ : Unit) => Lib.hid hwX
              clear hX hbX hwX hwX'
              go_wp2_with fail
              rw [(HwX ()).out]
              refine (Hfd.out _ HbX.out).mono ?_
              rintro e w8 ⟨rfl, hb8⟩
              have hX8 := HX.out.later hb8
              have Hb8 := Lib.hid (Hbx.out.trans ((HbX.out.trans (hb8.mono HbX.out.size)).mono Hbx.out.size))
              have x0 := fun o => (hX8.alloc o).cell (i := 0) rfl
              have x1 := fun o => (hX8.alloc o).cell (i := 1) rfl
              have x2 := fun o => (hX8.alloc o).cell (i := 2) rfl
              have x3 := fun o => (hX8.alloc o).cell (i := 3) rfl
              have x4 := fun o => (hX8.alloc o).cell (i := 4) rfl
              have x5 := fun o => (hX8.alloc o).cell (i := 5) rfl
              clear hb8 hX8 c0 c1 c2 c3 c4 c5 HwX HX HbX Hfd
              generalize wr.heap.size = XX at *
              go_wp2_with fail
              first
              | (go_roundw
                 case rel => exact ⟨k + 1, E, by omega, by go_num, rfl, hnext.out, Hb8.out.alloc Hb8.out.size _⟩
                 case measure => (first | omega | (simp [intOf] <;> omega) | (simp only [intOf] <;> omega)))
              | exact ⟨⟨k + 1, E, by omega, by go_num, rfl, hnext.out, Hb8.out.alloc Hb8.out.size _⟩, by (first | omega | (simp [intOf] <;> omega) | (simp only [intOf] <;> omega))⟩
              | (refine ⟨?_, by (first | omega | (simp [intOf] <;> omega) | (simp only [intOf] <;> omega))⟩
                 (repeat apply Exists.intro)
                 refine (fun a b => And.intro b a) ?_ ?_
                 · first | rfl | ((repeat refine ⟨rfl, ?_⟩); rfl)
                 exact ⟨k + 1, E, by omega, by go_num, rfl, hnext.out, Hb8.out.alloc Hb8.out.size _⟩)
          · have q1 : ¬ (k : Int) < ((t').length : Int) := by omega
            have HRz := Lib.hid (HR6.out.later hbx)
            have Hbz := Lib.hid (Hb6.out.trans (hbx.mono (Nat.le_of_lt HR6.out.h.lt)))
            have Hlz := Lib.hid (Nat.lt_of_lt_of_le HR6.out.h.lt hbx.size)
            go_wp2_with fail
            first
            | (go_roundw
               case rel => exact ⟨i + 1, _, _, _, by omega, by go_num, HRz.out, Hbz.out, Hlz.out⟩
               case measure => (first | omega | (simp [intOf] <;> omega) | (simp only [intOf] <;> omega)))
            | exact ⟨⟨i + 1, _, _, _, by omega, by go_num, HRz.out, Hbz.out, Hlz.out⟩, by (first | omega | (simp [intOf] <;> omega) | (simp only [intOf] <;> omega))⟩
            | (refine ⟨?_, by (first | omega | (simp [intOf] <;> omega) | (simp only [intOf] <;> omega))⟩
               (repeat apply Exists.intro)
               refine (fun a b => And.intro b a) ?_ ?_
               · first | rfl | ((repeat refine ⟨rfl, ?_⟩); rfl)
               exact ⟨i + 1, _, _, _, by omega, by go_num, HRz.out, Hbz.out, Hlz.out⟩)
    · have hdone : (i < n ∧ ¬ i < 300) ∨ ¬ i < n := by omega
      have HBf := Lib.hid Hb.out
      clear hgo
      rcases hdone with ⟨hx1, hx2⟩ | hx1
      · have f1 : (i : Int) < (n : Int) := by omega
        have f2 : ¬ (i : Int) < 300 := by omega
        clear hx1 hx2
        go_wp2_with fail
        go_ret
        exact ⟨rfl, by rw [(HRr ()).out]; exact HBf.out⟩
      · have f1 : ¬ (i : Int) < (n : Int) := by omega
        clear hx1
        go_wp2_with fail
        go_ret
        exact ⟨rfl, by rw [(HRr ()).out]; exact HBf.out⟩
set_option maxRecDepth 100000 in
theorem walk {H : Type} (enc : TypeId × Value → H) (W : World) (base : Nat) (v0 : Value) (d0 : DataW H) (p0 : List MemPlace)
    (k0 : Value.okWide Try.prog W .any base 41 v0)
    (h0 : DataW.Trod enc Try.prog W 0 (fun _ => true) true 41 v0 d0 p0)
    (hsz : (DataW.weightsEach Try.prog [41] ([d0] ++ [])).all (· ≤ reachBytes) = true) :
    Calls Try.prog 4 #[v0] W fun e w' => e = .returned (.bool true) ∧ Below W.heap.size W w' := by
  simp only [List.cons_append, List.nil_append, DataW.weightsEach] at hsz
  obtain ⟨hz, -⟩ := all_app hsz
  obtain ⟨a1, n, cap, l, rfl, hl, hn, hc, hr, -, hok⟩ := open_ors k0 h0 hz
  exact core W a1 n cap l hl (by omega) hr hok
end Go.Proofs.Ytcbiohpgmooefaa.ramApart
