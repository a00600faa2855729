/- Any script of RAM: the walk. No condition. -/
import Derived.Test.YtcbiohpgmooefaaRrV
import Derived.Test.YtcbiohpgmooefaaRrW
import Derived.Test.YtcbiohpgmooefaaRmL
namespace Go.Proofs.Ytcbiohpgmooefaa.ramPlays
open Go.ChangeShapes Go.WideShapes Go.ChangeAt Go.RowKit
set_option linter.unusedVariables false
set_option linter.unusedSimpArgs false
attribute [local go_sem ↓] build_rref Go.wp_at_zero Go.wp_at_succ
theorem step_any {A B : Nat} {m : List UInt8} {t : List Rg} {va vb : Value} {w W : World} (h : Tw A B m m t t va vb w) (o : OpR) (hok : o.Ok W) (hc : o.cap ≤ 140737488351232) (hb : Below A W w) (hA : W.heap.size ≤ A) :
    Calls Try.prog 16 #[.pointer (some ⟨A, 0, none⟩), .pointer (some ⟨B, 0, none⟩), orv o] w fun e w' => e = .returned (.bool true) ∧ Stepped A B w w' := by
  have hl : o.l.length ≤ 140737488351232 := Nat.le_trans hok.c hc
  have hd : ∀ w', Below A w w' → Rd w' o.ao o.l := fun w' h' => hok.d.below ((hb.trans h').mono hA)
  by_cases h1 : o.kind = 1
  · exact step1 h o h1 hok.r
  by_cases h2 : o.kind = 2
  · exact step2 h o h2
  by_cases h3 : o.kind = 3
  · exact step3 h o h3
  by_cases h4 : o.kind = 4
  · exact step4 h o h4 hok.x
  by_cases h5 : o.kind = 5
  · exact step5 h o h5 hok.x
  by_cases h7 : o.kind = 7
  · exact step7 h o h7 hok.x hl hok.z hd
  by_cases h9 : o.kind = 9
  · exact step9 h o h9 hok.x (by omega) hd
  by_cases h11 : o.kind = 11
  · exact step11 h o h11
  exact step0 h o hok.x h1 h2 h3 h4 h5 h7 h9 h11
structure RIn (A B n : Nat) (W : World) (iv : Value) (wr : World) : Prop where
  x : ∃ (i : Nat) (m : List UInt8) (t : List Rg) (va vb : Value), i ≤ n ∧ iv = .int .i64 (i : Nat) ∧ Tw A B m m t t va vb wr ∧ Below A W wr
set_option maxRecDepth 100000 in
set_option maxHeartbeats 1000000 in
theorem core (W : World) (a1 : Option Addr) (n c1 : Nat) (ops : List OpR) (hl1 : ops.length = n) (hn1 : n ≤ 140737488351232) (hr1 : RdS orc 12 W a1 ops) (hok : ∀ o ∈ ops, OpR.Ok W o ∧ o.cap ≤ 140737488351232) :
    Calls Try.prog 5 #[.slice a1 n c1] W fun e w' => e = .returned (.bool true) ∧ Below W.heap.size W w' := by
  have hz := run_buildRef
  have H1 := Lib.hid (And.intro hl1 hn1)
  have Hok := Lib.hid hok
  have Hr1 := Lib.hid (fun w' (h : Below W.heap.size W w') => hr1.below h)
  clear hl1 hn1 hr1 hok
  have HZ := Lib.hid (fun (w : World) => HB.new w (ramC m0 (.slice none 0 0)) 51)
  have HZb := Lib.hid (fun (w : World) => (Below.refl w.heap.size w).alloc (Nat.le_refl _) (.cells (ramC m0 (.slice none 0 0)).toArray 51))
  have HMk : Hid (∀ (A : Nat) (w w3 : World), RamM A A m0 (.slice none 0 0) [] w → w.alloc (.cells (ramC m0 (.slice none 0 0)).toArray 51) = w3 → Tw A w.heap.size m0 m0 [] [] (.slice none 0 0) (.slice none 0 0) w3 ∧ Below w.heap.size w w3) := Lib.hid (fun A w w3 hr he => by
    subst he
    have hb := (Below.refl w.heap.size w).alloc (Nat.le_refl _) (.cells (ramC m0 (.slice none 0 0)).toArray 51)
    exact ⟨⟨hr.later hb, ⟨HB.new _ _ _, m0_len, OwnS.nil _ _, Tab.nil, Nat.le_of_lt hr.h.lt, (fun h => by cases h)⟩, hr.h.lt, (fun h => by cases h), (fun h => by cases h), (fun q h => by cases h)⟩, hb⟩)
  generalize ramC m0 (.slice none 0 0) = z at *
  go_enter Try.func5, Try.ntmps5
  go_wp2_with fail
  refine (new_any _).mono ?_
  rintro e w2 ⟨rfl, hR, hb2⟩
  obtain ⟨A, hA⟩ : ∃ A, W.heap.size = A := ⟨_, rfl⟩
  have HA := fun (_ : Unit) => Lib.hid hA
  rw [hA] at hR hb2 Hr1 ⊢
  obtain ⟨w3, hw3⟩ : ∃ w3, w2.alloc (.cells z.toArray 51) = w3 := ⟨_, rfl⟩
  obtain ⟨hT, hb3⟩ := HMk.out A w2 w3 hR hw3
  obtain ⟨B, hB⟩ : ∃ B, w2.heap.size = B := ⟨_, rfl⟩
  rw [hB] at hT
  have HT3 := Lib.hid hT
  have Hb3 := Lib.hid (hb2.trans (hb3.mono (Nat.le_of_lt hR.h.lt)))
  clear hT hb3 hb2 hR HMk HZ HZb hA
  go_wp2_with fail
  refine (alive_any _).mono ?_
  rintro e w4 ⟨rfl, hb4⟩
  have HI : Hid (RIn A B n W (.int .i64 (0 : Nat)) w4) := Lib.hid ⟨0, _, _, _, _, Nat.zero_le _, rfl, HT3.out.later hb4, Hb3.out.trans (hb4.mono (Nat.le_of_lt HT3.out.lt.1))⟩
  clear hb4 HT3 Hb3 hw3 hB
  go_upto_region 6 with fail
  go_loopw [5, 6] (fun i _ wr => RIn A B n W i wr) (fun i _ _ => n - (intOf i).toNat)
  case atStart => exact HI.out
  case round =>
    clear HI
    obtain ⟨i, m, t, va, vb, hi, rfl, hT, hb⟩ := hrel
    have HT := Lib.hid hT
    have Hb := Lib.hid hb
    have hn1 := H1.out.2
    clear hT hb
    by_cases hgo : i < n ∧ i < 300
    · have f1 : (i : Int) < (n : Int) := by omega
      have f2 : (i : Int) < 300 := by omega
      obtain ⟨o, ho⟩ : ∃ o, ops[i]? = some o := ⟨_, List.getElem?_eq_getElem (by rw [H1.out.1]; exact hgo.1)⟩
      have hook := Hok.out o (List.mem_of_getElem? ho)
      obtain ⟨b1, o1, rfl, -, hcl⟩ := Hr1.out _ Hb.out i o ho
      have d0 : wr.cell? ⟨b1, o1 + i * 12, none⟩ = _ := hcl 0 _ rfl
      have d1 := hcl 1 _ rfl
      have d2 := hcl 2 _ rfl
      have d3 := hcl 3 _ rfl
      have d4 := hcl 4 _ rfl
      have d5 := hcl 5 _ rfl
      have d6 := hcl 6 _ rfl
      have d7 := hcl 7 _ rfl
      have d8 := hcl 8 _ rfl
      have d9 := hcl 9 _ rfl
      have d10 := hcl 10 _ rfl
      have d11 := hcl 11 _ rfl
      have Hc := Lib.hid (step_any HT.out o hook.1 hook.2 Hb.out (Nat.le_of_eq (HA ()).out))
      unfold orv at Hc
      clear hcl ho hook hgo
      go_wp2_with fail
      refine Hc.out.mono ?_
      rintro e w5 ⟨rfl, hS⟩
      have HS := Lib.hid hS
      have Hb5 := Lib.hid (Hb.out.trans hS.b)
      clear hS Hc d0 d1 d2 d3 d4 d5 d6 d7 d8 d9 d10 d11
      go_wp2_with fail
      obtain ⟨m5, t5, va5, vb5, hT5⟩ := HS.out.x
      first
      | (go_roundw
         case rel => exact ⟨i + 1, _, _, _, _, by omega, by go_num, hT5, Hb5.out⟩
         case measure => (first | omega | (simp [intOf] <;> omega) | (simp only [intOf] <;> omega)))
      | exact ⟨⟨i + 1, _, _, _, _, by omega, by go_num, hT5, Hb5.out⟩, by (first | omega | (simp [intOf] <;> omega) | (simp only [intOf] <;> omega))⟩
      | (refine ⟨?_, by (first | omega | (simp [intOf] <;> omega) | (simp only [intOf] <;> omega))⟩
         (repeat apply Exists.intro)
         refine (fun a b => And.intro b a) ?_ ?_
         · first | rfl | ((repeat refine ⟨rfl, ?_⟩); rfl)
         exact ⟨i + 1, _, _, _, _, by omega, by go_num, hT5, Hb5.out⟩)
    · have hdone : (i < n ∧ ¬ i < 300) ∨ ¬ i < n := by omega
      clear hgo
      have Hp := Lib.hid (peek_any HT.out.a 1073741824 65536 (by decide))
      rw [if_pos (show inRam 1073741824 65536 = true from by decide), if_pos (show inRam 1073741824 65536 = true from by decide)] at Hp
      rw [show ((1073741824 : Nat) : Int) = 1073741824 from rfl, show ((65536 : Nat) : Int) = 65536 from rfl] at Hp
      rcases hdone with ⟨hx1, hx2⟩ | hx1
      · have f1 : (i : Int) < (n : Int) := by omega
        have f2 : ¬ (i : Int) < 300 := by omega
        clear hx1 hx2
        go_wp2_with fail
        refine Hp.out.mono ?_
        rintro e w5 ⟨v5, rfl, ho5, hb5⟩
        have HT5 := Lib.hid (HT.out.later hb5)
        have Hb5 := Lib.hid (Hb.out.trans (hb5.mono (Nat.le_of_lt HT.out.lt.1)))
        have Ho5 := Lib.hid ho5
        clear ho5 hb5 Hp HT Hb
        go_upto_region 12 with fail
        have hd0 : Drn w5 w5.drew := ⟨1, rfl⟩
        have HT6 := Lib.hid (HT5.out.later (hd0.below _))
        have Ho6 := Lib.hid (Ho5.out.later (hd0.below _))
        have Hb6 := Lib.hid (Hb5.out.trans (hd0.below _))
        have Hg := Lib.hid (rget_any HT6.out.b 1073741824 65536 (by decide))
        rw [show ((1073741824 : Nat) : Int) = 1073741824 from rfl, show ((65536 : Nat) : Int) = 65536 from rfl] at Hg
        have hlen : (getR m (1073741824 - 1073741824) 65536).length = 65536 := getR_len (by rw [HT6.out.a.l]; decide)
        generalize getR m (1073741824 - 1073741824) 65536 = L at *
        have Hlen := Lib.hid hlen
        refine wp_region_held_drew (S := fun w' => w'.cell? ⟨B, 65536, none⟩ = some vb) (by kernel_rfl) HT6.out.b.tab (fun hHeld => ?_)
        clear HT5 Ho5 Hb5 hd0 hlen
        refine wpAnyH_take (i := 0) (v := ?_) (by simp only [List.getElem?_toArray, List.getElem?_cons_succ, List.getElem?_cons_zero]; rfl) (by kernel_rfl) (by kernel_rfl) (by kernel_rfl) (by intro _ _ _ h_; exact h_) (Or.inl ⟨by rfl, ?_⟩) (by assumption) ?_
        rotate_left 1
        focus (intro w_ hSw_; go_simp; try with_reducible rfl)
        simp only [Act.put, List.setIfInBounds_toArray, List.set_cons_zero, List.set_cons_succ]
        refine wpAnyH_take (i := 1) (v := ?_) (by simp only [List.getElem?_toArray, List.getElem?_cons_succ, List.getElem?_cons_zero]; rfl) (by kernel_rfl) (by kernel_rfl) (by kernel_rfl) (by intro _ _ _ h_; exact h_) (Or.inl ⟨by rfl, ?_⟩) (by assumption) ?_
        rotate_left 1
        focus (intro w_ hSw_; go_simp; try with_reducible rfl)
        simp only [Act.put, List.setIfInBounds_toArray, List.set_cons_zero, List.set_cons_succ]
        refine wpAnyH_take (i := 2) (v := ?_) (by simp only [List.getElem?_toArray, List.getElem?_cons_succ, List.getElem?_cons_zero]; rfl) (by kernel_rfl) (by kernel_rfl) (by kernel_rfl) (by intro _ _ _ h_; exact h_) (Or.inl ⟨by rfl, ?_⟩) (by assumption) ?_
        rotate_left 1
        focus (intro w_ hSw_; go_simp; try with_reducible rfl)
        simp only [Act.put, List.setIfInBounds_toArray, List.set_cons_zero, List.set_cons_succ]
        refine wpAnyH_take (i := 3) (v := ?_) (by simp only [List.getElem?_toArray, List.getElem?_cons_succ, List.getElem?_cons_zero]; rfl) (by kernel_rfl) (by kernel_rfl) (by kernel_rfl) (by intro _ _ _ h_; exact h_) (Or.inl ⟨by rfl, ?_⟩) (by assumption) ?_
        rotate_left 1
        focus (intro w_ hSw_; go_simp; try with_reducible rfl)
        simp only [Act.put, List.setIfInBounds_toArray, List.set_cons_zero, List.set_cons_succ]
        refine wpAnyH_take (i := 4) (v := ?_) (by simp only [List.getElem?_toArray, List.getElem?_cons_succ, List.getElem?_cons_zero]; rfl) (by kernel_rfl) (by kernel_rfl) (by kernel_rfl) (by intro _ _ _ h_; exact h_) (Or.inl ⟨by rfl, ?_⟩) (by assumption) ?_
        rotate_left 1
        focus (intro w_ hSw_; go_simp; try with_reducible rfl)
        simp only [Act.put, List.setIfInBounds_toArray, List.set_cons_zero, List.set_cons_succ]
        refine wpAnyH_ready (rs := [5]) (by kernel_rfl) (by simp) ?_
        refine AllReadyH.cons (by simp only [List.getElem?_toArray, List.getElem?_cons_succ, List.getElem?_cons_zero]; rfl) (fun K hK => ?_) AllReadyH.nil
        go_simp
        refine Hg.out.mono ?_
        rintro e w7 ⟨v7, rfl, ho7, hb7⟩
        have HT7 := Lib.hid (HT6.out.later hb7)
        have Ho7 := Ho6.out.later hb7
        have Hb7 := Lib.hid (Hb6.out.trans (hb7.mono (Nat.le_of_lt HT6.out.lt.1)))
        obtain ⟨a5, c5, rfl, -, -, hr5⟩ := Ho7.rd
        obtain ⟨a7, c7, rfl, -, -, hr7⟩ := ho7.rd
        have Hs := Lib.hid (same_any a5 a7 L.length L.length c5 c7 L L w7 rfl rfl (by rw [Hlen.out]; decide) (by rw [Hlen.out]; decide) hr5 hr7)
        rw [decide_eq_true rfl] at Hs
        clear hHeld ho7 Ho7 hb7 hr5 hr7 Ho6 HT6 Hb6 Hg
        go_wp2_with fail
        refine hK.out _ _ HT7.out.b.tab (fun hHeld => ?_)
        clear hK K
        try simp only [Act.put, List.setIfInBounds_toArray, List.set_cons_zero, List.set_cons_succ]
        refine wpAnyH_ready (rs := [6]) (by kernel_rfl) (by simp) ?_
        refine AllReadyH.cons (by simp only [List.getElem?_toArray, List.getElem?_cons_succ, List.getElem?_cons_zero]; rfl) (fun K hK => ?_) AllReadyH.nil
        go_simp
        refine Hs.out.mono ?_
        rintro e w8 ⟨rfl, hd8⟩
        have HT8 := Lib.hid (HT7.out.later (hd8.below _))
        have Hb8 := Lib.hid (Hb7.out.trans (hd8.below _))
        have Hg := Lib.hid (regions_any HT8.out.a)
        clear hHeld hd8 HT7 Hb7 Hs
        go_wp2_with fail
        refine hK.out _ _ HT8.out.b.tab (fun hHeld => ?_)
        clear hK K
        try simp only [Act.put, List.setIfInBounds_toArray, List.set_cons_zero, List.set_cons_succ]
        refine wpAnyH_take (i := 7) (v := ?_) (by simp only [List.getElem?_toArray, List.getElem?_cons_succ, List.getElem?_cons_zero]; rfl) (by kernel_rfl) (by kernel_rfl) (by kernel_rfl) (by intro _ _ _ h_; exact h_) (Or.inl ⟨by rfl, ?_⟩) (by assumption) ?_
        rotate_left 1
        focus (intro w_ hSw_; go_simp; try with_reducible rfl)
        simp only [Act.put, List.setIfInBounds_toArray, List.set_cons_zero, List.set_cons_succ]
        refine wpAnyH_take (i := 8) (v := ?_) (by simp only [List.getElem?_toArray, List.getElem?_cons_succ, List.getElem?_cons_zero]; rfl) (by kernel_rfl) (by kernel_rfl) (by kernel_rfl) (by intro _ _ _ h_; exact h_) (Or.inl ⟨by rfl, ?_⟩) (by assumption) ?_
        rotate_left 1
        focus (intro w_ hSw_; go_simp; try with_reducible rfl)
        simp only [Act.put, List.setIfInBounds_toArray, List.set_cons_zero, List.set_cons_succ]
        refine wpAnyH_take (i := 9) (v := ?_) (by simp only [List.getElem?_toArray, List.getElem?_cons_succ, List.getElem?_cons_zero]; rfl) (by kernel_rfl) (by kernel_rfl) (by kernel_rfl) (by intro _ _ _ h_; exact h_) (Or.inl ⟨by rfl, ?_⟩) (by assumption) ?_
        rotate_left 1
        focus (intro w_ hSw_; go_simp; try with_reducible rfl)
        simp only [Act.put, List.setIfInBounds_toArray, List.set_cons_zero, List.set_cons_succ]
        refine wpAnyH_take (i := 11) (v := ?_) (by simp only [List.getElem?_toArray, List.getElem?_cons_succ, List.getElem?_cons_zero]; rfl) (by kernel_rfl) (by kernel_rfl) (by kernel_rfl) (by intro _ _ _ h_; exact h_) (Or.inl ⟨by rfl, ?_⟩) (by assumption) ?_
        rotate_left 1
        focus (intro w_ hSw_; go_simp; try with_reducible rfl)
        simp only [Act.put, List.setIfInBounds_toArray, List.set_cons_zero, List.set_cons_succ]
        refine wpAnyH_take (i := 12) (v := ?_) (by simp only [List.getElem?_toArray, List.getElem?_cons_succ, List.getElem?_cons_zero]; rfl) (by kernel_rfl) (by kernel_rfl) (by kernel_rfl) (by intro _ _ _ h_; exact h_) (Or.inl ⟨by rfl, ?_⟩) (by assumption) ?_
        rotate_left 1
        focus (intro w_ hSw_; go_simp; try with_reducible rfl)
        simp only [Act.put, List.setIfInBounds_toArray, List.set_cons_zero, List.set_cons_succ]
        refine wpAnyH_take (i := 13) (v := ?_) (by simp only [List.getElem?_toArray, List.getElem?_cons_succ, List.getElem?_cons_zero]; rfl) (by kernel_rfl) (by kernel_rfl) (by kernel_rfl) (by intro _ _ _ h_; exact h_) (Or.inl ⟨by rfl, ?_⟩) (by assumption) ?_
        rotate_left 1
        focus (intro w_ hSw_; go_simp; try with_reducible rfl)
        simp only [Act.put, List.setIfInBounds_toArray, List.set_cons_zero, List.set_cons_succ]
        refine wpAnyH_take (i := 14) (v := ?_) (by simp only [List.getElem?_toArray, List.getElem?_cons_succ, List.getElem?_cons_zero]; rfl) (by kernel_rfl) (by kernel_rfl) (by kernel_rfl) (by intro _ _ _ h_; exact h_) (Or.inl ⟨by rfl, ?_⟩) (by assumption) ?_
        rotate_left 1
        focus (intro w_ hSw_; go_simp; try with_reducible rfl)
        simp only [Act.put, List.setIfInBounds_toArray, List.set_cons_zero, List.set_cons_succ]
        refine wpAnyH_ready (rs := [10]) (by kernel_rfl) (by simp) ?_
        refine AllReadyH.cons (by simp only [List.getElem?_toArray, List.getElem?_cons_succ, List.getElem?_cons_zero]; rfl) (fun K hK => ?_) AllReadyH.nil
        go_simp
        refine Hg.out.mono ?_
        rintro e w9 ⟨v9, rfl, ho9, hb9⟩
        have HT9 := Lib.hid (HT8.out.later hb9)
        have Hb9 := Lib.hid (Hb8.out.trans (hb9.mono (Nat.le_of_lt HT8.out.lt.1)))
        obtain ⟨a9, c9, rfl, -, -, hr9, -⟩ := ho9.rd rgc_len
        have Htab := Lib.hid HT9.out.b.tab
        obtain ⟨bo, bc, rfl, -, -, hrb, -⟩ := HT9.out.b.tv
        have Hs := Lib.hid (samer_any a9 bo t.length c9 bc t w9 rfl (by have := HT9.out.a.tb.n; omega) hr9 hrb)
        clear hHeld ho9 hb9 hr9 hrb HT8 Hb8 Hg
        go_wp2_with fail
        refine hK.out _ _ Htab.out (fun hHeld => ?_)
        clear hK K
        try simp only [Act.put, List.setIfInBounds_toArray, List.set_cons_zero, List.set_cons_succ]
        refine wpAnyH_ready (rs := [15]) (by kernel_rfl) (by simp) ?_
        refine AllReadyH.cons (by simp only [List.getElem?_toArray, List.getElem?_cons_succ, List.getElem?_cons_zero]; rfl) (fun K hK => ?_) AllReadyH.nil
        go_simp
        refine Hs.out.mono ?_
        rintro e w10 ⟨rfl, hd10⟩
        have Hb10 := Lib.hid (Hb9.out.trans (hd10.below _))
        have HT10 := Lib.hid (HT9.out.later (hd10.below _))
        clear hHeld hd10 Hs HT9 Hb9 Htab
        go_wp2_with fail
        refine hK.out _ _ HT10.out.b.tab (fun hHeld => ?_)
        clear hK K
        try simp only [Act.put, List.setIfInBounds_toArray, List.set_cons_zero, List.set_cons_succ]
        refine wpAnyH_take (i := 16) (v := ?_) (by simp only [List.getElem?_toArray, List.getElem?_cons_succ, List.getElem?_cons_zero]; rfl) (by kernel_rfl) (by kernel_rfl) (by kernel_rfl) (by intro _ _ _ h_; exact h_) (Or.inl ⟨by rfl, ?_⟩) (by assumption) ?_
        rotate_left 1
        focus (intro w_ hSw_; go_simp; try with_reducible rfl)
        simp only [Act.put, List.setIfInBounds_toArray, List.set_cons_zero, List.set_cons_succ]
        refine wpAnyH_take (i := 17) (v := ?_) (by simp only [List.getElem?_toArray, List.getElem?_cons_succ, List.getElem?_cons_zero]; rfl) (by kernel_rfl) (by kernel_rfl) (by kernel_rfl) (by intro _ _ _ h_; exact h_) (Or.inl ⟨by rfl, ?_⟩) (by assumption) ?_
        rotate_left 1
        focus (intro w_ hSw_; go_simp; try with_reducible rfl)
        simp only [Act.put, List.setIfInBounds_toArray, List.set_cons_zero, List.set_cons_succ]
        refine wpAnyH_done (by kernel_rfl) ?_ _
        clear hHeld
        go_wp2_with fail
        go_ret
        exact ⟨rfl, by rw [(HA ()).out]; exact Hb10.out⟩
      · have f1 : ¬ (i : Int) < (n : Int) := by omega
        clear hx1
        go_wp2_with fail
        refine Hp.out.mono ?_
        rintro e w5 ⟨v5, rfl, ho5, hb5⟩
        have HT5 := Lib.hid (HT.out.later hb5)
        have Hb5 := Lib.hid (Hb.out.trans (hb5.mono (Nat.le_of_lt HT.out.lt.1)))
        have Ho5 := Lib.hid ho5
        clear ho5 hb5 Hp HT Hb
        go_upto_region 12 with fail
        have hd0 : Drn w5 w5.drew := ⟨1, rfl⟩
        have HT6 := Lib.hid (HT5.out.later (hd0.below _))
        have Ho6 := Lib.hid (Ho5.out.later (hd0.below _))
        have Hb6 := Lib.hid (Hb5.out.trans (hd0.below _))
        have Hg := Lib.hid (rget_any HT6.out.b 1073741824 65536 (by decide))
        rw [show ((1073741824 : Nat) : Int) = 1073741824 from rfl, show ((65536 : Nat) : Int) = 65536 from rfl] at Hg
        have hlen : (getR m (1073741824 - 1073741824) 65536).length = 65536 := getR_len (by rw [HT6.out.a.l]; decide)
        generalize getR m (1073741824 - 1073741824) 65536 = L at *
        have Hlen := Lib.hid hlen
        refine wp_region_held_drew (S := fun w' => w'.cell? ⟨B, 65536, none⟩ = some vb) (by kernel_rfl) HT6.out.b.tab (fun hHeld => ?_)
        clear HT5 Ho5 Hb5 hd0 hlen
        refine wpAnyH_take (i := 0) (v := ?_) (by simp only [List.getElem?_toArray, List.getElem?_cons_succ, List.getElem?_cons_zero]; rfl) (by kernel_rfl) (by kernel_rfl) (by kernel_rfl) (by intro _ _ _ h_; exact h_) (Or.inl ⟨by rfl, ?_⟩) (by assumption) ?_
        rotate_left 1
        focus (intro w_ hSw_; go_simp; try with_reducible rfl)
        simp only [Act.put, List.setIfInBounds_toArray, List.set_cons_zero, List.set_cons_succ]
        refine wpAnyH_take (i := 1) (v := ?_) (by simp only [List.getElem?_toArray, List.getElem?_cons_succ, List.getElem?_cons_zero]; rfl) (by kernel_rfl) (by kernel_rfl) (by kernel_rfl) (by intro _ _ _ h_; exact h_) (Or.inl ⟨by rfl, ?_⟩) (by assumption) ?_
        rotate_left 1
        focus (intro w_ hSw_; go_simp; try with_reducible rfl)
        simp only [Act.put, List.setIfInBounds_toArray, List.set_cons_zero, List.set_cons_succ]
        refine wpAnyH_take (i := 2) (v := ?_) (by simp only [List.getElem?_toArray, List.getElem?_cons_succ, List.getElem?_cons_zero]; rfl) (by kernel_rfl) (by kernel_rfl) (by kernel_rfl) (by intro _ _ _ h_; exact h_) (Or.inl ⟨by rfl, ?_⟩) (by assumption) ?_
        rotate_left 1
        focus (intro w_ hSw_; go_simp; try with_reducible rfl)
        simp only [Act.put, List.setIfInBounds_toArray, List.set_cons_zero, List.set_cons_succ]
        refine wpAnyH_take (i := 3) (v := ?_) (by simp only [List.getElem?_toArray, List.getElem?_cons_succ, List.getElem?_cons_zero]; rfl) (by kernel_rfl) (by kernel_rfl) (by kernel_rfl) (by intro _ _ _ h_; exact h_) (Or.inl ⟨by rfl, ?_⟩) (by assumption) ?_
        rotate_left 1
        focus (intro w_ hSw_; go_simp; try with_reducible rfl)
        simp only [Act.put, List.setIfInBounds_toArray, List.set_cons_zero, List.set_cons_succ]
        refine wpAnyH_take (i := 4) (v := ?_) (by simp only [List.getElem?_toArray, List.getElem?_cons_succ, List.getElem?_cons_zero]; rfl) (by kernel_rfl) (by kernel_rfl) (by kernel_rfl) (by intro _ _ _ h_; exact h_) (Or.inl ⟨by rfl, ?_⟩) (by assumption) ?_
        rotate_left 1
        focus (intro w_ hSw_; go_simp; try with_reducible rfl)
        simp only [Act.put, List.setIfInBounds_toArray, List.set_cons_zero, List.set_cons_succ]
        refine wpAnyH_ready (rs := [5]) (by kernel_rfl) (by simp) ?_
        refine AllReadyH.cons (by simp only [List.getElem?_toArray, List.getElem?_cons_succ, List.getElem?_cons_zero]; rfl) (fun K hK => ?_) AllReadyH.nil
        go_simp
        refine Hg.out.mono ?_
        rintro e w7 ⟨v7, rfl, ho7, hb7⟩
        have HT7 := Lib.hid (HT6.out.later hb7)
        have Ho7 := Ho6.out.later hb7
        have Hb7 := Lib.hid (Hb6.out.trans (hb7.mono (Nat.le_of_lt HT6.out.lt.1)))
        obtain ⟨a5, c5, rfl, -, -, hr5⟩ := Ho7.rd
        obtain ⟨a7, c7, rfl, -, -, hr7⟩ := ho7.rd
        have Hs := Lib.hid (same_any a5 a7 L.length L.length c5 c7 L L w7 rfl rfl (by rw [Hlen.out]; decide) (by rw [Hlen.out]; decide) hr5 hr7)
        rw [decide_eq_true rfl] at Hs
        clear hHeld ho7 Ho7 hb7 hr5 hr7 Ho6 HT6 Hb6 Hg
        go_wp2_with fail
        refine hK.out _ _ HT7.out.b.tab (fun hHeld => ?_)
        clear hK K
        try simp only [Act.put, List.setIfInBounds_toArray, List.set_cons_zero, List.set_cons_succ]
        refine wpAnyH_ready (rs := [6]) (by kernel_rfl) (by simp) ?_
        refine AllReadyH.cons (by simp only [List.getElem?_toArray, List.getElem?_cons_succ, List.getElem?_cons_zero]; rfl) (fun K hK => ?_) AllReadyH.nil
        go_simp
        refine Hs.out.mono ?_
        rintro e w8 ⟨rfl, hd8⟩
        have HT8 := Lib.hid (HT7.out.later (hd8.below _))
        have Hb8 := Lib.hid (Hb7.out.trans (hd8.below _))
        have Hg := Lib.hid (regions_any HT8.out.a)
        clear hHeld hd8 HT7 Hb7 Hs
        go_wp2_with fail
        refine hK.out _ _ HT8.out.b.tab (fun hHeld => ?_)
        clear hK K
        try simp only [Act.put, List.setIfInBounds_toArray, List.set_cons_zero, List.set_cons_succ]
        refine wpAnyH_take (i := 7) (v := ?_) (by simp only [List.getElem?_toArray, List.getElem?_cons_succ, List.getElem?_cons_zero]; rfl) (by kernel_rfl) (by kernel_rfl) (by kernel_rfl) (by intro _ _ _ h_; exact h_) (Or.inl ⟨by rfl, ?_⟩) (by assumption) ?_
        rotate_left 1
        focus (intro w_ hSw_; go_simp; try with_reducible rfl)
        simp only [Act.put, List.setIfInBounds_toArray, List.set_cons_zero, List.set_cons_succ]
        refine wpAnyH_take (i := 8) (v := ?_) (by simp only [List.getElem?_toArray, List.getElem?_cons_succ, List.getElem?_cons_zero]; rfl) (by kernel_rfl) (by kernel_rfl) (by kernel_rfl) (by intro _ _ _ h_; exact h_) (Or.inl ⟨by rfl, ?_⟩) (by assumption) ?_
        rotate_left 1
        focus (intro w_ hSw_; go_simp; try with_reducible rfl)
        simp only [Act.put, List.setIfInBounds_toArray, List.set_cons_zero, List.set_cons_succ]
        refine wpAnyH_take (i := 9) (v := ?_) (by simp only [List.getElem?_toArray, List.getElem?_cons_succ, List.getElem?_cons_zero]; rfl) (by kernel_rfl) (by kernel_rfl) (by kernel_rfl) (by intro _ _ _ h_; exact h_) (Or.inl ⟨by rfl, ?_⟩) (by assumption) ?_
        rotate_left 1
        focus (intro w_ hSw_; go_simp; try with_reducible rfl)
        simp only [Act.put, List.setIfInBounds_toArray, List.set_cons_zero, List.set_cons_succ]
        refine wpAnyH_take (i := 11) (v := ?_) (by simp only [List.getElem?_toArray, List.getElem?_cons_succ, List.getElem?_cons_zero]; rfl) (by kernel_rfl) (by kernel_rfl) (by kernel_rfl) (by intro _ _ _ h_; exact h_) (Or.inl ⟨by rfl, ?_⟩) (by assumption) ?_
        rotate_left 1
        focus (intro w_ hSw_; go_simp; try with_reducible rfl)
        simp only [Act.put, List.setIfInBounds_toArray, List.set_cons_zero, List.set_cons_succ]
        refine wpAnyH_take (i := 12) (v := ?_) (by simp only [List.getElem?_toArray, List.getElem?_cons_succ, List.getElem?_cons_zero]; rfl) (by kernel_rfl) (by kernel_rfl) (by kernel_rfl) (by intro _ _ _ h_; exact h_) (Or.inl ⟨by rfl, ?_⟩) (by assumption) ?_
        rotate_left 1
        focus (intro w_ hSw_; go_simp; try with_reducible rfl)
        simp only [Act.put, List.setIfInBounds_toArray, List.set_cons_zero, List.set_cons_succ]
        refine wpAnyH_take (i := 13) (v := ?_) (by simp only [List.getElem?_toArray, List.getElem?_cons_succ, List.getElem?_cons_zero]; rfl) (by kernel_rfl) (by kernel_rfl) (by kernel_rfl) (by intro _ _ _ h_; exact h_) (Or.inl ⟨by rfl, ?_⟩) (by assumption) ?_
        rotate_left 1
        focus (intro w_ hSw_; go_simp; try with_reducible rfl)
        simp only [Act.put, List.setIfInBounds_toArray, List.set_cons_zero, List.set_cons_succ]
        refine wpAnyH_take (i := 14) (v := ?_) (by simp only [List.getElem?_toArray, List.getElem?_cons_succ, List.getElem?_cons_zero]; rfl) (by kernel_rfl) (by kernel_rfl) (by kernel_rfl) (by intro _ _ _ h_; exact h_) (Or.inl ⟨by rfl, ?_⟩) (by assumption) ?_
        rotate_left 1
        focus (intro w_ hSw_; go_simp; try with_reducible rfl)
        simp only [Act.put, List.setIfInBounds_toArray, List.set_cons_zero, List.set_cons_succ]
        refine wpAnyH_ready (rs := [10]) (by kernel_rfl) (by simp) ?_
        refine AllReadyH.cons (by simp only [List.getElem?_toArray, List.getElem?_cons_succ, List.getElem?_cons_zero]; rfl) (fun K hK => ?_) AllReadyH.nil
        go_simp
        refine Hg.out.mono ?_
        rintro e w9 ⟨v9, rfl, ho9, hb9⟩
        have HT9 := Lib.hid (HT8.out.later hb9)
        have Hb9 := Lib.hid (Hb8.out.trans (hb9.mono (Nat.le_of_lt HT8.out.lt.1)))
        obtain ⟨a9, c9, rfl, -, -, hr9, -⟩ := ho9.rd rgc_len
        have Htab := Lib.hid HT9.out.b.tab
        obtain ⟨bo, bc, rfl, -, -, hrb, -⟩ := HT9.out.b.tv
        have Hs := Lib.hid (samer_any a9 bo t.length c9 bc t w9 rfl (by have := HT9.out.a.tb.n; omega) hr9 hrb)
        clear hHeld ho9 hb9 hr9 hrb HT8 Hb8 Hg
        go_wp2_with fail
        refine hK.out _ _ Htab.out (fun hHeld => ?_)
        clear hK K
        try simp only [Act.put, List.setIfInBounds_toArray, List.set_cons_zero, List.set_cons_succ]
        refine wpAnyH_ready (rs := [15]) (by kernel_rfl) (by simp) ?_
        refine AllReadyH.cons (by simp only [List.getElem?_toArray, List.getElem?_cons_succ, List.getElem?_cons_zero]; rfl) (fun K hK => ?_) AllReadyH.nil
        go_simp
        refine Hs.out.mono ?_
        rintro e w10 ⟨rfl, hd10⟩
        have Hb10 := Lib.hid (Hb9.out.trans (hd10.below _))
        have HT10 := Lib.hid (HT9.out.later (hd10.below _))
        clear hHeld hd10 Hs HT9 Hb9 Htab
        go_wp2_with fail
        refine hK.out _ _ HT10.out.b.tab (fun hHeld => ?_)
        clear hK K
        try simp only [Act.put, List.setIfInBounds_toArray, List.set_cons_zero, List.set_cons_succ]
        refine wpAnyH_take (i := 16) (v := ?_) (by simp only [List.getElem?_toArray, List.getElem?_cons_succ, List.getElem?_cons_zero]; rfl) (by kernel_rfl) (by kernel_rfl) (by kernel_rfl) (by intro _ _ _ h_; exact h_) (Or.inl ⟨by rfl, ?_⟩) (by assumption) ?_
        rotate_left 1
        focus (intro w_ hSw_; go_simp; try with_reducible rfl)
        simp only [Act.put, List.setIfInBounds_toArray, List.set_cons_zero, List.set_cons_succ]
        refine wpAnyH_take (i := 17) (v := ?_) (by simp only [List.getElem?_toArray, List.getElem?_cons_succ, List.getElem?_cons_zero]; rfl) (by kernel_rfl) (by kernel_rfl) (by kernel_rfl) (by intro _ _ _ h_; exact h_) (Or.inl ⟨by rfl, ?_⟩) (by assumption) ?_
        rotate_left 1
        focus (intro w_ hSw_; go_simp; try with_reducible rfl)
        simp only [Act.put, List.setIfInBounds_toArray, List.set_cons_zero, List.set_cons_succ]
        refine wpAnyH_done (by kernel_rfl) ?_ _
        clear hHeld
        go_wp2_with fail
        go_ret
        exact ⟨rfl, by rw [(HA ()).out]; exact Hb10.out⟩
set_option maxRecDepth 100000 in
theorem walk {H : Type} (enc : TypeId × Value → H) (W : World) (base : Nat) (v0 : Value) (d0 : DataW H) (p0 : List MemPlace)
    (k0 : Value.okWide Try.prog W .any base 41 v0)
    (h0 : DataW.Trod enc Try.prog W 0 (fun _ => true) true 41 v0 d0 p0)
    (hsz : (DataW.weightsEach Try.prog [41] ([d0] ++ [])).all (· ≤ reachBytes) = true) :
    Calls Try.prog 5 #[v0] W fun e w' => e = .returned (.bool true) ∧ Below W.heap.size W w' := by
  simp only [List.cons_append, List.nil_append, DataW.weightsEach] at hsz
  obtain ⟨hz, -⟩ := all_app hsz
  obtain ⟨a1, n, cap, l, rfl, hl, hn, hc, hr, -, hok⟩ := open_ors_w k0 h0 hz
  exact core W a1 n cap l hl (by omega) hr hok
end Go.Proofs.Ytcbiohpgmooefaa.ramPlays
