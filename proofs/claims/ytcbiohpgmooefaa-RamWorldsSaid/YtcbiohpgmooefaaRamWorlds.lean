/- The other world stays out: the walk. No condition. -/
import Derived.Test.YtcbiohpgmooefaaRmW
import Derived.Test.YtcbiohpgmooefaaRmL
import Derived.Test.YtcbiohpgmooefaaOpenU
import Derived.BigQuiet
namespace Go.Proofs.Ytcbiohpgmooefaa.ramWorlds
open Go.ChangeShapes Go.WideShapes Go.ChangeAt Go.RowKit
set_option linter.unusedVariables false
set_option linter.unusedSimpArgs false
structure WIn (R n : Nat) (w1 : World) (iv : Value) (wr : World) : Prop where
  x : ∃ (i : Nat) (m : List UInt8) (tv : Value) (t : List Rg), i ≤ n ∧ iv = .int .i64 (i : Nat) ∧ RamM R R m tv t wr ∧ Below R w1 wr ∧ R < wr.heap.size
theorem turned_below {R : Nat} {m : List UInt8} {tv tv' : Value} {t t' : List Rg} {w w' : World} (h : RamM R R m tv t w) (ht : Turned R R m tv tv' t' w w') : Below R w w' :=
  ht.f.below (Nat.le_of_lt h.h.lt) (fun q hq => hq.elim (fun e => by omega) (fun e => (h.o.blk rgc_len q e).1))
theorem laid_below {R : Nat} {m m' : List UInt8} {tv : Value} {t : List Rg} {w w' : World} (h : RamM R R m tv t w) (ht : Laid R R m' tv t w w') : Below R w w' :=
  ht.f.below (Nat.le_of_lt h.h.lt) (fun q e => by omega)
def wsC (a1 : Option Addr) (n1 c1 : Nat) (a2 : Option Addr) (n2 c2 x : Nat) (a3 : Option Addr) (n3 c3 : Nat) : List Value := [.slice a1 n1 c1, .slice a2 n2 c2, .int .u64 x, .slice a3 n3 c3]
structure LIn (w7 : World) (iv : Value) (wr : World) : Prop where
  x : ∃ j : Nat, j ≤ 65536 ∧ iv = .int .i64 (j : Nat) ∧ Below w7.heap.size w7 wr
theorem getR_all {m : List UInt8} (h : m.length = 65536) : getR m (1073741824 - 1073741824) 65536 = m := by
  unfold getR
  rw [Nat.sub_self, List.drop_zero, List.take_of_length_le (by omega)]
theorem own_pos {w : World} {B : Nat} {v : Value} {l : List UInt8} (h : Own 5 w B v l) (h0 : 0 < l.length) : ∃ g C, v = .slice (some ⟨g, 0, none⟩) l.length C := by
  rcases h.cases with ⟨-, e⟩ | ⟨g, C, e, -⟩
  · rw [e] at h0; cases h0
  · exact ⟨g, C, e⟩
set_option maxRecDepth 100000 in
set_option maxHeartbeats 1000000 in
theorem core (W : World) (a1 : Option Addr) (n1 c1 : Nat) (tb : List Rg) (a2 : Option Addr) (n2 c2 : Nat) (fill : List UInt8) (x : Nat) (a3 : Option Addr) (n3 c3 : Nat) (b : List UInt8)
    (hl1 : tb.length = n1) (hn1 : n1 ≤ 140737488351232) (hr1 : RdS rgc 6 W a1 tb) (hok : ∀ g ∈ tb, RgOk g) (hl2 : fill.length = n2) (hn2 : n2 ≤ 140737488351232) (hc2 : n2 ≤ c2) (hr2 : Rd W a2 fill) (hx : x < 18446744073709551616) (hl3 : b.length = n3) (hn3 : n3 ≤ 140737488351232) (hr3 : Rd W a3 b) :
    Calls Try.prog 3 #[.agg #[.slice a1 n1 c1, .slice a2 n2 c2, .int .u64 x, .slice a3 n3 c3]] W fun e w' => e = .returned (.bool true) ∧ Below W.heap.size W w' := by
  have H1 := Lib.hid (And.intro hl1 hn1)
  have H2 := Lib.hid (And.intro hl2 (And.intro hn2 hc2))
  have H3 := Lib.hid (And.intro hl3 hn3)
  have Hok := Lib.hid hok
  have Hx := Lib.hid hx
  have Hr1 := Lib.hid (fun w' (h : Below W.heap.size W w') => hr1.below h)
  have Hr2 := Lib.hid (fun w' (h : Below W.heap.size W w') => hr2.below h)
  have Hr3 := Lib.hid (fun w' (h : Below W.heap.size W w') => hr3.below h)
  have hX := HB.new W (wsC a1 n1 c1 a2 n2 c2 x a3 n3 c3) 26
  have hb0 := (Below.refl W.heap.size W).alloc (Nat.le_refl _) (.cells (wsC a1 n1 c1 a2 n2 c2 x a3 n3 c3).toArray 26)
  obtain ⟨w0, hw0⟩ : ∃ w0, W.alloc (.cells #[.slice a1 n1 c1, .slice a2 n2 c2, .int .u64 x, .slice a3 n3 c3] 26) = w0 := ⟨_, rfl⟩
  have hw0' : W.alloc (.cells (wsC a1 n1 c1 a2 n2 c2 x a3 n3 c3).toArray 26) = w0 := hw0
  rw [hw0'] at hX hb0
  have k0 := hX.cell (i := 0) rfl
  have k1 := hX.cell (i := 1) rfl
  have k2 := hX.cell (i := 2) rfl
  have k3 := hX.cell (i := 3) rfl
  have k0' := fun q => (hX.drn (⟨q, rfl⟩ : Drn w0 (w0.drewN q))).cell (i := 0) rfl
  have k1' := fun q => (hX.drn (⟨q, rfl⟩ : Drn w0 (w0.drewN q))).cell (i := 1) rfl
  have k2' := fun q => (hX.drn (⟨q, rfl⟩ : Drn w0 (w0.drewN q))).cell (i := 2) rfl
  have k3' := fun q => (hX.drn (⟨q, rfl⟩ : Drn w0 (w0.drewN q))).cell (i := 3) rfl
  have Hb0 := Lib.hid hb0
  clear hX hb0 hw0' hl1 hn1 hr1 hok hl2 hn2 hc2 hr2 hx hl3 hn3 hr3
  go_enter Try.func3, Try.ntmps3
  go_wp2_with fail
  go_quiet (fail)
  obtain ⟨w1, hw1⟩ : ∃ w1, w0.drewN nq = w1 := ⟨_, rfl⟩
  have Hb1 : Hid (Below W.heap.size W w1) := Lib.hid (by rw [← hw1]; exact Hb0.out.trans ((⟨nq, rfl⟩ : Drn w0 (w0.drewN nq)).below _))
  rw [hw1]
  clear k0 k1 k2 k3 k0' k1' k2' k3' hw0 hw1 Hb0
  go_wp2_with fail
  refine (new_any _).mono ?_
  rintro e w2 ⟨rfl, hR, hb2⟩
  obtain ⟨R, hRr⟩ : ∃ R, w1.heap.size = R := ⟨_, rfl⟩
  rw [hRr] at hR hb2 ⊢
  have HW : Hid (∀ w', Below R w1 w' → Below W.heap.size W w') := Lib.hid (fun w' h => Hb1.out.trans (h.mono (by have := Hb1.out.size; omega)))
  have HR2 := Lib.hid hR
  have Hb2 := Lib.hid hb2
  clear hR hb2 hRr
  go_wp2_with fail
  refine (alive_any _).mono ?_
  rintro e w3 ⟨rfl, hb3⟩
  have HI : Hid (WIn R n1 w1 (.int .i64 (0 : Nat)) w3) := Lib.hid ⟨0, _, _, _, Nat.zero_le _, rfl, HR2.out.later hb3, Hb2.out.trans (hb3.mono (Nat.le_of_lt HR2.out.h.lt)), Nat.lt_of_lt_of_le HR2.out.h.lt hb3.size⟩
  clear hb3 HR2 Hb2 Hb1
  go_upto_region 6 with fail
  go_loopw [8] (fun i wr => WIn R n1 w1 i wr) (fun i _ => n1 - (intOf i).toNat)
  case atStart => exact HI.out
  case round =>
    clear HI
    obtain ⟨i, m, tv, t, hi, rfl, hR, hb, hlt⟩ := hrel
    have HR := Lib.hid hR
    have Hb := Lib.hid hb
    have Hlt := Lib.hid hlt
    have hn1 := H1.out.2
    clear hR hb hlt
    by_cases hgo : i < n1 ∧ i < 40
    · have f1 : (i : Int) < (n1 : Int) := by omega
      have f2 : (i : Int) < 40 := by omega
      obtain ⟨g, hg⟩ : ∃ g, tb[i]? = some g := ⟨_, List.getElem?_eq_getElem (by rw [H1.out.1]; exact hgo.1)⟩
      obtain ⟨b0, o0, rfl, hb0, hcl⟩ := Hr1.out _ (HW.out _ Hb.out) i g hg
      have c0 : wr.cell? ⟨b0, o0 + i * 6, none⟩ = _ := hcl 0 _ rfl
      have c1 := hcl 1 _ rfl
      have c2 := hcl 2 _ rfl
      have c3 := hcl 3 _ rfl
      have c4 := hcl 4 _ rfl
      have c5 := hcl 5 _ rfl
      have Ha := Lib.hid (add_any HR.out (Nat.le_of_lt Hlt.out) g (Hok.out g (List.mem_of_getElem? hg)))
      unfold rgv at Ha
      clear hcl hg hb0
      go_wp2_with fail
      refine Ha.out.mono ?_
      rintro e w5 ⟨rfl, tv', hT⟩
      have Hq := Lib.hid (And.intro hT.r (And.intro (Hb.out.trans (turned_below HR.out hT)) (Nat.lt_of_lt_of_le Hlt.out hT.f.size)))
      clear hT Ha c0 c1 c2 c3 c4 c5 HR Hb
      go_wp2_with fail
      first
      | (go_roundw
         case rel => exact ⟨i + 1, _, _, _, by omega, by go_num, Hq.out.1, Hq.out.2.1, Hq.out.2.2⟩
         case measure => (first | omega | (simp [intOf] <;> omega) | (simp only [intOf] <;> omega)))
      | exact ⟨⟨i + 1, _, _, _, by omega, by go_num, Hq.out.1, Hq.out.2.1, Hq.out.2.2⟩, by (first | omega | (simp [intOf] <;> omega) | (simp only [intOf] <;> omega))⟩
      | (refine ⟨?_, by (first | omega | (simp [intOf] <;> omega) | (simp only [intOf] <;> omega))⟩
         (repeat apply Exists.intro)
         refine (fun a b => And.intro b a) ?_ ?_
         · first | rfl | ((repeat refine ⟨rfl, ?_⟩); rfl)
         exact ⟨i + 1, _, _, _, by omega, by go_num, Hq.out.1, Hq.out.2.1, Hq.out.2.2⟩)
    · have hdone : (i < n1 ∧ ¬ i < 40) ∨ ¬ i < n1 := by omega
      clear hgo
      rcases hdone with ⟨hx1, hx2⟩ | hx1
      · have f1 : (i : Int) < (n1 : Int) := by omega
        have f2 : ¬ (i : Int) < 40 := by omega
        clear hx1 hx2
        go_upto_region 10 with fail
        clear f1 f2 hi hn1
        go_loopw [9] (fun i wr => WIn R n2 w1 i wr) (fun i _ => n2 - (intOf i).toNat)
        case atStart => exact ⟨0, _, _, _, Nat.zero_le _, rfl, HR.out, Hb.out, Hlt.out⟩
        case round =>
          clear HR Hb Hlt
          obtain ⟨k, m, tv, t, hk, rfl, hR, hb, hlt⟩ := hrel
          have HR := Lib.hid hR
          have Hb := Lib.hid hb
          have Hlt := Lib.hid hlt
          have hn2 := H2.out
          clear hR hb hlt
          by_cases hgo : k < n2 ∧ k < 64
          · have f1 : (k : Int) < (n2 : Int) := by omega
            have f2 : (k : Int) < 64 := by omega
            obtain ⟨b0, o0, rfl, hc⟩ := Hr2.out _ (HW.out _ Hb.out) k (by omega)
            have hkl : k < fill.length := by omega
            have e0 : IntKind.u64.wrap (k : Int) = (k : Int) := IntWalk.u64_in _ (by omega)
            have f3 : (k : Int) + 1 ≤ (c2 : Int) := by omega
            have f4 : ¬ c2 = k := by omega
            have hrd : ∀ w', Below wr.heap.size wr w' → Rd w' (some ⟨b0, o0 + k, none⟩) [fill[k]?.getD 0] := fun w' hb' j hj => by
              have hj0 : j = 0 := by simpa using hj
              subst hj0
              refine ⟨b0, o0 + k, rfl, ?_⟩
              have h := cell_later hb' hc
              simpa using h
            have Hp := Lib.hid (place_any HR.out (1073741824 + k * 1021) (some ⟨b0, o0 + k, none⟩) 1 (c2 - k) [fill[k]?.getD 0] (by omega) rfl (by decide) hrd)
            generalize (if inRam (1073741824 + k * 1021) 1 = true then spl m (1073741824 + k * 1021 - 1073741824) [fill[k]?.getD 0] else m) = m' at *
            generalize (if inRam (1073741824 + k * 1021) 1 = true then (0 : Int) else 161) = pe at *
            clear hrd hc hkl
            rw [show ((1073741824 + k * 1021 : Nat) : Int) = 1073741824 + (k : Int) * 1021 by omega] at Hp
            go_wp2_with fail
            refine Hp.out.mono ?_
            rintro e w5 ⟨rfl, hL⟩
            have Hq := Lib.hid (And.intro hL.r (And.intro (Hb.out.trans (laid_below HR.out hL)) (Nat.lt_of_lt_of_le Hlt.out hL.f.size)))
            clear hL Hp HR Hb e0
            go_wp2_with fail
            first
            | (go_roundw
               case rel => exact ⟨k + 1, _, _, _, by omega, by go_num, Hq.out.1, Hq.out.2.1, Hq.out.2.2⟩
               case measure => (first | omega | (simp [intOf] <;> omega) | (simp only [intOf] <;> omega)))
            | exact ⟨⟨k + 1, _, _, _, by omega, by go_num, Hq.out.1, Hq.out.2.1, Hq.out.2.2⟩, by (first | omega | (simp [intOf] <;> omega) | (simp only [intOf] <;> omega))⟩
            | (refine ⟨?_, by (first | omega | (simp [intOf] <;> omega) | (simp only [intOf] <;> omega))⟩
               (repeat apply Exists.intro)
               refine (fun a b => And.intro b a) ?_ ?_
               · first | rfl | ((repeat refine ⟨rfl, ?_⟩); rfl)
               exact ⟨k + 1, _, _, _, by omega, by go_num, Hq.out.1, Hq.out.2.1, Hq.out.2.2⟩)
          · have hdone : (k < n2 ∧ ¬ k < 64) ∨ ¬ k < n2 := by omega
            clear hgo
            rcases hdone with ⟨hx1, hx2⟩ | hx1
            · have f1 : (k : Int) < (n2 : Int) := by omega
              have f2 : ¬ (k : Int) < 64 := by omega
              clear hx1 hx2
              go_upto_region 13 with fail
              clear f1 f2 hk hn2
              have Hml := Lib.hid HR.out.l
              have Hpk := Lib.hid (peek_any HR.out 1073741824 65536 (by decide))
              rw [show inRam 1073741824 65536 = true from rfl, if_pos rfl, if_pos rfl, show getR m (1073741824 - 1073741824) 65536 = m from getR_all Hml.out] at Hpk
              go_wp2_with fail
              refine Hpk.out.mono ?_
              rintro e w5 ⟨v5, rfl, ho5, hb5⟩
              have HR5 := Lib.hid (HR.out.later hb5)
              have Hb5 := Lib.hid (Hb.out.trans (hb5.mono (Nat.le_of_lt Hlt.out)))
              have Ho5 := Lib.hid (ho5.mono (Nat.succ_le_of_lt Hlt.out))
              clear ho5 hb5 HR Hb Hpk
              have Hst := Lib.hid (store_any HR5.out false x a3 n3 c3 b Hx.out H3.out.1 (by have := H3.out.2; omega) (fun w' hb => Hr3.out _ (HW.out _ (Hb5.out.trans (hb.mono (Nat.le_of_lt HR5.out.h.lt))))))
              obtain ⟨E, hE⟩ : ∃ E, mayR t false 2 x n3 = E := ⟨_, rfl⟩
              have HE := fun (_ : Unit) => Lib.hid hE
              rw [hE] at Hst
              clear hE
              go_wp2_with fail
              refine Hst.out.mono ?_
              rintro e w6 ⟨rfl, hL⟩
              have HR6 := Lib.hid hL.r
              have Hb6 := Lib.hid (Hb5.out.trans (laid_below HR5.out hL))
              have Ho6 := Lib.hid (Ho5.out.frm hL.f (fun k hk e => by have := (own_blk Ho5.out hk).1; omega))
              clear hL Hst HR5 Hb5 Ho5
              obtain ⟨M, hM⟩ : ∃ M, putR m E x b = M := ⟨_, rfl⟩
              have HM := fun (_ : Unit) => Lib.hid hM
              rw [hM] at HR6
              clear hM
              have HMl := Lib.hid HR6.out.l
              have Hpk := Lib.hid (peek_any HR6.out 1073741824 65536 (by decide))
              rw [show inRam 1073741824 65536 = true from rfl, if_pos rfl, if_pos rfl, show getR M (1073741824 - 1073741824) 65536 = M from getR_all HMl.out] at Hpk
              go_wp2_with fail
              refine Hpk.out.mono ?_
              rintro e w7 ⟨v7, rfl, ho7, hb7⟩
              have HR7 := Lib.hid (HR6.out.later hb7)
              have Hb7 := Lib.hid (Hb6.out.trans (hb7.mono (Nat.le_of_lt HR6.out.h.lt)))
              have Ho7 := Lib.hid (ho7.mono (Nat.succ_le_of_lt HR6.out.h.lt))
              have Ho5 := Lib.hid (Ho6.out.later hb7)
              clear ho7 hb7 HR6 Hb6 Hpk Ho6
              obtain ⟨g5, C5, rfl⟩ := own_pos Ho5.out (by rw [Hml.out]; decide)
              obtain ⟨g7, C7, rfl⟩ := own_pos Ho7.out (by rw [HMl.out]; decide)
              have e5 := Hml.out
              have e7 := HMl.out
              rw [e5] at Ho5 ⊢
              rw [e7] at Ho7 ⊢
              clear e5 e7
              go_upto_region 19 with fail
              go_loopw [15, 16, 17, 18, 19] (fun iv _ _ _ _ wx => LIn w7 iv wx) (fun iv _ _ _ _ _ => 65536 - (intOf iv).toNat)
              case atStart => exact ⟨0, Nat.zero_le _, rfl, Below.refl _ _⟩
              case round =>
                obtain ⟨j, hj, rfl, hbx⟩ := hrel
                have Hbx := Lib.hid hbx
                by_cases hlt : j < 65536
                · have q1 : (j : Int) < 65536 := by omega
                  have c7 := (Ho7.out.later hbx).at.2.2.2.2.2.1 j hlt
                  have c5 := (Ho5.out.later hbx).at.2.2.2.2.2.1 j hlt
                  have HRx := Lib.hid (HR7.out.later hbx)
                  have Hb3 := Lib.hid (Hr3.out _ (HW.out _ (Hb7.out.trans (hbx.mono (Nat.le_of_lt HR7.out.h.lt)))))
                  obtain ⟨A, hA⟩ : ∃ A, 1073741824 + j = A := ⟨_, rfl⟩
                  have hA2 : (1073741824 : Int) + (j : Int) = (A : Int) := by omega
                  have hA3 : 1073741824 ≤ A ∧ A < 1073807360 := by omega
                  have e0 : IntKind.u64.wrap (j : Int) = (j : Int) := IntWalk.u64_in _ (by omega)
                  have HAj := fun (_ : Unit) => Lib.hid hA
                  clear hbx hA
                  have hcs : E ≠ 0 ∨ (E = 0 ∧ A < x) ∨ (E = 0 ∧ x ≤ A ∧ n3 ≤ A - x) ∨ (E = 0 ∧ x ≤ A ∧ A - x < n3) := by omega
                  have Hin := Lib.hid (fun h : E = 0 => inRam_iff.1 (mayR_in ((HE ()).out.trans h)))
                  rcases hcs with h0 | ⟨rfl, h0⟩ | ⟨rfl, h0, h00⟩ | ⟨rfl, h0, h00⟩
                  · have hsm : M[j]?.getD 0 = m[j]?.getD 0 := by rw [← (HM ()).out]; unfold putR; rw [if_neg h0]
                    have g1 : ((E : Int) == 0) = false := beq_false_of_ne h0
                    rw [hsm] at c7
                    have Hc5 := Lib.hid c5
                    have Hc7 := Lib.hid c7
                    have c5' := fun q => (⟨q, rfl⟩ : Drn wr (wr.drewN q)).cell ⟨g5, j, none⟩ |>.trans Hc5.out
                    have c7' := fun q => (⟨q, rfl⟩ : Drn wr (wr.drewN q)).cell ⟨g7, j, none⟩ |>.trans Hc7.out
                    generalize m[j]?.getD 0 = y at *
                    generalize M[j]?.getD 0 = y' at *
                    clear hsm h0
                    go_wp2_with fail
                    go_quiet (fail)
                    clear c5 c7 c5' c7'
                    go_wp2_with fail
                    first
                    | (go_roundw
                       case rel => exact ⟨j + 1, by omega, by go_num, Hbx.out.trans ((⟨_, rfl⟩ : Drn wr _).below _)⟩
                       case measure => (first | omega | (simp [intOf] <;> omega) | (simp only [intOf] <;> omega)))
                    | exact ⟨⟨j + 1, by omega, by go_num, Hbx.out.trans ((⟨_, rfl⟩ : Drn wr _).below _)⟩, by (first | omega | (simp [intOf] <;> omega) | (simp only [intOf] <;> omega))⟩
                    | (refine ⟨?_, by (first | omega | (simp [intOf] <;> omega) | (simp only [intOf] <;> omega))⟩
                       (repeat apply Exists.intro)
                       refine (fun a b => And.intro b a) ?_ ?_
                       · first | rfl | ((repeat refine ⟨rfl, ?_⟩); rfl)
                       exact ⟨j + 1, by omega, by go_num, Hbx.out.trans ((⟨_, rfl⟩ : Drn wr _).below _)⟩)
                  · have hsm : M[j]?.getD 0 = m[j]?.getD 0 := by
                      have h1 := Hin.out rfl
                      have h2 := (HAj ()).out
                      have h3 := H3.out.1
                      rw [← (HM ()).out]; unfold putR; rw [if_pos rfl, spl_out (by rw [Hml.out]; omega) (by omega)]
                    have g1 : ¬ (x : Int) ≤ (A : Int) := by omega
                    rw [hsm] at c7
                    have Hc5 := Lib.hid c5
                    have Hc7 := Lib.hid c7
                    have c5' := fun q => (⟨q, rfl⟩ : Drn wr (wr.drewN q)).cell ⟨g5, j, none⟩ |>.trans Hc5.out
                    have c7' := fun q => (⟨q, rfl⟩ : Drn wr (wr.drewN q)).cell ⟨g7, j, none⟩ |>.trans Hc7.out
                    generalize m[j]?.getD 0 = y at *
                    generalize M[j]?.getD 0 = y' at *
                    clear hsm h0
                    go_wp2_with fail
                    go_quiet (fail)
                    clear c5 c7 c5' c7'
                    go_wp2_with fail
                    first
                    | (go_roundw
                       case rel => exact ⟨j + 1, by omega, by go_num, Hbx.out.trans ((⟨_, rfl⟩ : Drn wr _).below _)⟩
                       case measure => (first | omega | (simp [intOf] <;> omega) | (simp only [intOf] <;> omega)))
                    | exact ⟨⟨j + 1, by omega, by go_num, Hbx.out.trans ((⟨_, rfl⟩ : Drn wr _).below _)⟩, by (first | omega | (simp [intOf] <;> omega) | (simp only [intOf] <;> omega))⟩
                    | (refine ⟨?_, by (first | omega | (simp [intOf] <;> omega) | (simp only [intOf] <;> omega))⟩
                       (repeat apply Exists.intro)
                       refine (fun a b => And.intro b a) ?_ ?_
                       · first | rfl | ((repeat refine ⟨rfl, ?_⟩); rfl)
                       exact ⟨j + 1, by omega, by go_num, Hbx.out.trans ((⟨_, rfl⟩ : Drn wr _).below _)⟩)
                  · have hsm : M[j]?.getD 0 = m[j]?.getD 0 := by
                      have h1 := Hin.out rfl
                      have h2 := (HAj ()).out
                      have h3 := H3.out.1
                      rw [← (HM ()).out]; unfold putR; rw [if_pos rfl, spl_out (by rw [Hml.out]; omega) (by omega)]
                    have g1 : (x : Int) ≤ (A : Int) := by omega
                    obtain ⟨D, hD⟩ : ∃ D, A - x = D := ⟨_, rfl⟩
                    have hD2 : (A : Int) - (x : Int) = (D : Int) := by omega
                    have g2 : ¬ (D : Int) < (n3 : Int) := by omega
                    have hn3 := H3.out.2
                    have e3 : IntKind.u64.wrap (n3 : Int) = (n3 : Int) := IntWalk.u64_in _ (by omega)
                    clear hD
                    rw [hsm] at c7
                    have Hc5 := Lib.hid c5
                    have Hc7 := Lib.hid c7
                    have c5' := fun q => (⟨q, rfl⟩ : Drn wr (wr.drewN q)).cell ⟨g5, j, none⟩ |>.trans Hc5.out
                    have c7' := fun q => (⟨q, rfl⟩ : Drn wr (wr.drewN q)).cell ⟨g7, j, none⟩ |>.trans Hc7.out
                    generalize m[j]?.getD 0 = y at *
                    generalize M[j]?.getD 0 = y' at *
                    clear hsm h0
                    go_wp2_with fail
                    go_quiet (fail)
                    clear c5 c7 c5' c7'
                    go_wp2_with fail
                    first
                    | (go_roundw
                       case rel => exact ⟨j + 1, by omega, by go_num, Hbx.out.trans ((⟨_, rfl⟩ : Drn wr _).below _)⟩
                       case measure => (first | omega | (simp [intOf] <;> omega) | (simp only [intOf] <;> omega)))
                    | exact ⟨⟨j + 1, by omega, by go_num, Hbx.out.trans ((⟨_, rfl⟩ : Drn wr _).below _)⟩, by (first | omega | (simp [intOf] <;> omega) | (simp only [intOf] <;> omega))⟩
                    | (refine ⟨?_, by (first | omega | (simp [intOf] <;> omega) | (simp only [intOf] <;> omega))⟩
                       (repeat apply Exists.intro)
                       refine (fun a b => And.intro b a) ?_ ?_
                       · first | rfl | ((repeat refine ⟨rfl, ?_⟩); rfl)
                       exact ⟨j + 1, by omega, by go_num, Hbx.out.trans ((⟨_, rfl⟩ : Drn wr _).below _)⟩)
                  · obtain ⟨g, hg, hgs, hgw⟩ := store_open (HE ()).out h0 (show A < x + n3 by omega)
                    have Hf := Lib.hid (find_any HRx.out A)
                    rw [fR_some hg] at Hf
                    obtain ⟨gb, gn, gr, gw, gx, gs⟩ := g
                    dsimp only at hgs hgw
                    subst hgs hgw
                    unfold rgv at Hf
                    dsimp only at Hf
                    obtain ⟨D, hD⟩ : ∃ D, A - x = D := ⟨_, rfl⟩
                    have hD2 : (A : Int) - (x : Int) = (D : Int) := by omega
                    have hl3 := H3.out.1
                    have hn3 := H3.out.2
                    have hsm : M[j]?.getD 0 = b[D]?.getD 0 := by
                      have h1 := Hin.out rfl
                      have h2 := (HAj ()).out
                      rw [← (HM ()).out]; unfold putR; rw [if_pos rfl, spl_in (by rw [Hml.out]; omega) (by omega) (by omega), show j - (x - 1073741824) = D by omega]
                    have g1 : (x : Int) ≤ (A : Int) := by omega
                    have g2 : (D : Int) < (n3 : Int) := by omega
                    have g3 : (0 : Int) ≤ (D : Int) := by omega
                    have e3 : IntKind.u64.wrap (n3 : Int) = (n3 : Int) := IntWalk.u64_in _ (by omega)
                    obtain ⟨b3, o3, rfl, hc3⟩ := Hb3.out D (by omega)
                    rw [hsm] at c7
                    have Hc7 := Lib.hid c7
                    have Hc3 := Lib.hid hc3
                    clear hD hg hsm h0 h00 c5 c7 hc3
                    go_wp2_with fail
                    refine Hf.out.mono ?_
                    rintro e w8 ⟨rfl, hb8⟩
                    have hb9 : Below wr.heap.size wr (w8.alloc (.cells #[.int .u64 gb, .int .u64 gn, .bool gr, .bool true, .bool gx, .bool false] 33)) := hb8.alloc hb8.size _
                    have hZ := HB.new w8 [.int .u64 gb, .int .u64 gn, .bool gr, .bool true, .bool gx, .bool false] 33
                    obtain ⟨w9, hw9⟩ : ∃ w9, w8.alloc (.cells #[.int .u64 gb, .int .u64 gn, .bool gr, .bool true, .bool gx, .bool false] 33) = w9 := ⟨_, rfl⟩
                    rw [hw9] at hb9
                    have hZ' : HB w9 w8.heap.size 33 [.int .u64 gb, .int .u64 gn, .bool gr, .bool true, .bool gx, .bool false] := by rw [← hw9]; exact hZ
                    have Hw9 := fun (_ : Unit) => Lib.hid hw9
                    have Hb9 := Lib.hid hb9
                    have HZ := Lib.hid hZ'
                    have Hc79 := Lib.hid (cell_later hb9 Hc7.out)
                    have Hc39 := Lib.hid (cell_later hb9 Hc3.out)
                    clear hb8 hb9 hZ hZ' hw9 Hf
                    go_upto_region 27 with fail
                    rw [(Hw9 ()).out]
                    have y7 := Hc79.out
                    have y3 := Hc39.out
                    have z3 := HZ.out.cell (i := 3) rfl
                    have z5 := HZ.out.cell (i := 5) rfl
                    have y7' := fun q => (⟨q, rfl⟩ : Drn w9 (w9.drewN q)).cell ⟨g7, j, none⟩ |>.trans Hc79.out
                    have y3' := fun q => (⟨q, rfl⟩ : Drn w9 (w9.drewN q)).cell ⟨b3, o3 + D, none⟩ |>.trans Hc39.out
                    have z3' := fun q => (HZ.out.drn (⟨q, rfl⟩ : Drn w9 (w9.drewN q))).cell (i := 3) rfl
                    have z5' := fun q => (HZ.out.drn (⟨q, rfl⟩ : Drn w9 (w9.drewN q))).cell (i := 5) rfl
                    clear Hw9 Hc7 Hc3 HRx Hb3
                    generalize b[D]?.getD 0 = y at *
                    generalize w8.heap.size = Z at *
                    go_quiet (fail)
                    clear y7 y3 z3 z5 y7' y3' z3' z5'
                    go_wp2_with fail
                    first
                    | (go_roundw
                       case rel => exact ⟨j + 1, by omega, by go_num, (Hbx.out.trans (Hb9.out.mono Hbx.out.size)).trans ((⟨_, rfl⟩ : Drn w9 _).below _)⟩
                       case measure => (first | omega | (simp [intOf] <;> omega) | (simp only [intOf] <;> omega)))
                    | exact ⟨⟨j + 1, by omega, by go_num, (Hbx.out.trans (Hb9.out.mono Hbx.out.size)).trans ((⟨_, rfl⟩ : Drn w9 _).below _)⟩, by (first | omega | (simp [intOf] <;> omega) | (simp only [intOf] <;> omega))⟩
                    | (refine ⟨?_, by (first | omega | (simp [intOf] <;> omega) | (simp only [intOf] <;> omega))⟩
                       (repeat apply Exists.intro)
                       refine (fun a b => And.intro b a) ?_ ?_
                       · first | rfl | ((repeat refine ⟨rfl, ?_⟩); rfl)
                       exact ⟨j + 1, by omega, by go_num, (Hbx.out.trans (Hb9.out.mono Hbx.out.size)).trans ((⟨_, rfl⟩ : Drn w9 _).below _)⟩)
                · have q1 : ¬ (j : Int) < 65536 := by omega
                  have HBf := Lib.hid (HW.out _ (Hb7.out.trans (Hbx.out.mono (Nat.le_of_lt HR7.out.h.lt))))
                  go_wp2_with fail
                  go_ret
                  exact ⟨rfl, HBf.out⟩
            · have f1 : ¬ (k : Int) < (n2 : Int) := by omega
              have f2 : True := trivial
              clear hx1
              go_upto_region 13 with fail
              clear f1 f2 hk hn2
              have Hml := Lib.hid HR.out.l
              have Hpk := Lib.hid (peek_any HR.out 1073741824 65536 (by decide))
              rw [show inRam 1073741824 65536 = true from rfl, if_pos rfl, if_pos rfl, show getR m (1073741824 - 1073741824) 65536 = m from getR_all Hml.out] at Hpk
              go_wp2_with fail
              refine Hpk.out.mono ?_
              rintro e w5 ⟨v5, rfl, ho5, hb5⟩
              have HR5 := Lib.hid (HR.out.later hb5)
              have Hb5 := Lib.hid (Hb.out.trans (hb5.mono (Nat.le_of_lt Hlt.out)))
              have Ho5 := Lib.hid (ho5.mono (Nat.succ_le_of_lt Hlt.out))
              clear ho5 hb5 HR Hb Hpk
              have Hst := Lib.hid (store_any HR5.out false x a3 n3 c3 b Hx.out H3.out.1 (by have := H3.out.2; omega) (fun w' hb => Hr3.out _ (HW.out _ (Hb5.out.trans (hb.mono (Nat.le_of_lt HR5.out.h.lt))))))
              obtain ⟨E, hE⟩ : ∃ E, mayR t false 2 x n3 = E := ⟨_, rfl⟩
              have HE := fun (_ : Unit) => Lib.hid hE
              rw [hE] at Hst
              clear hE
              go_wp2_with fail
              refine Hst.out.mono ?_
              rintro e w6 ⟨rfl, hL⟩
              have HR6 := Lib.hid hL.r
              have Hb6 := Lib.hid (Hb5.out.trans (laid_below HR5.out hL))
              have Ho6 := Lib.hid (Ho5.out.frm hL.f (fun k hk e => by have := (own_blk Ho5.out hk).1; omega))
              clear hL Hst HR5 Hb5 Ho5
              obtain ⟨M, hM⟩ : ∃ M, putR m E x b = M := ⟨_, rfl⟩
              have HM := fun (_ : Unit) => Lib.hid hM
              rw [hM] at HR6
              clear hM
              have HMl := Lib.hid HR6.out.l
              have Hpk := Lib.hid (peek_any HR6.out 1073741824 65536 (by decide))
              rw [show inRam 1073741824 65536 = true from rfl, if_pos rfl, if_pos rfl, show getR M (1073741824 - 1073741824) 65536 = M from getR_all HMl.out] at Hpk
              go_wp2_with fail
              refine Hpk.out.mono ?_
              rintro e w7 ⟨v7, rfl, ho7, hb7⟩
              have HR7 := Lib.hid (HR6.out.later hb7)
              have Hb7 := Lib.hid (Hb6.out.trans (hb7.mono (Nat.le_of_lt HR6.out.h.lt)))
              have Ho7 := Lib.hid (ho7.mono (Nat.succ_le_of_lt HR6.out.h.lt))
              have Ho5 := Lib.hid (Ho6.out.later hb7)
              clear ho7 hb7 HR6 Hb6 Hpk Ho6
              obtain ⟨g5, C5, rfl⟩ := own_pos Ho5.out (by rw [Hml.out]; decide)
              obtain ⟨g7, C7, rfl⟩ := own_pos Ho7.out (by rw [HMl.out]; decide)
              have e5 := Hml.out
              have e7 := HMl.out
              rw [e5] at Ho5 ⊢
              rw [e7] at Ho7 ⊢
              clear e5 e7
              go_upto_region 19 with fail
              go_loopw [15, 16, 17, 18, 19] (fun iv _ _ _ _ wx => LIn w7 iv wx) (fun iv _ _ _ _ _ => 65536 - (intOf iv).toNat)
              case atStart => exact ⟨0, Nat.zero_le _, rfl, Below.refl _ _⟩
              case round =>
                obtain ⟨j, hj, rfl, hbx⟩ := hrel
                have Hbx := Lib.hid hbx
                by_cases hlt : j < 65536
                · have q1 : (j : Int) < 65536 := by omega
                  have c7 := (Ho7.out.later hbx).at.2.2.2.2.2.1 j hlt
                  have c5 := (Ho5.out.later hbx).at.2.2.2.2.2.1 j hlt
                  have HRx := Lib.hid (HR7.out.later hbx)
                  have Hb3 := Lib.hid (Hr3.out _ (HW.out _ (Hb7.out.trans (hbx.mono (Nat.le_of_lt HR7.out.h.lt)))))
                  obtain ⟨A, hA⟩ : ∃ A, 1073741824 + j = A := ⟨_, rfl⟩
                  have hA2 : (1073741824 : Int) + (j : Int) = (A : Int) := by omega
                  have hA3 : 1073741824 ≤ A ∧ A < 1073807360 := by omega
                  have e0 : IntKind.u64.wrap (j : Int) = (j : Int) := IntWalk.u64_in _ (by omega)
                  have HAj := fun (_ : Unit) => Lib.hid hA
                  clear hbx hA
                  have hcs : E ≠ 0 ∨ (E = 0 ∧ A < x) ∨ (E = 0 ∧ x ≤ A ∧ n3 ≤ A - x) ∨ (E = 0 ∧ x ≤ A ∧ A - x < n3) := by omega
                  have Hin := Lib.hid (fun h : E = 0 => inRam_iff.1 (mayR_in ((HE ()).out.trans h)))
                  rcases hcs with h0 | ⟨rfl, h0⟩ | ⟨rfl, h0, h00⟩ | ⟨rfl, h0, h00⟩
                  · have hsm : M[j]?.getD 0 = m[j]?.getD 0 := by rw [← (HM ()).out]; unfold putR; rw [if_neg h0]
                    have g1 : ((E : Int) == 0) = false := beq_false_of_ne h0
                    rw [hsm] at c7
                    have Hc5 := Lib.hid c5
                    have Hc7 := Lib.hid c7
                    have c5' := fun q => (⟨q, rfl⟩ : Drn wr (wr.drewN q)).cell ⟨g5, j, none⟩ |>.trans Hc5.out
                    have c7' := fun q => (⟨q, rfl⟩ : Drn wr (wr.drewN q)).cell ⟨g7, j, none⟩ |>.trans Hc7.out
                    generalize m[j]?.getD 0 = y at *
                    generalize M[j]?.getD 0 = y' at *
                    clear hsm h0
                    go_wp2_with fail
                    go_quiet (fail)
                    clear c5 c7 c5' c7'
                    go_wp2_with fail
                    first
                    | (go_roundw
                       case rel => exact ⟨j + 1, by omega, by go_num, Hbx.out.trans ((⟨_, rfl⟩ : Drn wr _).below _)⟩
                       case measure => (first | omega | (simp [intOf] <;> omega) | (simp only [intOf] <;> omega)))
                    | exact ⟨⟨j + 1, by omega, by go_num, Hbx.out.trans ((⟨_, rfl⟩ : Drn wr _).below _)⟩, by (first | omega | (simp [intOf] <;> omega) | (simp only [intOf] <;> omega))⟩
                    | (refine ⟨?_, by (first | omega | (simp [intOf] <;> omega) | (simp only [intOf] <;> omega))⟩
                       (repeat apply Exists.intro)
                       refine (fun a b => And.intro b a) ?_ ?_
                       · first | rfl | ((repeat refine ⟨rfl, ?_⟩); rfl)
                       exact ⟨j + 1, by omega, by go_num, Hbx.out.trans ((⟨_, rfl⟩ : Drn wr _).below _)⟩)
                  · have hsm : M[j]?.getD 0 = m[j]?.getD 0 := by
                      have h1 := Hin.out rfl
                      have h2 := (HAj ()).out
                      have h3 := H3.out.1
                      rw [← (HM ()).out]; unfold putR; rw [if_pos rfl, spl_out (by rw [Hml.out]; omega) (by omega)]
                    have g1 : ¬ (x : Int) ≤ (A : Int) := by omega
                    rw [hsm] at c7
                    have Hc5 := Lib.hid c5
                    have Hc7 := Lib.hid c7
                    have c5' := fun q => (⟨q, rfl⟩ : Drn wr (wr.drewN q)).cell ⟨g5, j, none⟩ |>.trans Hc5.out
                    have c7' := fun q => (⟨q, rfl⟩ : Drn wr (wr.drewN q)).cell ⟨g7, j, none⟩ |>.trans Hc7.out
                    generalize m[j]?.getD 0 = y at *
                    generalize M[j]?.getD 0 = y' at *
                    clear hsm h0
                    go_wp2_with fail
                    go_quiet (fail)
                    clear c5 c7 c5' c7'
                    go_wp2_with fail
                    first
                    | (go_roundw
                       case rel => exact ⟨j + 1, by omega, by go_num, Hbx.out.trans ((⟨_, rfl⟩ : Drn wr _).below _)⟩
                       case measure => (first | omega | (simp [intOf] <;> omega) | (simp only [intOf] <;> omega)))
                    | exact ⟨⟨j + 1, by omega, by go_num, Hbx.out.trans ((⟨_, rfl⟩ : Drn wr _).below _)⟩, by (first | omega | (simp [intOf] <;> omega) | (simp only [intOf] <;> omega))⟩
                    | (refine ⟨?_, by (first | omega | (simp [intOf] <;> omega) | (simp only [intOf] <;> omega))⟩
                       (repeat apply Exists.intro)
                       refine (fun a b => And.intro b a) ?_ ?_
                       · first | rfl | ((repeat refine ⟨rfl, ?_⟩); rfl)
                       exact ⟨j + 1, by omega, by go_num, Hbx.out.trans ((⟨_, rfl⟩ : Drn wr _).below _)⟩)
                  · have hsm : M[j]?.getD 0 = m[j]?.getD 0 := by
                      have h1 := Hin.out rfl
                      have h2 := (HAj ()).out
                      have h3 := H3.out.1
                      rw [← (HM ()).out]; unfold putR; rw [if_pos rfl, spl_out (by rw [Hml.out]; omega) (by omega)]
                    have g1 : (x : Int) ≤ (A : Int) := by omega
                    obtain ⟨D, hD⟩ : ∃ D, A - x = D := ⟨_, rfl⟩
                    have hD2 : (A : Int) - (x : Int) = (D : Int) := by omega
                    have g2 : ¬ (D : Int) < (n3 : Int) := by omega
                    have hn3 := H3.out.2
                    have e3 : IntKind.u64.wrap (n3 : Int) = (n3 : Int) := IntWalk.u64_in _ (by omega)
                    clear hD
                    rw [hsm] at c7
                    have Hc5 := Lib.hid c5
                    have Hc7 := Lib.hid c7
                    have c5' := fun q => (⟨q, rfl⟩ : Drn wr (wr.drewN q)).cell ⟨g5, j, none⟩ |>.trans Hc5.out
                    have c7' := fun q => (⟨q, rfl⟩ : Drn wr (wr.drewN q)).cell ⟨g7, j, none⟩ |>.trans Hc7.out
                    generalize m[j]?.getD 0 = y at *
                    generalize M[j]?.getD 0 = y' at *
                    clear hsm h0
                    go_wp2_with fail
                    go_quiet (fail)
                    clear c5 c7 c5' c7'
                    go_wp2_with fail
                    first
                    | (go_roundw
                       case rel => exact ⟨j + 1, by omega, by go_num, Hbx.out.trans ((⟨_, rfl⟩ : Drn wr _).below _)⟩
                       case measure => (first | omega | (simp [intOf] <;> omega) | (simp only [intOf] <;> omega)))
                    | exact ⟨⟨j + 1, by omega, by go_num, Hbx.out.trans ((⟨_, rfl⟩ : Drn wr _).below _)⟩, by (first | omega | (simp [intOf] <;> omega) | (simp only [intOf] <;> omega))⟩
                    | (refine ⟨?_, by (first | omega | (simp [intOf] <;> omega) | (simp only [intOf] <;> omega))⟩
                       (repeat apply Exists.intro)
                       refine (fun a b => And.intro b a) ?_ ?_
                       · first | rfl | ((repeat refine ⟨rfl, ?_⟩); rfl)
                       exact ⟨j + 1, by omega, by go_num, Hbx.out.trans ((⟨_, rfl⟩ : Drn wr _).below _)⟩)
                  · obtain ⟨g, hg, hgs, hgw⟩ := store_open (HE ()).out h0 (show A < x + n3 by omega)
                    have Hf := Lib.hid (find_any HRx.out A)
                    rw [fR_some hg] at Hf
                    obtain ⟨gb, gn, gr, gw, gx, gs⟩ := g
                    dsimp only at hgs hgw
                    subst hgs hgw
                    unfold rgv at Hf
                    dsimp only at Hf
                    obtain ⟨D, hD⟩ : ∃ D, A - x = D := ⟨_, rfl⟩
                    have hD2 : (A : Int) - (x : Int) = (D : Int) := by omega
                    have hl3 := H3.out.1
                    have hn3 := H3.out.2
                    have hsm : M[j]?.getD 0 = b[D]?.getD 0 := by
                      have h1 := Hin.out rfl
                      have h2 := (HAj ()).out
                      rw [← (HM ()).out]; unfold putR; rw [if_pos rfl, spl_in (by rw [Hml.out]; omega) (by omega) (by omega), show j - (x - 1073741824) = D by omega]
                    have g1 : (x : Int) ≤ (A : Int) := by omega
                    have g2 : (D : Int) < (n3 : Int) := by omega
                    have g3 : (0 : Int) ≤ (D : Int) := by omega
                    have e3 : IntKind.u64.wrap (n3 : Int) = (n3 : Int) := IntWalk.u64_in _ (by omega)
                    obtain ⟨b3, o3, rfl, hc3⟩ := Hb3.out D (by omega)
                    rw [hsm] at c7
                    have Hc7 := Lib.hid c7
                    have Hc3 := Lib.hid hc3
                    clear hD hg hsm h0 h00 c5 c7 hc3
                    go_wp2_with fail
                    refine Hf.out.mono ?_
                    rintro e w8 ⟨rfl, hb8⟩
                    have hb9 : Below wr.heap.size wr (w8.alloc (.cells #[.int .u64 gb, .int .u64 gn, .bool gr, .bool true, .bool gx, .bool false] 33)) := hb8.alloc hb8.size _
                    have hZ := HB.new w8 [.int .u64 gb, .int .u64 gn, .bool gr, .bool true, .bool gx, .bool false] 33
                    obtain ⟨w9, hw9⟩ : ∃ w9, w8.alloc (.cells #[.int .u64 gb, .int .u64 gn, .bool gr, .bool true, .bool gx, .bool false] 33) = w9 := ⟨_, rfl⟩
                    rw [hw9] at hb9
                    have hZ' : HB w9 w8.heap.size 33 [.int .u64 gb, .int .u64 gn, .bool gr, .bool true, .bool gx, .bool false] := by rw [← hw9]; exact hZ
                    have Hw9 := fun (_ : Unit) => Lib.hid hw9
                    have Hb9 := Lib.hid hb9
                    have HZ := Lib.hid hZ'
                    have Hc79 := Lib.hid (cell_later hb9 Hc7.out)
                    have Hc39 := Lib.hid (cell_later hb9 Hc3.out)
                    clear hb8 hb9 hZ hZ' hw9 Hf
                    go_upto_region 27 with fail
                    rw [(Hw9 ()).out]
                    have y7 := Hc79.out
                    have y3 := Hc39.out
                    have z3 := HZ.out.cell (i := 3) rfl
                    have z5 := HZ.out.cell (i := 5) rfl
                    have y7' := fun q => (⟨q, rfl⟩ : Drn w9 (w9.drewN q)).cell ⟨g7, j, none⟩ |>.trans Hc79.out
                    have y3' := fun q => (⟨q, rfl⟩ : Drn w9 (w9.drewN q)).cell ⟨b3, o3 + D, none⟩ |>.trans Hc39.out
                    have z3' := fun q => (HZ.out.drn (⟨q, rfl⟩ : Drn w9 (w9.drewN q))).cell (i := 3) rfl
                    have z5' := fun q => (HZ.out.drn (⟨q, rfl⟩ : Drn w9 (w9.drewN q))).cell (i := 5) rfl
                    clear Hw9 Hc7 Hc3 HRx Hb3
                    generalize b[D]?.getD 0 = y at *
                    generalize w8.heap.size = Z at *
                    go_quiet (fail)
                    clear y7 y3 z3 z5 y7' y3' z3' z5'
                    go_wp2_with fail
                    first
                    | (go_roundw
                       case rel => exact ⟨j + 1, by omega, by go_num, (Hbx.out.trans (Hb9.out.mono Hbx.out.size)).trans ((⟨_, rfl⟩ : Drn w9 _).below _)⟩
                       case measure => (first | omega | (simp [intOf] <;> omega) | (simp only [intOf] <;> omega)))
                    | exact ⟨⟨j + 1, by omega, by go_num, (Hbx.out.trans (Hb9.out.mono Hbx.out.size)).trans ((⟨_, rfl⟩ : Drn w9 _).below _)⟩, by (first | omega | (simp [intOf] <;> omega) | (simp only [intOf] <;> omega))⟩
                    | (refine ⟨?_, by (first | omega | (simp [intOf] <;> omega) | (simp only [intOf] <;> omega))⟩
                       (repeat apply Exists.intro)
                       refine (fun a b => And.intro b a) ?_ ?_
                       · first | rfl | ((repeat refine ⟨rfl, ?_⟩); rfl)
                       exact ⟨j + 1, by omega, by go_num, (Hbx.out.trans (Hb9.out.mono Hbx.out.size)).trans ((⟨_, rfl⟩ : Drn w9 _).below _)⟩)
                · have q1 : ¬ (j : Int) < 65536 := by omega
                  have HBf := Lib.hid (HW.out _ (Hb7.out.trans (Hbx.out.mono (Nat.le_of_lt HR7.out.h.lt))))
                  go_wp2_with fail
                  go_ret
                  exact ⟨rfl, HBf.out⟩
      · have f1 : ¬ (i : Int) < (n1 : Int) := by omega
        have f2 : True := trivial
        clear hx1
        go_upto_region 10 with fail
        clear f1 f2 hi hn1
        go_loopw [9] (fun i wr => WIn R n2 w1 i wr) (fun i _ => n2 - (intOf i).toNat)
        case atStart => exact ⟨0, _, _, _, Nat.zero_le _, rfl, HR.out, Hb.out, Hlt.out⟩
        case round =>
          clear HR Hb Hlt
          obtain ⟨k, m, tv, t, hk, rfl, hR, hb, hlt⟩ := hrel
          have HR := Lib.hid hR
          have Hb := Lib.hid hb
          have Hlt := Lib.hid hlt
          have hn2 := H2.out
          clear hR hb hlt
          by_cases hgo : k < n2 ∧ k < 64
          · have f1 : (k : Int) < (n2 : Int) := by omega
            have f2 : (k : Int) < 64 := by omega
            obtain ⟨b0, o0, rfl, hc⟩ := Hr2.out _ (HW.out _ Hb.out) k (by omega)
            have hkl : k < fill.length := by omega
            have e0 : IntKind.u64.wrap (k : Int) = (k : Int) := IntWalk.u64_in _ (by omega)
            have f3 : (k : Int) + 1 ≤ (c2 : Int) := by omega
            have f4 : ¬ c2 = k := by omega
            have hrd : ∀ w', Below wr.heap.size wr w' → Rd w' (some ⟨b0, o0 + k, none⟩) [fill[k]?.getD 0] := fun w' hb' j hj => by
              have hj0 : j = 0 := by simpa using hj
              subst hj0
              refine ⟨b0, o0 + k, rfl, ?_⟩
              have h := cell_later hb' hc
              simpa using h
            have Hp := Lib.hid (place_any HR.out (1073741824 + k * 1021) (some ⟨b0, o0 + k, none⟩) 1 (c2 - k) [fill[k]?.getD 0] (by omega) rfl (by decide) hrd)
            generalize (if inRam (1073741824 + k * 1021) 1 = true then spl m (1073741824 + k * 1021 - 1073741824) [fill[k]?.getD 0] else m) = m' at *
            generalize (if inRam (1073741824 + k * 1021) 1 = true then (0 : Int) else 161) = pe at *
            clear hrd hc hkl
            rw [show ((1073741824 + k * 1021 : Nat) : Int) = 1073741824 + (k : Int) * 1021 by omega] at Hp
            go_wp2_with fail
            refine Hp.out.mono ?_
            rintro e w5 ⟨rfl, hL⟩
            have Hq := Lib.hid (And.intro hL.r (And.intro (Hb.out.trans (laid_below HR.out hL)) (Nat.lt_of_lt_of_le Hlt.out hL.f.size)))
            clear hL Hp HR Hb e0
            go_wp2_with fail
            first
            | (go_roundw
               case rel => exact ⟨k + 1, _, _, _, by omega, by go_num, Hq.out.1, Hq.out.2.1, Hq.out.2.2⟩
               case measure => (first | omega | (simp [intOf] <;> omega) | (simp only [intOf] <;> omega)))
            | exact ⟨⟨k + 1, _, _, _, by omega, by go_num, Hq.out.1, Hq.out.2.1, Hq.out.2.2⟩, by (first | omega | (simp [intOf] <;> omega) | (simp only [intOf] <;> omega))⟩
            | (refine ⟨?_, by (first | omega | (simp [intOf] <;> omega) | (simp only [intOf] <;> omega))⟩
               (repeat apply Exists.intro)
               refine (fun a b => And.intro b a) ?_ ?_
               · first | rfl | ((repeat refine ⟨rfl, ?_⟩); rfl)
               exact ⟨k + 1, _, _, _, by omega, by go_num, Hq.out.1, Hq.out.2.1, Hq.out.2.2⟩)
          · have hdone : (k < n2 ∧ ¬ k < 64) ∨ ¬ k < n2 := by omega
            clear hgo
            rcases hdone with ⟨hx1, hx2⟩ | hx1
            · have f1 : (k : Int) < (n2 : Int) := by omega
              have f2 : ¬ (k : Int) < 64 := by omega
              clear hx1 hx2
              go_upto_region 13 with fail
              clear f1 f2 hk hn2
              have Hml := Lib.hid HR.out.l
              have Hpk := Lib.hid (peek_any HR.out 1073741824 65536 (by decide))
              rw [show inRam 1073741824 65536 = true from rfl, if_pos rfl, if_pos rfl, show getR m (1073741824 - 1073741824) 65536 = m from getR_all Hml.out] at Hpk
              go_wp2_with fail
              refine Hpk.out.mono ?_
              rintro e w5 ⟨v5, rfl, ho5, hb5⟩
              have HR5 := Lib.hid (HR.out.later hb5)
              have Hb5 := Lib.hid (Hb.out.trans (hb5.mono (Nat.le_of_lt Hlt.out)))
              have Ho5 := Lib.hid (ho5.mono (Nat.succ_le_of_lt Hlt.out))
              clear ho5 hb5 HR Hb Hpk
              have Hst := Lib.hid (store_any HR5.out false x a3 n3 c3 b Hx.out H3.out.1 (by have := H3.out.2; omega) (fun w' hb => Hr3.out _ (HW.out _ (Hb5.out.trans (hb.mono (Nat.le_of_lt HR5.out.h.lt))))))
              obtain ⟨E, hE⟩ : ∃ E, mayR t false 2 x n3 = E := ⟨_, rfl⟩
              have HE := fun (_ : Unit) => Lib.hid hE
              rw [hE] at Hst
              clear hE
              go_wp2_with fail
              refine Hst.out.mono ?_
              rintro e w6 ⟨rfl, hL⟩
              have HR6 := Lib.hid hL.r
              have Hb6 := Lib.hid (Hb5.out.trans (laid_below HR5.out hL))
              have Ho6 := Lib.hid (Ho5.out.frm hL.f (fun k hk e => by have := (own_blk Ho5.out hk).1; omega))
              clear hL Hst HR5 Hb5 Ho5
              obtain ⟨M, hM⟩ : ∃ M, putR m E x b = M := ⟨_, rfl⟩
              have HM := fun (_ : Unit) => Lib.hid hM
              rw [hM] at HR6
              clear hM
              have HMl := Lib.hid HR6.out.l
              have Hpk := Lib.hid (peek_any HR6.out 1073741824 65536 (by decide))
              rw [show inRam 1073741824 65536 = true from rfl, if_pos rfl, if_pos rfl, show getR M (1073741824 - 1073741824) 65536 = M from getR_all HMl.out] at Hpk
              go_wp2_with fail
              refine Hpk.out.mono ?_
              rintro e w7 ⟨v7, rfl, ho7, hb7⟩
              have HR7 := Lib.hid (HR6.out.later hb7)
              have Hb7 := Lib.hid (Hb6.out.trans (hb7.mono (Nat.le_of_lt HR6.out.h.lt)))
              have Ho7 := Lib.hid (ho7.mono (Nat.succ_le_of_lt HR6.out.h.lt))
              have Ho5 := Lib.hid (Ho6.out.later hb7)
              clear ho7 hb7 HR6 Hb6 Hpk Ho6
              obtain ⟨g5, C5, rfl⟩ := own_pos Ho5.out (by rw [Hml.out]; decide)
              obtain ⟨g7, C7, rfl⟩ := own_pos Ho7.out (by rw [HMl.out]; decide)
              have e5 := Hml.out
              have e7 := HMl.out
              rw [e5] at Ho5 ⊢
              rw [e7] at Ho7 ⊢
              clear e5 e7
              go_upto_region 19 with fail
              go_loopw [15, 16, 17, 18, 19] (fun iv _ _ _ _ wx => LIn w7 iv wx) (fun iv _ _ _ _ _ => 65536 - (intOf iv).toNat)
              case atStart => exact ⟨0, Nat.zero_le _, rfl, Below.refl _ _⟩
              case round =>
                obtain ⟨j, hj, rfl, hbx⟩ := hrel
                have Hbx := Lib.hid hbx
                by_cases hlt : j < 65536
                · have q1 : (j : Int) < 65536 := by omega
                  have c7 := (Ho7.out.later hbx).at.2.2.2.2.2.1 j hlt
                  have c5 := (Ho5.out.later hbx).at.2.2.2.2.2.1 j hlt
                  have HRx := Lib.hid (HR7.out.later hbx)
                  have Hb3 := Lib.hid (Hr3.out _ (HW.out _ (Hb7.out.trans (hbx.mono (Nat.le_of_lt HR7.out.h.lt)))))
                  obtain ⟨A, hA⟩ : ∃ A, 1073741824 + j = A := ⟨_, rfl⟩
                  have hA2 : (1073741824 : Int) + (j : Int) = (A : Int) := by omega
                  have hA3 : 1073741824 ≤ A ∧ A < 1073807360 := by omega
                  have e0 : IntKind.u64.wrap (j : Int) = (j : Int) := IntWalk.u64_in _ (by omega)
                  have HAj := fun (_ : Unit) => Lib.hid hA
                  clear hbx hA
                  have hcs : E ≠ 0 ∨ (E = 0 ∧ A < x) ∨ (E = 0 ∧ x ≤ A ∧ n3 ≤ A - x) ∨ (E = 0 ∧ x ≤ A ∧ A - x < n3) := by omega
                  have Hin := Lib.hid (fun h : E = 0 => inRam_iff.1 (mayR_in ((HE ()).out.trans h)))
                  rcases hcs with h0 | ⟨rfl, h0⟩ | ⟨rfl, h0, h00⟩ | ⟨rfl, h0, h00⟩
                  · have hsm : M[j]?.getD 0 = m[j]?.getD 0 := by rw [← (HM ()).out]; unfold putR; rw [if_neg h0]
                    have g1 : ((E : Int) == 0) = false := beq_false_of_ne h0
                    rw [hsm] at c7
                    have Hc5 := Lib.hid c5
                    have Hc7 := Lib.hid c7
                    have c5' := fun q => (⟨q, rfl⟩ : Drn wr (wr.drewN q)).cell ⟨g5, j, none⟩ |>.trans Hc5.out
                    have c7' := fun q => (⟨q, rfl⟩ : Drn wr (wr.drewN q)).cell ⟨g7, j, none⟩ |>.trans Hc7.out
                    generalize m[j]?.getD 0 = y at *
                    generalize M[j]?.getD 0 = y' at *
                    clear hsm h0
                    go_wp2_with fail
                    go_quiet (fail)
                    clear c5 c7 c5' c7'
                    go_wp2_with fail
                    first
                    | (go_roundw
                       case rel => exact ⟨j + 1, by omega, by go_num, Hbx.out.trans ((⟨_, rfl⟩ : Drn wr _).below _)⟩
                       case measure => (first | omega | (simp [intOf] <;> omega) | (simp only [intOf] <;> omega)))
                    | exact ⟨⟨j + 1, by omega, by go_num, Hbx.out.trans ((⟨_, rfl⟩ : Drn wr _).below _)⟩, by (first | omega | (simp [intOf] <;> omega) | (simp only [intOf] <;> omega))⟩
                    | (refine ⟨?_, by (first | omega | (simp [intOf] <;> omega) | (simp only [intOf] <;> omega))⟩
                       (repeat apply Exists.intro)
                       refine (fun a b => And.intro b a) ?_ ?_
                       · first | rfl | ((repeat refine ⟨rfl, ?_⟩); rfl)
                       exact ⟨j + 1, by omega, by go_num, Hbx.out.trans ((⟨_, rfl⟩ : Drn wr _).below _)⟩)
                  · have hsm : M[j]?.getD 0 = m[j]?.getD 0 := by
                      have h1 := Hin.out rfl
                      have h2 := (HAj ()).out
                      have h3 := H3.out.1
                      rw [← (HM ()).out]; unfold putR; rw [if_pos rfl, spl_out (by rw [Hml.out]; omega) (by omega)]
                    have g1 : ¬ (x : Int) ≤ (A : Int) := by omega
                    rw [hsm] at c7
                    have Hc5 := Lib.hid c5
                    have Hc7 := Lib.hid c7
                    have c5' := fun q => (⟨q, rfl⟩ : Drn wr (wr.drewN q)).cell ⟨g5, j, none⟩ |>.trans Hc5.out
                    have c7' := fun q => (⟨q, rfl⟩ : Drn wr (wr.drewN q)).cell ⟨g7, j, none⟩ |>.trans Hc7.out
                    generalize m[j]?.getD 0 = y at *
                    generalize M[j]?.getD 0 = y' at *
                    clear hsm h0
                    go_wp2_with fail
                    go_quiet (fail)
                    clear c5 c7 c5' c7'
                    go_wp2_with fail
                    first
                    | (go_roundw
                       case rel => exact ⟨j + 1, by omega, by go_num, Hbx.out.trans ((⟨_, rfl⟩ : Drn wr _).below _)⟩
                       case measure => (first | omega | (simp [intOf] <;> omega) | (simp only [intOf] <;> omega)))
                    | exact ⟨⟨j + 1, by omega, by go_num, Hbx.out.trans ((⟨_, rfl⟩ : Drn wr _).below _)⟩, by (first | omega | (simp [intOf] <;> omega) | (simp only [intOf] <;> omega))⟩
                    | (refine ⟨?_, by (first | omega | (simp [intOf] <;> omega) | (simp only [intOf] <;> omega))⟩
                       (repeat apply Exists.intro)
                       refine (fun a b => And.intro b a) ?_ ?_
                       · first | rfl | ((repeat refine ⟨rfl, ?_⟩); rfl)
                       exact ⟨j + 1, by omega, by go_num, Hbx.out.trans ((⟨_, rfl⟩ : Drn wr _).below _)⟩)
                  · have hsm : M[j]?.getD 0 = m[j]?.getD 0 := by
                      have h1 := Hin.out rfl
                      have h2 := (HAj ()).out
                      have h3 := H3.out.1
                      rw [← (HM ()).out]; unfold putR; rw [if_pos rfl, spl_out (by rw [Hml.out]; omega) (by omega)]
                    have g1 : (x : Int) ≤ (A : Int) := by omega
                    obtain ⟨D, hD⟩ : ∃ D, A - x = D := ⟨_, rfl⟩
                    have hD2 : (A : Int) - (x : Int) = (D : Int) := by omega
                    have g2 : ¬ (D : Int) < (n3 : Int) := by omega
                    have hn3 := H3.out.2
                    have e3 : IntKind.u64.wrap (n3 : Int) = (n3 : Int) := IntWalk.u64_in _ (by omega)
                    clear hD
                    rw [hsm] at c7
                    have Hc5 := Lib.hid c5
                    have Hc7 := Lib.hid c7
                    have c5' := fun q => (⟨q, rfl⟩ : Drn wr (wr.drewN q)).cell ⟨g5, j, none⟩ |>.trans Hc5.out
                    have c7' := fun q => (⟨q, rfl⟩ : Drn wr (wr.drewN q)).cell ⟨g7, j, none⟩ |>.trans Hc7.out
                    generalize m[j]?.getD 0 = y at *
                    generalize M[j]?.getD 0 = y' at *
                    clear hsm h0
                    go_wp2_with fail
                    go_quiet (fail)
                    clear c5 c7 c5' c7'
                    go_wp2_with fail
                    first
                    | (go_roundw
                       case rel => exact ⟨j + 1, by omega, by go_num, Hbx.out.trans ((⟨_, rfl⟩ : Drn wr _).below _)⟩
                       case measure => (first | omega | (simp [intOf] <;> omega) | (simp only [intOf] <;> omega)))
                    | exact ⟨⟨j + 1, by omega, by go_num, Hbx.out.trans ((⟨_, rfl⟩ : Drn wr _).below _)⟩, by (first | omega | (simp [intOf] <;> omega) | (simp only [intOf] <;> omega))⟩
                    | (refine ⟨?_, by (first | omega | (simp [intOf] <;> omega) | (simp only [intOf] <;> omega))⟩
                       (repeat apply Exists.intro)
                       refine (fun a b => And.intro b a) ?_ ?_
                       · first | rfl | ((repeat refine ⟨rfl, ?_⟩); rfl)
                       exact ⟨j + 1, by omega, by go_num, Hbx.out.trans ((⟨_, rfl⟩ : Drn wr _).below _)⟩)
                  · obtain ⟨g, hg, hgs, hgw⟩ := store_open (HE ()).out h0 (show A < x + n3 by omega)
                    have Hf := Lib.hid (find_any HRx.out A)
                    rw [fR_some hg] at Hf
                    obtain ⟨gb, gn, gr, gw, gx, gs⟩ := g
                    dsimp only at hgs hgw
                    subst hgs hgw
                    unfold rgv at Hf
                    dsimp only at Hf
                    obtain ⟨D, hD⟩ : ∃ D, A - x = D := ⟨_, rfl⟩
                    have hD2 : (A : Int) - (x : Int) = (D : Int) := by omega
                    have hl3 := H3.out.1
                    have hn3 := H3.out.2
                    have hsm : M[j]?.getD 0 = b[D]?.getD 0 := by
                      have h1 := Hin.out rfl
                      have h2 := (HAj ()).out
                      rw [← (HM ()).out]; unfold putR; rw [if_pos rfl, spl_in (by rw [Hml.out]; omega) (by omega) (by omega), show j - (x - 1073741824) = D by omega]
                    have g1 : (x : Int) ≤ (A : Int) := by omega
                    have g2 : (D : Int) < (n3 : Int) := by omega
                    have g3 : (0 : Int) ≤ (D : Int) := by omega
                    have e3 : IntKind.u64.wrap (n3 : Int) = (n3 : Int) := IntWalk.u64_in _ (by omega)
                    obtain ⟨b3, o3, rfl, hc3⟩ := Hb3.out D (by omega)
                    rw [hsm] at c7
                    have Hc7 := Lib.hid c7
                    have Hc3 := Lib.hid hc3
                    clear hD hg hsm h0 h00 c5 c7 hc3
                    go_wp2_with fail
                    refine Hf.out.mono ?_
                    rintro e w8 ⟨rfl, hb8⟩
                    have hb9 : Below wr.heap.size wr (w8.alloc (.cells #[.int .u64 gb, .int .u64 gn, .bool gr, .bool true, .bool gx, .bool false] 33)) := hb8.alloc hb8.size _
                    have hZ := HB.new w8 [.int .u64 gb, .int .u64 gn, .bool gr, .bool true, .bool gx, .bool false] 33
                    obtain ⟨w9, hw9⟩ : ∃ w9, w8.alloc (.cells #[.int .u64 gb, .int .u64 gn, .bool gr, .bool true, .bool gx, .bool false] 33) = w9 := ⟨_, rfl⟩
                    rw [hw9] at hb9
                    have hZ' : HB w9 w8.heap.size 33 [.int .u64 gb, .int .u64 gn, .bool gr, .bool true, .bool gx, .bool false] := by rw [← hw9]; exact hZ
                    have Hw9 := fun (_ : Unit) => Lib.hid hw9
                    have Hb9 := Lib.hid hb9
                    have HZ := Lib.hid hZ'
                    have Hc79 := Lib.hid (cell_later hb9 Hc7.out)
                    have Hc39 := Lib.hid (cell_later hb9 Hc3.out)
                    clear hb8 hb9 hZ hZ' hw9 Hf
                    go_upto_region 27 with fail
                    rw [(Hw9 ()).out]
                    have y7 := Hc79.out
                    have y3 := Hc39.out
                    have z3 := HZ.out.cell (i := 3) rfl
                    have z5 := HZ.out.cell (i := 5) rfl
                    have y7' := fun q => (⟨q, rfl⟩ : Drn w9 (w9.drewN q)).cell ⟨g7, j, none⟩ |>.trans Hc79.out
                    have y3' := fun q => (⟨q, rfl⟩ : Drn w9 (w9.drewN q)).cell ⟨b3, o3 + D, none⟩ |>.trans Hc39.out
                    have z3' := fun q => (HZ.out.drn (⟨q, rfl⟩ : Drn w9 (w9.drewN q))).cell (i := 3) rfl
                    have z5' := fun q => (HZ.out.drn (⟨q, rfl⟩ : Drn w9 (w9.drewN q))).cell (i := 5) rfl
                    clear Hw9 Hc7 Hc3 HRx Hb3
                    generalize b[D]?.getD 0 = y at *
                    generalize w8.heap.size = Z at *
                    go_quiet (fail)
                    clear y7 y3 z3 z5 y7' y3' z3' z5'
                    go_wp2_with fail
                    first
                    | (go_roundw
                       case rel => exact ⟨j + 1, by omega, by go_num, (Hbx.out.trans (Hb9.out.mono Hbx.out.size)).trans ((⟨_, rfl⟩ : Drn w9 _).below _)⟩
                       case measure => (first | omega | (simp [intOf] <;> omega) | (simp only [intOf] <;> omega)))
                    | exact ⟨⟨j + 1, by omega, by go_num, (Hbx.out.trans (Hb9.out.mono Hbx.out.size)).trans ((⟨_, rfl⟩ : Drn w9 _).below _)⟩, by (first | omega | (simp [intOf] <;> omega) | (simp only [intOf] <;> omega))⟩
                    | (refine ⟨?_, by (first | omega | (simp [intOf] <;> omega) | (simp only [intOf] <;> omega))⟩
                       (repeat apply Exists.intro)
                       refine (fun a b => And.intro b a) ?_ ?_
                       · first | rfl | ((repeat refine ⟨rfl, ?_⟩); rfl)
                       exact ⟨j + 1, by omega, by go_num, (Hbx.out.trans (Hb9.out.mono Hbx.out.size)).trans ((⟨_, rfl⟩ : Drn w9 _).below _)⟩)
                · have q1 : ¬ (j : Int) < 65536 := by omega
                  have HBf := Lib.hid (HW.out _ (Hb7.out.trans (Hbx.out.mono (Nat.le_of_lt HR7.out.h.lt))))
                  go_wp2_with fail
                  go_ret
                  exact ⟨rfl, HBf.out⟩
            · have f1 : ¬ (k : Int) < (n2 : Int) := by omega
              have f2 : True := trivial
              clear hx1
              go_upto_region 13 with fail
              clear f1 f2 hk hn2
              have Hml := Lib.hid HR.out.l
              have Hpk := Lib.hid (peek_any HR.out 1073741824 65536 (by decide))
              rw [show inRam 1073741824 65536 = true from rfl, if_pos rfl, if_pos rfl, show getR m (1073741824 - 1073741824) 65536 = m from getR_all Hml.out] at Hpk
              go_wp2_with fail
              refine Hpk.out.mono ?_
              rintro e w5 ⟨v5, rfl, ho5, hb5⟩
              have HR5 := Lib.hid (HR.out.later hb5)
              have Hb5 := Lib.hid (Hb.out.trans (hb5.mono (Nat.le_of_lt Hlt.out)))
              have Ho5 := Lib.hid (ho5.mono (Nat.succ_le_of_lt Hlt.out))
              clear ho5 hb5 HR Hb Hpk
              have Hst := Lib.hid (store_any HR5.out false x a3 n3 c3 b Hx.out H3.out.1 (by have := H3.out.2; omega) (fun w' hb => Hr3.out _ (HW.out _ (Hb5.out.trans (hb.mono (Nat.le_of_lt HR5.out.h.lt))))))
              obtain ⟨E, hE⟩ : ∃ E, mayR t false 2 x n3 = E := ⟨_, rfl⟩
              have HE := fun (_ : Unit) => Lib.hid hE
              rw [hE] at Hst
              clear hE
              go_wp2_with fail
              refine Hst.out.mono ?_
              rintro e w6 ⟨rfl, hL⟩
              have HR6 := Lib.hid hL.r
              have Hb6 := Lib.hid (Hb5.out.trans (laid_below HR5.out hL))
              have Ho6 := Lib.hid (Ho5.out.frm hL.f (fun k hk e => by have := (own_blk Ho5.out hk).1; omega))
              clear hL Hst HR5 Hb5 Ho5
              obtain ⟨M, hM⟩ : ∃ M, putR m E x b = M := ⟨_, rfl⟩
              have HM := fun (_ : Unit) => Lib.hid hM
              rw [hM] at HR6
              clear hM
              have HMl := Lib.hid HR6.out.l
              have Hpk := Lib.hid (peek_any HR6.out 1073741824 65536 (by decide))
              rw [show inRam 1073741824 65536 = true from rfl, if_pos rfl, if_pos rfl, show getR M (1073741824 - 1073741824) 65536 = M from getR_all HMl.out] at Hpk
              go_wp2_with fail
              refine Hpk.out.mono ?_
              rintro e w7 ⟨v7, rfl, ho7, hb7⟩
              have HR7 := Lib.hid (HR6.out.later hb7)
              have Hb7 := Lib.hid (Hb6.out.trans (hb7.mono (Nat.le_of_lt HR6.out.h.lt)))
              have Ho7 := Lib.hid (ho7.mono (Nat.succ_le_of_lt HR6.out.h.lt))
              have Ho5 := Lib.hid (Ho6.out.later hb7)
              clear ho7 hb7 HR6 Hb6 Hpk Ho6
              obtain ⟨g5, C5, rfl⟩ := own_pos Ho5.out (by rw [Hml.out]; decide)
              obtain ⟨g7, C7, rfl⟩ := own_pos Ho7.out (by rw [HMl.out]; decide)
              have e5 := Hml.out
              have e7 := HMl.out
              rw [e5] at Ho5 ⊢
              rw [e7] at Ho7 ⊢
              clear e5 e7
              go_upto_region 19 with fail
              go_loopw [15, 16, 17, 18, 19] (fun iv _ _ _ _ wx => LIn w7 iv wx) (fun iv _ _ _ _ _ => 65536 - (intOf iv).toNat)
              case atStart => exact ⟨0, Nat.zero_le _, rfl, Below.refl _ _⟩
              case round =>
                obtain ⟨j, hj, rfl, hbx⟩ := hrel
                have Hbx := Lib.hid hbx
                by_cases hlt : j < 65536
                · have q1 : (j : Int) < 65536 := by omega
                  have c7 := (Ho7.out.later hbx).at.2.2.2.2.2.1 j hlt
                  have c5 := (Ho5.out.later hbx).at.2.2.2.2.2.1 j hlt
                  have HRx := Lib.hid (HR7.out.later hbx)
                  have Hb3 := Lib.hid (Hr3.out _ (HW.out _ (Hb7.out.trans (hbx.mono (Nat.le_of_lt HR7.out.h.lt)))))
                  obtain ⟨A, hA⟩ : ∃ A, 1073741824 + j = A := ⟨_, rfl⟩
                  have hA2 : (1073741824 : Int) + (j : Int) = (A : Int) := by omega
                  have hA3 : 1073741824 ≤ A ∧ A < 1073807360 := by omega
                  have e0 : IntKind.u64.wrap (j : Int) = (j : Int) := IntWalk.u64_in _ (by omega)
                  have HAj := fun (_ : Unit) => Lib.hid hA
                  clear hbx hA
                  have hcs : E ≠ 0 ∨ (E = 0 ∧ A < x) ∨ (E = 0 ∧ x ≤ A ∧ n3 ≤ A - x) ∨ (E = 0 ∧ x ≤ A ∧ A - x < n3) := by omega
                  have Hin := Lib.hid (fun h : E = 0 => inRam_iff.1 (mayR_in ((HE ()).out.trans h)))
                  rcases hcs with h0 | ⟨rfl, h0⟩ | ⟨rfl, h0, h00⟩ | ⟨rfl, h0, h00⟩
                  · have hsm : M[j]?.getD 0 = m[j]?.getD 0 := by rw [← (HM ()).out]; unfold putR; rw [if_neg h0]
                    have g1 : ((E : Int) == 0) = false := beq_false_of_ne h0
                    rw [hsm] at c7
                    have Hc5 := Lib.hid c5
                    have Hc7 := Lib.hid c7
                    have c5' := fun q => (⟨q, rfl⟩ : Drn wr (wr.drewN q)).cell ⟨g5, j, none⟩ |>.trans Hc5.out
                    have c7' := fun q => (⟨q, rfl⟩ : Drn wr (wr.drewN q)).cell ⟨g7, j, none⟩ |>.trans Hc7.out
                    generalize m[j]?.getD 0 = y at *
                    generalize M[j]?.getD 0 = y' at *
                    clear hsm h0
                    go_wp2_with fail
                    go_quiet (fail)
                    clear c5 c7 c5' c7'
                    go_wp2_with fail
                    first
                    | (go_roundw
                       case rel => exact ⟨j + 1, by omega, by go_num, Hbx.out.trans ((⟨_, rfl⟩ : Drn wr _).below _)⟩
                       case measure => (first | omega | (simp [intOf] <;> omega) | (simp only [intOf] <;> omega)))
                    | exact ⟨⟨j + 1, by omega, by go_num, Hbx.out.trans ((⟨_, rfl⟩ : Drn wr _).below _)⟩, by (first | omega | (simp [intOf] <;> omega) | (simp only [intOf] <;> omega))⟩
                    | (refine ⟨?_, by (first | omega | (simp [intOf] <;> omega) | (simp only [intOf] <;> omega))⟩
                       (repeat apply Exists.intro)
                       refine (fun a b => And.intro b a) ?_ ?_
                       · first | rfl | ((repeat refine ⟨rfl, ?_⟩); rfl)
                       exact ⟨j + 1, by omega, by go_num, Hbx.out.trans ((⟨_, rfl⟩ : Drn wr _).below _)⟩)
                  · have hsm : M[j]?.getD 0 = m[j]?.getD 0 := by
                      have h1 := Hin.out rfl
                      have h2 := (HAj ()).out
                      have h3 := H3.out.1
                      rw [← (HM ()).out]; unfold putR; rw [if_pos rfl, spl_out (by rw [Hml.out]; omega) (by omega)]
                    have g1 : ¬ (x : Int) ≤ (A : Int) := by omega
                    rw [hsm] at c7
                    have Hc5 := Lib.hid c5
                    have Hc7 := Lib.hid c7
                    have c5' := fun q => (⟨q, rfl⟩ : Drn wr (wr.drewN q)).cell ⟨g5, j, none⟩ |>.trans Hc5.out
                    have c7' := fun q => (⟨q, rfl⟩ : Drn wr (wr.drewN q)).cell ⟨g7, j, none⟩ |>.trans Hc7.out
                    generalize m[j]?.getD 0 = y at *
                    generalize M[j]?.getD 0 = y' at *
                    clear hsm h0
                    go_wp2_with fail
                    go_quiet (fail)
                    clear c5 c7 c5' c7'
                    go_wp2_with fail
                    first
                    | (go_roundw
                       case rel => exact ⟨j + 1, by omega, by go_num, Hbx.out.trans ((⟨_, rfl⟩ : Drn wr _).below _)⟩
                       case measure => (first | omega | (simp [intOf] <;> omega) | (simp only [intOf] <;> omega)))
                    | exact ⟨⟨j + 1, by omega, by go_num, Hbx.out.trans ((⟨_, rfl⟩ : Drn wr _).below _)⟩, by (first | omega | (simp [intOf] <;> omega) | (simp only [intOf] <;> omega))⟩
                    | (refine ⟨?_, by (first | omega | (simp [intOf] <;> omega) | (simp only [intOf] <;> omega))⟩
                       (repeat apply Exists.intro)
                       refine (fun a b => And.intro b a) ?_ ?_
                       · first | rfl | ((repeat refine ⟨rfl, ?_⟩); rfl)
                       exact ⟨j + 1, by omega, by go_num, Hbx.out.trans ((⟨_, rfl⟩ : Drn wr _).below _)⟩)
                  · have hsm : M[j]?.getD 0 = m[j]?.getD 0 := by
                      have h1 := Hin.out rfl
                      have h2 := (HAj ()).out
                      have h3 := H3.out.1
                      rw [← (HM ()).out]; unfold putR; rw [if_pos rfl, spl_out (by rw [Hml.out]; omega) (by omega)]
                    have g1 : (x : Int) ≤ (A : Int) := by omega
                    obtain ⟨D, hD⟩ : ∃ D, A - x = D := ⟨_, rfl⟩
                    have hD2 : (A : Int) - (x : Int) = (D : Int) := by omega
                    have g2 : ¬ (D : Int) < (n3 : Int) := by omega
                    have hn3 := H3.out.2
                    have e3 : IntKind.u64.wrap (n3 : Int) = (n3 : Int) := IntWalk.u64_in _ (by omega)
                    clear hD
                    rw [hsm] at c7
                    have Hc5 := Lib.hid c5
                    have Hc7 := Lib.hid c7
                    have c5' := fun q => (⟨q, rfl⟩ : Drn wr (wr.drewN q)).cell ⟨g5, j, none⟩ |>.trans Hc5.out
                    have c7' := fun q => (⟨q, rfl⟩ : Drn wr (wr.drewN q)).cell ⟨g7, j, none⟩ |>.trans Hc7.out
                    generalize m[j]?.getD 0 = y at *
                    generalize M[j]?.getD 0 = y' at *
                    clear hsm h0
                    go_wp2_with fail
                    go_quiet (fail)
                    clear c5 c7 c5' c7'
                    go_wp2_with fail
                    first
                    | (go_roundw
                       case rel => exact ⟨j + 1, by omega, by go_num, Hbx.out.trans ((⟨_, rfl⟩ : Drn wr _).below _)⟩
                       case measure => (first | omega | (simp [intOf] <;> omega) | (simp only [intOf] <;> omega)))
                    | exact ⟨⟨j + 1, by omega, by go_num, Hbx.out.trans ((⟨_, rfl⟩ : Drn wr _).below _)⟩, by (first | omega | (simp [intOf] <;> omega) | (simp only [intOf] <;> omega))⟩
                    | (refine ⟨?_, by (first | omega | (simp [intOf] <;> omega) | (simp only [intOf] <;> omega))⟩
                       (repeat apply Exists.intro)
                       refine (fun a b => And.intro b a) ?_ ?_
                       · first | rfl | ((repeat refine ⟨rfl, ?_⟩); rfl)
                       exact ⟨j + 1, by omega, by go_num, Hbx.out.trans ((⟨_, rfl⟩ : Drn wr _).below _)⟩)
                  · obtain ⟨g, hg, hgs, hgw⟩ := store_open (HE ()).out h0 (show A < x + n3 by omega)
                    have Hf := Lib.hid (find_any HRx.out A)
                    rw [fR_some hg] at Hf
                    obtain ⟨gb, gn, gr, gw, gx, gs⟩ := g
                    dsimp only at hgs hgw
                    subst hgs hgw
                    unfold rgv at Hf
                    dsimp only at Hf
                    obtain ⟨D, hD⟩ : ∃ D, A - x = D := ⟨_, rfl⟩
                    have hD2 : (A : Int) - (x : Int) = (D : Int) := by omega
                    have hl3 := H3.out.1
                    have hn3 := H3.out.2
                    have hsm : M[j]?.getD 0 = b[D]?.getD 0 := by
                      have h1 := Hin.out rfl
                      have h2 := (HAj ()).out
                      rw [← (HM ()).out]; unfold putR; rw [if_pos rfl, spl_in (by rw [Hml.out]; omega) (by omega) (by omega), show j - (x - 1073741824) = D by omega]
                    have g1 : (x : Int) ≤ (A : Int) := by omega
                    have g2 : (D : Int) < (n3 : Int) := by omega
                    have g3 : (0 : Int) ≤ (D : Int) := by omega
                    have e3 : IntKind.u64.wrap (n3 : Int) = (n3 : Int) := IntWalk.u64_in _ (by omega)
                    obtain ⟨b3, o3, rfl, hc3⟩ := Hb3.out D (by omega)
                    rw [hsm] at c7
                    have Hc7 := Lib.hid c7
                    have Hc3 := Lib.hid hc3
                    clear hD hg hsm h0 h00 c5 c7 hc3
                    go_wp2_with fail
                    refine Hf.out.mono ?_
                    rintro e w8 ⟨rfl, hb8⟩
                    have hb9 : Below wr.heap.size wr (w8.alloc (.cells #[.int .u64 gb, .int .u64 gn, .bool gr, .bool true, .bool gx, .bool false] 33)) := hb8.alloc hb8.size _
                    have hZ := HB.new w8 [.int .u64 gb, .int .u64 gn, .bool gr, .bool true, .bool gx, .bool false] 33
                    obtain ⟨w9, hw9⟩ : ∃ w9, w8.alloc (.cells #[.int .u64 gb, .int .u64 gn, .bool gr, .bool true, .bool gx, .bool false] 33) = w9 := ⟨_, rfl⟩
                    rw [hw9] at hb9
                    have hZ' : HB w9 w8.heap.size 33 [.int .u64 gb, .int .u64 gn, .bool gr, .bool true, .bool gx, .bool false] := by rw [← hw9]; exact hZ
                    have Hw9 := fun (_ : Unit) => Lib.hid hw9
                    have Hb9 := Lib.hid hb9
                    have HZ := Lib.hid hZ'
                    have Hc79 := Lib.hid (cell_later hb9 Hc7.out)
                    have Hc39 := Lib.hid (cell_later hb9 Hc3.out)
                    clear hb8 hb9 hZ hZ' hw9 Hf
                    go_upto_region 27 with fail
                    rw [(Hw9 ()).out]
                    have y7 := Hc79.out
                    have y3 := Hc39.out
                    have z3 := HZ.out.cell (i := 3) rfl
                    have z5 := HZ.out.cell (i := 5) rfl
                    have y7' := fun q => (⟨q, rfl⟩ : Drn w9 (w9.drewN q)).cell ⟨g7, j, none⟩ |>.trans Hc79.out
                    have y3' := fun q => (⟨q, rfl⟩ : Drn w9 (w9.drewN q)).cell ⟨b3, o3 + D, none⟩ |>.trans Hc39.out
                    have z3' := fun q => (HZ.out.drn (⟨q, rfl⟩ : Drn w9 (w9.drewN q))).cell (i := 3) rfl
                    have z5' := fun q => (HZ.out.drn (⟨q, rfl⟩ : Drn w9 (w9.drewN q))).cell (i := 5) rfl
                    clear Hw9 Hc7 Hc3 HRx Hb3
                    generalize b[D]?.getD 0 = y at *
                    generalize w8.heap.size = Z at *
                    go_quiet (fail)
                    clear y7 y3 z3 z5 y7' y3' z3' z5'
                    go_wp2_with fail
                    first
                    | (go_roundw
                       case rel => exact ⟨j + 1, by omega, by go_num, (Hbx.out.trans (Hb9.out.mono Hbx.out.size)).trans ((⟨_, rfl⟩ : Drn w9 _).below _)⟩
                       case measure => (first | omega | (simp [intOf] <;> omega) | (simp only [intOf] <;> omega)))
                    | exact ⟨⟨j + 1, by omega, by go_num, (Hbx.out.trans (Hb9.out.mono Hbx.out.size)).trans ((⟨_, rfl⟩ : Drn w9 _).below _)⟩, by (first | omega | (simp [intOf] <;> omega) | (simp only [intOf] <;> omega))⟩
                    | (refine ⟨?_, by (first | omega | (simp [intOf] <;> omega) | (simp only [intOf] <;> omega))⟩
                       (repeat apply Exists.intro)
                       refine (fun a b => And.intro b a) ?_ ?_
                       · first | rfl | ((repeat refine ⟨rfl, ?_⟩); rfl)
                       exact ⟨j + 1, by omega, by go_num, (Hbx.out.trans (Hb9.out.mono Hbx.out.size)).trans ((⟨_, rfl⟩ : Drn w9 _).below _)⟩)
                · have q1 : ¬ (j : Int) < 65536 := by omega
                  have HBf := Lib.hid (HW.out _ (Hb7.out.trans (Hbx.out.mono (Nat.le_of_lt HR7.out.h.lt))))
                  go_wp2_with fail
                  go_ret
                  exact ⟨rfl, HBf.out⟩
theorem rg_cells {H : Type} {enc : TypeId × Value → H} {W : World} (fuel : Nat) (cs : List Value) (y : DataW H × List MemPlace)
    (h : DataW.trod enc Try.prog W 0 (fun _ => true) true fuel 33 cs = some y) (hl : cs.length = 6) : ∃ g : Rg, cs = rgc g ∧ RgOk g := by
  obtain ⟨xs, n, _, _, _, hxl, hh⟩ := DataW.trod_struct Try.underlying33 h
  obtain ⟨c0, c1, c2, c3, c4, c5, rfl⟩ : ∃ c0 c1 c2 c3 c4 c5, cs = [c0, c1, c2, c3, c4, c5] := by
    match cs, hl with
    | [c0, c1, c2, c3, c4, c5], _ => exact ⟨c0, c1, c2, c3, c4, c5, rfl⟩
  obtain ⟨y0, y1, y2, y3, y4, y5, rfl⟩ : ∃ c0 c1 c2 c3 c4 c5, xs = [c0, c1, c2, c3, c4, c5] := by
    match xs, hxl with
    | [c0, c1, c2, c3, c4, c5], _ => exact ⟨c0, c1, c2, c3, c4, c5, rfl⟩
  have k3 : Try.prog.cellsOf 4 = 1 := by kernel_rfl
  have k4 : Try.prog.cellsOf 24 = 1 := by kernel_rfl
  have h0 := hh 0 _ rfl
  have h1 := hh 1 _ rfl
  have h2 := hh 2 _ rfl
  have h3 := hh 3 _ rfl
  have h4 := hh 4 _ rfl
  have h5 := hh 5 _ rfl
  simp [k3, k4] at h0 h1 h2 h3 h4 h5
  obtain ⟨f, rfl, hf⟩ := trod_u64 Try.underlying24 h0
  obtain ⟨s, rfl, hs⟩ := trod_u64 Try.underlying24 h1
  obtain ⟨r, rfl⟩ := trod_b Try.underlying4 h2
  obtain ⟨w, rfl⟩ := trod_b Try.underlying4 h3
  obtain ⟨x, rfl⟩ := trod_b Try.underlying4 h4
  obtain ⟨e, rfl⟩ := trod_b Try.underlying4 h5
  exact ⟨⟨f, s, r, w, x, e⟩, rfl, hf, hs⟩
set_option maxRecDepth 100000 in
theorem walk {H : Type} (enc : TypeId × Value → H) (W : World) (base : Nat) (v0 : Value) (d0 : DataW H) (p0 : List MemPlace)
    (k0 : Value.okWide Try.prog W .any base 26 v0)
    (h0 : DataW.Trod enc Try.prog W 0 (fun _ => true) true 26 v0 d0 p0)
    (hsz : (DataW.weightsEach Try.prog [26] ([d0] ++ [])).all (· ≤ reachBytes) = true) :
    Calls Try.prog 3 #[v0] W fun e w' => e = .returned (.bool true) ∧ Below W.heap.size W w' := by
  obtain ⟨cs_, xs_, n_, rfl, hsz_, rfl, hxl_, hf_⟩ := open_struct Try.underlying26 k0 h0
  obtain ⟨c0, c1, c2, c3, rfl⟩ := arr4 (hsz_.trans (by kernel_rfl : Try.prog.cellsOf 26 = 4))
  obtain ⟨y0, y1, y2, y3, rfl⟩ := lst4 (hxl_.trans rfl)
  have k1 : Try.prog.cellsOf 22 = 1 := by kernel_rfl
  have k2 : Try.prog.cellsOf 23 = 1 := by kernel_rfl
  have k3 : Try.prog.cellsOf 24 = 1 := by kernel_rfl
  have g0 := hf_ 0 _ rfl
  have g1 := hf_ 1 _ rfl
  have g2 := hf_ 2 _ rfl
  have g3 := hf_ 3 _ rfl
  simp [k1, k2, k3] at g0 g1 g2 g3
  simp only [List.cons_append, List.nil_append, DataW.weightsEach] at hsz
  obtain ⟨hz, -⟩ := all_app hsz
  simp only [DataW.weights, Try.underlying26, List.map_cons, List.map_nil, DataW.weightsEach] at hz
  obtain ⟨z0, hz⟩ := all_app hz
  obtain ⟨z1, hz⟩ := all_app hz
  obtain ⟨z2, hz⟩ := all_app hz
  obtain ⟨z3, hz⟩ := all_app hz
  obtain ⟨a1, n1, p1, tb, rfl, hl1, hn1, hc1, hr1, -, hok⟩ := trod_structs (nb := 24) Try.underlying22 (by kernel_rfl) (by kernel_rfl) (by decide) rgc_len rg_cells g0 z0
  obtain ⟨a2, n2, p2, fill, rfl, hl2, hn2, hc2, hr2, -⟩ := trod_bytes Try.underlying23 Try.underlying5 (by kernel_rfl) (by kernel_rfl) g1 z1
  obtain ⟨x, rfl, hx⟩ := trod_u64 Try.underlying24 g2
  obtain ⟨a3, n3, p3, b, rfl, hl3, hn3, hc3, hr3, -⟩ := trod_bytes Try.underlying23 Try.underlying5 (by kernel_rfl) (by kernel_rfl) g3 z3
  exact core W a1 n1 p1 tb a2 n2 p2 fill x a3 n3 p3 b hl1 (by omega) hr1 hok hl2 (by omega) (by omega) hr2 hx hl3 (by omega) hr3
end Go.Proofs.Ytcbiohpgmooefaa.ramWorlds
