/- The document's Check. No condition. -/
import Derived.Test.YthhodibfbfmijaaMapH
set_option linter.unusedVariables false
set_option linter.unusedSimpArgs false
namespace Go.Proofs.Ythhodibfbfmijaa
open Go.RowKit
theorem RdG.take {w : World} {ao : Option Addr} {l : List Rg} (h : RdG w ao l) (k : Nat) : RdG w ao (l.take k) := fun j hj => by
  rw [List.length_take] at hj
  obtain ⟨b, off, e, hlt, hc⟩ := h j (by omega)
  refine ⟨b, off, e, hlt, fun i v hi => hc i v ?_⟩
  have : gAt (l.take k) j = gAt l j := by unfold gAt; rw [List.getElem?_take_of_lt (by omega)]
  rwa [this] at hi
structure CkIn (l : List Rg) (w : World) (i : Value) (wr : World) : Prop where
  x : ∃ k : Nat, k ≤ l.length ∧ i = .int .i64 k ∧ (∀ j, j < k → ckAt l j = 0) ∧ Drn w wr
set_option maxHeartbeats 1000000 in
theorem rcheck_any (ao : Option Addr) (len cap : Nat) (l : List Rg) (w : World) (hl : l.length = len) (hlc : len ≤ cap) (hbig : len ≤ 9223372036854775807) (hr : RdG w ao l) (hok : RgsOk l) :
    Calls Try.prog 16 #[.slice ao len cap] w fun e w' => e = .returned (.int .i64 (ckE l)) ∧ Drn w w' := by
  subst hl
  by_cases h16 : 16 < l.length
  · have hE := Lib.hid (show ckE l = 225 by unfold ckE; rw [if_pos h16])
    go_enter Try.func16, Try.ntmps16
    go_wp2_with fail
    go_ret
    exact ⟨by rw [hE.out]; rfl, Drn.refl _⟩
  go_enter Try.func16, Try.ntmps16
  go_wp2_with fail
  go_loopw [3, 4, 5] (fun i _ _ wr => CkIn l w i wr) (fun i _ _ _ => l.length - (intOf i).toNat)
  case atStart => exact ⟨0, by omega, rfl, fun j hj => absurd hj (by omega), Drn.refl _⟩
  case round =>
    obtain ⟨k, hk, rfl, hpre, hd⟩ := hrel
    have Hhpre := Lib.hid hpre
    clear hpre
    have hr' := hd.rdG hr
    by_cases hlt : k < l.length
    · have hhit := Lib.hid (fun h => ckE_hit h16 hlt Hhpre.out h)
      obtain ⟨bb, off, rfl, -, hc⟩ := hr' k hlt
      have hgok := Lib.hid (hok _ (gAt_mem hlt))
      have hat := Lib.hid (show ckAt l k = _ from rfl)
      have c0 := hc 0 _ rfl
      have c1 := hc 1 _ rfl
      have c3 := hc 3 _ rfl
      have c4 := hc 4 _ rfl
      clear hc
      simp only [Nat.add_zero] at c0
      have Hin := fun w => Lib.hid (rin_any (gAt l k).base (gAt l k).size w)
      have e0 : (0 : Int) ≤ (k : Int) := by omega
      have e1 : (k : Int) < (l.length : Int) := by omega
      cases hin : inR (gAt l k).base (gAt l k).size
      · have hres : ckAt l k = 224 := by unfold ckAt; rw [if_pos hin]
        have HE := Lib.hid ((hhit.out (by rw [hres]; decide)).trans hres)
        simp only [hin] at Hin
        clear hres hin hat hhit
        generalize gAt l k = g at *
        go_wp2_with fail
        go_quiet ((go_at_call 32; exact quiet_eq ((Hin _).out)))
        go_wp2_with fail
        go_ret
        exact ⟨by rw [HE.out]; rfl, hd.step _⟩
      · simp only [hin] at Hin
        have Hfr := fun w h => Lib.hid (rfree_any (some ⟨bb, off, none⟩) k cap (l.take k) (gAt l k).base (gAt l k).size w (by rw [List.length_take]; omega) (by omega) h (fun g hg => hok g (List.mem_of_mem_take hg)) hgok.out.1)
        have hrt := fun nq => (hd.step nq).rdG hr |>.take k
        have hnext : ckAt l k = 0 → Hid (∀ j, j < k + 1 → ckAt l j = 0) := fun h => Lib.hid fun j hj => by
          by_cases e : j < k
          · exact Hhpre.out j e
          · obtain rfl : j = k := by omega
            exact h
        have h222 : ((gAt l k).w && (gAt l k).x) = true → ckAt l k = 222 := fun h => by unfold ckAt; rw [if_neg (by rw [hin]; decide), if_pos h]
        have h223 : ((gAt l k).w && (gAt l k).x) = false → freeR (l.take k) (gAt l k).base (gAt l k).size = false → ckAt l k = 223 := fun h h' => by unfold ckAt; rw [if_neg (by rw [hin]; decide), if_neg (by rw [h]; decide), if_pos h']
        have h0 : ((gAt l k).w && (gAt l k).x) = false → freeR (l.take k) (gAt l k).base (gAt l k).size = true → ckAt l k = 0 := fun h h' => by unfold ckAt; rw [if_neg (by rw [hin]; decide), if_neg (by rw [h]; decide), if_neg (by rw [h']; decide)]
        clear hin hat
        cases hw : (gAt l k).w
        · have hwx : ((gAt l k).w && (gAt l k).x) = false := by rw [hw]; rfl
          cases hf : freeR (l.take k) (gAt l k).base (gAt l k).size
          · have HE := Lib.hid ((hhit.out (by rw [h223 hwx hf]; decide)).trans (h223 hwx hf))
            rw [hw] at c3
            have hr2 := hr'.take k
            have hr3 := fun nq => (hd.step nq).rdG hr |>.take k
            rw [hf] at Hfr
            clear h222 h223 h0 hhit hrt hw hf
            have d0 := fun m => (Drn.cell (a := wr) (b := wr.drewN m) ⟨m, rfl⟩ _).trans c0
            have d1 := fun m => (Drn.cell (a := wr) (b := wr.drewN m) ⟨m, rfl⟩ _).trans c1
            have c3' := fun m => (Drn.cell (a := wr) (b := wr.drewN m) ⟨m, rfl⟩ _).trans c3
            generalize gAt l k = g at *
            go_wp2_with fail
            go_quiet ((go_at_call 32; exact quiet_eq ((Hin _).out)))
            have hd2 := hd.step nq
            have d0' := d0 nq
            have d1' := d1 nq
            have c3'' := c3' nq
            have hr4 := hr3 nq
            have ecap : (k : Int) ≤ (cap : Int) := by omega
            have ek : (k : Int).toNat = k := by omega
            clear d0 d1 c3' c0 c1 c3 hr2 hr3 Hin
            generalize wr.drewN nq = w2 at *
            go_wp2_with fail
            go_quiet ((go_at_call 33; exact quiet_drn ((Hfr _ (Drn.rdG ⟨_, rfl⟩ hr4)).out)))
            go_wp2_with fail
            go_ret
            exact ⟨by rw [HE.out]; rfl, hd2.step _⟩
          · have HN := hnext (h0 hwx hf)
            rw [hw] at c3
            have hr2 := hr'.take k
            have hr3 := fun nq => (hd.step nq).rdG hr |>.take k
            rw [hf] at Hfr
            clear h222 h223 h0 hhit hrt hw hf
            have d0 := fun m => (Drn.cell (a := wr) (b := wr.drewN m) ⟨m, rfl⟩ _).trans c0
            have d1 := fun m => (Drn.cell (a := wr) (b := wr.drewN m) ⟨m, rfl⟩ _).trans c1
            have c3' := fun m => (Drn.cell (a := wr) (b := wr.drewN m) ⟨m, rfl⟩ _).trans c3
            generalize gAt l k = g at *
            go_wp2_with fail
            go_quiet ((go_at_call 32; exact quiet_eq ((Hin _).out)))
            have hd2 := hd.step nq
            have d0' := d0 nq
            have d1' := d1 nq
            have c3'' := c3' nq
            have hr4 := hr3 nq
            have ecap : (k : Int) ≤ (cap : Int) := by omega
            have ek : (k : Int).toNat = k := by omega
            clear d0 d1 c3' c0 c1 c3 hr2 hr3 Hin
            generalize wr.drewN nq = w2 at *
            go_wp2_with fail
            go_quiet ((go_at_call 33; exact quiet_drn ((Hfr _ (Drn.rdG ⟨_, rfl⟩ hr4)).out)))
            go_wp2_with fail
            first
            | (go_roundw
               case rel => exact ⟨k + 1, by omega, by go_num, HN.out, hd2.step _⟩
               case measure => (first | omega | (simp [intOf] <;> omega) | (simp only [intOf] <;> omega)))
            | exact ⟨⟨k + 1, by omega, by go_num, HN.out, hd2.step _⟩, by (first | omega | (simp [intOf] <;> omega) | (simp only [intOf] <;> omega))⟩
            | (refine ⟨?_, by (first | omega | (simp [intOf] <;> omega) | (simp only [intOf] <;> omega))⟩
               (repeat apply Exists.intro)
               refine (fun a b => And.intro b a) ?_ ?_
               · first | rfl | ((repeat refine ⟨rfl, ?_⟩); rfl)
               exact ⟨k + 1, by omega, by go_num, HN.out, hd2.step _⟩)
        · cases hx : (gAt l k).x
          · have hwx : ((gAt l k).w && (gAt l k).x) = false := by rw [hw, hx]; rfl
            cases hf : freeR (l.take k) (gAt l k).base (gAt l k).size
            · have HE := Lib.hid ((hhit.out (by rw [h223 hwx hf]; decide)).trans (h223 hwx hf))
              rw [hw] at c3
              rw [hx] at c4
              have hr2 := hr'.take k
              have hr3 := fun nq => (hd.step nq).rdG hr |>.take k
              rw [hf] at Hfr
              clear h222 h223 h0 hhit hrt hw hx hf
              have d0 := fun m => (Drn.cell (a := wr) (b := wr.drewN m) ⟨m, rfl⟩ _).trans c0
              have d1 := fun m => (Drn.cell (a := wr) (b := wr.drewN m) ⟨m, rfl⟩ _).trans c1
              have c3' := fun m => (Drn.cell (a := wr) (b := wr.drewN m) ⟨m, rfl⟩ _).trans c3
              have c4' := fun m => (Drn.cell (a := wr) (b := wr.drewN m) ⟨m, rfl⟩ _).trans c4
              generalize gAt l k = g at *
              go_wp2_with fail
              go_quiet ((go_at_call 32; exact quiet_eq ((Hin _).out)))
              have hd2 := hd.step nq
              have d0' := d0 nq
              have d1' := d1 nq
              have c3'' := c3' nq
              have hr4 := hr3 nq
              have ecap : (k : Int) ≤ (cap : Int) := by omega
              have ek : (k : Int).toNat = k := by omega
              have c4'' := c4' nq
              clear d0 d1 c3' c0 c1 c3 hr2 hr3 Hin c4 c4'
              generalize wr.drewN nq = w2 at *
              go_wp2_with fail
              go_quiet ((go_at_call 33; exact quiet_drn ((Hfr _ (Drn.rdG ⟨_, rfl⟩ hr4)).out)))
              go_wp2_with fail
              go_ret
              exact ⟨by rw [HE.out]; rfl, hd2.step _⟩
            · have HN := hnext (h0 hwx hf)
              rw [hw] at c3
              rw [hx] at c4
              have hr2 := hr'.take k
              have hr3 := fun nq => (hd.step nq).rdG hr |>.take k
              rw [hf] at Hfr
              clear h222 h223 h0 hhit hrt hw hx hf
              have d0 := fun m => (Drn.cell (a := wr) (b := wr.drewN m) ⟨m, rfl⟩ _).trans c0
              have d1 := fun m => (Drn.cell (a := wr) (b := wr.drewN m) ⟨m, rfl⟩ _).trans c1
              have c3' := fun m => (Drn.cell (a := wr) (b := wr.drewN m) ⟨m, rfl⟩ _).trans c3
              have c4' := fun m => (Drn.cell (a := wr) (b := wr.drewN m) ⟨m, rfl⟩ _).trans c4
              generalize gAt l k = g at *
              go_wp2_with fail
              go_quiet ((go_at_call 32; exact quiet_eq ((Hin _).out)))
              have hd2 := hd.step nq
              have d0' := d0 nq
              have d1' := d1 nq
              have c3'' := c3' nq
              have hr4 := hr3 nq
              have ecap : (k : Int) ≤ (cap : Int) := by omega
              have ek : (k : Int).toNat = k := by omega
              have c4'' := c4' nq
              clear d0 d1 c3' c0 c1 c3 hr2 hr3 Hin c4 c4'
              generalize wr.drewN nq = w2 at *
              go_wp2_with fail
              go_quiet ((go_at_call 33; exact quiet_drn ((Hfr _ (Drn.rdG ⟨_, rfl⟩ hr4)).out)))
              go_wp2_with fail
              first
              | (go_roundw
                 case rel => exact ⟨k + 1, by omega, by go_num, HN.out, hd2.step _⟩
                 case measure => (first | omega | (simp [intOf] <;> omega) | (simp only [intOf] <;> omega)))
              | exact ⟨⟨k + 1, by omega, by go_num, HN.out, hd2.step _⟩, by (first | omega | (simp [intOf] <;> omega) | (simp only [intOf] <;> omega))⟩
              | (refine ⟨?_, by (first | omega | (simp [intOf] <;> omega) | (simp only [intOf] <;> omega))⟩
                 (repeat apply Exists.intro)
                 refine (fun a b => And.intro b a) ?_ ?_
                 · first | rfl | ((repeat refine ⟨rfl, ?_⟩); rfl)
                 exact ⟨k + 1, by omega, by go_num, HN.out, hd2.step _⟩)
          · have HE := Lib.hid ((hhit.out (by rw [h222 (by rw [hw, hx]; rfl)]; decide)).trans (h222 (by rw [hw, hx]; rfl)))
            rw [hw] at c3
            rw [hx] at c4
            clear h222 h223 h0 hhit hnext hrt Hfr hw hx
            generalize gAt l k = g at *
            go_wp2_with fail
            go_quiet ((go_at_call 32; exact quiet_eq ((Hin _).out)))
            have c3' := fun m => (Drn.cell (a := wr) (b := wr.drewN m) ⟨m, rfl⟩ _).trans c3
            have c4' := fun m => (Drn.cell (a := wr) (b := wr.drewN m) ⟨m, rfl⟩ _).trans c4
            go_wp2_with fail
            go_ret
            exact ⟨by rw [HE.out]; rfl, hd.step _⟩
    · obtain rfl : k = l.length := by omega
      have HE := Lib.hid (ckE_all h16 Hhpre.out)
      go_wp2_with fail
      go_ret
      exact ⟨by rw [HE.out]; rfl, hd⟩
end Go.Proofs.Ythhodibfbfmijaa
