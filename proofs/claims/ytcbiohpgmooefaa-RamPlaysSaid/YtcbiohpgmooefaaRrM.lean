/- The document's RAM: whether bytes may be gone to. No condition. -/
import Derived.Test.YtcbiohpgmooefaaRrF
set_option linter.unusedVariables false
set_option linter.unusedSimpArgs false
namespace Go.Proofs.Ytcbiohpgmooefaa
open Go.RowKit
attribute [local go_sem ↓] build_rg
structure RmIn (t : List Rg) (sec : Bool) (a : Int) (x n : Nat) (w : World) (kv : Value) (wr : World) : Prop where
  x : ∃ k : Nat, k ≤ n ∧ kv = .int .u64 k ∧ mayGo t sec a x n = mayGo t sec a (x + k) (n - k) ∧ Below w.heap.size w wr
theorem mayGo_step2 {t : List Rg} {sec : Bool} {a : Int} {x k n : Nat} (h : mayAt t sec a (x + k) = 0) (hk : k < n) : mayGo t sec a (x + k) (n - k) = mayGo t sec a (x + (k + 1)) (n - (k + 1)) := by
  rw [mayGo_step h (by omega), show x + k + 1 = x + (k + 1) by omega, show n - k - 1 = n - (k + 1) by omega]
theorem mayGo_zero' {t : List Rg} {sec : Bool} {a : Int} {x : Nat} : mayGo t sec a x 0 = 0 := rfl
set_option maxRecDepth 100000 in
set_option maxHeartbeats 8000000 in
theorem rmay_any {B R : Nat} {m : List UInt8} {tv : Value} {t : List Rg} {w : World} (h : RefM B R m tv t w) (sec : Bool) (a : Int) (x n : Nat) (hx : x < 18446744073709551616) :
    Calls Try.prog 36 #[.pointer (some ⟨R, 0, none⟩), .bool sec, .int .i64 a, .int .u64 x, .int .u64 n] w fun e w' => e = .returned (.int .i64 (mayR t sec a x n)) ∧ Below w.heap.size w w' := by
  by_cases ha1 : a < 1
  · have Hd := Lib.hid (show mayR t sec a x n = 1 by unfold mayR; rw [if_pos (.inl ha1)])
    clear h
    go_enter Try.func36, Try.ntmps36
    go_wp2_with fail
    go_ret
    exact ⟨by rw [Hd.out]; rfl, Below.refl _ _⟩
  by_cases ha3 : 3 < a
  · have Hd := Lib.hid (show mayR t sec a x n = 1 by unfold mayR; rw [if_pos (.inr ha3)])
    clear h
    go_enter Try.func36, Try.ntmps36
    go_wp2_with fail
    go_ret
    exact ⟨by rw [Hd.out]; rfl, Below.refl _ _⟩
  have Hw := Lib.hid (fun w' => within2_any x n w' hx)
  cases hin : inRam x n
  · have Hd := Lib.hid (show mayR t sec a x n = 161 by unfold mayR; rw [if_neg (by omega), if_pos hin])
    rw [hin] at Hw
    clear h hin
    go_enter Try.func36, Try.ntmps36
    go_wp2_with fail
    refine (Hw.out _).mono ?_
    rintro e w' ⟨rfl, rfl⟩
    clear Hw
    go_wp2_with fail
    go_ret
    exact ⟨by rw [Hd.out]; rfl, Below.refl _ _⟩
  · have Hd := fun (_ : Unit) => Lib.hid (show mayR t sec a x n = mayGo t sec a x n by unfold mayR; rw [if_neg (by omega), if_neg (by rw [hin]; decide)])
    have hin2 := inRam_iff.1 hin
    rw [hin] at Hw
    have Hh := Lib.hid (fun w' (hb : Below w.heap.size w w') => h.later hb)
    have Hin := fun (_ : Unit) => Lib.hid hin2
    have ha : a = 1 ∨ a = 2 ∨ a = 3 := by omega
    clear h hin hin2 ha1 ha3
    go_enter Try.func36, Try.ntmps36
    rcases ha with rfl | rfl | rfl
    · go_wp2_with fail
      refine (Hw.out _).mono ?_
      rintro e w' ⟨rfl, rfl⟩
      clear Hw
      go_wp2_with fail
      go_loopw [12, 13, 14, 15] (fun kv _ _ _ wr => RmIn t sec _ x n w kv wr) (fun kv _ _ _ _ => n - (intOf kv).toNat)
      case atStart => exact ⟨0, Nat.zero_le _, rfl, by rw [Nat.add_zero, Nat.sub_zero], Below.refl _ _⟩
      case round =>
        obtain ⟨k, hk, rfl, hgo, hb⟩ := hrel
        have Hgo := fun (_ : Unit) => Lib.hid hgo
        have Hb := Lib.hid hb
        clear hgo hb
        by_cases hkn : k < n
        · have q1 : (k : Int) < (n : Int) := by omega
          have hi := (Hin ()).out
          have Hf := Lib.hid (rfind_any (Hh.out _ Hb.out) (x + k) (by omega))
          obtain ⟨A, hA⟩ : ∃ A, x + k = A := ⟨_, rfl⟩
          have p1 : (x : Int) + (k : Int) = (A : Int) := by omega
          have p2 : A < 1073807360 := by omega
          have p3 : (k : Int) + 1 < 18446744073709551616 := by omega
          cases hfr : findR t (x + k) with
          | none =>
            rw [fR_none hfr, hA] at Hf
            have Hres := fun (_ : Unit) => Lib.hid ((Hd ()).out.trans ((Hgo ()).out.trans ((mayGo_hit (by rw [mayAt_none hfr]; decide) (by omega)).trans (mayAt_none hfr))))
            unfold rgv at Hf
            clear hfr hA hi
            go_wp2_with fail
            refine Hf.out.mono ?_
            rintro e w2 ⟨rfl, hb2⟩
            have Hb2 := Lib.hid (Hb.out.trans (hb2.mono Hb.out.size))
            clear hb2 Hf
            go_wp2_with fail
            go_ret
            exact ⟨by rw [(Hres ()).out]; rfl, Hb2.out.alloc Hb2.out.size _⟩
          | some g =>
            rw [fR_some hfr, hA] at Hf
            have Hfr := fun (_ : Unit) => Lib.hid hfr
            obtain ⟨gb, gn, gr, gw, gx, gs⟩ := g
            unfold rgv at Hf
            dsimp only at Hf
            clear hfr hA hi
            cases gs
            · cases gr
              · have Hres := fun (_ : Unit) => Lib.hid ((Hd ()).out.trans ((Hgo ()).out.trans ((mayGo_hit (by rw [mayAt_some (Hfr ()).out]; simp [opn, right]) (by omega)).trans ((mayAt_some (Hfr ()).out).trans (by simp [opn, right] : _ = (163 : Int))))))
                go_wp2_with fail
                refine Hf.out.mono ?_
                rintro e w2 ⟨rfl, hb2⟩
                have Hb2 := Lib.hid (Hb.out.trans (hb2.mono Hb.out.size))
                clear hb2 Hf Hb
                go_wp2_with fail
                go_ret
                exact ⟨by rw [(Hres ()).out]; rfl, Hb2.out.alloc Hb2.out.size _⟩
              · have Hnext := fun (_ : Unit) => Lib.hid ((Hgo ()).out.trans (mayGo_step2 ((mayAt_some (Hfr ()).out).trans (by simp [opn, right])) hkn))
                go_wp2_with fail
                refine Hf.out.mono ?_
                rintro e w2 ⟨rfl, hb2⟩
                have Hb2 := Lib.hid (Hb.out.trans (hb2.mono Hb.out.size))
                clear hb2 Hf Hb
                go_wp2_with fail
                first
                | (go_roundw
                   case rel => exact ⟨k + 1, by omega, by go_num, (Hnext ()).out, Hb2.out.alloc Hb2.out.size _⟩
                   case measure => (first | omega | (simp [intOf] <;> omega) | (simp only [intOf] <;> omega)))
                | exact ⟨⟨k + 1, by omega, by go_num, (Hnext ()).out, Hb2.out.alloc Hb2.out.size _⟩, by (first | omega | (simp [intOf] <;> omega) | (simp only [intOf] <;> omega))⟩
                | (refine ⟨?_, by (first | omega | (simp [intOf] <;> omega) | (simp only [intOf] <;> omega))⟩
                   (repeat apply Exists.intro)
                   refine (fun a b => And.intro b a) ?_ ?_
                   · first | rfl | ((repeat refine ⟨rfl, ?_⟩); rfl)
                   exact ⟨k + 1, by omega, by go_num, (Hnext ()).out, Hb2.out.alloc Hb2.out.size _⟩)
            · cases sec
              · cases gr
                · have Hres := fun (_ : Unit) => Lib.hid ((Hd ()).out.trans ((Hgo ()).out.trans ((mayGo_hit (by rw [mayAt_some (Hfr ()).out]; simp [opn, right]) (by omega)).trans ((mayAt_some (Hfr ()).out).trans (by simp [opn, right] : _ = (163 : Int))))))
                  go_wp2_with fail
                  refine Hf.out.mono ?_
                  rintro e w2 ⟨rfl, hb2⟩
                  have Hb2 := Lib.hid (Hb.out.trans (hb2.mono Hb.out.size))
                  clear hb2 Hf Hb
                  go_wp2_with fail
                  go_ret
                  exact ⟨by rw [(Hres ()).out]; rfl, Hb2.out.alloc Hb2.out.size _⟩
                · have Hres := fun (_ : Unit) => Lib.hid ((Hd ()).out.trans ((Hgo ()).out.trans ((mayGo_hit (by rw [mayAt_some (Hfr ()).out]; simp [opn, right]) (by omega)).trans ((mayAt_some (Hfr ()).out).trans (by simp [opn, right] : _ = (163 : Int))))))
                  go_wp2_with fail
                  refine Hf.out.mono ?_
                  rintro e w2 ⟨rfl, hb2⟩
                  have Hb2 := Lib.hid (Hb.out.trans (hb2.mono Hb.out.size))
                  clear hb2 Hf Hb
                  go_wp2_with fail
                  go_ret
                  exact ⟨by rw [(Hres ()).out]; rfl, Hb2.out.alloc Hb2.out.size _⟩
              · cases gr
                · have Hres := fun (_ : Unit) => Lib.hid ((Hd ()).out.trans ((Hgo ()).out.trans ((mayGo_hit (by rw [mayAt_some (Hfr ()).out]; simp [opn, right]) (by omega)).trans ((mayAt_some (Hfr ()).out).trans (by simp [opn, right] : _ = (163 : Int))))))
                  go_wp2_with fail
                  refine Hf.out.mono ?_
                  rintro e w2 ⟨rfl, hb2⟩
                  have Hb2 := Lib.hid (Hb.out.trans (hb2.mono Hb.out.size))
                  clear hb2 Hf Hb
                  go_wp2_with fail
                  go_ret
                  exact ⟨by rw [(Hres ()).out]; rfl, Hb2.out.alloc Hb2.out.size _⟩
                · have Hnext := fun (_ : Unit) => Lib.hid ((Hgo ()).out.trans (mayGo_step2 ((mayAt_some (Hfr ()).out).trans (by simp [opn, right])) hkn))
                  go_wp2_with fail
                  refine Hf.out.mono ?_
                  rintro e w2 ⟨rfl, hb2⟩
                  have Hb2 := Lib.hid (Hb.out.trans (hb2.mono Hb.out.size))
                  clear hb2 Hf Hb
                  go_wp2_with fail
                  first
                  | (go_roundw
                     case rel => exact ⟨k + 1, by omega, by go_num, (Hnext ()).out, Hb2.out.alloc Hb2.out.size _⟩
                     case measure => (first | omega | (simp [intOf] <;> omega) | (simp only [intOf] <;> omega)))
                  | exact ⟨⟨k + 1, by omega, by go_num, (Hnext ()).out, Hb2.out.alloc Hb2.out.size _⟩, by (first | omega | (simp [intOf] <;> omega) | (simp only [intOf] <;> omega))⟩
                  | (refine ⟨?_, by (first | omega | (simp [intOf] <;> omega) | (simp only [intOf] <;> omega))⟩
                     (repeat apply Exists.intro)
                     refine (fun a b => And.intro b a) ?_ ?_
                     · first | rfl | ((repeat refine ⟨rfl, ?_⟩); rfl)
                     exact ⟨k + 1, by omega, by go_num, (Hnext ()).out, Hb2.out.alloc Hb2.out.size _⟩)
        · have q1 : ¬ (k : Int) < (n : Int) := by omega
          have Hres := fun (_ : Unit) => Lib.hid ((Hd ()).out.trans ((Hgo ()).out.trans (by rw [show n - k = 0 by omega]; rfl : _ = (0 : Int))))
          go_wp2_with fail
          go_ret
          exact ⟨by rw [(Hres ()).out]; rfl, Hb.out⟩
    · go_wp2_with fail
      refine (Hw.out _).mono ?_
      rintro e w' ⟨rfl, rfl⟩
      clear Hw
      go_wp2_with fail
      go_loopw [12, 13, 14, 15] (fun kv _ _ _ wr => RmIn t sec _ x n w kv wr) (fun kv _ _ _ _ => n - (intOf kv).toNat)
      case atStart => exact ⟨0, Nat.zero_le _, rfl, by rw [Nat.add_zero, Nat.sub_zero], Below.refl _ _⟩
      case round =>
        obtain ⟨k, hk, rfl, hgo, hb⟩ := hrel
        have Hgo := fun (_ : Unit) => Lib.hid hgo
        have Hb := Lib.hid hb
        clear hgo hb
        by_cases hkn : k < n
        · have q1 : (k : Int) < (n : Int) := by omega
          have hi := (Hin ()).out
          have Hf := Lib.hid (rfind_any (Hh.out _ Hb.out) (x + k) (by omega))
          obtain ⟨A, hA⟩ : ∃ A, x + k = A := ⟨_, rfl⟩
          have p1 : (x : Int) + (k : Int) = (A : Int) := by omega
          have p2 : A < 1073807360 := by omega
          have p3 : (k : Int) + 1 < 18446744073709551616 := by omega
          cases hfr : findR t (x + k) with
          | none =>
            rw [fR_none hfr, hA] at Hf
            have Hres := fun (_ : Unit) => Lib.hid ((Hd ()).out.trans ((Hgo ()).out.trans ((mayGo_hit (by rw [mayAt_none hfr]; decide) (by omega)).trans (mayAt_none hfr))))
            unfold rgv at Hf
            clear hfr hA hi
            go_wp2_with fail
            refine Hf.out.mono ?_
            rintro e w2 ⟨rfl, hb2⟩
            have Hb2 := Lib.hid (Hb.out.trans (hb2.mono Hb.out.size))
            clear hb2 Hf
            go_wp2_with fail
            go_ret
            exact ⟨by rw [(Hres ()).out]; rfl, Hb2.out.alloc Hb2.out.size _⟩
          | some g =>
            rw [fR_some hfr, hA] at Hf
            have Hfr := fun (_ : Unit) => Lib.hid hfr
            obtain ⟨gb, gn, gr, gw, gx, gs⟩ := g
            unfold rgv at Hf
            dsimp only at Hf
            clear hfr hA hi
            cases gs
            · cases gw
              · have Hres := fun (_ : Unit) => Lib.hid ((Hd ()).out.trans ((Hgo ()).out.trans ((mayGo_hit (by rw [mayAt_some (Hfr ()).out]; simp [opn, right]) (by omega)).trans ((mayAt_some (Hfr ()).out).trans (by simp [opn, right] : _ = (163 : Int))))))
                go_wp2_with fail
                refine Hf.out.mono ?_
                rintro e w2 ⟨rfl, hb2⟩
                have Hb2 := Lib.hid (Hb.out.trans (hb2.mono Hb.out.size))
                clear hb2 Hf Hb
                go_wp2_with fail
                go_ret
                exact ⟨by rw [(Hres ()).out]; rfl, Hb2.out.alloc Hb2.out.size _⟩
              · have Hnext := fun (_ : Unit) => Lib.hid ((Hgo ()).out.trans (mayGo_step2 ((mayAt_some (Hfr ()).out).trans (by simp [opn, right])) hkn))
                go_wp2_with fail
                refine Hf.out.mono ?_
                rintro e w2 ⟨rfl, hb2⟩
                have Hb2 := Lib.hid (Hb.out.trans (hb2.mono Hb.out.size))
                clear hb2 Hf Hb
                go_wp2_with fail
                first
                | (go_roundw
                   case rel => exact ⟨k + 1, by omega, by go_num, (Hnext ()).out, Hb2.out.alloc Hb2.out.size _⟩
                   case measure => (first | omega | (simp [intOf] <;> omega) | (simp only [intOf] <;> omega)))
                | exact ⟨⟨k + 1, by omega, by go_num, (Hnext ()).out, Hb2.out.alloc Hb2.out.size _⟩, by (first | omega | (simp [intOf] <;> omega) | (simp only [intOf] <;> omega))⟩
                | (refine ⟨?_, by (first | omega | (simp [intOf] <;> omega) | (simp only [intOf] <;> omega))⟩
                   (repeat apply Exists.intro)
                   refine (fun a b => And.intro b a) ?_ ?_
                   · first | rfl | ((repeat refine ⟨rfl, ?_⟩); rfl)
                   exact ⟨k + 1, by omega, by go_num, (Hnext ()).out, Hb2.out.alloc Hb2.out.size _⟩)
            · cases sec
              · cases gw
                · have Hres := fun (_ : Unit) => Lib.hid ((Hd ()).out.trans ((Hgo ()).out.trans ((mayGo_hit (by rw [mayAt_some (Hfr ()).out]; simp [opn, right]) (by omega)).trans ((mayAt_some (Hfr ()).out).trans (by simp [opn, right] : _ = (163 : Int))))))
                  go_wp2_with fail
                  refine Hf.out.mono ?_
                  rintro e w2 ⟨rfl, hb2⟩
                  have Hb2 := Lib.hid (Hb.out.trans (hb2.mono Hb.out.size))
                  clear hb2 Hf Hb
                  go_wp2_with fail
                  go_ret
                  exact ⟨by rw [(Hres ()).out]; rfl, Hb2.out.alloc Hb2.out.size _⟩
                · have Hres := fun (_ : Unit) => Lib.hid ((Hd ()).out.trans ((Hgo ()).out.trans ((mayGo_hit (by rw [mayAt_some (Hfr ()).out]; simp [opn, right]) (by omega)).trans ((mayAt_some (Hfr ()).out).trans (by simp [opn, right] : _ = (163 : Int))))))
                  go_wp2_with fail
                  refine Hf.out.mono ?_
                  rintro e w2 ⟨rfl, hb2⟩
                  have Hb2 := Lib.hid (Hb.out.trans (hb2.mono Hb.out.size))
                  clear hb2 Hf Hb
                  go_wp2_with fail
                  go_ret
                  exact ⟨by rw [(Hres ()).out]; rfl, Hb2.out.alloc Hb2.out.size _⟩
              · cases gw
                · have Hres := fun (_ : Unit) => Lib.hid ((Hd ()).out.trans ((Hgo ()).out.trans ((mayGo_hit (by rw [mayAt_some (Hfr ()).out]; simp [opn, right]) (by omega)).trans ((mayAt_some (Hfr ()).out).trans (by simp [opn, right] : _ = (163 : Int))))))
                  go_wp2_with fail
                  refine Hf.out.mono ?_
                  rintro e w2 ⟨rfl, hb2⟩
                  have Hb2 := Lib.hid (Hb.out.trans (hb2.mono Hb.out.size))
                  clear hb2 Hf Hb
                  go_wp2_with fail
                  go_ret
                  exact ⟨by rw [(Hres ()).out]; rfl, Hb2.out.alloc Hb2.out.size _⟩
                · have Hnext := fun (_ : Unit) => Lib.hid ((Hgo ()).out.trans (mayGo_step2 ((mayAt_some (Hfr ()).out).trans (by simp [opn, right])) hkn))
                  go_wp2_with fail
                  refine Hf.out.mono ?_
                  rintro e w2 ⟨rfl, hb2⟩
                  have Hb2 := Lib.hid (Hb.out.trans (hb2.mono Hb.out.size))
                  clear hb2 Hf Hb
                  go_wp2_with fail
                  first
                  | (go_roundw
                     case rel => exact ⟨k + 1, by omega, by go_num, (Hnext ()).out, Hb2.out.alloc Hb2.out.size _⟩
                     case measure => (first | omega | (simp [intOf] <;> omega) | (simp only [intOf] <;> omega)))
                  | exact ⟨⟨k + 1, by omega, by go_num, (Hnext ()).out, Hb2.out.alloc Hb2.out.size _⟩, by (first | omega | (simp [intOf] <;> omega) | (simp only [intOf] <;> omega))⟩
                  | (refine ⟨?_, by (first | omega | (simp [intOf] <;> omega) | (simp only [intOf] <;> omega))⟩
                     (repeat apply Exists.intro)
                     refine (fun a b => And.intro b a) ?_ ?_
                     · first | rfl | ((repeat refine ⟨rfl, ?_⟩); rfl)
                     exact ⟨k + 1, by omega, by go_num, (Hnext ()).out, Hb2.out.alloc Hb2.out.size _⟩)
        · have q1 : ¬ (k : Int) < (n : Int) := by omega
          have Hres := fun (_ : Unit) => Lib.hid ((Hd ()).out.trans ((Hgo ()).out.trans (by rw [show n - k = 0 by omega]; rfl : _ = (0 : Int))))
          go_wp2_with fail
          go_ret
          exact ⟨by rw [(Hres ()).out]; rfl, Hb.out⟩
    · go_wp2_with fail
      refine (Hw.out _).mono ?_
      rintro e w' ⟨rfl, rfl⟩
      clear Hw
      go_wp2_with fail
      go_loopw [12, 13, 14, 15] (fun kv _ _ _ wr => RmIn t sec _ x n w kv wr) (fun kv _ _ _ _ => n - (intOf kv).toNat)
      case atStart => exact ⟨0, Nat.zero_le _, rfl, by rw [Nat.add_zero, Nat.sub_zero], Below.refl _ _⟩
      case round =>
        obtain ⟨k, hk, rfl, hgo, hb⟩ := hrel
        have Hgo := fun (_ : Unit) => Lib.hid hgo
        have Hb := Lib.hid hb
        clear hgo hb
        by_cases hkn : k < n
        · have q1 : (k : Int) < (n : Int) := by omega
          have hi := (Hin ()).out
          have Hf := Lib.hid (rfind_any (Hh.out _ Hb.out) (x + k) (by omega))
          obtain ⟨A, hA⟩ : ∃ A, x + k = A := ⟨_, rfl⟩
          have p1 : (x : Int) + (k : Int) = (A : Int) := by omega
          have p2 : A < 1073807360 := by omega
          have p3 : (k : Int) + 1 < 18446744073709551616 := by omega
          cases hfr : findR t (x + k) with
          | none =>
            rw [fR_none hfr, hA] at Hf
            have Hres := fun (_ : Unit) => Lib.hid ((Hd ()).out.trans ((Hgo ()).out.trans ((mayGo_hit (by rw [mayAt_none hfr]; decide) (by omega)).trans (mayAt_none hfr))))
            unfold rgv at Hf
            clear hfr hA hi
            go_wp2_with fail
            refine Hf.out.mono ?_
            rintro e w2 ⟨rfl, hb2⟩
            have Hb2 := Lib.hid (Hb.out.trans (hb2.mono Hb.out.size))
            clear hb2 Hf
            go_wp2_with fail
            go_ret
            exact ⟨by rw [(Hres ()).out]; rfl, Hb2.out.alloc Hb2.out.size _⟩
          | some g =>
            rw [fR_some hfr, hA] at Hf
            have Hfr := fun (_ : Unit) => Lib.hid hfr
            obtain ⟨gb, gn, gr, gw, gx, gs⟩ := g
            unfold rgv at Hf
            dsimp only at Hf
            clear hfr hA hi
            cases gs
            · cases gx
              · have Hres := fun (_ : Unit) => Lib.hid ((Hd ()).out.trans ((Hgo ()).out.trans ((mayGo_hit (by rw [mayAt_some (Hfr ()).out]; simp [opn, right]) (by omega)).trans ((mayAt_some (Hfr ()).out).trans (by simp [opn, right] : _ = (163 : Int))))))
                go_wp2_with fail
                refine Hf.out.mono ?_
                rintro e w2 ⟨rfl, hb2⟩
                have Hb2 := Lib.hid (Hb.out.trans (hb2.mono Hb.out.size))
                clear hb2 Hf Hb
                go_wp2_with fail
                go_ret
                exact ⟨by rw [(Hres ()).out]; rfl, Hb2.out.alloc Hb2.out.size _⟩
              · have Hnext := fun (_ : Unit) => Lib.hid ((Hgo ()).out.trans (mayGo_step2 ((mayAt_some (Hfr ()).out).trans (by simp [opn, right])) hkn))
                go_wp2_with fail
                refine Hf.out.mono ?_
                rintro e w2 ⟨rfl, hb2⟩
                have Hb2 := Lib.hid (Hb.out.trans (hb2.mono Hb.out.size))
                clear hb2 Hf Hb
                go_wp2_with fail
                first
                | (go_roundw
                   case rel => exact ⟨k + 1, by omega, by go_num, (Hnext ()).out, Hb2.out.alloc Hb2.out.size _⟩
                   case measure => (first | omega | (simp [intOf] <;> omega) | (simp only [intOf] <;> omega)))
                | exact ⟨⟨k + 1, by omega, by go_num, (Hnext ()).out, Hb2.out.alloc Hb2.out.size _⟩, by (first | omega | (simp [intOf] <;> omega) | (simp only [intOf] <;> omega))⟩
                | (refine ⟨?_, by (first | omega | (simp [intOf] <;> omega) | (simp only [intOf] <;> omega))⟩
                   (repeat apply Exists.intro)
                   refine (fun a b => And.intro b a) ?_ ?_
                   · first | rfl | ((repeat refine ⟨rfl, ?_⟩); rfl)
                   exact ⟨k + 1, by omega, by go_num, (Hnext ()).out, Hb2.out.alloc Hb2.out.size _⟩)
            · cases sec
              · cases gx
                · have Hres := fun (_ : Unit) => Lib.hid ((Hd ()).out.trans ((Hgo ()).out.trans ((mayGo_hit (by rw [mayAt_some (Hfr ()).out]; simp [opn, right]) (by omega)).trans ((mayAt_some (Hfr ()).out).trans (by simp [opn, right] : _ = (163 : Int))))))
                  go_wp2_with fail
                  refine Hf.out.mono ?_
                  rintro e w2 ⟨rfl, hb2⟩
                  have Hb2 := Lib.hid (Hb.out.trans (hb2.mono Hb.out.size))
                  clear hb2 Hf Hb
                  go_wp2_with fail
                  go_ret
                  exact ⟨by rw [(Hres ()).out]; rfl, Hb2.out.alloc Hb2.out.size _⟩
                · have Hres := fun (_ : Unit) => Lib.hid ((Hd ()).out.trans ((Hgo ()).out.trans ((mayGo_hit (by rw [mayAt_some (Hfr ()).out]; simp [opn, right]) (by omega)).trans ((mayAt_some (Hfr ()).out).trans (by simp [opn, right] : _ = (163 : Int))))))
                  go_wp2_with fail
                  refine Hf.out.mono ?_
                  rintro e w2 ⟨rfl, hb2⟩
                  have Hb2 := Lib.hid (Hb.out.trans (hb2.mono Hb.out.size))
                  clear hb2 Hf Hb
                  go_wp2_with fail
                  go_ret
                  exact ⟨by rw [(Hres ()).out]; rfl, Hb2.out.alloc Hb2.out.size _⟩
              · cases gx
                · have Hres := fun (_ : Unit) => Lib.hid ((Hd ()).out.trans ((Hgo ()).out.trans ((mayGo_hit (by rw [mayAt_some (Hfr ()).out]; simp [opn, right]) (by omega)).trans ((mayAt_some (Hfr ()).out).trans (by simp [opn, right] : _ = (163 : Int))))))
                  go_wp2_with fail
                  refine Hf.out.mono ?_
                  rintro e w2 ⟨rfl, hb2⟩
                  have Hb2 := Lib.hid (Hb.out.trans (hb2.mono Hb.out.size))
                  clear hb2 Hf Hb
                  go_wp2_with fail
                  go_ret
                  exact ⟨by rw [(Hres ()).out]; rfl, Hb2.out.alloc Hb2.out.size _⟩
                · have Hnext := fun (_ : Unit) => Lib.hid ((Hgo ()).out.trans (mayGo_step2 ((mayAt_some (Hfr ()).out).trans (by simp [opn, right])) hkn))
                  go_wp2_with fail
                  refine Hf.out.mono ?_
                  rintro e w2 ⟨rfl, hb2⟩
                  have Hb2 := Lib.hid (Hb.out.trans (hb2.mono Hb.out.size))
                  clear hb2 Hf Hb
                  go_wp2_with fail
                  first
                  | (go_roundw
                     case rel => exact ⟨k + 1, by omega, by go_num, (Hnext ()).out, Hb2.out.alloc Hb2.out.size _⟩
                     case measure => (first | omega | (simp [intOf] <;> omega) | (simp only [intOf] <;> omega)))
                  | exact ⟨⟨k + 1, by omega, by go_num, (Hnext ()).out, Hb2.out.alloc Hb2.out.size _⟩, by (first | omega | (simp [intOf] <;> omega) | (simp only [intOf] <;> omega))⟩
                  | (refine ⟨?_, by (first | omega | (simp [intOf] <;> omega) | (simp only [intOf] <;> omega))⟩
                     (repeat apply Exists.intro)
                     refine (fun a b => And.intro b a) ?_ ?_
                     · first | rfl | ((repeat refine ⟨rfl, ?_⟩); rfl)
                     exact ⟨k + 1, by omega, by go_num, (Hnext ()).out, Hb2.out.alloc Hb2.out.size _⟩)
        · have q1 : ¬ (k : Int) < (n : Int) := by omega
          have Hres := fun (_ : Unit) => Lib.hid ((Hd ()).out.trans ((Hgo ()).out.trans (by rw [show n - k = 0 by omega]; rfl : _ = (0 : Int))))
          go_wp2_with fail
          go_ret
          exact ⟨by rw [(Hres ()).out]; rfl, Hb.out⟩
end Go.Proofs.Ytcbiohpgmooefaa
