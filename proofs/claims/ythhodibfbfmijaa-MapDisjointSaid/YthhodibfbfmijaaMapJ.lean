/- Check of memmap. No condition. -/
import Derived.Test.YthhodibfbfmijaaMapI
set_option linter.unusedVariables false
set_option linter.unusedSimpArgs false
namespace Go.Proofs.Ythhodibfbfmijaa
open Go.RowKit
structure CkBel (l : List Rg) (w : World) (i : Value) (wr : World) : Prop where
  x : ∃ k : Nat, k ≤ l.length ∧ i = .int .i64 k ∧ (∀ j, j < k → ckAt l j = 0) ∧ Below w.heap.size w wr
set_option maxHeartbeats 1000000 in
theorem check_any (ao : Option Addr) (len cap : Nat) (l : List Rg) (w : World) (hl : l.length = len) (hlc : len ≤ cap) (hbig : len ≤ 9223372036854775807) (hr : RdG w ao l) (hok : RgsOk l) :
    Calls Try.prog 15 #[.slice ao len cap] w fun e w' => e = .returned (.int .i64 (ckE l)) ∧ Below w.heap.size w w' := by
  subst hl
  by_cases h16 : 16 < l.length
  · have hE := Lib.hid (show ckE l = 225 by unfold ckE; rw [if_pos h16])
    go_enter Try.func15, Try.ntmps15
    go_wp2_with fail
    go_ret
    exact ⟨by rw [hE.out]; rfl, Below.refl _ _⟩
  go_enter Try.func15, Try.ntmps15
  go_wp2_with fail
  go_loopw [11] (CkBel l w) (fun i _ => l.length - (intOf i).toNat)
  case atStart => exact ⟨0, by omega, rfl, fun j hj => absurd hj (by omega), Below.refl _ _⟩
  case round =>
    obtain ⟨k, hk, rfl, hpre, hb⟩ := hrel
    have Hhpre := Lib.hid hpre
    clear hpre
    have hr' := hr.below hb
    by_cases hlt : k < l.length
    · have hhit := Lib.hid (fun h => ckE_hit h16 hlt Hhpre.out h)
      obtain ⟨bb, off, rfl, -, hc⟩ := hr' k hlt
      have hgok := Lib.hid (hok _ (gAt_mem hlt))
      have c0 := hc 0 _ rfl
      have c1 := hc 1 _ rfl
      have c2 := hc 2 _ rfl
      have c3 := hc 3 _ rfl
      have c4 := hc 4 _ rfl
      have c5 := hc 5 _ rfl
      clear hc
      simp only [Nat.add_zero] at c0
      have Hin := fun w => Lib.hid (inside_any (gAt l k).base (gAt l k).size w hgok.out.1)
      have e0 : (0 : Int) ≤ (k : Int) := by omega
      have e1 : (k : Int) < (l.length : Int) := by omega
      cases hin : inR (gAt l k).base (gAt l k).size
      · have hres : ckAt l k = 224 := by unfold ckAt; rw [if_pos hin]
        have HE := Lib.hid ((hhit.out (by rw [hres]; decide)).trans hres)
        simp only [hin] at Hin
        unfold pc at Hin
        clear hres hin hhit
        generalize gAt l k = g at *
        go_wp2_with fail
        refine (Hin _).out.mono ?_
        rintro e w5 ⟨rfl, hb5⟩
        have hb6 := ((hb.alloc hb.size _).alloc (by have := hb.size; simp; omega) _).trans (hb5.mono (by have := hb.size; simp; omega))
        go_wp2_with fail
        go_ret
        exact ⟨by rw [HE.out]; rfl, hb6⟩
      · simp only [hin] at Hin
        unfold pc at Hin
        have Hcf := fun (w' : World) (g : Nat) (h : RdG w' (some ⟨bb, off, none⟩) (l.take k)) (hp : Pc w' g (gAt l k).base (gAt l k).size) => Lib.hid (containsc_any (some ⟨bb, off, none⟩) k cap (l.take k) g (gAt l k).base (gAt l k).size w' (by rw [List.length_take]; omega) (by omega) h (fun g hg => hok g (List.mem_of_mem_take hg)) hp hgok.out.1)
        have hnext : ckAt l k = 0 → Hid (∀ j, j < k + 1 → ckAt l j = 0) := fun h => Lib.hid fun j hj => by
          by_cases e : j < k
          · exact Hhpre.out j e
          · obtain rfl : j = k := by omega
            exact h
        have h222 : ((gAt l k).w && (gAt l k).x) = true → ckAt l k = 222 := fun h => by unfold ckAt; rw [if_neg (by rw [hin]; decide), if_pos h]
        have h223 : ((gAt l k).w && (gAt l k).x) = false → freeR (l.take k) (gAt l k).base (gAt l k).size = false → ckAt l k = 223 := fun h h' => by unfold ckAt; rw [if_neg (by rw [hin]; decide), if_neg (by rw [h]; decide), if_pos h']
        have h0 : ((gAt l k).w && (gAt l k).x) = false → freeR (l.take k) (gAt l k).base (gAt l k).size = true → ckAt l k = 0 := fun h h' => by unfold ckAt; rw [if_neg (by rw [hin]; decide), if_neg (by rw [h]; decide), if_neg (by rw [h']; decide)]
        have hB1 := (Blk.new wr [.int .u64 (gAt l k).base, .int .u64 (gAt l k).size, .bool (gAt l k).r, .bool (gAt l k).w, .bool (gAt l k).x, .bool (gAt l k).s] 30)
        have hB2 := fun o => Blk.new1 wr o [.int .u64 (gAt l k).base, .int .u64 (gAt l k).size] 59
        clear hin
        go_wp2_with fail
        refine (Hin _).out.mono ?_
        rintro e w5 ⟨rfl, hb5⟩
        have hb6 := ((hb.alloc hb.size _).alloc (by have := hb.size; simp; omega) _).trans (hb5.mono (by have := hb.size; simp; omega))
        obtain ⟨⟨f0, f1, f2, f3, f4, f5⟩, -⟩ := ((hB1.alloc _).below hb5).six
        have hP0 := (hB2 _).below hb5
        have hPc : Pc w5 (wr.heap.size + 1) (gAt l k).base (gAt l k).size := ⟨hP0.1, hP0.2.1 0 _ rfl, hP0.2.1 1 _ rfl⟩
        clear hB1 hB2 hP0 hb5 c0 c1 c2 c3 c4 c5 Hin
        cases hw : (gAt l k).w
        · have hwx : ((gAt l k).w && (gAt l k).x) = false := by rw [hw]; rfl
          rw [hw] at f3
          cases hf : freeR (l.take k) (gAt l k).base (gAt l k).size
          · have HE := Lib.hid ((hhit.out (by rw [h223 hwx hf]; decide)).trans (h223 hwx hf))
            clear h222 h223 h0 hhit hw
            rw [hf] at Hcf
            clear hf
            have ecap : (k : Int) ≤ (cap : Int) := by omega
            have ek : (k : Int).toNat = k := by omega
            go_wp2_with fail
            refine (Hcf _ _ (hr.below hb6 |>.take k) hPc).out.mono ?_
            rintro e w7 ⟨rfl, hb7⟩
            have hb8 := hb6.trans (hb7.mono hb6.size)
            clear hb7
            go_wp2_with fail
            go_ret
            exact ⟨by rw [HE.out]; rfl, hb8⟩
          · have HN := hnext (h0 hwx hf)
            clear h222 h223 h0 hhit hw
            rw [hf] at Hcf
            clear hf
            have ecap : (k : Int) ≤ (cap : Int) := by omega
            have ek : (k : Int).toNat = k := by omega
            go_wp2_with fail
            refine (Hcf _ _ (hr.below hb6 |>.take k) hPc).out.mono ?_
            rintro e w7 ⟨rfl, hb7⟩
            have hb8 := hb6.trans (hb7.mono hb6.size)
            clear hb7
            go_wp2_with fail
            first
            | (go_roundw
               case rel => exact ⟨k + 1, by omega, by go_num, HN.out, hb8⟩
               case measure => (first | omega | (simp [intOf] <;> omega) | (simp only [intOf] <;> omega)))
            | exact ⟨⟨k + 1, by omega, by go_num, HN.out, hb8⟩, by (first | omega | (simp [intOf] <;> omega) | (simp only [intOf] <;> omega))⟩
            | (refine ⟨?_, by (first | omega | (simp [intOf] <;> omega) | (simp only [intOf] <;> omega))⟩
               (repeat apply Exists.intro)
               refine (fun a b => And.intro b a) ?_ ?_
               · first | rfl | ((repeat refine ⟨rfl, ?_⟩); rfl)
               exact ⟨k + 1, by omega, by go_num, HN.out, hb8⟩)
        · cases hx : (gAt l k).x
          · have hwx : ((gAt l k).w && (gAt l k).x) = false := by rw [hw, hx]; rfl
            rw [hw] at f3
            rw [hx] at f4
            cases hf : freeR (l.take k) (gAt l k).base (gAt l k).size
            · have HE := Lib.hid ((hhit.out (by rw [h223 hwx hf]; decide)).trans (h223 hwx hf))
              clear h222 h223 h0 hhit hw hx
              rw [hf] at Hcf
              clear hf
              have ecap : (k : Int) ≤ (cap : Int) := by omega
              have ek : (k : Int).toNat = k := by omega
              go_wp2_with fail
              refine (Hcf _ _ (hr.below hb6 |>.take k) hPc).out.mono ?_
              rintro e w7 ⟨rfl, hb7⟩
              have hb8 := hb6.trans (hb7.mono hb6.size)
              clear hb7
              go_wp2_with fail
              go_ret
              exact ⟨by rw [HE.out]; rfl, hb8⟩
            · have HN := hnext (h0 hwx hf)
              clear h222 h223 h0 hhit hw hx
              rw [hf] at Hcf
              clear hf
              have ecap : (k : Int) ≤ (cap : Int) := by omega
              have ek : (k : Int).toNat = k := by omega
              go_wp2_with fail
              refine (Hcf _ _ (hr.below hb6 |>.take k) hPc).out.mono ?_
              rintro e w7 ⟨rfl, hb7⟩
              have hb8 := hb6.trans (hb7.mono hb6.size)
              clear hb7
              go_wp2_with fail
              first
              | (go_roundw
                 case rel => exact ⟨k + 1, by omega, by go_num, HN.out, hb8⟩
                 case measure => (first | omega | (simp [intOf] <;> omega) | (simp only [intOf] <;> omega)))
              | exact ⟨⟨k + 1, by omega, by go_num, HN.out, hb8⟩, by (first | omega | (simp [intOf] <;> omega) | (simp only [intOf] <;> omega))⟩
              | (refine ⟨?_, by (first | omega | (simp [intOf] <;> omega) | (simp only [intOf] <;> omega))⟩
                 (repeat apply Exists.intro)
                 refine (fun a b => And.intro b a) ?_ ?_
                 · first | rfl | ((repeat refine ⟨rfl, ?_⟩); rfl)
                 exact ⟨k + 1, by omega, by go_num, HN.out, hb8⟩)
          · have HE := Lib.hid ((hhit.out (by rw [h222 (by rw [hw, hx]; rfl)]; decide)).trans (h222 (by rw [hw, hx]; rfl)))
            rw [hw] at f3
            rw [hx] at f4
            clear h222 h223 h0 hhit hnext Hcf hw hx
            go_wp2_with fail
            go_ret
            exact ⟨by rw [HE.out]; rfl, hb6⟩
    · obtain rfl : k = l.length := by omega
      have HE := Lib.hid (ckE_all h16 Hhpre.out)
      go_wp2_with fail
      go_ret
      exact ⟨by rw [HE.out]; rfl, hb⟩
end Go.Proofs.Ythhodibfbfmijaa
