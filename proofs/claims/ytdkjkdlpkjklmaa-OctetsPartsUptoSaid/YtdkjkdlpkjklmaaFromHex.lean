/- FromHex, the program's and the document's; the document's Hex. No condition. -/
import Derived.Test.YtdkjkdlpkjklmaaUnhex
set_option linter.unusedVariables false
set_option linter.unusedSimpArgs false
namespace Go.Proofs.Ytdkjkdlpkjklmaa
open Go.RowKit
/-- a byte of a text -/
theorem index_text (w : World) (t : List UInt8) (i : Int) (h0 : 0 ≤ i) (h1 : i < t.length) (j : Nat) (hj : i = j) :
    (Instr.index 9 (.string ⟨t.toArray⟩) (.int .i64 i)).run Try.prog w = .ok (.int .u8 ((at8 t j).toNat : Int)) w := by
  subst hj
  have hlt : j < t.length := by omega
  have hu : Try.prog.underlying 9 = some .string := Try.underlying9
  have hg : ((⟨t.toArray⟩ : ByteArray)[j]?) = some (at8 t j) := by
    have hs : j < (⟨t.toArray⟩ : ByteArray).size := by simpa [ByteArray.size] using hlt
    rw [getElem?_pos (⟨t.toArray⟩ : ByteArray) j hs]
    simp [at8, hlt, ByteArray.getElem_eq_getElem_data]
  simp only [Instr.index, Sem.run_bind, asIntOf, Sem.run_pure, Result.andThen, run_underlying hu]
  simp [hg, Sem.run_pure]

structure FromIn (W : World) (t : List UInt8) (n g : Nat) (i : Value) (wr : World) : Prop where
  x : ∃ k : Nat, k ≤ n ∧ i = .int .i64 k ∧ (∀ j, j < k → hv (at8 t (2 * j)) < 16 ∧ hv (at8 t (2 * j + 1)) < 16) ∧ Own 5 wr W.heap.size (.slice (some ⟨g, 0, none⟩) n n) (bytesHex t k ++ List.replicate (n - k) 0) ∧ Below W.heap.size W wr
theorem from_step {W wr : World} {t : List UInt8} {n g k : Nat} (hk : k < n) (hg : W.heap.size ≤ g) (hgood : ∀ j, j < k → hv (at8 t (2 * j)) < 16 ∧ hv (at8 t (2 * j + 1)) < 16)
    (ha : hv (at8 t (2 * k)) < 16) (hb : hv (at8 t (2 * k + 1)) < 16)
    (ho : Own 5 wr W.heap.size (.slice (some ⟨g, 0, none⟩) n n) (bytesHex t k ++ List.replicate (n - k) 0)) (hbel : Below W.heap.size W wr) :
    FromIn W t n g (.int .i64 ((k : Int) + 1)) (wr.setCell ⟨g, k, none⟩ (.int .u8 ((16 * hv (at8 t (2 * k)) + hv (at8 t (2 * k + 1)) : Nat) : Int))) := by
  have hc : (UInt8.ofNat (16 * hv (at8 t (2 * k)) + hv (at8 t (2 * k + 1)))).toNat = 16 * hv (at8 t (2 * k)) + hv (at8 t (2 * k + 1)) := by simp; omega
  have h := ho.store k (UInt8.ofNat (16 * hv (at8 t (2 * k)) + hv (at8 t (2 * k + 1)))) (by simp [bytesHex_length]; omega)
  rw [hc] at h
  refine ⟨k + 1, by omega, by go_num, fun j hj => ?_, ?_, hbel.setCell hg _⟩
  · by_cases h : j < k
    · exact hgood j h
    · obtain rfl : j = k := by omega
      exact ⟨ha, hb⟩
  · rw [bytesHex_succ]
    have e : (bytesHex t k ++ List.replicate (n - k) 0).set k (UInt8.ofNat (16 * hv (at8 t (2 * k)) + hv (at8 t (2 * k + 1)))) = bytesHex t k ++ [UInt8.ofNat (16 * hv (at8 t (2 * k)) + hv (at8 t (2 * k + 1)))] ++ List.replicate (n - (k + 1)) 0 := by
      rw [List.set_append_right _ _ (by rw [bytesHex_length]; exact Nat.le_refl _), bytesHex_length, Nat.sub_self, show n - k = (n - (k + 1)) + 1 by omega, List.replicate_succ, List.set_cons_zero, List.append_assoc]
      rfl
    rw [e] at h
    exact h
theorem or_nibbles (a b : Nat) (ha : a < 16) (hb : b < 16) : bits BinOp.or IntKind.u8 ((a : Int) * 16) (b : Int) = ((16 * a + b : Nat) : Int) := by
  have e : (a : Int) * 16 = ((a * 2 ^ 4 : Nat) : Int) := by omega
  rw [e, u8_or_nat _ _ (by omega) (by omega)]
  have := Nat.two_pow_add_eq_or_of_lt (i := 4) (b := b) (by omega) a
  rw [Nat.mul_comm a, ← this]
set_option maxHeartbeats 1000000 in
theorem fromhex_any (t : List UInt8) (n : Nat) (w : World) (hl : t.length = n) (hn : n ≤ 281474976702464) :
    Calls Try.prog 25 #[.string ⟨t.toArray⟩] w fun e w' => ∃ v, e = .returned (.tuple #[v, .int .i64 (fromE t)]) ∧ Own 5 w' w.heap.size v (fromL t) ∧ Below w.heap.size w w' := by
  obtain ⟨i0, hi, hz0, hz1, hz2⟩ := info_parts byteRow.info
  have hsz : (⟨t.toArray⟩ : ByteArray).size = n := by simpa [ByteArray.size] using hl
  by_cases h2 : n % 2 = 0
  · obtain ⟨m, rfl⟩ : ∃ m, n = 2 * m := ⟨n / 2, by omega⟩
    have hm2 : t.length / 2 = m := by omega
    have hix := fun (w : World) (k : Nat) (hk : k < m) => index_text w t (2 * (k : Int)) (by omega) (by omega) (2 * k) (by omega)
    have hiy := fun (w : World) (k : Nat) (hk : k < m) => index_text w t (2 * (k : Int) + 1) (by omega) (by omega) (2 * k + 1) (by omega)
    have hE1 : (∀ j, j < m → hv (at8 t (2 * j)) < 16 ∧ hv (at8 t (2 * j + 1)) < 16) → fromE t = 0 ∧ fromL t = bytesHex t m := fun h => by
      have : OkHex t := ⟨by omega, by rw [hm2]; exact h⟩
      unfold fromE fromL; rw [if_pos this, if_pos this, hm2]; exact ⟨rfl, rfl⟩
    have hE2 : ∀ j, j < m → ¬ (hv (at8 t (2 * j)) < 16 ∧ hv (at8 t (2 * j + 1)) < 16) → fromE t = 13 ∧ fromL t = [] := fun j hj h => by
      have : ¬ OkHex t := fun ho => h (ho.2 j (by rw [hm2]; exact hj))
      unfold fromE fromL; rw [if_neg this, if_neg this]; exact ⟨rfl, rfl⟩
    clear hm2
    have t1 : (((2 * m : Nat) : Int) % 2 == 0) = true := by rw [beq_iff_eq]; omega
    have t2 : (((2 * m : Nat) : Int) % 2 != 0) = false := by rw [bne, t1]; rfl
    have t3 : ((2 * m : Nat) : Int) / 2 = (m : Int) := by omega
    push_cast at t1 t2 t3
    have Hhl := Lib.hid hl
    clear hl
    have Hhix := Lib.hid hix
    clear hix
    have Hhiy := Lib.hid hiy
    clear hiy
    have HhE1 := Lib.hid hE1
    clear hE1
    have HhE2 := Lib.hid hE2
    clear hE2
    go_enter Try.func25, Try.ntmps25
    go_wp2_with (at_make; refine wpList_make_full _ rfl _ _ 23 rfl w.heap.size 5 i0 (.int .u8 0) 1 Try.underlying23 hi hz0 hz1 _ _ _ _ m rfl rfl ?c0 ?c1 ?c2 ?c3 ?c4 ?_)
    case c0 => first | rfl | omega
    case c1 => first | rfl | omega
    case c2 => rw [hz2]; omega
    case c3 => simp only [maxLen]; omega
    case c4 => exact Nat.le_refl _
    intro w1 hown hgr
    have hb : Below w.heap.size w w1 := (Below.refl _ _).grown hgr (Nat.le_refl _) (by intro k hk; cases hk)
    have ho : Own 5 w1 w.heap.size (.slice (some ⟨w.heap.size, 0, none⟩) m m) (bytesHex t 0 ++ List.replicate (m - 0) 0) := Own.zeros hown
    clear hown hgr
    go_wp2_with fail
    go_loopw [20] (FromIn w t m w.heap.size) (fun i _ => m - (intOf i).toNat)
    case atStart => exact ⟨0, by omega, rfl, fun j hj => absurd hj (by omega), ho, hb⟩
    case round =>
      clear ho hb
      obtain ⟨k, hk, rfl, hgood, ho, hb⟩ := hrel
      have Hgood := Lib.hid hgood
      clear hgood
      by_cases hlt : k < m
      · have hx := fun w => Hhix.out w k hlt
        have hy := fun w => Hhiy.out w k hlt
        obtain ⟨-, -, -, -, -, hcells, hfz⟩ := ho.at
        have hcell := hcells k hlt
        have hfr := hfz k
        clear hcells hfz
        by_cases ha : hv (at8 t (2 * k)) < 16
        · by_cases hbb : hv (at8 t (2 * k + 1)) < 16
          · have hstep := Lib.hid (from_step hlt (Nat.le_refl _) Hgood.out ha hbb ho hb)
            have hor := Lib.hid (or_nibbles _ _ ha hbb)
            have Hda := fun w => Lib.hid (digit_yes (at8 t (2 * k)) w ha)
            have Hdb := fun w => Lib.hid (digit_yes (at8 t (2 * k + 1)) w hbb)
            clear ho hb
            generalize hv (at8 t (2 * k)) = va at *
            generalize hv (at8 t (2 * k + 1)) = vb at *
            generalize at8 t (2 * k) = ca at *
            generalize at8 t (2 * k + 1) = cb at *
            go_wp2_with fail
            refine (Hda _).out.mono ?_
            rintro e w' ⟨rfl, rfl⟩
            go_wp2_with fail
            refine (Hdb _).out.mono ?_
            rintro e w' ⟨rfl, rfl⟩
            clear hx hy
            go_wp2_with fail
            rw [hor.out]
            first
            | (go_roundw
               case rel => exact hstep.out
               case measure => (first | omega | (simp [intOf] <;> omega) | (simp only [intOf] <;> omega)))
            | exact ⟨hstep.out, by (first | omega | (simp [intOf] <;> omega) | (simp only [intOf] <;> omega))⟩
            | (refine ⟨?_, by (first | omega | (simp [intOf] <;> omega) | (simp only [intOf] <;> omega))⟩
               (repeat apply Exists.intro)
               refine (fun a b => And.intro b a) ?_ ?_
               · first | rfl | ((repeat refine ⟨rfl, ?_⟩); rfl)
               exact hstep.out)
          · have hE := Lib.hid (HhE2.out k hlt (fun h => hbb h.2))
            have Hda := fun w => Lib.hid (digit_yes (at8 t (2 * k)) w ha)
            have Hdb := fun w => Lib.hid (digit_no (at8 t (2 * k + 1)) w hbb)
            clear ho
            generalize hv (at8 t (2 * k)) = va at *
            generalize at8 t (2 * k) = ca at *
            generalize at8 t (2 * k + 1) = cb at *
            go_wp2_with fail
            refine (Hda _).out.mono ?_
            rintro e w' ⟨rfl, rfl⟩
            go_wp2_with fail
            refine (Hdb _).out.mono ?_
            rintro e w' ⟨rfl, rfl⟩
            clear hx hy
            go_wp2_with fail
            go_ret2
            exact ⟨.slice none 0 0, by rw [hE.out.1]; rfl, by rw [hE.out.2]; exact Own.nil _ _ _, hb⟩
        · have hE := Lib.hid (HhE2.out k hlt (fun h => ha h.1))
          have Hda := fun w => Lib.hid (digit_no (at8 t (2 * k)) w ha)
          clear ho
          generalize at8 t (2 * k) = ca at *
          by_cases hbb : hv (at8 t (2 * k + 1)) < 16
          · have Hdb := fun w => Lib.hid (digit_yes (at8 t (2 * k + 1)) w hbb)
            generalize hv (at8 t (2 * k + 1)) = vb at *
            generalize at8 t (2 * k + 1) = cb at *
            go_wp2_with fail
            refine (Hda _).out.mono ?_
            rintro e w' ⟨rfl, rfl⟩
            go_wp2_with fail
            refine (Hdb _).out.mono ?_
            rintro e w' ⟨rfl, rfl⟩
            clear hx hy
            go_wp2_with fail
            go_ret2
            exact ⟨.slice none 0 0, by rw [hE.out.1]; rfl, by rw [hE.out.2]; exact Own.nil _ _ _, hb⟩
          · have Hdb := fun w => Lib.hid (digit_no (at8 t (2 * k + 1)) w hbb)
            generalize at8 t (2 * k + 1) = cb at *
            go_wp2_with fail
            refine (Hda _).out.mono ?_
            rintro e w' ⟨rfl, rfl⟩
            go_wp2_with fail
            refine (Hdb _).out.mono ?_
            rintro e w' ⟨rfl, rfl⟩
            clear hx hy
            go_wp2_with fail
            go_ret2
            exact ⟨.slice none 0 0, by rw [hE.out.1]; rfl, by rw [hE.out.2]; exact Own.nil _ _ _, hb⟩
      · obtain rfl : k = m := by omega
        have hE := Lib.hid (HhE1.out Hgood.out)
        rw [Nat.sub_self, List.replicate_zero, List.append_nil] at ho
        go_wp2_with fail
        go_ret2
        exact ⟨_, by rw [hE.out.1]; rfl, by rw [hE.out.2]; exact ho, hb⟩
  · have hE : fromE t = 13 ∧ fromL t = [] := by
      have : ¬ OkHex t := fun h => h2 (by rw [← hl]; exact h.1)
      unfold fromE fromL; rw [if_neg this, if_neg this]; exact ⟨rfl, rfl⟩
    have HE := Lib.hid hE
    have t1 : ((n : Int) % 2 == 0) = false := by rw [beq_eq_false_iff_ne]; omega
    have t2 : ((n : Int) % 2 != 0) = true := by rw [bne, t1]; rfl
    clear hE
    have Hhl := Lib.hid hl
    clear hl
    go_enter Try.func25, Try.ntmps25
    go_wp2_with fail
    go_ret2
    exact ⟨.slice none 0 0, by rw [HE.out.1]; rfl, by rw [HE.out.2]; exact Own.nil _ _ _, Below.refl _ _⟩
end Go.Proofs.Ytdkjkdlpkjklmaa
