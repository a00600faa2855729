/- The document's Hex and FromHex. No condition. -/
import Derived.Test.YtdkjkdlpkjklmaaFromHex
set_option linter.unusedVariables false
set_option linter.unusedSimpArgs false
namespace Go.Proofs.Ytdkjkdlpkjklmaa
open Go.RowKit
set_option maxHeartbeats 400000 in
theorem rhex_any (ao : Option Addr) (n cap : Nat) (l : List UInt8) (w : World) (hl : l.length = n) (hn : n ≤ 140737488351232) (hr : Rd w ao l) :
    Calls Try.prog 27 #[.slice ao n cap] w fun e w' => e = .returned (.string ⟨(hexL l).toArray⟩) ∧ Below w.heap.size w w' := by
  obtain ⟨i0, hi, hz0, hz1, hz2⟩ := info_parts byteRow.info
  have Hhl := Lib.hid hl
  clear hl
  go_enter Try.func27, Try.ntmps27
  go_wp2_with (at_make; refine wpList_make_own _ rfl _ _ 23 rfl w.heap.size 5 i0 (.int .u8 0) 1 Try.underlying23 hi hz0 hz1 _ _ _ (2 * n) rfl rfl ?c1 ?c2 ?c3 ?c4 ?_)
  case c1 => push_cast; rfl
  case c2 => rw [hz2]; omega
  case c3 => simp only [maxLen]; omega
  case c4 => exact Nat.le_refl _
  intro w1 hown hgr
  have hb : Below w.heap.size w w1 := (Below.refl _ _).grown hgr (Nat.le_refl _) (by intro k hk; cases hk)
  have ho : Own 5 w1 w.heap.size (.slice (some ⟨w.heap.size, 0, none⟩) (2 * 0) (2 * n)) (hexL (l.take 0)) := hown
  clear hown hgr
  have hr1 := hr.below hb
  go_wp2_with fail
  go_loopw [3, 4] (HexIn w l n w.heap.size) (fun _ i _ => n - (intOf i).toNat)
  case atStart => exact ⟨0, by omega, rfl, rfl, ho, hb⟩
  case round =>
    clear ho hb hr1
    obtain ⟨k, hk, rfl, rfl, ho, hb⟩ := hrel
    by_cases hlt : k < n
    · have hst := Lib.hid (hexL_snoc l k (by have := Hhl.out; omega))
      obtain ⟨b, off, rfl, hcell⟩ := hr.below hb k (by have := Hhl.out; omega)
      have hcb : (l[k]?.getD 0).toNat < 256 := (l[k]?.getD 0).toNat_lt
      have hx := fun w => index_digit w ((l[k]?.getD 0).toNat / 16) (by omega) .u8
      have hy := fun w => index_digit w ((l[k]?.getD 0).toNat % 16) (by omega) .u8
      push_cast at hx hy
      have Hx := Lib.hid hx
      have Hy := Lib.hid hy
      clear hx hy
      generalize l[k]?.getD 0 = c at *
      clear hr
      go_wp2_with fail
      have hx := Hx.out
      have hy := Hy.out
      clear Hx Hy
      have q1 : IntKind.u8.wrap ((c.toNat : Int) / 16) = (c.toNat : Int) / 16 := IntWalk.u8_in _ (by omega)
      have q2 : (c.toNat : Int) / 16 < 16 := by omega
      have q3 : (c.toNat : Int).tmod 16 = (c.toNat : Int) % 16 := Int.tmod_eq_emod_of_nonneg (by omega)
      have q4 : 0 ≤ (c.toNat : Int) % 16 := by omega
      have q5 : (c.toNat : Int) % 16 < 16 := by omega
      go_region_law ((refine step_of_wp rfl (wp_append_fit byteRow _ _ rfl w.heap.size w.heap.size (2 * k) (2 * n) _ rfl (ho.alloc _) _ 2 2 [hexD (c.toNat / 16), hexD (c.toNat % 16)] rfl rfl (Rd.new _ _ _ _) (2 * k + 2) rfl (by omega) ?_); intro w2 ho2 hgr2))
      all_goals
        have hb2 : Below w.heap.size w w2 := by
          first
          | exact (hb.alloc hb.size _).drew.grown hgr2 (by have := hb.size; simp; omega) (by intro k hk; cases hk; exact Nat.le_refl _)
          | exact (hb.alloc hb.size _).grown hgr2 (by have := hb.size; simp; omega) (by intro k hk; cases hk; exact Nat.le_refl _)
        clear hgr2 hx hy q1 q2 q3 q4 q5
        go_wp2_with fail
        first
        | (go_roundw
           case rel => exact ⟨k + 1, by omega, by go_num, rfl, by rw [hst.out]; exact ho2, hb2⟩
           case measure => (first | omega | (simp [intOf] <;> omega) | (simp only [intOf] <;> omega)))
        | exact ⟨⟨k + 1, by omega, by go_num, rfl, by rw [hst.out]; exact ho2, hb2⟩, by (first | omega | (simp [intOf] <;> omega) | (simp only [intOf] <;> omega))⟩
        | (refine ⟨?_, by (first | omega | (simp [intOf] <;> omega) | (simp only [intOf] <;> omega))⟩
           (repeat apply Exists.intro)
           refine (fun a b => And.intro b a) ?_ ?_
           · first | rfl | ((repeat refine ⟨rfl, ?_⟩); rfl)
           exact ⟨k + 1, by omega, by go_num, rfl, by rw [hst.out]; exact ho2, hb2⟩)
    · obtain rfl : k = n := by omega
      rw [List.take_of_length_le (by have := Hhl.out; omega)] at ho
      have hconv : ∀ W : World, (∀ a, W.cell? a = wr.cell? a) → (convert 23 9 (.slice (some ⟨w.heap.size, 0, none⟩) (2 * k) (2 * k))).run Try.prog W = .ok (.string ⟨(hexL l).toArray⟩) W := fun W hW => by
        obtain ⟨h1, -, -, -, -, h6, -⟩ := ho.at
        rw [h1]
        refine Go.run_convert_bytes_back W _ _ 5 ⟨w.heap.size, 0, none⟩ _ (hexL l) Try.underlying23 Try.underlying5 Try.underlying9 fun j hj => ?_
        have hadd : (⟨w.heap.size, 0, none⟩ : Addr).add j = ⟨w.heap.size, j, none⟩ := by unfold Addr.add; split <;> simp_all
        rw [hadd, hW, h6 j (by omega)]
        simp [hj]
      have hc0 := hconv wr (fun _ => rfl)
      clear hconv
      go_wp2_with fail
      go_ret
      exact ⟨rfl, hb⟩
theorem Own.block {E : TypeId} {w : World} {B : Nat} {v : Value} {l : List UInt8} (h : Own E w B v l) : ∀ k, v.ownBlock = some k → B ≤ k := by
  rcases h.cases with ⟨e, _⟩ | ⟨g, C, e, h1, _⟩
  · subst e; intro k hk; cases hk
  · subst e; intro k hk; cases hk; exact h1
structure RFromIn (W : World) (t : List UInt8) (n : Nat) (v i : Value) (wr : World) : Prop where
  x : ∃ (k : Nat) (ao : Option Addr) (C : Nat), k ≤ n / 2 ∧ i = .int .i64 (2 * (k : Int)) ∧ v = .slice ao k C ∧ (∀ j, j < k → hv (at8 t (2 * j)) < 16 ∧ hv (at8 t (2 * j + 1)) < 16) ∧ Own 5 wr W.heap.size (.slice ao k C) (bytesHex t k) ∧ Below W.heap.size W wr
set_option maxHeartbeats 1000000 in
theorem rfromhex_any (t : List UInt8) (n : Nat) (w : World) (hl : t.length = n) (hn : n ≤ 281474976702464) :
    Calls Try.prog 26 #[.string ⟨t.toArray⟩] w fun e w' => ∃ v, e = .returned (.tuple #[v, .int .i64 (fromE t)]) ∧ Own 5 w' w.heap.size v (fromL t) ∧ Below w.heap.size w w' := by
  have hsz : (⟨t.toArray⟩ : ByteArray).size = n := by simpa [ByteArray.size] using hl
  have hix := fun (w : World) (k : Nat) (hk : 2 * k + 1 < n) => index_text w t (2 * (k : Int)) (by omega) (by omega) (2 * k) (by omega)
  have hiy := fun (w : World) (k : Nat) (hk : 2 * k + 1 < n) => index_text w t (2 * (k : Int) + 1) (by omega) (by omega) (2 * k + 1) (by omega)
  have hE0 : n % 2 = 1 → fromE t = 13 ∧ fromL t = [] := fun h => by
    have : ¬ OkHex t := fun ho => by have := ho.1; omega
    unfold fromE fromL; rw [if_neg this, if_neg this]; exact ⟨rfl, rfl⟩
  have hE1 : n % 2 = 0 → (∀ j, j < n / 2 → hv (at8 t (2 * j)) < 16 ∧ hv (at8 t (2 * j + 1)) < 16) → fromE t = 0 ∧ fromL t = bytesHex t (n / 2) := fun h2 h => by
    have : OkHex t := ⟨by omega, by rw [hl]; exact h⟩
    unfold fromE fromL; rw [if_pos this, if_pos this, hl]; exact ⟨rfl, rfl⟩
  have hE2 : ∀ j, 2 * j + 1 < n → ¬ (hv (at8 t (2 * j)) < 16 ∧ hv (at8 t (2 * j + 1)) < 16) → fromE t = 13 ∧ fromL t = [] := fun j hj h => by
    have : ¬ OkHex t := fun ho => h (ho.2 j (by omega))
    unfold fromE fromL; rw [if_neg this, if_neg this]; exact ⟨rfl, rfl⟩
  have Hhl := Lib.hid hl
  clear hl
  have Hhix := Lib.hid hix
  clear hix
  have Hhiy := Lib.hid hiy
  clear hiy
  have HhE0 := Lib.hid hE0
  clear hE0
  have HhE1 := Lib.hid hE1
  clear hE1
  have HhE2 := Lib.hid hE2
  clear hE2
  go_enter Try.func26, Try.ntmps26
  go_wp2_with fail
  go_loopw [4, 5] (RFromIn w t n) (fun _ i _ => n - (intOf i).toNat)
  case atStart => exact ⟨0, none, 0, by omega, rfl, rfl, fun j hj => absurd hj (by omega), Own.nil _ _ _, Below.refl _ _⟩
  case round =>
    obtain ⟨k, ao, C, hk, rfl, rfl, hgood, ho, hb⟩ := hrel
    have Hgood := Lib.hid hgood
    clear hgood
    by_cases hlt : 2 * k + 1 < n
    · have hx := fun w => Hhix.out w k hlt
      have hy := fun w => Hhiy.out w k hlt
      have hc : (UInt8.ofNat (16 * hv (at8 t (2 * k)) + hv (at8 t (2 * k + 1)))).toNat = (16 * hv (at8 t (2 * k)) + hv (at8 t (2 * k + 1))) % 256 := by simp
      have hstep := Lib.hid (bytesHex_succ t k)
      have Hbh := Lib.hid (bytesHex_length t k)
      have Hg2 := Lib.hid (fun (ha : hv (at8 t (2 * k)) < 16) (hb : hv (at8 t (2 * k + 1)) < 16) (j : Nat) (hj : j < k + 1) => show hv (at8 t (2 * j)) < 16 ∧ hv (at8 t (2 * j + 1)) < 16 by
        by_cases h : j < k
        · exact Hgood.out j h
        · obtain rfl : j = k := by omega
          exact ⟨ha, hb⟩)
      have HE := Lib.hid (HhE2.out k hlt)
      have Hda := fun w => Lib.hid (rdigit_any (at8 t (2 * k)) w)
      have Hdb := fun w => Lib.hid (rdigit_any (at8 t (2 * k + 1)) w)
      have va16 := hv_le (at8 t (2 * k))
      have vb16 := hv_le (at8 t (2 * k + 1))
      generalize UInt8.ofNat (16 * hv (at8 t (2 * k)) + hv (at8 t (2 * k + 1))) = c at *
      generalize hv (at8 t (2 * k)) = va at *
      generalize hv (at8 t (2 * k + 1)) = vb at *
      generalize at8 t (2 * k) = ca at *
      generalize at8 t (2 * k + 1) = cb at *
      by_cases ha : va < 16
      · have ta : ((va : Int) == 16) = false := by rw [beq_eq_false_iff_ne]; omega
        by_cases hbb : vb < 16
        · have tb : ((vb : Int) == 16) = false := by rw [beq_eq_false_iff_ne]; omega
          have hcw : IntKind.u8.wrap (16 * (va : Int) + (vb : Int)) = ((c.toNat : Nat) : Int) := by rw [IntWalk.u8_in _ (by omega)]; omega
          clear hc
          have hr' := fun o => Lib.hid (ho.alloc o)
          go_wp2_with fail
          refine (Hda _).out.mono ?_
          rintro e w' ⟨rfl, rfl⟩
          go_wp2_with fail
          refine (Hdb _).out.mono ?_
          rintro e w' ⟨rfl, rfl⟩
          clear hx hy
          go_wp2_with (at_builtin; refine wpList_append_bytes_pos byteRow rfl _ _ rfl w.heap.size _ (bytesHex t k) rfl (hr' _).out _ 1 1 [c] rfl ?d0 rfl (Rd.new wr [c] _ _) (k + 1) ?d1 ?d2 ?d3 ?d4 ?_)
          case d0 => intro h; cases h
          case d1 => rw [Hbh.out]
          case d2 => omega
          case d3 => omega
          case d4 => have := hb.size; simp; omega
          intro g C2 w1 hown hgr
          have hb1 : Below w.heap.size w w1 := (hb.alloc hb.size _).grown hgr (by have := hb.size; simp; omega) (Own.block ho)
          clear hgr hr' hcw ta tb
          go_wp2_with fail
          first
          | (go_roundw
             case rel => exact ⟨k + 1, some ⟨g, 0, none⟩, C2, by omega, by go_num, rfl, Hg2.out ha hbb, by rw [hstep.out]; exact hown, hb1⟩
             case measure => (first | omega | (simp [intOf] <;> omega) | (simp only [intOf] <;> omega)))
          | exact ⟨⟨k + 1, some ⟨g, 0, none⟩, C2, by omega, by go_num, rfl, Hg2.out ha hbb, by rw [hstep.out]; exact hown, hb1⟩, by (first | omega | (simp [intOf] <;> omega) | (simp only [intOf] <;> omega))⟩
          | (refine ⟨?_, by (first | omega | (simp [intOf] <;> omega) | (simp only [intOf] <;> omega))⟩
             (repeat apply Exists.intro)
             refine (fun a b => And.intro b a) ?_ ?_
             · first | rfl | ((repeat refine ⟨rfl, ?_⟩); rfl)
             exact ⟨k + 1, some ⟨g, 0, none⟩, C2, by omega, by go_num, rfl, Hg2.out ha hbb, by rw [hstep.out]; exact hown, hb1⟩)
        · obtain rfl : vb = 16 := by omega
          go_wp2_with fail
          refine (Hda _).out.mono ?_
          rintro e w' ⟨rfl, rfl⟩
          go_wp2_with fail
          refine (Hdb _).out.mono ?_
          rintro e w' ⟨rfl, rfl⟩
          clear hx hy
          go_wp2_with fail
          go_ret2
          have hE := HE.out (fun h => hbb h.2)
          exact ⟨.slice none 0 0, by rw [hE.1]; rfl, by rw [hE.2]; exact Own.nil _ _ _, hb⟩
      · obtain rfl : va = 16 := by omega
        go_wp2_with fail
        refine (Hda _).out.mono ?_
        rintro e w' ⟨rfl, rfl⟩
        go_wp2_with fail
        refine (Hdb _).out.mono ?_
        rintro e w' ⟨rfl, rfl⟩
        clear hx hy
        go_wp2_with fail
        go_ret2
        have hE := HE.out (fun h => ha h.1)
        exact ⟨.slice none 0 0, by rw [hE.1]; rfl, by rw [hE.2]; exact Own.nil _ _ _, hb⟩
    · by_cases h2 : n % 2 = 0
      · have hE := Lib.hid (HhE1.out h2 (fun j hj => Hgood.out j (by omega)))
        obtain rfl : k = n / 2 := by omega
        have t1 : ((n : Int) % 2 == 0) = true := by rw [beq_iff_eq]; omega
        have t2 : ((n : Int) % 2 != 0) = false := by rw [bne, t1]; rfl
        go_wp2_with fail
        go_ret2
        exact ⟨_, by rw [hE.out.1]; rfl, by rw [hE.out.2]; exact ho, hb⟩
      · have hE := Lib.hid (HhE0.out (by omega))
        have t1 : ((n : Int) % 2 == 0) = false := by rw [beq_eq_false_iff_ne]; omega
        have t2 : ((n : Int) % 2 != 0) = true := by rw [bne, t1]; rfl
        go_wp2_with fail
        go_ret2
        exact ⟨.slice none 0 0, by rw [hE.out.1]; rfl, by rw [hE.out.2]; exact Own.nil _ _ _, hb⟩
end Go.Proofs.Ytdkjkdlpkjklmaa
