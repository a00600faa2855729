/- Metadata are written and read: the walk. No condition. -/
import Derived.Test.YtnmeidmiijcniaaFwA
import Derived.Test.YtnmeidmiijcniaaFwT
import Derived.Test.YtnmeidmiijcniaaOpenM
namespace Go.Proofs.Ytnmeidmiijcniaa.fwuMetas
open Go.ChangeShapes Go.WideShapes Go.ChangeAt Go.RowKit
set_option linter.unusedVariables false
set_option linter.unusedSimpArgs false
def encE (m : Me) : Int := if rightM m then 0 else 231
def encL1 (m : Me) : List UInt8 := if rightM m then encM m else []
theorem own_lit {w : World} {B g C : Nat} {l : List UInt8} (h : Own 5 w B (.slice (some ⟨g, 0, none⟩) 512 C) l) : ∃ v, v = Value.slice (some ⟨g, 0, none⟩) 512 C ∧ Own 5 w B v l := ⟨_, rfl, h⟩
theorem enc_any (m : Me) (w : World) (hs : m.seq < 4294967296) :
    Calls Try.prog 9 #[mev m] w fun e w' => ∃ v, e = .returned (.tuple #[v, .int .i64 (encE m)]) ∧ Own 5 w' w.heap.size v (encL1 m) ∧ Below w.heap.size w w' := by
  unfold encE encL1
  cases hr : rightM m
  · exact (enc_bad m w hr).mono fun e w' ⟨he, hb⟩ => ⟨_, he, Own.nil _ _ _, hb⟩
  · exact (enc_ok m w hr hs).mono fun e w' ⟨g, C, he, hC, ho, hb⟩ => ⟨_, he, ho, hb⟩
theorem renc_any (m : Me) (w : World) (hs : m.seq < 4294967296) :
    Calls Try.prog 11 #[mev m] w fun e w' => ∃ v, e = .returned (.tuple #[v, .int .i64 (encE m)]) ∧ Own 5 w' w.heap.size v (encL1 m) ∧ Below w.heap.size w w' := by
  unfold encE encL1
  cases hr : rightM m
  · exact (renc_bad m w hr).mono fun e w' ⟨he, hb⟩ => ⟨_, he, Own.nil _ _ _, hb⟩
  · exact (renc_ok m w hr hs).mono fun e w' ⟨g, C, he, hC, ho, hb⟩ => ⟨_, he, ho, hb⟩
theorem encL1_len (m : Me) : (encL1 m).length ≤ 512 := by
  unfold encL1
  split
  · rw [encM_len]; exact Nat.le_refl _
  · exact Nat.zero_le _
set_option maxRecDepth 100000 in
set_option maxHeartbeats 1000000 in
theorem core (W : World) (m : Me) (hs : m.seq < 4294967296) (ao : Option Addr) (n cap : Nat) (l : List UInt8) (hl : l.length = n) (hn : n ≤ cap) (hc : cap ≤ 140737488351232) (hr : Rd W ao l) :
    Calls Try.prog 3 #[mev m, .slice ao n cap] W fun e w' => e = .returned (.bool true) ∧ Below W.heap.size W w' := by
  have Hl := Lib.hid (And.intro hl (And.intro hn hc))
  have HX := Lib.hid (HB.new W (mec m) 26)
  have HB1 := Lib.hid ((Below.refl W.heap.size W).alloc (Nat.le_refl _) (.cells (mec m).toArray 26))
  obtain ⟨w1, hw1⟩ : ∃ w1, W.alloc (.cells (mec m).toArray 26) = w1 := ⟨_, rfl⟩
  rw [hw1] at HX HB1
  obtain ⟨X, hX⟩ : ∃ X, W.heap.size = X := ⟨_, rfl⟩
  rw [hX] at HX HB1 ⊢
  have HXl := Lib.hid (Nat.le_of_eq hX.symm)
  have Hr1 := Lib.hid (fun w' (h : Below X W w') => hr.below (by rw [hX]; exact h))
  have He := Lib.hid (enc_any m w1 hs)
  have Hre := Lib.hid (fun w' => renc_any m w' hs)
  unfold mec at hw1
  unfold mev at He Hre ⊢
  obtain ⟨x0, x1, x2, x3, x4⟩ := Five.of HX.out
  have hL := encL1_len m
  obtain ⟨E, hE⟩ : ∃ E, encE m = E := ⟨_, rfl⟩
  obtain ⟨L, hLL⟩ : ∃ L, encL1 m = L := ⟨_, rfl⟩
  rw [hE, hLL] at He Hre
  rw [hLL] at hL
  have HLl := Lib.hid hL
  obtain ⟨M, hM⟩ : ∃ M, (decM l).getD default = M := ⟨_, rfl⟩
  obtain ⟨D, hD⟩ : ∃ D, (if (decM l).isSome then (0 : Int) else 231) = D := ⟨_, rfl⟩
  have Hdv := fun (_ : Unit) => Lib.hid (show decV (decM l) = .tuple #[.agg #[.int .u32 M.seq, .int .i64 M.b0, .int .i64 M.b1, .int .i64 M.act, .int .i64 M.tries], .int .i64 D] from by unfold decV mev; rw [hM, hD])
  clear hl hn hc hr hs hE hLL hL hM hD
  go_enter Try.func3, Try.ntmps3
  go_wp2_with fail
  refine He.out.mono ?_
  rintro e w2 ⟨v1, rfl, ho1, hb2⟩
  have HX2 := Lib.hid (HX.out.later hb2)
  have HB2 := Lib.hid (HB1.out.trans (hb2.mono (Nat.le_of_lt HX.out.lt)))
  have Ho1 := Lib.hid ho1
  have Hd := Lib.hid (dec_any ao n cap l w2 Hl.out.1 Hl.out.2.1 (by have := Hl.out; omega) (Hr1.out _ HB2.out))
  rw [(Hdv ()).out] at Hd
  clear x0 x1 x2 x3 x4 He ho1 hb2 HX hw1
  go_wp2_with fail
  refine Hd.out.mono ?_
  rintro e w3 ⟨rfl, hb3⟩
  have HY := Lib.hid (HB.new w3 (mec M) 26)
  have hb4 := hb3.trans (((Below.refl w3.heap.size w3).alloc (Nat.le_refl _) (.cells (mec M).toArray 26)).mono hb3.size)
  obtain ⟨w4, hw4⟩ : ∃ w4, w3.alloc (.cells (mec M).toArray 26) = w4 := ⟨_, rfl⟩
  rw [hw4] at HY hb4
  obtain ⟨Y, hY⟩ : ∃ Y, w3.heap.size = Y := ⟨_, rfl⟩
  rw [hY] at HY
  unfold mec at hw4
  have HX4 := Lib.hid (HX2.out.later hb4)
  have HB4 := Lib.hid (HB2.out.trans (hb4.mono (Nat.le_of_lt HX2.out.lt)))
  have Ho4 := Lib.hid (Ho1.out.later hb4)
  obtain ⟨x0, x1, x2, x3, x4⟩ := Five.of HX4.out
  clear hb3 hb4 Hd Ho1 HX2 HB2
  go_wp2_with fail
  refine (Hre.out _).mono ?_
  rintro e w5 ⟨v2, rfl, ho2, hb5⟩
  have HX5 := Lib.hid (HX4.out.later hb5)
  have HY5 := Lib.hid (HY.out.later hb5)
  have HB5 := Lib.hid (HB4.out.trans (hb5.mono (Nat.le_of_lt HX4.out.lt)))
  have Ho5 := Lib.hid (Ho4.out.later hb5)
  have Hp5 := Lib.hid ho2
  have Hd := Lib.hid (rdec_any ao n cap l w5 Hl.out.1 (by have := Hl.out; omega) (Hr1.out _ HB5.out))
  rw [(Hdv ()).out] at Hd
  clear x0 x1 x2 x3 x4 Hre ho2 hb5 HX4 HY HB4 Ho4 hw4
  go_wp2_with fail
  refine Hd.out.mono ?_
  rintro e w6 ⟨rfl, hb6⟩
  have HZ := Lib.hid (HB.new w6 (mec M) 26)
  have hb7 := hb6.trans (((Below.refl w6.heap.size w6).alloc (Nat.le_refl _) (.cells (mec M).toArray 26)).mono hb6.size)
  obtain ⟨w7, hw7⟩ : ∃ w7, w6.alloc (.cells (mec M).toArray 26) = w7 := ⟨_, rfl⟩
  rw [hw7] at HZ hb7
  obtain ⟨Z, hZ⟩ : ∃ Z, w6.heap.size = Z := ⟨_, rfl⟩
  rw [hZ] at HZ
  unfold mec at hw7
  have HY7 := Lib.hid (HY5.out.later hb7)
  have HB7 := Lib.hid (HB5.out.trans (hb7.mono (Nat.le_of_lt HX5.out.lt)))
  obtain ⟨a1, c1, rfl, h1, h2, hr1⟩ := (Ho5.out.later hb7).rd
  obtain ⟨a2, c2, rfl, h3, h4, hr2⟩ := (Hp5.out.later hb7).rd
  have Hsm := Lib.hid (same_any a1 a2 L.length L.length c1 c2 L L w7 rfl rfl (by have := HLl.out; omega) (by have := HLl.out; omega) hr1 hr2)
  rw [decide_eq_true rfl] at Hsm
  clear hb6 hb7 Hd Ho5 Hp5 HX5 HY5 HB5 h1 h2 h3 h4 hr1 hr2
  go_wp2_with fail
  refine Hsm.out.mono ?_
  rintro e w8 ⟨rfl, hd8⟩
  have HY8 := Lib.hid (HY7.out.drn hd8)
  have HZ8 := Lib.hid (HZ.out.drn hd8)
  have HB8 := Lib.hid (HB7.out.trans (hd8.below _))
  clear hd8 Hsm HY7 HZ HB7 hw7
  go_wp2_with fail
  refine (alive_any _).mono ?_
  rintro e w9 ⟨rfl, hb9⟩
  obtain ⟨y0, y1, y2, y3, y4⟩ := Five.of (HY8.out.later hb9)
  obtain ⟨z0, z1, z2, z3, z4⟩ := Five.of (HZ8.out.later hb9)
  have HB9 := Lib.hid (HB8.out.trans (hb9.mono (Nat.le_trans HXl.out HB8.out.size)))
  have heq := fun w => me_equal M M w
  rw [decide_eq_true rfl] at heq
  have hguard : Try.prog.eqGuardType Try.prog.depth 26 = false := by kernel_rfl
  clear hb9 HY8 HZ8 HB8
  go_wp2_with fail
  go_ret
  exact ⟨rfl, HB9.out⟩
set_option maxRecDepth 100000 in
theorem walk {H : Type} (enc : TypeId × Value → H) (W : World) (base : Nat) (v0 : Value) (d0 : DataW H) (p0 : List MemPlace) (v1 : Value) (d1 : DataW H) (p1 : List MemPlace)
    (k0 : Value.okWide Try.prog W .any base 26 v0) (k1 : Value.okWide Try.prog W .any base 27 v1)
    (h0 : DataW.Trod enc Try.prog W 0 (fun _ => true) true 26 v0 d0 p0) (h1 : DataW.Trod enc Try.prog W 0 (fun _ => true) true 27 v1 d1 p1)
    (hsz : (DataW.weightsEach Try.prog [26, 27] ([d0, d1] ++ [])).all (· ≤ reachBytes) = true) :
    Calls Try.prog 3 #[v0, v1] W fun e w' => e = .returned (.bool true) ∧ Below W.heap.size W w' := by
  simp only [DataW.weightsEach, List.cons_append, List.nil_append] at hsz
  obtain ⟨z0, hsz⟩ := all_app hsz
  obtain ⟨z1, hsz⟩ := all_app hsz
  obtain ⟨m, rfl, hm⟩ := open_me k0 h0
  obtain ⟨ao, n, cap, l, rfl, hl, hn, hcap, hrd, _⟩ := open_bytes Try.underlying27 Try.underlying5 (by kernel_rfl) (by kernel_rfl) k1 h1 z1
  exact core W m hm.s ao n cap l hl hn hcap hrd
end Go.Proofs.Ytnmeidmiijcniaa.fwuMetas
