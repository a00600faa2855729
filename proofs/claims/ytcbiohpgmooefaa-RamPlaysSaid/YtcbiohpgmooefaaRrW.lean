/- One op of a script, of RAM and of the document's RAM: Store, Wipe, the reads. No condition. -/
import Derived.Test.YtcbiohpgmooefaaRrU
import Derived.Test.YtcbiohpgmooefaaRrZ
set_option linter.unusedVariables false
set_option linter.unusedSimpArgs false
namespace Go.Proofs.Ytcbiohpgmooefaa
open Go.RowKit
attribute [local go_sem ↓] build_rref
theorem putR_eq {m b : List UInt8} {r : Int} {x : Nat} {m2 : List UInt8} (h : putR m r x b = m2) : putR m r x b = m2 := h
section
variable {A B : Nat} {m : List UInt8} {t : List Rg} {va vb : Value} {w : World}
set_option maxRecDepth 100000 in
set_option maxHeartbeats 1000000 in
theorem step7 (h : Tw A B m m t t va vb w) (o : OpR) (hk : o.kind = 7) (hx : o.x < 18446744073709551616) (hl : o.l.length ≤ 140737488351232) (hz : o.ao = none → o.cap = 0) (hd : ∀ w', Below A w w' → Rd w' o.ao o.l) :
    Calls Try.prog 16 #[.pointer (some ⟨A, 0, none⟩), .pointer (some ⟨B, 0, none⟩), orv o] w fun e w' => e = .returned (.bool true) ∧ Stepped A B w w' := by
  have HX := Lib.hid (HB.new w (orc o) 44)
  have HB1 := Lib.hid ((Below.refl w.heap.size w).alloc (Nat.le_refl _) (.cells (orc o).toArray 44))
  have HT := Lib.hid (h.later HB1.out)
  have HA1 := Lib.hid (HB1.out.mono (Nat.le_of_lt h.lt.1))
  obtain ⟨w1, hw1⟩ : ∃ w1, w.alloc (.cells (orc o).toArray 44) = w1 := ⟨_, rfl⟩
  rw [hw1] at HX HB1 HT HA1
  unfold orc at hw1
  obtain ⟨X, hX⟩ : ∃ X, w.heap.size = X := ⟨_, rfl⟩
  rw [hX] at HX
  have HXx := fun (_ : Unit) => Lib.hid hX
  have HXL := Lib.hid (show A < X ∧ B < X from by have := h.lt; omega)
  unfold orv
  obtain ⟨x0, x1, x2, x3, x4, x5, x6, x7, x8, x9, x10, x11⟩ := OpX.of HX.out
  rw [hk] at x0 hw1 ⊢
  clear hk h
  have Hx := Lib.hid hx
  have Hl := Lib.hid hl
  have Hz := Lib.hid hz
  have Hd := Lib.hid hd
  have HC := Lib.hid (fun w' (hb : HB w' X 44 (orc o)) => OpX.of hb)
  clear hx hl hz hd
  go_enter Try.func16, Try.ntmps16
  go_upto_region 21 with fail
  have hm0 := Own.made0 5 w1 w1.heap.size (Nat.le_refl _)
  have hb2 := (Below.refl w1.heap.size w1).alloc (Nat.le_refl _) (.cells #[] 5)
  have Hm0 := Lib.hid hm0
  have Hb2 := Lib.hid hb2
  have Hd2 := Lib.hid (Hd.out _ (HA1.out.trans (hb2.mono (Nat.le_of_lt HT.out.lt.1))))
  have y11 := fun o' => (OpX.of (HX.out.alloc o')).c11
  clear hm0 hb2
  go_wp2_with (at_builtin; refine wpList_append_bytes byteRow rfl _ _ rfl w1.heap.size _ [] rfl Hm0.out o.ao o.l.length o.cap o.l rfl Hz.out rfl Hd2.out (by have := Hl.out; simp only [List.length_nil]; omega) Hb2.out.size ?_)
  intro vu w2 hou hg2
  have Hb3 := Lib.hid (show Below w1.heap.size w1 w2 from Hb2.out.grown hg2 Hb2.out.size (fun q hq => by cases hq; exact Nat.le_refl _))
  have HT2 := Lib.hid (HT.out.later Hb3.out)
  have HX2 := Lib.hid (HX.out.later Hb3.out)
  have HA2 := Lib.hid (HA1.out.trans (Hb3.out.mono (Nat.le_of_lt HT.out.lt.1)))
  obtain ⟨ua, uc, rfl, hc1, hc2, hrd⟩ := hou.rd
  have Hou := Lib.hid hou
  have Hf := Lib.hid (store_any HT2.out.a o.sec o.x ua o.l.length uc o.l Hx.out rfl (by have := Hl.out; omega) (fun w' hb => Rd.below hrd hb))
  obtain ⟨RES, hRES⟩ : ∃ RES, mayR t o.sec 2 o.x o.l.length = RES := ⟨_, rfl⟩
  have HRES := fun (_ : Unit) => Lib.hid hRES
  rw [hRES] at Hf
  have hXA : X ≠ A ∧ X ≠ B ∧ A < w1.heap.size ∧ B < w1.heap.size := by have := HT.out.lt; have := HXL.out; omega
  have HXA := Lib.hid hXA
  have HuA : Hid (∀ q, (Value.slice ua o.l.length uc).ownBlock = some q → q ≠ A ∧ q ≠ B) := Lib.hid (fun q hq => by
    have := own_blk Hou.out hq
    omega)
  clear y11 hg2 hou hc1 hc2 hrd hRES x0 x1 x2 x3 x4 x5 x6 x7 x8 x9 x10 x11 Hb2 Hm0 Hd2 hXA
  obtain ⟨x0, x1, x2, x3, x4, x5, x6, x7, x8, x9, x10, x11⟩ := HC.out w2 HX2.out
  go_wp2_with fail
  refine Hf.out.mono ?_
  rintro e w3 ⟨rfl, hl3⟩
  have HT3 := Lib.hid (HT2.out.layA hl3 (.inl rfl))
  have HX3 := Lib.hid (HX2.out.frm hl3.f HXA.out.1)
  have HA3 := Lib.hid (HA2.out.trans HT3.out.2)
  have Hou3 := Lib.hid (Hou.out.frm hl3.f (fun q hq => (HuA.out q hq).1))
  have Hd3 := Lib.hid (Hd.out _ HA3.out)
  obtain ⟨ua', uc', hue, -, -, hrd3⟩ := Hou3.out.rd
  cases hue
  have Hs := Lib.hid (same_any ua o.ao o.l.length o.l.length uc o.cap o.l o.l w3 rfl rfl (by have := Hl.out; omega) (by have := Hl.out; omega) hrd3 Hd3.out)
  rw [decide_eq_true rfl] at Hs
  clear hl3 Hf hrd3 x0 x1 x2 x3 x4 x5 x6 x7 x8 x9 x10 x11 HT2 HX2 HA2 Hou Hou3 HuA Hd3
  obtain ⟨x0, x1, x2, x3, x4, x5, x6, x7, x8, x9, x10, x11⟩ := HC.out w3 HX3.out
  go_wp2_with fail
  refine Hs.out.mono ?_
  rintro e w4 ⟨rfl, hd4⟩
  have HT4 := Lib.hid (HT3.out.1.later (hd4.below _))
  have HX4 := Lib.hid (HX3.out.drn hd4)
  have HA4 := Lib.hid (HA3.out.trans (hd4.below _))
  have Hg := Lib.hid (rstore_any HT4.out.b o.sec o.x o.ao o.l.length o.cap o.l Hx.out rfl (by have := Hl.out; omega) (fun w' hf => Hd.out w' (HA4.out.trans (hf.below (Nat.le_of_lt HT4.out.lt.1) (fun q hq => by have := HT4.out.ne; omega)))))
  rw [(HRES ()).out] at Hg
  clear hd4 Hs x0 x1 x2 x3 x4 x5 x6 x7 x8 x9 x10 x11 HX3 HA3 HT3
  obtain ⟨x0, x1, x2, x3, x4, x5, x6, x7, x8, x9, x10, x11⟩ := HC.out w4 HX4.out
  go_wp2_with fail
  refine Hg.out.mono ?_
  rintro e w5 ⟨rfl, hr5, hf5⟩
  have HT5 := Lib.hid (HT4.out.layB hr5 hf5 (.inl rfl))
  have HA5 := Lib.hid (HA4.out.trans HT5.out.2)
  clear hr5 hf5 Hg x0 x1 x2 x3 x4 x5 x6 x7 x8 x9 x10 x11 HX4 HT4 HA4
  go_wp2_with fail
  go_ret
  exact ⟨rfl, ⟨_, _, _, _, HT5.out.1⟩, HA5.out⟩
set_option maxRecDepth 100000 in
set_option maxHeartbeats 1000000 in
theorem step11 (h : Tw A B m m t t va vb w) (o : OpR) (hk : o.kind = 11) :
    Calls Try.prog 16 #[.pointer (some ⟨A, 0, none⟩), .pointer (some ⟨B, 0, none⟩), orv o] w fun e w' => e = .returned (.bool true) ∧ Stepped A B w w' := by
  have hz := run_buildRef
  have HX := Lib.hid (HB.new w (orc o) 44)
  have HB1 := Lib.hid ((Below.refl w.heap.size w).alloc (Nat.le_refl _) (.cells (orc o).toArray 44))
  have HT := Lib.hid (h.later HB1.out)
  have HA1 := Lib.hid (HB1.out.mono (Nat.le_of_lt h.lt.1))
  obtain ⟨w1, hw1⟩ : ∃ w1, w.alloc (.cells (orc o).toArray 44) = w1 := ⟨_, rfl⟩
  rw [hw1] at HX HB1 HT HA1
  unfold orc at hw1
  obtain ⟨X, hX⟩ : ∃ X, w.heap.size = X := ⟨_, rfl⟩
  rw [hX] at HX
  have HXx := fun (_ : Unit) => Lib.hid hX
  have HXL := Lib.hid (show A < X ∧ B < X from by have := h.lt; omega)
  unfold orv
  obtain ⟨x0, x1, x2, x3, x4, x5, x6, x7, x8, x9, x10, x11⟩ := OpX.of HX.out
  rw [hk] at x0 hw1 ⊢
  clear hk h
  have Hf := Lib.hid (wipe_any HT.out.a)
  go_enter Try.func16, Try.ntmps16
  go_wp2_with fail
  refine Hf.out.mono ?_
  rintro e w2 ⟨rfl, hl2⟩
  have HT2 := Lib.hid (HT.out.layA hl2 (.inr rfl))
  have HA2 := Lib.hid (HA1.out.trans HT2.out.2)
  have HR := fun (_ : Unit) => Lib.hid (show Tw A B m0 m0 [] [] (.slice none 0 0) (.slice none 0 0) (w2.setRow B (ramC m0 (.slice none 0 0)).toArray) ∧ Below A w2 (w2.setRow B (ramC m0 (.slice none 0 0)).toArray) from
    HT2.out.1.layB ⟨setRow_heap w2 B _ _ _ _ HT2.out.1.b.h, m0_len, OwnS.nil _ _, Tab.nil, HT2.out.1.b.b, fun h => by cases h⟩ ⟨rfl, rfl, rfl, by simp [World.setRow], fun k hk hne => setRow_other w2 B k _ hne⟩ (.inr rfl))
  have Hh := Lib.hid HT2.out.1.b.h
  have Hi : Hid ((Try.prog.info? 51).map (·.size) = some (ramC m0 (.slice none 0 0)).toArray.size) := Lib.hid (by rw [rref_size, List.size_toArray, ramC_len, m0_len])
  have Hs : Hid ((ramC m vb).toArray.size = (ramC m0 (.slice none 0 0)).toArray.size) := Lib.hid (by rw [List.size_toArray, List.size_toArray, ramC_len, ramC_len, HT2.out.1.b.l, m0_len])
  have H1 : Hid ((ramC m0 (.slice none 0 0)).toArray.all (·.oneCell') = true) := Lib.hid (by
    rw [List.all_toArray, List.all_eq_true]
    intro u hu
    unfold ramC at hu
    rcases List.mem_append.1 hu with hu | hu
    · exact bv_one _ u hu
    · rw [List.mem_singleton.1 hu]; rfl)
  clear hl2 HT2 Hf HT HX x0 x1 x2 x3 x4 x5 x6 x7 x8 x9 x10 x11
  generalize ramC m0 (.slice none 0 0) = z at *
  go_wp2_with (refine wpList_store_row rfl _ _ _ rfl B z.toArray rfl rfl _ _ Hh.out Hi.out Hs.out H1.out ?_)
  go_wp2_with fail
  go_ret
  exact ⟨rfl, ⟨_, _, _, _, (HR ()).out.1⟩, HA2.out.trans (HR ()).out.2⟩
set_option maxRecDepth 100000 in
set_option maxHeartbeats 1000000 in
theorem step0 (h : Tw A B m m t t va vb w) (o : OpR) (hx : o.x < 18446744073709551616) (h1 : o.kind ≠ 1) (h2 : o.kind ≠ 2) (h3 : o.kind ≠ 3) (h4 : o.kind ≠ 4) (h5 : o.kind ≠ 5) (h7 : o.kind ≠ 7) (h9 : o.kind ≠ 9) (h11 : o.kind ≠ 11) :
    Calls Try.prog 16 #[.pointer (some ⟨A, 0, none⟩), .pointer (some ⟨B, 0, none⟩), orv o] w fun e w' => e = .returned (.bool true) ∧ Stepped A B w w' := by
  obtain ⟨kk, hk⟩ : ∃ kk, o.kind = kk := ⟨_, rfl⟩
  rw [hk] at h1 h2 h3 h4 h5 h7 h9 h11
  have HF := Lib.hid (fun w' (hT : Tw A B m m t t va vb w') => reads_any hT o hx rfl)
  rw [show orv o = .agg #[.int .i64 kk, .int .u64 o.r.base, .int .u64 o.r.size, .bool o.r.r, .bool o.r.w, .bool o.r.x, .bool o.r.s, .bool o.sec, .int .i64 o.a, .int .u64 o.x, .int .u64 o.n, .slice o.ao o.l.length o.cap] from by unfold orv; rw [hk]] at HF
  have HX := Lib.hid (HB.new w (orc o) 44)
  have HB1 := Lib.hid ((Below.refl w.heap.size w).alloc (Nat.le_refl _) (.cells (orc o).toArray 44))
  have HT := Lib.hid (h.later HB1.out)
  have HA1 := Lib.hid (HB1.out.mono (Nat.le_of_lt h.lt.1))
  obtain ⟨w1, hw1⟩ : ∃ w1, w.alloc (.cells (orc o).toArray 44) = w1 := ⟨_, rfl⟩
  rw [hw1] at HX HB1 HT HA1
  unfold orc at hw1
  obtain ⟨X, hX⟩ : ∃ X, w.heap.size = X := ⟨_, rfl⟩
  rw [hX] at HX
  have HXx := fun (_ : Unit) => Lib.hid hX
  have HXL := Lib.hid (show A < X ∧ B < X from by have := h.lt; omega)
  unfold orv
  obtain ⟨x0, x1, x2, x3, x4, x5, x6, x7, x8, x9, x10, x11⟩ := OpX.of HX.out
  rw [hk] at x0 hw1 ⊢
  clear hk h
  have Hf := Lib.hid (HF.out w1 HT.out)
  clear HF
  go_enter Try.func16, Try.ntmps16
  go_wp2_with fail
  refine Hf.out.mono ?_
  rintro e w2 ⟨rfl, hb2⟩
  have HT2 := Lib.hid (HT.out.later hb2)
  have HA2 := Lib.hid (HA1.out.trans (hb2.mono (Nat.le_of_lt HT.out.lt.1)))
  clear hb2 x0 x1 x2 x3 x4 x5 x6 x7 x8 x9 x10 x11
  go_wp2_with fail
  go_ret
  exact ⟨rfl, ⟨_, _, _, _, HT2.out⟩, HA2.out⟩
end
end Go.Proofs.Ytcbiohpgmooefaa
