/- The document's hash: goes (all whole blocks). No condition. -/
import Derived.Test.YtngkelflfahjbaaDoorShaC
import Derived.Test.YtngkelflfahjbaaDoorShaD
set_option linter.unusedVariables false
set_option linter.unusedSimpArgs false
namespace Go.Proofs.YtngkelflfahjbaaDoor
open Go.RowKit
theorem block_any (k : Nat) (s : S8) (ao : Option Addr) (cap : Nat) (b : List UInt8) (w : World) (hk : 1 ≤ k ∧ k ≤ 3) (hs : s.Lt (2 ^ wK k)) (hl : b.length = sizeW (wK k)) (hcap : sizeW (wK k) ≤ cap) (hr : Rd w ao b) :
    Calls Tryd.prog 49 #[.int .i64 (k : Nat), .agg ((s8l s).map u64v).toArray, .slice ao (sizeW (wK k)) cap] w fun e w' => e = .returned (.agg ((s8l (block8 (wK k) s b)).map u64v).toArray) ∧ Below w.heap.size w w' := by
  rcases size_kind hk with ⟨-, hw, hz⟩ | ⟨-, hw, hz⟩
  · rw [hz] at hl hcap ⊢
    have h := block32_any k s ao cap b w hk hw (by rw [hw] at hs; exact hs) hl hcap hr
    rw [hw]
    exact h
  · rw [hz] at hl hcap ⊢
    have h := block64_any k s ao cap b w hk hw (by rw [hw] at hs; exact hs) hl hcap hr
    rw [hw]
    exact h
theorem wpStill_load_mid {P : Program} {ops : Array Oper} {w : World} {Q : Act → Prop} {rest : List Oper} {op : Oper} {a : Act} (hgd : op.guard = none) (ty : TypeId) (x : Operand) (ho : op.op = .load ty x)
    (b o : Nat) (hx : a.eval x = .pointer (some ⟨b, o, none⟩)) (cs : List Value) (d : TypeDesc) (hc : w.rangeAt b o cs)
    (hu : P.underlying ty = some d) (hd : d.isRow = true) (hi : (P.info? ty).map (·.size) = some cs.length)
    (h : wpStill P ops w Q rest (a.put op.dst (.agg cs.toArray))) : wpStill P ops w Q (op :: rest) a := by
  have hw : Region.wanted op (yielded ops a.tmps) = true := by simp [Region.wanted, hgd]
  unfold wpStill
  rw [if_pos hw]
  unfold Oper.still execOp
  simp only [ho, hx, Instr.loadAt, Instr.sureAddr, Sem.run_bind, Sem.run_pure, Result.andThen_ok, run_loadVar_mid w b o ty cs d hc hu hd hi]
  exact ⟨rfl, h⟩
def ldA (p : Value) : Sem Value := Instr.loadAt 63 p
theorem ld_a (p : Value) : Instr.loadAt 63 p = ldA p := rfl
def stA (p v : Value) : Sem Unit := Instr.storeAt 63 p v
theorem st_a (p v : Value) : Instr.storeAt 63 p v = stA p v := rfl
theorem run_ldA {w : World} {b o : Nat} {s : S8} (h : w.rangeAt b o ((s8l s).map u64v)) : (ldA (.pointer (some ⟨b, o, none⟩))).run Tryd.prog w = .ok (.agg ((s8l s).map u64v).toArray) w :=
  run_loadAt_mid (P := Tryd.prog) w b o 63 ((s8l s).map u64v) _ h Tryd.underlying63 rfl (infoA8 _ (s8l_len _))
theorem run_stA {w : World} {b : Nat} {t : TypeId} {old : List Value} {s : S8} (h : HB w b t old) (ho : old.length = 8) : (stA (.pointer (some ⟨b, 0, none⟩)) (.agg ((s8l s).map u64v).toArray)).run Tryd.prog w = .ok () (w.setRow b ((s8l s).map u64v).toArray) := by
  have hv := run_storeVar_row (P := Tryd.prog) w b t 63 old.toArray ((s8l s).map u64v).toArray h (by rw [List.size_toArray]; exact infoA8 _ (s8l_len _)) (by rw [List.size_toArray, List.size_toArray, List.length_map, s8l_len, ho]) (by simp [u64v, Value.oneCell'])
  unfold stA
  simp only [Instr.storeAt, Instr.sureAddr, Sem.run_bind, Sem.run_pure, Result.andThen_ok, hv]
attribute [local go_sem ↓] ld_a st_a
structure GoIn (S k : Nat) (st : S8) (l : List UInt8) (w : World) (i : Value) (wr : World) : Prop where
  x : ∃ (s' : S8) (t : Nat), t ≤ l.length ∧ goB (wK k) st l = goB (wK k) s' (l.drop t) ∧ i = .int .i64 (t : Nat) ∧ HB wr S 63 ((s8l s').map u64v) ∧ s'.Lt (2 ^ wK k) ∧ HB wr (S + 1) 63 z8L ∧ Below S w wr
set_option maxRecDepth 100000 in
set_option maxHeartbeats 1000000 in
theorem goes_any (k : Nat) (st : S8) (ao : Option Addr) (n cap : Nat) (l : List UInt8) (w : World) (hk : 1 ≤ k ∧ k ≤ 3) (hs : st.Lt (2 ^ wK k)) (hl : l.length = n) (hnc : n ≤ cap) (hcm : cap ≤ 9223372036854775807) (hr : Rd w ao l) (hlt : ∀ a, ao = some a → a.block < w.heap.size) :
    Calls Tryd.prog 41 #[.int .i64 (k : Nat), .agg ((s8l st).map u64v).toArray, .slice ao n cap] w fun e w' => ∃ bo c, e = .returned (.tuple #[.agg ((s8l (goB (wK k) st l).1).map u64v).toArray, .slice bo (goB (wK k) st l).2.length c]) ∧ (goB (wK k) st l).2.length ≤ c ∧ c ≤ cap ∧
      Rd w' bo (goB (wK k) st l).2 ∧ (∀ a, bo = some a → ∃ a', ao = some a' ∧ a'.block = a.block) ∧ (bo = none → ao = none) ∧ Below w.heap.size w w' := by
  have HS0 := Lib.hid (HB.new w ((s8l st).map u64v) 63)
  have HB0 := Lib.hid ((Below.refl w.heap.size w).alloc (Nat.le_refl _) (.cells ((s8l st).map u64v).toArray 63))
  have hz8 : ∀ w, (zeroValue 63).run Tryd.prog w = .ok (.agg z8L.toArray) w := fun w => by kernel_rfl
  have Hkd := Lib.hid (fun w => kind_any k w hk)
  have Hk := Lib.hid hk
  have Hs := Lib.hid hs
  have Hl := Lib.hid hl
  have Hnc := Lib.hid hnc
  have Hcm := Lib.hid hcm
  have Hr := Lib.hid hr
  have Hlt := Lib.hid hlt
  have hW := size_kind hk
  have Hbl := Lib.hid (fun (s : S8) ao cap b w h1 h2 h3 h4 => block_any k s ao cap b w hk h1 h2 h3 h4)
  obtain ⟨sz, hsz⟩ : ∃ sz, sizeW (wK k) = sz := ⟨_, rfl⟩
  rw [hsz] at hW Hbl Hkd
  have Hsz := Lib.hid hsz
  have hszv : sz = 64 ∨ sz = 128 := by rcases hW with ⟨-, -, h⟩ | ⟨-, -, h⟩ <;> omega
  have Hszv := Lib.hid hszv
  generalize rnds (wK k) = z2 at *
  generalize digK k = z3 at *
  clear hk hs hl hnc hcm hr hlt hW hsz hszv
  go_enter Tryd.func41, Tryd.ntmps41
  go_upto_region 1 with fail
  as_aux_lemma =>
  have HS1 := Lib.hid (HS0.out.alloc (.cells z8L.toArray 63))
  have HR1 := Lib.hid (HB.new (w.alloc (.cells ((s8l st).map u64v).toArray 63)) z8L 63)
  have HB1 := Lib.hid (HB0.out.alloc HB0.out.size (.cells z8L.toArray 63))
  have hsz0 : (w.alloc (.cells ((s8l st).map u64v).toArray 63)).heap.size = w.heap.size + 1 := by simp
  rw [hsz0] at HR1
  generalize (w.alloc (.cells ((s8l st).map u64v).toArray 63)).alloc (.cells z8L.toArray 63) = w1 at *
  obtain ⟨S, hS⟩ : ∃ S, w.heap.size = S := ⟨_, rfl⟩
  rw [hS] at HS1 HR1 HB1 Hlt ⊢
  have HSw := Lib.hid hS
  clear hsz0 HS0 HB0 hS hz8
  go_wp2_with fail
  as_aux_lemma =>
  refine (Hkd.out _).mono ?_
  rintro e w2 ⟨rfl, rfl⟩
  clear Hkd
  go_upto_region 3 with fail
  go_loopw [12] (fun i wr => GoIn S k st l w i wr) (fun i _ => n - (intOf i).toNat)
  case atStart => exact ⟨st, 0, Nat.zero_le _, by simp, rfl, HS1.out, Hs.out, HR1.out, HB1.out⟩
  case round =>
    as_aux_lemma =>
    clear HS1 HR1 HB1
    obtain ⟨s', t, ht, hgo, rfl, hS, hsl, hR, hB⟩ := hrel
    have HS := Lib.hid hS
    have HR := Lib.hid hR
    have HBl := Lib.hid hB
    have Hgo := Lib.hid hgo
    have Hsl := Lib.hid hsl
    have Hr2 := Lib.hid (Rd.belowL Hr.out HBl.out Hlt.out)
    rw [Hl.out] at ht
    have hcm := Hcm.out
    have hnc := Hnc.out
    have hszv := Hszv.out
    obtain ⟨D, hD⟩ : ∃ D, n - t = D := ⟨_, rfl⟩
    have q1 : IntKind.i64.wrap ((n : Int) - (t : Int)) = (D : Int) := by rw [IntWalk.i64_in _ (by omega)]; omega
    obtain ⟨t2, ht2⟩ : ∃ t2, t + sz = t2 := ⟨_, rfl⟩
    clear hS hR hB hgo hsl
    by_cases hge : sz ≤ D
    · have q2 : IntKind.i64.wrap ((t : Int) + (sz : Int)) = (t2 : Int) := by rw [IntWalk.i64_in _ (by omega)]; omega
      have q3 : (sz : Int) ≤ (D : Int) := by omega
      obtain ⟨bo, hsl, -, hslr⟩ := slice_bytes byteRow02 ao n cap t t2 (by omega) (by omega) .i64 .i64
      have hR4 := hslr wr l Hr2.out Hl.out (by omega)
      rw [show t2 - t = sz by omega] at hsl hR4
      have hpl : ((l.drop t).take sz).length = sz := by rw [List.length_take, List.length_drop, Hl.out]; omega
      have Hca := Lib.hid (Hbl.out s' bo (cap - t) _ wr.drew Hsl.out hpl (by omega) ((Drn.refl _).drew.rd hR4))
      have Hst : Hid (goB (wK k) st l = goB (wK k) (block8 (wK k) s' ((l.drop t).take sz)) (l.drop t2)) := Lib.hid (by
        rw [Hgo.out, goB_step (by rw [List.length_drop, Hl.out, Hsz.out]; omega), Hsz.out, List.drop_drop, ht2])
      have Hlt2 : Hid (S8.Lt (2 ^ wK k) (block8 (wK k) s' ((l.drop t).take sz))) := Lib.hid (add8_lt _ _)
      have hrg := HS.out.whole
      have Hrg := Lib.hid (hrg)
      have Hi8 := Lib.hid (infoA8 (s8l s') (s8l_len s'))
      have Hdd := Lib.hid (HS.out.drn (Drn.refl _).drew)
      have HRd := Lib.hid (HR.out.drn (Drn.refl _).drew)
      have HBd := Lib.hid (HBl.out.drew)
      have Hg : Hid (S + 1 < wr.drew.heap.size) := Lib.hid HRd.out.lt
      have Ht2 : Hid (t2 ≤ n) := Lib.hid (by omega)
      have Hsv := hsl wr.drew
      clear hslr hR4 hpl hge hrg hD hszv hcm hnc HS HR HBl
      go_upto_region 4 with fail
      refine wp_region_still_tail 8 (by kernel_rfl) (by kernel_rfl) ?_
      simp only [List.take_succ_cons, List.take_zero, List.drop_succ_cons, List.drop_zero]
      still_step
      refine wpStill_load_mid rfl _ _ rfl S 0 rfl ((s8l s').map u64v) _ Hrg.out Tryd.underlying63 rfl Hi8.out ?_
      repeat still_step
      refine wpStill_nil ?_
      as_aux_lemma =>
      clear q1 q2 Hrg
      go_wp2_with fail
      refine Hca.out.mono ?_
      rintro e w5 ⟨rfl, hb5⟩
      have HS5 := Lib.hid (Hdd.out.later hb5)
      have HR5 := Lib.hid (HRd.out.later hb5)
      have HB5 := Lib.hid (HBd.out.trans (hb5.mono (by have := Hg.out; show S ≤ wr.drew.heap.size; omega)))
      clear hb5 Hca Hdd HRd HBd
      clear Hi8 hsl Hsv q3
      generalize block8 (wK k) s' ((l.drop t).take sz) = nb at *
      have Hi8n : Hid ((Tryd.prog.info? 63).map (·.size) = some ((s8l nb).map u64v).toArray.size) := Lib.hid (by rw [List.size_toArray]; exact infoA8 _ (s8l_len _))
      have Hszn : Hid (((s8l s').map u64v).toArray.size = ((s8l nb).map u64v).toArray.size) := Lib.hid rfl
      have Hone : Hid (((s8l nb).map u64v).toArray.all (·.oneCell') = true) := Lib.hid (by simp [u64v, Value.oneCell'])
      have HS6 : Hid (HB (w5.setRow S ((s8l nb).map u64v).toArray) S 63 ((s8l nb).map u64v)) := Lib.hid (setRow_heap _ _ _ _ _ _ HS5.out)
      have Hg6 := Lib.hid (grown_row w5 S ((s8l nb).map u64v).toArray)
      have HR6 := Lib.hid (HR5.out.grown Hg6.out (fun e => by have := Option.some.inj e; omega))
      have HB6 := Lib.hid (HB5.out.grown Hg6.out (by have := HS5.out.lt; omega) (fun x hx => Nat.le_of_eq (Option.some.inj hx)))
      have Hlt3 : Hid (t2 - t = sz ∧ t < t2) := Lib.hid (by have := Hszv.out; omega)
      have q2 : IntKind.i64.wrap ((t : Int) + (sz : Int)) = (t2 : Int) := by have := Hcm.out; have := Hnc.out; have := Ht2.out; rw [IntWalk.i64_in _ (by omega)]; omega
      clear Hg6
      go_wp2_with (refine wpList_store_row rfl _ _ _ rfl S ((s8l nb).map u64v).toArray rfl rfl _ _ HS5.out Hi8n.out Hszn.out Hone.out ?_)
      clear HS5 HR5 HB5 Hi8n Hszn Hone
      have hx1 := Hlt3.out
      have hx2 := Ht2.out
      first
      | (go_roundw
         case rel => exact ⟨nb, t2, by rw [Hl.out]; exact hx2, Hst.out, rfl, HS6.out, Hlt2.out, HR6.out, HB6.out⟩
         case measure => (first | omega | (simp [intOf] <;> omega) | (simp only [intOf] <;> omega)))
      | exact ⟨⟨nb, t2, by rw [Hl.out]; exact hx2, Hst.out, rfl, HS6.out, Hlt2.out, HR6.out, HB6.out⟩, by (first | omega | (simp [intOf] <;> omega) | (simp only [intOf] <;> omega))⟩
      | (refine ⟨?_, by (first | omega | (simp [intOf] <;> omega) | (simp only [intOf] <;> omega))⟩
         (repeat apply Exists.intro)
         refine (fun a b => And.intro b a) ?_ ?_
         · first | rfl | ((repeat refine ⟨rfl, ?_⟩); rfl)
         exact ⟨nb, t2, by rw [Hl.out]; exact hx2, Hst.out, rfl, HS6.out, Hlt2.out, HR6.out, HB6.out⟩)
    · have q3 : ¬ (sz : Int) ≤ (D : Int) := by omega
      have hgo := Hgo.out
      rw [goB_end (s := s') (l := l.drop t) (by rw [List.length_drop, Hl.out, Hsz.out]; omega)] at hgo
      obtain ⟨bo, hsl, hbo, hbn, hslr⟩ := slice_lo ao n cap t ht hnc .i64
      have hR4 := hslr wr l Hr2.out Hl.out
      have Hgo2 := Lib.hid hgo
      have Hbo := Lib.hid hbo
      have Hbn := Lib.hid hbn
      have Hfin : Hid ((l.drop t).length = D ∧ D ≤ cap - t) := Lib.hid (by rw [List.length_drop, Hl.out]; omega)
      have hsv := hsl wr.drew
      rw [hD] at hsl hsv
      have Hrg := Lib.hid HS.out.whole
      have Hi8 := Lib.hid (infoA8 (s8l s') (s8l_len s'))
      have HRd := Lib.hid (HR.out.drn (Drn.refl _).drew)
      have HBd := Lib.hid (HBl.out.drew)
      have HR4 := Lib.hid ((Drn.refl _).drew.rd hR4)
      clear hgo hbo hbn hslr hR4 hD hge hszv hcm hnc HS HR HBl Hgo Hbl ht2
      go_upto_region 6 with fail
      as_aux_lemma =>
      have Hi8n : Hid ((Tryd.prog.info? 63).map (·.size) = some ((s8l s').map u64v).toArray.size) := Lib.hid (by rw [List.size_toArray]; exact infoA8 _ (s8l_len _))
      have Hszn : Hid (z8L.toArray.size = ((s8l s').map u64v).toArray.size) := Lib.hid rfl
      have Hone : Hid (((s8l s').map u64v).toArray.all (·.oneCell') = true) := Lib.hid (by simp [u64v, Value.oneCell'])
      have HBg := Lib.hid (HBd.out.grown (grown_row wr.drew (S + 1) ((s8l s').map u64v).toArray) (by have := HRd.out.lt; omega) (fun x hx => by have := Option.some.inj hx; omega))
      have HR5 := Lib.hid (HR4.out.grown (grown_row wr.drew (S + 1) ((s8l s').map u64v).toArray) (fun a e1 e2 => by
        obtain ⟨a', e3, e4⟩ := Hbo.out a e1
        have := Hlt.out a' e3
        have := Option.some.inj e2
        omega))
      have HW9 : HB (wr.drew.setRow (S + 1) ((s8l s').map u64v).toArray) (S + 1) 63 ((s8l s').map u64v) := setRow_heap _ _ _ _ _ _ HRd.out
      have Hrg9 := Lib.hid HW9.whole
      clear HW9
      have l1 := run_ldA (w := wr.drew) Hrg.out
      have l2 := run_stA (w := wr.drew) (s := s') HRd.out rfl
      go_region
      all_goals
        clear l1 l2 hsl hsv
        go_wp2_with fail
        have hv : (loadVar 63 ⟨S + 1, 0, none⟩).run Tryd.prog (wr.drew.setRow (S + 1) ((s8l s').map u64v).toArray) = .ok (.agg ((s8l s').map u64v).toArray) (wr.drew.setRow (S + 1) ((s8l s').map u64v).toArray) := run_loadVar_mid (P := Tryd.prog) _ (S + 1) 0 63 ((s8l s').map u64v) _ Hrg9.out Tryd.underlying63 rfl Hi8.out
        refine bodyPost_ret (v := .tuple #[.agg ((s8l s').map u64v).toArray, .slice bo D (cap - t)]) (by simp [results, Tryd.results41, asAddr, hv, Result.andThen, Act.put]; try rfl) rfl ?_
        rw [Hgo2.out]
        exact ⟨bo, cap - t, by rw [Hfin.out.1], by rw [Hfin.out.1]; exact Hfin.out.2, Nat.sub_le _ _, HR5.out, Hbo.out, Hbn.out, by rw [HSw.out]; exact HBg.out⟩
end Go.Proofs.YtngkelflfahjbaaDoor
