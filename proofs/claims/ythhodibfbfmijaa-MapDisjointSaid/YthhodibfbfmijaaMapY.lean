/- The document's Plan. No condition. -/
import Derived.Test.YthhodibfbfmijaaMapV
set_option linter.unusedVariables false
set_option linter.unusedSimpArgs false
namespace Go.Proofs.Ythhodibfbfmijaa
open Go.RowKit
/-- l[f:] of regions -/
theorem slice_G (ao : Option Addr) (n cap f : Nat) (h1 : f ≤ n) (h2 : n ≤ cap) (kl : IntKind) :
    ∃ bo : Option Addr, (∀ w, (Instr.slice 22 (.slice ao n cap) (some (.int kl (f : Int))) none none).run Try.prog w = .ok (.slice bo (n - f) (cap - f)) w) ∧ (∀ a, bo = some a → ∃ b, ao = some b ∧ b.block = a.block) ∧
      ∀ w l, RdG w ao l → l.length = n → RdG w bo (l.drop f) := by
  have he : Try.prog.elem 22 = 30 := by kernel_rfl
  obtain ⟨i, hi, hz0, hz1, hz2⟩ := info_parts infoG
  refine ⟨if cap = f then ao else ao.map (·.add (f * 6)), fun w => ?_, ?_, ?_⟩
  · rw [run_slice_l (P := Try.prog) w 22 ao n cap (by rw [he]; exact Try.underlying22) kl (f : Int) (by omega) (by omega)]
    have hs : (sizeOf (Try.prog.elem 22)).run Try.prog w = .ok 6 w := by rw [he]; simp [sizeOf, typeInfo, hi, hz1]
    rw [hs]
    simp [Result.andThen, sliced]
  · intro a h
    split at h
    · exact ⟨a, h, rfl⟩
    · cases ao with
      | none => cases h
      | some b =>
        simp only [Option.map_some, Option.some.injEq] at h
        subst h
        refine ⟨b, rfl, ?_⟩
        unfold Addr.add; split <;> (try split) <;> rfl
  · intro w l hr hl j hj
    rw [List.length_drop] at hj
    obtain ⟨b, off, rfl, hb, hc⟩ := hr (f + j) (by omega)
    have hne : ¬ cap = f := by omega
    refine ⟨b, off + f * 6, ?_, hb, fun i v hi => ?_⟩
    · rw [if_neg hne, Option.map_some, Addr.add_mid]
    · have hg : gAt (l.drop f) j = gAt l (f + j) := by unfold gAt; rw [List.getElem?_drop]
      rw [hg] at hi
      have := hc i v hi
      rw [show off + f * 6 + j * 6 + i = off + (f + j) * 6 + i by omega]
      exact this
structure RPIn (taken : List Rg) (l : List Wt) (B : Nat) (W : World) (v1 kv : Value) (wr : World) : Prop where
  x : ∃ (k : Nat) (outs : List Rg), kv = .int .i64 k ∧ k ≤ l.length ∧ Run taken l k outs ∧ OwnG wr B v1 (taken ++ outs) ∧ Below B W wr ∧ B ≤ wr.heap.size
set_option maxHeartbeats 2000000 in
theorem rplan_any (ao bo : Option Addr) (n m cap cb : Nat) (taken : List Rg) (l : List Wt) (w : World) (hl : taken.length = n) (hn : n * 24 ≤ 140737488351232) (hc : ao = none → cap = 0) (hr : RdG w ao taken) (hok : RgsOk taken)
    (hm : l.length = m) (hmb : m ≤ 140737488351232) (hrw : RdS wcells 6 w bo l) (hwok : ∀ t ∈ l, t.Ok) :
    Calls Try.prog 18 #[.slice ao n cap, .slice bo m cb] w fun e w' => ∃ xo xc r k E, e = .returned (.tuple #[.slice xo r.length xc, .int .i64 (k : Nat), .int .i64 E]) ∧ RdG w' xo r ∧ (∀ a, xo = some a → w.heap.size ≤ a.block) ∧ Res taken l r k E ∧ Below w.heap.size w w' := by
  have hm0 := Lib.hid (OwnG.made0 w w.heap.size (Nat.le_refl _))
  have hr' := fun o => Lib.hid (hr.below ((Below.refl _ w).alloc (Nat.le_refl _) o))
  have Hhc := Lib.hid hc
  clear hc
  have Hhok := Lib.hid hok
  clear hok
  have Hhl := Lib.hid hl
  clear hl
  clear hr
  go_enter Try.func18, Try.ntmps18
  go_wp2_with (at_builtin; refine wpList_append_G rfl _ _ rfl w.heap.size _ [] rfl hm0.out _ n cap taken rfl Hhc.out Hhl.out (hr' _).out ?c1 ?c2 ?_)
  case c1 => simp; omega
  case c2 => simp
  intro v1 w1 hown1 hgr1
  have hb1 : Below w.heap.size w w1 := ((Below.refl _ _).alloc (Nat.le_refl _) _).grown hgr1 (by simp) (by intro k hk; cases hk; exact Nat.le_refl _)
  clear hgr1 hm0 hr'
  obtain ⟨B, hB⟩ : ∃ B, w.heap.size = B := ⟨_, rfl⟩
  rw [hB] at hown1 hb1
  have HB := Lib.hid hB
  have hs1 : B ≤ w1.heap.size := by rw [← hB]; exact hb1.size
  clear hB
  go_wp2_with fail
  go_loopw [7, 8, 9, 10] (fun a k _ _ wr => RPIn taken l B w a k wr) (fun _ k _ _ _ => m - (intOf k).toNat)
  case atStart => exact ⟨0, [], rfl, by omega, Run.nil _ _, by rw [List.append_nil]; exact hown1, hb1, hs1⟩
  case round =>
    clear hown1 hb1 hs1
    obtain ⟨k, outs, rfl, hk, hrun, hoa, hb, hs⟩ := hrel
    have Hrun := Lib.hid hrun
    have Hm := Lib.hid hm
    clear hrun hm
    by_cases hlt : k < m
    · obtain ⟨t, ht⟩ : ∃ t, l[k]? = some t := ⟨_, List.getElem?_eq_getElem (show k < l.length by have := Hm.out; omega)⟩
      obtain ⟨x, off, rfl, hx, hcw⟩ := hrw k t ht
      have hwt := Lib.hid (hwok t (List.mem_of_getElem? ht))
      have Ht := Lib.hid ht
      clear ht
      have hcell := fun i v hi => (hb.cell (p := ⟨x, off + k * 6 + i, none⟩) (by rw [← HB.out]; exact hx)).trans (hcw i v hi)
      have c0 := hcell 0 _ rfl
      have c1 := hcell 1 _ rfl
      have c2 := hcell 2 _ rfl
      have c3 := hcell 3 _ rfl
      have c4 := hcell 4 _ rfl
      have c5 := hcell 5 _ rfl
      simp only [Nat.add_zero] at c0
      clear hcw hcell
      have e0 : (0 : Int) ≤ (k : Int) := by omega
      have e1 : (k : Int) < (m : Int) := by omega
      obtain ⟨ti, tn, ta, ts, tw, tx⟩ := t
      obtain ⟨ao2, cap2, rfl, hcp, hcp2, hra⟩ := hoa.rd
      have hrok := Hrun.out.ok hk Hhok.out
      have hlen : (taken ++ outs).length ≤ 9223372036854775807 := by have := Hrun.out.1; have := Hhl.out; simp; omega
      have HPL := fun w' h => Lib.hid (rplace_any ao2 (taken ++ outs).length cap2 (taken ++ outs) ti tn ta ts tw tx w' rfl hlen h hrok)
      have hpl : plW (taken ++ outs) ⟨ti, tn, ta, ts, tw, tx⟩ = ((plR (taken ++ outs) tn ta ts tw tx).1, (plR (taken ++ outs) tn ta ts tw tx).2) := rfl
      generalize (plR (taken ++ outs) tn ta ts tw tx).1 = R at *
      generalize (plR (taken ++ outs) tn ta ts tw tx).2 = E at *
      obtain ⟨LA, hLA⟩ : ∃ LA, taken ++ outs = LA := ⟨_, rfl⟩
      rw [hLA] at hoa hcp hra HPL hrok hlen hpl
      rw [hLA]
      have HLA := Lib.hid hLA
      have Hpl := Lib.hid hpl
      have Hcp := Lib.hid hcp
      clear hLA hpl hrok hcp
      unfold wv rgv at HPL
      simp only at c0 c1 c2 c3 c4 c5
      by_cases hE : E = 0
      · subst hE
        obtain ⟨h16, -⟩ := plW_info Hpl.out
        have hrunS := Lib.hid (Hrun.out.snoc Ht.out (by rw [HLA.out]; exact Hpl.out))
        go_wp2_with fail
        refine (HPL _ hra).out.mono ?_
        rintro e w3 ⟨rfl, hb3⟩
        have hoa3 := Lib.hid ((hoa.later hb3).alloc (rgObj R))
        have hb3' := Lib.hid ((hb.trans (hb3.mono hs)).alloc (Nat.le_trans hs hb3.size) (rgObj R))
        have hs3 : B < (w3.alloc (rgObj R)).heap.size := by have := hb3.size; simp; omega
        obtain ⟨⟨d0, d1, d2, d3, d4, d5⟩, -⟩ := (Blk.new w3 [.int .u64 R.base, .int .u64 R.size, .bool R.r, .bool R.w, .bool R.x, .bool R.s] 30).six
        unfold rgObj at hoa3 hb3' hs3
        clear c0 c1 c2 c3 c4 c5 hb3 hoa hb hra HPL hx hrw
        have hl1 : (LA.length + 1) * 24 ≤ 140737488355328 := by omega
        go_wp2_with (at_builtin; refine wpList_append_G rfl _ _ rfl B (Value.slice ao2 LA.length cap2) LA rfl (hoa3.out.alloc _) _ 1 1 [R] rfl ?d0 rfl (new_snd R w3 _) ?d1 ?d2 ?_)
        case d0 => intro h; cases h
        case d1 => omega
        case d2 => simp at hs3; simp; omega
        intro v5 w5 hown5 hgr5
        have hb5 := Lib.hid ((hb3'.out.alloc (Nat.le_of_lt hs3) _).grown hgr5 (by simp at hs3; simp; omega) (fun k hk => hoa3.out.block k hk))
        have hs5 : B ≤ w5.heap.size := by have := hgr5.size; simp at hs3 this; omega
        have hown5' := Lib.hid hown5
        clear hown5 hgr5 hoa3 hb3' hs3 d0 d1 d2 d3 d4 d5
        go_wp2_with fail
        go_roundw
        case rel => exact ⟨k + 1, outs ++ [R], by go_num, by have := Hm.out; omega, hrunS.out, by rw [← List.append_assoc, HLA.out]; exact hown5'.out, hb5.out, hs5⟩
        case measure => simp [intOf]; omega
      · have t1 : (E == 0) = false := beq_eq_false_iff_ne.2 hE
        have t2 : (E != 0) = true := bne_iff_ne.2 hE
        have hres : Hid (Res taken l [] k E) := Lib.hid (Or.inr ⟨hE, rfl, outs, _, Ht.out, Hrun.out, by rw [HLA.out, Hpl.out]⟩)
        clear hE
        go_wp2_with fail
        refine (HPL _ hra).out.mono ?_
        rintro e w3 ⟨rfl, hb3⟩
        have hb4 := fun o => Lib.hid ((hb.trans (hb3.mono hs)).alloc (Nat.le_trans hs hb3.size) o)
        clear c0 c1 c2 c3 c4 c5 hb3 hoa hb hra HPL hx hrw
        go_wp2_with fail
        go_ret3
        exact ⟨none, 0, [], k, E, rfl, fun j hj => by simp at hj, fun a h => (by cases h), hres.out, by rw [HB.out]; exact (hb4 _).out⟩
    · obtain rfl : k = m := by have := Hm.out; omega
      have hres : Hid (Res taken l outs k 0) := Lib.hid (Or.inl ⟨rfl, Hm.out.symm, Hrun.out⟩)
      have hblk := Lib.hid hoa.block
      obtain ⟨ao3, cap3, rfl, hc3, hc4, hra⟩ := hoa.rd
      obtain ⟨ao4, hsl, hsb, hsr⟩ := slice_G ao3 (taken ++ outs).length cap3 n (by have := Hhl.out; simp; omega) hc3 .i64
      have hrd := Lib.hid (hsr wr _ hra rfl)
      have hdr : (taken ++ outs).drop n = outs := by rw [← Hhl.out, List.drop_left]
      have hln : (taken ++ outs).length - n = outs.length := by have := Hhl.out; simp; omega
      rw [hdr] at hrd
      rw [hln] at hsl
      have Hsb := Lib.hid hsb
      have HBe := Lib.hid hb
      clear hoa hb hsr hra hdr hln hsb
      generalize (taken ++ outs).length = N at *
      go_wp2_with fail
      go_ret3
      refine ⟨ao4, _, outs, k, 0, rfl, hrd.out, fun a ha => ?_, hres.out, by rw [HB.out]; exact HBe.out⟩
      obtain ⟨b, hb1, hb2⟩ := Hsb.out a ha
      rw [HB.out, ← hb2]
      subst hb1
      exact hblk.out b.block rfl
end Go.Proofs.Ythhodibfbfmijaa
