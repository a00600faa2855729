/- The program's Plan. No condition. -/
import Derived.Test.YthhodibfbfmijaaMapG
import Derived.Deep.RegionHeld3
import Derived.Deep.DrawnRows
import Derived.Maps.AppendAt
set_option linter.unusedVariables false
set_option linter.unusedSimpArgs false
namespace Go.Proofs.Ythhodibfbfmijaa
open Go.RowKit
attribute [local go_sem ↓] Go.wp_at_zero Go.wp_at_succ
theorem step_append_G {w : World} {ops : Array Oper} {o : Oper} {a : Act} {K : Act → World → Prop} {Q : Exit → Act → World → Prop} {E : Prop} (W0 : World) (hW : Drn W0 w) (hgd : o.guard = none) (s x : Operand)
    (ho : o.op = .call { callee := .builtin .append, args := #[s, x], argTypes := #[22, 22] })
    (B : Nat) (v : Value) (l : List Rg) (hs : a.eval s = v) (hown0 : OwnG W0 B v l) (ad : Addr) (hx : a.eval x = .slice (some ad) 1 1) (r : Rg) (hr0 : RdG W0 (some ad) [r])
    (hbytes : (l.length + 1) * 24 ≤ 140737488355328) (hB0 : B ≤ W0.heap.size)
    (h : ∀ v' w', OwnG w' B v' (l ++ [r]) → W0.grownBy w' v.ownBlock → (v'.ownBlock = v.ownBlock ∨ v'.ownBlock = some W0.heap.size) → K (a.put o.dst v') w') :
    if Region.wanted o (yielded ops a.tmps) = true then Oper.wp Try.prog o a w K Q else E := by
  refine step_of_wp hgd ?_
  have hown := hown0.later (hW.below _)
  have hr := hW.rdG hr0
  have hB : B ≤ w.heap.size := by rw [hW.heap]; exact hB0
  obtain ⟨i, hi, hz0, hz1, hz2⟩ := info_parts infoG
  obtain ⟨v', w', hrun, h2, h3, h4, h5⟩ := run_append_own_at (P := Try.prog) w B 22 o.type 30 i _ 6 24 Try.underlying22 hi hz0 hz1 hz2 rfl (by decide) v l.length (flatG l) hown ad 1 1 (flatG [r]) rfl hr.news (flatG_one _) (by simp only [maxLen]; omega) (by omega) hB
  unfold Oper.wp execOp
  simp only [ho, resolve, invoke, builtin, Sem.run_bind, Sem.run_pure, Result.andThen_ok, List.map_toArray, List.map_cons, List.map_nil, hs, hx, hrun]
  have hg : W0.grownBy w' v.ownBlock := (grown_drn hW _).trans h3
  rw [hW.heap] at h5
  refine h v' w' ?_ hg h5
  unfold OwnG
  rw [List.length_append, flatG_append]
  exact h2
theorem dis_fin {V u p1 p2 : Value} {s0 s1 s2 s3 : Nat} (hV : ∀ k, V.ownBlock = some k → u.ownBlock ≠ some k) (hu : ∀ k, u.ownBlock = some k → k < s0) (h1 : p1.ownBlock = V.ownBlock ∨ p1.ownBlock = some s1) (hs : s0 ≤ s1)
    (hp1 : ∀ k, p1.ownBlock = some k → k < s2) (h2 : p2.ownBlock = u.ownBlock ∨ p2.ownBlock = some s3) (h23 : s2 ≤ s3) : ∀ k, p1.ownBlock = some k → p2.ownBlock ≠ some k := by
  intro k hk hk2
  have h := hp1 k hk
  rcases h2 with h2 | h2
  · rw [h2] at hk2
    rcases h1 with h1 | h1
    · rw [h1] at hk; exact hV k hk hk2
    · rw [h1] at hk; cases hk; have := hu _ hk2; omega
  · rw [h2] at hk2; cases hk2; omega
theorem RdG.grown {w w' : World} {ao : Option Addr} {l : List Rg} {row : Option Nat} (h : RdG w ao l) (hg : w.grownBy w' row) (hne : ∀ a, ao = some a → some a.block ≠ row) : RdG w' ao l := fun j hj =>
  let ⟨b, off, e, hlt, hc⟩ := h j hj; ⟨b, off, e, Nat.lt_of_lt_of_le hlt hg.size, fun i v hi => hg.cell (hc i v hi) (hne ⟨b, off, none⟩ e)⟩
theorem OwnG.grown {w w' : World} {B : Nat} {v : Value} {l : List Rg} {row : Option Nat} (h : OwnG w B v l) (hg : w.grownBy w' row) (hne : ∀ k, v.ownBlock = some k → row ≠ some k) : OwnG w' B v l :=
  World.ownsRow.kept h hg (by
    cases hv : v.ownBlock with
    | none => exact Or.inl rfl
    | some k => exact Or.inr (fun e => hne k hv e.symm))
theorem OwnG.lt {w : World} {B : Nat} {v : Value} {l : List Rg} (h : OwnG w B v l) : ∀ k, v.ownBlock = some k → k < w.heap.size := by
  rcases h.cases with ⟨e, _⟩ | ⟨g, C, e, _, h1, _⟩
  · subst e; intro k hk; cases hk
  · subst e; intro k hk; cases hk; exact h1
def rgObj (R : Rg) : Obj := .cells #[.int .u64 R.base, .int .u64 R.size, .bool R.r, .bool R.w, .bool R.x, .bool R.s] 30
theorem new_one (R : Rg) (w : World) : RdG (w.alloc (rgObj R)) (some ⟨w.heap.size, 0, none⟩) [R] := RdG.new1 w R _
theorem new_fst (R : Rg) (w : World) (o : Obj) : RdG ((w.alloc (rgObj R)).alloc o) (some ⟨w.heap.size, 0, none⟩) [R] := (RdG.new1 w R _).below ((Below.refl _ _).alloc (Nat.le_refl _) o)
theorem new_snd (R : Rg) (w : World) (o : Obj) : RdG ((w.alloc o).alloc (rgObj R)) (some ⟨w.heap.size + 1, 0, none⟩) [R] := by
  have h := RdG.new1 (w.alloc o) R 30
  have e : (w.alloc o).heap.size = w.heap.size + 1 := by simp
  rw [e] at h
  exact h
structure PIn (taken : List Rg) (l : List Wt) (B : Nat) (W : World) (v1 v2 kv : Value) (wr : World) : Prop where
  x : ∃ (k : Nat) (outs : List Rg), kv = .int .i64 k ∧ k ≤ l.length ∧ Run taken l k outs ∧ OwnG wr B v1 (taken ++ outs) ∧ OwnG wr B v2 outs ∧ (∀ q, v1.ownBlock = some q → v2.ownBlock ≠ some q) ∧ Below B W wr ∧ B ≤ wr.heap.size
set_option maxHeartbeats 2000000 in
theorem plan_any (ao bo : Option Addr) (n m cap cb : Nat) (taken : List Rg) (l : List Wt) (w : World) (hl : taken.length = n) (hn : n * 24 ≤ 140737488351232) (hc : ao = none → cap = 0) (hr : RdG w ao taken) (hok : RgsOk taken)
    (hm : l.length = m) (hmb : m ≤ 140737488351232) (hrw : RdS wcells 6 w bo l) (hwok : ∀ t ∈ l, t.Ok) :
    Calls Try.prog 17 #[.slice ao n cap, .slice bo m cb] w fun e w' => ∃ v r k E, e = .returned (.tuple #[v, .int .i64 (k : Nat), .int .i64 E]) ∧ OwnG w' w.heap.size v r ∧ Res taken l r k E ∧ Below w.heap.size w w' := by
  have hcl := Lib.hid (cloneG_any ao n cap taken w hl (by omega) hc hr)
  have Hhc := Lib.hid hc
  clear hc
  have Hhok := Lib.hid hok
  clear hok
  clear hr
  go_enter Try.func17, Try.ntmps17
  go_wp2_with fail
  refine hcl.out.mono ?_
  rintro e w1 ⟨v1, rfl, ho1, hb1⟩
  clear hcl
  obtain ⟨B, hB⟩ : ∃ B, w.heap.size = B := ⟨_, rfl⟩
  rw [hB] at ho1 hb1
  have HB := Lib.hid hB
  have hs1 : B ≤ w1.heap.size := by rw [← hB]; exact hb1.size
  clear hB
  go_wp2_with fail
  go_loopw [7, 8, 9, 10, 11, 12, 17] (fun a o _ _ _ _ k wr => PIn taken l B w a o k wr) (fun _ _ _ _ _ _ k _ => m - (intOf k).toNat)
  case atStart => exact ⟨0, [], rfl, by omega, Run.nil _ _, by rw [List.append_nil]; exact ho1, OwnG.nil _ _, (fun q _ => by simp [Value.ownBlock]), hb1, hs1⟩
  case round =>
    clear ho1 hb1 hs1
    obtain ⟨k, outs, rfl, hk, hrun, hoa, hoo, hdis, hb, hs⟩ := hrel
    have Hrun := Lib.hid hrun
    have Hdis := Lib.hid hdis
    have Hm := Lib.hid hm
    clear hrun hdis hm
    by_cases hlt : k < m
    · obtain ⟨t, ht⟩ : ∃ t, l[k]? = some t := ⟨_, List.getElem?_eq_getElem (show k < l.length by have := Hm.out; omega)⟩
      obtain ⟨x, off, rfl, hx, hcw⟩ := hrw k t ht
      have hwt := Lib.hid (hwok t (List.mem_of_getElem? ht))
      have Ht := Lib.hid ht
      clear ht
      have hcell := fun i v hi => (hb.cell (p := ⟨x, off + k * 6 + i, none⟩) (by rw [← HB.out]; exact hx)).trans (hcw i v hi)
      have c0 := hcell 0 _ rfl
      have c1 := hcell 1 _ rfl
      have c2 := hcell 2 _ rfl
      have c3 := hcell 3 _ rfl
      have c4 := hcell 4 _ rfl
      have c5 := hcell 5 _ rfl
      simp only [Nat.add_zero] at c0
      clear hcw hcell
      have e0 : (0 : Int) ≤ (k : Int) := by omega
      have e1 : (k : Int) < (m : Int) := by omega
      obtain ⟨ti, tn, ta, ts, tw, tx⟩ := t
      obtain ⟨ao2, cap2, rfl, hcp, hcp2, hra⟩ := hoa.rd
      have hbx := fun o => Below.alloc (Below.refl wr.heap.size wr) (Nat.le_refl _) o
      have hrok := Hrun.out.ok hk Hhok.out
      have hlen : (taken ++ outs).length ≤ 9223372036854775807 := by have := Hrun.out.1; simp; omega
      have HPL := fun w' h => Lib.hid (place_any ao2 (taken ++ outs).length cap2 (taken ++ outs) ti tn ta ts tw tx w' rfl hlen h hrok hwt.out.2)
      have hpl : plW (taken ++ outs) ⟨ti, tn, ta, ts, tw, tx⟩ = ((plR (taken ++ outs) tn ta ts tw tx).1, (plR (taken ++ outs) tn ta ts tw tx).2) := rfl
      generalize (plR (taken ++ outs) tn ta ts tw tx).1 = R at *
      generalize (plR (taken ++ outs) tn ta ts tw tx).2 = E at *
      obtain ⟨LA, hLA⟩ : ∃ LA, taken ++ outs = LA := ⟨_, rfl⟩
      rw [hLA] at hoa hcp hra HPL hrok hlen hpl Hdis
      rw [hLA]
      have HLA := Lib.hid hLA
      have Hpl := Lib.hid hpl
      have Hcp := Lib.hid hcp
      clear hLA hpl hrok hcp
      unfold wv rgv at HPL
      simp only at c0 c1 c2 c3 c4 c5
      by_cases hE : E = 0
      · subst hE
        obtain ⟨h16, -⟩ := plW_info Hpl.out
        have hrunS := Lib.hid (Hrun.out.snoc Ht.out (by rw [HLA.out]; exact Hpl.out))
        go_wp2_with fail
        refine (HPL _ (hra.below (hbx _))).out.mono ?_
        rintro e w3 ⟨rfl, hb3⟩
        have hbw := (hbx _).trans (hb3.mono (by simp))
        have hoa3 := hoa.later hbw
        have hoo3 := hoo.later hbw
        have hb3' := hb.trans (hbw.mono hs)
        have hs3 := hbw.size
        have HBK := Blk.new w3 [.int .u64 R.base, .int .u64 R.size, .bool R.r, .bool R.w, .bool R.x, .bool R.s] 30
        clear c0 c1 c2 c3 c4 c5 hbx hb3 hoa hoo hb hra HPL hx hrw
        go_wp2_with fail
        have hA := Lib.hid (hoa3.alloc (rgObj R))
        have hO := Lib.hid (hoo3.alloc (rgObj R))
        have hB4 := Lib.hid (hb3'.alloc (Nat.le_trans hs hs3) (rgObj R))
        have hxa := Lib.hid hoa3.lt
        have hxo := Lib.hid hoo3.lt
        obtain ⟨⟨c0, c1, c2, c3, c4, c5⟩, -⟩ := HBK.six
        have HBK := Lib.hid HBK
        have HN1 := Lib.hid (new_one R)
        have HN2 := Lib.hid (new_fst R)
        have HN3 := Lib.hid (new_snd R)
        have hs4 : B < (w3.alloc (rgObj R)).heap.size := by simp; omega
        clear hoa3 hoo3 hb3' hbw
        unfold rgObj at *
        generalize World.alloc w3 _ = w4 at *
        obtain ⟨x3, hx3⟩ : ∃ x3, w3.heap.size = x3 := ⟨_, rfl⟩
        rw [hx3] at c0 c1 c2 c3 c4 c5 hxa hxo HBK ⊢
        have hxa' : (Value.slice ao2 LA.length cap2).ownBlock ≠ some x3 := fun e => by have := hxa.out x3 e; omega
        have hxo' : u8.ownBlock ≠ some x3 := fun e => by have := hxo.out x3 e; omega
        have hl1 : (LA.length + 1) * 24 ≤ 140737488355328 := by omega
        have hl2 : (outs.length + 1) * 24 ≤ 140737488355328 := by have h1 := Hrun.out.1; have h2 := congrArg List.length HLA.out; simp at h2; omega
        have hne1 : Hid (∀ a : Addr, some (⟨w4.heap.size, 0, none⟩ : Addr) = some a → some a.block ≠ (Value.slice ao2 LA.length cap2).ownBlock) := Lib.hid fun a e h => by
          cases e; exact Nat.lt_irrefl _ (hA.out.lt _ h.symm)
        have hne2 : Hid (∀ a : Addr, some (⟨w4.heap.size + 1, 0, none⟩ : Addr) = some a → some a.block ≠ (Value.slice ao2 LA.length cap2).ownBlock) := Lib.hid fun a e h => by
          cases e; exact absurd (hA.out.lt _ h.symm) (by simp)
        clear hx3
        go_region_held3 (fun w' => w'.cell? ⟨x3, 0, none⟩ = some (.int .u64 R.base) ∧ w'.cell? ⟨x3, 1, none⟩ = some (.int .u64 R.size) ∧ w'.cell? ⟨x3, 2, none⟩ = some (.bool R.r) ∧ w'.cell? ⟨x3, 3, none⟩ = some (.bool R.w) ∧ w'.cell? ⟨x3, 4, none⟩ = some (.bool R.x) ∧ w'.cell? ⟨x3, 5, none⟩ = some (.bool R.s))
          (first | go_keep | exact hK1.out.six.1 | exact (hK1.out.alloc _).six.1 | exact hK2.out.six.1)
          (first
            | (refine step_append_G (w4.alloc (.cells #[.int .u64 R.base, .int .u64 R.size, .bool R.r, .bool R.w, .bool R.x, .bool R.s] 30)) ?_ (by rfl) _ _ (by rfl) B (Value.slice ao2 LA.length cap2) LA (by rfl) (hA.out.alloc _) _ (by rfl) R (HN1.out _) hl1 (by simp; omega) ?_; (first | exact ⟨0, rfl⟩ | exact ⟨1, rfl⟩); intro p1 q1 ho1 hg1 hk1
               have hK1 := Lib.hid ((HBK.out.alloc (.cells #[.int .u64 R.base, .int .u64 R.size, .bool R.r, .bool R.w, .bool R.x, .bool R.s] 30)).grown hg1 (Ne.symm hxa'))
               have hO1 := Lib.hid ((hO.out.alloc (.cells #[.int .u64 R.base, .int .u64 R.size, .bool R.r, .bool R.w, .bool R.x, .bool R.s] 30)).grown hg1 (fun k h1 h2 => Hdis.out k h2 h1))
               have hb1 := Lib.hid ((hB4.out.alloc (Nat.le_of_lt hs4) (.cells #[.int .u64 R.base, .int .u64 R.size, .bool R.r, .bool R.w, .bool R.x, .bool R.s] 30)).grown hg1 (by simp; omega) (fun k hk => hA.out.block k hk))
               have hs1 := hg1.size; have Hg1 := Lib.hid hg1; have Hk1 := Lib.hid hk1; have Ho1 := Lib.hid ho1; clear hg1 hk1 ho1)
            | (refine step_append_G ((w4.alloc (.cells #[.int .u64 R.base, .int .u64 R.size, .bool R.r, .bool R.w, .bool R.x, .bool R.s] 30)).alloc (.cells #[.int .u64 R.base, .int .u64 R.size, .bool R.r, .bool R.w, .bool R.x, .bool R.s] 30)) ?_ (by rfl) _ _ (by rfl) B (Value.slice ao2 LA.length cap2) LA (by rfl) ((hA.out.alloc _).alloc _) _ (by rfl) R ?_ hl1 (by simp; omega) ?_; (first | exact ⟨0, rfl⟩ | exact ⟨1, rfl⟩); (first | exact HN2.out _ _ | exact HN3.out _ _); intro p1 q1 ho1 hg1 hk1
               have hK1 := Lib.hid (((HBK.out.alloc (.cells #[.int .u64 R.base, .int .u64 R.size, .bool R.r, .bool R.w, .bool R.x, .bool R.s] 30)).alloc (.cells #[.int .u64 R.base, .int .u64 R.size, .bool R.r, .bool R.w, .bool R.x, .bool R.s] 30)).grown hg1 (Ne.symm hxa'))
               have hO1 := Lib.hid (((hO.out.alloc (.cells #[.int .u64 R.base, .int .u64 R.size, .bool R.r, .bool R.w, .bool R.x, .bool R.s] 30)).alloc (.cells #[.int .u64 R.base, .int .u64 R.size, .bool R.r, .bool R.w, .bool R.x, .bool R.s] 30)).grown hg1 (fun k h1 h2 => Hdis.out k h2 h1))
               have hN1 := Lib.hid ((HN2.out w4 (.cells #[.int .u64 R.base, .int .u64 R.size, .bool R.r, .bool R.w, .bool R.x, .bool R.s] 30)).grown hg1)
               have hN2 := Lib.hid ((HN3.out w4 (.cells #[.int .u64 R.base, .int .u64 R.size, .bool R.r, .bool R.w, .bool R.x, .bool R.s] 30)).grown hg1)
               have hb1 := Lib.hid (((hB4.out.alloc (Nat.le_of_lt hs4) (.cells #[.int .u64 R.base, .int .u64 R.size, .bool R.r, .bool R.w, .bool R.x, .bool R.s] 30)).alloc (by simp; omega) (.cells #[.int .u64 R.base, .int .u64 R.size, .bool R.r, .bool R.w, .bool R.x, .bool R.s] 30)).grown hg1 (by simp; omega) (fun k hk => hA.out.block k hk))
               have hs1 := hg1.size; have Hg1 := Lib.hid hg1; have Hk1 := Lib.hid hk1; have Ho1 := Lib.hid ho1; clear hg1 hk1 ho1)
            | (refine step_append_G q1 ?_ (by rfl) _ _ (by rfl) B u8 outs (by rfl) hO1.out _ (by rfl) R ?_ hl2 (by simp at hs1; omega) ?_; (first | exact ⟨0, rfl⟩ | exact ⟨1, rfl⟩); (first | exact hN1.out hne1.out | exact hN2.out hne2.out); intro p2 q2 ho2 hg2 hk2
               have hK2 := Lib.hid (hK1.out.grown hg2 (Ne.symm hxo')); have Hk2 := Lib.hid hk2; clear hk2)
            | (refine step_append_G (q1.alloc (.cells #[.int .u64 R.base, .int .u64 R.size, .bool R.r, .bool R.w, .bool R.x, .bool R.s] 30)) ?_ (by rfl) _ _ (by rfl) B u8 outs (by rfl) (hO1.out.alloc _) _ (by rfl) R (HN1.out _) hl2 (by simp at hs1; simp; omega) ?_; (first | exact ⟨0, rfl⟩ | exact ⟨1, rfl⟩); intro p2 q2 ho2 hg2 hk2
               have hK2 := Lib.hid ((hK1.out.alloc (.cells #[.int .u64 R.base, .int .u64 R.size, .bool R.r, .bool R.w, .bool R.x, .bool R.s] 30)).grown hg2 (Ne.symm hxo')); have Hk2 := Lib.hid hk2; clear hk2))
        all_goals
          have hne3 := dis_fin (p2 := u8) (s3 := q1.heap.size) Hdis.out hO.out.lt Hk1.out (by simp; try omega) Ho1.out.lt (Or.inl rfl) (Nat.le_refl _)
          have hdis2 := Lib.hid (dis_fin Hdis.out hO.out.lt Hk1.out (by simp; try omega) Ho1.out.lt Hk2.out (by simp))
          have hoa2 : Hid (OwnG q2 B p1 (LA ++ [R])) := by first | exact Lib.hid (Ho1.out.grown hg2 hne3) | exact Lib.hid ((Ho1.out.alloc _).grown hg2 hne3)
          have hb2 : Hid (Below B w q2) := by first | exact Lib.hid (hb1.out.grown hg2 (by simp at hs1; omega) (fun k hk => hO.out.block k hk)) | exact Lib.hid ((hb1.out.alloc (by simp at hs1; omega) _).grown hg2 (by simp at hs1; simp; omega) (fun k hk => hO.out.block k hk))
          have hs2 : B ≤ q2.heap.size := by have := hg2.size; simp at hs1 this; omega
          have ho2' := Lib.hid ho2
          clear hne3 ho2 hg2
          go_wp2_with fail
          go_roundw
          case rel => exact ⟨k + 1, outs ++ [R], by go_num, by have := Hm.out; omega, hrunS.out, by rw [← List.append_assoc, HLA.out]; exact hoa2.out, ho2'.out, hdis2.out, hb2.out, hs2⟩
          case measure => simp [intOf]; omega
      · have t1 : (E == 0) = false := beq_eq_false_iff_ne.2 hE
        have t2 : (E != 0) = true := bne_iff_ne.2 hE
        have hres : Hid (Res taken l [] k E) := Lib.hid (Or.inr ⟨hE, rfl, outs, _, Ht.out, Hrun.out, by rw [HLA.out, Hpl.out]⟩)
        clear hE
        go_wp2_with fail
        refine (HPL _ (hra.below (hbx _))).out.mono ?_
        rintro e w3 ⟨rfl, hb3⟩
        have hbw := (hbx _).trans (hb3.mono (by simp))
        have hb4 := fun o => Lib.hid ((hb.trans (hbw.mono hs)).alloc (Nat.le_trans hs hbw.size) o)
        clear c0 c1 c2 c3 c4 c5 hbx hb3 hoa hoo hb hra HPL hx hrw hbw
        go_wp2_with fail
        go_ret3
        exact ⟨_, [], k, E, rfl, OwnG.nil _ _, hres.out, by rw [HB.out]; exact (hb4 _).out⟩
    · obtain rfl : k = m := by have := Hm.out; omega
      have hres : Hid (Res taken l outs k 0) := Lib.hid (Or.inl ⟨rfl, Hm.out.symm, Hrun.out⟩)
      obtain ⟨ao3, cap3, rfl, -, -, -⟩ := hoo.rd
      have hlo := Lib.hid Hrun.out.1
      rw [hlo.out] at hoo ⊢
      have HO := Lib.hid hoo
      have HBe := Lib.hid hb
      clear hoa hoo hb
      go_wp2_with fail
      go_ret3
      exact ⟨_, outs, k, 0, rfl, by rw [HB.out]; exact HO.out, hres.out, by rw [HB.out]; exact HBe.out⟩
end Go.Proofs.Ythhodibfbfmijaa
