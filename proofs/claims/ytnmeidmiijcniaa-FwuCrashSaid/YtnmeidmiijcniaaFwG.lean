/- The updater's change: the metadata are read, changed, and written to the other copy. No condition. -/
import Derived.Test.YtnmeidmiijcniaaFwL
import Derived.Test.YtnmeidmiijcniaaFwK
import Derived.Test.YtnmeidmiijcniaaFwQ
import Derived.StillTailTactics
set_option linter.unusedVariables false
set_option linter.unusedSimpArgs false
namespace Go.Proofs.Ytnmeidmiijcniaa
open Go.RowKit
attribute [local go_sem ↓] Go.wp_at_zero Go.wp_at_succ
structure OpG (op : Me → Me × Int) : Prop where
  seq : ∀ m, (op m).1.seq = m.seq
  act : ∀ m, m.act = 0 ∨ m.act = 1 → (op m).1.act = 0 ∨ (op m).1.act = 1
def chgF (op : Me → Me × Int) (f : Fl) (m : Int) : Fl × Int × Int :=
  if f.off then (f, 0, 143) else match curR f m with
    | none => (f, 0, 231)
    | some (x, k) => match changeE op x with
      | (none, b, e) => (f, b, e)
      | (some y, b, _) => ((writeR f (m + 1 - k) (encM y)).1, b, (writeR f (m + 1 - k) (encM y)).2)
theorem UpA.grown {w w' : World} {u p mb n : Nat} {s : Up} {f : Fl} {row : Option Nat} (h : UpA w u p mb n s f) (hg : w.grownBy w' row) (h1 : some u ≠ row) (h2 : some p ≠ row) (h3 : some mb ≠ row) : UpA w' u p mb n s f :=
  ⟨h.h.grown hg h1, h.fl.grown hg h2 h3, h.ok, h.up, h.i, h.n1, h.n2⟩
theorem UpA.lt {w : World} {u p mb n : Nat} {s : Up} {f : Fl} (h : UpA w u p mb n s f) : u < w.heap.size ∧ p < w.heap.size ∧ mb < w.heap.size := ⟨h.h.lt, h.fl.h.lt, h.fl.m.lt⟩
set_option maxRecDepth 100000 in
set_option maxHeartbeats 2000000 in
theorem change_any (fid : FuncId) (op : Me → Me × Int) (hC : ClC fid op) (hG : OpG op) (u p mb n : Nat) (s : Up) (f : Fl) (w : World) (h : UpA w u p mb n s f) (hn : n < 281474976710655) (hw0 : 0 ≤ f.writes) (hw1 : f.writes < 9223372036854775807) :
    Calls Try.prog 51 #[.pointer (some ⟨u, 0, none⟩), .func (.func fid) #[] #[]] w fun e w' =>
      e = .returned (.tuple #[.int .i64 (chgF op f s.meta').2.1, .int .i64 (chgF op f s.meta').2.2]) ∧ UpA w' u p mb (n + 1) s (chgF op f s.meta').1 ∧ Frm (fun q => q = p ∨ q = mb) w w' := by
  have H := Lib.hid h
  have HC := Lib.hid hC
  have HG := Lib.hid hG
  have Hn := Lib.hid (And.intro hn (And.intro hw0 hw1))
  have Hc := Lib.hid (current_any u p mb n s f w h)
  have Hsame := Lib.hid (fun w' (hb : Below w.heap.size w w') => And.intro (show UpA w' u p mb (n + 1) s f from ⟨h.h.later hb, (h.fl.later hb).mono (by omega), h.ok, h.up, h.i, h.n1, h.n2⟩) (show Frm (fun q => q = p ∨ q = mb) w w' from Frm.later hb))
  clear h hC hG hn hw0 hw1
  unfold curV at Hc
  cases ho : f.off
  case true =>
    have hE : curE f s.meta' = (⟨0, 0, 0, 0, 0⟩, 0, 143) := by unfold curE; rw [if_pos ho]; rfl
    have hF : chgF op f s.meta' = (f, 0, 143) := by unfold chgF; rw [if_pos ho]
    rw [hE] at Hc
    rw [hF]
    unfold mev at Hc
    dsimp only at Hc ⊢
    clear hE hF ho
    go_enter Try.func51, Try.ntmps51
    go_wp2_with fail
    refine Hc.out.mono ?_
    rintro e w1 ⟨rfl, hb1⟩
    have HBo := Lib.hid (fun o => hb1.alloc hb1.size o)
    clear Hc hb1
    go_wp2_with fail
    go_ret2
    exact ⟨rfl, (Hsame.out _ (HBo.out _)).1, (Hsame.out _ (HBo.out _)).2⟩
  cases hcur : curR f s.meta' with
  | none =>
    have hE : curE f s.meta' = (⟨0, 0, 0, 0, 0⟩, 0, 231) := by unfold curE; rw [ho, if_neg (by decide), hcur]; rfl
    have hF : chgF op f s.meta' = (f, 0, 231) := by unfold chgF; rw [ho, if_neg (by decide), hcur]
    rw [hE] at Hc
    rw [hF]
    unfold mev at Hc
    dsimp only at Hc ⊢
    clear hE hF ho hcur
    go_enter Try.func51, Try.ntmps51
    go_wp2_with fail
    refine Hc.out.mono ?_
    rintro e w1 ⟨rfl, hb1⟩
    have HBo := Lib.hid (fun o => hb1.alloc hb1.size o)
    clear Hc hb1
    go_wp2_with fail
    go_ret2
    exact ⟨rfl, (Hsame.out _ (HBo.out _)).1, (Hsame.out _ (HBo.out _)).2⟩
  | some c =>
    obtain ⟨x, k⟩ := c
    obtain ⟨hr, hsq, hk⟩ := cur_right hcur
    have hE : curE f s.meta' = (x, k, 0) := by unfold curE; rw [ho, if_neg (by decide), hcur]
    have hF : chgF op f s.meta' = (match changeE op x with
      | (none, b, e) => (f, b, e)
      | (some y, b, _) => ((writeR f (s.meta' + 1 - k) (encM y)).1, b, (writeR f (s.meta' + 1 - k) (encM y)).2)) := by unfold chgF; rw [ho, if_neg (by decide), hcur]
    have HF := fun (_ : Unit) => Lib.hid hF
    have Hr := Lib.hid hr
    have Hsq := Lib.hid hsq
    have Hk := Lib.hid hk
    have Ho := Lib.hid ho
    rw [hE] at Hc
    obtain ⟨F, hFF⟩ : ∃ F, chgF op f s.meta' = F := ⟨_, rfl⟩
    have HFF := fun (_ : Unit) => Lib.hid hFF
    rw [hFF]
    unfold mev at Hc
    dsimp only at Hc
    have hact := hr.a
    obtain ⟨sq, b0, b1, act, tr⟩ := x
    dsimp only at Hc hact
    clear hE hF ho hcur hr hsq hk hFF
    go_enter Try.func51, Try.ntmps51
    go_wp2_with fail
    refine Hc.out.mono ?_
    rintro e w1 ⟨rfl, hb1⟩
    have HX := Lib.hid (HB.new w1 (mec ⟨sq, b0, b1, act, tr⟩) 26)
    have hb2 := hb1.trans (((Below.refl w1.heap.size w1).alloc (Nat.le_refl _) (.cells (mec ⟨sq, b0, b1, act, tr⟩).toArray 26)).mono hb1.size)
    have HB2 := Lib.hid hb2
    obtain ⟨w2, hw2⟩ : ∃ w2, w1.alloc (.cells (mec ⟨sq, b0, b1, act, tr⟩).toArray 26) = w2 := ⟨_, rfl⟩
    rw [hw2] at HX HB2
    have HXw : Hid (w.heap.size ≤ w1.heap.size) := Lib.hid hb1.size
    obtain ⟨X, hX⟩ : ∃ X, w1.heap.size = X := ⟨_, rfl⟩
    rw [hX] at HX HXw
    unfold mec at hw2
    dsimp only at hw2
    try rw [show ((0 : Nat) : Int) = 0 from rfl] at hw2
    obtain ⟨x0, x1, x2, x3, x4⟩ := Five.of HX.out
    dsimp only at x0 x1 x2 x3 x4
    clear Hc hb1 hb2
    rcases hact with rfl | rfl
    · have HW := Lib.hid (HB.new w2 (mec ⟨sq, b0, b1, 0, tr⟩) 26)
      have hb3 := (Below.refl w2.heap.size w2).alloc (Nat.le_refl _) (.cells (mec ⟨sq, b0, b1, 0, tr⟩).toArray 26)
      have HX3 := Lib.hid (HX.out.later hb3)
      have HB3 := Lib.hid (HB2.out.trans (hb3.mono HB2.out.size))
      obtain ⟨w3, hw3⟩ : ∃ w3, w2.alloc (.cells (mec ⟨sq, b0, b1, 0, tr⟩).toArray 26) = w3 := ⟨_, rfl⟩
      rw [hw3] at HX3 HB3 HW
      obtain ⟨W, hW⟩ : ∃ W, w2.heap.size = W := ⟨_, rfl⟩
      have HXW : Hid (X < W) := Lib.hid (by rw [← hW]; exact HX.out.lt)
      rw [hW] at HW
      unfold mec at hw3
      dsimp only at hw3
      go_upto_region 5 with fail
      clear x0 x1 x2 x3 x4 HX HB2 hw2 hw3 hX
      have hd0 : Drn w3 w3.drew := ⟨1, rfl⟩
      have HXd := Lib.hid (HX3.out.drn hd0)
      have HWd := Lib.hid (HW.out.drn hd0)
      have HBd := Lib.hid (HB3.out.trans (hd0.below _))
      have Hcl := Lib.hid (HC.out.zero ⟨sq, b0, b1, 0, tr⟩ X w3.drew Hr.out rfl HXd.out)
      have wr1 : IntKind.i64.wrap 1 = 1 := by decide
      have wr0 : IntKind.i64.wrap 0 = 0 := by decide
      have x3 := (Five.of HXd.out).c3
      have hrun := HC.out.run
      dsimp only at x3
      go_still_tail 10, (by kernel_rfl)
      go_wp2_with fail
      clear hrun x3
      refine Hcl.out.mono ?_
      rintro e w4 ⟨rfl, hx4, hg4⟩
      have HX4 := Lib.hid hx4
      have HW4 := Lib.hid (HWd.out.grown hg4 (fun e => by have := HXW.out; have := Option.some.inj e; omega))
      have HB4 := Lib.hid (HBd.out.grown hg4 (Nat.le_trans (by exact H.out.lt.1 |> Nat.le_of_lt |> fun _ => Nat.le_refl _) HBd.out.size) (fun q hq => by have := HXw.out; have := Option.some.inj hq; omega))
      have hopseq := HG.out.seq ⟨sq, b0, b1, 0, tr⟩
      have hopact := HG.out.act ⟨sq, b0, b1, 0, tr⟩ (by simp)
      obtain ⟨m4, hm4⟩ : ∃ m4, (op ⟨sq, b0, b1, 0, tr⟩).1 = m4 := ⟨_, rfl⟩
      obtain ⟨e4, he4⟩ : ∃ e4, (op ⟨sq, b0, b1, 0, tr⟩).2 = e4 := ⟨_, rfl⟩
      have hce : changeE op ⟨sq, b0, b1, 0, tr⟩ = (if e4 ≠ 0 ∨ m4 = ⟨sq, b0, b1, 0, tr⟩ then (none, m4.act, e4) else if sq = 4294967295 then (none, 0, 231) else if rightM { m4 with seq := sq + 1 } = true then (some { m4 with seq := sq + 1 }, m4.act, 0) else (none, 0, 231)) := by unfold changeE; rw [hm4, he4]
      rw [hm4] at hopseq hopact HX4
      rw [he4]
      dsimp only at hopseq hce
      obtain ⟨nq, nb0, nb1, na, nt⟩ := m4
      dsimp only at hopseq hopact
      subst hopseq
      have Hce := fun (_ : Unit) => Lib.hid hce
      have Hact := Lib.hid hopact
      clear hx4 hg4 Hcl HXd HWd HBd HX3 HW HB3 hd0 hm4 he4 hce hopact hb3
      have HSm := Lib.hid (fun w' (hb : Below w.heap.size w w') => Hsame.out w' hb)
      clear Hsame
      obtain ⟨z0, z1, z2, z3, z4⟩ := Five.of HX4.out
      obtain ⟨v0, v1, v2, v3, v4⟩ := Five.of HW4.out
      dsimp only at z0 z1 z2 z3 z4 v0 v1 v2 v3 v4
      by_cases he : e4 = 0
      case neg =>
        have hr := (Hce ()).out
        rw [if_pos (.inl he)] at hr
        dsimp only at hr
        have hF := (HF ()).out
        rw [hr, (HFF ()).out] at hF
        dsimp only at hF
        have HF2 := Lib.hid hF
        clear hF hr HF HFF Hce
        go_wp2_with fail
        go_ret2
        rw [HF2.out]
        exact ⟨rfl, (HSm.out _ HB4.out).1, (HSm.out _ HB4.out).2⟩
      subst he
      have heq := fun w => me_equal ⟨nq, nb0, nb1, na, nt⟩ ⟨nq, b0, b1, 0, tr⟩ w
      dsimp only at heq
      have hguard : Try.prog.eqGuardType Try.prog.depth 26 = false := by kernel_rfl
      by_cases hmm : (⟨nq, nb0, nb1, na, nt⟩ : Me) = ⟨nq, b0, b1, 0, tr⟩
      case pos =>
        have hr := (Hce ()).out
        rw [if_pos (.inr hmm)] at hr
        dsimp only at hr
        have hF := (HF ()).out
        rw [hr, (HFF ()).out] at hF
        dsimp only at hF
        have HF2 := Lib.hid hF
        rw [decide_eq_true hmm] at heq
        clear hF hr HF HFF Hce hmm
        go_wp2_with fail
        go_ret2
        rw [HF2.out]
        exact ⟨rfl, (HSm.out _ HB4.out).1, (HSm.out _ HB4.out).2⟩
      rw [decide_eq_false hmm] at heq
      have zf := HX4.out.frozen
      have hr := (Hce ()).out
      rw [if_neg (fun h => h.elim (fun h => h rfl) hmm)] at hr
      by_cases hq : nq = 4294967295
      case pos =>
        rw [if_pos hq] at hr
        have hF := (HF ()).out
        rw [hr, (HFF ()).out] at hF
        dsimp only at hF
        have HF2 := Lib.hid hF
        have e1 : IntKind.u32.wrap ((nq : Int) + 1) = 0 := by rw [hq]; decide
        have HBs := fun (_ : Unit) => Lib.hid (HB4.out.setCell (p := ⟨X, 0, none⟩) HXw.out (.int .u32 0))
        clear hF hr HF HFF Hce hmm hq
        go_wp2_with fail
        go_ret2
        rw [HF2.out]
        exact ⟨rfl, (HSm.out _ (HBs ()).out).1, (HSm.out _ (HBs ()).out).2⟩
      rw [if_neg hq] at hr
      have hnq : nq + 1 < 4294967296 := by have := Hsq.out; omega
      have e1 : IntKind.u32.wrap ((nq : Int) + 1) = ((nq + 1 : Nat) : Int) := by rw [IntWalk.u32_in _ (by omega)]; omega
      have HXs := fun (_ : Unit) => Lib.hid (HX4.out.set 0 (.int .u32 ((nq + 1 : Nat) : Int)))
      have HBs := fun (_ : Unit) => Lib.hid (HB4.out.setCell (p := ⟨X, 0, none⟩) HXw.out (.int .u32 ((nq + 1 : Nat) : Int)))
      have e2 : ¬ (((nq + 1 : Nat) : Int) = 0) := by omega
      obtain ⟨q1, hq1⟩ : ∃ q1, nq + 1 = q1 := ⟨_, rfl⟩
      rw [hq1] at e1 HXs HBs e2 hnq hr
      have Hr5 := fun (_ : Unit) => Lib.hid hr
      clear hmm hq hq1 hr
      go_upto_region 9 with fail
      clear z0 z1 z2 z3 z4 v0 v1 v2 v3 v4 zf heq hguard e1
      generalize World.setCell _ _ _ = w5 at *
      have HX5 : Hid (HB w5 X 26 (mec ⟨q1, nb0, nb1, na, nt⟩)) := (HXs ())
      have HB5 := (HBs ())
      obtain ⟨z0, z1, z2, z3, z4⟩ := Five.of HX5.out
      dsimp only at z0 z1 z2 z3 z4
      clear HXs HBs HX4 HB4 HW4
      cases hrt : rightM ⟨q1, nb0, nb1, na, nt⟩
      case false =>
        have He := Lib.hid (enc_bad ⟨q1, nb0, nb1, na, nt⟩ w5 hrt)
        have hr := (Hr5 ()).out
        rw [hrt, if_neg (by decide)] at hr
        have hF := (HF ()).out
        rw [hr, (HFF ()).out] at hF
        dsimp only at hF
        have HF2 := Lib.hid hF
        unfold mev at He
        dsimp only at He
        clear hF hr HF HFF Hce Hr5
        go_wp2_with fail
        refine He.out.mono ?_
        rintro e w6 ⟨rfl, hb6⟩
        have HB6 := Lib.hid (HB5.out.trans (hb6.mono (Nat.le_trans (by have := HXw.out; exact Nat.le_refl _) HB5.out.size)))
        clear hb6 z0 z1 z2 z3 z4 He
        go_wp2_with fail
        go_ret2
        rw [HF2.out]
        exact ⟨rfl, (HSm.out _ HB6.out).1, (HSm.out _ HB6.out).2⟩
      have He := Lib.hid (enc_ok ⟨q1, nb0, nb1, na, nt⟩ w5 hrt hnq)
      have hr := (Hr5 ()).out
      rw [hrt, if_pos rfl] at hr
      have hF := (HF ()).out
      rw [hr, (HFF ()).out] at hF
      dsimp only at hF
      have HF2 := Lib.hid hF
      unfold mev at He
      dsimp only at He
      clear hF hr HF HFF Hce Hr5
      go_wp2_with fail
      refine He.out.mono ?_
      rintro e w6 ⟨g, C, rfl, hC, ho6, hb6⟩
      have HX6 := Lib.hid (HX5.out.later hb6)
      have HB6 := Lib.hid (HB5.out.trans (hb6.mono HB5.out.size))
      have hll := encM_len ⟨q1, nb0, nb1, na, nt⟩
      obtain ⟨L, hL⟩ : ∃ L, encM ⟨q1, nb0, nb1, na, nt⟩ = L := ⟨_, rfl⟩
      rw [hL] at ho6 hll HF2
      have hgb := own_blk ho6 (k := g) rfl
      have hr6 : Rd w6 (some ⟨g, 0, none⟩) L := by
        obtain ⟨a4, c4, he4, -, -, hr4⟩ := ho6.rd
        rw [hll] at he4
        cases he4
        exact hr4
      have Hr6 := Lib.hid hr6
      have Hll := Lib.hid hll
      have HC6 := Lib.hid hC
      have Hg6 := Lib.hid hgb
      clear hb6 z0 z1 z2 z3 z4 He hL hll ho6 hr6 hC hgb HX5
      go_upto_region 14 with fail
      have hd0 : Drn w6 w6.drew := ⟨1, rfl⟩
      have hU6 := H.out.later HB6.out
      have HUd := Lib.hid (hU6.later (hd0.below _))
      have HXd := Lib.hid (HX6.out.drn hd0)
      have HBd := Lib.hid (HB6.out.trans (hd0.below _))
      have hI := hU6.i.m
      unfold I64 at hI
      have hup := hU6.up.m
      have hsz := hU6.ok.s1
      have hk := Hk.out
      obtain ⟨m1, hm1⟩ : ∃ m1, s.meta' + 1 = m1 := ⟨_, rfl⟩
      obtain ⟨kk, hkk⟩ : ∃ kk, m1 - k = kk := ⟨_, rfl⟩
      have e1 : IntKind.i64.wrap (s.meta' + 1) = m1 := by rw [IntWalk.i64_in _ (by omega)]; exact hm1
      have e2 : IntKind.i64.wrap (m1 - k) = kk := by rw [IntWalk.i64_in _ (by omega)]; exact hkk
      have hm0 : mayE f (s.meta' + 1 - k) = 0 := by unfold mayE; rw [Ho.out, if_neg (by decide), if_neg (by omega)]
      have Hwr := Lib.hid (writef_ok p mb n f (s.meta' + 1 - k) g 0 C L w6.drew HUd.out.fl hU6.ok (by unfold I64; omega) hm0 Hll.out (hd0.rd Hr6.out) HC6.out Hn.out.1 Hn.out.2.1 Hn.out.2.2 (by have := H.out.lt; have := Hg6.out; have := HB5.out.size; omega))
      have Hpo := Lib.hid (put_ok23 (f := f) (k := s.meta' + 1 - k) (l := L) hU6.ok Hll.out)
      rw [hm1, hkk] at Hwr Hpo HF2
      clear hU6 hI hup hsz hk hm0 hkk hm1
      refine wp_region_held_drew (S := fun w' => w'.cell? ⟨X, 3, none⟩ = some (.int .i64 na) ∧ UpX w' u p s) (by kernel_rfl) ⟨(Five.of HXd.out).c3, UpX.of HUd.out.h⟩ (fun hHeld => ?_)
      refine wpAnyH_take (i := 0) (v := ?_) (by simp only [List.getElem?_toArray, List.getElem?_cons_succ, List.getElem?_cons_zero]; rfl) (by kernel_rfl) (by kernel_rfl) (by kernel_rfl) (by intro _ _ _ h_; exact h_) (Or.inl ⟨by rfl, ?_⟩) (by assumption) ?_
      rotate_left 1
      focus (intro w_ hSw_; try go_simp; try with_reducible rfl)
      simp only [Act.put, List.setIfInBounds_toArray, List.set_cons_zero, List.set_cons_succ]
      refine wpAnyH_take (i := 1) (v := ?_) (by simp only [List.getElem?_toArray, List.getElem?_cons_succ, List.getElem?_cons_zero]; rfl) (by kernel_rfl) (by kernel_rfl) (by kernel_rfl) (by intro _ _ _ h_; exact h_) (Or.inl ⟨by rfl, ?_⟩) (by assumption) ?_
      rotate_left 1
      focus (intro w_ hSw_; obtain ⟨y9, y0, y1, y2, y3, y4⟩ := hSw_; try go_simp; try with_reducible rfl)
      simp only [Act.put, List.setIfInBounds_toArray, List.set_cons_zero, List.set_cons_succ]
      refine wpAnyH_take (i := 2) (v := ?_) (by simp only [List.getElem?_toArray, List.getElem?_cons_succ, List.getElem?_cons_zero]; rfl) (by kernel_rfl) (by kernel_rfl) (by kernel_rfl) (by intro _ _ _ h_; exact h_) (Or.inl ⟨by rfl, ?_⟩) (by assumption) ?_
      rotate_left 1
      focus (intro w_ hSw_; try go_simp; try with_reducible rfl)
      simp only [Act.put, List.setIfInBounds_toArray, List.set_cons_zero, List.set_cons_succ]
      refine wpAnyH_take (i := 3) (v := ?_) (by simp only [List.getElem?_toArray, List.getElem?_cons_succ, List.getElem?_cons_zero]; rfl) (by kernel_rfl) (by kernel_rfl) (by kernel_rfl) (by intro _ _ _ h_; exact h_) (Or.inl ⟨by rfl, ?_⟩) (by assumption) ?_
      rotate_left 1
      focus (intro w_ hSw_; try go_simp; try with_reducible rfl)
      simp only [Act.put, List.setIfInBounds_toArray, List.set_cons_zero, List.set_cons_succ]
      refine wpAnyH_take (i := 4) (v := ?_) (by simp only [List.getElem?_toArray, List.getElem?_cons_succ, List.getElem?_cons_zero]; rfl) (by kernel_rfl) (by kernel_rfl) (by kernel_rfl) (by intro _ _ _ h_; exact h_) (Or.inl ⟨by rfl, ?_⟩) (by assumption) ?_
      rotate_left 1
      focus (intro w_ hSw_; try go_simp; try with_reducible rfl)
      simp only [Act.put, List.setIfInBounds_toArray, List.set_cons_zero, List.set_cons_succ]
      refine wpAnyH_take (i := 5) (v := ?_) (by simp only [List.getElem?_toArray, List.getElem?_cons_succ, List.getElem?_cons_zero]; rfl) (by kernel_rfl) (by kernel_rfl) (by kernel_rfl) (by intro _ _ _ h_; exact h_) (Or.inl ⟨by rfl, ?_⟩) (by assumption) ?_
      rotate_left 1
      focus (intro w_ hSw_; obtain ⟨y9, y0, y1, y2, y3, y4⟩ := hSw_; try go_simp; try with_reducible rfl)
      simp only [Act.put, List.setIfInBounds_toArray, List.set_cons_zero, List.set_cons_succ]
      refine wpAnyH_take (i := 6) (v := ?_) (by simp only [List.getElem?_toArray, List.getElem?_cons_succ, List.getElem?_cons_zero]; rfl) (by kernel_rfl) (by kernel_rfl) (by kernel_rfl) (by intro _ _ _ h_; exact h_) (Or.inl ⟨by rfl, ?_⟩) (by assumption) ?_
      rotate_left 1
      focus (intro w_ hSw_; try go_simp; try with_reducible rfl)
      simp only [Act.put, List.setIfInBounds_toArray, List.set_cons_zero, List.set_cons_succ]
      refine wpAnyH_take (i := 7) (v := ?_) (by simp only [List.getElem?_toArray, List.getElem?_cons_succ, List.getElem?_cons_zero]; rfl) (by kernel_rfl) (by kernel_rfl) (by kernel_rfl) (by intro _ _ _ h_; exact h_) (Or.inl ⟨by rfl, ?_⟩) (by assumption) ?_
      rotate_left 1
      focus (intro w_ hSw_; try go_simp; try with_reducible rfl)
      simp only [Act.put, List.setIfInBounds_toArray, List.set_cons_zero, List.set_cons_succ]
      refine wpAnyH_take (i := 8) (v := ?_) (by simp only [List.getElem?_toArray, List.getElem?_cons_succ, List.getElem?_cons_zero]; rfl) (by kernel_rfl) (by kernel_rfl) (by kernel_rfl) (by intro _ _ _ h_; exact h_) (Or.inl ⟨by rfl, ?_⟩) (by assumption) ?_
      rotate_left 1
      focus (intro w_ hSw_; try go_simp; try with_reducible rfl)
      simp only [Act.put, List.setIfInBounds_toArray, List.set_cons_zero, List.set_cons_succ]
      refine wpAnyH_take (i := 9) (v := ?_) (by simp only [List.getElem?_toArray, List.getElem?_cons_succ, List.getElem?_cons_zero]; rfl) (by kernel_rfl) (by kernel_rfl) (by kernel_rfl) (by intro _ _ _ h_; exact h_) (Or.inl ⟨by rfl, ?_⟩) (by assumption) ?_
      rotate_left 1
      focus (intro w_ hSw_; obtain ⟨y9, y0, y1, y2, y3, y4⟩ := hSw_; try go_simp; try with_reducible rfl)
      simp only [Act.put, List.setIfInBounds_toArray, List.set_cons_zero, List.set_cons_succ]
      refine wpAnyH_take (i := 10) (v := ?_) (by simp only [List.getElem?_toArray, List.getElem?_cons_succ, List.getElem?_cons_zero]; rfl) (by kernel_rfl) (by kernel_rfl) (by kernel_rfl) (by intro _ _ _ h_; exact h_) (Or.inl ⟨by rfl, ?_⟩) (by assumption) ?_
      rotate_left 1
      focus (intro w_ hSw_; try go_simp; try with_reducible rfl)
      simp only [Act.put, List.setIfInBounds_toArray, List.set_cons_zero, List.set_cons_succ]
      refine wpAnyH_take (i := 11) (v := ?_) (by simp only [List.getElem?_toArray, List.getElem?_cons_succ, List.getElem?_cons_zero]; rfl) (by kernel_rfl) (by kernel_rfl) (by kernel_rfl) (by intro _ _ _ h_; exact h_) (Or.inl ⟨by rfl, ?_⟩) (by assumption) ?_
      rotate_left 1
      focus (intro w_ hSw_; try go_simp; try with_reducible rfl)
      simp only [Act.put, List.setIfInBounds_toArray, List.set_cons_zero, List.set_cons_succ]
      refine wpAnyH_take (i := 12) (v := ?_) (by simp only [List.getElem?_toArray, List.getElem?_cons_succ, List.getElem?_cons_zero]; rfl) (by kernel_rfl) (by kernel_rfl) (by kernel_rfl) (by intro _ _ _ h_; exact h_) (Or.inl ⟨by rfl, ?_⟩) (by assumption) ?_
      rotate_left 1
      focus (intro w_ hSw_; try go_simp; try with_reducible rfl)
      simp only [Act.put, List.setIfInBounds_toArray, List.set_cons_zero, List.set_cons_succ]
      refine wpAnyH_take (i := 13) (v := ?_) (by simp only [List.getElem?_toArray, List.getElem?_cons_succ, List.getElem?_cons_zero]; rfl) (by kernel_rfl) (by kernel_rfl) (by kernel_rfl) (by intro _ _ _ h_; exact h_) (Or.inl ⟨by rfl, ?_⟩) (by assumption) ?_
      rotate_left 1
      focus (intro w_ hSw_; try go_simp; try with_reducible rfl)
      simp only [Act.put, List.setIfInBounds_toArray, List.set_cons_zero, List.set_cons_succ]
      refine wpAnyH_ready (rs := [14]) (by kernel_rfl) (by simp) ?_
      refine AllReadyH.cons (by simp only [List.getElem?_toArray, List.getElem?_cons_succ, List.getElem?_cons_zero]; rfl) (fun K hK => ?_) AllReadyH.nil
      try go_simp
      refine Hwr.out.mono ?_
      rintro e w7 ⟨rfl, hfl7, hf7⟩
      have hX7 := HXd.out.frm hf7 (fun e => by have h1 := H.out.lt; have h2 := HXw.out; rcases e with e | e <;> omega)
      have hu7 := HUd.out.h.frm hf7 (fun e => e.elim H.out.n1 H.out.n2)
      have HUf := Lib.hid (show UpA w7 u p mb (n + 1) s (writeR f kk L).1 from ⟨hu7, hfl7, Hpo.out.1, by rw [Hpo.out.2.1]; exact H.out.up, H.out.i, H.out.n1, H.out.n2⟩)
      have HFr := Lib.hid (show Frm (fun q => q = p ∨ q = mb) w w7 from (Frm.later HBd.out).trans hf7)
      have HSS := Lib.hid (show w7.cell? ⟨X, 3, none⟩ = some (.int .i64 na) ∧ UpX w7 u p s from ⟨(Five.of hX7).c3, UpX.of hu7⟩)
      clear hHeld hX7 hu7 hfl7 hf7 HUd HXd HBd Hwr HX6 HB6 HB5
      go_wp2_with fail
      refine hK.out _ _ HSS.out (fun hHeld => ?_)
      clear hK K
      try simp only [Act.put, List.setIfInBounds_toArray, List.set_cons_zero, List.set_cons_succ]
      refine wpAnyH_take (i := 15) (v := ?_) (by simp only [List.getElem?_toArray, List.getElem?_cons_succ, List.getElem?_cons_zero]; rfl) (by kernel_rfl) (by kernel_rfl) (by kernel_rfl) (by intro _ _ _ h_; exact h_) (Or.inl ⟨by rfl, ?_⟩) (by assumption) ?_
      rotate_left 1
      focus (intro w_ hSw_; try go_simp; try with_reducible rfl)
      simp only [Act.put, List.setIfInBounds_toArray, List.set_cons_zero, List.set_cons_succ]
      refine wpAnyH_take (i := 16) (v := ?_) (by simp only [List.getElem?_toArray, List.getElem?_cons_succ, List.getElem?_cons_zero]; rfl) (by kernel_rfl) (by kernel_rfl) (by kernel_rfl) (by intro _ _ _ h_; exact h_) (Or.inl ⟨by rfl, ?_⟩) (by assumption) ?_
      rotate_left 1
      focus (intro w_ hSw_; try go_simp; try with_reducible rfl)
      simp only [Act.put, List.setIfInBounds_toArray, List.set_cons_zero, List.set_cons_succ]
      refine wpAnyH_done (by kernel_rfl) ?_ _
      clear hHeld
      go_wp2_with fail
      go_ret2
      rw [HF2.out]
      exact ⟨rfl, HUf.out, HFr.out⟩
    · have HW := Lib.hid (HB.new w2 (mec ⟨sq, b0, b1, 1, tr⟩) 26)
      have hb3 := (Below.refl w2.heap.size w2).alloc (Nat.le_refl _) (.cells (mec ⟨sq, b0, b1, 1, tr⟩).toArray 26)
      have HX3 := Lib.hid (HX.out.later hb3)
      have HB3 := Lib.hid (HB2.out.trans (hb3.mono HB2.out.size))
      obtain ⟨w3, hw3⟩ : ∃ w3, w2.alloc (.cells (mec ⟨sq, b0, b1, 1, tr⟩).toArray 26) = w3 := ⟨_, rfl⟩
      rw [hw3] at HX3 HB3 HW
      obtain ⟨W, hW⟩ : ∃ W, w2.heap.size = W := ⟨_, rfl⟩
      have HXW : Hid (X < W) := Lib.hid (by rw [← hW]; exact HX.out.lt)
      rw [hW] at HW
      unfold mec at hw3
      dsimp only at hw3
      go_upto_region 5 with fail
      clear x0 x1 x2 x3 x4 HX HB2 hw2 hw3 hX
      have hd0 : Drn w3 w3.drew := ⟨1, rfl⟩
      have HXd := Lib.hid (HX3.out.drn hd0)
      have HWd := Lib.hid (HW.out.drn hd0)
      have HBd := Lib.hid (HB3.out.trans (hd0.below _))
      have Hcl := Lib.hid (HC.out.one ⟨sq, b0, b1, 1, tr⟩ X w3.drew Hr.out rfl HXd.out)
      have wr1 : IntKind.i64.wrap 1 = 1 := by decide
      have wr0 : IntKind.i64.wrap 0 = 0 := by decide
      have x3 := (Five.of HXd.out).c3
      have hrun := HC.out.run
      dsimp only at x3
      go_still_tail 10, (by kernel_rfl)
      go_wp2_with fail
      clear hrun x3
      refine Hcl.out.mono ?_
      rintro e w4 ⟨rfl, hx4, hg4⟩
      have HX4 := Lib.hid hx4
      have HW4 := Lib.hid (HWd.out.grown hg4 (fun e => by have := HXW.out; have := Option.some.inj e; omega))
      have HB4 := Lib.hid (HBd.out.grown hg4 (Nat.le_trans (by exact H.out.lt.1 |> Nat.le_of_lt |> fun _ => Nat.le_refl _) HBd.out.size) (fun q hq => by have := HXw.out; have := Option.some.inj hq; omega))
      have hopseq := HG.out.seq ⟨sq, b0, b1, 1, tr⟩
      have hopact := HG.out.act ⟨sq, b0, b1, 1, tr⟩ (by simp)
      obtain ⟨m4, hm4⟩ : ∃ m4, (op ⟨sq, b0, b1, 1, tr⟩).1 = m4 := ⟨_, rfl⟩
      obtain ⟨e4, he4⟩ : ∃ e4, (op ⟨sq, b0, b1, 1, tr⟩).2 = e4 := ⟨_, rfl⟩
      have hce : changeE op ⟨sq, b0, b1, 1, tr⟩ = (if e4 ≠ 0 ∨ m4 = ⟨sq, b0, b1, 1, tr⟩ then (none, m4.act, e4) else if sq = 4294967295 then (none, 0, 231) else if rightM { m4 with seq := sq + 1 } = true then (some { m4 with seq := sq + 1 }, m4.act, 0) else (none, 0, 231)) := by unfold changeE; rw [hm4, he4]
      rw [hm4] at hopseq hopact HX4
      rw [he4]
      dsimp only at hopseq hce
      obtain ⟨nq, nb0, nb1, na, nt⟩ := m4
      dsimp only at hopseq hopact
      subst hopseq
      have Hce := fun (_ : Unit) => Lib.hid hce
      have Hact := Lib.hid hopact
      clear hx4 hg4 Hcl HXd HWd HBd HX3 HW HB3 hd0 hm4 he4 hce hopact hb3
      have HSm := Lib.hid (fun w' (hb : Below w.heap.size w w') => Hsame.out w' hb)
      clear Hsame
      obtain ⟨z0, z1, z2, z3, z4⟩ := Five.of HX4.out
      obtain ⟨v0, v1, v2, v3, v4⟩ := Five.of HW4.out
      dsimp only at z0 z1 z2 z3 z4 v0 v1 v2 v3 v4
      by_cases he : e4 = 0
      case neg =>
        have hr := (Hce ()).out
        rw [if_pos (.inl he)] at hr
        dsimp only at hr
        have hF := (HF ()).out
        rw [hr, (HFF ()).out] at hF
        dsimp only at hF
        have HF2 := Lib.hid hF
        clear hF hr HF HFF Hce
        go_wp2_with fail
        go_ret2
        rw [HF2.out]
        exact ⟨rfl, (HSm.out _ HB4.out).1, (HSm.out _ HB4.out).2⟩
      subst he
      have heq := fun w => me_equal ⟨nq, nb0, nb1, na, nt⟩ ⟨nq, b0, b1, 1, tr⟩ w
      dsimp only at heq
      have hguard : Try.prog.eqGuardType Try.prog.depth 26 = false := by kernel_rfl
      by_cases hmm : (⟨nq, nb0, nb1, na, nt⟩ : Me) = ⟨nq, b0, b1, 1, tr⟩
      case pos =>
        have hr := (Hce ()).out
        rw [if_pos (.inr hmm)] at hr
        dsimp only at hr
        have hF := (HF ()).out
        rw [hr, (HFF ()).out] at hF
        dsimp only at hF
        have HF2 := Lib.hid hF
        rw [decide_eq_true hmm] at heq
        clear hF hr HF HFF Hce hmm
        go_wp2_with fail
        go_ret2
        rw [HF2.out]
        exact ⟨rfl, (HSm.out _ HB4.out).1, (HSm.out _ HB4.out).2⟩
      rw [decide_eq_false hmm] at heq
      have zf := HX4.out.frozen
      have hr := (Hce ()).out
      rw [if_neg (fun h => h.elim (fun h => h rfl) hmm)] at hr
      by_cases hq : nq = 4294967295
      case pos =>
        rw [if_pos hq] at hr
        have hF := (HF ()).out
        rw [hr, (HFF ()).out] at hF
        dsimp only at hF
        have HF2 := Lib.hid hF
        have e1 : IntKind.u32.wrap ((nq : Int) + 1) = 0 := by rw [hq]; decide
        have HBs := fun (_ : Unit) => Lib.hid (HB4.out.setCell (p := ⟨X, 0, none⟩) HXw.out (.int .u32 0))
        clear hF hr HF HFF Hce hmm hq
        go_wp2_with fail
        go_ret2
        rw [HF2.out]
        exact ⟨rfl, (HSm.out _ (HBs ()).out).1, (HSm.out _ (HBs ()).out).2⟩
      rw [if_neg hq] at hr
      have hnq : nq + 1 < 4294967296 := by have := Hsq.out; omega
      have e1 : IntKind.u32.wrap ((nq : Int) + 1) = ((nq + 1 : Nat) : Int) := by rw [IntWalk.u32_in _ (by omega)]; omega
      have HXs := fun (_ : Unit) => Lib.hid (HX4.out.set 0 (.int .u32 ((nq + 1 : Nat) : Int)))
      have HBs := fun (_ : Unit) => Lib.hid (HB4.out.setCell (p := ⟨X, 0, none⟩) HXw.out (.int .u32 ((nq + 1 : Nat) : Int)))
      have e2 : ¬ (((nq + 1 : Nat) : Int) = 0) := by omega
      obtain ⟨q1, hq1⟩ : ∃ q1, nq + 1 = q1 := ⟨_, rfl⟩
      rw [hq1] at e1 HXs HBs e2 hnq hr
      have Hr5 := fun (_ : Unit) => Lib.hid hr
      clear hmm hq hq1 hr
      go_upto_region 9 with fail
      clear z0 z1 z2 z3 z4 v0 v1 v2 v3 v4 zf heq hguard e1
      generalize World.setCell _ _ _ = w5 at *
      have HX5 : Hid (HB w5 X 26 (mec ⟨q1, nb0, nb1, na, nt⟩)) := (HXs ())
      have HB5 := (HBs ())
      obtain ⟨z0, z1, z2, z3, z4⟩ := Five.of HX5.out
      dsimp only at z0 z1 z2 z3 z4
      clear HXs HBs HX4 HB4 HW4
      cases hrt : rightM ⟨q1, nb0, nb1, na, nt⟩
      case false =>
        have He := Lib.hid (enc_bad ⟨q1, nb0, nb1, na, nt⟩ w5 hrt)
        have hr := (Hr5 ()).out
        rw [hrt, if_neg (by decide)] at hr
        have hF := (HF ()).out
        rw [hr, (HFF ()).out] at hF
        dsimp only at hF
        have HF2 := Lib.hid hF
        unfold mev at He
        dsimp only at He
        clear hF hr HF HFF Hce Hr5
        go_wp2_with fail
        refine He.out.mono ?_
        rintro e w6 ⟨rfl, hb6⟩
        have HB6 := Lib.hid (HB5.out.trans (hb6.mono (Nat.le_trans (by have := HXw.out; exact Nat.le_refl _) HB5.out.size)))
        clear hb6 z0 z1 z2 z3 z4 He
        go_wp2_with fail
        go_ret2
        rw [HF2.out]
        exact ⟨rfl, (HSm.out _ HB6.out).1, (HSm.out _ HB6.out).2⟩
      have He := Lib.hid (enc_ok ⟨q1, nb0, nb1, na, nt⟩ w5 hrt hnq)
      have hr := (Hr5 ()).out
      rw [hrt, if_pos rfl] at hr
      have hF := (HF ()).out
      rw [hr, (HFF ()).out] at hF
      dsimp only at hF
      have HF2 := Lib.hid hF
      unfold mev at He
      dsimp only at He
      clear hF hr HF HFF Hce Hr5
      go_wp2_with fail
      refine He.out.mono ?_
      rintro e w6 ⟨g, C, rfl, hC, ho6, hb6⟩
      have HX6 := Lib.hid (HX5.out.later hb6)
      have HB6 := Lib.hid (HB5.out.trans (hb6.mono HB5.out.size))
      have hll := encM_len ⟨q1, nb0, nb1, na, nt⟩
      obtain ⟨L, hL⟩ : ∃ L, encM ⟨q1, nb0, nb1, na, nt⟩ = L := ⟨_, rfl⟩
      rw [hL] at ho6 hll HF2
      have hgb := own_blk ho6 (k := g) rfl
      have hr6 : Rd w6 (some ⟨g, 0, none⟩) L := by
        obtain ⟨a4, c4, he4, -, -, hr4⟩ := ho6.rd
        rw [hll] at he4
        cases he4
        exact hr4
      have Hr6 := Lib.hid hr6
      have Hll := Lib.hid hll
      have HC6 := Lib.hid hC
      have Hg6 := Lib.hid hgb
      clear hb6 z0 z1 z2 z3 z4 He hL hll ho6 hr6 hC hgb HX5
      go_upto_region 14 with fail
      have hd0 : Drn w6 w6.drew := ⟨1, rfl⟩
      have hU6 := H.out.later HB6.out
      have HUd := Lib.hid (hU6.later (hd0.below _))
      have HXd := Lib.hid (HX6.out.drn hd0)
      have HBd := Lib.hid (HB6.out.trans (hd0.below _))
      have hI := hU6.i.m
      unfold I64 at hI
      have hup := hU6.up.m
      have hsz := hU6.ok.s1
      have hk := Hk.out
      obtain ⟨m1, hm1⟩ : ∃ m1, s.meta' + 1 = m1 := ⟨_, rfl⟩
      obtain ⟨kk, hkk⟩ : ∃ kk, m1 - k = kk := ⟨_, rfl⟩
      have e1 : IntKind.i64.wrap (s.meta' + 1) = m1 := by rw [IntWalk.i64_in _ (by omega)]; exact hm1
      have e2 : IntKind.i64.wrap (m1 - k) = kk := by rw [IntWalk.i64_in _ (by omega)]; exact hkk
      have hm0 : mayE f (s.meta' + 1 - k) = 0 := by unfold mayE; rw [Ho.out, if_neg (by decide), if_neg (by omega)]
      have Hwr := Lib.hid (writef_ok p mb n f (s.meta' + 1 - k) g 0 C L w6.drew HUd.out.fl hU6.ok (by unfold I64; omega) hm0 Hll.out (hd0.rd Hr6.out) HC6.out Hn.out.1 Hn.out.2.1 Hn.out.2.2 (by have := H.out.lt; have := Hg6.out; have := HB5.out.size; omega))
      have Hpo := Lib.hid (put_ok23 (f := f) (k := s.meta' + 1 - k) (l := L) hU6.ok Hll.out)
      rw [hm1, hkk] at Hwr Hpo HF2
      clear hU6 hI hup hsz hk hm0 hkk hm1
      refine wp_region_held_drew (S := fun w' => w'.cell? ⟨X, 3, none⟩ = some (.int .i64 na) ∧ UpX w' u p s) (by kernel_rfl) ⟨(Five.of HXd.out).c3, UpX.of HUd.out.h⟩ (fun hHeld => ?_)
      refine wpAnyH_take (i := 0) (v := ?_) (by simp only [List.getElem?_toArray, List.getElem?_cons_succ, List.getElem?_cons_zero]; rfl) (by kernel_rfl) (by kernel_rfl) (by kernel_rfl) (by intro _ _ _ h_; exact h_) (Or.inl ⟨by rfl, ?_⟩) (by assumption) ?_
      rotate_left 1
      focus (intro w_ hSw_; try go_simp; try with_reducible rfl)
      simp only [Act.put, List.setIfInBounds_toArray, List.set_cons_zero, List.set_cons_succ]
      refine wpAnyH_take (i := 1) (v := ?_) (by simp only [List.getElem?_toArray, List.getElem?_cons_succ, List.getElem?_cons_zero]; rfl) (by kernel_rfl) (by kernel_rfl) (by kernel_rfl) (by intro _ _ _ h_; exact h_) (Or.inl ⟨by rfl, ?_⟩) (by assumption) ?_
      rotate_left 1
      focus (intro w_ hSw_; obtain ⟨y9, y0, y1, y2, y3, y4⟩ := hSw_; try go_simp; try with_reducible rfl)
      simp only [Act.put, List.setIfInBounds_toArray, List.set_cons_zero, List.set_cons_succ]
      refine wpAnyH_take (i := 2) (v := ?_) (by simp only [List.getElem?_toArray, List.getElem?_cons_succ, List.getElem?_cons_zero]; rfl) (by kernel_rfl) (by kernel_rfl) (by kernel_rfl) (by intro _ _ _ h_; exact h_) (Or.inl ⟨by rfl, ?_⟩) (by assumption) ?_
      rotate_left 1
      focus (intro w_ hSw_; try go_simp; try with_reducible rfl)
      simp only [Act.put, List.setIfInBounds_toArray, List.set_cons_zero, List.set_cons_succ]
      refine wpAnyH_take (i := 3) (v := ?_) (by simp only [List.getElem?_toArray, List.getElem?_cons_succ, List.getElem?_cons_zero]; rfl) (by kernel_rfl) (by kernel_rfl) (by kernel_rfl) (by intro _ _ _ h_; exact h_) (Or.inl ⟨by rfl, ?_⟩) (by assumption) ?_
      rotate_left 1
      focus (intro w_ hSw_; try go_simp; try with_reducible rfl)
      simp only [Act.put, List.setIfInBounds_toArray, List.set_cons_zero, List.set_cons_succ]
      refine wpAnyH_take (i := 4) (v := ?_) (by simp only [List.getElem?_toArray, List.getElem?_cons_succ, List.getElem?_cons_zero]; rfl) (by kernel_rfl) (by kernel_rfl) (by kernel_rfl) (by intro _ _ _ h_; exact h_) (Or.inl ⟨by rfl, ?_⟩) (by assumption) ?_
      rotate_left 1
      focus (intro w_ hSw_; try go_simp; try with_reducible rfl)
      simp only [Act.put, List.setIfInBounds_toArray, List.set_cons_zero, List.set_cons_succ]
      refine wpAnyH_take (i := 5) (v := ?_) (by simp only [List.getElem?_toArray, List.getElem?_cons_succ, List.getElem?_cons_zero]; rfl) (by kernel_rfl) (by kernel_rfl) (by kernel_rfl) (by intro _ _ _ h_; exact h_) (Or.inl ⟨by rfl, ?_⟩) (by assumption) ?_
      rotate_left 1
      focus (intro w_ hSw_; obtain ⟨y9, y0, y1, y2, y3, y4⟩ := hSw_; try go_simp; try with_reducible rfl)
      simp only [Act.put, List.setIfInBounds_toArray, List.set_cons_zero, List.set_cons_succ]
      refine wpAnyH_take (i := 6) (v := ?_) (by simp only [List.getElem?_toArray, List.getElem?_cons_succ, List.getElem?_cons_zero]; rfl) (by kernel_rfl) (by kernel_rfl) (by kernel_rfl) (by intro _ _ _ h_; exact h_) (Or.inl ⟨by rfl, ?_⟩) (by assumption) ?_
      rotate_left 1
      focus (intro w_ hSw_; try go_simp; try with_reducible rfl)
      simp only [Act.put, List.setIfInBounds_toArray, List.set_cons_zero, List.set_cons_succ]
      refine wpAnyH_take (i := 7) (v := ?_) (by simp only [List.getElem?_toArray, List.getElem?_cons_succ, List.getElem?_cons_zero]; rfl) (by kernel_rfl) (by kernel_rfl) (by kernel_rfl) (by intro _ _ _ h_; exact h_) (Or.inl ⟨by rfl, ?_⟩) (by assumption) ?_
      rotate_left 1
      focus (intro w_ hSw_; try go_simp; try with_reducible rfl)
      simp only [Act.put, List.setIfInBounds_toArray, List.set_cons_zero, List.set_cons_succ]
      refine wpAnyH_take (i := 8) (v := ?_) (by simp only [List.getElem?_toArray, List.getElem?_cons_succ, List.getElem?_cons_zero]; rfl) (by kernel_rfl) (by kernel_rfl) (by kernel_rfl) (by intro _ _ _ h_; exact h_) (Or.inl ⟨by rfl, ?_⟩) (by assumption) ?_
      rotate_left 1
      focus (intro w_ hSw_; try go_simp; try with_reducible rfl)
      simp only [Act.put, List.setIfInBounds_toArray, List.set_cons_zero, List.set_cons_succ]
      refine wpAnyH_take (i := 9) (v := ?_) (by simp only [List.getElem?_toArray, List.getElem?_cons_succ, List.getElem?_cons_zero]; rfl) (by kernel_rfl) (by kernel_rfl) (by kernel_rfl) (by intro _ _ _ h_; exact h_) (Or.inl ⟨by rfl, ?_⟩) (by assumption) ?_
      rotate_left 1
      focus (intro w_ hSw_; obtain ⟨y9, y0, y1, y2, y3, y4⟩ := hSw_; try go_simp; try with_reducible rfl)
      simp only [Act.put, List.setIfInBounds_toArray, List.set_cons_zero, List.set_cons_succ]
      refine wpAnyH_take (i := 10) (v := ?_) (by simp only [List.getElem?_toArray, List.getElem?_cons_succ, List.getElem?_cons_zero]; rfl) (by kernel_rfl) (by kernel_rfl) (by kernel_rfl) (by intro _ _ _ h_; exact h_) (Or.inl ⟨by rfl, ?_⟩) (by assumption) ?_
      rotate_left 1
      focus (intro w_ hSw_; try go_simp; try with_reducible rfl)
      simp only [Act.put, List.setIfInBounds_toArray, List.set_cons_zero, List.set_cons_succ]
      refine wpAnyH_take (i := 11) (v := ?_) (by simp only [List.getElem?_toArray, List.getElem?_cons_succ, List.getElem?_cons_zero]; rfl) (by kernel_rfl) (by kernel_rfl) (by kernel_rfl) (by intro _ _ _ h_; exact h_) (Or.inl ⟨by rfl, ?_⟩) (by assumption) ?_
      rotate_left 1
      focus (intro w_ hSw_; try go_simp; try with_reducible rfl)
      simp only [Act.put, List.setIfInBounds_toArray, List.set_cons_zero, List.set_cons_succ]
      refine wpAnyH_take (i := 12) (v := ?_) (by simp only [List.getElem?_toArray, List.getElem?_cons_succ, List.getElem?_cons_zero]; rfl) (by kernel_rfl) (by kernel_rfl) (by kernel_rfl) (by intro _ _ _ h_; exact h_) (Or.inl ⟨by rfl, ?_⟩) (by assumption) ?_
      rotate_left 1
      focus (intro w_ hSw_; try go_simp; try with_reducible rfl)
      simp only [Act.put, List.setIfInBounds_toArray, List.set_cons_zero, List.set_cons_succ]
      refine wpAnyH_take (i := 13) (v := ?_) (by simp only [List.getElem?_toArray, List.getElem?_cons_succ, List.getElem?_cons_zero]; rfl) (by kernel_rfl) (by kernel_rfl) (by kernel_rfl) (by intro _ _ _ h_; exact h_) (Or.inl ⟨by rfl, ?_⟩) (by assumption) ?_
      rotate_left 1
      focus (intro w_ hSw_; try go_simp; try with_reducible rfl)
      simp only [Act.put, List.setIfInBounds_toArray, List.set_cons_zero, List.set_cons_succ]
      refine wpAnyH_ready (rs := [14]) (by kernel_rfl) (by simp) ?_
      refine AllReadyH.cons (by simp only [List.getElem?_toArray, List.getElem?_cons_succ, List.getElem?_cons_zero]; rfl) (fun K hK => ?_) AllReadyH.nil
      try go_simp
      refine Hwr.out.mono ?_
      rintro e w7 ⟨rfl, hfl7, hf7⟩
      have hX7 := HXd.out.frm hf7 (fun e => by have h1 := H.out.lt; have h2 := HXw.out; rcases e with e | e <;> omega)
      have hu7 := HUd.out.h.frm hf7 (fun e => e.elim H.out.n1 H.out.n2)
      have HUf := Lib.hid (show UpA w7 u p mb (n + 1) s (writeR f kk L).1 from ⟨hu7, hfl7, Hpo.out.1, by rw [Hpo.out.2.1]; exact H.out.up, H.out.i, H.out.n1, H.out.n2⟩)
      have HFr := Lib.hid (show Frm (fun q => q = p ∨ q = mb) w w7 from (Frm.later HBd.out).trans hf7)
      have HSS := Lib.hid (show w7.cell? ⟨X, 3, none⟩ = some (.int .i64 na) ∧ UpX w7 u p s from ⟨(Five.of hX7).c3, UpX.of hu7⟩)
      clear hHeld hX7 hu7 hfl7 hf7 HUd HXd HBd Hwr HX6 HB6 HB5
      go_wp2_with fail
      refine hK.out _ _ HSS.out (fun hHeld => ?_)
      clear hK K
      try simp only [Act.put, List.setIfInBounds_toArray, List.set_cons_zero, List.set_cons_succ]
      refine wpAnyH_take (i := 15) (v := ?_) (by simp only [List.getElem?_toArray, List.getElem?_cons_succ, List.getElem?_cons_zero]; rfl) (by kernel_rfl) (by kernel_rfl) (by kernel_rfl) (by intro _ _ _ h_; exact h_) (Or.inl ⟨by rfl, ?_⟩) (by assumption) ?_
      rotate_left 1
      focus (intro w_ hSw_; try go_simp; try with_reducible rfl)
      simp only [Act.put, List.setIfInBounds_toArray, List.set_cons_zero, List.set_cons_succ]
      refine wpAnyH_take (i := 16) (v := ?_) (by simp only [List.getElem?_toArray, List.getElem?_cons_succ, List.getElem?_cons_zero]; rfl) (by kernel_rfl) (by kernel_rfl) (by kernel_rfl) (by intro _ _ _ h_; exact h_) (Or.inl ⟨by rfl, ?_⟩) (by assumption) ?_
      rotate_left 1
      focus (intro w_ hSw_; try go_simp; try with_reducible rfl)
      simp only [Act.put, List.setIfInBounds_toArray, List.set_cons_zero, List.set_cons_succ]
      refine wpAnyH_done (by kernel_rfl) ?_ _
      clear hHeld
      go_wp2_with fail
      go_ret2
      rw [HF2.out]
      exact ⟨rfl, HUf.out, HFr.out⟩
end Go.Proofs.Ytnmeidmiijcniaa
