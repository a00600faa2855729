/- A script on both hashes: the walk, where what comes in is of bulk at most 1048576. -/
import Derived.Test.YtngkelflfahjbaaDoorShaPq
import Derived.Test.YtngkelflfahjbaaDoorShaPo
import Derived.Test.YtngkelflfahjbaaDoorShaA
import Derived.Test.YtngkelflfahjbaaDoorShaTab
import Derived.BigQuiet
namespace Go.Proofs.YtngkelflfahjbaaDoor.shaPlays
open Go.ChangeShapes Go.WideShapes Go.ChangeAt Go.RowKit
set_option linter.unusedVariables false
set_option linter.unusedSimpArgs false
attribute [local go_sem ↓] Go.wp_at_zero Go.wp_at_succ
set_option maxRecDepth 100000 in
set_option maxHeartbeats 1000000 in
theorem core (W : World) (bits : Int) (ao : Option Addr) (n cap : Nat) (ops : List OpT) (hl : ops.length = n) (hr : RdS otc 3 W ao ops) (hok : ∀ m ∈ ops, OpT.Ok W m) (hlen : ∀ m ∈ ops, m.l.length ≤ 1048576) (hn : n ≤ 1048576)
    (htab : TabOk W) (h00 : 0 < W.heap.size) :
    Calls Tryd.prog 8 #[.int .i64 bits, .slice ao n cap] W fun e w' => e = .returned (.bool true) ∧ Below W.heap.size W w' := by
  have Haw := Lib.hid (awake02_any W htab h00)
  have Hl := Lib.hid hl
  have Hr := Lib.hid hr
  have Hok := Lib.hid hok
  have Hlen := Lib.hid hlen
  have Hn := Lib.hid hn
  have Htab := Lib.hid htab
  have H00 := Lib.hid h00
  have hcs : (∃ k', (1 ≤ k' ∧ k' ≤ 3) ∧ bits = ((8 * digK k' : Nat) : Int)) ∨ (bits ≠ 256 ∧ bits ≠ 384 ∧ bits ≠ 512) := by
    by_cases e1 : bits = 256
    · exact .inl ⟨1, by decide, e1⟩
    · by_cases e2 : bits = 384
      · exact .inl ⟨2, by decide, e2⟩
      · by_cases e3 : bits = 512
        · exact .inl ⟨3, by decide, e3⟩
        · exact .inr ⟨e1, e2, e3⟩
  clear hl hr hok hlen hn htab h00
  go_enter Tryd.func8, Tryd.ntmps8
  go_wp2_with fail
  refine Haw.out.mono ?_
  rintro e w1 ⟨rfl, hb1⟩
  have Hb1 := Lib.hid hb1
  clear hb1 Haw
  rcases hcs with ⟨k', hk', hbits⟩ | ⟨b1, b2, b3⟩
  · have Hn1 := Lib.hid (new_any k' w1 hk')
    have Hn2 := Lib.hid (fun w' => rnew_any k' w' hk')
    rw [← hbits] at Hn1 Hn2
    have Hk' := Lib.hid hk'
    clear hk' hbits
    go_wp2_with fail
    as_aux_lemma =>
    refine Hn1.out.mono ?_
    rintro e w2 ⟨G1, rfl, hG1, hs1, hb2⟩
    have HG1 := Lib.hid hG1
    have Hs1 := Lib.hid hs1
    have Hb2 := Lib.hid hb2
    clear hG1 hs1 hb2 Hn1
    go_wp2_with fail
    refine (Hn2.out _).mono ?_
    rintro e w3 ⟨G2, rfl, hG2, hs2, hb3⟩
    have HT := Lib.hid (start_tw (c := 0) (d := 0) (fresh_pair (B := W.heap.size) Hk'.out (HG1.out.later hb3) hG2 (by have := Hb1.out.size; have := Hs1.out; omega) (by have := Hb1.out.size; have := Hb2.out.size; omega) (by have := HG1.out.lt; omega)) (Hb1.out.trans ((Hb2.out.trans (hb3.mono Hb2.out.size)).mono Hb1.out.size)) (by have := Hb1.out.size; have := Hb2.out.size; have := hb3.size; omega))
    clear hG2 hs2 hb3 Hn2 HG1 Hs1 Hb2
    go_upto_region 10 with fail
    as_aux_lemma =>
    obtain ⟨w4, h4⟩ : ∃ w4, w3.alloc (.cells #[.pointer (some ⟨G1, 0, none⟩), .pointer (some ⟨G2, 0, none⟩), .slice none 0 0, .slice none 0 0] 58) = w4 := ⟨_, rfl⟩
    have HT4 : Hid (PlIn W.heap.size w3.heap.size W n (.int .i64 (0 : Nat)) w4) := Lib.hid (by
      rw [← h4]
      exact ⟨0, _, _, _, Nat.zero_le _, Nat.zero_le _, rfl, ⟨_, _, _, _, _, _, _, _, HT.out, fun _ _ => id⟩⟩)
    rw [h4]
    generalize w3.heap.size = T at *
    clear HT h4
    go_loopw [11, 12] (fun i _ wr => PlIn W.heap.size T W n i wr) (fun i _ _ => n - (intOf i).toNat)
    case atStart => exact HT4.out
    case round =>
      as_aux_lemma =>
      clear HT4
      obtain ⟨t, lv, wv, es, ht, ht2, rfl, hE⟩ := hrel
      obtain ⟨H1, H2, k, st, N, va, vb, L, hT, -⟩ := hE.x
      have HT := Lib.hid hT
      clear hE hT
      by_cases hgo : t < n ∧ t < 200
      · obtain ⟨hlt, hl200⟩ := hgo
        have f1 : (t : Int) < (n : Int) := by omega
        have f2 : (t : Int) < 200 := by omega
        obtain ⟨m, hm⟩ : ∃ m, ops[t]? = some m := ⟨_, List.getElem?_eq_getElem (by rw [Hl.out]; exact hlt)⟩
        obtain ⟨b0, o0, hao, hb0, hcl⟩ := Hr.out t m hm
        have c0 : wr.cell? ⟨b0, o0 + t * 3, none⟩ = some (.int .i64 m.kind) := cell_later HT.out.v.bl (hcl 0 _ rfl)
        have c1 : wr.cell? ⟨b0, o0 + t * 3 + 1, none⟩ = some (.int .i64 m.bits) := cell_later HT.out.v.bl (hcl 1 _ rfl)
        have c2 : wr.cell? ⟨b0, o0 + t * 3 + 2, none⟩ = some (.slice m.ao m.l.length m.cap) := cell_later HT.out.v.bl (hcl 2 _ rfl)
        have hmm := List.mem_of_getElem? hm
        have hmok := Hok.out m hmm
        have Hst := Lib.hid (step_any HT.out (by omega) (by omega) Htab.out H00.out m.kind m.bits m.ao m.l.length m.cap m.l rfl (Hlen.out m hmm) hmok.c hmok.z hmok.r)
        subst hao
        clear hmok hmm hcl hm hb0
        go_wp2_with fail
        as_aux_lemma =>
        clear c0 c1 c2 HT
        refine Hst.out.mono ?_
        rintro e w5 ⟨rfl, lv', wv', es', hE⟩
        obtain ⟨H1', H2', k1, st', N', va', vb', L', hT, -⟩ := hE.x
        have HE := Lib.hid hE
        have HT := Lib.hid hT
        clear hE hT Hst
        obtain ⟨ua, uc, hvb, -, -, -, -, -⟩ := HT.out.v.h.ob.rd3
        have z0 : w5.cell? ⟨T, 0, none⟩ = some (.pointer (some ⟨H1', 0, none⟩)) := HT.out.t.cell (i := 0) rfl
        have z1 : w5.cell? ⟨T, 1, none⟩ = some (.pointer (some ⟨H2', 0, none⟩)) := HT.out.t.cell (i := 1) rfl
        have z0' := fun q => (HT.out.t.drn (⟨q, rfl⟩ : Drn w5 (w5.drewN q))).cell (i := 0) rfl
        have z1' := fun q => (HT.out.t.drn (⟨q, rfl⟩ : Drn w5 (w5.drewN q))).cell (i := 1) rfl
        have Hpl := Lib.hid (fun q => plen_any H1' k1 _ (N' + L'.length) va' (w5.drewN q) (HT.out.v.h.h1.drn ⟨q, rfl⟩))
        have Hrl := Lib.hid (fun q => rlen_any H2' k1 st' N' ua L'.length uc (w5.drewN q) (by have := HT.out.v.h.h2; rw [hvb] at this; exact this.drn ⟨q, rfl⟩) (by have := HT.out.v.h.n2; omega))
        clear hvb
        generalize N' + L'.length = z at *
        go_wp2_with fail
        go_quiet (first | (go_at_call 22; exact quiet_eq (Hpl.out _)) | (go_at_call 28; exact quiet_drn (Hrl.out _)))
        clear Hpl Hrl z0 z1 z0' z1'
        go_wp2_with fail
        first
        | (go_roundw
           case rel => exact ⟨t + 1, lv', wv', es', by omega, by omega, by go_num, ⟨_, _, _, _, _, _, _, _, HT.out.later ((⟨_, rfl⟩ : Drn w5 _).below _), fun _ _ => id⟩⟩
           case measure => (first | omega | (simp [intOf] <;> omega) | (simp only [intOf] <;> omega)))
        | exact ⟨⟨t + 1, lv', wv', es', by omega, by omega, by go_num, ⟨_, _, _, _, _, _, _, _, HT.out.later ((⟨_, rfl⟩ : Drn w5 _).below _), fun _ _ => id⟩⟩, by (first | omega | (simp [intOf] <;> omega) | (simp only [intOf] <;> omega))⟩
        | (refine ⟨?_, by (first | omega | (simp [intOf] <;> omega) | (simp only [intOf] <;> omega))⟩
           (repeat apply Exists.intro)
           refine (fun a b => And.intro b a) ?_ ?_
           · first | rfl | ((repeat refine ⟨rfl, ?_⟩); rfl)
           exact ⟨t + 1, lv', wv', es', by omega, by omega, by go_num, ⟨_, _, _, _, _, _, _, _, HT.out.later ((⟨_, rfl⟩ : Drn w5 _).below _), fun _ _ => id⟩⟩)
      · have hdone : (t < n ∧ ¬ t < 200) ∨ ¬ t < n := by omega
        have HF0 := Lib.hid (fin_start HT.out)
        have Hel : Hid (es.length ≤ 200) := Lib.hid (by have := HT.out.v.el; omega)
        obtain ⟨la, lc, wa, wc, rfl, rfl, hla⟩ := lst_form HT.out.v.l
        have Hla := Lib.hid hla
        clear hla HT hgo ht ht2
        rcases hdone with ⟨hx, hy⟩ | hx
        · have f1 : (t : Int) < (n : Int) := by omega
          have f2 : ¬ (t : Int) < 200 := by omega
          clear hx hy
          go_upto_region 16 with fail
          as_aux_lemma =>
          clear f1
          go_loopw [13, 14, 15] (fun i _ _ wx => FinIn W.heap.size T H1 H2 (.slice la es.length lc) (.slice wa es.length wc) es W i wx) (fun i _ _ _ => es.length - (intOf i).toNat)
          case atStart => exact ⟨0, Nat.zero_le _, rfl, HF0.out⟩
          case round =>
            as_aux_lemma =>
            clear HF0
            obtain ⟨i, hi, rfl, hF⟩ := hrel
            have HF := Lib.hid hF
            have k2 := hF.tt.cell (i := 2) rfl
            clear hF
            by_cases hie : i < es.length
            · have g1 : (i : Int) < (es.length : Int) := by omega
              obtain ⟨g, q, rfl, rfl⟩ := Hla.out (by omega)
              obtain ⟨e, he⟩ : ∃ e, es[i]? = some e := ⟨_, List.getElem?_eq_getElem hie⟩
              have He := Lib.hid he
              clear he Hla
              have hd0 : Drn wr wr.drew := ⟨1, rfl⟩
              have hFd := HF.out.drn hd0
              have y2 : wr.drew.cell? ⟨T, 2, none⟩ = some (.slice (some ⟨g, 0, none⟩) es.length lc) := hFd.tt.cell (i := 2) rfl
              have y3 : wr.drew.cell? ⟨T, 3, none⟩ = some (.slice (some ⟨q, 0, none⟩) es.length wc) := hFd.tt.cell (i := 3) rfl
              have yl : wr.drew.cell? ⟨g, i, none⟩ = some (.slice (some ⟨e.p, 0, none⟩) e.A.length e.C) := hFd.l g rfl i e (Nat.le_refl _) He.out
              have yr : wr.drew.cell? ⟨q, i, none⟩ = some (.slice (some ⟨e.q, 0, none⟩) e.A.length e.D) := hFd.r q rfl i e He.out
              have hoe := hFd.e i e (Nat.le_refl _) He.out
              have hm9 : e.A.length ≤ 9223372036854775807 := by have := hoe.s; omega
              have Hsm := Lib.hid (same2_true (some ⟨e.p, 0, none⟩) (some ⟨e.q, 0, none⟩) e.A.length e.A.length e.C e.D e.A e.A wr.drew rfl rfl rfl hm9 hm9 (ent_rd hoe).1 (ent_rd hoe).2)
              clear hFd hoe hm9 hd0
              go_upto_region 18 with fail
              as_aux_lemma =>
              refine wp_region_held_drew (S := fun w' => w'.cell? ⟨T, 2, none⟩ = some (.slice (some ⟨g, 0, none⟩) es.length lc) ∧ w'.cell? ⟨T, 3, none⟩ = some (.slice (some ⟨q, 0, none⟩) es.length wc) ∧ w'.cell? ⟨g, i, none⟩ = some (.slice (some ⟨e.p, 0, none⟩) e.A.length e.C) ∧ w'.cell? ⟨q, i, none⟩ = some (.slice (some ⟨e.q, 0, none⟩) e.A.length e.D)) (by kernel_rfl) ⟨y2, y3, yl, yr⟩ (fun hHeld => ?_)
              clear y2 y3 yl yr
              refine wpAnyH_take (i := 0) (v := ?_) (by simp only [List.getElem?_toArray, List.getElem?_cons_succ, List.getElem?_cons_zero]; rfl) (by kernel_rfl) (by kernel_rfl) (by kernel_rfl) (by intro _ _ _ h_; exact h_) (Or.inl ⟨by rfl, ?_⟩) (by assumption) ?_
              rotate_left 1
              focus (intro w_ hSw_; go_simp; try with_reducible rfl)
              simp only [Act.put, List.setIfInBounds_toArray, List.set_cons_zero, List.set_cons_succ]
              refine wpAnyH_take (i := 1) (v := ?_) (by simp only [List.getElem?_toArray, List.getElem?_cons_succ, List.getElem?_cons_zero]; rfl) (by kernel_rfl) (by kernel_rfl) (by kernel_rfl) (by intro _ _ _ h_; exact h_) (Or.inl ⟨by rfl, ?_⟩) (by assumption) ?_
              rotate_left 1
              focus (intro w_ hSw_; go_simp; try with_reducible rfl)
              simp only [Act.put, List.setIfInBounds_toArray, List.set_cons_zero, List.set_cons_succ]
              refine wpAnyH_take (i := 2) (v := ?_) (by simp only [List.getElem?_toArray, List.getElem?_cons_succ, List.getElem?_cons_zero]; rfl) (by kernel_rfl) (by kernel_rfl) (by kernel_rfl) (by intro _ _ _ h_; exact h_) (Or.inl ⟨by rfl, ?_⟩) (by assumption) ?_
              rotate_left 1
              focus (intro w_ hSw_; go_simp; try with_reducible rfl)
              simp only [Act.put, List.setIfInBounds_toArray, List.set_cons_zero, List.set_cons_succ]
              refine wpAnyH_take (i := 3) (v := ?_) (by simp only [List.getElem?_toArray, List.getElem?_cons_succ, List.getElem?_cons_zero]; rfl) (by kernel_rfl) (by kernel_rfl) (by kernel_rfl) (by intro _ _ _ h_; exact h_) (Or.inl ⟨by rfl, ?_⟩) (by assumption) ?_
              rotate_left 1
              focus (intro w_ hSw_; go_simp; try with_reducible rfl)
              simp only [Act.put, List.setIfInBounds_toArray, List.set_cons_zero, List.set_cons_succ]
              refine wpAnyH_take (i := 4) (v := ?_) (by simp only [List.getElem?_toArray, List.getElem?_cons_succ, List.getElem?_cons_zero]; rfl) (by kernel_rfl) (by kernel_rfl) (by kernel_rfl) (by intro _ _ _ h_; exact h_) (Or.inl ⟨by rfl, ?_⟩) (by assumption) ?_
              rotate_left 1
              focus (intro w_ hSw_; go_simp; try with_reducible rfl)
              simp only [Act.put, List.setIfInBounds_toArray, List.set_cons_zero, List.set_cons_succ]
              refine wpAnyH_take (i := 5) (v := ?_) (by simp only [List.getElem?_toArray, List.getElem?_cons_succ, List.getElem?_cons_zero]; rfl) (by kernel_rfl) (by kernel_rfl) (by kernel_rfl) (by intro _ _ _ h_; exact h_) (Or.inl ⟨by rfl, ?_⟩) (by assumption) ?_
              rotate_left 1
              focus (intro w_ hSw_; go_simp; try with_reducible rfl)
              simp only [Act.put, List.setIfInBounds_toArray, List.set_cons_zero, List.set_cons_succ]
              refine wpAnyH_take (i := 6) (v := ?_) (by simp only [List.getElem?_toArray, List.getElem?_cons_succ, List.getElem?_cons_zero]; rfl) (by kernel_rfl) (by kernel_rfl) (by kernel_rfl) (by intro _ _ _ h_; exact h_) (Or.inl ⟨by rfl, ?_⟩) (by assumption) ?_
              rotate_left 1
              focus (intro w_ hSw_; go_simp; try with_reducible rfl)
              simp only [Act.put, List.setIfInBounds_toArray, List.set_cons_zero, List.set_cons_succ]
              refine wpAnyH_take (i := 7) (v := ?_) (by simp only [List.getElem?_toArray, List.getElem?_cons_succ, List.getElem?_cons_zero]; rfl) (by kernel_rfl) (by kernel_rfl) (by kernel_rfl) (by intro _ _ _ h_; exact h_) (Or.inl ⟨by rfl, ?_⟩) (by assumption) ?_
              rotate_left 1
              focus (intro w_ hSw_; go_simp; try with_reducible rfl)
              simp only [Act.put, List.setIfInBounds_toArray, List.set_cons_zero, List.set_cons_succ]
              refine wpAnyH_take (i := 8) (v := ?_) (by simp only [List.getElem?_toArray, List.getElem?_cons_succ, List.getElem?_cons_zero]; rfl) (by kernel_rfl) (by kernel_rfl) (by kernel_rfl) (by intro _ _ _ h_; exact h_) (Or.inl ⟨by rfl, ?_⟩) (by assumption) ?_
              rotate_left 1
              focus (intro w_ hSw_; go_simp; try with_reducible rfl)
              simp only [Act.put, List.setIfInBounds_toArray, List.set_cons_zero, List.set_cons_succ]
              refine wpAnyH_take (i := 9) (v := ?_) (by simp only [List.getElem?_toArray, List.getElem?_cons_succ, List.getElem?_cons_zero]; rfl) (by kernel_rfl) (by kernel_rfl) (by kernel_rfl) (by intro _ _ _ h_; exact h_) (Or.inl ⟨by rfl, ?_⟩) (by assumption) ?_
              rotate_left 1
              focus (intro w_ hSw_; go_simp; try with_reducible rfl)
              simp only [Act.put, List.setIfInBounds_toArray, List.set_cons_zero, List.set_cons_succ]
              refine wpAnyH_take (i := 10) (v := ?_) (by simp only [List.getElem?_toArray, List.getElem?_cons_succ, List.getElem?_cons_zero]; rfl) (by kernel_rfl) (by kernel_rfl) (by kernel_rfl) (by intro _ _ _ h_; exact h_) (Or.inl ⟨by rfl, ?_⟩) (by assumption) ?_
              rotate_left 1
              focus (intro w_ hSw_; go_simp; try with_reducible rfl)
              simp only [Act.put, List.setIfInBounds_toArray, List.set_cons_zero, List.set_cons_succ]
              refine wpAnyH_take (i := 11) (v := ?_) (by simp only [List.getElem?_toArray, List.getElem?_cons_succ, List.getElem?_cons_zero]; rfl) (by kernel_rfl) (by kernel_rfl) (by kernel_rfl) (by intro _ _ _ h_; exact h_) (Or.inl ⟨by rfl, ?_⟩) (by assumption) ?_
              rotate_left 1
              focus (intro w_ hSw_; go_simp; try with_reducible rfl)
              simp only [Act.put, List.setIfInBounds_toArray, List.set_cons_zero, List.set_cons_succ]
              refine wpAnyH_take (i := 12) (v := ?_) (by simp only [List.getElem?_toArray, List.getElem?_cons_succ, List.getElem?_cons_zero]; rfl) (by kernel_rfl) (by kernel_rfl) (by kernel_rfl) (by intro _ _ _ h_; exact h_) (Or.inl ⟨by rfl, ?_⟩) (by assumption) ?_
              rotate_left 1
              focus (intro w_ hSw_; go_simp; try with_reducible rfl)
              simp only [Act.put, List.setIfInBounds_toArray, List.set_cons_zero, List.set_cons_succ]
              refine wpAnyH_take (i := 13) (v := ?_) (by simp only [List.getElem?_toArray, List.getElem?_cons_succ, List.getElem?_cons_zero]; rfl) (by kernel_rfl) (by kernel_rfl) (by kernel_rfl) (by intro _ _ _ h_; exact h_) (Or.inl ⟨by rfl, ?_⟩) (by assumption) ?_
              rotate_left 1
              focus (intro w_ hSw_; go_simp; try with_reducible rfl)
              simp only [Act.put, List.setIfInBounds_toArray, List.set_cons_zero, List.set_cons_succ]
              refine wpAnyH_ready (rs := [14]) (by kernel_rfl) (by simp) ?_
              refine AllReadyH.cons (by simp only [List.getElem?_toArray, List.getElem?_cons_succ, List.getElem?_cons_zero]; rfl) (fun K hK => ?_) AllReadyH.nil
              go_simp
              refine Hsm.out.mono ?_
              rintro ex w5 ⟨rfl, hd5⟩
              have HF5 := Lib.hid (HF.out.drn ((⟨1, rfl⟩ : Drn wr wr.drew).trans hd5))
              have y2 : w5.cell? ⟨T, 2, none⟩ = some (.slice (some ⟨g, 0, none⟩) es.length lc) := HF5.out.tt.cell (i := 2) rfl
              have y3 : w5.cell? ⟨T, 3, none⟩ = some (.slice (some ⟨q, 0, none⟩) es.length wc) := HF5.out.tt.cell (i := 3) rfl
              have yl : w5.cell? ⟨g, i, none⟩ = some (.slice (some ⟨e.p, 0, none⟩) e.A.length e.C) := HF5.out.l g rfl i e (Nat.le_refl _) He.out
              have yr : w5.cell? ⟨q, i, none⟩ = some (.slice (some ⟨e.q, 0, none⟩) e.A.length e.D) := HF5.out.r q rfl i e He.out
              clear hHeld hd5 Hsm HF k2
              go_wp2_with fail
              refine hK.out _ _ ⟨y2, y3, yl, yr⟩ (fun hHeld => ?_)
              clear hK K
              try simp only [Act.put, List.setIfInBounds_toArray, List.set_cons_zero, List.set_cons_succ]
              refine wpAnyH_take (i := 15) (v := ?_) (by simp only [List.getElem?_toArray, List.getElem?_cons_succ, List.getElem?_cons_zero]; rfl) (by kernel_rfl) (by kernel_rfl) (by kernel_rfl) (by intro _ _ _ h_; exact h_) (Or.inl ⟨by rfl, ?_⟩) (by assumption) ?_
              rotate_left 1
              focus (intro w_ hSw_; go_simp; try with_reducible rfl)
              simp only [Act.put, List.setIfInBounds_toArray, List.set_cons_zero, List.set_cons_succ]
              refine wpAnyH_done (by kernel_rfl) ?_ _
              clear hHeld
              have Hoe := Lib.hid (HF5.out.e i e (Nat.le_refl _) He.out)
              have Hgp : Hid (g ≠ e.p ∧ T ≠ e.p) := Lib.hid ⟨(HF5.out.nl e (List.mem_of_getElem? He.out) g (.inl rfl)).1, fun e1 => HF5.out.nt (.inr (.inr ⟨e, List.mem_of_getElem? He.out, .inl e1⟩))⟩
              have Hgl : Hid (g < w5.heap.size ∧ T < w5.heap.size) := Lib.hid ⟨(HF5.out.ll g (.inl rfl)).2, HF5.out.tt.lt⟩
              clear y3 yr
              go_upto_region 22 with fail
              as_aux_lemma =>
              have Hy := Lib.hid (And.intro y2 yl)
              clear y2 yl
              go_loopw [15] (fun k wx => FilK W.heap.size e.p e.A.length e.C w5 k wx) (fun k _ => e.A.length - (intOf k).toNat)
              case atStart => exact ⟨0, e.A, Nat.zero_le _, rfl, rfl, Hoe.out.p, Frm.refl _ _⟩
              case round =>
                as_aux_lemma =>
                have hs9 := Hoe.out.s
                clear Hoe
                obtain ⟨j, lj, hj, hlj, rfl, hoj, hfj⟩ := hrel
                have y2 := frm_cell Hy.out.1 hfj Hgl.out.2 (fun e1 => Hgp.out.2 e1)
                have yl := frm_cell Hy.out.2 hfj Hgl.out.1 (fun e1 => Hgp.out.1 e1)
                by_cases hjn : j < e.A.length
                · have i1 : (j : Int) < (e.A.length : Int) := by omega
                  obtain ⟨-, -, -, -, -, hc, hfz⟩ := hoj.at
                  have hct := hc j (by omega)
                  have hft := hfz j
                  have Hstep := Lib.hid (filk_step hoj hlj hfj j hjn 7)
                  have Hlj := Lib.hid hlj
                  clear hc hfz hoj hfj hlj
                  go_wp2_with fail
                  first
                  | (go_roundw
                     case rel => exact ⟨j + 1, _, by omega, by rw [List.length_set]; exact Hlj.out, by go_num, Hstep.out.1, Hstep.out.2⟩
                     case measure => (first | omega | (simp [intOf] <;> omega) | (simp only [intOf] <;> omega)))
                  | exact ⟨⟨j + 1, _, by omega, by rw [List.length_set]; exact Hlj.out, by go_num, Hstep.out.1, Hstep.out.2⟩, by (first | omega | (simp [intOf] <;> omega) | (simp only [intOf] <;> omega))⟩
                  | (refine ⟨?_, by (first | omega | (simp [intOf] <;> omega) | (simp only [intOf] <;> omega))⟩
                     (repeat apply Exists.intro)
                     refine (fun a b => And.intro b a) ?_ ?_
                     · first | rfl | ((repeat refine ⟨rfl, ?_⟩); rfl)
                     exact ⟨j + 1, _, by omega, by rw [List.length_set]; exact Hlj.out, by go_num, Hstep.out.1, Hstep.out.2⟩)
                · have i1 : ¬ (j : Int) < (e.A.length : Int) := by omega
                  have HO := Lib.hid hoj
                  have HFj := Lib.hid (HF5.out.over He.out hfj)
                  have HYl := Lib.hid yl
                  have Hlj := Lib.hid hlj
                  clear hoj hfj Hy HF5 hlj
                  have hd1 : Drn wr wr.drew := ⟨1, rfl⟩
                  have HO1 := Lib.hid (HO.out.later (hd1.below _))
                  have HF1 := Lib.hid (HFj.out.drn hd1)
                  have y2d : wr.drew.cell? ⟨T, 2, none⟩ = some (.slice (some ⟨g, 0, none⟩) es.length lc) := HF1.out.tt.cell (i := 2) rfl
                  have yld : wr.drew.cell? ⟨g, i, none⟩ = some (.slice (some ⟨e.p, 0, none⟩) e.A.length e.C) := frm_cell HYl.out (Frm.drn (K := fun _ => False) hd1) (HFj.out.ll g (.inl rfl)).2 id
                  obtain ⟨wd, hwd⟩ : ∃ wd, (wr.alloc (.cells #[.int .u8 7, .int .u8 7] 5)).drew = wd := ⟨_, rfl⟩
                  have hbd : Below wr.heap.size wr wd := by
                    rw [← hwd]
                    exact ((Below.refl _ wr).alloc (Nat.le_refl _) _).trans (((⟨1, rfl⟩ : Drn (wr.alloc (.cells #[.int .u8 7, .int .u8 7] 5)) (wr.alloc (.cells #[.int .u8 7, .int .u8 7] 5)).drew)).below _)
                  have HOa := Lib.hid (HO.out.later hbd)
                  have HFa := Lib.hid (HFj.out.frm (K := fun _ => False) (Frm.later hbd) (fun _ => False.elim) id (fun _ _ => id) (fun _ _ _ _ => ⟨id, id⟩))
                  have Hra : Hid (Rd wd (some ⟨wr.heap.size, 0, none⟩) [7, 7]) := Lib.hid (by
                    rw [← hwd]
                    exact (⟨1, rfl⟩ : Drn (wr.alloc (.cells #[.int .u8 7, .int .u8 7] 5)) (wr.alloc (.cells #[.int .u8 7, .int .u8 7] 5)).drew).rd (Rd.new wr [7, 7] _ _))
                  have y2a : wd.cell? ⟨T, 2, none⟩ = some (.slice (some ⟨g, 0, none⟩) es.length lc) := HFa.out.tt.cell (i := 2) rfl
                  have yla : wd.cell? ⟨g, i, none⟩ = some (.slice (some ⟨e.p, 0, none⟩) e.A.length e.C) := frm_cell HYl.out (Frm.later (K := fun _ => False) hbd) (HFj.out.ll g (.inl rfl)).2 id
                  have Hs9 := Lib.hid hs9
                  clear HO HFj HYl hd1 HO1 HF1 hbd hs9 hj hjn
                  go_upto_region 25 with fail
                  as_aux_lemma =>
                  refine wp_region_held_drew (S := fun w' => w'.cell? ⟨T, 2, none⟩ = some (.slice (some ⟨g, 0, none⟩) es.length lc)) (by kernel_rfl) y2d (fun hHeld => ?_)
                  clear y2 yl
                  refine wpAnyH_take (i := 0) (v := ?_) (by simp only [List.getElem?_toArray, List.getElem?_cons_succ, List.getElem?_cons_zero]; rfl) (by kernel_rfl) (by kernel_rfl) (by kernel_rfl) (by intro _ _ _ h_; exact h_) (Or.inl ⟨by rfl, ?_⟩) (by assumption) ?_
                  rotate_left 1
                  focus (intro w_ hSw_; go_simp; try with_reducible rfl)
                  simp only [Act.put, List.setIfInBounds_toArray, List.set_cons_zero, List.set_cons_succ]
                  refine wpAnyH_take (i := 1) (v := ?_) (by simp only [List.getElem?_toArray, List.getElem?_cons_succ, List.getElem?_cons_zero]; rfl) (by kernel_rfl) (by kernel_rfl) (by kernel_rfl) (by intro _ _ _ h_; exact h_) (Or.inl ⟨by rfl, ?_⟩) (by assumption) ?_
                  rotate_left 1
                  focus (intro w_ hSw_; go_simp; try with_reducible rfl)
                  simp only [Act.put, List.setIfInBounds_toArray, List.set_cons_zero, List.set_cons_succ]
                  refine wpAnyH_take (i := 2) (v := ?_) (by simp only [List.getElem?_toArray, List.getElem?_cons_succ, List.getElem?_cons_zero]; rfl) (by kernel_rfl) (by kernel_rfl) (by kernel_rfl) (by intro _ _ _ h_; exact h_) (Or.inl ⟨by rfl, ?_⟩) (by assumption) ?_
                  rotate_left 1
                  focus (intro w_ hSw_; go_simp; try with_reducible rfl)
                  simp only [Act.put, List.setIfInBounds_toArray, List.set_cons_zero, List.set_cons_succ]
                  refine wpAnyH_take (i := 3) (v := ?_) (by simp only [List.getElem?_toArray, List.getElem?_cons_succ, List.getElem?_cons_zero]; rfl) (by kernel_rfl) (by kernel_rfl) (by kernel_rfl) (by intro _ _ _ h_; exact h_) (Or.inl ⟨by rfl, ?_⟩) (by assumption) ?_
                  rotate_left 1
                  focus (intro w_ hSw_; go_simp; try with_reducible rfl)
                  simp only [Act.put, List.setIfInBounds_toArray, List.set_cons_zero, List.set_cons_succ]
                  refine wpAnyH_take (i := 4) (v := ?_) (by simp only [List.getElem?_toArray, List.getElem?_cons_succ, List.getElem?_cons_zero]; rfl) (by kernel_rfl) (by kernel_rfl) (by kernel_rfl) (by intro _ _ _ h_; exact h_) (Or.inl ⟨by rfl, ?_⟩) (by assumption) ?_
                  rotate_left 1
                  focus (intro w_ hSw_; go_simp; try with_reducible rfl)
                  simp only [Act.put, List.setIfInBounds_toArray, List.set_cons_zero, List.set_cons_succ]
                  refine wpAnyH_take (i := 5) (v := ?_) (by simp only [List.getElem?_toArray, List.getElem?_cons_succ, List.getElem?_cons_zero]; rfl) (by kernel_rfl) (by kernel_rfl) (by kernel_rfl) (by intro _ _ _ h_; exact h_) (Or.inl ⟨by rfl, ?_⟩) (by assumption) ?_
                  rotate_left 1
                  focus (intro w_ hSw_; go_simp; try with_reducible rfl)
                  simp only [Act.put, List.setIfInBounds_toArray, List.set_cons_zero, List.set_cons_succ]
                  refine wpAnyH_take (i := 6) (v := ?_) (by simp only [List.getElem?_toArray, List.getElem?_cons_succ, List.getElem?_cons_zero]; rfl) (by kernel_rfl) (by kernel_rfl) (by kernel_rfl) (by intro _ _ _ h_; exact h_) (Or.inl ⟨by rfl, ?_⟩) (by assumption) ?_
                  rotate_left 1
                  focus (intro w_ hSw_; go_simp; try with_reducible rfl)
                  simp only [Act.put, List.setIfInBounds_toArray, List.set_cons_zero, List.set_cons_succ]
                  refine wpAnyH_take (i := 7) (v := ?_) (by simp only [List.getElem?_toArray, List.getElem?_cons_succ, List.getElem?_cons_zero]; rfl) (by kernel_rfl) (by kernel_rfl) (by kernel_rfl) (by intro _ _ _ h_; exact h_) (Or.inl ⟨by rfl, ?_⟩) (by assumption) ?_
                  rotate_left 1
                  focus (intro w_ hSw_; go_simp; try with_reducible rfl)
                  simp only [Act.put, List.setIfInBounds_toArray, List.set_cons_zero, List.set_cons_succ]
                  refine wpAnyH_take (i := 8) (v := ?_) (by simp only [List.getElem?_toArray, List.getElem?_cons_succ, List.getElem?_cons_zero]; rfl) (by kernel_rfl) (by kernel_rfl) (by kernel_rfl) (by intro _ _ _ h_; exact h_) (Or.inl ⟨by rfl, ?_⟩) (by assumption) ?_
                  rotate_left 1
                  focus (intro w_ hSw_; go_simp; try with_reducible rfl)
                  simp only [Act.put, List.setIfInBounds_toArray, List.set_cons_zero, List.set_cons_succ]
                  refine wpAnyH_take (i := 9) (v := ?_) (by simp only [List.getElem?_toArray, List.getElem?_cons_succ, List.getElem?_cons_zero]; rfl) (by kernel_rfl) (by kernel_rfl) (by kernel_rfl) (by intro _ _ _ h_; exact h_) (Or.inl ⟨by rfl, ?_⟩) (by assumption) ?_
                  rotate_left 1
                  focus (intro w_ hSw_; go_simp; try with_reducible rfl)
                  simp only [Act.put, List.setIfInBounds_toArray, List.set_cons_zero, List.set_cons_succ]
                  refine wpAnyH_take (i := 10) (v := ?_) (by simp only [List.getElem?_toArray, List.getElem?_cons_succ, List.getElem?_cons_zero]; rfl) (by kernel_rfl) (by kernel_rfl) (by kernel_rfl) (by intro _ _ _ h_; exact h_) (Or.inl ⟨by rfl, ?_⟩) (by assumption) ?_
                  rotate_left 1
                  focus (intro w_ hSw_; go_simp; try with_reducible rfl)
                  simp only [Act.put, List.setIfInBounds_toArray, List.set_cons_zero, List.set_cons_succ]
                  refine wpAnyH_ready (rs := [11, 12]) (by kernel_rfl) (by simp) ?_
                  refine AllReadyH.cons (by simp only [List.getElem?_toArray, List.getElem?_cons_succ, List.getElem?_cons_zero]; rfl) (fun K hK => ?_) (AllReadyH.cons (by simp only [List.getElem?_toArray, List.getElem?_cons_succ, List.getElem?_cons_zero]; rfl) (fun K hK => ?_) AllReadyH.nil)
                  · go_simp
                    refine hK.out _ _ y2d (fun hHeld => ?_)
                    clear hK K
                    try simp only [Act.put, List.setIfInBounds_toArray, List.set_cons_zero, List.set_cons_succ]
                    refine wpAnyH_ready (rs := [12]) (by kernel_rfl) (by simp) ?_
                    refine AllReadyH.cons (by simp only [List.getElem?_toArray, List.getElem?_cons_succ, List.getElem?_cons_zero]; rfl) (fun K hK => ?_) AllReadyH.nil
                    go_simp
                    refine hK.out _ _ y2a (fun hHeld => ?_)
                    clear hK K
                    try simp only [Act.put, List.setIfInBounds_toArray, List.set_cons_zero, List.set_cons_succ]
                    refine wpAnyH_ready (rs := [13]) (by kernel_rfl) (by simp) ?_
                    refine AllReadyH.cons (by simp only [List.getElem?_toArray, List.getElem?_cons_succ, List.getElem?_cons_zero]; rfl) (fun K hK => ?_) AllReadyH.nil
                    refine step_of_wp rfl (wp_append_gr byteRow02 _ _ rfl W.heap.size (.slice (some ⟨e.p, 0, none⟩) e.A.length e.C) lj rfl HOa.out (some ⟨wr.heap.size, 0, none⟩) 2 2 [7, 7] rfl rfl Hra.out (fun h => by cases h) (by rw [Hlj.out]; have := Hs9.out; omega) HFa.out.sz (fun v7 w7 ho7 hg7 => ?_))
                    have hf7 : Frm (fun q => q = e.p) wd w7 := Frm.grown hg7.g (fun k h => (Option.some.inj h).symm)
                    have Hpt := Lib.hid ((HFa.out.frm hf7 (fun q h => by subst h; exact (own_blk HOa.out rfl).1) Hgp.out.2 (fun x hx => (HFa.out.nl e (List.mem_of_getElem? He.out) x hx).1) (fun j x hj hx => ovr_ne HFa.out He.out hj hx)).put (g := g) rfl v7)
                    have y2b : w7.cell? ⟨T, 2, none⟩ = some (.slice (some ⟨g, 0, none⟩) es.length lc) := frm_cell y2a hf7 HFa.out.tt.lt Hgp.out.2
                    have ylb : w7.cell? ⟨g, i, none⟩ = some (.slice (some ⟨e.p, 0, none⟩) e.A.length e.C) := frm_cell yla hf7 (HFa.out.ll g (.inl rfl)).2 Hgp.out.1
                    have flb : w7.frozen? ⟨g, i, none⟩ = false := frm_frozen (HFa.out.f g rfl i) hf7 (HFa.out.ll g (.inl rfl)).2 Hgp.out.1
                    have y2c : (w7.setCell ⟨g, i, none⟩ v7).cell? ⟨T, 2, none⟩ = some (.slice (some ⟨g, 0, none⟩) es.length lc) := Hpt.out.tt.cell (i := 2) rfl
                    obtain ⟨a7, c7, rfl, -⟩ := ho7.rd3
                    clear ho7 hg7 hf7
                    generalize (lj ++ [7, 7]).length = n7 at *
                    refine hK.out _ _ y2b (fun hHeld => ?_)
                    clear hK K
                    try simp only [Act.put, List.setIfInBounds_toArray, List.set_cons_zero, List.set_cons_succ]
                    refine wpAnyH_take (i := 14) (v := ?_) (by simp only [List.getElem?_toArray, List.getElem?_cons_succ, List.getElem?_cons_zero]; rfl) (by kernel_rfl) (by kernel_rfl) (by kernel_rfl) (by intro _ _ _ h_; exact h_) (Or.inl ⟨by rfl, ?_⟩) (by assumption) ?_
                    rotate_left 1
                    focus (intro w_ hSw_; go_simp; try with_reducible rfl)
                    simp only [Act.put, List.setIfInBounds_toArray, List.set_cons_zero, List.set_cons_succ]
                    refine wpAnyH_ready (rs := [15]) (by kernel_rfl) (by simp) ?_
                    refine AllReadyH.cons (by simp only [List.getElem?_toArray, List.getElem?_cons_succ, List.getElem?_cons_zero]; rfl) (fun K hK => ?_) AllReadyH.nil
                    go_simp
                    refine hK.out _ _ y2c (fun hHeld => ?_)
                    clear hK K
                    try simp only [Act.put, List.setIfInBounds_toArray, List.set_cons_zero, List.set_cons_succ]
                    refine wpAnyH_done (by kernel_rfl) ?_ _
                    clear hHeld y2b ylb flb y2c y2a yla y2d yld
                    generalize w7.setCell _ _ = w8 at *
                    have hel9 := Hel.out
                    go_wp2_with fail
                    first
                    | (go_roundw
                       case rel => exact ⟨i + 1, hie, by go_num, Hpt.out⟩
                       case measure => (first | omega | (simp [intOf] <;> omega) | (simp only [intOf] <;> omega)))
                    | exact ⟨⟨i + 1, hie, by go_num, Hpt.out⟩, by (first | omega | (simp [intOf] <;> omega) | (simp only [intOf] <;> omega))⟩
                    | (refine ⟨?_, by (first | omega | (simp [intOf] <;> omega) | (simp only [intOf] <;> omega))⟩
                       (repeat apply Exists.intro)
                       refine (fun a b => And.intro b a) ?_ ?_
                       · first | rfl | ((repeat refine ⟨rfl, ?_⟩); rfl)
                       exact ⟨i + 1, hie, by go_num, Hpt.out⟩)
                  · go_simp
                    refine hK.out _ _ y2a (fun hHeld => ?_)
                    clear hK K
                    try simp only [Act.put, List.setIfInBounds_toArray, List.set_cons_zero, List.set_cons_succ]
                    refine wpAnyH_ready (rs := [11]) (by kernel_rfl) (by simp) ?_
                    refine AllReadyH.cons (by simp only [List.getElem?_toArray, List.getElem?_cons_succ, List.getElem?_cons_zero]; rfl) (fun K hK => ?_) AllReadyH.nil
                    go_simp
                    refine hK.out _ _ y2a (fun hHeld => ?_)
                    clear hK K
                    try simp only [Act.put, List.setIfInBounds_toArray, List.set_cons_zero, List.set_cons_succ]
                    refine wpAnyH_ready (rs := [13]) (by kernel_rfl) (by simp) ?_
                    refine AllReadyH.cons (by simp only [List.getElem?_toArray, List.getElem?_cons_succ, List.getElem?_cons_zero]; rfl) (fun K hK => ?_) AllReadyH.nil
                    refine step_of_wp rfl (wp_append_gr byteRow02 _ _ rfl W.heap.size (.slice (some ⟨e.p, 0, none⟩) e.A.length e.C) lj rfl HOa.out (some ⟨wr.heap.size, 0, none⟩) 2 2 [7, 7] rfl rfl Hra.out (fun h => by cases h) (by rw [Hlj.out]; have := Hs9.out; omega) HFa.out.sz (fun v7 w7 ho7 hg7 => ?_))
                    have hf7 : Frm (fun q => q = e.p) wd w7 := Frm.grown hg7.g (fun k h => (Option.some.inj h).symm)
                    have Hpt := Lib.hid ((HFa.out.frm hf7 (fun q h => by subst h; exact (own_blk HOa.out rfl).1) Hgp.out.2 (fun x hx => (HFa.out.nl e (List.mem_of_getElem? He.out) x hx).1) (fun j x hj hx => ovr_ne HFa.out He.out hj hx)).put (g := g) rfl v7)
                    have y2b : w7.cell? ⟨T, 2, none⟩ = some (.slice (some ⟨g, 0, none⟩) es.length lc) := frm_cell y2a hf7 HFa.out.tt.lt Hgp.out.2
                    have ylb : w7.cell? ⟨g, i, none⟩ = some (.slice (some ⟨e.p, 0, none⟩) e.A.length e.C) := frm_cell yla hf7 (HFa.out.ll g (.inl rfl)).2 Hgp.out.1
                    have flb : w7.frozen? ⟨g, i, none⟩ = false := frm_frozen (HFa.out.f g rfl i) hf7 (HFa.out.ll g (.inl rfl)).2 Hgp.out.1
                    have y2c : (w7.setCell ⟨g, i, none⟩ v7).cell? ⟨T, 2, none⟩ = some (.slice (some ⟨g, 0, none⟩) es.length lc) := Hpt.out.tt.cell (i := 2) rfl
                    obtain ⟨a7, c7, rfl, -⟩ := ho7.rd3
                    clear ho7 hg7 hf7
                    generalize (lj ++ [7, 7]).length = n7 at *
                    refine hK.out _ _ y2b (fun hHeld => ?_)
                    clear hK K
                    try simp only [Act.put, List.setIfInBounds_toArray, List.set_cons_zero, List.set_cons_succ]
                    refine wpAnyH_take (i := 14) (v := ?_) (by simp only [List.getElem?_toArray, List.getElem?_cons_succ, List.getElem?_cons_zero]; rfl) (by kernel_rfl) (by kernel_rfl) (by kernel_rfl) (by intro _ _ _ h_; exact h_) (Or.inl ⟨by rfl, ?_⟩) (by assumption) ?_
                    rotate_left 1
                    focus (intro w_ hSw_; go_simp; try with_reducible rfl)
                    simp only [Act.put, List.setIfInBounds_toArray, List.set_cons_zero, List.set_cons_succ]
                    refine wpAnyH_ready (rs := [15]) (by kernel_rfl) (by simp) ?_
                    refine AllReadyH.cons (by simp only [List.getElem?_toArray, List.getElem?_cons_succ, List.getElem?_cons_zero]; rfl) (fun K hK => ?_) AllReadyH.nil
                    go_simp
                    refine hK.out _ _ y2c (fun hHeld => ?_)
                    clear hK K
                    try simp only [Act.put, List.setIfInBounds_toArray, List.set_cons_zero, List.set_cons_succ]
                    refine wpAnyH_done (by kernel_rfl) ?_ _
                    clear hHeld y2b ylb flb y2c y2a yla y2d yld
                    generalize w7.setCell _ _ = w8 at *
                    have hel9 := Hel.out
                    go_wp2_with fail
                    first
                    | (go_roundw
                       case rel => exact ⟨i + 1, hie, by go_num, Hpt.out⟩
                       case measure => (first | omega | (simp [intOf] <;> omega) | (simp only [intOf] <;> omega)))
                    | exact ⟨⟨i + 1, hie, by go_num, Hpt.out⟩, by (first | omega | (simp [intOf] <;> omega) | (simp only [intOf] <;> omega))⟩
                    | (refine ⟨?_, by (first | omega | (simp [intOf] <;> omega) | (simp only [intOf] <;> omega))⟩
                       (repeat apply Exists.intro)
                       refine (fun a b => And.intro b a) ?_ ?_
                       · first | rfl | ((repeat refine ⟨rfl, ?_⟩); rfl)
                       exact ⟨i + 1, hie, by go_num, Hpt.out⟩)
            · have g1 : ¬ (i : Int) < (es.length : Int) := by omega
              have HBW := Lib.hid HF.out.bl
              clear HF
              go_wp2_with fail
              go_ret
              exact ⟨rfl, HBW.out⟩
        · have f1 : ¬ (t : Int) < (n : Int) := by omega
          clear hx
          go_upto_region 16 with fail
          as_aux_lemma =>
          clear f1
          go_loopw [13, 14, 15] (fun i _ _ wx => FinIn W.heap.size T H1 H2 (.slice la es.length lc) (.slice wa es.length wc) es W i wx) (fun i _ _ _ => es.length - (intOf i).toNat)
          case atStart => exact ⟨0, Nat.zero_le _, rfl, HF0.out⟩
          case round =>
            as_aux_lemma =>
            clear HF0
            obtain ⟨i, hi, rfl, hF⟩ := hrel
            have HF := Lib.hid hF
            have k2 := hF.tt.cell (i := 2) rfl
            clear hF
            by_cases hie : i < es.length
            · have g1 : (i : Int) < (es.length : Int) := by omega
              obtain ⟨g, q, rfl, rfl⟩ := Hla.out (by omega)
              obtain ⟨e, he⟩ : ∃ e, es[i]? = some e := ⟨_, List.getElem?_eq_getElem hie⟩
              have He := Lib.hid he
              clear he Hla
              have hd0 : Drn wr wr.drew := ⟨1, rfl⟩
              have hFd := HF.out.drn hd0
              have y2 : wr.drew.cell? ⟨T, 2, none⟩ = some (.slice (some ⟨g, 0, none⟩) es.length lc) := hFd.tt.cell (i := 2) rfl
              have y3 : wr.drew.cell? ⟨T, 3, none⟩ = some (.slice (some ⟨q, 0, none⟩) es.length wc) := hFd.tt.cell (i := 3) rfl
              have yl : wr.drew.cell? ⟨g, i, none⟩ = some (.slice (some ⟨e.p, 0, none⟩) e.A.length e.C) := hFd.l g rfl i e (Nat.le_refl _) He.out
              have yr : wr.drew.cell? ⟨q, i, none⟩ = some (.slice (some ⟨e.q, 0, none⟩) e.A.length e.D) := hFd.r q rfl i e He.out
              have hoe := hFd.e i e (Nat.le_refl _) He.out
              have hm9 : e.A.length ≤ 9223372036854775807 := by have := hoe.s; omega
              have Hsm := Lib.hid (same2_true (some ⟨e.p, 0, none⟩) (some ⟨e.q, 0, none⟩) e.A.length e.A.length e.C e.D e.A e.A wr.drew rfl rfl rfl hm9 hm9 (ent_rd hoe).1 (ent_rd hoe).2)
              clear hFd hoe hm9 hd0
              go_upto_region 18 with fail
              as_aux_lemma =>
              refine wp_region_held_drew (S := fun w' => w'.cell? ⟨T, 2, none⟩ = some (.slice (some ⟨g, 0, none⟩) es.length lc) ∧ w'.cell? ⟨T, 3, none⟩ = some (.slice (some ⟨q, 0, none⟩) es.length wc) ∧ w'.cell? ⟨g, i, none⟩ = some (.slice (some ⟨e.p, 0, none⟩) e.A.length e.C) ∧ w'.cell? ⟨q, i, none⟩ = some (.slice (some ⟨e.q, 0, none⟩) e.A.length e.D)) (by kernel_rfl) ⟨y2, y3, yl, yr⟩ (fun hHeld => ?_)
              clear y2 y3 yl yr
              refine wpAnyH_take (i := 0) (v := ?_) (by simp only [List.getElem?_toArray, List.getElem?_cons_succ, List.getElem?_cons_zero]; rfl) (by kernel_rfl) (by kernel_rfl) (by kernel_rfl) (by intro _ _ _ h_; exact h_) (Or.inl ⟨by rfl, ?_⟩) (by assumption) ?_
              rotate_left 1
              focus (intro w_ hSw_; go_simp; try with_reducible rfl)
              simp only [Act.put, List.setIfInBounds_toArray, List.set_cons_zero, List.set_cons_succ]
              refine wpAnyH_take (i := 1) (v := ?_) (by simp only [List.getElem?_toArray, List.getElem?_cons_succ, List.getElem?_cons_zero]; rfl) (by kernel_rfl) (by kernel_rfl) (by kernel_rfl) (by intro _ _ _ h_; exact h_) (Or.inl ⟨by rfl, ?_⟩) (by assumption) ?_
              rotate_left 1
              focus (intro w_ hSw_; go_simp; try with_reducible rfl)
              simp only [Act.put, List.setIfInBounds_toArray, List.set_cons_zero, List.set_cons_succ]
              refine wpAnyH_take (i := 2) (v := ?_) (by simp only [List.getElem?_toArray, List.getElem?_cons_succ, List.getElem?_cons_zero]; rfl) (by kernel_rfl) (by kernel_rfl) (by kernel_rfl) (by intro _ _ _ h_; exact h_) (Or.inl ⟨by rfl, ?_⟩) (by assumption) ?_
              rotate_left 1
              focus (intro w_ hSw_; go_simp; try with_reducible rfl)
              simp only [Act.put, List.setIfInBounds_toArray, List.set_cons_zero, List.set_cons_succ]
              refine wpAnyH_take (i := 3) (v := ?_) (by simp only [List.getElem?_toArray, List.getElem?_cons_succ, List.getElem?_cons_zero]; rfl) (by kernel_rfl) (by kernel_rfl) (by kernel_rfl) (by intro _ _ _ h_; exact h_) (Or.inl ⟨by rfl, ?_⟩) (by assumption) ?_
              rotate_left 1
              focus (intro w_ hSw_; go_simp; try with_reducible rfl)
              simp only [Act.put, List.setIfInBounds_toArray, List.set_cons_zero, List.set_cons_succ]
              refine wpAnyH_take (i := 4) (v := ?_) (by simp only [List.getElem?_toArray, List.getElem?_cons_succ, List.getElem?_cons_zero]; rfl) (by kernel_rfl) (by kernel_rfl) (by kernel_rfl) (by intro _ _ _ h_; exact h_) (Or.inl ⟨by rfl, ?_⟩) (by assumption) ?_
              rotate_left 1
              focus (intro w_ hSw_; go_simp; try with_reducible rfl)
              simp only [Act.put, List.setIfInBounds_toArray, List.set_cons_zero, List.set_cons_succ]
              refine wpAnyH_take (i := 5) (v := ?_) (by simp only [List.getElem?_toArray, List.getElem?_cons_succ, List.getElem?_cons_zero]; rfl) (by kernel_rfl) (by kernel_rfl) (by kernel_rfl) (by intro _ _ _ h_; exact h_) (Or.inl ⟨by rfl, ?_⟩) (by assumption) ?_
              rotate_left 1
              focus (intro w_ hSw_; go_simp; try with_reducible rfl)
              simp only [Act.put, List.setIfInBounds_toArray, List.set_cons_zero, List.set_cons_succ]
              refine wpAnyH_take (i := 6) (v := ?_) (by simp only [List.getElem?_toArray, List.getElem?_cons_succ, List.getElem?_cons_zero]; rfl) (by kernel_rfl) (by kernel_rfl) (by kernel_rfl) (by intro _ _ _ h_; exact h_) (Or.inl ⟨by rfl, ?_⟩) (by assumption) ?_
              rotate_left 1
              focus (intro w_ hSw_; go_simp; try with_reducible rfl)
              simp only [Act.put, List.setIfInBounds_toArray, List.set_cons_zero, List.set_cons_succ]
              refine wpAnyH_take (i := 7) (v := ?_) (by simp only [List.getElem?_toArray, List.getElem?_cons_succ, List.getElem?_cons_zero]; rfl) (by kernel_rfl) (by kernel_rfl) (by kernel_rfl) (by intro _ _ _ h_; exact h_) (Or.inl ⟨by rfl, ?_⟩) (by assumption) ?_
              rotate_left 1
              focus (intro w_ hSw_; go_simp; try with_reducible rfl)
              simp only [Act.put, List.setIfInBounds_toArray, List.set_cons_zero, List.set_cons_succ]
              refine wpAnyH_take (i := 8) (v := ?_) (by simp only [List.getElem?_toArray, List.getElem?_cons_succ, List.getElem?_cons_zero]; rfl) (by kernel_rfl) (by kernel_rfl) (by kernel_rfl) (by intro _ _ _ h_; exact h_) (Or.inl ⟨by rfl, ?_⟩) (by assumption) ?_
              rotate_left 1
              focus (intro w_ hSw_; go_simp; try with_reducible rfl)
              simp only [Act.put, List.setIfInBounds_toArray, List.set_cons_zero, List.set_cons_succ]
              refine wpAnyH_take (i := 9) (v := ?_) (by simp only [List.getElem?_toArray, List.getElem?_cons_succ, List.getElem?_cons_zero]; rfl) (by kernel_rfl) (by kernel_rfl) (by kernel_rfl) (by intro _ _ _ h_; exact h_) (Or.inl ⟨by rfl, ?_⟩) (by assumption) ?_
              rotate_left 1
              focus (intro w_ hSw_; go_simp; try with_reducible rfl)
              simp only [Act.put, List.setIfInBounds_toArray, List.set_cons_zero, List.set_cons_succ]
              refine wpAnyH_take (i := 10) (v := ?_) (by simp only [List.getElem?_toArray, List.getElem?_cons_succ, List.getElem?_cons_zero]; rfl) (by kernel_rfl) (by kernel_rfl) (by kernel_rfl) (by intro _ _ _ h_; exact h_) (Or.inl ⟨by rfl, ?_⟩) (by assumption) ?_
              rotate_left 1
              focus (intro w_ hSw_; go_simp; try with_reducible rfl)
              simp only [Act.put, List.setIfInBounds_toArray, List.set_cons_zero, List.set_cons_succ]
              refine wpAnyH_take (i := 11) (v := ?_) (by simp only [List.getElem?_toArray, List.getElem?_cons_succ, List.getElem?_cons_zero]; rfl) (by kernel_rfl) (by kernel_rfl) (by kernel_rfl) (by intro _ _ _ h_; exact h_) (Or.inl ⟨by rfl, ?_⟩) (by assumption) ?_
              rotate_left 1
              focus (intro w_ hSw_; go_simp; try with_reducible rfl)
              simp only [Act.put, List.setIfInBounds_toArray, List.set_cons_zero, List.set_cons_succ]
              refine wpAnyH_take (i := 12) (v := ?_) (by simp only [List.getElem?_toArray, List.getElem?_cons_succ, List.getElem?_cons_zero]; rfl) (by kernel_rfl) (by kernel_rfl) (by kernel_rfl) (by intro _ _ _ h_; exact h_) (Or.inl ⟨by rfl, ?_⟩) (by assumption) ?_
              rotate_left 1
              focus (intro w_ hSw_; go_simp; try with_reducible rfl)
              simp only [Act.put, List.setIfInBounds_toArray, List.set_cons_zero, List.set_cons_succ]
              refine wpAnyH_take (i := 13) (v := ?_) (by simp only [List.getElem?_toArray, List.getElem?_cons_succ, List.getElem?_cons_zero]; rfl) (by kernel_rfl) (by kernel_rfl) (by kernel_rfl) (by intro _ _ _ h_; exact h_) (Or.inl ⟨by rfl, ?_⟩) (by assumption) ?_
              rotate_left 1
              focus (intro w_ hSw_; go_simp; try with_reducible rfl)
              simp only [Act.put, List.setIfInBounds_toArray, List.set_cons_zero, List.set_cons_succ]
              refine wpAnyH_ready (rs := [14]) (by kernel_rfl) (by simp) ?_
              refine AllReadyH.cons (by simp only [List.getElem?_toArray, List.getElem?_cons_succ, List.getElem?_cons_zero]; rfl) (fun K hK => ?_) AllReadyH.nil
              go_simp
              refine Hsm.out.mono ?_
              rintro ex w5 ⟨rfl, hd5⟩
              have HF5 := Lib.hid (HF.out.drn ((⟨1, rfl⟩ : Drn wr wr.drew).trans hd5))
              have y2 : w5.cell? ⟨T, 2, none⟩ = some (.slice (some ⟨g, 0, none⟩) es.length lc) := HF5.out.tt.cell (i := 2) rfl
              have y3 : w5.cell? ⟨T, 3, none⟩ = some (.slice (some ⟨q, 0, none⟩) es.length wc) := HF5.out.tt.cell (i := 3) rfl
              have yl : w5.cell? ⟨g, i, none⟩ = some (.slice (some ⟨e.p, 0, none⟩) e.A.length e.C) := HF5.out.l g rfl i e (Nat.le_refl _) He.out
              have yr : w5.cell? ⟨q, i, none⟩ = some (.slice (some ⟨e.q, 0, none⟩) e.A.length e.D) := HF5.out.r q rfl i e He.out
              clear hHeld hd5 Hsm HF k2
              go_wp2_with fail
              refine hK.out _ _ ⟨y2, y3, yl, yr⟩ (fun hHeld => ?_)
              clear hK K
              try simp only [Act.put, List.setIfInBounds_toArray, List.set_cons_zero, List.set_cons_succ]
              refine wpAnyH_take (i := 15) (v := ?_) (by simp only [List.getElem?_toArray, List.getElem?_cons_succ, List.getElem?_cons_zero]; rfl) (by kernel_rfl) (by kernel_rfl) (by kernel_rfl) (by intro _ _ _ h_; exact h_) (Or.inl ⟨by rfl, ?_⟩) (by assumption) ?_
              rotate_left 1
              focus (intro w_ hSw_; go_simp; try with_reducible rfl)
              simp only [Act.put, List.setIfInBounds_toArray, List.set_cons_zero, List.set_cons_succ]
              refine wpAnyH_done (by kernel_rfl) ?_ _
              clear hHeld
              have Hoe := Lib.hid (HF5.out.e i e (Nat.le_refl _) He.out)
              have Hgp : Hid (g ≠ e.p ∧ T ≠ e.p) := Lib.hid ⟨(HF5.out.nl e (List.mem_of_getElem? He.out) g (.inl rfl)).1, fun e1 => HF5.out.nt (.inr (.inr ⟨e, List.mem_of_getElem? He.out, .inl e1⟩))⟩
              have Hgl : Hid (g < w5.heap.size ∧ T < w5.heap.size) := Lib.hid ⟨(HF5.out.ll g (.inl rfl)).2, HF5.out.tt.lt⟩
              clear y3 yr
              go_upto_region 22 with fail
              as_aux_lemma =>
              have Hy := Lib.hid (And.intro y2 yl)
              clear y2 yl
              go_loopw [15] (fun k wx => FilK W.heap.size e.p e.A.length e.C w5 k wx) (fun k _ => e.A.length - (intOf k).toNat)
              case atStart => exact ⟨0, e.A, Nat.zero_le _, rfl, rfl, Hoe.out.p, Frm.refl _ _⟩
              case round =>
                as_aux_lemma =>
                have hs9 := Hoe.out.s
                clear Hoe
                obtain ⟨j, lj, hj, hlj, rfl, hoj, hfj⟩ := hrel
                have y2 := frm_cell Hy.out.1 hfj Hgl.out.2 (fun e1 => Hgp.out.2 e1)
                have yl := frm_cell Hy.out.2 hfj Hgl.out.1 (fun e1 => Hgp.out.1 e1)
                by_cases hjn : j < e.A.length
                · have i1 : (j : Int) < (e.A.length : Int) := by omega
                  obtain ⟨-, -, -, -, -, hc, hfz⟩ := hoj.at
                  have hct := hc j (by omega)
                  have hft := hfz j
                  have Hstep := Lib.hid (filk_step hoj hlj hfj j hjn 7)
                  have Hlj := Lib.hid hlj
                  clear hc hfz hoj hfj hlj
                  go_wp2_with fail
                  first
                  | (go_roundw
                     case rel => exact ⟨j + 1, _, by omega, by rw [List.length_set]; exact Hlj.out, by go_num, Hstep.out.1, Hstep.out.2⟩
                     case measure => (first | omega | (simp [intOf] <;> omega) | (simp only [intOf] <;> omega)))
                  | exact ⟨⟨j + 1, _, by omega, by rw [List.length_set]; exact Hlj.out, by go_num, Hstep.out.1, Hstep.out.2⟩, by (first | omega | (simp [intOf] <;> omega) | (simp only [intOf] <;> omega))⟩
                  | (refine ⟨?_, by (first | omega | (simp [intOf] <;> omega) | (simp only [intOf] <;> omega))⟩
                     (repeat apply Exists.intro)
                     refine (fun a b => And.intro b a) ?_ ?_
                     · first | rfl | ((repeat refine ⟨rfl, ?_⟩); rfl)
                     exact ⟨j + 1, _, by omega, by rw [List.length_set]; exact Hlj.out, by go_num, Hstep.out.1, Hstep.out.2⟩)
                · have i1 : ¬ (j : Int) < (e.A.length : Int) := by omega
                  have HO := Lib.hid hoj
                  have HFj := Lib.hid (HF5.out.over He.out hfj)
                  have HYl := Lib.hid yl
                  have Hlj := Lib.hid hlj
                  clear hoj hfj Hy HF5 hlj
                  have hd1 : Drn wr wr.drew := ⟨1, rfl⟩
                  have HO1 := Lib.hid (HO.out.later (hd1.below _))
                  have HF1 := Lib.hid (HFj.out.drn hd1)
                  have y2d : wr.drew.cell? ⟨T, 2, none⟩ = some (.slice (some ⟨g, 0, none⟩) es.length lc) := HF1.out.tt.cell (i := 2) rfl
                  have yld : wr.drew.cell? ⟨g, i, none⟩ = some (.slice (some ⟨e.p, 0, none⟩) e.A.length e.C) := frm_cell HYl.out (Frm.drn (K := fun _ => False) hd1) (HFj.out.ll g (.inl rfl)).2 id
                  obtain ⟨wd, hwd⟩ : ∃ wd, (wr.alloc (.cells #[.int .u8 7, .int .u8 7] 5)).drew = wd := ⟨_, rfl⟩
                  have hbd : Below wr.heap.size wr wd := by
                    rw [← hwd]
                    exact ((Below.refl _ wr).alloc (Nat.le_refl _) _).trans (((⟨1, rfl⟩ : Drn (wr.alloc (.cells #[.int .u8 7, .int .u8 7] 5)) (wr.alloc (.cells #[.int .u8 7, .int .u8 7] 5)).drew)).below _)
                  have HOa := Lib.hid (HO.out.later hbd)
                  have HFa := Lib.hid (HFj.out.frm (K := fun _ => False) (Frm.later hbd) (fun _ => False.elim) id (fun _ _ => id) (fun _ _ _ _ => ⟨id, id⟩))
                  have Hra : Hid (Rd wd (some ⟨wr.heap.size, 0, none⟩) [7, 7]) := Lib.hid (by
                    rw [← hwd]
                    exact (⟨1, rfl⟩ : Drn (wr.alloc (.cells #[.int .u8 7, .int .u8 7] 5)) (wr.alloc (.cells #[.int .u8 7, .int .u8 7] 5)).drew).rd (Rd.new wr [7, 7] _ _))
                  have y2a : wd.cell? ⟨T, 2, none⟩ = some (.slice (some ⟨g, 0, none⟩) es.length lc) := HFa.out.tt.cell (i := 2) rfl
                  have yla : wd.cell? ⟨g, i, none⟩ = some (.slice (some ⟨e.p, 0, none⟩) e.A.length e.C) := frm_cell HYl.out (Frm.later (K := fun _ => False) hbd) (HFj.out.ll g (.inl rfl)).2 id
                  have Hs9 := Lib.hid hs9
                  clear HO HFj HYl hd1 HO1 HF1 hbd hs9 hj hjn
                  go_upto_region 25 with fail
                  as_aux_lemma =>
                  refine wp_region_held_drew (S := fun w' => w'.cell? ⟨T, 2, none⟩ = some (.slice (some ⟨g, 0, none⟩) es.length lc)) (by kernel_rfl) y2d (fun hHeld => ?_)
                  clear y2 yl
                  refine wpAnyH_take (i := 0) (v := ?_) (by simp only [List.getElem?_toArray, List.getElem?_cons_succ, List.getElem?_cons_zero]; rfl) (by kernel_rfl) (by kernel_rfl) (by kernel_rfl) (by intro _ _ _ h_; exact h_) (Or.inl ⟨by rfl, ?_⟩) (by assumption) ?_
                  rotate_left 1
                  focus (intro w_ hSw_; go_simp; try with_reducible rfl)
                  simp only [Act.put, List.setIfInBounds_toArray, List.set_cons_zero, List.set_cons_succ]
                  refine wpAnyH_take (i := 1) (v := ?_) (by simp only [List.getElem?_toArray, List.getElem?_cons_succ, List.getElem?_cons_zero]; rfl) (by kernel_rfl) (by kernel_rfl) (by kernel_rfl) (by intro _ _ _ h_; exact h_) (Or.inl ⟨by rfl, ?_⟩) (by assumption) ?_
                  rotate_left 1
                  focus (intro w_ hSw_; go_simp; try with_reducible rfl)
                  simp only [Act.put, List.setIfInBounds_toArray, List.set_cons_zero, List.set_cons_succ]
                  refine wpAnyH_take (i := 2) (v := ?_) (by simp only [List.getElem?_toArray, List.getElem?_cons_succ, List.getElem?_cons_zero]; rfl) (by kernel_rfl) (by kernel_rfl) (by kernel_rfl) (by intro _ _ _ h_; exact h_) (Or.inl ⟨by rfl, ?_⟩) (by assumption) ?_
                  rotate_left 1
                  focus (intro w_ hSw_; go_simp; try with_reducible rfl)
                  simp only [Act.put, List.setIfInBounds_toArray, List.set_cons_zero, List.set_cons_succ]
                  refine wpAnyH_take (i := 3) (v := ?_) (by simp only [List.getElem?_toArray, List.getElem?_cons_succ, List.getElem?_cons_zero]; rfl) (by kernel_rfl) (by kernel_rfl) (by kernel_rfl) (by intro _ _ _ h_; exact h_) (Or.inl ⟨by rfl, ?_⟩) (by assumption) ?_
                  rotate_left 1
                  focus (intro w_ hSw_; go_simp; try with_reducible rfl)
                  simp only [Act.put, List.setIfInBounds_toArray, List.set_cons_zero, List.set_cons_succ]
                  refine wpAnyH_take (i := 4) (v := ?_) (by simp only [List.getElem?_toArray, List.getElem?_cons_succ, List.getElem?_cons_zero]; rfl) (by kernel_rfl) (by kernel_rfl) (by kernel_rfl) (by intro _ _ _ h_; exact h_) (Or.inl ⟨by rfl, ?_⟩) (by assumption) ?_
                  rotate_left 1
                  focus (intro w_ hSw_; go_simp; try with_reducible rfl)
                  simp only [Act.put, List.setIfInBounds_toArray, List.set_cons_zero, List.set_cons_succ]
                  refine wpAnyH_take (i := 5) (v := ?_) (by simp only [List.getElem?_toArray, List.getElem?_cons_succ, List.getElem?_cons_zero]; rfl) (by kernel_rfl) (by kernel_rfl) (by kernel_rfl) (by intro _ _ _ h_; exact h_) (Or.inl ⟨by rfl, ?_⟩) (by assumption) ?_
                  rotate_left 1
                  focus (intro w_ hSw_; go_simp; try with_reducible rfl)
                  simp only [Act.put, List.setIfInBounds_toArray, List.set_cons_zero, List.set_cons_succ]
                  refine wpAnyH_take (i := 6) (v := ?_) (by simp only [List.getElem?_toArray, List.getElem?_cons_succ, List.getElem?_cons_zero]; rfl) (by kernel_rfl) (by kernel_rfl) (by kernel_rfl) (by intro _ _ _ h_; exact h_) (Or.inl ⟨by rfl, ?_⟩) (by assumption) ?_
                  rotate_left 1
                  focus (intro w_ hSw_; go_simp; try with_reducible rfl)
                  simp only [Act.put, List.setIfInBounds_toArray, List.set_cons_zero, List.set_cons_succ]
                  refine wpAnyH_take (i := 7) (v := ?_) (by simp only [List.getElem?_toArray, List.getElem?_cons_succ, List.getElem?_cons_zero]; rfl) (by kernel_rfl) (by kernel_rfl) (by kernel_rfl) (by intro _ _ _ h_; exact h_) (Or.inl ⟨by rfl, ?_⟩) (by assumption) ?_
                  rotate_left 1
                  focus (intro w_ hSw_; go_simp; try with_reducible rfl)
                  simp only [Act.put, List.setIfInBounds_toArray, List.set_cons_zero, List.set_cons_succ]
                  refine wpAnyH_take (i := 8) (v := ?_) (by simp only [List.getElem?_toArray, List.getElem?_cons_succ, List.getElem?_cons_zero]; rfl) (by kernel_rfl) (by kernel_rfl) (by kernel_rfl) (by intro _ _ _ h_; exact h_) (Or.inl ⟨by rfl, ?_⟩) (by assumption) ?_
                  rotate_left 1
                  focus (intro w_ hSw_; go_simp; try with_reducible rfl)
                  simp only [Act.put, List.setIfInBounds_toArray, List.set_cons_zero, List.set_cons_succ]
                  refine wpAnyH_take (i := 9) (v := ?_) (by simp only [List.getElem?_toArray, List.getElem?_cons_succ, List.getElem?_cons_zero]; rfl) (by kernel_rfl) (by kernel_rfl) (by kernel_rfl) (by intro _ _ _ h_; exact h_) (Or.inl ⟨by rfl, ?_⟩) (by assumption) ?_
                  rotate_left 1
                  focus (intro w_ hSw_; go_simp; try with_reducible rfl)
                  simp only [Act.put, List.setIfInBounds_toArray, List.set_cons_zero, List.set_cons_succ]
                  refine wpAnyH_take (i := 10) (v := ?_) (by simp only [List.getElem?_toArray, List.getElem?_cons_succ, List.getElem?_cons_zero]; rfl) (by kernel_rfl) (by kernel_rfl) (by kernel_rfl) (by intro _ _ _ h_; exact h_) (Or.inl ⟨by rfl, ?_⟩) (by assumption) ?_
                  rotate_left 1
                  focus (intro w_ hSw_; go_simp; try with_reducible rfl)
                  simp only [Act.put, List.setIfInBounds_toArray, List.set_cons_zero, List.set_cons_succ]
                  refine wpAnyH_ready (rs := [11, 12]) (by kernel_rfl) (by simp) ?_
                  refine AllReadyH.cons (by simp only [List.getElem?_toArray, List.getElem?_cons_succ, List.getElem?_cons_zero]; rfl) (fun K hK => ?_) (AllReadyH.cons (by simp only [List.getElem?_toArray, List.getElem?_cons_succ, List.getElem?_cons_zero]; rfl) (fun K hK => ?_) AllReadyH.nil)
                  · go_simp
                    refine hK.out _ _ y2d (fun hHeld => ?_)
                    clear hK K
                    try simp only [Act.put, List.setIfInBounds_toArray, List.set_cons_zero, List.set_cons_succ]
                    refine wpAnyH_ready (rs := [12]) (by kernel_rfl) (by simp) ?_
                    refine AllReadyH.cons (by simp only [List.getElem?_toArray, List.getElem?_cons_succ, List.getElem?_cons_zero]; rfl) (fun K hK => ?_) AllReadyH.nil
                    go_simp
                    refine hK.out _ _ y2a (fun hHeld => ?_)
                    clear hK K
                    try simp only [Act.put, List.setIfInBounds_toArray, List.set_cons_zero, List.set_cons_succ]
                    refine wpAnyH_ready (rs := [13]) (by kernel_rfl) (by simp) ?_
                    refine AllReadyH.cons (by simp only [List.getElem?_toArray, List.getElem?_cons_succ, List.getElem?_cons_zero]; rfl) (fun K hK => ?_) AllReadyH.nil
                    refine step_of_wp rfl (wp_append_gr byteRow02 _ _ rfl W.heap.size (.slice (some ⟨e.p, 0, none⟩) e.A.length e.C) lj rfl HOa.out (some ⟨wr.heap.size, 0, none⟩) 2 2 [7, 7] rfl rfl Hra.out (fun h => by cases h) (by rw [Hlj.out]; have := Hs9.out; omega) HFa.out.sz (fun v7 w7 ho7 hg7 => ?_))
                    have hf7 : Frm (fun q => q = e.p) wd w7 := Frm.grown hg7.g (fun k h => (Option.some.inj h).symm)
                    have Hpt := Lib.hid ((HFa.out.frm hf7 (fun q h => by subst h; exact (own_blk HOa.out rfl).1) Hgp.out.2 (fun x hx => (HFa.out.nl e (List.mem_of_getElem? He.out) x hx).1) (fun j x hj hx => ovr_ne HFa.out He.out hj hx)).put (g := g) rfl v7)
                    have y2b : w7.cell? ⟨T, 2, none⟩ = some (.slice (some ⟨g, 0, none⟩) es.length lc) := frm_cell y2a hf7 HFa.out.tt.lt Hgp.out.2
                    have ylb : w7.cell? ⟨g, i, none⟩ = some (.slice (some ⟨e.p, 0, none⟩) e.A.length e.C) := frm_cell yla hf7 (HFa.out.ll g (.inl rfl)).2 Hgp.out.1
                    have flb : w7.frozen? ⟨g, i, none⟩ = false := frm_frozen (HFa.out.f g rfl i) hf7 (HFa.out.ll g (.inl rfl)).2 Hgp.out.1
                    have y2c : (w7.setCell ⟨g, i, none⟩ v7).cell? ⟨T, 2, none⟩ = some (.slice (some ⟨g, 0, none⟩) es.length lc) := Hpt.out.tt.cell (i := 2) rfl
                    obtain ⟨a7, c7, rfl, -⟩ := ho7.rd3
                    clear ho7 hg7 hf7
                    generalize (lj ++ [7, 7]).length = n7 at *
                    refine hK.out _ _ y2b (fun hHeld => ?_)
                    clear hK K
                    try simp only [Act.put, List.setIfInBounds_toArray, List.set_cons_zero, List.set_cons_succ]
                    refine wpAnyH_take (i := 14) (v := ?_) (by simp only [List.getElem?_toArray, List.getElem?_cons_succ, List.getElem?_cons_zero]; rfl) (by kernel_rfl) (by kernel_rfl) (by kernel_rfl) (by intro _ _ _ h_; exact h_) (Or.inl ⟨by rfl, ?_⟩) (by assumption) ?_
                    rotate_left 1
                    focus (intro w_ hSw_; go_simp; try with_reducible rfl)
                    simp only [Act.put, List.setIfInBounds_toArray, List.set_cons_zero, List.set_cons_succ]
                    refine wpAnyH_ready (rs := [15]) (by kernel_rfl) (by simp) ?_
                    refine AllReadyH.cons (by simp only [List.getElem?_toArray, List.getElem?_cons_succ, List.getElem?_cons_zero]; rfl) (fun K hK => ?_) AllReadyH.nil
                    go_simp
                    refine hK.out _ _ y2c (fun hHeld => ?_)
                    clear hK K
                    try simp only [Act.put, List.setIfInBounds_toArray, List.set_cons_zero, List.set_cons_succ]
                    refine wpAnyH_done (by kernel_rfl) ?_ _
                    clear hHeld y2b ylb flb y2c y2a yla y2d yld
                    generalize w7.setCell _ _ = w8 at *
                    have hel9 := Hel.out
                    go_wp2_with fail
                    first
                    | (go_roundw
                       case rel => exact ⟨i + 1, hie, by go_num, Hpt.out⟩
                       case measure => (first | omega | (simp [intOf] <;> omega) | (simp only [intOf] <;> omega)))
                    | exact ⟨⟨i + 1, hie, by go_num, Hpt.out⟩, by (first | omega | (simp [intOf] <;> omega) | (simp only [intOf] <;> omega))⟩
                    | (refine ⟨?_, by (first | omega | (simp [intOf] <;> omega) | (simp only [intOf] <;> omega))⟩
                       (repeat apply Exists.intro)
                       refine (fun a b => And.intro b a) ?_ ?_
                       · first | rfl | ((repeat refine ⟨rfl, ?_⟩); rfl)
                       exact ⟨i + 1, hie, by go_num, Hpt.out⟩)
                  · go_simp
                    refine hK.out _ _ y2a (fun hHeld => ?_)
                    clear hK K
                    try simp only [Act.put, List.setIfInBounds_toArray, List.set_cons_zero, List.set_cons_succ]
                    refine wpAnyH_ready (rs := [11]) (by kernel_rfl) (by simp) ?_
                    refine AllReadyH.cons (by simp only [List.getElem?_toArray, List.getElem?_cons_succ, List.getElem?_cons_zero]; rfl) (fun K hK => ?_) AllReadyH.nil
                    go_simp
                    refine hK.out _ _ y2a (fun hHeld => ?_)
                    clear hK K
                    try simp only [Act.put, List.setIfInBounds_toArray, List.set_cons_zero, List.set_cons_succ]
                    refine wpAnyH_ready (rs := [13]) (by kernel_rfl) (by simp) ?_
                    refine AllReadyH.cons (by simp only [List.getElem?_toArray, List.getElem?_cons_succ, List.getElem?_cons_zero]; rfl) (fun K hK => ?_) AllReadyH.nil
                    refine step_of_wp rfl (wp_append_gr byteRow02 _ _ rfl W.heap.size (.slice (some ⟨e.p, 0, none⟩) e.A.length e.C) lj rfl HOa.out (some ⟨wr.heap.size, 0, none⟩) 2 2 [7, 7] rfl rfl Hra.out (fun h => by cases h) (by rw [Hlj.out]; have := Hs9.out; omega) HFa.out.sz (fun v7 w7 ho7 hg7 => ?_))
                    have hf7 : Frm (fun q => q = e.p) wd w7 := Frm.grown hg7.g (fun k h => (Option.some.inj h).symm)
                    have Hpt := Lib.hid ((HFa.out.frm hf7 (fun q h => by subst h; exact (own_blk HOa.out rfl).1) Hgp.out.2 (fun x hx => (HFa.out.nl e (List.mem_of_getElem? He.out) x hx).1) (fun j x hj hx => ovr_ne HFa.out He.out hj hx)).put (g := g) rfl v7)
                    have y2b : w7.cell? ⟨T, 2, none⟩ = some (.slice (some ⟨g, 0, none⟩) es.length lc) := frm_cell y2a hf7 HFa.out.tt.lt Hgp.out.2
                    have ylb : w7.cell? ⟨g, i, none⟩ = some (.slice (some ⟨e.p, 0, none⟩) e.A.length e.C) := frm_cell yla hf7 (HFa.out.ll g (.inl rfl)).2 Hgp.out.1
                    have flb : w7.frozen? ⟨g, i, none⟩ = false := frm_frozen (HFa.out.f g rfl i) hf7 (HFa.out.ll g (.inl rfl)).2 Hgp.out.1
                    have y2c : (w7.setCell ⟨g, i, none⟩ v7).cell? ⟨T, 2, none⟩ = some (.slice (some ⟨g, 0, none⟩) es.length lc) := Hpt.out.tt.cell (i := 2) rfl
                    obtain ⟨a7, c7, rfl, -⟩ := ho7.rd3
                    clear ho7 hg7 hf7
                    generalize (lj ++ [7, 7]).length = n7 at *
                    refine hK.out _ _ y2b (fun hHeld => ?_)
                    clear hK K
                    try simp only [Act.put, List.setIfInBounds_toArray, List.set_cons_zero, List.set_cons_succ]
                    refine wpAnyH_take (i := 14) (v := ?_) (by simp only [List.getElem?_toArray, List.getElem?_cons_succ, List.getElem?_cons_zero]; rfl) (by kernel_rfl) (by kernel_rfl) (by kernel_rfl) (by intro _ _ _ h_; exact h_) (Or.inl ⟨by rfl, ?_⟩) (by assumption) ?_
                    rotate_left 1
                    focus (intro w_ hSw_; go_simp; try with_reducible rfl)
                    simp only [Act.put, List.setIfInBounds_toArray, List.set_cons_zero, List.set_cons_succ]
                    refine wpAnyH_ready (rs := [15]) (by kernel_rfl) (by simp) ?_
                    refine AllReadyH.cons (by simp only [List.getElem?_toArray, List.getElem?_cons_succ, List.getElem?_cons_zero]; rfl) (fun K hK => ?_) AllReadyH.nil
                    go_simp
                    refine hK.out _ _ y2c (fun hHeld => ?_)
                    clear hK K
                    try simp only [Act.put, List.setIfInBounds_toArray, List.set_cons_zero, List.set_cons_succ]
                    refine wpAnyH_done (by kernel_rfl) ?_ _
                    clear hHeld y2b ylb flb y2c y2a yla y2d yld
                    generalize w7.setCell _ _ = w8 at *
                    have hel9 := Hel.out
                    go_wp2_with fail
                    first
                    | (go_roundw
                       case rel => exact ⟨i + 1, hie, by go_num, Hpt.out⟩
                       case measure => (first | omega | (simp [intOf] <;> omega) | (simp only [intOf] <;> omega)))
                    | exact ⟨⟨i + 1, hie, by go_num, Hpt.out⟩, by (first | omega | (simp [intOf] <;> omega) | (simp only [intOf] <;> omega))⟩
                    | (refine ⟨?_, by (first | omega | (simp [intOf] <;> omega) | (simp only [intOf] <;> omega))⟩
                       (repeat apply Exists.intro)
                       refine (fun a b => And.intro b a) ?_ ?_
                       · first | rfl | ((repeat refine ⟨rfl, ?_⟩); rfl)
                       exact ⟨i + 1, hie, by go_num, Hpt.out⟩)
            · have g1 : ¬ (i : Int) < (es.length : Int) := by omega
              have HBW := Lib.hid HF.out.bl
              clear HF
              go_wp2_with fail
              go_ret
              exact ⟨rfl, HBW.out⟩
  · have Hn1 := Lib.hid (new_none bits w1 b1 b2 b3)
    have Hn2 := Lib.hid (fun w' => rnew_none bits w' b1 b2 b3)
    clear b1 b2 b3
    go_wp2_with fail
    refine Hn1.out.mono ?_
    rintro e w2 ⟨rfl, hb2⟩
    have Hb2 := Lib.hid (Hb1.out.trans (hb2.mono Hb1.out.size))
    clear hb2 Hn1
    go_wp2_with fail
    refine (Hn2.out _).mono ?_
    rintro e w3 ⟨rfl, rfl⟩
    clear Hn2
    go_wp2_with fail
    go_ret
    exact ⟨rfl, Hb2.out⟩
theorem walk {H : Type} (enc : TypeId × Value → H) (W : World) (base : Nat) (v0 : Value) (d0 : DataW H) (p0 : List MemPlace) (v1 : Value) (d1 : DataW H) (p1 : List MemPlace)
    (k0 : Value.okWide Tryd.prog W .any base 3 v0) (k1 : Value.okWide Tryd.prog W .any base 54 v1)
    (h0 : DataW.Trod enc Tryd.prog W 0 (fun _ => true) true 3 v0 d0 p0) (h1 : DataW.Trod enc Tryd.prog W 0 (fun _ => true) true 54 v1 d1 p1)
    (hsz : (DataW.weightsEach Tryd.prog [3, 54] ([d0, d1] ++ [])).all (· ≤ reachBytes) = true) (hk : Rows.uptoSmall H ([d0, d1] ++ []) = true) (hL : laidMetH Tryd.prog laidL W) :
    Calls Tryd.prog 8 #[v0, v1] W fun e w' => e = .returned (.bool true) ∧ Below W.heap.size W w' := by
  obtain ⟨hT, h00⟩ := tab_of_laid hL
  have hb : Rows.uptoBulkAll ([d0, d1] ++ []) ≤ 1048576 := of_decide_eq_true hk
  simp only [List.cons_append, List.nil_append, Rows.uptoBulkAll] at hb
  obtain ⟨s, rfl, -, -, -⟩ := open_int Tryd.underlying3 k0 h0
  obtain ⟨ao, n, cap, ops, rfl, hl, hnc, hr, hok, hs, hnb⟩ := open_ops k1 h1
  exact core W s ao n cap ops hl hr hok (fun m hm => by have := hs m hm; omega) (by omega) hT h00
end Go.Proofs.YtngkelflfahjbaaDoor.shaPlays
