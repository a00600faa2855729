/- A package's table, and whether it may be opened: the document's. No condition. -/
import Derived.Test.YtefkmlfpdlnodaaFipR
import Derived.Test.YtefkmlfpdlnodaaFipQ
set_option linter.unusedVariables false
set_option linter.unusedSimpArgs false
namespace Go.Proofs.Ytefkmlfpdlnodaa
open Go.RowKit
attribute [local go_sem ↓] build_en store_en load_en load_gu store_gu build_gu bs_en
structure RTabIn (B nb n : Nat) (l : List UInt8) (W : World) (v i : Value) (wr : World) : Prop where
  x : ∃ (F a : Nat) (es : List En) (u : Value), i = .int .i64 a ∧ u = v ∧ tabR l = tabGo l F a es ∧ n < F + a ∧ a ≤ n ∧ es.length ≤ 32 ∧ OwnS enc 32 19 wr (B + 1) u es ∧ HB wr nb 30 (guc gz) ∧ (∀ x ∈ es, x.Ok) ∧ Below B W wr ∧ B + 1 ≤ wr.heap.size
structure TwIn (B nb xb : Nat) (e : En) (v : Value) (es : List En) (W : World) (j : Value) (wr : World) : Prop where
  x : ∃ q : Nat, q ≤ es.length ∧ j = .int .i64 q ∧ e.id ∉ (es.take q).map En.id ∧ HB wr xb 32 (enc e) ∧ HB wr nb 30 (guc gz) ∧ OwnS enc 32 19 wr (B + 1) v es ∧ Below B W wr ∧ B + 1 ≤ wr.heap.size
set_option maxRecDepth 100000 in
set_option maxHeartbeats 1000000 in
theorem rtable_any (ao : Option Addr) (cap n : Nat) (l : List UInt8) (w : World) (hl : l.length = n) (hn : 16 ≤ n) (hn2 : n ≤ 131072) (hrd : Rd w ao l) :
    Calls Try.prog 19 #[.slice ao n cap] w fun e w' => ∃ v en, e = .returned (.tuple #[v, .int .i64 (en : Nat), .int .i64 (tabR l).2]) ∧ TabSaid w w' (tabR l) v en ∧ Below w.heap.size w w' := by
  have hst := freshGu_st w gz
  have hbz := fun w => run_buildGz w
  have H1 := Lib.hid (freshGu_hb w gz)
  have HB := Lib.hid (freshGu_below w gz)
  have Hs1 : Hid (w.heap.size + 1 ≤ (freshGu w gz).heap.size) := Lib.hid (by have := (freshGu_hb w gz).lt; omega)
  have Hr := Lib.hid hrd
  have Hl := Lib.hid hl
  clear hl hrd
  go_enter Try.func19, Try.ntmps19
  go_wp2_with fail
  as_aux_lemma =>
  generalize freshGu w gz = w1 at *
  obtain ⟨B, hB⟩ : ∃ B, w.heap.size = B := ⟨_, rfl⟩
  rw [hB] at H1 HB Hs1 ⊢
  have HBx := Lib.hid hB
  clear hB hst
  go_loopw [6, 7] (fun v i wr => RTabIn B B n l w v i wr) (fun _ i _ => n - (intOf i).toNat)
  case atStart => exact ⟨n + 1, 16, [], _, rfl, rfl, by rw [← Hl.out]; rfl, by omega, hn, by decide, OwnS.nil _ _, H1.out, (fun x hx => by cases hx), HB.out, Hs1.out⟩
  case round =>
    as_aux_lemma =>
    clear H1 HB Hs1
    obtain ⟨F, a, es, v, rfl, rfl, hgo, hF, ha, hes, hown, hnb, hok, hb, hs⟩ := hrel
    have Hgo := Lib.hid hgo
    have HF := Lib.hid hF
    have HO := Lib.hid hown
    have HN := Lib.hid hnb
    have Hok := Lib.hid hok
    have Hb := Lib.hid hb
    have Hs := Lib.hid hs
    have Hes := Lib.hid hes
    clear hgo hF hown hnb hok hb hs hes
    by_cases hlt : n < a + 40
    · have e1 : (n : Int) - (a : Int) < 40 := by omega
      have hr := Lib.hid (Hgo.out.trans (tabGo_short (by rw [Hl.out]; exact hlt) F es))
      have HBn := Hb
      go_wp2_with fail
      go_ret3
      exact ⟨.slice none 0 0, 0, by rw [hr.out]; rfl, ⟨Or.inr ⟨by rw [hr.out], rfl, rfl⟩⟩, by rw [HBx.out]; exact HBn.out⟩
    · have e1 : ¬ ((n : Int) - (a : Int) < 40) := by omega
      obtain ⟨e, he⟩ : ∃ e, entAt l a = e := ⟨_, rfl⟩
      have hlen : l.length = n := Hl.out
      have eid : guAt l a = e.id := by rw [← he]; rfl
      obtain ⟨a16, h16⟩ : ∃ a16, a + 16 = a16 := ⟨_, rfl⟩
      obtain ⟨a24, h24⟩ : ∃ a24, a + 24 = a24 := ⟨_, rfl⟩
      obtain ⟨a32, h32⟩ : ∃ a32, a + 32 = a32 := ⟨_, rfl⟩
      obtain ⟨a40, h40⟩ : ∃ a40, a + 40 = a40 := ⟨_, rfl⟩
      have eo : getN l a16 8 false = e.off := by rw [← he, ← h16]; rfl
      have es_ : getN l a24 8 false = e.sz := by rw [← he, ← h24]; rfl
      have ef : getN l a32 8 false = e.fl := by rw [← he, ← h32]; rfl
      have q1 : IntKind.i64.wrap ((a : Int) + 16) = (a16 : Int) := by rw [← h16]; simp [IntKind.wrap, IntKind.bits, IntKind.signed]; omega
      have q2 : IntKind.i64.wrap ((a : Int) + 24) = (a24 : Int) := by rw [← h24]; simp [IntKind.wrap, IntKind.bits, IntKind.signed]; omega
      have q3 : IntKind.i64.wrap ((a : Int) + 32) = (a32 : Int) := by rw [← h32]; simp [IntKind.wrap, IntKind.bits, IntKind.signed]; omega
      have q4 : IntKind.i64.wrap ((a : Int) + 40) = (a40 : Int) := by rw [← h40]; simp [IntKind.wrap, IntKind.bits, IntKind.signed]; omega
      have hbd := fun w => run_buildEn e w
      have Hrd : Hid (Rd wr ao l) := Lib.hid (Hr.out.below (by rw [HBx.out]; exact Hb.out))
      have Hg := Lib.hid (guid_any ao n cap a l wr hlen (by omega) Hrd.out (by omega))
      rw [eid] at Hg
      have Hn1 : Hid (∀ w', Rd w' ao l → Calls Try.prog 18 #[.slice ao n cap, .int .i64 (a16 : Int), .int .i64 8] w' fun r w'' => r = .returned (.int .u64 (e.off : Int)) ∧ w' = w'') := Lib.hid fun w' h => by rw [← eo]; exact rnum_ok ao n cap a16 8 l w' hlen (by omega) h (by right; right; right; rfl) (by omega)
      have Hn2 : Hid (∀ w', Rd w' ao l → Calls Try.prog 18 #[.slice ao n cap, .int .i64 (a24 : Int), .int .i64 8] w' fun r w'' => r = .returned (.int .u64 (e.sz : Int)) ∧ w' = w'') := Lib.hid fun w' h => by rw [← es_]; exact rnum_ok ao n cap a24 8 l w' hlen (by omega) h (by right; right; right; rfl) (by omega)
      have Hn3 : Hid (∀ w', Rd w' ao l → Calls Try.prog 18 #[.slice ao n cap, .int .i64 (a32 : Int), .int .i64 8] w' fun r w'' => r = .returned (.int .u64 (e.fl : Int)) ∧ w' = w'') := Lib.hid fun w' h => by rw [← ef]; exact rnum_ok ao n cap a32 8 l w' hlen (by omega) h (by right; right; right; rfl) (by omega)
      have He := Lib.hid he
      have H40 := Lib.hid h40
      have Hlt := Lib.hid hlt
      clear eid eo es_ ef h16 h24 h32 h40 hlen he hlt
      go_wp2_with fail
      as_aux_lemma =>
      refine Hg.out.mono ?_
      rintro r w5 ⟨rfl, hb5⟩
      have Hrd5 := Lib.hid (Hrd.out.below hb5)
      have HO5 := Lib.hid (HO.out.later hb5)
      have HN5 := Lib.hid (HN.out.later hb5)
      have HB5 := Lib.hid (Hb.out.trans (hb5.mono (by have := Hs.out; omega)))
      have Hs5 : Hid (B + 1 ≤ w5.heap.size) := Lib.hid (Nat.le_trans Hs.out hb5.size)
      have hst := fresh_st w5 e
      have Hfh := Lib.hid (fresh_hb w5 e)
      have Hfb := Lib.hid (fresh_below w5 e)
      clear hb5 HO HN Hb Hs Hrd Hg
      have HO6 := Lib.hid (HO5.out.later Hfb.out)
      have HN6 := Lib.hid (HN5.out.later Hfb.out)
      have HB6 := Lib.hid (HB5.out.trans (Hfb.out.mono (by have := Hs5.out; omega)))
      have Hs6 : Hid (B + 1 ≤ (freshEn w5 e).heap.size) := Lib.hid (Nat.le_trans Hs5.out Hfb.out.size)
      have Hbx : Hid (B < w5.heap.size) := Lib.hid (by have := Hs5.out; omega)
      have hlg := run_loadGu (rangeGu Hfh.out)
      have hle := run_loadEn (rangeEn Hfh.out)
      have hlz := run_loadGu HN6.out.whole
      have hc16 := Hfh.out.cell (enc_off e)
      have hc17 := Hfh.out.cell (enc_sz e)
      have hc18 := Hfh.out.cell (enc_fl e)
      have heq := fun w => gu_equal e.id gz w
      have hgd : Try.prog.eqGuardType Try.prog.depth 30 = false := by kernel_rfl
      have en6 : IntKind.u64.wrap (n : Int) = (n : Int) := IntWalk.u64_in _ (by omega)
      clear Hfb
      go_wp2_with (first | (go_at_call_of 18 (Value.int IntKind.i64 (a16 : Int)); refine (Hn1.out _ Hrd5.out).mono ?_; rintro r w' ⟨rfl, rfl⟩) | (go_at_call_of 18 (Value.int IntKind.i64 (a24 : Int)); refine (Hn2.out _ Hrd5.out).mono ?_; rintro r w' ⟨rfl, rfl⟩) | (go_at_call_of 18 (Value.int IntKind.i64 (a32 : Int)); refine (Hn3.out _ Hrd5.out).mono ?_; rintro r w' ⟨rfl, rfl⟩; fail))
      as_aux_lemma =>
      refine (Hn3.out _ Hrd5.out).mono ?_
      rintro r w' ⟨rfl, rfl⟩
      clear Hn1 Hn2 Hn3 Hrd5 HO5 HN5 HB5 Hs5 q1 q2 q3 e1
      by_cases hz : e.id = gz
      · have t1 : decide (e.id = gz) = true := decide_eq_true hz
        rw [t1] at heq
        have hres := Lib.hid (Hgo.out.trans (tabGo_end (by rw [Hl.out]; exact HF.out) (by rw [Hl.out]; exact Hlt.out) (by rw [He.out]; exact hz)))
        rw [He.out, Hl.out] at hres
        have HBn := HB6
        have Hz := Lib.hid hz
        have Hq : Hid (e.off = n → e.sz = 0 → e.fl = 0 → e = ⟨gz, n, 0, 0⟩) := Lib.hid (by
          obtain ⟨i, o, s, f⟩ := e
          rintro rfl rfl rfl
          simp only at hz
          subst hz
          rfl)
        have Hqn : Hid (e = ⟨gz, n, 0, 0⟩ → e.off = n ∧ e.sz = 0 ∧ e.fl = 0) := Lib.hid (fun h => by rw [h]; exact ⟨rfl, rfl, rfl⟩)
        obtain ⟨eo, heo⟩ : ∃ eo, e.off = eo := ⟨_, rfl⟩
        obtain ⟨ez', hes'⟩ : ∃ ez', e.sz = ez' := ⟨_, rfl⟩
        obtain ⟨efl, hef⟩ : ∃ efl, e.fl = efl := ⟨_, rfl⟩
        rw [heo] at hc16 hbd Hq Hqn ⊢
        rw [hes'] at hc17 hbd Hq Hqn ⊢
        rw [hef] at hc18 hbd Hq Hqn ⊢
        clear t1 hz heo hes' hef
        by_cases o1 : eo = n
        · by_cases o2 : ez' = 0
          · by_cases o3 : efl = 0
            · have hr := Lib.hid (hres.out.trans (if_pos (Hq.out o1 o2 o3)))
              rw [H40.out] at hr
              subst o1 o2 o3
              have hbd2 : ∀ w, (buildEn #[(0, .agg (guc e.id).toArray), (1, .int .u64 (eo : Int)), (2, .int .u64 0), (3, .int .u64 0)]).run Try.prog w = .ok (.agg (enc e).toArray) w := hbd
              go_wp2_with fail
              go_ret3
              exact ⟨v, a40, by rw [hr.out]; rfl, ⟨Or.inl ⟨es, by rw [hr.out], HO6.out.mono (by rw [HBx.out]; omega)⟩⟩, by rw [HBx.out]; exact HB6.out⟩
            · have hr := Lib.hid (hres.out.trans (if_neg (fun h => o3 (Hqn.out h).2.2)))
              have m1 : ((efl : Int) == 0) = false := beq_eq_false_iff_ne.2 (by omega)
              have m2 : ((efl : Int) != 0) = true := by rw [bne, m1]; rfl
              subst o1 o2
              have hbd2 : ∀ w, (buildEn #[(0, .agg (guc e.id).toArray), (1, .int .u64 (eo : Int)), (2, .int .u64 0), (3, .int .u64 (efl : Int))]).run Try.prog w = .ok (.agg (enc e).toArray) w := hbd
              go_wp2_with fail
              go_ret3
              exact ⟨.slice none 0 0, 0, by rw [hr.out]; rfl, ⟨Or.inr ⟨by rw [hr.out], rfl, rfl⟩⟩, by rw [HBx.out]; exact HBn.out⟩
          · have hr := Lib.hid (hres.out.trans (if_neg (fun h => o2 (Hqn.out h).2.1)))
            have m1 : ((ez' : Int) == 0) = false := beq_eq_false_iff_ne.2 (by omega)
            have m2 : ((ez' : Int) != 0) = true := by rw [bne, m1]; rfl
            subst o1
            go_wp2_with fail
            go_ret3
            exact ⟨.slice none 0 0, 0, by rw [hr.out]; rfl, ⟨Or.inr ⟨by rw [hr.out], rfl, rfl⟩⟩, by rw [HBx.out]; exact HBn.out⟩
        · have hr := Lib.hid (hres.out.trans (if_neg (fun h => o1 (Hqn.out h).1)))
          have m1 : ((eo : Int) == (n : Int)) = false := beq_eq_false_iff_ne.2 (by omega)
          have m2 : ((eo : Int) != (n : Int)) = true := by rw [bne, m1]; rfl
          clear o1
          go_wp2_with fail
          go_ret3
          exact ⟨.slice none 0 0, 0, by rw [hr.out]; rfl, ⟨Or.inr ⟨by rw [hr.out], rfl, rfl⟩⟩, by rw [HBx.out]; exact HBn.out⟩
      · have t1 : decide (e.id = gz) = false := decide_eq_false hz
        rw [t1] at heq
        have hz' : (entAt l a).id ≠ gz := by rw [He.out]; exact hz
        have Hz := Lib.hid hz'
        obtain ⟨ao2, cp, rfl, hcp, hcm, hrd, hnil⟩ := HO6.out.rd enc_len
        have HBn := HB6
        clear t1 hz hz' hrd hnil hcp hcm hc16 hc17 hc18
        by_cases hm : es.length = 32
        · have hr := Lib.hid (Hgo.out.trans (tabGo_many (by rw [Hl.out]; exact HF.out) (by rw [Hl.out]; exact Hlt.out) Hz.out hm))
          have hm' : (es.length : Int) = 32 := by omega
          clear hm
          go_wp2_with fail
          go_ret3
          exact ⟨.slice none 0 0, 0, by rw [hr.out]; rfl, ⟨Or.inr ⟨by rw [hr.out], rfl, rfl⟩⟩, by rw [HBx.out]; exact HBn.out⟩
        · have hm' : ((es.length : Int) == 32) = false := beq_eq_false_iff_ne.2 (by omega)
          have Hm := Lib.hid hm
          clear hm
          go_wp2_with fail
          as_aux_lemma =>
          clear heq hle hlg hlz hst hbd
          generalize freshEn w5 e = w6 at *
          obtain ⟨x, hx⟩ : ∃ x, w5.heap.size = x := ⟨_, rfl⟩
          rw [hx] at Hfh Hbx ⊢
          clear hx
          go_loopw [9] (fun j wr => TwIn B B x e (.slice ao2 es.length cp) es w j wr) (fun j _ => es.length - (intOf j).toNat)
          case atStart => exact ⟨0, by omega, rfl, by simp, Hfh.out, HN6.out, HO6.out, HB6.out, Hs6.out⟩
          case round =>
            as_aux_lemma =>
            clear Hfh HN6 HO6 HB6 Hs6 HBn
            obtain ⟨q, hq, rfl, hnin, hx, hnb, hown, hb, hs⟩ := hrel
            have HX := Lib.hid hx
            have HN := Lib.hid hnb
            have HO := Lib.hid hown
            have HBn := Lib.hid hb
            have Hs := Lib.hid hs
            have Hnin := Lib.hid hnin
            clear hx hnb hown hb hs hnin
            by_cases hlt : q < es.length
            · obtain ⟨y, hy⟩ : ∃ y, es[q]? = some y := ⟨_, List.getElem?_eq_getElem hlt⟩
              obtain ⟨g, hao⟩ : ∃ g, ao2 = some ⟨g, 0, none⟩ := by
                rcases HO.out.cases enc_len with ⟨_, h⟩ | ⟨g, _, h, _⟩
                · rw [h] at hlt; simp at hlt
                · cases h; exact ⟨g, rfl⟩
              subst hao
              have hl1 := run_loadGu (rangeEnGu (HO.out.range hy))
              have hl2 := run_loadGu (rangeGu HX.out)
              have hl1d := fun m => run_loadGu (rangeEnGu ((HO.out.drn (⟨m, rfl⟩ : Drn wr (wr.drewN m))).range hy))
              have hl2d := fun m => run_loadGu (rangeGu (HX.out.drn (⟨m, rfl⟩ : Drn wr (wr.drewN m))))
              have heq := fun w => gu_equal y.id e.id w
              have f0 : (0 : Int) ≤ (q : Int) := by omega
              have f1 : (q : Int) < (es.length : Int) := by omega
              have f3 : (q : Int) < 32 := by have := Hes.out; omega
              by_cases hi : y.id = e.id
              · rw [decide_eq_true hi] at heq
                have hr := Lib.hid (Hgo.out.trans (tabGo_twice (by rw [Hl.out]; exact HF.out) (by rw [Hl.out]; exact Hlt.out) Hz.out Hm.out (by rw [He.out, ← hi]; exact List.mem_map_of_mem (List.mem_of_getElem? hy))))
                clear hi hy hlt hq
                go_wp2_with fail
                go_quiet (fail)
                go_wp2_with fail
                go_ret3
                exact ⟨.slice none 0 0, 0, by rw [hr.out]; rfl, ⟨Or.inr ⟨by rw [hr.out], rfl, rfl⟩⟩, by rw [HBx.out]; exact HBn.out.trans ((Drn.below (⟨_, rfl⟩ : Drn wr (wr.drewN nq))) _)⟩
              · rw [decide_eq_false hi] at heq
                have Hn1 : Hid (e.id ∉ (es.take (q + 1)).map En.id) := Lib.hid (by
                  rw [List.take_add_one, hy, List.map_append, List.mem_append]
                  rintro (h | h)
                  · exact Hnin.out h
                  · simp at h; exact hi h.symm)
                clear hi hy hlt
                go_wp2_with fail
                go_quiet (fail)
                go_wp2_with fail
                have hdd : Drn wr (wr.drewN nq) := ⟨_, rfl⟩
                first
                | (go_roundw
                   case rel => exact ⟨q + 1, by omega, by go_num, Hn1.out, HX.out.drn hdd, HN.out.drn hdd, HO.out.drn hdd, HBn.out.trans (hdd.below _), Hs.out⟩
                   case measure => (first | omega | (simp [intOf] <;> omega) | (simp only [intOf] <;> omega)))
                | exact ⟨⟨q + 1, by omega, by go_num, Hn1.out, HX.out.drn hdd, HN.out.drn hdd, HO.out.drn hdd, HBn.out.trans (hdd.below _), Hs.out⟩, by (first | omega | (simp [intOf] <;> omega) | (simp only [intOf] <;> omega))⟩
                | (refine ⟨?_, by (first | omega | (simp [intOf] <;> omega) | (simp only [intOf] <;> omega))⟩
                   (repeat apply Exists.intro)
                   refine (fun a b => And.intro b a) ?_ ?_
                   · first | rfl | ((repeat refine ⟨rfl, ?_⟩); rfl)
                   exact ⟨q + 1, by omega, by go_num, Hn1.out, HX.out.drn hdd, HN.out.drn hdd, HO.out.drn hdd, HBn.out.trans (hdd.below _), Hs.out⟩)
            · obtain rfl : q = es.length := by omega
              have hnin := Hnin.out
              rw [List.take_of_length_le (Nat.le_refl _)] at hnin
              obtain ⟨F', hgo', hF'⟩ := tabGo_next (F := F) (es := es) (by rw [Hl.out]; exact HF.out) (by rw [Hl.out]; exact Hlt.out) Hz.out Hm.out (by rw [He.out]; exact hnin)
              rw [He.out] at hgo'
              have hr := Lib.hid (Hgo.out.trans hgo')
              have HF' := Lib.hid hF'
              have Heok : Hid e.Ok := Lib.hid (by rw [← He.out]; exact entAt_ok _ _)
              have hle6 := run_loadEn (rangeEn HX.out)
              have hbs := fun w => run_bsEn e w
              have HNn := Lib.hid (HB.new wr (enc e) 32)
              have HO7 := Lib.hid (HO.out.alloc (.cells (enc e).toArray 32))
              have HN7 := Lib.hid (HN.out.alloc (.cells (enc e).toArray 32))
              have HB7 := Lib.hid (HBn.out.alloc (by have := Hs.out; omega) (.cells (enc e).toArray 32))
              have Hs7 : Hid (B + 1 ≤ (wr.alloc (.cells (enc e).toArray 32)).heap.size) := Lib.hid (by simp; have := Hs.out; omega)
              clear hnin hgo' hF'
              have f9 : ¬ ((es.length : Int) < (es.length : Int)) := by omega
              go_wp2_with (at_builtin; refine wpList_append_S enLay rfl _ _ rfl (B + 1) _ es rfl HO7.out (some ⟨wr.heap.size, 0, none⟩) 1 1 [e] rfl (fun h => by cases h) rfl (RdS.one HNn.out) (by have := Hes.out; unfold maxLen; omega) (by have := Hes.out; omega) Hs7.out ?_)
              intro v8 w8 ho8 hg8
              have Hob := Lib.hid (HO7.out.blk enc_len)
              have HO8 := Lib.hid ho8
              have HN8 := Lib.hid (HN7.out.grown hg8 (fun e' => by have := (Hob.out B e'.symm).1; omega))
              have HB8 := Lib.hid (HB7.out.grown hg8 (by have := Hs7.out; omega) (fun q hq => by have := (Hob.out q hq).1; omega))
              have Hs8 : Hid (B + 1 ≤ w8.heap.size) := Lib.hid (Nat.le_trans Hs7.out hg8.size)
              have Hokk : Hid (∀ y ∈ es ++ [e], y.Ok) := Lib.hid (fun y hy => by
                rw [List.mem_append, List.mem_singleton] at hy
                rcases hy with hy | rfl
                · exact Hok.out y hy
                · exact Heok.out)
              clear ho8 hg8 hle6 hbs Hob
              have hm9 : n - a40 < n - a := by have := H40.out; have := Hlt.out; omega
              go_wp2_with fail
              first
              | (go_roundw
                 case rel => exact ⟨F', a40, es ++ [e], v8, by go_num, rfl, by rw [← H40.out]; exact hr.out, by have := HF'.out; have := Hl.out; have := H40.out; omega, by have := H40.out; have := Hlt.out; omega, by rw [List.length_append]; simp; have := Hes.out; have := Hm.out; omega, HO8.out, HN8.out, Hokk.out, HB8.out, Hs8.out⟩
                 case measure => (first | omega | (simp [intOf] <;> omega) | (simp only [intOf] <;> omega)))
              | exact ⟨⟨F', a40, es ++ [e], v8, by go_num, rfl, by rw [← H40.out]; exact hr.out, by have := HF'.out; have := Hl.out; have := H40.out; omega, by have := H40.out; have := Hlt.out; omega, by rw [List.length_append]; simp; have := Hes.out; have := Hm.out; omega, HO8.out, HN8.out, Hokk.out, HB8.out, Hs8.out⟩, by (first | omega | (simp [intOf] <;> omega) | (simp only [intOf] <;> omega))⟩
              | (refine ⟨?_, by (first | omega | (simp [intOf] <;> omega) | (simp only [intOf] <;> omega))⟩
                 (repeat apply Exists.intro)
                 refine (fun a b => And.intro b a) ?_ ?_
                 · first | rfl | ((repeat refine ⟨rfl, ?_⟩); rfl)
                 exact ⟨F', a40, es ++ [e], v8, by go_num, rfl, by rw [← H40.out]; exact hr.out, by have := HF'.out; have := Hl.out; have := H40.out; omega, by have := H40.out; have := Hlt.out; omega, by rw [List.length_append]; simp; have := Hes.out; have := Hm.out; omega, HO8.out, HN8.out, Hokk.out, HB8.out, Hs8.out⟩)
end Go.Proofs.Ytefkmlfpdlnodaa
