/- A package's table, as the program reads it. No condition. -/
import Derived.Test.YtefkmlfpdlnodaaFipM
import Derived.Deep.RegionHeld3
import Derived.Deep.RegionWith
import Derived.Deep.DeepCutAuto
import Derived.Deep.DrawnRows
set_option linter.unusedVariables false
set_option linter.unusedSimpArgs false
namespace Go.Proofs.Ytefkmlfpdlnodaa
open Go.RowKit
attribute [local go_sem ↓] Go.wp_at_zero Go.wp_at_succ
attribute [local go_sem ↓] build_en store_en load_en load_gu store_gu build_gu bs_en
attribute [local go_sem] run_storeEn
structure TabSaid (w w' : World) (R : Option (List En × Nat) × Int) (v : Value) (en : Nat) : Prop where
  x : (∃ es, R.1 = some (es, en) ∧ OwnS enc 32 19 w' w.heap.size v es) ∨ (R.1 = none ∧ v = .slice none 0 0 ∧ en = 0)
structure TabIn (B D mb n : Nat) (l : List UInt8) (W : World) (v i : Value) (wr : World) : Prop where
  x : ∃ (F a : Nat) (es : List En) (u : Value), i = .int .i64 a ∧ u = v ∧ tabR l = tabGo l F a es ∧ n < F + a ∧ a ≤ n ∧ es.length ≤ 32 ∧ OwnS enc 32 19 wr D u es ∧ GSet wr mb es.length (fun g => g ∈ es.map En.id) ∧ (∀ x ∈ es, x.Ok) ∧ Below B W wr ∧ D ≤ wr.heap.size
theorem guAt_range {w : World} {b off : Nat} {l : List UInt8} {a : Nat} (ha : a + 16 ≤ l.length) (h : ∀ j, j < l.length → w.cell? ⟨b, off + j, none⟩ = some (.int .u8 ((l[j]?.getD 0).toNat))) : w.rangeAt b (off + a) (guc (guAt l a)) := fun j v hj => by
  have hj16 : j < 16 := by
    rcases Nat.lt_or_ge j 16 with h | h
    · exact h
    · rw [List.getElem?_eq_none (by rw [guc_len]; exact h)] at hj; cases hj
  unfold guc guAt at hj
  rw [List.getElem?_map] at hj
  simp only [List.getElem?_map, List.getElem?_range hj16, Option.map_some, Option.some.injEq] at hj
  rw [Nat.add_assoc, h (a + j) (by omega), ← hj]
  rfl
theorem rd_range {w : World} {b o : Nat} {p : List UInt8} (h : Rd w (some ⟨b, o, none⟩) p) : w.rangeAt b o (p.map bv) := fun j v hj => by
  have hlt : j < p.length := by
    rcases Nat.lt_or_ge j p.length with h | h
    · exact h
    · rw [List.getElem?_map, List.getElem?_eq_none h] at hj; cases hj
  obtain ⟨b', o', e, hc⟩ := h j hlt
  cases e
  rw [hc, ← hj, List.getElem?_map, List.getElem?_eq_getElem hlt]
  rfl
theorem guAt_piece {l : List UInt8} {a : Nat} (h : a + 16 ≤ l.length) : (guAt l a).1 = (l.drop a).take 16 := by
  unfold guAt
  apply List.ext_getElem?
  intro i
  rcases Nat.lt_or_ge i 16 with hi | hi
  · simp only [List.getElem?_map, List.getElem?_range hi, Option.map_some, List.getElem?_take, if_pos hi, List.getElem?_drop]
    rw [List.getElem?_eq_getElem (show a + i < l.length by omega)]; rfl
  · rw [List.getElem?_eq_none (by simpa using hi), List.getElem?_eq_none (by simp; omega)]
theorem Drn.allocd {a b : World} (h : Drn a b) (o : Obj) : Drn (a.alloc o) (b.alloc o) := by obtain ⟨n, rfl⟩ := h; exact ⟨n, rfl⟩
theorem Drn.size {a b : World} (h : Drn a b) : b.heap.size = a.heap.size := by rw [h.heap]
set_option maxRecDepth 100000 in
set_option maxHeartbeats 1000000 in
theorem ptable_any (b0 off cap n : Nat) (l : List UInt8) (w : World) (hl : l.length = n) (hn : 16 ≤ n) (hn2 : n ≤ 131072) (hcap : n ≤ cap) (hr : ∀ j, j < n → w.cell? ⟨b0, off + j, none⟩ = some (.int .u8 ((l[j]?.getD 0).toNat))) :
    Calls Try.prog 21 #[.slice (some ⟨b0, off, none⟩) n cap] w fun e w' => ∃ v en, e = .returned (.tuple #[v, .int .u64 (en : Nat), .int .i64 (tabR l).2]) ∧ TabSaid w w' (tabR l) v en ∧ Below w.heap.size w w' := by
  have HM := Lib.hid (GSet.made w)
  have HB := Lib.hid ((Below.refl w.heap.size w).alloc (Nat.le_refl _) (.map #[] 0))
  have Hs1 : Hid ((w.alloc (.map #[] 0)).heap.size = w.heap.size + 1) := Lib.hid (by simp)
  have Hr := Lib.hid hr
  have Hl := Lib.hid hl
  have Hb0 : Hid (b0 < w.heap.size) := Lib.hid (block_lt_of_cell (hr 0 (by omega)))
  have hmm := @run_makeMap Try.prog
  clear hl hr
  go_enter Try.func21, Try.ntmps21
  go_wp2_with fail
  as_aux_lemma =>
  generalize w.alloc (.map #[] 0) = w1 at *
  obtain ⟨B, hB⟩ : ∃ B, w.heap.size = B := ⟨_, rfl⟩
  rw [hB] at HM HB Hs1 Hb0 ⊢
  have HBx := Lib.hid hB
  clear hB hmm
  go_loopw [6, 7] (fun v i wr => TabIn B (B + 1) B n l w v i wr) (fun _ i _ => n - (intOf i).toNat)
  case atStart => exact ⟨n + 1, 16, [], _, rfl, rfl, by rw [← Hl.out]; rfl, by omega, hn, by decide, OwnS.nil _ _, HM.out.congr (fun g => by simp), (fun x hx => by cases hx), HB.out, by rw [Hs1.out]; exact Nat.le_refl _⟩
  case round =>
    as_aux_lemma =>
    clear HM HB Hs1
    obtain ⟨F, a, es, v, rfl, rfl, hgo, hF, ha, hes, hown, hset, hok, hb, hs⟩ := hrel
    have Hgo := Lib.hid hgo
    have HF := Lib.hid hF
    have HO := Lib.hid hown
    have HS := Lib.hid hset
    have Hok := Lib.hid hok
    have Hb := Lib.hid hb
    have Hs := Lib.hid hs
    have Hes := Lib.hid hes
    clear hgo hF hown hset hok hb hs hes
    by_cases hlt : n < a + 40
    · have e1 : (n : Int) - (a : Int) < 40 := by omega
      have hres := Lib.hid (Hgo.out.trans (tabGo_short (by rw [Hl.out]; exact hlt) F es))
      go_wp2_with fail
      go_ret3
      exact ⟨.slice none 0 0, 0, by rw [hres.out]; rfl, ⟨Or.inr ⟨by rw [hres.out], rfl, rfl⟩⟩, by rw [HBx.out]; exact Hb.out⟩
    · have e1 : ¬ ((n : Int) - (a : Int) < 40) := by omega
      go_wp2_with fail
      as_aux_lemma =>
      obtain ⟨e, he⟩ : ∃ e, entAt l a = e := ⟨_, rfl⟩
      have hlen : l.length = n := Hl.out
      have eid : e.id = guAt l a := by rw [← he]; rfl
      have Hrd : Hid (Rd wr.drew (some ⟨b0, off, none⟩) l) := Lib.hid fun j hj => ⟨b0, off, rfl, by
        rw [hlen] at hj
        exact (Hb.out.cell (p := ⟨b0, off + j, none⟩) Hb0.out).trans (Hr.out j hj)⟩
      obtain ⟨a16, h16⟩ : ∃ a16, a + 16 = a16 := ⟨_, rfl⟩
      obtain ⟨a24, h24⟩ : ∃ a24, a + 24 = a24 := ⟨_, rfl⟩
      obtain ⟨a32, h32⟩ : ∃ a32, a + 32 = a32 := ⟨_, rfl⟩
      have eo : getN l a16 8 false = e.off := by rw [← he, ← h16]; rfl
      have es_ : getN l a24 8 false = e.sz := by rw [← he, ← h24]; rfl
      have ef : getN l a32 8 false = e.fl := by rw [← he, ← h32]; rfl
      have q1 : IntKind.i64.wrap ((a : Int) + 16) = (a16 : Int) := by rw [← h16]; simp [IntKind.wrap, IntKind.bits, IntKind.signed]; omega
      have q2 : IntKind.i64.wrap ((a : Int) + 24) = (a24 : Int) := by rw [← h24]; simp [IntKind.wrap, IntKind.bits, IntKind.signed]; omega
      have q3 : IntKind.i64.wrap ((a : Int) + 32) = (a32 : Int) := by rw [← h32]; simp [IntKind.wrap, IntKind.bits, IntKind.signed]; omega
      obtain ⟨bo, hsl, -, hslr⟩ := slice_bytes byteRow (some ⟨b0, off, none⟩) n cap a a16 (by omega) (by omega) .i64 .i64
      have hp := fun w h => hslr w l h hlen (by omega)
      rw [show a16 - a = 16 by omega] at hsl hp
      obtain ⟨b, o, rfl, -⟩ : ∃ b o, bo = some ⟨b, o, none⟩ ∧ True := by
        obtain ⟨b, o, e1, _⟩ := hp _ Hrd.out 0 (by simp; omega)
        exact ⟨b, o, e1, trivial⟩
      rw [← guAt_piece (by omega), ← eid] at hp
      have Hrg : Hid (∀ w, Rd w (some ⟨b0, off, none⟩) l → w.rangeAt b o (guc e.id)) := Lib.hid fun w h => rd_range (hp w h)
      have hat : ∀ w c, (Instr.arrayAt 30 (.slice (some ⟨b, o, none⟩) 16 c)).run Try.prog w = .ok (.pointer (some ⟨b, o, none⟩)) w := fun w c => run_arrayAt w 30 _ 16 _ 16 c Try.underlying30 (Nat.le_refl _)
      have hu30 := Try.underlying30
      have hi30 := guInfo e.id
      have hbd := fun w => run_buildEn e w
      have hone : ∀ v ∈ enc e, v.oneCell' = true := enc_one e
      have hi32 := enInfo e
      have Hn1 : Hid (∀ w', Rd w' (some ⟨b0, off, none⟩) l → Calls Try.prog 20 #[.slice (some ⟨b0, off, none⟩) n cap, .int .i64 (a16 : Int), .int .i64 8] w' fun r w'' => r = .returned (.int .u64 (e.off : Int)) ∧ Drn w' w'') := Lib.hid fun w' h => by rw [← eo]; exact pnum_ok (some ⟨b0, off, none⟩) n cap a16 8 l w' hlen (by omega) h (by right; right; right; rfl) (by omega)
      have Hn2 : Hid (∀ w', Rd w' (some ⟨b0, off, none⟩) l → Calls Try.prog 20 #[.slice (some ⟨b0, off, none⟩) n cap, .int .i64 (a24 : Int), .int .i64 8] w' fun r w'' => r = .returned (.int .u64 (e.sz : Int)) ∧ Drn w' w'') := Lib.hid fun w' h => by rw [← es_]; exact pnum_ok (some ⟨b0, off, none⟩) n cap a24 8 l w' hlen (by omega) h (by right; right; right; rfl) (by omega)
      have Hn3 : Hid (∀ w', Rd w' (some ⟨b0, off, none⟩) l → Calls Try.prog 20 #[.slice (some ⟨b0, off, none⟩) n cap, .int .i64 (a32 : Int), .int .i64 8] w' fun r w'' => r = .returned (.int .u64 (e.fl : Int)) ∧ Drn w' w'') := Lib.hid fun w' h => by rw [← ef]; exact pnum_ok (some ⟨b0, off, none⟩) n cap a32 8 l w' hlen (by omega) h (by right; right; right; rfl) (by omega)
      obtain ⟨x, hx⟩ : ∃ x, wr.heap.size = x := ⟨_, rfl⟩
      have hx1 : wr.drew.heap.size = x := hx
      have hgl : ∀ W, Rd W (some ⟨b0, off, none⟩) l → (loadGu (.pointer (some ⟨b, o, none⟩))).run Try.prog W = .ok (.agg (guc e.id).toArray) W := fun W h => run_loadGu (Hrg.out W h)
      have HTD : Hid (∀ w1 w2 : World, w1.there x 0 19 → Drn w1 w2 → w2.there x 0 19) := Lib.hid fun w1 w2 h hd j hj => by
        rw [hd.cell, hd.frozen]; exact h j hj
      have HTA : Hid (∀ w1 : World, w1.heap.size = x → (w1.alloc (.cells (enc ez).toArray 32)).there x 0 19) := Lib.hid fun w1 h => by
        rw [← h]; exact (HB.new w1 (enc ez) 32).there (by rw [enc_len]; exact Nat.le_refl _)
      have HzD : Hid (∀ w1 w2 : World, w1.heap.size = x → Drn w1 w2 → w2.heap.size = x) := Lib.hid fun w1 w2 h hd => by rw [hd.size]; exact h
      have HRA : Hid (∀ w1 : World, Rd w1 (some ⟨b0, off, none⟩) l → Rd (w1.alloc (.cells (enc ez).toArray 32)) (some ⟨b0, off, none⟩) l) := Lib.hid fun w1 h => h.below ((Below.refl _ w1).alloc (Nat.le_refl _) _)
      have hR0 := Hrd.out
      have hR0a : Rd (wr.alloc (.cells (enc ez).toArray 32)).drew (some ⟨b0, off, none⟩) l := HRA.out _ hR0
      have hT0 : (wr.alloc (.cells (enc ez).toArray 32)).drew.there x 0 19 := HTA.out wr.drew hx1
      have hd0 : Drn wr wr.drew := ⟨1, rfl⟩
      have Hfin : Hid (∀ W, Drn (wr.alloc (.cells (enc ez).toArray 32)) W → HB (W.setCells x 0 (enc e)) x 32 (enc e) ∧ Frm (fun k => k = x) (wr.alloc (.cells (enc ez).toArray 32)) (W.setCells x 0 (enc e))) := Lib.hid fun W h => by
        have h1 : HB (wr.alloc (.cells (enc ez).toArray 32)) x 32 (enc ez) := by rw [← hx]; exact HB.new wr (enc ez) 32
        exact ⟨(h1.drn h).fillAll (by rw [enc_len, enc_len]), (Frm.drn h).trans (Frm.grown (grown_setCells x (enc e) 0 W) (fun k hk => (Option.some.inj hk).symm))⟩
      clear hslr hp eid eo es_ ef hlen h16 h24 h32
      have hst : ∀ W : World, W.there x 0 19 → (storeEn (.pointer (some ⟨x, 0, none⟩)) (.agg (enc e).toArray)).run Try.prog W = .ok () (W.setCells x 0 (enc e)) := fun W h => run_storeEn e h
      have hz32 : ∀ W, (zeroValue 32).run Try.prog W = .ok (.agg (enc ez).toArray) W := fun W => by kernel_rfl
      have HkD : Hid (∀ w1 w2, Rd w1 (some ⟨b0, off, none⟩) l → Drn w1 w2 → Rd w2 (some ⟨b0, off, none⟩) l) := Lib.hid fun w1 w2 h hd => hd.rd h
      have hbx : b0 ≠ x := by have := Hb0.out; have := Hs.out; omega
      have HkS : Hid (∀ w1, Rd w1 (some ⟨b0, off, none⟩) l → Rd (w1.setCells x 0 (enc e)) (some ⟨b0, off, none⟩) l) := Lib.hid fun w1 h =>
        h.grown (grown_setCells x (enc e) 0 w1) (fun a ha e' => by cases ha; exact hbx (Option.some.inj e'))
      clear hbx hone hi32
      go_cut [8] (fun c8 wx => c8 = .pointer (some ⟨x, 0, none⟩) ∧ HB wx x 32 (enc e) ∧ Frm (fun k => k = x) (wr.alloc (.cells (enc ez).toArray 32)) wx)
      case first =>
        refine wp_region_held_drew (S := fun w' => Rd w' (some ⟨b0, off, none⟩) l) (by kernel_rfl) hR0 (fun hHeld => ?_)
        refine wpAnyH_take (i := 0) (v := ?_) (by simp only [List.getElem?_toArray, List.getElem?_cons_succ, List.getElem?_cons_zero]; rfl) (by kernel_rfl) (by kernel_rfl) (by kernel_rfl) (by intro _ _ _ h_; exact h_) (Or.inl ⟨by rfl, ?_⟩) (by assumption) ?_
        rotate_left 1
        focus (intro w_ hSw_; go_simp; try with_reducible rfl)
        simp only [Act.put, List.setIfInBounds_toArray, List.set_cons_zero, List.set_cons_succ]
        refine wpAnyH_take (i := 1) (v := ?_) (by simp only [List.getElem?_toArray, List.getElem?_cons_succ, List.getElem?_cons_zero]; rfl) (by kernel_rfl) (by kernel_rfl) (by kernel_rfl) (by intro _ _ _ h_; exact h_) (Or.inl ⟨by rfl, ?_⟩) (by assumption) ?_
        rotate_left 1
        focus (intro w_ hSw_; go_simp; try with_reducible rfl)
        simp only [Act.put, List.setIfInBounds_toArray, List.set_cons_zero, List.set_cons_succ]
        refine wpAnyH_take (i := 2) (v := ?_) (by simp only [List.getElem?_toArray, List.getElem?_cons_succ, List.getElem?_cons_zero]; rfl) (by kernel_rfl) (by kernel_rfl) (by kernel_rfl) (by intro _ _ _ h_; exact h_) (Or.inl ⟨by rfl, ?_⟩) (by assumption) ?_
        rotate_left 1
        focus (intro w_ hSw_; go_simp; try with_reducible rfl)
        simp only [Act.put, List.setIfInBounds_toArray, List.set_cons_zero, List.set_cons_succ]
        refine wpAnyH_take (i := 3) (v := ?_) (by simp only [List.getElem?_toArray, List.getElem?_cons_succ, List.getElem?_cons_zero]; rfl) (by kernel_rfl) (by kernel_rfl) (by kernel_rfl) (by intro _ _ _ h_; exact h_) (Or.inl ⟨by rfl, ?_⟩) (by assumption) ?_
        rotate_left 1
        focus (intro w_ hSw_; go_simp; try with_reducible rfl)
        simp only [Act.put, List.setIfInBounds_toArray, List.set_cons_zero, List.set_cons_succ]
        refine wpAnyH_take (i := 4) (v := ?_) (by simp only [List.getElem?_toArray, List.getElem?_cons_succ, List.getElem?_cons_zero]; rfl) (by kernel_rfl) (by kernel_rfl) (by kernel_rfl) (by intro _ _ _ h_; exact h_) (Or.inl ⟨by rfl, ?_⟩) (by assumption) ?_
        rotate_left 1
        focus (intro w_ hSw_; go_simp; try with_reducible rfl)
        simp only [Act.put, List.setIfInBounds_toArray, List.set_cons_zero, List.set_cons_succ]
        refine wpAnyH_take (i := 5) (v := ?_) (by simp only [List.getElem?_toArray, List.getElem?_cons_succ, List.getElem?_cons_zero]; rfl) (by kernel_rfl) (by kernel_rfl) (by kernel_rfl) (by intro _ _ _ h_; exact h_) (Or.inl ⟨by rfl, ?_⟩) (by assumption) ?_
        rotate_left 1
        focus (intro w_ hSw_; go_simp; try with_reducible rfl)
        simp only [Act.put, List.setIfInBounds_toArray, List.set_cons_zero, List.set_cons_succ]
        refine wpAnyH_take (i := 6) (v := _) (by simp only [List.getElem?_toArray, List.getElem?_cons_succ, List.getElem?_cons_zero]; rfl) (by kernel_rfl) (by kernel_rfl) (by kernel_rfl) (by intro _ _ _ h_; exact h_) (yieldsIf_load_mid (by rfl) _ _ rfl b o rfl (guc e.id) _ (fun w_ h_ => Hrg.out w_ h_) hu30 rfl hi30) (by assumption) ?_
        simp only [Act.put, List.setIfInBounds_toArray, List.set_cons_zero, List.set_cons_succ]
        refine wpAnyH_take (i := 7) (v := ?_) (by simp only [List.getElem?_toArray, List.getElem?_cons_succ, List.getElem?_cons_zero]; rfl) (by kernel_rfl) (by kernel_rfl) (by kernel_rfl) (by intro _ _ _ h_; exact h_) (Or.inl ⟨by rfl, ?_⟩) (by assumption) ?_
        rotate_left 1
        focus (intro w_ hSw_; go_simp; try with_reducible rfl)
        simp only [Act.put, List.setIfInBounds_toArray, List.set_cons_zero, List.set_cons_succ]
        refine wpAnyH_take (i := 8) (v := ?_) (by simp only [List.getElem?_toArray, List.getElem?_cons_succ, List.getElem?_cons_zero]; rfl) (by kernel_rfl) (by kernel_rfl) (by kernel_rfl) (by intro _ _ _ h_; exact h_) (Or.inl ⟨by rfl, ?_⟩) (by assumption) ?_
        rotate_left 1
        focus (intro w_ hSw_; go_simp; try with_reducible rfl)
        simp only [Act.put, List.setIfInBounds_toArray, List.set_cons_zero, List.set_cons_succ]
        refine wpAnyH_take (i := 9) (v := ?_) (by simp only [List.getElem?_toArray, List.getElem?_cons_succ, List.getElem?_cons_zero]; rfl) (by kernel_rfl) (by kernel_rfl) (by kernel_rfl) (by intro _ _ _ h_; exact h_) (Or.inl ⟨by rfl, ?_⟩) (by assumption) ?_
        rotate_left 1
        focus (intro w_ hSw_; go_simp; try with_reducible rfl)
        simp only [Act.put, List.setIfInBounds_toArray, List.set_cons_zero, List.set_cons_succ]
        refine wpAnyH_take (i := 11) (v := ?_) (by simp only [List.getElem?_toArray, List.getElem?_cons_succ, List.getElem?_cons_zero]; rfl) (by kernel_rfl) (by kernel_rfl) (by kernel_rfl) (by intro _ _ _ h_; exact h_) (Or.inl ⟨by rfl, ?_⟩) (by assumption) ?_
        rotate_left 1
        focus (intro w_ hSw_; go_simp; try with_reducible rfl)
        simp only [Act.put, List.setIfInBounds_toArray, List.set_cons_zero, List.set_cons_succ]
        refine wpAnyH_take (i := 12) (v := ?_) (by simp only [List.getElem?_toArray, List.getElem?_cons_succ, List.getElem?_cons_zero]; rfl) (by kernel_rfl) (by kernel_rfl) (by kernel_rfl) (by intro _ _ _ h_; exact h_) (Or.inl ⟨by rfl, ?_⟩) (by assumption) ?_
        rotate_left 1
        focus (intro w_ hSw_; go_simp; try with_reducible rfl)
        simp only [Act.put, List.setIfInBounds_toArray, List.set_cons_zero, List.set_cons_succ]
        refine wpAnyH_take (i := 13) (v := ?_) (by simp only [List.getElem?_toArray, List.getElem?_cons_succ, List.getElem?_cons_zero]; rfl) (by kernel_rfl) (by kernel_rfl) (by kernel_rfl) (by intro _ _ _ h_; exact h_) (Or.inl ⟨by rfl, ?_⟩) (by assumption) ?_
        rotate_left 1
        focus (intro w_ hSw_; go_simp; try with_reducible rfl)
        simp only [Act.put, List.setIfInBounds_toArray, List.set_cons_zero, List.set_cons_succ]
        refine wpAnyH_take (i := 15) (v := ?_) (by simp only [List.getElem?_toArray, List.getElem?_cons_succ, List.getElem?_cons_zero]; rfl) (by kernel_rfl) (by kernel_rfl) (by kernel_rfl) (by intro _ _ _ h_; exact h_) (Or.inl ⟨by rfl, ?_⟩) (by assumption) ?_
        rotate_left 1
        focus (intro w_ hSw_; go_simp; try with_reducible rfl)
        simp only [Act.put, List.setIfInBounds_toArray, List.set_cons_zero, List.set_cons_succ]
        refine wpAnyH_take (i := 16) (v := ?_) (by simp only [List.getElem?_toArray, List.getElem?_cons_succ, List.getElem?_cons_zero]; rfl) (by kernel_rfl) (by kernel_rfl) (by kernel_rfl) (by intro _ _ _ h_; exact h_) (Or.inl ⟨by rfl, ?_⟩) (by assumption) ?_
        rotate_left 1
        focus (intro w_ hSw_; go_simp; try with_reducible rfl)
        simp only [Act.put, List.setIfInBounds_toArray, List.set_cons_zero, List.set_cons_succ]
        refine wpAnyH_take (i := 17) (v := ?_) (by simp only [List.getElem?_toArray, List.getElem?_cons_succ, List.getElem?_cons_zero]; rfl) (by kernel_rfl) (by kernel_rfl) (by kernel_rfl) (by intro _ _ _ h_; exact h_) (Or.inl ⟨by rfl, ?_⟩) (by assumption) ?_
        rotate_left 1
        focus (intro w_ hSw_; go_simp; try with_reducible rfl)
        simp only [Act.put, List.setIfInBounds_toArray, List.set_cons_zero, List.set_cons_succ]
        refine wpAnyH_ready (rs := [10, 20]) (by kernel_rfl) (by simp) ?_
        refine AllReadyH.cons (by simp only [List.getElem?_toArray, List.getElem?_cons_succ, List.getElem?_cons_zero]; rfl) (fun K hK => ?_) (AllReadyH.cons (by simp only [List.getElem?_toArray, List.getElem?_cons_succ, List.getElem?_cons_zero]; rfl) (fun K hK => ?_) AllReadyH.nil)
        · go_simp
          refine (Hn1.out _ (by assumption)).mono ?_
          rintro r w5 ⟨rfl, hd1⟩
          (first | (have hz := HzD.out _ _ (by assumption) hd1; have hT := HTA.out _ hz) | (have hT := HTD.out _ _ (by assumption) hd1))
          go_wp2_with fail
          refine hK.out _ _ (HkD.out _ _ (by assumption) hd1) (fun hHeld => ?_)
          clear hK K
          try simp only [Act.put, List.setIfInBounds_toArray, List.set_cons_zero, List.set_cons_succ]
          refine wpAnyH_ready (rs := [14, 20]) (by kernel_rfl) (by simp) ?_
          refine AllReadyH.cons (by simp only [List.getElem?_toArray, List.getElem?_cons_succ, List.getElem?_cons_zero]; rfl) (fun K hK => ?_) (AllReadyH.cons (by simp only [List.getElem?_toArray, List.getElem?_cons_succ, List.getElem?_cons_zero]; rfl) (fun K hK => ?_) AllReadyH.nil)
          · go_simp
            refine (Hn2.out _ (by assumption)).mono ?_
            rintro r w6 ⟨rfl, hd2⟩
            (first | (have hz := HzD.out _ _ (by assumption) hd2; have hT := HTA.out _ hz) | (have hT := HTD.out _ _ (by assumption) hd2))
            go_wp2_with fail
            refine hK.out _ _ (HkD.out _ _ (by assumption) hd2) (fun hHeld => ?_)
            clear hK K
            try simp only [Act.put, List.setIfInBounds_toArray, List.set_cons_zero, List.set_cons_succ]
            refine wpAnyH_ready (rs := [18, 20]) (by kernel_rfl) (by simp) ?_
            refine AllReadyH.cons (by simp only [List.getElem?_toArray, List.getElem?_cons_succ, List.getElem?_cons_zero]; rfl) (fun K hK => ?_) (AllReadyH.cons (by simp only [List.getElem?_toArray, List.getElem?_cons_succ, List.getElem?_cons_zero]; rfl) (fun K hK => ?_) AllReadyH.nil)
            · go_simp
              refine (Hn3.out _ (by assumption)).mono ?_
              rintro r w7 ⟨rfl, hd3⟩
              (first | (have hz := HzD.out _ _ (by assumption) hd3; have hT := HTA.out _ hz) | (have hT := HTD.out _ _ (by assumption) hd3))
              go_wp2_with fail
              refine hK.out _ _ (HkD.out _ _ (by assumption) hd3) (fun hHeld => ?_)
              clear hK K
              try simp only [Act.put, List.setIfInBounds_toArray, List.set_cons_zero, List.set_cons_succ]
              refine wpAnyH_take (i := 19) (v := ?_) (by simp only [List.getElem?_toArray, List.getElem?_cons_succ, List.getElem?_cons_zero]; rfl) (by kernel_rfl) (by kernel_rfl) (by kernel_rfl) (by intro _ _ _ h_; exact h_) (Or.inl ⟨by rfl, ?_⟩) (by assumption) ?_
              rotate_left 1
              focus (intro w_ hSw_; go_simp; try with_reducible rfl)
              simp only [Act.put, List.setIfInBounds_toArray, List.set_cons_zero, List.set_cons_succ]
              refine wpAnyH_ready (rs := [20]) (by kernel_rfl) (by simp) ?_
              refine AllReadyH.cons (by simp only [List.getElem?_toArray, List.getElem?_cons_succ, List.getElem?_cons_zero]; rfl) (fun K hK => ?_) AllReadyH.nil
              go_simp
              refine hK.out _ _ (HRA.out _ (by assumption)) (fun hHeld => ?_)
              clear hK K
              try simp only [Act.put, List.setIfInBounds_toArray, List.set_cons_zero, List.set_cons_succ]
              refine wpAnyH_ready (rs := [21]) (by kernel_rfl) (by simp) ?_
              refine AllReadyH.cons (by simp only [List.getElem?_toArray, List.getElem?_cons_succ, List.getElem?_cons_zero]; rfl) (fun K hK => ?_) AllReadyH.nil
              go_simp
              refine hK.out _ _ (HkS.out _ (by assumption)) (fun hHeld => ?_)
              clear hK K
              refine wpAnyH_done (by kernel_rfl) ?_ _
              go_wp2_with fail
              go_meet
              case rel => exact ⟨rfl, Hfin.out _ (((hd0.trans hd1).trans (hd2.trans hd3)).allocd _)⟩
            · go_simp
              refine hK.out _ _ (HRA.out _ (by assumption)) (fun hHeld => ?_)
              clear hK K
              try simp only [Act.put, List.setIfInBounds_toArray, List.set_cons_zero, List.set_cons_succ]
              refine wpAnyH_ready (rs := [18]) (by kernel_rfl) (by simp) ?_
              refine AllReadyH.cons (by simp only [List.getElem?_toArray, List.getElem?_cons_succ, List.getElem?_cons_zero]; rfl) (fun K hK => ?_) AllReadyH.nil
              go_simp
              refine (Hn3.out _ (by assumption)).mono ?_
              rintro r w7 ⟨rfl, hd3⟩
              (first | (have hz := HzD.out _ _ (by assumption) hd3; have hT := HTA.out _ hz) | (have hT := HTD.out _ _ (by assumption) hd3))
              go_wp2_with fail
              refine hK.out _ _ (HkD.out _ _ (by assumption) hd3) (fun hHeld => ?_)
              clear hK K
              try simp only [Act.put, List.setIfInBounds_toArray, List.set_cons_zero, List.set_cons_succ]
              refine wpAnyH_take (i := 19) (v := ?_) (by simp only [List.getElem?_toArray, List.getElem?_cons_succ, List.getElem?_cons_zero]; rfl) (by kernel_rfl) (by kernel_rfl) (by kernel_rfl) (by intro _ _ _ h_; exact h_) (Or.inl ⟨by rfl, ?_⟩) (by assumption) ?_
              rotate_left 1
              focus (intro w_ hSw_; go_simp; try with_reducible rfl)
              simp only [Act.put, List.setIfInBounds_toArray, List.set_cons_zero, List.set_cons_succ]
              refine wpAnyH_ready (rs := [21]) (by kernel_rfl) (by simp) ?_
              refine AllReadyH.cons (by simp only [List.getElem?_toArray, List.getElem?_cons_succ, List.getElem?_cons_zero]; rfl) (fun K hK => ?_) AllReadyH.nil
              go_simp
              refine hK.out _ _ (HkS.out _ (by assumption)) (fun hHeld => ?_)
              clear hK K
              refine wpAnyH_done (by kernel_rfl) ?_ _
              go_wp2_with fail
              go_meet
              case rel => exact ⟨rfl, Hfin.out _ ((((hd0.trans hd1).trans hd2).allocd _).trans hd3)⟩
          · go_simp
            refine hK.out _ _ (HRA.out _ (by assumption)) (fun hHeld => ?_)
            clear hK K
            try simp only [Act.put, List.setIfInBounds_toArray, List.set_cons_zero, List.set_cons_succ]
            refine wpAnyH_ready (rs := [14]) (by kernel_rfl) (by simp) ?_
            refine AllReadyH.cons (by simp only [List.getElem?_toArray, List.getElem?_cons_succ, List.getElem?_cons_zero]; rfl) (fun K hK => ?_) AllReadyH.nil
            go_simp
            refine (Hn2.out _ (by assumption)).mono ?_
            rintro r w6 ⟨rfl, hd2⟩
            (first | (have hz := HzD.out _ _ (by assumption) hd2; have hT := HTA.out _ hz) | (have hT := HTD.out _ _ (by assumption) hd2))
            go_wp2_with fail
            refine hK.out _ _ (HkD.out _ _ (by assumption) hd2) (fun hHeld => ?_)
            clear hK K
            try simp only [Act.put, List.setIfInBounds_toArray, List.set_cons_zero, List.set_cons_succ]
            refine wpAnyH_ready (rs := [18]) (by kernel_rfl) (by simp) ?_
            refine AllReadyH.cons (by simp only [List.getElem?_toArray, List.getElem?_cons_succ, List.getElem?_cons_zero]; rfl) (fun K hK => ?_) AllReadyH.nil
            go_simp
            refine (Hn3.out _ (by assumption)).mono ?_
            rintro r w7 ⟨rfl, hd3⟩
            (first | (have hz := HzD.out _ _ (by assumption) hd3; have hT := HTA.out _ hz) | (have hT := HTD.out _ _ (by assumption) hd3))
            go_wp2_with fail
            refine hK.out _ _ (HkD.out _ _ (by assumption) hd3) (fun hHeld => ?_)
            clear hK K
            try simp only [Act.put, List.setIfInBounds_toArray, List.set_cons_zero, List.set_cons_succ]
            refine wpAnyH_take (i := 19) (v := ?_) (by simp only [List.getElem?_toArray, List.getElem?_cons_succ, List.getElem?_cons_zero]; rfl) (by kernel_rfl) (by kernel_rfl) (by kernel_rfl) (by intro _ _ _ h_; exact h_) (Or.inl ⟨by rfl, ?_⟩) (by assumption) ?_
            rotate_left 1
            focus (intro w_ hSw_; go_simp; try with_reducible rfl)
            simp only [Act.put, List.setIfInBounds_toArray, List.set_cons_zero, List.set_cons_succ]
            refine wpAnyH_ready (rs := [21]) (by kernel_rfl) (by simp) ?_
            refine AllReadyH.cons (by simp only [List.getElem?_toArray, List.getElem?_cons_succ, List.getElem?_cons_zero]; rfl) (fun K hK => ?_) AllReadyH.nil
            go_simp
            refine hK.out _ _ (HkS.out _ (by assumption)) (fun hHeld => ?_)
            clear hK K
            refine wpAnyH_done (by kernel_rfl) ?_ _
            go_wp2_with fail
            go_meet
            case rel => exact ⟨rfl, Hfin.out _ (((hd0.trans hd1).allocd _).trans (hd2.trans hd3))⟩
        · go_simp
          refine hK.out _ _ (HRA.out _ (by assumption)) (fun hHeld => ?_)
          clear hK K
          try simp only [Act.put, List.setIfInBounds_toArray, List.set_cons_zero, List.set_cons_succ]
          refine wpAnyH_ready (rs := [10]) (by kernel_rfl) (by simp) ?_
          refine AllReadyH.cons (by simp only [List.getElem?_toArray, List.getElem?_cons_succ, List.getElem?_cons_zero]; rfl) (fun K hK => ?_) AllReadyH.nil
          go_simp
          refine (Hn1.out _ (by assumption)).mono ?_
          rintro r w5 ⟨rfl, hd1⟩
          (first | (have hz := HzD.out _ _ (by assumption) hd1; have hT := HTA.out _ hz) | (have hT := HTD.out _ _ (by assumption) hd1))
          go_wp2_with fail
          refine hK.out _ _ (HkD.out _ _ (by assumption) hd1) (fun hHeld => ?_)
          clear hK K
          try simp only [Act.put, List.setIfInBounds_toArray, List.set_cons_zero, List.set_cons_succ]
          refine wpAnyH_ready (rs := [14]) (by kernel_rfl) (by simp) ?_
          refine AllReadyH.cons (by simp only [List.getElem?_toArray, List.getElem?_cons_succ, List.getElem?_cons_zero]; rfl) (fun K hK => ?_) AllReadyH.nil
          go_simp
          refine (Hn2.out _ (by assumption)).mono ?_
          rintro r w6 ⟨rfl, hd2⟩
          (first | (have hz := HzD.out _ _ (by assumption) hd2; have hT := HTA.out _ hz) | (have hT := HTD.out _ _ (by assumption) hd2))
          go_wp2_with fail
          refine hK.out _ _ (HkD.out _ _ (by assumption) hd2) (fun hHeld => ?_)
          clear hK K
          try simp only [Act.put, List.setIfInBounds_toArray, List.set_cons_zero, List.set_cons_succ]
          refine wpAnyH_ready (rs := [18]) (by kernel_rfl) (by simp) ?_
          refine AllReadyH.cons (by simp only [List.getElem?_toArray, List.getElem?_cons_succ, List.getElem?_cons_zero]; rfl) (fun K hK => ?_) AllReadyH.nil
          go_simp
          refine (Hn3.out _ (by assumption)).mono ?_
          rintro r w7 ⟨rfl, hd3⟩
          (first | (have hz := HzD.out _ _ (by assumption) hd3; have hT := HTA.out _ hz) | (have hT := HTD.out _ _ (by assumption) hd3))
          go_wp2_with fail
          refine hK.out _ _ (HkD.out _ _ (by assumption) hd3) (fun hHeld => ?_)
          clear hK K
          try simp only [Act.put, List.setIfInBounds_toArray, List.set_cons_zero, List.set_cons_succ]
          refine wpAnyH_take (i := 19) (v := ?_) (by simp only [List.getElem?_toArray, List.getElem?_cons_succ, List.getElem?_cons_zero]; rfl) (by kernel_rfl) (by kernel_rfl) (by kernel_rfl) (by intro _ _ _ h_; exact h_) (Or.inl ⟨by rfl, ?_⟩) (by assumption) ?_
          rotate_left 1
          focus (intro w_ hSw_; go_simp; try with_reducible rfl)
          simp only [Act.put, List.setIfInBounds_toArray, List.set_cons_zero, List.set_cons_succ]
          refine wpAnyH_ready (rs := [21]) (by kernel_rfl) (by simp) ?_
          refine AllReadyH.cons (by simp only [List.getElem?_toArray, List.getElem?_cons_succ, List.getElem?_cons_zero]; rfl) (fun K hK => ?_) AllReadyH.nil
          go_simp
          refine hK.out _ _ (HkS.out _ (by assumption)) (fun hHeld => ?_)
          clear hK K
          refine wpAnyH_done (by kernel_rfl) ?_ _
          go_wp2_with fail
          go_meet
          case rel => exact ⟨rfl, Hfin.out _ ((Drn.trans ⟨1, rfl⟩ hd1).trans (hd2.trans hd3))⟩
      case rest =>
        as_aux_lemma =>
        obtain ⟨rfl, hx5, hf5⟩ := hcut
        have hbl : Below x wr wc := ((Below.refl x wr).alloc (by omega) _).trans (hf5.below (by simp; omega) (by rintro k rfl; exact Nat.le_refl _))
        have hbl' : Below wr.heap.size wr wc := by rw [hx]; exact hbl
        have HO5 := Lib.hid (HO.out.later hbl')
        have HS5 := Lib.hid (HS.out.later hbl')
        have HB5 := Lib.hid (Hb.out.trans (hbl.mono (by have := Hs.out; omega)))
        have Hs5 : Hid (B + 1 ≤ wc.heap.size) := Lib.hid (by have := Hs.out; have := hbl.size; omega)
        have Hx5 := Lib.hid hx5
        have hlg := run_loadGu (rangeGu hx5)
        have hle := run_loadEn (rangeEn hx5)
        have heq := fun w => gu_equal e.id gz w
        have hbz := fun w => run_buildGz w
        have hgd : Try.prog.eqGuardType Try.prog.depth 30 = false := by kernel_rfl
        have hge : Try.prog.eqGuardType Try.prog.depth 32 = false := by kernel_rfl
        have Hbx : Hid (B ≠ x) := Lib.hid (by have := Hs.out; omega)
        clear hbl hbl' hf5 hx5 HO HS Hb Hs hsl hat hbd hgl hst hz32 Hn1 Hn2 Hn3 HTD HTA HzD HRA hR0 hR0a hT0 hd0 Hfin HkD HkS Hrd hx hx1 q2 q3 hu30 hi30 Hrg
        by_cases hz : e.id = gz
        · have t1 : decide (e.id = gz) = true := decide_eq_true hz
          rw [t1] at heq
          have hbn := fun w => run_buildEnd n w
          have hne := fun w => en_equal (a := e) (b := ⟨gz, n, 0, 0⟩) (by rw [← he]; exact entAt_ok _ _) ⟨by simp only; omega, by simp only; omega, by simp only; omega⟩ w
          have u1 : IntKind.u64.wrap (n : Int) = (n : Int) := IntWalk.u64_in _ (by omega)
          have hres := Lib.hid (Hgo.out.trans (tabGo_end (by rw [Hl.out]; exact HF.out) (by rw [Hl.out]; exact hlt) (by rw [he]; exact hz)))
          rw [he, Hl.out] at hres
          clear t1
          by_cases hq : e = ⟨gz, n, 0, 0⟩
          · have t2 : decide (e = ⟨gz, n, 0, 0⟩) = true := decide_eq_true hq
            rw [t2] at hne
            have hr := Lib.hid (hres.out.trans (if_pos hq))
            obtain ⟨a40, h40⟩ : ∃ a40, a + 40 = a40 := ⟨_, rfl⟩
            have q4 : IntKind.i64.wrap ((a : Int) + 40) = (a40 : Int) := by rw [← h40]; simp [IntKind.wrap, IntKind.bits, IntKind.signed]; omega
            have q5 : IntKind.u64.wrap (a40 : Int) = (a40 : Int) := IntWalk.u64_in _ (by omega)
            rw [h40] at hr
            clear hz hq t2 he hres h40 q1
            go_wp2_with fail
            go_ret3
            exact ⟨v, a40, by rw [hr.out]; rfl, ⟨Or.inl ⟨es, by rw [hr.out], HO5.out.mono (by rw [HBx.out]; omega)⟩⟩, by rw [HBx.out]; exact HB5.out⟩
          · have t2 : decide (e = ⟨gz, n, 0, 0⟩) = false := decide_eq_false hq
            rw [t2] at hne
            have hr := Lib.hid (hres.out.trans (if_neg hq))
            clear hz hq t2 he hres q1
            go_wp2_with fail
            go_ret3
            exact ⟨.slice none 0 0, 0, by rw [hr.out]; rfl, ⟨Or.inr ⟨by rw [hr.out], rfl, rfl⟩⟩, by rw [HBx.out]; exact HB5.out⟩
        · have t1 : decide (e.id = gz) = false := decide_eq_false hz
          rw [t1] at heq
          have hz' : (entAt l a).id ≠ gz := by rw [he]; exact hz
          obtain ⟨ao, cp, rfl, hcp, hcm, hrd, hnil⟩ := HO5.out.rd enc_len
          clear t1 hz
          by_cases hm : es.length = 32
          · have hr := Lib.hid (Hgo.out.trans (tabGo_many (by rw [Hl.out]; exact HF.out) (by rw [Hl.out]; exact hlt) hz' hm))
            clear hz' he hrd hnil hcp hcm q1
            have hm' : (es.length : Int) = 32 := by omega
            clear hm
            go_wp2_with fail
            go_ret3
            exact ⟨.slice none 0 0, 0, by rw [hr.out]; rfl, ⟨Or.inr ⟨by rw [hr.out], rfl, rfl⟩⟩, by rw [HBx.out]; exact HB5.out⟩
          · have hm' : ((es.length : Int) == 32) = false := beq_eq_false_iff_ne.2 (by omega)
            obtain ⟨k, hlk⟩ := HS5.out.look_ok e.id
            by_cases hin : e.id ∈ es.map En.id
            · rw [decide_eq_true hin] at hlk
              have hr := Lib.hid (Hgo.out.trans (tabGo_twice (by rw [Hl.out]; exact HF.out) (by rw [Hl.out]; exact hlt) hz' hm (by rw [he]; exact hin)))
              clear hz' he hrd hnil hcp hcm hm hin q1
              go_wp2_with fail
              go_ret3
              exact ⟨.slice none 0 0, 0, by rw [hr.out]; rfl, ⟨Or.inr ⟨by rw [hr.out], rfl, rfl⟩⟩, by rw [HBx.out]; exact HB5.out⟩
            · rw [decide_eq_false hin] at hlk
              obtain ⟨F', hgo', hF'⟩ := tabGo_next (F := F) (es := es) (by rw [Hl.out]; exact HF.out) (by rw [Hl.out]; exact hlt) hz' hm (by rw [he]; exact hin)
              rw [he] at hgo'
              have hr := Lib.hid (Hgo.out.trans hgo')
              have HF' := Lib.hid hF'
              have hml : Hid (es.length < maxLen) := Lib.hid (by have := Hes.out; unfold maxLen; omega)
              have hes' := Hes.out
              have Heok : Hid e.Ok := Lib.hid (by rw [← he]; exact entAt_ok _ _)
              clear hz' he hrd hnil hcp hcm hin hgo' hF' q1
              go_wp2_with (refine wpList_put_gu rfl _ _ _ rfl B es.length _ rfl HS5.out hml.out e.id _ rfl rfl ?_)
              intro w6 hs6 hg6
              have Hob := Lib.hid (HO5.out.blk enc_len)
              have HO6 := Lib.hid (HO5.out.grown hg6 (fun q hq e' => by have := (Hob.out q hq).1; have := Option.some.inj e'; omega))
              have hx6 := Hx5.out.grown hg6 (fun e' => Hbx.out (Option.some.inj e').symm)
              have HB6 := Lib.hid (HB5.out.grown hg6 (by have := Hs5.out; omega) (fun q hq => by have := Option.some.inj hq; omega))
              have Hs6 : Hid (B + 1 ≤ w6.heap.size) := Lib.hid (Nat.le_trans Hs5.out hg6.size)
              have HS6 := Lib.hid hs6
              have hle6 := run_loadEn (rangeEn hx6)
              have hbs := fun w => run_bsEn e w
              have HN := Lib.hid (HB.new w6 (enc e) 32)
              have HO7 := Lib.hid (HO6.out.alloc (.cells (enc e).toArray 32))
              have HS7 := Lib.hid (HS6.out.alloc (.cells (enc e).toArray 32))
              have HB7 := Lib.hid (HB6.out.alloc (by have := Hs6.out; omega) (.cells (enc e).toArray 32))
              have Hs7 : Hid (B + 1 ≤ (w6.alloc (.cells (enc e).toArray 32)).heap.size) := Lib.hid (by simp; have := Hs6.out; omega)
              clear hs6 hg6 hx6 hlg hle hlk heq hbz Hx5 HO5 HS5 HB5 Hs5 HO6 HS6 HB6 Hob
              go_wp2_with (at_builtin; refine wpList_append_S enLay rfl _ _ rfl (B + 1) _ es rfl HO7.out (some ⟨w6.heap.size, 0, none⟩) 1 1 [e] rfl (fun h => by cases h) rfl (RdS.one HN.out) (by have := Hes.out; unfold maxLen; omega) (by have := Hes.out; omega) Hs7.out ?_)
              intro v8 w8 ho8 hg8
              have Hob := Lib.hid (HO7.out.blk enc_len)
              have HO8 := Lib.hid ho8
              have HS8 := Lib.hid (HS7.out.kept hg8 (fun e' => by have := (Hob.out B e'.symm).1; omega))
              have HB8 := Lib.hid (HB7.out.grown hg8 (by have := Hs7.out; omega) (fun q hq => by have := (Hob.out q hq).1; omega))
              have Hs8 : Hid (B + 1 ≤ w8.heap.size) := Lib.hid (Nat.le_trans Hs7.out hg8.size)
              have HS9 : Hid (GSet w8 B (es ++ [e]).length (fun g => g ∈ (es ++ [e]).map En.id)) := Lib.hid (by
                rw [List.length_append]; exact HS8.out.congr (fun g => by simp [eq_comm]))
              have Hokk : Hid (∀ y ∈ es ++ [e], y.Ok) := Lib.hid (fun y hy => by
                rw [List.mem_append, List.mem_singleton] at hy
                rcases hy with hy | rfl
                · exact Hok.out y hy
                · exact Heok.out)
              clear ho8 hg8 hle6 hbs Hob
              go_wp2_with fail
              first
              | (go_roundw
                 case rel => exact ⟨F', a + 40, es ++ [e], v8, by go_num, rfl, hr.out, by have := HF'.out; have := Hl.out; omega, by omega, by rw [List.length_append]; simp; omega, HO8.out, HS9.out, Hokk.out, HB8.out, Hs8.out⟩
                 case measure => (first | omega | (simp [intOf] <;> omega) | (simp only [intOf] <;> omega)))
              | exact ⟨⟨F', a + 40, es ++ [e], v8, by go_num, rfl, hr.out, by have := HF'.out; have := Hl.out; omega, by omega, by rw [List.length_append]; simp; omega, HO8.out, HS9.out, Hokk.out, HB8.out, Hs8.out⟩, by (first | omega | (simp [intOf] <;> omega) | (simp only [intOf] <;> omega))⟩
              | (refine ⟨?_, by (first | omega | (simp [intOf] <;> omega) | (simp only [intOf] <;> omega))⟩
                 (repeat apply Exists.intro)
                 refine (fun a b => And.intro b a) ?_ ?_
                 · first | rfl | ((repeat refine ⟨rfl, ?_⟩); rfl)
                 exact ⟨F', a + 40, es ++ [e], v8, by go_num, rfl, hr.out, by have := HF'.out; have := Hl.out; omega, by omega, by rw [List.length_append]; simp; omega, HO8.out, HS9.out, Hokk.out, HB8.out, Hs8.out⟩)
end Go.Proofs.Ytefkmlfpdlnodaa
