/- What was packed is unpacked: the walk. No condition. -/
import Derived.Test.YtefkmlfpdlnodaaFipW
import Derived.Test.YtefkmlfpdlnodaaFipK
import Derived.Test.YtefkmlfpdlnodaaFipA
import Derived.Test.YtefkmlfpdlnodaaSameN
import Derived.Test.YtefkmlfpdlnodaaOpenI
import Derived.BigQuiet
namespace Go.Proofs.Ytefkmlfpdlnodaa.fipBack
open Go.ChangeShapes Go.WideShapes Go.ChangeAt Go.RowKit
set_option linter.unusedVariables false
set_option linter.unusedSimpArgs false
attribute [local go_sem ↓] load_en load_gu
structure BackIn (B : Nat) (b : List UInt8) (es : List En) (W : World) (vb ve : Value) (i : Value) (wr : World) : Prop where
  x : ∃ k : Nat, k ≤ es.length ∧ i = .int .i64 k ∧ Own 5 wr B vb b ∧ OwnS Go.Proofs.Ytefkmlfpdlnodaa.enc 32 19 wr B ve es ∧ Below B W wr ∧ B ≤ wr.heap.size
theorem own_rd {w : World} {B n cp : Nat} {a : Option Addr} {l : List UInt8} (h : Own 5 w B (.slice a n cp) l) : Rd w a l := by
  obtain ⟨ao, c, he, _, _, hr⟩ := h.rd
  cases he; exact hr
theorem own_nil {w : World} {B n cp : Nat} {a : Option Addr} {l : List UInt8} (h : Own 5 w B (.slice a n cp) l) : a = none → cp = 0 := by
  rcases h.cases with ⟨h, _⟩ | ⟨g, c, h, _⟩
  · simp only [Value.slice.injEq] at h; exact fun _ => h.2.2
  · simp only [Value.slice.injEq] at h; rw [h.1]; exact fun h => by cases h
theorem own_ptr {w : World} {B n cp : Nat} {ao : Option Addr} {es : List En} (h : OwnS Go.Proofs.Ytefkmlfpdlnodaa.enc 32 19 w B (.slice ao n cp) es) {j : Nat} (hj : j < es.length) : ∃ g, ao = some ⟨g, 0, none⟩ := by
  rcases h.cases enc_len with ⟨_, h⟩ | ⟨g, _, h, _⟩
  · rw [h] at hj; simp at hj
  · cases h; exact ⟨g, rfl⟩
set_option maxHeartbeats 1000000 in
set_option maxRecDepth 100000 in
theorem core (w : World) (a1 a2 : Option Addr) (n n2 c1 c2 : Nat) (ids : List Gu) (ims : List Im) (hl1 : ids.length = n) (hl2 : ims.length = n2) (hn : n ≤ 140737488351232) (hn2 : n2 ≤ 140737488351232) (hc1 : n ≤ c1) (hr1 : RdS guc 16 w a1 ids) (hr2 : RdS imc 1 w a2 ims) (hok : ∀ m ∈ ims, Im.Ok w m) :
    Calls Try.prog 6 #[.slice a1 n c1, .slice a2 n2 c2] w fun e w' => e = .returned (.bool true) ∧ Below w.heap.size w w' := by
  have Hmk := Lib.hid (pmake_any a1 a2 n n2 c1 c2 ids ims w hl1 hl2 hn hn2 hc1 hr1 hr2 hok)
  have HR1 := Lib.hid hr1
  have HR2 := Lib.hid hr2
  have Hok := Lib.hid hok
  have Hl1 := Lib.hid hl1
  have Hl2 := Lib.hid hl2
  clear hl1 hl2 hr1 hr2 hok hc1 hn hn2
  go_enter Try.func6, Try.ntmps6
  go_wp2_with fail
  as_aux_lemma =>
  obtain ⟨B, hB⟩ : ∃ B, w.heap.size = B := ⟨_, rfl⟩
  have HBx := Lib.hid hB
  refine Hmk.out.mono ?_
  rintro e w2 ⟨v, rfl, ho2, hb2⟩
  have Hs2 : Hid (B ≤ w2.heap.size) := Lib.hid (by rw [← hB]; exact hb2.size)
  rw [hB] at ho2 hb2
  have Hb2 := Lib.hid hb2
  obtain ⟨av, cv, rfl, -, hcm, -⟩ := ho2.rd
  by_cases hc0 : (makeR ids (ims.map Im.l)).2 = 0
  case neg =>
    rcases makeR_said ids (ims.map Im.l) with ⟨h1, h2⟩ | ⟨h1, _⟩
    case inr => exact absurd h1 hc0
    rw [h2]
    generalize (makeR ids (ims.map Im.l)).2 = c at *
    have e3 : (c == 0) = false := beq_eq_false_iff_ne.2 h1
    have e4 : (c != 0) = true := by rw [bne, e3]; rfl
    rw [List.length_nil]
    clear h1 h2 hc0 ho2 hb2 hB Hmk hcm
    go_wp2_with fail
    as_aux_lemma =>
    refine (alive_any _).mono ?_
    rintro e w5 ⟨rfl, hb5⟩
    have HB5 := Lib.hid (Hb2.out.trans (hb5.mono Hs2.out))
    clear hb5
    go_wp2_with fail
    go_ret
    exact ⟨rfl, by rw [HBx.out]; exact HB5.out⟩
  obtain ⟨hlen, h131, es, hop, hel, hall⟩ := back hc0
  rw [hc0]
  have HO2 := Lib.hid ho2
  have HALL := Lib.hid hall
  have HOP := Lib.hid hop
  rw [List.length_map] at hlen
  generalize (makeR ids (ims.map Im.l)).1 = b at *
  have Hel : Hid (es.length = n) := Lib.hid (hel.trans Hl1.out)
  have hne2 : n2 = n := by rw [← Hl2.out, ← hlen]; exact Hl1.out
  have H131 := Lib.hid h131
  have hbn : b.length ≤ 140737488351232 := by omega
  have Hes32 : Hid (es.length ≤ 32) := Lib.hid (by
    cases es with
    | nil => exact Nat.zero_le _
    | cons x xs => exact (openR_fit hop (List.mem_cons_self)).2.2.2.2)
  have Hpo := Lib.hid (fun w' hc h => popen_any av b.length cv b w' rfl hc hbn h)
  rw [hop] at Hpo
  have Hpi := Lib.hid (fun g w' hc hz h => pimage_any av b.length cv b g w' rfl hc hbn hz h)
  subst hne2
  have hbc : b.length ≤ cv := by
    rcases ho2.cases with ⟨h, h0⟩ | ⟨g, c, h, _, _, h1, _⟩
    · rw [h0]; exact Nat.zero_le _
    · simp only [Value.slice.injEq] at h; omega
  have hnil := own_nil ho2
  clear hc0 hall hop hel hlen ho2 hb2 hB Hmk hcm h131
  go_wp2_with fail
  as_aux_lemma =>
  refine (Hpo.out _ hbc (own_rd HO2.out)).mono ?_
  rintro e w3 ⟨v, rfl, hsaid, hb3⟩
  rcases hsaid.x with ⟨es', hes, hown⟩ | ⟨hno, _⟩
  case inr => cases hno
  simp only [Option.some.injEq] at hes
  subst hes
  have HE3 := Lib.hid (hown.mono Hs2.out)
  have HO3 := Lib.hid (HO2.out.later hb3)
  have Hb3 := Lib.hid (Hb2.out.trans (hb3.mono Hs2.out))
  have Hs3 : Hid (B ≤ w3.heap.size) := Lib.hid (Nat.le_trans Hs2.out hb3.size)
  obtain ⟨ae, ce, rfl, -, -, -, -⟩ := HE3.out.rd enc_len
  rw [Hel.out] at HE3 Hes32 ⊢
  clear hsaid hb3 hown Hpo HO2 Hb2 Hs2
  go_wp2_with fail
  go_loopw [9, 10, 11] (fun i _ _ wr => BackIn B b es w (.slice av b.length cv) (.slice ae n2 ce) i wr) (fun i _ _ _ => n2 - (intOf i).toNat)
  case atStart => exact ⟨0, by omega, rfl, HO3.out, HE3.out, Hb3.out, Hs3.out⟩
  case round =>
    as_aux_lemma =>
    clear HO3 HE3 Hb3 Hs3
    obtain ⟨k, hk, rfl, ho, hes, hb, hs⟩ := hrel
    have HO := Lib.hid ho
    have HE := Lib.hid hes
    have Hb := Lib.hid hb
    have Hs := Lib.hid hs
    have e32 := Hes32.out
    rw [Hel.out] at hk
    clear ho hes hb hs
    have Hbw : Hid (Below w.heap.size w wr) := Lib.hid (by rw [HBx.out]; exact Hb.out)
    by_cases hlt : k < n2
    · obtain ⟨y, hy⟩ : ∃ y, es[k]? = some y := ⟨_, List.getElem?_eq_getElem (by rw [Hel.out]; exact hlt)⟩
      obtain ⟨hid1, d, hd, him⟩ := HALL.out k y hy
      rw [List.getElem?_map, Option.map_eq_some_iff] at hd
      obtain ⟨m, hm, hmd⟩ := hd
      have hmok := Hok.out m (List.mem_of_getElem? hm)
      obtain ⟨b1, o1, rfl, hb1l, hrg0⟩ := (HR1.out.below Hbw.out) k y.id hid1
      have hrg : wr.rangeAt b1 (o1 + k * 16) (guc y.id) := fun j v hj => hrg0 j v hj
      have HB1L := Lib.hid hb1l
      clear hb1l hrg0
      obtain ⟨b2, o2, rfl, hb2l, hcc⟩ := HR2.out k m hm
      have hlg := run_loadGu hrg
      have hc0 := Hpi.out y.id wr hbc hnil (own_rd HO.out)
      rw [him] at hc0
      have Hcall := Lib.hid hc0
      have HC2 := Lib.hid (hcc 0 _ rfl)
      have HB2L := Lib.hid hb2l
      have HRG := Lib.hid hrg
      have HY := Lib.hid hy
      have HMOK := Lib.hid hmok
      have HMD := Lib.hid hmd
      have f0 : (0 : Int) ≤ (k : Int) := by omega
      have f1 : (k : Int) < (n2 : Int) := by omega
      obtain ⟨ge, rfl⟩ := own_ptr HE.out (j := k) (by rw [Hel.out]; exact hlt)
      clear hy hid1 him hm hmd hmok hrg hcc hb2l hc0
      go_wp2_with fail
      as_aux_lemma =>
      refine Hcall.out.mono ?_
      rintro e w4 ⟨v, rfl, ho4, hb4⟩
      obtain ⟨a4, c4, rfl, h4c, h4m, hrd4⟩ := ho4.rd
      have HRD4 := Lib.hid hrd4
      have HO4 := Lib.hid (HO.out.later hb4)
      have HE4 := Lib.hid (HE.out.later hb4)
      have Hb4 := Lib.hid (Hb.out.trans (hb4.mono Hs.out))
      have Hs4 : Hid (B ≤ w4.heap.size) := Lib.hid (Nat.le_trans Hs.out hb4.size)
      have HRG4 : Hid (w4.rangeAt b1 (o1 + k * 16) (guc y.id)) := Lib.hid (fun j v hj => by
        have h1 := HRG.out j v hj
        rw [hb4.cell (p := ⟨b1, o1 + k * 16 + j, none⟩) HB1L.out]; exact h1)
      have hci : w4.cell? ⟨b2, o2 + k, none⟩ = some (.slice m.ao m.l.length m.cap) := by
        have h1 := HC2.out
        rw [show o2 + k * 1 + 0 = o2 + k by omega] at h1
        have h2 := Hbw.out.trans (hb4.mono Hbw.out.size)
        rw [h2.cell (p := ⟨b2, o2 + k, none⟩) HB2L.out]; exact h1
      have HMR : Hid (Rd w4 m.ao m.l) := Lib.hid (HMOK.out.r.below (Hbw.out.trans (hb4.mono Hbw.out.size)))
      have hdl : d.length ≤ 9223372036854775807 := Nat.le_trans (Nat.le_trans h4c h4m) (by decide)
      have HSM := Lib.hid (fun q => same_true a4 m.ao d.length m.l.length c4 m.cap d m.l (w4.drewN q) HMD.out.symm rfl rfl hdl (by rw [HMD.out]; exact hdl) (Drn.rd ⟨q, rfl⟩ HRD4.out) (Drn.rd ⟨q, rfl⟩ HMR.out))
      have hld := run_loadGu HRG4.out
      have hldd := fun q => run_loadGu (w := w4.drewN q) (b := b1) (o := o1 + k * 16) (g := y.id) (fun j v hj => HRG4.out j v hj)
      have hle := run_loadGu (rangeEnGu (HE4.out.range HY.out))
      have hled := fun q => run_loadGu (rangeEnGu ((HE4.out.drn (⟨q, rfl⟩ : Drn w4 (w4.drewN q))).range HY.out))
      have hcid := fun q => (show (w4.drewN q).cell? ⟨b2, o2 + k, none⟩ = some (.slice m.ao m.l.length m.cap) from hci)
      have heq := fun w => gu_equal y.id y.id w
      rw [decide_eq_true rfl] at heq
      have hgd : Try.prog.eqGuardType Try.prog.depth 30 = false := by kernel_rfl
      clear ho4 hb4 hrd4 h4c h4m hdl HO HE Hb Hs Hcall HC2 HB2L HRG HY HMOK HMD HALL HOP Hpi hlg
      clear HB1L
      go_wp2_with fail
      go_quiet ((go_at_call 12; exact quiet_drn (HSM.out _)))
      clear hld hldd hle hled hci hcid heq hgd HSM
      go_wp2_with fail
      have hdd : Drn w4 (w4.drewN nq) := ⟨_, rfl⟩
      first
      | (go_roundw
         case rel => exact ⟨k + 1, by rw [Hel.out]; omega, by go_num, HO4.out.later (hdd.below _), HE4.out.drn hdd, Hb4.out.trans (hdd.below _), Hs4.out⟩
         case measure => (first | omega | (simp [intOf] <;> omega) | (simp only [intOf] <;> omega)))
      | exact ⟨⟨k + 1, by rw [Hel.out]; omega, by go_num, HO4.out.later (hdd.below _), HE4.out.drn hdd, Hb4.out.trans (hdd.below _), Hs4.out⟩, by (first | omega | (simp [intOf] <;> omega) | (simp only [intOf] <;> omega))⟩
      | (refine ⟨?_, by (first | omega | (simp [intOf] <;> omega) | (simp only [intOf] <;> omega))⟩
         (repeat apply Exists.intro)
         refine (fun a b => And.intro b a) ?_ ?_
         · first | rfl | ((repeat refine ⟨rfl, ?_⟩); rfl)
         exact ⟨k + 1, by rw [Hel.out]; omega, by go_num, HO4.out.later (hdd.below _), HE4.out.drn hdd, Hb4.out.trans (hdd.below _), Hs4.out⟩)
    · go_wp2_with fail
      as_aux_lemma =>
      refine (alive_any _).mono ?_
      rintro e w5 ⟨rfl, hb5⟩
      have HB5 := Lib.hid (Hb.out.trans (hb5.mono Hs.out))
      clear hb5 Hb Hs HO HE
      go_wp2_with fail
      go_ret
      exact ⟨rfl, by rw [HBx.out]; exact HB5.out⟩
set_option maxRecDepth 100000 in
theorem walk {H : Type} (enc : TypeId × Value → H) (W : World) (base : Nat) (v0 : Value) (d0 : DataW H) (p0 : List MemPlace) (v1 : Value) (d1 : DataW H) (p1 : List MemPlace)
    (k0 : Value.okWide Try.prog W .any base 39 v0) (k1 : Value.okWide Try.prog W .any base 40 v1)
    (h0 : DataW.Trod enc Try.prog W 0 (fun _ => true) true 39 v0 d0 p0) (h1 : DataW.Trod enc Try.prog W 0 (fun _ => true) true 40 v1 d1 p1)
    (hsz : (DataW.weightsEach Try.prog [39, 40] ([d0, d1] ++ [])).all (· ≤ reachBytes) = true) :
    Calls Try.prog 6 #[v0, v1] W fun e w' => e = .returned (.bool true) ∧ Below W.heap.size W w' := by
  simp only [DataW.weightsEach, List.cons_append, List.nil_append] at hsz
  obtain ⟨z0, hsz⟩ := all_app hsz
  obtain ⟨z1, hsz⟩ := all_app hsz
  obtain ⟨a1, n, c1, ids, rfl, hl1, hc1, hz1, hr1, -, -⟩ := open_ids k0 h0 z0
  obtain ⟨a2, n2, c2, ims, rfl, hl2, hc2, hz2, hr2, -, hok⟩ := open_ims k1 h1 z1
  exact core W a1 a2 n n2 c1 c2 ids ims hl1 hl2 (by omega) (by omega) hc1 hr1 hr2 hok
end Go.Proofs.Ytefkmlfpdlnodaa.fipBack
