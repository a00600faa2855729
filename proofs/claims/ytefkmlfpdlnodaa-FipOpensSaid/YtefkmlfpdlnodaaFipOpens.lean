/- A package's table is what the document says: the walk. No condition. -/
import Derived.Test.YtefkmlfpdlnodaaFipI
import Derived.Test.YtefkmlfpdlnodaaFipT
import Derived.Test.YtefkmlfpdlnodaaFipA
import Derived.Test.YtefkmlfpdlnodaaFipU
import Derived.Test.YtefkmlfpdlnodaaSameN
import Derived.Test.YtefkmlfpdlnodaaOpen
namespace Go.Proofs.Ytefkmlfpdlnodaa.fipOpens
open Go.ChangeShapes Go.WideShapes Go.ChangeAt Go.RowKit
set_option linter.unusedVariables false
set_option linter.unusedSimpArgs false
attribute [local go_sem ↓] load_en store_en build_en
theorem run_build9 (w : World) : (buildEn #[(2, .int .u64 9)]).run Try.prog w = .ok (.agg (Go.Proofs.Ytefkmlfpdlnodaa.enc ⟨gz, 0, 9, 0⟩).toArray) w := by kernel_rfl
theorem run_storeEnAt {w : World} {b o : Nat} (e : En) (ht : w.there b o 19) : (storeEn (.pointer (some ⟨b, o, none⟩)) (.agg (Go.Proofs.Ytefkmlfpdlnodaa.enc e).toArray)).run Try.prog w = .ok () (w.setCells b o (Go.Proofs.Ytefkmlfpdlnodaa.enc e)) := by
  have := run_storeAt_mid (P := Try.prog) w b o 32 (Go.Proofs.Ytefkmlfpdlnodaa.enc e).toArray (by rw [List.size_toArray, enc_len]; exact ht) (by rw [List.size_toArray]; exact enInfo e) (by
    rw [Array.all_eq_true_iff_forall_mem]; intro u hu; exact enc_one e u (by simpa using hu))
  exact this
theorem said_own {w w' : World} {R : Option (List En) × Int} {v : Value} (h : OpSaid w w' R v) : OwnS Go.Proofs.Ytefkmlfpdlnodaa.enc 32 19 w' w.heap.size v (R.1.getD []) := by
  rcases h.x with ⟨es, h1, h2⟩ | ⟨h1, rfl⟩
  · rw [h1]; exact h2
  · rw [h1]; exact OwnS.nil _ _
theorem said_ok (l : List UInt8) : (∀ e ∈ (openR l).1.getD [], e.Ok) ∧ ((openR l).1.getD []).length ≤ 32 := by
  rcases h : openR l with ⟨o, c⟩
  cases o with
  | none => exact ⟨fun e he => (by cases he), Nat.zero_le _⟩
  | some es =>
    refine ⟨fun e he => (openR_fit h he).2.2.2.1, ?_⟩
    cases es with
    | nil => exact Nat.zero_le _
    | cons x xs => exact (openR_fit h (List.mem_cons_self)).2.2.2.2
/-- a list of the call's own, known by its block -/
theorem own_hb {w : World} {B n cv : Nat} {av : Option Addr} {es : List En} (h : OwnS Go.Proofs.Ytefkmlfpdlnodaa.enc 32 19 w B (.slice av n cv) es) :
    ∃ g, B ≤ g ∧ (0 < es.length → av = some ⟨g, 0, none⟩ ∧ ∃ cs, HB w g 32 cs ∧ es.length * 19 ≤ cs.length) := by
  rcases h.2 with ⟨_, hn⟩ | ⟨g, cap, cur, hv, hb, hg, hnc, hcm, hcs, htake⟩
  · exact ⟨B, Nat.le_refl _, fun h => by omega⟩
  · refine ⟨g, hb, fun _ => ⟨?_, cur.toList, hg, ?_⟩⟩
    · simp only [Value.slice.injEq] at hv; exact hv.1
    · have h1 : es.length * 19 ≤ cap * 19 := Nat.mul_le_mul_right _ hnc
      simp at hcs ⊢
      omega
theorem own_rd {w : World} {B n cp : Nat} {a : Option Addr} {l : List UInt8} (h : Own 5 w B (.slice a n cp) l) : Rd w a l := by
  obtain ⟨ao, c, he, _, _, hr⟩ := h.rd
  cases he; exact hr
theorem own_blk {E : TypeId} {w : World} {B : Nat} {v : Value} {l : List UInt8} (h : Own E w B v l) {k : Nat} (hk : v.ownBlock = some k) : k < w.heap.size := by
  rcases h.cases with ⟨rfl, _⟩ | ⟨g, cap, rfl, h1, h2, _⟩
  · cases hk
  · have e : g = k := Option.some.inj hk
    omega
structure OpensIn (B : Nat) (l : List UInt8) (es : List En) (W : World) (u want : Value) (i : Value) (wr : World) : Prop where
  x : ∃ k : Nat, k ≤ 2 ∧ i = .int .i64 k ∧ Own 5 wr B u l ∧ OwnS Go.Proofs.Ytefkmlfpdlnodaa.enc 32 19 wr B want es ∧ Below B W wr ∧ B ≤ wr.heap.size
structure WipeIn (n g : Nat) (W : World) (i : Value) (wr : World) : Prop where
  x : ∃ k : Nat, k ≤ n ∧ i = .int .i64 k ∧ (0 < n → ∃ cs, HB wr g 32 cs ∧ n * 19 ≤ cs.length) ∧ W.grownBy wr (some g)
set_option maxHeartbeats 1000000 in
theorem core (w : World) (ao : Option Addr) (n cap : Nat) (l : List UInt8) (hl : l.length = n) (hcap : n ≤ cap) (hcm : n ≤ 140737488351232) (hcz : ao = none → cap = 0) (hr : Rd w ao l) :
    Calls Try.prog 3 #[.slice ao n cap] w fun e w' => e = .returned (.bool true) ∧ Below w.heap.size w w' := by
  have hm := Lib.hid (Own.made0 5 w w.heap.size (Nat.le_refl _))
  have hr' := fun o => Lib.hid (hr.below ((Below.refl w.heap.size w).alloc (Nat.le_refl _) o))
  have Hl := Lib.hid hl
  have Hcz := Lib.hid hcz
  have Hr := Lib.hid hr
  have Hcap := Lib.hid hcap
  clear hl hcz hr hcap
  go_enter Try.func3, Try.ntmps3
  go_wp2_with (at_builtin; refine wpList_append_bytes byteRow rfl _ _ rfl w.heap.size _ [] rfl hm.out _ n cap l rfl Hcz.out Hl.out (hr' _).out ?c2 ?c3 ?_)
  case c2 => simp; omega
  case c3 => simp
  intro u w1 hou hg1
  have Hou := Lib.hid hou
  have Hb1 : Hid (Below w.heap.size w w1) := Lib.hid (((Below.refl w.heap.size w).alloc (Nat.le_refl _) _).grown hg1 (by simp) (fun q hq => by cases hq; exact Nat.le_refl _))
  have Hs1 : Hid (w.heap.size ≤ w1.heap.size) := Lib.hid Hb1.out.size
  have Hr1 := Lib.hid (Hr.out.below Hb1.out)
  clear hou hg1 hm
  obtain ⟨B, hB⟩ : ∃ B, w.heap.size = B := ⟨_, rfl⟩
  rw [hB] at Hou Hb1 Hs1
  have HBx := Lib.hid hB
  clear hB hr'
  have Hp := Lib.hid (fun ao cap w' hc h => popen_any ao n cap l w' Hl.out hc hcm h)
  have Hq := Lib.hid (ropen_any ao n cap l w1 Hl.out Hcap.out hcm Hr1.out)
  obtain ⟨Hok, H32⟩ := said_ok l
  have hown := fun (w w' : World) (v : Value) (h : OpSaid w w' (openR l) v) => said_own h
  generalize (openR l).1.getD [] = es at *
  have HOK := Lib.hid Hok
  have HN := Lib.hid H32
  have HOWN := Lib.hid hown
  clear Hok H32 hown
  go_wp2_with fail
  as_aux_lemma =>
  refine Hq.out.mono ?_
  rintro e w2 ⟨want, rfl, hsaid, hb2⟩
  generalize (openR l).2 = c at *
  have HW2 := Lib.hid ((HOWN.out _ _ _ hsaid).mono Hs1.out)
  have HO2 := Lib.hid (Hou.out.later hb2)
  have Hb2 := Lib.hid (Hb1.out.trans (hb2.mono Hs1.out))
  have Hs2 : Hid (B ≤ w2.heap.size) := Lib.hid (Nat.le_trans Hs1.out hb2.size)
  clear hsaid hb2 Hq Hou Hb1 Hs1 Hr1
  obtain ⟨aw, cw, rfl, -, -, -, -⟩ := HW2.out.rd enc_len
  obtain ⟨au, cu, rfl, huc, hum, -⟩ := HO2.out.rd
  rw [Hl.out] at HO2 huc ⊢
  go_wp2_with fail
  go_loopw [6, 7, 8, 9, 10] (fun i _ _ _ _ wr => OpensIn B l es w (.slice au n cu) (.slice aw es.length cw) i wr) (fun i _ _ _ _ _ => 2 - (intOf i).toNat)
  case atStart => exact ⟨0, by omega, rfl, HO2.out, HW2.out, Hb2.out, Hs2.out⟩
  case round =>
    as_aux_lemma =>
    clear HO2 HW2 Hb2 Hs2
    obtain ⟨k, hk, rfl, ho, hw, hb, hs⟩ := hrel
    have Hho := Lib.hid ho
    clear ho
    have Hhw := Lib.hid hw
    clear hw
    have Hhb := Lib.hid hb
    clear hb
    have Hhs := Lib.hid hs
    clear hs
    by_cases hlt : k < 2
    · have f1 : (k : Int) < 2 := by omega
      have hcc : (c == c) = true := beq_self_eq_true _
      have hcn : (c != c) = false := by rw [bne, hcc]; rfl
      go_wp2_with fail
      as_aux_lemma =>
      refine (Hp.out _ _ _ huc (own_rd Hho.out)).mono ?_
      rintro e w3 ⟨v, rfl, hsaid, hb3⟩
      have hv := HOWN.out _ _ _ hsaid
      obtain ⟨av, cv, rfl, -, -, -, -⟩ := hv.rd enc_len
      obtain ⟨g, hg, hgp⟩ := own_hb hv
      have HV := Lib.hid (hv.mono (Nat.zero_le _))
      have HG := Lib.hid hg
      have HGP := Lib.hid hgp
      have HO3 := Lib.hid (Hho.out.later hb3)
      have HW3 := Lib.hid (Hhw.out.later hb3)
      have HB3 := Lib.hid (Hhb.out.trans (hb3.mono Hhs.out))
      have HS3 : Hid (wr.heap.size ≤ w3.heap.size) := Lib.hid hb3.size
      have HKu := Lib.hid (fun q (hq : (Value.slice au n cu).ownBlock = some q) => own_blk Hho.out hq)
      have HKw := Lib.hid (fun q (hq : (Value.slice aw es.length cw).ownBlock = some q) => (Hhw.out.blk enc_len q hq).2)
      obtain ⟨Z, hZ⟩ : ∃ Z, wr.heap.size = Z := ⟨_, rfl⟩
      have HZ : Hid (B ≤ Z) := Lib.hid (by rw [← hZ]; exact Hhs.out)
      rw [hZ] at HG HS3 HKu HKw
      clear hsaid hb3 hv hg hgp Hp Hho Hhw Hhb HOWN hZ Hhs
      go_wp2_with fail
      as_aux_lemma =>
      refine (rsame_true _ _ _ _ _ es _ rfl (Nat.le_trans HN.out (by decide)) HOK.out HV.out (HW3.out.mono (Nat.zero_le _))).mono ?_
      rintro e w4 ⟨rfl, hd4⟩
      have HO4 := Lib.hid (HO3.out.later (hd4.below _))
      have HW4 := Lib.hid (HW3.out.drn hd4)
      have HB4 := Lib.hid (HB3.out.trans (hd4.below _))
      have HS4 : Hid (Z ≤ w4.heap.size) := Lib.hid (Nat.le_trans HS3.out (hd4.below 0).size)
      have hgp4 : 0 < es.length → av = some ⟨g, 0, none⟩ ∧ ∃ cs, HB w4 g 32 cs ∧ es.length * 19 ≤ cs.length := fun h => by
        obtain ⟨h1, cs, h2, h3⟩ := HGP.out h
        exact ⟨h1, cs, h2.drn hd4, h3⟩
      have HGP4 := Lib.hid hgp4
      clear hgp4
      clear hd4 HO3 HW3 HB3 HS3 HGP HV HOK
      go_wp2_with fail
      go_loopw [10] (fun i wx => WipeIn es.length g w4 i wx) (fun i _ => es.length - (intOf i).toNat)
      case atStart => exact ⟨0, by omega, rfl, fun h => (HGP4.out h).2, World.grownBy.refl _ _⟩
      case round =>
        as_aux_lemma =>
        obtain ⟨j, hj, rfl, hh, hgw⟩ := hrel
        have HH := Lib.hid hh
        have HGW := Lib.hid hgw
        clear hh hgw
        by_cases hjl : j < es.length
        · obtain ⟨rfl, -⟩ := HGP4.out (by omega)
          obtain ⟨cs, hcs, hcl⟩ := HH.out (by omega)
          have hjl2 : j * 19 + 19 ≤ cs.length := by omega
          have hst := run_storeEnAt ⟨gz, 0, 9, 0⟩ (hcs.there (o := j * 19) (n := 19) hjl2)
          have hbd := run_build9 wr
          have HCS := Lib.hid (hcs.fill (Go.Proofs.Ytefkmlfpdlnodaa.enc ⟨gz, 0, 9, 0⟩) cs (j * 19) (by rw [enc_len]; exact hjl2))
          have e0 : (0 : Int) ≤ (j : Int) := by omega
          have e1 : (j : Int) < (es.length : Int) := by omega
          have HLEN : Hid (es.length * 19 ≤ (cs.take (j * 19) ++ Go.Proofs.Ytefkmlfpdlnodaa.enc ⟨gz, 0, 9, 0⟩ ++ cs.drop (j * 19 + (Go.Proofs.Ytefkmlfpdlnodaa.enc ⟨gz, 0, 9, 0⟩).length)).length) := Lib.hid (by
            rw [List.length_append, List.length_append, List.length_take, List.length_drop, enc_len]; omega)
          have e32 := HN.out
          clear hcs hcl hjl2
          go_wp2_with fail
          have HG' := Lib.hid (HGW.out.trans (grown_setCells g (Go.Proofs.Ytefkmlfpdlnodaa.enc ⟨gz, 0, 9, 0⟩) (j * 19) wr))
          first
          | (go_roundw
             case rel => exact ⟨j + 1, by omega, by go_num, fun _ => ⟨_, HCS.out, HLEN.out⟩, HG'.out⟩
             case measure => (first | omega | (simp [intOf] <;> omega) | (simp only [intOf] <;> omega)))
          | exact ⟨⟨j + 1, by omega, by go_num, fun _ => ⟨_, HCS.out, HLEN.out⟩, HG'.out⟩, by (first | omega | (simp [intOf] <;> omega) | (simp only [intOf] <;> omega))⟩
          | (refine ⟨?_, by (first | omega | (simp [intOf] <;> omega) | (simp only [intOf] <;> omega))⟩
             (repeat apply Exists.intro)
             refine (fun a b => And.intro b a) ?_ ?_
             · first | rfl | ((repeat refine ⟨rfl, ?_⟩); rfl)
             exact ⟨j + 1, by omega, by go_num, fun _ => ⟨_, HCS.out, HLEN.out⟩, HG'.out⟩)
        · go_wp2_with fail
          have HS5 : Hid (B ≤ wr.heap.size) := Lib.hid (Nat.le_trans HZ.out (Nat.le_trans HS4.out HGW.out.size))
          first
          | (go_roundw
             case rel => exact ⟨k + 1, by omega, by go_num, HO4.out.grown HGW.out (fun q hq e => by have := HKu.out q hq; have := HG.out; have := Option.some.inj e; omega), HW4.out.grown HGW.out (fun q hq e => by have := HKw.out q hq; have := HG.out; have := Option.some.inj e; omega), HB4.out.grown HGW.out (Nat.le_trans HZ.out HS4.out) (fun q hq => by have := Option.some.inj hq; have := HG.out; have := HZ.out; omega), HS5.out⟩
             case measure => (first | omega | (simp [intOf] <;> omega) | (simp only [intOf] <;> omega)))
          | exact ⟨⟨k + 1, by omega, by go_num, HO4.out.grown HGW.out (fun q hq e => by have := HKu.out q hq; have := HG.out; have := Option.some.inj e; omega), HW4.out.grown HGW.out (fun q hq e => by have := HKw.out q hq; have := HG.out; have := Option.some.inj e; omega), HB4.out.grown HGW.out (Nat.le_trans HZ.out HS4.out) (fun q hq => by have := Option.some.inj hq; have := HG.out; have := HZ.out; omega), HS5.out⟩, by (first | omega | (simp [intOf] <;> omega) | (simp only [intOf] <;> omega))⟩
          | (refine ⟨?_, by (first | omega | (simp [intOf] <;> omega) | (simp only [intOf] <;> omega))⟩
             (repeat apply Exists.intro)
             refine (fun a b => And.intro b a) ?_ ?_
             · first | rfl | ((repeat refine ⟨rfl, ?_⟩); rfl)
             exact ⟨k + 1, by omega, by go_num, HO4.out.grown HGW.out (fun q hq e => by have := HKu.out q hq; have := HG.out; have := Option.some.inj e; omega), HW4.out.grown HGW.out (fun q hq e => by have := HKw.out q hq; have := HG.out; have := Option.some.inj e; omega), HB4.out.grown HGW.out (Nat.le_trans HZ.out HS4.out) (fun q hq => by have := Option.some.inj hq; have := HG.out; have := HZ.out; omega), HS5.out⟩)
    · have hrr : Rd wr ao l := Hr.out.below (by have := Hhb.out; rw [← HBx.out] at this; exact this)
      go_wp2_with fail
      as_aux_lemma =>
      have hnm : n ≤ 9223372036854775807 := by omega
      refine (same_true _ _ _ _ _ _ _ _ _ rfl Hl.out Hl.out hnm hnm (own_rd Hho.out) hrr).mono ?_
      rintro e w3 ⟨rfl, hd3⟩
      have HB3 := Lib.hid (Hhb.out.trans (hd3.below _))
      have HS3 : Hid (B ≤ w3.heap.size) := Lib.hid (Nat.le_trans Hhs.out (hd3.below 0).size)
      clear hd3 hrr hnm Hr Hho Hhw Hhb Hhs Hp HOK HOWN
      go_wp2_with fail
      refine (alive_any _).mono ?_
      rintro e w5 ⟨rfl, hb5⟩
      have HB5 := Lib.hid (HB3.out.trans (hb5.mono HS3.out))
      clear hb5
      go_wp2_with fail
      go_ret
      exact ⟨rfl, by rw [HBx.out]; exact HB5.out⟩
set_option maxRecDepth 100000 in
theorem walk {H : Type} (enc : TypeId × Value → H) (W : World) (base : Nat) (v0 : Value) (d0 : DataW H) (p0 : List MemPlace)
    (k0 : Value.okWide Try.prog W .any base 22 v0)
    (h0 : DataW.Trod enc Try.prog W 0 (fun _ => true) true 22 v0 d0 p0)
    (hsz : (DataW.weightsEach Try.prog [22] ([d0] ++ [])).all (· ≤ reachBytes) = true) :
    Calls Try.prog 3 #[v0] W fun e w' => e = .returned (.bool true) ∧ Below W.heap.size W w' := by
  simp only [DataW.weightsEach, List.cons_append, List.nil_append] at hsz
  obtain ⟨z0, hsz⟩ := all_app hsz
  obtain ⟨ao, n, cap, l, rfl, hl, hn, hcap, hrd, hnil⟩ := open_bytes Try.underlying22 Try.underlying5 (by kernel_rfl) (by kernel_rfl) k0 h0 z0
  exact core W ao n cap l hl hn (by omega) hnil hrd
end Go.Proofs.Ytefkmlfpdlnodaa.fipOpens
