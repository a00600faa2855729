/- However a message is cut into pieces, the digest is that of the whole: the walk, where what comes in is of bulk at most 1048576. -/
import Derived.Test.YtngkelflfahjbaaDoorShaPl
import Derived.Test.YtngkelflfahjbaaDoorShaDg
import Derived.Test.YtngkelflfahjbaaDoorOpenPc
import Derived.Test.YtngkelflfahjbaaDoorShaA
import Derived.Test.YtngkelflfahjbaaDoorSame2
import Derived.Test.YtngkelflfahjbaaDoorShaTab
import Derived.Deep.DeepCutAuto
import Derived.Great.BuildSlice
namespace Go.Proofs.YtngkelflfahjbaaDoor.shaPieces
open Go.ChangeShapes Go.WideShapes Go.ChangeAt Go.RowKit
set_option linter.unusedVariables false
set_option linter.unusedSimpArgs false
/-- a hash, and all bytes so far -/
structure PcS (B H k : Nat) (st : S8) (n : Nat) (v u : Value) (rest A : List UInt8) (W w : World) : Prop where
  h : HB w H 67 (hashC k st n v)
  o : Own 5 w B v rest
  a : Own 5 w B u A
  lt : B ≤ H
  nv : v.ownBlock ≠ some H
  nu : u.ownBlock ≠ some H
  nn : ∀ q, u.ownBlock = some q → v.ownBlock ≠ some q
  bl : Below B W w
  sz : B ≤ w.heap.size
theorem PcS.later {B H k : Nat} {st : S8} {n : Nat} {v u : Value} {rest A : List UInt8} {W w w' : World} (h : PcS B H k st n v u rest A W w) (hb : Below w.heap.size w w') : PcS B H k st n v u rest A W w' :=
  ⟨h.h.later hb, h.o.later hb, h.a.later hb, h.lt, h.nv, h.nu, h.nn, h.bl.trans (hb.mono h.sz), Nat.le_trans h.sz hb.size⟩
/-- bytes are taken in -/
theorem PcS.wrote {B H k : Nat} {st st' : S8} {n n' : Nat} {v v' u : Value} {rest rest' A : List UInt8} {W w w' : World} (h : PcS B H k st n v u rest A W w) (hh : HB w' H 67 (hashC k st' n' v')) (ho : Own 5 w' w.heap.size v' rest') (hf : Frm (fun q => q = H) w w') : PcS B H k st' n' v' u rest' A W w' := by
  have hl := h.lt
  have hz := h.sz
  refine ⟨hh, ho.mono hz, h.a.frm hf (fun q hq e => h.nu (by rw [hq, e])), hl, fun e => ?_, h.nu, fun q hq e => ?_, h.bl.trans (hf.below hz (fun q hq => by omega)), Nat.le_trans hz hf.size⟩
  · have := (own_blk ho e).1
    have := h.h.lt
    omega
  · have := (own_blk ho e).1
    have := (own_blk h.a hq).2
    omega
/-- all grows -/
theorem PcS.app {B H k : Nat} {st : S8} {n : Nat} {v u u' : Value} {rest A A' : List UInt8} {W w w' : World} (h : PcS B H k st n v u rest A W w) (ho : Own 5 w' B u' A') (hg : Gr w w' u u') : PcS B H k st n v u' rest A' W w' := by
  have hz := h.sz
  have hlt := h.h.lt
  refine ⟨h.h.grown hg.g (fun e => h.nu e.symm), h.o.grown hg.g (fun q h1 h2 => h.nn q h2 h1), ho, h.lt, h.nv, fun e => ?_, fun q hq e => ?_, h.bl.grown hg.g hz (fun q hq => (own_blk h.a hq).1), Nat.le_trans hz hg.g.size⟩
  · rcases hg.k H e with h1 | h1
    · exact h.nu h1
    · omega
  · rcases hg.k q hq with h1 | h1
    · exact h.nn q h1 e
    · have := (own_blk h.o e).2; omega
/-- it is gone on with by a new one -/
theorem PcS.new {B H H' k : Nat} {st st' : S8} {n n' : Nat} {v v' u : Value} {rest rest' A : List UInt8} {W w w' : World} (h : PcS B H k st n v u rest A W w) (hb : Below w.heap.size w w') (hh : HB w' H' 67 (hashC k st' n' v')) (ho : Own 5 w' (H' + 1) v' rest') (hH : w.heap.size ≤ H') : PcS B H' k st' n' v' u rest' A W w' := by
  have hz := h.sz
  refine ⟨hh, ho.mono (by omega), h.a.later hb, by omega, fun e => ?_, fun e => ?_, fun q hq e => ?_, h.bl.trans (hb.mono hz), Nat.le_trans hz hb.size⟩
  · have := (own_blk ho e).1; omega
  · have := (own_blk h.a e).2; omega
  · have := (own_blk ho e).1
    have := (own_blk h.a hq).2
    omega
/-- the old one may be written to -/
theorem PcS.old {B H H0 k : Nat} {st : S8} {n : Nat} {v u : Value} {rest A : List UInt8} {W w w' : World} (h : PcS B H k st n v u rest A W w) (hne : H0 ≠ H) (hv : v.ownBlock ≠ some H0) (hu : u.ownBlock ≠ some H0) (h0 : B ≤ H0) (hf : Frm (fun q => q = H0) w w') : PcS B H k st n v u rest A W w' :=
  ⟨h.h.frm hf (fun e => hne e.symm), h.o.frm hf (fun q hq e => hv (by rw [hq, e])), h.a.frm hf (fun q hq e => hu (by rw [hq, e])), h.lt, h.nv, h.nu, h.nn, h.bl.trans (hf.below h.sz (fun q hq => by omega)), Nat.le_trans h.sz hf.size⟩
/-- the bytes of the first pieces -/
def flat (ps : List Pc) (t : Nat) : List UInt8 := (ps.take t).flatMap (fun m => m.l)
theorem flat_snoc (ps : List Pc) (t : Nat) (m : Pc) (h : ps[t]? = some m) : flat ps (t + 1) = flat ps t ++ m.l := by
  unfold flat
  rw [List.take_add_one, h, List.flatMap_append]
  simp
theorem flat_len (ps : List Pc) : ∀ t, (flat ps t).length ≤ (ps.map (fun m => m.l.length)).sum := by
  intro t
  unfold flat
  rw [List.length_flatMap]
  induction ps generalizing t with
  | nil => simp
  | cons m ps ih =>
    cases t with
    | zero => simp
    | succ t =>
      have := ih t
      simp only [List.take_succ_cons, List.map_cons, List.sum_cons]
      omega
structure PcIn (B k : Nat) (ps : List Pc) (W : World) (hv uv iv : Value) (wr : World) : Prop where
  x : ∃ (t H : Nat) (v : Value), t ≤ ps.length ∧ t ≤ 200 ∧ iv = .int .i64 (t : Nat) ∧ hv = .pointer (some ⟨H, 0, none⟩) ∧
    PcS B H k (goB (wK k) (firstK k) (flat ps t)).1 (flat ps t).length v uv (goB (wK k) (firstK k) (flat ps t)).2 (flat ps t) W wr
theorem digest_any (k : Nat) (hk : 1 ≤ k ∧ k ≤ 3) (ao : Option Addr) (n cap : Nat) (l : List UInt8) (w : World) (hl : l.length = n) (hnc : n ≤ cap) (hcm : cap ≤ 9223372036854775807) (hc0 : ao = none → cap = 0) (hr : Rd w ao l) (hlt : ∀ a, ao = some a → a.block < w.heap.size) (htab : TabOk w) (h00 : 0 < w.heap.size) :
    Calls Tryd.prog 31 #[.int .i64 ((8 * digK k : Nat) : Int), .slice ao n cap] w fun e w' => ∃ x, e = .returned (.slice (some ⟨x, 0, none⟩) (digK k) (digK k)) ∧ Rd w' (some ⟨x, 0, none⟩) (digS k (firstK k) n l) ∧ Below w.heap.size w w' := by
  rcases (by omega : k = 1 ∨ k = 2 ∨ k = 3) with rfl | rfl | rfl
  · exact digest32 ao n cap l w hl hnc hcm hc0 hr hlt htab h00
  · exact digest48 ao n cap l w hl hnc hcm hc0 hr hlt htab h00
  · exact digest64 ao n cap l w hl hnc hcm hc0 hr hlt htab h00
def garbL : List UInt8 := [119, 104, 97, 116, 32, 105, 115, 32, 119, 114, 105, 116, 116, 101, 110, 32, 116, 111, 32, 116, 104, 101, 32, 111, 108, 100, 32, 111, 110, 101, 32, 100, 111, 101, 115, 32, 110, 111, 116, 32, 116, 111, 117, 99, 104, 32, 116, 104, 101, 32, 110, 101, 119, 32, 111, 110, 101]
def garbZ : List Int := [119, 104, 97, 116, 32, 105, 115, 32, 119, 114, 105, 116, 116, 101, 110, 32, 116, 111, 32, 116, 104, 101, 32, 111, 108, 100, 32, 111, 110, 101, 32, 100, 111, 101, 115, 32, 110, 111, 116, 32, 116, 111, 117, 99, 104, 32, 116, 104, 101, 32, 110, 101, 119, 32, 111, 110, 101]
theorem garb_len : garbL.length = 57 := rfl
theorem garb_zlen : 57 = garbZ.length := rfl
theorem garb_cells : (garbZ.map (Value.int .u8)).toArray = (garbL.map bv).toArray := by kernel_rfl
theorem garb_parts : (#[(0, Operand.const (.int .u8 119)), (1, Operand.const (.int .u8 104)), (2, Operand.const (.int .u8 97)), (3, Operand.const (.int .u8 116)), (4, Operand.const (.int .u8 32)), (5, Operand.const (.int .u8 105)), (6, Operand.const (.int .u8 115)), (7, Operand.const (.int .u8 32)), (8, Operand.const (.int .u8 119)), (9, Operand.const (.int .u8 114)), (10, Operand.const (.int .u8 105)), (11, Operand.const (.int .u8 116)), (12, Operand.const (.int .u8 116)), (13, Operand.const (.int .u8 101)), (14, Operand.const (.int .u8 110)), (15, Operand.const (.int .u8 32)), (16, Operand.const (.int .u8 116)), (17, Operand.const (.int .u8 111)), (18, Operand.const (.int .u8 32)), (19, Operand.const (.int .u8 116)), (20, Operand.const (.int .u8 104)), (21, Operand.const (.int .u8 101)), (22, Operand.const (.int .u8 32)), (23, Operand.const (.int .u8 111)), (24, Operand.const (.int .u8 108)), (25, Operand.const (.int .u8 100)), (26, Operand.const (.int .u8 32)), (27, Operand.const (.int .u8 111)), (28, Operand.const (.int .u8 110)), (29, Operand.const (.int .u8 101)), (30, Operand.const (.int .u8 32)), (31, Operand.const (.int .u8 100)), (32, Operand.const (.int .u8 111)), (33, Operand.const (.int .u8 101)), (34, Operand.const (.int .u8 115)), (35, Operand.const (.int .u8 32)), (36, Operand.const (.int .u8 110)), (37, Operand.const (.int .u8 111)), (38, Operand.const (.int .u8 116)), (39, Operand.const (.int .u8 32)), (40, Operand.const (.int .u8 116)), (41, Operand.const (.int .u8 111)), (42, Operand.const (.int .u8 117)), (43, Operand.const (.int .u8 99)), (44, Operand.const (.int .u8 104)), (45, Operand.const (.int .u8 32)), (46, Operand.const (.int .u8 116)), (47, Operand.const (.int .u8 104)), (48, Operand.const (.int .u8 101)), (49, Operand.const (.int .u8 32)), (50, Operand.const (.int .u8 110)), (51, Operand.const (.int .u8 101)), (52, Operand.const (.int .u8 119)), (53, Operand.const (.int .u8 32)), (54, Operand.const (.int .u8 111)), (55, Operand.const (.int .u8 110)), (56, Operand.const (.int .u8 101))] : Array (Nat × Operand)).toList = (garbZ.zipIdx 0).map fun x => (x.2, Operand.const (Value.int .u8 x.1)) := by kernel_rfl
theorem garb_sz : (Tryd.prog.info? 5).map (·.size) = some 1 := by kernel_rfl
theorem garb_zero : ((Tryd.prog.info? 5).bind (·.zero)).isSome = true := by kernel_rfl
theorem garb_rd (w : World) (m : Nat × Nat) : Rd (w.alloc (.cells (garbZ.map (Value.int .u8)).toArray 5 m)) (some ⟨w.heap.size, 0, none⟩) garbL := by
  rw [garb_cells]
  exact Rd.new w garbL 5 m
set_option maxRecDepth 100000 in
set_option maxHeartbeats 2000000 in
theorem core (W : World) (ao : Option Addr) (n cap : Nat) (ps : List Pc) (kind : Int) (hl : ps.length = n) (hr : RdS pcc 1 W ao ps) (hok : ∀ m ∈ ps, Pc.Ok W m) (hsum : (ps.map (fun m => m.l.length)).sum ≤ 1048576) (hn : n ≤ 9223372036854775807)
    (htab : TabOk W) (h00 : 0 < W.heap.size) :
    Calls Tryd.prog 7 #[.slice ao n cap, .int .i64 kind] W fun e w' => e = .returned (.bool true) ∧ Below W.heap.size W w' := by
  have Haw := Lib.hid (awake02_any W htab h00)
  obtain ⟨B, hB⟩ : ∃ B, W.heap.size = B := ⟨_, rfl⟩
  have HBx := Lib.hid hB
  have Hl := Lib.hid hl
  have Hr := Lib.hid hr
  have Hok := Lib.hid hok
  have Hsum := Lib.hid hsum
  have Hn := Lib.hid hn
  have Htab := Lib.hid htab
  have H00 := Lib.hid h00
  clear hB hl hr hok hsum hn htab h00
  go_enter Tryd.func7, Tryd.ntmps7
  go_wp2_with fail
  refine Haw.out.mono ?_
  rintro e w1 ⟨rfl, hb1⟩
  have HB1 : Hid (Below B W w1) := Lib.hid (by rw [← HBx.out]; exact hb1)
  have Hz1 : Hid (B ≤ w1.heap.size) := Lib.hid (by have := hb1.size; have := HBx.out; omega)
  clear hb1 Haw
  go_upto_region 3 with fail
  go_cut [21] (fun c wx => (∃ b, c = .bool b) ∧ wx = w1)
  case first =>
    go_wp2_with fail
    all_goals
      go_meet
      case rel => exact ⟨⟨_, rfl⟩, rfl⟩
  case rest =>
  obtain ⟨⟨b1, rfl⟩, rfl⟩ := hcut
  go_upto_if 21 with fail
  go_cut [6] (fun c wx => (c = .int .i64 256 ∨ c = .int .i64 384) ∧ wx = wc)
  case first =>
    cases b1
    · go_wp2_with fail
      go_meet
      case rel => exact ⟨Or.inl rfl, rfl⟩
    · go_wp2_with fail
      go_meet
      case rel => exact ⟨Or.inr rfl, rfl⟩
  case rest =>
  obtain ⟨h6, rfl⟩ := hcut
  as_aux_lemma =>
  go_upto_region 5 with fail
  go_cut [29] (fun c wx => (∃ b, c = .bool b) ∧ wx = wc)
  case first =>
    go_wp2_with fail
    all_goals
      go_meet
      case rel => exact ⟨⟨_, rfl⟩, rfl⟩
  case rest =>
  obtain ⟨⟨b2, rfl⟩, rfl⟩ := hcut
  go_upto_if 29 with fail
  go_cut [6] (fun c wx => (∃ k : Nat, (1 ≤ k ∧ k ≤ 3) ∧ c = .int .i64 ((8 * digK k : Nat) : Int)) ∧ wx = wc)
  case first =>
    cases b2
    · go_wp2_with fail
      go_meet
      case rel =>
        rcases h6 with rfl | rfl
        · exact ⟨⟨1, by decide, rfl⟩, rfl⟩
        · exact ⟨⟨2, by decide, rfl⟩, rfl⟩
    · go_wp2_with fail
      go_meet
      case rel => exact ⟨⟨3, by decide, rfl⟩, rfl⟩
  case rest =>
  obtain ⟨⟨k, hk, rfl⟩, rfl⟩ := hcut
  clear h6
  as_aux_lemma =>
  have Hk := Lib.hid hk
  have Hnew := Lib.hid (new_any k wc hk)
  clear hk
  obtain ⟨Db, hDb⟩ : ∃ Db : Nat, 8 * digK k = Db := ⟨_, rfl⟩
  have HDb := Lib.hid hDb
  rw [hDb] at Hnew ⊢
  clear hDb
  go_wp2_with fail
  refine Hnew.out.mono ?_
  rintro e w3 ⟨H, rfl, hH, hHs, hb3⟩
  have HS3 : Hid (PcS B H k (goB (wK k) (firstK k) (flat ps 0)).1 (flat ps 0).length (.slice none 0 0) (.slice none 0 0) (goB (wK k) (firstK k) (flat ps 0)).2 (flat ps 0) W w3) := Lib.hid (by
    have hz := Hz1.out
    have e0 : flat ps 0 = [] := rfl
    rw [e0, goB_end (by have := sizeW_pos (wK k); simpa using this)]
    exact ⟨hH, Own.nil _ _ _, Own.nil _ _ _, by omega, (fun e => by cases e), (fun e => by cases e), (fun q hq => by cases hq), HB1.out.trans (hb3.mono hz), Nat.le_trans hz hb3.size⟩)
  clear hH hHs hb3 Hnew HB1 Hz1
  go_upto_region 12 with fail
  as_aux_lemma =>
  go_loopw [7, 9, 10, 11, 12] (fun h u i _ _ wr => PcIn B k ps W h u i wr) (fun _ _ i _ _ _ => n - (intOf i).toNat)
  case atStart => exact ⟨0, H, _, Nat.zero_le _, by omega, rfl, rfl, HS3.out⟩
  case round =>
    as_aux_lemma =>
    clear HS3
    obtain ⟨t, H, v, ht, ht2, rfl, rfl, hS⟩ := hrel
    have HS := Lib.hid hS
    clear hS
    rw [Hl.out] at ht
    by_cases hgo : t < n ∧ t < 200
    · obtain ⟨hlt, hl200⟩ := hgo
      have hn := Hn.out
      have f1 : (t : Int) < (n : Int) := by omega
      have f2 : (t : Int) < 200 := by omega
      obtain ⟨m, hm⟩ : ∃ m, ps[t]? = some m := ⟨_, List.getElem?_eq_getElem (by rw [Hl.out]; exact hlt)⟩
      obtain ⟨b0, o0, hao, hb0, hcl⟩ := Hr.out t m hm
      have hc := hcl 0 _ (show (pcc m)[0]? = some (.slice m.ao m.l.length m.cap) from rfl)
      have hc1 : wr.cell? ⟨b0, o0 + t, none⟩ = some (.slice m.ao m.l.length m.cap) := by
        have hbl := HS.out.bl
        rw [← HBx.out] at hbl
        have := cell_later hbl hc
        rw [Nat.mul_one, Nat.add_zero] at this
        exact this
      have hmok := Hok.out m (List.mem_of_getElem? hm)
      have hfs := flat_snoc ps t m hm
      have hfl := flat_len ps t
      have hfl2 := flat_len ps (t + 1)
      rw [hfs, List.length_append] at hfl2
      have hsum := Hsum.out
      have HcW : Hid (∀ w', Below W.heap.size W w' → w'.cell? ⟨b0, o0 + t, none⟩ = some (.slice m.ao m.l.length m.cap)) := Lib.hid (fun w' h => by
        have := cell_later h hc
        rw [Nat.mul_one, Nat.add_zero] at this
        exact this)
      subst hao
      have hm' := hmok.r
      obtain ⟨A, hA⟩ : ∃ A, flat ps t = A := ⟨_, rfl⟩
      obtain ⟨st, rest, hg⟩ : ∃ st rest, goB (wK k) (firstK k) A = (st, rest) := ⟨_, _, rfl⟩
      have hS := HS.out
      rw [hA, hg] at hS
      rw [hA] at hfs hfl hfl2
      have happ : goB (wK k) (firstK k) (A ++ m.l) = goB (wK k) st (rest ++ m.l) := by rw [goB_app (wK k) m.l _ _ A rfl, hg]
      have hst := goB_lt (wK k) _ (firstK k) A rfl (firstK_lt k Hk.out)
      have hlft := goB_left (wK k) _ (firstK k) A rfl
      rw [hg] at hst hlft
      have hszw : sizeW (wK k) ≤ 128 := by unfold sizeW; split <;> decide
      obtain ⟨va, vc, hve, hv1, hv2, hv3, hv4, hv5⟩ := hS.o.rd3
      subst hve
      have hlt3 := hS.lt
      have h000 := H00.out
      have hbx := HBx.out
      have hblw : Below W.heap.size W wr := by rw [hbx]; exact hS.bl
      have Hpw := Lib.hid (pwrite_any H k st A.length va rest.length vc rest m.ao m.l.length m.cap m.l wr Hk.out hS.h hst rfl hv4 hv3 (fun a e h => hS.nv (by rw [e]; exact congrArg some h)) rfl hmok.z (Rd.far hmok.r hblw (by omega)) (by omega) (by omega) (by have := hlft.2; simp only at this; omega) (Htab.out.below hblw) (by omega))
      have HS1 := Lib.hid hS
      have Hm := Lib.hid hmok
      have Hfs := Lib.hid hfs
      have Hap := Lib.hid happ
      have Hfl := Lib.hid hfl2
      have Hsu := Lib.hid hsum
      clear hcl hc hm hm' hA hg hS hst hlft hv1 hv2 hv3 hv4 hv5 hlt3 h000 hbx hblw happ hfs hfl hfl2 hsum hmok HS hszw
      go_wp2_with fail
      as_aux_lemma =>
      refine Hpw.out.mono ?_
      rintro e w2 ⟨v2, rfl, hH2, ho2, hf2⟩
      have HS2 := Lib.hid (HS1.out.wrote hH2 ho2 hf2)
      clear hH2 ho2 hf2 Hpw HS1 hc1
      rw [← Hap.out] at HS2
      have hbl2 : Below W.heap.size W w2 := by rw [HBx.out]; exact HS2.out.bl
      have hc2 := HcW.out w2 hbl2
      have Hrm := Lib.hid (Hm.out.r.below hbl2)
      clear hbl2
      go_wp2_with (at_builtin; refine wpList_append_gr byteRow02 rfl _ _ rfl B u9 A rfl HS2.out.a m.ao m.l.length m.cap m.l rfl rfl Hrm.out Hm.out.z (by have := Hfl.out; have := Hsu.out; omega) HS2.out.sz ?_)
      intro u3 w3 ho3 hg3
      have HS3 := Lib.hid (HS2.out.app ho3 hg3)
      rw [← Hfs.out] at HS3
      have hlenA : A.length + m.l.length = (flat ps (t + 1)).length := by rw [Hfs.out, List.length_append]
      rw [hlenA] at HS3
      clear ho3 hg3 HS2 Hrm hc2
      have hu3 := HS3.out.a.rd3
      have g1 : (0 : Int) ≤ (t : Int) := by omega
      by_cases hpar : t % 2 = 1
      · have p1 : (t : Int) % 2 = 1 := by omega
        have p2 : (t : Int).tmod 2 = 1 := by rw [Int.tmod_eq_emod_of_nonneg g1]; exact p1
        obtain ⟨N, hN⟩ : ∃ N, (flat ps (t + 1)).length = N := ⟨_, rfl⟩
        have hNb : N ≤ 1048576 := by have := flat_len ps (t + 1); have := Hsu.out; omega
        obtain ⟨st2, rest2, hg2⟩ : ∃ st rest, goB (wK k) (firstK k) (flat ps (t + 1)) = (st, rest) := ⟨_, _, rfl⟩
        have hst2 := goB_lt (wK k) _ (firstK k) (flat ps (t + 1)) rfl (firstK_lt k Hk.out)
        have hlf2 := goB_left (wK k) _ (firstK k) (flat ps (t + 1)) rfl
        rw [hg2] at hst2 hlf2
        rw [hN] at hlf2
        have hS3 := HS3.out
        rw [hg2, hN] at hS3
        have hszw : sizeW (wK k) ≤ 128 := by unfold sizeW; split <;> decide
        have hwk : wK k ≤ 64 := by unfold wK; split <;> decide
        obtain ⟨va, vc, hve, hv1, hv2, hv3, hv4, hv5⟩ := hS3.o.rd3
        subst hve
        have Hps := Lib.hid (pstate_any H k st2 N va rest2.length vc rest2 w3 Hk.out hS3.h rfl (by have := hlf2.2; simp only at this; omega) hv4 hv3)
        have HS3b := Lib.hid hS3
        have Hst2 := Lib.hid hst2
        have Hlf2 : Hid (rest2.length = N % sizeW (wK k) ∧ rest2.length ≤ 128 ∧ N ≤ 1048576 ∧ wK k ≤ 64) := Lib.hid ⟨hlf2.1, by have := hlf2.2; simp only at this; omega, hNb, hwk⟩
        have Hg2 := Lib.hid hg2
        have HN := Lib.hid hN
        have Hv := Lib.hid (And.intro hv3 (And.intro hv4 (fun (a : Addr) (e : va = some a) (h : a.block = H) => hS3.nv (by rw [e]; exact congrArg some h))))
        clear hv1 hv2 hv3 hv4 hv5 hS3 hst2 hlf2 hg2 hN hNb hszw hwk HS3 hlenA hu3
        go_wp2_with fail
        as_aux_lemma =>
        refine Hps.out.mono ?_
        rintro e w4 ⟨v4, rfl, ho4, hb4⟩
        have HS4 := Lib.hid (HS3b.out.later hb4)
        have hsl := stateL_len Hk.out st2 N rest2
        have hlf := Hlf2.out
        obtain ⟨a4, c4, rfl, h41, h42, h43, h44, h45⟩ := ho4.rd3
        have Hop := Lib.hid (popen_ok a4 _ c4 (stateL k st2 N rest2) w4 k N rfl (by omega) h41 h44 h43 (fun a e => (h45 a e).2) Hk.out (stateL_k Hk.out st2 N rest2) (stateL_n k st2 N rest2 (by omega)) (by omega) (by rw [hsl, hlf.1]))
        rw [stateL_st Hk.out st2 N rest2 Hst2.out, stateL_rest Hk.out st2 N rest2] at Hop
        have Hr4 := Lib.hid (Hv.out.1.below hb4)
        clear ho4 hb4 hsl hlf h41 h42 h43 h44 h45 Hps HS3b
        go_wp2_with fail
        refine Hop.out.mono ?_
        rintro e w5 ⟨H5, v5, rfl, hH5, ho5, hs5, hb5⟩
        have HS5 := Lib.hid (HS4.out.new hb5 hH5 ho5 hs5)
        have HSo := Lib.hid (HS4.out.later hb5)
        have Hr5 := Lib.hid (Hr4.out.below hb5)
        have Hne : Hid (H < w4.heap.size ∧ w4.heap.size ≤ H5 ∧ H5 < w5.heap.size) := Lib.hid ⟨HS4.out.h.lt, hs5, hH5.lt⟩
        have Hv5 : Hid (v5.ownBlock ≠ some H) := Lib.hid (fun e => by have := (own_blk ho5 e).1; have := HS4.out.h.lt; omega)
        clear hH5 ho5 hs5 hb5 Hop HS4 Hr4
        have kc := fun (w : World) (C : Array Value) (n c : Nat) => Lib.run_convert_bytes_const (P := Tryd.prog) w 22 5 C n c Tryd.underlying22 Tryd.underlying5
        have hlf := Hlf2.out
        have Hpw := Lib.hid (fun mk : Nat × Nat => by
          have hgr : Below w5.heap.size w5 (w5.alloc (.cells (garbZ.map (Value.int .u8)).toArray 5 mk)) := (Below.refl _ _).alloc (Nat.le_refl _) _
          have hbl5 : Below W.heap.size W (w5.alloc (.cells (garbZ.map (Value.int .u8)).toArray 5 mk)) := by rw [HBx.out]; exact (HSo.out.later hgr).bl
          exact pwrite_any H k st2 N va rest2.length vc rest2 (some ⟨w5.heap.size, 0, none⟩) 57 57 garbL (w5.alloc (.cells (garbZ.map (Value.int .u8)).toArray 5 mk)) Hk.out (HSo.out.later hgr).h Hst2.out rfl Hv.out.2.1 (Hr5.out.below hgr) (fun a e h => Hv.out.2.2 a e h) garb_len (fun h => by cases h)
            (fun w' hg => (garb_rd w5 mk).grown hg (fun a e1 e2 => by cases e1; have e3 : w5.heap.size = H := Option.some.inj e2; have := Hne.out; omega)) (by omega) (by omega) (by omega) (Htab.out.below hbl5) (by have := HSo.out.lt; have := H00.out; have := HBx.out; omega))
        have HS6 := Lib.hid (fun mk : Nat × Nat => HS5.out.later ((Below.refl w5.heap.size w5).alloc (Nat.le_refl _) (.cells (garbZ.map (Value.int .u8)).toArray 5 mk)))
        clear hlf
        go_wp2_with (refine wpList_buildFlat rfl _ 5 57 _ rfl .u8 garbZ Tryd.underlying22 garb_sz garb_zero garb_zlen (by decide) (by decide) garb_parts ?_)
        as_aux_lemma =>
        refine (Hpw.out _).mono ?_
        rintro e w7 ⟨v7, rfl, hH7, ho7, hf7⟩
        have HS7 := Lib.hid ((HS6.out _).old (by have := Hne.out; omega) Hv5.out HSo.out.nu HSo.out.lt hf7)
        have hg2 := Hg2.out
        have hN := HN.out
        have HS8 : Hid (PcS B H5 k (goB (wK k) (firstK k) (flat ps (t + 1))).1 (flat ps (t + 1)).length v5 u3 (goB (wK k) (firstK k) (flat ps (t + 1))).2 (flat ps (t + 1)) W w7) := Lib.hid (by rw [hg2, hN]; exact HS7.out)
        clear hH7 ho7 hf7 hg2 hN Hpw HS5 HS6 HS7 HSo Hr5 Hv Hv5 Hne kc
        go_wp2_with fail
        first
        | (go_roundw
           case rel => exact ⟨t + 1, H5, v5, by have := Hl.out; omega, by omega, by go_num, rfl, HS8.out⟩
           case measure => (first | omega | (simp [intOf] <;> omega) | (simp only [intOf] <;> omega)))
        | exact ⟨⟨t + 1, H5, v5, by have := Hl.out; omega, by omega, by go_num, rfl, HS8.out⟩, by (first | omega | (simp [intOf] <;> omega) | (simp only [intOf] <;> omega))⟩
        | (refine ⟨?_, by (first | omega | (simp [intOf] <;> omega) | (simp only [intOf] <;> omega))⟩
           (repeat apply Exists.intro)
           refine (fun a b => And.intro b a) ?_ ?_
           · first | rfl | ((repeat refine ⟨rfl, ?_⟩); rfl)
           exact ⟨t + 1, H5, v5, by have := Hl.out; omega, by omega, by go_num, rfl, HS8.out⟩)
      · have p1 : (t : Int) % 2 = 0 := by omega
        have p2 : (t : Int).tmod 2 = 0 := by rw [Int.tmod_eq_emod_of_nonneg g1]; exact p1
        clear hu3 hlenA
        go_wp2_with fail
        first
        | (go_roundw
           case rel => exact ⟨t + 1, H, v2, by have := Hl.out; omega, by omega, by go_num, rfl, HS3.out⟩
           case measure => (first | omega | (simp [intOf] <;> omega) | (simp only [intOf] <;> omega)))
        | exact ⟨⟨t + 1, H, v2, by have := Hl.out; omega, by omega, by go_num, rfl, HS3.out⟩, by (first | omega | (simp [intOf] <;> omega) | (simp only [intOf] <;> omega))⟩
        | (refine ⟨?_, by (first | omega | (simp [intOf] <;> omega) | (simp only [intOf] <;> omega))⟩
           (repeat apply Exists.intro)
           refine (fun a b => And.intro b a) ?_ ?_
           · first | rfl | ((repeat refine ⟨rfl, ?_⟩); rfl)
           exact ⟨t + 1, H, v2, by have := Hl.out; omega, by omega, by go_num, rfl, HS3.out⟩)
    · have hS := HS.out
      obtain ⟨A, hA⟩ : ∃ A, flat ps t = A := ⟨_, rfl⟩
      have hfl := flat_len ps t
      have hsum := Hsum.out
      rw [hA] at hS hfl
      obtain ⟨st, rest, hg⟩ : ∃ st rest, goB (wK k) (firstK k) A = (st, rest) := ⟨_, _, rfl⟩
      rw [hg] at hS
      have hst := goB_lt (wK k) _ (firstK k) A rfl (firstK_lt k Hk.out)
      have hlft := goB_left (wK k) _ (firstK k) A rfl
      have hdw := digS_whole k (firstK k) A A.length
      rw [hg] at hst hlft hdw
      have hszw : sizeW (wK k) ≤ 128 := by unfold sizeW; split <;> decide
      obtain ⟨va, vc, hve, hv1, hv2, hv3, hv4, hv5⟩ := hS.o.rd3
      subst hve
      obtain ⟨ua, uc, hue, hu1, hu2, hu3, hu4, hu5⟩ := hS.a.rd3
      subst hue
      have hblw : Below W.heap.size W wr := by rw [HBx.out]; exact hS.bl
      have hszr : 0 < wr.heap.size := Nat.lt_of_lt_of_le H00.out hblw.size
      have Hsu := Lib.hid (sum_any H k st A.length va rest.length vc rest wr Hk.out hS.h hst (by omega) rfl (by have := hlft.2; simp only at this; omega) hv4 hv3 (Htab.out.below hblw) hszr)
      have Hdg := Lib.hid (fun w' (h : Below wr.heap.size wr w') => digest_any k Hk.out ua A.length uc A w' rfl hu1 hu2 hu4 (hu3.below h) (fun a e => Nat.lt_of_lt_of_le (hu5 a e).2 h.size) ((Htab.out.below hblw).below h) (Nat.lt_of_lt_of_le hszr h.size))
      rw [HDb.out] at Hdg
      have Hle := Lib.hid (fun w' (h : Below wr.heap.size wr w') => plen_any H k st A.length (.slice va rest.length vc) w' (hS.h.later h))
      have q1 : IntKind.u64.wrap (A.length : Int) = (A.length : Int) := IntWalk.u64_in _ (by omega)
      have HBr := Lib.hid hS.bl
      have Hzr := Lib.hid hS.sz
      have Hdw := Lib.hid hdw
      clear hA hg hst hlft hdw hszw hv1 hv2 hv3 hv4 hv5 hu1 hu2 hu3 hu4 hu5 hblw hszr hS hfl hsum HS
      generalize A.length = La at *
      have hdone : (t < n ∧ ¬ t < 200) ∨ ¬ t < n := by omega
      rcases hdone with ⟨hx, hy⟩ | hx
      · have f1 : (t : Int) < (n : Int) := by omega
        have f2 : ¬ (t : Int) < 200 := by omega
        go_wp2_with fail
        as_aux_lemma =>
        refine Hsu.out.mono ?_
        rintro e w5 ⟨g5, C5, rfl, ho5, hb5⟩
        clear Hsu
        go_wp2_with fail
        refine (Hdg.out _ hb5).mono ?_
        rintro e w6 ⟨x6, rfl, hr6, hb6⟩
        have hb56 : Below wr.heap.size wr w6 := hb5.trans (hb6.mono hb5.size)
        have ho56 := ho5.later hb6
        rw [Hdw.out] at ho56
        obtain ⟨p1, q2, he1, -, -, r1, -, -⟩ := ho56.rd3
        obtain ⟨e1, e1n, -⟩ := Value.slice.inj he1
        rw [← e1] at r1
        have Hsm := Lib.hid (same2_true (some ⟨g5, 0, none⟩) (some ⟨x6, 0, none⟩) (digK k) (digK k) C5 (digK k) _ _ w6 rfl e1n.symm e1n.symm (by unfold digK; split <;> (try split) <;> omega) (by unfold digK; split <;> (try split) <;> omega) r1 hr6)
        have Hb56 := Lib.hid hb56
        clear ho5 hb5 hr6 hb6 hb56 ho56 he1 r1 e1 e1n Hdg
        go_wp2_with fail
        refine Hsm.out.mono ?_
        rintro e w7 ⟨rfl, hd7⟩
        have hb7 : Below wr.heap.size wr w7 := Hb56.out.trans (hd7.below _)
        clear Hsm
        go_wp2_with fail
        refine (Hle.out _ hb7).mono ?_
        rintro e w8 ⟨rfl, rfl⟩
        have HBf := Lib.hid (HBr.out.trans (hb7.mono Hzr.out))
        clear hb7 hd7
        go_wp2_with fail
        go_ret
        exact ⟨rfl, by rw [HBx.out]; exact HBf.out⟩
      · have f1 : ¬ (t : Int) < (n : Int) := by omega
        go_wp2_with fail
        as_aux_lemma =>
        refine Hsu.out.mono ?_
        rintro e w5 ⟨g5, C5, rfl, ho5, hb5⟩
        clear Hsu
        go_wp2_with fail
        refine (Hdg.out _ hb5).mono ?_
        rintro e w6 ⟨x6, rfl, hr6, hb6⟩
        have hb56 : Below wr.heap.size wr w6 := hb5.trans (hb6.mono hb5.size)
        have ho56 := ho5.later hb6
        rw [Hdw.out] at ho56
        obtain ⟨p1, q2, he1, -, -, r1, -, -⟩ := ho56.rd3
        obtain ⟨e1, e1n, -⟩ := Value.slice.inj he1
        rw [← e1] at r1
        have Hsm := Lib.hid (same2_true (some ⟨g5, 0, none⟩) (some ⟨x6, 0, none⟩) (digK k) (digK k) C5 (digK k) _ _ w6 rfl e1n.symm e1n.symm (by unfold digK; split <;> (try split) <;> omega) (by unfold digK; split <;> (try split) <;> omega) r1 hr6)
        have Hb56 := Lib.hid hb56
        clear ho5 hb5 hr6 hb6 hb56 ho56 he1 r1 e1 e1n Hdg
        go_wp2_with fail
        refine Hsm.out.mono ?_
        rintro e w7 ⟨rfl, hd7⟩
        have hb7 : Below wr.heap.size wr w7 := Hb56.out.trans (hd7.below _)
        clear Hsm
        go_wp2_with fail
        refine (Hle.out _ hb7).mono ?_
        rintro e w8 ⟨rfl, rfl⟩
        have HBf := Lib.hid (HBr.out.trans (hb7.mono Hzr.out))
        clear hb7 hd7
        go_wp2_with fail
        go_ret
        exact ⟨rfl, by rw [HBx.out]; exact HBf.out⟩
theorem walk {H : Type} (enc : TypeId × Value → H) (W : World) (base : Nat) (v0 : Value) (d0 : DataW H) (p0 : List MemPlace) (v1 : Value) (d1 : DataW H) (p1 : List MemPlace)
    (k0 : Value.okWide Tryd.prog W .any base 50 v0) (k1 : Value.okWide Tryd.prog W .any base 3 v1)
    (h0 : DataW.Trod enc Tryd.prog W 0 (fun _ => true) true 50 v0 d0 p0) (h1 : DataW.Trod enc Tryd.prog W 0 (fun _ => true) true 3 v1 d1 p1)
    (hsz : (DataW.weightsEach Tryd.prog [50, 3] ([d0, d1] ++ [])).all (· ≤ reachBytes) = true) (hk : Rows.uptoSmall H ([d0, d1] ++ []) = true) (hL : laidMetH Tryd.prog laidL W) :
    Calls Tryd.prog 7 #[v0, v1] W fun e w' => e = .returned (.bool true) ∧ Below W.heap.size W w' := by
  obtain ⟨hT, h00⟩ := tab_of_laid hL
  have hb : Rows.uptoBulkAll ([d0, d1] ++ []) ≤ 1048576 := of_decide_eq_true hk
  simp only [List.cons_append, List.nil_append, Rows.uptoBulkAll] at hb
  obtain ⟨ao, n, cap, ps, rfl, hl, hn, hr, hok, hs, hnb⟩ := open_pieces k0 h0
  obtain ⟨s, rfl, -, -, -⟩ := open_int Tryd.underlying3 k1 h1
  exact core W ao n cap ps s hl hr hok (by omega) (by omega) hT h00
end Go.Proofs.YtngkelflfahjbaaDoor.shaPieces
