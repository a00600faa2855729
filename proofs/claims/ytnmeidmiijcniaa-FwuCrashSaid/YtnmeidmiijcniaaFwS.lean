/- The document's Encode of metadata. No condition. -/
import Derived.Test.YtnmeidmiijcniaaFwE
import Derived.Test.YtnmeidmiijcniaaFwR
import Derived.Test.YtnmeidmiijcniaaRef3
import Derived.Lib.BufferWrite
import Derived.Test.YtnmeidmiijcniaaMk
set_option linter.unusedVariables false
set_option linter.unusedSimpArgs false
namespace Go.Proofs.Ytnmeidmiijcniaa
open Go.RowKit
theorem wpList_copy_run {P : Program} (w : World) {ops : Array Oper} {rest : List Oper} {o : Oper} {a : Act} {Q : Exit → Act → World → Prop} (hgd : o.guard = none) (s x : Operand) (t tn : TypeId)
    (ho : o.op = .call { callee := .builtin .copy, args := #[s, x], argTypes := #[t, tn] }) (vs vx : Value) (hs : a.eval s = vs) (hx : a.eval x = vx)
    (v' : Value) (w' : World) (hr : (Builtin.copy_ #[t, tn] o.type #[vs, vx]).run P w = .ok v' w') (h : wpList P ops Q rest (a.put o.dst v') w') : wpList P ops Q (o :: rest) a w :=
  wpList_plain hgd fun _ hK => by
    unfold Oper.wp execOp
    simp only [ho, resolve, invoke, builtin, Sem.run_bind, Sem.run_pure, Result.andThen_ok, List.map_toArray, List.map_cons, List.map_nil, hs, hx, hr]
    exact hK _ _ h
theorem putL_mid (a r c : List UInt8) (k v : Nat) (hr : r.length = k) : putL (a ++ (r ++ c)) a.length k false v = a ++ (encL k false v ++ c) := by
  apply List.ext_getElem
  · rw [putL_length, List.length_append, List.length_append, List.length_append, List.length_append, encL_length, hr]
  intro i h1 h2
  simp only [putL, putP, List.getElem_mapIdx]
  by_cases hi : i < a.length
  · rw [if_neg (by omega), List.getElem_append_left hi, List.getElem_append_left hi]
  · by_cases h3 : i < a.length + k
    · rw [if_pos ⟨by omega, h3, trivial⟩, List.getElem_append_right (by omega), List.getElem_append_left (by rw [encL_length]; omega)]
      unfold encL
      rw [List.getElem_map, List.getElem_range]
    · rw [if_neg (by omega), List.getElem_append_right (by omega), List.getElem_append_right (by omega), List.getElem_append_right (by omega), List.getElem_append_right (by rw [encL_length]; omega)]
      congr 1
      rw [encL_length, hr]
def doc0 : List UInt8 := magic ++ (List.replicate 4 0 ++ List.replicate 504 0)
theorem doc_put (m : Me) : ((((putL doc0 4 4 false m.seq).set 8 (oct m.b0)).set 9 (oct m.b1)).set 10 (oct m.act)).set 11 (oct m.tries) = head12 m ++ List.replicate 500 0 := by
  have h1 : putL doc0 4 4 false m.seq = (magic ++ encL 4 false m.seq) ++ ([0, 0, 0, 0] ++ List.replicate 500 0) := by
    unfold doc0
    have := putL_mid magic (List.replicate 4 0) (List.replicate 504 0) 4 m.seq (List.length_replicate ..)
    rw [show magic.length = 4 from rfl] at this
    rw [this, List.append_assoc]
    rfl
  have h8 : (magic ++ encL 4 false m.seq).length = 8 := by rw [List.length_append, encL_length]; rfl
  rw [h1, List.set_append_right _ _ (by omega), List.set_append_right _ _ (by omega), List.set_append_right _ _ (by omega), List.set_append_right _ _ (by omega), h8]
  unfold head12
  rw [List.append_assoc (magic ++ encL 4 false m.seq)]
  rfl
def z512 : List UInt8 := List.replicate 512 0
theorem mk512 (w : World) : (Instr.makeSlice 27 (.int .i64 512) (.int .i64 512)).run Try.prog w = .ok (.slice (some ⟨w.heap.size, 0, none⟩) 512 512) (w.alloc (.cells (z512.map bv).toArray 5)) := run_mk 512 (by decide) w
theorem doc0_row : (z512.map bv).toArray.toList.take 0 ++ Lib.byteCells #[70, 87, 85, 49].toList ++ (z512.map bv).toArray.toList.drop (0 + 4) = doc0.map bv := by
  unfold doc0 magic z512
  simp only [List.map_append, List.map_replicate, List.drop_replicate, List.map_cons, List.map_nil]
  rw [List.replicate_append_replicate]
  rfl
theorem rd23 {w : World} {b : Nat} {t : TypeId} {l : List UInt8} (h : HB w b t (l.map bv)) : Rd w (some ⟨b, 0, none⟩) l := fun j hj =>
  ⟨b, 0, rfl, by rw [Nat.zero_add]; exact h.cell (by rw [List.getElem?_map, List.getElem?_eq_getElem hj]; rfl)⟩
theorem HB.row23 {w : World} {g : Nat} {t : TypeId} {cur : List Value} (h : HB w g t cur) (new : List Value) : HB (w.setRow g new.toArray) g t new ∧ Frm (fun q => q = g) w (w.setRow g new.toArray) :=
  ⟨setRow_heap w g _ _ t _ h, ⟨rfl, rfl, rfl, by simp [World.setRow], fun k hk hne => setRow_other w g k _ hne⟩⟩
set_option maxRecDepth 100000 in
set_option maxHeartbeats 1000000 in
theorem renc_ok (m : Me) (w : World) (hr : rightM m = true) (hs : m.seq < 4294967296) :
    Calls Try.prog 11 #[mev m] w fun e w' => ∃ g C, e = .returned (.tuple #[.slice (some ⟨g, 0, none⟩) 512 C, .int .i64 0]) ∧ 512 ≤ C ∧ Own 5 w' w.heap.size (.slice (some ⟨g, 0, none⟩) 512 C) (encM m) ∧ Below w.heap.size w w' := by
  have HX := Lib.hid (HB.new w (mec m) 26)
  have HB1 := Lib.hid ((Below.refl w.heap.size w).alloc (Nat.le_refl _) (.cells (mec m).toArray 26))
  have HR := Lib.hid (fun w => rright_any m w)
  rw [hr] at HR
  obtain ⟨X, hX⟩ : ∃ X, w.heap.size = X := ⟨_, rfl⟩
  have HXx := fun (_ : Unit) => Lib.hid hX
  obtain ⟨w1, hw1⟩ : ∃ w1, w.alloc (.cells (mec m).toArray 26) = w1 := ⟨_, rfl⟩
  rw [hX] at HX
  rw [hw1] at HX HB1
  unfold mec at hw1
  unfold mev at HR ⊢
  obtain ⟨k0, k1, k2, k3, k4⟩ := Five.of HX.out
  have Hr := Lib.hid hr
  have Hs := Lib.hid hs
  have hmk := mk512
  clear hr hs
  go_enter Try.func11, Try.ntmps11
  go_wp2_with fail
  refine (HR.out _).mono ?_
  rintro e w2 ⟨rfl, hb2⟩
  have HX2 := Lib.hid (HX.out.later hb2)
  have HB2 := Lib.hid (HB1.out.trans (hb2.mono HB1.out.size))
  clear k0 k1 k2 k3 k4 HX HR hb2 HB1
  go_upto_region 5 with fail
  have hb3 := (Below.refl w2.heap.size w2).alloc (Nat.le_refl _) (.cells (z512.map bv).toArray 5)
  have hG := HB.new w2 (z512.map bv) 5
  have HX3 := Lib.hid (HX2.out.later hb3)
  have HB3 := Lib.hid (HB2.out.trans (hb3.mono HB2.out.size))
  have HgB : Hid (w.heap.size ≤ w2.heap.size) := Lib.hid HB2.out.size
  have HXG : Hid (X < w2.heap.size) := Lib.hid HX2.out.lt
  obtain ⟨w3, hw3⟩ : ∃ w3, w2.alloc (.cells (z512.map bv).toArray 5) = w3 := ⟨_, rfl⟩
  rw [hw3] at HX3 HB3 hG ⊢
  obtain ⟨G, hGg⟩ : ∃ G, w2.heap.size = G := ⟨_, rfl⟩
  rw [hGg] at hG HgB HXG ⊢
  have hcp := Lib.run_copy_row_string (P := Try.prog) w3 27 9 3 5 G 0 512 512 ⟨#[70, 87, 85, 49]⟩ _ _ Try.underlying27 (by kernel_rfl) hG (by decide) (by decide +kernel)
  rw [show (⟨#[70, 87, 85, 49]⟩ : ByteArray).size = 4 from rfl, show (⟨#[70, 87, 85, 49]⟩ : ByteArray).data = #[70, 87, 85, 49] from rfl, doc0_row] at hcp
  have Hcp := Lib.hid hcp
  obtain ⟨hG4, hf4⟩ := HB.row23 hG (doc0.map bv)
  have HX4 := Lib.hid (HX3.out.frm hf4 (by have := HXG.out; omega))
  have HB4 := Lib.hid (HB3.out.trans (hf4.below (B := w.heap.size) HB3.out.size (fun q hq => by have := HgB.out; omega)))
  have hlen0 : doc0.length = 512 := by unfold doc0; simp [magic]
  have Hput := Lib.hid (rput_run (some ⟨G, 0, none⟩) 512 512 4 4 m.seq doc0 false (w3.setRow G (doc0.map bv).toArray) hlen0 (by decide) (fun h => by cases h) (rd23 hG4) (.inr (.inr (.inl rfl))) (by decide) (by have := Hs.out; omega))
  have hl1 : (putL doc0 4 4 false m.seq).length = 512 := by rw [putL_length, hlen0]
  obtain ⟨L1, hL1⟩ : ∃ L1, putL doc0 4 4 false m.seq = L1 := ⟨_, rfl⟩
  have HL1 := fun (_ : Unit) => Lib.hid hL1
  rw [hL1] at Hput hl1
  clear hL1
  have e64 : IntKind.u64.wrap (m.seq : Int) = (m.seq : Int) := IntWalk.u64_in _ (by have := Hs.out; omega)
  have hrr := right_iff.1 Hr.out
  have e0 : m.b0 % 256 = ((oct m.b0).toNat : Int) := by rw [nat_oct hrr.p.1 (by have := hrr.p.2; omega)]; have := hrr.p; omega
  have e1 : m.b1 % 256 = ((oct m.b1).toNat : Int) := by rw [nat_oct hrr.q.1 (by have := hrr.q.2; omega)]; have := hrr.q; omega
  have e2 : m.act % 256 = ((oct m.act).toNat : Int) := by rw [nat_oct (by have := hrr.a; omega) (by have := hrr.a; omega)]; have := hrr.a; omega
  have e3 : m.tries % 256 = ((oct m.tries).toNat : Int) := by rw [nat_oct hrr.t.1 (by have := hrr.t.2; omega)]; have := hrr.t; omega
  clear hcp hG hG4 hf4 hlen0 HX3 HB3 hw3 hb3 hrr hmk
  generalize w3.setRow G (doc0.map bv).toArray = w4 at *
  rw [show ((4 : Nat) : Int) = 4 from rfl] at Hput
  obtain ⟨x0, x1, x2, x3, x4⟩ := Five.of HX4.out
  go_wp2_with (refine wpList_copy_run _ rfl _ _ _ _ rfl _ _ rfl rfl _ _ Hcp.out ?_)
  go_wp2_with fail
  clear x0 x1 x2 x3 x4
  refine Hput.out.mono ?_
  rintro e w5 (⟨g1, C1, -, rfl, hC1, ho5, hb5⟩ | ⟨hno, -, -⟩)
  case inr => exact absurd Hs.out (by rw [show (256 : Nat) ^ 4 = 4294967296 from rfl] at hno; exact hno)
  have hg1 := own_blk ho5 (k := g1) rfl
  have HXn := Lib.hid (HX4.out.later hb5)
  have HBn := Lib.hid (HB4.out.trans (hb5.mono HB4.out.size))
  have HgB1 : Hid (w.heap.size ≤ g1) := Lib.hid (by have := HB4.out.size; omega)
  have HXg : Hid (X ≠ g1) := Lib.hid (by have := HX4.out.lt; omega)
  have HO := Lib.hid (ho5.mono HB4.out.size)
  have hc1 : (508 : Int) ≤ (C1 : Int) := by omega
  have Hlen := fun (_ : Unit) => Lib.hid hl1
  have HC1 := Lib.hid hC1
  clear ho5 hb5 hg1 HX4 HB4 Hput Hcp hl1 hC1
  go_upto_region 7 with fail
  obtain ⟨-, -, -, -, -, hcl, hfz⟩ := HO.out.at
  have k8 := hcl 8 (by decide)
  have f8 := hfz 8
  have Hst := fun (_ : Unit) => Lib.hid (HO.out.store 8 (oct m.b0) (by rw [(Hlen ()).out]; decide))
  have Hbs := fun (_ : Unit) => Lib.hid (HBn.out.setCell (p := ⟨g1, 8, none⟩) HgB1.out (.int .u8 ((oct m.b0)).toNat))
  have HXs := fun (_ : Unit) => Lib.hid (HXn.out.other ⟨g1, 8, none⟩ (.int .u8 ((oct m.b0)).toNat) HXg.out)
  obtain ⟨x0, x1, x2, x3, x4⟩ := Five.of HXn.out
  clear hcl hfz HO HBn HXn
  go_upto_region 8 with fail
  clear x0 x1 x2 x3 x4 k8 f8
  generalize World.setCell _ _ _ = wn at *
  have HO := (Hst ())
  have HBn := (Hbs ())
  have HXn := (HXs ())
  have Hlen := fun (_ : Unit) => Lib.hid (show (List.set _ 8 (oct m.b0)).length = 512 from by rw [List.length_set]; exact (Hlen ()).out)
  clear Hst Hbs HXs
  obtain ⟨-, -, -, -, -, hcl, hfz⟩ := HO.out.at
  have k8 := hcl 9 (by decide)
  have f8 := hfz 9
  have Hst := fun (_ : Unit) => Lib.hid (HO.out.store 9 (oct m.b1) (by rw [(Hlen ()).out]; decide))
  have Hbs := fun (_ : Unit) => Lib.hid (HBn.out.setCell (p := ⟨g1, 9, none⟩) HgB1.out (.int .u8 ((oct m.b1)).toNat))
  have HXs := fun (_ : Unit) => Lib.hid (HXn.out.other ⟨g1, 9, none⟩ (.int .u8 ((oct m.b1)).toNat) HXg.out)
  obtain ⟨x0, x1, x2, x3, x4⟩ := Five.of HXn.out
  clear hcl hfz HO HBn HXn
  go_upto_region 9 with fail
  clear x0 x1 x2 x3 x4 k8 f8
  generalize World.setCell _ _ _ = wn at *
  have HO := (Hst ())
  have HBn := (Hbs ())
  have HXn := (HXs ())
  have Hlen := fun (_ : Unit) => Lib.hid (show (List.set _ 9 (oct m.b1)).length = 512 from by rw [List.length_set]; exact (Hlen ()).out)
  clear Hst Hbs HXs
  obtain ⟨-, -, -, -, -, hcl, hfz⟩ := HO.out.at
  have k8 := hcl 10 (by decide)
  have f8 := hfz 10
  have Hst := fun (_ : Unit) => Lib.hid (HO.out.store 10 (oct m.act) (by rw [(Hlen ()).out]; decide))
  have Hbs := fun (_ : Unit) => Lib.hid (HBn.out.setCell (p := ⟨g1, 10, none⟩) HgB1.out (.int .u8 ((oct m.act)).toNat))
  have HXs := fun (_ : Unit) => Lib.hid (HXn.out.other ⟨g1, 10, none⟩ (.int .u8 ((oct m.act)).toNat) HXg.out)
  obtain ⟨x0, x1, x2, x3, x4⟩ := Five.of HXn.out
  clear hcl hfz HO HBn HXn
  go_upto_region 10 with fail
  clear x0 x1 x2 x3 x4 k8 f8
  generalize World.setCell _ _ _ = wn at *
  have HO := (Hst ())
  have HBn := (Hbs ())
  have HXn := (HXs ())
  have Hlen := fun (_ : Unit) => Lib.hid (show (List.set _ 10 (oct m.act)).length = 512 from by rw [List.length_set]; exact (Hlen ()).out)
  clear Hst Hbs HXs
  obtain ⟨-, -, -, -, -, hcl, hfz⟩ := HO.out.at
  have k8 := hcl 11 (by decide)
  have f8 := hfz 11
  have Hst := fun (_ : Unit) => Lib.hid (HO.out.store 11 (oct m.tries) (by rw [(Hlen ()).out]; decide))
  have Hbs := fun (_ : Unit) => Lib.hid (HBn.out.setCell (p := ⟨g1, 11, none⟩) HgB1.out (.int .u8 ((oct m.tries)).toNat))
  have HXs := fun (_ : Unit) => Lib.hid (HXn.out.other ⟨g1, 11, none⟩ (.int .u8 ((oct m.tries)).toNat) HXg.out)
  obtain ⟨x0, x1, x2, x3, x4⟩ := Five.of HXn.out
  clear hcl hfz HO HBn HXn
  go_upto_region 11 with fail
  clear x0 x1 x2 x3 x4 k8 f8
  generalize World.setCell _ _ _ = wn at *
  have HO := (Hst ())
  have HBn := (Hbs ())
  have HXn := (HXs ())
  have Hlen := fun (_ : Unit) => Lib.hid (show (List.set _ 11 (oct m.tries)).length = 512 from by rw [List.length_set]; exact (Hlen ()).out)
  clear Hst Hbs HXs
  have hdp := doc_put m
  rw [(HL1 ()).out] at hdp
  obtain ⟨L, hL⟩ : ∃ L, (((L1.set 8 (oct m.b0)).set 9 (oct m.b1)).set 10 (oct m.act)).set 11 (oct m.tries) = L := ⟨_, rfl⟩
  have hlen9 := (Hlen ()).out
  clear Hlen
  rw [hL] at HO hlen9 hdp
  have hres := enc_put m
  rw [← hdp] at hres
  have hr4 : Rd wn (some ⟨g1, 0, none⟩) L := by
    obtain ⟨a4, c4, he4, -, -, hr4⟩ := HO.out.rd
    rw [hlen9] at he4
    cases he4
    exact hr4
  have hl4 := hlen9
  have Hcrc := Lib.hid (rcrc_any (some ⟨g1, 0, none⟩) 508 C1 (L.take 508) 0#32 0 rfl wn (by rw [List.length_take, hl4]; rfl) (by decide) (fun j hj => by
    rw [List.length_take, hl4] at hj
    obtain ⟨b, off, e, hc⟩ := hr4 j (by omega)
    exact ⟨b, off, e, by rw [List.getElem?_take, if_pos (by omega)]; exact hc⟩))
  have hlt := (crc 0#32 (L.take 508)).isLt
  obtain ⟨S, hS⟩ : ∃ S, (crc 0#32 (L.take 508)).toNat = S := ⟨_, rfl⟩
  rw [hS] at Hcrc hres hlt
  have Hput := Lib.hid (rput_run (some ⟨g1, 0, none⟩) 512 C1 508 4 S L false wn hl4 (by decide) (fun h => by cases h) hr4 (.inr (.inr (.inl rfl))) (by decide) (by omega))
  have eS : IntKind.u64.wrap (S : Int) = (S : Int) := IntWalk.u64_in _ (by omega)
  rw [hres] at Hput
  rw [show ((508 : Nat) : Int) = 508 from rfl, show ((4 : Nat) : Int) = 4 from rfl] at Hput
  have Hlt := Lib.hid hlt
  clear hres hS hr4 hL hl4 hdp hlt hlen9 HL1 e0 e1 e2 e3 e64
  go_wp2_with fail
  refine Hcrc.out.mono ?_
  rintro e w7 ⟨rfl, rfl⟩
  clear Hcrc
  go_wp2_with fail
  refine Hput.out.mono ?_
  rintro e w8 (⟨g6, C6, -, rfl, hC6, ho6, hb6⟩ | ⟨hno, -, -⟩)
  case inr => exact absurd Hlt.out (by rw [show (256 : Nat) ^ 4 = 2 ^ 32 from rfl] at hno; exact hno)
  have HO6 := Lib.hid ho6
  have HB6 := Lib.hid (HBn.out.trans (hb6.mono HBn.out.size))
  clear ho6 hb6 Hput HO
  go_wp2_with fail
  go_ret2
  exact ⟨g6, C6, rfl, hC6, HO6.out.mono (by have := HBn.out.size; omega), HB6.out⟩
theorem renc_bad (m : Me) (w : World) (hr : rightM m = false) :
    Calls Try.prog 11 #[mev m] w fun e w' => e = .returned (.tuple #[.slice none 0 0, .int .i64 231]) ∧ Below w.heap.size w w' := by
  have HX := Lib.hid (HB.new w (mec m) 26)
  have HB1 := Lib.hid ((Below.refl w.heap.size w).alloc (Nat.le_refl _) (.cells (mec m).toArray 26))
  have HR := Lib.hid (fun w => rright_any m w)
  rw [hr] at HR
  obtain ⟨X, hX⟩ : ∃ X, w.heap.size = X := ⟨_, rfl⟩
  have HXx := fun (_ : Unit) => Lib.hid hX
  obtain ⟨w1, hw1⟩ : ∃ w1, w.alloc (.cells (mec m).toArray 26) = w1 := ⟨_, rfl⟩
  rw [hX] at HX
  rw [hw1] at HX HB1
  unfold mec at hw1
  unfold mev at HR ⊢
  obtain ⟨k0, k1, k2, k3, k4⟩ := Five.of HX.out
  clear hr
  go_enter Try.func11, Try.ntmps11
  go_wp2_with fail
  refine (HR.out _).mono ?_
  rintro e w2 ⟨rfl, hb2⟩
  have HB2 := Lib.hid (HB1.out.trans (hb2.mono HB1.out.size))
  clear k0 k1 k2 k3 k4 HX HR hb2 HB1
  go_wp2_with fail
  go_ret2
  exact ⟨rfl, by first | exact HB2.out | (rw [← hX]; exact HB2.out)⟩
end Go.Proofs.Ytnmeidmiijcniaa
