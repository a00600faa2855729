/- Names of 16 bytes, and a table's entries: as values, and when two are one. No condition. -/
import Derived.Test.YtefkmlfpdlnodaaProg
import Derived.Test.YtefkmlfpdlnodaaSeq
import Derived.Maps.Views
import Derived.Maps.RangeWalk
import Derived.DeepKeys4
import Derived.DeepKeys
set_option linter.unusedVariables false
set_option linter.unusedSimpArgs false
namespace Go.Proofs.Ytefkmlfpdlnodaa
open Go.RowKit Go.Maps
abbrev Gu := {l : List UInt8 // l.length = 16}
def guc (g : Gu) : List Value := g.1.map bv
def gz : Gu := ⟨List.replicate 16 0, rfl⟩
structure En where
  id : Gu
  off : Nat
  sz : Nat
  fl : Nat
deriving DecidableEq
def enc (e : En) : List Value := guc e.id ++ [.int .u64 e.off, .int .u64 e.sz, .int .u64 e.fl]
structure En.Ok (e : En) : Prop where
  o : e.off < 18446744073709551616
  s : e.sz < 18446744073709551616
  f : e.fl < 18446744073709551616
theorem guc_len (g : Gu) : (guc g).length = 16 := by unfold guc; rw [List.length_map]; exact g.2
theorem enc_len (e : En) : (enc e).length = 19 := by unfold enc; rw [List.length_append, guc_len]; rfl
theorem lst16 {α : Type} {l : List α} (h : l.length = 16) : ∃ a b c d e f g i a' b' c' d' e' f' g' i', l = [a, b, c, d, e, f, g, i, a', b', c', d', e', f', g', i'] := by
  match l, h with
  | [a, b, c, d, e, f, g, i, a', b', c', d', e', f', g', i'], _ => exact ⟨a, b, c, d, e, f, g, i, a', b', c', d', e', f', g', i', rfl⟩
theorem laidOutP : laidOutB Try.prog = true := by kernel_rfl
theorem guLaw : Keyed Try.prog 30 :=
  Keyed.of_law (deep_law_laid laidOutP (m := 2) (by omega) (of_decide_eq_true (by kernel_rfl)) (by kernel_rfl) (by rw [Try.underlying30]))
theorem guKey : Try.prog.keyType 30 = true := by kernel_rfl
theorem enKey : Try.prog.keyType 32 = true := by kernel_rfl
theorem wf_u64 {n : Nat} (h : n < 18446744073709551616) : (Lit.int .u64 (n : Int)).wf = true := by
  simp [Lit.wf, IntKind.min, IntKind.max, IntKind.bits, IntKind.signed]; omega
theorem wf_u8 (c : UInt8) : (Lit.int .u8 (c.toNat : Int)).wf = true := by
  have := c.toNat_lt
  simp [Lit.wf, IntKind.min, IntKind.max, IntKind.bits, IntKind.signed]; omega
def lit8 (c : UInt8) : Lit := .int .u8 (c.toNat : Int)
theorem lits_u8 (m : Nat) (c : UInt8) : Try.prog.keyLits (m + 1) 5 [bv c] = some [lit8 c] := by
  have := wf_u8 c
  unfold Program.keyLits
  rw [Try.underlying5]
  simp [bv, lit8, this]
theorem lits_u64 (m : Nat) {n : Nat} (h : n < 18446744073709551616) : Try.prog.keyLits (m + 1) 28 [.int .u64 n] = some [.int .u64 n] := by
  have := wf_u64 h
  unfold Program.keyLits
  rw [Try.underlying28]
  simp [this]
theorem lits_gu (m : Nat) (g : Gu) : Try.prog.keyLits (m + 2) 30 (guc g) = some (g.1.map lit8) := by
  have hc : Try.prog.cellsOf 30 = 16 := by kernel_rfl
  have h1 : Try.prog.cellsOf 5 = 1 := by kernel_rfl
  have hu := lits_u8 m
  obtain ⟨l, hl⟩ := g
  obtain ⟨a, b, c, d, e, f, g, i, a', b', c', d', e', f', g', i', rfl⟩ := lst16 hl
  unfold Program.keyLits
  rw [Try.underlying30]
  have hg : guc ⟨[a, b, c, d, e, f, g, i, a', b', c', d', e', f', g', i'], hl⟩ = [bv a, bv b, bv c, bv d, bv e, bv f, bv g, bv i, bv a', bv b', bv c', bv d', bv e', bv f', bv g', bv i'] := rfl
  rw [hg]
  have hb : ∀ c, bv c = .int .u8 c.toNat := fun _ => rfl
  have hr : List.range 16 = [0, 1, 2, 3, 4, 5, 6, 7, 8, 9, 10, 11, 12, 13, 14, 15] := by decide
  simp only [hr, h1, hc, List.length_cons, List.length_nil, if_true, List.mapM_cons, List.mapM_nil, Nat.zero_mul, Nat.one_mul, Nat.mul_one, List.drop_succ_cons, List.drop_zero, List.take_succ_cons, List.take_zero, hu, Nat.reduceAdd]
  rfl
def gl (g : Gu) : Lit := .string (keyBytes (g.1.map lit8))
theorem types3 : ∃ m, Try.prog.types.size = m + 3 := ⟨Try.prog.types.size - 3, by have : 2 < Try.prog.types.size := of_decide_eq_true (by kernel_rfl); omega⟩
theorem keyOf_gu (g : Gu) : keyOf Try.prog 30 (.agg (guc g).toArray) = some (gl g) := by
  have hc : Try.prog.cellsOf 30 = 16 := by kernel_rfl
  obtain ⟨m, hm⟩ := types3
  unfold keyOf
  rw [Try.underlying30]
  simp only []
  rw [if_pos (by rw [guKey]; simp [Value.formed, Try.underlying30, hc, guc_len]), hm]
  have : (Value.agg (guc g).toArray).cells.toList = guc g := rfl
  rw [this, show m + 3 + 1 = (m + 2) + 2 from rfl, lits_gu]
  rfl
theorem guc_inj {a b : Gu} (h : guc a = guc b) : a = b := by
  apply Subtype.ext
  refine (List.map_inj_right (f := bv) (fun x y h => ?_)).1 h
  unfold bv at h
  simp only [Value.int.injEq, true_and] at h
  exact UInt8.toNat_inj.1 (by omega)
theorem gl_inj {a b : Gu} (h : gl a = gl b) : a = b := by
  have h1 := keyOf_gu a
  have h2 := keyOf_gu b
  rw [← h] at h2
  have h3 := guLaw.inj h1 h2
  simp only [Value.agg.injEq] at h3
  exact guc_inj (congrArg Array.toList h3)
theorem gu_equal (a b : Gu) (w : World) : (Op.equalIn 10000 30 (.agg (guc a).toArray) (.agg (guc b).toArray)).run Try.prog w = .ok (decide (a = b)) w := by
  obtain ⟨r, hr, hi⟩ := run_equal_deep (P := Try.prog) w (m := 2) (by omega) (k := 30) (by kernel_rfl) (by rw [Try.underlying30]) (keyOf_gu a) (keyOf_gu b)
  have e : r = decide (a = b) := by
    rw [Bool.eq_iff_iff, hi, decide_eq_true_iff]
    exact ⟨gl_inj, fun e => by rw [e]⟩
  rw [← e]
  exact hr
theorem enc_lits (m : Nat) {e : En} (h : e.Ok) : Try.prog.keyLits (m + 3) 32 (enc e) = some (e.id.1.map lit8 ++ [.int .u64 e.off, .int .u64 e.sz, .int .u64 e.fl]) := by
  have hc : Try.prog.cellsOf 32 = 19 := by kernel_rfl
  have h1 : Try.prog.cellsOf 28 = 1 := by kernel_rfl
  have h2 : Try.prog.cellsOf 30 = 16 := by kernel_rfl
  have l1 := lits_u64 (m + 1) h.o
  have l2 := lits_u64 (m + 1) h.s
  have l3 := lits_u64 (m + 1) h.f
  have l0 := lits_gu m e.id
  unfold Program.keyLits
  rw [Try.underlying32]
  have hk : (guc e.id).take 16 = guc e.id := List.take_of_length_le (by rw [guc_len]; exact Nat.le_refl _)
  have d16 : (guc e.id).drop 16 = [] := List.drop_eq_nil_of_le (by rw [guc_len]; omega)
  have d17 : (guc e.id).drop 17 = [] := List.drop_eq_nil_of_le (by rw [guc_len]; omega)
  have d18 : (guc e.id).drop 18 = [] := List.drop_eq_nil_of_le (by rw [guc_len]; omega)
  have t0 : ((enc e).drop 0).take 16 = guc e.id := by unfold enc; rw [List.drop_zero, List.take_append, guc_len, hk]; simp
  have t1 : ((enc e).drop 16).take 1 = [.int .u64 e.off] := by unfold enc; rw [List.drop_append, guc_len, d16]; rfl
  have t2 : ((enc e).drop 17).take 1 = [.int .u64 e.sz] := by unfold enc; rw [List.drop_append, guc_len, d17]; rfl
  have t3 : ((enc e).drop 18).take 1 = [.int .u64 e.fl] := by unfold enc; rw [List.drop_append, guc_len, d18]; rfl
  simp only []
  rw [if_pos ⟨by rw [hc, enc_len], by decide +kernel⟩]
  simp only [List.mapM_cons, List.mapM_nil, h1, h2, t0, t1, t2, t3, l0, l1, l2, l3]
  simp
theorem keyOf_en {e : En} (h : e.Ok) : keyOf Try.prog 32 (.agg (enc e).toArray) = some (.string (keyBytes (e.id.1.map lit8 ++ [.int .u64 e.off, .int .u64 e.sz, .int .u64 e.fl]))) := by
  have hc : Try.prog.cellsOf 32 = 19 := by kernel_rfl
  obtain ⟨m, hm⟩ := types3
  unfold keyOf
  rw [Try.underlying32]
  simp only []
  rw [if_pos (by rw [enKey]; simp [Value.formed, Try.underlying32, hc, enc_len]), hm]
  have : (Value.agg (enc e).toArray).cells.toList = enc e := rfl
  rw [this, show m + 3 + 1 = (m + 1) + 3 from rfl, enc_lits _ h]
  rfl
theorem enLaw : Keyed Try.prog 32 :=
  Keyed.of_law (deep_law_laid laidOutP (m := 3) (by omega) (of_decide_eq_true (by kernel_rfl)) (by kernel_rfl) (by rw [Try.underlying32]))
theorem enc_inj {a b : En} (h : enc a = enc b) : a = b := by
  unfold enc at h
  obtain ⟨h1, h2⟩ := List.append_inj h (by rw [guc_len, guc_len])
  have h3 := guc_inj h1
  simp only [List.cons.injEq, Value.int.injEq, true_and, and_true] at h2
  obtain ⟨i, o, s, f⟩ := a
  obtain ⟨i', o', s', f'⟩ := b
  simp only at h2 h3
  obtain ⟨rfl⟩ := h3
  congr <;> omega
theorem en_equal {a b : En} (ha : a.Ok) (hb : b.Ok) (w : World) : (Op.equalIn 10000 32 (.agg (enc a).toArray) (.agg (enc b).toArray)).run Try.prog w = .ok (decide (a = b)) w := by
  obtain ⟨r, hr, hi⟩ := run_equal_deep (P := Try.prog) w (m := 3) (by omega) (k := 32) (by kernel_rfl) (by rw [Try.underlying32]) (keyOf_en ha) (keyOf_en hb)
  have e : r = decide (a = b) := by
    rw [Bool.eq_iff_iff, hi, decide_eq_true_iff]
    refine ⟨fun h => ?_, fun e => by rw [e]⟩
    have h1 := keyOf_en ha
    have h2 := keyOf_en hb
    rw [← h] at h2
    have h3 := enLaw.inj h1 h2
    simp only [Value.agg.injEq] at h3
    exact enc_inj (congrArg Array.toList h3)
  rw [← e]
  exact hr
theorem en_build (e : En) (w : World) : (Instr.build 32 #[(0, .agg (guc e.id).toArray), (1, .int .u64 (e.off : Int)), (2, .int .u64 (e.sz : Int)), (3, .int .u64 (e.fl : Int))]).run Try.prog w = .ok (.agg (enc e).toArray) w := by
  obtain ⟨⟨l, hl⟩, o, s, f⟩ := e
  obtain ⟨a, b, c, d, e, f, g, i, a', b', c', d', e', f', g', i', rfl⟩ := lst16 hl
  kernel_rfl
/-- an entry that is put together -/
def buildEn (ps : Array (Nat × Value)) : Sem Value := Instr.build 32 ps
theorem build_en (ps : Array (Nat × Value)) : Instr.build 32 ps = buildEn ps := rfl
theorem run_buildEn (e : En) (w : World) : (buildEn #[(0, .agg (guc e.id).toArray), (1, .int .u64 (e.off : Int)), (2, .int .u64 (e.sz : Int)), (3, .int .u64 (e.fl : Int))]).run Try.prog w = .ok (.agg (enc e).toArray) w := en_build e w
theorem guInfo (g : Gu) : (Try.prog.info? 30).map (·.size) = some (guc g).length := by rw [guc_len]; kernel_rfl
theorem enInfo (e : En) : (Try.prog.info? 32).map (·.size) = some (enc e).length := by rw [enc_len]; kernel_rfl
def ez : En := ⟨gz, 0, 0, 0⟩
def storeEn (p v : Value) : Sem Unit := Instr.storeAt 32 p v
theorem store_en (p v : Value) : Instr.storeAt 32 p v = storeEn p v := rfl
def storeGu (p v : Value) : Sem Unit := Instr.storeAt 30 p v
theorem store_gu (p v : Value) : Instr.storeAt 30 p v = storeGu p v := rfl
def loadEn (p : Value) : Sem Value := Instr.loadAt 32 p
theorem load_en (p : Value) : Instr.loadAt 32 p = loadEn p := rfl
def loadGu (p : Value) : Sem Value := Instr.loadAt 30 p
theorem load_gu (p : Value) : Instr.loadAt 30 p = loadGu p := rfl
theorem guc_one (g : Gu) : ∀ u ∈ guc g, u.oneCell' = true := fun u hu => by
  unfold guc at hu; rw [List.mem_map] at hu; obtain ⟨c, _, rfl⟩ := hu; rfl
theorem enc_one (e : En) : ∀ u ∈ enc e, u.oneCell' = true := fun u hu => by
  unfold enc at hu
  rw [List.mem_append] at hu
  rcases hu with h | h
  · exact guc_one _ _ h
  · simp only [List.mem_cons, List.not_mem_nil, or_false] at h
    rcases h with h | h | h <;> subst h <;> rfl
theorem run_storeEn {w : World} {b : Nat} (e : En) (ht : w.there b 0 19) : (storeEn (.pointer (some ⟨b, 0, none⟩)) (.agg (enc e).toArray)).run Try.prog w = .ok () (w.setCells b 0 (enc e)) := by
  have := run_storeAt_mid (P := Try.prog) w b 0 32 (enc e).toArray (by rw [List.size_toArray, enc_len]; exact ht) (by rw [List.size_toArray]; exact enInfo e) (by
    rw [Array.all_eq_true_iff_forall_mem]; intro u hu; exact enc_one e u (by simpa using hu))
  exact this
theorem run_storeGu {w : World} {b : Nat} (g : Gu) (ht : w.there b 0 16) : (storeGu (.pointer (some ⟨b, 0, none⟩)) (.agg (guc g).toArray)).run Try.prog w = .ok () (w.setCells b 0 (guc g)) := by
  have := run_storeAt_mid (P := Try.prog) w b 0 30 (guc g).toArray (by rw [List.size_toArray, guc_len]; exact ht) (by rw [List.size_toArray]; exact guInfo g) (by
    rw [Array.all_eq_true_iff_forall_mem]; intro u hu; exact guc_one g u (by simpa using hu))
  exact this
theorem run_loadEn {w : World} {b o : Nat} {e : En} (h : w.rangeAt b o (enc e)) : (loadEn (.pointer (some ⟨b, o, none⟩))).run Try.prog w = .ok (.agg (enc e).toArray) w :=
  run_loadAt_mid (P := Try.prog) w b o 32 (enc e) _ h Try.underlying32 rfl (enInfo e)
theorem run_loadGu {w : World} {b o : Nat} {g : Gu} (h : w.rangeAt b o (guc g)) : (loadGu (.pointer (some ⟨b, o, none⟩))).run Try.prog w = .ok (.agg (guc g).toArray) w :=
  run_loadAt_mid (P := Try.prog) w b o 30 (guc g) _ h Try.underlying30 rfl (guInfo g)
theorem rangeEn {w : World} {b : Nat} {t : TypeId} {e : En} (h : HB w b t (enc e)) : w.rangeAt b 0 (enc e) := h.whole
theorem rangeGu {w : World} {b : Nat} {t : TypeId} {e : En} (h : HB w b t (enc e)) : w.rangeAt b 0 (guc e.id) := fun j v hj => by
  rw [Nat.zero_add]
  refine h.cell ?_
  unfold enc
  rw [List.getElem?_append_left (List.getElem?_eq_some_iff.1 hj).1]
  exact hj
theorem enc_off (e : En) : (enc e)[16]? = some (.int .u64 e.off) := by
  unfold enc; rw [List.getElem?_append_right (by rw [guc_len]; omega), guc_len]; rfl
theorem enc_sz (e : En) : (enc e)[17]? = some (.int .u64 e.sz) := by
  unfold enc; rw [List.getElem?_append_right (by rw [guc_len]; omega), guc_len]; rfl
theorem enc_fl (e : En) : (enc e)[18]? = some (.int .u64 e.fl) := by
  unfold enc; rw [List.getElem?_append_right (by rw [guc_len]; omega), guc_len]; rfl
/-- a block filled anew -/
theorem HB.fill : ∀ (vs cs : List Value) (o : Nat) {w : World} {b : Nat} {t : TypeId}, HB w b t cs → o + vs.length ≤ cs.length → HB (w.setCells b o vs) b t (cs.take o ++ vs ++ cs.drop (o + vs.length))
  | [], cs, o, w, b, t, h, _ => by simpa [World.setCells] using h
  | v :: vs, cs, o, w, b, t, h, hl => by
    have h1 := HB.fill vs (cs.set o v) (o + 1) (h.set o v) (by simp at hl ⊢; omega)
    have e : (cs.set o v).take (o + 1) ++ vs ++ (cs.set o v).drop (o + 1 + vs.length) = cs.take o ++ (v :: vs) ++ cs.drop (o + (v :: vs).length) := by
      have ho : o < cs.length := by simp at hl; omega
      rw [List.drop_set_of_lt (by omega), List.take_set, List.set_eq_take_append_cons_drop, List.length_take]
      simp only [Nat.min_eq_left (show o + 1 ≤ cs.length by omega), if_pos (Nat.lt_succ_self o), List.take_take, Nat.min_eq_left (Nat.le_succ o), List.length_cons]
      rw [List.drop_of_length_le (by simp; omega)]
      simp [Nat.add_assoc, Nat.add_comm 1]
    rw [e] at h1
    exact h1
theorem HB.fillAll {w : World} {b : Nat} {t : TypeId} {cs vs : List Value} (h : HB w b t cs) (hl : vs.length = cs.length) : HB (w.setCells b 0 vs) b t vs := by
  have := HB.fill vs cs 0 h (by omega)
  rw [List.take_zero, List.nil_append, List.drop_of_length_le (by omega), List.append_nil] at this
  exact this
theorem grown_setCells (b : Nat) : ∀ (vs : List Value) (o : Nat) (w : World), w.grownBy (w.setCells b o vs) (some b) := by
  intro vs
  induction vs with
  | nil => intro o w; exact World.grownBy.refl _ _
  | cons v vs ih =>
    intro o w
    exact (grown_set w ⟨b, o, none⟩ v).trans (ih (o + 1) _)
def bsEn (n : Nat) (ps : Array (Nat × Value)) : Sem Value := Instr.buildSlice 23 n ps
theorem bs_en (n : Nat) (ps : Array (Nat × Value)) : Instr.buildSlice 23 n ps = bsEn n ps := rfl
theorem run_bsEn (e : En) (w : World) : (bsEn 1 #[(0, .agg (enc e).toArray)]).run Try.prog w = .ok (.slice (some ⟨w.heap.size, 0, none⟩) 1 1) (w.alloc (.cells (enc e).toArray 32)) := by
  obtain ⟨⟨l, hl⟩, o, s, f⟩ := e
  obtain ⟨a, b, c, d, e, f, g, i, a', b', c', d', e', f', g', i', rfl⟩ := lst16 hl
  kernel_rfl
theorem run_buildEnd (n : Nat) (w : World) : (buildEn #[(1, .int .u64 (n : Int))]).run Try.prog w = .ok (.agg (enc ⟨gz, n, 0, 0⟩).toArray) w := by kernel_rfl
def buildGu (ps : Array (Nat × Value)) : Sem Value := Instr.build 30 ps
theorem build_gu (ps : Array (Nat × Value)) : Instr.build 30 ps = buildGu ps := rfl
theorem run_buildGz (w : World) : (buildGu #[]).run Try.prog w = .ok (.agg (guc gz).toArray) w := by kernel_rfl
/-- a variable that is laid anew and filled -/
def freshEn (w : World) (e : En) : World := (w.alloc (.cells #[.int .u8 0, .int .u8 0, .int .u8 0, .int .u8 0, .int .u8 0, .int .u8 0, .int .u8 0, .int .u8 0, .int .u8 0, .int .u8 0, .int .u8 0, .int .u8 0, .int .u8 0, .int .u8 0, .int .u8 0, .int .u8 0, .int .u64 0, .int .u64 0, .int .u64 0] 32)).setCells w.heap.size 0 (enc e)
theorem fresh_st (w : World) (e : En) : (storeEn (.pointer (some ⟨w.heap.size, 0, none⟩)) (.agg (enc e).toArray)).run Try.prog (w.alloc (.cells #[.int .u8 0, .int .u8 0, .int .u8 0, .int .u8 0, .int .u8 0, .int .u8 0, .int .u8 0, .int .u8 0, .int .u8 0, .int .u8 0, .int .u8 0, .int .u8 0, .int .u8 0, .int .u8 0, .int .u8 0, .int .u8 0, .int .u64 0, .int .u64 0, .int .u64 0] 32)) = .ok () (freshEn w e) :=
  run_storeEn e ((HB.new w (enc ez) 32).there (by rw [enc_len]; exact Nat.le_refl _))
theorem fresh_hb (w : World) (e : En) : HB (freshEn w e) w.heap.size 32 (enc e) := (HB.new w (enc ez) 32).fillAll (by rw [enc_len, enc_len])
theorem fresh_below (w : World) (e : En) : Below w.heap.size w (freshEn w e) :=
  ((Below.refl _ w).alloc (Nat.le_refl _) (.cells (enc ez).toArray 32)).grown (grown_setCells w.heap.size (enc e) 0 (w.alloc (.cells (enc ez).toArray 32))) (by simp) (fun k hk => by have := Option.some.inj hk; omega)
def freshGu (w : World) (g : Gu) : World := (w.alloc (.cells #[.int .u8 0, .int .u8 0, .int .u8 0, .int .u8 0, .int .u8 0, .int .u8 0, .int .u8 0, .int .u8 0, .int .u8 0, .int .u8 0, .int .u8 0, .int .u8 0, .int .u8 0, .int .u8 0, .int .u8 0, .int .u8 0] 30)).setCells w.heap.size 0 (guc g)
theorem freshGu_st (w : World) (g : Gu) : (storeGu (.pointer (some ⟨w.heap.size, 0, none⟩)) (.agg (guc g).toArray)).run Try.prog (w.alloc (.cells #[.int .u8 0, .int .u8 0, .int .u8 0, .int .u8 0, .int .u8 0, .int .u8 0, .int .u8 0, .int .u8 0, .int .u8 0, .int .u8 0, .int .u8 0, .int .u8 0, .int .u8 0, .int .u8 0, .int .u8 0, .int .u8 0] 30)) = .ok () (freshGu w g) :=
  run_storeGu g ((HB.new w (guc gz) 30).there (by rw [guc_len]; exact Nat.le_refl _))
theorem freshGu_hb (w : World) (g : Gu) : HB (freshGu w g) w.heap.size 30 (guc g) := (HB.new w (guc gz) 30).fillAll (by rw [guc_len, guc_len])
theorem freshGu_below (w : World) (g : Gu) : Below w.heap.size w (freshGu w g) :=
  ((Below.refl _ w).alloc (Nat.le_refl _) (.cells (guc gz).toArray 30)).grown (grown_setCells w.heap.size (guc g) 0 (w.alloc (.cells (guc gz).toArray 30))) (by simp) (fun k hk => by have := Option.some.inj hk; omega)
theorem rangeEnGu {w : World} {b o : Nat} {e : En} (h : w.rangeAt b o (enc e)) : w.rangeAt b o (guc e.id) := fun j v hj => by
  refine h j v ?_
  unfold enc
  rw [List.getElem?_append_left (List.getElem?_eq_some_iff.1 hj).1]
  exact hj
theorem OwnS.range {w : World} {B : Nat} {g n cp : Nat} {es : List En} (h : OwnS enc 32 19 w B (.slice (some ⟨g, 0, none⟩) n cp) es) {j : Nat} {x : En} (hj : es[j]? = some x) : w.rangeAt g (j * 19) (enc x) := fun i u hi => by
  rcases h.cases enc_len with ⟨h, _⟩ | ⟨g', cp', he, _, _, _, _, h5, _⟩
  · cases h
  · cases he; exact h5 j x hj i u hi
def bsGu (n : Nat) (ps : Array (Nat × Value)) : Sem Value := Instr.buildSlice 39 n ps
theorem bs_gu (n : Nat) (ps : Array (Nat × Value)) : Instr.buildSlice 39 n ps = bsGu n ps := rfl
theorem run_bsGu (g : Gu) (w : World) : (bsGu 1 #[(0, .agg (guc g).toArray)]).run Try.prog w = .ok (.slice (some ⟨w.heap.size, 0, none⟩) 1 1) (w.alloc (.cells (guc g).toArray 30)) := by
  obtain ⟨l, hl⟩ := g
  obtain ⟨a, b, c, d, e, f, g, i, a', b', c', d', e', f', g', i', rfl⟩ := lst16 hl
  kernel_rfl
def g7 : Gu := ⟨7 :: List.replicate 15 0, rfl⟩
theorem run_buildG7 (w : World) : (buildGu #[(0, .int .u8 7)]).run Try.prog w = .ok (.agg (guc g7).toArray) w := by kernel_rfl
theorem enLay : Lay Try.prog 23 32 19 40 enc := ⟨Try.underlying23, by decide, enc_len, fun g u h => enc_one g u h, by
  obtain ⟨i, h1, h2, h3, h4⟩ := info_parts (show (Try.prog.info? 32).map (fun i => (i.zero, i.size, i.bytes)) = some (some (.agg #[.int .u8 0, .int .u8 0, .int .u8 0, .int .u8 0, .int .u8 0, .int .u8 0, .int .u8 0, .int .u8 0, .int .u8 0, .int .u8 0, .int .u8 0, .int .u8 0, .int .u8 0, .int .u8 0, .int .u8 0, .int .u8 0, .int .u64 0, .int .u64 0, .int .u64 0]), 19, 40) by kernel_rfl)
  exact ⟨i, _, h1, h2, h3, h4, rfl⟩⟩
end Go.Proofs.Ytefkmlfpdlnodaa
