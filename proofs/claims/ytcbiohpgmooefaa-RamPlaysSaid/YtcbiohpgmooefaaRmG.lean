/- RAM is read and written. No condition. -/
import Derived.Test.YtcbiohpgmooefaaRmP
import Derived.Test.YtcbiohpgmooefaaRmZ
import Derived.Test.YtcbiohpgmooefaaByte
import Derived.Laws.CopyOwn
set_option linter.unusedVariables false
set_option linter.unusedSimpArgs false
namespace Go.Proofs.Ytcbiohpgmooefaa
open Go.RowKit
/-- copy into a block that is known whole: no other block changes -/
theorem wpList_copy_frm {P : Program} {w : World} {ops : Array Oper} {rest : List Oper} {o : Oper} {a : Act} {Q : Exit → Act → World → Prop} (hgd : o.guard = none) (d s : Operand) (dT sT : TypeId)
    (ho : o.op = .call { callee := .builtin .copy, args := #[d, s], argTypes := #[dT, sT] }) (elem : TypeId) (hu : P.underlying dT = some (.slice elem)) (hsz : (P.info? elem).map (·.size) = some 1)
    (dp sp : Option Addr) (dLen dCap sLen sCap : Nat) (hd : a.eval d = .slice dp dLen dCap) (hs : a.eval s = .slice sp sLen sCap)
    (g off : Nat) (cur : List Value) (t : TypeId) (hg : HB w g t cur) (cs : List Value) (hn : cs.length = Nat.min sLen dLen)
    (hpos : 0 < cs.length → dp = some ⟨g, off, none⟩ ∧ ∃ ad, sp = some ad ∧ ∀ j v, cs[j]? = some v → w.cell? (ad.add j) = some v)
    (hfit : off + cs.length ≤ cur.length) (h1 : ∀ v ∈ cs, v.oneCell' = true)
    (h : ∀ w', Hid (HB w' g t (splice cur off cs)) → Hid (Frm (fun q => q = g) w w') → wpList P ops Q rest (a.put o.dst (goInt cs.length)) w') :
    wpList P ops Q (o :: rest) a w := by
  by_cases h0 : cs.length = 0
  · obtain rfl : cs = [] := List.eq_nil_of_length_eq_zero h0
    refine wpList_copy_nothing hgd d s dT sT ho elem hu hsz dp sp dLen dCap sLen sCap hd hs (by simpa using hn.symm) ?_
    exact h w (show HB _ _ _ _ by simpa [splice] using hg) (Frm.refl _ _)
  · obtain ⟨rfl, ad, rfl, hsrc⟩ := hpos (by omega)
    refine wpList_copy_own hgd d s dT sT ho elem hu hsz g off dLen dCap ad sLen sCap hd hs cur.toArray t hg cs hn hsrc (by simpa using hfit) h1 ?_
    refine h _ (show HB _ _ _ _ from ?_) (show Frm _ _ _ from ⟨rfl, rfl, rfl, by simp [World.setRow], fun k hk hne => setRow_other w g k _ hne⟩)
    show _ = _
    simpa [splice] using setRow_heap w g _ _ t _ hg
theorem rd_cells {w : World} {ao : Option Addr} {l : List UInt8} (hr : Rd w ao l) (h0 : 0 < l.length) : ∃ ad, ao = some ad ∧ ∀ j v, (l.map bv)[j]? = some v → w.cell? (ad.add j) = some v := by
  obtain ⟨b, off, e, -⟩ := hr 0 h0
  refine ⟨_, e, fun j v hj => ?_⟩
  have hjl : j < l.length := by
    have := (List.getElem?_eq_some_iff.1 hj).1
    rwa [List.length_map] at this
  obtain ⟨b', off', e', hc⟩ := hr j hjl
  rw [e] at e'
  cases e'
  rw [List.getElem?_map, List.getElem?_eq_getElem hjl] at hj
  simp only [Option.map_some, Option.some.injEq] at hj
  rw [Addr.add_lit]
  rw [← hj]
  rw [hc, List.getElem?_eq_getElem hjl]
  rfl
theorem slice_array_l {P : Program} {T E : TypeId} (N : Nat) (ht : P.underlying T = some (.array N E)) (hs : (P.info? E).map (·.size) = some 1) (b off l : Nat) (h1 : l ≤ N) :
    ∃ off', (∀ (w : World) (kl : IntKind), (Instr.sliceAt T (.pointer (some ⟨b, off, none⟩)) (some (.int kl (l : Int))) none none).run P w = .ok (.slice (some ⟨b, off', none⟩) (N - l) (N - l)) w) ∧ (l < N → off' = off + l) := by
  have he : P.elem T = E := by simp [Program.elem, ht]
  have hn : P.arrayLen T = N := by simp [Program.arrayLen, ht]
  refine ⟨if N = l then off else off + l, fun w kl => ?_, fun hl => if_neg (by omega)⟩
  rw [run_sliceAt_array_l (P := P) w T ⟨b, off, none⟩ (by rw [he, hn]; exact ht) kl (l : Int) (by omega) (by rw [hn]; omega)]
  have hsz : (sizeOf (P.elem T)).run P w = .ok 1 w := by
    rw [he]
    cases hq : P.info? E with
    | none => simp [hq] at hs
    | some i => simp [hq] at hs; simp [sizeOf, typeInfo, hq, hs]
  rw [hsz]
  simp only [Result.andThen, slicedAt, hn, Int.toNat_natCast, Nat.mul_one]
  by_cases h : N = l
  · rw [if_pos h, if_pos h]
  · rw [if_neg h, if_neg h, Addr.add_lit]
theorem RamM.rd {B R : Nat} {m : List UInt8} {tv : Value} {t : List Rg} {w : World} (h : RamM B R m tv t w) {o n off : Nat} (hn : o + n ≤ 65536) (ho : 0 < n → off = o) : Rd w (some ⟨R, off, none⟩) (getR m o n) := by
  have hl := h.l
  have hgl := getR_len (m := m) (o := o) (n := n) (by omega)
  intro j hj
  refine ⟨R, off, rfl, ?_⟩
  have := h.h.cell (ramC_m (tv := tv) (show o + j < m.length by omega))
  rw [ho (by omega), this]
  congr 3
  unfold getR
  rw [List.getElem?_take, if_pos (by omega), List.getElem?_drop]
theorem get_any {B R : Nat} {m : List UInt8} {tv : Value} {t : List Rg} {w : World} (h : RamM B R m tv t w) (x n : Nat) (hin : inRam x n = true) :
    Calls Try.prog 28 #[.pointer (some ⟨R, 0, none⟩), .int .u64 x, .int .u64 n] w fun e w' => ∃ v, e = .returned v ∧ Own 5 w' w.heap.size v (getR m (x - 1073741824) n) ∧ Below w.heap.size w w' := by
  have hi := inRam_iff.1 hin
  obtain ⟨o, ho⟩ : ∃ o, x - 1073741824 = o := ⟨_, rfl⟩
  have e1 : IntKind.u64.wrap ((x : Int) - 1073741824) = (o : Int) := by rw [IntWalk.u64_in _ (by omega)]; omega
  have e2 : IntKind.u64.wrap ((o : Int) + (n : Int)) = ((o + n : Nat) : Int) := by rw [IntWalk.u64_in _ (by omega)]; omega
  obtain ⟨off, hsl, hoff⟩ := slice_array (P := Try.prog) 65536 Try.underlying49 (by kernel_rfl) R 0 o (o + n) (by omega) (by omega)
  have Hsl := fun w => hsl w .u64 .u64
  have hc := clone_any (some ⟨R, off, none⟩) (o + n - o) (65536 - o) (getR m o n) w (by rw [getR_len (by have := h.l; omega)]; omega) (by omega) (fun h => by cases h) (h.rd (by omega) (fun h => by rw [hoff (by omega)]; omega))
  have Hc := Lib.hid hc
  rw [ho]
  have Hl := Lib.hid (show o + n ≤ 65536 by omega)
  obtain ⟨q, hq⟩ : ∃ q, o + n = q := ⟨_, rfl⟩
  rw [hq] at e2 Hsl Hc
  clear h hi hin ho hsl hoff hc hq Hl
  go_enter Try.func28, Try.ntmps28
  go_wp2_with fail
  refine Hc.out.mono ?_
  rintro e w' ⟨v, rfl, ho, hb⟩
  have HO := Lib.hid (And.intro ho hb)
  clear ho hb Hc
  go_wp2_with fail
  go_ret
  exact ⟨_, rfl, HO.out.1, HO.out.2⟩
theorem mayR_in {t : List Rg} {sec : Bool} {a : Int} {x n : Nat} (h : mayR t sec a x n = 0) : inRam x n = true := by
  unfold mayR at h
  split at h
  · cases h
  · cases hh : inRam x n
    · rw [hh, if_pos rfl] at h; cases h
    · rfl
def gotR (m : List UInt8) (r : Int) (x n : Nat) : List UInt8 := if r = 0 then getR m (x - 1073741824) n else []
def putR (m : List UInt8) (r : Int) (x : Nat) (b : List UInt8) : List UInt8 := if r = 0 then spl m (x - 1073741824) b else m
set_option maxHeartbeats 1000000 in
theorem load_any {B R : Nat} {m : List UInt8} {tv : Value} {t : List Rg} {w : World} (h : RamM B R m tv t w) (sec : Bool) (x n : Nat) (hx : x < 18446744073709551616) :
    Calls Try.prog 20 #[.pointer (some ⟨R, 0, none⟩), .bool sec, .int .u64 x, .int .u64 n] w fun e w' => ∃ v, e = .returned (.tuple #[v, .int .i64 (mayR t sec 1 x n)]) ∧ Own 5 w' w.heap.size v (gotR m (mayR t sec 1 x n) x n) ∧ Below w.heap.size w w' := by
  have Hm := Lib.hid (may_any h sec 1 x n hx)
  have Hg := Lib.hid (fun (hr : mayR t sec 1 x n = 0) w' (hb : Below w.heap.size w w') => get_any (h.later hb) x n (mayR_in hr))
  obtain ⟨r, hr⟩ : ∃ r, mayR t sec 1 x n = r := ⟨_, rfl⟩
  rw [hr] at Hm Hg ⊢
  clear h hr
  by_cases h0 : r = 0
  · subst h0
    have Hg' := Lib.hid (Hg.out rfl)
    clear Hg
    go_enter Try.func20, Try.ntmps20
    go_wp2_with fail
    refine Hm.out.mono ?_
    rintro e w2 ⟨rfl, hb2⟩
    have Hb2 := Lib.hid hb2
    clear hb2 Hm
    go_wp2_with fail
    refine (Hg'.out _ Hb2.out).mono ?_
    rintro e w3 ⟨v, rfl, ho, hb3⟩
    have HO := Lib.hid (And.intro (ho.mono Hb2.out.size) (Hb2.out.trans (hb3.mono Hb2.out.size)))
    clear ho hb3 Hg'
    go_wp2_with fail
    go_ret2
    exact ⟨_, rfl, by unfold gotR; rw [if_pos rfl]; exact HO.out.1, HO.out.2⟩
  · have f1 : ((r : Int) == 0) = false := beq_false_of_ne h0
    have f2 : ((r : Int) != 0) = true := bne_iff_ne.2 h0
    have H0 := Lib.hid h0
    clear Hg h0
    go_enter Try.func20, Try.ntmps20
    go_wp2_with fail
    refine Hm.out.mono ?_
    rintro e w2 ⟨rfl, hb2⟩
    have Hb2 := Lib.hid hb2
    clear hb2 Hm
    go_wp2_with fail
    go_ret2
    exact ⟨_, rfl, by unfold gotR; rw [if_neg H0.out]; exact Own.nil _ _ _, Hb2.out⟩
set_option maxHeartbeats 1000000 in
theorem fetch_any {B R : Nat} {m : List UInt8} {tv : Value} {t : List Rg} {w : World} (h : RamM B R m tv t w) (sec : Bool) (x n : Nat) (hx : x < 18446744073709551616) :
    Calls Try.prog 21 #[.pointer (some ⟨R, 0, none⟩), .bool sec, .int .u64 x, .int .u64 n] w fun e w' => ∃ v, e = .returned (.tuple #[v, .int .i64 (mayR t sec 3 x n)]) ∧ Own 5 w' w.heap.size v (gotR m (mayR t sec 3 x n) x n) ∧ Below w.heap.size w w' := by
  have Hm := Lib.hid (may_any h sec 3 x n hx)
  have Hg := Lib.hid (fun (hr : mayR t sec 3 x n = 0) w' (hb : Below w.heap.size w w') => get_any (h.later hb) x n (mayR_in hr))
  obtain ⟨r, hr⟩ : ∃ r, mayR t sec 3 x n = r := ⟨_, rfl⟩
  rw [hr] at Hm Hg ⊢
  clear h hr
  by_cases h0 : r = 0
  · subst h0
    have Hg' := Lib.hid (Hg.out rfl)
    clear Hg
    go_enter Try.func21, Try.ntmps21
    go_wp2_with fail
    refine Hm.out.mono ?_
    rintro e w2 ⟨rfl, hb2⟩
    have Hb2 := Lib.hid hb2
    clear hb2 Hm
    go_wp2_with fail
    refine (Hg'.out _ Hb2.out).mono ?_
    rintro e w3 ⟨v, rfl, ho, hb3⟩
    have HO := Lib.hid (And.intro (ho.mono Hb2.out.size) (Hb2.out.trans (hb3.mono Hb2.out.size)))
    clear ho hb3 Hg'
    go_wp2_with fail
    go_ret2
    exact ⟨_, rfl, by unfold gotR; rw [if_pos rfl]; exact HO.out.1, HO.out.2⟩
  · have f1 : ((r : Int) == 0) = false := beq_false_of_ne h0
    have f2 : ((r : Int) != 0) = true := bne_iff_ne.2 h0
    have H0 := Lib.hid h0
    clear Hg h0
    go_enter Try.func21, Try.ntmps21
    go_wp2_with fail
    refine Hm.out.mono ?_
    rintro e w2 ⟨rfl, hb2⟩
    have Hb2 := Lib.hid hb2
    clear hb2 Hm
    go_wp2_with fail
    go_ret2
    exact ⟨_, rfl, by unfold gotR; rw [if_neg H0.out]; exact Own.nil _ _ _, Hb2.out⟩
set_option maxHeartbeats 1000000 in
theorem peek_any {B R : Nat} {m : List UInt8} {tv : Value} {t : List Rg} {w : World} (h : RamM B R m tv t w) (x n : Nat) (hx : x < 18446744073709551616) :
    Calls Try.prog 11 #[.pointer (some ⟨R, 0, none⟩), .int .u64 x, .int .u64 n] w fun e w' => ∃ v, e = .returned (.tuple #[v, .int .i64 (if inRam x n = true then 0 else 161)]) ∧ Own 5 w' w.heap.size v (if inRam x n = true then getR m (x - 1073741824) n else []) ∧ Below w.heap.size w w' := by
  have Hw := Lib.hid (within_any x n w hx)
  have Hg := Lib.hid (fun (hr : inRam x n = true) => get_any h x n hr)
  clear h
  cases hi : inRam x n
  · rw [hi] at Hw
    clear Hg hi
    go_enter Try.func11, Try.ntmps11
    go_wp2_with fail
    refine Hw.out.mono ?_
    rintro e w' ⟨rfl, rfl⟩
    clear Hw
    go_wp2_with fail
    go_ret2
    exact ⟨_, rfl, Own.nil _ _ _, Below.refl _ _⟩
  · rw [hi] at Hw
    have Hg' := Lib.hid (Hg.out hi)
    clear Hg hi
    go_enter Try.func11, Try.ntmps11
    go_wp2_with fail
    refine Hw.out.mono ?_
    rintro e w' ⟨rfl, rfl⟩
    clear Hw
    go_wp2_with fail
    refine Hg'.out.mono ?_
    rintro e w3 ⟨v, rfl, ho, hb3⟩
    have HO := Lib.hid (And.intro ho hb3)
    clear ho hb3 Hg'
    go_wp2_with fail
    go_ret2
    exact ⟨_, rfl, HO.out.1, HO.out.2⟩
/-- bytes were laid into RAM -/
structure Laid (B R : Nat) (m : List UInt8) (tv : Value) (t : List Rg) (w w' : World) : Prop where
  r : RamM B R m tv t w'
  f : Frm (fun q => q = R) w w'
theorem RamM.laid {B R : Nat} {m b : List UInt8} {tv : Value} {t : List Rg} {w w' : World} {o : Nat} (h : RamM B R m tv t w) (hb : o + b.length ≤ 65536) (hh : HB w' R 60 (splice (ramC m tv) o (b.map bv))) (hf : Frm (fun q => q = R) w w') : Laid B R (spl m o b) tv t w w' := by
  have hl := h.l
  unfold splice at hh
  rw [← List.append_assoc, ramC_spl (by omega)] at hh
  exact ⟨⟨hh, by rw [spl_len (by omega)]; exact hl, h.o.frm hf (fun k hk e => h.nv (by rw [hk, e])), h.tb, h.b, h.nv⟩, hf⟩
set_option maxHeartbeats 1000000 in
theorem store_any {B R : Nat} {m : List UInt8} {tv : Value} {t : List Rg} {w : World} (h : RamM B R m tv t w) (sec : Bool) (x : Nat) (ao : Option Addr) (n cap : Nat) (b : List UInt8) (hx : x < 18446744073709551616) (hl : b.length = n) (hn : n ≤ 9223372036854775807) (hr : ∀ w', Below w.heap.size w w' → Rd w' ao b) :
    Calls Try.prog 12 #[.pointer (some ⟨R, 0, none⟩), .bool sec, .int .u64 x, .slice ao n cap] w fun e w' => e = .returned (.int .i64 (mayR t sec 2 x n)) ∧ Laid B R (putR m (mayR t sec 2 x n) x b) tv t w w' := by
  have Hm := Lib.hid (may_any h sec 2 x n hx)
  have Hi := Lib.hid (fun hr : mayR t sec 2 x n = 0 => inRam_iff.1 (mayR_in hr))
  have Hh := Lib.hid (fun w' (hb : Below w.heap.size w w') => h.later hb)
  have cn : IntKind.u64.wrap (n : Int) = (n : Int) := IntWalk.u64_in _ (by omega)
  obtain ⟨r, hre⟩ : ∃ r, mayR t sec 2 x n = r := ⟨_, rfl⟩
  rw [hre] at Hm Hi ⊢
  clear h hre
  by_cases h0 : r = 0
  · subst h0
    have hi := Hi.out rfl
    obtain ⟨o, ho⟩ : ∃ o, x - 1073741824 = o := ⟨_, rfl⟩
    have Ho := fun (_ : Unit) => Lib.hid ho
    have e1 : IntKind.u64.wrap ((x : Int) - 1073741824) = (o : Int) := by rw [IntWalk.u64_in _ (by omega)]; omega
    obtain ⟨off, hsl, hoff⟩ := slice_array_l (P := Try.prog) 65536 Try.underlying49 (by kernel_rfl) R 0 o (by omega)
    have Hsl := fun w => hsl w .u64
    have Hu8 : (Try.prog.info? 5).map (·.size) = some 1 := by kernel_rfl
    have Hon := Lib.hid (show o + b.length ≤ 65536 by omega)
    have hon : o + n ≤ 65536 := by omega
    clear Hi hi ho hsl
    go_enter Try.func12, Try.ntmps12
    go_wp2_with fail
    refine Hm.out.mono ?_
    rintro e w2 ⟨rfl, hb2⟩
    have Hb2 := Lib.hid hb2
    have Hh2 := Lib.hid (Hh.out _ hb2)
    have Hu8 := Lib.hid Hu8
    have Hmin : Hid ((b.map bv).length = Nat.min n (65536 - o)) := Lib.hid (by rw [List.length_map, hl]; exact (Nat.min_eq_left (show n ≤ 65536 - o by omega)).symm)
    have Hfit : Hid (o + (b.map bv).length ≤ (ramC m tv).length) := Lib.hid (by rw [List.length_map, ramC_len, Hh2.out.l]; omega)
    have Hpos : Hid (0 < (b.map bv).length → (some ⟨R, off, none⟩ : Option Addr) = some ⟨R, o, none⟩ ∧ ∃ ad, ao = some ad ∧ ∀ j v, (b.map bv)[j]? = some v → (w2).cell? (ad.add j) = some v) := Lib.hid (fun h0 => by
      rw [List.length_map] at h0
      have hr2 := hr _ Hb2.out
      obtain ⟨ad, e, hc⟩ := rd_cells hr2 h0
      exact ⟨by rw [hoff (by omega)]; simp, ad, e, hc⟩)
    clear hb2 Hm Hh hon hr hoff
    go_wp2_with (refine wpList_copy_frm rfl _ _ _ _ rfl 5 Try.underlying23 Hu8.out (some ⟨R, off, none⟩) ao (65536 - o) (65536 - o) n cap rfl rfl R o (ramC m tv) 60 Hh2.out.h (b.map bv) Hmin.out Hpos.out Hfit.out (bv_one _) ?_)
    intro w5 hh5 hf5
    have HL := Lib.hid (Hh2.out.laid Hon.out hh5.out hf5.out)
    have HF := Lib.hid ((Frm.later (K := fun q => q = R) Hb2.out).trans hf5.out)
    clear hh5 hf5 Hpos Hfit Hmin
    go_wp2_with fail
    go_ret
    exact ⟨rfl, by unfold putR; rw [if_pos rfl, (Ho ()).out]; exact ⟨HL.out.r, HF.out⟩⟩
  · have f1 : ((r : Int) == 0) = false := beq_false_of_ne h0
    have f2 : ((r : Int) != 0) = true := bne_iff_ne.2 h0
    have H0 := Lib.hid h0
    clear h0 Hi
    go_enter Try.func12, Try.ntmps12
    go_wp2_with fail
    refine Hm.out.mono ?_
    rintro e w2 ⟨rfl, hb2⟩
    have Hb2 := Lib.hid hb2
    clear hb2 Hm
    go_wp2_with fail
    go_ret
    exact ⟨rfl, by unfold putR; rw [if_neg H0.out]; exact ⟨Hh.out _ Hb2.out, Frm.later Hb2.out⟩⟩
set_option maxHeartbeats 1000000 in
theorem place_any {B R : Nat} {m : List UInt8} {tv : Value} {t : List Rg} {w : World} (h : RamM B R m tv t w) (x : Nat) (ao : Option Addr) (n cap : Nat) (b : List UInt8) (hx : x < 18446744073709551616) (hl : b.length = n) (hn : n ≤ 9223372036854775807) (hr : ∀ w', Below w.heap.size w w' → Rd w' ao b) :
    Calls Try.prog 10 #[.pointer (some ⟨R, 0, none⟩), .int .u64 x, .slice ao n cap] w fun e w' => e = .returned (.int .i64 (if inRam x n = true then 0 else 161)) ∧ Laid B R (if inRam x n = true then spl m (x - 1073741824) b else m) tv t w w' := by
  have Hw := Lib.hid (within_any x n w hx)
  have cn : IntKind.u64.wrap (n : Int) = (n : Int) := IntWalk.u64_in _ (by omega)
  have Hh2 := Lib.hid h
  have Hb2 := Lib.hid (Below.refl w.heap.size w)
  clear h
  cases hi : inRam x n
  · rw [hi] at Hw
    clear hi hr
    go_enter Try.func10, Try.ntmps10
    go_wp2_with fail
    refine Hw.out.mono ?_
    rintro e w' ⟨rfl, rfl⟩
    clear Hw
    go_wp2_with fail
    go_ret
    exact ⟨rfl, Hh2.out, Frm.refl _ _⟩
  · rw [hi] at Hw
    have hi := inRam_iff.1 hi
    obtain ⟨o, ho⟩ : ∃ o, x - 1073741824 = o := ⟨_, rfl⟩
    have Ho := fun (_ : Unit) => Lib.hid ho
    have e1 : IntKind.u64.wrap ((x : Int) - 1073741824) = (o : Int) := by rw [IntWalk.u64_in _ (by omega)]; omega
    obtain ⟨off, hsl, hoff⟩ := slice_array_l (P := Try.prog) 65536 Try.underlying49 (by kernel_rfl) R 0 o (by omega)
    have Hsl := fun w => hsl w .u64
    have Hu8 : (Try.prog.info? 5).map (·.size) = some 1 := by kernel_rfl
    have Hon := Lib.hid (show o + b.length ≤ 65536 by omega)
    have hon : o + n ≤ 65536 := by omega
    have Hu8 := Lib.hid Hu8
    have Hmin : Hid ((b.map bv).length = Nat.min n (65536 - o)) := Lib.hid (by rw [List.length_map, hl]; exact (Nat.min_eq_left (show n ≤ 65536 - o by omega)).symm)
    have Hfit : Hid (o + (b.map bv).length ≤ (ramC m tv).length) := Lib.hid (by rw [List.length_map, ramC_len, Hh2.out.l]; omega)
    have Hpos : Hid (0 < (b.map bv).length → (some ⟨R, off, none⟩ : Option Addr) = some ⟨R, o, none⟩ ∧ ∃ ad, ao = some ad ∧ ∀ j v, (b.map bv)[j]? = some v → (w).cell? (ad.add j) = some v) := Lib.hid (fun h0 => by
      rw [List.length_map] at h0
      have hr2 := hr _ Hb2.out
      obtain ⟨ad, e, hc⟩ := rd_cells hr2 h0
      exact ⟨by rw [hoff (by omega)]; simp, ad, e, hc⟩)
    clear hi ho hsl hon hr hoff
    go_enter Try.func10, Try.ntmps10
    go_wp2_with fail
    refine Hw.out.mono ?_
    rintro e w' ⟨rfl, rfl⟩
    clear Hw
    go_wp2_with (refine wpList_copy_frm rfl _ _ _ _ rfl 5 Try.underlying23 Hu8.out (some ⟨R, off, none⟩) ao (65536 - o) (65536 - o) n cap rfl rfl R o (ramC m tv) 60 Hh2.out.h (b.map bv) Hmin.out Hpos.out Hfit.out (bv_one _) ?_)
    intro w5 hh5 hf5
    have HL := Lib.hid (Hh2.out.laid Hon.out hh5.out hf5.out)
    clear hh5 hf5 Hpos Hfit Hmin Hon Hsl e1 Hu8 Hh2 Hb2 hl hn hx cn
    go_wp2_with fail
    go_ret
    refine ⟨rfl, ?_⟩
    rw [(Ho ()).out]
    exact HL.out
attribute [local go_sem ↓] build_ram
set_option maxHeartbeats 1000000 in
theorem new_any (w : World) :
    Calls Try.prog 7 #[] w fun e w' => e = .returned (.pointer (some ⟨w.heap.size, 0, none⟩)) ∧ RamM w.heap.size w.heap.size m0 (.slice none 0 0) [] w' ∧ Below w.heap.size w w' := by
  have hz := run_buildRam
  have HR : Hid (RamM w.heap.size w.heap.size m0 (.slice none 0 0) [] (w.alloc (.cells (ramC m0 (.slice none 0 0)).toArray 60))) := Lib.hid ⟨HB.new _ _ _, m0_len, OwnS.nil _ _, Tab.nil, Nat.le_refl _, fun h => by cases h⟩
  have HB1 := Lib.hid ((Below.refl _ w).alloc (Nat.le_refl _) (.cells (ramC m0 (.slice none 0 0)).toArray 60))
  generalize ramC m0 (.slice none 0 0) = z at *
  go_enter Try.func7, Try.ntmps7
  go_wp2_with fail
  go_ret
  exact ⟨rfl, HR.out, HB1.out⟩
theorem ram_size : (Try.prog.info? 60).map (·.size) = some 65537 := by kernel_rfl
set_option maxHeartbeats 1000000 in
theorem wipe_any {B R : Nat} {m : List UInt8} {tv : Value} {t : List Rg} {w : World} (h : RamM B R m tv t w) :
    Calls Try.prog 22 #[.pointer (some ⟨R, 0, none⟩)] w fun e w' => e = .returned (.tuple #[]) ∧ Laid B R m0 (.slice none 0 0) [] w w' := by
  have hz := run_buildRam
  have HR := fun (_ : Unit) => Lib.hid (show Laid B R m0 (.slice none 0 0) [] w (w.setRow R (ramC m0 (.slice none 0 0)).toArray) from ⟨⟨setRow_heap w R _ _ _ _ h.h, m0_len, OwnS.nil _ _, Tab.nil, h.b, fun h => by cases h⟩, ⟨rfl, rfl, rfl, by simp [World.setRow], fun k hk hne => setRow_other w R k _ hne⟩⟩)
  have Hh := Lib.hid h.h
  have Hi : Hid ((Try.prog.info? 60).map (·.size) = some (ramC m0 (.slice none 0 0)).toArray.size) := Lib.hid (by rw [ram_size, List.size_toArray, ramC_len, m0_len])
  have Hs : Hid ((ramC m tv).toArray.size = (ramC m0 (.slice none 0 0)).toArray.size) := Lib.hid (by rw [List.size_toArray, List.size_toArray, ramC_len, ramC_len, h.l, m0_len])
  have H1 : Hid ((ramC m0 (.slice none 0 0)).toArray.all (·.oneCell') = true) := Lib.hid (by
    rw [List.all_toArray, List.all_eq_true]
    intro u hu
    unfold ramC at hu
    rcases List.mem_append.1 hu with hu | hu
    · exact bv_one _ u hu
    · rw [List.mem_singleton.1 hu]; rfl)
  clear h
  generalize ramC m0 (.slice none 0 0) = z at *
  go_enter Try.func22, Try.ntmps22
  go_wp2_with (refine wpList_store_row rfl _ _ _ rfl R z.toArray rfl rfl _ _ Hh.out Hi.out Hs.out H1.out ?_)
  go_end0
  exact ⟨rfl, (HR ()).out⟩
end Go.Proofs.Ytcbiohpgmooefaa
