/- A flash: what it holds, and what each call does. No condition. -/
import Derived.Test.YtnmeidmiijcniaaBM
import Derived.StillTailTactics
import Derived.Laws.Cover3
import Derived.Outline
set_option linter.unusedVariables false
set_option linter.unusedSimpArgs false
namespace Go.Proofs.Ytnmeidmiijcniaa
open Go.RowKit
structure Fl where
  size : Int
  off : Bool
  left : Int
  done : Bool
  writes : Int
  F : Int → Option (List UInt8)
structure Fl.Ok (f : Fl) : Prop where
  s0 : 1 ≤ f.size
  s1 : f.size ≤ 1048576
  l0 : 0 ≤ f.left
  l1 : f.left ≤ 9223372036854775807
  b : ∀ k l, f.F k = some l → l.length = 512
def Fl.cells (f : Fl) (mb : Nat) : List Value := [.int .i64 f.size, .map (some mb), .bool f.off, .int .i64 f.left, .bool f.done, .int .i64 f.writes]
/-- at p lies a flash, its blocks' map at mb, of at most n entries -/
structure FlA (w : World) (p mb n : Nat) (f : Fl) : Prop where
  h : HB w p 109 (f.cells mb)
  m : BMap w mb n f.F
  ne : p ≠ mb
theorem FlA.later {w w' : World} {p mb n : Nat} {f : Fl} (h : FlA w p mb n f) (hb : Below w.heap.size w w') : FlA w' p mb n f := ⟨h.h.later hb, h.m.later hb, h.ne⟩
theorem FlA.drn {w w' : World} {p mb n : Nat} {f : Fl} (h : FlA w p mb n f) (hd : Drn w w') : FlA w' p mb n f := ⟨h.h.drn hd, h.m.drn hd, h.ne⟩
theorem FlA.alloc {w : World} {p mb n : Nat} {f : Fl} (h : FlA w p mb n f) (o : Obj) : FlA (w.alloc o) p mb n f := ⟨h.h.alloc o, h.m.alloc o, h.ne⟩
theorem FlA.grown {w w' : World} {p mb n : Nat} {f : Fl} {row : Option Nat} (h : FlA w p mb n f) (hg : w.grownBy w' row) (h1 : some p ≠ row) (h2 : some mb ≠ row) : FlA w' p mb n f := ⟨h.h.grown hg h1, h.m.kept hg h2, h.ne⟩
theorem FlA.mono {w : World} {p mb n m : Nat} {f : Fl} (h : FlA w p mb n f) (hm : n ≤ m) : FlA w p mb m f := ⟨h.h, h.m.mono hm, h.ne⟩
def mayE (f : Fl) (k : Int) : Int := if f.off then 143 else if k < 0 ∨ f.size ≤ k then 141 else 0
theorem mayf_any (p mb n : Nat) (f : Fl) (k : Int) (w : World) (h : FlA w p mb n f) :
    Calls Try.prog 58 #[.pointer (some ⟨p, 0, none⟩), .int .i64 k] w fun e w' => e = .returned (.int .i64 (mayE f k)) ∧ w = w' := by
  have c0 := h.h.cell (i := 0) rfl
  have c2 := h.h.cell (i := 2) rfl
  clear h
  obtain ⟨size, off, left, done, writes, F⟩ := f
  unfold mayE
  simp only at c0 c2 ⊢
  cases off
  · by_cases h1 : k < 0
    · rw [if_neg (by decide), if_pos (Or.inl h1)]
      go_enter Try.func58, Try.ntmps58
      go_wp2_with fail
      go_ret
      exact ⟨rfl, rfl⟩
    · by_cases h2 : size ≤ k
      · rw [if_neg (by decide), if_pos (Or.inr h2)]
        go_enter Try.func58, Try.ntmps58
        go_wp2_with fail
        go_ret
        exact ⟨rfl, rfl⟩
      · rw [if_neg (by decide), if_neg (fun h => h.elim h1 h2)]
        go_enter Try.func58, Try.ntmps58
        go_wp2_with fail
        go_ret
        exact ⟨rfl, rfl⟩
  · rw [if_pos rfl]
    go_enter Try.func58, Try.ntmps58
    go_wp2_with fail
    go_ret
    exact ⟨rfl, rfl⟩
theorem on_any (p mb n : Nat) (f : Fl) (w : World) (h : FlA w p mb n f) :
    Calls Try.prog 28 #[.pointer (some ⟨p, 0, none⟩)] w fun e w' => e = .returned (.bool (!f.off)) ∧ w = w' := by
  have c2 := h.h.cell (i := 2) rfl
  clear h
  go_enter Try.func28, Try.ntmps28
  go_wp2_with fail
  go_ret
  exact ⟨rfl, rfl⟩
theorem size_any (p mb n : Nat) (f : Fl) (w : World) (h : FlA w p mb n f) :
    Calls Try.prog 49 #[.pointer (some ⟨p, 0, none⟩)] w fun e w' => e = .returned (.int .i64 f.size) ∧ w = w' := by
  have c0 := h.h.cell (i := 0) rfl
  clear h
  go_enter Try.func49, Try.ntmps49
  go_wp2_with fail
  go_ret
  exact ⟨rfl, rfl⟩
def powerR (f : Fl) : Fl := { f with off := false, left := 0 }
theorem power_any (p mb n : Nat) (f : Fl) (w : World) (h : FlA w p mb n f) :
    Calls Try.prog 29 #[.pointer (some ⟨p, 0, none⟩)] w fun e w' => e = .returned (.tuple #[]) ∧ FlA w' p mb n (powerR f) ∧ w.grownBy w' (some p) := by
  have c2 := h.h.cell (i := 2) rfl
  have c3 := h.h.cell (i := 3) rfl
  have f2 := h.h.frozen 2
  have f3 := h.h.frozen 3
  have h1 := (h.h.set 2 (.bool false)).set 3 (.int .i64 0)
  have h2 := ((grown_set w ⟨p, 2, none⟩ (.bool false)).trans (grown_set _ ⟨p, 3, none⟩ (.int .i64 0)))
  have H := Lib.hid h
  have H1 := Lib.hid h1
  have H2 := Lib.hid h2
  clear h h1 h2
  go_enter Try.func29, Try.ntmps29
  go_wp2_with fail
  go_end0
  exact ⟨rfl, ⟨H1.out, H.out.m.kept H2.out (fun e => H.out.ne (by cases e; rfl)), H.out.ne⟩, H2.out⟩
def cutR (f : Fl) (k : Int) (d : Bool) : Fl × Int := if f.off then (f, 143) else if k < 0 then (f, 1) else ({ f with left := k, done := d }, 0)
theorem mayE0 {f : Fl} (h : f.Ok) : mayE f 0 = if f.off then 143 else 0 := by
  unfold mayE
  have := h.s0
  rw [if_neg (by omega : ¬ ((0 : Int) < 0 ∨ f.size ≤ 0))]
theorem cut_any (p mb n : Nat) (f : Fl) (k : Int) (d : Bool) (w : World) (h : FlA w p mb n f) (ho : f.Ok) :
    Calls Try.prog 27 #[.pointer (some ⟨p, 0, none⟩), .int .i64 k, .bool d] w fun e w' => e = .returned (.int .i64 (cutR f k d).2) ∧ FlA w' p mb n (cutR f k d).1 ∧ w.grownBy w' (some p) := by
  have hm := mayf_any p mb n f 0 w h
  rw [mayE0 ho] at hm
  have H := Lib.hid h
  unfold cutR
  obtain ⟨size, off, left, done, writes, F⟩ := f
  cases off
  · rw [if_neg (by simp)] at hm ⊢
    have Hm := Lib.hid hm
    clear hm
    by_cases hk : k < 0
    · rw [if_pos hk]
      clear h
      go_enter Try.func27, Try.ntmps27
      go_wp2_with fail
      refine Hm.out.mono ?_
      rintro e w' ⟨rfl, rfl⟩
      go_wp2_with fail
      go_ret
      exact ⟨rfl, H.out, World.grownBy.refl _ _⟩
    · rw [if_neg hk]
      have c3 := h.h.cell (i := 3) rfl
      have c4 := h.h.cell (i := 4) rfl
      have f3 := h.h.frozen 3
      have f4 := h.h.frozen 4
      have H1 := Lib.hid ((h.h.set 3 (.int .i64 k)).set 4 (.bool d))
      have H2 := Lib.hid ((grown_set w ⟨p, 3, none⟩ (.int .i64 k)).trans (grown_set _ ⟨p, 4, none⟩ (.bool d)))
      clear h
      go_enter Try.func27, Try.ntmps27
      go_wp2_with fail
      refine Hm.out.mono ?_
      rintro e w' ⟨rfl, rfl⟩
      go_wp2_with fail
      go_ret
      exact ⟨rfl, ⟨H1.out, H.out.m.kept H2.out (fun e => H.out.ne (by cases e; rfl)), H.out.ne⟩, H2.out⟩
  · rw [if_pos rfl] at hm ⊢
    have Hm := Lib.hid hm
    clear hm h
    go_enter Try.func27, Try.ntmps27
    go_wp2_with fail
    refine Hm.out.mono ?_
    rintro e w' ⟨rfl, rfl⟩
    go_wp2_with fail
    go_ret
    exact ⟨rfl, H.out, World.grownBy.refl _ _⟩
theorem blkV_load {w : World} {b o : Nat} {l : List UInt8} (hl : l.length = 512) (hr : ∀ j, j < l.length → w.cell? ⟨b, o + j, none⟩ = some (.int .u8 ((l[j]?.getD 0).toNat))) :
    w.rangeAt b o (l.map bv) := fun j v hj => by
  rw [List.getElem?_map] at hj
  have hlt : j < l.length := by
    rcases Nat.lt_or_ge j l.length with h | h
    · exact h
    · rw [List.getElem?_eq_none h] at hj; cases hj
  rw [hr j hlt]
  rw [List.getElem?_eq_getElem hlt] at hj ⊢
  simpa [bv] using hj
theorem oneB (l : List UInt8) : (l.map bv).toArray.all (·.oneCell') = true := by
  rw [Array.all_eq_true_iff_forall_mem]
  intro x hx
  simp at hx
  obtain ⟨c, _, rfl⟩ := hx
  rfl
theorem infoB : (Try.prog.info? 113).map (·.size) = some 512 := by kernel_rfl
def readF (f : Fl) (k : Int) : List UInt8 := (f.F k).getD zero512
theorem readF_len {f : Fl} (ho : f.Ok) (k : Int) : (readF f k).length = 512 := by
  unfold readF
  cases h : f.F k with
  | none => exact zero512_len
  | some l => exact ho.b k l h
set_option maxRecDepth 100000 in
set_option maxHeartbeats 400000 in
theorem readf_ok (p mb n : Nat) (f : Fl) (k : Int) (w : World) (h : FlA w p mb n f) (ho : f.Ok) (hk : I64 k) (hm0 : mayE f k = 0) :
    Calls Try.prog 75 #[.pointer (some ⟨p, 0, none⟩), .int .i64 k] w fun e w' => e = .returned (.tuple #[.slice (some ⟨w.heap.size, 0, none⟩) 512 512, .int .i64 0]) ∧
      HB w' w.heap.size 113 ((readF f k).map bv) ∧ Below w.heap.size w w' := by
  have hm := mayf_any p mb n f k w h
  rw [hm0] at hm
  have hlook := h.m.look hk
  have hlen := Lib.hid (readF_len ho k)
  have c1 := h.h.cell (i := 1) rfl
  have Hm := Lib.hid hm
  have hz := zeroBlk
  change _ = Result.ok (blkV (readF f k)) w at hlook
  clear hm hm0 h
  generalize readF f k = l at *
  have hN := Lib.hid (HB.new w (zero512.map bv) 113)
  have hall := Lib.hid (oneB l)
  have hi : Hid ((Try.prog.info? 113).map (·.size) = some (l.map bv).toArray.size) := Lib.hid (by rw [List.size_toArray, List.length_map, hlen.out]; exact infoB)
  have hsz : Hid ((zero512.map bv).toArray.size = (l.map bv).toArray.size) := Lib.hid (by rw [List.size_toArray, List.size_toArray, List.length_map, List.length_map, hlen.out, zero512_len])
  unfold blkV at hlook
  have hz' : ∀ w, (zeroValue 113).run Try.prog w = .ok (.agg (zero512.map bv).toArray) w := zeroBlk
  clear hz
  go_enter Try.func75, Try.ntmps75
  go_wp2_with fail
  refine Hm.out.mono ?_
  rintro e w' ⟨rfl, rfl⟩
  go_wp2_with (refine wpList_store_row rfl _ _ _ rfl w.heap.size (l.map bv).toArray rfl rfl _ _ hN.out hi.out hsz.out hall.out ?_)
  go_ret2
  refine ⟨rfl, setRow_heap _ _ _ _ _ _ hN.out, ((Below.refl _ w).alloc (Nat.le_refl _) (.cells (zero512.map bv).toArray 113)).trans ⟨rfl, rfl, rfl, by simp, fun k hk => setRow_other _ _ _ _ (by omega)⟩⟩
theorem readf_bad (p mb n : Nat) (f : Fl) (k : Int) (w : World) (h : FlA w p mb n f) (hm0 : mayE f k ≠ 0) :
    Calls Try.prog 75 #[.pointer (some ⟨p, 0, none⟩), .int .i64 k] w fun e w' => e = .returned (.tuple #[.slice none 0 0, .int .i64 (mayE f k)]) ∧ w = w' := by
  have Hm := Lib.hid (mayf_any p mb n f k w h)
  have t1 : (mayE f k == 0) = false := beq_eq_false_iff_ne.2 hm0
  have t2 : (mayE f k != 0) = true := bne_iff_ne.2 hm0
  clear h hm0
  generalize mayE f k = E at *
  go_enter Try.func75, Try.ntmps75
  go_wp2_with fail
  refine Hm.out.mono ?_
  rintro e w' ⟨rfl, rfl⟩
  go_wp2_with fail
  go_ret2
  exact ⟨rfl, rfl⟩
theorem HB.rd {w : World} {b : Nat} {t : TypeId} {l : List UInt8} (h : HB w b t (l.map bv)) : Rd w (some ⟨b, 0, none⟩) l := fun j hj =>
  ⟨b, 0, rfl, by rw [Nat.zero_add]; exact h.cell (by rw [List.getElem?_map, List.getElem?_eq_getElem hj]; rfl)⟩
/-- a write that is let in: what the flash holds then, and the answer -/
def writeR (f : Fl) (k : Int) (l : List UInt8) : Fl × Int :=
  let goes := decide (f.left = 1)
  let f1 : Fl := { f with left := max (f.left - 1) 0 }
  let f2 : Fl := if !goes || f.done then { f1 with F := put f1.F k l, writes := f1.writes + 1 } else f1
  if goes then ({ f2 with off := true }, 143) else (f2, 0)
theorem writeR_ne {size left writes : Int} {off done : Bool} {F : Int → Option (List UInt8)} {k : Int} {l : List UInt8} (h : left ≠ 1) :
    writeR ⟨size, off, left, done, writes, F⟩ k l = (⟨size, off, max (left - 1) 0, done, writes + 1, put F k l⟩, 0) := by
  unfold writeR; simp [h]
theorem writeR_do {size writes : Int} {off : Bool} {F : Int → Option (List UInt8)} {k : Int} {l : List UInt8} :
    writeR ⟨size, off, 1, true, writes, F⟩ k l = (⟨size, true, 0, true, writes + 1, put F k l⟩, 143) := by
  unfold writeR; simp
theorem writeR_go {size writes : Int} {off : Bool} {F : Int → Option (List UInt8)} {k : Int} {l : List UInt8} :
    writeR ⟨size, off, 1, false, writes, F⟩ k l = (⟨size, true, 0, false, writes, F⟩, 143) := by
  unfold writeR; simp
theorem writeR_zero {size writes : Int} {off done : Bool} {F : Int → Option (List UInt8)} {k : Int} {l : List UInt8} :
    writeR ⟨size, off, 0, done, writes, F⟩ k l = (⟨size, off, 0, done, writes + 1, put F k l⟩, 0) := by
  rw [writeR_ne (by decide)]; rfl
theorem wpStill_load_mid {P : Program} {ops : Array Oper} {w : World} {Q : Act → Prop} {rest : List Oper} {op : Oper} {a : Act} (hgd : op.guard = none) (ty : TypeId) (x : Operand) (ho : op.op = .load ty x)
    (b o : Nat) (hx : a.eval x = .pointer (some ⟨b, o, none⟩)) (cs : List Value) (d : TypeDesc) (hc : w.rangeAt b o cs)
    (hu : P.underlying ty = some d) (hd : d.isRow = true) (hi : (P.info? ty).map (·.size) = some cs.length)
    (h : wpStill P ops w Q rest (a.put op.dst (.agg cs.toArray))) : wpStill P ops w Q (op :: rest) a := by
  have hw : Region.wanted op (yielded ops a.tmps) = true := by simp [Region.wanted, hgd]
  unfold wpStill
  rw [if_pos hw]
  unfold Oper.still execOp
  simp only [ho, hx, Instr.loadAt, Instr.sureAddr, Sem.run_bind, Sem.run_pure, Result.andThen_ok, run_loadVar_mid w b o ty cs d hc hu hd hi]
  exact ⟨rfl, h⟩
set_option maxRecDepth 100000 in
set_option maxHeartbeats 2000000 in
theorem writef_ok (p mb n : Nat) (f : Fl) (k : Int) (b o : Nat) (cap : Nat) (l : List UInt8) (w : World) (h : FlA w p mb n f) (ho : f.Ok) (hk : I64 k) (hm0 : mayE f k = 0) (hl : l.length = 512) (hr : Rd w (some ⟨b, o, none⟩) l) (hcap : 512 ≤ cap)
    (hn : n < 281474976710655) (hw0 : 0 ≤ f.writes) (hw1 : f.writes < 9223372036854775807) (hne : b ≠ p) :
    Calls Try.prog 36 #[.pointer (some ⟨p, 0, none⟩), .int .i64 k, .slice (some ⟨b, o, none⟩) 512 cap] w fun e w' => e = .returned (.int .i64 (writeR f k l).2) ∧
      FlA w' p mb (n + 1) (writeR f k l).1 ∧ Frm (fun b => b = p ∨ b = mb) w w' := by
  have hm := mayf_any p mb n f k w h
  rw [hm0] at hm
  have Hm := Lib.hid hm
  have HO := Lib.hid ho
  have hnm : Hid (n < maxLen) := Lib.hid (by unfold maxLen; omega)
  have l0 := ho.l0
  have l1 := ho.l1
  clear hm hm0 ho
  obtain ⟨size, off, left, done, writes, F⟩ := f
  simp only at hw0 hw1 l0 l1
  obtain ⟨hB, hm, hpm⟩ := h
  have c1 := hB.cell (i := 1) rfl
  have c3 := hB.cell (i := 3) rfl
  have c4 := hB.cell (i := 4) rfl
  have c5 := hB.cell (i := 5) rfl
  have f3 := hB.frozen 3
  simp only at hm c3 c4 c5
  by_cases hg0 : left = 0
  · subst hg0
    have hB1 := hB.set 3 (.int .i64 0)
    have hg1 := grown_set w ⟨p, 3, none⟩ (.int .i64 0)
    rw [writeR_zero]
    clear hB
    go_enter Try.func36, Try.ntmps36
    go_wp2_with fail
    refine Hm.out.mono ?_
    rintro e w' ⟨rfl, rfl⟩
    go_wp2_with fail
    generalize hW1 : w.setCell ⟨p, 3, none⟩ (.int .i64 0) = w1 at *
    have hld : w1.drew.rangeAt b o (l.map bv) := blkV_load hl (fun j hj => by
        obtain ⟨x, y, e, hc⟩ := (hr.grown hg1 (fun a ha h => hne (by cases ha; exact Option.some.inj h))) j hj
        cases e; exact hc)
    have Hld := Lib.hid hld
    clear hld
    have hat : ∀ w, (Instr.arrayAt 113 (.slice (some ⟨b, o, none⟩) 512 cap)).run Try.prog w = .ok (.pointer (some ⟨b, o, none⟩)) w := fun w => run_arrayAt w 113 _ 512 _ 512 cap Try.underlying113 (Nat.le_refl _)
    have d1 := hB1.cell (i := 1) rfl
    have hm1 := Lib.hid (hm.kept hg1 (fun e => hpm (by cases e; rfl)))
    have HB1 := Lib.hid hB1
    have HG1 := Lib.hid hg1
    clear hB1 hg1 hW1 c1 c3 c4 c5 f3
    go_still_tail 8, (by kernel_rfl)
    refine wpStill_load_mid rfl _ _ rfl b o rfl (l.map bv) _ Hld.out Try.underlying113 rfl (by rw [List.length_map, hl]; exact infoB) ?_
    refine wpStill_nil ?_
    go_wp2_with (refine wpList_put_blk rfl _ _ _ rfl mb n F rfl (BMap.drn hm1.out ⟨1, rfl⟩) hnm.out k l rfl rfl hk hl ?_)
    intro w2 hm2 hg2
    have hB2 := (HB1.out.drn (Drn.drew (Drn.refl w1))).grown hg2 (fun e => hpm (by cases e; rfl))
    have d5 := hB2.cell (i := 5) rfl
    have g5 := hB2.frozen 5
    have hgs := grown_set w2 ⟨p, 5, none⟩ (.int .i64 (writes + 1))
    have H3 := Lib.hid (hB2.set 5 (.int .i64 (writes + 1)))
    have HM3 := Lib.hid (hm2.kept hgs (fun e => hpm (by cases e; rfl)))
    have HF3 : Hid (Frm (fun b => b = p ∨ b = mb) w (w2.setCell ⟨p, 5, none⟩ (.int .i64 (writes + 1)))) := Lib.hid (((Frm.grown HG1.out (fun k h => by cases h; exact Or.inl rfl)).trans
      ((Frm.drn (Drn.drew (Drn.refl w1))).trans (Frm.grown hg2 (fun k h => by cases h; exact Or.inr rfl)))).trans (Frm.grown hgs (fun k h => by cases h; exact Or.inl rfl)))
    clear hB2 hm2 hg2 hgs d1
    go_wp2_with fail
    go_ret
    exact ⟨rfl, ⟨H3.out, HM3.out, hpm⟩, HF3.out⟩
  by_cases hg1' : left = 1
  · subst hg1'
    have hB1 := hB.set 3 (.int .i64 0)
    have hg1 := grown_set w ⟨p, 3, none⟩ (.int .i64 0)
    have c2 := hB.cell (i := 2) rfl
    have f2 := hB.frozen 2
    cases done
    · rw [writeR_go]
      have d2 := hB1.cell (i := 2) rfl
      have g2 := hB1.frozen 2
      have H3 := Lib.hid (hB1.set 2 (.bool true))
      have HG := Lib.hid (hg1.trans (grown_set _ ⟨p, 2, none⟩ (.bool true)))
      have Hmm := Lib.hid hm
      clear hB hB1 hg1 hm
      go_enter Try.func36, Try.ntmps36
      go_wp2_with fail
      refine Hm.out.mono ?_
      rintro e w' ⟨rfl, rfl⟩
      go_wp2_with fail
      go_ret
      exact ⟨rfl, ⟨H3.out, (Hmm.out.kept HG.out (fun e => hpm (by cases e; rfl))).mono (by omega), hpm⟩, Frm.grown HG.out (fun k h => by cases h; exact Or.inl rfl)⟩
    · rw [writeR_do]
      clear hB c2 f2
      go_enter Try.func36, Try.ntmps36
      go_wp2_with fail
      refine Hm.out.mono ?_
      rintro e w' ⟨rfl, rfl⟩
      go_wp2_with fail
      generalize hW1 : w.setCell ⟨p, 3, none⟩ (.int .i64 0) = w1 at *
      have hld : w1.drew.rangeAt b o (l.map bv) := blkV_load hl (fun j hj => by
          obtain ⟨x, y, e, hc⟩ := (hr.grown hg1 (fun a ha h => hne (by cases ha; exact Option.some.inj h))) j hj
          cases e; exact hc)
      have Hld := Lib.hid hld
      clear hld
      have hat : ∀ w, (Instr.arrayAt 113 (.slice (some ⟨b, o, none⟩) 512 cap)).run Try.prog w = .ok (.pointer (some ⟨b, o, none⟩)) w := fun w => run_arrayAt w 113 _ 512 _ 512 cap Try.underlying113 (Nat.le_refl _)
      have d1 := hB1.cell (i := 1) rfl
      have hm1 := Lib.hid (hm.kept hg1 (fun e => hpm (by cases e; rfl)))
      have HB1 := Lib.hid hB1
      have HG1 := Lib.hid hg1
      clear hB1 hg1 hW1 c1 c3 c4 c5 f3
      go_still_tail 8, (by kernel_rfl)
      refine wpStill_load_mid rfl _ _ rfl b o rfl (l.map bv) _ Hld.out Try.underlying113 rfl (by rw [List.length_map, hl]; exact infoB) ?_
      refine wpStill_nil ?_
      go_wp2_with (refine wpList_put_blk rfl _ _ _ rfl mb n F rfl (BMap.drn hm1.out ⟨1, rfl⟩) hnm.out k l rfl rfl hk hl ?_)
      intro w2 hm2 hg2
      have hB2 := (HB1.out.drn (Drn.drew (Drn.refl w1))).grown hg2 (fun e => hpm (by cases e; rfl))
      have d5 := hB2.cell (i := 5) rfl
      have g5 := hB2.frozen 5
      have hgs := grown_set w2 ⟨p, 5, none⟩ (.int .i64 (writes + 1))
      have H3 := Lib.hid (hB2.set 5 (.int .i64 (writes + 1)))
      have HM3 := Lib.hid (hm2.kept hgs (fun e => hpm (by cases e; rfl)))
      have HF3 : Hid (Frm (fun b => b = p ∨ b = mb) w (w2.setCell ⟨p, 5, none⟩ (.int .i64 (writes + 1)))) := Lib.hid (((Frm.grown HG1.out (fun k h => by cases h; exact Or.inl rfl)).trans
        ((Frm.drn (Drn.drew (Drn.refl w1))).trans (Frm.grown hg2 (fun k h => by cases h; exact Or.inr rfl)))).trans (Frm.grown hgs (fun k h => by cases h; exact Or.inl rfl)))
      clear hB2 hm2 hg2 hgs d1
      have d2 := H3.out.cell (i := 2) rfl
      have g2 := H3.out.frozen 2
      have H4 := Lib.hid (H3.out.set 2 (.bool true))
      have HG4 := Lib.hid (grown_set (w2.setCell ⟨p, 5, none⟩ (.int .i64 (writes + 1))) ⟨p, 2, none⟩ (.bool true))
      go_wp2_with fail
      go_ret
      exact ⟨rfl, ⟨H4.out, HM3.out.kept HG4.out (fun e => hpm (by cases e; rfl)), hpm⟩, HF3.out.trans (Frm.grown HG4.out (fun k h => by cases h; exact Or.inl rfl))⟩
  have tg : (left == 1) = false := beq_eq_false_iff_ne.2 hg1'
  have hl2 : 0 ≤ left - 1 := by omega
  have hB1 := hB.set 3 (.int .i64 (left - 1))
  have hg1 := grown_set w ⟨p, 3, none⟩ (.int .i64 (left - 1))
  rw [writeR_ne hg1']
  have Hmax : Hid (max (left - 1) 0 = left - 1) := Lib.hid (by omega)
  rw [Hmax.out]
  clear hB hg0 hg1'
  go_enter Try.func36, Try.ntmps36
  go_wp2_with fail
  refine Hm.out.mono ?_
  rintro e w' ⟨rfl, rfl⟩
  go_wp2_with fail
  generalize hW1 : w.setCell ⟨p, 3, none⟩ (.int .i64 (left - 1)) = w1 at *
  have hld : w1.drew.rangeAt b o (l.map bv) := blkV_load hl (fun j hj => by
      obtain ⟨x, y, e, hc⟩ := (hr.grown hg1 (fun a ha h => hne (by cases ha; exact Option.some.inj h))) j hj
      cases e; exact hc)
  have Hld := Lib.hid hld
  clear hld
  have hat : ∀ w, (Instr.arrayAt 113 (.slice (some ⟨b, o, none⟩) 512 cap)).run Try.prog w = .ok (.pointer (some ⟨b, o, none⟩)) w := fun w => run_arrayAt w 113 _ 512 _ 512 cap Try.underlying113 (Nat.le_refl _)
  have d1 := hB1.cell (i := 1) rfl
  have hm1 := Lib.hid (hm.kept hg1 (fun e => hpm (by cases e; rfl)))
  have HB1 := Lib.hid hB1
  have HG1 := Lib.hid hg1
  clear hB1 hg1 hW1 c1 c3 c4 c5 f3
  go_still_tail 8, (by kernel_rfl)
  refine wpStill_load_mid rfl _ _ rfl b o rfl (l.map bv) _ Hld.out Try.underlying113 rfl (by rw [List.length_map, hl]; exact infoB) ?_
  refine wpStill_nil ?_
  go_wp2_with (refine wpList_put_blk rfl _ _ _ rfl mb n F rfl (BMap.drn hm1.out ⟨1, rfl⟩) hnm.out k l rfl rfl hk hl ?_)
  intro w2 hm2 hg2
  have hB2 := (HB1.out.drn (Drn.drew (Drn.refl w1))).grown hg2 (fun e => hpm (by cases e; rfl))
  have d5 := hB2.cell (i := 5) rfl
  have g5 := hB2.frozen 5
  have hgs := grown_set w2 ⟨p, 5, none⟩ (.int .i64 (writes + 1))
  have H3 := Lib.hid (hB2.set 5 (.int .i64 (writes + 1)))
  have HM3 := Lib.hid (hm2.kept hgs (fun e => hpm (by cases e; rfl)))
  have HF3 : Hid (Frm (fun b => b = p ∨ b = mb) w (w2.setCell ⟨p, 5, none⟩ (.int .i64 (writes + 1)))) := Lib.hid (((Frm.grown HG1.out (fun k h => by cases h; exact Or.inl rfl)).trans
    ((Frm.drn (Drn.drew (Drn.refl w1))).trans (Frm.grown hg2 (fun k h => by cases h; exact Or.inr rfl)))).trans (Frm.grown hgs (fun k h => by cases h; exact Or.inl rfl)))
  clear hB2 hm2 hg2 hgs d1
  go_wp2_with fail
  go_ret
  exact ⟨rfl, ⟨H3.out, HM3.out, hpm⟩, HF3.out⟩
theorem writef_bad (p mb n : Nat) (f : Fl) (k : Int) (v : Option Addr) (m cap : Nat) (w : World) (h : FlA w p mb n f) (hm0 : mayE f k ≠ 0) :
    Calls Try.prog 36 #[.pointer (some ⟨p, 0, none⟩), .int .i64 k, .slice v m cap] w fun e w' => e = .returned (.int .i64 (mayE f k)) ∧ w = w' := by
  have Hm := Lib.hid (mayf_any p mb n f k w h)
  have t1 : (mayE f k == 0) = false := beq_eq_false_iff_ne.2 hm0
  have t2 : (mayE f k != 0) = true := bne_iff_ne.2 hm0
  clear h hm0
  generalize mayE f k = E at *
  go_enter Try.func36, Try.ntmps36
  go_wp2_with fail
  refine Hm.out.mono ?_
  rintro e w' ⟨rfl, rfl⟩
  go_wp2_with fail
  go_ret
  exact ⟨rfl, rfl⟩
theorem writef_size (p mb n : Nat) (f : Fl) (k : Int) (v : Option Addr) (m cap : Nat) (w : World) (h : FlA w p mb n f) (hm0 : mayE f k = 0) (hm : m ≠ 512) :
    Calls Try.prog 36 #[.pointer (some ⟨p, 0, none⟩), .int .i64 k, .slice v m cap] w fun e w' => e = .returned (.int .i64 142) ∧ w = w' := by
  have hmm := mayf_any p mb n f k w h
  rw [hm0] at hmm
  have Hm := Lib.hid hmm
  have t1 : ((m : Int) == 512) = false := by rw [beq_eq_false_iff_ne]; omega
  have t2 : ((m : Int) != 512) = true := by rw [bne, t1]; rfl
  clear h hm0 hmm hm
  go_enter Try.func36, Try.ntmps36
  go_wp2_with fail
  refine Hm.out.mono ?_
  rintro e w' ⟨rfl, rfl⟩
  go_wp2_with fail
  go_ret
  exact ⟨rfl, rfl⟩
end Go.Proofs.Ytnmeidmiijcniaa
