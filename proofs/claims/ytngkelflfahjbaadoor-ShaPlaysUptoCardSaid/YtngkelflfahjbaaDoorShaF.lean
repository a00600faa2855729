/- The document's hash: New, Len, Write. No condition. -/
import Derived.Test.YtngkelflfahjbaaDoorShaD
set_option linter.unusedVariables false
set_option linter.unusedSimpArgs false
namespace Go.Proofs.YtngkelflfahjbaaDoor
open Go.RowKit
/-- append of any bytes to a list of one's own: where the row then lies -/
theorem wp_append_gr {P : Program} {T E : TypeId} (R : ByteRow P T E) {w : World} {o : Oper} {a : Act} {K : Act → World → Prop} {Q : Exit → Act → World → Prop} (s x : Operand)
    (ho : o.op = .call { callee := .builtin .append, args := #[s, x], argTypes := #[T, T] })
    (B : Nat) (v : Value) (l : List UInt8) (hs : a.eval s = v) (hown : Own E w B v l) (bo : Option Addr) (m c : Nat) (l2 : List UInt8) (hx : a.eval x = .slice bo m c) (hl : l2.length = m) (hr : Rd w bo l2) (hnil : bo = none → c = 0)
    (hbytes : l.length + m ≤ 140737488355328) (hB : B ≤ w.heap.size)
    (h : ∀ v' w', Own E w' B v' (l ++ l2) → Gr w w' v v' → K (a.put o.dst v') w') : o.wp P a w K Q := by
  cases bo with
  | none =>
    obtain rfl := hnil rfl
    have h0 : l2 = [] := by
      cases l2 with
      | nil => rfl
      | cons x l => obtain ⟨b, off, e, _⟩ := hr 0 (by simp); cases e
    subst h0
    obtain rfl : m = 0 := by simpa using hl.symm
    refine wp_append_none R s x ho B v l hs hown hx ?_
    exact h v w (by simpa using hown) (Gr.refl _ _)
  | some ad =>
    obtain ⟨i, hi, hz0, hz1, hz2⟩ := info_parts R.info
    obtain ⟨v', w', hrun, h2, h3, h4, h5⟩ := run_append_own_at (P := P) w B T o.type E i (.int .u8 0) 1 1 R.ht hi hz0 hz1 hz2 rfl (by decide) v l.length (l.map bv) hown ad m c (l2.map bv) (by simp [hl]) hr.news (bv_one _) (by simp only [maxLen]; omega) (by omega) hB
    unfold Oper.wp execOp
    simp only [ho, resolve, invoke, builtin, Sem.run_bind, Sem.run_pure, Result.andThen_ok, List.map_toArray, List.map_cons, List.map_nil, hs, hx, hrun]
    refine h v' w' ?_ ⟨h3, fun q hq => ?_⟩
    · unfold Own
      rw [List.length_append, List.map_append, hl]
      exact h2
    · rcases h5 with e | e
      · exact Or.inl (e ▸ hq)
      · right
        rw [e] at hq
        exact Nat.le_of_eq (Option.some.inj hq)
theorem wpList_append_gr {P : Program} {T E : TypeId} (R : ByteRow P T E) {w : World} {ops : Array Oper} {rest : List Oper} {o : Oper} {a : Act} {Q : Exit → Act → World → Prop} (hgd : o.guard = none) (s x : Operand)
    (ho : o.op = .call { callee := .builtin .append, args := #[s, x], argTypes := #[T, T] })
    (B : Nat) (v : Value) (l : List UInt8) (hs : a.eval s = v) (hown : Own E w B v l) (bo : Option Addr) (m c : Nat) (l2 : List UInt8) (hx : a.eval x = .slice bo m c) (hl : l2.length = m) (hr : Rd w bo l2) (hnil : bo = none → c = 0)
    (hbytes : l.length + m ≤ 140737488355328) (hB : B ≤ w.heap.size)
    (h : ∀ v' w', Own E w' B v' (l ++ l2) → Gr w w' v v' → wpList P ops Q rest (a.put o.dst v') w') : wpList P ops Q (o :: rest) a w :=
  wpList_plain hgd fun _ hK => wp_append_gr R s x ho B v l hs hown bo m c l2 hx hl hr hnil hbytes hB fun v' w' h1 h2 => hK _ _ (h v' w' h1 h2)
/-- the cells of the document's hash -/
def rhC (k : Nat) (st : S8) (N : Nat) (v : Value) : List Value := [.int .i64 k] ++ (s8l st).map u64v ++ [.int .u64 N, v]
theorem rhC_len (k : Nat) (st : S8) (N : Nat) (v : Value) : (rhC k st N v).length = 11 := rfl
theorem rhC_n (k : Nat) (st : S8) (N : Nat) (v : Value) : (rhC k st N v)[9]? = some (.int .u64 N) := rfl
theorem rhC_v (k : Nat) (st : S8) (N : Nat) (v : Value) : (rhC k st N v)[10]? = some v := rfl
theorem rhC_k (k : Nat) (st : S8) (N : Nat) (v : Value) : (rhC k st N v)[0]? = some (.int .i64 k) := rfl
theorem rhC_set (k : Nat) (st : S8) (N : Nat) (v u : Value) : (rhC k st N v).set 10 u = rhC k st N u := rfl
theorem rhC_set9 (k : Nat) (st : S8) (N M : Nat) (v : Value) : (rhC k st N v).set 9 (.int .u64 M) = rhC k st M v := rfl
def buildRh (ps : Array (Nat × Value)) : Sem Value := Instr.build 74 ps
theorem build_rh (ps : Array (Nat × Value)) : Instr.build 74 ps = buildRh ps := rfl
theorem run_buildRh (k : Nat) (st : S8) (w : World) : (buildRh #[(0, .int .i64 k), (1, .agg ((s8l st).map u64v).toArray)]).run Tryd.prog w = .ok (.agg (rhC k st 0 (.slice none 0 0)).toArray) w := by kernel_rfl
section
attribute [local go_sem ↓] build_rh
set_option maxHeartbeats 1000000 in
theorem rnew_any (k : Nat) (w : World) (hk : 1 ≤ k ∧ k ≤ 3) :
    Calls Tryd.prog 32 #[.int .i64 ((8 * digK k : Nat) : Int)] w fun e w' => ∃ H, e = .returned (.tuple #[.pointer (some ⟨H, 0, none⟩), .bool true]) ∧ HB w' H 74 (rhC k (firstK k) 0 (.slice none 0 0)) ∧ w.heap.size ≤ H ∧ Below w.heap.size w w' := by
  have Hf := Lib.hid (first_any k w hk)
  have hbld := fun w => run_buildRh k (firstK k) w
  have Hn := Lib.hid (fun w => HB.new w (rhC k (firstK k) 0 (.slice none 0 0)) 74)
  generalize hF : firstK k = F at *
  clear hF
  rcases (by omega : k = 1 ∨ k = 2 ∨ k = 3) with rfl | rfl | rfl
  all_goals
    push_cast at hbld
    show Calls Tryd.prog 32 _ w _
    unfold digK
    simp only [if_true, if_false, show (2 : Nat) ≠ 1 by decide, show (3 : Nat) ≠ 1 by decide, show (3 : Nat) ≠ 2 by decide, reduceIte, Nat.reduceEqDiff, Nat.reduceMul]
    go_enter Tryd.func32, Tryd.ntmps32
    go_wp2_with fail
    refine Hf.out.mono ?_
    rintro e w1 ⟨rfl, hb⟩
    go_wp2_with fail
    go_ret2
    exact ⟨w1.heap.size, rfl, Hn.out w1, hb.size, hb.alloc hb.size _⟩
theorem rnew_none (d : Int) (w : World) (h1 : d ≠ 256) (h2 : d ≠ 384) (h3 : d ≠ 512) :
    Calls Tryd.prog 32 #[.int .i64 d] w fun e w' => e = .returned (.tuple #[.pointer none, .bool false]) ∧ w = w' := by
  have t1 : (d == 256) = false := beq_eq_false_iff_ne.2 h1
  have t2 : (d == 384) = false := beq_eq_false_iff_ne.2 h2
  have t3 : (d == 512) = false := beq_eq_false_iff_ne.2 h3
  go_enter Tryd.func32, Tryd.ntmps32
  go_wp2_with fail
  go_ret2
  exact ⟨rfl, rfl⟩
end
theorem rlen_any (hb k : Nat) (st : S8) (N : Nat) (ao : Option Addr) (n cap : Nat) (w : World) (hH : HB w hb 74 (rhC k st N (.slice ao n cap))) (hN : N + n < 18446744073709551616) :
    Calls Tryd.prog 28 #[.pointer (some ⟨hb, 0, none⟩)] w fun e w' => e = .returned (.int .u64 ((N + n : Nat) : Int)) ∧ Drn w w' := by
  have k9 := hH.cell (rhC_n k st N (.slice ao n cap))
  have k10 := hH.cell (rhC_v k st N (.slice ao n cap))
  have k9' := fun m => (hH.drn (⟨m, rfl⟩ : Drn w (w.drewN m))).cell (rhC_n k st N (.slice ao n cap))
  have k10' := fun m => (hH.drn (⟨m, rfl⟩ : Drn w (w.drewN m))).cell (rhC_v k st N (.slice ao n cap))
  have q1 : IntKind.u64.wrap (n : Int) = (n : Int) := IntWalk.u64_in _ (by omega)
  obtain ⟨M, hM⟩ : ∃ M, N + n = M := ⟨_, rfl⟩
  have q2 : IntKind.u64.wrap ((N : Int) + (n : Int)) = (M : Int) := by rw [IntWalk.u64_in _ (by omega)]; omega
  have HM := Lib.hid hM
  clear hH hN hM
  go_enter Tryd.func28, Tryd.ntmps28
  go_wp2_with fail
  go_quiet (fail)
  generalize hw : w.drewN nq = w2
  have hd : Drn w w2 := ⟨nq, hw.symm⟩
  clear k9 k10 k9' k10' hw
  go_wp2_with fail
  go_ret
  exact ⟨by rw [HM.out]; rfl, hd⟩
def wroteF (hb : Nat) (v : Value) : Nat → Prop := fun q => q = hb ∨ v.ownBlock = some q
set_option maxHeartbeats 1000000 in
theorem rwrite_any (hb k : Nat) (st : S8) (N B : Nat) (ao : Option Addr) (n cap : Nat) (l : List UInt8) (bo : Option Addr) (m c : Nat) (b : List UInt8) (w : World) (hH : HB w hb 74 (rhC k st N (.slice ao n cap))) (hl : l.length = n)
    (ho : Own 5 w B (.slice ao n cap) l) (hB : B ≤ w.heap.size) (hne : ∀ a, ao = some a → a.block ≠ hb) (hN : N + n ≤ 2305843009213693951) (hfit : N + n + m ≤ 2305843009213693951) (hbl : b.length = m) (hr : Rd w bo b) (hnil : bo = none → c = 0) (hsz : n + m ≤ 140737488355328) :
    Calls Tryd.prog 26 #[.pointer (some ⟨hb, 0, none⟩), .slice bo m c] w fun e w' => ∃ v, e = .returned (.bool true) ∧ HB w' hb 74 (rhC k st N v) ∧ Own 5 w' B v (l ++ b) ∧ Frm (wroteF hb (.slice ao n cap)) w w' ∧
      (∀ q, v.ownBlock = some q → (Value.slice ao n cap).ownBlock = some q ∨ w.heap.size ≤ q) := by
  have Hle := Lib.hid (rlen_any hb k st N ao n cap w hH (by omega))
  have q1 : IntKind.u64.wrap (m : Int) = (m : Int) := IntWalk.u64_in _ (by omega)
  obtain ⟨R, hR⟩ : ∃ R, 2305843009213693951 - (N + n) = R := ⟨_, rfl⟩
  have q2 : IntKind.u64.wrap (2305843009213693951 - ((N + n : Nat) : Int)) = (R : Int) := by rw [IntWalk.u64_in _ (by omega)]; omega
  have q3 : decide ((m : Int) > (R : Int)) = false := decide_eq_false (by omega)
  have q4 : ¬ (R : Int) < (m : Int) := by omega
  have hbk : (Value.slice ao n cap).ownBlock ≠ some hb := fun e => by
    cases ao with
    | none => cases e
    | some a => exact hne a rfl (Option.some.inj e)
  have HH := Lib.hid hH
  have Ho := Lib.hid ho
  have HBs := Lib.hid hB
  have Hbk := Lib.hid hbk
  have Hr := Lib.hid hr
  have Hbl := Lib.hid hbl
  have Hl := Lib.hid hl
  have Hsz := Lib.hid hsz
  have Hnil := Lib.hid hnil
  generalize hM : N + n = M at *
  clear hH ho hB hne hN hfit hbl hr hnil hsz hR hbk hl hM
  go_enter Tryd.func26, Tryd.ntmps26
  go_wp2_with fail
  refine Hle.out.mono ?_
  rintro e w1 ⟨rfl, hd⟩
  have HH1 := Lib.hid (HH.out.drn hd)
  have Ho1 : Hid (Own 5 w1 B (.slice ao n cap) l) := Lib.hid (Ho.out.grown (grown_drn hd none) (fun k _ e => by cases e))
  have Hr1 := Lib.hid (hd.rd Hr.out)
  have Hd := Lib.hid hd
  have HBs1 : Hid (B ≤ w1.heap.size) := Lib.hid (by rw [hd.heap]; exact HBs.out)
  have Hhs : Hid (w.heap.size ≤ w1.heap.size) := Lib.hid (by rw [hd.heap]; exact Nat.le_refl _)
  have k10 := HH1.out.cell (rhC_v k st N (.slice ao n cap))
  clear hd HH Ho Hr Hle
  go_wp2_with (at_builtin; refine wpList_append_gr byteRow02 rfl _ _ rfl B (.slice ao n cap) l rfl Ho1.out bo m c b rfl Hbl.out Hr1.out Hnil.out ?_ HBs1.out ?_)
  · rw [Hl.out]; exact Hsz.out
  intro v w2 ho2 hg2
  obtain ⟨ao2, c2, hv2, -, -, -⟩ := ho2.rd
  subst hv2
  generalize (l ++ b).length = N2 at *
  have HH2 := Lib.hid (HH1.out.grown hg2.g (fun e => Hbk.out e.symm))
  have hd10 := HH2.out.cell (rhC_v k st N (.slice ao n cap))
  have fd10 := HH2.out.frozen 10
  have HH3 : Hid (HB (w2.setCell ⟨hb, 10, none⟩ (.slice ao2 N2 c2)) hb 74 (rhC k st N (.slice ao2 N2 c2))) := Lib.hid (by rw [← rhC_set k st N (.slice ao n cap) (.slice ao2 N2 c2)]; exact HH2.out.set 10 (.slice ao2 N2 c2))
  have hvb : (Value.slice ao2 N2 c2).ownBlock ≠ some hb := fun e => by
    rcases hg2.k hb e with h | h
    · exact Hbk.out h
    · have := HH1.out.lt; omega
  have HO3 := Lib.hid (ho2.other (a := ⟨hb, 10, none⟩) hvb (.slice ao2 N2 c2))
  have HF : Hid (Frm (wroteF hb (.slice ao n cap)) w (w2.setCell ⟨hb, 10, none⟩ (.slice ao2 N2 c2))) := Lib.hid (((Frm.drn Hd.out).trans (Frm.grown hg2.g (fun q hq => Or.inr hq))).trans (Frm.grown (grown_set w2 ⟨hb, 10, none⟩ (.slice ao2 N2 c2)) (fun q hq => Or.inl (Option.some.inj hq).symm)))
  have HK := Lib.hid hg2.k
  clear k10 ho2 hg2 hvb q1 q2 q3 q4
  go_wp2_with fail
  go_ret
  exact ⟨_, rfl, HH3.out, HO3.out, HF.out, fun q hq => (HK.out q hq).imp id (fun h => Nat.le_trans Hhs.out h)⟩
theorem rwrite_long (hb k : Nat) (st : S8) (N : Nat) (ao : Option Addr) (n cap : Nat) (bo : Option Addr) (m c : Nat) (w : World) (hH : HB w hb 74 (rhC k st N (.slice ao n cap)))
    (hN : N + n ≤ 2305843009213693951) (hfit : ¬ N + n + m ≤ 2305843009213693951) (hm : m < 18446744073709551616) :
    Calls Tryd.prog 26 #[.pointer (some ⟨hb, 0, none⟩), .slice bo m c] w fun e w' => e = .returned (.bool false) ∧ Drn w w' := by
  have Hle := Lib.hid (rlen_any hb k st N ao n cap w hH (by omega))
  have q1 : IntKind.u64.wrap (m : Int) = (m : Int) := IntWalk.u64_in _ (by omega)
  obtain ⟨R, hR⟩ : ∃ R, 2305843009213693951 - (N + n) = R := ⟨_, rfl⟩
  have q2 : IntKind.u64.wrap (2305843009213693951 - ((N + n : Nat) : Int)) = (R : Int) := by rw [IntWalk.u64_in _ (by omega)]; omega
  have q3 : decide ((m : Int) > (R : Int)) = true := decide_eq_true (by omega)
  have q4 : (R : Int) < (m : Int) := by omega
  generalize hM : N + n = M at *
  clear hH hN hfit hR hM
  go_enter Tryd.func26, Tryd.ntmps26
  go_wp2_with fail
  refine Hle.out.mono ?_
  rintro e w1 ⟨rfl, hd⟩
  clear Hle
  go_wp2_with fail
  go_ret
  exact ⟨rfl, hd⟩
end Go.Proofs.YtngkelflfahjbaaDoor
