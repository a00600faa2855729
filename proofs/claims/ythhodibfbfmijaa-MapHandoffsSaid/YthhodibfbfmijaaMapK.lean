/- Maps whose keys are pieces. No condition. -/
import Derived.Test.YthhodibfbfmijaaMapC
import Derived.Maps.RangeWalk
import Derived.Maps.Views
import Derived.Maps.OwnSet
import Derived.DeepKeys4
set_option linter.unusedVariables false
set_option linter.unusedSimpArgs false
namespace Go.Proofs.Ythhodibfbfmijaa
open Go.RowKit Go.Maps
theorem laidOutP : laidOutB Try.prog = true := by kernel_rfl
theorem pieceLaw : Keyed Try.prog 59 :=
  Keyed.of_law (deep_law_laid laidOutP (m := 2) (by omega) (of_decide_eq_true (by kernel_rfl)) (by kernel_rfl) (by rw [Try.underlying59]))
def kp (b n : Nat) : Lit := .string (keyBytes [.int .u64 b, .int .u64 n])
theorem pieceKey : Try.prog.keyType 59 = true := by kernel_rfl
theorem wf_u64 {n : Nat} (h : n < 18446744073709551616) : (Lit.int .u64 (n : Int)).wf = true := by
  simp [Lit.wf, IntKind.min, IntKind.max, IntKind.bits, IntKind.signed]; omega
theorem keyOf_pc {b n : Nat} (hb : b < 18446744073709551616) (hn : n < 18446744073709551616) : keyOf Try.prog 59 (pc b n) = some (kp b n) := by
  have hs : ∃ m, Try.prog.types.size = m + 1 := ⟨Try.prog.types.size - 1, by have : 0 < Try.prog.types.size := of_decide_eq_true (by kernel_rfl); omega⟩
  have hc : Try.prog.cellsOf 59 = 2 := by kernel_rfl
  have h1 : Try.prog.cellsOf 24 = 1 := by kernel_rfl
  obtain ⟨m, hm⟩ := hs
  have wb := wf_u64 hb
  have wn := wf_u64 hn
  unfold keyOf
  rw [Try.underlying59]
  simp only []
  rw [if_pos (by rw [pieceKey]; simp [pc, Value.formed, Try.underlying59, hc]), hm]
  unfold Program.keyLits
  rw [Try.underlying59]
  have hl : (pc b n).cells.toList = [.int .u64 b, .int .u64 n] := rfl
  rw [hl]
  simp only []
  rw [if_pos (by rw [hc]; exact ⟨rfl, by decide +kernel⟩)]
  simp only [List.mapM_cons, List.mapM_nil]
  cases m with
  | zero => exfalso; revert hm; have : 1 < Try.prog.types.size := of_decide_eq_true (by kernel_rfl); omega
  | succ m => simp [h1, Program.keyLits, Try.underlying24, wb, wn, kp]
theorem kp_inj {b n c m : Nat} (hb : b < 18446744073709551616) (hn : n < 18446744073709551616) (hc : c < 18446744073709551616) (hm : m < 18446744073709551616) (h : kp b n = kp c m) : b = c ∧ n = m := by
  have h1 := keyOf_pc hb hn
  have h2 := keyOf_pc hc hm
  rw [← h] at h2
  have h3 := pieceLaw.inj h1 h2
  unfold pc at h3
  simp only [Value.agg.injEq, Array.mk.injEq, List.cons.injEq, Value.int.injEq, true_and, and_true] at h3
  omega
theorem u64_lits {m : Nat} {c : Value} {ls : List Lit} (h : Try.prog.keyLits (m + 1) 24 [c] = some ls) : ∃ b : Nat, b < 18446744073709551616 ∧ c = .int .u64 b := by
  unfold Program.keyLits at h
  rw [Try.underlying24] at h
  cases c with
  | int q a =>
    simp only [] at h
    by_cases hq : q = .u64 ∧ (Lit.int .u64 a).wf = true
    · obtain ⟨rfl, hw⟩ := hq
      simp [Lit.wf, IntKind.min, IntKind.max, IntKind.bits, IntKind.signed] at hw
      exact ⟨a.toNat, by omega, by congr 1; omega⟩
    · rw [if_neg hq] at h; cases h
  | _ => cases h
theorem pc_inv {v : Value} {kl : Lit} (h : keyOf Try.prog 59 v = some kl) : ∃ x : Nat × Nat, v = pc x.1 x.2 ∧ x.1 < 18446744073709551616 ∧ x.2 < 18446744073709551616 := by
  have hc : Try.prog.cellsOf 59 = 2 := by kernel_rfl
  have h1 : Try.prog.cellsOf 24 = 1 := by kernel_rfl
  obtain ⟨m, hm⟩ : ∃ m, Try.prog.types.size = m + 2 := ⟨Try.prog.types.size - 2, by have : 1 < Try.prog.types.size := of_decide_eq_true (by kernel_rfl); omega⟩
  unfold keyOf at h
  rw [Try.underlying59] at h
  simp only [] at h
  split at h
  · rename_i hf
    rw [pieceKey, Bool.true_and] at hf
    rw [hm] at h
    cases v with
    | agg cs =>
      obtain ⟨c0, c1, rfl⟩ : ∃ c0 c1, cs = #[c0, c1] := by
        have : cs.size = 2 := by simpa [Value.formed, Try.underlying59, hc] using hf
        rcases cs with ⟨_ | ⟨c0, _ | ⟨c1, _ | ⟨c2, r⟩⟩⟩⟩ <;> simp at this
        exact ⟨c0, c1, rfl⟩
      unfold Program.keyLits at h
      rw [Try.underlying59] at h
      have hl : (Value.agg #[c0, c1]).cells.toList = [c0, c1] := rfl
      rw [hl] at h
      simp only [] at h
      rw [if_pos (by rw [hc]; exact ⟨rfl, by decide +kernel⟩)] at h
      have e0 : List.take (Try.prog.cellsOf 24) (List.drop 0 [c0, c1]) = [c0] := by rw [h1]; rfl
      have e1 : List.take (Try.prog.cellsOf 24) (List.drop 1 [c0, c1]) = [c1] := by rw [h1]; rfl
      simp only [List.mapM_cons, List.mapM_nil, e0, e1, Option.map_eq_some_iff, Option.bind_eq_bind, Option.bind_eq_some_iff] at h
      obtain ⟨ls, ⟨ll, ⟨l0, g0, ⟨l1, ⟨l2, g1, _⟩, _⟩⟩, _⟩, _⟩ := h
      obtain ⟨b, hb, rfl⟩ := u64_lits g0
      obtain ⟨n, hn, rfl⟩ := u64_lits g1
      exact ⟨(b, n), rfl, hb, hn⟩
    | _ => simp [Value.formed, Try.underlying59] at hf
  · cases h
theorem bool_inv {H : Type} {v : Value} {y : DataW H × List MemPlace} (h : plainElem Try.prog 4 v = some y) : ∃ b : Bool, v = .bool b := by
  unfold plainElem at h
  rw [Try.underlying4] at h
  cases v with
  | bool b => exact ⟨b, rfl⟩
  | _ => cases h
/-- a map's literal: one entry laid in -/
theorem wpList_insert_own {H : Type} {P : Program} (w : World) {ops : Array Oper} {rest : List Oper} {o : Oper} {a : Act} {Q : Exit → Act → World → Prop}
    (hg : o.guard = none) (m x v : Operand) (t : TypeId) (hop : o.op = Op.insert t m x v)
    (k e : TypeId) (K : Keyed P k) (ht : P.underlying t = some (.map k e)) (R : Value → Option (DataW H × List MemPlace)) (b n : Nat) (D : DataW H)
    (hm : a.eval m = .map (some b)) (hown : w.ownsMap P k R b n D) (hn : n < maxLen) (key val : Value) (kl : Lit) (hx : a.eval x = key) (hv : a.eval v = val) (hkey : keyOf P k key = some kl)
    (d : DataW H) (ps : List MemPlace) (hval : R val = some (d, ps))
    (hK : ∀ w', w'.ownsMap P k R b (n + 1) (D.put kl d) → w.grownBy w' (some b) → wpList P ops Q rest (a.put o.dst undef) w') :
    wpList P ops Q (o :: rest) a w := by
  refine wpList_plain hg fun K' hK' => ?_
  obtain ⟨w', hrun, r1, r2⟩ := hown.update K ht hn hkey hval
  unfold Oper.wp
  simp [execOp, hop, hm, hx, hv, hrun, Result.andThen]
  exact hK' _ _ (hK w' r1 r2)
/-- the map's keys are the pieces of n bytes at these places -/
def Holds (D : DataW Unit) (S : Nat → Prop) (n : Nat) : Prop := IsMap D ∧ ∀ kl, Maps.has D kl = true ↔ ∃ c, S c ∧ c < 18446744073709551616 ∧ kl = kp c n
theorem holds_empty (n : Nat) : Holds (.map []) (fun _ => False) n := ⟨isMap_empty, fun kl => ⟨fun h => (by cases h), fun ⟨_, h, _⟩ => h.elim⟩⟩
theorem kp_key {b n : Nat} (hb : b < 18446744073709551616) (hn : n < 18446744073709551616) : WideAt.IsKeyLit (kp b n) := pieceLaw.key (keyOf_pc hb hn)
theorem Holds.put {D : DataW Unit} {S : Nat → Prop} {n c : Nat} (h : Holds D S n) (hc : c < 18446744073709551616) (hn : n < 18446744073709551616) (d : DataW Unit) : Holds (D.put (kp c n) d) (fun x => S x ∨ x = c) n := by
  refine ⟨h.1.put _ _, fun kl => ?_⟩
  by_cases e : kl = kp c n
  · subst e
    exact ⟨fun _ => ⟨c, Or.inr rfl, hc, rfl⟩, fun _ => has_put_same h.1 (kp_key hc hn) d⟩
  · rw [has_put_other e]
    refine (h.2 kl).trans ⟨fun ⟨x, h1, h2⟩ => ⟨x, Or.inl h1, h2⟩, fun ⟨x, h1, h2, h3⟩ => ?_⟩
    rcases h1 with h1 | h1
    · exact ⟨x, h1, h2, h3⟩
    · subst h1; exact absurd h3 e
theorem Holds.congr {D : DataW Unit} {S S' : Nat → Prop} {n : Nat} (h : Holds D S n) (hs : ∀ c, S c ↔ S' c) : Holds D S' n :=
  ⟨h.1, fun kl => (h.2 kl).trans ⟨fun ⟨x, h1, h2⟩ => ⟨x, (hs x).1 h1, h2⟩, fun ⟨x, h1, h2⟩ => ⟨x, (hs x).2 h1, h2⟩⟩⟩
end Go.Proofs.Ythhodibfbfmijaa
