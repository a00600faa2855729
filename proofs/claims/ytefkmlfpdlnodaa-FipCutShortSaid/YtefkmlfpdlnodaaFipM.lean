/- Which names a map holds; a number of a package. No condition. -/
import Derived.Test.YtefkmlfpdlnodaaFipN
import Derived.Test.YtefkmlfpdlnodaaGet
import Derived.Test.YtefkmlfpdlnodaaPut
import Derived.Maps.OwnSet
set_option linter.unusedVariables false
set_option linter.unusedSimpArgs false
namespace Go.Proofs.Ytefkmlfpdlnodaa
open Go.RowKit Go.Maps
def RI (v : Value) : Option (DataW Unit × List MemPlace) := match v with
  | .int .i64 k => some (.lit (.int .i64 k), [])
  | _ => none
/-- block b is a map that holds just these names -/
def GSet (w : World) (b n : Nat) (S : Gu → Prop) : Prop := ∃ D : DataW Unit, w.ownsMap Try.prog 30 RI b n D ∧ IsMap D ∧ ∀ g, Maps.has D (gl g) = true ↔ S g
theorem GSet.made (w : World) : GSet (w.alloc (.map #[] 0)) w.heap.size 0 (fun _ => False) :=
  ⟨.map [], World.ownsMap_made w _ _ _, isMap_empty, fun g => ⟨fun h => (by cases h), fun h => h.elim⟩⟩
theorem GSet.kept {w w' : World} {b n : Nat} {S : Gu → Prop} {row : Option Nat} (h : GSet w b n S) (hg : w.grownBy w' row) (hne : some b ≠ row) : GSet w' b n S :=
  let ⟨D, h1, h2⟩ := h; ⟨D, h1.kept hg hne, h2⟩
theorem GSet.alloc {w : World} {b n : Nat} {S : Gu → Prop} (h : GSet w b n S) (o : Obj) : GSet (w.alloc o) b n S := h.kept (grown_alloc w o none) (by simp)
theorem GSet.later {w w' : World} {b n : Nat} {S : Gu → Prop} (h : GSet w b n S) (hb : Below w.heap.size w w') : GSet w' b n S := h.kept (grown_below hb none) (by simp)
theorem GSet.drn {w w' : World} {b n : Nat} {S : Gu → Prop} (h : GSet w b n S) (hd : Drn w w') : GSet w' b n S := h.kept (grown_drn hd none) (by simp)
theorem GSet.lt {w : World} {b n : Nat} {S : Gu → Prop} (h : GSet w b n S) : b < w.heap.size := let ⟨D, h1, _⟩ := h; h1.lt
theorem GSet.congr {w : World} {b n : Nat} {S S' : Gu → Prop} (h : GSet w b n S) (hs : ∀ g, S g ↔ S' g) : GSet w b n S' :=
  let ⟨D, h1, h2, h3⟩ := h; ⟨D, h1, h2, fun g => (h3 g).trans (hs g)⟩
theorem gl_key (g : Gu) : WideAt.IsKeyLit (gl g) := guLaw.key (keyOf_gu g)
theorem GSet.look_ok {w : World} {b n : Nat} {S : Gu → Prop} [DecidablePred S] (h : GSet w b n S) (g : Gu) :
    ∃ k : Int, (Instr.lookup 65 (.map (some b)) (.agg (guc g).toArray) true).run Try.prog w = .ok (.tuple #[.int .i64 k, .bool (decide (S g))]) w := by
  obtain ⟨D, h1, h2, h3⟩ := h
  obtain ⟨v, ps, hrun, hv⟩ := h1.look_ok guLaw Try.underlying65 (z := .int .i64 0) (by kernel_rfl) (show RI (.int .i64 0) = some _ from rfl) (keyOf_gu g)
  have hb : Maps.has D (gl g) = decide (S g) := by rw [Bool.eq_iff_iff, h3, decide_eq_true_iff]
  cases v with
  | int q k =>
    cases q with
    | i64 => exact ⟨k, by rw [hrun, hb]⟩
    | _ => cases hv
  | _ => cases hv
theorem wpList_put_gu {w : World} {ops : Array Oper} {rest : List Oper} {o : Oper} {a : Act} {Q : Exit → Act → World → Prop}
    (hg : o.guard = none) (m x v : Operand) (hop : o.op = Op.mapUpdate 65 m x v)
    (b n : Nat) (S : Gu → Prop) (hm : a.eval m = .map (some b)) (hown : GSet w b n S) (hn : n < maxLen) (g : Gu) (k : Int) (hx : a.eval x = .agg (guc g).toArray) (hv : a.eval v = .int .i64 k)
    (hK : ∀ w', GSet w' b (n + 1) (fun y => S y ∨ y = g) → w.grownBy w' (some b) → wpList Try.prog ops Q rest (a.put o.dst undef) w') :
    wpList Try.prog ops Q (o :: rest) a w := by
  refine wpList_plain hg fun K' hK' => ?_
  obtain ⟨D, h1, h2, h3⟩ := hown
  obtain ⟨w', hrun, r1, r2⟩ := h1.update guLaw Try.underlying65 hn (keyOf_gu g) (show RI (.int .i64 k) = some _ from rfl)
  unfold Oper.wp
  simp [execOp, hop, hm, hx, hv, hrun, Result.andThen]
  refine hK' _ _ (hK w' ⟨_, r1, h2.put _ _, fun y => ?_⟩ r2)
  by_cases e : y = g
  · subst e
    exact ⟨fun _ => Or.inr rfl, fun _ => has_put_same h2 (gl_key y) _⟩
  · have hne : gl y ≠ gl g := fun h => e (gl_inj h)
    rw [has_put_other hne]
    exact (h3 y).trans ⟨Or.inl, fun h => h.resolve_right e⟩
theorem pnum_ok (ao : Option Addr) (n cap A k : Nat) (l : List UInt8) (w : World) (hl : l.length = n) (hn : n ≤ 140737488351232) (hr : Rd w ao l) (hs : SizeOk k) (hp : A + k ≤ n) :
    Calls Try.prog 20 #[.slice ao n cap, .int .i64 A, .int .i64 k] w fun e w' => e = .returned (.int .u64 (getN l A k false)) ∧ Drn w w' := by
  have Hg := Lib.hid (get_ok ao n cap A k l false w hl hn hr hs hp)
  clear hl hr hs hp hn
  go_enter Try.func20, Try.ntmps20
  go_wp2_with fail
  refine Hg.out.mono ?_
  rintro e w' ⟨rfl, hd⟩
  go_wp2_with fail
  go_ret
  exact ⟨rfl, hd⟩
end Go.Proofs.Ytefkmlfpdlnodaa
