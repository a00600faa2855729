/- RAM as the program's memory holds it. No condition. -/
import Derived.Test.YtcbiohpgmooefaaProg
import Derived.Test.YtcbiohpgmooefaaRmN
import Derived.Test.YtcbiohpgmooefaaSeq
import Derived.Test.YtcbiohpgmooefaaFill
import Derived.Test.YtcbiohpgmooefaaNum
set_option linter.unusedVariables false
set_option linter.unusedSimpArgs false
namespace Go.Proofs.Ytcbiohpgmooefaa
open Go.RowKit
def rgc (g : Rg) : List Value := [.int .u64 g.base, .int .u64 g.size, .bool g.r, .bool g.w, .bool g.x, .bool g.s]
def rgv (g : Rg) : Value := .agg #[.int .u64 g.base, .int .u64 g.size, .bool g.r, .bool g.w, .bool g.x, .bool g.s]
theorem rgc_len : ∀ g, (rgc g).length = 6 := fun _ => rfl
theorem rgLay : Lay Try.prog 22 33 6 24 rgc := ⟨Try.underlying22, by decide, fun _ => rfl, fun g u h => by
  simp only [rgc, List.mem_cons, List.not_mem_nil, or_false] at h
  rcases h with h | h | h | h | h | h <;> subst h <;> rfl, by
  have h : (Try.prog.info? 33).map (fun i => (i.zero, i.size, i.bytes)) = some (some (.agg #[.int .u64 0, .int .u64 0, .bool false, .bool false, .bool false, .bool false]), 6, 24) := by kernel_rfl
  cases hi : Try.prog.info? 33 with
  | none => rw [hi] at h; cases h
  | some i =>
    rw [hi] at h
    simp only [Option.map_some, Option.some.injEq, Prod.mk.injEq] at h
    exact ⟨i, _, rfl, h.1, h.2.1, h.2.2, rfl⟩⟩
def ramC (m : List UInt8) (tv : Value) : List Value := m.map bv ++ [tv]
theorem ramC_len (m : List UInt8) (tv : Value) : (ramC m tv).length = m.length + 1 := by unfold ramC; simp
theorem ramC_t {m : List UInt8} {tv : Value} (h : m.length = 65536) : (ramC m tv)[65536]? = some tv := by
  unfold ramC
  rw [List.getElem?_append_right (by rw [List.length_map]; omega), List.length_map, h]
  rfl
theorem ramC_m {m : List UInt8} {tv : Value} {j : Nat} (h : j < m.length) : (ramC m tv)[j]? = some (.int .u8 (m[j]?.getD 0).toNat) := by
  unfold ramC
  rw [List.getElem?_append_left (by rw [List.length_map]; omega), List.getElem?_map, List.getElem?_eq_getElem h]
  rfl
theorem ramC_set {m : List UInt8} {tv tv' : Value} (h : m.length = 65536) : (ramC m tv).set 65536 tv' = ramC m tv' := by
  unfold ramC
  rw [List.set_append_right _ _ (by rw [List.length_map]; omega), List.length_map, h]
  rfl
theorem ramC_spl {m b : List UInt8} {tv : Value} {o : Nat} (h : o + b.length ≤ m.length) : (ramC m tv).take o ++ b.map bv ++ (ramC m tv).drop (o + (b.map bv).length) = ramC (spl m o b) tv := by
  unfold ramC spl
  rw [List.take_append_of_le_length (by rw [List.length_map]; omega), List.drop_append_of_le_length (by rw [List.length_map, List.length_map]; omega), List.length_map]
  simp [List.map_append, List.map_take, List.map_drop]
theorem OwnS.frm {α : Type} {cells : α → List Value} {sz : Nat} {E : TypeId} {w w' : World} {B : Nat} {v : Value} {l : List α} {K : Nat → Prop} (h : OwnS cells E sz w B v l) (hf : Frm K w w') (hne : ∀ k, v.ownBlock = some k → ¬ K k) : OwnS cells E sz w' B v l := by
  refine ⟨h.1, ?_⟩
  rcases h.2 with hn | ⟨g, cap, cur, rfl, hb, hgg, rest⟩
  · exact .inl hn
  · refine .inr ⟨g, cap, cur, rfl, hb, ?_, rest⟩
    rw [hf.block g (Array.getElem?_eq_some_iff.1 hgg).1 (hne g rfl)]; exact hgg
/-- the program's RAM -/
structure RamM (B R : Nat) (m : List UInt8) (tv : Value) (t : List Rg) (w : World) : Prop where
  h : HB w R 60 (ramC m tv)
  l : m.length = 65536
  o : OwnS rgc 33 6 w B tv t
  tb : Tab t
  b : B ≤ R
  nv : tv.ownBlock ≠ some R
theorem RamM.later {B R : Nat} {m : List UInt8} {tv : Value} {t : List Rg} {w w' : World} (h : RamM B R m tv t w) (hb : Below w.heap.size w w') : RamM B R m tv t w' :=
  ⟨h.h.later hb, h.l, h.o.later hb, h.tb, h.b, h.nv⟩
theorem RamM.tab {B R : Nat} {m : List UInt8} {tv : Value} {t : List Rg} {w : World} (h : RamM B R m tv t w) : w.cell? ⟨R, 65536, none⟩ = some tv := h.h.cell (ramC_t h.l)
theorem RamM.other {B R : Nat} {m : List UInt8} {tv : Value} {t : List Rg} {w w' : World} {K : Nat → Prop} (h : RamM B R m tv t w) (hf : Frm K w w') (h1 : ¬ K R) (h2 : ∀ k, tv.ownBlock = some k → ¬ K k) : RamM B R m tv t w' :=
  ⟨h.h.frm hf h1, h.l, h.o.frm hf h2, h.tb, h.b, h.nv⟩
/-- the table as a value -/
theorem RamM.tv {B R : Nat} {m : List UInt8} {tv : Value} {t : List Rg} {w : World} (h : RamM B R m tv t w) : ∃ ao cap, tv = .slice ao t.length cap ∧ t.length ≤ cap ∧ cap ≤ maxLen ∧ RdS rgc 6 w ao t ∧ (ao = none → cap = 0) := h.o.rd rgc_len
theorem RgOk.of {t : List Rg} (h : Tab t) {g : Rg} (hg : g ∈ t) : RgOk g := by
  have := inRam_iff.1 (h.ok g hg).2.1
  exact ⟨by omega, by omega⟩
end Go.Proofs.Ytcbiohpgmooefaa
