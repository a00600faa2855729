/- A list of lists of bytes as an argument, and its bulk. No condition. -/
import Derived.Test.YtngkelflfahjbaaDoorOpenS
import Derived.Test.YtngkelflfahjbaaDoorRows
set_option linter.unusedVariables false
set_option linter.unusedSimpArgs false
namespace Go.Proofs.YtngkelflfahjbaaDoor
open Go.ChangeShapes Go.WideShapes Go.ChangeAt Go.RowKit
theorem bulk_one {H : Type} (x : DataW H) : 1 ≤ Rows.uptoBulk x := by
  cases x with
  | lit l => cases l <;> simp [Rows.uptoBulk]
  | nil => simp [Rows.uptoBulk]
  | ptr d => simp [Rows.uptoBulk]
  | slice elems spare => simp [Rows.uptoBulk]
  | agg parts => simp [Rows.uptoBulk]
  | iface t d => simp [Rows.uptoBulk]
  | map entries => simp [Rows.uptoBulk]
  | held h => simp [Rows.uptoBulk]
theorem bulk_len {H : Type} (l : List (DataW H)) : l.length ≤ Rows.uptoBulkAll l := by
  induction l with
  | nil => simp [Rows.uptoBulkAll]
  | cons x l ih =>
    have := bulk_one x
    simp only [Rows.uptoBulkAll, List.length_cons]; omega
theorem sum_at {α : Type} {β : Type} (f : α → Nat) (g : β → Nat) : ∀ (l : List α) (m : List β), l.length = m.length → (∀ (i : Nat) x y, l[i]? = some x → m[i]? = some y → f x ≤ g y) → (l.map f).sum ≤ (m.map g).sum
  | [], [], _, _ => Nat.le_refl _
  | x :: l, y :: m, hl, h => by
    have h0 := h 0 x y rfl rfl
    have ih := sum_at f g l m (by simpa using hl) (fun i x y hx hy => h (i + 1) x y hx hy)
    simp only [List.map_cons, List.sum_cons]
    omega
  | [], _ :: _, hl, _ => by cases hl
  | _ :: _, [], hl, _ => by cases hl
theorem bulk_sum {H : Type} : ∀ (l : List (DataW H)), Rows.uptoBulkAll l = (l.map Rows.uptoBulk).sum
  | [] => rfl
  | x :: l => by simp only [Rows.uptoBulkAll, List.map_cons, List.sum_cons, bulk_sum l]
/-- a slice as a value -/
structure Pc where
  ao : Option Addr
  cap : Nat
  l : List UInt8
def pcc (m : Pc) : List Value := [.slice m.ao m.l.length m.cap]
structure Pc.Ok (w : World) (m : Pc) : Prop where
  r : Rd w m.ao m.l
  c : m.l.length ≤ m.cap
  x : m.cap ≤ maxLen
  z : m.ao = none → m.cap = 0
theorem pc_dec {H : Type} {enc : TypeId × Value → H} {W : World} (fuel : Nat) (cs : List Value) (y : DataW H × List MemPlace)
    (h : DataW.trod enc Tryd.prog W 0 (fun _ => true) true fuel 22 cs = some y) (hl : cs.length = 1) : ∃ m : Pc, cs = pcc m ∧ (m.Ok W ∧ m.l.length ≤ Rows.uptoBulk y.1) := by
  obtain ⟨c, rfl⟩ : ∃ c, cs = [c] := by
    match cs, hl with
    | [c], _ => exact ⟨c, rfl⟩
  rcases open_ints Tryd.underlying22 Tryd.underlying5 (by kernel_rfl) h with ⟨hcs, rfl⟩ | ⟨a, l, cp, zs, hcs, _, hlc, hm, hzl, rfl, hcell, hwz⟩
  · simp at hcs
    subst hcs
    exact ⟨⟨none, 0, []⟩, rfl, ⟨Rd.nil _ _, Nat.le_refl _, by decide, fun _ => rfl⟩, Nat.zero_le _⟩
  · simp at hcs
    subst hcs
    simp only [if_true] at hzl
    have hlen : (zs.take l).length = l := by simp; omega
    have hlen2 : ((zs.take l).map (fun z => UInt8.ofNat z.toNat)).length = l := by rw [List.length_map, hlen]
    refine ⟨⟨some a, cp, (zs.take l).map (fun z => UInt8.ofNat z.toNat)⟩, by unfold pcc; simp only; rw [hlen2], ⟨?_, by simp only; rw [hlen2]; exact hlc, hm, fun h => by cases h⟩, ?_⟩
    · intro j hj
      have hj' : j < l := by simp only at hj; rw [hlen2] at hj; exact hj
      obtain ⟨b, off, rfl, hc'⟩ := ints_at hcell (by omega)
      refine ⟨b, off, rfl, ?_⟩
      rw [hc' j (by omega)]
      have hwf := hwz (zs.getD j 0) (by rw [List.getD_eq_getElem?_getD, List.getElem?_eq_getElem (by omega : j < zs.length)]; simp)
      simp [Lit.wf, IntKind.min, IntKind.max, IntKind.bits, IntKind.signed] at hwf
      simp [List.getElem?_map, hj', List.getElem?_eq_getElem (by omega : j < zs.length)] at hwf ⊢
      omega
    · have h1 := bulk_len (lits (H := H) .u8 (zs.take l))
      have h2 : (lits (H := H) .u8 (zs.take l)).length = l := by simp [lits]; omega
      simp only [Rows.uptoBulk]
      rw [hlen2]
      omega
theorem open_pieces {H : Type} {enc : TypeId × Value → H} {W : World} {base : Nat} {r : Reach} {v : Value} {d : DataW H} {p : List MemPlace}
    (k : Value.okWide Tryd.prog W r base 50 v) (h : DataW.Trod enc Tryd.prog W 0 (fun _ => true) true 50 v d p) :
    ∃ ao n cap l, v = .slice ao n cap ∧ l.length = n ∧ n ≤ cap ∧ RdS pcc 1 W ao l ∧ (∀ m ∈ l, Pc.Ok W m) ∧ (l.map (fun m => m.l.length)).sum ≤ Rows.uptoBulk d ∧ n ≤ Rows.uptoBulk d := by
  have hu := Tryd.underlying50
  have hc6 : Tryd.prog.cellsOf 22 = 1 := by kernel_rfl
  have h0sz : 0 < 1 := by decide
  have hlen6 : ∀ g : Pc, (pcc g).length = 1 := fun _ => rfl
  obtain ⟨a, n, cap, rfl⟩ := okWide_slice hu k
  obtain ⟨fuel, hf⟩ := h
  have hf' : DataW.trod enc Tryd.prog W 0 (fun _ => true) true fuel 50 [.slice a n cap] = some (d, p) := by simpa [Value.cells] using hf
  rcases DataW.trod_slice hu hf' with ⟨hcs, hx⟩ | ⟨ad, len, cp, elems, rest, m, _, hcs, hx, hb0, hlc, hcm, hlen, hel, hsp, _⟩
  · simp at hcs
    obtain ⟨rfl, rfl, rfl⟩ := hcs
    exact ⟨none, 0, 0, [], rfl, rfl, Nat.le_refl _, fun j g hj => by simp at hj, fun g hg => (by cases hg), Nat.zero_le _, Nat.zero_le _⟩
  · simp at hcs
    obtain ⟨rfl, rfl, rfl⟩ := hcs
    simp only [Prod.mk.injEq] at hx
    obtain ⟨rfl, _⟩ := hx
    obtain ⟨hrl, -⟩ := hsp rfl
    obtain ⟨l, hl, hR⟩ := pick_each (n := n) (R := fun i (g : Pc) => (∀ j u, (pcc g)[j]? = some u → W.cell? (ad.add (i * 1 + j)) = some u) ∧ g.Ok W ∧ ∀ y, elems[i]? = some y → g.l.length ≤ Rows.uptoBulk y.1) (fun i hi => by
      have he := hel i hi
      rw [hc6] at he
      have hsome : elems[i]? = some elems[i] := List.getElem?_eq_getElem (by omega)
      rw [hsome, Option.bind_eq_some_iff] at he
      obtain ⟨cs, h1, h2⟩ := he
      obtain ⟨_, hl6, hcell⟩ := World.cells?_some h1
      obtain ⟨g, rfl, g1, g2⟩ := pc_dec _ _ _ h2 hl6
      refine ⟨g, fun j u hu => ?_, g1, fun y hy => ?_⟩
      · have hj : j < 1 := by
          rcases Nat.lt_or_ge j 1 with h | h
          · exact h
          · rw [List.getElem?_eq_none (by rw [hlen6]; exact h)] at hu; cases hu
        have := hcell j hj
        rw [hu] at this
        rw [← this, Addr.add_add]
      · rw [hsome] at hy
        rw [← Option.some.inj hy]
        exact g2)
    have hblk : 0 < n → ad.block < W.heap.size := fun h0 => by
      have he := hel 0 h0
      have hsome : elems[0]? = some elems[0] := List.getElem?_eq_getElem (by omega)
      rw [hc6, hsome, Option.bind_eq_some_iff] at he
      obtain ⟨cs, h1, _⟩ := he
      have := World.cells?_block h1 h0sz
      simpa [Addr.add] using this
    refine ⟨some ad, n, cap, l, rfl, hl, hlc, fun j g hj => ?_, fun g hg => ?_, ?_, ?_⟩
    · obtain ⟨hcell, -⟩ := hR j _ hj
      have hjl : j < l.length := (List.getElem?_eq_some_iff.1 hj).1
      obtain ⟨g0, h0⟩ : ∃ g0, l[0]? = some g0 := ⟨_, List.getElem?_eq_getElem (show 0 < l.length by omega)⟩
      have hs0 := World.cell?_spot ((hR 0 _ h0).1 0 _ (show (pcc g0)[0]? = some _ from rfl))
      have hlt := hblk (by omega)
      obtain ⟨b, off, spot⟩ := ad
      have hspot : spot = none := by simpa [Addr.add] using hs0
      subst hspot
      refine ⟨b, off, rfl, hlt, fun i v hi => ?_⟩
      have := hcell i v hi
      rw [Addr.add_lit] at this
      rw [Nat.add_assoc]
      exact this
    · obtain ⟨j, hj⟩ := List.getElem?_of_mem hg
      exact (hR j g hj).2.1
    · have hs := sum_at (fun m : Pc => m.l.length) (fun y : DataW H × List MemPlace => Rows.uptoBulk y.1) l elems (by omega) (fun i x y hx hy => (hR i x hx).2.2 y hy)
      simp only [Rows.uptoBulk]
      rw [bulk_sum, List.map_map]
      exact Nat.le_trans hs (Nat.le_trans (Nat.le_refl _) (Nat.le_trans (Nat.le_add_right _ _) (Nat.le_add_right _ _)))
    · have h1 := bulk_len (elems.map (·.1))
      rw [List.length_map] at h1
      simp only [Rows.uptoBulk]
      omega
end Go.Proofs.YtngkelflfahjbaaDoor
