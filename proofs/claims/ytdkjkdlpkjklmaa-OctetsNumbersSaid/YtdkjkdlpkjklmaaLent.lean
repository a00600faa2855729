/- The law's own helpers: lent, kept. No condition. -/
import Derived.Test.YtdkjkdlpkjklmaaRef2
set_option linter.unusedVariables false
set_option linter.unusedSimpArgs false
namespace Go.Proofs.Ytdkjkdlpkjklmaa
open Go.RowKit
set_option maxHeartbeats 400000 in
theorem lent_any (ao : Option Addr) (n cap : Nat) (l : List UInt8) (w : World) (hl : l.length = n) (hn : n ≤ 140737488351232) (hc : ao = none → cap = 0) (hr : Rd w ao l) :
    Calls Try.prog 17 #[.slice ao n cap] w fun e w' => ∃ g C, e = .returned (.slice (some ⟨g, 0, none⟩) n C) ∧ Own 5 w' w.heap.size (.slice (some ⟨g, 0, none⟩) (n + 2) C) (l ++ [170, 85]) ∧ Below w.heap.size w w' := by
  have hr' := fun o => Lib.hid (hr.below ((Below.refl _ w).alloc (Nat.le_refl _) o))
  have hm := Lib.hid (Own.made0 5 w w.heap.size (Nat.le_refl _))
  have Hhl := Lib.hid hl
  clear hl
  have Hhc := Lib.hid hc
  clear hc
  clear hr
  go_enter Try.func17, Try.ntmps17
  go_wp2_with (at_builtin; refine wpList_append_bytes byteRow rfl _ _ rfl w.heap.size _ [] rfl hm.out _ n cap l rfl Hhc.out Hhl.out (hr' _).out ?c1 ?c2 ?_)
  case c1 => simp; omega
  case c2 => simp
  intro v w1 hown hgr
  have hb : Below w.heap.size w w1 := ((Below.refl _ _).alloc (Nat.le_refl _) _).grown hgr (by simp) (by intro k hk; cases hk; exact Nat.le_refl _)
  clear hgr hr' hm
  have hs := hb.size
  go_wp2_with (at_builtin; refine wpList_append_bytes_pos byteRow rfl _ _ rfl w.heap.size v l rfl (hown.alloc _) _ 2 2 [170, 85] rfl ?d0 rfl (Rd.new w1 [170, 85] _ _) (n + 2) ?d1 ?d2 ?d3 ?d4 ?_)
  case d0 => intro h; cases h
  case d1 => have := Hhl.out; omega
  case d2 => omega
  case d3 => omega
  case d4 => simp; omega
  intro g C w2 hown2 hgr2
  have hb2 : Below w.heap.size w w2 := (hb.alloc hs _).grown hgr2 (by simp; omega) (by intro k hk; exact (hown.lt k hk).1)
  obtain ⟨-, -, -, hC, -, -, -⟩ := hown2.at
  clear hgr2 hown hb
  go_wp2_with fail
  go_ret
  exact ⟨g, C, rfl, hown2, hb2⟩
theorem Own.lend {E : TypeId} {w : World} {B g n C : Nat} {l : List UInt8} (h : Own E w B (.slice (some ⟨g, 0, none⟩) (n + 2) C) (l ++ [170, 85])) (hl : l.length = n) : Rd w (some ⟨g, 0, none⟩) l := fun j hj => by
  obtain ⟨-, -, -, -, -, hcells, -⟩ := h.at
  exact ⟨g, 0, rfl, by rw [Nat.zero_add, hcells j (by omega), List.getElem?_append_left hj]⟩
set_option maxHeartbeats 400000 in
theorem kept_any (ao : Option Addr) (g n C cap B : Nat) (l : List UInt8) (w : World) (hl : l.length = n) (hn : n ≤ 140737488351232) (hr : Rd w ao l)
    (ho : Own 5 w B (.slice (some ⟨g, 0, none⟩) (n + 2) C) (l ++ [170, 85])) :
    Calls Try.prog 23 #[.slice (some ⟨g, 0, none⟩) n C, .slice ao n cap] w fun e w' => e = .returned (.bool true) ∧ Drn w w' := by
  obtain ⟨-, -, -, hC, -, hcells, -⟩ := ho.at
  have hru : Rd w (some ⟨g, 0, none⟩) l := fun j hj => ⟨g, 0, rfl, by
    rw [Nat.zero_add, hcells j (by omega), List.getElem?_append_left hj]⟩
  have h170 : w.cell? ⟨g, n, none⟩ = some (.int .u8 170) := by rw [hcells n (by omega), List.getElem?_append_right (by omega)]; simp [hl]
  have h85 : w.cell? ⟨g, n + 1, none⟩ = some (.int .u8 85) := by rw [hcells (n + 1) (by omega), List.getElem?_append_right (by omega)]; simp [hl]
  have hsame := Lib.hid (same_true (some ⟨g, 0, none⟩) ao n n C cap l l w rfl hl hl (by omega) (by omega) hru hr)
  have Hhl := Lib.hid hl
  clear hl
  clear hcells ho hr hru
  go_enter Try.func23, Try.ntmps23
  go_wp2_with fail
  refine hsame.out.mono ?_
  rintro e w1 ⟨rfl, hd⟩
  have h170' := (hd.cell _).trans h170
  have h85' := (hd.cell _).trans h85
  clear h170 h85
  go_wp2_with fail
  go_ret
  exact ⟨rfl, hd⟩
end Go.Proofs.Ytdkjkdlpkjklmaa
