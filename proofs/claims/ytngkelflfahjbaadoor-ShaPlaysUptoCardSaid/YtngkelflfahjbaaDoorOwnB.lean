/- Chapter 2's law: own, still. No condition. -/
import Derived.Test.YtngkelflfahjbaaDoorShaF
import Derived.Test.YtngkelflfahjbaaDoorSame2
set_option linter.unusedVariables false
set_option linter.unusedSimpArgs false
namespace Go.Proofs.YtngkelflfahjbaaDoor
open Go.RowKit
set_option maxHeartbeats 400000 in
theorem own_any (ao : Option Addr) (n cap : Nat) (l : List UInt8) (w : World) (hl : l.length = n) (hn : n ≤ 140737488352000) (hc : ao = none → cap = 0) (hr : Rd w ao l) :
    Calls Tryd.prog 10 #[.slice ao n cap] w fun e w' => ∃ g C, e = .returned (.slice (some ⟨g, 0, none⟩) n C) ∧ n + 1 ≤ C ∧ C ≤ 9223372036854775807 ∧ Own 5 w' w.heap.size (.slice (some ⟨g, 0, none⟩) (n + 1) C) (l ++ [77]) ∧ Below w.heap.size w w' := by
  have hr' := fun o => Lib.hid (hr.below ((Below.refl _ w).alloc (Nat.le_refl _) o))
  have hm := Lib.hid (Own.made0 5 w w.heap.size (Nat.le_refl _))
  have Hhl := Lib.hid hl
  clear hl
  have Hhc := Lib.hid hc
  clear hc
  clear hr
  go_enter Tryd.func10, Tryd.ntmps10
  go_wp2_with (at_builtin; refine wpList_append_gr byteRow02 rfl _ _ rfl w.heap.size _ [] rfl hm.out ao n cap l rfl Hhl.out (hr' _).out Hhc.out ?c1 ?c2 ?_)
  case c1 => simp; omega
  case c2 => simp
  intro v w1 hown hgr
  have hb : Below w.heap.size w w1 := ((Below.refl _ _).alloc (Nat.le_refl _) _).grown hgr.g (by simp) (by intro k hk; cases hk; exact Nat.le_refl _)
  clear hgr hr' hm
  have hs := hb.size
  go_wp2_with (at_builtin; refine wpList_append_at byteRow02 rfl _ _ rfl w.heap.size v l rfl (hown.alloc _) ⟨w1.heap.size, 0, none⟩ 1 1 [77] rfl rfl (Rd.new w1 [77] _ _) ?d1 ?d2 (n + 1) ?d3 (by omega) ?_)
  case d1 => rw [Hhl.out]; omega
  case d2 => simp; omega
  case d3 => rw [Hhl.out]
  intro g C w2 hown2 hgr2 _
  have hb2 : Below w.heap.size w w2 := (hb.alloc hs _).grown hgr2 (by simp; omega) (fun k hk => (own_blk hown hk).1)
  obtain ⟨-, -, -, hC, hC2, -⟩ := hown2.at
  have hsl := slice_bytes_block byteRow02 (some ⟨g, 0, none⟩) (n + 1) C n (by omega) .i64
  clear hgr2 hown hb
  go_wp2_with fail
  go_ret
  exact ⟨g, C, rfl, hC, by simpa [maxLen] using hC2, hown2, hb2⟩
theorem Own.lend {w : World} {B g n C : Nat} {l : List UInt8} {c : UInt8} (h : Own 5 w B (.slice (some ⟨g, 0, none⟩) (n + 1) C) (l ++ [c])) (hl : l.length = n) : Rd w (some ⟨g, 0, none⟩) l ∧ w.cell? ⟨g, n, none⟩ = some (.int .u8 c.toNat) := by
  obtain ⟨-, -, -, -, -, hc, -⟩ := h.at
  refine ⟨fun j hj => ⟨g, 0, rfl, ?_⟩, ?_⟩
  · rw [Nat.zero_add, hc j (by omega), List.getElem?_append_left hj]
  · rw [hc n (by omega), ← hl]; simp
set_option maxHeartbeats 400000 in
theorem still_any (bo : Option Addr) (g n C cap B : Nat) (l : List UInt8) (w : World) (hl : l.length = n) (hn : n ≤ 140737488352000) (hC : n + 1 ≤ C) (hr : Rd w bo l)
    (ho : Own 5 w B (.slice (some ⟨g, 0, none⟩) (n + 1) C) (l ++ [77])) :
    Calls Tryd.prog 14 #[.slice (some ⟨g, 0, none⟩) n C, .slice bo n cap] w fun e w' => e = .returned (.bool true) ∧ Drn w w' := by
  obtain ⟨h1, h2⟩ := ho.lend hl
  have Hsm := Lib.hid (same2_true (some ⟨g, 0, none⟩) bo n n C cap l l w rfl hl hl (by omega) (by omega) h1 hr)
  have hsl := slice_bytes_block byteRow02 (some ⟨g, 0, none⟩) n C (n + 1) hC .i64
  have q1 : IntKind.i64.wrap ((n : Int) + 1) = ((n + 1 : Nat) : Int) := by rw [IntWalk.i64_in _ (by omega)]; omega
  have q2 : (n : Int) < ((n + 1 : Nat) : Int) := by omega
  generalize n + 1 = n1 at *
  have hc : w.cell? ⟨g, n, none⟩ = some (.int .u8 77) := h2
  clear hl hr ho h1 h2
  go_enter Tryd.func14, Tryd.ntmps14
  go_wp2_with fail
  refine Hsm.out.mono ?_
  rintro e w1 ⟨rfl, hd⟩
  have hc1 : w1.cell? ⟨g, n, none⟩ = some (.int .u8 77) := (hd.cell _).trans hc
  clear hc
  go_wp2_with fail
  go_ret
  exact ⟨rfl, hd⟩
end Go.Proofs.YtngkelflfahjbaaDoor
