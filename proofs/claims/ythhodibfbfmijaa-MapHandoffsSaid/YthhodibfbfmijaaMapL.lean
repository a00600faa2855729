/- The law's own helpers: own, still. No condition. -/
import Derived.Test.YthhodibfbfmijaaMapO
set_option linter.unusedVariables false
set_option linter.unusedSimpArgs false
namespace Go.Proofs.Ythhodibfbfmijaa
open Go.RowKit
def m77 : Rg := ⟨77, 0, false, false, false, false⟩
theorem RdG.new1 (w : World) (g : Rg) (t : TypeId) : RdG (w.alloc (.cells #[.int .u64 g.base, .int .u64 g.size, .bool g.r, .bool g.w, .bool g.x, .bool g.s] t)) (some ⟨w.heap.size, 0, none⟩) [g] := by
  intro j hj
  obtain rfl : j = 0 := by simpa using hj
  refine ⟨w.heap.size, 0, rfl, by simp, fun i v hi => ?_⟩
  have h := (Blk.new w (rgc g) t).2.1 i v hi
  rw [show 0 + 0 * 6 + i = i by omega]
  exact h
theorem OwnG.pos {w : World} {B n : Nat} {v : Value} {l : List Rg} (h : OwnG w B v l) (hl : l.length = n) (h0 : 0 < n) :
    ∃ g C, v = .slice (some ⟨g, 0, none⟩) n C ∧ B ≤ g ∧ g < w.heap.size ∧ n ≤ C := by
  rcases h.cases with ⟨_, h⟩ | ⟨g, C, h, h1, h2, h3, _⟩
  · subst h; simp at hl; omega
  · subst hl; exact ⟨g, C, h, h1, h2, h3⟩
set_option maxHeartbeats 400000 in
theorem own_any (ao : Option Addr) (n cap : Nat) (l : List Rg) (w : World) (hl : l.length = n) (hn : n * 24 ≤ 140737488351232) (hc : ao = none → cap = 0) (hr : RdG w ao l) :
    Calls Try.prog 10 #[.slice ao n cap] w fun e w' => ∃ g C, e = .returned (.slice (some ⟨g, 0, none⟩) n C) ∧ n + 1 ≤ C ∧ OwnG w' w.heap.size (.slice (some ⟨g, 0, none⟩) (n + 1) C) (l ++ [m77]) ∧ Below w.heap.size w w' := by
  have hr' := fun o => Lib.hid (hr.below ((Below.refl _ w).alloc (Nat.le_refl _) o))
  have hm := Lib.hid (OwnG.made0 w w.heap.size (Nat.le_refl _))
  have Hhl := Lib.hid hl
  clear hl
  have Hhc := Lib.hid hc
  clear hc
  clear hr
  go_enter Try.func10, Try.ntmps10
  go_wp2_with (at_builtin; refine wpList_append_G rfl _ _ rfl w.heap.size _ [] rfl hm.out _ n cap l rfl Hhc.out Hhl.out (hr' _).out ?c1 ?c2 ?_)
  case c1 => simp; omega
  case c2 => simp
  intro v w1 hown hgr
  have hb : Below w.heap.size w w1 := ((Below.refl _ _).alloc (Nat.le_refl _) _).grown hgr (by simp) (by intro k hk; cases hk; exact Nat.le_refl _)
  clear hgr hr' hm
  have hs := hb.size
  go_wp2_with (at_builtin; refine wpList_append_G rfl _ _ rfl w.heap.size v l rfl (hown.alloc _) _ 1 1 [m77] rfl ?d0 rfl (RdG.new1 w1 m77 _) ?d1 ?d2 ?_)
  case d0 => intro h; cases h
  case d1 => have := Hhl.out; omega
  case d2 => simp; omega
  intro v2 w2 hown2 hgr2
  have hb2 : Below w.heap.size w w2 := (hb.alloc hs _).grown hgr2 (by simp; omega) hown.block
  obtain ⟨g, C, rfl, hg, hg1, hC⟩ := hown2.pos (n := n + 1) (by simp; exact Hhl.out) (by omega)
  clear hgr2 hown hb
  go_wp2_with fail
  go_ret
  exact ⟨g, C, rfl, hC, hown2, hb2⟩
theorem gAt_left {l m : List Rg} {j : Nat} (h : j < l.length) : gAt (l ++ m) j = gAt l j := by
  unfold gAt; rw [List.getElem?_append_left h]
theorem gAt_end (l : List Rg) (g : Rg) : gAt (l ++ [g]) l.length = g := by
  unfold gAt; simp
theorem OwnG.lend {w : World} {B g n C : Nat} {l : List Rg} (h : OwnG w B (.slice (some ⟨g, 0, none⟩) (n + 1) C) (l ++ [m77])) (hl : l.length = n) : RdG w (some ⟨g, 0, none⟩) l ∧ w.cell? ⟨g, n * 6, none⟩ = some (.int .u64 77) := by
  rcases h.cases with ⟨h1, _⟩ | ⟨g', C', h1, _, hg, _, _, hc, _⟩
  · cases h1
  · simp only [Value.slice.injEq, Option.some.injEq, Addr.mk.injEq, and_true] at h1
    obtain ⟨rfl, -, rfl⟩ := h1
    refine ⟨fun j hj => ⟨g, 0, rfl, hg, fun i v hi => ?_⟩, ?_⟩
    · rw [Nat.zero_add]
      exact hc j (by simp; omega) i v (by rw [gAt_left hj]; exact hi)
    · have := hc n (by simp; omega) 0 (.int .u64 77) (by rw [← hl, gAt_end]; rfl)
      simpa using this
set_option maxHeartbeats 400000 in
theorem still_any (ao : Option Addr) (g n C cap B : Nat) (l : List Rg) (w : World) (hl : l.length = n) (hn : n ≤ 140737488351232) (hC : n + 1 ≤ C) (hr : RdG w ao l)
    (ho : OwnG w B (.slice (some ⟨g, 0, none⟩) (n + 1) C) (l ++ [m77])) :
    Calls Try.prog 13 #[.slice (some ⟨g, 0, none⟩) n C, .slice ao n cap] w fun e w' => e = .returned (.bool true) ∧ Drn w w' := by
  obtain ⟨hru, h77⟩ := ho.lend hl
  have hsame := Lib.hid (sameG_any (some ⟨g, 0, none⟩) ao n n C cap l l w hl hl (by omega) (by omega) hru hr)
  rw [decide_eq_true rfl] at hsame
  have Hhl := Lib.hid hl
  clear hl
  clear ho hr hru
  go_enter Try.func13, Try.ntmps13
  go_wp2_with fail
  refine hsame.out.mono ?_
  rintro e w1 ⟨rfl, hd⟩
  have h77' := (hd.cell _).trans h77
  clear h77
  go_wp2_with fail
  go_ret
  exact ⟨rfl, hd⟩
end Go.Proofs.Ythhodibfbfmijaa
