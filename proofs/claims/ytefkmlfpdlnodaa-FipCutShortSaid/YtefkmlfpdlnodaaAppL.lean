/- append(a, b...) of bytes where the two together may pass 2^47 a little. No condition. -/
import Derived.Test.YtefkmlfpdlnodaaAppZ
set_option linter.unusedVariables false
set_option linter.unusedSimpArgs false
namespace Go.Proofs.Ytefkmlfpdlnodaa
open Go.RowKit
theorem growBy_le (n : Nat) : ∀ r c, Builtin.growBy n r c ≤ max c (n + (n + 768) / 4)
  | 0, c => by rw [Builtin.growBy]; exact Nat.le_max_left _ _
  | r + 1, c => by
    rw [Builtin.growBy]
    split
    · exact Nat.le_max_left _ _
    · rename_i h
      have := growBy_le n r (c + (c + 768) / 4)
      omega
theorem next_le {need old : Nat} (h : old < need) : Builtin.nextslicecap need old ≤ need + (need + 768) / 4 + 512 := by
  unfold Builtin.nextslicecap
  split
  · omega
  · split
    · omega
    · have := growBy_le need 4 old
      omega
theorem run_append_long (w : World) (ty : TypeId) (B : Nat) (v : Value) (l : List UInt8) (hown : Own 5 w B v l) (ad : Addr) (m c : Nat) (l2 : List UInt8) (hl2 : l2.length = m) (hr2 : Rd w (some ad) l2) (hlen : l.length + m ≤ 180000000000000) (hB : B ≤ w.heap.size) (hne : 0 < l.length) :
    ∃ v' w', (Builtin.append_ #[22, 22] ty #[v, .slice (some ad) m c]).run Try.prog w = .ok v' w' ∧ Own 5 w' B v' (l ++ l2) ∧ Gr w w' v v' := by
  obtain ⟨i, hi, hz0, hz1, hz2⟩ := info_parts byteRow.info
  have hcl : ((l ++ l2).map bv).length = (l ++ l2).length * 1 := by simp
  have hll : (l ++ l2).length = l.length + m := by simp [hl2]
  rcases hown.2 with ⟨_, h⟩ | ⟨g, cap, cur, rfl, hbg, hg, hnc, hcm, hcs, htake⟩
  · omega
  · by_cases hroom : l.length + m ≤ cap
    · have hr := run_append_room (P := Try.prog) w 22 ty 5 i Try.underlying22 hi g l.length cap cur hg ad m c (l2.map bv) (by simp [hz1, hl2]) hr2.news (bv_one _) hroom (by rw [hz1, List.length_map, hcs]; omega)
      rw [hz1] at hr
      refine ⟨_, _, hr, ⟨hcl, .inr ⟨g, cap, _, by rw [hll], hbg, setRow_heap w g cur _ _ _ hg, by rw [hll]; exact hroom, hcm, ?_, ?_⟩⟩, ⟨⟨rfl, rfl, rfl, by simp, fun k hk hne => setRow_other w g k _ (fun e => hne (by simp [Value.ownBlock, e]))⟩, fun q hq => Or.inl hq⟩⟩
      · simp only [List.size_toArray, List.length_append, List.length_take, List.length_drop, Array.length_toList, List.length_map, hcs]
        omega
      · rw [List.map_append, htake, hll]
        have : (l.length + m) * 1 = (l.map bv ++ l2.map bv).length := by simp [hl2]
        rw [this]
        exact List.take_left
    · have hr := run_append_grow (P := Try.prog) w 22 ty 5 i (.int .u8 0) Try.underlying22 hi hz0 ⟨g, 0, none⟩ l.length cap (l.map bv) (by simp [hz1]) (hown.cells (g := g) rfl) ad m c (l2.map bv) (by simp [hz1, hl2]) hr2.news (by omega) (by omega)
        (by rw [hz2]; have := next_le (need := l.length + m) (old := cap) (by omega); omega)
      have hge := grownCap_ge w (l.length + m) cap 5
      have hcm2 : grownCap w (l.length + m) cap 5 ≤ maxLen := grownCap_le_maxLen w (l.length + m) cap _ (by simp only [maxLen]; omega)
      refine ⟨_, _, hr, ⟨hcl, .inr ⟨w.heap.size, _, _, by rw [hll], hB, heap_alloc_new w.drew _, by rw [hll]; exact hge, hcm2, ?_, ?_⟩⟩, ⟨⟨rfl, rfl, rfl, by simp, fun k hk _ => Below.heap_alloc w.drew _ k hk⟩, fun q hq => by cases hq; exact Or.inr (Nat.le_refl _)⟩⟩
      · have hzs : (Value.int .u8 0).cells.size = 1 := rfl
        simp only [Array.size_append, List.size_toArray, size_zeroCells, hzs, List.length_map]
        omega
      · rw [List.map_append, hll]
        simp only [Array.toList_append]
        have : (l.length + m) * 1 = (l.map bv ++ l2.map bv).length := by simp [hl2]
        rw [this]
        exact List.take_left
end Go.Proofs.Ytefkmlfpdlnodaa
