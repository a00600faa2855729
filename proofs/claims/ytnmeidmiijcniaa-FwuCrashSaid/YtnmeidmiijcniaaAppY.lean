/- append(b, make([]byte, k)...) onto bytes of the call's own. No condition. -/
import Derived.Test.YtnmeidmiijcniaaByte
import Derived.Test.YtnmeidmiijcniaaGr
import Derived.Lib.AppendZerosOnto
set_option linter.unusedVariables false
set_option linter.unusedSimpArgs false
namespace Go.Proofs.Ytnmeidmiijcniaa
open Go.RowKit
section
variable {P : Program} (w : World)
theorem run_append_room_zeros (t tn ty e : TypeId) (i : TypeInfo) (z : Value) (kq kn : IntKind) (ht : P.underlying t = some (.slice e)) (htn : P.underlying tn = some (.int kn)) (hi : P.info? e = some i) (hz : i.zero = some z)
    (g sLen sCap : Nat) (cur : Array Value) (hg : w.heap[g]? = some (.cells cur e (0, 0))) (k : Nat) (h0 : 0 < k) (hs : 0 < i.size) (hk63 : k ≤ 1000000) (hby : k * i.bytes ≤ 281474976710656)
    (news : List Value) (hn : (Builtin.zeroCells z.cells k).toList = news) (hl : news.length = k * i.size) (h1 : ∀ u ∈ news, u.oneCell' = true)
    (hroom : sLen + k ≤ sCap) (hfit : sLen * i.size + news.length ≤ cur.size) :
    (Builtin.append_ #[t, tn] ty #[.slice (some ⟨g, 0, none⟩) sLen sCap, .int kq k]).run P w =
      .ok (.slice (some ⟨g, 0, none⟩) (sLen + k) sCap) (w.setRow g (cur.toList.take (sLen * i.size) ++ news ++ cur.toList.drop (sLen * i.size + news.length)).toArray) := by
  have hk : k ≠ 0 := by omega
  have hw : IntKind.i64.wrap (k : Int) = k := by rw [IntKind.wrap_i64]; omega
  have hneg : ¬ ((k : Int) < 0) := by omega
  have hns : ¬ (k * i.size = 0) := Nat.mul_ne_zero hk (by omega)
  have h48i : ¬ (281474976710656 < (k : Int) * (i.bytes : Int)) := by
    rw [← Int.natCast_mul]
    omega
  have hst := run_storeCells_at P g (sLen * i.size) e news 0 cur w hg (by simpa using hfit) h1
  simp only [Nat.add_zero] at hst
  simp [Builtin.append_, run_underlying ht, run_underlying htn, sizeOf, typeInfo, zeroValue, hi, hz, asInt, asIntOf, hw, hk, hneg, hns, h48i, hroom, hn, Addr.add_lit, hst]
end
theorem zeroCells_u8 (k : Nat) : (Builtin.zeroCells (Value.int .u8 0).cells k).toList = List.replicate k (Value.int .u8 0) := by
  rw [List.eq_replicate_iff]
  refine ⟨by simp [Builtin.zeroCells, Value.cells], fun b hb => ?_⟩
  simp [Builtin.zeroCells, Value.cells] at hb
  obtain ⟨j, _, rfl⟩ := hb
  simp [Nat.mod_one]
theorem run_append_zeros (w : World) (ty : TypeId) (B : Nat) (v : Value) (l : List UInt8) (hown : Own 5 w B v l) (k : Nat) (h0 : 0 < k) (hk : k ≤ 1000000) (hl : l.length ≤ 10000000) (hB : B ≤ w.heap.size) (hne : 0 < l.length) :
    ∃ v' w', (Builtin.append_ #[27, 3] ty #[v, .int .i64 k]).run Try.prog w = .ok v' w' ∧ Own 5 w' B v' (l ++ List.replicate k 0) ∧ Gr w w' v v' := by
  obtain ⟨i, hi, hz0, hz1, hz2⟩ := info_parts byteRow.info
  have hrep : (List.replicate k (0 : UInt8)).map bv = List.replicate k (Value.int .u8 0) := by rw [List.map_replicate]; rfl
  have hlen : ((l ++ List.replicate k (0 : UInt8)).map bv).length = (l ++ List.replicate k (0 : UInt8)).length * 1 := by simp
  have hll : (l ++ List.replicate k (0 : UInt8)).length = l.length + k := by simp
  rcases hown.2 with ⟨_, h⟩ | ⟨g, cap, cur, rfl, hbg, hg, hnc, hcm, hcs, htake⟩
  · omega
  · by_cases hroom : l.length + k ≤ cap
    · have hr := run_append_room_zeros (P := Try.prog) w 27 3 ty 5 i (.int .u8 0) .i64 .i64 Try.underlying27 Try.underlying3 hi hz0 g l.length cap cur hg k h0 (by omega) hk (by rw [hz2]; omega)
        (List.replicate k (Value.int .u8 0)) (zeroCells_u8 k) (by simp [hz1]) (fun u hu => by rw [List.mem_replicate] at hu; rw [hu.2]; rfl) hroom (by rw [hz1, List.length_replicate, hcs]; omega)
      rw [hz1] at hr
      refine ⟨_, _, hr, ⟨hlen, .inr ⟨g, cap, _, by rw [hll], hbg, setRow_heap w g cur _ _ _ hg, by rw [hll]; exact hroom, hcm, ?_, ?_⟩⟩, ⟨⟨rfl, rfl, rfl, by simp, fun k hk hne => setRow_other w g k _ (fun e => hne (by simp [Value.ownBlock, e]))⟩, fun q hq => Or.inl hq⟩⟩
      · simp only [List.size_toArray, List.length_append, List.length_take, List.length_drop, Array.length_toList, List.length_replicate, hcs]
        omega
      · rw [List.map_append, hrep, htake, hll]
        have : (l.length + k) * 1 = (l.map bv ++ List.replicate k (Value.int .u8 0)).length := by simp
        rw [this]
        exact List.take_left
    · have holds := hown.cells (g := g) rfl
      have hold := run_firstCells_some (P := Try.prog) w.drew i.size l.length ⟨g, 0, none⟩ l.length cap (l.map bv) (by simp [hz1]) holds
      have hr := Go.Lib.run_append_grow_zeros (P := Try.prog) w 27 3 ty 5 i (.int .u8 0) .i64 .i64 Try.underlying27 Try.underlying3 hi hz0 (some ⟨g, 0, none⟩) l.length cap (l.map bv) hold k h0 (by omega) (by omega) (by omega) (by rw [hz2]; omega)
        (growslice_fits (by omega) (by rw [hz2]; omega))
      have hge := grownCap_ge w (l.length + k) cap 5
      have hcm2 : grownCap w (l.length + k) cap 5 ≤ maxLen := grownCap_le_maxLen w (l.length + k) cap _ (by simp only [maxLen]; omega)
      refine ⟨_, _, hr, ⟨hlen, .inr ⟨w.heap.size, _, _, by rw [hll], hB, heap_alloc_new w.drew _, by rw [hll]; exact hge, hcm2, ?_, ?_⟩⟩, ⟨⟨rfl, rfl, rfl, by simp, fun k hk _ => Below.heap_alloc w.drew _ k hk⟩, fun q hq => by cases hq; exact Or.inr (Nat.le_refl _)⟩⟩
      · have hzs : (Value.int .u8 0).cells.size = 1 := rfl
        simp only [Array.size_append, List.size_toArray, size_zeroCells, hzs, List.length_map]
        omega
      · rw [List.map_append, hrep, hll]
        simp only [Array.toList_append, zeroCells_u8]
        have : (l.length + k) * 1 = (l.map bv ++ List.replicate k (Value.int .u8 0)).length := by simp
        rw [this]
        exact List.take_left
end Go.Proofs.Ytnmeidmiijcniaa
