/- The document's numbers behind some bytes. No condition. -/
import Derived.Test.YtefkmlfpdlnodaaFipB
set_option linter.unusedVariables false
set_option linter.unusedSimpArgs false
namespace Go.Proofs.Ytefkmlfpdlnodaa
open Go.RowKit
/-- only a list's own block is touched; where the new list lies -/
structure Gr (w w' : World) (v v' : Value) : Prop where
  g : w.grownBy w' v.ownBlock
  k : ∀ q, v'.ownBlock = some q → v.ownBlock = some q ∨ w.heap.size ≤ q
theorem Gr.refl (w : World) (v : Value) : Gr w w v v := ⟨World.grownBy.refl _ _, fun q h => Or.inl h⟩
theorem Gr.trans {w w1 w2 : World} {v v1 v2 : Value} (h1 : Gr w w1 v v1) (h2 : Gr w1 w2 v1 v2) : Gr w w2 v v2 := by
  refine ⟨⟨h2.g.os.trans h1.g.os, h2.g.tape.trans h1.g.tape, h2.g.output.trans h1.g.output, Nat.le_trans h1.g.size h2.g.size, fun k hk hne => ?_⟩, fun q hq => ?_⟩
  · rw [h2.g.block k (Nat.lt_of_lt_of_le hk h1.g.size) (fun e => ?_)]
    · exact h1.g.block k hk hne
    · rcases h1.k k e.symm with h | h
      · exact hne h.symm
      · omega
  · rcases h2.k q hq with h | h
    · exact h1.k q h
    · exact Or.inr (Nat.le_trans h1.g.size h)
theorem Gr.below {w w' : World} {v v' : Value} {B : Nat} {l : List UInt8} (h : Gr w w' v v') (ho : Own 5 w B v l) (hB : B ≤ w.heap.size) : Below B w w' :=
  (Below.refl B w).grown h.g hB (fun q hq => (own_blk ho hq).1)
theorem encL_snoc (j v : Nat) : encL (j + 1) false v = encL j false v ++ [UInt8.ofNat (v / 256 ^ j)] := by
  unfold encL
  rw [List.range_succ, List.map_append]
  rfl
structure RPutIn (B : Nat) (v : Value) (l : List UInt8) (k val : Nat) (w : World) (b x i : Value) (wr : World) : Prop where
  x : ∃ (j : Nat) (u : Value), j ≤ k ∧ i = .int .i64 j ∧ u = b ∧ x = .int .u64 ((val / 256 ^ j : Nat) : Int) ∧ Own 5 wr B u (l ++ encL j false val) ∧ Gr w wr v u ∧ B ≤ wr.heap.size
set_option maxHeartbeats 400000 in
theorem rput_any (B : Nat) (v : Value) (l : List UInt8) (k val : Nat) (w : World) (ho : Own 5 w B v l) (hk : k ≤ 8) (hv : val < 18446744073709551616) (hB : B ≤ w.heap.size) (hl : l.length ≤ 1000000) :
    Calls Try.prog 29 #[v, .int .i64 k, .int .u64 (val : Int)] w fun e w' => ∃ v', e = .returned v' ∧ Own 5 w' B v' (l ++ encL k false val) ∧ Gr w w' v v' ∧ B ≤ w'.heap.size := by
  have Ho := Lib.hid ho
  have HB := Lib.hid hB
  have Hv := Lib.hid hv
  clear ho hB hv
  go_enter Try.func29, Try.ntmps29
  go_wp2_with fail
  go_loopw [0, 2, 7] (fun b x i wr => RPutIn B v l k val w b x i wr) (fun _ _ i _ => k - (intOf i).toNat)
  case atStart => exact ⟨0, v, by omega, rfl, rfl, by simp, by simpa [encL] using Ho.out, Gr.refl _ _, HB.out⟩
  case round =>
    obtain ⟨j, u, hj, rfl, rfl, rfl, hown, hgr, hs⟩ := hrel
    have HO := Lib.hid hown
    have HG := Lib.hid hgr
    have Hs := Lib.hid hs
    clear hown hgr hs
    by_cases hlt : j < k
    · obtain ⟨V, hV⟩ : ∃ V : Nat, val / 256 ^ j = V := ⟨_, rfl⟩
      have HV2 : Hid (val / 256 ^ (j + 1) = V / 256) := Lib.hid (by rw [Nat.pow_succ, ← Nat.div_div_eq_div_mul, hV])
      have Hen : Hid (encL (j + 1) false val = encL j false val ++ [UInt8.ofNat V]) := Lib.hid (by rw [encL_snoc, hV])
      rw [hV]
      obtain ⟨c, hc⟩ : ∃ c : UInt8, UInt8.ofNat V = c := ⟨_, rfl⟩
      have r0 : (c.toNat : Int) = ((V % 256 : Nat) : Int) := by rw [← hc]; simp
      rw [hc] at Hen
      have f1 : (j : Int) < (k : Int) := by omega
      have r1 : (V : Int).tmod 256 = (c.toNat : Int) := by rw [r0]; rw [Int.tmod_eq_emod_of_nonneg (by omega)]; omega
      have r2 : (V : Int) % 256 = (c.toNat : Int) := by rw [r0]; omega
      obtain ⟨V2, hv2⟩ : ∃ V2 : Nat, V / 256 = V2 := ⟨_, rfl⟩
      have r4 : (V : Int) / 256 = (V2 : Int) := by omega
      have r3 : (V : Int).tdiv 256 = (V2 : Int) := by rw [Int.tdiv_eq_ediv_of_nonneg (by omega)]; exact r4
      rw [hv2] at HV2
      have hvl : V ≤ val := by rw [← hV]; exact Nat.div_le_self _ _
      have r6 : IntKind.u64.wrap (V2 : Int) = (V2 : Int) := IntWalk.u64_in _ (by have := Hv.out; omega)
      have hcl := c.toNat_lt
      have r5 : IntKind.u8.wrap (c.toNat : Int) = (c.toNat : Int) := by simp [IntKind.wrap, IntKind.bits, IntKind.signed]; omega
      have Hnew := Lib.hid (HO.out.alloc (.cells #[.int .u8 c.toNat] 5))
      clear hc r0 hV hcl hv2 hvl

      go_wp2_with (at_builtin; refine wpList_append_at byteRow rfl _ _ rfl B u (l ++ encL j false val) rfl Hnew.out ⟨wr.heap.size, 0, none⟩ 1 1 [c] rfl rfl (Rd.new wr [c] _ _) ?c1 ?c2 (l.length + j + 1) ?c3 (by omega) ?_)
      case c1 => rw [List.length_append, encL_length]; omega
      case c2 => exact Nat.le_trans Hs.out (by simp)
      case c3 => rw [List.length_append, encL_length]
      intro g C w2 ho2 hg2 hk2
      have HO2 : Hid (Own 5 w2 B (.slice (some ⟨g, 0, none⟩) (l.length + j + 1) C) (l ++ encL (j + 1) false val)) := Lib.hid (by rw [Hen.out]; exact ho2)
      have HG2 := Lib.hid (HG.out.trans (v2 := .slice (some ⟨g, 0, none⟩) (l.length + j + 1) C) (w2 := w2) ⟨(grown_alloc wr (.cells #[.int .u8 c.toNat] 5) u.ownBlock).trans hg2, fun q hq => by
        cases hq
        rcases hk2 with h | h
        · exact Or.inl h.symm
        · right; rw [h]; simp⟩)
      have Hs2 : Hid (B ≤ w2.heap.size) := Lib.hid (Nat.le_trans Hs.out (Nat.le_trans (by simp) hg2.size))
      clear ho2 hg2 hk2
      go_wp2_with fail
      first
      | (go_roundw
         case rel => exact ⟨j + 1, _, by omega, by go_num, rfl, by rw [HV2.out], HO2.out, HG2.out, Hs2.out⟩
         case measure => (first | omega | (simp [intOf] <;> omega) | (simp only [intOf] <;> omega)))
      | exact ⟨⟨j + 1, _, by omega, by go_num, rfl, by rw [HV2.out], HO2.out, HG2.out, Hs2.out⟩, by (first | omega | (simp [intOf] <;> omega) | (simp only [intOf] <;> omega))⟩
      | (refine ⟨?_, by (first | omega | (simp [intOf] <;> omega) | (simp only [intOf] <;> omega))⟩
         (repeat apply Exists.intro)
         refine (fun a b => And.intro b a) ?_ ?_
         · first | rfl | ((repeat refine ⟨rfl, ?_⟩); rfl)
         exact ⟨j + 1, _, by omega, by go_num, rfl, by rw [HV2.out], HO2.out, HG2.out, Hs2.out⟩)
    · obtain rfl : j = k := by omega
      obtain ⟨V, hV⟩ : ∃ V : Nat, val / 256 ^ j = V := ⟨_, rfl⟩
      rw [hV]
      clear hV
      go_wp2_with fail
      go_ret
      exact ⟨_, rfl, HO.out, HG.out, Hs.out⟩
end Go.Proofs.Ytefkmlfpdlnodaa
