/- A new hash of the program. No condition. -/
import Derived.Test.YtngkelflfahjbaaDoorShaI
set_option linter.unusedVariables false
set_option linter.unusedSimpArgs false
namespace Go.Proofs.YtngkelflfahjbaaDoor
open Go.RowKit
def buildHs (ps : Array (Nat × Value)) : Sem Value := Instr.build 67 ps
theorem build_hs (ps : Array (Nat × Value)) : Instr.build 67 ps = buildHs ps := rfl
theorem run_buildHs (k : Nat) (hk : k = 1 ∨ k = 2 ∨ k = 3) (w : World) : (buildHs #[(0, .agg (kdC k).toArray), (1, .agg ((s8l (firstK k)).map u64v).toArray)]).run Tryd.prog w = .ok (.agg (hashC k (firstK k) 0 (.slice none 0 0)).toArray) w := by
  rcases hk with rfl | rfl | rfl <;> kernel_rfl
attribute [local go_sem ↓] build_hs
def kzz : List Value := [.int .u8 0, .bool false, .int .i64 0, .int .u64 0, .int .u64 0, .int .u64 0, .int .u64 0, .int .u64 0, .int .u64 0, .int .u64 0, .int .u64 0]
structure NeIn (k : Nat) (w : World) (i : Value) (wr : World) : Prop where
  x : ∃ t : Nat, t < k ∧ i = .int .i64 (t : Nat) ∧ Below w.heap.size w wr
theorem kd_one (k : Nat) : (kdC k).toArray.all (·.oneCell') = true := by simp [kdC, s8l, u64v, Value.oneCell']
theorem dig_inj {t k : Nat} (hk : 1 ≤ k ∧ k ≤ 3) (ht : t < k) : (digK (t + 1) = digK k ↔ t + 1 = k) := by
  rcases (by omega : k = 1 ∨ k = 2 ∨ k = 3) with rfl | rfl | rfl
  · obtain rfl : t = 0 := by omega
    decide
  · rcases (by omega : t = 0 ∨ t = 1) with rfl | rfl <;> decide
  · rcases (by omega : t = 0 ∨ t = 1 ∨ t = 2) with rfl | rfl | rfl <;> decide
set_option maxRecDepth 100000 in
set_option maxHeartbeats 1000000 in
theorem new_any (k : Nat) (w : World) (hk : 1 ≤ k ∧ k ≤ 3) :
    Calls Tryd.prog 30 #[.int .i64 ((8 * digK k : Nat) : Int)] w fun e w' => ∃ H, e = .returned (.tuple #[.pointer (some ⟨H, 0, none⟩), .int .i64 0]) ∧ HB w' H 67 (hashC k (firstK k) 0 (.slice none 0 0)) ∧ w.heap.size ≤ H ∧ Below w.heap.size w w' := by
  have hz : ∀ w, (zeroValue 65).run Tryd.prog w = .ok (.agg kzz.toArray) w := fun w => by kernel_rfl
  have Hk := Lib.hid hk
  have Hi3 : Hid (∀ t : Nat, t < 3 → ∀ w, (Instr.index 70 (.agg kall.toArray) (.int .i64 (t : Int))).run Tryd.prog w = .ok (.agg (kdC (t + 1)).toArray) w) := Lib.hid (fun t ht w => by
    rcases (by omega : t = 0 ∨ t = 1 ∨ t = 2) with rfl | rfl | rfl <;> kernel_rfl)
  have Hik : Hid (∀ j, (Tryd.prog.info? 65).map (·.size) = some (kdC j).toArray.size) := Lib.hid (fun j => by show _ = some 11; kernel_rfl)
  have Hik' : Hid (∀ j, (Tryd.prog.info? 65).map (·.size) = some (kdC j).length) := Lib.hid (fun j => by show _ = some 11; kernel_rfl)
  have Hi8 : Hid ((Tryd.prog.info? 63).map (·.size) = some ((s8l (firstK k)).map u64v).length) := Lib.hid (by rw [List.length_map]; kernel_rfl)
  obtain ⟨D, hD⟩ : ∃ D, 8 * digK k = D := ⟨_, rfl⟩
  have HD := Lib.hid hD
  rw [hD]
  clear hk hD
  go_enter Tryd.func30, Tryd.ntmps30
  go_wp2_with fail
  refine (kinds_any w).mono ?_
  rintro e w1 ⟨rfl, hb1⟩
  have HB1 := Lib.hid hb1
  clear hb1
  go_wp2_with fail
  as_aux_lemma =>
  go_loopw [5, 7] (fun _ i wr => NeIn k w i wr) (fun _ i _ => 3 - (intOf i).toNat)
  case atStart => exact ⟨0, by have := Hk.out; omega, rfl, HB1.out⟩
  case round =>
    as_aux_lemma =>
    clear HB1
    obtain ⟨t, ht, rfl, hb⟩ := hrel
    have HBw := Lib.hid hb
    have ht3 : t < 3 := by have := Hk.out; omega
    have hidx := Hi3.out t ht3
    have HV := Lib.hid (HB.new wr kzz 65)
    have HW : Hid (HB ((wr.alloc (.cells kzz.toArray 65)).setRow wr.heap.size (kdC (t + 1)).toArray) wr.heap.size 65 (kdC (t + 1))) := Lib.hid (setRow_heap _ _ _ _ _ _ HV.out)
    have HB5 := Lib.hid ((hb.alloc hb.size (.cells kzz.toArray 65)).grown (grown_row (wr.alloc (.cells kzz.toArray 65)) wr.heap.size (kdC (t + 1)).toArray) (by have := hb.size; simp; omega) (fun x hx => by have := Option.some.inj hx; have := hb.size; omega))
    have Hsz : Hid (kzz.toArray.size = (kdC (t + 1)).toArray.size) := Lib.hid rfl
    have Hone := Lib.hid (kd_one (t + 1))
    have Hinj := Lib.hid (dig_inj Hk.out ht)
    have hik := Hik.out (t + 1)
    have Hikt := Lib.hid hik
    have i1 : (t : Int) < 3 := by omega
    clear hb hik ht3
    go_upto_region 4 with (refine wpList_store_row rfl _ _ _ rfl wr.heap.size (kdC (t + 1)).toArray rfl rfl _ _ HV.out Hikt.out Hsz.out Hone.out ?_)
    as_aux_lemma =>
    clear hz hidx HV HBw Hsz Hone Hikt
    have HVlt : Hid (w.heap.size ≤ ((wr.alloc (.cells kzz.toArray 65)).setRow wr.heap.size (kdC (t + 1)).toArray).heap.size) := Lib.hid HB5.out.size
    generalize ((wr.alloc (.cells kzz.toArray 65)).setRow wr.heap.size (kdC (t + 1)).toArray) = w5 at *
    generalize wr.heap.size = VB at *
    have k2 : w5.cell? ⟨VB, 2, none⟩ = some (.int .i64 (digK (t + 1) : Int)) := HW.out.cell (i := 2) rfl
    obtain ⟨d1, hd1⟩ : ∃ d, digK (t + 1) = d := ⟨_, rfl⟩
    rw [hd1] at k2 Hinj
    have hdl : d1 ≤ 64 := by
      rw [← hd1]; unfold digK; split
      · decide
      · split <;> decide
    have s1 : IntKind.i64.wrap ((d1 : Int) * 8) = (d1 : Int) * 8 := IntWalk.i64_in _ (by omega)
    by_cases heq : t + 1 = k
    · have hdk := Hinj.out.2 heq
      have s2 : ((d1 : Int) * 8 == (D : Int)) = true := by rw [beq_iff_eq, ← HD.out, ← hdk]; push_cast; omega
      subst heq
      have hrg : w5.rangeAt VB 3 ((s8l (firstK (t + 1))).map u64v) := HW.out.range 3 8
      have Hrg := Lib.hid hrg
      have Hwh := Lib.hid HW.out.whole
      have hkk : t + 1 = 1 ∨ t + 1 = 2 ∨ t + 1 = 3 := by have := Hk.out; omega
      have hbld := fun w => run_buildHs (t + 1) hkk w
      have HN := Lib.hid (HB.new w5 (hashC (t + 1) (firstK (t + 1)) 0 (.slice none 0 0)) 67)
      have HBn := Lib.hid (HB5.out.alloc HVlt.out (.cells (hashC (t + 1) (firstK (t + 1)) 0 (.slice none 0 0)).toArray 67))
      have Hikk := Lib.hid (Hik'.out (t + 1))
      clear hrg hkk hdk hd1 hdl Hinj HW HB5
      go_wp2_with (first | (refine wpList_load_mid rfl _ _ rfl VB 0 rfl (kdC (t + 1)) _ Hwh.out Tryd.underlying65 rfl Hikk.out ?_) | (refine wpList_load_mid rfl _ _ rfl VB 3 rfl ((s8l (firstK (t + 1))).map u64v) _ Hrg.out Tryd.underlying63 rfl Hi8.out ?_))
      go_ret2
      exact ⟨w5.heap.size, rfl, HN.out, HVlt.out, HBn.out⟩
    · have hne : ¬ d1 = digK k := fun h => heq (Hinj.out.1 h)
      have s2 : ((d1 : Int) * 8 == (D : Int)) = false := beq_eq_false_iff_ne.2 (by rw [← HD.out]; push_cast; omega)
      clear hne hdl hd1 Hinj
      go_wp2_with fail
      clear s1 s2 k2
      first
      | (go_roundw
         case rel => exact ⟨t + 1, by omega, by go_num, HB5.out⟩
         case measure => (first | omega | (simp [intOf] <;> omega) | (simp only [intOf] <;> omega)))
      | exact ⟨⟨t + 1, by omega, by go_num, HB5.out⟩, by (first | omega | (simp [intOf] <;> omega) | (simp only [intOf] <;> omega))⟩
      | (refine ⟨?_, by (first | omega | (simp [intOf] <;> omega) | (simp only [intOf] <;> omega))⟩
         (repeat apply Exists.intro)
         refine (fun a b => And.intro b a) ?_ ?_
         · first | rfl | ((repeat refine ⟨rfl, ?_⟩); rfl)
         exact ⟨t + 1, by omega, by go_num, HB5.out⟩)
end Go.Proofs.YtngkelflfahjbaaDoor
