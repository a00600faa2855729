/- The handoff of some bytes: the document's Decode. No condition. -/
import Derived.Test.YthhodibfbfmijaaHandS
import Derived.Deep.DeepCutAuto
set_option linter.unusedVariables false
set_option linter.unusedSimpArgs false
namespace Go.Proofs.Ythhodibfbfmijaa
open Go.RowKit
attribute [local go_sem ↓] build_ho
attribute [local go_sem] run_buildHo run_buildHz
/-- the six numbers: those ahead of i are told, number i is v -/
def s6 (b : List UInt8) (i v : Nat) : List Value := (List.range 6).map fun q => .int .u64 ((if q < i then getN b (2 + 8 * q) 8 false else if q = i then v else 0 : Nat) : Int)
theorem s6_len (b : List UInt8) (i v : Nat) : (s6 b i v).length = 6 := by simp [s6]
theorem s6_at {b : List UInt8} {i v q : Nat} (h : q < 6) : (s6 b i v)[q]? = some (.int .u64 ((if q < i then getN b (2 + 8 * q) 8 false else if q = i then v else 0 : Nat) : Int)) := by
  unfold s6; rw [List.getElem?_map, List.getElem?_range h]; rfl
theorem s6_get {b : List UInt8} {i v : Nat} (h : i < 6) : (s6 b i v)[i]? = some (.int .u64 v) := by
  rw [s6_at h, if_neg (Nat.lt_irrefl _), if_pos rfl]
theorem s6_set {b : List UInt8} {i v v' : Nat} (h : i < 6) : (s6 b i v).set i (.int .u64 v') = s6 b i v' := by
  apply List.ext_getElem?
  intro q
  rw [List.getElem?_set]
  by_cases hq : i = q
  · subst hq
    rw [if_pos rfl, if_pos (by rw [s6_len]; exact h), s6_get h]
  · rw [if_neg hq]
    by_cases h6 : q < 6
    · rw [s6_at h6, s6_at h6]
      have hne : ¬ q = i := fun e => hq e.symm
      simp only [if_neg hne]
    · rw [List.getElem?_eq_none (by rw [s6_len]; omega), List.getElem?_eq_none (by rw [s6_len]; omega)]
theorem s6_next {b : List UInt8} {i : Nat} : s6 b i (getN b (2 + 8 * i) 8 false) = s6 b (i + 1) 0 := by
  unfold s6
  apply List.map_congr_left
  intro q _
  congr 2
  by_cases h1 : q < i
  · rw [if_pos h1, if_pos (by omega)]
  · rw [if_neg h1]
    by_cases h2 : q = i
    · subst h2; rw [if_pos rfl, if_pos (by omega)]
    · rw [if_neg h2, if_neg (by omega)]; split <;> rfl
theorem s6_zero (b : List UInt8) : s6 b 0 0 = [.int .u64 0, .int .u64 0, .int .u64 0, .int .u64 0, .int .u64 0, .int .u64 0] := by
  unfold s6; simp; rfl
theorem s6_full (b : List UInt8) : s6 b 6 0 = [.int .u64 (getN b 2 8 false), .int .u64 (getN b 10 8 false), .int .u64 (getN b 18 8 false), .int .u64 (getN b 26 8 false), .int .u64 (getN b 34 8 false), .int .u64 (getN b 42 8 false)] := by
  unfold s6; rfl
theorem getN_zero (b : List UInt8) (a : Nat) : getN b a 0 false = 0 := rfl
structure RdIn (b : List UInt8) (R H L : Nat) (W : World) (i : Value) (wr : World) : Prop where
  x : ∃ k : Nat, k ≤ 6 ∧ i = .int .i64 (k : Nat) ∧ HB wr L 68 (s6 b k 0) ∧ HB wr R 45 [.int .i64 0, .int .u64 0, .int .u64 0, .bool false, .int .u64 0, .int .u64 0, .int .u64 0, .int .u64 0] ∧ HB wr H 45 [.int .i64 0, .int .u64 0, .int .u64 0, .bool false, .int .u64 0, .int .u64 0, .int .u64 0, .int .u64 0] ∧ Below R W wr
structure RdIn2 (b : List UInt8) (R H L i : Nat) (W : World) (kv : Value) (wr : World) : Prop where
  x : ∃ j : Nat, j ≤ 8 ∧ kv = .int .i64 (7 - (j : Int)) ∧ HB wr L 68 (s6 b i (getN b (2 + 8 * i + (8 - j)) j false)) ∧ HB wr R 45 [.int .i64 0, .int .u64 0, .int .u64 0, .bool false, .int .u64 0, .int .u64 0, .int .u64 0, .int .u64 0] ∧ HB wr H 45 [.int .i64 0, .int .u64 0, .int .u64 0, .bool false, .int .u64 0, .int .u64 0, .int .u64 0, .int .u64 0] ∧ Below R W wr
set_option maxHeartbeats 1000000 in
theorem rdec_any (ao : Option Addr) (n cap : Nat) (b : List UInt8) (w : World) (hl : b.length = n) (hcap : n ≤ cap) (hn : n ≤ 140737488355328) (hr : Rd w ao b) :
    Calls Try.prog 22 #[.slice ao n cap] w fun e w' => e = .returned (.tuple #[hov (decR b).1, .bool (decR b).2]) ∧ Below w.heap.size w w' := by
  have HB0 : ∀ o1 o2, Hid (Below w.heap.size w ((w.alloc o1).alloc o2)) := fun o1 o2 => Lib.hid (((Below.refl _ w).alloc (Nat.le_refl _) o1).alloc (by simp) o2)
  by_cases h50 : n = 50
  · subst h50
    obtain ⟨bb, off, rfl, -⟩ := hr 0 (by omega)
    have hc : ∀ j, j < 50 → w.cell? ⟨bb, off + j, none⟩ = some (.int .u8 ((b[j]?.getD 0).toNat)) := fun j hj => by
      obtain ⟨b', o', e, h⟩ := hr j (by omega)
      cases e; exact h
    have Hl := Lib.hid hl
    have Hc := Lib.hid hc
    have Hmay := Lib.hid (fun w => rhmay_any (rawR b) w)
    clear hr hl hc
    go_enter Try.func22, Try.ntmps22
    go_wp2_with fail
    as_aux_lemma =>
    have hW1 : (w.alloc (.cells #[.int .i64 0, .int .u64 0, .int .u64 0, .bool false, .int .u64 0, .int .u64 0, .int .u64 0, .int .u64 0] 45)).heap.size = w.heap.size + 1 := by simp
    have hW2 : ((w.alloc (.cells #[.int .i64 0, .int .u64 0, .int .u64 0, .bool false, .int .u64 0, .int .u64 0, .int .u64 0, .int .u64 0] 45)).alloc (.cells #[.int .i64 0, .int .u64 0, .int .u64 0, .bool false, .int .u64 0, .int .u64 0, .int .u64 0, .int .u64 0] 45)).heap.size = w.heap.size + 1 + 1 := by simp
    have h1 : HB (((w.alloc (.cells #[.int .i64 0, .int .u64 0, .int .u64 0, .bool false, .int .u64 0, .int .u64 0, .int .u64 0, .int .u64 0] 45)).alloc (.cells #[.int .i64 0, .int .u64 0, .int .u64 0, .bool false, .int .u64 0, .int .u64 0, .int .u64 0, .int .u64 0] 45)).alloc (.cells #[.int .u64 0, .int .u64 0, .int .u64 0, .int .u64 0, .int .u64 0, .int .u64 0] 68)) w.heap.size 45 [.int .i64 0, .int .u64 0, .int .u64 0, .bool false, .int .u64 0, .int .u64 0, .int .u64 0, .int .u64 0] := ((HB.new w [.int .i64 0, .int .u64 0, .int .u64 0, .bool false, .int .u64 0, .int .u64 0, .int .u64 0, .int .u64 0] 45).alloc (.cells #[.int .i64 0, .int .u64 0, .int .u64 0, .bool false, .int .u64 0, .int .u64 0, .int .u64 0, .int .u64 0] 45)).alloc (.cells #[.int .u64 0, .int .u64 0, .int .u64 0, .int .u64 0, .int .u64 0, .int .u64 0] 68)
    have h2 : HB (((w.alloc (.cells #[.int .i64 0, .int .u64 0, .int .u64 0, .bool false, .int .u64 0, .int .u64 0, .int .u64 0, .int .u64 0] 45)).alloc (.cells #[.int .i64 0, .int .u64 0, .int .u64 0, .bool false, .int .u64 0, .int .u64 0, .int .u64 0, .int .u64 0] 45)).alloc (.cells #[.int .u64 0, .int .u64 0, .int .u64 0, .int .u64 0, .int .u64 0, .int .u64 0] 68)) (w.heap.size + 1) 45 [.int .i64 0, .int .u64 0, .int .u64 0, .bool false, .int .u64 0, .int .u64 0, .int .u64 0, .int .u64 0] := by
      have h := (HB.new (w.alloc (.cells #[.int .i64 0, .int .u64 0, .int .u64 0, .bool false, .int .u64 0, .int .u64 0, .int .u64 0, .int .u64 0] 45)) [.int .i64 0, .int .u64 0, .int .u64 0, .bool false, .int .u64 0, .int .u64 0, .int .u64 0, .int .u64 0] 45).alloc (.cells #[.int .u64 0, .int .u64 0, .int .u64 0, .int .u64 0, .int .u64 0, .int .u64 0] 68)
      rw [hW1] at h; exact h
    have h3 : HB (((w.alloc (.cells #[.int .i64 0, .int .u64 0, .int .u64 0, .bool false, .int .u64 0, .int .u64 0, .int .u64 0, .int .u64 0] 45)).alloc (.cells #[.int .i64 0, .int .u64 0, .int .u64 0, .bool false, .int .u64 0, .int .u64 0, .int .u64 0, .int .u64 0] 45)).alloc (.cells #[.int .u64 0, .int .u64 0, .int .u64 0, .int .u64 0, .int .u64 0, .int .u64 0] 68)) (w.heap.size + 1 + 1) 68 (s6 b 0 0) := by
      have h := HB.new ((w.alloc (.cells #[.int .i64 0, .int .u64 0, .int .u64 0, .bool false, .int .u64 0, .int .u64 0, .int .u64 0, .int .u64 0] 45)).alloc (.cells #[.int .i64 0, .int .u64 0, .int .u64 0, .bool false, .int .u64 0, .int .u64 0, .int .u64 0, .int .u64 0] 45)) [.int .u64 0, .int .u64 0, .int .u64 0, .int .u64 0, .int .u64 0, .int .u64 0] 68
      rw [hW2] at h; rw [s6_zero]; exact h
    have Hr2 := Lib.hid h1
    have Hh2 := Lib.hid h2
    have Hl2 := Lib.hid h3
    have Hb2 := Lib.hid ((HB0 (.cells #[.int .i64 0, .int .u64 0, .int .u64 0, .bool false, .int .u64 0, .int .u64 0, .int .u64 0, .int .u64 0] 45) (.cells #[.int .i64 0, .int .u64 0, .int .u64 0, .bool false, .int .u64 0, .int .u64 0, .int .u64 0, .int .u64 0] 45)).out.alloc (by simp; omega) (.cells #[.int .u64 0, .int .u64 0, .int .u64 0, .int .u64 0, .int .u64 0, .int .u64 0] 68))
    clear h1 h2 h3 hW1 hW2 HB0
    obtain ⟨R, hR⟩ : ∃ R, w.heap.size = R := ⟨_, rfl⟩
    obtain ⟨H, hH⟩ : ∃ H, R + 1 = H := ⟨_, rfl⟩
    obtain ⟨L, hL⟩ : ∃ L, H + 1 = L := ⟨_, rfl⟩
    rw [hR] at Hr2 Hh2 Hl2 Hb2 ⊢
    rw [hH] at Hh2 Hl2 ⊢
    rw [hL] at Hl2 ⊢
    have HRx := Lib.hid hR
    have HRH : Hid (R < H ∧ H < L) := Lib.hid (by omega)
    clear hR hH hL
    have Hc' := Lib.hid (fun (wx : World) (h : Below R w wx) j hj => cell_later (wx := wx) (by rw [HRx.out]; exact h) (Hc.out j hj))
    generalize (((w.alloc (.cells #[.int .i64 0, .int .u64 0, .int .u64 0, .bool false, .int .u64 0, .int .u64 0, .int .u64 0, .int .u64 0] 45)).alloc (.cells #[.int .i64 0, .int .u64 0, .int .u64 0, .bool false, .int .u64 0, .int .u64 0, .int .u64 0, .int .u64 0] 45)).alloc (.cells #[.int .u64 0, .int .u64 0, .int .u64 0, .int .u64 0, .int .u64 0, .int .u64 0] 68)) = w2 at *
    clear Hc
    go_loopw [6, 7] (fun i _ wr => RdIn b R H L w i wr) (fun i _ _ => 6 - (intOf i).toNat)
    case atStart => exact ⟨0, by omega, rfl, Hl2.out, Hr2.out, Hh2.out, Hb2.out⟩
    case round =>
      as_aux_lemma =>
      clear Hl2 Hr2 Hh2 Hb2
      obtain ⟨k, hk, rfl, hL, hR, hH, hB⟩ := hrel
      have HL := Lib.hid hL
      have HR := Lib.hid hR
      have HH := Lib.hid hH
      have HBx := Lib.hid hB
      clear hL hR hH hB
      by_cases hlt : k < 6
      · have q3 : (k : Int) < 6 := by omega
        go_wp2_with fail
        as_aux_lemma =>
        go_loopw [7] (fun kv wr2 => RdIn2 b R H L k w kv wr2) (fun kv _ => (intOf kv + 1).toNat)
        case atStart => exact ⟨0, by omega, rfl, by rw [getN_zero]; exact HL.out, HR.out, HH.out, HBx.out⟩
        case round =>
          as_aux_lemma =>
          clear HL HR HH HBx
          obtain ⟨j, hj, rfl, hL, hR, hH, hB⟩ := hrel
          have HL := Lib.hid hL
          have HR := Lib.hid hR
          have HH := Lib.hid hH
          have HBx := Lib.hid hB
          clear hL hR hH hB
          by_cases hlt8 : j < 8
          · obtain ⟨m, hm⟩ : ∃ m : Nat, 7 - j = m := ⟨_, rfl⟩
            have hm7 : 7 - (j : Int) = (m : Int) := by omega
            have hm8 : 8 - j = m + 1 := by omega
            have hm9 : 8 - (j + 1) = m := by omega
            have hnx := getN_pre b (2 + 8 * k + m) j (by have := Hl.out; omega)
            have hnxL := getN_lt b (2 + 8 * k + m) (j + 1) false (by have := Hl.out; omega)
            have hp8 : (256 : Nat) ^ (j + 1) ≤ 256 ^ 8 := Nat.pow_le_pow_right (by decide) (by omega)
            have hlt64 : getN b (2 + 8 * k + m) (j + 1) false < 18446744073709551616 := by omega
            rw [hm8] at HL
            rw [show 2 + 8 * k + (m + 1) = 2 + 8 * k + m + 1 by omega] at HL
            rw [hm7]
            have hcb := Hc'.out wr HBx.out (2 + 8 * k + m) (by omega)
            generalize getN b (2 + 8 * k + m + 1) j false = V at *
            obtain ⟨V', hV'⟩ : ∃ V', getN b (2 + 8 * k + m) (j + 1) false = V' := ⟨_, rfl⟩
            rw [hV'] at hnx hlt64
            have HV' : Hid (getN b (2 + 8 * k + (8 - (j + 1))) (j + 1) false = V') := Lib.hid (by rw [hm9, hV'])
            generalize b[2 + 8 * k + m]?.getD 0 = c at *
            have hcell := HL.out.cell (s6_get (b := b) (i := k) (v := V) hlt)
            have hfz := HL.out.frozen k
            have hcelld := fun x => (HL.out.drn (⟨x, rfl⟩ : Drn wr (wr.drewN x))).cell (s6_get (b := b) (i := k) (v := V) hlt)
            have hfzd := fun x => (HL.out.drn (⟨x, rfl⟩ : Drn wr (wr.drewN x))).frozen k
            have HLs := Lib.hid (HL.out.set k (.int .u64 V'))
            have Hset := Lib.hid (s6_set (b := b) (v := V) (v' := V') hlt)
            have hcl := c.toNat_lt
            have q1 : IntKind.u64.wrap (256 * (V : Int)) = 256 * (V : Int) := IntWalk.u64_in _ (by omega)
            have q2 : IntKind.u64.wrap (c.toNat : Int) = (c.toNat : Int) := IntWalk.u64_in _ (by omega)
            have q4 : IntKind.u64.wrap (256 * (V : Int) + (c.toNat : Int)) = (V' : Int) := by rw [IntWalk.u64_in _ (by omega)]; omega
            have q5 : IntKind.i64.wrap (8 * (k : Int)) = 8 * (k : Int) := IntWalk.i64_in _ (by omega)
            have q6 : IntKind.i64.wrap (2 + 8 * (k : Int)) = 2 + 8 * (k : Int) := IntWalk.i64_in _ (by omega)
            have q7 : IntKind.i64.wrap (2 + 8 * (k : Int) + (m : Int)) = 2 + 8 * (k : Int) + (m : Int) := IntWalk.i64_in _ (by omega)
            have q8 : (0 : Int) ≤ 2 + 8 * (k : Int) + (m : Int) := by omega
            have q9 : 2 + 8 * (k : Int) + (m : Int) < 50 := by omega
            have q10 : (2 + 8 * (k : Int) + (m : Int)).toNat = 2 + 8 * k + m := by omega
            have q11 : IntKind.i64.wrap ((m : Int) - 1) = 7 - ((j + 1 : Nat) : Int) := by rw [IntWalk.i64_in _ (by omega)]; omega
            have q0 : (0 : Int) ≤ (m : Int) := by omega
            have Hmj : Hid (m + j = 7) := Lib.hid (by omega)
            clear hnx hnxL hp8 hlt64 hV' hm hm8 hm9 hcl hm7
            go_wp2_with fail
            go_region
            have HL3 : Hid (HB (wr.setCell ⟨L, k, none⟩ (.int .u64 V')).drew L 68 (s6 b k V')) := Lib.hid (by rw [← Hset.out]; exact HLs.out.drn (Drn.refl _).drew)
            have HR3 := Lib.hid ((HR.out.other ⟨L, k, none⟩ (.int .u64 V') (by have := HRH.out; show R ≠ L; omega)).drn (Drn.refl _).drew)
            have HH3 := Lib.hid ((HH.out.other ⟨L, k, none⟩ (.int .u64 V') (by have := HRH.out; show H ≠ L; omega)).drn (Drn.refl _).drew)
            have HB3 := Lib.hid ((HBx.out.grown (grown_set wr ⟨L, k, none⟩ (.int .u64 V')) (by rw [← HRx.out]; exact HBx.out.size) (fun x hx => by have e : L = x := Option.some.inj hx; have := HRH.out; omega)).drew)
            clear HLs HL HR HH HBx hcell hfz hcelld hfzd hcb q1 q2 q4 q5 q6 q7 q8 q9 q10
            generalize (wr.setCell ⟨L, k, none⟩ (.int .u64 V')).drew = w5 at *
            go_wp2_with fail
            have hmj := Hmj.out
            first
            | (go_roundw
               case rel => exact ⟨j + 1, by omega, by go_num, by rw [HV'.out]; exact HL3.out, HR3.out, HH3.out, HB3.out⟩
               case measure => (first | omega | (simp [intOf] <;> omega) | (simp only [intOf] <;> omega)))
            | exact ⟨⟨j + 1, by omega, by go_num, by rw [HV'.out]; exact HL3.out, HR3.out, HH3.out, HB3.out⟩, by (first | omega | (simp [intOf] <;> omega) | (simp only [intOf] <;> omega))⟩
            | (refine ⟨?_, by (first | omega | (simp [intOf] <;> omega) | (simp only [intOf] <;> omega))⟩
               (repeat apply Exists.intro)
               refine (fun a b => And.intro b a) ?_ ?_
               · first | rfl | ((repeat refine ⟨rfl, ?_⟩); rfl)
               exact ⟨j + 1, by omega, by go_num, by rw [HV'.out]; exact HL3.out, HR3.out, HH3.out, HB3.out⟩)
          · obtain rfl : j = 8 := by omega
            have Hn8 := Lib.hid (s6_next (b := b) (i := k))
            go_wp2_with fail
            first
            | (go_roundw
               case rel => exact ⟨k + 1, by omega, by go_num, by rw [← Hn8.out]; exact HL.out, HR.out, HH.out, HBx.out⟩
               case measure => (first | omega | (simp [intOf] <;> omega) | (simp only [intOf] <;> omega)))
            | exact ⟨⟨k + 1, by omega, by go_num, by rw [← Hn8.out]; exact HL.out, HR.out, HH.out, HBx.out⟩, by (first | omega | (simp [intOf] <;> omega) | (simp only [intOf] <;> omega))⟩
            | (refine ⟨?_, by (first | omega | (simp [intOf] <;> omega) | (simp only [intOf] <;> omega))⟩
               (repeat apply Exists.intro)
               refine (fun a b => And.intro b a) ?_ ?_
               · first | rfl | ((repeat refine ⟨rfl, ?_⟩); rfl)
               exact ⟨k + 1, by omega, by go_num, by rw [← Hn8.out]; exact HL.out, HR.out, HH.out, HBx.out⟩)
      · obtain rfl : k = 6 := by omega
        have Hraw : Hid (rawR b = ⟨((b[0]?.getD 0).toNat : Nat), getN b 2 8 false, getN b 10 8 false, decide ((b[1]?.getD 0).toNat = 1), getN b 18 8 false, getN b 26 8 false, getN b 34 8 false, getN b 42 8 false⟩) := Lib.hid rfl
        rw [s6_full b] at HL
        have hb0 := fun wx h => Hc'.out wx h 0 (by omega)
        have hb1 := fun wx h => Hc'.out wx h 1 (by omega)
        simp only [Nat.add_zero] at hb0
        obtain ⟨sb, hsb⟩ : ∃ sb : Bool, decide (((b[1]?.getD 0) : UInt8).toNat = 1) = sb := ⟨_, rfl⟩
        have hsb2 : (((b[1]?.getD 0).toNat : Int) == 1) = sb := by rw [← hsb, Bool.eq_iff_iff, decide_eq_true_iff, beq_iff_eq]; omega
        rw [hsb] at Hraw
        generalize getN b 2 8 false = x1 at *
        generalize getN b 10 8 false = x2 at *
        generalize getN b 18 8 false = x3 at *
        generalize getN b 26 8 false = x4 at *
        generalize getN b 34 8 false = x5 at *
        generalize getN b 42 8 false = x6 at *
        have Hres := Lib.hid (fun (h1 : (b[1]?.getD 0).toNat ≤ 1) (h : mayR (rawR b) = true) => decR_yes Hl.out h1 h)
        have Hres2 := Lib.hid (fun h : mayR (rawR b) = false => decR_no (b := b) (fun h' => by rw [h] at h'; exact absurd h'.2.2 (by decide)))
        have Hres3 := Lib.hid (fun h : ¬ (b[1]?.getD 0).toNat ≤ 1 => decR_no (b := b) (fun h' => h h'.2.1))
        generalize (b[1]?.getD 0).toNat = c1 at *
        have hcl := (b[0]?.getD 0).toNat_lt
        generalize (b[0]?.getD 0).toNat = c0 at *
        have q0 : IntKind.i64.wrap (c0 : Int) = (c0 : Int) := IntWalk.i64_in _ (by omega)
        have Hb0 := Lib.hid hb0
        have Hb1 := Lib.hid hb1
        have Hm : Hid (∀ w, Calls Try.prog 23 #[.agg #[.int .i64 (c0 : Nat), .int .u64 x1, .int .u64 x2, .bool sb, .int .u64 x3, .int .u64 x4, .int .u64 x5, .int .u64 x6]] w fun e w' => e = .returned (.bool (mayR (rawR b))) ∧ Below w.heap.size w w') := Lib.hid (fun w => by
          have h := Hmay.out w
          rw [Hraw.out] at h ⊢
          exact h)
        clear hsb hb0 hb1 hcl Hc' Hl Hmay hlt hk
        have z0 := Hb0.out _ HBx.out
        have k0 := HH.out.cell (i := 0) rfl
        have f0 := HH.out.frozen 0
        go_upto_region 13 with fail
        clear z0 k0 f0
        have HH_wa : Hid (HB (wr.setCell ⟨H, 0, none⟩ (.int .i64 (c0 : Nat))) H 45 [.int .i64 (c0 : Nat), .int .u64 0, .int .u64 0, .bool false, .int .u64 0, .int .u64 0, .int .u64 0, .int .u64 0]) := Lib.hid (HH.out.set 0 (.int .i64 (c0 : Nat)))
        have HL_wa := Lib.hid (HL.out.other ⟨H, 0, none⟩ (.int .i64 (c0 : Nat)) (by have := HRH.out; show L ≠ H; omega))
        have HR_wa := Lib.hid (HR.out.other ⟨H, 0, none⟩ (.int .i64 (c0 : Nat)) (by have := HRH.out; show R ≠ H; omega))
        have HB_wa := Lib.hid (HBx.out.grown (grown_set wr ⟨H, 0, none⟩ (.int .i64 (c0 : Nat))) (by rw [← HRx.out]; exact HBx.out.size) (fun x hx => by have e : H = x := Option.some.inj hx; have := HRH.out; omega))
        clear HH HL HR HBx
        generalize wr.setCell ⟨H, 0, none⟩ (.int .i64 (c0 : Nat)) = wa at *
        have HH := HH_wa
        have HL := HL_wa
        have HR := HR_wa
        have HBx := HB_wa
        clear HH_wa HL_wa HR_wa HB_wa
        have z0 := Hb1.out _ HBx.out
        have k0 := HH.out.cell (i := 3) rfl
        have f0 := HH.out.frozen 3
        go_upto_region 14 with fail
        clear z0 k0 f0
        have HH_wb : Hid (HB (wa.setCell ⟨H, 3, none⟩ (.bool sb)) H 45 [.int .i64 (c0 : Nat), .int .u64 0, .int .u64 0, .bool sb, .int .u64 0, .int .u64 0, .int .u64 0, .int .u64 0]) := Lib.hid (HH.out.set 3 (.bool sb))
        have HL_wb := Lib.hid (HL.out.other ⟨H, 3, none⟩ (.bool sb) (by have := HRH.out; show L ≠ H; omega))
        have HR_wb := Lib.hid (HR.out.other ⟨H, 3, none⟩ (.bool sb) (by have := HRH.out; show R ≠ H; omega))
        have HB_wb := Lib.hid (HBx.out.grown (grown_set wa ⟨H, 3, none⟩ (.bool sb)) (by rw [← HRx.out]; exact HBx.out.size) (fun x hx => by have e : H = x := Option.some.inj hx; have := HRH.out; omega))
        clear HH HL HR HBx
        generalize wa.setCell ⟨H, 3, none⟩ (.bool sb) = wb at *
        have HH := HH_wb
        have HL := HL_wb
        have HR := HR_wb
        have HBx := HB_wb
        clear HH_wb HL_wb HR_wb HB_wb
        have z0 := HL.out.cell (i := 0) rfl
        have k0 := HH.out.cell (i := 1) rfl
        have f0 := HH.out.frozen 1
        go_upto_region 15 with fail
        clear z0 k0 f0
        have HH_wc : Hid (HB (wb.setCell ⟨H, 1, none⟩ (.int .u64 x1)) H 45 [.int .i64 (c0 : Nat), .int .u64 x1, .int .u64 0, .bool sb, .int .u64 0, .int .u64 0, .int .u64 0, .int .u64 0]) := Lib.hid (HH.out.set 1 (.int .u64 x1))
        have HL_wc := Lib.hid (HL.out.other ⟨H, 1, none⟩ (.int .u64 x1) (by have := HRH.out; show L ≠ H; omega))
        have HR_wc := Lib.hid (HR.out.other ⟨H, 1, none⟩ (.int .u64 x1) (by have := HRH.out; show R ≠ H; omega))
        have HB_wc := Lib.hid (HBx.out.grown (grown_set wb ⟨H, 1, none⟩ (.int .u64 x1)) (by rw [← HRx.out]; exact HBx.out.size) (fun x hx => by have e : H = x := Option.some.inj hx; have := HRH.out; omega))
        clear HH HL HR HBx
        generalize wb.setCell ⟨H, 1, none⟩ (.int .u64 x1) = wc at *
        have HH := HH_wc
        have HL := HL_wc
        have HR := HR_wc
        have HBx := HB_wc
        clear HH_wc HL_wc HR_wc HB_wc
        have z0 := HL.out.cell (i := 1) rfl
        have k0 := HH.out.cell (i := 2) rfl
        have f0 := HH.out.frozen 2
        go_upto_region 16 with fail
        clear z0 k0 f0
        have HH_wd : Hid (HB (wc.setCell ⟨H, 2, none⟩ (.int .u64 x2)) H 45 [.int .i64 (c0 : Nat), .int .u64 x1, .int .u64 x2, .bool sb, .int .u64 0, .int .u64 0, .int .u64 0, .int .u64 0]) := Lib.hid (HH.out.set 2 (.int .u64 x2))
        have HL_wd := Lib.hid (HL.out.other ⟨H, 2, none⟩ (.int .u64 x2) (by have := HRH.out; show L ≠ H; omega))
        have HR_wd := Lib.hid (HR.out.other ⟨H, 2, none⟩ (.int .u64 x2) (by have := HRH.out; show R ≠ H; omega))
        have HB_wd := Lib.hid (HBx.out.grown (grown_set wc ⟨H, 2, none⟩ (.int .u64 x2)) (by rw [← HRx.out]; exact HBx.out.size) (fun x hx => by have e : H = x := Option.some.inj hx; have := HRH.out; omega))
        clear HH HL HR HBx
        generalize wc.setCell ⟨H, 2, none⟩ (.int .u64 x2) = wd at *
        have HH := HH_wd
        have HL := HL_wd
        have HR := HR_wd
        have HBx := HB_wd
        clear HH_wd HL_wd HR_wd HB_wd
        as_aux_lemma =>
        have z2 := HL.out.cell (i := 2) rfl
        have z3 := HL.out.cell (i := 3) rfl
        have z4 := HL.out.cell (i := 4) rfl
        have z5 := HL.out.cell (i := 5) rfl
        have k4 := HH.out.cell (i := 4) rfl
        have k5 := HH.out.cell (i := 5) rfl
        have k6 := HH.out.cell (i := 6) rfl
        have k7 := HH.out.cell (i := 7) rfl
        have f4 := HH.out.frozen 4
        have f5 := HH.out.frozen 5
        have f6 := HH.out.frozen 6
        have f7 := HH.out.frozen 7
        go_upto_region 17 with fail
        clear z2 z3 z4 z5 k4 k5 k6 k7 f4 f5 f6 f7
        have HH_we : Hid (HB (wd.setCell ⟨H, 4, none⟩ (.int .u64 x3)) H 45 [.int .i64 (c0 : Nat), .int .u64 x1, .int .u64 x2, .bool sb, .int .u64 x3, .int .u64 0, .int .u64 0, .int .u64 0]) := Lib.hid (HH.out.set 4 (.int .u64 x3))
        have HL_we := Lib.hid (HL.out.other ⟨H, 4, none⟩ (.int .u64 x3) (by have := HRH.out; show L ≠ H; omega))
        have HR_we := Lib.hid (HR.out.other ⟨H, 4, none⟩ (.int .u64 x3) (by have := HRH.out; show R ≠ H; omega))
        have HB_we := Lib.hid (HBx.out.grown (grown_set wd ⟨H, 4, none⟩ (.int .u64 x3)) (by rw [← HRx.out]; exact HBx.out.size) (fun x hx => by have e : H = x := Option.some.inj hx; have := HRH.out; omega))
        clear HH HL HR HBx
        generalize wd.setCell ⟨H, 4, none⟩ (.int .u64 x3) = we at *
        have HH := HH_we
        have HL := HL_we
        have HR := HR_we
        have HBx := HB_we
        clear HH_we HL_we HR_we HB_we
        have HH_wf : Hid (HB (we.setCell ⟨H, 5, none⟩ (.int .u64 x4)) H 45 [.int .i64 (c0 : Nat), .int .u64 x1, .int .u64 x2, .bool sb, .int .u64 x3, .int .u64 x4, .int .u64 0, .int .u64 0]) := Lib.hid (HH.out.set 5 (.int .u64 x4))
        have HL_wf := Lib.hid (HL.out.other ⟨H, 5, none⟩ (.int .u64 x4) (by have := HRH.out; show L ≠ H; omega))
        have HR_wf := Lib.hid (HR.out.other ⟨H, 5, none⟩ (.int .u64 x4) (by have := HRH.out; show R ≠ H; omega))
        have HB_wf := Lib.hid (HBx.out.grown (grown_set we ⟨H, 5, none⟩ (.int .u64 x4)) (by rw [← HRx.out]; exact HBx.out.size) (fun x hx => by have e : H = x := Option.some.inj hx; have := HRH.out; omega))
        clear HH HL HR HBx
        generalize we.setCell ⟨H, 5, none⟩ (.int .u64 x4) = wf at *
        have HH := HH_wf
        have HL := HL_wf
        have HR := HR_wf
        have HBx := HB_wf
        clear HH_wf HL_wf HR_wf HB_wf
        have HH_wg : Hid (HB (wf.setCell ⟨H, 6, none⟩ (.int .u64 x5)) H 45 [.int .i64 (c0 : Nat), .int .u64 x1, .int .u64 x2, .bool sb, .int .u64 x3, .int .u64 x4, .int .u64 x5, .int .u64 0]) := Lib.hid (HH.out.set 6 (.int .u64 x5))
        have HL_wg := Lib.hid (HL.out.other ⟨H, 6, none⟩ (.int .u64 x5) (by have := HRH.out; show L ≠ H; omega))
        have HR_wg := Lib.hid (HR.out.other ⟨H, 6, none⟩ (.int .u64 x5) (by have := HRH.out; show R ≠ H; omega))
        have HB_wg := Lib.hid (HBx.out.grown (grown_set wf ⟨H, 6, none⟩ (.int .u64 x5)) (by rw [← HRx.out]; exact HBx.out.size) (fun x hx => by have e : H = x := Option.some.inj hx; have := HRH.out; omega))
        clear HH HL HR HBx
        generalize wf.setCell ⟨H, 6, none⟩ (.int .u64 x5) = wg at *
        have HH := HH_wg
        have HL := HL_wg
        have HR := HR_wg
        have HBx := HB_wg
        clear HH_wg HL_wg HR_wg HB_wg
        have HH_wh : Hid (HB (wg.setCell ⟨H, 7, none⟩ (.int .u64 x6)) H 45 [.int .i64 (c0 : Nat), .int .u64 x1, .int .u64 x2, .bool sb, .int .u64 x3, .int .u64 x4, .int .u64 x5, .int .u64 x6]) := Lib.hid (HH.out.set 7 (.int .u64 x6))
        have HL_wh := Lib.hid (HL.out.other ⟨H, 7, none⟩ (.int .u64 x6) (by have := HRH.out; show L ≠ H; omega))
        have HR_wh := Lib.hid (HR.out.other ⟨H, 7, none⟩ (.int .u64 x6) (by have := HRH.out; show R ≠ H; omega))
        have HB_wh := Lib.hid (HBx.out.grown (grown_set wg ⟨H, 7, none⟩ (.int .u64 x6)) (by rw [← HRx.out]; exact HBx.out.size) (fun x hx => by have e : H = x := Option.some.inj hx; have := HRH.out; omega))
        clear HH HL HR HBx
        generalize wg.setCell ⟨H, 7, none⟩ (.int .u64 x6) = wh at *
        have HH := HH_wh
        have HL := HL_wh
        have HR := HR_wh
        have HBx := HB_wh
        clear HH_wh HL_wh HR_wh HB_wh
        as_aux_lemma =>
        have k0 := HH.out.cell (i := 0) rfl
        have k1 := HH.out.cell (i := 1) rfl
        have k2 := HH.out.cell (i := 2) rfl
        have k3 := HH.out.cell (i := 3) rfl
        have k4 := HH.out.cell (i := 4) rfl
        have k5 := HH.out.cell (i := 5) rfl
        have k6 := HH.out.cell (i := 6) rfl
        have k7 := HH.out.cell (i := 7) rfl
        go_wp2_with fail
        as_aux_lemma =>
        refine (Hm.out _).mono ?_
        rintro e w7 ⟨rfl, hb7⟩
        have HR7 := Lib.hid (HR.out.later hb7)
        have HH7 := Lib.hid (HH.out.later hb7)
        have HB7 := Lib.hid (HBx.out.trans (hb7.mono (by have := HR.out.lt; omega)))
        clear hb7 HR HH HBx HL k0 k1 k2 k3 k4 k5 k6 k7 Hm q0 Hb0 hsb2
        have z1 := Hb1.out _ HB7.out
        by_cases hc1 : c1 ≤ 1
        · have g1 : ¬ (1 : Int) < (c1 : Int) := by omega
          have g2 : (c1 : Int) ≤ 1 := by omega
          cases hmy : mayR (rawR b)
          · have hq := Hres2.out hmy
            clear hmy Hres Hres2 Hres3 hc1
            have HRes := Lib.hid hq
            clear hq HH7
            go_wp2_with (refine wpList_store_row rfl _ _ _ rfl R #[.int .i64 0, .int .u64 0, .int .u64 0, .bool false, .int .u64 0, .int .u64 0, .int .u64 0, .int .u64 0] rfl rfl _ _ HR7.out hoInfo rfl (by decide +kernel) ?_)
            have hR8 : HB (w7.setRow R #[.int .i64 0, .int .u64 0, .int .u64 0, .bool false, .int .u64 0, .int .u64 0, .int .u64 0, .int .u64 0]) R 45 [.int .i64 0, .int .u64 0, .int .u64 0, .bool false, .int .u64 0, .int .u64 0, .int .u64 0, .int .u64 0] := setRow_heap w7 R _ #[.int .i64 0, .int .u64 0, .int .u64 0, .bool false, .int .u64 0, .int .u64 0, .int .u64 0, .int .u64 0] _ _ HR7.out
            have hB8 := HB7.out.grown (grown_row w7 R #[.int .i64 0, .int .u64 0, .int .u64 0, .bool false, .int .u64 0, .int .u64 0, .int .u64 0, .int .u64 0]) (by have := HR7.out.lt; omega) (fun x hx => Nat.le_of_eq (Option.some.inj hx))
            have Hv := Lib.hid (run_loadVar_mid (P := Try.prog) _ R 0 45 [.int .i64 0, .int .u64 0, .int .u64 0, .bool false, .int .u64 0, .int .u64 0, .int .u64 0, .int .u64 0] _ hR8.whole Try.underlying45 rfl hoInfo)
            have HB8 := Lib.hid hB8
            clear hR8 hB8 HR7 HB7
            generalize w7.setRow R #[.int .i64 0, .int .u64 0, .int .u64 0, .bool false, .int .u64 0, .int .u64 0, .int .u64 0, .int .u64 0] = w8 at *
            go_wp2_with fail
            have hv := Hv.out
            refine bodyPost_ret (v := .tuple #[.agg #[.int .i64 0, .int .u64 0, .int .u64 0, .bool false, .int .u64 0, .int .u64 0, .int .u64 0, .int .u64 0], .bool false]) (by simp [results, Try.results22, asAddr, hv, Result.andThen]; try rfl) rfl ⟨by rw [HRes.out]; rfl, by rw [HRx.out]; exact HB8.out⟩
          · have hq := Hres.out hc1 hmy
            rw [Hraw.out] at hq
            have HRes := Lib.hid hq
            clear hq hmy Hres Hres2 Hres3 hc1
            have hone : (#[.int .i64 (c0 : Nat), .int .u64 x1, .int .u64 x2, .bool sb, .int .u64 x3, .int .u64 x4, .int .u64 x5, .int .u64 x6] : Array Value).all (·.oneCell') = true := by simp [Value.oneCell']
            have Hone := Lib.hid hone
            clear hone
            have k0 := HH7.out.cell (i := 0) rfl
            have k1 := HH7.out.cell (i := 1) rfl
            have k2 := HH7.out.cell (i := 2) rfl
            have k3 := HH7.out.cell (i := 3) rfl
            have k4 := HH7.out.cell (i := 4) rfl
            have k5 := HH7.out.cell (i := 5) rfl
            have k6 := HH7.out.cell (i := 6) rfl
            have k7 := HH7.out.cell (i := 7) rfl
            go_wp2_with (refine wpList_store_row rfl _ _ _ rfl R #[.int .i64 (c0 : Nat), .int .u64 x1, .int .u64 x2, .bool sb, .int .u64 x3, .int .u64 x4, .int .u64 x5, .int .u64 x6] rfl rfl _ _ HR7.out hoInfo rfl Hone.out ?_)
            have hR8 : HB (w7.setRow R #[.int .i64 (c0 : Nat), .int .u64 x1, .int .u64 x2, .bool sb, .int .u64 x3, .int .u64 x4, .int .u64 x5, .int .u64 x6]) R 45 [.int .i64 (c0 : Nat), .int .u64 x1, .int .u64 x2, .bool sb, .int .u64 x3, .int .u64 x4, .int .u64 x5, .int .u64 x6] := setRow_heap w7 R _ #[.int .i64 (c0 : Nat), .int .u64 x1, .int .u64 x2, .bool sb, .int .u64 x3, .int .u64 x4, .int .u64 x5, .int .u64 x6] _ _ HR7.out
            have hB8 := HB7.out.grown (grown_row w7 R #[.int .i64 (c0 : Nat), .int .u64 x1, .int .u64 x2, .bool sb, .int .u64 x3, .int .u64 x4, .int .u64 x5, .int .u64 x6]) (by have := HR7.out.lt; omega) (fun x hx => Nat.le_of_eq (Option.some.inj hx))
            have Hv := Lib.hid (run_loadVar_mid (P := Try.prog) _ R 0 45 [.int .i64 (c0 : Nat), .int .u64 x1, .int .u64 x2, .bool sb, .int .u64 x3, .int .u64 x4, .int .u64 x5, .int .u64 x6] _ hR8.whole Try.underlying45 rfl hoInfo)
            have HB8 := Lib.hid hB8
            clear hR8 hB8 HR7 HB7
            generalize w7.setRow R #[.int .i64 (c0 : Nat), .int .u64 x1, .int .u64 x2, .bool sb, .int .u64 x3, .int .u64 x4, .int .u64 x5, .int .u64 x6] = w8 at *
            go_wp2_with fail
            have hv := Hv.out
            refine bodyPost_ret (v := .tuple #[.agg #[.int .i64 (c0 : Nat), .int .u64 x1, .int .u64 x2, .bool sb, .int .u64 x3, .int .u64 x4, .int .u64 x5, .int .u64 x6], .bool true]) (by simp [results, Try.results22, asAddr, hv, Result.andThen]; try rfl) rfl ⟨by rw [HRes.out]; rfl, by rw [HRx.out]; exact HB8.out⟩
        · have g1 : (1 : Int) < (c1 : Int) := by omega
          have g2 : ¬ (c1 : Int) ≤ 1 := by omega
          have hq := Hres3.out hc1
          clear Hres Hres2 Hres3 hc1
          cases hmy : mayR (rawR b)
          · clear hmy
            have HRes := Lib.hid hq
            clear hq HH7
            go_wp2_with (refine wpList_store_row rfl _ _ _ rfl R #[.int .i64 0, .int .u64 0, .int .u64 0, .bool false, .int .u64 0, .int .u64 0, .int .u64 0, .int .u64 0] rfl rfl _ _ HR7.out hoInfo rfl (by decide +kernel) ?_)
            have hR8 : HB (w7.setRow R #[.int .i64 0, .int .u64 0, .int .u64 0, .bool false, .int .u64 0, .int .u64 0, .int .u64 0, .int .u64 0]) R 45 [.int .i64 0, .int .u64 0, .int .u64 0, .bool false, .int .u64 0, .int .u64 0, .int .u64 0, .int .u64 0] := setRow_heap w7 R _ #[.int .i64 0, .int .u64 0, .int .u64 0, .bool false, .int .u64 0, .int .u64 0, .int .u64 0, .int .u64 0] _ _ HR7.out
            have hB8 := HB7.out.grown (grown_row w7 R #[.int .i64 0, .int .u64 0, .int .u64 0, .bool false, .int .u64 0, .int .u64 0, .int .u64 0, .int .u64 0]) (by have := HR7.out.lt; omega) (fun x hx => Nat.le_of_eq (Option.some.inj hx))
            have Hv := Lib.hid (run_loadVar_mid (P := Try.prog) _ R 0 45 [.int .i64 0, .int .u64 0, .int .u64 0, .bool false, .int .u64 0, .int .u64 0, .int .u64 0, .int .u64 0] _ hR8.whole Try.underlying45 rfl hoInfo)
            have HB8 := Lib.hid hB8
            clear hR8 hB8 HR7 HB7
            generalize w7.setRow R #[.int .i64 0, .int .u64 0, .int .u64 0, .bool false, .int .u64 0, .int .u64 0, .int .u64 0, .int .u64 0] = w8 at *
            go_wp2_with fail
            have hv := Hv.out
            refine bodyPost_ret (v := .tuple #[.agg #[.int .i64 0, .int .u64 0, .int .u64 0, .bool false, .int .u64 0, .int .u64 0, .int .u64 0, .int .u64 0], .bool false]) (by simp [results, Try.results22, asAddr, hv, Result.andThen]; try rfl) rfl ⟨by rw [HRes.out]; rfl, by rw [HRx.out]; exact HB8.out⟩
          · clear hmy
            have HRes := Lib.hid hq
            clear hq HH7
            go_wp2_with (refine wpList_store_row rfl _ _ _ rfl R #[.int .i64 0, .int .u64 0, .int .u64 0, .bool false, .int .u64 0, .int .u64 0, .int .u64 0, .int .u64 0] rfl rfl _ _ HR7.out hoInfo rfl (by decide +kernel) ?_)
            have hR8 : HB (w7.setRow R #[.int .i64 0, .int .u64 0, .int .u64 0, .bool false, .int .u64 0, .int .u64 0, .int .u64 0, .int .u64 0]) R 45 [.int .i64 0, .int .u64 0, .int .u64 0, .bool false, .int .u64 0, .int .u64 0, .int .u64 0, .int .u64 0] := setRow_heap w7 R _ #[.int .i64 0, .int .u64 0, .int .u64 0, .bool false, .int .u64 0, .int .u64 0, .int .u64 0, .int .u64 0] _ _ HR7.out
            have hB8 := HB7.out.grown (grown_row w7 R #[.int .i64 0, .int .u64 0, .int .u64 0, .bool false, .int .u64 0, .int .u64 0, .int .u64 0, .int .u64 0]) (by have := HR7.out.lt; omega) (fun x hx => Nat.le_of_eq (Option.some.inj hx))
            have Hv := Lib.hid (run_loadVar_mid (P := Try.prog) _ R 0 45 [.int .i64 0, .int .u64 0, .int .u64 0, .bool false, .int .u64 0, .int .u64 0, .int .u64 0, .int .u64 0] _ hR8.whole Try.underlying45 rfl hoInfo)
            have HB8 := Lib.hid hB8
            clear hR8 hB8 HR7 HB7
            generalize w7.setRow R #[.int .i64 0, .int .u64 0, .int .u64 0, .bool false, .int .u64 0, .int .u64 0, .int .u64 0, .int .u64 0] = w8 at *
            go_wp2_with fail
            have hv := Hv.out
            refine bodyPost_ret (v := .tuple #[.agg #[.int .i64 0, .int .u64 0, .int .u64 0, .bool false, .int .u64 0, .int .u64 0, .int .u64 0, .int .u64 0], .bool false]) (by simp [results, Try.results22, asAddr, hv, Result.andThen]; try rfl) rfl ⟨by rw [HRes.out]; rfl, by rw [HRx.out]; exact HB8.out⟩
  · have hq := decR_no (b := b) (fun h => h50 (by omega))
    have HR := Lib.hid hq
    have e1 : ((n : Int) == 50) = false := beq_eq_false_iff_ne.2 (by omega)
    have e2 : ((n : Int) != 50) = true := bne_iff_ne.2 (by omega)
    clear hr hl h50 hq
    go_enter Try.func22, Try.ntmps22
    go_wp2_with fail
    refine bodyPost_ret (v := .tuple #[hov hoz, .bool false]) (by simp [results, Try.results22, go_sem]; try rfl) rfl ⟨by rw [HR.out], ?_⟩
    exact (HB0 _ _).out
end Go.Proofs.Ythhodibfbfmijaa
