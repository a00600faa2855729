/- A block of SHA-256, taken in by the program. No condition. -/
import Derived.Test.YtngkelflfahjbaaDoorShaU
import Derived.Deep.DeepCutAuto
set_option linter.unusedVariables false
set_option linter.unusedSimpArgs false
namespace Go.Proofs.YtngkelflfahjbaaDoor
open Go.RowKit
structure R1In (B : Nat) (b : List UInt8) (w : World) (i : Value) (wr : World) : Prop where
  x : ∃ t : Nat, t ≤ 64 ∧ i = .int .i64 (t : Nat) ∧ HB wr B 88 (fillA u32v (u32v 0) 64 (wl 32 b t)) ∧ Below B w wr ∧ B < wr.heap.size
structure R2In (VB : Nat) (l : List Nat) (w2 : World) (i : Value) (wr : World) : Prop where
  x : ∃ t : Nat, t ≤ 8 ∧ i = .int .i64 (t : Nat) ∧ HB wr VB 90 (fillA u32v (u32v 0) 8 (l.take t)) ∧ Below VB w2 wr ∧ VB < wr.heap.size
structure R3In (VB : Nat) (ws : List Nat) (s : S8) (w2 : World) (i : Value) (wr : World) : Prop where
  x : ∃ t : Nat, t ≤ 64 ∧ i = .int .i64 (t : Nat) ∧ HB wr VB 90 ((s8l (run8 32 (consw 32) ws t s)).map u32v) ∧ Below VB w2 wr ∧ VB < wr.heap.size
structure R4In (hb : Nat) (pre post : List Value) (new old : List Nat) (w : World) (i : Value) (wr : World) : Prop where
  x : ∃ t : Nat, t ≤ 8 ∧ i = .int .i64 (t : Nat) ∧ HB wr hb 67 (pre ++ (mixL new old t).map u64v ++ post) ∧ w.grownBy wr (some hb)
theorem run8_lt {w : Nat} {ks xs : List Nat} {s : S8} (h : s.Lt (2 ^ w)) : ∀ n, (run8 w ks xs n s).Lt (2 ^ w)
  | 0 => h
  | n + 1 => by
    have ih := run8_lt (ks := ks) (xs := xs) h n
    exact ⟨Nat.mod_lt _ (Nat.two_pow_pos _), ih.a, ih.b, ih.c, Nat.mod_lt _ (Nat.two_pow_pos _), ih.e, ih.f, ih.g⟩
theorem cons32_get (t : Nat) : (consw 32)[t]?.getD 0 = (cons64[t]?.getD 0) / 4294967296 := by
  unfold consw
  rw [if_neg (by decide), List.getElem?_map]
  cases cons64[t]? <;> rfl
theorem wl_snoc (w : Nat) (b : List UInt8) (t x : Nat) (h : (wl w b (t + 1))[t]? = some x) : wl w b (t + 1) = wl w b t ++ [x] := by
  rw [wl_next] at h
  show wl w b t ++ [_] = _
  rw [Option.some.inj h]
set_option maxRecDepth 100000 in
set_option maxHeartbeats 1000000 in
theorem round32_any (hb : Nat) (pre post : List Value) (s : S8) (ao : Option Addr) (cap : Nat) (b : List UInt8) (w : World) (hp : pre.length = 11) (hH : HB w hb 67 (pre ++ (s8l s).map u64v ++ post)) (hs : s.Lt 4294967296)
    (hl : b.length = 64) (hcap : 64 ≤ cap) (hr : Rd w ao b) (htab : ∀ i, i < 80 → w.cell? ⟨0, i, none⟩ = some (.int .u64 ((cons64[i]?.getD 0 : Nat) : Int))) (hb0 : hb ≠ 0) (h00 : 0 < w.heap.size) :
    Calls Tryd.prog 48 #[.pointer (some ⟨hb, 0, none⟩), .slice ao 64 cap] w fun e w' => e = .returned (.tuple #[]) ∧ w.grownBy w' (some hb) ∧
      ∃ v, v = block8 32 s b ∧ HB w' hb 67 (pre ++ (s8l v).map u64v ++ post) := by
  have hz8 : ∀ w, (zeroValue 90).run Tryd.prog w = .ok (.agg (fillA u32v (u32v 0) 8 []).toArray) w := fun w => by kernel_rfl
  have Hz8 := Lib.hid hz8
  clear hz8
  have hz64 : ∀ w, (zeroValue 88).run Tryd.prog w = .ok (.agg (fillA u32v (u32v 0) 64 (wl 32 b 0)).toArray) w := fun w => by kernel_rfl
  have HW := Lib.hid (HB.new w (fillA u32v (u32v 0) 64 (wl 32 b 0)) 88)
  have HBl := Lib.hid ((Below.refl w.heap.size w).alloc (Nat.le_refl _) (.cells (fillA u32v (u32v 0) 64 (wl 32 b 0)).toArray 88))
  have Hsz : Hid ((w.alloc (.cells (fillA u32v (u32v 0) 64 (wl 32 b 0)).toArray 88)).heap.size = w.heap.size + 1) := Lib.hid (by simp)
  have HH := Lib.hid hH
  have Hs := Lib.hid hs
  have Hl := Lib.hid hl
  have Hr := Lib.hid hr
  have Htab := Lib.hid htab
  have Hp := Lib.hid hp
  clear hH hs hl hr htab hp
  go_enter Tryd.func48, Tryd.ntmps48
  go_wp2_with fail
  as_aux_lemma =>
  generalize w.alloc (.cells (fillA u32v (u32v 0) 64 (wl 32 b 0)).toArray 88) = w1 at *
  obtain ⟨B, hB⟩ : ∃ B, w.heap.size = B := ⟨_, rfl⟩
  rw [hB] at HW HBl Hsz ⊢
  have HBx := Lib.hid hB
  clear hB hz64
  go_loopw [5, 6, 7, 8, 9, 21] (fun _ _ _ _ _ i wr => R1In B b w i wr) (fun _ _ _ _ _ i _ => 64 - (intOf i).toNat)
  case atStart => exact ⟨0, by omega, rfl, HW.out, HBl.out, by rw [Hsz.out]; omega⟩
  case round =>
    as_aux_lemma =>
    clear HW HBl Hsz
    obtain ⟨t, ht, rfl, hW, hBl, hsz⟩ := hrel
    have HW := Lib.hid hW
    have HBl := Lib.hid hBl
    have Hsz := Lib.hid hsz
    clear hW hBl hsz
    by_cases hlt : t < 64
    · by_cases h16 : t < 16
      · obtain ⟨f, hf⟩ : ∃ f, 4 * t = f := ⟨_, rfl⟩
        obtain ⟨bo, hsl, -, hslr⟩ := slice_bytes byteRow02 ao 64 cap f (f + 4) (by omega) (by omega) .i64 .i64
        have hRw : Rd wr ao b := Hr.out.below (by rw [HBx.out]; exact HBl.out)
        have hR4 := hslr wr b hRw Hl.out (by omega)
        rw [show f + 4 - f = 4 by omega] at hsl hR4
        have hpl : ((b.drop f).take 4).length = 4 := by rw [List.length_take, List.length_drop, Hl.out]; omega
        have Hwo := Lib.hid (word_any bo 4 (cap - f) _ wr hpl (by decide) hR4)
        have hX := beN_lt ((b.drop f).take 4)
        rw [hpl] at hX
        have hw1 := wl_next 32 b t
        rw [if_pos h16] at hw1
        have hpc : beN (piece b (t * (32 / 8)) (32 / 8)) = beN ((b.drop f).take 4) := by
          show beN ((b.drop (t * 4)).take 4) = _
          rw [show t * 4 = f by omega]
        rw [hpc] at hw1
        generalize beN ((b.drop f).take 4) = X at *
        have hsn := wl_snoc 32 b t X hw1
        have hcell := HW.out.cell (fillA_next (f := u32v) (z := u32v 0) (wl_len 32 b t) hlt)
        have hfz := HW.out.frozen t
        have HS := Lib.hid (HW.out.set t (u32v X))
        rw [fillA_set (wl_len 32 b t) hlt, ← hsn] at HS
        have q1 : IntKind.i64.wrap (4 * (t : Int)) = (f : Int) := by rw [IntWalk.i64_in _ (by omega)]; omega
        have q2 : IntKind.i64.wrap ((f : Int) + 4) = ((f + 4 : Nat) : Int) := by rw [IntWalk.i64_in _ (by omega)]; omega
        have q3 : IntKind.u32.wrap (X : Int) = (X : Int) := by rw [wrap32]; congr 1; omega
        have q4 : (t : Int) < 64 := by omega
        have q5 : (t : Int) < 16 := by omega
        have HB5 := Lib.hid (HBl.out.grown (grown_set wr ⟨B, t, none⟩ (u32v X)) (by have := Hsz.out; omega) (fun x hx => Nat.le_of_eq (Option.some.inj hx)))
        have Hs5 : Hid (B < (wr.setCell ⟨B, t, none⟩ (u32v X)).heap.size) := Lib.hid (by have := Hsz.out; simpa [World.setCell] using this)
        unfold u32v at hcell HS HB5 Hs5
        push_cast at q2 hsl
        clear hslr hRw hR4 hpl hX hw1 hpc hsn hf h16
        go_wp2_with fail
        as_aux_lemma =>
        refine Hwo.out.mono ?_
        rintro e w2 ⟨rfl, rfl⟩
        clear HBl HW Hsz Hwo
        go_wp2_with fail
        clear hcell hfz
        first
        | (go_roundw
           case rel => exact ⟨t + 1, by omega, by go_num, HS.out, HB5.out, Hs5.out⟩
           case measure => (first | omega | (simp [intOf] <;> omega) | (simp only [intOf] <;> omega)))
        | exact ⟨⟨t + 1, by omega, by go_num, HS.out, HB5.out, Hs5.out⟩, by (first | omega | (simp [intOf] <;> omega) | (simp only [intOf] <;> omega))⟩
        | (refine ⟨?_, by (first | omega | (simp [intOf] <;> omega) | (simp only [intOf] <;> omega))⟩
           (repeat apply Exists.intro)
           refine (fun a b => And.intro b a) ?_ ?_
           · first | rfl | ((repeat refine ⟨rfl, ?_⟩); rfl)
           exact ⟨t + 1, by omega, by go_num, HS.out, HB5.out, Hs5.out⟩)
      · obtain ⟨t15, e15⟩ : ∃ q, q + 15 = t := ⟨t - 15, by omega⟩
        obtain ⟨t2, e2⟩ : ∃ q, q + 2 = t := ⟨t - 2, by omega⟩
        obtain ⟨t16, e16⟩ : ∃ q, q + 16 = t := ⟨t - 16, by omega⟩
        obtain ⟨t7, e7⟩ : ∃ q, q + 7 = t := ⟨t - 7, by omega⟩
        have hw1 := wl_next 32 b t
        rw [if_neg h16, show t - 2 = t2 by omega, show t - 7 = t7 by omega, show t - 15 = t15 by omega, show t - 16 = t16 by omega] at hw1
        have g15 := fillA_get (f := u32v) (z := u32v 0) (M := 64) (j := t15) (l := wl 32 b t) (by rw [wl_len]; omega)
        have g2 := fillA_get (f := u32v) (z := u32v 0) (M := 64) (j := t2) (l := wl 32 b t) (by rw [wl_len]; omega)
        have g16 := fillA_get (f := u32v) (z := u32v 0) (M := 64) (j := t16) (l := wl 32 b t) (by rw [wl_len]; omega)
        have g7 := fillA_get (f := u32v) (z := u32v 0) (M := 64) (j := t7) (l := wl 32 b t) (by rw [wl_len]; omega)
        have hx := wl_get_lt (w := 32) (Or.inl rfl) b t t15
        have hy := wl_get_lt (w := 32) (Or.inl rfl) b t t2
        generalize (wl 32 b t)[t15]?.getD 0 = x at *
        generalize (wl 32 b t)[t2]?.getD 0 = y at *
        generalize (wl 32 b t)[t16]?.getD 0 = p at *
        generalize (wl 32 b t)[t7]?.getD 0 = q at *
        have hrng := HW.out
        have k15 := fun n => (hrng.drn (⟨n, rfl⟩ : Drn wr (wr.drewN n))).cell g15
        have k2 := fun n => (hrng.drn (⟨n, rfl⟩ : Drn wr (wr.drewN n))).cell g2
        have k15' := hrng.cell g15
        have k2' := hrng.cell g2
        have q1 : IntKind.i64.wrap ((t : Int) - 15) = (t15 : Int) := by rw [IntWalk.i64_in _ (by omega)]; omega
        have q2 : IntKind.i64.wrap ((t : Int) - 2) = (t2 : Int) := by rw [IntWalk.i64_in _ (by omega)]; omega
        have q3 : IntKind.i64.wrap ((t : Int) - 16) = (t16 : Int) := by rw [IntWalk.i64_in _ (by omega)]; omega
        have q4 : IntKind.i64.wrap ((t : Int) - 7) = (t7 : Int) := by rw [IntWalk.i64_in _ (by omega)]; omega
        have i1 : (t15 : Int) < 64 := by omega
        have i2 : (t2 : Int) < 64 := by omega
        have i3 : (t16 : Int) < 64 := by omega
        have i4 : (t7 : Int) < 64 := by omega
        have i5 : (t : Int) < 64 := by omega
        have i6 : ¬ (t : Int) < 16 := by omega
        have i7 : (0 : Int) ≤ (t : Int) := by omega
        have Hx := Lib.hid hx
        have Hy := Lib.hid hy
        have Hw1 := Lib.hid hw1
        have HG := Lib.hid (And.intro g16 g7)
        have Ha := Lib.hid (fun w => rotl32 x 7 (-7) w rfl (by decide) (by decide) hx)
        have Hb := Lib.hid (fun w => rotl32 x 18 (-18) w rfl (by decide) (by decide) hx)
        have Hc := Lib.hid (fun w => rotl32 y 17 (-17) w rfl (by decide) (by decide) hy)
        have Hd := Lib.hid (fun w => rotl32 y 19 (-19) w rfl (by decide) (by decide) hy)
        unfold u32v at k15 k2 k15' k2'
        clear g15 g2 g16 g7 hx hy hw1 h16 hrng e15 e2 e16 e7
        go_wp2_with fail
        go_quiet (fail)
        as_aux_lemma =>
        have hd : Drn wr (wr.drewN nq) := ⟨nq, rfl⟩
        have HW5 := Lib.hid (HW.out.drn hd)
        have HB5 := Lib.hid (HBl.out.trans (hd.below _))
        have Hs5 : Hid (B < (wr.drewN nq).heap.size) := Lib.hid (by have := Hsz.out; rw [hd.heap]; exact this)
        clear hd k15 k2 k15' k2' HW HBl Hsz q1 q2 i1 i2
        generalize wr.drewN nq = w5 at *
        go_wp2_with fail
        as_aux_lemma =>
        refine (Ha.out _).mono ?_
        rintro e w2 ⟨rfl, rfl⟩
        go_wp2_with fail
        refine (Hb.out _).mono ?_
        rintro e w2 ⟨rfl, rfl⟩
        have hX := sg0_32 Hx.out
        have hs0 := (sg_lt 32 (Or.inl rfl) (x := x) Hx.out).1
        have d1 : (x : Int) / 8 = ((x / 8 : Nat) : Int) := rfl
        obtain ⟨x1, x2⟩ := hX
        generalize rot 32 7 x ^^^ rot 32 18 x = X1 at *
        generalize rot 32 7 x = X7 at *
        generalize rot 32 18 x = X18 at *
        generalize x / 8 = X8 at *
        have Hs0 := Lib.hid hs0
        generalize hS0 : sg0 32 x = S0 at *
        have HS0 := Lib.hid hS0
        clear hS0 hs0
        go_wp2_with fail
        as_aux_lemma =>
        refine (Hc.out _).mono ?_
        rintro e w2 ⟨rfl, rfl⟩
        go_wp2_with fail
        refine (Hd.out _).mono ?_
        rintro e w2 ⟨rfl, rfl⟩
        have hY := sg1_32 Hy.out
        have d2 : (y : Int) / 1024 = ((y / 1024 : Nat) : Int) := rfl
        obtain ⟨y1, y2⟩ := hY
        generalize rot 32 17 y ^^^ rot 32 19 y = Y1 at *
        generalize rot 32 17 y = Y7 at *
        generalize rot 32 19 y = Y18 at *
        generalize y / 1024 = Y8 at *
        generalize hS1 : sg1 32 y = S1 at *
        have HS1 := Lib.hid hS1
        clear hS1
        go_wp2_with fail
        as_aux_lemma =>
        obtain ⟨g16, g7⟩ := HG.out
        have hw1 := Hw1.out

        obtain ⟨A1, hA1⟩ : ∃ A, (p + S0) % 4294967296 = A := ⟨_, rfl⟩
        obtain ⟨A2, hA2⟩ : ∃ A, (A1 + q) % 4294967296 = A := ⟨_, rfl⟩
        obtain ⟨A3, hA3⟩ : ∃ A, (A2 + S1) % 4294967296 = A := ⟨_, rfl⟩
        have a1 : IntKind.u32.wrap ((p : Int) + (S0 : Int)) = (A1 : Int) := by rw [← hA1, ← wrap32]; push_cast; rfl
        have a2 : IntKind.u32.wrap ((A1 : Int) + (q : Int)) = (A2 : Int) := by rw [← hA2, ← wrap32]; push_cast; rfl
        have a3 : IntKind.u32.wrap ((A2 : Int) + (S1 : Int)) = (A3 : Int) := by rw [← hA3, ← wrap32]; push_cast; rfl
        have hA : (S1 + q + S0 + p) % 2 ^ 32 = A3 := by
          show (S1 + q + S0 + p) % 4294967296 = A3
          omega
        rw [hA] at hw1
        have hsn := wl_snoc 32 b t A3 hw1
        have hrng := HW5.out
        have k16 := hrng.cell g16
        have k7 := hrng.cell g7
        have k16' := fun n => (hrng.drn (⟨n, rfl⟩ : Drn w5 (w5.drewN n))).cell g16
        have k7' := fun n => (hrng.drn (⟨n, rfl⟩ : Drn w5 (w5.drewN n))).cell g7
        have hcell := hrng.cell (fillA_next (f := u32v) (z := u32v 0) (wl_len 32 b t) hlt)
        have hfz := hrng.frozen t
        have HS := Lib.hid ((hrng.set t (u32v A3)).drn (Drn.refl _).drew)
        rw [fillA_set (wl_len 32 b t) hlt, ← hsn] at HS
        have HB6 := Lib.hid ((HB5.out.grown (grown_set w5 ⟨B, t, none⟩ (u32v A3)) (by have := Hs5.out; omega) (fun x hx => Nat.le_of_eq (Option.some.inj hx))).drew)
        have Hs6 : Hid (B < (w5.setCell ⟨B, t, none⟩ (u32v A3)).drew.heap.size) := Lib.hid (by have := Hs5.out; simpa [World.setCell] using this)
        unfold u32v at k16 k7 k16' k7' hcell HS HB6 Hs6
        clear g16 g7 hw1 hA1 hA2 hA3 hA hsn hrng x1 x2 y1 y2 d1 d2 Ha Hb Hc Hd HG Hw1 HS1 HS0 HW5 HB5 Hs5
        go_region
        as_aux_lemma =>
        clear k16 k7 k16' k7' hcell hfz a1 a2 a3 q3 q4 i3 i4
        generalize (w5.setCell ⟨B, t, none⟩ (.int .u32 A3)).drew = w6 at *
        go_wp2_with fail
        first
        | (go_roundw
           case rel => exact ⟨t + 1, by omega, by go_num, HS.out, HB6.out, Hs6.out⟩
           case measure => (first | omega | (simp [intOf] <;> omega) | (simp only [intOf] <;> omega)))
        | exact ⟨⟨t + 1, by omega, by go_num, HS.out, HB6.out, Hs6.out⟩, by (first | omega | (simp [intOf] <;> omega) | (simp only [intOf] <;> omega))⟩
        | (refine ⟨?_, by (first | omega | (simp [intOf] <;> omega) | (simp only [intOf] <;> omega))⟩
           (repeat apply Exists.intro)
           refine (fun a b => And.intro b a) ?_ ?_
           · first | rfl | ((repeat refine ⟨rfl, ?_⟩); rfl)
           exact ⟨t + 1, by omega, by go_num, HS.out, HB6.out, Hs6.out⟩)
    · obtain rfl : t = 64 := by omega
      have hHlt := HH.out.lt
      rw [HBx.out] at hHlt
      have HHr := Lib.hid (HH.out.below HBl.out hHlt)
      have HWr := HW.out
      rw [fillA_full (wl_len 32 b 64)] at HWr
      have HW2 := Lib.hid (HWr.alloc (.cells (fillA u32v (u32v 0) 8 []).toArray 90))
      have HH2 := Lib.hid (HHr.out.alloc (.cells (fillA u32v (u32v 0) 8 []).toArray 90))
      have HV2 := Lib.hid (HB.new wr (fillA u32v (u32v 0) 8 []) 90)
      have HB2 := Lib.hid (HBl.out.alloc (by have := Hsz.out; omega) (.cells (fillA u32v (u32v 0) 8 []).toArray 90))
      have Hlt : Hid (hb < B ∧ B < wr.heap.size) := Lib.hid ⟨hHlt, Hsz.out⟩
      have hrg := HH2.out.range 11 8
      rw [mid_take Hp.out (by rw [List.length_map]; rfl)] at hrg
      have hz8 := Hz8.out
      have hi63 : (Tryd.prog.info? 63).map (·.size) = some ((s8l s).map u64v).length := by rw [List.length_map]; kernel_rfl
      have Hrg := Lib.hid hrg
      have Hi63 := Lib.hid hi63
      clear hHlt hlt ht HWr HHr HW HBl Hsz hrg hi63 Hz8
      go_wp2_with (refine wpList_load_mid rfl _ _ rfl hb 11 rfl ((s8l s).map u64v) _ Hrg.out Tryd.underlying63 rfl Hi63.out ?_)
      as_aux_lemma =>
      clear hz8 Hrg Hi63
      generalize wr.alloc (.cells (fillA u32v (u32v 0) 8 []).toArray 90) = w2 at *
      generalize wr.heap.size = VB at *
      have Hsv : Hid (VB < w2.heap.size) := Lib.hid HV2.out.lt
      go_loopw [11, 12, 81] (fun _ _ i wr => R2In VB (s8l s) w2 i wr) (fun _ _ i _ => 8 - (intOf i).toNat)
      case atStart => exact ⟨0, by omega, rfl, HV2.out, Below.refl _ _, Hsv.out⟩
      case round =>
        as_aux_lemma =>
        clear HV2 Hsv
        obtain ⟨t, ht, rfl, hV, hBl, hsz⟩ := hrel
        have HV := Lib.hid hV
        have HBl := Lib.hid hBl
        have Hsz := Lib.hid hsz
        clear hV hBl hsz
        by_cases hlt : t < 8
        · obtain ⟨X, hX⟩ : ∃ X, (s8l s)[t]? = some X := ⟨_, List.getElem?_eq_getElem (by rw [s8l_len]; exact hlt)⟩
          have hXl := Hs.out.all X (List.mem_of_getElem? hX)
          have hidx : ∀ w, (Instr.index 63 (.agg ((s8l s).map u64v).toArray) (.int .i64 (t : Int))).run Tryd.prog w = .ok (.int .u64 (X : Int)) w := fun w => run_index_one (P := Tryd.prog) w 63 37 8 t ((s8l s).map u64v) .i64 (u64v X) Tryd.underlying63 (Tryd.sizeOf37 w) (Tryd.isAgg37 w) hlt (by rw [List.getElem?_map, hX]; rfl)
          have q1 : IntKind.u32.wrap (X : Int) = (X : Int) := by rw [wrap32]; congr 1; omega
          have q4 : (t : Int) < 8 := by omega
          have hlen : ((s8l s).take t).length = t := by rw [List.length_take, s8l_len]; omega
          have hcell := HV.out.cell (fillA_next (f := u32v) (z := u32v 0) hlen hlt)
          have hfz := HV.out.frozen t
          have HS := Lib.hid (HV.out.set t (u32v X))
          rw [fillA_set hlen hlt, show (s8l s).take t ++ [X] = (s8l s).take (t + 1) by rw [List.take_add_one, hX]; rfl] at HS
          have HB5 := Lib.hid (HBl.out.grown (grown_set wr ⟨VB, t, none⟩ (u32v X)) (by have := Hsz.out; omega) (fun x hx => Nat.le_of_eq (Option.some.inj hx)))
          have Hs5 : Hid (VB < (wr.setCell ⟨VB, t, none⟩ (u32v X)).heap.size) := Lib.hid (by have := Hsz.out; simpa [World.setCell] using this)
          unfold u32v at hcell HS HB5 Hs5
          clear hX hXl hlen HV HBl Hsz
          go_wp2_with fail
          first
          | (go_roundw
             case rel => exact ⟨t + 1, by omega, by go_num, HS.out, HB5.out, Hs5.out⟩
             case measure => (first | omega | (simp [intOf] <;> omega) | (simp only [intOf] <;> omega)))
          | exact ⟨⟨t + 1, by omega, by go_num, HS.out, HB5.out, Hs5.out⟩, by (first | omega | (simp [intOf] <;> omega) | (simp only [intOf] <;> omega))⟩
          | (refine ⟨?_, by (first | omega | (simp [intOf] <;> omega) | (simp only [intOf] <;> omega))⟩
             (repeat apply Exists.intro)
             refine (fun a b => And.intro b a) ?_ ?_
             · first | rfl | ((repeat refine ⟨rfl, ?_⟩); rfl)
             exact ⟨t + 1, by omega, by go_num, HS.out, HB5.out, Hs5.out⟩)
        · obtain rfl : t = 8 := by omega
          have HV5 := HV.out
          rw [List.take_of_length_le (by rw [s8l_len]; exact Nat.le_refl _), fillA_full (s8l_len s)] at HV5
          have HV6 := Lib.hid HV5
          have HW5 := Lib.hid (HW2.out.below HBl.out Hlt.out.2)
          have Hrg := Lib.hid (HW5.out.whole)
          have hi64 : (Tryd.prog.info? 88).map (·.size) = some ((wl 32 b 64).map u32v).length := by rw [List.length_map, wl_len]; kernel_rfl
          have Hi64 := Lib.hid hi64
          have Hsz6 := Lib.hid HBl.out.size
          clear hi64 HV5 hlt ht HV HW5
          go_wp2_with (refine wpList_load_mid rfl _ _ rfl B 0 rfl ((wl 32 b 64).map u32v) _ Hrg.out Tryd.underlying88 rfl Hi64.out ?_)
          as_aux_lemma =>
          clear Hrg Hi64
          go_loopw [13, 14, 15, 16, 17, 18, 91] (fun _ _ _ _ _ _ i wr3 => R3In VB (wl 32 b 64) s w2 i wr3) (fun _ _ _ _ _ _ i _ => 64 - (intOf i).toNat)
          case atStart => exact ⟨0, by omega, rfl, HV6.out, HBl.out, Hsz.out⟩
          case round =>
            as_aux_lemma =>
            clear HV6 HBl Hsz Hsz6
            obtain ⟨t, ht, rfl, hV, hBl, hsz⟩ := hrel
            have HV := Lib.hid hV
            have HBl := Lib.hid hBl
            have Hsz := Lib.hid hsz
            clear hV hBl hsz
            by_cases hlt : t < 64
            · have hSt := run8_lt (w := 32) (ks := consw 32) (xs := wl 32 b 64) (s := s) Hs.out t
              have Hst : Hid (run8 32 (consw 32) (wl 32 b 64) (t + 1) s = step8 32 ((cons64[t]?.getD 0) / 4294967296) ((wl 32 b 64)[t]?.getD 0) (run8 32 (consw 32) (wl 32 b 64) t s)) := Lib.hid (by rw [← cons32_get]; rfl)
              have hXl := wl_get_lt (w := 32) (Or.inl rfl) b 64 t
              have hX : (wl 32 b 64)[t]? = some ((wl 32 b 64)[t]?.getD 0) := by rw [List.getElem?_eq_getElem (by rw [wl_len]; exact hlt)]; rfl
              have hBw : Below B w wr := HB2.out.trans (HBl.out.mono (by have := Hlt.out; omega))
              have ktab := (hBw.cell (p := ⟨0, t, none⟩) (by have := HBx.out; show 0 < B; omega)).trans (Htab.out t (by omega))
              generalize (wl 32 b 64)[t]?.getD 0 = X at *
              have hidx : ∀ w, (Instr.index 88 (.agg ((wl 32 b 64).map u32v).toArray) (.int .i64 (t : Int))).run Tryd.prog w = .ok (.int .u32 (X : Int)) w := fun w => run_index_one (P := Tryd.prog) w 88 87 64 t ((wl 32 b 64).map u32v) .i64 (u32v X) Tryd.underlying88 (Tryd.sizeOf87 w) (Tryd.isAgg87 w) hlt (by rw [List.getElem?_map, hX]; rfl)
              generalize run8 32 (consw 32) (wl 32 b 64) t s = S at *
              obtain ⟨a, b', c, d, e, f, g, h⟩ := S
              obtain ⟨la, lb, lc, ld, le, lf, lg, lh⟩ := hSt
              simp only at la lb lc ld le lf lg lh
              have hV : HB wr VB 90 [.int .u32 (a : Nat), .int .u32 (b' : Nat), .int .u32 (c : Nat), .int .u32 (d : Nat), .int .u32 (e : Nat), .int .u32 (f : Nat), .int .u32 (g : Nat), .int .u32 (h : Nat)] := HV.out
              have HV1 := Lib.hid hV
              have hd0 : ∀ n, Drn wr (wr.drewN n) := fun n => ⟨n, rfl⟩
              have k0 := hV.cell (i := 0) rfl
              have k4 := hV.cell (i := 4) rfl
              have k0' := fun n => (hV.drn (hd0 n)).cell (i := 0) rfl
              have k4' := fun n => (hV.drn (hd0 n)).cell (i := 4) rfl
              have i1 : (t : Int) < 64 := by omega
              have HLa := Lib.hid la
              have HLe := Lib.hid le
              have Hch := Lib.hid (ch_32 le lf lg)
              have Hmj := Lib.hid (mj_32 la lb lc)
              have Hktab := Lib.hid ktab
              clear la lb lc ld le lf lg lh hXl hX hBw ktab HV hV hd0
              go_wp2_with fail
              go_quiet (fail)
              as_aux_lemma =>
              have hd : Drn wr (wr.drewN nq) := ⟨nq, rfl⟩
              have HV5 := Lib.hid (HV1.out.drn hd)
              have HB5 := Lib.hid (HBl.out.trans (hd.below _))
              have Hs5 : Hid (VB < (wr.drewN nq).heap.size) := Lib.hid (by have := Hsz.out; rw [hd.heap]; exact this)
              have Hk5 := Lib.hid (show (wr.drewN nq).cell? ⟨0, t, none⟩ = _ from Hktab.out)
              clear hd k0 k4 k0' k4' HV1 HBl Hsz hidx Hktab
              generalize wr.drewN nq = w5 at *
              have le := HLe.out
              have r1 := fun w => rotl32 e 6 (-6) w rfl (by decide) (by decide) le
              have r2 := fun w => rotl32 e 11 (-11) w rfl (by decide) (by decide) le
              have r3 := fun w => rotl32 e 25 (-25) w rfl (by decide) (by decide) le
              have hX1 := bs1_32 le
              generalize rot 32 6 e ^^^ rot 32 11 e = E1 at *
              generalize rot 32 6 e = E6 at *
              generalize rot 32 11 e = E11 at *
              generalize rot 32 25 e = E25 at *
              obtain ⟨x1, x2⟩ := hX1
              have R1 := Lib.hid r1
              have R2 := Lib.hid r2
              have R3 := Lib.hid r3
              obtain ⟨S1, hS1⟩ : ∃ S1, bs1 32 e = S1 := ⟨_, rfl⟩
              rw [hS1] at x2
              have HS1 := Lib.hid hS1
              clear r1 r2 r3 hS1 le
              go_wp2_with fail
              as_aux_lemma =>
              refine (R1.out _).mono ?_
              rintro e1 w8 ⟨rfl, rfl⟩
              go_wp2_with fail
              refine (R2.out _).mono ?_
              rintro e1 w8 ⟨rfl, rfl⟩
              go_wp2_with fail
              refine (R3.out _).mono ?_
              rintro e1 w8 ⟨rfl, rfl⟩
              have la := HLa.out
              have r1 := fun w => rotl32 a 2 (-2) w rfl (by decide) (by decide) la
              have r2 := fun w => rotl32 a 13 (-13) w rfl (by decide) (by decide) la
              have r3 := fun w => rotl32 a 22 (-22) w rfl (by decide) (by decide) la
              have hX1 := bs0_32 la
              generalize rot 32 2 a ^^^ rot 32 13 a = A1 at *
              generalize rot 32 2 a = A2 at *
              generalize rot 32 13 a = A13 at *
              generalize rot 32 22 a = A22 at *
              obtain ⟨y1, y2⟩ := hX1
              clear R1 R2 R3
              have R1 := Lib.hid r1
              have R2 := Lib.hid r2
              have R3 := Lib.hid r3
              obtain ⟨S0, hS0⟩ : ∃ S0, bs0 32 a = S0 := ⟨_, rfl⟩
              rw [hS0] at y2
              have HS0 := Lib.hid hS0
              clear r1 r2 r3 hS0 la
              go_wp2_with fail
              as_aux_lemma =>
              clear x1 x2
              refine (R1.out _).mono ?_
              rintro e1 w8 ⟨rfl, rfl⟩
              go_wp2_with fail
              refine (R2.out _).mono ?_
              rintro e1 w8 ⟨rfl, rfl⟩
              go_wp2_with fail
              refine (R3.out _).mono ?_
              rintro e1 w8 ⟨rfl, rfl⟩
              clear R1 R2 R3
              go_wp2_with fail
              as_aux_lemma =>
              clear y1 y2
              obtain ⟨NE, hch⟩ := Hch.out
              obtain ⟨c1, c2, c3, c4⟩ := hch
              obtain ⟨CH, hCH⟩ : ∃ CH, chw 32 e f g = CH := ⟨_, rfl⟩
              rw [hCH] at c4
              have c2' : bits .xor .u32 (if IntKind.u32.signed = true then -1 else IntKind.u32.max) (e : Int) = (NE : Int) := by rw [if_neg (by decide)]; exact c2
              have HCH := Lib.hid hCH
              generalize e &&& f = EF at *
              generalize NE &&& g = NG at *
              clear hCH Hch
              obtain ⟨C, hC⟩ : ∃ C, cons64[t]?.getD 0 = C := ⟨_, rfl⟩
              rw [hC] at Hst Hk5
              obtain ⟨Kt, hK⟩ : ∃ K, C / 4294967296 = K := ⟨_, rfl⟩
              rw [hK] at Hst
              have hKl : Kt < 4294967296 := by
                have hC64 : C < 18446744073709551616 := by
                  rw [← hC]
                  have hall : ∀ x ∈ cons64, x < 18446744073709551616 := by decide +kernel
                  by_cases h : t < cons64.length
                  · rw [List.getElem?_eq_getElem h]; exact hall _ (List.getElem_mem h)
                  · rw [List.getElem?_eq_none (by omega)]; decide
                omega
              have s0 : (C : Int) / 4294967296 = (Kt : Int) := by rw [← hK]; rfl
              have s00 : IntKind.u32.wrap (Kt : Int) = (Kt : Int) := by rw [wrap32]; congr 1; omega
              obtain ⟨Z1, hZ1⟩ : ∃ A, (h + S1) % 4294967296 = A := ⟨_, rfl⟩
              obtain ⟨Z2, hZ2⟩ : ∃ A, (Z1 + CH) % 4294967296 = A := ⟨_, rfl⟩
              obtain ⟨Z3, hZ3⟩ : ∃ A, (Z2 + Kt) % 4294967296 = A := ⟨_, rfl⟩
              obtain ⟨Z4, hZ4⟩ : ∃ A, (X + Z3) % 4294967296 = A := ⟨_, rfl⟩
              have s1 : IntKind.u32.wrap ((h : Int) + (S1 : Int)) = (Z1 : Int) := by rw [← hZ1, ← wrap32]; push_cast; rfl
              have s2 : IntKind.u32.wrap ((Z1 : Int) + (CH : Int)) = (Z2 : Int) := by rw [← hZ2, ← wrap32]; push_cast; rfl
              have s3 : IntKind.u32.wrap ((Z2 : Int) + (Kt : Int)) = (Z3 : Int) := by rw [← hZ3, ← wrap32]; push_cast; rfl
              have s4 : IntKind.u32.wrap ((X : Int) + (Z3 : Int)) = (Z4 : Int) := by rw [← hZ4, ← wrap32]; push_cast; rfl
              have HZ := Lib.hid (show (h + S1 + CH + Kt + X) % 4294967296 = Z4 by omega)
              have hV := HV5.out
              have hd0 : ∀ n, Drn w5 (w5.drewN n) := fun n => ⟨n, rfl⟩
              have k7 := hV.cell (i := 7) rfl
              have k5 := hV.cell (i := 5) rfl
              have k6 := hV.cell (i := 6) rfl
              have k7' := fun n => (hV.drn (hd0 n)).cell (i := 7) rfl
              have k5' := fun n => (hV.drn (hd0 n)).cell (i := 5) rfl
              have k6' := fun n => (hV.drn (hd0 n)).cell (i := 6) rfl
              have k9 := Hk5.out
              have k9' := fun n => show (w5.drewN n).cell? ⟨0, t, none⟩ = _ from Hk5.out
              have i2 : (t : Int) < 80 := by omega
              clear hV hd0 hC hK hKl hZ1 hZ2 hZ3 hZ4 Hk5
              go_quiet (fail)
              as_aux_lemma =>
              have hd : Drn w5 (w5.drewN nq) := ⟨nq, rfl⟩
              have HV6 := Lib.hid (HV5.out.drn hd)
              have HB6 := Lib.hid (HB5.out.trans (hd.below _))
              have Hs6 : Hid (VB < (w5.drewN nq).heap.size) := Lib.hid (by have := Hs5.out; rw [hd.heap]; exact this)
              clear hd k7 k5 k6 k7' k5' k6' k9 k9' HV5 HB5 Hs5 c1 c2 c2' c3 c4 s0 s00 s1 s2 s3 s4 i1 i2
              generalize w5.drewN nq = w6 at *
              obtain ⟨m1, m2, m3, m4, m5⟩ := Hmj.out
              obtain ⟨MJ, hMJ⟩ : ∃ M, majw a b' c = M := ⟨_, rfl⟩
              rw [hMJ] at m5
              have HMJ := Lib.hid hMJ
              generalize a &&& b' ^^^ a &&& c = M1 at *
              generalize a &&& b' = AB at *
              generalize a &&& c = AC at *
              generalize b' &&& c = BC at *
              obtain ⟨U, hU⟩ : ∃ A, (S0 + MJ) % 4294967296 = A := ⟨_, rfl⟩
              have s1 : IntKind.u32.wrap ((S0 : Int) + (MJ : Int)) = (U : Int) := by rw [← hU, ← wrap32]; push_cast; rfl
              have HU := Lib.hid hU
              have hV := HV6.out
              have k1 := hV.cell (i := 1) rfl
              have k2 := hV.cell (i := 2) rfl
              clear hMJ hU hV Hmj
              go_wp2_with fail
              as_aux_lemma =>
              clear m1 m2 m3 m4 m5 s1
              clear k1 k2
              have hVd := HV6.out.drn (Drn.refl _).drew
              have HVd := Lib.hid hVd
              have Hsrc : Hid (∀ j v, ([Value.int .u32 (a : Nat), Value.int .u32 (b' : Nat), Value.int .u32 (c : Nat), Value.int .u32 (d : Nat), Value.int .u32 (e : Nat), Value.int .u32 (f : Nat), Value.int .u32 (g : Nat)])[j]? = some v → w6.drew.cell? ((⟨VB, 0, none⟩ : Addr).add j) = some v) := Lib.hid (fun j v hj => by
                rw [Addr.add_mid, Nat.zero_add]
                refine hVd.cell ?_
                have hj7 : j < 7 := (List.getElem?_eq_some_iff.1 hj).1
                exact (match j, hj7, hj with
                  | 0, _, hj => hj
                  | 1, _, hj => hj
                  | 2, _, hj => hj
                  | 3, _, hj => hj
                  | 4, _, hj => hj
                  | 5, _, hj => hj
                  | 6, _, hj => hj))
              have H1c : Hid (∀ v ∈ [Value.int .u32 (a : Nat), Value.int .u32 (b' : Nat), Value.int .u32 (c : Nat), Value.int .u32 (d : Nat), Value.int .u32 (e : Nat), Value.int .u32 (f : Nat), Value.int .u32 (g : Nat)], v.oneCell' = true) := Lib.hid (by
                intro v hv
                simp only [List.mem_cons, List.not_mem_nil, or_false] at hv
                rcases hv with rfl | rfl | rfl | rfl | rfl | rfl | rfl <;> rfl)
              have Hi87 : Hid ((Tryd.prog.info? 87).map (·.size) = some 1) := Lib.hid (by kernel_rfl)
              clear hVd
              go_region_law ((refine step_of_wp rfl (wp_copy_row (.tmp 155) (.tmp 156) 91 91 rfl 87 Tryd.underlying91 Hi87.out VB 1 7 7 ⟨VB, 0, none⟩ 7 8 rfl rfl [Value.int .u32 (a : Nat), Value.int .u32 (b' : Nat), Value.int .u32 (c : Nat), Value.int .u32 (d : Nat), Value.int .u32 (e : Nat), Value.int .u32 (f : Nat), Value.int .u32 (g : Nat), Value.int .u32 (h : Nat)] 90 HVd.out [Value.int .u32 (a : Nat), Value.int .u32 (b' : Nat), Value.int .u32 (c : Nat), Value.int .u32 (d : Nat), Value.int .u32 (e : Nat), Value.int .u32 (f : Nat), Value.int .u32 (g : Nat)] rfl Hsrc.out (Nat.le_refl 8) H1c.out [Value.int .u32 (a : Nat), Value.int .u32 (a : Nat), Value.int .u32 (b' : Nat), Value.int .u32 (c : Nat), Value.int .u32 (d : Nat), Value.int .u32 (e : Nat), Value.int .u32 (f : Nat), Value.int .u32 (g : Nat)] rfl ?_)))
              as_aux_lemma =>
              have HV7 : Hid (HB (w6.drew.setRow VB #[Value.int .u32 (a : Nat), Value.int .u32 (a : Nat), Value.int .u32 (b' : Nat), Value.int .u32 (c : Nat), Value.int .u32 (d : Nat), Value.int .u32 (e : Nat), Value.int .u32 (f : Nat), Value.int .u32 (g : Nat)]) VB 90 [Value.int .u32 (a : Nat), Value.int .u32 (a : Nat), Value.int .u32 (b' : Nat), Value.int .u32 (c : Nat), Value.int .u32 (d : Nat), Value.int .u32 (e : Nat), Value.int .u32 (f : Nat), Value.int .u32 (g : Nat)]) := Lib.hid (setRow_heap w6.drew VB _ #[Value.int .u32 (a : Nat), Value.int .u32 (a : Nat), Value.int .u32 (b' : Nat), Value.int .u32 (c : Nat), Value.int .u32 (d : Nat), Value.int .u32 (e : Nat), Value.int .u32 (f : Nat), Value.int .u32 (g : Nat)] _ _ HVd.out)
              have HB7 := Lib.hid ((HB6.out.drew).grown (grown_row w6.drew VB #[Value.int .u32 (a : Nat), Value.int .u32 (a : Nat), Value.int .u32 (b' : Nat), Value.int .u32 (c : Nat), Value.int .u32 (d : Nat), Value.int .u32 (e : Nat), Value.int .u32 (f : Nat), Value.int .u32 (g : Nat)]) (by have := Hs6.out; show VB ≤ w6.heap.size; omega) (fun x hx => Nat.le_of_eq (Option.some.inj hx)))
              have Hs7 : Hid (VB < (w6.drew.setRow VB #[Value.int .u32 (a : Nat), Value.int .u32 (a : Nat), Value.int .u32 (b' : Nat), Value.int .u32 (c : Nat), Value.int .u32 (d : Nat), Value.int .u32 (e : Nat), Value.int .u32 (f : Nat), Value.int .u32 (g : Nat)]).heap.size) := Lib.hid (by have := Hs6.out; simpa [World.setRow] using this)
              clear HVd Hsrc H1c Hi87 HV6 HB6 Hs6
              generalize w6.drew.setRow VB #[Value.int .u32 (a : Nat), Value.int .u32 (a : Nat), Value.int .u32 (b' : Nat), Value.int .u32 (c : Nat), Value.int .u32 (d : Nat), Value.int .u32 (e : Nat), Value.int .u32 (f : Nat), Value.int .u32 (g : Nat)] = w7 at *
              obtain ⟨V4, hV4⟩ : ∃ A, (d + Z4) % 4294967296 = A := ⟨_, rfl⟩
              obtain ⟨V0, hV0⟩ : ∃ A, (Z4 + U) % 4294967296 = A := ⟨_, rfl⟩
              have s1 : IntKind.u32.wrap ((d : Int) + (Z4 : Int)) = (V4 : Int) := by rw [← hV4, ← wrap32]; push_cast; rfl
              have s2 : IntKind.u32.wrap ((Z4 : Int) + (U : Int)) = (V0 : Int) := by rw [← hV0, ← wrap32]; push_cast; rfl
              have Hres : Hid (run8 32 (consw 32) (wl 32 b 64) (t + 1) s = ⟨V0, a, b', c, V4, e, f, g⟩) := Lib.hid (by
                rw [Hst.out]
                unfold step8
                simp only
                rw [HS1.out, HCH.out, HS0.out, HMJ.out]
                have hz := HZ.out
                have hu := HU.out
                congr 1
                · show (h + S1 + CH + Kt + X + (S0 + MJ)) % 4294967296 = V0
                  omega
                · show (d + (h + S1 + CH + Kt + X)) % 4294967296 = V4
                  omega)
              have k4 := HV7.out.cell (i := 4) rfl
              have k0 := HV7.out.cell (i := 0) rfl
              have f4 := HV7.out.frozen 4
              have f0 := HV7.out.frozen 0
              have HV8 := Lib.hid ((HV7.out.set 4 (.int .u32 (V4 : Nat))).set 0 (.int .u32 (V0 : Nat)))
              have HB8 := Lib.hid ((HB7.out.grown (grown_set w7 ⟨VB, 4, none⟩ (.int .u32 (V4 : Nat))) (by have := Hs7.out; omega) (fun x hx => Nat.le_of_eq (Option.some.inj hx))).grown (grown_set (w7.setCell ⟨VB, 4, none⟩ (.int .u32 (V4 : Nat))) ⟨VB, 0, none⟩ (.int .u32 (V0 : Nat))) (by have := Hs7.out; simp [World.setCell]; omega) (fun x hx => Nat.le_of_eq (Option.some.inj hx)))
              have Hs8 : Hid (VB < ((w7.setCell ⟨VB, 4, none⟩ (.int .u32 (V4 : Nat))).setCell ⟨VB, 0, none⟩ (.int .u32 (V0 : Nat))).heap.size) := Lib.hid (by have := Hs7.out; simpa [World.setCell] using this)
              clear hV4 hV0 Hst HZ HU HMJ HS0 HCH HS1 HV7 HB7 Hs7
              go_wp2_with fail
              clear k4 k0 f4 f0 s1 s2
              first
              | (go_roundw
                 case rel => exact ⟨t + 1, by omega, by go_num, by rw [Hres.out]; exact HV8.out, HB8.out, Hs8.out⟩
                 case measure => (first | omega | (simp [intOf] <;> omega) | (simp only [intOf] <;> omega)))
              | exact ⟨⟨t + 1, by omega, by go_num, by rw [Hres.out]; exact HV8.out, HB8.out, Hs8.out⟩, by (first | omega | (simp [intOf] <;> omega) | (simp only [intOf] <;> omega))⟩
              | (refine ⟨?_, by (first | omega | (simp [intOf] <;> omega) | (simp only [intOf] <;> omega))⟩
                 (repeat apply Exists.intro)
                 refine (fun a b => And.intro b a) ?_ ?_
                 · first | rfl | ((repeat refine ⟨rfl, ?_⟩); rfl)
                 exact ⟨t + 1, by omega, by go_num, by rw [Hres.out]; exact HV8.out, HB8.out, Hs8.out⟩)
            · obtain rfl : t = 64 := by omega
              have Hrg := Lib.hid HV.out.whole
              have hi8 : (Tryd.prog.info? 90).map (·.size) = some ((s8l (run8 32 (consw 32) (wl 32 b 64) 64 s)).map u32v).length := by rw [List.length_map]; kernel_rfl
              have Hi8 := Lib.hid hi8
              have HBw := Lib.hid (HB2.out.trans (HBl.out.mono (by have := Hlt.out; omega)))
              have HHw := Lib.hid (HH2.out.below HBl.out (by have := Hlt.out; omega))
              have Hnew : Hid (block8 32 s b = add8 32 s (run8 32 (consw 32) (wl 32 b 64) 64 s)) := Lib.hid (by unfold block8 rnds; rfl)
              generalize run8 32 (consw 32) (wl 32 b 64) 64 s = V at *
              clear hi8 HV HBl Hsz hlt ht
              go_wp2_with (refine wpList_load_mid rfl _ _ rfl VB 0 rfl ((s8l V).map u32v) _ Hrg.out Tryd.underlying90 rfl Hi8.out ?_)
              as_aux_lemma =>
              clear Hrg Hi8
              go_loopw [19, 20, 169] (fun _ _ i w9 => R4In hb pre post (s8l (add8 32 s V)) (s8l s) w i w9) (fun _ _ i _ => 8 - (intOf i).toNat)
              case atStart => exact ⟨0, by omega, rfl, by simpa [mixL] using HHw.out, grown_below (by rw [HBx.out]; exact HBw.out) _⟩
              case round =>
                as_aux_lemma =>
                clear HHw HBw
                obtain ⟨t, ht, rfl, hH, hG⟩ := hrel
                have HH9 := Lib.hid hH
                have HG9 := Lib.hid hG
                clear hH hG
                by_cases hlt : t < 8
                · obtain ⟨X, hX⟩ : ∃ X, (s8l V)[t]? = some X := ⟨_, List.getElem?_eq_getElem (by rw [s8l_len]; exact hlt)⟩
                  obtain ⟨Y, hY⟩ : ∃ Y, (s8l s)[t]? = some Y := ⟨_, List.getElem?_eq_getElem (by rw [s8l_len]; exact hlt)⟩
                  have hYl := Hs.out.all Y (List.mem_of_getElem? hY)
                  have hidx : ∀ w, (Instr.index 90 (.agg ((s8l V).map u32v).toArray) (.int .i64 (t : Int))).run Tryd.prog w = .ok (.int .u32 (X : Int)) w := fun w => run_index_one (P := Tryd.prog) w 90 87 8 t ((s8l V).map u32v) .i64 (u32v X) Tryd.underlying90 (Tryd.sizeOf87 w) (Tryd.isAgg87 w) hlt (by rw [List.getElem?_map, hX]; rfl)
                  have hnw := add8_get (w := 32) (s := s) (v := V) hlt
                  rw [hX, hY] at hnw
                  simp only [Option.getD_some] at hnw
                  obtain ⟨R, hR⟩ : ∃ R, (X + Y) % 4294967296 = R := ⟨_, rfl⟩
                  have hnw2 : (s8l (add8 32 s V))[t]? = some R := by rw [← hR]; exact hnw
                  have s1 : IntKind.u32.wrap (Y : Int) = (Y : Int) := by rw [wrap32]; congr 1; omega
                  have s2 : IntKind.u32.wrap ((Y : Int) + (X : Int)) = (R : Int) := by rw [← hR, ← wrap32]; push_cast; rw [Int.add_comm]
                  have s3 : IntKind.u64.wrap (R : Int) = (R : Int) := IntWalk.u64_in _ (by omega)
                  have i1 : (t : Int) < 8 := by omega
                  have hml := mixL_len (new := s8l (add8 32 s V)) (old := s8l s) (i := t) rfl rfl (by omega)
                  have hg : (pre ++ (mixL (s8l (add8 32 s V)) (s8l s) t).map u64v ++ post)[11 + t]? = some (.int .u64 (Y : Int)) := by
                    rw [mid_get Hp.out (by rw [List.length_map, hml]; exact hlt), List.getElem?_map, mixL_get rfl rfl hlt, hY]; rfl
                  have hst : (pre ++ (mixL (s8l (add8 32 s V)) (s8l s) t).map u64v ++ post).set (11 + t) (.int .u64 (R : Int)) = pre ++ (mixL (s8l (add8 32 s V)) (s8l s) (t + 1)).map u64v ++ post := by
                    rw [mid_set Hp.out (by rw [List.length_map, hml]; exact hlt), ← mixL_set rfl rfl hlt hnw2, List.map_set]; rfl
                  have hcell := HH9.out.cell hg
                  have hfz := HH9.out.frozen (11 + t)
                  have hcell' := fun n => (HH9.out.drn (⟨n, rfl⟩ : Drn wr (wr.drewN n))).cell hg
                  have hfz' := fun n => (HH9.out.drn (⟨n, rfl⟩ : Drn wr (wr.drewN n))).frozen (11 + t)
                  have HS := Lib.hid ((HH9.out.set (11 + t) (.int .u64 (R : Int))).drn (Drn.refl _).drew)
                  rw [hst] at HS
                  have HG := Lib.hid ((HG9.out.trans (grown_set wr ⟨hb, 11 + t, none⟩ (.int .u64 (R : Int)))).trans (grown_drn (Drn.refl _).drew (some hb)))
                  clear hX hY hYl hnw hR hnw2 hml hg hst HH9 HG9
                  go_wp2_with fail
                  go_region
                  as_aux_lemma =>
                  clear hidx hcell hfz hcell' hfz' s1 s2 s3 i1
                  generalize (wr.setCell ⟨hb, 11 + t, none⟩ (.int .u64 (R : Int))).drew = w10 at *
                  go_wp2_with fail
                  first
                  | (go_roundw
                     case rel => exact ⟨t + 1, by omega, by go_num, HS.out, HG.out⟩
                     case measure => (first | omega | (simp [intOf] <;> omega) | (simp only [intOf] <;> omega)))
                  | exact ⟨⟨t + 1, by omega, by go_num, HS.out, HG.out⟩, by (first | omega | (simp [intOf] <;> omega) | (simp only [intOf] <;> omega))⟩
                  | (refine ⟨?_, by (first | omega | (simp [intOf] <;> omega) | (simp only [intOf] <;> omega))⟩
                     (repeat apply Exists.intro)
                     refine (fun a b => And.intro b a) ?_ ?_
                     · first | rfl | ((repeat refine ⟨rfl, ?_⟩); rfl)
                     exact ⟨t + 1, by omega, by go_num, HS.out, HG.out⟩)
                · obtain rfl : t = 8 := by omega
                  go_wp2_with fail
                  go_end0
                  refine ⟨rfl, HG9.out, _, Hnew.out.symm, ?_⟩
                  have h := HH9.out
                  unfold mixL at h
                  rw [List.take_of_length_le (by rw [s8l_len]; exact Nat.le_refl _), List.drop_of_length_le (by rw [s8l_len]; exact Nat.le_refl _), List.append_nil] at h
                  exact h
end Go.Proofs.YtngkelflfahjbaaDoor
