/- The program's hash in memory: its kind, its whole blocks, its words. No condition. -/
import Derived.Test.YtngkelflfahjbaaDoorShaP
import Derived.Test.YtngkelflfahjbaaDoorShaX
set_option linter.unusedVariables false
set_option linter.unusedSimpArgs false
namespace Go.Proofs.YtngkelflfahjbaaDoor
open Go.RowKit
def kdC (k : Nat) : List Value := [.int .u8 k, .bool (decide (k ≠ 1)), .int .i64 (digK k)] ++ (s8l (firstK k)).map u64v
theorem kdC_len (k : Nat) : (kdC k).length = 11 := rfl
/-- the cells of a hash -/
def hashC (k : Nat) (st : S8) (n : Nat) (rv : Value) : List Value := kdC k ++ (s8l st).map u64v ++ [.int .u64 n, rv]
theorem hashC_long (k : Nat) (st : S8) (n : Nat) (rv : Value) : (hashC k st n rv)[1]? = some (.bool (decide (k ≠ 1))) := rfl
theorem hashC_n (k : Nat) (st : S8) (n : Nat) (rv : Value) : (hashC k st n rv)[19]? = some (.int .u64 n) := rfl
theorem hashC_rv (k : Nat) (st : S8) (n : Nat) (rv : Value) : (hashC k st n rv)[20]? = some rv := rfl
theorem hashC_dig (k : Nat) (st : S8) (n : Nat) (rv : Value) : (hashC k st n rv)[2]? = some (.int .i64 (digK k)) := rfl
theorem size_kind {k : Nat} (h : 1 ≤ k ∧ k ≤ 3) : (k = 1 ∧ wK k = 32 ∧ sizeW (wK k) = 64) ∨ (k ≠ 1 ∧ wK k = 64 ∧ sizeW (wK k) = 128) := by
  rcases (by omega : k = 1 ∨ k = 2 ∨ k = 3) with rfl | rfl | rfl
  · exact Or.inl ⟨rfl, rfl, rfl⟩
  · exact Or.inr ⟨by decide, rfl, rfl⟩
  · exact Or.inr ⟨by decide, rfl, rfl⟩
theorem kblock_any (hb k : Nat) (st : S8) (n : Nat) (rv : Value) (w : World) (hk : 1 ≤ k ∧ k ≤ 3) (hH : HB w hb 67 (hashC k st n rv)) :
    Calls Tryd.prog 36 #[.pointer (some ⟨hb, 0, none⟩)] w fun e w' => e = .returned (.int .i64 (sizeW (wK k) : Nat)) ∧ w = w' := by
  have hc := hH.cell (hashC_long k st n rv)
  rcases size_kind hk with ⟨h1, -, h3⟩ | ⟨h1, -, h3⟩
  · rw [h3]
    rw [show decide (k ≠ 1) = false from decide_eq_false (fun h => h h1)] at hc
    clear hH h1 h3 hk
    go_enter Tryd.func36, Tryd.ntmps36
    go_wp2_with fail
    go_ret
    exact ⟨rfl, rfl⟩
  · rw [h3]
    rw [show decide (k ≠ 1) = true from decide_eq_true h1] at hc
    clear hH h1 h3 hk
    go_enter Tryd.func36, Tryd.ntmps36
    go_wp2_with fail
    go_ret
    exact ⟨rfl, rfl⟩
/-- b[f:] of bytes, whatever b is -/
theorem slice_lo (ao : Option Addr) (n cap f : Nat) (h1 : f ≤ n) (h2 : n ≤ cap) (kl : IntKind) :
    ∃ bo : Option Addr, (∀ w, (Instr.slice 22 (.slice ao n cap) (some (.int kl (f : Int))) none none).run Tryd.prog w = .ok (.slice bo (n - f) (cap - f)) w) ∧ (∀ a, bo = some a → ∃ b, ao = some b ∧ b.block = a.block) ∧ (bo = none → ao = none) ∧
      ∀ w l, Rd w ao l → l.length = n → Rd w bo (l.drop f) := by
  have he : Tryd.prog.elem 22 = 5 := by kernel_rfl
  obtain ⟨i, hi, hz0, hz1, hz2⟩ := info_parts byteRow02.info
  refine ⟨if cap = f then ao else ao.map (·.add f), fun w => ?_, ?_, ?_, ?_⟩
  · rw [run_slice_l (P := Tryd.prog) w 22 ao n cap (by rw [he]; exact Tryd.underlying22) kl (f : Int) (by omega) (by omega)]
    have hs : (sizeOf (Tryd.prog.elem 22)).run Tryd.prog w = .ok 1 w := by rw [he]; simp [sizeOf, typeInfo, hi, hz1]
    rw [hs]
    simp [Result.andThen, sliced]
  · intro a h
    split at h
    · exact ⟨a, h, rfl⟩
    · cases ao with
      | none => cases h
      | some b =>
        simp only [Option.map_some, Option.some.injEq] at h
        subst h
        refine ⟨b, rfl, ?_⟩
        unfold Addr.add; split <;> (try split) <;> rfl
  · split
    · exact id
    · intro h; simpa using h
  · intro w l hr hl j hj
    rw [List.length_drop] at hj
    obtain ⟨b, off, rfl, hc⟩ := hr (f + j) (by omega)
    have hne : ¬ cap = f := by omega
    refine ⟨b, off + f, ?_, ?_⟩
    · rw [if_neg hne, Option.map_some, Addr.add_mid]
    · rw [List.getElem?_drop, Nat.add_assoc]; exact hc
theorem slice_bytes_block {P : Program} {T E : TypeId} (R : ByteRow P T E) (ao : Option Addr) (n cap t : Nat) (h2 : t ≤ cap) (kh : IntKind) :
    (∀ w, (Instr.slice T (.slice ao n cap) none (some (.int kh (t : Int))) none).run P w = .ok (.slice ao t cap) w) := by
  obtain ⟨i, hi, hz0, hz1, hz2⟩ := info_parts R.info
  have he : P.elem T = E := by simp [Program.elem, R.ht]
  intro w
  rw [run_slice_h (P := P) w T ao n cap (by rw [he]; exact R.ht) kh (t : Int) (by omega) (by omega)]
  have hs : (sizeOf (P.elem T)).run P w = .ok 1 w := by rw [he]; simp [sizeOf, typeInfo, hi, hz1]
  rw [hs]
  have h0 : ∀ a : Addr, a.add 0 = a := fun a => by unfold Addr.add; simp
  cases ao <;> simp [Result.andThen, sliced, h0]
def lenV : Value → Nat
  | .slice _ m _ => m
  | _ => 0
@[simp] theorem lenV_slice (a : Option Addr) (m c : Nat) : lenV (.slice a m c) = m := rfl
structure BlIn (hb k : Nat) (st : S8) (l : List UInt8) (n : Nat) (rv : Value) (ao : Option Addr) (cap0 : Nat) (w : World) (v : Value) (wr : World) : Prop where
  x : ∃ (s' : S8) (l' : List UInt8) (bo : Option Addr) (m c : Nat), goB (wK k) st l = goB (wK k) s' l' ∧ v = .slice bo m c ∧ l'.length = m ∧ m ≤ c ∧ c ≤ cap0 ∧ Rd w bo l' ∧ (∀ a, bo = some a → ∃ a', ao = some a' ∧ a'.block = a.block) ∧ (bo = none → ao = none) ∧
    HB wr hb 67 (hashC k s' n rv) ∧ s'.Lt (2 ^ wK k) ∧ w.grownBy wr (some hb)
def TabOk (w : World) : Prop := ∀ i, i < 80 → w.cell? ⟨0, i, none⟩ = some (.int .u64 ((cons64[i]?.getD 0 : Nat) : Int))
theorem TabOk.grown {w w' : World} {hb : Nat} (h : TabOk w) (hg : w.grownBy w' (some hb)) (h0 : hb ≠ 0) : TabOk w' := fun i hi => hg.cell (h i hi) (fun e => h0 (Option.some.inj e).symm)
theorem TabOk.below {w w' : World} (h : TabOk w) (hb : Below w.heap.size w w') : TabOk w' := fun i hi => cell_later hb (h i hi)
set_option maxHeartbeats 1000000 in
theorem blocks_any (hb k : Nat) (st : S8) (n : Nat) (rv : Value) (ao : Option Addr) (m cap : Nat) (l : List UInt8) (w : World) (hk : 1 ≤ k ∧ k ≤ 3) (hH : HB w hb 67 (hashC k st n rv)) (hs : st.Lt (2 ^ wK k)) (hl : l.length = m) (hmc : m ≤ cap) (hcm : cap ≤ 9223372036854775807)
    (hr : Rd w ao l) (hne : ∀ a, ao = some a → a.block ≠ hb) (htab : TabOk w) (hb0 : hb ≠ 0) :
    Calls Tryd.prog 35 #[.pointer (some ⟨hb, 0, none⟩), .slice ao m cap] w fun e w' => ∃ bo c, e = .returned (.slice bo (goB (wK k) st l).2.length c) ∧ (goB (wK k) st l).2.length ≤ c ∧ c ≤ cap ∧ Rd w bo (goB (wK k) st l).2 ∧ (∀ a, bo = some a → ∃ a', ao = some a' ∧ a'.block = a.block) ∧ (bo = none → ao = none) ∧
      HB w' hb 67 (hashC k (goB (wK k) st l).1 n rv) ∧ w.grownBy w' (some hb) := by
  have Hkb := Lib.hid (kblock_any hb k st n rv w hk hH)
  have HH0 := Lib.hid hH
  have Hs0 := Lib.hid hs
  have Hl0 := Lib.hid hl
  have Hr0 := Lib.hid hr
  have Hmc0 := Lib.hid hmc
  have Hcm0 := Lib.hid hcm
  have Hne := Lib.hid hne
  have Htab := Lib.hid htab
  have Hhb := Lib.hid hb0
  have Hk := Lib.hid hk
  clear hH hs hl hr hmc hcm hne htab hb0 hk
  go_enter Tryd.func35, Tryd.ntmps35
  go_wp2_with fail
  refine Hkb.out.mono ?_
  rintro e w1 ⟨rfl, rfl⟩
  go_wp2_with fail
  as_aux_lemma =>
  clear Hkb
  go_loopw [1] (fun v wr => BlIn hb k st l n rv ao cap w v wr) (fun v _ => lenV v)
  case atStart => exact ⟨st, l, ao, m, cap, rfl, rfl, Hl0.out, Hmc0.out, Nat.le_refl _, Hr0.out, fun a e => ⟨a, e, rfl⟩, id, HH0.out, Hs0.out, World.grownBy.refl _ _⟩
  case round =>
    as_aux_lemma =>
    clear Hl0 Hmc0 Hcm0 Hr0 HH0 Hs0 m
    obtain ⟨s', l', bo, m, c, hgo, rfl, hl, hmc, hcc, hrd, hbo, hbn, hH, hlt, hg⟩ := hrel
    have Hgo := Lib.hid hgo
    have HL := Lib.hid hl
    have Hmc := Lib.hid hmc
    have Hcc := Lib.hid hcc
    have HRd := Lib.hid hrd
    have Hbo := Lib.hid hbo
    have Hbn := Lib.hid hbn
    have HH := Lib.hid hH
    have Hlt := Lib.hid hlt
    have HG := Lib.hid hg
    clear hgo hl hmc hcc hrd hbo hbn hH hlt hg
    rcases size_kind Hk.out with ⟨h1, hw, hsz⟩ | ⟨h1, hw, hsz⟩
    · rw [hsz]
      by_cases hge : 64 ≤ m
      · have hm1 : m - 64 + 64 = m := by omega
        obtain ⟨q, hq⟩ : ∃ q, m - 64 = q := ⟨_, rfl⟩
        have hs1 := slice_bytes_block byteRow02 bo m c 64 (by have := Hmc.out; omega) .i64
        obtain ⟨b2, hs2, hb2, hn2, hr2⟩ := slice_lo bo m c 64 (by omega) Hmc.out .i64
        rw [hq] at hs2
        push_cast at hs1 hs2
        have hrw : Rd wr bo l' := HRd.out.grown HG.out (fun a e1 e2 => by
          obtain ⟨a', e3, e4⟩ := Hbo.out a e1
          have := Hne.out a' e3
          have := Option.some.inj e2
          omega)
        have hrt : Rd wr bo (l'.take 64) := fun j hj => by
          rw [List.length_take] at hj
          obtain ⟨b', o', e, hc⟩ := hrw j (by omega)
          exact ⟨b', o', e, by rw [List.getElem?_take_of_lt (by omega)]; exact hc⟩
        have hc1 := HH.out.cell (hashC_long k s' n rv)
        have hgt : 64 ≤ m := by omega
        have Hrd := Lib.hid (round32_any hb (kdC k) [.int .u64 n, rv] s' bo c (l'.take 64) wr (kdC_len k) HH.out (by have := Hlt.out; rw [hw] at this; exact this) (by rw [List.length_take, HL.out]; omega) (by have := Hmc.out; omega) hrt (Htab.out.grown HG.out Hhb.out) Hhb.out (by have := HH.out.lt; omega))
        have Hnx : Hid (goB (wK k) st l = goB (wK k) (block8 32 s' (l'.take 64)) (l'.drop 64)) := Lib.hid (by
          rw [Hgo.out, goB_step (by rw [HL.out, hsz]; omega), hsz, hw])
        have HR2 := Lib.hid (hr2 w l' HRd.out HL.out)
        have Hb2 : Hid (∀ a, b2 = some a → ∃ a', ao = some a' ∧ a'.block = a.block) := Lib.hid (fun a e => by
          obtain ⟨x, e1, e2⟩ := hb2 a e
          obtain ⟨y, e3, e4⟩ := Hbo.out x e1
          exact ⟨y, e3, by omega⟩)
        have Hn2 := Lib.hid (fun e => Hbn.out (hn2 e))
        have Hlt2 := Lib.hid (add8_lt (w := 32) s' (run8 32 (consw 32) (wl 32 (l'.take 64) (rnds 32)) (rnds 32) s'))
        have HL2 : Hid ((l'.drop 64).length = q) := Lib.hid (by rw [List.length_drop, HL.out]; omega)
        have Hqc : Hid (q ≤ c - 64) := Lib.hid (by have := Hmc.out; omega)
        have Hqm : Hid (q + 64 = m) := Lib.hid (by omega)
        have g1 : (64 : Int) ≤ (m : Int) := by omega
        clear hb2 hn2 hr2 hrw hrt hq hm1 hgt
        rw [show decide (k ≠ 1) = false from decide_eq_false (fun h => h h1)] at hc1
        have Hw := Lib.hid hw
        clear h1 hw hsz hge
        go_wp2_with fail
        as_aux_lemma =>
        refine (Hrd.out).mono ?_
        rintro e w5 ⟨rfl, hg5, v5, hv5, hH5⟩
        subst hv5
        have HH5 := Lib.hid hH5
        have HG5 := Lib.hid (HG.out.trans hg5)
        clear hH5 hg5 hc1 g1
        clear Hrd HH HG
        go_wp2_with fail
        have hqm := Hqm.out
        have hcc := Hcc.out
        have hw := Hw.out
        first
        | (go_roundw
           case rel => exact ⟨_, _, b2, q, c - 64, Hnx.out, rfl, HL2.out, Hqc.out, by omega, HR2.out, Hb2.out, Hn2.out, HH5.out, by rw [hw]; exact Hlt2.out, HG5.out⟩
           case measure => (first | omega | (simp [intOf] <;> omega) | (simp only [intOf] <;> omega)))
        | exact ⟨⟨_, _, b2, q, c - 64, Hnx.out, rfl, HL2.out, Hqc.out, by omega, HR2.out, Hb2.out, Hn2.out, HH5.out, by rw [hw]; exact Hlt2.out, HG5.out⟩, by (first | omega | (simp [intOf] <;> omega) | (simp only [intOf] <;> omega))⟩
        | (refine ⟨?_, by (first | omega | (simp [intOf] <;> omega) | (simp only [intOf] <;> omega))⟩
           (repeat apply Exists.intro)
           refine (fun a b => And.intro b a) ?_ ?_
           · first | rfl | ((repeat refine ⟨rfl, ?_⟩); rfl)
           exact ⟨_, _, b2, q, c - 64, Hnx.out, rfl, HL2.out, Hqc.out, by omega, HR2.out, Hb2.out, Hn2.out, HH5.out, by rw [hw]; exact Hlt2.out, HG5.out⟩)
      · have g2 : ¬ ((64 : Int) ≤ (m : Int)) := by omega
        have hend := goB_end (w := wK k) (s := s') (l := l') (by rw [HL.out, hsz]; omega)
        have Hend := Lib.hid (Hgo.out.trans hend)
        clear hend hge hw hsz h1
        go_wp2_with fail
        go_ret
        refine ⟨bo, c, ?_⟩
        rw [Hend.out]
        exact ⟨by rw [HL.out]; rfl, by rw [HL.out]; exact Hmc.out, Hcc.out, HRd.out, Hbo.out, Hbn.out, HH.out, HG.out⟩
    · rw [hsz]
      by_cases hge : 128 ≤ m
      · have hm1 : m - 128 + 128 = m := by omega
        obtain ⟨q, hq⟩ : ∃ q, m - 128 = q := ⟨_, rfl⟩
        have hs1 := slice_bytes_block byteRow02 bo m c 128 (by have := Hmc.out; omega) .i64
        obtain ⟨b2, hs2, hb2, hn2, hr2⟩ := slice_lo bo m c 128 (by omega) Hmc.out .i64
        rw [hq] at hs2
        push_cast at hs1 hs2
        have hrw : Rd wr bo l' := HRd.out.grown HG.out (fun a e1 e2 => by
          obtain ⟨a', e3, e4⟩ := Hbo.out a e1
          have := Hne.out a' e3
          have := Option.some.inj e2
          omega)
        have hrt : Rd wr bo (l'.take 128) := fun j hj => by
          rw [List.length_take] at hj
          obtain ⟨b', o', e, hc⟩ := hrw j (by omega)
          exact ⟨b', o', e, by rw [List.getElem?_take_of_lt (by omega)]; exact hc⟩
        have hc1 := HH.out.cell (hashC_long k s' n rv)
        have hgt : 128 ≤ m := by omega
        have Hrd := Lib.hid (round64_any hb (kdC k) [.int .u64 n, rv] s' bo c (l'.take 128) wr (kdC_len k) HH.out (by have := Hlt.out; rw [hw] at this; exact this) (by rw [List.length_take, HL.out]; omega) (by have := Hmc.out; omega) hrt (Htab.out.grown HG.out Hhb.out) Hhb.out (by have := HH.out.lt; omega))
        have Hnx : Hid (goB (wK k) st l = goB (wK k) (block8 64 s' (l'.take 128)) (l'.drop 128)) := Lib.hid (by
          rw [Hgo.out, goB_step (by rw [HL.out, hsz]; omega), hsz, hw])
        have HR2 := Lib.hid (hr2 w l' HRd.out HL.out)
        have Hb2 : Hid (∀ a, b2 = some a → ∃ a', ao = some a' ∧ a'.block = a.block) := Lib.hid (fun a e => by
          obtain ⟨x, e1, e2⟩ := hb2 a e
          obtain ⟨y, e3, e4⟩ := Hbo.out x e1
          exact ⟨y, e3, by omega⟩)
        have Hn2 := Lib.hid (fun e => Hbn.out (hn2 e))
        have Hlt2 := Lib.hid (add8_lt (w := 64) s' (run8 64 (consw 64) (wl 64 (l'.take 128) (rnds 64)) (rnds 64) s'))
        have HL2 : Hid ((l'.drop 128).length = q) := Lib.hid (by rw [List.length_drop, HL.out]; omega)
        have Hqc : Hid (q ≤ c - 128) := Lib.hid (by have := Hmc.out; omega)
        have Hqm : Hid (q + 128 = m) := Lib.hid (by omega)
        have g1 : (128 : Int) ≤ (m : Int) := by omega
        clear hb2 hn2 hr2 hrw hrt hq hm1 hgt
        rw [show decide (k ≠ 1) = true from decide_eq_true h1] at hc1
        have Hw := Lib.hid hw
        clear h1 hw hsz hge
        go_wp2_with fail
        as_aux_lemma =>
        refine (Hrd.out).mono ?_
        rintro e w5 ⟨rfl, hg5, v5, hv5, hH5⟩
        subst hv5
        have HH5 := Lib.hid hH5
        have HG5 := Lib.hid (HG.out.trans hg5)
        clear hH5 hg5 hc1 g1
        clear Hrd HH HG
        go_wp2_with fail
        have hqm := Hqm.out
        have hcc := Hcc.out
        have hw := Hw.out
        first
        | (go_roundw
           case rel => exact ⟨_, _, b2, q, c - 128, Hnx.out, rfl, HL2.out, Hqc.out, by omega, HR2.out, Hb2.out, Hn2.out, HH5.out, by rw [hw]; exact Hlt2.out, HG5.out⟩
           case measure => (first | omega | (simp [intOf] <;> omega) | (simp only [intOf] <;> omega)))
        | exact ⟨⟨_, _, b2, q, c - 128, Hnx.out, rfl, HL2.out, Hqc.out, by omega, HR2.out, Hb2.out, Hn2.out, HH5.out, by rw [hw]; exact Hlt2.out, HG5.out⟩, by (first | omega | (simp [intOf] <;> omega) | (simp only [intOf] <;> omega))⟩
        | (refine ⟨?_, by (first | omega | (simp [intOf] <;> omega) | (simp only [intOf] <;> omega))⟩
           (repeat apply Exists.intro)
           refine (fun a b => And.intro b a) ?_ ?_
           · first | rfl | ((repeat refine ⟨rfl, ?_⟩); rfl)
           exact ⟨_, _, b2, q, c - 128, Hnx.out, rfl, HL2.out, Hqc.out, by omega, HR2.out, Hb2.out, Hn2.out, HH5.out, by rw [hw]; exact Hlt2.out, HG5.out⟩)
      · have g2 : ¬ ((128 : Int) ≤ (m : Int)) := by omega
        have hend := goB_end (w := wK k) (s := s') (l := l') (by rw [HL.out, hsz]; omega)
        have Hend := Lib.hid (Hgo.out.trans hend)
        clear hend hge hw hsz h1
        go_wp2_with fail
        go_ret
        refine ⟨bo, c, ?_⟩
        rw [Hend.out]
        exact ⟨by rw [HL.out]; rfl, by rw [HL.out]; exact Hmc.out, Hcc.out, HRd.out, Hbo.out, Hbn.out, HH.out, HG.out⟩
end Go.Proofs.YtngkelflfahjbaaDoor
