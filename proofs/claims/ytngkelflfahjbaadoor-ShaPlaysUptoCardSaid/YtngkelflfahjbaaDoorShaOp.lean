/- The program's Open of a hash. No condition. -/
import Derived.Test.YtngkelflfahjbaaDoorShaSt
import Derived.StillTailTactics
set_option linter.unusedVariables false
set_option linter.unusedSimpArgs false
namespace Go.Proofs.YtngkelflfahjbaaDoor
open Go.RowKit
theorem Rd.belowM {w wr : World} {L : Nat} {ao : Option Addr} {l : List UInt8} (h : Rd w ao l) (hb : Below L w wr) (hlt : ∀ a, ao = some a → a.block < L) : Rd wr ao l := fun j hj => by
  obtain ⟨b, off, e, hc⟩ := h j hj
  exact ⟨b, off, e, by rw [World.cell?_of_block (hb.block b (hlt _ e))]; exact hc⟩
def mk8 (f : Nat → Nat) : S8 := ⟨f 0, f 1, f 2, f 3, f 4, f 5, f 6, f 7⟩
theorem mk8_get (f : Nat → Nat) {t : Nat} (h : t < 8) : (s8l (mk8 f))[t]? = some (f t) := by
  match t, h with
  | 0, _ => rfl
  | 1, _ => rfl
  | 2, _ => rfl
  | 3, _ => rfl
  | 4, _ => rfl
  | 5, _ => rfl
  | 6, _ => rfl
  | 7, _ => rfl
theorem mk8_lt {f : Nat → Nat} {M : Nat} (h : ∀ i, i < 8 → f i < M) : (mk8 f).Lt M := ⟨h 0 (by decide), h 1 (by decide), h 2 (by decide), h 3 (by decide), h 4 (by decide), h 5 (by decide), h 6 (by decide), h 7 (by decide)⟩
/-- the state's words in bytes -/
def stOf (W : Nat) (l : List UInt8) : S8 := mk8 fun i => beN (piece l (9 + i * (W / 8)) (W / 8))
theorem stOf_lt {k : Nat} (hk : 1 ≤ k ∧ k ≤ 3) (l : List UInt8) : (stOf (wK k) l).Lt (2 ^ wK k) := mk8_lt fun i _ => by
  have h := beN_lt (piece l (9 + i * (wK k / 8)) (wK k / 8))
  have hp : (piece l (9 + i * (wK k / 8)) (wK k / 8)).length ≤ wK k / 8 := by unfold piece; rw [List.length_take]; exact Nat.min_le_left _ _
  have h2 : (256 : Nat) ^ (piece l (9 + i * (wK k / 8)) (wK k / 8)).length ≤ 256 ^ (wK k / 8) := Nat.pow_le_pow_right (by decide) hp
  have h3 : (256 : Nat) ^ (wK k / 8) = 2 ^ wK k := by
    rcases size_kind hk with ⟨-, hw, -⟩ | ⟨-, hw, -⟩ <;> rw [hw]
  omega
def zS8 : S8 := ⟨0, 0, 0, 0, 0, 0, 0, 0⟩
def buildHo (ps : Array (Nat × Value)) : Sem Value := Instr.build 67 ps
theorem build_ho (ps : Array (Nat × Value)) : Instr.build 67 ps = buildHo ps := rfl
theorem run_buildHo (k n : Nat) (hk : k = 1 ∨ k = 2 ∨ k = 3) (w : World) : (buildHo #[(0, .agg (kdC k).toArray), (2, .int .u64 (n : Nat))]).run Tryd.prog w = .ok (.agg (hashC k zS8 n (.slice none 0 0)).toArray) w := by
  rcases hk with rfl | rfl | rfl <;> kernel_rfl
theorem idx_kind (t : Nat) (ht : t < 3) (w : World) : (Instr.index 70 (.agg kall.toArray) (.int .u8 (t : Int))).run Tryd.prog w = .ok (.agg (kdC (t + 1)).toArray) w := by
  rcases (by omega : t = 0 ∨ t = 1 ∨ t = 2) with rfl | rfl | rfl <;> kernel_rfl
structure OpIn (H k n : Nat) (new : List Nat) (w : World) (i : Value) (wr : World) : Prop where
  x : ∃ t : Nat, t ≤ 8 ∧ i = .int .i64 (t : Nat) ∧ HB wr H 67 (kdC k ++ (mixL new (s8l zS8) t).map u64v ++ [.int .u64 n, .slice none 0 0]) ∧ Below H w wr ∧ H < wr.heap.size
attribute [local go_sem ↓] Go.wp_at_zero Go.wp_at_succ build_ho
set_option maxRecDepth 100000 in
set_option maxHeartbeats 2000000 in
theorem popen_ok (ao : Option Addr) (len cap : Nat) (l : List UInt8) (w : World) (k n : Nat) (hl : l.length = len) (hlen : len ≤ 140737488355000) (hcap : len ≤ cap) (hnil : ao = none → cap = 0) (hr : Rd w ao l) (hlt : ∀ a, ao = some a → a.block < w.heap.size)
    (hk : 1 ≤ k ∧ k ≤ 3) (hk0 : (l[0]?.getD 0).toNat = k) (hn : beN (piece l 1 8) = n) (hn2 : n ≤ 2305843009213693951) (hsz : len = 9 + wK k + n % sizeW (wK k)) :
    Calls Tryd.prog 23 #[.slice ao len cap] w fun e w' => ∃ H v, e = .returned (.tuple #[.pointer (some ⟨H, 0, none⟩), .int .i64 0]) ∧ HB w' H 67 (hashC k (stOf (wK k) l) n v) ∧ Own 5 w' (H + 1) v (l.drop (9 + wK k)) ∧ w.heap.size ≤ H ∧ Below w.heap.size w w' := by
  have hW := size_kind hk
  have h9 : 9 ≤ len := by omega
  obtain ⟨b0, o0, hao, hc0⟩ := hr 0 (by omega)
  rw [hk0, Nat.add_zero] at hc0
  obtain ⟨k1, hk1⟩ : ∃ k1, k = k1 + 1 := ⟨k - 1, by omega⟩
  have g1 : IntKind.u8.wrap ((k : Int) - 1) = (k1 : Int) := by
    rcases (by omega : k = 1 ∨ k = 2 ∨ k = 3) with rfl | rfl | rfl
    · obtain rfl : k1 = 0 := by omega
      decide
    · obtain rfl : k1 = 1 := by omega
      decide
    · obtain rfl : k1 = 2 := by omega
      decide
  have hidx := fun w => idx_kind k1 (by omega) w
  rw [← hk1] at hidx
  have hbld := fun w => run_buildHo k n (by omega) w
  have g2 : ¬ (len : Int) < 9 := by omega
  have g3 : ¬ (k : Int) < 1 := by omega
  have g4 : ¬ (3 : Int) < (k : Int) := by omega
  have g5 : (0 : Int) < (len : Int) := by omega
  have g6 : 0 < len := by omega
  obtain ⟨bo, hsl, -, hslr⟩ := slice_bytes byteRow02 ao len cap 1 9 (by omega) (by omega) .i64 .i64
  have Hwo := Lib.hid (fun w' (h : Below w.heap.size w w') => word_any bo 8 (cap - 1) (piece l 1 8) w' (by unfold piece; rw [List.length_take, List.length_drop]; omega) (by decide) (hslr w' l (hr.below h) hl h9))
  rw [hn] at Hwo
  have HkS := Lib.hid (fun w' (h : Below w.heap.size w w') => (cell_later h hc0))
  have Hl := Lib.hid hl
  have Hlen0 := Lib.hid hlen
  have Hcap := Lib.hid hcap
  have Hnil := Lib.hid hnil
  have Hr := Lib.hid hr
  have Hlt := Lib.hid hlt
  have Hk := Lib.hid hk
  have Hn2 := Lib.hid hn2
  have Hlen2 := Lib.hid hsz
  clear hl hlen hcap hnil hr hlt hk hk0 hn hn2 hsz hslr hk1
  push_cast at hsl
  try simp only [Nat.reduceSub] at hsl
  subst hao
  go_enter Tryd.func23, Tryd.ntmps23
  go_upto_region 3 with fail
  as_aux_lemma =>
  clear hc0 g2 g3 g4
  have h0 : Below w.heap.size w w.drew := (⟨1, rfl⟩ : Drn w w.drew).below _
  refine wp_region_held_drew (S := fun w' => w'.cell? ⟨b0, o0, none⟩ = some (.int .u8 (k : Nat))) (by kernel_rfl) (HkS.out _ h0) (fun hHeld => ?_)
  refine wpAnyH_take (i := 1) (v := ?_) (by simp only [List.getElem?_toArray, List.getElem?_cons_succ, List.getElem?_cons_zero]; rfl) (by kernel_rfl) (by kernel_rfl) (by kernel_rfl) (by intro _ _ _ h_; exact h_) (Or.inl ⟨by rfl, ?_⟩) (by assumption) ?_
  rotate_left 1
  focus (intro w_ hSw_; go_simp; try with_reducible rfl)
  simp only [Act.put, List.setIfInBounds_toArray, List.set_cons_zero, List.set_cons_succ]
  refine wpAnyH_take (i := 2) (v := ?_) (by simp only [List.getElem?_toArray, List.getElem?_cons_succ, List.getElem?_cons_zero]; rfl) (by kernel_rfl) (by kernel_rfl) (by kernel_rfl) (by intro _ _ _ h_; exact h_) (Or.inl ⟨by rfl, ?_⟩) (by assumption) ?_
  rotate_left 1
  focus (intro w_ hSw_; go_simp; try with_reducible rfl)
  simp only [Act.put, List.setIfInBounds_toArray, List.set_cons_zero, List.set_cons_succ]
  refine wpAnyH_take (i := 3) (v := ?_) (by simp only [List.getElem?_toArray, List.getElem?_cons_succ, List.getElem?_cons_zero]; rfl) (by kernel_rfl) (by kernel_rfl) (by kernel_rfl) (by intro _ _ _ h_; exact h_) (Or.inl ⟨by rfl, ?_⟩) (by assumption) ?_
  rotate_left 1
  focus (intro w_ hSw_; go_simp; try with_reducible rfl)
  simp only [Act.put, List.setIfInBounds_toArray, List.set_cons_zero, List.set_cons_succ]
  refine wpAnyH_take (i := 4) (v := ?_) (by simp only [List.getElem?_toArray, List.getElem?_cons_succ, List.getElem?_cons_zero]; rfl) (by kernel_rfl) (by kernel_rfl) (by kernel_rfl) (by intro _ _ _ h_; exact h_) (Or.inl ⟨by rfl, ?_⟩) (by assumption) ?_
  rotate_left 1
  focus (intro w_ hSw_; go_simp; try with_reducible rfl)
  simp only [Act.put, List.setIfInBounds_toArray, List.set_cons_zero, List.set_cons_succ]
  refine wpAnyH_take (i := 6) (v := ?_) (by simp only [List.getElem?_toArray, List.getElem?_cons_succ, List.getElem?_cons_zero]; rfl) (by kernel_rfl) (by kernel_rfl) (by kernel_rfl) (by intro _ _ _ h_; exact h_) (Or.inl ⟨by rfl, ?_⟩) (by assumption) ?_
  rotate_left 1
  focus (intro w_ hSw_; go_simp; try with_reducible rfl)
  simp only [Act.put, List.setIfInBounds_toArray, List.set_cons_zero, List.set_cons_succ]
  refine wpAnyH_take (i := 7) (v := ?_) (by simp only [List.getElem?_toArray, List.getElem?_cons_succ, List.getElem?_cons_zero]; rfl) (by kernel_rfl) (by kernel_rfl) (by kernel_rfl) (by intro _ _ _ h_; exact h_) (Or.inl ⟨by rfl, ?_⟩) (by assumption) ?_
  rotate_left 1
  focus (intro w_ hSw_; go_simp; try with_reducible rfl)
  simp only [Act.put, List.setIfInBounds_toArray, List.set_cons_zero, List.set_cons_succ]
  refine wpAnyH_ready (rs := [0]) (by kernel_rfl) (by simp) ?_
  refine AllReadyH.cons (by simp only [List.getElem?_toArray, List.getElem?_cons_succ, List.getElem?_cons_zero]; rfl) (fun K hK => ?_) AllReadyH.nil
  go_simp
  refine (kinds_any w.drew).mono ?_
  rintro e w3 ⟨rfl, hbk_⟩
  have h3 : Below w.heap.size w w3 := h0.trans (hbk_.mono h0.size)
  clear hbk_
  go_wp2_with fail
  refine hK.out _ _ (HkS.out _ h3) (fun hHeld2 => ?_)
  clear hHeld hHeld2
  clear hK K
  try simp only [Act.put, List.setIfInBounds_toArray, List.set_cons_zero, List.set_cons_succ]
  have hHeld := HkS.out _ h3
  refine wpAnyH_take (i := 5) (v := ?_) (by simp only [List.getElem?_toArray, List.getElem?_cons_succ, List.getElem?_cons_zero]; rfl) (by kernel_rfl) (by kernel_rfl) (by kernel_rfl) (by intro _ _ _ h_; exact h_) (Or.inl ⟨by rfl, ?_⟩) (by assumption) ?_
  rotate_left 1
  focus (intro w_ hSw_; go_simp; try with_reducible rfl)
  simp only [Act.put, List.setIfInBounds_toArray, List.set_cons_zero, List.set_cons_succ]
  refine wpAnyH_ready (rs := [8]) (by kernel_rfl) (by simp) ?_
  refine AllReadyH.cons (by simp only [List.getElem?_toArray, List.getElem?_cons_succ, List.getElem?_cons_zero]; rfl) (fun K hK => ?_) AllReadyH.nil
  go_simp
  refine (Hwo.out _ h3).mono ?_
  rintro e w_ ⟨rfl, rfl⟩
  go_wp2_with fail
  refine hK.out _ _ (HkS.out _ h3) (fun hHeld2 => ?_)
  clear hHeld hHeld2
  clear hK K
  try simp only [Act.put, List.setIfInBounds_toArray, List.set_cons_zero, List.set_cons_succ]
  have hHeld := HkS.out _ h3
  refine wpAnyH_take (i := 9) (v := ?_) (by simp only [List.getElem?_toArray, List.getElem?_cons_succ, List.getElem?_cons_zero]; rfl) (by kernel_rfl) (by kernel_rfl) (by kernel_rfl) (by intro _ _ _ h_; exact h_) (Or.inl ⟨by rfl, ?_⟩) (by assumption) ?_
  rotate_left 1
  focus (intro w_ hSw_; go_simp; try with_reducible rfl)
  simp only [Act.put, List.setIfInBounds_toArray, List.set_cons_zero, List.set_cons_succ]
  refine wpAnyH_ready (rs := [10]) (by kernel_rfl) (by simp) ?_
  refine AllReadyH.cons (by simp only [List.getElem?_toArray, List.getElem?_cons_succ, List.getElem?_cons_zero]; rfl) (fun K hK => ?_) AllReadyH.nil
  go_simp
  refine hK.out _ _ (HkS.out _ (h3.alloc h3.size _)) (fun hHeld2 => ?_)
  clear hHeld
  clear hK K
  try simp only [Act.put, List.setIfInBounds_toArray, List.set_cons_zero, List.set_cons_succ]
  have hHeld := hHeld2
  refine wpAnyH_take (i := 11) (v := ?_) (by simp only [List.getElem?_toArray, List.getElem?_cons_succ, List.getElem?_cons_zero]; rfl) (by kernel_rfl) (by kernel_rfl) (by kernel_rfl) (by intro _ _ _ h_; exact h_) (Or.inl ⟨by rfl, ?_⟩) (by assumption) ?_
  rotate_left 1
  focus (intro w_ hSw_; go_simp; try with_reducible rfl)
  simp only [Act.put, List.setIfInBounds_toArray, List.set_cons_zero, List.set_cons_succ]
  refine wpAnyH_done (by kernel_rfl) ?_ _
  clear hHeld hHeld2 HkS Hwo hidx hbld hsl g1 g5 g6
  have HH5 := Lib.hid (HB.new w3 (hashC k zS8 n (.slice none 0 0)) 67)
  have hsw := h3.size
  obtain ⟨H, hH⟩ : ∃ H, (w3).heap.size = H := ⟨_, rfl⟩
  have HB5 := Lib.hid (h3.alloc h3.size (.cells (hashC k zS8 n (.slice none 0 0)).toArray 67))
  have Hlt5 : Hid (∀ a, some (⟨b0, o0, none⟩ : Addr) = some a → a.block < H) := Lib.hid (fun a e => by have := Hlt.out a e; omega)
  have Hr5 := Lib.hid (Hr.out.below HB5.out)
  have HHw : Hid (w.heap.size ≤ H) := Lib.hid (by omega)
  have Hs6 : Hid (H < ((w3).alloc (.cells (hashC k zS8 n (.slice none 0 0)).toArray 67)).heap.size) := Lib.hid (by simp; omega)
  rw [hH] at HH5 ⊢
  generalize (w3).alloc (.cells (hashC k zS8 n (.slice none 0 0)).toArray 67) = w5 at *
  generalize (some (⟨b0, o0, none⟩ : Addr)) = ao at *
  have HH6 := HH5
  have Hr := Hr5
  have HltH := Hlt5
  clear hsw hH Hr5 Hlt5 Hlt h0 h9 h3
  rcases hW with ⟨-, hw, hz⟩ | ⟨-, hw, hz⟩
  · have Hw := Lib.hid hw
    have Hkb := Lib.hid (kblock_any H k zS8 n (.slice none 0 0) w5 Hk.out HH6.out)
    rw [hz, hw] at Hlen2
    rw [hz] at Hkb
    clear hw hz
    go_wp2_with fail
    as_aux_lemma =>
    refine Hkb.out.mono ?_
    rintro e w_ ⟨rfl, rfl⟩
    clear Hkb
    have k19 := HH6.out.cell (hashC_n k zS8 n (.slice none 0 0))
    obtain ⟨R, hR⟩ : ∃ R, n % 64 = R := ⟨_, rfl⟩
    obtain ⟨D, hD⟩ : ∃ D, len - 9 = D := ⟨_, rfl⟩
    have hlen2 := Hlen2.out
    have hlen0 := Hlen0.out
    have hn2 := Hn2.out
    rw [hR] at hlen2
    have e1 : ¬ (2305843009213693951 : Int) < (n : Int) := by omega
    have e2 : IntKind.i64.wrap ((len : Int) - 9) = (D : Int) := by rw [IntWalk.i64_in _ (by omega)]; omega
    have e5 : (n : Int) % 64 = (R : Int) := by rw [← hR]; rfl
    have e5' : (n : Int).tmod 64 = (R : Int) := by rw [Int.tmod_eq_emod_of_nonneg (by omega)]; exact e5
    have e5w : IntKind.u64.wrap (R : Int) = (R : Int) := IntWalk.u64_in _ (by omega)
    have e5i : IntKind.i64.wrap (R : Int) = (R : Int) := IntWalk.i64_in _ (by omega)
    have e6 : IntKind.i64.wrap (32 + (R : Int)) = (D : Int) := by rw [IntWalk.i64_in _ (by omega)]; omega
    clear hR hD hlen2 hlen0 hn2
    go_upto_region 8 with fail
    as_aux_lemma =>
    clear k19 e1 e2 e5 e5' e5w e5i e6
    go_loopw [6, 59] (fun _ i wr => OpIn H k n (s8l (stOf 32 l)) w5 i wr) (fun _ i _ => 8 - (intOf i).toNat)
    case atStart => exact ⟨0, by omega, rfl, HH6.out, Below.refl _ _, Hs6.out⟩
    case round =>
      as_aux_lemma =>
      clear HH6 Hs6
      obtain ⟨t, ht, rfl, hH, hBl, hsz⟩ := hrel
      have HH := Lib.hid hH
      have HBl := Lib.hid hBl
      have Hsz := Lib.hid hsz
      clear hH hBl hsz
      by_cases hlt : t < 8
      · obtain ⟨T1, hT1⟩ : ∃ x, t * 64 = x := ⟨_, rfl⟩
        obtain ⟨F1, hF1⟩ : ∃ x, t * 4 = x := ⟨_, rfl⟩
        obtain ⟨F, hF⟩ : ∃ x, 9 + F1 = x := ⟨_, rfl⟩
        obtain ⟨t1, ht1⟩ : ∃ x, t + 1 = x := ⟨_, rfl⟩
        obtain ⟨T2, hT2⟩ : ∃ x, t1 * 64 = x := ⟨_, rfl⟩
        obtain ⟨G1, hG1⟩ : ∃ x, t1 * 4 = x := ⟨_, rfl⟩
        obtain ⟨G, hG⟩ : ∃ x, 9 + G1 = x := ⟨_, rfl⟩
        have p1 : IntKind.i64.wrap ((t : Int) * 64) = (T1 : Int) := by rw [IntWalk.i64_in _ (by omega)]; omega
        have p2 : (T1 : Int) / 16 = (F1 : Int) := by omega
        have p2' : (T1 : Int).tdiv 16 = (F1 : Int) := by rw [Int.tdiv_eq_ediv_of_nonneg (by omega)]; exact p2
        have p2w : IntKind.i64.wrap (F1 : Int) = (F1 : Int) := IntWalk.i64_in _ (by omega)
        have p3 : IntKind.i64.wrap (9 + (F1 : Int)) = (F : Int) := by rw [IntWalk.i64_in _ (by omega)]; omega
        have p4 : IntKind.i64.wrap ((t : Int) + 1) = (t1 : Int) := by rw [IntWalk.i64_in _ (by omega)]; omega
        have p5 : IntKind.i64.wrap ((t1 : Int) * 64) = (T2 : Int) := by rw [IntWalk.i64_in _ (by omega)]; omega
        have p6 : (T2 : Int) / 16 = (G1 : Int) := by omega
        have p6' : (T2 : Int).tdiv 16 = (G1 : Int) := by rw [Int.tdiv_eq_ediv_of_nonneg (by omega)]; exact p6
        have p6w : IntKind.i64.wrap (G1 : Int) = (G1 : Int) := IntWalk.i64_in _ (by omega)
        have p7 : IntKind.i64.wrap (9 + (G1 : Int)) = (G : Int) := by rw [IntWalk.i64_in _ (by omega)]; omega
        have hGl : G ≤ len := by have := Hlen2.out; omega
        obtain ⟨bo, hsl, -, hslr⟩ := slice_bytes byteRow02 ao len cap F G (by omega) (by have := Hcap.out; omega) .i64 .i64
        have hRw := Rd.belowM Hr.out HBl.out HltH.out
        have hR4 := hslr wr l hRw Hl.out hGl
        rw [show G - F = 4 by omega] at hsl hR4
        have hpl : ((l.drop F).take 4).length = 4 := by rw [List.length_take, List.length_drop, Hl.out]; omega
        have Hwo := Lib.hid (fun w' (h : Drn wr w') => word_any bo 4 (cap - F) _ w' hpl (by decide) (h.rd hR4))
        have hnew : (s8l (stOf 32 l))[t]? = some (beN ((l.drop F).take 4)) := by
          unfold stOf
          rw [mk8_get _ hlt]
          show some (beN ((l.drop (9 + t * 4)).take 4)) = _
          rw [show 9 + t * 4 = F by omega]
        generalize beN ((l.drop F).take 4) = X at *
        have hml := mixL_len (new := s8l (stOf 32 l)) (old := s8l zS8) (i := t) rfl rfl (by omega)
        obtain ⟨Z, hZ⟩ : ∃ Z, (s8l zS8)[t]? = some Z := ⟨_, List.getElem?_eq_getElem (by rw [s8l_len]; exact hlt)⟩
        have hg : (kdC k ++ (mixL (s8l (stOf 32 l)) (s8l zS8) t).map u64v ++ [Value.int .u64 (n : Nat), Value.slice none 0 0])[11 + t]? = some (.int .u64 (Z : Int)) := by
          rw [mid_get (kdC_len k) (by rw [List.length_map, hml]; exact hlt), List.getElem?_map, mixL_get rfl rfl hlt, hZ]; rfl
        have hst : (kdC k ++ (mixL (s8l (stOf 32 l)) (s8l zS8) t).map u64v ++ [Value.int .u64 (n : Nat), Value.slice none 0 0]).set (11 + t) (.int .u64 (X : Int)) = kdC k ++ (mixL (s8l (stOf 32 l)) (s8l zS8) (t + 1)).map u64v ++ [Value.int .u64 (n : Nat), Value.slice none 0 0] := by
          rw [mid_set (kdC_len k) (by rw [List.length_map, hml]; exact hlt), ← mixL_set rfl rfl hlt hnew, List.map_set]; rfl
        have hHd := HH.out.drn (Drn.refl _).drew
        have hcd := hHd.cell hg
        have hfd := hHd.frozen (11 + t)
        have HS := Lib.hid (hHd.set (11 + t) (.int .u64 (X : Int)))
        rw [hst] at HS
        have HB7 := Lib.hid ((HBl.out.drew).grown (grown_set wr.drew ⟨H, 11 + t, none⟩ (.int .u64 (X : Int))) (by have := Hsz.out; show H ≤ wr.heap.size; omega) (fun x hx => Nat.le_of_eq (Option.some.inj hx)))
        have Hs7 : Hid (H < (wr.drew.setCell ⟨H, 11 + t, none⟩ (.int .u64 (X : Int))).heap.size) := Lib.hid (by have := Hsz.out; simpa [World.setCell] using this)
        have i1 : (t : Int) < 8 := by omega
        have Ht1 := Lib.hid ht1
        clear hslr hRw hR4 hpl hnew hml hZ hg hst hHd HH HBl Hsz hT1 hF1 hF hT2 hG1 hG hGl
        go_upto_region 10 with fail
        refine wp_region_still_tail 19 (by kernel_rfl) (by kernel_rfl) ?_
        simp only [List.take_succ_cons, List.take_zero, List.drop_succ_cons, List.drop_zero]
        repeat still_step
        still_call ((Hwo.out _ (Drn.refl _).drew).mono (fun _ _ h_ => ⟨h_.1, h_.2.symm⟩))
        repeat still_step
        refine wpStill_nil ?_
        as_aux_lemma =>
        clear Hwo hsl p1 p2 p2' p2w p3 p5 p6 p6' p6w p7
        go_wp2_with fail
        clear hcd hfd
        have ht1 := Ht1.out
        first
        | (go_roundw
           case rel => exact ⟨t + 1, by omega, by go_num, HS.out, HB7.out, Hs7.out⟩
           case measure => (first | omega | (simp [intOf] <;> omega) | (simp only [intOf] <;> omega)))
        | exact ⟨⟨t + 1, by omega, by go_num, HS.out, HB7.out, Hs7.out⟩, by (first | omega | (simp [intOf] <;> omega) | (simp only [intOf] <;> omega))⟩
        | (refine ⟨?_, by (first | omega | (simp [intOf] <;> omega) | (simp only [intOf] <;> omega))⟩
           (repeat apply Exists.intro)
           refine (fun a b => And.intro b a) ?_ ?_
           · first | rfl | ((repeat refine ⟨rfl, ?_⟩); rfl)
           exact ⟨t + 1, by omega, by go_num, HS.out, HB7.out, Hs7.out⟩)
      · obtain rfl : t = 8 := by omega
        have hH := HH.out
        rw [show mixL (s8l (stOf 32 l)) (s8l zS8) 8 = s8l (stOf 32 l) from by unfold mixL; rfl] at hH
        have HH8 : Hid (HB wr H 67 (hashC k (stOf 32 l) n (.slice none 0 0))) := Lib.hid hH
        have Hr8 := Lib.hid (Rd.belowM Hr.out HBl.out HltH.out)
        clear hH HH hlt ht
        have HHm := Lib.hid (HH8.out.alloc (.cells #[] 5))
        have Hma := Lib.hid (Own.made0 5 wr (H + 1) Hsz.out)
        have HBm := Lib.hid (HBl.out.alloc (Nat.le_of_lt Hsz.out) (.cells #[] 5))
        have hlen2 := Hlen2.out
        have hcap := Hcap.out
        obtain ⟨bo, hsl, -, hbn, hslr⟩ := slice_lo ao len cap 41 (by omega) hcap .i64
        push_cast at hsl
        have hR4 := hslr wr l Hr8.out Hl.out
        have Hr9 := Lib.hid (hR4.below ((Below.refl _ _).alloc (Nat.le_refl _) (.cells #[] 5)))
        have Hrl : Hid ((l.drop 41).length = len - 41) := Lib.hid (by rw [List.length_drop, Hl.out])
        have Hbn : Hid (bo = none → cap - 41 = 0) := Lib.hid (fun e => by have := Hnil.out (hbn e); omega)
        have Hlen := Lib.hid (show len ≤ 140737488355000 from Hlen0.out)
        clear hslr hR4 hbn Hr8 hlen2 hcap
        go_wp2_with (at_builtin; refine wpList_append_gr byteRow02 rfl _ _ rfl (H + 1) _ [] rfl Hma.out bo (len - 41) (cap - 41) (l.drop 41) rfl Hrl.out Hr9.out Hbn.out (by have := Hlen.out; simp; omega) (by have := Hsz.out; simp; omega) ?_)
        intro v9 w9 ho9 hg9
        obtain ⟨a9, c9, rfl, -, -, -, -, -⟩ := ho9.rd3
        have hhe : H < wr.heap.size := Hsz.out
        have HH9 := Lib.hid (HHm.out.grown hg9.g (fun e => by have e1 : H = wr.heap.size := Option.some.inj e; omega))
        have HB9 := Lib.hid (HBm.out.grown hg9.g (by simp; omega) (fun x hx => by have e1 : wr.heap.size = x := Option.some.inj hx; omega))
        have k20 := HH9.out.cell (hashC_rv k (stOf 32 l) n (.slice none 0 0))
        have f20 := HH9.out.frozen 20
        generalize (l.drop 41).length = n9 at *
        have HH10 : Hid (HB (w9.setCell ⟨H, 20, none⟩ (.slice a9 n9 c9)) H 67 (hashC k (stOf 32 l) n (.slice a9 n9 c9))) := Lib.hid (HH9.out.set 20 (.slice a9 n9 c9))
        have hvb : (Value.slice a9 n9 c9).ownBlock ≠ some H := fun e => by have := (own_blk ho9 e).1; omega
        have Ho10 := Lib.hid (ho9.other (a := ⟨H, 20, none⟩) hvb (.slice a9 n9 c9))
        have HB10 := Lib.hid (HB9.out.grown (grown_set w9 ⟨H, 20, none⟩ (.slice a9 n9 c9)) (by have := HH9.out.lt; omega) (fun x hx => Nat.le_of_eq (Option.some.inj hx)))
        clear ho9 hg9 hvb hhe HH9 HB9 HHm Hma HBm
        go_wp2_with fail
        go_ret2
        exact ⟨H, _, rfl, by rw [Hw.out]; exact HH10.out, by rw [Hw.out]; exact Ho10.out, HHw.out, HB5.out.trans (HB10.out.mono HHw.out)⟩
  · have Hw := Lib.hid hw
    have Hkb := Lib.hid (kblock_any H k zS8 n (.slice none 0 0) w5 Hk.out HH6.out)
    rw [hz, hw] at Hlen2
    rw [hz] at Hkb
    clear hw hz
    go_wp2_with fail
    as_aux_lemma =>
    refine Hkb.out.mono ?_
    rintro e w_ ⟨rfl, rfl⟩
    clear Hkb
    have k19 := HH6.out.cell (hashC_n k zS8 n (.slice none 0 0))
    obtain ⟨R, hR⟩ : ∃ R, n % 128 = R := ⟨_, rfl⟩
    obtain ⟨D, hD⟩ : ∃ D, len - 9 = D := ⟨_, rfl⟩
    have hlen2 := Hlen2.out
    have hlen0 := Hlen0.out
    have hn2 := Hn2.out
    rw [hR] at hlen2
    have e1 : ¬ (2305843009213693951 : Int) < (n : Int) := by omega
    have e2 : IntKind.i64.wrap ((len : Int) - 9) = (D : Int) := by rw [IntWalk.i64_in _ (by omega)]; omega
    have e5 : (n : Int) % 128 = (R : Int) := by rw [← hR]; rfl
    have e5' : (n : Int).tmod 128 = (R : Int) := by rw [Int.tmod_eq_emod_of_nonneg (by omega)]; exact e5
    have e5w : IntKind.u64.wrap (R : Int) = (R : Int) := IntWalk.u64_in _ (by omega)
    have e5i : IntKind.i64.wrap (R : Int) = (R : Int) := IntWalk.i64_in _ (by omega)
    have e6 : IntKind.i64.wrap (64 + (R : Int)) = (D : Int) := by rw [IntWalk.i64_in _ (by omega)]; omega
    clear hR hD hlen2 hlen0 hn2
    go_upto_region 8 with fail
    as_aux_lemma =>
    clear k19 e1 e2 e5 e5' e5w e5i e6
    go_loopw [6, 59] (fun _ i wr => OpIn H k n (s8l (stOf 64 l)) w5 i wr) (fun _ i _ => 8 - (intOf i).toNat)
    case atStart => exact ⟨0, by omega, rfl, HH6.out, Below.refl _ _, Hs6.out⟩
    case round =>
      as_aux_lemma =>
      clear HH6 Hs6
      obtain ⟨t, ht, rfl, hH, hBl, hsz⟩ := hrel
      have HH := Lib.hid hH
      have HBl := Lib.hid hBl
      have Hsz := Lib.hid hsz
      clear hH hBl hsz
      by_cases hlt : t < 8
      · obtain ⟨T1, hT1⟩ : ∃ x, t * 128 = x := ⟨_, rfl⟩
        obtain ⟨F1, hF1⟩ : ∃ x, t * 8 = x := ⟨_, rfl⟩
        obtain ⟨F, hF⟩ : ∃ x, 9 + F1 = x := ⟨_, rfl⟩
        obtain ⟨t1, ht1⟩ : ∃ x, t + 1 = x := ⟨_, rfl⟩
        obtain ⟨T2, hT2⟩ : ∃ x, t1 * 128 = x := ⟨_, rfl⟩
        obtain ⟨G1, hG1⟩ : ∃ x, t1 * 8 = x := ⟨_, rfl⟩
        obtain ⟨G, hG⟩ : ∃ x, 9 + G1 = x := ⟨_, rfl⟩
        have p1 : IntKind.i64.wrap ((t : Int) * 128) = (T1 : Int) := by rw [IntWalk.i64_in _ (by omega)]; omega
        have p2 : (T1 : Int) / 16 = (F1 : Int) := by omega
        have p2' : (T1 : Int).tdiv 16 = (F1 : Int) := by rw [Int.tdiv_eq_ediv_of_nonneg (by omega)]; exact p2
        have p2w : IntKind.i64.wrap (F1 : Int) = (F1 : Int) := IntWalk.i64_in _ (by omega)
        have p3 : IntKind.i64.wrap (9 + (F1 : Int)) = (F : Int) := by rw [IntWalk.i64_in _ (by omega)]; omega
        have p4 : IntKind.i64.wrap ((t : Int) + 1) = (t1 : Int) := by rw [IntWalk.i64_in _ (by omega)]; omega
        have p5 : IntKind.i64.wrap ((t1 : Int) * 128) = (T2 : Int) := by rw [IntWalk.i64_in _ (by omega)]; omega
        have p6 : (T2 : Int) / 16 = (G1 : Int) := by omega
        have p6' : (T2 : Int).tdiv 16 = (G1 : Int) := by rw [Int.tdiv_eq_ediv_of_nonneg (by omega)]; exact p6
        have p6w : IntKind.i64.wrap (G1 : Int) = (G1 : Int) := IntWalk.i64_in _ (by omega)
        have p7 : IntKind.i64.wrap (9 + (G1 : Int)) = (G : Int) := by rw [IntWalk.i64_in _ (by omega)]; omega
        have hGl : G ≤ len := by have := Hlen2.out; omega
        obtain ⟨bo, hsl, -, hslr⟩ := slice_bytes byteRow02 ao len cap F G (by omega) (by have := Hcap.out; omega) .i64 .i64
        have hRw := Rd.belowM Hr.out HBl.out HltH.out
        have hR4 := hslr wr l hRw Hl.out hGl
        rw [show G - F = 8 by omega] at hsl hR4
        have hpl : ((l.drop F).take 8).length = 8 := by rw [List.length_take, List.length_drop, Hl.out]; omega
        have Hwo := Lib.hid (fun w' (h : Drn wr w') => word_any bo 8 (cap - F) _ w' hpl (by decide) (h.rd hR4))
        have hnew : (s8l (stOf 64 l))[t]? = some (beN ((l.drop F).take 8)) := by
          unfold stOf
          rw [mk8_get _ hlt]
          show some (beN ((l.drop (9 + t * 8)).take 8)) = _
          rw [show 9 + t * 8 = F by omega]
        generalize beN ((l.drop F).take 8) = X at *
        have hml := mixL_len (new := s8l (stOf 64 l)) (old := s8l zS8) (i := t) rfl rfl (by omega)
        obtain ⟨Z, hZ⟩ : ∃ Z, (s8l zS8)[t]? = some Z := ⟨_, List.getElem?_eq_getElem (by rw [s8l_len]; exact hlt)⟩
        have hg : (kdC k ++ (mixL (s8l (stOf 64 l)) (s8l zS8) t).map u64v ++ [Value.int .u64 (n : Nat), Value.slice none 0 0])[11 + t]? = some (.int .u64 (Z : Int)) := by
          rw [mid_get (kdC_len k) (by rw [List.length_map, hml]; exact hlt), List.getElem?_map, mixL_get rfl rfl hlt, hZ]; rfl
        have hst : (kdC k ++ (mixL (s8l (stOf 64 l)) (s8l zS8) t).map u64v ++ [Value.int .u64 (n : Nat), Value.slice none 0 0]).set (11 + t) (.int .u64 (X : Int)) = kdC k ++ (mixL (s8l (stOf 64 l)) (s8l zS8) (t + 1)).map u64v ++ [Value.int .u64 (n : Nat), Value.slice none 0 0] := by
          rw [mid_set (kdC_len k) (by rw [List.length_map, hml]; exact hlt), ← mixL_set rfl rfl hlt hnew, List.map_set]; rfl
        have hHd := HH.out.drn (Drn.refl _).drew
        have hcd := hHd.cell hg
        have hfd := hHd.frozen (11 + t)
        have HS := Lib.hid (hHd.set (11 + t) (.int .u64 (X : Int)))
        rw [hst] at HS
        have HB7 := Lib.hid ((HBl.out.drew).grown (grown_set wr.drew ⟨H, 11 + t, none⟩ (.int .u64 (X : Int))) (by have := Hsz.out; show H ≤ wr.heap.size; omega) (fun x hx => Nat.le_of_eq (Option.some.inj hx)))
        have Hs7 : Hid (H < (wr.drew.setCell ⟨H, 11 + t, none⟩ (.int .u64 (X : Int))).heap.size) := Lib.hid (by have := Hsz.out; simpa [World.setCell] using this)
        have i1 : (t : Int) < 8 := by omega
        have Ht1 := Lib.hid ht1
        clear hslr hRw hR4 hpl hnew hml hZ hg hst hHd HH HBl Hsz hT1 hF1 hF hT2 hG1 hG hGl
        go_upto_region 10 with fail
        refine wp_region_still_tail 19 (by kernel_rfl) (by kernel_rfl) ?_
        simp only [List.take_succ_cons, List.take_zero, List.drop_succ_cons, List.drop_zero]
        repeat still_step
        still_call ((Hwo.out _ (Drn.refl _).drew).mono (fun _ _ h_ => ⟨h_.1, h_.2.symm⟩))
        repeat still_step
        refine wpStill_nil ?_
        as_aux_lemma =>
        clear Hwo hsl p1 p2 p2' p2w p3 p5 p6 p6' p6w p7
        go_wp2_with fail
        clear hcd hfd
        have ht1 := Ht1.out
        first
        | (go_roundw
           case rel => exact ⟨t + 1, by omega, by go_num, HS.out, HB7.out, Hs7.out⟩
           case measure => (first | omega | (simp [intOf] <;> omega) | (simp only [intOf] <;> omega)))
        | exact ⟨⟨t + 1, by omega, by go_num, HS.out, HB7.out, Hs7.out⟩, by (first | omega | (simp [intOf] <;> omega) | (simp only [intOf] <;> omega))⟩
        | (refine ⟨?_, by (first | omega | (simp [intOf] <;> omega) | (simp only [intOf] <;> omega))⟩
           (repeat apply Exists.intro)
           refine (fun a b => And.intro b a) ?_ ?_
           · first | rfl | ((repeat refine ⟨rfl, ?_⟩); rfl)
           exact ⟨t + 1, by omega, by go_num, HS.out, HB7.out, Hs7.out⟩)
      · obtain rfl : t = 8 := by omega
        have hH := HH.out
        rw [show mixL (s8l (stOf 64 l)) (s8l zS8) 8 = s8l (stOf 64 l) from by unfold mixL; rfl] at hH
        have HH8 : Hid (HB wr H 67 (hashC k (stOf 64 l) n (.slice none 0 0))) := Lib.hid hH
        have Hr8 := Lib.hid (Rd.belowM Hr.out HBl.out HltH.out)
        clear hH HH hlt ht
        have HHm := Lib.hid (HH8.out.alloc (.cells #[] 5))
        have Hma := Lib.hid (Own.made0 5 wr (H + 1) Hsz.out)
        have HBm := Lib.hid (HBl.out.alloc (Nat.le_of_lt Hsz.out) (.cells #[] 5))
        have hlen2 := Hlen2.out
        have hcap := Hcap.out
        obtain ⟨bo, hsl, -, hbn, hslr⟩ := slice_lo ao len cap 73 (by omega) hcap .i64
        push_cast at hsl
        have hR4 := hslr wr l Hr8.out Hl.out
        have Hr9 := Lib.hid (hR4.below ((Below.refl _ _).alloc (Nat.le_refl _) (.cells #[] 5)))
        have Hrl : Hid ((l.drop 73).length = len - 73) := Lib.hid (by rw [List.length_drop, Hl.out])
        have Hbn : Hid (bo = none → cap - 73 = 0) := Lib.hid (fun e => by have := Hnil.out (hbn e); omega)
        have Hlen := Lib.hid (show len ≤ 140737488355000 from Hlen0.out)
        clear hslr hR4 hbn Hr8 hlen2 hcap
        go_wp2_with (at_builtin; refine wpList_append_gr byteRow02 rfl _ _ rfl (H + 1) _ [] rfl Hma.out bo (len - 73) (cap - 73) (l.drop 73) rfl Hrl.out Hr9.out Hbn.out (by have := Hlen.out; simp; omega) (by have := Hsz.out; simp; omega) ?_)
        intro v9 w9 ho9 hg9
        obtain ⟨a9, c9, rfl, -, -, -, -, -⟩ := ho9.rd3
        have hhe : H < wr.heap.size := Hsz.out
        have HH9 := Lib.hid (HHm.out.grown hg9.g (fun e => by have e1 : H = wr.heap.size := Option.some.inj e; omega))
        have HB9 := Lib.hid (HBm.out.grown hg9.g (by simp; omega) (fun x hx => by have e1 : wr.heap.size = x := Option.some.inj hx; omega))
        have k20 := HH9.out.cell (hashC_rv k (stOf 64 l) n (.slice none 0 0))
        have f20 := HH9.out.frozen 20
        generalize (l.drop 73).length = n9 at *
        have HH10 : Hid (HB (w9.setCell ⟨H, 20, none⟩ (.slice a9 n9 c9)) H 67 (hashC k (stOf 64 l) n (.slice a9 n9 c9))) := Lib.hid (HH9.out.set 20 (.slice a9 n9 c9))
        have hvb : (Value.slice a9 n9 c9).ownBlock ≠ some H := fun e => by have := (own_blk ho9 e).1; omega
        have Ho10 := Lib.hid (ho9.other (a := ⟨H, 20, none⟩) hvb (.slice a9 n9 c9))
        have HB10 := Lib.hid (HB9.out.grown (grown_set w9 ⟨H, 20, none⟩ (.slice a9 n9 c9)) (by have := HH9.out.lt; omega) (fun x hx => Nat.le_of_eq (Option.some.inj hx)))
        clear ho9 hg9 hvb hhe HH9 HB9 HHm Hma HBm
        go_wp2_with fail
        go_ret2
        exact ⟨H, _, rfl, by rw [Hw.out]; exact HH10.out, by rw [Hw.out]; exact Ho10.out, HHw.out, HB5.out.trans (HB10.out.mono HHw.out)⟩
end Go.Proofs.YtngkelflfahjbaaDoor
