/- Power may go anywhere: the plain law. No condition. -/
import Derived.Test.YtnmeidmiijcniaaFwV
import Derived.Test.YtnmeidmiijcniaaFwW
set_option linter.unusedVariables false
set_option linter.unusedSimpArgs false
namespace Go.Proofs.Ytnmeidmiijcniaa
open Go.RowKit
/-- the flash that made leaves, with a cut set or not -/
def cfl (m : Me) (k : Int) (left : Int) (d : Bool) : Fl := ⟨10, false, left, d, 1, put (fun _ => none) k (encM m)⟩
theorem fM_eq (m : Me) (k : Int) : fM m k = cfl m k 0 false := by
  unfold fM g10 cfl
  rw [writeR_zero]
  rfl
theorem zero_none : decM zero512 = none := dec_zero
theorem cur_one {m : Me} {k : Int} {f : Fl} (hr : rightM m = true) (hs : m.seq < 4294967296) (hk : k = 0 ∨ k = 1) (hf : f.F = put (fun _ => none) k (encM m)) : curR f 0 = some (m, k) := by
  unfold curR
  have hd := dec_enc hr hs
  rcases hk with rfl | rfl
  · rw [show readF f 0 = encM m from by unfold readF; rw [hf]; unfold put; simp, show readF f (0 + 1) = zero512 from by unfold readF; rw [hf]; unfold put; simp, hd, zero_none]
    rfl
  · rw [show readF f 0 = zero512 from by unfold readF; rw [hf]; unfold put; simp, show readF f (0 + 1) = encM m from by unfold readF; rw [hf]; unfold put; simp, hd, zero_none]
    rfl
theorem cur_both {m y : Me} {k : Int} {f : Fl} (hr : rightM m = true) (hs : m.seq < 4294967296) (hr' : rightM y = true) (hs' : y.seq < 4294967296) (hk : k = 0 ∨ k = 1) (hq : m.seq < y.seq)
    (hf : f.F = put (put (fun _ => none) k (encM m)) (0 + 1 - k) (encM y)) : curR f 0 = some (y, 1 - k) := by
  unfold curR
  have hd := dec_enc hr hs
  have hd' := dec_enc hr' hs'
  rcases hk with rfl | rfl
  · rw [show readF f 0 = encM m from by unfold readF; rw [hf]; unfold put; simp, show readF f (0 + 1) = encM y from by unfold readF; rw [hf]; unfold put; simp, hd, hd']
    unfold cur2
    simp [hq]
  · rw [show readF f 0 = encM y from by unfold readF; rw [hf]; unfold put; simp, show readF f (0 + 1) = encM m from by unfold readF; rw [hf]; unfold put; simp, hd, hd']
    unfold cur2
    simp [show ¬ y.seq < m.seq by omega]
theorem change_some {op : Me → Me × Int} {m y : Me} {b e : Int} (h : changeE op m = (some y, b, e)) (hs : m.seq < 4294967296) : rightM y = true ∧ y.seq = m.seq + 1 ∧ y.seq < 4294967296 ∧ e = 0 := by
  unfold changeE at h
  split at h
  · cases h
  · split at h
    · cases h
    · split at h
      · next h1 h2 h3 =>
        simp only [Prod.mk.injEq, Option.some.injEq] at h
        obtain ⟨rfl, -, rfl⟩ := h
        exact ⟨h3, rfl, by simp only; omega, rfl⟩
      · cases h
structure Crashed (op : Me → Me × Int) (m : Me) (k : Int) (d : Bool) : Prop where
  x : ∃ (beh is : Me) (kb ki : Int), curE (chgF op (cfl m k 0 false) 0).1 0 = (beh, kb, 0) ∧ curE (powerR (chgF op (cfl m k 1 d) 0).1) 0 = (is, ki, 0) ∧
    (((chgF op (cfl m k 1 d) 0).1.off = true ∧ (chgF op (cfl m k 1 d) 0).2.2 = 143 ∧ (d = true → is = beh) ∧ (d = false → is = m)) ∨
     ((chgF op (cfl m k 1 d) 0).1.off = false ∧ (chgF op (cfl m k 1 d) 0).2.2 = (chgF op (cfl m k 0 false) 0).2.2 ∧ is = beh ∧ beh = m))
theorem crashed (op : Me → Me × Int) (m : Me) (k : Int) (d : Bool) (hr : rightM m = true) (hs : m.seq < 4294967296) (hk : k = 0 ∨ k = 1) : Crashed op m k d := by
  have c0 : curR (cfl m k 0 false) 0 = some (m, k) := cur_one hr hs hk rfl
  have c1 : curR (cfl m k 1 d) 0 = some (m, k) := cur_one hr hs hk rfl
  constructor
  unfold chgF
  rw [c0, c1, if_neg (by unfold cfl; simp), if_neg (by unfold cfl; simp)]
  dsimp only
  rcases hce : changeE op m with ⟨_ | y, b, e⟩
  · dsimp only
    refine ⟨m, m, k, k, ?_, ?_, .inr ⟨rfl, rfl, rfl, rfl⟩⟩
    · unfold curE; rw [c0, if_neg (by unfold cfl; simp)]
    · unfold curE; rw [show curR (powerR (cfl m k 1 d)) 0 = some (m, k) from cur_one hr hs hk rfl, if_neg (by unfold powerR; simp)]
  · obtain ⟨h1, h2, h3, rfl⟩ := change_some hce hs
    dsimp only
    have hb : curE (writeR (cfl m k 0 false) (0 + 1 - k) (encM y)).1 0 = (y, 1 - k, 0) := by
      unfold cfl
      rw [writeR_zero]
      unfold curE
      rw [cur_both hr hs h1 h3 hk (by omega) rfl, if_neg (by simp)]
    cases d with
    | true =>
      refine ⟨y, y, 1 - k, 1 - k, hb, ?_, .inl ⟨?_, ?_, fun _ => rfl, fun h => by cases h⟩⟩
      · unfold cfl
        rw [writeR_do]
        unfold curE
        rw [cur_both (f := powerR _) hr hs h1 h3 hk (by omega) rfl, if_neg (by unfold powerR; simp)]
      · unfold cfl; rw [writeR_do]
      · unfold cfl; rw [writeR_do]
    | false =>
      refine ⟨y, m, 1 - k, k, hb, ?_, .inl ⟨?_, ?_, fun h => by (cases h), fun _ => rfl⟩⟩
      · unfold cfl
        rw [writeR_go]
        unfold curE
        rw [cur_one (f := powerR _) hr hs hk rfl, if_neg (by unfold powerR; simp)]
      · unfold cfl; rw [writeR_go]
      · unfold cfl; rw [writeR_go]
end Go.Proofs.Ytnmeidmiijcniaa
