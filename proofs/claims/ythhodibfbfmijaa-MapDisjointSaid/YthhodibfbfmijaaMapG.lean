/- Lists of wants; the plan of some stages, as plain law. No condition. -/
import Derived.Test.YthhodibfbfmijaaMapR
import Derived.Test.YthhodibfbfmijaaOpenS
set_option linter.unusedVariables false
set_option linter.unusedSimpArgs false
namespace Go.Proofs.Ythhodibfbfmijaa
open Go.RowKit
structure Wt where
  i : Int
  n : Nat
  a : Nat
  s : Bool
  w : Bool
  x : Bool
def wcells (t : Wt) : List Value := [.int .i64 t.i, .int .u64 t.n, .int .u64 t.a, .bool t.s, .bool t.w, .bool t.x]
def Wt.Ok (t : Wt) : Prop := t.n < 18446744073709551616 ∧ t.a < 18446744073709551616
noncomputable def plW (l : List Rg) (t : Wt) : Rg × Int := plR l t.n t.a t.s t.w t.x
/-- the first k wants have got these places -/
def Run (taken : List Rg) (l : List Wt) (k : Nat) (outs : List Rg) : Prop := outs.length = k ∧ ∀ j t, j < k → l[j]? = some t → plW (taken ++ outs.take j) t = (gAt outs j, 0)
theorem Run.nil (taken : List Rg) (l : List Wt) : Run taken l 0 [] := ⟨rfl, fun j t h => by omega⟩
theorem Run.snoc {taken : List Rg} {l : List Wt} {k : Nat} {outs : List Rg} {t : Wt} {r : Rg} (h : Run taken l k outs) (ht : l[k]? = some t) (hp : plW (taken ++ outs) t = (r, 0)) : Run taken l (k + 1) (outs ++ [r]) := by
  refine ⟨by simp [h.1], fun j u hj hu => ?_⟩
  by_cases e : j < k
  · have := h.2 j u e hu
    rw [List.take_append_of_le_length (by rw [h.1]; omega), this, gAt_left (by rw [h.1]; exact e)]
  · obtain rfl : j = k := by omega
    rw [ht] at hu
    cases hu
    rw [← h.1, List.take_left, hp, gAt_end]
theorem Run.uniq {taken : List Rg} {l : List Wt} {k : Nat} {o1 o2 : List Rg} (h1 : Run taken l k o1) (h2 : Run taken l k o2) (hk : k ≤ l.length) : o1 = o2 := by
  have key : ∀ j, j ≤ k → o1.take j = o2.take j := by
    intro j
    induction j with
    | zero => intro _; rfl
    | succ j ih =>
      intro hj
      have ht : l[j]? = some l[j] := List.getElem?_eq_getElem (by omega)
      have e := ih (by omega)
      have a := h1.2 j _ (by omega) ht
      have b := h2.2 j _ (by omega) ht
      rw [e] at a
      rw [take_snocG o1 j (by rw [h1.1]; omega), take_snocG o2 j (by rw [h2.1]; omega), e]
      congr 2
      have := a.symm.trans b
      exact (Prod.mk.injEq _ _ _ _ ▸ this).1
  have := key k (Nat.le_refl _)
  rwa [List.take_of_length_le (by rw [h1.1]; exact Nat.le_refl _), List.take_of_length_le (by rw [h2.1]; exact Nat.le_refl _)] at this
theorem Run.prefix {taken : List Rg} {l : List Wt} {k j : Nat} {o : List Rg} (h : Run taken l k o) (hj : j ≤ k) : Run taken l j (o.take j) := by
  refine ⟨by simp [h.1]; omega, fun i t hi ht => ?_⟩
  have := h.2 i t (by omega) ht
  rw [List.take_take, Nat.min_eq_left (by omega), this]
  unfold gAt
  rw [List.getElem?_take_of_lt hi]
/-- what a plan comes to -/
def Res (taken : List Rg) (l : List Wt) (r : List Rg) (n : Nat) (e : Int) : Prop :=
  (e = 0 ∧ n = l.length ∧ Run taken l n r) ∨ (e ≠ 0 ∧ r = [] ∧ ∃ outs t, l[n]? = some t ∧ Run taken l n outs ∧ (plW (taken ++ outs) t).2 = e)
theorem Res.uniq {taken : List Rg} {l : List Wt} {r1 r2 : List Rg} {n1 n2 : Nat} {e1 e2 : Int} (h1 : Res taken l r1 n1 e1) (h2 : Res taken l r2 n2 e2) : r1 = r2 ∧ n1 = n2 ∧ e1 = e2 := by
  have mix : ∀ {r n e o m t}, e ≠ 0 → Run taken l n r → n = l.length → l[m]? = some t → Run taken l m o → (plW (taken ++ o) t).2 = e → False := by
    intro r n e o m t he hr hn ht ho hp
    have hm : m < l.length := (List.getElem?_eq_some_iff.1 ht).1
    have hpre := hr.prefix (show m ≤ n by omega)
    have := ho.uniq hpre (by omega)
    subst this
    have hx := hr.2 m t (by omega) ht
    rw [hx] at hp
    exact he hp.symm
  have two : ∀ {o1 m1 t1 o2 m2 t2 e1 e2}, e1 ≠ 0 → l[m1]? = some t1 → Run taken l m1 o1 → (plW (taken ++ o1) t1).2 = e1 → l[m2]? = some t2 → Run taken l m2 o2 → (plW (taken ++ o2) t2).2 = e2 → m1 < m2 → False := by
    intro o1 m1 t1 o2 m2 t2 e1 e2 he ht1 h1 hp1 ht2 h2 _ hlt
    have hm : m2 < l.length := (List.getElem?_eq_some_iff.1 ht2).1
    have hpre := h2.prefix (show m1 ≤ m2 by omega)
    have := h1.uniq hpre (by omega)
    subst this
    have hx := h2.2 m1 t1 hlt ht1
    rw [hx] at hp1
    exact he hp1.symm
  rcases h1 with ⟨a1, a2, a3⟩ | ⟨a1, a2, o1, t1, a3, a4, a5⟩ <;> rcases h2 with ⟨b1, b2, b3⟩ | ⟨b1, b2, o2, t2, b3, b4, b5⟩
  · subst a2; subst b2
    exact ⟨a3.uniq b3 (Nat.le_refl _), rfl, a1.trans b1.symm⟩
  · exact (mix b1 a3 a2 b3 b4 b5).elim
  · exact (mix a1 b3 b2 a3 a4 a5).elim
  · rcases Nat.lt_trichotomy n1 n2 with h | h | h
    · exact (two a1 a3 a4 a5 b3 b4 b5 h).elim
    · subst h
      have hm : n1 < l.length := (List.getElem?_eq_some_iff.1 a3).1
      have := a4.uniq b4 (by omega)
      subst this
      rw [a3] at b3
      cases b3
      exact ⟨a2.trans b2.symm, rfl, a5.symm.trans b5⟩
    · exact (two b1 b3 b4 b5 a3 a4 a5 h).elim
theorem plW_info {L : List Rg} {t : Wt} {r : Rg} (h : plW L t = (r, 0)) : L.length < 16 ∧ wantE t.n t.a t.w t.x = 0 ∧ ∃ m, low L t.n t.a = some m ∧ Least L t.n t.a m ∧ r = ⟨m, t.n, true, t.w, t.x, t.s⟩ := by
  unfold plW plR at h
  by_cases h16 : 16 ≤ L.length
  · rw [if_pos h16] at h; simp at h
  rw [if_neg h16] at h
  by_cases he : wantE t.n t.a t.w t.x ≠ 0
  · rw [if_pos he] at h; simp at h; exact absurd h.2 he
  rw [if_neg he] at h
  rcases low_cases L t.n t.a with ⟨m, hm, hl⟩ | ⟨hm, hl⟩
  · rw [hm] at h
    simp at h
    exact ⟨by omega, Classical.byContradiction he, m, hm, hl, h.symm⟩
  · rw [hm] at h; simp at h
theorem plW_ok {L : List Rg} {t : Wt} {r : Rg} (h : plW L t = (r, 0)) : r.base < 18446744073709551616 ∧ r.size < 18446744073709551616 := by
  obtain ⟨_, he, m, _, hl, rfl⟩ := plW_info h
  have := hl.1.2.1
  simp only [inR, decide_eq_true_eq] at this
  exact ⟨by simp only; omega, by simp only; omega⟩
theorem Run.ok {taken : List Rg} {l : List Wt} {k : Nat} {outs : List Rg} (h : Run taken l k outs) (hk : k ≤ l.length) (ht : RgsOk taken) : RgsOk (taken ++ outs) := by
  intro g hg
  rcases List.mem_append.1 hg with hg | hg
  · exact ht g hg
  · obtain ⟨j, hj⟩ := List.getElem?_of_mem hg
    have hlt : j < outs.length := (List.getElem?_eq_some_iff.1 hj).1
    obtain ⟨t, hjl⟩ : ∃ t, l[j]? = some t := ⟨_, List.getElem?_eq_getElem (show j < l.length by have := h.1; omega)⟩
    have := plW_ok (h.2 j t (by have := h.1; omega) hjl)
    have e : gAt outs j = g := by unfold gAt; rw [hj]; rfl
    rw [e] at this; exact this
set_option maxHeartbeats 400000 in
theorem cloneG_any (ao : Option Addr) (n cap : Nat) (l : List Rg) (w : World) (hl : l.length = n) (hn : n * 24 ≤ 140737488355328) (hc : ao = none → cap = 0) (hr : RdG w ao l) :
    Calls Try.prog 35 #[.slice ao n cap] w fun e w' => ∃ v, e = .returned v ∧ OwnG w' w.heap.size v l ∧ Below w.heap.size w w' := by
  have hq := fun (w : World) (a : Option Addr) (n cap : Nat) => Lib.run_eql_slice_nil (P := Try.prog) w 22 30 a n cap 0 0 Try.underlying22
  cases ao with
  | none =>
    obtain rfl := hc rfl
    have h0 : l = [] := by
      by_cases h0 : 0 < l.length
      · obtain ⟨_, _, e, _⟩ := hr 0 h0; cases e
      · exact List.eq_nil_of_length_eq_zero (by omega)
    subst h0
    obtain rfl : n = 0 := hl.symm
    go_enter Try.func35, Try.ntmps35
    go_wp2
    go_ret
    exact ⟨_, rfl, OwnG.nil _ _, Below.refl _ _⟩
  | some a =>
    have Hhl := Lib.hid hl
    clear hl
    have hr' := fun o => Lib.hid (hr.below ((Below.refl _ w).alloc (Nat.le_refl _) o))
    have hm := Lib.hid (OwnG.made0 w w.heap.size (Nat.le_refl _))
    go_enter Try.func35, Try.ntmps35
    go_wp2_with (at_builtin; refine wpList_append_G rfl _ _ rfl w.heap.size _ [] rfl hm.out _ n cap l rfl ?c1 Hhl.out (hr' _).out ?c2 ?c3 ?_)
    case c1 => intro h; cases h
    case c2 => simpa using hn
    case c3 => simp
    intro v' w' hown hgr
    go_wp2
    go_ret
    exact ⟨_, rfl, by simpa using hown, ((Below.refl _ _).alloc (Nat.le_refl _) _).grown hgr (by simp) (by intro k hk; cases hk; exact Nat.le_refl _)⟩
end Go.Proofs.Ythhodibfbfmijaa
