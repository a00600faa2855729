/- The document's SameRegions of equal lists. No condition. -/
import Derived.Test.YtcbiohpgmooefaaRmE
import Derived.BigQuiet
set_option linter.unusedVariables false
set_option linter.unusedSimpArgs false
namespace Go.Proofs.Ytcbiohpgmooefaa
open Go.RowKit
structure SrIn (l : List Rg) (w : World) (i : Value) (wr : World) : Prop where
  x : ∃ k : Nat, k ≤ l.length ∧ i = .int .i64 k ∧ Drn w wr
set_option maxHeartbeats 1000000 in
theorem samer_any (ao bo : Option Addr) (n ca cb : Nat) (l : List Rg) (w : World) (hl : l.length = n) (hn : n ≤ 1000) (hra : RdS rgc 6 w ao l) (hrb : RdS rgc 6 w bo l) :
    Calls Try.prog 19 #[.slice ao n ca, .slice bo n cb] w fun e w' => e = .returned (.bool true) ∧ Drn w w' := by
  have hguard : Try.prog.eqGuardType Try.prog.depth 33 = false := by kernel_rfl
  have Hl := Lib.hid hl
  have Hn := Lib.hid hn
  have Ha := Lib.hid hra
  have Hb := Lib.hid hrb
  clear hl hn hra hrb
  go_enter Try.func19, Try.ntmps19
  go_wp2_with fail
  go_loopw [5] (SrIn l w) (fun i _ => n - (intOf i).toNat)
  case atStart => exact ⟨0, Nat.zero_le _, rfl, Drn.refl _⟩
  case round =>
    obtain ⟨k, hk, rfl, hd⟩ := hrel
    have hln := Hl.out
    have hn := Hn.out
    by_cases hlt : k < n
    · have e1 : (k : Int) < (n : Int) := by omega
      obtain ⟨g, hg⟩ : ∃ g, l[k]? = some g := ⟨_, List.getElem?_eq_getElem (by omega)⟩
      obtain ⟨xb, xo, rfl, -, hca⟩ := (Ha.out.drn hd) k g hg
      obtain ⟨yb, yo, rfl, -, hcb⟩ := (Hb.out.drn hd) k g hg
      have c0 : wr.cell? ⟨xb, xo + k * 6, none⟩ = _ := hca 0 _ rfl
      have c1 := hca 1 _ rfl
      have c2 := hca 2 _ rfl
      have c3 := hca 3 _ rfl
      have c4 := hca 4 _ rfl
      have c5 := hca 5 _ rfl
      have d0 : wr.cell? ⟨yb, yo + k * 6, none⟩ = _ := hcb 0 _ rfl
      have d1 := hcb 1 _ rfl
      have d2 := hcb 2 _ rfl
      have d3 := hcb 3 _ rfl
      have d4 := hcb 4 _ rfl
      have d5 := hcb 5 _ rfl
      have heq := fun w => rg_equal g g w
      rw [decide_eq_true rfl] at heq
      clear hca hcb hg
      go_wp2_with fail
      go_quiet (fail)
      go_wp2_with fail
      first
      | (go_roundw
         case rel => exact ⟨k + 1, by omega, by go_num, hd.step _⟩
         case measure => (first | omega | (simp [intOf] <;> omega) | (simp only [intOf] <;> omega)))
      | exact ⟨⟨k + 1, by omega, by go_num, hd.step _⟩, by (first | omega | (simp [intOf] <;> omega) | (simp only [intOf] <;> omega))⟩
      | (refine ⟨?_, by (first | omega | (simp [intOf] <;> omega) | (simp only [intOf] <;> omega))⟩
         (repeat apply Exists.intro)
         refine (fun a b => And.intro b a) ?_ ?_
         · first | rfl | ((repeat refine ⟨rfl, ?_⟩); rfl)
         exact ⟨k + 1, by omega, by go_num, hd.step _⟩)
    · have e1 : ¬ (k : Int) < (n : Int) := by omega
      go_wp2_with fail
      go_ret
      exact ⟨rfl, hd⟩
end Go.Proofs.Ytcbiohpgmooefaa
