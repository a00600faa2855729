/- Two lists of entries that are one: the document's Same. No condition. -/
import Derived.Test.YtefkmlfpdlnodaaGu
import Derived.Test.YtefkmlfpdlnodaaNum
import Derived.BigQuiet
set_option linter.unusedVariables false
set_option linter.unusedSimpArgs false
namespace Go.Proofs.Ytefkmlfpdlnodaa
open Go.RowKit
attribute [local go_sem ↓] load_en
structure EnSame (n : Nat) (w : World) (i : Value) (w' : World) : Prop where
  x : ∃ k : Nat, k ≤ n ∧ i = .int .i64 k ∧ Drn w w'
theorem OwnS.ptr {w : World} {B n cp : Nat} {ao : Option Addr} {es : List En} (h : OwnS enc 32 19 w B (.slice ao n cp) es) {j : Nat} (hj : j < es.length) : ∃ g, ao = some ⟨g, 0, none⟩ := by
  rcases h.cases enc_len with ⟨_, h⟩ | ⟨g, _, h, _⟩
  · rw [h] at hj; simp at hj
  · cases h; exact ⟨g, rfl⟩
set_option maxHeartbeats 400000 in
theorem rsame_true (ao bo : Option Addr) (n ca cb : Nat) (es : List En) (w : World) (hl : es.length = n) (hn : n ≤ 140737488351232) (hok : ∀ e ∈ es, e.Ok) (ha : OwnS enc 32 19 w 0 (.slice ao n ca) es) (hb : OwnS enc 32 19 w 0 (.slice bo n cb) es) :
    Calls Try.prog 11 #[.slice ao n ca, .slice bo n cb] w fun e w' => e = .returned (.bool true) ∧ Drn w w' := by
  have Hhl := Lib.hid hl
  clear hl
  have Hhok := Lib.hid hok
  clear hok
  have Hha := Lib.hid ha
  clear ha
  have Hhb := Lib.hid hb
  clear hb
  go_enter Try.func11, Try.ntmps11
  go_wp2_with fail
  go_loopw [5] (EnSame n w) (fun i _ => n - (intOf i).toNat)
  case atStart => exact ⟨0, by omega, rfl, Drn.refl _⟩
  case round =>
    obtain ⟨k, hk, rfl, hd⟩ := hrel
    have HA := Lib.hid (Hha.out.drn hd)
    have HB := Lib.hid (Hhb.out.drn hd)
    have Hd := Lib.hid hd
    clear hd
    by_cases hlt : k < n
    · obtain ⟨y, hy⟩ : ∃ y, es[k]? = some y := ⟨_, List.getElem?_eq_getElem (by rw [Hhl.out]; exact hlt)⟩
      obtain ⟨ga, rfl⟩ := HA.out.ptr (j := k) (by rw [Hhl.out]; exact hlt)
      obtain ⟨gb, rfl⟩ := HB.out.ptr (j := k) (by rw [Hhl.out]; exact hlt)
      have hyo := Hhok.out _ (List.mem_of_getElem? hy)
      have heq := fun w => en_equal hyo hyo w
      rw [decide_eq_true rfl] at heq
      have hge : Try.prog.eqGuardType Try.prog.depth 32 = false := by kernel_rfl
      have hl1 := run_loadEn (HA.out.range hy)
      have hl1d := fun m => run_loadEn ((HA.out.drn (⟨m, rfl⟩ : Drn wr (wr.drewN m))).range hy)
      have hl2 := run_loadEn (HB.out.range hy)
      have hl2d := fun m => run_loadEn ((HB.out.drn (⟨m, rfl⟩ : Drn wr (wr.drewN m))).range hy)
      have e0 : (0 : Int) ≤ (k : Int) := by omega
      have e1 : (k : Int) < (n : Int) := by omega
      clear hy hyo
      go_wp2_with fail
      go_quiet (fail)
      go_wp2_with fail
      first
      | (go_roundw
         case rel => exact ⟨k + 1, by omega, by go_num, Hd.out.step _⟩
         case measure => (first | omega | (simp [intOf] <;> omega) | (simp only [intOf] <;> omega)))
      | exact ⟨⟨k + 1, by omega, by go_num, Hd.out.step _⟩, by (first | omega | (simp [intOf] <;> omega) | (simp only [intOf] <;> omega))⟩
      | (refine ⟨?_, by (first | omega | (simp [intOf] <;> omega) | (simp only [intOf] <;> omega))⟩
         (repeat apply Exists.intro)
         refine (fun a b => And.intro b a) ?_ ?_
         · first | rfl | ((repeat refine ⟨rfl, ?_⟩); rfl)
         exact ⟨k + 1, by omega, by go_num, Hd.out.step _⟩)
    · go_wp2_with fail
      go_ret
      exact ⟨rfl, Hd.out⟩
end Go.Proofs.Ytefkmlfpdlnodaa
