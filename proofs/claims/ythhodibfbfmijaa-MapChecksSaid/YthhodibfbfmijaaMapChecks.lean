/- A table of regions passes just if it may be: the walk. No condition. -/
import Derived.Test.YthhodibfbfmijaaMapJ
import Derived.Test.YthhodibfbfmijaaMapA
import Derived.Test.YthhodibfbfmijaaOpenG
namespace Go.Proofs.Ythhodibfbfmijaa.mapChecks
open Go.ChangeShapes Go.WideShapes Go.ChangeAt Go.RowKit
set_option linter.unusedVariables false
set_option linter.unusedSimpArgs false
set_option maxHeartbeats 1000000 in
theorem core (w : World) (ao : Option Addr) (len cap : Nat) (l : List Rg) (hl : l.length = len) (hlc : len ≤ cap) (hcap : cap * 24 ≤ 140737488351232) (hr : RdG w ao l) (hc : ao = none → cap = 0) (hok : RgsOk l) :
    Calls Try.prog 5 #[.slice ao len cap] w fun e w' => e = .returned (.bool true) ∧ Below w.heap.size w w' := by
  have HP1 := fun ao' cap' w' h0 h => Lib.hid (check_any ao' len cap' l w' hl h0 (by omega) h hok)
  have HP2 := fun w' h => Lib.hid (rcheck_any ao len cap l w' hl hlc (by omega) h hok)
  generalize ckE l = E at *
  have Hhc := Lib.hid hc
  clear hc
  have Hhok := Lib.hid hok
  clear hok
  go_enter Try.func5, Try.ntmps5
  go_wp2_with fail
  refine (awake_any _).mono ?_
  rintro e w1 ⟨rfl, hB1⟩
  go_wp2_with fail
  refine (own_any ao len cap l w1 hl (by omega) Hhc.out (hr.below hB1)).mono ?_
  rintro e w2 ⟨g, C, rfl, hC, hown, hb2⟩
  have hB2 := hB1.trans (hb2.mono hB1.size)
  clear hb2 hB1
  go_wp2_with fail
  refine (HP1 _ _ _ (by omega) (hown.lend hl).1).out.mono ?_
  rintro e w3 ⟨rfl, hb3⟩
  have hB3 := hB2.trans (hb3.mono hB2.size)
  have hown3 := hown.later hb3
  clear hb3 hB2 hown
  go_wp2_with fail
  refine (still_any ao g len C cap _ l _ hl (by omega) hC (hr.below hB3) hown3).mono ?_
  rintro e w6 ⟨rfl, hd⟩
  have hB6 := hB3.trans (hd.below _)
  clear hd hown3 hB3
  go_wp2_with fail
  refine (HP2 _ (hr.below hB6)).out.mono ?_
  rintro e w7 ⟨rfl, hd⟩
  have hB7 := hB6.trans (hd.below _)
  clear hd HP1 HP2
  go_wp2_with fail
  go_ret
  exact ⟨rfl, hB7⟩
theorem walk {H : Type} (enc : TypeId × Value → H) (W : World) (base : Nat) (v0 : Value) (d0 : DataW H) (p0 : List MemPlace)
    (k0 : Value.okWide Try.prog W .any base 22 v0)
    (h0 : DataW.Trod enc Try.prog W 0 (fun _ => true) true 22 v0 d0 p0)
    (hsz : (DataW.weightsEach Try.prog [22] ([d0] ++ [])).all (· ≤ reachBytes) = true) :
    Calls Try.prog 5 #[v0] W fun e w' => e = .returned (.bool true) ∧ Below W.heap.size W w' := by
  simp only [DataW.weightsEach, List.cons_append, List.nil_append] at hsz
  obtain ⟨z0, zz⟩ := all_app hsz
  obtain ⟨ao, len, cap, l, rfl, hl, hlc, hcap, hr, hc, hok⟩ := open_regions k0 h0 z0
  exact core W ao len cap l hl hlc hcap hr hc hok
end Go.Proofs.Ythhodibfbfmijaa.mapChecks
