/- An image's bytes are those that the document says: the walk. No condition. -/
import Derived.Test.YtefkmlfpdlnodaaFipI
import Derived.Test.YtefkmlfpdlnodaaFipJ
import Derived.Test.YtefkmlfpdlnodaaFipA
import Derived.Test.YtefkmlfpdlnodaaSameN
import Derived.Test.YtefkmlfpdlnodaaOpenH
namespace Go.Proofs.Ytefkmlfpdlnodaa.fipImages
open Go.ChangeShapes Go.WideShapes Go.ChangeAt Go.RowKit
set_option linter.unusedVariables false
set_option linter.unusedSimpArgs false
attribute [local go_sem ↓] load_gu
set_option maxHeartbeats 1000000 in
theorem core (w : World) (ao : Option Addr) (n cap : Nat) (l : List UInt8) (g : Gu) (hl : l.length = n) (hcap : n ≤ cap) (hcm : n ≤ 140737488351232) (hcz : ao = none → cap = 0) (hr : Rd w ao l) :
    Calls Try.prog 4 #[.slice ao n cap, .agg (guc g).toArray] w fun e w' => e = .returned (.bool true) ∧ Below w.heap.size w w' := by
  have hb0 := (Below.refl w.heap.size w).alloc (Nat.le_refl _) (.cells (guc g).toArray 30)
  have Hb0 := Lib.hid hb0
  have Hr0 := Lib.hid (hr.below hb0)
  have HG0 := Lib.hid (HB.new w (guc g) 30)
  have Hs0 : Hid (w.heap.size ≤ (w.alloc (.cells (guc g).toArray 30)).heap.size) := Lib.hid hb0.size
  have Hp := Lib.hid (fun w' h => pimage_any ao n cap l g w' hl hcap hcm hcz h)
  have Hq := Lib.hid (fun w' h => rimage_any ao n cap l g w' hl hcap hcm hcz h)
  generalize imageR l g = R at *
  obtain ⟨L, E⟩ := R
  have hld1 := run_loadGu HG0.out.whole
  clear hb0 hr hl hcap hcm hcz
  go_enter Try.func4, Try.ntmps4
  go_wp2_with fail
  as_aux_lemma =>
  generalize w.alloc (.cells (guc g).toArray 30) = w1 at *
  obtain ⟨B, hB⟩ : ∃ B, w.heap.size = B := ⟨_, rfl⟩
  rw [hB] at Hb0 Hs0 HG0 ⊢
  have HBx := Lib.hid hB
  clear hB hld1
  refine (Hp.out _ Hr0.out).mono ?_
  rintro e w2 ⟨v, rfl, ho2, hb2⟩
  obtain ⟨a2, c2, rfl, hc2, hm2, hr2⟩ := ho2.rd
  have hld2 := run_loadGu (HG0.out.later hb2).whole
  have HG2 := Lib.hid (HG0.out.later hb2)
  have Hb2 := Lib.hid (Hb0.out.trans (hb2.mono Hs0.out))
  have Hs2 : Hid (B ≤ w2.heap.size) := Lib.hid (Nat.le_trans Hs0.out hb2.size)
  have Hr2 := Lib.hid (Hr0.out.below hb2)
  have Hrd2 := Lib.hid hr2
  have Hle : Hid (L.length ≤ maxLen) := Lib.hid (Nat.le_trans hc2 hm2)
  clear ho2 hb2 hr2 hc2 hm2 Hp Hr0 HG0 Hb0 Hs0
  go_wp2_with fail
  as_aux_lemma =>
  refine (Hq.out _ Hr2.out).mono ?_
  rintro e w3 ⟨v, rfl, ho3, hb3⟩
  obtain ⟨a3, c3, rfl, hc3, hm3, hr3⟩ := ho3.rd
  have Hb3 := Lib.hid (Hb2.out.trans (hb3.mono Hs2.out))
  have Hs3 : Hid (B ≤ w3.heap.size) := Lib.hid (Nat.le_trans Hs2.out hb3.size)
  have Hr3 := Lib.hid hr3
  have Hr3' := Lib.hid (Hrd2.out.below hb3)
  clear ho3 hb3 hr3 hc3 hm3 Hq Hr2 HG2 Hb2 Hs2 Hrd2 hld2
  go_wp2_with fail
  as_aux_lemma =>
  have hml : maxLen ≤ 9223372036854775807 := by decide
  refine (same_true _ _ _ _ _ _ _ _ _ rfl rfl rfl (Nat.le_trans Hle.out hml) (Nat.le_trans Hle.out hml) Hr3'.out Hr3.out).mono ?_
  rintro e w4 ⟨rfl, hd4⟩
  have Hb4 := Lib.hid (Hb3.out.trans (hd4.below _))
  have Hs4 : Hid (B ≤ w4.heap.size) := Lib.hid (Nat.le_trans Hs3.out (hd4.below 0).size)
  clear hd4 hml Hb3 Hs3 Hr3 Hr3'
  go_wp2_with fail
  refine (alive_any _).mono ?_
  rintro e w5 ⟨rfl, hb5⟩
  have Hb5 := Lib.hid (Hb4.out.trans (hb5.mono Hs4.out))
  clear hb5
  go_wp2_with fail
  go_ret
  exact ⟨rfl, by rw [HBx.out]; exact Hb5.out⟩
set_option maxRecDepth 100000 in
theorem walk {H : Type} (enc : TypeId × Value → H) (W : World) (base : Nat) (v0 : Value) (d0 : DataW H) (p0 : List MemPlace) (v1 : Value) (d1 : DataW H) (p1 : List MemPlace)
    (k0 : Value.okWide Try.prog W .any base 22 v0) (k1 : Value.okWide Try.prog W .any base 30 v1)
    (h0 : DataW.Trod enc Try.prog W 0 (fun _ => true) true 22 v0 d0 p0) (h1 : DataW.Trod enc Try.prog W 0 (fun _ => true) true 30 v1 d1 p1)
    (hsz : (DataW.weightsEach Try.prog [22, 30] ([d0, d1] ++ [])).all (· ≤ reachBytes) = true) :
    Calls Try.prog 4 #[v0, v1] W fun e w' => e = .returned (.bool true) ∧ Below W.heap.size W w' := by
  simp only [DataW.weightsEach, List.cons_append, List.nil_append] at hsz
  obtain ⟨z0, hsz⟩ := all_app hsz
  obtain ⟨ao, n, cap, l, rfl, hl, hn, hcap, hrd, hnil⟩ := open_bytes Try.underlying22 Try.underlying5 (by kernel_rfl) (by kernel_rfl) k0 h0 z0
  obtain ⟨g, rfl⟩ := open_gu k1 h1
  exact core W ao n cap l g hl hn (by omega) hnil hrd
end Go.Proofs.Ytefkmlfpdlnodaa.fipImages
