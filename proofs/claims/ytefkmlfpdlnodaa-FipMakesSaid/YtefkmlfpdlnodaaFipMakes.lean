/- A package is made as the document says: the walk. No condition. -/
import Derived.Test.YtefkmlfpdlnodaaFipK
import Derived.Test.YtefkmlfpdlnodaaFipY
import Derived.Test.YtefkmlfpdlnodaaFipA
import Derived.Test.YtefkmlfpdlnodaaSameN
import Derived.Test.YtefkmlfpdlnodaaOpenI
namespace Go.Proofs.Ytefkmlfpdlnodaa.fipMakes
open Go.ChangeShapes Go.WideShapes Go.ChangeAt Go.RowKit
set_option linter.unusedVariables false
set_option linter.unusedSimpArgs false
theorem im_below {w w' : World} {m : Im} (h : m.Ok w) (hb : Below w.heap.size w w') : m.Ok w' := ⟨h.r.below hb, h.c, h.x, h.z⟩
set_option maxHeartbeats 1000000 in
theorem core (w : World) (a1 a2 : Option Addr) (n n2 c1 c2 : Nat) (ids : List Gu) (ims : List Im) (hl1 : ids.length = n) (hl2 : ims.length = n2) (hn : n ≤ 140737488351232) (hn2 : n2 ≤ 140737488351232) (hc1 : n ≤ c1) (hr1 : RdS guc 16 w a1 ids) (hr2 : RdS imc 1 w a2 ims) (hok : ∀ m ∈ ims, Im.Ok w m) :
    Calls Try.prog 5 #[.slice a1 n c1, .slice a2 n2 c2] w fun e w' => e = .returned (.bool true) ∧ Below w.heap.size w w' := by
  have Hp := Lib.hid (pmake_any a1 a2 n n2 c1 c2 ids ims w hl1 hl2 hn hn2 hc1 hr1 hr2 hok)
  have Hq := Lib.hid (fun w' (h : Below w.heap.size w w') => rmake_any a1 a2 n n2 c1 c2 ids ims w' hl1 hl2 hn hn2 hc1 (hr1.below h) (hr2.below h) (fun m hm => im_below (hok m hm) h))
  generalize makeR ids (ims.map Im.l) = R at *
  obtain ⟨L, E⟩ := R
  clear hl1 hl2 hr1 hr2 hok hc1 hn hn2
  go_enter Try.func5, Try.ntmps5
  go_wp2_with fail
  as_aux_lemma =>
  refine Hp.out.mono ?_
  rintro e w2 ⟨v, rfl, ho2, hb2⟩
  obtain ⟨a2', c2', rfl, hc2, hm2, hr2⟩ := ho2.rd
  have Hb2 := Lib.hid hb2
  have Hrd2 := Lib.hid hr2
  have Hle : Hid (L.length ≤ maxLen) := Lib.hid (Nat.le_trans hc2 hm2)
  clear ho2 hb2 hr2 hc2 hm2 Hp
  go_wp2_with fail
  as_aux_lemma =>
  refine (Hq.out _ Hb2.out).mono ?_
  rintro e w3 ⟨v, rfl, ho3, hb3⟩
  obtain ⟨a3, c3, rfl, hc3, hm3, hr3⟩ := ho3.rd
  have Hb3 := Lib.hid (Hb2.out.trans (hb3.mono Hb2.out.size))
  have Hr3 := Lib.hid hr3
  have Hr3' := Lib.hid (Hrd2.out.below hb3)
  clear ho3 hb3 hr3 hc3 hm3 Hq Hb2 Hrd2
  go_wp2_with fail
  as_aux_lemma =>
  have hml : maxLen ≤ 9223372036854775807 := by decide
  refine (same_true _ _ _ _ _ _ _ _ _ rfl rfl rfl (Nat.le_trans Hle.out hml) (Nat.le_trans Hle.out hml) Hr3'.out Hr3.out).mono ?_
  rintro e w4 ⟨rfl, hd4⟩
  have Hb4 := Lib.hid (Hb3.out.trans (hd4.below _))
  clear hd4 hml Hb3 Hr3 Hr3'
  go_wp2_with fail
  refine (alive_any _).mono ?_
  rintro e w5 ⟨rfl, hb5⟩
  have Hb5 := Lib.hid (Hb4.out.trans (hb5.mono Hb4.out.size))
  clear hb5
  go_wp2_with fail
  go_ret
  exact ⟨rfl, Hb5.out⟩
set_option maxRecDepth 100000 in
theorem walk {H : Type} (enc : TypeId × Value → H) (W : World) (base : Nat) (v0 : Value) (d0 : DataW H) (p0 : List MemPlace) (v1 : Value) (d1 : DataW H) (p1 : List MemPlace)
    (k0 : Value.okWide Try.prog W .any base 39 v0) (k1 : Value.okWide Try.prog W .any base 40 v1)
    (h0 : DataW.Trod enc Try.prog W 0 (fun _ => true) true 39 v0 d0 p0) (h1 : DataW.Trod enc Try.prog W 0 (fun _ => true) true 40 v1 d1 p1)
    (hsz : (DataW.weightsEach Try.prog [39, 40] ([d0, d1] ++ [])).all (· ≤ reachBytes) = true) :
    Calls Try.prog 5 #[v0, v1] W fun e w' => e = .returned (.bool true) ∧ Below W.heap.size W w' := by
  simp only [DataW.weightsEach, List.cons_append, List.nil_append] at hsz
  obtain ⟨z0, hsz⟩ := all_app hsz
  obtain ⟨z1, hsz⟩ := all_app hsz
  obtain ⟨a1, n, c1, ids, rfl, hl1, hc1, hz1, hr1, -, -⟩ := open_ids k0 h0 z0
  obtain ⟨a2, n2, c2, ims, rfl, hl2, hc2, hz2, hr2, -, hok⟩ := open_ims k1 h1 z1
  exact core W a1 a2 n n2 c1 c2 ids ims hl1 hl2 (by omega) (by omega) hc1 hr1 hr2 hok
end Go.Proofs.Ytefkmlfpdlnodaa.fipMakes
