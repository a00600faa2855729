/- Numbers of so many bits get a sign, and lose it again, by the document's rule; what has no room is refused: the walk. No condition. -/
import Derived.Test.YtdkjkdlpkjklmaaRNarrow
import Derived.Test.YtdkjkdlpkjklmaaAlive1
import Derived.Test.YtdkjkdlpkjklmaaOpen
namespace Go.Proofs.Ytdkjkdlpkjklmaa.octetsSigns
open Go.ChangeShapes Go.WideShapes Go.ChangeAt Go.RowKit
set_option linter.unusedVariables false
set_option linter.unusedSimpArgs false
set_option maxHeartbeats 1000000 in
theorem core (W : World) (v : Nat) (n b : Int) (hv : v < 18446744073709551616) (l1 : -9223372036854775808 ≤ n) (l2 : n ≤ 9223372036854775807) :
    Calls Try.prog 5 #[.int .u64 v, .int .i64 n, .int .i64 b] W fun e w' => e = .returned (.bool true) ∧ Below W.heap.size W w' := by
  have Ha := fun w => Lib.hid (sign_any v b w hv)
  have Hb := fun w => Lib.hid (narrow_any n b w)
  have Hc := fun w => Lib.hid (rsign_any v b w hv)
  have Hd := fun w => Lib.hid (rnarrow_any n b w l1 l2)
  have k1 := fun h => back1 (v := v) (b := b) h
  have k2 := fun h => back2 (n := n) (b := b) h
  have Hs := Lib.hid (fun (x : Nat) (w : World) hx => sign_any x b w hx)
  have Hn := Lib.hid (fun (x : Int) (w : World) => narrow_any x b w)
  clear hv l1 l2
  generalize signX v b = sx at *
  generalize narrowX n b = nx at *
  generalize hse : signE v b = se at *
  generalize hne : narrowE n b = ne at *
  clear hse hne
  have Hk1 := Lib.hid k1
  have Hk2 := Lib.hid k2
  clear k1 k2
  go_enter Try.func5, Try.ntmps5
  go_wp2_with fail
  refine (Ha _).out.mono ?_
  rintro e w' ⟨rfl, rfl⟩
  go_wp2_with fail
  refine (Hb _).out.mono ?_
  rintro e w' ⟨rfl, rfl⟩
  go_wp2_with fail
  refine (Hc _).out.mono ?_
  rintro e w' ⟨rfl, rfl⟩
  go_wp2_with fail
  refine (Hd _).out.mono ?_
  rintro e w' ⟨rfl, rfl⟩
  go_wp2_with fail
  refine (alive_any W).mono ?_
  rintro e w1 ⟨rfl, hb⟩
  clear Ha Hb Hc Hd
  by_cases h1 : se = 0
  · subst h1
    obtain ⟨a1, a2⟩ := Hk1.out rfl
    have HS := fun w => Lib.hid (a1 ▸ a2 ▸ Hn.out sx w)
    clear a1 a2 Hk1 Hn
    go_wp2_with fail
    refine (HS _).out.mono ?_
    rintro e w' ⟨rfl, rfl⟩
    by_cases h2 : ne = 0
    · subst h2
      obtain ⟨b1, b2, b3⟩ := Hk2.out rfl
      have HT := fun w => Lib.hid (b1 ▸ b2 ▸ Hs.out nx w b3)
      clear b1 b2 b3 Hk2 Hs
      go_wp2_with fail
      refine (HT _).out.mono ?_
      rintro e w' ⟨rfl, rfl⟩
      go_wp2_with fail
      go_ret
      exact ⟨rfl, hb⟩
    · have t2 : (ne == 0) = false := beq_eq_false_iff_ne.mpr h2
      clear h2
      go_wp2_with fail
      go_ret
      exact ⟨rfl, hb⟩
  · have t1 : (se == 0) = false := beq_eq_false_iff_ne.mpr h1
    clear h1
    by_cases h2 : ne = 0
    · subst h2
      obtain ⟨b1, b2, b3⟩ := Hk2.out rfl
      have HT := fun w => Lib.hid (b1 ▸ b2 ▸ Hs.out nx w b3)
      clear b1 b2 b3 Hk2 Hs
      go_wp2_with fail
      refine (HT _).out.mono ?_
      rintro e w' ⟨rfl, rfl⟩
      go_wp2_with fail
      go_ret
      exact ⟨rfl, hb⟩
    · have t2 : (ne == 0) = false := beq_eq_false_iff_ne.mpr h2
      clear h2
      go_wp2_with fail
      go_ret
      exact ⟨rfl, hb⟩
theorem walk {H : Type} (enc : TypeId × Value → H) (W : World) (base : Nat) (v0 : Value) (d0 : DataW H) (p0 : List MemPlace) (v1 : Value) (d1 : DataW H) (p1 : List MemPlace) (v2 : Value) (d2 : DataW H) (p2 : List MemPlace)
    (k0 : Value.okWide Try.prog W .any base 29 v0) (k1 : Value.okWide Try.prog W .any base 2 v1) (k2 : Value.okWide Try.prog W .any base 3 v2)
    (h0 : DataW.Trod enc Try.prog W 0 (fun _ => true) true 29 v0 d0 p0) (h1 : DataW.Trod enc Try.prog W 0 (fun _ => true) true 2 v1 d1 p1) (h2 : DataW.Trod enc Try.prog W 0 (fun _ => true) true 3 v2 d2 p2)
    (hsz : (DataW.weightsEach Try.prog [29, 2, 3] ([d0, d1, d2] ++ [])).all (· ≤ reachBytes) = true) :
    Calls Try.prog 5 #[v0, v1, v2] W fun e w' => e = .returned (.bool true) ∧ Below W.heap.size W w' := by
  obtain ⟨v, rfl, rfl, rfl, wv⟩ := open_int Try.underlying29 k0 h0
  obtain ⟨n, rfl, rfl, rfl, wn⟩ := open_int Try.underlying2 k1 h1
  obtain ⟨b, rfl, rfl, rfl, wb⟩ := open_int Try.underlying3 k2 h2
  simp [Lit.wf, IntKind.min, IntKind.max, IntKind.bits, IntKind.signed] at wv wn
  obtain ⟨v, rfl⟩ := Int.eq_ofNat_of_zero_le wv.1
  exact core W v n b (by omega) wn.1 (by omega)
end Go.Proofs.Ytdkjkdlpkjklmaa.octetsSigns
