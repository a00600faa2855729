/- The CRC-32 of any list, begun at any number, is the one that the document's function takes bit by bit (OctetsSumsSaid). No condition: every list of bytes, every number of 32 bits. -/
import Derived.Test.YtdkjkdlpkjklmaaRows
import Derived.Test.YtdkjkdlpkjklmaaCrc
import Derived.Test.YtdkjkdlpkjklmaaOpen
import Derived.Lib.SlBytesConst
namespace Go.Proofs.Ytdkjkdlpkjklmaa.octetsSums
open Go.ChangeShapes Go.WideShapes Go.ChangeAt Go.RowKit
set_option linter.unusedVariables false
theorem walk {H : Type} (enc : TypeId × Value → H) (W : World) (base : Nat) (v0 : Value) (d0 : DataW H) (p0 : List MemPlace) (v1 : Value) (d1 : DataW H) (p1 : List MemPlace)
    (k0 : Value.okWide Try.prog W .any base 22 v0) (k1 : Value.okWide Try.prog W .any base 23 v1)
    (h0 : DataW.Trod enc Try.prog W 0 (fun _ => true) true 22 v0 d0 p0) (h1 : DataW.Trod enc Try.prog W 0 (fun _ => true) true 23 v1 d1 p1)
    (hsz : (DataW.weightsEach Try.prog [22, 23] ([d0, d1] ++ [])).all (· ≤ reachBytes) = true) :
    Calls Try.prog 3 #[v0, v1] W fun e w' => e = .returned (.bool true) ∧ Below W.heap.size W w' := by
  simp only [List.cons_append, List.nil_append, DataW.weightsEach] at hsz
  obtain ⟨z0, hsz⟩ := all_app hsz
  obtain ⟨z1, hsz⟩ := all_app hsz
  obtain ⟨s, rfl, rfl, rfl, w0⟩ := open_int Try.underlying22 k0 h0
  obtain ⟨ao, n, cap, l, rfl, hl, hn, hcap, hrd⟩ := open_bytes Try.underlying23 Try.underlying5 (by kernel_rfl) (by kernel_rfl) k1 h1 z1
  obtain ⟨S, rfl⟩ : ∃ S : BitVec 32, s = S.toNat := by
    simp [Lit.wf, IntKind.min, IntKind.max, IntKind.bits, IntKind.signed] at w0
    exact ⟨BitVec.ofNat 32 s.toNat, by simp; omega⟩
  clear k0 k1 h0 h1 z0 z1 hsz w0
  have Hhl := Lib.hid hl
  clear hl
  have kc := fun (w : World) (C : Array Value) (n c : Nat) => Lib.run_convert_bytes_const (P := Try.prog) w 23 5 C n c Try.underlying23 Try.underlying5
  go_enter Try.func3, Try.ntmps3
  go_wp2_with fail
  refine (crc_any ao n cap l S _ rfl _ Hhl.out (by omega) hrd).mono ?_
  rintro e w' ⟨rfl, rfl⟩
  go_wp2_with fail
  refine (rcrc_any ao n cap l S _ rfl _ Hhl.out (by omega) hrd).mono ?_
  rintro e w' ⟨rfl, rfl⟩
  go_wp2_with fail
  refine (crc_any (some ⟨W.heap.size, 0, none⟩) 9 9 [49, 50, 51, 52, 53, 54, 55, 56, 57] 0#32 0 rfl _ rfl (by omega) (Rd.new W [49, 50, 51, 52, 53, 54, 55, 56, 57] _ _)).mono ?_
  rintro e w' ⟨rfl, rfl⟩
  have hv : (((crc 0#32 [49, 50, 51, 52, 53, 54, 55, 56, 57]).toNat : Int) == 3421780262) = true := by decide +kernel
  go_wp2_with fail
  go_ret
  exact ⟨rfl, (Below.refl _ _).alloc (Nat.le_refl _) _⟩
end Go.Proofs.Ytdkjkdlpkjklmaa.octetsSums
