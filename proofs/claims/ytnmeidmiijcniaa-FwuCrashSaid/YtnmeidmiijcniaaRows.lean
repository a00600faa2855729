/-
  No cell of these rows narrows 'for every input' (looked for: loops, veiled, ifaces, maps, wideKeys, modest, calm, conditions, laid).
  DERIVED. THE GIVEN ROWS OF THIS SEAT. 6 by the template 'for every input the law returns true; each argument reads behind the call as it read before'; 0 by the template 'total and deterministic' (their statements: YtnmeidmiijcniaaTotals.lean).
  GIVEN WITH THE SEED: the statements are not yours to turn. If you find one false, say at which input.
  Laid BY PROGRAM, IN A SANDBOX (cutbox-rows.mjs): the forced cells as the released guide's own fill.sh prints them over the translation 59be50d5df9e7f00… (all of the seat's roots in one cut). By AI agents, Wed Nov 11 2026. No macro, syntax, notation, axiom, sorry.
-/
import Derived.Test.YtnmeidmiijcniaaChecked
import GoSem.Claim
import GoSem.ClaimJoined
import GoSem.ClaimMapViews
import Derived.JoinedTies
import Derived.KernelRfl
namespace Go.Proofs.Ytnmeidmiijcniaa
/- THE CELL 'sum', in the pinned program and in every row, IS THE sha256 OF THE DUMP (.gsa) THAT YtnmeidmiijcniaaProg.lean LOADS. Nothing in Lean hashes anything: it is a label: what it is worth is what the hold of that sum in a sandbox is worth. -/
noncomputable def Try.pinned : Pinned := { name := "ytnmeidmiijcniaa", sum := "59be50d5df9e7f0018002f02c2aa0fe2d66c20b1de332598fb8c798bad4d46d9", checked := Try.checked }
namespace Rows
def none {H : Type} : Left H := { results := [], args := [] }

/-- 'barbicanlaw23.FwuMetas': WHATEVER THE INPUT: true; the input reads as it did. -/
def fwuMetasSpec : ChangeSpec := { name := "fwuMetas", fn := fun _ => fun
  | [d1, d2] => { results := [.lit (.bool true)], args := [d1, d2] }
  | _ => none }
def fwuMetasRow : OpenClaim := { program := "ytnmeidmiijcniaa", sum := "59be50d5df9e7f0018002f02c2aa0fe2d66c20b1de332598fb8c798bad4d46d9", func := "barbican/barbicanlaw23.FwuMetas", spec := "fwuMetas", unfollowed := true, recurses := true, apart := false }
def FwuMetasSaid : Prop := fwuMetasRow.holds Try.pinned (OpenSpec.ofChange fwuMetasSpec)

/-- ITS FALSE NEIGHBOUR: 'it returns false'. Refute it at one input. -/
def fwuMetasWrong : ChangeSpec := { name := "fwuMetas", fn := fun _ => fun
  | [d1, d2] => { results := [.lit (.bool false)], args := [d1, d2] }
  | _ => none }
def FwuMetasWrongFalsely : Prop := fwuMetasRow.holds Try.pinned (OpenSpec.ofChange fwuMetasWrong)

/-- 'barbicanlaw23.FwuBack': WHATEVER THE INPUT: true; the input reads as it did. -/
def fwuBackSpec : ChangeSpec := { name := "fwuBack", fn := fun _ => fun
  | [d] => { results := [.lit (.bool true)], args := [d] }
  | _ => none }
def fwuBackRow : OpenClaim := { program := "ytnmeidmiijcniaa", sum := "59be50d5df9e7f0018002f02c2aa0fe2d66c20b1de332598fb8c798bad4d46d9", func := "barbican/barbicanlaw23.FwuBack", spec := "fwuBack", unfollowed := true, recurses := true, apart := false }
def FwuBackSaid : Prop := fwuBackRow.holds Try.pinned (OpenSpec.ofChange fwuBackSpec)

/-- ITS FALSE NEIGHBOUR: 'it returns false'. Refute it at one input. -/
def fwuBackWrong : ChangeSpec := { name := "fwuBack", fn := fun _ => fun
  | [d] => { results := [.lit (.bool false)], args := [d] }
  | _ => none }
def FwuBackWrongFalsely : Prop := fwuBackRow.holds Try.pinned (OpenSpec.ofChange fwuBackWrong)

/-- 'barbicanlaw23.FwuNil': WHATEVER THE INPUT: true; the input reads as it did. -/
def fwuNilSpec : ChangeSpec := { name := "fwuNil", fn := fun _ => fun
  | [d1, d2] => { results := [.lit (.bool true)], args := [d1, d2] }
  | _ => none }
def fwuNilRow : OpenClaim := { program := "ytnmeidmiijcniaa", sum := "59be50d5df9e7f0018002f02c2aa0fe2d66c20b1de332598fb8c798bad4d46d9", func := "barbican/barbicanlaw23.FwuNil", spec := "fwuNil", unfollowed := true, recurses := true, apart := false }
def FwuNilSaid : Prop := fwuNilRow.holds Try.pinned (OpenSpec.ofChange fwuNilSpec)

/-- ITS FALSE NEIGHBOUR: 'it returns false'. Refute it at one input. -/
def fwuNilWrong : ChangeSpec := { name := "fwuNil", fn := fun _ => fun
  | [d1, d2] => { results := [.lit (.bool false)], args := [d1, d2] }
  | _ => none }
def FwuNilWrongFalsely : Prop := fwuNilRow.holds Try.pinned (OpenSpec.ofChange fwuNilWrong)

/-- 'barbicanlaw23.FwuCrash': WHATEVER THE INPUT: true; the input reads as it did. -/
def fwuCrashSpec : ChangeSpec := { name := "fwuCrash", fn := fun _ => fun
  | [d] => { results := [.lit (.bool true)], args := [d] }
  | _ => none }
def fwuCrashRow : OpenClaim := { program := "ytnmeidmiijcniaa", sum := "59be50d5df9e7f0018002f02c2aa0fe2d66c20b1de332598fb8c798bad4d46d9", func := "barbican/barbicanlaw23.FwuCrash", spec := "fwuCrash", unfollowed := true, recurses := true, apart := false }
def FwuCrashSaid : Prop := fwuCrashRow.holds Try.pinned (OpenSpec.ofChange fwuCrashSpec)

/-- ITS FALSE NEIGHBOUR: 'it returns false'. Refute it at one input. -/
def fwuCrashWrong : ChangeSpec := { name := "fwuCrash", fn := fun _ => fun
  | [d] => { results := [.lit (.bool false)], args := [d] }
  | _ => none }
def FwuCrashWrongFalsely : Prop := fwuCrashRow.holds Try.pinned (OpenSpec.ofChange fwuCrashWrong)

/-- 'barbicanlaw23.FwuPlays': WHATEVER THE INPUT: true; the input reads as it did. -/
def fwuPlaysSpec : ChangeSpec := { name := "fwuPlays", fn := fun _ => fun
  | [d1, d2] => { results := [.lit (.bool true)], args := [d1, d2] }
  | _ => none }
def fwuPlaysRow : OpenClaim := { program := "ytnmeidmiijcniaa", sum := "59be50d5df9e7f0018002f02c2aa0fe2d66c20b1de332598fb8c798bad4d46d9", func := "barbican/barbicanlaw23.FwuPlays", spec := "fwuPlays", unfollowed := true, recurses := true, apart := false }
def FwuPlaysSaid : Prop := fwuPlaysRow.holds Try.pinned (OpenSpec.ofChange fwuPlaysSpec)

/-- ITS FALSE NEIGHBOUR: 'it returns false'. Refute it at one input. -/
def fwuPlaysWrong : ChangeSpec := { name := "fwuPlays", fn := fun _ => fun
  | [d1, d2] => { results := [.lit (.bool false)], args := [d1, d2] }
  | _ => none }
def FwuPlaysWrongFalsely : Prop := fwuPlaysRow.holds Try.pinned (OpenSpec.ofChange fwuPlaysWrong)

/-- 'barbicanlaw23.FwuBanks': WHATEVER THE INPUT: true; the input reads as it did. -/
def fwuBanksSpec : ChangeSpec := { name := "fwuBanks", fn := fun _ => fun
  | [d1, d2, d3] => { results := [.lit (.bool true)], args := [d1, d2, d3] }
  | _ => none }
def fwuBanksRow : OpenClaim := { program := "ytnmeidmiijcniaa", sum := "59be50d5df9e7f0018002f02c2aa0fe2d66c20b1de332598fb8c798bad4d46d9", func := "barbican/barbicanlaw23.FwuBanks", spec := "fwuBanks", unfollowed := true, recurses := true, apart := false }
def FwuBanksSaid : Prop := fwuBanksRow.holds Try.pinned (OpenSpec.ofChange fwuBanksSpec)

/-- ITS FALSE NEIGHBOUR: 'it returns false'. Refute it at one input. -/
def fwuBanksWrong : ChangeSpec := { name := "fwuBanks", fn := fun _ => fun
  | [d1, d2, d3] => { results := [.lit (.bool false)], args := [d1, d2, d3] }
  | _ => none }
def FwuBanksWrongFalsely : Prop := fwuBanksRow.holds Try.pinned (OpenSpec.ofChange fwuBanksWrong)

/- THE SECOND FORM. 'bulk': how many values and letters a reading holds, each counted each time it is reached (what is shared counts as often as it is met; a slice's spare places count too). A statement '..UptoSaid' is the law's where the arguments, and the package variables that the reading takes, are together of bulk at most 1048576: NARROWER than '..Said'. Prove '..Said' where nothing that the law and all that it calls make is longer than what came in: it says more and counts as full. Else prove '..UptoSaid'. A law counts once. -/
mutual
def uptoBulk {H : Type} : DataW H → Nat
  | .lit (.string bytes) => bytes.length + 1
  | .lit _ => 1
  | .nil => 1
  | .ptr d => uptoBulk d + 1
  | .slice elems spare => uptoBulkAll elems + uptoBulkAll spare + 1
  | .agg parts => uptoBulkAll parts + 1
  | .iface _ d => uptoBulk d + 1
  | .map entries => uptoBulkEntries entries + 1
  | .held _ => 1
def uptoBulkAll {H : Type} : List (DataW H) → Nat
  | [] => 0
  | d :: r => uptoBulk d + uptoBulkAll r
def uptoBulkEntries {H : Type} : List (Lit × DataW H) → Nat
  | [] => 0
  | x :: r => uptoBulkEntry x + uptoBulkEntries r
def uptoBulkEntry {H : Type} : Lit × DataW H → Nat
  | (.string bytes, d) => bytes.length + uptoBulk d + 1
  | (_, d) => uptoBulk d + 1
 end
def uptoSmall : (H : Type) → List (DataW H) → Bool := fun _ ds => decide (uptoBulkAll ds ≤ 1048576)
def OpenSpec.upto (s : _root_.Go.ChangeSpec) : _root_.Go.OpenSpec := { _root_.Go.OpenSpec.ofChange s with cond := some uptoSmall }

/-- 'barbicanlaw23.FwuMetas', WHERE WHAT IT READS IS OF BULK AT MOST 1048576: true; the input reads as it did. -/
def fwuMetasUptoRow : OpenClaim := { program := "ytnmeidmiijcniaa", sum := "59be50d5df9e7f0018002f02c2aa0fe2d66c20b1de332598fb8c798bad4d46d9", func := "barbican/barbicanlaw23.FwuMetas", spec := "fwuMetas", unfollowed := true, recurses := true, apart := false, narrowed := true }
def FwuMetasUptoSaid : Prop := fwuMetasUptoRow.holds Try.pinned (OpenSpec.upto fwuMetasSpec)

/-- 'barbicanlaw23.FwuBack', WHERE WHAT IT READS IS OF BULK AT MOST 1048576: true; the input reads as it did. -/
def fwuBackUptoRow : OpenClaim := { program := "ytnmeidmiijcniaa", sum := "59be50d5df9e7f0018002f02c2aa0fe2d66c20b1de332598fb8c798bad4d46d9", func := "barbican/barbicanlaw23.FwuBack", spec := "fwuBack", unfollowed := true, recurses := true, apart := false, narrowed := true }
def FwuBackUptoSaid : Prop := fwuBackUptoRow.holds Try.pinned (OpenSpec.upto fwuBackSpec)

/-- 'barbicanlaw23.FwuNil', WHERE WHAT IT READS IS OF BULK AT MOST 1048576: true; the input reads as it did. -/
def fwuNilUptoRow : OpenClaim := { program := "ytnmeidmiijcniaa", sum := "59be50d5df9e7f0018002f02c2aa0fe2d66c20b1de332598fb8c798bad4d46d9", func := "barbican/barbicanlaw23.FwuNil", spec := "fwuNil", unfollowed := true, recurses := true, apart := false, narrowed := true }
def FwuNilUptoSaid : Prop := fwuNilUptoRow.holds Try.pinned (OpenSpec.upto fwuNilSpec)

/-- 'barbicanlaw23.FwuCrash', WHERE WHAT IT READS IS OF BULK AT MOST 1048576: true; the input reads as it did. -/
def fwuCrashUptoRow : OpenClaim := { program := "ytnmeidmiijcniaa", sum := "59be50d5df9e7f0018002f02c2aa0fe2d66c20b1de332598fb8c798bad4d46d9", func := "barbican/barbicanlaw23.FwuCrash", spec := "fwuCrash", unfollowed := true, recurses := true, apart := false, narrowed := true }
def FwuCrashUptoSaid : Prop := fwuCrashUptoRow.holds Try.pinned (OpenSpec.upto fwuCrashSpec)

/-- 'barbicanlaw23.FwuPlays', WHERE WHAT IT READS IS OF BULK AT MOST 1048576: true; the input reads as it did. -/
def fwuPlaysUptoRow : OpenClaim := { program := "ytnmeidmiijcniaa", sum := "59be50d5df9e7f0018002f02c2aa0fe2d66c20b1de332598fb8c798bad4d46d9", func := "barbican/barbicanlaw23.FwuPlays", spec := "fwuPlays", unfollowed := true, recurses := true, apart := false, narrowed := true }
def FwuPlaysUptoSaid : Prop := fwuPlaysUptoRow.holds Try.pinned (OpenSpec.upto fwuPlaysSpec)

/-- 'barbicanlaw23.FwuBanks', WHERE WHAT IT READS IS OF BULK AT MOST 1048576: true; the input reads as it did. -/
def fwuBanksUptoRow : OpenClaim := { program := "ytnmeidmiijcniaa", sum := "59be50d5df9e7f0018002f02c2aa0fe2d66c20b1de332598fb8c798bad4d46d9", func := "barbican/barbicanlaw23.FwuBanks", spec := "fwuBanks", unfollowed := true, recurses := true, apart := false, narrowed := true }
def FwuBanksUptoSaid : Prop := fwuBanksUptoRow.holds Try.pinned (OpenSpec.upto fwuBanksSpec)

end Rows
end Go.Proofs.Ytnmeidmiijcniaa
