/-
  No cell of these rows narrows 'for every input' (looked for: loops, veiled, ifaces, maps, wideKeys, modest, calm, conditions, laid).
  DERIVED. THE GIVEN ROWS OF THIS SEAT. 6 by the template 'for every input the law returns true; each argument reads behind the call as it read before'; 0 by the template 'total and deterministic' (their statements: YtefkmlfpdlnodaaTotals.lean).
  GIVEN WITH THE SEED: the statements are not yours to turn. If you find one false, say at which input.
  Laid BY PROGRAM, IN A SANDBOX (cutbox-rows.mjs): the forced cells as the released guide's own fill.sh prints them over the translation 3d5097b905516b3a… (all of the seat's roots in one cut). By AI agents, Wed Nov 11 2026. No macro, syntax, notation, axiom, sorry.
-/
import Derived.Test.YtefkmlfpdlnodaaChecked
import GoSem.Claim
import GoSem.ClaimJoined
import GoSem.ClaimMapViews
import Derived.JoinedTies
import Derived.KernelRfl
namespace Go.Proofs.Ytefkmlfpdlnodaa
/- THE CELL 'sum', in the pinned program and in every row, IS THE sha256 OF THE DUMP (.gsa) THAT YtefkmlfpdlnodaaProg.lean LOADS. Nothing in Lean hashes anything: it is a label: what it is worth is what the hold of that sum in a sandbox is worth. -/
noncomputable def Try.pinned : Pinned := { name := "ytefkmlfpdlnodaa", sum := "3d5097b905516b3a1cef7e469c606777e846db7b04b5efa1ba143827cfcde9d7", checked := Try.checked }
namespace Rows
def none {H : Type} : Left H := { results := [], args := [] }

/-- 'barbicanlaw19.FipOpens': WHATEVER THE INPUT: true; the input reads as it did. -/
def fipOpensSpec : ChangeSpec := { name := "fipOpens", fn := fun _ => fun
  | [d] => { results := [.lit (.bool true)], args := [d] }
  | _ => none }
def fipOpensRow : OpenClaim := { program := "ytefkmlfpdlnodaa", sum := "3d5097b905516b3a1cef7e469c606777e846db7b04b5efa1ba143827cfcde9d7", func := "barbican/barbicanlaw19.FipOpens", spec := "fipOpens", unfollowed := true, recurses := true, plainKeys := false, apart := false }
def FipOpensSaid : Prop := fipOpensRow.holds Try.pinned (OpenSpec.ofChange fipOpensSpec)

/-- ITS FALSE NEIGHBOUR: 'it returns false'. Refute it at one input. -/
def fipOpensWrong : ChangeSpec := { name := "fipOpens", fn := fun _ => fun
  | [d] => { results := [.lit (.bool false)], args := [d] }
  | _ => none }
def FipOpensWrongFalsely : Prop := fipOpensRow.holds Try.pinned (OpenSpec.ofChange fipOpensWrong)

/-- 'barbicanlaw19.FipImages': WHATEVER THE INPUT: true; the input reads as it did. -/
def fipImagesSpec : ChangeSpec := { name := "fipImages", fn := fun _ => fun
  | [d1, d2] => { results := [.lit (.bool true)], args := [d1, d2] }
  | _ => none }
def fipImagesRow : OpenClaim := { program := "ytefkmlfpdlnodaa", sum := "3d5097b905516b3a1cef7e469c606777e846db7b04b5efa1ba143827cfcde9d7", func := "barbican/barbicanlaw19.FipImages", spec := "fipImages", unfollowed := true, recurses := true, plainKeys := false, apart := false }
def FipImagesSaid : Prop := fipImagesRow.holds Try.pinned (OpenSpec.ofChange fipImagesSpec)

/-- ITS FALSE NEIGHBOUR: 'it returns false'. Refute it at one input. -/
def fipImagesWrong : ChangeSpec := { name := "fipImages", fn := fun _ => fun
  | [d1, d2] => { results := [.lit (.bool false)], args := [d1, d2] }
  | _ => none }
def FipImagesWrongFalsely : Prop := fipImagesRow.holds Try.pinned (OpenSpec.ofChange fipImagesWrong)

/-- 'barbicanlaw19.FipMakes': WHATEVER THE INPUT: true; the input reads as it did. -/
def fipMakesSpec : ChangeSpec := { name := "fipMakes", fn := fun _ => fun
  | [d1, d2] => { results := [.lit (.bool true)], args := [d1, d2] }
  | _ => none }
def fipMakesRow : OpenClaim := { program := "ytefkmlfpdlnodaa", sum := "3d5097b905516b3a1cef7e469c606777e846db7b04b5efa1ba143827cfcde9d7", func := "barbican/barbicanlaw19.FipMakes", spec := "fipMakes", unfollowed := true, recurses := true, plainKeys := false, apart := false }
def FipMakesSaid : Prop := fipMakesRow.holds Try.pinned (OpenSpec.ofChange fipMakesSpec)

/-- ITS FALSE NEIGHBOUR: 'it returns false'. Refute it at one input. -/
def fipMakesWrong : ChangeSpec := { name := "fipMakes", fn := fun _ => fun
  | [d1, d2] => { results := [.lit (.bool false)], args := [d1, d2] }
  | _ => none }
def FipMakesWrongFalsely : Prop := fipMakesRow.holds Try.pinned (OpenSpec.ofChange fipMakesWrong)

/-- 'barbicanlaw19.FipBack': WHATEVER THE INPUT: true; the input reads as it did. -/
def fipBackSpec : ChangeSpec := { name := "fipBack", fn := fun _ => fun
  | [d1, d2] => { results := [.lit (.bool true)], args := [d1, d2] }
  | _ => none }
def fipBackRow : OpenClaim := { program := "ytefkmlfpdlnodaa", sum := "3d5097b905516b3a1cef7e469c606777e846db7b04b5efa1ba143827cfcde9d7", func := "barbican/barbicanlaw19.FipBack", spec := "fipBack", unfollowed := true, recurses := true, plainKeys := false, apart := false }
def FipBackSaid : Prop := fipBackRow.holds Try.pinned (OpenSpec.ofChange fipBackSpec)

/-- ITS FALSE NEIGHBOUR: 'it returns false'. Refute it at one input. -/
def fipBackWrong : ChangeSpec := { name := "fipBack", fn := fun _ => fun
  | [d1, d2] => { results := [.lit (.bool false)], args := [d1, d2] }
  | _ => none }
def FipBackWrongFalsely : Prop := fipBackRow.holds Try.pinned (OpenSpec.ofChange fipBackWrong)

/-- 'barbicanlaw19.FipApart': WHATEVER THE INPUT: true; the input reads as it did. -/
def fipApartSpec : ChangeSpec := { name := "fipApart", fn := fun _ => fun
  | [d] => { results := [.lit (.bool true)], args := [d] }
  | _ => none }
def fipApartRow : OpenClaim := { program := "ytefkmlfpdlnodaa", sum := "3d5097b905516b3a1cef7e469c606777e846db7b04b5efa1ba143827cfcde9d7", func := "barbican/barbicanlaw19.FipApart", spec := "fipApart", unfollowed := true, recurses := true, plainKeys := false, apart := false }
def FipApartSaid : Prop := fipApartRow.holds Try.pinned (OpenSpec.ofChange fipApartSpec)

/-- ITS FALSE NEIGHBOUR: 'it returns false'. Refute it at one input. -/
def fipApartWrong : ChangeSpec := { name := "fipApart", fn := fun _ => fun
  | [d] => { results := [.lit (.bool false)], args := [d] }
  | _ => none }
def FipApartWrongFalsely : Prop := fipApartRow.holds Try.pinned (OpenSpec.ofChange fipApartWrong)

/-- 'barbicanlaw19.FipCutShort': WHATEVER THE INPUT: true; the input reads as it did. -/
def fipCutShortSpec : ChangeSpec := { name := "fipCutShort", fn := fun _ => fun
  | [d] => { results := [.lit (.bool true)], args := [d] }
  | _ => none }
def fipCutShortRow : OpenClaim := { program := "ytefkmlfpdlnodaa", sum := "3d5097b905516b3a1cef7e469c606777e846db7b04b5efa1ba143827cfcde9d7", func := "barbican/barbicanlaw19.FipCutShort", spec := "fipCutShort", unfollowed := true, recurses := true, plainKeys := false, apart := false }
def FipCutShortSaid : Prop := fipCutShortRow.holds Try.pinned (OpenSpec.ofChange fipCutShortSpec)

/-- ITS FALSE NEIGHBOUR: 'it returns false'. Refute it at one input. -/
def fipCutShortWrong : ChangeSpec := { name := "fipCutShort", fn := fun _ => fun
  | [d] => { results := [.lit (.bool false)], args := [d] }
  | _ => none }
def FipCutShortWrongFalsely : Prop := fipCutShortRow.holds Try.pinned (OpenSpec.ofChange fipCutShortWrong)

/- THE SECOND FORM. 'bulk': how many values and letters a reading holds, each counted each time it is reached (what is shared counts as often as it is met; a slice's spare places count too). A statement '..UptoSaid' is the law's where the arguments, and the package variables that the reading takes, are together of bulk at most 1048576: NARROWER than '..Said'. Prove '..Said' where nothing that the law and all that it calls make is longer than what came in: it says more and counts as full. Else prove '..UptoSaid'. A law counts once. -/
mutual
def uptoBulk {H : Type} : DataW H → Nat
  | .lit (.string bytes) => bytes.length + 1
  | .lit _ => 1
  | .nil => 1
  | .ptr d => uptoBulk d + 1
  | .slice elems spare => uptoBulkAll elems + uptoBulkAll spare + 1
  | .agg parts => uptoBulkAll parts + 1
  | .iface _ d => uptoBulk d + 1
  | .map entries => uptoBulkEntries entries + 1
  | .held _ => 1
def uptoBulkAll {H : Type} : List (DataW H) → Nat
  | [] => 0
  | d :: r => uptoBulk d + uptoBulkAll r
def uptoBulkEntries {H : Type} : List (Lit × DataW H) → Nat
  | [] => 0
  | x :: r => uptoBulkEntry x + uptoBulkEntries r
def uptoBulkEntry {H : Type} : Lit × DataW H → Nat
  | (.string bytes, d) => bytes.length + uptoBulk d + 1
  | (_, d) => uptoBulk d + 1
 end
def uptoSmall : (H : Type) → List (DataW H) → Bool := fun _ ds => decide (uptoBulkAll ds ≤ 1048576)
def OpenSpec.upto (s : _root_.Go.ChangeSpec) : _root_.Go.OpenSpec := { _root_.Go.OpenSpec.ofChange s with cond := some uptoSmall }

/-- 'barbicanlaw19.FipOpens', WHERE WHAT IT READS IS OF BULK AT MOST 1048576: true; the input reads as it did. -/
def fipOpensUptoRow : OpenClaim := { program := "ytefkmlfpdlnodaa", sum := "3d5097b905516b3a1cef7e469c606777e846db7b04b5efa1ba143827cfcde9d7", func := "barbican/barbicanlaw19.FipOpens", spec := "fipOpens", unfollowed := true, recurses := true, plainKeys := false, apart := false, narrowed := true }
def FipOpensUptoSaid : Prop := fipOpensUptoRow.holds Try.pinned (OpenSpec.upto fipOpensSpec)

/-- 'barbicanlaw19.FipImages', WHERE WHAT IT READS IS OF BULK AT MOST 1048576: true; the input reads as it did. -/
def fipImagesUptoRow : OpenClaim := { program := "ytefkmlfpdlnodaa", sum := "3d5097b905516b3a1cef7e469c606777e846db7b04b5efa1ba143827cfcde9d7", func := "barbican/barbicanlaw19.FipImages", spec := "fipImages", unfollowed := true, recurses := true, plainKeys := false, apart := false, narrowed := true }
def FipImagesUptoSaid : Prop := fipImagesUptoRow.holds Try.pinned (OpenSpec.upto fipImagesSpec)

/-- 'barbicanlaw19.FipMakes', WHERE WHAT IT READS IS OF BULK AT MOST 1048576: true; the input reads as it did. -/
def fipMakesUptoRow : OpenClaim := { program := "ytefkmlfpdlnodaa", sum := "3d5097b905516b3a1cef7e469c606777e846db7b04b5efa1ba143827cfcde9d7", func := "barbican/barbicanlaw19.FipMakes", spec := "fipMakes", unfollowed := true, recurses := true, plainKeys := false, apart := false, narrowed := true }
def FipMakesUptoSaid : Prop := fipMakesUptoRow.holds Try.pinned (OpenSpec.upto fipMakesSpec)

/-- 'barbicanlaw19.FipBack', WHERE WHAT IT READS IS OF BULK AT MOST 1048576: true; the input reads as it did. -/
def fipBackUptoRow : OpenClaim := { program := "ytefkmlfpdlnodaa", sum := "3d5097b905516b3a1cef7e469c606777e846db7b04b5efa1ba143827cfcde9d7", func := "barbican/barbicanlaw19.FipBack", spec := "fipBack", unfollowed := true, recurses := true, plainKeys := false, apart := false, narrowed := true }
def FipBackUptoSaid : Prop := fipBackUptoRow.holds Try.pinned (OpenSpec.upto fipBackSpec)

/-- 'barbicanlaw19.FipApart', WHERE WHAT IT READS IS OF BULK AT MOST 1048576: true; the input reads as it did. -/
def fipApartUptoRow : OpenClaim := { program := "ytefkmlfpdlnodaa", sum := "3d5097b905516b3a1cef7e469c606777e846db7b04b5efa1ba143827cfcde9d7", func := "barbican/barbicanlaw19.FipApart", spec := "fipApart", unfollowed := true, recurses := true, plainKeys := false, apart := false, narrowed := true }
def FipApartUptoSaid : Prop := fipApartUptoRow.holds Try.pinned (OpenSpec.upto fipApartSpec)

/-- 'barbicanlaw19.FipCutShort', WHERE WHAT IT READS IS OF BULK AT MOST 1048576: true; the input reads as it did. -/
def fipCutShortUptoRow : OpenClaim := { program := "ytefkmlfpdlnodaa", sum := "3d5097b905516b3a1cef7e469c606777e846db7b04b5efa1ba143827cfcde9d7", func := "barbican/barbicanlaw19.FipCutShort", spec := "fipCutShort", unfollowed := true, recurses := true, plainKeys := false, apart := false, narrowed := true }
def FipCutShortUptoSaid : Prop := fipCutShortUptoRow.holds Try.pinned (OpenSpec.upto fipCutShortSpec)

end Rows
end Go.Proofs.Ytefkmlfpdlnodaa
