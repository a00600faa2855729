/-
  No cell of these rows narrows 'for every input' (looked for: loops, veiled, ifaces, maps, wideKeys, modest, calm, conditions, laid).
  DERIVED. THE GIVEN ROWS OF THIS SEAT. 4 by the template 'for every input the law returns true; each argument reads behind the call as it read before'; 0 by the template 'total and deterministic' (their statements: YtcbiohpgmooefaaTotals.lean).
  GIVEN WITH THE SEED: the statements are not yours to turn. If you find one false, say at which input.
  Laid BY PROGRAM, IN A SANDBOX (cutbox-rows.mjs): the forced cells as the released guide's own fill.sh prints them over the translation 60e78f169df3ee60… (all of the seat's roots in one cut). By AI agents, Wed Nov 11 2026. No macro, syntax, notation, axiom, sorry.
-/
import Derived.Test.YtcbiohpgmooefaaChecked
import GoSem.Claim
import GoSem.ClaimJoined
import GoSem.ClaimMapViews
import Derived.JoinedTies
import Derived.KernelRfl
namespace Go.Proofs.Ytcbiohpgmooefaa
/- THE CELL 'sum', in the pinned program and in every row, IS THE sha256 OF THE DUMP (.gsa) THAT YtcbiohpgmooefaaProg.lean LOADS. Nothing in Lean hashes anything: it is a label: what it is worth is what the hold of that sum in a sandbox is worth. -/
noncomputable def Try.pinned : Pinned := { name := "ytcbiohpgmooefaa", sum := "60e78f169df3ee60e437403a41c7ccafd359a3db5387da94cc6d9be8d1ceaa15", checked := Try.checked }
namespace Rows
def none {H : Type} : Left H := { results := [], args := [] }

/-- 'barbicanlaw16.RamWorlds': WHATEVER THE INPUT: true; the input reads as it did. -/
def ramWorldsSpec : ChangeSpec := { name := "ramWorlds", fn := fun _ => fun
  | [d] => { results := [.lit (.bool true)], args := [d] }
  | _ => none }
def ramWorldsRow : OpenClaim := { program := "ytcbiohpgmooefaa", sum := "60e78f169df3ee60e437403a41c7ccafd359a3db5387da94cc6d9be8d1ceaa15", func := "barbican/barbicanlaw16.RamWorlds", spec := "ramWorlds", inPlace := ["slices.overlaps[barbican/api.Region]"], unfollowed := true, recurses := true, apart := false }
def RamWorldsSaid : Prop := ramWorldsRow.holds Try.pinned (OpenSpec.ofChange ramWorldsSpec)

/-- ITS FALSE NEIGHBOUR: 'it returns false'. Refute it at one input. -/
def ramWorldsWrong : ChangeSpec := { name := "ramWorlds", fn := fun _ => fun
  | [d] => { results := [.lit (.bool false)], args := [d] }
  | _ => none }
def RamWorldsWrongFalsely : Prop := ramWorldsRow.holds Try.pinned (OpenSpec.ofChange ramWorldsWrong)

/-- 'barbicanlaw16.RamApart': WHATEVER THE INPUT: true; the input reads as it did. -/
def ramApartSpec : ChangeSpec := { name := "ramApart", fn := fun _ => fun
  | [d] => { results := [.lit (.bool true)], args := [d] }
  | _ => none }
def ramApartRow : OpenClaim := { program := "ytcbiohpgmooefaa", sum := "60e78f169df3ee60e437403a41c7ccafd359a3db5387da94cc6d9be8d1ceaa15", func := "barbican/barbicanlaw16.RamApart", spec := "ramApart", inPlace := ["slices.overlaps[barbican/api.Region]"], unfollowed := true, recurses := true, apart := false }
def RamApartSaid : Prop := ramApartRow.holds Try.pinned (OpenSpec.ofChange ramApartSpec)

/-- ITS FALSE NEIGHBOUR: 'it returns false'. Refute it at one input. -/
def ramApartWrong : ChangeSpec := { name := "ramApart", fn := fun _ => fun
  | [d] => { results := [.lit (.bool false)], args := [d] }
  | _ => none }
def RamApartWrongFalsely : Prop := ramApartRow.holds Try.pinned (OpenSpec.ofChange ramApartWrong)

/-- 'barbicanlaw16.RamPlays': WHATEVER THE INPUT: true; the input reads as it did. -/
def ramPlaysSpec : ChangeSpec := { name := "ramPlays", fn := fun _ => fun
  | [d] => { results := [.lit (.bool true)], args := [d] }
  | _ => none }
def ramPlaysRow : OpenClaim := { program := "ytcbiohpgmooefaa", sum := "60e78f169df3ee60e437403a41c7ccafd359a3db5387da94cc6d9be8d1ceaa15", func := "barbican/barbicanlaw16.RamPlays", spec := "ramPlays", inPlace := ["slices.overlaps[barbican/api.Region]"], unfollowed := true, recurses := true, apart := false }
def RamPlaysSaid : Prop := ramPlaysRow.holds Try.pinned (OpenSpec.ofChange ramPlaysSpec)

/-- ITS FALSE NEIGHBOUR: 'it returns false'. Refute it at one input. -/
def ramPlaysWrong : ChangeSpec := { name := "ramPlays", fn := fun _ => fun
  | [d] => { results := [.lit (.bool false)], args := [d] }
  | _ => none }
def RamPlaysWrongFalsely : Prop := ramPlaysRow.holds Try.pinned (OpenSpec.ofChange ramPlaysWrong)

/-- 'barbicanlaw16.RamNil': WHATEVER THE INPUT: true; the input reads as it did. -/
def ramNilSpec : ChangeSpec := { name := "ramNil", fn := fun _ => fun
  | [d1, d2, d3] => { results := [.lit (.bool true)], args := [d1, d2, d3] }
  | _ => none }
def ramNilRow : OpenClaim := { program := "ytcbiohpgmooefaa", sum := "60e78f169df3ee60e437403a41c7ccafd359a3db5387da94cc6d9be8d1ceaa15", func := "barbican/barbicanlaw16.RamNil", spec := "ramNil", inPlace := ["slices.overlaps[barbican/api.Region]"], unfollowed := true, recurses := true, apart := false }
def RamNilSaid : Prop := ramNilRow.holds Try.pinned (OpenSpec.ofChange ramNilSpec)

/-- ITS FALSE NEIGHBOUR: 'it returns false'. Refute it at one input. -/
def ramNilWrong : ChangeSpec := { name := "ramNil", fn := fun _ => fun
  | [d1, d2, d3] => { results := [.lit (.bool false)], args := [d1, d2, d3] }
  | _ => none }
def RamNilWrongFalsely : Prop := ramNilRow.holds Try.pinned (OpenSpec.ofChange ramNilWrong)

/- THE SECOND FORM. 'bulk': how many values and letters a reading holds, each counted each time it is reached (what is shared counts as often as it is met; a slice's spare places count too). A statement '..UptoSaid' is the law's where the arguments, and the package variables that the reading takes, are together of bulk at most 1048576: NARROWER than '..Said'. Prove '..Said' where nothing that the law and all that it calls make is longer than what came in: it says more and counts as full. Else prove '..UptoSaid'. A law counts once. -/
mutual
def uptoBulk {H : Type} : DataW H → Nat
  | .lit (.string bytes) => bytes.length + 1
  | .lit _ => 1
  | .nil => 1
  | .ptr d => uptoBulk d + 1
  | .slice elems spare => uptoBulkAll elems + uptoBulkAll spare + 1
  | .agg parts => uptoBulkAll parts + 1
  | .iface _ d => uptoBulk d + 1
  | .map entries => uptoBulkEntries entries + 1
  | .held _ => 1
def uptoBulkAll {H : Type} : List (DataW H) → Nat
  | [] => 0
  | d :: r => uptoBulk d + uptoBulkAll r
def uptoBulkEntries {H : Type} : List (Lit × DataW H) → Nat
  | [] => 0
  | x :: r => uptoBulkEntry x + uptoBulkEntries r
def uptoBulkEntry {H : Type} : Lit × DataW H → Nat
  | (.string bytes, d) => bytes.length + uptoBulk d + 1
  | (_, d) => uptoBulk d + 1
 end
def uptoSmall : (H : Type) → List (DataW H) → Bool := fun _ ds => decide (uptoBulkAll ds ≤ 1048576)
def OpenSpec.upto (s : _root_.Go.ChangeSpec) : _root_.Go.OpenSpec := { _root_.Go.OpenSpec.ofChange s with cond := some uptoSmall }

/-- 'barbicanlaw16.RamWorlds', WHERE WHAT IT READS IS OF BULK AT MOST 1048576: true; the input reads as it did. -/
def ramWorldsUptoRow : OpenClaim := { program := "ytcbiohpgmooefaa", sum := "60e78f169df3ee60e437403a41c7ccafd359a3db5387da94cc6d9be8d1ceaa15", func := "barbican/barbicanlaw16.RamWorlds", spec := "ramWorlds", inPlace := ["slices.overlaps[barbican/api.Region]"], unfollowed := true, recurses := true, apart := false, narrowed := true }
def RamWorldsUptoSaid : Prop := ramWorldsUptoRow.holds Try.pinned (OpenSpec.upto ramWorldsSpec)

/-- 'barbicanlaw16.RamApart', WHERE WHAT IT READS IS OF BULK AT MOST 1048576: true; the input reads as it did. -/
def ramApartUptoRow : OpenClaim := { program := "ytcbiohpgmooefaa", sum := "60e78f169df3ee60e437403a41c7ccafd359a3db5387da94cc6d9be8d1ceaa15", func := "barbican/barbicanlaw16.RamApart", spec := "ramApart", inPlace := ["slices.overlaps[barbican/api.Region]"], unfollowed := true, recurses := true, apart := false, narrowed := true }
def RamApartUptoSaid : Prop := ramApartUptoRow.holds Try.pinned (OpenSpec.upto ramApartSpec)

/-- 'barbicanlaw16.RamPlays', WHERE WHAT IT READS IS OF BULK AT MOST 1048576: true; the input reads as it did. -/
def ramPlaysUptoRow : OpenClaim := { program := "ytcbiohpgmooefaa", sum := "60e78f169df3ee60e437403a41c7ccafd359a3db5387da94cc6d9be8d1ceaa15", func := "barbican/barbicanlaw16.RamPlays", spec := "ramPlays", inPlace := ["slices.overlaps[barbican/api.Region]"], unfollowed := true, recurses := true, apart := false, narrowed := true }
def RamPlaysUptoSaid : Prop := ramPlaysUptoRow.holds Try.pinned (OpenSpec.upto ramPlaysSpec)

/-- 'barbicanlaw16.RamNil', WHERE WHAT IT READS IS OF BULK AT MOST 1048576: true; the input reads as it did. -/
def ramNilUptoRow : OpenClaim := { program := "ytcbiohpgmooefaa", sum := "60e78f169df3ee60e437403a41c7ccafd359a3db5387da94cc6d9be8d1ceaa15", func := "barbican/barbicanlaw16.RamNil", spec := "ramNil", inPlace := ["slices.overlaps[barbican/api.Region]"], unfollowed := true, recurses := true, apart := false, narrowed := true }
def RamNilUptoSaid : Prop := ramNilUptoRow.holds Try.pinned (OpenSpec.upto ramNilSpec)

end Rows
end Go.Proofs.Ytcbiohpgmooefaa
