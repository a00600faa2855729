/-
  No cell of these rows narrows 'for every input' (looked for: loops, veiled, ifaces, maps, wideKeys, modest, calm, conditions, laid).
  DERIVED. THE GIVEN ROWS OF THIS SEAT. 6 by the template 'for every input the law returns true; each argument reads behind the call as it read before'; 0 by the template 'total and deterministic' (their statements: YthhodibfbfmijaaTotals.lean).
  GIVEN WITH THE SEED: the statements are not yours to turn. If you find one false, say at which input.
  Laid BY PROGRAM, IN A SANDBOX (cutbox-rows.mjs): the forced cells as the released guide's own fill.sh prints them over the translation 334f4fecc48b8314… (all of the seat's roots in one cut). By AI agents, Wed Nov 11 2026. No macro, syntax, notation, axiom, sorry.
-/
import Derived.Test.YthhodibfbfmijaaChecked
import GoSem.Claim
import GoSem.ClaimJoined
import GoSem.ClaimMapViews
import Derived.JoinedTies
import Derived.KernelRfl
namespace Go.Proofs.Ythhodibfbfmijaa
/- THE CELL 'sum', in the pinned program and in every row, IS THE sha256 OF THE DUMP (.gsa) THAT YthhodibfbfmijaaProg.lean LOADS. Nothing in Lean hashes anything: it is a label: what it is worth is what the hold of that sum in a sandbox is worth. -/
noncomputable def Try.pinned : Pinned := { name := "ythhodibfbfmijaa", sum := "334f4fecc48b831476e4853a7db96a78651144366f2ac494cc98c3e6ad2ab0e6", checked := Try.checked }
namespace Rows
def none {H : Type} : Left H := { results := [], args := [] }

/-- 'barbicanlaw22.MapPlaces': WHATEVER THE INPUT: true; the input reads as it did. -/
def mapPlacesSpec : ChangeSpec := { name := "mapPlaces", fn := fun _ => fun
  | [d1, d2] => { results := [.lit (.bool true)], args := [d1, d2] }
  | _ => none }
def mapPlacesRow : OpenClaim := { program := "ythhodibfbfmijaa", sum := "334f4fecc48b831476e4853a7db96a78651144366f2ac494cc98c3e6ad2ab0e6", func := "barbican/barbicanlaw22.MapPlaces", spec := "mapPlaces", unfollowed := true, recurses := true, plainKeys := false, apart := false }
def MapPlacesSaid : Prop := mapPlacesRow.holds Try.pinned (OpenSpec.ofChange mapPlacesSpec)

/-- ITS FALSE NEIGHBOUR: 'it returns false'. Refute it at one input. -/
def mapPlacesWrong : ChangeSpec := { name := "mapPlaces", fn := fun _ => fun
  | [d1, d2] => { results := [.lit (.bool false)], args := [d1, d2] }
  | _ => none }
def MapPlacesWrongFalsely : Prop := mapPlacesRow.holds Try.pinned (OpenSpec.ofChange mapPlacesWrong)

/-- 'barbicanlaw22.MapLowest': WHATEVER THE INPUT: true; the input reads as it did. -/
def mapLowestSpec : ChangeSpec := { name := "mapLowest", fn := fun _ => fun
  | [d1, d2] => { results := [.lit (.bool true)], args := [d1, d2] }
  | _ => none }
def mapLowestRow : OpenClaim := { program := "ythhodibfbfmijaa", sum := "334f4fecc48b831476e4853a7db96a78651144366f2ac494cc98c3e6ad2ab0e6", func := "barbican/barbicanlaw22.MapLowest", spec := "mapLowest", unfollowed := true, recurses := true, plainKeys := false, apart := false }
def MapLowestSaid : Prop := mapLowestRow.holds Try.pinned (OpenSpec.ofChange mapLowestSpec)

/-- ITS FALSE NEIGHBOUR: 'it returns false'. Refute it at one input. -/
def mapLowestWrong : ChangeSpec := { name := "mapLowest", fn := fun _ => fun
  | [d1, d2] => { results := [.lit (.bool false)], args := [d1, d2] }
  | _ => none }
def MapLowestWrongFalsely : Prop := mapLowestRow.holds Try.pinned (OpenSpec.ofChange mapLowestWrong)

/-- 'barbicanlaw22.MapChecks': WHATEVER THE INPUT: true; the input reads as it did. -/
def mapChecksSpec : ChangeSpec := { name := "mapChecks", fn := fun _ => fun
  | [d] => { results := [.lit (.bool true)], args := [d] }
  | _ => none }
def mapChecksRow : OpenClaim := { program := "ythhodibfbfmijaa", sum := "334f4fecc48b831476e4853a7db96a78651144366f2ac494cc98c3e6ad2ab0e6", func := "barbican/barbicanlaw22.MapChecks", spec := "mapChecks", unfollowed := true, recurses := true, plainKeys := false, apart := false }
def MapChecksSaid : Prop := mapChecksRow.holds Try.pinned (OpenSpec.ofChange mapChecksSpec)

/-- ITS FALSE NEIGHBOUR: 'it returns false'. Refute it at one input. -/
def mapChecksWrong : ChangeSpec := { name := "mapChecks", fn := fun _ => fun
  | [d] => { results := [.lit (.bool false)], args := [d] }
  | _ => none }
def MapChecksWrongFalsely : Prop := mapChecksRow.holds Try.pinned (OpenSpec.ofChange mapChecksWrong)

/-- 'barbicanlaw22.MapPlans': WHATEVER THE INPUT: true; the input reads as it did. -/
def mapPlansSpec : ChangeSpec := { name := "mapPlans", fn := fun _ => fun
  | [d1, d2] => { results := [.lit (.bool true)], args := [d1, d2] }
  | _ => none }
def mapPlansRow : OpenClaim := { program := "ythhodibfbfmijaa", sum := "334f4fecc48b831476e4853a7db96a78651144366f2ac494cc98c3e6ad2ab0e6", func := "barbican/barbicanlaw22.MapPlans", spec := "mapPlans", unfollowed := true, recurses := true, plainKeys := false, apart := false }
def MapPlansSaid : Prop := mapPlansRow.holds Try.pinned (OpenSpec.ofChange mapPlansSpec)

/-- ITS FALSE NEIGHBOUR: 'it returns false'. Refute it at one input. -/
def mapPlansWrong : ChangeSpec := { name := "mapPlans", fn := fun _ => fun
  | [d1, d2] => { results := [.lit (.bool false)], args := [d1, d2] }
  | _ => none }
def MapPlansWrongFalsely : Prop := mapPlansRow.holds Try.pinned (OpenSpec.ofChange mapPlansWrong)

/-- 'barbicanlaw22.MapHandoffs': WHATEVER THE INPUT: true; the input reads as it did. -/
def mapHandoffsSpec : ChangeSpec := { name := "mapHandoffs", fn := fun _ => fun
  | [d1, d2] => { results := [.lit (.bool true)], args := [d1, d2] }
  | _ => none }
def mapHandoffsRow : OpenClaim := { program := "ythhodibfbfmijaa", sum := "334f4fecc48b831476e4853a7db96a78651144366f2ac494cc98c3e6ad2ab0e6", func := "barbican/barbicanlaw22.MapHandoffs", spec := "mapHandoffs", unfollowed := true, recurses := true, plainKeys := false, apart := false }
def MapHandoffsSaid : Prop := mapHandoffsRow.holds Try.pinned (OpenSpec.ofChange mapHandoffsSpec)

/-- ITS FALSE NEIGHBOUR: 'it returns false'. Refute it at one input. -/
def mapHandoffsWrong : ChangeSpec := { name := "mapHandoffs", fn := fun _ => fun
  | [d1, d2] => { results := [.lit (.bool false)], args := [d1, d2] }
  | _ => none }
def MapHandoffsWrongFalsely : Prop := mapHandoffsRow.holds Try.pinned (OpenSpec.ofChange mapHandoffsWrong)

/-- 'barbicanlaw22.MapDisjoint': WHATEVER THE INPUT: true; the input reads as it did. -/
def mapDisjointSpec : ChangeSpec := { name := "mapDisjoint", fn := fun _ => fun
  | [d1, d2] => { results := [.lit (.bool true)], args := [d1, d2] }
  | _ => none }
def mapDisjointRow : OpenClaim := { program := "ythhodibfbfmijaa", sum := "334f4fecc48b831476e4853a7db96a78651144366f2ac494cc98c3e6ad2ab0e6", func := "barbican/barbicanlaw22.MapDisjoint", spec := "mapDisjoint", unfollowed := true, recurses := true, plainKeys := false, apart := false }
def MapDisjointSaid : Prop := mapDisjointRow.holds Try.pinned (OpenSpec.ofChange mapDisjointSpec)

/-- ITS FALSE NEIGHBOUR: 'it returns false'. Refute it at one input. -/
def mapDisjointWrong : ChangeSpec := { name := "mapDisjoint", fn := fun _ => fun
  | [d1, d2] => { results := [.lit (.bool false)], args := [d1, d2] }
  | _ => none }
def MapDisjointWrongFalsely : Prop := mapDisjointRow.holds Try.pinned (OpenSpec.ofChange mapDisjointWrong)

/- THE SECOND FORM. 'bulk': how many values and letters a reading holds, each counted each time it is reached (what is shared counts as often as it is met; a slice's spare places count too). A statement '..UptoSaid' is the law's where the arguments, and the package variables that the reading takes, are together of bulk at most 1048576: NARROWER than '..Said'. Prove '..Said' where nothing that the law and all that it calls make is longer than what came in: it says more and counts as full. Else prove '..UptoSaid'. A law counts once. -/
mutual
def uptoBulk {H : Type} : DataW H → Nat
  | .lit (.string bytes) => bytes.length + 1
  | .lit _ => 1
  | .nil => 1
  | .ptr d => uptoBulk d + 1
  | .slice elems spare => uptoBulkAll elems + uptoBulkAll spare + 1
  | .agg parts => uptoBulkAll parts + 1
  | .iface _ d => uptoBulk d + 1
  | .map entries => uptoBulkEntries entries + 1
  | .held _ => 1
def uptoBulkAll {H : Type} : List (DataW H) → Nat
  | [] => 0
  | d :: r => uptoBulk d + uptoBulkAll r
def uptoBulkEntries {H : Type} : List (Lit × DataW H) → Nat
  | [] => 0
  | x :: r => uptoBulkEntry x + uptoBulkEntries r
def uptoBulkEntry {H : Type} : Lit × DataW H → Nat
  | (.string bytes, d) => bytes.length + uptoBulk d + 1
  | (_, d) => uptoBulk d + 1
 end
def uptoSmall : (H : Type) → List (DataW H) → Bool := fun _ ds => decide (uptoBulkAll ds ≤ 1048576)
def OpenSpec.upto (s : _root_.Go.ChangeSpec) : _root_.Go.OpenSpec := { _root_.Go.OpenSpec.ofChange s with cond := some uptoSmall }

/-- 'barbicanlaw22.MapPlaces', WHERE WHAT IT READS IS OF BULK AT MOST 1048576: true; the input reads as it did. -/
def mapPlacesUptoRow : OpenClaim := { program := "ythhodibfbfmijaa", sum := "334f4fecc48b831476e4853a7db96a78651144366f2ac494cc98c3e6ad2ab0e6", func := "barbican/barbicanlaw22.MapPlaces", spec := "mapPlaces", unfollowed := true, recurses := true, plainKeys := false, apart := false, narrowed := true }
def MapPlacesUptoSaid : Prop := mapPlacesUptoRow.holds Try.pinned (OpenSpec.upto mapPlacesSpec)

/-- 'barbicanlaw22.MapLowest', WHERE WHAT IT READS IS OF BULK AT MOST 1048576: true; the input reads as it did. -/
def mapLowestUptoRow : OpenClaim := { program := "ythhodibfbfmijaa", sum := "334f4fecc48b831476e4853a7db96a78651144366f2ac494cc98c3e6ad2ab0e6", func := "barbican/barbicanlaw22.MapLowest", spec := "mapLowest", unfollowed := true, recurses := true, plainKeys := false, apart := false, narrowed := true }
def MapLowestUptoSaid : Prop := mapLowestUptoRow.holds Try.pinned (OpenSpec.upto mapLowestSpec)

/-- 'barbicanlaw22.MapChecks', WHERE WHAT IT READS IS OF BULK AT MOST 1048576: true; the input reads as it did. -/
def mapChecksUptoRow : OpenClaim := { program := "ythhodibfbfmijaa", sum := "334f4fecc48b831476e4853a7db96a78651144366f2ac494cc98c3e6ad2ab0e6", func := "barbican/barbicanlaw22.MapChecks", spec := "mapChecks", unfollowed := true, recurses := true, plainKeys := false, apart := false, narrowed := true }
def MapChecksUptoSaid : Prop := mapChecksUptoRow.holds Try.pinned (OpenSpec.upto mapChecksSpec)

/-- 'barbicanlaw22.MapPlans', WHERE WHAT IT READS IS OF BULK AT MOST 1048576: true; the input reads as it did. -/
def mapPlansUptoRow : OpenClaim := { program := "ythhodibfbfmijaa", sum := "334f4fecc48b831476e4853a7db96a78651144366f2ac494cc98c3e6ad2ab0e6", func := "barbican/barbicanlaw22.MapPlans", spec := "mapPlans", unfollowed := true, recurses := true, plainKeys := false, apart := false, narrowed := true }
def MapPlansUptoSaid : Prop := mapPlansUptoRow.holds Try.pinned (OpenSpec.upto mapPlansSpec)

/-- 'barbicanlaw22.MapHandoffs', WHERE WHAT IT READS IS OF BULK AT MOST 1048576: true; the input reads as it did. -/
def mapHandoffsUptoRow : OpenClaim := { program := "ythhodibfbfmijaa", sum := "334f4fecc48b831476e4853a7db96a78651144366f2ac494cc98c3e6ad2ab0e6", func := "barbican/barbicanlaw22.MapHandoffs", spec := "mapHandoffs", unfollowed := true, recurses := true, plainKeys := false, apart := false, narrowed := true }
def MapHandoffsUptoSaid : Prop := mapHandoffsUptoRow.holds Try.pinned (OpenSpec.upto mapHandoffsSpec)

/-- 'barbicanlaw22.MapDisjoint', WHERE WHAT IT READS IS OF BULK AT MOST 1048576: true; the input reads as it did. -/
def mapDisjointUptoRow : OpenClaim := { program := "ythhodibfbfmijaa", sum := "334f4fecc48b831476e4853a7db96a78651144366f2ac494cc98c3e6ad2ab0e6", func := "barbican/barbicanlaw22.MapDisjoint", spec := "mapDisjoint", unfollowed := true, recurses := true, plainKeys := false, apart := false, narrowed := true }
def MapDisjointUptoSaid : Prop := mapDisjointUptoRow.holds Try.pinned (OpenSpec.upto mapDisjointSpec)

end Rows
end Go.Proofs.Ythhodibfbfmijaa
