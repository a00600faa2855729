/-
  No cell of these rows narrows 'for every input' (looked for: loops, veiled, ifaces, maps, wideKeys, modest, calm, conditions, laid).
  DERIVED. THE GIVEN ROWS OF THIS SEAT. 3 by the template 'for every input the law returns true; each argument reads behind the call as it read before'; 0 by the template 'total and deterministic' (their statements: YtnaffffeaakhcaaTotals.lean).
  GIVEN WITH THE SEED: the statements are not yours to turn. If you find one false, say at which input.
  Laid BY PROGRAM, IN A SANDBOX (cutbox-rows.mjs): the forced cells as the released guide's own fill.sh prints them over the translation 8966e1512768cf7e… (all of the seat's roots in one cut). By AI agents, Wed Nov 11 2026. No macro, syntax, notation, axiom, sorry.
-/
import Derived.Test.YtnaffffeaakhcaaChecked
import GoSem.Claim
import GoSem.ClaimJoined
import GoSem.ClaimMapViews
import Derived.JoinedTies
import Derived.KernelRfl
namespace Go.Proofs.Ytnaffffeaakhcaa
/- THE CELL 'sum', in the pinned program and in every row, IS THE sha256 OF THE DUMP (.gsa) THAT YtnaffffeaakhcaaProg.lean LOADS. Nothing in Lean hashes anything: it is a label: what it is worth is what the hold of that sum in a sandbox is worth. -/
noncomputable def Try.pinned : Pinned := { name := "ytnaffffeaakhcaa", sum := "8966e1512768cf7e8dd4b164cc289569fd23dbbec7a398fd2d2ad1d24fbbc2e7", checked := Try.checked }
namespace Rows
def none {H : Type} : Left H := { results := [], args := [] }

/-- 'barbicanlaw15.FusePlays': WHATEVER THE INPUT: true; the input reads as it did. -/
def fusePlaysSpec : ChangeSpec := { name := "fusePlays", fn := fun _ => fun
  | [d] => { results := [.lit (.bool true)], args := [d] }
  | _ => none }
def fusePlaysRow : OpenClaim := { program := "ytnaffffeaakhcaa", sum := "8966e1512768cf7e8dd4b164cc289569fd23dbbec7a398fd2d2ad1d24fbbc2e7", func := "barbican/barbicanlaw15.FusePlays", spec := "fusePlays", apart := false }
def FusePlaysSaid : Prop := fusePlaysRow.holds Try.pinned (OpenSpec.ofChange fusePlaysSpec)

/-- ITS FALSE NEIGHBOUR: 'it returns false'. Refute it at one input. -/
def fusePlaysWrong : ChangeSpec := { name := "fusePlays", fn := fun _ => fun
  | [d] => { results := [.lit (.bool false)], args := [d] }
  | _ => none }
def FusePlaysWrongFalsely : Prop := fusePlaysRow.holds Try.pinned (OpenSpec.ofChange fusePlaysWrong)

/-- 'barbicanlaw15.FuseNeverBack': WHATEVER THE INPUT: true; the input reads as it did. -/
def fuseNeverBackSpec : ChangeSpec := { name := "fuseNeverBack", fn := fun _ => fun
  | [d] => { results := [.lit (.bool true)], args := [d] }
  | _ => none }
def fuseNeverBackRow : OpenClaim := { program := "ytnaffffeaakhcaa", sum := "8966e1512768cf7e8dd4b164cc289569fd23dbbec7a398fd2d2ad1d24fbbc2e7", func := "barbican/barbicanlaw15.FuseNeverBack", spec := "fuseNeverBack", apart := false }
def FuseNeverBackSaid : Prop := fuseNeverBackRow.holds Try.pinned (OpenSpec.ofChange fuseNeverBackSpec)

/-- ITS FALSE NEIGHBOUR: 'it returns false'. Refute it at one input. -/
def fuseNeverBackWrong : ChangeSpec := { name := "fuseNeverBack", fn := fun _ => fun
  | [d] => { results := [.lit (.bool false)], args := [d] }
  | _ => none }
def FuseNeverBackWrongFalsely : Prop := fuseNeverBackRow.holds Try.pinned (OpenSpec.ofChange fuseNeverBackWrong)

/-- 'barbicanlaw15.FuseNil': WHATEVER THE INPUT: true; the input reads as it did. -/
def fuseNilSpec : ChangeSpec := { name := "fuseNil", fn := fun _ => fun
  | [d1, d2] => { results := [.lit (.bool true)], args := [d1, d2] }
  | _ => none }
def fuseNilRow : OpenClaim := { program := "ytnaffffeaakhcaa", sum := "8966e1512768cf7e8dd4b164cc289569fd23dbbec7a398fd2d2ad1d24fbbc2e7", func := "barbican/barbicanlaw15.FuseNil", spec := "fuseNil", apart := false }
def FuseNilSaid : Prop := fuseNilRow.holds Try.pinned (OpenSpec.ofChange fuseNilSpec)

/-- ITS FALSE NEIGHBOUR: 'it returns false'. Refute it at one input. -/
def fuseNilWrong : ChangeSpec := { name := "fuseNil", fn := fun _ => fun
  | [d1, d2] => { results := [.lit (.bool false)], args := [d1, d2] }
  | _ => none }
def FuseNilWrongFalsely : Prop := fuseNilRow.holds Try.pinned (OpenSpec.ofChange fuseNilWrong)

/- THE SECOND FORM. 'bulk': how many values and letters a reading holds, each counted each time it is reached (what is shared counts as often as it is met; a slice's spare places count too). A statement '..UptoSaid' is the law's where the arguments, and the package variables that the reading takes, are together of bulk at most 1048576: NARROWER than '..Said'. Prove '..Said' where nothing that the law and all that it calls make is longer than what came in: it says more and counts as full. Else prove '..UptoSaid'. A law counts once. -/
mutual
def uptoBulk {H : Type} : DataW H → Nat
  | .lit (.string bytes) => bytes.length + 1
  | .lit _ => 1
  | .nil => 1
  | .ptr d => uptoBulk d + 1
  | .slice elems spare => uptoBulkAll elems + uptoBulkAll spare + 1
  | .agg parts => uptoBulkAll parts + 1
  | .iface _ d => uptoBulk d + 1
  | .map entries => uptoBulkEntries entries + 1
  | .held _ => 1
def uptoBulkAll {H : Type} : List (DataW H) → Nat
  | [] => 0
  | d :: r => uptoBulk d + uptoBulkAll r
def uptoBulkEntries {H : Type} : List (Lit × DataW H) → Nat
  | [] => 0
  | x :: r => uptoBulkEntry x + uptoBulkEntries r
def uptoBulkEntry {H : Type} : Lit × DataW H → Nat
  | (.string bytes, d) => bytes.length + uptoBulk d + 1
  | (_, d) => uptoBulk d + 1
 end
def uptoSmall : (H : Type) → List (DataW H) → Bool := fun _ ds => decide (uptoBulkAll ds ≤ 1048576)
def OpenSpec.upto (s : _root_.Go.ChangeSpec) : _root_.Go.OpenSpec := { _root_.Go.OpenSpec.ofChange s with cond := some uptoSmall }

/-- 'barbicanlaw15.FusePlays', WHERE WHAT IT READS IS OF BULK AT MOST 1048576: true; the input reads as it did. -/
def fusePlaysUptoRow : OpenClaim := { program := "ytnaffffeaakhcaa", sum := "8966e1512768cf7e8dd4b164cc289569fd23dbbec7a398fd2d2ad1d24fbbc2e7", func := "barbican/barbicanlaw15.FusePlays", spec := "fusePlays", apart := false, narrowed := true }
def FusePlaysUptoSaid : Prop := fusePlaysUptoRow.holds Try.pinned (OpenSpec.upto fusePlaysSpec)

/-- 'barbicanlaw15.FuseNeverBack', WHERE WHAT IT READS IS OF BULK AT MOST 1048576: true; the input reads as it did. -/
def fuseNeverBackUptoRow : OpenClaim := { program := "ytnaffffeaakhcaa", sum := "8966e1512768cf7e8dd4b164cc289569fd23dbbec7a398fd2d2ad1d24fbbc2e7", func := "barbican/barbicanlaw15.FuseNeverBack", spec := "fuseNeverBack", apart := false, narrowed := true }
def FuseNeverBackUptoSaid : Prop := fuseNeverBackUptoRow.holds Try.pinned (OpenSpec.upto fuseNeverBackSpec)

/-- 'barbicanlaw15.FuseNil', WHERE WHAT IT READS IS OF BULK AT MOST 1048576: true; the input reads as it did. -/
def fuseNilUptoRow : OpenClaim := { program := "ytnaffffeaakhcaa", sum := "8966e1512768cf7e8dd4b164cc289569fd23dbbec7a398fd2d2ad1d24fbbc2e7", func := "barbican/barbicanlaw15.FuseNil", spec := "fuseNil", apart := false, narrowed := true }
def FuseNilUptoSaid : Prop := fuseNilUptoRow.holds Try.pinned (OpenSpec.upto fuseNilSpec)

end Rows
end Go.Proofs.Ytnaffffeaakhcaa
