/-
  No cell of these rows narrows 'for every input' (looked for: loops, veiled, ifaces, maps, wideKeys, modest, calm, conditions, laid).
  DERIVED. THE GIVEN ROWS OF THIS SEAT. 4 by the template 'for every input the law returns true; each argument reads behind the call as it read before'; 0 by the template 'total and deterministic' (their statements: YtdmoaighbobgaaaTotals.lean).
  GIVEN WITH THE SEED: the statements are not yours to turn. If you find one false, say at which input.
  Laid BY PROGRAM, IN A SANDBOX (cutbox-rows.mjs): the forced cells as the released guide's own fill.sh prints them over the translation 026e41ccac3a582d… (all of the seat's roots in one cut). By AI agents, Wed Nov 11 2026. No macro, syntax, notation, axiom, sorry.
-/
import Derived.Test.YtdmoaighbobgaaaChecked
import GoSem.Claim
import GoSem.ClaimJoined
import GoSem.ClaimMapViews
import Derived.JoinedTies
import Derived.KernelRfl
namespace Go.Proofs.Ytdmoaighbobgaaa
/- THE CELL 'sum', in the pinned program and in every row, IS THE sha256 OF THE DUMP (.gsa) THAT YtdmoaighbobgaaaProg.lean LOADS. Nothing in Lean hashes anything: it is a label: what it is worth is what the hold of that sum in a sandbox is worth. -/
noncomputable def Try.pinned : Pinned := { name := "ytdmoaighbobgaaa", sum := "026e41ccac3a582d1f1b06297c55d8752d676215b12c052182931da463083437", checked := Try.checked }
namespace Rows
def none {H : Type} : Left H := { results := [], args := [] }

/-- 'barbicanlaw14.FlashCut': WHATEVER THE INPUT: true; the input reads as it did. -/
def flashCutSpec : ChangeSpec := { name := "flashCut", fn := fun _ => fun
  | [d1, d2, d3] => { results := [.lit (.bool true)], args := [d1, d2, d3] }
  | _ => none }
def flashCutRow : OpenClaim := { program := "ytdmoaighbobgaaa", sum := "026e41ccac3a582d1f1b06297c55d8752d676215b12c052182931da463083437", func := "barbican/barbicanlaw14.FlashCut", spec := "flashCut", apart := false }
def FlashCutSaid : Prop := flashCutRow.holds Try.pinned (OpenSpec.ofChange flashCutSpec)

/-- ITS FALSE NEIGHBOUR: 'it returns false'. Refute it at one input. -/
def flashCutWrong : ChangeSpec := { name := "flashCut", fn := fun _ => fun
  | [d1, d2, d3] => { results := [.lit (.bool false)], args := [d1, d2, d3] }
  | _ => none }
def FlashCutWrongFalsely : Prop := flashCutRow.holds Try.pinned (OpenSpec.ofChange flashCutWrong)

/-- 'barbicanlaw14.FlashSpans': WHATEVER THE INPUT: true; the input reads as it did. -/
def flashSpansSpec : ChangeSpec := { name := "flashSpans", fn := fun _ => fun
  | [d] => { results := [.lit (.bool true)], args := [d] }
  | _ => none }
def flashSpansRow : OpenClaim := { program := "ytdmoaighbobgaaa", sum := "026e41ccac3a582d1f1b06297c55d8752d676215b12c052182931da463083437", func := "barbican/barbicanlaw14.FlashSpans", spec := "flashSpans", apart := false }
def FlashSpansSaid : Prop := flashSpansRow.holds Try.pinned (OpenSpec.ofChange flashSpansSpec)

/-- ITS FALSE NEIGHBOUR: 'it returns false'. Refute it at one input. -/
def flashSpansWrong : ChangeSpec := { name := "flashSpans", fn := fun _ => fun
  | [d] => { results := [.lit (.bool false)], args := [d] }
  | _ => none }
def FlashSpansWrongFalsely : Prop := flashSpansRow.holds Try.pinned (OpenSpec.ofChange flashSpansWrong)

/-- 'barbicanlaw14.FlashPlays': WHATEVER THE INPUT: true; the input reads as it did. -/
def flashPlaysSpec : ChangeSpec := { name := "flashPlays", fn := fun _ => fun
  | [d1, d2] => { results := [.lit (.bool true)], args := [d1, d2] }
  | _ => none }
def flashPlaysRow : OpenClaim := { program := "ytdmoaighbobgaaa", sum := "026e41ccac3a582d1f1b06297c55d8752d676215b12c052182931da463083437", func := "barbican/barbicanlaw14.FlashPlays", spec := "flashPlays", unfollowed := true, recurses := true, apart := false }
def FlashPlaysSaid : Prop := flashPlaysRow.holds Try.pinned (OpenSpec.ofChange flashPlaysSpec)

/-- ITS FALSE NEIGHBOUR: 'it returns false'. Refute it at one input. -/
def flashPlaysWrong : ChangeSpec := { name := "flashPlays", fn := fun _ => fun
  | [d1, d2] => { results := [.lit (.bool false)], args := [d1, d2] }
  | _ => none }
def FlashPlaysWrongFalsely : Prop := flashPlaysRow.holds Try.pinned (OpenSpec.ofChange flashPlaysWrong)

/-- 'barbicanlaw14.FlashNil': WHATEVER THE INPUT: true; the input reads as it did. -/
def flashNilSpec : ChangeSpec := { name := "flashNil", fn := fun _ => fun
  | [d1, d2] => { results := [.lit (.bool true)], args := [d1, d2] }
  | _ => none }
def flashNilRow : OpenClaim := { program := "ytdmoaighbobgaaa", sum := "026e41ccac3a582d1f1b06297c55d8752d676215b12c052182931da463083437", func := "barbican/barbicanlaw14.FlashNil", spec := "flashNil", unfollowed := true, recurses := true, apart := false }
def FlashNilSaid : Prop := flashNilRow.holds Try.pinned (OpenSpec.ofChange flashNilSpec)

/-- ITS FALSE NEIGHBOUR: 'it returns false'. Refute it at one input. -/
def flashNilWrong : ChangeSpec := { name := "flashNil", fn := fun _ => fun
  | [d1, d2] => { results := [.lit (.bool false)], args := [d1, d2] }
  | _ => none }
def FlashNilWrongFalsely : Prop := flashNilRow.holds Try.pinned (OpenSpec.ofChange flashNilWrong)

/- THE SECOND FORM. 'bulk': how many values and letters a reading holds, each counted each time it is reached (what is shared counts as often as it is met; a slice's spare places count too). A statement '..UptoSaid' is the law's where the arguments, and the package variables that the reading takes, are together of bulk at most 1048576: NARROWER than '..Said'. Prove '..Said' where nothing that the law and all that it calls make is longer than what came in: it says more and counts as full. Else prove '..UptoSaid'. A law counts once. -/
mutual
def uptoBulk {H : Type} : DataW H → Nat
  | .lit (.string bytes) => bytes.length + 1
  | .lit _ => 1
  | .nil => 1
  | .ptr d => uptoBulk d + 1
  | .slice elems spare => uptoBulkAll elems + uptoBulkAll spare + 1
  | .agg parts => uptoBulkAll parts + 1
  | .iface _ d => uptoBulk d + 1
  | .map entries => uptoBulkEntries entries + 1
  | .held _ => 1
def uptoBulkAll {H : Type} : List (DataW H) → Nat
  | [] => 0
  | d :: r => uptoBulk d + uptoBulkAll r
def uptoBulkEntries {H : Type} : List (Lit × DataW H) → Nat
  | [] => 0
  | x :: r => uptoBulkEntry x + uptoBulkEntries r
def uptoBulkEntry {H : Type} : Lit × DataW H → Nat
  | (.string bytes, d) => bytes.length + uptoBulk d + 1
  | (_, d) => uptoBulk d + 1
 end
def uptoSmall : (H : Type) → List (DataW H) → Bool := fun _ ds => decide (uptoBulkAll ds ≤ 1048576)
def OpenSpec.upto (s : _root_.Go.ChangeSpec) : _root_.Go.OpenSpec := { _root_.Go.OpenSpec.ofChange s with cond := some uptoSmall }

/-- 'barbicanlaw14.FlashCut', WHERE WHAT IT READS IS OF BULK AT MOST 1048576: true; the input reads as it did. -/
def flashCutUptoRow : OpenClaim := { program := "ytdmoaighbobgaaa", sum := "026e41ccac3a582d1f1b06297c55d8752d676215b12c052182931da463083437", func := "barbican/barbicanlaw14.FlashCut", spec := "flashCut", apart := false, narrowed := true }
def FlashCutUptoSaid : Prop := flashCutUptoRow.holds Try.pinned (OpenSpec.upto flashCutSpec)

/-- 'barbicanlaw14.FlashSpans', WHERE WHAT IT READS IS OF BULK AT MOST 1048576: true; the input reads as it did. -/
def flashSpansUptoRow : OpenClaim := { program := "ytdmoaighbobgaaa", sum := "026e41ccac3a582d1f1b06297c55d8752d676215b12c052182931da463083437", func := "barbican/barbicanlaw14.FlashSpans", spec := "flashSpans", apart := false, narrowed := true }
def FlashSpansUptoSaid : Prop := flashSpansUptoRow.holds Try.pinned (OpenSpec.upto flashSpansSpec)

/-- 'barbicanlaw14.FlashPlays', WHERE WHAT IT READS IS OF BULK AT MOST 1048576: true; the input reads as it did. -/
def flashPlaysUptoRow : OpenClaim := { program := "ytdmoaighbobgaaa", sum := "026e41ccac3a582d1f1b06297c55d8752d676215b12c052182931da463083437", func := "barbican/barbicanlaw14.FlashPlays", spec := "flashPlays", unfollowed := true, recurses := true, apart := false, narrowed := true }
def FlashPlaysUptoSaid : Prop := flashPlaysUptoRow.holds Try.pinned (OpenSpec.upto flashPlaysSpec)

/-- 'barbicanlaw14.FlashNil', WHERE WHAT IT READS IS OF BULK AT MOST 1048576: true; the input reads as it did. -/
def flashNilUptoRow : OpenClaim := { program := "ytdmoaighbobgaaa", sum := "026e41ccac3a582d1f1b06297c55d8752d676215b12c052182931da463083437", func := "barbican/barbicanlaw14.FlashNil", spec := "flashNil", unfollowed := true, recurses := true, apart := false, narrowed := true }
def FlashNilUptoSaid : Prop := flashNilUptoRow.holds Try.pinned (OpenSpec.upto flashNilSpec)

end Rows
end Go.Proofs.Ytdmoaighbobgaaa
