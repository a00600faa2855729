/-
  No cell of these rows narrows 'for every input' (looked for: loops, veiled, ifaces, maps, wideKeys, modest, calm, conditions, laid).
  DERIVED. THE GIVEN ROWS OF THIS SEAT. 7 by the template 'for every input the law returns true; each argument reads behind the call as it read before'; 0 by the template 'total and deterministic' (their statements: YtdkjkdlpkjklmaaTotals.lean).
  GIVEN WITH THE SEED: the statements are not yours to turn. If you find one false, say at which input.
  Laid BY PROGRAM, IN A SANDBOX (cutbox-rows.mjs): the forced cells as the released guide's own fill.sh prints them over the translation d1b971d25d1bde26… (all of the seat's roots in one cut). By AI agents, Wed Nov 11 2026. No macro, syntax, notation, axiom, sorry.
-/
import Derived.Test.YtdkjkdlpkjklmaaChecked
import GoSem.Claim
import GoSem.ClaimJoined
import GoSem.ClaimMapViews
import Derived.JoinedTies
import Derived.KernelRfl
namespace Go.Proofs.Ytdkjkdlpkjklmaa
/- THE CELL 'sum', in the pinned program and in every row, IS THE sha256 OF THE DUMP (.gsa) THAT YtdkjkdlpkjklmaaProg.lean LOADS. Nothing in Lean hashes anything: it is a label: what it is worth is what the hold of that sum in a sandbox is worth. -/
noncomputable def Try.pinned : Pinned := { name := "ytdkjkdlpkjklmaa", sum := "d1b971d25d1bde26c775c48eed99f7d75eab8a0c3a1e4b7c635c85e54e80d959", checked := Try.checked }
namespace Rows
def none {H : Type} : Left H := { results := [], args := [] }

/-- 'barbicanlaw01.OctetsSums': WHATEVER THE INPUT: true; the input reads as it did. -/
def octetsSumsSpec : ChangeSpec := { name := "octetsSums", fn := fun _ => fun
  | [d1, d2] => { results := [.lit (.bool true)], args := [d1, d2] }
  | _ => none }
def octetsSumsRow : OpenClaim := { program := "ytdkjkdlpkjklmaa", sum := "d1b971d25d1bde26c775c48eed99f7d75eab8a0c3a1e4b7c635c85e54e80d959", func := "barbican/barbicanlaw01.OctetsSums", spec := "octetsSums", apart := false }
def OctetsSumsSaid : Prop := octetsSumsRow.holds Try.pinned (OpenSpec.ofChange octetsSumsSpec)

/-- ITS FALSE NEIGHBOUR: 'it returns false'. Refute it at one input. -/
def octetsSumsWrong : ChangeSpec := { name := "octetsSums", fn := fun _ => fun
  | [d1, d2] => { results := [.lit (.bool false)], args := [d1, d2] }
  | _ => none }
def OctetsSumsWrongFalsely : Prop := octetsSumsRow.holds Try.pinned (OpenSpec.ofChange octetsSumsWrong)

/-- 'barbicanlaw01.OctetsParts': WHATEVER THE INPUT: true; the input reads as it did. -/
def octetsPartsSpec : ChangeSpec := { name := "octetsParts", fn := fun _ => fun
  | [d] => { results := [.lit (.bool true)], args := [d] }
  | _ => none }
def octetsPartsRow : OpenClaim := { program := "ytdkjkdlpkjklmaa", sum := "d1b971d25d1bde26c775c48eed99f7d75eab8a0c3a1e4b7c635c85e54e80d959", func := "barbican/barbicanlaw01.OctetsParts", spec := "octetsParts", apart := false }
def OctetsPartsSaid : Prop := octetsPartsRow.holds Try.pinned (OpenSpec.ofChange octetsPartsSpec)

/-- ITS FALSE NEIGHBOUR: 'it returns false'. Refute it at one input. -/
def octetsPartsWrong : ChangeSpec := { name := "octetsParts", fn := fun _ => fun
  | [d] => { results := [.lit (.bool false)], args := [d] }
  | _ => none }
def OctetsPartsWrongFalsely : Prop := octetsPartsRow.holds Try.pinned (OpenSpec.ofChange octetsPartsWrong)

/-- 'barbicanlaw01.OctetsSigns': WHATEVER THE INPUT: true; the input reads as it did. -/
def octetsSignsSpec : ChangeSpec := { name := "octetsSigns", fn := fun _ => fun
  | [d1, d2, d3] => { results := [.lit (.bool true)], args := [d1, d2, d3] }
  | _ => none }
def octetsSignsRow : OpenClaim := { program := "ytdkjkdlpkjklmaa", sum := "d1b971d25d1bde26c775c48eed99f7d75eab8a0c3a1e4b7c635c85e54e80d959", func := "barbican/barbicanlaw01.OctetsSigns", spec := "octetsSigns", apart := false }
def OctetsSignsSaid : Prop := octetsSignsRow.holds Try.pinned (OpenSpec.ofChange octetsSignsSpec)

/-- ITS FALSE NEIGHBOUR: 'it returns false'. Refute it at one input. -/
def octetsSignsWrong : ChangeSpec := { name := "octetsSigns", fn := fun _ => fun
  | [d1, d2, d3] => { results := [.lit (.bool false)], args := [d1, d2, d3] }
  | _ => none }
def OctetsSignsWrongFalsely : Prop := octetsSignsRow.holds Try.pinned (OpenSpec.ofChange octetsSignsWrong)

/-- 'barbicanlaw01.OctetsNumbers': WHATEVER THE INPUT: true; the input reads as it did. -/
def octetsNumbersSpec : ChangeSpec := { name := "octetsNumbers", fn := fun _ => fun
  | [d] => { results := [.lit (.bool true)], args := [d] }
  | _ => none }
def octetsNumbersRow : OpenClaim := { program := "ytdkjkdlpkjklmaa", sum := "d1b971d25d1bde26c775c48eed99f7d75eab8a0c3a1e4b7c635c85e54e80d959", func := "barbican/barbicanlaw01.OctetsNumbers", spec := "octetsNumbers", apart := false }
def OctetsNumbersSaid : Prop := octetsNumbersRow.holds Try.pinned (OpenSpec.ofChange octetsNumbersSpec)

/-- ITS FALSE NEIGHBOUR: 'it returns false'. Refute it at one input. -/
def octetsNumbersWrong : ChangeSpec := { name := "octetsNumbers", fn := fun _ => fun
  | [d] => { results := [.lit (.bool false)], args := [d] }
  | _ => none }
def OctetsNumbersWrongFalsely : Prop := octetsNumbersRow.holds Try.pinned (OpenSpec.ofChange octetsNumbersWrong)

/-- 'barbicanlaw01.OctetsBack': WHATEVER THE INPUT: true; the input reads as it did. -/
def octetsBackSpec : ChangeSpec := { name := "octetsBack", fn := fun _ => fun
  | [d] => { results := [.lit (.bool true)], args := [d] }
  | _ => none }
def octetsBackRow : OpenClaim := { program := "ytdkjkdlpkjklmaa", sum := "d1b971d25d1bde26c775c48eed99f7d75eab8a0c3a1e4b7c635c85e54e80d959", func := "barbican/barbicanlaw01.OctetsBack", spec := "octetsBack", apart := false }
def OctetsBackSaid : Prop := octetsBackRow.holds Try.pinned (OpenSpec.ofChange octetsBackSpec)

/-- ITS FALSE NEIGHBOUR: 'it returns false'. Refute it at one input. -/
def octetsBackWrong : ChangeSpec := { name := "octetsBack", fn := fun _ => fun
  | [d] => { results := [.lit (.bool false)], args := [d] }
  | _ => none }
def OctetsBackWrongFalsely : Prop := octetsBackRow.holds Try.pinned (OpenSpec.ofChange octetsBackWrong)

/-- 'barbicanlaw01.OctetsTexts': WHATEVER THE INPUT: true; the input reads as it did. -/
def octetsTextsSpec : ChangeSpec := { name := "octetsTexts", fn := fun _ => fun
  | [d1, d2] => { results := [.lit (.bool true)], args := [d1, d2] }
  | _ => none }
def octetsTextsRow : OpenClaim := { program := "ytdkjkdlpkjklmaa", sum := "d1b971d25d1bde26c775c48eed99f7d75eab8a0c3a1e4b7c635c85e54e80d959", func := "barbican/barbicanlaw01.OctetsTexts", spec := "octetsTexts", apart := false }
def OctetsTextsSaid : Prop := octetsTextsRow.holds Try.pinned (OpenSpec.ofChange octetsTextsSpec)

/-- ITS FALSE NEIGHBOUR: 'it returns false'. Refute it at one input. -/
def octetsTextsWrong : ChangeSpec := { name := "octetsTexts", fn := fun _ => fun
  | [d1, d2] => { results := [.lit (.bool false)], args := [d1, d2] }
  | _ => none }
def OctetsTextsWrongFalsely : Prop := octetsTextsRow.holds Try.pinned (OpenSpec.ofChange octetsTextsWrong)

/-- 'barbicanlaw01.OctetsPieces': WHATEVER THE INPUT: true; the input reads as it did. -/
def octetsPiecesSpec : ChangeSpec := { name := "octetsPieces", fn := fun _ => fun
  | [d] => { results := [.lit (.bool true)], args := [d] }
  | _ => none }
def octetsPiecesRow : OpenClaim := { program := "ytdkjkdlpkjklmaa", sum := "d1b971d25d1bde26c775c48eed99f7d75eab8a0c3a1e4b7c635c85e54e80d959", func := "barbican/barbicanlaw01.OctetsPieces", spec := "octetsPieces", apart := false }
def OctetsPiecesSaid : Prop := octetsPiecesRow.holds Try.pinned (OpenSpec.ofChange octetsPiecesSpec)

/-- ITS FALSE NEIGHBOUR: 'it returns false'. Refute it at one input. -/
def octetsPiecesWrong : ChangeSpec := { name := "octetsPieces", fn := fun _ => fun
  | [d] => { results := [.lit (.bool false)], args := [d] }
  | _ => none }
def OctetsPiecesWrongFalsely : Prop := octetsPiecesRow.holds Try.pinned (OpenSpec.ofChange octetsPiecesWrong)

/- THE SECOND FORM. 'bulk': how many values and letters a reading holds, each counted each time it is reached (what is shared counts as often as it is met; a slice's spare places count too). A statement '..UptoSaid' is the law's where the arguments, and the package variables that the reading takes, are together of bulk at most 1048576: NARROWER than '..Said'. Prove '..Said' where nothing that the law and all that it calls make is longer than what came in: it says more and counts as full. Else prove '..UptoSaid'. A law counts once. -/
mutual
def uptoBulk {H : Type} : DataW H → Nat
  | .lit (.string bytes) => bytes.length + 1
  | .lit _ => 1
  | .nil => 1
  | .ptr d => uptoBulk d + 1
  | .slice elems spare => uptoBulkAll elems + uptoBulkAll spare + 1
  | .agg parts => uptoBulkAll parts + 1
  | .iface _ d => uptoBulk d + 1
  | .map entries => uptoBulkEntries entries + 1
  | .held _ => 1
def uptoBulkAll {H : Type} : List (DataW H) → Nat
  | [] => 0
  | d :: r => uptoBulk d + uptoBulkAll r
def uptoBulkEntries {H : Type} : List (Lit × DataW H) → Nat
  | [] => 0
  | x :: r => uptoBulkEntry x + uptoBulkEntries r
def uptoBulkEntry {H : Type} : Lit × DataW H → Nat
  | (.string bytes, d) => bytes.length + uptoBulk d + 1
  | (_, d) => uptoBulk d + 1
 end
def uptoSmall : (H : Type) → List (DataW H) → Bool := fun _ ds => decide (uptoBulkAll ds ≤ 1048576)
def OpenSpec.upto (s : _root_.Go.ChangeSpec) : _root_.Go.OpenSpec := { _root_.Go.OpenSpec.ofChange s with cond := some uptoSmall }

/-- 'barbicanlaw01.OctetsSums', WHERE WHAT IT READS IS OF BULK AT MOST 1048576: true; the input reads as it did. -/
def octetsSumsUptoRow : OpenClaim := { program := "ytdkjkdlpkjklmaa", sum := "d1b971d25d1bde26c775c48eed99f7d75eab8a0c3a1e4b7c635c85e54e80d959", func := "barbican/barbicanlaw01.OctetsSums", spec := "octetsSums", apart := false, narrowed := true }
def OctetsSumsUptoSaid : Prop := octetsSumsUptoRow.holds Try.pinned (OpenSpec.upto octetsSumsSpec)

/-- 'barbicanlaw01.OctetsParts', WHERE WHAT IT READS IS OF BULK AT MOST 1048576: true; the input reads as it did. -/
def octetsPartsUptoRow : OpenClaim := { program := "ytdkjkdlpkjklmaa", sum := "d1b971d25d1bde26c775c48eed99f7d75eab8a0c3a1e4b7c635c85e54e80d959", func := "barbican/barbicanlaw01.OctetsParts", spec := "octetsParts", apart := false, narrowed := true }
def OctetsPartsUptoSaid : Prop := octetsPartsUptoRow.holds Try.pinned (OpenSpec.upto octetsPartsSpec)

/-- 'barbicanlaw01.OctetsSigns', WHERE WHAT IT READS IS OF BULK AT MOST 1048576: true; the input reads as it did. -/
def octetsSignsUptoRow : OpenClaim := { program := "ytdkjkdlpkjklmaa", sum := "d1b971d25d1bde26c775c48eed99f7d75eab8a0c3a1e4b7c635c85e54e80d959", func := "barbican/barbicanlaw01.OctetsSigns", spec := "octetsSigns", apart := false, narrowed := true }
def OctetsSignsUptoSaid : Prop := octetsSignsUptoRow.holds Try.pinned (OpenSpec.upto octetsSignsSpec)

/-- 'barbicanlaw01.OctetsNumbers', WHERE WHAT IT READS IS OF BULK AT MOST 1048576: true; the input reads as it did. -/
def octetsNumbersUptoRow : OpenClaim := { program := "ytdkjkdlpkjklmaa", sum := "d1b971d25d1bde26c775c48eed99f7d75eab8a0c3a1e4b7c635c85e54e80d959", func := "barbican/barbicanlaw01.OctetsNumbers", spec := "octetsNumbers", apart := false, narrowed := true }
def OctetsNumbersUptoSaid : Prop := octetsNumbersUptoRow.holds Try.pinned (OpenSpec.upto octetsNumbersSpec)

/-- 'barbicanlaw01.OctetsBack', WHERE WHAT IT READS IS OF BULK AT MOST 1048576: true; the input reads as it did. -/
def octetsBackUptoRow : OpenClaim := { program := "ytdkjkdlpkjklmaa", sum := "d1b971d25d1bde26c775c48eed99f7d75eab8a0c3a1e4b7c635c85e54e80d959", func := "barbican/barbicanlaw01.OctetsBack", spec := "octetsBack", apart := false, narrowed := true }
def OctetsBackUptoSaid : Prop := octetsBackUptoRow.holds Try.pinned (OpenSpec.upto octetsBackSpec)

/-- 'barbicanlaw01.OctetsTexts', WHERE WHAT IT READS IS OF BULK AT MOST 1048576: true; the input reads as it did. -/
def octetsTextsUptoRow : OpenClaim := { program := "ytdkjkdlpkjklmaa", sum := "d1b971d25d1bde26c775c48eed99f7d75eab8a0c3a1e4b7c635c85e54e80d959", func := "barbican/barbicanlaw01.OctetsTexts", spec := "octetsTexts", apart := false, narrowed := true }
def OctetsTextsUptoSaid : Prop := octetsTextsUptoRow.holds Try.pinned (OpenSpec.upto octetsTextsSpec)

/-- 'barbicanlaw01.OctetsPieces', WHERE WHAT IT READS IS OF BULK AT MOST 1048576: true; the input reads as it did. -/
def octetsPiecesUptoRow : OpenClaim := { program := "ytdkjkdlpkjklmaa", sum := "d1b971d25d1bde26c775c48eed99f7d75eab8a0c3a1e4b7c635c85e54e80d959", func := "barbican/barbicanlaw01.OctetsPieces", spec := "octetsPieces", apart := false, narrowed := true }
def OctetsPiecesUptoSaid : Prop := octetsPiecesUptoRow.holds Try.pinned (OpenSpec.upto octetsPiecesSpec)

end Rows
end Go.Proofs.Ytdkjkdlpkjklmaa
