/-
  DERIVED. GIVEN WITH THE SEED: THE CARDS: each row of YtngkelflfahjbaaDoorRows.lean that lists a variable, with what it lists TIED to the program's text (the seventh form; the later family's looks); each row that meets fmt, with fmt's text TOLD by the authors' own Lean function (tested against real Go, not proved from fmt's source: count such statements apart). THE CARD IS WHAT COUNTS. Prove the row's statement (the work); the ties are given (YtngkelflfahjbaaDoorTie.lean); close each card by the builder's one call (the guide's Derived/Test/ToyasCard.lean, 'card_holds'). Laid BY PROGRAM, IN A SANDBOX (cutbox-door.mjs). By AI agents, Wed Nov 11 2026. No macro, syntax, notation, axiom, sorry.
-/
import Derived.Test.YtngkelflfahjbaaDoorRows
import GoSem.ClaimSeven
namespace Go.Proofs.YtngkelflfahjbaaDoor
namespace Rows

/-- THE TIED CARD OF 'barbicanlaw02.ShaSums'. -/
def shaSumsCard : Claim7 := { stood := { row := shaSumsRow, standIns := [], harness := (true, "f983221e331d71da25e8f0f150aba8e12e0142d7537ca16306b71dd855c66572"), looks := false }, kinds := [], alts := [], laidByText := true, laidKinds := [.data], laidTests := true, laidLooks := .later }
def ShaSumsCardSaid : Prop := Claim7.holds Tryd.pinned (.plain (OpenSpec.ofChange shaSumsSpec)) shaSumsCard

/-- THE TIED CARD OF 'barbicanlaw02.ShaNil'. -/
def shaNilCard : Claim7 := { stood := { row := shaNilRow, standIns := [], harness := (true, "f983221e331d71da25e8f0f150aba8e12e0142d7537ca16306b71dd855c66572"), looks := false }, kinds := [], alts := [], laidByText := true, laidKinds := [.data], laidTests := true, laidLooks := .later }
def ShaNilCardSaid : Prop := Claim7.holds Tryd.pinned (.plain (OpenSpec.ofChange shaNilSpec)) shaNilCard

/-- THE TIED CARD OF 'barbicanlaw02.ShaOpens'. -/
def shaOpensCard : Claim7 := { stood := { row := shaOpensRow, standIns := [], harness := (true, "f983221e331d71da25e8f0f150aba8e12e0142d7537ca16306b71dd855c66572"), looks := false }, kinds := [], alts := [], laidByText := true, laidKinds := [.data], laidTests := true, laidLooks := .later }
def ShaOpensCardSaid : Prop := Claim7.holds Tryd.pinned (.plain (OpenSpec.ofChange shaOpensSpec)) shaOpensCard

/-- THE TIED CARD OF 'barbicanlaw02.ShaFull'. -/
def shaFullCard : Claim7 := { stood := { row := shaFullRow, standIns := [], harness := (true, "f983221e331d71da25e8f0f150aba8e12e0142d7537ca16306b71dd855c66572"), looks := false }, kinds := [], alts := [], laidByText := true, laidKinds := [.data], laidTests := true, laidLooks := .later }
def ShaFullCardSaid : Prop := Claim7.holds Tryd.pinned (.plain (OpenSpec.ofChange shaFullSpec)) shaFullCard

/-- THE TIED CARD OF 'barbicanlaw02.ShaPieces'. -/
def shaPiecesCard : Claim7 := { stood := { row := shaPiecesRow, standIns := [], harness := (true, "f983221e331d71da25e8f0f150aba8e12e0142d7537ca16306b71dd855c66572"), looks := false }, kinds := [], alts := [], laidByText := true, laidKinds := [.data], laidTests := true, laidLooks := .later }
def ShaPiecesCardSaid : Prop := Claim7.holds Tryd.pinned (.plain (OpenSpec.ofChange shaPiecesSpec)) shaPiecesCard

/-- THE TIED CARD OF 'barbicanlaw02.ShaPlays'. -/
def shaPlaysCard : Claim7 := { stood := { row := shaPlaysRow, standIns := [], harness := (true, "f983221e331d71da25e8f0f150aba8e12e0142d7537ca16306b71dd855c66572"), looks := false }, kinds := [], alts := [], laidByText := true, laidKinds := [.data], laidTests := true, laidLooks := .later }
def ShaPlaysCardSaid : Prop := Claim7.holds Tryd.pinned (.plain (OpenSpec.ofChange shaPlaysSpec)) shaPlaysCard

/-- THE SECOND FORM's CARD OF 'barbicanlaw02.ShaSums'. -/
def shaSumsUptoCard : Claim7 := { stood := { row := shaSumsUptoRow, standIns := [], harness := (true, "f983221e331d71da25e8f0f150aba8e12e0142d7537ca16306b71dd855c66572"), looks := false }, kinds := [], alts := [], laidByText := true, laidKinds := [.data], laidTests := true, laidLooks := .later }
def ShaSumsUptoCardSaid : Prop := Claim7.holds Tryd.pinned (.plain (OpenSpec.upto shaSumsSpec)) shaSumsUptoCard

/-- THE SECOND FORM's CARD OF 'barbicanlaw02.ShaNil'. -/
def shaNilUptoCard : Claim7 := { stood := { row := shaNilUptoRow, standIns := [], harness := (true, "f983221e331d71da25e8f0f150aba8e12e0142d7537ca16306b71dd855c66572"), looks := false }, kinds := [], alts := [], laidByText := true, laidKinds := [.data], laidTests := true, laidLooks := .later }
def ShaNilUptoCardSaid : Prop := Claim7.holds Tryd.pinned (.plain (OpenSpec.upto shaNilSpec)) shaNilUptoCard

/-- THE SECOND FORM's CARD OF 'barbicanlaw02.ShaOpens'. -/
def shaOpensUptoCard : Claim7 := { stood := { row := shaOpensUptoRow, standIns := [], harness := (true, "f983221e331d71da25e8f0f150aba8e12e0142d7537ca16306b71dd855c66572"), looks := false }, kinds := [], alts := [], laidByText := true, laidKinds := [.data], laidTests := true, laidLooks := .later }
def ShaOpensUptoCardSaid : Prop := Claim7.holds Tryd.pinned (.plain (OpenSpec.upto shaOpensSpec)) shaOpensUptoCard

/-- THE SECOND FORM's CARD OF 'barbicanlaw02.ShaFull'. -/
def shaFullUptoCard : Claim7 := { stood := { row := shaFullUptoRow, standIns := [], harness := (true, "f983221e331d71da25e8f0f150aba8e12e0142d7537ca16306b71dd855c66572"), looks := false }, kinds := [], alts := [], laidByText := true, laidKinds := [.data], laidTests := true, laidLooks := .later }
def ShaFullUptoCardSaid : Prop := Claim7.holds Tryd.pinned (.plain (OpenSpec.upto shaFullSpec)) shaFullUptoCard

/-- THE SECOND FORM's CARD OF 'barbicanlaw02.ShaPieces'. -/
def shaPiecesUptoCard : Claim7 := { stood := { row := shaPiecesUptoRow, standIns := [], harness := (true, "f983221e331d71da25e8f0f150aba8e12e0142d7537ca16306b71dd855c66572"), looks := false }, kinds := [], alts := [], laidByText := true, laidKinds := [.data], laidTests := true, laidLooks := .later }
def ShaPiecesUptoCardSaid : Prop := Claim7.holds Tryd.pinned (.plain (OpenSpec.upto shaPiecesSpec)) shaPiecesUptoCard

/-- THE SECOND FORM's CARD OF 'barbicanlaw02.ShaPlays'. -/
def shaPlaysUptoCard : Claim7 := { stood := { row := shaPlaysUptoRow, standIns := [], harness := (true, "f983221e331d71da25e8f0f150aba8e12e0142d7537ca16306b71dd855c66572"), looks := false }, kinds := [], alts := [], laidByText := true, laidKinds := [.data], laidTests := true, laidLooks := .later }
def ShaPlaysUptoCardSaid : Prop := Claim7.holds Tryd.pinned (.plain (OpenSpec.upto shaPlaysSpec)) shaPlaysUptoCard
end Rows
end Go.Proofs.YtngkelflfahjbaaDoor
