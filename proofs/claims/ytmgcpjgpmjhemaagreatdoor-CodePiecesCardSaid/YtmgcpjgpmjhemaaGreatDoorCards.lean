/-
  DERIVED. GIVEN WITH THE SEED: THE CARDS: each row of YtmgcpjgpmjhemaaGreatDoorRows.lean that lists a variable, with what it lists TIED to the program's text (the seventh form; the later family's looks); each row that meets fmt, with fmt's text TOLD by the authors' own Lean function (tested against real Go, not proved from fmt's source: count such statements apart). THE CARD IS WHAT COUNTS. Prove the row's statement (the work); the ties are given (YtmgcpjgpmjhemaaGreatDoorTie.lean); close each card by the builder's one call (the guide's Derived/Test/ToyasCard.lean, 'card_holds'). Laid BY PROGRAM, IN A SANDBOX (cutbox-door.mjs). By AI agents, Wed Nov 11 2026. No macro, syntax, notation, axiom, sorry.
-/
import Derived.Test.YtmgcpjgpmjhemaaGreatDoorRows
import GoSem.ClaimSeven
namespace Go.Proofs.YtmgcpjgpmjhemaaGreatDoor
namespace Rows

/-- THE TIED CARD OF 'threshinglaw14.CodeLines'. -/
def codeLinesCard : Claim7 := { stood := { row := codeLinesRow, standIns := [], harness := (true, "388a9e5185901cb0e2d9b3db5959c68e57684543afd33d9aca12e59b9e78dae1"), looks := true }, kinds := [], alts := [], laidByText := true, laidKinds := [.data, .data, .data, .data, .sentinel, .sentinel, .listed, .data, .pinned], laidTests := true, laidLooks := .later }
def CodeLinesCardSaid : Prop := Claim7.holds Tryz.pinned (.plain (OpenSpec.ofChange codeLinesSpec)) codeLinesCard

/-- THE TIED CARD OF 'threshinglaw14.CodeOne'. -/
def codeOneCard : Claim7 := { stood := { row := codeOneRow, standIns := [], harness := (true, "388a9e5185901cb0e2d9b3db5959c68e57684543afd33d9aca12e59b9e78dae1"), looks := true }, kinds := [], alts := [], laidByText := true, laidKinds := [.data, .data, .data, .data, .sentinel, .sentinel, .listed, .data, .pinned], laidTests := true, laidLooks := .later }
def CodeOneCardSaid : Prop := Claim7.holds Tryz.pinned (.plain (OpenSpec.ofChange codeOneSpec)) codeOneCard

/-- THE TIED CARD OF 'threshinglaw14.CodeReads'. -/
def codeReadsCard : Claim7 := { stood := { row := codeReadsRow, standIns := [], harness := (true, "388a9e5185901cb0e2d9b3db5959c68e57684543afd33d9aca12e59b9e78dae1"), looks := true }, kinds := [], alts := [], laidByText := true, laidKinds := [.data, .data, .data, .data, .sentinel, .sentinel, .listed, .data, .pinned], laidTests := true, laidLooks := .later }
def CodeReadsCardSaid : Prop := Claim7.holds Tryz.pinned (.plain (OpenSpec.ofChange codeReadsSpec)) codeReadsCard

/-- THE TIED CARD OF 'threshinglaw14.CodeBack'. -/
def codeBackCard : Claim7 := { stood := { row := codeBackRow, standIns := [], harness := (true, "388a9e5185901cb0e2d9b3db5959c68e57684543afd33d9aca12e59b9e78dae1"), looks := true }, kinds := [], alts := [], laidByText := true, laidKinds := [.data, .data, .data, .data, .sentinel, .sentinel, .listed, .data, .pinned], laidTests := true, laidLooks := .later }
def CodeBackCardSaid : Prop := Claim7.holds Tryz.pinned (.plain (OpenSpec.ofChange codeBackSpec)) codeBackCard

/-- THE TIED CARD OF 'threshinglaw14.CodePieces'. -/
def codePiecesCard : Claim7 := { stood := { row := codePiecesRow, standIns := [], harness := (true, "388a9e5185901cb0e2d9b3db5959c68e57684543afd33d9aca12e59b9e78dae1"), looks := true }, kinds := [], alts := [], laidByText := true, laidKinds := [.data, .data, .data, .data, .sentinel, .sentinel, .listed, .data, .pinned], laidTests := true, laidLooks := .later }
def CodePiecesCardSaid : Prop := Claim7.holds Tryz.pinned (.plain (OpenSpec.ofChange codePiecesSpec)) codePiecesCard

/-- THE TIED CARD OF 'threshinglaw17.JobOrder'. -/
def jobOrderCard : Claim7 := { stood := { row := jobOrderRow, standIns := [], harness := (true, "388a9e5185901cb0e2d9b3db5959c68e57684543afd33d9aca12e59b9e78dae1"), looks := true }, kinds := [], alts := [], laidByText := true, laidKinds := [.data, .data, .data, .data, .sentinel, .sentinel, .listed, .data, .pinned], laidTests := true, laidLooks := .later }
def JobOrderCardSaid : Prop := Claim7.holds Tryz.pinned (.plain (OpenSpec.ofChange jobOrderSpec)) jobOrderCard

/-- THE TIED CARD OF 'threshinglaw17.JobKeys'. -/
def jobKeysCard : Claim7 := { stood := { row := jobKeysRow, standIns := [], harness := (true, "388a9e5185901cb0e2d9b3db5959c68e57684543afd33d9aca12e59b9e78dae1"), looks := true }, kinds := [], alts := [], laidByText := true, laidKinds := [.data, .data, .data, .data, .sentinel, .sentinel, .listed, .data, .pinned], laidTests := true, laidLooks := .later }
def JobKeysCardSaid : Prop := Claim7.holds Tryz.pinned (.plain (OpenSpec.ofChange jobKeysSpec)) jobKeysCard

/-- THE TIED CARD OF 'threshinglaw17.JobChecks'. -/
def jobChecksCard : Claim7 := { stood := { row := jobChecksRow, standIns := [], harness := (true, "388a9e5185901cb0e2d9b3db5959c68e57684543afd33d9aca12e59b9e78dae1"), looks := true }, kinds := [], alts := [], laidByText := true, laidKinds := [.data, .data, .data, .data, .sentinel, .sentinel, .listed, .data, .pinned], laidTests := true, laidLooks := .later }
def JobChecksCardSaid : Prop := Claim7.holds Tryz.pinned (.plain (OpenSpec.ofChange jobChecksSpec)) jobChecksCard

/-- THE TIED CARD OF 'threshinglaw17.JobBack'. -/
def jobBackCard : Claim7 := { stood := { row := jobBackRow, standIns := [], harness := (true, "388a9e5185901cb0e2d9b3db5959c68e57684543afd33d9aca12e59b9e78dae1"), looks := true }, kinds := [], alts := [], laidByText := true, laidKinds := [.data, .data, .data, .data, .sentinel, .sentinel, .listed, .data, .pinned], laidTests := true, laidLooks := .later }
def JobBackCardSaid : Prop := Claim7.holds Tryz.pinned (.plain (OpenSpec.ofChange jobBackSpec)) jobBackCard

/-- THE SECOND FORM's CARD OF 'threshinglaw14.CodeLines'. -/
def codeLinesUptoCard : Claim7 := { stood := { row := codeLinesUptoRow, standIns := [], harness := (true, "388a9e5185901cb0e2d9b3db5959c68e57684543afd33d9aca12e59b9e78dae1"), looks := true }, kinds := [], alts := [], laidByText := true, laidKinds := [.data, .data, .data, .data, .sentinel, .sentinel, .listed, .data, .pinned], laidTests := true, laidLooks := .later }
def CodeLinesUptoCardSaid : Prop := Claim7.holds Tryz.pinned (.plain (OpenSpec.upto codeLinesSpec)) codeLinesUptoCard

/-- THE SECOND FORM's CARD OF 'threshinglaw14.CodeOne'. -/
def codeOneUptoCard : Claim7 := { stood := { row := codeOneUptoRow, standIns := [], harness := (true, "388a9e5185901cb0e2d9b3db5959c68e57684543afd33d9aca12e59b9e78dae1"), looks := true }, kinds := [], alts := [], laidByText := true, laidKinds := [.data, .data, .data, .data, .sentinel, .sentinel, .listed, .data, .pinned], laidTests := true, laidLooks := .later }
def CodeOneUptoCardSaid : Prop := Claim7.holds Tryz.pinned (.plain (OpenSpec.upto codeOneSpec)) codeOneUptoCard

/-- THE SECOND FORM's CARD OF 'threshinglaw14.CodeReads'. -/
def codeReadsUptoCard : Claim7 := { stood := { row := codeReadsUptoRow, standIns := [], harness := (true, "388a9e5185901cb0e2d9b3db5959c68e57684543afd33d9aca12e59b9e78dae1"), looks := true }, kinds := [], alts := [], laidByText := true, laidKinds := [.data, .data, .data, .data, .sentinel, .sentinel, .listed, .data, .pinned], laidTests := true, laidLooks := .later }
def CodeReadsUptoCardSaid : Prop := Claim7.holds Tryz.pinned (.plain (OpenSpec.upto codeReadsSpec)) codeReadsUptoCard

/-- THE SECOND FORM's CARD OF 'threshinglaw14.CodeBack'. -/
def codeBackUptoCard : Claim7 := { stood := { row := codeBackUptoRow, standIns := [], harness := (true, "388a9e5185901cb0e2d9b3db5959c68e57684543afd33d9aca12e59b9e78dae1"), looks := true }, kinds := [], alts := [], laidByText := true, laidKinds := [.data, .data, .data, .data, .sentinel, .sentinel, .listed, .data, .pinned], laidTests := true, laidLooks := .later }
def CodeBackUptoCardSaid : Prop := Claim7.holds Tryz.pinned (.plain (OpenSpec.upto codeBackSpec)) codeBackUptoCard

/-- THE SECOND FORM's CARD OF 'threshinglaw14.CodePieces'. -/
def codePiecesUptoCard : Claim7 := { stood := { row := codePiecesUptoRow, standIns := [], harness := (true, "388a9e5185901cb0e2d9b3db5959c68e57684543afd33d9aca12e59b9e78dae1"), looks := true }, kinds := [], alts := [], laidByText := true, laidKinds := [.data, .data, .data, .data, .sentinel, .sentinel, .listed, .data, .pinned], laidTests := true, laidLooks := .later }
def CodePiecesUptoCardSaid : Prop := Claim7.holds Tryz.pinned (.plain (OpenSpec.upto codePiecesSpec)) codePiecesUptoCard

/-- THE SECOND FORM's CARD OF 'threshinglaw17.JobOrder'. -/
def jobOrderUptoCard : Claim7 := { stood := { row := jobOrderUptoRow, standIns := [], harness := (true, "388a9e5185901cb0e2d9b3db5959c68e57684543afd33d9aca12e59b9e78dae1"), looks := true }, kinds := [], alts := [], laidByText := true, laidKinds := [.data, .data, .data, .data, .sentinel, .sentinel, .listed, .data, .pinned], laidTests := true, laidLooks := .later }
def JobOrderUptoCardSaid : Prop := Claim7.holds Tryz.pinned (.plain (OpenSpec.upto jobOrderSpec)) jobOrderUptoCard

/-- THE SECOND FORM's CARD OF 'threshinglaw17.JobKeys'. -/
def jobKeysUptoCard : Claim7 := { stood := { row := jobKeysUptoRow, standIns := [], harness := (true, "388a9e5185901cb0e2d9b3db5959c68e57684543afd33d9aca12e59b9e78dae1"), looks := true }, kinds := [], alts := [], laidByText := true, laidKinds := [.data, .data, .data, .data, .sentinel, .sentinel, .listed, .data, .pinned], laidTests := true, laidLooks := .later }
def JobKeysUptoCardSaid : Prop := Claim7.holds Tryz.pinned (.plain (OpenSpec.upto jobKeysSpec)) jobKeysUptoCard

/-- THE SECOND FORM's CARD OF 'threshinglaw17.JobChecks'. -/
def jobChecksUptoCard : Claim7 := { stood := { row := jobChecksUptoRow, standIns := [], harness := (true, "388a9e5185901cb0e2d9b3db5959c68e57684543afd33d9aca12e59b9e78dae1"), looks := true }, kinds := [], alts := [], laidByText := true, laidKinds := [.data, .data, .data, .data, .sentinel, .sentinel, .listed, .data, .pinned], laidTests := true, laidLooks := .later }
def JobChecksUptoCardSaid : Prop := Claim7.holds Tryz.pinned (.plain (OpenSpec.upto jobChecksSpec)) jobChecksUptoCard

/-- THE SECOND FORM's CARD OF 'threshinglaw17.JobBack'. -/
def jobBackUptoCard : Claim7 := { stood := { row := jobBackUptoRow, standIns := [], harness := (true, "388a9e5185901cb0e2d9b3db5959c68e57684543afd33d9aca12e59b9e78dae1"), looks := true }, kinds := [], alts := [], laidByText := true, laidKinds := [.data, .data, .data, .data, .sentinel, .sentinel, .listed, .data, .pinned], laidTests := true, laidLooks := .later }
def JobBackUptoCardSaid : Prop := Claim7.holds Tryz.pinned (.plain (OpenSpec.upto jobBackSpec)) jobBackUptoCard
end Rows
end Go.Proofs.YtmgcpjgpmjhemaaGreatDoor
