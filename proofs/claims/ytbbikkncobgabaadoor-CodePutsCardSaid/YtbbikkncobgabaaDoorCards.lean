/-
  DERIVED. GIVEN WITH THE SEED: THE CARDS: each row of YtbbikkncobgabaaDoorRows.lean that lists a variable, with what it lists TIED to the program's text (the seventh form; the later family's looks); each row that meets fmt, with fmt's text TOLD by the authors' own Lean function (tested against real Go, not proved from fmt's source: count such statements apart). THE CARD IS WHAT COUNTS. Prove the row's statement (the work); the ties are given (YtbbikkncobgabaaDoorTie.lean); close each card by the builder's one call (the guide's Derived/Test/ToyasCard.lean, 'card_holds'). Laid BY PROGRAM, IN A SANDBOX (cutbox-door.mjs). By AI agents, Wed Nov 11 2026. No macro, syntax, notation, axiom, sorry.
-/
import Derived.Test.YtbbikkncobgabaaDoorRows
import GoSem.ClaimSeven
namespace Go.Proofs.YtbbikkncobgabaaDoor
namespace Rows

/-- THE TIED CARD OF 'scrivenerlaw02.CodePuts'. -/
def codePutsCard : Claim7 := { stood := { row := codePutsRow, standIns := [], harness := (true, "edd5d74881f6aaa87d98269efb18cdb6bf971e7f89a74cf13431b234144a619f"), looks := true }, kinds := [], alts := [], laidByText := true, laidKinds := [.sentinel], laidTests := true, laidLooks := .later }
def CodePutsCardSaid : Prop := Claim7.holds Tryd.pinned (.plain (OpenSpec.ofChange codePutsSpec)) codePutsCard

/-- THE TIED CARD OF 'scrivenerlaw02.CodeEach'. -/
def codeEachCard : Claim7 := { stood := { row := codeEachRow, standIns := [], harness := (true, "edd5d74881f6aaa87d98269efb18cdb6bf971e7f89a74cf13431b234144a619f"), looks := true }, kinds := [], alts := [], laidByText := true, laidKinds := [.sentinel], laidTests := true, laidLooks := .later }
def CodeEachCardSaid : Prop := Claim7.holds Tryd.pinned (.plain (OpenSpec.ofChange codeEachSpec)) codeEachCard

/-- THE TIED CARD OF 'scrivenerlaw02.CodeGets'. -/
def codeGetsCard : Claim7 := { stood := { row := codeGetsRow, standIns := [], harness := (true, "edd5d74881f6aaa87d98269efb18cdb6bf971e7f89a74cf13431b234144a619f"), looks := true }, kinds := [], alts := [], laidByText := true, laidKinds := [.sentinel], laidTests := true, laidLooks := .later }
def CodeGetsCardSaid : Prop := Claim7.holds Tryd.pinned (.plain (OpenSpec.ofChange codeGetsSpec)) codeGetsCard

/-- THE TIED CARD OF 'scrivenerlaw02.CodeNobody'. -/
def codeNobodyCard : Claim7 := { stood := { row := codeNobodyRow, standIns := [], harness := (true, "edd5d74881f6aaa87d98269efb18cdb6bf971e7f89a74cf13431b234144a619f"), looks := true }, kinds := [], alts := [], laidByText := true, laidKinds := [.sentinel], laidTests := true, laidLooks := .later }
def CodeNobodyCardSaid : Prop := Claim7.holds Tryd.pinned (.plain (OpenSpec.ofChange codeNobodySpec)) codeNobodyCard

/-- THE TIED CARD OF 'scrivenerlaw02.CodeTwo'. -/
def codeTwoCard : Claim7 := { stood := { row := codeTwoRow, standIns := [], harness := (true, "edd5d74881f6aaa87d98269efb18cdb6bf971e7f89a74cf13431b234144a619f"), looks := true }, kinds := [], alts := [], laidByText := true, laidKinds := [.sentinel], laidTests := true, laidLooks := .later }
def CodeTwoCardSaid : Prop := Claim7.holds Tryd.pinned (.plain (OpenSpec.ofChange codeTwoSpec)) codeTwoCard

/-- THE TIED CARD OF 'scrivenerlaw02.CodeBehind'. -/
def codeBehindCard : Claim7 := { stood := { row := codeBehindRow, standIns := [], harness := (true, "edd5d74881f6aaa87d98269efb18cdb6bf971e7f89a74cf13431b234144a619f"), looks := true }, kinds := [], alts := [], laidByText := true, laidKinds := [.sentinel], laidTests := true, laidLooks := .later }
def CodeBehindCardSaid : Prop := Claim7.holds Tryd.pinned (.plain (OpenSpec.ofChange codeBehindSpec)) codeBehindCard

/-- THE TIED CARD OF 'scrivenerlaw02.CodeStays'. -/
def codeStaysCard : Claim7 := { stood := { row := codeStaysRow, standIns := [], harness := (true, "edd5d74881f6aaa87d98269efb18cdb6bf971e7f89a74cf13431b234144a619f"), looks := true }, kinds := [], alts := [], laidByText := true, laidKinds := [.sentinel], laidTests := true, laidLooks := .later }
def CodeStaysCardSaid : Prop := Claim7.holds Tryd.pinned (.plain (OpenSpec.ofChange codeStaysSpec)) codeStaysCard

/-- THE TIED CARD OF 'scrivenerlaw24.WireDecodes'. -/
def wireDecodesCard : Claim7 := { stood := { row := wireDecodesRow, standIns := [], harness := (true, "edd5d74881f6aaa87d98269efb18cdb6bf971e7f89a74cf13431b234144a619f"), looks := true }, kinds := [], alts := [], laidByText := true, laidKinds := [.sentinel], laidTests := true, laidLooks := .later }
def WireDecodesCardSaid : Prop := Claim7.holds Tryd.pinned (.plain (OpenSpec.ofChange wireDecodesSpec)) wireDecodesCard

/-- THE TIED CARD OF 'scrivenerlaw24.WireBack'. -/
def wireBackCard : Claim7 := { stood := { row := wireBackRow, standIns := [], harness := (true, "edd5d74881f6aaa87d98269efb18cdb6bf971e7f89a74cf13431b234144a619f"), looks := true }, kinds := [], alts := [], laidByText := true, laidKinds := [.sentinel], laidTests := true, laidLooks := .later }
def WireBackCardSaid : Prop := Claim7.holds Tryd.pinned (.plain (OpenSpec.ofChange wireBackSpec)) wireBackCard

/-- THE TIED CARD OF 'scrivenerlaw24.WireSpoilt'. -/
def wireSpoiltCard : Claim7 := { stood := { row := wireSpoiltRow, standIns := [], harness := (true, "edd5d74881f6aaa87d98269efb18cdb6bf971e7f89a74cf13431b234144a619f"), looks := true }, kinds := [], alts := [], laidByText := true, laidKinds := [.sentinel], laidTests := true, laidLooks := .later }
def WireSpoiltCardSaid : Prop := Claim7.holds Tryd.pinned (.plain (OpenSpec.ofChange wireSpoiltSpec)) wireSpoiltCard

/-- THE TIED CARD OF 'scrivenerlaw24.WireEncodes'. -/
def wireEncodesCard : Claim7 := { stood := { row := wireEncodesRow, standIns := [], harness := (true, "edd5d74881f6aaa87d98269efb18cdb6bf971e7f89a74cf13431b234144a619f"), looks := true }, kinds := [], alts := [], laidByText := true, laidKinds := [.sentinel], laidTests := true, laidLooks := .later }
def WireEncodesCardSaid : Prop := Claim7.holds Tryd.pinned (.plain (OpenSpec.ofChange wireEncodesSpec)) wireEncodesCard

/-- THE SECOND FORM's CARD OF 'scrivenerlaw02.CodePuts'. -/
def codePutsUptoCard : Claim7 := { stood := { row := codePutsUptoRow, standIns := [], harness := (true, "edd5d74881f6aaa87d98269efb18cdb6bf971e7f89a74cf13431b234144a619f"), looks := true }, kinds := [], alts := [], laidByText := true, laidKinds := [.sentinel], laidTests := true, laidLooks := .later }
def CodePutsUptoCardSaid : Prop := Claim7.holds Tryd.pinned (.plain (OpenSpec.upto codePutsSpec)) codePutsUptoCard

/-- THE SECOND FORM's CARD OF 'scrivenerlaw02.CodeEach'. -/
def codeEachUptoCard : Claim7 := { stood := { row := codeEachUptoRow, standIns := [], harness := (true, "edd5d74881f6aaa87d98269efb18cdb6bf971e7f89a74cf13431b234144a619f"), looks := true }, kinds := [], alts := [], laidByText := true, laidKinds := [.sentinel], laidTests := true, laidLooks := .later }
def CodeEachUptoCardSaid : Prop := Claim7.holds Tryd.pinned (.plain (OpenSpec.upto codeEachSpec)) codeEachUptoCard

/-- THE SECOND FORM's CARD OF 'scrivenerlaw02.CodeGets'. -/
def codeGetsUptoCard : Claim7 := { stood := { row := codeGetsUptoRow, standIns := [], harness := (true, "edd5d74881f6aaa87d98269efb18cdb6bf971e7f89a74cf13431b234144a619f"), looks := true }, kinds := [], alts := [], laidByText := true, laidKinds := [.sentinel], laidTests := true, laidLooks := .later }
def CodeGetsUptoCardSaid : Prop := Claim7.holds Tryd.pinned (.plain (OpenSpec.upto codeGetsSpec)) codeGetsUptoCard

/-- THE SECOND FORM's CARD OF 'scrivenerlaw02.CodeNobody'. -/
def codeNobodyUptoCard : Claim7 := { stood := { row := codeNobodyUptoRow, standIns := [], harness := (true, "edd5d74881f6aaa87d98269efb18cdb6bf971e7f89a74cf13431b234144a619f"), looks := true }, kinds := [], alts := [], laidByText := true, laidKinds := [.sentinel], laidTests := true, laidLooks := .later }
def CodeNobodyUptoCardSaid : Prop := Claim7.holds Tryd.pinned (.plain (OpenSpec.upto codeNobodySpec)) codeNobodyUptoCard

/-- THE SECOND FORM's CARD OF 'scrivenerlaw02.CodeTwo'. -/
def codeTwoUptoCard : Claim7 := { stood := { row := codeTwoUptoRow, standIns := [], harness := (true, "edd5d74881f6aaa87d98269efb18cdb6bf971e7f89a74cf13431b234144a619f"), looks := true }, kinds := [], alts := [], laidByText := true, laidKinds := [.sentinel], laidTests := true, laidLooks := .later }
def CodeTwoUptoCardSaid : Prop := Claim7.holds Tryd.pinned (.plain (OpenSpec.upto codeTwoSpec)) codeTwoUptoCard

/-- THE SECOND FORM's CARD OF 'scrivenerlaw02.CodeBehind'. -/
def codeBehindUptoCard : Claim7 := { stood := { row := codeBehindUptoRow, standIns := [], harness := (true, "edd5d74881f6aaa87d98269efb18cdb6bf971e7f89a74cf13431b234144a619f"), looks := true }, kinds := [], alts := [], laidByText := true, laidKinds := [.sentinel], laidTests := true, laidLooks := .later }
def CodeBehindUptoCardSaid : Prop := Claim7.holds Tryd.pinned (.plain (OpenSpec.upto codeBehindSpec)) codeBehindUptoCard

/-- THE SECOND FORM's CARD OF 'scrivenerlaw02.CodeStays'. -/
def codeStaysUptoCard : Claim7 := { stood := { row := codeStaysUptoRow, standIns := [], harness := (true, "edd5d74881f6aaa87d98269efb18cdb6bf971e7f89a74cf13431b234144a619f"), looks := true }, kinds := [], alts := [], laidByText := true, laidKinds := [.sentinel], laidTests := true, laidLooks := .later }
def CodeStaysUptoCardSaid : Prop := Claim7.holds Tryd.pinned (.plain (OpenSpec.upto codeStaysSpec)) codeStaysUptoCard

/-- THE SECOND FORM's CARD OF 'scrivenerlaw24.WireDecodes'. -/
def wireDecodesUptoCard : Claim7 := { stood := { row := wireDecodesUptoRow, standIns := [], harness := (true, "edd5d74881f6aaa87d98269efb18cdb6bf971e7f89a74cf13431b234144a619f"), looks := true }, kinds := [], alts := [], laidByText := true, laidKinds := [.sentinel], laidTests := true, laidLooks := .later }
def WireDecodesUptoCardSaid : Prop := Claim7.holds Tryd.pinned (.plain (OpenSpec.upto wireDecodesSpec)) wireDecodesUptoCard

/-- THE SECOND FORM's CARD OF 'scrivenerlaw24.WireBack'. -/
def wireBackUptoCard : Claim7 := { stood := { row := wireBackUptoRow, standIns := [], harness := (true, "edd5d74881f6aaa87d98269efb18cdb6bf971e7f89a74cf13431b234144a619f"), looks := true }, kinds := [], alts := [], laidByText := true, laidKinds := [.sentinel], laidTests := true, laidLooks := .later }
def WireBackUptoCardSaid : Prop := Claim7.holds Tryd.pinned (.plain (OpenSpec.upto wireBackSpec)) wireBackUptoCard

/-- THE SECOND FORM's CARD OF 'scrivenerlaw24.WireSpoilt'. -/
def wireSpoiltUptoCard : Claim7 := { stood := { row := wireSpoiltUptoRow, standIns := [], harness := (true, "edd5d74881f6aaa87d98269efb18cdb6bf971e7f89a74cf13431b234144a619f"), looks := true }, kinds := [], alts := [], laidByText := true, laidKinds := [.sentinel], laidTests := true, laidLooks := .later }
def WireSpoiltUptoCardSaid : Prop := Claim7.holds Tryd.pinned (.plain (OpenSpec.upto wireSpoiltSpec)) wireSpoiltUptoCard

/-- THE SECOND FORM's CARD OF 'scrivenerlaw24.WireEncodes'. -/
def wireEncodesUptoCard : Claim7 := { stood := { row := wireEncodesUptoRow, standIns := [], harness := (true, "edd5d74881f6aaa87d98269efb18cdb6bf971e7f89a74cf13431b234144a619f"), looks := true }, kinds := [], alts := [], laidByText := true, laidKinds := [.sentinel], laidTests := true, laidLooks := .later }
def WireEncodesUptoCardSaid : Prop := Claim7.holds Tryd.pinned (.plain (OpenSpec.upto wireEncodesSpec)) wireEncodesUptoCard
end Rows
end Go.Proofs.YtbbikkncobgabaaDoor
