/-
  DERIVED. GIVEN WITH THE SEED: THE CARDS: each row of YtdneffnnpjgnbacDoorRows.lean that lists a variable, with what it lists TIED to the program's text (the seventh form; the later family's looks); each row that meets fmt, with fmt's text TOLD by the authors' own Lean function (tested against real Go, not proved from fmt's source: count such statements apart). THE CARD IS WHAT COUNTS. Prove the row's statement (the work); the ties are given (YtdneffnnpjgnbacDoorTie.lean); close each card by the builder's one call (the guide's Derived/Test/ToyasCard.lean, 'card_holds'). Laid BY PROGRAM, IN A SANDBOX (cutbox-door.mjs). By AI agents, Wed Nov 11 2026. No macro, syntax, notation, axiom, sorry.
-/
import Derived.Test.YtdneffnnpjgnbacDoorRows
import GoSem.ClaimSeven
namespace Go.Proofs.YtdneffnnpjgnbacDoor
namespace Rows

/-- THE TIED CARD OF 'laws.FnExactModelText'. -/
def fnExactModelTextCard : Claim7 := { stood := { row := fnExactModelTextRow, standIns := [], harness := (true, "2e68dbd271dbd86876f4c308c85642908588c14e2e624799e8e28ddbf245ceb0"), looks := true }, kinds := [], alts := [], laidByText := true, laidKinds := [.data, .data, .data], laidTests := true, laidLooks := .later }
def FnExactModelTextCardSaid : Prop := Claim7.holds Tryd.pinned (.plain (OpenSpec.ofChange fnExactModelTextSpec)) fnExactModelTextCard

/-- THE TIED CARD OF 'laws.FnExactWindowsText'. -/
def fnExactWindowsTextCard : Claim7 := { stood := { row := fnExactWindowsTextRow, standIns := [], harness := (true, "2e68dbd271dbd86876f4c308c85642908588c14e2e624799e8e28ddbf245ceb0"), looks := true }, kinds := [], alts := [], laidByText := true, laidKinds := [.data, .data, .data], laidTests := true, laidLooks := .later }
def FnExactWindowsTextCardSaid : Prop := Claim7.holds Tryd.pinned (.plain (OpenSpec.ofChange fnExactWindowsTextSpec)) fnExactWindowsTextCard

/-- THE TIED CARD OF 'laws.FnExactReadWindows'. -/
def fnExactReadWindowsCard : Claim7 := { stood := { row := fnExactReadWindowsRow, standIns := [], harness := (true, "2e68dbd271dbd86876f4c308c85642908588c14e2e624799e8e28ddbf245ceb0"), looks := true }, kinds := [], alts := [], laidByText := true, laidKinds := [.data, .data, .data, .sentinel, .sentinel], laidTests := true, laidLooks := .later }
def FnExactReadWindowsCardSaid : Prop := Claim7.holds Tryd.pinned (.plain (OpenSpec.ofChange fnExactReadWindowsSpec)) fnExactReadWindowsCard

/-- THE TIED CARD OF 'laws.FnExactExtremumText'. -/
def fnExactExtremumTextCard : Claim7 := { stood := { row := fnExactExtremumTextRow, standIns := [], harness := (true, "2e68dbd271dbd86876f4c308c85642908588c14e2e624799e8e28ddbf245ceb0"), looks := true }, kinds := [], alts := [], laidByText := true, laidKinds := [.data, .data, .data], laidTests := true, laidLooks := .later }
def FnExactExtremumTextCardSaid : Prop := Claim7.holds Tryd.pinned (.plain (OpenSpec.ofChange fnExactExtremumTextSpec)) fnExactExtremumTextCard

/-- THE SECOND FORM's CARD OF 'laws.FnExactModelText'. -/
def fnExactModelTextUptoCard : Claim7 := { stood := { row := fnExactModelTextUptoRow, standIns := [], harness := (true, "2e68dbd271dbd86876f4c308c85642908588c14e2e624799e8e28ddbf245ceb0"), looks := true }, kinds := [], alts := [], laidByText := true, laidKinds := [.data, .data, .data], laidTests := true, laidLooks := .later }
def FnExactModelTextUptoCardSaid : Prop := Claim7.holds Tryd.pinned (.plain (OpenSpec.upto fnExactModelTextSpec)) fnExactModelTextUptoCard

/-- THE SECOND FORM's CARD OF 'laws.FnExactWindowsText'. -/
def fnExactWindowsTextUptoCard : Claim7 := { stood := { row := fnExactWindowsTextUptoRow, standIns := [], harness := (true, "2e68dbd271dbd86876f4c308c85642908588c14e2e624799e8e28ddbf245ceb0"), looks := true }, kinds := [], alts := [], laidByText := true, laidKinds := [.data, .data, .data], laidTests := true, laidLooks := .later }
def FnExactWindowsTextUptoCardSaid : Prop := Claim7.holds Tryd.pinned (.plain (OpenSpec.upto fnExactWindowsTextSpec)) fnExactWindowsTextUptoCard

/-- THE SECOND FORM's CARD OF 'laws.FnExactReadWindows'. -/
def fnExactReadWindowsUptoCard : Claim7 := { stood := { row := fnExactReadWindowsUptoRow, standIns := [], harness := (true, "2e68dbd271dbd86876f4c308c85642908588c14e2e624799e8e28ddbf245ceb0"), looks := true }, kinds := [], alts := [], laidByText := true, laidKinds := [.data, .data, .data, .sentinel, .sentinel], laidTests := true, laidLooks := .later }
def FnExactReadWindowsUptoCardSaid : Prop := Claim7.holds Tryd.pinned (.plain (OpenSpec.upto fnExactReadWindowsSpec)) fnExactReadWindowsUptoCard

/-- THE SECOND FORM's CARD OF 'laws.FnExactExtremumText'. -/
def fnExactExtremumTextUptoCard : Claim7 := { stood := { row := fnExactExtremumTextUptoRow, standIns := [], harness := (true, "2e68dbd271dbd86876f4c308c85642908588c14e2e624799e8e28ddbf245ceb0"), looks := true }, kinds := [], alts := [], laidByText := true, laidKinds := [.data, .data, .data], laidTests := true, laidLooks := .later }
def FnExactExtremumTextUptoCardSaid : Prop := Claim7.holds Tryd.pinned (.plain (OpenSpec.upto fnExactExtremumTextSpec)) fnExactExtremumTextUptoCard
end Rows
end Go.Proofs.YtdneffnnpjgnbacDoor
