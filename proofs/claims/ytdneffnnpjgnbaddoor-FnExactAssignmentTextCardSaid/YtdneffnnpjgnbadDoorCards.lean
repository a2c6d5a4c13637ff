/-
  DERIVED. GIVEN WITH THE SEED: THE CARDS: each row of YtdneffnnpjgnbadDoorRows.lean that lists a variable, with what it lists TIED to the program's text (the seventh form; the later family's looks); each row that meets fmt, with fmt's text TOLD by the authors' own Lean function (tested against real Go, not proved from fmt's source: count such statements apart). THE CARD IS WHAT COUNTS. Prove the row's statement (the work); the ties are given (YtdneffnnpjgnbadDoorTie.lean); close each card by the builder's one call (the guide's Derived/Test/ToyasCard.lean, 'card_holds'). Laid BY PROGRAM, IN A SANDBOX (cutbox-door.mjs). By AI agents, Wed Nov 11 2026. No macro, syntax, notation, axiom, sorry.
-/
import Derived.Test.YtdneffnnpjgnbadDoorRows
import GoSem.ClaimSeven
namespace Go.Proofs.YtdneffnnpjgnbadDoor
namespace Rows

/-- THE TIED CARD OF 'laws.FnExactAssignmentText'. -/
def fnExactAssignmentTextCard : Claim7 := { stood := { row := fnExactAssignmentTextRow, standIns := [], harness := (true, "2df8cee55313a1abd90527c50967ebaf96c9e4fcc7f041e08dd0b08fe91b2bc9"), looks := false }, kinds := [], alts := [], laidByText := true, laidKinds := [.data, .data, .data], laidTests := true, laidLooks := .later }
def FnExactAssignmentTextCardSaid : Prop := Claim7.holds Tryd.pinned (.plain (OpenSpec.ofChange fnExactAssignmentTextSpec)) fnExactAssignmentTextCard

/-- THE SECOND FORM's CARD OF 'laws.FnExactAssignmentText'. -/
def fnExactAssignmentTextUptoCard : Claim7 := { stood := { row := fnExactAssignmentTextUptoRow, standIns := [], harness := (true, "2df8cee55313a1abd90527c50967ebaf96c9e4fcc7f041e08dd0b08fe91b2bc9"), looks := false }, kinds := [], alts := [], laidByText := true, laidKinds := [.data, .data, .data], laidTests := true, laidLooks := .later }
def FnExactAssignmentTextUptoCardSaid : Prop := Claim7.holds Tryd.pinned (.plain (OpenSpec.upto fnExactAssignmentTextSpec)) fnExactAssignmentTextUptoCard
end Rows
end Go.Proofs.YtdneffnnpjgnbadDoor
