/-
  DERIVED. GIVEN WITH THE SEED: THE CARDS: each row of YtfplffnblajefaaGreatDoorRows.lean that lists a variable, with what it lists TIED to the program's text (the seventh form; the later family's looks); each row that meets fmt, with fmt's text TOLD by the authors' own Lean function (tested against real Go, not proved from fmt's source: count such statements apart). THE CARD IS WHAT COUNTS. Prove the row's statement (the work); the ties are given (YtfplffnblajefaaGreatDoorTie.lean); close each card by the builder's one call (the guide's Derived/Test/ToyasCard.lean, 'card_holds'). Laid BY PROGRAM, IN A SANDBOX (cutbox-door.mjs). By AI agents, Wed Nov 11 2026. No macro, syntax, notation, axiom, sorry.
-/
import Derived.Test.YtfplffnblajefaaGreatDoorRows
import GoSem.ClaimSeven
namespace Go.Proofs.YtfplffnblajefaaGreatDoor
namespace Rows

/-- THE TIED CARD OF 'conclavelaw20.CatchupNils'. -/
def catchupNilsCard : Claim7 := { stood := { row := catchupNilsRow, standIns := [], harness := (true, "fb2b5a2c3d6a53c3d6c5784d35c50a359a7964249227cad3a8eb253d44cb56f2"), looks := true }, kinds := [], alts := [], laidByText := true, laidKinds := [.data, .data, .data], laidTests := true, laidLooks := .later }
def CatchupNilsCardSaid : Prop := Claim7.holds Tryz.pinned (.plain (OpenSpec.ofChange catchupNilsSpec)) catchupNilsCard

/-- THE SECOND FORM's CARD OF 'conclavelaw20.CatchupNils'. -/
def catchupNilsUptoCard : Claim7 := { stood := { row := catchupNilsUptoRow, standIns := [], harness := (true, "fb2b5a2c3d6a53c3d6c5784d35c50a359a7964249227cad3a8eb253d44cb56f2"), looks := true }, kinds := [], alts := [], laidByText := true, laidKinds := [.data, .data, .data], laidTests := true, laidLooks := .later }
def CatchupNilsUptoCardSaid : Prop := Claim7.holds Tryz.pinned (.plain (OpenSpec.upto catchupNilsSpec)) catchupNilsUptoCard
end Rows
end Go.Proofs.YtfplffnblajefaaGreatDoor
