/-
  DERIVED. GIVEN WITH THE SEED: THE CARDS: each row of YtehephlblnacgabDoorRows.lean that lists a variable, with what it lists TIED to the program's text (the seventh form; the later family's looks); each row that meets fmt, with fmt's text TOLD by the authors' own Lean function (tested against real Go, not proved from fmt's source: count such statements apart). THE CARD IS WHAT COUNTS. Prove the row's statement (the work); the ties are given (YtehephlblnacgabDoorTie.lean); close each card by the builder's one call (the guide's Derived/Test/ToyasCard.lean, 'card_holds'). Laid BY PROGRAM, IN A SANDBOX (cutbox-door.mjs). By AI agents, Wed Nov 11 2026. No macro, syntax, notation, axiom, sorry.
-/
import Derived.Test.YtehephlblnacgabDoorRows
import GoSem.ClaimSeven
namespace Go.Proofs.YtehephlblnacgabDoor
namespace Rows

/-- THE TIED CARD OF 'hearsaylaw04.PathsUp'. -/
def pathsUpCard : Claim7 := { stood := { row := pathsUpRow, standIns := [], harness := (true, "7f534d5ec96976b846c8c133bfc272fadad325fd39d6ba26b8fda8c8658bec23"), looks := false }, kinds := [], alts := [], laidByText := true, laidKinds := [.data, .pinned], laidTests := true, laidLooks := .later }
def PathsUpCardSaid : Prop := Claim7.holds Tryd.pinned (.plain (OpenSpec.ofChange pathsUpSpec)) pathsUpCard

/-- THE SECOND FORM's CARD OF 'hearsaylaw04.PathsUp'. -/
def pathsUpUptoCard : Claim7 := { stood := { row := pathsUpUptoRow, standIns := [], harness := (true, "7f534d5ec96976b846c8c133bfc272fadad325fd39d6ba26b8fda8c8658bec23"), looks := false }, kinds := [], alts := [], laidByText := true, laidKinds := [.data, .pinned], laidTests := true, laidLooks := .later }
def PathsUpUptoCardSaid : Prop := Claim7.holds Tryd.pinned (.plain (OpenSpec.upto pathsUpSpec)) pathsUpUptoCard
end Rows
end Go.Proofs.YtehephlblnacgabDoor
