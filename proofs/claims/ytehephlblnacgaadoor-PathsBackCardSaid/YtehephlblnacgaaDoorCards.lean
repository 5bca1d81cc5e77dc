/-
  DERIVED. GIVEN WITH THE SEED: THE CARDS: each row of YtehephlblnacgaaDoorRows.lean that lists a variable, with what it lists TIED to the program's text (the seventh form; the later family's looks); each row that meets fmt, with fmt's text TOLD by the authors' own Lean function (tested against real Go, not proved from fmt's source: count such statements apart). THE CARD IS WHAT COUNTS. Prove the row's statement (the work); the ties are given (YtehephlblnacgaaDoorTie.lean); close each card by the builder's one call (the guide's Derived/Test/ToyasCard.lean, 'card_holds'). Laid BY PROGRAM, IN A SANDBOX (cutbox-door.mjs). By AI agents, Wed Nov 11 2026. No macro, syntax, notation, axiom, sorry.
-/
import Derived.Test.YtehephlblnacgaaDoorRows
import GoSem.ClaimSeven
namespace Go.Proofs.YtehephlblnacgaaDoor
namespace Rows

/-- THE TIED CARD OF 'hearsaylaw04.PathsCheck'. -/
def pathsCheckCard : Claim7 := { stood := { row := pathsCheckRow, standIns := [], harness := (true, "104359a8103812cd7cd58d28cc707a546438013fc06409059cf43432002edf67"), looks := false }, kinds := [], alts := [], laidByText := true, laidKinds := [.data, .pinned], laidTests := true, laidLooks := .later }
def PathsCheckCardSaid : Prop := Claim7.holds Tryd.pinned (.plain (OpenSpec.ofChange pathsCheckSpec)) pathsCheckCard

/-- THE TIED CARD OF 'hearsaylaw04.PathsOrder'. -/
def pathsOrderCard : Claim7 := { stood := { row := pathsOrderRow, standIns := [], harness := (true, "104359a8103812cd7cd58d28cc707a546438013fc06409059cf43432002edf67"), looks := false }, kinds := [], alts := [], laidByText := true, laidKinds := [.data, .pinned], laidTests := true, laidLooks := .later }
def PathsOrderCardSaid : Prop := Claim7.holds Tryd.pinned (.plain (OpenSpec.ofChange pathsOrderSpec)) pathsOrderCard

/-- THE TIED CARD OF 'hearsaylaw04.PathsRow'. -/
def pathsRowCard : Claim7 := { stood := { row := pathsRowRow, standIns := [], harness := (true, "104359a8103812cd7cd58d28cc707a546438013fc06409059cf43432002edf67"), looks := false }, kinds := [], alts := [], laidByText := true, laidKinds := [.data, .pinned], laidTests := true, laidLooks := .later }
def PathsRowCardSaid : Prop := Claim7.holds Tryd.pinned (.plain (OpenSpec.ofChange pathsRowSpec)) pathsRowCard

/-- THE TIED CARD OF 'hearsaylaw04.PathsTogether'. -/
def pathsTogetherCard : Claim7 := { stood := { row := pathsTogetherRow, standIns := [], harness := (true, "104359a8103812cd7cd58d28cc707a546438013fc06409059cf43432002edf67"), looks := false }, kinds := [], alts := [], laidByText := true, laidKinds := [.data, .pinned], laidTests := true, laidLooks := .later }
def PathsTogetherCardSaid : Prop := Claim7.holds Tryd.pinned (.plain (OpenSpec.ofChange pathsTogetherSpec)) pathsTogetherCard

/-- THE TIED CARD OF 'hearsaylaw04.PathsJoin'. -/
def pathsJoinCard : Claim7 := { stood := { row := pathsJoinRow, standIns := [], harness := (true, "104359a8103812cd7cd58d28cc707a546438013fc06409059cf43432002edf67"), looks := false }, kinds := [], alts := [], laidByText := true, laidKinds := [.data, .pinned], laidTests := true, laidLooks := .later }
def PathsJoinCardSaid : Prop := Claim7.holds Tryd.pinned (.plain (OpenSpec.ofChange pathsJoinSpec)) pathsJoinCard

/-- THE TIED CARD OF 'hearsaylaw04.PathsBack'. -/
def pathsBackCard : Claim7 := { stood := { row := pathsBackRow, standIns := [], harness := (true, "104359a8103812cd7cd58d28cc707a546438013fc06409059cf43432002edf67"), looks := false }, kinds := [], alts := [], laidByText := true, laidKinds := [.data, .pinned], laidTests := true, laidLooks := .later }
def PathsBackCardSaid : Prop := Claim7.holds Tryd.pinned (.plain (OpenSpec.ofChange pathsBackSpec)) pathsBackCard

/-- THE SECOND FORM's CARD OF 'hearsaylaw04.PathsCheck'. -/
def pathsCheckUptoCard : Claim7 := { stood := { row := pathsCheckUptoRow, standIns := [], harness := (true, "104359a8103812cd7cd58d28cc707a546438013fc06409059cf43432002edf67"), looks := false }, kinds := [], alts := [], laidByText := true, laidKinds := [.data, .pinned], laidTests := true, laidLooks := .later }
def PathsCheckUptoCardSaid : Prop := Claim7.holds Tryd.pinned (.plain (OpenSpec.upto pathsCheckSpec)) pathsCheckUptoCard

/-- THE SECOND FORM's CARD OF 'hearsaylaw04.PathsOrder'. -/
def pathsOrderUptoCard : Claim7 := { stood := { row := pathsOrderUptoRow, standIns := [], harness := (true, "104359a8103812cd7cd58d28cc707a546438013fc06409059cf43432002edf67"), looks := false }, kinds := [], alts := [], laidByText := true, laidKinds := [.data, .pinned], laidTests := true, laidLooks := .later }
def PathsOrderUptoCardSaid : Prop := Claim7.holds Tryd.pinned (.plain (OpenSpec.upto pathsOrderSpec)) pathsOrderUptoCard

/-- THE SECOND FORM's CARD OF 'hearsaylaw04.PathsRow'. -/
def pathsRowUptoCard : Claim7 := { stood := { row := pathsRowUptoRow, standIns := [], harness := (true, "104359a8103812cd7cd58d28cc707a546438013fc06409059cf43432002edf67"), looks := false }, kinds := [], alts := [], laidByText := true, laidKinds := [.data, .pinned], laidTests := true, laidLooks := .later }
def PathsRowUptoCardSaid : Prop := Claim7.holds Tryd.pinned (.plain (OpenSpec.upto pathsRowSpec)) pathsRowUptoCard

/-- THE SECOND FORM's CARD OF 'hearsaylaw04.PathsTogether'. -/
def pathsTogetherUptoCard : Claim7 := { stood := { row := pathsTogetherUptoRow, standIns := [], harness := (true, "104359a8103812cd7cd58d28cc707a546438013fc06409059cf43432002edf67"), looks := false }, kinds := [], alts := [], laidByText := true, laidKinds := [.data, .pinned], laidTests := true, laidLooks := .later }
def PathsTogetherUptoCardSaid : Prop := Claim7.holds Tryd.pinned (.plain (OpenSpec.upto pathsTogetherSpec)) pathsTogetherUptoCard

/-- THE SECOND FORM's CARD OF 'hearsaylaw04.PathsJoin'. -/
def pathsJoinUptoCard : Claim7 := { stood := { row := pathsJoinUptoRow, standIns := [], harness := (true, "104359a8103812cd7cd58d28cc707a546438013fc06409059cf43432002edf67"), looks := false }, kinds := [], alts := [], laidByText := true, laidKinds := [.data, .pinned], laidTests := true, laidLooks := .later }
def PathsJoinUptoCardSaid : Prop := Claim7.holds Tryd.pinned (.plain (OpenSpec.upto pathsJoinSpec)) pathsJoinUptoCard

/-- THE SECOND FORM's CARD OF 'hearsaylaw04.PathsBack'. -/
def pathsBackUptoCard : Claim7 := { stood := { row := pathsBackUptoRow, standIns := [], harness := (true, "104359a8103812cd7cd58d28cc707a546438013fc06409059cf43432002edf67"), looks := false }, kinds := [], alts := [], laidByText := true, laidKinds := [.data, .pinned], laidTests := true, laidLooks := .later }
def PathsBackUptoCardSaid : Prop := Claim7.holds Tryd.pinned (.plain (OpenSpec.upto pathsBackSpec)) pathsBackUptoCard
end Rows
end Go.Proofs.YtehephlblnacgaaDoor
