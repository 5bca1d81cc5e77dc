/-
  DERIVED. GIVEN WITH THE SEED: THE CARDS: each row of YtjjdgmabgiembaaDoorRows.lean that lists a variable, with what it lists TIED to the program's text (the seventh form; the later family's looks); each row that meets fmt, with fmt's text TOLD by the authors' own Lean function (tested against real Go, not proved from fmt's source: count such statements apart). THE CARD IS WHAT COUNTS. Prove the row's statement (the work); the ties are given (YtjjdgmabgiembaaDoorTie.lean); close each card by the builder's one call (the guide's Derived/Test/ToyasCard.lean, 'card_holds'). Laid BY PROGRAM, IN A SANDBOX (cutbox-door.mjs). By AI agents, Wed Nov 11 2026. No macro, syntax, notation, axiom, sorry.
-/
import Derived.Test.YtjjdgmabgiembaaDoorRows
import GoSem.ClaimSeven
namespace Go.Proofs.YtjjdgmabgiembaaDoor
namespace Rows

/-- THE TIED CARD OF 'hearsaylaw34.OpsChecks'. -/
def opsChecksCard : Claim7 := { stood := { row := opsChecksRow, standIns := [], harness := (true, "96d5e711f85bf6a817fe2b9e2ce33cad749ba484d126eedc18db8d18f90d7347"), looks := false }, kinds := [], alts := [], laidByText := true, laidKinds := [.data], laidTests := true, laidLooks := .later }
def OpsChecksCardSaid : Prop := Claim7.holds Tryd.pinned (.plain (OpenSpec.ofChange opsChecksSpec)) opsChecksCard

/-- THE TIED CARD OF 'hearsaylaw34.OpsWrites'. -/
def opsWritesCard : Claim7 := { stood := { row := opsWritesRow, standIns := [], harness := (true, "96d5e711f85bf6a817fe2b9e2ce33cad749ba484d126eedc18db8d18f90d7347"), looks := false }, kinds := [], alts := [], laidByText := true, laidKinds := [.data], laidTests := true, laidLooks := .later }
def OpsWritesCardSaid : Prop := Claim7.holds Tryd.pinned (.plain (OpenSpec.ofChange opsWritesSpec)) opsWritesCard

/-- THE TIED CARD OF 'hearsaylaw34.OpsReads'. -/
def opsReadsCard : Claim7 := { stood := { row := opsReadsRow, standIns := [], harness := (true, "96d5e711f85bf6a817fe2b9e2ce33cad749ba484d126eedc18db8d18f90d7347"), looks := false }, kinds := [], alts := [], laidByText := true, laidKinds := [.data], laidTests := true, laidLooks := .later }
def OpsReadsCardSaid : Prop := Claim7.holds Tryd.pinned (.plain (OpenSpec.ofChange opsReadsSpec)) opsReadsCard

/-- THE TIED CARD OF 'hearsaylaw34.OpsBack'. -/
def opsBackCard : Claim7 := { stood := { row := opsBackRow, standIns := [], harness := (true, "96d5e711f85bf6a817fe2b9e2ce33cad749ba484d126eedc18db8d18f90d7347"), looks := false }, kinds := [], alts := [], laidByText := true, laidKinds := [.data], laidTests := true, laidLooks := .later }
def OpsBackCardSaid : Prop := Claim7.holds Tryd.pinned (.plain (OpenSpec.ofChange opsBackSpec)) opsBackCard

/-- THE SECOND FORM's CARD OF 'hearsaylaw34.OpsChecks'. -/
def opsChecksUptoCard : Claim7 := { stood := { row := opsChecksUptoRow, standIns := [], harness := (true, "96d5e711f85bf6a817fe2b9e2ce33cad749ba484d126eedc18db8d18f90d7347"), looks := false }, kinds := [], alts := [], laidByText := true, laidKinds := [.data], laidTests := true, laidLooks := .later }
def OpsChecksUptoCardSaid : Prop := Claim7.holds Tryd.pinned (.plain (OpenSpec.upto opsChecksSpec)) opsChecksUptoCard

/-- THE SECOND FORM's CARD OF 'hearsaylaw34.OpsWrites'. -/
def opsWritesUptoCard : Claim7 := { stood := { row := opsWritesUptoRow, standIns := [], harness := (true, "96d5e711f85bf6a817fe2b9e2ce33cad749ba484d126eedc18db8d18f90d7347"), looks := false }, kinds := [], alts := [], laidByText := true, laidKinds := [.data], laidTests := true, laidLooks := .later }
def OpsWritesUptoCardSaid : Prop := Claim7.holds Tryd.pinned (.plain (OpenSpec.upto opsWritesSpec)) opsWritesUptoCard

/-- THE SECOND FORM's CARD OF 'hearsaylaw34.OpsReads'. -/
def opsReadsUptoCard : Claim7 := { stood := { row := opsReadsUptoRow, standIns := [], harness := (true, "96d5e711f85bf6a817fe2b9e2ce33cad749ba484d126eedc18db8d18f90d7347"), looks := false }, kinds := [], alts := [], laidByText := true, laidKinds := [.data], laidTests := true, laidLooks := .later }
def OpsReadsUptoCardSaid : Prop := Claim7.holds Tryd.pinned (.plain (OpenSpec.upto opsReadsSpec)) opsReadsUptoCard

/-- THE SECOND FORM's CARD OF 'hearsaylaw34.OpsBack'. -/
def opsBackUptoCard : Claim7 := { stood := { row := opsBackUptoRow, standIns := [], harness := (true, "96d5e711f85bf6a817fe2b9e2ce33cad749ba484d126eedc18db8d18f90d7347"), looks := false }, kinds := [], alts := [], laidByText := true, laidKinds := [.data], laidTests := true, laidLooks := .later }
def OpsBackUptoCardSaid : Prop := Claim7.holds Tryd.pinned (.plain (OpenSpec.upto opsBackSpec)) opsBackUptoCard
end Rows
end Go.Proofs.YtjjdgmabgiembaaDoor
