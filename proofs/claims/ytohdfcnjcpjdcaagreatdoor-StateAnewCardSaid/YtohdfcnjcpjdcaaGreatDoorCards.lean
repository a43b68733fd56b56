/-
  DERIVED. GIVEN WITH THE SEED: THE CARDS: each row of YtohdfcnjcpjdcaaGreatDoorRows.lean that lists a variable, with what it lists TIED to the program's text (the seventh form; the later family's looks); each row that meets fmt, with fmt's text TOLD by the authors' own Lean function (tested against real Go, not proved from fmt's source: count such statements apart). THE CARD IS WHAT COUNTS. Prove the row's statement (the work); the ties are given (YtohdfcnjcpjdcaaGreatDoorTie.lean); close each card by the builder's one call (the guide's Derived/Test/ToyasCard.lean, 'card_holds'). Laid BY PROGRAM, IN A SANDBOX (cutbox-door.mjs). By AI agents, Wed Nov 11 2026. No macro, syntax, notation, axiom, sorry.
-/
import Derived.Test.YtohdfcnjcpjdcaaGreatDoorRows
import GoSem.ClaimSeven
namespace Go.Proofs.YtohdfcnjcpjdcaaGreatDoor
namespace Rows

/-- THE TIED CARD OF 'icehousekeep.RecordsBack'. -/
def recordsBackCard : Claim7 := { stood := { row := recordsBackRow, standIns := [], harness := (true, "b1273d36e549ddd84ce01586f3947262fae5716eba63f68dbba77a04ce9a6bbb"), looks := false }, kinds := [], alts := [], laidByText := true, laidKinds := [.data], laidTests := true, laidLooks := .later }
def RecordsBackCardSaid : Prop := Claim7.holds Tryz.pinned (.plain (OpenSpec.ofChange recordsBackSpec)) recordsBackCard

/-- THE TIED CARD OF 'icehousekeep.StateAnew'. -/
def stateAnewCard : Claim7 := { stood := { row := stateAnewRow, standIns := [], harness := (true, "b1273d36e549ddd84ce01586f3947262fae5716eba63f68dbba77a04ce9a6bbb"), looks := false }, kinds := [], alts := [], laidByText := true, laidKinds := [.data], laidTests := true, laidLooks := .later }
def StateAnewCardSaid : Prop := Claim7.holds Tryz.pinned (.plain (OpenSpec.ofChange stateAnewSpec)) stateAnewCard

/-- THE SECOND FORM's CARD OF 'icehousekeep.RecordsBack'. -/
def recordsBackUptoCard : Claim7 := { stood := { row := recordsBackUptoRow, standIns := [], harness := (true, "b1273d36e549ddd84ce01586f3947262fae5716eba63f68dbba77a04ce9a6bbb"), looks := false }, kinds := [], alts := [], laidByText := true, laidKinds := [.data], laidTests := true, laidLooks := .later }
def RecordsBackUptoCardSaid : Prop := Claim7.holds Tryz.pinned (.plain (OpenSpec.upto recordsBackSpec)) recordsBackUptoCard

/-- THE SECOND FORM's CARD OF 'icehousekeep.StateAnew'. -/
def stateAnewUptoCard : Claim7 := { stood := { row := stateAnewUptoRow, standIns := [], harness := (true, "b1273d36e549ddd84ce01586f3947262fae5716eba63f68dbba77a04ce9a6bbb"), looks := false }, kinds := [], alts := [], laidByText := true, laidKinds := [.data], laidTests := true, laidLooks := .later }
def StateAnewUptoCardSaid : Prop := Claim7.holds Tryz.pinned (.plain (OpenSpec.upto stateAnewSpec)) stateAnewUptoCard
end Rows
end Go.Proofs.YtohdfcnjcpjdcaaGreatDoor
