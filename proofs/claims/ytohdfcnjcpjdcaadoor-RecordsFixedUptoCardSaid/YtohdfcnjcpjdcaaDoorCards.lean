/-
  DERIVED. GIVEN WITH THE SEED: THE CARDS: each row of YtohdfcnjcpjdcaaDoorRows.lean that lists a variable, with what it lists TIED to the program's text (the seventh form; the later family's looks); each row that meets fmt, with fmt's text TOLD by the authors' own Lean function (tested against real Go, not proved from fmt's source: count such statements apart). THE CARD IS WHAT COUNTS. Prove the row's statement (the work); the ties are given (YtohdfcnjcpjdcaaDoorTie.lean); close each card by the builder's one call (the guide's Derived/Test/ToyasCard.lean, 'card_holds'). Laid BY PROGRAM, IN A SANDBOX (cutbox-door.mjs). By AI agents, Wed Nov 11 2026. No macro, syntax, notation, axiom, sorry.
-/
import Derived.Test.YtohdfcnjcpjdcaaDoorRows
import GoSem.ClaimSeven
namespace Go.Proofs.YtohdfcnjcpjdcaaDoor
namespace Rows

/-- THE TIED CARD OF 'icehousekeep.RecordBare'. -/
def recordBareCard : Claim7 := { stood := { row := recordBareRow, standIns := [], harness := (true, "c6ecd2e6e1d92535acf82d64c439c6c25f966199b72910d1a16bef4c17f3a214"), looks := false }, kinds := [], alts := [], laidByText := true, laidKinds := [.data], laidTests := true, laidLooks := .later }
def RecordBareCardSaid : Prop := Claim7.holds Tryd.pinned (.plain (OpenSpec.ofChange recordBareSpec)) recordBareCard

/-- THE TIED CARD OF 'icehousekeep.RecordsFixed'. -/
def recordsFixedCard : Claim7 := { stood := { row := recordsFixedRow, standIns := [], harness := (true, "c6ecd2e6e1d92535acf82d64c439c6c25f966199b72910d1a16bef4c17f3a214"), looks := false }, kinds := [], alts := [], laidByText := true, laidKinds := [.data], laidTests := true, laidLooks := .later }
def RecordsFixedCardSaid : Prop := Claim7.holds Tryd.pinned (.plain (OpenSpec.ofChange recordsFixedSpec)) recordsFixedCard

/-- THE SECOND FORM's CARD OF 'icehousekeep.RecordBare'. -/
def recordBareUptoCard : Claim7 := { stood := { row := recordBareUptoRow, standIns := [], harness := (true, "c6ecd2e6e1d92535acf82d64c439c6c25f966199b72910d1a16bef4c17f3a214"), looks := false }, kinds := [], alts := [], laidByText := true, laidKinds := [.data], laidTests := true, laidLooks := .later }
def RecordBareUptoCardSaid : Prop := Claim7.holds Tryd.pinned (.plain (OpenSpec.upto recordBareSpec)) recordBareUptoCard

/-- THE SECOND FORM's CARD OF 'icehousekeep.RecordsFixed'. -/
def recordsFixedUptoCard : Claim7 := { stood := { row := recordsFixedUptoRow, standIns := [], harness := (true, "c6ecd2e6e1d92535acf82d64c439c6c25f966199b72910d1a16bef4c17f3a214"), looks := false }, kinds := [], alts := [], laidByText := true, laidKinds := [.data], laidTests := true, laidLooks := .later }
def RecordsFixedUptoCardSaid : Prop := Claim7.holds Tryd.pinned (.plain (OpenSpec.upto recordsFixedSpec)) recordsFixedUptoCard
end Rows
end Go.Proofs.YtohdfcnjcpjdcaaDoor
