/- A row of zero values that the call makes. Names no program. Conditions: as each law states them. -/
import Derived.Test.YtohdfcnjcpjdcaaGreatDoorPAq
import Derived.Deep.OwnRows
namespace Go.Proofs.YtohdfcnjcpjdcaaGreatDoor
open Go.RowKit
set_option linter.unusedSimpArgs false
section
variable {P : Program} {E : Env} {σ : St} {o : Oper}
end
end Go.Proofs.YtohdfcnjcpjdcaaGreatDoor
