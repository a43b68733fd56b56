/- Records without anything. Conditions: as each law states them. -/
import Derived.Test.YtohdfcnjcpjdcaaDoorS1q
namespace Go.Proofs.YtohdfcnjcpjdcaaDoor
open Go.RowKit
set_option linter.unusedSimpArgs false
def noV : Ver := ⟨0, ⟨#[]⟩, ⟨#[]⟩, false, false, 0, 0, 0, [], 0, 0, 0⟩
def rec0 (k : Int) : Rec := ⟨k, 0, 0, ⟨#[]⟩, ⟨#[]⟩, ⟨⟨#[]⟩, 0, 0⟩, noV, ⟨0, 0, 0⟩, ⟨0, 0, []⟩, [], 0, 0⟩
end Go.Proofs.YtohdfcnjcpjdcaaDoor
