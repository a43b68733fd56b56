/- Conditions: none. -/
import Derived.Test.YtohdfcnjcpjdcaaDoorW16q
namespace Go.Proofs.YtohdfcnjcpjdcaaDoor
end Go.Proofs.YtohdfcnjcpjdcaaDoor
