/- A record's cells. Conditions: as each law states them. -/
import Derived.Test.YtohdfcnjcpjdcaaDoorS1q
import Derived.Test.YtohdfcnjcpjdcaaDoorS26q
namespace Go.Proofs.YtohdfcnjcpjdcaaDoor
open Go.RowKit
set_option linter.unusedSimpArgs false
/-- a record's value -/
def recV (r : Rec) (vs ps ss : Value) : List Value := [.int .i64 r.kind, .int .i64 r.id, .int .i64 r.n, .string r.name, .string r.key, .string r.rule.pre, .int .i64 r.rule.freeze, .int .i64 r.rule.drop,
  .int .i64 r.ver.id, .string r.ver.bucket, .string r.ver.key, .bool r.ver.null, .bool r.ver.marker, .int .i64 r.ver.size, .int .i64 r.ver.time, .int .i64 r.ver.tier, vs, .int .i64 r.ver.vol, .int .i64 r.ver.at_, .int .i64 r.ver.till,
  .int .i64 r.ask.ver, .int .i64 r.ask.days, .int .i64 r.ask.cls, .int .i64 r.part.n, .int .i64 r.part.size, ps, ss, .int .i64 r.vol, .int .i64 r.at_]
end Go.Proofs.YtohdfcnjcpjdcaaDoor
