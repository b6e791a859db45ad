/- Contracts: the bytes of a record, in the reference. -/
import Derived.Test.YtcapiijpfoapkaaDoorStrA
import Derived.Test.YtcapiijpfoapkaaDoorPlC
namespace Go.Proofs.YtcapiijpfoapkaaDoor
open Go.RowKit

/- left out: the seat has no spec.l33Plain -/

/- left out: the seat has no spec.l33Good -/

/- left out: the seat has no spec.IsValidRecord -/

/- left out: the seat has no laws.toLogRecord -/

/- left out: the seat has no laws.szLogRecord -/
end Go.Proofs.YtcapiijpfoapkaaDoor
