/- Lemmas and contracts for a law, put together out of several texts: DgH. -/
import Derived.Test.YtbemodacpimiiaaGreatMg3
/- Contracts: diagrams whose values are made of those of two others, in the program. -/
namespace Go.Proofs.YtbemodacpimiiaaGreat
open Go.RowKit

/- left out: the seat has no impl.AndDiagrams$1 -/

/- left out: the seat has no impl.AndDiagrams$1 -/

/- left out: the seat has no impl.OrDiagrams$1 -/

/- left out: the seat has no impl.OrDiagrams$1 -/

/- left out: the seat has no impl.NotDiagram$1 -/

/- left out: the seat has no impl.NotDiagram$1 -/

/- left out: the seat has no impl.AndDiagrams$1 -/

/- left out: the seat has no impl.OrDiagrams$1 -/

/- left out: the seat has no impl.NotDiagram$1 -/

end Go.Proofs.YtbemodacpimiiaaGreat
