/- Lemmas and contracts for a law, put together out of several texts: HlUd. -/
import Derived.Test.YteabiokhbaekpaaMg10
/- Plain facts: a part of all choices, one by one. -/
namespace Go.Proofs.Yteabiokhbaekpaa
open Go.RowKit

set_option maxRecDepth 100000 in
theorem chk4_6 : ((allL 3).all fun M => chkL ([2, 3] :: M)) = true := by decide +kernel
set_option maxRecDepth 100000 in
theorem chk4_7 : ((allL 3).all fun M => chkL ([1, 2, 3] :: M)) = true := by decide +kernel
end Go.Proofs.Yteabiokhbaekpaa
