/- Lemmas and contracts for a law, put together out of several texts: HlUc. -/
import Derived.Test.YteabiokhbaekpaaMg10
/- Plain facts: a part of all choices, one by one. -/
namespace Go.Proofs.Yteabiokhbaekpaa
open Go.RowKit

set_option maxRecDepth 100000 in
theorem chk4_3 : ((allL 3).all fun M => chkL ([3] :: M)) = true := by decide +kernel
set_option maxRecDepth 100000 in
theorem chk4_4 : ((allL 3).all fun M => chkL ([1, 2] :: M)) = true := by decide +kernel
set_option maxRecDepth 100000 in
theorem chk4_5 : ((allL 3).all fun M => chkL ([1, 3] :: M)) = true := by decide +kernel
end Go.Proofs.Yteabiokhbaekpaa
