/- Lemmas and contracts for a law, put together out of several texts: HlUb. -/
import Derived.Test.YteabiokhbaekpaaMg10
/- Plain facts: a part of all choices, one by one. -/
namespace Go.Proofs.Yteabiokhbaekpaa
open Go.RowKit

set_option maxRecDepth 100000 in
theorem chk4_0 : ((allL 3).all fun M => chkL ([] :: M)) = true := by decide +kernel
set_option maxRecDepth 100000 in
theorem chk4_1 : ((allL 3).all fun M => chkL ([1] :: M)) = true := by decide +kernel
set_option maxRecDepth 100000 in
theorem chk4_2 : ((allL 3).all fun M => chkL ([2] :: M)) = true := by decide +kernel
end Go.Proofs.Yteabiokhbaekpaa
