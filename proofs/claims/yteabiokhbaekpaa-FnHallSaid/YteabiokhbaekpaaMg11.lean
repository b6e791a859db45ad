/- Lemmas and contracts for a law, put together out of several texts: HlUa. -/
import Derived.Test.YteabiokhbaekpaaMg10
/- Plain facts: a part of all choices, one by one. -/
namespace Go.Proofs.Yteabiokhbaekpaa
open Go.RowKit

set_option maxRecDepth 100000 in
theorem chk1 : (allL 1).all chkL = true := by decide +kernel
set_option maxRecDepth 100000 in
theorem chk2 : (allL 2).all chkL = true := by decide +kernel
set_option maxRecDepth 100000 in
theorem chk3 : (allL 3).all chkL = true := by decide +kernel
end Go.Proofs.Yteabiokhbaekpaa
