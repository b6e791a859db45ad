/- What the list of FnExactBookText gives its walk: the table of powers of ten. -/
import Derived.Test.YtcapiijpfoapkaaDoorCards
import Derived.Test.YtcapiijpfoapkaaDoorTie
import Derived.Test.YtcapiijpfoapkaaDoorBtD
import Derived.Test.YtcapiijpfoapkaaDoorBkO
import Derived.LaidMore
import Derived.LaidLaws
import Derived.Stop.LaidErr
import Derived.Deep.DeepHandedRow
import Derived.Deep.DeepWitnessRowRef
namespace Go.Proofs.YtcapiijpfoapkaaDoor
open Go.ChangeShapes Go.WideShapes Go.ChangeAt Go.RowKit

theorem own : ownKnob Tryd.prog.godebug = none := by kernel_rfl
theorem laidOut : laidOutB Tryd.prog = true := by kernel_rfl
theorem envI_of_list {W : World} {r : List (String × DataW Unit)} (hL : laidMet Tryd.prog (("internal/strconv.uint64pow10", Rows.laid_internal_strconv_uint64pow10) :: r) W) : EnvI W := by
  have hp : Lib.TabIs Tryd.prog W "internal/strconv.uint64pow10" .u64 Lib.pow10Tab :=
    Lib.tabIs_of_head (rest := r) globalPowI (by kernel_rfl) Tryd.underlying83 Tryd.underlying75 (by kernel_rfl) (by kernel_rfl) hL
  exact ⟨hp, World.block_lt_of_cell? W _ (hp.cell globalPowI 0 (by decide))⟩
end Go.Proofs.YtcapiijpfoapkaaDoor
