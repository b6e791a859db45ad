/- The world in which the listed variables lie as the program's text lays them; what the rows' lists give the walks. -/
import Derived.Test.YtfcekfomhpmgpaaDoorCards
import Derived.Test.YtfcekfomhpmgpaaDoorTie
import Derived.Test.YtfcekfomhpmgpaaDoorStrF
import Derived.Test.YtfcekfomhpmgpaaDoorOpenA
import Derived.LaidMore
import Derived.Deep.DeepHandedRow
import Derived.Deep.DeepWitnessRowRef
namespace Go.Proofs.YtfcekfomhpmgpaaDoor
open Go.ChangeShapes Go.WideShapes Go.ChangeAt Go.RowKit

theorem own : ownKnob Tryd.prog.godebug = none := by kernel_rfl
theorem laidOut : laidOutB Tryd.prog = true := by kernel_rfl

theorem door_met3 (os : Os) (args : Array Value) : laidMetH Tryd.prog Rows.fnExactEncodeRecordRow.laid ((World.doorLaid Tryd.prog 4000 os).forCall (fun _ _ => 0) ⟨#[], args, []⟩).memory :=
  laidMetH_of_parts3 (fuel := 8) (laidMet_of_run' 8 (by kernel_rfl) (by kernel_rfl)) (by kernel_rfl) (by kernel_rfl)
end Go.Proofs.YtfcekfomhpmgpaaDoor
