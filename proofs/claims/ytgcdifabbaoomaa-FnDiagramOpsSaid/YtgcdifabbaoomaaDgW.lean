/- The walk of FnDiagramOps beside the reading of its bytes. -/
import Derived.Test.YtgcdifabbaoomaaWalkDiagramOps
import Derived.Test.YtgcdifabbaoomaaOpenB
import Derived.Test.YtgcdifabbaoomaaOpenC
