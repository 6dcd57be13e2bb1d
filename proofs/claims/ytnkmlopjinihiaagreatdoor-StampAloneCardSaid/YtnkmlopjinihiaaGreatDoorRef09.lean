/- Contracts of sakiaref09: Has, Of (a table of who is above whom), Check: the same code as graph.Check's. -/
import Derived.Test.YtnkmlopjinihiaaGreatDoorProg
import Derived.Test.YtnkmlopjinihiaaGreatDoorBase
import Derived.Test.YtnkmlopjinihiaaGreatDoorGraphP
import Derived.Test.YtnkmlopjinihiaaGreatDoorNum
import Derived.RegionTactic
import Derived.BigRegion
import Derived.Deep.WholeRow
namespace Go.Proofs.YtnkmlopjinihiaaGreatDoor
open Go.RowKit
set_option linter.unusedVariables false
set_option linter.unusedSimpArgs false
set_option maxHeartbeats 400000
end Go.Proofs.YtnkmlopjinihiaaGreatDoor
