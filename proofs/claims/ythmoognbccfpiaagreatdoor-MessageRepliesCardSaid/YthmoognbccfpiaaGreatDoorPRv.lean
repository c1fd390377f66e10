/- Contracts: the reference's Valid. -/
import Derived.Test.YthmoognbccfpiaaGreatDoorP16
import Derived.Test.YthmoognbccfpiaaGreatDoorPRf4
set_option linter.unusedSimpArgs false
set_option linter.unusedVariables false
set_option linter.unusedSectionVars false
namespace Go.Proofs.YthmoognbccfpiaaGreatDoor
open Go Go.Sx Go.Proofs
set_option maxRecDepth 100000
set_option maxHeartbeats 4000000
set_option linter.unusedSimpArgs false

end Go.Proofs.YthmoognbccfpiaaGreatDoor

