/- Contracts: the reference's Valid. -/
import Derived.Test.YthbcodbcndiapaaGreatDoorXRf4
set_option linter.all false
namespace Go.Proofs.YthbcodbcndiapaaGreatDoor
open Go Go.Sx Go.Proofs
set_option maxRecDepth 100000
set_option maxHeartbeats 4000000
end Go.Proofs.YthbcodbcndiapaaGreatDoor