/- Contracts: the reference's Valid. -/
import Derived.Test.YtcjehhejgimmdaaGreatDoorP18
import Derived.Test.YtcjehhejgimmdaaGreatDoorP19
import Derived.Test.YtcjehhejgimmdaaGreatDoorPRf4
set_option linter.all false
namespace Go.Proofs.YtcjehhejgimmdaaGreatDoor
open Go Go.Sx Go.Proofs
set_option maxRecDepth 100000
set_option maxHeartbeats 4000000
end Go.Proofs.YtcjehhejgimmdaaGreatDoor
