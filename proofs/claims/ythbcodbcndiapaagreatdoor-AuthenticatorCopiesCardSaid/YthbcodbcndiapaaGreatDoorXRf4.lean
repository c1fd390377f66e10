/- Contracts: the reference's equality of lists, sets and entries. -/
import Derived.Test.YthbcodbcndiapaaGreatDoorX7
set_option linter.all false
namespace Go.Proofs.YthbcodbcndiapaaGreatDoor
open Go Go.Sx Go.Proofs
set_option maxRecDepth 100000
set_option maxHeartbeats 4000000
set_option synthInstance.maxSize 2000
set_option synthInstance.maxHeartbeats 400000
instance instKeyD:DecidableEq Key:=inferInstance
instance instSetD:DecidableEq KSet:=inferInstance
instance instSetLD:DecidableEq (List KSet):=inferInstance

end Go.Proofs.YthbcodbcndiapaaGreatDoor