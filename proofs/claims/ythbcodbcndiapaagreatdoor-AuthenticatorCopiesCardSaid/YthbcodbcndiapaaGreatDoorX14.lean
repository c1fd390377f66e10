/- The rows' types: authenticators, keys, names, sealed strings. -/
import Derived.Test.YthbcodbcndiapaaGreatDoorX8
import Derived.Test.YthbcodbcndiapaaGreatDoorX13
import Derived.Test.YthbcodbcndiapaaGreatDoorXJb
import Derived.Deep.DeepWitnessRowRef
set_option linter.all false
namespace Go.Proofs.YthbcodbcndiapaaGreatDoor
open Go Go.Sx Go.ChangeShapes Go.WideShapes Go.ChangeAt Go.RowKit
set_option maxRecDepth 100000
def tyAut:tyRd Tryz.prog 8 30=some AutT:=by kernel_rfl
def zAtr:Value:=.agg #[.slice none 0 0,.string ⟨#[]⟩,.slice none 0 0,.int .i64 0,.int .i64 0,.int .i64 0,.int .i64 0,.slice none 0 0,.int .i64 0,.slice none 0 0]
def dAtr{H:Type}:DataW H:=.agg [.agg [.nil,dS],.nil,dI,dI,.agg [dI,dI,.nil],dI,.nil]
end Go.Proofs.YthbcodbcndiapaaGreatDoor