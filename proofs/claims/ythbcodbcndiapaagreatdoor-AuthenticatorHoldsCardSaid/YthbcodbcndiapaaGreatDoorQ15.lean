/- The rows' types: authenticators, keys, names, sealed strings. -/
import Derived.Test.YthbcodbcndiapaaGreatDoorQ11
import Derived.Test.YthbcodbcndiapaaGreatDoorQ14
import Derived.Test.YthbcodbcndiapaaGreatDoorQJb
import Derived.Deep.DeepWitnessRowRef
set_option linter.all false
namespace Go.Proofs.YthbcodbcndiapaaGreatDoor
open Go Go.Sx Go.ChangeShapes Go.WideShapes Go.ChangeAt Go.RowKit
set_option maxRecDepth 100000
def tyAut:tyRd Tryz.prog 8 30=some AutT:=by kernel_rfl
def tyPck:tyRd Tryz.prog 8 27=some KeyT:=by kernel_rfl
def tyPcn:tyRd Tryz.prog 8 24=some PrinT:=by kernel_rfl
def zAtr:Value:=.agg #[.slice none 0 0,.string ⟨#[]⟩,.slice none 0 0,.int .i64 0,.int .i64 0,.int .i64 0,.int .i64 0,.slice none 0 0,.int .i64 0,.slice none 0 0]
variable {H:Type}
def dAtr:DataW H:=.agg [.agg [.nil,dS],.nil,dI,dI,.agg [dI,dI,.nil],dI,.nil]
def zPck:Value:=.agg #[.int .i64 0,.int .i64 0,.slice none 0 0]
def dPck:DataW H:=.agg [dI,dI,.nil]
def zPcn:Value:=.agg #[.slice none 0 0,.string ⟨#[]⟩]
def dPcn:DataW H:=.agg [.nil,dS]
end Go.Proofs.YthbcodbcndiapaaGreatDoor