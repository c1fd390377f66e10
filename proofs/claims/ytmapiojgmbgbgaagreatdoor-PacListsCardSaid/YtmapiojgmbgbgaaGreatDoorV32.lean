/- The rows' types: authorisation data, keys, names. -/
import Derived.Test.YtmapiojgmbgbgaaGreatDoorV22
import Derived.Test.YtmapiojgmbgbgaaGreatDoorV31
import Derived.Test.YtmapiojgmbgbgaaGreatDoorVJb
import Derived.Deep.DeepWitnessRowRef
set_option linter.all false
namespace Go.Proofs.YtmapiojgmbgbgaaGreatDoor
open Go Go.Sx Go.ChangeShapes Go.WideShapes Go.ChangeAt Go.RowKit
set_option maxRecDepth 100000
theorem tyPac:tyRd Tryz.prog 8 28=some PacT:=by kernel_rfl
theorem tyPcn:tyRd Tryz.prog 8 24=some PrinT:=by kernel_rfl
def zPac:Value:=.agg #[.slice none 0 0,.string ⟨#[]⟩,.int .i64 0,.int .i64 0,.slice none 0 0,.slice none 0 0]
def dPac{H:Type}:DataW H:=.agg [.agg [.nil,dS],dI,dI,.nil,.nil]
def zPcn:Value:=.agg #[.slice none 0 0,.string ⟨#[]⟩]
def dPcn{H:Type}:DataW H:=.agg [.nil,dS]
end Go.Proofs.YtmapiojgmbgbgaaGreatDoor
