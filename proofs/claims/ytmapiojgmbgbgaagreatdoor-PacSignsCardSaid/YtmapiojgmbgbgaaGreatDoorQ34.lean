/- The rows' types: authorisation data, keys, names. -/
import Derived.Test.YtmapiojgmbgbgaaGreatDoorQ23
import Derived.Test.YtmapiojgmbgbgaaGreatDoorQ33
import Derived.Test.YtmapiojgmbgbgaaGreatDoorQJb
import Derived.Deep.DeepWitnessRowRef
set_option linter.all false
namespace Go.Proofs.YtmapiojgmbgbgaaGreatDoor
open Go Go.Sx Go.ChangeShapes Go.WideShapes Go.ChangeAt Go.RowKit
set_option maxRecDepth 100000
theorem tyPac:tyRd Tryz.prog 8 28=some PacT:=by kernel_rfl
theorem tyPck:tyRd Tryz.prog 8 31=some KeyT:=by kernel_rfl
def zPac:Value:=.agg #[.slice none 0 0,.string ⟨#[]⟩,.int .i64 0,.int .i64 0,.slice none 0 0,.slice none 0 0]
def dPac{H:Type}:DataW H:=.agg [.agg [.nil,dS],dI,dI,.nil,.nil]
def zPck:Value:=.agg #[.int .i64 0,.int .i64 0,.slice none 0 0]
def dPck{H:Type}:DataW H:=.agg [dI,dI,.nil]
end Go.Proofs.YtmapiojgmbgbgaaGreatDoor
