/- From the laws' contracts to the rows: what all laws of the seat share. -/
import Derived.Test.YtmapiojgmbgbgaaGreatDoorR16
import Derived.Test.YtmapiojgmbgbgaaGreatDoorCards
import Derived.Test.YtmapiojgmbgbgaaGreatDoorTie
import Derived.ProofKit
import Derived.OpenShut
import Derived.Deep.DeepHandedRow
import Derived.Lib.LaidTab
set_option linter.all false
namespace Go.Proofs.YtmapiojgmbgbgaaGreatDoor
open Go Go.Sx Go.ChangeShapes Go.WideShapes Go.ChangeAt Go.RowKit
set_option maxRecDepth 100000
theorem ownK:ownKnob Tryz.prog.godebug=none:=by kernel_rfl
theorem laidOutK:laidOutB Tryz.prog=true:=by kernel_rfl
theorem q8f{H:Type}{enc:TypeId×Value→H}{W:World}{base:Nat}{t:TypeId}{ty:Ty}{fs:Array Field}{v:Value}{d:DataW H}{ps:List MemPlace}(hu:Tryz.prog.underlying t=some (.struct fs))(hty:tyRd Tryz.prog 8 t=some ty)
    (hok:Value.okWide Tryz.prog W .any base t v)(hd:DataW.Trod enc Tryz.prog W 0 (fun _=>true) true t v d ps)(hw:(d.weights Tryz.prog t).all (· ≤reachBytes)=true):
    ∃x:ty.den,(SV.agg (ty.cells x)).den (Cx.top W) v∧ty.ok x∧ty.inR x:=by
  unfold Value.okWide at hok;rw [hu] at hok;obtain ⟨cs,rfl,_⟩:=hok;obtain ⟨fuel,hf⟩:=hd;obtain ⟨x,h1,h2⟩:=q9h fuel 8 t _ d ps ty hty hf hw;refine ⟨x,?_,ty.rel_ok _ _ h1,h2⟩;rw [SV.den];exact ⟨cs.toList,by simp,ty.cells_den _ _ h1⟩
def cellsIn(cs:Array Value):Obj→Obj
  |.cells _ t frozen=>.cells cs t frozen
  |o=>o
noncomputable def laidWorld(os:Os):World:=
  {World.holding Tryz.prog os ⟨#[], #[],[]⟩ with heap:=(((((((World.holding Tryz.prog os ⟨#[], #[],[]⟩).heap.modify 0 (cellsIn #[.slice (some ⟨11,0,none⟩) 64 64])).push (.cells (dat_ref04_constants.map fun z=>Value.int .i64 z).toArray 3 (0,0))).modify 1 (cellsIn (dat_sha_start.map fun z=>Value.int .u32 z).toArray)).modify 2 (cellsIn (Go.Pinned.utf8FirstZ.map fun n:Nat=>Value.int .u8 (n:Int)).toArray)).modify 3 (cellsIn #[.int .u8 128,.int .u8 191,.int .u8 160,.int .u8 191,.int .u8 128,.int .u8 159,.int .u8 144,.int .u8 191,.int .u8 128,.int .u8 143,.int .u8 0,.int .u8 0,.int .u8 0,.int .u8 0,.int .u8 0,.int .u8 0,.int .u8 0,.int .u8 0,.int .u8 0,.int .u8 0,.int .u8 0,.int .u8 0,.int .u8 0,.int .u8 0,.int .u8 0,.int .u8 0,.int .u8 0,.int .u8 0,.int .u8 0,.int .u8 0,.int .u8 0,.int .u8 0])).modify 5 (cellsIn (dat_sha_constants.map fun z=>Value.int .u32 z).toArray))}
def dI{H:Type}:DataW H:=.lit (.int .i64 0)
def dS{H:Type}:DataW H:=.lit (.string [])
end Go.Proofs.YtmapiojgmbgbgaaGreatDoor
