/- From the laws' contracts to the rows: what all laws of the seat share. -/
import Derived.Test.YthbcodbcndiapaaGreatDoorX6
import Derived.Test.YthbcodbcndiapaaGreatDoorCards
import Derived.Test.YthbcodbcndiapaaGreatDoorTie
import Derived.ProofKit
import Derived.OpenShut
import Derived.Deep.DeepHandedRow
import Derived.Lib.LaidTab
set_option linter.all false
namespace Go.Proofs.YthbcodbcndiapaaGreatDoor
open Go Go.Sx Go.ChangeShapes Go.WideShapes Go.ChangeAt Go.RowKit
set_option maxRecDepth 100000
def ownK:ownKnob Tryz.prog.godebug=none:=by kernel_rfl
def laidOutK:laidOutB Tryz.prog=true:=by kernel_rfl
variable {H:Type}
def q8A{enc:TypeId×Value->H}{W:World}{base:Nat}{t:TypeId}{ty:Ty}{l:Array Field}{v:Value}{d:DataW H}{ps:List MemPlace}(k:Tryz.prog.underlying t=some (.struct l))(c:tyRd Tryz.prog 8 t=some ty)
    (a:Value.okWide Tryz.prog W .any base t v)(f:DataW.Trod enc Tryz.prog W 0 (λ_=>true) true t v d ps)(h:(d.weights Tryz.prog t).all (· <=reachBytes)=true):
    ∃x:ty.den,(SV.agg (ty.cells x)).den (Cx.top W) v/\ty.ok x/\ty.inR x:=by
  unfold Value.okWide at a;rw [k] at a;obtain ⟨cs,rfl,_⟩:=a;obtain ⟨b,i⟩:=f;obtain ⟨x,e,j⟩:=q9B b 8 t _ d ps ty c i h;refine ⟨x,?_,ty.rel_ok _ _ e,j⟩;rw [SV.den];exact ⟨cs.toList,by simp,ty.cells_den _ _ e⟩
def cellsIn(cs:Array Value):Obj->Obj
  |.cells _ t frozen=>.cells cs t frozen
  |o=>o
noncomputable def laidWorld(os:Os):World:=
  {World.holding Tryz.prog os ⟨#[], #[],[]⟩ with heap:=((((((((World.holding Tryz.prog os ⟨#[], #[],[]⟩).heap.modify 0 (cellsIn (dat_ref06_substitutes.map λc=>Value.int .u8 (c.toNat:Int)).toArray)).modify 1 (cellsIn #[.slice (some ⟨12,0,none⟩) 64 64])).push (.cells (dat_ref04_constants.map λz=>Value.int .i64 z).toArray 3 (0,0))).modify 2 (cellsIn (Go.Pinned.utf8FirstZ.map λn:Nat=>Value.int .u8 (n:Int)).toArray)).modify 3 (cellsIn #[.int .u8 128,.int .u8 191,.int .u8 160,.int .u8 191,.int .u8 128,.int .u8 159,.int .u8 144,.int .u8 191,.int .u8 128,.int .u8 143,.int .u8 0,.int .u8 0,.int .u8 0,.int .u8 0,.int .u8 0,.int .u8 0,.int .u8 0,.int .u8 0,.int .u8 0,.int .u8 0,.int .u8 0,.int .u8 0,.int .u8 0,.int .u8 0,.int .u8 0,.int .u8 0,.int .u8 0,.int .u8 0,.int .u8 0,.int .u8 0,.int .u8 0,.int .u8 0])).modify 5 (cellsIn (dat_sha_start.map λz=>Value.int .u32 z).toArray)).modify 6 (cellsIn (dat_sha_constants.map λz=>Value.int .u32 z).toArray))}
def dI:DataW H:=.lit (.int .i64 0)
def dS:DataW H:=.lit (.string [])
end Go.Proofs.YthbcodbcndiapaaGreatDoor