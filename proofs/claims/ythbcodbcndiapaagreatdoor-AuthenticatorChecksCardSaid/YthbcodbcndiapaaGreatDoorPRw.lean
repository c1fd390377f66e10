/- From the laws' contracts to the rows: what all laws of the seat share. -/
import Derived.Test.YthbcodbcndiapaaGreatDoorP10
import Derived.Test.YthbcodbcndiapaaGreatDoorCards
import Derived.Test.YthbcodbcndiapaaGreatDoorTie
import Derived.ProofKit
import Derived.OpenShut
import Derived.Deep.DeepHandedRow
import Derived.Lib.LaidTab
set_option linter.all false
namespace Go.Proofs.YthbcodbcndiapaaGreatDoor
open Go Go.Sx Go.ChangeShapes Go.WideShapes Go.ChangeAt Go.RowKit
set_option maxRecDepth 100000
def ownK:ownKnob Tryz.prog.godebug=none:=by kernel_rfl
def laidOutK:laidOutB Tryz.prog=true:=by kernel_rfl
variable {H:Type}{enc:TypeId×Value->H}{base:Nat}{ps:List MemPlace}
theorem z4M{P:Program}{w:World}{spare:Nat->Bool}{held:Bool}{t0 t1 t2 t3 t4:TypeId}{args:Array Value}{ds:List (DataW H)}(h:DataW.TrodAll enc P w base spare held [t0,t1,t2,t3,t4] args.toList ds ps):
    ∃v0 v1 v2 v3 v4 d0 d1 d2 d3 d4 p0 p1 p2 p3 p4,args= #[v0,v1,v2,v3,v4]∧ds= [d0,d1,d2,d3,d4]∧ps=p0++p1++p2++p3++p4∧DataW.Trod enc P w base spare held t0 v0 d0 p0∧DataW.Trod enc P w base spare held t1 v1 d1 p1∧DataW.Trod enc P w base spare held t2 v2 d2 p2∧DataW.Trod enc P w base spare held t3 v3 d3 p3∧DataW.Trod enc P w base spare held t4 v4 d4 p4:=by
  obtain ⟨v0,vs0,d0,ds0,p0,q0,hargs,rfl,rfl,h0,g0⟩:=trodAll_cons h;obtain ⟨v1,vs1,d1,ds1,p1,q1,rfl,rfl,rfl,h1,g1⟩:=trodAll_cons g0;obtain ⟨v2,vs2,d2,ds2,p2,q2,rfl,rfl,rfl,h2,g2⟩:=trodAll_cons g1;obtain ⟨v3,vs3,d3,ds3,p3,q3,rfl,rfl,rfl,h3,g3⟩:=trodAll_cons g2;obtain ⟨v4,vs4,d4,ds4,p4,q4,rfl,rfl,rfl,h4,g4⟩:=trodAll_cons g3;obtain ⟨rfl,rfl,rfl⟩:=trodAll_nil g4;exact ⟨v0,v1,v2,v3,v4,d0,d1,d2,d3,d4,p0,p1,p2,p3,p4,by cases args;simp_all,rfl,by simp,h0,h1,h2,h3,h4⟩
def q5E{W:World}{t:TypeId}{ty:Ty}{fs:Array Field}{v:Value}{d:DataW H}(hu:Tryz.prog.underlying t=some (.struct fs))(hty:tyRd Tryz.prog 8 t=some ty)
    (hok:Value.okWide Tryz.prog W .any base t v)(hd:DataW.Trod enc Tryz.prog W 0 (fun _=>true) true t v d ps)(hw:(d.weights Tryz.prog t).all (· <=reachBytes)=true):
    ∃x:ty.den,(SV.agg (ty.cells x)).den (Cx.top W) v∧ty.ok x∧ty.inR x:=by
  unfold Value.okWide at hok;rw [hu] at hok;obtain ⟨cs,rfl,_⟩:=hok;obtain ⟨fuel,hf⟩:=hd;obtain ⟨x,h1,h2⟩:=q9s fuel 8 t _ d ps ty hty hf hw;refine ⟨x,?_,ty.rel_ok _ _ h1,h2⟩;rw [SV.den];exact ⟨cs.toList,by simp,ty.cells_den _ _ h1⟩
def cellsIn(cs:Array Value):Obj->Obj
  |.cells _ t frozen=>.cells cs t frozen
  |o=>o
noncomputable def laidWorld(os:Os):World:=
  {World.holding Tryz.prog os ⟨#[], #[],[]⟩ with heap:=((((((((World.holding Tryz.prog os ⟨#[], #[],[]⟩).heap.modify 0 (cellsIn (dat_ref06_substitutes.map fun c=>Value.int .u8 (c.toNat:Int)).toArray)).modify 1 (cellsIn #[.slice (some ⟨12,0,none⟩) 64 64])).push (.cells (dat_ref04_constants.map fun z=>Value.int .i64 z).toArray 3 (0,0))).modify 2 (cellsIn (Go.Pinned.utf8FirstZ.map fun n:Nat=>Value.int .u8 (n:Int)).toArray)).modify 3 (cellsIn #[.int .u8 128,.int .u8 191,.int .u8 160,.int .u8 191,.int .u8 128,.int .u8 159,.int .u8 144,.int .u8 191,.int .u8 128,.int .u8 143,.int .u8 0,.int .u8 0,.int .u8 0,.int .u8 0,.int .u8 0,.int .u8 0,.int .u8 0,.int .u8 0,.int .u8 0,.int .u8 0,.int .u8 0,.int .u8 0,.int .u8 0,.int .u8 0,.int .u8 0,.int .u8 0,.int .u8 0,.int .u8 0,.int .u8 0,.int .u8 0,.int .u8 0,.int .u8 0])).modify 5 (cellsIn (dat_sha_start.map fun z=>Value.int .u32 z).toArray)).modify 6 (cellsIn (dat_sha_constants.map fun z=>Value.int .u32 z).toArray))}
def dI:DataW H:=.lit (.int .i64 0)
def dS:DataW H:=.lit (.string [])
end Go.Proofs.YthbcodbcndiapaaGreatDoor