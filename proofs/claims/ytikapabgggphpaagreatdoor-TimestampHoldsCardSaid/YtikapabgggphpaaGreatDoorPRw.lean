/- From the laws' contracts to the rows: what all laws of the seat share. -/
import Derived.Test.YtikapabgggphpaaGreatDoorP12
import Derived.Test.YtikapabgggphpaaGreatDoorP16
import Derived.Test.YtikapabgggphpaaGreatDoorCards
import Derived.Test.YtikapabgggphpaaGreatDoorTie
import Derived.WalkKit
import Derived.ProofKit
import Derived.OpenShut
import Derived.Deep.DeepHandedRow
import Derived.Lib.LaidTab
set_option linter.all false
namespace Go.Proofs.YtikapabgggphpaaGreatDoor
open Go Go.Sx Go.ChangeShapes Go.WideShapes Go.ChangeAt Go.RowKit
set_option maxRecDepth 100000
theorem ownK:ownKnob Tryz.prog.godebug=none:=by kernel_rfl
theorem laidOutK:laidOutB Tryz.prog=true:=by kernel_rfl
theorem z3H {H:Type} {enc:TypeId×Value→H} {P:Program} {w:World} {base:Nat} {spare:Nat→Bool} {held:Bool} {t0 t1 t2 t3 t4 t5:TypeId} {args:Array Value} {ds:List (DataW H)} {ps:List MemPlace} (h:DataW.TrodAll enc P w base spare held [t0,t1,t2,t3,t4,t5] args.toList ds ps):
    ∃v0 v1 v2 v3 v4 v5 d0 d1 d2 d3 d4 d5 p0 p1 p2 p3 p4 p5,args= #[v0,v1,v2,v3,v4,v5]∧ds= [d0,d1,d2,d3,d4,d5]∧ps=p0++p1++p2++p3++p4++p5∧DataW.Trod enc P w base spare held t0 v0 d0 p0∧DataW.Trod enc P w base spare held t1 v1 d1 p1∧DataW.Trod enc P w base spare held t2 v2 d2 p2∧DataW.Trod enc P w base spare held t3 v3 d3 p3∧DataW.Trod enc P w base spare held t4 v4 d4 p4∧DataW.Trod enc P w base spare held t5 v5 d5 p5:=by
  obtain ⟨v0,vs0,d0,ds0,p0,q0,hargs,rfl,rfl,h0,g0⟩:=trodAll_cons h
  obtain ⟨v1,vs1,d1,ds1,p1,q1,rfl,rfl,rfl,h1,g1⟩:=trodAll_cons g0
  obtain ⟨v2,vs2,d2,ds2,p2,q2,rfl,rfl,rfl,h2,g2⟩:=trodAll_cons g1
  obtain ⟨v3,vs3,d3,ds3,p3,q3,rfl,rfl,rfl,h3,g3⟩:=trodAll_cons g2
  obtain ⟨v4,vs4,d4,ds4,p4,q4,rfl,rfl,rfl,h4,g4⟩:=trodAll_cons g3
  obtain ⟨v5,vs5,d5,ds5,p5,q5,rfl,rfl,rfl,h5,g5⟩:=trodAll_cons g4
  obtain ⟨rfl,rfl,rfl⟩:=trodAll_nil g5
  exact ⟨v0,v1,v2,v3,v4,v5,d0,d1,d2,d3,d4,d5,p0,p1,p2,p3,p4,p5,by cases args;simp_all,rfl,by simp,h0,h1,h2,h3,h4,h5⟩
theorem z3I {H:Type} {enc:TypeId×Value→H} {W:World} {base:Nat} {t:TypeId} {ty:Ty} {fs:Array Field} {v:Value} {d:DataW H} {ps:List MemPlace} (hu:Tryz.prog.underlying t=some (.struct fs)) (hty:tyRd Tryz.prog 8 t=some ty)
    (hok:Value.okWide Tryz.prog W .any base t v) (hd:DataW.Trod enc Tryz.prog W 0 (fun _=>true) true t v d ps) (hw:(d.weights Tryz.prog t).all (· ≤reachBytes)=true):
    ∃x:ty.den,(SV.agg (ty.cells x)).den (Cx.top W) v∧ty.ok x∧ty.inR x:=by
  unfold Value.okWide at hok
  rw [hu] at hok
  obtain ⟨cs,rfl,_⟩:=hok
  obtain ⟨fuel,hf⟩:=hd
  obtain ⟨x,h1,h2⟩:=q5L fuel 8 t _ d ps ty hty hf hw
  refine ⟨x,?_,ty.rel_ok _ _ h1,h2⟩
  rw [SV.den]
  exact ⟨cs.toList,by simp,ty.cells_den _ _ h1⟩
theorem z4X {H:Type} {enc:TypeId×Value→H} {W:World} {base:Nat} {t e:TypeId} {ty:Ty} {v:Value} {d:DataW H} {ps:List MemPlace} (hu:Tryz.prog.underlying t=some (.slice e)) (hty:tyRd Tryz.prog 8 t=some (.slice ty))
    (hok:Value.okWide Tryz.prog W .any base t v) (hd:DataW.Trod enc Tryz.prog W 0 (fun _=>true) true t v d ps) (hw:(d.weights Tryz.prog t).all (· ≤reachBytes)=true):
    ∃x:List ty.den,(SV.isl ty x).den (Cx.top W) v∧(Ty.slice ty).ok x∧(Ty.slice ty).inR x:=by
  obtain ⟨A,n,c,rfl⟩:=okWide_slice hu hok
  obtain ⟨fuel,hf⟩:=hd
  obtain ⟨x,h1,h2⟩:=q5L fuel 8 t _ d ps (.slice ty) hty hf hw
  refine ⟨x,?_,(Ty.slice ty).rel_ok _ _ h1,h2⟩
  rw [SV.den]
  exact h1

def cellsIn (cs:Array Value):Obj→Obj
  |.cells _ t frozen=>.cells cs t frozen
  |o=>o
noncomputable def laidWorld (os:Os):World:=
  {World.holding Tryz.prog os ⟨#[], #[],[]⟩ with heap:=((((World.holding Tryz.prog os ⟨#[], #[],[]⟩).heap.modify 0 (cellsIn #[.int .u8 99,.int .u8 124,.int .u8 119,.int .u8 123,.int .u8 242,.int .u8 107,.int .u8 111,.int .u8 197,.int .u8 48,.int .u8 1,.int .u8 103,.int .u8 43,.int .u8 254,.int .u8 215,.int .u8 171,.int .u8 118,.int .u8 202,.int .u8 130,.int .u8 201,.int .u8 125,.int .u8 250,.int .u8 89,.int .u8 71,.int .u8 240,.int .u8 173,.int .u8 212,.int .u8 162,.int .u8 175,.int .u8 156,.int .u8 164,.int .u8 114,.int .u8 192,.int .u8 183,.int .u8 253,.int .u8 147,.int .u8 38,.int .u8 54,.int .u8 63,.int .u8 247,.int .u8 204,.int .u8 52,.int .u8 165,.int .u8 229,.int .u8 241,.int .u8 113,.int .u8 216,.int .u8 49,.int .u8 21,.int .u8 4,.int .u8 199,.int .u8 35,.int .u8 195,.int .u8 24,.int .u8 150,.int .u8 5,.int .u8 154,.int .u8 7,.int .u8 18,.int .u8 128,.int .u8 226,.int .u8 235,.int .u8 39,.int .u8 178,.int .u8 117,.int .u8 9,.int .u8 131,.int .u8 44,.int .u8 26,.int .u8 27,.int .u8 110,.int .u8 90,.int .u8 160,.int .u8 82,.int .u8 59,.int .u8 214,.int .u8 179,.int .u8 41,.int .u8 227,.int .u8 47,.int .u8 132,.int .u8 83,.int .u8 209,.int .u8 0,.int .u8 237,.int .u8 32,.int .u8 252,.int .u8 177,.int .u8 91,.int .u8 106,.int .u8 203,.int .u8 190,.int .u8 57,.int .u8 74,.int .u8 76,.int .u8 88,.int .u8 207,.int .u8 208,.int .u8 239,.int .u8 170,.int .u8 251,.int .u8 67,.int .u8 77,.int .u8 51,.int .u8 133,.int .u8 69,.int .u8 249,.int .u8 2,.int .u8 127,.int .u8 80,.int .u8 60,.int .u8 159,.int .u8 168,.int .u8 81,.int .u8 163,.int .u8 64,.int .u8 143,.int .u8 146,.int .u8 157,.int .u8 56,.int .u8 245,.int .u8 188,.int .u8 182,.int .u8 218,.int .u8 33,.int .u8 16,.int .u8 255,.int .u8 243,.int .u8 210,.int .u8 205,.int .u8 12,.int .u8 19,.int .u8 236,.int .u8 95,.int .u8 151,.int .u8 68,.int .u8 23,.int .u8 196,.int .u8 167,.int .u8 126,.int .u8 61,.int .u8 100,.int .u8 93,.int .u8 25,.int .u8 115,.int .u8 96,.int .u8 129,.int .u8 79,.int .u8 220,.int .u8 34,.int .u8 42,.int .u8 144,.int .u8 136,.int .u8 70,.int .u8 238,.int .u8 184,.int .u8 20,.int .u8 222,.int .u8 94,.int .u8 11,.int .u8 219,.int .u8 224,.int .u8 50,.int .u8 58,.int .u8 10,.int .u8 73,.int .u8 6,.int .u8 36,.int .u8 92,.int .u8 194,.int .u8 211,.int .u8 172,.int .u8 98,.int .u8 145,.int .u8 149,.int .u8 228,.int .u8 121,.int .u8 231,.int .u8 200,.int .u8 55,.int .u8 109,.int .u8 141,.int .u8 213,.int .u8 78,.int .u8 169,.int .u8 108,.int .u8 86,.int .u8 244,.int .u8 234,.int .u8 101,.int .u8 122,.int .u8 174,.int .u8 8,.int .u8 186,.int .u8 120,.int .u8 37,.int .u8 46,.int .u8 28,.int .u8 166,.int .u8 180,.int .u8 198,.int .u8 232,.int .u8 221,.int .u8 116,.int .u8 31,.int .u8 75,.int .u8 189,.int .u8 139,.int .u8 138,.int .u8 112,.int .u8 62,.int .u8 181,.int .u8 102,.int .u8 72,.int .u8 3,.int .u8 246,.int .u8 14,.int .u8 97,.int .u8 53,.int .u8 87,.int .u8 185,.int .u8 134,.int .u8 193,.int .u8 29,.int .u8 158,.int .u8 225,.int .u8 248,.int .u8 152,.int .u8 17,.int .u8 105,.int .u8 217,.int .u8 142,.int .u8 148,.int .u8 155,.int .u8 30,.int .u8 135,.int .u8 233,.int .u8 206,.int .u8 85,.int .u8 40,.int .u8 223,.int .u8 140,.int .u8 161,.int .u8 137,.int .u8 13,.int .u8 191,.int .u8 230,.int .u8 66,.int .u8 104,.int .u8 65,.int .u8 153,.int .u8 45,.int .u8 15,.int .u8 176,.int .u8 84,.int .u8 187,.int .u8 22])).modify 3 (cellsIn #[.int .u32 1779033703,.int .u32 3144134277,.int .u32 1013904242,.int .u32 2773480762,.int .u32 1359893119,.int .u32 2600822924,.int .u32 528734635,.int .u32 1541459225])).modify 4 (cellsIn #[.int .u32 1116352408,.int .u32 1899447441,.int .u32 3049323471,.int .u32 3921009573,.int .u32 961987163,.int .u32 1508970993,.int .u32 2453635748,.int .u32 2870763221,.int .u32 3624381080,.int .u32 310598401,.int .u32 607225278,.int .u32 1426881987,.int .u32 1925078388,.int .u32 2162078206,.int .u32 2614888103,.int .u32 3248222580,.int .u32 3835390401,.int .u32 4022224774,.int .u32 264347078,.int .u32 604807628,.int .u32 770255983,.int .u32 1249150122,.int .u32 1555081692,.int .u32 1996064986,.int .u32 2554220882,.int .u32 2821834349,.int .u32 2952996808,.int .u32 3210313671,.int .u32 3336571891,.int .u32 3584528711,.int .u32 113926993,.int .u32 338241895,.int .u32 666307205,.int .u32 773529912,.int .u32 1294757372,.int .u32 1396182291,.int .u32 1695183700,.int .u32 1986661051,.int .u32 2177026350,.int .u32 2456956037,.int .u32 2730485921,.int .u32 2820302411,.int .u32 3259730800,.int .u32 3345764771,.int .u32 3516065817,.int .u32 3600352804,.int .u32 4094571909,.int .u32 275423344,.int .u32 430227734,.int .u32 506948616,.int .u32 659060556,.int .u32 883997877,.int .u32 958139571,.int .u32 1322822218,.int .u32 1537002063,.int .u32 1747873779,.int .u32 1955562222,.int .u32 2024104815,.int .u32 2227730452,.int .u32 2361852424,.int .u32 2428436474,.int .u32 2756734187,.int .u32 3204031479,.int .u32 3329325298]))}
def dI {H:Type}:DataW H:=.lit (.int .i64 0)
end Go.Proofs.YtikapabgggphpaaGreatDoor
