/- The rows' closed facts that the laws share. -/
import Derived.Test.YthbcodbcndiapaaGreatDoorCards
import Derived.JoinedOf
import Derived.JoinedCond
import Derived.KernelRfl
set_option linter.all false
namespace Go.Proofs.YthbcodbcndiapaaGreatDoor
open Go
set_option maxRecDepth 100000
def z9j{P:Program}{f:FuncId}{fn:Func}{s:ChangeSpec}{c:OpenClaim}(C:(c.wf (OpenSpec.ofChange s))=true)(J:(laidOutB P)=true)(G:(mapsRowed P)=true)(K:(fn.params.all (P.readableRec ·))=true)(H:(namedTie P c.named s.vars)=true)(I:((c.stops== []))=true)(E:((P.stops== []))=true)(D:((c.knobs== []))=true)(F:((P.stopKnobs== []))=true)(m:((c.inPlace==P.inPlace f))=true)(u:((c.unfollowed==P.unfollowed f))=true)(v:((c.recurses==P.recurses f))=true)(B:((c.named==P.varsNamed f))=true)(d:((c.maps==(fn.params.toList++s.plain.varTypes P).any (P.mapsRec ·)))=true)(j:((c.ifaces==(fn.params.toList++s.plain.varTypes P).any (P.ifacesRec ·)))=true)(k16:((c.mapsOut==P.mapsAmong fn.resultTypes.toList))=true)(r:((c.loops==(fn.params.toList++s.plain.varTypes P).any (P.loopsFrom ·)))=true)(e:((c.wideKeys==(fn.params.toList++s.plain.varTypes P++fn.resultTypes.toList).any (P.wideKeysFrom ·)))=true)(p:(s.vars.all (P.varReadable ·))=true)(n:(fn.resultTypes.all (λt=>P.readableRec t&& decide (t<P.types.size)))=true)(x:((c.ifacesOut==fn.resultTypes.toList.any (P.ifacesRec ·)))=true)(q:((c.loopsOut==fn.resultTypes.toList.any (P.loopsFrom ·)))=true)(w:((c.plainKeys==P.plainKeys))=true)(o:(c.shortTexts.isNone)=true)(b:(P.stopsHeard)=true)(y:(P.mayEnter)=true)(A:((c.lifted==P.liftsFinal))=true)(a:((P.make==some c.make))=true)(h:((c.kinds==(if c.domain.isEmpty then [] else fn.params.toList.map λt=>match P.underlying t with|some (.int k)=>some k|_=>none)))=true)(i:((c.pinned==c.pinnedBy))=true)(l:((c.veiled==(fn.params.toList++s.plain.varTypes P++fn.resultTypes.toList).any (P.veiledRec ·)))=true)(z:(c.veiledFits P fn.params.toList (fn.params.toList++s.plain.varTypes P++fn.resultTypes.toList))=true):joinedFacts P f fn s c=true:=by simp only [joinedFacts,Bool.and_eq_true];exact ⟨⟨⟨⟨⟨⟨⟨⟨⟨⟨⟨⟨⟨⟨⟨⟨⟨⟨⟨⟨⟨⟨⟨⟨⟨⟨⟨⟨⟨⟨⟨C,J⟩,G⟩,K⟩,H⟩,I⟩,E⟩,D⟩,F⟩,m⟩,u⟩,v⟩,B⟩,d⟩,j⟩,k16⟩,r⟩,e⟩,p⟩,n⟩,x⟩,q⟩,w⟩,o⟩,b⟩,y⟩,A⟩,a⟩,h⟩,i⟩,l⟩,z⟩
def j5i:(laidOutB Tryz.prog)=true:=by kernel_rfl
def j4F:(mapsRowed Tryz.prog)=true:=by kernel_rfl
def j5r:((Tryz.prog.stops== []))=true:=by kernel_rfl
def j3M:((Tryz.prog.stopKnobs== []))=true:=by kernel_rfl
def j2g:(Tryz.prog.stopsHeard)=true:=by kernel_rfl
def j2b:(Tryz.prog.mayEnter)=true:=by kernel_rfl
end Go.Proofs.YthbcodbcndiapaaGreatDoor