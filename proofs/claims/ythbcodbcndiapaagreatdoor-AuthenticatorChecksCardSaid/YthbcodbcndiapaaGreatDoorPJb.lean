/- The rows' closed facts that the laws share. -/
import Derived.Test.YthbcodbcndiapaaGreatDoorCards
import Derived.JoinedOf
import Derived.JoinedCond
import Derived.KernelRfl
set_option linter.all false
namespace Go.Proofs.YthbcodbcndiapaaGreatDoor
open Go
set_option maxRecDepth 100000
def z8E{P:Program}{f:FuncId}{fn:Func}{s:ChangeSpec}{c:OpenClaim}(k1:(c.wf (OpenSpec.ofChange s))=true)(k2:(laidOutB P)=true)(k3:(mapsRowed P)=true)(k4:(fn.params.all (P.readableRec ·))=true)(k5:(namedTie P c.named s.vars)=true)(k6:((c.stops== []))=true)(k7:((P.stops== []))=true)(k8:((c.knobs== []))=true)(k9:((P.stopKnobs== []))=true)(k10:((c.inPlace==P.inPlace f))=true)(k11:((c.unfollowed==P.unfollowed f))=true)(k12:((c.recurses==P.recurses f))=true)(k13:((c.named==P.varsNamed f))=true)(k14:((c.maps==(fn.params.toList++s.plain.varTypes P).any (P.mapsRec ·)))=true)(k15:((c.ifaces==(fn.params.toList++s.plain.varTypes P).any (P.ifacesRec ·)))=true)(k16:((c.mapsOut==P.mapsAmong fn.resultTypes.toList))=true)(k17:((c.loops==(fn.params.toList++s.plain.varTypes P).any (P.loopsFrom ·)))=true)(k18:((c.wideKeys==(fn.params.toList++s.plain.varTypes P++fn.resultTypes.toList).any (P.wideKeysFrom ·)))=true)(k19:(s.vars.all (P.varReadable ·))=true)(k20:(fn.resultTypes.all (fun t=>P.readableRec t&& decide (t<P.types.size)))=true)(k21:((c.ifacesOut==fn.resultTypes.toList.any (P.ifacesRec ·)))=true)(k22:((c.loopsOut==fn.resultTypes.toList.any (P.loopsFrom ·)))=true)(k23:((c.plainKeys==P.plainKeys))=true)(k24:(c.shortTexts.isNone)=true)(k25:(P.stopsHeard)=true)(k26:(P.mayEnter)=true)(k27:((c.lifted==P.liftsFinal))=true)(k28:((P.make==some c.make))=true)(k29:((c.kinds==(if c.domain.isEmpty then [] else fn.params.toList.map fun t=>match P.underlying t with|some (.int k)=>some k|_=>none)))=true)(k30:((c.pinned==c.pinnedBy))=true)(k31:((c.veiled==(fn.params.toList++s.plain.varTypes P++fn.resultTypes.toList).any (P.veiledRec ·)))=true)(k32:(c.veiledFits P fn.params.toList (fn.params.toList++s.plain.varTypes P++fn.resultTypes.toList))=true):joinedFacts P f fn s c=true:=by simp only [joinedFacts,Bool.and_eq_true];exact ⟨⟨⟨⟨⟨⟨⟨⟨⟨⟨⟨⟨⟨⟨⟨⟨⟨⟨⟨⟨⟨⟨⟨⟨⟨⟨⟨⟨⟨⟨⟨k1,k2⟩,k3⟩,k4⟩,k5⟩,k6⟩,k7⟩,k8⟩,k9⟩,k10⟩,k11⟩,k12⟩,k13⟩,k14⟩,k15⟩,k16⟩,k17⟩,k18⟩,k19⟩,k20⟩,k21⟩,k22⟩,k23⟩,k24⟩,k25⟩,k26⟩,k27⟩,k28⟩,k29⟩,k30⟩,k31⟩,k32⟩
def j3V:(laidOutB Tryz.prog)=true:=by kernel_rfl
def j3v:(mapsRowed Tryz.prog)=true:=by kernel_rfl
def j4d:((Tryz.prog.stops== []))=true:=by kernel_rfl
def j2K:((Tryz.prog.stopKnobs== []))=true:=by kernel_rfl
def j1p:(Tryz.prog.stopsHeard)=true:=by kernel_rfl
def j1l:(Tryz.prog.mayEnter)=true:=by kernel_rfl
end Go.Proofs.YthbcodbcndiapaaGreatDoor