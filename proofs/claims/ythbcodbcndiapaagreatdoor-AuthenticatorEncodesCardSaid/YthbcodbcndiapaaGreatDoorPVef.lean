/- AuthenticatorEncodes: for all authenticators and all bytes the law answers true, and its arguments read as they did. -/
import Derived.Test.YthbcodbcndiapaaGreatDoorP13
import Derived.Test.YthbcodbcndiapaaGreatDoorP15
set_option linter.all false
namespace Go.Proofs.YthbcodbcndiapaaGreatDoor
open Go Go.Sx Go.ChangeShapes Go.WideShapes Go.ChangeAt Go.RowKit
set_option maxRecDepth 100000
theorem uencs_k1:(Rows.authenticatorEncodesRow.wf (OpenSpec.ofChange Rows.authenticatorEncodesSpec))=true:=by kernel_rfl
theorem uencs_k4:(Tryz.f3.params.all (Tryz.prog.readableRec ·))=true:=by kernel_rfl
theorem uencs_k5:(namedTie Tryz.prog Rows.authenticatorEncodesRow.named Rows.authenticatorEncodesSpec.vars)=true:=by kernel_rfl
theorem uencs_k6:((Rows.authenticatorEncodesRow.stops== []))=true:=by kernel_rfl
theorem uencs_k8:((Rows.authenticatorEncodesRow.knobs== []))=true:=by kernel_rfl
theorem uencs_k10:((Rows.authenticatorEncodesRow.inPlace==Tryz.prog.inPlace 3))=true:=by kernel_rfl
theorem uencs_k11:((Rows.authenticatorEncodesRow.unfollowed==Tryz.prog.unfollowed 3))=true:=by kernel_rfl
theorem uencs_k12:((Rows.authenticatorEncodesRow.recurses==Tryz.prog.recurses 3))=true:=by kernel_rfl
theorem uencs_k13:((Rows.authenticatorEncodesRow.named==Tryz.prog.varsNamed 3))=true:=by kernel_rfl
theorem uencs_k14:((Rows.authenticatorEncodesRow.maps==(Tryz.f3.params.toList++Rows.authenticatorEncodesSpec.plain.varTypes Tryz.prog).any (Tryz.prog.mapsRec ·)))=true:=by kernel_rfl
theorem uencs_k15:((Rows.authenticatorEncodesRow.ifaces==(Tryz.f3.params.toList++Rows.authenticatorEncodesSpec.plain.varTypes Tryz.prog).any (Tryz.prog.ifacesRec ·)))=true:=by kernel_rfl
theorem uencs_k16:((Rows.authenticatorEncodesRow.mapsOut==Tryz.prog.mapsAmong Tryz.f3.resultTypes.toList))=true:=by kernel_rfl
theorem uencs_k17:((Rows.authenticatorEncodesRow.loops==(Tryz.f3.params.toList++Rows.authenticatorEncodesSpec.plain.varTypes Tryz.prog).any (Tryz.prog.loopsFrom ·)))=true:=by kernel_rfl
theorem uencs_k18:((Rows.authenticatorEncodesRow.wideKeys==(Tryz.f3.params.toList++Rows.authenticatorEncodesSpec.plain.varTypes Tryz.prog++Tryz.f3.resultTypes.toList).any (Tryz.prog.wideKeysFrom ·)))=true:=by kernel_rfl
theorem uencs_k19:(Rows.authenticatorEncodesSpec.vars.all (Tryz.prog.varReadable ·))=true:=by kernel_rfl
theorem uencs_k20:(Tryz.f3.resultTypes.all (λt=>Tryz.prog.readableRec t&& decide (t<Tryz.prog.types.size)))=true:=by kernel_rfl
theorem uencs_k21:((Rows.authenticatorEncodesRow.ifacesOut==Tryz.f3.resultTypes.toList.any (Tryz.prog.ifacesRec ·)))=true:=by kernel_rfl
theorem uencs_k22:((Rows.authenticatorEncodesRow.loopsOut==Tryz.f3.resultTypes.toList.any (Tryz.prog.loopsFrom ·)))=true:=by kernel_rfl
theorem uencs_k23:((Rows.authenticatorEncodesRow.plainKeys==Tryz.prog.plainKeys))=true:=by kernel_rfl
theorem uencs_k24:(Rows.authenticatorEncodesRow.shortTexts.isNone)=true:=by kernel_rfl
theorem uencs_k27:((Rows.authenticatorEncodesRow.lifted==Tryz.prog.liftsFinal))=true:=by kernel_rfl
theorem uencs_k28:((Tryz.prog.make==some Rows.authenticatorEncodesRow.make))=true:=by kernel_rfl
theorem uencs_k29:((Rows.authenticatorEncodesRow.kinds==(if Rows.authenticatorEncodesRow.domain.isEmpty then [] else Tryz.f3.params.toList.map λt=>match Tryz.prog.underlying t with|some (.int k)=>some k|_=>none)))=true:=by kernel_rfl
theorem uencs_k30:((Rows.authenticatorEncodesRow.pinned==Rows.authenticatorEncodesRow.pinnedBy))=true:=by kernel_rfl
theorem uencs_k31:((Rows.authenticatorEncodesRow.veiled==(Tryz.f3.params.toList++Rows.authenticatorEncodesSpec.plain.varTypes Tryz.prog++Tryz.f3.resultTypes.toList).any (Tryz.prog.veiledRec ·)))=true:=by kernel_rfl
theorem uencs_k32:(Rows.authenticatorEncodesRow.veiledFits Tryz.prog Tryz.f3.params.toList (Tryz.f3.params.toList++Rows.authenticatorEncodesSpec.plain.varTypes Tryz.prog++Tryz.f3.resultTypes.toList))=true:=by kernel_rfl
theorem uencs_joined:joinedFacts Tryz.prog 3 Tryz.f3 Rows.authenticatorEncodesSpec Rows.authenticatorEncodesRow=true:=
 j0W uencs_k1 j7y j6X uencs_k4 uencs_k5 uencs_k6 j7I uencs_k8 j6b uencs_k10 uencs_k11 uencs_k12 uencs_k13 uencs_k14 uencs_k15 uencs_k16 uencs_k17 uencs_k18 uencs_k19 uencs_k20 uencs_k21 uencs_k22 uencs_k23 uencs_k24 j4q j4m uencs_k27 uencs_k28 uencs_k29 uencs_k30 uencs_k31 uencs_k32
theorem uencs_tabs{W:World}(h:laidMetH Tryz.prog Rows.authenticatorEncodesRow.laid W):TabT (Cx.top W) []:=by
 have b:=j9G h (by kernel_rfl);refine ⟨?_,?_⟩
 . exact λe a=>absurd a (by simp [tabList])
 intro e a;simp only [datList,Bb,Co,or_false] at a;rcases a with rfl|rfl
 . exact z9Y b "watchword/sha.start" .u32 dat_sha_start 1 (by kernel_rfl) (by kernel_rfl) (by kernel_rfl) (by kernel_rfl) (by kernel_rfl) (by kernel_rfl) (by kernel_rfl) (by kernel_rfl) (t:=298) (e:=296) (n:=8)
 exact z9Y b "watchword/sha.constants" .u32 dat_sha_constants 2 (by kernel_rfl) (by kernel_rfl) (by kernel_rfl) (by kernel_rfl) (by kernel_rfl) (by kernel_rfl) (by kernel_rfl) (by kernel_rfl) (t:=324) (e:=296) (n:=64)
theorem uencs_params:∀t∈Tryz.f3.params.toList,Tryz.prog.readableRec t=true/\t<Tryz.prog.types.size:=by
 rw [Tryz.params3];intro t a;simp at a;rcases a with rfl|rfl
 . exact ⟨by kernel_rfl,of_decide_eq_true (by kernel_rfl)⟩
 exact ⟨by kernel_rfl,of_decide_eq_true (by kernel_rfl)⟩
theorem uencs_contract(H:Type)(enc:TypeId×Value->H)(W:World)(base:Nat)(args:Array Value)(i o:List (DataW H))(b:List MemPlace)
 (a:∀ (j:Nat) t v,Tryz.f3.params[j]?=some t->args[j]?=some v->Value.okWide Tryz.prog W .any base t v)
 (m:DataW.Whole enc Tryz.prog Tryz.f3.params.toList Rows.authenticatorEncodesSpec.vars false W args.toList i o b)
 (d:(DataW.weightsEach Tryz.prog (Tryz.f3.params.toList++(OpenSpec.ofChange Rows.authenticatorEncodesSpec).bare.plain.varTypes Tryz.prog) (i++o)).all (· <=reachBytes)=true)(c:laidMetH Tryz.prog Rows.authenticatorEncodesRow.laid W):
 Calls Tryz.prog 3 args W λe w=>∃v,e= .returned v/\Rows.authenticatorEncodesSpec.post enc Tryz.prog Tryz.f3 false true false false W args v w:=by
 have hW':=m;obtain ⟨p,q,h,F,rfl,hfz,hnd⟩:=m;have r:DataW.TrodAll enc Tryz.prog W 0 (λ_=>true) true Tryz.f3.params.toList args.toList i p:=h;rw [Tryz.params3] at r a d;obtain ⟨u,n,C,A,p0,p1,rfl,rfl,rfl,y,B⟩:=trodAll_two r;obtain ⟨rfl,rfl⟩:=trodVars_none F;have k:(DataW.weightsEach Tryz.prog [30,25] [C,A]).all (· <=reachBytes)=true:=d;simp only [DataW.weightsEach] at k;obtain ⟨l,x,o0,r0⟩:=z6P Tryz.underlying30 tyAut (a 0 30 u rfl rfl) y (q1B k).1;obtain ⟨s,D,o1,r1⟩:=z9P (show Tryz.prog.underlying 25=some (.slice 5) by kernel_rfl) (show tyRd Tryz.prog 8 25=some (.slice (.u8)) by kernel_rfl) (a 1 25 n rfl rfl) B (q1B (q1B k).2).1;have f:SV.denL (Cx.top W) [.agg ((AutT).cells l),.isl (.u8) s] [u,n]:=
  q0c.2 ⟨_,_,rfl,x,q0c.2 ⟨_,_,rfl,D,q0I.2 rfl⟩⟩
 refine (z3G (z1s l o0 s) f (uencs_tabs c)).mono λe w ⟨E,z⟩=>⟨_,E,?_⟩;exact j3E laidOutK uencs_params (by kernel_rfl) Tryz.underlying4 rfl hW' rfl z
theorem uencs_met(os:Os):laidMet Tryz.prog Rows.authenticatorEncodesRow.laid ((laidWorld os).forCall (λ_ _=>0) ⟨#[], #[zAtr,.slice none 0 0],[]⟩).memory:=
 laidMet_of_run' 8 (by kernel_rfl) (by kernel_rfl)
theorem uencs_reads(os:Os){H:Type}(enc:TypeId×Value->H):∃places,DataW.whole enc Tryz.prog ((laidWorld os).forCall (λ_ _=>0) ⟨#[], #[zAtr,.slice none 0 0],[]⟩).memory Tryz.f3.params.toList Rows.authenticatorEncodesSpec.vars false #[zAtr,Value.slice none 0 0].toList 8=some ([dAtr,.nil],[],places):=
 ⟨[],by kernel_rfl⟩
theorem uencs_lifted(os:Os)(a:os.Started)(H:Type)(enc:TypeId×Value->H)(F:Stop.Interp):
 ReturnsInHanded {} Tryz.checked os 3 .any ((OpenSpec.ofChange Rows.authenticatorEncodesSpec).preRow enc Tryz.prog Tryz.f3 Rows.authenticatorEncodesRow.domain false Rows.authenticatorEncodesRow.laid) (((OpenSpec.ofChange Rows.authenticatorEncodesSpec).at F).post enc Tryz.prog Tryz.f3 false true false false):=by
 obtain ⟨places,l⟩:=uencs_reads os enc;refine returnsInHanded_of_row (C:=Tryz.checked) (s:=OpenSpec.ofChange Rows.authenticatorEncodesSpec) ownK a (by kernel_rfl) Tryz.func3
  (witness_row_atRef (enc:=enc) (C:=Tryz.checked) false (laidWorld os) #[zAtr,.slice none 0 0] rfl (by kernel_rfl) (by kernel_rfl) (by kernel_rfl)
   (OpenSpec.preRow_of_cond 8 l (by kernel_rfl) (λk h=>by cases h) (by kernel_rfl) (uencs_met os))) ?_
 intro W base args i j b d f _ _ e c _ _;exact uencs_contract H enc W base args i j b d f e c
theorem uencs_named:Tryz.pinned.checked.prog.funcNamed Rows.authenticatorEncodesRow.func=some 3:=by kernel_rfl
theorem uencs_said:Rows.AuthenticatorEncodesSaid:=
 OpenClaim.holds_of_cond 3 Tryz.f3 rfl rfl rfl rfl rfl rfl rfl ⟨rfl,rfl,rfl,rfl,rfl⟩ rfl rfl rfl rfl rfl uencs_named Tryz.func3 uencs_joined
  (of_decide_eq_true (by kernel_rfl)) (by unfold Func.isWrapper;first| (rw [if_pos (by decide+kernel)];kernel_rfl) | (rw [if_neg (by decide+kernel)];exact ⟨rfl,rfl⟩))
  (λos a H enc _ F=>by rw [OpenClaim.pre_eq_preRow];exact uencs_lifted os a H enc F)
theorem uencs_plain(f:FuncId)(fn:Func)(d:Tryz.pinned.checked.prog.funcNamed Rows.authenticatorEncodesRow.func=some f)(a:Tryz.pinned.checked.prog.funcs[f]?=some fn):
 true=Tryz.pinned.checked.prog.looks []/\∀ (j:Nat) t,fn.params[j]?=some t->Tryz.pinned.checked.prog.wantsStandIn t=false:=by
 obtain rfl:f=3:=Option.some.inj ((show Tryz.prog.funcNamed Rows.authenticatorEncodesRow.func=some 3 by kernel_rfl).symm.trans d) |>.symm;obtain rfl:fn=Tryz.f3:=(Option.some.inj (Tryz.func3.symm.trans a)).symm;refine ⟨by kernel_rfl,λj t c=> ?_⟩;rw [Tryz.params3] at c;have b:=Array.mem_of_getElem? c;simp at b;rcases b with rfl|rfl
 . exact (show Tryz.prog.wantsStandIn 30=false by kernel_rfl)
 exact (show Tryz.prog.wantsStandIn 25=false by kernel_rfl)
theorem uencs_card:Rows.AuthenticatorEncodesCardSaid:=
 Claim7.holds_tied_plain_at .later [] _ _ _ _ uencs_said (λ_ h=>by cases h) (by kernel_rfl) (λ_ h=>by cases h) authenticatorEncodes_row_tie rfl ⟨rfl,rfl⟩ (by kernel_rfl) rfl uencs_plain (by kernel_rfl)

end Go.Proofs.YthbcodbcndiapaaGreatDoor