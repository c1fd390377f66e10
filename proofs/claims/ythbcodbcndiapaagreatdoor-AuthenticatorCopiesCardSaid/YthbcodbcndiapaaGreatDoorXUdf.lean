/- AuthenticatorCopies: for all authenticators the law answers true, and its arguments read as they did. -/
import Derived.Test.YthbcodbcndiapaaGreatDoorX12
import Derived.Test.YthbcodbcndiapaaGreatDoorX14
set_option linter.all false
namespace Go.Proofs.YthbcodbcndiapaaGreatDoor
open Go Go.Sx Go.ChangeShapes Go.WideShapes Go.ChangeAt Go.RowKit
set_option maxRecDepth 100000
theorem ucopies_k1:(Rows.authenticatorCopiesRow.wf (OpenSpec.ofChange Rows.authenticatorCopiesSpec))=true:=by kernel_rfl
theorem ucopies_k4:(Tryz.f7.params.all (Tryz.prog.readableRec ·))=true:=by kernel_rfl
theorem ucopies_k5:(namedTie Tryz.prog Rows.authenticatorCopiesRow.named Rows.authenticatorCopiesSpec.vars)=true:=by kernel_rfl
theorem ucopies_k6:((Rows.authenticatorCopiesRow.stops== []))=true:=by kernel_rfl
theorem ucopies_k8:((Rows.authenticatorCopiesRow.knobs== []))=true:=by kernel_rfl
theorem ucopies_k10:((Rows.authenticatorCopiesRow.inPlace==Tryz.prog.inPlace 7))=true:=by kernel_rfl
theorem ucopies_k11:((Rows.authenticatorCopiesRow.unfollowed==Tryz.prog.unfollowed 7))=true:=by kernel_rfl
theorem ucopies_k12:((Rows.authenticatorCopiesRow.recurses==Tryz.prog.recurses 7))=true:=by kernel_rfl
theorem ucopies_k13:((Rows.authenticatorCopiesRow.named==Tryz.prog.varsNamed 7))=true:=by kernel_rfl
theorem ucopies_k14:((Rows.authenticatorCopiesRow.maps==(Tryz.f7.params.toList++Rows.authenticatorCopiesSpec.plain.varTypes Tryz.prog).any (Tryz.prog.mapsRec ·)))=true:=by kernel_rfl
theorem ucopies_k15:((Rows.authenticatorCopiesRow.ifaces==(Tryz.f7.params.toList++Rows.authenticatorCopiesSpec.plain.varTypes Tryz.prog).any (Tryz.prog.ifacesRec ·)))=true:=by kernel_rfl
theorem ucopies_k16:((Rows.authenticatorCopiesRow.mapsOut==Tryz.prog.mapsAmong Tryz.f7.resultTypes.toList))=true:=by kernel_rfl
theorem ucopies_k17:((Rows.authenticatorCopiesRow.loops==(Tryz.f7.params.toList++Rows.authenticatorCopiesSpec.plain.varTypes Tryz.prog).any (Tryz.prog.loopsFrom ·)))=true:=by kernel_rfl
theorem ucopies_k18:((Rows.authenticatorCopiesRow.wideKeys==(Tryz.f7.params.toList++Rows.authenticatorCopiesSpec.plain.varTypes Tryz.prog++Tryz.f7.resultTypes.toList).any (Tryz.prog.wideKeysFrom ·)))=true:=by kernel_rfl
theorem ucopies_k19:(Rows.authenticatorCopiesSpec.vars.all (Tryz.prog.varReadable ·))=true:=by kernel_rfl
theorem ucopies_k20:(Tryz.f7.resultTypes.all (λt=>Tryz.prog.readableRec t&& decide (t<Tryz.prog.types.size)))=true:=by kernel_rfl
theorem ucopies_k21:((Rows.authenticatorCopiesRow.ifacesOut==Tryz.f7.resultTypes.toList.any (Tryz.prog.ifacesRec ·)))=true:=by kernel_rfl
theorem ucopies_k22:((Rows.authenticatorCopiesRow.loopsOut==Tryz.f7.resultTypes.toList.any (Tryz.prog.loopsFrom ·)))=true:=by kernel_rfl
theorem ucopies_k23:((Rows.authenticatorCopiesRow.plainKeys==Tryz.prog.plainKeys))=true:=by kernel_rfl
theorem ucopies_k24:(Rows.authenticatorCopiesRow.shortTexts.isNone)=true:=by kernel_rfl
theorem ucopies_k27:((Rows.authenticatorCopiesRow.lifted==Tryz.prog.liftsFinal))=true:=by kernel_rfl
theorem ucopies_k28:((Tryz.prog.make==some Rows.authenticatorCopiesRow.make))=true:=by kernel_rfl
theorem ucopies_k29:((Rows.authenticatorCopiesRow.kinds==(if Rows.authenticatorCopiesRow.domain.isEmpty then [] else Tryz.f7.params.toList.map λt=>match Tryz.prog.underlying t with|some (.int k)=>some k|_=>none)))=true:=by kernel_rfl
theorem ucopies_k30:((Rows.authenticatorCopiesRow.pinned==Rows.authenticatorCopiesRow.pinnedBy))=true:=by kernel_rfl
theorem ucopies_k31:((Rows.authenticatorCopiesRow.veiled==(Tryz.f7.params.toList++Rows.authenticatorCopiesSpec.plain.varTypes Tryz.prog++Tryz.f7.resultTypes.toList).any (Tryz.prog.veiledRec ·)))=true:=by kernel_rfl
theorem ucopies_k32:(Rows.authenticatorCopiesRow.veiledFits Tryz.prog Tryz.f7.params.toList (Tryz.f7.params.toList++Rows.authenticatorCopiesSpec.plain.varTypes Tryz.prog++Tryz.f7.resultTypes.toList))=true:=by kernel_rfl
theorem ucopies_joined:joinedFacts Tryz.prog 7 Tryz.f7 Rows.authenticatorCopiesSpec Rows.authenticatorCopiesRow=true:=
 z9j ucopies_k1 j5i j4F ucopies_k4 ucopies_k5 ucopies_k6 j5r ucopies_k8 j3M ucopies_k10 ucopies_k11 ucopies_k12 ucopies_k13 ucopies_k14 ucopies_k15 ucopies_k16 ucopies_k17 ucopies_k18 ucopies_k19 ucopies_k20 ucopies_k21 ucopies_k22 ucopies_k23 ucopies_k24 j2g j2b ucopies_k27 ucopies_k28 ucopies_k29 ucopies_k30 ucopies_k31 ucopies_k32
theorem ucopies_tabs{W:World}(h:laidMetH Tryz.prog Rows.authenticatorCopiesRow.laid W):TabT (Cx.top W) []:=by
 have b:=j7e h (by kernel_rfl);refine ⟨?_,?_⟩
 . exact λe a=>absurd a (by simp [tabList])
 intro e a;simp only [datList,Ba,Cl,or_false] at a;rcases a with rfl|rfl
 . exact z8o b "watchword/sha.start" .u32 dat_sha_start 1 (by kernel_rfl) (by kernel_rfl) (by kernel_rfl) (by kernel_rfl) (by kernel_rfl) (by kernel_rfl) (by kernel_rfl) (by kernel_rfl) (t:=298) (e:=296) (n:=8)
 exact z8o b "watchword/sha.constants" .u32 dat_sha_constants 2 (by kernel_rfl) (by kernel_rfl) (by kernel_rfl) (by kernel_rfl) (by kernel_rfl) (by kernel_rfl) (by kernel_rfl) (by kernel_rfl) (t:=324) (e:=296) (n:=64)
theorem ucopies_params:∀t∈Tryz.f7.params.toList,Tryz.prog.readableRec t=true/\t<Tryz.prog.types.size:=by rw [Tryz.params7];intro t a;simp at a;obtain rfl:=a;exact ⟨by kernel_rfl,of_decide_eq_true (by kernel_rfl)⟩
theorem ucopies_contract(H:Type)(enc:TypeId×Value->H)(W:World)(base:Nat)(args:Array Value)(i n:List (DataW H))(b:List MemPlace)
 (a:∀ (j:Nat) t v,Tryz.f7.params[j]?=some t->args[j]?=some v->Value.okWide Tryz.prog W .any base t v)
 (m:DataW.Whole enc Tryz.prog Tryz.f7.params.toList Rows.authenticatorCopiesSpec.vars false W args.toList i n b)
 (d:(DataW.weightsEach Tryz.prog (Tryz.f7.params.toList++(OpenSpec.ofChange Rows.authenticatorCopiesSpec).bare.plain.varTypes Tryz.prog) (i++n)).all (· <=reachBytes)=true)(c:laidMetH Tryz.prog Rows.authenticatorCopiesRow.laid W):
 Calls Tryz.prog 7 args W λe w=>∃v,e= .returned v/\Rows.authenticatorCopiesSpec.post enc Tryz.prog Tryz.f7 false true false false W args v w:=by
 have hW':=m;obtain ⟨p,q,h,D,rfl,hfz,hnd⟩:=m;have r:DataW.TrodAll enc Tryz.prog W 0 (λ_=>true) true Tryz.f7.params.toList args.toList i p:=h;rw [Tryz.params7] at r a d;obtain ⟨u,o,d0,d1,p0,p1,rfl,rfl,rfl,y,A⟩:=trodAll_two r;obtain ⟨rfl,rfl⟩:=trodVars_none D;have k:(DataW.weightsEach Tryz.prog [30,30] [d0,d1]).all (· <=reachBytes)=true:=d;simp only [DataW.weightsEach] at k;obtain ⟨l,x,o0,r0⟩:=q8A Tryz.underlying30 tyAut (a 0 30 u rfl rfl) y (q1s k).1;obtain ⟨s,B,o1,r1⟩:=q8A Tryz.underlying30 tyAut (a 1 30 o rfl rfl) A (q1s (q1s k).2).1;have f:SV.denL (Cx.top W) [.agg ((AutT).cells l),.agg ((AutT).cells s)] [u,o]:=
  q0c.2 ⟨_,_,rfl,x,q0c.2 ⟨_,_,rfl,B,q0y.2 rfl⟩⟩
 refine (z2s (z0N l o0 s o1) f (ucopies_tabs c)).mono λe w ⟨C,z⟩=>⟨_,C,?_⟩;exact j1A laidOutK ucopies_params (by kernel_rfl) Tryz.underlying4 rfl hW' rfl z
theorem ucopies_met(os:Os):laidMet Tryz.prog Rows.authenticatorCopiesRow.laid ((laidWorld os).forCall (λ_ _=>0) ⟨#[], #[zAtr,zAtr],[]⟩).memory:=
 laidMet_of_run' 8 (by kernel_rfl) (by kernel_rfl)
theorem ucopies_reads(os:Os){H:Type}(enc:TypeId×Value->H):∃places,DataW.whole enc Tryz.prog ((laidWorld os).forCall (λ_ _=>0) ⟨#[], #[zAtr,zAtr],[]⟩).memory Tryz.f7.params.toList Rows.authenticatorCopiesSpec.vars false #[zAtr,zAtr].toList 8=some ([dAtr,dAtr],[],places):=
 ⟨[],by kernel_rfl⟩
theorem ucopies_lifted(os:Os)(a:os.Started)(H:Type)(enc:TypeId×Value->H)(F:Stop.Interp):
 ReturnsInHanded {} Tryz.checked os 7 .any ((OpenSpec.ofChange Rows.authenticatorCopiesSpec).preRow enc Tryz.prog Tryz.f7 Rows.authenticatorCopiesRow.domain false Rows.authenticatorCopiesRow.laid) (((OpenSpec.ofChange Rows.authenticatorCopiesSpec).at F).post enc Tryz.prog Tryz.f7 false true false false):=by
 obtain ⟨places,l⟩:=ucopies_reads os enc;refine returnsInHanded_of_row (C:=Tryz.checked) (s:=OpenSpec.ofChange Rows.authenticatorCopiesSpec) ownK a (by kernel_rfl) Tryz.func7
  (witness_row_atRef (enc:=enc) (C:=Tryz.checked) false (laidWorld os) #[zAtr,zAtr] rfl (by kernel_rfl) (by kernel_rfl) (by kernel_rfl)
   (OpenSpec.preRow_of_cond 8 l (by kernel_rfl) (λk h=>by cases h) (by kernel_rfl) (ucopies_met os))) ?_
 intro W base args i j b d f _ _ e c _ _;exact ucopies_contract H enc W base args i j b d f e c
theorem ucopies_named:Tryz.pinned.checked.prog.funcNamed Rows.authenticatorCopiesRow.func=some 7:=by kernel_rfl
theorem ucopies_said:Rows.AuthenticatorCopiesSaid:=
 OpenClaim.holds_of_cond 7 Tryz.f7 rfl rfl rfl rfl rfl rfl rfl ⟨rfl,rfl,rfl,rfl,rfl⟩ rfl rfl rfl rfl rfl ucopies_named Tryz.func7 ucopies_joined
  (of_decide_eq_true (by kernel_rfl)) (by unfold Func.isWrapper;first| (rw [if_pos (by decide+kernel)];kernel_rfl) | (rw [if_neg (by decide+kernel)];exact ⟨rfl,rfl⟩))
  (λos a H enc _ F=>by rw [OpenClaim.pre_eq_preRow];exact ucopies_lifted os a H enc F)
theorem ucopies_plain(f:FuncId)(fn:Func)(d:Tryz.pinned.checked.prog.funcNamed Rows.authenticatorCopiesRow.func=some f)(a:Tryz.pinned.checked.prog.funcs[f]?=some fn):
 true=Tryz.pinned.checked.prog.looks []/\∀ (j:Nat) t,fn.params[j]?=some t->Tryz.pinned.checked.prog.wantsStandIn t=false:=by
 obtain rfl:f=7:=Option.some.inj ((show Tryz.prog.funcNamed Rows.authenticatorCopiesRow.func=some 7 by kernel_rfl).symm.trans d) |>.symm;obtain rfl:fn=Tryz.f7:=(Option.some.inj (Tryz.func7.symm.trans a)).symm;refine ⟨by kernel_rfl,λj t c=> ?_⟩;rw [Tryz.params7] at c;have b:=Array.mem_of_getElem? c;simp at b;obtain rfl:=b;exact (show Tryz.prog.wantsStandIn 30=false by kernel_rfl)
theorem ucopies_card:Rows.AuthenticatorCopiesCardSaid:=
 Claim7.holds_tied_plain_at .later [] _ _ _ _ ucopies_said (λ_ h=>by cases h) (by kernel_rfl) (λ_ h=>by cases h) authenticatorCopies_row_tie rfl ⟨rfl,rfl⟩ (by kernel_rfl) rfl ucopies_plain (by kernel_rfl)

end Go.Proofs.YthbcodbcndiapaaGreatDoor