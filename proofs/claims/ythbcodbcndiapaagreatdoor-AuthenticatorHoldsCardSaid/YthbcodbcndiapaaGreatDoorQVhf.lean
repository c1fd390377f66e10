/- AuthenticatorHolds: for all keys, usages, authenticators, confounders, principals and times the law answers true, and its arguments read as they did. -/
import Derived.Test.YthbcodbcndiapaaGreatDoorQ13
import Derived.Test.YthbcodbcndiapaaGreatDoorQ15
set_option linter.all false
namespace Go.Proofs.YthbcodbcndiapaaGreatDoor
open Go Go.Sx Go.ChangeShapes Go.WideShapes Go.ChangeAt Go.RowKit
set_option maxRecDepth 100000
theorem trodAll_N7{H:Type}{enc:TypeId×Value->H}{P:Program}{w:World}{base:Nat}{a:Nat->Bool}{b:Bool}{F G A B C I D:TypeId}{args:Array Value}{E:List (DataW H)}{ps:List MemPlace}(h:DataW.TrodAll enc P w base a b [F,G,A,B,C,I,D] args.toList E ps):
 ∃y o s k u z l q n e i v t p x r j c f d m,args= #[y,o,s,k,u,z,l]/\E= [q,n,e,i,v,t,p]/\ps=x++r++j++c++f++d++m/\DataW.Trod enc P w base a b F y q x/\DataW.Trod enc P w base a b G o n r/\DataW.Trod enc P w base a b A s e j/\DataW.Trod enc P w base a b B k i c/\DataW.Trod enc P w base a b C u v f/\DataW.Trod enc P w base a b I z t d/\DataW.Trod enc P w base a b D l p m:=by
 obtain ⟨y,vs0,q,ds0,x,q0,hargs,rfl,rfl,L,Q⟩:=trodAll_cons h;obtain ⟨o,vs1,n,ds1,r,q1,rfl,rfl,rfl,R,V⟩:=trodAll_cons Q;obtain ⟨s,vs2,e,ds2,j,q2,rfl,rfl,rfl,K,N⟩:=trodAll_cons V;obtain ⟨k,vs3,i,ds3,c,q3,rfl,rfl,rfl,W,Z⟩:=trodAll_cons N;obtain ⟨u,vs4,v,ds4,f,q4,rfl,rfl,rfl,O,U⟩:=trodAll_cons Z;obtain ⟨z,vs5,t,ds5,d,q5,rfl,rfl,rfl,S,Y⟩:=trodAll_cons U;obtain ⟨l,vs6,p,ds6,m,q6,rfl,rfl,rfl,X,J⟩:=trodAll_cons Y;obtain ⟨rfl,rfl,rfl⟩:=trodAll_nil J;exact ⟨y,o,s,k,u,z,l,q,n,e,i,v,t,p,x,r,j,c,f,d,m,by cases args;simp_all,rfl,by simp,L,R,K,W,O,S,X⟩
theorem uholds_k1:(Rows.authenticatorHoldsRow.wf (OpenSpec.ofChange Rows.authenticatorHoldsSpec))=true:=by kernel_rfl
theorem uholds_k4:(Tryz.f6.params.all (Tryz.prog.readableRec ·))=true:=by kernel_rfl
theorem uholds_k5:(namedTie Tryz.prog Rows.authenticatorHoldsRow.named Rows.authenticatorHoldsSpec.vars)=true:=by kernel_rfl
theorem uholds_k6:((Rows.authenticatorHoldsRow.stops== []))=true:=by kernel_rfl
theorem uholds_k8:((Rows.authenticatorHoldsRow.knobs== []))=true:=by kernel_rfl
theorem uholds_k10:((Rows.authenticatorHoldsRow.inPlace==Tryz.prog.inPlace 6))=true:=by kernel_rfl
theorem uholds_k11:((Rows.authenticatorHoldsRow.unfollowed==Tryz.prog.unfollowed 6))=true:=by kernel_rfl
theorem uholds_k12:((Rows.authenticatorHoldsRow.recurses==Tryz.prog.recurses 6))=true:=by kernel_rfl
theorem uholds_k13:((Rows.authenticatorHoldsRow.named==Tryz.prog.varsNamed 6))=true:=by kernel_rfl
theorem uholds_k14:((Rows.authenticatorHoldsRow.maps==(Tryz.f6.params.toList++Rows.authenticatorHoldsSpec.plain.varTypes Tryz.prog).any (Tryz.prog.mapsRec ·)))=true:=by kernel_rfl
theorem uholds_k15:((Rows.authenticatorHoldsRow.ifaces==(Tryz.f6.params.toList++Rows.authenticatorHoldsSpec.plain.varTypes Tryz.prog).any (Tryz.prog.ifacesRec ·)))=true:=by kernel_rfl
theorem uholds_k16:((Rows.authenticatorHoldsRow.mapsOut==Tryz.prog.mapsAmong Tryz.f6.resultTypes.toList))=true:=by kernel_rfl
theorem uholds_k17:((Rows.authenticatorHoldsRow.loops==(Tryz.f6.params.toList++Rows.authenticatorHoldsSpec.plain.varTypes Tryz.prog).any (Tryz.prog.loopsFrom ·)))=true:=by kernel_rfl
theorem uholds_k18:((Rows.authenticatorHoldsRow.wideKeys==(Tryz.f6.params.toList++Rows.authenticatorHoldsSpec.plain.varTypes Tryz.prog++Tryz.f6.resultTypes.toList).any (Tryz.prog.wideKeysFrom ·)))=true:=by kernel_rfl
theorem uholds_k19:(Rows.authenticatorHoldsSpec.vars.all (Tryz.prog.varReadable ·))=true:=by kernel_rfl
theorem uholds_k20:(Tryz.f6.resultTypes.all (λt=>Tryz.prog.readableRec t&& decide (t<Tryz.prog.types.size)))=true:=by kernel_rfl
theorem uholds_k21:((Rows.authenticatorHoldsRow.ifacesOut==Tryz.f6.resultTypes.toList.any (Tryz.prog.ifacesRec ·)))=true:=by kernel_rfl
theorem uholds_k22:((Rows.authenticatorHoldsRow.loopsOut==Tryz.f6.resultTypes.toList.any (Tryz.prog.loopsFrom ·)))=true:=by kernel_rfl
theorem uholds_k23:((Rows.authenticatorHoldsRow.plainKeys==Tryz.prog.plainKeys))=true:=by kernel_rfl
theorem uholds_k24:(Rows.authenticatorHoldsRow.shortTexts.isNone)=true:=by kernel_rfl
theorem uholds_k27:((Rows.authenticatorHoldsRow.lifted==Tryz.prog.liftsFinal))=true:=by kernel_rfl
theorem uholds_k28:((Tryz.prog.make==some Rows.authenticatorHoldsRow.make))=true:=by kernel_rfl
theorem uholds_k29:((Rows.authenticatorHoldsRow.kinds==(if Rows.authenticatorHoldsRow.domain.isEmpty then [] else Tryz.f6.params.toList.map λt=>match Tryz.prog.underlying t with|some (.int k)=>some k|_=>none)))=true:=by kernel_rfl
theorem uholds_k30:((Rows.authenticatorHoldsRow.pinned==Rows.authenticatorHoldsRow.pinnedBy))=true:=by kernel_rfl
theorem uholds_k31:((Rows.authenticatorHoldsRow.veiled==(Tryz.f6.params.toList++Rows.authenticatorHoldsSpec.plain.varTypes Tryz.prog++Tryz.f6.resultTypes.toList).any (Tryz.prog.veiledRec ·)))=true:=by kernel_rfl
theorem uholds_k32:(Rows.authenticatorHoldsRow.veiledFits Tryz.prog Tryz.f6.params.toList (Tryz.f6.params.toList++Rows.authenticatorHoldsSpec.plain.varTypes Tryz.prog++Tryz.f6.resultTypes.toList))=true:=by kernel_rfl
theorem uholds_joined:joinedFacts Tryz.prog 6 Tryz.f6 Rows.authenticatorHoldsSpec Rows.authenticatorHoldsRow=true:=
 z3x uholds_k1 j0r z9P uholds_k4 uholds_k5 uholds_k6 j0B uholds_k8 z8D uholds_k10 uholds_k11 uholds_k12 uholds_k13 uholds_k14 uholds_k15 uholds_k16 uholds_k17 uholds_k18 uholds_k19 uholds_k20 uholds_k21 uholds_k22 uholds_k23 uholds_k24 z6P z6M uholds_k27 uholds_k28 uholds_k29 uholds_k30 uholds_k31 uholds_k32
theorem uholds_tabs{W:World}(h:laidMetH Tryz.prog Rows.authenticatorHoldsRow.laid W):TabT (Cx.top W) []:=by
 have b:=j5d h (by kernel_rfl);refine ⟨?_,?_⟩
 . exact λe a=>absurd a (by simp [tabList])
 intro e a;simp only [datList,A3,Cb,or_false] at a;rcases a with rfl|rfl
 . exact z1p b "watchword/sha.start" .u32 dat_sha_start 1 (by kernel_rfl) (by kernel_rfl) (by kernel_rfl) (by kernel_rfl) (by kernel_rfl) (by kernel_rfl) (by kernel_rfl) (by kernel_rfl) (t:=298) (e:=296) (n:=8)
 exact z1p b "watchword/sha.constants" .u32 dat_sha_constants 2 (by kernel_rfl) (by kernel_rfl) (by kernel_rfl) (by kernel_rfl) (by kernel_rfl) (by kernel_rfl) (by kernel_rfl) (by kernel_rfl) (t:=324) (e:=296) (n:=64)
theorem uholds_params:∀t∈Tryz.f6.params.toList,Tryz.prog.readableRec t=true/\t<Tryz.prog.types.size:=by
 rw [Tryz.params6];intro t a;simp at a;rcases a with rfl|rfl|rfl|rfl|rfl|rfl
 . exact ⟨by kernel_rfl,of_decide_eq_true (by kernel_rfl)⟩
 . exact ⟨by kernel_rfl,of_decide_eq_true (by kernel_rfl)⟩
 . exact ⟨by kernel_rfl,of_decide_eq_true (by kernel_rfl)⟩
 . exact ⟨by kernel_rfl,of_decide_eq_true (by kernel_rfl)⟩
 . exact ⟨by kernel_rfl,of_decide_eq_true (by kernel_rfl)⟩
 exact ⟨by kernel_rfl,of_decide_eq_true (by kernel_rfl)⟩
theorem uholds_contract(H:Type)(enc:TypeId×Value->H)(W:World)(base:Nat)(args:Array Value)(k x:List (DataW H))(b:List MemPlace)
 (a:∀ (j:Nat) t v,Tryz.f6.params[j]?=some t->args[j]?=some v->Value.okWide Tryz.prog W .any base t v)
 (w:DataW.Whole enc Tryz.prog Tryz.f6.params.toList Rows.authenticatorHoldsSpec.vars false W args.toList k x b)
 (d:(DataW.weightsEach Tryz.prog (Tryz.f6.params.toList++(OpenSpec.ofChange Rows.authenticatorHoldsSpec).bare.plain.varTypes Tryz.prog) (k++x)).all (· <=reachBytes)=true)(c:laidMetH Tryz.prog Rows.authenticatorHoldsRow.laid W):
 Calls Tryz.prog 6 args W λe D=>∃v,e= .returned v/\Rows.authenticatorHoldsSpec.post enc Tryz.prog Tryz.f6 false true false false W args v D:=by
 have hW':=w;obtain ⟨p,q,i,hV,rfl,hfz,hnd⟩:=w;have y:DataW.TrodAll enc Tryz.prog W 0 (λ_=>true) true Tryz.f6.params.toList args.toList k p:=i;rw [Tryz.params6] at y a d;obtain ⟨C,Q,z,r,A,K,J,Y,P,F,G,d4,d5,U,p0,p1,p2,p3,p4,p5,p6,rfl,rfl,rfl,L,R,I,h3,O,S,h6⟩:=trodAll_N7 y;obtain ⟨rfl,rfl⟩:=trodVars_none hV;have f:(DataW.weightsEach Tryz.prog [27,3,30,25,24,3,3] [Y,P,F,G,d4,d5,U]).all (· <=reachBytes)=true:=d;simp only [DataW.weightsEach] at f;obtain ⟨o,E,o0,r0⟩:=q4C Tryz.underlying27 tyPck (a 0 27 C rfl rfl) L (q0s f).1;obtain ⟨m,rfl,rfl,rfl,_⟩:=open_int Tryz.underlying3 (a 1 3 Q rfl rfl) R;obtain ⟨B,V,X,r2⟩:=q4C Tryz.underlying30 tyAut (a 2 30 z rfl rfl) I (q0s (q0s (q0s f).2).2).1;obtain ⟨u,e3,Z,r3⟩:=z2V (show Tryz.prog.underlying 25=some (.slice 5) by kernel_rfl) (show tyRd Tryz.prog 8 25=some (.slice (.u8)) by kernel_rfl) (a 3 25 r rfl rfl) h3 (q0s (q0s (q0s (q0s f).2).2).2).1;obtain ⟨s,e4,o4,r4⟩:=q4C Tryz.underlying24 tyPcn (a 4 24 A rfl rfl) O (q0s (q0s (q0s (q0s (q0s f).2).2).2).2).1;obtain ⟨l,rfl,rfl,rfl,_⟩:=open_int Tryz.underlying3 (a 5 3 K rfl rfl) S;obtain ⟨n,rfl,rfl,rfl,_⟩:=open_int Tryz.underlying3 (a 6 3 J rfl rfl) h6;have h:SV.denL (Cx.top W) [.agg ((KeyT).cells o),rI m,.agg ((AutT).cells B),.isl (.u8) u,.agg ((PrinT).cells s),rI l,rI n] [C,(.int .i64 m),z,r,A,(.int .i64 l),(.int .i64 n)]:=
  q0c.2 ⟨_,_,rfl,E,q0c.2 ⟨_,_,rfl,by rw [SV.den],q0c.2 ⟨_,_,rfl,V,q0c.2 ⟨_,_,rfl,e3,q0c.2 ⟨_,_,rfl,e4,q0c.2 ⟨_,_,rfl,by rw [SV.den],q0c.2 ⟨_,_,rfl,by rw [SV.den],q0K.2 rfl⟩⟩⟩⟩⟩⟩⟩
 refine (q8k (z5d o o0 m B X u Z s o4 l n) h (uholds_tabs c)).mono λe D ⟨he,N⟩=>⟨_,he,?_⟩;exact z6t laidOutK uholds_params (by kernel_rfl) Tryz.underlying4 rfl hW' rfl N
theorem uholds_met(os:Os):laidMet Tryz.prog Rows.authenticatorHoldsRow.laid ((laidWorld os).forCall (λ_ _=>0) ⟨#[], #[zPck,.int .i64 0,zAtr,.slice none 0 0,zPcn,.int .i64 0,.int .i64 0],[]⟩).memory:=
 laidMet_of_run' 8 (by kernel_rfl) (by kernel_rfl)
theorem uholds_reads(os:Os){H:Type}(enc:TypeId×Value->H):∃places,DataW.whole enc Tryz.prog ((laidWorld os).forCall (λ_ _=>0) ⟨#[], #[zPck,.int .i64 0,zAtr,.slice none 0 0,zPcn,.int .i64 0,.int .i64 0],[]⟩).memory Tryz.f6.params.toList Rows.authenticatorHoldsSpec.vars false #[zPck,Value.int .i64 0,zAtr,Value.slice none 0 0,zPcn,Value.int .i64 0,Value.int .i64 0].toList 8=some ([dPck,dI,dAtr,.nil,dPcn,dI,dI],[],places):=
 ⟨[],by kernel_rfl⟩
theorem uholds_lifted(os:Os)(a:os.Started)(H:Type)(enc:TypeId×Value->H)(F:Stop.Interp):
 ReturnsInHanded {} Tryz.checked os 6 .any ((OpenSpec.ofChange Rows.authenticatorHoldsSpec).preRow enc Tryz.prog Tryz.f6 Rows.authenticatorHoldsRow.domain false Rows.authenticatorHoldsRow.laid) (((OpenSpec.ofChange Rows.authenticatorHoldsSpec).at F).post enc Tryz.prog Tryz.f6 false true false false):=by
 obtain ⟨places,l⟩:=uholds_reads os enc;refine returnsInHanded_of_row (C:=Tryz.checked) (s:=OpenSpec.ofChange Rows.authenticatorHoldsSpec) ownK a (by kernel_rfl) Tryz.func6
  (witness_row_atRef (enc:=enc) (C:=Tryz.checked) false (laidWorld os) #[zPck,.int .i64 0,zAtr,.slice none 0 0,zPcn,.int .i64 0,.int .i64 0] rfl (by kernel_rfl) (by kernel_rfl) (by kernel_rfl)
   (OpenSpec.preRow_of_cond 8 l (by kernel_rfl) (λk h=>by cases h) (by kernel_rfl) (uholds_met os))) ?_
 intro W base args i j b d f _ _ e c _ _;exact uholds_contract H enc W base args i j b d f e c
theorem uholds_named:Tryz.pinned.checked.prog.funcNamed Rows.authenticatorHoldsRow.func=some 6:=by kernel_rfl
theorem uholds_said:Rows.AuthenticatorHoldsSaid:=
 OpenClaim.holds_of_cond 6 Tryz.f6 rfl rfl rfl rfl rfl rfl rfl ⟨rfl,rfl,rfl,rfl,rfl⟩ rfl rfl rfl rfl rfl uholds_named Tryz.func6 uholds_joined
  (of_decide_eq_true (by kernel_rfl)) (by unfold Func.isWrapper;first| (rw [if_pos (by decide+kernel)];kernel_rfl) | (rw [if_neg (by decide+kernel)];exact ⟨rfl,rfl⟩))
  (λos a H enc _ F=>by rw [OpenClaim.pre_eq_preRow];exact uholds_lifted os a H enc F)
theorem uholds_plain(f:FuncId)(fn:Func)(d:Tryz.pinned.checked.prog.funcNamed Rows.authenticatorHoldsRow.func=some f)(a:Tryz.pinned.checked.prog.funcs[f]?=some fn):
 true=Tryz.pinned.checked.prog.looks []/\∀ (j:Nat) t,fn.params[j]?=some t->Tryz.pinned.checked.prog.wantsStandIn t=false:=by
 obtain rfl:f=6:=Option.some.inj ((show Tryz.prog.funcNamed Rows.authenticatorHoldsRow.func=some 6 by kernel_rfl).symm.trans d) |>.symm;obtain rfl:fn=Tryz.f6:=(Option.some.inj (Tryz.func6.symm.trans a)).symm;refine ⟨by kernel_rfl,λj t c=> ?_⟩;rw [Tryz.params6] at c;have b:=Array.mem_of_getElem? c;simp at b;rcases b with rfl|rfl|rfl|rfl|rfl|rfl
 . exact (show Tryz.prog.wantsStandIn 27=false by kernel_rfl)
 . exact (show Tryz.prog.wantsStandIn 3=false by kernel_rfl)
 . exact (show Tryz.prog.wantsStandIn 30=false by kernel_rfl)
 . exact (show Tryz.prog.wantsStandIn 25=false by kernel_rfl)
 . exact (show Tryz.prog.wantsStandIn 24=false by kernel_rfl)
 exact (show Tryz.prog.wantsStandIn 3=false by kernel_rfl)
theorem uholds_card:Rows.AuthenticatorHoldsCardSaid:=
 Claim7.holds_tied_plain_at .later [] _ _ _ _ uholds_said (λ_ h=>by cases h) (by kernel_rfl) (λ_ h=>by cases h) authenticatorHolds_row_tie rfl ⟨rfl,rfl⟩ (by kernel_rfl) rfl uholds_plain (by kernel_rfl)

end Go.Proofs.YthbcodbcndiapaaGreatDoor