/- AuthenticatorChecks: for all authenticators, clients and numbers the law answers true, and its arguments read as they did. -/
import Derived.Test.YthbcodbcndiapaaGreatDoorP19
import Derived.Test.YthbcodbcndiapaaGreatDoorP21
set_option linter.all false
namespace Go.Proofs.YthbcodbcndiapaaGreatDoor
open Go Go.Sx Go.ChangeShapes Go.WideShapes Go.ChangeAt Go.RowKit
set_option maxRecDepth 100000
theorem uchecks_k1:(Rows.authenticatorChecksRow.wf (OpenSpec.ofChange Rows.authenticatorChecksSpec))=true:=by kernel_rfl
theorem uchecks_k4:(Tryz.f5.params.all (Tryz.prog.readableRec ·))=true:=by kernel_rfl
theorem uchecks_k5:(namedTie Tryz.prog Rows.authenticatorChecksRow.named Rows.authenticatorChecksSpec.vars)=true:=by kernel_rfl
theorem uchecks_k6:((Rows.authenticatorChecksRow.stops== []))=true:=by kernel_rfl
theorem uchecks_k8:((Rows.authenticatorChecksRow.knobs== []))=true:=by kernel_rfl
theorem uchecks_k10:((Rows.authenticatorChecksRow.inPlace==Tryz.prog.inPlace 5))=true:=by kernel_rfl
theorem uchecks_k11:((Rows.authenticatorChecksRow.unfollowed==Tryz.prog.unfollowed 5))=true:=by kernel_rfl
theorem uchecks_k12:((Rows.authenticatorChecksRow.recurses==Tryz.prog.recurses 5))=true:=by kernel_rfl
theorem uchecks_k13:((Rows.authenticatorChecksRow.named==Tryz.prog.varsNamed 5))=true:=by kernel_rfl
theorem uchecks_k14:((Rows.authenticatorChecksRow.maps==(Tryz.f5.params.toList++Rows.authenticatorChecksSpec.plain.varTypes Tryz.prog).any (Tryz.prog.mapsRec ·)))=true:=by kernel_rfl
theorem uchecks_k15:((Rows.authenticatorChecksRow.ifaces==(Tryz.f5.params.toList++Rows.authenticatorChecksSpec.plain.varTypes Tryz.prog).any (Tryz.prog.ifacesRec ·)))=true:=by kernel_rfl
theorem uchecks_k16:((Rows.authenticatorChecksRow.mapsOut==Tryz.prog.mapsAmong Tryz.f5.resultTypes.toList))=true:=by kernel_rfl
theorem uchecks_k17:((Rows.authenticatorChecksRow.loops==(Tryz.f5.params.toList++Rows.authenticatorChecksSpec.plain.varTypes Tryz.prog).any (Tryz.prog.loopsFrom ·)))=true:=by kernel_rfl
theorem uchecks_k18:((Rows.authenticatorChecksRow.wideKeys==(Tryz.f5.params.toList++Rows.authenticatorChecksSpec.plain.varTypes Tryz.prog++Tryz.f5.resultTypes.toList).any (Tryz.prog.wideKeysFrom ·)))=true:=by kernel_rfl
theorem uchecks_k19:(Rows.authenticatorChecksSpec.vars.all (Tryz.prog.varReadable ·))=true:=by kernel_rfl
theorem uchecks_k20:(Tryz.f5.resultTypes.all (fun t=>Tryz.prog.readableRec t&& decide (t<Tryz.prog.types.size)))=true:=by kernel_rfl
theorem uchecks_k21:((Rows.authenticatorChecksRow.ifacesOut==Tryz.f5.resultTypes.toList.any (Tryz.prog.ifacesRec ·)))=true:=by kernel_rfl
theorem uchecks_k22:((Rows.authenticatorChecksRow.loopsOut==Tryz.f5.resultTypes.toList.any (Tryz.prog.loopsFrom ·)))=true:=by kernel_rfl
theorem uchecks_k23:((Rows.authenticatorChecksRow.plainKeys==Tryz.prog.plainKeys))=true:=by kernel_rfl
theorem uchecks_k24:(Rows.authenticatorChecksRow.shortTexts.isNone)=true:=by kernel_rfl
theorem uchecks_k27:((Rows.authenticatorChecksRow.lifted==Tryz.prog.liftsFinal))=true:=by kernel_rfl
theorem uchecks_k28:((Tryz.prog.make==some Rows.authenticatorChecksRow.make))=true:=by kernel_rfl
theorem uchecks_k29:((Rows.authenticatorChecksRow.kinds==(if Rows.authenticatorChecksRow.domain.isEmpty then [] else Tryz.f5.params.toList.map fun t=>match Tryz.prog.underlying t with|some (.int k)=>some k|_=>none)))=true:=by kernel_rfl
theorem uchecks_k30:((Rows.authenticatorChecksRow.pinned==Rows.authenticatorChecksRow.pinnedBy))=true:=by kernel_rfl
theorem uchecks_k31:((Rows.authenticatorChecksRow.veiled==(Tryz.f5.params.toList++Rows.authenticatorChecksSpec.plain.varTypes Tryz.prog++Tryz.f5.resultTypes.toList).any (Tryz.prog.veiledRec ·)))=true:=by kernel_rfl
theorem uchecks_k32:(Rows.authenticatorChecksRow.veiledFits Tryz.prog Tryz.f5.params.toList (Tryz.f5.params.toList++Rows.authenticatorChecksSpec.plain.varTypes Tryz.prog++Tryz.f5.resultTypes.toList))=true:=by kernel_rfl
theorem uchecks_joined:joinedFacts Tryz.prog 5 Tryz.f5 Rows.authenticatorChecksSpec Rows.authenticatorChecksRow=true:=
 z8E uchecks_k1 j3V j3v uchecks_k4 uchecks_k5 uchecks_k6 j4d uchecks_k8 j2K uchecks_k10 uchecks_k11 uchecks_k12 uchecks_k13 uchecks_k14 uchecks_k15 uchecks_k16 uchecks_k17 uchecks_k18 uchecks_k19 uchecks_k20 uchecks_k21 uchecks_k22 uchecks_k23 uchecks_k24 j1p j1l uchecks_k27 uchecks_k28 uchecks_k29 uchecks_k30 uchecks_k31 uchecks_k32
theorem uchecks_tabs{W:World}(h:laidMetH Tryz.prog Rows.authenticatorChecksRow.laid W):TabT (Cx.top W) []:=by
 have hm:=j5M h (by kernel_rfl);refine ⟨?_,?_⟩
 . exact fun e he=>absurd he (by simp [tabList])
 intro e he;simp only [datList,Bm,CC,or_false] at he;rcases he with rfl|rfl
 . exact z7N hm "watchword/sha.start" .u32 dat_sha_start 1 (by kernel_rfl) (by kernel_rfl) (by kernel_rfl) (by kernel_rfl) (by kernel_rfl) (by kernel_rfl) (by kernel_rfl) (by kernel_rfl) (t:=298) (e:=296) (n:=8)
 exact z7N hm "watchword/sha.constants" .u32 dat_sha_constants 2 (by kernel_rfl) (by kernel_rfl) (by kernel_rfl) (by kernel_rfl) (by kernel_rfl) (by kernel_rfl) (by kernel_rfl) (by kernel_rfl) (t:=324) (e:=296) (n:=64)
theorem uchecks_params:∀t∈Tryz.f5.params.toList,Tryz.prog.readableRec t=true∧t<Tryz.prog.types.size:=by
 rw [Tryz.params5];intro t ht;simp at ht;rcases ht with rfl|rfl|rfl
 . exact ⟨by kernel_rfl,of_decide_eq_true (by kernel_rfl)⟩
 . exact ⟨by kernel_rfl,of_decide_eq_true (by kernel_rfl)⟩
 exact ⟨by kernel_rfl,of_decide_eq_true (by kernel_rfl)⟩
theorem uchecks_contract(H:Type)(enc:TypeId×Value->H)(W:World)(base:Nat)(args:Array Value)(ds gs:List (DataW H))(before:List MemPlace)
 (hval:∀ (j:Nat) t v,Tryz.f5.params[j]?=some t->args[j]?=some v->Value.okWide Tryz.prog W .any base t v)
 (hW:DataW.Whole enc Tryz.prog Tryz.f5.params.toList Rows.authenticatorChecksSpec.vars false W args.toList ds gs before)
 (hsz:(DataW.weightsEach Tryz.prog (Tryz.f5.params.toList++(OpenSpec.ofChange Rows.authenticatorChecksSpec).bare.plain.varTypes Tryz.prog) (ds++gs)).all (· <=reachBytes)=true)(hlaid:laidMetH Tryz.prog Rows.authenticatorChecksRow.laid W):
 Calls Tryz.prog 5 args W fun e W'=>∃v,e= .returned v∧Rows.authenticatorChecksSpec.post enc Tryz.prog Tryz.f5 false true false false W args v W':=by
 have hW':=hW;obtain ⟨p,q,hA0,hV,rfl,hfz,hnd⟩:=hW;have hA:DataW.TrodAll enc Tryz.prog W 0 (fun _=>true) true Tryz.f5.params.toList args.toList ds p:=hA0;rw [Tryz.params5] at hA hval hsz;obtain ⟨v0,v1,v2,v3,v4,d0,d1,d2,d3,d4,p0,p1,p2,p3,p4,rfl,rfl,rfl,h0,h1,h2,h3,h4⟩:=z4M hA;obtain ⟨rfl,rfl⟩:=trodVars_none hV;have hw:(DataW.weightsEach Tryz.prog [30,30,24,3,3] [d0,d1,d2,d3,d4]).all (· <=reachBytes)=true:=hsz;simp only [DataW.weightsEach] at hw;obtain ⟨x0,e0,o0,r0⟩:=q5E Tryz.underlying30 tyAut (hval 0 30 v0 rfl rfl) h0 (q0K hw).1;obtain ⟨x1,e1,o1,r1⟩:=q5E Tryz.underlying30 tyAut (hval 1 30 v1 rfl rfl) h1 (q0K (q0K hw).2).1;obtain ⟨x2,e2,o2,r2⟩:=q5E Tryz.underlying24 tyPcn (hval 2 24 v2 rfl rfl) h2 (q0K (q0K (q0K hw).2).2).1;obtain ⟨x3,rfl,rfl,rfl,_⟩:=open_int Tryz.underlying3 (hval 3 3 v3 rfl rfl) h3;obtain ⟨x4,rfl,rfl,rfl,_⟩:=open_int Tryz.underlying3 (hval 4 3 v4 rfl rfl) h4;have hden:SV.denL (Cx.top W) [.agg ((AutT).cells x0),.agg ((AutT).cells x1),.agg ((PrinT).cells x2),rI x3,rI x4] [v0,v1,v2,(.int .i64 x3),(.int .i64 x4)]:=
  q0d.2 ⟨_,_,rfl,e0,q0d.2 ⟨_,_,rfl,e1,q0d.2 ⟨_,_,rfl,e2,q0d.2 ⟨_,_,rfl,by rw [SV.den],q0d.2 ⟨_,_,rfl,by rw [SV.den],q0y.2 rfl⟩⟩⟩⟩⟩
 refine (z2b (z5l x0 o0 x1 o1 x2 o2 x3 x4) hden (uchecks_tabs hlaid)).mono fun e W' ⟨he,hb⟩=>⟨_,he,?_⟩;exact j0L laidOutK uchecks_params (by kernel_rfl) Tryz.underlying4 rfl hW' rfl hb
theorem uchecks_met(os:Os):laidMet Tryz.prog Rows.authenticatorChecksRow.laid ((laidWorld os).forCall (fun _ _=>0) ⟨#[], #[zAtr,zAtr,zPcn,.int .i64 0,.int .i64 0],[]⟩).memory:=
 laidMet_of_run' 8 (by kernel_rfl) (by kernel_rfl)
theorem uchecks_reads(os:Os){H:Type}(enc:TypeId×Value->H):∃places,DataW.whole enc Tryz.prog ((laidWorld os).forCall (fun _ _=>0) ⟨#[], #[zAtr,zAtr,zPcn,.int .i64 0,.int .i64 0],[]⟩).memory Tryz.f5.params.toList Rows.authenticatorChecksSpec.vars false #[zAtr,zAtr,zPcn,Value.int .i64 0,Value.int .i64 0].toList 8=some ([dAtr,dAtr,dPcn,dI,dI],[],places):=
 ⟨[],by kernel_rfl⟩
theorem uchecks_lifted(os:Os)(started:os.Started)(H:Type)(enc:TypeId×Value->H)(F:Stop.Interp):
 ReturnsInHanded {} Tryz.checked os 5 .any ((OpenSpec.ofChange Rows.authenticatorChecksSpec).preRow enc Tryz.prog Tryz.f5 Rows.authenticatorChecksRow.domain false Rows.authenticatorChecksRow.laid) (((OpenSpec.ofChange Rows.authenticatorChecksSpec).at F).post enc Tryz.prog Tryz.f5 false true false false):=by
 obtain ⟨places,hx⟩:=uchecks_reads os enc;refine returnsInHanded_of_row (C:=Tryz.checked) (s:=OpenSpec.ofChange Rows.authenticatorChecksSpec) ownK started (by kernel_rfl) Tryz.func5
  (witness_row_atRef (enc:=enc) (C:=Tryz.checked) false (laidWorld os) #[zAtr,zAtr,zPcn,.int .i64 0,.int .i64 0] rfl (by kernel_rfl) (by kernel_rfl) (by kernel_rfl)
   (OpenSpec.preRow_of_cond 8 hx (by kernel_rfl) (fun k hk=>by cases hk) (by kernel_rfl) (uchecks_met os))) ?_
 intro W base args ds gs before hval hW _ _ hsz hlaid _ _;exact uchecks_contract H enc W base args ds gs before hval hW hsz hlaid
theorem uchecks_named:Tryz.pinned.checked.prog.funcNamed Rows.authenticatorChecksRow.func=some 5:=by kernel_rfl
theorem uchecks_said:Rows.AuthenticatorChecksSaid:=
 OpenClaim.holds_of_cond 5 Tryz.f5 rfl rfl rfl rfl rfl rfl rfl ⟨rfl,rfl,rfl,rfl,rfl⟩ rfl rfl rfl rfl rfl uchecks_named Tryz.func5 uchecks_joined
  (of_decide_eq_true (by kernel_rfl)) (by unfold Func.isWrapper;first| (rw [if_pos (by decide+kernel)];kernel_rfl) | (rw [if_neg (by decide+kernel)];exact ⟨rfl,rfl⟩))
  (fun os started H enc _ F=>by rw [OpenClaim.pre_eq_preRow];exact uchecks_lifted os started H enc F)
theorem uchecks_plain(f:FuncId)(fn:Func)(hf:Tryz.pinned.checked.prog.funcNamed Rows.authenticatorChecksRow.func=some f)(hfn:Tryz.pinned.checked.prog.funcs[f]?=some fn):
 true=Tryz.pinned.checked.prog.looks []∧∀ (j:Nat) t,fn.params[j]?=some t->Tryz.pinned.checked.prog.wantsStandIn t=false:=by
 obtain rfl:f=5:=Option.some.inj ((show Tryz.prog.funcNamed Rows.authenticatorChecksRow.func=some 5 by kernel_rfl).symm.trans hf) |>.symm;obtain rfl:fn=Tryz.f5:=(Option.some.inj (Tryz.func5.symm.trans hfn)).symm;refine ⟨by kernel_rfl,fun j t ht=> ?_⟩;rw [Tryz.params5] at ht;have hm:=Array.mem_of_getElem? ht;simp at hm;rcases hm with rfl|rfl|rfl
 . exact (show Tryz.prog.wantsStandIn 30=false by kernel_rfl)
 . exact (show Tryz.prog.wantsStandIn 24=false by kernel_rfl)
 exact (show Tryz.prog.wantsStandIn 3=false by kernel_rfl)
theorem uchecks_card:Rows.AuthenticatorChecksCardSaid:=
 Claim7.holds_tied_plain_at .later [] _ _ _ _ uchecks_said (fun _ h=>by cases h) (by kernel_rfl) (fun _ h=>by cases h) authenticatorChecks_row_tie rfl ⟨rfl,rfl⟩ (by kernel_rfl) rfl uchecks_plain (by kernel_rfl)

end Go.Proofs.YthbcodbcndiapaaGreatDoor