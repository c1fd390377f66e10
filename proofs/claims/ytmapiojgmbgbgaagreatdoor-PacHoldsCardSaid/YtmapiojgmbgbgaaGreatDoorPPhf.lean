/- PacHolds: for all authorisation data, keys and names the law answers true, and its arguments read as they did. -/
import Derived.Test.YtmapiojgmbgbgaaGreatDoorP31
import Derived.Test.YtmapiojgmbgbgaaGreatDoorP33
set_option linter.all false
namespace Go.Proofs.YtmapiojgmbgbgaaGreatDoor
open Go Go.Sx Go.ChangeShapes Go.WideShapes Go.ChangeAt Go.RowKit
set_option maxRecDepth 100000
theorem pcholds_k1:(Rows.pacHoldsRow.wf (OpenSpec.ofChange Rows.pacHoldsSpec))=true:=by kernel_rfl
theorem pcholds_k4:(Tryz.f8.params.all (Tryz.prog.readableRec ·))=true:=by kernel_rfl
theorem pcholds_k5:(namedTie Tryz.prog Rows.pacHoldsRow.named Rows.pacHoldsSpec.vars)=true:=by kernel_rfl
theorem pcholds_k6:((Rows.pacHoldsRow.stops== []))=true:=by kernel_rfl
theorem pcholds_k8:((Rows.pacHoldsRow.knobs== []))=true:=by kernel_rfl
theorem pcholds_k10:((Rows.pacHoldsRow.inPlace==Tryz.prog.inPlace 8))=true:=by kernel_rfl
theorem pcholds_k11:((Rows.pacHoldsRow.unfollowed==Tryz.prog.unfollowed 8))=true:=by kernel_rfl
theorem pcholds_k12:((Rows.pacHoldsRow.recurses==Tryz.prog.recurses 8))=true:=by kernel_rfl
theorem pcholds_k13:((Rows.pacHoldsRow.named==Tryz.prog.varsNamed 8))=true:=by kernel_rfl
theorem pcholds_k14:((Rows.pacHoldsRow.maps==(Tryz.f8.params.toList++Rows.pacHoldsSpec.plain.varTypes Tryz.prog).any (Tryz.prog.mapsRec ·)))=true:=by kernel_rfl
theorem pcholds_k15:((Rows.pacHoldsRow.ifaces==(Tryz.f8.params.toList++Rows.pacHoldsSpec.plain.varTypes Tryz.prog).any (Tryz.prog.ifacesRec ·)))=true:=by kernel_rfl
theorem pcholds_k16:((Rows.pacHoldsRow.mapsOut==Tryz.prog.mapsAmong Tryz.f8.resultTypes.toList))=true:=by kernel_rfl
theorem pcholds_k17:((Rows.pacHoldsRow.loops==(Tryz.f8.params.toList++Rows.pacHoldsSpec.plain.varTypes Tryz.prog).any (Tryz.prog.loopsFrom ·)))=true:=by kernel_rfl
theorem pcholds_k18:((Rows.pacHoldsRow.wideKeys==(Tryz.f8.params.toList++Rows.pacHoldsSpec.plain.varTypes Tryz.prog++Tryz.f8.resultTypes.toList).any (Tryz.prog.wideKeysFrom ·)))=true:=by kernel_rfl
theorem pcholds_k19:(Rows.pacHoldsSpec.vars.all (Tryz.prog.varReadable ·))=true:=by kernel_rfl
theorem pcholds_k20:(Tryz.f8.resultTypes.all (fun t=>Tryz.prog.readableRec t&& decide (t<Tryz.prog.types.size)))=true:=by kernel_rfl
theorem pcholds_k21:((Rows.pacHoldsRow.ifacesOut==Tryz.f8.resultTypes.toList.any (Tryz.prog.ifacesRec ·)))=true:=by kernel_rfl
theorem pcholds_k22:((Rows.pacHoldsRow.loopsOut==Tryz.f8.resultTypes.toList.any (Tryz.prog.loopsFrom ·)))=true:=by kernel_rfl
theorem pcholds_k23:((Rows.pacHoldsRow.plainKeys==Tryz.prog.plainKeys))=true:=by kernel_rfl
theorem pcholds_k24:(Rows.pacHoldsRow.shortTexts.isNone)=true:=by kernel_rfl
theorem pcholds_k27:((Rows.pacHoldsRow.lifted==Tryz.prog.liftsFinal))=true:=by kernel_rfl
theorem pcholds_k28:((Tryz.prog.make==some Rows.pacHoldsRow.make))=true:=by kernel_rfl
theorem pcholds_k29:((Rows.pacHoldsRow.kinds==(if Rows.pacHoldsRow.domain.isEmpty then [] else Tryz.f8.params.toList.map fun t=>match Tryz.prog.underlying t with|some (.int k)=>some k|_=>none)))=true:=by kernel_rfl
theorem pcholds_k30:((Rows.pacHoldsRow.pinned==Rows.pacHoldsRow.pinnedBy))=true:=by kernel_rfl
theorem pcholds_k31:((Rows.pacHoldsRow.veiled==(Tryz.f8.params.toList++Rows.pacHoldsSpec.plain.varTypes Tryz.prog++Tryz.f8.resultTypes.toList).any (Tryz.prog.veiledRec ·)))=true:=by kernel_rfl
theorem pcholds_k32:(Rows.pacHoldsRow.veiledFits Tryz.prog Tryz.f8.params.toList (Tryz.f8.params.toList++Rows.pacHoldsSpec.plain.varTypes Tryz.prog++Tryz.f8.resultTypes.toList))=true:=by kernel_rfl
theorem pcholds_joined:joinedFacts Tryz.prog 8 Tryz.f8 Rows.pacHoldsSpec Rows.pacHoldsRow=true:=
 z1L pcholds_k1 z6G z7k pcholds_k4 pcholds_k5 pcholds_k6 z8b pcholds_k8 z8h pcholds_k10 pcholds_k11 pcholds_k12 pcholds_k13 pcholds_k14 pcholds_k15 pcholds_k16 pcholds_k17 pcholds_k18 pcholds_k19 pcholds_k20 pcholds_k21 pcholds_k22 pcholds_k23 pcholds_k24 z3R z4B pcholds_k27 pcholds_k28 pcholds_k29 pcholds_k30 pcholds_k31 pcholds_k32
theorem pcholds_tabs{W:World}(h:laidMetH Tryz.prog Rows.pacHoldsRow.laid W):TabT (Cx.top W) []:=by
 have hm:=j1E h (by kernel_rfl)
 refine ⟨?_,?_⟩
 · exact fun e he=>absurd he (by simp [tabList])
 intro e he;simp only [datList,AZ,Bf,or_false] at he;rcases he with rfl|rfl
 · exact q9n hm "watchword/sha.start" .u32 dat_sha_start 1 (by kernel_rfl) (by kernel_rfl) (by kernel_rfl) (by kernel_rfl) (by kernel_rfl) (by kernel_rfl) (by kernel_rfl) (by kernel_rfl) (t:=287) (e:=285) (n:=8)
 exact q9n hm "watchword/sha.constants" .u32 dat_sha_constants 2 (by kernel_rfl) (by kernel_rfl) (by kernel_rfl) (by kernel_rfl) (by kernel_rfl) (by kernel_rfl) (by kernel_rfl) (by kernel_rfl) (t:=333) (e:=285) (n:=64)
theorem pcholds_params:∀t∈Tryz.f8.params.toList,Tryz.prog.readableRec t=true∧t<Tryz.prog.types.size:=by
 rw [Tryz.params8];intro t ht;simp at ht;rcases ht with rfl|rfl|rfl
 · exact ⟨by kernel_rfl,of_decide_eq_true (by kernel_rfl)⟩
 · exact ⟨by kernel_rfl,of_decide_eq_true (by kernel_rfl)⟩
 exact ⟨by kernel_rfl,of_decide_eq_true (by kernel_rfl)⟩
theorem pcholds_contract(H:Type)(enc:TypeId×Value→H)(W:World)(base:Nat)(args:Array Value)(ds gs:List (DataW H))(before:List MemPlace)
 (hval:∀ (j:Nat) t v,Tryz.f8.params[j]?=some t→args[j]?=some v→Value.okWide Tryz.prog W .any base t v)
 (hW:DataW.Whole enc Tryz.prog Tryz.f8.params.toList Rows.pacHoldsSpec.vars false W args.toList ds gs before)
 (hsz:(DataW.weightsEach Tryz.prog (Tryz.f8.params.toList++(OpenSpec.ofChange Rows.pacHoldsSpec).bare.plain.varTypes Tryz.prog) (ds++gs)).all (· ≤reachBytes)=true)(hlaid:laidMetH Tryz.prog Rows.pacHoldsRow.laid W):
 Calls Tryz.prog 8 args W fun e W'=>∃v,e= .returned v∧Rows.pacHoldsSpec.post enc Tryz.prog Tryz.f8 false true false false W args v W':=by
 have hW':=hW;obtain ⟨p,q,hA0,hV,rfl,hfz,hnd⟩:=hW;have hA:DataW.TrodAll enc Tryz.prog W 0 (fun _=>true) true Tryz.f8.params.toList args.toList ds p:=hA0;rw [Tryz.params8] at hA hval hsz;obtain ⟨v0,v1,v2,v3,v4,d0,d1,d2,d3,d4,p0,p1,p2,p3,p4,rfl,rfl,rfl,h0,h1,h2,h3,h4⟩:=z4V hA;obtain ⟨rfl,rfl⟩:=trodVars_none hV;have hw:(DataW.weightsEach Tryz.prog [28,31,31,31,24] [d0,d1,d2,d3,d4]).all (· ≤reachBytes)=true:=hsz
 simp only [DataW.weightsEach] at hw;obtain ⟨x0,e0,o0,r0⟩:=q2E Tryz.underlying28 tyPac (hval 0 28 v0 rfl rfl) h0 (q0l hw).1;obtain ⟨x1,e1,o1,r1⟩:=q2E Tryz.underlying31 tyPck (hval 1 31 v1 rfl rfl) h1 (q0l (q0l hw).2).1;obtain ⟨x2,e2,o2,r2⟩:=q2E Tryz.underlying31 tyPck (hval 2 31 v2 rfl rfl) h2 (q0l (q0l (q0l hw).2).2).1;obtain ⟨x3,e3,o3,r3⟩:=q2E Tryz.underlying31 tyPck (hval 3 31 v3 rfl rfl) h3 (q0l (q0l (q0l (q0l hw).2).2).2).1;obtain ⟨x4,e4,o4,r4⟩:=q2E Tryz.underlying24 tyPcn (hval 4 24 v4 rfl rfl) h4 (q0l (q0l (q0l (q0l (q0l hw).2).2).2).2).1;have hden:SV.denL (Cx.top W) [.agg ((PacT).cells x0),.agg ((KeyT).cells x1),.agg ((KeyT).cells x2),.agg ((KeyT).cells x3),.agg ((PrinT).cells x4)] [v0,v1,v2,v3,v4]:=
  q0c.2 ⟨_,_,rfl,e0,q0c.2 ⟨_,_,rfl,e1,q0c.2 ⟨_,_,rfl,e2,q0c.2 ⟨_,_,rfl,e3,q0c.2 ⟨_,_,rfl,e4,q0z.2 rfl⟩⟩⟩⟩⟩
 refine (q7g (z8o x0 o0 x1 o1 x2 o2 x3 o3 x4 o4) hden (pcholds_tabs hlaid)).mono fun e W' ⟨he,hb⟩=>⟨_,he,?_⟩;exact z3j laidOutK pcholds_params (by kernel_rfl) Tryz.underlying4 rfl hW' rfl hb
theorem pcholds_met(os:Os):laidMet Tryz.prog Rows.pacHoldsRow.laid ((laidWorld os).forCall (fun _ _=>0) ⟨#[], #[zPac,zPck,zPck,zPck,zPcn],[]⟩).memory:=
 laidMet_of_run' 8 (by kernel_rfl) (by kernel_rfl)
theorem pcholds_reads(os:Os){H:Type}(enc:TypeId×Value→H):∃places,DataW.whole enc Tryz.prog ((laidWorld os).forCall (fun _ _=>0) ⟨#[], #[zPac,zPck,zPck,zPck,zPcn],[]⟩).memory Tryz.f8.params.toList Rows.pacHoldsSpec.vars false #[zPac,zPck,zPck,zPck,zPcn].toList 8=some ([dPac,dPck,dPck,dPck,dPcn],[],places):=
 ⟨[],by kernel_rfl⟩
theorem pcholds_lifted(os:Os)(started:os.Started)(H:Type)(enc:TypeId×Value→H)(F:Stop.Interp):
 ReturnsInHanded {} Tryz.checked os 8 .any ((OpenSpec.ofChange Rows.pacHoldsSpec).preRow enc Tryz.prog Tryz.f8 Rows.pacHoldsRow.domain false Rows.pacHoldsRow.laid) (((OpenSpec.ofChange Rows.pacHoldsSpec).at F).post enc Tryz.prog Tryz.f8 false true false false):=by
 obtain ⟨places,hx⟩:=pcholds_reads os enc;refine returnsInHanded_of_row (C:=Tryz.checked) (s:=OpenSpec.ofChange Rows.pacHoldsSpec) ownK started (by kernel_rfl) Tryz.func8
  (witness_row_atRef (enc:=enc) (C:=Tryz.checked) false (laidWorld os) #[zPac,zPck,zPck,zPck,zPcn] rfl (by kernel_rfl) (by kernel_rfl) (by kernel_rfl)
   (OpenSpec.preRow_of_cond 8 hx (by kernel_rfl) (fun k hk=>by cases hk) (by kernel_rfl) (pcholds_met os))) ?_
 intro W base args ds gs before hval hW _ _ hsz hlaid _ _;exact pcholds_contract H enc W base args ds gs before hval hW hsz hlaid
theorem pcholds_named:Tryz.pinned.checked.prog.funcNamed Rows.pacHoldsRow.func=some 8:=by kernel_rfl
theorem pcholds_said:Rows.PacHoldsSaid:=
 OpenClaim.holds_of_cond 8 Tryz.f8 rfl rfl rfl rfl rfl rfl rfl ⟨rfl,rfl,rfl,rfl,rfl⟩ rfl rfl rfl rfl rfl pcholds_named Tryz.func8 pcholds_joined
  (of_decide_eq_true (by kernel_rfl)) (by unfold Func.isWrapper;first| (rw [if_pos (by decide+kernel)];kernel_rfl) | (rw [if_neg (by decide+kernel)];exact ⟨rfl,rfl⟩))
  (fun os started H enc _ F=>by rw [OpenClaim.pre_eq_preRow];exact pcholds_lifted os started H enc F)
theorem pcholds_plain(f:FuncId)(fn:Func)(hf:Tryz.pinned.checked.prog.funcNamed Rows.pacHoldsRow.func=some f)(hfn:Tryz.pinned.checked.prog.funcs[f]?=some fn):
 true=Tryz.pinned.checked.prog.looks []∧∀ (j:Nat) t,fn.params[j]?=some t→Tryz.pinned.checked.prog.wantsStandIn t=false:=by
 obtain rfl:f=8:=Option.some.inj ((show Tryz.prog.funcNamed Rows.pacHoldsRow.func=some 8 by kernel_rfl).symm.trans hf) |>.symm
 obtain rfl:fn=Tryz.f8:=(Option.some.inj (Tryz.func8.symm.trans hfn)).symm;refine ⟨by kernel_rfl,fun j t ht=> ?_⟩
 rw [Tryz.params8] at ht;have hm:=Array.mem_of_getElem? ht;simp at hm;rcases hm with rfl|rfl|rfl
 · exact (show Tryz.prog.wantsStandIn 28=false by kernel_rfl)
 · exact (show Tryz.prog.wantsStandIn 31=false by kernel_rfl)
 exact (show Tryz.prog.wantsStandIn 24=false by kernel_rfl)
theorem pcholds_card:Rows.PacHoldsCardSaid:=
 Claim7.holds_tied_plain_at .later [] _ _ _ _ pcholds_said (fun _ h=>by cases h) (by kernel_rfl) (fun _ h=>by cases h) pacHolds_row_tie rfl ⟨rfl,rfl⟩ (by kernel_rfl) rfl pcholds_plain (by kernel_rfl)

end Go.Proofs.YtmapiojgmbgbgaaGreatDoor
