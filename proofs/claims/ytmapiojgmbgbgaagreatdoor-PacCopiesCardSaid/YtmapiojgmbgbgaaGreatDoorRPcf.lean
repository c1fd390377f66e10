/- PacCopies: for all authorisation data and numbers the law answers true, and its arguments read as they did. -/
import Derived.Test.YtmapiojgmbgbgaaGreatDoorR31
import Derived.Test.YtmapiojgmbgbgaaGreatDoorR33
set_option linter.all false
namespace Go.Proofs.YtmapiojgmbgbgaaGreatDoor
open Go Go.Sx Go.ChangeShapes Go.WideShapes Go.ChangeAt Go.RowKit
set_option maxRecDepth 100000
theorem pccopies_k1:(Rows.pacCopiesRow.wf (OpenSpec.ofChange Rows.pacCopiesSpec))=true:=by kernel_rfl
theorem pccopies_k4:(Tryz.f7.params.all (Tryz.prog.readableRec ·))=true:=by kernel_rfl
theorem pccopies_k5:(namedTie Tryz.prog Rows.pacCopiesRow.named Rows.pacCopiesSpec.vars)=true:=by kernel_rfl
theorem pccopies_k6:((Rows.pacCopiesRow.stops== []))=true:=by kernel_rfl
theorem pccopies_k8:((Rows.pacCopiesRow.knobs== []))=true:=by kernel_rfl
theorem pccopies_k10:((Rows.pacCopiesRow.inPlace==Tryz.prog.inPlace 7))=true:=by kernel_rfl
theorem pccopies_k11:((Rows.pacCopiesRow.unfollowed==Tryz.prog.unfollowed 7))=true:=by kernel_rfl
theorem pccopies_k12:((Rows.pacCopiesRow.recurses==Tryz.prog.recurses 7))=true:=by kernel_rfl
theorem pccopies_k13:((Rows.pacCopiesRow.named==Tryz.prog.varsNamed 7))=true:=by kernel_rfl
theorem pccopies_k14:((Rows.pacCopiesRow.maps==(Tryz.f7.params.toList++Rows.pacCopiesSpec.plain.varTypes Tryz.prog).any (Tryz.prog.mapsRec ·)))=true:=by kernel_rfl
theorem pccopies_k15:((Rows.pacCopiesRow.ifaces==(Tryz.f7.params.toList++Rows.pacCopiesSpec.plain.varTypes Tryz.prog).any (Tryz.prog.ifacesRec ·)))=true:=by kernel_rfl
theorem pccopies_k16:((Rows.pacCopiesRow.mapsOut==Tryz.prog.mapsAmong Tryz.f7.resultTypes.toList))=true:=by kernel_rfl
theorem pccopies_k17:((Rows.pacCopiesRow.loops==(Tryz.f7.params.toList++Rows.pacCopiesSpec.plain.varTypes Tryz.prog).any (Tryz.prog.loopsFrom ·)))=true:=by kernel_rfl
theorem pccopies_k18:((Rows.pacCopiesRow.wideKeys==(Tryz.f7.params.toList++Rows.pacCopiesSpec.plain.varTypes Tryz.prog++Tryz.f7.resultTypes.toList).any (Tryz.prog.wideKeysFrom ·)))=true:=by kernel_rfl
theorem pccopies_k19:(Rows.pacCopiesSpec.vars.all (Tryz.prog.varReadable ·))=true:=by kernel_rfl
theorem pccopies_k20:(Tryz.f7.resultTypes.all (fun t=>Tryz.prog.readableRec t&& decide (t<Tryz.prog.types.size)))=true:=by kernel_rfl
theorem pccopies_k21:((Rows.pacCopiesRow.ifacesOut==Tryz.f7.resultTypes.toList.any (Tryz.prog.ifacesRec ·)))=true:=by kernel_rfl
theorem pccopies_k22:((Rows.pacCopiesRow.loopsOut==Tryz.f7.resultTypes.toList.any (Tryz.prog.loopsFrom ·)))=true:=by kernel_rfl
theorem pccopies_k23:((Rows.pacCopiesRow.plainKeys==Tryz.prog.plainKeys))=true:=by kernel_rfl
theorem pccopies_k24:(Rows.pacCopiesRow.shortTexts.isNone)=true:=by kernel_rfl
theorem pccopies_k27:((Rows.pacCopiesRow.lifted==Tryz.prog.liftsFinal))=true:=by kernel_rfl
theorem pccopies_k28:((Tryz.prog.make==some Rows.pacCopiesRow.make))=true:=by kernel_rfl
theorem pccopies_k29:((Rows.pacCopiesRow.kinds==(if Rows.pacCopiesRow.domain.isEmpty then [] else Tryz.f7.params.toList.map fun t=>match Tryz.prog.underlying t with|some (.int k)=>some k|_=>none)))=true:=by kernel_rfl
theorem pccopies_k30:((Rows.pacCopiesRow.pinned==Rows.pacCopiesRow.pinnedBy))=true:=by kernel_rfl
theorem pccopies_k31:((Rows.pacCopiesRow.veiled==(Tryz.f7.params.toList++Rows.pacCopiesSpec.plain.varTypes Tryz.prog++Tryz.f7.resultTypes.toList).any (Tryz.prog.veiledRec ·)))=true:=by kernel_rfl
theorem pccopies_k32:(Rows.pacCopiesRow.veiledFits Tryz.prog Tryz.f7.params.toList (Tryz.f7.params.toList++Rows.pacCopiesSpec.plain.varTypes Tryz.prog++Tryz.f7.resultTypes.toList))=true:=by kernel_rfl
theorem pccopies_joined:joinedFacts Tryz.prog 7 Tryz.f7 Rows.pacCopiesSpec Rows.pacCopiesRow=true:=
 z7G pccopies_k1 j2k j1P pccopies_k4 pccopies_k5 pccopies_k6 j2p pccopies_k8 j1k pccopies_k10 pccopies_k11 pccopies_k12 pccopies_k13 pccopies_k14 pccopies_k15 pccopies_k16 pccopies_k17 pccopies_k18 pccopies_k19 pccopies_k20 pccopies_k21 pccopies_k22 pccopies_k23 pccopies_k24 z9Z z9U pccopies_k27 pccopies_k28 pccopies_k29 pccopies_k30 pccopies_k31 pccopies_k32
theorem pccopies_tabs{W:World}(h:laidMetH Tryz.prog Rows.pacCopiesRow.laid W):TabT (Cx.top W) []:=by
 have hm:=j3n h (by kernel_rfl)
 refine ⟨?_,?_⟩
 · exact fun e he=>absurd he (by simp [tabList])
 intro e he;simp only [datList,Bs,List.not_mem_nil,or_false] at he;rcases he with rfl|rfl
 · exact z6I hm "watchword/sha.start" .u32 dat_sha_start 1 (by kernel_rfl) (by kernel_rfl) (by kernel_rfl) (by kernel_rfl) (by kernel_rfl) (by kernel_rfl) (by kernel_rfl) (by kernel_rfl) (t:=287) (e:=285) (n:=8)
 exact z6I hm "watchword/sha.constants" .u32 dat_sha_constants 2 (by kernel_rfl) (by kernel_rfl) (by kernel_rfl) (by kernel_rfl) (by kernel_rfl) (by kernel_rfl) (by kernel_rfl) (by kernel_rfl) (t:=333) (e:=285) (n:=64)
theorem pccopies_params:∀t∈Tryz.f7.params.toList,Tryz.prog.readableRec t=true∧t<Tryz.prog.types.size:=by
 rw [Tryz.params7];intro t ht;simp at ht;rcases ht with rfl|rfl
 · exact ⟨by kernel_rfl,of_decide_eq_true (by kernel_rfl)⟩
 exact ⟨by kernel_rfl,of_decide_eq_true (by kernel_rfl)⟩
theorem pccopies_contract(H:Type)(enc:TypeId×Value→H)(W:World)(base:Nat)(args:Array Value)(ds gs:List (DataW H))(before:List MemPlace)
 (hval:∀ (j:Nat) t v,Tryz.f7.params[j]?=some t→args[j]?=some v→Value.okWide Tryz.prog W .any base t v)
 (hW:DataW.Whole enc Tryz.prog Tryz.f7.params.toList Rows.pacCopiesSpec.vars false W args.toList ds gs before)
 (hsz:(DataW.weightsEach Tryz.prog (Tryz.f7.params.toList++(OpenSpec.ofChange Rows.pacCopiesSpec).bare.plain.varTypes Tryz.prog) (ds++gs)).all (· ≤reachBytes)=true)(hlaid:laidMetH Tryz.prog Rows.pacCopiesRow.laid W):
 Calls Tryz.prog 7 args W fun e W'=>∃v,e= .returned v∧Rows.pacCopiesSpec.post enc Tryz.prog Tryz.f7 false true false false W args v W':=by
 have hW':=hW;obtain ⟨p,q,hA0,hV,rfl,hfz,hnd⟩:=hW;have hA:DataW.TrodAll enc Tryz.prog W 0 (fun _=>true) true Tryz.f7.params.toList args.toList ds p:=hA0;rw [Tryz.params7] at hA hval hsz;obtain ⟨v0,v1,v2,d0,d1,d2,p0,p1,p2,rfl,rfl,rfl,h0,h1,h2⟩:=trodAll_three hA;obtain ⟨rfl,rfl⟩:=trodVars_none hV;have hw:(DataW.weightsEach Tryz.prog [28,28,3] [d0,d1,d2]).all (· ≤reachBytes)=true:=hsz
 simp only [DataW.weightsEach] at hw;obtain ⟨x0,e0,o0,r0⟩:=q8f Tryz.underlying28 tyPac (hval 0 28 v0 rfl rfl) h0 (q1d hw).1;obtain ⟨x1,e1,o1,r1⟩:=q8f Tryz.underlying28 tyPac (hval 1 28 v1 rfl rfl) h1 (q1d (q1d hw).2).1;obtain ⟨x2,rfl,rfl,rfl,_⟩:=open_int Tryz.underlying3 (hval 2 3 v2 rfl rfl) h2;have hden:SV.denL (Cx.top W) [.agg ((PacT).cells x0),.agg ((PacT).cells x1),rI x2] [v0,v1,(.int .i64 x2)]:=
  q0c.2 ⟨_,_,rfl,e0,q0c.2 ⟨_,_,rfl,e1,q0c.2 ⟨_,_,rfl,by rw [SV.den],q0o.2 rfl⟩⟩⟩
 refine (z1N (z5a x0 o0 x1 o1 x2) hden (pccopies_tabs hlaid)).mono fun e W' ⟨he,hb⟩=>⟨_,he,?_⟩;exact z9r laidOutK pccopies_params (by kernel_rfl) Tryz.underlying4 rfl hW' rfl hb
theorem pccopies_met(os:Os):laidMet Tryz.prog Rows.pacCopiesRow.laid ((laidWorld os).forCall (fun _ _=>0) ⟨#[], #[zPac,zPac,.int .i64 0],[]⟩).memory:=
 laidMet_of_run' 8 (by kernel_rfl) (by kernel_rfl)
theorem pccopies_reads(os:Os){H:Type}(enc:TypeId×Value→H):∃places,DataW.whole enc Tryz.prog ((laidWorld os).forCall (fun _ _=>0) ⟨#[], #[zPac,zPac,.int .i64 0],[]⟩).memory Tryz.f7.params.toList Rows.pacCopiesSpec.vars false #[zPac,zPac,Value.int .i64 0].toList 8=some ([dPac,dPac,dI],[],places):=
 ⟨[],by kernel_rfl⟩
theorem pccopies_lifted(os:Os)(started:os.Started)(H:Type)(enc:TypeId×Value→H)(F:Stop.Interp):
 ReturnsInHanded {} Tryz.checked os 7 .any ((OpenSpec.ofChange Rows.pacCopiesSpec).preRow enc Tryz.prog Tryz.f7 Rows.pacCopiesRow.domain false Rows.pacCopiesRow.laid) (((OpenSpec.ofChange Rows.pacCopiesSpec).at F).post enc Tryz.prog Tryz.f7 false true false false):=by
 obtain ⟨places,hx⟩:=pccopies_reads os enc;refine returnsInHanded_of_row (C:=Tryz.checked) (s:=OpenSpec.ofChange Rows.pacCopiesSpec) ownK started (by kernel_rfl) Tryz.func7
  (witness_row_atRef (enc:=enc) (C:=Tryz.checked) false (laidWorld os) #[zPac,zPac,.int .i64 0] rfl (by kernel_rfl) (by kernel_rfl) (by kernel_rfl)
   (OpenSpec.preRow_of_cond 8 hx (by kernel_rfl) (fun k hk=>by cases hk) (by kernel_rfl) (pccopies_met os))) ?_
 intro W base args ds gs before hval hW _ _ hsz hlaid _ _;exact pccopies_contract H enc W base args ds gs before hval hW hsz hlaid
theorem pccopies_named:Tryz.pinned.checked.prog.funcNamed Rows.pacCopiesRow.func=some 7:=by kernel_rfl
theorem pccopies_said:Rows.PacCopiesSaid:=
 OpenClaim.holds_of_cond 7 Tryz.f7 rfl rfl rfl rfl rfl rfl rfl ⟨rfl,rfl,rfl,rfl,rfl⟩ rfl rfl rfl rfl rfl pccopies_named Tryz.func7 pccopies_joined
  (of_decide_eq_true (by kernel_rfl)) (by unfold Func.isWrapper;first| (rw [if_pos (by decide+kernel)];kernel_rfl) | (rw [if_neg (by decide+kernel)];exact ⟨rfl,rfl⟩))
  (fun os started H enc _ F=>by rw [OpenClaim.pre_eq_preRow];exact pccopies_lifted os started H enc F)
theorem pccopies_plain(f:FuncId)(fn:Func)(hf:Tryz.pinned.checked.prog.funcNamed Rows.pacCopiesRow.func=some f)(hfn:Tryz.pinned.checked.prog.funcs[f]?=some fn):
 true=Tryz.pinned.checked.prog.looks []∧∀ (j:Nat) t,fn.params[j]?=some t→Tryz.pinned.checked.prog.wantsStandIn t=false:=by
 obtain rfl:f=7:=Option.some.inj ((show Tryz.prog.funcNamed Rows.pacCopiesRow.func=some 7 by kernel_rfl).symm.trans hf) |>.symm
 obtain rfl:fn=Tryz.f7:=(Option.some.inj (Tryz.func7.symm.trans hfn)).symm;refine ⟨by kernel_rfl,fun j t ht=> ?_⟩
 rw [Tryz.params7] at ht;have hm:=Array.mem_of_getElem? ht;simp at hm;rcases hm with rfl|rfl
 · exact (show Tryz.prog.wantsStandIn 28=false by kernel_rfl)
 exact (show Tryz.prog.wantsStandIn 3=false by kernel_rfl)
theorem pccopies_card:Rows.PacCopiesCardSaid:=
 Claim7.holds_tied_plain_at .later [] _ _ _ _ pccopies_said (fun _ h=>by cases h) (by kernel_rfl) (fun _ h=>by cases h) pacCopies_row_tie rfl ⟨rfl,rfl⟩ (by kernel_rfl) rfl pccopies_plain (by kernel_rfl)

end Go.Proofs.YtmapiojgmbgbgaaGreatDoor
