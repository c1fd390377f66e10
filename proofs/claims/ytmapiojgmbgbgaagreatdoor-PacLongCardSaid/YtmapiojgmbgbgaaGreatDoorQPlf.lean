/- PacLong: for all numbers the law answers true. -/
import Derived.Test.YtmapiojgmbgbgaaGreatDoorQ35
import Derived.Test.YtmapiojgmbgbgaaGreatDoorQ32
import Derived.Test.YtmapiojgmbgbgaaGreatDoorQ33
import Derived.Test.YtmapiojgmbgbgaaGreatDoorQJb
import Derived.Deep.DeepWitnessRowRef
set_option linter.all false
namespace Go.Proofs.YtmapiojgmbgbgaaGreatDoor
open Go Go.Sx Go.ChangeShapes Go.WideShapes Go.ChangeAt Go.RowKit
set_option maxRecDepth 100000
theorem pclong_k1:(Rows.pacLongRow.wf (OpenSpec.ofChange Rows.pacLongSpec))=true:=by kernel_rfl
theorem pclong_k4:(Tryz.f5.params.all (Tryz.prog.readableRec ·))=true:=by kernel_rfl
theorem pclong_k5:(namedTie Tryz.prog Rows.pacLongRow.named Rows.pacLongSpec.vars)=true:=by kernel_rfl
theorem pclong_k6:((Rows.pacLongRow.stops== []))=true:=by kernel_rfl
theorem pclong_k8:((Rows.pacLongRow.knobs== []))=true:=by kernel_rfl
theorem pclong_k10:((Rows.pacLongRow.inPlace==Tryz.prog.inPlace 5))=true:=by kernel_rfl
theorem pclong_k11:((Rows.pacLongRow.unfollowed==Tryz.prog.unfollowed 5))=true:=by kernel_rfl
theorem pclong_k12:((Rows.pacLongRow.recurses==Tryz.prog.recurses 5))=true:=by kernel_rfl
theorem pclong_k13:((Rows.pacLongRow.named==Tryz.prog.varsNamed 5))=true:=by kernel_rfl
theorem pclong_k14:((Rows.pacLongRow.maps==(Tryz.f5.params.toList++Rows.pacLongSpec.plain.varTypes Tryz.prog).any (Tryz.prog.mapsRec ·)))=true:=by kernel_rfl
theorem pclong_k15:((Rows.pacLongRow.ifaces==(Tryz.f5.params.toList++Rows.pacLongSpec.plain.varTypes Tryz.prog).any (Tryz.prog.ifacesRec ·)))=true:=by kernel_rfl
theorem pclong_k16:((Rows.pacLongRow.mapsOut==Tryz.prog.mapsAmong Tryz.f5.resultTypes.toList))=true:=by kernel_rfl
theorem pclong_k17:((Rows.pacLongRow.loops==(Tryz.f5.params.toList++Rows.pacLongSpec.plain.varTypes Tryz.prog).any (Tryz.prog.loopsFrom ·)))=true:=by kernel_rfl
theorem pclong_k18:((Rows.pacLongRow.wideKeys==(Tryz.f5.params.toList++Rows.pacLongSpec.plain.varTypes Tryz.prog++Tryz.f5.resultTypes.toList).any (Tryz.prog.wideKeysFrom ·)))=true:=by kernel_rfl
theorem pclong_k19:(Rows.pacLongSpec.vars.all (Tryz.prog.varReadable ·))=true:=by kernel_rfl
theorem pclong_k20:(Tryz.f5.resultTypes.all (fun t=>Tryz.prog.readableRec t&& decide (t<Tryz.prog.types.size)))=true:=by kernel_rfl
theorem pclong_k21:((Rows.pacLongRow.ifacesOut==Tryz.f5.resultTypes.toList.any (Tryz.prog.ifacesRec ·)))=true:=by kernel_rfl
theorem pclong_k22:((Rows.pacLongRow.loopsOut==Tryz.f5.resultTypes.toList.any (Tryz.prog.loopsFrom ·)))=true:=by kernel_rfl
theorem pclong_k23:((Rows.pacLongRow.plainKeys==Tryz.prog.plainKeys))=true:=by kernel_rfl
theorem pclong_k24:(Rows.pacLongRow.shortTexts.isNone)=true:=by kernel_rfl
theorem pclong_k27:((Rows.pacLongRow.lifted==Tryz.prog.liftsFinal))=true:=by kernel_rfl
theorem pclong_k28:((Tryz.prog.make==some Rows.pacLongRow.make))=true:=by kernel_rfl
theorem pclong_k29:((Rows.pacLongRow.kinds==(if Rows.pacLongRow.domain.isEmpty then [] else Tryz.f5.params.toList.map fun t=>match Tryz.prog.underlying t with|some (.int k)=>some k|_=>none)))=true:=by kernel_rfl
theorem pclong_k30:((Rows.pacLongRow.pinned==Rows.pacLongRow.pinnedBy))=true:=by kernel_rfl
theorem pclong_k31:((Rows.pacLongRow.veiled==(Tryz.f5.params.toList++Rows.pacLongSpec.plain.varTypes Tryz.prog++Tryz.f5.resultTypes.toList).any (Tryz.prog.veiledRec ·)))=true:=by kernel_rfl
theorem pclong_k32:(Rows.pacLongRow.veiledFits Tryz.prog Tryz.f5.params.toList (Tryz.f5.params.toList++Rows.pacLongSpec.plain.varTypes Tryz.prog++Tryz.f5.resultTypes.toList))=true:=by kernel_rfl
theorem pclong_joined:joinedFacts Tryz.prog 5 Tryz.f5 Rows.pacLongSpec Rows.pacLongRow=true:=
 z2i pclong_k1 z7S z7D pclong_k4 pclong_k5 pclong_k6 z8c pclong_k8 z6C pclong_k10 pclong_k11 pclong_k12 pclong_k13 pclong_k14 pclong_k15 pclong_k16 pclong_k17 pclong_k18 pclong_k19 pclong_k20 pclong_k21 pclong_k22 pclong_k23 pclong_k24 z5d z5b pclong_k27 pclong_k28 pclong_k29 pclong_k30 pclong_k31 pclong_k32
theorem pclong_tabs{W:World}(h:laidMetH Tryz.prog Rows.pacLongRow.laid W):TabT (Cx.top W) []:=by
 have hm:=j2a h (by kernel_rfl)
 refine ⟨?_,?_⟩
 · exact fun e he=>absurd he (by simp [tabList])
 intro e he;simp only [datList,Bi,CA,or_false] at he;rcases he with rfl|rfl|rfl
 · exact z0e hm "watchword/sha.start" .u32 dat_sha_start 2 (by kernel_rfl) (by kernel_rfl) (by kernel_rfl) (by kernel_rfl) (by kernel_rfl) (by kernel_rfl) (by kernel_rfl) (by kernel_rfl) (t:=287) (e:=285) (n:=8)
 · exact z0e hm "watchword/sha.constants" .u32 dat_sha_constants 3 (by kernel_rfl) (by kernel_rfl) (by kernel_rfl) (by kernel_rfl) (by kernel_rfl) (by kernel_rfl) (by kernel_rfl) (by kernel_rfl) (t:=333) (e:=285) (n:=64)
 exact z9a hm "watchword/watchwordref04.constants" .i64 dat_ref04_constants 1 (by kernel_rfl) (by kernel_rfl) (by kernel_rfl) (by kernel_rfl) (by kernel_rfl) (by kernel_rfl) (by decide) (t:=25) (e:=3)
theorem pclong_params:∀t∈Tryz.f5.params.toList,Tryz.prog.readableRec t=true∧t<Tryz.prog.types.size:=by
 rw [Tryz.params5];intro t ht;simp at ht;obtain rfl:=ht;exact ⟨by kernel_rfl,of_decide_eq_true (by kernel_rfl)⟩
theorem pclong_contract(H:Type)(enc:TypeId×Value→H)(W:World)(base:Nat)(args:Array Value)(ds gs:List (DataW H))(before:List MemPlace)
 (hval:∀ (j:Nat) t v,Tryz.f5.params[j]?=some t→args[j]?=some v→Value.okWide Tryz.prog W .any base t v)
 (hW:DataW.Whole enc Tryz.prog Tryz.f5.params.toList Rows.pacLongSpec.vars false W args.toList ds gs before)
 (hsz:(DataW.weightsEach Tryz.prog (Tryz.f5.params.toList++(OpenSpec.ofChange Rows.pacLongSpec).bare.plain.varTypes Tryz.prog) (ds++gs)).all (· ≤reachBytes)=true)(hlaid:laidMetH Tryz.prog Rows.pacLongRow.laid W):
 Calls Tryz.prog 5 args W fun e W'=>∃v,e= .returned v∧Rows.pacLongSpec.post enc Tryz.prog Tryz.f5 false true false false W args v W':=by
 have hW':=hW;obtain ⟨p,q,hA0,hV,rfl,hfz,hnd⟩:=hW;have hA:DataW.TrodAll enc Tryz.prog W 0 (fun _=>true) true Tryz.f5.params.toList args.toList ds p:=hA0;rw [Tryz.params5] at hA hval hsz;obtain ⟨v0,v1,d0,d1,p0,p1,rfl,rfl,rfl,h0,h1⟩:=trodAll_two hA;obtain ⟨rfl,rfl⟩:=trodVars_none hV;have hw:(DataW.weightsEach Tryz.prog [3,3] [d0,d1]).all (· ≤reachBytes)=true:=hsz
 simp only [DataW.weightsEach] at hw;obtain ⟨x0,rfl,rfl,rfl,_⟩:=open_int Tryz.underlying3 (hval 0 3 v0 rfl rfl) h0;obtain ⟨x1,rfl,rfl,rfl,_⟩:=open_int Tryz.underlying3 (hval 1 3 v1 rfl rfl) h1;have hden:SV.denL (Cx.top W) [rI x0,rI x1] [(.int .i64 x0),(.int .i64 x1)]:=
  q0e.2 ⟨_,_,rfl,by rw [SV.den],q0e.2 ⟨_,_,rfl,by rw [SV.den],q0C.2 rfl⟩⟩
 refine (q7y (j1L rsum9 x0 x1) hden (pclong_tabs hlaid)).mono fun e W' ⟨he,hb⟩=>⟨_,he,?_⟩;exact z4I laidOutK pclong_params (by kernel_rfl) Tryz.underlying4 rfl hW' rfl hb
theorem pclong_met(os:Os):laidMet Tryz.prog Rows.pacLongRow.laid ((laidWorld os).forCall (fun _ _=>0) ⟨#[], #[.int .i64 0,.int .i64 0],[]⟩).memory:=
 laidMet_of_run' 8 (by kernel_rfl) (by kernel_rfl)
theorem pclong_reads(os:Os){H:Type}(enc:TypeId×Value→H):∃places,DataW.whole enc Tryz.prog ((laidWorld os).forCall (fun _ _=>0) ⟨#[], #[.int .i64 0,.int .i64 0],[]⟩).memory Tryz.f5.params.toList Rows.pacLongSpec.vars false #[Value.int .i64 0,Value.int .i64 0].toList 8=some ([dI,dI],[],places):=
 ⟨[],by kernel_rfl⟩
theorem pclong_lifted(os:Os)(started:os.Started)(H:Type)(enc:TypeId×Value→H)(F:Stop.Interp):
 ReturnsInHanded {} Tryz.checked os 5 .any ((OpenSpec.ofChange Rows.pacLongSpec).preRow enc Tryz.prog Tryz.f5 Rows.pacLongRow.domain false Rows.pacLongRow.laid) (((OpenSpec.ofChange Rows.pacLongSpec).at F).post enc Tryz.prog Tryz.f5 false true false false):=by
 obtain ⟨places,hx⟩:=pclong_reads os enc;refine returnsInHanded_of_row (C:=Tryz.checked) (s:=OpenSpec.ofChange Rows.pacLongSpec) ownK started (by kernel_rfl) Tryz.func5
  (witness_row_atRef (enc:=enc) (C:=Tryz.checked) false (laidWorld os) #[.int .i64 0,.int .i64 0] rfl (by kernel_rfl) (by kernel_rfl) (by kernel_rfl)
   (OpenSpec.preRow_of_cond 8 hx (by kernel_rfl) (fun k hk=>by cases hk) (by kernel_rfl) (pclong_met os))) ?_
 intro W base args ds gs before hval hW _ _ hsz hlaid _ _;exact pclong_contract H enc W base args ds gs before hval hW hsz hlaid
theorem pclong_named:Tryz.pinned.checked.prog.funcNamed Rows.pacLongRow.func=some 5:=by kernel_rfl
theorem pclong_said:Rows.PacLongSaid:=
 OpenClaim.holds_of_cond 5 Tryz.f5 rfl rfl rfl rfl rfl rfl rfl ⟨rfl,rfl,rfl,rfl,rfl⟩ rfl rfl rfl rfl rfl pclong_named Tryz.func5 pclong_joined
  (of_decide_eq_true (by kernel_rfl)) (by unfold Func.isWrapper;first| (rw [if_pos (by decide+kernel)];kernel_rfl) | (rw [if_neg (by decide+kernel)];exact ⟨rfl,rfl⟩))
  (fun os started H enc _ F=>by rw [OpenClaim.pre_eq_preRow];exact pclong_lifted os started H enc F)
theorem pclong_plain(f:FuncId)(fn:Func)(hf:Tryz.pinned.checked.prog.funcNamed Rows.pacLongRow.func=some f)(hfn:Tryz.pinned.checked.prog.funcs[f]?=some fn):
 true=Tryz.pinned.checked.prog.looks []∧∀ (j:Nat) t,fn.params[j]?=some t→Tryz.pinned.checked.prog.wantsStandIn t=false:=by
 obtain rfl:f=5:=Option.some.inj ((show Tryz.prog.funcNamed Rows.pacLongRow.func=some 5 by kernel_rfl).symm.trans hf) |>.symm
 obtain rfl:fn=Tryz.f5:=(Option.some.inj (Tryz.func5.symm.trans hfn)).symm;refine ⟨by kernel_rfl,fun j t ht=> ?_⟩
 rw [Tryz.params5] at ht;have hm:=Array.mem_of_getElem? ht;simp at hm;obtain rfl:=hm;exact (show Tryz.prog.wantsStandIn 3=false by kernel_rfl)
theorem pclong_card:Rows.PacLongCardSaid:=
 Claim7.holds_tied_plain_at .later [] _ _ _ _ pclong_said (fun _ h=>by cases h) (by kernel_rfl) (fun _ h=>by cases h) pacLong_row_tie rfl ⟨rfl,rfl⟩ (by kernel_rfl) rfl pclong_plain (by kernel_rfl)

end Go.Proofs.YtmapiojgmbgbgaaGreatDoor
