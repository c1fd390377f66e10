/- PacEncodes: for all authorisation data and bytes the law answers true, and its arguments read as they did. -/
import Derived.Test.YtmapiojgmbgbgaaGreatDoorP34
import Derived.Test.YtmapiojgmbgbgaaGreatDoorP33
set_option linter.all false
namespace Go.Proofs.YtmapiojgmbgbgaaGreatDoor
open Go Go.Sx Go.ChangeShapes Go.WideShapes Go.ChangeAt Go.RowKit
set_option maxRecDepth 100000
theorem pcencodes_k1:(Rows.pacEncodesRow.wf (OpenSpec.ofChange Rows.pacEncodesSpec))=true:=by kernel_rfl
theorem pcencodes_k4:(Tryz.f4.params.all (Tryz.prog.readableRec ·))=true:=by kernel_rfl
theorem pcencodes_k5:(namedTie Tryz.prog Rows.pacEncodesRow.named Rows.pacEncodesSpec.vars)=true:=by kernel_rfl
theorem pcencodes_k6:((Rows.pacEncodesRow.stops== []))=true:=by kernel_rfl
theorem pcencodes_k8:((Rows.pacEncodesRow.knobs== []))=true:=by kernel_rfl
theorem pcencodes_k10:((Rows.pacEncodesRow.inPlace==Tryz.prog.inPlace 4))=true:=by kernel_rfl
theorem pcencodes_k11:((Rows.pacEncodesRow.unfollowed==Tryz.prog.unfollowed 4))=true:=by kernel_rfl
theorem pcencodes_k12:((Rows.pacEncodesRow.recurses==Tryz.prog.recurses 4))=true:=by kernel_rfl
theorem pcencodes_k13:((Rows.pacEncodesRow.named==Tryz.prog.varsNamed 4))=true:=by kernel_rfl
theorem pcencodes_k14:((Rows.pacEncodesRow.maps==(Tryz.f4.params.toList++Rows.pacEncodesSpec.plain.varTypes Tryz.prog).any (Tryz.prog.mapsRec ·)))=true:=by kernel_rfl
theorem pcencodes_k15:((Rows.pacEncodesRow.ifaces==(Tryz.f4.params.toList++Rows.pacEncodesSpec.plain.varTypes Tryz.prog).any (Tryz.prog.ifacesRec ·)))=true:=by kernel_rfl
theorem pcencodes_k16:((Rows.pacEncodesRow.mapsOut==Tryz.prog.mapsAmong Tryz.f4.resultTypes.toList))=true:=by kernel_rfl
theorem pcencodes_k17:((Rows.pacEncodesRow.loops==(Tryz.f4.params.toList++Rows.pacEncodesSpec.plain.varTypes Tryz.prog).any (Tryz.prog.loopsFrom ·)))=true:=by kernel_rfl
theorem pcencodes_k18:((Rows.pacEncodesRow.wideKeys==(Tryz.f4.params.toList++Rows.pacEncodesSpec.plain.varTypes Tryz.prog++Tryz.f4.resultTypes.toList).any (Tryz.prog.wideKeysFrom ·)))=true:=by kernel_rfl
theorem pcencodes_k19:(Rows.pacEncodesSpec.vars.all (Tryz.prog.varReadable ·))=true:=by kernel_rfl
theorem pcencodes_k20:(Tryz.f4.resultTypes.all (fun t=>Tryz.prog.readableRec t&& decide (t<Tryz.prog.types.size)))=true:=by kernel_rfl
theorem pcencodes_k21:((Rows.pacEncodesRow.ifacesOut==Tryz.f4.resultTypes.toList.any (Tryz.prog.ifacesRec ·)))=true:=by kernel_rfl
theorem pcencodes_k22:((Rows.pacEncodesRow.loopsOut==Tryz.f4.resultTypes.toList.any (Tryz.prog.loopsFrom ·)))=true:=by kernel_rfl
theorem pcencodes_k23:((Rows.pacEncodesRow.plainKeys==Tryz.prog.plainKeys))=true:=by kernel_rfl
theorem pcencodes_k24:(Rows.pacEncodesRow.shortTexts.isNone)=true:=by kernel_rfl
theorem pcencodes_k27:((Rows.pacEncodesRow.lifted==Tryz.prog.liftsFinal))=true:=by kernel_rfl
theorem pcencodes_k28:((Tryz.prog.make==some Rows.pacEncodesRow.make))=true:=by kernel_rfl
theorem pcencodes_k29:((Rows.pacEncodesRow.kinds==(if Rows.pacEncodesRow.domain.isEmpty then [] else Tryz.f4.params.toList.map fun t=>match Tryz.prog.underlying t with|some (.int k)=>some k|_=>none)))=true:=by kernel_rfl
theorem pcencodes_k30:((Rows.pacEncodesRow.pinned==Rows.pacEncodesRow.pinnedBy))=true:=by kernel_rfl
theorem pcencodes_k31:((Rows.pacEncodesRow.veiled==(Tryz.f4.params.toList++Rows.pacEncodesSpec.plain.varTypes Tryz.prog++Tryz.f4.resultTypes.toList).any (Tryz.prog.veiledRec ·)))=true:=by kernel_rfl
theorem pcencodes_k32:(Rows.pacEncodesRow.veiledFits Tryz.prog Tryz.f4.params.toList (Tryz.f4.params.toList++Rows.pacEncodesSpec.plain.varTypes Tryz.prog++Tryz.f4.resultTypes.toList))=true:=by kernel_rfl
theorem pcencodes_joined:joinedFacts Tryz.prog 4 Tryz.f4 Rows.pacEncodesSpec Rows.pacEncodesRow=true:=
 z1L pcencodes_k1 z6G z7k pcencodes_k4 pcencodes_k5 pcencodes_k6 z8b pcencodes_k8 z8h pcencodes_k10 pcencodes_k11 pcencodes_k12 pcencodes_k13 pcencodes_k14 pcencodes_k15 pcencodes_k16 pcencodes_k17 pcencodes_k18 pcencodes_k19 pcencodes_k20 pcencodes_k21 pcencodes_k22 pcencodes_k23 pcencodes_k24 z3R z4B pcencodes_k27 pcencodes_k28 pcencodes_k29 pcencodes_k30 pcencodes_k31 pcencodes_k32
theorem pcencodes_tabs{W:World}(h:laidMetH Tryz.prog Rows.pacEncodesRow.laid W):TabT (Cx.top W) []:=by
 have hm:=j1E h (by kernel_rfl)
 refine ⟨?_,?_⟩
 · exact fun e he=>absurd he (by simp [tabList])
 intro e he;simp only [datList,AZ,Bf,or_false] at he;rcases he with rfl|rfl
 · exact q9n hm "watchword/sha.start" .u32 dat_sha_start 1 (by kernel_rfl) (by kernel_rfl) (by kernel_rfl) (by kernel_rfl) (by kernel_rfl) (by kernel_rfl) (by kernel_rfl) (by kernel_rfl) (t:=287) (e:=285) (n:=8)
 exact q9n hm "watchword/sha.constants" .u32 dat_sha_constants 2 (by kernel_rfl) (by kernel_rfl) (by kernel_rfl) (by kernel_rfl) (by kernel_rfl) (by kernel_rfl) (by kernel_rfl) (by kernel_rfl) (t:=333) (e:=285) (n:=64)
theorem pcencodes_params:∀t∈Tryz.f4.params.toList,Tryz.prog.readableRec t=true∧t<Tryz.prog.types.size:=by
 rw [Tryz.params4];intro t ht;simp at ht;rcases ht with rfl|rfl
 · exact ⟨by kernel_rfl,of_decide_eq_true (by kernel_rfl)⟩
 exact ⟨by kernel_rfl,of_decide_eq_true (by kernel_rfl)⟩
theorem pcencodes_contract(H:Type)(enc:TypeId×Value→H)(W:World)(base:Nat)(args:Array Value)(ds gs:List (DataW H))(before:List MemPlace)
 (hval:∀ (j:Nat) t v,Tryz.f4.params[j]?=some t→args[j]?=some v→Value.okWide Tryz.prog W .any base t v)
 (hW:DataW.Whole enc Tryz.prog Tryz.f4.params.toList Rows.pacEncodesSpec.vars false W args.toList ds gs before)
 (hsz:(DataW.weightsEach Tryz.prog (Tryz.f4.params.toList++(OpenSpec.ofChange Rows.pacEncodesSpec).bare.plain.varTypes Tryz.prog) (ds++gs)).all (· ≤reachBytes)=true)(hlaid:laidMetH Tryz.prog Rows.pacEncodesRow.laid W):
 Calls Tryz.prog 4 args W fun e W'=>∃v,e= .returned v∧Rows.pacEncodesSpec.post enc Tryz.prog Tryz.f4 false true false false W args v W':=by
 have hW':=hW;obtain ⟨p,q,hA0,hV,rfl,hfz,hnd⟩:=hW;have hA:DataW.TrodAll enc Tryz.prog W 0 (fun _=>true) true Tryz.f4.params.toList args.toList ds p:=hA0;rw [Tryz.params4] at hA hval hsz;obtain ⟨v0,v1,d0,d1,p0,p1,rfl,rfl,rfl,h0,h1⟩:=trodAll_two hA;obtain ⟨rfl,rfl⟩:=trodVars_none hV;have hw:(DataW.weightsEach Tryz.prog [28,29] [d0,d1]).all (· ≤reachBytes)=true:=hsz
 simp only [DataW.weightsEach] at hw;obtain ⟨x0,e0,o0,r0⟩:=q2E Tryz.underlying28 tyPac (hval 0 28 v0 rfl rfl) h0 (q0l hw).1;obtain ⟨x1,e1,o1,r1⟩:=z7I (show Tryz.prog.underlying 29=some (.slice 5) by kernel_rfl) (show tyRd Tryz.prog 8 29=some (.slice (.u8)) by kernel_rfl) (hval 1 29 v1 rfl rfl) h1 (q0l (q0l hw).2).1
 have hden:SV.denL (Cx.top W) [.agg ((PacT).cells x0),.isl (.u8) x1] [v0,v1]:=
  q0c.2 ⟨_,_,rfl,e0,q0c.2 ⟨_,_,rfl,e1,q0z.2 rfl⟩⟩
 refine (q7g (z2O x0 o0 x1) hden (pcencodes_tabs hlaid)).mono fun e W' ⟨he,hb⟩=>⟨_,he,?_⟩;exact z3j laidOutK pcencodes_params (by kernel_rfl) Tryz.underlying4 rfl hW' rfl hb
theorem pcencodes_met(os:Os):laidMet Tryz.prog Rows.pacEncodesRow.laid ((laidWorld os).forCall (fun _ _=>0) ⟨#[], #[zPac,.slice none 0 0],[]⟩).memory:=
 laidMet_of_run' 8 (by kernel_rfl) (by kernel_rfl)
theorem pcencodes_reads(os:Os){H:Type}(enc:TypeId×Value→H):∃places,DataW.whole enc Tryz.prog ((laidWorld os).forCall (fun _ _=>0) ⟨#[], #[zPac,.slice none 0 0],[]⟩).memory Tryz.f4.params.toList Rows.pacEncodesSpec.vars false #[zPac,Value.slice none 0 0].toList 8=some ([dPac,.nil],[],places):=
 ⟨[],by kernel_rfl⟩
theorem pcencodes_lifted(os:Os)(started:os.Started)(H:Type)(enc:TypeId×Value→H)(F:Stop.Interp):
 ReturnsInHanded {} Tryz.checked os 4 .any ((OpenSpec.ofChange Rows.pacEncodesSpec).preRow enc Tryz.prog Tryz.f4 Rows.pacEncodesRow.domain false Rows.pacEncodesRow.laid) (((OpenSpec.ofChange Rows.pacEncodesSpec).at F).post enc Tryz.prog Tryz.f4 false true false false):=by
 obtain ⟨places,hx⟩:=pcencodes_reads os enc;refine returnsInHanded_of_row (C:=Tryz.checked) (s:=OpenSpec.ofChange Rows.pacEncodesSpec) ownK started (by kernel_rfl) Tryz.func4
  (witness_row_atRef (enc:=enc) (C:=Tryz.checked) false (laidWorld os) #[zPac,.slice none 0 0] rfl (by kernel_rfl) (by kernel_rfl) (by kernel_rfl)
   (OpenSpec.preRow_of_cond 8 hx (by kernel_rfl) (fun k hk=>by cases hk) (by kernel_rfl) (pcencodes_met os))) ?_
 intro W base args ds gs before hval hW _ _ hsz hlaid _ _;exact pcencodes_contract H enc W base args ds gs before hval hW hsz hlaid
theorem pcencodes_named:Tryz.pinned.checked.prog.funcNamed Rows.pacEncodesRow.func=some 4:=by kernel_rfl
theorem pcencodes_said:Rows.PacEncodesSaid:=
 OpenClaim.holds_of_cond 4 Tryz.f4 rfl rfl rfl rfl rfl rfl rfl ⟨rfl,rfl,rfl,rfl,rfl⟩ rfl rfl rfl rfl rfl pcencodes_named Tryz.func4 pcencodes_joined
  (of_decide_eq_true (by kernel_rfl)) (by unfold Func.isWrapper;first| (rw [if_pos (by decide+kernel)];kernel_rfl) | (rw [if_neg (by decide+kernel)];exact ⟨rfl,rfl⟩))
  (fun os started H enc _ F=>by rw [OpenClaim.pre_eq_preRow];exact pcencodes_lifted os started H enc F)
theorem pcencodes_plain(f:FuncId)(fn:Func)(hf:Tryz.pinned.checked.prog.funcNamed Rows.pacEncodesRow.func=some f)(hfn:Tryz.pinned.checked.prog.funcs[f]?=some fn):
 true=Tryz.pinned.checked.prog.looks []∧∀ (j:Nat) t,fn.params[j]?=some t→Tryz.pinned.checked.prog.wantsStandIn t=false:=by
 obtain rfl:f=4:=Option.some.inj ((show Tryz.prog.funcNamed Rows.pacEncodesRow.func=some 4 by kernel_rfl).symm.trans hf) |>.symm
 obtain rfl:fn=Tryz.f4:=(Option.some.inj (Tryz.func4.symm.trans hfn)).symm;refine ⟨by kernel_rfl,fun j t ht=> ?_⟩
 rw [Tryz.params4] at ht;have hm:=Array.mem_of_getElem? ht;simp at hm;rcases hm with rfl|rfl
 · exact (show Tryz.prog.wantsStandIn 28=false by kernel_rfl)
 exact (show Tryz.prog.wantsStandIn 29=false by kernel_rfl)
theorem pcencodes_card:Rows.PacEncodesCardSaid:=
 Claim7.holds_tied_plain_at .later [] _ _ _ _ pcencodes_said (fun _ h=>by cases h) (by kernel_rfl) (fun _ h=>by cases h) pacEncodes_row_tie rfl ⟨rfl,rfl⟩ (by kernel_rfl) rfl pcencodes_plain (by kernel_rfl)

end Go.Proofs.YtmapiojgmbgbgaaGreatDoor
