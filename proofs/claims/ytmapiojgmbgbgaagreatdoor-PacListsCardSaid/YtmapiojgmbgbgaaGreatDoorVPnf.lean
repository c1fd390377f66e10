/- PacLists: for all authorisation data, clients, times, lists and bytes the law answers true, and its arguments read as they did. -/
import Derived.Test.YtmapiojgmbgbgaaGreatDoorV30
import Derived.Test.YtmapiojgmbgbgaaGreatDoorV32
set_option linter.all false
namespace Go.Proofs.YtmapiojgmbgbgaaGreatDoor
open Go Go.Sx Go.ChangeShapes Go.WideShapes Go.ChangeAt Go.RowKit
set_option maxRecDepth 100000
theorem pclists_k1:(Rows.pacListsRow.wf (OpenSpec.ofChange Rows.pacListsSpec))=true:=by kernel_rfl
theorem pclists_k4:(Tryz.f6.params.all (Tryz.prog.readableRec ·))=true:=by kernel_rfl
theorem pclists_k5:(namedTie Tryz.prog Rows.pacListsRow.named Rows.pacListsSpec.vars)=true:=by kernel_rfl
theorem pclists_k6:((Rows.pacListsRow.stops== []))=true:=by kernel_rfl
theorem pclists_k8:((Rows.pacListsRow.knobs== []))=true:=by kernel_rfl
theorem pclists_k10:((Rows.pacListsRow.inPlace==Tryz.prog.inPlace 6))=true:=by kernel_rfl
theorem pclists_k11:((Rows.pacListsRow.unfollowed==Tryz.prog.unfollowed 6))=true:=by kernel_rfl
theorem pclists_k12:((Rows.pacListsRow.recurses==Tryz.prog.recurses 6))=true:=by kernel_rfl
theorem pclists_k13:((Rows.pacListsRow.named==Tryz.prog.varsNamed 6))=true:=by kernel_rfl
theorem pclists_k14:((Rows.pacListsRow.maps==(Tryz.f6.params.toList++Rows.pacListsSpec.plain.varTypes Tryz.prog).any (Tryz.prog.mapsRec ·)))=true:=by kernel_rfl
theorem pclists_k15:((Rows.pacListsRow.ifaces==(Tryz.f6.params.toList++Rows.pacListsSpec.plain.varTypes Tryz.prog).any (Tryz.prog.ifacesRec ·)))=true:=by kernel_rfl
theorem pclists_k16:((Rows.pacListsRow.mapsOut==Tryz.prog.mapsAmong Tryz.f6.resultTypes.toList))=true:=by kernel_rfl
theorem pclists_k17:((Rows.pacListsRow.loops==(Tryz.f6.params.toList++Rows.pacListsSpec.plain.varTypes Tryz.prog).any (Tryz.prog.loopsFrom ·)))=true:=by kernel_rfl
theorem pclists_k18:((Rows.pacListsRow.wideKeys==(Tryz.f6.params.toList++Rows.pacListsSpec.plain.varTypes Tryz.prog++Tryz.f6.resultTypes.toList).any (Tryz.prog.wideKeysFrom ·)))=true:=by kernel_rfl
theorem pclists_k19:(Rows.pacListsSpec.vars.all (Tryz.prog.varReadable ·))=true:=by kernel_rfl
theorem pclists_k20:(Tryz.f6.resultTypes.all (fun t=>Tryz.prog.readableRec t&& decide (t<Tryz.prog.types.size)))=true:=by kernel_rfl
theorem pclists_k21:((Rows.pacListsRow.ifacesOut==Tryz.f6.resultTypes.toList.any (Tryz.prog.ifacesRec ·)))=true:=by kernel_rfl
theorem pclists_k22:((Rows.pacListsRow.loopsOut==Tryz.f6.resultTypes.toList.any (Tryz.prog.loopsFrom ·)))=true:=by kernel_rfl
theorem pclists_k23:((Rows.pacListsRow.plainKeys==Tryz.prog.plainKeys))=true:=by kernel_rfl
theorem pclists_k24:(Rows.pacListsRow.shortTexts.isNone)=true:=by kernel_rfl
theorem pclists_k27:((Rows.pacListsRow.lifted==Tryz.prog.liftsFinal))=true:=by kernel_rfl
theorem pclists_k28:((Tryz.prog.make==some Rows.pacListsRow.make))=true:=by kernel_rfl
theorem pclists_k29:((Rows.pacListsRow.kinds==(if Rows.pacListsRow.domain.isEmpty then [] else Tryz.f6.params.toList.map fun t=>match Tryz.prog.underlying t with|some (.int k)=>some k|_=>none)))=true:=by kernel_rfl
theorem pclists_k30:((Rows.pacListsRow.pinned==Rows.pacListsRow.pinnedBy))=true:=by kernel_rfl
theorem pclists_k31:((Rows.pacListsRow.veiled==(Tryz.f6.params.toList++Rows.pacListsSpec.plain.varTypes Tryz.prog++Tryz.f6.resultTypes.toList).any (Tryz.prog.veiledRec ·)))=true:=by kernel_rfl
theorem pclists_k32:(Rows.pacListsRow.veiledFits Tryz.prog Tryz.f6.params.toList (Tryz.f6.params.toList++Rows.pacListsSpec.plain.varTypes Tryz.prog++Tryz.f6.resultTypes.toList))=true:=by kernel_rfl
theorem pclists_joined:joinedFacts Tryz.prog 6 Tryz.f6 Rows.pacListsSpec Rows.pacListsRow=true:=
 z7A pclists_k1 j1W j1B pclists_k4 pclists_k5 pclists_k6 j2c pclists_k8 j0Y pclists_k10 pclists_k11 pclists_k12 pclists_k13 pclists_k14 pclists_k15 pclists_k16 pclists_k17 pclists_k18 pclists_k19 pclists_k20 pclists_k21 pclists_k22 pclists_k23 pclists_k24 z9N z9G pclists_k27 pclists_k28 pclists_k29 pclists_k30 pclists_k31 pclists_k32
theorem pclists_tabs{W:World}(h:laidMetH Tryz.prog Rows.pacListsRow.laid W):TabT (Cx.top W) []:=by
 have hm:=j3g h (by kernel_rfl)
 refine ⟨?_,?_⟩
 · exact fun e he=>absurd he (by simp [tabList])
 intro e he;simp only [datList,Bz,List.not_mem_nil,or_false] at he;rcases he with rfl|rfl
 · exact z6C hm "watchword/sha.start" .u32 dat_sha_start 1 (by kernel_rfl) (by kernel_rfl) (by kernel_rfl) (by kernel_rfl) (by kernel_rfl) (by kernel_rfl) (by kernel_rfl) (by kernel_rfl) (t:=287) (e:=285) (n:=8)
 exact z6C hm "watchword/sha.constants" .u32 dat_sha_constants 2 (by kernel_rfl) (by kernel_rfl) (by kernel_rfl) (by kernel_rfl) (by kernel_rfl) (by kernel_rfl) (by kernel_rfl) (by kernel_rfl) (t:=333) (e:=285) (n:=64)
theorem pclists_params:∀t∈Tryz.f6.params.toList,Tryz.prog.readableRec t=true∧t<Tryz.prog.types.size:=by
 rw [Tryz.params6];intro t ht;simp at ht;rcases ht with rfl|rfl|rfl|rfl|rfl
 · exact ⟨by kernel_rfl,of_decide_eq_true (by kernel_rfl)⟩
 · exact ⟨by kernel_rfl,of_decide_eq_true (by kernel_rfl)⟩
 · exact ⟨by kernel_rfl,of_decide_eq_true (by kernel_rfl)⟩
 · exact ⟨by kernel_rfl,of_decide_eq_true (by kernel_rfl)⟩
 exact ⟨by kernel_rfl,of_decide_eq_true (by kernel_rfl)⟩
theorem pclists_contract(H:Type)(enc:TypeId×Value→H)(W:World)(base:Nat)(args:Array Value)(ds gs:List (DataW H))(before:List MemPlace)
 (hval:∀ (j:Nat) t v,Tryz.f6.params[j]?=some t→args[j]?=some v→Value.okWide Tryz.prog W .any base t v)
 (hW:DataW.Whole enc Tryz.prog Tryz.f6.params.toList Rows.pacListsSpec.vars false W args.toList ds gs before)
 (hsz:(DataW.weightsEach Tryz.prog (Tryz.f6.params.toList++(OpenSpec.ofChange Rows.pacListsSpec).bare.plain.varTypes Tryz.prog) (ds++gs)).all (· ≤reachBytes)=true)(hlaid:laidMetH Tryz.prog Rows.pacListsRow.laid W):
 Calls Tryz.prog 6 args W fun e W'=>∃v,e= .returned v∧Rows.pacListsSpec.post enc Tryz.prog Tryz.f6 false true false false W args v W':=by
 have hW':=hW;obtain ⟨p,q,hA0,hV,rfl,hfz,hnd⟩:=hW;have hA:DataW.TrodAll enc Tryz.prog W 0 (fun _=>true) true Tryz.f6.params.toList args.toList ds p:=hA0;rw [Tryz.params6] at hA hval hsz;obtain ⟨v0,v1,v2,v3,v4,d0,d1,d2,d3,d4,p0,p1,p2,p3,p4,rfl,rfl,rfl,h0,h1,h2,h3,h4⟩:=z4k hA;obtain ⟨rfl,rfl⟩:=trodVars_none hV;have hw:(DataW.weightsEach Tryz.prog [28,24,3,52,29] [d0,d1,d2,d3,d4]).all (· ≤reachBytes)=true:=hsz
 simp only [DataW.weightsEach] at hw;obtain ⟨x0,e0,o0,r0⟩:=q7Y Tryz.underlying28 tyPac (hval 0 28 v0 rfl rfl) h0 (q0v hw).1;obtain ⟨x1,e1,o1,r1⟩:=q7Y Tryz.underlying24 tyPcn (hval 1 24 v1 rfl rfl) h1 (q0v (q0v hw).2).1;obtain ⟨x2,rfl,rfl,rfl,_⟩:=open_int Tryz.underlying3 (hval 2 3 v2 rfl rfl) h2;obtain ⟨x3,e3,o3,r3⟩:=z0I (show Tryz.prog.underlying 52=some (.slice 59) by kernel_rfl) (show tyRd Tryz.prog 8 52=some (.slice (PreT)) by kernel_rfl) (hval 3 52 v3 rfl rfl) h3 (q0v (q0v (q0v (q0v hw).2).2).2).1
 obtain ⟨x4,e4,o4,r4⟩:=z0I (show Tryz.prog.underlying 29=some (.slice 5) by kernel_rfl) (show tyRd Tryz.prog 8 29=some (.slice (.u8)) by kernel_rfl) (hval 4 29 v4 rfl rfl) h4 (q0v (q0v (q0v (q0v (q0v hw).2).2).2).2).1
 have hden:SV.denL (Cx.top W) [.agg ((PacT).cells x0),.agg ((PrinT).cells x1),rI x2,.isl (PreT) x3,.isl (.u8) x4] [v0,v1,(.int .i64 x2),v3,v4]:=
  q0c.2 ⟨_,_,rfl,e0,q0c.2 ⟨_,_,rfl,e1,q0c.2 ⟨_,_,rfl,by rw [SV.den],q0c.2 ⟨_,_,rfl,e3,q0c.2 ⟨_,_,rfl,e4,q0p.2 rfl⟩⟩⟩⟩⟩
 refine (z1F (z7K x0 o0 x1 o1 x2 x3 o3 x4 o4) hden (pclists_tabs hlaid)).mono fun e W' ⟨he,hb⟩=>⟨_,he,?_⟩;exact z9h laidOutK pclists_params (by kernel_rfl) Tryz.underlying4 rfl hW' rfl hb
theorem pclists_met(os:Os):laidMet Tryz.prog Rows.pacListsRow.laid ((laidWorld os).forCall (fun _ _=>0) ⟨#[], #[zPac,zPcn,.int .i64 0,.slice none 0 0,.slice none 0 0],[]⟩).memory:=
 laidMet_of_run' 8 (by kernel_rfl) (by kernel_rfl)
theorem pclists_reads(os:Os){H:Type}(enc:TypeId×Value→H):∃places,DataW.whole enc Tryz.prog ((laidWorld os).forCall (fun _ _=>0) ⟨#[], #[zPac,zPcn,.int .i64 0,.slice none 0 0,.slice none 0 0],[]⟩).memory Tryz.f6.params.toList Rows.pacListsSpec.vars false #[zPac,zPcn,Value.int .i64 0,Value.slice none 0 0,Value.slice none 0 0].toList 8=some ([dPac,dPcn,dI,.nil,.nil],[],places):=
 ⟨[],by kernel_rfl⟩
theorem pclists_lifted(os:Os)(started:os.Started)(H:Type)(enc:TypeId×Value→H)(F:Stop.Interp):
 ReturnsInHanded {} Tryz.checked os 6 .any ((OpenSpec.ofChange Rows.pacListsSpec).preRow enc Tryz.prog Tryz.f6 Rows.pacListsRow.domain false Rows.pacListsRow.laid) (((OpenSpec.ofChange Rows.pacListsSpec).at F).post enc Tryz.prog Tryz.f6 false true false false):=by
 obtain ⟨places,hx⟩:=pclists_reads os enc;refine returnsInHanded_of_row (C:=Tryz.checked) (s:=OpenSpec.ofChange Rows.pacListsSpec) ownK started (by kernel_rfl) Tryz.func6
  (witness_row_atRef (enc:=enc) (C:=Tryz.checked) false (laidWorld os) #[zPac,zPcn,.int .i64 0,.slice none 0 0,.slice none 0 0] rfl (by kernel_rfl) (by kernel_rfl) (by kernel_rfl)
   (OpenSpec.preRow_of_cond 8 hx (by kernel_rfl) (fun k hk=>by cases hk) (by kernel_rfl) (pclists_met os))) ?_
 intro W base args ds gs before hval hW _ _ hsz hlaid _ _;exact pclists_contract H enc W base args ds gs before hval hW hsz hlaid
theorem pclists_named:Tryz.pinned.checked.prog.funcNamed Rows.pacListsRow.func=some 6:=by kernel_rfl
theorem pclists_said:Rows.PacListsSaid:=
 OpenClaim.holds_of_cond 6 Tryz.f6 rfl rfl rfl rfl rfl rfl rfl ⟨rfl,rfl,rfl,rfl,rfl⟩ rfl rfl rfl rfl rfl pclists_named Tryz.func6 pclists_joined
  (of_decide_eq_true (by kernel_rfl)) (by unfold Func.isWrapper;first| (rw [if_pos (by decide+kernel)];kernel_rfl) | (rw [if_neg (by decide+kernel)];exact ⟨rfl,rfl⟩))
  (fun os started H enc _ F=>by rw [OpenClaim.pre_eq_preRow];exact pclists_lifted os started H enc F)
theorem pclists_plain(f:FuncId)(fn:Func)(hf:Tryz.pinned.checked.prog.funcNamed Rows.pacListsRow.func=some f)(hfn:Tryz.pinned.checked.prog.funcs[f]?=some fn):
 true=Tryz.pinned.checked.prog.looks []∧∀ (j:Nat) t,fn.params[j]?=some t→Tryz.pinned.checked.prog.wantsStandIn t=false:=by
 obtain rfl:f=6:=Option.some.inj ((show Tryz.prog.funcNamed Rows.pacListsRow.func=some 6 by kernel_rfl).symm.trans hf) |>.symm
 obtain rfl:fn=Tryz.f6:=(Option.some.inj (Tryz.func6.symm.trans hfn)).symm;refine ⟨by kernel_rfl,fun j t ht=> ?_⟩
 rw [Tryz.params6] at ht;have hm:=Array.mem_of_getElem? ht;simp at hm;rcases hm with rfl|rfl|rfl|rfl|rfl
 · exact (show Tryz.prog.wantsStandIn 28=false by kernel_rfl)
 · exact (show Tryz.prog.wantsStandIn 24=false by kernel_rfl)
 · exact (show Tryz.prog.wantsStandIn 3=false by kernel_rfl)
 · exact (show Tryz.prog.wantsStandIn 52=false by kernel_rfl)
 exact (show Tryz.prog.wantsStandIn 29=false by kernel_rfl)
theorem pclists_card:Rows.PacListsCardSaid:=
 Claim7.holds_tied_plain_at .later [] _ _ _ _ pclists_said (fun _ h=>by cases h) (by kernel_rfl) (fun _ h=>by cases h) pacLists_row_tie rfl ⟨rfl,rfl⟩ (by kernel_rfl) rfl pclists_plain (by kernel_rfl)

end Go.Proofs.YtmapiojgmbgbgaaGreatDoor
