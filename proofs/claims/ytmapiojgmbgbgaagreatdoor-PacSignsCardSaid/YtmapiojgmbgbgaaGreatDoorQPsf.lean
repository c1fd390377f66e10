/- PacSigns: for all authorisation data, bytes and keys the law answers true, and its arguments read as they did. -/
import Derived.Test.YtmapiojgmbgbgaaGreatDoorQPk4
import Derived.Test.YtmapiojgmbgbgaaGreatDoorQ32
import Derived.Test.YtmapiojgmbgbgaaGreatDoorQ34
set_option linter.all false
namespace Go.Proofs.YtmapiojgmbgbgaaGreatDoor
open Go Go.Sx Go.ChangeShapes Go.WideShapes Go.ChangeAt Go.RowKit
set_option maxRecDepth 100000
theorem ps_k1:(Rows.pacSignsRow.wf (OpenSpec.ofChange Rows.pacSignsSpec))=true:=by kernel_rfl
theorem ps_k4:(Tryz.f3.params.all (Tryz.prog.readableRec ·))=true:=by kernel_rfl
theorem ps_k5:(namedTie Tryz.prog Rows.pacSignsRow.named Rows.pacSignsSpec.vars)=true:=by kernel_rfl
theorem ps_k6:((Rows.pacSignsRow.stops== []))=true:=by kernel_rfl
theorem ps_k8:((Rows.pacSignsRow.knobs== []))=true:=by kernel_rfl
theorem ps_k10:((Rows.pacSignsRow.inPlace==Tryz.prog.inPlace 3))=true:=by kernel_rfl
theorem ps_k11:((Rows.pacSignsRow.unfollowed==Tryz.prog.unfollowed 3))=true:=by kernel_rfl
theorem ps_k12:((Rows.pacSignsRow.recurses==Tryz.prog.recurses 3))=true:=by kernel_rfl
theorem ps_k13:((Rows.pacSignsRow.named==Tryz.prog.varsNamed 3))=true:=by kernel_rfl
theorem ps_k14:((Rows.pacSignsRow.maps==(Tryz.f3.params.toList++Rows.pacSignsSpec.plain.varTypes Tryz.prog).any (Tryz.prog.mapsRec ·)))=true:=by kernel_rfl
theorem ps_k15:((Rows.pacSignsRow.ifaces==(Tryz.f3.params.toList++Rows.pacSignsSpec.plain.varTypes Tryz.prog).any (Tryz.prog.ifacesRec ·)))=true:=by kernel_rfl
theorem ps_k16:((Rows.pacSignsRow.mapsOut==Tryz.prog.mapsAmong Tryz.f3.resultTypes.toList))=true:=by kernel_rfl
theorem ps_k17:((Rows.pacSignsRow.loops==(Tryz.f3.params.toList++Rows.pacSignsSpec.plain.varTypes Tryz.prog).any (Tryz.prog.loopsFrom ·)))=true:=by kernel_rfl
theorem ps_k18:((Rows.pacSignsRow.wideKeys==(Tryz.f3.params.toList++Rows.pacSignsSpec.plain.varTypes Tryz.prog++Tryz.f3.resultTypes.toList).any (Tryz.prog.wideKeysFrom ·)))=true:=by kernel_rfl
theorem ps_k19:(Rows.pacSignsSpec.vars.all (Tryz.prog.varReadable ·))=true:=by kernel_rfl
theorem ps_k20:(Tryz.f3.resultTypes.all (fun t=>Tryz.prog.readableRec t&& decide (t<Tryz.prog.types.size)))=true:=by kernel_rfl
theorem ps_k21:((Rows.pacSignsRow.ifacesOut==Tryz.f3.resultTypes.toList.any (Tryz.prog.ifacesRec ·)))=true:=by kernel_rfl
theorem ps_k22:((Rows.pacSignsRow.loopsOut==Tryz.f3.resultTypes.toList.any (Tryz.prog.loopsFrom ·)))=true:=by kernel_rfl
theorem ps_k23:((Rows.pacSignsRow.plainKeys==Tryz.prog.plainKeys))=true:=by kernel_rfl
theorem ps_k24:(Rows.pacSignsRow.shortTexts.isNone)=true:=by kernel_rfl
theorem ps_k27:((Rows.pacSignsRow.lifted==Tryz.prog.liftsFinal))=true:=by kernel_rfl
theorem ps_k28:((Tryz.prog.make==some Rows.pacSignsRow.make))=true:=by kernel_rfl
theorem ps_k29:((Rows.pacSignsRow.kinds==(if Rows.pacSignsRow.domain.isEmpty then [] else Tryz.f3.params.toList.map fun t=>match Tryz.prog.underlying t with|some (.int k)=>some k|_=>none)))=true:=by kernel_rfl
theorem ps_k30:((Rows.pacSignsRow.pinned==Rows.pacSignsRow.pinnedBy))=true:=by kernel_rfl
theorem ps_k31:((Rows.pacSignsRow.veiled==(Tryz.f3.params.toList++Rows.pacSignsSpec.plain.varTypes Tryz.prog++Tryz.f3.resultTypes.toList).any (Tryz.prog.veiledRec ·)))=true:=by kernel_rfl
theorem ps_k32:(Rows.pacSignsRow.veiledFits Tryz.prog Tryz.f3.params.toList (Tryz.f3.params.toList++Rows.pacSignsSpec.plain.varTypes Tryz.prog++Tryz.f3.resultTypes.toList))=true:=by kernel_rfl
theorem ps_joined:joinedFacts Tryz.prog 3 Tryz.f3 Rows.pacSignsSpec Rows.pacSignsRow=true:=
 z2i ps_k1 z7S z7D ps_k4 ps_k5 ps_k6 z8c ps_k8 z6C ps_k10 ps_k11 ps_k12 ps_k13 ps_k14 ps_k15 ps_k16 ps_k17 ps_k18 ps_k19 ps_k20 ps_k21 ps_k22 ps_k23 ps_k24 z5d z5b ps_k27 ps_k28 ps_k29 ps_k30 ps_k31 ps_k32
theorem ps_tabs{W:World}(h:laidMetH Tryz.prog Rows.pacSignsRow.laid W):TabT (Cx.top W) []:=by
 have hm:=j2a h (by kernel_rfl)
 refine ⟨?_,?_⟩
 · exact fun e he=>absurd he (by simp [tabList])
 intro e he;simp only [datList,Bi,CA,or_false] at he;rcases he with rfl|rfl|rfl
 · exact z0e hm "watchword/sha.start" .u32 dat_sha_start 2 (by kernel_rfl) (by kernel_rfl) (by kernel_rfl) (by kernel_rfl) (by kernel_rfl) (by kernel_rfl) (by kernel_rfl) (by kernel_rfl) (t:=287) (e:=285) (n:=8)
 · exact z0e hm "watchword/sha.constants" .u32 dat_sha_constants 3 (by kernel_rfl) (by kernel_rfl) (by kernel_rfl) (by kernel_rfl) (by kernel_rfl) (by kernel_rfl) (by kernel_rfl) (by kernel_rfl) (t:=333) (e:=285) (n:=64)
 exact z9a hm "watchword/watchwordref04.constants" .i64 dat_ref04_constants 1 (by kernel_rfl) (by kernel_rfl) (by kernel_rfl) (by kernel_rfl) (by kernel_rfl) (by kernel_rfl) (by decide) (t:=25) (e:=3)
theorem ps_params:∀t∈Tryz.f3.params.toList,Tryz.prog.readableRec t=true∧t<Tryz.prog.types.size:=by
 rw [Tryz.params3];intro t ht;simp at ht;rcases ht with rfl|rfl|rfl
 · exact ⟨by kernel_rfl,of_decide_eq_true (by kernel_rfl)⟩
 · exact ⟨by kernel_rfl,of_decide_eq_true (by kernel_rfl)⟩
 exact ⟨by kernel_rfl,of_decide_eq_true (by kernel_rfl)⟩
theorem ps_contract(H:Type)(enc:TypeId×Value→H)(W:World)(base:Nat)(args:Array Value)(ds gs:List (DataW H))(before:List MemPlace)
 (hval:∀ (j:Nat) t v,Tryz.f3.params[j]?=some t→args[j]?=some v→Value.okWide Tryz.prog W .any base t v)
 (hW:DataW.Whole enc Tryz.prog Tryz.f3.params.toList Rows.pacSignsSpec.vars false W args.toList ds gs before)
 (hsz:(DataW.weightsEach Tryz.prog (Tryz.f3.params.toList++(OpenSpec.ofChange Rows.pacSignsSpec).bare.plain.varTypes Tryz.prog) (ds++gs)).all (· ≤reachBytes)=true)(hlaid:laidMetH Tryz.prog Rows.pacSignsRow.laid W):
 Calls Tryz.prog 3 args W fun e W'=>∃v,e= .returned v∧Rows.pacSignsSpec.post enc Tryz.prog Tryz.f3 false true false false W args v W':=by
 have hW':=hW;obtain ⟨p,q,hA0,hV,rfl,hfz,hnd⟩:=hW;have hA:DataW.TrodAll enc Tryz.prog W 0 (fun _=>true) true Tryz.f3.params.toList args.toList ds p:=hA0;rw [Tryz.params3] at hA hval hsz;obtain ⟨v0,v1,v2,v3,d0,d1,d2,d3,p0,p1,p2,p3,rfl,rfl,rfl,h0,h1,h2,h3⟩:=z5o hA;obtain ⟨rfl,rfl⟩:=trodVars_none hV;have hw:(DataW.weightsEach Tryz.prog [28,29,31,31] [d0,d1,d2,d3]).all (· ≤reachBytes)=true:=hsz
 simp only [DataW.weightsEach] at hw;obtain ⟨x0,e0,o0,r0⟩:=q6a Tryz.underlying28 tyPac (hval 0 28 v0 rfl rfl) h0 (q0D hw).1;obtain ⟨x1,e1,o1,r1⟩:=z7U (show Tryz.prog.underlying 29=some (.slice 5) by kernel_rfl) (show tyRd Tryz.prog 8 29=some (.slice (.u8)) by kernel_rfl) (hval 1 29 v1 rfl rfl) h1 (q0D (q0D hw).2).1
 obtain ⟨x2,e2,o2,r2⟩:=q6a Tryz.underlying31 tyPck (hval 2 31 v2 rfl rfl) h2 (q0D (q0D (q0D hw).2).2).1;obtain ⟨x3,e3,o3,r3⟩:=q6a Tryz.underlying31 tyPck (hval 3 31 v3 rfl rfl) h3 (q0D (q0D (q0D (q0D hw).2).2).2).1;have hden:SV.denL (Cx.top W) [.agg ((PacT).cells x0),.isl (.u8) x1,.agg ((KeyT).cells x2),.agg ((KeyT).cells x3)] [v0,v1,v2,v3]:=
  q0e.2 ⟨_,_,rfl,e0,q0e.2 ⟨_,_,rfl,e1,q0e.2 ⟨_,_,rfl,e2,q0e.2 ⟨_,_,rfl,e3,q0C.2 rfl⟩⟩⟩⟩
 refine (q7y (z8I rsum9 x0 o0 r0 x1 x2 o2 x3 o3) hden (ps_tabs hlaid)).mono fun e W' ⟨he,hb⟩=>⟨_,he,?_⟩;exact z4I laidOutK ps_params (by kernel_rfl) Tryz.underlying4 rfl hW' rfl hb
theorem ps_met(os:Os):laidMet Tryz.prog Rows.pacSignsRow.laid ((laidWorld os).forCall (fun _ _=>0) ⟨#[], #[zPac,.slice none 0 0,zPck,zPck],[]⟩).memory:=
 laidMet_of_run' 8 (by kernel_rfl) (by kernel_rfl)
theorem ps_reads(os:Os){H:Type}(enc:TypeId×Value→H):∃places,DataW.whole enc Tryz.prog ((laidWorld os).forCall (fun _ _=>0) ⟨#[], #[zPac,.slice none 0 0,zPck,zPck],[]⟩).memory Tryz.f3.params.toList Rows.pacSignsSpec.vars false #[zPac,Value.slice none 0 0,zPck,zPck].toList 8=some ([dPac,.nil,dPck,dPck],[],places):=
 ⟨[],by kernel_rfl⟩
theorem ps_lifted(os:Os)(started:os.Started)(H:Type)(enc:TypeId×Value→H)(F:Stop.Interp):
 ReturnsInHanded {} Tryz.checked os 3 .any ((OpenSpec.ofChange Rows.pacSignsSpec).preRow enc Tryz.prog Tryz.f3 Rows.pacSignsRow.domain false Rows.pacSignsRow.laid) (((OpenSpec.ofChange Rows.pacSignsSpec).at F).post enc Tryz.prog Tryz.f3 false true false false):=by
 obtain ⟨places,hx⟩:=ps_reads os enc;refine returnsInHanded_of_row (C:=Tryz.checked) (s:=OpenSpec.ofChange Rows.pacSignsSpec) ownK started (by kernel_rfl) Tryz.func3
  (witness_row_atRef (enc:=enc) (C:=Tryz.checked) false (laidWorld os) #[zPac,.slice none 0 0,zPck,zPck] rfl (by kernel_rfl) (by kernel_rfl) (by kernel_rfl)
   (OpenSpec.preRow_of_cond 8 hx (by kernel_rfl) (fun k hk=>by cases hk) (by kernel_rfl) (ps_met os))) ?_
 intro W base args ds gs before hval hW _ _ hsz hlaid _ _;exact ps_contract H enc W base args ds gs before hval hW hsz hlaid
theorem ps_named:Tryz.pinned.checked.prog.funcNamed Rows.pacSignsRow.func=some 3:=by kernel_rfl
theorem ps_said:Rows.PacSignsSaid:=
 OpenClaim.holds_of_cond 3 Tryz.f3 rfl rfl rfl rfl rfl rfl rfl ⟨rfl,rfl,rfl,rfl,rfl⟩ rfl rfl rfl rfl rfl ps_named Tryz.func3 ps_joined
  (of_decide_eq_true (by kernel_rfl)) (by unfold Func.isWrapper;first| (rw [if_pos (by decide+kernel)];kernel_rfl) | (rw [if_neg (by decide+kernel)];exact ⟨rfl,rfl⟩))
  (fun os started H enc _ F=>by rw [OpenClaim.pre_eq_preRow];exact ps_lifted os started H enc F)
theorem ps_plain(f:FuncId)(fn:Func)(hf:Tryz.pinned.checked.prog.funcNamed Rows.pacSignsRow.func=some f)(hfn:Tryz.pinned.checked.prog.funcs[f]?=some fn):
 true=Tryz.pinned.checked.prog.looks []∧∀ (j:Nat) t,fn.params[j]?=some t→Tryz.pinned.checked.prog.wantsStandIn t=false:=by
 obtain rfl:f=3:=Option.some.inj ((show Tryz.prog.funcNamed Rows.pacSignsRow.func=some 3 by kernel_rfl).symm.trans hf) |>.symm
 obtain rfl:fn=Tryz.f3:=(Option.some.inj (Tryz.func3.symm.trans hfn)).symm;refine ⟨by kernel_rfl,fun j t ht=> ?_⟩
 rw [Tryz.params3] at ht;have hm:=Array.mem_of_getElem? ht;simp at hm;rcases hm with rfl|rfl|rfl
 · exact (show Tryz.prog.wantsStandIn 28=false by kernel_rfl)
 · exact (show Tryz.prog.wantsStandIn 29=false by kernel_rfl)
 exact (show Tryz.prog.wantsStandIn 31=false by kernel_rfl)
theorem ps_card:Rows.PacSignsCardSaid:=
 Claim7.holds_tied_plain_at .later [] _ _ _ _ ps_said (fun _ h=>by cases h) (by kernel_rfl) (fun _ h=>by cases h) pacSigns_row_tie rfl ⟨rfl,rfl⟩ (by kernel_rfl) rfl ps_plain (by kernel_rfl)

end Go.Proofs.YtmapiojgmbgbgaaGreatDoor
