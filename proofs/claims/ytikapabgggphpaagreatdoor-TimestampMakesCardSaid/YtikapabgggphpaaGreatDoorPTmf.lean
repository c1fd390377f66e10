/- TimestampMakes: for every key, time and confounder the law answers true, and its arguments read as they did. -/
import Derived.Test.YtikapabgggphpaaGreatDoorP31
import Derived.Test.YtikapabgggphpaaGreatDoorP32
import Derived.Test.YtikapabgggphpaaGreatDoorPJb
import Derived.Deep.DeepWitnessRowRef
set_option linter.all false
namespace Go.Proofs.YtikapabgggphpaaGreatDoor
open Go Go.Sx Go.ChangeShapes Go.WideShapes Go.ChangeAt Go.RowKit
set_option maxRecDepth 100000
theorem tyHkm:tyRd Tryz.prog 8 24=some KeyT:=by kernel_rfl
def zHkm:Value:=.agg #[.int .i64 0,.int .i64 0,.slice none 0 0]
def dHkm{H:Type}:DataW H:=.agg [dI,dI,.nil]
theorem tmakes_k1:(Rows.timestampMakesRow.wf (OpenSpec.ofChange Rows.timestampMakesSpec))=true:=by kernel_rfl
theorem tmakes_k4:(Tryz.f3.params.all (Tryz.prog.readableRec ·))=true:=by kernel_rfl
theorem tmakes_k5:(namedTie Tryz.prog Rows.timestampMakesRow.named Rows.timestampMakesSpec.vars)=true:=by kernel_rfl
theorem tmakes_k6:((Rows.timestampMakesRow.stops== []))=true:=by kernel_rfl
theorem tmakes_k8:((Rows.timestampMakesRow.knobs== []))=true:=by kernel_rfl
theorem tmakes_k10:((Rows.timestampMakesRow.inPlace==Tryz.prog.inPlace 3))=true:=by kernel_rfl
theorem tmakes_k11:((Rows.timestampMakesRow.unfollowed==Tryz.prog.unfollowed 3))=true:=by kernel_rfl
theorem tmakes_k12:((Rows.timestampMakesRow.recurses==Tryz.prog.recurses 3))=true:=by kernel_rfl
theorem tmakes_k13:((Rows.timestampMakesRow.named==Tryz.prog.varsNamed 3))=true:=by kernel_rfl
theorem tmakes_k14:((Rows.timestampMakesRow.maps==(Tryz.f3.params.toList++Rows.timestampMakesSpec.plain.varTypes Tryz.prog).any (Tryz.prog.mapsRec ·)))=true:=by kernel_rfl
theorem tmakes_k15:((Rows.timestampMakesRow.ifaces==(Tryz.f3.params.toList++Rows.timestampMakesSpec.plain.varTypes Tryz.prog).any (Tryz.prog.ifacesRec ·)))=true:=by kernel_rfl
theorem tmakes_k16:((Rows.timestampMakesRow.mapsOut==Tryz.prog.mapsAmong Tryz.f3.resultTypes.toList))=true:=by kernel_rfl
theorem tmakes_k17:((Rows.timestampMakesRow.loops==(Tryz.f3.params.toList++Rows.timestampMakesSpec.plain.varTypes Tryz.prog).any (Tryz.prog.loopsFrom ·)))=true:=by kernel_rfl
theorem tmakes_k18:((Rows.timestampMakesRow.wideKeys==(Tryz.f3.params.toList++Rows.timestampMakesSpec.plain.varTypes Tryz.prog++Tryz.f3.resultTypes.toList).any (Tryz.prog.wideKeysFrom ·)))=true:=by kernel_rfl
theorem tmakes_k19:(Rows.timestampMakesSpec.vars.all (Tryz.prog.varReadable ·))=true:=by kernel_rfl
theorem tmakes_k20:(Tryz.f3.resultTypes.all (fun t=>Tryz.prog.readableRec t&& decide (t<Tryz.prog.types.size)))=true:=by kernel_rfl
theorem tmakes_k21:((Rows.timestampMakesRow.ifacesOut==Tryz.f3.resultTypes.toList.any (Tryz.prog.ifacesRec ·)))=true:=by kernel_rfl
theorem tmakes_k22:((Rows.timestampMakesRow.loopsOut==Tryz.f3.resultTypes.toList.any (Tryz.prog.loopsFrom ·)))=true:=by kernel_rfl
theorem tmakes_k23:((Rows.timestampMakesRow.plainKeys==Tryz.prog.plainKeys))=true:=by kernel_rfl
theorem tmakes_k24:(Rows.timestampMakesRow.shortTexts.isNone)=true:=by kernel_rfl
theorem tmakes_k27:((Rows.timestampMakesRow.lifted==Tryz.prog.liftsFinal))=true:=by kernel_rfl
theorem tmakes_k28:((Tryz.prog.make==some Rows.timestampMakesRow.make))=true:=by kernel_rfl
theorem tmakes_k29:((Rows.timestampMakesRow.kinds==(if Rows.timestampMakesRow.domain.isEmpty then [] else Tryz.f3.params.toList.map fun t=>match Tryz.prog.underlying t with|some (.int k)=>some k|_=>none)))=true:=by kernel_rfl
theorem tmakes_k30:((Rows.timestampMakesRow.pinned==Rows.timestampMakesRow.pinnedBy))=true:=by kernel_rfl
theorem tmakes_k31:((Rows.timestampMakesRow.veiled==(Tryz.f3.params.toList++Rows.timestampMakesSpec.plain.varTypes Tryz.prog++Tryz.f3.resultTypes.toList).any (Tryz.prog.veiledRec ·)))=true:=by kernel_rfl
theorem tmakes_k32:(Rows.timestampMakesRow.veiledFits Tryz.prog Tryz.f3.params.toList (Tryz.f3.params.toList++Rows.timestampMakesSpec.plain.varTypes Tryz.prog++Tryz.f3.resultTypes.toList))=true:=by kernel_rfl
theorem tmakes_joined:joinedFacts Tryz.prog 3 Tryz.f3 Rows.timestampMakesSpec Rows.timestampMakesRow=true:=
 z5F tmakes_k1 j0S j3l tmakes_k4 tmakes_k5 tmakes_k6 j1u tmakes_k8 j1e tmakes_k10 tmakes_k11 tmakes_k12 tmakes_k13 tmakes_k14 tmakes_k15 tmakes_k16 tmakes_k17 tmakes_k18 tmakes_k19 tmakes_k20 tmakes_k21 tmakes_k22 tmakes_k23 tmakes_k24 z9j z8k tmakes_k27 tmakes_k28 tmakes_k29 tmakes_k30 tmakes_k31 tmakes_k32
theorem tmakes_tabs{W:World}(h:laidMetH Tryz.prog Rows.timestampMakesRow.laid W):TabT (Cx.top W) []:=by
 have hm:=j4l h (by kernel_rfl)
 refine ⟨?_,?_⟩
 · exact fun e he=>absurd he (by simp [tabList])
 intro e he;simp only [datList,Bq,Cl,or_false] at he;rcases he with rfl|rfl|rfl|rfl
 · exact z5t hm "watchword/sha.start" .u32 dat_sha_start 2 (by kernel_rfl) (by kernel_rfl) (by kernel_rfl) (by kernel_rfl) (by kernel_rfl) (by kernel_rfl) (by kernel_rfl) (by kernel_rfl) (t:=223) (e:=221) (n:=8)
 · exact z5t hm "watchword/sha.constants" .u32 dat_sha_constants 3 (by kernel_rfl) (by kernel_rfl) (by kernel_rfl) (by kernel_rfl) (by kernel_rfl) (by kernel_rfl) (by kernel_rfl) (by kernel_rfl) (t:=247) (e:=221) (n:=64)
 · exact j1J hm "watchword/watchwordref04.constants" .i64 dat_ref04_constants 0 (by kernel_rfl) (by kernel_rfl) (by kernel_rfl) (by kernel_rfl) (by kernel_rfl) (by kernel_rfl) (by decide) (t:=56) (e:=3)
 exact j2L hm "watchword/watchwordref06.substitutes" .u8 dat_ref06_substitutes 1 (by kernel_rfl) (by kernel_rfl) (by kernel_rfl) (by kernel_rfl) (by kernel_rfl) (by kernel_rfl) (by kernel_rfl) (by kernel_rfl) (t:=168) (e:=5) (n:=256)
theorem tmakes_params:∀t∈Tryz.f3.params.toList,Tryz.prog.readableRec t=true∧t<Tryz.prog.types.size:=by
 rw [Tryz.params3];intro t ht;simp at ht;rcases ht with rfl|rfl|rfl
 · exact ⟨by kernel_rfl,of_decide_eq_true (by kernel_rfl)⟩
 · exact ⟨by kernel_rfl,of_decide_eq_true (by kernel_rfl)⟩
 exact ⟨by kernel_rfl,of_decide_eq_true (by kernel_rfl)⟩
theorem tmakes_contract(H:Type)(enc:TypeId×Value→H)(W:World)(base:Nat)(args:Array Value)(ds gs:List (DataW H))(before:List MemPlace)
 (hval:∀ (j:Nat) t v,Tryz.f3.params[j]?=some t→args[j]?=some v→Value.okWide Tryz.prog W .any base t v)
 (hW:DataW.Whole enc Tryz.prog Tryz.f3.params.toList Rows.timestampMakesSpec.vars false W args.toList ds gs before)
 (hsz:(DataW.weightsEach Tryz.prog (Tryz.f3.params.toList++(OpenSpec.ofChange Rows.timestampMakesSpec).bare.plain.varTypes Tryz.prog) (ds++gs)).all (· ≤reachBytes)=true)(hlaid:laidMetH Tryz.prog Rows.timestampMakesRow.laid W):
 Calls Tryz.prog 3 args W fun e W'=>∃v,e= .returned v∧Rows.timestampMakesSpec.post enc Tryz.prog Tryz.f3 false true false false W args v W':=by
 have hW':=hW;obtain ⟨p,q,hA0,hV,rfl,hfz,hnd⟩:=hW;have hA:DataW.TrodAll enc Tryz.prog W 0 (fun _=>true) true Tryz.f3.params.toList args.toList ds p:=hA0;rw [Tryz.params3] at hA hval hsz;obtain ⟨v0,v1,v2,v3,d0,d1,d2,d3,p0,p1,p2,p3,rfl,rfl,rfl,h0,h1,h2,h3⟩:=z4j hA;obtain ⟨rfl,rfl⟩:=trodVars_none hV;have hw:(DataW.weightsEach Tryz.prog [24,3,3,22] [d0,d1,d2,d3]).all (· ≤reachBytes)=true:=hsz
 simp only [DataW.weightsEach] at hw;obtain ⟨x0,e0,o0,r0⟩:=z3R Tryz.underlying24 tyHkm (hval 0 24 v0 rfl rfl) h0 (q0I hw).1;obtain ⟨x1,rfl,rfl,rfl,_⟩:=open_int Tryz.underlying3 (hval 1 3 v1 rfl rfl) h1;obtain ⟨x2,rfl,rfl,rfl,_⟩:=open_int Tryz.underlying3 (hval 2 3 v2 rfl rfl) h2;obtain ⟨x3,e3,o3,r3⟩:=z6l (show Tryz.prog.underlying 22=some (.slice 5) by kernel_rfl) (show tyRd Tryz.prog 8 22=some (.slice (.u8)) by kernel_rfl) (hval 3 22 v3 rfl rfl) h3 (q0I (q0I (q0I (q0I hw).2).2).2).1
 have hden:SV.denL (Cx.top W) [.agg ((KeyT).cells x0),rI x1,rI x2,.isl (.u8) x3] [v0,(.int .i64 x1),(.int .i64 x2),v3]:=
  q0d.2 ⟨_,_,rfl,e0,q0d.2 ⟨_,_,rfl,by rw [SV.den],q0d.2 ⟨_,_,rfl,by rw [SV.den],q0d.2 ⟨_,_,rfl,e3,q0w.2 rfl⟩⟩⟩⟩
 refine (z1E (j2h x0 x1 x2 x3 o0) hden (tmakes_tabs hlaid)).mono fun e W' ⟨he,hb⟩=>⟨_,he,?_⟩;exact z8J laidOutK tmakes_params (by kernel_rfl) Tryz.underlying4 rfl hW' rfl hb
theorem tmakes_met(os:Os):laidMet Tryz.prog Rows.timestampMakesRow.laid ((laidWorld os).forCall (fun _ _=>0) ⟨#[], #[zHkm,.int .i64 0,.int .i64 0,.slice none 0 0],[]⟩).memory:=
 laidMet_of_run' 8 (by kernel_rfl) (by kernel_rfl)
theorem tmakes_reads(os:Os){H:Type}(enc:TypeId×Value→H):∃places,DataW.whole enc Tryz.prog ((laidWorld os).forCall (fun _ _=>0) ⟨#[], #[zHkm,.int .i64 0,.int .i64 0,.slice none 0 0],[]⟩).memory Tryz.f3.params.toList Rows.timestampMakesSpec.vars false #[zHkm,Value.int .i64 0,Value.int .i64 0,Value.slice none 0 0].toList 8=some ([dHkm,dI,dI,.nil],[],places):=
 ⟨[],by kernel_rfl⟩
theorem tmakes_lifted(os:Os)(started:os.Started)(H:Type)(enc:TypeId×Value→H)(F:Stop.Interp):
 ReturnsInHanded {} Tryz.checked os 3 .any ((OpenSpec.ofChange Rows.timestampMakesSpec).preRow enc Tryz.prog Tryz.f3 Rows.timestampMakesRow.domain false Rows.timestampMakesRow.laid) (((OpenSpec.ofChange Rows.timestampMakesSpec).at F).post enc Tryz.prog Tryz.f3 false true false false):=by
 obtain ⟨places,hx⟩:=tmakes_reads os enc;refine returnsInHanded_of_row (C:=Tryz.checked) (s:=OpenSpec.ofChange Rows.timestampMakesSpec) ownK started (by kernel_rfl) Tryz.func3
  (witness_row_atRef (enc:=enc) (C:=Tryz.checked) false (laidWorld os) #[zHkm,.int .i64 0,.int .i64 0,.slice none 0 0] rfl (by kernel_rfl) (by kernel_rfl) (by kernel_rfl)
   (OpenSpec.preRow_of_cond 8 hx (by kernel_rfl) (fun k hk=>by cases hk) (by kernel_rfl) (tmakes_met os))) ?_
 intro W base args ds gs before hval hW _ _ hsz hlaid _ _;exact tmakes_contract H enc W base args ds gs before hval hW hsz hlaid
theorem tmakes_named:Tryz.pinned.checked.prog.funcNamed Rows.timestampMakesRow.func=some 3:=by kernel_rfl
theorem tmakes_said:Rows.TimestampMakesSaid:=
 OpenClaim.holds_of_cond 3 Tryz.f3 rfl rfl rfl rfl rfl rfl rfl ⟨rfl,rfl,rfl,rfl,rfl⟩ rfl rfl rfl rfl rfl tmakes_named Tryz.func3 tmakes_joined
  (of_decide_eq_true (by kernel_rfl)) (by unfold Func.isWrapper;first| (rw [if_pos (by decide+kernel)];kernel_rfl) | (rw [if_neg (by decide+kernel)];exact ⟨rfl,rfl⟩))
  (fun os started H enc _ F=>by rw [OpenClaim.pre_eq_preRow];exact tmakes_lifted os started H enc F)
theorem tmakes_plain(f:FuncId)(fn:Func)(hf:Tryz.pinned.checked.prog.funcNamed Rows.timestampMakesRow.func=some f)(hfn:Tryz.pinned.checked.prog.funcs[f]?=some fn):
 true=Tryz.pinned.checked.prog.looks []∧∀ (j:Nat) t,fn.params[j]?=some t→Tryz.pinned.checked.prog.wantsStandIn t=false:=by
 obtain rfl:f=3:=Option.some.inj ((show Tryz.prog.funcNamed Rows.timestampMakesRow.func=some 3 by kernel_rfl).symm.trans hf) |>.symm
 obtain rfl:fn=Tryz.f3:=(Option.some.inj (Tryz.func3.symm.trans hfn)).symm;refine ⟨by kernel_rfl,fun j t ht=> ?_⟩
 rw [Tryz.params3] at ht;have hm:=Array.mem_of_getElem? ht;simp at hm;rcases hm with rfl|rfl|rfl
 · exact (show Tryz.prog.wantsStandIn 24=false by kernel_rfl)
 · exact (show Tryz.prog.wantsStandIn 3=false by kernel_rfl)
 exact (show Tryz.prog.wantsStandIn 22=false by kernel_rfl)
theorem tmakes_card:Rows.TimestampMakesCardSaid:=
 Claim7.holds_tied_plain_at .later [] _ _ _ _ tmakes_said (fun _ h=>by cases h) (by kernel_rfl) (fun _ h=>by cases h) timestampMakes_row_tie rfl ⟨rfl,rfl⟩ (by kernel_rfl) rfl tmakes_plain (by kernel_rfl)

end Go.Proofs.YtikapabgggphpaaGreatDoor
