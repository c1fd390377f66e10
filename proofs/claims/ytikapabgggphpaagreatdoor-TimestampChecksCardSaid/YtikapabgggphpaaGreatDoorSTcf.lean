/- TimestampChecks: for every key, element, time and skew the law answers true, and its arguments read as they did. -/
import Derived.Test.YtikapabgggphpaaGreatDoorS33
import Derived.Test.YtikapabgggphpaaGreatDoorS34
import Derived.Test.YtikapabgggphpaaGreatDoorSJb
import Derived.Deep.DeepWitnessRowRef
set_option linter.all false
namespace Go.Proofs.YtikapabgggphpaaGreatDoor
open Go Go.Sx Go.ChangeShapes Go.WideShapes Go.ChangeAt Go.RowKit
set_option maxRecDepth 100000
theorem tyHkc:tyRd Tryz.prog 8 24=some KeyT:=by kernel_rfl
def zHkc:Value:=.agg #[.int .i64 0,.int .i64 0,.slice none 0 0]
def dHkc{H:Type}:DataW H:=.agg [dI,dI,.nil]
theorem tyHpc:tyRd Tryz.prog 8 27=some PreT:=by kernel_rfl
def zHpc:Value:=.agg #[.int .i64 0,.slice none 0 0]
def dHpc{H:Type}:DataW H:=.agg [dI,.nil]
theorem tchecks_k1:(Rows.timestampChecksRow.wf (OpenSpec.ofChange Rows.timestampChecksSpec))=true:=by kernel_rfl
theorem tchecks_k4:(Tryz.f4.params.all (Tryz.prog.readableRec ·))=true:=by kernel_rfl
theorem tchecks_k5:(namedTie Tryz.prog Rows.timestampChecksRow.named Rows.timestampChecksSpec.vars)=true:=by kernel_rfl
theorem tchecks_k6:((Rows.timestampChecksRow.stops== []))=true:=by kernel_rfl
theorem tchecks_k8:((Rows.timestampChecksRow.knobs== []))=true:=by kernel_rfl
theorem tchecks_k10:((Rows.timestampChecksRow.inPlace==Tryz.prog.inPlace 4))=true:=by kernel_rfl
theorem tchecks_k11:((Rows.timestampChecksRow.unfollowed==Tryz.prog.unfollowed 4))=true:=by kernel_rfl
theorem tchecks_k12:((Rows.timestampChecksRow.recurses==Tryz.prog.recurses 4))=true:=by kernel_rfl
theorem tchecks_k13:((Rows.timestampChecksRow.named==Tryz.prog.varsNamed 4))=true:=by kernel_rfl
theorem tchecks_k14:((Rows.timestampChecksRow.maps==(Tryz.f4.params.toList++Rows.timestampChecksSpec.plain.varTypes Tryz.prog).any (Tryz.prog.mapsRec ·)))=true:=by kernel_rfl
theorem tchecks_k15:((Rows.timestampChecksRow.ifaces==(Tryz.f4.params.toList++Rows.timestampChecksSpec.plain.varTypes Tryz.prog).any (Tryz.prog.ifacesRec ·)))=true:=by kernel_rfl
theorem tchecks_k16:((Rows.timestampChecksRow.mapsOut==Tryz.prog.mapsAmong Tryz.f4.resultTypes.toList))=true:=by kernel_rfl
theorem tchecks_k17:((Rows.timestampChecksRow.loops==(Tryz.f4.params.toList++Rows.timestampChecksSpec.plain.varTypes Tryz.prog).any (Tryz.prog.loopsFrom ·)))=true:=by kernel_rfl
theorem tchecks_k18:((Rows.timestampChecksRow.wideKeys==(Tryz.f4.params.toList++Rows.timestampChecksSpec.plain.varTypes Tryz.prog++Tryz.f4.resultTypes.toList).any (Tryz.prog.wideKeysFrom ·)))=true:=by kernel_rfl
theorem tchecks_k19:(Rows.timestampChecksSpec.vars.all (Tryz.prog.varReadable ·))=true:=by kernel_rfl
theorem tchecks_k20:(Tryz.f4.resultTypes.all (fun t=>Tryz.prog.readableRec t&& decide (t<Tryz.prog.types.size)))=true:=by kernel_rfl
theorem tchecks_k21:((Rows.timestampChecksRow.ifacesOut==Tryz.f4.resultTypes.toList.any (Tryz.prog.ifacesRec ·)))=true:=by kernel_rfl
theorem tchecks_k22:((Rows.timestampChecksRow.loopsOut==Tryz.f4.resultTypes.toList.any (Tryz.prog.loopsFrom ·)))=true:=by kernel_rfl
theorem tchecks_k23:((Rows.timestampChecksRow.plainKeys==Tryz.prog.plainKeys))=true:=by kernel_rfl
theorem tchecks_k24:(Rows.timestampChecksRow.shortTexts.isNone)=true:=by kernel_rfl
theorem tchecks_k27:((Rows.timestampChecksRow.lifted==Tryz.prog.liftsFinal))=true:=by kernel_rfl
theorem tchecks_k28:((Tryz.prog.make==some Rows.timestampChecksRow.make))=true:=by kernel_rfl
theorem tchecks_k29:((Rows.timestampChecksRow.kinds==(if Rows.timestampChecksRow.domain.isEmpty then [] else Tryz.f4.params.toList.map fun t=>match Tryz.prog.underlying t with|some (.int k)=>some k|_=>none)))=true:=by kernel_rfl
theorem tchecks_k30:((Rows.timestampChecksRow.pinned==Rows.timestampChecksRow.pinnedBy))=true:=by kernel_rfl
theorem tchecks_k31:((Rows.timestampChecksRow.veiled==(Tryz.f4.params.toList++Rows.timestampChecksSpec.plain.varTypes Tryz.prog++Tryz.f4.resultTypes.toList).any (Tryz.prog.veiledRec ·)))=true:=by kernel_rfl
theorem tchecks_k32:(Rows.timestampChecksRow.veiledFits Tryz.prog Tryz.f4.params.toList (Tryz.f4.params.toList++Rows.timestampChecksSpec.plain.varTypes Tryz.prog++Tryz.f4.resultTypes.toList))=true:=by kernel_rfl
theorem tchecks_joined:joinedFacts Tryz.prog 4 Tryz.f4 Rows.timestampChecksSpec Rows.timestampChecksRow=true:=
 q6q tchecks_k1 z1W z1S tchecks_k4 tchecks_k5 tchecks_k6 z1t tchecks_k8 z2e tchecks_k10 tchecks_k11 tchecks_k12 tchecks_k13 tchecks_k14 tchecks_k15 tchecks_k16 tchecks_k17 tchecks_k18 tchecks_k19 tchecks_k20 tchecks_k21 tchecks_k22 tchecks_k23 tchecks_k24 q8J q8F tchecks_k27 tchecks_k28 tchecks_k29 tchecks_k30 tchecks_k31 tchecks_k32
theorem tchecks_tabs{W:World}(h:laidMetH Tryz.prog Rows.timestampChecksRow.laid W):TabT (Cx.top W) []:=by
 have hm:=z6c h (by kernel_rfl)
 refine ⟨?_,?_⟩
 · exact fun e he=>absurd he (by simp [tabList])
 intro e he;simp only [datList,Bm,BW,or_false] at he;rcases he with rfl|rfl|rfl|rfl
 · exact q4R hm "watchword/sha.start" .u32 dat_sha_start 2 (by kernel_rfl) (by kernel_rfl) (by kernel_rfl) (by kernel_rfl) (by kernel_rfl) (by kernel_rfl) (by kernel_rfl) (by kernel_rfl) (t:=223) (e:=221) (n:=8)
 · exact q4R hm "watchword/sha.constants" .u32 dat_sha_constants 3 (by kernel_rfl) (by kernel_rfl) (by kernel_rfl) (by kernel_rfl) (by kernel_rfl) (by kernel_rfl) (by kernel_rfl) (by kernel_rfl) (t:=247) (e:=221) (n:=64)
 · exact z1m hm "watchword/watchwordref04.constants" .i64 dat_ref04_constants 0 (by kernel_rfl) (by kernel_rfl) (by kernel_rfl) (by kernel_rfl) (by kernel_rfl) (by kernel_rfl) (by decide) (t:=56) (e:=3)
 exact z0Y hm "watchword/watchwordref06.substitutes" .u8 dat_ref06_substitutes 1 (by kernel_rfl) (by kernel_rfl) (by kernel_rfl) (by kernel_rfl) (by kernel_rfl) (by kernel_rfl) (by kernel_rfl) (by kernel_rfl) (t:=168) (e:=5) (n:=256)
theorem tchecks_params:∀t∈Tryz.f4.params.toList,Tryz.prog.readableRec t=true∧t<Tryz.prog.types.size:=by
 rw [Tryz.params4];intro t ht;simp at ht;rcases ht with rfl|rfl|rfl
 · exact ⟨by kernel_rfl,of_decide_eq_true (by kernel_rfl)⟩
 · exact ⟨by kernel_rfl,of_decide_eq_true (by kernel_rfl)⟩
 exact ⟨by kernel_rfl,of_decide_eq_true (by kernel_rfl)⟩
theorem tchecks_contract(H:Type)(enc:TypeId×Value→H)(W:World)(base:Nat)(args:Array Value)(ds gs:List (DataW H))(before:List MemPlace)
 (hval:∀ (j:Nat) t v,Tryz.f4.params[j]?=some t→args[j]?=some v→Value.okWide Tryz.prog W .any base t v)
 (hW:DataW.Whole enc Tryz.prog Tryz.f4.params.toList Rows.timestampChecksSpec.vars false W args.toList ds gs before)
 (hsz:(DataW.weightsEach Tryz.prog (Tryz.f4.params.toList++(OpenSpec.ofChange Rows.timestampChecksSpec).bare.plain.varTypes Tryz.prog) (ds++gs)).all (· ≤reachBytes)=true)(hlaid:laidMetH Tryz.prog Rows.timestampChecksRow.laid W):
 Calls Tryz.prog 4 args W fun e W'=>∃v,e= .returned v∧Rows.timestampChecksSpec.post enc Tryz.prog Tryz.f4 false true false false W args v W':=by
 have hW':=hW;obtain ⟨p,q,hA0,hV,rfl,hfz,hnd⟩:=hW;have hA:DataW.TrodAll enc Tryz.prog W 0 (fun _=>true) true Tryz.f4.params.toList args.toList ds p:=hA0;rw [Tryz.params4] at hA hval hsz;obtain ⟨v0,v1,v2,v3,d0,d1,d2,d3,p0,p1,p2,p3,rfl,rfl,rfl,h0,h1,h2,h3⟩:=q7X hA;obtain ⟨rfl,rfl⟩:=trodVars_none hV;have hw:(DataW.weightsEach Tryz.prog [24,27,3,3] [d0,d1,d2,d3]).all (· ≤reachBytes)=true:=hsz
 simp only [DataW.weightsEach] at hw;obtain ⟨x0,e0,o0,r0⟩:=q3M Tryz.underlying24 tyHkc (hval 0 24 v0 rfl rfl) h0 (q0t hw).1;obtain ⟨x1,e1,o1,r1⟩:=q3M Tryz.underlying27 tyHpc (hval 1 27 v1 rfl rfl) h1 (q0t (q0t hw).2).1;obtain ⟨x2,rfl,rfl,rfl,_⟩:=open_int Tryz.underlying3 (hval 2 3 v2 rfl rfl) h2;obtain ⟨x3,rfl,rfl,rfl,_⟩:=open_int Tryz.underlying3 (hval 3 3 v3 rfl rfl) h3;have hden:SV.denL (Cx.top W) [.agg ((KeyT).cells x0),.agg ((PreT).cells x1),rI x2,rI x3] [v0,v1,(.int .i64 x2),(.int .i64 x3)]:=
  q0b.2 ⟨_,_,rfl,e0,q0b.2 ⟨_,_,rfl,e1,q0b.2 ⟨_,_,rfl,by rw [SV.den],q0b.2 ⟨_,_,rfl,by rw [SV.den],q0u.2 rfl⟩⟩⟩⟩
 refine (q4k (z9F x0 x1 x2 x3 o0 o1) hden (tchecks_tabs hlaid)).mono fun e W' ⟨he,hb⟩=>⟨_,he,?_⟩;exact q8w laidOutK tchecks_params (by kernel_rfl) Tryz.underlying4 rfl hW' rfl hb
theorem tchecks_met(os:Os):laidMet Tryz.prog Rows.timestampChecksRow.laid ((laidWorld os).forCall (fun _ _=>0) ⟨#[], #[zHkc,zHpc,.int .i64 0,.int .i64 0],[]⟩).memory:=
 laidMet_of_run' 8 (by kernel_rfl) (by kernel_rfl)
theorem tchecks_reads(os:Os){H:Type}(enc:TypeId×Value→H):∃places,DataW.whole enc Tryz.prog ((laidWorld os).forCall (fun _ _=>0) ⟨#[], #[zHkc,zHpc,.int .i64 0,.int .i64 0],[]⟩).memory Tryz.f4.params.toList Rows.timestampChecksSpec.vars false #[zHkc,zHpc,Value.int .i64 0,Value.int .i64 0].toList 8=some ([dHkc,dHpc,dI,dI],[],places):=
 ⟨[],by kernel_rfl⟩
theorem tchecks_lifted(os:Os)(started:os.Started)(H:Type)(enc:TypeId×Value→H)(F:Stop.Interp):
 ReturnsInHanded {} Tryz.checked os 4 .any ((OpenSpec.ofChange Rows.timestampChecksSpec).preRow enc Tryz.prog Tryz.f4 Rows.timestampChecksRow.domain false Rows.timestampChecksRow.laid) (((OpenSpec.ofChange Rows.timestampChecksSpec).at F).post enc Tryz.prog Tryz.f4 false true false false):=by
 obtain ⟨places,hx⟩:=tchecks_reads os enc;refine returnsInHanded_of_row (C:=Tryz.checked) (s:=OpenSpec.ofChange Rows.timestampChecksSpec) ownK started (by kernel_rfl) Tryz.func4
  (witness_row_atRef (enc:=enc) (C:=Tryz.checked) false (laidWorld os) #[zHkc,zHpc,.int .i64 0,.int .i64 0] rfl (by kernel_rfl) (by kernel_rfl) (by kernel_rfl)
   (OpenSpec.preRow_of_cond 8 hx (by kernel_rfl) (fun k hk=>by cases hk) (by kernel_rfl) (tchecks_met os))) ?_
 intro W base args ds gs before hval hW _ _ hsz hlaid _ _;exact tchecks_contract H enc W base args ds gs before hval hW hsz hlaid
theorem tchecks_named:Tryz.pinned.checked.prog.funcNamed Rows.timestampChecksRow.func=some 4:=by kernel_rfl
theorem tchecks_said:Rows.TimestampChecksSaid:=
 OpenClaim.holds_of_cond 4 Tryz.f4 rfl rfl rfl rfl rfl rfl rfl ⟨rfl,rfl,rfl,rfl,rfl⟩ rfl rfl rfl rfl rfl tchecks_named Tryz.func4 tchecks_joined
  (of_decide_eq_true (by kernel_rfl)) (by unfold Func.isWrapper;first| (rw [if_pos (by decide+kernel)];kernel_rfl) | (rw [if_neg (by decide+kernel)];exact ⟨rfl,rfl⟩))
  (fun os started H enc _ F=>by rw [OpenClaim.pre_eq_preRow];exact tchecks_lifted os started H enc F)
theorem tchecks_plain(f:FuncId)(fn:Func)(hf:Tryz.pinned.checked.prog.funcNamed Rows.timestampChecksRow.func=some f)(hfn:Tryz.pinned.checked.prog.funcs[f]?=some fn):
 true=Tryz.pinned.checked.prog.looks []∧∀ (j:Nat) t,fn.params[j]?=some t→Tryz.pinned.checked.prog.wantsStandIn t=false:=by
 obtain rfl:f=4:=Option.some.inj ((show Tryz.prog.funcNamed Rows.timestampChecksRow.func=some 4 by kernel_rfl).symm.trans hf) |>.symm
 obtain rfl:fn=Tryz.f4:=(Option.some.inj (Tryz.func4.symm.trans hfn)).symm;refine ⟨by kernel_rfl,fun j t ht=> ?_⟩
 rw [Tryz.params4] at ht;have hm:=Ci ht;simp at hm;rcases hm with rfl|rfl|rfl
 · exact (show Tryz.prog.wantsStandIn 24=false by kernel_rfl)
 · exact (show Tryz.prog.wantsStandIn 27=false by kernel_rfl)
 exact (show Tryz.prog.wantsStandIn 3=false by kernel_rfl)
theorem tchecks_card:Rows.TimestampChecksCardSaid:=
 Claim7.holds_tied_plain_at .later [] _ _ _ _ tchecks_said (fun _ h=>by cases h) (by kernel_rfl) (fun _ h=>by cases h) timestampChecks_row_tie rfl ⟨rfl,rfl⟩ (by kernel_rfl) rfl tchecks_plain (by kernel_rfl)

end Go.Proofs.YtikapabgggphpaaGreatDoor
