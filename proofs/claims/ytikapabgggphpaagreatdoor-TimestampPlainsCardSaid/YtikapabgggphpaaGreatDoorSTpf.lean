/- TimestampPlains: for every key, confounder, plaintext, time and skew the law answers true, and its arguments read as they did. -/
import Derived.Test.YtikapabgggphpaaGreatDoorS33
import Derived.Test.YtikapabgggphpaaGreatDoorS34
import Derived.Test.YtikapabgggphpaaGreatDoorSJb
import Derived.Deep.DeepWitnessRowRef
set_option linter.all false
namespace Go.Proofs.YtikapabgggphpaaGreatDoor
open Go Go.Sx Go.ChangeShapes Go.WideShapes Go.ChangeAt Go.RowKit
set_option maxRecDepth 100000
theorem tyHkp:tyRd Tryz.prog 8 24=some KeyT:=by kernel_rfl
def zHkp:Value:=.agg #[.int .i64 0,.int .i64 0,.slice none 0 0]
def dHkp{H:Type}:DataW H:=.agg [dI,dI,.nil]
theorem tplains_k1:(Rows.timestampPlainsRow.wf (OpenSpec.ofChange Rows.timestampPlainsSpec))=true:=by kernel_rfl
theorem tplains_k4:(Tryz.f5.params.all (Tryz.prog.readableRec ·))=true:=by kernel_rfl
theorem tplains_k5:(namedTie Tryz.prog Rows.timestampPlainsRow.named Rows.timestampPlainsSpec.vars)=true:=by kernel_rfl
theorem tplains_k6:((Rows.timestampPlainsRow.stops== []))=true:=by kernel_rfl
theorem tplains_k8:((Rows.timestampPlainsRow.knobs== []))=true:=by kernel_rfl
theorem tplains_k10:((Rows.timestampPlainsRow.inPlace==Tryz.prog.inPlace 5))=true:=by kernel_rfl
theorem tplains_k11:((Rows.timestampPlainsRow.unfollowed==Tryz.prog.unfollowed 5))=true:=by kernel_rfl
theorem tplains_k12:((Rows.timestampPlainsRow.recurses==Tryz.prog.recurses 5))=true:=by kernel_rfl
theorem tplains_k13:((Rows.timestampPlainsRow.named==Tryz.prog.varsNamed 5))=true:=by kernel_rfl
theorem tplains_k14:((Rows.timestampPlainsRow.maps==(Tryz.f5.params.toList++Rows.timestampPlainsSpec.plain.varTypes Tryz.prog).any (Tryz.prog.mapsRec ·)))=true:=by kernel_rfl
theorem tplains_k15:((Rows.timestampPlainsRow.ifaces==(Tryz.f5.params.toList++Rows.timestampPlainsSpec.plain.varTypes Tryz.prog).any (Tryz.prog.ifacesRec ·)))=true:=by kernel_rfl
theorem tplains_k16:((Rows.timestampPlainsRow.mapsOut==Tryz.prog.mapsAmong Tryz.f5.resultTypes.toList))=true:=by kernel_rfl
theorem tplains_k17:((Rows.timestampPlainsRow.loops==(Tryz.f5.params.toList++Rows.timestampPlainsSpec.plain.varTypes Tryz.prog).any (Tryz.prog.loopsFrom ·)))=true:=by kernel_rfl
theorem tplains_k18:((Rows.timestampPlainsRow.wideKeys==(Tryz.f5.params.toList++Rows.timestampPlainsSpec.plain.varTypes Tryz.prog++Tryz.f5.resultTypes.toList).any (Tryz.prog.wideKeysFrom ·)))=true:=by kernel_rfl
theorem tplains_k19:(Rows.timestampPlainsSpec.vars.all (Tryz.prog.varReadable ·))=true:=by kernel_rfl
theorem tplains_k20:(Tryz.f5.resultTypes.all (fun t=>Tryz.prog.readableRec t&& decide (t<Tryz.prog.types.size)))=true:=by kernel_rfl
theorem tplains_k21:((Rows.timestampPlainsRow.ifacesOut==Tryz.f5.resultTypes.toList.any (Tryz.prog.ifacesRec ·)))=true:=by kernel_rfl
theorem tplains_k22:((Rows.timestampPlainsRow.loopsOut==Tryz.f5.resultTypes.toList.any (Tryz.prog.loopsFrom ·)))=true:=by kernel_rfl
theorem tplains_k23:((Rows.timestampPlainsRow.plainKeys==Tryz.prog.plainKeys))=true:=by kernel_rfl
theorem tplains_k24:(Rows.timestampPlainsRow.shortTexts.isNone)=true:=by kernel_rfl
theorem tplains_k27:((Rows.timestampPlainsRow.lifted==Tryz.prog.liftsFinal))=true:=by kernel_rfl
theorem tplains_k28:((Tryz.prog.make==some Rows.timestampPlainsRow.make))=true:=by kernel_rfl
theorem tplains_k29:((Rows.timestampPlainsRow.kinds==(if Rows.timestampPlainsRow.domain.isEmpty then [] else Tryz.f5.params.toList.map fun t=>match Tryz.prog.underlying t with|some (.int k)=>some k|_=>none)))=true:=by kernel_rfl
theorem tplains_k30:((Rows.timestampPlainsRow.pinned==Rows.timestampPlainsRow.pinnedBy))=true:=by kernel_rfl
theorem tplains_k31:((Rows.timestampPlainsRow.veiled==(Tryz.f5.params.toList++Rows.timestampPlainsSpec.plain.varTypes Tryz.prog++Tryz.f5.resultTypes.toList).any (Tryz.prog.veiledRec ·)))=true:=by kernel_rfl
theorem tplains_k32:(Rows.timestampPlainsRow.veiledFits Tryz.prog Tryz.f5.params.toList (Tryz.f5.params.toList++Rows.timestampPlainsSpec.plain.varTypes Tryz.prog++Tryz.f5.resultTypes.toList))=true:=by kernel_rfl
theorem tplains_joined:joinedFacts Tryz.prog 5 Tryz.f5 Rows.timestampPlainsSpec Rows.timestampPlainsRow=true:=
 q6q tplains_k1 z1W z1S tplains_k4 tplains_k5 tplains_k6 z1t tplains_k8 z2e tplains_k10 tplains_k11 tplains_k12 tplains_k13 tplains_k14 tplains_k15 tplains_k16 tplains_k17 tplains_k18 tplains_k19 tplains_k20 tplains_k21 tplains_k22 tplains_k23 tplains_k24 q8J q8F tplains_k27 tplains_k28 tplains_k29 tplains_k30 tplains_k31 tplains_k32
theorem tplains_tabs{W:World}(h:laidMetH Tryz.prog Rows.timestampPlainsRow.laid W):TabT (Cx.top W) []:=by
 have hm:=z6c h (by kernel_rfl)
 refine ⟨?_,?_⟩
 · exact fun e he=>absurd he (by simp [tabList])
 intro e he;simp only [datList,Bm,BW,or_false] at he;rcases he with rfl|rfl|rfl|rfl
 · exact q4R hm "watchword/sha.start" .u32 dat_sha_start 2 (by kernel_rfl) (by kernel_rfl) (by kernel_rfl) (by kernel_rfl) (by kernel_rfl) (by kernel_rfl) (by kernel_rfl) (by kernel_rfl) (t:=223) (e:=221) (n:=8)
 · exact q4R hm "watchword/sha.constants" .u32 dat_sha_constants 3 (by kernel_rfl) (by kernel_rfl) (by kernel_rfl) (by kernel_rfl) (by kernel_rfl) (by kernel_rfl) (by kernel_rfl) (by kernel_rfl) (t:=247) (e:=221) (n:=64)
 · exact z1m hm "watchword/watchwordref04.constants" .i64 dat_ref04_constants 0 (by kernel_rfl) (by kernel_rfl) (by kernel_rfl) (by kernel_rfl) (by kernel_rfl) (by kernel_rfl) (by decide) (t:=56) (e:=3)
 exact z0Y hm "watchword/watchwordref06.substitutes" .u8 dat_ref06_substitutes 1 (by kernel_rfl) (by kernel_rfl) (by kernel_rfl) (by kernel_rfl) (by kernel_rfl) (by kernel_rfl) (by kernel_rfl) (by kernel_rfl) (t:=168) (e:=5) (n:=256)
theorem tplains_params:∀t∈Tryz.f5.params.toList,Tryz.prog.readableRec t=true∧t<Tryz.prog.types.size:=by
 rw [Tryz.params5];intro t ht;simp at ht;rcases ht with rfl|rfl|rfl
 · exact ⟨by kernel_rfl,of_decide_eq_true (by kernel_rfl)⟩
 · exact ⟨by kernel_rfl,of_decide_eq_true (by kernel_rfl)⟩
 exact ⟨by kernel_rfl,of_decide_eq_true (by kernel_rfl)⟩
theorem tplains_contract(H:Type)(enc:TypeId×Value→H)(W:World)(base:Nat)(args:Array Value)(ds gs:List (DataW H))(before:List MemPlace)
 (hval:∀ (j:Nat) t v,Tryz.f5.params[j]?=some t→args[j]?=some v→Value.okWide Tryz.prog W .any base t v)
 (hW:DataW.Whole enc Tryz.prog Tryz.f5.params.toList Rows.timestampPlainsSpec.vars false W args.toList ds gs before)
 (hsz:(DataW.weightsEach Tryz.prog (Tryz.f5.params.toList++(OpenSpec.ofChange Rows.timestampPlainsSpec).bare.plain.varTypes Tryz.prog) (ds++gs)).all (· ≤reachBytes)=true)(hlaid:laidMetH Tryz.prog Rows.timestampPlainsRow.laid W):
 Calls Tryz.prog 5 args W fun e W'=>∃v,e= .returned v∧Rows.timestampPlainsSpec.post enc Tryz.prog Tryz.f5 false true false false W args v W':=by
 have hW':=hW;obtain ⟨p,q,hA0,hV,rfl,hfz,hnd⟩:=hW;have hA:DataW.TrodAll enc Tryz.prog W 0 (fun _=>true) true Tryz.f5.params.toList args.toList ds p:=hA0;rw [Tryz.params5] at hA hval hsz;obtain ⟨v0,v1,v2,v3,v4,d0,d1,d2,d3,d4,p0,p1,p2,p3,p4,rfl,rfl,rfl,h0,h1,h2,h3,h4⟩:=z3W hA;obtain ⟨rfl,rfl⟩:=trodVars_none hV;have hw:(DataW.weightsEach Tryz.prog [24,22,22,3,3] [d0,d1,d2,d3,d4]).all (· ≤reachBytes)=true:=hsz
 simp only [DataW.weightsEach] at hw;obtain ⟨x0,e0,o0,r0⟩:=q3M Tryz.underlying24 tyHkp (hval 0 24 v0 rfl rfl) h0 (q0t hw).1;obtain ⟨x1,e1,o1,r1⟩:=q7f (show Tryz.prog.underlying 22=some (.slice 5) by kernel_rfl) (show tyRd Tryz.prog 8 22=some (.slice (.u8)) by kernel_rfl) (hval 1 22 v1 rfl rfl) h1 (q0t (q0t hw).2).1
 obtain ⟨x2,e2,o2,r2⟩:=q7f (show Tryz.prog.underlying 22=some (.slice 5) by kernel_rfl) (show tyRd Tryz.prog 8 22=some (.slice (.u8)) by kernel_rfl) (hval 2 22 v2 rfl rfl) h2 (q0t (q0t (q0t hw).2).2).1
 obtain ⟨x3,rfl,rfl,rfl,_⟩:=open_int Tryz.underlying3 (hval 3 3 v3 rfl rfl) h3;obtain ⟨x4,rfl,rfl,rfl,_⟩:=open_int Tryz.underlying3 (hval 4 3 v4 rfl rfl) h4;have hden:SV.denL (Cx.top W) [.agg ((KeyT).cells x0),.isl (.u8) x1,.isl (.u8) x2,rI x3,rI x4] [v0,v1,v2,(.int .i64 x3),(.int .i64 x4)]:=
  q0b.2 ⟨_,_,rfl,e0,q0b.2 ⟨_,_,rfl,e1,q0b.2 ⟨_,_,rfl,e2,q0b.2 ⟨_,_,rfl,by rw [SV.den],q0b.2 ⟨_,_,rfl,by rw [SV.den],q0u.2 rfl⟩⟩⟩⟩⟩
 refine (q4k (z8Z x0 x1 x2 x3 x4 o0) hden (tplains_tabs hlaid)).mono fun e W' ⟨he,hb⟩=>⟨_,he,?_⟩;exact q8w laidOutK tplains_params (by kernel_rfl) Tryz.underlying4 rfl hW' rfl hb
theorem tplains_met(os:Os):laidMet Tryz.prog Rows.timestampPlainsRow.laid ((laidWorld os).forCall (fun _ _=>0) ⟨#[], #[zHkp,.slice none 0 0,.slice none 0 0,.int .i64 0,.int .i64 0],[]⟩).memory:=
 laidMet_of_run' 8 (by kernel_rfl) (by kernel_rfl)
theorem tplains_reads(os:Os){H:Type}(enc:TypeId×Value→H):∃places,DataW.whole enc Tryz.prog ((laidWorld os).forCall (fun _ _=>0) ⟨#[], #[zHkp,.slice none 0 0,.slice none 0 0,.int .i64 0,.int .i64 0],[]⟩).memory Tryz.f5.params.toList Rows.timestampPlainsSpec.vars false #[zHkp,Value.slice none 0 0,Value.slice none 0 0,Value.int .i64 0,Value.int .i64 0].toList 8=some ([dHkp,.nil,.nil,dI,dI],[],places):=
 ⟨[],by kernel_rfl⟩
theorem tplains_lifted(os:Os)(started:os.Started)(H:Type)(enc:TypeId×Value→H)(F:Stop.Interp):
 ReturnsInHanded {} Tryz.checked os 5 .any ((OpenSpec.ofChange Rows.timestampPlainsSpec).preRow enc Tryz.prog Tryz.f5 Rows.timestampPlainsRow.domain false Rows.timestampPlainsRow.laid) (((OpenSpec.ofChange Rows.timestampPlainsSpec).at F).post enc Tryz.prog Tryz.f5 false true false false):=by
 obtain ⟨places,hx⟩:=tplains_reads os enc;refine returnsInHanded_of_row (C:=Tryz.checked) (s:=OpenSpec.ofChange Rows.timestampPlainsSpec) ownK started (by kernel_rfl) Tryz.func5
  (witness_row_atRef (enc:=enc) (C:=Tryz.checked) false (laidWorld os) #[zHkp,.slice none 0 0,.slice none 0 0,.int .i64 0,.int .i64 0] rfl (by kernel_rfl) (by kernel_rfl) (by kernel_rfl)
   (OpenSpec.preRow_of_cond 8 hx (by kernel_rfl) (fun k hk=>by cases hk) (by kernel_rfl) (tplains_met os))) ?_
 intro W base args ds gs before hval hW _ _ hsz hlaid _ _;exact tplains_contract H enc W base args ds gs before hval hW hsz hlaid
theorem tplains_named:Tryz.pinned.checked.prog.funcNamed Rows.timestampPlainsRow.func=some 5:=by kernel_rfl
theorem tplains_said:Rows.TimestampPlainsSaid:=
 OpenClaim.holds_of_cond 5 Tryz.f5 rfl rfl rfl rfl rfl rfl rfl ⟨rfl,rfl,rfl,rfl,rfl⟩ rfl rfl rfl rfl rfl tplains_named Tryz.func5 tplains_joined
  (of_decide_eq_true (by kernel_rfl)) (by unfold Func.isWrapper;first| (rw [if_pos (by decide+kernel)];kernel_rfl) | (rw [if_neg (by decide+kernel)];exact ⟨rfl,rfl⟩))
  (fun os started H enc _ F=>by rw [OpenClaim.pre_eq_preRow];exact tplains_lifted os started H enc F)
theorem tplains_plain(f:FuncId)(fn:Func)(hf:Tryz.pinned.checked.prog.funcNamed Rows.timestampPlainsRow.func=some f)(hfn:Tryz.pinned.checked.prog.funcs[f]?=some fn):
 true=Tryz.pinned.checked.prog.looks []∧∀ (j:Nat) t,fn.params[j]?=some t→Tryz.pinned.checked.prog.wantsStandIn t=false:=by
 obtain rfl:f=5:=Option.some.inj ((show Tryz.prog.funcNamed Rows.timestampPlainsRow.func=some 5 by kernel_rfl).symm.trans hf) |>.symm
 obtain rfl:fn=Tryz.f5:=(Option.some.inj (Tryz.func5.symm.trans hfn)).symm;refine ⟨by kernel_rfl,fun j t ht=> ?_⟩
 rw [Tryz.params5] at ht;have hm:=Ci ht;simp at hm;rcases hm with rfl|rfl|rfl
 · exact (show Tryz.prog.wantsStandIn 24=false by kernel_rfl)
 · exact (show Tryz.prog.wantsStandIn 22=false by kernel_rfl)
 exact (show Tryz.prog.wantsStandIn 3=false by kernel_rfl)
theorem tplains_card:Rows.TimestampPlainsCardSaid:=
 Claim7.holds_tied_plain_at .later [] _ _ _ _ tplains_said (fun _ h=>by cases h) (by kernel_rfl) (fun _ h=>by cases h) timestampPlains_row_tie rfl ⟨rfl,rfl⟩ (by kernel_rfl) rfl tplains_plain (by kernel_rfl)

end Go.Proofs.YtikapabgggphpaaGreatDoor
