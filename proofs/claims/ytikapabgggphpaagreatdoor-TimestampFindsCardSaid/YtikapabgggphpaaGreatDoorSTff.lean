/- TimestampFinds: for every list of keys, element, time and skew the law answers true, and its arguments read as they did. -/
import Derived.Test.YtikapabgggphpaaGreatDoorS33
import Derived.Test.YtikapabgggphpaaGreatDoorS34
import Derived.Test.YtikapabgggphpaaGreatDoorSJb
import Derived.Deep.DeepWitnessRowRef
set_option linter.all false
namespace Go.Proofs.YtikapabgggphpaaGreatDoor
open Go Go.Sx Go.ChangeShapes Go.WideShapes Go.ChangeAt Go.RowKit
set_option maxRecDepth 100000
theorem tyHpf:tyRd Tryz.prog 8 27=some PreT:=by kernel_rfl
def zHpf:Value:=.agg #[.int .i64 0,.slice none 0 0]
def dHpf{H:Type}:DataW H:=.agg [dI,.nil]
theorem tfinds_k1:(Rows.timestampFindsRow.wf (OpenSpec.ofChange Rows.timestampFindsSpec))=true:=by kernel_rfl
theorem tfinds_k4:(Tryz.f6.params.all (Tryz.prog.readableRec ·))=true:=by kernel_rfl
theorem tfinds_k5:(namedTie Tryz.prog Rows.timestampFindsRow.named Rows.timestampFindsSpec.vars)=true:=by kernel_rfl
theorem tfinds_k6:((Rows.timestampFindsRow.stops== []))=true:=by kernel_rfl
theorem tfinds_k8:((Rows.timestampFindsRow.knobs== []))=true:=by kernel_rfl
theorem tfinds_k10:((Rows.timestampFindsRow.inPlace==Tryz.prog.inPlace 6))=true:=by kernel_rfl
theorem tfinds_k11:((Rows.timestampFindsRow.unfollowed==Tryz.prog.unfollowed 6))=true:=by kernel_rfl
theorem tfinds_k12:((Rows.timestampFindsRow.recurses==Tryz.prog.recurses 6))=true:=by kernel_rfl
theorem tfinds_k13:((Rows.timestampFindsRow.named==Tryz.prog.varsNamed 6))=true:=by kernel_rfl
theorem tfinds_k14:((Rows.timestampFindsRow.maps==(Tryz.f6.params.toList++Rows.timestampFindsSpec.plain.varTypes Tryz.prog).any (Tryz.prog.mapsRec ·)))=true:=by kernel_rfl
theorem tfinds_k15:((Rows.timestampFindsRow.ifaces==(Tryz.f6.params.toList++Rows.timestampFindsSpec.plain.varTypes Tryz.prog).any (Tryz.prog.ifacesRec ·)))=true:=by kernel_rfl
theorem tfinds_k16:((Rows.timestampFindsRow.mapsOut==Tryz.prog.mapsAmong Tryz.f6.resultTypes.toList))=true:=by kernel_rfl
theorem tfinds_k17:((Rows.timestampFindsRow.loops==(Tryz.f6.params.toList++Rows.timestampFindsSpec.plain.varTypes Tryz.prog).any (Tryz.prog.loopsFrom ·)))=true:=by kernel_rfl
theorem tfinds_k18:((Rows.timestampFindsRow.wideKeys==(Tryz.f6.params.toList++Rows.timestampFindsSpec.plain.varTypes Tryz.prog++Tryz.f6.resultTypes.toList).any (Tryz.prog.wideKeysFrom ·)))=true:=by kernel_rfl
theorem tfinds_k19:(Rows.timestampFindsSpec.vars.all (Tryz.prog.varReadable ·))=true:=by kernel_rfl
theorem tfinds_k20:(Tryz.f6.resultTypes.all (fun t=>Tryz.prog.readableRec t&& decide (t<Tryz.prog.types.size)))=true:=by kernel_rfl
theorem tfinds_k21:((Rows.timestampFindsRow.ifacesOut==Tryz.f6.resultTypes.toList.any (Tryz.prog.ifacesRec ·)))=true:=by kernel_rfl
theorem tfinds_k22:((Rows.timestampFindsRow.loopsOut==Tryz.f6.resultTypes.toList.any (Tryz.prog.loopsFrom ·)))=true:=by kernel_rfl
theorem tfinds_k23:((Rows.timestampFindsRow.plainKeys==Tryz.prog.plainKeys))=true:=by kernel_rfl
theorem tfinds_k24:(Rows.timestampFindsRow.shortTexts.isNone)=true:=by kernel_rfl
theorem tfinds_k27:((Rows.timestampFindsRow.lifted==Tryz.prog.liftsFinal))=true:=by kernel_rfl
theorem tfinds_k28:((Tryz.prog.make==some Rows.timestampFindsRow.make))=true:=by kernel_rfl
theorem tfinds_k29:((Rows.timestampFindsRow.kinds==(if Rows.timestampFindsRow.domain.isEmpty then [] else Tryz.f6.params.toList.map fun t=>match Tryz.prog.underlying t with|some (.int k)=>some k|_=>none)))=true:=by kernel_rfl
theorem tfinds_k30:((Rows.timestampFindsRow.pinned==Rows.timestampFindsRow.pinnedBy))=true:=by kernel_rfl
theorem tfinds_k31:((Rows.timestampFindsRow.veiled==(Tryz.f6.params.toList++Rows.timestampFindsSpec.plain.varTypes Tryz.prog++Tryz.f6.resultTypes.toList).any (Tryz.prog.veiledRec ·)))=true:=by kernel_rfl
theorem tfinds_k32:(Rows.timestampFindsRow.veiledFits Tryz.prog Tryz.f6.params.toList (Tryz.f6.params.toList++Rows.timestampFindsSpec.plain.varTypes Tryz.prog++Tryz.f6.resultTypes.toList))=true:=by kernel_rfl
theorem tfinds_joined:joinedFacts Tryz.prog 6 Tryz.f6 Rows.timestampFindsSpec Rows.timestampFindsRow=true:=
 q6q tfinds_k1 z1W z1S tfinds_k4 tfinds_k5 tfinds_k6 z1t tfinds_k8 z2e tfinds_k10 tfinds_k11 tfinds_k12 tfinds_k13 tfinds_k14 tfinds_k15 tfinds_k16 tfinds_k17 tfinds_k18 tfinds_k19 tfinds_k20 tfinds_k21 tfinds_k22 tfinds_k23 tfinds_k24 q8J q8F tfinds_k27 tfinds_k28 tfinds_k29 tfinds_k30 tfinds_k31 tfinds_k32
theorem tfinds_tabs{W:World}(h:laidMetH Tryz.prog Rows.timestampFindsRow.laid W):TabT (Cx.top W) []:=by
 have hm:=z6c h (by kernel_rfl)
 refine ⟨?_,?_⟩
 · exact fun e he=>absurd he (by simp [tabList])
 intro e he;simp only [datList,Bm,BW,or_false] at he;rcases he with rfl|rfl|rfl|rfl
 · exact q4R hm "watchword/sha.start" .u32 dat_sha_start 2 (by kernel_rfl) (by kernel_rfl) (by kernel_rfl) (by kernel_rfl) (by kernel_rfl) (by kernel_rfl) (by kernel_rfl) (by kernel_rfl) (t:=223) (e:=221) (n:=8)
 · exact q4R hm "watchword/sha.constants" .u32 dat_sha_constants 3 (by kernel_rfl) (by kernel_rfl) (by kernel_rfl) (by kernel_rfl) (by kernel_rfl) (by kernel_rfl) (by kernel_rfl) (by kernel_rfl) (t:=247) (e:=221) (n:=64)
 · exact z1m hm "watchword/watchwordref04.constants" .i64 dat_ref04_constants 0 (by kernel_rfl) (by kernel_rfl) (by kernel_rfl) (by kernel_rfl) (by kernel_rfl) (by kernel_rfl) (by decide) (t:=56) (e:=3)
 exact z0Y hm "watchword/watchwordref06.substitutes" .u8 dat_ref06_substitutes 1 (by kernel_rfl) (by kernel_rfl) (by kernel_rfl) (by kernel_rfl) (by kernel_rfl) (by kernel_rfl) (by kernel_rfl) (by kernel_rfl) (t:=168) (e:=5) (n:=256)
theorem tfinds_params:∀t∈Tryz.f6.params.toList,Tryz.prog.readableRec t=true∧t<Tryz.prog.types.size:=by
 rw [Tryz.params6];intro t ht;simp at ht;rcases ht with rfl|rfl|rfl
 · exact ⟨by kernel_rfl,of_decide_eq_true (by kernel_rfl)⟩
 · exact ⟨by kernel_rfl,of_decide_eq_true (by kernel_rfl)⟩
 exact ⟨by kernel_rfl,of_decide_eq_true (by kernel_rfl)⟩
theorem tfinds_contract(H:Type)(enc:TypeId×Value→H)(W:World)(base:Nat)(args:Array Value)(ds gs:List (DataW H))(before:List MemPlace)
 (hval:∀ (j:Nat) t v,Tryz.f6.params[j]?=some t→args[j]?=some v→Value.okWide Tryz.prog W .any base t v)
 (hW:DataW.Whole enc Tryz.prog Tryz.f6.params.toList Rows.timestampFindsSpec.vars false W args.toList ds gs before)
 (hsz:(DataW.weightsEach Tryz.prog (Tryz.f6.params.toList++(OpenSpec.ofChange Rows.timestampFindsSpec).bare.plain.varTypes Tryz.prog) (ds++gs)).all (· ≤reachBytes)=true)(hlaid:laidMetH Tryz.prog Rows.timestampFindsRow.laid W):
 Calls Tryz.prog 6 args W fun e W'=>∃v,e= .returned v∧Rows.timestampFindsSpec.post enc Tryz.prog Tryz.f6 false true false false W args v W':=by
 have hW':=hW;obtain ⟨p,q,hA0,hV,rfl,hfz,hnd⟩:=hW;have hA:DataW.TrodAll enc Tryz.prog W 0 (fun _=>true) true Tryz.f6.params.toList args.toList ds p:=hA0;rw [Tryz.params6] at hA hval hsz;obtain ⟨v0,v1,v2,v3,d0,d1,d2,d3,p0,p1,p2,p3,rfl,rfl,rfl,h0,h1,h2,h3⟩:=q7X hA;obtain ⟨rfl,rfl⟩:=trodVars_none hV;have hw:(DataW.weightsEach Tryz.prog [48,27,3,3] [d0,d1,d2,d3]).all (· ≤reachBytes)=true:=hsz
 simp only [DataW.weightsEach] at hw;obtain ⟨x0,e0,o0,r0⟩:=q7f (show Tryz.prog.underlying 48=some (.slice 24) by kernel_rfl) (show tyRd Tryz.prog 8 48=some (.slice (KeyT)) by kernel_rfl) (hval 0 48 v0 rfl rfl) h0 (q0t hw).1
 obtain ⟨x1,e1,o1,r1⟩:=q3M Tryz.underlying27 tyHpf (hval 1 27 v1 rfl rfl) h1 (q0t (q0t hw).2).1;obtain ⟨x2,rfl,rfl,rfl,_⟩:=open_int Tryz.underlying3 (hval 2 3 v2 rfl rfl) h2;obtain ⟨x3,rfl,rfl,rfl,_⟩:=open_int Tryz.underlying3 (hval 3 3 v3 rfl rfl) h3;have hden:SV.denL (Cx.top W) [.isl (KeyT) x0,.agg ((PreT).cells x1),rI x2,rI x3] [v0,v1,(.int .i64 x2),(.int .i64 x3)]:=
  q0b.2 ⟨_,_,rfl,e0,q0b.2 ⟨_,_,rfl,e1,q0b.2 ⟨_,_,rfl,by rw [SV.den],q0b.2 ⟨_,_,rfl,by rw [SV.den],q0u.2 rfl⟩⟩⟩⟩
 refine (q4k (j2m x0 x1 x2 x3 o0 o1) hden (tfinds_tabs hlaid)).mono fun e W' ⟨he,hb⟩=>⟨_,he,?_⟩;exact q8w laidOutK tfinds_params (by kernel_rfl) Tryz.underlying4 rfl hW' rfl hb
theorem tfinds_met(os:Os):laidMet Tryz.prog Rows.timestampFindsRow.laid ((laidWorld os).forCall (fun _ _=>0) ⟨#[], #[.slice none 0 0,zHpf,.int .i64 0,.int .i64 0],[]⟩).memory:=
 laidMet_of_run' 8 (by kernel_rfl) (by kernel_rfl)
theorem tfinds_reads(os:Os){H:Type}(enc:TypeId×Value→H):∃places,DataW.whole enc Tryz.prog ((laidWorld os).forCall (fun _ _=>0) ⟨#[], #[.slice none 0 0,zHpf,.int .i64 0,.int .i64 0],[]⟩).memory Tryz.f6.params.toList Rows.timestampFindsSpec.vars false #[Value.slice none 0 0,zHpf,Value.int .i64 0,Value.int .i64 0].toList 8=some ([.nil,dHpf,dI,dI],[],places):=
 ⟨[],by kernel_rfl⟩
theorem tfinds_lifted(os:Os)(started:os.Started)(H:Type)(enc:TypeId×Value→H)(F:Stop.Interp):
 ReturnsInHanded {} Tryz.checked os 6 .any ((OpenSpec.ofChange Rows.timestampFindsSpec).preRow enc Tryz.prog Tryz.f6 Rows.timestampFindsRow.domain false Rows.timestampFindsRow.laid) (((OpenSpec.ofChange Rows.timestampFindsSpec).at F).post enc Tryz.prog Tryz.f6 false true false false):=by
 obtain ⟨places,hx⟩:=tfinds_reads os enc;refine returnsInHanded_of_row (C:=Tryz.checked) (s:=OpenSpec.ofChange Rows.timestampFindsSpec) ownK started (by kernel_rfl) Tryz.func6
  (witness_row_atRef (enc:=enc) (C:=Tryz.checked) false (laidWorld os) #[.slice none 0 0,zHpf,.int .i64 0,.int .i64 0] rfl (by kernel_rfl) (by kernel_rfl) (by kernel_rfl)
   (OpenSpec.preRow_of_cond 8 hx (by kernel_rfl) (fun k hk=>by cases hk) (by kernel_rfl) (tfinds_met os))) ?_
 intro W base args ds gs before hval hW _ _ hsz hlaid _ _;exact tfinds_contract H enc W base args ds gs before hval hW hsz hlaid
theorem tfinds_named:Tryz.pinned.checked.prog.funcNamed Rows.timestampFindsRow.func=some 6:=by kernel_rfl
theorem tfinds_said:Rows.TimestampFindsSaid:=
 OpenClaim.holds_of_cond 6 Tryz.f6 rfl rfl rfl rfl rfl rfl rfl ⟨rfl,rfl,rfl,rfl,rfl⟩ rfl rfl rfl rfl rfl tfinds_named Tryz.func6 tfinds_joined
  (of_decide_eq_true (by kernel_rfl)) (by unfold Func.isWrapper;first| (rw [if_pos (by decide+kernel)];kernel_rfl) | (rw [if_neg (by decide+kernel)];exact ⟨rfl,rfl⟩))
  (fun os started H enc _ F=>by rw [OpenClaim.pre_eq_preRow];exact tfinds_lifted os started H enc F)
theorem tfinds_plain(f:FuncId)(fn:Func)(hf:Tryz.pinned.checked.prog.funcNamed Rows.timestampFindsRow.func=some f)(hfn:Tryz.pinned.checked.prog.funcs[f]?=some fn):
 true=Tryz.pinned.checked.prog.looks []∧∀ (j:Nat) t,fn.params[j]?=some t→Tryz.pinned.checked.prog.wantsStandIn t=false:=by
 obtain rfl:f=6:=Option.some.inj ((show Tryz.prog.funcNamed Rows.timestampFindsRow.func=some 6 by kernel_rfl).symm.trans hf) |>.symm
 obtain rfl:fn=Tryz.f6:=(Option.some.inj (Tryz.func6.symm.trans hfn)).symm;refine ⟨by kernel_rfl,fun j t ht=> ?_⟩
 rw [Tryz.params6] at ht;have hm:=Ci ht;simp at hm;rcases hm with rfl|rfl|rfl
 · exact (show Tryz.prog.wantsStandIn 48=false by kernel_rfl)
 · exact (show Tryz.prog.wantsStandIn 27=false by kernel_rfl)
 exact (show Tryz.prog.wantsStandIn 3=false by kernel_rfl)
theorem tfinds_card:Rows.TimestampFindsCardSaid:=
 Claim7.holds_tied_plain_at .later [] _ _ _ _ tfinds_said (fun _ h=>by cases h) (by kernel_rfl) (fun _ h=>by cases h) timestampFinds_row_tie rfl ⟨rfl,rfl⟩ (by kernel_rfl) rfl tfinds_plain (by kernel_rfl)

end Go.Proofs.YtikapabgggphpaaGreatDoor
