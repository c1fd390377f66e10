/- TimestampHolds: for every key, time, confounder and skew the law answers true, and its arguments read as they did. -/
import Derived.Test.YtikapabgggphpaaGreatDoorP31
import Derived.Test.YtikapabgggphpaaGreatDoorP32
import Derived.Test.YtikapabgggphpaaGreatDoorPJb
set_option linter.all false
namespace Go.Proofs.YtikapabgggphpaaGreatDoor
open Go Go.Sx Go.ChangeShapes Go.WideShapes Go.ChangeAt Go.RowKit
set_option maxRecDepth 100000
theorem tyHk:tyRd Tryz.prog 8 24=some KeyT:=by kernel_rfl
def zHk:Value:=.agg #[.int .i64 0,.int .i64 0,.slice none 0 0]
def dHk {H:Type}:DataW H:=.agg [dI,dI,.nil]
theorem tholds_k1:(Rows.timestampHoldsRow.wf (OpenSpec.ofChange Rows.timestampHoldsSpec))=true:=by kernel_rfl
theorem tholds_k4:(Tryz.f7.params.all (Tryz.prog.readableRec ·))=true:=by kernel_rfl
theorem tholds_k5:(namedTie Tryz.prog Rows.timestampHoldsRow.named Rows.timestampHoldsSpec.vars)=true:=by kernel_rfl
theorem tholds_k6:((Rows.timestampHoldsRow.stops== []))=true:=by kernel_rfl
theorem tholds_k8:((Rows.timestampHoldsRow.knobs== []))=true:=by kernel_rfl
theorem tholds_k10:((Rows.timestampHoldsRow.inPlace==Tryz.prog.inPlace 7))=true:=by kernel_rfl
theorem tholds_k11:((Rows.timestampHoldsRow.unfollowed==Tryz.prog.unfollowed 7))=true:=by kernel_rfl
theorem tholds_k12:((Rows.timestampHoldsRow.recurses==Tryz.prog.recurses 7))=true:=by kernel_rfl
theorem tholds_k13:((Rows.timestampHoldsRow.named==Tryz.prog.varsNamed 7))=true:=by kernel_rfl
theorem tholds_k14:((Rows.timestampHoldsRow.maps==(Tryz.f7.params.toList++Rows.timestampHoldsSpec.plain.varTypes Tryz.prog).any (Tryz.prog.mapsRec ·)))=true:=by kernel_rfl
theorem tholds_k15:((Rows.timestampHoldsRow.ifaces==(Tryz.f7.params.toList++Rows.timestampHoldsSpec.plain.varTypes Tryz.prog).any (Tryz.prog.ifacesRec ·)))=true:=by kernel_rfl
theorem tholds_k16:((Rows.timestampHoldsRow.mapsOut==Tryz.prog.mapsAmong Tryz.f7.resultTypes.toList))=true:=by kernel_rfl
theorem tholds_k17:((Rows.timestampHoldsRow.loops==(Tryz.f7.params.toList++Rows.timestampHoldsSpec.plain.varTypes Tryz.prog).any (Tryz.prog.loopsFrom ·)))=true:=by kernel_rfl
theorem tholds_k18:((Rows.timestampHoldsRow.wideKeys==(Tryz.f7.params.toList++Rows.timestampHoldsSpec.plain.varTypes Tryz.prog++Tryz.f7.resultTypes.toList).any (Tryz.prog.wideKeysFrom ·)))=true:=by kernel_rfl
theorem tholds_k19:(Rows.timestampHoldsSpec.vars.all (Tryz.prog.varReadable ·))=true:=by kernel_rfl
theorem tholds_k20:(Tryz.f7.resultTypes.all (fun t=>Tryz.prog.readableRec t&& decide (t<Tryz.prog.types.size)))=true:=by kernel_rfl
theorem tholds_k21:((Rows.timestampHoldsRow.ifacesOut==Tryz.f7.resultTypes.toList.any (Tryz.prog.ifacesRec ·)))=true:=by kernel_rfl
theorem tholds_k22:((Rows.timestampHoldsRow.loopsOut==Tryz.f7.resultTypes.toList.any (Tryz.prog.loopsFrom ·)))=true:=by kernel_rfl
theorem tholds_k23:((Rows.timestampHoldsRow.plainKeys==Tryz.prog.plainKeys))=true:=by kernel_rfl
theorem tholds_k24:(Rows.timestampHoldsRow.shortTexts.isNone)=true:=by kernel_rfl
theorem tholds_k27:((Rows.timestampHoldsRow.lifted==Tryz.prog.liftsFinal))=true:=by kernel_rfl
theorem tholds_k28:((Tryz.prog.make==some Rows.timestampHoldsRow.make))=true:=by kernel_rfl
theorem tholds_k29:((Rows.timestampHoldsRow.kinds==(if Rows.timestampHoldsRow.domain.isEmpty then [] else Tryz.f7.params.toList.map fun t=>match Tryz.prog.underlying t with|some (.int k)=>some k|_=>none)))=true:=by kernel_rfl
theorem tholds_k30:((Rows.timestampHoldsRow.pinned==Rows.timestampHoldsRow.pinnedBy))=true:=by kernel_rfl
theorem tholds_k31:((Rows.timestampHoldsRow.veiled==(Tryz.f7.params.toList++Rows.timestampHoldsSpec.plain.varTypes Tryz.prog++Tryz.f7.resultTypes.toList).any (Tryz.prog.veiledRec ·)))=true:=by kernel_rfl
theorem tholds_k32:(Rows.timestampHoldsRow.veiledFits Tryz.prog Tryz.f7.params.toList (Tryz.f7.params.toList++Rows.timestampHoldsSpec.plain.varTypes Tryz.prog++Tryz.f7.resultTypes.toList))=true:=by kernel_rfl
theorem tholds_joined:joinedFacts Tryz.prog 7 Tryz.f7 Rows.timestampHoldsSpec Rows.timestampHoldsRow=true:=
 z5i tholds_k1 j1m j0Y tholds_k4 tholds_k5 tholds_k6 j0F tholds_k8 j2K tholds_k10 tholds_k11 tholds_k12 tholds_k13 tholds_k14 tholds_k15 tholds_k16 tholds_k17 tholds_k18 tholds_k19 tholds_k20 tholds_k21 tholds_k22 tholds_k23 tholds_k24 z8z z7Y tholds_k27 tholds_k28 tholds_k29 tholds_k30 tholds_k31 tholds_k32
theorem tholds_tabs {W:World} (h:laidMetH Tryz.prog Rows.timestampHoldsRow.laid W):TabT (Cx.top W) []:=by
 have hm:=j3n h (by kernel_rfl)
 refine ⟨?_,?_⟩
 · exact fun e he=>absurd he (by simp [tabList])
 intro e he
 simp only [datList,List.mem_cons,List.not_mem_nil,or_false] at he
 rcases he with rfl|rfl
 · exact z5A hm "watchword/sha.start" .u32 dat_sha_start 0 (by kernel_rfl) (by kernel_rfl) (by kernel_rfl) (by kernel_rfl) (by kernel_rfl) (by kernel_rfl) (by kernel_rfl) (by kernel_rfl) (t:=223) (e:=221) (n:=8)
 exact z5A hm "watchword/sha.constants" .u32 dat_sha_constants 1 (by kernel_rfl) (by kernel_rfl) (by kernel_rfl) (by kernel_rfl) (by kernel_rfl) (by kernel_rfl) (by kernel_rfl) (by kernel_rfl) (t:=247) (e:=221) (n:=64)
theorem tholds_params:∀t∈Tryz.f7.params.toList,Tryz.prog.readableRec t=true∧t<Tryz.prog.types.size:=by
 rw [Tryz.params7]
 intro t ht
 simp at ht
 rcases ht with rfl|rfl|rfl|rfl
 · exact ⟨by kernel_rfl,of_decide_eq_true (by kernel_rfl)⟩
 · exact ⟨by kernel_rfl,of_decide_eq_true (by kernel_rfl)⟩
 · exact ⟨by kernel_rfl,of_decide_eq_true (by kernel_rfl)⟩
 exact ⟨by kernel_rfl,of_decide_eq_true (by kernel_rfl)⟩
theorem tholds_contract (H:Type) (enc:TypeId×Value→H) (W:World) (base:Nat) (args:Array Value) (ds gs:List (DataW H)) (before:List MemPlace)
 (hval:∀ (j:Nat) t v,Tryz.f7.params[j]?=some t→args[j]?=some v→Value.okWide Tryz.prog W .any base t v)
 (hW:DataW.Whole enc Tryz.prog Tryz.f7.params.toList Rows.timestampHoldsSpec.vars false W args.toList ds gs before)
 (hsz:(DataW.weightsEach Tryz.prog (Tryz.f7.params.toList++(OpenSpec.ofChange Rows.timestampHoldsSpec).bare.plain.varTypes Tryz.prog) (ds++gs)).all (· ≤reachBytes)=true) (hlaid:laidMetH Tryz.prog Rows.timestampHoldsRow.laid W):
 Calls Tryz.prog 7 args W fun e W'=>∃v,e= .returned v∧Rows.timestampHoldsSpec.post enc Tryz.prog Tryz.f7 false true false false W args v W':=by
 have hW':=hW
 obtain ⟨p,q,hA0,hV,rfl,hfz,hnd⟩:=hW
 have hA:DataW.TrodAll enc Tryz.prog W 0 (fun _=>true) true Tryz.f7.params.toList args.toList ds p:=hA0
 rw [Tryz.params7] at hA hval hsz
 obtain ⟨v0,v1,v2,v3,v4,v5,d0,d1,d2,d3,d4,d5,p0,p1,p2,p3,p4,p5,rfl,rfl,rfl,h0,h1,h2,h3,h4,h5⟩:=z3H hA
 obtain ⟨rfl,rfl⟩:=trodVars_none hV
 have hw:(DataW.weightsEach Tryz.prog [24,3,3,22,3,3] [d0,d1,d2,d3,d4,d5]).all (· ≤reachBytes)=true:=hsz
 simp only [DataW.weightsEach] at hw
 obtain ⟨x0,e0,o0,r0⟩:=z3I Tryz.underlying24 tyHk (hval 0 24 v0 rfl rfl) h0 (q0I hw).1
 obtain ⟨x1,rfl,rfl,rfl,_⟩:=open_int Tryz.underlying3 (hval 1 3 v1 rfl rfl) h1
 obtain ⟨x2,rfl,rfl,rfl,_⟩:=open_int Tryz.underlying3 (hval 2 3 v2 rfl rfl) h2
 obtain ⟨x3,e3,o3,r3⟩:=z4X (show Tryz.prog.underlying 22=some (.slice 5) by kernel_rfl) (show tyRd Tryz.prog 8 22=some (.slice (.u8)) by kernel_rfl) (hval 3 22 v3 rfl rfl) h3 (q0I (q0I (q0I (q0I hw).2).2).2).1
 obtain ⟨x4,rfl,rfl,rfl,_⟩:=open_int Tryz.underlying3 (hval 4 3 v4 rfl rfl) h4
 obtain ⟨x5,rfl,rfl,rfl,_⟩:=open_int Tryz.underlying3 (hval 5 3 v5 rfl rfl) h5
 have hden:SV.denL (Cx.top W) [.agg ((KeyT).cells x0),rI x1,rI x2,.isl (.u8) x3,rI x4,rI x5] [v0,(.int .i64 x1),(.int .i64 x2),v3,(.int .i64 x4),(.int .i64 x5)]:=
  q0b.2 ⟨_,_,rfl,e0,q0b.2 ⟨_,_,rfl,by rw [SV.den],q0b.2 ⟨_,_,rfl,by rw [SV.den],q0b.2 ⟨_,_,rfl,e3,q0b.2 ⟨_,_,rfl,by rw [SV.den],q0b.2 ⟨_,_,rfl,by rw [SV.den],q0v.2 rfl⟩⟩⟩⟩⟩⟩
 refine (z1K (j0v x0 x1 x2 x3 x4 x5 o0) hden (tholds_tabs hlaid)).mono fun e W' ⟨he,hb⟩=>⟨_,he,?_⟩
 exact z9m laidOutK tholds_params (by kernel_rfl) Tryz.underlying4 rfl hW' rfl hb
theorem tholds_met (os:Os):laidMet Tryz.prog Rows.timestampHoldsRow.laid ((laidWorld os).forCall (fun _ _=>0) ⟨#[], #[zHk,.int .i64 0,.int .i64 0,.slice none 0 0,.int .i64 0,.int .i64 0],[]⟩).memory:=
 laidMet_of_run' 8 (by kernel_rfl) (by kernel_rfl)
theorem tholds_reads (os:Os) {H:Type} (enc:TypeId×Value→H):∃places,DataW.whole enc Tryz.prog ((laidWorld os).forCall (fun _ _=>0) ⟨#[], #[zHk,.int .i64 0,.int .i64 0,.slice none 0 0,.int .i64 0,.int .i64 0],[]⟩).memory Tryz.f7.params.toList Rows.timestampHoldsSpec.vars false #[zHk,Value.int .i64 0,Value.int .i64 0,Value.slice none 0 0,Value.int .i64 0,Value.int .i64 0].toList 8=some ([dHk,dI,dI,.nil,dI,dI],[],places):=
 ⟨[],by kernel_rfl⟩
theorem tholds_lifted (os:Os) (started:os.Started) (H:Type) (enc:TypeId×Value→H) (F:Stop.Interp):
 ReturnsInHanded {} Tryz.checked os 7 .any ((OpenSpec.ofChange Rows.timestampHoldsSpec).preRow enc Tryz.prog Tryz.f7 Rows.timestampHoldsRow.domain false Rows.timestampHoldsRow.laid) (((OpenSpec.ofChange Rows.timestampHoldsSpec).at F).post enc Tryz.prog Tryz.f7 false true false false):=by
 obtain ⟨places,hx⟩:=tholds_reads os enc
 refine returnsInHanded_of_row (C:=Tryz.checked) (s:=OpenSpec.ofChange Rows.timestampHoldsSpec) ownK started (by kernel_rfl) Tryz.func7
  (witness_row_at (enc:=enc) (C:=Tryz.checked) false (laidWorld os) #[zHk,.int .i64 0,.int .i64 0,.slice none 0 0,.int .i64 0,.int .i64 0] rfl (by kernel_rfl) (by kernel_rfl) (by kernel_rfl)
   (OpenSpec.preRow_of_cond 8 hx (by kernel_rfl) (fun k hk=>by cases hk) (by kernel_rfl) (tholds_met os))) ?_
 intro W base args ds gs before hval hW _ _ hsz hlaid _ _
 exact tholds_contract H enc W base args ds gs before hval hW hsz hlaid
theorem tholds_named:Tryz.pinned.checked.prog.funcNamed Rows.timestampHoldsRow.func=some 7:=by kernel_rfl
theorem tholds_said:Rows.TimestampHoldsSaid:=
 OpenClaim.holds_of_cond 7 Tryz.f7 rfl rfl rfl rfl rfl rfl rfl ⟨rfl,rfl,rfl,rfl,rfl⟩ rfl rfl rfl rfl rfl tholds_named Tryz.func7 tholds_joined
  (of_decide_eq_true (by kernel_rfl)) (by unfold Func.isWrapper;first| (rw [if_pos (by decide+kernel)];kernel_rfl) | (rw [if_neg (by decide+kernel)];exact ⟨rfl,rfl⟩))
  (fun os started H enc _ F=>by rw [OpenClaim.pre_eq_preRow];exact tholds_lifted os started H enc F)
theorem tholds_plain (f:FuncId) (fn:Func) (hf:Tryz.pinned.checked.prog.funcNamed Rows.timestampHoldsRow.func=some f) (hfn:Tryz.pinned.checked.prog.funcs[f]?=some fn):
 true=Tryz.pinned.checked.prog.looks []∧∀ (j:Nat) t,fn.params[j]?=some t→Tryz.pinned.checked.prog.wantsStandIn t=false:=by
 obtain rfl:f=7:=Option.some.inj ((show Tryz.prog.funcNamed Rows.timestampHoldsRow.func=some 7 by kernel_rfl).symm.trans hf) |>.symm
 obtain rfl:fn=Tryz.f7:=(Option.some.inj (Tryz.func7.symm.trans hfn)).symm
 refine ⟨by kernel_rfl,fun j t ht=> ?_⟩
 rw [Tryz.params7] at ht
 have hm:=Array.mem_of_getElem? ht
 simp at hm
 rcases hm with rfl|rfl|rfl|rfl
 · exact (show Tryz.prog.wantsStandIn 24=false by kernel_rfl)
 · exact (show Tryz.prog.wantsStandIn 3=false by kernel_rfl)
 · exact (show Tryz.prog.wantsStandIn 22=false by kernel_rfl)
 exact (show Tryz.prog.wantsStandIn 3=false by kernel_rfl)
theorem tholds_card:Rows.TimestampHoldsCardSaid:=
 Claim7.holds_tied_plain_at .later [] _ _ _ _ tholds_said (fun _ h=>by cases h) (by kernel_rfl) (fun _ h=>by cases h) timestampHolds_row_tie rfl ⟨rfl,rfl⟩ (by kernel_rfl) rfl tholds_plain (by kernel_rfl)

end Go.Proofs.YtikapabgggphpaaGreatDoor
