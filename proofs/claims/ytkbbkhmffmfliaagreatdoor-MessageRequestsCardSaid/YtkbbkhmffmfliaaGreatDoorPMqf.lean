/- MessageRequests: for every request and all bytes the law answers true, and its arguments read as they did. -/
import Derived.Test.YtkbbkhmffmfliaaGreatDoorP28
import Derived.Test.YtkbbkhmffmfliaaGreatDoorP29
import Derived.Test.YtkbbkhmffmfliaaGreatDoorPJb
set_option linter.all false
namespace Go.Proofs.YtkbbkhmffmfliaaGreatDoor
open Go Go.Sx Go.ChangeShapes Go.WideShapes Go.ChangeAt Go.RowKit
set_option maxRecDepth 100000
theorem tyReq : tyRd Tryz.prog 8 33 = some ReqT := by kernel_rfl
def zReq : Value := .agg #[.int .i64 0, .slice none 0 0, .int .u32 0, .slice none 0 0, .string ⟨#[]⟩, .slice none 0 0, .string ⟨#[]⟩, .int .i64 0, .int .i64 0, .int .i64 0, .int .i64 0, .slice none 0 0, .slice none 0 0, .slice none 0 0]
def dReq {H : Type} : DataW H := .agg [dI, .nil, .lit (.int .u32 0), .agg [.nil, dS], .agg [.nil, dS], dI, dI, dI, dI, .nil, .nil, .nil]
theorem mrequests_k1 : (Rows.messageRequestsRow.wf (OpenSpec.ofChange Rows.messageRequestsSpec)) = true := by kernel_rfl
theorem mrequests_k4 : (Tryz.f3.params.all (Tryz.prog.readableRec ·)) = true := by kernel_rfl
theorem mrequests_k5 : (namedTie Tryz.prog Rows.messageRequestsRow.named Rows.messageRequestsSpec.vars) = true := by kernel_rfl
theorem mrequests_k6 : ((Rows.messageRequestsRow.stops == [])) = true := by kernel_rfl
theorem mrequests_k8 : ((Rows.messageRequestsRow.knobs == [])) = true := by kernel_rfl
theorem mrequests_k10 : ((Rows.messageRequestsRow.inPlace == Tryz.prog.inPlace 3)) = true := by kernel_rfl
theorem mrequests_k11 : ((Rows.messageRequestsRow.unfollowed == Tryz.prog.unfollowed 3)) = true := by kernel_rfl
theorem mrequests_k12 : ((Rows.messageRequestsRow.recurses == Tryz.prog.recurses 3)) = true := by kernel_rfl
theorem mrequests_k13 : ((Rows.messageRequestsRow.named == Tryz.prog.varsNamed 3)) = true := by kernel_rfl
theorem mrequests_k14 : ((Rows.messageRequestsRow.maps == (Tryz.f3.params.toList ++ Rows.messageRequestsSpec.plain.varTypes Tryz.prog).any (Tryz.prog.mapsRec ·))) = true := by kernel_rfl
theorem mrequests_k15 : ((Rows.messageRequestsRow.ifaces == (Tryz.f3.params.toList ++ Rows.messageRequestsSpec.plain.varTypes Tryz.prog).any (Tryz.prog.ifacesRec ·))) = true := by kernel_rfl
theorem mrequests_k16 : ((Rows.messageRequestsRow.mapsOut == Tryz.prog.mapsAmong Tryz.f3.resultTypes.toList)) = true := by kernel_rfl
theorem mrequests_k17 : ((Rows.messageRequestsRow.loops == (Tryz.f3.params.toList ++ Rows.messageRequestsSpec.plain.varTypes Tryz.prog).any (Tryz.prog.loopsFrom ·))) = true := by kernel_rfl
theorem mrequests_k18 : ((Rows.messageRequestsRow.wideKeys == (Tryz.f3.params.toList ++ Rows.messageRequestsSpec.plain.varTypes Tryz.prog ++ Tryz.f3.resultTypes.toList).any (Tryz.prog.wideKeysFrom ·))) = true := by kernel_rfl
theorem mrequests_k19 : (Rows.messageRequestsSpec.vars.all (Tryz.prog.varReadable ·)) = true := by kernel_rfl
theorem mrequests_k20 : (Tryz.f3.resultTypes.all (fun t => Tryz.prog.readableRec t && decide (t < Tryz.prog.types.size))) = true := by kernel_rfl
theorem mrequests_k21 : ((Rows.messageRequestsRow.ifacesOut == Tryz.f3.resultTypes.toList.any (Tryz.prog.ifacesRec ·))) = true := by kernel_rfl
theorem mrequests_k22 : ((Rows.messageRequestsRow.loopsOut == Tryz.f3.resultTypes.toList.any (Tryz.prog.loopsFrom ·))) = true := by kernel_rfl
theorem mrequests_k23 : ((Rows.messageRequestsRow.plainKeys == Tryz.prog.plainKeys)) = true := by kernel_rfl
theorem mrequests_k24 : (Rows.messageRequestsRow.shortTexts.isNone) = true := by kernel_rfl
theorem mrequests_k27 : ((Rows.messageRequestsRow.lifted == Tryz.prog.liftsFinal)) = true := by kernel_rfl
theorem mrequests_k28 : ((Tryz.prog.make == some Rows.messageRequestsRow.make)) = true := by kernel_rfl
theorem mrequests_k29 : ((Rows.messageRequestsRow.kinds == (if Rows.messageRequestsRow.domain.isEmpty then [] else Tryz.f3.params.toList.map fun t => match Tryz.prog.underlying t with | some (.int k) => some k | _ => none))) = true := by kernel_rfl
theorem mrequests_k30 : ((Rows.messageRequestsRow.pinned == Rows.messageRequestsRow.pinnedBy)) = true := by kernel_rfl
theorem mrequests_k31 : ((Rows.messageRequestsRow.veiled == (Tryz.f3.params.toList ++ Rows.messageRequestsSpec.plain.varTypes Tryz.prog ++ Tryz.f3.resultTypes.toList).any (Tryz.prog.veiledRec ·))) = true := by kernel_rfl
theorem mrequests_k32 : (Rows.messageRequestsRow.veiledFits Tryz.prog Tryz.f3.params.toList (Tryz.f3.params.toList ++ Rows.messageRequestsSpec.plain.varTypes Tryz.prog ++ Tryz.f3.resultTypes.toList)) = true := by kernel_rfl
theorem mrequests_joined : joinedFacts Tryz.prog 3 Tryz.f3 Rows.messageRequestsSpec Rows.messageRequestsRow = true :=
 z6B mrequests_k1 j2m j1Q mrequests_k4 mrequests_k5 mrequests_k6 j2p mrequests_k8 j0K mrequests_k10 mrequests_k11 mrequests_k12 mrequests_k13 mrequests_k14 mrequests_k15 mrequests_k16 mrequests_k17 mrequests_k18 mrequests_k19 mrequests_k20 mrequests_k21 mrequests_k22 mrequests_k23 mrequests_k24 z7T z8x mrequests_k27 mrequests_k28 mrequests_k29 mrequests_k30 mrequests_k31 mrequests_k32
theorem mrequests_tabs {W : World} (h : laidMetH Tryz.prog Rows.messageRequestsRow.laid W) : TabT (Cx.top W).I W := by
 have hm := j4b h (by kernel_rfl)
 intro e he
 simp only [tabList, List.mem_cons, List.not_mem_nil, or_false] at he
 rcases he with rfl | rfl | rfl
 · exact z1q hm "internal/strconv.uint64pow10" .u64 [1, 10, 100, 1000, 10000, 100000, 1000000, 10000000, 100000000, 1000000000, 10000000000, 100000000000, 1000000000000, 10000000000000, 100000000000000, 1000000000000000, 10000000000000000, 100000000000000000, 1000000000000000000, 10000000000000000000] 2 (by kernel_rfl) (by kernel_rfl) (by kernel_rfl) (by kernel_rfl) (by kernel_rfl) (by kernel_rfl) (by kernel_rfl) (t := 325) (e := 279) (n := 20)
 · exact z1q hm "math/bits.deBruijn64tab" .u8 [0, 1, 56, 2, 57, 49, 28, 3, 61, 58, 42, 50, 38, 29, 17, 4, 62, 47, 59, 36, 45, 43, 51, 22, 53, 39, 33, 30, 24, 18, 12, 5, 63, 55, 48, 27, 60, 41, 37, 16, 46, 35, 44, 21, 52, 32, 23, 11, 54, 26, 40, 15, 34, 20, 31, 10, 25, 14, 19, 9, 13, 8, 7, 6] 1 (by kernel_rfl) (by kernel_rfl) (by kernel_rfl) (by kernel_rfl) (by kernel_rfl) (by kernel_rfl) (by kernel_rfl) (t := 358) (e := 5) (n := 64)
 exact z1q hm "math/bits.deBruijn32tab" .u8 [0, 1, 28, 2, 29, 14, 24, 3, 30, 22, 20, 15, 25, 17, 4, 8, 31, 27, 13, 23, 21, 19, 16, 7, 26, 12, 18, 6, 11, 5, 10, 9] 0 (by kernel_rfl) (by kernel_rfl) (by kernel_rfl) (by kernel_rfl) (by kernel_rfl) (by kernel_rfl) (by kernel_rfl) (t := 320) (e := 5) (n := 32)
theorem mrequests_params : ∀ t ∈ Tryz.f3.params.toList, Tryz.prog.readableRec t = true ∧ t < Tryz.prog.types.size := by
 rw [Tryz.params3]
 intro t ht
 simp at ht
 rcases ht with rfl | rfl
 · exact ⟨by kernel_rfl, of_decide_eq_true (by kernel_rfl)⟩
 exact ⟨by kernel_rfl, of_decide_eq_true (by kernel_rfl)⟩
theorem mrequests_contract (H : Type) (enc : TypeId × Value → H) (W : World) (base : Nat) (args : Array Value) (ds gs : List (DataW H)) (before : List MemPlace)
 (hval : ∀ (j : Nat) t v, Tryz.f3.params[j]? = some t → args[j]? = some v → Value.okWide Tryz.prog W .any base t v)
 (hW : DataW.Whole enc Tryz.prog Tryz.f3.params.toList Rows.messageRequestsSpec.vars false W args.toList ds gs before)
 (hsz : (DataW.weightsEach Tryz.prog (Tryz.f3.params.toList ++ (OpenSpec.ofChange Rows.messageRequestsSpec).bare.plain.varTypes Tryz.prog) (ds ++ gs)).all (· ≤ reachBytes) = true) (hlaid : laidMetH Tryz.prog Rows.messageRequestsRow.laid W) :
 Calls Tryz.prog 3 args W fun e W' => ∃ v, e = .returned v ∧ Rows.messageRequestsSpec.post enc Tryz.prog Tryz.f3 false true false false W args v W' := by
 have hW' := hW
 obtain ⟨p, q, hA0, hV, rfl, hfz, hnd⟩ := hW
 have hA : DataW.TrodAll enc Tryz.prog W 0 (fun _ => true) true Tryz.f3.params.toList args.toList ds p := hA0
 rw [Tryz.params3] at hA hval hsz
 obtain ⟨v0, v1, d0, d1, p0, p1, rfl, rfl, rfl, h0, h1⟩ := trodAll_two hA
 obtain ⟨rfl, rfl⟩ := trodVars_none hV
 have hw : (DataW.weightsEach Tryz.prog [33, 34] [d0, d1]).all (· ≤ reachBytes) = true := hsz
 simp only [DataW.weightsEach] at hw
 obtain ⟨x0, e0, o0, r0⟩ := z4v Tryz.underlying33 tyReq (hval 0 33 v0 rfl rfl) h0 (q1z hw).1
 obtain ⟨x1, e1, o1, r1⟩ := z6N (show Tryz.prog.underlying 34 = some (.slice 5) by kernel_rfl) (show tyRd Tryz.prog 8 34 = some (.slice (.u8)) by kernel_rfl) (hval 1 34 v1 rfl rfl) h1 (q1z (q1z hw).2).1
 have hden : SV.denL (Cx.top W) [.agg ((ReqT).cells x0), .isl (.u8) x1] [v0, v1] :=
  q0j.2 ⟨_, _, rfl, e0, q0j.2 ⟨_, _, rfl, e1, q0H.2 rfl⟩⟩
 refine (z2a (z0p x0 o0 r0 x1) hden (mrequests_tabs hlaid)).mono fun e W' ⟨he, hb⟩ => ⟨_, he, ?_⟩
 exact z8g laidOutK mrequests_params (by kernel_rfl) Tryz.underlying4 rfl hW' rfl hb
theorem mrequests_met (os : Os) : laidMet Tryz.prog Rows.messageRequestsRow.laid ((laidWorld os).forCall (fun _ _ => 0) ⟨#[], #[zReq, .slice none 0 0], []⟩).memory :=
 laidMet_of_run' 8 (by kernel_rfl) (by kernel_rfl)
theorem mrequests_reads (os : Os) {H : Type} (enc : TypeId × Value → H) : ∃ places, DataW.whole enc Tryz.prog ((laidWorld os).forCall (fun _ _ => 0) ⟨#[], #[zReq, .slice none 0 0], []⟩).memory Tryz.f3.params.toList Rows.messageRequestsSpec.vars false #[zReq, Value.slice none 0 0].toList 8 = some ([dReq, .nil], [], places) :=
 ⟨[], by kernel_rfl⟩
theorem mrequests_lifted (os : Os) (started : os.Started) (H : Type) (enc : TypeId × Value → H) (F : Stop.Interp) :
 ReturnsInHanded {} Tryz.checked os 3 .any ((OpenSpec.ofChange Rows.messageRequestsSpec).preRow enc Tryz.prog Tryz.f3 Rows.messageRequestsRow.domain false Rows.messageRequestsRow.laid) (((OpenSpec.ofChange Rows.messageRequestsSpec).at F).post enc Tryz.prog Tryz.f3 false true false false) := by
 obtain ⟨places, hx⟩ := mrequests_reads os enc
 refine returnsInHanded_of_row (C := Tryz.checked) (s := OpenSpec.ofChange Rows.messageRequestsSpec) ownK started (by kernel_rfl) Tryz.func3
  (witness_row_at (enc := enc) (C := Tryz.checked) false (laidWorld os) #[zReq, .slice none 0 0] rfl (by kernel_rfl) (by kernel_rfl) (by kernel_rfl)
   (OpenSpec.preRow_of_cond 8 hx (by kernel_rfl) (fun k hk => by cases hk) (by kernel_rfl) (mrequests_met os))) ?_
 intro W base args ds gs before hval hW _ _ hsz hlaid _ _
 exact mrequests_contract H enc W base args ds gs before hval hW hsz hlaid
theorem mrequests_named : Tryz.pinned.checked.prog.funcNamed Rows.messageRequestsRow.func = some 3 := by kernel_rfl
theorem mrequests_said : Rows.MessageRequestsSaid :=
 OpenClaim.holds_of_cond 3 Tryz.f3 rfl rfl rfl rfl rfl rfl rfl ⟨rfl, rfl, rfl, rfl, rfl⟩ rfl rfl rfl rfl rfl mrequests_named Tryz.func3 mrequests_joined
  (of_decide_eq_true (by kernel_rfl)) (by unfold Func.isWrapper; first | (rw [if_pos (by decide +kernel)]; kernel_rfl) | (rw [if_neg (by decide +kernel)]; exact ⟨rfl, rfl⟩))
  (fun os started H enc _ F => by rw [OpenClaim.pre_eq_preRow]; exact mrequests_lifted os started H enc F)
theorem mrequests_plain (f : FuncId) (fn : Func) (hf : Tryz.pinned.checked.prog.funcNamed Rows.messageRequestsRow.func = some f) (hfn : Tryz.pinned.checked.prog.funcs[f]? = some fn) :
 true = Tryz.pinned.checked.prog.looks [] ∧ ∀ (j : Nat) t, fn.params[j]? = some t → Tryz.pinned.checked.prog.wantsStandIn t = false := by
 obtain rfl : f = 3 := Option.some.inj ((show Tryz.prog.funcNamed Rows.messageRequestsRow.func = some 3 by kernel_rfl).symm.trans hf) |>.symm
 obtain rfl : fn = Tryz.f3 := (Option.some.inj (Tryz.func3.symm.trans hfn)).symm
 refine ⟨by kernel_rfl, fun j t ht => ?_⟩
 rw [Tryz.params3] at ht
 have hm := Array.mem_of_getElem? ht
 simp at hm
 rcases hm with rfl | rfl
 · exact (show Tryz.prog.wantsStandIn 33 = false by kernel_rfl)
 exact (show Tryz.prog.wantsStandIn 34 = false by kernel_rfl)
theorem mrequests_card : Rows.MessageRequestsCardSaid :=
 Claim7.holds_tied_plain_at .later [] _ _ _ _ mrequests_said (fun _ h => by cases h) (by kernel_rfl) (fun _ h => by cases h) messageRequests_row_tie rfl ⟨rfl, rfl⟩ (by kernel_rfl) rfl mrequests_plain (by kernel_rfl)

end Go.Proofs.YtkbbkhmffmfliaaGreatDoor
