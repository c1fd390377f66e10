/- MessageFailures: for every error message and all bytes the law answers true, and its arguments read as they did. -/
import Derived.Test.YtmegaleepkmadaaGreatDoorP27
import Derived.Test.YtmegaleepkmadaaGreatDoorPRw
import Derived.Test.YtmegaleepkmadaaGreatDoorPJb
set_option linter.unusedSimpArgs false
set_option linter.unusedVariables false
set_option linter.unusedSectionVars false
namespace Go.Proofs.YtmegaleepkmadaaGreatDoor
open Go Go.Sx Go.ChangeShapes Go.WideShapes Go.ChangeAt Go.RowKit
set_option maxRecDepth 100000
theorem tyFail : tyRd Tryz.prog 8 27 = some FailT := by kernel_rfl
def zFail : Value := .agg #[.int .i64 0, .int .i64 0, .int .i64 0, .slice none 0 0, .string ⟨#[]⟩, .slice none 0 0, .string ⟨#[]⟩, .string ⟨#[]⟩, .slice none 0 0]
def dFail {H : Type} : DataW H := .agg [dI, dI, dI, .agg [.nil, dS], .agg [.nil, dS], dS, .nil]
theorem mfailures_k1 : (Rows.messageFailuresRow.wf (OpenSpec.ofChange Rows.messageFailuresSpec)) = true := by kernel_rfl
theorem mfailures_k4 : (Tryz.f3.params.all (Tryz.prog.readableRec ·)) = true := by kernel_rfl
theorem mfailures_k5 : (namedTie Tryz.prog Rows.messageFailuresRow.named Rows.messageFailuresSpec.vars) = true := by kernel_rfl
theorem mfailures_k6 : ((Rows.messageFailuresRow.stops == [])) = true := by kernel_rfl
theorem mfailures_k8 : ((Rows.messageFailuresRow.knobs == [])) = true := by kernel_rfl
theorem mfailures_k10 : ((Rows.messageFailuresRow.inPlace == Tryz.prog.inPlace 3)) = true := by kernel_rfl
theorem mfailures_k11 : ((Rows.messageFailuresRow.unfollowed == Tryz.prog.unfollowed 3)) = true := by kernel_rfl
theorem mfailures_k12 : ((Rows.messageFailuresRow.recurses == Tryz.prog.recurses 3)) = true := by kernel_rfl
theorem mfailures_k13 : ((Rows.messageFailuresRow.named == Tryz.prog.varsNamed 3)) = true := by kernel_rfl
theorem mfailures_k14 : ((Rows.messageFailuresRow.maps == (Tryz.f3.params.toList ++ Rows.messageFailuresSpec.plain.varTypes Tryz.prog).any (Tryz.prog.mapsRec ·))) = true := by kernel_rfl
theorem mfailures_k15 : ((Rows.messageFailuresRow.ifaces == (Tryz.f3.params.toList ++ Rows.messageFailuresSpec.plain.varTypes Tryz.prog).any (Tryz.prog.ifacesRec ·))) = true := by kernel_rfl
theorem mfailures_k16 : ((Rows.messageFailuresRow.mapsOut == Tryz.prog.mapsAmong Tryz.f3.resultTypes.toList)) = true := by kernel_rfl
theorem mfailures_k17 : ((Rows.messageFailuresRow.loops == (Tryz.f3.params.toList ++ Rows.messageFailuresSpec.plain.varTypes Tryz.prog).any (Tryz.prog.loopsFrom ·))) = true := by kernel_rfl
theorem mfailures_k18 : ((Rows.messageFailuresRow.wideKeys == (Tryz.f3.params.toList ++ Rows.messageFailuresSpec.plain.varTypes Tryz.prog ++ Tryz.f3.resultTypes.toList).any (Tryz.prog.wideKeysFrom ·))) = true := by kernel_rfl
theorem mfailures_k19 : (Rows.messageFailuresSpec.vars.all (Tryz.prog.varReadable ·)) = true := by kernel_rfl
theorem mfailures_k20 : (Tryz.f3.resultTypes.all (fun t => Tryz.prog.readableRec t && decide (t < Tryz.prog.types.size))) = true := by kernel_rfl
theorem mfailures_k21 : ((Rows.messageFailuresRow.ifacesOut == Tryz.f3.resultTypes.toList.any (Tryz.prog.ifacesRec ·))) = true := by kernel_rfl
theorem mfailures_k22 : ((Rows.messageFailuresRow.loopsOut == Tryz.f3.resultTypes.toList.any (Tryz.prog.loopsFrom ·))) = true := by kernel_rfl
theorem mfailures_k23 : ((Rows.messageFailuresRow.plainKeys == Tryz.prog.plainKeys)) = true := by kernel_rfl
theorem mfailures_k24 : (Rows.messageFailuresRow.shortTexts.isNone) = true := by kernel_rfl
theorem mfailures_k27 : ((Rows.messageFailuresRow.lifted == Tryz.prog.liftsFinal)) = true := by kernel_rfl
theorem mfailures_k28 : ((Tryz.prog.make == some Rows.messageFailuresRow.make)) = true := by kernel_rfl
theorem mfailures_k29 : ((Rows.messageFailuresRow.kinds == (if Rows.messageFailuresRow.domain.isEmpty then [] else Tryz.f3.params.toList.map fun t => match Tryz.prog.underlying t with | some (.int k) => some k | _ => none))) = true := by kernel_rfl
theorem mfailures_k30 : ((Rows.messageFailuresRow.pinned == Rows.messageFailuresRow.pinnedBy)) = true := by kernel_rfl
theorem mfailures_k31 : ((Rows.messageFailuresRow.veiled == (Tryz.f3.params.toList ++ Rows.messageFailuresSpec.plain.varTypes Tryz.prog ++ Tryz.f3.resultTypes.toList).any (Tryz.prog.veiledRec ·))) = true := by kernel_rfl
theorem mfailures_k32 : (Rows.messageFailuresRow.veiledFits Tryz.prog Tryz.f3.params.toList (Tryz.f3.params.toList ++ Rows.messageFailuresSpec.plain.varTypes Tryz.prog ++ Tryz.f3.resultTypes.toList)) = true := by kernel_rfl
theorem mfailures_joined : joinedFacts Tryz.prog 3 Tryz.f3 Rows.messageFailuresSpec Rows.messageFailuresRow = true :=
 joined_mk mfailures_k1 base_k2 base_k3 mfailures_k4 mfailures_k5 mfailures_k6 base_k7 mfailures_k8 base_k9 mfailures_k10 mfailures_k11 mfailures_k12 mfailures_k13 mfailures_k14 mfailures_k15 mfailures_k16 mfailures_k17 mfailures_k18 mfailures_k19 mfailures_k20 mfailures_k21 mfailures_k22 mfailures_k23 mfailures_k24 base_k25 base_k26 mfailures_k27 mfailures_k28 mfailures_k29 mfailures_k30 mfailures_k31 mfailures_k32
theorem mfailures_params : ∀ t ∈ Tryz.f3.params.toList, Tryz.prog.readableRec t = true ∧ t < Tryz.prog.types.size := by
 rw [Tryz.params3]
 intro t ht
 simp at ht
 rcases ht with rfl | rfl
 · exact ⟨by kernel_rfl, of_decide_eq_true (by kernel_rfl)⟩
 · exact ⟨by kernel_rfl, of_decide_eq_true (by kernel_rfl)⟩
theorem mfailures_contract (H : Type) (enc : TypeId × Value → H) (W : World) (base : Nat) (args : Array Value) (ds gs : List (DataW H)) (before : List MemPlace)
 (hval : ∀ (j : Nat) t v, Tryz.f3.params[j]? = some t → args[j]? = some v → Value.okWide Tryz.prog W .any base t v)
 (hW : DataW.Whole enc Tryz.prog Tryz.f3.params.toList Rows.messageFailuresSpec.vars false W args.toList ds gs before)
 (hsz : (DataW.weightsEach Tryz.prog (Tryz.f3.params.toList ++ (OpenSpec.ofChange Rows.messageFailuresSpec).bare.plain.varTypes Tryz.prog) (ds ++ gs)).all (· ≤ reachBytes) = true) :
 Calls Tryz.prog 3 args W fun e W' => ∃ v, e = .returned v ∧ Rows.messageFailuresSpec.post enc Tryz.prog Tryz.f3 false true false false W args v W' := by
 have hW' := hW
 obtain ⟨p, q, hA0, hV, rfl, hfz, hnd⟩ := hW
 have hA : DataW.TrodAll enc Tryz.prog W 0 (fun _ => true) true Tryz.f3.params.toList args.toList ds p := hA0
 rw [Tryz.params3] at hA hval hsz
 obtain ⟨v0, v1, d0, d1, p0, p1, rfl, rfl, rfl, h0, h1⟩ := trodAll_two hA
 obtain ⟨rfl, rfl⟩ := trodVars_none hV
 have hw : (DataW.weightsEach Tryz.prog [27, 28] [d0, d1]).all (· ≤ reachBytes) = true := hsz
 simp only [DataW.weightsEach] at hw
 obtain ⟨x0, e0, o0, r0⟩ := arg_struct Tryz.underlying27 tyFail (hval 0 27 v0 rfl rfl) h0 (all_append_le hw).1
 obtain ⟨x1, e1, o1, r1⟩ := arg_slice (show Tryz.prog.underlying 28 = some (.slice 5) by kernel_rfl) (show tyRd Tryz.prog 8 28 = some (.slice (.u8)) by kernel_rfl) (hval 1 28 v1 rfl rfl) h1 (all_append_le (all_append_le hw).2).1
 have hden : SV.denL (Cx.top W) [.agg ((FailT).cells x0), .isl (.u8) x1] [v0, v1] :=
  denL_cons.2 ⟨_, _, rfl, e0, denL_cons.2 ⟨_, _, rfl, e1, denL_nil.2 rfl⟩⟩
 refine (calls_of_pc (failures_law x0 o0 r0 x1) hden).mono fun e W' ⟨he, hb⟩ => ⟨_, he, ?_⟩
 exact law_post laidOutK mfailures_params (by kernel_rfl) Tryz.underlying4 rfl hW' rfl hb
theorem mfailures_met (os : Os) : laidMet Tryz.prog Rows.messageFailuresRow.laid ((laidWorld os).forCall (fun _ _ => 0) ⟨#[], #[zFail, .slice none 0 0], []⟩).memory :=
 laidMet_of_run' 8 (by kernel_rfl) (by kernel_rfl)
theorem mfailures_reads (os : Os) {H : Type} (enc : TypeId × Value → H) : ∃ places, DataW.whole enc Tryz.prog ((laidWorld os).forCall (fun _ _ => 0) ⟨#[], #[zFail, .slice none 0 0], []⟩).memory Tryz.f3.params.toList Rows.messageFailuresSpec.vars false #[zFail, Value.slice none 0 0].toList 8 = some ([dFail, .nil], [], places) :=
 ⟨[], by kernel_rfl⟩
theorem mfailures_lifted (os : Os) (started : os.Started) (H : Type) (enc : TypeId × Value → H) (F : Stop.Interp) :
 ReturnsInHanded {} Tryz.checked os 3 .any ((OpenSpec.ofChange Rows.messageFailuresSpec).preRow enc Tryz.prog Tryz.f3 Rows.messageFailuresRow.domain false Rows.messageFailuresRow.laid) (((OpenSpec.ofChange Rows.messageFailuresSpec).at F).post enc Tryz.prog Tryz.f3 false true false false) := by
 obtain ⟨places, hx⟩ := mfailures_reads os enc
 refine returnsInHanded_of_row (C := Tryz.checked) (s := OpenSpec.ofChange Rows.messageFailuresSpec) ownK started (by kernel_rfl) Tryz.func3
  (witness_row_at (enc := enc) (C := Tryz.checked) false (laidWorld os) #[zFail, .slice none 0 0] rfl (by kernel_rfl) (by kernel_rfl) (by kernel_rfl)
   (OpenSpec.preRow_of_cond 8 hx (by kernel_rfl) (fun k hk => by cases hk) (by kernel_rfl) (mfailures_met os))) ?_
 intro W base args ds gs before hval hW _ _ hsz _ _ _
 exact mfailures_contract H enc W base args ds gs before hval hW hsz
theorem mfailures_named : Tryz.pinned.checked.prog.funcNamed Rows.messageFailuresRow.func = some 3 := by kernel_rfl
theorem mfailures_said : Rows.MessageFailuresSaid :=
 OpenClaim.holds_of_cond 3 Tryz.f3 rfl rfl rfl rfl rfl rfl rfl ⟨rfl, rfl, rfl, rfl, rfl⟩ rfl rfl rfl rfl rfl mfailures_named Tryz.func3 mfailures_joined
  (of_decide_eq_true (by kernel_rfl)) (by unfold Func.isWrapper; first | (rw [if_pos (by decide +kernel)]; kernel_rfl) | (rw [if_neg (by decide +kernel)]; exact ⟨rfl, rfl⟩))
  (fun os started H enc _ F => by rw [OpenClaim.pre_eq_preRow]; exact mfailures_lifted os started H enc F)
theorem mfailures_plain (f : FuncId) (fn : Func) (hf : Tryz.pinned.checked.prog.funcNamed Rows.messageFailuresRow.func = some f) (hfn : Tryz.pinned.checked.prog.funcs[f]? = some fn) :
 true = Tryz.pinned.checked.prog.looks [] ∧ ∀ (j : Nat) t, fn.params[j]? = some t → Tryz.pinned.checked.prog.wantsStandIn t = false := by
 obtain rfl : f = 3 := Option.some.inj ((show Tryz.prog.funcNamed Rows.messageFailuresRow.func = some 3 by kernel_rfl).symm.trans hf) |>.symm
 obtain rfl : fn = Tryz.f3 := (Option.some.inj (Tryz.func3.symm.trans hfn)).symm
 refine ⟨by kernel_rfl, fun j t ht => ?_⟩
 rw [Tryz.params3] at ht
 have hm := Array.mem_of_getElem? ht
 simp at hm
 rcases hm with rfl | rfl
 · exact (show Tryz.prog.wantsStandIn 27 = false by kernel_rfl)
 · exact (show Tryz.prog.wantsStandIn 28 = false by kernel_rfl)
theorem mfailures_card : Rows.MessageFailuresCardSaid :=
 Claim7.holds_tied_plain_at .later [] _ _ _ _ mfailures_said (fun _ h => by cases h) (by kernel_rfl) (fun _ h => by cases h) messageFailures_row_tie rfl ⟨rfl, rfl⟩ (by kernel_rfl) rfl mfailures_plain (by kernel_rfl)

end Go.Proofs.YtmegaleepkmadaaGreatDoor

