/- MessageTypes: for all bytes, pre-authentication data and numbers the law answers true, and its arguments read as they did. -/
import Derived.Test.YtoeieekegmmdkaaGreatDoorP22
import Derived.Test.YtoeieekegmmdkaaGreatDoorPRw
import Derived.Test.YtoeieekegmmdkaaGreatDoorPJb
set_option linter.unusedSimpArgs false
set_option linter.unusedVariables false
set_option linter.unusedSectionVars false
namespace Go.Proofs.YtoeieekegmmdkaaGreatDoor
open Go Go.Sx Go.ChangeShapes Go.WideShapes Go.ChangeAt Go.RowKit
set_option maxRecDepth 100000
theorem mtypes_k1 : (Rows.messageTypesRow.wf (OpenSpec.ofChange Rows.messageTypesSpec)) = true := by kernel_rfl
theorem mtypes_k4 : (Tryz.f3.params.all (Tryz.prog.readableRec ·)) = true := by kernel_rfl
theorem mtypes_k5 : (namedTie Tryz.prog Rows.messageTypesRow.named Rows.messageTypesSpec.vars) = true := by kernel_rfl
theorem mtypes_k6 : ((Rows.messageTypesRow.stops == [])) = true := by kernel_rfl
theorem mtypes_k8 : ((Rows.messageTypesRow.knobs == [])) = true := by kernel_rfl
theorem mtypes_k10 : ((Rows.messageTypesRow.inPlace == Tryz.prog.inPlace 3)) = true := by kernel_rfl
theorem mtypes_k11 : ((Rows.messageTypesRow.unfollowed == Tryz.prog.unfollowed 3)) = true := by kernel_rfl
theorem mtypes_k12 : ((Rows.messageTypesRow.recurses == Tryz.prog.recurses 3)) = true := by kernel_rfl
theorem mtypes_k13 : ((Rows.messageTypesRow.named == Tryz.prog.varsNamed 3)) = true := by kernel_rfl
theorem mtypes_k14 : ((Rows.messageTypesRow.maps == (Tryz.f3.params.toList ++ Rows.messageTypesSpec.plain.varTypes Tryz.prog).any (Tryz.prog.mapsRec ·))) = true := by kernel_rfl
theorem mtypes_k15 : ((Rows.messageTypesRow.ifaces == (Tryz.f3.params.toList ++ Rows.messageTypesSpec.plain.varTypes Tryz.prog).any (Tryz.prog.ifacesRec ·))) = true := by kernel_rfl
theorem mtypes_k16 : ((Rows.messageTypesRow.mapsOut == Tryz.prog.mapsAmong Tryz.f3.resultTypes.toList)) = true := by kernel_rfl
theorem mtypes_k17 : ((Rows.messageTypesRow.loops == (Tryz.f3.params.toList ++ Rows.messageTypesSpec.plain.varTypes Tryz.prog).any (Tryz.prog.loopsFrom ·))) = true := by kernel_rfl
theorem mtypes_k18 : ((Rows.messageTypesRow.wideKeys == (Tryz.f3.params.toList ++ Rows.messageTypesSpec.plain.varTypes Tryz.prog ++ Tryz.f3.resultTypes.toList).any (Tryz.prog.wideKeysFrom ·))) = true := by kernel_rfl
theorem mtypes_k19 : (Rows.messageTypesSpec.vars.all (Tryz.prog.varReadable ·)) = true := by kernel_rfl
theorem mtypes_k20 : (Tryz.f3.resultTypes.all (fun t => Tryz.prog.readableRec t && decide (t < Tryz.prog.types.size))) = true := by kernel_rfl
theorem mtypes_k21 : ((Rows.messageTypesRow.ifacesOut == Tryz.f3.resultTypes.toList.any (Tryz.prog.ifacesRec ·))) = true := by kernel_rfl
theorem mtypes_k22 : ((Rows.messageTypesRow.loopsOut == Tryz.f3.resultTypes.toList.any (Tryz.prog.loopsFrom ·))) = true := by kernel_rfl
theorem mtypes_k23 : ((Rows.messageTypesRow.plainKeys == Tryz.prog.plainKeys)) = true := by kernel_rfl
theorem mtypes_k24 : (Rows.messageTypesRow.shortTexts.isNone) = true := by kernel_rfl
theorem mtypes_k27 : ((Rows.messageTypesRow.lifted == Tryz.prog.liftsFinal)) = true := by kernel_rfl
theorem mtypes_k28 : ((Tryz.prog.make == some Rows.messageTypesRow.make)) = true := by kernel_rfl
theorem mtypes_k29 : ((Rows.messageTypesRow.kinds == (if Rows.messageTypesRow.domain.isEmpty then [] else Tryz.f3.params.toList.map fun t => match Tryz.prog.underlying t with | some (.int k) => some k | _ => none))) = true := by kernel_rfl
theorem mtypes_k30 : ((Rows.messageTypesRow.pinned == Rows.messageTypesRow.pinnedBy)) = true := by kernel_rfl
theorem mtypes_k31 : ((Rows.messageTypesRow.veiled == (Tryz.f3.params.toList ++ Rows.messageTypesSpec.plain.varTypes Tryz.prog ++ Tryz.f3.resultTypes.toList).any (Tryz.prog.veiledRec ·))) = true := by kernel_rfl
theorem mtypes_k32 : (Rows.messageTypesRow.veiledFits Tryz.prog Tryz.f3.params.toList (Tryz.f3.params.toList ++ Rows.messageTypesSpec.plain.varTypes Tryz.prog ++ Tryz.f3.resultTypes.toList)) = true := by kernel_rfl
theorem mtypes_joined : joinedFacts Tryz.prog 3 Tryz.f3 Rows.messageTypesSpec Rows.messageTypesRow = true :=
 joined_mk mtypes_k1 base_k2 base_k3 mtypes_k4 mtypes_k5 mtypes_k6 base_k7 mtypes_k8 base_k9 mtypes_k10 mtypes_k11 mtypes_k12 mtypes_k13 mtypes_k14 mtypes_k15 mtypes_k16 mtypes_k17 mtypes_k18 mtypes_k19 mtypes_k20 mtypes_k21 mtypes_k22 mtypes_k23 mtypes_k24 base_k25 base_k26 mtypes_k27 mtypes_k28 mtypes_k29 mtypes_k30 mtypes_k31 mtypes_k32
theorem mtypes_params : ∀ t ∈ Tryz.f3.params.toList, Tryz.prog.readableRec t = true ∧ t < Tryz.prog.types.size := by
 rw [Tryz.params3]
 intro t ht
 simp at ht
 rcases ht with rfl | rfl | rfl
 · exact ⟨by kernel_rfl, of_decide_eq_true (by kernel_rfl)⟩
 · exact ⟨by kernel_rfl, of_decide_eq_true (by kernel_rfl)⟩
 · exact ⟨by kernel_rfl, of_decide_eq_true (by kernel_rfl)⟩
theorem mtypes_contract (H : Type) (enc : TypeId × Value → H) (W : World) (base : Nat) (args : Array Value) (ds gs : List (DataW H)) (before : List MemPlace)
 (hval : ∀ (j : Nat) t v, Tryz.f3.params[j]? = some t → args[j]? = some v → Value.okWide Tryz.prog W .any base t v)
 (hW : DataW.Whole enc Tryz.prog Tryz.f3.params.toList Rows.messageTypesSpec.vars false W args.toList ds gs before)
 (hsz : (DataW.weightsEach Tryz.prog (Tryz.f3.params.toList ++ (OpenSpec.ofChange Rows.messageTypesSpec).bare.plain.varTypes Tryz.prog) (ds ++ gs)).all (· ≤ reachBytes) = true) :
 Calls Tryz.prog 3 args W fun e W' => ∃ v, e = .returned v ∧ Rows.messageTypesSpec.post enc Tryz.prog Tryz.f3 false true false false W args v W' := by
 have hW' := hW
 obtain ⟨p, q, hA0, hV, rfl, hfz, hnd⟩ := hW
 have hA : DataW.TrodAll enc Tryz.prog W 0 (fun _ => true) true Tryz.f3.params.toList args.toList ds p := hA0
 rw [Tryz.params3] at hA hval hsz
 obtain ⟨v0, v1, v2, d0, d1, d2, p0, p1, p2, rfl, rfl, rfl, h0, h1, h2⟩ := trodAll_three hA
 obtain ⟨rfl, rfl⟩ := trodVars_none hV
 have hw : (DataW.weightsEach Tryz.prog [22, 23, 3] [d0, d1, d2]).all (· ≤ reachBytes) = true := hsz
 simp only [DataW.weightsEach] at hw
 obtain ⟨x0, e0, o0, r0⟩ := arg_slice (show Tryz.prog.underlying 22 = some (.slice 5) by kernel_rfl) (show tyRd Tryz.prog 8 22 = some (.slice (.u8)) by kernel_rfl) (hval 0 22 v0 rfl rfl) h0 (all_append_le hw).1
 obtain ⟨x1, e1, o1, r1⟩ := arg_slice (show Tryz.prog.underlying 23 = some (.slice 34) by kernel_rfl) (show tyRd Tryz.prog 8 23 = some (.slice (PreT)) by kernel_rfl) (hval 1 23 v1 rfl rfl) h1 (all_append_le (all_append_le hw).2).1
 obtain ⟨x2, rfl, rfl, rfl, _⟩ := open_int Tryz.underlying3 (hval 2 3 v2 rfl rfl) h2
 have hden : SV.denL (Cx.top W) [.isl (.u8) x0, .isl (PreT) x1, rI x2] [v0, v1, (.int .i64 x2)] :=
  denL_cons.2 ⟨_, _, rfl, e0, denL_cons.2 ⟨_, _, rfl, e1, denL_cons.2 ⟨_, _, rfl, by rw [SV.den], denL_nil.2 rfl⟩⟩⟩
 refine (calls_of_pc (types_law x0 x1 x2 o0.1 o1) hden).mono fun e W' ⟨he, hb⟩ => ⟨_, he, ?_⟩
 exact law_post laidOutK mtypes_params (by kernel_rfl) Tryz.underlying4 rfl hW' rfl hb
theorem mtypes_met (os : Os) : laidMet Tryz.prog Rows.messageTypesRow.laid ((laidWorld os).forCall (fun _ _ => 0) ⟨#[], #[.slice none 0 0, .slice none 0 0, .int .i64 0], []⟩).memory :=
 laidMet_of_run' 8 (by kernel_rfl) (by kernel_rfl)
theorem mtypes_reads (os : Os) {H : Type} (enc : TypeId × Value → H) : ∃ places, DataW.whole enc Tryz.prog ((laidWorld os).forCall (fun _ _ => 0) ⟨#[], #[.slice none 0 0, .slice none 0 0, .int .i64 0], []⟩).memory Tryz.f3.params.toList Rows.messageTypesSpec.vars false #[Value.slice none 0 0, Value.slice none 0 0, Value.int .i64 0].toList 8 = some ([.nil, .nil, dI], [], places) :=
 ⟨[], by kernel_rfl⟩
theorem mtypes_lifted (os : Os) (started : os.Started) (H : Type) (enc : TypeId × Value → H) (F : Stop.Interp) :
 ReturnsInHanded {} Tryz.checked os 3 .any ((OpenSpec.ofChange Rows.messageTypesSpec).preRow enc Tryz.prog Tryz.f3 Rows.messageTypesRow.domain false Rows.messageTypesRow.laid) (((OpenSpec.ofChange Rows.messageTypesSpec).at F).post enc Tryz.prog Tryz.f3 false true false false) := by
 obtain ⟨places, hx⟩ := mtypes_reads os enc
 refine returnsInHanded_of_row (C := Tryz.checked) (s := OpenSpec.ofChange Rows.messageTypesSpec) ownK started (by kernel_rfl) Tryz.func3
  (witness_row_at (enc := enc) (C := Tryz.checked) false (laidWorld os) #[.slice none 0 0, .slice none 0 0, .int .i64 0] rfl (by kernel_rfl) (by kernel_rfl) (by kernel_rfl)
   (OpenSpec.preRow_of_cond 8 hx (by kernel_rfl) (fun k hk => by cases hk) (by kernel_rfl) (mtypes_met os))) ?_
 intro W base args ds gs before hval hW _ _ hsz _ _ _
 exact mtypes_contract H enc W base args ds gs before hval hW hsz
theorem mtypes_named : Tryz.pinned.checked.prog.funcNamed Rows.messageTypesRow.func = some 3 := by kernel_rfl
theorem mtypes_said : Rows.MessageTypesSaid :=
 OpenClaim.holds_of_cond 3 Tryz.f3 rfl rfl rfl rfl rfl rfl rfl ⟨rfl, rfl, rfl, rfl, rfl⟩ rfl rfl rfl rfl rfl mtypes_named Tryz.func3 mtypes_joined
  (of_decide_eq_true (by kernel_rfl)) (by unfold Func.isWrapper; first | (rw [if_pos (by decide +kernel)]; kernel_rfl) | (rw [if_neg (by decide +kernel)]; exact ⟨rfl, rfl⟩))
  (fun os started H enc _ F => by rw [OpenClaim.pre_eq_preRow]; exact mtypes_lifted os started H enc F)
theorem mtypes_plain (f : FuncId) (fn : Func) (hf : Tryz.pinned.checked.prog.funcNamed Rows.messageTypesRow.func = some f) (hfn : Tryz.pinned.checked.prog.funcs[f]? = some fn) :
 true = Tryz.pinned.checked.prog.looks [] ∧ ∀ (j : Nat) t, fn.params[j]? = some t → Tryz.pinned.checked.prog.wantsStandIn t = false := by
 obtain rfl : f = 3 := Option.some.inj ((show Tryz.prog.funcNamed Rows.messageTypesRow.func = some 3 by kernel_rfl).symm.trans hf) |>.symm
 obtain rfl : fn = Tryz.f3 := (Option.some.inj (Tryz.func3.symm.trans hfn)).symm
 refine ⟨by kernel_rfl, fun j t ht => ?_⟩
 rw [Tryz.params3] at ht
 have hm := Array.mem_of_getElem? ht
 simp at hm
 rcases hm with rfl | rfl | rfl
 · exact (show Tryz.prog.wantsStandIn 22 = false by kernel_rfl)
 · exact (show Tryz.prog.wantsStandIn 23 = false by kernel_rfl)
 · exact (show Tryz.prog.wantsStandIn 3 = false by kernel_rfl)
theorem mtypes_card : Rows.MessageTypesCardSaid :=
 Claim7.holds_tied_plain_at .later [] _ _ _ _ mtypes_said (fun _ h => by cases h) (by kernel_rfl) (fun _ h => by cases h) messageTypes_row_tie rfl ⟨rfl, rfl⟩ (by kernel_rfl) rfl mtypes_plain (by kernel_rfl)

end Go.Proofs.YtoeieekegmmdkaaGreatDoor

