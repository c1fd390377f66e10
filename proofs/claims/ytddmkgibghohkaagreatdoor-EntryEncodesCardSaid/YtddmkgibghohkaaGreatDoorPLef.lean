/- EntryEncodes: for every entry and all bytes the law answers true, and its arguments read as they did. -/
import Derived.Test.YtddmkgibghohkaaGreatDoorP30
import Derived.Test.YtddmkgibghohkaaGreatDoorPRw
import Derived.Test.YtddmkgibghohkaaGreatDoorPJb
set_option linter.unusedSimpArgs false
set_option linter.unusedVariables false
namespace Go.Proofs.YtddmkgibghohkaaGreatDoor
open Go Go.Sx Go.ChangeShapes Go.WideShapes Go.ChangeAt Go.RowKit
set_option maxRecDepth 100000
theorem encodes_k1 : (Rows.entryEncodesRow.wf (OpenSpec.ofChange Rows.entryEncodesSpec)) = true := by kernel_rfl
theorem encodes_k4 : (Tryz.f8.params.all (Tryz.prog.readableRec ·)) = true := by kernel_rfl
theorem encodes_k5 : (namedTie Tryz.prog Rows.entryEncodesRow.named Rows.entryEncodesSpec.vars) = true := by kernel_rfl
theorem encodes_k6 : ((Rows.entryEncodesRow.stops == [])) = true := by kernel_rfl
theorem encodes_k8 : ((Rows.entryEncodesRow.knobs == [])) = true := by kernel_rfl
theorem encodes_k10 : ((Rows.entryEncodesRow.inPlace == Tryz.prog.inPlace 8)) = true := by kernel_rfl
theorem encodes_k11 : ((Rows.entryEncodesRow.unfollowed == Tryz.prog.unfollowed 8)) = true := by kernel_rfl
theorem encodes_k12 : ((Rows.entryEncodesRow.recurses == Tryz.prog.recurses 8)) = true := by kernel_rfl
theorem encodes_k13 : ((Rows.entryEncodesRow.named == Tryz.prog.varsNamed 8)) = true := by kernel_rfl
theorem encodes_k14 : ((Rows.entryEncodesRow.maps == (Tryz.f8.params.toList ++ Rows.entryEncodesSpec.plain.varTypes Tryz.prog).any (Tryz.prog.mapsRec ·))) = true := by kernel_rfl
theorem encodes_k15 : ((Rows.entryEncodesRow.ifaces == (Tryz.f8.params.toList ++ Rows.entryEncodesSpec.plain.varTypes Tryz.prog).any (Tryz.prog.ifacesRec ·))) = true := by kernel_rfl
theorem encodes_k16 : ((Rows.entryEncodesRow.mapsOut == Tryz.prog.mapsAmong Tryz.f8.resultTypes.toList)) = true := by kernel_rfl
theorem encodes_k17 : ((Rows.entryEncodesRow.loops == (Tryz.f8.params.toList ++ Rows.entryEncodesSpec.plain.varTypes Tryz.prog).any (Tryz.prog.loopsFrom ·))) = true := by kernel_rfl
theorem encodes_k18 : ((Rows.entryEncodesRow.wideKeys == (Tryz.f8.params.toList ++ Rows.entryEncodesSpec.plain.varTypes Tryz.prog ++ Tryz.f8.resultTypes.toList).any (Tryz.prog.wideKeysFrom ·))) = true := by kernel_rfl
theorem encodes_k19 : (Rows.entryEncodesSpec.vars.all (Tryz.prog.varReadable ·)) = true := by kernel_rfl
theorem encodes_k20 : (Tryz.f8.resultTypes.all (fun t => Tryz.prog.readableRec t && decide (t < Tryz.prog.types.size))) = true := by kernel_rfl
theorem encodes_k21 : ((Rows.entryEncodesRow.ifacesOut == Tryz.f8.resultTypes.toList.any (Tryz.prog.ifacesRec ·))) = true := by kernel_rfl
theorem encodes_k22 : ((Rows.entryEncodesRow.loopsOut == Tryz.f8.resultTypes.toList.any (Tryz.prog.loopsFrom ·))) = true := by kernel_rfl
theorem encodes_k23 : ((Rows.entryEncodesRow.plainKeys == Tryz.prog.plainKeys)) = true := by kernel_rfl
theorem encodes_k24 : (Rows.entryEncodesRow.shortTexts.isNone) = true := by kernel_rfl
theorem encodes_k27 : ((Rows.entryEncodesRow.lifted == Tryz.prog.liftsFinal)) = true := by kernel_rfl
theorem encodes_k28 : ((Tryz.prog.make == some Rows.entryEncodesRow.make)) = true := by kernel_rfl
theorem encodes_k29 : ((Rows.entryEncodesRow.kinds == (if Rows.entryEncodesRow.domain.isEmpty then [] else Tryz.f8.params.toList.map fun t => match Tryz.prog.underlying t with | some (.int k) => some k | _ => none))) = true := by kernel_rfl
theorem encodes_k30 : ((Rows.entryEncodesRow.pinned == Rows.entryEncodesRow.pinnedBy)) = true := by kernel_rfl
theorem encodes_k31 : ((Rows.entryEncodesRow.veiled == (Tryz.f8.params.toList ++ Rows.entryEncodesSpec.plain.varTypes Tryz.prog ++ Tryz.f8.resultTypes.toList).any (Tryz.prog.veiledRec ·))) = true := by kernel_rfl
theorem encodes_k32 : (Rows.entryEncodesRow.veiledFits Tryz.prog Tryz.f8.params.toList (Tryz.f8.params.toList ++ Rows.entryEncodesSpec.plain.varTypes Tryz.prog ++ Tryz.f8.resultTypes.toList)) = true := by kernel_rfl
theorem encodes_joined : joinedFacts Tryz.prog 8 Tryz.f8 Rows.entryEncodesSpec Rows.entryEncodesRow = true :=
 joined_mk encodes_k1 base_k2 base_k3 encodes_k4 encodes_k5 encodes_k6 base_k7 encodes_k8 base_k9 encodes_k10 encodes_k11 encodes_k12 encodes_k13 encodes_k14 encodes_k15 encodes_k16 encodes_k17 encodes_k18 encodes_k19 encodes_k20 encodes_k21 encodes_k22 encodes_k23 encodes_k24 base_k25 base_k26 encodes_k27 encodes_k28 encodes_k29 encodes_k30 encodes_k31 encodes_k32
theorem encodes_params : ∀ t ∈ Tryz.f8.params.toList, Tryz.prog.readableRec t = true ∧ t < Tryz.prog.types.size := by
 rw [Tryz.params8]
 intro t ht
 simp at ht
 rcases ht with rfl | rfl
 · exact ⟨by kernel_rfl, of_decide_eq_true (by kernel_rfl)⟩
 · exact ⟨by kernel_rfl, of_decide_eq_true (by kernel_rfl)⟩
theorem encodes_contract (H : Type) (enc : TypeId × Value → H) (W : World) (base : Nat) (args : Array Value) (ds gs : List (DataW H)) (before : List MemPlace)
 (hval : ∀ (j : Nat) t v, Tryz.f8.params[j]? = some t → args[j]? = some v → Value.okWide Tryz.prog W .any base t v)
 (hW : DataW.Whole enc Tryz.prog Tryz.f8.params.toList Rows.entryEncodesSpec.vars false W args.toList ds gs before)
 (hsz : (DataW.weightsEach Tryz.prog (Tryz.f8.params.toList ++ (OpenSpec.ofChange Rows.entryEncodesSpec).bare.plain.varTypes Tryz.prog) (ds ++ gs)).all (· ≤ reachBytes) = true) :
 Calls Tryz.prog 8 args W fun e W' => ∃ v, e = .returned v ∧ Rows.entryEncodesSpec.post enc Tryz.prog Tryz.f8 false true false false W args v W' := by
 have hW' := hW
 obtain ⟨p, q, hA0, hV, rfl, hfz, hnd⟩ := hW
 have hA : DataW.TrodAll enc Tryz.prog W 0 (fun _ => true) true Tryz.f8.params.toList args.toList ds p := hA0
 rw [Tryz.params8] at hA hval hsz
 obtain ⟨v0, v1, d0, d1, p0, p1, rfl, rfl, rfl, h0, h1⟩ := trodAll_two hA
 obtain ⟨rfl, rfl⟩ := trodVars_none hV
 have hw : (DataW.weightsEach Tryz.prog [31, 48] [d0, d1]).all (· ≤ reachBytes) = true := hsz
 simp only [DataW.weightsEach] at hw
 obtain ⟨x0, e0, o0, r0⟩ := arg_struct Tryz.underlying31 tyEnt (hval 0 31 v0 rfl rfl) h0 (all_append_le hw).1
 obtain ⟨x1, e1, o1, r1⟩ := arg_slice (show Tryz.prog.underlying 48 = some (.slice 5) by kernel_rfl) (show tyRd Tryz.prog 8 48 = some (.slice (.u8)) by kernel_rfl) (hval 1 48 v1 rfl rfl) h1 (all_append_le (all_append_le hw).2).1
 have hden : SV.denL (Cx.top W) [.agg ((EntT).cells x0), .isl (.u8) x1] [v0, v1] :=
  denL_cons.2 ⟨_, _, rfl, e0, denL_cons.2 ⟨_, _, rfl, e1, denL_nil.2 rfl⟩⟩
 refine (calls_of_pc (encodes_law x0 o0 r0.2.2.1 x1) hden).mono fun e W' ⟨he, hb⟩ => ⟨_, he, ?_⟩
 exact law_post laidOutK encodes_params (by kernel_rfl) Tryz.underlying4 rfl hW' rfl hb
theorem encodes_met (os : Os) : laidMet Tryz.prog Rows.entryEncodesRow.laid ((laidWorld os).forCall (fun _ _ => 0) ⟨#[], #[zEnt, .slice none 0 0], []⟩).memory :=
 laidMet_of_run' 8 (by kernel_rfl) (by kernel_rfl)
theorem encodes_reads (os : Os) {H : Type} (enc : TypeId × Value → H) : ∃ places, DataW.whole enc Tryz.prog ((laidWorld os).forCall (fun _ _ => 0) ⟨#[], #[zEnt, .slice none 0 0], []⟩).memory Tryz.f8.params.toList Rows.entryEncodesSpec.vars false #[zEnt, Value.slice none 0 0].toList 8 = some ([dEnt, .nil], [], places) :=
 ⟨[], by kernel_rfl⟩
theorem encodes_lifted (os : Os) (started : os.Started) (H : Type) (enc : TypeId × Value → H) (F : Stop.Interp) :
 ReturnsInHanded {} Tryz.checked os 8 .any ((OpenSpec.ofChange Rows.entryEncodesSpec).preRow enc Tryz.prog Tryz.f8 Rows.entryEncodesRow.domain false Rows.entryEncodesRow.laid) (((OpenSpec.ofChange Rows.entryEncodesSpec).at F).post enc Tryz.prog Tryz.f8 false true false false) := by
 obtain ⟨places, hx⟩ := encodes_reads os enc
 refine returnsInHanded_of_row (C := Tryz.checked) (s := OpenSpec.ofChange Rows.entryEncodesSpec) ownK started (by kernel_rfl) Tryz.func8
  (witness_row_at (enc := enc) (C := Tryz.checked) false (laidWorld os) #[zEnt, .slice none 0 0] rfl (by kernel_rfl) (by kernel_rfl) (by kernel_rfl)
   (OpenSpec.preRow_of_cond 8 hx (by kernel_rfl) (fun k hk => by cases hk) (by kernel_rfl) (encodes_met os))) ?_
 intro W base args ds gs before hval hW _ _ hsz _ _ _
 exact encodes_contract H enc W base args ds gs before hval hW hsz
theorem encodes_named : Tryz.pinned.checked.prog.funcNamed Rows.entryEncodesRow.func = some 8 := by kernel_rfl
theorem encodes_said : Rows.EntryEncodesSaid :=
 OpenClaim.holds_of_cond 8 Tryz.f8 rfl rfl rfl rfl rfl rfl rfl ⟨rfl, rfl, rfl, rfl, rfl⟩ rfl rfl rfl rfl rfl encodes_named Tryz.func8 encodes_joined
  (of_decide_eq_true (by kernel_rfl)) (by unfold Func.isWrapper; first | (rw [if_pos (by decide +kernel)]; kernel_rfl) | (rw [if_neg (by decide +kernel)]; exact ⟨rfl, rfl⟩))
  (fun os started H enc _ F => by rw [OpenClaim.pre_eq_preRow]; exact encodes_lifted os started H enc F)
theorem encodes_plain (f : FuncId) (fn : Func) (hf : Tryz.pinned.checked.prog.funcNamed Rows.entryEncodesRow.func = some f) (hfn : Tryz.pinned.checked.prog.funcs[f]? = some fn) :
 true = Tryz.pinned.checked.prog.looks [] ∧ ∀ (j : Nat) t, fn.params[j]? = some t → Tryz.pinned.checked.prog.wantsStandIn t = false := by
 obtain rfl : f = 8 := Option.some.inj ((show Tryz.prog.funcNamed Rows.entryEncodesRow.func = some 8 by kernel_rfl).symm.trans hf) |>.symm
 obtain rfl : fn = Tryz.f8 := (Option.some.inj (Tryz.func8.symm.trans hfn)).symm
 refine ⟨by kernel_rfl, fun j t ht => ?_⟩
 rw [Tryz.params8] at ht
 have hm := Array.mem_of_getElem? ht
 simp at hm
 rcases hm with rfl | rfl
 · exact (show Tryz.prog.wantsStandIn 31 = false by kernel_rfl)
 · exact (show Tryz.prog.wantsStandIn 48 = false by kernel_rfl)
theorem encodes_card : Rows.EntryEncodesCardSaid :=
 Claim7.holds_tied_plain_at .later [] _ _ _ _ encodes_said (fun _ h => by cases h) (by kernel_rfl) (fun _ h => by cases h) entryEncodes_row_tie rfl ⟨rfl, rfl⟩ (by kernel_rfl) rfl encodes_plain (by kernel_rfl)

end Go.Proofs.YtddmkgibghohkaaGreatDoor
