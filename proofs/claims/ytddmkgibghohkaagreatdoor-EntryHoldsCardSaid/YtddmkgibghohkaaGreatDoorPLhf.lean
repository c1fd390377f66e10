/- EntryHolds, the stage's theorem: for every entry and key set the law answers true, and its arguments read as they did. -/
import Derived.Test.YtddmkgibghohkaaGreatDoorPLh
import Derived.Test.YtddmkgibghohkaaGreatDoorPRw
import Derived.Test.YtddmkgibghohkaaGreatDoorPJb
set_option linter.unusedSimpArgs false
set_option linter.unusedVariables false
namespace Go.Proofs.YtddmkgibghohkaaGreatDoor
open Go Go.Sx Go.ChangeShapes Go.WideShapes Go.ChangeAt Go.RowKit
set_option maxRecDepth 100000
theorem holds_k1 : (Rows.entryHoldsRow.wf (OpenSpec.ofChange Rows.entryHoldsSpec)) = true := by kernel_rfl
theorem holds_k4 : (Tryz.f9.params.all (Tryz.prog.readableRec ·)) = true := by kernel_rfl
theorem holds_k5 : (namedTie Tryz.prog Rows.entryHoldsRow.named Rows.entryHoldsSpec.vars) = true := by kernel_rfl
theorem holds_k6 : ((Rows.entryHoldsRow.stops == [])) = true := by kernel_rfl
theorem holds_k8 : ((Rows.entryHoldsRow.knobs == [])) = true := by kernel_rfl
theorem holds_k10 : ((Rows.entryHoldsRow.inPlace == Tryz.prog.inPlace 9)) = true := by kernel_rfl
theorem holds_k11 : ((Rows.entryHoldsRow.unfollowed == Tryz.prog.unfollowed 9)) = true := by kernel_rfl
theorem holds_k12 : ((Rows.entryHoldsRow.recurses == Tryz.prog.recurses 9)) = true := by kernel_rfl
theorem holds_k13 : ((Rows.entryHoldsRow.named == Tryz.prog.varsNamed 9)) = true := by kernel_rfl
theorem holds_k14 : ((Rows.entryHoldsRow.maps == (Tryz.f9.params.toList ++ Rows.entryHoldsSpec.plain.varTypes Tryz.prog).any (Tryz.prog.mapsRec ·))) = true := by kernel_rfl
theorem holds_k15 : ((Rows.entryHoldsRow.ifaces == (Tryz.f9.params.toList ++ Rows.entryHoldsSpec.plain.varTypes Tryz.prog).any (Tryz.prog.ifacesRec ·))) = true := by kernel_rfl
theorem holds_k16 : ((Rows.entryHoldsRow.mapsOut == Tryz.prog.mapsAmong Tryz.f9.resultTypes.toList)) = true := by kernel_rfl
theorem holds_k17 : ((Rows.entryHoldsRow.loops == (Tryz.f9.params.toList ++ Rows.entryHoldsSpec.plain.varTypes Tryz.prog).any (Tryz.prog.loopsFrom ·))) = true := by kernel_rfl
theorem holds_k18 : ((Rows.entryHoldsRow.wideKeys == (Tryz.f9.params.toList ++ Rows.entryHoldsSpec.plain.varTypes Tryz.prog ++ Tryz.f9.resultTypes.toList).any (Tryz.prog.wideKeysFrom ·))) = true := by kernel_rfl
theorem holds_k19 : (Rows.entryHoldsSpec.vars.all (Tryz.prog.varReadable ·)) = true := by kernel_rfl
theorem holds_k20 : (Tryz.f9.resultTypes.all (fun t => Tryz.prog.readableRec t && decide (t < Tryz.prog.types.size))) = true := by kernel_rfl
theorem holds_k21 : ((Rows.entryHoldsRow.ifacesOut == Tryz.f9.resultTypes.toList.any (Tryz.prog.ifacesRec ·))) = true := by kernel_rfl
theorem holds_k22 : ((Rows.entryHoldsRow.loopsOut == Tryz.f9.resultTypes.toList.any (Tryz.prog.loopsFrom ·))) = true := by kernel_rfl
theorem holds_k23 : ((Rows.entryHoldsRow.plainKeys == Tryz.prog.plainKeys)) = true := by kernel_rfl
theorem holds_k24 : (Rows.entryHoldsRow.shortTexts.isNone) = true := by kernel_rfl
theorem holds_k27 : ((Rows.entryHoldsRow.lifted == Tryz.prog.liftsFinal)) = true := by kernel_rfl
theorem holds_k28 : ((Tryz.prog.make == some Rows.entryHoldsRow.make)) = true := by kernel_rfl
theorem holds_k29 : ((Rows.entryHoldsRow.kinds == (if Rows.entryHoldsRow.domain.isEmpty then [] else Tryz.f9.params.toList.map fun t => match Tryz.prog.underlying t with | some (.int k) => some k | _ => none))) = true := by kernel_rfl
theorem holds_k30 : ((Rows.entryHoldsRow.pinned == Rows.entryHoldsRow.pinnedBy)) = true := by kernel_rfl
theorem holds_k31 : ((Rows.entryHoldsRow.veiled == (Tryz.f9.params.toList ++ Rows.entryHoldsSpec.plain.varTypes Tryz.prog ++ Tryz.f9.resultTypes.toList).any (Tryz.prog.veiledRec ·))) = true := by kernel_rfl
theorem holds_k32 : (Rows.entryHoldsRow.veiledFits Tryz.prog Tryz.f9.params.toList (Tryz.f9.params.toList ++ Rows.entryHoldsSpec.plain.varTypes Tryz.prog ++ Tryz.f9.resultTypes.toList)) = true := by kernel_rfl
theorem holds_joined : joinedFacts Tryz.prog 9 Tryz.f9 Rows.entryHoldsSpec Rows.entryHoldsRow = true :=
 joined_mk holds_k1 base_k2 base_k3 holds_k4 holds_k5 holds_k6 base_k7 holds_k8 base_k9 holds_k10 holds_k11 holds_k12 holds_k13 holds_k14 holds_k15 holds_k16 holds_k17 holds_k18 holds_k19 holds_k20 holds_k21 holds_k22 holds_k23 holds_k24 base_k25 base_k26 holds_k27 holds_k28 holds_k29 holds_k30 holds_k31 holds_k32
theorem holds_params : ∀ t ∈ Tryz.f9.params.toList, Tryz.prog.readableRec t = true ∧ t < Tryz.prog.types.size := by
 rw [Tryz.params9]
 intro t ht
 simp at ht
 rcases ht with rfl | rfl
 · exact ⟨by kernel_rfl, of_decide_eq_true (by kernel_rfl)⟩
 · exact ⟨by kernel_rfl, of_decide_eq_true (by kernel_rfl)⟩
theorem holds_contract (H : Type) (enc : TypeId × Value → H) (W : World) (base : Nat) (args : Array Value) (ds gs : List (DataW H)) (before : List MemPlace)
 (hval : ∀ (j : Nat) t v, Tryz.f9.params[j]? = some t → args[j]? = some v → Value.okWide Tryz.prog W .any base t v)
 (hW : DataW.Whole enc Tryz.prog Tryz.f9.params.toList Rows.entryHoldsSpec.vars false W args.toList ds gs before)
 (hsz : (DataW.weightsEach Tryz.prog (Tryz.f9.params.toList ++ (OpenSpec.ofChange Rows.entryHoldsSpec).bare.plain.varTypes Tryz.prog) (ds ++ gs)).all (· ≤ reachBytes) = true) :
 Calls Tryz.prog 9 args W fun e W' => ∃ v, e = .returned v ∧ Rows.entryHoldsSpec.post enc Tryz.prog Tryz.f9 false true false false W args v W' := by
 have hW' := hW
 obtain ⟨p, q, hA0, hV, rfl, hfz, hnd⟩ := hW
 have hA : DataW.TrodAll enc Tryz.prog W 0 (fun _ => true) true Tryz.f9.params.toList args.toList ds p := hA0
 rw [Tryz.params9] at hA hval hsz
 obtain ⟨v0, v1, d0, d1, p0, p1, rfl, rfl, rfl, h0, h1⟩ := trodAll_two hA
 obtain ⟨rfl, rfl⟩ := trodVars_none hV
 have hw : (DataW.weightsEach Tryz.prog [31, 34] [d0, d1]).all (· ≤ reachBytes) = true := hsz
 simp only [DataW.weightsEach] at hw
 obtain ⟨x0, e0, o0, r0⟩ := arg_struct Tryz.underlying31 tyEnt (hval 0 31 v0 rfl rfl) h0 (all_append_le hw).1
 obtain ⟨x1, e1, o1, r1⟩ := arg_struct Tryz.underlying34 tySet (hval 1 34 v1 rfl rfl) h1 (all_append_le (all_append_le hw).2).1
 have hden : SV.denL (Cx.top W) [.agg ((EntT).cells x0), .agg ((SetT).cells x1)] [v0, v1] :=
  denL_cons.2 ⟨_, _, rfl, e0, denL_cons.2 ⟨_, _, rfl, e1, denL_nil.2 rfl⟩⟩
 refine (calls_of_pc (holds_law x0 x1 o0 o1 r0.2.2.1) hden).mono fun e W' ⟨he, hb⟩ => ⟨_, he, ?_⟩
 exact law_post laidOutK holds_params (by kernel_rfl) Tryz.underlying4 rfl hW' rfl hb
theorem holds_met (os : Os) : laidMet Tryz.prog Rows.entryHoldsRow.laid ((laidWorld os).forCall (fun _ _ => 0) ⟨#[], #[zEnt, zSet], []⟩).memory :=
 laidMet_of_run' 8 (by kernel_rfl) (by kernel_rfl)
theorem holds_reads (os : Os) {H : Type} (enc : TypeId × Value → H) : ∃ places, DataW.whole enc Tryz.prog ((laidWorld os).forCall (fun _ _ => 0) ⟨#[], #[zEnt, zSet], []⟩).memory Tryz.f9.params.toList Rows.entryHoldsSpec.vars false #[zEnt, zSet].toList 8 = some ([dEnt, dSet], [], places) :=
 ⟨[], by kernel_rfl⟩
theorem holds_lifted (os : Os) (started : os.Started) (H : Type) (enc : TypeId × Value → H) (F : Stop.Interp) :
 ReturnsInHanded {} Tryz.checked os 9 .any ((OpenSpec.ofChange Rows.entryHoldsSpec).preRow enc Tryz.prog Tryz.f9 Rows.entryHoldsRow.domain false Rows.entryHoldsRow.laid) (((OpenSpec.ofChange Rows.entryHoldsSpec).at F).post enc Tryz.prog Tryz.f9 false true false false) := by
 obtain ⟨places, hx⟩ := holds_reads os enc
 refine returnsInHanded_of_row (C := Tryz.checked) (s := OpenSpec.ofChange Rows.entryHoldsSpec) ownK started (by kernel_rfl) Tryz.func9
  (witness_row_at (enc := enc) (C := Tryz.checked) false (laidWorld os) #[zEnt, zSet] rfl (by kernel_rfl) (by kernel_rfl) (by kernel_rfl)
   (OpenSpec.preRow_of_cond 8 hx (by kernel_rfl) (fun k hk => by cases hk) (by kernel_rfl) (holds_met os))) ?_
 intro W base args ds gs before hval hW _ _ hsz _ _ _
 exact holds_contract H enc W base args ds gs before hval hW hsz
theorem holds_named : Tryz.pinned.checked.prog.funcNamed Rows.entryHoldsRow.func = some 9 := by kernel_rfl
theorem holds_said : Rows.EntryHoldsSaid :=
 OpenClaim.holds_of_cond 9 Tryz.f9 rfl rfl rfl rfl rfl rfl rfl ⟨rfl, rfl, rfl, rfl, rfl⟩ rfl rfl rfl rfl rfl holds_named Tryz.func9 holds_joined
  (of_decide_eq_true (by kernel_rfl)) (by unfold Func.isWrapper; first | (rw [if_pos (by decide +kernel)]; kernel_rfl) | (rw [if_neg (by decide +kernel)]; exact ⟨rfl, rfl⟩))
  (fun os started H enc _ F => by rw [OpenClaim.pre_eq_preRow]; exact holds_lifted os started H enc F)
theorem holds_plain (f : FuncId) (fn : Func) (hf : Tryz.pinned.checked.prog.funcNamed Rows.entryHoldsRow.func = some f) (hfn : Tryz.pinned.checked.prog.funcs[f]? = some fn) :
 true = Tryz.pinned.checked.prog.looks [] ∧ ∀ (j : Nat) t, fn.params[j]? = some t → Tryz.pinned.checked.prog.wantsStandIn t = false := by
 obtain rfl : f = 9 := Option.some.inj ((show Tryz.prog.funcNamed Rows.entryHoldsRow.func = some 9 by kernel_rfl).symm.trans hf) |>.symm
 obtain rfl : fn = Tryz.f9 := (Option.some.inj (Tryz.func9.symm.trans hfn)).symm
 refine ⟨by kernel_rfl, fun j t ht => ?_⟩
 rw [Tryz.params9] at ht
 have hm := Array.mem_of_getElem? ht
 simp at hm
 rcases hm with rfl | rfl
 · exact (show Tryz.prog.wantsStandIn 31 = false by kernel_rfl)
 · exact (show Tryz.prog.wantsStandIn 34 = false by kernel_rfl)
theorem holds_card : Rows.EntryHoldsCardSaid :=
 Claim7.holds_tied_plain_at .later [] _ _ _ _ holds_said (fun _ h => by cases h) (by kernel_rfl) (fun _ h => by cases h) entryHolds_row_tie rfl ⟨rfl, rfl⟩ (by kernel_rfl) rfl holds_plain (by kernel_rfl)

end Go.Proofs.YtddmkgibghohkaaGreatDoor
