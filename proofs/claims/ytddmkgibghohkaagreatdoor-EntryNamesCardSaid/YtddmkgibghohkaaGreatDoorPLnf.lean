/- EntryNames: for every entry and every number the law answers true, and its arguments read as they did. -/
import Derived.Test.YtddmkgibghohkaaGreatDoorP26
import Derived.Test.YtddmkgibghohkaaGreatDoorPRw
import Derived.Test.YtddmkgibghohkaaGreatDoorPJb
set_option linter.unusedSimpArgs false
set_option linter.unusedVariables false
set_option linter.unusedSectionVars false
namespace Go.Proofs.YtddmkgibghohkaaGreatDoor
open Go Go.Sx Go.ChangeShapes Go.WideShapes Go.ChangeAt Go.RowKit
set_option maxRecDepth 100000
theorem nm_k1 : (Rows.entryNamesRow.wf (OpenSpec.ofChange Rows.entryNamesSpec)) = true := by kernel_rfl
theorem nm_k4 : (Tryz.f5.params.all (Tryz.prog.readableRec ·)) = true := by kernel_rfl
theorem nm_k5 : (namedTie Tryz.prog Rows.entryNamesRow.named Rows.entryNamesSpec.vars) = true := by kernel_rfl
theorem nm_k6 : ((Rows.entryNamesRow.stops == [])) = true := by kernel_rfl
theorem nm_k8 : ((Rows.entryNamesRow.knobs == [])) = true := by kernel_rfl
theorem nm_k10 : ((Rows.entryNamesRow.inPlace == Tryz.prog.inPlace 5)) = true := by kernel_rfl
theorem nm_k11 : ((Rows.entryNamesRow.unfollowed == Tryz.prog.unfollowed 5)) = true := by kernel_rfl
theorem nm_k12 : ((Rows.entryNamesRow.recurses == Tryz.prog.recurses 5)) = true := by kernel_rfl
theorem nm_k13 : ((Rows.entryNamesRow.named == Tryz.prog.varsNamed 5)) = true := by kernel_rfl
theorem nm_k14 : ((Rows.entryNamesRow.maps == (Tryz.f5.params.toList ++ Rows.entryNamesSpec.plain.varTypes Tryz.prog).any (Tryz.prog.mapsRec ·))) = true := by kernel_rfl
theorem nm_k15 : ((Rows.entryNamesRow.ifaces == (Tryz.f5.params.toList ++ Rows.entryNamesSpec.plain.varTypes Tryz.prog).any (Tryz.prog.ifacesRec ·))) = true := by kernel_rfl
theorem nm_k16 : ((Rows.entryNamesRow.mapsOut == Tryz.prog.mapsAmong Tryz.f5.resultTypes.toList)) = true := by kernel_rfl
theorem nm_k17 : ((Rows.entryNamesRow.loops == (Tryz.f5.params.toList ++ Rows.entryNamesSpec.plain.varTypes Tryz.prog).any (Tryz.prog.loopsFrom ·))) = true := by kernel_rfl
theorem nm_k18 : ((Rows.entryNamesRow.wideKeys == (Tryz.f5.params.toList ++ Rows.entryNamesSpec.plain.varTypes Tryz.prog ++ Tryz.f5.resultTypes.toList).any (Tryz.prog.wideKeysFrom ·))) = true := by kernel_rfl
theorem nm_k19 : (Rows.entryNamesSpec.vars.all (Tryz.prog.varReadable ·)) = true := by kernel_rfl
theorem nm_k20 : (Tryz.f5.resultTypes.all (fun t => Tryz.prog.readableRec t && decide (t < Tryz.prog.types.size))) = true := by kernel_rfl
theorem nm_k21 : ((Rows.entryNamesRow.ifacesOut == Tryz.f5.resultTypes.toList.any (Tryz.prog.ifacesRec ·))) = true := by kernel_rfl
theorem nm_k22 : ((Rows.entryNamesRow.loopsOut == Tryz.f5.resultTypes.toList.any (Tryz.prog.loopsFrom ·))) = true := by kernel_rfl
theorem nm_k23 : ((Rows.entryNamesRow.plainKeys == Tryz.prog.plainKeys)) = true := by kernel_rfl
theorem nm_k24 : (Rows.entryNamesRow.shortTexts.isNone) = true := by kernel_rfl
theorem nm_k27 : ((Rows.entryNamesRow.lifted == Tryz.prog.liftsFinal)) = true := by kernel_rfl
theorem nm_k28 : ((Tryz.prog.make == some Rows.entryNamesRow.make)) = true := by kernel_rfl
theorem nm_k29 : ((Rows.entryNamesRow.kinds == (if Rows.entryNamesRow.domain.isEmpty then [] else Tryz.f5.params.toList.map fun t => match Tryz.prog.underlying t with | some (.int k) => some k | _ => none))) = true := by kernel_rfl
theorem nm_k30 : ((Rows.entryNamesRow.pinned == Rows.entryNamesRow.pinnedBy)) = true := by kernel_rfl
theorem nm_k31 : ((Rows.entryNamesRow.veiled == (Tryz.f5.params.toList ++ Rows.entryNamesSpec.plain.varTypes Tryz.prog ++ Tryz.f5.resultTypes.toList).any (Tryz.prog.veiledRec ·))) = true := by kernel_rfl
theorem nm_k32 : (Rows.entryNamesRow.veiledFits Tryz.prog Tryz.f5.params.toList (Tryz.f5.params.toList ++ Rows.entryNamesSpec.plain.varTypes Tryz.prog ++ Tryz.f5.resultTypes.toList)) = true := by kernel_rfl
theorem nm_joined : joinedFacts Tryz.prog 5 Tryz.f5 Rows.entryNamesSpec Rows.entryNamesRow = true :=
 joined_mk nm_k1 base_k2 base_k3 nm_k4 nm_k5 nm_k6 base_k7 nm_k8 base_k9 nm_k10 nm_k11 nm_k12 nm_k13 nm_k14 nm_k15 nm_k16 nm_k17 nm_k18 nm_k19 nm_k20 nm_k21 nm_k22 nm_k23 nm_k24 base_k25 base_k26 nm_k27 nm_k28 nm_k29 nm_k30 nm_k31 nm_k32
theorem nm_params : ∀ t ∈ Tryz.f5.params.toList, Tryz.prog.readableRec t = true ∧ t < Tryz.prog.types.size := by
 rw [Tryz.params5]
 intro t ht
 simp at ht
 rcases ht with rfl | rfl
 · exact ⟨by kernel_rfl, of_decide_eq_true (by kernel_rfl)⟩
 · exact ⟨by kernel_rfl, of_decide_eq_true (by kernel_rfl)⟩
theorem nm_contract (H : Type) (enc : TypeId × Value → H) (W : World) (base : Nat) (args : Array Value) (ds gs : List (DataW H)) (before : List MemPlace)
 (hval : ∀ (j : Nat) t v, Tryz.f5.params[j]? = some t → args[j]? = some v → Value.okWide Tryz.prog W .any base t v)
 (hW : DataW.Whole enc Tryz.prog Tryz.f5.params.toList Rows.entryNamesSpec.vars false W args.toList ds gs before)
 (hsz : (DataW.weightsEach Tryz.prog (Tryz.f5.params.toList ++ (OpenSpec.ofChange Rows.entryNamesSpec).bare.plain.varTypes Tryz.prog) (ds ++ gs)).all (· ≤ reachBytes) = true) :
 Calls Tryz.prog 5 args W fun e W' => ∃ v, e = .returned v ∧ Rows.entryNamesSpec.post enc Tryz.prog Tryz.f5 false true false false W args v W' := by
 have hW' := hW
 obtain ⟨p, q, hA0, hV, rfl, hfz, hnd⟩ := hW
 have hA : DataW.TrodAll enc Tryz.prog W 0 (fun _ => true) true Tryz.f5.params.toList args.toList ds p := hA0
 rw [Tryz.params5] at hA hval hsz
 obtain ⟨v0, v1, d0, d1, p0, p1, rfl, rfl, rfl, h0, h1⟩ := trodAll_two hA
 obtain ⟨rfl, rfl⟩ := trodVars_none hV
 have hw : (DataW.weightsEach Tryz.prog [31, 3] [d0, d1]).all (· ≤ reachBytes) = true := hsz
 simp only [DataW.weightsEach] at hw
 obtain ⟨x0, e0, o0, r0⟩ := arg_struct Tryz.underlying31 tyEnt (hval 0 31 v0 rfl rfl) h0 (all_append_le hw).1
 obtain ⟨x1, rfl, rfl, rfl, _⟩ := open_int Tryz.underlying3 (hval 1 3 v1 rfl rfl) h1
 have hden : SV.denL (Cx.top W) [.agg ((EntT).cells x0), rI x1] [v0, (.int .i64 x1)] :=
  denL_cons.2 ⟨_, _, rfl, e0, denL_cons.2 ⟨_, _, rfl, by rw [SV.den], denL_nil.2 rfl⟩⟩
 refine (calls_of_pc (names_l x0 x1 o0) hden).mono fun e W' ⟨he, hb⟩ => ⟨_, he, ?_⟩
 exact law_post laidOutK nm_params (by kernel_rfl) Tryz.underlying4 rfl hW' rfl hb
theorem nm_met (os : Os) : laidMet Tryz.prog Rows.entryNamesRow.laid ((laidWorld os).forCall (fun _ _ => 0) ⟨#[], #[zEnt, .int .i64 0], []⟩).memory :=
 laidMet_of_run' 8 (by kernel_rfl) (by kernel_rfl)
theorem nm_reads (os : Os) {H : Type} (enc : TypeId × Value → H) : ∃ places, DataW.whole enc Tryz.prog ((laidWorld os).forCall (fun _ _ => 0) ⟨#[], #[zEnt, .int .i64 0], []⟩).memory Tryz.f5.params.toList Rows.entryNamesSpec.vars false #[zEnt, Value.int .i64 0].toList 8 = some ([dEnt, dI], [], places) :=
 ⟨[], by kernel_rfl⟩
theorem nm_lifted (os : Os) (started : os.Started) (H : Type) (enc : TypeId × Value → H) (F : Stop.Interp) :
 ReturnsInHanded {} Tryz.checked os 5 .any ((OpenSpec.ofChange Rows.entryNamesSpec).preRow enc Tryz.prog Tryz.f5 Rows.entryNamesRow.domain false Rows.entryNamesRow.laid) (((OpenSpec.ofChange Rows.entryNamesSpec).at F).post enc Tryz.prog Tryz.f5 false true false false) := by
 obtain ⟨places, hx⟩ := nm_reads os enc
 refine returnsInHanded_of_row (C := Tryz.checked) (s := OpenSpec.ofChange Rows.entryNamesSpec) ownK started (by kernel_rfl) Tryz.func5
  (witness_row_at (enc := enc) (C := Tryz.checked) false (laidWorld os) #[zEnt, .int .i64 0] rfl (by kernel_rfl) (by kernel_rfl) (by kernel_rfl)
   (OpenSpec.preRow_of_cond 8 hx (by kernel_rfl) (fun k hk => by cases hk) (by kernel_rfl) (nm_met os))) ?_
 intro W base args ds gs before hval hW _ _ hsz _ _ _
 exact nm_contract H enc W base args ds gs before hval hW hsz
theorem nm_named : Tryz.pinned.checked.prog.funcNamed Rows.entryNamesRow.func = some 5 := by kernel_rfl
theorem nm_said : Rows.EntryNamesSaid :=
 OpenClaim.holds_of_cond 5 Tryz.f5 rfl rfl rfl rfl rfl rfl rfl ⟨rfl, rfl, rfl, rfl, rfl⟩ rfl rfl rfl rfl rfl nm_named Tryz.func5 nm_joined
  (of_decide_eq_true (by kernel_rfl)) (by unfold Func.isWrapper; first | (rw [if_pos (by decide +kernel)]; kernel_rfl) | (rw [if_neg (by decide +kernel)]; exact ⟨rfl, rfl⟩))
  (fun os started H enc _ F => by rw [OpenClaim.pre_eq_preRow]; exact nm_lifted os started H enc F)
theorem nm_plain (f : FuncId) (fn : Func) (hf : Tryz.pinned.checked.prog.funcNamed Rows.entryNamesRow.func = some f) (hfn : Tryz.pinned.checked.prog.funcs[f]? = some fn) :
 true = Tryz.pinned.checked.prog.looks [] ∧ ∀ (j : Nat) t, fn.params[j]? = some t → Tryz.pinned.checked.prog.wantsStandIn t = false := by
 obtain rfl : f = 5 := Option.some.inj ((show Tryz.prog.funcNamed Rows.entryNamesRow.func = some 5 by kernel_rfl).symm.trans hf) |>.symm
 obtain rfl : fn = Tryz.f5 := (Option.some.inj (Tryz.func5.symm.trans hfn)).symm
 refine ⟨by kernel_rfl, fun j t ht => ?_⟩
 rw [Tryz.params5] at ht
 have hm := Array.mem_of_getElem? ht
 simp at hm
 rcases hm with rfl | rfl
 · exact (show Tryz.prog.wantsStandIn 31 = false by kernel_rfl)
 · exact (show Tryz.prog.wantsStandIn 3 = false by kernel_rfl)
theorem nm_card : Rows.EntryNamesCardSaid :=
 Claim7.holds_tied_plain_at .later [] _ _ _ _ nm_said (fun _ h => by cases h) (by kernel_rfl) (fun _ h => by cases h) entryNames_row_tie rfl ⟨rfl, rfl⟩ (by kernel_rfl) rfl nm_plain (by kernel_rfl)

end Go.Proofs.YtddmkgibghohkaaGreatDoor
