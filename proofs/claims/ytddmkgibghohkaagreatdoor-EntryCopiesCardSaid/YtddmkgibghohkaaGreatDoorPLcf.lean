/- EntryCopies: for every two entries the law answers true, and its arguments read as they did. -/
import Derived.Test.YtddmkgibghohkaaGreatDoorPLc
import Derived.Test.YtddmkgibghohkaaGreatDoorPRw
import Derived.Test.YtddmkgibghohkaaGreatDoorPJb
set_option linter.unusedSimpArgs false
set_option linter.unusedVariables false
set_option linter.unusedSectionVars false
namespace Go.Proofs.YtddmkgibghohkaaGreatDoor
open Go Go.Sx Go.ChangeShapes Go.WideShapes Go.ChangeAt Go.RowKit
set_option maxRecDepth 100000
theorem copies_k1 : (Rows.entryCopiesRow.wf (OpenSpec.ofChange Rows.entryCopiesSpec)) = true := by kernel_rfl
theorem copies_k4 : (Tryz.f6.params.all (Tryz.prog.readableRec ·)) = true := by kernel_rfl
theorem copies_k5 : (namedTie Tryz.prog Rows.entryCopiesRow.named Rows.entryCopiesSpec.vars) = true := by kernel_rfl
theorem copies_k6 : ((Rows.entryCopiesRow.stops == [])) = true := by kernel_rfl
theorem copies_k8 : ((Rows.entryCopiesRow.knobs == [])) = true := by kernel_rfl
theorem copies_k10 : ((Rows.entryCopiesRow.inPlace == Tryz.prog.inPlace 6)) = true := by kernel_rfl
theorem copies_k11 : ((Rows.entryCopiesRow.unfollowed == Tryz.prog.unfollowed 6)) = true := by kernel_rfl
theorem copies_k12 : ((Rows.entryCopiesRow.recurses == Tryz.prog.recurses 6)) = true := by kernel_rfl
theorem copies_k13 : ((Rows.entryCopiesRow.named == Tryz.prog.varsNamed 6)) = true := by kernel_rfl
theorem copies_k14 : ((Rows.entryCopiesRow.maps == (Tryz.f6.params.toList ++ Rows.entryCopiesSpec.plain.varTypes Tryz.prog).any (Tryz.prog.mapsRec ·))) = true := by kernel_rfl
theorem copies_k15 : ((Rows.entryCopiesRow.ifaces == (Tryz.f6.params.toList ++ Rows.entryCopiesSpec.plain.varTypes Tryz.prog).any (Tryz.prog.ifacesRec ·))) = true := by kernel_rfl
theorem copies_k16 : ((Rows.entryCopiesRow.mapsOut == Tryz.prog.mapsAmong Tryz.f6.resultTypes.toList)) = true := by kernel_rfl
theorem copies_k17 : ((Rows.entryCopiesRow.loops == (Tryz.f6.params.toList ++ Rows.entryCopiesSpec.plain.varTypes Tryz.prog).any (Tryz.prog.loopsFrom ·))) = true := by kernel_rfl
theorem copies_k18 : ((Rows.entryCopiesRow.wideKeys == (Tryz.f6.params.toList ++ Rows.entryCopiesSpec.plain.varTypes Tryz.prog ++ Tryz.f6.resultTypes.toList).any (Tryz.prog.wideKeysFrom ·))) = true := by kernel_rfl
theorem copies_k19 : (Rows.entryCopiesSpec.vars.all (Tryz.prog.varReadable ·)) = true := by kernel_rfl
theorem copies_k20 : (Tryz.f6.resultTypes.all (fun t => Tryz.prog.readableRec t && decide (t < Tryz.prog.types.size))) = true := by kernel_rfl
theorem copies_k21 : ((Rows.entryCopiesRow.ifacesOut == Tryz.f6.resultTypes.toList.any (Tryz.prog.ifacesRec ·))) = true := by kernel_rfl
theorem copies_k22 : ((Rows.entryCopiesRow.loopsOut == Tryz.f6.resultTypes.toList.any (Tryz.prog.loopsFrom ·))) = true := by kernel_rfl
theorem copies_k23 : ((Rows.entryCopiesRow.plainKeys == Tryz.prog.plainKeys)) = true := by kernel_rfl
theorem copies_k24 : (Rows.entryCopiesRow.shortTexts.isNone) = true := by kernel_rfl
theorem copies_k27 : ((Rows.entryCopiesRow.lifted == Tryz.prog.liftsFinal)) = true := by kernel_rfl
theorem copies_k28 : ((Tryz.prog.make == some Rows.entryCopiesRow.make)) = true := by kernel_rfl
theorem copies_k29 : ((Rows.entryCopiesRow.kinds == (if Rows.entryCopiesRow.domain.isEmpty then [] else Tryz.f6.params.toList.map fun t => match Tryz.prog.underlying t with | some (.int k) => some k | _ => none))) = true := by kernel_rfl
theorem copies_k30 : ((Rows.entryCopiesRow.pinned == Rows.entryCopiesRow.pinnedBy)) = true := by kernel_rfl
theorem copies_k31 : ((Rows.entryCopiesRow.veiled == (Tryz.f6.params.toList ++ Rows.entryCopiesSpec.plain.varTypes Tryz.prog ++ Tryz.f6.resultTypes.toList).any (Tryz.prog.veiledRec ·))) = true := by kernel_rfl
theorem copies_k32 : (Rows.entryCopiesRow.veiledFits Tryz.prog Tryz.f6.params.toList (Tryz.f6.params.toList ++ Rows.entryCopiesSpec.plain.varTypes Tryz.prog ++ Tryz.f6.resultTypes.toList)) = true := by kernel_rfl
theorem copies_joined : joinedFacts Tryz.prog 6 Tryz.f6 Rows.entryCopiesSpec Rows.entryCopiesRow = true :=
 joined_mk copies_k1 base_k2 base_k3 copies_k4 copies_k5 copies_k6 base_k7 copies_k8 base_k9 copies_k10 copies_k11 copies_k12 copies_k13 copies_k14 copies_k15 copies_k16 copies_k17 copies_k18 copies_k19 copies_k20 copies_k21 copies_k22 copies_k23 copies_k24 base_k25 base_k26 copies_k27 copies_k28 copies_k29 copies_k30 copies_k31 copies_k32
theorem copies_params : ∀ t ∈ Tryz.f6.params.toList, Tryz.prog.readableRec t = true ∧ t < Tryz.prog.types.size := by
 rw [Tryz.params6]
 intro t ht
 simp at ht
 obtain rfl := ht
 · exact ⟨by kernel_rfl, of_decide_eq_true (by kernel_rfl)⟩
theorem copies_contract (H : Type) (enc : TypeId × Value → H) (W : World) (base : Nat) (args : Array Value) (ds gs : List (DataW H)) (before : List MemPlace)
 (hval : ∀ (j : Nat) t v, Tryz.f6.params[j]? = some t → args[j]? = some v → Value.okWide Tryz.prog W .any base t v)
 (hW : DataW.Whole enc Tryz.prog Tryz.f6.params.toList Rows.entryCopiesSpec.vars false W args.toList ds gs before)
 (hsz : (DataW.weightsEach Tryz.prog (Tryz.f6.params.toList ++ (OpenSpec.ofChange Rows.entryCopiesSpec).bare.plain.varTypes Tryz.prog) (ds ++ gs)).all (· ≤ reachBytes) = true) :
 Calls Tryz.prog 6 args W fun e W' => ∃ v, e = .returned v ∧ Rows.entryCopiesSpec.post enc Tryz.prog Tryz.f6 false true false false W args v W' := by
 have hW' := hW
 obtain ⟨p, q, hA0, hV, rfl, hfz, hnd⟩ := hW
 have hA : DataW.TrodAll enc Tryz.prog W 0 (fun _ => true) true Tryz.f6.params.toList args.toList ds p := hA0
 rw [Tryz.params6] at hA hval hsz
 obtain ⟨v0, v1, d0, d1, p0, p1, rfl, rfl, rfl, h0, h1⟩ := trodAll_two hA
 obtain ⟨rfl, rfl⟩ := trodVars_none hV
 have hw : (DataW.weightsEach Tryz.prog [31, 31] [d0, d1]).all (· ≤ reachBytes) = true := hsz
 simp only [DataW.weightsEach] at hw
 obtain ⟨x0, e0, o0, r0⟩ := arg_struct Tryz.underlying31 tyEnt (hval 0 31 v0 rfl rfl) h0 (all_append_le hw).1
 obtain ⟨x1, e1, o1, r1⟩ := arg_struct Tryz.underlying31 tyEnt (hval 1 31 v1 rfl rfl) h1 (all_append_le (all_append_le hw).2).1
 have hden : SV.denL (Cx.top W) [.agg ((EntT).cells x0), .agg ((EntT).cells x1)] [v0, v1] :=
  denL_cons.2 ⟨_, _, rfl, e0, denL_cons.2 ⟨_, _, rfl, e1, denL_nil.2 rfl⟩⟩
 refine (calls_of_pc (copies_l x0 x1 o0 o1) hden).mono fun e W' ⟨he, hb⟩ => ⟨_, he, ?_⟩
 exact law_post laidOutK copies_params (by kernel_rfl) Tryz.underlying4 rfl hW' rfl hb
theorem copies_met (os : Os) : laidMet Tryz.prog Rows.entryCopiesRow.laid ((laidWorld os).forCall (fun _ _ => 0) ⟨#[], #[zEnt, zEnt], []⟩).memory :=
 laidMet_of_run' 8 (by kernel_rfl) (by kernel_rfl)
theorem copies_reads (os : Os) {H : Type} (enc : TypeId × Value → H) : ∃ places, DataW.whole enc Tryz.prog ((laidWorld os).forCall (fun _ _ => 0) ⟨#[], #[zEnt, zEnt], []⟩).memory Tryz.f6.params.toList Rows.entryCopiesSpec.vars false #[zEnt, zEnt].toList 8 = some ([dEnt, dEnt], [], places) :=
 ⟨[], by kernel_rfl⟩
theorem copies_lifted (os : Os) (started : os.Started) (H : Type) (enc : TypeId × Value → H) (F : Stop.Interp) :
 ReturnsInHanded {} Tryz.checked os 6 .any ((OpenSpec.ofChange Rows.entryCopiesSpec).preRow enc Tryz.prog Tryz.f6 Rows.entryCopiesRow.domain false Rows.entryCopiesRow.laid) (((OpenSpec.ofChange Rows.entryCopiesSpec).at F).post enc Tryz.prog Tryz.f6 false true false false) := by
 obtain ⟨places, hx⟩ := copies_reads os enc
 refine returnsInHanded_of_row (C := Tryz.checked) (s := OpenSpec.ofChange Rows.entryCopiesSpec) ownK started (by kernel_rfl) Tryz.func6
  (witness_row_at (enc := enc) (C := Tryz.checked) false (laidWorld os) #[zEnt, zEnt] rfl (by kernel_rfl) (by kernel_rfl) (by kernel_rfl)
   (OpenSpec.preRow_of_cond 8 hx (by kernel_rfl) (fun k hk => by cases hk) (by kernel_rfl) (copies_met os))) ?_
 intro W base args ds gs before hval hW _ _ hsz _ _ _
 exact copies_contract H enc W base args ds gs before hval hW hsz
theorem copies_named : Tryz.pinned.checked.prog.funcNamed Rows.entryCopiesRow.func = some 6 := by kernel_rfl
theorem copies_said : Rows.EntryCopiesSaid :=
 OpenClaim.holds_of_cond 6 Tryz.f6 rfl rfl rfl rfl rfl rfl rfl ⟨rfl, rfl, rfl, rfl, rfl⟩ rfl rfl rfl rfl rfl copies_named Tryz.func6 copies_joined
  (of_decide_eq_true (by kernel_rfl)) (by unfold Func.isWrapper; first | (rw [if_pos (by decide +kernel)]; kernel_rfl) | (rw [if_neg (by decide +kernel)]; exact ⟨rfl, rfl⟩))
  (fun os started H enc _ F => by rw [OpenClaim.pre_eq_preRow]; exact copies_lifted os started H enc F)
theorem copies_plain (f : FuncId) (fn : Func) (hf : Tryz.pinned.checked.prog.funcNamed Rows.entryCopiesRow.func = some f) (hfn : Tryz.pinned.checked.prog.funcs[f]? = some fn) :
 true = Tryz.pinned.checked.prog.looks [] ∧ ∀ (j : Nat) t, fn.params[j]? = some t → Tryz.pinned.checked.prog.wantsStandIn t = false := by
 obtain rfl : f = 6 := Option.some.inj ((show Tryz.prog.funcNamed Rows.entryCopiesRow.func = some 6 by kernel_rfl).symm.trans hf) |>.symm
 obtain rfl : fn = Tryz.f6 := (Option.some.inj (Tryz.func6.symm.trans hfn)).symm
 refine ⟨by kernel_rfl, fun j t ht => ?_⟩
 rw [Tryz.params6] at ht
 have hm := Array.mem_of_getElem? ht
 simp at hm
 obtain rfl := hm
 · exact (show Tryz.prog.wantsStandIn 31 = false by kernel_rfl)
theorem copies_card : Rows.EntryCopiesCardSaid :=
 Claim7.holds_tied_plain_at .later [] _ _ _ _ copies_said (fun _ h => by cases h) (by kernel_rfl) (fun _ h => by cases h) entryCopies_row_tie rfl ⟨rfl, rfl⟩ (by kernel_rfl) rfl copies_plain (by kernel_rfl)

end Go.Proofs.YtddmkgibghohkaaGreatDoor
