/- TimestampLoops: for every list and every number the law answers true, and its arguments read as they did. -/
import Derived.Test.YtikapabgggphpaaGreatDoorP27
import Derived.Test.YtikapabgggphpaaGreatDoorP28
import Derived.Test.YtikapabgggphpaaGreatDoorPJb
set_option linter.all false
namespace Go.Proofs.YtikapabgggphpaaGreatDoor
open Go Go.Sx Go.ChangeShapes Go.WideShapes Go.ChangeAt Go.RowKit
set_option maxRecDepth 100000
theorem tloops_k1 : (Rows.timestampLoopsRow.wf (OpenSpec.ofChange Rows.timestampLoopsSpec)) = true := by kernel_rfl
theorem tloops_k4 : (Tryz.f8.params.all (Tryz.prog.readableRec ·)) = true := by kernel_rfl
theorem tloops_k5 : (namedTie Tryz.prog Rows.timestampLoopsRow.named Rows.timestampLoopsSpec.vars) = true := by kernel_rfl
theorem tloops_k6 : ((Rows.timestampLoopsRow.stops == [])) = true := by kernel_rfl
theorem tloops_k8 : ((Rows.timestampLoopsRow.knobs == [])) = true := by kernel_rfl
theorem tloops_k10 : ((Rows.timestampLoopsRow.inPlace == Tryz.prog.inPlace 8)) = true := by kernel_rfl
theorem tloops_k11 : ((Rows.timestampLoopsRow.unfollowed == Tryz.prog.unfollowed 8)) = true := by kernel_rfl
theorem tloops_k12 : ((Rows.timestampLoopsRow.recurses == Tryz.prog.recurses 8)) = true := by kernel_rfl
theorem tloops_k13 : ((Rows.timestampLoopsRow.named == Tryz.prog.varsNamed 8)) = true := by kernel_rfl
theorem tloops_k14 : ((Rows.timestampLoopsRow.maps == (Tryz.f8.params.toList ++ Rows.timestampLoopsSpec.plain.varTypes Tryz.prog).any (Tryz.prog.mapsRec ·))) = true := by kernel_rfl
theorem tloops_k15 : ((Rows.timestampLoopsRow.ifaces == (Tryz.f8.params.toList ++ Rows.timestampLoopsSpec.plain.varTypes Tryz.prog).any (Tryz.prog.ifacesRec ·))) = true := by kernel_rfl
theorem tloops_k16 : ((Rows.timestampLoopsRow.mapsOut == Tryz.prog.mapsAmong Tryz.f8.resultTypes.toList)) = true := by kernel_rfl
theorem tloops_k17 : ((Rows.timestampLoopsRow.loops == (Tryz.f8.params.toList ++ Rows.timestampLoopsSpec.plain.varTypes Tryz.prog).any (Tryz.prog.loopsFrom ·))) = true := by kernel_rfl
theorem tloops_k18 : ((Rows.timestampLoopsRow.wideKeys == (Tryz.f8.params.toList ++ Rows.timestampLoopsSpec.plain.varTypes Tryz.prog ++ Tryz.f8.resultTypes.toList).any (Tryz.prog.wideKeysFrom ·))) = true := by kernel_rfl
theorem tloops_k19 : (Rows.timestampLoopsSpec.vars.all (Tryz.prog.varReadable ·)) = true := by kernel_rfl
theorem tloops_k20 : (Tryz.f8.resultTypes.all (fun t => Tryz.prog.readableRec t && decide (t < Tryz.prog.types.size))) = true := by kernel_rfl
theorem tloops_k21 : ((Rows.timestampLoopsRow.ifacesOut == Tryz.f8.resultTypes.toList.any (Tryz.prog.ifacesRec ·))) = true := by kernel_rfl
theorem tloops_k22 : ((Rows.timestampLoopsRow.loopsOut == Tryz.f8.resultTypes.toList.any (Tryz.prog.loopsFrom ·))) = true := by kernel_rfl
theorem tloops_k23 : ((Rows.timestampLoopsRow.plainKeys == Tryz.prog.plainKeys)) = true := by kernel_rfl
theorem tloops_k24 : (Rows.timestampLoopsRow.shortTexts.isNone) = true := by kernel_rfl
theorem tloops_k27 : ((Rows.timestampLoopsRow.lifted == Tryz.prog.liftsFinal)) = true := by kernel_rfl
theorem tloops_k28 : ((Tryz.prog.make == some Rows.timestampLoopsRow.make)) = true := by kernel_rfl
theorem tloops_k29 : ((Rows.timestampLoopsRow.kinds == (if Rows.timestampLoopsRow.domain.isEmpty then [] else Tryz.f8.params.toList.map fun t => match Tryz.prog.underlying t with | some (.int k) => some k | _ => none))) = true := by kernel_rfl
theorem tloops_k30 : ((Rows.timestampLoopsRow.pinned == Rows.timestampLoopsRow.pinnedBy)) = true := by kernel_rfl
theorem tloops_k31 : ((Rows.timestampLoopsRow.veiled == (Tryz.f8.params.toList ++ Rows.timestampLoopsSpec.plain.varTypes Tryz.prog ++ Tryz.f8.resultTypes.toList).any (Tryz.prog.veiledRec ·))) = true := by kernel_rfl
theorem tloops_k32 : (Rows.timestampLoopsRow.veiledFits Tryz.prog Tryz.f8.params.toList (Tryz.f8.params.toList ++ Rows.timestampLoopsSpec.plain.varTypes Tryz.prog ++ Tryz.f8.resultTypes.toList)) = true := by kernel_rfl
theorem tloops_joined : joinedFacts Tryz.prog 8 Tryz.f8 Rows.timestampLoopsSpec Rows.timestampLoopsRow = true :=
 z4C tloops_k1 z8x z8n tloops_k4 tloops_k5 tloops_k6 z8t tloops_k8 z8Y tloops_k10 tloops_k11 tloops_k12 tloops_k13 tloops_k14 tloops_k15 tloops_k16 tloops_k17 tloops_k18 tloops_k19 tloops_k20 tloops_k21 tloops_k22 tloops_k23 tloops_k24 z5R z6u tloops_k27 tloops_k28 tloops_k29 tloops_k30 tloops_k31 tloops_k32
theorem tloops_tabs {W : World} (h : laidMetH Tryz.prog Rows.timestampLoopsRow.laid W) : TabT (Cx.top W) [] := by
 have hm := z9X h (by kernel_rfl)
 refine ⟨?_, ?_⟩
 · exact fun e he => absurd he (by simp [tabList])
 intro e he
 simp only [datList, List.mem_cons, List.not_mem_nil, or_false] at he
 rcases he with rfl | rfl
 · exact z2L hm "watchword/sha.start" .u32 dat_sha_start 0 (by kernel_rfl) (by kernel_rfl) (by kernel_rfl) (by kernel_rfl) (by kernel_rfl) (by kernel_rfl) (by kernel_rfl) (by kernel_rfl) (t := 223) (e := 221) (n := 8)
 exact z2L hm "watchword/sha.constants" .u32 dat_sha_constants 1 (by kernel_rfl) (by kernel_rfl) (by kernel_rfl) (by kernel_rfl) (by kernel_rfl) (by kernel_rfl) (by kernel_rfl) (by kernel_rfl) (t := 247) (e := 221) (n := 64)
theorem tloops_params : ∀ t ∈ Tryz.f8.params.toList, Tryz.prog.readableRec t = true ∧ t < Tryz.prog.types.size := by
 rw [Tryz.params8]
 intro t ht
 simp at ht
 rcases ht with rfl | rfl
 · exact ⟨by kernel_rfl, of_decide_eq_true (by kernel_rfl)⟩
 exact ⟨by kernel_rfl, of_decide_eq_true (by kernel_rfl)⟩
theorem tloops_contract (H : Type) (enc : TypeId × Value → H) (W : World) (base : Nat) (args : Array Value) (ds gs : List (DataW H)) (before : List MemPlace)
 (hval : ∀ (j : Nat) t v, Tryz.f8.params[j]? = some t → args[j]? = some v → Value.okWide Tryz.prog W .any base t v)
 (hW : DataW.Whole enc Tryz.prog Tryz.f8.params.toList Rows.timestampLoopsSpec.vars false W args.toList ds gs before)
 (hsz : (DataW.weightsEach Tryz.prog (Tryz.f8.params.toList ++ (OpenSpec.ofChange Rows.timestampLoopsSpec).bare.plain.varTypes Tryz.prog) (ds ++ gs)).all (· ≤ reachBytes) = true) (hlaid : laidMetH Tryz.prog Rows.timestampLoopsRow.laid W) :
 Calls Tryz.prog 8 args W fun e W' => ∃ v, e = .returned v ∧ Rows.timestampLoopsSpec.post enc Tryz.prog Tryz.f8 false true false false W args v W' := by
 have hW' := hW
 obtain ⟨p, q, hA0, hV, rfl, hfz, hnd⟩ := hW
 have hA : DataW.TrodAll enc Tryz.prog W 0 (fun _ => true) true Tryz.f8.params.toList args.toList ds p := hA0
 rw [Tryz.params8] at hA hval hsz
 obtain ⟨v0, v1, d0, d1, p0, p1, rfl, rfl, rfl, h0, h1⟩ := trodAll_two hA
 obtain ⟨rfl, rfl⟩ := trodVars_none hV
 have hw : (DataW.weightsEach Tryz.prog [55, 3] [d0, d1]).all (· ≤ reachBytes) = true := hsz
 simp only [DataW.weightsEach] at hw
 obtain ⟨x0, e0, o0, r0⟩ := z4B (show Tryz.prog.underlying 55 = some (.slice 27) by kernel_rfl) (show tyRd Tryz.prog 8 55 = some (.slice (PreT)) by kernel_rfl) (hval 0 55 v0 rfl rfl) h0 (q1p hw).1
 obtain ⟨x1, rfl, rfl, rfl, _⟩ := open_int Tryz.underlying3 (hval 1 3 v1 rfl rfl) h1
 have hden : SV.denL (Cx.top W) [.isl (PreT) x0, rI x1] [v0, (.int .i64 x1)] :=
  q0b.2 ⟨_, _, rfl, e0, q0b.2 ⟨_, _, rfl, by rw [SV.den], q0l.2 rfl⟩⟩
 refine (q9n (z9B x0 x1 o0) hden (tloops_tabs hlaid)).mono fun e W' ⟨he, hb⟩ => ⟨_, he, ?_⟩
 exact z5N laidOutK tloops_params (by kernel_rfl) Tryz.underlying4 rfl hW' rfl hb
theorem tloops_met (os : Os) : laidMet Tryz.prog Rows.timestampLoopsRow.laid ((laidWorld os).forCall (fun _ _ => 0) ⟨#[], #[.slice none 0 0, .int .i64 0], []⟩).memory :=
 laidMet_of_run' 8 (by kernel_rfl) (by kernel_rfl)
theorem tloops_reads (os : Os) {H : Type} (enc : TypeId × Value → H) : ∃ places, DataW.whole enc Tryz.prog ((laidWorld os).forCall (fun _ _ => 0) ⟨#[], #[.slice none 0 0, .int .i64 0], []⟩).memory Tryz.f8.params.toList Rows.timestampLoopsSpec.vars false #[Value.slice none 0 0, Value.int .i64 0].toList 8 = some ([.nil, dI], [], places) :=
 ⟨[], by kernel_rfl⟩
theorem tloops_lifted (os : Os) (started : os.Started) (H : Type) (enc : TypeId × Value → H) (F : Stop.Interp) :
 ReturnsInHanded {} Tryz.checked os 8 .any ((OpenSpec.ofChange Rows.timestampLoopsSpec).preRow enc Tryz.prog Tryz.f8 Rows.timestampLoopsRow.domain false Rows.timestampLoopsRow.laid) (((OpenSpec.ofChange Rows.timestampLoopsSpec).at F).post enc Tryz.prog Tryz.f8 false true false false) := by
 obtain ⟨places, hx⟩ := tloops_reads os enc
 refine returnsInHanded_of_row (C := Tryz.checked) (s := OpenSpec.ofChange Rows.timestampLoopsSpec) ownK started (by kernel_rfl) Tryz.func8
  (witness_row_at (enc := enc) (C := Tryz.checked) false (laidWorld os) #[.slice none 0 0, .int .i64 0] rfl (by kernel_rfl) (by kernel_rfl) (by kernel_rfl)
   (OpenSpec.preRow_of_cond 8 hx (by kernel_rfl) (fun k hk => by cases hk) (by kernel_rfl) (tloops_met os))) ?_
 intro W base args ds gs before hval hW _ _ hsz hlaid _ _
 exact tloops_contract H enc W base args ds gs before hval hW hsz hlaid
theorem tloops_named : Tryz.pinned.checked.prog.funcNamed Rows.timestampLoopsRow.func = some 8 := by kernel_rfl
theorem tloops_said : Rows.TimestampLoopsSaid :=
 OpenClaim.holds_of_cond 8 Tryz.f8 rfl rfl rfl rfl rfl rfl rfl ⟨rfl, rfl, rfl, rfl, rfl⟩ rfl rfl rfl rfl rfl tloops_named Tryz.func8 tloops_joined
  (of_decide_eq_true (by kernel_rfl)) (by unfold Func.isWrapper; first | (rw [if_pos (by decide +kernel)]; kernel_rfl) | (rw [if_neg (by decide +kernel)]; exact ⟨rfl, rfl⟩))
  (fun os started H enc _ F => by rw [OpenClaim.pre_eq_preRow]; exact tloops_lifted os started H enc F)
theorem tloops_plain (f : FuncId) (fn : Func) (hf : Tryz.pinned.checked.prog.funcNamed Rows.timestampLoopsRow.func = some f) (hfn : Tryz.pinned.checked.prog.funcs[f]? = some fn) :
 true = Tryz.pinned.checked.prog.looks [] ∧ ∀ (j : Nat) t, fn.params[j]? = some t → Tryz.pinned.checked.prog.wantsStandIn t = false := by
 obtain rfl : f = 8 := Option.some.inj ((show Tryz.prog.funcNamed Rows.timestampLoopsRow.func = some 8 by kernel_rfl).symm.trans hf) |>.symm
 obtain rfl : fn = Tryz.f8 := (Option.some.inj (Tryz.func8.symm.trans hfn)).symm
 refine ⟨by kernel_rfl, fun j t ht => ?_⟩
 rw [Tryz.params8] at ht
 have hm := Array.mem_of_getElem? ht
 simp at hm
 rcases hm with rfl | rfl
 · exact (show Tryz.prog.wantsStandIn 55 = false by kernel_rfl)
 exact (show Tryz.prog.wantsStandIn 3 = false by kernel_rfl)
theorem tloops_card : Rows.TimestampLoopsCardSaid :=
 Claim7.holds_tied_plain_at .later [] _ _ _ _ tloops_said (fun _ h => by cases h) (by kernel_rfl) (fun _ h => by cases h) timestampLoops_row_tie rfl ⟨rfl, rfl⟩ (by kernel_rfl) rfl tloops_plain (by kernel_rfl)

end Go.Proofs.YtikapabgggphpaaGreatDoor
