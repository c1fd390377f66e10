/- MessageReplies: for every reply and all bytes the law answers true, and its arguments read as they did. -/
import Derived.Test.YthmoognbccfpiaaGreatDoorP28
import Derived.Test.YthmoognbccfpiaaGreatDoorPRw
import Derived.Test.YthmoognbccfpiaaGreatDoorPJb
set_option linter.unusedSimpArgs false
set_option linter.unusedVariables false
set_option linter.unusedSectionVars false
namespace Go.Proofs.YthmoognbccfpiaaGreatDoor
open Go Go.Sx Go.ChangeShapes Go.WideShapes Go.ChangeAt Go.RowKit
set_option maxRecDepth 100000
theorem tyRpl : tyRd Tryz.prog 8 33 = some RplT := by kernel_rfl
def zRpl : Value := .agg #[.int .i64 0, .slice none 0 0, .slice none 0 0, .string ⟨#[]⟩, .slice none 0 0, .string ⟨#[]⟩, .int .i64 0, .int .i64 0, .slice none 0 0, .int .i64 0, .int .i64 0, .slice none 0 0]
def dRpl {H : Type} : DataW H := .agg [dI, .nil, .agg [.nil, dS], .agg [.agg [.nil, dS], .agg [dI, dI, .nil]], .agg [dI, dI, .nil]]
theorem mreplies_k1 : (Rows.messageRepliesRow.wf (OpenSpec.ofChange Rows.messageRepliesSpec)) = true := by kernel_rfl
theorem mreplies_k4 : (Tryz.f3.params.all (Tryz.prog.readableRec ·)) = true := by kernel_rfl
theorem mreplies_k5 : (namedTie Tryz.prog Rows.messageRepliesRow.named Rows.messageRepliesSpec.vars) = true := by kernel_rfl
theorem mreplies_k6 : ((Rows.messageRepliesRow.stops == [])) = true := by kernel_rfl
theorem mreplies_k8 : ((Rows.messageRepliesRow.knobs == [])) = true := by kernel_rfl
theorem mreplies_k10 : ((Rows.messageRepliesRow.inPlace == Tryz.prog.inPlace 3)) = true := by kernel_rfl
theorem mreplies_k11 : ((Rows.messageRepliesRow.unfollowed == Tryz.prog.unfollowed 3)) = true := by kernel_rfl
theorem mreplies_k12 : ((Rows.messageRepliesRow.recurses == Tryz.prog.recurses 3)) = true := by kernel_rfl
theorem mreplies_k13 : ((Rows.messageRepliesRow.named == Tryz.prog.varsNamed 3)) = true := by kernel_rfl
theorem mreplies_k14 : ((Rows.messageRepliesRow.maps == (Tryz.f3.params.toList ++ Rows.messageRepliesSpec.plain.varTypes Tryz.prog).any (Tryz.prog.mapsRec ·))) = true := by kernel_rfl
theorem mreplies_k15 : ((Rows.messageRepliesRow.ifaces == (Tryz.f3.params.toList ++ Rows.messageRepliesSpec.plain.varTypes Tryz.prog).any (Tryz.prog.ifacesRec ·))) = true := by kernel_rfl
theorem mreplies_k16 : ((Rows.messageRepliesRow.mapsOut == Tryz.prog.mapsAmong Tryz.f3.resultTypes.toList)) = true := by kernel_rfl
theorem mreplies_k17 : ((Rows.messageRepliesRow.loops == (Tryz.f3.params.toList ++ Rows.messageRepliesSpec.plain.varTypes Tryz.prog).any (Tryz.prog.loopsFrom ·))) = true := by kernel_rfl
theorem mreplies_k18 : ((Rows.messageRepliesRow.wideKeys == (Tryz.f3.params.toList ++ Rows.messageRepliesSpec.plain.varTypes Tryz.prog ++ Tryz.f3.resultTypes.toList).any (Tryz.prog.wideKeysFrom ·))) = true := by kernel_rfl
theorem mreplies_k19 : (Rows.messageRepliesSpec.vars.all (Tryz.prog.varReadable ·)) = true := by kernel_rfl
theorem mreplies_k20 : (Tryz.f3.resultTypes.all (fun t => Tryz.prog.readableRec t && decide (t < Tryz.prog.types.size))) = true := by kernel_rfl
theorem mreplies_k21 : ((Rows.messageRepliesRow.ifacesOut == Tryz.f3.resultTypes.toList.any (Tryz.prog.ifacesRec ·))) = true := by kernel_rfl
theorem mreplies_k22 : ((Rows.messageRepliesRow.loopsOut == Tryz.f3.resultTypes.toList.any (Tryz.prog.loopsFrom ·))) = true := by kernel_rfl
theorem mreplies_k23 : ((Rows.messageRepliesRow.plainKeys == Tryz.prog.plainKeys)) = true := by kernel_rfl
theorem mreplies_k24 : (Rows.messageRepliesRow.shortTexts.isNone) = true := by kernel_rfl
theorem mreplies_k27 : ((Rows.messageRepliesRow.lifted == Tryz.prog.liftsFinal)) = true := by kernel_rfl
theorem mreplies_k28 : ((Tryz.prog.make == some Rows.messageRepliesRow.make)) = true := by kernel_rfl
theorem mreplies_k29 : ((Rows.messageRepliesRow.kinds == (if Rows.messageRepliesRow.domain.isEmpty then [] else Tryz.f3.params.toList.map fun t => match Tryz.prog.underlying t with | some (.int k) => some k | _ => none))) = true := by kernel_rfl
theorem mreplies_k30 : ((Rows.messageRepliesRow.pinned == Rows.messageRepliesRow.pinnedBy)) = true := by kernel_rfl
theorem mreplies_k31 : ((Rows.messageRepliesRow.veiled == (Tryz.f3.params.toList ++ Rows.messageRepliesSpec.plain.varTypes Tryz.prog ++ Tryz.f3.resultTypes.toList).any (Tryz.prog.veiledRec ·))) = true := by kernel_rfl
theorem mreplies_k32 : (Rows.messageRepliesRow.veiledFits Tryz.prog Tryz.f3.params.toList (Tryz.f3.params.toList ++ Rows.messageRepliesSpec.plain.varTypes Tryz.prog ++ Tryz.f3.resultTypes.toList)) = true := by kernel_rfl
theorem mreplies_joined : joinedFacts Tryz.prog 3 Tryz.f3 Rows.messageRepliesSpec Rows.messageRepliesRow = true :=
 joined_mk mreplies_k1 base_k2 base_k3 mreplies_k4 mreplies_k5 mreplies_k6 base_k7 mreplies_k8 base_k9 mreplies_k10 mreplies_k11 mreplies_k12 mreplies_k13 mreplies_k14 mreplies_k15 mreplies_k16 mreplies_k17 mreplies_k18 mreplies_k19 mreplies_k20 mreplies_k21 mreplies_k22 mreplies_k23 mreplies_k24 base_k25 base_k26 mreplies_k27 mreplies_k28 mreplies_k29 mreplies_k30 mreplies_k31 mreplies_k32
theorem mreplies_params : ∀ t ∈ Tryz.f3.params.toList, Tryz.prog.readableRec t = true ∧ t < Tryz.prog.types.size := by
 rw [Tryz.params3]
 intro t ht
 simp at ht
 rcases ht with rfl | rfl
 · exact ⟨by kernel_rfl, of_decide_eq_true (by kernel_rfl)⟩
 · exact ⟨by kernel_rfl, of_decide_eq_true (by kernel_rfl)⟩
theorem mreplies_contract (H : Type) (enc : TypeId × Value → H) (W : World) (base : Nat) (args : Array Value) (ds gs : List (DataW H)) (before : List MemPlace)
 (hval : ∀ (j : Nat) t v, Tryz.f3.params[j]? = some t → args[j]? = some v → Value.okWide Tryz.prog W .any base t v)
 (hW : DataW.Whole enc Tryz.prog Tryz.f3.params.toList Rows.messageRepliesSpec.vars false W args.toList ds gs before)
 (hsz : (DataW.weightsEach Tryz.prog (Tryz.f3.params.toList ++ (OpenSpec.ofChange Rows.messageRepliesSpec).bare.plain.varTypes Tryz.prog) (ds ++ gs)).all (· ≤ reachBytes) = true) :
 Calls Tryz.prog 3 args W fun e W' => ∃ v, e = .returned v ∧ Rows.messageRepliesSpec.post enc Tryz.prog Tryz.f3 false true false false W args v W' := by
 have hW' := hW
 obtain ⟨p, q, hA0, hV, rfl, hfz, hnd⟩ := hW
 have hA : DataW.TrodAll enc Tryz.prog W 0 (fun _ => true) true Tryz.f3.params.toList args.toList ds p := hA0
 rw [Tryz.params3] at hA hval hsz
 obtain ⟨v0, v1, d0, d1, p0, p1, rfl, rfl, rfl, h0, h1⟩ := trodAll_two hA
 obtain ⟨rfl, rfl⟩ := trodVars_none hV
 have hw : (DataW.weightsEach Tryz.prog [33, 27] [d0, d1]).all (· ≤ reachBytes) = true := hsz
 simp only [DataW.weightsEach] at hw
 obtain ⟨x0, e0, o0, r0⟩ := arg_struct Tryz.underlying33 tyRpl (hval 0 33 v0 rfl rfl) h0 (all_append_le hw).1
 obtain ⟨x1, e1, o1, r1⟩ := arg_slice (show Tryz.prog.underlying 27 = some (.slice 5) by kernel_rfl) (show tyRd Tryz.prog 8 27 = some (.slice (.u8)) by kernel_rfl) (hval 1 27 v1 rfl rfl) h1 (all_append_le (all_append_le hw).2).1
 have hden : SV.denL (Cx.top W) [.agg ((RplT).cells x0), .isl (.u8) x1] [v0, v1] :=
  denL_cons.2 ⟨_, _, rfl, e0, denL_cons.2 ⟨_, _, rfl, e1, denL_nil.2 rfl⟩⟩
 refine (calls_of_pc (replies_law x0 o0 r0 x1) hden).mono fun e W' ⟨he, hb⟩ => ⟨_, he, ?_⟩
 exact law_post laidOutK mreplies_params (by kernel_rfl) Tryz.underlying4 rfl hW' rfl hb
theorem mreplies_met (os : Os) : laidMet Tryz.prog Rows.messageRepliesRow.laid ((laidWorld os).forCall (fun _ _ => 0) ⟨#[], #[zRpl, .slice none 0 0], []⟩).memory :=
 laidMet_of_run' 8 (by kernel_rfl) (by kernel_rfl)
theorem mreplies_reads (os : Os) {H : Type} (enc : TypeId × Value → H) : ∃ places, DataW.whole enc Tryz.prog ((laidWorld os).forCall (fun _ _ => 0) ⟨#[], #[zRpl, .slice none 0 0], []⟩).memory Tryz.f3.params.toList Rows.messageRepliesSpec.vars false #[zRpl, Value.slice none 0 0].toList 8 = some ([dRpl, .nil], [], places) :=
 ⟨[], by kernel_rfl⟩
theorem mreplies_lifted (os : Os) (started : os.Started) (H : Type) (enc : TypeId × Value → H) (F : Stop.Interp) :
 ReturnsInHanded {} Tryz.checked os 3 .any ((OpenSpec.ofChange Rows.messageRepliesSpec).preRow enc Tryz.prog Tryz.f3 Rows.messageRepliesRow.domain false Rows.messageRepliesRow.laid) (((OpenSpec.ofChange Rows.messageRepliesSpec).at F).post enc Tryz.prog Tryz.f3 false true false false) := by
 obtain ⟨places, hx⟩ := mreplies_reads os enc
 refine returnsInHanded_of_row (C := Tryz.checked) (s := OpenSpec.ofChange Rows.messageRepliesSpec) ownK started (by kernel_rfl) Tryz.func3
  (witness_row_at (enc := enc) (C := Tryz.checked) false (laidWorld os) #[zRpl, .slice none 0 0] rfl (by kernel_rfl) (by kernel_rfl) (by kernel_rfl)
   (OpenSpec.preRow_of_cond 8 hx (by kernel_rfl) (fun k hk => by cases hk) (by kernel_rfl) (mreplies_met os))) ?_
 intro W base args ds gs before hval hW _ _ hsz _ _ _
 exact mreplies_contract H enc W base args ds gs before hval hW hsz
theorem mreplies_named : Tryz.pinned.checked.prog.funcNamed Rows.messageRepliesRow.func = some 3 := by kernel_rfl
theorem mreplies_said : Rows.MessageRepliesSaid :=
 OpenClaim.holds_of_cond 3 Tryz.f3 rfl rfl rfl rfl rfl rfl rfl ⟨rfl, rfl, rfl, rfl, rfl⟩ rfl rfl rfl rfl rfl mreplies_named Tryz.func3 mreplies_joined
  (of_decide_eq_true (by kernel_rfl)) (by unfold Func.isWrapper; first | (rw [if_pos (by decide +kernel)]; kernel_rfl) | (rw [if_neg (by decide +kernel)]; exact ⟨rfl, rfl⟩))
  (fun os started H enc _ F => by rw [OpenClaim.pre_eq_preRow]; exact mreplies_lifted os started H enc F)
theorem mreplies_plain (f : FuncId) (fn : Func) (hf : Tryz.pinned.checked.prog.funcNamed Rows.messageRepliesRow.func = some f) (hfn : Tryz.pinned.checked.prog.funcs[f]? = some fn) :
 true = Tryz.pinned.checked.prog.looks [] ∧ ∀ (j : Nat) t, fn.params[j]? = some t → Tryz.pinned.checked.prog.wantsStandIn t = false := by
 obtain rfl : f = 3 := Option.some.inj ((show Tryz.prog.funcNamed Rows.messageRepliesRow.func = some 3 by kernel_rfl).symm.trans hf) |>.symm
 obtain rfl : fn = Tryz.f3 := (Option.some.inj (Tryz.func3.symm.trans hfn)).symm
 refine ⟨by kernel_rfl, fun j t ht => ?_⟩
 rw [Tryz.params3] at ht
 have hm := Array.mem_of_getElem? ht
 simp at hm
 rcases hm with rfl | rfl
 · exact (show Tryz.prog.wantsStandIn 33 = false by kernel_rfl)
 · exact (show Tryz.prog.wantsStandIn 27 = false by kernel_rfl)
theorem mreplies_card : Rows.MessageRepliesCardSaid :=
 Claim7.holds_tied_plain_at .later [] _ _ _ _ mreplies_said (fun _ h => by cases h) (by kernel_rfl) (fun _ h => by cases h) messageReplies_row_tie rfl ⟨rfl, rfl⟩ (by kernel_rfl) rfl mreplies_plain (by kernel_rfl)

end Go.Proofs.YthmoognbccfpiaaGreatDoor

