/- EntryOffers: for every offer and all bytes the law answers true, and its arguments read as they did. -/
import Derived.Test.YtddmkgibghohkaaGreatDoorP25
import Derived.Test.YtddmkgibghohkaaGreatDoorPRw
import Derived.Test.YtddmkgibghohkaaGreatDoorPJb
set_option linter.unusedSimpArgs false
set_option linter.unusedVariables false
namespace Go.Proofs.YtddmkgibghohkaaGreatDoor
open Go Go.Sx Go.ChangeShapes Go.WideShapes Go.ChangeAt Go.RowKit
set_option maxRecDepth 100000
theorem offers_k1 : (Rows.entryOffersRow.wf (OpenSpec.ofChange Rows.entryOffersSpec)) = true := by kernel_rfl
theorem offers_k4 : (Tryz.f7.params.all (Tryz.prog.readableRec ·)) = true := by kernel_rfl
theorem offers_k5 : (namedTie Tryz.prog Rows.entryOffersRow.named Rows.entryOffersSpec.vars) = true := by kernel_rfl
theorem offers_k6 : ((Rows.entryOffersRow.stops == [])) = true := by kernel_rfl
theorem offers_k8 : ((Rows.entryOffersRow.knobs == [])) = true := by kernel_rfl
theorem offers_k10 : ((Rows.entryOffersRow.inPlace == Tryz.prog.inPlace 7)) = true := by kernel_rfl
theorem offers_k11 : ((Rows.entryOffersRow.unfollowed == Tryz.prog.unfollowed 7)) = true := by kernel_rfl
theorem offers_k12 : ((Rows.entryOffersRow.recurses == Tryz.prog.recurses 7)) = true := by kernel_rfl
theorem offers_k13 : ((Rows.entryOffersRow.named == Tryz.prog.varsNamed 7)) = true := by kernel_rfl
theorem offers_k14 : ((Rows.entryOffersRow.maps == (Tryz.f7.params.toList ++ Rows.entryOffersSpec.plain.varTypes Tryz.prog).any (Tryz.prog.mapsRec ·))) = true := by kernel_rfl
theorem offers_k15 : ((Rows.entryOffersRow.ifaces == (Tryz.f7.params.toList ++ Rows.entryOffersSpec.plain.varTypes Tryz.prog).any (Tryz.prog.ifacesRec ·))) = true := by kernel_rfl
theorem offers_k16 : ((Rows.entryOffersRow.mapsOut == Tryz.prog.mapsAmong Tryz.f7.resultTypes.toList)) = true := by kernel_rfl
theorem offers_k17 : ((Rows.entryOffersRow.loops == (Tryz.f7.params.toList ++ Rows.entryOffersSpec.plain.varTypes Tryz.prog).any (Tryz.prog.loopsFrom ·))) = true := by kernel_rfl
theorem offers_k18 : ((Rows.entryOffersRow.wideKeys == (Tryz.f7.params.toList ++ Rows.entryOffersSpec.plain.varTypes Tryz.prog ++ Tryz.f7.resultTypes.toList).any (Tryz.prog.wideKeysFrom ·))) = true := by kernel_rfl
theorem offers_k19 : (Rows.entryOffersSpec.vars.all (Tryz.prog.varReadable ·)) = true := by kernel_rfl
theorem offers_k20 : (Tryz.f7.resultTypes.all (fun t => Tryz.prog.readableRec t && decide (t < Tryz.prog.types.size))) = true := by kernel_rfl
theorem offers_k21 : ((Rows.entryOffersRow.ifacesOut == Tryz.f7.resultTypes.toList.any (Tryz.prog.ifacesRec ·))) = true := by kernel_rfl
theorem offers_k22 : ((Rows.entryOffersRow.loopsOut == Tryz.f7.resultTypes.toList.any (Tryz.prog.loopsFrom ·))) = true := by kernel_rfl
theorem offers_k23 : ((Rows.entryOffersRow.plainKeys == Tryz.prog.plainKeys)) = true := by kernel_rfl
theorem offers_k24 : (Rows.entryOffersRow.shortTexts.isNone) = true := by kernel_rfl
theorem offers_k27 : ((Rows.entryOffersRow.lifted == Tryz.prog.liftsFinal)) = true := by kernel_rfl
theorem offers_k28 : ((Tryz.prog.make == some Rows.entryOffersRow.make)) = true := by kernel_rfl
theorem offers_k29 : ((Rows.entryOffersRow.kinds == (if Rows.entryOffersRow.domain.isEmpty then [] else Tryz.f7.params.toList.map fun t => match Tryz.prog.underlying t with | some (.int k) => some k | _ => none))) = true := by kernel_rfl
theorem offers_k30 : ((Rows.entryOffersRow.pinned == Rows.entryOffersRow.pinnedBy)) = true := by kernel_rfl
theorem offers_k31 : ((Rows.entryOffersRow.veiled == (Tryz.f7.params.toList ++ Rows.entryOffersSpec.plain.varTypes Tryz.prog ++ Tryz.f7.resultTypes.toList).any (Tryz.prog.veiledRec ·))) = true := by kernel_rfl
theorem offers_k32 : (Rows.entryOffersRow.veiledFits Tryz.prog Tryz.f7.params.toList (Tryz.f7.params.toList ++ Rows.entryOffersSpec.plain.varTypes Tryz.prog ++ Tryz.f7.resultTypes.toList)) = true := by kernel_rfl
theorem offers_joined : joinedFacts Tryz.prog 7 Tryz.f7 Rows.entryOffersSpec Rows.entryOffersRow = true :=
  joined_mk offers_k1 base_k2 base_k3 offers_k4 offers_k5 offers_k6 base_k7 offers_k8 base_k9 offers_k10 offers_k11 offers_k12 offers_k13 offers_k14 offers_k15 offers_k16 offers_k17 offers_k18 offers_k19 offers_k20 offers_k21 offers_k22 offers_k23 offers_k24 base_k25 base_k26 offers_k27 offers_k28 offers_k29 offers_k30 offers_k31 offers_k32
theorem offers_params : ∀ t ∈ Tryz.f7.params.toList, Tryz.prog.readableRec t = true ∧ t < Tryz.prog.types.size := by
  rw [Tryz.params7]
  intro t ht
  simp at ht
  rcases ht with rfl | rfl
  · exact ⟨by kernel_rfl, of_decide_eq_true (by kernel_rfl)⟩
  · exact ⟨by kernel_rfl, of_decide_eq_true (by kernel_rfl)⟩
theorem offers_contract (H : Type) (enc : TypeId × Value → H) (W : World) (base : Nat) (args : Array Value) (ds gs : List (DataW H)) (before : List MemPlace)
    (hval : ∀ (j : Nat) t v, Tryz.f7.params[j]? = some t → args[j]? = some v → Value.okWide Tryz.prog W .any base t v)
    (hW : DataW.Whole enc Tryz.prog Tryz.f7.params.toList Rows.entryOffersSpec.vars false W args.toList ds gs before)
    (hsz : (DataW.weightsEach Tryz.prog (Tryz.f7.params.toList ++ (OpenSpec.ofChange Rows.entryOffersSpec).bare.plain.varTypes Tryz.prog) (ds ++ gs)).all (· ≤ reachBytes) = true) :
    Calls Tryz.prog 7 args W fun e W' => ∃ v, e = .returned v ∧ Rows.entryOffersSpec.post enc Tryz.prog Tryz.f7 false true false false W args v W' := by
  have hW' := hW
  obtain ⟨p, q, hA0, hV, rfl, hfz, hnd⟩ := hW
  have hA : DataW.TrodAll enc Tryz.prog W 0 (fun _ => true) true Tryz.f7.params.toList args.toList ds p := hA0
  rw [Tryz.params7] at hA hval hsz
  obtain ⟨v0, v1, d0, d1, p0, p1, rfl, rfl, rfl, h0, h1⟩ := trodAll_two hA
  obtain ⟨rfl, rfl⟩ := trodVars_none hV
  have hw : (DataW.weightsEach Tryz.prog [55, 48] [d0, d1]).all (· ≤ reachBytes) = true := hsz
  simp only [DataW.weightsEach] at hw
  obtain ⟨x0, e0, o0, r0⟩ := arg_slice (show Tryz.prog.underlying 55 = some (.slice 73) by kernel_rfl) (show tyRd Tryz.prog 8 55 = some (.slice (SaltT)) by kernel_rfl) (hval 0 55 v0 rfl rfl) h0 (all_append_le hw).1
  obtain ⟨x1, e1, o1, r1⟩ := arg_slice (show Tryz.prog.underlying 48 = some (.slice 5) by kernel_rfl) (show tyRd Tryz.prog 8 48 = some (.slice (.u8)) by kernel_rfl) (hval 1 48 v1 rfl rfl) h1 (all_append_le (all_append_le hw).2).1
  have hden : SV.denL (Cx.top W) [.isl (SaltT) x0, .isl (.u8) x1] [v0, v1] :=
    denL_cons.2 ⟨_, _, rfl, e0, denL_cons.2 ⟨_, _, rfl, e1, denL_nil.2 rfl⟩⟩
  refine (calls_of_pc (offers_law x0 o0 x1) hden).mono fun e W' ⟨he, hb⟩ => ⟨_, he, ?_⟩
  exact law_post laidOutK offers_params (by kernel_rfl) Tryz.underlying4 rfl hW' rfl hb
theorem offers_met (os : Os) : laidMet Tryz.prog Rows.entryOffersRow.laid ((laidWorld os).forCall (fun _ _ => 0) ⟨#[], #[.slice none 0 0, .slice none 0 0], []⟩).memory :=
  laidMet_of_run' 8 (by kernel_rfl) (by kernel_rfl)
theorem offers_reads (os : Os) {H : Type} (enc : TypeId × Value → H) : ∃ places, DataW.whole enc Tryz.prog ((laidWorld os).forCall (fun _ _ => 0) ⟨#[], #[.slice none 0 0, .slice none 0 0], []⟩).memory Tryz.f7.params.toList Rows.entryOffersSpec.vars false #[Value.slice none 0 0, Value.slice none 0 0].toList 8 = some ([.nil, .nil], [], places) :=
  ⟨[], by kernel_rfl⟩
theorem offers_lifted (os : Os) (started : os.Started) (H : Type) (enc : TypeId × Value → H) (F : Stop.Interp) :
    ReturnsInHanded {} Tryz.checked os 7 .any ((OpenSpec.ofChange Rows.entryOffersSpec).preRow enc Tryz.prog Tryz.f7 Rows.entryOffersRow.domain false Rows.entryOffersRow.laid) (((OpenSpec.ofChange Rows.entryOffersSpec).at F).post enc Tryz.prog Tryz.f7 false true false false) := by
  obtain ⟨places, hx⟩ := offers_reads os enc
  refine returnsInHanded_of_row (C := Tryz.checked) (s := OpenSpec.ofChange Rows.entryOffersSpec) ownK started (by kernel_rfl) Tryz.func7
    (witness_row_at (enc := enc) (C := Tryz.checked) false (laidWorld os) #[.slice none 0 0, .slice none 0 0] rfl (by kernel_rfl) (by kernel_rfl) (by kernel_rfl)
      (OpenSpec.preRow_of_cond 8 hx (by kernel_rfl) (fun k hk => by cases hk) (by kernel_rfl) (offers_met os))) ?_
  intro W base args ds gs before hval hW _ _ hsz _ _ _
  exact offers_contract H enc W base args ds gs before hval hW hsz
theorem offers_named : Tryz.pinned.checked.prog.funcNamed Rows.entryOffersRow.func = some 7 := by kernel_rfl
theorem offers_said : Rows.EntryOffersSaid :=
  OpenClaim.holds_of_cond 7 Tryz.f7 rfl rfl rfl rfl rfl rfl rfl ⟨rfl, rfl, rfl, rfl, rfl⟩ rfl rfl rfl rfl rfl offers_named Tryz.func7 offers_joined
    (of_decide_eq_true (by kernel_rfl)) (by unfold Func.isWrapper; first | (rw [if_pos (by decide +kernel)]; kernel_rfl) | (rw [if_neg (by decide +kernel)]; exact ⟨rfl, rfl⟩))
    (fun os started H enc _ F => by rw [OpenClaim.pre_eq_preRow]; exact offers_lifted os started H enc F)
theorem offers_plain (f : FuncId) (fn : Func) (hf : Tryz.pinned.checked.prog.funcNamed Rows.entryOffersRow.func = some f) (hfn : Tryz.pinned.checked.prog.funcs[f]? = some fn) :
    true = Tryz.pinned.checked.prog.looks [] ∧ ∀ (j : Nat) t, fn.params[j]? = some t → Tryz.pinned.checked.prog.wantsStandIn t = false := by
  obtain rfl : f = 7 := Option.some.inj ((show Tryz.prog.funcNamed Rows.entryOffersRow.func = some 7 by kernel_rfl).symm.trans hf) |>.symm
  obtain rfl : fn = Tryz.f7 := (Option.some.inj (Tryz.func7.symm.trans hfn)).symm
  refine ⟨by kernel_rfl, fun j t ht => ?_⟩
  rw [Tryz.params7] at ht
  have hm := Array.mem_of_getElem? ht
  simp at hm
  rcases hm with rfl | rfl
  · exact (show Tryz.prog.wantsStandIn 55 = false by kernel_rfl)
  · exact (show Tryz.prog.wantsStandIn 48 = false by kernel_rfl)
theorem offers_card : Rows.EntryOffersCardSaid :=
  Claim7.holds_tied_plain_at .later [] _ _ _ _ offers_said (fun _ h => by cases h) (by kernel_rfl) (fun _ h => by cases h) entryOffers_row_tie rfl ⟨rfl, rfl⟩ (by kernel_rfl) rfl offers_plain (by kernel_rfl)

end Go.Proofs.YtddmkgibghohkaaGreatDoor
