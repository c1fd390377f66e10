/- MessageParts: for every kind, every reply part and all bytes the law answers true, and its arguments read as they did. -/
import Derived.Test.YtcjehhejgimmdaaGreatDoorP28
import Derived.Test.YtcjehhejgimmdaaGreatDoorP29
import Derived.Test.YtcjehhejgimmdaaGreatDoorPJb
set_option linter.all false
namespace Go.Proofs.YtcjehhejgimmdaaGreatDoor
open Go Go.Sx Go.ChangeShapes Go.WideShapes Go.ChangeAt Go.RowKit
set_option maxRecDepth 100000
theorem tyPart : tyRd Tryz.prog 8 34 = some PartT := by kernel_rfl
def zPart : Value := .agg #[.int .i64 0, .int .i64 0, .slice none 0 0, .int .i64 0, .int .i64 0, .int .u32 0, .int .i64 0, .int .i64 0, .int .i64 0, .int .i64 0, .slice none 0 0, .string ⟨#[]⟩, .slice none 0 0]
def dPart {H : Type} : DataW H := .agg [.agg [dI, dI, .nil], dI, dI, .lit (.int .u32 0), .agg [dI, dI, dI, dI], .agg [.nil, dS], .nil]
theorem mparts_k1 : (Rows.messagePartsRow.wf (OpenSpec.ofChange Rows.messagePartsSpec)) = true := by kernel_rfl
theorem mparts_k4 : (Tryz.f3.params.all (Tryz.prog.readableRec ·)) = true := by kernel_rfl
theorem mparts_k5 : (namedTie Tryz.prog Rows.messagePartsRow.named Rows.messagePartsSpec.vars) = true := by kernel_rfl
theorem mparts_k6 : ((Rows.messagePartsRow.stops == [])) = true := by kernel_rfl
theorem mparts_k8 : ((Rows.messagePartsRow.knobs == [])) = true := by kernel_rfl
theorem mparts_k10 : ((Rows.messagePartsRow.inPlace == Tryz.prog.inPlace 3)) = true := by kernel_rfl
theorem mparts_k11 : ((Rows.messagePartsRow.unfollowed == Tryz.prog.unfollowed 3)) = true := by kernel_rfl
theorem mparts_k12 : ((Rows.messagePartsRow.recurses == Tryz.prog.recurses 3)) = true := by kernel_rfl
theorem mparts_k13 : ((Rows.messagePartsRow.named == Tryz.prog.varsNamed 3)) = true := by kernel_rfl
theorem mparts_k14 : ((Rows.messagePartsRow.maps == (Tryz.f3.params.toList ++ Rows.messagePartsSpec.plain.varTypes Tryz.prog).any (Tryz.prog.mapsRec ·))) = true := by kernel_rfl
theorem mparts_k15 : ((Rows.messagePartsRow.ifaces == (Tryz.f3.params.toList ++ Rows.messagePartsSpec.plain.varTypes Tryz.prog).any (Tryz.prog.ifacesRec ·))) = true := by kernel_rfl
theorem mparts_k16 : ((Rows.messagePartsRow.mapsOut == Tryz.prog.mapsAmong Tryz.f3.resultTypes.toList)) = true := by kernel_rfl
theorem mparts_k17 : ((Rows.messagePartsRow.loops == (Tryz.f3.params.toList ++ Rows.messagePartsSpec.plain.varTypes Tryz.prog).any (Tryz.prog.loopsFrom ·))) = true := by kernel_rfl
theorem mparts_k18 : ((Rows.messagePartsRow.wideKeys == (Tryz.f3.params.toList ++ Rows.messagePartsSpec.plain.varTypes Tryz.prog ++ Tryz.f3.resultTypes.toList).any (Tryz.prog.wideKeysFrom ·))) = true := by kernel_rfl
theorem mparts_k19 : (Rows.messagePartsSpec.vars.all (Tryz.prog.varReadable ·)) = true := by kernel_rfl
theorem mparts_k20 : (Tryz.f3.resultTypes.all (fun t => Tryz.prog.readableRec t && decide (t < Tryz.prog.types.size))) = true := by kernel_rfl
theorem mparts_k21 : ((Rows.messagePartsRow.ifacesOut == Tryz.f3.resultTypes.toList.any (Tryz.prog.ifacesRec ·))) = true := by kernel_rfl
theorem mparts_k22 : ((Rows.messagePartsRow.loopsOut == Tryz.f3.resultTypes.toList.any (Tryz.prog.loopsFrom ·))) = true := by kernel_rfl
theorem mparts_k23 : ((Rows.messagePartsRow.plainKeys == Tryz.prog.plainKeys)) = true := by kernel_rfl
theorem mparts_k24 : (Rows.messagePartsRow.shortTexts.isNone) = true := by kernel_rfl
theorem mparts_k27 : ((Rows.messagePartsRow.lifted == Tryz.prog.liftsFinal)) = true := by kernel_rfl
theorem mparts_k28 : ((Tryz.prog.make == some Rows.messagePartsRow.make)) = true := by kernel_rfl
theorem mparts_k29 : ((Rows.messagePartsRow.kinds == (if Rows.messagePartsRow.domain.isEmpty then [] else Tryz.f3.params.toList.map fun t => match Tryz.prog.underlying t with | some (.int k) => some k | _ => none))) = true := by kernel_rfl
theorem mparts_k30 : ((Rows.messagePartsRow.pinned == Rows.messagePartsRow.pinnedBy)) = true := by kernel_rfl
theorem mparts_k31 : ((Rows.messagePartsRow.veiled == (Tryz.f3.params.toList ++ Rows.messagePartsSpec.plain.varTypes Tryz.prog ++ Tryz.f3.resultTypes.toList).any (Tryz.prog.veiledRec ·))) = true := by kernel_rfl
theorem mparts_k32 : (Rows.messagePartsRow.veiledFits Tryz.prog Tryz.f3.params.toList (Tryz.f3.params.toList ++ Rows.messagePartsSpec.plain.varTypes Tryz.prog ++ Tryz.f3.resultTypes.toList)) = true := by kernel_rfl
theorem mparts_joined : joinedFacts Tryz.prog 3 Tryz.f3 Rows.messagePartsSpec Rows.messagePartsRow = true :=
 z3I mparts_k1 j1i z9V mparts_k4 mparts_k5 mparts_k6 j0Q mparts_k8 j0C mparts_k10 mparts_k11 mparts_k12 mparts_k13 mparts_k14 mparts_k15 mparts_k16 mparts_k17 mparts_k18 mparts_k19 mparts_k20 mparts_k21 mparts_k22 mparts_k23 mparts_k24 z7E z7Z mparts_k27 mparts_k28 mparts_k29 mparts_k30 mparts_k31 mparts_k32
theorem mparts_tabs {W : World} (h : laidMetH Tryz.prog Rows.messagePartsRow.laid W) : TabT (Cx.top W).I W := by
 have hm := j1R h (by kernel_rfl)
 intro e he
 simp only [tabList, List.mem_cons, List.not_mem_nil, or_false] at he
 rcases he with rfl | rfl | rfl
 · exact z0B hm "internal/strconv.uint64pow10" .u64 [1, 10, 100, 1000, 10000, 100000, 1000000, 10000000, 100000000, 1000000000, 10000000000, 100000000000, 1000000000000, 10000000000000, 100000000000000, 1000000000000000, 10000000000000000, 100000000000000000, 1000000000000000000, 10000000000000000000] 2 (by kernel_rfl) (by kernel_rfl) (by kernel_rfl) (by kernel_rfl) (by kernel_rfl) (by kernel_rfl) (by kernel_rfl) (t := 389) (e := 305) (n := 20)
 · exact z0B hm "math/bits.deBruijn64tab" .u8 [0, 1, 56, 2, 57, 49, 28, 3, 61, 58, 42, 50, 38, 29, 17, 4, 62, 47, 59, 36, 45, 43, 51, 22, 53, 39, 33, 30, 24, 18, 12, 5, 63, 55, 48, 27, 60, 41, 37, 16, 46, 35, 44, 21, 52, 32, 23, 11, 54, 26, 40, 15, 34, 20, 31, 10, 25, 14, 19, 9, 13, 8, 7, 6] 1 (by kernel_rfl) (by kernel_rfl) (by kernel_rfl) (by kernel_rfl) (by kernel_rfl) (by kernel_rfl) (by kernel_rfl) (t := 349) (e := 5) (n := 64)
 exact z0B hm "math/bits.deBruijn32tab" .u8 [0, 1, 28, 2, 29, 14, 24, 3, 30, 22, 20, 15, 25, 17, 4, 8, 31, 27, 13, 23, 21, 19, 16, 7, 26, 12, 18, 6, 11, 5, 10, 9] 0 (by kernel_rfl) (by kernel_rfl) (by kernel_rfl) (by kernel_rfl) (by kernel_rfl) (by kernel_rfl) (by kernel_rfl) (t := 297) (e := 5) (n := 32)
theorem mparts_params : ∀ t ∈ Tryz.f3.params.toList, Tryz.prog.readableRec t = true ∧ t < Tryz.prog.types.size := by
 rw [Tryz.params3]
 intro t ht
 simp at ht
 rcases ht with rfl | rfl | rfl
 · exact ⟨by kernel_rfl, of_decide_eq_true (by kernel_rfl)⟩
 · exact ⟨by kernel_rfl, of_decide_eq_true (by kernel_rfl)⟩
 exact ⟨by kernel_rfl, of_decide_eq_true (by kernel_rfl)⟩
theorem mparts_contract (H : Type) (enc : TypeId × Value → H) (W : World) (base : Nat) (args : Array Value) (ds gs : List (DataW H)) (before : List MemPlace)
 (hval : ∀ (j : Nat) t v, Tryz.f3.params[j]? = some t → args[j]? = some v → Value.okWide Tryz.prog W .any base t v)
 (hW : DataW.Whole enc Tryz.prog Tryz.f3.params.toList Rows.messagePartsSpec.vars false W args.toList ds gs before)
 (hsz : (DataW.weightsEach Tryz.prog (Tryz.f3.params.toList ++ (OpenSpec.ofChange Rows.messagePartsSpec).bare.plain.varTypes Tryz.prog) (ds ++ gs)).all (· ≤ reachBytes) = true) (hlaid : laidMetH Tryz.prog Rows.messagePartsRow.laid W) :
 Calls Tryz.prog 3 args W fun e W' => ∃ v, e = .returned v ∧ Rows.messagePartsSpec.post enc Tryz.prog Tryz.f3 false true false false W args v W' := by
 have hW' := hW
 obtain ⟨p, q, hA0, hV, rfl, hfz, hnd⟩ := hW
 have hA : DataW.TrodAll enc Tryz.prog W 0 (fun _ => true) true Tryz.f3.params.toList args.toList ds p := hA0
 rw [Tryz.params3] at hA hval hsz
 obtain ⟨v0, v1, v2, d0, d1, d2, p0, p1, p2, rfl, rfl, rfl, h0, h1, h2⟩ := trodAll_three hA
 obtain ⟨rfl, rfl⟩ := trodVars_none hV
 have hw : (DataW.weightsEach Tryz.prog [3, 34, 22] [d0, d1, d2]).all (· ≤ reachBytes) = true := hsz
 simp only [DataW.weightsEach] at hw
 obtain ⟨x0, rfl, rfl, rfl, _⟩ := open_int Tryz.underlying3 (hval 0 3 v0 rfl rfl) h0
 obtain ⟨x1, e1, o1, r1⟩ := z3p Tryz.underlying34 tyPart (hval 1 34 v1 rfl rfl) h1 (q0X (q0X hw).2).1
 obtain ⟨x2, e2, o2, r2⟩ := z5u (show Tryz.prog.underlying 22 = some (.slice 5) by kernel_rfl) (show tyRd Tryz.prog 8 22 = some (.slice (.u8)) by kernel_rfl) (hval 2 22 v2 rfl rfl) h2 (q0X (q0X (q0X hw).2).2).1
 have hden : SV.denL (Cx.top W) [rI x0, .agg ((PartT).cells x1), .isl (.u8) x2] [(.int .i64 x0), v1, v2] :=
  q0g.2 ⟨_, _, rfl, by rw [SV.den], q0g.2 ⟨_, _, rfl, e1, q0g.2 ⟨_, _, rfl, e2, q0F.2 rfl⟩⟩⟩
 refine (z0L (z4X x0 x1 o1 r1 x2) hden (mparts_tabs hlaid)).mono fun e W' ⟨he, hb⟩ => ⟨_, he, ?_⟩
 exact z7C laidOutK mparts_params (by kernel_rfl) Tryz.underlying4 rfl hW' rfl hb
theorem mparts_met (os : Os) : laidMet Tryz.prog Rows.messagePartsRow.laid ((laidWorld os).forCall (fun _ _ => 0) ⟨#[], #[.int .i64 0, zPart, .slice none 0 0], []⟩).memory :=
 laidMet_of_run' 8 (by kernel_rfl) (by kernel_rfl)
theorem mparts_reads (os : Os) {H : Type} (enc : TypeId × Value → H) : ∃ places, DataW.whole enc Tryz.prog ((laidWorld os).forCall (fun _ _ => 0) ⟨#[], #[.int .i64 0, zPart, .slice none 0 0], []⟩).memory Tryz.f3.params.toList Rows.messagePartsSpec.vars false #[Value.int .i64 0, zPart, Value.slice none 0 0].toList 8 = some ([dI, dPart, .nil], [], places) :=
 ⟨[], by kernel_rfl⟩
theorem mparts_lifted (os : Os) (started : os.Started) (H : Type) (enc : TypeId × Value → H) (F : Stop.Interp) :
 ReturnsInHanded {} Tryz.checked os 3 .any ((OpenSpec.ofChange Rows.messagePartsSpec).preRow enc Tryz.prog Tryz.f3 Rows.messagePartsRow.domain false Rows.messagePartsRow.laid) (((OpenSpec.ofChange Rows.messagePartsSpec).at F).post enc Tryz.prog Tryz.f3 false true false false) := by
 obtain ⟨places, hx⟩ := mparts_reads os enc
 refine returnsInHanded_of_row (C := Tryz.checked) (s := OpenSpec.ofChange Rows.messagePartsSpec) ownK started (by kernel_rfl) Tryz.func3
  (witness_row_at (enc := enc) (C := Tryz.checked) false (laidWorld os) #[.int .i64 0, zPart, .slice none 0 0] rfl (by kernel_rfl) (by kernel_rfl) (by kernel_rfl)
   (OpenSpec.preRow_of_cond 8 hx (by kernel_rfl) (fun k hk => by cases hk) (by kernel_rfl) (mparts_met os))) ?_
 intro W base args ds gs before hval hW _ _ hsz hlaid _ _
 exact mparts_contract H enc W base args ds gs before hval hW hsz hlaid
theorem mparts_named : Tryz.pinned.checked.prog.funcNamed Rows.messagePartsRow.func = some 3 := by kernel_rfl
theorem mparts_said : Rows.MessagePartsSaid :=
 OpenClaim.holds_of_cond 3 Tryz.f3 rfl rfl rfl rfl rfl rfl rfl ⟨rfl, rfl, rfl, rfl, rfl⟩ rfl rfl rfl rfl rfl mparts_named Tryz.func3 mparts_joined
  (of_decide_eq_true (by kernel_rfl)) (by unfold Func.isWrapper; first | (rw [if_pos (by decide +kernel)]; kernel_rfl) | (rw [if_neg (by decide +kernel)]; exact ⟨rfl, rfl⟩))
  (fun os started H enc _ F => by rw [OpenClaim.pre_eq_preRow]; exact mparts_lifted os started H enc F)
theorem mparts_plain (f : FuncId) (fn : Func) (hf : Tryz.pinned.checked.prog.funcNamed Rows.messagePartsRow.func = some f) (hfn : Tryz.pinned.checked.prog.funcs[f]? = some fn) :
 true = Tryz.pinned.checked.prog.looks [] ∧ ∀ (j : Nat) t, fn.params[j]? = some t → Tryz.pinned.checked.prog.wantsStandIn t = false := by
 obtain rfl : f = 3 := Option.some.inj ((show Tryz.prog.funcNamed Rows.messagePartsRow.func = some 3 by kernel_rfl).symm.trans hf) |>.symm
 obtain rfl : fn = Tryz.f3 := (Option.some.inj (Tryz.func3.symm.trans hfn)).symm
 refine ⟨by kernel_rfl, fun j t ht => ?_⟩
 rw [Tryz.params3] at ht
 have hm := Array.mem_of_getElem? ht
 simp at hm
 rcases hm with rfl | rfl | rfl
 · exact (show Tryz.prog.wantsStandIn 3 = false by kernel_rfl)
 · exact (show Tryz.prog.wantsStandIn 34 = false by kernel_rfl)
 exact (show Tryz.prog.wantsStandIn 22 = false by kernel_rfl)
theorem mparts_card : Rows.MessagePartsCardSaid :=
 Claim7.holds_tied_plain_at .later [] _ _ _ _ mparts_said (fun _ h => by cases h) (by kernel_rfl) (fun _ h => by cases h) messageParts_row_tie rfl ⟨rfl, rfl⟩ (by kernel_rfl) rfl mparts_plain (by kernel_rfl)

end Go.Proofs.YtcjehhejgimmdaaGreatDoor
