/- The rows' closed facts, one by one: the kernel looks at each alone. -/
import Derived.Test.YtddmkgibghohkaaGreatDoorCards
import Derived.JoinedOf
import Derived.JoinedCond
import Derived.KernelRfl
set_option linter.unusedSimpArgs false
set_option linter.unusedVariables false
namespace Go.Proofs.YtddmkgibghohkaaGreatDoor
open Go
set_option maxRecDepth 100000
theorem joined_mk {P : Program} {f : FuncId} {fn : Func} {s : ChangeSpec} {c : OpenClaim} (k1 : (c.wf (OpenSpec.ofChange s)) = true) (k2 : (laidOutB P) = true) (k3 : (mapsRowed P) = true) (k4 : (fn.params.all (P.readableRec ·)) = true) (k5 : (namedTie P c.named s.vars) = true) (k6 : ((c.stops == [])) = true) (k7 : ((P.stops == [])) = true) (k8 : ((c.knobs == [])) = true) (k9 : ((P.stopKnobs == [])) = true) (k10 : ((c.inPlace == P.inPlace f)) = true) (k11 : ((c.unfollowed == P.unfollowed f)) = true) (k12 : ((c.recurses == P.recurses f)) = true) (k13 : ((c.named == P.varsNamed f)) = true) (k14 : ((c.maps == (fn.params.toList ++ s.plain.varTypes P).any (P.mapsRec ·))) = true) (k15 : ((c.ifaces == (fn.params.toList ++ s.plain.varTypes P).any (P.ifacesRec ·))) = true) (k16 : ((c.mapsOut == P.mapsAmong fn.resultTypes.toList)) = true) (k17 : ((c.loops == (fn.params.toList ++ s.plain.varTypes P).any (P.loopsFrom ·))) = true) (k18 : ((c.wideKeys == (fn.params.toList ++ s.plain.varTypes P ++ fn.resultTypes.toList).any (P.wideKeysFrom ·))) = true) (k19 : (s.vars.all (P.varReadable ·)) = true) (k20 : (fn.resultTypes.all (fun t => P.readableRec t && decide (t < P.types.size))) = true) (k21 : ((c.ifacesOut == fn.resultTypes.toList.any (P.ifacesRec ·))) = true) (k22 : ((c.loopsOut == fn.resultTypes.toList.any (P.loopsFrom ·))) = true) (k23 : ((c.plainKeys == P.plainKeys)) = true) (k24 : (c.shortTexts.isNone) = true) (k25 : (P.stopsHeard) = true) (k26 : (P.mayEnter) = true) (k27 : ((c.lifted == P.liftsFinal)) = true) (k28 : ((P.make == some c.make)) = true) (k29 : ((c.kinds == (if c.domain.isEmpty then [] else fn.params.toList.map fun t => match P.underlying t with | some (.int k) => some k | _ => none))) = true) (k30 : ((c.pinned == c.pinnedBy)) = true) (k31 : ((c.veiled == (fn.params.toList ++ s.plain.varTypes P ++ fn.resultTypes.toList).any (P.veiledRec ·))) = true) (k32 : (c.veiledFits P fn.params.toList (fn.params.toList ++ s.plain.varTypes P ++ fn.resultTypes.toList)) = true) : joinedFacts P f fn s c = true := by
  simp only [joinedFacts, Bool.and_eq_true]
  exact ⟨⟨⟨⟨⟨⟨⟨⟨⟨⟨⟨⟨⟨⟨⟨⟨⟨⟨⟨⟨⟨⟨⟨⟨⟨⟨⟨⟨⟨⟨⟨k1, k2⟩, k3⟩, k4⟩, k5⟩, k6⟩, k7⟩, k8⟩, k9⟩, k10⟩, k11⟩, k12⟩, k13⟩, k14⟩, k15⟩, k16⟩, k17⟩, k18⟩, k19⟩, k20⟩, k21⟩, k22⟩, k23⟩, k24⟩, k25⟩, k26⟩, k27⟩, k28⟩, k29⟩, k30⟩, k31⟩, k32⟩
theorem finds_k1 : (Rows.entryFindsRow.wf (OpenSpec.ofChange Rows.entryFindsSpec)) = true := by kernel_rfl
theorem finds_k2 : (laidOutB Tryz.prog) = true := by kernel_rfl
theorem finds_k3 : (mapsRowed Tryz.prog) = true := by kernel_rfl
theorem finds_k4 : (Tryz.f4.params.all (Tryz.prog.readableRec ·)) = true := by kernel_rfl
theorem finds_k5 : (namedTie Tryz.prog Rows.entryFindsRow.named Rows.entryFindsSpec.vars) = true := by kernel_rfl
theorem finds_k6 : ((Rows.entryFindsRow.stops == [])) = true := by kernel_rfl
theorem finds_k7 : ((Tryz.prog.stops == [])) = true := by kernel_rfl
theorem finds_k8 : ((Rows.entryFindsRow.knobs == [])) = true := by kernel_rfl
theorem finds_k9 : ((Tryz.prog.stopKnobs == [])) = true := by kernel_rfl
theorem finds_k10 : ((Rows.entryFindsRow.inPlace == Tryz.prog.inPlace 4)) = true := by kernel_rfl
theorem finds_k11 : ((Rows.entryFindsRow.unfollowed == Tryz.prog.unfollowed 4)) = true := by kernel_rfl
theorem finds_k12 : ((Rows.entryFindsRow.recurses == Tryz.prog.recurses 4)) = true := by kernel_rfl
theorem finds_k13 : ((Rows.entryFindsRow.named == Tryz.prog.varsNamed 4)) = true := by kernel_rfl
theorem finds_k14 : ((Rows.entryFindsRow.maps == (Tryz.f4.params.toList ++ Rows.entryFindsSpec.plain.varTypes Tryz.prog).any (Tryz.prog.mapsRec ·))) = true := by kernel_rfl
theorem finds_k15 : ((Rows.entryFindsRow.ifaces == (Tryz.f4.params.toList ++ Rows.entryFindsSpec.plain.varTypes Tryz.prog).any (Tryz.prog.ifacesRec ·))) = true := by kernel_rfl
theorem finds_k16 : ((Rows.entryFindsRow.mapsOut == Tryz.prog.mapsAmong Tryz.f4.resultTypes.toList)) = true := by kernel_rfl
theorem finds_k17 : ((Rows.entryFindsRow.loops == (Tryz.f4.params.toList ++ Rows.entryFindsSpec.plain.varTypes Tryz.prog).any (Tryz.prog.loopsFrom ·))) = true := by kernel_rfl
theorem finds_k18 : ((Rows.entryFindsRow.wideKeys == (Tryz.f4.params.toList ++ Rows.entryFindsSpec.plain.varTypes Tryz.prog ++ Tryz.f4.resultTypes.toList).any (Tryz.prog.wideKeysFrom ·))) = true := by kernel_rfl
theorem finds_k19 : (Rows.entryFindsSpec.vars.all (Tryz.prog.varReadable ·)) = true := by kernel_rfl
theorem finds_k20 : (Tryz.f4.resultTypes.all (fun t => Tryz.prog.readableRec t && decide (t < Tryz.prog.types.size))) = true := by kernel_rfl
theorem finds_k21 : ((Rows.entryFindsRow.ifacesOut == Tryz.f4.resultTypes.toList.any (Tryz.prog.ifacesRec ·))) = true := by kernel_rfl
theorem finds_k22 : ((Rows.entryFindsRow.loopsOut == Tryz.f4.resultTypes.toList.any (Tryz.prog.loopsFrom ·))) = true := by kernel_rfl
theorem finds_k23 : ((Rows.entryFindsRow.plainKeys == Tryz.prog.plainKeys)) = true := by kernel_rfl
theorem finds_k24 : (Rows.entryFindsRow.shortTexts.isNone) = true := by kernel_rfl
theorem finds_k25 : (Tryz.prog.stopsHeard) = true := by kernel_rfl
theorem finds_k26 : (Tryz.prog.mayEnter) = true := by kernel_rfl
theorem finds_k27 : ((Rows.entryFindsRow.lifted == Tryz.prog.liftsFinal)) = true := by kernel_rfl
theorem finds_k28 : ((Tryz.prog.make == some Rows.entryFindsRow.make)) = true := by kernel_rfl
theorem finds_k29 : ((Rows.entryFindsRow.kinds == (if Rows.entryFindsRow.domain.isEmpty then [] else Tryz.f4.params.toList.map fun t => match Tryz.prog.underlying t with | some (.int k) => some k | _ => none))) = true := by kernel_rfl
theorem finds_k30 : ((Rows.entryFindsRow.pinned == Rows.entryFindsRow.pinnedBy)) = true := by kernel_rfl
theorem finds_k31 : ((Rows.entryFindsRow.veiled == (Tryz.f4.params.toList ++ Rows.entryFindsSpec.plain.varTypes Tryz.prog ++ Tryz.f4.resultTypes.toList).any (Tryz.prog.veiledRec ·))) = true := by kernel_rfl
theorem finds_k32 : (Rows.entryFindsRow.veiledFits Tryz.prog Tryz.f4.params.toList (Tryz.f4.params.toList ++ Rows.entryFindsSpec.plain.varTypes Tryz.prog ++ Tryz.f4.resultTypes.toList)) = true := by kernel_rfl
theorem finds_joined : joinedFacts Tryz.prog 4 Tryz.f4 Rows.entryFindsSpec Rows.entryFindsRow = true :=
  joined_mk finds_k1 finds_k2 finds_k3 finds_k4 finds_k5 finds_k6 finds_k7 finds_k8 finds_k9 finds_k10 finds_k11 finds_k12 finds_k13 finds_k14 finds_k15 finds_k16 finds_k17 finds_k18 finds_k19 finds_k20 finds_k21 finds_k22 finds_k23 finds_k24 finds_k25 finds_k26 finds_k27 finds_k28 finds_k29 finds_k30 finds_k31 finds_k32
theorem changes_k1 : (Rows.entryChangesRow.wf (OpenSpec.ofChange Rows.entryChangesSpec)) = true := by kernel_rfl
theorem changes_k4 : (Tryz.f3.params.all (Tryz.prog.readableRec ·)) = true := by kernel_rfl
theorem changes_k5 : (namedTie Tryz.prog Rows.entryChangesRow.named Rows.entryChangesSpec.vars) = true := by kernel_rfl
theorem changes_k6 : ((Rows.entryChangesRow.stops == [])) = true := by kernel_rfl
theorem changes_k8 : ((Rows.entryChangesRow.knobs == [])) = true := by kernel_rfl
theorem changes_k10 : ((Rows.entryChangesRow.inPlace == Tryz.prog.inPlace 3)) = true := by kernel_rfl
theorem changes_k11 : ((Rows.entryChangesRow.unfollowed == Tryz.prog.unfollowed 3)) = true := by kernel_rfl
theorem changes_k12 : ((Rows.entryChangesRow.recurses == Tryz.prog.recurses 3)) = true := by kernel_rfl
theorem changes_k13 : ((Rows.entryChangesRow.named == Tryz.prog.varsNamed 3)) = true := by kernel_rfl
theorem changes_k14 : ((Rows.entryChangesRow.maps == (Tryz.f3.params.toList ++ Rows.entryChangesSpec.plain.varTypes Tryz.prog).any (Tryz.prog.mapsRec ·))) = true := by kernel_rfl
theorem changes_k15 : ((Rows.entryChangesRow.ifaces == (Tryz.f3.params.toList ++ Rows.entryChangesSpec.plain.varTypes Tryz.prog).any (Tryz.prog.ifacesRec ·))) = true := by kernel_rfl
theorem changes_k16 : ((Rows.entryChangesRow.mapsOut == Tryz.prog.mapsAmong Tryz.f3.resultTypes.toList)) = true := by kernel_rfl
theorem changes_k17 : ((Rows.entryChangesRow.loops == (Tryz.f3.params.toList ++ Rows.entryChangesSpec.plain.varTypes Tryz.prog).any (Tryz.prog.loopsFrom ·))) = true := by kernel_rfl
theorem changes_k18 : ((Rows.entryChangesRow.wideKeys == (Tryz.f3.params.toList ++ Rows.entryChangesSpec.plain.varTypes Tryz.prog ++ Tryz.f3.resultTypes.toList).any (Tryz.prog.wideKeysFrom ·))) = true := by kernel_rfl
theorem changes_k19 : (Rows.entryChangesSpec.vars.all (Tryz.prog.varReadable ·)) = true := by kernel_rfl
theorem changes_k20 : (Tryz.f3.resultTypes.all (fun t => Tryz.prog.readableRec t && decide (t < Tryz.prog.types.size))) = true := by kernel_rfl
theorem changes_k21 : ((Rows.entryChangesRow.ifacesOut == Tryz.f3.resultTypes.toList.any (Tryz.prog.ifacesRec ·))) = true := by kernel_rfl
theorem changes_k22 : ((Rows.entryChangesRow.loopsOut == Tryz.f3.resultTypes.toList.any (Tryz.prog.loopsFrom ·))) = true := by kernel_rfl
theorem changes_k23 : ((Rows.entryChangesRow.plainKeys == Tryz.prog.plainKeys)) = true := by kernel_rfl
theorem changes_k24 : (Rows.entryChangesRow.shortTexts.isNone) = true := by kernel_rfl
theorem changes_k27 : ((Rows.entryChangesRow.lifted == Tryz.prog.liftsFinal)) = true := by kernel_rfl
theorem changes_k28 : ((Tryz.prog.make == some Rows.entryChangesRow.make)) = true := by kernel_rfl
theorem changes_k29 : ((Rows.entryChangesRow.kinds == (if Rows.entryChangesRow.domain.isEmpty then [] else Tryz.f3.params.toList.map fun t => match Tryz.prog.underlying t with | some (.int k) => some k | _ => none))) = true := by kernel_rfl
theorem changes_k30 : ((Rows.entryChangesRow.pinned == Rows.entryChangesRow.pinnedBy)) = true := by kernel_rfl
theorem changes_k31 : ((Rows.entryChangesRow.veiled == (Tryz.f3.params.toList ++ Rows.entryChangesSpec.plain.varTypes Tryz.prog ++ Tryz.f3.resultTypes.toList).any (Tryz.prog.veiledRec ·))) = true := by kernel_rfl
theorem changes_k32 : (Rows.entryChangesRow.veiledFits Tryz.prog Tryz.f3.params.toList (Tryz.f3.params.toList ++ Rows.entryChangesSpec.plain.varTypes Tryz.prog ++ Tryz.f3.resultTypes.toList)) = true := by kernel_rfl
theorem changes_joined : joinedFacts Tryz.prog 3 Tryz.f3 Rows.entryChangesSpec Rows.entryChangesRow = true :=
  joined_mk changes_k1 finds_k2 finds_k3 changes_k4 changes_k5 changes_k6 finds_k7 changes_k8 finds_k9 changes_k10 changes_k11 changes_k12 changes_k13 changes_k14 changes_k15 changes_k16 changes_k17 changes_k18 changes_k19 changes_k20 changes_k21 changes_k22 changes_k23 changes_k24 finds_k25 finds_k26 changes_k27 changes_k28 changes_k29 changes_k30 changes_k31 changes_k32
end Go.Proofs.YtddmkgibghohkaaGreatDoor
