/- EntryFinds: for every entry, version and profile the law answers true, and its arguments read as they did. -/
import Derived.Test.YtddmkgibghohkaaGreatDoorPLa
import Derived.Test.YtddmkgibghohkaaGreatDoorPRw
import Derived.Test.YtddmkgibghohkaaGreatDoorPJf
set_option linter.unusedSimpArgs false
set_option linter.unusedVariables false
namespace Go.Proofs.YtddmkgibghohkaaGreatDoor
open Go Go.Sx Go.ChangeShapes Go.WideShapes Go.ChangeAt Go.RowKit
set_option maxRecDepth 100000

theorem finds_params : ∀ t ∈ Tryz.f4.params.toList, Tryz.prog.readableRec t = true ∧ t < Tryz.prog.types.size := by
  rw [Tryz.params4]
  intro t ht
  simp at ht
  rcases ht with rfl | rfl
  · exact ⟨by kernel_rfl, of_decide_eq_true (by kernel_rfl)⟩
  · exact ⟨by kernel_rfl, of_decide_eq_true (by kernel_rfl)⟩
theorem finds_contract (H : Type) (enc : TypeId × Value → H) (W : World) (base : Nat) (args : Array Value) (ds gs : List (DataW H)) (before : List MemPlace)
    (hval : ∀ (j : Nat) t v, Tryz.f4.params[j]? = some t → args[j]? = some v → Value.okWide Tryz.prog W .any base t v)
    (hW : DataW.Whole enc Tryz.prog Tryz.f4.params.toList Rows.entryFindsSpec.vars false W args.toList ds gs before)
    (hsz : (DataW.weightsEach Tryz.prog (Tryz.f4.params.toList ++ (OpenSpec.ofChange Rows.entryFindsSpec).bare.plain.varTypes Tryz.prog) (ds ++ gs)).all (· ≤ reachBytes) = true) :
    Calls Tryz.prog 4 args W fun e W' => ∃ v, e = .returned v ∧ Rows.entryFindsSpec.post enc Tryz.prog Tryz.f4 false true false false W args v W' := by
  have hW' := hW
  obtain ⟨p, q, hA0, hV, rfl, hfz, hnd⟩ := hW
  have hA : DataW.TrodAll enc Tryz.prog W 0 (fun _ => true) true Tryz.f4.params.toList args.toList ds p := hA0
  rw [Tryz.params4] at hA hval hsz
  obtain ⟨v0, v1, v2, d0, d1, d2, p0, p1, p2, rfl, rfl, rfl, h0, h1, h2⟩ := trodAll_three hA
  obtain ⟨rfl, rfl⟩ := trodVars_none hV
  have hw : (DataW.weightsEach Tryz.prog [31, 3, 3] [d0, d1, d2]).all (· ≤ reachBytes) = true := hsz
  simp only [DataW.weightsEach] at hw
  obtain ⟨x, hx1, hx2, hx3⟩ := arg_struct Tryz.underlying31 tyEnt (hval 0 31 v0 rfl rfl) h0 (all_append_le hw).1
  obtain ⟨n1, rfl, rfl, rfl, _⟩ := open_int Tryz.underlying3 (hval 1 3 v1 rfl rfl) h1
  obtain ⟨n2, rfl, rfl, rfl, _⟩ := open_int Tryz.underlying3 (hval 2 3 v2 rfl rfl) h2
  have hden : SV.denL (Cx.top W) [.agg (EntT.cells x), rI n1, rI n2] [v0, .int .i64 n1, .int .i64 n2] :=
    denL_cons.2 ⟨v0, _, rfl, hx1, denL_cons.2 ⟨_, _, rfl, by rw [SV.den], denL_cons.2 ⟨_, _, rfl, by rw [SV.den], denL_nil.2 rfl⟩⟩⟩
  refine (calls_of_pc (finds_law x n1 n2 hx2 hx3.2.2.1) hden).mono fun e W' ⟨he, hb⟩ => ⟨_, he, ?_⟩
  exact law_post laidOutK finds_params (by kernel_rfl) Tryz.underlying4 rfl hW' rfl hb
theorem finds_met (os : Os) : laidMet Tryz.prog Rows.entryFindsRow.laid ((laidWorld os).forCall (fun _ _ => 0) ⟨#[], #[zEnt, .int .i64 0, .int .i64 0], []⟩).memory :=
  laidMet_of_run' 8 (by kernel_rfl) (by kernel_rfl)
theorem finds_reads (os : Os) {H : Type} (enc : TypeId × Value → H) : ∃ places, DataW.whole enc Tryz.prog ((laidWorld os).forCall (fun _ _ => 0) ⟨#[], #[zEnt, .int .i64 0, .int .i64 0], []⟩).memory Tryz.f4.params.toList Rows.entryFindsSpec.vars false #[zEnt, Value.int .i64 0, Value.int .i64 0].toList 8 = some ([dEnt, dI, dI], [], places) :=
  ⟨[], by kernel_rfl⟩
theorem finds_lifted (os : Os) (started : os.Started) (H : Type) (enc : TypeId × Value → H) (F : Stop.Interp) :
    ReturnsInHanded {} Tryz.checked os 4 .any ((OpenSpec.ofChange Rows.entryFindsSpec).preRow enc Tryz.prog Tryz.f4 Rows.entryFindsRow.domain false Rows.entryFindsRow.laid) (((OpenSpec.ofChange Rows.entryFindsSpec).at F).post enc Tryz.prog Tryz.f4 false true false false) := by
  obtain ⟨places, hx⟩ := finds_reads os enc
  refine returnsInHanded_of_row (C := Tryz.checked) (s := OpenSpec.ofChange Rows.entryFindsSpec) ownK started (by kernel_rfl) Tryz.func4
    (witness_row_at (enc := enc) (C := Tryz.checked) false (laidWorld os) #[zEnt, .int .i64 0, .int .i64 0] rfl (by kernel_rfl) (by kernel_rfl) (by kernel_rfl)
      (OpenSpec.preRow_of_cond 8 hx (by kernel_rfl) (fun k hk => by cases hk) (by kernel_rfl) (finds_met os))) ?_
  intro W base args ds gs before hval hW _ _ hsz _ _ _
  exact finds_contract H enc W base args ds gs before hval hW hsz
theorem finds_named : Tryz.pinned.checked.prog.funcNamed Rows.entryFindsRow.func = some 4 := by kernel_rfl
theorem finds_said : Rows.EntryFindsSaid :=
  OpenClaim.holds_of_cond 4 Tryz.f4 rfl rfl rfl rfl rfl rfl rfl ⟨rfl, rfl, rfl, rfl, rfl⟩ rfl rfl rfl rfl rfl finds_named Tryz.func4 finds_joined
    (of_decide_eq_true (by kernel_rfl)) (by unfold Func.isWrapper; first | (rw [if_pos (by decide +kernel)]; kernel_rfl) | (rw [if_neg (by decide +kernel)]; exact ⟨rfl, rfl⟩))
    (fun os started H enc _ F => by rw [OpenClaim.pre_eq_preRow]; exact finds_lifted os started H enc F)
theorem finds_plain (f : FuncId) (fn : Func) (hf : Tryz.pinned.checked.prog.funcNamed Rows.entryFindsRow.func = some f) (hfn : Tryz.pinned.checked.prog.funcs[f]? = some fn) :
    true = Tryz.pinned.checked.prog.looks [] ∧ ∀ (j : Nat) t, fn.params[j]? = some t → Tryz.pinned.checked.prog.wantsStandIn t = false := by
  obtain rfl : f = 4 := Option.some.inj ((show Tryz.prog.funcNamed Rows.entryFindsRow.func = some 4 by kernel_rfl).symm.trans hf) |>.symm
  obtain rfl : fn = Tryz.f4 := (Option.some.inj (Tryz.func4.symm.trans hfn)).symm
  refine ⟨by kernel_rfl, fun j t ht => ?_⟩
  rw [Tryz.params4] at ht
  have hm := Array.mem_of_getElem? ht
  simp at hm
  rcases hm with rfl | rfl
  · exact (show Tryz.prog.wantsStandIn 31 = false by kernel_rfl)
  · exact (show Tryz.prog.wantsStandIn 3 = false by kernel_rfl)
theorem finds_card : Rows.EntryFindsCardSaid :=
  Claim7.holds_tied_plain_at .later [] _ _ _ _ finds_said (fun _ h => by cases h) (by kernel_rfl) (fun _ h => by cases h) entryFinds_row_tie rfl ⟨rfl, rfl⟩ (by kernel_rfl) rfl finds_plain (by kernel_rfl)
end Go.Proofs.YtddmkgibghohkaaGreatDoor
