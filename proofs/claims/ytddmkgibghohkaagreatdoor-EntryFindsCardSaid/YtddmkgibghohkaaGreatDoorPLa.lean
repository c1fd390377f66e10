/- The laws: EntryFinds, EntryChanges. -/
import Derived.Test.YtddmkgibghohkaaGreatDoorP26
set_option linter.unusedSimpArgs false
set_option linter.unusedVariables false
namespace Go.Proofs.YtddmkgibghohkaaGreatDoor
open Go Go.Sx Go.Proofs
set_option maxRecDepth 100000
set_option maxHeartbeats 4000000
set_option linter.unusedSimpArgs false

theorem zset_ok : SetT.ok SetT.dflt := ⟨trivial, ⟨by decide, fun x hx => by cases hx⟩, okstr _ (by decide), trivial, trivial⟩
theorem ofS_len (e : Ent) (ho : EntT.ok e) : (ofS e).1.length ≤ 1125899906842624 := by
  unfold ofS
  split
  · simp
  · split
    · simp
    · rename_i h
      have h0 : 0 < List.length e.2.2.2.2.1 := by have h' : ¬ List.length e.2.2.2.2.1 = 0 := h; omega
      rw [offN_len (Nat.le_refl _)]
      exact (ho.2.2.2.2.1.2 _ (getD_mem (d := SetT.dflt) h0)).2.1.1
theorem finds_law (e : Ent) (v p : Int) (ho : EntT.ok e) (ha : 0 ≤ e.2.2.1 ∧ e.2.2.1 ≤ 4294967295) : PC Tryz.prog 4 [.agg (EntT.cells e), rI v, rI p] (rB true) := by
  have csof : PC Tryz.prog 25 [.isl SaltT (ofS e).1, .isl SaltT (ofS e).1] (rB true) := by have h := rsameOffer_c (ofS e).1 (ofS e).1 (ofS_len e ho); rwa [decide_eq_true rfl] at h
  have csset : ∀ s : KSet, SetT.ok s → PC Tryz.prog 26 [.agg (SetT.cells s), .agg (SetT.cells s)] (rB true) := fun s hs => by have h := rsset_c s s hs; rwa [decide_eq_true rfl] at h
  refine pc_of rfl rfl ?_
  refine vc_fi fi4 (run_sound mixed 600 _ ?_)
  simp (maxSteps := 3000000) only [ir4, go_sem, ↓bothG_tt, ↓bothG_tf, ↓bothG_ft, ↓bothG_ff, ↓reduceIte, ↓reduceDIte, reduceCtorEq, Nat.reduceAdd, Nat.reduceSub, Nat.reduceLeDiff, Nat.reduceLT, Nat.reduceEqDiff, Nat.reduceBEq, Nat.reduceMul, Int.reduceToNat, Int.reduceEq, Int.reduceLT, Int.reduceLE] <;> try simp only [bothG_t, bothG_f, decide_eq_true_eq, decide_eq_false_iff_not, Bool.not_eq_true', Bool.not_eq_false', Int.ofNat_lt, Int.ofNat_le]
  refine callI_pure (small_c e ho) ?_
  refine run_sound mixed 600 _ ?_
  simp (maxSteps := 3000000) only [go_sem, ↓bothG_tt, ↓bothG_tf, ↓bothG_ft, ↓bothG_ff, ↓reduceIte, ↓reduceDIte, reduceCtorEq, Nat.reduceAdd, Nat.reduceSub, Nat.reduceLeDiff, Nat.reduceLT, Nat.reduceEqDiff, Nat.reduceBEq, Nat.reduceMul, Int.reduceToNat, Int.reduceEq, Int.reduceLT, Int.reduceLE] <;> try simp only [bothG_t, bothG_f, decide_eq_true_eq, decide_eq_false_iff_not, Bool.not_eq_true', Bool.not_eq_false', Int.ofNat_lt, Int.ofNat_le]
  refine ⟨fun _ => callI_pure known_c ?_, fun _ => ?_⟩
  · refine run_sound mixed 600 _ ?_
    simp (maxSteps := 3000000) only [go_sem, ↓bothG_tt, ↓bothG_tf, ↓bothG_ft, ↓bothG_ff, ↓reduceIte, ↓reduceDIte, reduceCtorEq, Nat.reduceAdd, Nat.reduceSub, Nat.reduceLeDiff, Nat.reduceLT, Nat.reduceEqDiff, Nat.reduceBEq, Nat.reduceMul, Int.reduceToNat, Int.reduceEq, Int.reduceLT, Int.reduceLE] <;> try simp only [bothG_t, bothG_f, decide_eq_true_eq, decide_eq_false_iff_not, Bool.not_eq_true', Bool.not_eq_false', Int.ofNat_lt, Int.ofNat_le]
  cases hv : vEnt e with
  | false =>
    have hC : curS e = (SetT.dflt, 2) := by unfold curS; rw [if_pos hv]
    have ccur := current_c e ho
    rw [hC] at ccur
    refine callI_pure (efind_c e v p ho) ?_
    refine run_sound mixed 600 _ ?_
    simp (maxSteps := 3000000) only [go_sem, ↓bothG_tt, ↓bothG_tf, ↓bothG_ft, ↓bothG_ff, ↓reduceIte, ↓reduceDIte, reduceCtorEq, Nat.reduceAdd, Nat.reduceSub, Nat.reduceLeDiff, Nat.reduceLT, Nat.reduceEqDiff, Nat.reduceBEq, Nat.reduceMul, Int.reduceToNat, Int.reduceEq, Int.reduceLT, Int.reduceLE] <;> try simp only [bothG_t, bothG_f, decide_eq_true_eq, decide_eq_false_iff_not, Bool.not_eq_true', Bool.not_eq_false', Int.ofNat_lt, Int.ofNat_le]
    refine callI_pure (rfind_c e v p ho ha) ?_
    refine run_sound mixed 600 _ ?_
    simp (maxSteps := 3000000) only [go_sem, ↓bothG_tt, ↓bothG_tf, ↓bothG_ft, ↓bothG_ff, ↓reduceIte, ↓reduceDIte, reduceCtorEq, Nat.reduceAdd, Nat.reduceSub, Nat.reduceLeDiff, Nat.reduceLT, Nat.reduceEqDiff, Nat.reduceBEq, Nat.reduceMul, Int.reduceToNat, Int.reduceEq, Int.reduceLT, Int.reduceLE] <;> try simp only [bothG_t, bothG_f, decide_eq_true_eq, decide_eq_false_iff_not, Bool.not_eq_true', Bool.not_eq_false', Int.ofNat_lt, Int.ofNat_le]
    refine callI_pure (offer_c e ho) ?_
    refine run_sound mixed 600 _ ?_
    simp (maxSteps := 3000000) only [go_sem, ↓bothG_tt, ↓bothG_tf, ↓bothG_ft, ↓bothG_ff, ↓reduceIte, ↓reduceDIte, reduceCtorEq, Nat.reduceAdd, Nat.reduceSub, Nat.reduceLeDiff, Nat.reduceLT, Nat.reduceEqDiff, Nat.reduceBEq, Nat.reduceMul, Int.reduceToNat, Int.reduceEq, Int.reduceLT, Int.reduceLE] <;> try simp only [bothG_t, bothG_f, decide_eq_true_eq, decide_eq_false_iff_not, Bool.not_eq_true', Bool.not_eq_false', Int.ofNat_lt, Int.ofNat_le]
    refine callI_pure (roffer_c e ho ha) ?_
    refine run_sound mixed 600 _ ?_
    simp (maxSteps := 3000000) only [go_sem, ↓bothG_tt, ↓bothG_tf, ↓bothG_ft, ↓bothG_ff, ↓reduceIte, ↓reduceDIte, reduceCtorEq, Nat.reduceAdd, Nat.reduceSub, Nat.reduceLeDiff, Nat.reduceLT, Nat.reduceEqDiff, Nat.reduceBEq, Nat.reduceMul, Int.reduceToNat, Int.reduceEq, Int.reduceLT, Int.reduceLE] <;> try simp only [bothG_t, bothG_f, decide_eq_true_eq, decide_eq_false_iff_not, Bool.not_eq_true', Bool.not_eq_false', Int.ofNat_lt, Int.ofNat_le]
    refine callI_pure ccur ?_
    refine run_sound mixed 600 _ ?_
    simp (maxSteps := 3000000) only [go_sem, ↓bothG_tt, ↓bothG_tf, ↓bothG_ft, ↓bothG_ff, ↓reduceIte, ↓reduceDIte, reduceCtorEq, Nat.reduceAdd, Nat.reduceSub, Nat.reduceLeDiff, Nat.reduceLT, Nat.reduceEqDiff, Nat.reduceBEq, Nat.reduceMul, Int.reduceToNat, Int.reduceEq, Int.reduceLT, Int.reduceLE] <;> try simp only [bothG_t, bothG_f, decide_eq_true_eq, decide_eq_false_iff_not, Bool.not_eq_true', Bool.not_eq_false', Int.ofNat_lt, Int.ofNat_le]
    refine callI_pure (rvalid_c e ho ha) ?_
    rw [hv]
    refine run_sound mixed 600 _ ?_
    simp (maxSteps := 3000000) only [go_sem, ↓bothG_tt, ↓bothG_tf, ↓bothG_ft, ↓bothG_ff, ↓reduceIte, ↓reduceDIte, reduceCtorEq, Nat.reduceAdd, Nat.reduceSub, Nat.reduceLeDiff, Nat.reduceLT, Nat.reduceEqDiff, Nat.reduceBEq, Nat.reduceMul, Int.reduceToNat, Int.reduceEq, Int.reduceLT, Int.reduceLE] <;> try simp only [bothG_t, bothG_f, decide_eq_true_eq, decide_eq_false_iff_not, Bool.not_eq_true', Bool.not_eq_false', Int.ofNat_lt, Int.ofNat_le]
    refine callI_pure (lnum_c _) ?_
    refine run_sound mixed 600 _ ?_
    simp (maxSteps := 3000000) only [go_sem, ↓bothG_tt, ↓bothG_tf, ↓bothG_ft, ↓bothG_ff, ↓reduceIte, ↓reduceDIte, reduceCtorEq, Nat.reduceAdd, Nat.reduceSub, Nat.reduceLeDiff, Nat.reduceLT, Nat.reduceEqDiff, Nat.reduceBEq, Nat.reduceMul, Int.reduceToNat, Int.reduceEq, Int.reduceLT, Int.reduceLE] <;> try simp only [bothG_t, bothG_f, decide_eq_true_eq, decide_eq_false_iff_not, Bool.not_eq_true', Bool.not_eq_false', Int.ofNat_lt, Int.ofNat_le]
    refine callI_pure (csof.arg ?_) ?_
    · simp (maxSteps := 3000000) only [go_sem, ↓bothG_tt, ↓bothG_tf, ↓bothG_ft, ↓bothG_ff, ↓reduceIte, ↓reduceDIte, reduceCtorEq, Nat.reduceAdd, Nat.reduceSub, Nat.reduceLeDiff, Nat.reduceLT, Nat.reduceEqDiff, Nat.reduceBEq, Nat.reduceMul, Int.reduceToNat, Int.reduceEq, Int.reduceLT, Int.reduceLE] <;> try simp only [bothG_t, bothG_f, decide_eq_true_eq, decide_eq_false_iff_not, Bool.not_eq_true', Bool.not_eq_false', Int.ofNat_lt, Int.ofNat_le]
    refine run_sound mixed 600 _ ?_
    simp (maxSteps := 3000000) only [go_sem, ↓bothG_tt, ↓bothG_tf, ↓bothG_ft, ↓bothG_ff, ↓reduceIte, ↓reduceDIte, reduceCtorEq, Nat.reduceAdd, Nat.reduceSub, Nat.reduceLeDiff, Nat.reduceLT, Nat.reduceEqDiff, Nat.reduceBEq, Nat.reduceMul, Int.reduceToNat, Int.reduceEq, Int.reduceLT, Int.reduceLE] <;> try simp only [bothG_t, bothG_f, decide_eq_true_eq, decide_eq_false_iff_not, Bool.not_eq_true', Bool.not_eq_false', Int.ofNat_lt, Int.ofNat_le]
    refine callI_pure (lnum_c _) ?_
    refine run_sound mixed 600 _ ?_
    simp (maxSteps := 3000000) only [go_sem, ↓bothG_tt, ↓bothG_tf, ↓bothG_ft, ↓bothG_ff, ↓reduceIte, ↓reduceDIte, reduceCtorEq, Nat.reduceAdd, Nat.reduceSub, Nat.reduceLeDiff, Nat.reduceLT, Nat.reduceEqDiff, Nat.reduceBEq, Nat.reduceMul, Int.reduceToNat, Int.reduceEq, Int.reduceLT, Int.reduceLE] <;> try simp only [bothG_t, bothG_f, decide_eq_true_eq, decide_eq_false_iff_not, Bool.not_eq_true', Bool.not_eq_false', Int.ofNat_lt, Int.ofNat_le]
    refine callI_pure ((csset SetT.dflt zset_ok).arg ?_) ?_
    · simp (maxSteps := 3000000) only [Ty.dflt, go_sem, ↓bothG_tt, ↓bothG_tf, ↓bothG_ft, ↓bothG_ff, ↓reduceIte, ↓reduceDIte, reduceCtorEq, Nat.reduceAdd, Nat.reduceSub, Nat.reduceLeDiff, Nat.reduceLT, Nat.reduceEqDiff, Nat.reduceBEq, Nat.reduceMul, Int.reduceToNat, Int.reduceEq, Int.reduceLT, Int.reduceLE] <;> try simp only [bothG_t, bothG_f, decide_eq_true_eq, decide_eq_false_iff_not, Bool.not_eq_true', Bool.not_eq_false', Int.ofNat_lt, Int.ofNat_le]
      all_goals rfl
    refine run_sound mixed 600 _ ?_
    simp (maxSteps := 3000000) only [go_sem, ↓bothG_tt, ↓bothG_tf, ↓bothG_ft, ↓bothG_ff, ↓reduceIte, ↓reduceDIte, reduceCtorEq, Nat.reduceAdd, Nat.reduceSub, Nat.reduceLeDiff, Nat.reduceLT, Nat.reduceEqDiff, Nat.reduceBEq, Nat.reduceMul, Int.reduceToNat, Int.reduceEq, Int.reduceLT, Int.reduceLE] <;> try simp only [bothG_t, bothG_f, decide_eq_true_eq, decide_eq_false_iff_not, Bool.not_eq_true', Bool.not_eq_false', Int.ofNat_lt, Int.ofNat_le]
    refine callI_pure (lnum_c _) ?_
    refine run_sound mixed 600 _ ?_
    simp (maxSteps := 3000000) only [go_sem, ↓bothG_tt, ↓bothG_tf, ↓bothG_ft, ↓bothG_ff, ↓reduceIte, ↓reduceDIte, reduceCtorEq, Nat.reduceAdd, Nat.reduceSub, Nat.reduceLeDiff, Nat.reduceLT, Nat.reduceEqDiff, Nat.reduceBEq, Nat.reduceMul, Int.reduceToNat, Int.reduceEq, Int.reduceLT, Int.reduceLE] <;> try simp only [bothG_t, bothG_f, decide_eq_true_eq, decide_eq_false_iff_not, Bool.not_eq_true', Bool.not_eq_false', Int.ofNat_lt, Int.ofNat_le]
    refine callI_pure known_c ?_
    refine run_sound mixed 600 _ ?_
    simp (maxSteps := 3000000) only [go_sem, ↓bothG_tt, ↓bothG_tf, ↓bothG_ft, ↓bothG_ff, ↓reduceIte, ↓reduceDIte, reduceCtorEq, Nat.reduceAdd, Nat.reduceSub, Nat.reduceLeDiff, Nat.reduceLT, Nat.reduceEqDiff, Nat.reduceBEq, Nat.reduceMul, Int.reduceToNat, Int.reduceEq, Int.reduceLT, Int.reduceLE] <;> try simp only [bothG_t, bothG_f, decide_eq_true_eq, decide_eq_false_iff_not, Bool.not_eq_true', Bool.not_eq_false', Int.ofNat_lt, Int.ofNat_le]
  | true =>
  by_cases h0 : (List.length e.2.2.2.2.1 : Int) = 0
  · have hC : curS e = (SetT.dflt, 9) := by unfold curS; rw [if_neg (by rw [hv]; decide), if_pos (by show List.length e.2.2.2.2.1 = 0; omega)]
    have ccur := current_c e ho
    rw [hC] at ccur
    refine callI_pure (efind_c e v p ho) ?_
    refine run_sound mixed 600 _ ?_
    simp (maxSteps := 3000000) only [go_sem, ↓bothG_tt, ↓bothG_tf, ↓bothG_ft, ↓bothG_ff, ↓reduceIte, ↓reduceDIte, reduceCtorEq, Nat.reduceAdd, Nat.reduceSub, Nat.reduceLeDiff, Nat.reduceLT, Nat.reduceEqDiff, Nat.reduceBEq, Nat.reduceMul, Int.reduceToNat, Int.reduceEq, Int.reduceLT, Int.reduceLE] <;> try simp only [bothG_t, bothG_f, decide_eq_true_eq, decide_eq_false_iff_not, Bool.not_eq_true', Bool.not_eq_false', Int.ofNat_lt, Int.ofNat_le]
    refine callI_pure (rfind_c e v p ho ha) ?_
    refine run_sound mixed 600 _ ?_
    simp (maxSteps := 3000000) only [go_sem, ↓bothG_tt, ↓bothG_tf, ↓bothG_ft, ↓bothG_ff, ↓reduceIte, ↓reduceDIte, reduceCtorEq, Nat.reduceAdd, Nat.reduceSub, Nat.reduceLeDiff, Nat.reduceLT, Nat.reduceEqDiff, Nat.reduceBEq, Nat.reduceMul, Int.reduceToNat, Int.reduceEq, Int.reduceLT, Int.reduceLE] <;> try simp only [bothG_t, bothG_f, decide_eq_true_eq, decide_eq_false_iff_not, Bool.not_eq_true', Bool.not_eq_false', Int.ofNat_lt, Int.ofNat_le]
    refine callI_pure (offer_c e ho) ?_
    refine run_sound mixed 600 _ ?_
    simp (maxSteps := 3000000) only [go_sem, ↓bothG_tt, ↓bothG_tf, ↓bothG_ft, ↓bothG_ff, ↓reduceIte, ↓reduceDIte, reduceCtorEq, Nat.reduceAdd, Nat.reduceSub, Nat.reduceLeDiff, Nat.reduceLT, Nat.reduceEqDiff, Nat.reduceBEq, Nat.reduceMul, Int.reduceToNat, Int.reduceEq, Int.reduceLT, Int.reduceLE] <;> try simp only [bothG_t, bothG_f, decide_eq_true_eq, decide_eq_false_iff_not, Bool.not_eq_true', Bool.not_eq_false', Int.ofNat_lt, Int.ofNat_le]
    refine callI_pure (roffer_c e ho ha) ?_
    refine run_sound mixed 600 _ ?_
    simp (maxSteps := 3000000) only [go_sem, ↓bothG_tt, ↓bothG_tf, ↓bothG_ft, ↓bothG_ff, ↓reduceIte, ↓reduceDIte, reduceCtorEq, Nat.reduceAdd, Nat.reduceSub, Nat.reduceLeDiff, Nat.reduceLT, Nat.reduceEqDiff, Nat.reduceBEq, Nat.reduceMul, Int.reduceToNat, Int.reduceEq, Int.reduceLT, Int.reduceLE] <;> try simp only [bothG_t, bothG_f, decide_eq_true_eq, decide_eq_false_iff_not, Bool.not_eq_true', Bool.not_eq_false', Int.ofNat_lt, Int.ofNat_le]
    refine callI_pure ccur ?_
    refine run_sound mixed 600 _ ?_
    simp (maxSteps := 3000000) only [go_sem, ↓bothG_tt, ↓bothG_tf, ↓bothG_ft, ↓bothG_ff, ↓reduceIte, ↓reduceDIte, reduceCtorEq, Nat.reduceAdd, Nat.reduceSub, Nat.reduceLeDiff, Nat.reduceLT, Nat.reduceEqDiff, Nat.reduceBEq, Nat.reduceMul, Int.reduceToNat, Int.reduceEq, Int.reduceLT, Int.reduceLE] <;> try simp only [bothG_t, bothG_f, decide_eq_true_eq, decide_eq_false_iff_not, Bool.not_eq_true', Bool.not_eq_false', Int.ofNat_lt, Int.ofNat_le]
    refine callI_pure (rvalid_c e ho ha) ?_
    rw [hv]
    refine run_sound mixed 600 _ ?_
    simp (maxSteps := 3000000) only [h0, go_sem, ↓bothG_tt, ↓bothG_tf, ↓bothG_ft, ↓bothG_ff, ↓reduceIte, ↓reduceDIte, reduceCtorEq, Nat.reduceAdd, Nat.reduceSub, Nat.reduceLeDiff, Nat.reduceLT, Nat.reduceEqDiff, Nat.reduceBEq, Nat.reduceMul, Int.reduceToNat, Int.reduceEq, Int.reduceLT, Int.reduceLE] <;> try simp only [bothG_t, bothG_f, decide_eq_true_eq, decide_eq_false_iff_not, Bool.not_eq_true', Bool.not_eq_false', Int.ofNat_lt, Int.ofNat_le]
    refine callI_pure (lnum_c _) ?_
    refine run_sound mixed 600 _ ?_
    simp (maxSteps := 3000000) only [go_sem, ↓bothG_tt, ↓bothG_tf, ↓bothG_ft, ↓bothG_ff, ↓reduceIte, ↓reduceDIte, reduceCtorEq, Nat.reduceAdd, Nat.reduceSub, Nat.reduceLeDiff, Nat.reduceLT, Nat.reduceEqDiff, Nat.reduceBEq, Nat.reduceMul, Int.reduceToNat, Int.reduceEq, Int.reduceLT, Int.reduceLE] <;> try simp only [bothG_t, bothG_f, decide_eq_true_eq, decide_eq_false_iff_not, Bool.not_eq_true', Bool.not_eq_false', Int.ofNat_lt, Int.ofNat_le]
    refine callI_pure (csof.arg ?_) ?_
    · simp (maxSteps := 3000000) only [go_sem, ↓bothG_tt, ↓bothG_tf, ↓bothG_ft, ↓bothG_ff, ↓reduceIte, ↓reduceDIte, reduceCtorEq, Nat.reduceAdd, Nat.reduceSub, Nat.reduceLeDiff, Nat.reduceLT, Nat.reduceEqDiff, Nat.reduceBEq, Nat.reduceMul, Int.reduceToNat, Int.reduceEq, Int.reduceLT, Int.reduceLE] <;> try simp only [bothG_t, bothG_f, decide_eq_true_eq, decide_eq_false_iff_not, Bool.not_eq_true', Bool.not_eq_false', Int.ofNat_lt, Int.ofNat_le]
    refine run_sound mixed 600 _ ?_
    simp (maxSteps := 3000000) only [go_sem, ↓bothG_tt, ↓bothG_tf, ↓bothG_ft, ↓bothG_ff, ↓reduceIte, ↓reduceDIte, reduceCtorEq, Nat.reduceAdd, Nat.reduceSub, Nat.reduceLeDiff, Nat.reduceLT, Nat.reduceEqDiff, Nat.reduceBEq, Nat.reduceMul, Int.reduceToNat, Int.reduceEq, Int.reduceLT, Int.reduceLE] <;> try simp only [bothG_t, bothG_f, decide_eq_true_eq, decide_eq_false_iff_not, Bool.not_eq_true', Bool.not_eq_false', Int.ofNat_lt, Int.ofNat_le]
    refine callI_pure (lnum_c _) ?_
    refine run_sound mixed 600 _ ?_
    simp (maxSteps := 3000000) only [go_sem, ↓bothG_tt, ↓bothG_tf, ↓bothG_ft, ↓bothG_ff, ↓reduceIte, ↓reduceDIte, reduceCtorEq, Nat.reduceAdd, Nat.reduceSub, Nat.reduceLeDiff, Nat.reduceLT, Nat.reduceEqDiff, Nat.reduceBEq, Nat.reduceMul, Int.reduceToNat, Int.reduceEq, Int.reduceLT, Int.reduceLE] <;> try simp only [bothG_t, bothG_f, decide_eq_true_eq, decide_eq_false_iff_not, Bool.not_eq_true', Bool.not_eq_false', Int.ofNat_lt, Int.ofNat_le]
    refine callI_pure ((csset SetT.dflt zset_ok).arg ?_) ?_
    · simp (maxSteps := 3000000) only [Ty.dflt, go_sem, ↓bothG_tt, ↓bothG_tf, ↓bothG_ft, ↓bothG_ff, ↓reduceIte, ↓reduceDIte, reduceCtorEq, Nat.reduceAdd, Nat.reduceSub, Nat.reduceLeDiff, Nat.reduceLT, Nat.reduceEqDiff, Nat.reduceBEq, Nat.reduceMul, Int.reduceToNat, Int.reduceEq, Int.reduceLT, Int.reduceLE] <;> try simp only [bothG_t, bothG_f, decide_eq_true_eq, decide_eq_false_iff_not, Bool.not_eq_true', Bool.not_eq_false', Int.ofNat_lt, Int.ofNat_le]
      all_goals rfl
    refine run_sound mixed 600 _ ?_
    simp (maxSteps := 3000000) only [go_sem, ↓bothG_tt, ↓bothG_tf, ↓bothG_ft, ↓bothG_ff, ↓reduceIte, ↓reduceDIte, reduceCtorEq, Nat.reduceAdd, Nat.reduceSub, Nat.reduceLeDiff, Nat.reduceLT, Nat.reduceEqDiff, Nat.reduceBEq, Nat.reduceMul, Int.reduceToNat, Int.reduceEq, Int.reduceLT, Int.reduceLE] <;> try simp only [bothG_t, bothG_f, decide_eq_true_eq, decide_eq_false_iff_not, Bool.not_eq_true', Bool.not_eq_false', Int.ofNat_lt, Int.ofNat_le]
    refine callI_pure (lnum_c _) ?_
    refine run_sound mixed 600 _ ?_
    simp (maxSteps := 3000000) only [go_sem, ↓bothG_tt, ↓bothG_tf, ↓bothG_ft, ↓bothG_ff, ↓reduceIte, ↓reduceDIte, reduceCtorEq, Nat.reduceAdd, Nat.reduceSub, Nat.reduceLeDiff, Nat.reduceLT, Nat.reduceEqDiff, Nat.reduceBEq, Nat.reduceMul, Int.reduceToNat, Int.reduceEq, Int.reduceLT, Int.reduceLE] <;> try simp only [bothG_t, bothG_f, decide_eq_true_eq, decide_eq_false_iff_not, Bool.not_eq_true', Bool.not_eq_false', Int.ofNat_lt, Int.ofNat_le]
    refine callI_pure known_c ?_
    refine run_sound mixed 600 _ ?_
    simp (maxSteps := 3000000) only [go_sem, ↓bothG_tt, ↓bothG_tf, ↓bothG_ft, ↓bothG_ff, ↓reduceIte, ↓reduceDIte, reduceCtorEq, Nat.reduceAdd, Nat.reduceSub, Nat.reduceLeDiff, Nat.reduceLT, Nat.reduceEqDiff, Nat.reduceBEq, Nat.reduceMul, Int.reduceToNat, Int.reduceEq, Int.reduceLT, Int.reduceLE] <;> try simp only [bothG_t, bothG_f, decide_eq_true_eq, decide_eq_false_iff_not, Bool.not_eq_true', Bool.not_eq_false', Int.ofNat_lt, Int.ofNat_le]
  · have hC : curS e = (List.getD e.2.2.2.2.1 0 SetT.dflt, 0) := by unfold curS; rw [if_neg (by rw [hv]; decide), if_neg (by show ¬ List.length e.2.2.2.2.1 = 0; omega)]; rfl
    have hilt : 0 < List.length e.2.2.2.2.1 := by omega
    have ccur := current_c e ho
    rw [hC] at ccur
    refine callI_pure (efind_c e v p ho) ?_
    refine run_sound mixed 600 _ ?_
    simp (maxSteps := 3000000) only [go_sem, ↓bothG_tt, ↓bothG_tf, ↓bothG_ft, ↓bothG_ff, ↓reduceIte, ↓reduceDIte, reduceCtorEq, Nat.reduceAdd, Nat.reduceSub, Nat.reduceLeDiff, Nat.reduceLT, Nat.reduceEqDiff, Nat.reduceBEq, Nat.reduceMul, Int.reduceToNat, Int.reduceEq, Int.reduceLT, Int.reduceLE] <;> try simp only [bothG_t, bothG_f, decide_eq_true_eq, decide_eq_false_iff_not, Bool.not_eq_true', Bool.not_eq_false', Int.ofNat_lt, Int.ofNat_le]
    refine callI_pure (rfind_c e v p ho ha) ?_
    refine run_sound mixed 600 _ ?_
    simp (maxSteps := 3000000) only [go_sem, ↓bothG_tt, ↓bothG_tf, ↓bothG_ft, ↓bothG_ff, ↓reduceIte, ↓reduceDIte, reduceCtorEq, Nat.reduceAdd, Nat.reduceSub, Nat.reduceLeDiff, Nat.reduceLT, Nat.reduceEqDiff, Nat.reduceBEq, Nat.reduceMul, Int.reduceToNat, Int.reduceEq, Int.reduceLT, Int.reduceLE] <;> try simp only [bothG_t, bothG_f, decide_eq_true_eq, decide_eq_false_iff_not, Bool.not_eq_true', Bool.not_eq_false', Int.ofNat_lt, Int.ofNat_le]
    refine callI_pure (offer_c e ho) ?_
    refine run_sound mixed 600 _ ?_
    simp (maxSteps := 3000000) only [go_sem, ↓bothG_tt, ↓bothG_tf, ↓bothG_ft, ↓bothG_ff, ↓reduceIte, ↓reduceDIte, reduceCtorEq, Nat.reduceAdd, Nat.reduceSub, Nat.reduceLeDiff, Nat.reduceLT, Nat.reduceEqDiff, Nat.reduceBEq, Nat.reduceMul, Int.reduceToNat, Int.reduceEq, Int.reduceLT, Int.reduceLE] <;> try simp only [bothG_t, bothG_f, decide_eq_true_eq, decide_eq_false_iff_not, Bool.not_eq_true', Bool.not_eq_false', Int.ofNat_lt, Int.ofNat_le]
    refine callI_pure (roffer_c e ho ha) ?_
    refine run_sound mixed 600 _ ?_
    simp (maxSteps := 3000000) only [go_sem, ↓bothG_tt, ↓bothG_tf, ↓bothG_ft, ↓bothG_ff, ↓reduceIte, ↓reduceDIte, reduceCtorEq, Nat.reduceAdd, Nat.reduceSub, Nat.reduceLeDiff, Nat.reduceLT, Nat.reduceEqDiff, Nat.reduceBEq, Nat.reduceMul, Int.reduceToNat, Int.reduceEq, Int.reduceLT, Int.reduceLE] <;> try simp only [bothG_t, bothG_f, decide_eq_true_eq, decide_eq_false_iff_not, Bool.not_eq_true', Bool.not_eq_false', Int.ofNat_lt, Int.ofNat_le]
    refine callI_pure ccur ?_
    refine run_sound mixed 600 _ ?_
    simp (maxSteps := 3000000) only [go_sem, ↓bothG_tt, ↓bothG_tf, ↓bothG_ft, ↓bothG_ff, ↓reduceIte, ↓reduceDIte, reduceCtorEq, Nat.reduceAdd, Nat.reduceSub, Nat.reduceLeDiff, Nat.reduceLT, Nat.reduceEqDiff, Nat.reduceBEq, Nat.reduceMul, Int.reduceToNat, Int.reduceEq, Int.reduceLT, Int.reduceLE] <;> try simp only [bothG_t, bothG_f, decide_eq_true_eq, decide_eq_false_iff_not, Bool.not_eq_true', Bool.not_eq_false', Int.ofNat_lt, Int.ofNat_le]
    refine callI_pure (rvalid_c e ho ha) ?_
    rw [hv]
    refine run_sound mixed 600 _ ?_
    simp (maxSteps := 3000000) only [h0, hilt, go_sem, ↓bothG_tt, ↓bothG_tf, ↓bothG_ft, ↓bothG_ff, ↓reduceIte, ↓reduceDIte, reduceCtorEq, Nat.reduceAdd, Nat.reduceSub, Nat.reduceLeDiff, Nat.reduceLT, Nat.reduceEqDiff, Nat.reduceBEq, Nat.reduceMul, Int.reduceToNat, Int.reduceEq, Int.reduceLT, Int.reduceLE] <;> try simp only [bothG_t, bothG_f, decide_eq_true_eq, decide_eq_false_iff_not, Bool.not_eq_true', Bool.not_eq_false', Int.ofNat_lt, Int.ofNat_le]
    refine callI_pure (lnum_c _) ?_
    refine run_sound mixed 600 _ ?_
    simp (maxSteps := 3000000) only [go_sem, ↓bothG_tt, ↓bothG_tf, ↓bothG_ft, ↓bothG_ff, ↓reduceIte, ↓reduceDIte, reduceCtorEq, Nat.reduceAdd, Nat.reduceSub, Nat.reduceLeDiff, Nat.reduceLT, Nat.reduceEqDiff, Nat.reduceBEq, Nat.reduceMul, Int.reduceToNat, Int.reduceEq, Int.reduceLT, Int.reduceLE] <;> try simp only [bothG_t, bothG_f, decide_eq_true_eq, decide_eq_false_iff_not, Bool.not_eq_true', Bool.not_eq_false', Int.ofNat_lt, Int.ofNat_le]
    refine callI_pure (csof.arg ?_) ?_
    · simp (maxSteps := 3000000) only [go_sem, ↓bothG_tt, ↓bothG_tf, ↓bothG_ft, ↓bothG_ff, ↓reduceIte, ↓reduceDIte, reduceCtorEq, Nat.reduceAdd, Nat.reduceSub, Nat.reduceLeDiff, Nat.reduceLT, Nat.reduceEqDiff, Nat.reduceBEq, Nat.reduceMul, Int.reduceToNat, Int.reduceEq, Int.reduceLT, Int.reduceLE] <;> try simp only [bothG_t, bothG_f, decide_eq_true_eq, decide_eq_false_iff_not, Bool.not_eq_true', Bool.not_eq_false', Int.ofNat_lt, Int.ofNat_le]
    refine run_sound mixed 600 _ ?_
    simp (maxSteps := 3000000) only [go_sem, ↓bothG_tt, ↓bothG_tf, ↓bothG_ft, ↓bothG_ff, ↓reduceIte, ↓reduceDIte, reduceCtorEq, Nat.reduceAdd, Nat.reduceSub, Nat.reduceLeDiff, Nat.reduceLT, Nat.reduceEqDiff, Nat.reduceBEq, Nat.reduceMul, Int.reduceToNat, Int.reduceEq, Int.reduceLT, Int.reduceLE] <;> try simp only [bothG_t, bothG_f, decide_eq_true_eq, decide_eq_false_iff_not, Bool.not_eq_true', Bool.not_eq_false', Int.ofNat_lt, Int.ofNat_le]
    refine callI_pure (lnum_c _) ?_
    refine run_sound mixed 600 _ ?_
    simp (maxSteps := 3000000) only [go_sem, ↓bothG_tt, ↓bothG_tf, ↓bothG_ft, ↓bothG_ff, ↓reduceIte, ↓reduceDIte, reduceCtorEq, Nat.reduceAdd, Nat.reduceSub, Nat.reduceLeDiff, Nat.reduceLT, Nat.reduceEqDiff, Nat.reduceBEq, Nat.reduceMul, Int.reduceToNat, Int.reduceEq, Int.reduceLT, Int.reduceLE] <;> try simp only [bothG_t, bothG_f, decide_eq_true_eq, decide_eq_false_iff_not, Bool.not_eq_true', Bool.not_eq_false', Int.ofNat_lt, Int.ofNat_le]
    refine callI_pure ((csset (List.getD e.2.2.2.2.1 0 SetT.dflt) (ho.2.2.2.2.1.2 _ (getD_mem hilt))).arg ?_) ?_
    · simp (maxSteps := 3000000) only [Ty.dflt, go_sem, ↓bothG_tt, ↓bothG_tf, ↓bothG_ft, ↓bothG_ff, ↓reduceIte, ↓reduceDIte, reduceCtorEq, Nat.reduceAdd, Nat.reduceSub, Nat.reduceLeDiff, Nat.reduceLT, Nat.reduceEqDiff, Nat.reduceBEq, Nat.reduceMul, Int.reduceToNat, Int.reduceEq, Int.reduceLT, Int.reduceLE] <;> try simp only [bothG_t, bothG_f, decide_eq_true_eq, decide_eq_false_iff_not, Bool.not_eq_true', Bool.not_eq_false', Int.ofNat_lt, Int.ofNat_le]
      all_goals rfl
    refine run_sound mixed 600 _ ?_
    simp (maxSteps := 3000000) only [go_sem, ↓bothG_tt, ↓bothG_tf, ↓bothG_ft, ↓bothG_ff, ↓reduceIte, ↓reduceDIte, reduceCtorEq, Nat.reduceAdd, Nat.reduceSub, Nat.reduceLeDiff, Nat.reduceLT, Nat.reduceEqDiff, Nat.reduceBEq, Nat.reduceMul, Int.reduceToNat, Int.reduceEq, Int.reduceLT, Int.reduceLE] <;> try simp only [bothG_t, bothG_f, decide_eq_true_eq, decide_eq_false_iff_not, Bool.not_eq_true', Bool.not_eq_false', Int.ofNat_lt, Int.ofNat_le]
    refine callI_pure (lnum_c _) ?_
    refine run_sound mixed 600 _ ?_
    simp (maxSteps := 3000000) only [go_sem, ↓bothG_tt, ↓bothG_tf, ↓bothG_ft, ↓bothG_ff, ↓reduceIte, ↓reduceDIte, reduceCtorEq, Nat.reduceAdd, Nat.reduceSub, Nat.reduceLeDiff, Nat.reduceLT, Nat.reduceEqDiff, Nat.reduceBEq, Nat.reduceMul, Int.reduceToNat, Int.reduceEq, Int.reduceLT, Int.reduceLE] <;> try simp only [bothG_t, bothG_f, decide_eq_true_eq, decide_eq_false_iff_not, Bool.not_eq_true', Bool.not_eq_false', Int.ofNat_lt, Int.ofNat_le]
    refine callI_pure known_c ?_
    refine run_sound mixed 600 _ ?_
    simp (maxSteps := 3000000) only [go_sem, ↓bothG_tt, ↓bothG_tf, ↓bothG_ft, ↓bothG_ff, ↓reduceIte, ↓reduceDIte, reduceCtorEq, Nat.reduceAdd, Nat.reduceSub, Nat.reduceLeDiff, Nat.reduceLT, Nat.reduceEqDiff, Nat.reduceBEq, Nat.reduceMul, Int.reduceToNat, Int.reduceEq, Int.reduceLT, Int.reduceLE] <;> try simp only [bothG_t, bothG_f, decide_eq_true_eq, decide_eq_false_iff_not, Bool.not_eq_true', Bool.not_eq_false', Int.ofNat_lt, Int.ofNat_le]

theorem zent_ok : EntT.ok EntT.dflt :=
  ⟨⟨⟨by decide, fun x hx => by cases hx⟩, okstr _ (by decide)⟩, ⟨by decide, fun x hx => by cases hx⟩, trivial, trivial, ⟨by decide, fun x hx => by cases hx⟩, okstr _ (by decide), trivial, trivial, trivial, trivial, trivial, trivial, trivial, ⟨by decide, fun x hx => by cases hx⟩, ⟨by decide, fun x hx => by cases hx⟩, ⟨by decide, fun x hx => by cases hx⟩⟩
theorem withKeys_ok {e : Ent} {l : List KSet} (ho : EntT.ok e) (hl : (Ty.slice SetT).ok l) : EntT.ok (withKeys e l) :=
  ⟨ho.1, ho.2.1, ho.2.2.1, ho.2.2.2.1, hl, ho.2.2.2.2.2⟩
theorem addS_ok {e : Ent} {s : KSet} (ho : EntT.ok e) (hs : SetT.ok s) : EntT.ok (addS e s).1 := by
  unfold addS
  repeat' split
  all_goals first | exact zent_ok | skip
  refine withKeys_ok ho ⟨?_, fun x hx => ?_⟩
  · rename_i h
    have h' : ¬ 16 ≤ (List.length e.2.2.2.2.1 : Int) := h
    show (s :: e.2.2.2.2.1).length ≤ _
    rw [List.length_cons]
    omega
  · rcases List.mem_cons.1 hx with rfl | hx
    · exact hs
    · exact ho.2.2.2.2.1.2 x hx
theorem woS_ok {e : Ent} {v : Int} (ho : EntT.ok e) : EntT.ok (woS e v).1 := by
  unfold woS
  split
  · exact zent_ok
  · split
    · exact zent_ok
    · refine withKeys_ok ho ⟨?_, fun x hx => ?_⟩
      · have := ho.2.2.2.2.1.1
        rename_i i hf
        have hi : i < List.length e.2.2.2.2.1 := (firstN_spec hf).1
        show (List.take i e.2.2.2.2.1 ++ List.drop (i + 1) e.2.2.2.2.1).length ≤ _
        rw [List.length_append, List.length_take, List.length_drop]
        omega
      · rcases List.mem_append.1 hx with hx | hx
        · exact ho.2.2.2.2.1.2 x (List.mem_of_mem_take hx)
        · exact ho.2.2.2.2.1.2 x (List.mem_of_mem_drop hx)
theorem changes_law (e : Ent) (s : KSet) (v : Int) (ho : EntT.ok e) (hs : SetT.ok s) (ha : 0 ≤ e.2.2.1 ∧ e.2.2.1 ≤ 4294967295) : PC Tryz.prog 3 [.agg (EntT.cells e), .agg (SetT.cells s), rI v] (rB true) := by
  have csame : ∀ x : Ent, EntT.ok x → PC Tryz.prog 17 [.agg (EntT.cells x), .agg (EntT.cells x)] (rB true) := fun x hx => by have h := rsame_c x x hx; rwa [(sameE_eq x x).2 rfl] at h
  refine pc_of rfl rfl ?_
  refine vc_fi fi3 (run_sound mixed 600 _ ?_)
  simp (maxSteps := 3000000) only [ir3, go_sem, ↓bothG_tt, ↓bothG_tf, ↓bothG_ft, ↓bothG_ff, ↓reduceIte, ↓reduceDIte, reduceCtorEq, Nat.reduceAdd, Nat.reduceSub, Nat.reduceLeDiff, Nat.reduceLT, Nat.reduceEqDiff, Nat.reduceBEq, Nat.reduceMul, Int.reduceToNat, Int.reduceEq, Int.reduceLT, Int.reduceLE] <;> try simp only [bothG_t, bothG_f, decide_eq_true_eq, decide_eq_false_iff_not, Bool.not_eq_true', Bool.not_eq_false', Int.ofNat_lt, Int.ofNat_le]
  refine callI_pure (small_c e ho) ?_
  refine run_sound mixed 600 _ ?_
  simp (maxSteps := 3000000) only [go_sem, ↓bothG_tt, ↓bothG_tf, ↓bothG_ft, ↓bothG_ff, ↓reduceIte, ↓reduceDIte, reduceCtorEq, Nat.reduceAdd, Nat.reduceSub, Nat.reduceLeDiff, Nat.reduceLT, Nat.reduceEqDiff, Nat.reduceBEq, Nat.reduceMul, Int.reduceToNat, Int.reduceEq, Int.reduceLT, Int.reduceLE] <;> try simp only [bothG_t, bothG_f, decide_eq_true_eq, decide_eq_false_iff_not, Bool.not_eq_true', Bool.not_eq_false', Int.ofNat_lt, Int.ofNat_le]
  refine ⟨fun _ => callI_pure (smallSet_c s hs) ?_, fun _ => callI_pure known_c ?_⟩
  · refine run_sound mixed 600 _ ?_
    simp (maxSteps := 3000000) only [go_sem, ↓bothG_tt, ↓bothG_tf, ↓bothG_ft, ↓bothG_ff, ↓reduceIte, ↓reduceDIte, reduceCtorEq, Nat.reduceAdd, Nat.reduceSub, Nat.reduceLeDiff, Nat.reduceLT, Nat.reduceEqDiff, Nat.reduceBEq, Nat.reduceMul, Int.reduceToNat, Int.reduceEq, Int.reduceLT, Int.reduceLE] <;> try simp only [bothG_t, bothG_f, decide_eq_true_eq, decide_eq_false_iff_not, Bool.not_eq_true', Bool.not_eq_false', Int.ofNat_lt, Int.ofNat_le]
    refine ⟨fun _ => callI_pure known_c ?_, fun _ => ?_⟩
    · refine run_sound mixed 600 _ ?_
      simp (maxSteps := 3000000) only [go_sem, ↓bothG_tt, ↓bothG_tf, ↓bothG_ft, ↓bothG_ff, ↓reduceIte, ↓reduceDIte, reduceCtorEq, Nat.reduceAdd, Nat.reduceSub, Nat.reduceLeDiff, Nat.reduceLT, Nat.reduceEqDiff, Nat.reduceBEq, Nat.reduceMul, Int.reduceToNat, Int.reduceEq, Int.reduceLT, Int.reduceLE] <;> try simp only [bothG_t, bothG_f, decide_eq_true_eq, decide_eq_false_iff_not, Bool.not_eq_true', Bool.not_eq_false', Int.ofNat_lt, Int.ofNat_le]
    refine callI_pure (eadd_c e s ho hs) ?_
    refine run_sound mixed 600 _ ?_
    simp (maxSteps := 3000000) only [go_sem, ↓bothG_tt, ↓bothG_tf, ↓bothG_ft, ↓bothG_ff, ↓reduceIte, ↓reduceDIte, reduceCtorEq, Nat.reduceAdd, Nat.reduceSub, Nat.reduceLeDiff, Nat.reduceLT, Nat.reduceEqDiff, Nat.reduceBEq, Nat.reduceMul, Int.reduceToNat, Int.reduceEq, Int.reduceLT, Int.reduceLE] <;> try simp only [bothG_t, bothG_f, decide_eq_true_eq, decide_eq_false_iff_not, Bool.not_eq_true', Bool.not_eq_false', Int.ofNat_lt, Int.ofNat_le]
    refine callI_pure (radd_c e s ho hs ha) ?_
    refine run_sound mixed 600 _ ?_
    simp (maxSteps := 3000000) only [go_sem, ↓bothG_tt, ↓bothG_tf, ↓bothG_ft, ↓bothG_ff, ↓reduceIte, ↓reduceDIte, reduceCtorEq, Nat.reduceAdd, Nat.reduceSub, Nat.reduceLeDiff, Nat.reduceLT, Nat.reduceEqDiff, Nat.reduceBEq, Nat.reduceMul, Int.reduceToNat, Int.reduceEq, Int.reduceLT, Int.reduceLE] <;> try simp only [bothG_t, bothG_f, decide_eq_true_eq, decide_eq_false_iff_not, Bool.not_eq_true', Bool.not_eq_false', Int.ofNat_lt, Int.ofNat_le]
    refine callI_pure (ewithout_c e v ho) ?_
    refine run_sound mixed 600 _ ?_
    simp (maxSteps := 3000000) only [go_sem, ↓bothG_tt, ↓bothG_tf, ↓bothG_ft, ↓bothG_ff, ↓reduceIte, ↓reduceDIte, reduceCtorEq, Nat.reduceAdd, Nat.reduceSub, Nat.reduceLeDiff, Nat.reduceLT, Nat.reduceEqDiff, Nat.reduceBEq, Nat.reduceMul, Int.reduceToNat, Int.reduceEq, Int.reduceLT, Int.reduceLE] <;> try simp only [bothG_t, bothG_f, decide_eq_true_eq, decide_eq_false_iff_not, Bool.not_eq_true', Bool.not_eq_false', Int.ofNat_lt, Int.ofNat_le]
    refine callI_pure (rwithout_c e v ho ha) ?_
    refine run_sound mixed 600 _ ?_
    simp (maxSteps := 3000000) only [go_sem, ↓bothG_tt, ↓bothG_tf, ↓bothG_ft, ↓bothG_ff, ↓reduceIte, ↓reduceDIte, reduceCtorEq, Nat.reduceAdd, Nat.reduceSub, Nat.reduceLeDiff, Nat.reduceLT, Nat.reduceEqDiff, Nat.reduceBEq, Nat.reduceMul, Int.reduceToNat, Int.reduceEq, Int.reduceLT, Int.reduceLE] <;> try simp only [bothG_t, bothG_f, decide_eq_true_eq, decide_eq_false_iff_not, Bool.not_eq_true', Bool.not_eq_false', Int.ofNat_lt, Int.ofNat_le]
    refine callI_pure (csame _ (addS_ok ho hs)) ?_
    refine run_sound mixed 600 _ ?_
    simp (maxSteps := 3000000) only [go_sem, ↓bothG_tt, ↓bothG_tf, ↓bothG_ft, ↓bothG_ff, ↓reduceIte, ↓reduceDIte, reduceCtorEq, Nat.reduceAdd, Nat.reduceSub, Nat.reduceLeDiff, Nat.reduceLT, Nat.reduceEqDiff, Nat.reduceBEq, Nat.reduceMul, Int.reduceToNat, Int.reduceEq, Int.reduceLT, Int.reduceLE] <;> try simp only [bothG_t, bothG_f, decide_eq_true_eq, decide_eq_false_iff_not, Bool.not_eq_true', Bool.not_eq_false', Int.ofNat_lt, Int.ofNat_le]
    refine callI_pure (lnum_c _) ?_
    refine run_sound mixed 600 _ ?_
    simp (maxSteps := 3000000) only [go_sem, ↓bothG_tt, ↓bothG_tf, ↓bothG_ft, ↓bothG_ff, ↓reduceIte, ↓reduceDIte, reduceCtorEq, Nat.reduceAdd, Nat.reduceSub, Nat.reduceLeDiff, Nat.reduceLT, Nat.reduceEqDiff, Nat.reduceBEq, Nat.reduceMul, Int.reduceToNat, Int.reduceEq, Int.reduceLT, Int.reduceLE] <;> try simp only [bothG_t, bothG_f, decide_eq_true_eq, decide_eq_false_iff_not, Bool.not_eq_true', Bool.not_eq_false', Int.ofNat_lt, Int.ofNat_le]
    refine callI_pure (csame _ (woS_ok ho)) ?_
    refine run_sound mixed 600 _ ?_
    simp (maxSteps := 3000000) only [go_sem, ↓bothG_tt, ↓bothG_tf, ↓bothG_ft, ↓bothG_ff, ↓reduceIte, ↓reduceDIte, reduceCtorEq, Nat.reduceAdd, Nat.reduceSub, Nat.reduceLeDiff, Nat.reduceLT, Nat.reduceEqDiff, Nat.reduceBEq, Nat.reduceMul, Int.reduceToNat, Int.reduceEq, Int.reduceLT, Int.reduceLE] <;> try simp only [bothG_t, bothG_f, decide_eq_true_eq, decide_eq_false_iff_not, Bool.not_eq_true', Bool.not_eq_false', Int.ofNat_lt, Int.ofNat_le]
    refine callI_pure (lnum_c _) ?_
    refine run_sound mixed 600 _ ?_
    simp (maxSteps := 3000000) only [go_sem, ↓bothG_tt, ↓bothG_tf, ↓bothG_ft, ↓bothG_ff, ↓reduceIte, ↓reduceDIte, reduceCtorEq, Nat.reduceAdd, Nat.reduceSub, Nat.reduceLeDiff, Nat.reduceLT, Nat.reduceEqDiff, Nat.reduceBEq, Nat.reduceMul, Int.reduceToNat, Int.reduceEq, Int.reduceLT, Int.reduceLE] <;> try simp only [bothG_t, bothG_f, decide_eq_true_eq, decide_eq_false_iff_not, Bool.not_eq_true', Bool.not_eq_false', Int.ofNat_lt, Int.ofNat_le]
    refine callI_pure known_c ?_
    refine run_sound mixed 600 _ ?_
    simp (maxSteps := 3000000) only [go_sem, ↓bothG_tt, ↓bothG_tf, ↓bothG_ft, ↓bothG_ff, ↓reduceIte, ↓reduceDIte, reduceCtorEq, Nat.reduceAdd, Nat.reduceSub, Nat.reduceLeDiff, Nat.reduceLT, Nat.reduceEqDiff, Nat.reduceBEq, Nat.reduceMul, Int.reduceToNat, Int.reduceEq, Int.reduceLT, Int.reduceLE] <;> try simp only [bothG_t, bothG_f, decide_eq_true_eq, decide_eq_false_iff_not, Bool.not_eq_true', Bool.not_eq_false', Int.ofNat_lt, Int.ofNat_le]
  · refine run_sound mixed 600 _ ?_
    simp (maxSteps := 3000000) only [go_sem, ↓bothG_tt, ↓bothG_tf, ↓bothG_ft, ↓bothG_ff, ↓reduceIte, ↓reduceDIte, reduceCtorEq, Nat.reduceAdd, Nat.reduceSub, Nat.reduceLeDiff, Nat.reduceLT, Nat.reduceEqDiff, Nat.reduceBEq, Nat.reduceMul, Int.reduceToNat, Int.reduceEq, Int.reduceLT, Int.reduceLE] <;> try simp only [bothG_t, bothG_f, decide_eq_true_eq, decide_eq_false_iff_not, Bool.not_eq_true', Bool.not_eq_false', Int.ofNat_lt, Int.ofNat_le]
end Go.Proofs.YtddmkgibghohkaaGreatDoor
