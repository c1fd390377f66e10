/- Contracts: known. -/
import Derived.Test.YtddmkgibghohkaaGreatDoorP25
set_option linter.unusedSimpArgs false
set_option linter.unusedVariables false
set_option linter.unusedSectionVars false
namespace Go.Proofs.YtddmkgibghohkaaGreatDoor
open Go Go.Sx Go.Proofs
set_option maxRecDepth 100000
set_option maxHeartbeats 4000000
set_option linter.unusedSimpArgs false

theorem known_c : PC Tryz.prog 12 [] (rB true) := by
 have cadd1 := eadd_c ent1 set2 okent1 okset2
 rw [add12] at cadd1
 have cadd2 := eadd_c ent2 set1 okent2 okset1
 rw [add21] at cadd2
 have cwo := ewithout_c ent2 2 okent2
 rw [wo2] at cwo
 have cf1 : PC Tryz.prog 45 [.agg (EntT.cells ent2), rI 0, rI 0, rI 32, rI 0] (rB true) := by have h := finds_c ent2 0 0 32 0 okent2; rw [fnd1] at h; exact h
 have cf2 : PC Tryz.prog 45 [.agg (EntT.cells ent2), rI 1, rI 0, rI 16, rI 0] (rB true) := by have h := finds_c ent2 1 0 16 0 okent2; rw [fnd2] at h; exact h
 have cf3 : PC Tryz.prog 45 [.agg (EntT.cells ent2), rI 1, rI 2, rI 0, rI 9] (rB true) := by have h := finds_c ent2 1 2 0 9 okent2; rw [fnd3] at h; exact h
 have cf4 : PC Tryz.prog 45 [.agg (EntT.cells ent2), rI 3, rI 0, rI 0, rI 9] (rB true) := by have h := finds_c ent2 3 0 0 9 okent2; rw [fnd4] at h; exact h
 have csame : PC Tryz.prog 17 [.agg (EntT.cells ent1), .agg (EntT.cells ent1)] (rB true) := by have h := rsame_c ent1 ent1 okent1; rwa [(sameE_eq ent1 ent1).2 rfl] at h
 have cset1 : PC Tryz.prog 26 [.agg (SetT.cells set1), .agg (SetT.cells set1)] (rB true) := by have h := rsset_c set1 set1 okset1; rwa [decide_eq_true rfl] at h
 have cset2 : PC Tryz.prog 26 [.agg (SetT.cells set2), .agg (SetT.cells set2)] (rB true) := by have h := rsset_c set2 set2 okset2; rwa [decide_eq_true rfl] at h
 have cenc := encode_c ent1 okent1 (by decide)
 have hel := enc1
 rw [vent1] at cenc hel
 have cof := offer_c ent1 okent1
 rw [of1] at cof
 have ceo := encodeOffer_c [(1, ⟨#[82, 97]⟩, 4)] ⟨by decide, fun x hx => by simp at hx; subst hx; exact ⟨trivial, okstr _ (by decide), trivial⟩⟩
 rw [voff1] at ceo
 have cso : PC Tryz.prog 25 [.isl SaltT [(1, ⟨#[82, 97]⟩, 4)], .isl SaltT [(1, ⟨#[82, 97]⟩, 4)]] (rB true) := by have h := rsameOffer_c [(1, ⟨#[82, 97]⟩, 4)] [(1, ⟨#[82, 97]⟩, 4)] (by decide); rwa [decide_eq_true rfl] at h
 have hw00 : IntKind.i64.wrap (0 + 0) = 0 := by decide
 refine pc_of rfl rfl ?_
 refine runE mixed fi12 ?_
 refine ⟨by decide, callI_pure first_c ?_⟩
 with_reducible refine sxE ?_
 refine si_freeze 0 rfl rfl (by simp) ?_ ?_ ?_
 · with_reducible refine sxE ?_; trivial
 · with_reducible refine sxE ?_; trivial
 with_reducible refine sxE ?_
 refine run_sound mixed 5 _ ?_
 simp (maxSteps := 3000000) only [set1, go_sem, ↓zA, ↓reduceIte, ↓reduceDIte, reduceCtorEq, Nat.reduceAdd, Nat.reduceSub, Nat.reduceLeDiff, Nat.reduceLT, Nat.reduceEqDiff, Nat.reduceBEq, Nat.reduceMul, Int.reduceToNat, Int.reduceEq, Int.reduceLT, Int.reduceLE] <;> try simp only [zB]
 refine ⟨by decide, ?_⟩
 refine si_freeze 1 rfl rfl (by simp) ?_ ?_ ?_
 · with_reducible refine sxE ?_; trivial
 · with_reducible refine sxE ?_; trivial
 with_reducible refine sxE ?_
 refine goE mixed ?_
 refine callF_pure second_c ?_
 refine goE mixed ?_
 refine callF_pure (cadd1.arg ?_) ?_
 · simp (maxSteps := 3000000) only [ent1, set1, go_sem, ↓zA, ↓reduceIte, ↓reduceDIte, reduceCtorEq, Nat.reduceAdd, Nat.reduceSub, Nat.reduceLeDiff, Nat.reduceLT, Nat.reduceEqDiff, Nat.reduceBEq, Nat.reduceMul, Int.reduceToNat, Int.reduceEq, Int.reduceLT, Int.reduceLE] <;> try simp only [zB]
 dsimp only at cadd1 cadd2 cwo
 refine goE mixed ?_
 refine callF_pure first_c ?_
 refine goE mixed ?_
 refine callF_pure (cadd2.arg ?_) ?_
 · with_reducible refine sxE ?_; trivial
 refine goE mixed ?_
 refine callI_pure (cwo.arg ?_) ?_
 · with_reducible refine sxE ?_; trivial
 refine goE mixed ?_
 refine callR_pure (lnum_c _) ?_
 refine goE mixed ?_
 refine callR_pure (lnum_c _) ?_
 refine run_sound mixed 600 _ ?_
 with_reducible refine sx1 hw00 ?_
 refine callR_pure (lnum_c _) ?_
 refine run_sound mixed 600 _ ?_
 with_reducible refine sx1 hw00 ?_
 refine callR_pure (csame.arg ?_) ?_
 · simp (maxSteps := 3000000) only [ent1, set1, go_sem, ↓zA, ↓reduceIte, ↓reduceDIte, reduceCtorEq, Nat.reduceAdd, Nat.reduceSub, Nat.reduceLeDiff, Nat.reduceLT, Nat.reduceEqDiff, Nat.reduceBEq, Nat.reduceMul, Int.reduceToNat, Int.reduceEq, Int.reduceLT, Int.reduceLE] <;> try simp only [zB]
 refine goE mixed ?_
 refine ⟨fun _ => ⟨by decide, callR_pure second_c ?_⟩, fun h => absurd (by decide) h⟩
 refine goE mixed ?_
 refine callR_pure (cset2.arg ?_) ?_
 · simp (maxSteps := 3000000) only [ent2, go_sem, ↓zA, ↓reduceIte, ↓reduceDIte, reduceCtorEq, Nat.reduceAdd, Nat.reduceSub, Nat.reduceLeDiff, Nat.reduceLT, Nat.reduceEqDiff, Nat.reduceBEq, Nat.reduceMul, Int.reduceToNat, Int.reduceEq, Int.reduceLT, Int.reduceLE] <;> try simp only [zB]
 have hl1 : 1 < List.length ent2.2.2.2.2.1 := by decide
 refine run_sound mixed 600 _ ?_
 with_reducible refine sx1 hl1 ?_
 refine callR_pure first_c ?_
 refine goE mixed ?_
 refine callR_pure (cset1.arg ?_) ?_
 · simp (maxSteps := 3000000) only [ent2, go_sem, ↓zA, ↓reduceIte, ↓reduceDIte, reduceCtorEq, Nat.reduceAdd, Nat.reduceSub, Nat.reduceLeDiff, Nat.reduceLT, Nat.reduceEqDiff, Nat.reduceBEq, Nat.reduceMul, Int.reduceToNat, Int.reduceEq, Int.reduceLT, Int.reduceLE] <;> try simp only [zB]
 refine goE mixed ?_
 refine callI_pure (cf1.arg ?_) ?_
 · with_reducible refine sxE ?_; trivial
 refine goE mixed ?_
 refine callI_pure (cf2.arg ?_) ?_
 · with_reducible refine sxE ?_; trivial
 refine goE mixed ?_
 refine callI_pure (cf3.arg ?_) ?_
 · with_reducible refine sxE ?_; trivial
 refine goE mixed ?_
 refine callI_pure (cf4.arg ?_) ?_
 · with_reducible refine sxE ?_; trivial
 refine goE mixed ?_
 refine callI_pure (cenc.arg ?_) ?_
 · simp (maxSteps := 3000000) only [ent1, set1, go_sem, ↓zA, ↓reduceIte, ↓reduceDIte, reduceCtorEq, Nat.reduceAdd, Nat.reduceSub, Nat.reduceLeDiff, Nat.reduceLT, Nat.reduceEqDiff, Nat.reduceBEq, Nat.reduceMul, Int.reduceToNat, Int.reduceEq, Int.reduceLT, Int.reduceLE] <;> try simp only [zB]
 refine goE mixed ?_
 refine callI_pure (cof.arg ?_) ?_
 · simp (maxSteps := 3000000) only [ent1, set1, go_sem, ↓zA, ↓reduceIte, ↓reduceDIte, reduceCtorEq, Nat.reduceAdd, Nat.reduceSub, Nat.reduceLeDiff, Nat.reduceLT, Nat.reduceEqDiff, Nat.reduceBEq, Nat.reduceMul, Int.reduceToNat, Int.reduceEq, Int.reduceLT, Int.reduceLE] <;> try simp only [zB]
 refine goE mixed ?_
 refine callI_pure (ceo.arg ?_) ?_
 · with_reducible refine sxE ?_; trivial
 refine goE mixed ?_
 refine callI_pure (lnum_c _) ?_
 refine goE mixed ?_
 refine callI_pure (lnum_c _) ?_
 refine goE mixed ?_
 refine callI_pure (lnum_c _) ?_
 refine run_sound mixed 600 _ ?_
 simp (maxSteps := 3000000) only [hw00, off1, go_sem, ↓zA, ↓reduceIte, ↓reduceDIte, reduceCtorEq, Nat.reduceAdd, Nat.reduceSub, Nat.reduceLeDiff, Nat.reduceLT, Nat.reduceEqDiff, Nat.reduceBEq, Nat.reduceMul, Int.reduceToNat, Int.reduceEq, Int.reduceLT, Int.reduceLE] <;> try simp only [zB]
 have hel' : (entS ent1).length = 95 := by simpa using hel
 refine ⟨fun _ => ⟨by decide, callI_hand 6 ?_⟩, fun h => absurd (by rw [hel']; rfl) h⟩
 with_reducible refine sxE ?_
 refine callI_pure (cso.arg ?_) ?_
 · with_reducible refine sxE ?_; trivial
 refine run_sound mixed 600 _ ?_
 simp (maxSteps := 3000000) only [off1, go_sem, ↓zA, ↓reduceIte, ↓reduceDIte, reduceCtorEq, Nat.reduceAdd, Nat.reduceSub, Nat.reduceLeDiff, Nat.reduceLT, Nat.reduceEqDiff, Nat.reduceBEq, Nat.reduceMul, Int.reduceToNat, Int.reduceEq, Int.reduceLT, Int.reduceLE] <;> try simp only [zB]
 decide
end Go.Proofs.YtddmkgibghohkaaGreatDoor
