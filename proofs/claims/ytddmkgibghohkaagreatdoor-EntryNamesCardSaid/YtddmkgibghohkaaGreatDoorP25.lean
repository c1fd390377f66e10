/- The plain law: the program and the reference tell the same of entries. -/
import Derived.Test.YtddmkgibghohkaaGreatDoorPRv
set_option linter.unusedSimpArgs false
set_option linter.unusedVariables false
set_option linter.unusedSectionVars false
namespace Go.Proofs.YtddmkgibghohkaaGreatDoor
open Go Go.Sx Go.Proofs
set_option maxRecDepth 100000
set_option maxHeartbeats 1000000
set_option linter.unusedSimpArgs false

end Go.Proofs.YtddmkgibghohkaaGreatDoor
/- Contracts: the reference's Offer, SameOffer, Add. -/
namespace Go.Proofs.YtddmkgibghohkaaGreatDoor
open Go Go.Sx Go.Proofs
set_option maxRecDepth 100000
set_option maxHeartbeats 4000000
set_option linter.unusedSimpArgs false

theorem salt_eq (a b : Salt) : (decide (a.1 = b.1) && (decide (a.2.1 = b.2.1) && decide (a.2.2 = b.2.2))) = decide (a = b) := by
 obtain ⟨a1, a2, a3⟩ := a
 obtain ⟨b1, b2, b3⟩ := b
 rw [Bool.eq_iff_iff]
 simp
theorem rsameOffer_c (l l' : List Salt) (hl : l.length ≤ 1125899906842624) : PC Tryz.prog 25 [.isl SaltT l, .isl SaltT l'] (rB (decide (l = l'))) := by
 have key := sameN l l' SaltT.dflt
 refine pc_of rfl rfl ?_
 refine runE mixed fi25 ?_
 refine ⟨fun h => ?_, fun h => ?_⟩
 · rw [decide_eq_false (fun e => h (by rw [e]))]
 have hll : l.length = l'.length := by omega
 refine si_cntD (fun i => [(5, .raw (.int .i64 ((i : Nat) : Int)))]) (l.length) (fun j => (eqAt l l' SaltT.dflt) j = true) (by first | decide | simp) (fun i => rfl) ?_ fun i hi hall => ?_
 · (with_reducible refine sxE ?_ <;> try exact True.intro)
   all_goals (try rfl)
 have hwr : IntKind.i64.wrap ((i : Int) + 1) = ((i + 1 : Nat) : Int) := wrap_succ (by omega)
 refine goE mixed ?_
 have bad : i < (l.length) → (eqAt l l' SaltT.dflt) i = false → allN (l.length) (eqAt l l' SaltT.dflt) = false := fun hlt hv => allN_false hlt hv
 have fin : ¬ i < (l.length) → allN (l.length) (eqAt l l' SaltT.dflt) = true := fun h => allN_true fun j hj => hall j (by omega)
 try dsimp only at bad fin hall
 refine ⟨fun hlt => ⟨⟨by omega, hlt⟩, ⟨by omega, by omega⟩, fun hn => ?_, fun he => ?_⟩, fun hge => ?_⟩
 · have := bad hlt ((salt_eq _ _).symm.trans hn)
   rw [decide_eq_false (fun e => by have h1 := (key.1 e).2; rw [this] at h1; cases h1)]
 · refine ⟨hlt, next_all hall ((salt_eq _ _).symm.trans he), ⟨[], rfl⟩, ?_⟩
   with_reducible refine sx1 hwr ?_; trivial
 · rw [decide_eq_true (key.2 ⟨hll, fin hge⟩)]
end Go.Proofs.YtddmkgibghohkaaGreatDoor
/- Contracts: the reference's Without, Find. -/
namespace Go.Proofs.YtddmkgibghohkaaGreatDoor
open Go Go.Sx Go.Proofs
set_option maxRecDepth 100000
set_option maxHeartbeats 4000000
set_option linter.unusedSimpArgs false

end Go.Proofs.YtddmkgibghohkaaGreatDoor
/- Contracts: the law's own functions. -/
namespace Go.Proofs.YtddmkgibghohkaaGreatDoor
open Go Go.Sx Go.Proofs
set_option maxRecDepth 100000
set_option maxHeartbeats 4000000
set_option linter.unusedSimpArgs false

theorem lnum_c (n : Int) : PC Tryz.prog 18 [rI n] (rI n) := by
 refine pc_of rfl rfl ?_
 refine runE mixed fi18 ?_; trivial
theorem repeat_c (c : UInt8) (m : Int) (hm : m = c.toNat) (n : Nat) (hn : n ≤ 1048576) : PC Tryz.prog 111 [.raw (.int .u8 m), rI n] (.isl .u8 (List.replicate n c)) := by
 subst hm
 refine pc_seal rfl rfl ?_
 refine runE mixed fi111 ?_
 refine si_accN 5 .u8 (fun i => List.replicate i c) (fun i => [(6, rI i)]) n (fun _ => True) rfl (by simp) (by simp) rfl (fun i => rfl) ?_ fun i hi _ => ?_
 · with_reducible refine sxE ?_; trivial
 have hwr : IntKind.i64.wrap ((i : Int) + 1) = ((i + 1 : Nat) : Int) := wrap_succ (by omega)
 have hst : List.replicate (i + 1) c = List.replicate i c ++ [c] := List.replicate_succ'
 refine run_sound mixed 600 _ ?_
 simp (maxSteps := 3000000) only [List.length_replicate, go_sem, ↓zA, ↓reduceIte, ↓reduceDIte, reduceCtorEq, Nat.reduceAdd, Nat.reduceSub, Nat.reduceLeDiff, Nat.reduceLT, Nat.reduceEqDiff, Nat.reduceBEq, Nat.reduceMul, Int.reduceToNat, Int.reduceEq, Int.reduceLT, Int.reduceLE] <;> try simp only [zB]
 refine ⟨fun hlt => ?_, fun hge => ?_⟩
 · refine ⟨tag_ob c, ⟨by omega, by omega⟩, acc_next [.dead, .row .u8 [c]] [] hlt trivial (by rw [hst]; simp) ?_⟩
   simp (maxSteps := 3000000) only [hwr, hst, List.length_append, List.length_replicate, go_sem, ↓zA, ↓reduceIte, ↓reduceDIte, reduceCtorEq, Nat.reduceAdd, Nat.reduceSub, Nat.reduceLeDiff, Nat.reduceLT, Nat.reduceEqDiff, Nat.reduceBEq, Nat.reduceMul, Int.reduceToNat, Int.reduceEq, Int.reduceLT, Int.reduceLE] <;> try simp only [zB]
 · obtain rfl : i = n := by omega
   refine ⟨⟨Nat.le_refl _, by omega⟩, List.take_of_length_le (by simp)⟩
def set1 : KSet := (1, [(1, 1, List.replicate 16 1)], ⟨#[82, 97]⟩, 4, 10)
def set2 : KSet := (2, [(2, 2, List.replicate 32 2)], ⟨#[]⟩, 0, 20)
theorem first_c : PC Tryz.prog 43 [] (.agg (SetT.cells set1)) := by
 refine pc_seal rfl rfl ?_
 refine runE mixed fi43 ?_
 refine callI_pure (repeat_c 1 1 rfl 16 (by decide)) ?_
 refine run_sound mixed 600 _ ?_
 simp (maxSteps := 3000000) only [set1, go_sem, ↓zA, ↓reduceIte, ↓reduceDIte, reduceCtorEq, Nat.reduceAdd, Nat.reduceSub, Nat.reduceLeDiff, Nat.reduceLT, Nat.reduceEqDiff, Nat.reduceBEq, Nat.reduceMul, Int.reduceToNat, Int.reduceEq, Int.reduceLT, Int.reduceLE] <;> try simp only [zB]
theorem second_c : PC Tryz.prog 44 [] (.agg (SetT.cells set2)) := by
 refine pc_seal rfl rfl ?_
 refine runE mixed fi44 ?_
 refine callI_pure (repeat_c 2 2 rfl 32 (by decide)) ?_
 refine run_sound mixed 600 _ ?_
 simp (maxSteps := 3000000) only [set2, go_sem, ↓zA, ↓reduceIte, ↓reduceDIte, reduceCtorEq, Nat.reduceAdd, Nat.reduceSub, Nat.reduceLeDiff, Nat.reduceLT, Nat.reduceEqDiff, Nat.reduceBEq, Nat.reduceMul, Int.reduceToNat, Int.reduceEq, Int.reduceLT, Int.reduceLE] <;> try simp only [zB]
theorem finds_c (e : Ent) (v p w n : Int) (ho : EntT.ok e) : PC Tryz.prog 45 [.agg (EntT.cells e), rI v, rI p, rI w, rI n] (rB (decide (((findS e v p).1.2.2.length : Int) = w) && decide ((findS e v p).2 = n))) := by
 refine pc_of rfl rfl ?_
 refine runE mixed fi45 ?_
 refine callI_pure (efind_c e v p ho) ?_
 refine goE mixed ?_
 refine ⟨fun h => callI_pure (lnum_c _) ?_, fun h => ?_⟩
 · refine goE mixed ?_
   rw [decide_eq_true h]; rfl
 · rw [decide_eq_false h]; rfl
def ent1 : Ent := (([⟨#[97]⟩], ⟨#[82]⟩), [], 0, 0, [set1], ⟨#[]⟩, 0, 0, 0, 0, 0, 0, 0, [], [], [])
def ent2 : Ent := (([⟨#[97]⟩], ⟨#[82]⟩), [], 0, 0, [set2, set1], ⟨#[]⟩, 0, 0, 0, 0, 0, 0, 0, [], [], [])
theorem okstr (s : ByteArray) (h : s.size ≤ 140737488355328) : Ty.str.ok s := h
theorem okset1 : SetT.ok set1 := by
 refine ⟨trivial, ⟨by decide, fun x hx => ?_⟩, okstr _ (by decide), trivial, trivial⟩
 simp [set1] at hx; subst hx; exact ⟨trivial, trivial, by simp, fun _ _ => trivial⟩
theorem okset2 : SetT.ok set2 := by
 refine ⟨trivial, ⟨by decide, fun x hx => ?_⟩, okstr _ (by decide), trivial, trivial⟩
 simp [set2] at hx; subst hx; exact ⟨trivial, trivial, by simp, fun _ _ => trivial⟩
theorem okprin1 : PrinT.ok ([⟨#[97]⟩], ⟨#[82]⟩) := by
 refine ⟨⟨by decide, fun x hx => ?_⟩, okstr _ (by decide)⟩
 simp at hx; subst hx; exact okstr _ (by decide)
theorem okent1 : EntT.ok ent1 :=
 ⟨okprin1, ⟨by decide, fun x hx => by cases hx⟩, trivial, trivial, ⟨by decide, fun x hx => by simp [ent1] at hx; subst hx; exact okset1⟩, okstr _ (by decide), trivial, trivial, trivial, trivial, trivial, trivial, trivial, ⟨by decide, fun x hx => by cases hx⟩, ⟨by decide, fun x hx => by cases hx⟩, ⟨by decide, fun x hx => by cases hx⟩⟩
theorem okent2 : EntT.ok ent2 :=
 ⟨okprin1, ⟨by decide, fun x hx => by cases hx⟩, trivial, trivial, ⟨by decide, fun x hx => by simp [ent2] at hx; rcases hx with rfl | rfl; exact okset2; exact okset1⟩, okstr _ (by decide), trivial, trivial, trivial, trivial, trivial, trivial, trivial, ⟨by decide, fun x hx => by cases hx⟩, ⟨by decide, fun x hx => by cases hx⟩, ⟨by decide, fun x hx => by cases hx⟩⟩
theorem vent1 : vEnt ent1 = true := by decide +kernel
theorem vent2 : vEnt ent2 = true := by decide +kernel
theorem add12 : addS ent1 set2 = (ent2, 0) := by
 unfold addS
 rw [if_neg (by rw [vent1]; decide), if_neg (by decide +kernel), if_neg (by decide +kernel), if_neg (by decide +kernel)]
 rfl
theorem add21 : addS ent2 set1 = (EntT.dflt, 11) := by
 unfold addS
 rw [if_neg (by rw [vent2]; decide), if_pos (by decide +kernel)]
theorem wo2 : woS ent2 2 = (ent1, 0) := by
 unfold woS
 rw [if_neg (by rw [vent2]; decide), show firstN (keysOf ent2).length (verAt (keysOf ent2) 2) = some 0 by decide +kernel]
 rfl
theorem of1 : ofS ent1 = ([(1, ⟨#[82, 97]⟩, 4)], 0) := by
 unfold ofS
 rw [if_neg (by rw [vent1]; decide), if_neg (by decide +kernel)]
 rfl
theorem enc1 : (if vEnt ent1 then entS ent1 else []).length = 95 := by rw [if_pos vent1]; decide +kernel
theorem voff1 : vOffer [(1, ⟨#[82, 97]⟩, 4)] = true := by decide +kernel
theorem off1 : offerS [(1, ⟨#[82, 97]⟩, 4)] = [48, 18, 48, 16, 160, 3, 2, 1, 1, 161, 4, 27, 2, 82, 97, 162, 3, 2, 1, 4] := by decide +kernel
theorem fnd1 : findS ent2 0 0 = ((2, 2, List.replicate 32 2), 0) := by
 unfold findS
 rw [if_neg (by rw [vent2]; decide)]
 rfl
theorem fnd2 : findS ent2 1 0 = ((1, 1, List.replicate 16 1), 0) := by
 unfold findS
 rw [if_neg (by rw [vent2]; decide), show idxS (keysOf ent2) 1 = some 1 by decide +kernel]
 rfl
theorem fnd3 : findS ent2 1 2 = (KeyT.dflt, 9) := by
 unfold findS
 rw [if_neg (by rw [vent2]; decide), show idxS (keysOf ent2) 1 = some 1 by decide +kernel]
 show findK _ _ = _
 unfold findK
 rw [show firstN (setAt (keysOf ent2) 1).2.1.length (proAt (setAt (keysOf ent2) 1).2.1 2) = none by decide +kernel]
theorem fnd4 : findS ent2 3 0 = (KeyT.dflt, 9) := by
 unfold findS
 rw [if_neg (by rw [vent2]; decide), show idxS (keysOf ent2) 3 = none by decide +kernel]
end Go.Proofs.YtddmkgibghohkaaGreatDoor
