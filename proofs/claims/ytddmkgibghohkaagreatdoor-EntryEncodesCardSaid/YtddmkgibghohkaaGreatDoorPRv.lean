/- Contracts: the reference's Valid. -/
import Derived.Test.YtddmkgibghohkaaGreatDoorP19
import Derived.Test.YtddmkgibghohkaaGreatDoorP20
import Derived.Test.YtddmkgibghohkaaGreatDoorPRf4
set_option linter.unusedSimpArgs false
set_option linter.unusedVariables false
namespace Go.Proofs.YtddmkgibghohkaaGreatDoor
open Go Go.Sx Go.Proofs
set_option maxRecDepth 100000
set_option maxHeartbeats 4000000
set_option linter.unusedSimpArgs false

def aliAt (l : List Prin) (n : Prin) (j : Nat) : Bool := decide ((l.getD j PrinT.dflt).2 = n.2) && !decide (l.getD j PrinT.dflt = n)
def setOk (l : List KSet) (m : Int) (j : Nat) : Bool := vSet (l.getD j SetT.dflt) m && (decide (j = 0) || (decide ((l.getD j SetT.dflt).1 < (l.getD (j - 1) SetT.dflt).1) && decide ((l.getD j SetT.dflt).2.2.2.2 ≤ (l.getD (j - 1) SetT.dflt).2.2.2.2)))
def hisOk (l : List (List UInt8)) (j : Nat) : Bool := decide (((l.getD j (Ty.slice .u8).dflt).length : Int) = 16)
def attrR (a : Int) : Bool := decide (IntKind.i64.wrap (BitVec.ofInt 64 (IntKind.i64.wrap a) ||| BitVec.ofInt 64 1023).toNat = 1023)
def rEnt (e : Ent) : Bool :=
 vPrin e.1 && (rDiff e.2.1 && (rDiff e.2.2.2.2.2.2.2.2.2.2.2.2.2.1 && (rDiff e.2.2.2.2.2.2.2.2.2.2.2.2.2.2.1 && (allN e.2.1.length (aliAt e.2.1 e.1) && (allN e.2.2.2.2.1.length (setOk e.2.2.2.2.1 e.2.2.2.1) && (allN e.2.2.2.2.2.2.2.2.2.2.2.2.2.2.2.length (hisOk e.2.2.2.2.2.2.2.2.2.2.2.2.2.2.2) &&
  (attrR e.2.2.1 && (inR e.2.2.2.1 0 65535 && (decide ((e.2.2.2.2.1.length : Int) ≤ 16) && (decide ((e.2.2.2.2.2.1.size : Int) ≤ 32) && (visB e.2.2.2.2.2.1 && (decide ((e.2.2.2.2.2.2.2.2.2.2.2.2.2.2.2.length : Int) ≤ 16) &&
  (inR e.2.2.2.2.2.2.1 0 1099511627776 && (inR e.2.2.2.2.2.2.2.1 0 1099511627776 && (inR e.2.2.2.2.2.2.2.2.1 0 2147483648 && (inR e.2.2.2.2.2.2.2.2.2.1 0 2147483648 && (inR e.2.2.2.2.2.2.2.2.2.2.1 0 65535 && (inR e.2.2.2.2.2.2.2.2.2.2.2.1 0 1099511627776 && inR e.2.2.2.2.2.2.2.2.2.2.2.2.1 0 1099511627776))))))))))))))))))
theorem rvalid_r (e : Ent) (ho : EntT.ok e) : PC Tryz.prog 24 [.agg (EntT.cells e)] (rB (rEnt e)) := by
 obtain ⟨e1, e2, e3, e4, e5, e6, e7, e8, e9, e10, e11, e12, e13, e14, e15, e16⟩ := e
 obtain ⟨o1, o2, o3, o4, o5, o6, o7, o8, o9, o10, o11, o12, o13, o14, o15, o16⟩ := ho
 have hl2 : List.length e2 ≤ 1125899906842624 := o2.1
 have hl5 : List.length e5 ≤ 1125899906842624 := o5.1
 have hl16 : List.length e16 ≤ 1125899906842624 := o16.1
 have hok2 : ∀ {j}, j < List.length e2 → PrinT.ok (List.getD e2 j PrinT.dflt) := fun h => o2.2 _ (getD_mem h)
 have hok5 : ∀ {j}, j < List.length e5 → SetT.ok (List.getD e5 j SetT.dflt) := fun h => o5.2 _ (getD_mem h)
 have hd : rEnt (e1, e2, e3, e4, e5, e6, e7, e8, e9, e10, e11, e12, e13, e14, e15, e16) = (vPrin e1 && (rDiff e2 && (rDiff e14 && (rDiff e15 && (allN (List.length e2) (aliAt e2 e1) && (allN (List.length e5) (setOk e5 e4) && (allN (List.length e16) (hisOk e16) &&
  (attrR e3 && (inR e4 0 65535 && (decide ((List.length e5 : Int) ≤ 16) && (decide ((e6.size : Int) ≤ 32) && (visB e6 && (decide ((List.length e16 : Int) ≤ 16) &&
  (inR e7 0 1099511627776 && (inR e8 0 1099511627776 && (inR e9 0 2147483648 && (inR e10 0 2147483648 && (inR e11 0 65535 && (inR e12 0 1099511627776 && inR e13 0 1099511627776))))))))))))))))))) := rfl
 rw [hd]
 clear hd
 refine pc_of rfl rfl ?_
 refine runE mixed fi24 ?_
 refine callI_pure (rvp_c e1 o1) ?_
 refine goE mixed ?_
 refine ⟨fun h1 => ?_, fun h1 => by rw [h1]; rfl⟩
 refine callI_pure (rdiff_c e2 o2) ?_
 refine goE mixed ?_
 refine ⟨fun h2 => ?_, fun h2 => by rw [h2]; simp⟩
 refine callI_pure (rdiff_c e14 o14) ?_
 refine goE mixed ?_
 refine ⟨fun h14 => ?_, fun h14 => by rw [h14]; simp⟩
 refine callI_pure (rdiff_c e15 o15) ?_
 refine goE mixed ?_
 refine ⟨fun h15 => by rw [h15]; simp, fun h15 => ?_⟩
 rw [h1, h2, h14, h15]
 simp only [Bool.true_and]
 clear h1 h2 h14 h15 o1 o2 o3 o4 o5 o7 o8 o9 o10 o11 o12 o13 o14 o15 o16
 have o6 : e6.size ≤ 140737488355328 := o6
 refine si_cntD (fun i => [(3, .raw (.int .i64 ((i : Nat) : Int)))]) (List.length e2) (fun j => (aliAt e2 e1) j = true) (by first | decide | simp) (fun i => rfl) ?_ fun i hi hall => ?_
 · (with_reducible refine sxE ?_ <;> try exact True.intro)
   all_goals (try rfl)
 have hwr : IntKind.i64.wrap ((i : Int) + 1) = ((i + 1 : Nat) : Int) := wrap_succ (by omega)
 refine goE mixed ?_
 have bad : i < (List.length e2) → (aliAt e2 e1) i = false → allN (List.length e2) (aliAt e2 e1) = false := fun hlt hv => allN_false hlt hv
 have fin : ¬ i < (List.length e2) → allN (List.length e2) (aliAt e2 e1) = true := fun h => allN_true fun j hj => hall j (by omega)
 try dsimp only at bad fin hall
 repeat' (first
  | (refine callI_pure (rsp_c _ _ (hok2 ‹_›)) ?_; refine run_sound mixed 600 _ ?_; simp (maxSteps := 3000000) only [go_sem, ↓zA, ↓reduceIte, ↓reduceDIte, reduceCtorEq, Nat.reduceAdd, Nat.reduceSub, Nat.reduceLeDiff, Nat.reduceLT, Nat.reduceEqDiff, Nat.reduceBEq, Nat.reduceMul, Int.reduceToNat, Int.reduceEq, Int.reduceLT, Int.reduceLE] <;> try simp only [zB])
  | (refine callR_pure (rsp_c _ _ (hok2 ‹_›)) ?_; refine run_sound mixed 600 _ ?_; simp (maxSteps := 3000000) only [go_sem, ↓zA, ↓reduceIte, ↓reduceDIte, reduceCtorEq, Nat.reduceAdd, Nat.reduceSub, Nat.reduceLeDiff, Nat.reduceLT, Nat.reduceEqDiff, Nat.reduceBEq, Nat.reduceMul, Int.reduceToNat, Int.reduceEq, Int.reduceLT, Int.reduceLE] <;> try simp only [zB])
  | (refine callF_pure (rsp_c _ _ (hok2 ‹_›)) ?_; refine run_sound mixed 600 _ ?_; simp (maxSteps := 3000000) only [go_sem, ↓zA, ↓reduceIte, ↓reduceDIte, reduceCtorEq, Nat.reduceAdd, Nat.reduceSub, Nat.reduceLeDiff, Nat.reduceLT, Nat.reduceEqDiff, Nat.reduceBEq, Nat.reduceMul, Int.reduceToNat, Int.reduceEq, Int.reduceLT, Int.reduceLE] <;> try simp only [zB])
  | (with_reducible refine And.intro ?_ ?_)
  | (with_reducible intro _))
 all_goals (first | (with_reducible (refine (id ?_ : SoundI _ _ _))) | ((try simp only [Ty.dflt] at *); first | omega | (refine ⟨by omega, next_all hall (by grind [aliAt]), ⟨_, by first | rfl | exact List.append_assoc _ _ _ | (simp only [List.append_assoc, List.cons_append, List.nil_append]; rfl)⟩, ?_⟩; simp only [hwr, go_sem, ↓zA, ↓reduceIte, ↓reduceDIte, reduceCtorEq, Nat.reduceAdd, Nat.reduceSub, Nat.reduceLeDiff, Nat.reduceLT, Nat.reduceEqDiff, Nat.reduceBEq, Nat.reduceMul, Int.reduceToNat, Int.reduceEq, Int.reduceLT, Int.reduceLE] <;> (first | rfl | (grind [aliAt]))) | (refine ⟨_, rfl⟩) | (refine ⟨_, List.append_assoc _ _ _⟩) | (grind [aliAt])))
 rw [fin ‹_›]
 simp only [Bool.true_and]
 clear fin bad hall hwr hok2 hl2
 refine si_cntD (fun i => [(4, .raw (.int .i64 ((i : Nat) : Int)))]) (List.length e5) (fun j => (setOk e5 e4) j = true) (by first | decide | simp) (fun i => rfl) ?_ fun i hi hall => ?_
 · (with_reducible refine sxE ?_ <;> try exact True.intro)
   all_goals (try rfl)
 have hwr : IntKind.i64.wrap ((i : Int) + 1) = ((i + 1 : Nat) : Int) := wrap_succ (by omega)
 refine goE mixed ?_
 have bad : i < (List.length e5) → (setOk e5 e4) i = false → allN (List.length e5) (setOk e5 e4) = false := fun hlt hv => allN_false hlt hv
 have fin : ¬ i < (List.length e5) → allN (List.length e5) (setOk e5 e4) = true := fun h => allN_true fun j hj => hall j (by omega)
 try dsimp only at bad fin hall
 have hsub : IntKind.i64.wrap ((i : Int) - 1) = (i : Int) - 1 := wrapi (by omega)
 have hsubn : ((i : Int) - 1).toNat = i - 1 := by omega
 repeat' (first
  | (refine callI_pure (rvset_c _ _ (hok5 ‹_›)) ?_; refine run_sound mixed 600 _ ?_; simp (maxSteps := 3000000) only [hsub, hsubn, go_sem, ↓zA, ↓reduceIte, ↓reduceDIte, reduceCtorEq, Nat.reduceAdd, Nat.reduceSub, Nat.reduceLeDiff, Nat.reduceLT, Nat.reduceEqDiff, Nat.reduceBEq, Nat.reduceMul, Int.reduceToNat, Int.reduceEq, Int.reduceLT, Int.reduceLE] <;> try simp only [zB])
  | (refine callR_pure (rvset_c _ _ (hok5 ‹_›)) ?_; refine run_sound mixed 600 _ ?_; simp (maxSteps := 3000000) only [hsub, hsubn, go_sem, ↓zA, ↓reduceIte, ↓reduceDIte, reduceCtorEq, Nat.reduceAdd, Nat.reduceSub, Nat.reduceLeDiff, Nat.reduceLT, Nat.reduceEqDiff, Nat.reduceBEq, Nat.reduceMul, Int.reduceToNat, Int.reduceEq, Int.reduceLT, Int.reduceLE] <;> try simp only [zB])
  | (refine callF_pure (rvset_c _ _ (hok5 ‹_›)) ?_; refine run_sound mixed 600 _ ?_; simp (maxSteps := 3000000) only [hsub, hsubn, go_sem, ↓zA, ↓reduceIte, ↓reduceDIte, reduceCtorEq, Nat.reduceAdd, Nat.reduceSub, Nat.reduceLeDiff, Nat.reduceLT, Nat.reduceEqDiff, Nat.reduceBEq, Nat.reduceMul, Int.reduceToNat, Int.reduceEq, Int.reduceLT, Int.reduceLE] <;> try simp only [zB])
  | (with_reducible refine And.intro ?_ ?_)
  | (with_reducible intro _))
 all_goals (first | (with_reducible (refine (id ?_ : SoundI _ _ _))) | ((try simp only [Ty.dflt] at *); first | omega | (refine ⟨by omega, next_all hall (by grind [setOk]), ⟨_, by first | rfl | exact List.append_assoc _ _ _ | (simp only [List.append_assoc, List.cons_append, List.nil_append]; rfl)⟩, ?_⟩; simp only [hwr, hsub, hsubn, go_sem, ↓zA, ↓reduceIte, ↓reduceDIte, reduceCtorEq, Nat.reduceAdd, Nat.reduceSub, Nat.reduceLeDiff, Nat.reduceLT, Nat.reduceEqDiff, Nat.reduceBEq, Nat.reduceMul, Int.reduceToNat, Int.reduceEq, Int.reduceLT, Int.reduceLE] <;> (first | rfl | (grind [setOk]))) | (refine ⟨_, rfl⟩) | (refine ⟨_, List.append_assoc _ _ _⟩) | (grind [setOk])))
 rw [fin ‹_›]
 simp only [Bool.true_and]
 clear fin bad hall hwr hok5 hl5 hsub hsubn
 refine si_cntD (fun i => [(5, .raw (.int .i64 ((i : Nat) : Int)))]) (List.length e16) (fun j => (hisOk e16) j = true) (by first | decide | simp) (fun i => rfl) ?_ fun i hi hall => ?_
 · (with_reducible refine sxE ?_ <;> try exact True.intro)
   all_goals (try rfl)
 have hwr : IntKind.i64.wrap ((i : Int) + 1) = ((i + 1 : Nat) : Int) := wrap_succ (by omega)
 refine goE mixed ?_
 have bad : i < (List.length e16) → (hisOk e16) i = false → allN (List.length e16) (hisOk e16) = false := fun hlt hv => allN_false hlt hv
 have fin : ¬ i < (List.length e16) → allN (List.length e16) (hisOk e16) = true := fun h => allN_true fun j hj => hall j (by omega)
 try dsimp only at bad fin hall
 refine ⟨fun hlt => ?_, fun hge => ?_⟩
 · repeat' (first
    | (with_reducible refine And.intro ?_ ?_)
    | (with_reducible intro _))
   all_goals (first | (with_reducible (refine (id ?_ : SoundI _ _ _))) | ((try simp only [Ty.dflt] at *); first | omega | (refine ⟨by omega, next_all hall (by grind [hisOk]), ⟨_, by first | rfl | exact List.append_assoc _ _ _ | (simp only [List.append_assoc, List.cons_append, List.nil_append]; rfl)⟩, ?_⟩; simp only [hwr, go_sem, ↓zA, ↓reduceIte, ↓reduceDIte, reduceCtorEq, Nat.reduceAdd, Nat.reduceSub, Nat.reduceLeDiff, Nat.reduceLT, Nat.reduceEqDiff, Nat.reduceBEq, Nat.reduceMul, Int.reduceToNat, Int.reduceEq, Int.reduceLT, Int.reduceLE] <;> (first | rfl | (grind [hisOk]))) | (refine ⟨_, rfl⟩) | (refine ⟨_, List.append_assoc _ _ _⟩) | (grind [hisOk])))
 rw [fin hge]
 simp only [Bool.true_and]
 clear fin bad hall hwr
 refine ⟨fun ha => ?_, fun ha => by rw [show attrR e3 = false from decide_eq_false ha]; rfl⟩
 rw [show attrR e3 = true from decide_eq_true ha]
 simp only [Bool.true_and]
 refine callI_pure (rin_c _ _ _) ?_
 refine goE mixed ?_
 refine ⟨fun h => ?_, fun h => by rw [h]; rfl⟩
 rw [h]
 simp only [Bool.true_and]
 refine ⟨fun h => ?_, fun h => by rw [decide_eq_false (by omega : ¬ ((List.length e5 : Int) ≤ 16))]; rfl⟩
 rw [decide_eq_true (by omega : ((List.length e5 : Int) ≤ 16))]
 simp only [Bool.true_and]
 refine ⟨fun h => ?_, fun h => by rw [decide_eq_false (by omega : ¬ ((e6.size : Int) ≤ 32))]; rfl⟩
 rw [decide_eq_true (by omega : ((e6.size : Int) ≤ 32))]
 simp only [Bool.true_and]
 refine callI_pure (rvis_c _ o6) ?_
 refine goE mixed ?_
 refine ⟨fun h => ⟨fun h' => by rw [decide_eq_false (by omega : ¬ ((List.length e16 : Int) ≤ 16))]; simp, fun h' => ?_⟩, fun h => by rw [h]; rfl⟩
 rw [h, decide_eq_true (by omega : ((List.length e16 : Int) ≤ 16))]
 simp only [Bool.true_and]
 refine callI_pure (rin_c _ _ _) ?_
 refine goE mixed ?_
 refine ⟨fun h => ?_, fun h => by rw [h]; rfl⟩
 rw [h]
 simp only [Bool.true_and]
 refine callI_pure (rin_c _ _ _) ?_
 refine goE mixed ?_
 refine ⟨fun h => ?_, fun h => by rw [h]; rfl⟩
 rw [h]
 simp only [Bool.true_and]
 refine callI_pure (rin_c _ _ _) ?_
 refine goE mixed ?_
 refine ⟨fun h => ?_, fun h => by rw [h]; rfl⟩
 rw [h]
 simp only [Bool.true_and]
 refine callI_pure (rin_c _ _ _) ?_
 refine goE mixed ?_
 refine ⟨fun h => ?_, fun h => by rw [h]; rfl⟩
 rw [h]
 simp only [Bool.true_and]
 refine callI_pure (rin_c _ _ _) ?_
 refine goE mixed ?_
 refine ⟨fun h => ?_, fun h => by rw [h]; rfl⟩
 rw [h]
 simp only [Bool.true_and]
 refine callI_pure (rin_c _ _ _) ?_
 refine goE mixed ?_
 refine ⟨fun h => ?_, fun h => by rw [h]; rfl⟩
 rw [h]
 simp only [Bool.true_and]
 refine callI_pure (rin_c _ _ _) ?_
 refine goE mixed ?_; trivial
end Go.Proofs.YtddmkgibghohkaaGreatDoor
