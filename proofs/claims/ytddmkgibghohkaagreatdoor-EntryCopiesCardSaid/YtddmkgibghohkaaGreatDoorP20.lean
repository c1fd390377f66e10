/- Contracts: the program's equality of entries. -/
import Derived.Test.YtddmkgibghohkaaGreatDoorPRf4
set_option linter.unusedSimpArgs false
set_option linter.unusedVariables false
set_option linter.unusedSectionVars false
namespace Go.Proofs.YtddmkgibghohkaaGreatDoor
open Go Go.Sx Go.Proofs
set_option maxRecDepth 100000
set_option maxHeartbeats 4000000
set_option linter.unusedSimpArgs false
set_option synthInstance.maxSize 2000
set_option synthInstance.maxHeartbeats 400000

theorem bequal_c (l l' : List UInt8) : PC Tryz.prog 69 [.isl .u8 l, .isl .u8 l'] (rB (decide (l = l'))) := by
 refine pc_of rfl rfl ?_
 refine runE mixed fi69 ?_
 simp only [strOf_inj]
theorem sequal_c (l l' : List ByteArray) (hl : (Ty.slice Ty.str).ok l) : PC Tryz.prog 126 [.isl .str l, .isl .str l'] (rB (decide (l = l'))) := by
 have hlen := hl.1
 have key := sameN l l' (ByteArray.empty)
 refine pc_of rfl rfl ?_
 refine runE mixed fi126 ?_ <;> try with_reducible exact True.intro
 repeat' (first
  | (with_reducible refine And.intro ?_ ?_)
  | (with_reducible intro _))
 all_goals (skip)
 · grind
 · refine si_cntD (fun i => [(13, .raw (.int .i64 ((i : Nat) : Int)))]) (l.length) (fun j => (eqAt l l' ByteArray.empty) j = true) (by first | decide | simp) (fun i => rfl) ?_ fun i hi hall => ?_
   · (with_reducible refine sxE ?_ <;> try exact True.intro)
     all_goals (try rfl)
   have hwr : IntKind.i64.wrap ((i : Int) + 1) = ((i + 1 : Nat) : Int) := wrap_succ (by omega)
   refine goE mixed ?_
   have bad : i < (l.length) → (eqAt l l' ByteArray.empty) i = false → allN (l.length) (eqAt l l' ByteArray.empty) = false := fun hlt hv => allN_false hlt hv
   have fin : ¬ i < (l.length) → allN (l.length) (eqAt l l' ByteArray.empty) = true := fun h => allN_true fun j hj => hall j (by omega)
   try dsimp only at bad fin hall
   repeat' (first
    | (refine callI_pure (skip) ?_; refine run_sound mixed 600 _ ?_; simp (maxSteps := 3000000) only [go_sem, ↓zA, ↓reduceIte, ↓reduceDIte, reduceCtorEq, Nat.reduceAdd, Nat.reduceSub, Nat.reduceLeDiff, Nat.reduceLT, Nat.reduceEqDiff, Nat.reduceBEq, Nat.reduceMul, Int.reduceToNat, Int.reduceEq, Int.reduceLT, Int.reduceLE] <;> try simp only [zB])
    | (refine callR_pure (skip) ?_; refine run_sound mixed 600 _ ?_; simp (maxSteps := 3000000) only [go_sem, ↓zA, ↓reduceIte, ↓reduceDIte, reduceCtorEq, Nat.reduceAdd, Nat.reduceSub, Nat.reduceLeDiff, Nat.reduceLT, Nat.reduceEqDiff, Nat.reduceBEq, Nat.reduceMul, Int.reduceToNat, Int.reduceEq, Int.reduceLT, Int.reduceLE] <;> try simp only [zB])
    | (refine callF_pure (skip) ?_; refine run_sound mixed 600 _ ?_; simp (maxSteps := 3000000) only [go_sem, ↓zA, ↓reduceIte, ↓reduceDIte, reduceCtorEq, Nat.reduceAdd, Nat.reduceSub, Nat.reduceLeDiff, Nat.reduceLT, Nat.reduceEqDiff, Nat.reduceBEq, Nat.reduceMul, Int.reduceToNat, Int.reduceEq, Int.reduceLT, Int.reduceLE] <;> try simp only [zB])
    | (with_reducible refine And.intro ?_ ?_)
    | (with_reducible intro _))
   all_goals (first | (with_reducible (refine (id ?_ : SoundI _ _ _))) | ((try simp only [Ty.dflt] at *); first | omega | (refine ⟨by omega, next_all hall (by grind [eqAt]), ⟨_, by first | rfl | exact List.append_assoc _ _ _ | (simp only [List.append_assoc, List.cons_append, List.nil_append]; rfl)⟩, ?_⟩; simp only [hwr, go_sem, ↓zA, ↓reduceIte, ↓reduceDIte, reduceCtorEq, Nat.reduceAdd, Nat.reduceSub, Nat.reduceLeDiff, Nat.reduceLT, Nat.reduceEqDiff, Nat.reduceBEq, Nat.reduceMul, Int.reduceToNat, Int.reduceEq, Int.reduceLT, Int.reduceLE] <;> (first | rfl | (grind [eqAt]))) | (refine ⟨_, rfl⟩) | (refine ⟨_, List.append_assoc _ _ _⟩) | (grind [eqAt])))
theorem nequal_c (p p' : Prin) (hp : PrinT.ok p) : PC Tryz.prog 64 [.agg (PrinT.cells p), .agg (PrinT.cells p')] (rB (decide (p = p'))) := by
 obtain ⟨a, r⟩ := p
 obtain ⟨a', r'⟩ := p'
 have hd : decide ((a, r) = (a', r')) = (decide (r = r') && decide (a = a')) := by
  rw [Bool.eq_iff_iff]; simp only [decide_eq_true_eq, Bool.and_eq_true, Prod.mk.injEq]
  exact ⟨fun h => ⟨h.2, h.1⟩, fun h => ⟨h.2, h.1⟩⟩
 rw [show rB (decide ((a, r) = (a', r'))) = rB (decide (r = r') && decide (a = a')) from by rw [hd]]
 clear hd
 refine pc_of rfl rfl ?_
 refine runE mixed fi64 ?_ <;> try with_reducible exact True.intro
 repeat' (first
  | (refine callI_pure (sequal_c _ _ hp.1) ?_; refine run_sound mixed 600 _ ?_; simp (maxSteps := 3000000) only [go_sem, ↓zA, ↓reduceIte, ↓reduceDIte, reduceCtorEq, Nat.reduceAdd, Nat.reduceSub, Nat.reduceLeDiff, Nat.reduceLT, Nat.reduceEqDiff, Nat.reduceBEq, Nat.reduceMul, Int.reduceToNat, Int.reduceEq, Int.reduceLT, Int.reduceLE] <;> try simp only [zB])
  | (refine callR_pure (sequal_c _ _ hp.1) ?_; refine run_sound mixed 600 _ ?_; simp (maxSteps := 3000000) only [go_sem, ↓zA, ↓reduceIte, ↓reduceDIte, reduceCtorEq, Nat.reduceAdd, Nat.reduceSub, Nat.reduceLeDiff, Nat.reduceLT, Nat.reduceEqDiff, Nat.reduceBEq, Nat.reduceMul, Int.reduceToNat, Int.reduceEq, Int.reduceLT, Int.reduceLE] <;> try simp only [zB])
  | (refine callF_pure (sequal_c _ _ hp.1) ?_; refine run_sound mixed 600 _ ?_; simp (maxSteps := 3000000) only [go_sem, ↓zA, ↓reduceIte, ↓reduceDIte, reduceCtorEq, Nat.reduceAdd, Nat.reduceSub, Nat.reduceLeDiff, Nat.reduceLT, Nat.reduceEqDiff, Nat.reduceBEq, Nat.reduceMul, Int.reduceToNat, Int.reduceEq, Int.reduceLT, Int.reduceLE] <;> try simp only [zB])
  | (with_reducible refine And.intro ?_ ?_)
  | (with_reducible intro _))
 all_goals (skip)
 all_goals grind
theorem pequal_c (k k' : Key) : PC Tryz.prog 128 [.agg (KeyT.cells k), .agg (KeyT.cells k')] (rB (decide (k = k'))) := by
 obtain ⟨a, b, c⟩ := k
 obtain ⟨a', b', c'⟩ := k'
 have hd : decide ((a, b, c) = (a', b', c')) = (decide (a = a') && (decide (b = b') && decide (c = c'))) := by
  rw [Bool.eq_iff_iff]; simp only [decide_eq_true_eq, Bool.and_eq_true, Prod.mk.injEq]
 rw [show rB (decide ((a, b, c) = (a', b', c'))) = rB (decide (a = a') && (decide (b = b') && decide (c = c'))) from by rw [hd]]
 clear hd
 refine pc_of rfl rfl ?_
 refine runE mixed fi128 ?_ <;> try with_reducible exact True.intro
 repeat' (first
  | (refine callI_pure (bequal_c _ _) ?_; refine run_sound mixed 600 _ ?_; simp (maxSteps := 3000000) only [go_sem, ↓zA, ↓reduceIte, ↓reduceDIte, reduceCtorEq, Nat.reduceAdd, Nat.reduceSub, Nat.reduceLeDiff, Nat.reduceLT, Nat.reduceEqDiff, Nat.reduceBEq, Nat.reduceMul, Int.reduceToNat, Int.reduceEq, Int.reduceLT, Int.reduceLE] <;> try simp only [zB])
  | (refine callR_pure (bequal_c _ _) ?_; refine run_sound mixed 600 _ ?_; simp (maxSteps := 3000000) only [go_sem, ↓zA, ↓reduceIte, ↓reduceDIte, reduceCtorEq, Nat.reduceAdd, Nat.reduceSub, Nat.reduceLeDiff, Nat.reduceLT, Nat.reduceEqDiff, Nat.reduceBEq, Nat.reduceMul, Int.reduceToNat, Int.reduceEq, Int.reduceLT, Int.reduceLE] <;> try simp only [zB])
  | (refine callF_pure (bequal_c _ _) ?_; refine run_sound mixed 600 _ ?_; simp (maxSteps := 3000000) only [go_sem, ↓zA, ↓reduceIte, ↓reduceDIte, reduceCtorEq, Nat.reduceAdd, Nat.reduceSub, Nat.reduceLeDiff, Nat.reduceLT, Nat.reduceEqDiff, Nat.reduceBEq, Nat.reduceMul, Int.reduceToNat, Int.reduceEq, Int.reduceLT, Int.reduceLE] <;> try simp only [zB])
  | (with_reducible refine And.intro ?_ ?_)
  | (with_reducible intro _))
 all_goals (skip)
 all_goals grind
theorem same_key (l l' : List (KeyT).den) (f : Nat) (hl : (Ty.slice KeyT).ok l) (hone : ∀ x ∈ l, ∀ y, PC Tryz.prog f [.agg ((KeyT).cells x), .agg ((KeyT).cells y)] (rB (decide (x = y)))) :
 PC Tryz.prog 127 [.isl (KeyT) l, .isl (KeyT) l', .fn f [] []] (rB (decide (l = l'))) := by
 have hlen := hl.1
 have key := sameN l l' (KeyT).dflt
 refine pc_of rfl rfl ?_
 refine runE mixed fi127 ?_ <;> try with_reducible exact True.intro
 repeat' (first
  | (with_reducible refine And.intro ?_ ?_)
  | (with_reducible intro _))
 all_goals (skip)
 · grind
 · refine si_cntD (fun i => [(15, .raw (.int .i64 ((i : Nat) : Int)))]) (l.length) (fun j => (eqAt l l' (KeyT).dflt) j = true) (by first | decide | simp) (fun i => rfl) ?_ fun i hi hall => ?_
   · (with_reducible refine sxE ?_ <;> try exact True.intro)
     all_goals (try rfl)
   have hwr : IntKind.i64.wrap ((i : Int) + 1) = ((i + 1 : Nat) : Int) := wrap_succ (by omega)
   refine goE mixed ?_
   have bad : i < (l.length) → (eqAt l l' (KeyT).dflt) i = false → allN (l.length) (eqAt l l' (KeyT).dflt) = false := fun hlt hv => allN_false hlt hv
   have fin : ¬ i < (l.length) → allN (l.length) (eqAt l l' (KeyT).dflt) = true := fun h => allN_true fun j hj => hall j (by omega)
   try dsimp only at bad fin hall
   have hok : ∀ {j}, j < l.length → l.getD j (KeyT).dflt ∈ l := fun h => getD_mem h
   repeat' (first
    | (refine callI_pure (hone _ (hok ‹_›) _) ?_; refine run_sound mixed 600 _ ?_; simp (maxSteps := 3000000) only [go_sem, ↓zA, ↓reduceIte, ↓reduceDIte, reduceCtorEq, Nat.reduceAdd, Nat.reduceSub, Nat.reduceLeDiff, Nat.reduceLT, Nat.reduceEqDiff, Nat.reduceBEq, Nat.reduceMul, Int.reduceToNat, Int.reduceEq, Int.reduceLT, Int.reduceLE] <;> try simp only [zB])
    | (refine callR_pure (hone _ (hok ‹_›) _) ?_; refine run_sound mixed 600 _ ?_; simp (maxSteps := 3000000) only [go_sem, ↓zA, ↓reduceIte, ↓reduceDIte, reduceCtorEq, Nat.reduceAdd, Nat.reduceSub, Nat.reduceLeDiff, Nat.reduceLT, Nat.reduceEqDiff, Nat.reduceBEq, Nat.reduceMul, Int.reduceToNat, Int.reduceEq, Int.reduceLT, Int.reduceLE] <;> try simp only [zB])
    | (refine callF_pure (hone _ (hok ‹_›) _) ?_; refine run_sound mixed 600 _ ?_; simp (maxSteps := 3000000) only [go_sem, ↓zA, ↓reduceIte, ↓reduceDIte, reduceCtorEq, Nat.reduceAdd, Nat.reduceSub, Nat.reduceLeDiff, Nat.reduceLT, Nat.reduceEqDiff, Nat.reduceBEq, Nat.reduceMul, Int.reduceToNat, Int.reduceEq, Int.reduceLT, Int.reduceLE] <;> try simp only [zB])
    | (with_reducible refine And.intro ?_ ?_)
    | (with_reducible intro _))
   all_goals (first | (with_reducible (refine (id ?_ : SoundI _ _ _))) | ((try simp only [Ty.dflt] at *); first | omega | (refine ⟨by omega, next_all hall (by grind [eqAt]), ⟨_, by first | rfl | exact List.append_assoc _ _ _ | (simp only [List.append_assoc, List.cons_append, List.nil_append]; rfl)⟩, ?_⟩; simp only [hwr, go_sem, ↓zA, ↓reduceIte, ↓reduceDIte, reduceCtorEq, Nat.reduceAdd, Nat.reduceSub, Nat.reduceLeDiff, Nat.reduceLT, Nat.reduceEqDiff, Nat.reduceBEq, Nat.reduceMul, Int.reduceToNat, Int.reduceEq, Int.reduceLT, Int.reduceLE] <;> (first | rfl | (grind [eqAt]))) | (refine ⟨_, rfl⟩) | (refine ⟨_, List.append_assoc _ _ _⟩) | (grind [eqAt])))
theorem same_prin (l l' : List (PrinT).den) (f : Nat) (hl : (Ty.slice PrinT).ok l) (hone : ∀ x ∈ l, ∀ y, PC Tryz.prog f [.agg ((PrinT).cells x), .agg ((PrinT).cells y)] (rB (decide (x = y)))) :
 PC Tryz.prog 65 [.isl (PrinT) l, .isl (PrinT) l', .fn f [] []] (rB (decide (l = l'))) := by
 have hlen := hl.1
 have key := sameN l l' (PrinT).dflt
 refine pc_of rfl rfl ?_
 refine runE mixed fi65 ?_ <;> try with_reducible exact True.intro
 repeat' (first
  | (with_reducible refine And.intro ?_ ?_)
  | (with_reducible intro _))
 all_goals (skip)
 · grind
 · refine si_cntD (fun i => [(15, .raw (.int .i64 ((i : Nat) : Int)))]) (l.length) (fun j => (eqAt l l' (PrinT).dflt) j = true) (by first | decide | simp) (fun i => rfl) ?_ fun i hi hall => ?_
   · (with_reducible refine sxE ?_ <;> try exact True.intro)
     all_goals (try rfl)
   have hwr : IntKind.i64.wrap ((i : Int) + 1) = ((i + 1 : Nat) : Int) := wrap_succ (by omega)
   refine goE mixed ?_
   have bad : i < (l.length) → (eqAt l l' (PrinT).dflt) i = false → allN (l.length) (eqAt l l' (PrinT).dflt) = false := fun hlt hv => allN_false hlt hv
   have fin : ¬ i < (l.length) → allN (l.length) (eqAt l l' (PrinT).dflt) = true := fun h => allN_true fun j hj => hall j (by omega)
   try dsimp only at bad fin hall
   have hok : ∀ {j}, j < l.length → l.getD j (PrinT).dflt ∈ l := fun h => getD_mem h
   repeat' (first
    | (refine callI_pure (hone _ (hok ‹_›) _) ?_; refine run_sound mixed 600 _ ?_; simp (maxSteps := 3000000) only [go_sem, ↓zA, ↓reduceIte, ↓reduceDIte, reduceCtorEq, Nat.reduceAdd, Nat.reduceSub, Nat.reduceLeDiff, Nat.reduceLT, Nat.reduceEqDiff, Nat.reduceBEq, Nat.reduceMul, Int.reduceToNat, Int.reduceEq, Int.reduceLT, Int.reduceLE] <;> try simp only [zB])
    | (refine callR_pure (hone _ (hok ‹_›) _) ?_; refine run_sound mixed 600 _ ?_; simp (maxSteps := 3000000) only [go_sem, ↓zA, ↓reduceIte, ↓reduceDIte, reduceCtorEq, Nat.reduceAdd, Nat.reduceSub, Nat.reduceLeDiff, Nat.reduceLT, Nat.reduceEqDiff, Nat.reduceBEq, Nat.reduceMul, Int.reduceToNat, Int.reduceEq, Int.reduceLT, Int.reduceLE] <;> try simp only [zB])
    | (refine callF_pure (hone _ (hok ‹_›) _) ?_; refine run_sound mixed 600 _ ?_; simp (maxSteps := 3000000) only [go_sem, ↓zA, ↓reduceIte, ↓reduceDIte, reduceCtorEq, Nat.reduceAdd, Nat.reduceSub, Nat.reduceLeDiff, Nat.reduceLT, Nat.reduceEqDiff, Nat.reduceBEq, Nat.reduceMul, Int.reduceToNat, Int.reduceEq, Int.reduceLT, Int.reduceLE] <;> try simp only [zB])
    | (with_reducible refine And.intro ?_ ?_)
    | (with_reducible intro _))
   all_goals (first | (with_reducible (refine (id ?_ : SoundI _ _ _))) | ((try simp only [Ty.dflt] at *); first | omega | (refine ⟨by omega, next_all hall (by grind [eqAt]), ⟨_, by first | rfl | exact List.append_assoc _ _ _ | (simp only [List.append_assoc, List.cons_append, List.nil_append]; rfl)⟩, ?_⟩; simp only [hwr, go_sem, ↓zA, ↓reduceIte, ↓reduceDIte, reduceCtorEq, Nat.reduceAdd, Nat.reduceSub, Nat.reduceLeDiff, Nat.reduceLT, Nat.reduceEqDiff, Nat.reduceBEq, Nat.reduceMul, Int.reduceToNat, Int.reduceEq, Int.reduceLT, Int.reduceLE] <;> (first | rfl | (grind [eqAt]))) | (refine ⟨_, rfl⟩) | (refine ⟨_, List.append_assoc _ _ _⟩) | (grind [eqAt])))
theorem same_set (l l' : List (SetT).den) (f : Nat) (hl : (Ty.slice SetT).ok l) (hone : ∀ x ∈ l, ∀ y, PC Tryz.prog f [.agg ((SetT).cells x), .agg ((SetT).cells y)] (rB (decide (x = y)))) :
 PC Tryz.prog 66 [.isl (SetT) l, .isl (SetT) l', .fn f [] []] (rB (decide (l = l'))) := by
 have hlen := hl.1
 have key := sameN l l' (SetT).dflt
 refine pc_of rfl rfl ?_
 refine runE mixed fi66 ?_ <;> try with_reducible exact True.intro
 repeat' (first
  | (with_reducible refine And.intro ?_ ?_)
  | (with_reducible intro _))
 all_goals (skip)
 · grind
 · refine si_cntD (fun i => [(15, .raw (.int .i64 ((i : Nat) : Int)))]) (l.length) (fun j => (eqAt l l' (SetT).dflt) j = true) (by first | decide | simp) (fun i => rfl) ?_ fun i hi hall => ?_
   · (with_reducible refine sxE ?_ <;> try exact True.intro)
     all_goals (try rfl)
   have hwr : IntKind.i64.wrap ((i : Int) + 1) = ((i + 1 : Nat) : Int) := wrap_succ (by omega)
   refine goE mixed ?_
   have bad : i < (l.length) → (eqAt l l' (SetT).dflt) i = false → allN (l.length) (eqAt l l' (SetT).dflt) = false := fun hlt hv => allN_false hlt hv
   have fin : ¬ i < (l.length) → allN (l.length) (eqAt l l' (SetT).dflt) = true := fun h => allN_true fun j hj => hall j (by omega)
   try dsimp only at bad fin hall
   have hok : ∀ {j}, j < l.length → l.getD j (SetT).dflt ∈ l := fun h => getD_mem h
   repeat' (first
    | (refine callI_pure (hone _ (hok ‹_›) _) ?_; refine run_sound mixed 600 _ ?_; simp (maxSteps := 3000000) only [go_sem, ↓zA, ↓reduceIte, ↓reduceDIte, reduceCtorEq, Nat.reduceAdd, Nat.reduceSub, Nat.reduceLeDiff, Nat.reduceLT, Nat.reduceEqDiff, Nat.reduceBEq, Nat.reduceMul, Int.reduceToNat, Int.reduceEq, Int.reduceLT, Int.reduceLE] <;> try simp only [zB])
    | (refine callR_pure (hone _ (hok ‹_›) _) ?_; refine run_sound mixed 600 _ ?_; simp (maxSteps := 3000000) only [go_sem, ↓zA, ↓reduceIte, ↓reduceDIte, reduceCtorEq, Nat.reduceAdd, Nat.reduceSub, Nat.reduceLeDiff, Nat.reduceLT, Nat.reduceEqDiff, Nat.reduceBEq, Nat.reduceMul, Int.reduceToNat, Int.reduceEq, Int.reduceLT, Int.reduceLE] <;> try simp only [zB])
    | (refine callF_pure (hone _ (hok ‹_›) _) ?_; refine run_sound mixed 600 _ ?_; simp (maxSteps := 3000000) only [go_sem, ↓zA, ↓reduceIte, ↓reduceDIte, reduceCtorEq, Nat.reduceAdd, Nat.reduceSub, Nat.reduceLeDiff, Nat.reduceLT, Nat.reduceEqDiff, Nat.reduceBEq, Nat.reduceMul, Int.reduceToNat, Int.reduceEq, Int.reduceLT, Int.reduceLE] <;> try simp only [zB])
    | (with_reducible refine And.intro ?_ ?_)
    | (with_reducible intro _))
   all_goals (first | (with_reducible (refine (id ?_ : SoundI _ _ _))) | ((try simp only [Ty.dflt] at *); first | omega | (refine ⟨by omega, next_all hall (by grind [eqAt]), ⟨_, by first | rfl | exact List.append_assoc _ _ _ | (simp only [List.append_assoc, List.cons_append, List.nil_append]; rfl)⟩, ?_⟩; simp only [hwr, go_sem, ↓zA, ↓reduceIte, ↓reduceDIte, reduceCtorEq, Nat.reduceAdd, Nat.reduceSub, Nat.reduceLeDiff, Nat.reduceLT, Nat.reduceEqDiff, Nat.reduceBEq, Nat.reduceMul, Int.reduceToNat, Int.reduceEq, Int.reduceLT, Int.reduceLE] <;> (first | rfl | (grind [eqAt]))) | (refine ⟨_, rfl⟩) | (refine ⟨_, List.append_assoc _ _ _⟩) | (grind [eqAt])))
theorem same_bytes (l l' : List (List UInt8)) (f : Nat) (hl : (Ty.slice (.slice .u8)).ok l) (hone : ∀ x y, PC Tryz.prog f [.isl .u8 x, .isl .u8 y] (rB (decide (x = y)))) :
 PC Tryz.prog 68 [.isl (.slice .u8) l, .isl (.slice .u8) l', .fn f [] []] (rB (decide (l = l'))) := by
 have hlen := hl.1
 have key := sameN l l' ([] : List UInt8)
 refine pc_of rfl rfl ?_
 refine runE mixed fi68 ?_ <;> try with_reducible exact True.intro
 repeat' (first
  | (with_reducible refine And.intro ?_ ?_)
  | (with_reducible intro _))
 all_goals (skip)
 · grind
 · refine si_cntD (fun i => [(15, .raw (.int .i64 ((i : Nat) : Int)))]) (l.length) (fun j => (eqAt l l' ([] : List UInt8)) j = true) (by first | decide | simp) (fun i => rfl) ?_ fun i hi hall => ?_
   · (with_reducible refine sxE ?_ <;> try exact True.intro)
     all_goals (try rfl)
   have hwr : IntKind.i64.wrap ((i : Int) + 1) = ((i + 1 : Nat) : Int) := wrap_succ (by omega)
   refine goE mixed ?_
   have bad : i < (l.length) → (eqAt l l' ([] : List UInt8)) i = false → allN (l.length) (eqAt l l' ([] : List UInt8)) = false := fun hlt hv => allN_false hlt hv
   have fin : ¬ i < (l.length) → allN (l.length) (eqAt l l' ([] : List UInt8)) = true := fun h => allN_true fun j hj => hall j (by omega)
   try dsimp only at bad fin hall
   repeat' (first
    | (refine callI_pure (hone _ _) ?_; refine run_sound mixed 600 _ ?_; simp (maxSteps := 3000000) only [go_sem, ↓zA, ↓reduceIte, ↓reduceDIte, reduceCtorEq, Nat.reduceAdd, Nat.reduceSub, Nat.reduceLeDiff, Nat.reduceLT, Nat.reduceEqDiff, Nat.reduceBEq, Nat.reduceMul, Int.reduceToNat, Int.reduceEq, Int.reduceLT, Int.reduceLE] <;> try simp only [zB])
    | (refine callR_pure (hone _ _) ?_; refine run_sound mixed 600 _ ?_; simp (maxSteps := 3000000) only [go_sem, ↓zA, ↓reduceIte, ↓reduceDIte, reduceCtorEq, Nat.reduceAdd, Nat.reduceSub, Nat.reduceLeDiff, Nat.reduceLT, Nat.reduceEqDiff, Nat.reduceBEq, Nat.reduceMul, Int.reduceToNat, Int.reduceEq, Int.reduceLT, Int.reduceLE] <;> try simp only [zB])
    | (refine callF_pure (hone _ _) ?_; refine run_sound mixed 600 _ ?_; simp (maxSteps := 3000000) only [go_sem, ↓zA, ↓reduceIte, ↓reduceDIte, reduceCtorEq, Nat.reduceAdd, Nat.reduceSub, Nat.reduceLeDiff, Nat.reduceLT, Nat.reduceEqDiff, Nat.reduceBEq, Nat.reduceMul, Int.reduceToNat, Int.reduceEq, Int.reduceLT, Int.reduceLE] <;> try simp only [zB])
    | (with_reducible refine And.intro ?_ ?_)
    | (with_reducible intro _))
   all_goals (first | (with_reducible (refine (id ?_ : SoundI _ _ _))) | ((try simp only [Ty.dflt] at *); first | omega | (refine ⟨by omega, next_all hall (by grind [eqAt]), ⟨_, by first | rfl | exact List.append_assoc _ _ _ | (simp only [List.append_assoc, List.cons_append, List.nil_append]; rfl)⟩, ?_⟩; simp only [hwr, go_sem, ↓zA, ↓reduceIte, ↓reduceDIte, reduceCtorEq, Nat.reduceAdd, Nat.reduceSub, Nat.reduceLeDiff, Nat.reduceLT, Nat.reduceEqDiff, Nat.reduceBEq, Nat.reduceMul, Int.reduceToNat, Int.reduceEq, Int.reduceLT, Int.reduceLE] <;> (first | rfl | (grind [eqAt]))) | (refine ⟨_, rfl⟩) | (refine ⟨_, List.append_assoc _ _ _⟩) | (grind [eqAt])))
end Go.Proofs.YtddmkgibghohkaaGreatDoor
