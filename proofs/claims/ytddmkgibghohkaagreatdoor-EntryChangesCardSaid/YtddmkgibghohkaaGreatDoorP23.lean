/- Contracts: the reference on keys and principals. -/
import Derived.Test.YtddmkgibghohkaaGreatDoorP19
set_option linter.unusedSimpArgs false
set_option linter.unusedVariables false
namespace Go.Proofs.YtddmkgibghohkaaGreatDoor
open Go Go.Sx Go.Proofs
set_option maxRecDepth 100000
set_option maxHeartbeats 4000000
set_option linter.unusedSimpArgs false

def inR (v lo hi : Int) : Bool := decide (lo ≤ v) && decide (v ≤ hi)
theorem rin_c (v lo hi : Int) : PC Tryz.prog 55 [rI v, rI lo, rI hi] (rB (inR v lo hi)) := by
  refine pc_of rfl rfl ?_
  refine vc_fi fi55 (run_sound mixed 600 _ ?_)
  simp (maxSteps := 3000000) only [ir55, go_sem, ↓bothG_tt, ↓bothG_tf, ↓bothG_ft, ↓bothG_ff, ↓reduceIte, ↓reduceDIte, reduceCtorEq, Nat.reduceAdd, Nat.reduceSub, Nat.reduceLeDiff, Nat.reduceLT, Nat.reduceEqDiff, Nat.reduceBEq, Nat.reduceMul, Int.reduceToNat, Int.reduceEq, Int.reduceLT, Int.reduceLE] <;> try simp only [bothG_t, bothG_f, decide_eq_true_eq, decide_eq_false_iff_not, Bool.not_eq_true', Bool.not_eq_false', Int.ofNat_lt, Int.ofNat_le]
  repeat' (first
    | (with_reducible refine And.intro ?_ ?_)
    | (with_reducible intro _))
  all_goals (grind [inR])
theorem rkl_c (p : Int) : PC Tryz.prog 72 [rI p] (rI (keyLen p)) := by
  refine pc_of rfl rfl ?_
  refine vc_fi fi72 (run_sound mixed 600 _ ?_)
  simp (maxSteps := 3000000) only [ir72, go_sem, ↓bothG_tt, ↓bothG_tf, ↓bothG_ft, ↓bothG_ff, ↓reduceIte, ↓reduceDIte, reduceCtorEq, Nat.reduceAdd, Nat.reduceSub, Nat.reduceLeDiff, Nat.reduceLT, Nat.reduceEqDiff, Nat.reduceBEq, Nat.reduceMul, Int.reduceToNat, Int.reduceEq, Int.reduceLT, Int.reduceLE] <;> try simp only [bothG_t, bothG_f, decide_eq_true_eq, decide_eq_false_iff_not, Bool.not_eq_true', Bool.not_eq_false', Int.ofNat_lt, Int.ofNat_le]
  repeat' (first
    | (with_reducible refine And.intro ?_ ?_)
    | (with_reducible intro _))
  all_goals (simp_all [keyLen])
theorem keyLen_pos (p : Int) : (0 < keyLen p) = (keyLen p ≠ 0) := by unfold keyLen; split <;> (try split) <;> simp
theorem rvk_c (k : Key) : PC Tryz.prog 120 [.agg (KeyT.cells k)] (rB (vKey k)) := by
  refine pc_of rfl rfl ?_
  refine vc_fi fi120 (run_sound mixed 600 _ ?_)
  simp (maxSteps := 3000000) only [ir120, go_sem, ↓bothG_tt, ↓bothG_tf, ↓bothG_ft, ↓bothG_ff, ↓reduceIte, ↓reduceDIte, reduceCtorEq, Nat.reduceAdd, Nat.reduceSub, Nat.reduceLeDiff, Nat.reduceLT, Nat.reduceEqDiff, Nat.reduceBEq, Nat.reduceMul, Int.reduceToNat, Int.reduceEq, Int.reduceLT, Int.reduceLE] <;> try simp only [bothG_t, bothG_f, decide_eq_true_eq, decide_eq_false_iff_not, Bool.not_eq_true', Bool.not_eq_false', Int.ofNat_lt, Int.ofNat_le]
  repeat' (first
    | (refine callI_pure (rkl_c _) ?_; refine run_sound mixed 600 _ ?_; simp (maxSteps := 3000000) only [go_sem, ↓bothG_tt, ↓bothG_tf, ↓bothG_ft, ↓bothG_ff, ↓reduceIte, ↓reduceDIte, reduceCtorEq, Nat.reduceAdd, Nat.reduceSub, Nat.reduceLeDiff, Nat.reduceLT, Nat.reduceEqDiff, Nat.reduceBEq, Nat.reduceMul, Int.reduceToNat, Int.reduceEq, Int.reduceLT, Int.reduceLE] <;> try simp only [bothG_t, bothG_f, decide_eq_true_eq, decide_eq_false_iff_not, Bool.not_eq_true', Bool.not_eq_false', Int.ofNat_lt, Int.ofNat_le])
    | (refine callR_pure (rkl_c _) ?_; refine run_sound mixed 600 _ ?_; simp (maxSteps := 3000000) only [go_sem, ↓bothG_tt, ↓bothG_tf, ↓bothG_ft, ↓bothG_ff, ↓reduceIte, ↓reduceDIte, reduceCtorEq, Nat.reduceAdd, Nat.reduceSub, Nat.reduceLeDiff, Nat.reduceLT, Nat.reduceEqDiff, Nat.reduceBEq, Nat.reduceMul, Int.reduceToNat, Int.reduceEq, Int.reduceLT, Int.reduceLE] <;> try simp only [bothG_t, bothG_f, decide_eq_true_eq, decide_eq_false_iff_not, Bool.not_eq_true', Bool.not_eq_false', Int.ofNat_lt, Int.ofNat_le])
    | (refine callF_pure (rkl_c _) ?_; refine run_sound mixed 600 _ ?_; simp (maxSteps := 3000000) only [go_sem, ↓bothG_tt, ↓bothG_tf, ↓bothG_ft, ↓bothG_ff, ↓reduceIte, ↓reduceDIte, reduceCtorEq, Nat.reduceAdd, Nat.reduceSub, Nat.reduceLeDiff, Nat.reduceLT, Nat.reduceEqDiff, Nat.reduceBEq, Nat.reduceMul, Int.reduceToNat, Int.reduceEq, Int.reduceLT, Int.reduceLE] <;> try simp only [bothG_t, bothG_f, decide_eq_true_eq, decide_eq_false_iff_not, Bool.not_eq_true', Bool.not_eq_false', Int.ofNat_lt, Int.ofNat_le])
    | (refine callI_pure (rin_c _ _ _) ?_; refine run_sound mixed 600 _ ?_; simp (maxSteps := 3000000) only [go_sem, ↓bothG_tt, ↓bothG_tf, ↓bothG_ft, ↓bothG_ff, ↓reduceIte, ↓reduceDIte, reduceCtorEq, Nat.reduceAdd, Nat.reduceSub, Nat.reduceLeDiff, Nat.reduceLT, Nat.reduceEqDiff, Nat.reduceBEq, Nat.reduceMul, Int.reduceToNat, Int.reduceEq, Int.reduceLT, Int.reduceLE] <;> try simp only [bothG_t, bothG_f, decide_eq_true_eq, decide_eq_false_iff_not, Bool.not_eq_true', Bool.not_eq_false', Int.ofNat_lt, Int.ofNat_le])
    | (refine callR_pure (rin_c _ _ _) ?_; refine run_sound mixed 600 _ ?_; simp (maxSteps := 3000000) only [go_sem, ↓bothG_tt, ↓bothG_tf, ↓bothG_ft, ↓bothG_ff, ↓reduceIte, ↓reduceDIte, reduceCtorEq, Nat.reduceAdd, Nat.reduceSub, Nat.reduceLeDiff, Nat.reduceLT, Nat.reduceEqDiff, Nat.reduceBEq, Nat.reduceMul, Int.reduceToNat, Int.reduceEq, Int.reduceLT, Int.reduceLE] <;> try simp only [bothG_t, bothG_f, decide_eq_true_eq, decide_eq_false_iff_not, Bool.not_eq_true', Bool.not_eq_false', Int.ofNat_lt, Int.ofNat_le])
    | (refine callF_pure (rin_c _ _ _) ?_; refine run_sound mixed 600 _ ?_; simp (maxSteps := 3000000) only [go_sem, ↓bothG_tt, ↓bothG_tf, ↓bothG_ft, ↓bothG_ff, ↓reduceIte, ↓reduceDIte, reduceCtorEq, Nat.reduceAdd, Nat.reduceSub, Nat.reduceLeDiff, Nat.reduceLT, Nat.reduceEqDiff, Nat.reduceBEq, Nat.reduceMul, Int.reduceToNat, Int.reduceEq, Int.reduceLT, Int.reduceLE] <;> try simp only [bothG_t, bothG_f, decide_eq_true_eq, decide_eq_false_iff_not, Bool.not_eq_true', Bool.not_eq_false', Int.ofNat_lt, Int.ofNat_le])
    | (with_reducible refine And.intro ?_ ?_)
    | (with_reducible intro _))
  all_goals (simp_all [vKey, inR, keyLen_pos])
theorem strOf_inj {xs ys : List UInt8} : strOf xs = strOf ys ↔ xs = ys := by
  constructor
  · intro h
    have := congrArg (fun s : ByteArray => s.data.toList) h
    simpa [strOf] using this
  · rintro rfl; rfl
theorem rsk_c (a b : Key) : PC Tryz.prog 57 [.agg (KeyT.cells a), .agg (KeyT.cells b)] (rB (decide (a = b))) := by
  obtain ⟨p, v, l⟩ := a
  obtain ⟨p', v', l'⟩ := b
  refine pc_of rfl rfl ?_
  refine vc_fi fi57 (run_sound mixed 600 _ ?_)
  simp (maxSteps := 3000000) only [ir57, go_sem, ↓bothG_tt, ↓bothG_tf, ↓bothG_ft, ↓bothG_ff, ↓reduceIte, ↓reduceDIte, reduceCtorEq, Nat.reduceAdd, Nat.reduceSub, Nat.reduceLeDiff, Nat.reduceLT, Nat.reduceEqDiff, Nat.reduceBEq, Nat.reduceMul, Int.reduceToNat, Int.reduceEq, Int.reduceLT, Int.reduceLE] <;> try simp only [bothG_t, bothG_f, decide_eq_true_eq, decide_eq_false_iff_not, Bool.not_eq_true', Bool.not_eq_false', Int.ofNat_lt, Int.ofNat_le]
  repeat' (first
    | (with_reducible refine And.intro ?_ ?_)
    | (with_reducible intro _))
  all_goals (simp_all [strOf_inj])

def partAt (l : List ByteArray) (j : Nat) : Bool := vPart (l.getD j ByteArray.empty)
theorem rvp_c (p : Prin) (hp : PrinT.ok p) : PC Tryz.prog 53 [.agg (PrinT.cells p)] (rB (vPrin p)) := by
  obtain ⟨l, r⟩ := p
  have hl : l.length ≤ 1125899906842624 := hp.1.1
  have hd : vPrin (l, r) = ((decide (1 ≤ (l.length : Int)) && (decide ((l.length : Int) ≤ 4) && realmB r)) && allN l.length (partAt l)) := rfl
  refine pc_of rfl rfl ?_
  refine vc_fi fi53 (run_sound mixed 600 _ ?_)
  simp (maxSteps := 3000000) only [ir53, go_sem, ↓bothG_tt, ↓bothG_tf, ↓bothG_ft, ↓bothG_ff, ↓reduceIte, ↓reduceDIte, reduceCtorEq, Nat.reduceAdd, Nat.reduceSub, Nat.reduceLeDiff, Nat.reduceLT, Nat.reduceEqDiff, Nat.reduceBEq, Nat.reduceMul, Int.reduceToNat, Int.reduceEq, Int.reduceLT, Int.reduceLE] <;> try simp only [bothG_t, bothG_f, decide_eq_true_eq, decide_eq_false_iff_not, Bool.not_eq_true', Bool.not_eq_false', Int.ofNat_lt, Int.ofNat_le]
  refine si_cntD (fun i => [(3, .raw (.int .i64 ((i : Nat) : Int)))]) (l.length) (fun j => (partAt l) j = true) (by first | decide | simp) (fun i => rfl) ?_ fun i hi hall => ?_
  · simp (maxSteps := 3000000) only [go_sem, ↓bothG_tt, ↓bothG_tf, ↓bothG_ft, ↓bothG_ff, ↓reduceIte, ↓reduceDIte, reduceCtorEq, Nat.reduceAdd, Nat.reduceSub, Nat.reduceLeDiff, Nat.reduceLT, Nat.reduceEqDiff, Nat.reduceBEq, Nat.reduceMul, Int.reduceToNat, Int.reduceEq, Int.reduceLT, Int.reduceLE] <;> try simp only [bothG_t, bothG_f, decide_eq_true_eq, decide_eq_false_iff_not, Bool.not_eq_true', Bool.not_eq_false', Int.ofNat_lt, Int.ofNat_le]
    all_goals (try rfl)
  have hwr : IntKind.i64.wrap ((i : Int) + 1) = ((i + 1 : Nat) : Int) := wrap_succ (by omega)
  refine run_sound mixed 600 _ ?_
  simp (maxSteps := 3000000) only [go_sem, ↓bothG_tt, ↓bothG_tf, ↓bothG_ft, ↓bothG_ff, ↓reduceIte, ↓reduceDIte, reduceCtorEq, Nat.reduceAdd, Nat.reduceSub, Nat.reduceLeDiff, Nat.reduceLT, Nat.reduceEqDiff, Nat.reduceBEq, Nat.reduceMul, Int.reduceToNat, Int.reduceEq, Int.reduceLT, Int.reduceLE] <;> try simp only [bothG_t, bothG_f, decide_eq_true_eq, decide_eq_false_iff_not, Bool.not_eq_true', Bool.not_eq_false', Int.ofNat_lt, Int.ofNat_le]
  have bad : i < (l.length) → (partAt l) i = false → allN (l.length) (partAt l) = false := fun hlt hv => allN_false hlt hv
  have fin : ¬ i < (l.length) → allN (l.length) (partAt l) = true := fun h => allN_true fun j hj => hall j (by omega)
  try dsimp only at bad fin hall
  repeat' (first
    | (refine callI_pure (rvis_c _ (hp.1.2 _ (getD_mem ‹_›))) ?_; refine run_sound mixed 600 _ ?_; simp (maxSteps := 3000000) only [go_sem, ↓bothG_tt, ↓bothG_tf, ↓bothG_ft, ↓bothG_ff, ↓reduceIte, ↓reduceDIte, reduceCtorEq, Nat.reduceAdd, Nat.reduceSub, Nat.reduceLeDiff, Nat.reduceLT, Nat.reduceEqDiff, Nat.reduceBEq, Nat.reduceMul, Int.reduceToNat, Int.reduceEq, Int.reduceLT, Int.reduceLE] <;> try simp only [bothG_t, bothG_f, decide_eq_true_eq, decide_eq_false_iff_not, Bool.not_eq_true', Bool.not_eq_false', Int.ofNat_lt, Int.ofNat_le])
    | (refine callR_pure (rvis_c _ (hp.1.2 _ (getD_mem ‹_›))) ?_; refine run_sound mixed 600 _ ?_; simp (maxSteps := 3000000) only [go_sem, ↓bothG_tt, ↓bothG_tf, ↓bothG_ft, ↓bothG_ff, ↓reduceIte, ↓reduceDIte, reduceCtorEq, Nat.reduceAdd, Nat.reduceSub, Nat.reduceLeDiff, Nat.reduceLT, Nat.reduceEqDiff, Nat.reduceBEq, Nat.reduceMul, Int.reduceToNat, Int.reduceEq, Int.reduceLT, Int.reduceLE] <;> try simp only [bothG_t, bothG_f, decide_eq_true_eq, decide_eq_false_iff_not, Bool.not_eq_true', Bool.not_eq_false', Int.ofNat_lt, Int.ofNat_le])
    | (refine callF_pure (rvis_c _ (hp.1.2 _ (getD_mem ‹_›))) ?_; refine run_sound mixed 600 _ ?_; simp (maxSteps := 3000000) only [go_sem, ↓bothG_tt, ↓bothG_tf, ↓bothG_ft, ↓bothG_ff, ↓reduceIte, ↓reduceDIte, reduceCtorEq, Nat.reduceAdd, Nat.reduceSub, Nat.reduceLeDiff, Nat.reduceLT, Nat.reduceEqDiff, Nat.reduceBEq, Nat.reduceMul, Int.reduceToNat, Int.reduceEq, Int.reduceLT, Int.reduceLE] <;> try simp only [bothG_t, bothG_f, decide_eq_true_eq, decide_eq_false_iff_not, Bool.not_eq_true', Bool.not_eq_false', Int.ofNat_lt, Int.ofNat_le])
    | (refine callI_pure (rrealm_c _ hp.2) ?_; refine run_sound mixed 600 _ ?_; simp (maxSteps := 3000000) only [go_sem, ↓bothG_tt, ↓bothG_tf, ↓bothG_ft, ↓bothG_ff, ↓reduceIte, ↓reduceDIte, reduceCtorEq, Nat.reduceAdd, Nat.reduceSub, Nat.reduceLeDiff, Nat.reduceLT, Nat.reduceEqDiff, Nat.reduceBEq, Nat.reduceMul, Int.reduceToNat, Int.reduceEq, Int.reduceLT, Int.reduceLE] <;> try simp only [bothG_t, bothG_f, decide_eq_true_eq, decide_eq_false_iff_not, Bool.not_eq_true', Bool.not_eq_false', Int.ofNat_lt, Int.ofNat_le])
    | (refine callR_pure (rrealm_c _ hp.2) ?_; refine run_sound mixed 600 _ ?_; simp (maxSteps := 3000000) only [go_sem, ↓bothG_tt, ↓bothG_tf, ↓bothG_ft, ↓bothG_ff, ↓reduceIte, ↓reduceDIte, reduceCtorEq, Nat.reduceAdd, Nat.reduceSub, Nat.reduceLeDiff, Nat.reduceLT, Nat.reduceEqDiff, Nat.reduceBEq, Nat.reduceMul, Int.reduceToNat, Int.reduceEq, Int.reduceLT, Int.reduceLE] <;> try simp only [bothG_t, bothG_f, decide_eq_true_eq, decide_eq_false_iff_not, Bool.not_eq_true', Bool.not_eq_false', Int.ofNat_lt, Int.ofNat_le])
    | (refine callF_pure (rrealm_c _ hp.2) ?_; refine run_sound mixed 600 _ ?_; simp (maxSteps := 3000000) only [go_sem, ↓bothG_tt, ↓bothG_tf, ↓bothG_ft, ↓bothG_ff, ↓reduceIte, ↓reduceDIte, reduceCtorEq, Nat.reduceAdd, Nat.reduceSub, Nat.reduceLeDiff, Nat.reduceLT, Nat.reduceEqDiff, Nat.reduceBEq, Nat.reduceMul, Int.reduceToNat, Int.reduceEq, Int.reduceLT, Int.reduceLE] <;> try simp only [bothG_t, bothG_f, decide_eq_true_eq, decide_eq_false_iff_not, Bool.not_eq_true', Bool.not_eq_false', Int.ofNat_lt, Int.ofNat_le])
    | (with_reducible refine And.intro ?_ ?_)
    | (with_reducible intro _))
  all_goals (first | (with_reducible (refine (id ?_ : SoundI _ _ _))) | ((try simp only [Ty.dflt] at *); first | omega | (refine ⟨by omega, next_all hall (by grind [partAt, vPart, szB]), ⟨_, by first | rfl | exact List.append_assoc _ _ _ | (simp only [List.append_assoc, List.cons_append, List.nil_append]; rfl)⟩, ?_⟩; simp only [hwr, go_sem, ↓bothG_tt, ↓bothG_tf, ↓bothG_ft, ↓bothG_ff, ↓reduceIte, ↓reduceDIte, reduceCtorEq, Nat.reduceAdd, Nat.reduceSub, Nat.reduceLeDiff, Nat.reduceLT, Nat.reduceEqDiff, Nat.reduceBEq, Nat.reduceMul, Int.reduceToNat, Int.reduceEq, Int.reduceLT, Int.reduceLE] <;> (first | rfl | (grind [partAt, vPart, szB]))) | (refine ⟨_, rfl⟩) | (refine ⟨_, List.append_assoc _ _ _⟩) | (grind [partAt, vPart, szB])))
def eqAt {α : Type} [DecidableEq α] (l l' : List α) (d : α) (j : Nat) : Bool := decide (l.getD j d = l'.getD j d)
theorem sameN {α : Type} [DecidableEq α] (l l' : List α) (d : α) : (l = l') ↔ (l.length = l'.length ∧ allN l.length (eqAt l l' d) = true) := by
  constructor
  · rintro rfl
    exact ⟨rfl, allN_true fun j _ => by simp [eqAt]⟩
  · rintro ⟨h1, h2⟩
    apply List.ext_getElem h1
    intro j g1 g2
    have := allN_iff.1 h2 j g1
    simp only [eqAt, decide_eq_true_eq, List.getD_eq_getElem?_getD, List.getElem?_eq_getElem g1, List.getElem?_eq_getElem g2, Option.getD_some] at this
    exact this
/-- Equality of principals: the parts one by one. -/
theorem rsp_c (a b : Prin) (ha : PrinT.ok a) : PC Tryz.prog 50 [.agg (PrinT.cells a), .agg (PrinT.cells b)] (rB (decide (a = b))) := by
  obtain ⟨l, r⟩ := a
  obtain ⟨l', r'⟩ := b
  have hl : l.length ≤ 1125899906842624 := ha.1.1
  refine pc_of rfl rfl ?_
  refine vc_fi fi50 (run_sound mixed 600 _ ?_)
  simp (maxSteps := 3000000) only [ir50, go_sem, ↓bothG_tt, ↓bothG_tf, ↓bothG_ft, ↓bothG_ff, ↓reduceIte, ↓reduceDIte, reduceCtorEq, Nat.reduceAdd, Nat.reduceSub, Nat.reduceLeDiff, Nat.reduceLT, Nat.reduceEqDiff, Nat.reduceBEq, Nat.reduceMul, Int.reduceToNat, Int.reduceEq, Int.reduceLT, Int.reduceLE] <;> try simp only [bothG_t, bothG_f, decide_eq_true_eq, decide_eq_false_iff_not, Bool.not_eq_true', Bool.not_eq_false', Int.ofNat_lt, Int.ofNat_le]
  repeat' (first
    | (with_reducible refine And.intro ?_ ?_)
    | (with_reducible intro _))
  all_goals (skip)
  · grind
  · refine si_cntD (fun i => [(5, .raw (.int .i64 ((i : Nat) : Int)))]) (l.length) (fun j => (eqAt l l' ByteArray.empty) j = true) (by first | decide | simp) (fun i => rfl) ?_ fun i hi hall => ?_
    · simp (maxSteps := 3000000) only [go_sem, ↓bothG_tt, ↓bothG_tf, ↓bothG_ft, ↓bothG_ff, ↓reduceIte, ↓reduceDIte, reduceCtorEq, Nat.reduceAdd, Nat.reduceSub, Nat.reduceLeDiff, Nat.reduceLT, Nat.reduceEqDiff, Nat.reduceBEq, Nat.reduceMul, Int.reduceToNat, Int.reduceEq, Int.reduceLT, Int.reduceLE] <;> try simp only [bothG_t, bothG_f, decide_eq_true_eq, decide_eq_false_iff_not, Bool.not_eq_true', Bool.not_eq_false', Int.ofNat_lt, Int.ofNat_le]
      all_goals (try rfl)
    have hwr : IntKind.i64.wrap ((i : Int) + 1) = ((i + 1 : Nat) : Int) := wrap_succ (by omega)
    refine run_sound mixed 600 _ ?_
    simp (maxSteps := 3000000) only [go_sem, ↓bothG_tt, ↓bothG_tf, ↓bothG_ft, ↓bothG_ff, ↓reduceIte, ↓reduceDIte, reduceCtorEq, Nat.reduceAdd, Nat.reduceSub, Nat.reduceLeDiff, Nat.reduceLT, Nat.reduceEqDiff, Nat.reduceBEq, Nat.reduceMul, Int.reduceToNat, Int.reduceEq, Int.reduceLT, Int.reduceLE] <;> try simp only [bothG_t, bothG_f, decide_eq_true_eq, decide_eq_false_iff_not, Bool.not_eq_true', Bool.not_eq_false', Int.ofNat_lt, Int.ofNat_le]
    have bad : i < (l.length) → (eqAt l l' ByteArray.empty) i = false → allN (l.length) (eqAt l l' ByteArray.empty) = false := fun hlt hv => allN_false hlt hv
    have fin : ¬ i < (l.length) → allN (l.length) (eqAt l l' ByteArray.empty) = true := fun h => allN_true fun j hj => hall j (by omega)
    try dsimp only at bad fin hall
    have key := sameN l l' ByteArray.empty
    repeat' (first
      | (with_reducible refine And.intro ?_ ?_)
      | (with_reducible intro _))
    all_goals (first | (with_reducible (refine (id ?_ : SoundI _ _ _))) | ((try simp only [Ty.dflt] at *); first | omega | (refine ⟨by omega, next_all hall (by grind [eqAt]), ⟨_, by first | rfl | exact List.append_assoc _ _ _ | (simp only [List.append_assoc, List.cons_append, List.nil_append]; rfl)⟩, ?_⟩; simp only [hwr, go_sem, ↓bothG_tt, ↓bothG_tf, ↓bothG_ft, ↓bothG_ff, ↓reduceIte, ↓reduceDIte, reduceCtorEq, Nat.reduceAdd, Nat.reduceSub, Nat.reduceLeDiff, Nat.reduceLT, Nat.reduceEqDiff, Nat.reduceBEq, Nat.reduceMul, Int.reduceToNat, Int.reduceEq, Int.reduceLT, Int.reduceLE] <;> (first | rfl | (grind [eqAt]))) | (refine ⟨_, rfl⟩) | (refine ⟨_, List.append_assoc _ _ _⟩) | (grind [eqAt])))
  · grind

/-- Keys of a set, one after the other: what the reference looks at. -/
def lastP (l : List Key) (j : Nat) : Int := if j = 0 then 0 else (l.getD (j - 1) KeyT.dflt).1
def kOk (v m : Int) (l : List Key) (j : Nat) : Bool := decide (lastP l j < (l.getD j KeyT.dflt).1) && vKeyS v m (l.getD j KeyT.dflt)
theorem vKeyS_pos {v m : Int} {k : Key} (h : vKeyS v m k = true) : 0 < k.1 := by
  simp only [vKeyS, Bool.and_eq_true, decide_eq_true_eq] at h
  have hk := h.2.1
  unfold keyLen at hk
  grind
theorem kOk_all (v m : Int) (l : List Key) : allN l.length (kOk v m l) = (l.all (vKeyS v m) && ord (t := KeyT) kOrd l) := by
  rw [Bool.eq_iff_iff, Bool.and_eq_true, allN_iff, List.all_eq_true, ord, allN_iff]
  constructor
  · intro h
    refine ⟨fun k hk => ?_, fun j hj => ?_⟩
    · obtain ⟨j, hj, rfl⟩ := List.getElem_of_mem hk
      have := h j hj
      simp only [kOk, Bool.and_eq_true, List.getD_eq_getElem?_getD, List.getElem?_eq_getElem hj, Option.getD_some] at this
      exact this.2
    · have := h (j + 1) (by omega)
      simp only [kOk, Bool.and_eq_true, lastP, decide_eq_true_eq, Nat.add_sub_cancel] at this
      rw [if_neg (by omega)] at this
      simp only [kOrd, decide_eq_true_eq]
      exact this.1
  · rintro ⟨h1, h2⟩ j hj
    have hv := h1 _ (getD_mem (d := KeyT.dflt) hj)
    simp only [kOk, Bool.and_eq_true, decide_eq_true_eq]
    refine ⟨?_, hv⟩
    unfold lastP
    split
    · exact vKeyS_pos hv
    · have := h2 (j - 1) (by omega)
      simp only [kOrd, decide_eq_true_eq] at this
      rwa [Nat.sub_add_cancel (by omega)] at this
theorem rvset_c (s : KSet) (m : Int) (hs : SetT.ok s) : PC Tryz.prog 48 [.agg (SetT.cells s), rI m] (rB (vSet s m)) := by
  have hl := hs.2.1.1
  refine pc_of rfl rfl ?_
  refine vc_fi fi48 (run_sound mixed 600 _ ?_)
  simp (maxSteps := 3000000) only [ir48, go_sem, ↓bothG_tt, ↓bothG_tf, ↓bothG_ft, ↓bothG_ff, ↓reduceIte, ↓reduceDIte, reduceCtorEq, Nat.reduceAdd, Nat.reduceSub, Nat.reduceLeDiff, Nat.reduceLT, Nat.reduceEqDiff, Nat.reduceBEq, Nat.reduceMul, Int.reduceToNat, Int.reduceEq, Int.reduceLT, Int.reduceLE] <;> try simp only [bothG_t, bothG_f, decide_eq_true_eq, decide_eq_false_iff_not, Bool.not_eq_true', Bool.not_eq_false', Int.ofNat_lt, Int.ofNat_le]
  have hd := kOk_all s.1 m s.2.1
  refine si_cntD (fun i => [(5, rI (lastP s.2.1 i)), (6, .raw (.int .i64 ((i : Nat) : Int)))]) (s.2.1.length) (fun j => (kOk s.1 m s.2.1) j = true) (by first | decide | simp) (fun i => rfl) ?_ fun i hi hall => ?_
  · simp (maxSteps := 3000000) only [go_sem, ↓bothG_tt, ↓bothG_tf, ↓bothG_ft, ↓bothG_ff, ↓reduceIte, ↓reduceDIte, reduceCtorEq, Nat.reduceAdd, Nat.reduceSub, Nat.reduceLeDiff, Nat.reduceLT, Nat.reduceEqDiff, Nat.reduceBEq, Nat.reduceMul, Int.reduceToNat, Int.reduceEq, Int.reduceLT, Int.reduceLE] <;> try simp only [bothG_t, bothG_f, decide_eq_true_eq, decide_eq_false_iff_not, Bool.not_eq_true', Bool.not_eq_false', Int.ofNat_lt, Int.ofNat_le]
    all_goals (try rfl)
  have hwr : IntKind.i64.wrap ((i : Int) + 1) = ((i + 1 : Nat) : Int) := wrap_succ (by omega)
  refine run_sound mixed 600 _ ?_
  simp (maxSteps := 3000000) only [go_sem, ↓bothG_tt, ↓bothG_tf, ↓bothG_ft, ↓bothG_ff, ↓reduceIte, ↓reduceDIte, reduceCtorEq, Nat.reduceAdd, Nat.reduceSub, Nat.reduceLeDiff, Nat.reduceLT, Nat.reduceEqDiff, Nat.reduceBEq, Nat.reduceMul, Int.reduceToNat, Int.reduceEq, Int.reduceLT, Int.reduceLE] <;> try simp only [bothG_t, bothG_f, decide_eq_true_eq, decide_eq_false_iff_not, Bool.not_eq_true', Bool.not_eq_false', Int.ofNat_lt, Int.ofNat_le]
  have bad : i < (s.2.1.length) → (kOk s.1 m s.2.1) i = false → allN (s.2.1.length) (kOk s.1 m s.2.1) = false := fun hlt hv => allN_false hlt hv
  have fin : ¬ i < (s.2.1.length) → allN (s.2.1.length) (kOk s.1 m s.2.1) = true := fun h => allN_true fun j hj => hall j (by omega)
  try dsimp only at bad fin hall
  repeat' (first
    | (refine callI_pure (rkl_c _) ?_; refine run_sound mixed 600 _ ?_; simp (maxSteps := 3000000) only [go_sem, ↓bothG_tt, ↓bothG_tf, ↓bothG_ft, ↓bothG_ff, ↓reduceIte, ↓reduceDIte, reduceCtorEq, Nat.reduceAdd, Nat.reduceSub, Nat.reduceLeDiff, Nat.reduceLT, Nat.reduceEqDiff, Nat.reduceBEq, Nat.reduceMul, Int.reduceToNat, Int.reduceEq, Int.reduceLT, Int.reduceLE] <;> try simp only [bothG_t, bothG_f, decide_eq_true_eq, decide_eq_false_iff_not, Bool.not_eq_true', Bool.not_eq_false', Int.ofNat_lt, Int.ofNat_le])
    | (refine callR_pure (rkl_c _) ?_; refine run_sound mixed 600 _ ?_; simp (maxSteps := 3000000) only [go_sem, ↓bothG_tt, ↓bothG_tf, ↓bothG_ft, ↓bothG_ff, ↓reduceIte, ↓reduceDIte, reduceCtorEq, Nat.reduceAdd, Nat.reduceSub, Nat.reduceLeDiff, Nat.reduceLT, Nat.reduceEqDiff, Nat.reduceBEq, Nat.reduceMul, Int.reduceToNat, Int.reduceEq, Int.reduceLT, Int.reduceLE] <;> try simp only [bothG_t, bothG_f, decide_eq_true_eq, decide_eq_false_iff_not, Bool.not_eq_true', Bool.not_eq_false', Int.ofNat_lt, Int.ofNat_le])
    | (refine callF_pure (rkl_c _) ?_; refine run_sound mixed 600 _ ?_; simp (maxSteps := 3000000) only [go_sem, ↓bothG_tt, ↓bothG_tf, ↓bothG_ft, ↓bothG_ff, ↓reduceIte, ↓reduceDIte, reduceCtorEq, Nat.reduceAdd, Nat.reduceSub, Nat.reduceLeDiff, Nat.reduceLT, Nat.reduceEqDiff, Nat.reduceBEq, Nat.reduceMul, Int.reduceToNat, Int.reduceEq, Int.reduceLT, Int.reduceLE] <;> try simp only [bothG_t, bothG_f, decide_eq_true_eq, decide_eq_false_iff_not, Bool.not_eq_true', Bool.not_eq_false', Int.ofNat_lt, Int.ofNat_le])
    | (refine callI_pure (rvk_c _) ?_; refine run_sound mixed 600 _ ?_; simp (maxSteps := 3000000) only [go_sem, ↓bothG_tt, ↓bothG_tf, ↓bothG_ft, ↓bothG_ff, ↓reduceIte, ↓reduceDIte, reduceCtorEq, Nat.reduceAdd, Nat.reduceSub, Nat.reduceLeDiff, Nat.reduceLT, Nat.reduceEqDiff, Nat.reduceBEq, Nat.reduceMul, Int.reduceToNat, Int.reduceEq, Int.reduceLT, Int.reduceLE] <;> try simp only [bothG_t, bothG_f, decide_eq_true_eq, decide_eq_false_iff_not, Bool.not_eq_true', Bool.not_eq_false', Int.ofNat_lt, Int.ofNat_le])
    | (refine callR_pure (rvk_c _) ?_; refine run_sound mixed 600 _ ?_; simp (maxSteps := 3000000) only [go_sem, ↓bothG_tt, ↓bothG_tf, ↓bothG_ft, ↓bothG_ff, ↓reduceIte, ↓reduceDIte, reduceCtorEq, Nat.reduceAdd, Nat.reduceSub, Nat.reduceLeDiff, Nat.reduceLT, Nat.reduceEqDiff, Nat.reduceBEq, Nat.reduceMul, Int.reduceToNat, Int.reduceEq, Int.reduceLT, Int.reduceLE] <;> try simp only [bothG_t, bothG_f, decide_eq_true_eq, decide_eq_false_iff_not, Bool.not_eq_true', Bool.not_eq_false', Int.ofNat_lt, Int.ofNat_le])
    | (refine callF_pure (rvk_c _) ?_; refine run_sound mixed 600 _ ?_; simp (maxSteps := 3000000) only [go_sem, ↓bothG_tt, ↓bothG_tf, ↓bothG_ft, ↓bothG_ff, ↓reduceIte, ↓reduceDIte, reduceCtorEq, Nat.reduceAdd, Nat.reduceSub, Nat.reduceLeDiff, Nat.reduceLT, Nat.reduceEqDiff, Nat.reduceBEq, Nat.reduceMul, Int.reduceToNat, Int.reduceEq, Int.reduceLT, Int.reduceLE] <;> try simp only [bothG_t, bothG_f, decide_eq_true_eq, decide_eq_false_iff_not, Bool.not_eq_true', Bool.not_eq_false', Int.ofNat_lt, Int.ofNat_le])
    | (refine callI_pure (rin_c _ _ _) ?_; refine run_sound mixed 600 _ ?_; simp (maxSteps := 3000000) only [go_sem, ↓bothG_tt, ↓bothG_tf, ↓bothG_ft, ↓bothG_ff, ↓reduceIte, ↓reduceDIte, reduceCtorEq, Nat.reduceAdd, Nat.reduceSub, Nat.reduceLeDiff, Nat.reduceLT, Nat.reduceEqDiff, Nat.reduceBEq, Nat.reduceMul, Int.reduceToNat, Int.reduceEq, Int.reduceLT, Int.reduceLE] <;> try simp only [bothG_t, bothG_f, decide_eq_true_eq, decide_eq_false_iff_not, Bool.not_eq_true', Bool.not_eq_false', Int.ofNat_lt, Int.ofNat_le])
    | (refine callR_pure (rin_c _ _ _) ?_; refine run_sound mixed 600 _ ?_; simp (maxSteps := 3000000) only [go_sem, ↓bothG_tt, ↓bothG_tf, ↓bothG_ft, ↓bothG_ff, ↓reduceIte, ↓reduceDIte, reduceCtorEq, Nat.reduceAdd, Nat.reduceSub, Nat.reduceLeDiff, Nat.reduceLT, Nat.reduceEqDiff, Nat.reduceBEq, Nat.reduceMul, Int.reduceToNat, Int.reduceEq, Int.reduceLT, Int.reduceLE] <;> try simp only [bothG_t, bothG_f, decide_eq_true_eq, decide_eq_false_iff_not, Bool.not_eq_true', Bool.not_eq_false', Int.ofNat_lt, Int.ofNat_le])
    | (refine callF_pure (rin_c _ _ _) ?_; refine run_sound mixed 600 _ ?_; simp (maxSteps := 3000000) only [go_sem, ↓bothG_tt, ↓bothG_tf, ↓bothG_ft, ↓bothG_ff, ↓reduceIte, ↓reduceDIte, reduceCtorEq, Nat.reduceAdd, Nat.reduceSub, Nat.reduceLeDiff, Nat.reduceLT, Nat.reduceEqDiff, Nat.reduceBEq, Nat.reduceMul, Int.reduceToNat, Int.reduceEq, Int.reduceLT, Int.reduceLE] <;> try simp only [bothG_t, bothG_f, decide_eq_true_eq, decide_eq_false_iff_not, Bool.not_eq_true', Bool.not_eq_false', Int.ofNat_lt, Int.ofNat_le])
    | (with_reducible refine And.intro ?_ ?_)
    | (with_reducible intro _))
  all_goals (first | (with_reducible (refine (id ?_ : SoundI _ _ _))) | ((try simp only [Ty.dflt] at *); first | omega | (refine ⟨by omega, next_all hall (by grind [kOk, lastP, vKeyS, vSet, inR]), ⟨_, by first | rfl | exact List.append_assoc _ _ _ | (simp only [List.append_assoc, List.cons_append, List.nil_append]; rfl)⟩, ?_⟩; simp only [hwr, go_sem, ↓bothG_tt, ↓bothG_tf, ↓bothG_ft, ↓bothG_ff, ↓reduceIte, ↓reduceDIte, reduceCtorEq, Nat.reduceAdd, Nat.reduceSub, Nat.reduceLeDiff, Nat.reduceLT, Nat.reduceEqDiff, Nat.reduceBEq, Nat.reduceMul, Int.reduceToNat, Int.reduceEq, Int.reduceLT, Int.reduceLE] <;> (first | rfl | (grind [kOk, lastP, vKeyS, vSet, inR]))) | (refine ⟨_, rfl⟩) | (refine ⟨_, List.append_assoc _ _ _⟩) | (grind [kOk, lastP, vKeyS, vSet, inR])))
end Go.Proofs.YtddmkgibghohkaaGreatDoor
/- Contracts: the reference's lists of principals. -/
namespace Go.Proofs.YtddmkgibghohkaaGreatDoor
open Go Go.Sx Go.Proofs
set_option maxRecDepth 100000
set_option maxHeartbeats 4000000
set_option linter.unusedSimpArgs false

def prinAt (l : List Prin) (j : Nat) : Prin := l.getD j PrinT.dflt
def neAt (l : List Prin) (i k : Nat) : Bool := !decide (prinAt l k = prinAt l i)
def difAt (l : List Prin) (i : Nat) : Bool := vPrin (prinAt l i) && allN i (neAt l i)
def rDiff (l : List Prin) : Bool := allN l.length (difAt l) && decide ((l.length : Int) ≤ 16)
theorem rdiff_c (l : List Prin) (hl : (Ty.slice PrinT).ok l) : PC Tryz.prog 54 [.isl PrinT l] (rB (rDiff l)) := by
  have hlen := hl.1
  refine pc_of rfl rfl ?_
  refine vc_fi fi54 (run_sound mixed 600 _ ?_)
  simp (maxSteps := 3000000) only [ir54, go_sem, ↓bothG_tt, ↓bothG_tf, ↓bothG_ft, ↓bothG_ff, ↓reduceIte, ↓reduceDIte, reduceCtorEq, Nat.reduceAdd, Nat.reduceSub, Nat.reduceLeDiff, Nat.reduceLT, Nat.reduceEqDiff, Nat.reduceBEq, Nat.reduceMul, Int.reduceToNat, Int.reduceEq, Int.reduceLT, Int.reduceLE] <;> try simp only [bothG_t, bothG_f, decide_eq_true_eq, decide_eq_false_iff_not, Bool.not_eq_true', Bool.not_eq_false', Int.ofNat_lt, Int.ofNat_le]
  refine si_cntD (fun i => [(3, .raw (.int .i64 ((i : Nat) : Int)))]) (l.length) (fun j => (difAt l) j = true) (by first | decide | simp) (fun i => rfl) ?_ fun i hi hall => ?_
  · simp (maxSteps := 3000000) only [go_sem, ↓bothG_tt, ↓bothG_tf, ↓bothG_ft, ↓bothG_ff, ↓reduceIte, ↓reduceDIte, reduceCtorEq, Nat.reduceAdd, Nat.reduceSub, Nat.reduceLeDiff, Nat.reduceLT, Nat.reduceEqDiff, Nat.reduceBEq, Nat.reduceMul, Int.reduceToNat, Int.reduceEq, Int.reduceLT, Int.reduceLE] <;> try simp only [bothG_t, bothG_f, decide_eq_true_eq, decide_eq_false_iff_not, Bool.not_eq_true', Bool.not_eq_false', Int.ofNat_lt, Int.ofNat_le]
    all_goals (try rfl)
  have hwr : IntKind.i64.wrap ((i : Int) + 1) = ((i + 1 : Nat) : Int) := wrap_succ (by omega)
  refine run_sound mixed 600 _ ?_
  simp (maxSteps := 3000000) only [go_sem, ↓bothG_tt, ↓bothG_tf, ↓bothG_ft, ↓bothG_ff, ↓reduceIte, ↓reduceDIte, reduceCtorEq, Nat.reduceAdd, Nat.reduceSub, Nat.reduceLeDiff, Nat.reduceLT, Nat.reduceEqDiff, Nat.reduceBEq, Nat.reduceMul, Int.reduceToNat, Int.reduceEq, Int.reduceLT, Int.reduceLE] <;> try simp only [bothG_t, bothG_f, decide_eq_true_eq, decide_eq_false_iff_not, Bool.not_eq_true', Bool.not_eq_false', Int.ofNat_lt, Int.ofNat_le]
  have bad : i < (l.length) → (difAt l) i = false → allN (l.length) (difAt l) = false := fun hlt hv => allN_false hlt hv
  have fin : ¬ i < (l.length) → allN (l.length) (difAt l) = true := fun h => allN_true fun j hj => hall j (by omega)
  try dsimp only at bad fin hall
  repeat' (first
    | (refine callI_pure (rvp_c _ (hl.2 _ (getD_mem ‹_›))) ?_; refine run_sound mixed 600 _ ?_; simp (maxSteps := 3000000) only [go_sem, ↓bothG_tt, ↓bothG_tf, ↓bothG_ft, ↓bothG_ff, ↓reduceIte, ↓reduceDIte, reduceCtorEq, Nat.reduceAdd, Nat.reduceSub, Nat.reduceLeDiff, Nat.reduceLT, Nat.reduceEqDiff, Nat.reduceBEq, Nat.reduceMul, Int.reduceToNat, Int.reduceEq, Int.reduceLT, Int.reduceLE] <;> try simp only [bothG_t, bothG_f, decide_eq_true_eq, decide_eq_false_iff_not, Bool.not_eq_true', Bool.not_eq_false', Int.ofNat_lt, Int.ofNat_le])
    | (refine callR_pure (rvp_c _ (hl.2 _ (getD_mem ‹_›))) ?_; refine run_sound mixed 600 _ ?_; simp (maxSteps := 3000000) only [go_sem, ↓bothG_tt, ↓bothG_tf, ↓bothG_ft, ↓bothG_ff, ↓reduceIte, ↓reduceDIte, reduceCtorEq, Nat.reduceAdd, Nat.reduceSub, Nat.reduceLeDiff, Nat.reduceLT, Nat.reduceEqDiff, Nat.reduceBEq, Nat.reduceMul, Int.reduceToNat, Int.reduceEq, Int.reduceLT, Int.reduceLE] <;> try simp only [bothG_t, bothG_f, decide_eq_true_eq, decide_eq_false_iff_not, Bool.not_eq_true', Bool.not_eq_false', Int.ofNat_lt, Int.ofNat_le])
    | (refine callF_pure (rvp_c _ (hl.2 _ (getD_mem ‹_›))) ?_; refine run_sound mixed 600 _ ?_; simp (maxSteps := 3000000) only [go_sem, ↓bothG_tt, ↓bothG_tf, ↓bothG_ft, ↓bothG_ff, ↓reduceIte, ↓reduceDIte, reduceCtorEq, Nat.reduceAdd, Nat.reduceSub, Nat.reduceLeDiff, Nat.reduceLT, Nat.reduceEqDiff, Nat.reduceBEq, Nat.reduceMul, Int.reduceToNat, Int.reduceEq, Int.reduceLT, Int.reduceLE] <;> try simp only [bothG_t, bothG_f, decide_eq_true_eq, decide_eq_false_iff_not, Bool.not_eq_true', Bool.not_eq_false', Int.ofNat_lt, Int.ofNat_le])
    | (with_reducible refine And.intro ?_ ?_)
    | (with_reducible intro _))
  all_goals (skip)
  any_goals omega
  · grind [difAt, rDiff, prinAt]
  · refine si_cntD (fun k => [(3, .raw (.int .i64 ((i : Nat) : Int))), (4, .raw (.int .i64 ((k : Nat) : Int)))]) (i) (fun j => (neAt l i) j = true) (by first | decide | simp) (fun i => rfl) ?_ fun k hik hallk => ?_
    · simp (maxSteps := 3000000) only [go_sem, ↓bothG_tt, ↓bothG_tf, ↓bothG_ft, ↓bothG_ff, ↓reduceIte, ↓reduceDIte, reduceCtorEq, Nat.reduceAdd, Nat.reduceSub, Nat.reduceLeDiff, Nat.reduceLT, Nat.reduceEqDiff, Nat.reduceBEq, Nat.reduceMul, Int.reduceToNat, Int.reduceEq, Int.reduceLT, Int.reduceLE] <;> try simp only [bothG_t, bothG_f, decide_eq_true_eq, decide_eq_false_iff_not, Bool.not_eq_true', Bool.not_eq_false', Int.ofNat_lt, Int.ofNat_le]
      all_goals (try rfl)
    have hwrk : IntKind.i64.wrap ((k : Int) + 1) = ((k + 1 : Nat) : Int) := wrap_succ (by omega)
    refine run_sound mixed 600 _ ?_
    simp (maxSteps := 3000000) only [go_sem, ↓bothG_tt, ↓bothG_tf, ↓bothG_ft, ↓bothG_ff, ↓reduceIte, ↓reduceDIte, reduceCtorEq, Nat.reduceAdd, Nat.reduceSub, Nat.reduceLeDiff, Nat.reduceLT, Nat.reduceEqDiff, Nat.reduceBEq, Nat.reduceMul, Int.reduceToNat, Int.reduceEq, Int.reduceLT, Int.reduceLE] <;> try simp only [bothG_t, bothG_f, decide_eq_true_eq, decide_eq_false_iff_not, Bool.not_eq_true', Bool.not_eq_false', Int.ofNat_lt, Int.ofNat_le]
    have badk : k < (i) → (neAt l i) k = false → allN (i) (neAt l i) = false := fun hlt hv => allN_false hlt hv
    have fink : ¬ k < (i) → allN (i) (neAt l i) = true := fun h => allN_true fun j hj => hallk j (by omega)
    try dsimp only at badk fink hallk
    repeat' (first
      | (refine callI_pure (rsp_c _ _ (hl.2 _ (getD_mem (by omega)))) ?_; refine run_sound mixed 600 _ ?_; simp (maxSteps := 3000000) only [go_sem, ↓bothG_tt, ↓bothG_tf, ↓bothG_ft, ↓bothG_ff, ↓reduceIte, ↓reduceDIte, reduceCtorEq, Nat.reduceAdd, Nat.reduceSub, Nat.reduceLeDiff, Nat.reduceLT, Nat.reduceEqDiff, Nat.reduceBEq, Nat.reduceMul, Int.reduceToNat, Int.reduceEq, Int.reduceLT, Int.reduceLE] <;> try simp only [bothG_t, bothG_f, decide_eq_true_eq, decide_eq_false_iff_not, Bool.not_eq_true', Bool.not_eq_false', Int.ofNat_lt, Int.ofNat_le])
      | (refine callR_pure (rsp_c _ _ (hl.2 _ (getD_mem (by omega)))) ?_; refine run_sound mixed 600 _ ?_; simp (maxSteps := 3000000) only [go_sem, ↓bothG_tt, ↓bothG_tf, ↓bothG_ft, ↓bothG_ff, ↓reduceIte, ↓reduceDIte, reduceCtorEq, Nat.reduceAdd, Nat.reduceSub, Nat.reduceLeDiff, Nat.reduceLT, Nat.reduceEqDiff, Nat.reduceBEq, Nat.reduceMul, Int.reduceToNat, Int.reduceEq, Int.reduceLT, Int.reduceLE] <;> try simp only [bothG_t, bothG_f, decide_eq_true_eq, decide_eq_false_iff_not, Bool.not_eq_true', Bool.not_eq_false', Int.ofNat_lt, Int.ofNat_le])
      | (refine callF_pure (rsp_c _ _ (hl.2 _ (getD_mem (by omega)))) ?_; refine run_sound mixed 600 _ ?_; simp (maxSteps := 3000000) only [go_sem, ↓bothG_tt, ↓bothG_tf, ↓bothG_ft, ↓bothG_ff, ↓reduceIte, ↓reduceDIte, reduceCtorEq, Nat.reduceAdd, Nat.reduceSub, Nat.reduceLeDiff, Nat.reduceLT, Nat.reduceEqDiff, Nat.reduceBEq, Nat.reduceMul, Int.reduceToNat, Int.reduceEq, Int.reduceLT, Int.reduceLE] <;> try simp only [bothG_t, bothG_f, decide_eq_true_eq, decide_eq_false_iff_not, Bool.not_eq_true', Bool.not_eq_false', Int.ofNat_lt, Int.ofNat_le])
      | (with_reducible refine And.intro ?_ ?_)
      | (with_reducible intro _))
    all_goals (first | (with_reducible (refine (id ?_ : SoundI _ _ _))) | ((try simp only [Ty.dflt] at *); first | omega | (refine ⟨by omega, next_all hall (by grind [difAt, neAt, rDiff, prinAt]), ⟨_, by first | rfl | exact List.append_assoc _ _ _ | (simp only [List.append_assoc, List.cons_append, List.nil_append]; rfl)⟩, ?_⟩; simp only [hwr, go_sem, ↓bothG_tt, ↓bothG_tf, ↓bothG_ft, ↓bothG_ff, ↓reduceIte, ↓reduceDIte, reduceCtorEq, Nat.reduceAdd, Nat.reduceSub, Nat.reduceLeDiff, Nat.reduceLT, Nat.reduceEqDiff, Nat.reduceBEq, Nat.reduceMul, Int.reduceToNat, Int.reduceEq, Int.reduceLT, Int.reduceLE] <;> (first | rfl | (grind [difAt, neAt, rDiff, prinAt]))) | (refine ⟨by omega, next_all hallk (by grind [difAt, neAt, rDiff, prinAt]), ⟨_, by first | rfl | exact List.append_assoc _ _ _ | (simp only [List.append_assoc, List.cons_append, List.nil_append]; rfl)⟩, ?_⟩; simp only [hwrk, go_sem, ↓bothG_tt, ↓bothG_tf, ↓bothG_ft, ↓bothG_ff, ↓reduceIte, ↓reduceDIte, reduceCtorEq, Nat.reduceAdd, Nat.reduceSub, Nat.reduceLeDiff, Nat.reduceLT, Nat.reduceEqDiff, Nat.reduceBEq, Nat.reduceMul, Int.reduceToNat, Int.reduceEq, Int.reduceLT, Int.reduceLE] <;> (first | rfl | (grind [difAt, neAt, rDiff, prinAt]))) | (refine ⟨_, rfl⟩) | (refine ⟨_, List.append_assoc _ _ _⟩) | (grind [difAt, neAt, rDiff, prinAt])))
  · grind [difAt, rDiff, prinAt]
end Go.Proofs.YtddmkgibghohkaaGreatDoor
