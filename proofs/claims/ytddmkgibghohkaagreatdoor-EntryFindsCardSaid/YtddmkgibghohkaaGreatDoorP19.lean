/- Realms, plainly; contracts of the reference's names. -/
import Derived.Test.YtddmkgibghohkaaGreatDoorP18
set_option linter.unusedSimpArgs false
set_option linter.unusedVariables false
namespace Go.Proofs.YtddmkgibghohkaaGreatDoor
open Go Go.Sx Go.Proofs
set_option maxRecDepth 100000
set_option maxHeartbeats 4000000
set_option linter.unusedSimpArgs false

/-- Realms, read from the front. -/
def rlmR : Bool → List UInt8 → Bool
  | prev, [] => !prev
  | prev, c :: cs => if c == 46 then !prev && rlmR true cs else realmChar c && rlmR false cs
def labL (l : List UInt8) : Bool := decide (0 < l.length) && l.all realmChar
theorem split_R : ∀ (cs cur : List UInt8), (splitGo cur cs).all labL = (cur.all realmChar && rlmR cur.isEmpty cs)
  | [], cur => by cases cur <;> simp [splitGo, labL, rlmR, Bool.and_comm]
  | c :: cs, cur => by
    rw [splitGo, rlmR]
    split
    · have := split_R cs []
      simp only [List.all_cons, this, List.all_nil, List.isEmpty_nil, Bool.true_and]
      cases cur <;> simp [labL, Bool.and_comm, Bool.and_left_comm]
    · have := split_R cs (c :: cur)
      rw [this, List.all_cons, List.isEmpty_cons]
      cases realmChar c <;> simp
/-- The reference's condition at an index. -/
def rlmAt (prev : Bool) (l : List UInt8) (j : Nat) : Bool :=
  if l.getD j 0 = 46 then decide (j + 1 < l.length) && (if j = 0 then !prev else decide (l.getD (j - 1) 0 ≠ 46)) else realmChar (l.getD j 0)
theorem rlmR_at : ∀ (l : List UInt8) (prev : Bool), l ≠ [] → rlmR prev l = allN l.length (rlmAt prev l)
  | [], _, h => absurd rfl h
  | [c], prev, _ => by
    simp only [rlmR, allN, List.length_singleton, List.range_one, List.all_cons, List.all_nil, Bool.and_true, rlmAt]
    by_cases h : c = 46 <;> simp [h]
  | c :: d :: l, prev, _ => by
    have ih := rlmR_at (d :: l) (c == 46) (by simp)
    have hs : ∀ j, rlmAt prev (c :: d :: l) (j + 1) = rlmAt (c == 46) (d :: l) j := fun j => by
      unfold rlmAt
      simp only [List.getD_cons_succ, List.length_cons, Nat.add_sub_cancel]
      cases j with
      | zero =>
        by_cases h : c = 46
        · simp [h]
        · have : (c == 46) = false := by simpa using h
          simp [h, this]
      | succ j => simp
    have ha : allN (c :: d :: l).length (rlmAt prev (c :: d :: l)) = (rlmAt prev (c :: d :: l) 0 && allN (d :: l).length (rlmAt (c == 46) (d :: l))) := by
      rw [Bool.eq_iff_iff, Bool.and_eq_true, allN_iff, allN_iff]
      constructor
      · intro h
        exact ⟨h 0 (by simp), fun j hj => by rw [← hs]; exact h (j + 1) (by simp at hj ⊢; omega)⟩
      · rintro ⟨h0, h⟩ j hj
        cases j with
        | zero => exact h0
        | succ j => rw [hs]; exact h j (by simp at hj ⊢; omega)
    rw [ha, ← ih, rlmR]
    by_cases h : c = 46
    · subst h; simp [rlmAt]
    · have : (c == 46) = false := by simpa using h
      simp [rlmAt, h, this]
theorem realmB_at (s : ByteArray) : realmB s = (szB s && allN s.size (rlmAt true s.data.toList)) := by
  have h1 : sizedB s = szB s := by
    unfold sizedB szB
    rw [Bool.eq_iff_iff]; simp; omega
  have h2 : (splitB s).all labelB = (splitDot s.data.toList).all labL := by
    unfold splitB
    rw [List.all_map]
    congr 1
  rw [realmB, h1, h2, splitDot, split_R, List.all_nil, List.isEmpty_nil, Bool.true_and]
  by_cases h : s.data.toList = []
  · have : s.size = 0 := by
      have := congrArg List.length h
      simpa using this
    simp [szB, this]
  · rw [rlmR_at _ _ h]; first | rfl | simp
theorem u8_eq {c : UInt8} {n : Nat} (hn : n < 256) : c = UInt8.ofNat n ↔ (c.toNat : Int) = n := by
  have h : (UInt8.ofNat n).toNat = n := by rw [UInt8.toNat_ofNat']; omega
  rw [← UInt8.toNat_inj, h]; omega
theorem realmChar_iff (c : UInt8) : realmChar c = true ↔ (c.toNat : Int) = 45 ∨ (65 ≤ (c.toNat : Int) ∧ (c.toNat : Int) ≤ 90) ∨ (48 ≤ (c.toNat : Int) ∧ (c.toNat : Int) ≤ 57) := by
  have h := u8_eq (c := c) (n := 45) (by decide)
  simp only [realmChar, Bool.or_eq_true, Bool.and_eq_true, decide_eq_true_eq, beq_iff_eq]
  have h' : c = 45 ↔ (c.toNat : Int) = 45 := h
  rw [h']
  omega
theorem rlm_iff {s : ByteArray} {i : Nat} (hlt : i < s.size) : rlmAt true s.data.toList i = true ↔
    (if ((s.data.toList.getD i 0).toNat : Int) = 46 then (i : Int) ≠ 0 ∧ (i : Int) ≠ ((s.size - 1 : Nat) : Int) ∧ ((s.data.toList.getD (i - 1) 0).toNat : Int) ≠ 46 else ((s.data.toList.getD i 0).toNat : Int) = 45 ∨ (65 ≤ ((s.data.toList.getD i 0).toNat : Int) ∧ ((s.data.toList.getD i 0).toNat : Int) ≤ 90) ∨ (48 ≤ ((s.data.toList.getD i 0).toNat : Int) ∧ ((s.data.toList.getD i 0).toNat : Int) ≤ 57)) := by
  have hl : s.data.toList.length = s.size := by simp
  have h46 : ∀ c : UInt8, c = 46 ↔ (c.toNat : Int) = 46 := fun c => u8_eq (c := c) (n := 46) (by decide)
  unfold rlmAt
  rw [← realmChar_iff, hl]
  by_cases hc : s.data.toList.getD i 0 = 46
  · rw [if_pos hc, if_pos ((h46 _).1 hc), Bool.and_eq_true, decide_eq_true_eq]
    by_cases h0 : i = 0
    · simp [h0]
    · rw [if_neg h0, decide_eq_true_eq, ne_eq, h46]
      omega
  · rw [if_neg hc, if_neg (fun h => hc ((h46 _).2 h))]
theorem rbad {s : ByteArray} {i : Nat} (hlt : i < s.size) (h : ¬ rlmAt true s.data.toList i = true) : false = (szB s && allN s.size (rlmAt true s.data.toList)) := by
  rw [allN_false hlt (by simpa using h)]; simp
theorem rrealm_c (s : ByteArray) (hs : s.size ≤ 140737488355328) : PC Tryz.prog 123 [rS s] (rB (realmB s)) := by
  refine pc_of rfl rfl ?_
  rw [realmB_at]
  refine vc_fi fi123 (run_sound mixed 600 _ ?_)
  simp (maxSteps := 3000000) only [ir123, go_sem, ↓bothG_tt, ↓bothG_tf, ↓bothG_ft, ↓bothG_ff, ↓reduceIte, ↓reduceDIte, reduceCtorEq, Nat.reduceAdd, Nat.reduceSub, Nat.reduceLeDiff, Nat.reduceLT, Nat.reduceEqDiff, Nat.reduceBEq, Nat.reduceMul, Int.reduceToNat, Int.reduceEq, Int.reduceLT, Int.reduceLE] <;> try simp only [bothG_t, bothG_f, decide_eq_true_eq, decide_eq_false_iff_not, Bool.not_eq_true', Bool.not_eq_false', Int.ofNat_lt, Int.ofNat_le]
  refine si_cnt 3 s.size (fun j => rlmAt true s.data.toList j = true) ?_ fun i hi hall => ?_
  · simp (maxSteps := 3000000) only [go_sem, ↓bothG_tt, ↓bothG_tf, ↓bothG_ft, ↓bothG_ff, ↓reduceIte, ↓reduceDIte, reduceCtorEq, Nat.reduceAdd, Nat.reduceSub, Nat.reduceLeDiff, Nat.reduceLT, Nat.reduceEqDiff, Nat.reduceBEq, Nat.reduceMul, Int.reduceToNat, Int.reduceEq, Int.reduceLT, Int.reduceLE] <;> try simp only [bothG_t, bothG_f, decide_eq_true_eq, decide_eq_false_iff_not, Bool.not_eq_true', Bool.not_eq_false', Int.ofNat_lt, Int.ofNat_le]
  have e1 : IntKind.i64.wrap ((s.size : Int) - 1) = (s.size : Int) - 1 := by rw [wrapi (by omega)]
  refine run_sound mixed 600 _ ?_
  simp (maxSteps := 3000000) only [go_sem, ↓bothG_tt, ↓bothG_tf, ↓bothG_ft, ↓bothG_ff, ↓reduceIte, ↓reduceDIte, reduceCtorEq, Nat.reduceAdd, Nat.reduceSub, Nat.reduceLeDiff, Nat.reduceLT, Nat.reduceEqDiff, Nat.reduceBEq, Nat.reduceMul, Int.reduceToNat, Int.reduceEq, Int.reduceLT, Int.reduceLE] <;> try simp only [bothG_t, bothG_f, decide_eq_true_eq, decide_eq_false_iff_not, Bool.not_eq_true', Bool.not_eq_false', Int.ofNat_lt, Int.ofNat_le]
  refine ⟨fun hlt => ?_, fun hge => ?_⟩
  · have e3 : ((s.size - 1 : Nat) : Int) = (s.size : Int) - 1 := by omega
    have hri := rlm_iff hlt
    rw [e1]
    rcases Nat.eq_zero_or_pos i with hz | hpos
    · have e2 : ∀ k : Nat, IntKind.i64.wrap ((i : Int) - 1) = k → i = 0 := fun _ _ => hz
      repeat' (first | apply And.intro | intro _)
      all_goals first | omega | (refine rbad hlt ?_; rw [hri]; split <;> omega) | refine cnt_next hlt hall (by rw [hri]; split <;> omega) ?_
      all_goals simp (maxSteps := 3000000) only [go_sem, ↓bothG_tt, ↓bothG_tf, ↓bothG_ft, ↓bothG_ff, ↓reduceIte, ↓reduceDIte, reduceCtorEq, Nat.reduceAdd, Nat.reduceSub, Nat.reduceLeDiff, Nat.reduceLT, Nat.reduceEqDiff, Nat.reduceBEq, Nat.reduceMul, Int.reduceToNat, Int.reduceEq, Int.reduceLT, Int.reduceLE] <;> try simp only [bothG_t, bothG_f, decide_eq_true_eq, decide_eq_false_iff_not, Bool.not_eq_true', Bool.not_eq_false', Int.ofNat_lt, Int.ofNat_le]
      all_goals first | rw [wrap_succ (by omega)] | rfl
    · have e2 : IntKind.i64.wrap ((i : Int) - 1) = ((i - 1 : Nat) : Int) := by rw [wrapi (by omega)]; omega
      rw [e2]
      simp only [Int.toNat_natCast]
      repeat' (first | apply And.intro | intro _)
      all_goals first | omega | (refine rbad hlt ?_; rw [hri]; split <;> omega) | refine cnt_next hlt hall (by rw [hri]; split <;> omega) ?_
      all_goals simp (maxSteps := 3000000) only [go_sem, ↓bothG_tt, ↓bothG_tf, ↓bothG_ft, ↓bothG_ff, ↓reduceIte, ↓reduceDIte, reduceCtorEq, Nat.reduceAdd, Nat.reduceSub, Nat.reduceLeDiff, Nat.reduceLT, Nat.reduceEqDiff, Nat.reduceBEq, Nat.reduceMul, Int.reduceToNat, Int.reduceEq, Int.reduceLT, Int.reduceLE] <;> try simp only [bothG_t, bothG_f, decide_eq_true_eq, decide_eq_false_iff_not, Bool.not_eq_true', Bool.not_eq_false', Int.ofNat_lt, Int.ofNat_le]
      all_goals first | rw [wrap_succ (by omega)] | rfl
  · rw [allN_true fun j hj => hall j (by omega), Bool.and_true, szB]
    refine ⟨fun h => ?_, fun h => ?_⟩ <;> simp [h]
theorem rvis_c (s : ByteArray) (hs : s.size ≤ 140737488355328) : PC Tryz.prog 56 [rS s] (rB (visB s)) := by
  refine pc_of rfl rfl ?_
  refine vc_fi fi56 (run_sound mixed 600 _ ?_)
  simp (maxSteps := 3000000) only [ir56, go_sem, ↓bothG_tt, ↓bothG_tf, ↓bothG_ft, ↓bothG_ff, ↓reduceIte, ↓reduceDIte, reduceCtorEq, Nat.reduceAdd, Nat.reduceSub, Nat.reduceLeDiff, Nat.reduceLT, Nat.reduceEqDiff, Nat.reduceBEq, Nat.reduceMul, Int.reduceToNat, Int.reduceEq, Int.reduceLT, Int.reduceLE] <;> try simp only [bothG_t, bothG_f, decide_eq_true_eq, decide_eq_false_iff_not, Bool.not_eq_true', Bool.not_eq_false', Int.ofNat_lt, Int.ofNat_le]
  refine si_cnt 3 s.size (fun j => visC (s.data.toList.getD j 0) = true) ?_ fun i hi hall => ?_
  · simp (maxSteps := 3000000) only [go_sem, ↓bothG_tt, ↓bothG_tf, ↓bothG_ft, ↓bothG_ff, ↓reduceIte, ↓reduceDIte, reduceCtorEq, Nat.reduceAdd, Nat.reduceSub, Nat.reduceLeDiff, Nat.reduceLT, Nat.reduceEqDiff, Nat.reduceBEq, Nat.reduceMul, Int.reduceToNat, Int.reduceEq, Int.reduceLT, Int.reduceLE] <;> try simp only [bothG_t, bothG_f, decide_eq_true_eq, decide_eq_false_iff_not, Bool.not_eq_true', Bool.not_eq_false', Int.ofNat_lt, Int.ofNat_le]
  refine run_sound mixed 600 _ ?_
  simp (maxSteps := 3000000) only [go_sem, ↓bothG_tt, ↓bothG_tf, ↓bothG_ft, ↓bothG_ff, ↓reduceIte, ↓reduceDIte, reduceCtorEq, Nat.reduceAdd, Nat.reduceSub, Nat.reduceLeDiff, Nat.reduceLT, Nat.reduceEqDiff, Nat.reduceBEq, Nat.reduceMul, Int.reduceToNat, Int.reduceEq, Int.reduceLT, Int.reduceLE] <;> try simp only [bothG_t, bothG_f, decide_eq_true_eq, decide_eq_false_iff_not, Bool.not_eq_true', Bool.not_eq_false', Int.ofNat_lt, Int.ofNat_le]
  refine ⟨fun hlt => ⟨⟨by omega, hlt⟩, fun h33 => ⟨⟨by omega, hlt⟩, fun h126 => ?_, fun h126 => cnt_next hlt hall ?_ ?_⟩, fun h33 => ?_⟩, fun hge => ?_⟩
  · rw [show visB s = false from allN_false hlt (visC_hi h126)]
  · exact visC_of h33 h126
  · simp (maxSteps := 3000000) only [go_sem, ↓bothG_tt, ↓bothG_tf, ↓bothG_ft, ↓bothG_ff, ↓reduceIte, ↓reduceDIte, reduceCtorEq, Nat.reduceAdd, Nat.reduceSub, Nat.reduceLeDiff, Nat.reduceLT, Nat.reduceEqDiff, Nat.reduceBEq, Nat.reduceMul, Int.reduceToNat, Int.reduceEq, Int.reduceLT, Int.reduceLE] <;> try simp only [bothG_t, bothG_f, decide_eq_true_eq, decide_eq_false_iff_not, Bool.not_eq_true', Bool.not_eq_false', Int.ofNat_lt, Int.ofNat_le]
    rw [wrap_succ (by omega)]
  · rw [show visB s = false from allN_false hlt (visC_lo h33)]
  · rw [show visB s = true from allN_true fun j hj => hall j (by omega)]
/-- A realm holds no '@'. -/
theorem realm_noat {s : ByteArray} (h : realmB s = true) : (64 : UInt8) ∉ s.data.toList := by
  rw [realmB_at, Bool.and_eq_true, allN_iff] at h
  intro hm
  obtain ⟨j, hj, he⟩ := List.getElem_of_mem hm
  have hj' : j < s.size := by simpa using hj
  have := (rlm_iff hj').1 (h.2 j hj')
  rw [List.getD_eq_getElem?_getD, List.getElem?_eq_getElem hj, he] at this
  simp at this
theorem vPrin_parts {p : Prin} (h : vPrin p = true) : p.1 ≠ [] ∧ (64 : UInt8) ∉ p.2.data.toList := by
  simp only [vPrin, Bool.and_eq_true, decide_eq_true_eq] at h
  exact ⟨fun e => by rw [e] at h; simp at h, realm_noat h.1.2.2⟩
theorem txt_nodup {l : List Prin} (hv : ∀ p ∈ l, vPrin p = true) : (l.map txt).Nodup ↔ l.Nodup := by
  induction l with
  | nil => simp
  | cons p l ih =>
    have hvl := fun q hq => hv q (List.mem_cons_of_mem _ hq)
    rw [List.map_cons, List.nodup_cons, List.nodup_cons, ih hvl]
    refine and_congr_left fun _ => not_congr ⟨fun h => ?_, fun h => List.mem_map_of_mem h⟩
    obtain ⟨q, hq, he⟩ := List.mem_map.1 h
    have h1 := vPrin_parts (hv p (by simp))
    have h2 := vPrin_parts (hvl q hq)
    rw [← txt_inj h2.1 h1.1 h2.2 h1.2 he]
    exact hq
/-- Principals that differ from each other. -/
def disB (l : List Prin) : Bool := decide l.Nodup
theorem distinct_c (l : List Prin) (hp : (Ty.slice PrinT).ok l) (hv : ∀ p ∈ l, vPrin p = true) : PC Tryz.prog 168 [.isl PrinT l] (rB (disB l)) := by
  have h := distinct_w l hp hv
  rwa [keysN_nodup, show decide ((l.map txt).Nodup) = disB l from decide_eq_decide.2 (txt_nodup hv)] at h
end Go.Proofs.YtddmkgibghohkaaGreatDoor
/- Contracts: what is valid. -/
namespace Go.Proofs.YtddmkgibghohkaaGreatDoor
open Go Go.Sx Go.Proofs
set_option maxRecDepth 100000
set_option maxHeartbeats 4000000
set_option linter.unusedSimpArgs false

theorem vtext_k (s : ByteArray) (hs : s.size ≤ 140737488355328) : PC Tryz.prog 92 [rS s] (rB (visB s && decide ((s.size : Int) ≤ 32))) := by
  refine pc_of rfl rfl ?_
  refine vc_fi fi92 (run_sound mixed 600 _ ?_)
  simp (maxSteps := 3000000) only [ir92, go_sem, ↓bothG_tt, ↓bothG_tf, ↓bothG_ft, ↓bothG_ff, ↓reduceIte, ↓reduceDIte, reduceCtorEq, Nat.reduceAdd, Nat.reduceSub, Nat.reduceLeDiff, Nat.reduceLT, Nat.reduceEqDiff, Nat.reduceBEq, Nat.reduceMul, Int.reduceToNat, Int.reduceEq, Int.reduceLT, Int.reduceLE] <;> try simp only [bothG_t, bothG_f, decide_eq_true_eq, decide_eq_false_iff_not, Bool.not_eq_true', Bool.not_eq_false', Int.ofNat_lt, Int.ofNat_le]
  refine si_cnt 6 s.size (fun j => visC (s.data.toList.getD j 0) = true) ?_ fun i hi hall => ?_
  · simp (maxSteps := 3000000) only [go_sem, ↓bothG_tt, ↓bothG_tf, ↓bothG_ft, ↓bothG_ff, ↓reduceIte, ↓reduceDIte, reduceCtorEq, Nat.reduceAdd, Nat.reduceSub, Nat.reduceLeDiff, Nat.reduceLT, Nat.reduceEqDiff, Nat.reduceBEq, Nat.reduceMul, Int.reduceToNat, Int.reduceEq, Int.reduceLT, Int.reduceLE] <;> try simp only [bothG_t, bothG_f, decide_eq_true_eq, decide_eq_false_iff_not, Bool.not_eq_true', Bool.not_eq_false', Int.ofNat_lt, Int.ofNat_le]
  refine run_sound mixed 600 _ ?_
  simp (maxSteps := 3000000) only [go_sem, ↓bothG_tt, ↓bothG_tf, ↓bothG_ft, ↓bothG_ff, ↓reduceIte, ↓reduceDIte, reduceCtorEq, Nat.reduceAdd, Nat.reduceSub, Nat.reduceLeDiff, Nat.reduceLT, Nat.reduceEqDiff, Nat.reduceBEq, Nat.reduceMul, Int.reduceToNat, Int.reduceEq, Int.reduceLT, Int.reduceLE] <;> try simp only [bothG_t, bothG_f, decide_eq_true_eq, decide_eq_false_iff_not, Bool.not_eq_true', Bool.not_eq_false', Int.ofNat_lt, Int.ofNat_le]
  refine ⟨fun hlt => ⟨⟨by omega, hlt⟩, fun h33 => ⟨⟨by omega, hlt⟩, fun h126 => ?_, fun h126 => cnt_next hlt hall ?_ ?_⟩, fun h33 => ?_⟩, fun hge => ?_⟩
  · rw [show visB s = false from allN_false hlt (visC_hi h126)]; rfl
  · exact visC_of h33 h126
  · simp (maxSteps := 3000000) only [go_sem, ↓bothG_tt, ↓bothG_tf, ↓bothG_ft, ↓bothG_ff, ↓reduceIte, ↓reduceDIte, reduceCtorEq, Nat.reduceAdd, Nat.reduceSub, Nat.reduceLeDiff, Nat.reduceLT, Nat.reduceEqDiff, Nat.reduceBEq, Nat.reduceMul, Int.reduceToNat, Int.reduceEq, Int.reduceLT, Int.reduceLE] <;> try simp only [bothG_t, bothG_f, decide_eq_true_eq, decide_eq_false_iff_not, Bool.not_eq_true', Bool.not_eq_false', Int.ofNat_lt, Int.ofNat_le]
    rw [wrap_succ (by omega)]
  · rw [show visB s = false from allN_false hlt (visC_lo h33)]; rfl
  · rw [show visB s = true from allN_true fun j hj => hall j (by omega)]; rfl
def inB (m v : Int) : Bool := decide (0 ≤ v) && decide (v ≤ m)
theorem within1_c (v m : Int) (h : Nat) (T : TypeId) (H : List SObj) (hH : H[h]? = some (.cells T [rI m])) : PCH Tryz.prog 88 [rI v, .ptr h 0] (rB (inB m v)) H := by
  refine pch_drop rfl ?_
  refine vc_fi fi88 (run_sound mixed 600 _ ?_)
  simp (maxSteps := 3000000) only [ir88, go_sem, ↓bothG_tt, ↓bothG_tf, ↓bothG_ft, ↓bothG_ff, ↓reduceIte, ↓reduceDIte, reduceCtorEq, Nat.reduceAdd, Nat.reduceSub, Nat.reduceLeDiff, Nat.reduceLT, Nat.reduceEqDiff, Nat.reduceBEq, Nat.reduceMul, Int.reduceToNat, Int.reduceEq, Int.reduceLT, Int.reduceLE] <;> try simp only [bothG_t, bothG_f, decide_eq_true_eq, decide_eq_false_iff_not, Bool.not_eq_true', Bool.not_eq_false', Int.ofNat_lt, Int.ofNat_le]
  simp (maxSteps := 3000000) only [hH, go_sem, ↓bothG_tt, ↓bothG_tf, ↓bothG_ft, ↓bothG_ff, ↓reduceIte, ↓reduceDIte, reduceCtorEq, Nat.reduceAdd, Nat.reduceSub, Nat.reduceLeDiff, Nat.reduceLT, Nat.reduceEqDiff, Nat.reduceBEq, Nat.reduceMul, Int.reduceToNat, Int.reduceEq, Int.reduceLT, Int.reduceLE] <;> try simp only [bothG_t, bothG_f, decide_eq_true_eq, decide_eq_false_iff_not, Bool.not_eq_true', Bool.not_eq_false', Int.ofNat_lt, Int.ofNat_le]
  refine callI_pure (btw_c v 0 m) ?_
  refine run_sound mixed 600 _ ?_
  simp (maxSteps := 3000000) only [go_sem, ↓bothG_tt, ↓bothG_tf, ↓bothG_ft, ↓bothG_ff, ↓reduceIte, ↓reduceDIte, reduceCtorEq, Nat.reduceAdd, Nat.reduceSub, Nat.reduceLeDiff, Nat.reduceLT, Nat.reduceEqDiff, Nat.reduceBEq, Nat.reduceMul, Int.reduceToNat, Int.reduceEq, Int.reduceLT, Int.reduceLE] <;> try simp only [bothG_t, bothG_f, decide_eq_true_eq, decide_eq_false_iff_not, Bool.not_eq_true', Bool.not_eq_false', Int.ofNat_lt, Int.ofNat_le]
  exact ⟨rfl, [], by simp⟩
theorem within_c (m : Int) (l : List Int) (hl : l.length ≤ 1125899906842624) : PC Tryz.prog 86 [rI m, .isl I64 l] (rB (l.all (inB m))) := by
  refine pc_of rfl rfl ?_
  refine vc_fi fi86 (run_sound mixed 600 _ ?_)
  simp (maxSteps := 3000000) only [ir86, go_sem, ↓bothG_tt, ↓bothG_tf, ↓bothG_ft, ↓bothG_ff, ↓reduceIte, ↓reduceDIte, reduceCtorEq, Nat.reduceAdd, Nat.reduceSub, Nat.reduceLeDiff, Nat.reduceLT, Nat.reduceEqDiff, Nat.reduceBEq, Nat.reduceMul, Int.reduceToNat, Int.reduceEq, Int.reduceLT, Int.reduceLE] <;> try simp only [bothG_t, bothG_f, decide_eq_true_eq, decide_eq_false_iff_not, Bool.not_eq_true', Bool.not_eq_false', Int.ofNat_lt, Int.ofNat_le]
  refine callI_at (every_int l _ _ _ (inB m) _ hl (fun x _ G => within1_c x m 0 3 _ rfl)) ?_
  refine run_sound mixed 600 _ ?_
  simp (maxSteps := 3000000) only [go_sem, ↓bothG_tt, ↓bothG_tf, ↓bothG_ft, ↓bothG_ff, ↓reduceIte, ↓reduceDIte, reduceCtorEq, Nat.reduceAdd, Nat.reduceSub, Nat.reduceLeDiff, Nat.reduceLT, Nat.reduceEqDiff, Nat.reduceBEq, Nat.reduceMul, Int.reduceToNat, Int.reduceEq, Int.reduceLT, Int.reduceLE] <;> try simp only [bothG_t, bothG_f, decide_eq_true_eq, decide_eq_false_iff_not, Bool.not_eq_true', Bool.not_eq_false', Int.ofNat_lt, Int.ofNat_le]
  simp
theorem principals_c (l : List Prin) (hp : (Ty.slice PrinT).ok l) : PC Tryz.prog 93 [.isl PrinT l] (rB ((decide ((l.length : Int) ≤ 16) && l.all vPrin) && disB l)) := by
  refine pc_of rfl rfl ?_
  refine vc_fi fi93 (run_sound mixed 600 _ ?_)
  simp (maxSteps := 3000000) only [ir93, go_sem, ↓bothG_tt, ↓bothG_tf, ↓bothG_ft, ↓bothG_ff, ↓reduceIte, ↓reduceDIte, reduceCtorEq, Nat.reduceAdd, Nat.reduceSub, Nat.reduceLeDiff, Nat.reduceLT, Nat.reduceEqDiff, Nat.reduceBEq, Nat.reduceMul, Int.reduceToNat, Int.reduceEq, Int.reduceLT, Int.reduceLE] <;> try simp only [bothG_t, bothG_f, decide_eq_true_eq, decide_eq_false_iff_not, Bool.not_eq_true', Bool.not_eq_false', Int.ofNat_lt, Int.ofNat_le]
  refine callI_at (every_prin l _ _ _ vPrin _ hp.1 (fun x hx G => (nvalid_c x (hp.2 x hx)).at _)) ?_
  refine run_sound mixed 600 _ ?_
  simp (maxSteps := 3000000) only [go_sem, ↓bothG_tt, ↓bothG_tf, ↓bothG_ft, ↓bothG_ff, ↓reduceIte, ↓reduceDIte, reduceCtorEq, Nat.reduceAdd, Nat.reduceSub, Nat.reduceLeDiff, Nat.reduceLT, Nat.reduceEqDiff, Nat.reduceBEq, Nat.reduceMul, Int.reduceToNat, Int.reduceEq, Int.reduceLT, Int.reduceLE] <;> try simp only [bothG_t, bothG_f, decide_eq_true_eq, decide_eq_false_iff_not, Bool.not_eq_true', Bool.not_eq_false', Int.ofNat_lt, Int.ofNat_le]
  refine ⟨fun h => ?_, fun h => ?_⟩
  · refine callI_pure (distinct_c l hp (fun p hpl => List.all_eq_true.1 (Bool.and_eq_true_iff.1 h).2 p hpl)) ?_
    refine run_sound mixed 600 _ ?_
    simp (maxSteps := 3000000) only [go_sem, ↓bothG_tt, ↓bothG_tf, ↓bothG_ft, ↓bothG_ff, ↓reduceIte, ↓reduceDIte, reduceCtorEq, Nat.reduceAdd, Nat.reduceSub, Nat.reduceLeDiff, Nat.reduceLT, Nat.reduceEqDiff, Nat.reduceBEq, Nat.reduceMul, Int.reduceToNat, Int.reduceEq, Int.reduceLT, Int.reduceLE] <;> try simp only [bothG_t, bothG_f, decide_eq_true_eq, decide_eq_false_iff_not, Bool.not_eq_true', Bool.not_eq_false', Int.ofNat_lt, Int.ofNat_le]
    simp [h]
  · simp [h]

def lenB (d : List UInt8) : Bool := decide ((d.length : Int) = 16)
theorem hist_k (d : List UInt8) : PC Tryz.prog 95 [.isl .u8 d] (rB (lenB d)) := by
  refine pc_of rfl rfl ?_
  refine vc_fi fi95 (run_sound mixed 600 _ ?_)
  simp (maxSteps := 3000000) only [ir95, go_sem, ↓bothG_tt, ↓bothG_tf, ↓bothG_ft, ↓bothG_ff, ↓reduceIte, ↓reduceDIte, reduceCtorEq, Nat.reduceAdd, Nat.reduceSub, Nat.reduceLeDiff, Nat.reduceLT, Nat.reduceEqDiff, Nat.reduceBEq, Nat.reduceMul, Int.reduceToNat, Int.reduceEq, Int.reduceLT, Int.reduceLE] <;> try simp only [bothG_t, bothG_f, decide_eq_true_eq, decide_eq_false_iff_not, Bool.not_eq_true', Bool.not_eq_false', Int.ofNat_lt, Int.ofNat_le]
  rfl
def kOrd (a b : Key) : Bool := decide (a.1 < b.1)
theorem vset2_k (a b : Key) : PC Tryz.prog 117 [.agg (KeyT.cells a), .agg (KeyT.cells b)] (rB (kOrd a b)) := by
  refine pc_of rfl rfl ?_
  refine vc_fi fi117 (run_sound mixed 600 _ ?_)
  simp (maxSteps := 3000000) only [ir117, go_sem, ↓bothG_tt, ↓bothG_tf, ↓bothG_ft, ↓bothG_ff, ↓reduceIte, ↓reduceDIte, reduceCtorEq, Nat.reduceAdd, Nat.reduceSub, Nat.reduceLeDiff, Nat.reduceLT, Nat.reduceEqDiff, Nat.reduceBEq, Nat.reduceMul, Int.reduceToNat, Int.reduceEq, Int.reduceLT, Int.reduceLE] <;> try simp only [bothG_t, bothG_f, decide_eq_true_eq, decide_eq_false_iff_not, Bool.not_eq_true', Bool.not_eq_false', Int.ofNat_lt, Int.ofNat_le]
  rfl
def sOrd (a b : KSet) : Bool := decide (b.1 < a.1) && decide (b.2.2.2.2 ≤ a.2.2.2.2)
theorem vkeys2_k (a b : KSet) : PC Tryz.prog 172 [.agg (SetT.cells a), .agg (SetT.cells b)] (rB (sOrd a b)) := by
  refine pc_of rfl rfl ?_
  refine vc_fi fi172 (run_sound mixed 600 _ ?_)
  simp (maxSteps := 3000000) only [ir172, go_sem, ↓bothG_tt, ↓bothG_tf, ↓bothG_ft, ↓bothG_ff, ↓reduceIte, ↓reduceDIte, reduceCtorEq, Nat.reduceAdd, Nat.reduceSub, Nat.reduceLeDiff, Nat.reduceLT, Nat.reduceEqDiff, Nat.reduceBEq, Nat.reduceMul, Int.reduceToNat, Int.reduceEq, Int.reduceLT, Int.reduceLE] <;> try simp only [bothG_t, bothG_f, decide_eq_true_eq, decide_eq_false_iff_not, Bool.not_eq_true', Bool.not_eq_false', Int.ofNat_lt, Int.ofNat_le]
  grind [sOrd]
/-- Keys of a set that are valid. -/
def vKeyS (v m : Int) (k : Key) : Bool := decide (k.2.1 = v) && (decide (keyLen k.1 ≠ 0) && (if m = 0 then vKey k else decide (1 ≤ (k.2.2.length : Int)) && decide ((k.2.2.length : Int) ≤ 256)))
theorem kindOf_cases (p : Int) : kindOf p = kind1 ∨ kindOf p = kind2 ∨ kindOf p = kindZ := by
  unfold kindOf
  split
  · exact .inl rfl
  · split
    · exact .inr (.inl rfl)
    · exact .inr (.inr rfl)
theorem pvalid_k (k : Key) : PC Tryz.prog 114 [.agg (KeyT.cells k)] (rB (vKey k)) := by
  refine pc_of rfl rfl ?_
  refine vc_fi fi114 (run_sound mixed 600 _ ?_)
  simp (maxSteps := 3000000) only [ir114, go_sem, ↓bothG_tt, ↓bothG_tf, ↓bothG_ft, ↓bothG_ff, ↓reduceIte, ↓reduceDIte, reduceCtorEq, Nat.reduceAdd, Nat.reduceSub, Nat.reduceLeDiff, Nat.reduceLT, Nat.reduceEqDiff, Nat.reduceBEq, Nat.reduceMul, Int.reduceToNat, Int.reduceEq, Int.reduceLT, Int.reduceLE] <;> try simp only [bothG_t, bothG_f, decide_eq_true_eq, decide_eq_false_iff_not, Bool.not_eq_true', Bool.not_eq_false', Int.ofNat_lt, Int.ofNat_le]
  refine callI_pure (find_c k) ?_
  rcases kindOf_cases k.1 with h | h | h
  · rw [h]
    refine run_sound mixed 600 _ ?_
    simp (maxSteps := 3000000) only [kind1, go_sem, ↓bothG_tt, ↓bothG_tf, ↓bothG_ft, ↓bothG_ff, ↓reduceIte, ↓reduceDIte, reduceCtorEq, Nat.reduceAdd, Nat.reduceSub, Nat.reduceLeDiff, Nat.reduceLT, Nat.reduceEqDiff, Nat.reduceBEq, Nat.reduceMul, Int.reduceToNat, Int.reduceEq, Int.reduceLT, Int.reduceLE] <;> try simp only [bothG_t, bothG_f, decide_eq_true_eq, decide_eq_false_iff_not, Bool.not_eq_true', Bool.not_eq_false', Int.ofNat_lt, Int.ofNat_le]
  · rw [h]
    refine run_sound mixed 600 _ ?_
    simp (maxSteps := 3000000) only [kind2, go_sem, ↓bothG_tt, ↓bothG_tf, ↓bothG_ft, ↓bothG_ff, ↓reduceIte, ↓reduceDIte, reduceCtorEq, Nat.reduceAdd, Nat.reduceSub, Nat.reduceLeDiff, Nat.reduceLT, Nat.reduceEqDiff, Nat.reduceBEq, Nat.reduceMul, Int.reduceToNat, Int.reduceEq, Int.reduceLT, Int.reduceLE] <;> try simp only [bothG_t, bothG_f, decide_eq_true_eq, decide_eq_false_iff_not, Bool.not_eq_true', Bool.not_eq_false', Int.ofNat_lt, Int.ofNat_le]
  · rw [h]
    refine run_sound mixed 600 _ ?_
    simp (maxSteps := 3000000) only [kindZ, go_sem, ↓bothG_tt, ↓bothG_tf, ↓bothG_ft, ↓bothG_ff, ↓reduceIte, ↓reduceDIte, reduceCtorEq, Nat.reduceAdd, Nat.reduceSub, Nat.reduceLeDiff, Nat.reduceLT, Nat.reduceEqDiff, Nat.reduceBEq, Nat.reduceMul, Int.reduceToNat, Int.reduceEq, Int.reduceLT, Int.reduceLE] <;> try simp only [bothG_t, bothG_f, decide_eq_true_eq, decide_eq_false_iff_not, Bool.not_eq_true', Bool.not_eq_false', Int.ofNat_lt, Int.ofNat_le]
theorem vset1_k (k : Key) (s : KSet) (m : Int) (H : List SObj) (hs : ∀ R, (H ++ R)[0]? = some (.cells 34 (SetT.cells s))) (hm : ∀ R, (H ++ R)[1]? = some (.cells 3 [rI m])) : PCH Tryz.prog 112 [.agg (KeyT.cells k), .ptr 0 0, .ptr 1 0] (rB (vKeyS s.1 m k)) H := by
  refine pch_drop rfl ?_
  have hs0 := hs []
  have hm0 := hm []
  rw [List.append_nil] at hs0 hm0
  refine vc_fi fi112 (run_sound mixed 600 _ ?_)
  simp (maxSteps := 3000000) only [ir112, hs, hm, hs0, hm0, go_sem, ↓bothG_tt, ↓bothG_tf, ↓bothG_ft, ↓bothG_ff, ↓reduceIte, ↓reduceDIte, reduceCtorEq, Nat.reduceAdd, Nat.reduceSub, Nat.reduceLeDiff, Nat.reduceLT, Nat.reduceEqDiff, Nat.reduceBEq, Nat.reduceMul, Int.reduceToNat, Int.reduceEq, Int.reduceLT, Int.reduceLE] <;> try simp only [bothG_t, bothG_f, decide_eq_true_eq, decide_eq_false_iff_not, Bool.not_eq_true', Bool.not_eq_false', Int.ofNat_lt, Int.ofNat_le]
  refine ⟨fun hv => callI_pure (keyLen_c _) ?_, fun hv => ⟨?_, _, rfl⟩⟩
  · refine run_sound mixed 600 _ ?_
    simp (maxSteps := 3000000) only [hs, hm, go_sem, ↓bothG_tt, ↓bothG_tf, ↓bothG_ft, ↓bothG_ff, ↓reduceIte, ↓reduceDIte, reduceCtorEq, Nat.reduceAdd, Nat.reduceSub, Nat.reduceLeDiff, Nat.reduceLT, Nat.reduceEqDiff, Nat.reduceBEq, Nat.reduceMul, Int.reduceToNat, Int.reduceEq, Int.reduceLT, Int.reduceLE] <;> try simp only [bothG_t, bothG_f, decide_eq_true_eq, decide_eq_false_iff_not, Bool.not_eq_true', Bool.not_eq_false', Int.ofNat_lt, Int.ofNat_le]
    refine ⟨fun h0 => ⟨?_, _, rfl⟩, fun h0 => ⟨fun hz => callI_pure (pvalid_k k) ?_, fun hz => callI_pure (btw_c _ _ _) ?_⟩⟩
    · rw [vKeyS, h0]; simp
    · refine run_sound mixed 600 _ ?_
      simp (maxSteps := 3000000) only [go_sem, ↓bothG_tt, ↓bothG_tf, ↓bothG_ft, ↓bothG_ff, ↓reduceIte, ↓reduceDIte, reduceCtorEq, Nat.reduceAdd, Nat.reduceSub, Nat.reduceLeDiff, Nat.reduceLT, Nat.reduceEqDiff, Nat.reduceBEq, Nat.reduceMul, Int.reduceToNat, Int.reduceEq, Int.reduceLT, Int.reduceLE] <;> try simp only [bothG_t, bothG_f, decide_eq_true_eq, decide_eq_false_iff_not, Bool.not_eq_true', Bool.not_eq_false', Int.ofNat_lt, Int.ofNat_le]
      refine ⟨?_, _, rfl⟩
      simp [vKeyS, hv, h0, hz]
    · refine run_sound mixed 600 _ ?_
      simp (maxSteps := 3000000) only [go_sem, ↓bothG_tt, ↓bothG_tf, ↓bothG_ft, ↓bothG_ff, ↓reduceIte, ↓reduceDIte, reduceCtorEq, Nat.reduceAdd, Nat.reduceSub, Nat.reduceLeDiff, Nat.reduceLT, Nat.reduceEqDiff, Nat.reduceBEq, Nat.reduceMul, Int.reduceToNat, Int.reduceEq, Int.reduceLT, Int.reduceLE] <;> try simp only [bothG_t, bothG_f, decide_eq_true_eq, decide_eq_false_iff_not, Bool.not_eq_true', Bool.not_eq_false', Int.ofNat_lt, Int.ofNat_le]
      refine ⟨?_, _, rfl⟩
      simp [vKeyS, hv, h0, hz]
  · simp [vKeyS, hv]
/-- Key sets that are valid. -/
def vSet (s : KSet) (m : Int) : Bool :=
  (decide (1 ≤ s.1) && decide (s.1 ≤ 65535)) && (decide (1 ≤ (s.2.1.length : Int)) && ((decide ((s.2.1.length : Int) ≤ 4) && s.2.1.all (vKeyS s.1 m)) && (ord (t := KeyT) kOrd s.2.1 && (decide ((s.2.2.1.size : Int) ≤ 256) &&
    ((decide (0 ≤ s.2.2.2.1) && decide (s.2.2.2.1 ≤ 65536)) && ((decide (0 < s.2.2.2.1) || decide (s.2.2.1 = ⟨#[]⟩)) && (decide (0 ≤ s.2.2.2.2) && decide (s.2.2.2.2 ≤ 1099511627776))))))))
theorem vset_k (s : KSet) (m : Int) (hs : SetT.ok s) : PC Tryz.prog 46 [.agg (SetT.cells s), rI m] (rB (vSet s m)) := by
  refine pc_of rfl rfl ?_
  refine vc_fi fi46 (run_sound mixed 600 _ ?_)
  simp (maxSteps := 3000000) only [ir46, go_sem, ↓bothG_tt, ↓bothG_tf, ↓bothG_ft, ↓bothG_ff, ↓reduceIte, ↓reduceDIte, reduceCtorEq, Nat.reduceAdd, Nat.reduceSub, Nat.reduceLeDiff, Nat.reduceLT, Nat.reduceEqDiff, Nat.reduceBEq, Nat.reduceMul, Int.reduceToNat, Int.reduceEq, Int.reduceLT, Int.reduceLE] <;> try simp only [bothG_t, bothG_f, decide_eq_true_eq, decide_eq_false_iff_not, Bool.not_eq_true', Bool.not_eq_false', Int.ofNat_lt, Int.ofNat_le]
  refine callI_pure (btw_c _ _ _) ?_
  refine run_sound mixed 600 _ ?_
  simp (maxSteps := 3000000) only [go_sem, ↓bothG_tt, ↓bothG_tf, ↓bothG_ft, ↓bothG_ff, ↓reduceIte, ↓reduceDIte, reduceCtorEq, Nat.reduceAdd, Nat.reduceSub, Nat.reduceLeDiff, Nat.reduceLT, Nat.reduceEqDiff, Nat.reduceBEq, Nat.reduceMul, Int.reduceToNat, Int.reduceEq, Int.reduceLT, Int.reduceLE] <;> try simp only [bothG_t, bothG_f, decide_eq_true_eq, decide_eq_false_iff_not, Bool.not_eq_true', Bool.not_eq_false', Int.ofNat_lt, Int.ofNat_le]
  refine ⟨fun h1 => ⟨fun h2 => ?_, fun h2 => ?_⟩, fun h1 => ?_⟩
  · refine callI_at (every_key _ _ _ _ (vKeyS s.1 m) _ hs.2.1.1 (fun x _ G => vset1_k x s m _ (fun R => rfl) (fun R => rfl))) ?_
    refine run_sound mixed 600 _ ?_
    simp (maxSteps := 3000000) only [go_sem, ↓bothG_tt, ↓bothG_tf, ↓bothG_ft, ↓bothG_ff, ↓reduceIte, ↓reduceDIte, reduceCtorEq, Nat.reduceAdd, Nat.reduceSub, Nat.reduceLeDiff, Nat.reduceLT, Nat.reduceEqDiff, Nat.reduceBEq, Nat.reduceMul, Int.reduceToNat, Int.reduceEq, Int.reduceLT, Int.reduceLE] <;> try simp only [bothG_t, bothG_f, decide_eq_true_eq, decide_eq_false_iff_not, Bool.not_eq_true', Bool.not_eq_false', Int.ofNat_lt, Int.ofNat_le]
    refine ⟨fun h3 => ?_, fun h3 => ?_⟩
    · refine callI_at (ordered_key _ _ _ kOrd _ hs.2.1.1 (fun x _ y _ G => (vset2_k x y).at _)) ?_
      refine run_sound mixed 600 _ ?_
      simp (maxSteps := 3000000) only [go_sem, ↓bothG_tt, ↓bothG_tf, ↓bothG_ft, ↓bothG_ff, ↓reduceIte, ↓reduceDIte, reduceCtorEq, Nat.reduceAdd, Nat.reduceSub, Nat.reduceLeDiff, Nat.reduceLT, Nat.reduceEqDiff, Nat.reduceBEq, Nat.reduceMul, Int.reduceToNat, Int.reduceEq, Int.reduceLT, Int.reduceLE] <;> try simp only [bothG_t, bothG_f, decide_eq_true_eq, decide_eq_false_iff_not, Bool.not_eq_true', Bool.not_eq_false', Int.ofNat_lt, Int.ofNat_le]
      refine ⟨fun h4 => ⟨fun h5 => ?_, fun h5 => ?_⟩, fun h4 => ?_⟩
      · refine callI_pure (btw_c _ _ _) ?_
        refine run_sound mixed 600 _ ?_
        simp (maxSteps := 3000000) only [go_sem, ↓bothG_tt, ↓bothG_tf, ↓bothG_ft, ↓bothG_ff, ↓reduceIte, ↓reduceDIte, reduceCtorEq, Nat.reduceAdd, Nat.reduceSub, Nat.reduceLeDiff, Nat.reduceLT, Nat.reduceEqDiff, Nat.reduceBEq, Nat.reduceMul, Int.reduceToNat, Int.reduceEq, Int.reduceLT, Int.reduceLE] <;> try simp only [bothG_t, bothG_f, decide_eq_true_eq, decide_eq_false_iff_not, Bool.not_eq_true', Bool.not_eq_false', Int.ofNat_lt, Int.ofNat_le]
        refine ⟨fun h6 => ⟨fun h7 => ⟨fun h8 => ?_, fun h8 => ?_⟩, fun h7 => ?_⟩, fun h6 => ?_⟩
        · refine callI_pure (btw_c _ _ _) ?_
          refine run_sound mixed 600 _ ?_
          simp (maxSteps := 3000000) only [go_sem, ↓bothG_tt, ↓bothG_tf, ↓bothG_ft, ↓bothG_ff, ↓reduceIte, ↓reduceDIte, reduceCtorEq, Nat.reduceAdd, Nat.reduceSub, Nat.reduceLeDiff, Nat.reduceLT, Nat.reduceEqDiff, Nat.reduceBEq, Nat.reduceMul, Int.reduceToNat, Int.reduceEq, Int.reduceLT, Int.reduceLE] <;> try simp only [bothG_t, bothG_f, decide_eq_true_eq, decide_eq_false_iff_not, Bool.not_eq_true', Bool.not_eq_false', Int.ofNat_lt, Int.ofNat_le]
          rw [h8] at h5
          simp [vSet, h1, h2, h3, h4, h5, h6, h7, h8]
        · simp [vSet, h7, h8]
        · refine callI_pure (btw_c _ _ _) ?_
          refine run_sound mixed 600 _ ?_
          simp (maxSteps := 3000000) only [go_sem, ↓bothG_tt, ↓bothG_tf, ↓bothG_ft, ↓bothG_ff, ↓reduceIte, ↓reduceDIte, reduceCtorEq, Nat.reduceAdd, Nat.reduceSub, Nat.reduceLeDiff, Nat.reduceLT, Nat.reduceEqDiff, Nat.reduceBEq, Nat.reduceMul, Int.reduceToNat, Int.reduceEq, Int.reduceLT, Int.reduceLE] <;> try simp only [bothG_t, bothG_f, decide_eq_true_eq, decide_eq_false_iff_not, Bool.not_eq_true', Bool.not_eq_false', Int.ofNat_lt, Int.ofNat_le]
          simp [vSet, h1, h2, h3, h4, h5, h6, h7]
        · simp [vSet, h6]
      · simp [vSet, h5]
      · simp [vSet, h4]
    · simp [vSet, h3]
  · simp [vSet, h2]
  · simp [vSet, h1]
end Go.Proofs.YtddmkgibghohkaaGreatDoor
/- Contracts: entries that are valid. -/
namespace Go.Proofs.YtddmkgibghohkaaGreatDoor
open Go Go.Sx Go.Proofs
set_option maxRecDepth 100000
set_option maxHeartbeats 4000000
set_option linter.unusedSimpArgs false

theorem vkeys1_k (s : KSet) (e : Ent) (H : List SObj) (hs : SetT.ok s) (he : ∀ R, (H ++ R)[0]? = some (.cells 31 (EntT.cells e))) : PCH Tryz.prog 170 [.agg (SetT.cells s), .ptr 0 0] (rB (vSet s e.2.2.2.1)) H := by
  refine pch_drop rfl ?_
  have he0 := he []
  rw [List.append_nil] at he0
  refine vc_fi fi170 (run_sound mixed 600 _ ?_)
  simp (maxSteps := 3000000) only [ir170, he, he0, go_sem, ↓bothG_tt, ↓bothG_tf, ↓bothG_ft, ↓bothG_ff, ↓reduceIte, ↓reduceDIte, reduceCtorEq, Nat.reduceAdd, Nat.reduceSub, Nat.reduceLeDiff, Nat.reduceLT, Nat.reduceEqDiff, Nat.reduceBEq, Nat.reduceMul, Int.reduceToNat, Int.reduceEq, Int.reduceLT, Int.reduceLE] <;> try simp only [bothG_t, bothG_f, decide_eq_true_eq, decide_eq_false_iff_not, Bool.not_eq_true', Bool.not_eq_false', Int.ofNat_lt, Int.ofNat_le]
  refine callI_pure (vset_k s _ hs) ?_
  refine run_sound mixed 600 _ ?_
  simp (maxSteps := 3000000) only [go_sem, ↓bothG_tt, ↓bothG_tf, ↓bothG_ft, ↓bothG_ff, ↓reduceIte, ↓reduceDIte, reduceCtorEq, Nat.reduceAdd, Nat.reduceSub, Nat.reduceLeDiff, Nat.reduceLT, Nat.reduceEqDiff, Nat.reduceBEq, Nat.reduceMul, Int.reduceToNat, Int.reduceEq, Int.reduceLT, Int.reduceLE] <;> try simp only [bothG_t, bothG_f, decide_eq_true_eq, decide_eq_false_iff_not, Bool.not_eq_true', Bool.not_eq_false', Int.ofNat_lt, Int.ofNat_le]
  exact ⟨rfl, _, rfl⟩

def vAlias (r : ByteArray) (a : Prin) : Bool := vPrin a && decide (a.2 = r)
theorem vnames1_k (a : Prin) (e : Ent) (H : List SObj) (ha : PrinT.ok a) (he : ∀ R, (H ++ R)[0]? = some (.cells 31 (EntT.cells e))) : PCH Tryz.prog 165 [.agg (PrinT.cells a), .ptr 0 0] (rB (vAlias e.1.2 a)) H := by
  refine pch_drop rfl ?_
  have he0 := he []
  rw [List.append_nil] at he0
  refine vc_fi fi165 (run_sound mixed 600 _ ?_)
  simp (maxSteps := 3000000) only [ir165, he, he0, go_sem, ↓bothG_tt, ↓bothG_tf, ↓bothG_ft, ↓bothG_ff, ↓reduceIte, ↓reduceDIte, reduceCtorEq, Nat.reduceAdd, Nat.reduceSub, Nat.reduceLeDiff, Nat.reduceLT, Nat.reduceEqDiff, Nat.reduceBEq, Nat.reduceMul, Int.reduceToNat, Int.reduceEq, Int.reduceLT, Int.reduceLE] <;> try simp only [bothG_t, bothG_f, decide_eq_true_eq, decide_eq_false_iff_not, Bool.not_eq_true', Bool.not_eq_false', Int.ofNat_lt, Int.ofNat_le]
  refine callI_pure (nvalid_c a ha) ?_
  refine run_sound mixed 600 _ ?_
  simp (maxSteps := 3000000) only [he, go_sem, ↓bothG_tt, ↓bothG_tf, ↓bothG_ft, ↓bothG_ff, ↓reduceIte, ↓reduceDIte, reduceCtorEq, Nat.reduceAdd, Nat.reduceSub, Nat.reduceLeDiff, Nat.reduceLT, Nat.reduceEqDiff, Nat.reduceBEq, Nat.reduceMul, Int.reduceToNat, Int.reduceEq, Int.reduceLT, Int.reduceLE] <;> try simp only [bothG_t, bothG_f, decide_eq_true_eq, decide_eq_false_iff_not, Bool.not_eq_true', Bool.not_eq_false', Int.ofNat_lt, Int.ofNat_le]
  refine ⟨fun h => ⟨?_, _, rfl⟩, fun h => ⟨?_, _, rfl⟩⟩
  · simp [vAlias, h]
  · simp [vAlias, h]
def vNames (e : Ent) : Bool := vPrin e.1 && ((decide ((e.2.1.length : Int) ≤ 16) && e.2.1.all (vAlias e.1.2)) && disB (e.1 :: e.2.1))
theorem vnames_k (e : Ent) (he : EntT.ok e) : PC Tryz.prog 90 [.agg (EntT.cells e)] (rB (vNames e)) := by
  refine pc_of rfl rfl ?_
  refine vc_fi fi90 (run_sound mixed 600 _ ?_)
  simp (maxSteps := 3000000) only [ir90, go_sem, ↓bothG_tt, ↓bothG_tf, ↓bothG_ft, ↓bothG_ff, ↓reduceIte, ↓reduceDIte, reduceCtorEq, Nat.reduceAdd, Nat.reduceSub, Nat.reduceLeDiff, Nat.reduceLT, Nat.reduceEqDiff, Nat.reduceBEq, Nat.reduceMul, Int.reduceToNat, Int.reduceEq, Int.reduceLT, Int.reduceLE] <;> try simp only [bothG_t, bothG_f, decide_eq_true_eq, decide_eq_false_iff_not, Bool.not_eq_true', Bool.not_eq_false', Int.ofNat_lt, Int.ofNat_le]
  refine callI_pure (nvalid_c e.1 he.1) ?_
  refine run_sound mixed 600 _ ?_
  simp (maxSteps := 3000000) only [go_sem, ↓bothG_tt, ↓bothG_tf, ↓bothG_ft, ↓bothG_ff, ↓reduceIte, ↓reduceDIte, reduceCtorEq, Nat.reduceAdd, Nat.reduceSub, Nat.reduceLeDiff, Nat.reduceLT, Nat.reduceEqDiff, Nat.reduceBEq, Nat.reduceMul, Int.reduceToNat, Int.reduceEq, Int.reduceLT, Int.reduceLE] <;> try simp only [bothG_t, bothG_f, decide_eq_true_eq, decide_eq_false_iff_not, Bool.not_eq_true', Bool.not_eq_false', Int.ofNat_lt, Int.ofNat_le]
  refine ⟨fun h1 => ?_, fun h1 => ?_⟩
  rotate_left
  · first | (simp only [vNames, h1, Bool.false_and, Bool.and_false]; done) | simp [vNames, h1]
  refine callI_at ((every_prin _ _ _ _ (vAlias e.1.2) _ he.2.1.1 (fun x hx G => vnames1_k x e _ (he.2.1.2 x hx) (fun R => rfl)))) ?_
  refine run_sound mixed 600 _ ?_
  simp (maxSteps := 3000000) only [go_sem, ↓bothG_tt, ↓bothG_tf, ↓bothG_ft, ↓bothG_ff, ↓reduceIte, ↓reduceDIte, reduceCtorEq, Nat.reduceAdd, Nat.reduceSub, Nat.reduceLeDiff, Nat.reduceLT, Nat.reduceEqDiff, Nat.reduceBEq, Nat.reduceMul, Int.reduceToNat, Int.reduceEq, Int.reduceLT, Int.reduceLE] <;> try simp only [bothG_t, bothG_f, decide_eq_true_eq, decide_eq_false_iff_not, Bool.not_eq_true', Bool.not_eq_false', Int.ofNat_lt, Int.ofNat_le]
  refine ⟨fun h2 => ?_, fun h2 => ?_⟩
  rotate_left
  · first | (simp only [vNames, h2, Bool.false_and, Bool.and_false]; done) | simp [vNames, h2]
  have hl : (e.2.1.length : Int) ≤ 16 := by simp only [Bool.and_eq_true, decide_eq_true_eq] at h2; exact h2.1
  have ha : ∀ a ∈ e.2.1, vPrin a = true := fun a hm => by
    simp only [Bool.and_eq_true, List.all_eq_true] at h2
    have := h2.2 a hm
    simp only [vAlias, Bool.and_eq_true] at this
    exact this.1
  refine ⟨he.1.2, ⟨by omega, by omega⟩, callI_hand 2 ?_⟩
  simp (maxSteps := 3000000) only [go_sem, ↓bothG_tt, ↓bothG_tf, ↓bothG_ft, ↓bothG_ff, ↓reduceIte, ↓reduceDIte, reduceCtorEq, Nat.reduceAdd, Nat.reduceSub, Nat.reduceLeDiff, Nat.reduceLT, Nat.reduceEqDiff, Nat.reduceBEq, Nat.reduceMul, Int.reduceToNat, Int.reduceEq, Int.reduceLT, Int.reduceLE] <;> try simp only [bothG_t, bothG_f, decide_eq_true_eq, decide_eq_false_iff_not, Bool.not_eq_true', Bool.not_eq_false', Int.ofNat_lt, Int.ofNat_le]
  refine ⟨by omega, by omega, ?_⟩
  rw [List.take_of_length_le (by simp; omega)]
  refine callI_pure (distinct_c (e.1 :: e.2.1) ⟨by simp; omega, fun a hm => ?_⟩ (fun a hm => ?_)) ?_
  · rcases List.mem_cons.1 hm with rfl | hm
    · exact he.1
    · exact he.2.1.2 a hm
  · rcases List.mem_cons.1 hm with rfl | hm
    · exact h1
    · exact ha a hm
  refine run_sound mixed 600 _ ?_
  simp (maxSteps := 3000000) only [go_sem, ↓bothG_tt, ↓bothG_tf, ↓bothG_ft, ↓bothG_ff, ↓reduceIte, ↓reduceDIte, reduceCtorEq, Nat.reduceAdd, Nat.reduceSub, Nat.reduceLeDiff, Nat.reduceLT, Nat.reduceEqDiff, Nat.reduceBEq, Nat.reduceMul, Int.reduceToNat, Int.reduceEq, Int.reduceLT, Int.reduceLE] <;> try simp only [bothG_t, bothG_f, decide_eq_true_eq, decide_eq_false_iff_not, Bool.not_eq_true', Bool.not_eq_false', Int.ofNat_lt, Int.ofNat_le]
  simp [vNames, h1, h2]
def vKeys (e : Ent) : Bool := (decide ((e.2.2.2.2.1.length : Int) ≤ 16) && e.2.2.2.2.1.all (vSet · e.2.2.2.1)) && ord (t := SetT) sOrd e.2.2.2.2.1
theorem vkeys_k (e : Ent) (he : EntT.ok e) : PC Tryz.prog 91 [.agg (EntT.cells e)] (rB (vKeys e)) := by
  refine pc_of rfl rfl ?_
  refine vc_fi fi91 (run_sound mixed 600 _ ?_)
  simp (maxSteps := 3000000) only [ir91, go_sem, ↓bothG_tt, ↓bothG_tf, ↓bothG_ft, ↓bothG_ff, ↓reduceIte, ↓reduceDIte, reduceCtorEq, Nat.reduceAdd, Nat.reduceSub, Nat.reduceLeDiff, Nat.reduceLT, Nat.reduceEqDiff, Nat.reduceBEq, Nat.reduceMul, Int.reduceToNat, Int.reduceEq, Int.reduceLT, Int.reduceLE] <;> try simp only [bothG_t, bothG_f, decide_eq_true_eq, decide_eq_false_iff_not, Bool.not_eq_true', Bool.not_eq_false', Int.ofNat_lt, Int.ofNat_le]
  refine callI_at ((every_kset _ _ _ _ (vSet · e.2.2.2.1) _ he.2.2.2.2.1.1 (fun x hx G => vkeys1_k x e _ (he.2.2.2.2.1.2 x hx) (fun R => rfl)))) ?_
  refine run_sound mixed 600 _ ?_
  simp (maxSteps := 3000000) only [go_sem, ↓bothG_tt, ↓bothG_tf, ↓bothG_ft, ↓bothG_ff, ↓reduceIte, ↓reduceDIte, reduceCtorEq, Nat.reduceAdd, Nat.reduceSub, Nat.reduceLeDiff, Nat.reduceLT, Nat.reduceEqDiff, Nat.reduceBEq, Nat.reduceMul, Int.reduceToNat, Int.reduceEq, Int.reduceLT, Int.reduceLE] <;> try simp only [bothG_t, bothG_f, decide_eq_true_eq, decide_eq_false_iff_not, Bool.not_eq_true', Bool.not_eq_false', Int.ofNat_lt, Int.ofNat_le]
  refine ⟨fun h3 => ?_, fun h3 => ?_⟩
  rotate_left
  · first | (simp only [vKeys, h3, Bool.false_and, Bool.and_false]; done) | simp [vKeys, h3]
  refine callI_at (ordered_kset _ _ _ sOrd _ he.2.2.2.2.1.1 (fun x _ y _ G => (vkeys2_k x y).at _)) ?_
  refine run_sound mixed 600 _ ?_
  simp (maxSteps := 3000000) only [go_sem, ↓bothG_tt, ↓bothG_tf, ↓bothG_ft, ↓bothG_ff, ↓reduceIte, ↓reduceDIte, reduceCtorEq, Nat.reduceAdd, Nat.reduceSub, Nat.reduceLeDiff, Nat.reduceLT, Nat.reduceEqDiff, Nat.reduceBEq, Nat.reduceMul, Int.reduceToNat, Int.reduceEq, Int.reduceLT, Int.reduceLE] <;> try simp only [bothG_t, bothG_f, decide_eq_true_eq, decide_eq_false_iff_not, Bool.not_eq_true', Bool.not_eq_false', Int.ofNat_lt, Int.ofNat_le]
  simp_all [vKeys]

/-- Entries that are valid. -/
def vText (s : ByteArray) : Bool := visB s && decide ((s.size : Int) ≤ 32)
def vPrins (l : List Prin) : Bool := (decide ((l.length : Int) ≤ 16) && l.all vPrin) && disB l
def attrB (a : Int) : Bool := decide (IntKind.u32.wrap (BitVec.ofInt 32 a &&& ~~~(BitVec.ofInt 32 1023)).toNat = 0)
def vEnt (e : Ent) : Bool :=
  vNames e && (attrB e.2.2.1 && ([e.2.2.2.1].all (inB 65535) && (vKeys e && (vText e.2.2.2.2.2.1 && ([e.2.2.2.2.2.2.1, e.2.2.2.2.2.2.2.1, e.2.2.2.2.2.2.2.2.2.2.2.1, e.2.2.2.2.2.2.2.2.2.2.2.2.1].all (inB 1099511627776) &&
    ([e.2.2.2.2.2.2.2.2.1, e.2.2.2.2.2.2.2.2.2.1].all (inB 2147483648) && ([e.2.2.2.2.2.2.2.2.2.2.1].all (inB 65535) && (vPrins e.2.2.2.2.2.2.2.2.2.2.2.2.2.1 && (vPrins e.2.2.2.2.2.2.2.2.2.2.2.2.2.2.1 &&
      (decide ((e.2.2.2.2.2.2.2.2.2.2.2.2.2.2.2.length : Int) ≤ 16) && e.2.2.2.2.2.2.2.2.2.2.2.2.2.2.2.all lenB))))))))))
theorem valid_k (e : Ent) (he : EntT.ok e) : PC Tryz.prog 38 [.agg (EntT.cells e)] (rB (vEnt e)) := by
  refine pc_of rfl rfl ?_
  refine vc_fi fi38 (run_sound mixed 600 _ ?_)
  simp (maxSteps := 3000000) only [ir38, go_sem, ↓bothG_tt, ↓bothG_tf, ↓bothG_ft, ↓bothG_ff, ↓reduceIte, ↓reduceDIte, reduceCtorEq, Nat.reduceAdd, Nat.reduceSub, Nat.reduceLeDiff, Nat.reduceLT, Nat.reduceEqDiff, Nat.reduceBEq, Nat.reduceMul, Int.reduceToNat, Int.reduceEq, Int.reduceLT, Int.reduceLE] <;> try simp only [bothG_t, bothG_f, decide_eq_true_eq, decide_eq_false_iff_not, Bool.not_eq_true', Bool.not_eq_false', Int.ofNat_lt, Int.ofNat_le]
  refine callI_pure (vnames_k e he) ?_
  refine run_sound mixed 600 _ ?_
  simp (maxSteps := 3000000) only [go_sem, ↓bothG_tt, ↓bothG_tf, ↓bothG_ft, ↓bothG_ff, ↓reduceIte, ↓reduceDIte, reduceCtorEq, Nat.reduceAdd, Nat.reduceSub, Nat.reduceLeDiff, Nat.reduceLT, Nat.reduceEqDiff, Nat.reduceBEq, Nat.reduceMul, Int.reduceToNat, Int.reduceEq, Int.reduceLT, Int.reduceLE] <;> try simp only [bothG_t, bothG_f, decide_eq_true_eq, decide_eq_false_iff_not, Bool.not_eq_true', Bool.not_eq_false', Int.ofNat_lt, Int.ofNat_le]
  refine ⟨fun h4 => ?_, fun h4 => ?_⟩
  rotate_left
  · first | (simp only [vEnt, h4, Bool.false_and, Bool.and_false]; done) | simp [vEnt, h4]
  refine ⟨fun h2 => ?_, fun h2 => ?_⟩
  rotate_left
  · have hf : attrB e.2.2.1 = false := decide_eq_false h2
    simp only [vEnt, hf, Bool.false_and, Bool.and_false]
  have ht : attrB e.2.2.1 = true := decide_eq_true h2
  refine callI_hand 1 ?_
  simp (maxSteps := 3000000) only [go_sem, ↓bothG_tt, ↓bothG_tf, ↓bothG_ft, ↓bothG_ff, ↓reduceIte, ↓reduceDIte, reduceCtorEq, Nat.reduceAdd, Nat.reduceSub, Nat.reduceLeDiff, Nat.reduceLT, Nat.reduceEqDiff, Nat.reduceBEq, Nat.reduceMul, Int.reduceToNat, Int.reduceEq, Int.reduceLT, Int.reduceLE] <;> try simp only [bothG_t, bothG_f, decide_eq_true_eq, decide_eq_false_iff_not, Bool.not_eq_true', Bool.not_eq_false', Int.ofNat_lt, Int.ofNat_le]
  refine callI_pure (within_c _ _ (by simp)) ?_
  refine run_sound mixed 600 _ ?_
  simp (maxSteps := 3000000) only [go_sem, ↓bothG_tt, ↓bothG_tf, ↓bothG_ft, ↓bothG_ff, ↓reduceIte, ↓reduceDIte, reduceCtorEq, Nat.reduceAdd, Nat.reduceSub, Nat.reduceLeDiff, Nat.reduceLT, Nat.reduceEqDiff, Nat.reduceBEq, Nat.reduceMul, Int.reduceToNat, Int.reduceEq, Int.reduceLT, Int.reduceLE] <;> try simp only [bothG_t, bothG_f, decide_eq_true_eq, decide_eq_false_iff_not, Bool.not_eq_true', Bool.not_eq_false', Int.ofNat_lt, Int.ofNat_le]
  refine ⟨fun h5 => ?_, fun h5 => ?_⟩
  rotate_left
  · first | (simp only [vEnt, h5, Bool.false_and, Bool.and_false]; done) | simp [vEnt, h5]
  refine callI_pure (vkeys_k e he) ?_
  refine run_sound mixed 600 _ ?_
  simp (maxSteps := 3000000) only [go_sem, ↓bothG_tt, ↓bothG_tf, ↓bothG_ft, ↓bothG_ff, ↓reduceIte, ↓reduceDIte, reduceCtorEq, Nat.reduceAdd, Nat.reduceSub, Nat.reduceLeDiff, Nat.reduceLT, Nat.reduceEqDiff, Nat.reduceBEq, Nat.reduceMul, Int.reduceToNat, Int.reduceEq, Int.reduceLT, Int.reduceLE] <;> try simp only [bothG_t, bothG_f, decide_eq_true_eq, decide_eq_false_iff_not, Bool.not_eq_true', Bool.not_eq_false', Int.ofNat_lt, Int.ofNat_le]
  refine ⟨fun h6 => ?_, fun h6 => ?_⟩
  rotate_left
  · first | (simp only [vEnt, h6, Bool.false_and, Bool.and_false]; done) | simp [vEnt, h6]
  refine callI_pure (vtext_k _ he.2.2.2.2.2.1) ?_
  refine run_sound mixed 600 _ ?_
  simp (maxSteps := 3000000) only [go_sem, ↓bothG_tt, ↓bothG_tf, ↓bothG_ft, ↓bothG_ff, ↓reduceIte, ↓reduceDIte, reduceCtorEq, Nat.reduceAdd, Nat.reduceSub, Nat.reduceLeDiff, Nat.reduceLT, Nat.reduceEqDiff, Nat.reduceBEq, Nat.reduceMul, Int.reduceToNat, Int.reduceEq, Int.reduceLT, Int.reduceLE] <;> try simp only [bothG_t, bothG_f, decide_eq_true_eq, decide_eq_false_iff_not, Bool.not_eq_true', Bool.not_eq_false', Int.ofNat_lt, Int.ofNat_le]
  refine ⟨fun h7 => ?_, fun h7 => ?_⟩
  rotate_left
  · first | (simp only [vEnt, vText, h7, Bool.false_and, Bool.and_false]; done) | simp [vEnt, vText, h7]
  refine callI_hand 2 ?_
  simp (maxSteps := 3000000) only [go_sem, ↓bothG_tt, ↓bothG_tf, ↓bothG_ft, ↓bothG_ff, ↓reduceIte, ↓reduceDIte, reduceCtorEq, Nat.reduceAdd, Nat.reduceSub, Nat.reduceLeDiff, Nat.reduceLT, Nat.reduceEqDiff, Nat.reduceBEq, Nat.reduceMul, Int.reduceToNat, Int.reduceEq, Int.reduceLT, Int.reduceLE] <;> try simp only [bothG_t, bothG_f, decide_eq_true_eq, decide_eq_false_iff_not, Bool.not_eq_true', Bool.not_eq_false', Int.ofNat_lt, Int.ofNat_le]
  refine callI_pure (within_c _ _ (by simp)) ?_
  refine run_sound mixed 600 _ ?_
  simp (maxSteps := 3000000) only [go_sem, ↓bothG_tt, ↓bothG_tf, ↓bothG_ft, ↓bothG_ff, ↓reduceIte, ↓reduceDIte, reduceCtorEq, Nat.reduceAdd, Nat.reduceSub, Nat.reduceLeDiff, Nat.reduceLT, Nat.reduceEqDiff, Nat.reduceBEq, Nat.reduceMul, Int.reduceToNat, Int.reduceEq, Int.reduceLT, Int.reduceLE] <;> try simp only [bothG_t, bothG_f, decide_eq_true_eq, decide_eq_false_iff_not, Bool.not_eq_true', Bool.not_eq_false', Int.ofNat_lt, Int.ofNat_le]
  refine ⟨fun h8 => ?_, fun h8 => ?_⟩
  rotate_left
  · first | (simp only [vEnt, h8, Bool.false_and, Bool.and_false]; done) | simp [vEnt, h8]
  refine callI_hand 3 ?_
  simp (maxSteps := 3000000) only [go_sem, ↓bothG_tt, ↓bothG_tf, ↓bothG_ft, ↓bothG_ff, ↓reduceIte, ↓reduceDIte, reduceCtorEq, Nat.reduceAdd, Nat.reduceSub, Nat.reduceLeDiff, Nat.reduceLT, Nat.reduceEqDiff, Nat.reduceBEq, Nat.reduceMul, Int.reduceToNat, Int.reduceEq, Int.reduceLT, Int.reduceLE] <;> try simp only [bothG_t, bothG_f, decide_eq_true_eq, decide_eq_false_iff_not, Bool.not_eq_true', Bool.not_eq_false', Int.ofNat_lt, Int.ofNat_le]
  refine callI_pure (within_c _ _ (by simp)) ?_
  refine run_sound mixed 600 _ ?_
  simp (maxSteps := 3000000) only [go_sem, ↓bothG_tt, ↓bothG_tf, ↓bothG_ft, ↓bothG_ff, ↓reduceIte, ↓reduceDIte, reduceCtorEq, Nat.reduceAdd, Nat.reduceSub, Nat.reduceLeDiff, Nat.reduceLT, Nat.reduceEqDiff, Nat.reduceBEq, Nat.reduceMul, Int.reduceToNat, Int.reduceEq, Int.reduceLT, Int.reduceLE] <;> try simp only [bothG_t, bothG_f, decide_eq_true_eq, decide_eq_false_iff_not, Bool.not_eq_true', Bool.not_eq_false', Int.ofNat_lt, Int.ofNat_le]
  refine ⟨fun h9 => ?_, fun h9 => ?_⟩
  rotate_left
  · first | (simp only [vEnt, h9, Bool.false_and, Bool.and_false]; done) | simp [vEnt, h9]
  refine callI_hand 4 ?_
  simp (maxSteps := 3000000) only [go_sem, ↓bothG_tt, ↓bothG_tf, ↓bothG_ft, ↓bothG_ff, ↓reduceIte, ↓reduceDIte, reduceCtorEq, Nat.reduceAdd, Nat.reduceSub, Nat.reduceLeDiff, Nat.reduceLT, Nat.reduceEqDiff, Nat.reduceBEq, Nat.reduceMul, Int.reduceToNat, Int.reduceEq, Int.reduceLT, Int.reduceLE] <;> try simp only [bothG_t, bothG_f, decide_eq_true_eq, decide_eq_false_iff_not, Bool.not_eq_true', Bool.not_eq_false', Int.ofNat_lt, Int.ofNat_le]
  refine callI_pure (within_c _ _ (by simp)) ?_
  refine run_sound mixed 600 _ ?_
  simp (maxSteps := 3000000) only [go_sem, ↓bothG_tt, ↓bothG_tf, ↓bothG_ft, ↓bothG_ff, ↓reduceIte, ↓reduceDIte, reduceCtorEq, Nat.reduceAdd, Nat.reduceSub, Nat.reduceLeDiff, Nat.reduceLT, Nat.reduceEqDiff, Nat.reduceBEq, Nat.reduceMul, Int.reduceToNat, Int.reduceEq, Int.reduceLT, Int.reduceLE] <;> try simp only [bothG_t, bothG_f, decide_eq_true_eq, decide_eq_false_iff_not, Bool.not_eq_true', Bool.not_eq_false', Int.ofNat_lt, Int.ofNat_le]
  refine ⟨fun h10 => ?_, fun h10 => ?_⟩
  rotate_left
  · first | (simp only [vEnt, h10, Bool.false_and, Bool.and_false]; done) | simp [vEnt, h10]
  refine callI_pure (principals_c _ he.2.2.2.2.2.2.2.2.2.2.2.2.2.1) ?_
  refine run_sound mixed 600 _ ?_
  simp (maxSteps := 3000000) only [go_sem, ↓bothG_tt, ↓bothG_tf, ↓bothG_ft, ↓bothG_ff, ↓reduceIte, ↓reduceDIte, reduceCtorEq, Nat.reduceAdd, Nat.reduceSub, Nat.reduceLeDiff, Nat.reduceLT, Nat.reduceEqDiff, Nat.reduceBEq, Nat.reduceMul, Int.reduceToNat, Int.reduceEq, Int.reduceLT, Int.reduceLE] <;> try simp only [bothG_t, bothG_f, decide_eq_true_eq, decide_eq_false_iff_not, Bool.not_eq_true', Bool.not_eq_false', Int.ofNat_lt, Int.ofNat_le]
  refine ⟨fun h11 => ?_, fun h11 => ?_⟩
  rotate_left
  · first | (simp only [vEnt, vPrins, h11, Bool.false_and, Bool.and_false]; done) | simp [vEnt, vPrins, h11]
  refine callI_pure (principals_c _ he.2.2.2.2.2.2.2.2.2.2.2.2.2.2.1) ?_
  refine run_sound mixed 600 _ ?_
  simp (maxSteps := 3000000) only [go_sem, ↓bothG_tt, ↓bothG_tf, ↓bothG_ft, ↓bothG_ff, ↓reduceIte, ↓reduceDIte, reduceCtorEq, Nat.reduceAdd, Nat.reduceSub, Nat.reduceLeDiff, Nat.reduceLT, Nat.reduceEqDiff, Nat.reduceBEq, Nat.reduceMul, Int.reduceToNat, Int.reduceEq, Int.reduceLT, Int.reduceLE] <;> try simp only [bothG_t, bothG_f, decide_eq_true_eq, decide_eq_false_iff_not, Bool.not_eq_true', Bool.not_eq_false', Int.ofNat_lt, Int.ofNat_le]
  refine ⟨fun h12 => ?_, fun h12 => ?_⟩
  rotate_left
  · first | (simp only [vEnt, vPrins, h12, Bool.false_and, Bool.and_false]; done) | simp [vEnt, vPrins, h12]
  refine callI_at (every_bytes _ _ _ _ lenB _ he.2.2.2.2.2.2.2.2.2.2.2.2.2.2.2.1 (fun x _ G => (hist_k x).at _)) ?_
  refine run_sound mixed 600 _ ?_
  simp (maxSteps := 3000000) only [go_sem, ↓bothG_tt, ↓bothG_tf, ↓bothG_ft, ↓bothG_ff, ↓reduceIte, ↓reduceDIte, reduceCtorEq, Nat.reduceAdd, Nat.reduceSub, Nat.reduceLeDiff, Nat.reduceLT, Nat.reduceEqDiff, Nat.reduceBEq, Nat.reduceMul, Int.reduceToNat, Int.reduceEq, Int.reduceLT, Int.reduceLE] <;> try simp only [bothG_t, bothG_f, decide_eq_true_eq, decide_eq_false_iff_not, Bool.not_eq_true', Bool.not_eq_false', Int.ofNat_lt, Int.ofNat_le]
  simp only [vEnt, vText, vPrins, ht, h4, h5, h6, h7, h8, h9, h10, h11, h12, Bool.true_and]
end Go.Proofs.YtddmkgibghohkaaGreatDoor
