/- Contracts: the encoding of integers, times, strings, keys. -/
import Derived.Test.YtddmkgibghohkaaGreatDoorP17
import Derived.Test.YtddmkgibghohkaaGreatDoorP16
set_option linter.unusedSimpArgs false
set_option linter.unusedVariables false
namespace Go.Proofs.YtddmkgibghohkaaGreatDoor
open Go Go.Sx Go.Proofs
set_option maxRecDepth 100000
set_option maxHeartbeats 4000000
set_option linter.unusedSimpArgs false

def byteAt (v : Int) (k : Nat) : UInt8 := byteOf (v.fdiv (2 ^ min (8 * k) 64))
def numN (v : Int) (size i : Nat) : List UInt8 := (List.range size).map fun j => if size - 1 - j < i then byteAt v (size - 1 - j) else 0
def numS (v : Int) (size : Nat) : List UInt8 := (List.range size).map fun j => byteAt v (size - 1 - j)
theorem numN_zero (v : Int) (size : Nat) : List.replicate size (0 : UInt8) = numN v size 0 := by
  apply List.ext_getElem
  · simp [numN]
  · intro j h1 h2; simp [numN]
theorem numN_all (v : Int) (size : Nat) : numN v size size = numS v size := by
  apply List.ext_getElem
  · simp [numN, numS]
  · intro j h1 h2
    simp [numN, numS]
    simp [numN] at h1
    intro h; omega
theorem numN_set {v : Int} {size i : Nat} (h : i < size) : (numN v size i).set (size - 1 - i) (byteAt v i) = numN v size (i + 1) := by
  apply List.ext_getElem
  · simp [numN]
  · intro j h1 h2
    simp [numN] at h2
    simp only [numN, List.getElem_set, List.getElem_map, List.getElem_range]
    split
    · rename_i e
      have : size - 1 - j = i := by omega
      rw [this, if_pos (by omega)]
    · rename_i e
      by_cases h3 : size - 1 - j < i
      · rw [if_pos h3, if_pos (by omega)]
      · rw [if_neg h3, if_neg (by omega)]
theorem number_c (v : Int) (size : Nat) (hs : size ≤ 64) : PC Tryz.prog 210 [rI v, rI size] (.isl .u8 (numS v size)) := by
  refine pc_seal rfl rfl ?_
  refine vc_fi fi210 (run_sound mixed 600 _ ?_)
  simp (maxSteps := 3000000) only [ir210, go_sem, ↓bothG_tt, ↓bothG_tf, ↓bothG_ft, ↓bothG_ff, ↓reduceIte, ↓reduceDIte, reduceCtorEq, Nat.reduceAdd, Nat.reduceSub, Nat.reduceLeDiff, Nat.reduceLT, Nat.reduceEqDiff, Nat.reduceBEq, Nat.reduceMul, Int.reduceToNat, Int.reduceEq, Int.reduceLT, Int.reduceLE] <;> try simp only [bothG_t, bothG_f, decide_eq_true_eq, decide_eq_false_iff_not, Bool.not_eq_true', Bool.not_eq_false', Int.ofNat_lt, Int.ofNat_le]
  refine ⟨by omega, ?_⟩
  refine si_loopX (ι := Nat) (fun i => [(11, rI i)]) (fun i => [.row .u8 (numN v size i)]) (fun i => size - i) (fun i => i ≤ size) 0 (Nat.zero_le _) (by rw [← numN_zero]; rfl) ?_ ?_
  · simp (maxSteps := 3000000) only [go_sem, ↓bothG_tt, ↓bothG_tf, ↓bothG_ft, ↓bothG_ff, ↓reduceIte, ↓reduceDIte, reduceCtorEq, Nat.reduceAdd, Nat.reduceSub, Nat.reduceLeDiff, Nat.reduceLT, Nat.reduceEqDiff, Nat.reduceBEq, Nat.reduceMul, Int.reduceToNat, Int.reduceEq, Int.reduceLT, Int.reduceLE] <;> try simp only [bothG_t, bothG_f, decide_eq_true_eq, decide_eq_false_iff_not, Bool.not_eq_true', Bool.not_eq_false', Int.ofNat_lt, Int.ofNat_le]
  intro i hi
  have w3 : IntKind.i64.wrap (8 * (i : Int)) = ((8 * i : Nat) : Int) := by rw [wrapi (by omega)]; rfl
  have hwr : IntKind.i64.wrap ((i : Int) + 1) = ((i + 1 : Nat) : Int) := wrap_succ (by omega)
  have hln : (numN v size i).length = size := by simp [numN]
  by_cases hlt : i < size
  · have w1 : IntKind.i64.wrap ((size : Int) - 1) = ((size - 1 : Nat) : Int) := by rw [wrapi (by omega)]; omega
    have w2 : IntKind.i64.wrap (((size - 1 : Nat) : Int) - (i : Int)) = ((size - 1 - i : Nat) : Int) := by rw [wrapi (by omega)]; omega
    refine run_sound mixed 600 _ ?_
    simp (maxSteps := 3000000) only [w1, w2, w3, hln, go_sem, ↓bothG_tt, ↓bothG_tf, ↓bothG_ft, ↓bothG_ff, ↓reduceIte, ↓reduceDIte, reduceCtorEq, Nat.reduceAdd, Nat.reduceSub, Nat.reduceLeDiff, Nat.reduceLT, Nat.reduceEqDiff, Nat.reduceBEq, Nat.reduceMul, Int.reduceToNat, Int.reduceEq, Int.reduceLT, Int.reduceLE] <;> try simp only [bothG_t, bothG_f, decide_eq_true_eq, decide_eq_false_iff_not, Bool.not_eq_true', Bool.not_eq_false', Int.ofNat_lt, Int.ofNat_le]
    refine ⟨fun _ => ⟨by omega, ⟨by omega, by omega⟩, ⟨by omega, byte_ob _⟩, i + 1, hlt, by dsimp only; omega, ?_, ?_⟩, fun h => absurd hlt h⟩
    · dsimp only; rw [← numN_set hlt, Nat.zero_add]; rfl
    · simp (maxSteps := 3000000) only [hwr, go_sem, ↓bothG_tt, ↓bothG_tf, ↓bothG_ft, ↓bothG_ff, ↓reduceIte, ↓reduceDIte, reduceCtorEq, Nat.reduceAdd, Nat.reduceSub, Nat.reduceLeDiff, Nat.reduceLT, Nat.reduceEqDiff, Nat.reduceBEq, Nat.reduceMul, Int.reduceToNat, Int.reduceEq, Int.reduceLT, Int.reduceLE] <;> try simp only [bothG_t, bothG_f, decide_eq_true_eq, decide_eq_false_iff_not, Bool.not_eq_true', Bool.not_eq_false', Int.ofNat_lt, Int.ofNat_le]
  · refine run_sound mixed 600 _ ?_
    simp (maxSteps := 3000000) only [hln, go_sem, ↓bothG_tt, ↓bothG_tf, ↓bothG_ft, ↓bothG_ff, ↓reduceIte, ↓reduceDIte, reduceCtorEq, Nat.reduceAdd, Nat.reduceSub, Nat.reduceLeDiff, Nat.reduceLT, Nat.reduceEqDiff, Nat.reduceBEq, Nat.reduceMul, Int.reduceToNat, Int.reduceEq, Int.reduceLT, Int.reduceLE] <;> try simp only [bothG_t, bothG_f, decide_eq_true_eq, decide_eq_false_iff_not, Bool.not_eq_true', Bool.not_eq_false', Int.ofNat_lt, Int.ofNat_le]
    refine ⟨fun h => absurd h hlt, fun _ => ⟨⟨by omega, by omega⟩, ?_⟩⟩
    obtain rfl : i = size := by omega
    rw [numN_all, List.take_of_length_le (by simp [numS])]
theorem element_k (tag : UInt8) (n : Int) (hn : n = tag.toNat) (parts : List (List UInt8)) (hp : parts.length ≤ 1125899906842624) : PC Tryz.prog 195 [.raw (.int .u8 n), .isl (.slice .u8) parts] (.isl .u8 (elemS tag parts)) := by
  subst hn; exact element_c tag parts hp

/-! ### Integers -/
def restN (v : Int) : Nat → Int
  | 0 => v
  | k + 1 => (restN v k).fdiv 256
def firstN (n : Nat) (q : Nat → Bool) : Option Nat := (List.range n).find? q
theorem firstN_some {n i : Nat} {q : Nat → Bool} (hi : i < n) (hq : q i = true) (hn : ∀ j, j < i → q j = false) : firstN n q = some i := by
  unfold firstN
  rw [List.find?_range_eq_some]
  exact ⟨hq, by simpa using hi, fun j hj => by rw [hn j hj]; rfl⟩
theorem firstN_none {n : Nat} {q : Nat → Bool} (hn : ∀ j, j < n → q j = false) : firstN n q = none := by
  unfold firstN
  rw [List.find?_range_eq_none]
  exact fun j hj => by rw [hn j hj]; rfl
theorem firstN_spec {n i : Nat} {q : Nat → Bool} (h : firstN n q = some i) : i < n ∧ q i = true ∧ ∀ j, j < i → q j = false := by
  unfold firstN at h
  rw [List.find?_range_eq_some] at h
  exact ⟨by simpa using h.2.1, h.1, fun j hj => by simpa using h.2.2 j hj⟩
def oneB (v : Int) (k : Nat) : Bool := decide (-128 ≤ restN v k) && decide (restN v k ≤ 127)
def intSz (v : Int) : Nat := 1 + (firstN 9 (oneB v)).getD 0
def intS (v : Int) : List UInt8 := if -4611686018427387904 ≤ v ∧ v ≤ 4611686018427387904 then elemS 2 [numS v (intSz v)] else []
theorem fdiv256 (r : Int) : r.fdiv 256 = r / 256 := Int.fdiv_eq_ediv_of_nonneg r (by decide)
theorem rest8 {v : Int} (h1 : -4611686018427387904 ≤ v) (h2 : v ≤ 4611686018427387904) : oneB v 8 = true := by
  simp only [oneB, restN, fdiv256, Bool.and_eq_true, decide_eq_true_eq]
  omega
theorem integer_c (v : Int) : PC Tryz.prog 196 [rI v] (.isl .u8 (intS v)) := by
  refine pc_seal rfl rfl ?_
  refine vc_fi fi196 (run_sound mixed 600 _ ?_)
  simp (maxSteps := 3000000) only [ir196, go_sem, ↓bothG_tt, ↓bothG_tf, ↓bothG_ft, ↓bothG_ff, ↓reduceIte, ↓reduceDIte, reduceCtorEq, Nat.reduceAdd, Nat.reduceSub, Nat.reduceLeDiff, Nat.reduceLT, Nat.reduceEqDiff, Nat.reduceBEq, Nat.reduceMul, Int.reduceToNat, Int.reduceEq, Int.reduceLT, Int.reduceLE] <;> try simp only [bothG_t, bothG_f, decide_eq_true_eq, decide_eq_false_iff_not, Bool.not_eq_true', Bool.not_eq_false', Int.ofNat_lt, Int.ofNat_le]
  repeat' (first
    | (with_reducible refine And.intro ?_ ?_)
    | (with_reducible intro _))
  all_goals (skip)
  · unfold intS; rw [if_neg (by omega)]
  rotate_left
  · unfold intS; rw [if_neg (by omega)]
  rename_i h1 h2
  have h8 := rest8 (v := v) (by omega) (by omega)
  refine si_loopX (ι := Nat) (fun k => [(3, rI ((1 + k : Nat) : Int)), (4, rI (restN v k))]) (fun _ => []) (fun k => 9 - k) (fun k => k ≤ 8 ∧ ∀ j, j < k → oneB v j = false) 0 ⟨by omega, fun j hj => absurd hj (by omega)⟩ rfl ?_ ?_
  · simp (maxSteps := 3000000) only [restN, go_sem, ↓bothG_tt, ↓bothG_tf, ↓bothG_ft, ↓bothG_ff, ↓reduceIte, ↓reduceDIte, reduceCtorEq, Nat.reduceAdd, Nat.reduceSub, Nat.reduceLeDiff, Nat.reduceLT, Nat.reduceEqDiff, Nat.reduceBEq, Nat.reduceMul, Int.reduceToNat, Int.reduceEq, Int.reduceLT, Int.reduceLE] <;> try simp only [bothG_t, bothG_f, decide_eq_true_eq, decide_eq_false_iff_not, Bool.not_eq_true', Bool.not_eq_false', Int.ofNat_lt, Int.ofNat_le]
    rfl
  rintro k ⟨hk, hall⟩
  have hwr : IntKind.i64.wrap (((1 + k : Nat) : Int) + 1) = ((1 + (k + 1) : Nat) : Int) := by rw [wrapi (by omega)]; omega
  refine run_sound mixed 600 _ ?_
  simp (maxSteps := 3000000) only [hwr, go_sem, ↓bothG_tt, ↓bothG_tf, ↓bothG_ft, ↓bothG_ff, ↓reduceIte, ↓reduceDIte, reduceCtorEq, Nat.reduceAdd, Nat.reduceSub, Nat.reduceLeDiff, Nat.reduceLT, Nat.reduceEqDiff, Nat.reduceBEq, Nat.reduceMul, Int.reduceToNat, Int.reduceEq, Int.reduceLT, Int.reduceLE] <;> try simp only [bothG_t, bothG_f, decide_eq_true_eq, decide_eq_false_iff_not, Bool.not_eq_true', Bool.not_eq_false', Int.ofNat_lt, Int.ofNat_le]
  have hp : (2 : Int) ^ min 8 64 = 256 := by decide
  refine ⟨fun h3 => ⟨fun h4 => ?_, fun h4 => ?_⟩, fun h3 => ?_⟩
  · have ho : oneB v k = false := by simp [oneB]; omega
    have hk8 : k ≠ 8 := fun e => by subst e; rw [h8] at ho; cases ho
    refine ⟨k + 1, ⟨by omega, next_all hall ho⟩, by dsimp only; omega, rfl, ?_⟩
    simp (maxSteps := 3000000) only [restN, hp, go_sem, ↓bothG_tt, ↓bothG_tf, ↓bothG_ft, ↓bothG_ff, ↓reduceIte, ↓reduceDIte, reduceCtorEq, Nat.reduceAdd, Nat.reduceSub, Nat.reduceLeDiff, Nat.reduceLT, Nat.reduceEqDiff, Nat.reduceBEq, Nat.reduceMul, Int.reduceToNat, Int.reduceEq, Int.reduceLT, Int.reduceLE] <;> try simp only [bothG_t, bothG_f, decide_eq_true_eq, decide_eq_false_iff_not, Bool.not_eq_true', Bool.not_eq_false', Int.ofNat_lt, Int.ofNat_le]
  · have ho : oneB v k = true := by simp [oneB]; omega
    have hz : intSz v = 1 + k := by unfold intSz; rw [firstN_some (by omega) ho hall]; rfl
    refine callI_pure (number_c v (1 + k) (by omega)) ?_
    refine run_sound mixed 600 _ ?_
    simp (maxSteps := 3000000) only [go_sem, ↓bothG_tt, ↓bothG_tf, ↓bothG_ft, ↓bothG_ff, ↓reduceIte, ↓reduceDIte, reduceCtorEq, Nat.reduceAdd, Nat.reduceSub, Nat.reduceLeDiff, Nat.reduceLT, Nat.reduceEqDiff, Nat.reduceBEq, Nat.reduceMul, Int.reduceToNat, Int.reduceEq, Int.reduceLT, Int.reduceLE] <;> try simp only [bothG_t, bothG_f, decide_eq_true_eq, decide_eq_false_iff_not, Bool.not_eq_true', Bool.not_eq_false', Int.ofNat_lt, Int.ofNat_le]
    refine callI_hand 0 ?_
    simp (maxSteps := 3000000) only [go_sem, ↓bothG_tt, ↓bothG_tf, ↓bothG_ft, ↓bothG_ff, ↓reduceIte, ↓reduceDIte, reduceCtorEq, Nat.reduceAdd, Nat.reduceSub, Nat.reduceLeDiff, Nat.reduceLT, Nat.reduceEqDiff, Nat.reduceBEq, Nat.reduceMul, Int.reduceToNat, Int.reduceEq, Int.reduceLT, Int.reduceLE] <;> try simp only [bothG_t, bothG_f, decide_eq_true_eq, decide_eq_false_iff_not, Bool.not_eq_true', Bool.not_eq_false', Int.ofNat_lt, Int.ofNat_le]
    refine callI_pure (element_k 2 2 rfl _ (by simp)) ?_
    refine run_sound mixed 600 _ ?_
    simp (maxSteps := 3000000) only [go_sem, ↓bothG_tt, ↓bothG_tf, ↓bothG_ft, ↓bothG_ff, ↓reduceIte, ↓reduceDIte, reduceCtorEq, Nat.reduceAdd, Nat.reduceSub, Nat.reduceLeDiff, Nat.reduceLT, Nat.reduceEqDiff, Nat.reduceBEq, Nat.reduceMul, Int.reduceToNat, Int.reduceEq, Int.reduceLT, Int.reduceLE] <;> try simp only [bothG_t, bothG_f, decide_eq_true_eq, decide_eq_false_iff_not, Bool.not_eq_true', Bool.not_eq_false', Int.ofNat_lt, Int.ofNat_le]
    unfold intS
    rw [if_pos (by omega), hz]
  · have ho : oneB v k = false := by simp [oneB]; omega
    have hk8 : k ≠ 8 := fun e => by subst e; rw [h8] at ho; cases ho
    refine ⟨k + 1, ⟨by omega, next_all hall ho⟩, by dsimp only; omega, rfl, ?_⟩
    simp (maxSteps := 3000000) only [restN, hp, go_sem, ↓bothG_tt, ↓bothG_tf, ↓bothG_ft, ↓bothG_ff, ↓reduceIte, ↓reduceDIte, reduceCtorEq, Nat.reduceAdd, Nat.reduceSub, Nat.reduceLeDiff, Nat.reduceLT, Nat.reduceEqDiff, Nat.reduceBEq, Nat.reduceMul, Int.reduceToNat, Int.reduceEq, Int.reduceLT, Int.reduceLE] <;> try simp only [bothG_t, bothG_f, decide_eq_true_eq, decide_eq_false_iff_not, Bool.not_eq_true', Bool.not_eq_false', Int.ofNat_lt, Int.ofNat_le]
theorem octets_c (b : List UInt8) : PC Tryz.prog 164 [.isl .u8 b] (.isl .u8 (elemS 4 [b])) := by
  refine pc_seal rfl rfl ?_
  refine vc_fi fi164 (run_sound mixed 600 _ ?_)
  simp (maxSteps := 3000000) only [ir164, go_sem, ↓bothG_tt, ↓bothG_tf, ↓bothG_ft, ↓bothG_ff, ↓reduceIte, ↓reduceDIte, reduceCtorEq, Nat.reduceAdd, Nat.reduceSub, Nat.reduceLeDiff, Nat.reduceLT, Nat.reduceEqDiff, Nat.reduceBEq, Nat.reduceMul, Int.reduceToNat, Int.reduceEq, Int.reduceLT, Int.reduceLE] <;> try simp only [bothG_t, bothG_f, decide_eq_true_eq, decide_eq_false_iff_not, Bool.not_eq_true', Bool.not_eq_false', Int.ofNat_lt, Int.ofNat_le]
  refine callI_hand 0 ?_
  simp (maxSteps := 3000000) only [go_sem, ↓bothG_tt, ↓bothG_tf, ↓bothG_ft, ↓bothG_ff, ↓reduceIte, ↓reduceDIte, reduceCtorEq, Nat.reduceAdd, Nat.reduceSub, Nat.reduceLeDiff, Nat.reduceLT, Nat.reduceEqDiff, Nat.reduceBEq, Nat.reduceMul, Int.reduceToNat, Int.reduceEq, Int.reduceLT, Int.reduceLE] <;> try simp only [bothG_t, bothG_f, decide_eq_true_eq, decide_eq_false_iff_not, Bool.not_eq_true', Bool.not_eq_false', Int.ofNat_lt, Int.ofNat_le]
  refine callI_pure (element_k 4 4 rfl _ (by simp)) ?_
  refine run_sound mixed 600 _ ?_
  simp (maxSteps := 3000000) only [go_sem, ↓bothG_tt, ↓bothG_tf, ↓bothG_ft, ↓bothG_ff, ↓reduceIte, ↓reduceDIte, reduceCtorEq, Nat.reduceAdd, Nat.reduceSub, Nat.reduceLeDiff, Nat.reduceLT, Nat.reduceEqDiff, Nat.reduceBEq, Nat.reduceMul, Int.reduceToNat, Int.reduceEq, Int.reduceLT, Int.reduceLE] <;> try simp only [bothG_t, bothG_f, decide_eq_true_eq, decide_eq_false_iff_not, Bool.not_eq_true', Bool.not_eq_false', Int.ofNat_lt, Int.ofNat_le]
def timeS (t : Int) : List UInt8 := if 0 ≤ t ∧ t ≤ 1099511627776 then elemS 24 [numS t 6] else []
theorem time_c (t : Int) : PC Tryz.prog 213 [rI t] (.isl .u8 (timeS t)) := by
  refine pc_seal rfl rfl ?_
  refine vc_fi fi213 (run_sound mixed 600 _ ?_)
  simp (maxSteps := 3000000) only [ir213, go_sem, ↓bothG_tt, ↓bothG_tf, ↓bothG_ft, ↓bothG_ff, ↓reduceIte, ↓reduceDIte, reduceCtorEq, Nat.reduceAdd, Nat.reduceSub, Nat.reduceLeDiff, Nat.reduceLT, Nat.reduceEqDiff, Nat.reduceBEq, Nat.reduceMul, Int.reduceToNat, Int.reduceEq, Int.reduceLT, Int.reduceLE] <;> try simp only [bothG_t, bothG_f, decide_eq_true_eq, decide_eq_false_iff_not, Bool.not_eq_true', Bool.not_eq_false', Int.ofNat_lt, Int.ofNat_le]
  refine ⟨fun h1 => ⟨fun h2 => ?_, fun h2 => ?_⟩, fun h1 => ?_⟩
  · unfold timeS; rw [if_neg (by omega)]
  · refine callI_pure (number_c t 6 (by omega)) ?_
    refine run_sound mixed 600 _ ?_
    simp (maxSteps := 3000000) only [go_sem, ↓bothG_tt, ↓bothG_tf, ↓bothG_ft, ↓bothG_ff, ↓reduceIte, ↓reduceDIte, reduceCtorEq, Nat.reduceAdd, Nat.reduceSub, Nat.reduceLeDiff, Nat.reduceLT, Nat.reduceEqDiff, Nat.reduceBEq, Nat.reduceMul, Int.reduceToNat, Int.reduceEq, Int.reduceLT, Int.reduceLE] <;> try simp only [bothG_t, bothG_f, decide_eq_true_eq, decide_eq_false_iff_not, Bool.not_eq_true', Bool.not_eq_false', Int.ofNat_lt, Int.ofNat_le]
    refine callI_hand 0 ?_
    simp (maxSteps := 3000000) only [go_sem, ↓bothG_tt, ↓bothG_tf, ↓bothG_ft, ↓bothG_ff, ↓reduceIte, ↓reduceDIte, reduceCtorEq, Nat.reduceAdd, Nat.reduceSub, Nat.reduceLeDiff, Nat.reduceLT, Nat.reduceEqDiff, Nat.reduceBEq, Nat.reduceMul, Int.reduceToNat, Int.reduceEq, Int.reduceLT, Int.reduceLE] <;> try simp only [bothG_t, bothG_f, decide_eq_true_eq, decide_eq_false_iff_not, Bool.not_eq_true', Bool.not_eq_false', Int.ofNat_lt, Int.ofNat_le]
    refine callI_pure (element_k 24 24 rfl _ (by simp)) ?_
    refine run_sound mixed 600 _ ?_
    simp (maxSteps := 3000000) only [go_sem, ↓bothG_tt, ↓bothG_tf, ↓bothG_ft, ↓bothG_ff, ↓reduceIte, ↓reduceDIte, reduceCtorEq, Nat.reduceAdd, Nat.reduceSub, Nat.reduceLeDiff, Nat.reduceLT, Nat.reduceEqDiff, Nat.reduceBEq, Nat.reduceMul, Int.reduceToNat, Int.reduceEq, Int.reduceLT, Int.reduceLE] <;> try simp only [bothG_t, bothG_f, decide_eq_true_eq, decide_eq_false_iff_not, Bool.not_eq_true', Bool.not_eq_false', Int.ofNat_lt, Int.ofNat_le]
    unfold timeS; rw [if_pos (by omega)]
  · unfold timeS; rw [if_neg (by omega)]
theorem sequence_c (l : List (List UInt8)) (hl : l.length ≤ 1125899906842624) : PC Tryz.prog 133 [.isl (.slice .u8) l] (.isl .u8 (elemS 48 l)) := by
  refine pc_seal rfl rfl ?_
  refine vc_fi fi133 (run_sound mixed 600 _ ?_)
  simp (maxSteps := 3000000) only [ir133, go_sem, ↓bothG_tt, ↓bothG_tf, ↓bothG_ft, ↓bothG_ff, ↓reduceIte, ↓reduceDIte, reduceCtorEq, Nat.reduceAdd, Nat.reduceSub, Nat.reduceLeDiff, Nat.reduceLT, Nat.reduceEqDiff, Nat.reduceBEq, Nat.reduceMul, Int.reduceToNat, Int.reduceEq, Int.reduceLT, Int.reduceLE] <;> try simp only [bothG_t, bothG_f, decide_eq_true_eq, decide_eq_false_iff_not, Bool.not_eq_true', Bool.not_eq_false', Int.ofNat_lt, Int.ofNat_le]
  refine callI_pure (element_k 48 48 rfl _ hl) ?_
  refine run_sound mixed 600 _ ?_
  simp (maxSteps := 3000000) only [go_sem, ↓bothG_tt, ↓bothG_tf, ↓bothG_ft, ↓bothG_ff, ↓reduceIte, ↓reduceDIte, reduceCtorEq, Nat.reduceAdd, Nat.reduceSub, Nat.reduceLeDiff, Nat.reduceLT, Nat.reduceEqDiff, Nat.reduceBEq, Nat.reduceMul, Int.reduceToNat, Int.reduceEq, Int.reduceLT, Int.reduceLE] <;> try simp only [bothG_t, bothG_f, decide_eq_true_eq, decide_eq_false_iff_not, Bool.not_eq_true', Bool.not_eq_false', Int.ofNat_lt, Int.ofNat_le]
def wrapS (tag n : Int) (b : List UInt8) : List UInt8 := if 0 ≤ n ∧ n ≤ 30 ∧ b ≠ [] then elemS (byteOf (tag + n)) [b] else []
theorem wrapped_c (tag n : Int) (b : List UInt8) (ht : 0 ≤ tag ∧ tag ≤ 1000) : PC Tryz.prog 249 [rI tag, rI n, .isl .u8 b] (.isl .u8 (wrapS tag n b)) := by
  refine pc_seal rfl rfl ?_
  refine vc_fi fi249 (run_sound mixed 600 _ ?_)
  simp (maxSteps := 3000000) only [ir249, go_sem, ↓bothG_tt, ↓bothG_tf, ↓bothG_ft, ↓bothG_ff, ↓reduceIte, ↓reduceDIte, reduceCtorEq, Nat.reduceAdd, Nat.reduceSub, Nat.reduceLeDiff, Nat.reduceLT, Nat.reduceEqDiff, Nat.reduceBEq, Nat.reduceMul, Int.reduceToNat, Int.reduceEq, Int.reduceLT, Int.reduceLE] <;> try simp only [bothG_t, bothG_f, decide_eq_true_eq, decide_eq_false_iff_not, Bool.not_eq_true', Bool.not_eq_false', Int.ofNat_lt, Int.ofNat_le]
  refine ⟨fun h1 => ⟨fun h2 => ⟨fun h3 => ?_, fun h3 => ?_⟩, fun h2 => ?_⟩, fun h1 => ?_⟩
  · unfold wrapS; rw [if_neg (fun h => h.2.2 (List.length_eq_zero_iff.1 (by omega)))]
  · refine callI_hand 0 ?_
    simp (maxSteps := 3000000) only [go_sem, ↓bothG_tt, ↓bothG_tf, ↓bothG_ft, ↓bothG_ff, ↓reduceIte, ↓reduceDIte, reduceCtorEq, Nat.reduceAdd, Nat.reduceSub, Nat.reduceLeDiff, Nat.reduceLT, Nat.reduceEqDiff, Nat.reduceBEq, Nat.reduceMul, Int.reduceToNat, Int.reduceEq, Int.reduceLT, Int.reduceLE] <;> try simp only [bothG_t, bothG_f, decide_eq_true_eq, decide_eq_false_iff_not, Bool.not_eq_true', Bool.not_eq_false', Int.ofNat_lt, Int.ofNat_le]
    refine callI_pure (element_k (byteOf (tag + n)) _ ?_ _ (by simp)) ?_
    · rw [wrapi (by omega)]; exact (byte_ob _).symm
    refine run_sound mixed 600 _ ?_
    simp (maxSteps := 3000000) only [go_sem, ↓bothG_tt, ↓bothG_tf, ↓bothG_ft, ↓bothG_ff, ↓reduceIte, ↓reduceDIte, reduceCtorEq, Nat.reduceAdd, Nat.reduceSub, Nat.reduceLeDiff, Nat.reduceLT, Nat.reduceEqDiff, Nat.reduceBEq, Nat.reduceMul, Int.reduceToNat, Int.reduceEq, Int.reduceLT, Int.reduceLE] <;> try simp only [bothG_t, bothG_f, decide_eq_true_eq, decide_eq_false_iff_not, Bool.not_eq_true', Bool.not_eq_false', Int.ofNat_lt, Int.ofNat_le]
    unfold wrapS
    rw [if_pos ⟨by omega, by omega, fun e => h3 (by rw [e]; rfl)⟩]
  · unfold wrapS; rw [if_neg (by omega)]
  · unfold wrapS; rw [if_neg (by omega)]
theorem tagged_c (n : Int) (b : List UInt8) : PC Tryz.prog 208 [rI n, .isl .u8 b] (.isl .u8 (wrapS 160 n b)) := by
  refine pc_seal rfl rfl ?_
  refine vc_fi fi208 (run_sound mixed 600 _ ?_)
  simp (maxSteps := 3000000) only [ir208, go_sem, ↓bothG_tt, ↓bothG_tf, ↓bothG_ft, ↓bothG_ff, ↓reduceIte, ↓reduceDIte, reduceCtorEq, Nat.reduceAdd, Nat.reduceSub, Nat.reduceLeDiff, Nat.reduceLT, Nat.reduceEqDiff, Nat.reduceBEq, Nat.reduceMul, Int.reduceToNat, Int.reduceEq, Int.reduceLT, Int.reduceLE] <;> try simp only [bothG_t, bothG_f, decide_eq_true_eq, decide_eq_false_iff_not, Bool.not_eq_true', Bool.not_eq_false', Int.ofNat_lt, Int.ofNat_le]
  refine callI_pure (wrapped_c 160 n b (by omega)) ?_
  refine run_sound mixed 600 _ ?_
  simp (maxSteps := 3000000) only [go_sem, ↓bothG_tt, ↓bothG_tf, ↓bothG_ft, ↓bothG_ff, ↓reduceIte, ↓reduceDIte, reduceCtorEq, Nat.reduceAdd, Nat.reduceSub, Nat.reduceLeDiff, Nat.reduceLT, Nat.reduceEqDiff, Nat.reduceBEq, Nat.reduceMul, Int.reduceToNat, Int.reduceEq, Int.reduceLT, Int.reduceLE] <;> try simp only [bothG_t, bothG_f, decide_eq_true_eq, decide_eq_false_iff_not, Bool.not_eq_true', Bool.not_eq_false', Int.ofNat_lt, Int.ofNat_le]
def bitsS (f : Int) : List UInt8 := elemS 3 [[0], numS f 4]
theorem bits_c (f : Int) (hf : 0 ≤ f ∧ f ≤ 4294967295) : PC Tryz.prog 157 [.raw (.int .u32 f)] (.isl .u8 (bitsS f)) := by
  refine pc_seal rfl rfl ?_
  refine vc_fi fi157 (run_sound mixed 600 _ ?_)
  simp (maxSteps := 3000000) only [ir157, go_sem, ↓bothG_tt, ↓bothG_tf, ↓bothG_ft, ↓bothG_ff, ↓reduceIte, ↓reduceDIte, reduceCtorEq, Nat.reduceAdd, Nat.reduceSub, Nat.reduceLeDiff, Nat.reduceLT, Nat.reduceEqDiff, Nat.reduceBEq, Nat.reduceMul, Int.reduceToNat, Int.reduceEq, Int.reduceLT, Int.reduceLE] <;> try simp only [bothG_t, bothG_f, decide_eq_true_eq, decide_eq_false_iff_not, Bool.not_eq_true', Bool.not_eq_false', Int.ofNat_lt, Int.ofNat_le]
  rw [wrapi (by omega)]
  refine ⟨by simp, callI_pure (number_c f 4 (by omega)) ?_⟩
  simp (maxSteps := 3000000) only [go_sem, ↓bothG_tt, ↓bothG_tf, ↓bothG_ft, ↓bothG_ff, ↓reduceIte, ↓reduceDIte, reduceCtorEq, Nat.reduceAdd, Nat.reduceSub, Nat.reduceLeDiff, Nat.reduceLT, Nat.reduceEqDiff, Nat.reduceBEq, Nat.reduceMul, Int.reduceToNat, Int.reduceEq, Int.reduceLT, Int.reduceLE] <;> try simp only [bothG_t, bothG_f, decide_eq_true_eq, decide_eq_false_iff_not, Bool.not_eq_true', Bool.not_eq_false', Int.ofNat_lt, Int.ofNat_le]
  refine si_freeze 0 rfl rfl (by simp) ?_ ?_ ?_
  · simp (maxSteps := 3000000) only [go_sem, ↓bothG_tt, ↓bothG_tf, ↓bothG_ft, ↓bothG_ff, ↓reduceIte, ↓reduceDIte, reduceCtorEq, Nat.reduceAdd, Nat.reduceSub, Nat.reduceLeDiff, Nat.reduceLT, Nat.reduceEqDiff, Nat.reduceBEq, Nat.reduceMul, Int.reduceToNat, Int.reduceEq, Int.reduceLT, Int.reduceLE] <;> try simp only [bothG_t, bothG_f, decide_eq_true_eq, decide_eq_false_iff_not, Bool.not_eq_true', Bool.not_eq_false', Int.ofNat_lt, Int.ofNat_le]
  · simp (maxSteps := 3000000) only [go_sem, ↓bothG_tt, ↓bothG_tf, ↓bothG_ft, ↓bothG_ff, ↓reduceIte, ↓reduceDIte, reduceCtorEq, Nat.reduceAdd, Nat.reduceSub, Nat.reduceLeDiff, Nat.reduceLT, Nat.reduceEqDiff, Nat.reduceBEq, Nat.reduceMul, Int.reduceToNat, Int.reduceEq, Int.reduceLT, Int.reduceLE] <;> try simp only [bothG_t, bothG_f, decide_eq_true_eq, decide_eq_false_iff_not, Bool.not_eq_true', Bool.not_eq_false', Int.ofNat_lt, Int.ofNat_le]
  simp (maxSteps := 3000000) only [go_sem, ↓bothG_tt, ↓bothG_tf, ↓bothG_ft, ↓bothG_ff, ↓reduceIte, ↓reduceDIte, reduceCtorEq, Nat.reduceAdd, Nat.reduceSub, Nat.reduceLeDiff, Nat.reduceLT, Nat.reduceEqDiff, Nat.reduceBEq, Nat.reduceMul, Int.reduceToNat, Int.reduceEq, Int.reduceLT, Int.reduceLE] <;> try simp only [bothG_t, bothG_f, decide_eq_true_eq, decide_eq_false_iff_not, Bool.not_eq_true', Bool.not_eq_false', Int.ofNat_lt, Int.ofNat_le]
  refine run_sound mixed 600 _ ?_
  simp (maxSteps := 3000000) only [go_sem, ↓bothG_tt, ↓bothG_tf, ↓bothG_ft, ↓bothG_ff, ↓reduceIte, ↓reduceDIte, reduceCtorEq, Nat.reduceAdd, Nat.reduceSub, Nat.reduceLeDiff, Nat.reduceLT, Nat.reduceEqDiff, Nat.reduceBEq, Nat.reduceMul, Int.reduceToNat, Int.reduceEq, Int.reduceLT, Int.reduceLE] <;> try simp only [bothG_t, bothG_f, decide_eq_true_eq, decide_eq_false_iff_not, Bool.not_eq_true', Bool.not_eq_false', Int.ofNat_lt, Int.ofNat_le]
  refine callI_hand 1 ?_
  simp (maxSteps := 3000000) only [go_sem, ↓bothG_tt, ↓bothG_tf, ↓bothG_ft, ↓bothG_ff, ↓reduceIte, ↓reduceDIte, reduceCtorEq, Nat.reduceAdd, Nat.reduceSub, Nat.reduceLeDiff, Nat.reduceLT, Nat.reduceEqDiff, Nat.reduceBEq, Nat.reduceMul, Int.reduceToNat, Int.reduceEq, Int.reduceLT, Int.reduceLE] <;> try simp only [bothG_t, bothG_f, decide_eq_true_eq, decide_eq_false_iff_not, Bool.not_eq_true', Bool.not_eq_false', Int.ofNat_lt, Int.ofNat_le]
  refine callI_pure (element_k 3 3 rfl _ (by simp)) ?_
  refine run_sound mixed 600 _ ?_
  simp (maxSteps := 3000000) only [go_sem, ↓bothG_tt, ↓bothG_tf, ↓bothG_ft, ↓bothG_ff, ↓reduceIte, ↓reduceDIte, reduceCtorEq, Nat.reduceAdd, Nat.reduceSub, Nat.reduceLeDiff, Nat.reduceLT, Nat.reduceEqDiff, Nat.reduceBEq, Nat.reduceMul, Int.reduceToNat, Int.reduceEq, Int.reduceLT, Int.reduceLE] <;> try simp only [bothG_t, bothG_f, decide_eq_true_eq, decide_eq_false_iff_not, Bool.not_eq_true', Bool.not_eq_false', Int.ofNat_lt, Int.ofNat_le]
  rfl
theorem dstring_c (s : ByteArray) (hs : s.size ≤ 140737488355328) : PC Tryz.prog 197 [rS s] (.isl .u8 (elemS 27 [s.data.toList])) := by
  refine pc_seal rfl rfl ?_
  refine vc_fi fi197 (run_sound mixed 8 _ ?_)
  simp (maxSteps := 3000000) only [ir197, go_sem, ↓bothG_tt, ↓bothG_tf, ↓bothG_ft, ↓bothG_ff, ↓reduceIte, ↓reduceDIte, reduceCtorEq, Nat.reduceAdd, Nat.reduceSub, Nat.reduceLeDiff, Nat.reduceLT, Nat.reduceEqDiff, Nat.reduceBEq, Nat.reduceMul, Int.reduceToNat, Int.reduceEq, Int.reduceLT, Int.reduceLE] <;> try simp only [bothG_t, bothG_f, decide_eq_true_eq, decide_eq_false_iff_not, Bool.not_eq_true', Bool.not_eq_false', Int.ofNat_lt, Int.ofNat_le]
  have hl : (bytesOf s).length = s.size := by simp [bytesOf]
  refine si_freeze 0 rfl rfl (by omega) ?_ ?_ ?_
  · simp (maxSteps := 3000000) only [go_sem, ↓bothG_tt, ↓bothG_tf, ↓bothG_ft, ↓bothG_ff, ↓reduceIte, ↓reduceDIte, reduceCtorEq, Nat.reduceAdd, Nat.reduceSub, Nat.reduceLeDiff, Nat.reduceLT, Nat.reduceEqDiff, Nat.reduceBEq, Nat.reduceMul, Int.reduceToNat, Int.reduceEq, Int.reduceLT, Int.reduceLE] <;> try simp only [bothG_t, bothG_f, decide_eq_true_eq, decide_eq_false_iff_not, Bool.not_eq_true', Bool.not_eq_false', Int.ofNat_lt, Int.ofNat_le]
  · simp (maxSteps := 3000000) only [go_sem, ↓bothG_tt, ↓bothG_tf, ↓bothG_ft, ↓bothG_ff, ↓reduceIte, ↓reduceDIte, reduceCtorEq, Nat.reduceAdd, Nat.reduceSub, Nat.reduceLeDiff, Nat.reduceLT, Nat.reduceEqDiff, Nat.reduceBEq, Nat.reduceMul, Int.reduceToNat, Int.reduceEq, Int.reduceLT, Int.reduceLE] <;> try simp only [bothG_t, bothG_f, decide_eq_true_eq, decide_eq_false_iff_not, Bool.not_eq_true', Bool.not_eq_false', Int.ofNat_lt, Int.ofNat_le]
    omega
  simp (maxSteps := 3000000) only [go_sem, ↓bothG_tt, ↓bothG_tf, ↓bothG_ft, ↓bothG_ff, ↓reduceIte, ↓reduceDIte, reduceCtorEq, Nat.reduceAdd, Nat.reduceSub, Nat.reduceLeDiff, Nat.reduceLT, Nat.reduceEqDiff, Nat.reduceBEq, Nat.reduceMul, Int.reduceToNat, Int.reduceEq, Int.reduceLT, Int.reduceLE] <;> try simp only [bothG_t, bothG_f, decide_eq_true_eq, decide_eq_false_iff_not, Bool.not_eq_true', Bool.not_eq_false', Int.ofNat_lt, Int.ofNat_le]
  refine run_sound mixed 600 _ ?_
  simp (maxSteps := 3000000) only [go_sem, ↓bothG_tt, ↓bothG_tf, ↓bothG_ft, ↓bothG_ff, ↓reduceIte, ↓reduceDIte, reduceCtorEq, Nat.reduceAdd, Nat.reduceSub, Nat.reduceLeDiff, Nat.reduceLT, Nat.reduceEqDiff, Nat.reduceBEq, Nat.reduceMul, Int.reduceToNat, Int.reduceEq, Int.reduceLT, Int.reduceLE] <;> try simp only [bothG_t, bothG_f, decide_eq_true_eq, decide_eq_false_iff_not, Bool.not_eq_true', Bool.not_eq_false', Int.ofNat_lt, Int.ofNat_le]
  refine callI_hand 1 ?_
  simp (maxSteps := 3000000) only [go_sem, ↓bothG_tt, ↓bothG_tf, ↓bothG_ft, ↓bothG_ff, ↓reduceIte, ↓reduceDIte, reduceCtorEq, Nat.reduceAdd, Nat.reduceSub, Nat.reduceLeDiff, Nat.reduceLT, Nat.reduceEqDiff, Nat.reduceBEq, Nat.reduceMul, Int.reduceToNat, Int.reduceEq, Int.reduceLT, Int.reduceLE] <;> try simp only [bothG_t, bothG_f, decide_eq_true_eq, decide_eq_false_iff_not, Bool.not_eq_true', Bool.not_eq_false', Int.ofNat_lt, Int.ofNat_le]
  rw [List.take_of_length_le (by omega)]
  refine callI_pure (element_k 27 27 rfl _ (by simp)) ?_
  refine run_sound mixed 600 _ ?_
  simp (maxSteps := 3000000) only [go_sem, ↓bothG_tt, ↓bothG_tf, ↓bothG_ft, ↓bothG_ff, ↓reduceIte, ↓reduceDIte, reduceCtorEq, Nat.reduceAdd, Nat.reduceSub, Nat.reduceLeDiff, Nat.reduceLT, Nat.reduceEqDiff, Nat.reduceBEq, Nat.reduceMul, Int.reduceToNat, Int.reduceEq, Int.reduceLT, Int.reduceLE] <;> try simp only [bothG_t, bothG_f, decide_eq_true_eq, decide_eq_false_iff_not, Bool.not_eq_true', Bool.not_eq_false', Int.ofNat_lt, Int.ofNat_le]
  rfl
def fullAt (l : List (List UInt8)) (j : Nat) : Bool := decide (l.getD j (Ty.slice .u8).dflt ≠ [])
def wholeS (l : List (List UInt8)) : List UInt8 := if allN l.length (fullAt l) then elemS 48 l else []
theorem whole_c (l : List (List UInt8)) (hl : l.length ≤ 1125899906842624) : PC Tryz.prog 296 [.isl (.slice .u8) l] (.isl .u8 (wholeS l)) := by
  refine pc_seal rfl rfl ?_
  refine vc_fi fi296 (run_sound mixed 600 _ ?_)
  simp (maxSteps := 3000000) only [ir296, go_sem, ↓bothG_tt, ↓bothG_tf, ↓bothG_ft, ↓bothG_ff, ↓reduceIte, ↓reduceDIte, reduceCtorEq, Nat.reduceAdd, Nat.reduceSub, Nat.reduceLeDiff, Nat.reduceLT, Nat.reduceEqDiff, Nat.reduceBEq, Nat.reduceMul, Int.reduceToNat, Int.reduceEq, Int.reduceLT, Int.reduceLE] <;> try simp only [bothG_t, bothG_f, decide_eq_true_eq, decide_eq_false_iff_not, Bool.not_eq_true', Bool.not_eq_false', Int.ofNat_lt, Int.ofNat_le]
  refine si_cntD (fun i => [(7, .raw (.int .i64 ((i : Nat) : Int)))]) (l.length) (fun j => (fullAt l) j = true) (by first | decide | simp) (fun i => rfl) ?_ fun i hi hall => ?_
  · simp (maxSteps := 3000000) only [go_sem, ↓bothG_tt, ↓bothG_tf, ↓bothG_ft, ↓bothG_ff, ↓reduceIte, ↓reduceDIte, reduceCtorEq, Nat.reduceAdd, Nat.reduceSub, Nat.reduceLeDiff, Nat.reduceLT, Nat.reduceEqDiff, Nat.reduceBEq, Nat.reduceMul, Int.reduceToNat, Int.reduceEq, Int.reduceLT, Int.reduceLE] <;> try simp only [bothG_t, bothG_f, decide_eq_true_eq, decide_eq_false_iff_not, Bool.not_eq_true', Bool.not_eq_false', Int.ofNat_lt, Int.ofNat_le]
    all_goals (try rfl)
  have hwr : IntKind.i64.wrap ((i : Int) + 1) = ((i + 1 : Nat) : Int) := wrap_succ (by omega)
  refine run_sound mixed 600 _ ?_
  simp (maxSteps := 3000000) only [go_sem, ↓bothG_tt, ↓bothG_tf, ↓bothG_ft, ↓bothG_ff, ↓reduceIte, ↓reduceDIte, reduceCtorEq, Nat.reduceAdd, Nat.reduceSub, Nat.reduceLeDiff, Nat.reduceLT, Nat.reduceEqDiff, Nat.reduceBEq, Nat.reduceMul, Int.reduceToNat, Int.reduceEq, Int.reduceLT, Int.reduceLE] <;> try simp only [bothG_t, bothG_f, decide_eq_true_eq, decide_eq_false_iff_not, Bool.not_eq_true', Bool.not_eq_false', Int.ofNat_lt, Int.ofNat_le]
  have bad : i < (l.length) → (fullAt l) i = false → allN (l.length) (fullAt l) = false := fun hlt hv => allN_false hlt hv
  have fin : ¬ i < (l.length) → allN (l.length) (fullAt l) = true := fun h => allN_true fun j hj => hall j (by omega)
  try dsimp only at bad fin hall
  refine ⟨fun hlt => ⟨⟨by omega, hlt⟩, fun h0 => ?_, fun h0 => ?_⟩, fun hge => callI_pure (sequence_c l hl) ?_⟩
  · have : fullAt l i = false := by simp only [fullAt, decide_eq_false_iff_not, ne_eq, Classical.not_not]; exact List.length_eq_zero_iff.1 (by omega)
    unfold wholeS; rw [bad hlt this]; rfl
  · refine ⟨hlt, next_all hall ?_, ⟨_, rfl⟩, ?_⟩
    · simp only [fullAt, decide_eq_true_eq]; exact fun e => h0 (by rw [e]; rfl)
    · simp (maxSteps := 3000000) only [hwr, go_sem, ↓bothG_tt, ↓bothG_tf, ↓bothG_ft, ↓bothG_ff, ↓reduceIte, ↓reduceDIte, reduceCtorEq, Nat.reduceAdd, Nat.reduceSub, Nat.reduceLeDiff, Nat.reduceLT, Nat.reduceEqDiff, Nat.reduceBEq, Nat.reduceMul, Int.reduceToNat, Int.reduceEq, Int.reduceLT, Int.reduceLE] <;> try simp only [bothG_t, bothG_f, decide_eq_true_eq, decide_eq_false_iff_not, Bool.not_eq_true', Bool.not_eq_false', Int.ofNat_lt, Int.ofNat_le]
  · refine run_sound mixed 600 _ ?_
    simp (maxSteps := 3000000) only [go_sem, ↓bothG_tt, ↓bothG_tf, ↓bothG_ft, ↓bothG_ff, ↓reduceIte, ↓reduceDIte, reduceCtorEq, Nat.reduceAdd, Nat.reduceSub, Nat.reduceLeDiff, Nat.reduceLT, Nat.reduceEqDiff, Nat.reduceBEq, Nat.reduceMul, Int.reduceToNat, Int.reduceEq, Int.reduceLT, Int.reduceLE] <;> try simp only [bothG_t, bothG_f, decide_eq_true_eq, decide_eq_false_iff_not, Bool.not_eq_true', Bool.not_eq_false', Int.ofNat_lt, Int.ofNat_le]
    unfold wholeS; rw [fin hge]; rfl
/-- Elements, tagged with their indices. -/
def tagN (l : List (List UInt8)) (i : Nat) : List (List UInt8) := (List.range i).map fun (j : Nat) => wrapS 160 j (l.getD j (Ty.slice .u8).dflt)
theorem tagN_succ (l : List (List UInt8)) (i : Nat) : tagN l (i + 1) = tagN l i ++ [wrapS 160 i (l.getD i (Ty.slice .u8).dflt)] := by simp [tagN, List.range_succ]
def fieldsS (l : List (List UInt8)) : List UInt8 := wholeS (tagN l l.length)
theorem fields_c (l : List (List UInt8)) (hl : l.length ≤ 1048576) : PC Tryz.prog 277 [.isl (.slice .u8) l] (.isl .u8 (fieldsS l)) := by
  refine pc_seal rfl rfl ?_
  refine vc_fi fi277 (run_sound mixed 600 _ ?_)
  simp (maxSteps := 3000000) only [ir277, go_sem, ↓bothG_tt, ↓bothG_tf, ↓bothG_ft, ↓bothG_ff, ↓reduceIte, ↓reduceDIte, reduceCtorEq, Nat.reduceAdd, Nat.reduceSub, Nat.reduceLeDiff, Nat.reduceLT, Nat.reduceEqDiff, Nat.reduceBEq, Nat.reduceMul, Int.reduceToNat, Int.reduceEq, Int.reduceLT, Int.reduceLE] <;> try simp only [bothG_t, bothG_f, decide_eq_true_eq, decide_eq_false_iff_not, Bool.not_eq_true', Bool.not_eq_false', Int.ofNat_lt, Int.ofNat_le]
  refine si_accN 3 (.slice .u8) (fun i => tagN l i) (fun i => [(8, rI i)]) l.length (fun _ => True) rfl (by simp) (by simp [tagN]) rfl (fun i => rfl) ?_ fun i hi _ => ?_
  · simp (maxSteps := 3000000) only [go_sem, ↓bothG_tt, ↓bothG_tf, ↓bothG_ft, ↓bothG_ff, ↓reduceIte, ↓reduceDIte, reduceCtorEq, Nat.reduceAdd, Nat.reduceSub, Nat.reduceLeDiff, Nat.reduceLT, Nat.reduceEqDiff, Nat.reduceBEq, Nat.reduceMul, Int.reduceToNat, Int.reduceEq, Int.reduceLT, Int.reduceLE] <;> try simp only [bothG_t, bothG_f, decide_eq_true_eq, decide_eq_false_iff_not, Bool.not_eq_true', Bool.not_eq_false', Int.ofNat_lt, Int.ofNat_le]
  have hwr : IntKind.i64.wrap ((i : Int) + 1) = ((i + 1 : Nat) : Int) := wrap_succ (by omega)
  have hln : (tagN l i).length = i := by simp [tagN]
  have hst := tagN_succ l i
  refine run_sound mixed 600 _ ?_
  simp (maxSteps := 3000000) only [go_sem, ↓bothG_tt, ↓bothG_tf, ↓bothG_ft, ↓bothG_ff, ↓reduceIte, ↓reduceDIte, reduceCtorEq, Nat.reduceAdd, Nat.reduceSub, Nat.reduceLeDiff, Nat.reduceLT, Nat.reduceEqDiff, Nat.reduceBEq, Nat.reduceMul, Int.reduceToNat, Int.reduceEq, Int.reduceLT, Int.reduceLE] <;> try simp only [bothG_t, bothG_f, decide_eq_true_eq, decide_eq_false_iff_not, Bool.not_eq_true', Bool.not_eq_false', Int.ofNat_lt, Int.ofNat_le]
  refine ⟨fun hlt => ⟨⟨by omega, hlt⟩, callI_pure (tagged_c _ _) ?_⟩, fun hge => ?_⟩
  · refine run_sound mixed 600 _ ?_
    simp (maxSteps := 3000000) only [go_sem, ↓bothG_tt, ↓bothG_tf, ↓bothG_ft, ↓bothG_ff, ↓reduceIte, ↓reduceDIte, reduceCtorEq, Nat.reduceAdd, Nat.reduceSub, Nat.reduceLeDiff, Nat.reduceLT, Nat.reduceEqDiff, Nat.reduceBEq, Nat.reduceMul, Int.reduceToNat, Int.reduceEq, Int.reduceLT, Int.reduceLE] <;> try simp only [bothG_t, bothG_f, decide_eq_true_eq, decide_eq_false_iff_not, Bool.not_eq_true', Bool.not_eq_false', Int.ofNat_lt, Int.ofNat_le]
    refine ⟨⟨by omega, by omega⟩, acc_next [_, _] [] hlt trivial (by rw [hst]; rfl) ?_⟩
    simp (maxSteps := 3000000) only [hwr, hst, List.length_append, go_sem, ↓bothG_tt, ↓bothG_tf, ↓bothG_ft, ↓bothG_ff, ↓reduceIte, ↓reduceDIte, reduceCtorEq, Nat.reduceAdd, Nat.reduceSub, Nat.reduceLeDiff, Nat.reduceLT, Nat.reduceEqDiff, Nat.reduceBEq, Nat.reduceMul, Int.reduceToNat, Int.reduceEq, Int.reduceLT, Int.reduceLE] <;> try simp only [bothG_t, bothG_f, decide_eq_true_eq, decide_eq_false_iff_not, Bool.not_eq_true', Bool.not_eq_false', Int.ofNat_lt, Int.ofNat_le]
  · obtain rfl : i = l.length := by omega
    refine callI_hand 0 ?_
    simp (maxSteps := 3000000) only [go_sem, ↓bothG_tt, ↓bothG_tf, ↓bothG_ft, ↓bothG_ff, ↓reduceIte, ↓reduceDIte, reduceCtorEq, Nat.reduceAdd, Nat.reduceSub, Nat.reduceLeDiff, Nat.reduceLT, Nat.reduceEqDiff, Nat.reduceBEq, Nat.reduceMul, Int.reduceToNat, Int.reduceEq, Int.reduceLT, Int.reduceLE] <;> try simp only [bothG_t, bothG_f, decide_eq_true_eq, decide_eq_false_iff_not, Bool.not_eq_true', Bool.not_eq_false', Int.ofNat_lt, Int.ofNat_le]
    refine ⟨by omega, ?_⟩
    rw [List.take_of_length_le (by omega)]
    refine ⟨Nat.le_refl _, callI_pure (whole_c (tagN l l.length) (by omega)) ?_⟩
    refine run_sound mixed 600 _ ?_
    simp (maxSteps := 3000000) only [go_sem, ↓bothG_tt, ↓bothG_tf, ↓bothG_ft, ↓bothG_ff, ↓reduceIte, ↓reduceDIte, reduceCtorEq, Nat.reduceAdd, Nat.reduceSub, Nat.reduceLeDiff, Nat.reduceLT, Nat.reduceEqDiff, Nat.reduceBEq, Nat.reduceMul, Int.reduceToNat, Int.reduceEq, Int.reduceLT, Int.reduceLE] <;> try simp only [bothG_t, bothG_f, decide_eq_true_eq, decide_eq_false_iff_not, Bool.not_eq_true', Bool.not_eq_false', Int.ofNat_lt, Int.ofNat_le]
    rfl
def keyS (k : Key) : List UInt8 := fieldsS [intS k.1, intS k.2.1, elemS 4 [k.2.2]]
theorem triple_c (p v : Int) (b : List UInt8) : PC Tryz.prog 250 [rI p, rI v, .isl .u8 b] (.isl .u8 (keyS (p, v, b))) := by
  refine pc_seal rfl rfl ?_
  refine vc_fi fi250 (run_sound mixed 600 _ ?_)
  simp (maxSteps := 3000000) only [ir250, go_sem, ↓bothG_tt, ↓bothG_tf, ↓bothG_ft, ↓bothG_ff, ↓reduceIte, ↓reduceDIte, reduceCtorEq, Nat.reduceAdd, Nat.reduceSub, Nat.reduceLeDiff, Nat.reduceLT, Nat.reduceEqDiff, Nat.reduceBEq, Nat.reduceMul, Int.reduceToNat, Int.reduceEq, Int.reduceLT, Int.reduceLE] <;> try simp only [bothG_t, bothG_f, decide_eq_true_eq, decide_eq_false_iff_not, Bool.not_eq_true', Bool.not_eq_false', Int.ofNat_lt, Int.ofNat_le]
  refine callI_pure (integer_c p) ?_
  refine run_sound mixed 600 _ ?_
  simp (maxSteps := 3000000) only [go_sem, ↓bothG_tt, ↓bothG_tf, ↓bothG_ft, ↓bothG_ff, ↓reduceIte, ↓reduceDIte, reduceCtorEq, Nat.reduceAdd, Nat.reduceSub, Nat.reduceLeDiff, Nat.reduceLT, Nat.reduceEqDiff, Nat.reduceBEq, Nat.reduceMul, Int.reduceToNat, Int.reduceEq, Int.reduceLT, Int.reduceLE] <;> try simp only [bothG_t, bothG_f, decide_eq_true_eq, decide_eq_false_iff_not, Bool.not_eq_true', Bool.not_eq_false', Int.ofNat_lt, Int.ofNat_le]
  refine callI_pure (integer_c v) ?_
  refine run_sound mixed 600 _ ?_
  simp (maxSteps := 3000000) only [go_sem, ↓bothG_tt, ↓bothG_tf, ↓bothG_ft, ↓bothG_ff, ↓reduceIte, ↓reduceDIte, reduceCtorEq, Nat.reduceAdd, Nat.reduceSub, Nat.reduceLeDiff, Nat.reduceLT, Nat.reduceEqDiff, Nat.reduceBEq, Nat.reduceMul, Int.reduceToNat, Int.reduceEq, Int.reduceLT, Int.reduceLE] <;> try simp only [bothG_t, bothG_f, decide_eq_true_eq, decide_eq_false_iff_not, Bool.not_eq_true', Bool.not_eq_false', Int.ofNat_lt, Int.ofNat_le]
  refine callI_pure (octets_c b) ?_
  refine run_sound mixed 600 _ ?_
  simp (maxSteps := 3000000) only [go_sem, ↓bothG_tt, ↓bothG_tf, ↓bothG_ft, ↓bothG_ff, ↓reduceIte, ↓reduceDIte, reduceCtorEq, Nat.reduceAdd, Nat.reduceSub, Nat.reduceLeDiff, Nat.reduceLT, Nat.reduceEqDiff, Nat.reduceBEq, Nat.reduceMul, Int.reduceToNat, Int.reduceEq, Int.reduceLT, Int.reduceLE] <;> try simp only [bothG_t, bothG_f, decide_eq_true_eq, decide_eq_false_iff_not, Bool.not_eq_true', Bool.not_eq_false', Int.ofNat_lt, Int.ofNat_le]
  refine callI_hand 0 ?_
  simp (maxSteps := 3000000) only [go_sem, ↓bothG_tt, ↓bothG_tf, ↓bothG_ft, ↓bothG_ff, ↓reduceIte, ↓reduceDIte, reduceCtorEq, Nat.reduceAdd, Nat.reduceSub, Nat.reduceLeDiff, Nat.reduceLT, Nat.reduceEqDiff, Nat.reduceBEq, Nat.reduceMul, Int.reduceToNat, Int.reduceEq, Int.reduceLT, Int.reduceLE] <;> try simp only [bothG_t, bothG_f, decide_eq_true_eq, decide_eq_false_iff_not, Bool.not_eq_true', Bool.not_eq_false', Int.ofNat_lt, Int.ofNat_le]
  refine callI_pure (fields_c _ (by simp)) ?_
  refine run_sound mixed 600 _ ?_
  simp (maxSteps := 3000000) only [go_sem, ↓bothG_tt, ↓bothG_tf, ↓bothG_ft, ↓bothG_ff, ↓reduceIte, ↓reduceDIte, reduceCtorEq, Nat.reduceAdd, Nat.reduceSub, Nat.reduceLeDiff, Nat.reduceLT, Nat.reduceEqDiff, Nat.reduceBEq, Nat.reduceMul, Int.reduceToNat, Int.reduceEq, Int.reduceLT, Int.reduceLE] <;> try simp only [bothG_t, bothG_f, decide_eq_true_eq, decide_eq_false_iff_not, Bool.not_eq_true', Bool.not_eq_false', Int.ofNat_lt, Int.ofNat_le]
  rfl
theorem dkey_c (k : Key) : PC Tryz.prog 212 [.agg (KeyT.cells k)] (.isl .u8 (keyS k)) := by
  refine pc_seal rfl rfl ?_
  refine vc_fi fi212 (run_sound mixed 600 _ ?_)
  simp (maxSteps := 3000000) only [ir212, go_sem, ↓bothG_tt, ↓bothG_tf, ↓bothG_ft, ↓bothG_ff, ↓reduceIte, ↓reduceDIte, reduceCtorEq, Nat.reduceAdd, Nat.reduceSub, Nat.reduceLeDiff, Nat.reduceLT, Nat.reduceEqDiff, Nat.reduceBEq, Nat.reduceMul, Int.reduceToNat, Int.reduceEq, Int.reduceLT, Int.reduceLE] <;> try simp only [bothG_t, bothG_f, decide_eq_true_eq, decide_eq_false_iff_not, Bool.not_eq_true', Bool.not_eq_false', Int.ofNat_lt, Int.ofNat_le]
  refine callI_pure (triple_c _ _ _) ?_
  refine run_sound mixed 600 _ ?_
  simp (maxSteps := 3000000) only [go_sem, ↓bothG_tt, ↓bothG_tf, ↓bothG_ft, ↓bothG_ff, ↓reduceIte, ↓reduceDIte, reduceCtorEq, Nat.reduceAdd, Nat.reduceSub, Nat.reduceLeDiff, Nat.reduceLT, Nat.reduceEqDiff, Nat.reduceBEq, Nat.reduceMul, Int.reduceToNat, Int.reduceEq, Int.reduceLT, Int.reduceLE] <;> try simp only [bothG_t, bothG_f, decide_eq_true_eq, decide_eq_false_iff_not, Bool.not_eq_true', Bool.not_eq_false', Int.ofNat_lt, Int.ofNat_le]
end Go.Proofs.YtddmkgibghohkaaGreatDoor
/- Contracts: distinct. -/
namespace Go.Proofs.YtddmkgibghohkaaGreatDoor
open Go Go.Sx Go.Proofs
set_option maxRecDepth 100000
set_option maxHeartbeats 4000000
set_option linter.unusedSimpArgs false

def keysN (l : List Prin) : Nat → List Value
  | 0 => []
  | i + 1 => match findI (.string (txt (l.getD i PrinT.dflt))) (keysN l i) with
    | some _ => keysN l i
    | none => keysN l i ++ [.string (txt (l.getD i PrinT.dflt))]
theorem keysN_none {l : List Prin} {i : Nat} (h : findI (.string (txt (l.getD i PrinT.dflt))) (keysN l i) = none) : keysN l (i + 1) = keysN l i ++ [.string (txt (l.getD i PrinT.dflt))] := by rw [keysN, h]
theorem keysN_some {l : List Prin} {i j : Nat} (h : findI (.string (txt (l.getD i PrinT.dflt))) (keysN l i) = some j) : keysN l (i + 1) = keysN l i := by rw [keysN, h]
def Ints (vs : List Value) : Prop := ∀ v ∈ vs, ∃ c, v = .int .i64 c

theorem distinct_w (l : List Prin) (hp : (Ty.slice PrinT).ok l) (hv : ∀ p ∈ l, vPrin p = true) : PC Tryz.prog 168 [.isl PrinT l] (rB (decide (((keysN l l.length).length : Int) = l.length))) := by
  refine pc_of rfl rfl ?_
  have hl : l.length ≤ 1125899906842624 := hp.1
  refine vc_fi fi168 (run_sound mixed 600 _ ?_)
  simp (maxSteps := 3000000) only [ir168, go_sem, ↓bothG_tt, ↓bothG_tf, ↓bothG_ft, ↓bothG_ff, ↓reduceIte, ↓reduceDIte, reduceCtorEq, Nat.reduceAdd, Nat.reduceSub, Nat.reduceLeDiff, Nat.reduceLT, Nat.reduceEqDiff, Nat.reduceBEq, Nat.reduceMul, Int.reduceToNat, Int.reduceEq, Int.reduceLT, Int.reduceLE] <;> try simp only [bothG_t, bothG_f, decide_eq_true_eq, decide_eq_false_iff_not, Bool.not_eq_true', Bool.not_eq_false', Int.ofNat_lt, Int.ofNat_le]
  refine si_loopX (ι := Nat × List Value × List SObj) (fun x => [(11, rI x.1)]) (fun x => .map none (keysN l x.1) x.2.1 :: x.2.2) (fun x => l.length - x.1) (fun x => x.1 ≤ l.length ∧ x.2.1.length = (keysN l x.1).length ∧ Ints x.2.1) (0, [], []) ⟨Nat.zero_le _, rfl, by simp [Ints]⟩ rfl ?_ ?_
  · simp (maxSteps := 3000000) only [go_sem, ↓bothG_tt, ↓bothG_tf, ↓bothG_ft, ↓bothG_ff, ↓reduceIte, ↓reduceDIte, reduceCtorEq, Nat.reduceAdd, Nat.reduceSub, Nat.reduceLeDiff, Nat.reduceLT, Nat.reduceEqDiff, Nat.reduceBEq, Nat.reduceMul, Int.reduceToNat, Int.reduceEq, Int.reduceLT, Int.reduceLE] <;> try simp only [bothG_t, bothG_f, decide_eq_true_eq, decide_eq_false_iff_not, Bool.not_eq_true', Bool.not_eq_false', Int.ofNat_lt, Int.ofNat_le]
  rintro ⟨i, vs, G⟩ ⟨hi, hvl, hint⟩
  dsimp only at hi hvl hint
  refine run_sound mixed 600 _ ?_
  simp (maxSteps := 3000000) only [List.append_assoc, getA, getA0, setA, setA0, List.length_append, Nat.add_assoc, go_sem, ↓bothG_tt, ↓bothG_tf, ↓bothG_ft, ↓bothG_ff, ↓reduceIte, ↓reduceDIte, reduceCtorEq, Nat.reduceAdd, Nat.reduceSub, Nat.reduceLeDiff, Nat.reduceLT, Nat.reduceEqDiff, Nat.reduceBEq, Nat.reduceMul, Int.reduceToNat, Int.reduceEq, Int.reduceLT, Int.reduceLE] <;> try simp only [bothG_t, bothG_f, decide_eq_true_eq, decide_eq_false_iff_not, Bool.not_eq_true', Bool.not_eq_false', Int.ofNat_lt, Int.ofNat_le]
  refine ⟨fun hlt => ⟨⟨by omega, hlt⟩, ?_⟩, fun hge => ?_⟩
  · have hm := getD_mem (d := PrinT.dflt) hlt
    refine callI_pure (text_c _ (hp.2 _ hm) (hv _ hm)) ?_
    cases hf : findI (.string (txt (l.getD i PrinT.dflt))) (keysN l i) with
    | none =>
      refine run_sound mixed 600 _ ?_
      simp (maxSteps := 3000000) only [hf, List.append_assoc, getA, getA0, setA, setA0, List.length_append, Nat.add_assoc, go_sem, ↓bothG_tt, ↓bothG_tf, ↓bothG_ft, ↓bothG_ff, ↓reduceIte, ↓reduceDIte, reduceCtorEq, Nat.reduceAdd, Nat.reduceSub, Nat.reduceLeDiff, Nat.reduceLT, Nat.reduceEqDiff, Nat.reduceBEq, Nat.reduceMul, Int.reduceToNat, Int.reduceEq, Int.reduceLT, Int.reduceLE] <;> try simp only [bothG_t, bothG_f, decide_eq_true_eq, decide_eq_false_iff_not, Bool.not_eq_true', Bool.not_eq_false', Int.ofNat_lt, Int.ofNat_le]
      refine ⟨(i + 1, vs ++ [.int .i64 (IntKind.i64.wrap (0 + 1))], G ++ [_]), ⟨hlt, by rw [keysN_none hf, List.length_append, List.length_append, hvl]; simp, ?_⟩, by dsimp only; omega, by dsimp only; rw [keysN_none hf], ?_⟩
      · intro v hv
        rcases List.mem_append.1 hv with h | h
        · exact hint v h
        · exact ⟨_, List.mem_singleton.1 h⟩
      · simp (maxSteps := 3000000) only [go_sem, ↓bothG_tt, ↓bothG_tf, ↓bothG_ft, ↓bothG_ff, ↓reduceIte, ↓reduceDIte, reduceCtorEq, Nat.reduceAdd, Nat.reduceSub, Nat.reduceLeDiff, Nat.reduceLT, Nat.reduceEqDiff, Nat.reduceBEq, Nat.reduceMul, Int.reduceToNat, Int.reduceEq, Int.reduceLT, Int.reduceLE] <;> try simp only [bothG_t, bothG_f, decide_eq_true_eq, decide_eq_false_iff_not, Bool.not_eq_true', Bool.not_eq_false', Int.ofNat_lt, Int.ofNat_le]
        rw [wrap_succ (by omega)]
    | some j =>
      obtain ⟨hj, _⟩ := findI_lt hf
      obtain ⟨c, hc⟩ := hint _ (getD_mem (d := undef) (show j < vs.length by omega))
      refine run_sound mixed 600 _ ?_
      simp (maxSteps := 3000000) only [hf, hc, List.append_assoc, getA, getA0, setA, setA0, List.length_append, Nat.add_assoc, go_sem, ↓bothG_tt, ↓bothG_tf, ↓bothG_ft, ↓bothG_ff, ↓reduceIte, ↓reduceDIte, reduceCtorEq, Nat.reduceAdd, Nat.reduceSub, Nat.reduceLeDiff, Nat.reduceLT, Nat.reduceEqDiff, Nat.reduceBEq, Nat.reduceMul, Int.reduceToNat, Int.reduceEq, Int.reduceLT, Int.reduceLE] <;> try simp only [bothG_t, bothG_f, decide_eq_true_eq, decide_eq_false_iff_not, Bool.not_eq_true', Bool.not_eq_false', Int.ofNat_lt, Int.ofNat_le]
      refine ⟨(i + 1, vs.set j (.int .i64 (IntKind.i64.wrap (c + 1))), G ++ [_]), ⟨hlt, by rw [keysN_some hf, List.length_set, hvl], ?_⟩, by dsimp only; omega, by dsimp only; rw [keysN_some hf], ?_⟩
      · intro v hv
        rcases List.mem_or_eq_of_mem_set hv with h | h
        · exact hint v h
        · exact ⟨_, h⟩
      · simp (maxSteps := 3000000) only [go_sem, ↓bothG_tt, ↓bothG_tf, ↓bothG_ft, ↓bothG_ff, ↓reduceIte, ↓reduceDIte, reduceCtorEq, Nat.reduceAdd, Nat.reduceSub, Nat.reduceLeDiff, Nat.reduceLT, Nat.reduceEqDiff, Nat.reduceBEq, Nat.reduceMul, Int.reduceToNat, Int.reduceEq, Int.reduceLT, Int.reduceLE] <;> try simp only [bothG_t, bothG_f, decide_eq_true_eq, decide_eq_false_iff_not, Bool.not_eq_true', Bool.not_eq_false', Int.ofNat_lt, Int.ofNat_le]
        rw [wrap_succ (by omega)]
  · obtain rfl : i = l.length := by omega
    rfl

/-! ### The plain law -/
theorem findI_none {s : ByteArray} : ∀ {ks : List ByteArray}, findI (.string s) (ks.map .string) = none ↔ s ∉ ks
  | [] => by simp [findI]
  | k :: ks => by
    have ih := findI_none (s := s) (ks := ks)
    simp only [List.map_cons, findI, keyEq, decide_eq_true_eq, List.mem_cons, not_or]
    split
    · rename_i h; simp [h]
    · rename_i h; simp [ih, h]
theorem keysN_spec (l : List Prin) : ∀ i, i ≤ l.length → ∃ ks : List ByteArray, keysN l i = ks.map .string ∧ (∀ s, s ∈ ks ↔ s ∈ (l.take i).map txt) ∧ ks.length ≤ i ∧ (ks.length = i ↔ ((l.take i).map txt).Nodup)
  | 0, _ => ⟨[], by simp [keysN]⟩
  | i + 1, hi => by
    obtain ⟨ks, h1, h2, h3, h4⟩ := keysN_spec l i (by omega)
    have hta : (l.take (i + 1)).map txt = (l.take i).map txt ++ [txt (l.getD i PrinT.dflt)] := by rw [take_succ_getD (d := PrinT.dflt) (show i < l.length by omega)]; simp
    cases hf : findI (.string (txt (l.getD i PrinT.dflt))) (keysN l i) with
    | none =>
      refine ⟨ks ++ [txt (l.getD i PrinT.dflt)], by rw [keysN_none hf, h1, List.map_append]; rfl, fun s => by rw [hta]; simp only [List.mem_append, h2], by simp; omega, ?_⟩
      rw [h1, findI_none, h2] at hf
      rw [hta, List.nodup_append]
      simp only [List.length_append, List.length_singleton, Nat.add_right_cancel_iff, h4]
      constructor
      · intro h
        refine ⟨h, by simp, fun a ha b hb => ?_⟩
        rw [List.mem_singleton.1 hb]
        exact fun e => hf (e ▸ ha)
      · exact fun h => h.1
    | some j =>
      refine ⟨ks, by rw [keysN_some hf, h1], fun s => ?_, by omega, ?_⟩
      · have hin : txt (l.getD i PrinT.dflt) ∈ (l.take i).map txt := by
          refine Classical.byContradiction fun hn => ?_
          rw [← h2, ← findI_none, ← h1, hf] at hn
          cases hn
        rw [hta, h2]
        simp only [List.mem_append, List.mem_singleton]
        exact ⟨.inl, fun h => h.elim id (fun e => e ▸ hin)⟩
      · have hin : txt (l.getD i PrinT.dflt) ∈ (l.take i).map txt := by
          refine Classical.byContradiction fun hn => ?_
          rw [← h2, ← findI_none, ← h1, hf] at hn
          cases hn
        rw [hta, List.nodup_append]
        constructor
        · intro h; omega
        · intro h; exact absurd rfl (h.2.2 _ hin _ (List.mem_singleton.2 rfl))
theorem keysN_nodup (l : List Prin) : decide (((keysN l l.length).length : Int) = l.length) = decide ((l.map txt).Nodup) := by
  obtain ⟨ks, h1, _, _, h4⟩ := keysN_spec l l.length (Nat.le_refl _)
  rw [List.take_length] at h4
  rw [h1, List.length_map, decide_eq_decide, ← h4]
  omega

/-! ### The text tells the principal -/
def escL (bs : List UInt8) : List UInt8 := bs.flatMap escC
theorem escN_take (s : ByteArray) : ∀ j, j ≤ s.size → escN s j = escL (s.data.toList.take j)
  | 0, _ => by simp [escN, escL]
  | j + 1, h => by
    have hj : j < s.data.toList.length := by simp; omega
    rw [escN, escN_take s j (by omega), take_succ_getD (d := 0) hj]
    simp [escL]
theorem escN_all (s : ByteArray) : escN s s.size = escL s.data.toList := by
  rw [escN_take s s.size (Nat.le_refl _), List.take_of_length_le (by simp)]
def joinT : List ByteArray → List UInt8
  | [] => []
  | [a] => escL a.data.toList
  | a :: b :: l => escL a.data.toList ++ 47 :: joinT (b :: l)
theorem joinT_snoc : ∀ (l : List ByteArray) (a : ByteArray), l ≠ [] → joinT (l ++ [a]) = joinT l ++ 47 :: escL a.data.toList
  | [], _, h => absurd rfl h
  | [x], a, _ => by simp [joinT]
  | x :: y :: l, a, _ => by
    have := joinT_snoc (y :: l) a (by simp)
    simp only [List.cons_append] at this ⊢
    simp [joinT, this]
theorem txtN_join (l : List ByteArray) : ∀ i, i ≤ l.length → txtN l i = joinT (l.take i)
  | 0, _ => by simp [txtN, joinT]
  | i + 1, hi => by
    rw [txtN, txtN_join l i (by omega), escN_all, take_succ_getD (d := ByteArray.empty) (show i < l.length by omega)]
    by_cases h0 : i = 0
    · subst h0; simp [joinT]
    · rw [joinT_snoc _ _ (fun e => h0 (by have := congrArg List.length e; rw [List.length_take, List.length_nil] at this; omega)), if_pos (by omega)]
      simp
/-- The components that a text has. -/
def dec : Bool → List UInt8 → List UInt8 → List (List UInt8)
  | _, cur, [] => [cur]
  | true, cur, c :: r => dec false (cur ++ [c]) r
  | false, cur, c :: r => if c = 92 then dec true cur r else if c = 47 then cur :: dec false [] r else dec false (cur ++ [c]) r
theorem dec_esc (cur : List UInt8) (c : UInt8) (r : List UInt8) : dec false cur (escC c ++ r) = dec false (cur ++ [c]) r := by
  unfold escC
  split
  · rfl
  · rename_i h
    have h1 : c ≠ 92 := fun e => h (by subst e; rfl)
    have h2 : c ≠ 47 := fun e => h (by subst e; rfl)
    simp [dec, h1, h2]
theorem dec_escL : ∀ (bs cur r : List UInt8), dec false cur (escL bs ++ r) = dec false (cur ++ bs) r
  | [], cur, r => by simp [escL]
  | b :: bs, cur, r => by
    have := dec_escL bs (cur ++ [b]) r
    simp only [escL, List.flatMap_cons, List.append_assoc] at this ⊢
    rw [dec_esc, this]
    simp
theorem dec_join : ∀ (a : ByteArray) (l : List ByteArray), dec false [] (joinT (a :: l)) = (a :: l).map (·.data.toList)
  | a, [] => by
    have := dec_escL a.data.toList [] []
    simp only [List.append_nil, List.nil_append] at this
    simp [joinT, this, dec]
  | a, b :: l => by
    rw [joinT, dec_escL, List.nil_append]
    simp [dec, dec_join b l]
theorem joinT_inj {l l' : List ByteArray} (h : l ≠ []) (h' : l' ≠ []) (he : joinT l = joinT l') : l = l' := by
  cases l with
  | nil => exact absurd rfl h
  | cons a l =>
    cases l' with
    | nil => exact absurd rfl h'
    | cons b m =>
      have h1 := dec_join a l
      rw [he, dec_join b m] at h1
      have inj : ∀ {x y : ByteArray}, x.data.toList = y.data.toList → x = y := fun {x y} e => by cases x; cases y; simp at e; rw [e]
      exact (List.map_inj_right (fun _ _ => inj) |>.1 h1).symm
/-- A list is cut at the last byte of a kind in one way. -/
theorem cut_last {c : UInt8} : ∀ {a a' b b' : List UInt8}, c ∉ b → c ∉ b' → a ++ c :: b = a' ++ c :: b' → a = a' ∧ b = b'
  | [], [], b, b', _, _, h => ⟨rfl, by simpa using h⟩
  | [], x :: a', b, b', hb, _, h => by
    simp at h
    exact absurd (by rw [h.2]; simp) hb
  | x :: a, [], b, b', _, hb', h => by
    simp at h
    exact absurd (by rw [← h.2]; simp) hb'
  | x :: a, y :: a', b, b', hb, hb', h => by
    simp at h
    obtain ⟨h1, h2⟩ := cut_last hb hb' h.2
    exact ⟨by rw [h.1, h1], h2⟩
theorem txt_inj {p q : Prin} (hp : p.1 ≠ []) (hq : q.1 ≠ []) (h1 : (64 : UInt8) ∉ p.2.data.toList) (h2 : (64 : UInt8) ∉ q.2.data.toList) (h : txt p = txt q) : p = q := by
  have hb := congrArg (fun b : ByteArray => b.data.toList) h
  simp only [txt, strOf, ByteArray.data_append, Array.toList_append, List.append_assoc] at hb
  obtain ⟨e1, e2⟩ := cut_last (c := 64) (a := txtN p.1 p.1.length) (a' := txtN q.1 q.1.length) h1 h2 (by simpa using hb)
  rw [txtN_join _ _ (Nat.le_refl _), txtN_join _ _ (Nat.le_refl _), List.take_length, List.take_length] at e1
  have e3 := joinT_inj hp hq e1
  obtain ⟨l, r⟩ := p
  obtain ⟨l', r'⟩ := q
  simp only at e2 e3
  subst e3
  have : r = r' := by cases r; cases r'; simp at e2; rw [e2]
  rw [this]
end Go.Proofs.YtddmkgibghohkaaGreatDoor
