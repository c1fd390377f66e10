/- Contracts: the encoding of integers, times, strings, keys. -/
import Derived.Test.YthmoognbccfpiaaGreatDoorP15
import Derived.Test.YthmoognbccfpiaaGreatDoorP9
set_option linter.unusedSimpArgs false
set_option linter.unusedVariables false
set_option linter.unusedSectionVars false
namespace Go.Proofs.YthmoognbccfpiaaGreatDoor
open Go Go.Sx Go.Proofs
set_option maxRecDepth 100000
set_option maxHeartbeats 4000000
set_option linter.unusedSimpArgs false

def byteAt (v : Int) (k : Nat) : UInt8 := byteOf (v.fdiv (2 ^ min (8 * k) 64))
def numN (v : Int) (size i : Nat) : List UInt8 := (List.range size).map fun j => if size - 1 - j < i then byteAt v (size - 1 - j) else 0
def numS (v : Int) (size : Nat) : List UInt8 := (List.range size).map fun j => byteAt v (size - 1 - j)
theorem numN_zero (v : Int) (size : Nat) : List.replicate size (0 : UInt8) = numN v size 0 := by
 apply List.ext_getElem
 · simp [numN]
 · intro j h1 h2; simp [numN]
theorem numN_all (v : Int) (size : Nat) : numN v size size = numS v size := by
 apply List.ext_getElem
 · simp [numN, numS]
 · intro j h1 h2
   simp [numN, numS]
   simp [numN] at h1
   intro h; omega
theorem numN_set {v : Int} {size i : Nat} (h : i < size) : (numN v size i).set (size - 1 - i) (byteAt v i) = numN v size (i + 1) := by
 apply List.ext_getElem
 · simp [numN]
 · intro j h1 h2
   simp [numN] at h2
   simp only [numN, List.getElem_set, List.getElem_map, List.getElem_range]
   split
   · rename_i e
     have : size - 1 - j = i := by omega
     rw [this, if_pos (by omega)]
   · rename_i e
     by_cases h3 : size - 1 - j < i
     · rw [if_pos h3, if_pos (by omega)]
     · rw [if_neg h3, if_neg (by omega)]
theorem number_c (v : Int) (size : Nat) (hs : size ≤ 64) : PC Tryz.prog 143 [rI v, rI size] (.isl .u8 (numS v size)) := by
 refine pc_seal rfl rfl ?_
 refine runE mixed fi143 ?_
 refine ⟨by omega, ?_⟩
 refine si_loopX (ι := Nat) (fun i => [(11, rI i)]) (fun i => [.row .u8 (numN v size i)]) (fun i => size - i) (fun i => i ≤ size) 0 (Nat.zero_le _) (by rw [← numN_zero]; rfl) ?_ ?_
 · with_reducible refine sxE ?_; trivial
 intro i hi
 have w3 : IntKind.i64.wrap (8 * (i : Int)) = ((8 * i : Nat) : Int) := by rw [wrapi (by omega)]; rfl
 have hwr : IntKind.i64.wrap ((i : Int) + 1) = ((i + 1 : Nat) : Int) := wrap_succ (by omega)
 have hln : (numN v size i).length = size := by simp [numN]
 by_cases hlt : i < size
 · have w1 : IntKind.i64.wrap ((size : Int) - 1) = ((size - 1 : Nat) : Int) := by rw [wrapi (by omega)]; omega
   have w2 : IntKind.i64.wrap (((size - 1 : Nat) : Int) - (i : Int)) = ((size - 1 - i : Nat) : Int) := by rw [wrapi (by omega)]; omega
   refine run_sound mixed 600 _ ?_
   simp (maxSteps := 3000000) only [w1, w2, w3, hln, go_sem, ↓zA, ↓reduceIte, ↓reduceDIte, reduceCtorEq, Nat.reduceAdd, Nat.reduceSub, Nat.reduceLeDiff, Nat.reduceLT, Nat.reduceEqDiff, Nat.reduceBEq, Nat.reduceMul, Int.reduceToNat, Int.reduceEq, Int.reduceLT, Int.reduceLE] <;> try simp only [zB]
   refine ⟨fun _ => ⟨by omega, ⟨by omega, by omega⟩, ⟨by omega, byte_ob _⟩, i + 1, hlt, by dsimp only; omega, ?_, ?_⟩, fun h => absurd hlt h⟩
   · dsimp only; rw [← numN_set hlt, Nat.zero_add]; rfl
   · with_reducible refine sx1 hwr ?_; trivial
 · refine run_sound mixed 600 _ ?_
   with_reducible refine sx1 hln ?_
   refine ⟨fun h => absurd h hlt, fun _ => ⟨⟨by omega, by omega⟩, ?_⟩⟩
   obtain rfl : i = size := by omega
   rw [numN_all, List.take_of_length_le (by simp [numS])]
theorem element_k (tag : UInt8) (n : Int) (hn : n = tag.toNat) (parts : List (List UInt8)) (hp : parts.length ≤ 1125899906842624) : PC Tryz.prog 142 [.raw (.int .u8 n), .isl (.slice .u8) parts] (.isl .u8 (elemS tag parts)) := by
 subst hn; exact element_c tag parts hp

def restN (v : Int) : Nat → Int
 | 0 => v
 | k + 1 => (restN v k).fdiv 256
def firstN (n : Nat) (q : Nat → Bool) : Option Nat := (List.range n).find? q
theorem firstN_some {n i : Nat} {q : Nat → Bool} (hi : i < n) (hq : q i = true) (hn : ∀ j, j < i → q j = false) : firstN n q = some i := by
 unfold firstN
 rw [List.find?_range_eq_some]
 exact ⟨hq, by simpa using hi, fun j hj => by rw [hn j hj]; rfl⟩
theorem firstN_none {n : Nat} {q : Nat → Bool} (hn : ∀ j, j < n → q j = false) : firstN n q = none := by
 unfold firstN
 rw [List.find?_range_eq_none]
 exact fun j hj => by rw [hn j hj]; rfl
theorem firstN_spec {n i : Nat} {q : Nat → Bool} (h : firstN n q = some i) : i < n ∧ q i = true ∧ ∀ j, j < i → q j = false := by
 unfold firstN at h
 rw [List.find?_range_eq_some] at h
 exact ⟨by simpa using h.2.1, h.1, fun j hj => by simpa using h.2.2 j hj⟩
def oneB (v : Int) (k : Nat) : Bool := decide (-128 ≤ restN v k) && decide (restN v k ≤ 127)
def intSz (v : Int) : Nat := 1 + (firstN 9 (oneB v)).getD 0
def intS (v : Int) : List UInt8 := if -4611686018427387904 ≤ v ∧ v ≤ 4611686018427387904 then elemS 2 [numS v (intSz v)] else []
theorem fdiv256 (r : Int) : r.fdiv 256 = r / 256 := Int.fdiv_eq_ediv_of_nonneg r (by decide)
theorem rest8 {v : Int} (h1 : -4611686018427387904 ≤ v) (h2 : v ≤ 4611686018427387904) : oneB v 8 = true := by
 simp only [oneB, restN, fdiv256, Bool.and_eq_true, decide_eq_true_eq]
 omega
theorem integer_c (v : Int) : PC Tryz.prog 78 [rI v] (.isl .u8 (intS v)) := by
 refine pc_seal rfl rfl ?_
 refine runE mixed fi78 ?_ <;> try with_reducible exact True.intro
 repeat' (first
  | (with_reducible refine And.intro ?_ ?_)
  | (with_reducible intro _))
 all_goals (skip)
 · unfold intS; rw [if_neg (by omega)]
 rotate_left
 · unfold intS; rw [if_neg (by omega)]
 rename_i h1 h2
 have h8 := rest8 (v := v) (by omega) (by omega)
 refine si_loopX (ι := Nat) (fun k => [(3, rI ((1 + k : Nat) : Int)), (4, rI (restN v k))]) (fun _ => []) (fun k => 9 - k) (fun k => k ≤ 8 ∧ ∀ j, j < k → oneB v j = false) 0 ⟨by omega, fun j hj => absurd hj (by omega)⟩ rfl ?_ ?_
 · simp (maxSteps := 3000000) only [restN, go_sem, ↓zA, ↓reduceIte, ↓reduceDIte, reduceCtorEq, Nat.reduceAdd, Nat.reduceSub, Nat.reduceLeDiff, Nat.reduceLT, Nat.reduceEqDiff, Nat.reduceBEq, Nat.reduceMul, Int.reduceToNat, Int.reduceEq, Int.reduceLT, Int.reduceLE] <;> try simp only [zB]
   rfl
 rintro k ⟨hk, hall⟩
 have hwr : IntKind.i64.wrap (((1 + k : Nat) : Int) + 1) = ((1 + (k + 1) : Nat) : Int) := by rw [wrapi (by omega)]; omega
 refine run_sound mixed 600 _ ?_
 with_reducible refine sx1 hwr ?_
 have hp : (2 : Int) ^ min 8 64 = 256 := by decide
 refine ⟨fun h3 => ⟨fun h4 => ?_, fun h4 => ?_⟩, fun h3 => ?_⟩
 · have ho : oneB v k = false := by simp [oneB]; omega
   have hk8 : k ≠ 8 := fun e => by subst e; rw [h8] at ho; cases ho
   refine ⟨k + 1, ⟨by omega, next_all hall ho⟩, by dsimp only; omega, rfl, ?_⟩
   simp (maxSteps := 3000000) only [restN, hp, go_sem, ↓zA, ↓reduceIte, ↓reduceDIte, reduceCtorEq, Nat.reduceAdd, Nat.reduceSub, Nat.reduceLeDiff, Nat.reduceLT, Nat.reduceEqDiff, Nat.reduceBEq, Nat.reduceMul, Int.reduceToNat, Int.reduceEq, Int.reduceLT, Int.reduceLE] <;> try simp only [zB]
 · have ho : oneB v k = true := by simp [oneB]; omega
   have hz : intSz v = 1 + k := by unfold intSz; rw [firstN_some (by omega) ho hall]; rfl
   refine callI_pure (number_c v (1 + k) (by omega)) ?_
   refine goE mixed ?_
   refine callI_hand 0 ?_
   with_reducible refine sxE ?_
   refine callI_pure (element_k 2 2 rfl _ (by simp)) ?_
   refine goE mixed ?_
   unfold intS
   rw [if_pos (by omega), hz]
 · have ho : oneB v k = false := by simp [oneB]; omega
   have hk8 : k ≠ 8 := fun e => by subst e; rw [h8] at ho; cases ho
   refine ⟨k + 1, ⟨by omega, next_all hall ho⟩, by dsimp only; omega, rfl, ?_⟩
   simp (maxSteps := 3000000) only [restN, hp, go_sem, ↓zA, ↓reduceIte, ↓reduceDIte, reduceCtorEq, Nat.reduceAdd, Nat.reduceSub, Nat.reduceLeDiff, Nat.reduceLT, Nat.reduceEqDiff, Nat.reduceBEq, Nat.reduceMul, Int.reduceToNat, Int.reduceEq, Int.reduceLT, Int.reduceLE] <;> try simp only [zB]
theorem octets_c (b : List UInt8) : PC Tryz.prog 193 [.isl .u8 b] (.isl .u8 (elemS 4 [b])) := by
 refine pc_seal rfl rfl ?_
 refine runE mixed fi193 ?_
 refine callI_hand 0 ?_
 with_reducible refine sxE ?_
 refine callI_pure (element_k 4 4 rfl _ (by simp)) ?_
 refine goE mixed ?_; trivial
def timeS (t : Int) : List UInt8 := if 0 ≤ t ∧ t ≤ 1099511627776 then elemS 24 [numS t 6] else []
theorem time_c (t : Int) : PC Tryz.prog 114 [rI t] (.isl .u8 (timeS t)) := by
 refine pc_seal rfl rfl ?_
 refine runE mixed fi114 ?_
 refine ⟨fun h1 => ⟨fun h2 => ?_, fun h2 => ?_⟩, fun h1 => ?_⟩
 · unfold timeS; rw [if_neg (by omega)]
 · refine callI_pure (number_c t 6 (by omega)) ?_
   refine goE mixed ?_
   refine callI_hand 0 ?_
   with_reducible refine sxE ?_
   refine callI_pure (element_k 24 24 rfl _ (by simp)) ?_
   refine goE mixed ?_
   unfold timeS; rw [if_pos (by omega)]
 · unfold timeS; rw [if_neg (by omega)]
theorem sequence_c (l : List (List UInt8)) (hl : l.length ≤ 1125899906842624) : PC Tryz.prog 109 [.isl (.slice .u8) l] (.isl .u8 (elemS 48 l)) := by
 refine pc_seal rfl rfl ?_
 refine runE mixed fi109 ?_
 refine callI_pure (element_k 48 48 rfl _ hl) ?_
 refine goE mixed ?_; trivial
def wrapS (tag n : Int) (b : List UInt8) : List UInt8 := if 0 ≤ n ∧ n ≤ 30 ∧ b ≠ [] then elemS (byteOf (tag + n)) [b] else []
theorem wrapped_c (tag n : Int) (b : List UInt8) (ht : 0 ≤ tag ∧ tag ≤ 1000) : PC Tryz.prog 141 [rI tag, rI n, .isl .u8 b] (.isl .u8 (wrapS tag n b)) := by
 refine pc_seal rfl rfl ?_
 refine runE mixed fi141 ?_
 refine ⟨fun h1 => ⟨fun h2 => ⟨fun h3 => ?_, fun h3 => ?_⟩, fun h2 => ?_⟩, fun h1 => ?_⟩
 · unfold wrapS; rw [if_neg (fun h => h.2.2 (List.length_eq_zero_iff.1 (by omega)))]
 · refine callI_hand 0 ?_
   with_reducible refine sxE ?_
   refine callI_pure (element_k (byteOf (tag + n)) _ ?_ _ (by simp)) ?_
   · rw [wrapi (by omega)]; exact (byte_ob _).symm
   refine goE mixed ?_
   unfold wrapS
   rw [if_pos ⟨by omega, by omega, fun e => h3 (by rw [e]; rfl)⟩]
 · unfold wrapS; rw [if_neg (by omega)]
 · unfold wrapS; rw [if_neg (by omega)]
theorem tagged_c (n : Int) (b : List UInt8) : PC Tryz.prog 77 [rI n, .isl .u8 b] (.isl .u8 (wrapS 160 n b)) := by
 refine pc_seal rfl rfl ?_
 refine runE mixed fi77 ?_
 refine callI_pure (wrapped_c 160 n b (by omega)) ?_
 refine goE mixed ?_; trivial
def bitsS (f : Int) : List UInt8 := elemS 3 [[0], numS f 4]
theorem bits_c (f : Int) (hf : 0 ≤ f ∧ f ≤ 4294967295) : PC Tryz.prog 110 [.raw (.int .u32 f)] (.isl .u8 (bitsS f)) := by
 refine pc_seal rfl rfl ?_
 refine runE mixed fi110 ?_
 rw [wrapi (by omega)]
 refine ⟨by simp, callI_pure (number_c f 4 (by omega)) ?_⟩
 with_reducible refine sxE ?_
 refine si_freeze 0 rfl rfl (by simp) ?_ ?_ ?_
 · with_reducible refine sxE ?_; trivial
 · with_reducible refine sxE ?_; trivial
 with_reducible refine sxE ?_
 refine goE mixed ?_
 refine callI_hand 1 ?_
 with_reducible refine sxE ?_
 refine callI_pure (element_k 3 3 rfl _ (by simp)) ?_
 refine goE mixed ?_
 rfl
theorem dstring_c (s : ByteArray) (hs : s.size ≤ 140737488355328) : PC Tryz.prog 127 [rS s] (.isl .u8 (elemS 27 [s.data.toList])) := by
 refine pc_seal rfl rfl ?_
 refine vc_fi fi127 (run_sound mixed 8 _ ?_)
 simp (maxSteps := 3000000) only [ir127, go_sem, ↓zA, ↓reduceIte, ↓reduceDIte, reduceCtorEq, Nat.reduceAdd, Nat.reduceSub, Nat.reduceLeDiff, Nat.reduceLT, Nat.reduceEqDiff, Nat.reduceBEq, Nat.reduceMul, Int.reduceToNat, Int.reduceEq, Int.reduceLT, Int.reduceLE] <;> try simp only [zB]
 have hl : (bytesOf s).length = s.size := by simp [bytesOf]
 refine si_freeze 0 rfl rfl (by omega) ?_ ?_ ?_
 · with_reducible refine sxE ?_; trivial
 · with_reducible refine sxE ?_
   omega
 with_reducible refine sxE ?_
 refine goE mixed ?_
 refine callI_hand 1 ?_
 with_reducible refine sxE ?_
 rw [List.take_of_length_le (by omega)]
 refine callI_pure (element_k 27 27 rfl _ (by simp)) ?_
 refine goE mixed ?_
 rfl
def fullAt (l : List (List UInt8)) (j : Nat) : Bool := decide (l.getD j (Ty.slice .u8).dflt ≠ [])
def wholeS (l : List (List UInt8)) : List UInt8 := if allN l.length (fullAt l) then elemS 48 l else []
theorem whole_c (l : List (List UInt8)) (hl : l.length ≤ 1125899906842624) : PC Tryz.prog 194 [.isl (.slice .u8) l] (.isl .u8 (wholeS l)) := by
 refine pc_seal rfl rfl ?_
 refine runE mixed fi194 ?_
 refine si_cntD (fun i => [(7, .raw (.int .i64 ((i : Nat) : Int)))]) (l.length) (fun j => (fullAt l) j = true) (by first | decide | simp) (fun i => rfl) ?_ fun i hi hall => ?_
 · (with_reducible refine sxE ?_ <;> try exact True.intro)
   all_goals (try rfl)
 have hwr : IntKind.i64.wrap ((i : Int) + 1) = ((i + 1 : Nat) : Int) := wrap_succ (by omega)
 refine goE mixed ?_
 have bad : i < (l.length) → (fullAt l) i = false → allN (l.length) (fullAt l) = false := fun hlt hv => allN_false hlt hv
 have fin : ¬ i < (l.length) → allN (l.length) (fullAt l) = true := fun h => allN_true fun j hj => hall j (by omega)
 try dsimp only at bad fin hall
 refine ⟨fun hlt => ⟨⟨by omega, hlt⟩, fun h0 => ?_, fun h0 => ?_⟩, fun hge => callI_pure (sequence_c l hl) ?_⟩
 · have : fullAt l i = false := by simp only [fullAt, decide_eq_false_iff_not, ne_eq, Classical.not_not]; exact List.length_eq_zero_iff.1 (by omega)
   unfold wholeS; rw [bad hlt this]; rfl
 · refine ⟨hlt, next_all hall ?_, ⟨_, rfl⟩, ?_⟩
   · simp only [fullAt, decide_eq_true_eq]; exact fun e => h0 (by rw [e]; rfl)
   · with_reducible refine sx1 hwr ?_; trivial
 · refine goE mixed ?_
   unfold wholeS; rw [fin hge]; rfl
def tagN (l : List (List UInt8)) (i : Nat) : List (List UInt8) := (List.range i).map fun (j : Nat) => wrapS 160 j (l.getD j (Ty.slice .u8).dflt)
theorem tagN_succ (l : List (List UInt8)) (i : Nat) : tagN l (i + 1) = tagN l i ++ [wrapS 160 i (l.getD i (Ty.slice .u8).dflt)] := by simp [tagN, List.range_succ]
def fieldsS (l : List (List UInt8)) : List UInt8 := wholeS (tagN l l.length)
theorem fields_c (l : List (List UInt8)) (hl : l.length ≤ 1048576) : PC Tryz.prog 192 [.isl (.slice .u8) l] (.isl .u8 (fieldsS l)) := by
 refine pc_seal rfl rfl ?_
 refine runE mixed fi192 ?_
 refine si_accN 3 (.slice .u8) (fun i => tagN l i) (fun i => [(8, rI i)]) l.length (fun _ => True) rfl (by simp) (by simp [tagN]) rfl (fun i => rfl) ?_ fun i hi _ => ?_
 · with_reducible refine sxE ?_; trivial
 have hwr : IntKind.i64.wrap ((i : Int) + 1) = ((i + 1 : Nat) : Int) := wrap_succ (by omega)
 have hln : (tagN l i).length = i := by simp [tagN]
 have hst := tagN_succ l i
 refine goE mixed ?_
 refine ⟨fun hlt => ⟨⟨by omega, hlt⟩, callI_pure (tagged_c _ _) ?_⟩, fun hge => ?_⟩
 · refine goE mixed ?_
   refine ⟨⟨by omega, by omega⟩, acc_next [_, _] [] hlt trivial (by rw [hst]; rfl) ?_⟩
   with_reducible refine sx3 hwr hst ?_; trivial
 · obtain rfl : i = l.length := by omega
   refine callI_hand 0 ?_
   with_reducible refine sxE ?_
   refine ⟨by omega, ?_⟩
   rw [List.take_of_length_le (by omega)]
   refine ⟨Nat.le_refl _, callI_pure (whole_c (tagN l l.length) (by omega)) ?_⟩
   refine goE mixed ?_
   rfl
def keyS (k : Key) : List UInt8 := fieldsS [intS k.1, intS k.2.1, elemS 4 [k.2.2]]
theorem triple_c (p v : Int) (b : List UInt8) : PC Tryz.prog 148 [rI p, rI v, .isl .u8 b] (.isl .u8 (keyS (p, v, b))) := by
 refine pc_seal rfl rfl ?_
 refine runE mixed fi148 ?_
 refine callI_pure (integer_c p) ?_
 refine goE mixed ?_
 refine callI_pure (integer_c v) ?_
 refine goE mixed ?_
 refine callI_pure (octets_c b) ?_
 refine goE mixed ?_
 refine callI_hand 0 ?_
 with_reducible refine sxE ?_
 refine callI_pure (fields_c _ (by simp)) ?_
 refine goE mixed ?_
 rfl
end Go.Proofs.YthmoognbccfpiaaGreatDoor

/- Contracts: the reference's encoding. -/
namespace Go.Proofs.YthmoognbccfpiaaGreatDoor
open Go Go.Sx Go.Proofs
set_option maxRecDepth 100000
set_option maxHeartbeats 4000000
set_option linter.unusedSimpArgs false

theorem u8w (x : Int) : IntKind.u8.wrap x = x % 256 := by simp [IntKind.wrap, IntKind.bits, IntKind.signed]
theorem b_mod (n : Nat) : UInt8.ofNat (IntKind.u8.wrap ((n : Int).tmod 256)).toNat = byteOf n := by
 unfold byteOf
 rw [u8w, u8w, Int.tmod_eq_emod_of_nonneg (by omega), Int.emod_emod_of_dvd _ (by decide)]
theorem b_quo (n : Nat) (k : Nat) : (n : Int).tdiv k = ((n / k : Nat) : Int) := by
 rw [Int.tdiv_eq_ediv_of_nonneg (by omega)]; rfl
theorem f_quo (n : Nat) (k : Nat) : (n : Int).fdiv k = ((n / k : Nat) : Int) := by
 rw [Int.fdiv_eq_ediv_of_nonneg _ (by omega)]; rfl
theorem tlv_c (tag : Int) (c : List UInt8) (hc : c.length ≤ 1048576) : PC Tryz.prog 104 [rI tag, .isl .u8 c] (.isl .u8 (tlv (byteOf tag) c)) := by
 have q1 : IntKind.i64.wrap ((c.length : Int).tdiv 256) = ((c.length / 256 : Nat) : Int) := by rw [show (256 : Int) = ((256 : Nat) : Int) from rfl, b_quo, wrapi (by omega)]
 have q2 : IntKind.i64.wrap ((c.length : Int).tdiv 65536) = ((c.length / 65536 : Nat) : Int) := by rw [show (65536 : Int) = ((65536 : Nat) : Int) from rfl, b_quo, wrapi (by omega)]
 have f1 : (c.length : Int).fdiv 256 = ((c.length / 256 : Nat) : Int) := f_quo _ 256
 have f2 : (c.length : Int).fdiv 65536 = ((c.length / 65536 : Nat) : Int) := f_quo _ 65536
 have hd : tlv (byteOf tag) c = byteOf tag :: (lenS c.length ++ c) := rfl
 generalize tlv (byteOf tag) c = r at *
 refine pc_seal rfl rfl ?_
 refine vc_fi fi104 (run_sound mixed 600 _ ?_)
 simp (maxSteps := 3000000) only [ir104, q1, q2, go_sem, ↓zA, ↓reduceIte, ↓reduceDIte, reduceCtorEq, Nat.reduceAdd, Nat.reduceSub, Nat.reduceLeDiff, Nat.reduceLT, Nat.reduceEqDiff, Nat.reduceBEq, Nat.reduceMul, Int.reduceToNat, Int.reduceEq, Int.reduceLT, Int.reduceLE] <;> try simp only [zB]
 refine ⟨byte_ob _, fun h1 => ?_, fun h1 => ⟨fun h2 => ?_, fun h2 => ⟨fun h3 => ?_, fun h3 => ?_⟩⟩⟩
 · refine ⟨byte_ob _, ⟨by omega, by omega⟩, ⟨by omega, by omega⟩, ?_⟩
   rw [List.take_of_length_le (by simp; omega), hd, show lenS c.length = [byteOf c.length] by unfold lenS; rw [if_pos (by omega)]]
   rfl
 · refine ⟨⟨rfl, byte_ob _⟩, ⟨by omega, by omega⟩, ⟨by omega, by omega⟩, ?_⟩
   rw [List.take_of_length_le (by simp; omega), hd, show lenS c.length = [129, byteOf c.length] by unfold lenS; rw [if_neg (by omega), if_pos (by omega)]]
   rfl
 · refine ⟨by decide, by decide, ⟨rfl, byte_ob _, byte_ob _⟩, ⟨by omega, by omega⟩, ⟨by omega, by omega⟩, ?_⟩
   rw [List.take_of_length_le (by simp; omega), hd, b_mod, show lenS c.length = [130, byteOf ((c.length : Int).fdiv 256), byteOf c.length] by unfold lenS; rw [if_neg (by omega), if_neg (by omega), if_pos (by omega)], f1]
   rfl
 · refine ⟨by decide, by decide, by decide, by decide, ⟨rfl, byte_ob _, byte_ob _, byte_ob _⟩, ⟨by omega, by omega⟩, ⟨by omega, by omega⟩, ?_⟩
   rw [List.take_of_length_le (by simp; omega), hd, b_mod, b_mod, show lenS c.length = [131, byteOf ((c.length : Int).fdiv 65536), byteOf ((c.length : Int).fdiv 256), byteOf c.length] by unfold lenS; rw [if_neg (by omega), if_neg (by omega), if_neg (by omega)], f1, f2]
   rfl
theorem tlv_k (t : UInt8) (tag : Int) (ht : byteOf tag = t) (c : List UInt8) (hc : c.length ≤ 1048576) : PC Tryz.prog 104 [rI tag, .isl .u8 c] (.isl .u8 (elemS t [c])) := by
 have h := tlv_c tag c hc
 rw [ht] at h
 have e : elemS t [c] = tlv t c := by unfold elemS; simp only [List.flatten_cons, List.flatten_nil, List.append_nil]; rw [if_pos (by omega)]
 rwa [← e] at h
theorem rstr_c (s : ByteArray) (hs : s.size ≤ 1048576) : PC Tryz.prog 107 [rS s] (.isl .u8 (elemS 27 [s.data.toList])) := by
 have hl : (bytesOf s).length = s.size := by simp [bytesOf]
 refine pc_seal rfl rfl ?_
 refine runE mixed fi107 ?_
 refine callI_hand 0 ?_
 with_reducible refine sxE ?_
 refine ⟨by omega, by omega, ?_⟩
 rw [List.take_of_length_le (by omega)]
 refine callI_pure (tlv_k 27 27 (by decide) _ (by omega)) ?_
 refine goE mixed ?_
 rfl
theorem roct_c (b : List UInt8) (hb : b.length ≤ 1048576) : PC Tryz.prog 170 [.isl .u8 b] (.isl .u8 (elemS 4 [b])) := by
 refine pc_seal rfl rfl ?_
 refine runE mixed fi170 ?_
 refine callI_pure (tlv_k 4 4 (by decide) _ hb) ?_
 refine goE mixed ?_; trivial
theorem runless_c (a : Bool) (b : List UInt8) : PC Tryz.prog 105 [rB a, .isl .u8 b] (.isl .u8 (if a then [] else b)) := by
 refine pc_seal rfl rfl ?_
 refine runE mixed fi105 ?_
 cases a <;> simp
theorem elem_flat (t : UInt8) (l : List (List UInt8)) : elemS t [l.flatten] = elemS t l := by unfold elemS; simp
theorem rtag_c (n : Int) (hn : 0 ≤ n ∧ n ≤ 30) (b : List UInt8) (hb : b.length ≤ 1048576) : PC Tryz.prog 47 [rI n, .isl .u8 b] (.isl .u8 (wrapS 160 n b)) := by
 refine pc_seal rfl rfl ?_
 refine runE mixed fi47 ?_
 refine ⟨fun h => ?_, fun h => ?_⟩
 · unfold wrapS; rw [if_neg (fun h' => h'.2.2 (List.length_eq_zero_iff.1 (by omega)))]
 · rw [wrapi (by omega)]
   refine callI_pure (tlv_k (byteOf (160 + n)) _ rfl _ hb) ?_
   refine goE mixed ?_
   unfold wrapS; rw [if_pos ⟨hn.1, hn.2, fun e => h (by rw [e]; rfl)⟩]
theorem rseq_c (l : List (List UInt8)) (hl : l.length ≤ 1048576) (hf : l.flatten.length ≤ 1048576) : PC Tryz.prog 46 [.isl (.slice .u8) l] (.isl .u8 (elemS 48 l)) := by
 refine pc_seal rfl rfl ?_
 refine runE mixed fi46 ?_
 refine si_accN 3 .u8 (flatN l) (fun i => [(4, rI i)]) l.length (fun _ => True) rfl (by simp) (by simp [flatN]) rfl (fun i => rfl) ?_ fun i hi _ => ?_
 · with_reducible refine sxE ?_; trivial
 have hwr : IntKind.i64.wrap ((i : Int) + 1) = ((i + 1 : Nat) : Int) := wrap_succ (by omega)
 have hle := flatN_le l i
 refine goE mixed ?_
 refine ⟨fun hlt => ?_, fun hge => ?_⟩
 · have hst := flatN_succ hlt
   have hle' := flatN_le l (i + 1)
   rw [hst, List.length_append] at hle'
   refine ⟨⟨by omega, hlt⟩, ⟨by omega, by omega⟩, acc_next [.dead] [] hlt trivial (by rw [hst]; rfl) ?_⟩
   with_reducible refine sx3 hwr hst ?_; trivial
 · obtain rfl : i = l.length := by omega
   rw [flatN_all] at *
   refine callI_hand 0 ?_
   with_reducible refine sxE ?_
   refine ⟨by omega, Nat.le_refl _, ?_⟩
   rw [List.take_of_length_le (Nat.le_refl _)]
   refine callI_pure (tlv_k 48 48 (by decide) l.flatten hf) ?_
   refine goE mixed ?_
   exact elem_flat 48 l
end Go.Proofs.YthmoognbccfpiaaGreatDoor

/- Contracts: the reference's numbers. -/
namespace Go.Proofs.YthmoognbccfpiaaGreatDoor
open Go Go.Sx Go.Proofs
set_option maxRecDepth 100000
set_option maxHeartbeats 4000000
set_option linter.unusedSimpArgs false

theorem byteOf_tmod {x : Int} (h : 0 ≤ x) : UInt8.ofNat (IntKind.u8.wrap (x.tmod 256)).toNat = byteOf x := by
 unfold byteOf
 rw [u8w, u8w, Int.tmod_eq_emod_of_nonneg h, Int.emod_emod_of_dvd _ (by decide)]
def qN (n k : Nat) : Nat := n / 256 ^ k
theorem qN_succ (n k : Nat) : qN n (k + 1) = qN n k / 256 := by unfold qN; rw [Nat.pow_succ, Nat.div_div_eq_div_mul]
theorem qN_le (n k : Nat) : qN n k ≤ n := Nat.div_le_self _ _
theorem qN_mono (n : Nat) {k m : Nat} (h : k ≤ m) : qN n m ≤ qN n k := Nat.div_le_div_left (Nat.pow_le_pow_right (by decide) h) (Nat.pos_of_ne_zero (by simp))
theorem restN_nat (n k : Nat) : restN (n : Int) k = (qN n k : Int) := by
 induction k with
 | zero => simp [restN, qN]
 | succ k ih => rw [restN, ih, show (256 : Int) = ((256 : Nat) : Int) from rfl, f_quo, qN_succ]
theorem pow28 (k : Nat) : (2 : Int) ^ (8 * k) = ((256 ^ k : Nat) : Int) := by
 rw [show (256 : Nat) = 2 ^ 8 from rfl, ← Nat.pow_mul]; push_cast; rfl
theorem byteAt_nat (n k : Nat) (hk : k ≤ 8) : byteAt (n : Int) k = byteOf (qN n k : Int) := by
 unfold byteAt
 rw [Nat.min_eq_left (by omega), pow28, f_quo]; rfl
theorem numS_succ (v : Int) (m : Nat) : numS v (m + 1) = byteAt v m :: numS v m := by
 apply List.ext_getElem
 · simp [numS]
 · intro j h1 h2
   cases j with
   | zero => simp [numS]
   | succ j =>
    simp only [numS, List.getElem_map, List.getElem_range, List.getElem_cons_succ]
    congr 1
    omega
theorem rint_c (n : Nat) (hn : n ≤ 4611686018427387904) : PC Tryz.prog 48 [rI n] (.isl .u8 (intS n)) := by
 refine pc_seal rfl rfl ?_
 have q0 : IntKind.i64.wrap ((n : Int).tdiv 256) = (qN n 1 : Int) := by rw [show (256 : Int) = ((256 : Nat) : Int) from rfl, b_quo, wrapi (by omega)]; rfl
 refine vc_fi fi48 (run_sound mixed 600 _ ?_)
 simp (maxSteps := 3000000) only [ir48, q0, go_sem, ↓zA, ↓reduceIte, ↓reduceDIte, reduceCtorEq, Nat.reduceAdd, Nat.reduceSub, Nat.reduceLeDiff, Nat.reduceLT, Nat.reduceEqDiff, Nat.reduceBEq, Nat.reduceMul, Int.reduceToNat, Int.reduceEq, Int.reduceLT, Int.reduceLE] <;> try simp only [zB]
 refine ⟨by decide, byte_ob _, by decide, ?_⟩
 rw [b_mod]
 have h0 : [byteOf (n : Int)] = numS n 1 := by simp [numS, byteAt]
 rw [h0]
 refine si_loopX (ι := Nat × List SObj) (fun x => [(0, rI (qN n (x.1 + 1) : Int)), (3, .bld x.2.length .u8 (x.1 + 1))]) (fun x => x.2 ++ [.row .u8 (numS n (x.1 + 1))]) (fun x => 8 - x.1) (fun x => x.1 ≤ 7 ∧ (x.1 ≠ 0 → 0 < qN n x.1)) (0, []) ⟨by omega, fun h => absurd rfl h⟩ rfl ?_ ?_
 · with_reducible refine sxE ?_; trivial
 rintro ⟨j, G⟩ ⟨hj, hpos⟩
 dsimp only at hj hpos
 have hln : (numS (n : Int) (j + 1)).length = j + 1 := by simp [numS]
 have q1 : IntKind.i64.wrap ((qN n (j + 1) : Int).tdiv 256) = (qN n (j + 1 + 1) : Int) := by
  have h1 := qN_le n (j + 1 + 1)
  rw [show (256 : Int) = ((256 : Nat) : Int) from rfl, b_quo, ← qN_succ, wrapi (by omega)]
 have htk : List.take (j + 1) (numS (n : Int) (j + 1)) = numS n (j + 1) := List.take_of_length_le (by omega)
 have hdiv := qN_succ n
 have hbig : ∀ k, k < j → oneB (n : Int) k = false := fun k hk => by
  have h1 : qN n j ≤ qN n (k + 1) := qN_mono n (by omega)
  have h2 := hpos (by omega)
  have h3 := hdiv k
  unfold oneB
  rw [restN_nat, decide_eq_false (show ¬ ((qN n k : Int) ≤ 127) by omega)]
  simp
 refine run_sound mixed 600 _ ?_
 simp (maxSteps := 3000000) only [q1, hln, htk, List.append_assoc, getA, getA0, setA, setA0, List.length_append, Nat.add_assoc, go_sem, ↓zA, ↓reduceIte, ↓reduceDIte, reduceCtorEq, Nat.reduceAdd, Nat.reduceSub, Nat.reduceLeDiff, Nat.reduceLT, Nat.reduceEqDiff, Nat.reduceBEq, Nat.reduceMul, Int.reduceToNat, Int.reduceEq, Int.reduceLT, Int.reduceLE] <;> try simp only [zB]
 refine ⟨fun hp => ?_, fun hz => ?_⟩
 · have hj7 : j + 1 ≤ 7 := by
    rcases Nat.lt_or_ge j 7 with h | h
    · omega
    · exfalso
      obtain rfl : j = 7 := by omega
      have h8 : qN n (7 + 1) = 0 := Nat.div_eq_of_lt (by omega)
      omega
   refine ⟨by decide, byte_ob _, ⟨Nat.le_refl _, by omega, by omega⟩, by decide, (j + 1, G ++ [.row .u8 (numS n (j + 1)), .dead]), ⟨hj7, fun _ => by dsimp only; omega⟩, by dsimp only; omega, ?_, ?_⟩
   · dsimp only
     rw [byteOf_tmod (by omega), ← byteAt_nat n (j + 1) (by omega), ← numS_succ, List.append_assoc]
     rfl
   · with_reducible refine sxaE ?_
     exact congrArg (SV.bld (G.length + 2) .u8) (by omega)
 · have hz0 : qN n (j + 1) = 0 := by omega
   have hd := hdiv j
   have hlt : qN n j < 256 := by omega
   have htop : (numS (n : Int) (j + 1)).getD 0 Ty.u8.dflt = byteOf (qN n j : Int) := by
    rw [numS_succ, List.getD_cons_zero, byteAt_nat n j (by omega)]
   have htn : ((byteOf (qN n j : Int)).toNat : Int) = (qN n j : Int) := by
    unfold byteOf
    rw [byte_ob, u8w]; omega
   have hint : intS (n : Int) = elemS 2 [numS n (intSz n)] := by unfold intS; rw [if_pos (by omega)]
   rw [htop, htn]
   refine ⟨by omega, by omega, fun h128 => ⟨rfl, ⟨Nat.le_refl _, by omega, by omega⟩, ?_⟩, fun h128 => ?_⟩
   · have hsz : intSz (n : Int) = j + 1 + 1 := by
      unfold intSz
      rw [firstN_some (i := j + 1) (by omega) (by unfold oneB; rw [restN_nat, hz0]; rfl) (fun k hk => by
       rcases Nat.lt_or_ge k j with h | h
       · exact hbig k h
       · obtain rfl : k = j := by omega
         unfold oneB; rw [restN_nat, decide_eq_false (show ¬ ((qN n k : Int) ≤ 127) by omega)]; simp)]
      simp; omega
     have hrow : UInt8.ofNat 0 :: numS (n : Int) (j + 1) = numS n (j + 1 + 1) := by
      rw [numS_succ (n : Int) (j + 1), byteAt_nat n (j + 1) (by omega), hz0]; rfl
     rw [hrow]
     have hl2 : (numS (n : Int) (j + 2)).length = j + 2 := by simp [numS]
     refine callI_hand (G.length + 2) ?_
     with_reducible refine sxaE ?_
     refine ⟨by omega, by omega, ?_⟩
     rw [List.take_of_length_le (by omega)]
     refine callI_pure (tlv_k 2 2 (by decide) _ (by omega)) ?_
     refine goE mixed ?_
     rw [hint, hsz]
   · have hsz : intSz (n : Int) = j + 1 := by
      unfold intSz
      rw [firstN_some (i := j) (by omega) (by unfold oneB; rw [restN_nat, decide_eq_true (show ((qN n j : Int) ≤ 127) by omega), decide_eq_true (show (-128 ≤ (qN n j : Int)) by omega)]; rfl) hbig]
      simp; omega
     refine callI_hand G.length ?_
     with_reducible refine sxaE ?_
     refine ⟨by omega, by omega, ?_⟩
     rw [List.take_of_length_le (by omega)]
     refine callI_pure (tlv_k 2 2 (by decide) _ (by omega)) ?_
     refine goE mixed ?_
     rw [hint, hsz]
end Go.Proofs.YthmoognbccfpiaaGreatDoor

/- Contracts: distinct. -/
namespace Go.Proofs.YthmoognbccfpiaaGreatDoor
open Go Go.Sx Go.Proofs
set_option maxRecDepth 100000
set_option maxHeartbeats 4000000
set_option linter.unusedSimpArgs false

def dec : Bool → List UInt8 → List UInt8 → List (List UInt8)
 | _, cur, [] => [cur]
 | true, cur, c :: r => dec false (cur ++ [c]) r
 | false, cur, c :: r => if c = 92 then dec true cur r else if c = 47 then cur :: dec false [] r else dec false (cur ++ [c]) r
end Go.Proofs.YthmoognbccfpiaaGreatDoor

/- Realms, plainly; contracts of the reference's names. -/
namespace Go.Proofs.YthmoognbccfpiaaGreatDoor
open Go Go.Sx Go.Proofs
set_option maxRecDepth 100000
set_option maxHeartbeats 4000000
set_option linter.unusedSimpArgs false

def rlmR : Bool → List UInt8 → Bool
 | prev, [] => !prev
 | prev, c :: cs => if c == 46 then !prev && rlmR true cs else realmChar c && rlmR false cs
def labL (l : List UInt8) : Bool := decide (0 < l.length) && l.all realmChar
theorem split_R : ∀ (cs cur : List UInt8), (splitGo cur cs).all labL = (cur.all realmChar && rlmR cur.isEmpty cs)
 | [], cur => by cases cur <;> simp [splitGo, labL, rlmR, Bool.and_comm]
 | c :: cs, cur => by
  rw [splitGo, rlmR]
  split
  · have := split_R cs []
    simp only [List.all_cons, this, List.all_nil, List.isEmpty_nil, Bool.true_and]
    cases cur <;> simp [labL, Bool.and_comm, Bool.and_left_comm]
  · have := split_R cs (c :: cur)
    rw [this, List.all_cons, List.isEmpty_cons]
    cases realmChar c <;> simp
def rlmAt (prev : Bool) (l : List UInt8) (j : Nat) : Bool :=
 if l.getD j 0 = 46 then decide (j + 1 < l.length) && (if j = 0 then !prev else decide (l.getD (j - 1) 0 ≠ 46)) else realmChar (l.getD j 0)
theorem rlmR_at : ∀ (l : List UInt8) (prev : Bool), l ≠ [] → rlmR prev l = allN l.length (rlmAt prev l)
 | [], _, h => absurd rfl h
 | [c], prev, _ => by
  simp only [rlmR, allN, List.length_singleton, List.range_one, List.all_cons, List.all_nil, Bool.and_true, rlmAt]
  by_cases h : c = 46 <;> simp [h]
 | c :: d :: l, prev, _ => by
  have ih := rlmR_at (d :: l) (c == 46) (by simp)
  have hs : ∀ j, rlmAt prev (c :: d :: l) (j + 1) = rlmAt (c == 46) (d :: l) j := fun j => by
   unfold rlmAt
   simp only [List.getD_cons_succ, List.length_cons, Nat.add_sub_cancel]
   cases j with
   | zero =>
    by_cases h : c = 46
    · simp [h]
    · have : (c == 46) = false := by simpa using h
      simp [h, this]
   | succ j => simp
  have ha : allN (c :: d :: l).length (rlmAt prev (c :: d :: l)) = (rlmAt prev (c :: d :: l) 0 && allN (d :: l).length (rlmAt (c == 46) (d :: l))) := by
   rw [Bool.eq_iff_iff, Bool.and_eq_true, allN_iff, allN_iff]
   constructor
   · intro h
     exact ⟨h 0 (by simp), fun j hj => by rw [← hs]; exact h (j + 1) (by simp at hj ⊢; omega)⟩
   · rintro ⟨h0, h⟩ j hj
     cases j with
     | zero => exact h0
     | succ j => rw [hs]; exact h j (by simp at hj ⊢; omega)
  rw [ha, ← ih, rlmR]
  by_cases h : c = 46
  · subst h; simp [rlmAt]
  · have : (c == 46) = false := by simpa using h
    simp [rlmAt, h, this]
theorem realmB_at (s : ByteArray) : realmB s = (szB s && allN s.size (rlmAt true s.data.toList)) := by
 have h1 : sizedB s = szB s := by
  unfold sizedB szB
  rw [Bool.eq_iff_iff]; simp; omega
 have h2 : (splitB s).all labelB = (splitDot s.data.toList).all labL := by
  unfold splitB
  rw [List.all_map]
  congr 1
 rw [realmB, h1, h2, splitDot, split_R, List.all_nil, List.isEmpty_nil, Bool.true_and]
 by_cases h : s.data.toList = []
 · have : s.size = 0 := by
    have := congrArg List.length h
    simpa using this
   simp [szB, this]
 · rw [rlmR_at _ _ h]; first | rfl | simp
theorem u8_eq {c : UInt8} {n : Nat} (hn : n < 256) : c = UInt8.ofNat n ↔ (c.toNat : Int) = n := by
 have h : (UInt8.ofNat n).toNat = n := by rw [UInt8.toNat_ofNat']; omega
 rw [← UInt8.toNat_inj, h]; omega
theorem realmChar_iff (c : UInt8) : realmChar c = true ↔ (c.toNat : Int) = 45 ∨ (65 ≤ (c.toNat : Int) ∧ (c.toNat : Int) ≤ 90) ∨ (48 ≤ (c.toNat : Int) ∧ (c.toNat : Int) ≤ 57) := by
 have h := u8_eq (c := c) (n := 45) (by decide)
 simp only [realmChar, Bool.or_eq_true, Bool.and_eq_true, decide_eq_true_eq, beq_iff_eq]
 have h' : c = 45 ↔ (c.toNat : Int) = 45 := h
 rw [h']
 omega
theorem rlm_iff {s : ByteArray} {i : Nat} (hlt : i < s.size) : rlmAt true s.data.toList i = true ↔
 (if ((s.data.toList.getD i 0).toNat : Int) = 46 then (i : Int) ≠ 0 ∧ (i : Int) ≠ ((s.size - 1 : Nat) : Int) ∧ ((s.data.toList.getD (i - 1) 0).toNat : Int) ≠ 46 else ((s.data.toList.getD i 0).toNat : Int) = 45 ∨ (65 ≤ ((s.data.toList.getD i 0).toNat : Int) ∧ ((s.data.toList.getD i 0).toNat : Int) ≤ 90) ∨ (48 ≤ ((s.data.toList.getD i 0).toNat : Int) ∧ ((s.data.toList.getD i 0).toNat : Int) ≤ 57)) := by
 have hl : s.data.toList.length = s.size := by simp
 have h46 : ∀ c : UInt8, c = 46 ↔ (c.toNat : Int) = 46 := fun c => u8_eq (c := c) (n := 46) (by decide)
 unfold rlmAt
 rw [← realmChar_iff, hl]
 by_cases hc : s.data.toList.getD i 0 = 46
 · rw [if_pos hc, if_pos ((h46 _).1 hc), Bool.and_eq_true, decide_eq_true_eq]
   by_cases h0 : i = 0
   · simp [h0]
   · rw [if_neg h0, decide_eq_true_eq, ne_eq, h46]
     omega
 · rw [if_neg hc, if_neg (fun h => hc ((h46 _).2 h))]
theorem rbad {s : ByteArray} {i : Nat} (hlt : i < s.size) (h : ¬ rlmAt true s.data.toList i = true) : false = (szB s && allN s.size (rlmAt true s.data.toList)) := by
 rw [allN_false hlt (by simpa using h)]; simp
theorem rrealm_c (s : ByteArray) (hs : s.size ≤ 140737488355328) : PC Tryz.prog 69 [rS s] (rB (realmB s)) := by
 refine pc_of rfl rfl ?_
 rw [realmB_at]
 refine runE mixed fi69 ?_
 refine si_cnt 3 s.size (fun j => rlmAt true s.data.toList j = true) ?_ fun i hi hall => ?_
 · with_reducible refine sxE ?_; trivial
 have e1 : IntKind.i64.wrap ((s.size : Int) - 1) = (s.size : Int) - 1 := by rw [wrapi (by omega)]
 refine goE mixed ?_
 refine ⟨fun hlt => ?_, fun hge => ?_⟩
 · have e3 : ((s.size - 1 : Nat) : Int) = (s.size : Int) - 1 := by omega
   have hri := rlm_iff hlt
   rw [e1]
   rcases Nat.eq_zero_or_pos i with hz | hpos
   · have e2 : ∀ k : Nat, IntKind.i64.wrap ((i : Int) - 1) = k → i = 0 := fun _ _ => hz
     repeat' (first | apply And.intro | intro _)
     all_goals first | omega | (refine rbad hlt ?_; rw [hri]; split <;> omega) | refine cnt_next hlt hall (by rw [hri]; split <;> omega) ?_
     all_goals (with_reducible refine sxE ?_ <;> try exact True.intro)
     all_goals first | rw [wrap_succ (by omega)] | rfl
   · have e2 : IntKind.i64.wrap ((i : Int) - 1) = ((i - 1 : Nat) : Int) := by rw [wrapi (by omega)]; omega
     rw [e2]
     simp only [Int.toNat_natCast]
     repeat' (first | apply And.intro | intro _)
     all_goals first | omega | (refine rbad hlt ?_; rw [hri]; split <;> omega) | refine cnt_next hlt hall (by rw [hri]; split <;> omega) ?_
     all_goals (with_reducible refine sxE ?_ <;> try exact True.intro)
     all_goals first | rw [wrap_succ (by omega)] | rfl
 · rw [allN_true fun j hj => hall j (by omega), Bool.and_true, szB]
   refine ⟨fun h => ?_, fun h => ?_⟩ <;> simp [h]
theorem rvis_c (s : ByteArray) (hs : s.size ≤ 140737488355328) : PC Tryz.prog 68 [rS s] (rB (visB s)) := by
 refine pc_of rfl rfl ?_
 refine runE mixed fi68 ?_
 refine si_cnt 3 s.size (fun j => visC (s.data.toList.getD j 0) = true) ?_ fun i hi hall => ?_
 · with_reducible refine sxE ?_; trivial
 refine goE mixed ?_
 refine ⟨fun hlt => ⟨⟨by omega, hlt⟩, fun h33 => ⟨⟨by omega, hlt⟩, fun h126 => ?_, fun h126 => cnt_next hlt hall ?_ ?_⟩, fun h33 => ?_⟩, fun hge => ?_⟩
 · rw [show visB s = false from allN_false hlt (visC_hi h126)]
 · exact visC_of h33 h126
 · with_reducible refine sxE ?_
   rw [wrap_succ (by omega)]
 · rw [show visB s = false from allN_false hlt (visC_lo h33)]
 · rw [show visB s = true from allN_true fun j hj => hall j (by omega)]
end Go.Proofs.YthmoognbccfpiaaGreatDoor

/- Contracts: what is valid. -/
namespace Go.Proofs.YthmoognbccfpiaaGreatDoor
open Go Go.Sx Go.Proofs
set_option maxRecDepth 100000
set_option maxHeartbeats 4000000
set_option linter.unusedSimpArgs false

end Go.Proofs.YthmoognbccfpiaaGreatDoor

/- Contracts: entries that are valid. -/
namespace Go.Proofs.YthmoognbccfpiaaGreatDoor
open Go Go.Sx Go.Proofs
set_option maxRecDepth 100000
set_option maxHeartbeats 4000000
set_option linter.unusedSimpArgs false

end Go.Proofs.YthmoognbccfpiaaGreatDoor

/- Contracts: copies. -/
namespace Go.Proofs.YthmoognbccfpiaaGreatDoor
open Go Go.Sx Go.Proofs
set_option maxRecDepth 100000
set_option maxHeartbeats 4000000
set_option linter.unusedSimpArgs false

theorem bclone_c (l : List UInt8) (hl : l.length ≤ 140737488355328) : PC Tryz.prog 167 [.isl .u8 l] (.isl .u8 l) := by
 refine pc_seal rfl rfl ?_
 refine runE mixed fi167 ?_
 intro b hb
 refine ⟨hb, fun h => ⟨⟨by omega, by omega⟩, ⟨by omega, by omega⟩, List.take_of_length_le (by omega)⟩⟩
end Go.Proofs.YthmoognbccfpiaaGreatDoor

/- Contracts: the encoding of entries and offers. -/
namespace Go.Proofs.YthmoognbccfpiaaGreatDoor
open Go Go.Sx Go.Proofs
set_option maxRecDepth 100000
set_option maxHeartbeats 4000000
set_option linter.unusedSimpArgs false

def tagS (l : List (List UInt8)) : List UInt8 := elemS 48 (tagN l l.length)
def strsN (l : List ByteArray) (i : Nat) : List (List UInt8) := (l.take i).map fun s => elemS 27 [s.data.toList]
theorem strsN_succ {l : List ByteArray} {i : Nat} (h : i < l.length) : strsN l (i + 1) = strsN l i ++ [elemS 27 [(l.getD i Ty.str.dflt).data.toList]] := by unfold strsN; rw [take_succ_getD (d := Ty.str.dflt) h]; simp
theorem strsN_len {l : List ByteArray} {i : Nat} (h : i ≤ l.length) : (strsN l i).length = i := by simp [strsN]; omega
def prinS (p : Prin) : List UInt8 := elemS 48 [wrapS 160 0 (elemS 48 (strsN p.1 p.1.length)), wrapS 160 1 (elemS 27 [p.2.data.toList])]
theorem nencode_c (p : Prin) (hp : PrinT.ok p) : PC Tryz.prog 146 [.agg (PrinT.cells p)] (.tup [.isl .u8 (if vPrin p then prinS p else []), rI (if vPrin p then 0 else 2)]) := by
 obtain ⟨l, r⟩ := p
 have hps : prinS (l, r) = elemS 48 [wrapS 160 0 (elemS 48 (strsN l l.length)), wrapS 160 1 (elemS 27 [r.data.toList])] := rfl
 have hok : ∀ {i}, i < l.length → (l.getD i Ty.str.dflt).size ≤ 140737488355328 := fun h => hp.1.2 _ (getD_mem h)
 have hr : r.size ≤ 140737488355328 := hp.2
 have hv := nvalid_c (l, r) hp
 have hv4 : vPrin (l, r) = true → l.length ≤ 4 := fun h => by simp [vPrin] at h; omega
 clear hp
 generalize vPrin (l, r) = vb at *
 generalize prinS (l, r) = ps at *
 change List ByteArray at l
 refine pc_seal rfl rfl ?_
 refine runE mixed fi146 ?_
 refine callI_pure hv ?_
 refine goE mixed ?_
 refine ⟨fun h => ?_, fun h => ?_⟩
 · rw [h]; exact ⟨rfl, rfl⟩
 have hl4 : l.length ≤ 4 := hv4 h
 subst h
 refine si_accN 4 (.slice .u8) (strsN l) (fun i => [(13, rI i)]) l.length (fun _ => True) rfl (by simp) (by simp [strsN]) rfl (fun i => rfl) ?_ fun i hi _ => ?_
 · with_reducible refine sxE ?_; trivial
 have hwr : IntKind.i64.wrap ((i : Int) + 1) = ((i + 1 : Nat) : Int) := wrap_succ (by omega)
 have hln := strsN_len hi
 by_cases hlt : i < l.length
 · refine goE mixed ?_
   refine ⟨fun _ => ⟨⟨by omega, hlt⟩, callI_pure (dstring_c _ (hok hlt)) ?_⟩, fun h => absurd hlt h⟩
   refine goE mixed ?_
   have hst := strsN_succ hlt
   refine ⟨⟨by omega, by omega⟩, acc_next [_, _] [] hlt trivial (by rw [hst]; rfl) ?_⟩
   with_reducible refine sx3 hwr hst ?_; trivial
 · obtain rfl : i = l.length := by omega
   refine si_freeze 1 rfl rfl (by omega) ?_ ?_ ?_
   · with_reducible refine sxE ?_; trivial
   · with_reducible refine sxE ?_
     exact Nat.le_refl _
   with_reducible refine sxE ?_
   rw [List.take_of_length_le (Nat.le_refl _)]
   refine goE mixed ?_
   refine ⟨fun h => absurd h hlt, fun _ => callR_pure (sequence_c _ (by omega)) ?_⟩
   refine goE mixed ?_
   refine callR_pure (tagged_c _ _) ?_
   refine goE mixed ?_
   refine callR_pure (dstring_c r hr) ?_
   refine goE mixed ?_
   refine callR_pure (tagged_c _ _) ?_
   refine goE mixed ?_
   refine callR_hand 2 (by decide) ?_
   with_reducible refine sxE ?_
   refine callR_pure (sequence_c _ (by simp)) ?_
   refine goE mixed ?_
   exact hps.symm
end Go.Proofs.YthmoognbccfpiaaGreatDoor

/- Contracts: the encoding of entries and offers, as a whole. -/
namespace Go.Proofs.YthmoognbccfpiaaGreatDoor
open Go Go.Sx Go.Proofs
set_option maxRecDepth 100000
set_option maxHeartbeats 4000000
set_option linter.unusedSimpArgs false

def mapN {t : Ty} (w : t.den → List UInt8) (l : List t.den) (i : Nat) : List (List UInt8) := (l.take i).map w
theorem mapN_succ {t : Ty} {w : t.den → List UInt8} {l : List t.den} {i : Nat} (h : i < l.length) : mapN w l (i + 1) = mapN w l i ++ [w (l.getD i t.dflt)] := by unfold mapN; rw [take_succ_getD (d := t.dflt) h]; simp
theorem mapN_len {t : Ty} {w : t.den → List UInt8} {l : List t.den} {i : Nat} (h : i ≤ l.length) : (mapN w l i).length = i := by simp [mapN]; omega
def prinE (p : Prin) : List UInt8 := if vPrin p then prinS p else []
end Go.Proofs.YthmoognbccfpiaaGreatDoor

/- Contracts: the reference on keys and principals. -/
namespace Go.Proofs.YthmoognbccfpiaaGreatDoor
open Go Go.Sx Go.Proofs
set_option maxRecDepth 100000
set_option maxHeartbeats 4000000
set_option linter.unusedSimpArgs false

def inR (v lo hi : Int) : Bool := decide (lo ≤ v) && decide (v ≤ hi)
theorem rin_c (v lo hi : Int) : PC Tryz.prog 67 [rI v, rI lo, rI hi] (rB (inR v lo hi)) := by
 refine pc_of rfl rfl ?_
 refine runE mixed fi67 ?_ <;> try with_reducible exact True.intro
 repeat' (first
  | (with_reducible refine And.intro ?_ ?_)
  | (with_reducible intro _))
 all_goals (grind [inR])
theorem rkl_c (p : Int) : PC Tryz.prog 70 [rI p] (rI (keyLen p)) := by
 refine pc_of rfl rfl ?_
 refine runE mixed fi70 ?_ <;> try with_reducible exact True.intro
 repeat' (first
  | (with_reducible refine And.intro ?_ ?_)
  | (with_reducible intro _))
 all_goals (simp_all [keyLen])
theorem strOf_inj {xs ys : List UInt8} : strOf xs = strOf ys ↔ xs = ys := by
 constructor
 · intro h
   have := congrArg (fun s : ByteArray => s.data.toList) h
   simpa [strOf] using this
 · rintro rfl; rfl
def partAt (l : List ByteArray) (j : Nat) : Bool := vPart (l.getD j ByteArray.empty)
theorem rvp_c (p : Prin) (hp : PrinT.ok p) : PC Tryz.prog 28 [.agg (PrinT.cells p)] (rB (vPrin p)) := by
 obtain ⟨l, r⟩ := p
 have hl : l.length ≤ 1125899906842624 := hp.1.1
 have hd : vPrin (l, r) = ((decide (1 ≤ (l.length : Int)) && (decide ((l.length : Int) ≤ 4) && realmB r)) && allN l.length (partAt l)) := rfl
 refine pc_of rfl rfl ?_
 refine runE mixed fi28 ?_
 refine si_cntD (fun i => [(3, .raw (.int .i64 ((i : Nat) : Int)))]) (l.length) (fun j => (partAt l) j = true) (by first | decide | simp) (fun i => rfl) ?_ fun i hi hall => ?_
 · (with_reducible refine sxE ?_ <;> try exact True.intro)
   all_goals (try rfl)
 have hwr : IntKind.i64.wrap ((i : Int) + 1) = ((i + 1 : Nat) : Int) := wrap_succ (by omega)
 refine goE mixed ?_
 have bad : i < (l.length) → (partAt l) i = false → allN (l.length) (partAt l) = false := fun hlt hv => allN_false hlt hv
 have fin : ¬ i < (l.length) → allN (l.length) (partAt l) = true := fun h => allN_true fun j hj => hall j (by omega)
 try dsimp only at bad fin hall
 repeat' (first
  | (refine callI_pure (rvis_c _ (hp.1.2 _ (getD_mem ‹_›))) ?_; refine run_sound mixed 600 _ ?_; simp (maxSteps := 3000000) only [go_sem, ↓zA, ↓reduceIte, ↓reduceDIte, reduceCtorEq, Nat.reduceAdd, Nat.reduceSub, Nat.reduceLeDiff, Nat.reduceLT, Nat.reduceEqDiff, Nat.reduceBEq, Nat.reduceMul, Int.reduceToNat, Int.reduceEq, Int.reduceLT, Int.reduceLE] <;> try simp only [zB])
  | (refine callR_pure (rvis_c _ (hp.1.2 _ (getD_mem ‹_›))) ?_; refine run_sound mixed 600 _ ?_; simp (maxSteps := 3000000) only [go_sem, ↓zA, ↓reduceIte, ↓reduceDIte, reduceCtorEq, Nat.reduceAdd, Nat.reduceSub, Nat.reduceLeDiff, Nat.reduceLT, Nat.reduceEqDiff, Nat.reduceBEq, Nat.reduceMul, Int.reduceToNat, Int.reduceEq, Int.reduceLT, Int.reduceLE] <;> try simp only [zB])
  | (refine callF_pure (rvis_c _ (hp.1.2 _ (getD_mem ‹_›))) ?_; refine run_sound mixed 600 _ ?_; simp (maxSteps := 3000000) only [go_sem, ↓zA, ↓reduceIte, ↓reduceDIte, reduceCtorEq, Nat.reduceAdd, Nat.reduceSub, Nat.reduceLeDiff, Nat.reduceLT, Nat.reduceEqDiff, Nat.reduceBEq, Nat.reduceMul, Int.reduceToNat, Int.reduceEq, Int.reduceLT, Int.reduceLE] <;> try simp only [zB])
  | (refine callI_pure (rrealm_c _ hp.2) ?_; refine run_sound mixed 600 _ ?_; simp (maxSteps := 3000000) only [go_sem, ↓zA, ↓reduceIte, ↓reduceDIte, reduceCtorEq, Nat.reduceAdd, Nat.reduceSub, Nat.reduceLeDiff, Nat.reduceLT, Nat.reduceEqDiff, Nat.reduceBEq, Nat.reduceMul, Int.reduceToNat, Int.reduceEq, Int.reduceLT, Int.reduceLE] <;> try simp only [zB])
  | (refine callR_pure (rrealm_c _ hp.2) ?_; refine run_sound mixed 600 _ ?_; simp (maxSteps := 3000000) only [go_sem, ↓zA, ↓reduceIte, ↓reduceDIte, reduceCtorEq, Nat.reduceAdd, Nat.reduceSub, Nat.reduceLeDiff, Nat.reduceLT, Nat.reduceEqDiff, Nat.reduceBEq, Nat.reduceMul, Int.reduceToNat, Int.reduceEq, Int.reduceLT, Int.reduceLE] <;> try simp only [zB])
  | (refine callF_pure (rrealm_c _ hp.2) ?_; refine run_sound mixed 600 _ ?_; simp (maxSteps := 3000000) only [go_sem, ↓zA, ↓reduceIte, ↓reduceDIte, reduceCtorEq, Nat.reduceAdd, Nat.reduceSub, Nat.reduceLeDiff, Nat.reduceLT, Nat.reduceEqDiff, Nat.reduceBEq, Nat.reduceMul, Int.reduceToNat, Int.reduceEq, Int.reduceLT, Int.reduceLE] <;> try simp only [zB])
  | (with_reducible refine And.intro ?_ ?_)
  | (with_reducible intro _))
 all_goals (first | (with_reducible (refine (id ?_ : SoundI _ _ _))) | ((try simp only [Ty.dflt] at *); first | omega | (refine ⟨by omega, next_all hall (by grind [partAt, vPart, szB]), ⟨_, by first | rfl | exact List.append_assoc _ _ _ | (simp only [List.append_assoc, List.cons_append, List.nil_append]; rfl)⟩, ?_⟩; simp only [hwr, go_sem, ↓zA, ↓reduceIte, ↓reduceDIte, reduceCtorEq, Nat.reduceAdd, Nat.reduceSub, Nat.reduceLeDiff, Nat.reduceLT, Nat.reduceEqDiff, Nat.reduceBEq, Nat.reduceMul, Int.reduceToNat, Int.reduceEq, Int.reduceLT, Int.reduceLE] <;> (first | rfl | (grind [partAt, vPart, szB]))) | (refine ⟨_, rfl⟩) | (refine ⟨_, List.append_assoc _ _ _⟩) | (grind [partAt, vPart, szB])))
def eqAt {α : Type} [DecidableEq α] (l l' : List α) (d : α) (j : Nat) : Bool := decide (l.getD j d = l'.getD j d)
theorem sameN {α : Type} [DecidableEq α] (l l' : List α) (d : α) : (l = l') ↔ (l.length = l'.length ∧ allN l.length (eqAt l l' d) = true) := by
 constructor
 · rintro rfl
   exact ⟨rfl, allN_true fun j _ => by simp [eqAt]⟩
 · rintro ⟨h1, h2⟩
   apply List.ext_getElem h1
   intro j g1 g2
   have := allN_iff.1 h2 j g1
   simp only [eqAt, decide_eq_true_eq, List.getD_eq_getElem?_getD, List.getElem?_eq_getElem g1, List.getElem?_eq_getElem g2, Option.getD_some] at this
   exact this
theorem rsp_c (a b : Prin) (ha : PrinT.ok a) : PC Tryz.prog 54 [.agg (PrinT.cells a), .agg (PrinT.cells b)] (rB (decide (a = b))) := by
 obtain ⟨l, r⟩ := a
 obtain ⟨l', r'⟩ := b
 have hl : l.length ≤ 1125899906842624 := ha.1.1
 refine pc_of rfl rfl ?_
 refine runE mixed fi54 ?_ <;> try with_reducible exact True.intro
 repeat' (first
  | (with_reducible refine And.intro ?_ ?_)
  | (with_reducible intro _))
 all_goals (skip)
 · grind
 · refine si_cntD (fun i => [(5, .raw (.int .i64 ((i : Nat) : Int)))]) (l.length) (fun j => (eqAt l l' ByteArray.empty) j = true) (by first | decide | simp) (fun i => rfl) ?_ fun i hi hall => ?_
   · (with_reducible refine sxE ?_ <;> try exact True.intro)
     all_goals (try rfl)
   have hwr : IntKind.i64.wrap ((i : Int) + 1) = ((i + 1 : Nat) : Int) := wrap_succ (by omega)
   refine goE mixed ?_
   have bad : i < (l.length) → (eqAt l l' ByteArray.empty) i = false → allN (l.length) (eqAt l l' ByteArray.empty) = false := fun hlt hv => allN_false hlt hv
   have fin : ¬ i < (l.length) → allN (l.length) (eqAt l l' ByteArray.empty) = true := fun h => allN_true fun j hj => hall j (by omega)
   try dsimp only at bad fin hall
   have key := sameN l l' ByteArray.empty
   repeat' (first
    | (with_reducible refine And.intro ?_ ?_)
    | (with_reducible intro _))
   all_goals (first | (with_reducible (refine (id ?_ : SoundI _ _ _))) | ((try simp only [Ty.dflt] at *); first | omega | (refine ⟨by omega, next_all hall (by grind [eqAt]), ⟨_, by first | rfl | exact List.append_assoc _ _ _ | (simp only [List.append_assoc, List.cons_append, List.nil_append]; rfl)⟩, ?_⟩; simp only [hwr, go_sem, ↓zA, ↓reduceIte, ↓reduceDIte, reduceCtorEq, Nat.reduceAdd, Nat.reduceSub, Nat.reduceLeDiff, Nat.reduceLT, Nat.reduceEqDiff, Nat.reduceBEq, Nat.reduceMul, Int.reduceToNat, Int.reduceEq, Int.reduceLT, Int.reduceLE] <;> (first | rfl | (grind [eqAt]))) | (refine ⟨_, rfl⟩) | (refine ⟨_, List.append_assoc _ _ _⟩) | (grind [eqAt])))
 · grind

end Go.Proofs.YthmoognbccfpiaaGreatDoor
/- Contracts: the encoding of entries. -/
namespace Go.Proofs.YthmoognbccfpiaaGreatDoor
open Go Go.Sx Go.Proofs
set_option maxRecDepth 100000
set_option maxHeartbeats 4000000
set_option linter.unusedSimpArgs false

end Go.Proofs.YthmoognbccfpiaaGreatDoor

/- Contracts: the reference's lists of principals. -/
namespace Go.Proofs.YthmoognbccfpiaaGreatDoor
open Go Go.Sx Go.Proofs
set_option maxRecDepth 100000
set_option maxHeartbeats 4000000
set_option linter.unusedSimpArgs false

end Go.Proofs.YthmoognbccfpiaaGreatDoor

