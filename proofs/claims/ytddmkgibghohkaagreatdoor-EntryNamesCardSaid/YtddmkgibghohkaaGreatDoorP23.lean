/- Contracts: the encoding. -/
import Derived.Test.YtddmkgibghohkaaGreatDoorP16
import Derived.Test.YtddmkgibghohkaaGreatDoorP9
import Derived.Test.YtddmkgibghohkaaGreatDoorP17
set_option linter.unusedSimpArgs false
set_option linter.unusedVariables false
set_option linter.unusedSectionVars false
namespace Go.Proofs.YtddmkgibghohkaaGreatDoor
open Go Go.Sx Go.Proofs
set_option maxRecDepth 100000
set_option maxHeartbeats 4000000
set_option linter.unusedSimpArgs false

def byteOf (x : Int) : UInt8 := UInt8.ofNat (IntKind.u8.wrap x).toNat
theorem u8wrap (x : Int) : 0 ≤ IntKind.u8.wrap x ∧ IntKind.u8.wrap x < 256 := by
 have h : IntKind.u8.wrap x = x % 256 := by simp [IntKind.wrap, IntKind.bits, IntKind.signed]
 rw [h]
 omega
theorem byte_ob (x : Int) : ((UInt8.ofNat (IntKind.u8.wrap x).toNat).toNat : Int) = IntKind.u8.wrap x := by
 have := u8wrap x
 rw [UInt8.toNat_ofNat']; omega
theorem tag_ob (c : UInt8) : ((UInt8.ofNat c.toNat).toNat : Int) = c.toNat := by simp
def lenS (n : Nat) : List UInt8 :=
 if n < 128 then [byteOf n] else if n < 256 then [129, byteOf n] else if n < 65536 then [130, byteOf ((n : Int).fdiv 256), byteOf n] else [131, byteOf ((n : Int).fdiv 65536), byteOf ((n : Int).fdiv 256), byteOf n]
def tlv (tag : UInt8) (c : List UInt8) : List UInt8 := tag :: (lenS c.length ++ c)
def elemS (tag : UInt8) (parts : List (List UInt8)) : List UInt8 := if parts.flatten.length ≤ 16777215 then tlv tag parts.flatten else []
def flatN (parts : List (List UInt8)) (i : Nat) : List UInt8 := (parts.take i).flatten
theorem flatN_succ {parts : List (List UInt8)} {i : Nat} (h : i < parts.length) : flatN parts (i + 1) = flatN parts i ++ parts.getD i (Ty.slice .u8).dflt := by
 unfold flatN; rw [take_succ_getD (d := (Ty.slice .u8).dflt) h]; simp
theorem flatN_all (parts : List (List UInt8)) : flatN parts parts.length = parts.flatten := by unfold flatN; rw [List.take_length]
theorem flatN_le (parts : List (List UInt8)) (i : Nat) : (flatN parts i).length ≤ parts.flatten.length := by
 unfold flatN
 have := congrArg List.flatten (List.take_append_drop i parts)
 rw [List.flatten_append] at this
 rw [← this]; simp
def fitAt (parts : List (List UInt8)) (j : Nat) : Bool := decide ((flatN parts (j + 1)).length ≤ 16777215)

theorem element_c (tag : UInt8) (parts : List (List UInt8)) (hp : parts.length ≤ 1125899906842624) : PC Tryz.prog 195 [.raw (.int .u8 tag.toNat), .isl (.slice .u8) parts] (.isl .u8 (elemS tag parts)) := by
 refine pc_seal rfl rfl ?_
 refine runE mixed fi195 ?_
 refine si_cntD (fun i => [(5, rI ((flatN parts i).length)), (13, .raw (.int .i64 ((i : Nat) : Int)))]) (parts.length) (fun j => (fitAt parts) j = true) (by first | decide | simp) (fun i => rfl) ?_ fun i hi hall => ?_
 · (with_reducible refine sxE ?_ <;> try exact True.intro)
   all_goals (try rfl)
 have hwr : IntKind.i64.wrap ((i : Int) + 1) = ((i + 1 : Nat) : Int) := wrap_succ (by omega)
 refine goE mixed ?_
 have bad : i < (parts.length) → (fitAt parts) i = false → allN (parts.length) (fitAt parts) = false := fun hlt hv => allN_false hlt hv
 have fin : ¬ i < (parts.length) → allN (parts.length) (fitAt parts) = true := fun h => allN_true fun j hj => hall j (by omega)
 try dsimp only at bad fin hall
 have hn : (flatN parts i).length ≤ 16777215 := by
  cases i with
  | zero => simp [flatN]
  | succ j => have := hall j (by omega); simpa [fitAt] using this
 rw [wrapi (n := 16777215 - ((flatN parts i).length : Int)) (by omega), wrapi (n := ((flatN parts i).length : Int) + 5) (by omega)]
 refine ⟨fun hlt => ⟨⟨by omega, hlt⟩, fun hbig => ?_, fun hfit => ?_⟩, fun hge => ?_⟩
 · have h1 := flatN_le parts (i + 1)
   rw [flatN_succ hlt, List.length_append] at h1
   unfold elemS
   rw [if_neg (by omega)]
 · have h2 : ((flatN parts i).length : Int) + ((parts.getD i (Ty.slice .u8).dflt).length : Int) = ((flatN parts (i + 1)).length : Int) := by rw [flatN_succ hlt, List.length_append]; rfl
   have h3 : (flatN parts (i + 1)).length ≤ 16777215 := by omega
   refine ⟨hlt, next_all hall (by simpa [fitAt] using h3), ⟨_, rfl⟩, ?_⟩
   rw [h2, wrapi (n := ((flatN parts (i + 1)).length : Int)) (by omega)]
   with_reducible refine sx1 hwr ?_; trivial
 · obtain rfl : i = parts.length := by omega
   rw [flatN_all] at *
   have he : elemS tag parts = tag :: (lenS parts.flatten.length ++ flatN parts parts.length) := by unfold elemS tlv; rw [if_pos hn, flatN_all]
   refine ⟨⟨by omega, by omega, by omega⟩, tag_ob tag, fun h1 => ⟨byte_ob _, ?_⟩, fun h1 => ⟨fun h2 => ⟨?_, ?_⟩, fun h2 => ⟨fun h3 => ⟨?_, ?_⟩, fun h3 => ⟨?_, ?_⟩⟩⟩⟩
   any_goals (repeat' (first | exact byte_ob _ | exact rfl | with_reducible refine And.intro ?_ ?_))
   have hL : lenS parts.flatten.length = [byteOf parts.flatten.length] := by unfold lenS; rw [if_pos (by omega)]
   rotate_left
   have hL : lenS parts.flatten.length = [129, byteOf parts.flatten.length] := by unfold lenS; rw [if_neg (by omega), if_pos (by omega)]
   rotate_left
   have hL : lenS parts.flatten.length = [130, byteOf ((parts.flatten.length : Int).fdiv 256), byteOf parts.flatten.length] := by unfold lenS; rw [if_neg (by omega), if_neg (by omega), if_pos (by omega)]
   rotate_left
   have hL : lenS parts.flatten.length = [131, byteOf ((parts.flatten.length : Int).fdiv 65536), byteOf ((parts.flatten.length : Int).fdiv 256), byteOf parts.flatten.length] := by unfold lenS; rw [if_neg (by omega), if_neg (by omega), if_neg (by omega)]
   rotate_left
   all_goals
    refine si_accB (H := [_, _, _, _]) 8 .u8 (fun i => tag :: (lenS parts.flatten.length ++ flatN parts i)) (fun i => [(44, .any), (52, .any), (60, .any), (71, .any), (74, rI i)]) parts.length (fun _ => True) (by rw [hL]; simp [flatN, byteOf]) (by simp) rfl (fun i => rfl) ?_ fun i hi _ => ?_
    · with_reducible refine sx1 hL ?_
      simp [flatN]
    have hwr : IntKind.i64.wrap ((i : Int) + 1) = ((i + 1 : Nat) : Int) := wrap_succ (by omega)
    have hfl := flatN_le parts i
    have hll : (lenS parts.flatten.length).length ≤ 4 := by rw [hL]; simp
    refine goE mixed ?_
    have e1 : (lenS parts.flatten.length ++ flatN parts i).length = (lenS parts.flatten.length).length + (flatN parts i).length := List.length_append
    refine ⟨fun hlt => ?_, fun hge => ?_⟩
    · have h4 := flatN_le parts (i + 1)
      have h5 := flatN_succ hlt
      rw [h5, List.length_append] at h4
      refine ⟨⟨by omega, hlt⟩, ⟨by omega, by omega⟩, acc_next [.dead] [] hlt trivial (by rw [h5, ← List.append_assoc]; rfl) ?_⟩
      with_reducible refine sx3 hwr h5 ?_
      exact congrArg (SV.bld 5 .u8) (by omega)
    · obtain rfl : i = parts.length := by omega
      rw [List.take_of_length_le (Nat.le_refl _)]
      exact ⟨⟨Nat.le_refl _, by omega⟩, he.symm⟩
end Go.Proofs.YtddmkgibghohkaaGreatDoor
/- Contracts: the encoding of integers, times, strings, keys. -/
namespace Go.Proofs.YtddmkgibghohkaaGreatDoor
open Go Go.Sx Go.Proofs
set_option maxRecDepth 100000
set_option maxHeartbeats 4000000
set_option linter.unusedSimpArgs false

def byteAt (v : Int) (k : Nat) : UInt8 := byteOf (v.fdiv (2 ^ min (8 * k) 64))
def numN (v : Int) (size i : Nat) : List UInt8 := (List.range size).map fun j => if size - 1 - j < i then byteAt v (size - 1 - j) else 0
def numS (v : Int) (size : Nat) : List UInt8 := (List.range size).map fun j => byteAt v (size - 1 - j)
theorem numN_zero (v : Int) (size : Nat) : List.replicate size (0 : UInt8) = numN v size 0 := by
 apply List.ext_getElem
 · simp [numN]
 · intro j h1 h2; simp [numN]
theorem numN_all (v : Int) (size : Nat) : numN v size size = numS v size := by
 apply List.ext_getElem
 · simp [numN, numS]
 · intro j h1 h2
   simp [numN, numS]
   simp [numN] at h1
   intro h; omega
theorem numN_set {v : Int} {size i : Nat} (h : i < size) : (numN v size i).set (size - 1 - i) (byteAt v i) = numN v size (i + 1) := by
 apply List.ext_getElem
 · simp [numN]
 · intro j h1 h2
   simp [numN] at h2
   simp only [numN, List.getElem_set, List.getElem_map, List.getElem_range]
   split
   · rename_i e
     have : size - 1 - j = i := by omega
     rw [this, if_pos (by omega)]
   · rename_i e
     by_cases h3 : size - 1 - j < i
     · rw [if_pos h3, if_pos (by omega)]
     · rw [if_neg h3, if_neg (by omega)]
theorem number_c (v : Int) (size : Nat) (hs : size ≤ 64) : PC Tryz.prog 210 [rI v, rI size] (.isl .u8 (numS v size)) := by
 refine pc_seal rfl rfl ?_
 refine runE mixed fi210 ?_
 refine ⟨by omega, ?_⟩
 refine si_loopX (ι := Nat) (fun i => [(11, rI i)]) (fun i => [.row .u8 (numN v size i)]) (fun i => size - i) (fun i => i ≤ size) 0 (Nat.zero_le _) (by rw [← numN_zero]; rfl) ?_ ?_
 · with_reducible refine sxE ?_; trivial
 intro i hi
 have w3 : IntKind.i64.wrap (8 * (i : Int)) = ((8 * i : Nat) : Int) := by rw [wrapi (by omega)]; rfl
 have hwr : IntKind.i64.wrap ((i : Int) + 1) = ((i + 1 : Nat) : Int) := wrap_succ (by omega)
 have hln : (numN v size i).length = size := by simp [numN]
 by_cases hlt : i < size
 · have w1 : IntKind.i64.wrap ((size : Int) - 1) = ((size - 1 : Nat) : Int) := by rw [wrapi (by omega)]; omega
   have w2 : IntKind.i64.wrap (((size - 1 : Nat) : Int) - (i : Int)) = ((size - 1 - i : Nat) : Int) := by rw [wrapi (by omega)]; omega
   refine run_sound mixed 600 _ ?_
   simp (maxSteps := 3000000) only [w1, w2, w3, hln, go_sem, ↓zA, ↓reduceIte, ↓reduceDIte, reduceCtorEq, Nat.reduceAdd, Nat.reduceSub, Nat.reduceLeDiff, Nat.reduceLT, Nat.reduceEqDiff, Nat.reduceBEq, Nat.reduceMul, Int.reduceToNat, Int.reduceEq, Int.reduceLT, Int.reduceLE] <;> try simp only [zB]
   refine ⟨fun _ => ⟨by omega, ⟨by omega, by omega⟩, ⟨by omega, byte_ob _⟩, i + 1, hlt, by dsimp only; omega, ?_, ?_⟩, fun h => absurd hlt h⟩
   · dsimp only; rw [← numN_set hlt, Nat.zero_add]; rfl
   · with_reducible refine sx1 hwr ?_; trivial
 · refine run_sound mixed 600 _ ?_
   with_reducible refine sx1 hln ?_
   refine ⟨fun h => absurd h hlt, fun _ => ⟨⟨by omega, by omega⟩, ?_⟩⟩
   obtain rfl : i = size := by omega
   rw [numN_all, List.take_of_length_le (by simp [numS])]
theorem element_k (tag : UInt8) (n : Int) (hn : n = tag.toNat) (parts : List (List UInt8)) (hp : parts.length ≤ 1125899906842624) : PC Tryz.prog 195 [.raw (.int .u8 n), .isl (.slice .u8) parts] (.isl .u8 (elemS tag parts)) := by
 subst hn; exact element_c tag parts hp

def restN (v : Int) : Nat → Int
 | 0 => v
 | k + 1 => (restN v k).fdiv 256
def firstN (n : Nat) (q : Nat → Bool) : Option Nat := (List.range n).find? q
theorem firstN_some {n i : Nat} {q : Nat → Bool} (hi : i < n) (hq : q i = true) (hn : ∀ j, j < i → q j = false) : firstN n q = some i := by
 unfold firstN
 rw [List.find?_range_eq_some]
 exact ⟨hq, by simpa using hi, fun j hj => by rw [hn j hj]; rfl⟩
theorem firstN_none {n : Nat} {q : Nat → Bool} (hn : ∀ j, j < n → q j = false) : firstN n q = none := by
 unfold firstN
 rw [List.find?_range_eq_none]
 exact fun j hj => by rw [hn j hj]; rfl
theorem firstN_spec {n i : Nat} {q : Nat → Bool} (h : firstN n q = some i) : i < n ∧ q i = true ∧ ∀ j, j < i → q j = false := by
 unfold firstN at h
 rw [List.find?_range_eq_some] at h
 exact ⟨by simpa using h.2.1, h.1, fun j hj => by simpa using h.2.2 j hj⟩
def oneB (v : Int) (k : Nat) : Bool := decide (-128 ≤ restN v k) && decide (restN v k ≤ 127)
def intSz (v : Int) : Nat := 1 + (firstN 9 (oneB v)).getD 0
def intS (v : Int) : List UInt8 := if -4611686018427387904 ≤ v ∧ v ≤ 4611686018427387904 then elemS 2 [numS v (intSz v)] else []
theorem fdiv256 (r : Int) : r.fdiv 256 = r / 256 := Int.fdiv_eq_ediv_of_nonneg r (by decide)
theorem rest8 {v : Int} (h1 : -4611686018427387904 ≤ v) (h2 : v ≤ 4611686018427387904) : oneB v 8 = true := by
 simp only [oneB, restN, fdiv256, Bool.and_eq_true, decide_eq_true_eq]
 omega
theorem integer_c (v : Int) : PC Tryz.prog 196 [rI v] (.isl .u8 (intS v)) := by
 refine pc_seal rfl rfl ?_
 refine runE mixed fi196 ?_ <;> try with_reducible exact True.intro
 repeat' (first
  | (with_reducible refine And.intro ?_ ?_)
  | (with_reducible intro _))
 all_goals (skip)
 · unfold intS; rw [if_neg (by omega)]
 rotate_left
 · unfold intS; rw [if_neg (by omega)]
 rename_i h1 h2
 have h8 := rest8 (v := v) (by omega) (by omega)
 refine si_loopX (ι := Nat) (fun k => [(3, rI ((1 + k : Nat) : Int)), (4, rI (restN v k))]) (fun _ => []) (fun k => 9 - k) (fun k => k ≤ 8 ∧ ∀ j, j < k → oneB v j = false) 0 ⟨by omega, fun j hj => absurd hj (by omega)⟩ rfl ?_ ?_
 · simp (maxSteps := 3000000) only [restN, go_sem, ↓zA, ↓reduceIte, ↓reduceDIte, reduceCtorEq, Nat.reduceAdd, Nat.reduceSub, Nat.reduceLeDiff, Nat.reduceLT, Nat.reduceEqDiff, Nat.reduceBEq, Nat.reduceMul, Int.reduceToNat, Int.reduceEq, Int.reduceLT, Int.reduceLE] <;> try simp only [zB]
   rfl
 rintro k ⟨hk, hall⟩
 have hwr : IntKind.i64.wrap (((1 + k : Nat) : Int) + 1) = ((1 + (k + 1) : Nat) : Int) := by rw [wrapi (by omega)]; omega
 refine run_sound mixed 600 _ ?_
 with_reducible refine sx1 hwr ?_
 have hp : (2 : Int) ^ min 8 64 = 256 := by decide
 refine ⟨fun h3 => ⟨fun h4 => ?_, fun h4 => ?_⟩, fun h3 => ?_⟩
 · have ho : oneB v k = false := by simp [oneB]; omega
   have hk8 : k ≠ 8 := fun e => by subst e; rw [h8] at ho; cases ho
   refine ⟨k + 1, ⟨by omega, next_all hall ho⟩, by dsimp only; omega, rfl, ?_⟩
   simp (maxSteps := 3000000) only [restN, hp, go_sem, ↓zA, ↓reduceIte, ↓reduceDIte, reduceCtorEq, Nat.reduceAdd, Nat.reduceSub, Nat.reduceLeDiff, Nat.reduceLT, Nat.reduceEqDiff, Nat.reduceBEq, Nat.reduceMul, Int.reduceToNat, Int.reduceEq, Int.reduceLT, Int.reduceLE] <;> try simp only [zB]
 · have ho : oneB v k = true := by simp [oneB]; omega
   have hz : intSz v = 1 + k := by unfold intSz; rw [firstN_some (by omega) ho hall]; rfl
   refine callI_pure (number_c v (1 + k) (by omega)) ?_
   refine goE mixed ?_
   refine callI_hand 0 ?_
   with_reducible refine sxE ?_
   refine callI_pure (element_k 2 2 rfl _ (by simp)) ?_
   refine goE mixed ?_
   unfold intS
   rw [if_pos (by omega), hz]
 · have ho : oneB v k = false := by simp [oneB]; omega
   have hk8 : k ≠ 8 := fun e => by subst e; rw [h8] at ho; cases ho
   refine ⟨k + 1, ⟨by omega, next_all hall ho⟩, by dsimp only; omega, rfl, ?_⟩
   simp (maxSteps := 3000000) only [restN, hp, go_sem, ↓zA, ↓reduceIte, ↓reduceDIte, reduceCtorEq, Nat.reduceAdd, Nat.reduceSub, Nat.reduceLeDiff, Nat.reduceLT, Nat.reduceEqDiff, Nat.reduceBEq, Nat.reduceMul, Int.reduceToNat, Int.reduceEq, Int.reduceLT, Int.reduceLE] <;> try simp only [zB]
theorem octets_c (b : List UInt8) : PC Tryz.prog 164 [.isl .u8 b] (.isl .u8 (elemS 4 [b])) := by
 refine pc_seal rfl rfl ?_
 refine runE mixed fi164 ?_
 refine callI_hand 0 ?_
 with_reducible refine sxE ?_
 refine callI_pure (element_k 4 4 rfl _ (by simp)) ?_
 refine goE mixed ?_; trivial
def timeS (t : Int) : List UInt8 := if 0 ≤ t ∧ t ≤ 1099511627776 then elemS 24 [numS t 6] else []
theorem time_c (t : Int) : PC Tryz.prog 213 [rI t] (.isl .u8 (timeS t)) := by
 refine pc_seal rfl rfl ?_
 refine runE mixed fi213 ?_
 refine ⟨fun h1 => ⟨fun h2 => ?_, fun h2 => ?_⟩, fun h1 => ?_⟩
 · unfold timeS; rw [if_neg (by omega)]
 · refine callI_pure (number_c t 6 (by omega)) ?_
   refine goE mixed ?_
   refine callI_hand 0 ?_
   with_reducible refine sxE ?_
   refine callI_pure (element_k 24 24 rfl _ (by simp)) ?_
   refine goE mixed ?_
   unfold timeS; rw [if_pos (by omega)]
 · unfold timeS; rw [if_neg (by omega)]
theorem sequence_c (l : List (List UInt8)) (hl : l.length ≤ 1125899906842624) : PC Tryz.prog 133 [.isl (.slice .u8) l] (.isl .u8 (elemS 48 l)) := by
 refine pc_seal rfl rfl ?_
 refine runE mixed fi133 ?_
 refine callI_pure (element_k 48 48 rfl _ hl) ?_
 refine goE mixed ?_; trivial
def wrapS (tag n : Int) (b : List UInt8) : List UInt8 := if 0 ≤ n ∧ n ≤ 30 ∧ b ≠ [] then elemS (byteOf (tag + n)) [b] else []
theorem wrapped_c (tag n : Int) (b : List UInt8) (ht : 0 ≤ tag ∧ tag ≤ 1000) : PC Tryz.prog 249 [rI tag, rI n, .isl .u8 b] (.isl .u8 (wrapS tag n b)) := by
 refine pc_seal rfl rfl ?_
 refine runE mixed fi249 ?_
 refine ⟨fun h1 => ⟨fun h2 => ⟨fun h3 => ?_, fun h3 => ?_⟩, fun h2 => ?_⟩, fun h1 => ?_⟩
 · unfold wrapS; rw [if_neg (fun h => h.2.2 (List.length_eq_zero_iff.1 (by omega)))]
 · refine callI_hand 0 ?_
   with_reducible refine sxE ?_
   refine callI_pure (element_k (byteOf (tag + n)) _ ?_ _ (by simp)) ?_
   · rw [wrapi (by omega)]; exact (byte_ob _).symm
   refine goE mixed ?_
   unfold wrapS
   rw [if_pos ⟨by omega, by omega, fun e => h3 (by rw [e]; rfl)⟩]
 · unfold wrapS; rw [if_neg (by omega)]
 · unfold wrapS; rw [if_neg (by omega)]
theorem tagged_c (n : Int) (b : List UInt8) : PC Tryz.prog 208 [rI n, .isl .u8 b] (.isl .u8 (wrapS 160 n b)) := by
 refine pc_seal rfl rfl ?_
 refine runE mixed fi208 ?_
 refine callI_pure (wrapped_c 160 n b (by omega)) ?_
 refine goE mixed ?_; trivial
def bitsS (f : Int) : List UInt8 := elemS 3 [[0], numS f 4]
theorem bits_c (f : Int) (hf : 0 ≤ f ∧ f ≤ 4294967295) : PC Tryz.prog 157 [.raw (.int .u32 f)] (.isl .u8 (bitsS f)) := by
 refine pc_seal rfl rfl ?_
 refine runE mixed fi157 ?_
 rw [wrapi (by omega)]
 refine ⟨by simp, callI_pure (number_c f 4 (by omega)) ?_⟩
 with_reducible refine sxE ?_
 refine si_freeze 0 rfl rfl (by simp) ?_ ?_ ?_
 · with_reducible refine sxE ?_; trivial
 · with_reducible refine sxE ?_; trivial
 with_reducible refine sxE ?_
 refine goE mixed ?_
 refine callI_hand 1 ?_
 with_reducible refine sxE ?_
 refine callI_pure (element_k 3 3 rfl _ (by simp)) ?_
 refine goE mixed ?_
 rfl
theorem dstring_c (s : ByteArray) (hs : s.size ≤ 140737488355328) : PC Tryz.prog 197 [rS s] (.isl .u8 (elemS 27 [s.data.toList])) := by
 refine pc_seal rfl rfl ?_
 refine vc_fi fi197 (run_sound mixed 8 _ ?_)
 simp (maxSteps := 3000000) only [ir197, go_sem, ↓zA, ↓reduceIte, ↓reduceDIte, reduceCtorEq, Nat.reduceAdd, Nat.reduceSub, Nat.reduceLeDiff, Nat.reduceLT, Nat.reduceEqDiff, Nat.reduceBEq, Nat.reduceMul, Int.reduceToNat, Int.reduceEq, Int.reduceLT, Int.reduceLE] <;> try simp only [zB]
 have hl : (bytesOf s).length = s.size := by simp [bytesOf]
 refine si_freeze 0 rfl rfl (by omega) ?_ ?_ ?_
 · with_reducible refine sxE ?_; trivial
 · with_reducible refine sxE ?_
   omega
 with_reducible refine sxE ?_
 refine goE mixed ?_
 refine callI_hand 1 ?_
 with_reducible refine sxE ?_
 rw [List.take_of_length_le (by omega)]
 refine callI_pure (element_k 27 27 rfl _ (by simp)) ?_
 refine goE mixed ?_
 rfl
def fullAt (l : List (List UInt8)) (j : Nat) : Bool := decide (l.getD j (Ty.slice .u8).dflt ≠ [])
def wholeS (l : List (List UInt8)) : List UInt8 := if allN l.length (fullAt l) then elemS 48 l else []
theorem whole_c (l : List (List UInt8)) (hl : l.length ≤ 1125899906842624) : PC Tryz.prog 296 [.isl (.slice .u8) l] (.isl .u8 (wholeS l)) := by
 refine pc_seal rfl rfl ?_
 refine runE mixed fi296 ?_
 refine si_cntD (fun i => [(7, .raw (.int .i64 ((i : Nat) : Int)))]) (l.length) (fun j => (fullAt l) j = true) (by first | decide | simp) (fun i => rfl) ?_ fun i hi hall => ?_
 · (with_reducible refine sxE ?_ <;> try exact True.intro)
   all_goals (try rfl)
 have hwr : IntKind.i64.wrap ((i : Int) + 1) = ((i + 1 : Nat) : Int) := wrap_succ (by omega)
 refine goE mixed ?_
 have bad : i < (l.length) → (fullAt l) i = false → allN (l.length) (fullAt l) = false := fun hlt hv => allN_false hlt hv
 have fin : ¬ i < (l.length) → allN (l.length) (fullAt l) = true := fun h => allN_true fun j hj => hall j (by omega)
 try dsimp only at bad fin hall
 refine ⟨fun hlt => ⟨⟨by omega, hlt⟩, fun h0 => ?_, fun h0 => ?_⟩, fun hge => callI_pure (sequence_c l hl) ?_⟩
 · have : fullAt l i = false := by simp only [fullAt, decide_eq_false_iff_not, ne_eq, Classical.not_not]; exact List.length_eq_zero_iff.1 (by omega)
   unfold wholeS; rw [bad hlt this]; rfl
 · refine ⟨hlt, next_all hall ?_, ⟨_, rfl⟩, ?_⟩
   · simp only [fullAt, decide_eq_true_eq]; exact fun e => h0 (by rw [e]; rfl)
   · with_reducible refine sx1 hwr ?_; trivial
 · refine goE mixed ?_
   unfold wholeS; rw [fin hge]; rfl
def tagN (l : List (List UInt8)) (i : Nat) : List (List UInt8) := (List.range i).map fun (j : Nat) => wrapS 160 j (l.getD j (Ty.slice .u8).dflt)
theorem tagN_succ (l : List (List UInt8)) (i : Nat) : tagN l (i + 1) = tagN l i ++ [wrapS 160 i (l.getD i (Ty.slice .u8).dflt)] := by simp [tagN, List.range_succ]
def fieldsS (l : List (List UInt8)) : List UInt8 := wholeS (tagN l l.length)
theorem fields_c (l : List (List UInt8)) (hl : l.length ≤ 1048576) : PC Tryz.prog 277 [.isl (.slice .u8) l] (.isl .u8 (fieldsS l)) := by
 refine pc_seal rfl rfl ?_
 refine runE mixed fi277 ?_
 refine si_accN 3 (.slice .u8) (fun i => tagN l i) (fun i => [(8, rI i)]) l.length (fun _ => True) rfl (by simp) (by simp [tagN]) rfl (fun i => rfl) ?_ fun i hi _ => ?_
 · with_reducible refine sxE ?_; trivial
 have hwr : IntKind.i64.wrap ((i : Int) + 1) = ((i + 1 : Nat) : Int) := wrap_succ (by omega)
 have hln : (tagN l i).length = i := by simp [tagN]
 have hst := tagN_succ l i
 refine goE mixed ?_
 refine ⟨fun hlt => ⟨⟨by omega, hlt⟩, callI_pure (tagged_c _ _) ?_⟩, fun hge => ?_⟩
 · refine goE mixed ?_
   refine ⟨⟨by omega, by omega⟩, acc_next [_, _] [] hlt trivial (by rw [hst]; rfl) ?_⟩
   with_reducible refine sx3 hwr hst ?_; trivial
 · obtain rfl : i = l.length := by omega
   refine callI_hand 0 ?_
   with_reducible refine sxE ?_
   refine ⟨by omega, ?_⟩
   rw [List.take_of_length_le (by omega)]
   refine ⟨Nat.le_refl _, callI_pure (whole_c (tagN l l.length) (by omega)) ?_⟩
   refine goE mixed ?_
   rfl
def keyS (k : Key) : List UInt8 := fieldsS [intS k.1, intS k.2.1, elemS 4 [k.2.2]]
theorem triple_c (p v : Int) (b : List UInt8) : PC Tryz.prog 250 [rI p, rI v, .isl .u8 b] (.isl .u8 (keyS (p, v, b))) := by
 refine pc_seal rfl rfl ?_
 refine runE mixed fi250 ?_
 refine callI_pure (integer_c p) ?_
 refine goE mixed ?_
 refine callI_pure (integer_c v) ?_
 refine goE mixed ?_
 refine callI_pure (octets_c b) ?_
 refine goE mixed ?_
 refine callI_hand 0 ?_
 with_reducible refine sxE ?_
 refine callI_pure (fields_c _ (by simp)) ?_
 refine goE mixed ?_
 rfl
theorem dkey_c (k : Key) : PC Tryz.prog 212 [.agg (KeyT.cells k)] (.isl .u8 (keyS k)) := by
 refine pc_seal rfl rfl ?_
 refine runE mixed fi212 ?_
 refine callI_pure (triple_c _ _ _) ?_
 refine goE mixed ?_; trivial
end Go.Proofs.YtddmkgibghohkaaGreatDoor
/- Contracts: the encoding of entries and offers. -/
namespace Go.Proofs.YtddmkgibghohkaaGreatDoor
open Go Go.Sx Go.Proofs
set_option maxRecDepth 100000
set_option maxHeartbeats 4000000
set_option linter.unusedSimpArgs false

def tagS (l : List (List UInt8)) : List UInt8 := elemS 48 (tagN l l.length)
def tagM (l : List (List UInt8)) (i : Nat) : List (List UInt8) := tagN l i ++ l.drop i
theorem tagM_set {l : List (List UInt8)} {i : Nat} (h : i < l.length) : (tagM l i).set i (wrapS 160 i ((tagM l i).getD i (Ty.slice .u8).dflt)) = tagM l (i + 1) ∧ (tagM l i).getD i (Ty.slice .u8).dflt = l.getD i (Ty.slice .u8).dflt := by
 have hl : (tagN l i).length = i := by simp [tagN]
 have h2 : (tagM l i).getD i (Ty.slice .u8).dflt = l.getD i (Ty.slice .u8).dflt := by
  unfold tagM
  rw [List.getD_eq_getElem?_getD, List.getElem?_append_right (by omega), hl, Nat.sub_self, List.getElem?_drop, List.getD_eq_getElem?_getD, Nat.add_zero]
 refine ⟨?_, h2⟩
 rw [h2]
 unfold tagM
 rw [List.set_append_right _ _ (by omega), hl, Nat.sub_self, List.drop_eq_getElem_cons h, List.set_cons_zero, tagN_succ, List.append_assoc]
 rfl
theorem etagged_c (l : List (List UInt8)) (hl : l.length ≤ 1048576) : PCT Tryz.prog 154 (.slice .u8) l (.isl .u8 (tagS l)) := by
 refine pct_seal rfl ?_
 refine runE mixed fi154 ?_
 refine si_loopX (ι := Nat) (fun i => [(7, rI i)]) (fun i => [.row (.slice .u8) (tagM l i)]) (fun i => l.length - i) (fun i => i ≤ l.length) 0 (Nat.zero_le _) (by simp [tagM, tagN]) ?_ ?_
 · with_reducible refine sxE ?_; trivial
 intro i hi
 have hwr : IntKind.i64.wrap ((i : Int) + 1) = ((i + 1 : Nat) : Int) := wrap_succ (by omega)
 have hln : (tagM l i).length = l.length := by simp [tagM, tagN]; omega
 refine run_sound mixed 600 _ ?_
 with_reducible refine sx1 hln ?_
 refine ⟨fun hlt => ⟨⟨by omega, hlt⟩, by omega, callI_pure (tagged_c _ _) ?_⟩, fun hge => ?_⟩
 · refine run_sound mixed 600 _ ?_
   with_reducible refine sx1 hln ?_
   obtain ⟨h1, h2⟩ := tagM_set hlt
   rw [Nat.zero_add]
   refine ⟨⟨by omega, hlt⟩, hlt, i + 1, hlt, by dsimp only; omega, ?_, ?_⟩
   · dsimp only; rw [← h1]
   · with_reducible refine sx1 hwr ?_; trivial
 · obtain rfl : i = l.length := by omega
   refine callI_hand 0 ?_
   with_reducible refine sx1 hln ?_
   refine ⟨by omega, ?_⟩
   rw [List.take_of_length_le (by omega)]
   refine ⟨Nat.le_refl _, callI_pure (sequence_c (tagM l l.length) (by omega)) ?_⟩
   refine goE mixed ?_
   unfold tagS tagM
   rw [List.drop_length, List.append_nil]
def numO (v : Int) : List UInt8 := if v = 0 then [] else intS v
theorem einteger_c (v : Int) : PC Tryz.prog 158 [rI v] (.isl .u8 (numO v)) := by
 refine pc_seal rfl rfl ?_
 refine runE mixed fi158 ?_
 refine ⟨fun h => ?_, fun h => callI_pure (integer_c v) ?_⟩
 · unfold numO; rw [if_pos h]
 · refine goE mixed ?_
   unfold numO; rw [if_neg h]
def timO (v : Int) : List UInt8 := if v = 0 then [] else timeS v
theorem einstant_c (v : Int) : PC Tryz.prog 162 [rI v] (.isl .u8 (timO v)) := by
 refine pc_seal rfl rfl ?_
 refine runE mixed fi162 ?_
 refine ⟨fun h => ?_, fun h => callI_pure (time_c v) ?_⟩
 · unfold timO; rw [if_pos h]
 · refine goE mixed ?_
   unfold timO; rw [if_neg h]
def txtO (s : ByteArray) : List UInt8 := if s = ⟨#[]⟩ then [] else elemS 27 [s.data.toList]
theorem etext_c (s : ByteArray) (hs : s.size ≤ 140737488355328) : PC Tryz.prog 161 [rS s] (.isl .u8 (txtO s)) := by
 refine pc_seal rfl rfl ?_
 refine runE mixed fi161 ?_
 refine ⟨fun h => ?_, fun h => callI_pure (dstring_c s hs) ?_⟩
 · unfold txtO; rw [if_pos h]
 · refine goE mixed ?_
   unfold txtO; rw [if_neg h]
def strsN (l : List ByteArray) (i : Nat) : List (List UInt8) := (l.take i).map fun s => elemS 27 [s.data.toList]
theorem strsN_succ {l : List ByteArray} {i : Nat} (h : i < l.length) : strsN l (i + 1) = strsN l i ++ [elemS 27 [(l.getD i Ty.str.dflt).data.toList]] := by unfold strsN; rw [take_succ_getD (d := Ty.str.dflt) h]; simp
theorem strsN_len {l : List ByteArray} {i : Nat} (h : i ≤ l.length) : (strsN l i).length = i := by simp [strsN]; omega
def prinS (p : Prin) : List UInt8 := elemS 48 [wrapS 160 0 (elemS 48 (strsN p.1 p.1.length)), wrapS 160 1 (elemS 27 [p.2.data.toList])]
theorem nencode_c (p : Prin) (hp : PrinT.ok p) : PC Tryz.prog 209 [.agg (PrinT.cells p)] (.tup [.isl .u8 (if vPrin p then prinS p else []), rI (if vPrin p then 0 else 2)]) := by
 obtain ⟨l, r⟩ := p
 have hps : prinS (l, r) = elemS 48 [wrapS 160 0 (elemS 48 (strsN l l.length)), wrapS 160 1 (elemS 27 [r.data.toList])] := rfl
 have hok : ∀ {i}, i < l.length → (l.getD i Ty.str.dflt).size ≤ 140737488355328 := fun h => hp.1.2 _ (getD_mem h)
 have hr : r.size ≤ 140737488355328 := hp.2
 have hv := nvalid_c (l, r) hp
 have hv4 : vPrin (l, r) = true → l.length ≤ 4 := fun h => by simp [vPrin] at h; omega
 clear hp
 generalize vPrin (l, r) = vb at *
 generalize prinS (l, r) = ps at *
 change List ByteArray at l
 refine pc_seal rfl rfl ?_
 refine runE mixed fi209 ?_
 refine callI_pure hv ?_
 refine goE mixed ?_
 refine ⟨fun h => ?_, fun h => ?_⟩
 · rw [h]; exact ⟨rfl, rfl⟩
 have hl4 : l.length ≤ 4 := hv4 h
 subst h
 refine si_accN 4 (.slice .u8) (strsN l) (fun i => [(13, rI i)]) l.length (fun _ => True) rfl (by simp) (by simp [strsN]) rfl (fun i => rfl) ?_ fun i hi _ => ?_
 · with_reducible refine sxE ?_; trivial
 have hwr : IntKind.i64.wrap ((i : Int) + 1) = ((i + 1 : Nat) : Int) := wrap_succ (by omega)
 have hln := strsN_len hi
 by_cases hlt : i < l.length
 · refine goE mixed ?_
   refine ⟨fun _ => ⟨⟨by omega, hlt⟩, callI_pure (dstring_c _ (hok hlt)) ?_⟩, fun h => absurd hlt h⟩
   refine goE mixed ?_
   have hst := strsN_succ hlt
   refine ⟨⟨by omega, by omega⟩, acc_next [_, _] [] hlt trivial (by rw [hst]; rfl) ?_⟩
   with_reducible refine sx3 hwr hst ?_; trivial
 · obtain rfl : i = l.length := by omega
   refine si_freeze 1 rfl rfl (by omega) ?_ ?_ ?_
   · with_reducible refine sxE ?_; trivial
   · with_reducible refine sxE ?_
     exact Nat.le_refl _
   with_reducible refine sxE ?_
   rw [List.take_of_length_le (Nat.le_refl _)]
   refine goE mixed ?_
   refine ⟨fun h => absurd h hlt, fun _ => callR_pure (sequence_c _ (by omega)) ?_⟩
   refine goE mixed ?_
   refine callR_pure (tagged_c _ _) ?_
   refine goE mixed ?_
   refine callR_pure (dstring_c r hr) ?_
   refine goE mixed ?_
   refine callR_pure (tagged_c _ _) ?_
   refine goE mixed ?_
   refine callR_hand 2 (by decide) ?_
   with_reducible refine sxE ?_
   refine callR_pure (sequence_c _ (by simp)) ?_
   refine goE mixed ?_
   exact hps.symm
end Go.Proofs.YtddmkgibghohkaaGreatDoor
/- Contracts: the encoding of entries and offers, as a whole. -/
namespace Go.Proofs.YtddmkgibghohkaaGreatDoor
open Go Go.Sx Go.Proofs
set_option maxRecDepth 100000
set_option maxHeartbeats 4000000
set_option linter.unusedSimpArgs false

def mapN {t : Ty} (w : t.den → List UInt8) (l : List t.den) (i : Nat) : List (List UInt8) := (l.take i).map w
theorem mapN_succ {t : Ty} {w : t.den → List UInt8} {l : List t.den} {i : Nat} (h : i < l.length) : mapN w l (i + 1) = mapN w l i ++ [w (l.getD i t.dflt)] := by unfold mapN; rw [take_succ_getD (d := t.dflt) h]; simp
theorem mapN_len {t : Ty} {w : t.den → List UInt8} {l : List t.den} {i : Nat} (h : i ≤ l.length) : (mapN w l i).length = i := by simp [mapN]; omega
def listS {t : Ty} (w : t.den → List UInt8) (l : List t.den) : List UInt8 := if l.length = 0 then [] else elemS 48 (mapN w l l.length)
theorem list_key (l : List (KeyT).den) (g : Nat) (w : (KeyT).den → List UInt8) (hl : l.length ≤ 1048576) (hone : ∀ x ∈ l, PC Tryz.prog g [.agg ((KeyT).cells x)] (.isl .u8 (w x))) :
 PC Tryz.prog 211 [.isl (KeyT) l, .fn g [] []] (.isl .u8 (listS (t := KeyT) w l)) := by
 refine pc_seal rfl rfl ?_
 refine runE mixed fi211 ?_
 refine ⟨fun h0 => ?_, fun h0 => ?_⟩
 · unfold listS; rw [if_pos (by omega)]
 refine si_accN 5 (.slice .u8) (mapN (t := KeyT) w l) (fun i => [(13, rI i)]) l.length (fun _ => True) rfl (by simp) (by simp [mapN]) rfl (fun i => rfl) ?_ fun i hi _ => ?_
 · with_reducible refine sxE ?_; trivial
 have hwr : IntKind.i64.wrap ((i : Int) + 1) = ((i + 1 : Nat) : Int) := wrap_succ (by omega)
 have hln := mapN_len (w := w) hi
 refine goE mixed ?_
 refine ⟨fun hlt => ⟨⟨by omega, hlt⟩, callI_pure (hone _ (getD_mem (d := (KeyT).dflt) hlt)) ?_⟩, fun hge => ?_⟩
 · refine goE mixed ?_
   have hst := mapN_succ (t := KeyT) (w := w) hlt
   refine ⟨⟨by omega, by omega⟩, acc_next [_, _, _] [] hlt trivial (by rw [hst]; rfl) ?_⟩
   with_reducible refine sx3 hwr hst ?_; trivial
 · obtain rfl : i = l.length := by omega
   refine callI_hand 0 ?_
   with_reducible refine sxE ?_
   refine ⟨by omega, Nat.le_refl _, ?_⟩
   rw [List.take_of_length_le (Nat.le_refl _)]
   refine callI_pure (sequence_c (mapN (t := KeyT) w l l.length) (by omega)) ?_
   refine goE mixed ?_
   unfold listS; rw [if_neg (by omega)]
theorem list_prin (l : List (PrinT).den) (g : Nat) (w : (PrinT).den → List UInt8) (hl : l.length ≤ 1048576) (hone : ∀ x ∈ l, PC Tryz.prog g [.agg ((PrinT).cells x)] (.isl .u8 (w x))) :
 PC Tryz.prog 156 [.isl (PrinT) l, .fn g [] []] (.isl .u8 (listS (t := PrinT) w l)) := by
 refine pc_seal rfl rfl ?_
 refine runE mixed fi156 ?_
 refine ⟨fun h0 => ?_, fun h0 => ?_⟩
 · unfold listS; rw [if_pos (by omega)]
 refine si_accN 5 (.slice .u8) (mapN (t := PrinT) w l) (fun i => [(13, rI i)]) l.length (fun _ => True) rfl (by simp) (by simp [mapN]) rfl (fun i => rfl) ?_ fun i hi _ => ?_
 · with_reducible refine sxE ?_; trivial
 have hwr : IntKind.i64.wrap ((i : Int) + 1) = ((i + 1 : Nat) : Int) := wrap_succ (by omega)
 have hln := mapN_len (w := w) hi
 refine goE mixed ?_
 refine ⟨fun hlt => ⟨⟨by omega, hlt⟩, callI_pure (hone _ (getD_mem (d := (PrinT).dflt) hlt)) ?_⟩, fun hge => ?_⟩
 · refine goE mixed ?_
   have hst := mapN_succ (t := PrinT) (w := w) hlt
   refine ⟨⟨by omega, by omega⟩, acc_next [_, _, _] [] hlt trivial (by rw [hst]; rfl) ?_⟩
   with_reducible refine sx3 hwr hst ?_; trivial
 · obtain rfl : i = l.length := by omega
   refine callI_hand 0 ?_
   with_reducible refine sxE ?_
   refine ⟨by omega, Nat.le_refl _, ?_⟩
   rw [List.take_of_length_le (Nat.le_refl _)]
   refine callI_pure (sequence_c (mapN (t := PrinT) w l l.length) (by omega)) ?_
   refine goE mixed ?_
   unfold listS; rw [if_neg (by omega)]
theorem list_kset (l : List (SetT).den) (g : Nat) (w : (SetT).den → List UInt8) (hl : l.length ≤ 1048576) (hone : ∀ x ∈ l, PC Tryz.prog g [.agg ((SetT).cells x)] (.isl .u8 (w x))) :
 PC Tryz.prog 159 [.isl (SetT) l, .fn g [] []] (.isl .u8 (listS (t := SetT) w l)) := by
 refine pc_seal rfl rfl ?_
 refine runE mixed fi159 ?_
 refine ⟨fun h0 => ?_, fun h0 => ?_⟩
 · unfold listS; rw [if_pos (by omega)]
 refine si_accN 5 (.slice .u8) (mapN (t := SetT) w l) (fun i => [(13, rI i)]) l.length (fun _ => True) rfl (by simp) (by simp [mapN]) rfl (fun i => rfl) ?_ fun i hi _ => ?_
 · with_reducible refine sxE ?_; trivial
 have hwr : IntKind.i64.wrap ((i : Int) + 1) = ((i + 1 : Nat) : Int) := wrap_succ (by omega)
 have hln := mapN_len (w := w) hi
 refine goE mixed ?_
 refine ⟨fun hlt => ⟨⟨by omega, hlt⟩, callI_pure (hone _ (getD_mem (d := (SetT).dflt) hlt)) ?_⟩, fun hge => ?_⟩
 · refine goE mixed ?_
   have hst := mapN_succ (t := SetT) (w := w) hlt
   refine ⟨⟨by omega, by omega⟩, acc_next [_, _, _] [] hlt trivial (by rw [hst]; rfl) ?_⟩
   with_reducible refine sx3 hwr hst ?_; trivial
 · obtain rfl : i = l.length := by omega
   refine callI_hand 0 ?_
   with_reducible refine sxE ?_
   refine ⟨by omega, Nat.le_refl _, ?_⟩
   rw [List.take_of_length_le (Nat.le_refl _)]
   refine callI_pure (sequence_c (mapN (t := SetT) w l l.length) (by omega)) ?_
   refine goE mixed ?_
   unfold listS; rw [if_neg (by omega)]
theorem list_salt (l : List (SaltT).den) (g : Nat) (w : (SaltT).den → List UInt8) (hl : l.length ≤ 1048576) (hone : ∀ x ∈ l, PC Tryz.prog g [.agg ((SaltT).cells x)] (.isl .u8 (w x))) :
 PC Tryz.prog 134 [.isl (SaltT) l, .fn g [] []] (.isl .u8 (listS (t := SaltT) w l)) := by
 refine pc_seal rfl rfl ?_
 refine runE mixed fi134 ?_
 refine ⟨fun h0 => ?_, fun h0 => ?_⟩
 · unfold listS; rw [if_pos (by omega)]
 refine si_accN 5 (.slice .u8) (mapN (t := SaltT) w l) (fun i => [(13, rI i)]) l.length (fun _ => True) rfl (by simp) (by simp [mapN]) rfl (fun i => rfl) ?_ fun i hi _ => ?_
 · with_reducible refine sxE ?_; trivial
 have hwr : IntKind.i64.wrap ((i : Int) + 1) = ((i + 1 : Nat) : Int) := wrap_succ (by omega)
 have hln := mapN_len (w := w) hi
 refine goE mixed ?_
 refine ⟨fun hlt => ⟨⟨by omega, hlt⟩, callI_pure (hone _ (getD_mem (d := (SaltT).dflt) hlt)) ?_⟩, fun hge => ?_⟩
 · refine goE mixed ?_
   have hst := mapN_succ (t := SaltT) (w := w) hlt
   refine ⟨⟨by omega, by omega⟩, acc_next [_, _, _] [] hlt trivial (by rw [hst]; rfl) ?_⟩
   with_reducible refine sx3 hwr hst ?_; trivial
 · obtain rfl : i = l.length := by omega
   refine callI_hand 0 ?_
   with_reducible refine sxE ?_
   refine ⟨by omega, Nat.le_refl _, ?_⟩
   rw [List.take_of_length_le (Nat.le_refl _)]
   refine callI_pure (sequence_c (mapN (t := SaltT) w l l.length) (by omega)) ?_
   refine goE mixed ?_
   unfold listS; rw [if_neg (by omega)]
theorem list_bytes (l : List ((Ty.slice .u8)).den) (g : Nat) (w : ((Ty.slice .u8)).den → List UInt8) (hl : l.length ≤ 1048576) (hone : ∀ x ∈ l, PC Tryz.prog g [.isl .u8 x] (.isl .u8 (w x))) :
 PC Tryz.prog 163 [.isl ((Ty.slice .u8)) l, .fn g [] []] (.isl .u8 (listS (t := (Ty.slice .u8)) w l)) := by
 refine pc_seal rfl rfl ?_
 refine runE mixed fi163 ?_
 refine ⟨fun h0 => ?_, fun h0 => ?_⟩
 · unfold listS; rw [if_pos (by omega)]
 refine si_accN 5 (.slice .u8) (mapN (t := (Ty.slice .u8)) w l) (fun i => [(13, rI i)]) l.length (fun _ => True) rfl (by simp) (by simp [mapN]) rfl (fun i => rfl) ?_ fun i hi _ => ?_
 · with_reducible refine sxE ?_; trivial
 have hwr : IntKind.i64.wrap ((i : Int) + 1) = ((i + 1 : Nat) : Int) := wrap_succ (by omega)
 have hln := mapN_len (w := w) hi
 refine goE mixed ?_
 refine ⟨fun hlt => ⟨⟨by omega, hlt⟩, callI_pure (hone _ (getD_mem (d := ((Ty.slice .u8)).dflt) hlt)) ?_⟩, fun hge => ?_⟩
 · refine goE mixed ?_
   have hst := mapN_succ (t := (Ty.slice .u8)) (w := w) hlt
   refine ⟨⟨by omega, by omega⟩, acc_next [_, _] [] hlt trivial (by rw [hst]; rfl) ?_⟩
   with_reducible refine sx3 hwr hst ?_; trivial
 · obtain rfl : i = l.length := by omega
   refine callI_hand 0 ?_
   with_reducible refine sxE ?_
   refine ⟨by omega, Nat.le_refl _, ?_⟩
   rw [List.take_of_length_le (Nat.le_refl _)]
   refine callI_pure (sequence_c (mapN (t := (Ty.slice .u8)) w l l.length) (by omega)) ?_
   refine goE mixed ?_
   unfold listS; rw [if_neg (by omega)]
def prinE (p : Prin) : List UInt8 := if vPrin p then prinS p else []
theorem eprincipal_c (p : Prin) (hp : PrinT.ok p) : PC Tryz.prog 155 [.agg (PrinT.cells p)] (.isl .u8 (prinE p)) := by
 unfold prinE
 refine pc_seal rfl rfl ?_
 refine runE mixed fi155 ?_
 refine callI_pure (nencode_c p hp) ?_
 refine goE mixed ?_; trivial
def setS (s : KSet) : List UInt8 := tagS [intS s.1, listS (t := KeyT) keyS s.2.1, txtO s.2.2.1, numO s.2.2.2.1, timeS s.2.2.2.2]
theorem writeSet_c (s : KSet) (hs : SetT.ok s) (hl : s.2.1.length ≤ 1048576) : PC Tryz.prog 160 [.agg (SetT.cells s)] (.isl .u8 (setS s)) := by
 refine pc_seal rfl rfl ?_
 refine runE mixed fi160 ?_
 refine callR_pure (integer_c _) ?_
 refine goE mixed ?_
 refine callR_pure (list_key _ _ keyS hl (fun x _ => dkey_c x)) ?_
 refine goE mixed ?_
 refine callR_pure (etext_c _ hs.2.2.1) ?_
 refine goE mixed ?_
 refine callR_pure (einteger_c _) ?_
 refine goE mixed ?_
 refine callR_pure (time_c _) ?_
 refine goE mixed ?_
 refine callR_move (etagged_c _ (by simp)) (by decide) rfl rfl ?_
 refine goE mixed ?_
 rfl
def saltS (s : Salt) : List UInt8 := tagS [intS s.1, elemS 27 [s.2.1.data.toList], intS s.2.2]
theorem writeSalt_c (s : Salt) (hs : SaltT.ok s) : PC Tryz.prog 135 [.agg (SaltT.cells s)] (.isl .u8 (saltS s)) := by
 refine pc_seal rfl rfl ?_
 refine runE mixed fi135 ?_
 refine callR_pure (integer_c _) ?_
 refine goE mixed ?_
 refine callR_pure (dstring_c _ hs.2.1) ?_
 refine goE mixed ?_
 refine callR_pure (integer_c _) ?_
 refine goE mixed ?_
 refine callR_move (etagged_c _ (by simp)) (by decide) rfl rfl ?_
 refine goE mixed ?_
 rfl
def offerS (l : List Salt) : List UInt8 := if l.length = 0 then elemS 48 [] else listS (t := SaltT) saltS l
theorem writeOffer_c (l : List Salt) (ho : (Ty.slice SaltT).ok l) (hl : l.length ≤ 1048576) : PC Tryz.prog 71 [.isl SaltT l] (.isl .u8 (offerS l)) := by
 refine pc_seal rfl rfl ?_
 refine runE mixed fi71 ?_
 refine ⟨fun h0 => ?_, fun h0 => ?_⟩
 · refine callI_pure ((sequence_c [] (by simp)).arg (by simp [leVL_cons, leVL_nil, leV_nil])) ?_
   refine goE mixed ?_
   unfold offerS; rw [if_pos (by omega)]
 · refine callI_pure (list_salt l _ saltS hl (fun x hx => writeSalt_c x (ho.2 x hx))) ?_
   refine goE mixed ?_
   unfold offerS; rw [if_neg (by omega)]
def vSalt (s : Salt) : Bool := decide (keyLen s.1 ≠ 0) && (decide ((s.2.1.size : Int) ≤ 256) && (decide (0 ≤ s.2.2) && decide (s.2.2 ≤ 65536)))
def oOrd (a b : Salt) : Bool := decide (a.1 < b.1)
theorem voffer1_c (s : Salt) : PC Tryz.prog 130 [.agg (SaltT.cells s)] (rB (vSalt s)) := by
 refine pc_of rfl rfl ?_
 refine runE mixed fi130 ?_ <;> try with_reducible exact True.intro
 repeat' (first
  | (refine callI_pure (keyLen_c _) ?_; refine run_sound mixed 600 _ ?_; simp (maxSteps := 3000000) only [go_sem, ↓zA, ↓reduceIte, ↓reduceDIte, reduceCtorEq, Nat.reduceAdd, Nat.reduceSub, Nat.reduceLeDiff, Nat.reduceLT, Nat.reduceEqDiff, Nat.reduceBEq, Nat.reduceMul, Int.reduceToNat, Int.reduceEq, Int.reduceLT, Int.reduceLE] <;> try simp only [zB])
  | (refine callR_pure (keyLen_c _) ?_; refine run_sound mixed 600 _ ?_; simp (maxSteps := 3000000) only [go_sem, ↓zA, ↓reduceIte, ↓reduceDIte, reduceCtorEq, Nat.reduceAdd, Nat.reduceSub, Nat.reduceLeDiff, Nat.reduceLT, Nat.reduceEqDiff, Nat.reduceBEq, Nat.reduceMul, Int.reduceToNat, Int.reduceEq, Int.reduceLT, Int.reduceLE] <;> try simp only [zB])
  | (refine callF_pure (keyLen_c _) ?_; refine run_sound mixed 600 _ ?_; simp (maxSteps := 3000000) only [go_sem, ↓zA, ↓reduceIte, ↓reduceDIte, reduceCtorEq, Nat.reduceAdd, Nat.reduceSub, Nat.reduceLeDiff, Nat.reduceLT, Nat.reduceEqDiff, Nat.reduceBEq, Nat.reduceMul, Int.reduceToNat, Int.reduceEq, Int.reduceLT, Int.reduceLE] <;> try simp only [zB])
  | (refine callI_pure (btw_c _ _ _) ?_; refine run_sound mixed 600 _ ?_; simp (maxSteps := 3000000) only [go_sem, ↓zA, ↓reduceIte, ↓reduceDIte, reduceCtorEq, Nat.reduceAdd, Nat.reduceSub, Nat.reduceLeDiff, Nat.reduceLT, Nat.reduceEqDiff, Nat.reduceBEq, Nat.reduceMul, Int.reduceToNat, Int.reduceEq, Int.reduceLT, Int.reduceLE] <;> try simp only [zB])
  | (refine callR_pure (btw_c _ _ _) ?_; refine run_sound mixed 600 _ ?_; simp (maxSteps := 3000000) only [go_sem, ↓zA, ↓reduceIte, ↓reduceDIte, reduceCtorEq, Nat.reduceAdd, Nat.reduceSub, Nat.reduceLeDiff, Nat.reduceLT, Nat.reduceEqDiff, Nat.reduceBEq, Nat.reduceMul, Int.reduceToNat, Int.reduceEq, Int.reduceLT, Int.reduceLE] <;> try simp only [zB])
  | (refine callF_pure (btw_c _ _ _) ?_; refine run_sound mixed 600 _ ?_; simp (maxSteps := 3000000) only [go_sem, ↓zA, ↓reduceIte, ↓reduceDIte, reduceCtorEq, Nat.reduceAdd, Nat.reduceSub, Nat.reduceLeDiff, Nat.reduceLT, Nat.reduceEqDiff, Nat.reduceBEq, Nat.reduceMul, Int.reduceToNat, Int.reduceEq, Int.reduceLT, Int.reduceLE] <;> try simp only [zB])
  | (with_reducible refine And.intro ?_ ?_)
  | (with_reducible intro _))
 all_goals (grind [vSalt])
theorem voffer2_c (a b : Salt) : PC Tryz.prog 132 [.agg (SaltT.cells a), .agg (SaltT.cells b)] (rB (oOrd a b)) := by
 refine pc_of rfl rfl ?_
 refine runE mixed fi132 ?_
 rfl
def vOffer (l : List Salt) : Bool := (decide ((l.length : Int) ≤ 4) && l.all vSalt) && ord (t := SaltT) oOrd l
theorem voffer_c (l : List Salt) (hl : l.length ≤ 1125899906842624) : PC Tryz.prog 70 [.isl SaltT l] (rB (vOffer l)) := by
 refine pc_of rfl rfl ?_
 refine runE mixed fi70 ?_
 refine callI_at ((every_salt _ _ _ _ vSalt _ hl (fun x _ G => (voffer1_c x).at _))) ?_
 refine goE mixed ?_
 refine ⟨fun h1 => ?_, fun h1 => ?_⟩
 rotate_left
 · first | (simp only [vOffer, h1, Bool.false_and, Bool.and_false]; done) | simp [vOffer, h1]
 refine callI_at (ordered_salt _ _ _ oOrd _ hl (fun x _ y _ G => (voffer2_c x y).at _)) ?_
 refine goE mixed ?_
 simp_all [vOffer]
theorem encodeOffer_c (l : List Salt) (ho : (Ty.slice SaltT).ok l) : PC Tryz.prog 32 [.isl SaltT l] (.tup [.isl .u8 (if vOffer l then offerS l else []), rI (if vOffer l then 0 else 2)]) := by
 refine pc_seal rfl rfl ?_
 refine runE mixed fi32 ?_
 refine callI_pure (voffer_c l ho.1) ?_
 refine goE mixed ?_
 refine ⟨fun h => ?_, fun h => ?_⟩
 · rw [h]; exact ⟨rfl, rfl⟩
 · have hl : l.length ≤ 1048576 := by simp [vOffer] at h; omega
   refine callI_pure (writeOffer_c l ho hl) ?_
   refine goE mixed ?_
   rw [h]; exact ⟨rfl, rfl⟩
end Go.Proofs.YtddmkgibghohkaaGreatDoor
/- Contracts: the encoding of entries. -/
namespace Go.Proofs.YtddmkgibghohkaaGreatDoor
open Go Go.Sx Go.Proofs
set_option maxRecDepth 100000
set_option maxHeartbeats 4000000
set_option linter.unusedSimpArgs false

def octS (b : List UInt8) : List UInt8 := elemS 4 [b]
def entS (e : Ent) : List UInt8 := tagS [prinE e.1, listS (t := PrinT) prinE e.2.1, bitsS e.2.2.1, numO e.2.2.2.1, listS (t := SetT) setS e.2.2.2.2.1, txtO e.2.2.2.2.2.1, timO e.2.2.2.2.2.2.1, timO e.2.2.2.2.2.2.2.1, numO e.2.2.2.2.2.2.2.2.1, numO e.2.2.2.2.2.2.2.2.2.1,
 numO e.2.2.2.2.2.2.2.2.2.2.1, timO e.2.2.2.2.2.2.2.2.2.2.2.1, timO e.2.2.2.2.2.2.2.2.2.2.2.2.1, listS (t := PrinT) prinE e.2.2.2.2.2.2.2.2.2.2.2.2.2.1, listS (t := PrinT) prinE e.2.2.2.2.2.2.2.2.2.2.2.2.2.2.1, listS (t := Ty.slice .u8) octS e.2.2.2.2.2.2.2.2.2.2.2.2.2.2.2]
theorem write_c (e : Ent) (ho : EntT.ok e) (hs : small47 e) (ha : 0 ≤ e.2.2.1 ∧ e.2.2.1 ≤ 4294967295) : PC Tryz.prog 85 [.agg (EntT.cells e)] (.isl .u8 (entS e)) := by
 obtain ⟨e1, e2, e3, e4, e5, e6, e7, e8, e9, e10, e11, e12, e13, e14, e15, e16⟩ := e
 obtain ⟨h1, ⟨h2, h2'⟩, ⟨h5, h5'⟩, ⟨h14, h14'⟩, ⟨h15, h15'⟩, ⟨h16, h16'⟩⟩ := hs
 dsimp only at *
 refine pc_seal rfl rfl ?_
 refine runE mixed fi85 ?_
 refine callR_pure (eprincipal_c e1 ho.1) ?_
 refine goE mixed ?_
 refine callR_pure (list_prin e2 _ prinE h2 (fun x hx => eprincipal_c x (ho.2.1.2 x hx))) ?_
 refine goE mixed ?_
 refine callR_pure (bits_c _ ha) ?_
 refine goE mixed ?_
 refine callR_pure (einteger_c _) ?_
 refine goE mixed ?_
 refine callR_pure (list_kset e5 _ setS h5 (fun x hx => writeSet_c x (ho.2.2.2.2.1.2 x hx) (h5' x hx).1)) ?_
 refine goE mixed ?_
 refine callR_pure (etext_c _ ho.2.2.2.2.2.1) ?_
 refine goE mixed ?_
 refine callR_pure (einstant_c _) ?_
 refine goE mixed ?_
 refine callR_pure (einstant_c _) ?_
 refine goE mixed ?_
 refine callR_pure (einteger_c _) ?_
 refine goE mixed ?_
 refine callR_pure (einteger_c _) ?_
 refine goE mixed ?_
 refine callR_pure (einteger_c _) ?_
 refine goE mixed ?_
 refine callR_pure (einstant_c _) ?_
 refine goE mixed ?_
 refine callR_pure (einstant_c _) ?_
 refine goE mixed ?_
 refine callR_pure (list_prin e14 _ prinE h14 (fun x hx => eprincipal_c x (ho.2.2.2.2.2.2.2.2.2.2.2.2.2.1.2 x hx))) ?_
 refine goE mixed ?_
 refine callR_pure (list_prin e15 _ prinE h15 (fun x hx => eprincipal_c x (ho.2.2.2.2.2.2.2.2.2.2.2.2.2.2.1.2 x hx))) ?_
 refine goE mixed ?_
 refine callR_pure (list_bytes e16 _ octS h16 (fun x _ => octets_c x)) ?_
 refine goE mixed ?_
 refine callR_move (etagged_c _ (by simp)) (by decide) rfl rfl ?_
 refine goE mixed ?_
 rfl
theorem vPrin_small {p : Prin} (h : vPrin p = true) : p.1.length ≤ 1048576 := by simp [vPrin] at h; omega
theorem vKeyS_small {v m : Int} {k : Key} (h : vKeyS v m k = true) : k.2.2.length ≤ 1048576 := by
 simp only [vKeyS, Bool.and_eq_true, decide_eq_true_eq] at h
 have h3 := h.2.2
 split at h3
 · have hk : keyLen k.1 ≤ 32 := by unfold keyLen; split <;> (try split) <;> omega
   simp only [vKey, Bool.and_eq_true, decide_eq_true_eq] at h3
   omega
 · simp only [Bool.and_eq_true, decide_eq_true_eq] at h3; omega
theorem vSet_small {s : KSet} {m : Int} (h : vSet s m = true) : s.2.1.length ≤ 1048576 ∧ ∀ k ∈ s.2.1, k.2.2.length ≤ 1048576 := by
 simp only [vSet, Bool.and_eq_true, decide_eq_true_eq, List.all_eq_true] at h
 exact ⟨by omega, fun k hk => vKeyS_small (h.2.2.1.2 k hk)⟩
theorem vEnt_small {e : Ent} (h : vEnt e = true) : small47 e := by
 simp only [vEnt, vNames, vKeys, vPrins, Bool.and_eq_true, decide_eq_true_eq, List.all_eq_true] at h
 obtain ⟨⟨n1, ⟨n2, n3⟩, _⟩, _, _, ⟨⟨k1, k2⟩, _⟩, _, _, _, _, ⟨⟨t1, t2⟩, _⟩, ⟨⟨d1, d2⟩, _⟩, h1, h2⟩ := h
 refine ⟨vPrin_small n1, ⟨by omega, fun p hp => ?_⟩, ⟨by omega, fun s hs => vSet_small (k2 s hs)⟩, ⟨by omega, fun p hp => vPrin_small (t2 p hp)⟩, ⟨by omega, fun p hp => vPrin_small (d2 p hp)⟩, ⟨by omega, fun b hb => ?_⟩⟩
 · have := n3 p hp
   simp only [vAlias, Bool.and_eq_true] at this
   exact vPrin_small this.1
 · have := h2 b hb
   simp only [lenB, decide_eq_true_eq] at this
   omega
theorem encode_c (e : Ent) (ho : EntT.ok e) (ha : 0 ≤ e.2.2.1 ∧ e.2.2.1 ≤ 4294967295) : PC Tryz.prog 37 [.agg (EntT.cells e)] (.tup [.isl .u8 (if vEnt e then entS e else []), rI (if vEnt e then 0 else 2)]) := by
 refine pc_seal rfl rfl ?_
 refine runE mixed fi37 ?_
 refine callI_pure (valid_k e ho) ?_
 refine goE mixed ?_
 refine ⟨fun h => ?_, fun h => ?_⟩
 · rw [h]; exact ⟨rfl, rfl⟩
 · refine callI_pure (write_c e ho (vEnt_small h) ha) ?_
   refine goE mixed ?_
   rw [h]; exact ⟨rfl, rfl⟩
end Go.Proofs.YtddmkgibghohkaaGreatDoor
