/- Contracts: names. -/
import Derived.Test.YtoeieekegmmdkaaGreatDoorP12
import Derived.Test.YtoeieekegmmdkaaGreatDoorP13
import Derived.Test.YtoeieekegmmdkaaGreatDoorP9
import Derived.Test.YtoeieekegmmdkaaGreatDoorP10
set_option linter.unusedSimpArgs false
set_option linter.unusedVariables false
set_option linter.unusedSectionVars false
namespace Go.Proofs.YtoeieekegmmdkaaGreatDoor
open Go Go.Sx Go.Proofs
set_option maxRecDepth 100000
set_option maxHeartbeats 4000000
set_option linter.unusedSimpArgs false

def szB (s : ByteArray) : Bool := decide (1 ≤ (s.size : Int)) && decide ((s.size : Int) ≤ 32)
theorem szd_c (s : ByteArray) : PC Tryz.prog 119 [rS s] (rB (szB s)) := by
 refine pc_of rfl rfl ?_
 refine runE mixed fi119 ?_
 grind [szB]
def visC (c : UInt8) : Bool := decide (33 ≤ (c.toNat : Int)) && decide ((c.toNat : Int) ≤ 126)
theorem visC_of {c : UInt8} (h1 : ¬ (c.toNat : Int) < 33) (h2 : ¬ 126 < (c.toNat : Int)) : visC c = true := by simp [visC]; omega
theorem visC_lo {c : UInt8} (h1 : (c.toNat : Int) < 33) : visC c = false := by simp [visC]; omega
theorem visC_hi {c : UInt8} (h1 : 126 < (c.toNat : Int)) : visC c = false := by simp [visC]; omega
def visB (s : ByteArray) : Bool := allN s.size fun j => visC (s.data.toList.getD j 0)
theorem prt_c (s : ByteArray) (hs : s.size ≤ 140737488355328) : PC Tryz.prog 80 [rS s] (rB (visB s && szB s)) := by
 refine pc_of rfl rfl ?_
 refine runE mixed fi80 ?_
 refine si_cnt 6 s.size (fun j => visC (s.data.toList.getD j 0) = true) ?_ fun i hi hall => ?_
 · with_reducible refine sxE ?_; trivial
 refine goE mixed ?_
 refine ⟨fun hlt => ⟨⟨by omega, hlt⟩, fun h33 => ⟨⟨by omega, hlt⟩, fun h126 => ?_, fun h126 => cnt_next hlt hall ?_ ?_⟩, fun h33 => ?_⟩, fun hge => callI_pure (szd_c s) ?_⟩
 · rw [show visB s = false from allN_false hlt (visC_hi h126)]; rfl
 · exact visC_of h33 h126
 · with_reducible refine sxE ?_
   rw [wrap_succ (by omega)]
 · rw [show visB s = false from allN_false hlt (visC_lo h33)]; rfl
 · refine goE mixed ?_
   rw [show visB s = true from allN_true fun j hj => hall j (by omega)]; rfl

def fidx (l : List Bool) : Int := if l.all id then -1 else ((l.findIdx (!·) : Nat) : Int)
theorem fidx_at {l : List Bool} {i : Nat} (hlt : i < l.length) (hall : ∀ j, j < i → l.getD j false = true) (h : l.getD i false = false) : fidx l = i := by
 have h1 : ¬ l.all id = true := fun ha => by
  rw [List.all_eq_true] at ha
  have := ha _ (getD_mem (d := false) hlt)
  rw [h] at this; cases this
 unfold fidx
 rw [if_neg h1, Int.ofNat_inj, List.findIdx_eq hlt]
 refine ⟨by rw [List.getD_eq_getElem?_getD, List.getElem?_eq_getElem hlt] at h; simpa using h, fun j hj => ?_⟩
 have := hall j hj
 rw [List.getD_eq_getElem?_getD, List.getElem?_eq_getElem (by omega)] at this
 simpa using this
theorem fidx_no {l : List Bool} (hall : ∀ j, j < l.length → l.getD j false = true) : fidx l = -1 := by
 have h1 : l.all id = true := by
  rw [List.all_eq_true]
  intro x hx
  obtain ⟨j, hj, rfl⟩ := List.getElem_of_mem hx
  have := hall j hj
  rw [List.getD_eq_getElem?_getD, List.getElem?_eq_getElem hj] at this
  simpa using this
 unfold fidx
 rw [if_pos h1]
theorem bindex_c (l : List Bool) (hl : l.length ≤ 1125899906842624) : PC Tryz.prog 157 [.isl .bool l, rB false] (rI (fidx l)) := by
 refine pc_of rfl rfl ?_
 refine runE mixed fi157 ?_
 refine si_cnt 8 l.length (fun j => l.getD j false = true) ?_ fun i hi hall => ?_
 · with_reducible refine sxE ?_; trivial
 refine goE mixed ?_
 refine ⟨fun hlt => ⟨⟨by omega, hlt⟩, fun h => ?_, fun h => cnt_next hlt hall ?_ ?_⟩, fun hge => ?_⟩
 · rw [fidx_at hlt hall h.symm]
 · simpa [Ty.dflt] using h
 · with_reducible refine sxE ?_
   rw [wrap_succ (by omega)]
 · rw [fidx_no (fun j hj => hall j (by omega))]
theorem bcontains_c (l : List Bool) (hl : l.length ≤ 1125899906842624) : PC Tryz.prog 118 [.isl .bool l, rB false] (rB (!l.all id)) := by
 refine pc_of rfl rfl ?_
 refine runE mixed fi118 ?_
 refine callI_pure (bindex_c l hl) ?_
 refine goE mixed ?_
 unfold fidx
 split
 · simp_all
 · rename_i h
   simp [h]
theorem nall_c (l : List Bool) (hl : l.length ≤ 1125899906842624) : PC Tryz.prog 78 [.isl .bool l] (rB (l.all id)) := by
 refine pc_of rfl rfl ?_
 refine runE mixed fi78 ?_
 refine callI_pure (bcontains_c l hl) ?_
 refine goE mixed ?_
 simp

theorem rlm_c (s : ByteArray) (hs : s.size ≤ 140737488355328) : PC Tryz.prog 79 [rS s] (rB (realmB s)) :=
 pc_calls (vs := [.string s]) (by kernel_rfl) fun w => realm_c s w hs _ (Lib.hid rfl)

def vPart (s : ByteArray) : Bool := visB s && szB s
def vPrin (p : Prin) : Bool := (decide (1 ≤ (p.1.length : Int)) && (decide ((p.1.length : Int) ≤ 4) && realmB p.2)) && allN p.1.length fun j => vPart (p.1.getD j ByteArray.empty)
theorem nvalid_c (p : Prin) (hp : PrinT.ok p) : PC Tryz.prog 43 [.agg (PrinT.cells p)] (rB (vPrin p)) := by
 obtain ⟨l, r⟩ := p
 refine pc_of rfl rfl ?_
 refine runE mixed fi43 ?_
 refine callR_pure (rlm_c r hp.2) ?_
 refine goE mixed ?_
 refine callR_hand 1 (by decide) ?_
 with_reducible refine sxE ?_
 refine callR_pure (nall_c _ (by simp)) ?_
 refine run_sound mixed 600 _ ?_
 simp (maxSteps := 3000000) only [List.all_cons, List.all_nil, id, go_sem, ↓zA, ↓reduceIte, ↓reduceDIte, reduceCtorEq, Nat.reduceAdd, Nat.reduceSub, Nat.reduceLeDiff, Nat.reduceLT, Nat.reduceEqDiff, Nat.reduceBEq, Nat.reduceMul, Int.reduceToNat, Int.reduceEq, Int.reduceLT, Int.reduceLE] <;> try simp only [zB]
 refine ⟨fun h => ?_, fun h => ?_⟩
 · rw [vPrin, h]; rfl
 refine si_cnt 22 l.length (fun j => vPart (l.getD j ByteArray.empty) = true) ?_ fun i hi hall => ?_
 · with_reducible refine sxE ?_; trivial
 have hl : l.length ≤ 1125899906842624 := hp.1.1
 refine goE mixed ?_
 refine ⟨fun hlt => ⟨⟨by omega, hlt⟩, callI_pure (prt_c _ (hp.1.2 _ (getD_mem hlt))) ?_⟩, fun hge => ?_⟩
 · refine goE mixed ?_
   refine ⟨fun hb => ?_, fun hb => cnt_next hlt hall hb ?_⟩
   · rw [vPrin, show (allN l.length fun j => vPart (l.getD j ByteArray.empty)) = false from allN_false hlt hb]; simp
   · with_reducible refine sxE ?_
     rw [wrap_succ (by omega)]
 · rw [vPrin, h, show (allN l.length fun j => vPart (l.getD j ByteArray.empty)) = true from allN_true fun j hj => hall j (by omega)]; rfl
end Go.Proofs.YtoeieekegmmdkaaGreatDoor

/- Contracts: the text of a principal. -/
namespace Go.Proofs.YtoeieekegmmdkaaGreatDoor
open Go Go.Sx Go.Proofs
set_option maxRecDepth 100000
set_option maxHeartbeats 4000000
set_option linter.unusedSimpArgs false

end Go.Proofs.YtoeieekegmmdkaaGreatDoor

/- Contracts: the encoding. -/
namespace Go.Proofs.YtoeieekegmmdkaaGreatDoor
open Go Go.Sx Go.Proofs
set_option maxRecDepth 100000
set_option maxHeartbeats 4000000
set_option linter.unusedSimpArgs false

def byteOf (x : Int) : UInt8 := UInt8.ofNat (IntKind.u8.wrap x).toNat
theorem u8wrap (x : Int) : 0 ≤ IntKind.u8.wrap x ∧ IntKind.u8.wrap x < 256 := by
 have h : IntKind.u8.wrap x = x % 256 := by simp [IntKind.wrap, IntKind.bits, IntKind.signed]
 rw [h]
 omega
theorem byte_ob (x : Int) : ((UInt8.ofNat (IntKind.u8.wrap x).toNat).toNat : Int) = IntKind.u8.wrap x := by
 have := u8wrap x
 rw [UInt8.toNat_ofNat']; omega
theorem tag_ob (c : UInt8) : ((UInt8.ofNat c.toNat).toNat : Int) = c.toNat := by simp
def lenS (n : Nat) : List UInt8 :=
 if n < 128 then [byteOf n] else if n < 256 then [129, byteOf n] else if n < 65536 then [130, byteOf ((n : Int).fdiv 256), byteOf n] else [131, byteOf ((n : Int).fdiv 65536), byteOf ((n : Int).fdiv 256), byteOf n]
def tlv (tag : UInt8) (c : List UInt8) : List UInt8 := tag :: (lenS c.length ++ c)
def elemS (tag : UInt8) (parts : List (List UInt8)) : List UInt8 := if parts.flatten.length ≤ 16777215 then tlv tag parts.flatten else []
def flatN (parts : List (List UInt8)) (i : Nat) : List UInt8 := (parts.take i).flatten
theorem flatN_succ {parts : List (List UInt8)} {i : Nat} (h : i < parts.length) : flatN parts (i + 1) = flatN parts i ++ parts.getD i (Ty.slice .u8).dflt := by
 unfold flatN; rw [take_succ_getD (d := (Ty.slice .u8).dflt) h]; simp
theorem flatN_all (parts : List (List UInt8)) : flatN parts parts.length = parts.flatten := by unfold flatN; rw [List.take_length]
theorem flatN_le (parts : List (List UInt8)) (i : Nat) : (flatN parts i).length ≤ parts.flatten.length := by
 unfold flatN
 have := congrArg List.flatten (List.take_append_drop i parts)
 rw [List.flatten_append] at this
 rw [← this]; simp
def fitAt (parts : List (List UInt8)) (j : Nat) : Bool := decide ((flatN parts (j + 1)).length ≤ 16777215)

theorem element_c (tag : UInt8) (parts : List (List UInt8)) (hp : parts.length ≤ 1125899906842624) : PC Tryz.prog 70 [.raw (.int .u8 tag.toNat), .isl (.slice .u8) parts] (.isl .u8 (elemS tag parts)) := by
 refine pc_seal rfl rfl ?_
 refine runE mixed fi70 ?_
 refine si_cntD (fun i => [(5, rI ((flatN parts i).length)), (13, .raw (.int .i64 ((i : Nat) : Int)))]) (parts.length) (fun j => (fitAt parts) j = true) (by first | decide | simp) (fun i => rfl) ?_ fun i hi hall => ?_
 · (with_reducible refine sxE ?_ <;> try exact True.intro)
   all_goals (try rfl)
 have hwr : IntKind.i64.wrap ((i : Int) + 1) = ((i + 1 : Nat) : Int) := wrap_succ (by omega)
 refine goE mixed ?_
 have bad : i < (parts.length) → (fitAt parts) i = false → allN (parts.length) (fitAt parts) = false := fun hlt hv => allN_false hlt hv
 have fin : ¬ i < (parts.length) → allN (parts.length) (fitAt parts) = true := fun h => allN_true fun j hj => hall j (by omega)
 try dsimp only at bad fin hall
 have hn : (flatN parts i).length ≤ 16777215 := by
  cases i with
  | zero => simp [flatN]
  | succ j => have := hall j (by omega); simpa [fitAt] using this
 rw [wrapi (n := 16777215 - ((flatN parts i).length : Int)) (by omega), wrapi (n := ((flatN parts i).length : Int) + 5) (by omega)]
 refine ⟨fun hlt => ⟨⟨by omega, hlt⟩, fun hbig => ?_, fun hfit => ?_⟩, fun hge => ?_⟩
 · have h1 := flatN_le parts (i + 1)
   rw [flatN_succ hlt, List.length_append] at h1
   unfold elemS
   rw [if_neg (by omega)]
 · have h2 : ((flatN parts i).length : Int) + ((parts.getD i (Ty.slice .u8).dflt).length : Int) = ((flatN parts (i + 1)).length : Int) := by rw [flatN_succ hlt, List.length_append]; rfl
   have h3 : (flatN parts (i + 1)).length ≤ 16777215 := by omega
   refine ⟨hlt, next_all hall (by simpa [fitAt] using h3), ⟨_, rfl⟩, ?_⟩
   rw [h2, wrapi (n := ((flatN parts (i + 1)).length : Int)) (by omega)]
   with_reducible refine sx1 hwr ?_; trivial
 · obtain rfl : i = parts.length := by omega
   rw [flatN_all] at *
   have he : elemS tag parts = tag :: (lenS parts.flatten.length ++ flatN parts parts.length) := by unfold elemS tlv; rw [if_pos hn, flatN_all]
   refine ⟨⟨by omega, by omega, by omega⟩, tag_ob tag, fun h1 => ⟨byte_ob _, ?_⟩, fun h1 => ⟨fun h2 => ⟨?_, ?_⟩, fun h2 => ⟨fun h3 => ⟨?_, ?_⟩, fun h3 => ⟨?_, ?_⟩⟩⟩⟩
   any_goals (repeat' (first | exact byte_ob _ | exact rfl | with_reducible refine And.intro ?_ ?_))
   have hL : lenS parts.flatten.length = [byteOf parts.flatten.length] := by unfold lenS; rw [if_pos (by omega)]
   rotate_left
   have hL : lenS parts.flatten.length = [129, byteOf parts.flatten.length] := by unfold lenS; rw [if_neg (by omega), if_pos (by omega)]
   rotate_left
   have hL : lenS parts.flatten.length = [130, byteOf ((parts.flatten.length : Int).fdiv 256), byteOf parts.flatten.length] := by unfold lenS; rw [if_neg (by omega), if_neg (by omega), if_pos (by omega)]
   rotate_left
   have hL : lenS parts.flatten.length = [131, byteOf ((parts.flatten.length : Int).fdiv 65536), byteOf ((parts.flatten.length : Int).fdiv 256), byteOf parts.flatten.length] := by unfold lenS; rw [if_neg (by omega), if_neg (by omega), if_neg (by omega)]
   rotate_left
   all_goals
    refine si_accB (H := [_, _, _, _]) 8 .u8 (fun i => tag :: (lenS parts.flatten.length ++ flatN parts i)) (fun i => [(44, .any), (52, .any), (60, .any), (71, .any), (74, rI i)]) parts.length (fun _ => True) (by rw [hL]; simp [flatN, byteOf]) (by simp) rfl (fun i => rfl) ?_ fun i hi _ => ?_
    · with_reducible refine sx1 hL ?_
      simp [flatN]
    have hwr : IntKind.i64.wrap ((i : Int) + 1) = ((i + 1 : Nat) : Int) := wrap_succ (by omega)
    have hfl := flatN_le parts i
    have hll : (lenS parts.flatten.length).length ≤ 4 := by rw [hL]; simp
    refine goE mixed ?_
    have e1 : (lenS parts.flatten.length ++ flatN parts i).length = (lenS parts.flatten.length).length + (flatN parts i).length := List.length_append
    refine ⟨fun hlt => ?_, fun hge => ?_⟩
    · have h4 := flatN_le parts (i + 1)
      have h5 := flatN_succ hlt
      rw [h5, List.length_append] at h4
      refine ⟨⟨by omega, hlt⟩, ⟨by omega, by omega⟩, acc_next [.dead] [] hlt trivial (by rw [h5, ← List.append_assoc]; rfl) ?_⟩
      with_reducible refine sx3 hwr h5 ?_
      exact congrArg (SV.bld 5 .u8) (by omega)
    · obtain rfl : i = parts.length := by omega
      rw [List.take_of_length_le (Nat.le_refl _)]
      exact ⟨⟨Nat.le_refl _, by omega⟩, he.symm⟩
end Go.Proofs.YtoeieekegmmdkaaGreatDoor

/- Contracts: the encoding of integers, times, strings, keys. -/
namespace Go.Proofs.YtoeieekegmmdkaaGreatDoor
open Go Go.Sx Go.Proofs
set_option maxRecDepth 100000
set_option maxHeartbeats 4000000
set_option linter.unusedSimpArgs false

def byteAt (v : Int) (k : Nat) : UInt8 := byteOf (v.fdiv (2 ^ min (8 * k) 64))
def numN (v : Int) (size i : Nat) : List UInt8 := (List.range size).map fun j => if size - 1 - j < i then byteAt v (size - 1 - j) else 0
def numS (v : Int) (size : Nat) : List UInt8 := (List.range size).map fun j => byteAt v (size - 1 - j)
theorem numN_zero (v : Int) (size : Nat) : List.replicate size (0 : UInt8) = numN v size 0 := by
 apply List.ext_getElem
 · simp [numN]
 · intro j h1 h2; simp [numN]
theorem numN_all (v : Int) (size : Nat) : numN v size size = numS v size := by
 apply List.ext_getElem
 · simp [numN, numS]
 · intro j h1 h2
   simp [numN, numS]
   simp [numN] at h1
   intro h; omega
theorem numN_set {v : Int} {size i : Nat} (h : i < size) : (numN v size i).set (size - 1 - i) (byteAt v i) = numN v size (i + 1) := by
 apply List.ext_getElem
 · simp [numN]
 · intro j h1 h2
   simp [numN] at h2
   simp only [numN, List.getElem_set, List.getElem_map, List.getElem_range]
   split
   · rename_i e
     have : size - 1 - j = i := by omega
     rw [this, if_pos (by omega)]
   · rename_i e
     by_cases h3 : size - 1 - j < i
     · rw [if_pos h3, if_pos (by omega)]
     · rw [if_neg h3, if_neg (by omega)]
theorem number_c (v : Int) (size : Nat) (hs : size ≤ 64) : PC Tryz.prog 72 [rI v, rI size] (.isl .u8 (numS v size)) := by
 refine pc_seal rfl rfl ?_
 refine runE mixed fi72 ?_
 refine ⟨by omega, ?_⟩
 refine si_loopX (ι := Nat) (fun i => [(11, rI i)]) (fun i => [.row .u8 (numN v size i)]) (fun i => size - i) (fun i => i ≤ size) 0 (Nat.zero_le _) (by rw [← numN_zero]; rfl) ?_ ?_
 · with_reducible refine sxE ?_; trivial
 intro i hi
 have w3 : IntKind.i64.wrap (8 * (i : Int)) = ((8 * i : Nat) : Int) := by rw [wrapi (by omega)]; rfl
 have hwr : IntKind.i64.wrap ((i : Int) + 1) = ((i + 1 : Nat) : Int) := wrap_succ (by omega)
 have hln : (numN v size i).length = size := by simp [numN]
 by_cases hlt : i < size
 · have w1 : IntKind.i64.wrap ((size : Int) - 1) = ((size - 1 : Nat) : Int) := by rw [wrapi (by omega)]; omega
   have w2 : IntKind.i64.wrap (((size - 1 : Nat) : Int) - (i : Int)) = ((size - 1 - i : Nat) : Int) := by rw [wrapi (by omega)]; omega
   refine run_sound mixed 600 _ ?_
   simp (maxSteps := 3000000) only [w1, w2, w3, hln, go_sem, ↓zA, ↓reduceIte, ↓reduceDIte, reduceCtorEq, Nat.reduceAdd, Nat.reduceSub, Nat.reduceLeDiff, Nat.reduceLT, Nat.reduceEqDiff, Nat.reduceBEq, Nat.reduceMul, Int.reduceToNat, Int.reduceEq, Int.reduceLT, Int.reduceLE] <;> try simp only [zB]
   refine ⟨fun _ => ⟨by omega, ⟨by omega, by omega⟩, ⟨by omega, byte_ob _⟩, i + 1, hlt, by dsimp only; omega, ?_, ?_⟩, fun h => absurd hlt h⟩
   · dsimp only; rw [← numN_set hlt, Nat.zero_add]; rfl
   · with_reducible refine sx1 hwr ?_; trivial
 · refine run_sound mixed 600 _ ?_
   with_reducible refine sx1 hln ?_
   refine ⟨fun h => absurd h hlt, fun _ => ⟨⟨by omega, by omega⟩, ?_⟩⟩
   obtain rfl : i = size := by omega
   rw [numN_all, List.take_of_length_le (by simp [numS])]
theorem element_k (tag : UInt8) (n : Int) (hn : n = tag.toNat) (parts : List (List UInt8)) (hp : parts.length ≤ 1125899906842624) : PC Tryz.prog 70 [.raw (.int .u8 n), .isl (.slice .u8) parts] (.isl .u8 (elemS tag parts)) := by
 subst hn; exact element_c tag parts hp

def restN (v : Int) : Nat → Int
 | 0 => v
 | k + 1 => (restN v k).fdiv 256
def firstN (n : Nat) (q : Nat → Bool) : Option Nat := (List.range n).find? q
theorem firstN_some {n i : Nat} {q : Nat → Bool} (hi : i < n) (hq : q i = true) (hn : ∀ j, j < i → q j = false) : firstN n q = some i := by
 unfold firstN
 rw [List.find?_range_eq_some]
 exact ⟨hq, by simpa using hi, fun j hj => by rw [hn j hj]; rfl⟩
theorem firstN_none {n : Nat} {q : Nat → Bool} (hn : ∀ j, j < n → q j = false) : firstN n q = none := by
 unfold firstN
 rw [List.find?_range_eq_none]
 exact fun j hj => by rw [hn j hj]; rfl
theorem firstN_spec {n i : Nat} {q : Nat → Bool} (h : firstN n q = some i) : i < n ∧ q i = true ∧ ∀ j, j < i → q j = false := by
 unfold firstN at h
 rw [List.find?_range_eq_some] at h
 exact ⟨by simpa using h.2.1, h.1, fun j hj => by simpa using h.2.2 j hj⟩
def oneB (v : Int) (k : Nat) : Bool := decide (-128 ≤ restN v k) && decide (restN v k ≤ 127)
def intSz (v : Int) : Nat := 1 + (firstN 9 (oneB v)).getD 0
def intS (v : Int) : List UInt8 := if -4611686018427387904 ≤ v ∧ v ≤ 4611686018427387904 then elemS 2 [numS v (intSz v)] else []
theorem fdiv256 (r : Int) : r.fdiv 256 = r / 256 := Int.fdiv_eq_ediv_of_nonneg r (by decide)
theorem rest8 {v : Int} (h1 : -4611686018427387904 ≤ v) (h2 : v ≤ 4611686018427387904) : oneB v 8 = true := by
 simp only [oneB, restN, fdiv256, Bool.and_eq_true, decide_eq_true_eq]
 omega
theorem integer_c (v : Int) : PC Tryz.prog 36 [rI v] (.isl .u8 (intS v)) := by
 refine pc_seal rfl rfl ?_
 refine runE mixed fi36 ?_ <;> try with_reducible exact True.intro
 repeat' (first
  | (with_reducible refine And.intro ?_ ?_)
  | (with_reducible intro _))
 all_goals (skip)
 · unfold intS; rw [if_neg (by omega)]
 rotate_left
 · unfold intS; rw [if_neg (by omega)]
 rename_i h1 h2
 have h8 := rest8 (v := v) (by omega) (by omega)
 refine si_loopX (ι := Nat) (fun k => [(3, rI ((1 + k : Nat) : Int)), (4, rI (restN v k))]) (fun _ => []) (fun k => 9 - k) (fun k => k ≤ 8 ∧ ∀ j, j < k → oneB v j = false) 0 ⟨by omega, fun j hj => absurd hj (by omega)⟩ rfl ?_ ?_
 · simp (maxSteps := 3000000) only [restN, go_sem, ↓zA, ↓reduceIte, ↓reduceDIte, reduceCtorEq, Nat.reduceAdd, Nat.reduceSub, Nat.reduceLeDiff, Nat.reduceLT, Nat.reduceEqDiff, Nat.reduceBEq, Nat.reduceMul, Int.reduceToNat, Int.reduceEq, Int.reduceLT, Int.reduceLE] <;> try simp only [zB]
   rfl
 rintro k ⟨hk, hall⟩
 have hwr : IntKind.i64.wrap (((1 + k : Nat) : Int) + 1) = ((1 + (k + 1) : Nat) : Int) := by rw [wrapi (by omega)]; omega
 refine run_sound mixed 600 _ ?_
 with_reducible refine sx1 hwr ?_
 have hp : (2 : Int) ^ min 8 64 = 256 := by decide
 refine ⟨fun h3 => ⟨fun h4 => ?_, fun h4 => ?_⟩, fun h3 => ?_⟩
 · have ho : oneB v k = false := by simp [oneB]; omega
   have hk8 : k ≠ 8 := fun e => by subst e; rw [h8] at ho; cases ho
   refine ⟨k + 1, ⟨by omega, next_all hall ho⟩, by dsimp only; omega, rfl, ?_⟩
   simp (maxSteps := 3000000) only [restN, hp, go_sem, ↓zA, ↓reduceIte, ↓reduceDIte, reduceCtorEq, Nat.reduceAdd, Nat.reduceSub, Nat.reduceLeDiff, Nat.reduceLT, Nat.reduceEqDiff, Nat.reduceBEq, Nat.reduceMul, Int.reduceToNat, Int.reduceEq, Int.reduceLT, Int.reduceLE] <;> try simp only [zB]
 · have ho : oneB v k = true := by simp [oneB]; omega
   have hz : intSz v = 1 + k := by unfold intSz; rw [firstN_some (by omega) ho hall]; rfl
   refine callI_pure (number_c v (1 + k) (by omega)) ?_
   refine goE mixed ?_
   refine callI_hand 0 ?_
   with_reducible refine sxE ?_
   refine callI_pure (element_k 2 2 rfl _ (by simp)) ?_
   refine goE mixed ?_
   unfold intS
   rw [if_pos (by omega), hz]
 · have ho : oneB v k = false := by simp [oneB]; omega
   have hk8 : k ≠ 8 := fun e => by subst e; rw [h8] at ho; cases ho
   refine ⟨k + 1, ⟨by omega, next_all hall ho⟩, by dsimp only; omega, rfl, ?_⟩
   simp (maxSteps := 3000000) only [restN, hp, go_sem, ↓zA, ↓reduceIte, ↓reduceDIte, reduceCtorEq, Nat.reduceAdd, Nat.reduceSub, Nat.reduceLeDiff, Nat.reduceLT, Nat.reduceEqDiff, Nat.reduceBEq, Nat.reduceMul, Int.reduceToNat, Int.reduceEq, Int.reduceLT, Int.reduceLE] <;> try simp only [zB]
theorem octets_c (b : List UInt8) : PC Tryz.prog 124 [.isl .u8 b] (.isl .u8 (elemS 4 [b])) := by
 refine pc_seal rfl rfl ?_
 refine runE mixed fi124 ?_
 refine callI_hand 0 ?_
 with_reducible refine sxE ?_
 refine callI_pure (element_k 4 4 rfl _ (by simp)) ?_
 refine goE mixed ?_; trivial
def timeS (t : Int) : List UInt8 := if 0 ≤ t ∧ t ≤ 1099511627776 then elemS 24 [numS t 6] else []
theorem time_c (t : Int) : PC Tryz.prog 35 [rI t] (.isl .u8 (timeS t)) := by
 refine pc_seal rfl rfl ?_
 refine runE mixed fi35 ?_
 refine ⟨fun h1 => ⟨fun h2 => ?_, fun h2 => ?_⟩, fun h1 => ?_⟩
 · unfold timeS; rw [if_neg (by omega)]
 · refine callI_pure (number_c t 6 (by omega)) ?_
   refine goE mixed ?_
   refine callI_hand 0 ?_
   with_reducible refine sxE ?_
   refine callI_pure (element_k 24 24 rfl _ (by simp)) ?_
   refine goE mixed ?_
   unfold timeS; rw [if_pos (by omega)]
 · unfold timeS; rw [if_neg (by omega)]
theorem sequence_c (l : List (List UInt8)) (hl : l.length ≤ 1125899906842624) : PC Tryz.prog 28 [.isl (.slice .u8) l] (.isl .u8 (elemS 48 l)) := by
 refine pc_seal rfl rfl ?_
 refine runE mixed fi28 ?_
 refine callI_pure (element_k 48 48 rfl _ hl) ?_
 refine goE mixed ?_; trivial
def wrapS (tag n : Int) (b : List UInt8) : List UInt8 := if 0 ≤ n ∧ n ≤ 30 ∧ b ≠ [] then elemS (byteOf (tag + n)) [b] else []
theorem wrapped_c (tag n : Int) (b : List UInt8) (ht : 0 ≤ tag ∧ tag ≤ 1000) : PC Tryz.prog 71 [rI tag, rI n, .isl .u8 b] (.isl .u8 (wrapS tag n b)) := by
 refine pc_seal rfl rfl ?_
 refine runE mixed fi71 ?_
 refine ⟨fun h1 => ⟨fun h2 => ⟨fun h3 => ?_, fun h3 => ?_⟩, fun h2 => ?_⟩, fun h1 => ?_⟩
 · unfold wrapS; rw [if_neg (fun h => h.2.2 (List.length_eq_zero_iff.1 (by omega)))]
 · refine callI_hand 0 ?_
   with_reducible refine sxE ?_
   refine callI_pure (element_k (byteOf (tag + n)) _ ?_ _ (by simp)) ?_
   · rw [wrapi (by omega)]; exact (byte_ob _).symm
   refine goE mixed ?_
   unfold wrapS
   rw [if_pos ⟨by omega, by omega, fun e => h3 (by rw [e]; rfl)⟩]
 · unfold wrapS; rw [if_neg (by omega)]
 · unfold wrapS; rw [if_neg (by omega)]
theorem tagged_c (n : Int) (b : List UInt8) : PC Tryz.prog 29 [rI n, .isl .u8 b] (.isl .u8 (wrapS 160 n b)) := by
 refine pc_seal rfl rfl ?_
 refine runE mixed fi29 ?_
 refine callI_pure (wrapped_c 160 n b (by omega)) ?_
 refine goE mixed ?_; trivial
def bitsS (f : Int) : List UInt8 := elemS 3 [[0], numS f 4]
theorem bits_c (f : Int) (hf : 0 ≤ f ∧ f ≤ 4294967295) : PC Tryz.prog 30 [.raw (.int .u32 f)] (.isl .u8 (bitsS f)) := by
 refine pc_seal rfl rfl ?_
 refine runE mixed fi30 ?_
 rw [wrapi (by omega)]
 refine ⟨by simp, callI_pure (number_c f 4 (by omega)) ?_⟩
 with_reducible refine sxE ?_
 refine si_freeze 0 rfl rfl (by simp) ?_ ?_ ?_
 · with_reducible refine sxE ?_; trivial
 · with_reducible refine sxE ?_; trivial
 with_reducible refine sxE ?_
 refine goE mixed ?_
 refine callI_hand 1 ?_
 with_reducible refine sxE ?_
 refine callI_pure (element_k 3 3 rfl _ (by simp)) ?_
 refine goE mixed ?_
 rfl
theorem dstring_c (s : ByteArray) (hs : s.size ≤ 140737488355328) : PC Tryz.prog 55 [rS s] (.isl .u8 (elemS 27 [s.data.toList])) := by
 refine pc_seal rfl rfl ?_
 refine vc_fi fi55 (run_sound mixed 8 _ ?_)
 simp (maxSteps := 3000000) only [ir55, go_sem, ↓zA, ↓reduceIte, ↓reduceDIte, reduceCtorEq, Nat.reduceAdd, Nat.reduceSub, Nat.reduceLeDiff, Nat.reduceLT, Nat.reduceEqDiff, Nat.reduceBEq, Nat.reduceMul, Int.reduceToNat, Int.reduceEq, Int.reduceLT, Int.reduceLE] <;> try simp only [zB]
 have hl : (bytesOf s).length = s.size := by simp [bytesOf]
 refine si_freeze 0 rfl rfl (by omega) ?_ ?_ ?_
 · with_reducible refine sxE ?_; trivial
 · with_reducible refine sxE ?_
   omega
 with_reducible refine sxE ?_
 refine goE mixed ?_
 refine callI_hand 1 ?_
 with_reducible refine sxE ?_
 rw [List.take_of_length_le (by omega)]
 refine callI_pure (element_k 27 27 rfl _ (by simp)) ?_
 refine goE mixed ?_
 rfl
def fullAt (l : List (List UInt8)) (j : Nat) : Bool := decide (l.getD j (Ty.slice .u8).dflt ≠ [])
def wholeS (l : List (List UInt8)) : List UInt8 := if allN l.length (fullAt l) then elemS 48 l else []
theorem whole_c (l : List (List UInt8)) (hl : l.length ≤ 1125899906842624) : PC Tryz.prog 125 [.isl (.slice .u8) l] (.isl .u8 (wholeS l)) := by
 refine pc_seal rfl rfl ?_
 refine runE mixed fi125 ?_
 refine si_cntD (fun i => [(7, .raw (.int .i64 ((i : Nat) : Int)))]) (l.length) (fun j => (fullAt l) j = true) (by first | decide | simp) (fun i => rfl) ?_ fun i hi hall => ?_
 · (with_reducible refine sxE ?_ <;> try exact True.intro)
   all_goals (try rfl)
 have hwr : IntKind.i64.wrap ((i : Int) + 1) = ((i + 1 : Nat) : Int) := wrap_succ (by omega)
 refine goE mixed ?_
 have bad : i < (l.length) → (fullAt l) i = false → allN (l.length) (fullAt l) = false := fun hlt hv => allN_false hlt hv
 have fin : ¬ i < (l.length) → allN (l.length) (fullAt l) = true := fun h => allN_true fun j hj => hall j (by omega)
 try dsimp only at bad fin hall
 refine ⟨fun hlt => ⟨⟨by omega, hlt⟩, fun h0 => ?_, fun h0 => ?_⟩, fun hge => callI_pure (sequence_c l hl) ?_⟩
 · have : fullAt l i = false := by simp only [fullAt, decide_eq_false_iff_not, ne_eq, Classical.not_not]; exact List.length_eq_zero_iff.1 (by omega)
   unfold wholeS; rw [bad hlt this]; rfl
 · refine ⟨hlt, next_all hall ?_, ⟨_, rfl⟩, ?_⟩
   · simp only [fullAt, decide_eq_true_eq]; exact fun e => h0 (by rw [e]; rfl)
   · with_reducible refine sx1 hwr ?_; trivial
 · refine goE mixed ?_
   unfold wholeS; rw [fin hge]; rfl
def tagN (l : List (List UInt8)) (i : Nat) : List (List UInt8) := (List.range i).map fun (j : Nat) => wrapS 160 j (l.getD j (Ty.slice .u8).dflt)
theorem tagN_succ (l : List (List UInt8)) (i : Nat) : tagN l (i + 1) = tagN l i ++ [wrapS 160 i (l.getD i (Ty.slice .u8).dflt)] := by simp [tagN, List.range_succ]
def fieldsS (l : List (List UInt8)) : List UInt8 := wholeS (tagN l l.length)
theorem fields_c (l : List (List UInt8)) (hl : l.length ≤ 1048576) : PC Tryz.prog 123 [.isl (.slice .u8) l] (.isl .u8 (fieldsS l)) := by
 refine pc_seal rfl rfl ?_
 refine runE mixed fi123 ?_
 refine si_accN 3 (.slice .u8) (fun i => tagN l i) (fun i => [(8, rI i)]) l.length (fun _ => True) rfl (by simp) (by simp [tagN]) rfl (fun i => rfl) ?_ fun i hi _ => ?_
 · with_reducible refine sxE ?_; trivial
 have hwr : IntKind.i64.wrap ((i : Int) + 1) = ((i + 1 : Nat) : Int) := wrap_succ (by omega)
 have hln : (tagN l i).length = i := by simp [tagN]
 have hst := tagN_succ l i
 refine goE mixed ?_
 refine ⟨fun hlt => ⟨⟨by omega, hlt⟩, callI_pure (tagged_c _ _) ?_⟩, fun hge => ?_⟩
 · refine goE mixed ?_
   refine ⟨⟨by omega, by omega⟩, acc_next [_, _] [] hlt trivial (by rw [hst]; rfl) ?_⟩
   with_reducible refine sx3 hwr hst ?_; trivial
 · obtain rfl : i = l.length := by omega
   refine callI_hand 0 ?_
   with_reducible refine sxE ?_
   refine ⟨by omega, ?_⟩
   rw [List.take_of_length_le (by omega)]
   refine ⟨Nat.le_refl _, callI_pure (whole_c (tagN l l.length) (by omega)) ?_⟩
   refine goE mixed ?_
   rfl
end Go.Proofs.YtoeieekegmmdkaaGreatDoor

/- Contracts: distinct. -/
namespace Go.Proofs.YtoeieekegmmdkaaGreatDoor
open Go Go.Sx Go.Proofs
set_option maxRecDepth 100000
set_option maxHeartbeats 4000000
set_option linter.unusedSimpArgs false

def dec : Bool → List UInt8 → List UInt8 → List (List UInt8)
 | _, cur, [] => [cur]
 | true, cur, c :: r => dec false (cur ++ [c]) r
 | false, cur, c :: r => if c = 92 then dec true cur r else if c = 47 then cur :: dec false [] r else dec false (cur ++ [c]) r
end Go.Proofs.YtoeieekegmmdkaaGreatDoor

/- Realms, plainly; contracts of the reference's names. -/
namespace Go.Proofs.YtoeieekegmmdkaaGreatDoor
open Go Go.Sx Go.Proofs
set_option maxRecDepth 100000
set_option maxHeartbeats 4000000
set_option linter.unusedSimpArgs false

end Go.Proofs.YtoeieekegmmdkaaGreatDoor

/- Contracts: what is valid. -/
namespace Go.Proofs.YtoeieekegmmdkaaGreatDoor
open Go Go.Sx Go.Proofs
set_option maxRecDepth 100000
set_option maxHeartbeats 4000000
set_option linter.unusedSimpArgs false

end Go.Proofs.YtoeieekegmmdkaaGreatDoor

/- Contracts: entries that are valid. -/
namespace Go.Proofs.YtoeieekegmmdkaaGreatDoor
open Go Go.Sx Go.Proofs
set_option maxRecDepth 100000
set_option maxHeartbeats 4000000
set_option linter.unusedSimpArgs false

end Go.Proofs.YtoeieekegmmdkaaGreatDoor

/- Contracts: copies. -/
namespace Go.Proofs.YtoeieekegmmdkaaGreatDoor
open Go Go.Sx Go.Proofs
set_option maxRecDepth 100000
set_option maxHeartbeats 4000000
set_option linter.unusedSimpArgs false

theorem bclone_c (l : List UInt8) (hl : l.length ≤ 140737488355328) : PC Tryz.prog 113 [.isl .u8 l] (.isl .u8 l) := by
 refine pc_seal rfl rfl ?_
 refine runE mixed fi113 ?_
 intro b hb
 refine ⟨hb, fun h => ⟨⟨by omega, by omega⟩, ⟨by omega, by omega⟩, List.take_of_length_le (by omega)⟩⟩
end Go.Proofs.YtoeieekegmmdkaaGreatDoor

/- Contracts: the encoding of entries and offers. -/
namespace Go.Proofs.YtoeieekegmmdkaaGreatDoor
open Go Go.Sx Go.Proofs
set_option maxRecDepth 100000
set_option maxHeartbeats 4000000
set_option linter.unusedSimpArgs false

def strsN (l : List ByteArray) (i : Nat) : List (List UInt8) := (l.take i).map fun s => elemS 27 [s.data.toList]
theorem strsN_succ {l : List ByteArray} {i : Nat} (h : i < l.length) : strsN l (i + 1) = strsN l i ++ [elemS 27 [(l.getD i Ty.str.dflt).data.toList]] := by unfold strsN; rw [take_succ_getD (d := Ty.str.dflt) h]; simp
theorem strsN_len {l : List ByteArray} {i : Nat} (h : i ≤ l.length) : (strsN l i).length = i := by simp [strsN]; omega
def prinS (p : Prin) : List UInt8 := elemS 48 [wrapS 160 0 (elemS 48 (strsN p.1 p.1.length)), wrapS 160 1 (elemS 27 [p.2.data.toList])]
theorem nencode_c (p : Prin) (hp : PrinT.ok p) : PC Tryz.prog 73 [.agg (PrinT.cells p)] (.tup [.isl .u8 (if vPrin p then prinS p else []), rI (if vPrin p then 0 else 2)]) := by
 obtain ⟨l, r⟩ := p
 have hps : prinS (l, r) = elemS 48 [wrapS 160 0 (elemS 48 (strsN l l.length)), wrapS 160 1 (elemS 27 [r.data.toList])] := rfl
 have hok : ∀ {i}, i < l.length → (l.getD i Ty.str.dflt).size ≤ 140737488355328 := fun h => hp.1.2 _ (getD_mem h)
 have hr : r.size ≤ 140737488355328 := hp.2
 have hv := nvalid_c (l, r) hp
 have hv4 : vPrin (l, r) = true → l.length ≤ 4 := fun h => by simp [vPrin] at h; omega
 clear hp
 generalize vPrin (l, r) = vb at *
 generalize prinS (l, r) = ps at *
 change List ByteArray at l
 refine pc_seal rfl rfl ?_
 refine runE mixed fi73 ?_
 refine callI_pure hv ?_
 refine goE mixed ?_
 refine ⟨fun h => ?_, fun h => ?_⟩
 · rw [h]; exact ⟨rfl, rfl⟩
 have hl4 : l.length ≤ 4 := hv4 h
 subst h
 refine si_accN 4 (.slice .u8) (strsN l) (fun i => [(13, rI i)]) l.length (fun _ => True) rfl (by simp) (by simp [strsN]) rfl (fun i => rfl) ?_ fun i hi _ => ?_
 · with_reducible refine sxE ?_; trivial
 have hwr : IntKind.i64.wrap ((i : Int) + 1) = ((i + 1 : Nat) : Int) := wrap_succ (by omega)
 have hln := strsN_len hi
 by_cases hlt : i < l.length
 · refine goE mixed ?_
   refine ⟨fun _ => ⟨⟨by omega, hlt⟩, callI_pure (dstring_c _ (hok hlt)) ?_⟩, fun h => absurd hlt h⟩
   refine goE mixed ?_
   have hst := strsN_succ hlt
   refine ⟨⟨by omega, by omega⟩, acc_next [_, _] [] hlt trivial (by rw [hst]; rfl) ?_⟩
   with_reducible refine sx3 hwr hst ?_; trivial
 · obtain rfl : i = l.length := by omega
   refine si_freeze 1 rfl rfl (by omega) ?_ ?_ ?_
   · with_reducible refine sxE ?_; trivial
   · with_reducible refine sxE ?_
     exact Nat.le_refl _
   with_reducible refine sxE ?_
   rw [List.take_of_length_le (Nat.le_refl _)]
   refine goE mixed ?_
   refine ⟨fun h => absurd h hlt, fun _ => callR_pure (sequence_c _ (by omega)) ?_⟩
   refine goE mixed ?_
   refine callR_pure (tagged_c _ _) ?_
   refine goE mixed ?_
   refine callR_pure (dstring_c r hr) ?_
   refine goE mixed ?_
   refine callR_pure (tagged_c _ _) ?_
   refine goE mixed ?_
   refine callR_hand 2 (by decide) ?_
   with_reducible refine sxE ?_
   refine callR_pure (sequence_c _ (by simp)) ?_
   refine goE mixed ?_
   exact hps.symm
end Go.Proofs.YtoeieekegmmdkaaGreatDoor

/- Contracts: the encoding of entries and offers, as a whole. -/
namespace Go.Proofs.YtoeieekegmmdkaaGreatDoor
open Go Go.Sx Go.Proofs
set_option maxRecDepth 100000
set_option maxHeartbeats 4000000
set_option linter.unusedSimpArgs false

def mapN {t : Ty} (w : t.den → List UInt8) (l : List t.den) (i : Nat) : List (List UInt8) := (l.take i).map w
theorem mapN_succ {t : Ty} {w : t.den → List UInt8} {l : List t.den} {i : Nat} (h : i < l.length) : mapN w l (i + 1) = mapN w l i ++ [w (l.getD i t.dflt)] := by unfold mapN; rw [take_succ_getD (d := t.dflt) h]; simp
theorem mapN_len {t : Ty} {w : t.den → List UInt8} {l : List t.den} {i : Nat} (h : i ≤ l.length) : (mapN w l i).length = i := by simp [mapN]; omega
def prinE (p : Prin) : List UInt8 := if vPrin p then prinS p else []
end Go.Proofs.YtoeieekegmmdkaaGreatDoor

set_option linter.unusedSectionVars false
namespace Go.Sx
open Go
variable [Ghost] {P : Program} {AQ : Ex → List SV → List SObj → Prop} {k0 : Nat} {k : List IT} {t : List SV} {H : List SObj}

structure Cln (cs : List SV) : Prop where
 ren : ∀ σ, SV.renL σ cs = cs
 bel : ∀ n, SV.belL n cs = true
 shut : ∀ n H, SV.sealBL n H cs = some (cs, True)
 le : SV.leAL cs cs
theorem cln_nil : Cln [] := ⟨fun _ => by rw [SV.renL], fun _ => by rw [SV.belL], fun _ _ => by rw [SV.sealBL], by rw [leAL_nil]; trivial⟩
theorem cln_raw {v : Value} {cs : List SV} (h : Cln cs) : Cln (.raw v :: cs) :=
 ⟨fun σ => by rw [SV.renL, h.ren, SV.ren], fun n => by rw [SV.belL, h.bel, SV.bel]; rfl, fun n H => by rw [SV.sealBL, h.shut, SV.sealB]; simp, by rw [leAL_cons]; exact ⟨by rw [leA_raw], h.le⟩⟩
theorem cln_isl {t : Ty} {xs : List t.den} {cs : List SV} (h : Cln cs) : Cln (.isl t xs :: cs) :=
 ⟨fun σ => by rw [SV.renL, h.ren, SV.ren], fun n => by rw [SV.belL, h.bel, SV.bel]; rfl, fun n H => by rw [SV.sealBL, h.shut, SV.sealB]; simp, by rw [leAL_cons]; exact ⟨by rw [leA_isl], h.le⟩⟩
theorem cln_fn {f : Nat} {cs : List SV} (h : Cln cs) : Cln (.fn f [] [] :: cs) :=
 ⟨fun σ => by rw [SV.renL, h.ren, SV.ren, SV.renL], fun n => by rw [SV.belL, h.bel, SV.bel]; rfl, fun n H => by rw [SV.sealBL, h.shut, SV.sealB]; simp [SV.sealBL], by rw [leAL_cons]; exact ⟨by rw [leA_fn]; exact ⟨rfl, rfl, rfl⟩, h.le⟩⟩
theorem cln_cells : ∀ (t : Ty) (x : t.den) {cs : List SV}, Cln cs → Cln (t.cells x ++ cs)
 | .u8, _, _, h => cln_raw h
 | .int _, _, _, h => cln_raw h
 | .bool, _, _, h => cln_raw h
 | .str, _, _, h => cln_raw h
 | .slice _, _, _, h => cln_isl h
 | .prod a b, x, _, h => by rw [Ty.cells, List.append_assoc]; exact cln_cells a x.1 (cln_cells b x.2 h)
 | .unit, _, _, h => h
theorem cln_ty (t : Ty) (x : t.den) : Cln (t.cells x) := by have := cln_cells t x cln_nil; rwa [List.append_nil] at this
theorem sealHL_nil {n : Nat} {l : List SObj} : sealHL n H l [] = True := by simp [sealHL]
theorem sealHL_dead {n : Nat} {o : SObj} {l l' : List SObj} : sealHL n H (o :: l) (.dead :: l') = (o.unmarked ∧ sealHL n H l l') := by simp [sealHL]
attribute [go_sem] sealHL_nil sealHL_dead
end Go.Sx
set_option linter.unusedSectionVars false
namespace Go.Sx
open Go
variable [Ghost] {P : Program} {AQ : Ex → List SV → List SObj → Prop} {k0 : Nat} {k : List IT} {t : List SV} {H : List SObj}

def afterR (P : Program) (AQ : Ex → List SV → List SObj → Prop) (d : Option Tmp) (m : IM) : Out → List SObj → Prop
 | .ret s, H' => SoundI P AQ { m with tmps := putT m.tmps d s, heap := H' }
 | .pan s, H' => AQ (.pan s) [] H'
theorem callR_eff {G : List Nat} {f : FuncId} {args args0 : List SV} {H0 H1 : List SObj} {o : Out} {d : Option Tmp} {m : IM} (hs : List Nat) (hp : PE P f args0 H0 o H1) (hargs : args = SV.renL (sig hs m.heap.length) args0) (hnd : hs.Nodup)
 (ha : atH (sig hs m.heap.length) m.heap hs H0) (hb : SV.belL H0.length args0 = true) (hbh : belH H0.length H0 = true) (hG : SameG G m.heap (mgA (sig hs m.heap.length) hs H1 m.heap))
 (h : afterR P AQ d m (o.ren (sig hs m.heap.length)) (mgA (sig hs m.heap.length) hs H1 m.heap)) : CallR P AQ G f args d m := by
 subst hargs
 refine ⟨hp.1, VCall.g (VCall.fr hs hnd ha hb hbh hp.2 ?_)⟩
 rintro o' H' _ ⟨rfl, rfl⟩
 cases o' with
 | ret s => exact ⟨fun _ => hG, h⟩
 | pan s => exact h

theorem wd_recell {C : Cx} {h : Nat} {T : TypeId} {cs cs' : List SV} (hw : Wd C H) (hH : H[h]? = some (.cells T cs)) (hd : ∀ vs, SV.denL C cs vs → SV.denL C cs' vs) : Wd C (H.set h (.cells T cs')) ∧ Ext ⟨C, H⟩ C (H.set h (.cells T cs')) := by
 have hget : ∀ {i y}, (H.set h (.cells T cs'))[i]? = some y → ∃ y', H[i]? = some y' ∧ y'.live = y.live ∧ (i ≠ h → y' = y) := fun {i y} hy => by
  by_cases e : i = h
  · subst e
    rw [List.getElem?_set_self (List.getElem?_eq_some_iff.1 hH).1] at hy
    cases hy
    exact ⟨_, hH, rfl, fun hn => absurd rfl hn⟩
  · rw [List.getElem?_set_ne (Ne.symm e)] at hy
    exact ⟨y, hy, rfl, fun _ => rfl⟩
 have hown : ∀ b, OwnB C (H.set h (.cells T cs')) b → OwnB C H b := fun b ⟨i, y, hy, hl, hb⟩ => by
  obtain ⟨y', h1, h2, _⟩ := hget hy
  exact ⟨i, y', h1, by rw [h2]; exact hl, hb⟩
 refine ⟨⟨by rw [List.length_set]; exact hw.n, fun i y hy => ?_, fun b hb => hw.own b (hown b hb), fun i j y z b hy hz hl hl' hb hb' => ?_, hw.imm⟩, ⟨Evo.refl _, Nat.le_refl _, rfl, rfl, rfl, fun _ _ _ => rfl, fun _ h => .inl h, fun b hb => .inr (hown b hb), fun _ _ hm => keep_set hH rfl hm⟩⟩
 · by_cases e : i = h
   · subst e
     rw [List.getElem?_set_self (List.getElem?_eq_some_iff.1 hH).1] at hy
     cases hy
     obtain ⟨b, vs, h1, h2, h3⟩ := hw.obj i _ hH
     exact ⟨b, vs, h1, h2, hd vs h3⟩
   · rw [List.getElem?_set_ne (Ne.symm e)] at hy
     exact hw.obj i y hy
 · obtain ⟨y', h1, h2, _⟩ := hget hy
   obtain ⟨z', h3, h4, _⟩ := hget hz
   exact hw.inj i j y' z' b h1 h3 (by rw [h2]; exact hl) (by rw [h4]; exact hl') hb hb'
theorem sound_nilcell {P : Program} {k : List It} {tm : List SV} (h off : Nat) (ty : Ty) {T : TypeId} {cs : List SV} (hH : H[h]? = some (.cells T cs)) (hi : cs[off]? = some (.raw (.slice none 0 0))) (hs : Sound P AQ ⟨k0, k, tm, (H.set h (.cells T (cs.set off (.bld H.length ty 0)))) ++ [.row ty []]⟩) : Sound P AQ ⟨k0, k, tm, H⟩ := by
 intro E r n C a h0 hd
 obtain ⟨C', hw, g1, g2, g3⟩ := nil_row (t := ty) hd.wd
 have hH' : (H ++ [SObj.row ty []])[h]? = some (.cells T cs) := by rw [List.getElem?_append_left (List.getElem?_eq_some_iff.1 hH).1]; exact hH
 obtain ⟨q1, q2⟩ := wd_recell (cs' := cs.set off (.bld H.length ty 0)) g1 hH' (fun vs hv => by
  obtain ⟨v, hv', hd'⟩ := denL_get hv hi
  rw [SV.den] at hd'
  subst hd'
  have := denL_set (i := off) hv g3
  have he : vs.set off (.slice none 0 0) = vs := by
   apply List.ext_getElem?
   intro j
   by_cases e : j = off
   · subst e
     rw [List.getElem?_set_self (List.getElem?_eq_some_iff.1 hv').1, hv']
   · rw [List.getElem?_set_ne (Ne.symm e)]
  rwa [he] at this)
 have hset : (H ++ [SObj.row ty []]).set h (.cells T (cs.set off (.bld H.length ty 0))) = H.set h (.cells T (cs.set off (.bld H.length ty 0))) ++ [.row ty []] := List.set_append_left _ _ (List.getElem?_eq_some_iff.1 hH).1
 rw [hset] at q1 q2
 have := hs E r n C' a h0 ⟨q1, hd.ext.trans (g2.trans q2), DefOk.next (g2.trans q2) hd.defs, denL_evo g2.evo hd.tmps⟩
 rw [← hw]; exact this
theorem si_nilcell (h off : Nat) (ty : Ty) {T : TypeId} {cs : List SV} {td : List IT} (hp : plainT td = true) (hH : H[h]? = some (.cells T cs)) (hi : cs[off]? = some (.raw (.slice none 0 0))) (hs : SoundI P AQ ⟨k0, td, t, (H.set h (.cells T (cs.set off (.bld H.length ty 0)))) ++ [.row ty []]⟩) : SoundI P AQ ⟨k0, td, t, H⟩ :=
 soundI_plain (fun _ hr => sound_nilcell h off ty hH hi (soundI_get hs hr)) hp
end Go.Sx
set_option linter.unusedSectionVars false
namespace Go.Sx
open Go
variable [Ghost] {P : Program} {AQ : Ex → List SV → List SObj → Prop} {k0 : Nat} {k : List IT} {t : List SV} {H : List SObj}

theorem sound_compact {P : Program} {k : List It} (A A' G : List SObj) {ty : Ty} {xs : List ty.den} (hk : k0 ≤ A.length) (hA : A = A'.map (SObj.ren (shift A.length (A.length + G.length)))) (hb : belH (A.length + 1) A' = true) (hbt : SV.belL (A.length + 1) t = true)
 (hl : leT (shift A.length (A.length + G.length)) t t) (hs : Sound P AQ ⟨k0, k, t, A' ++ [.row ty xs]⟩) : Sound P AQ ⟨k0, k, t, A ++ G ++ [.row ty xs]⟩ := by
 intro E r n C a h0 hd
 have hlen : A.length = A'.length := by have := congrArg List.length hA; rwa [List.length_map] at this
 have hsh : ∀ h, h < A.length → shift A.length (A.length + G.length) h = h := fun h hh => by unfold shift; rw [if_neg (by omega)]
 have hshn : shift A.length (A.length + G.length) A.length = A.length + G.length := by unfold shift; rw [if_pos rfl]
 have hd' : Den E (C.ren (shift A.length (A.length + G.length)) (A' ++ [SObj.row ty xs]).length) t (A' ++ [.row ty xs]) a := by
  refine den_le h0.1 hd hl (by rw [List.length_append, ← hlen]; exact hbt) (fun h o ho _ => ?_) (belH_of fun h o ho => ?_) (fun h h' o o' ho ho' _ _ e => ?_) (fun h hh => hsh h (Nat.lt_of_lt_of_le hh hk)) (by rw [List.length_append, ← hlen]; exact Nat.le_trans hk (Nat.le_add_right _ _)) (fun m hm0 hm => ?_)
  · rcases get_append_some ho with ⟨hh, ho⟩ | ⟨hh, rfl⟩
    · rw [hsh h (by omega), List.append_assoc, List.getElem?_append_left (by omega)]
      have := congrArg (fun l => l[h]?) hA
      simp only [List.getElem?_map, ho] at this
      exact this
    · rw [hh, ← hlen, hshn, ← List.length_append, List.getElem?_append_right (Nat.le_refl _), Nat.sub_self]
      rfl
  · rcases get_append_some ho with ⟨hh, ho⟩ | ⟨hh, rfl⟩
    · rw [List.length_append, ← hlen]
      exact belH_get hb ho
    · rfl
  · have h1 := (List.getElem?_eq_some_iff.1 ho).1
    have h2 := (List.getElem?_eq_some_iff.1 ho').1
    rw [List.length_append, List.length_singleton] at h1 h2
    unfold shift at e
    split at e <;> split at e <;> omega
  · have hm := hm
    have hpos : 0 < A.length := Nat.lt_of_lt_of_le hm0 (Nat.le_trans h0.1 hk)
    rw [List.append_assoc, List.getElem?_append_left hpos] at hm
    rw [List.getElem?_append_left (by omega)]
    have h1 := congrArg (fun l => l[0]?) hA
    simp only [List.getElem?_map, hm] at h1
    cases h2 : A'[0]? with
    | none => rw [h2] at h1; simp at h1
    | some o => rw [h2] at h1; cases o <;> simp [SObj.ren] at h1; rw [h1]
 exact hs E r n (C.ren (shift A.length (A.length + G.length)) (A' ++ [SObj.row ty xs]).length) a h0 hd'
theorem si_compact (A A' G : List SObj) {ty : Ty} {xs : List ty.den} {td : List IT} (hp : plainT td = true) (hH : H = A ++ G ++ [.row ty xs]) (hk : k0 ≤ A.length) (hA : A = A'.map (SObj.ren (shift A.length (A.length + G.length)))) (hb : belH (A.length + 1) A' = true) (hbt : SV.belL (A.length + 1) t = true)
 (hl : leT (shift A.length (A.length + G.length)) t t) (hs : SoundI P AQ ⟨k0, td, t, A' ++ [.row ty xs]⟩) : SoundI P AQ ⟨k0, td, t, H⟩ := by
 subst hH
 exact soundI_plain (fun _ hr => sound_compact A A' G hk hA hb hbt hl (soundI_get hs hr)) hp
end Go.Sx
set_option linter.unusedSectionVars false
namespace Go.Sx
open Go
variable {P : Program} {AQ : Ex → List SV → List SObj → Prop} {k0 : Nat} {k : List IT} {t : List SV} {H : List SObj}

def CutQ (P : Program) (AQ : Ex → List SV → List SObj → Prop) (k0 : Nat) (k : List IT) (T0 : List SV) : Ex → List SV → List SObj → Prop
 | .normal, t, H => SoundI P AQ ⟨k0, k, t, H⟩
 | .pan s, _, H => AQ (.pan s) T0 H
 | _, _, _ => False
theorem cutQ_n {T0 : List SV} (h : SoundI P AQ ⟨k0, k, t, H⟩) : CutQ P AQ k0 k T0 .normal t H := h
theorem cutQ_p {T0 t' : List SV} {s : SV} (h : AQ (.pan s) T0 H) : CutQ P AQ k0 k T0 (.pan s) t' H := h
def SameBut (ws : List Nat) (t t' : List SV) : Prop := t'.length = t.length ∧ ∀ i, i ∉ ws → t'[i]? = t[i]?
theorem SameBut.put {ws : List Nat} {t t' : List SV} (h : SameBut ws t t') {d : Option Tmp} (hd : ∀ e, d = some e → e ∈ ws) (s : SV) : SameBut ws t (putT t' d s) := by
 cases d with
 | none => exact h
 | some e => exact ⟨by simp [putT, h.1], fun i hi => by
  have hne : e ≠ i := fun e' => hi (e' ▸ hd e rfl)
  simp only [putT]
  rw [List.getElem?_set_ne hne]
  exact h.2 i hi⟩
theorem maskT_len : ∀ (ws : List Nat) (t : List SV), (maskT ws t).length = t.length
 | [], t => rfl
 | d :: ws, t => by
  show (maskT ws (t.set d .any)).length = _
  rw [maskT_len ws, List.length_set]
theorem maskT_in : ∀ (ws : List Nat) (t : List SV) (i : Nat) (s : SV), (maskT ws t)[i]? = some s → s = .any ∨ (i ∉ ws ∧ t[i]? = some s)
 | [], t, i, s, h => .inr ⟨by simp, h⟩
 | d :: ws, t, i, s, h => by
  have h' : (maskT ws (t.set d .any))[i]? = some s := h
  rcases maskT_in ws _ i s h' with rfl | ⟨h1, h2⟩
  · exact .inl rfl
  · by_cases e : d = i
    · subst e
      rw [List.getElem?_set] at h2
      simp at h2
      exact .inl h2.2.symm
    · rw [List.getElem?_set_ne e] at h2
      exact .inr ⟨by simp [h1]; exact fun q => e q.symm, h2⟩
theorem leL_get : ∀ {l l' : List SV}, l.length = l'.length → (∀ (i : Nat) s s', l[i]? = some s → l'[i]? = some s' → s' = .any ∨ s' = s) → leL l l'
 | [], [], _, _ => trivial
 | [], _ :: _, h, _ => by simp at h
 | _ :: _, [], h, _ => by simp at h
 | s :: l, s' :: l', h, hp => by
  refine ⟨?_, leL_get (by simpa using h) fun i x x' hx hx' => hp (i + 1) x x' (by simpa using hx) (by simpa using hx')⟩
  rcases hp 0 s s' rfl rfl with rfl | rfl
  · exact SV.le_any s
  · exact SV.le_refl _
theorem SameBut.le {ws : List Nat} {t t' : List SV} (h : SameBut ws t t') : leL t' (maskT ws t) :=
 leL_get (by rw [maskT_len, h.1]) fun i s s' hs hs' => by
  rcases maskT_in ws t i s' hs' with rfl | ⟨h1, h2⟩
  · exact .inl rfl
  · right
    rw [h.2 i h1, h2] at hs
    cases hs; rfl
theorem anyV_cut {k : List It} {all : Array Oper} {G : List Nat} {kI : List IT} {ws : List Nat} {S : Array Bool} {t0 : List SV} (hr : RelT P kI k) (hS : Region.ready .any all S = []) (hW : ∀ (i : Nat) o, all[i]? = some o → S.getD i false = true → ∀ d, o.dst = some d → d ∈ ws) :
 ∀ (fuel : Nat) (listed : Array Bool) (t : List SV) (H : List SObj), SameBut ws t0 t → listed.size = S.size → (∀ j, listed.getD j false = true → S.getD j false = true) → AnyV P (CutQ P AQ k0 kI (maskT ws t0)) k0 [] all G fuel listed t H →
  ∀ (E : EnD) (r : Option Nat) (n : Nat) (C : Cx) (a : Act), Fit E r k0 → Den E C t H a → wpAnyIn (Fw r) n P .any all (afterT (Fw r) n P E (conc E AQ) k) fuel listed a C.w := by
 have leaf : ∀ {t : List SV} {H : List SObj}, Sound P (CutQ P AQ k0 kI (maskT ws t0)) ⟨k0, [], t, H⟩ → ∀ (E : EnD) (r : Option Nat) (n : Nat) (C : Cx) (a : Act), Fit E r k0 → Den E C t H a → wpT (Fw r) n P E (conc E AQ) k a C.w := by
  intro t H h E r n C a h0 hd
  have h1 := h E r n C a h0 hd
  simp only [wpT] at h1
  obtain ⟨C', t', H', h2, h3, h4⟩ := h1
  rw [← h3]
  exact soundI_get (h2 : SoundI P AQ ⟨k0, kI, t', H'⟩) hr E r n C' a h0 h4
 intro fuel
 induction fuel with
 | zero => exact fun listed t H _ _ _ h E r n C a h0 hd => ⟨h.1, leaf h.2 E r n C a h0 hd⟩
 | succ fuel ih =>
  intro listed t H hb hsz hsub h E r n C a h0 hd
  refine ⟨fun h9 => leaf (h.1 h9) E r n C a h0 hd, fun i hi => ?_⟩
  obtain ⟨o, ho, h1⟩ := h.2 i hi
  obtain ⟨hun, o', ho', hall⟩ := mem_ready.1 hi
  have hlt : i < S.size := by
   rcases Nat.lt_or_ge i listed.size with q | q
   · omega
   · simp [Array.getElem?_eq_none q] at hun
  have hiS : S.getD i false = true := by
   cases hq : S.getD i false with
   | true => rfl
   | false =>
    have : i ∈ Region.ready .any all S := mem_ready.2 ⟨by simp [hlt] at hq ⊢; exact hq, o', ho', fun e he hb' => hsub _ (hall e he hb')⟩
    rw [hS] at this
    cases this
  have hwd : ∀ d, o.dst = some d → d ∈ ws := hW i o ho hiS
  have hsub' : ∀ j, (listed.setIfInBounds i true).getD j false = true → S.getD j false = true := fun j hj => by
   by_cases e : i = j
   · subst e; exact hiS
   · rw [getD_set_ne false e] at hj; exact hsub j hj
  have hsz' : (listed.setIfInBounds i true).size = S.size := by simpa using hsz
  unfold wpOpIn
  simp only [ho]
  rcases h1 with ⟨hw, hop⟩ | ⟨hw, hk⟩
  · rw [if_pos (wantedT_ok hd.tmps hw)]
    refine hop E C r n a _ _ hd.wd hd.defs.2 (fun x _ => evT_den hd.tmps x) ?_ ?_
    · intro s v H' C' hk hw' hx hs
      exact ih _ _ _ (hb.put hwd s) hsz' hsub' hk.2 E r n C' _ h0 (den_next hd hw' hx hs)
    · intro s v H' C' hk hw' hx hs
      exact ⟨C', maskT ws t0, H', s, v, hk, rfl, hs, rfl, hw', hx.ext hd.ext, (DefOk.stp hx hd.defs).fin, .inr (leL_den hb.le (denL_evo hx.evo hd.tmps))⟩
  · rw [if_neg (by rw [wantedT_ok hd.tmps hw]; simp)]
    exact ⟨fun f _ => fw_fn r f, ih _ _ _ (hb.put hwd _) hsz' hsub' hk.2 E r n C _ h0 (den_next hd hd.wd (.of (Ext.refl _ _)) (by rw [SV.den]; rfl))⟩
theorem planL_end {all : Array Oper} : ∀ (fuel : Nat) (listed : Array Bool) (l : List (Bool × OpI)), planL P all fuel listed = some l →
 ∃ S : Array Bool, Region.ready .any all S = [] ∧ S.size = listed.size ∧ (∀ j, listed.getD j false = true → S.getD j false = true) ∧ ∀ i, S.getD i false = true → listed.getD i false = true ∨ ∃ o, all[i]? = some o ∧ ∀ d, o.dst = some d → d ∈ IC.wr (.drw l)
 | 0, listed, l, h => by
  unfold planL at h
  split at h
  · rename_i he
    exact ⟨listed, by simpa using he, rfl, fun _ h => h, fun _ h => .inl h⟩
  · cases h
 | n + 1, listed, l, h => by
  unfold planL at h
  split at h
  · rename_i he
    exact ⟨listed, by simpa using he, rfl, fun _ h => h, fun _ h => .inl h⟩
  · split at h
    · rename_i i fl hch
      split at h
      · rename_i o ho
        split at h
        · rename_i io hco
          split at h
          · rename_i l' hl'
            split at h
            · cases h
              obtain ⟨S, h1, h2, h3, h4⟩ := planL_end n _ l' hl'
              refine ⟨S, h1, by simpa using h2, fun j hj => h3 j (getD_set_true hj), fun j hj => ?_⟩
              rcases h4 j hj with q | ⟨o', q1, q2⟩
              · by_cases e : i = j
                · subst e
                  refine .inr ⟨o, ho, fun d hd => ?_⟩
                  have hio := (compO_op hco).2
                  simp only [IC.wr, List.flatMap_cons, List.mem_append]
                  left
                  unfold OpI.wr
                  split <;> simp [hio, hd]
                · rw [getD_set_ne false e] at q
                  exact .inl q
              · refine .inr ⟨o', q1, fun d hd => ?_⟩
                have := q2 d hd
                simp only [IC.wr, List.flatMap_cons, List.mem_append] at this ⊢
                exact .inr this
            · cases h
          · cases h
        · cases h
      · cases h
    · cases h
theorem si_drwP {l : List (Bool × OpI)} (G : List Nat) (hm : P.follows .mixedOrders = true) (h : SoundI P (CutQ P AQ k0 k (maskT (IC.wr (.drw l)) t)) ⟨k0, [.dops G l], t, H⟩) : SoundI P AQ ⟨k0, .ic (.drw l) :: k, t, H⟩ := soundI_plain (fun td' hr => by
 obtain ⟨c', r, rfl, hc, hr⟩ := hr
 obtain ⟨id, all, rfl, hl⟩ := comp_inv hc
 obtain ⟨S, h1, h2, h3, h4⟩ := planL_end _ _ _ hl
 intro E r' n C a h0 hd
 simp only [wpT]
 have hd' : Den E C.drew t H a := ⟨wd_drew hd.wd, hd.ext.trans (ext_drew C H), DefOk.next (ext_drew C H) hd.defs, denL_evo (evo_drew C) hd.tmps⟩
 have hno : ∀ j, (Array.replicate all.size false).getD j false = true → False := fun j hj => by
  rcases Nat.lt_or_ge j all.size with q | q
  · simp [q] at hj
  · simp [q] at hj
 refine wpIn_region_any hm (anyV_cut hr h1 (fun i o ho hi d hd => ?_) _ _ _ _ ⟨rfl, fun _ _ => rfl⟩ h2.symm h3 (h all _ _ [] hl rfl) E r' n C.drew a h0 hd')
 rcases h4 i hi with q | ⟨o', q1, q2⟩
 · exact (hno i q).elim
 · rw [ho] at q1; cases q1
   exact q2 d hd) rfl
end Go.Sx
namespace Go.Sx
open Go

def ZInv (q : Nat → Prop) (w0 : World) (C : Cx) (H : List SObj) : Prop := ∀ b, q b → b < C.w.heap.size ∧ ¬ C.I b ∧ ¬ OwnB C H b ∧ C.w.heap[b]? = w0.heap[b]?

theorem ext_old {E : En} {C : Cx} {H : List SObj} (hx : Ext E C H) {b : Nat} (h1 : b < E.C.w.heap.size) (h2 : ¬ E.C.I b) (h3 : ¬ OwnB E.C E.H b) : b < C.w.heap.size ∧ ¬ C.I b ∧ ¬ OwnB C H b ∧ C.w.heap[b]? = E.C.w.heap[b]? := by
 refine ⟨Nat.lt_of_lt_of_le h1 hx.size, fun hi => ?_, fun ho => ?_, hx.frame b h1 h3⟩
 · rcases hx.immNew b hi with g | ⟨g | g, _⟩
   · exact h2 g
   · exact absurd h1 (Nat.not_lt.2 g)
   · exact h3 g
 · rcases hx.ownNew b ho with g | g
   · exact absurd h1 (Nat.not_lt.2 g)
   · exact h3 g

@[reducible] def frzG (q : Nat → Prop) (w0 : World) : Ghost where
 inv := fun _ C H => ZInv q w0 C H
 fin := fun E _ _ ds => ds = E.base ∧ True
 toFin := fun _ => ⟨rfl, trivial⟩
 next := fun hx h b hb => by
  obtain ⟨h1, h2, h3, h4⟩ := h b hb
  obtain ⟨g1, g2, g3, g4⟩ := ext_old hx h1 h2 h3
  exact ⟨g1, g2, g3, g4.trans h4⟩
 same := fun _ e _ hi ho _ _ h b hb => by
  obtain ⟨h1, h2, h3, h4⟩ := h b hb
  rw [e]
  exact ⟨h1, fun x => (hi b x).elim h2 h3, fun x => h3 (ho b x), h4⟩

def simV (u v : Value) : Prop := v = u ∨ (∃ k n m, u = .int k n ∧ v = .int k m) ∨ ∃ s s', u = .string s ∧ v = .string s' ∧ s'.size ≤ 140737488355328
def simB (o o' : Option Obj) : Prop := o' = o ∨ ∃ (vs vs' : List Value) (T : TypeId) (fz : Nat × Nat), o = some (.cells vs.toArray T fz) ∧ o' = some (.cells vs'.toArray T fz) ∧ vs'.length = vs.length ∧ ∀ (i : Nat) u v, vs[i]? = some u → vs'[i]? = some v → simV u v
theorem simV.trans {u v w : Value} (h : simV u v) (k : simV v w) : simV u w := by
 rcases h with rfl | ⟨k', n, m, rfl, rfl⟩ | ⟨s, s', rfl, rfl, h1⟩
 · exact k
 · rcases k with rfl | ⟨k2, n2, m2, h1, rfl⟩ | ⟨s, s', h1, _⟩
   · exact .inr (.inl ⟨_, _, _, rfl, rfl⟩)
   · cases h1; exact .inr (.inl ⟨_, _, _, rfl, rfl⟩)
   · cases h1
 · rcases k with rfl | ⟨k2, n2, m2, h1, rfl⟩ | ⟨s2, s3, h2, rfl, h3⟩
   · exact .inr (.inr ⟨_, _, rfl, rfl, h1⟩)
   · cases h1
   · cases h2; exact .inr (.inr ⟨_, _, rfl, rfl, h3⟩)
def SInv (q : Nat → Prop) (w0 : World) (E : En) (C : Cx) (H : List SObj) : Prop :=
 ∀ b, q b → (E.C.w.heap.size ≤ b ∨ OwnB E.C E.H b) ∧ b < C.w.heap.size ∧ ¬ C.I b ∧ ¬ OwnB C H b ∧ Unf C.w b ∧ simB w0.heap[b]? C.w.heap[b]?

@[reducible] def scrG (q : Nat → Prop) (w0 : World) : Ghost where
 inv := fun E C H => SInv q w0 E.toEn C H
 fin := fun E C H ds => ds = E.base ∧ SInv q w0 E.toEn C H
 toFin := fun h => ⟨rfl, h⟩
 next := fun hx h b hb => by
  obtain ⟨h0, h1, h2, h3, h4, h5⟩ := h b hb
  obtain ⟨g1, g2, g3, g4⟩ := ext_old hx h1 h2 h3
  refine ⟨h0, g1, g2, g3, h4.keep g4, ?_⟩
  have g4' := g4
  simp only at g4'
  rw [g4']; exact h5
 same := fun _ e _ hi ho _ _ h b hb => by
  obtain ⟨h0, h1, h2, h3, h4, h5⟩ := h b hb
  rw [e]
  exact ⟨h0, h1, fun x => (hi b x).elim h2 h3, fun x => h3 (ho b x), h4, h5⟩

def At (q : Nat → Prop) (w0 : World) (t : Ty) (x : t.den) (b o : Nat) : Prop := q b ∧ ∃ vs, t.rel q w0 x vs ∧ ∀ j u, vs[j]? = some u → w0.cell? ⟨b, o + j, none⟩ = some u
def Sl (q : Nat → Prop) (w0 : World) (t : Ty) (xs : List t.den) (v : Value) : Prop := (Ty.slice t).rel q w0 xs [v]
theorem Sl.out {q : Nat → Prop} {w0 : World} {t : Ty} {xs : List t.den} {v : Value} (h : Sl q w0 t xs v) :
 ∃ A c, v = .slice A xs.length c ∧ (xs = [] ∨ ∃ b o, A = some ⟨b, o, none⟩ ∧ ∀ i x, xs[i]? = some x → At q w0 t x b (o + i * t.size)) := by
 obtain ⟨A, n, c, e, rfl, _, _, h⟩ := h
 simp only [List.cons.injEq, and_true] at e
 refine ⟨A, c, e, orMap h id ?_⟩
 rintro ⟨b, o, rfl, hq, h⟩
 exact ⟨b, o, rfl, fun i x hx => ⟨hq, h i x hx⟩⟩
theorem At.sl {q : Nat → Prop} {w0 : World} {t : Ty} {xs : List t.den} {b o : Nat} (h : At q w0 (.slice t) xs b o) : ∃ v, Sl q w0 t xs v ∧ w0.cell? ⟨b, o, none⟩ = some v := by
 obtain ⟨hq, vs, hr, hc⟩ := h
 obtain ⟨A, n, c, rfl, _⟩ := id hr
 exact ⟨_, hr, hc 0 _ rfl⟩
theorem At.int {q : Nat → Prop} {w0 : World} {k : IntKind} {x : (Ty.int k).den} {b o : Nat} (h : At q w0 (.int k) x b o) : w0.cell? ⟨b, o, none⟩ = some (.int k x) := by
 obtain ⟨hq, vs, rfl, hc⟩ := h; exact hc 0 _ rfl
theorem At.u8 {q : Nat → Prop} {w0 : World} {x : Ty.u8.den} {b o : Nat} (h : At q w0 .u8 x b o) : w0.cell? ⟨b, o, none⟩ = some (.int .u8 (UInt8.toNat x)) := by
 obtain ⟨hq, vs, rfl, hc⟩ := h; exact hc 0 _ rfl
theorem At.str {q : Nat → Prop} {w0 : World} {x : Ty.str.den} {b o : Nat} (h : At q w0 .str x b o) : w0.cell? ⟨b, o, none⟩ = some (.string x) := by
 obtain ⟨hq, vs, ⟨rfl, _⟩, hc⟩ := h; exact hc 0 _ rfl

variable {P : Program} {AQ : Ex → List SV → List SObj → Prop}
end Go.Sx
