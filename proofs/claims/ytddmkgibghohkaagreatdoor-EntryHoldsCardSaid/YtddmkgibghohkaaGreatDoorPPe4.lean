/- The plain law of reading: entries. -/
import Derived.Test.YtddmkgibghohkaaGreatDoorP25
set_option linter.unusedSimpArgs false
set_option linter.unusedVariables false
namespace Go.Proofs.YtddmkgibghohkaaGreatDoor
open Go Go.Sx Go.Proofs
set_option maxRecDepth 100000
set_option maxHeartbeats 4000000
set_option linter.unusedSimpArgs false

theorem bind_suf {α β : Type} {p : PR α} {f : α → PR β} {l : List (List UInt8)} {n k : Nat} {v : α} {u : β} (h : p (sufS l n (k + 1)) = .ok (v, (wrapS 160 (n : Nat) (l.getD n [])).length) ∧ (sufS l n (k + 1)).drop (wrapS 160 (n : Nat) (l.getD n [])).length = sufS l (n + 1) k)
 (h2 : f v (sufS l (n + 1) k) = .ok (u, (sufS l (n + 1) k).length)) : bindP p f (sufS l n (k + 1)) = .ok (u, (sufS l n (k + 1)).length) := by
 rw [bindP_ok h h2, sufS_succ l n k, List.length_append]
def nmsP : PR (List Prin) := inP 48 (listP nameP 16)
def stsP : PR (List KSet) := inP 48 (listP setP 16)
def hisP : PR (List (List UInt8)) := inP 48 (listP octP 16)
def entIn : PR Ent := bindP (needP 0 nameP) fun x0 => bindP (dfltP [] 1 nmsP) fun x1 => bindP (needP 2 bitsP) fun x2 => bindP (dfltP (0 : Int) 3 intP) fun x3 => bindP (dfltP [] 4 stsP) fun x4 => bindP (dfltP ⟨#[]⟩ 5 strP) fun x5 =>
 bindP (dfltP (0 : Nat) 6 timeP) fun x6 => bindP (dfltP (0 : Nat) 7 timeP) fun x7 => bindP (dfltP (0 : Int) 8 intP) fun x8 => bindP (dfltP (0 : Int) 9 intP) fun x9 => bindP (dfltP (0 : Int) 10 intP) fun x10 => bindP (dfltP (0 : Nat) 11 timeP) fun x11 => bindP (dfltP (0 : Nat) 12 timeP) fun x12 =>
 bindP (dfltP [] 13 nmsP) fun x13 => bindP (dfltP [] 14 nmsP) fun x14 => bindP (dfltP [] 15 hisP) fun x15 => retP ((x0, x1, ((x2 : Nat) : Int), x3, x4, x5, ((x6 : Nat) : Int), ((x7 : Nat) : Int), x8, x9, x10, ((x11 : Nat) : Int), ((x12 : Nat) : Int), x13, x14, x15) : Ent)
def entP : PR Ent := inP 48 entIn
theorem entIn_at {L : List (List UInt8)} {x0 : Prin} {x1 : List Prin} {x2 : Nat} {x3 : Int} {x4 : List KSet} {x5 : ByteArray} {x6 x7 : Nat} {x8 x9 x10 : Int} {x11 x12 : Nat} {x13 x14 : List Prin} {x15 : List (List UInt8)} (hL : ∀ j, (L.getD j []).length ≤ 16777215)
 (n0 : L.getD 0 [] ≠ []) (q0 : nameP (L.getD 0 []) = .ok (x0, (L.getD 0 []).length))
 (q1 : if L.getD 1 [] = [] then x1 = [] else nmsP (L.getD 1 []) = .ok (x1, (L.getD 1 []).length))
 (n2 : L.getD 2 [] ≠ []) (q2 : bitsP (L.getD 2 []) = .ok (x2, (L.getD 2 []).length))
 (q3 : if L.getD 3 [] = [] then x3 = 0 else intP (L.getD 3 []) = .ok (x3, (L.getD 3 []).length))
 (q4 : if L.getD 4 [] = [] then x4 = [] else stsP (L.getD 4 []) = .ok (x4, (L.getD 4 []).length))
 (q5 : if L.getD 5 [] = [] then x5 = ⟨#[]⟩ else strP (L.getD 5 []) = .ok (x5, (L.getD 5 []).length))
 (q6 : if L.getD 6 [] = [] then x6 = 0 else timeP (L.getD 6 []) = .ok (x6, (L.getD 6 []).length))
 (q7 : if L.getD 7 [] = [] then x7 = 0 else timeP (L.getD 7 []) = .ok (x7, (L.getD 7 []).length))
 (q8 : if L.getD 8 [] = [] then x8 = 0 else intP (L.getD 8 []) = .ok (x8, (L.getD 8 []).length))
 (q9 : if L.getD 9 [] = [] then x9 = 0 else intP (L.getD 9 []) = .ok (x9, (L.getD 9 []).length))
 (q10 : if L.getD 10 [] = [] then x10 = 0 else intP (L.getD 10 []) = .ok (x10, (L.getD 10 []).length))
 (q11 : if L.getD 11 [] = [] then x11 = 0 else timeP (L.getD 11 []) = .ok (x11, (L.getD 11 []).length))
 (q12 : if L.getD 12 [] = [] then x12 = 0 else timeP (L.getD 12 []) = .ok (x12, (L.getD 12 []).length))
 (q13 : if L.getD 13 [] = [] then x13 = [] else nmsP (L.getD 13 []) = .ok (x13, (L.getD 13 []).length))
 (q14 : if L.getD 14 [] = [] then x14 = [] else nmsP (L.getD 14 []) = .ok (x14, (L.getD 14 []).length))
 (q15 : if L.getD 15 [] = [] then x15 = [] else hisP (L.getD 15 []) = .ok (x15, (L.getD 15 []).length)) :
 entIn (sufS L 0 16) = .ok ((x0, x1, ((x2 : Nat) : Int), x3, x4, x5, ((x6 : Nat) : Int), ((x7 : Nat) : Int), x8, x9, x10, ((x11 : Nat) : Int), ((x12 : Nat) : Int), x13, x14, x15), (sufS L 0 16).length) := by
 unfold entIn
 refine bind_suf (k := 15) (need_suf hL (by omega) n0 q0) ?_
 refine bind_suf (n := 1) (k := 14) (dflt_suf hL (by omega) q1) ?_
 refine bind_suf (n := 2) (k := 13) (need_suf hL (by omega) n2 q2) ?_
 refine bind_suf (n := 3) (k := 12) (dflt_suf hL (by omega) q3) ?_
 refine bind_suf (n := 4) (k := 11) (dflt_suf hL (by omega) q4) ?_
 refine bind_suf (n := 5) (k := 10) (dflt_suf (p := strP) (d := (⟨#[]⟩ : ByteArray)) (v := x5) hL (by omega) q5) ?_
 refine bind_suf (n := 6) (k := 9) (dflt_suf hL (by omega) q6) ?_
 refine bind_suf (n := 7) (k := 8) (dflt_suf hL (by omega) q7) ?_
 refine bind_suf (n := 8) (k := 7) (dflt_suf hL (by omega) q8) ?_
 refine bind_suf (n := 9) (k := 6) (dflt_suf hL (by omega) q9) ?_
 refine bind_suf (n := 10) (k := 5) (dflt_suf hL (by omega) q10) ?_
 refine bind_suf (n := 11) (k := 4) (dflt_suf hL (by omega) q11) ?_
 refine bind_suf (n := 12) (k := 3) (dflt_suf hL (by omega) q12) ?_
 refine bind_suf (n := 13) (k := 2) (dflt_suf hL (by omega) q13) ?_
 refine bind_suf (n := 14) (k := 1) (dflt_suf hL (by omega) q14) ?_
 refine bind_suf (n := 15) (k := 0) (dflt_suf hL (by omega) q15) ?_
 rfl
theorem vPrin_sz {p : Prin} (h : vPrin p = true) : p.1.length ≤ 4 ∧ (∀ x ∈ p.1, x.size ≤ 32) ∧ p.2.size ≤ 32 := by
 simp only [vPrin, Bool.and_eq_true, decide_eq_true_eq, realmB_at, szB, allN_iff] at h
 refine ⟨by omega, fun x hx => ?_, by omega⟩
 obtain ⟨j, hj, rfl⟩ := List.getElem_of_mem hx
 have := h.2 j hj
 rw [getD_at hj] at this
 simp only [vPart, szB, Bool.and_eq_true, decide_eq_true_eq] at this
 omega
theorem prinS_le {p : Prin} (h : vPrin p = true) : (prinS p).length ≤ 205 := by
 obtain ⟨h1, h2, h3⟩ := vPrin_sz h
 obtain ⟨xs, t⟩ := p
 have f := strsN_flat (l := xs) (k := xs.length) h1 h2
 have g1 := elemS_len 48 (strsN xs xs.length)
 have g2 := elemS_len 27 [t.data.toList]
 have g3 : t.data.toList.length = t.size := by simp
 simp only [List.flatten_cons, List.flatten_nil, List.append_nil] at g2
 have g4 := wrapS_len 160 0 (elemS 48 (strsN xs xs.length))
 have g5 := wrapS_len 160 1 (elemS 27 [t.data.toList])
 have g6 := elemS_len 48 [wrapS 160 0 (elemS 48 (strsN xs xs.length)), wrapS 160 1 (elemS 27 [t.data.toList])]
 simp only [List.flatten_cons, List.flatten_nil, List.append_nil, List.length_append] at g6
 have h3' : t.size ≤ 32 := h3
 refine Nat.le_trans g6 ?_
 omega
theorem nameP_ok {p : Prin} (h : vPrin p = true) : (∀ r : List UInt8, nameP (prinE p ++ r) = .ok (p, (prinE p).length)) ∧ (prinE p).length ≤ 205 ∧ prinE p ≠ [] := by
 have hle := prinS_le h
 obtain ⟨h1, h2, h3⟩ := vPrin_sz h
 have he : prinE p = prinS p := by unfold prinE; rw [if_pos h]
 rw [he]
 obtain ⟨xs, t⟩ := p
 have h1' : xs.length ≤ 4 := h1
 have h3' : t.size ≤ 32 := h3
 have := nameP_at xs t (by omega) (fun x hx => by have := h2 x hx; omega) (by omega) h
 exact ⟨this.1, hle, this.2.2⟩
theorem setP_ok {s : KSet} {m : Int} (h : vSet s m = true) : (∀ r : List UInt8, setP (setS s ++ r) = .ok (s, (setS s).length)) ∧ (setS s).length ≤ 400000 ∧ setS s ≠ [] := by
 obtain ⟨v, ks, t, i, w⟩ := s
 simp only [vSet, Bool.and_eq_true, decide_eq_true_eq, List.all_eq_true] at h
 obtain ⟨⟨h1, h2⟩, h3, ⟨h4, h5⟩, h6, h7, ⟨h8, h9⟩, _, h10, h11⟩ := h
 change Int at v i w
 change List Key at ks
 change ByteArray at t
 have h1 : (1 : Int) ≤ v := h1
 have h2 : v ≤ (65535 : Int) := h2
 have h4 : (ks.length : Int) ≤ 4 := h4
 have h7 : (t.size : Int) ≤ 256 := h7
 have h8 : (0 : Int) ≤ i := h8
 have h9 : i ≤ (65536 : Int) := h9
 have h10 : (0 : Int) ≤ w := h10
 have h11 : w ≤ (1099511627776 : Int) := h11
 obtain ⟨n, rfl⟩ : ∃ n : Nat, w = n := ⟨w.toNat, by omega⟩
 refine setP_at v ks t i n ⟨by omega, by omega⟩ (by omega) (fun k hk => ?_) (by omega) ⟨by omega, by omega⟩ (by omega)
 have hv := h5 k hk
 obtain ⟨a, kv, c⟩ := k
 simp only [vKeyS, Bool.and_eq_true, decide_eq_true_eq] at hv
 obtain ⟨e1, e2, e3⟩ := hv
 change Int at a kv
 change List UInt8 at c
 have e1 : kv = v := e1
 have hkl : keyLen a ≤ 32 := by unfold keyLen; split <;> (try split) <;> omega
 have ha : 0 ≤ a ∧ a ≤ 1048576 := by
  unfold keyLen at e2
  grind
 refine ⟨ha, ⟨by omega, by omega⟩, ?_⟩
 split at e3
 · simp only [vKey, Bool.and_eq_true, decide_eq_true_eq] at e3
   have e4 : (c.length : Int) = keyLen a := e3.2.1
   omega
 · simp only [Bool.and_eq_true, decide_eq_true_eq] at e3
   have e4 : (c.length : Int) ≤ 256 := e3.2
   omega
theorem nms_q {l : List Prin} (hl : l.length ≤ 16) (hv : ∀ p ∈ l, vPrin p = true) : (if listS (t := PrinT) prinE l = [] then l = [] else nmsP (listS (t := PrinT) prinE l) = .ok (l, (listS (t := PrinT) prinE l).length)) ∧ (listS (t := PrinT) prinE l).length ≤ 3300 := by
 have hf := flat_len prinE 205 l fun x hx => (nameP_ok (hv x hx)).2.1
 have h4 : 205 * l.length ≤ 205 * 16 := Nat.mul_le_mul_left _ hl
 refine ⟨listS_q (t := PrinT) (p := nameP) (w := prinE) hl (fun x hx => ⟨(nameP_ok (hv x hx)).2.2, (nameP_ok (hv x hx)).1⟩) (by omega), ?_⟩
 have := listS_le (t := PrinT) (w := prinE) (l := l) 205 fun x hx => (nameP_ok (hv x hx)).2.1
 exact Nat.le_trans this (by omega)
theorem sts_q {l : List KSet} {m : Int} (hl : l.length ≤ 16) (hv : ∀ s ∈ l, vSet s m = true) : (if listS (t := SetT) setS l = [] then l = [] else stsP (listS (t := SetT) setS l) = .ok (l, (listS (t := SetT) setS l).length)) ∧ (listS (t := SetT) setS l).length ≤ 6400005 := by
 have hf := flat_len setS 400000 l fun x hx => (setP_ok (hv x hx)).2.1
 have h4 : 400000 * l.length ≤ 400000 * 16 := Nat.mul_le_mul_left _ hl
 refine ⟨listS_q (t := SetT) (p := setP) (w := setS) hl (fun x hx => ⟨(setP_ok (hv x hx)).2.2, (setP_ok (hv x hx)).1⟩) (by omega), ?_⟩
 have := listS_le (t := SetT) (w := setS) (l := l) 400000 fun x hx => (setP_ok (hv x hx)).2.1
 exact Nat.le_trans this (by omega)
theorem his_q {l : List (List UInt8)} (hl : l.length ≤ 16) (hv : ∀ d ∈ l, d.length = 16) : (if listS (t := Ty.slice .u8) octS l = [] then l = [] else hisP (listS (t := Ty.slice .u8) octS l) = .ok (l, (listS (t := Ty.slice .u8) octS l).length)) ∧ (listS (t := Ty.slice .u8) octS l).length ≤ 400 := by
 have hone : ∀ x ∈ l, (octS x).length ≤ 21 := fun x hx => by
  have := elemS_len 4 [x]
  simp only [List.flatten_cons, List.flatten_nil, List.append_nil] at this
  have := hv x hx
  unfold octS; omega
 have hf := flat_len octS 21 l hone
 have h4 : 21 * l.length ≤ 21 * 16 := Nat.mul_le_mul_left _ hl
 refine ⟨listS_q (t := Ty.slice .u8) (p := octP) (w := octS) hl (fun x hx => ⟨?_, octP_ok (by have := hv x hx; omega)⟩) (by omega), ?_⟩
 · unfold octS
   rw [elemS_ok (by have := hv x hx; omega)]
   exact tlv_ne
 · have := listS_le (t := Ty.slice .u8) (w := octS) (l := l) 21 hone
   exact Nat.le_trans this (by omega)
theorem numO_le (v : Int) : (numO v).length ≤ 14 := by
 unfold numO
 split
 · simp
 · exact intS_len v
theorem timO_le (v : Int) : (timO v).length ≤ 11 := by
 unfold timO timeS
 split
 · simp
 · split
   · have := elemS_len 24 [numS v 6]
     simpa [numS_length] using this
   · simp
theorem txtO_le (s : ByteArray) : (txtO s).length ≤ s.size + 5 := by
 unfold txtO
 have hl : s.data.toList.length = s.size := by simp
 split
 · simp
 · have := elemS_len 27 [s.data.toList]
   simp only [List.flatten_cons, List.flatten_nil, List.append_nil] at this
   omega
theorem u32_nat {m : Nat} (h : m < 4294967296) : IntKind.u32.wrap (m : Int) = (m : Int) := by
 simp [IntKind.wrap, IntKind.bits, IntKind.signed]
 omega
theorem attrB_le {a : Int} (h0 : 0 ≤ a ∧ a ≤ 4294967295) (h : attrB a = true) : a ≤ 1023 := by
 obtain ⟨n, rfl⟩ : ∃ n : Nat, a = n := ⟨a.toNat, by omega⟩
 unfold attrB at h
 have h := of_decide_eq_true h
 have hw := u32_nat (m := (BitVec.ofInt 32 ((n : Nat) : Int) &&& ~~~(BitVec.ofInt 32 1023)).toNat) (BitVec.ofInt 32 ((n : Nat) : Int) &&& ~~~(BitVec.ofInt 32 1023)).isLt
 rw [hw] at h
 have h2 : (BitVec.ofInt 32 ((n : Nat) : Int) &&& ~~~(BitVec.ofInt 32 1023)).toNat = 0 := by omega
 have h3 : (BitVec.ofInt 32 ((n : Nat) : Int)) &&& ~~~(BitVec.ofInt 32 1023) = 0#32 := BitVec.eq_of_toNat_eq (by rw [h2]; rfl)
 have h4 : (BitVec.ofInt 32 ((n : Nat) : Int)).ule 1023#32 = true := by
  have e : BitVec.ofInt 32 1023 = 1023#32 := by decide
  rw [e] at h3
  generalize BitVec.ofInt 32 ((n : Nat) : Int) = x at *
  rw [BitVec.ule, decide_eq_true_eq]
  have h5 : x = x &&& 1023#32 := by
   ext i hi
   have h6 := congrArg (fun y : BitVec 32 => y.getLsbD i) h3
   simp only [BitVec.getLsbD_and, BitVec.getLsbD_not, BitVec.getLsbD_zero] at h6
   rw [BitVec.getElem_and]
   have h7 : x.getLsbD i = x[i] := BitVec.getLsbD_eq_getElem hi
   have h8 : (1023#32).getLsbD i = (1023#32)[i] := BitVec.getLsbD_eq_getElem hi
   rw [h7, h8] at h6
   cases hx : x[i] <;> cases hy : (1023#32)[i] <;> simp_all
  have h9 := congrArg BitVec.toNat h5
  rw [BitVec.toNat_and] at h9
  have h10 : x.toNat &&& (1023#32).toNat ≤ (1023#32).toNat := Nat.and_le_right
  omega
 rw [BitVec.ule, decide_eq_true_eq, BitVec.ofInt_natCast, BitVec.toNat_ofNat] at h4
 have h5 : n % 2 ^ 32 = n := Nat.mod_eq_of_lt (by omega)
 rw [h5] at h4
 have : (1023#32).toNat = 1023 := by decide
 omega
abbrev entL (e : Ent) : List (List UInt8) := [prinE e.1, listS (t := PrinT) prinE e.2.1, bitsS e.2.2.1, numO e.2.2.2.1, listS (t := SetT) setS e.2.2.2.2.1, txtO e.2.2.2.2.2.1, timO e.2.2.2.2.2.2.1, timO e.2.2.2.2.2.2.2.1, numO e.2.2.2.2.2.2.2.2.1, numO e.2.2.2.2.2.2.2.2.2.1,
 numO e.2.2.2.2.2.2.2.2.2.2.1, timO e.2.2.2.2.2.2.2.2.2.2.2.1, timO e.2.2.2.2.2.2.2.2.2.2.2.2.1, listS (t := PrinT) prinE e.2.2.2.2.2.2.2.2.2.2.2.2.2.1, listS (t := PrinT) prinE e.2.2.2.2.2.2.2.2.2.2.2.2.2.2.1, listS (t := Ty.slice .u8) octS e.2.2.2.2.2.2.2.2.2.2.2.2.2.2.2]
theorem bitsS_le (v : Int) : (bitsS v).length = 7 ∧ bitsS v ≠ [] := by
 rw [bitsS_tlv]
 refine ⟨?_, tlv_ne⟩
 rw [tlv_length]
 simp [numS_length, lenS]
theorem ent_fields {e : Ent} (hv : vEnt e = true) : vPrin e.1 = true ∧ (e.2.1.length ≤ 16 ∧ ∀ p ∈ e.2.1, vPrin p = true) ∧ attrB e.2.2.1 = true ∧ (0 ≤ e.2.2.2.1 ∧ e.2.2.2.1 ≤ 65535) ∧ (e.2.2.2.2.1.length ≤ 16 ∧ ∀ s ∈ e.2.2.2.2.1, vSet s e.2.2.2.1 = true) ∧ e.2.2.2.2.2.1.size ≤ 32 ∧
 (0 ≤ e.2.2.2.2.2.2.1 ∧ e.2.2.2.2.2.2.1 ≤ 1099511627776) ∧ (0 ≤ e.2.2.2.2.2.2.2.1 ∧ e.2.2.2.2.2.2.2.1 ≤ 1099511627776) ∧ (0 ≤ e.2.2.2.2.2.2.2.2.1 ∧ e.2.2.2.2.2.2.2.2.1 ≤ 2147483648) ∧ (0 ≤ e.2.2.2.2.2.2.2.2.2.1 ∧ e.2.2.2.2.2.2.2.2.2.1 ≤ 2147483648) ∧ (0 ≤ e.2.2.2.2.2.2.2.2.2.2.1 ∧ e.2.2.2.2.2.2.2.2.2.2.1 ≤ 65535) ∧
 (0 ≤ e.2.2.2.2.2.2.2.2.2.2.2.1 ∧ e.2.2.2.2.2.2.2.2.2.2.2.1 ≤ 1099511627776) ∧ (0 ≤ e.2.2.2.2.2.2.2.2.2.2.2.2.1 ∧ e.2.2.2.2.2.2.2.2.2.2.2.2.1 ≤ 1099511627776) ∧ (e.2.2.2.2.2.2.2.2.2.2.2.2.2.1.length ≤ 16 ∧ ∀ p ∈ e.2.2.2.2.2.2.2.2.2.2.2.2.2.1, vPrin p = true) ∧
 (e.2.2.2.2.2.2.2.2.2.2.2.2.2.2.1.length ≤ 16 ∧ ∀ p ∈ e.2.2.2.2.2.2.2.2.2.2.2.2.2.2.1, vPrin p = true) ∧ (e.2.2.2.2.2.2.2.2.2.2.2.2.2.2.2.length ≤ 16 ∧ ∀ d ∈ e.2.2.2.2.2.2.2.2.2.2.2.2.2.2.2, d.length = 16) := by
 simp only [vEnt, vNames, vKeys, vPrins, vText, inB, List.all_cons, List.all_nil, Bool.and_true, Bool.and_eq_true, decide_eq_true_eq, List.all_eq_true] at hv
 obtain ⟨⟨n1, ⟨n2, n3⟩, _⟩, hat, hma, ⟨⟨k1, k2⟩, _⟩, ⟨_, hpo⟩, ⟨t6, t7, t11, t12⟩, ⟨m8, m9⟩, m10, ⟨⟨g1, g2⟩, _⟩, ⟨⟨d1, d2⟩, _⟩, h1, h2⟩ := hv
 refine ⟨n1, ⟨by omega, fun p hp => ?_⟩, hat, hma, ⟨by omega, k2⟩, by omega, t6, t7, m8, m9, m10, t11, t12, ⟨by omega, g2⟩, ⟨by omega, d2⟩, ⟨by omega, fun d hd => ?_⟩⟩
 · have := n3 p hp
   simp only [vAlias, Bool.and_eq_true] at this
   exact this.1
 · have := h2 d hd
   simp only [lenB, decide_eq_true_eq] at this
   omega
theorem nat_of {t : Int} (h : 0 ≤ t ∧ t ≤ 1099511627776) : ∃ n : Nat, t = n ∧ n ≤ 1099511627776 := ⟨t.toNat, by omega, by omega⟩
theorem entP_at (e : Ent) (hv : vEnt e = true) (ha : 0 ≤ e.2.2.1 ∧ e.2.2.1 ≤ 4294967295) :
 entS e = tlv 48 (sufS (entL e) 0 16) ∧ (∀ j, ((entL e).getD j []).length ≤ 16777215) ∧ (sufS (entL e) 0 16).length ≤ 16777215 ∧ ∀ r, entP (entS e ++ r) = .ok (e, (entS e).length) := by
 obtain ⟨f0, ⟨f1, f1'⟩, f2, f3, ⟨f4, f4'⟩, f5, f6, f7, f8, f9, f10, f11, f12, ⟨f13, f13'⟩, ⟨f14, f14'⟩, ⟨f15, f15'⟩⟩ := ent_fields hv
 have h2 := attrB_le ha f2
 clear hv f2
 obtain ⟨e0, e1, e2, e3, e4, e5, e6, e7, e8, e9, e10, e11, e12, e13, e14, e15⟩ := e
 dsimp only at *
 change Int at e2 e3 e6 e7 e8 e9 e10 e11 e12
 change ByteArray at e5
 have a0 : (0 : Int) ≤ e2 := ha.1
 have a1 : e2 ≤ (1023 : Int) := h2
 have z3 : (0 : Int) ≤ e3 ∧ e3 ≤ 4611686018427387904 := ⟨f3.1, Int.le_trans f3.2 (by decide)⟩
 have z8 : (0 : Int) ≤ e8 ∧ e8 ≤ 4611686018427387904 := ⟨f8.1, Int.le_trans f8.2 (by decide)⟩
 have z9 : (0 : Int) ≤ e9 ∧ e9 ≤ 4611686018427387904 := ⟨f9.1, Int.le_trans f9.2 (by decide)⟩
 have z10 : (0 : Int) ≤ e10 ∧ e10 ≤ 4611686018427387904 := ⟨f10.1, Int.le_trans f10.2 (by decide)⟩
 have z5 : e5.size ≤ 16777215 := Nat.le_trans f5 (by decide)
 obtain ⟨n2, rfl⟩ : ∃ n : Nat, e2 = n := ⟨e2.toNat, by omega⟩
 obtain ⟨n6, rfl, g6⟩ := nat_of f6
 obtain ⟨n7, rfl, g7⟩ := nat_of f7
 obtain ⟨n11, rfl, g11⟩ := nat_of f11
 obtain ⟨n12, rfl, g12⟩ := nat_of f12
 obtain ⟨p0, p0l, p0n⟩ := nameP_ok f0
 obtain ⟨p1, p1l⟩ := nms_q f1 f1'
 obtain ⟨p4, p4l⟩ := sts_q f4 f4'
 obtain ⟨p13, p13l⟩ := nms_q f13 f13'
 obtain ⟨p14, p14l⟩ := nms_q f14 f14'
 obtain ⟨p15, p15l⟩ := his_q f15 f15'
 obtain ⟨p2l, p2n⟩ := bitsS_le (n2 : Int)
 have p2 := full (bitsP_ok (n := n2) (by omega))
 have l3 := numO_le e3
 have l5 := txtO_le e5
 have l6 := timO_le n6
 have l7 := timO_le n7
 have l8 := numO_le e8
 have l9 := numO_le e9
 have l10 := numO_le e10
 have l11 := timO_le n11
 have l12 := timO_le n12
 have hL : ∀ j, ((entL (e0, e1, (n2 : Int), e3, e4, e5, (n6 : Int), (n7 : Int), e8, e9, e10, (n11 : Int), (n12 : Int), e13, e14, e15)).getD j []).length ≤ 16777215 := fun j => by
  match j with
  | 0 => show (prinE e0).length ≤ _; omega
  | 1 => exact Nat.le_trans p1l (by omega)
  | 2 => show (bitsS (n2 : Int)).length ≤ _; omega
  | 3 => show (numO e3).length ≤ _; omega
  | 4 => exact Nat.le_trans p4l (by omega)
  | 5 => show (txtO e5).length ≤ _; omega
  | 6 => show (timO (n6 : Int)).length ≤ _; omega
  | 7 => show (timO (n7 : Int)).length ≤ _; omega
  | 8 => show (numO e8).length ≤ _; omega
  | 9 => show (numO e9).length ≤ _; omega
  | 10 => show (numO e10).length ≤ _; omega
  | 11 => show (timO (n11 : Int)).length ≤ _; omega
  | 12 => show (timO (n12 : Int)).length ≤ _; omega
  | 13 => exact Nat.le_trans p13l (by omega)
  | 14 => exact Nat.le_trans p14l (by omega)
  | 15 => exact Nat.le_trans p15l (by omega)
  | j + 16 => exact Nat.zero_le _
 have hs : (sufS (entL (e0, e1, (n2 : Int), e3, e4, e5, (n6 : Int), (n7 : Int), e8, e9, e10, (n11 : Int), (n12 : Int), e13, e14, e15)) 0 16).length ≤ 16777215 := by
  refine Nat.le_trans (sufS_le 16 0) ?_
  show (prinE e0).length + 5 + ((listS (t := PrinT) prinE e1).length + 5 + ((bitsS (n2 : Int)).length + 5 + ((numO e3).length + 5 + ((listS (t := SetT) setS e4).length + 5 + ((txtO e5).length + 5 + ((timO (n6 : Int)).length + 5 + ((timO (n7 : Int)).length + 5 + ((numO e8).length + 5 + ((numO e9).length + 5 + ((numO e10).length + 5 + ((timO (n11 : Int)).length + 5 + ((timO (n12 : Int)).length + 5 + ((listS (t := PrinT) prinE e13).length + 5 + ((listS (t := PrinT) prinE e14).length + 5 + ((listS (t := Ty.slice .u8) octS e15).length + 5 + 0))))))))))))))) ≤ _
  generalize (listS (t := PrinT) prinE e1).length = a1 at *
  generalize (listS (t := SetT) setS e4).length = a4 at *
  generalize (listS (t := PrinT) prinE e13).length = a13 at *
  generalize (listS (t := PrinT) prinE e14).length = a14 at *
  generalize (listS (t := Ty.slice .u8) octS e15).length = a15 at *
  omega
 have hS : entS (e0, e1, (n2 : Int), e3, e4, e5, (n6 : Int), (n7 : Int), e8, e9, e10, (n11 : Int), (n12 : Int), e13, e14, e15) = tlv 48 (sufS (entL (e0, e1, (n2 : Int), e3, e4, e5, (n6 : Int), (n7 : Int), e8, e9, e10, (n11 : Int), (n12 : Int), e13, e14, e15)) 0 16) := tagS_tlv (l := entL (e0, e1, (n2 : Int), e3, e4, e5, (n6 : Int), (n7 : Int), e8, e9, e10, (n11 : Int), (n12 : Int), e13, e14, e15)) hs
 have hin := entIn_at hL p0n (full p0) p1 p2n p2 (numO_q z3) p4 (txtO_q z5) (timO_q g6) (timO_q g7) (numO_q z8) (numO_q z9) (numO_q z10) (timO_q g11) (timO_q g12) p13 p14 p15
 refine ⟨hS, hL, hs, fun r => ?_⟩
 rw [hS]
 exact inP_tlv hs hin r
def decEnt (b : List UInt8) : Option Ent := match allP entP b with
 | .ok e => if vEnt e = true ∧ entS e = b then some e else none
 | .error _ => none
def attrOk (e : Ent) : Prop := 0 ≤ e.2.2.1 ∧ e.2.2.1 ≤ 4294967295
theorem decEnt_of {b : List UInt8} {e : Ent} (h : vEnt e = true) (ha : attrOk e) (he : entS e = b) : decEnt b = some e := by
 subst he
 have := full (entP_at e h ha).2.2.2
 unfold decEnt allP
 rw [this]
 simp [h]
end Go.Proofs.YtddmkgibghohkaaGreatDoor
