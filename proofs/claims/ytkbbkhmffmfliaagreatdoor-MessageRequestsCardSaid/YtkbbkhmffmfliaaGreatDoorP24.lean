/- The plain law of the reference's reading. -/
import Derived.Test.YtkbbkhmffmfliaaGreatDoorP23
import Derived.Test.YtkbbkhmffmfliaaGreatDoorP20
import Derived.Test.YtkbbkhmffmfliaaGreatDoorP22
import Derived.Test.YtkbbkhmffmfliaaGreatDoorPRv
import Derived.Test.YtkbbkhmffmfliaaGreatDoorP16
set_option linter.all false
namespace Go.Proofs.YtkbbkhmffmfliaaGreatDoor
open Go Go.Sx Go.Proofs
set_option maxRecDepth 100000
set_option maxHeartbeats 4000000
theorem z6S {b : List UInt8} (h : (meas b).2.2 = 0) : fstR b = some ((meas b).1, (meas b).2.1) := by
 have key : ∀ a n, (measE b a n).2.2 = 0 → chkR b a n = some ((measE b a n).1, (measE b a n).2.1) := by
  intro a n h1
  unfold measE at h1 ⊢
  unfold chkR
  split at h1
  · cases h1
  rename_i hh; rw [if_neg hh, if_neg hh]
 unfold meas at h ⊢
 unfold fstR
 split at h
 · cases h
 rename_i g1
 rw [if_neg g1, if_neg g1]
 split at h
 · rename_i g2
   rw [if_pos g2, if_pos g2]
   exact key _ _ h
 rename_i g2
 rw [if_neg g2, if_neg g2]
 split at h
 · cases h
 rename_i g3
 split at h
 · cases h
 rename_i g4
 split at h
 · cases h
 rename_i g5
 rw [if_neg (by omega), if_neg g3, if_neg g4, if_neg g5]
 exact key _ _ h
theorem z3E (t : UInt8) (c r : List UInt8) (h : c.length ≤ 16777215) : fstR (tlv t c ++ r) = some (1 + (lenS c.length).length, (tlv t c).length) := by
 have hm := q4R t c r h
 rw [z6S (by rw [hm]), hm, q0y]
theorem z9h (t : UInt8) (c r : List UInt8) (h : c.length ≤ 16777215) : conR (tlv t c ++ r) = c := by
 have := q6Q t c r h
 unfold takeC at this
 rw [q4R t c r h] at this
 unfold conR
 rw [z3E t c r h]
 simp only at this ⊢
 rw [q0y]; exact this
theorem conR_tlv' (t : UInt8) (c : List UInt8) (h : c.length ≤ 16777215) : conR (tlv t c) = c := by
 have := z9h t c [] h
 rwa [List.append_nil] at this
def isEl (x : List UInt8) : Prop := ∃ t c, x = tlv t c ∧ c.length ≤ 16777215
theorem q3V : ∀ (L : List (List UInt8)), (∀ x ∈ L, isEl x) → elsR L.flatten.length L.flatten = L
 | [], _ => rfl
 | x :: L, h => by
  obtain ⟨t, c, rfl, hc⟩ := h x (by simp)
  have hf := z3E t c L.flatten hc
  rw [List.flatten_cons, z0A hf, List.take_left, List.drop_left, q3V L fun y hy => h y (by simp [hy])]
theorem z3V {l : List (List UInt8)} : (l.filter fun x => !x.isEmpty).flatten = l.flatten := by
 induction l with
 | nil => rfl
 | cons x l ih =>
  cases x with
  | nil => simp [ih]
  | cons a x => simp [ih]
def wrapsL (l : List (List UInt8)) (n k : Nat) : List (List UInt8) := ((List.range' n k).map fun j => wrapS 160 (j : Nat) (l.getD j [])).filter fun x => !x.isEmpty
theorem q6M (l : List (List UInt8)) (n k : Nat) : wrapsL l n (k + 1) = if wrapS 160 (n : Nat) (l.getD n []) = [] then wrapsL l (n + 1) k else wrapS 160 (n : Nat) (l.getD n []) :: wrapsL l (n + 1) k := by
 unfold wrapsL
 rw [List.range'_succ, List.map_cons, List.filter_cons]
 cases wrapS 160 (n : Nat) (l.getD n []) <;> simp
theorem z9G {l : List (List UInt8)} {n k : Nat} (hl : ∀ j, (l.getD j []).length ≤ 16777215) (hn : n + k ≤ 31) : elsR (sufS l n k).length (sufS l n k) = wrapsL l n k := by
 have : sufS l n k = (wrapsL l n k).flatten := by unfold wrapsL sufS; rw [z3V]
 rw [this]
 refine q3V _ fun x hx => ?_
 unfold wrapsL at hx
 simp only [List.mem_filter, List.mem_map, List.mem_range'_1] at hx
 obtain ⟨⟨j, hj, rfl⟩, hne⟩ := hx
 rw [q3s (by omega) (hl j)] at hne ⊢
 split
 · rename_i h0; rw [if_pos h0] at hne; simp at hne
 exact ⟨_, _, rfl, hl j⟩
theorem q6P {m n : Nat} {c : List UInt8} (hn : n ≤ 30) : isTag m (tlv (tagB n) c) = decide (n = m) := by
 unfold isTag tlv
 rw [List.getD_cons_zero, q8A n hn]
 exact decide_eq_decide.2 (by omega)
theorem q8U {m : Nat} {x : List UInt8} {L : List (List UInt8)} : fndR m (x :: L) = if isTag m x then conR x else fndR m L := by
 unfold fndR
 rw [List.find?_cons]
 cases isTag m x <;> simp
theorem j0o {l : List (List UInt8)} {m : Nat} (hl : ∀ j, (l.getD j []).length ≤ 16777215) : ∀ (k n : Nat), m < n → n + k ≤ 31 → fndR m (wrapsL l n k) = []
 | 0, n, _, _ => rfl
 | k + 1, n, h, hn => by
  rw [q6M, q3s (n := n) (by omega) (hl n)]
  have ih := j0o (m := m) hl k (n + 1) (by omega) (by omega)
  by_cases h0 : l.getD n [] = []
  · rw [if_pos h0, if_pos rfl]; exact ih
  rw [if_neg h0, if_neg (by simp [tlv]), q8U, q6P (n := n) (by omega), decide_eq_false (show ¬ n = m by omega)]
  exact ih
theorem j0i {l : List (List UInt8)} {m : Nat} (hl : ∀ j, (l.getD j []).length ≤ 16777215) : ∀ (k n : Nat), n ≤ m → m < n + k → n + k ≤ 31 → fndR m (wrapsL l n k) = l.getD m []
 | 0, n, _, _, _ => by omega
 | k + 1, n, h, h2, hn => by
  rw [q6M, q3s (n := n) (by omega) (hl n)]
  by_cases e : n = m
  · subst e
    by_cases h0 : l.getD n [] = []
    · rw [if_pos h0, if_pos rfl, j0o hl k (n + 1) (by omega) (by omega), h0]
    rw [if_neg h0, if_neg (by simp [tlv]), q8U, q6P (n := n) (by omega), decide_eq_true (show n = n from rfl), if_pos rfl, conR_tlv' _ _ (hl n)]
  have ih := j0i (m := m) hl k (n + 1) (by omega) (by omega) (by omega)
  by_cases h0 : l.getD n [] = []
  · rw [if_pos h0, if_pos rfl]; exact ih
  rw [if_neg h0, if_neg (by simp [tlv]), q8U, q6P (n := n) (by omega), decide_eq_false e]
  exact ih
theorem q1q {l : List (List UInt8)} {m k : Nat} (hl : ∀ j, (l.getD j []).length ≤ 16777215) (hk : k ≤ 31) (hm : m < k) (hs : (sufS l 0 k).length ≤ 16777215) : itmR (tlv 48 (sufS l 0 k)) m = l.getD m [] := by
 unfold itmR
 rw [conR_tlv' _ _ hs, z9G hl (by omega)]
 exact j0i hl k 0 (Nat.zero_le _) (by omega) (by omega)
theorem q5r {v : Int} (h : 0 ≤ v ∧ v < 36028797018963968) : (gIntR (intS v) : Int) = v := by
 obtain ⟨c, h1, h2, _, _, h5, h6⟩ := q4x (v := v) (by omega)
 unfold gIntR
 rw [h1, conR_tlv' _ _ (by omega)]
 have h7 : c.length ≤ 7 := by
  rcases Nat.lt_or_ge c.length 8 with q | q
  · omega
  have := h6 (by omega); omega
 rw [List.take_of_length_le h7]
 exact h5
theorem z3C {n : Nat} (h : n ≤ 1099511627776) : gIntR (timeS n) = n := by
 unfold gIntR
 rw [q3T (by omega), conR_tlv' _ _ (by rw [q0t]; omega), List.take_of_length_le (by rw [q0t]; omega), q5L n 6 (by omega), Nat.mod_eq_of_lt (by omega)]
theorem z9q {n : Nat} (h : n < 4294967296) : gBitsR (bitsS n) = n := by
 unfold gBitsR
 rw [q7a, conR_tlv' _ _ (by simp [q0t]), List.drop_succ_cons, List.drop_zero, List.take_of_length_le (by rw [q0t]; omega), q5L n 4 (by omega), Nat.mod_eq_of_lt (by omega)]
def eltR (x : List UInt8) : List (List UInt8) := elsR (conR x).length (conR x)
def sR (x : List UInt8) : ByteArray := ⟨(conR x).toArray⟩
def prnR (x : List UInt8) : Prin := ((eltR (itmR x 0)).map sR, sR (itmR x 1))
def keyR (x : List UInt8) : Key := ((gIntR (itmR x 0) : Int), (gIntR (itmR x 1) : Int), conR (itmR x 2))
theorem z3l : eltR [] = [] := by decide
theorem q9X {t : Ty} {w : t.den → List UInt8} {l : List t.den} (h : ∀ x ∈ l, isEl (w x)) (hb : (l.map w).flatten.length ≤ 16777215) : eltR (listS w l) = l.map w := by
 by_cases h0 : l.length = 0
 · have : l = [] := List.length_eq_zero_iff.1 h0
   subst this
   have e : listS w ([] : List t.den) = [] := by unfold listS; exact if_pos rfl
   rw [e, z3l]; rfl
 have e : listS w l = tlv 48 (l.map w).flatten := by unfold listS mapN; rw [if_neg h0, List.take_length, q0X hb]
 unfold eltR
 rw [e, conR_tlv' _ _ hb, q3V _ (fun x hx => by obtain ⟨s, hs, rfl⟩ := List.mem_map.1 hx; exact h s hs)]
theorem q6k {α β : Type} {f : β → α} {w : α → β} {l : List α} (h : ∀ x ∈ l, f (w x) = x) : (l.map w).map f = l := by
 rw [List.map_map]
 conv => rhs; rw [← List.map_id l]
 exact List.map_congr_left fun x hx => h x hx
theorem z3P {n : Nat} (h : n ≤ 1099511627776) : (gIntR (timO (n : Int)) : Int) = n := by
 unfold timO
 split
 · rename_i h0; rw [h0]; rfl
 rw [z3C h]
theorem z2s {s : ByteArray} (h : s.size ≤ 16777215) : sR (elemS 27 [s.data.toList]) = s ∧ isEl (elemS 27 [s.data.toList]) := by
 have hl : s.data.toList.length = s.size := by simp
 rw [q1s (by omega)]
 refine ⟨?_, _, _, rfl, by omega⟩
 unfold sR
 rw [conR_tlv' _ _ (by omega)]
theorem q9h {p : Prin} (h : vPrin p = true) : prnR (prinE p) = p ∧ isEl (prinE p) := by
 obtain ⟨h1, h2, h3⟩ := q4n h
 have he : prinE p = prinS p := by unfold prinE; rw [if_pos h]
 rw [he]
 obtain ⟨xs, t⟩ := p
 have h1' : xs.length ≤ 4 := h1
 have h2' : ∀ x ∈ xs, x.size ≤ 32 := h2
 have h3' : t.size ≤ 32 := h3
 obtain ⟨g1, g2⟩ := q9Z xs t (by omega) (fun x hx => by have := h2' x hx; omega) (by omega)
 have hS : prinS (xs, t) = tlv 48 (sufS [elemS 48 (strsN xs xs.length), strE t] 0 2) := by
  show elemS 48 [wrapS 160 0 (elemS 48 (strsN xs xs.length)), wrapS 160 1 (strE t)] = _
  have e : ([wrapS 160 0 (elemS 48 (strsN xs xs.length)), wrapS 160 1 (strE t)] : List (List UInt8)).flatten = sufS [elemS 48 (strsN xs xs.length), strE t] 0 2 := by
   rw [q0S, q0S]
   simp [sufS]
  rw [q0X (by rw [e]; omega), e]
 have e0 : strsN xs xs.length = xs.map strE := by unfold strsN strE; rw [List.take_length]
 have hb : (xs.map strE).flatten.length ≤ 148 := by have := q8f (k := xs.length) h1' h2'; rwa [e0] at this
 have e1 : elemS 48 (strsN xs xs.length) = tlv 48 (xs.map strE).flatten := by rw [e0, q0X (by omega)]
 have l1 := q9I t
 have hL : ∀ j, (([elemS 48 (strsN xs xs.length), strE t] : List (List UInt8)).getD j []).length ≤ 16777215 := fun j => by
  match j with
  | 0 =>
   show (elemS 48 (strsN xs xs.length)).length ≤ _
   rw [e1, q0y]
   have := q1M (xs.map strE).flatten.length
   omega
  | 1 => show (strE t).length ≤ _; omega
  | j + 2 => exact Nat.zero_le _
 rw [hS]
 refine ⟨?_, _, _, rfl, by omega⟩
 unfold prnR
 rw [q1q (m := 0) hL (by omega) (by omega) (by omega), q1q (m := 1) hL (by omega) (by omega) (by omega)]
 have e2 : ([elemS 48 (strsN xs xs.length), strE t] : List (List UInt8)).getD 0 [] = tlv 48 (xs.map strE).flatten := e1
 have e3 : ([elemS 48 (strsN xs xs.length), strE t] : List (List UInt8)).getD 1 [] = strE t := rfl
 rw [e2, e3]
 have hel : ∀ x ∈ xs, sR (strE x) = x ∧ isEl (strE x) := fun x hx => z2s (by have := h2' x hx; omega)
 unfold eltR
 rw [conR_tlv' _ _ (by omega), q3V _ (fun x hx => by obtain ⟨s, hs, rfl⟩ := List.mem_map.1 hx; exact (hel s hs).2), q6k (f := sR) (w := strE) (fun x hx => (hel x hx).1)]
 exact congrArg (Prod.mk xs) (z2s (by omega)).1
theorem z9P {k : Key} (h : keyOk k) : keyR (keyS k) = k ∧ isEl (keyS k) := by
 obtain ⟨a, v, c⟩ := k
 obtain ⟨ha, hv, hc⟩ := h
 have i1 := q0O a
 have i2 := q0O v
 have e3 : elemS 4 [c] = tlv 4 c := q1s (by omega)
 have w3 := q0k 4 [c]
 simp only [List.flatten_cons, List.flatten_nil, List.append_nil] at w3
 have hL : ∀ j, (([intS a, intS v, elemS 4 [c]] : List (List UInt8)).getD j []).length ≤ 16777215 := fun j => by
  match j with
  | 0 => show (intS a).length ≤ _; omega
  | 1 => show (intS v).length ≤ _; omega
  | 2 => show (elemS 4 [c]).length ≤ _; omega
  | j + 3 => exact Nat.zero_le _
 obtain ⟨hS, hin⟩ := q6o a v c ha hv hc
 rw [hS]
 refine ⟨?_, _, _, rfl, hin⟩
 unfold keyR
 rw [q1q (m := 0) hL (by omega) (by omega) hin, q1q (m := 1) hL (by omega) (by omega) hin, q1q (m := 2) hL (by omega) (by omega) hin]
 have t0 : ([intS a, intS v, elemS 4 [c]] : List (List UInt8)).getD 0 [] = intS a := rfl
 have t1 : ([intS a, intS v, elemS 4 [c]] : List (List UInt8)).getD 1 [] = intS v := rfl
 have t2 : ([intS a, intS v, elemS 4 [c]] : List (List UInt8)).getD 2 [] = tlv 4 c := e3
 rw [t0, t1, t2, q5r (by omega), q5r (by omega), conR_tlv' _ _ (by omega)]
theorem z0L (x : List UInt8) : gBitsR x < 4294967296 := by
 unfold gBitsR
 have h1 := q3i (((conR x).drop 1).take 4)
 have h2 : 256 ^ (((conR x).drop 1).take 4).length ≤ 256 ^ 4 := Nat.pow_le_pow_right (by decide) (by rw [List.length_take]; omega)
 omega
theorem j1l {p : Pre} (h : ((0 : Int) ≤ p.1 ∧ p.1 ≤ (2147483647 : Int)) ∧ p.2.length ≤ 16384) : datR p = datS p := by
 obtain ⟨a, c⟩ := p
 obtain ⟨h1, h2⟩ := h
 dsimp only at h2
 have ha : (0 : Int) ≤ a ∧ a ≤ 4611686018427387904 := ⟨h1.1, Int.le_trans h1.2 (by decide)⟩
 obtain ⟨e, hl⟩ := q6c a c ha (by omega)
 have hf : (tagN [intS a, elemS 4 [c]] 2).flatten = sufS [intS a, elemS 4 [c]] 0 2 := q5h [intS a, elemS 4 [c]]
 have ht : tagN [intS a, elemS 4 [c]] 2 = [wrapS 160 0 (intS a), wrapS 160 1 (elemS 4 [c])] := by simp [tagN, List.range_succ]
 have hi : intR a = intS a := q4B ha
 show elemS 48 [wrapS 160 0 (intR a), wrapS 160 1 (elemS 4 [c])] = _
 rw [e, hi, ← ht, q0X (by rw [hf]; omega), hf]
theorem z9c {l : List Pre} (h : vPre l = true) : dataR l = dataS l := by
 obtain ⟨h16, hv⟩ := q7V h
 obtain ⟨e, hl⟩ := q4N h
 have hm : mapN (t := PreT) datR l l.length = l.map datS := by
  unfold mapN; rw [List.take_length]
  exact List.map_congr_left fun p hp => j1l (hv p hp)
 unfold dataR
 rw [hm, e, q0X (by omega)]
theorem z2I {l : List Pre} (h : vPre l = true) : preR2 l = preO l := by unfold preR2 preO; rw [z9c h]
theorem q9m {p : Prin} (h : vPrin p = true) : prinS p = prinE p := by unfold prinE; rw [if_pos h]
theorem j0a {p : Prin} (h : vPrin p = true) : shP p := by
 obtain ⟨h1, h2, h3⟩ := q4n h
 exact ⟨by omega, fun x hx => by have := h2 x hx; omega, by omega⟩
theorem j4T : shP zP := ⟨by decide, fun x hx => absurd hx (by simp [zP]), by decide⟩
theorem z9X {l : List Pre} (h : vPre l = true) : shD l := by
 obtain ⟨h16, hv⟩ := q7V h
 refine ⟨by omega, fun p hp => ?_⟩
 obtain ⟨h1, h2⟩ := hv p hp
 exact ⟨⟨Int.le_trans (by decide) h1.1, Int.le_trans h1.2 (by decide)⟩, by omega⟩
def datG (x : List UInt8) : Pre := ((gIntR (itmR x 0) : Int), conR (itmR x 1))
def preG (x : List UInt8) : List Pre := (eltR x).map datG
theorem z3p {p : Pre} (h : ((0 : Int) ≤ p.1 ∧ p.1 ≤ (2147483647 : Int)) ∧ p.2.length ≤ 16384) : datG (datS p) = p ∧ isEl (datS p) := by
 obtain ⟨a, c⟩ := p
 obtain ⟨h1, h2⟩ := h
 dsimp only at h2
 change Int at a
 have h1' : 0 ≤ a ∧ a ≤ 2147483647 := h1
 obtain ⟨e, hl⟩ := q6c a c (by omega) (by omega)
 have i1 := q0O a
 have e3 : elemS 4 [c] = tlv 4 c := q1s (by omega)
 have w3 := q0k 4 [c]
 simp only [List.flatten_cons, List.flatten_nil, List.append_nil] at w3
 have hL : ∀ j, (([intS a, elemS 4 [c]] : List (List UInt8)).getD j []).length ≤ 16777215 := fun j => by
  match j with
  | 0 => show (intS a).length ≤ _; omega
  | 1 => show (elemS 4 [c]).length ≤ _; omega
  | j + 2 => exact Nat.zero_le _
 have hs : (sufS [intS a, elemS 4 [c]] 0 2).length ≤ 16777215 := by omega
 refine ⟨?_, by rw [e]; exact ⟨_, _, rfl, hs⟩⟩
 unfold datG
 rw [e, q1q (m := 0) (k := 2) hL (by omega) (by omega) hs, q1q (m := 1) (k := 2) hL (by omega) (by omega) hs]
 show (((gIntR (intS a) : Nat) : Int), conR (elemS 4 [c])) = (a, c)
 rw [q5r (by omega), e3, conR_tlv' _ _ (by omega)]
theorem z3d {l : List Pre} (h : vPre l = true) : preG (preO l) = l := by
 obtain ⟨h16, hv⟩ := q7V h
 obtain ⟨e, hl⟩ := q4N h
 unfold preG preO
 by_cases h0 : l.length = 0
 · rw [if_pos h0, List.length_eq_zero_iff.1 h0, z3l]; rfl
 rw [if_neg h0, e]
 unfold eltR
 rw [conR_tlv' _ _ (by omega), q3V _ (fun x hx => by obtain ⟨s, hs, rfl⟩ := List.mem_map.1 hx; exact (z3p (hv s hs)).2)]
 exact q6k fun p hp => (z3p (hv p hp)).1
theorem z8i (s : Key) : PC Tryz.prog 121 [.agg (KeyT.cells s)] (rB (vSeal s)) := by
 obtain ⟨p, v, c⟩ := s
 have hd : vSeal (p, v, c) = (decide (0 < keyLen p) && (mIn 0 65535 v && decide ((c.length : Int) ≤ 65536))) := by rw [q9U]; rfl
 rw [hd]
 refine q0D rfl rfl ?_
 refine rQ fi121 ?_ <;> try with_reducible exact True.intro
 repeat' (first
  | (refine q0a (j2Y _) ?_; refine uQ 600 _ ?_; simp (maxSteps := 3000000) only [go_sem, ↓zA, ↓reduceIte, ↓reduceDIte] <;> try simp only [zB])
  | (refine q0b (j2Y _) ?_; refine uQ 600 _ ?_; simp (maxSteps := 3000000) only [go_sem, ↓zA, ↓reduceIte, ↓reduceDIte] <;> try simp only [zB])
  | (refine q0q (j2Y _) ?_; refine uQ 600 _ ?_; simp (maxSteps := 3000000) only [go_sem, ↓zA, ↓reduceIte, ↓reduceDIte] <;> try simp only [zB])
  | (refine q0a (q7L _ _ _) ?_; refine uQ 600 _ ?_; simp (maxSteps := 3000000) only [go_sem, ↓zA, ↓reduceIte, ↓reduceDIte] <;> try simp only [zB])
  | (refine q0b (q7L _ _ _) ?_; refine uQ 600 _ ?_; simp (maxSteps := 3000000) only [go_sem, ↓zA, ↓reduceIte, ↓reduceDIte] <;> try simp only [zB])
  | (refine q0q (q7L _ _ _) ?_; refine uQ 600 _ ?_; simp (maxSteps := 3000000) only [go_sem, ↓zA, ↓reduceIte, ↓reduceDIte] <;> try simp only [zB])
  | (with_reducible refine And.intro ?_ ?_)
  | (with_reducible intro _))
 all_goals (grind)
theorem z8c (t : Tick) (ho : TickT.ok t) : PC Tryz.prog 63 [.agg (TickT.cells t)] (rB (vTick t)) := by
 obtain ⟨p, s⟩ := t
 have hd : vTick (p, s) = (vPrin p && vSeal s) := rfl
 rw [hd]
 have hs := z8i s
 refine q0D rfl rfl ?_
 refine rQ fi63 ?_ <;> try with_reducible exact True.intro
 repeat' (first
  | (refine q0a (q9n p ho.1) ?_; refine uQ 600 _ ?_; simp (maxSteps := 3000000) only [go_sem, ↓zA, ↓reduceIte, ↓reduceDIte] <;> try simp only [zB])
  | (refine q0b (q9n p ho.1) ?_; refine uQ 600 _ ?_; simp (maxSteps := 3000000) only [go_sem, ↓zA, ↓reduceIte, ↓reduceDIte] <;> try simp only [zB])
  | (refine q0q (q9n p ho.1) ?_; refine uQ 600 _ ?_; simp (maxSteps := 3000000) only [go_sem, ↓zA, ↓reduceIte, ↓reduceDIte] <;> try simp only [zB])
  | (refine q0a (hs) ?_; refine uQ 600 _ ?_; simp (maxSteps := 3000000) only [go_sem, ↓zA, ↓reduceIte, ↓reduceDIte] <;> try simp only [zB])
  | (refine q0b (hs) ?_; refine uQ 600 _ ?_; simp (maxSteps := 3000000) only [go_sem, ↓zA, ↓reduceIte, ↓reduceDIte] <;> try simp only [zB])
  | (refine q0q (hs) ?_; refine uQ 600 _ ?_; simp (maxSteps := 3000000) only [go_sem, ↓zA, ↓reduceIte, ↓reduceDIte] <;> try simp only [zB])
  | (with_reducible refine And.intro ?_ ?_)
  | (with_reducible intro _))
 all_goals (simp_all)
theorem z2j (k : Int) : PC Tryz.prog 64 [rI k] (rB (vKind k)) := by
 refine q0D rfl rfl ?_
 refine rQ fi64 ?_
 grind [vKind]
def inI (v : Int) : Prop := -9223372036854775808 ≤ v ∧ v ≤ 9223372036854775807
def shK (k : Key) : Prop := inI k.1 ∧ inI k.2.1 ∧ k.2.2.length ≤ 65536
def keyA (k : Key) : List UInt8 := elemS 48 [wrapS 160 0 (intR k.1), wrapS 160 1 (intR k.2.1), wrapS 160 2 (elemS 4 [k.2.2])]
theorem z8d {k : Key} (h : shK k) : (keyA k).length ≤ 65700 := by
 have g1 := q1I k.1
 have g2 := q1I k.2.1
 have g3 := q0k 4 [k.2.2]
 simp only [List.flatten_cons, List.flatten_nil, List.append_nil] at g3
 have g5 := q0h 160 0 (intR k.1)
 have g6 := q0h 160 1 (intR k.2.1)
 have g7 := q0h 160 2 (elemS 4 [k.2.2])
 have g8 := q0k 48 [wrapS 160 0 (intR k.1), wrapS 160 1 (intR k.2.1), wrapS 160 2 (elemS 4 [k.2.2])]
 simp only [List.flatten_cons, List.flatten_nil, List.append_nil, List.length_append] at g8
 have := h.2.2
 unfold keyA
 omega
theorem j3N (k : Key) (h : shK k) : PC Tryz.prog 173 [.agg (KeyT.cells k)] (.isl .u8 (keyA k)) := by
 have hd : keyA k = elemS 48 [wrapS 160 0 (intR k.1), wrapS 160 1 (intR k.2.1), wrapS 160 2 (elemS 4 [k.2.2])] := rfl
 have g1 := q1I k.1
 have g2 := q1I k.2.1
 have g3 := q0k 4 [k.2.2]
 simp only [List.flatten_cons, List.flatten_nil, List.append_nil] at g3
 have g5 := q0h 160 0 (intR k.1)
 have g6 := q0h 160 1 (intR k.2.1)
 have g7 := q0h 160 2 (elemS 4 [k.2.2])
 obtain ⟨h1, h2, h3⟩ := h
 generalize keyA k = R at *
 refine q0e rfl rfl ?_
 refine rQ fi173 ?_
 refine q0b (q8q _ h1) ?_
 refine gQ ?_
 refine q0b (q1F 0 (by decide) _ (by omega)) ?_
 refine gQ ?_
 refine q0b (q8q _ h2) ?_
 refine gQ ?_
 refine q0b (q1F 1 (by decide) _ (by omega)) ?_
 refine gQ ?_
 refine q0b (j0u _ (by omega)) ?_
 refine gQ ?_
 refine q0b (q1F 2 (by decide) _ (by omega)) ?_
 refine gQ ?_
 refine q1f 1 (by decide) ?_
 with_reducible refine sxE ?_
 refine q0b (q4u _ (by simp) (by simp only [List.flatten_cons, List.flatten_nil, List.append_nil, List.length_append]; omega)) ?_
 refine gQ ?_
 exact hd.symm
theorem j1j (k : Key) (h : shK k) : PC Tryz.prog 113 [.agg (KeyT.cells k)] (.isl .u8 (keyA k)) := by
 have hk := j3N k h
 refine q0e rfl rfl ?_
 refine rQ fi113 ?_
 refine q0a hk ?_
 refine gQ ?_; trivial
theorem j3B (n : Int) (b : List UInt8) (hb : b.length ≤ 1048576) : PC Tryz.prog 43 [rI n, .isl .u8 b] (.isl .u8 (elemS (byteOf (96 + n)) [b])) := by
 have hw : byteOf (IntKind.i64.wrap (96 + n)) = byteOf (96 + n) := by
  unfold byteOf
  rw [u8w, u8w]
  have : IntKind.i64.wrap (96 + n) % 256 = (96 + n) % 256 := by
   simp only [IntKind.wrap, IntKind.bits, IntKind.signed]
   omega
  rw [this]
 refine q0e rfl rfl ?_
 refine rQ fi43 ?_
 refine q0a (q5A (byteOf (96 + n)) (IntKind.i64.wrap (96 + n)) hw b hb) ?_
 refine gQ ?_; trivial
def shT (t : Tick) : Prop := shP t.1 ∧ shK t.2
def tickA (t : Tick) : List UInt8 := elemS (byteOf (96 + 1)) [elemS 48 [wrapS 160 0 (intS 5), wrapS 160 1 (prinS t.1), wrapS 160 2 (keyA t.2)]]
theorem q9W (t : UInt8) (c : List UInt8) : (elemS t [c]).length ≤ c.length + 5 := by
 have := q0k t [c]
 simpa using this
theorem j2u (t : Tick) (h : shT t) : PC Tryz.prog 48 [.agg (TickT.cells t)] (.isl .u8 (tickA t)) := by
 have hd : tickA t = elemS (byteOf (96 + 1)) [elemS 48 [wrapS 160 0 (intS 5), wrapS 160 1 (prinS t.1), wrapS 160 2 (keyA t.2)]] := rfl
 have g0 := q0O 5
 have g1 := q4L h.1
 have g2 := z8d h.2
 have w0 := q0h 160 0 (intS 5)
 have w1 := q0h 160 1 (prinS t.1)
 have w2 := q0h 160 2 (keyA t.2)
 have g8 := q0k 48 [wrapS 160 0 (intS 5), wrapS 160 1 (prinS t.1), wrapS 160 2 (keyA t.2)]
 simp only [List.flatten_cons, List.flatten_nil, List.append_nil, List.length_append] at g8
 have hs := j1j t.2 h.2
 have hp := z1O t.1 h.1
 generalize tickA t = R at *
 obtain ⟨p, s⟩ := t
 dsimp only at *
 refine q0e rfl rfl ?_
 refine rQ fi48 ?_
 refine q0b (z4T 5 (by decide)) ?_
 refine gQ ?_
 refine q0b (q1F 0 (by decide) _ (by omega)) ?_
 refine gQ ?_
 refine q0b hp ?_
 refine gQ ?_
 refine q0b (q1F 1 (by decide) _ (by omega)) ?_
 refine gQ ?_
 refine q0b hs ?_
 refine gQ ?_
 refine q0b (q1F 2 (by decide) _ (by omega)) ?_
 refine gQ ?_
 refine q1f 1 (by decide) ?_
 with_reducible refine sxE ?_
 refine q0b (q4u _ (by simp) (by simp only [List.flatten_cons, List.flatten_nil, List.append_nil, List.length_append]; omega)) ?_
 refine gQ ?_
 refine q0b (j4c 1 (by decide) _ (by omega)) ?_
 refine gQ ?_
 exact hd.symm
theorem j2o {k : Key} (h : keyOk k) : elemS 48 [wrapS 160 0 (intS k.1), wrapS 160 1 (intS k.2.1), wrapS 160 2 (elemS 4 [k.2.2])] = keyS k := by
 obtain ⟨a, v, c⟩ := k
 obtain ⟨ha, hv, hc⟩ := h
 obtain ⟨hS, hl⟩ := q6o a v c ha hv hc
 have e : ([wrapS 160 0 (intS a), wrapS 160 1 (intS v), wrapS 160 2 (elemS 4 [c])] : List (List UInt8)).flatten = sufS [intS a, intS v, elemS 4 [c]] 0 3 := by
  rw [q0S, q0S, q0S]
  simp [sufS]
 rw [hS]
 show elemS 48 [wrapS 160 0 (intS a), wrapS 160 1 (intS v), wrapS 160 2 (elemS 4 [c])] = _
 rw [q0X (by rw [e]; exact hl), e]
theorem j0O {t : Ty} {w : t.den → List UInt8} {l : List t.den} {i : Nat} (B : Nat) (hx : ∀ x ∈ l, (w x).length ≤ B) (hi : i ≤ l.length) : (mapN w l i).flatten.length ≤ B * i := by
 have h := q2F w B (l.take i) fun x hm => hx x (List.mem_of_mem_take hm)
 have e : (l.take i).length = i := by rw [List.length_take]; omega
 rw [e] at h
 exact h
theorem j3q {k : Key} (h : keyOk k) : keyA k = keyS k := by
 have he := j2o h
 obtain ⟨a, v, c⟩ := k
 obtain ⟨ha, hv, hc⟩ := h
 have e1 : intR a = intS a := q4B (by omega)
 have e2 : intR v = intS v := q4B (by omega)
 rw [← he]
 unfold keyA
 dsimp only
 rw [e1, e2]
theorem j3Z {k : Key} (h : keyOk k) : shK k := by
 obtain ⟨a, v, c⟩ := k
 obtain ⟨ha, hv, hc⟩ := h
 exact ⟨⟨Int.le_trans (by decide) ha.1, Int.le_trans ha.2 (by decide)⟩, ⟨Int.le_trans (by decide) hv.1, Int.le_trans hv.2 (by decide)⟩, hc⟩
theorem z8o {t : Tick} (h : vTick t = true) : tickA t = tickE t := by
 have hE := z3T t
 have hne := z2G h
 have h0 := q4k h
 obtain ⟨p, s⟩ := t
 simp only [vTick, Bool.and_eq_true] at h
 have e1 : prinS p = prinE p := q9m h.1
 have e2 := j3q (q6e h.2)
 have hL : [wrapS 160 0 (intS 5), wrapS 160 1 (prinS p), wrapS 160 2 (keyA s)] = tagN (tickL (p, s)) 3 := by
  rw [e1, show keyA s = keyS s from e2]
  simp [tagN, List.range_succ, tickL]
 have hz : tagS (tickL (p, s)) ≠ [] := fun e => by
  rw [hE, e] at hne
  exact hne (by simp [wrapS])
 rw [h0, hE]
 unfold tickA
 dsimp only
 rw [hL]
 unfold wrapS
 rw [if_pos ⟨by decide, by decide, hz⟩]
 rfl
def tickG (x : List UInt8) : Tick := (prnR (itmR (conR x) 1), keyR (itmR (conR x) 2))
theorem z6H {t : Tick} (h : vTick t = true) : tickG (tickS t) = t := by
 obtain ⟨hS, hL, hs, _⟩ := q7j h
 have hL' : ∀ j, ((tickL t).getD j []).length ≤ 16777215 := fun j => Nat.le_trans (hL j) (by decide)
 have hs' : (sufS (tickL t) 0 3).length ≤ 16777215 := by omega
 have hl48 : (tlv 48 (sufS (tickL t) 0 3)).length ≤ 16777215 := by
  rw [q0y]; have := q1M (sufS (tickL t) 0 3).length; omega
 unfold tickG
 rw [hS, conR_tlv' _ _ hl48, q1q (m := 1) (k := 3) hL' (by omega) (by omega) hs', q1q (m := 2) (k := 3) hL' (by omega) (by omega) hs']
 obtain ⟨p, s⟩ := t
 simp only [vTick, Bool.and_eq_true] at h
 show (prnR (prinE p), keyR (keyS s)) = (p, s)
 rw [(q9h h.1).1, (z9P (q6e h.2)).1]
theorem q4z {s : Int} : ∀ {ks : List Int}, findI (.int .i64 s) (ks.map (Value.int .i64)) = none ↔ s ∉ ks
 | [] => by simp [findI]
 | k :: ks => by
  have ih := q4z (s := s) (ks := ks)
  simp only [List.map_cons, findI, keyEq, decide_eq_true_eq, List.mem_cons, not_or]
  split
  · rename_i h; simp [h]
  rename_i h; simp [ih, h]
theorem q7R (l : List Int) : ∀ i, i ≤ l.length → ∃ ks : List Int, keysI l i = ks.map (Value.int .i64) ∧ (∀ s, s ∈ ks ↔ s ∈ l.take i) ∧ ks.length ≤ i ∧ (ks.length = i ↔ (l.take i).Nodup)
 | 0, _ => ⟨[], by simp [keysI]⟩
 | i + 1, hi => by
  obtain ⟨ks, h1, h2, h3, h4⟩ := q7R l i (by omega)
  have hta : l.take (i + 1) = l.take i ++ [l.getD i (Ty.dflt I64)] := q0r (d := Ty.dflt I64) (show i < l.length by omega)
  cases hf : findI (.int .i64 (l.getD i (Ty.dflt I64))) (keysI l i) with
  | none =>
   refine ⟨ks ++ [l.getD i (Ty.dflt I64)], by rw [q5K hf, h1, List.map_append]; rfl, fun s => by rw [hta]; simp only [List.mem_append, h2], by simp; omega, ?_⟩
   rw [h1, q4z, h2] at hf
   rw [hta, List.nodup_append]
   simp only [List.length_append, List.length_singleton, Nat.add_right_cancel_iff, h4]
   constructor
   · intro h
     refine ⟨h, by simp, fun a ha b hb => ?_⟩
     rw [List.mem_singleton.1 hb]
     exact fun e => hf (e ▸ ha)
   exact fun h => h.1
  | some j =>
   have hin : l.getD i (Ty.dflt I64) ∈ l.take i := by
    refine Classical.byContradiction fun hn => ?_
    rw [← h2, ← q4z, ← h1, hf] at hn
    cases hn
   refine ⟨ks, by rw [q5E hf, h1], fun s => ?_, by omega, ?_⟩
   · rw [hta, h2]
     simp only [List.mem_append, List.mem_singleton]
     exact ⟨.inl, fun h => h.elim id (fun e => e ▸ hin)⟩
   rw [hta, List.nodup_append]
   constructor
   · intro h; omega
   intro h; exact absurd rfl (h.2.2 _ hin _ (List.mem_singleton.2 rfl))
def dfrAt (l : List Int) (i : Nat) (k : Nat) : Bool := !decide (l.getD k (Ty.dflt I64) = l.getD i (Ty.dflt I64))
def prAt (l : List Int) (i : Nat) : Bool := prfAt l i && allN i (dfrAt l i)
theorem z5i (l : List Int) : l.Nodup ↔ ∀ i, i < l.length → ∀ k, k < i → dfrAt l i k = true := by
 have hg : ∀ j (h : j < l.length), l.getD j (Ty.dflt I64) = l[j] := fun j h => by rw [List.getD_eq_getElem?_getD, List.getElem?_eq_getElem h]; rfl
 rw [List.nodup_iff_pairwise_ne, List.pairwise_iff_getElem]
 constructor
 · intro h i hi k hk
   have := h k i (by omega) hi hk
   unfold dfrAt
   rw [hg k (by omega), hg i hi]
   simpa using this
 intro h k i hk hi hki
 have := h i hi k hki
 unfold dfrAt at this
 rw [hg k hk, hg i hi] at this
 simpa using this
theorem z9v (l : List Int) : vProf l = (allN l.length (prAt l) && (decide (1 ≤ (l.length : Int)) && decide ((l.length : Int) ≤ 16))) := by
 obtain ⟨ks, h1, _, _, h4⟩ := q7R l l.length (Nat.le_refl _)
 rw [List.take_length] at h4
 have hk : decide (((keysI l l.length).length : Int) = l.length) = true ↔ l.Nodup := by
  rw [h1, List.length_map, decide_eq_true_eq, ← h4]
  omega
 rw [z5i] at hk
 rw [Bool.eq_iff_iff]
 unfold vProf
 simp only [Bool.and_eq_true, hk, q1u, prAt]
 constructor
 · rintro ⟨a, b, c, d⟩
   exact ⟨fun j hj => ⟨c j hj, d j hj⟩, a, b⟩
 rintro ⟨c, a, b⟩
 exact ⟨a, b, fun j hj => (c j hj).1, fun j hj => (c j hj).2⟩
def shS (p : Prin) : Prop := p.1.length ≤ 6 ∧ (∀ x ∈ p.1, x.size ≤ 40) ∧ p.2.size ≤ 40
theorem j4O {p : Prin} (h : shS p) : shP p := ⟨Nat.le_trans h.1 (by decide), fun x hx => Nat.le_trans (h.2.1 x hx) (by decide), Nat.le_trans h.2.2 (by decide)⟩
theorem j4j {p : Prin} (h : vPrin p = true) : shS p := by
 obtain ⟨h1, h2, h3⟩ := q4n h
 exact ⟨by omega, fun x hx => Nat.le_trans (h2 x hx) (by decide), by omega⟩
theorem j3b {p : Prin} (h : shS p) : (prinS p).length ≤ 400 := by
 obtain ⟨l, r⟩ := p
 obtain ⟨hl, hp, hr⟩ := h
 dsimp only at hl hp hr
 have hps : prinS (l, r) = elemS 48 [wrapS 160 0 (elemS 48 (strsN l l.length)), wrapS 160 1 (elemS 27 [r.data.toList])] := rfl
 have h1 := q5C (B := 45) (strsN l l.length) (fun x hx => by
  unfold strsN at hx
  rw [List.mem_map] at hx
  obtain ⟨y, hy, rfl⟩ := hx
  have h2 := hp y (List.mem_of_mem_take hy)
  have h3 := q0k 27 [y.data.toList]
  have h4 : y.data.toList.length = y.size := by simp
  simp only [List.flatten_cons, List.flatten_nil, List.append_nil] at h3
  omega)
 have h2 : (strsN l l.length).length ≤ 6 := by unfold strsN; simp; omega
 have h3 : 45 * (strsN l l.length).length ≤ 45 * 6 := Nat.mul_le_mul_left _ h2
 have g1 := q0k 48 (strsN l l.length)
 have g2 := q0k 27 [r.data.toList]
 have g3 : r.data.toList.length = r.size := by simp
 simp only [List.flatten_cons, List.flatten_nil, List.append_nil] at g2
 have g4 := q0h 160 0 (elemS 48 (strsN l l.length))
 have g5 := q0h 160 1 (elemS 27 [r.data.toList])
 have g6 := q0k 48 [wrapS 160 0 (elemS 48 (strsN l l.length)), wrapS 160 1 (elemS 27 [r.data.toList])]
 simp only [List.flatten_cons, List.flatten_nil, List.append_nil, List.length_append] at g6
 rw [hps]; omega
def shE (l : List Pre) : Prop := shD l ∧ ∀ d ∈ l, d.2.length ≤ 1500
theorem z6D {l : List Pre} (h : shE l) : (dataR l).length ≤ 50000 := by
 have h1 := q5C (B := 1545) (mapN (t := PreT) datR l l.length) (fun x hx => by
  unfold mapN at hx
  rw [List.mem_map] at hx
  obtain ⟨y, hy, rfl⟩ := hx
  have h2 := h.2 y (List.mem_of_mem_take hy)
  have := z2U y
  omega)
 have h2 : (mapN (t := PreT) datR l l.length).length ≤ 32 := by
  unfold mapN; simp; have := h.1.1; omega
 have : 1545 * (mapN (t := PreT) datR l l.length).length ≤ 1545 * 32 := Nat.mul_le_mul_left _ h2
 have := q0k 48 (mapN (t := PreT) datR l l.length)
 unfold dataR
 omega
theorem q8V {l : List Pre} (h : shE l) : (preR2 l).length ≤ 50000 := by
 have := z6D h
 unfold preR2; split <;> first | (simp; done) | omega
def shV (t : Tick) : Prop := shS t.1 ∧ shK t.2 ∧ t.2.2.2.length ≤ 1500
theorem j4H {t : Tick} (h : shV t) : shT t := ⟨j4O h.1, h.2.1⟩
theorem j3O (k : Key) : (keyA k).length ≤ k.2.2.length + 70 := by
 have g0 := q1I k.1
 have g1 := q1I k.2.1
 have g2 := q9W 4 k.2.2
 have w0 := q0h 160 0 (intR k.1)
 have w1 := q0h 160 1 (intR k.2.1)
 have w2 := q0h 160 2 (elemS 4 [k.2.2])
 have g8 := q0k 48 [wrapS 160 0 (intR k.1), wrapS 160 1 (intR k.2.1), wrapS 160 2 (elemS 4 [k.2.2])]
 simp only [List.flatten_cons, List.flatten_nil, List.append_nil, List.length_append] at g8
 unfold keyA
 omega
theorem j1H {t : Tick} (h : shV t) : (tickA t).length ≤ 2100 := by
 have g0 := q0O 5
 have g1 := j3b h.1
 have g2 := j3O t.2
 have g3 := h.2.2
 have w0 := q0h 160 0 (intS 5)
 have w1 := q0h 160 1 (prinS t.1)
 have w2 := q0h 160 2 (keyA t.2)
 have g8 := q0k 48 [wrapS 160 0 (intS 5), wrapS 160 1 (prinS t.1), wrapS 160 2 (keyA t.2)]
 simp only [List.flatten_cons, List.flatten_nil, List.append_nil, List.length_append] at g8
 have g9 := q9W (byteOf (96 + 1)) (elemS 48 [wrapS 160 0 (intS 5), wrapS 160 1 (prinS t.1), wrapS 160 2 (keyA t.2)])
 unfold tickA
 omega
def shQ (r : Req) : Prop := inI r.1 ∧ shE r.2.1 ∧ ((0 : Int) ≤ r.2.2.1 ∧ r.2.2.1 ≤ (4294967295 : Int)) ∧ shP r.2.2.2.1 ∧ shP r.2.2.2.2.1 ∧ inI r.2.2.2.2.2.2.2.2.1 ∧ (r.2.2.2.2.2.2.2.2.2.1.length ≤ 32 ∧ ∀ v ∈ r.2.2.2.2.2.2.2.2.2.1, inI v) ∧ shE r.2.2.2.2.2.2.2.2.2.2.1 ∧ (r.2.2.2.2.2.2.2.2.2.2.2.length ≤ 32 ∧ ∀ t ∈ r.2.2.2.2.2.2.2.2.2.2.2, shV t)
def prfA (l : List Int) : List UInt8 := elemS 48 (mapN (t := I64) intR l l.length)
def tksA (l : List Tick) : List UInt8 := if l.length = 0 then [] else elemS 48 (mapN (t := TickT) tickA l l.length)
theorem z4W {t : Ty} {w : t.den → List UInt8} {l : List t.den} (B : Nat) (hx : ∀ x ∈ l, (w x).length ≤ B) (i : Nat) (hi : i ≤ l.length) : (mapN w l i).flatten.length ≤ B * i := j0O B hx hi
theorem z2y {l : List Int} (h : l.length ≤ 32) : (mapN (t := I64) intR l l.length).flatten.length ≤ 448 ∧ (prfA l).length ≤ 453 := by
 have h1 := z4W (t := I64) (w := intR) (l := l) 14 (fun x _ => q1I x) l.length (Nat.le_refl _)
 have h2 : 14 * l.length ≤ 14 * 32 := Nat.mul_le_mul_left _ h
 have := q0k 48 (mapN (t := I64) intR l l.length)
 unfold prfA
 omega
theorem z2D {l : List Tick} (h : l.length ≤ 32) (hv : ∀ t ∈ l, shV t) : (mapN (t := TickT) tickA l l.length).flatten.length ≤ 67200 ∧ (tksA l).length ≤ 67205 := by
 have h1 := z4W (t := TickT) (w := tickA) (l := l) 2100 (fun x hx => j1H (hv x hx)) l.length (Nat.le_refl _)
 have h2 : 2100 * l.length ≤ 2100 * 32 := Nat.mul_le_mul_left _ h
 have := q0k 48 (mapN (t := TickT) tickA l l.length)
 refine ⟨by omega, ?_⟩
 unfold tksA
 split
 · exact Nat.zero_le _
 omega
def bodR (r : Req) : List (List UInt8) := [wrapS 160 0 (bitsS r.2.2.1), wrapS 160 1 (if decide (r.1 = 12) = true then [] else prinS r.2.2.2.1), wrapS 160 2 (prinS r.2.2.2.2.1), wrapS 160 3 (if decide (r.2.2.2.2.2.1 = 0) = true then [] else timR r.2.2.2.2.2.1), wrapS 160 4 (timR r.2.2.2.2.2.2.1), wrapS 160 5 (if decide (r.2.2.2.2.2.2.2.1 = 0) = true then [] else timR r.2.2.2.2.2.2.2.1), wrapS 160 6 (intR r.2.2.2.2.2.2.2.2.1), wrapS 160 7 (prfA r.2.2.2.2.2.2.2.2.2.1), wrapS 160 8 (preR2 r.2.2.2.2.2.2.2.2.2.2.1), wrapS 160 9 (tksA r.2.2.2.2.2.2.2.2.2.2.2)]
def bodA (r : Req) : List UInt8 := elemS 48 (bodR r)
def rqR (r : Req) : List (List UInt8) := [wrapS 160 1 (intS 5), wrapS 160 2 (intR r.1), wrapS 160 3 (preR2 r.2.1), wrapS 160 4 (bodA r)]
def rqA (r : Req) : List UInt8 := elemS (byteOf (96 + r.1)) [elemS 48 (rqR r)]
theorem z5a {r : Req} (h : shQ r) : (bodR r).flatten.length ≤ 300000 := by
 obtain ⟨_, _, _, h4, h5, _, ⟨h7, _⟩, h8, h9, h10⟩ := h
 have g0 := (q8G r.2.2.1).1
 have g1 : (if decide (r.1 = 12) = true then [] else prinS r.2.2.2.1).length ≤ 65400 := by
  split
  · exact Nat.zero_le _
  exact q4L h4
 have g2 := q4L h5
 have g3 : (if decide (r.2.2.2.2.2.1 = 0) = true then [] else timR r.2.2.2.2.2.1).length ≤ 11 := by
  split
  · exact Nat.zero_le _
  exact q4o _
 have g4 := q4o r.2.2.2.2.2.2.1
 have g5 : (if decide (r.2.2.2.2.2.2.2.1 = 0) = true then [] else timR r.2.2.2.2.2.2.2.1).length ≤ 11 := by
  split
  · exact Nat.zero_le _
  exact q4o _
 have g6 := q1I r.2.2.2.2.2.2.2.2.1
 have g7 := (z2y h7).2
 have g8 := q8V h8
 have g9 := (z2D h9 h10).2
 have w0 := q0h 160 0 (bitsS r.2.2.1)
 have w1 := q0h 160 1 (if decide (r.1 = 12) = true then [] else prinS r.2.2.2.1)
 have w2 := q0h 160 2 (prinS r.2.2.2.2.1)
 have w3 := q0h 160 3 (if decide (r.2.2.2.2.2.1 = 0) = true then [] else timR r.2.2.2.2.2.1)
 have w4 := q0h 160 4 (timR r.2.2.2.2.2.2.1)
 have w5 := q0h 160 5 (if decide (r.2.2.2.2.2.2.2.1 = 0) = true then [] else timR r.2.2.2.2.2.2.2.1)
 have w6 := q0h 160 6 (intR r.2.2.2.2.2.2.2.2.1)
 have w7 := q0h 160 7 (prfA r.2.2.2.2.2.2.2.2.2.1)
 have w8 := q0h 160 8 (preR2 r.2.2.2.2.2.2.2.2.2.2.1)
 have w9 := q0h 160 9 (tksA r.2.2.2.2.2.2.2.2.2.2.2)
 unfold bodR
 simp only [List.flatten_cons, List.flatten_nil, List.append_nil, List.length_append]
 omega
theorem z2P {r : Req} (h : shQ r) : (bodA r).length ≤ 300005 := by
 have := z5a h
 have := q0k 48 (bodR r)
 unfold bodA
 omega
theorem j4u {r : Req} (h : shQ r) : (rqR r).flatten.length ≤ 400000 := by
 have g1 := q0O 5
 have g2 := q1I r.1
 have g3 := q8V h.2.1
 have g4 := z2P h
 have w1 := q0h 160 1 (intS 5)
 have w2 := q0h 160 2 (intR r.1)
 have w3 := q0h 160 3 (preR2 r.2.1)
 have w4 := q0h 160 4 (bodA r)
 unfold rqR
 simp only [List.flatten_cons, List.flatten_nil, List.append_nil, List.length_append]
 omega
theorem z6g (b : List UInt8) (hb : b.length ≤ 1048576) : PC Tryz.prog 171 [.isl .u8 b] (.agg (KeyT.cells (keyR b))) := by
 have q0 := q0E b 0
 have q1 := q0E b 1
 have q2 := q0E b 2
 refine q0e rfl rfl ?_
 refine rQ fi171 ?_
 refine q0a (q1O b 0 (by omega) (by omega)) ?_
 refine gQ ?_
 refine q0a (q2C _ (by omega)) ?_
 refine gQ ?_
 refine q0a (q1O b 1 (by omega) (by omega)) ?_
 refine gQ ?_
 refine q0a (q2C _ (by omega)) ?_
 refine gQ ?_
 refine q0a (q1O b 2 (by omega) (by omega)) ?_
 refine gQ ?_
 refine q0a (q8b _ (by omega)) ?_
 refine gQ ?_
 exact ⟨rfl, rfl, rfl⟩
def srN (l : List (List UInt8)) (i : Nat) : List ByteArray := (l.take i).map sR
theorem z9C {l : List (List UInt8)} {i : Nat} (h : i < l.length) : srN l (i + 1) = srN l i ++ [sR (l.getD i (Ty.slice .u8).dflt)] := by unfold srN; rw [q0r (d := (Ty.slice .u8).dflt) h]; simp
theorem j1P {l : List (List UInt8)} {i : Nat} (h : i ≤ l.length) : (srN l i).length = i := by simp [srN]; omega
theorem z5s (x : List UInt8) : (sR x).size ≤ x.length := by
 have := q1d x
 unfold sR
 show (conR x).toArray.size ≤ _
 simpa using this
theorem q5i (b : List UInt8) (hb : b.length ≤ 1048576) : PC Tryz.prog 39 [.isl .u8 b] (.agg (PrinT.cells (prnR b))) := by
 have q0 := q0E b 0
 have q1 := q0E b 1
 have hc := q1l (itmR b 0) (by omega)
 have hl := q1d (itmR b 0)
 have he := q3g (conR (itmR b 0)) (by omega)
 have hm := q2X (conR (itmR b 0)).length (conR (itmR b 0))
 have hle := q3p (conR (itmR b 0)).length (conR (itmR b 0))
 have hd : prnR b = ((elsR (conR (itmR b 0)).length (conR (itmR b 0))).map sR, sR (itmR b 1)) := rfl
 rw [hd]
 clear hd
 generalize elsR (conR (itmR b 0)).length (conR (itmR b 0)) = l at *
 refine q0e rfl rfl ?_
 refine rQ fi39 ?_
 refine q0a (q1O b 0 (by omega) (by omega)) ?_
 refine gQ ?_
 refine q0a hc ?_
 refine gQ ?_
 refine q0a he ?_
 refine gQ ?_
 refine q2n 1 0 .str rfl rfl rfl ?_
 with_reducible refine sxE ?_
 refine q1c (ι := Nat × List SObj) (fun s => [(5, rI s.1)]) (fun s => [.cells 28 [.raw (.slice none 0 0), rS ⟨#[]⟩], .cells 28 [.bld (s.2.length + 2) .str (srN l s.1).length, rS ⟨#[]⟩]] ++ s.2 ++ [.row .str (srN l s.1)]) (fun s => l.length - s.1) (fun s => s.1 ≤ l.length) (0, []) (Nat.zero_le _) rfl ?_ ?_
 · with_reducible refine sxE ?_; trivial
 rintro ⟨i, G⟩ hi
 dsimp only at hi
 have hwr := wsx i (by omega)
 have hln := j1P hi
 refine uQ 12 _ ?_
 with_reducible refine sxaE ?_
 refine ⟨fun hlt => ?_, fun hge => ?_⟩
 · have hmm := hm _ (q0K (d := (Ty.slice .u8).dflt) hlt)
   have hst := z9C hlt
   have hsz := z5s (l.getD i (Ty.slice .u8).dflt)
   refine q1w [1] mixed ?_
   refine aQ ?_
   refine ⟨⟨by omega, hlt⟩, q0b (q1l _ (by omega)) ?_⟩
   refine aQ ?_


   refine ⟨by show (sR _).size ≤ _; omega, ⟨by omega, by omega⟩, (i + 1, G ++ [.dead, .row .str [sR (l.getD i (Ty.slice .u8).dflt)]]), by dsimp only; omega, by dsimp only; omega, ?_, ?_⟩
   · simp [hst]
     rfl
   simp (maxSteps := 3000000) only [hwr, List.append_assoc, getA, getA0, setA, setA0, List.length_append, Nat.add_assoc, go_sem, ↓zA, ↓reduceIte, ↓reduceDIte] <;> try simp only [zB]
 obtain rfl : i = l.length := by omega
 refine aQ ?_
 refine q0a (q1O b 1 (by omega) (by omega)) ?_
 refine aQ ?_
 refine q0a (q1l _ (by omega)) ?_
 refine aQ ?_
 exact ⟨⟨Nat.le_refl _, by omega⟩, by rw [List.take_length]; unfold srN; rw [List.take_length], rfl⟩
theorem z7c (x : List UInt8) : (eltR x).length ≤ x.length := Nat.le_trans (q3p _ _) (q1d x)
theorem z2p {x y : List UInt8} (h : y ∈ eltR x) : y.length ≤ x.length := Nat.le_trans (q2X _ _ y h).2 (q1d x)
theorem q8N {t : Ty} {f : List UInt8 → t.den} {x : List UInt8} (hx : x.length ≤ 1048576) (h : ∀ y, y.length ≤ 1048576 → t.ok (f y)) : (Ty.slice t).ok ((eltR x).map f) := by
 refine ⟨by rw [List.length_map]; have := z7c x; omega, fun z hz => ?_⟩
 obtain ⟨y, hy, rfl⟩ := List.mem_map.1 hz
 exact h y (Nat.le_trans (z2p hy) hx)
theorem z6X {y : List UInt8} (h : y.length ≤ 1048576) : (Ty.str).ok (sR y) := by
 have := z5s y
 show (sR y).size ≤ _
 omega
theorem z5F {y : List UInt8} (h : y.length ≤ 1048576) : (Ty.slice .u8).ok (conR y) := ⟨by have := q1d y; show (conR y).length ≤ _; omega, fun _ _ => trivial⟩
theorem q2u {y : List UInt8} (n : Nat) (h : y.length ≤ 1048576) : (itmR y n).length ≤ 1048576 := Nat.le_trans (q0E y n) h
theorem z2i {y : List UInt8} (h : y.length ≤ 1048576) : PrinT.ok (prnR y) := ⟨q8N (t := .str) (q2u 0 h) fun _ hz => z6X hz, z6X (q2u 1 h)⟩
theorem j1k {y : List UInt8} (h : y.length ≤ 1048576) : KeyT.ok (keyR y) := ⟨trivial, trivial, z5F (q2u 2 h)⟩
def szQ (r : Req) : Prop := (∀ d ∈ r.2.1, d.2.length ≤ 1500) ∧ ∀ t ∈ r.2.2.2.2.2.2.2.2.2.2.2, t.2.2.2.length ≤ 1500
theorem j3M {r : Req} (h : sRq r = true) (ho : optOk r) (hz : szQ r) : shQ r := by
 obtain ⟨k, pre, o, c, s, f, t, w, n, pf, ad, tk⟩ := r
 obtain ⟨hz1, hz2⟩ := hz
 dsimp only at hz1 hz2
 obtain ⟨fk, fpr, _, fc, fs, _, _, _, fn, fp, fa, ft⟩ := q2v h
 obtain ⟨m, hkm, hm⟩ := q7s fk
 obtain ⟨hp1, hp2⟩ := q7z fp
 obtain ⟨ht1, ht2⟩ := z2K ft
 obtain ⟨ha1, ha2⟩ := z1e fa
 have hi : inI k := by
  rw [hkm]
  rcases hm with rfl | rfl <;> exact ⟨by decide, by decide⟩
 have hn : inI n := ⟨Int.le_trans (by decide) fn.1, Int.le_trans fn.2 (by decide)⟩
 have hc : shP c := by
  split at fc
  · exact j0a fc
  rw [j1M fc]; exact j4T
 refine ⟨hi, ⟨z9X fpr, hz1⟩, ho, hc, j0a fs, hn, ⟨Nat.le_trans hp1.2 (by decide), fun v hv => ⟨Int.le_trans (by decide) (hp2 v hv).1, Int.le_trans (hp2 v hv).2 (by decide)⟩⟩, ⟨z9X (q4V fa), fun d hd => Nat.le_trans (j0r (ha2 d hd)).2 (by decide)⟩, Nat.le_trans ht1 (by decide), fun x hx => ?_⟩
 have hv := ht2 x hx
 have hl := hz2 x hx
 obtain ⟨p, y⟩ := x
 simp only [vTick, Bool.and_eq_true] at hv
 exact ⟨j4j hv.1, j3Z (q6e hv.2), hl⟩
theorem z6l {t : Ty} {w u : t.den → List UInt8} {l : List t.den} (h : ∀ x ∈ l, w x = u x) (i : Nat) : mapN w l i = mapN u l i := List.map_congr_left fun x hx => h x (List.mem_of_mem_take hx)
theorem j0j {t : Int} (h : 0 ≤ t ∧ t ≤ 1099511627776) : (if decide (t = 0) = true then [] else timR t) = timO t := by
 unfold timO
 rw [z6O h]
 by_cases h0 : t = 0 <;> simp [h0]
theorem z5R {r : Req} (h : sRq r = true) : bodA r = bodW r := by
 obtain ⟨k, pre, o, c, s, f, t, w, n, pf, ad, tk⟩ := r
 obtain ⟨fk, _, _, fc, fs, ff, ft, fw, fn, fp, fa, fk9⟩ := q2v h
 rw [z5p k pre o c s f t w n pf ad tk fa]
 have e1 : (if decide (k = 12) = true then [] else prinS c) = cliO k c := by
  unfold cliO
  simp only [vKind, Bool.or_eq_true, decide_eq_true_eq] at fk
  rcases fk with rfl | rfl
  · rfl
  rw [if_pos rfl] at fc
  rw [if_neg (by decide), if_pos rfl, q9m fc]
 have e7 : prfA pf = elemS 48 (mapN (t := I64) intS pf pf.length) := by
  unfold prfA
  rw [z6l (t := I64) (fun x hx => q4B ⟨((q7z fp).2 x hx).1, Int.le_trans ((q7z fp).2 x hx).2 (by decide)⟩)]
 have e9 : tksA tk = listS (t := TickT) tickE tk := by
  unfold tksA listS
  rw [z6l (t := TickT) (fun x hx => z8o ((z2K fk9).2 x hx))]
 unfold bodA bodR tagS
 dsimp only
 rw [e1, j0j ff, j0j fw, z6O ft, e7, e9, q9m fs, z2I (q4V fa), q4B ⟨fn.1, Int.le_trans fn.2 (by decide)⟩]
 rfl
theorem j1B {t n : Int} {b : List UInt8} (h : wrapS t n b ≠ []) : wrapS t n b = elemS (byteOf (t + n)) [b] := by
 unfold wrapS at h ⊢
 split
 · rfl
 rename_i hc
 rw [if_neg hc] at h
 exact absurd rfl h
theorem z6e {r : Req} (h : sRq r = true) (ho : optOk r) : rqA r = rqS r := by
 have hb := z5R h
 have hE := z9Z r
 obtain ⟨k, pre, o, c, s, f, t, w, n, pf, ad, tk⟩ := r
 obtain ⟨fk, fp, _⟩ := q2v h
 obtain ⟨m, hkm, hm⟩ := q7s fk
 have hne : rqS (k, pre, o, c, s, f, t, w, n, pf, ad, tk) ≠ [] := by rw [(j1F m hm k hkm pre o c s f t w n pf ad tk ho h).1]; exact q1k
 rw [hE] at hne ⊢
 unfold rqA rqR
 dsimp only at hb hne ⊢
 rw [hb, z2I fp, q4B (v := k) (by omega)]
 exact (j1B hne).symm
def rqG (b : List UInt8) : Req := ((gIntR (itmR (conR b) 2) : Int), preG (itmR (conR b) 3), (gBitsR (itmR (itmR (conR b) 4) 0) : Int), prnR (itmR (itmR (conR b) 4) 1), prnR (itmR (itmR (conR b) 4) 2), (gIntR (itmR (itmR (conR b) 4) 3) : Int), (gIntR (itmR (itmR (conR b) 4) 4) : Int), (gIntR (itmR (itmR (conR b) 4) 5) : Int), (gIntR (itmR (itmR (conR b) 4) 6) : Int), (eltR (itmR (itmR (conR b) 4) 7)).map (fun x => (gIntR x : Int)), preG (itmR (itmR (conR b) 4) 8), (eltR (itmR (itmR (conR b) 4) 9)).map tickG)
theorem z9R {k : Int} {c : Prin} (hc : (if k = 10 then vPrin c else noN c) = true) : prnR (cliO k c) = c := by
 unfold cliO
 split at hc
 · rename_i h; rw [if_pos h]; exact (q9h hc).1
 rename_i h; rw [if_neg h, j1M hc]; decide
theorem j4l {v : Int} (h : 0 ≤ v ∧ v ≤ 4611686018427387904) : isEl (intS v) := by
 obtain ⟨c1, e1, _⟩ := q4x h
 have := q0O v
 exact ⟨_, _, e1, by rw [e1, q0y] at this; omega⟩
theorem z8O {l : List Int} (h : vProf l = true) : (eltR (elemS 48 (mapN (t := I64) intS l l.length))).map (fun x => (gIntR x : Int)) = l := by
 obtain ⟨h1, hv⟩ := q7z h
 have hz : ∀ v ∈ l, 0 ≤ v ∧ v ≤ 4611686018427387904 := fun v hm => ⟨(hv v hm).1, Int.le_trans (hv v hm).2 (by decide)⟩
 have hf := q2F intS 14 l fun x _ => q0O x
 have e : elemS 48 (mapN (t := I64) intS l l.length) = listS (t := I64) intS l := by unfold listS; rw [if_neg (by omega)]
 rw [e, q9X (t := I64) (fun x hx => j4l (hz x hx)) (by show (List.map intS l).flatten.length ≤ _; omega)]
 exact q6k fun v hv' => q5r ⟨(hv v hv').1, by have := (hv v hv').2; omega⟩
theorem z8t {l : List Tick} (h : vTks l = true) : (eltR (listS (t := TickT) tickE l)).map tickG = l := by
 obtain ⟨h16, hv⟩ := z2K h
 have hB : ∀ x ∈ l, (tickE x).length ≤ 66100 := fun x hx => by
  rw [q4k (hv x hx)]
  exact q8K (hv x hx)
 have hf := q2F tickE 66100 l hB
 rw [q9X (t := TickT) (fun x hx => by
  rw [q4k (hv x hx)]
  have hl := q8K (hv x hx)
  rw [(q7j (hv x hx)).1] at hl ⊢
  exact ⟨_, _, rfl, by rw [q0y] at hl; omega⟩) (by omega)]
 exact q6k fun t ht => by rw [q4k (hv t ht)]; exact z6H (hv t ht)
theorem z7R {r : Req} (h : sRq r = true) (ho : optOk r) : rqG (rqS r) = r := by
 obtain ⟨k, pre, o, c, s, f, t, w, n, pf, ad, tk⟩ := r
 change Int at k o f t w n
 have hf := q2v h
 obtain ⟨m, hkm, hm⟩ := q7s hf.1
 obtain ⟨bS, bL, bl, _⟩ := j0l k pre o c s f t w n pf ad tk ho h
 obtain ⟨rS, rL, rl, _⟩ := j1F m hm k hkm pre o c s f t w n pf ad tk ho h
 obtain ⟨fk, fpr, _, fc, fs, ff, ft, fw, fn, fp, fa, fk9⟩ := hf
 have ho' : (0 : Int) ≤ o ∧ o ≤ 4294967295 := ho
 have hl48 : (tlv 48 (sufS (reqL (k, pre, o, c, s, f, t, w, n, pf, ad, tk)) 0 5)).length ≤ 16777215 := by
  rw [q0y]; have := q1M (sufS (reqL (k, pre, o, c, s, f, t, w, n, pf, ad, tk)) 0 5).length; omega
 have rl' : (sufS (reqL (k, pre, o, c, s, f, t, w, n, pf, ad, tk)) 0 5).length ≤ 16777215 := by omega
 have bl' : (sufS (bodL (k, pre, o, c, s, f, t, w, n, pf, ad, tk)) 0 10).length ≤ 16777215 := by omega
 have e4 : itmR (conR (rqS (k, pre, o, c, s, f, t, w, n, pf, ad, tk))) 4 = tlv 48 (sufS (bodL (k, pre, o, c, s, f, t, w, n, pf, ad, tk)) 0 10) := by
  rw [rS, conR_tlv' _ _ hl48, q1q (m := 4) (k := 5) rL (by omega) (by omega) rl']
  exact bS
 have e2 : itmR (conR (rqS (k, pre, o, c, s, f, t, w, n, pf, ad, tk))) 2 = intS k := by
  rw [rS, conR_tlv' _ _ hl48, q1q (m := 2) (k := 5) rL (by omega) (by omega) rl']
  rfl
 have e3 : itmR (conR (rqS (k, pre, o, c, s, f, t, w, n, pf, ad, tk))) 3 = preO pre := by
  rw [rS, conR_tlv' _ _ hl48, q1q (m := 3) (k := 5) rL (by omega) (by omega) rl']
  rfl
 unfold rqG
 rw [e2, e3, e4]
 clear e2 e3 e4
 rw [q1q (m := 0) (k := 10) bL (by omega) (by omega) bl', q1q (m := 1) (k := 10) bL (by omega) (by omega) bl', q1q (m := 2) (k := 10) bL (by omega) (by omega) bl', q1q (m := 3) (k := 10) bL (by omega) (by omega) bl', q1q (m := 4) (k := 10) bL (by omega) (by omega) bl', q1q (m := 5) (k := 10) bL (by omega) (by omega) bl', q1q (m := 6) (k := 10) bL (by omega) (by omega) bl', q1q (m := 7) (k := 10) bL (by omega) (by omega) bl', q1q (m := 8) (k := 10) bL (by omega) (by omega) bl', q1q (m := 9) (k := 10) bL (by omega) (by omega) bl']
 show (((gIntR (intS k) : Nat) : Int), preG (preO pre), ((gBitsR (bitsS o) : Nat) : Int), prnR (cliO k c), prnR (prinE s), ((gIntR (timO f) : Nat) : Int), ((gIntR (timeS t) : Nat) : Int), ((gIntR (timO w) : Nat) : Int), ((gIntR (intS n) : Nat) : Int), (eltR (elemS 48 (mapN (t := I64) intS pf pf.length))).map (fun x => (gIntR x : Int)), preG (preO ad), (eltR (listS (t := TickT) tickE tk)).map tickG) = _
 obtain ⟨o, rfl⟩ : ∃ m : Nat, o = m := ⟨o.toNat, by omega⟩
 obtain ⟨f, rfl, gf⟩ := q7W ff
 obtain ⟨t, rfl, gt⟩ := q7W ft
 obtain ⟨w, rfl, gw⟩ := q7W fw
 rw [q5r (v := k) (by omega), z3d fpr, z9q (by omega), z9R fc, (q9h fs).1, z3P gf, z3C gt, z3P gw, q5r (v := n) (by omega), z8O fp, z3d (q4V fa), z8t fk9]
theorem z4I (b : List UInt8) : optOk (rqG b) := by
 have := z0L (itmR (itmR (conR b) 4) 0)
 exact ⟨Int.natCast_nonneg _, by show ((gBitsR (itmR (itmR (conR b) 4) 0) : Nat) : Int) ≤ 4294967295; omega⟩
theorem j3H {x : List UInt8} {n : Nat} (h : x.length ≤ n) : ∀ d ∈ preG x, d.2.length ≤ n := fun d hd => by
 unfold preG at hd
 rw [List.mem_map] at hd
 obtain ⟨y, hy, rfl⟩ := hd
 have h1 := z2p hy
 have h2 := q0E y 1
 have h3 := q1d (itmR y 1)
 show (conR (itmR y 1)).length ≤ n
 omega
theorem j4s {b : List UInt8} (h : b.length ≤ 1500) : szQ (rqG b) := by
 have h0 := q1d b
 have h3 := q0E (conR b) 3
 have h4 := q0E (conR b) 4
 have h9 := q0E (itmR (conR b) 4) 9
 refine ⟨j3H (by omega), fun t ht => ?_⟩
 replace ht : t ∈ (eltR (itmR (itmR (conR b) 4) 9)).map tickG := ht
 rw [List.mem_map] at ht
 obtain ⟨y, hy, rfl⟩ := ht
 have g1 := z2p hy
 have g2 := q1d y
 have g3 := q0E (conR y) 2
 have g4 := q0E (itmR (conR y) 2) 2
 have g5 := q1d (itmR (itmR (conR y) 2) 2)
 show (conR (itmR (itmR (conR y) 2) 2)).length ≤ 1500
 omega
theorem u32w (x : Int) : IntKind.u32.wrap x = x % 4294967296 := by simp [IntKind.wrap, IntKind.bits, IntKind.signed]
theorem j2l {o : Int} (h : vOpt o = true) : (0 : Int) ≤ o ∧ o ≤ (4294967295 : Int) := by
 unfold vOpt at h
 rw [decide_eq_true_eq] at h
 unfold andU at h
 rw [u32w] at h
 omega
theorem j1Y {r : Req} (h : sRq r = true) : optOk r := by
 obtain ⟨k, pre, o, c, s, f, t, w, n, pf, ad, tk⟩ := r
 exact j2l (q2v h).2.2.1
theorem z3W (b : List UInt8) : (if vRq (rqG b) = true ∧ rqS (rqG b) = b then some (rqG b) else none) = decReq b := by
 split
 · rename_i h
   exact (z6M (z4I b) h.1 h.2).symm
 rename_i h
 cases hd : decReq b with
 | none => rfl
 | some r =>
  exfalso
  obtain ⟨h1, h2⟩ := z1U hd
  have h3 : sRq r = true := by unfold vRq at h1; rw [Bool.and_eq_true] at h1; exact h1.1
  have h4 : rqG b = r := by rw [← h2]; exact z7R h3 (j1Y h3)
  rw [h4] at h
  exact h ⟨h1, h2⟩
theorem j3Y {n s : Nat} : (n ||| s = s) ↔ (s &&& n = n) := by
 constructor
 · intro h
   apply Nat.eq_of_testBit_eq
   intro i
   have := congrArg (fun x => x.testBit i) h
   simp only [Nat.testBit_or, Nat.testBit_and] at this ⊢
   cases h1 : n.testBit i <;> cases h2 : s.testBit i <;> simp_all
 intro h
 apply Nat.eq_of_testBit_eq
 intro i
 have := congrArg (fun x => x.testBit i) h
 simp only [Nat.testBit_or, Nat.testBit_and] at this ⊢
 cases h1 : n.testBit i <;> cases h2 : s.testBit i <;> simp_all
theorem orOpt {o : Int} (h : 0 ≤ o ∧ o ≤ 4294967295) : decide (IntKind.i64.wrap ((BitVec.ofInt 64 o ||| BitVec.ofInt 64 2031807).toNat : Nat) = 2031807) = vOpt o := by
 obtain ⟨n, rfl⟩ : ∃ n : Nat, o = n := ⟨o.toNat, by omega⟩
 have hn : n < 4294967296 := by omega
 have e1 : (BitVec.ofInt 64 (n : Int) ||| BitVec.ofInt 64 2031807).toNat = n ||| 2031807 := by
  rw [BitVec.toNat_or]
  have a : (BitVec.ofInt 64 (n : Int)).toNat = n := by rw [BitVec.toNat_ofInt]; omega
  have b : (BitVec.ofInt 64 2031807).toNat = 2031807 := by decide
  rw [a, b]
 have e2 : (BitVec.ofInt 32 2031807 &&& BitVec.ofInt 32 (n : Int)).toNat = 2031807 &&& n := by
  rw [BitVec.toNat_and]
  have a : (BitVec.ofInt 32 (n : Int)).toNat = n := by rw [BitVec.toNat_ofInt]; omega
  have b : (BitVec.ofInt 32 2031807).toNat = 2031807 := by decide
  rw [a, b]
 have l1 : n ||| 2031807 < 2 ^ 32 := Nat.or_lt_two_pow hn (by decide)
 have l2 : 2031807 &&& n < 2 ^ 32 := Nat.and_lt_two_pow _ hn
 have := @j3Y n 2031807
 unfold vOpt andU
 rw [e1, e2]
 generalize n ||| 2031807 = x at *
 generalize 2031807 &&& n = y at *
 rw [wrapi (by omega), u32w, decide_eq_decide]
 omega
end Go.Proofs.YtkbbkhmffmfliaaGreatDoor
