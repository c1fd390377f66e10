/- The plain law of reading: parsers over bytes, and what they make of encodings. -/
import Derived.Test.YthmoognbccfpiaaGreatDoorP18
import Derived.Test.YthmoognbccfpiaaGreatDoorP16
import Derived.Test.YthmoognbccfpiaaGreatDoorP17
import Derived.Test.YthmoognbccfpiaaGreatDoorP10
set_option linter.unusedSimpArgs false
set_option linter.unusedVariables false
set_option linter.unusedSectionVars false
namespace Go.Proofs.YthmoognbccfpiaaGreatDoor
open Go Go.Sx Go.Proofs
set_option maxRecDepth 100000
set_option maxHeartbeats 4000000
set_option linter.unusedSimpArgs false

theorem byteOf_nat (n : Nat) : (byteOf (n : Int)).toNat = n % 256 := by
 have h := byte_ob (n : Int)
 have : IntKind.u8.wrap (n : Int) = ((n % 256 : Nat) : Int) := by simp [IntKind.wrap, IntKind.bits, IntKind.signed]
 rw [this] at h
 unfold byteOf
 rw [this]
 exact_mod_cast h
theorem beN1 (a : UInt8) : beN [a] = a.toNat := by simp [beN]
theorem beN2 (a b : UInt8) : beN [a, b] = a.toNat * 256 + b.toNat := by simp [beN]
theorem beN3 (a b c : UInt8) : beN [a, b, c] = (a.toNat * 256 + b.toNat) * 256 + c.toNat := by simp [beN]
theorem fdiv_nat (n k : Nat) : (n : Int).fdiv (k : Int) = ((n / k : Nat) : Int) := by rw [Int.fdiv_eq_ediv_of_nonneg _ (by omega)]; rfl
theorem meas_tlv (t : UInt8) (c r : List UInt8) (h : c.length ≤ 16777215) : meas (tlv t c ++ r) = (1 + (lenS c.length).length, 1 + (lenS c.length).length + c.length, 0) := by
 have e1 : ((c.length : Nat) : Int).fdiv 256 = ((c.length / 256 : Nat) : Int) := fdiv_nat _ 256
 have e2 : ((c.length : Nat) : Int).fdiv 65536 = ((c.length / 65536 : Nat) : Int) := fdiv_nat _ 65536
 unfold tlv
 rcases Nat.lt_or_ge c.length 128 with h1 | h1
 · have hL : lenS c.length = [byteOf c.length] := by unfold lenS; rw [if_pos h1]
   have hb : (byteOf (c.length : Int)).toNat = c.length := by rw [byteOf_nat]; omega
   rw [hL]
   unfold meas measE
   simp only [List.cons_append, List.nil_append, List.length_cons, List.length_append, List.getD_cons_succ, List.getD_cons_zero, hb, List.length_nil]
   rw [if_neg (by omega), if_pos h1, if_neg (by omega)]
 rcases Nat.lt_or_ge c.length 256 with h2 | h2
 · have hL : lenS c.length = [129, byteOf c.length] := by unfold lenS; rw [if_neg (by omega), if_pos h2]
   have hb : (byteOf (c.length : Int)).toNat = c.length := by rw [byteOf_nat]; omega
   have h129 : (129 : UInt8).toNat = 129 := rfl
   rw [hL]
   unfold meas measE
   simp only [List.cons_append, List.nil_append, List.length_cons, List.length_append, List.getD_cons_succ, List.getD_cons_zero, h129, List.length_nil, List.drop_succ_cons, List.drop_zero, Nat.reduceSub, List.take_succ_cons, List.take_zero, beN1, hb, minLen]
   rw [if_neg (by omega), if_neg (by omega), if_neg (by omega), if_neg (by omega), if_neg (by omega), if_neg (by omega)]
 rcases Nat.lt_or_ge c.length 65536 with h3 | h3
 · have hL : lenS c.length = [130, byteOf ((c.length : Int).fdiv 256), byteOf c.length] := by unfold lenS; rw [if_neg (by omega), if_neg (by omega), if_pos h3]
   have hb : (byteOf (c.length : Int)).toNat = c.length % 256 := byteOf_nat _
   have hb2 : (byteOf ((c.length : Int).fdiv 256)).toNat = c.length / 256 := by rw [e1, byteOf_nat]; omega
   have h130 : (130 : UInt8).toNat = 130 := rfl
   have hv : c.length / 256 * 256 + c.length % 256 = c.length := by omega
   rw [hL]
   unfold meas measE
   simp only [List.cons_append, List.nil_append, List.length_cons, List.length_append, List.getD_cons_succ, List.getD_cons_zero, h130, List.length_nil, List.drop_succ_cons, List.drop_zero, Nat.reduceSub, List.take_succ_cons, List.take_zero, beN2, hb, hb2, hv, minLen]
   rw [if_neg (by omega), if_neg (by omega), if_neg (by omega), if_neg (by omega), if_neg (by omega), if_neg (by omega)]
 · have hL : lenS c.length = [131, byteOf ((c.length : Int).fdiv 65536), byteOf ((c.length : Int).fdiv 256), byteOf c.length] := by unfold lenS; rw [if_neg (by omega), if_neg (by omega), if_neg (by omega)]
   have hb : (byteOf (c.length : Int)).toNat = c.length % 256 := byteOf_nat _
   have hb2 : (byteOf ((c.length : Int).fdiv 256)).toNat = c.length / 256 % 256 := by rw [e1, byteOf_nat]
   have hb3 : (byteOf ((c.length : Int).fdiv 65536)).toNat = c.length / 65536 := by rw [e2, byteOf_nat]; omega
   have h131 : (131 : UInt8).toNat = 131 := rfl
   have hv : (c.length / 65536 * 256 + c.length / 256 % 256) * 256 + c.length % 256 = c.length := by omega
   rw [hL]
   unfold meas measE
   simp only [List.cons_append, List.nil_append, List.length_cons, List.length_append, List.getD_cons_succ, List.getD_cons_zero, h131, List.length_nil, List.drop_succ_cons, List.drop_zero, Nat.reduceSub, List.take_succ_cons, List.take_zero, beN3, hb, hb2, hb3, hv, minLen]
   rw [if_neg (by omega), if_neg (by omega), if_neg (by omega), if_neg (by omega), if_neg (by omega), if_neg (by omega)]

def takeE (tag : UInt8) (r : List UInt8) : Nat := if r.length = 0 then 4 else if r.getD 0 0 ≠ tag then 6 else (meas r).2.2
def takeC (r : List UInt8) : List UInt8 := (r.take (meas r).2.1).drop (meas r).1
def takeN (r : List UInt8) : Nat := (meas r).2.1
theorem tlv_length (t : UInt8) (c : List UInt8) : (tlv t c).length = 1 + (lenS c.length).length + c.length := by simp [tlv]; omega
theorem takeE_tlv (t : UInt8) (c r : List UInt8) (h : c.length ≤ 16777215) : takeE t (tlv t c ++ r) = 0 := by
 unfold takeE
 rw [meas_tlv t c r h, if_neg (by simp [tlv]), if_neg (by simp [tlv])]
theorem takeC_tlv (t : UInt8) (c r : List UInt8) (h : c.length ≤ 16777215) : takeC (tlv t c ++ r) = c := by
 unfold takeC
 rw [meas_tlv t c r h, List.take_append_of_le_length (by rw [tlv_length]; exact Nat.le_refl _), List.take_of_length_le (by rw [tlv_length]; exact Nat.le_refl _)]
 have : tlv t c = (t :: lenS c.length) ++ c := rfl
 rw [this, List.drop_append_of_le_length (by simp; omega), List.drop_of_length_le (by simp; omega), List.nil_append]
theorem takeN_tlv (t : UInt8) (c r : List UInt8) (h : c.length ≤ 16777215) : takeN (tlv t c ++ r) = (tlv t c).length := by
 unfold takeN
 rw [meas_tlv t c r h, tlv_length]
theorem meas_ok {r : List UInt8} (h : (meas r).2.2 = 0) : 2 ≤ (meas r).1 ∧ (meas r).1 ≤ (meas r).2.1 ∧ (meas r).2.1 ≤ r.length := by
 have key : ∀ a n, (measE r a n).2.2 = 0 → 2 ≤ a → a ≤ r.length → 2 ≤ (measE r a n).1 ∧ (measE r a n).1 ≤ (measE r a n).2.1 ∧ (measE r a n).2.1 ≤ r.length := by
  intro a n h1 h2 h3
  unfold measE at h1 ⊢
  split at h1
  · cases h1
  · rename_i hh; rw [if_neg hh]; simp only; omega
 unfold meas at h ⊢
 repeat' split at h
 all_goals first | (cases h; done) | skip
 · rename_i g1 g2; rw [if_neg g1, if_pos g2]; exact key _ _ h (by omega) (by omega)
 · rename_i g1 g2 g3 g4 g5; rw [if_neg g1, if_neg g2, if_neg g3, if_neg g4, if_neg g5]; exact key _ _ h (by omega) (by omega)
theorem takeE_ok {t : UInt8} {r : List UInt8} (h : takeE t r = 0) : (meas r).2.2 = 0 := by
 unfold takeE at h
 split at h
 · cases h
 · split at h
   · cases h
   · exact h
theorem takeN_le {t : UInt8} {r : List UInt8} (h : takeE t r = 0) : takeN r ≤ r.length := (meas_ok (takeE_ok h)).2.2
theorem takeN_pos {t : UInt8} {r : List UInt8} (h : takeE t r = 0) : 2 ≤ takeN r := by have := meas_ok (takeE_ok h); unfold takeN; omega
theorem takeC_len (r : List UInt8) : (takeC r).length ≤ r.length := by unfold takeC; rw [List.length_drop, List.length_take]; omega

abbrev PR (α : Type) := List UInt8 → Except Nat (α × Nat)
def rdP {α : Type} (tag : UInt8) (dec : List UInt8 → Option α) : PR α := fun r =>
 if takeE tag r = 0 then match dec (takeC r) with
  | some v => .ok (v, takeN r)
  | none => .error 6
 else .error (takeE tag r)
def allP {α : Type} (p : PR α) (c : List UInt8) : Except Nat α := match p c with
 | .error e => .error e
 | .ok (v, m) => if m < c.length then .error 6 else .ok v
def inP {α : Type} (tag : UInt8) (p : PR α) : PR α := fun r =>
 if takeE tag r = 0 then match allP p (takeC r) with
  | .ok v => .ok (v, takeN r)
  | .error e => .error e
 else .error (takeE tag r)
def tagB (n : Nat) : UInt8 := byteOf (160 + n)
def nextB (n : Nat) (r : List UInt8) : Bool := decide (r.length ≠ 0) && decide (r.getD 0 0 = tagB n)
def mayP {α : Type} (n : Nat) (p : PR α) : PR (Option α) := fun r =>
 if nextB n r then match inP (tagB n) p r with
  | .ok (v, k) => .ok (some v, k)
  | .error e => .error e
 else .ok (none, 0)
def needP {α : Type} (n : Nat) (p : PR α) : PR α := fun r =>
 if nextB n r then inP (tagB n) p r else .error (if r.length = 0 then 4 else 6)
def dfltP {α : Type} (d : α) (n : Nat) (p : PR α) : PR α := fun r => match mayP n p r with
 | .ok (some v, k) => .ok (v, k)
 | .ok (none, k) => .ok (d, k)
 | .error e => .error e
def bindP {α β : Type} (p : PR α) (f : α → PR β) : PR β := fun r => match p r with
 | .error e => .error e
 | .ok (v, k) => match f v (r.drop k) with
  | .error e => .error e
  | .ok (u, m) => .ok (u, k + m)
def retP {α : Type} (v : α) : PR α := fun _ => .ok (v, 0)
def listP {α : Type} (p : PR α) : Nat → PR (List α)
 | 0, r => if r.length = 0 then .ok ([], 0) else .error 6
 | n + 1, r => if r.length = 0 then .ok ([], 0) else match p r with
  | .error e => .error e
  | .ok (v, k) => match listP p n (r.drop k) with
   | .error e => .error e
   | .ok (l, m) => .ok (v :: l, k + m)

theorem rdP_tlv {α : Type} {t : UInt8} {dec : List UInt8 → Option α} {c : List UInt8} {v : α} (h : c.length ≤ 16777215) (hd : dec c = some v) (r : List UInt8) : rdP t dec (tlv t c ++ r) = .ok (v, (tlv t c).length) := by
 unfold rdP
 rw [takeE_tlv t c r h, takeC_tlv t c r h, takeN_tlv t c r h, hd]; rfl
theorem inP_tlv {α : Type} {t : UInt8} {p : PR α} {c : List UInt8} {v : α} (h : c.length ≤ 16777215) (hp : p c = .ok (v, c.length)) (r : List UInt8) : inP t p (tlv t c ++ r) = .ok (v, (tlv t c).length) := by
 unfold inP allP
 rw [takeE_tlv t c r h, takeC_tlv t c r h, takeN_tlv t c r h, hp]
 simp
theorem nextB_tlv (n : Nat) (c r : List UInt8) : nextB n (tlv (tagB n) c ++ r) = true := by simp [nextB, tlv]
theorem needP_tlv {α : Type} {n : Nat} {p : PR α} {c : List UInt8} {v : α} (h : c.length ≤ 16777215) (hp : p c = .ok (v, c.length)) (r : List UInt8) : needP n p (tlv (tagB n) c ++ r) = .ok (v, (tlv (tagB n) c).length) := by
 unfold needP
 rw [if_pos (nextB_tlv n c r), inP_tlv h hp]
theorem dfltP_tlv {α : Type} {d : α} {n : Nat} {p : PR α} {c : List UInt8} {v : α} (h : c.length ≤ 16777215) (hp : p c = .ok (v, c.length)) (r : List UInt8) : dfltP d n p (tlv (tagB n) c ++ r) = .ok (v, (tlv (tagB n) c).length) := by
 unfold dfltP mayP
 rw [if_pos (nextB_tlv n c r), inP_tlv h hp]
theorem dfltP_none {α : Type} {d : α} {n : Nat} {p : PR α} {r : List UInt8} (h : nextB n r = false) : dfltP d n p r = .ok (d, 0) := by
 unfold dfltP mayP
 rw [h]; rfl
theorem elemS_ok {t : UInt8} {c : List UInt8} (h : c.length ≤ 16777215) : elemS t [c] = tlv t c := by
 unfold elemS; simp only [List.flatten_cons, List.flatten_nil, List.append_nil]; rw [if_pos h]
theorem elemS_flat {t : UInt8} {l : List (List UInt8)} (h : l.flatten.length ≤ 16777215) : elemS t l = tlv t l.flatten := by unfold elemS; rw [if_pos h]
theorem tagB_nat (n : Nat) (h : n ≤ 30) : (tagB n).toNat = 160 + n := by
 unfold tagB
 have : (160 + (n : Int)) = ((160 + n : Nat) : Int) := by omega
 rw [this, byteOf_nat]; omega
theorem tagB_inj {n m : Nat} (hn : n ≤ 30) (hm : m ≤ 30) (h : tagB n = tagB m) : n = m := by
 have := congrArg UInt8.toNat h
 rw [tagB_nat n hn, tagB_nat m hm] at this; omega
theorem wrapS_ok {n : Nat} {b : List UInt8} (hn : n ≤ 30) (h : b.length ≤ 16777215) : wrapS 160 n b = if b = [] then [] else tlv (tagB n) b := by
 unfold wrapS
 by_cases hb : b = []
 · rw [if_neg (fun q => q.2.2 hb), if_pos hb]
 · rw [if_pos ⟨by omega, by omega, hb⟩, if_neg hb, elemS_ok h]; rfl
def sufS (l : List (List UInt8)) (n k : Nat) : List UInt8 := ((List.range' n k).map fun j => wrapS 160 (j : Nat) (l.getD j [])).flatten
theorem sufS_succ (l : List (List UInt8)) (n k : Nat) : sufS l n (k + 1) = wrapS 160 (n : Nat) (l.getD n []) ++ sufS l (n + 1) k := by simp [sufS, List.range'_succ]
theorem sufS_all (l : List (List UInt8)) : (tagN l l.length).flatten = sufS l 0 l.length := by
 unfold tagN sufS; rw [List.range_eq_range']; rfl
theorem sufS_aft (l : List (List UInt8)) (hl : ∀ j, (l.getD j []).length ≤ 16777215) : ∀ (k n : Nat), n + k ≤ 31 → ∀ i, i < n → nextB i (sufS l n k) = false
 | 0, n, _, i, _ => by simp [sufS, nextB]
 | k + 1, n, hn, i, hi => by
  rw [sufS_succ, wrapS_ok (by omega) (hl n)]
  split
  · rw [List.nil_append]; exact sufS_aft l hl k (n + 1) (by omega) i (by omega)
  · simp only [tlv, List.cons_append, nextB, List.length_cons, List.getD_cons_zero, Bool.and_eq_false_iff, decide_eq_false_iff_not]
    exact .inr fun e => by have := tagB_inj (by omega) (by omega) e; omega
theorem need_suf {α : Type} {l : List (List UInt8)} {p : PR α} {v : α} {n k : Nat} (hl : ∀ j, (l.getD j []).length ≤ 16777215) (hn : n ≤ 30) (h0 : l.getD n [] ≠ []) (hp : p (l.getD n []) = .ok (v, (l.getD n []).length)) :
 needP n p (sufS l n (k + 1)) = .ok (v, (wrapS 160 (n : Nat) (l.getD n [])).length) ∧ (sufS l n (k + 1)).drop (wrapS 160 (n : Nat) (l.getD n [])).length = sufS l (n + 1) k := by
 rw [sufS_succ, List.drop_left]
 refine ⟨?_, rfl⟩
 rw [wrapS_ok hn (hl n), if_neg h0]
 exact needP_tlv (hl n) hp _
theorem dflt_suf {α : Type} {l : List (List UInt8)} {p : PR α} {d v : α} {n k : Nat} (hl : ∀ j, (l.getD j []).length ≤ 16777215) (hn : n + k ≤ 30) (hp : if l.getD n [] = [] then v = d else p (l.getD n []) = .ok (v, (l.getD n []).length)) :
 dfltP d n p (sufS l n (k + 1)) = .ok (v, (wrapS 160 (n : Nat) (l.getD n [])).length) ∧ (sufS l n (k + 1)).drop (wrapS 160 (n : Nat) (l.getD n [])).length = sufS l (n + 1) k := by
 rw [sufS_succ, List.drop_left]
 refine ⟨?_, rfl⟩
 rw [wrapS_ok (by omega) (hl n)]
 split
 · rename_i h0
   rw [if_pos h0] at hp
   rw [List.nil_append, dfltP_none (sufS_aft l hl k (n + 1) (by omega) n (by omega)), hp]; rfl
 · rename_i h0
   rw [if_neg h0] at hp
   exact dfltP_tlv (hl n) hp _
theorem bindP_ok {α β : Type} {p : PR α} {f : α → PR β} {r r' : List UInt8} {v : α} {k : Nat} {u : β} {m : Nat} (h : p r = .ok (v, k) ∧ r.drop k = r') (h2 : f v r' = .ok (u, m)) : bindP p f r = .ok (u, k + m) := by
 unfold bindP; rw [h.1]; simp only; rw [h.2, h2]
theorem listP_ok {α : Type} {p : PR α} {enc : α → List UInt8} : ∀ (l : List α) (n : Nat), l.length ≤ n → (∀ x ∈ l, enc x ≠ [] ∧ ∀ r, p (enc x ++ r) = .ok (x, (enc x).length)) → listP p n (l.map enc).flatten = .ok (l, (l.map enc).flatten.length)
 | [], 0, _, _ => rfl
 | [], n + 1, _, _ => rfl
 | x :: l, 0, h, _ => absurd h (by simp)
 | x :: l, n + 1, h, hx => by
  obtain ⟨h0, h1⟩ := hx x (by simp)
  have h2 := listP_ok l n (by simpa using h) (fun y hy => hx y (by simp [hy]))
  simp only [List.map_cons, List.flatten_cons, listP]
  rw [if_neg (by simp; intro e; exact absurd e h0), h1]
  simp only [List.drop_left]
  rw [h2]; simp
end Go.Proofs.YthmoognbccfpiaaGreatDoor

/- The plain law of reading: numbers, strings, offers. -/
namespace Go.Proofs.YthmoognbccfpiaaGreatDoor
open Go Go.Sx Go.Proofs
set_option maxRecDepth 100000
set_option maxHeartbeats 4000000
set_option linter.unusedSimpArgs false

theorem foldl_be : ∀ (l : List UInt8) (v : Nat), l.foldl (fun v c => v * 256 + c.toNat) v = v * 256 ^ l.length + beN l
 | [], v => by simp [beN]
 | x :: l, v => by
  have h1 := foldl_be l (v * 256 + x.toNat)
  have h2 := foldl_be l (0 * 256 + x.toNat)
  simp only [List.foldl_cons, List.length_cons, beN] at *
  rw [h1, h2, Nat.pow_succ, Nat.add_mul, Nat.zero_mul, Nat.zero_add, Nat.mul_assoc, Nat.mul_comm 256, Nat.add_assoc]
theorem beN_cons (x : UInt8) (l : List UInt8) : beN (x :: l) = x.toNat * 256 ^ l.length + beN l := by
 have := foldl_be l (0 * 256 + x.toNat)
 rw [Nat.zero_mul, Nat.zero_add] at this
 unfold beN at *
 rw [List.foldl_cons, Nat.zero_mul, Nat.zero_add, this]
theorem numS_length (v : Int) (m : Nat) : (numS v m).length = m := by simp [numS]
theorem beN_num (n : Nat) : ∀ (m : Nat), m ≤ 9 → beN (numS (n : Int) m) = n % 256 ^ m
 | 0, _ => by simp [numS, beN, Nat.mod_one]
 | m + 1, h => by
  rw [numS_succ, beN_cons, numS_length, beN_num n m (by omega), byteAt_nat n m (by omega), byteOf_nat, Nat.mod_pow_succ]
  unfold qN
  rw [Nat.mul_comm, Nat.add_comm]

def sgn1 (x : UInt8) : Int := IntKind.i8.wrap (x.toNat : Int)
theorem sgn1_pos {x : UInt8} (h : x.toNat < 128) : sgn1 x = (x.toNat : Int) := by
 unfold sgn1
 simp [IntKind.wrap, IntKind.bits, IntKind.signed]
 omega
def sgn (c : List UInt8) : Int := (c.drop 1).foldl (fun v x => v * 256 + (x.toNat : Int)) (sgn1 (c.getD 0 0))
theorem foldl_int : ∀ (l : List UInt8) (v : Nat), l.foldl (fun (v : Int) (x : UInt8) => v * 256 + (x.toNat : Int)) (v : Int) = ((l.foldl (fun v c => v * 256 + c.toNat) v : Nat) : Int)
 | [], v => rfl
 | x :: l, v => by
  have := foldl_int l (v * 256 + x.toNat)
  simp only [List.foldl_cons]
  rw [← this]; push_cast; rfl
theorem sgn_pos {x : UInt8} {l : List UInt8} (h : x.toNat < 128) : sgn (x :: l) = (beN (x :: l) : Int) := by
 unfold sgn
 rw [List.drop_succ_cons, List.drop_zero, List.getD_cons_zero, sgn1_pos h, foldl_int]
 unfold beN
 rw [List.foldl_cons, Nat.zero_mul, Nat.zero_add]
def decInt (c : List UInt8) : Option Int := if 1 ≤ c.length ∧ c.length ≤ 8 ∧ intS (sgn c) = elemS 2 [c] then some (sgn c) else none
def decBits (c : List UInt8) : Option Nat := if c.length = 5 ∧ c.getD 0 0 = 0 then some (beN (c.drop 1)) else none
def decTime (c : List UInt8) : Option Nat := if c.length = 6 ∧ beN c ≤ 1099511627776 then some (beN c) else none
def decStr (c : List UInt8) : Option ByteArray := some ⟨c.toArray⟩
def decOct (c : List UInt8) : Option (List UInt8) := some c
theorem intS_nat (n : Nat) (h : n ≤ 4611686018427387904) : ∃ c, intS n = tlv 2 c ∧ c.length ≤ 8 ∧ 1 ≤ c.length ∧ decInt c = some (n : Int) ∧ beN c = n ∧ (c.length = 8 → 36028797018963968 ≤ n) := by
 have h7 : oneB (n : Int) 7 = true := by
  have : qN n 7 ≤ 127 := by unfold qN; exact Nat.div_le_of_le_mul (by omega)
  unfold oneB; rw [restN_nat, decide_eq_true (show ((qN n 7 : Nat) : Int) ≤ 127 by omega), decide_eq_true (show (-128 : Int) ≤ (qN n 7 : Int) by omega)]; rfl
 obtain ⟨k, hk⟩ : ∃ k, firstN 9 (oneB (n : Int)) = some k := by
  cases hf : firstN 9 (oneB (n : Int)) with
  | some k => exact ⟨k, rfl⟩
  | none =>
   unfold firstN at hf
   rw [List.find?_range_eq_none] at hf
   have := hf 7 (by omega)
   rw [h7] at this; cases this
 obtain ⟨_, hk1, hk2⟩ := firstN_spec hk
 have hk7 : k ≤ 7 := by
  rcases Nat.lt_or_ge 7 k with hl | hl
  · have := hk2 7 hl; rw [h7] at this; cases this
  · exact hl
 have hsz : intSz (n : Int) = k + 1 := by unfold intSz; rw [hk]; simp; omega
 have hint : intS (n : Int) = tlv 2 (numS n (k + 1)) := by
  unfold intS
  rw [if_pos (by omega), hsz, elemS_ok (by rw [numS_length]; omega)]
 have hq : qN n k ≤ 127 := by
  simp only [oneB, restN_nat, Bool.and_eq_true, decide_eq_true_eq] at hk1
  omega
 have hlt : n < 256 ^ (k + 1) := by
  have h1 : n < (qN n k + 1) * 256 ^ k := by
   unfold qN
   have := Nat.lt_mul_div_succ n (show 0 < 256 ^ k from Nat.pow_pos (by decide))
   rw [Nat.mul_comm] at this; exact this
  have h2 : (qN n k + 1) * 256 ^ k ≤ 256 * 256 ^ k := Nat.mul_le_mul_right _ (by omega)
  rw [Nat.pow_succ, Nat.mul_comm]; omega
 have hb : beN (numS (n : Int) (k + 1)) = n := by rw [beN_num n _ (by omega), Nat.mod_eq_of_lt hlt]
 have hs : sgn (numS (n : Int) (k + 1)) = (n : Int) := by
  rw [numS_succ, sgn_pos (by rw [byteAt_nat n k (by omega), byteOf_nat]; omega), ← numS_succ, hb]
 refine ⟨numS n (k + 1), hint, by rw [numS_length]; omega, by rw [numS_length]; omega, ?_, hb, fun h8 => ?_⟩
 · unfold decInt
   rw [hs, hint, elemS_ok (by rw [numS_length]; omega), if_pos ⟨by rw [numS_length]; omega, by rw [numS_length]; omega, rfl⟩]
 · rw [numS_length] at h8
   have hk6 := hk2 6 (by omega)
   simp only [oneB, restN_nat, Bool.and_eq_false_iff, decide_eq_false_iff_not] at hk6
   have : 128 ≤ qN n 6 := by omega
   unfold qN at this
   have h9 := (Nat.le_div_iff_mul_le (show 0 < 256 ^ 6 by decide)).1 this
   omega
theorem intS_i {v : Int} (h : 0 ≤ v ∧ v ≤ 4611686018427387904) : ∃ c, intS v = tlv 2 c ∧ c.length ≤ 8 ∧ 1 ≤ c.length ∧ decInt c = some v ∧ (beN c : Int) = v ∧ (c.length = 8 → 36028797018963968 ≤ v) := by
 obtain ⟨n, rfl⟩ : ∃ n : Nat, v = n := ⟨v.toNat, by omega⟩
 obtain ⟨c, h1, h2, h3, h4, h5, h6⟩ := intS_nat n (by omega)
 exact ⟨c, h1, h2, h3, h4, by rw [h5], fun h => by have := h6 h; omega⟩
def intP : PR Int := rdP 2 decInt
def bitsP : PR Nat := rdP 3 decBits
def octP : PR (List UInt8) := rdP 4 decOct
def timeP : PR Nat := rdP 24 decTime
def strP : PR ByteArray := rdP 27 decStr
theorem intP_ok {v : Int} (h : 0 ≤ v ∧ v ≤ 4611686018427387904) (r : List UInt8) : intP (intS v ++ r) = .ok (v, (intS v).length) := by
 obtain ⟨c, h1, h2, _, h4, _⟩ := intS_i h
 rw [h1]; exact rdP_tlv (by omega) h4 r
theorem octP_ok {b : List UInt8} (h : b.length ≤ 16777215) (r : List UInt8) : octP (elemS 4 [b] ++ r) = .ok (b, (elemS 4 [b]).length) := by
 rw [elemS_ok h]; exact rdP_tlv h rfl r
theorem strP_ok {s : ByteArray} (h : s.size ≤ 16777215) (r : List UInt8) : strP (elemS 27 [s.data.toList] ++ r) = .ok (s, (elemS 27 [s.data.toList]).length) := by
 have hl : s.data.toList.length = s.size := by simp
 rw [elemS_ok (by omega)]
 exact rdP_tlv (by omega) (by unfold decStr; simp) r
theorem full {α : Type} {p : PR α} {v : α} {e : List UInt8} (h : ∀ r, p (e ++ r) = .ok (v, e.length)) : p e = .ok (v, e.length) := by have := h []; rwa [List.append_nil] at this

end Go.Proofs.YthmoognbccfpiaaGreatDoor

/- Contracts: the reader, what does not read. -/
namespace Go.Proofs.YthmoognbccfpiaaGreatDoor
open Go Go.Sx Go.Proofs
set_option maxRecDepth 100000
set_option maxHeartbeats 4000000
set_option linter.unusedSimpArgs false

@[go_sem] abbrev rdr (b : List UInt8) (n : Nat) : SObj := .cells 214 [.isl .u8 b, rI n, .raw (.bool true)]
theorem rest_c (b : List UInt8) (n : Nat) (hn : n ≤ b.length) : PE Tryz.prog 247 [.ptr 0 0] [rdr b n] (.ret (.isl .u8 (b.drop n))) [rdr b n] := by
 refine pe_seal (Nat.le_refl _) ?_
 refine runE mixed fi247 ?_
 refine ⟨⟨by omega, hn, Nat.le_refl _⟩, ?_⟩
 rw [List.take_length]
theorem left_c (b : List UInt8) (n : Nat) (hn : n ≤ b.length) : PE Tryz.prog 204 [.ptr 0 0] [rdr b n] (.ret (rI ((b.length - n : Nat) : Int))) [rdr b n] := by
 refine pe_seal (Nat.le_refl _) ?_
 refine runE mixed fi204 ?_
 refine effE mixed [0] (rest_c b n hn) ?_
 rw [List.length_drop]
theorem end_c (b : List UInt8) (n : Nat) (hn : n ≤ b.length) : PE Tryz.prog 168 [.ptr 0 0] [rdr b n] (.ret (rI (if n < b.length then 5 else 0))) [rdr b n] := by
 refine pe_seal (Nat.le_refl _) ?_
 refine runE mixed fi168 ?_
 refine effE mixed [0] (left_c b n hn) ?_
 refine ⟨fun h => ?_, fun h => ?_⟩
 · rw [if_pos (by omega)]
 · rw [if_neg (by omega)]
theorem inner_c (b : List UInt8) : PE Tryz.prog 166 [.isl .u8 b] [] (.ret (.ptr 0 0)) [rdr b 0] := by
 refine pe_seal (Nat.zero_le _) ?_
 refine runE mixed fi166 ?_; trivial
theorem contained_c (b : List UInt8) : PE Tryz.prog 197 [.isl .u8 b] [] (.ret (.tup [.ptr 0 0, rB true])) [rdr b 0] := by
 refine pe_seal (Nat.zero_le _) ?_
 refine runE mixed fi197 ?_
 refine effE mixed [] (inner_c b) ?_; trivial
theorem take_c (tag : UInt8) (b : List UInt8) (n : Nat) (hn : n ≤ b.length) (hb : b.length ≤ 1099511627776) :
 PE Tryz.prog 246 [.ptr 0 0, .raw (.int .u8 tag.toNat)] [rdr b n] (.ret (.tup [.isl .u8 (if takeE tag (b.drop n) = 0 then takeC (b.drop n) else []), rI (takeE tag (b.drop n))])) [rdr b (if takeE tag (b.drop n) = 0 then n + takeN (b.drop n) else n)] := by
 have hr := rest_c b n hn
 have hlr : (b.drop n).length = b.length - n := List.length_drop
 have hm := measure_c (b.drop n) (by omega)
 have hok := @takeN_le tag (b.drop n)
 generalize hR : b.drop n = r at *
 have hE : takeE tag r = if r.length = 0 then 4 else if r.getD 0 0 ≠ tag then 6 else (meas r).2.2 := rfl
 refine pe_seal (Nat.le_refl _) ?_
 refine runE mixed fi246 ?_
 refine effE mixed [0] (hr) ?_
 refine ⟨fun h => ?_, fun h => ?_⟩
 · rw [if_pos (by omega)] at hE
   rw [hE]
   exact ⟨⟨rfl, rfl⟩, rfl⟩
 rw [if_neg (by omega)] at hE
 refine ⟨by omega, fun h2 => ?_, fun h2 => ?_⟩
 · rw [if_pos (fun e => h2 (by subst e; rfl))] at hE
   rw [hE]
   exact ⟨⟨rfl, rfl⟩, rfl⟩
 · have : r.getD 0 0 = tag := by
    apply UInt8.toNat_inj.1
    have : ((r.getD 0 Ty.u8.dflt).toNat : Int) = tag.toNat := h2
    exact_mod_cast this
   rw [if_neg (by simpa using this)] at hE
   refine callI_pure hm ?_
   unfold measV
   refine goE mixed ?_
   refine ⟨fun h3 => ?_, fun h3 => ?_⟩
   · have h3' : ¬ (meas r).2.2 = 0 := by omega
     rw [hE, if_neg h3', if_neg h3']
     exact ⟨⟨rfl, rfl⟩, rfl⟩
   · have h3' : (meas r).2.2 = 0 := by omega
     have hk := meas_ok h3'
     rw [hE, if_pos h3', if_pos h3', wrapi (by omega), h3']
     exact ⟨⟨by omega, hk.2.1, Nat.le_refl _, hk.2.2⟩, ⟨rfl, rfl⟩, congrArg (Value.int .i64) (by unfold takeN; omega)⟩
theorem read_int (g : Nat) (tag : UInt8) (b : List UInt8) (n : Nat) (hn : n ≤ b.length) (hb : b.length ≤ 1099511627776) (v : SV) (right : Bool) (hg : PC Tryz.prog g [.isl .u8 (takeC (b.drop n))] (.tup [v, rB right])) (hv : ∃ u, (v = .raw u) ∨ ∃ xs, v = .isl .u8 xs) :
 PE Tryz.prog 198 [.ptr 0 0, .raw (.int .u8 tag.toNat), .fn g [] []] [rdr b n] (.ret (if takeE tag (b.drop n) = 0 then (if right then .tup [v, rI 0] else .tup [.raw (.int .i64 0), rI 6]) else .tup [.raw (.int .i64 0), rI (takeE tag (b.drop n))])) [rdr b (if takeE tag (b.drop n) = 0 ∧ right = true then n + takeN (b.drop n) else n)] := by
 have ht := take_c tag b n hn hb
 generalize takeE tag (b.drop n) = e at *
 generalize takeC (b.drop n) = c at *
 generalize takeN (b.drop n) = k at *
 refine pe_seal (Nat.le_refl _) ?_
 refine runE mixed fi198 ?_
 refine effE mixed [0] (ht) ?_
 refine ⟨fun h => ?_, fun h => ?_⟩
 · have h' : ¬ e = 0 := by omega
   simp only [if_neg h', h', false_and, if_false]
   with_reducible refine sxE ?_; trivial
 · obtain rfl : e = 0 := by omega
   simp only [true_and, if_true]
   refine callI_pure hg ?_
   obtain ⟨u, rfl | ⟨xs, rfl⟩⟩ := hv
   · cases right
     · refine run_sound mixed 600 _ ?_
       simp (maxSteps := 3000000) only [Bool.false_eq_true, if_false, go_sem, ↓zA, ↓reduceIte, ↓reduceDIte, reduceCtorEq, Nat.reduceAdd, Nat.reduceSub, Nat.reduceLeDiff, Nat.reduceLT, Nat.reduceEqDiff, Nat.reduceBEq, Nat.reduceMul, Int.reduceToNat, Int.reduceEq, Int.reduceLT, Int.reduceLE] <;> try simp only [zB]
     · refine goE mixed ?_; trivial
   · cases right
     · refine run_sound mixed 600 _ ?_
       simp (maxSteps := 3000000) only [Bool.false_eq_true, if_false, go_sem, ↓zA, ↓reduceIte, ↓reduceDIte, reduceCtorEq, Nat.reduceAdd, Nat.reduceSub, Nat.reduceLeDiff, Nat.reduceLT, Nat.reduceEqDiff, Nat.reduceBEq, Nat.reduceMul, Int.reduceToNat, Int.reduceEq, Int.reduceLT, Int.reduceLE] <;> try simp only [zB]
     · refine goE mixed ?_; trivial
theorem read_str (g : Nat) (tag : UInt8) (b : List UInt8) (n : Nat) (hn : n ≤ b.length) (hb : b.length ≤ 1099511627776) (v : SV) (right : Bool) (hg : PC Tryz.prog g [.isl .u8 (takeC (b.drop n))] (.tup [v, rB right])) (hv : ∃ u, (v = .raw u) ∨ ∃ xs, v = .isl .u8 xs) :
 PE Tryz.prog 253 [.ptr 0 0, .raw (.int .u8 tag.toNat), .fn g [] []] [rdr b n] (.ret (if takeE tag (b.drop n) = 0 then (if right then .tup [v, rI 0] else .tup [.raw (.string ⟨#[]⟩), rI 6]) else .tup [.raw (.string ⟨#[]⟩), rI (takeE tag (b.drop n))])) [rdr b (if takeE tag (b.drop n) = 0 ∧ right = true then n + takeN (b.drop n) else n)] := by
 have ht := take_c tag b n hn hb
 generalize takeE tag (b.drop n) = e at *
 generalize takeC (b.drop n) = c at *
 generalize takeN (b.drop n) = k at *
 refine pe_seal (Nat.le_refl _) ?_
 refine runE mixed fi253 ?_
 refine effE mixed [0] (ht) ?_
 refine ⟨fun h => ?_, fun h => ?_⟩
 · have h' : ¬ e = 0 := by omega
   simp only [if_neg h', h', false_and, if_false]
   with_reducible refine sxE ?_; trivial
 · obtain rfl : e = 0 := by omega
   simp only [true_and, if_true]
   refine callI_pure hg ?_
   obtain ⟨u, rfl | ⟨xs, rfl⟩⟩ := hv
   · cases right
     · refine run_sound mixed 600 _ ?_
       simp (maxSteps := 3000000) only [Bool.false_eq_true, if_false, go_sem, ↓zA, ↓reduceIte, ↓reduceDIte, reduceCtorEq, Nat.reduceAdd, Nat.reduceSub, Nat.reduceLeDiff, Nat.reduceLT, Nat.reduceEqDiff, Nat.reduceBEq, Nat.reduceMul, Int.reduceToNat, Int.reduceEq, Int.reduceLT, Int.reduceLE] <;> try simp only [zB]
     · refine goE mixed ?_; trivial
   · cases right
     · refine run_sound mixed 600 _ ?_
       simp (maxSteps := 3000000) only [Bool.false_eq_true, if_false, go_sem, ↓zA, ↓reduceIte, ↓reduceDIte, reduceCtorEq, Nat.reduceAdd, Nat.reduceSub, Nat.reduceLeDiff, Nat.reduceLT, Nat.reduceEqDiff, Nat.reduceBEq, Nat.reduceMul, Int.reduceToNat, Int.reduceEq, Int.reduceLT, Int.reduceLE] <;> try simp only [zB]
     · refine goE mixed ?_; trivial
theorem read_u32 (g : Nat) (tag : UInt8) (b : List UInt8) (n : Nat) (hn : n ≤ b.length) (hb : b.length ≤ 1099511627776) (v : SV) (right : Bool) (hg : PC Tryz.prog g [.isl .u8 (takeC (b.drop n))] (.tup [v, rB right])) (hv : ∃ u, (v = .raw u) ∨ ∃ xs, v = .isl .u8 xs) :
 PE Tryz.prog 260 [.ptr 0 0, .raw (.int .u8 tag.toNat), .fn g [] []] [rdr b n] (.ret (if takeE tag (b.drop n) = 0 then (if right then .tup [v, rI 0] else .tup [.raw (.int .u32 0), rI 6]) else .tup [.raw (.int .u32 0), rI (takeE tag (b.drop n))])) [rdr b (if takeE tag (b.drop n) = 0 ∧ right = true then n + takeN (b.drop n) else n)] := by
 have ht := take_c tag b n hn hb
 generalize takeE tag (b.drop n) = e at *
 generalize takeC (b.drop n) = c at *
 generalize takeN (b.drop n) = k at *
 refine pe_seal (Nat.le_refl _) ?_
 refine runE mixed fi260 ?_
 refine effE mixed [0] (ht) ?_
 refine ⟨fun h => ?_, fun h => ?_⟩
 · have h' : ¬ e = 0 := by omega
   simp only [if_neg h', h', false_and, if_false]
   with_reducible refine sxE ?_; trivial
 · obtain rfl : e = 0 := by omega
   simp only [true_and, if_true]
   refine callI_pure hg ?_
   obtain ⟨u, rfl | ⟨xs, rfl⟩⟩ := hv
   · cases right
     · refine run_sound mixed 600 _ ?_
       simp (maxSteps := 3000000) only [Bool.false_eq_true, if_false, go_sem, ↓zA, ↓reduceIte, ↓reduceDIte, reduceCtorEq, Nat.reduceAdd, Nat.reduceSub, Nat.reduceLeDiff, Nat.reduceLT, Nat.reduceEqDiff, Nat.reduceBEq, Nat.reduceMul, Int.reduceToNat, Int.reduceEq, Int.reduceLT, Int.reduceLE] <;> try simp only [zB]
     · refine goE mixed ?_; trivial
   · cases right
     · refine run_sound mixed 600 _ ?_
       simp (maxSteps := 3000000) only [Bool.false_eq_true, if_false, go_sem, ↓zA, ↓reduceIte, ↓reduceDIte, reduceCtorEq, Nat.reduceAdd, Nat.reduceSub, Nat.reduceLeDiff, Nat.reduceLT, Nat.reduceEqDiff, Nat.reduceBEq, Nat.reduceMul, Int.reduceToNat, Int.reduceEq, Int.reduceLT, Int.reduceLE] <;> try simp only [zB]
     · refine goE mixed ?_; trivial
theorem read_bytes (g : Nat) (tag : UInt8) (b : List UInt8) (n : Nat) (hn : n ≤ b.length) (hb : b.length ≤ 1099511627776) (v : SV) (right : Bool) (hg : PC Tryz.prog g [.isl .u8 (takeC (b.drop n))] (.tup [v, rB right])) (hv : ∃ u, (v = .raw u) ∨ ∃ xs, v = .isl .u8 xs) :
 PE Tryz.prog 251 [.ptr 0 0, .raw (.int .u8 tag.toNat), .fn g [] []] [rdr b n] (.ret (if takeE tag (b.drop n) = 0 then (if right then .tup [v, rI 0] else .tup [.isl .u8 [], rI 6]) else .tup [.isl .u8 [], rI (takeE tag (b.drop n))])) [rdr b (if takeE tag (b.drop n) = 0 ∧ right = true then n + takeN (b.drop n) else n)] := by
 have ht := take_c tag b n hn hb
 generalize takeE tag (b.drop n) = e at *
 generalize takeC (b.drop n) = c at *
 generalize takeN (b.drop n) = k at *
 refine pe_seal (Nat.le_refl _) ?_
 refine runE mixed fi251 ?_
 refine effE mixed [0] (ht) ?_
 refine ⟨fun h => ?_, fun h => ?_⟩
 · have h' : ¬ e = 0 := by omega
   simp only [if_neg h', h', false_and, if_false]
   with_reducible refine sxE ?_; trivial
 · obtain rfl : e = 0 := by omega
   simp only [true_and, if_true]
   refine callI_pure hg ?_
   obtain ⟨u, rfl | ⟨xs, rfl⟩⟩ := hv
   · cases right
     · refine run_sound mixed 600 _ ?_
       simp (maxSteps := 3000000) only [Bool.false_eq_true, if_false, go_sem, ↓zA, ↓reduceIte, ↓reduceDIte, reduceCtorEq, Nat.reduceAdd, Nat.reduceSub, Nat.reduceLeDiff, Nat.reduceLT, Nat.reduceEqDiff, Nat.reduceBEq, Nat.reduceMul, Int.reduceToNat, Int.reduceEq, Int.reduceLT, Int.reduceLE] <;> try simp only [zB]
     · refine goE mixed ?_; trivial
   · cases right
     · refine run_sound mixed 600 _ ?_
       simp (maxSteps := 3000000) only [Bool.false_eq_true, if_false, go_sem, ↓zA, ↓reduceIte, ↓reduceDIte, reduceCtorEq, Nat.reduceAdd, Nat.reduceSub, Nat.reduceLeDiff, Nat.reduceLT, Nat.reduceEqDiff, Nat.reduceBEq, Nat.reduceMul, Int.reduceToNat, Int.reduceEq, Int.reduceLT, Int.reduceLE] <;> try simp only [zB]
     · refine goE mixed ?_; trivial
end Go.Proofs.YthmoognbccfpiaaGreatDoor

/- Contracts: the reader, values of each kind. -/
namespace Go.Proofs.YthmoognbccfpiaaGreatDoor
open Go Go.Sx Go.Proofs
set_option maxRecDepth 100000
set_option maxHeartbeats 4000000
set_option linter.unusedSimpArgs false

theorem rdP_ok {α : Type} {tag : UInt8} {dec : List UInt8 → Option α} {r : List UInt8} {v : α} {k : Nat} (h : rdP tag dec r = .ok (v, k)) : takeE tag r = 0 ∧ dec (takeC r) = some v ∧ k = takeN r := by
 unfold rdP at h
 split at h
 · split at h
   · cases h; exact ⟨by assumption, by assumption, rfl⟩
   · cases h
 · cases h
theorem rdP_er {α : Type} {tag : UInt8} {dec : List UInt8 → Option α} {r : List UInt8} {e : Nat} (h : rdP tag dec r = .error e) : (takeE tag r = 0 ∧ dec (takeC r) = none ∧ e = 6) ∨ (takeE tag r ≠ 0 ∧ e = takeE tag r) := by
 unfold rdP at h
 split at h
 · split at h
   · cases h
   · cases h; exact .inl ⟨by assumption, by assumption, rfl⟩
 · cases h; exact .inr ⟨by assumption, rfl⟩
theorem rdP_le {α : Type} {tag : UInt8} {dec : List UInt8 → Option α} {r : List UInt8} {v : α} {k : Nat} (h : rdP tag dec r = .ok (v, k)) : k ≤ r.length := by
 obtain ⟨h1, _, rfl⟩ := rdP_ok h
 exact takeN_le h1
theorem wrap64_or (v : Int) (c : Nat) (hv : -36028797018963968 ≤ v ∧ v < 36028797018963968) (hc : c < 256) : IntKind.i64.wrap ((BitVec.ofInt 64 (v * 256) ||| BitVec.ofInt 64 ((c : Nat) : Int)).toNat : Int) = v * 256 + c := by
 obtain ⟨m, hm⟩ : ∃ m : Nat, (BitVec.ofInt 64 (v * 256)).toNat = m * 256 ∧ ((m : Int) * 256 = v * 256 ∨ (m : Int) * 256 = v * 256 + 18446744073709551616) := by
  refine ⟨((v * 256) % 18446744073709551616).toNat / 256, ?_, ?_⟩
  · rw [BitVec.toNat_ofInt]
    have : (((2 ^ 64 : Nat)) : Int) = 18446744073709551616 := by decide
    rw [this]; omega
  · omega
 have h2 : (BitVec.ofInt 64 ((c : Nat) : Int)).toNat = c := by rw [BitVec.ofInt_natCast, BitVec.toNat_ofNat]; exact Nat.mod_eq_of_lt (by omega)
 have h3 : m * 256 ||| c = m * 256 + c := by
  have := Nat.shiftLeft_add_eq_or_of_lt (b := c) (i := 8) hc m
  rw [Nat.shiftLeft_eq] at this
  exact this.symm
 rw [BitVec.toNat_or, hm.1, h2, h3]
 have hw : ∀ x : Int, IntKind.i64.wrap x = if x % 18446744073709551616 < 9223372036854775808 then x % 18446744073709551616 else x % 18446744073709551616 - 18446744073709551616 := fun x => by
  simp [IntKind.wrap, IntKind.bits, IntKind.signed]
  split <;> omega
 rw [hw]
 push_cast
 rcases hm.2 with h | h <;> split <;> omega
def sgnK (c : List UInt8) (i : Nat) : Int := ((c.drop 1).take i).foldl (fun v x => v * 256 + (x.toNat : Int)) (sgn1 (c.getD 0 0))
theorem sgn1_bd (x : UInt8) : -128 ≤ sgn1 x ∧ sgn1 x < 128 := by
 have := x.toNat_lt
 unfold sgn1
 simp [IntKind.wrap, IntKind.bits, IntKind.signed]
 omega
theorem sgnK_succ {c : List UInt8} {i : Nat} (h : i < (c.drop 1).length) : sgnK c (i + 1) = sgnK c i * 256 + (((c.drop 1).getD i 0).toNat : Int) := by
 unfold sgnK
 rw [take_succ_getD (d := 0) h, List.foldl_append]; rfl
theorem sgnK_bd (c : List UInt8) : ∀ i, i ≤ (c.drop 1).length → -(128 * 256 ^ i : Nat) ≤ sgnK c i ∧ sgnK c i < (128 * 256 ^ i : Nat)
 | 0, _ => by have := sgn1_bd (c.getD 0 0); simpa [sgnK] using this
 | i + 1, h => by
  have ih := sgnK_bd c i (by omega)
  have hx := ((c.drop 1).getD i 0).toNat_lt
  rw [sgnK_succ (by omega), Nat.pow_succ]
  omega
theorem equal_c (a b : List UInt8) (ha : a.length ≤ 140737488355328) (hb : b.length ≤ 140737488355328) : PC Tryz.prog 99 [.isl .u8 a, .isl .u8 b] (rB (decide (a = b))) := by
 refine pc_of rfl rfl ?_
 refine runE mixed fi99 ?_
 exact decide_eq_decide.2 ⟨fun h => by simpa [strOf] using h, fun h => by rw [h]⟩
def iVal (c : List UInt8) : Int := if c.length < 1 ∨ 8 < c.length then 0 else sgn c
theorem decInt_val {c : List UInt8} {v : Int} (h : decInt c = some v) : v = iVal c := by
 unfold decInt at h
 split at h
 · rename_i hc; cases h
   unfold iVal; rw [if_neg (by omega)]
 · cases h
theorem sgnK_all (c : List UInt8) : sgnK c (c.drop 1).length = sgn c := by unfold sgnK sgn; rw [List.take_length]
theorem int1_c (c : List UInt8) (hc : c.length ≤ 1099511627776) : PC Tryz.prog 199 [.isl .u8 c] (.tup [rI (iVal c), rB (decInt c).isSome]) := by
 refine pc_seal rfl rfl ?_
 refine runE mixed fi199 ?_
 have h0 : (c.length < 1 ∨ 8 < c.length) → iVal c = 0 ∧ (decInt c).isSome = false := fun h => by
  unfold iVal decInt
  rw [if_pos h, if_neg (by omega)]
  exact ⟨rfl, rfl⟩
 refine ⟨fun h1 => ⟨fun h8 => ?_, fun h8 => ⟨by omega, ⟨by omega, Nat.le_refl _⟩, ?_⟩⟩, fun h1 => ?_⟩
 · obtain ⟨e1, e2⟩ := h0 (by omega)
   rw [e1, e2]; exact ⟨rfl, rfl⟩
 rotate_left
 · obtain ⟨e1, e2⟩ := h0 (by omega)
   rw [e1, e2]; exact ⟨rfl, rfl⟩
 have hs1 : IntKind.i64.wrap (IntKind.i8.wrap ((c.getD 0 Ty.u8.dflt).toNat : Int)) = sgnK c 0 := by
  have := sgn1_bd (c.getD 0 0)
  show IntKind.i64.wrap (sgn1 (c.getD 0 0)) = _
  rw [wrapi (by omega)]; rfl
 rw [hs1]
 have htl : List.take c.length c = c := List.take_length
 rw [htl]
 have hl : (c.drop 1).length = c.length - 1 := List.length_drop
 generalize hD : c.drop 1 = d at *
 refine si_cntD (fun i => [(4, rI (sgnK c i)), (23, .raw (.int .i64 ((i : Nat) : Int)))]) (d.length) (fun j => (fun _ => true) j = true) (by first | decide | simp) (fun i => rfl) ?_ fun i hi hall => ?_
 · (with_reducible refine sxE ?_ <;> try exact True.intro)
   all_goals (try rfl)
 have hwr : IntKind.i64.wrap ((i : Int) + 1) = ((i + 1 : Nat) : Int) := wrap_succ (by omega)
 refine goE mixed ?_
 have bad : i < (d.length) → (fun _ => true) i = false → allN (d.length) (fun _ => true) = false := fun hlt hv => allN_false hlt hv
 have fin : ¬ i < (d.length) → allN (d.length) (fun _ => true) = true := fun h => allN_true fun j hj => hall j (by omega)
 try dsimp only at bad fin hall
 refine ⟨fun hlt => ⟨⟨by omega, hlt⟩, ?_⟩, fun hge => ?_⟩
 · have hb := sgnK_bd c i (by rw [hD]; omega)
   have hp : 256 ^ i ≤ 256 ^ 6 := Nat.pow_le_pow_right (by decide) (by omega)
   have hx : (d.getD i Ty.u8.dflt).toNat < 256 := UInt8.toNat_lt _
   have e0 : sgnK c i * 2 ^ min 8 64 = sgnK c i * 256 := rfl
   have e1 : IntKind.i64.wrap (sgnK c i * 256) = sgnK c i * 256 := wrapi (by omega)
   have e2 : IntKind.i64.wrap ((d.getD i Ty.u8.dflt).toNat : Int) = ((d.getD i Ty.u8.dflt).toNat : Int) := wrapi (by omega)
   have e3 := wrap64_or (sgnK c i) (d.getD i Ty.u8.dflt).toNat (by omega) hx
   have e4 := sgnK_succ (c := c) (i := i) (by rw [hD]; exact hlt)
   rw [hD] at e4
   rw [e0, e1, e2]
   refine ⟨hlt, trivial, ⟨[], rfl⟩, ?_⟩
   with_reducible refine sx1 hwr ?_
   rw [e4]
   exact congrArg (Value.int .i64) e3
 · obtain rfl : i = d.length := by omega
   have hall' := sgnK_all c
   rw [hD] at hall'
   rw [hall']
   refine callI_pure (integer_c (sgn c)) ?_
   refine goE mixed ?_
   refine callI_hand 0 ?_
   with_reducible refine sxE ?_
   refine callI_pure (element_k 2 2 rfl [c] (by simp)) ?_
   have g1 := intS_len (sgn c)
   have g2 := elemS_len 2 [c]
   simp only [List.flatten_cons, List.flatten_nil, List.append_nil] at g2
   refine goE mixed ?_
   refine callI_pure (equal_c _ _ (by omega) (by omega)) ?_
   refine goE mixed ?_
   have e1 : iVal c = sgn c := by unfold iVal; rw [if_neg (by omega)]
   have e2 : (decInt c).isSome = decide (intS (sgn c) = elemS 2 [c]) := by
    unfold decInt
    by_cases h : intS (sgn c) = elemS 2 [c]
    · rw [if_pos ⟨by omega, by omega, h⟩, decide_eq_true h]; rfl
    · rw [if_neg (fun q => h q.2.2), decide_eq_false h]; rfl
   rw [e1, e2]
   exact ⟨rfl, rfl⟩
def bVal (c : List UInt8) : Nat := if c.length ≠ 5 ∨ c.getD 0 0 ≠ 0 then 0 else beN (c.drop 1)
theorem bits1_c (c : List UInt8) : PC Tryz.prog 261 [.isl .u8 c] (.tup [.raw (.int .u32 (bVal c)), rB (decBits c).isSome]) := by
 refine pc_seal rfl rfl ?_
 refine runE mixed fi261 ?_
 have hno : (c.length ≠ 5 ∨ c.getD 0 0 ≠ 0) → bVal c = 0 ∧ (decBits c).isSome = false := fun h => by
  unfold bVal decBits
  rw [if_pos h, if_neg (fun q => h.elim (fun e => e q.1) (fun e => e q.2))]
  exact ⟨rfl, rfl⟩
 refine ⟨fun h5 => ⟨by omega, fun h0 => ?_, fun h0 => ⟨⟨by omega, Nat.le_refl _⟩, ?_⟩⟩, fun h5 => ?_⟩
 · obtain ⟨e1, e2⟩ := hno (.inr fun e => h0 (by rw [show c.getD 0 Ty.u8.dflt = 0 from e]; rfl))
   rw [e1, e2]; exact ⟨rfl, rfl⟩
 · have hz : c.getD 0 0 = 0 := by
    apply UInt8.toNat_inj.1
    have : ((c.getD 0 Ty.u8.dflt).toNat : Int) = 0 := h0
    exact_mod_cast this
   have hl : (c.drop 1).length = 4 := by rw [List.length_drop]; omega
   rw [List.take_length]
   refine callI_pure (unsigned_c (c.drop 1) (by omega)) ?_
   have hb := beN_lt (c.drop 1)
   rw [hl] at hb
   have e1 : bVal c = beN (c.drop 1) := by unfold bVal; rw [if_neg (fun q => q.elim (fun e => e (by omega)) (fun e => e hz))]
   have e2 : (decBits c).isSome = true := by unfold decBits; rw [if_pos ⟨by omega, hz⟩]; rfl
   have e3 : IntKind.u32.wrap ((beN (c.drop 1) : Nat) : Int) = ((beN (c.drop 1) : Nat) : Int) := by
    generalize beN (c.drop 1) = m at *
    have : m < 4294967296 := hb
    simp [IntKind.wrap, IntKind.bits, IntKind.signed]
    omega
   rw [e1, e2]
   refine run_sound mixed 600 _ ?_
   simp (maxSteps := 3000000) only [e3, go_sem, ↓zA, ↓reduceIte, ↓reduceDIte, reduceCtorEq, Nat.reduceAdd, Nat.reduceSub, Nat.reduceLeDiff, Nat.reduceLT, Nat.reduceEqDiff, Nat.reduceBEq, Nat.reduceMul, Int.reduceToNat, Int.reduceEq, Int.reduceLT, Int.reduceLE] <;> try simp only [zB]
 · obtain ⟨e1, e2⟩ := hno (.inl (by omega))
   rw [e1, e2]; exact ⟨rfl, rfl⟩
def tVal (c : List UInt8) : Nat := if c.length ≠ 6 then 0 else beN c
theorem time1_c (c : List UInt8) : PC Tryz.prog 263 [.isl .u8 c] (.tup [rI (tVal c), rB (decTime c).isSome]) := by
 refine pc_seal rfl rfl ?_
 refine runE mixed fi263 ?_
 refine ⟨fun h6 => ?_, fun h6 => callI_pure (unsigned_c c (by omega)) ?_⟩
 · have e1 : tVal c = 0 := by unfold tVal; rw [if_pos (by omega)]
   have e2 : (decTime c).isSome = false := by unfold decTime; rw [if_neg (by omega)]; rfl
   rw [e1, e2]; exact ⟨rfl, rfl⟩
 · have e1 : tVal c = beN c := by unfold tVal; rw [if_neg (by omega)]
   have e2 : (decTime c).isSome = decide (((beN c : Nat) : Int) ≤ 1099511627776) := by
    unfold decTime
    by_cases h : beN c ≤ 1099511627776
    · rw [if_pos ⟨by omega, h⟩, decide_eq_true (by omega)]; rfl
    · rw [if_neg (by omega), decide_eq_false (by omega)]; rfl
   rw [e1, e2]
   refine goE mixed ?_; trivial
theorem str1_c (c : List UInt8) (hc : c.length ≤ 1099511627776) : PC Tryz.prog 254 [.isl .u8 c] (.tup [rS ⟨c.toArray⟩, rB true]) := by
 refine pc_seal rfl rfl ?_
 refine runE mixed fi254 ?_
 rfl
theorem oct1_c (c : List UInt8) (hc : c.length ≤ 1099511627776) : PC Tryz.prog 252 [.isl .u8 c] (.tup [.isl .u8 c, rB true]) := by
 refine pc_seal rfl rfl ?_
 refine runE mixed fi252 ?_
 refine callI_pure (bclone_c c (by omega)) ?_
 refine goE mixed ?_; trivial
theorem decBits_val {c : List UInt8} {v : Nat} (h : decBits c = some v) : v = bVal c := by
 unfold decBits at h
 split at h
 · rename_i hc; cases h; unfold bVal; rw [if_neg (fun q => q.elim (fun e => e hc.1) (fun e => e hc.2))]
 · cases h
theorem decTime_val {c : List UInt8} {v : Nat} (h : decTime c = some v) : v = tVal c := by
 unfold decTime at h
 split at h
 · rename_i hc; cases h; unfold tVal; rw [if_neg (by omega)]
 · cases h
theorem tkC_le {b : List UInt8} {n : Nat} (hb : b.length ≤ 1099511627776) : (takeC (b.drop n)).length ≤ 1099511627776 := by
 have := takeC_len (b.drop n)
 rw [List.length_drop] at this; omega
theorem rint_ok (b : List UInt8) (n : Nat) (hn : n ≤ b.length) (hb : b.length ≤ 1099511627776) {v : Int} {k : Nat} (h : intP (b.drop n) = .ok (v, k)) : PE Tryz.prog 153 [.ptr 0 0] [rdr b n] (.ret (.tup [(rI) v, rI 0])) [rdr b (n + k)] := by
 obtain ⟨h1, h2, rfl⟩ := rdP_ok h
 have hr := read_int 199 2 b n hn hb _ _ (int1_c (takeC (b.drop n)) (tkC_le hb)) ⟨_, .inl rfl⟩
 rw [if_pos h1, if_pos (by rw [h2]; rfl), if_pos ⟨h1, by rw [h2]; rfl⟩, ← decInt_val h2] at hr
 refine pe_seal (Nat.le_refl _) ?_
 refine runE mixed fi153 ?_
 refine effE mixed [0] (hr) ?_; trivial
theorem rint_er (b : List UInt8) (n : Nat) (hn : n ≤ b.length) (hb : b.length ≤ 1099511627776) {e : Nat} (h : intP (b.drop n) = .error e) : PE Tryz.prog 153 [.ptr 0 0] [rdr b n] (.ret (.tup [rI 0, rI e])) [rdr b n] := by
 have hr := read_int 199 2 b n hn hb _ _ (int1_c (takeC (b.drop n)) (tkC_le hb)) ⟨_, .inl rfl⟩
 have hr' : PE Tryz.prog 198 [.ptr 0 0, .raw (.int .u8 (2 : UInt8).toNat), .fn 199 [] []] [rdr b n] (.ret (.tup [rI 0, rI e])) [rdr b n] := by
  rcases rdP_er h with ⟨h1, h2, rfl⟩ | ⟨h1, rfl⟩
  · rw [if_pos h1, if_neg (by rw [h2]; simp), if_neg (fun q => by rw [h2] at q; simp at q)] at hr
    exact hr
  · rw [if_neg h1, if_neg (fun q => h1 q.1)] at hr
    exact hr
 refine pe_seal (Nat.le_refl _) ?_
 refine runE mixed fi153 ?_
 refine effE mixed [0] (hr') ?_; trivial
theorem rbits_ok (b : List UInt8) (n : Nat) (hn : n ≤ b.length) (hb : b.length ≤ 1099511627776) {v : Nat} {k : Nat} (h : bitsP (b.drop n) = .ok (v, k)) : PE Tryz.prog 228 [.ptr 0 0] [rdr b n] (.ret (.tup [(fun v => .raw (.int .u32 (v : Nat))) v, rI 0])) [rdr b (n + k)] := by
 obtain ⟨h1, h2, rfl⟩ := rdP_ok h
 have hr := read_u32 261 3 b n hn hb _ _ (bits1_c (takeC (b.drop n))) ⟨_, .inl rfl⟩
 rw [if_pos h1, if_pos (by rw [h2]; rfl), if_pos ⟨h1, by rw [h2]; rfl⟩, ← decBits_val h2] at hr
 refine pe_seal (Nat.le_refl _) ?_
 refine runE mixed fi228 ?_
 refine effE mixed [0] (hr) ?_; trivial
theorem rbits_er (b : List UInt8) (n : Nat) (hn : n ≤ b.length) (hb : b.length ≤ 1099511627776) {e : Nat} (h : bitsP (b.drop n) = .error e) : PE Tryz.prog 228 [.ptr 0 0] [rdr b n] (.ret (.tup [.raw (.int .u32 0), rI e])) [rdr b n] := by
 have hr := read_u32 261 3 b n hn hb _ _ (bits1_c (takeC (b.drop n))) ⟨_, .inl rfl⟩
 have hr' : PE Tryz.prog 260 [.ptr 0 0, .raw (.int .u8 (3 : UInt8).toNat), .fn 261 [] []] [rdr b n] (.ret (.tup [.raw (.int .u32 0), rI e])) [rdr b n] := by
  rcases rdP_er h with ⟨h1, h2, rfl⟩ | ⟨h1, rfl⟩
  · rw [if_pos h1, if_neg (by rw [h2]; simp), if_neg (fun q => by rw [h2] at q; simp at q)] at hr
    exact hr
  · rw [if_neg h1, if_neg (fun q => h1 q.1)] at hr
    exact hr
 refine pe_seal (Nat.le_refl _) ?_
 refine runE mixed fi228 ?_
 refine effE mixed [0] (hr') ?_; trivial
theorem rtime_ok (b : List UInt8) (n : Nat) (hn : n ≤ b.length) (hb : b.length ≤ 1099511627776) {v : Nat} {k : Nat} (h : timeP (b.drop n) = .ok (v, k)) : PE Tryz.prog 230 [.ptr 0 0] [rdr b n] (.ret (.tup [(fun v => rI (v : Nat)) v, rI 0])) [rdr b (n + k)] := by
 obtain ⟨h1, h2, rfl⟩ := rdP_ok h
 have hr := read_int 263 24 b n hn hb _ _ (time1_c (takeC (b.drop n))) ⟨_, .inl rfl⟩
 rw [if_pos h1, if_pos (by rw [h2]; rfl), if_pos ⟨h1, by rw [h2]; rfl⟩, ← decTime_val h2] at hr
 refine pe_seal (Nat.le_refl _) ?_
 refine runE mixed fi230 ?_
 refine effE mixed [0] (hr) ?_; trivial
theorem rtime_er (b : List UInt8) (n : Nat) (hn : n ≤ b.length) (hb : b.length ≤ 1099511627776) {e : Nat} (h : timeP (b.drop n) = .error e) : PE Tryz.prog 230 [.ptr 0 0] [rdr b n] (.ret (.tup [rI 0, rI e])) [rdr b n] := by
 have hr := read_int 263 24 b n hn hb _ _ (time1_c (takeC (b.drop n))) ⟨_, .inl rfl⟩
 have hr' : PE Tryz.prog 198 [.ptr 0 0, .raw (.int .u8 (24 : UInt8).toNat), .fn 263 [] []] [rdr b n] (.ret (.tup [rI 0, rI e])) [rdr b n] := by
  rcases rdP_er h with ⟨h1, h2, rfl⟩ | ⟨h1, rfl⟩
  · rw [if_pos h1, if_neg (by rw [h2]; simp), if_neg (fun q => by rw [h2] at q; simp at q)] at hr
    exact hr
  · rw [if_neg h1, if_neg (fun q => h1 q.1)] at hr
    exact hr
 refine pe_seal (Nat.le_refl _) ?_
 refine runE mixed fi230 ?_
 refine effE mixed [0] (hr') ?_; trivial
end Go.Proofs.YthmoognbccfpiaaGreatDoor

/- Contracts: the reader, strings, octets, sequences, tagged elements. -/
namespace Go.Proofs.YthmoognbccfpiaaGreatDoor
open Go Go.Sx Go.Proofs
set_option maxRecDepth 100000
set_option maxHeartbeats 4000000
set_option linter.unusedSimpArgs false

theorem rstr_ok (b : List UInt8) (n : Nat) (hn : n ≤ b.length) (hb : b.length ≤ 1099511627776) {v : ByteArray} {k : Nat} (h : strP (b.drop n) = .ok (v, k)) : PE Tryz.prog 214 [.ptr 0 0] [rdr b n] (.ret (.tup [rS v, rI 0])) [rdr b (n + k)] := by
 obtain ⟨h1, h2, rfl⟩ := rdP_ok h
 have hr := read_str 254 27 b n hn hb _ _ (str1_c (takeC (b.drop n)) (tkC_le hb)) ⟨_, .inl rfl⟩
 rw [if_pos h1, if_pos rfl, if_pos ⟨h1, rfl⟩] at hr
 cases h2
 refine pe_seal (Nat.le_refl _) ?_
 refine runE mixed fi214 ?_
 refine effE mixed [0] (hr) ?_; trivial
theorem rstr_er (b : List UInt8) (n : Nat) (hn : n ≤ b.length) (hb : b.length ≤ 1099511627776) {e : Nat} (h : strP (b.drop n) = .error e) : PE Tryz.prog 214 [.ptr 0 0] [rdr b n] (.ret (.tup [.raw (.string ⟨#[]⟩), rI e])) [rdr b n] := by
 have hr := read_str 254 27 b n hn hb _ _ (str1_c (takeC (b.drop n)) (tkC_le hb)) ⟨_, .inl rfl⟩
 have hr' : PE Tryz.prog 253 [.ptr 0 0, .raw (.int .u8 (27 : UInt8).toNat), .fn 254 [] []] [rdr b n] (.ret (.tup [.raw (.string ⟨#[]⟩), rI e])) [rdr b n] := by
  rcases rdP_er h with ⟨h1, h2, rfl⟩ | ⟨h1, rfl⟩
  · cases h2
  · rw [if_neg h1, if_neg (fun q => h1 q.1)] at hr
    exact hr
 refine pe_seal (Nat.le_refl _) ?_
 refine runE mixed fi214 ?_
 refine effE mixed [0] (hr') ?_; trivial
theorem roct_ok (b : List UInt8) (n : Nat) (hn : n ≤ b.length) (hb : b.length ≤ 1099511627776) {v : List UInt8} {k : Nat} (h : octP (b.drop n) = .ok (v, k)) : PE Tryz.prog 207 [.ptr 0 0] [rdr b n] (.ret (.tup [.isl .u8 v, rI 0])) [rdr b (n + k)] := by
 obtain ⟨h1, h2, rfl⟩ := rdP_ok h
 have hr := read_bytes 252 4 b n hn hb _ _ (oct1_c (takeC (b.drop n)) (tkC_le hb)) ⟨.bool true, .inr ⟨_, rfl⟩⟩
 rw [if_pos h1, if_pos rfl, if_pos ⟨h1, rfl⟩] at hr
 cases h2
 refine pe_seal (Nat.le_refl _) ?_
 refine runE mixed fi207 ?_
 refine effE mixed [0] (hr) ?_; trivial
theorem roct_er (b : List UInt8) (n : Nat) (hn : n ≤ b.length) (hb : b.length ≤ 1099511627776) {e : Nat} (h : octP (b.drop n) = .error e) : PE Tryz.prog 207 [.ptr 0 0] [rdr b n] (.ret (.tup [.isl .u8 [], rI e])) [rdr b n] := by
 have hr := read_bytes 252 4 b n hn hb _ _ (oct1_c (takeC (b.drop n)) (tkC_le hb)) ⟨.bool true, .inr ⟨_, rfl⟩⟩
 have hr' : PE Tryz.prog 251 [.ptr 0 0, .raw (.int .u8 (4 : UInt8).toNat), .fn 252 [] []] [rdr b n] (.ret (.tup [.isl .u8 [], rI e])) [rdr b n] := by
  rcases rdP_er h with ⟨h1, h2, rfl⟩ | ⟨h1, rfl⟩
  · cases h2
  · rw [if_neg h1, if_neg (fun q => h1 q.1)] at hr
    exact hr
 refine pe_seal (Nat.le_refl _) ?_
 refine runE mixed fi207 ?_
 refine effE mixed [0] (hr') ?_; trivial
theorem readr_ok (tag : UInt8) (b : List UInt8) (n : Nat) (hn : n ≤ b.length) (hb : b.length ≤ 1099511627776) (h : takeE tag (b.drop n) = 0) :
 PE Tryz.prog 196 [.ptr 0 0, .raw (.int .u8 tag.toNat), .fn 197 [] []] [rdr b n] (.ret (.tup [.ptr 1 0, rI 0])) [rdr b (n + takeN (b.drop n)), rdr (takeC (b.drop n)) 0] := by
 have ht := take_c tag b n hn hb
 rw [if_pos h, if_pos h, h] at ht
 generalize takeC (b.drop n) = c at *
 generalize takeN (b.drop n) = k at *
 refine pe_seal (by simp) ?_
 refine runE mixed fi196 ?_
 refine effE mixed [0] (ht) ?_
 refine effE mixed [] (contained_c c) ?_; trivial
theorem readr_er (tag : UInt8) (b : List UInt8) (n : Nat) (hn : n ≤ b.length) (hb : b.length ≤ 1099511627776) (h : takeE tag (b.drop n) ≠ 0) :
 PE Tryz.prog 196 [.ptr 0 0, .raw (.int .u8 tag.toNat), .fn 197 [] []] [rdr b n] (.ret (.tup [.raw (.pointer none), rI (takeE tag (b.drop n))])) [rdr b n] := by
 have ht := take_c tag b n hn hb
 rw [if_neg h, if_neg h] at ht
 generalize takeE tag (b.drop n) = e at *
 refine pe_seal (by simp) ?_
 refine runE mixed fi196 ?_
 refine effE mixed [0] (ht) ?_
 exact ⟨fun _ => trivial, fun h0 => absurd (by omega) h⟩
theorem rseq_ok (b : List UInt8) (n : Nat) (hn : n ≤ b.length) (hb : b.length ≤ 1099511627776) (h : takeE 48 (b.drop n) = 0) :
 PE Tryz.prog 176 [.ptr 0 0] [rdr b n] (.ret (.tup [.ptr 1 0, rI 0])) [rdr b (n + takeN (b.drop n)), rdr (takeC (b.drop n)) 0] := by
 have hr := readr_ok 48 b n hn hb h
 refine pe_seal (by simp) ?_
 refine runE mixed fi176 ?_
 refine effE mixed [0] (hr) ?_; trivial
theorem rseq_er (b : List UInt8) (n : Nat) (hn : n ≤ b.length) (hb : b.length ≤ 1099511627776) (h : takeE 48 (b.drop n) ≠ 0) :
 PE Tryz.prog 176 [.ptr 0 0] [rdr b n] (.ret (.tup [.raw (.pointer none), rI (takeE 48 (b.drop n))])) [rdr b n] := by
 have hr := readr_er 48 b n hn hb h
 refine pe_seal (by simp) ?_
 refine runE mixed fi176 ?_
 refine effE mixed [0] (hr) ?_; trivial
theorem tag_wr {m : Nat} (hm : m ≤ 30) : IntKind.u8.wrap (IntKind.i64.wrap (160 + (m : Int))) = ((tagB m).toNat : Int) := by
 rw [wrapi (by omega)]
 exact (byte_ob _).symm
theorem nextB_iff {m : Nat} {r : List UInt8} : nextB m r = true ↔ ¬ ((r.length : Int) = 0) ∧ ((r.getD 0 Ty.u8.dflt).toNat : Int) = ((tagB m).toNat : Int) := by
 unfold nextB
 simp only [Bool.and_eq_true, decide_eq_true_eq, ne_eq]
 constructor
 · rintro ⟨h1, h2⟩
   exact ⟨by omega, by rw [show r.getD 0 Ty.u8.dflt = tagB m from h2]⟩
 · rintro ⟨h1, h2⟩
   exact ⟨by omega, UInt8.toNat_inj.1 (by exact_mod_cast h2)⟩
theorem nextB_no {m : Nat} {r : List UInt8} (h : nextB m r = false) (h1 : ¬ ((r.length : Int) = 0)) : ¬ ((r.getD 0 Ty.u8.dflt).toNat : Int) = ((tagB m).toNat : Int) := fun h2 => by
 rw [nextB_iff.2 ⟨h1, h2⟩] at h; cases h
theorem rtag_no (m : Nat) (hm : m ≤ 30) (b : List UInt8) (n : Nat) (hn : n ≤ b.length) (h : nextB m (b.drop n) = false) :
 PE Tryz.prog 200 [.ptr 0 0, rI m] [rdr b n] (.ret (.tup [.raw (.pointer none), rB false, rI 0])) [rdr b n] := by
 have hr := rest_c b n hn
 have hu := tag_wr hm
 have hx := nextB_no h
 generalize b.drop n = r at *
 refine pe_seal (by simp) ?_
 refine runE mixed fi200 ?_
 refine ⟨fun _ => ⟨fun h30 => absurd h30 (by omega), fun _ => ?_⟩, fun hneg => by exfalso; omega⟩
 refine callI_eff [0] (hr) rfl (by decide) (by repeat first | exact trivial | exact rfl | refine And.intro ?_ ?_) rfl rfl ?_
 simp only [afterO, Out.ren, SV.ren, mgA, sig, SObj.ren, SV.renL, List.set, List.map, List.append_nil, hu]
 refine run_sound mixed 600 _ ?_
 with_reducible refine sx1 hu ?_
 exact ⟨fun h0 => ⟨by omega, fun _ => trivial, fun h1 => absurd h1 (hx h0)⟩, fun _ => trivial⟩
theorem rtag_ok (m : Nat) (hm : m ≤ 30) (b : List UInt8) (n : Nat) (hn : n ≤ b.length) (hb : b.length ≤ 1099511627776) (h : nextB m (b.drop n) = true) (ht : takeE (tagB m) (b.drop n) = 0) :
 PE Tryz.prog 200 [.ptr 0 0, rI m] [rdr b n] (.ret (.tup [.ptr 1 0, rB true, rI 0])) [rdr b (n + takeN (b.drop n)), rdr (takeC (b.drop n)) 0] := by
 have hr := rest_c b n hn
 have hd := readr_ok (tagB m) b n hn hb ht
 have hu := tag_wr hm
 obtain ⟨hx1, hx2⟩ := nextB_iff.1 h
 generalize takeC (b.drop n) = c at *
 generalize takeN (b.drop n) = k at *
 generalize b.drop n = r at *
 refine pe_seal (by simp) ?_
 refine runE mixed fi200 ?_
 refine ⟨fun _ => ⟨fun h30 => absurd h30 (by omega), fun _ => ?_⟩, fun hneg => by exfalso; omega⟩
 refine callI_eff [0] (hr) rfl (by decide) (by repeat first | exact trivial | exact rfl | refine And.intro ?_ ?_) rfl rfl ?_
 simp only [afterO, Out.ren, SV.ren, mgA, sig, SObj.ren, SV.renL, List.set, List.map, List.append_nil, hu]
 refine run_sound mixed 600 _ ?_
 with_reducible refine sx1 hu ?_
 refine ⟨fun h0 => ⟨by omega, fun h1 => absurd hx2 h1, fun _ => ?_⟩, fun h0 => absurd h0 hx1⟩
 refine effE mixed [0] (hd) ?_; trivial
theorem rtag_er (m : Nat) (hm : m ≤ 30) (b : List UInt8) (n : Nat) (hn : n ≤ b.length) (hb : b.length ≤ 1099511627776) (h : nextB m (b.drop n) = true) (ht : takeE (tagB m) (b.drop n) ≠ 0) :
 PE Tryz.prog 200 [.ptr 0 0, rI m] [rdr b n] (.ret (.tup [.raw (.pointer none), rB false, rI (takeE (tagB m) (b.drop n))])) [rdr b n] := by
 have hr := rest_c b n hn
 have hd := readr_er (tagB m) b n hn hb ht
 have hu := tag_wr hm
 obtain ⟨hx1, hx2⟩ := nextB_iff.1 h
 generalize takeE (tagB m) (b.drop n) = e at *
 generalize b.drop n = r at *
 refine pe_seal (by simp) ?_
 refine runE mixed fi200 ?_
 refine ⟨fun _ => ⟨fun h30 => absurd h30 (by omega), fun _ => ?_⟩, fun hneg => by exfalso; omega⟩
 refine callI_eff [0] (hr) rfl (by decide) (by repeat first | exact trivial | exact rfl | refine And.intro ?_ ?_) rfl rfl ?_
 simp only [afterO, Out.ren, SV.ren, mgA, sig, SObj.ren, SV.renL, List.set, List.map, List.append_nil, hu]
 refine run_sound mixed 600 _ ?_
 with_reducible refine sx1 hu ?_
 refine ⟨fun h0 => ⟨by omega, fun h1 => absurd hx2 h1, fun _ => ?_⟩, fun h0 => absurd h0 hx1⟩
 refine effE mixed [0] (hd) ?_
 exact fun q => ht (by omega)
end Go.Proofs.YthmoognbccfpiaaGreatDoor

/- Contracts: reading that leaves by a panic. -/
namespace Go.Proofs.YthmoognbccfpiaaGreatDoor
open Go Go.Sx Go.Proofs
set_option maxRecDepth 100000
set_option maxHeartbeats 4000000
set_option linter.unusedSimpArgs false

end Go.Proofs.YthmoognbccfpiaaGreatDoor

