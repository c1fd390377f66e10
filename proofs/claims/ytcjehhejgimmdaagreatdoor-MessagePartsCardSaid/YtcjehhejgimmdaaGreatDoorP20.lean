/- The plain law: the program and the reference tell the same of entries. -/
import Derived.Test.YtcjehhejgimmdaaGreatDoorPRv
import Derived.Test.YtcjehhejgimmdaaGreatDoorP18
import Derived.Test.YtcjehhejgimmdaaGreatDoorP16
import Derived.Test.YtcjehhejgimmdaaGreatDoorP19
set_option linter.all false
namespace Go.Proofs.YtcjehhejgimmdaaGreatDoor
open Go Go.Sx Go.Proofs
set_option maxRecDepth 100000
set_option maxHeartbeats 1000000
theorem j1h {α : Type} {l : List α} {d : α} {j : Nat} (h : j < l.length) : l.getD j d = l[j] := by
 rw [List.getD_eq_getElem?_getD, List.getElem?_eq_getElem h]; rfl
end Go.Proofs.YtcjehhejgimmdaaGreatDoor
namespace Go.Proofs.YtcjehhejgimmdaaGreatDoor
open Go Go.Sx Go.Proofs
set_option maxRecDepth 100000
set_option maxHeartbeats 4000000
theorem q3m (n : Nat) : (lenS n).length ≤ 4 := by
 unfold lenS
 split
 · simp
 split
 · simp
 split <;> simp
theorem q0o (t : UInt8) (l : List (List UInt8)) : (elemS t l).length ≤ l.flatten.length + 5 := by
 unfold elemS
 split
 · have := q3m l.flatten.length
   simp only [tlv, List.length_cons, List.length_append]; omega
 simp
theorem q0n (t n : Int) (b : List UInt8) : (wrapS t n b).length ≤ b.length + 5 := by
 unfold wrapS
 split
 · have := q0o (byteOf (t + n)) [b]
   simp only [List.flatten_cons, List.flatten_nil, List.append_nil] at this
   exact this
 simp
theorem z8j (v : Int) : intSz v ≤ 9 := by
 unfold intSz
 cases h : firstN 9 (oneB v) with
 | none => simp
 | some k => have := (q6g h).1; simp; omega
theorem q1z (v : Int) : (intS v).length ≤ 14 := by
 unfold intS
 split
 · have h1 := q0o 2 [numS v (intSz v)]
   have h2 := z8j v
   simp only [List.flatten_cons, List.flatten_nil, List.append_nil, numS, List.length_map, List.length_range] at h1 h2 ⊢
   omega
 simp
theorem j2w (v : Int) (hv : 0 ≤ v ∧ v ≤ 4611686018427387904) : PC Tryz.prog 55 [rI v] (.isl .u8 (intS v)) := by
 obtain ⟨n, rfl⟩ : ∃ n : Nat, v = n := ⟨v.toNat, by omega⟩
 exact j1M n (by omega)
theorem q7K : ∀ (l : List UInt8) (v : Nat), l.foldl (fun v c => v * 256 + c.toNat) v = v * 256 ^ l.length + beN l
 | [], v => by simp [beN]
 | x :: l, v => by
  have h1 := q7K l (v * 256 + x.toNat)
  have h2 := q7K l (0 * 256 + x.toNat)
  simp only [List.foldl_cons, List.length_cons, beN] at *
  rw [h1, h2, Nat.pow_succ, Nat.add_mul, Nat.zero_mul, Nat.zero_add, Nat.mul_assoc, Nat.mul_comm 256, Nat.add_assoc]
theorem z7m (x : UInt8) (l : List UInt8) : beN (x :: l) = x.toNat * 256 ^ l.length + beN l := by
 have := q7K l (0 * 256 + x.toNat)
 rw [Nat.zero_mul, Nat.zero_add] at this
 unfold beN at *
 rw [List.foldl_cons, Nat.zero_mul, Nat.zero_add, this]
theorem q0s (v : Int) (m : Nat) : (numS v m).length = m := by simp [numS]
theorem q5k (n : Nat) : ∀ (m : Nat), m ≤ 9 → beN (numS (n : Int) m) = n % 256 ^ m
 | 0, _ => by simp [numS, beN, Nat.mod_one]
 | m + 1, h => by
  rw [q2h, z7m, q0s, q5k n m (by omega), q2e n m (by omega), q1w, Nat.mod_pow_succ]
  unfold qN
  rw [Nat.mul_comm, Nat.add_comm]

def sgn1 (x : UInt8) : Int := IntKind.i8.wrap (x.toNat : Int)
theorem z7h {x : UInt8} (h : x.toNat < 128) : sgn1 x = (x.toNat : Int) := by
 unfold sgn1
 simp [IntKind.wrap, IntKind.bits, IntKind.signed]
 omega
def sgn (c : List UInt8) : Int := (c.drop 1).foldl (fun v x => v * 256 + (x.toNat : Int)) (sgn1 (c.getD 0 0))
theorem q9P : ∀ (l : List UInt8) (v : Nat), l.foldl (fun (v : Int) (x : UInt8) => v * 256 + (x.toNat : Int)) (v : Int) = ((l.foldl (fun v c => v * 256 + c.toNat) v : Nat) : Int)
 | [], v => rfl
 | x :: l, v => by
  have := q9P l (v * 256 + x.toNat)
  simp only [List.foldl_cons]
  rw [← this]; push_cast; rfl
theorem z9R {x : UInt8} {l : List UInt8} (h : x.toNat < 128) : sgn (x :: l) = (beN (x :: l) : Int) := by
 unfold sgn
 rw [List.drop_succ_cons, List.drop_zero, List.getD_cons_zero, z7h h, q9P]
 unfold beN
 rw [List.foldl_cons, Nat.zero_mul, Nat.zero_add]
def decInt (c : List UInt8) : Option Int := if 1 ≤ c.length ∧ c.length ≤ 8 ∧ intS (sgn c) = elemS 2 [c] then some (sgn c) else none
def decBits (c : List UInt8) : Option Nat := if c.length = 5 ∧ c.getD 0 0 = 0 then some (beN (c.drop 1)) else none
def decTime (c : List UInt8) : Option Nat := if c.length = 6 ∧ beN c ≤ 1099511627776 then some (beN c) else none
def decStr (c : List UInt8) : Option ByteArray := some ⟨c.toArray⟩
def decOct (c : List UInt8) : Option (List UInt8) := some c
theorem z6z (n : Nat) (h : n ≤ 4611686018427387904) : ∃ c, intS n = tlv 2 c ∧ c.length ≤ 8 ∧ 1 ≤ c.length ∧ decInt c = some (n : Int) ∧ beN c = n ∧ (c.length = 8 → 36028797018963968 ≤ n) := by
 have h7 : oneB (n : Int) 7 = true := by
  have : qN n 7 ≤ 127 := by unfold qN; exact Nat.div_le_of_le_mul (by omega)
  unfold oneB; rw [q2x, decide_eq_true (show ((qN n 7 : Nat) : Int) ≤ 127 by omega), decide_eq_true (show (-128 : Int) ≤ (qN n 7 : Int) by omega)]; rfl
 obtain ⟨k, hk⟩ : ∃ k, firstN 9 (oneB (n : Int)) = some k := by
  cases hf : firstN 9 (oneB (n : Int)) with
  | some k => exact ⟨k, rfl⟩
  | none =>
   unfold firstN at hf
   rw [List.find?_range_eq_none] at hf
   have := hf 7 (by omega)
   rw [h7] at this; cases this
 obtain ⟨_, hk1, hk2⟩ := q6g hk
 have hk7 : k ≤ 7 := by
  rcases Nat.lt_or_ge 7 k with hl | hl
  · have := hk2 7 hl; rw [h7] at this; cases this
  exact hl
 have hsz : intSz (n : Int) = k + 1 := by unfold intSz; rw [hk]; simp; omega
 have hint : intS (n : Int) = tlv 2 (numS n (k + 1)) := by
  unfold intS
  rw [if_pos (by omega), hsz, q1j (by rw [q0s]; omega)]
 have hq : qN n k ≤ 127 := by
  simp only [oneB, q2x, Bool.and_eq_true, decide_eq_true_eq] at hk1
  omega
 have hlt : n < 256 ^ (k + 1) := by
  have h1 : n < (qN n k + 1) * 256 ^ k := by
   unfold qN
   have := Nat.lt_mul_div_succ n (show 0 < 256 ^ k from Nat.pow_pos (by decide))
   rw [Nat.mul_comm] at this; exact this
  have h2 : (qN n k + 1) * 256 ^ k ≤ 256 * 256 ^ k := Nat.mul_le_mul_right _ (by omega)
  rw [Nat.pow_succ, Nat.mul_comm]; omega
 have hb : beN (numS (n : Int) (k + 1)) = n := by rw [q5k n _ (by omega), Nat.mod_eq_of_lt hlt]
 have hs : sgn (numS (n : Int) (k + 1)) = (n : Int) := by
  rw [q2h, z9R (by rw [q2e n k (by omega), q1w]; omega), ← q2h, hb]
 refine ⟨numS n (k + 1), hint, by rw [q0s]; omega, by rw [q0s]; omega, ?_, hb, fun h8 => ?_⟩
 · unfold decInt
   rw [hs, hint, q1j (by rw [q0s]; omega), if_pos ⟨by rw [q0s]; omega, by rw [q0s]; omega, rfl⟩]
 rw [q0s] at h8
 have hk6 := hk2 6 (by omega)
 simp only [oneB, q2x, Bool.and_eq_false_iff, decide_eq_false_iff_not] at hk6
 have : 128 ≤ qN n 6 := by omega
 unfold qN at this
 have h9 := (Nat.le_div_iff_mul_le (show 0 < 256 ^ 6 by decide)).1 this
 omega
theorem q4E {v : Int} (h : 0 ≤ v ∧ v ≤ 4611686018427387904) : ∃ c, intS v = tlv 2 c ∧ c.length ≤ 8 ∧ 1 ≤ c.length ∧ decInt c = some v ∧ (beN c : Int) = v ∧ (c.length = 8 → 36028797018963968 ≤ v) := by
 obtain ⟨n, rfl⟩ : ∃ n : Nat, v = n := ⟨v.toNat, by omega⟩
 obtain ⟨c, h1, h2, h3, h4, h5, h6⟩ := z6z n (by omega)
 exact ⟨c, h1, h2, h3, h4, by rw [h5], fun h => by have := h6 h; omega⟩
def intP : PR Int := rdP 2 decInt
def bitsP : PR Nat := rdP 3 decBits
def octP : PR (List UInt8) := rdP 4 decOct
def timeP : PR Nat := rdP 24 decTime
def strP : PR ByteArray := rdP 27 decStr
theorem q8N {v : Int} (h : 0 ≤ v ∧ v ≤ 4611686018427387904) (r : List UInt8) : intP (intS v ++ r) = .ok (v, (intS v).length) := by
 obtain ⟨c, h1, h2, _, h4, _⟩ := q4E h
 rw [h1]; exact q4R (by omega) h4 r
theorem q6x {v : Int} : bitsS v = tlv 3 (0 :: numS v 4) := by
 unfold bitsS elemS
 simp only [List.flatten_cons, List.flatten_nil, List.append_nil, List.cons_append, List.nil_append]
 rw [if_pos (by simp [q0s])]
theorem z8p {n : Nat} (h : n < 4294967296) (r : List UInt8) : bitsP (bitsS n ++ r) = .ok (n, (bitsS n).length) := by
 rw [q6x]
 refine q4R (by simp [q0s]) ?_ r
 unfold decBits
 rw [if_pos ⟨by simp [q0s], rfl⟩, List.drop_succ_cons, List.drop_zero, q5k n 4 (by omega), Nat.mod_eq_of_lt (by omega)]
theorem q3J {t : Int} (h : 0 ≤ t ∧ t ≤ 1099511627776) : timeS t = tlv 24 (numS t 6) := by
 unfold timeS; rw [if_pos h, q1j (by rw [q0s]; omega)]
theorem z2y {n : Nat} (h : n ≤ 1099511627776) (r : List UInt8) : timeP (timeS n ++ r) = .ok (n, (timeS n).length) := by
 rw [q3J (by omega)]
 refine q4R (by rw [q0s]; omega) ?_ r
 unfold decTime
 rw [q5k n 6 (by omega), Nat.mod_eq_of_lt (by omega), if_pos ⟨q0s _ _, h⟩]
theorem z5B {b : List UInt8} (h : b.length ≤ 16777215) (r : List UInt8) : octP (elemS 4 [b] ++ r) = .ok (b, (elemS 4 [b]).length) := by
 rw [q1j h]; exact q4R h rfl r
theorem z3N {s : ByteArray} (h : s.size ≤ 16777215) (r : List UInt8) : strP (elemS 27 [s.data.toList] ++ r) = .ok (s, (elemS 27 [s.data.toList]).length) := by
 have hl : s.data.toList.length = s.size := by simp
 rw [q1j (by omega)]
 exact q4R (by omega) (by unfold decStr; simp) r
theorem full {α : Type} {p : PR α} {v : α} {e : List UInt8} (h : ∀ r, p (e ++ r) = .ok (v, e.length)) : p e = .ok (v, e.length) := by have := h []; rwa [List.append_nil] at this

theorem q4q {α : Type} {tag : UInt8} {dec : List UInt8 → Option α} {r : List UInt8} {v : α} {k : Nat} (h : rdP tag dec r = .ok (v, k)) : takeE tag r = 0 ∧ dec (takeC r) = some v ∧ k = takeN r := by
 unfold rdP at h
 split at h
 · split at h
   · cases h; exact ⟨by assumption, by assumption, rfl⟩
   cases h
 cases h
theorem q7t {α : Type} {tag : UInt8} {dec : List UInt8 → Option α} {r : List UInt8} {e : Nat} (h : rdP tag dec r = .error e) : (takeE tag r = 0 ∧ dec (takeC r) = none ∧ e = 6) ∨ (takeE tag r ≠ 0 ∧ e = takeE tag r) := by
 unfold rdP at h
 split at h
 · split at h
   · cases h
   cases h; exact .inl ⟨by assumption, by assumption, rfl⟩
 cases h; exact .inr ⟨by assumption, rfl⟩
theorem z8E {α : Type} {tag : UInt8} {dec : List UInt8 → Option α} {r : List UInt8} {v : α} {k : Nat} (h : rdP tag dec r = .ok (v, k)) : k ≤ r.length := by
 obtain ⟨h1, _, rfl⟩ := q4q h
 exact q4N h1
theorem z4B (v : Int) (c : Nat) (hv : -36028797018963968 ≤ v ∧ v < 36028797018963968) (hc : c < 256) : IntKind.i64.wrap ((BitVec.ofInt 64 (v * 256) ||| BitVec.ofInt 64 ((c : Nat) : Int)).toNat : Int) = v * 256 + c := by
 obtain ⟨m, hm⟩ : ∃ m : Nat, (BitVec.ofInt 64 (v * 256)).toNat = m * 256 ∧ ((m : Int) * 256 = v * 256 ∨ (m : Int) * 256 = v * 256 + 18446744073709551616) := by
  refine ⟨((v * 256) % 18446744073709551616).toNat / 256, ?_, ?_⟩
  · rw [BitVec.toNat_ofInt]
    have : (((2 ^ 64 : Nat)) : Int) = 18446744073709551616 := by decide
    rw [this]; omega
  omega
 have h2 : (BitVec.ofInt 64 ((c : Nat) : Int)).toNat = c := by rw [BitVec.ofInt_natCast, BitVec.toNat_ofNat]; exact Nat.mod_eq_of_lt (by omega)
 have h3 : m * 256 ||| c = m * 256 + c := by
  have := Nat.shiftLeft_add_eq_or_of_lt (b := c) (i := 8) hc m
  rw [Nat.shiftLeft_eq] at this
  exact this.symm
 rw [BitVec.toNat_or, hm.1, h2, h3]
 have hw : ∀ x : Int, IntKind.i64.wrap x = if x % 18446744073709551616 < 9223372036854775808 then x % 18446744073709551616 else x % 18446744073709551616 - 18446744073709551616 := fun x => by
  simp [IntKind.wrap, IntKind.bits, IntKind.signed]
  split <;> omega
 rw [hw]
 push_cast
 rcases hm.2 with h | h <;> split <;> omega
def sgnK (c : List UInt8) (i : Nat) : Int := ((c.drop 1).take i).foldl (fun v x => v * 256 + (x.toNat : Int)) (sgn1 (c.getD 0 0))
theorem z4d (x : UInt8) : -128 ≤ sgn1 x ∧ sgn1 x < 128 := by
 have := x.toNat_lt
 unfold sgn1
 simp [IntKind.wrap, IntKind.bits, IntKind.signed]
 omega
theorem q9K {c : List UInt8} {i : Nat} (h : i < (c.drop 1).length) : sgnK c (i + 1) = sgnK c i * 256 + (((c.drop 1).getD i 0).toNat : Int) := by
 unfold sgnK
 rw [q0z (d := 0) h, List.foldl_append]; rfl
theorem z5m (c : List UInt8) : ∀ i, i ≤ (c.drop 1).length → -(128 * 256 ^ i : Nat) ≤ sgnK c i ∧ sgnK c i < (128 * 256 ^ i : Nat)
 | 0, _ => by have := z4d (c.getD 0 0); simpa [sgnK] using this
 | i + 1, h => by
  have ih := z5m c i (by omega)
  have hx := ((c.drop 1).getD i 0).toNat_lt
  rw [q9K (by omega), Nat.pow_succ]
  omega
theorem z9O (a b : List UInt8) (ha : a.length ≤ 140737488355328) (hb : b.length ≤ 140737488355328) : PC Tryz.prog 105 [.isl .u8 a, .isl .u8 b] (rB (decide (a = b))) := by
 refine q0B rfl rfl ?_
 refine rQ fi105 ?_
 exact decide_eq_decide.2 ⟨fun h => by simpa [strOf] using h, fun h => by rw [h]⟩
def iVal (c : List UInt8) : Int := if c.length < 1 ∨ 8 < c.length then 0 else sgn c
theorem z3w {c : List UInt8} {v : Int} (h : decInt c = some v) : v = iVal c := by
 unfold decInt at h
 split at h
 · rename_i hc; cases h
   unfold iVal; rw [if_neg (by omega)]
 cases h
theorem z8d (c : List UInt8) : sgnK c (c.drop 1).length = sgn c := by unfold sgnK sgn; rw [List.take_length]
theorem z8J (c : List UInt8) (hc : c.length ≤ 1099511627776) : PC Tryz.prog 218 [.isl .u8 c] (.tup [rI (iVal c), rB (decInt c).isSome]) := by
 refine q0e rfl rfl ?_
 refine rQ fi218 ?_
 have h0 : (c.length < 1 ∨ 8 < c.length) → iVal c = 0 ∧ (decInt c).isSome = false := fun h => by
  unfold iVal decInt
  rw [if_pos h, if_neg (by omega)]
  exact ⟨rfl, rfl⟩
 refine ⟨fun h1 => ⟨fun h8 => ?_, fun h8 => ⟨by omega, ⟨by omega, Nat.le_refl _⟩, ?_⟩⟩, fun h1 => ?_⟩
 · obtain ⟨e1, e2⟩ := h0 (by omega)
   rw [e1, e2]; exact ⟨rfl, rfl⟩
 rotate_left
 · obtain ⟨e1, e2⟩ := h0 (by omega)
   rw [e1, e2]; exact ⟨rfl, rfl⟩
 have hs1 : IntKind.i64.wrap (IntKind.i8.wrap ((c.getD 0 Ty.u8.dflt).toNat : Int)) = sgnK c 0 := by
  have := z4d (c.getD 0 0)
  show IntKind.i64.wrap (sgn1 (c.getD 0 0)) = _
  rw [wrapi (by omega)]; rfl
 rw [hs1]
 have htl : List.take c.length c = c := List.take_length
 rw [htl]
 have hl : (c.drop 1).length = c.length - 1 := List.length_drop
 generalize hD : c.drop 1 = d at *
 refine q0W (fun i => [(4, rI (sgnK c i)), (23, .raw (.int .i64 ((i : Nat) : Int)))]) (d.length) (fun j => (fun _ => true) j = true) (by first | decide | simp) (fun i => rfl) ?_ fun i hi hall => ?_
 · (with_reducible refine sxE ?_ <;> try exact True.intro)
   all_goals (try rfl)
 have hwr := wsx i (by omega)
 refine gQ ?_
 have bad : i < (d.length) → (fun _ => true) i = false → allN (d.length) (fun _ => true) = false := fun hlt hv => q0k hlt hv
 have fin : ¬ i < (d.length) → allN (d.length) (fun _ => true) = true := fun h => q0p fun j hj => hall j (by omega)
 try dsimp only at bad fin hall
 refine ⟨fun hlt => ⟨⟨by omega, hlt⟩, ?_⟩, fun hge => ?_⟩
 · have hb := z5m c i (by rw [hD]; omega)
   have hp : 256 ^ i ≤ 256 ^ 6 := Nat.pow_le_pow_right (by decide) (by omega)
   have hx : (d.getD i Ty.u8.dflt).toNat < 256 := UInt8.toNat_lt _
   have e0 : sgnK c i * 2 ^ min 8 64 = sgnK c i * 256 := rfl
   have e1 : IntKind.i64.wrap (sgnK c i * 256) = sgnK c i * 256 := wrapi (by omega)
   have e2 : IntKind.i64.wrap ((d.getD i Ty.u8.dflt).toNat : Int) = ((d.getD i Ty.u8.dflt).toNat : Int) := wrapi (by omega)
   have e3 := z4B (sgnK c i) (d.getD i Ty.u8.dflt).toNat (by omega) hx
   have e4 := q9K (c := c) (i := i) (by rw [hD]; exact hlt)
   rw [hD] at e4
   rw [e0, e1, e2]
   refine ⟨hlt, trivial, ⟨[], rfl⟩, ?_⟩
   with_reducible refine sx1 hwr ?_
   rw [e4]
   exact congrArg (Value.int .i64) e3
 obtain rfl : i = d.length := by omega
 have hall' := z8d c
 rw [hD] at hall'
 rw [hall']
 refine q0a (q1a (sgn c)) ?_
 refine gQ ?_
 refine q0v 0 ?_
 with_reducible refine sxE ?_
 refine q0a (q2j 2 2 rfl [c] (by simp)) ?_
 have g1 := q1z (sgn c)
 have g2 := q0o 2 [c]
 simp only [List.flatten_cons, List.flatten_nil, List.append_nil] at g2
 refine gQ ?_
 refine q0a (z9O _ _ (by omega) (by omega)) ?_
 refine gQ ?_
 have e1 : iVal c = sgn c := by unfold iVal; rw [if_neg (by omega)]
 have e2 : (decInt c).isSome = decide (intS (sgn c) = elemS 2 [c]) := by
  unfold decInt
  by_cases h : intS (sgn c) = elemS 2 [c]
  · rw [if_pos ⟨by omega, by omega, h⟩, decide_eq_true h]; rfl
  rw [if_neg (fun q => h q.2.2), decide_eq_false h]; rfl
 rw [e1, e2]
 exact ⟨rfl, rfl⟩
def bVal (c : List UInt8) : Nat := if c.length ≠ 5 ∨ c.getD 0 0 ≠ 0 then 0 else beN (c.drop 1)
theorem z5d (c : List UInt8) : PC Tryz.prog 222 [.isl .u8 c] (.tup [.raw (.int .u32 (bVal c)), rB (decBits c).isSome]) := by
 refine q0e rfl rfl ?_
 refine rQ fi222 ?_
 have hno : (c.length ≠ 5 ∨ c.getD 0 0 ≠ 0) → bVal c = 0 ∧ (decBits c).isSome = false := fun h => by
  unfold bVal decBits
  rw [if_pos h, if_neg (fun q => h.elim (fun e => e q.1) (fun e => e q.2))]
  exact ⟨rfl, rfl⟩
 refine ⟨fun h5 => ⟨by omega, fun h0 => ?_, fun h0 => ⟨⟨by omega, Nat.le_refl _⟩, ?_⟩⟩, fun h5 => ?_⟩
 · obtain ⟨e1, e2⟩ := hno (.inr fun e => h0 (by rw [show c.getD 0 Ty.u8.dflt = 0 from e]; rfl))
   rw [e1, e2]; exact ⟨rfl, rfl⟩
 · have hz : c.getD 0 0 = 0 := by
    apply UInt8.toNat_inj.1
    have : ((c.getD 0 Ty.u8.dflt).toNat : Int) = 0 := h0
    exact_mod_cast this
   have hl : (c.drop 1).length = 4 := by rw [List.length_drop]; omega
   rw [List.take_length]
   refine q0a (q7q (c.drop 1) (by omega)) ?_
   have hb := q3b (c.drop 1)
   rw [hl] at hb
   have e1 : bVal c = beN (c.drop 1) := by unfold bVal; rw [if_neg (fun q => q.elim (fun e => e (by omega)) (fun e => e hz))]
   have e2 : (decBits c).isSome = true := by unfold decBits; rw [if_pos ⟨by omega, hz⟩]; rfl
   have e3 : IntKind.u32.wrap ((beN (c.drop 1) : Nat) : Int) = ((beN (c.drop 1) : Nat) : Int) := by
    generalize beN (c.drop 1) = m at *
    have : m < 4294967296 := hb
    simp [IntKind.wrap, IntKind.bits, IntKind.signed]
    omega
   rw [e1, e2]
   refine uQ 600 _ ?_
   simp (maxSteps := 3000000) only [e3, go_sem, ↓zA, ↓reduceIte, ↓reduceDIte] <;> try simp only [zB]
 obtain ⟨e1, e2⟩ := hno (.inl (by omega))
 rw [e1, e2]; exact ⟨rfl, rfl⟩
def tVal (c : List UInt8) : Nat := if c.length ≠ 6 then 0 else beN c
theorem z4F (c : List UInt8) : PC Tryz.prog 219 [.isl .u8 c] (.tup [rI (tVal c), rB (decTime c).isSome]) := by
 refine q0e rfl rfl ?_
 refine rQ fi219 ?_
 refine ⟨fun h6 => ?_, fun h6 => q0a (q7q c (by omega)) ?_⟩
 · have e1 : tVal c = 0 := by unfold tVal; rw [if_pos (by omega)]
   have e2 : (decTime c).isSome = false := by unfold decTime; rw [if_neg (by omega)]; rfl
   rw [e1, e2]; exact ⟨rfl, rfl⟩
 have e1 : tVal c = beN c := by unfold tVal; rw [if_neg (by omega)]
 have e2 : (decTime c).isSome = decide (((beN c : Nat) : Int) ≤ 1099511627776) := by
  unfold decTime
  by_cases h : beN c ≤ 1099511627776
  · rw [if_pos ⟨by omega, h⟩, decide_eq_true (by omega)]; rfl
  rw [if_neg (by omega), decide_eq_false (by omega)]; rfl
 rw [e1, e2]
 refine gQ ?_; trivial
theorem z8z (c : List UInt8) (hc : c.length ≤ 1099511627776) : PC Tryz.prog 257 [.isl .u8 c] (.tup [rS ⟨c.toArray⟩, rB true]) := by
 refine q0e rfl rfl ?_
 refine rQ fi257 ?_
 rfl
theorem z8T (c : List UInt8) (hc : c.length ≤ 1099511627776) : PC Tryz.prog 255 [.isl .u8 c] (.tup [.isl .u8 c, rB true]) := by
 refine q0e rfl rfl ?_
 refine rQ fi255 ?_
 refine q0a (z2z c (by omega)) ?_
 refine gQ ?_; trivial
theorem z1j {c : List UInt8} {v : Nat} (h : decBits c = some v) : v = bVal c := by
 unfold decBits at h
 split at h
 · rename_i hc; cases h; unfold bVal; rw [if_neg (fun q => q.elim (fun e => e hc.1) (fun e => e hc.2))]
 cases h
theorem z0j {c : List UInt8} {v : Nat} (h : decTime c = some v) : v = tVal c := by
 unfold decTime at h
 split at h
 · rename_i hc; cases h; unfold tVal; rw [if_neg (by omega)]
 cases h
theorem q0V {b : List UInt8} {n : Nat} (hb : b.length ≤ 1099511627776) : (takeC (b.drop n)).length ≤ 1099511627776 := by
 have := q3K (b.drop n)
 rw [List.length_drop] at this; omega
theorem q8s (b : List UInt8) (n : Nat) (hn : n ≤ b.length) (hb : b.length ≤ 1099511627776) {v : Int} {k : Nat} (h : intP (b.drop n) = .ok (v, k)) : PE Tryz.prog 167 [.ptr 0 0] [rdr b n] (.ret (.tup [(rI) v, rI 0])) [rdr b (n + k)] := by
 obtain ⟨h1, h2, rfl⟩ := q4q h
 have hr := q5A 218 2 b n hn hb _ _ (z8J (takeC (b.drop n)) (q0V hb)) ⟨_, .inl rfl⟩
 rw [if_pos h1, if_pos (by rw [h2]; rfl), if_pos ⟨h1, by rw [h2]; rfl⟩, ← z3w h2] at hr
 refine q0c (Nat.le_refl _) ?_
 refine rQ fi167 ?_
 refine eQ [0] (hr) ?_; trivial
theorem q8q (b : List UInt8) (n : Nat) (hn : n ≤ b.length) (hb : b.length ≤ 1099511627776) {e : Nat} (h : intP (b.drop n) = .error e) : PE Tryz.prog 167 [.ptr 0 0] [rdr b n] (.ret (.tup [rI 0, rI e])) [rdr b n] := by
 have hr := q5A 218 2 b n hn hb _ _ (z8J (takeC (b.drop n)) (q0V hb)) ⟨_, .inl rfl⟩
 have hr' : PE Tryz.prog 217 [.ptr 0 0, .raw (.int .u8 (2 : UInt8).toNat), .fn 218 [] []] [rdr b n] (.ret (.tup [rI 0, rI e])) [rdr b n] := by
  rcases q7t h with ⟨h1, h2, rfl⟩ | ⟨h1, rfl⟩
  · rw [if_pos h1, if_neg (by rw [h2]; simp), if_neg (fun q => by rw [h2] at q; simp at q)] at hr
    exact hr
  rw [if_neg h1, if_neg (fun q => h1 q.1)] at hr
  exact hr
 refine q0c (Nat.le_refl _) ?_
 refine rQ fi167 ?_
 refine eQ [0] (hr') ?_; trivial
theorem z7Y (b : List UInt8) (n : Nat) (hn : n ≤ b.length) (hb : b.length ≤ 1099511627776) {v : Nat} {k : Nat} (h : bitsP (b.drop n) = .ok (v, k)) : PE Tryz.prog 172 [.ptr 0 0] [rdr b n] (.ret (.tup [(fun v => .raw (.int .u32 (v : Nat))) v, rI 0])) [rdr b (n + k)] := by
 obtain ⟨h1, h2, rfl⟩ := q4q h
 have hr := z1R 222 3 b n hn hb _ _ (z5d (takeC (b.drop n))) ⟨_, .inl rfl⟩
 rw [if_pos h1, if_pos (by rw [h2]; rfl), if_pos ⟨h1, by rw [h2]; rfl⟩, ← z1j h2] at hr
 refine q0c (Nat.le_refl _) ?_
 refine rQ fi172 ?_
 refine eQ [0] (hr) ?_; trivial
theorem z8u (b : List UInt8) (n : Nat) (hn : n ≤ b.length) (hb : b.length ≤ 1099511627776) {e : Nat} (h : bitsP (b.drop n) = .error e) : PE Tryz.prog 172 [.ptr 0 0] [rdr b n] (.ret (.tup [.raw (.int .u32 0), rI e])) [rdr b n] := by
 have hr := z1R 222 3 b n hn hb _ _ (z5d (takeC (b.drop n))) ⟨_, .inl rfl⟩
 have hr' : PE Tryz.prog 221 [.ptr 0 0, .raw (.int .u8 (3 : UInt8).toNat), .fn 222 [] []] [rdr b n] (.ret (.tup [.raw (.int .u32 0), rI e])) [rdr b n] := by
  rcases q7t h with ⟨h1, h2, rfl⟩ | ⟨h1, rfl⟩
  · rw [if_pos h1, if_neg (by rw [h2]; simp), if_neg (fun q => by rw [h2] at q; simp at q)] at hr
    exact hr
  rw [if_neg h1, if_neg (fun q => h1 q.1)] at hr
  exact hr
 refine q0c (Nat.le_refl _) ?_
 refine rQ fi172 ?_
 refine eQ [0] (hr') ?_; trivial
theorem z1A (b : List UInt8) (n : Nat) (hn : n ≤ b.length) (hb : b.length ≤ 1099511627776) {v : Nat} {k : Nat} (h : timeP (b.drop n) = .ok (v, k)) : PE Tryz.prog 169 [.ptr 0 0] [rdr b n] (.ret (.tup [(fun v => rI (v : Nat)) v, rI 0])) [rdr b (n + k)] := by
 obtain ⟨h1, h2, rfl⟩ := q4q h
 have hr := q5A 219 24 b n hn hb _ _ (z4F (takeC (b.drop n))) ⟨_, .inl rfl⟩
 rw [if_pos h1, if_pos (by rw [h2]; rfl), if_pos ⟨h1, by rw [h2]; rfl⟩, ← z0j h2] at hr
 refine q0c (Nat.le_refl _) ?_
 refine rQ fi169 ?_
 refine eQ [0] (hr) ?_; trivial
theorem z2C (b : List UInt8) (n : Nat) (hn : n ≤ b.length) (hb : b.length ≤ 1099511627776) {e : Nat} (h : timeP (b.drop n) = .error e) : PE Tryz.prog 169 [.ptr 0 0] [rdr b n] (.ret (.tup [rI 0, rI e])) [rdr b n] := by
 have hr := q5A 219 24 b n hn hb _ _ (z4F (takeC (b.drop n))) ⟨_, .inl rfl⟩
 have hr' : PE Tryz.prog 217 [.ptr 0 0, .raw (.int .u8 (24 : UInt8).toNat), .fn 219 [] []] [rdr b n] (.ret (.tup [rI 0, rI e])) [rdr b n] := by
  rcases q7t h with ⟨h1, h2, rfl⟩ | ⟨h1, rfl⟩
  · rw [if_pos h1, if_neg (by rw [h2]; simp), if_neg (fun q => by rw [h2] at q; simp at q)] at hr
    exact hr
  rw [if_neg h1, if_neg (fun q => h1 q.1)] at hr
  exact hr
 refine q0c (Nat.le_refl _) ?_
 refine rQ fi169 ?_
 refine eQ [0] (hr') ?_; trivial
theorem z3D (b : List UInt8) (n : Nat) (hn : n ≤ b.length) (hb : b.length ≤ 1099511627776) {v : ByteArray} {k : Nat} (h : strP (b.drop n) = .ok (v, k)) : PE Tryz.prog 229 [.ptr 0 0] [rdr b n] (.ret (.tup [rS v, rI 0])) [rdr b (n + k)] := by
 obtain ⟨h1, h2, rfl⟩ := q4q h
 have hr := z2r 257 27 b n hn hb _ _ (z8z (takeC (b.drop n)) (q0V hb)) ⟨_, .inl rfl⟩
 rw [if_pos h1, if_pos rfl, if_pos ⟨h1, rfl⟩] at hr
 cases h2
 refine q0c (Nat.le_refl _) ?_
 refine rQ fi229 ?_
 refine eQ [0] (hr) ?_; trivial
theorem z4i (b : List UInt8) (n : Nat) (hn : n ≤ b.length) (hb : b.length ≤ 1099511627776) {e : Nat} (h : strP (b.drop n) = .error e) : PE Tryz.prog 229 [.ptr 0 0] [rdr b n] (.ret (.tup [.raw (.string ⟨#[]⟩), rI e])) [rdr b n] := by
 have hr := z2r 257 27 b n hn hb _ _ (z8z (takeC (b.drop n)) (q0V hb)) ⟨_, .inl rfl⟩
 have hr' : PE Tryz.prog 256 [.ptr 0 0, .raw (.int .u8 (27 : UInt8).toNat), .fn 257 [] []] [rdr b n] (.ret (.tup [.raw (.string ⟨#[]⟩), rI e])) [rdr b n] := by
  rcases q7t h with ⟨h1, h2, rfl⟩ | ⟨h1, rfl⟩
  · cases h2
  rw [if_neg h1, if_neg (fun q => h1 q.1)] at hr
  exact hr
 refine q0c (Nat.le_refl _) ?_
 refine rQ fi229 ?_
 refine eQ [0] (hr') ?_; trivial
theorem z9U (b : List UInt8) (n : Nat) (hn : n ≤ b.length) (hb : b.length ≤ 1099511627776) {v : List UInt8} {k : Nat} (h : octP (b.drop n) = .ok (v, k)) : PE Tryz.prog 215 [.ptr 0 0] [rdr b n] (.ret (.tup [.isl .u8 v, rI 0])) [rdr b (n + k)] := by
 obtain ⟨h1, h2, rfl⟩ := q4q h
 have hr := q7D 255 4 b n hn hb _ _ (z8T (takeC (b.drop n)) (q0V hb)) ⟨.bool true, .inr ⟨_, rfl⟩⟩
 rw [if_pos h1, if_pos rfl, if_pos ⟨h1, rfl⟩] at hr
 cases h2
 refine q0c (Nat.le_refl _) ?_
 refine rQ fi215 ?_
 refine eQ [0] (hr) ?_; trivial
theorem z9v (b : List UInt8) (n : Nat) (hn : n ≤ b.length) (hb : b.length ≤ 1099511627776) {e : Nat} (h : octP (b.drop n) = .error e) : PE Tryz.prog 215 [.ptr 0 0] [rdr b n] (.ret (.tup [.isl .u8 [], rI e])) [rdr b n] := by
 have hr := q7D 255 4 b n hn hb _ _ (z8T (takeC (b.drop n)) (q0V hb)) ⟨.bool true, .inr ⟨_, rfl⟩⟩
 have hr' : PE Tryz.prog 254 [.ptr 0 0, .raw (.int .u8 (4 : UInt8).toNat), .fn 255 [] []] [rdr b n] (.ret (.tup [.isl .u8 [], rI e])) [rdr b n] := by
  rcases q7t h with ⟨h1, h2, rfl⟩ | ⟨h1, rfl⟩
  · cases h2
  rw [if_neg h1, if_neg (fun q => h1 q.1)] at hr
  exact hr
 refine q0c (Nat.le_refl _) ?_
 refine rQ fi215 ?_
 refine eQ [0] (hr') ?_; trivial
theorem q8u (tag : UInt8) (b : List UInt8) (n : Nat) (hn : n ≤ b.length) (hb : b.length ≤ 1099511627776) (h : takeE tag (b.drop n) = 0) :
 PE Tryz.prog 208 [.ptr 0 0, .raw (.int .u8 tag.toNat), .fn 209 [] []] [rdr b n] (.ret (.tup [.ptr 1 0, rI 0])) [rdr b (n + takeN (b.drop n)), rdr (takeC (b.drop n)) 0] := by
 have ht := q7E tag b n hn hb
 rw [if_pos h, if_pos h, h] at ht
 generalize takeC (b.drop n) = c at *
 generalize takeN (b.drop n) = k at *
 refine q0c (by simp) ?_
 refine rQ fi208 ?_
 refine eQ [0] (ht) ?_
 refine eQ [] (z1e c) ?_; trivial
theorem q8x (tag : UInt8) (b : List UInt8) (n : Nat) (hn : n ≤ b.length) (hb : b.length ≤ 1099511627776) (h : takeE tag (b.drop n) ≠ 0) :
 PE Tryz.prog 208 [.ptr 0 0, .raw (.int .u8 tag.toNat), .fn 209 [] []] [rdr b n] (.ret (.tup [.raw (.pointer none), rI (takeE tag (b.drop n))])) [rdr b n] := by
 have ht := q7E tag b n hn hb
 rw [if_neg h, if_neg h] at ht
 generalize takeE tag (b.drop n) = e at *
 refine q0c (by simp) ?_
 refine rQ fi208 ?_
 refine eQ [0] (ht) ?_
 exact ⟨fun _ => trivial, fun h0 => absurd (by omega) h⟩
theorem q1P (b : List UInt8) (n : Nat) (hn : n ≤ b.length) (hb : b.length ≤ 1099511627776) (h : takeE 48 (b.drop n) = 0) :
 PE Tryz.prog 196 [.ptr 0 0] [rdr b n] (.ret (.tup [.ptr 1 0, rI 0])) [rdr b (n + takeN (b.drop n)), rdr (takeC (b.drop n)) 0] := by
 have hr := q8u 48 b n hn hb h
 refine q0c (by simp) ?_
 refine rQ fi196 ?_
 refine eQ [0] (hr) ?_; trivial
theorem q3E (b : List UInt8) (n : Nat) (hn : n ≤ b.length) (hb : b.length ≤ 1099511627776) (h : takeE 48 (b.drop n) ≠ 0) :
 PE Tryz.prog 196 [.ptr 0 0] [rdr b n] (.ret (.tup [.raw (.pointer none), rI (takeE 48 (b.drop n))])) [rdr b n] := by
 have hr := q8x 48 b n hn hb h
 refine q0c (by simp) ?_
 refine rQ fi196 ?_
 refine eQ [0] (hr) ?_; trivial
theorem z3S {m : Nat} (hm : m ≤ 30) : IntKind.u8.wrap (IntKind.i64.wrap (160 + (m : Int))) = ((tagB m).toNat : Int) := by
 rw [wrapi (by omega)]
 exact (q0Q _).symm
theorem q6e {m : Nat} {r : List UInt8} : nextB m r = true ↔ ¬ ((r.length : Int) = 0) ∧ ((r.getD 0 Ty.u8.dflt).toNat : Int) = ((tagB m).toNat : Int) := by
 unfold nextB
 simp only [Bool.and_eq_true, decide_eq_true_eq, ne_eq]
 constructor
 · rintro ⟨h1, h2⟩
   exact ⟨by omega, by rw [show r.getD 0 Ty.u8.dflt = tagB m from h2]⟩
 rintro ⟨h1, h2⟩
 exact ⟨by omega, UInt8.toNat_inj.1 (by exact_mod_cast h2)⟩
theorem z7L {m : Nat} {r : List UInt8} (h : nextB m r = false) (h1 : ¬ ((r.length : Int) = 0)) : ¬ ((r.getD 0 Ty.u8.dflt).toNat : Int) = ((tagB m).toNat : Int) := fun h2 => by
 rw [q6e.2 ⟨h1, h2⟩] at h; cases h
theorem q4W (m : Nat) (hm : m ≤ 30) (b : List UInt8) (n : Nat) (hn : n ≤ b.length) (h : nextB m (b.drop n) = false) :
 PE Tryz.prog 210 [.ptr 0 0, rI m] [rdr b n] (.ret (.tup [.raw (.pointer none), rB false, rI 0])) [rdr b n] := by
 have hr := q9h b n hn
 have hu := z3S hm
 have hx := z7L h
 generalize b.drop n = r at *
 refine q0c (by simp) ?_
 refine rQ fi210 ?_
 refine ⟨fun _ => ⟨fun h30 => absurd h30 (by omega), fun _ => ?_⟩, fun hneg => by exfalso; omega⟩
 refine q1s [0] (hr) rfl (by decide) (by repeat first | exact trivial | exact rfl | refine And.intro ?_ ?_) rfl rfl ?_
 simp only [afterO, Out.ren, SV.ren, mgA, sig, SObj.ren, SV.renL, List.set, List.map, List.append_nil, hu]
 refine uQ 600 _ ?_
 with_reducible refine sx1 hu ?_
 exact ⟨fun h0 => ⟨by omega, fun _ => trivial, fun h1 => absurd h1 (hx h0)⟩, fun _ => trivial⟩
theorem q2U (m : Nat) (hm : m ≤ 30) (b : List UInt8) (n : Nat) (hn : n ≤ b.length) (hb : b.length ≤ 1099511627776) (h : nextB m (b.drop n) = true) (ht : takeE (tagB m) (b.drop n) = 0) :
 PE Tryz.prog 210 [.ptr 0 0, rI m] [rdr b n] (.ret (.tup [.ptr 1 0, rB true, rI 0])) [rdr b (n + takeN (b.drop n)), rdr (takeC (b.drop n)) 0] := by
 have hr := q9h b n hn
 have hd := q8u (tagB m) b n hn hb ht
 have hu := z3S hm
 obtain ⟨hx1, hx2⟩ := q6e.1 h
 generalize takeC (b.drop n) = c at *
 generalize takeN (b.drop n) = k at *
 generalize b.drop n = r at *
 refine q0c (by simp) ?_
 refine rQ fi210 ?_
 refine ⟨fun _ => ⟨fun h30 => absurd h30 (by omega), fun _ => ?_⟩, fun hneg => by exfalso; omega⟩
 refine q1s [0] (hr) rfl (by decide) (by repeat first | exact trivial | exact rfl | refine And.intro ?_ ?_) rfl rfl ?_
 simp only [afterO, Out.ren, SV.ren, mgA, sig, SObj.ren, SV.renL, List.set, List.map, List.append_nil, hu]
 refine uQ 600 _ ?_
 with_reducible refine sx1 hu ?_
 refine ⟨fun h0 => ⟨by omega, fun h1 => absurd hx2 h1, fun _ => ?_⟩, fun h0 => absurd h0 hx1⟩
 refine eQ [0] (hd) ?_; trivial
theorem q5a (m : Nat) (hm : m ≤ 30) (b : List UInt8) (n : Nat) (hn : n ≤ b.length) (hb : b.length ≤ 1099511627776) (h : nextB m (b.drop n) = true) (ht : takeE (tagB m) (b.drop n) ≠ 0) :
 PE Tryz.prog 210 [.ptr 0 0, rI m] [rdr b n] (.ret (.tup [.raw (.pointer none), rB false, rI (takeE (tagB m) (b.drop n))])) [rdr b n] := by
 have hr := q9h b n hn
 have hd := q8x (tagB m) b n hn hb ht
 have hu := z3S hm
 obtain ⟨hx1, hx2⟩ := q6e.1 h
 generalize takeE (tagB m) (b.drop n) = e at *
 generalize b.drop n = r at *
 refine q0c (by simp) ?_
 refine rQ fi210 ?_
 refine ⟨fun _ => ⟨fun h30 => absurd h30 (by omega), fun _ => ?_⟩, fun hneg => by exfalso; omega⟩
 refine q1s [0] (hr) rfl (by decide) (by repeat first | exact trivial | exact rfl | refine And.intro ?_ ?_) rfl rfl ?_
 simp only [afterO, Out.ren, SV.ren, mgA, sig, SObj.ren, SV.renL, List.set, List.map, List.append_nil, hu]
 refine uQ 600 _ ?_
 with_reducible refine sx1 hu ?_
 refine ⟨fun h0 => ⟨by omega, fun h1 => absurd hx2 h1, fun _ => ?_⟩, fun h0 => absurd h0 hx1⟩
 refine eQ [0] (hd) ?_
 exact fun q => ht (by omega)
theorem q1E {α : Type} {tag : UInt8} {p : PR α} {r : List UInt8} : (takeE tag r ≠ 0 ∧ inP tag p r = .error (takeE tag r)) ∨
 (takeE tag r = 0 ∧ ∃ e, p (takeC r) = .error e ∧ inP tag p r = .error e) ∨
 (takeE tag r = 0 ∧ ∃ v m, p (takeC r) = .ok (v, m) ∧ m < (takeC r).length ∧ inP tag p r = .error 6) ∨
 (takeE tag r = 0 ∧ ∃ v m, p (takeC r) = .ok (v, m) ∧ ¬ m < (takeC r).length ∧ inP tag p r = .ok (v, takeN r)) := by
 unfold inP allP
 by_cases h : takeE tag r = 0
 · right
   rw [if_pos h]
   cases hp : p (takeC r) with
   | error e => exact .inl ⟨h, e, rfl, rfl⟩
   | ok x =>
    obtain ⟨v, m⟩ := x
    by_cases hm : m < (takeC r).length
    · exact .inr (.inl ⟨h, v, m, rfl, hm, by simp [hm]⟩)
    exact .inr (.inr ⟨h, v, m, rfl, hm, by simp [hm]⟩)
 exact .inl ⟨h, by rw [if_neg h]⟩
def FitsP {α : Type} (p : PR α) : Prop := ∀ r v m, p r = .ok (v, m) → m ≤ r.length
theorem q1G {α : Type} {tag : UInt8} {p : PR α} : FitsP (inP tag p) := fun r v m h => by
 rcases q1E (tag := tag) (p := p) (r := r) with ⟨_, e⟩ | ⟨_, _, _, e⟩ | ⟨_, _, _, _, _, e⟩ | ⟨h0, _, _, _, _, e⟩ <;> rw [e] at h <;> cases h
 exact q4N h0
theorem q2f {α : Type} {tag : UInt8} {dec : List UInt8 → Option α} : FitsP (rdP tag dec) := fun _ _ _ h => z8E h
theorem q0f {α : Type} {n : Nat} {p : PR α} : FitsP (needP n p) := fun r v m h => by
 unfold needP at h
 split at h
 · exact q1G r v m h
 cases h
theorem q0H {α : Type} {d : α} {n : Nat} {p : PR α} : FitsP (dfltP d n p) := fun r v m h => by
 unfold dfltP mayP at h
 cases hb : nextB n r with
 | false => rw [hb] at h; cases h; exact Nat.zero_le _
 | true =>
  rw [hb] at h
  cases hp : inP (tagB n) p r with
  | error e => rw [hp] at h; cases h
  | ok x =>
   obtain ⟨u, k⟩ := x
   rw [hp] at h; cases h
   exact q1G r _ m hp
theorem q0y {α β : Type} {p : PR α} {f : α → PR β} (hp : FitsP p) (hf : ∀ v, FitsP (f v)) : FitsP (bindP p f) := fun r v m h => by
 unfold bindP at h
 cases h1 : p r with
 | error e => rw [h1] at h; cases h
 | ok x =>
  obtain ⟨u, k⟩ := x
  rw [h1] at h
  simp only at h
  cases h2 : f u (r.drop k) with
  | error e => rw [h2] at h; cases h
  | ok y =>
   obtain ⟨z, l⟩ := y
   rw [h2] at h; cases h
   have := hp r _ k h1
   have := hf _ _ _ l h2
   rw [List.length_drop] at this
   omega
theorem q4k {α : Type} {v : α} : FitsP (retP v) := fun r u m h => by cases h; exact Nat.zero_le _
theorem q7k {α : Type} {p : PR α} (hp : FitsP p) : ∀ n, FitsP (listP p n)
 | 0, r, v, m, h => by
  simp only [listP] at h
  split at h
  · cases h; exact Nat.zero_le _
  cases h
 | n + 1, r, v, m, h => by
  simp only [listP] at h
  split at h
  · cases h; exact Nat.zero_le _
  cases h1 : p r with
  | error e => rw [h1] at h; cases h
  | ok x =>
   obtain ⟨u, k⟩ := x
   rw [h1] at h
   simp only at h
   cases h2 : listP p n (r.drop k) with
   | error e => rw [h2] at h; cases h
   | ok y =>
    obtain ⟨z, l⟩ := y
    rw [h2] at h; cases h
    have := hp r _ k h1
    have := q7k hp n _ _ l h2
    rw [List.length_drop] at this
    omega

theorem q3s {cs : List SV} (h : Cln cs) : (∀ σ, SV.renL σ cs = cs) ∧ (∀ n, SV.belL n cs = true) ∧ (∀ n H, SV.sealBL n H cs = some (cs, True)) ∧ SV.leAL cs cs := ⟨h.ren, h.bel, h.shut, h.le⟩
theorem q2S {α : Type} {f : α → List SV} (h : ∀ v, Cln (f v)) : (∀ v σ, SV.renL σ (f v) = f v) ∧ (∀ v n, SV.belL n (f v) = true) ∧ (∀ v n H, SV.sealBL n H (f v) = some (f v, True)) ∧ ∀ v, SV.leAL (f v) (f v) := ⟨fun v => (h v).ren, fun v => (h v).bel, fun v => (h v).shut, fun v => (h v).le⟩
theorem q3F {α : Type} {tag : UInt8} {dec : List UInt8 → Option α} {r : List UInt8} {e : Nat} (h : rdP tag dec r = .error e) : e ≠ 0 := by
 rcases q7t h with ⟨_, _, rfl⟩ | ⟨h1, rfl⟩
 · decide
 exact h1
theorem q3c {α : Type} {d : α} {n : Nat} {p : PR α} {r : List UInt8} (h : nextB n r = false) : dfltP d n p r = .ok (d, 0) := q7H h
theorem q2s {α : Type} {d : α} {n : Nat} {p : PR α} {r : List UInt8} (h : nextB n r = true) : dfltP d n p r = inP (tagB n) p r := by
 unfold dfltP mayP
 rw [if_pos h]
 cases inP (tagB n) p r with
 | error e => rfl
 | ok x => rfl
def effH {α : Type} (b : List UInt8) (n : Nat) (E : List SObj) (upd : α → List SObj) : Except Nat (α × Nat) → List SObj
 | .ok (v, k) => rdr b (n + k) :: upd v
 | .error _ => .dead :: E.map fun _ => .dead
def tailP {α : Type} (xs : List α) (k : Nat) : Except Nat (List α × Nat) → Except Nat (List α × Nat)
 | .ok (l, m) => .ok (xs ++ l, k + m)
 | .error e => .error e
theorem q5f {α : Type} {p : PR α} {most : Nat} {c : List UInt8} {xs : List α} {k n : Nat} {v : α} {m : Nat} (hk : k < c.length) (hm : 0 < most) (hp : p (c.drop k) = .ok (v, m)) : tailP xs n (listP p most (c.drop k)) = tailP (xs ++ [v]) (n + m) (listP p (most - 1) (c.drop (k + m))) := by
 obtain ⟨most, rfl⟩ : ∃ q, most = q + 1 := ⟨most - 1, by omega⟩
 simp only [listP]
 rw [if_neg (by rw [List.length_drop]; omega), hp]
 simp only [Nat.add_sub_cancel, List.drop_drop]
 cases listP p most (c.drop (k + m)) with
 | error e => rfl
 | ok y => obtain ⟨l, q⟩ := y; simp [tailP]; omega
theorem q7n {α : Type} {p : PR α} {c : List UInt8} {xs : List α} {k n : Nat} (hk : k < c.length) : tailP xs n (listP p 0 (c.drop k)) = .error 6 := by
 simp only [listP]
 rw [if_neg (by rw [List.length_drop]; omega)]; rfl
theorem q2Y {α : Type} {p : PR α} {most : Nat} {c : List UInt8} {xs : List α} {k n : Nat} {e : Nat} (hk : k < c.length) (hm : 0 < most) (hp : p (c.drop k) = .error e) : tailP xs n (listP p most (c.drop k)) = .error e := by
 obtain ⟨most, rfl⟩ : ∃ q, most = q + 1 := ⟨most - 1, by omega⟩
 simp only [listP]
 rw [if_neg (by rw [List.length_drop]; omega), hp]; rfl
theorem q6v {α : Type} {p : PR α} {most : Nat} {c : List UInt8} {xs : List α} {k n : Nat} (hk : c.length ≤ k) : tailP xs n (listP p most (c.drop k)) = .ok (xs, n) := by
 have : c.drop k = [] := List.drop_eq_nil_of_le hk
 rw [this]
 cases most <;> simp [listP, tailP]
theorem q7I {α : Type} (x : Except Nat (List α × Nat)) : tailP [] 0 x = x := by
 cases x with
 | error e => rfl
 | ok y => obtain ⟨l, m⟩ := y; simp [tailP]
def shiftP {α : Type} (k : Nat) : Except Nat (α × Nat) → Except Nat (α × Nat)
 | .ok (v, m) => .ok (v, k + m)
 | .error e => .error e
theorem q2Q {α β : Type} {p : PR α} {f : α → PR β} {r : List UInt8} {e : Nat} (h : p r = .error e) : bindP p f r = .error e := by unfold bindP; rw [h]
theorem q3Q {α β : Type} {p : PR α} {f : α → PR β} {b : List UInt8} {n : Nat} {v : α} {k : Nat} (h : p (b.drop n) = .ok (v, k)) : bindP p f (b.drop n) = shiftP k (f v (b.drop (n + k))) := by
 unfold bindP; rw [h]
 simp only [List.drop_drop]
 cases f v (b.drop (n + k)) with
 | error e => rfl
 | ok y => rfl
theorem q0G {α : Type} {p : PR α} (hp : FitsP p) {b : List UInt8} {n : Nat} (hn : n ≤ b.length) {v : α} {k : Nat} (h : p (b.drop n) = .ok (v, k)) : n + k ≤ b.length := by
 have := hp _ _ _ h
 rw [List.length_drop] at this; omega
def OkP {α : Type} (p : PR α) (Q : α → Prop) : Prop := ∀ r v m, r.length ≤ 1099511627776 → p r = .ok (v, m) → Q v
theorem z1Q {α : Type} {tag : UInt8} {dec : List UInt8 → Option α} {Q : α → Prop} (h : ∀ c v, c.length ≤ 1099511627776 → dec c = some v → Q v) : OkP (rdP tag dec) Q := fun r v m hr hx => by
 obtain ⟨_, h2, _⟩ := q4q hx
 exact h _ v (Nat.le_trans (q3K r) hr) h2
theorem q4u {α : Type} {tag : UInt8} {p : PR α} {Q : α → Prop} (h : OkP p Q) : OkP (inP tag p) Q := fun r v m hr hx => by
 rcases q1E (tag := tag) (p := p) (r := r) with ⟨_, e⟩ | ⟨_, _, _, e⟩ | ⟨_, _, _, _, _, e⟩ | ⟨_, u, k, g, _, e⟩ <;> rw [e] at hx <;> cases hx
 exact h _ _ _ (Nat.le_trans (q3K r) hr) g
theorem q3j {α : Type} {n : Nat} {p : PR α} {Q : α → Prop} (h : OkP p Q) : OkP (needP n p) Q := fun r v m hr hx => by
 unfold needP at hx
 split at hx
 · exact q4u h r v m hr hx
 cases hx
theorem z6Z {α : Type} {d : α} {n : Nat} {p : PR α} {Q : α → Prop} (hd : Q d) (h : OkP p Q) : OkP (dfltP d n p) Q := fun r v m hr hx => by
 cases hb : nextB n r with
 | false => rw [q3c hb] at hx; cases hx; exact hd
 | true => rw [q2s hb] at hx; exact q4u h r v m hr hx
theorem q1p {α β : Type} {p : PR α} {f : α → PR β} {Q1 : α → Prop} {Q : β → Prop} (hp : OkP p Q1) (hf : ∀ v, Q1 v → OkP (f v) Q) : OkP (bindP p f) Q := fun r v m hr hx => by
 unfold bindP at hx
 cases h1 : p r with
 | error e => rw [h1] at hx; cases hx
 | ok y =>
  obtain ⟨u, k⟩ := y
  rw [h1] at hx
  simp only at hx
  cases h2 : f u (r.drop k) with
  | error e => rw [h2] at hx; cases hx
  | ok z =>
   obtain ⟨w, l⟩ := z
   rw [h2] at hx; cases hx
   exact hf u (hp r u k hr h1) _ _ _ (by rw [List.length_drop]; omega) h2
theorem z0G {α : Type} {v : α} {Q : α → Prop} (h : Q v) : OkP (retP v) Q := fun r u m _ hx => by cases hx; exact h
theorem q5C {α : Type} {p : PR α} {Q : α → Prop} (hp : OkP p Q) : ∀ n, OkP (listP p n) fun l => l.length ≤ n ∧ ∀ x ∈ l, Q x
 | 0, r, v, m, _, hx => by
  simp only [listP] at hx
  split at hx
  · cases hx; exact ⟨Nat.le_refl _, by simp⟩
  cases hx
 | n + 1, r, v, m, hr, hx => by
  simp only [listP] at hx
  split at hx
  · cases hx; exact ⟨by simp, by simp⟩
  cases h1 : p r with
  | error e => rw [h1] at hx; cases hx
  | ok y =>
   obtain ⟨u, k⟩ := y
   rw [h1] at hx
   simp only at hx
   cases h2 : listP p n (r.drop k) with
   | error e => rw [h2] at hx; cases hx
   | ok z =>
    obtain ⟨w, l⟩ := z
    rw [h2] at hx; cases hx
    have h3 := q5C hp n _ _ _ (by rw [List.length_drop]; omega) h2
    exact ⟨by simp; exact h3.1, fun x hxm => by
     rcases List.mem_cons.1 hxm with rfl | hm
     · exact hp r _ k hr h1
     exact h3.2 x hm⟩
theorem q1R {α : Type} {p : PR α} : OkP p fun _ => True := fun _ _ _ _ _ => trivial
theorem z6s : OkP strP fun s => s.size ≤ 1099511627776 := z1Q fun c v hc hd => by
 unfold decStr at hd; cases hd
 show c.toArray.size ≤ _
 simpa using hc
theorem j2q (b : List UInt8) (hb : b.length ≤ 140737488355328) : PE Tryz.prog 102 [.isl .u8 b] [] (.ret (.ptr 0 0)) [rdr b 0] := by
 refine q0c (by simp) ?_
 refine rQ fi102 ?_
 refine q0a (z2z b hb) ?_
 refine gQ ?_
 refine eQ [] (z5b b) ?_; trivial
theorem z9u (a b : List UInt8) : PC Tryz.prog 105 [.isl .u8 a, .isl .u8 b] (rB (decide (a = b))) := by
 refine q0B rfl rfl ?_
 refine rQ fi105 ?_
 exact decide_eq_decide.2 ⟨fun h => by simpa [strOf] using h, fun h => by rw [h]⟩
@[go_sem] abbrev errV (e : Int) : SV := .iface 38 (rI e)
def EffX (P : Program) {α : Type} (f : FuncId) (args : List SV) (b : List UInt8) (n : Nat) (res : α → SV) : Except Nat (α × Nat) → Prop
 | .ok (v, k) => PE P f args [rdr b n] (.ret (res v)) [rdr b (n + k)]
 | .error e => PE P f args [rdr b n] (.pan (errV e)) [.dead]
theorem q5e {P : Program} {α : Type} {f : FuncId} {args : List SV} {b : List UInt8} {n : Nat} {res : α → SV} {x : Except Nat (α × Nat)} {v : α} {k : Nat} (h : EffX P f args b n res x) (hx : x = .ok (v, k)) : PE P f args [rdr b n] (.ret (res v)) [rdr b (n + k)] := by rw [hx] at h; exact h
theorem q5m {P : Program} {α : Type} {f : FuncId} {args : List SV} {b : List UInt8} {n : Nat} {res : α → SV} {x : Except Nat (α × Nat)} {e : Nat} (h : EffX P f args b n res x) (hx : x = .error e) : PE P f args [rdr b n] (.pan (errV e)) [.dead] := by rw [hx] at h; exact h
theorem q9Q (v : Value) : PC Tryz.prog 252 [.raw v, rI 0] (.raw v) := by
 refine q0B rfl rfl ?_
 refine rQ fi252 ?_; trivial
theorem q9q (v : Value) (e : Nat) (he : e ≠ 0) : PE Tryz.prog 252 [.raw v, rI e] [] (.pan (errV e)) [] := by
 refine q0c (by simp) ?_
 refine rQ fi252 ?_
 exact ⟨fun _ => trivial, fun h => absurd (by omega) he⟩
theorem q6K (v : List UInt8) : PC Tryz.prog 253 [.isl .u8 v, rI 0] (.isl .u8 v) := by
 refine q0B rfl rfl ?_
 refine rQ fi253 ?_; trivial
theorem q6X (v : List UInt8) (e : Nat) (he : e ≠ 0) : PE Tryz.prog 253 [.isl .u8 v, rI e] [] (.pan (errV e)) [] := by
 refine q0c (by simp) ?_
 refine rQ fi253 ?_
 exact ⟨fun _ => trivial, fun h => absurd (by omega) he⟩
theorem q6L (v : Value) : PC Tryz.prog 228 [.raw v, rI 0] (.raw v) := by
 refine q0B rfl rfl ?_
 refine rQ fi228 ?_; trivial
theorem q5u (v : Value) (e : Nat) (he : e ≠ 0) : PE Tryz.prog 228 [.raw v, rI e] [] (.pan (errV e)) [] := by
 refine q0c (by simp) ?_
 refine rQ fi228 ?_
 exact ⟨fun _ => trivial, fun h => absurd (by omega) he⟩
theorem q5Z (b : List UInt8) (n : Nat) : PE Tryz.prog 212 [.ptr 0 0, rI 0] [rdr b n] (.ret (.ptr 0 0)) [rdr b n] := by
 refine q0c (by simp) ?_
 refine rQ fi212 ?_; trivial
theorem q3y (e : Nat) (he : e ≠ 0) : PE Tryz.prog 212 [.raw (.pointer none), rI e] [] (.pan (errV e)) [] := by
 refine q0c (by simp) ?_
 refine rQ fi212 ?_
 exact ⟨fun _ => trivial, fun h => absurd (by omega) he⟩
theorem q6u (b : List UInt8) (n : Nat) : PE Tryz.prog 225 [.ptr 0 0, rI 0] [rdr b n] (.ret (.ptr 0 0)) [rdr b n] := by
 refine q0c (by simp) ?_
 refine rQ fi225 ?_; trivial
theorem q5v (e : Nat) (he : e ≠ 0) : PE Tryz.prog 225 [.raw (.pointer none), rI e] [] (.pan (errV e)) [] := by
 refine q0c (by simp) ?_
 refine rQ fi225 ?_
 exact ⟨fun _ => trivial, fun h => absurd (by omega) he⟩
theorem z1F (b : List UInt8) (n : Nat) (hn : n = b.length) : PE Tryz.prog 216 [.ptr 0 0] [rdr b n] (.ret (.tup [])) [rdr b n] := by
 have he := q2C b n (by omega)
 refine q0c (by simp) ?_
 refine rQ fi216 ?_
 refine eQ [0] (he) ?_
 exact ⟨fun q => absurd q (by omega), fun _ => trivial⟩
theorem z1E (b : List UInt8) (n : Nat) (hn : n < b.length) : PE Tryz.prog 216 [.ptr 0 0] [rdr b n] (.pan (errV 6)) [.dead] := by
 have he := q2C b n (by omega)
 refine q0c (by simp) ?_
 refine rQ fi216 ?_
 refine eQ [0] (he) ?_
 exact ⟨fun _ => trivial, fun q => absurd (by omega) q⟩
theorem q4y {α : Type} {n : Nat} {p : PR α} {r : List UInt8} (h : nextB n r = false) : needP n p r = .error (if r.length = 0 then 4 else 6) := by unfold needP; rw [h]; rfl
theorem q4o {α : Type} {n : Nat} {p : PR α} {r : List UInt8} (h : nextB n r = true) : needP n p r = inP (tagB n) p r := by unfold needP; rw [h]; rfl
def closeP {α : Type} (l N : Nat) : Except Nat (α × Nat) → Except Nat (α × Nat)
 | .ok (v, m) => if m < l then .error 6 else .ok (v, N)
 | .error e => .error e
theorem q9E {α : Type} {tag : UInt8} {p : PR α} {r : List UInt8} (h : takeE tag r = 0) : inP tag p r = closeP (takeC r).length (takeN r) (p (takeC r)) := by
 unfold inP allP
 rw [if_pos h]
 cases p (takeC r) with
 | error e => rfl
 | ok x =>
  obtain ⟨v, m⟩ := x
  simp only [closeP]
  by_cases hm : m < (takeC r).length <;> simp [hm]
theorem q9y {α : Type} {tag : UInt8} {p : PR α} {r : List UInt8} (h : takeE tag r ≠ 0) : inP tag p r = .error (takeE tag r) := by
 unfold inP
 rw [if_neg h]
theorem z4V (i : Nat) (hi : i ≤ 30) (b : List UInt8) (n : Nat) (hn : n ≤ b.length) (hb : b.length ≤ 1099511627776) : EffX Tryz.prog 213 [.ptr 0 0, rI i, .fn 167 [] []] b n (fun v => rI v) (needP i intP (b.drop n)) := by
 cases h : nextB i (b.drop n) with
 | false =>
  rw [q4y h, List.length_drop]
  have hs := q4W i hi b n hn h
  have hl := q2C b n hn
  generalize b.length - n = q at *
  refine q0c (by simp) ?_
  refine rQ fi213 ?_
  refine eQ [0] (hs) ?_
  refine eQ [0] (hl) ?_
  by_cases hq : q = 0
  · simp [hq]
  simp [hq]
 | true =>
  rw [q4o h]
  by_cases h1 : takeE (tagB i) (b.drop n) = 0
  · rw [q9E h1]
    have hs := q2U i hi b n hn hb h h1
    have hc := q0V (n := n) hb
    generalize takeC (b.drop n) = c at *
    generalize takeN (b.drop n) = N at *
    cases hx : intP c with
    | error e =>
     have hr := q8q c 0 (Nat.zero_le _) hc (by rw [List.drop_zero]; exact hx)
     refine q0c (by simp) ?_
     refine rQ fi213 ?_
     refine eQ [0] (hs) ?_
     refine eQ [1] (hr) ?_
     refine effP [] (q9q (.int .i64 0) e (q3F hx)) ?_; trivial
    | ok x =>
     obtain ⟨v, m⟩ := x
     have hm := q2f _ _ _ hx
     have hr := q8s c 0 (Nat.zero_le _) hc (by rw [List.drop_zero]; exact hx)
     have hl := q2C c m hm
     rw [Nat.zero_add] at hr
     simp only [closeP]
     by_cases hml : m < c.length
     · rw [if_pos hml]
       refine q0c (by simp) ?_
       refine rQ fi213 ?_
       refine eQ [0] (hs) ?_
       refine eQ [1] (hr) ?_
       refine q0a (q9Q _) ?_
       refine gQ ?_
       refine effP [1] (z1E c m hml) ?_
       rfl
     rw [if_neg hml]
     refine q0c (by simp) ?_
     refine rQ fi213 ?_
     refine eQ [0] (hs) ?_
     refine eQ [1] (hr) ?_
     refine q0a (q9Q _) ?_
     refine gQ ?_
     refine eQ [1] (z1F c m (by omega)) ?_; trivial
  rw [q9y h1]
  have hs := q5a i hi b n hn hb h h1
  generalize takeE (tagB i) (b.drop n) = e at *
  refine q0c (by simp) ?_
  refine rQ fi213 ?_
  refine eQ [0] (hs) ?_
  exact ⟨fun _ => trivial, fun q => absurd (by omega) h1⟩
theorem z8X (i : Nat) (hi : i ≤ 30) (b : List UInt8) (n : Nat) (hn : n ≤ b.length) (hb : b.length ≤ 1099511627776) : EffX Tryz.prog 214 [.ptr 0 0, rI i, .fn 215 [] []] b n (fun v => .isl .u8 v) (needP i octP (b.drop n)) := by
 cases h : nextB i (b.drop n) with
 | false =>
  rw [q4y h, List.length_drop]
  have hs := q4W i hi b n hn h
  have hl := q2C b n hn
  generalize b.length - n = q at *
  refine q0c (by simp) ?_
  refine rQ fi214 ?_
  refine eQ [0] (hs) ?_
  refine eQ [0] (hl) ?_
  by_cases hq : q = 0
  · simp [hq]
  simp [hq]
 | true =>
  rw [q4o h]
  by_cases h1 : takeE (tagB i) (b.drop n) = 0
  · rw [q9E h1]
    have hs := q2U i hi b n hn hb h h1
    have hc := q0V (n := n) hb
    generalize takeC (b.drop n) = c at *
    generalize takeN (b.drop n) = N at *
    cases hx : octP c with
    | error e =>
     have hr := z9v c 0 (Nat.zero_le _) hc (by rw [List.drop_zero]; exact hx)
     refine q0c (by simp) ?_
     refine rQ fi214 ?_
     refine eQ [0] (hs) ?_
     refine eQ [1] (hr) ?_
     refine effP [] (q6X [] e (q3F hx)) ?_; trivial
    | ok x =>
     obtain ⟨v, m⟩ := x
     have hm := q2f _ _ _ hx
     have hr := z9U c 0 (Nat.zero_le _) hc (by rw [List.drop_zero]; exact hx)
     have hl := q2C c m hm
     rw [Nat.zero_add] at hr
     simp only [closeP]
     by_cases hml : m < c.length
     · rw [if_pos hml]
       refine q0c (by simp) ?_
       refine rQ fi214 ?_
       refine eQ [0] (hs) ?_
       refine eQ [1] (hr) ?_
       refine q0a (q6K _) ?_
       refine gQ ?_
       refine effP [1] (z1E c m hml) ?_
       rfl
     rw [if_neg hml]
     refine q0c (by simp) ?_
     refine rQ fi214 ?_
     refine eQ [0] (hs) ?_
     refine eQ [1] (hr) ?_
     refine q0a (q6K _) ?_
     refine gQ ?_
     refine eQ [1] (z1F c m (by omega)) ?_; trivial
  rw [q9y h1]
  have hs := q5a i hi b n hn hb h h1
  generalize takeE (tagB i) (b.drop n) = e at *
  refine q0c (by simp) ?_
  refine rQ fi214 ?_
  refine eQ [0] (hs) ?_
  exact ⟨fun _ => trivial, fun q => absurd (by omega) h1⟩
theorem j2j (i : Nat) (hi : i ≤ 30) (b : List UInt8) (n : Nat) (hn : n ≤ b.length) (hb : b.length ≤ 1099511627776) : EffX Tryz.prog 230 [.ptr 0 0, rI i, .fn 229 [] []] b n (fun v => rS v) (needP i strP (b.drop n)) := by
 cases h : nextB i (b.drop n) with
 | false =>
  rw [q4y h, List.length_drop]
  have hs := q4W i hi b n hn h
  have hl := q2C b n hn
  generalize b.length - n = q at *
  refine q0c (by simp) ?_
  refine rQ fi230 ?_
  refine eQ [0] (hs) ?_
  refine eQ [0] (hl) ?_
  by_cases hq : q = 0
  · simp [hq]
  simp [hq]
 | true =>
  rw [q4o h]
  by_cases h1 : takeE (tagB i) (b.drop n) = 0
  · rw [q9E h1]
    have hs := q2U i hi b n hn hb h h1
    have hc := q0V (n := n) hb
    generalize takeC (b.drop n) = c at *
    generalize takeN (b.drop n) = N at *
    cases hx : strP c with
    | error e =>
     have hr := z4i c 0 (Nat.zero_le _) hc (by rw [List.drop_zero]; exact hx)
     refine q0c (by simp) ?_
     refine rQ fi230 ?_
     refine eQ [0] (hs) ?_
     refine eQ [1] (hr) ?_
     refine effP [] (q5u (.string ⟨#[]⟩) e (q3F hx)) ?_; trivial
    | ok x =>
     obtain ⟨v, m⟩ := x
     have hm := q2f _ _ _ hx
     have hr := z3D c 0 (Nat.zero_le _) hc (by rw [List.drop_zero]; exact hx)
     have hl := q2C c m hm
     rw [Nat.zero_add] at hr
     simp only [closeP]
     by_cases hml : m < c.length
     · rw [if_pos hml]
       refine q0c (by simp) ?_
       refine rQ fi230 ?_
       refine eQ [0] (hs) ?_
       refine eQ [1] (hr) ?_
       refine q0a (q6L _) ?_
       refine gQ ?_
       refine eQ [1] (hl) ?_
       exact ⟨fun _ => rfl, fun q => absurd (by omega) q⟩
     rw [if_neg hml]
     refine q0c (by simp) ?_
     refine rQ fi230 ?_
     refine eQ [0] (hs) ?_
     refine eQ [1] (hr) ?_
     refine q0a (q6L _) ?_
     refine gQ ?_
     refine eQ [1] (hl) ?_
     exact ⟨fun q => absurd q (by omega), fun _ => trivial⟩
  rw [q9y h1]
  have hs := q5a i hi b n hn hb h h1
  generalize takeE (tagB i) (b.drop n) = e at *
  refine q0c (by simp) ?_
  refine rQ fi230 ?_
  refine eQ [0] (hs) ?_
  exact ⟨fun _ => trivial, fun q => absurd (by omega) h1⟩
end Go.Proofs.YtcjehhejgimmdaaGreatDoor
