/- The plain law of reading: numbers, strings, offers. -/
import Derived.Test.YtddmkgibghohkaaGreatDoorP21
import Derived.Test.YtddmkgibghohkaaGreatDoorP10
set_option linter.unusedSimpArgs false
set_option linter.unusedVariables false
namespace Go.Proofs.YtddmkgibghohkaaGreatDoor
open Go Go.Sx Go.Proofs
set_option maxRecDepth 100000
set_option maxHeartbeats 4000000
set_option linter.unusedSimpArgs false

theorem foldl_be : ∀ (l : List UInt8) (v : Nat), l.foldl (fun v c => v * 256 + c.toNat) v = v * 256 ^ l.length + beN l
  | [], v => by simp [beN]
  | x :: l, v => by
    have h1 := foldl_be l (v * 256 + x.toNat)
    have h2 := foldl_be l (0 * 256 + x.toNat)
    simp only [List.foldl_cons, List.length_cons, beN] at *
    rw [h1, h2, Nat.pow_succ, Nat.add_mul, Nat.zero_mul, Nat.zero_add, Nat.mul_assoc, Nat.mul_comm 256, Nat.add_assoc]
theorem beN_cons (x : UInt8) (l : List UInt8) : beN (x :: l) = x.toNat * 256 ^ l.length + beN l := by
  have := foldl_be l (0 * 256 + x.toNat)
  rw [Nat.zero_mul, Nat.zero_add] at this
  unfold beN at *
  rw [List.foldl_cons, Nat.zero_mul, Nat.zero_add, this]
theorem numS_length (v : Int) (m : Nat) : (numS v m).length = m := by simp [numS]
theorem beN_num (n : Nat) : ∀ (m : Nat), m ≤ 9 → beN (numS (n : Int) m) = n % 256 ^ m
  | 0, _ => by simp [numS, beN, Nat.mod_one]
  | m + 1, h => by
    rw [numS_succ, beN_cons, numS_length, beN_num n m (by omega), byteAt_nat n m (by omega), byteOf_nat, Nat.mod_pow_succ]
    unfold qN
    rw [Nat.mul_comm, Nat.add_comm]

/-- The first byte of an integer, with its sign. -/
def sgn1 (x : UInt8) : Int := IntKind.i8.wrap (x.toNat : Int)
theorem sgn1_pos {x : UInt8} (h : x.toNat < 128) : sgn1 x = (x.toNat : Int) := by
  unfold sgn1
  simp [IntKind.wrap, IntKind.bits, IntKind.signed]
  omega
def sgn (c : List UInt8) : Int := (c.drop 1).foldl (fun v x => v * 256 + (x.toNat : Int)) (sgn1 (c.getD 0 0))
theorem foldl_int : ∀ (l : List UInt8) (v : Nat), l.foldl (fun (v : Int) (x : UInt8) => v * 256 + (x.toNat : Int)) (v : Int) = ((l.foldl (fun v c => v * 256 + c.toNat) v : Nat) : Int)
  | [], v => rfl
  | x :: l, v => by
    have := foldl_int l (v * 256 + x.toNat)
    simp only [List.foldl_cons]
    rw [← this]; push_cast; rfl
theorem sgn_pos {x : UInt8} {l : List UInt8} (h : x.toNat < 128) : sgn (x :: l) = (beN (x :: l) : Int) := by
  unfold sgn
  rw [List.drop_succ_cons, List.drop_zero, List.getD_cons_zero, sgn1_pos h, foldl_int]
  unfold beN
  rw [List.foldl_cons, Nat.zero_mul, Nat.zero_add]
def decInt (c : List UInt8) : Option Int := if 1 ≤ c.length ∧ c.length ≤ 8 ∧ intS (sgn c) = elemS 2 [c] then some (sgn c) else none
def decStr (c : List UInt8) : Option ByteArray := some ⟨c.toArray⟩
theorem intS_nat (n : Nat) (h : n ≤ 4611686018427387904) : ∃ c, intS n = tlv 2 c ∧ c.length ≤ 8 ∧ 1 ≤ c.length ∧ decInt c = some (n : Int) ∧ beN c = n ∧ (c.length = 8 → 36028797018963968 ≤ n) := by
  have h7 : oneB (n : Int) 7 = true := by
    have : qN n 7 ≤ 127 := by unfold qN; exact Nat.div_le_of_le_mul (by omega)
    unfold oneB; rw [restN_nat, decide_eq_true (show ((qN n 7 : Nat) : Int) ≤ 127 by omega), decide_eq_true (show (-128 : Int) ≤ (qN n 7 : Int) by omega)]; rfl
  obtain ⟨k, hk⟩ : ∃ k, firstN 9 (oneB (n : Int)) = some k := by
    cases hf : firstN 9 (oneB (n : Int)) with
    | some k => exact ⟨k, rfl⟩
    | none =>
      unfold firstN at hf
      rw [List.find?_range_eq_none] at hf
      have := hf 7 (by omega)
      rw [h7] at this; cases this
  obtain ⟨_, hk1, hk2⟩ := firstN_spec hk
  have hk7 : k ≤ 7 := by
    rcases Nat.lt_or_ge 7 k with hl | hl
    · have := hk2 7 hl; rw [h7] at this; cases this
    · exact hl
  have hsz : intSz (n : Int) = k + 1 := by unfold intSz; rw [hk]; simp; omega
  have hint : intS (n : Int) = tlv 2 (numS n (k + 1)) := by
    unfold intS
    rw [if_pos (by omega), hsz, elemS_ok (by rw [numS_length]; omega)]
  have hq : qN n k ≤ 127 := by
    simp only [oneB, restN_nat, Bool.and_eq_true, decide_eq_true_eq] at hk1
    omega
  have hlt : n < 256 ^ (k + 1) := by
    have h1 : n < (qN n k + 1) * 256 ^ k := by
      unfold qN
      have := Nat.lt_mul_div_succ n (show 0 < 256 ^ k from Nat.pow_pos (by decide))
      rw [Nat.mul_comm] at this; exact this
    have h2 : (qN n k + 1) * 256 ^ k ≤ 256 * 256 ^ k := Nat.mul_le_mul_right _ (by omega)
    rw [Nat.pow_succ, Nat.mul_comm]; omega
  have hb : beN (numS (n : Int) (k + 1)) = n := by rw [beN_num n _ (by omega), Nat.mod_eq_of_lt hlt]
  have hs : sgn (numS (n : Int) (k + 1)) = (n : Int) := by
    rw [numS_succ, sgn_pos (by rw [byteAt_nat n k (by omega), byteOf_nat]; omega), ← numS_succ, hb]
  refine ⟨numS n (k + 1), hint, by rw [numS_length]; omega, by rw [numS_length]; omega, ?_, hb, fun h8 => ?_⟩
  · unfold decInt
    rw [hs, hint, elemS_ok (by rw [numS_length]; omega), if_pos ⟨by rw [numS_length]; omega, by rw [numS_length]; omega, rfl⟩]
  · rw [numS_length] at h8
    have hk6 := hk2 6 (by omega)
    simp only [oneB, restN_nat, Bool.and_eq_false_iff, decide_eq_false_iff_not] at hk6
    have : 128 ≤ qN n 6 := by omega
    unfold qN at this
    have h9 := (Nat.le_div_iff_mul_le (show 0 < 256 ^ 6 by decide)).1 this
    omega
theorem intS_i {v : Int} (h : 0 ≤ v ∧ v ≤ 4611686018427387904) : ∃ c, intS v = tlv 2 c ∧ c.length ≤ 8 ∧ 1 ≤ c.length ∧ decInt c = some v ∧ (beN c : Int) = v ∧ (c.length = 8 → 36028797018963968 ≤ v) := by
  obtain ⟨n, rfl⟩ : ∃ n : Nat, v = n := ⟨v.toNat, by omega⟩
  obtain ⟨c, h1, h2, h3, h4, h5, h6⟩ := intS_nat n (by omega)
  exact ⟨c, h1, h2, h3, h4, by rw [h5], fun h => by have := h6 h; omega⟩
def intP : PR Int := rdP 2 decInt
def strP : PR ByteArray := rdP 27 decStr
theorem intP_ok {v : Int} (h : 0 ≤ v ∧ v ≤ 4611686018427387904) (r : List UInt8) : intP (intS v ++ r) = .ok (v, (intS v).length) := by
  obtain ⟨c, h1, h2, _, h4, _⟩ := intS_i h
  rw [h1]; exact rdP_tlv (by omega) h4 r
theorem strP_ok {s : ByteArray} (h : s.size ≤ 16777215) (r : List UInt8) : strP (elemS 27 [s.data.toList] ++ r) = .ok (s, (elemS 27 [s.data.toList]).length) := by
  have hl : s.data.toList.length = s.size := by simp
  rw [elemS_ok (by omega)]
  exact rdP_tlv (by omega) (by unfold decStr; simp) r
/-- A parser that reads all of an encoding. -/
theorem full {α : Type} {p : PR α} {v : α} {e : List UInt8} (h : ∀ r, p (e ++ r) = .ok (v, e.length)) : p e = .ok (v, e.length) := by have := h []; rwa [List.append_nil] at this

/-! ### Offers -/
def saltP : PR Salt := inP 48 (bindP (needP 0 intP) fun a => bindP (needP 1 strP) fun s => bindP (needP 2 intP) fun i => retP (a, s, i))
theorem saltS_tlv (p : Int) (s : ByteArray) (i : Int) (hp : 0 ≤ p ∧ p ≤ 2) (hs : s.size ≤ 256) (hi : 0 ≤ i ∧ i ≤ 65536) : saltS (p, s, i) = tlv 48 (sufS [intS p, elemS 27 [s.data.toList], intS i] 0 3) := by
  have hl : (s.data.toList).length = s.size := by simp
  have i1 := intS_len p
  have i2 := intS_len i
  have e : saltS (p, s, i) = elemS 48 (tagN [intS p, elemS 27 [s.data.toList], intS i] 3) := rfl
  have hf : (tagN [intS p, elemS 27 [s.data.toList], intS i] 3).flatten = sufS [intS p, elemS 27 [s.data.toList], intS i] 0 3 := sufS_all [intS p, elemS 27 [s.data.toList], intS i]
  have w0 := wrapS_len 160 0 (intS p)
  have w1 := wrapS_len 160 1 (elemS 27 [s.data.toList])
  have w2 := wrapS_len 160 2 (intS i)
  have w3 := elemS_len 27 [s.data.toList]
  simp only [List.flatten_cons, List.flatten_nil, List.append_nil] at w3
  rw [e, elemS_flat, hf]
  have : (tagN [intS p, elemS 27 [s.data.toList], intS i] 3).flatten = wrapS 160 0 (intS p) ++ (wrapS 160 1 (elemS 27 [s.data.toList]) ++ wrapS 160 2 (intS i)) := by simp [tagN, List.range_succ]
  rw [this]
  simp only [List.length_append]
  omega
/-- Three small fields: their lengths. -/
theorem saltP_at (p : Int) (s : ByteArray) (i : Int) (hp : 0 ≤ p ∧ p ≤ 2) (hs : s.size ≤ 256) (hi : 0 ≤ i ∧ i ≤ 65536) (r : List UInt8) : saltP (saltS (p, s, i) ++ r) = .ok ((p, s, i), (saltS (p, s, i)).length) := by
  have hl : (s.data.toList).length = s.size := by simp
  have i1 := intS_len p
  have i2 := intS_len i
  obtain ⟨c1, e1, _⟩ := intS_i (v := p) (by omega)
  obtain ⟨c2, e2, _⟩ := intS_i (v := i) (by omega)
  have es : elemS 27 [s.data.toList] = tlv 27 s.data.toList := elemS_ok (by omega)
  have hlen : (saltS (p, s, i)).length ≤ s.size + 53 := saltS_len (p, s, i)
  have hL : ∀ j, (([intS p, elemS 27 [s.data.toList], intS i] : List (List UInt8)).getD j []).length ≤ 16777215 := fun j => by
    match j with
    | 0 => show (intS p).length ≤ _; omega
    | 1 => show (elemS 27 [s.data.toList]).length ≤ _; rw [es, tlv_length]; have := lenS_len s.data.toList.length; omega
    | 2 => show (intS i).length ≤ _; omega
    | j + 3 => exact Nat.zero_le _
  have hS := saltS_tlv p s i hp hs hi
  have hin : (sufS [intS p, elemS 27 [s.data.toList], intS i] 0 3).length ≤ 16777215 := by
    rw [hS, tlv_length] at hlen; omega
  rw [hS]
  refine inP_tlv hin ?_ r
  have q0 : intP (([intS p, elemS 27 [s.data.toList], intS i] : List (List UInt8)).getD 0 []) = .ok (p, (([intS p, elemS 27 [s.data.toList], intS i] : List (List UInt8)).getD 0 []).length) := full (e := intS p) (intP_ok (by omega))
  have q1 : strP (([intS p, elemS 27 [s.data.toList], intS i] : List (List UInt8)).getD 1 []) = .ok (s, (([intS p, elemS 27 [s.data.toList], intS i] : List (List UInt8)).getD 1 []).length) := full (e := elemS 27 [s.data.toList]) (strP_ok (by omega))
  have q2 : intP (([intS p, elemS 27 [s.data.toList], intS i] : List (List UInt8)).getD 2 []) = .ok (i, (([intS p, elemS 27 [s.data.toList], intS i] : List (List UInt8)).getD 2 []).length) := full (e := intS i) (intP_ok (by omega))
  have n0 : ([intS p, elemS 27 [s.data.toList], intS i] : List (List UInt8)).getD 0 [] ≠ [] := by show intS p ≠ []; rw [e1]; simp [tlv]
  have n1 : ([intS p, elemS 27 [s.data.toList], intS i] : List (List UInt8)).getD 1 [] ≠ [] := by show elemS 27 _ ≠ []; rw [es]; simp [tlv]
  have n2 : ([intS p, elemS 27 [s.data.toList], intS i] : List (List UInt8)).getD 2 [] ≠ [] := by show intS i ≠ []; rw [e2]; simp [tlv]
  have g := bindP_ok (f := fun a => bindP (needP 1 strP) fun s' => bindP (needP 2 intP) fun i => retP (a, s', i)) (need_suf (k := 2) hL (by omega) n0 q0)
    (bindP_ok (f := fun s' => bindP (needP 2 intP) fun i => retP (p, s', i)) (need_suf (k := 1) hL (by omega) n1 q1)
      (bindP_ok (f := fun i => retP (p, s, i)) (need_suf (k := 0) hL (by omega) n2 q2) rfl))
  rw [g]
  congr 2
  rw [sufS_succ, sufS_succ, sufS_succ]
  simp only [sufS, List.range'_zero, List.map_nil, List.flatten_nil, List.append_nil, List.length_append, Nat.zero_add, Nat.reduceAdd]
  omega
theorem salt_small {s : Salt} (h : vSalt s = true) : (0 ≤ (s.1 : Int) ∧ (s.1 : Int) ≤ 2) ∧ s.2.1.size ≤ 256 ∧ (0 ≤ (s.2.2 : Int) ∧ (s.2.2 : Int) ≤ 65536) := by
  have hp := vSalt_pos h
  simp only [vSalt, Bool.and_eq_true, decide_eq_true_eq] at h
  obtain ⟨h1, h2, h3, h4⟩ := h
  unfold keyLen at h1
  exact ⟨⟨by grind, by grind⟩, by omega, by grind, by grind⟩
theorem saltP_ok {s : Salt} (h : vSalt s = true) (r : List UInt8) : saltP (saltS s ++ r) = .ok (s, (saltS s).length) := by
  obtain ⟨h1, h2, h3⟩ := salt_small h
  obtain ⟨p, s, i⟩ := s
  exact saltP_at p s i h1 h2 h3 r
theorem saltS_ne {s : Salt} (h : vSalt s = true) : saltS s ≠ [] := by
  intro e
  have := saltP_ok h []
  rw [e] at this
  simp [saltP, inP, takeE] at this
def offerP : PR (List Salt) := inP 48 (listP saltP 4)
theorem offerS_tlv {l : List Salt} (h : vOffer l = true) : offerS l = tlv 48 (l.map saltS).flatten ∧ (l.map saltS).flatten.length ≤ 16777215 := by
  have hl4 : l.length ≤ 4 := by simp [vOffer] at h; omega
  have hv : ∀ s ∈ l, vSalt s = true := by simp [vOffer] at h; exact fun s hs => by have := h.1.2; simp_all
  have hd : offerS l = elemS 48 (l.map saltS) := by
    unfold offerS listS mapN
    split
    · rename_i h; rw [List.length_eq_zero_iff.1 h]; rfl
    · rw [List.take_length]
  have hb : ∀ (m : List Salt), (∀ s ∈ m, vSalt s = true) → (m.map saltS).flatten.length ≤ 309 * m.length := fun m => by
    induction m with
    | nil => simp
    | cons x m ih =>
      intro h
      have h1 := saltS_len x
      have h2 := (salt_small (h x (by simp))).2.1
      have h3 := ih (fun y hy => h y (by simp [hy]))
      simp only [List.map_cons, List.flatten_cons, List.length_append, List.length_cons]
      omega
  have hf : (l.map saltS).flatten.length ≤ 16777215 := by have := hb l hv; omega
  rw [hd, elemS_flat hf]
  exact ⟨rfl, hf⟩
theorem offerP_ok {l : List Salt} (h : vOffer l = true) : offerP (offerS l) = .ok (l, (offerS l).length) := by
  have hl4 : l.length ≤ 4 := by simp [vOffer] at h; omega
  have hv : ∀ s ∈ l, vSalt s = true := by simp [vOffer] at h; exact fun s hs => by have := h.1.2; simp_all
  obtain ⟨hd, hf⟩ := offerS_tlv h
  rw [hd]
  refine full (inP_tlv hf ?_)
  exact listP_ok l 4 hl4 fun s hs => ⟨saltS_ne (hv s hs), saltP_ok (hv s hs)⟩
def decOffer (b : List UInt8) : Option (List Salt) := match allP offerP b with
  | .ok l => if vOffer l = true ∧ offerS l = b then some l else none
  | .error _ => none
theorem decOffer_iff (b : List UInt8) (l : List Salt) : decOffer b = some l ↔ vOffer l = true ∧ offerS l = b := by
  constructor
  · unfold decOffer
    split
    · split
      · rintro ⟨⟩; assumption
      · intro h; cases h
    · intro h; cases h
  · rintro ⟨h, rfl⟩
    have := offerP_ok h
    unfold decOffer allP
    rw [this]
    simp [h]
end Go.Proofs.YtddmkgibghohkaaGreatDoor
/- Contracts: the reference's reading of elements. -/
namespace Go.Proofs.YtddmkgibghohkaaGreatDoor
open Go Go.Sx Go.Proofs
set_option maxRecDepth 100000
set_option maxHeartbeats 4000000
set_option linter.unusedSimpArgs false

def chkR (b : List UInt8) (a n : Nat) : Option (Nat × Nat) := if b.length - a < n then none else some (a, a + n)
/-- Where the contents of the first element begin and end. -/
def fstR (b : List UInt8) : Option (Nat × Nat) :=
  if b.length < 2 then none else
  if (b.getD 1 0).toNat < 128 then chkR b 2 (b.getD 1 0).toNat else
  if (b.getD 1 0).toNat - 128 < 1 ∨ 3 < (b.getD 1 0).toNat - 128 ∨ b.length < 2 + ((b.getD 1 0).toNat - 128) then none else
  chkR b (2 + ((b.getD 1 0).toNat - 128)) (beN ((b.drop 2).take ((b.getD 1 0).toNat - 128)))
def fstV (b : List UInt8) : SV := match fstR b with
  | none => .tup [rI 0, .isl .u8 [], rI 0]
  | some (a, e) => .tup [rI (b.getD 0 0).toNat, .isl .u8 ((b.take e).drop a), rI e]
theorem beN_lt4 (l : List UInt8) (h : l.length ≤ 3) : beN l < 16777216 := by
  have h1 := beN_lt l
  have h2 : 256 ^ l.length ≤ 256 ^ 3 := Nat.pow_le_pow_right (by decide) h
  omega
theorem rfirst_c (b : List UInt8) (hb : b.length ≤ 1099511627776) : PC Tryz.prog 153 [.isl .u8 b] (fstV b) := by
  have hx : (b.getD 1 Ty.u8.dflt).toNat < 256 := UInt8.toNat_lt _
  have hd : b.getD 1 0 = b.getD 1 Ty.u8.dflt := rfl
  have e0 : IntKind.i64.wrap ((b.getD 1 Ty.u8.dflt).toNat : Int) = (((b.getD 1 Ty.u8.dflt).toNat : Nat) : Int) := wrapi (by omega)
  have e1 : IntKind.i64.wrap (((b.getD 1 Ty.u8.dflt).toNat : Int) - 128) = ((b.getD 1 Ty.u8.dflt).toNat : Int) - 128 := wrapi (by omega)
  have e2 : IntKind.i64.wrap (2 + (((b.getD 1 Ty.u8.dflt).toNat : Int) - 128)) = 2 + (((b.getD 1 Ty.u8.dflt).toNat : Int) - 128) := wrapi (by omega)
  have e3 : IntKind.i64.wrap ((b.length : Int) - 2) = (b.length : Int) - 2 := wrapi (by omega)
  have e4 : IntKind.i64.wrap (2 + ((b.getD 1 Ty.u8.dflt).toNat : Int)) = 2 + ((b.getD 1 Ty.u8.dflt).toNat : Int) := wrapi (by omega)
  have e5 : IntKind.i64.wrap ((b.getD 0 Ty.u8.dflt).toNat : Int) = (((b.getD 0 Ty.u8.dflt).toNat : Nat) : Int) := wrapi (by have := (b.getD 0 Ty.u8.dflt).toNat_lt; omega)
  have hno : fstR b = none → fstV b = .tup [rI 0, .isl .u8 [], rI 0] := fun h => by unfold fstV; rw [h]
  have hyes : ∀ a e, fstR b = some (a, e) → fstV b = .tup [rI (b.getD 0 0).toNat, .isl .u8 ((b.take e).drop a), rI e] := fun a e h => by unfold fstV; rw [h]
  have hsc : (fstV b).clean = true := by
    cases h : fstR b with
    | none => rw [hno h]; rfl
    | some y => obtain ⟨a, e⟩ := y; rw [hyes a e h]; rfl
  generalize fstV b = W at *
  refine pc_seal rfl hsc ?_
  refine vc_fi fi153 (run_sound mixed 600 _ ?_)
  simp (maxSteps := 3000000) only [ir153, e0, e1, e2, e3, e4, e5, go_sem, ↓zA, ↓reduceIte, ↓reduceDIte, reduceCtorEq, Nat.reduceAdd, Nat.reduceSub, Nat.reduceLeDiff, Nat.reduceLT, Nat.reduceEqDiff, Nat.reduceBEq, Nat.reduceMul, Int.reduceToNat, Int.reduceEq, Int.reduceLT, Int.reduceLE] <;> try simp only [zB]
  generalize hxx : b.getD 1 Ty.u8.dflt = x at *
  have hF : ∀ r, fstR b = r → fstR b = r := fun _ h => h
  have hno' : fstR b = none → (SV.tup [SV.raw (Value.int IntKind.i64 0), SV.raw (Value.slice none 0 0), SV.raw (Value.int IntKind.i64 0)]).leV W := fun h => by
    rw [hno h]
    (with_reducible refine sxE ?_ <;> try exact True.intro)
  refine ⟨fun h => ?_, fun h => ⟨by omega, fun h2 => ⟨fun h3 => ⟨fun h4 => ⟨fun h5 => ?_, fun h5 => ?_⟩, fun h4 => ?_⟩, fun h3 => ?_⟩, fun h2 => ⟨fun h3 => ?_, fun h3 => ?_⟩⟩⟩
  · refine hno' ?_
    unfold fstR; rw [if_pos (by omega)]
  · refine hno' ?_
    unfold fstR; rw [hd, if_neg (by omega), if_neg (by omega), if_pos (by omega)]
  · obtain ⟨m, hxm⟩ : ∃ m : Nat, (x.toNat : Int) - 128 = (m : Int) := ⟨x.toNat - 128, by omega⟩
    have hm3 : 1 ≤ m ∧ m ≤ 3 := by omega
    have hmn : x.toNat - 128 = m := by omega
    rw [hxm]
    have hl2 : (b.drop 2).length = b.length - 2 := List.length_drop
    generalize hL : b.drop 2 = L at *
    have hgd : ∀ i, L.getD i Ty.u8.dflt = b.getD (2 + i) Ty.u8.dflt := fun i => by
      rw [← hL, List.getD_eq_getElem?_getD, List.getElem?_drop, List.getD_eq_getElem?_getD]
    have hfst : ∀ v, beN (L.take m) = v → fstR b = chkR b (2 + m) v := fun v hv => by
      unfold fstR
      rw [hd, hL, hmn, if_neg (by omega), if_neg (by omega), if_neg (by omega), hv]
    refine si_cntD (fun i => [(5, rI (beN (L.take i))), (8, .raw (.int .i64 ((i : Nat) : Int)))]) (m) (fun j => (fun _ => true) j = true) (by first | decide | simp) (fun i => rfl) ?_ fun i hi hall => ?_
    · (with_reducible refine sxE ?_ <;> try exact True.intro)
      all_goals (try rfl)
    have hwr : IntKind.i64.wrap ((i : Int) + 1) = ((i + 1 : Nat) : Int) := wrap_succ (by omega)
    refine goE mixed ?_ <;> try with_reducible exact True.intro
    have bad : i < (m) → (fun _ => true) i = false → allN (m) (fun _ => true) = false := fun hlt hv => allN_false hlt hv
    have fin : ¬ i < (m) → allN (m) (fun _ => true) = true := fun h => allN_true fun j hj => hall j (by omega)
    try dsimp only at bad fin hall
    refine ⟨fun hlt => ?_, fun hge => ?_⟩
    · have hi2 : IntKind.i64.wrap (2 + (i : Int)) = ((2 + i : Nat) : Int) := by rw [wrapi (by omega)]; omega
      have hv := beN_lt4 (L.take i) (by simp; omega)
      have hc : (b.getD (2 + i) Ty.u8.dflt).toNat < 256 := UInt8.toNat_lt _
      have w1 : IntKind.i64.wrap (256 * (beN (L.take i) : Int)) = 256 * (beN (L.take i) : Int) := wrapi (by omega)
      have w2 : IntKind.i64.wrap ((b.getD (2 + i) Ty.u8.dflt).toNat : Int) = (((b.getD (2 + i) Ty.u8.dflt).toNat : Nat) : Int) := wrapi (by omega)
      have e6 := beN_succ L i (by omega)
      have e7 : L.getD i 0 = b.getD (2 + i) Ty.u8.dflt := hgd i
      rw [e7] at e6
      rw [hi2, Int.toNat_natCast, w1, w2]
      have w3 : IntKind.i64.wrap (256 * (beN (L.take i) : Int) + ((b.getD (2 + i) Ty.u8.dflt).toNat : Int)) = (beN (L.take (i + 1)) : Int) := by rw [wrapi (by omega), e6]; omega
      rw [w3]
      refine ⟨⟨by omega, by omega⟩, hlt, trivial, ⟨[], rfl⟩, ?_⟩
      simp (maxSteps := 3000000) only [hwr, go_sem, ↓zA, ↓reduceIte, ↓reduceDIte, reduceCtorEq, Nat.reduceAdd, Nat.reduceSub, Nat.reduceLeDiff, Nat.reduceLT, Nat.reduceEqDiff, Nat.reduceBEq, Nat.reduceMul, Int.reduceToNat, Int.reduceEq, Int.reduceLT, Int.reduceLE] <;> try simp only [zB]
    · obtain rfl : i = m := by omega
      have hv := beN_lt4 (L.take i) (by simp; omega)
      generalize hV : beN (L.take i) = V at *
      have hf := hfst V rfl
      have w1 : IntKind.i64.wrap (2 + (i : Int)) = ((2 + i : Nat) : Int) := by rw [wrapi (by omega)]; omega
      have w2 : IntKind.i64.wrap (((2 + i : Nat) : Int) + (V : Int)) = ((2 + i + V : Nat) : Int) := by rw [wrapi (by omega)]; omega
      have w3 : IntKind.i64.wrap ((b.length : Int) - ((2 + i : Nat) : Int)) = (b.length : Int) - ((2 + i : Nat) : Int) := wrapi (by omega)
      rw [w1, w3, w2, e5]
      refine ⟨fun q => hno' (by rw [hf]; unfold chkR; rw [if_pos (by omega)]), fun q => ⟨by omega, ⟨by omega, by omega, by omega⟩, ?_⟩⟩
      rw [hyes (2 + i) (2 + i + V) (by rw [hf]; unfold chkR; rw [if_neg (by omega)])]
      (with_reducible refine sxE ?_ <;> try exact True.intro)
      rfl
  · refine hno' ?_
    unfold fstR; rw [hd, if_neg (by omega), if_neg (by omega), if_pos (by omega)]
  · refine hno' ?_
    unfold fstR; rw [hd, if_neg (by omega), if_neg (by omega), if_pos (by omega)]
  · refine hno' ?_
    unfold fstR chkR; rw [hd, if_neg (by omega), if_pos (by omega), if_pos (by omega)]
  · have hf : fstR b = some (2, 2 + x.toNat) := by unfold fstR chkR; rw [hd, if_neg (by omega), if_pos (by omega), if_neg (by omega)]
    rw [hyes _ _ hf]
    have ht : ((2 : Int) + (x.toNat : Int)).toNat = 2 + x.toNat := by omega
    rw [ht]
    refine ⟨by omega, ⟨by omega, by omega⟩, ?_⟩
    (with_reducible refine sxE ?_ <;> try exact True.intro)
    exact ⟨rfl, congrArg (Value.int .i64) (by omega)⟩
def conR (b : List UInt8) : List UInt8 := match fstR b with
  | none => []
  | some (a, e) => (b.take e).drop a
theorem fstR_le {b : List UInt8} {a e : Nat} (h : fstR b = some (a, e)) : 2 ≤ a ∧ a ≤ e ∧ e ≤ b.length := by
  have key : ∀ a' n, chkR b a' n = some (a, e) → 2 ≤ a' → a' ≤ b.length → 2 ≤ a ∧ a ≤ e ∧ e ≤ b.length := by
    intro a' n h1 h2 h3
    unfold chkR at h1
    split at h1
    · cases h1
    · cases h1; omega
  unfold fstR at h
  split at h
  · cases h
  · split at h
    · exact key _ _ h (by omega) (by omega)
    · split at h
      · cases h
      · exact key _ _ h (by omega) (by omega)
theorem conR_len (b : List UInt8) : (conR b).length ≤ b.length := by
  unfold conR
  split
  · simp
  · rw [List.length_drop, List.length_take]; omega
theorem contents_c (b : List UInt8) (hb : b.length ≤ 1099511627776) : PC Tryz.prog 82 [.isl .u8 b] (.isl .u8 (conR b)) := by
  have h := rfirst_c b hb
  unfold fstV at h
  unfold conR
  refine pc_seal rfl rfl ?_
  refine runE mixed fi82 ?_ <;> try with_reducible exact True.intro
  refine callI_pure h ?_
  cases hf : fstR b with
  | none =>
    refine goE mixed ?_ <;> try with_reducible exact True.intro
  | some y =>
    obtain ⟨a, e⟩ := y
    refine goE mixed ?_ <;> try with_reducible exact True.intro
/-- The elements, as far as they are complete. -/
def elsR : Nat → List UInt8 → List (List UInt8)
  | 0, _ => []
  | f + 1, b => match fstR b with
    | none => []
    | some (_, e) => b.take e :: elsR f (b.drop e)
theorem elsR_fuel : ∀ (f : Nat) (b : List UInt8), b.length ≤ f → elsR f b = elsR b.length b
  | 0, b, h => by
    have : b = [] := List.length_eq_zero_iff.1 (by omega)
    subst this; rfl
  | f + 1, b, h => by
    cases hb : b.length with
    | zero =>
      have : b = [] := List.length_eq_zero_iff.1 hb
      subst this
      simp [elsR, fstR]
    | succ n =>
      simp only [elsR]
      cases hf : fstR b with
      | none => rfl
      | some y =>
        obtain ⟨a, e⟩ := y
        have hle := fstR_le hf
        simp only
        rw [elsR_fuel f (b.drop e) (by rw [List.length_drop]; omega), elsR_fuel n (b.drop e) (by rw [List.length_drop]; omega)]
theorem elsR_none {b : List UInt8} (h : fstR b = none) : elsR b.length b = [] := by
  cases hb : b.length with
  | zero => rfl
  | succ n => simp only [elsR, h]
theorem elsR_some {b : List UInt8} {a e : Nat} (h : fstR b = some (a, e)) : elsR b.length b = b.take e :: elsR (b.drop e).length (b.drop e) := by
  have hle := fstR_le h
  cases hb : b.length with
  | zero => omega
  | succ n =>
    simp only [elsR, h]
    rw [elsR_fuel n (b.drop e) (by rw [List.length_drop]; omega)]
theorem elements_c (b : List UInt8) (hb : b.length ≤ 1048576) : PC Tryz.prog 81 [.isl .u8 b] (.isl (.slice .u8) (elsR b.length b)) := by
  refine pc_seal rfl rfl ?_
  refine runE mixed fi81 ?_ <;> try with_reducible exact True.intro
  refine si_nilrow 3 (.slice .u8) rfl rfl ?_
  (with_reducible refine sxE ?_ <;> try exact True.intro)
  refine si_loopX (ι := List UInt8 × List (List UInt8) × List SObj) (fun s => [(0, .isl .u8 s.1), (3, .bld s.2.2.length (.slice .u8) s.2.1.length)]) (fun s => s.2.2 ++ [.row (.slice .u8) s.2.1]) (fun s => s.1.length) (fun s => s.1.length ≤ b.length ∧ s.2.1.length + s.1.length ≤ b.length ∧ elsR b.length b = s.2.1 ++ elsR s.1.length s.1) (b, [], []) ⟨Nat.le_refl _, by simp, rfl⟩ rfl ?_ ?_
  · (with_reducible refine sxE ?_ <;> try exact True.intro)
  rintro ⟨r, acc, G⟩ ⟨h1, h2, h3⟩
  dsimp only at h1 h2 h3
  have hf := rfirst_c r (by omega)
  refine goaE mixed ?_ <;> try with_reducible exact True.intro
  refine callI_pure hf ?_
  unfold fstV
  cases hx : fstR r with
  | none =>
    rw [elsR_none hx, List.append_nil] at h3
    rw [h3]
    refine goaE mixed ?_ <;> try with_reducible exact True.intro
    exact ⟨⟨Nat.le_refl _, by omega⟩, List.take_length⟩
  | some y =>
    obtain ⟨a, e⟩ := y
    have hle := fstR_le hx
    rw [elsR_some hx] at h3
    refine goaE mixed ?_ <;> try with_reducible exact True.intro
    refine ⟨fun q => by exfalso; omega, fun _ => ⟨⟨by omega, by omega⟩, ⟨by omega, by omega⟩, ⟨by omega, by omega, Nat.le_refl _⟩, ?_⟩⟩
    rw [List.take_length]
    have hl : (r.drop e).length = r.length - e := List.length_drop
    refine ⟨(r.drop e, acc ++ [r.take e], G ++ [.dead, .row (.slice .u8) [r.take e]]), ⟨?_, ?_, ?_⟩, ?_, ?_, ?_⟩
    · dsimp only; omega
    · dsimp only; rw [List.length_append, hl]; simp; omega
    · dsimp only; rw [h3, List.append_assoc]; rfl
    · dsimp only; omega
    · simp
    · (with_reducible refine sxaE ?_ <;> try exact True.intro)
theorem elsR_mem : ∀ (f : Nat) (b : List UInt8), ∀ x ∈ elsR f b, 2 ≤ x.length ∧ x.length ≤ b.length
  | 0, b, x, h => by simp [elsR] at h
  | f + 1, b, x, h => by
    simp only [elsR] at h
    cases hf : fstR b with
    | none => rw [hf] at h; simp at h
    | some y =>
      obtain ⟨a, e⟩ := y
      have hle := fstR_le hf
      rw [hf] at h
      simp only [List.mem_cons] at h
      rcases h with rfl | h
      · rw [List.length_take]; omega
      · have := elsR_mem f (b.drop e) x h
        rw [List.length_drop] at this; omega
theorem elsR_len : ∀ (f : Nat) (b : List UInt8), (elsR f b).length ≤ b.length
  | 0, b => by simp [elsR]
  | f + 1, b => by
    simp only [elsR]
    cases hf : fstR b with
    | none => simp
    | some y =>
      obtain ⟨a, e⟩ := y
      have hle := fstR_le hf
      have := elsR_len f (b.drop e)
      rw [List.length_drop] at this
      simp only [List.length_cons]; omega
def isTag (n : Nat) (x : List UInt8) : Bool := decide (((x.getD 0 0).toNat : Int) = 160 + (n : Int))
def fndR (n : Nat) (l : List (List UInt8)) : List UInt8 := match l.find? (isTag n) with
  | none => []
  | some x => conR x
def itmR (b : List UInt8) (n : Nat) : List UInt8 := fndR n (elsR (conR b).length (conR b))
theorem find_at {n : Nat} {l : List (List UInt8)} {i : Nat} (h : i < l.length) (hq : isTag n (l.getD i []) = true) (hn : ∀ j, j < i → isTag n (l.getD j []) = false) : fndR n l = conR (l.getD i []) := by
  have : l.find? (isTag n) = some (l.getD i []) := by
    rw [List.find?_eq_some_iff_getElem]
    refine ⟨hq, i, h, by rw [List.getD_eq_getElem?_getD, List.getElem?_eq_getElem h]; rfl, fun j hj => ?_⟩
    have := hn j hj
    rw [List.getD_eq_getElem?_getD, List.getElem?_eq_getElem (by omega)] at this
    simpa using this
  unfold fndR; rw [this]
theorem find_no {n : Nat} {l : List (List UInt8)} (hn : ∀ j, j < l.length → isTag n (l.getD j []) = false) : fndR n l = [] := by
  have : l.find? (isTag n) = none := by
    rw [List.find?_eq_none]
    intro x hx
    obtain ⟨j, hj, rfl⟩ := List.getElem_of_mem hx
    have := hn j hj
    rw [List.getD_eq_getElem?_getD, List.getElem?_eq_getElem hj] at this
    simpa using this
  unfold fndR; rw [this]
theorem itmR_len (b : List UInt8) (n : Nat) : (itmR b n).length ≤ b.length := by
  unfold itmR fndR
  split
  · simp
  · rename_i x hx
    have h1 := elsR_mem _ _ x (List.mem_of_find?_eq_some hx)
    have h2 := conR_len x
    have h3 := conR_len b
    omega
theorem item_c (b : List UInt8) (n : Nat) (hn : n ≤ 30) (hb : b.length ≤ 1048576) : PC Tryz.prog 84 [.isl .u8 b, rI n] (.isl .u8 (itmR b n)) := by
  have hl := conR_len b
  have hc := contents_c b (by omega)
  have he := elements_c (conR b) (by omega)
  have hm := elsR_mem (conR b).length (conR b)
  have hle := elsR_len (conR b).length (conR b)
  have hd : itmR b n = fndR n (elsR (conR b).length (conR b)) := rfl
  rw [hd]
  generalize elsR (conR b).length (conR b) = l at *
  refine pc_seal rfl rfl ?_
  refine runE mixed fi84 ?_ <;> try with_reducible exact True.intro
  refine callI_pure hc ?_
  refine goE mixed ?_ <;> try with_reducible exact True.intro
  refine callI_pure he ?_
  refine goE mixed ?_ <;> try with_reducible exact True.intro
  refine si_cntD (fun i => [(6, .raw (.int .i64 ((i : Nat) : Int)))]) (l.length) (fun j => (fun j => !isTag n (l.getD j [])) j = true) (by first | decide | simp) (fun i => rfl) ?_ fun i hi hall => ?_
  · (with_reducible refine sxE ?_ <;> try exact True.intro)
    all_goals (try rfl)
  have hwr : IntKind.i64.wrap ((i : Int) + 1) = ((i + 1 : Nat) : Int) := wrap_succ (by omega)
  refine goE mixed ?_ <;> try with_reducible exact True.intro
  have bad : i < (l.length) → (fun j => !isTag n (l.getD j [])) i = false → allN (l.length) (fun j => !isTag n (l.getD j [])) = false := fun hlt hv => allN_false hlt hv
  have fin : ¬ i < (l.length) → allN (l.length) (fun j => !isTag n (l.getD j [])) = true := fun h => allN_true fun j hj => hall j (by omega)
  try dsimp only at bad fin hall
  refine ⟨fun hlt => ?_, fun hge => ?_⟩
  · have hmm := hm _ (getD_mem (d := (Ty.slice .u8).dflt) hlt)
    have hx := (List.getD (l.getD i (Ty.slice .u8).dflt) 0 Ty.u8.dflt).toNat_lt
    have w1 : IntKind.i64.wrap ((List.getD (l.getD i (Ty.slice .u8).dflt) 0 Ty.u8.dflt).toNat : Int) = (((List.getD (l.getD i (Ty.slice .u8).dflt) 0 Ty.u8.dflt).toNat : Nat) : Int) := wrapi (by omega)
    have w2 : IntKind.i64.wrap (160 + (n : Int)) = 160 + (n : Int) := wrapi (by omega)
    rw [w1, w2]
    refine ⟨⟨by omega, hlt⟩, by omega, fun q => ⟨⟨by omega, hlt⟩, callI_pure (contents_c _ (by omega)) ?_⟩, fun q => ?_⟩
    · have hq : isTag n (l.getD i []) = true := decide_eq_true q
      rw [find_at hlt hq (fun j hj => by have := hall j hj; simpa using this)]
      refine goE mixed ?_ <;> try with_reducible exact True.intro
      rfl
    · have hq : isTag n (l.getD i []) = false := decide_eq_false q
      refine ⟨hlt, next_all (fun j hj => by have := hall j hj; simpa using this) hq, ⟨[], rfl⟩, ?_⟩
      simp (maxSteps := 3000000) only [hwr, go_sem, ↓zA, ↓reduceIte, ↓reduceDIte, reduceCtorEq, Nat.reduceAdd, Nat.reduceSub, Nat.reduceLeDiff, Nat.reduceLT, Nat.reduceEqDiff, Nat.reduceBEq, Nat.reduceMul, Int.reduceToNat, Int.reduceEq, Int.reduceLT, Int.reduceLE] <;> try simp only [zB]
  · rw [find_no (fun j hj => by have := hall j (by omega); simpa using this)]
def gIntR (b : List UInt8) : Nat := beN ((conR b).take 7)
theorem getInt_c (b : List UInt8) (hb : b.length ≤ 1099511627776) : PC Tryz.prog 83 [.isl .u8 b] (rI (gIntR b)) := by
  have hc := contents_c b hb
  unfold gIntR
  generalize conR b = c at *
  refine pc_seal rfl rfl ?_
  refine runE mixed fi83 ?_ <;> try with_reducible exact True.intro
  refine callI_pure hc ?_
  refine goE mixed ?_ <;> try with_reducible exact True.intro
  refine si_cntD (fun i => [(4, rI (beN (c.take i))), (5, .raw (.int .i64 ((i : Nat) : Int)))]) (min c.length 7) (fun j => (fun _ => true) j = true) (by first | decide | simp) (fun i => rfl) ?_ fun i hi hall => ?_
  · (with_reducible refine sxE ?_ <;> try exact True.intro)
    all_goals (try rfl)
  have hwr : IntKind.i64.wrap ((i : Int) + 1) = ((i + 1 : Nat) : Int) := wrap_succ (by omega)
  refine goE mixed ?_ <;> try with_reducible exact True.intro
  have bad : i < (min c.length 7) → (fun _ => true) i = false → allN (min c.length 7) (fun _ => true) = false := fun hlt hv => allN_false hlt hv
  have fin : ¬ i < (min c.length 7) → allN (min c.length 7) (fun _ => true) = true := fun h => allN_true fun j hj => hall j (by omega)
  try dsimp only at bad fin hall
  refine ⟨fun h1 => ⟨fun h2 => ⟨⟨by omega, h1⟩, ?_⟩, fun h2 => ?_⟩, fun h1 => ?_⟩
  · have hv := beN_lt (c.take i)
    have hv2 : 256 ^ (c.take i).length ≤ 256 ^ 6 := Nat.pow_le_pow_right (by decide) (by simp; omega)
    have hcc : (c.getD i Ty.u8.dflt).toNat < 256 := UInt8.toNat_lt _
    have w1 : IntKind.i64.wrap (256 * (beN (c.take i) : Int)) = 256 * (beN (c.take i) : Int) := wrapi (by omega)
    have w2 : IntKind.i64.wrap ((c.getD i Ty.u8.dflt).toNat : Int) = (((c.getD i Ty.u8.dflt).toNat : Nat) : Int) := wrapi (by omega)
    have e6 : beN (c.take (i + 1)) = beN (c.take i) * 256 + (c.getD i Ty.u8.dflt).toNat := beN_succ c i h1
    have w3 : IntKind.i64.wrap (256 * (beN (c.take i) : Int) + ((c.getD i Ty.u8.dflt).toNat : Int)) = (beN (c.take (i + 1)) : Int) := by rw [wrapi (by omega), e6]; omega
    rw [w1, w2, w3]
    refine ⟨by omega, trivial, ⟨[], rfl⟩, ?_⟩
    simp (maxSteps := 3000000) only [hwr, go_sem, ↓zA, ↓reduceIte, ↓reduceDIte, reduceCtorEq, Nat.reduceAdd, Nat.reduceSub, Nat.reduceLeDiff, Nat.reduceLT, Nat.reduceEqDiff, Nat.reduceBEq, Nat.reduceMul, Int.reduceToNat, Int.reduceEq, Int.reduceLT, Int.reduceLE] <;> try simp only [zB]
  · obtain rfl : i = 7 := by omega
    rfl
  · obtain rfl : i = c.length := by omega
    rw [List.take_length, List.take_of_length_le (by omega)]
end Go.Proofs.YtddmkgibghohkaaGreatDoor
/- The plain law of the reference's reading. -/
namespace Go.Proofs.YtddmkgibghohkaaGreatDoor
open Go Go.Sx Go.Proofs
set_option maxRecDepth 100000
set_option maxHeartbeats 4000000
set_option linter.unusedSimpArgs false

theorem fstR_meas {b : List UInt8} (h : (meas b).2.2 = 0) : fstR b = some ((meas b).1, (meas b).2.1) := by
  have key : ∀ a n, (measE b a n).2.2 = 0 → chkR b a n = some ((measE b a n).1, (measE b a n).2.1) := by
    intro a n h1
    unfold measE at h1 ⊢
    unfold chkR
    split at h1
    · cases h1
    · rename_i hh; rw [if_neg hh, if_neg hh]
  unfold meas at h ⊢
  unfold fstR
  split at h
  · cases h
  · rename_i g1
    rw [if_neg g1, if_neg g1]
    split at h
    · rename_i g2
      rw [if_pos g2, if_pos g2]
      exact key _ _ h
    · rename_i g2
      rw [if_neg g2, if_neg g2]
      split at h
      · cases h
      · rename_i g3
        split at h
        · cases h
        · rename_i g4
          split at h
          · cases h
          · rename_i g5
            rw [if_neg (by omega), if_neg g3, if_neg g4, if_neg g5]
            exact key _ _ h
theorem fstR_tlv (t : UInt8) (c r : List UInt8) (h : c.length ≤ 16777215) : fstR (tlv t c ++ r) = some (1 + (lenS c.length).length, (tlv t c).length) := by
  have hm := meas_tlv t c r h
  rw [fstR_meas (by rw [hm]), hm, tlv_length]
theorem conR_tlv (t : UInt8) (c r : List UInt8) (h : c.length ≤ 16777215) : conR (tlv t c ++ r) = c := by
  have := takeC_tlv t c r h
  unfold takeC at this
  rw [meas_tlv t c r h] at this
  unfold conR
  rw [fstR_tlv t c r h]
  simp only at this ⊢
  rw [tlv_length]; exact this
theorem conR_tlv' (t : UInt8) (c : List UInt8) (h : c.length ≤ 16777215) : conR (tlv t c) = c := by
  have := conR_tlv t c [] h
  rwa [List.append_nil] at this
def isEl (x : List UInt8) : Prop := ∃ t c, x = tlv t c ∧ c.length ≤ 16777215
theorem elsR_flat : ∀ (L : List (List UInt8)), (∀ x ∈ L, isEl x) → elsR L.flatten.length L.flatten = L
  | [], _ => rfl
  | x :: L, h => by
    obtain ⟨t, c, rfl, hc⟩ := h x (by simp)
    have hf := fstR_tlv t c L.flatten hc
    rw [List.flatten_cons, elsR_some hf, List.take_left, List.drop_left, elsR_flat L fun y hy => h y (by simp [hy])]
theorem flatten_ne {l : List (List UInt8)} : (l.filter fun x => !x.isEmpty).flatten = l.flatten := by
  induction l with
  | nil => rfl
  | cons x l ih =>
    cases x with
    | nil => simp [ih]
    | cons a x => simp [ih]
def wrapsL (l : List (List UInt8)) (n k : Nat) : List (List UInt8) := ((List.range' n k).map fun j => wrapS 160 (j : Nat) (l.getD j [])).filter fun x => !x.isEmpty
theorem wrapsL_succ (l : List (List UInt8)) (n k : Nat) : wrapsL l n (k + 1) = if wrapS 160 (n : Nat) (l.getD n []) = [] then wrapsL l (n + 1) k else wrapS 160 (n : Nat) (l.getD n []) :: wrapsL l (n + 1) k := by
  unfold wrapsL
  rw [List.range'_succ, List.map_cons, List.filter_cons]
  cases wrapS 160 (n : Nat) (l.getD n []) <;> simp
theorem elsR_suf {l : List (List UInt8)} {n k : Nat} (hl : ∀ j, (l.getD j []).length ≤ 16777215) (hn : n + k ≤ 31) : elsR (sufS l n k).length (sufS l n k) = wrapsL l n k := by
  have : sufS l n k = (wrapsL l n k).flatten := by unfold wrapsL sufS; rw [flatten_ne]
  rw [this]
  refine elsR_flat _ fun x hx => ?_
  unfold wrapsL at hx
  simp only [List.mem_filter, List.mem_map, List.mem_range'_1] at hx
  obtain ⟨⟨j, hj, rfl⟩, hne⟩ := hx
  rw [wrapS_ok (by omega) (hl j)] at hne ⊢
  split
  · rename_i h0; rw [if_pos h0] at hne; simp at hne
  · exact ⟨_, _, rfl, hl j⟩
theorem isTag_tlv {m n : Nat} {c : List UInt8} (hn : n ≤ 30) : isTag m (tlv (tagB n) c) = decide (n = m) := by
  unfold isTag tlv
  rw [List.getD_cons_zero, tagB_nat n hn]
  exact decide_eq_decide.2 (by omega)
theorem fnd_cons {m : Nat} {x : List UInt8} {L : List (List UInt8)} : fndR m (x :: L) = if isTag m x then conR x else fndR m L := by
  unfold fndR
  rw [List.find?_cons]
  cases isTag m x <;> simp
theorem fnd_lo {l : List (List UInt8)} {m : Nat} (hl : ∀ j, (l.getD j []).length ≤ 16777215) : ∀ (k n : Nat), m < n → n + k ≤ 31 → fndR m (wrapsL l n k) = []
  | 0, n, _, _ => rfl
  | k + 1, n, h, hn => by
    rw [wrapsL_succ, wrapS_ok (n := n) (by omega) (hl n)]
    have ih := fnd_lo (m := m) hl k (n + 1) (by omega) (by omega)
    by_cases h0 : l.getD n [] = []
    · rw [if_pos h0, if_pos rfl]; exact ih
    · rw [if_neg h0, if_neg (by simp [tlv]), fnd_cons, isTag_tlv (n := n) (by omega), decide_eq_false (show ¬ n = m by omega)]
      exact ih
theorem fnd_at {l : List (List UInt8)} {m : Nat} (hl : ∀ j, (l.getD j []).length ≤ 16777215) : ∀ (k n : Nat), n ≤ m → m < n + k → n + k ≤ 31 → fndR m (wrapsL l n k) = l.getD m []
  | 0, n, _, _, _ => by omega
  | k + 1, n, h, h2, hn => by
    rw [wrapsL_succ, wrapS_ok (n := n) (by omega) (hl n)]
    by_cases e : n = m
    · subst e
      by_cases h0 : l.getD n [] = []
      · rw [if_pos h0, if_pos rfl, fnd_lo hl k (n + 1) (by omega) (by omega), h0]
      · rw [if_neg h0, if_neg (by simp [tlv]), fnd_cons, isTag_tlv (n := n) (by omega), decide_eq_true (show n = n from rfl), if_pos rfl, conR_tlv' _ _ (hl n)]
    · have ih := fnd_at (m := m) hl k (n + 1) (by omega) (by omega) (by omega)
      by_cases h0 : l.getD n [] = []
      · rw [if_pos h0, if_pos rfl]; exact ih
      · rw [if_neg h0, if_neg (by simp [tlv]), fnd_cons, isTag_tlv (n := n) (by omega), decide_eq_false e]
        exact ih
/-- An item of a sequence of tagged elements. -/
theorem itm_seq {l : List (List UInt8)} {m k : Nat} (hl : ∀ j, (l.getD j []).length ≤ 16777215) (hk : k ≤ 31) (hm : m < k) (hs : (sufS l 0 k).length ≤ 16777215) : itmR (tlv 48 (sufS l 0 k)) m = l.getD m [] := by
  unfold itmR
  rw [conR_tlv' _ _ hs, elsR_suf hl (by omega)]
  exact fnd_at hl k 0 (Nat.zero_le _) (by omega) (by omega)
theorem gInt_ok {v : Int} (h : 0 ≤ v ∧ v < 36028797018963968) : (gIntR (intS v) : Int) = v := by
  obtain ⟨c, h1, h2, _, _, h5, h6⟩ := intS_i (v := v) (by omega)
  unfold gIntR
  rw [h1, conR_tlv' _ _ (by omega)]
  have h7 : c.length ≤ 7 := by
    rcases Nat.lt_or_ge c.length 8 with q | q
    · omega
    · have := h6 (by omega); omega
  rw [List.take_of_length_le h7]
  exact h5
/-! ### Offers -/
def sltR (x : List UInt8) : Salt := ((gIntR (itmR x 0) : Int), ⟨(conR (itmR x 1)).toArray⟩, (gIntR (itmR x 2) : Int))
def offR (b : List UInt8) : List Salt := (elsR (conR b).length (conR b)).map sltR
def decOffR (b : List UInt8) : Option (List Salt) := if vOffer (offR b) = true ∧ offerS (offR b) = b then some (offR b) else none
theorem sltR_at (p : Int) (s : ByteArray) (i : Int) (h1 : 0 ≤ p ∧ p ≤ 2) (h2 : s.size ≤ 256) (h3 : 0 ≤ i ∧ i ≤ 65536) : sltR (saltS (p, s, i)) = (p, s, i) ∧ isEl (saltS (p, s, i)) := by
  have hl : (s.data.toList).length = s.size := by simp
  have i1 := intS_len p
  have i2 := intS_len i
  have es : elemS 27 [s.data.toList] = tlv 27 s.data.toList := elemS_ok (by omega)
  have hlen : (saltS (p, s, i)).length ≤ s.size + 53 := saltS_len (p, s, i)
  have hL : ∀ j, (([intS p, elemS 27 [s.data.toList], intS i] : List (List UInt8)).getD j []).length ≤ 16777215 := fun j => by
    match j with
    | 0 => show (intS p).length ≤ _; omega
    | 1 => show (elemS 27 [s.data.toList]).length ≤ _; rw [es, tlv_length]; have := lenS_len s.data.toList.length; omega
    | 2 => show (intS i).length ≤ _; omega
    | j + 3 => exact Nat.zero_le _
  have hS : saltS (p, s, i) = tlv 48 (sufS [intS p, elemS 27 [s.data.toList], intS i] 0 3) := saltS_tlv p s i h1 h2 h3
  have hin : (sufS [intS p, elemS 27 [s.data.toList], intS i] 0 3).length ≤ 16777215 := by
    rw [hS, tlv_length] at hlen; omega
  refine ⟨?_, _, _, hS, hin⟩
  have t0 : itmR (saltS (p, s, i)) 0 = intS p := by rw [hS]; exact itm_seq (m := 0) hL (by omega) (by omega) hin
  have t1 : itmR (saltS (p, s, i)) 1 = elemS 27 [s.data.toList] := by rw [hS]; exact itm_seq (m := 1) hL (by omega) (by omega) hin
  have t2 : itmR (saltS (p, s, i)) 2 = intS i := by rw [hS]; exact itm_seq (m := 2) hL (by omega) (by omega) hin
  unfold sltR
  rw [t0, t1, t2, es, conR_tlv' _ _ (by omega), gInt_ok (by omega), gInt_ok (by omega)]
theorem sltR_ok {s : Salt} (h : vSalt s = true) : sltR (saltS s) = s ∧ isEl (saltS s) := by
  obtain ⟨h1, h2, h3⟩ := salt_small h
  obtain ⟨p, s, i⟩ := s
  exact sltR_at p s i h1 h2 h3
theorem decOffR_iff (b : List UInt8) (l : List Salt) : decOffR b = some l ↔ vOffer l = true ∧ offerS l = b := by
  constructor
  · unfold decOffR
    split
    · rintro ⟨⟩; assumption
    · intro h; cases h
  · rintro ⟨h, rfl⟩
    have hv : ∀ s ∈ l, vSalt s = true := by simp [vOffer] at h; exact fun s hs => by have := h.1.2; simp_all
    have ho : offR (offerS l) = l := by
      obtain ⟨hd, hf⟩ := offerS_tlv h
      unfold offR
      rw [hd, conR_tlv' _ _ hf, elsR_flat _ (fun x hx => by obtain ⟨s, hs, rfl⟩ := List.mem_map.1 hx; exact (sltR_ok (hv s hs)).2), List.map_map]
      conv => rhs; rw [← List.map_id l]
      exact List.map_congr_left fun s hs => (sltR_ok (hv s hs)).1
    unfold decOffR
    rw [ho, if_pos ⟨h, rfl⟩]
theorem decOff_eq (b : List UInt8) : decOffR b = decOffer b := by
  cases h : decOffer b with
  | some l => exact (decOffR_iff b l).2 ((decOffer_iff b l).1 h)
  | none =>
    cases h2 : decOffR b with
    | none => rfl
    | some l =>
      have := (decOffer_iff b l).2 ((decOffR_iff b l).1 h2)
      rw [h] at this; cases this
end Go.Proofs.YtddmkgibghohkaaGreatDoor
/- Contracts: the reader, what does not read. -/
namespace Go.Proofs.YtddmkgibghohkaaGreatDoor
open Go Go.Sx Go.Proofs
set_option maxRecDepth 100000
set_option maxHeartbeats 4000000
set_option linter.unusedSimpArgs false

/-- A reader of these bytes, at this offset. -/
@[go_sem] abbrev rdr (b : List UInt8) (n : Nat) : SObj := .cells 215 [.isl .u8 b, rI n, .raw (.bool true)]
theorem rest_c (b : List UInt8) (n : Nat) (hn : n ≤ b.length) : PE Tryz.prog 200 [.ptr 0 0] [rdr b n] (.ret (.isl .u8 (b.drop n))) [rdr b n] := by
  refine pe_seal (Nat.le_refl _) ?_
  refine runE mixed fi200 ?_ <;> try with_reducible exact True.intro
  refine ⟨⟨by omega, hn, Nat.le_refl _⟩, ?_⟩
  rw [List.take_length]
theorem left_c (b : List UInt8) (n : Nat) (hn : n ≤ b.length) : PE Tryz.prog 139 [.ptr 0 0] [rdr b n] (.ret (rI ((b.length - n : Nat) : Int))) [rdr b n] := by
  refine pe_seal (Nat.le_refl _) ?_
  refine runE mixed fi139 ?_ <;> try with_reducible exact True.intro
  refine callI_eff [0] (rest_c b n hn) rfl (by decide) (by repeat first | exact trivial | exact rfl | refine And.intro ?_ ?_) rfl rfl ?_
  simp only [afterO, Out.ren, SV.ren, mgA, sig, SObj.ren, SV.renL, List.set, List.map, List.append_nil]
  refine goE mixed ?_ <;> try with_reducible exact True.intro
  rw [List.length_drop]
theorem end_c (b : List UInt8) (n : Nat) (hn : n ≤ b.length) : PE Tryz.prog 207 [.ptr 0 0] [rdr b n] (.ret (rI (if n < b.length then 5 else 0))) [rdr b n] := by
  refine pe_seal (Nat.le_refl _) ?_
  refine runE mixed fi207 ?_ <;> try with_reducible exact True.intro
  refine callI_eff [0] (left_c b n hn) rfl (by decide) (by repeat first | exact trivial | exact rfl | refine And.intro ?_ ?_) rfl rfl ?_
  simp only [afterO, Out.ren, SV.ren, mgA, sig, SObj.ren, SV.renL, List.set, List.map, List.append_nil]
  refine goE mixed ?_ <;> try with_reducible exact True.intro
  refine ⟨fun h => ?_, fun h => ?_⟩
  · rw [if_pos (by omega)]
  · rw [if_neg (by omega)]
theorem inner_c (b : List UInt8) : PE Tryz.prog 206 [.isl .u8 b] [] (.ret (.ptr 0 0)) [rdr b 0] := by
  refine pe_seal (Nat.zero_le _) ?_
  refine runE mixed fi206 ?_ <;> try with_reducible exact True.intro
theorem contained_c (b : List UInt8) : PE Tryz.prog 246 [.isl .u8 b] [] (.ret (.tup [.ptr 0 0, rB true])) [rdr b 0] := by
  refine pe_seal (Nat.zero_le _) ?_
  refine runE mixed fi246 ?_ <;> try with_reducible exact True.intro
  refine callI_eff [] (inner_c b) rfl (by decide) (by repeat first | exact trivial | exact rfl | refine And.intro ?_ ?_) rfl rfl ?_
  simp only [afterO, Out.ren, SV.ren, mgA, sig, SObj.ren, SV.renL, List.set, List.map, List.append_nil]
  refine goE mixed ?_ <;> try with_reducible exact True.intro
theorem take_c (tag : UInt8) (b : List UInt8) (n : Nat) (hn : n ≤ b.length) (hb : b.length ≤ 1099511627776) :
    PE Tryz.prog 248 [.ptr 0 0, .raw (.int .u8 tag.toNat)] [rdr b n] (.ret (.tup [.isl .u8 (if takeE tag (b.drop n) = 0 then takeC (b.drop n) else []), rI (takeE tag (b.drop n))])) [rdr b (if takeE tag (b.drop n) = 0 then n + takeN (b.drop n) else n)] := by
  have hr := rest_c b n hn
  have hlr : (b.drop n).length = b.length - n := List.length_drop
  have hm := measure_c (b.drop n) (by omega)
  have hok := @takeN_le tag (b.drop n)
  generalize hR : b.drop n = r at *
  have hE : takeE tag r = if r.length = 0 then 4 else if r.getD 0 0 ≠ tag then 6 else (meas r).2.2 := rfl
  refine pe_seal (Nat.le_refl _) ?_
  refine runE mixed fi248 ?_ <;> try with_reducible exact True.intro
  refine callI_eff [0] (hr) rfl (by decide) (by repeat first | exact trivial | exact rfl | refine And.intro ?_ ?_) rfl rfl ?_
  simp only [afterO, Out.ren, SV.ren, mgA, sig, SObj.ren, SV.renL, List.set, List.map, List.append_nil]
  refine goE mixed ?_ <;> try with_reducible exact True.intro
  refine ⟨fun h => ?_, fun h => ?_⟩
  · rw [if_pos (by omega)] at hE
    rw [hE]
    exact ⟨⟨rfl, rfl⟩, rfl⟩
  rw [if_neg (by omega)] at hE
  refine ⟨by omega, fun h2 => ?_, fun h2 => ?_⟩
  · rw [if_pos (fun e => h2 (by subst e; rfl))] at hE
    rw [hE]
    exact ⟨⟨rfl, rfl⟩, rfl⟩
  · have : r.getD 0 0 = tag := by
      apply UInt8.toNat_inj.1
      have : ((r.getD 0 Ty.u8.dflt).toNat : Int) = tag.toNat := h2
      exact_mod_cast this
    rw [if_neg (by simpa using this)] at hE
    refine callI_pure hm ?_
    unfold measV
    refine goE mixed ?_ <;> try with_reducible exact True.intro
    refine ⟨fun h3 => ?_, fun h3 => ?_⟩
    · have h3' : ¬ (meas r).2.2 = 0 := by omega
      rw [hE, if_neg h3', if_neg h3']
      exact ⟨⟨rfl, rfl⟩, rfl⟩
    · have h3' : (meas r).2.2 = 0 := by omega
      have hk := meas_ok h3'
      rw [hE, if_pos h3', if_pos h3', wrapi (by omega), h3']
      exact ⟨⟨by omega, hk.2.1, Nat.le_refl _, hk.2.2⟩, ⟨rfl, rfl⟩, congrArg (Value.int .i64) (by unfold takeN; omega)⟩
theorem read_int (g : Nat) (tag : UInt8) (b : List UInt8) (n : Nat) (hn : n ≤ b.length) (hb : b.length ≤ 1099511627776) (v : SV) (right : Bool) (hg : PC Tryz.prog g [.isl .u8 (takeC (b.drop n))] (.tup [v, rB right])) (hv : ∃ u, (v = .raw u) ∨ ∃ xs, v = .isl .u8 xs) :
    PE Tryz.prog 202 [.ptr 0 0, .raw (.int .u8 tag.toNat), .fn g [] []] [rdr b n] (.ret (if takeE tag (b.drop n) = 0 then (if right then .tup [v, rI 0] else .tup [.raw (.int .i64 0), rI 6]) else .tup [.raw (.int .i64 0), rI (takeE tag (b.drop n))])) [rdr b (if takeE tag (b.drop n) = 0 ∧ right = true then n + takeN (b.drop n) else n)] := by
  have ht := take_c tag b n hn hb
  generalize takeE tag (b.drop n) = e at *
  generalize takeC (b.drop n) = c at *
  generalize takeN (b.drop n) = k at *
  refine pe_seal (Nat.le_refl _) ?_
  refine runE mixed fi202 ?_ <;> try with_reducible exact True.intro
  refine callI_eff [0] (ht) rfl (by decide) (by repeat first | exact trivial | exact rfl | refine And.intro ?_ ?_) rfl rfl ?_
  simp only [afterO, Out.ren, SV.ren, mgA, sig, SObj.ren, SV.renL, List.set, List.map, List.append_nil]
  refine goE mixed ?_ <;> try with_reducible exact True.intro
  refine ⟨fun h => ?_, fun h => ?_⟩
  · have h' : ¬ e = 0 := by omega
    simp only [if_neg h', h', false_and, if_false]
    (with_reducible refine sxE ?_ <;> try exact True.intro)
  · obtain rfl : e = 0 := by omega
    simp only [true_and, if_true]
    refine callI_pure hg ?_
    obtain ⟨u, rfl | ⟨xs, rfl⟩⟩ := hv
    · cases right
      · refine run_sound mixed 600 _ ?_
        simp (maxSteps := 3000000) only [Bool.false_eq_true, if_false, go_sem, ↓zA, ↓reduceIte, ↓reduceDIte, reduceCtorEq, Nat.reduceAdd, Nat.reduceSub, Nat.reduceLeDiff, Nat.reduceLT, Nat.reduceEqDiff, Nat.reduceBEq, Nat.reduceMul, Int.reduceToNat, Int.reduceEq, Int.reduceLT, Int.reduceLE] <;> try simp only [zB]
      · refine goE mixed ?_ <;> try with_reducible exact True.intro
    · cases right
      · refine run_sound mixed 600 _ ?_
        simp (maxSteps := 3000000) only [Bool.false_eq_true, if_false, go_sem, ↓zA, ↓reduceIte, ↓reduceDIte, reduceCtorEq, Nat.reduceAdd, Nat.reduceSub, Nat.reduceLeDiff, Nat.reduceLT, Nat.reduceEqDiff, Nat.reduceBEq, Nat.reduceMul, Int.reduceToNat, Int.reduceEq, Int.reduceLT, Int.reduceLE] <;> try simp only [zB]
      · refine goE mixed ?_ <;> try with_reducible exact True.intro
theorem read_str (g : Nat) (tag : UInt8) (b : List UInt8) (n : Nat) (hn : n ≤ b.length) (hb : b.length ≤ 1099511627776) (v : SV) (right : Bool) (hg : PC Tryz.prog g [.isl .u8 (takeC (b.drop n))] (.tup [v, rB right])) (hv : ∃ u, (v = .raw u) ∨ ∃ xs, v = .isl .u8 xs) :
    PE Tryz.prog 204 [.ptr 0 0, .raw (.int .u8 tag.toNat), .fn g [] []] [rdr b n] (.ret (if takeE tag (b.drop n) = 0 then (if right then .tup [v, rI 0] else .tup [.raw (.string ⟨#[]⟩), rI 6]) else .tup [.raw (.string ⟨#[]⟩), rI (takeE tag (b.drop n))])) [rdr b (if takeE tag (b.drop n) = 0 ∧ right = true then n + takeN (b.drop n) else n)] := by
  have ht := take_c tag b n hn hb
  generalize takeE tag (b.drop n) = e at *
  generalize takeC (b.drop n) = c at *
  generalize takeN (b.drop n) = k at *
  refine pe_seal (Nat.le_refl _) ?_
  refine runE mixed fi204 ?_ <;> try with_reducible exact True.intro
  refine callI_eff [0] (ht) rfl (by decide) (by repeat first | exact trivial | exact rfl | refine And.intro ?_ ?_) rfl rfl ?_
  simp only [afterO, Out.ren, SV.ren, mgA, sig, SObj.ren, SV.renL, List.set, List.map, List.append_nil]
  refine goE mixed ?_ <;> try with_reducible exact True.intro
  refine ⟨fun h => ?_, fun h => ?_⟩
  · have h' : ¬ e = 0 := by omega
    simp only [if_neg h', h', false_and, if_false]
    (with_reducible refine sxE ?_ <;> try exact True.intro)
  · obtain rfl : e = 0 := by omega
    simp only [true_and, if_true]
    refine callI_pure hg ?_
    obtain ⟨u, rfl | ⟨xs, rfl⟩⟩ := hv
    · cases right
      · refine run_sound mixed 600 _ ?_
        simp (maxSteps := 3000000) only [Bool.false_eq_true, if_false, go_sem, ↓zA, ↓reduceIte, ↓reduceDIte, reduceCtorEq, Nat.reduceAdd, Nat.reduceSub, Nat.reduceLeDiff, Nat.reduceLT, Nat.reduceEqDiff, Nat.reduceBEq, Nat.reduceMul, Int.reduceToNat, Int.reduceEq, Int.reduceLT, Int.reduceLE] <;> try simp only [zB]
      · refine goE mixed ?_ <;> try with_reducible exact True.intro
    · cases right
      · refine run_sound mixed 600 _ ?_
        simp (maxSteps := 3000000) only [Bool.false_eq_true, if_false, go_sem, ↓zA, ↓reduceIte, ↓reduceDIte, reduceCtorEq, Nat.reduceAdd, Nat.reduceSub, Nat.reduceLeDiff, Nat.reduceLT, Nat.reduceEqDiff, Nat.reduceBEq, Nat.reduceMul, Int.reduceToNat, Int.reduceEq, Int.reduceLT, Int.reduceLE] <;> try simp only [zB]
      · refine goE mixed ?_ <;> try with_reducible exact True.intro
end Go.Proofs.YtddmkgibghohkaaGreatDoor
