/- The plain law: the program and the reference tell the same of entries. -/
import Derived.Test.YtoeieekegmmdkaaGreatDoorPRv
import Derived.Test.YtoeieekegmmdkaaGreatDoorP17
import Derived.Test.YtoeieekegmmdkaaGreatDoorP14
set_option linter.unusedSimpArgs false
set_option linter.unusedVariables false
set_option linter.unusedSectionVars false
namespace Go.Proofs.YtoeieekegmmdkaaGreatDoor
open Go Go.Sx Go.Proofs
set_option maxRecDepth 100000
set_option maxHeartbeats 1000000
set_option linter.unusedSimpArgs false

end Go.Proofs.YtoeieekegmmdkaaGreatDoor

/- Contracts: the reference's offers. -/
namespace Go.Proofs.YtoeieekegmmdkaaGreatDoor
open Go Go.Sx Go.Proofs
set_option maxRecDepth 100000
set_option maxHeartbeats 4000000
set_option linter.unusedSimpArgs false

theorem lenS_len (n : Nat) : (lenS n).length ≤ 4 := by
 unfold lenS
 split
 · simp
 · split
   · simp
   · split <;> simp
theorem elemS_len (t : UInt8) (l : List (List UInt8)) : (elemS t l).length ≤ l.flatten.length + 5 := by
 unfold elemS
 split
 · have := lenS_len l.flatten.length
   simp only [tlv, List.length_cons, List.length_append]; omega
 · simp
theorem intSz_le (v : Int) : intSz v ≤ 9 := by
 unfold intSz
 cases h : firstN 9 (oneB v) with
 | none => simp
 | some k => have := (firstN_spec h).1; simp; omega
theorem intS_len (v : Int) : (intS v).length ≤ 14 := by
 unfold intS
 split
 · have h1 := elemS_len 2 [numS v (intSz v)]
   have h2 := intSz_le v
   simp only [List.flatten_cons, List.flatten_nil, List.append_nil, numS, List.length_map, List.length_range] at h1 h2 ⊢
   omega
 · simp
end Go.Proofs.YtoeieekegmmdkaaGreatDoor

/- The plain law of reading: numbers, strings, offers. -/
namespace Go.Proofs.YtoeieekegmmdkaaGreatDoor
open Go Go.Sx Go.Proofs
set_option maxRecDepth 100000
set_option maxHeartbeats 4000000
set_option linter.unusedSimpArgs false

def sgn1 (x : UInt8) : Int := IntKind.i8.wrap (x.toNat : Int)
def sgn (c : List UInt8) : Int := (c.drop 1).foldl (fun v x => v * 256 + (x.toNat : Int)) (sgn1 (c.getD 0 0))
def decInt (c : List UInt8) : Option Int := if 1 ≤ c.length ∧ c.length ≤ 8 ∧ intS (sgn c) = elemS 2 [c] then some (sgn c) else none
def decBits (c : List UInt8) : Option Nat := if c.length = 5 ∧ c.getD 0 0 = 0 then some (beN (c.drop 1)) else none
def decTime (c : List UInt8) : Option Nat := if c.length = 6 ∧ beN c ≤ 1099511627776 then some (beN c) else none
def decStr (c : List UInt8) : Option ByteArray := some ⟨c.toArray⟩
def decOct (c : List UInt8) : Option (List UInt8) := some c
def intP : PR Int := rdP 2 decInt
def bitsP : PR Nat := rdP 3 decBits
def octP : PR (List UInt8) := rdP 4 decOct
def timeP : PR Nat := rdP 24 decTime
def strP : PR ByteArray := rdP 27 decStr
end Go.Proofs.YtoeieekegmmdkaaGreatDoor

/- Contracts: the reader, values of each kind. -/
namespace Go.Proofs.YtoeieekegmmdkaaGreatDoor
open Go Go.Sx Go.Proofs
set_option maxRecDepth 100000
set_option maxHeartbeats 4000000
set_option linter.unusedSimpArgs false

theorem rdP_ok {α : Type} {tag : UInt8} {dec : List UInt8 → Option α} {r : List UInt8} {v : α} {k : Nat} (h : rdP tag dec r = .ok (v, k)) : takeE tag r = 0 ∧ dec (takeC r) = some v ∧ k = takeN r := by
 unfold rdP at h
 split at h
 · split at h
   · cases h; exact ⟨by assumption, by assumption, rfl⟩
   · cases h
 · cases h
theorem rdP_er {α : Type} {tag : UInt8} {dec : List UInt8 → Option α} {r : List UInt8} {e : Nat} (h : rdP tag dec r = .error e) : (takeE tag r = 0 ∧ dec (takeC r) = none ∧ e = 6) ∨ (takeE tag r ≠ 0 ∧ e = takeE tag r) := by
 unfold rdP at h
 split at h
 · split at h
   · cases h
   · cases h; exact .inl ⟨by assumption, by assumption, rfl⟩
 · cases h; exact .inr ⟨by assumption, rfl⟩
theorem rdP_le {α : Type} {tag : UInt8} {dec : List UInt8 → Option α} {r : List UInt8} {v : α} {k : Nat} (h : rdP tag dec r = .ok (v, k)) : k ≤ r.length := by
 obtain ⟨h1, _, rfl⟩ := rdP_ok h
 exact takeN_le h1
theorem wrap64_or (v : Int) (c : Nat) (hv : -36028797018963968 ≤ v ∧ v < 36028797018963968) (hc : c < 256) : IntKind.i64.wrap ((BitVec.ofInt 64 (v * 256) ||| BitVec.ofInt 64 ((c : Nat) : Int)).toNat : Int) = v * 256 + c := by
 obtain ⟨m, hm⟩ : ∃ m : Nat, (BitVec.ofInt 64 (v * 256)).toNat = m * 256 ∧ ((m : Int) * 256 = v * 256 ∨ (m : Int) * 256 = v * 256 + 18446744073709551616) := by
  refine ⟨((v * 256) % 18446744073709551616).toNat / 256, ?_, ?_⟩
  · rw [BitVec.toNat_ofInt]
    have : (((2 ^ 64 : Nat)) : Int) = 18446744073709551616 := by decide
    rw [this]; omega
  · omega
 have h2 : (BitVec.ofInt 64 ((c : Nat) : Int)).toNat = c := by rw [BitVec.ofInt_natCast, BitVec.toNat_ofNat]; exact Nat.mod_eq_of_lt (by omega)
 have h3 : m * 256 ||| c = m * 256 + c := by
  have := Nat.shiftLeft_add_eq_or_of_lt (b := c) (i := 8) hc m
  rw [Nat.shiftLeft_eq] at this
  exact this.symm
 rw [BitVec.toNat_or, hm.1, h2, h3]
 have hw : ∀ x : Int, IntKind.i64.wrap x = if x % 18446744073709551616 < 9223372036854775808 then x % 18446744073709551616 else x % 18446744073709551616 - 18446744073709551616 := fun x => by
  simp [IntKind.wrap, IntKind.bits, IntKind.signed]
  split <;> omega
 rw [hw]
 push_cast
 rcases hm.2 with h | h <;> split <;> omega
def sgnK (c : List UInt8) (i : Nat) : Int := ((c.drop 1).take i).foldl (fun v x => v * 256 + (x.toNat : Int)) (sgn1 (c.getD 0 0))
theorem sgn1_bd (x : UInt8) : -128 ≤ sgn1 x ∧ sgn1 x < 128 := by
 have := x.toNat_lt
 unfold sgn1
 simp [IntKind.wrap, IntKind.bits, IntKind.signed]
 omega
theorem sgnK_succ {c : List UInt8} {i : Nat} (h : i < (c.drop 1).length) : sgnK c (i + 1) = sgnK c i * 256 + (((c.drop 1).getD i 0).toNat : Int) := by
 unfold sgnK
 rw [take_succ_getD (d := 0) h, List.foldl_append]; rfl
theorem sgnK_bd (c : List UInt8) : ∀ i, i ≤ (c.drop 1).length → -(128 * 256 ^ i : Nat) ≤ sgnK c i ∧ sgnK c i < (128 * 256 ^ i : Nat)
 | 0, _ => by have := sgn1_bd (c.getD 0 0); simpa [sgnK] using this
 | i + 1, h => by
  have ih := sgnK_bd c i (by omega)
  have hx := ((c.drop 1).getD i 0).toNat_lt
  rw [sgnK_succ (by omega), Nat.pow_succ]
  omega
theorem equal_c (a b : List UInt8) (ha : a.length ≤ 140737488355328) (hb : b.length ≤ 140737488355328) : PC Tryz.prog 69 [.isl .u8 a, .isl .u8 b] (rB (decide (a = b))) := by
 refine pc_of rfl rfl ?_
 refine runE mixed fi69 ?_
 exact decide_eq_decide.2 ⟨fun h => by simpa [strOf] using h, fun h => by rw [h]⟩
def iVal (c : List UInt8) : Int := if c.length < 1 ∨ 8 < c.length then 0 else sgn c
theorem decInt_val {c : List UInt8} {v : Int} (h : decInt c = some v) : v = iVal c := by
 unfold decInt at h
 split at h
 · rename_i hc; cases h
   unfold iVal; rw [if_neg (by omega)]
 · cases h
theorem sgnK_all (c : List UInt8) : sgnK c (c.drop 1).length = sgn c := by unfold sgnK sgn; rw [List.take_length]
theorem int1_c (c : List UInt8) (hc : c.length ≤ 1099511627776) : PC Tryz.prog 129 [.isl .u8 c] (.tup [rI (iVal c), rB (decInt c).isSome]) := by
 refine pc_seal rfl rfl ?_
 refine runE mixed fi129 ?_
 have h0 : (c.length < 1 ∨ 8 < c.length) → iVal c = 0 ∧ (decInt c).isSome = false := fun h => by
  unfold iVal decInt
  rw [if_pos h, if_neg (by omega)]
  exact ⟨rfl, rfl⟩
 refine ⟨fun h1 => ⟨fun h8 => ?_, fun h8 => ⟨by omega, ⟨by omega, Nat.le_refl _⟩, ?_⟩⟩, fun h1 => ?_⟩
 · obtain ⟨e1, e2⟩ := h0 (by omega)
   rw [e1, e2]; exact ⟨rfl, rfl⟩
 rotate_left
 · obtain ⟨e1, e2⟩ := h0 (by omega)
   rw [e1, e2]; exact ⟨rfl, rfl⟩
 have hs1 : IntKind.i64.wrap (IntKind.i8.wrap ((c.getD 0 Ty.u8.dflt).toNat : Int)) = sgnK c 0 := by
  have := sgn1_bd (c.getD 0 0)
  show IntKind.i64.wrap (sgn1 (c.getD 0 0)) = _
  rw [wrapi (by omega)]; rfl
 rw [hs1]
 have htl : List.take c.length c = c := List.take_length
 rw [htl]
 have hl : (c.drop 1).length = c.length - 1 := List.length_drop
 generalize hD : c.drop 1 = d at *
 refine si_cntD (fun i => [(4, rI (sgnK c i)), (23, .raw (.int .i64 ((i : Nat) : Int)))]) (d.length) (fun j => (fun _ => true) j = true) (by first | decide | simp) (fun i => rfl) ?_ fun i hi hall => ?_
 · (with_reducible refine sxE ?_ <;> try exact True.intro)
   all_goals (try rfl)
 have hwr : IntKind.i64.wrap ((i : Int) + 1) = ((i + 1 : Nat) : Int) := wrap_succ (by omega)
 refine goE mixed ?_
 have bad : i < (d.length) → (fun _ => true) i = false → allN (d.length) (fun _ => true) = false := fun hlt hv => allN_false hlt hv
 have fin : ¬ i < (d.length) → allN (d.length) (fun _ => true) = true := fun h => allN_true fun j hj => hall j (by omega)
 try dsimp only at bad fin hall
 refine ⟨fun hlt => ⟨⟨by omega, hlt⟩, ?_⟩, fun hge => ?_⟩
 · have hb := sgnK_bd c i (by rw [hD]; omega)
   have hp : 256 ^ i ≤ 256 ^ 6 := Nat.pow_le_pow_right (by decide) (by omega)
   have hx : (d.getD i Ty.u8.dflt).toNat < 256 := UInt8.toNat_lt _
   have e0 : sgnK c i * 2 ^ min 8 64 = sgnK c i * 256 := rfl
   have e1 : IntKind.i64.wrap (sgnK c i * 256) = sgnK c i * 256 := wrapi (by omega)
   have e2 : IntKind.i64.wrap ((d.getD i Ty.u8.dflt).toNat : Int) = ((d.getD i Ty.u8.dflt).toNat : Int) := wrapi (by omega)
   have e3 := wrap64_or (sgnK c i) (d.getD i Ty.u8.dflt).toNat (by omega) hx
   have e4 := sgnK_succ (c := c) (i := i) (by rw [hD]; exact hlt)
   rw [hD] at e4
   rw [e0, e1, e2]
   refine ⟨hlt, trivial, ⟨[], rfl⟩, ?_⟩
   with_reducible refine sx1 hwr ?_
   rw [e4]
   exact congrArg (Value.int .i64) e3
 · obtain rfl : i = d.length := by omega
   have hall' := sgnK_all c
   rw [hD] at hall'
   rw [hall']
   refine callI_pure (integer_c (sgn c)) ?_
   refine goE mixed ?_
   refine callI_hand 0 ?_
   with_reducible refine sxE ?_
   refine callI_pure (element_k 2 2 rfl [c] (by simp)) ?_
   have g1 := intS_len (sgn c)
   have g2 := elemS_len 2 [c]
   simp only [List.flatten_cons, List.flatten_nil, List.append_nil] at g2
   refine goE mixed ?_
   refine callI_pure (equal_c _ _ (by omega) (by omega)) ?_
   refine goE mixed ?_
   have e1 : iVal c = sgn c := by unfold iVal; rw [if_neg (by omega)]
   have e2 : (decInt c).isSome = decide (intS (sgn c) = elemS 2 [c]) := by
    unfold decInt
    by_cases h : intS (sgn c) = elemS 2 [c]
    · rw [if_pos ⟨by omega, by omega, h⟩, decide_eq_true h]; rfl
    · rw [if_neg (fun q => h q.2.2), decide_eq_false h]; rfl
   rw [e1, e2]
   exact ⟨rfl, rfl⟩
def bVal (c : List UInt8) : Nat := if c.length ≠ 5 ∨ c.getD 0 0 ≠ 0 then 0 else beN (c.drop 1)
theorem bits1_c (c : List UInt8) : PC Tryz.prog 169 [.isl .u8 c] (.tup [.raw (.int .u32 (bVal c)), rB (decBits c).isSome]) := by
 refine pc_seal rfl rfl ?_
 refine runE mixed fi169 ?_
 have hno : (c.length ≠ 5 ∨ c.getD 0 0 ≠ 0) → bVal c = 0 ∧ (decBits c).isSome = false := fun h => by
  unfold bVal decBits
  rw [if_pos h, if_neg (fun q => h.elim (fun e => e q.1) (fun e => e q.2))]
  exact ⟨rfl, rfl⟩
 refine ⟨fun h5 => ⟨by omega, fun h0 => ?_, fun h0 => ⟨⟨by omega, Nat.le_refl _⟩, ?_⟩⟩, fun h5 => ?_⟩
 · obtain ⟨e1, e2⟩ := hno (.inr fun e => h0 (by rw [show c.getD 0 Ty.u8.dflt = 0 from e]; rfl))
   rw [e1, e2]; exact ⟨rfl, rfl⟩
 · have hz : c.getD 0 0 = 0 := by
    apply UInt8.toNat_inj.1
    have : ((c.getD 0 Ty.u8.dflt).toNat : Int) = 0 := h0
    exact_mod_cast this
   have hl : (c.drop 1).length = 4 := by rw [List.length_drop]; omega
   rw [List.take_length]
   refine callI_pure (unsigned_c (c.drop 1) (by omega)) ?_
   have hb := beN_lt (c.drop 1)
   rw [hl] at hb
   have e1 : bVal c = beN (c.drop 1) := by unfold bVal; rw [if_neg (fun q => q.elim (fun e => e (by omega)) (fun e => e hz))]
   have e2 : (decBits c).isSome = true := by unfold decBits; rw [if_pos ⟨by omega, hz⟩]; rfl
   have e3 : IntKind.u32.wrap ((beN (c.drop 1) : Nat) : Int) = ((beN (c.drop 1) : Nat) : Int) := by
    generalize beN (c.drop 1) = m at *
    have : m < 4294967296 := hb
    simp [IntKind.wrap, IntKind.bits, IntKind.signed]
    omega
   rw [e1, e2]
   refine run_sound mixed 600 _ ?_
   simp (maxSteps := 3000000) only [e3, go_sem, ↓zA, ↓reduceIte, ↓reduceDIte, reduceCtorEq, Nat.reduceAdd, Nat.reduceSub, Nat.reduceLeDiff, Nat.reduceLT, Nat.reduceEqDiff, Nat.reduceBEq, Nat.reduceMul, Int.reduceToNat, Int.reduceEq, Int.reduceLT, Int.reduceLE] <;> try simp only [zB]
 · obtain ⟨e1, e2⟩ := hno (.inl (by omega))
   rw [e1, e2]; exact ⟨rfl, rfl⟩
def tVal (c : List UInt8) : Nat := if c.length ≠ 6 then 0 else beN c
theorem time1_c (c : List UInt8) : PC Tryz.prog 178 [.isl .u8 c] (.tup [rI (tVal c), rB (decTime c).isSome]) := by
 refine pc_seal rfl rfl ?_
 refine runE mixed fi178 ?_
 refine ⟨fun h6 => ?_, fun h6 => callI_pure (unsigned_c c (by omega)) ?_⟩
 · have e1 : tVal c = 0 := by unfold tVal; rw [if_pos (by omega)]
   have e2 : (decTime c).isSome = false := by unfold decTime; rw [if_neg (by omega)]; rfl
   rw [e1, e2]; exact ⟨rfl, rfl⟩
 · have e1 : tVal c = beN c := by unfold tVal; rw [if_neg (by omega)]
   have e2 : (decTime c).isSome = decide (((beN c : Nat) : Int) ≤ 1099511627776) := by
    unfold decTime
    by_cases h : beN c ≤ 1099511627776
    · rw [if_pos ⟨by omega, h⟩, decide_eq_true (by omega)]; rfl
    · rw [if_neg (by omega), decide_eq_false (by omega)]; rfl
   rw [e1, e2]
   refine goE mixed ?_; trivial
theorem str1_c (c : List UInt8) (hc : c.length ≤ 1099511627776) : PC Tryz.prog 196 [.isl .u8 c] (.tup [rS ⟨c.toArray⟩, rB true]) := by
 refine pc_seal rfl rfl ?_
 refine runE mixed fi196 ?_
 rfl
theorem oct1_c (c : List UInt8) (hc : c.length ≤ 1099511627776) : PC Tryz.prog 167 [.isl .u8 c] (.tup [.isl .u8 c, rB true]) := by
 refine pc_seal rfl rfl ?_
 refine runE mixed fi167 ?_
 refine callI_pure (bclone_c c (by omega)) ?_
 refine goE mixed ?_; trivial
theorem decBits_val {c : List UInt8} {v : Nat} (h : decBits c = some v) : v = bVal c := by
 unfold decBits at h
 split at h
 · rename_i hc; cases h; unfold bVal; rw [if_neg (fun q => q.elim (fun e => e hc.1) (fun e => e hc.2))]
 · cases h
theorem decTime_val {c : List UInt8} {v : Nat} (h : decTime c = some v) : v = tVal c := by
 unfold decTime at h
 split at h
 · rename_i hc; cases h; unfold tVal; rw [if_neg (by omega)]
 · cases h
theorem tkC_le {b : List UInt8} {n : Nat} (hb : b.length ≤ 1099511627776) : (takeC (b.drop n)).length ≤ 1099511627776 := by
 have := takeC_len (b.drop n)
 rw [List.length_drop] at this; omega
theorem rint_ok (b : List UInt8) (n : Nat) (hn : n ≤ b.length) (hb : b.length ≤ 1099511627776) {v : Int} {k : Nat} (h : intP (b.drop n) = .ok (v, k)) : PE Tryz.prog 92 [.ptr 0 0] [rdr b n] (.ret (.tup [(rI) v, rI 0])) [rdr b (n + k)] := by
 obtain ⟨h1, h2, rfl⟩ := rdP_ok h
 have hr := read_int 129 2 b n hn hb _ _ (int1_c (takeC (b.drop n)) (tkC_le hb)) ⟨_, .inl rfl⟩
 rw [if_pos h1, if_pos (by rw [h2]; rfl), if_pos ⟨h1, by rw [h2]; rfl⟩, ← decInt_val h2] at hr
 refine pe_seal (Nat.le_refl _) ?_
 refine runE mixed fi92 ?_
 refine effE mixed [0] (hr) ?_; trivial
theorem rint_er (b : List UInt8) (n : Nat) (hn : n ≤ b.length) (hb : b.length ≤ 1099511627776) {e : Nat} (h : intP (b.drop n) = .error e) : PE Tryz.prog 92 [.ptr 0 0] [rdr b n] (.ret (.tup [rI 0, rI e])) [rdr b n] := by
 have hr := read_int 129 2 b n hn hb _ _ (int1_c (takeC (b.drop n)) (tkC_le hb)) ⟨_, .inl rfl⟩
 have hr' : PE Tryz.prog 128 [.ptr 0 0, .raw (.int .u8 (2 : UInt8).toNat), .fn 129 [] []] [rdr b n] (.ret (.tup [rI 0, rI e])) [rdr b n] := by
  rcases rdP_er h with ⟨h1, h2, rfl⟩ | ⟨h1, rfl⟩
  · rw [if_pos h1, if_neg (by rw [h2]; simp), if_neg (fun q => by rw [h2] at q; simp at q)] at hr
    exact hr
  · rw [if_neg h1, if_neg (fun q => h1 q.1)] at hr
    exact hr
 refine pe_seal (Nat.le_refl _) ?_
 refine runE mixed fi92 ?_
 refine effE mixed [0] (hr') ?_; trivial
theorem rbits_ok (b : List UInt8) (n : Nat) (hn : n ≤ b.length) (hb : b.length ≤ 1099511627776) {v : Nat} {k : Nat} (h : bitsP (b.drop n) = .ok (v, k)) : PE Tryz.prog 141 [.ptr 0 0] [rdr b n] (.ret (.tup [(fun v => .raw (.int .u32 (v : Nat))) v, rI 0])) [rdr b (n + k)] := by
 obtain ⟨h1, h2, rfl⟩ := rdP_ok h
 have hr := read_u32 169 3 b n hn hb _ _ (bits1_c (takeC (b.drop n))) ⟨_, .inl rfl⟩
 rw [if_pos h1, if_pos (by rw [h2]; rfl), if_pos ⟨h1, by rw [h2]; rfl⟩, ← decBits_val h2] at hr
 refine pe_seal (Nat.le_refl _) ?_
 refine runE mixed fi141 ?_
 refine effE mixed [0] (hr) ?_; trivial
theorem rbits_er (b : List UInt8) (n : Nat) (hn : n ≤ b.length) (hb : b.length ≤ 1099511627776) {e : Nat} (h : bitsP (b.drop n) = .error e) : PE Tryz.prog 141 [.ptr 0 0] [rdr b n] (.ret (.tup [.raw (.int .u32 0), rI e])) [rdr b n] := by
 have hr := read_u32 169 3 b n hn hb _ _ (bits1_c (takeC (b.drop n))) ⟨_, .inl rfl⟩
 have hr' : PE Tryz.prog 168 [.ptr 0 0, .raw (.int .u8 (3 : UInt8).toNat), .fn 169 [] []] [rdr b n] (.ret (.tup [.raw (.int .u32 0), rI e])) [rdr b n] := by
  rcases rdP_er h with ⟨h1, h2, rfl⟩ | ⟨h1, rfl⟩
  · rw [if_pos h1, if_neg (by rw [h2]; simp), if_neg (fun q => by rw [h2] at q; simp at q)] at hr
    exact hr
  · rw [if_neg h1, if_neg (fun q => h1 q.1)] at hr
    exact hr
 refine pe_seal (Nat.le_refl _) ?_
 refine runE mixed fi141 ?_
 refine effE mixed [0] (hr') ?_; trivial
theorem rtime_ok (b : List UInt8) (n : Nat) (hn : n ≤ b.length) (hb : b.length ≤ 1099511627776) {v : Nat} {k : Nat} (h : timeP (b.drop n) = .ok (v, k)) : PE Tryz.prog 146 [.ptr 0 0] [rdr b n] (.ret (.tup [(fun v => rI (v : Nat)) v, rI 0])) [rdr b (n + k)] := by
 obtain ⟨h1, h2, rfl⟩ := rdP_ok h
 have hr := read_int 178 24 b n hn hb _ _ (time1_c (takeC (b.drop n))) ⟨_, .inl rfl⟩
 rw [if_pos h1, if_pos (by rw [h2]; rfl), if_pos ⟨h1, by rw [h2]; rfl⟩, ← decTime_val h2] at hr
 refine pe_seal (Nat.le_refl _) ?_
 refine runE mixed fi146 ?_
 refine effE mixed [0] (hr) ?_; trivial
theorem rtime_er (b : List UInt8) (n : Nat) (hn : n ≤ b.length) (hb : b.length ≤ 1099511627776) {e : Nat} (h : timeP (b.drop n) = .error e) : PE Tryz.prog 146 [.ptr 0 0] [rdr b n] (.ret (.tup [rI 0, rI e])) [rdr b n] := by
 have hr := read_int 178 24 b n hn hb _ _ (time1_c (takeC (b.drop n))) ⟨_, .inl rfl⟩
 have hr' : PE Tryz.prog 128 [.ptr 0 0, .raw (.int .u8 (24 : UInt8).toNat), .fn 178 [] []] [rdr b n] (.ret (.tup [rI 0, rI e])) [rdr b n] := by
  rcases rdP_er h with ⟨h1, h2, rfl⟩ | ⟨h1, rfl⟩
  · rw [if_pos h1, if_neg (by rw [h2]; simp), if_neg (fun q => by rw [h2] at q; simp at q)] at hr
    exact hr
  · rw [if_neg h1, if_neg (fun q => h1 q.1)] at hr
    exact hr
 refine pe_seal (Nat.le_refl _) ?_
 refine runE mixed fi146 ?_
 refine effE mixed [0] (hr') ?_; trivial
end Go.Proofs.YtoeieekegmmdkaaGreatDoor

/- Contracts: the reader, strings, octets, sequences, tagged elements. -/
namespace Go.Proofs.YtoeieekegmmdkaaGreatDoor
open Go Go.Sx Go.Proofs
set_option maxRecDepth 100000
set_option maxHeartbeats 4000000
set_option linter.unusedSimpArgs false

theorem rstr_ok (b : List UInt8) (n : Nat) (hn : n ≤ b.length) (hb : b.length ≤ 1099511627776) {v : ByteArray} {k : Nat} (h : strP (b.drop n) = .ok (v, k)) : PE Tryz.prog 176 [.ptr 0 0] [rdr b n] (.ret (.tup [rS v, rI 0])) [rdr b (n + k)] := by
 obtain ⟨h1, h2, rfl⟩ := rdP_ok h
 have hr := read_str 196 27 b n hn hb _ _ (str1_c (takeC (b.drop n)) (tkC_le hb)) ⟨_, .inl rfl⟩
 rw [if_pos h1, if_pos rfl, if_pos ⟨h1, rfl⟩] at hr
 cases h2
 refine pe_seal (Nat.le_refl _) ?_
 refine runE mixed fi176 ?_
 refine effE mixed [0] (hr) ?_; trivial
theorem rstr_er (b : List UInt8) (n : Nat) (hn : n ≤ b.length) (hb : b.length ≤ 1099511627776) {e : Nat} (h : strP (b.drop n) = .error e) : PE Tryz.prog 176 [.ptr 0 0] [rdr b n] (.ret (.tup [.raw (.string ⟨#[]⟩), rI e])) [rdr b n] := by
 have hr := read_str 196 27 b n hn hb _ _ (str1_c (takeC (b.drop n)) (tkC_le hb)) ⟨_, .inl rfl⟩
 have hr' : PE Tryz.prog 195 [.ptr 0 0, .raw (.int .u8 (27 : UInt8).toNat), .fn 196 [] []] [rdr b n] (.ret (.tup [.raw (.string ⟨#[]⟩), rI e])) [rdr b n] := by
  rcases rdP_er h with ⟨h1, h2, rfl⟩ | ⟨h1, rfl⟩
  · cases h2
  · rw [if_neg h1, if_neg (fun q => h1 q.1)] at hr
    exact hr
 refine pe_seal (Nat.le_refl _) ?_
 refine runE mixed fi176 ?_
 refine effE mixed [0] (hr') ?_; trivial
theorem roct_ok (b : List UInt8) (n : Nat) (hn : n ≤ b.length) (hb : b.length ≤ 1099511627776) {v : List UInt8} {k : Nat} (h : octP (b.drop n) = .ok (v, k)) : PE Tryz.prog 137 [.ptr 0 0] [rdr b n] (.ret (.tup [.isl .u8 v, rI 0])) [rdr b (n + k)] := by
 obtain ⟨h1, h2, rfl⟩ := rdP_ok h
 have hr := read_bytes 167 4 b n hn hb _ _ (oct1_c (takeC (b.drop n)) (tkC_le hb)) ⟨.bool true, .inr ⟨_, rfl⟩⟩
 rw [if_pos h1, if_pos rfl, if_pos ⟨h1, rfl⟩] at hr
 cases h2
 refine pe_seal (Nat.le_refl _) ?_
 refine runE mixed fi137 ?_
 refine effE mixed [0] (hr) ?_; trivial
theorem roct_er (b : List UInt8) (n : Nat) (hn : n ≤ b.length) (hb : b.length ≤ 1099511627776) {e : Nat} (h : octP (b.drop n) = .error e) : PE Tryz.prog 137 [.ptr 0 0] [rdr b n] (.ret (.tup [.isl .u8 [], rI e])) [rdr b n] := by
 have hr := read_bytes 167 4 b n hn hb _ _ (oct1_c (takeC (b.drop n)) (tkC_le hb)) ⟨.bool true, .inr ⟨_, rfl⟩⟩
 have hr' : PE Tryz.prog 166 [.ptr 0 0, .raw (.int .u8 (4 : UInt8).toNat), .fn 167 [] []] [rdr b n] (.ret (.tup [.isl .u8 [], rI e])) [rdr b n] := by
  rcases rdP_er h with ⟨h1, h2, rfl⟩ | ⟨h1, rfl⟩
  · cases h2
  · rw [if_neg h1, if_neg (fun q => h1 q.1)] at hr
    exact hr
 refine pe_seal (Nat.le_refl _) ?_
 refine runE mixed fi137 ?_
 refine effE mixed [0] (hr') ?_; trivial
theorem readr_ok (tag : UInt8) (b : List UInt8) (n : Nat) (hn : n ≤ b.length) (hb : b.length ≤ 1099511627776) (h : takeE tag (b.drop n) = 0) :
 PE Tryz.prog 126 [.ptr 0 0, .raw (.int .u8 tag.toNat), .fn 127 [] []] [rdr b n] (.ret (.tup [.ptr 1 0, rI 0])) [rdr b (n + takeN (b.drop n)), rdr (takeC (b.drop n)) 0] := by
 have ht := take_c tag b n hn hb
 rw [if_pos h, if_pos h, h] at ht
 generalize takeC (b.drop n) = c at *
 generalize takeN (b.drop n) = k at *
 refine pe_seal (by simp) ?_
 refine runE mixed fi126 ?_
 refine effE mixed [0] (ht) ?_
 refine effE mixed [] (contained_c c) ?_; trivial
theorem readr_er (tag : UInt8) (b : List UInt8) (n : Nat) (hn : n ≤ b.length) (hb : b.length ≤ 1099511627776) (h : takeE tag (b.drop n) ≠ 0) :
 PE Tryz.prog 126 [.ptr 0 0, .raw (.int .u8 tag.toNat), .fn 127 [] []] [rdr b n] (.ret (.tup [.raw (.pointer none), rI (takeE tag (b.drop n))])) [rdr b n] := by
 have ht := take_c tag b n hn hb
 rw [if_neg h, if_neg h] at ht
 generalize takeE tag (b.drop n) = e at *
 refine pe_seal (by simp) ?_
 refine runE mixed fi126 ?_
 refine effE mixed [0] (ht) ?_
 exact ⟨fun _ => trivial, fun h0 => absurd (by omega) h⟩
theorem rseq_ok (b : List UInt8) (n : Nat) (hn : n ≤ b.length) (hb : b.length ≤ 1099511627776) (h : takeE 48 (b.drop n) = 0) :
 PE Tryz.prog 97 [.ptr 0 0] [rdr b n] (.ret (.tup [.ptr 1 0, rI 0])) [rdr b (n + takeN (b.drop n)), rdr (takeC (b.drop n)) 0] := by
 have hr := readr_ok 48 b n hn hb h
 refine pe_seal (by simp) ?_
 refine runE mixed fi97 ?_
 refine effE mixed [0] (hr) ?_; trivial
theorem rseq_er (b : List UInt8) (n : Nat) (hn : n ≤ b.length) (hb : b.length ≤ 1099511627776) (h : takeE 48 (b.drop n) ≠ 0) :
 PE Tryz.prog 97 [.ptr 0 0] [rdr b n] (.ret (.tup [.raw (.pointer none), rI (takeE 48 (b.drop n))])) [rdr b n] := by
 have hr := readr_er 48 b n hn hb h
 refine pe_seal (by simp) ?_
 refine runE mixed fi97 ?_
 refine effE mixed [0] (hr) ?_; trivial
theorem tag_wr {m : Nat} (hm : m ≤ 30) : IntKind.u8.wrap (IntKind.i64.wrap (160 + (m : Int))) = ((tagB m).toNat : Int) := by
 rw [wrapi (by omega)]
 exact (byte_ob _).symm
theorem nextB_iff {m : Nat} {r : List UInt8} : nextB m r = true ↔ ¬ ((r.length : Int) = 0) ∧ ((r.getD 0 Ty.u8.dflt).toNat : Int) = ((tagB m).toNat : Int) := by
 unfold nextB
 simp only [Bool.and_eq_true, decide_eq_true_eq, ne_eq]
 constructor
 · rintro ⟨h1, h2⟩
   exact ⟨by omega, by rw [show r.getD 0 Ty.u8.dflt = tagB m from h2]⟩
 · rintro ⟨h1, h2⟩
   exact ⟨by omega, UInt8.toNat_inj.1 (by exact_mod_cast h2)⟩
theorem nextB_no {m : Nat} {r : List UInt8} (h : nextB m r = false) (h1 : ¬ ((r.length : Int) = 0)) : ¬ ((r.getD 0 Ty.u8.dflt).toNat : Int) = ((tagB m).toNat : Int) := fun h2 => by
 rw [nextB_iff.2 ⟨h1, h2⟩] at h; cases h
theorem rtag_no (m : Nat) (hm : m ≤ 30) (b : List UInt8) (n : Nat) (hn : n ≤ b.length) (h : nextB m (b.drop n) = false) :
 PE Tryz.prog 130 [.ptr 0 0, rI m] [rdr b n] (.ret (.tup [.raw (.pointer none), rB false, rI 0])) [rdr b n] := by
 have hr := rest_c b n hn
 have hu := tag_wr hm
 have hx := nextB_no h
 generalize b.drop n = r at *
 refine pe_seal (by simp) ?_
 refine runE mixed fi130 ?_
 refine ⟨fun _ => ⟨fun h30 => absurd h30 (by omega), fun _ => ?_⟩, fun hneg => by exfalso; omega⟩
 refine callI_eff [0] (hr) rfl (by decide) (by repeat first | exact trivial | exact rfl | refine And.intro ?_ ?_) rfl rfl ?_
 simp only [afterO, Out.ren, SV.ren, mgA, sig, SObj.ren, SV.renL, List.set, List.map, List.append_nil, hu]
 refine run_sound mixed 600 _ ?_
 with_reducible refine sx1 hu ?_
 exact ⟨fun h0 => ⟨by omega, fun _ => trivial, fun h1 => absurd h1 (hx h0)⟩, fun _ => trivial⟩
theorem rtag_ok (m : Nat) (hm : m ≤ 30) (b : List UInt8) (n : Nat) (hn : n ≤ b.length) (hb : b.length ≤ 1099511627776) (h : nextB m (b.drop n) = true) (ht : takeE (tagB m) (b.drop n) = 0) :
 PE Tryz.prog 130 [.ptr 0 0, rI m] [rdr b n] (.ret (.tup [.ptr 1 0, rB true, rI 0])) [rdr b (n + takeN (b.drop n)), rdr (takeC (b.drop n)) 0] := by
 have hr := rest_c b n hn
 have hd := readr_ok (tagB m) b n hn hb ht
 have hu := tag_wr hm
 obtain ⟨hx1, hx2⟩ := nextB_iff.1 h
 generalize takeC (b.drop n) = c at *
 generalize takeN (b.drop n) = k at *
 generalize b.drop n = r at *
 refine pe_seal (by simp) ?_
 refine runE mixed fi130 ?_
 refine ⟨fun _ => ⟨fun h30 => absurd h30 (by omega), fun _ => ?_⟩, fun hneg => by exfalso; omega⟩
 refine callI_eff [0] (hr) rfl (by decide) (by repeat first | exact trivial | exact rfl | refine And.intro ?_ ?_) rfl rfl ?_
 simp only [afterO, Out.ren, SV.ren, mgA, sig, SObj.ren, SV.renL, List.set, List.map, List.append_nil, hu]
 refine run_sound mixed 600 _ ?_
 with_reducible refine sx1 hu ?_
 refine ⟨fun h0 => ⟨by omega, fun h1 => absurd hx2 h1, fun _ => ?_⟩, fun h0 => absurd h0 hx1⟩
 refine effE mixed [0] (hd) ?_; trivial
theorem rtag_er (m : Nat) (hm : m ≤ 30) (b : List UInt8) (n : Nat) (hn : n ≤ b.length) (hb : b.length ≤ 1099511627776) (h : nextB m (b.drop n) = true) (ht : takeE (tagB m) (b.drop n) ≠ 0) :
 PE Tryz.prog 130 [.ptr 0 0, rI m] [rdr b n] (.ret (.tup [.raw (.pointer none), rB false, rI (takeE (tagB m) (b.drop n))])) [rdr b n] := by
 have hr := rest_c b n hn
 have hd := readr_er (tagB m) b n hn hb ht
 have hu := tag_wr hm
 obtain ⟨hx1, hx2⟩ := nextB_iff.1 h
 generalize takeE (tagB m) (b.drop n) = e at *
 generalize b.drop n = r at *
 refine pe_seal (by simp) ?_
 refine runE mixed fi130 ?_
 refine ⟨fun _ => ⟨fun h30 => absurd h30 (by omega), fun _ => ?_⟩, fun hneg => by exfalso; omega⟩
 refine callI_eff [0] (hr) rfl (by decide) (by repeat first | exact trivial | exact rfl | refine And.intro ?_ ?_) rfl rfl ?_
 simp only [afterO, Out.ren, SV.ren, mgA, sig, SObj.ren, SV.renL, List.set, List.map, List.append_nil, hu]
 refine run_sound mixed 600 _ ?_
 with_reducible refine sx1 hu ?_
 refine ⟨fun h0 => ⟨by omega, fun h1 => absurd hx2 h1, fun _ => ?_⟩, fun h0 => absurd h0 hx1⟩
 refine effE mixed [0] (hd) ?_
 exact fun q => ht (by omega)
end Go.Proofs.YtoeieekegmmdkaaGreatDoor

/- Contracts: reading that leaves by a panic. -/
namespace Go.Proofs.YtoeieekegmmdkaaGreatDoor
open Go Go.Sx Go.Proofs
set_option maxRecDepth 100000
set_option maxHeartbeats 4000000
set_option linter.unusedSimpArgs false

end Go.Proofs.YtoeieekegmmdkaaGreatDoor

/- Contracts: reading inside of elements, with a function. -/
namespace Go.Proofs.YtoeieekegmmdkaaGreatDoor
open Go Go.Sx Go.Proofs
set_option maxRecDepth 100000
set_option maxHeartbeats 4000000
set_option linter.unusedSimpArgs false

theorem inP_cases {α : Type} {tag : UInt8} {p : PR α} {r : List UInt8} : (takeE tag r ≠ 0 ∧ inP tag p r = .error (takeE tag r)) ∨
 (takeE tag r = 0 ∧ ∃ e, p (takeC r) = .error e ∧ inP tag p r = .error e) ∨
 (takeE tag r = 0 ∧ ∃ v m, p (takeC r) = .ok (v, m) ∧ m < (takeC r).length ∧ inP tag p r = .error 6) ∨
 (takeE tag r = 0 ∧ ∃ v m, p (takeC r) = .ok (v, m) ∧ ¬ m < (takeC r).length ∧ inP tag p r = .ok (v, takeN r)) := by
 unfold inP allP
 by_cases h : takeE tag r = 0
 · right
   rw [if_pos h]
   cases hp : p (takeC r) with
   | error e => exact .inl ⟨h, e, rfl, rfl⟩
   | ok x =>
    obtain ⟨v, m⟩ := x
    by_cases hm : m < (takeC r).length
    · exact .inr (.inl ⟨h, v, m, rfl, hm, by simp [hm]⟩)
    · exact .inr (.inr ⟨h, v, m, rfl, hm, by simp [hm]⟩)
 · exact .inl ⟨h, by rw [if_neg h]⟩
def FitsP {α : Type} (p : PR α) : Prop := ∀ r v m, p r = .ok (v, m) → m ≤ r.length
theorem inP_fits {α : Type} {tag : UInt8} {p : PR α} : FitsP (inP tag p) := fun r v m h => by
 rcases inP_cases (tag := tag) (p := p) (r := r) with ⟨_, e⟩ | ⟨_, _, _, e⟩ | ⟨_, _, _, _, _, e⟩ | ⟨h0, _, _, _, _, e⟩ <;> rw [e] at h <;> cases h
 exact takeN_le h0
theorem rdP_fits {α : Type} {tag : UInt8} {dec : List UInt8 → Option α} : FitsP (rdP tag dec) := fun _ _ _ h => rdP_le h
theorem needP_fits {α : Type} {n : Nat} {p : PR α} : FitsP (needP n p) := fun r v m h => by
 unfold needP at h
 split at h
 · exact inP_fits r v m h
 · cases h
theorem dfltP_fits {α : Type} {d : α} {n : Nat} {p : PR α} : FitsP (dfltP d n p) := fun r v m h => by
 unfold dfltP mayP at h
 cases hb : nextB n r with
 | false => rw [hb] at h; cases h; exact Nat.zero_le _
 | true =>
  rw [hb] at h
  cases hp : inP (tagB n) p r with
  | error e => rw [hp] at h; cases h
  | ok x =>
   obtain ⟨u, k⟩ := x
   rw [hp] at h; cases h
   exact inP_fits r _ m hp
theorem bindP_fits {α β : Type} {p : PR α} {f : α → PR β} (hp : FitsP p) (hf : ∀ v, FitsP (f v)) : FitsP (bindP p f) := fun r v m h => by
 unfold bindP at h
 cases h1 : p r with
 | error e => rw [h1] at h; cases h
 | ok x =>
  obtain ⟨u, k⟩ := x
  rw [h1] at h
  simp only at h
  cases h2 : f u (r.drop k) with
  | error e => rw [h2] at h; cases h
  | ok y =>
   obtain ⟨z, l⟩ := y
   rw [h2] at h; cases h
   have := hp r _ k h1
   have := hf _ _ _ l h2
   rw [List.length_drop] at this
   omega
theorem retP_fits {α : Type} {v : α} : FitsP (retP v) := fun r u m h => by cases h; exact Nat.zero_le _
theorem listP_fits {α : Type} {p : PR α} (hp : FitsP p) : ∀ n, FitsP (listP p n)
 | 0, r, v, m, h => by
  simp only [listP] at h
  split at h
  · cases h; exact Nat.zero_le _
  · cases h
 | n + 1, r, v, m, h => by
  simp only [listP] at h
  split at h
  · cases h; exact Nat.zero_le _
  · cases h1 : p r with
    | error e => rw [h1] at h; cases h
    | ok x =>
     obtain ⟨u, k⟩ := x
     rw [h1] at h
     simp only at h
     cases h2 : listP p n (r.drop k) with
     | error e => rw [h2] at h; cases h
     | ok y =>
      obtain ⟨z, l⟩ := y
      rw [h2] at h; cases h
      have := hp r _ k h1
      have := listP_fits hp n _ _ l h2
      rw [List.length_drop] at this
      omega

theorem cln_rb {cs : List SV} (h : Cln cs) : (∀ σ, SV.renL σ cs = cs) ∧ (∀ n, SV.belL n cs = true) ∧ (∀ n H, SV.sealBL n H cs = some (cs, True)) ∧ SV.leAL cs cs := ⟨h.ren, h.bel, h.shut, h.le⟩
theorem cln_rbF {α : Type} {f : α → List SV} (h : ∀ v, Cln (f v)) : (∀ v σ, SV.renL σ (f v) = f v) ∧ (∀ v n, SV.belL n (f v) = true) ∧ (∀ v n H, SV.sealBL n H (f v) = some (f v, True)) ∧ ∀ v, SV.leAL (f v) (f v) := ⟨fun v => (h v).ren, fun v => (h v).bel, fun v => (h v).shut, fun v => (h v).le⟩
end Go.Proofs.YtoeieekegmmdkaaGreatDoor

/- Contracts: reading tagged values that may be absent. -/
namespace Go.Proofs.YtoeieekegmmdkaaGreatDoor
open Go Go.Sx Go.Proofs
set_option maxRecDepth 100000
set_option maxHeartbeats 4000000
set_option linter.unusedSimpArgs false

theorem rdP_ne {α : Type} {tag : UInt8} {dec : List UInt8 → Option α} {r : List UInt8} {e : Nat} (h : rdP tag dec r = .error e) : e ≠ 0 := by
 rcases rdP_er h with ⟨_, _, rfl⟩ | ⟨h1, rfl⟩
 · decide
 · exact h1
theorem dfltP_no {α : Type} {d : α} {n : Nat} {p : PR α} {r : List UInt8} (h : nextB n r = false) : dfltP d n p r = .ok (d, 0) := dfltP_none h
theorem dfltP_in {α : Type} {d : α} {n : Nat} {p : PR α} {r : List UInt8} (h : nextB n r = true) : dfltP d n p r = inP (tagB n) p r := by
 unfold dfltP mayP
 rw [if_pos h]
 cases inP (tagB n) p r with
 | error e => rfl
 | ok x => rfl
end Go.Proofs.YtoeieekegmmdkaaGreatDoor

/- Contracts: reading lists of values. -/
namespace Go.Proofs.YtoeieekegmmdkaaGreatDoor
open Go Go.Sx Go.Proofs
set_option maxRecDepth 100000
set_option maxHeartbeats 4000000
set_option linter.unusedSimpArgs false

def effH {α : Type} (b : List UInt8) (n : Nat) (E : List SObj) (upd : α → List SObj) : Except Nat (α × Nat) → List SObj
 | .ok (v, k) => rdr b (n + k) :: upd v
 | .error _ => .dead :: E.map fun _ => .dead
def tailP {α : Type} (xs : List α) (k : Nat) : Except Nat (List α × Nat) → Except Nat (List α × Nat)
 | .ok (l, m) => .ok (xs ++ l, k + m)
 | .error e => .error e
theorem listP_step {α : Type} {p : PR α} {most : Nat} {c : List UInt8} {xs : List α} {k n : Nat} {v : α} {m : Nat} (hk : k < c.length) (hm : 0 < most) (hp : p (c.drop k) = .ok (v, m)) : tailP xs n (listP p most (c.drop k)) = tailP (xs ++ [v]) (n + m) (listP p (most - 1) (c.drop (k + m))) := by
 obtain ⟨most, rfl⟩ : ∃ q, most = q + 1 := ⟨most - 1, by omega⟩
 simp only [listP]
 rw [if_neg (by rw [List.length_drop]; omega), hp]
 simp only [Nat.add_sub_cancel, List.drop_drop]
 cases listP p most (c.drop (k + m)) with
 | error e => rfl
 | ok y => obtain ⟨l, q⟩ := y; simp [tailP]; omega
theorem listP_full {α : Type} {p : PR α} {c : List UInt8} {xs : List α} {k n : Nat} (hk : k < c.length) : tailP xs n (listP p 0 (c.drop k)) = .error 6 := by
 simp only [listP]
 rw [if_neg (by rw [List.length_drop]; omega)]; rfl
theorem listP_bad {α : Type} {p : PR α} {most : Nat} {c : List UInt8} {xs : List α} {k n : Nat} {e : Nat} (hk : k < c.length) (hm : 0 < most) (hp : p (c.drop k) = .error e) : tailP xs n (listP p most (c.drop k)) = .error e := by
 obtain ⟨most, rfl⟩ : ∃ q, most = q + 1 := ⟨most - 1, by omega⟩
 simp only [listP]
 rw [if_neg (by rw [List.length_drop]; omega), hp]; rfl
theorem listP_end {α : Type} {p : PR α} {most : Nat} {c : List UInt8} {xs : List α} {k n : Nat} (hk : c.length ≤ k) : tailP xs n (listP p most (c.drop k)) = .ok (xs, n) := by
 have : c.drop k = [] := List.drop_eq_nil_of_le hk
 rw [this]
 cases most <;> simp [listP, tailP]
theorem tailP_id {α : Type} (x : Except Nat (List α × Nat)) : tailP [] 0 x = x := by
 cases x with
 | error e => rfl
 | ok y => obtain ⟨l, m⟩ := y; simp [tailP]
end Go.Proofs.YtoeieekegmmdkaaGreatDoor

/- Contracts: reading the elements of an offer; decoding an offer. -/
namespace Go.Proofs.YtoeieekegmmdkaaGreatDoor
open Go Go.Sx Go.Proofs
set_option maxRecDepth 100000
set_option maxHeartbeats 4000000
set_option linter.unusedSimpArgs false

def shiftP {α : Type} (k : Nat) : Except Nat (α × Nat) → Except Nat (α × Nat)
 | .ok (v, m) => .ok (v, k + m)
 | .error e => .error e
theorem bindP_er {α β : Type} {p : PR α} {f : α → PR β} {r : List UInt8} {e : Nat} (h : p r = .error e) : bindP p f r = .error e := by unfold bindP; rw [h]
theorem bindP_st {α β : Type} {p : PR α} {f : α → PR β} {b : List UInt8} {n : Nat} {v : α} {k : Nat} (h : p (b.drop n) = .ok (v, k)) : bindP p f (b.drop n) = shiftP k (f v (b.drop (n + k))) := by
 unfold bindP; rw [h]
 simp only [List.drop_drop]
 cases f v (b.drop (n + k)) with
 | error e => rfl
 | ok y => rfl
theorem fits_at {α : Type} {p : PR α} (hp : FitsP p) {b : List UInt8} {n : Nat} (hn : n ≤ b.length) {v : α} {k : Nat} (h : p (b.drop n) = .ok (v, k)) : n + k ≤ b.length := by
 have := hp _ _ _ h
 rw [List.length_drop] at this; omega
end Go.Proofs.YtoeieekegmmdkaaGreatDoor

/- Contracts: decoding an offer. -/
namespace Go.Proofs.YtoeieekegmmdkaaGreatDoor
open Go Go.Sx Go.Proofs
set_option maxRecDepth 100000
set_option maxHeartbeats 4000000
set_option linter.unusedSimpArgs false

def OkP {α : Type} (p : PR α) (Q : α → Prop) : Prop := ∀ r v m, r.length ≤ 1099511627776 → p r = .ok (v, m) → Q v
theorem okP_rd {α : Type} {tag : UInt8} {dec : List UInt8 → Option α} {Q : α → Prop} (h : ∀ c v, c.length ≤ 1099511627776 → dec c = some v → Q v) : OkP (rdP tag dec) Q := fun r v m hr hx => by
 obtain ⟨_, h2, _⟩ := rdP_ok hx
 exact h _ v (Nat.le_trans (takeC_len r) hr) h2
theorem okP_in {α : Type} {tag : UInt8} {p : PR α} {Q : α → Prop} (h : OkP p Q) : OkP (inP tag p) Q := fun r v m hr hx => by
 rcases inP_cases (tag := tag) (p := p) (r := r) with ⟨_, e⟩ | ⟨_, _, _, e⟩ | ⟨_, _, _, _, _, e⟩ | ⟨_, u, k, g, _, e⟩ <;> rw [e] at hx <;> cases hx
 exact h _ _ _ (Nat.le_trans (takeC_len r) hr) g
theorem okP_need {α : Type} {n : Nat} {p : PR α} {Q : α → Prop} (h : OkP p Q) : OkP (needP n p) Q := fun r v m hr hx => by
 unfold needP at hx
 split at hx
 · exact okP_in h r v m hr hx
 · cases hx
theorem okP_list {α : Type} {p : PR α} {Q : α → Prop} (hp : OkP p Q) : ∀ n, OkP (listP p n) fun l => l.length ≤ n ∧ ∀ x ∈ l, Q x
 | 0, r, v, m, _, hx => by
  simp only [listP] at hx
  split at hx
  · cases hx; exact ⟨Nat.le_refl _, by simp⟩
  · cases hx
 | n + 1, r, v, m, hr, hx => by
  simp only [listP] at hx
  split at hx
  · cases hx; exact ⟨by simp, by simp⟩
  · cases h1 : p r with
    | error e => rw [h1] at hx; cases hx
    | ok y =>
     obtain ⟨u, k⟩ := y
     rw [h1] at hx
     simp only at hx
     cases h2 : listP p n (r.drop k) with
     | error e => rw [h2] at hx; cases hx
     | ok z =>
      obtain ⟨w, l⟩ := z
      rw [h2] at hx; cases hx
      have h3 := okP_list hp n _ _ _ (by rw [List.length_drop]; omega) h2
      exact ⟨by simp; exact h3.1, fun x hxm => by
       rcases List.mem_cons.1 hxm with rfl | hm
       · exact hp r _ k hr h1
       · exact h3.2 x hm⟩
theorem okP_true {α : Type} {p : PR α} : OkP p fun _ => True := fun _ _ _ _ _ => trivial
theorem okP_str : OkP strP fun s => s.size ≤ 1099511627776 := okP_rd fun c v hc hd => by
 unfold decStr at hd; cases hd
 show c.toArray.size ≤ _
 simpa using hc
theorem new_c (b : List UInt8) (hb : b.length ≤ 140737488355328) : PE Tryz.prog 66 [.isl .u8 b] [] (.ret (.ptr 0 0)) [rdr b 0] := by
 refine pe_seal (by simp) ?_
 refine runE mixed fi66 ?_
 refine callI_pure (bclone_c b hb) ?_
 refine goE mixed ?_
 refine effE mixed [] (inner_c b) ?_; trivial
end Go.Proofs.YtoeieekegmmdkaaGreatDoor

/- Contracts: reading that leaves by a panic with a number: fields, keys. -/
namespace Go.Proofs.YtoeieekegmmdkaaGreatDoor
open Go Go.Sx Go.Proofs
set_option maxRecDepth 100000
set_option maxHeartbeats 4000000
set_option linter.unusedSimpArgs false

@[go_sem] abbrev errV (e : Int) : SV := .iface 26 (rI e)
def EffX (P : Program) {α : Type} (f : FuncId) (args : List SV) (b : List UInt8) (n : Nat) (res : α → SV) : Except Nat (α × Nat) → Prop
 | .ok (v, k) => PE P f args [rdr b n] (.ret (res v)) [rdr b (n + k)]
 | .error e => PE P f args [rdr b n] (.pan (errV e)) [.dead]
theorem effX_ok {P : Program} {α : Type} {f : FuncId} {args : List SV} {b : List UInt8} {n : Nat} {res : α → SV} {x : Except Nat (α × Nat)} {v : α} {k : Nat} (h : EffX P f args b n res x) (hx : x = .ok (v, k)) : PE P f args [rdr b n] (.ret (res v)) [rdr b (n + k)] := by rw [hx] at h; exact h
theorem effX_er {P : Program} {α : Type} {f : FuncId} {args : List SV} {b : List UInt8} {n : Nat} {res : α → SV} {x : Except Nat (α × Nat)} {e : Nat} (h : EffX P f args b n res x) (hx : x = .error e) : PE P f args [rdr b n] (.pan (errV e)) [.dead] := by rw [hx] at h; exact h
theorem must_dint (v : Value) : PC Tryz.prog 164 [.raw v, rI 0] (.raw v) := by
 refine pc_of rfl rfl ?_
 refine runE mixed fi164 ?_; trivial
theorem must_er_dint (v : Value) (e : Nat) (he : e ≠ 0) : PE Tryz.prog 164 [.raw v, rI e] [] (.pan (errV e)) [] := by
 refine pe_seal (by simp) ?_
 refine runE mixed fi164 ?_
 exact ⟨fun _ => trivial, fun h => absurd (by omega) he⟩
theorem must_dbytes (v : List UInt8) : PC Tryz.prog 165 [.isl .u8 v, rI 0] (.isl .u8 v) := by
 refine pc_of rfl rfl ?_
 refine runE mixed fi165 ?_; trivial
theorem must_er_dbytes (v : List UInt8) (e : Nat) (he : e ≠ 0) : PE Tryz.prog 165 [.isl .u8 v, rI e] [] (.pan (errV e)) [] := by
 refine pe_seal (by simp) ?_
 refine runE mixed fi165 ?_
 exact ⟨fun _ => trivial, fun h => absurd (by omega) he⟩
theorem must_nstr (v : Value) : PC Tryz.prog 175 [.raw v, rI 0] (.raw v) := by
 refine pc_of rfl rfl ?_
 refine runE mixed fi175 ?_; trivial
theorem must_er_nstr (v : Value) (e : Nat) (he : e ≠ 0) : PE Tryz.prog 175 [.raw v, rI e] [] (.pan (errV e)) [] := by
 refine pe_seal (by simp) ?_
 refine runE mixed fi175 ?_
 exact ⟨fun _ => trivial, fun h => absurd (by omega) he⟩
theorem must_drdr (b : List UInt8) (n : Nat) : PE Tryz.prog 133 [.ptr 0 0, rI 0] [rdr b n] (.ret (.ptr 0 0)) [rdr b n] := by
 refine pe_seal (by simp) ?_
 refine runE mixed fi133 ?_; trivial
theorem must_er_drdr (e : Nat) (he : e ≠ 0) : PE Tryz.prog 133 [.raw (.pointer none), rI e] [] (.pan (errV e)) [] := by
 refine pe_seal (by simp) ?_
 refine runE mixed fi133 ?_
 exact ⟨fun _ => trivial, fun h => absurd (by omega) he⟩
theorem must_nrdr (b : List UInt8) (n : Nat) : PE Tryz.prog 173 [.ptr 0 0, rI 0] [rdr b n] (.ret (.ptr 0 0)) [rdr b n] := by
 refine pe_seal (by simp) ?_
 refine runE mixed fi173 ?_; trivial
theorem must_er_nrdr (e : Nat) (he : e ≠ 0) : PE Tryz.prog 173 [.raw (.pointer none), rI e] [] (.pan (errV e)) [] := by
 refine pe_seal (by simp) ?_
 refine runE mixed fi173 ?_
 exact ⟨fun _ => trivial, fun h => absurd (by omega) he⟩
theorem dend_t (b : List UInt8) (n : Nat) (hn : n = b.length) : PE Tryz.prog 138 [.ptr 0 0] [rdr b n] (.ret (.tup [])) [rdr b n] := by
 have he := left_c b n (by omega)
 refine pe_seal (by simp) ?_
 refine runE mixed fi138 ?_
 refine effE mixed [0] (he) ?_
 exact ⟨fun q => absurd q (by omega), fun _ => trivial⟩
theorem dend_f (b : List UInt8) (n : Nat) (hn : n < b.length) : PE Tryz.prog 138 [.ptr 0 0] [rdr b n] (.pan (errV 6)) [.dead] := by
 have he := left_c b n (by omega)
 refine pe_seal (by simp) ?_
 refine runE mixed fi138 ?_
 refine effE mixed [0] (he) ?_
 exact ⟨fun _ => trivial, fun q => absurd (by omega) q⟩
theorem needP_no {α : Type} {n : Nat} {p : PR α} {r : List UInt8} (h : nextB n r = false) : needP n p r = .error (if r.length = 0 then 4 else 6) := by unfold needP; rw [h]; rfl
theorem needP_in {α : Type} {n : Nat} {p : PR α} {r : List UInt8} (h : nextB n r = true) : needP n p r = inP (tagB n) p r := by unfold needP; rw [h]; rfl
def closeP {α : Type} (l N : Nat) : Except Nat (α × Nat) → Except Nat (α × Nat)
 | .ok (v, m) => if m < l then .error 6 else .ok (v, N)
 | .error e => .error e
theorem inP_t {α : Type} {tag : UInt8} {p : PR α} {r : List UInt8} (h : takeE tag r = 0) : inP tag p r = closeP (takeC r).length (takeN r) (p (takeC r)) := by
 unfold inP allP
 rw [if_pos h]
 cases p (takeC r) with
 | error e => rfl
 | ok x =>
  obtain ⟨v, m⟩ := x
  simp only [closeP]
  by_cases hm : m < (takeC r).length <;> simp [hm]
theorem inP_f {α : Type} {tag : UInt8} {p : PR α} {r : List UInt8} (h : takeE tag r ≠ 0) : inP tag p r = .error (takeE tag r) := by
 unfold inP
 rw [if_neg h]
theorem fint_c (i : Nat) (hi : i ≤ 30) (b : List UInt8) (n : Nat) (hn : n ≤ b.length) (hb : b.length ≤ 1099511627776) : EffX Tryz.prog 135 [.ptr 0 0, rI i, .fn 92 [] []] b n (fun v => rI v) (needP i intP (b.drop n)) := by
 cases h : nextB i (b.drop n) with
 | false =>
  rw [needP_no h, List.length_drop]
  have hs := rtag_no i hi b n hn h
  have hl := left_c b n hn
  generalize b.length - n = q at *
  refine pe_seal (by simp) ?_
  refine runE mixed fi135 ?_
  refine effE mixed [0] (hs) ?_
  refine effE mixed [0] (hl) ?_
  by_cases hq : q = 0
  · simp [hq]
  · simp [hq]
 | true =>
  rw [needP_in h]
  by_cases h1 : takeE (tagB i) (b.drop n) = 0
  · rw [inP_t h1]
    have hs := rtag_ok i hi b n hn hb h h1
    have hc := tkC_le (n := n) hb
    generalize takeC (b.drop n) = c at *
    generalize takeN (b.drop n) = N at *
    cases hx : intP c with
    | error e =>
     have hr := rint_er c 0 (Nat.zero_le _) hc (by rw [List.drop_zero]; exact hx)
     refine pe_seal (by simp) ?_
     refine runE mixed fi135 ?_
     refine effE mixed [0] (hs) ?_
     refine effE mixed [1] (hr) ?_
     refine effP [] (must_er_dint (.int .i64 0) e (rdP_ne hx)) ?_; trivial
    | ok x =>
     obtain ⟨v, m⟩ := x
     have hm := rdP_fits _ _ _ hx
     have hr := rint_ok c 0 (Nat.zero_le _) hc (by rw [List.drop_zero]; exact hx)
     have hl := left_c c m hm
     rw [Nat.zero_add] at hr
     simp only [closeP]
     by_cases hml : m < c.length
     · rw [if_pos hml]
       refine pe_seal (by simp) ?_
       refine runE mixed fi135 ?_
       refine effE mixed [0] (hs) ?_
       refine effE mixed [1] (hr) ?_
       refine callI_pure (must_dint _) ?_
       refine goE mixed ?_
       refine effP [1] (dend_f c m hml) ?_
       rfl
     · rw [if_neg hml]
       refine pe_seal (by simp) ?_
       refine runE mixed fi135 ?_
       refine effE mixed [0] (hs) ?_
       refine effE mixed [1] (hr) ?_
       refine callI_pure (must_dint _) ?_
       refine goE mixed ?_
       refine effE mixed [1] (dend_t c m (by omega)) ?_; trivial
  · rw [inP_f h1]
    have hs := rtag_er i hi b n hn hb h h1
    generalize takeE (tagB i) (b.drop n) = e at *
    refine pe_seal (by simp) ?_
    refine runE mixed fi135 ?_
    refine effE mixed [0] (hs) ?_
    exact ⟨fun _ => trivial, fun q => absurd (by omega) h1⟩
theorem foct_c (i : Nat) (hi : i ≤ 30) (b : List UInt8) (n : Nat) (hn : n ≤ b.length) (hb : b.length ≤ 1099511627776) : EffX Tryz.prog 136 [.ptr 0 0, rI i, .fn 137 [] []] b n (fun v => .isl .u8 v) (needP i octP (b.drop n)) := by
 cases h : nextB i (b.drop n) with
 | false =>
  rw [needP_no h, List.length_drop]
  have hs := rtag_no i hi b n hn h
  have hl := left_c b n hn
  generalize b.length - n = q at *
  refine pe_seal (by simp) ?_
  refine runE mixed fi136 ?_
  refine effE mixed [0] (hs) ?_
  refine effE mixed [0] (hl) ?_
  by_cases hq : q = 0
  · simp [hq]
  · simp [hq]
 | true =>
  rw [needP_in h]
  by_cases h1 : takeE (tagB i) (b.drop n) = 0
  · rw [inP_t h1]
    have hs := rtag_ok i hi b n hn hb h h1
    have hc := tkC_le (n := n) hb
    generalize takeC (b.drop n) = c at *
    generalize takeN (b.drop n) = N at *
    cases hx : octP c with
    | error e =>
     have hr := roct_er c 0 (Nat.zero_le _) hc (by rw [List.drop_zero]; exact hx)
     refine pe_seal (by simp) ?_
     refine runE mixed fi136 ?_
     refine effE mixed [0] (hs) ?_
     refine effE mixed [1] (hr) ?_
     refine effP [] (must_er_dbytes [] e (rdP_ne hx)) ?_; trivial
    | ok x =>
     obtain ⟨v, m⟩ := x
     have hm := rdP_fits _ _ _ hx
     have hr := roct_ok c 0 (Nat.zero_le _) hc (by rw [List.drop_zero]; exact hx)
     have hl := left_c c m hm
     rw [Nat.zero_add] at hr
     simp only [closeP]
     by_cases hml : m < c.length
     · rw [if_pos hml]
       refine pe_seal (by simp) ?_
       refine runE mixed fi136 ?_
       refine effE mixed [0] (hs) ?_
       refine effE mixed [1] (hr) ?_
       refine callI_pure (must_dbytes _) ?_
       refine goE mixed ?_
       refine effP [1] (dend_f c m hml) ?_
       rfl
     · rw [if_neg hml]
       refine pe_seal (by simp) ?_
       refine runE mixed fi136 ?_
       refine effE mixed [0] (hs) ?_
       refine effE mixed [1] (hr) ?_
       refine callI_pure (must_dbytes _) ?_
       refine goE mixed ?_
       refine effE mixed [1] (dend_t c m (by omega)) ?_; trivial
  · rw [inP_f h1]
    have hs := rtag_er i hi b n hn hb h h1
    generalize takeE (tagB i) (b.drop n) = e at *
    refine pe_seal (by simp) ?_
    refine runE mixed fi136 ?_
    refine effE mixed [0] (hs) ?_
    exact ⟨fun _ => trivial, fun q => absurd (by omega) h1⟩
theorem fstr_c (i : Nat) (hi : i ≤ 30) (b : List UInt8) (n : Nat) (hn : n ≤ b.length) (hb : b.length ≤ 1099511627776) : EffX Tryz.prog 177 [.ptr 0 0, rI i, .fn 176 [] []] b n (fun v => rS v) (needP i strP (b.drop n)) := by
 cases h : nextB i (b.drop n) with
 | false =>
  rw [needP_no h, List.length_drop]
  have hs := rtag_no i hi b n hn h
  have hl := left_c b n hn
  generalize b.length - n = q at *
  refine pe_seal (by simp) ?_
  refine runE mixed fi177 ?_
  refine effE mixed [0] (hs) ?_
  refine effE mixed [0] (hl) ?_
  by_cases hq : q = 0
  · simp [hq]
  · simp [hq]
 | true =>
  rw [needP_in h]
  by_cases h1 : takeE (tagB i) (b.drop n) = 0
  · rw [inP_t h1]
    have hs := rtag_ok i hi b n hn hb h h1
    have hc := tkC_le (n := n) hb
    generalize takeC (b.drop n) = c at *
    generalize takeN (b.drop n) = N at *
    cases hx : strP c with
    | error e =>
     have hr := rstr_er c 0 (Nat.zero_le _) hc (by rw [List.drop_zero]; exact hx)
     refine pe_seal (by simp) ?_
     refine runE mixed fi177 ?_
     refine effE mixed [0] (hs) ?_
     refine effE mixed [1] (hr) ?_
     refine effP [] (must_er_nstr (.string ⟨#[]⟩) e (rdP_ne hx)) ?_; trivial
    | ok x =>
     obtain ⟨v, m⟩ := x
     have hm := rdP_fits _ _ _ hx
     have hr := rstr_ok c 0 (Nat.zero_le _) hc (by rw [List.drop_zero]; exact hx)
     have hl := left_c c m hm
     rw [Nat.zero_add] at hr
     simp only [closeP]
     by_cases hml : m < c.length
     · rw [if_pos hml]
       refine pe_seal (by simp) ?_
       refine runE mixed fi177 ?_
       refine effE mixed [0] (hs) ?_
       refine effE mixed [1] (hr) ?_
       refine callI_pure (must_nstr _) ?_
       refine goE mixed ?_
       refine effE mixed [1] (hl) ?_
       exact ⟨fun _ => rfl, fun q => absurd (by omega) q⟩
     · rw [if_neg hml]
       refine pe_seal (by simp) ?_
       refine runE mixed fi177 ?_
       refine effE mixed [0] (hs) ?_
       refine effE mixed [1] (hr) ?_
       refine callI_pure (must_nstr _) ?_
       refine goE mixed ?_
       refine effE mixed [1] (hl) ?_
       exact ⟨fun q => absurd q (by omega), fun _ => trivial⟩
  · rw [inP_f h1]
    have hs := rtag_er i hi b n hn hb h h1
    generalize takeE (tagB i) (b.drop n) = e at *
    refine pe_seal (by simp) ?_
    refine runE mixed fi177 ?_
    refine effE mixed [0] (hs) ?_
    exact ⟨fun _ => trivial, fun q => absurd (by omega) h1⟩
end Go.Proofs.YtoeieekegmmdkaaGreatDoor

/- Contracts: reading a key. -/
namespace Go.Proofs.YtoeieekegmmdkaaGreatDoor
open Go Go.Sx Go.Proofs
set_option maxRecDepth 100000
set_option maxHeartbeats 4000000
set_option linter.unusedSimpArgs false

def zO {α : Type} (res : α → SV) : Except Nat (α × Nat) → Out
 | .ok (v, _) => .ret (res v)
 | .error e => .pan (errV e)
def zH {α : Type} (b : List UInt8) (n m : Nat) : Except Nat (α × Nat) → List SObj
 | .ok (_, k) => [rdr b (n + k)]
 | .error _ => [rdr b m]
attribute [go_sem] zO zH
def EffZ (P : Program) {α : Type} (f : FuncId) (args : List SV) (b : List UInt8) (n m : Nat) (res : α → SV) (x : Except Nat (α × Nat)) : Prop := PE P f args [rdr b n] (zO res x) (zH b n m x)
theorem effZ_of {P : Program} {α : Type} {f : FuncId} {args : List SV} {b : List UInt8} {n m : Nat} {res : α → SV} {x : Except Nat (α × Nat)} (h : VC P f args [rdr b n] (SealO (zO res x) (zH b n m x))) : EffZ P f args b n m res x := by
 cases x with
 | error e => exact pe_seal (by simp [zH]) h
 | ok y => exact pe_seal (by simp [zH]) h
theorem effZ_ok {P : Program} {α : Type} {f : FuncId} {args : List SV} {b : List UInt8} {n m : Nat} {res : α → SV} {x : Except Nat (α × Nat)} {v : α} {k : Nat} (h : EffZ P f args b n m res x) (hx : x = .ok (v, k)) : PE P f args [rdr b n] (.ret (res v)) [rdr b (n + k)] := by rw [hx] at h; exact h
theorem effZ_er {P : Program} {α : Type} {f : FuncId} {args : List SV} {b : List UInt8} {n m : Nat} {res : α → SV} {x : Except Nat (α × Nat)} {e : Nat} (h : EffZ P f args b n m res x) (hx : x = .error e) : PE P f args [rdr b n] (.pan (errV e)) [rdr b m] := by rw [hx] at h; exact h
def posX (b : List UInt8) (n : Nat) : Nat := if takeE 48 (b.drop n) = 0 then n + takeN (b.drop n) else n
theorem posX_t {b : List UInt8} {n : Nat} (h : takeE 48 (b.drop n) = 0) : posX b n = n + takeN (b.drop n) := if_pos h
theorem posX_f {b : List UInt8} {n : Nat} (h : takeE 48 (b.drop n) ≠ 0) : posX b n = n := if_neg h
def tripIn : PR Key := bindP (needP 0 intP) fun a => bindP (needP 1 intP) fun k => bindP (needP 2 octP) fun c => retP ((a, k, c) : Key)
def keyP : PR Key := inP 48 tripIn
theorem bindP_s0 {α β : Type} {p : PR α} {f : α → PR β} {b : List UInt8} {v : α} {k : Nat} (h : p b = .ok (v, k)) : bindP p f b = shiftP k (f v (b.drop k)) := by
 have := bindP_st (f := f) (b := b) (n := 0) (by rw [List.drop_zero]; exact h)
 rwa [List.drop_zero, Nat.zero_add] at this
end Go.Proofs.YtoeieekegmmdkaaGreatDoor

/- Contracts: reading a key, with the recovery. -/
namespace Go.Proofs.YtoeieekegmmdkaaGreatDoor
open Go Go.Sx Go.Proofs
set_option maxRecDepth 100000
set_option maxHeartbeats 4000000
set_option linter.unusedSimpArgs false

def ErrP {α : Type} (p : PR α) : Prop := ∀ r e, p r = .error e → e ≠ 0
theorem errP_rd {α : Type} {tag : UInt8} {dec : List UInt8 → Option α} : ErrP (rdP tag dec) := fun _ _ h => rdP_ne h
theorem errP_in {α : Type} {tag : UInt8} {p : PR α} (hp : ErrP p) : ErrP (inP tag p) := fun r e h => by
 rcases inP_cases (tag := tag) (p := p) (r := r) with ⟨h1, e'⟩ | ⟨_, e1, h2, e'⟩ | ⟨_, _, _, _, _, e'⟩ | ⟨_, _, _, _, _, e'⟩ <;> rw [e'] at h <;> cases h
 · exact h1
 · exact hp _ _ h2
 · decide
theorem errP_need {α : Type} {n : Nat} {p : PR α} (hp : ErrP p) : ErrP (needP n p) := fun r e h => by
 cases hb : nextB n r with
 | false =>
  rw [needP_no hb] at h
  split at h <;> cases h <;> decide
 | true => rw [needP_in hb] at h; exact errP_in hp r e h
theorem errP_bind {α β : Type} {p : PR α} {f : α → PR β} (hp : ErrP p) (hf : ∀ v, ErrP (f v)) : ErrP (bindP p f) := fun r e h => by
 unfold bindP at h
 cases h1 : p r with
 | error e1 => rw [h1] at h; cases h; exact hp r _ h1
 | ok y =>
  obtain ⟨u, k⟩ := y
  rw [h1] at h
  simp only at h
  cases h2 : f u (r.drop k) with
  | error e2 => rw [h2] at h; cases h; exact hf u _ _ h2
  | ok z => obtain ⟨w, l⟩ := z; rw [h2] at h; cases h
theorem errP_ret {α : Type} {v : α} : ErrP (retP v) := fun _ _ h => by cases h
def EffR (P : Program) {α : Type} (f : FuncId) (args : List SV) (b : List UInt8) (n : Nat) (res : α → SV) (z : SV) : Except Nat (α × Nat) → Prop
 | .ok (v, k) => PE P f args [rdr b n] (.ret (.tup [res v, rI 0])) [rdr b (n + k)]
 | .error e => PE P f args [rdr b n] (.ret (.tup [z, rI e])) [rdr b n]
theorem effR_ok {P : Program} {α : Type} {f : FuncId} {args : List SV} {b : List UInt8} {n : Nat} {res : α → SV} {z : SV} {x : Except Nat (α × Nat)} {v : α} {k : Nat} (h : EffR P f args b n res z x) (hx : x = .ok (v, k)) : PE P f args [rdr b n] (.ret (.tup [res v, rI 0])) [rdr b (n + k)] := by rw [hx] at h; exact h
theorem effR_er {P : Program} {α : Type} {f : FuncId} {args : List SV} {b : List UInt8} {n : Nat} {res : α → SV} {z : SV} {x : Except Nat (α × Nat)} {e : Nat} (h : EffR P f args b n res z x) (hx : x = .error e) : PE P f args [rdr b n] (.ret (.tup [z, rI e])) [rdr b n] := by rw [hx] at h; exact h
end Go.Proofs.YtoeieekegmmdkaaGreatDoor

/- The plain law of reading: keys. -/
namespace Go.Proofs.YtoeieekegmmdkaaGreatDoor
open Go Go.Sx Go.Proofs
set_option maxRecDepth 100000
set_option maxHeartbeats 4000000
set_option linter.unusedSimpArgs false

end Go.Proofs.YtoeieekegmmdkaaGreatDoor

/- The plain law of reading: key sets. -/
namespace Go.Proofs.YtoeieekegmmdkaaGreatDoor
open Go Go.Sx Go.Proofs
set_option maxRecDepth 100000
set_option maxHeartbeats 4000000
set_option linter.unusedSimpArgs false

end Go.Proofs.YtoeieekegmmdkaaGreatDoor

/- The plain law of reading: names. -/
namespace Go.Proofs.YtoeieekegmmdkaaGreatDoor
open Go Go.Sx Go.Proofs
set_option maxRecDepth 100000
set_option maxHeartbeats 4000000
set_option linter.unusedSimpArgs false

def atP {α : Type} (p : PR α) (l : List UInt8) : PR α := fun _ => match p l with
 | .ok (x, _) => .ok (x, 0)
 | .error e => .error e
def strsP (l : List UInt8) : PR (List ByteArray) := atP (listP strP l.length) l
def nameIn : PR Prin := bindP (needP 0 (rdP 48 decOct)) fun l => bindP (strsP l) fun xs => bindP (needP 1 strP) fun t => retP ((xs, t) : Prin)
def chkP {α : Type} (q : α → Bool) : Except Nat (α × Nat) → Except Nat (α × Nat)
 | .ok (v, k) => if q v = true then .ok (v, k) else .error 6
 | .error e => .error e
def nameP : PR Prin := fun r => chkP vPrin (inP 48 nameIn r)
end Go.Proofs.YtoeieekegmmdkaaGreatDoor

