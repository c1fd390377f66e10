/- Contracts: the reader, what does not read. -/
import Derived.Test.YtddmkgibghohkaaGreatDoorP21
import Derived.Test.YtddmkgibghohkaaGreatDoorP10
import Derived.Test.YtddmkgibghohkaaGreatDoorP18
set_option linter.unusedSimpArgs false
set_option linter.unusedVariables false
namespace Go.Proofs.YtddmkgibghohkaaGreatDoor
open Go Go.Sx Go.Proofs
set_option maxRecDepth 100000
set_option maxHeartbeats 4000000
set_option linter.unusedSimpArgs false

@[go_sem] abbrev rdr (b : List UInt8) (n : Nat) : SObj := .cells 215 [.isl .u8 b, rI n, .raw (.bool true)]
theorem rest_c (b : List UInt8) (n : Nat) (hn : n ≤ b.length) : PE Tryz.prog 200 [.ptr 0 0] [rdr b n] (.ret (.isl .u8 (b.drop n))) [rdr b n] := by
 refine pe_seal (Nat.le_refl _) ?_
 refine runE mixed fi200 ?_
 refine ⟨⟨by omega, hn, Nat.le_refl _⟩, ?_⟩
 rw [List.take_length]
theorem left_c (b : List UInt8) (n : Nat) (hn : n ≤ b.length) : PE Tryz.prog 139 [.ptr 0 0] [rdr b n] (.ret (rI ((b.length - n : Nat) : Int))) [rdr b n] := by
 refine pe_seal (Nat.le_refl _) ?_
 refine runE mixed fi139 ?_
 refine effE mixed [0] (rest_c b n hn) ?_
 rw [List.length_drop]
theorem end_c (b : List UInt8) (n : Nat) (hn : n ≤ b.length) : PE Tryz.prog 207 [.ptr 0 0] [rdr b n] (.ret (rI (if n < b.length then 5 else 0))) [rdr b n] := by
 refine pe_seal (Nat.le_refl _) ?_
 refine runE mixed fi207 ?_
 refine effE mixed [0] (left_c b n hn) ?_
 refine ⟨fun h => ?_, fun h => ?_⟩
 · rw [if_pos (by omega)]
 · rw [if_neg (by omega)]
theorem inner_c (b : List UInt8) : PE Tryz.prog 206 [.isl .u8 b] [] (.ret (.ptr 0 0)) [rdr b 0] := by
 refine pe_seal (Nat.zero_le _) ?_
 refine runE mixed fi206 ?_; trivial
theorem contained_c (b : List UInt8) : PE Tryz.prog 246 [.isl .u8 b] [] (.ret (.tup [.ptr 0 0, rB true])) [rdr b 0] := by
 refine pe_seal (Nat.zero_le _) ?_
 refine runE mixed fi246 ?_
 refine effE mixed [] (inner_c b) ?_; trivial
theorem take_c (tag : UInt8) (b : List UInt8) (n : Nat) (hn : n ≤ b.length) (hb : b.length ≤ 1099511627776) :
 PE Tryz.prog 248 [.ptr 0 0, .raw (.int .u8 tag.toNat)] [rdr b n] (.ret (.tup [.isl .u8 (if takeE tag (b.drop n) = 0 then takeC (b.drop n) else []), rI (takeE tag (b.drop n))])) [rdr b (if takeE tag (b.drop n) = 0 then n + takeN (b.drop n) else n)] := by
 have hr := rest_c b n hn
 have hlr : (b.drop n).length = b.length - n := List.length_drop
 have hm := measure_c (b.drop n) (by omega)
 have hok := @takeN_le tag (b.drop n)
 generalize hR : b.drop n = r at *
 have hE : takeE tag r = if r.length = 0 then 4 else if r.getD 0 0 ≠ tag then 6 else (meas r).2.2 := rfl
 refine pe_seal (Nat.le_refl _) ?_
 refine runE mixed fi248 ?_
 refine effE mixed [0] (hr) ?_
 refine ⟨fun h => ?_, fun h => ?_⟩
 · rw [if_pos (by omega)] at hE
   rw [hE]
   exact ⟨⟨rfl, rfl⟩, rfl⟩
 rw [if_neg (by omega)] at hE
 refine ⟨by omega, fun h2 => ?_, fun h2 => ?_⟩
 · rw [if_pos (fun e => h2 (by subst e; rfl))] at hE
   rw [hE]
   exact ⟨⟨rfl, rfl⟩, rfl⟩
 · have : r.getD 0 0 = tag := by
    apply UInt8.toNat_inj.1
    have : ((r.getD 0 Ty.u8.dflt).toNat : Int) = tag.toNat := h2
    exact_mod_cast this
   rw [if_neg (by simpa using this)] at hE
   refine callI_pure hm ?_
   unfold measV
   refine goE mixed ?_
   refine ⟨fun h3 => ?_, fun h3 => ?_⟩
   · have h3' : ¬ (meas r).2.2 = 0 := by omega
     rw [hE, if_neg h3', if_neg h3']
     exact ⟨⟨rfl, rfl⟩, rfl⟩
   · have h3' : (meas r).2.2 = 0 := by omega
     have hk := meas_ok h3'
     rw [hE, if_pos h3', if_pos h3', wrapi (by omega), h3']
     exact ⟨⟨by omega, hk.2.1, Nat.le_refl _, hk.2.2⟩, ⟨rfl, rfl⟩, congrArg (Value.int .i64) (by unfold takeN; omega)⟩
theorem read_int (g : Nat) (tag : UInt8) (b : List UInt8) (n : Nat) (hn : n ≤ b.length) (hb : b.length ≤ 1099511627776) (v : SV) (right : Bool) (hg : PC Tryz.prog g [.isl .u8 (takeC (b.drop n))] (.tup [v, rB right])) (hv : ∃ u, (v = .raw u) ∨ ∃ xs, v = .isl .u8 xs) :
 PE Tryz.prog 202 [.ptr 0 0, .raw (.int .u8 tag.toNat), .fn g [] []] [rdr b n] (.ret (if takeE tag (b.drop n) = 0 then (if right then .tup [v, rI 0] else .tup [.raw (.int .i64 0), rI 6]) else .tup [.raw (.int .i64 0), rI (takeE tag (b.drop n))])) [rdr b (if takeE tag (b.drop n) = 0 ∧ right = true then n + takeN (b.drop n) else n)] := by
 have ht := take_c tag b n hn hb
 generalize takeE tag (b.drop n) = e at *
 generalize takeC (b.drop n) = c at *
 generalize takeN (b.drop n) = k at *
 refine pe_seal (Nat.le_refl _) ?_
 refine runE mixed fi202 ?_
 refine effE mixed [0] (ht) ?_
 refine ⟨fun h => ?_, fun h => ?_⟩
 · have h' : ¬ e = 0 := by omega
   simp only [if_neg h', h', false_and, if_false]
   with_reducible refine sxE ?_; trivial
 · obtain rfl : e = 0 := by omega
   simp only [true_and, if_true]
   refine callI_pure hg ?_
   obtain ⟨u, rfl | ⟨xs, rfl⟩⟩ := hv
   · cases right
     · refine run_sound mixed 600 _ ?_
       simp (maxSteps := 3000000) only [Bool.false_eq_true, if_false, go_sem, ↓zA, ↓reduceIte, ↓reduceDIte, reduceCtorEq, Nat.reduceAdd, Nat.reduceSub, Nat.reduceLeDiff, Nat.reduceLT, Nat.reduceEqDiff, Nat.reduceBEq, Nat.reduceMul, Int.reduceToNat, Int.reduceEq, Int.reduceLT, Int.reduceLE] <;> try simp only [zB]
     · refine goE mixed ?_; trivial
   · cases right
     · refine run_sound mixed 600 _ ?_
       simp (maxSteps := 3000000) only [Bool.false_eq_true, if_false, go_sem, ↓zA, ↓reduceIte, ↓reduceDIte, reduceCtorEq, Nat.reduceAdd, Nat.reduceSub, Nat.reduceLeDiff, Nat.reduceLT, Nat.reduceEqDiff, Nat.reduceBEq, Nat.reduceMul, Int.reduceToNat, Int.reduceEq, Int.reduceLT, Int.reduceLE] <;> try simp only [zB]
     · refine goE mixed ?_; trivial
theorem read_str (g : Nat) (tag : UInt8) (b : List UInt8) (n : Nat) (hn : n ≤ b.length) (hb : b.length ≤ 1099511627776) (v : SV) (right : Bool) (hg : PC Tryz.prog g [.isl .u8 (takeC (b.drop n))] (.tup [v, rB right])) (hv : ∃ u, (v = .raw u) ∨ ∃ xs, v = .isl .u8 xs) :
 PE Tryz.prog 204 [.ptr 0 0, .raw (.int .u8 tag.toNat), .fn g [] []] [rdr b n] (.ret (if takeE tag (b.drop n) = 0 then (if right then .tup [v, rI 0] else .tup [.raw (.string ⟨#[]⟩), rI 6]) else .tup [.raw (.string ⟨#[]⟩), rI (takeE tag (b.drop n))])) [rdr b (if takeE tag (b.drop n) = 0 ∧ right = true then n + takeN (b.drop n) else n)] := by
 have ht := take_c tag b n hn hb
 generalize takeE tag (b.drop n) = e at *
 generalize takeC (b.drop n) = c at *
 generalize takeN (b.drop n) = k at *
 refine pe_seal (Nat.le_refl _) ?_
 refine runE mixed fi204 ?_
 refine effE mixed [0] (ht) ?_
 refine ⟨fun h => ?_, fun h => ?_⟩
 · have h' : ¬ e = 0 := by omega
   simp only [if_neg h', h', false_and, if_false]
   with_reducible refine sxE ?_; trivial
 · obtain rfl : e = 0 := by omega
   simp only [true_and, if_true]
   refine callI_pure hg ?_
   obtain ⟨u, rfl | ⟨xs, rfl⟩⟩ := hv
   · cases right
     · refine run_sound mixed 600 _ ?_
       simp (maxSteps := 3000000) only [Bool.false_eq_true, if_false, go_sem, ↓zA, ↓reduceIte, ↓reduceDIte, reduceCtorEq, Nat.reduceAdd, Nat.reduceSub, Nat.reduceLeDiff, Nat.reduceLT, Nat.reduceEqDiff, Nat.reduceBEq, Nat.reduceMul, Int.reduceToNat, Int.reduceEq, Int.reduceLT, Int.reduceLE] <;> try simp only [zB]
     · refine goE mixed ?_; trivial
   · cases right
     · refine run_sound mixed 600 _ ?_
       simp (maxSteps := 3000000) only [Bool.false_eq_true, if_false, go_sem, ↓zA, ↓reduceIte, ↓reduceDIte, reduceCtorEq, Nat.reduceAdd, Nat.reduceSub, Nat.reduceLeDiff, Nat.reduceLT, Nat.reduceEqDiff, Nat.reduceBEq, Nat.reduceMul, Int.reduceToNat, Int.reduceEq, Int.reduceLT, Int.reduceLE] <;> try simp only [zB]
     · refine goE mixed ?_; trivial
theorem read_u32 (g : Nat) (tag : UInt8) (b : List UInt8) (n : Nat) (hn : n ≤ b.length) (hb : b.length ≤ 1099511627776) (v : SV) (right : Bool) (hg : PC Tryz.prog g [.isl .u8 (takeC (b.drop n))] (.tup [v, rB right])) (hv : ∃ u, (v = .raw u) ∨ ∃ xs, v = .isl .u8 xs) :
 PE Tryz.prog 222 [.ptr 0 0, .raw (.int .u8 tag.toNat), .fn g [] []] [rdr b n] (.ret (if takeE tag (b.drop n) = 0 then (if right then .tup [v, rI 0] else .tup [.raw (.int .u32 0), rI 6]) else .tup [.raw (.int .u32 0), rI (takeE tag (b.drop n))])) [rdr b (if takeE tag (b.drop n) = 0 ∧ right = true then n + takeN (b.drop n) else n)] := by
 have ht := take_c tag b n hn hb
 generalize takeE tag (b.drop n) = e at *
 generalize takeC (b.drop n) = c at *
 generalize takeN (b.drop n) = k at *
 refine pe_seal (Nat.le_refl _) ?_
 refine runE mixed fi222 ?_
 refine effE mixed [0] (ht) ?_
 refine ⟨fun h => ?_, fun h => ?_⟩
 · have h' : ¬ e = 0 := by omega
   simp only [if_neg h', h', false_and, if_false]
   with_reducible refine sxE ?_; trivial
 · obtain rfl : e = 0 := by omega
   simp only [true_and, if_true]
   refine callI_pure hg ?_
   obtain ⟨u, rfl | ⟨xs, rfl⟩⟩ := hv
   · cases right
     · refine run_sound mixed 600 _ ?_
       simp (maxSteps := 3000000) only [Bool.false_eq_true, if_false, go_sem, ↓zA, ↓reduceIte, ↓reduceDIte, reduceCtorEq, Nat.reduceAdd, Nat.reduceSub, Nat.reduceLeDiff, Nat.reduceLT, Nat.reduceEqDiff, Nat.reduceBEq, Nat.reduceMul, Int.reduceToNat, Int.reduceEq, Int.reduceLT, Int.reduceLE] <;> try simp only [zB]
     · refine goE mixed ?_; trivial
   · cases right
     · refine run_sound mixed 600 _ ?_
       simp (maxSteps := 3000000) only [Bool.false_eq_true, if_false, go_sem, ↓zA, ↓reduceIte, ↓reduceDIte, reduceCtorEq, Nat.reduceAdd, Nat.reduceSub, Nat.reduceLeDiff, Nat.reduceLT, Nat.reduceEqDiff, Nat.reduceBEq, Nat.reduceMul, Int.reduceToNat, Int.reduceEq, Int.reduceLT, Int.reduceLE] <;> try simp only [zB]
     · refine goE mixed ?_; trivial
theorem read_bytes (g : Nat) (tag : UInt8) (b : List UInt8) (n : Nat) (hn : n ≤ b.length) (hb : b.length ≤ 1099511627776) (v : SV) (right : Bool) (hg : PC Tryz.prog g [.isl .u8 (takeC (b.drop n))] (.tup [v, rB right])) (hv : ∃ u, (v = .raw u) ∨ ∃ xs, v = .isl .u8 xs) :
 PE Tryz.prog 269 [.ptr 0 0, .raw (.int .u8 tag.toNat), .fn g [] []] [rdr b n] (.ret (if takeE tag (b.drop n) = 0 then (if right then .tup [v, rI 0] else .tup [.isl .u8 [], rI 6]) else .tup [.isl .u8 [], rI (takeE tag (b.drop n))])) [rdr b (if takeE tag (b.drop n) = 0 ∧ right = true then n + takeN (b.drop n) else n)] := by
 have ht := take_c tag b n hn hb
 generalize takeE tag (b.drop n) = e at *
 generalize takeC (b.drop n) = c at *
 generalize takeN (b.drop n) = k at *
 refine pe_seal (Nat.le_refl _) ?_
 refine runE mixed fi269 ?_
 refine effE mixed [0] (ht) ?_
 refine ⟨fun h => ?_, fun h => ?_⟩
 · have h' : ¬ e = 0 := by omega
   simp only [if_neg h', h', false_and, if_false]
   with_reducible refine sxE ?_; trivial
 · obtain rfl : e = 0 := by omega
   simp only [true_and, if_true]
   refine callI_pure hg ?_
   obtain ⟨u, rfl | ⟨xs, rfl⟩⟩ := hv
   · cases right
     · refine run_sound mixed 600 _ ?_
       simp (maxSteps := 3000000) only [Bool.false_eq_true, if_false, go_sem, ↓zA, ↓reduceIte, ↓reduceDIte, reduceCtorEq, Nat.reduceAdd, Nat.reduceSub, Nat.reduceLeDiff, Nat.reduceLT, Nat.reduceEqDiff, Nat.reduceBEq, Nat.reduceMul, Int.reduceToNat, Int.reduceEq, Int.reduceLT, Int.reduceLE] <;> try simp only [zB]
     · refine goE mixed ?_; trivial
   · cases right
     · refine run_sound mixed 600 _ ?_
       simp (maxSteps := 3000000) only [Bool.false_eq_true, if_false, go_sem, ↓zA, ↓reduceIte, ↓reduceDIte, reduceCtorEq, Nat.reduceAdd, Nat.reduceSub, Nat.reduceLeDiff, Nat.reduceLT, Nat.reduceEqDiff, Nat.reduceBEq, Nat.reduceMul, Int.reduceToNat, Int.reduceEq, Int.reduceLT, Int.reduceLE] <;> try simp only [zB]
     · refine goE mixed ?_; trivial
end Go.Proofs.YtddmkgibghohkaaGreatDoor
/- Contracts: the reader, values of each kind. -/
namespace Go.Proofs.YtddmkgibghohkaaGreatDoor
open Go Go.Sx Go.Proofs
set_option maxRecDepth 100000
set_option maxHeartbeats 4000000
set_option linter.unusedSimpArgs false

theorem rdP_ok {α : Type} {tag : UInt8} {dec : List UInt8 → Option α} {r : List UInt8} {v : α} {k : Nat} (h : rdP tag dec r = .ok (v, k)) : takeE tag r = 0 ∧ dec (takeC r) = some v ∧ k = takeN r := by
 unfold rdP at h
 split at h
 · split at h
   · cases h; exact ⟨by assumption, by assumption, rfl⟩
   · cases h
 · cases h
theorem rdP_er {α : Type} {tag : UInt8} {dec : List UInt8 → Option α} {r : List UInt8} {e : Nat} (h : rdP tag dec r = .error e) : (takeE tag r = 0 ∧ dec (takeC r) = none ∧ e = 6) ∨ (takeE tag r ≠ 0 ∧ e = takeE tag r) := by
 unfold rdP at h
 split at h
 · split at h
   · cases h
   · cases h; exact .inl ⟨by assumption, by assumption, rfl⟩
 · cases h; exact .inr ⟨by assumption, rfl⟩
theorem rdP_le {α : Type} {tag : UInt8} {dec : List UInt8 → Option α} {r : List UInt8} {v : α} {k : Nat} (h : rdP tag dec r = .ok (v, k)) : k ≤ r.length := by
 obtain ⟨h1, _, rfl⟩ := rdP_ok h
 exact takeN_le h1
theorem wrap64_or (v : Int) (c : Nat) (hv : -36028797018963968 ≤ v ∧ v < 36028797018963968) (hc : c < 256) : IntKind.i64.wrap ((BitVec.ofInt 64 (v * 256) ||| BitVec.ofInt 64 ((c : Nat) : Int)).toNat : Int) = v * 256 + c := by
 obtain ⟨m, hm⟩ : ∃ m : Nat, (BitVec.ofInt 64 (v * 256)).toNat = m * 256 ∧ ((m : Int) * 256 = v * 256 ∨ (m : Int) * 256 = v * 256 + 18446744073709551616) := by
  refine ⟨((v * 256) % 18446744073709551616).toNat / 256, ?_, ?_⟩
  · rw [BitVec.toNat_ofInt]
    have : (((2 ^ 64 : Nat)) : Int) = 18446744073709551616 := by decide
    rw [this]; omega
  · omega
 have h2 : (BitVec.ofInt 64 ((c : Nat) : Int)).toNat = c := by rw [BitVec.ofInt_natCast, BitVec.toNat_ofNat]; exact Nat.mod_eq_of_lt (by omega)
 have h3 : m * 256 ||| c = m * 256 + c := by
  have := Nat.shiftLeft_add_eq_or_of_lt (b := c) (i := 8) hc m
  rw [Nat.shiftLeft_eq] at this
  exact this.symm
 rw [BitVec.toNat_or, hm.1, h2, h3]
 have hw : ∀ x : Int, IntKind.i64.wrap x = if x % 18446744073709551616 < 9223372036854775808 then x % 18446744073709551616 else x % 18446744073709551616 - 18446744073709551616 := fun x => by
  simp [IntKind.wrap, IntKind.bits, IntKind.signed]
  split <;> omega
 rw [hw]
 push_cast
 rcases hm.2 with h | h <;> split <;> omega
def sgnK (c : List UInt8) (i : Nat) : Int := ((c.drop 1).take i).foldl (fun v x => v * 256 + (x.toNat : Int)) (sgn1 (c.getD 0 0))
theorem sgn1_bd (x : UInt8) : -128 ≤ sgn1 x ∧ sgn1 x < 128 := by
 have := x.toNat_lt
 unfold sgn1
 simp [IntKind.wrap, IntKind.bits, IntKind.signed]
 omega
theorem sgnK_succ {c : List UInt8} {i : Nat} (h : i < (c.drop 1).length) : sgnK c (i + 1) = sgnK c i * 256 + (((c.drop 1).getD i 0).toNat : Int) := by
 unfold sgnK
 rw [take_succ_getD (d := 0) h, List.foldl_append]; rfl
theorem sgnK_bd (c : List UInt8) : ∀ i, i ≤ (c.drop 1).length → -(128 * 256 ^ i : Nat) ≤ sgnK c i ∧ sgnK c i < (128 * 256 ^ i : Nat)
 | 0, _ => by have := sgn1_bd (c.getD 0 0); simpa [sgnK] using this
 | i + 1, h => by
  have ih := sgnK_bd c i (by omega)
  have hx := ((c.drop 1).getD i 0).toNat_lt
  rw [sgnK_succ (by omega), Nat.pow_succ]
  omega
theorem equal_c (a b : List UInt8) (ha : a.length ≤ 140737488355328) (hb : b.length ≤ 140737488355328) : PC Tryz.prog 69 [.isl .u8 a, .isl .u8 b] (rB (decide (a = b))) := by
 refine pc_of rfl rfl ?_
 refine runE mixed fi69 ?_
 exact decide_eq_decide.2 ⟨fun h => by simpa [strOf] using h, fun h => by rw [h]⟩
def iVal (c : List UInt8) : Int := if c.length < 1 ∨ 8 < c.length then 0 else sgn c
theorem decInt_val {c : List UInt8} {v : Int} (h : decInt c = some v) : v = iVal c := by
 unfold decInt at h
 split at h
 · rename_i hc; cases h
   unfold iVal; rw [if_neg (by omega)]
 · cases h
theorem sgnK_all (c : List UInt8) : sgnK c (c.drop 1).length = sgn c := by unfold sgnK sgn; rw [List.take_length]
theorem int1_c (c : List UInt8) (hc : c.length ≤ 1099511627776) : PC Tryz.prog 203 [.isl .u8 c] (.tup [rI (iVal c), rB (decInt c).isSome]) := by
 refine pc_seal rfl rfl ?_
 refine runE mixed fi203 ?_
 have h0 : (c.length < 1 ∨ 8 < c.length) → iVal c = 0 ∧ (decInt c).isSome = false := fun h => by
  unfold iVal decInt
  rw [if_pos h, if_neg (by omega)]
  exact ⟨rfl, rfl⟩
 refine ⟨fun h1 => ⟨fun h8 => ?_, fun h8 => ⟨by omega, ⟨by omega, Nat.le_refl _⟩, ?_⟩⟩, fun h1 => ?_⟩
 · obtain ⟨e1, e2⟩ := h0 (by omega)
   rw [e1, e2]; exact ⟨rfl, rfl⟩
 rotate_left
 · obtain ⟨e1, e2⟩ := h0 (by omega)
   rw [e1, e2]; exact ⟨rfl, rfl⟩
 have hs1 : IntKind.i64.wrap (IntKind.i8.wrap ((c.getD 0 Ty.u8.dflt).toNat : Int)) = sgnK c 0 := by
  have := sgn1_bd (c.getD 0 0)
  show IntKind.i64.wrap (sgn1 (c.getD 0 0)) = _
  rw [wrapi (by omega)]; rfl
 rw [hs1]
 have htl : List.take c.length c = c := List.take_length
 rw [htl]
 have hl : (c.drop 1).length = c.length - 1 := List.length_drop
 generalize hD : c.drop 1 = d at *
 refine si_cntD (fun i => [(4, rI (sgnK c i)), (23, .raw (.int .i64 ((i : Nat) : Int)))]) (d.length) (fun j => (fun _ => true) j = true) (by first | decide | simp) (fun i => rfl) ?_ fun i hi hall => ?_
 · (with_reducible refine sxE ?_ <;> try exact True.intro)
   all_goals (try rfl)
 have hwr : IntKind.i64.wrap ((i : Int) + 1) = ((i + 1 : Nat) : Int) := wrap_succ (by omega)
 refine goE mixed ?_
 have bad : i < (d.length) → (fun _ => true) i = false → allN (d.length) (fun _ => true) = false := fun hlt hv => allN_false hlt hv
 have fin : ¬ i < (d.length) → allN (d.length) (fun _ => true) = true := fun h => allN_true fun j hj => hall j (by omega)
 try dsimp only at bad fin hall
 refine ⟨fun hlt => ⟨⟨by omega, hlt⟩, ?_⟩, fun hge => ?_⟩
 · have hb := sgnK_bd c i (by rw [hD]; omega)
   have hp : 256 ^ i ≤ 256 ^ 6 := Nat.pow_le_pow_right (by decide) (by omega)
   have hx : (d.getD i Ty.u8.dflt).toNat < 256 := UInt8.toNat_lt _
   have e0 : sgnK c i * 2 ^ min 8 64 = sgnK c i * 256 := rfl
   have e1 : IntKind.i64.wrap (sgnK c i * 256) = sgnK c i * 256 := wrapi (by omega)
   have e2 : IntKind.i64.wrap ((d.getD i Ty.u8.dflt).toNat : Int) = ((d.getD i Ty.u8.dflt).toNat : Int) := wrapi (by omega)
   have e3 := wrap64_or (sgnK c i) (d.getD i Ty.u8.dflt).toNat (by omega) hx
   have e4 := sgnK_succ (c := c) (i := i) (by rw [hD]; exact hlt)
   rw [hD] at e4
   rw [e0, e1, e2]
   refine ⟨hlt, trivial, ⟨[], rfl⟩, ?_⟩
   with_reducible refine sx1 hwr ?_
   rw [e4]
   exact congrArg (Value.int .i64) e3
 · obtain rfl : i = d.length := by omega
   have hall' := sgnK_all c
   rw [hD] at hall'
   rw [hall']
   refine callI_pure (integer_c (sgn c)) ?_
   refine goE mixed ?_
   refine callI_hand 0 ?_
   with_reducible refine sxE ?_
   refine callI_pure (element_k 2 2 rfl [c] (by simp)) ?_
   have g1 := intS_len (sgn c)
   have g2 := elemS_len 2 [c]
   simp only [List.flatten_cons, List.flatten_nil, List.append_nil] at g2
   refine goE mixed ?_
   refine callI_pure (equal_c _ _ (by omega) (by omega)) ?_
   refine goE mixed ?_
   have e1 : iVal c = sgn c := by unfold iVal; rw [if_neg (by omega)]
   have e2 : (decInt c).isSome = decide (intS (sgn c) = elemS 2 [c]) := by
    unfold decInt
    by_cases h : intS (sgn c) = elemS 2 [c]
    · rw [if_pos ⟨by omega, by omega, h⟩, decide_eq_true h]; rfl
    · rw [if_neg (fun q => h q.2.2), decide_eq_false h]; rfl
   rw [e1, e2]
   exact ⟨rfl, rfl⟩
def bVal (c : List UInt8) : Nat := if c.length ≠ 5 ∨ c.getD 0 0 ≠ 0 then 0 else beN (c.drop 1)
theorem bits1_c (c : List UInt8) : PC Tryz.prog 223 [.isl .u8 c] (.tup [.raw (.int .u32 (bVal c)), rB (decBits c).isSome]) := by
 refine pc_seal rfl rfl ?_
 refine runE mixed fi223 ?_
 have hno : (c.length ≠ 5 ∨ c.getD 0 0 ≠ 0) → bVal c = 0 ∧ (decBits c).isSome = false := fun h => by
  unfold bVal decBits
  rw [if_pos h, if_neg (fun q => h.elim (fun e => e q.1) (fun e => e q.2))]
  exact ⟨rfl, rfl⟩
 refine ⟨fun h5 => ⟨by omega, fun h0 => ?_, fun h0 => ⟨⟨by omega, Nat.le_refl _⟩, ?_⟩⟩, fun h5 => ?_⟩
 · obtain ⟨e1, e2⟩ := hno (.inr fun e => h0 (by rw [show c.getD 0 Ty.u8.dflt = 0 from e]; rfl))
   rw [e1, e2]; exact ⟨rfl, rfl⟩
 · have hz : c.getD 0 0 = 0 := by
    apply UInt8.toNat_inj.1
    have : ((c.getD 0 Ty.u8.dflt).toNat : Int) = 0 := h0
    exact_mod_cast this
   have hl : (c.drop 1).length = 4 := by rw [List.length_drop]; omega
   rw [List.take_length]
   refine callI_pure (unsigned_c (c.drop 1) (by omega)) ?_
   have hb := beN_lt (c.drop 1)
   rw [hl] at hb
   have e1 : bVal c = beN (c.drop 1) := by unfold bVal; rw [if_neg (fun q => q.elim (fun e => e (by omega)) (fun e => e hz))]
   have e2 : (decBits c).isSome = true := by unfold decBits; rw [if_pos ⟨by omega, hz⟩]; rfl
   have e3 : IntKind.u32.wrap ((beN (c.drop 1) : Nat) : Int) = ((beN (c.drop 1) : Nat) : Int) := by
    generalize beN (c.drop 1) = m at *
    have : m < 4294967296 := hb
    simp [IntKind.wrap, IntKind.bits, IntKind.signed]
    omega
   rw [e1, e2]
   refine run_sound mixed 600 _ ?_
   simp (maxSteps := 3000000) only [e3, go_sem, ↓zA, ↓reduceIte, ↓reduceDIte, reduceCtorEq, Nat.reduceAdd, Nat.reduceSub, Nat.reduceLeDiff, Nat.reduceLT, Nat.reduceEqDiff, Nat.reduceBEq, Nat.reduceMul, Int.reduceToNat, Int.reduceEq, Int.reduceLT, Int.reduceLE] <;> try simp only [zB]
 · obtain ⟨e1, e2⟩ := hno (.inl (by omega))
   rw [e1, e2]; exact ⟨rfl, rfl⟩
def tVal (c : List UInt8) : Nat := if c.length ≠ 6 then 0 else beN c
theorem time1_c (c : List UInt8) : PC Tryz.prog 267 [.isl .u8 c] (.tup [rI (tVal c), rB (decTime c).isSome]) := by
 refine pc_seal rfl rfl ?_
 refine runE mixed fi267 ?_
 refine ⟨fun h6 => ?_, fun h6 => callI_pure (unsigned_c c (by omega)) ?_⟩
 · have e1 : tVal c = 0 := by unfold tVal; rw [if_pos (by omega)]
   have e2 : (decTime c).isSome = false := by unfold decTime; rw [if_neg (by omega)]; rfl
   rw [e1, e2]; exact ⟨rfl, rfl⟩
 · have e1 : tVal c = beN c := by unfold tVal; rw [if_neg (by omega)]
   have e2 : (decTime c).isSome = decide (((beN c : Nat) : Int) ≤ 1099511627776) := by
    unfold decTime
    by_cases h : beN c ≤ 1099511627776
    · rw [if_pos ⟨by omega, h⟩, decide_eq_true (by omega)]; rfl
    · rw [if_neg (by omega), decide_eq_false (by omega)]; rfl
   rw [e1, e2]
   refine goE mixed ?_; trivial
theorem str1_c (c : List UInt8) (hc : c.length ≤ 1099511627776) : PC Tryz.prog 205 [.isl .u8 c] (.tup [rS ⟨c.toArray⟩, rB true]) := by
 refine pc_seal rfl rfl ?_
 refine runE mixed fi205 ?_
 rfl
theorem oct1_c (c : List UInt8) (hc : c.length ≤ 1099511627776) : PC Tryz.prog 270 [.isl .u8 c] (.tup [.isl .u8 c, rB true]) := by
 refine pc_seal rfl rfl ?_
 refine runE mixed fi270 ?_
 refine callI_pure (bclone_c c (by omega)) ?_
 refine goE mixed ?_; trivial
theorem decBits_val {c : List UInt8} {v : Nat} (h : decBits c = some v) : v = bVal c := by
 unfold decBits at h
 split at h
 · rename_i hc; cases h; unfold bVal; rw [if_neg (fun q => q.elim (fun e => e hc.1) (fun e => e hc.2))]
 · cases h
theorem decTime_val {c : List UInt8} {v : Nat} (h : decTime c = some v) : v = tVal c := by
 unfold decTime at h
 split at h
 · rename_i hc; cases h; unfold tVal; rw [if_neg (by omega)]
 · cases h
theorem tkC_le {b : List UInt8} {n : Nat} (hb : b.length ≤ 1099511627776) : (takeC (b.drop n)).length ≤ 1099511627776 := by
 have := takeC_len (b.drop n)
 rw [List.length_drop] at this; omega
theorem rint_ok (b : List UInt8) (n : Nat) (hn : n ≤ b.length) (hb : b.length ≤ 1099511627776) {v : Int} {k : Nat} (h : intP (b.drop n) = .ok (v, k)) : PE Tryz.prog 145 [.ptr 0 0] [rdr b n] (.ret (.tup [(rI) v, rI 0])) [rdr b (n + k)] := by
 obtain ⟨h1, h2, rfl⟩ := rdP_ok h
 have hr := read_int 203 2 b n hn hb _ _ (int1_c (takeC (b.drop n)) (tkC_le hb)) ⟨_, .inl rfl⟩
 rw [if_pos h1, if_pos (by rw [h2]; rfl), if_pos ⟨h1, by rw [h2]; rfl⟩, ← decInt_val h2] at hr
 refine pe_seal (Nat.le_refl _) ?_
 refine runE mixed fi145 ?_
 refine effE mixed [0] (hr) ?_; trivial
theorem rint_er (b : List UInt8) (n : Nat) (hn : n ≤ b.length) (hb : b.length ≤ 1099511627776) {e : Nat} (h : intP (b.drop n) = .error e) : PE Tryz.prog 145 [.ptr 0 0] [rdr b n] (.ret (.tup [rI 0, rI e])) [rdr b n] := by
 have hr := read_int 203 2 b n hn hb _ _ (int1_c (takeC (b.drop n)) (tkC_le hb)) ⟨_, .inl rfl⟩
 have hr' : PE Tryz.prog 202 [.ptr 0 0, .raw (.int .u8 (2 : UInt8).toNat), .fn 203 [] []] [rdr b n] (.ret (.tup [rI 0, rI e])) [rdr b n] := by
  rcases rdP_er h with ⟨h1, h2, rfl⟩ | ⟨h1, rfl⟩
  · rw [if_pos h1, if_neg (by rw [h2]; simp), if_neg (fun q => by rw [h2] at q; simp at q)] at hr
    exact hr
  · rw [if_neg h1, if_neg (fun q => h1 q.1)] at hr
    exact hr
 refine pe_seal (Nat.le_refl _) ?_
 refine runE mixed fi145 ?_
 refine effE mixed [0] (hr') ?_; trivial
theorem rbits_ok (b : List UInt8) (n : Nat) (hn : n ≤ b.length) (hb : b.length ≤ 1099511627776) {v : Nat} {k : Nat} (h : bitsP (b.drop n) = .ok (v, k)) : PE Tryz.prog 183 [.ptr 0 0] [rdr b n] (.ret (.tup [(fun v => .raw (.int .u32 (v : Nat))) v, rI 0])) [rdr b (n + k)] := by
 obtain ⟨h1, h2, rfl⟩ := rdP_ok h
 have hr := read_u32 223 3 b n hn hb _ _ (bits1_c (takeC (b.drop n))) ⟨_, .inl rfl⟩
 rw [if_pos h1, if_pos (by rw [h2]; rfl), if_pos ⟨h1, by rw [h2]; rfl⟩, ← decBits_val h2] at hr
 refine pe_seal (Nat.le_refl _) ?_
 refine runE mixed fi183 ?_
 refine effE mixed [0] (hr) ?_; trivial
theorem rbits_er (b : List UInt8) (n : Nat) (hn : n ≤ b.length) (hb : b.length ≤ 1099511627776) {e : Nat} (h : bitsP (b.drop n) = .error e) : PE Tryz.prog 183 [.ptr 0 0] [rdr b n] (.ret (.tup [.raw (.int .u32 0), rI e])) [rdr b n] := by
 have hr := read_u32 223 3 b n hn hb _ _ (bits1_c (takeC (b.drop n))) ⟨_, .inl rfl⟩
 have hr' : PE Tryz.prog 222 [.ptr 0 0, .raw (.int .u8 (3 : UInt8).toNat), .fn 223 [] []] [rdr b n] (.ret (.tup [.raw (.int .u32 0), rI e])) [rdr b n] := by
  rcases rdP_er h with ⟨h1, h2, rfl⟩ | ⟨h1, rfl⟩
  · rw [if_pos h1, if_neg (by rw [h2]; simp), if_neg (fun q => by rw [h2] at q; simp at q)] at hr
    exact hr
  · rw [if_neg h1, if_neg (fun q => h1 q.1)] at hr
    exact hr
 refine pe_seal (Nat.le_refl _) ?_
 refine runE mixed fi183 ?_
 refine effE mixed [0] (hr') ?_; trivial
theorem rtime_ok (b : List UInt8) (n : Nat) (hn : n ≤ b.length) (hb : b.length ≤ 1099511627776) {v : Nat} {k : Nat} (h : timeP (b.drop n) = .ok (v, k)) : PE Tryz.prog 232 [.ptr 0 0] [rdr b n] (.ret (.tup [(fun v => rI (v : Nat)) v, rI 0])) [rdr b (n + k)] := by
 obtain ⟨h1, h2, rfl⟩ := rdP_ok h
 have hr := read_int 267 24 b n hn hb _ _ (time1_c (takeC (b.drop n))) ⟨_, .inl rfl⟩
 rw [if_pos h1, if_pos (by rw [h2]; rfl), if_pos ⟨h1, by rw [h2]; rfl⟩, ← decTime_val h2] at hr
 refine pe_seal (Nat.le_refl _) ?_
 refine runE mixed fi232 ?_
 refine effE mixed [0] (hr) ?_; trivial
theorem rtime_er (b : List UInt8) (n : Nat) (hn : n ≤ b.length) (hb : b.length ≤ 1099511627776) {e : Nat} (h : timeP (b.drop n) = .error e) : PE Tryz.prog 232 [.ptr 0 0] [rdr b n] (.ret (.tup [rI 0, rI e])) [rdr b n] := by
 have hr := read_int 267 24 b n hn hb _ _ (time1_c (takeC (b.drop n))) ⟨_, .inl rfl⟩
 have hr' : PE Tryz.prog 202 [.ptr 0 0, .raw (.int .u8 (24 : UInt8).toNat), .fn 267 [] []] [rdr b n] (.ret (.tup [rI 0, rI e])) [rdr b n] := by
  rcases rdP_er h with ⟨h1, h2, rfl⟩ | ⟨h1, rfl⟩
  · rw [if_pos h1, if_neg (by rw [h2]; simp), if_neg (fun q => by rw [h2] at q; simp at q)] at hr
    exact hr
  · rw [if_neg h1, if_neg (fun q => h1 q.1)] at hr
    exact hr
 refine pe_seal (Nat.le_refl _) ?_
 refine runE mixed fi232 ?_
 refine effE mixed [0] (hr') ?_; trivial
end Go.Proofs.YtddmkgibghohkaaGreatDoor
/- Contracts: the reader, strings, octets, sequences, tagged elements. -/
namespace Go.Proofs.YtddmkgibghohkaaGreatDoor
open Go Go.Sx Go.Proofs
set_option maxRecDepth 100000
set_option maxHeartbeats 4000000
set_option linter.unusedSimpArgs false

theorem rstr_ok (b : List UInt8) (n : Nat) (hn : n ≤ b.length) (hb : b.length ≤ 1099511627776) {v : ByteArray} {k : Nat} (h : strP (b.drop n) = .ok (v, k)) : PE Tryz.prog 148 [.ptr 0 0] [rdr b n] (.ret (.tup [rS v, rI 0])) [rdr b (n + k)] := by
 obtain ⟨h1, h2, rfl⟩ := rdP_ok h
 have hr := read_str 205 27 b n hn hb _ _ (str1_c (takeC (b.drop n)) (tkC_le hb)) ⟨_, .inl rfl⟩
 rw [if_pos h1, if_pos rfl, if_pos ⟨h1, rfl⟩] at hr
 cases h2
 refine pe_seal (Nat.le_refl _) ?_
 refine runE mixed fi148 ?_
 refine effE mixed [0] (hr) ?_; trivial
theorem rstr_er (b : List UInt8) (n : Nat) (hn : n ≤ b.length) (hb : b.length ≤ 1099511627776) {e : Nat} (h : strP (b.drop n) = .error e) : PE Tryz.prog 148 [.ptr 0 0] [rdr b n] (.ret (.tup [.raw (.string ⟨#[]⟩), rI e])) [rdr b n] := by
 have hr := read_str 205 27 b n hn hb _ _ (str1_c (takeC (b.drop n)) (tkC_le hb)) ⟨_, .inl rfl⟩
 have hr' : PE Tryz.prog 204 [.ptr 0 0, .raw (.int .u8 (27 : UInt8).toNat), .fn 205 [] []] [rdr b n] (.ret (.tup [.raw (.string ⟨#[]⟩), rI e])) [rdr b n] := by
  rcases rdP_er h with ⟨h1, h2, rfl⟩ | ⟨h1, rfl⟩
  · cases h2
  · rw [if_neg h1, if_neg (fun q => h1 q.1)] at hr
    exact hr
 refine pe_seal (Nat.le_refl _) ?_
 refine runE mixed fi148 ?_
 refine effE mixed [0] (hr') ?_; trivial
theorem roct_ok (b : List UInt8) (n : Nat) (hn : n ≤ b.length) (hb : b.length ≤ 1099511627776) {v : List UInt8} {k : Nat} (h : octP (b.drop n) = .ok (v, k)) : PE Tryz.prog 238 [.ptr 0 0] [rdr b n] (.ret (.tup [.isl .u8 v, rI 0])) [rdr b (n + k)] := by
 obtain ⟨h1, h2, rfl⟩ := rdP_ok h
 have hr := read_bytes 270 4 b n hn hb _ _ (oct1_c (takeC (b.drop n)) (tkC_le hb)) ⟨.bool true, .inr ⟨_, rfl⟩⟩
 rw [if_pos h1, if_pos rfl, if_pos ⟨h1, rfl⟩] at hr
 cases h2
 refine pe_seal (Nat.le_refl _) ?_
 refine runE mixed fi238 ?_
 refine effE mixed [0] (hr) ?_; trivial
theorem roct_er (b : List UInt8) (n : Nat) (hn : n ≤ b.length) (hb : b.length ≤ 1099511627776) {e : Nat} (h : octP (b.drop n) = .error e) : PE Tryz.prog 238 [.ptr 0 0] [rdr b n] (.ret (.tup [.isl .u8 [], rI e])) [rdr b n] := by
 have hr := read_bytes 270 4 b n hn hb _ _ (oct1_c (takeC (b.drop n)) (tkC_le hb)) ⟨.bool true, .inr ⟨_, rfl⟩⟩
 have hr' : PE Tryz.prog 269 [.ptr 0 0, .raw (.int .u8 (4 : UInt8).toNat), .fn 270 [] []] [rdr b n] (.ret (.tup [.isl .u8 [], rI e])) [rdr b n] := by
  rcases rdP_er h with ⟨h1, h2, rfl⟩ | ⟨h1, rfl⟩
  · cases h2
  · rw [if_neg h1, if_neg (fun q => h1 q.1)] at hr
    exact hr
 refine pe_seal (Nat.le_refl _) ?_
 refine runE mixed fi238 ?_
 refine effE mixed [0] (hr') ?_; trivial
theorem readr_ok (tag : UInt8) (b : List UInt8) (n : Nat) (hn : n ≤ b.length) (hb : b.length ≤ 1099511627776) (h : takeE tag (b.drop n) = 0) :
 PE Tryz.prog 245 [.ptr 0 0, .raw (.int .u8 tag.toNat), .fn 246 [] []] [rdr b n] (.ret (.tup [.ptr 1 0, rI 0])) [rdr b (n + takeN (b.drop n)), rdr (takeC (b.drop n)) 0] := by
 have ht := take_c tag b n hn hb
 rw [if_pos h, if_pos h, h] at ht
 generalize takeC (b.drop n) = c at *
 generalize takeN (b.drop n) = k at *
 refine pe_seal (by simp) ?_
 refine runE mixed fi245 ?_
 refine effE mixed [0] (ht) ?_
 refine effE mixed [] (contained_c c) ?_; trivial
theorem readr_er (tag : UInt8) (b : List UInt8) (n : Nat) (hn : n ≤ b.length) (hb : b.length ≤ 1099511627776) (h : takeE tag (b.drop n) ≠ 0) :
 PE Tryz.prog 245 [.ptr 0 0, .raw (.int .u8 tag.toNat), .fn 246 [] []] [rdr b n] (.ret (.tup [.raw (.pointer none), rI (takeE tag (b.drop n))])) [rdr b n] := by
 have ht := take_c tag b n hn hb
 rw [if_neg h, if_neg h] at ht
 generalize takeE tag (b.drop n) = e at *
 refine pe_seal (by simp) ?_
 refine runE mixed fi245 ?_
 refine effE mixed [0] (ht) ?_
 exact ⟨fun _ => trivial, fun h0 => absurd (by omega) h⟩
theorem rseq_ok (b : List UInt8) (n : Nat) (hn : n ≤ b.length) (hb : b.length ≤ 1099511627776) (h : takeE 48 (b.drop n) = 0) :
 PE Tryz.prog 199 [.ptr 0 0] [rdr b n] (.ret (.tup [.ptr 1 0, rI 0])) [rdr b (n + takeN (b.drop n)), rdr (takeC (b.drop n)) 0] := by
 have hr := readr_ok 48 b n hn hb h
 refine pe_seal (by simp) ?_
 refine runE mixed fi199 ?_
 refine effE mixed [0] (hr) ?_; trivial
theorem rseq_er (b : List UInt8) (n : Nat) (hn : n ≤ b.length) (hb : b.length ≤ 1099511627776) (h : takeE 48 (b.drop n) ≠ 0) :
 PE Tryz.prog 199 [.ptr 0 0] [rdr b n] (.ret (.tup [.raw (.pointer none), rI (takeE 48 (b.drop n))])) [rdr b n] := by
 have hr := readr_er 48 b n hn hb h
 refine pe_seal (by simp) ?_
 refine runE mixed fi199 ?_
 refine effE mixed [0] (hr) ?_; trivial
theorem tag_wr {m : Nat} (hm : m ≤ 30) : IntKind.u8.wrap (IntKind.i64.wrap (160 + (m : Int))) = ((tagB m).toNat : Int) := by
 rw [wrapi (by omega)]
 exact (byte_ob _).symm
theorem nextB_iff {m : Nat} {r : List UInt8} : nextB m r = true ↔ ¬ ((r.length : Int) = 0) ∧ ((r.getD 0 Ty.u8.dflt).toNat : Int) = ((tagB m).toNat : Int) := by
 unfold nextB
 simp only [Bool.and_eq_true, decide_eq_true_eq, ne_eq]
 constructor
 · rintro ⟨h1, h2⟩
   exact ⟨by omega, by rw [show r.getD 0 Ty.u8.dflt = tagB m from h2]⟩
 · rintro ⟨h1, h2⟩
   exact ⟨by omega, UInt8.toNat_inj.1 (by exact_mod_cast h2)⟩
theorem nextB_no {m : Nat} {r : List UInt8} (h : nextB m r = false) (h1 : ¬ ((r.length : Int) = 0)) : ¬ ((r.getD 0 Ty.u8.dflt).toNat : Int) = ((tagB m).toNat : Int) := fun h2 => by
 rw [nextB_iff.2 ⟨h1, h2⟩] at h; cases h
theorem rtag_no (m : Nat) (hm : m ≤ 30) (b : List UInt8) (n : Nat) (hn : n ≤ b.length) (h : nextB m (b.drop n) = false) :
 PE Tryz.prog 247 [.ptr 0 0, rI m] [rdr b n] (.ret (.tup [.raw (.pointer none), rB false, rI 0])) [rdr b n] := by
 have hr := rest_c b n hn
 have hu := tag_wr hm
 have hx := nextB_no h
 generalize b.drop n = r at *
 refine pe_seal (by simp) ?_
 refine runE mixed fi247 ?_
 refine ⟨fun _ => ⟨fun h30 => absurd h30 (by omega), fun _ => ?_⟩, fun hneg => by exfalso; omega⟩
 refine callI_eff [0] (hr) rfl (by decide) (by repeat first | exact trivial | exact rfl | refine And.intro ?_ ?_) rfl rfl ?_
 simp only [afterO, Out.ren, SV.ren, mgA, sig, SObj.ren, SV.renL, List.set, List.map, List.append_nil, hu]
 refine run_sound mixed 600 _ ?_
 with_reducible refine sx1 hu ?_
 exact ⟨fun h0 => ⟨by omega, fun _ => trivial, fun h1 => absurd h1 (hx h0)⟩, fun _ => trivial⟩
theorem rtag_ok (m : Nat) (hm : m ≤ 30) (b : List UInt8) (n : Nat) (hn : n ≤ b.length) (hb : b.length ≤ 1099511627776) (h : nextB m (b.drop n) = true) (ht : takeE (tagB m) (b.drop n) = 0) :
 PE Tryz.prog 247 [.ptr 0 0, rI m] [rdr b n] (.ret (.tup [.ptr 1 0, rB true, rI 0])) [rdr b (n + takeN (b.drop n)), rdr (takeC (b.drop n)) 0] := by
 have hr := rest_c b n hn
 have hd := readr_ok (tagB m) b n hn hb ht
 have hu := tag_wr hm
 obtain ⟨hx1, hx2⟩ := nextB_iff.1 h
 generalize takeC (b.drop n) = c at *
 generalize takeN (b.drop n) = k at *
 generalize b.drop n = r at *
 refine pe_seal (by simp) ?_
 refine runE mixed fi247 ?_
 refine ⟨fun _ => ⟨fun h30 => absurd h30 (by omega), fun _ => ?_⟩, fun hneg => by exfalso; omega⟩
 refine callI_eff [0] (hr) rfl (by decide) (by repeat first | exact trivial | exact rfl | refine And.intro ?_ ?_) rfl rfl ?_
 simp only [afterO, Out.ren, SV.ren, mgA, sig, SObj.ren, SV.renL, List.set, List.map, List.append_nil, hu]
 refine run_sound mixed 600 _ ?_
 with_reducible refine sx1 hu ?_
 refine ⟨fun h0 => ⟨by omega, fun h1 => absurd hx2 h1, fun _ => ?_⟩, fun h0 => absurd h0 hx1⟩
 refine effE mixed [0] (hd) ?_; trivial
theorem rtag_er (m : Nat) (hm : m ≤ 30) (b : List UInt8) (n : Nat) (hn : n ≤ b.length) (hb : b.length ≤ 1099511627776) (h : nextB m (b.drop n) = true) (ht : takeE (tagB m) (b.drop n) ≠ 0) :
 PE Tryz.prog 247 [.ptr 0 0, rI m] [rdr b n] (.ret (.tup [.raw (.pointer none), rB false, rI (takeE (tagB m) (b.drop n))])) [rdr b n] := by
 have hr := rest_c b n hn
 have hd := readr_er (tagB m) b n hn hb ht
 have hu := tag_wr hm
 obtain ⟨hx1, hx2⟩ := nextB_iff.1 h
 generalize takeE (tagB m) (b.drop n) = e at *
 generalize b.drop n = r at *
 refine pe_seal (by simp) ?_
 refine runE mixed fi247 ?_
 refine ⟨fun _ => ⟨fun h30 => absurd h30 (by omega), fun _ => ?_⟩, fun hneg => by exfalso; omega⟩
 refine callI_eff [0] (hr) rfl (by decide) (by repeat first | exact trivial | exact rfl | refine And.intro ?_ ?_) rfl rfl ?_
 simp only [afterO, Out.ren, SV.ren, mgA, sig, SObj.ren, SV.renL, List.set, List.map, List.append_nil, hu]
 refine run_sound mixed 600 _ ?_
 with_reducible refine sx1 hu ?_
 refine ⟨fun h0 => ⟨by omega, fun h1 => absurd hx2 h1, fun _ => ?_⟩, fun h0 => absurd h0 hx1⟩
 refine effE mixed [0] (hd) ?_
 exact fun q => ht (by omega)
end Go.Proofs.YtddmkgibghohkaaGreatDoor
namespace Go.Sx
open Go
variable {P : Program} {AQ : Ex → List SV → List SObj → Prop} {k0 : Nat} {k : List IT} {t : List SV} {H : List SObj}

structure Cln (cs : List SV) : Prop where
 ren : ∀ σ, SV.renL σ cs = cs
 bel : ∀ n, SV.belL n cs = true
 shut : ∀ n H, SV.sealBL n H cs = some (cs, True)
 le : SV.leAL cs cs
theorem cln_nil : Cln [] := ⟨fun _ => by rw [SV.renL], fun _ => by rw [SV.belL], fun _ _ => by rw [SV.sealBL], by rw [leAL_nil]; trivial⟩
theorem cln_raw {v : Value} {cs : List SV} (h : Cln cs) : Cln (.raw v :: cs) :=
 ⟨fun σ => by rw [SV.renL, h.ren, SV.ren], fun n => by rw [SV.belL, h.bel, SV.bel]; rfl, fun n H => by rw [SV.sealBL, h.shut, SV.sealB]; simp, by rw [leAL_cons]; exact ⟨by rw [leA_raw], h.le⟩⟩
theorem cln_isl {t : Ty} {xs : List t.den} {cs : List SV} (h : Cln cs) : Cln (.isl t xs :: cs) :=
 ⟨fun σ => by rw [SV.renL, h.ren, SV.ren], fun n => by rw [SV.belL, h.bel, SV.bel]; rfl, fun n H => by rw [SV.sealBL, h.shut, SV.sealB]; simp, by rw [leAL_cons]; exact ⟨by rw [leA_isl], h.le⟩⟩
theorem cln_fn {f : Nat} {cs : List SV} (h : Cln cs) : Cln (.fn f [] [] :: cs) :=
 ⟨fun σ => by rw [SV.renL, h.ren, SV.ren, SV.renL], fun n => by rw [SV.belL, h.bel, SV.bel]; rfl, fun n H => by rw [SV.sealBL, h.shut, SV.sealB]; simp [SV.sealBL], by rw [leAL_cons]; exact ⟨by rw [leA_fn]; exact ⟨rfl, rfl, rfl⟩, h.le⟩⟩
theorem cln_cells : ∀ (t : Ty) (x : t.den) {cs : List SV}, Cln cs → Cln (t.cells x ++ cs)
 | .u8, _, _, h => cln_raw h
 | .int _, _, _, h => cln_raw h
 | .bool, _, _, h => cln_raw h
 | .str, _, _, h => cln_raw h
 | .slice _, _, _, h => cln_isl h
 | .prod a b, x, _, h => by rw [Ty.cells, List.append_assoc]; exact cln_cells a x.1 (cln_cells b x.2 h)
 | .unit, _, _, h => h
theorem cln_ty (t : Ty) (x : t.den) : Cln (t.cells x) := by have := cln_cells t x cln_nil; rwa [List.append_nil] at this
theorem sealHL_nil {n : Nat} {l : List SObj} : sealHL n H l [] = True := by simp [sealHL]
theorem sealHL_dead {n : Nat} {o : SObj} {l l' : List SObj} : sealHL n H (o :: l) (.dead :: l') = sealHL n H l l' := by cases o <;> simp [sealHL]
attribute [go_sem] sealHL_nil sealHL_dead
end Go.Sx
/- Contracts: reading that leaves by a panic. -/
namespace Go.Proofs.YtddmkgibghohkaaGreatDoor
open Go Go.Sx Go.Proofs
set_option maxRecDepth 100000
set_option maxHeartbeats 4000000
set_option linter.unusedSimpArgs false

@[go_sem] abbrev wrongV : SV := .iface 170 (.agg [rI 6])
theorem require_t : PC Tryz.prog 140 [.raw (.bool true)] (.tup []) := by
 refine pc_of rfl rfl ?_
 refine runE mixed fi140 ?_; trivial
theorem require_f : PE Tryz.prog 140 [.raw (.bool false)] [] (.pan wrongV) [] := by
 refine pe_seal (by simp) ?_
 refine runE mixed fi140 ?_; trivial
theorem callI_require {AQ : Ex → List SV → List SObj → Prop} {x : Bool} {d : Option Tmp} {m : IM} (h1 : x = true → SoundI Tryz.prog AQ { m with tmps := putT m.tmps d (.tup []) }) (h2 : x = false → AQ (.pan wrongV) m.tmps m.heap) :
 CallI Tryz.prog AQ 140 [.raw (.bool x)] d m := by
 cases x with
 | true => exact callI_pure require_t (h1 rfl)
 | false =>
  refine callI_eff [] require_f rfl (by decide) trivial rfl rfl ?_
  have : mgA (sig [] m.heap.length) [] [] m.heap = m.heap := by simp [mgA]
  rw [this]
  exact h2 rfl
theorem take_int (v : Value) : PC Tryz.prog 144 [.raw v, rI 0] (.raw v) := by
 refine pc_of rfl rfl ?_
 refine runE mixed fi144 ?_
 refine callI_pure require_t ?_
 refine goE mixed ?_; trivial
theorem take_er_int (v : Value) (e : Nat) (he : e ≠ 0) : PE Tryz.prog 144 [.raw v, rI e] [] (.pan wrongV) [] := by
 refine pe_seal (by simp) ?_
 refine runE mixed fi144 ?_
 refine callI_require (fun h => absurd h (by simp; omega)) fun _ => ?_
 with_reducible refine sxE ?_; trivial
theorem take_str (v : Value) : PC Tryz.prog 147 [.raw v, rI 0] (.raw v) := by
 refine pc_of rfl rfl ?_
 refine runE mixed fi147 ?_
 refine callI_pure require_t ?_
 refine goE mixed ?_; trivial
theorem take_er_str (v : Value) (e : Nat) (he : e ≠ 0) : PE Tryz.prog 147 [.raw v, rI e] [] (.pan wrongV) [] := by
 refine pe_seal (by simp) ?_
 refine runE mixed fi147 ?_
 refine callI_require (fun h => absurd h (by simp; omega)) fun _ => ?_
 with_reducible refine sxE ?_; trivial
theorem take_u32 (v : Value) : PC Tryz.prog 182 [.raw v, rI 0] (.raw v) := by
 refine pc_of rfl rfl ?_
 refine runE mixed fi182 ?_
 refine callI_pure require_t ?_
 refine goE mixed ?_; trivial
theorem take_er_u32 (v : Value) (e : Nat) (he : e ≠ 0) : PE Tryz.prog 182 [.raw v, rI e] [] (.pan wrongV) [] := by
 refine pe_seal (by simp) ?_
 refine runE mixed fi182 ?_
 refine callI_require (fun h => absurd h (by simp; omega)) fun _ => ?_
 with_reducible refine sxE ?_; trivial
theorem take_bytes (v : List UInt8) : PC Tryz.prog 237 [.isl .u8 v, rI 0] (.isl .u8 v) := by
 refine pc_of rfl rfl ?_
 refine runE mixed fi237 ?_
 refine callI_pure require_t ?_
 refine goE mixed ?_; trivial
theorem take_er_bytes (e : Nat) (he : e ≠ 0) : PE Tryz.prog 237 [.isl .u8 [], rI e] [] (.pan wrongV) [] := by
 refine pe_seal (by simp) ?_
 refine runE mixed fi237 ?_
 refine callI_require (fun h => absurd h (by simp; omega)) fun _ => ?_
 with_reducible refine sxE ?_; trivial
theorem take_rdr (b : List UInt8) (n : Nat) : PE Tryz.prog 198 [.ptr 0 0, rI 0] [rdr b n] (.ret (.ptr 0 0)) [rdr b n] := by
 refine pe_seal (by simp) ?_
 refine runE mixed fi198 ?_
 refine callI_pure require_t ?_
 refine goE mixed ?_; trivial
theorem take_er_rdr (e : Nat) (he : e ≠ 0) : PE Tryz.prog 198 [.raw (.pointer none), rI e] [] (.pan wrongV) [] := by
 refine pe_seal (by simp) ?_
 refine runE mixed fi198 ?_
 refine callI_require (fun h => absurd h (by simp; omega)) fun _ => ?_
 with_reducible refine sxE ?_; trivial
theorem done_t (b : List UInt8) (n : Nat) (hn : n = b.length) : PE Tryz.prog 152 [.agg [.ptr 0 0]] [rdr b n] (.ret (.tup [])) [rdr b n] := by
 have he := end_c b n (by omega)
 rw [if_neg (by omega)] at he
 refine pe_seal (by simp) ?_
 refine runE mixed fi152 ?_
 refine effE mixed [0] (he) ?_
 refine callI_pure require_t ?_
 refine goE mixed ?_; trivial
theorem done_f (b : List UInt8) (n : Nat) (hn : n < b.length) : PE Tryz.prog 152 [.agg [.ptr 0 0]] [rdr b n] (.pan wrongV) [.dead] := by
 have he := end_c b n (by omega)
 rw [if_pos hn] at he
 refine pe_seal (by simp) ?_
 refine runE mixed fi152 ?_
 refine effE mixed [0] (he) ?_
 refine callI_require (fun h => absurd h (by simp)) fun _ => ?_
 with_reducible refine sxE ?_; trivial
end Go.Proofs.YtddmkgibghohkaaGreatDoor
