/- The plain law of reading: parsers over bytes, and what they make of encodings. -/
import Derived.Test.YtoeieekegmmdkaaGreatDoorP16
import Derived.Test.YtoeieekegmmdkaaGreatDoorP10
import Derived.Test.YtoeieekegmmdkaaGreatDoorP14
set_option linter.unusedSimpArgs false
set_option linter.unusedVariables false
set_option linter.unusedSectionVars false
namespace Go.Proofs.YtoeieekegmmdkaaGreatDoor
open Go Go.Sx Go.Proofs
set_option maxRecDepth 100000
set_option maxHeartbeats 4000000
set_option linter.unusedSimpArgs false

def takeE (tag : UInt8) (r : List UInt8) : Nat := if r.length = 0 then 4 else if r.getD 0 0 ≠ tag then 6 else (meas r).2.2
def takeC (r : List UInt8) : List UInt8 := (r.take (meas r).2.1).drop (meas r).1
def takeN (r : List UInt8) : Nat := (meas r).2.1
theorem meas_ok {r : List UInt8} (h : (meas r).2.2 = 0) : 2 ≤ (meas r).1 ∧ (meas r).1 ≤ (meas r).2.1 ∧ (meas r).2.1 ≤ r.length := by
 have key : ∀ a n, (measE r a n).2.2 = 0 → 2 ≤ a → a ≤ r.length → 2 ≤ (measE r a n).1 ∧ (measE r a n).1 ≤ (measE r a n).2.1 ∧ (measE r a n).2.1 ≤ r.length := by
  intro a n h1 h2 h3
  unfold measE at h1 ⊢
  split at h1
  · cases h1
  · rename_i hh; rw [if_neg hh]; simp only; omega
 unfold meas at h ⊢
 repeat' split at h
 all_goals first | (cases h; done) | skip
 · rename_i g1 g2; rw [if_neg g1, if_pos g2]; exact key _ _ h (by omega) (by omega)
 · rename_i g1 g2 g3 g4 g5; rw [if_neg g1, if_neg g2, if_neg g3, if_neg g4, if_neg g5]; exact key _ _ h (by omega) (by omega)
theorem takeE_ok {t : UInt8} {r : List UInt8} (h : takeE t r = 0) : (meas r).2.2 = 0 := by
 unfold takeE at h
 split at h
 · cases h
 · split at h
   · cases h
   · exact h
theorem takeN_le {t : UInt8} {r : List UInt8} (h : takeE t r = 0) : takeN r ≤ r.length := (meas_ok (takeE_ok h)).2.2
theorem takeN_pos {t : UInt8} {r : List UInt8} (h : takeE t r = 0) : 2 ≤ takeN r := by have := meas_ok (takeE_ok h); unfold takeN; omega
theorem takeC_len (r : List UInt8) : (takeC r).length ≤ r.length := by unfold takeC; rw [List.length_drop, List.length_take]; omega

abbrev PR (α : Type) := List UInt8 → Except Nat (α × Nat)
def rdP {α : Type} (tag : UInt8) (dec : List UInt8 → Option α) : PR α := fun r =>
 if takeE tag r = 0 then match dec (takeC r) with
  | some v => .ok (v, takeN r)
  | none => .error 6
 else .error (takeE tag r)
def allP {α : Type} (p : PR α) (c : List UInt8) : Except Nat α := match p c with
 | .error e => .error e
 | .ok (v, m) => if m < c.length then .error 6 else .ok v
def inP {α : Type} (tag : UInt8) (p : PR α) : PR α := fun r =>
 if takeE tag r = 0 then match allP p (takeC r) with
  | .ok v => .ok (v, takeN r)
  | .error e => .error e
 else .error (takeE tag r)
def tagB (n : Nat) : UInt8 := byteOf (160 + n)
def nextB (n : Nat) (r : List UInt8) : Bool := decide (r.length ≠ 0) && decide (r.getD 0 0 = tagB n)
def mayP {α : Type} (n : Nat) (p : PR α) : PR (Option α) := fun r =>
 if nextB n r then match inP (tagB n) p r with
  | .ok (v, k) => .ok (some v, k)
  | .error e => .error e
 else .ok (none, 0)
def needP {α : Type} (n : Nat) (p : PR α) : PR α := fun r =>
 if nextB n r then inP (tagB n) p r else .error (if r.length = 0 then 4 else 6)
def dfltP {α : Type} (d : α) (n : Nat) (p : PR α) : PR α := fun r => match mayP n p r with
 | .ok (some v, k) => .ok (v, k)
 | .ok (none, k) => .ok (d, k)
 | .error e => .error e
def bindP {α β : Type} (p : PR α) (f : α → PR β) : PR β := fun r => match p r with
 | .error e => .error e
 | .ok (v, k) => match f v (r.drop k) with
  | .error e => .error e
  | .ok (u, m) => .ok (u, k + m)
def retP {α : Type} (v : α) : PR α := fun _ => .ok (v, 0)
def listP {α : Type} (p : PR α) : Nat → PR (List α)
 | 0, r => if r.length = 0 then .ok ([], 0) else .error 6
 | n + 1, r => if r.length = 0 then .ok ([], 0) else match p r with
  | .error e => .error e
  | .ok (v, k) => match listP p n (r.drop k) with
   | .error e => .error e
   | .ok (l, m) => .ok (v :: l, k + m)

theorem dfltP_none {α : Type} {d : α} {n : Nat} {p : PR α} {r : List UInt8} (h : nextB n r = false) : dfltP d n p r = .ok (d, 0) := by
 unfold dfltP mayP
 rw [h]; rfl
end Go.Proofs.YtoeieekegmmdkaaGreatDoor

/- Contracts: the reader, what does not read. -/
namespace Go.Proofs.YtoeieekegmmdkaaGreatDoor
open Go Go.Sx Go.Proofs
set_option maxRecDepth 100000
set_option maxHeartbeats 4000000
set_option linter.unusedSimpArgs false

@[go_sem] abbrev rdr (b : List UInt8) (n : Nat) : SObj := .cells 165 [.isl .u8 b, rI n, .raw (.bool true)]
theorem rest_c (b : List UInt8) (n : Nat) (hn : n ≤ b.length) : PE Tryz.prog 162 [.ptr 0 0] [rdr b n] (.ret (.isl .u8 (b.drop n))) [rdr b n] := by
 refine pe_seal (Nat.le_refl _) ?_
 refine runE mixed fi162 ?_
 refine ⟨⟨by omega, hn, Nat.le_refl _⟩, ?_⟩
 rw [List.take_length]
theorem left_c (b : List UInt8) (n : Nat) (hn : n ≤ b.length) : PE Tryz.prog 134 [.ptr 0 0] [rdr b n] (.ret (rI ((b.length - n : Nat) : Int))) [rdr b n] := by
 refine pe_seal (Nat.le_refl _) ?_
 refine runE mixed fi134 ?_
 refine effE mixed [0] (rest_c b n hn) ?_
 rw [List.length_drop]
theorem end_c (b : List UInt8) (n : Nat) (hn : n ≤ b.length) : PE Tryz.prog 114 [.ptr 0 0] [rdr b n] (.ret (rI (if n < b.length then 5 else 0))) [rdr b n] := by
 refine pe_seal (Nat.le_refl _) ?_
 refine runE mixed fi114 ?_
 refine effE mixed [0] (left_c b n hn) ?_
 refine ⟨fun h => ?_, fun h => ?_⟩
 · rw [if_pos (by omega)]
 · rw [if_neg (by omega)]
theorem inner_c (b : List UInt8) : PE Tryz.prog 112 [.isl .u8 b] [] (.ret (.ptr 0 0)) [rdr b 0] := by
 refine pe_seal (Nat.zero_le _) ?_
 refine runE mixed fi112 ?_; trivial
theorem contained_c (b : List UInt8) : PE Tryz.prog 127 [.isl .u8 b] [] (.ret (.tup [.ptr 0 0, rB true])) [rdr b 0] := by
 refine pe_seal (Nat.zero_le _) ?_
 refine runE mixed fi127 ?_
 refine effE mixed [] (inner_c b) ?_; trivial
theorem take_c (tag : UInt8) (b : List UInt8) (n : Nat) (hn : n ≤ b.length) (hb : b.length ≤ 1099511627776) :
 PE Tryz.prog 161 [.ptr 0 0, .raw (.int .u8 tag.toNat)] [rdr b n] (.ret (.tup [.isl .u8 (if takeE tag (b.drop n) = 0 then takeC (b.drop n) else []), rI (takeE tag (b.drop n))])) [rdr b (if takeE tag (b.drop n) = 0 then n + takeN (b.drop n) else n)] := by
 have hr := rest_c b n hn
 have hlr : (b.drop n).length = b.length - n := List.length_drop
 have hm := measure_c (b.drop n) (by omega)
 have hok := @takeN_le tag (b.drop n)
 generalize hR : b.drop n = r at *
 have hE : takeE tag r = if r.length = 0 then 4 else if r.getD 0 0 ≠ tag then 6 else (meas r).2.2 := rfl
 refine pe_seal (Nat.le_refl _) ?_
 refine runE mixed fi161 ?_
 refine effE mixed [0] (hr) ?_
 refine ⟨fun h => ?_, fun h => ?_⟩
 · rw [if_pos (by omega)] at hE
   rw [hE]
   exact ⟨⟨rfl, rfl⟩, rfl⟩
 rw [if_neg (by omega)] at hE
 refine ⟨by omega, fun h2 => ?_, fun h2 => ?_⟩
 · rw [if_pos (fun e => h2 (by subst e; rfl))] at hE
   rw [hE]
   exact ⟨⟨rfl, rfl⟩, rfl⟩
 · have : r.getD 0 0 = tag := by
    apply UInt8.toNat_inj.1
    have : ((r.getD 0 Ty.u8.dflt).toNat : Int) = tag.toNat := h2
    exact_mod_cast this
   rw [if_neg (by simpa using this)] at hE
   refine callI_pure hm ?_
   unfold measV
   refine goE mixed ?_
   refine ⟨fun h3 => ?_, fun h3 => ?_⟩
   · have h3' : ¬ (meas r).2.2 = 0 := by omega
     rw [hE, if_neg h3', if_neg h3']
     exact ⟨⟨rfl, rfl⟩, rfl⟩
   · have h3' : (meas r).2.2 = 0 := by omega
     have hk := meas_ok h3'
     rw [hE, if_pos h3', if_pos h3', wrapi (by omega), h3']
     exact ⟨⟨by omega, hk.2.1, Nat.le_refl _, hk.2.2⟩, ⟨rfl, rfl⟩, congrArg (Value.int .i64) (by unfold takeN; omega)⟩
theorem read_int (g : Nat) (tag : UInt8) (b : List UInt8) (n : Nat) (hn : n ≤ b.length) (hb : b.length ≤ 1099511627776) (v : SV) (right : Bool) (hg : PC Tryz.prog g [.isl .u8 (takeC (b.drop n))] (.tup [v, rB right])) (hv : ∃ u, (v = .raw u) ∨ ∃ xs, v = .isl .u8 xs) :
 PE Tryz.prog 128 [.ptr 0 0, .raw (.int .u8 tag.toNat), .fn g [] []] [rdr b n] (.ret (if takeE tag (b.drop n) = 0 then (if right then .tup [v, rI 0] else .tup [.raw (.int .i64 0), rI 6]) else .tup [.raw (.int .i64 0), rI (takeE tag (b.drop n))])) [rdr b (if takeE tag (b.drop n) = 0 ∧ right = true then n + takeN (b.drop n) else n)] := by
 have ht := take_c tag b n hn hb
 generalize takeE tag (b.drop n) = e at *
 generalize takeC (b.drop n) = c at *
 generalize takeN (b.drop n) = k at *
 refine pe_seal (Nat.le_refl _) ?_
 refine runE mixed fi128 ?_
 refine effE mixed [0] (ht) ?_
 refine ⟨fun h => ?_, fun h => ?_⟩
 · have h' : ¬ e = 0 := by omega
   simp only [if_neg h', h', false_and, if_false]
   with_reducible refine sxE ?_; trivial
 · obtain rfl : e = 0 := by omega
   simp only [true_and, if_true]
   refine callI_pure hg ?_
   obtain ⟨u, rfl | ⟨xs, rfl⟩⟩ := hv
   · cases right
     · refine run_sound mixed 600 _ ?_
       simp (maxSteps := 3000000) only [Bool.false_eq_true, if_false, go_sem, ↓zA, ↓reduceIte, ↓reduceDIte, reduceCtorEq, Nat.reduceAdd, Nat.reduceSub, Nat.reduceLeDiff, Nat.reduceLT, Nat.reduceEqDiff, Nat.reduceBEq, Nat.reduceMul, Int.reduceToNat, Int.reduceEq, Int.reduceLT, Int.reduceLE] <;> try simp only [zB]
     · refine goE mixed ?_; trivial
   · cases right
     · refine run_sound mixed 600 _ ?_
       simp (maxSteps := 3000000) only [Bool.false_eq_true, if_false, go_sem, ↓zA, ↓reduceIte, ↓reduceDIte, reduceCtorEq, Nat.reduceAdd, Nat.reduceSub, Nat.reduceLeDiff, Nat.reduceLT, Nat.reduceEqDiff, Nat.reduceBEq, Nat.reduceMul, Int.reduceToNat, Int.reduceEq, Int.reduceLT, Int.reduceLE] <;> try simp only [zB]
     · refine goE mixed ?_; trivial
theorem read_str (g : Nat) (tag : UInt8) (b : List UInt8) (n : Nat) (hn : n ≤ b.length) (hb : b.length ≤ 1099511627776) (v : SV) (right : Bool) (hg : PC Tryz.prog g [.isl .u8 (takeC (b.drop n))] (.tup [v, rB right])) (hv : ∃ u, (v = .raw u) ∨ ∃ xs, v = .isl .u8 xs) :
 PE Tryz.prog 195 [.ptr 0 0, .raw (.int .u8 tag.toNat), .fn g [] []] [rdr b n] (.ret (if takeE tag (b.drop n) = 0 then (if right then .tup [v, rI 0] else .tup [.raw (.string ⟨#[]⟩), rI 6]) else .tup [.raw (.string ⟨#[]⟩), rI (takeE tag (b.drop n))])) [rdr b (if takeE tag (b.drop n) = 0 ∧ right = true then n + takeN (b.drop n) else n)] := by
 have ht := take_c tag b n hn hb
 generalize takeE tag (b.drop n) = e at *
 generalize takeC (b.drop n) = c at *
 generalize takeN (b.drop n) = k at *
 refine pe_seal (Nat.le_refl _) ?_
 refine runE mixed fi195 ?_
 refine effE mixed [0] (ht) ?_
 refine ⟨fun h => ?_, fun h => ?_⟩
 · have h' : ¬ e = 0 := by omega
   simp only [if_neg h', h', false_and, if_false]
   with_reducible refine sxE ?_; trivial
 · obtain rfl : e = 0 := by omega
   simp only [true_and, if_true]
   refine callI_pure hg ?_
   obtain ⟨u, rfl | ⟨xs, rfl⟩⟩ := hv
   · cases right
     · refine run_sound mixed 600 _ ?_
       simp (maxSteps := 3000000) only [Bool.false_eq_true, if_false, go_sem, ↓zA, ↓reduceIte, ↓reduceDIte, reduceCtorEq, Nat.reduceAdd, Nat.reduceSub, Nat.reduceLeDiff, Nat.reduceLT, Nat.reduceEqDiff, Nat.reduceBEq, Nat.reduceMul, Int.reduceToNat, Int.reduceEq, Int.reduceLT, Int.reduceLE] <;> try simp only [zB]
     · refine goE mixed ?_; trivial
   · cases right
     · refine run_sound mixed 600 _ ?_
       simp (maxSteps := 3000000) only [Bool.false_eq_true, if_false, go_sem, ↓zA, ↓reduceIte, ↓reduceDIte, reduceCtorEq, Nat.reduceAdd, Nat.reduceSub, Nat.reduceLeDiff, Nat.reduceLT, Nat.reduceEqDiff, Nat.reduceBEq, Nat.reduceMul, Int.reduceToNat, Int.reduceEq, Int.reduceLT, Int.reduceLE] <;> try simp only [zB]
     · refine goE mixed ?_; trivial
theorem read_u32 (g : Nat) (tag : UInt8) (b : List UInt8) (n : Nat) (hn : n ≤ b.length) (hb : b.length ≤ 1099511627776) (v : SV) (right : Bool) (hg : PC Tryz.prog g [.isl .u8 (takeC (b.drop n))] (.tup [v, rB right])) (hv : ∃ u, (v = .raw u) ∨ ∃ xs, v = .isl .u8 xs) :
 PE Tryz.prog 168 [.ptr 0 0, .raw (.int .u8 tag.toNat), .fn g [] []] [rdr b n] (.ret (if takeE tag (b.drop n) = 0 then (if right then .tup [v, rI 0] else .tup [.raw (.int .u32 0), rI 6]) else .tup [.raw (.int .u32 0), rI (takeE tag (b.drop n))])) [rdr b (if takeE tag (b.drop n) = 0 ∧ right = true then n + takeN (b.drop n) else n)] := by
 have ht := take_c tag b n hn hb
 generalize takeE tag (b.drop n) = e at *
 generalize takeC (b.drop n) = c at *
 generalize takeN (b.drop n) = k at *
 refine pe_seal (Nat.le_refl _) ?_
 refine runE mixed fi168 ?_
 refine effE mixed [0] (ht) ?_
 refine ⟨fun h => ?_, fun h => ?_⟩
 · have h' : ¬ e = 0 := by omega
   simp only [if_neg h', h', false_and, if_false]
   with_reducible refine sxE ?_; trivial
 · obtain rfl : e = 0 := by omega
   simp only [true_and, if_true]
   refine callI_pure hg ?_
   obtain ⟨u, rfl | ⟨xs, rfl⟩⟩ := hv
   · cases right
     · refine run_sound mixed 600 _ ?_
       simp (maxSteps := 3000000) only [Bool.false_eq_true, if_false, go_sem, ↓zA, ↓reduceIte, ↓reduceDIte, reduceCtorEq, Nat.reduceAdd, Nat.reduceSub, Nat.reduceLeDiff, Nat.reduceLT, Nat.reduceEqDiff, Nat.reduceBEq, Nat.reduceMul, Int.reduceToNat, Int.reduceEq, Int.reduceLT, Int.reduceLE] <;> try simp only [zB]
     · refine goE mixed ?_; trivial
   · cases right
     · refine run_sound mixed 600 _ ?_
       simp (maxSteps := 3000000) only [Bool.false_eq_true, if_false, go_sem, ↓zA, ↓reduceIte, ↓reduceDIte, reduceCtorEq, Nat.reduceAdd, Nat.reduceSub, Nat.reduceLeDiff, Nat.reduceLT, Nat.reduceEqDiff, Nat.reduceBEq, Nat.reduceMul, Int.reduceToNat, Int.reduceEq, Int.reduceLT, Int.reduceLE] <;> try simp only [zB]
     · refine goE mixed ?_; trivial
theorem read_bytes (g : Nat) (tag : UInt8) (b : List UInt8) (n : Nat) (hn : n ≤ b.length) (hb : b.length ≤ 1099511627776) (v : SV) (right : Bool) (hg : PC Tryz.prog g [.isl .u8 (takeC (b.drop n))] (.tup [v, rB right])) (hv : ∃ u, (v = .raw u) ∨ ∃ xs, v = .isl .u8 xs) :
 PE Tryz.prog 166 [.ptr 0 0, .raw (.int .u8 tag.toNat), .fn g [] []] [rdr b n] (.ret (if takeE tag (b.drop n) = 0 then (if right then .tup [v, rI 0] else .tup [.isl .u8 [], rI 6]) else .tup [.isl .u8 [], rI (takeE tag (b.drop n))])) [rdr b (if takeE tag (b.drop n) = 0 ∧ right = true then n + takeN (b.drop n) else n)] := by
 have ht := take_c tag b n hn hb
 generalize takeE tag (b.drop n) = e at *
 generalize takeC (b.drop n) = c at *
 generalize takeN (b.drop n) = k at *
 refine pe_seal (Nat.le_refl _) ?_
 refine runE mixed fi166 ?_
 refine effE mixed [0] (ht) ?_
 refine ⟨fun h => ?_, fun h => ?_⟩
 · have h' : ¬ e = 0 := by omega
   simp only [if_neg h', h', false_and, if_false]
   with_reducible refine sxE ?_; trivial
 · obtain rfl : e = 0 := by omega
   simp only [true_and, if_true]
   refine callI_pure hg ?_
   obtain ⟨u, rfl | ⟨xs, rfl⟩⟩ := hv
   · cases right
     · refine run_sound mixed 600 _ ?_
       simp (maxSteps := 3000000) only [Bool.false_eq_true, if_false, go_sem, ↓zA, ↓reduceIte, ↓reduceDIte, reduceCtorEq, Nat.reduceAdd, Nat.reduceSub, Nat.reduceLeDiff, Nat.reduceLT, Nat.reduceEqDiff, Nat.reduceBEq, Nat.reduceMul, Int.reduceToNat, Int.reduceEq, Int.reduceLT, Int.reduceLE] <;> try simp only [zB]
     · refine goE mixed ?_; trivial
   · cases right
     · refine run_sound mixed 600 _ ?_
       simp (maxSteps := 3000000) only [Bool.false_eq_true, if_false, go_sem, ↓zA, ↓reduceIte, ↓reduceDIte, reduceCtorEq, Nat.reduceAdd, Nat.reduceSub, Nat.reduceLeDiff, Nat.reduceLT, Nat.reduceEqDiff, Nat.reduceBEq, Nat.reduceMul, Int.reduceToNat, Int.reduceEq, Int.reduceLT, Int.reduceLE] <;> try simp only [zB]
     · refine goE mixed ?_; trivial
end Go.Proofs.YtoeieekegmmdkaaGreatDoor

/- Contracts: the reference's encoding. -/
namespace Go.Proofs.YtoeieekegmmdkaaGreatDoor
open Go Go.Sx Go.Proofs
set_option maxRecDepth 100000
set_option maxHeartbeats 4000000
set_option linter.unusedSimpArgs false

end Go.Proofs.YtoeieekegmmdkaaGreatDoor

/- Contracts: the reference's numbers. -/
namespace Go.Proofs.YtoeieekegmmdkaaGreatDoor
open Go Go.Sx Go.Proofs
set_option maxRecDepth 100000
set_option maxHeartbeats 4000000
set_option linter.unusedSimpArgs false

end Go.Proofs.YtoeieekegmmdkaaGreatDoor

/- Contracts: the reference on keys and principals. -/
namespace Go.Proofs.YtoeieekegmmdkaaGreatDoor
open Go Go.Sx Go.Proofs
set_option maxRecDepth 100000
set_option maxHeartbeats 4000000
set_option linter.unusedSimpArgs false

def inR (v lo hi : Int) : Bool := decide (lo ≤ v) && decide (v ≤ hi)
end Go.Proofs.YtoeieekegmmdkaaGreatDoor
/- Contracts: the reference's lists of principals. -/
namespace Go.Proofs.YtoeieekegmmdkaaGreatDoor
open Go Go.Sx Go.Proofs
set_option maxRecDepth 100000
set_option maxHeartbeats 4000000
set_option linter.unusedSimpArgs false

end Go.Proofs.YtoeieekegmmdkaaGreatDoor

