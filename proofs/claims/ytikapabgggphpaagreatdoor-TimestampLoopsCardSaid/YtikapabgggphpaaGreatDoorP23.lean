/- Contracts: the reader, what does not read. -/
import Derived.Test.YtikapabgggphpaaGreatDoorP22
import Derived.Test.YtikapabgggphpaaGreatDoorP13
import Derived.Test.YtikapabgggphpaaGreatDoorP21
set_option linter.all false
namespace Go.Proofs.YtikapabgggphpaaGreatDoor
open Go Go.Sx Go.Proofs
set_option maxRecDepth 100000
set_option maxHeartbeats 4000000
@[go_sem] abbrev rdr (b : List UInt8) (n : Nat) : SObj := .cells 111 [.isl .u8 b, rI n, .raw (.bool true)]
theorem q8I (b : List UInt8) (n : Nat) (hn : n ≤ b.length) : PE Tryz.prog 98 [.ptr 0 0] [rdr b n] (.ret (.isl .u8 (b.drop n))) [rdr b n] := by
 refine q0i (Nat.le_refl _) ?_
 refine rQ fi98 ?_
 refine ⟨⟨by omega, hn, Nat.le_refl _⟩, ?_⟩
 rw [List.take_length]
theorem q5P (b : List UInt8) (n : Nat) (hn : n ≤ b.length) : PE Tryz.prog 67 [.ptr 0 0] [rdr b n] (.ret (rI ((b.length - n : Nat) : Int))) [rdr b n] := by
 refine q0i (Nat.le_refl _) ?_
 refine rQ fi67 ?_
 refine eQ [0] (q8I b n hn) ?_
 rw [List.length_drop]
theorem z5E (b : List UInt8) (n : Nat) (hn : n ≤ b.length) : PE Tryz.prog 35 [.ptr 0 0] [rdr b n] (.ret (rI (if n < b.length then 5 else 0))) [rdr b n] := by
 refine q0i (Nat.le_refl _) ?_
 refine rQ fi35 ?_
 refine eQ [0] (q5P b n hn) ?_
 refine ⟨fun h => ?_, fun h => ?_⟩
 · rw [if_pos (by omega)]
 rw [if_neg (by omega)]
theorem z4d (b : List UInt8) : PE Tryz.prog 62 [.isl .u8 b] [] (.ret (.ptr 0 0)) [rdr b 0] := by
 refine q0i (Nat.zero_le _) ?_
 refine rQ fi62 ?_; trivial
theorem q9P (b : List UInt8) : PE Tryz.prog 101 [.isl .u8 b] [] (.ret (.tup [.ptr 0 0, rB true])) [rdr b 0] := by
 refine q0i (Nat.zero_le _) ?_
 refine rQ fi101 ?_
 refine eQ [] (z4d b) ?_; trivial
theorem z0w (tag : UInt8) (b : List UInt8) (n : Nat) (hn : n ≤ b.length) (hb : b.length ≤ 1099511627776) :
 PE Tryz.prog 133 [.ptr 0 0, .raw (.int .u8 tag.toNat)] [rdr b n] (.ret (.tup [.isl .u8 (if takeE tag (b.drop n) = 0 then takeC (b.drop n) else []), rI (takeE tag (b.drop n))])) [rdr b (if takeE tag (b.drop n) = 0 then n + takeN (b.drop n) else n)] := by
 have hr := q8I b n hn
 have hlr : (b.drop n).length = b.length - n := List.length_drop
 have hm := z2J (b.drop n) (by omega)
 have hok := @q3V tag (b.drop n)
 generalize hR : b.drop n = r at *
 have hE : takeE tag r = if r.length = 0 then 4 else if r.getD 0 0 ≠ tag then 6 else (meas r).2.2 := rfl
 refine q0i (Nat.le_refl _) ?_
 refine rQ fi133 ?_
 refine eQ [0] (hr) ?_
 refine ⟨fun h => ?_, fun h => ?_⟩
 · rw [if_pos (by omega)] at hE
   rw [hE]
   exact ⟨⟨rfl, rfl⟩, rfl⟩
 rw [if_neg (by omega)] at hE
 refine ⟨by omega, fun h2 => ?_, fun h2 => ?_⟩
 · rw [if_pos (fun e => h2 (by subst e; rfl))] at hE
   rw [hE]
   exact ⟨⟨rfl, rfl⟩, rfl⟩
 have : r.getD 0 0 = tag := by
  apply UInt8.toNat_inj.1
  have : ((r.getD 0 Ty.u8.dflt).toNat : Int) = tag.toNat := h2
  exact_mod_cast this
 rw [if_neg (by simpa using this)] at hE
 refine q0a hm ?_
 unfold measV
 refine gQ ?_
 refine ⟨fun h3 => ?_, fun h3 => ?_⟩
 · have h3' : ¬ (meas r).2.2 = 0 := by omega
   rw [hE, if_neg h3', if_neg h3']
   exact ⟨⟨rfl, rfl⟩, rfl⟩
 have h3' : (meas r).2.2 = 0 := by omega
 have hk := z4i h3'
 rw [hE, if_pos h3', if_pos h3', wrapi (by omega), h3']
 exact ⟨⟨by omega, hk.2.1, Nat.le_refl _, hk.2.2⟩, ⟨rfl, rfl⟩, congrArg (Value.int .i64) (by unfold takeN; omega)⟩
theorem q5h (g : Nat) (tag : UInt8) (b : List UInt8) (n : Nat) (hn : n ≤ b.length) (hb : b.length ≤ 1099511627776) (v : SV) (right : Bool) (hg : PC Tryz.prog g [.isl .u8 (takeC (b.drop n))] (.tup [v, rB right])) (hv : ∃ u, (v = .raw u) ∨ ∃ xs, v = .isl .u8 xs) :
 PE Tryz.prog 103 [.ptr 0 0, .raw (.int .u8 tag.toNat), .fn g [] []] [rdr b n] (.ret (if takeE tag (b.drop n) = 0 then (if right then .tup [v, rI 0] else .tup [.raw (.int .i64 0), rI 6]) else .tup [.raw (.int .i64 0), rI (takeE tag (b.drop n))])) [rdr b (if takeE tag (b.drop n) = 0 ∧ right = true then n + takeN (b.drop n) else n)] := by
 have ht := z0w tag b n hn hb
 generalize takeE tag (b.drop n) = e at *
 generalize takeC (b.drop n) = c at *
 generalize takeN (b.drop n) = k at *
 refine q0i (Nat.le_refl _) ?_
 refine rQ fi103 ?_
 refine eQ [0] (ht) ?_
 refine ⟨fun h => ?_, fun h => ?_⟩
 · have h' : ¬ e = 0 := by omega
   simp only [if_neg h', h', false_and, if_false]
   with_reducible refine sxE ?_; trivial
 obtain rfl : e = 0 := by omega
 simp only [true_and, if_true]
 refine q0a hg ?_
 obtain ⟨u, rfl | ⟨xs, rfl⟩⟩ := hv
 · cases right
   · refine uQ 600 _ ?_
     simp (maxSteps := 3000000) only [Bool.false_eq_true, if_false, go_sem, ↓zA, ↓reduceIte, ↓reduceDIte] <;> try simp only [zB]
   refine gQ ?_; trivial
 cases right
 · refine uQ 600 _ ?_
   simp (maxSteps := 3000000) only [Bool.false_eq_true, if_false, go_sem, ↓zA, ↓reduceIte, ↓reduceDIte] <;> try simp only [zB]
 refine gQ ?_; trivial
theorem q6t (g : Nat) (tag : UInt8) (b : List UInt8) (n : Nat) (hn : n ≤ b.length) (hb : b.length ≤ 1099511627776) (v : SV) (right : Bool) (hg : PC Tryz.prog g [.isl .u8 (takeC (b.drop n))] (.tup [v, rB right])) (hv : ∃ u, (v = .raw u) ∨ ∃ xs, v = .isl .u8 xs) :
 PE Tryz.prog 131 [.ptr 0 0, .raw (.int .u8 tag.toNat), .fn g [] []] [rdr b n] (.ret (if takeE tag (b.drop n) = 0 then (if right then .tup [v, rI 0] else .tup [.isl .u8 [], rI 6]) else .tup [.isl .u8 [], rI (takeE tag (b.drop n))])) [rdr b (if takeE tag (b.drop n) = 0 ∧ right = true then n + takeN (b.drop n) else n)] := by
 have ht := z0w tag b n hn hb
 generalize takeE tag (b.drop n) = e at *
 generalize takeC (b.drop n) = c at *
 generalize takeN (b.drop n) = k at *
 refine q0i (Nat.le_refl _) ?_
 refine rQ fi131 ?_
 refine eQ [0] (ht) ?_
 refine ⟨fun h => ?_, fun h => ?_⟩
 · have h' : ¬ e = 0 := by omega
   simp only [if_neg h', h', false_and, if_false]
   with_reducible refine sxE ?_; trivial
 obtain rfl : e = 0 := by omega
 simp only [true_and, if_true]
 refine q0a hg ?_
 obtain ⟨u, rfl | ⟨xs, rfl⟩⟩ := hv
 · cases right
   · refine uQ 600 _ ?_
     simp (maxSteps := 3000000) only [Bool.false_eq_true, if_false, go_sem, ↓zA, ↓reduceIte, ↓reduceDIte] <;> try simp only [zB]
   refine gQ ?_; trivial
 cases right
 · refine uQ 600 _ ?_
   simp (maxSteps := 3000000) only [Bool.false_eq_true, if_false, go_sem, ↓zA, ↓reduceIte, ↓reduceDIte] <;> try simp only [zB]
 refine gQ ?_; trivial
def inR (v lo hi : Int) : Bool := decide (lo ≤ v) && decide (v ≤ hi)
theorem z3k {xs ys : List UInt8} : strOf xs = strOf ys ↔ xs = ys := by
 constructor
 · intro h
   have := congrArg (fun s : ByteArray => s.data.toList) h
   simpa [strOf] using this
 rintro rfl; rfl
end Go.Proofs.YtikapabgggphpaaGreatDoor
