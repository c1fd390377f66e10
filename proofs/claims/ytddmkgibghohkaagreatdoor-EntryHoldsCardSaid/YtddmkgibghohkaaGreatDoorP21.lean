/- Contracts: the measure of an element. -/
import Derived.Test.YtddmkgibghohkaaGreatDoorP17
import Derived.Test.YtddmkgibghohkaaGreatDoorP19
import Derived.Test.YtddmkgibghohkaaGreatDoorP20
set_option linter.unusedSimpArgs false
set_option linter.unusedVariables false
namespace Go.Proofs.YtddmkgibghohkaaGreatDoor
open Go Go.Sx Go.Proofs
set_option maxRecDepth 100000
set_option maxHeartbeats 4000000
set_option linter.unusedSimpArgs false

def beN (l : List UInt8) : Nat := l.foldl (fun v c => v * 256 + c.toNat) 0
theorem beN_succ (l : List UInt8) (i : Nat) (h : i < l.length) : beN (l.take (i + 1)) = beN (l.take i) * 256 + (l.getD i 0).toNat := by
 unfold beN
 rw [List.take_add_one, List.foldl_append, List.getElem?_eq_getElem h, List.getD_eq_getElem?_getD, List.getElem?_eq_getElem h]
 rfl
theorem beN_lt : ∀ (l : List UInt8), beN l < 256 ^ l.length := by
 intro l
 have : ∀ (l : List UInt8) (v : Nat), l.foldl (fun v c => v * 256 + c.toNat) v < (v + 1) * 256 ^ l.length := by
  intro l
  induction l with
  | nil => intro v; simp
  | cons c l ih =>
   intro v
   have h1 := ih (v * 256 + c.toNat)
   have h2 : c.toNat < 256 := c.toNat_lt
   simp only [List.foldl_cons, List.length_cons, Nat.pow_succ]
   refine Nat.lt_of_lt_of_le h1 ?_
   have : (v * 256 + c.toNat + 1) * 256 ^ l.length ≤ ((v + 1) * 256) * 256 ^ l.length := Nat.mul_le_mul_right _ (by omega)
   calc _ ≤ _ := this
    _ = _ := by rw [Nat.mul_assoc, Nat.mul_comm 256]
 have h := this l 0
 simpa [beN] using h
theorem or_byte (v c : Nat) (hv : v < 36028797018963968) (hc : c < 256) : IntKind.i64.wrap ((BitVec.ofInt 64 ((v * 256 : Nat) : Int) ||| BitVec.ofInt 64 ((c : Nat) : Int)).toNat : Int) = ((v * 256 + c : Nat) : Int) := by
 have h1 : (BitVec.ofInt 64 ((v * 256 : Nat) : Int)).toNat = v * 256 := by rw [BitVec.ofInt_natCast, BitVec.toNat_ofNat]; exact Nat.mod_eq_of_lt (by omega)
 have h2 : (BitVec.ofInt 64 ((c : Nat) : Int)).toNat = c := by rw [BitVec.ofInt_natCast, BitVec.toNat_ofNat]; exact Nat.mod_eq_of_lt (by omega)
 have h3 : v * 256 ||| c = v * 256 + c := by
  have := Nat.shiftLeft_add_eq_or_of_lt (b := c) (i := 8) hc v
  rw [Nat.shiftLeft_eq] at this
  exact this.symm
 rw [BitVec.toNat_or, h1, h2, h3]
 exact wrapi (by omega)
theorem unsigned_c (b : List UInt8) (hb : b.length ≤ 7) : PC Tryz.prog 224 [.isl .u8 b] (rI (beN b)) := by
 refine pc_of rfl rfl ?_
 refine runE mixed fi224 ?_
 refine si_cntD (fun i => [(2, rI (beN (b.take i))), (7, .raw (.int .i64 ((i : Nat) : Int)))]) (b.length) (fun j => (fun _ => true) j = true) (by first | decide | simp) (fun i => rfl) ?_ fun i hi hall => ?_
 · (with_reducible refine sxE ?_ <;> try exact True.intro)
   all_goals (try rfl)
 have hwr : IntKind.i64.wrap ((i : Int) + 1) = ((i + 1 : Nat) : Int) := wrap_succ (by omega)
 refine goE mixed ?_
 have bad : i < (b.length) → (fun _ => true) i = false → allN (b.length) (fun _ => true) = false := fun hlt hv => allN_false hlt hv
 have fin : ¬ i < (b.length) → allN (b.length) (fun _ => true) = true := fun h => allN_true fun j hj => hall j (by omega)
 try dsimp only at bad fin hall
 refine ⟨fun hlt => ⟨⟨by omega, hlt⟩, ?_⟩, fun hge => ?_⟩
 · have hv := beN_lt (b.take i)
   have hv2 : 256 ^ (b.take i).length ≤ 256 ^ 6 := Nat.pow_le_pow_right (by decide) (by simp; omega)
   have hc : (b.getD i Ty.u8.dflt).toNat < 256 := UInt8.toNat_lt _
   have e1 : IntKind.i64.wrap ((beN (b.take i) : Int) * 2 ^ min 8 64) = ((beN (b.take i) * 256 : Nat) : Int) := by
    rw [show ((beN (b.take i) : Int) * 2 ^ min 8 64) = ((beN (b.take i) * 256 : Nat) : Int) by simp]
    exact wrapi (by omega)
   have e2 : IntKind.i64.wrap ((b.getD i Ty.u8.dflt).toNat : Int) = (((b.getD i Ty.u8.dflt).toNat : Nat) : Int) := wrapi (by omega)
   have e3 := or_byte (beN (b.take i)) (b.getD i Ty.u8.dflt).toNat (by omega) hc
   have e4 := beN_succ b i hlt
   rw [e1, e2]
   refine ⟨hlt, trivial, ⟨[], rfl⟩, ?_⟩
   with_reducible refine sx1 hwr ?_
   rw [e4]
   exact congrArg (Value.int .i64) e3
 · obtain rfl : i = b.length := by omega
   rw [List.take_length]
def minLen : Nat → Nat
 | 1 => 128 | 2 => 256 | 3 => 65536 | _ => 0
def measE (b : List UInt8) (at_ n : Nat) : Nat × Nat × Nat := if b.length - at_ < n then (0, 0, 4) else (at_, at_ + n, 0)
def meas (b : List UInt8) : Nat × Nat × Nat :=
 if b.length < 2 then (0, 0, 4) else
 if (b.getD 1 0).toNat < 128 then measE b 2 (b.getD 1 0).toNat else
 if (b.getD 1 0).toNat - 128 < 1 ∨ 3 < (b.getD 1 0).toNat - 128 then (0, 0, 6) else
 if b.length < 2 + ((b.getD 1 0).toNat - 128) then (0, 0, 4) else
 if beN ((b.drop 2).take ((b.getD 1 0).toNat - 128)) < minLen ((b.getD 1 0).toNat - 128) then (0, 0, 6) else
 measE b (2 + ((b.getD 1 0).toNat - 128)) (beN ((b.drop 2).take ((b.getD 1 0).toNat - 128)))
def measV (m : Nat × Nat × Nat) : SV := .tup [rI m.1, rI m.2.1, rI m.2.2]
theorem measure_c (b : List UInt8) (hb : b.length ≤ 1099511627776) : PC Tryz.prog 276 [.isl .u8 b] (measV (meas b)) := by
 refine pc_of rfl rfl ?_
 have hx : (b.getD 1 Ty.u8.dflt).toNat < 256 := UInt8.toNat_lt _
 have e0 : IntKind.i64.wrap ((b.getD 1 Ty.u8.dflt).toNat : Int) = (((b.getD 1 Ty.u8.dflt).toNat : Nat) : Int) := wrapi (by omega)
 have e1 : IntKind.i64.wrap (((b.getD 1 Ty.u8.dflt).toNat : Int) - 128) = ((b.getD 1 Ty.u8.dflt).toNat : Int) - 128 := wrapi (by omega)
 have e2 : IntKind.i64.wrap (2 + (((b.getD 1 Ty.u8.dflt).toNat : Int) - 128)) = 2 + (((b.getD 1 Ty.u8.dflt).toNat : Int) - 128) := wrapi (by omega)
 have e3 : IntKind.i64.wrap ((b.length : Int) - 2) = (b.length : Int) - 2 := wrapi (by omega)
 have e4 : IntKind.i64.wrap (2 + ((b.getD 1 Ty.u8.dflt).toNat : Int)) = 2 + ((b.getD 1 Ty.u8.dflt).toNat : Int) := wrapi (by omega)
 have hm : ∀ r, meas b = r → measV (meas b) = measV r := fun r h => by rw [h]
 unfold measV
 refine vc_fi fi276 (run_sound mixed 600 _ ?_)
 simp (maxSteps := 3000000) only [ir276, e0, e1, e2, e3, e4, go_sem, ↓zA, ↓reduceIte, ↓reduceDIte, reduceCtorEq, Nat.reduceAdd, Nat.reduceSub, Nat.reduceLeDiff, Nat.reduceLT, Nat.reduceEqDiff, Nat.reduceBEq, Nat.reduceMul, Int.reduceToNat, Int.reduceEq, Int.reduceLT, Int.reduceLE] <;> try simp only [zB]
 have hd : b.getD 1 0 = b.getD 1 Ty.u8.dflt := rfl
 generalize hxx : b.getD 1 Ty.u8.dflt = x at *
 refine ⟨fun h => ?_, fun h => ⟨by omega, fun h2 => ⟨fun h3 => ⟨fun h4 => ?_, fun h4 => ⟨fun h5 => ?_, fun h5 => ⟨⟨by omega, by omega, by omega⟩, ?_⟩⟩⟩, fun h3 => ?_⟩, fun h2 => ⟨fun h3 => ?_, fun h3 => ?_⟩⟩⟩
 · have : meas b = (0, 0, 4) := by unfold meas; rw [if_pos (by omega)]
   rw [this]; rfl
 · have : meas b = (0, 0, 6) := by unfold meas; rw [hd, if_neg (by omega), if_neg (by omega), if_pos (by omega)]
   rw [this]; rfl
 · have : meas b = (0, 0, 4) := by unfold meas; rw [hd, if_neg (by omega), if_neg (by omega), if_neg (by omega), if_pos (by omega)]
   rw [this]; rfl
 · obtain ⟨m, hxm⟩ : ∃ m : Nat, (x.toNat : Int) - 128 = (m : Int) := ⟨x.toNat - 128, by omega⟩
   have hm3 : 1 ≤ m ∧ m ≤ 3 := by omega
   have ht2 : ((2 : Int) + (m : Int)).toNat = 2 + m := by omega
   have hll : (List.drop 2 (List.take (2 + m) b)).length = m := by simp; omega
   rw [hxm, ht2, hll]
   generalize hL : List.drop 2 (List.take (2 + m) b) = L at *
   have hmq : ∀ v, beN L = v → meas b = (if v < minLen m then (0, 0, 6) else measE b (2 + m) v) := fun v hv => by
    have hLx : (b.drop 2).take m = L := by rw [← hL, List.drop_take]; congr 1; omega
    unfold meas
    rw [hd, show x.toNat - 128 = m by omega, if_neg (by omega), if_neg (by omega), if_neg (by omega), if_neg (by omega), hLx, hv]
   rcases (by omega : m = 1 ∨ m = 2 ∨ m = 3) with rfl | rfl | rfl
   · refine si_cntD (fun i => [(5, rI (beN (L.take i))), (39, .raw (.int .i64 ((i : Nat) : Int)))]) (1) (fun j => (fun _ => true) j = true) (by first | decide | simp) (fun i => rfl) ?_ fun i hi hall => ?_
     · (with_reducible refine sxE ?_ <;> try exact True.intro)
       all_goals (try rfl)
     have hwr : IntKind.i64.wrap ((i : Int) + 1) = ((i + 1 : Nat) : Int) := wrap_succ (by omega)
     refine goE mixed ?_
     have bad : i < (1) → (fun _ => true) i = false → allN (1) (fun _ => true) = false := fun hlt hv => allN_false hlt hv
     have fin : ¬ i < (1) → allN (1) (fun _ => true) = true := fun h => allN_true fun j hj => hall j (by omega)
     try dsimp only at bad fin hall
     refine ⟨fun hlt => ⟨⟨by omega, by omega⟩, ?_⟩, fun hge => ?_⟩
     · have hv := beN_lt (L.take i)
       have hv2 : 256 ^ (L.take i).length ≤ 256 ^ 6 := Nat.pow_le_pow_right (by decide) (by simp; omega)
       have hc : (L.getD i Ty.u8.dflt).toNat < 256 := UInt8.toNat_lt _
       have e1 : IntKind.i64.wrap ((beN (L.take i) : Int) * 2 ^ min 8 64) = ((beN (L.take i) * 256 : Nat) : Int) := by
        rw [show ((beN (L.take i) : Int) * 2 ^ min 8 64) = ((beN (L.take i) * 256 : Nat) : Int) by simp]
        exact wrapi (by omega)
       have e2 : IntKind.i64.wrap ((L.getD i Ty.u8.dflt).toNat : Int) = (((L.getD i Ty.u8.dflt).toNat : Nat) : Int) := wrapi (by omega)
       have e3 := or_byte (beN (L.take i)) (L.getD i Ty.u8.dflt).toNat (by omega) hc
       have e4 := beN_succ L i (by omega)
       rw [e1, e2]
       refine ⟨hlt, trivial, ⟨[], rfl⟩, ?_⟩
       with_reducible refine sx1 hwr ?_
       rw [e4]
       exact congrArg (Value.int .i64) e3
     · rw [List.take_of_length_le (by omega : L.length ≤ i)]
       have hv := beN_lt L
       rw [hll] at hv
       have hv3 : beN L < 16777216 := by omega
       have w1 : IntKind.i64.wrap ((b.length : Int) - (2 + ((1 : Nat) : Int))) = (b.length : Int) - (2 + ((1 : Nat) : Int)) := wrapi (by omega)
       have w2 : IntKind.i64.wrap (2 + ((1 : Nat) : Int) + (beN L : Int)) = ((2 + 1 + beN L : Nat) : Int) := by rw [wrapi (by omega)]; omega
       rw [w1, w2]
       refine ⟨by decide, fun q => ?_, fun q => ⟨fun q2 => ?_, fun q2 => ?_⟩⟩
       · rw [hmq _ rfl, if_pos (by simp only [minLen]; omega)]; rfl
       · rw [hmq _ rfl, if_neg (by simp only [minLen]; omega)]; unfold measE; rw [if_pos (by omega)]; rfl
       · rw [hmq _ rfl, if_neg (by simp only [minLen]; omega)]; unfold measE; rw [if_neg (by omega)]; rfl
   · refine si_cntD (fun i => [(5, rI (beN (L.take i))), (39, .raw (.int .i64 ((i : Nat) : Int)))]) (2) (fun j => (fun _ => true) j = true) (by first | decide | simp) (fun i => rfl) ?_ fun i hi hall => ?_
     · (with_reducible refine sxE ?_ <;> try exact True.intro)
       all_goals (try rfl)
     have hwr : IntKind.i64.wrap ((i : Int) + 1) = ((i + 1 : Nat) : Int) := wrap_succ (by omega)
     refine goE mixed ?_
     have bad : i < (2) → (fun _ => true) i = false → allN (2) (fun _ => true) = false := fun hlt hv => allN_false hlt hv
     have fin : ¬ i < (2) → allN (2) (fun _ => true) = true := fun h => allN_true fun j hj => hall j (by omega)
     try dsimp only at bad fin hall
     refine ⟨fun hlt => ⟨⟨by omega, by omega⟩, ?_⟩, fun hge => ?_⟩
     · have hv := beN_lt (L.take i)
       have hv2 : 256 ^ (L.take i).length ≤ 256 ^ 6 := Nat.pow_le_pow_right (by decide) (by simp; omega)
       have hc : (L.getD i Ty.u8.dflt).toNat < 256 := UInt8.toNat_lt _
       have e1 : IntKind.i64.wrap ((beN (L.take i) : Int) * 2 ^ min 8 64) = ((beN (L.take i) * 256 : Nat) : Int) := by
        rw [show ((beN (L.take i) : Int) * 2 ^ min 8 64) = ((beN (L.take i) * 256 : Nat) : Int) by simp]
        exact wrapi (by omega)
       have e2 : IntKind.i64.wrap ((L.getD i Ty.u8.dflt).toNat : Int) = (((L.getD i Ty.u8.dflt).toNat : Nat) : Int) := wrapi (by omega)
       have e3 := or_byte (beN (L.take i)) (L.getD i Ty.u8.dflt).toNat (by omega) hc
       have e4 := beN_succ L i (by omega)
       rw [e1, e2]
       refine ⟨hlt, trivial, ⟨[], rfl⟩, ?_⟩
       with_reducible refine sx1 hwr ?_
       rw [e4]
       exact congrArg (Value.int .i64) e3
     · rw [List.take_of_length_le (by omega : L.length ≤ i)]
       have hv := beN_lt L
       rw [hll] at hv
       have hv3 : beN L < 16777216 := by omega
       have w1 : IntKind.i64.wrap ((b.length : Int) - (2 + ((2 : Nat) : Int))) = (b.length : Int) - (2 + ((2 : Nat) : Int)) := wrapi (by omega)
       have w2 : IntKind.i64.wrap (2 + ((2 : Nat) : Int) + (beN L : Int)) = ((2 + 2 + beN L : Nat) : Int) := by rw [wrapi (by omega)]; omega
       rw [w1, w2]
       refine ⟨by decide, fun q => ?_, fun q => ⟨fun q2 => ?_, fun q2 => ?_⟩⟩
       · rw [hmq _ rfl, if_pos (by simp only [minLen]; omega)]; rfl
       · rw [hmq _ rfl, if_neg (by simp only [minLen]; omega)]; unfold measE; rw [if_pos (by omega)]; rfl
       · rw [hmq _ rfl, if_neg (by simp only [minLen]; omega)]; unfold measE; rw [if_neg (by omega)]; rfl
   · refine si_cntD (fun i => [(5, rI (beN (L.take i))), (39, .raw (.int .i64 ((i : Nat) : Int)))]) (3) (fun j => (fun _ => true) j = true) (by first | decide | simp) (fun i => rfl) ?_ fun i hi hall => ?_
     · (with_reducible refine sxE ?_ <;> try exact True.intro)
       all_goals (try rfl)
     have hwr : IntKind.i64.wrap ((i : Int) + 1) = ((i + 1 : Nat) : Int) := wrap_succ (by omega)
     refine goE mixed ?_
     have bad : i < (3) → (fun _ => true) i = false → allN (3) (fun _ => true) = false := fun hlt hv => allN_false hlt hv
     have fin : ¬ i < (3) → allN (3) (fun _ => true) = true := fun h => allN_true fun j hj => hall j (by omega)
     try dsimp only at bad fin hall
     refine ⟨fun hlt => ⟨⟨by omega, by omega⟩, ?_⟩, fun hge => ?_⟩
     · have hv := beN_lt (L.take i)
       have hv2 : 256 ^ (L.take i).length ≤ 256 ^ 6 := Nat.pow_le_pow_right (by decide) (by simp; omega)
       have hc : (L.getD i Ty.u8.dflt).toNat < 256 := UInt8.toNat_lt _
       have e1 : IntKind.i64.wrap ((beN (L.take i) : Int) * 2 ^ min 8 64) = ((beN (L.take i) * 256 : Nat) : Int) := by
        rw [show ((beN (L.take i) : Int) * 2 ^ min 8 64) = ((beN (L.take i) * 256 : Nat) : Int) by simp]
        exact wrapi (by omega)
       have e2 : IntKind.i64.wrap ((L.getD i Ty.u8.dflt).toNat : Int) = (((L.getD i Ty.u8.dflt).toNat : Nat) : Int) := wrapi (by omega)
       have e3 := or_byte (beN (L.take i)) (L.getD i Ty.u8.dflt).toNat (by omega) hc
       have e4 := beN_succ L i (by omega)
       rw [e1, e2]
       refine ⟨hlt, trivial, ⟨[], rfl⟩, ?_⟩
       with_reducible refine sx1 hwr ?_
       rw [e4]
       exact congrArg (Value.int .i64) e3
     · rw [List.take_of_length_le (by omega : L.length ≤ i)]
       have hv := beN_lt L
       rw [hll] at hv
       have hv3 : beN L < 16777216 := by omega
       have w1 : IntKind.i64.wrap ((b.length : Int) - (2 + ((3 : Nat) : Int))) = (b.length : Int) - (2 + ((3 : Nat) : Int)) := wrapi (by omega)
       have w2 : IntKind.i64.wrap (2 + ((3 : Nat) : Int) + (beN L : Int)) = ((2 + 3 + beN L : Nat) : Int) := by rw [wrapi (by omega)]; omega
       rw [w1, w2]
       refine ⟨by decide, fun q => ?_, fun q => ⟨fun q2 => ?_, fun q2 => ?_⟩⟩
       · rw [hmq _ rfl, if_pos (by simp only [minLen]; omega)]; rfl
       · rw [hmq _ rfl, if_neg (by simp only [minLen]; omega)]; unfold measE; rw [if_pos (by omega)]; rfl
       · rw [hmq _ rfl, if_neg (by simp only [minLen]; omega)]; unfold measE; rw [if_neg (by omega)]; rfl
 · have : meas b = (0, 0, 6) := by unfold meas; rw [hd, if_neg (by omega), if_neg (by omega), if_pos (by omega)]
   rw [this]; rfl
 · have : meas b = (0, 0, 4) := by unfold meas; rw [hd, if_neg (by omega), if_pos (by omega)]; unfold measE; rw [if_pos (by omega)]
   rw [this]; rfl
 · have : meas b = (2, 2 + x.toNat, 0) := by unfold meas; rw [hd, if_neg (by omega), if_pos (by omega)]; unfold measE; rw [if_neg (by omega)]
   rw [this]; rfl
end Go.Proofs.YtddmkgibghohkaaGreatDoor
/- The plain law of reading: parsers over bytes, and what they make of encodings. -/
namespace Go.Proofs.YtddmkgibghohkaaGreatDoor
open Go Go.Sx Go.Proofs
set_option maxRecDepth 100000
set_option maxHeartbeats 4000000
set_option linter.unusedSimpArgs false

theorem byteOf_nat (n : Nat) : (byteOf (n : Int)).toNat = n % 256 := by
 have h := byte_ob (n : Int)
 have : IntKind.u8.wrap (n : Int) = ((n % 256 : Nat) : Int) := by simp [IntKind.wrap, IntKind.bits, IntKind.signed]
 rw [this] at h
 unfold byteOf
 rw [this]
 exact_mod_cast h
theorem beN1 (a : UInt8) : beN [a] = a.toNat := by simp [beN]
theorem beN2 (a b : UInt8) : beN [a, b] = a.toNat * 256 + b.toNat := by simp [beN]
theorem beN3 (a b c : UInt8) : beN [a, b, c] = (a.toNat * 256 + b.toNat) * 256 + c.toNat := by simp [beN]
theorem fdiv_nat (n k : Nat) : (n : Int).fdiv (k : Int) = ((n / k : Nat) : Int) := by rw [Int.fdiv_eq_ediv_of_nonneg _ (by omega)]; rfl
theorem meas_tlv (t : UInt8) (c r : List UInt8) (h : c.length ≤ 16777215) : meas (tlv t c ++ r) = (1 + (lenS c.length).length, 1 + (lenS c.length).length + c.length, 0) := by
 have e1 : ((c.length : Nat) : Int).fdiv 256 = ((c.length / 256 : Nat) : Int) := fdiv_nat _ 256
 have e2 : ((c.length : Nat) : Int).fdiv 65536 = ((c.length / 65536 : Nat) : Int) := fdiv_nat _ 65536
 unfold tlv
 rcases Nat.lt_or_ge c.length 128 with h1 | h1
 · have hL : lenS c.length = [byteOf c.length] := by unfold lenS; rw [if_pos h1]
   have hb : (byteOf (c.length : Int)).toNat = c.length := by rw [byteOf_nat]; omega
   rw [hL]
   unfold meas measE
   simp only [List.cons_append, List.nil_append, List.length_cons, List.length_append, List.getD_cons_succ, List.getD_cons_zero, hb, List.length_nil]
   rw [if_neg (by omega), if_pos h1, if_neg (by omega)]
 rcases Nat.lt_or_ge c.length 256 with h2 | h2
 · have hL : lenS c.length = [129, byteOf c.length] := by unfold lenS; rw [if_neg (by omega), if_pos h2]
   have hb : (byteOf (c.length : Int)).toNat = c.length := by rw [byteOf_nat]; omega
   have h129 : (129 : UInt8).toNat = 129 := rfl
   rw [hL]
   unfold meas measE
   simp only [List.cons_append, List.nil_append, List.length_cons, List.length_append, List.getD_cons_succ, List.getD_cons_zero, h129, List.length_nil, List.drop_succ_cons, List.drop_zero, Nat.reduceSub, List.take_succ_cons, List.take_zero, beN1, hb, minLen]
   rw [if_neg (by omega), if_neg (by omega), if_neg (by omega), if_neg (by omega), if_neg (by omega), if_neg (by omega)]
 rcases Nat.lt_or_ge c.length 65536 with h3 | h3
 · have hL : lenS c.length = [130, byteOf ((c.length : Int).fdiv 256), byteOf c.length] := by unfold lenS; rw [if_neg (by omega), if_neg (by omega), if_pos h3]
   have hb : (byteOf (c.length : Int)).toNat = c.length % 256 := byteOf_nat _
   have hb2 : (byteOf ((c.length : Int).fdiv 256)).toNat = c.length / 256 := by rw [e1, byteOf_nat]; omega
   have h130 : (130 : UInt8).toNat = 130 := rfl
   have hv : c.length / 256 * 256 + c.length % 256 = c.length := by omega
   rw [hL]
   unfold meas measE
   simp only [List.cons_append, List.nil_append, List.length_cons, List.length_append, List.getD_cons_succ, List.getD_cons_zero, h130, List.length_nil, List.drop_succ_cons, List.drop_zero, Nat.reduceSub, List.take_succ_cons, List.take_zero, beN2, hb, hb2, hv, minLen]
   rw [if_neg (by omega), if_neg (by omega), if_neg (by omega), if_neg (by omega), if_neg (by omega), if_neg (by omega)]
 · have hL : lenS c.length = [131, byteOf ((c.length : Int).fdiv 65536), byteOf ((c.length : Int).fdiv 256), byteOf c.length] := by unfold lenS; rw [if_neg (by omega), if_neg (by omega), if_neg (by omega)]
   have hb : (byteOf (c.length : Int)).toNat = c.length % 256 := byteOf_nat _
   have hb2 : (byteOf ((c.length : Int).fdiv 256)).toNat = c.length / 256 % 256 := by rw [e1, byteOf_nat]
   have hb3 : (byteOf ((c.length : Int).fdiv 65536)).toNat = c.length / 65536 := by rw [e2, byteOf_nat]; omega
   have h131 : (131 : UInt8).toNat = 131 := rfl
   have hv : (c.length / 65536 * 256 + c.length / 256 % 256) * 256 + c.length % 256 = c.length := by omega
   rw [hL]
   unfold meas measE
   simp only [List.cons_append, List.nil_append, List.length_cons, List.length_append, List.getD_cons_succ, List.getD_cons_zero, h131, List.length_nil, List.drop_succ_cons, List.drop_zero, Nat.reduceSub, List.take_succ_cons, List.take_zero, beN3, hb, hb2, hb3, hv, minLen]
   rw [if_neg (by omega), if_neg (by omega), if_neg (by omega), if_neg (by omega), if_neg (by omega), if_neg (by omega)]

def takeE (tag : UInt8) (r : List UInt8) : Nat := if r.length = 0 then 4 else if r.getD 0 0 ≠ tag then 6 else (meas r).2.2
def takeC (r : List UInt8) : List UInt8 := (r.take (meas r).2.1).drop (meas r).1
def takeN (r : List UInt8) : Nat := (meas r).2.1
theorem tlv_length (t : UInt8) (c : List UInt8) : (tlv t c).length = 1 + (lenS c.length).length + c.length := by simp [tlv]; omega
theorem takeE_tlv (t : UInt8) (c r : List UInt8) (h : c.length ≤ 16777215) : takeE t (tlv t c ++ r) = 0 := by
 unfold takeE
 rw [meas_tlv t c r h, if_neg (by simp [tlv]), if_neg (by simp [tlv])]
theorem takeC_tlv (t : UInt8) (c r : List UInt8) (h : c.length ≤ 16777215) : takeC (tlv t c ++ r) = c := by
 unfold takeC
 rw [meas_tlv t c r h, List.take_append_of_le_length (by rw [tlv_length]; exact Nat.le_refl _), List.take_of_length_le (by rw [tlv_length]; exact Nat.le_refl _)]
 have : tlv t c = (t :: lenS c.length) ++ c := rfl
 rw [this, List.drop_append_of_le_length (by simp; omega), List.drop_of_length_le (by simp; omega), List.nil_append]
theorem takeN_tlv (t : UInt8) (c r : List UInt8) (h : c.length ≤ 16777215) : takeN (tlv t c ++ r) = (tlv t c).length := by
 unfold takeN
 rw [meas_tlv t c r h, tlv_length]
theorem meas_ok {r : List UInt8} (h : (meas r).2.2 = 0) : 2 ≤ (meas r).1 ∧ (meas r).1 ≤ (meas r).2.1 ∧ (meas r).2.1 ≤ r.length := by
 have key : ∀ a n, (measE r a n).2.2 = 0 → 2 ≤ a → a ≤ r.length → 2 ≤ (measE r a n).1 ∧ (measE r a n).1 ≤ (measE r a n).2.1 ∧ (measE r a n).2.1 ≤ r.length := by
  intro a n h1 h2 h3
  unfold measE at h1 ⊢
  split at h1
  · cases h1
  · rename_i hh; rw [if_neg hh]; simp only; omega
 unfold meas at h ⊢
 repeat' split at h
 all_goals first | (cases h; done) | skip
 · rename_i g1 g2; rw [if_neg g1, if_pos g2]; exact key _ _ h (by omega) (by omega)
 · rename_i g1 g2 g3 g4 g5; rw [if_neg g1, if_neg g2, if_neg g3, if_neg g4, if_neg g5]; exact key _ _ h (by omega) (by omega)
theorem takeE_ok {t : UInt8} {r : List UInt8} (h : takeE t r = 0) : (meas r).2.2 = 0 := by
 unfold takeE at h
 split at h
 · cases h
 · split at h
   · cases h
   · exact h
theorem takeN_le {t : UInt8} {r : List UInt8} (h : takeE t r = 0) : takeN r ≤ r.length := (meas_ok (takeE_ok h)).2.2
theorem takeN_pos {t : UInt8} {r : List UInt8} (h : takeE t r = 0) : 2 ≤ takeN r := by have := meas_ok (takeE_ok h); unfold takeN; omega
theorem takeC_len (r : List UInt8) : (takeC r).length ≤ r.length := by unfold takeC; rw [List.length_drop, List.length_take]; omega

abbrev PR (α : Type) := List UInt8 → Except Nat (α × Nat)
def rdP {α : Type} (tag : UInt8) (dec : List UInt8 → Option α) : PR α := fun r =>
 if takeE tag r = 0 then match dec (takeC r) with
  | some v => .ok (v, takeN r)
  | none => .error 6
 else .error (takeE tag r)
def allP {α : Type} (p : PR α) (c : List UInt8) : Except Nat α := match p c with
 | .error e => .error e
 | .ok (v, m) => if m < c.length then .error 6 else .ok v
def inP {α : Type} (tag : UInt8) (p : PR α) : PR α := fun r =>
 if takeE tag r = 0 then match allP p (takeC r) with
  | .ok v => .ok (v, takeN r)
  | .error e => .error e
 else .error (takeE tag r)
def tagB (n : Nat) : UInt8 := byteOf (160 + n)
def nextB (n : Nat) (r : List UInt8) : Bool := decide (r.length ≠ 0) && decide (r.getD 0 0 = tagB n)
def mayP {α : Type} (n : Nat) (p : PR α) : PR (Option α) := fun r =>
 if nextB n r then match inP (tagB n) p r with
  | .ok (v, k) => .ok (some v, k)
  | .error e => .error e
 else .ok (none, 0)
def needP {α : Type} (n : Nat) (p : PR α) : PR α := fun r =>
 if nextB n r then inP (tagB n) p r else .error (if r.length = 0 then 4 else 6)
def dfltP {α : Type} (d : α) (n : Nat) (p : PR α) : PR α := fun r => match mayP n p r with
 | .ok (some v, k) => .ok (v, k)
 | .ok (none, k) => .ok (d, k)
 | .error e => .error e
def bindP {α β : Type} (p : PR α) (f : α → PR β) : PR β := fun r => match p r with
 | .error e => .error e
 | .ok (v, k) => match f v (r.drop k) with
  | .error e => .error e
  | .ok (u, m) => .ok (u, k + m)
def retP {α : Type} (v : α) : PR α := fun _ => .ok (v, 0)
def listP {α : Type} (p : PR α) : Nat → PR (List α)
 | 0, r => if r.length = 0 then .ok ([], 0) else .error 6
 | n + 1, r => if r.length = 0 then .ok ([], 0) else match p r with
  | .error e => .error e
  | .ok (v, k) => match listP p n (r.drop k) with
   | .error e => .error e
   | .ok (l, m) => .ok (v :: l, k + m)

theorem rdP_tlv {α : Type} {t : UInt8} {dec : List UInt8 → Option α} {c : List UInt8} {v : α} (h : c.length ≤ 16777215) (hd : dec c = some v) (r : List UInt8) : rdP t dec (tlv t c ++ r) = .ok (v, (tlv t c).length) := by
 unfold rdP
 rw [takeE_tlv t c r h, takeC_tlv t c r h, takeN_tlv t c r h, hd]; rfl
theorem inP_tlv {α : Type} {t : UInt8} {p : PR α} {c : List UInt8} {v : α} (h : c.length ≤ 16777215) (hp : p c = .ok (v, c.length)) (r : List UInt8) : inP t p (tlv t c ++ r) = .ok (v, (tlv t c).length) := by
 unfold inP allP
 rw [takeE_tlv t c r h, takeC_tlv t c r h, takeN_tlv t c r h, hp]
 simp
theorem nextB_tlv (n : Nat) (c r : List UInt8) : nextB n (tlv (tagB n) c ++ r) = true := by simp [nextB, tlv]
theorem needP_tlv {α : Type} {n : Nat} {p : PR α} {c : List UInt8} {v : α} (h : c.length ≤ 16777215) (hp : p c = .ok (v, c.length)) (r : List UInt8) : needP n p (tlv (tagB n) c ++ r) = .ok (v, (tlv (tagB n) c).length) := by
 unfold needP
 rw [if_pos (nextB_tlv n c r), inP_tlv h hp]
theorem dfltP_tlv {α : Type} {d : α} {n : Nat} {p : PR α} {c : List UInt8} {v : α} (h : c.length ≤ 16777215) (hp : p c = .ok (v, c.length)) (r : List UInt8) : dfltP d n p (tlv (tagB n) c ++ r) = .ok (v, (tlv (tagB n) c).length) := by
 unfold dfltP mayP
 rw [if_pos (nextB_tlv n c r), inP_tlv h hp]
theorem dfltP_none {α : Type} {d : α} {n : Nat} {p : PR α} {r : List UInt8} (h : nextB n r = false) : dfltP d n p r = .ok (d, 0) := by
 unfold dfltP mayP
 rw [h]; rfl
theorem elemS_ok {t : UInt8} {c : List UInt8} (h : c.length ≤ 16777215) : elemS t [c] = tlv t c := by
 unfold elemS; simp only [List.flatten_cons, List.flatten_nil, List.append_nil]; rw [if_pos h]
theorem elemS_flat {t : UInt8} {l : List (List UInt8)} (h : l.flatten.length ≤ 16777215) : elemS t l = tlv t l.flatten := by unfold elemS; rw [if_pos h]
theorem tagB_nat (n : Nat) (h : n ≤ 30) : (tagB n).toNat = 160 + n := by
 unfold tagB
 have : (160 + (n : Int)) = ((160 + n : Nat) : Int) := by omega
 rw [this, byteOf_nat]; omega
theorem tagB_inj {n m : Nat} (hn : n ≤ 30) (hm : m ≤ 30) (h : tagB n = tagB m) : n = m := by
 have := congrArg UInt8.toNat h
 rw [tagB_nat n hn, tagB_nat m hm] at this; omega
theorem wrapS_ok {n : Nat} {b : List UInt8} (hn : n ≤ 30) (h : b.length ≤ 16777215) : wrapS 160 n b = if b = [] then [] else tlv (tagB n) b := by
 unfold wrapS
 by_cases hb : b = []
 · rw [if_neg (fun q => q.2.2 hb), if_pos hb]
 · rw [if_pos ⟨by omega, by omega, hb⟩, if_neg hb, elemS_ok h]; rfl
def sufS (l : List (List UInt8)) (n k : Nat) : List UInt8 := ((List.range' n k).map fun j => wrapS 160 (j : Nat) (l.getD j [])).flatten
theorem sufS_succ (l : List (List UInt8)) (n k : Nat) : sufS l n (k + 1) = wrapS 160 (n : Nat) (l.getD n []) ++ sufS l (n + 1) k := by simp [sufS, List.range'_succ]
theorem sufS_all (l : List (List UInt8)) : (tagN l l.length).flatten = sufS l 0 l.length := by
 unfold tagN sufS; rw [List.range_eq_range']; rfl
theorem sufS_aft (l : List (List UInt8)) (hl : ∀ j, (l.getD j []).length ≤ 16777215) : ∀ (k n : Nat), n + k ≤ 31 → ∀ i, i < n → nextB i (sufS l n k) = false
 | 0, n, _, i, _ => by simp [sufS, nextB]
 | k + 1, n, hn, i, hi => by
  rw [sufS_succ, wrapS_ok (by omega) (hl n)]
  split
  · rw [List.nil_append]; exact sufS_aft l hl k (n + 1) (by omega) i (by omega)
  · simp only [tlv, List.cons_append, nextB, List.length_cons, List.getD_cons_zero, Bool.and_eq_false_iff, decide_eq_false_iff_not]
    exact .inr fun e => by have := tagB_inj (by omega) (by omega) e; omega
theorem need_suf {α : Type} {l : List (List UInt8)} {p : PR α} {v : α} {n k : Nat} (hl : ∀ j, (l.getD j []).length ≤ 16777215) (hn : n ≤ 30) (h0 : l.getD n [] ≠ []) (hp : p (l.getD n []) = .ok (v, (l.getD n []).length)) :
 needP n p (sufS l n (k + 1)) = .ok (v, (wrapS 160 (n : Nat) (l.getD n [])).length) ∧ (sufS l n (k + 1)).drop (wrapS 160 (n : Nat) (l.getD n [])).length = sufS l (n + 1) k := by
 rw [sufS_succ, List.drop_left]
 refine ⟨?_, rfl⟩
 rw [wrapS_ok hn (hl n), if_neg h0]
 exact needP_tlv (hl n) hp _
theorem dflt_suf {α : Type} {l : List (List UInt8)} {p : PR α} {d v : α} {n k : Nat} (hl : ∀ j, (l.getD j []).length ≤ 16777215) (hn : n + k ≤ 30) (hp : if l.getD n [] = [] then v = d else p (l.getD n []) = .ok (v, (l.getD n []).length)) :
 dfltP d n p (sufS l n (k + 1)) = .ok (v, (wrapS 160 (n : Nat) (l.getD n [])).length) ∧ (sufS l n (k + 1)).drop (wrapS 160 (n : Nat) (l.getD n [])).length = sufS l (n + 1) k := by
 rw [sufS_succ, List.drop_left]
 refine ⟨?_, rfl⟩
 rw [wrapS_ok (by omega) (hl n)]
 split
 · rename_i h0
   rw [if_pos h0] at hp
   rw [List.nil_append, dfltP_none (sufS_aft l hl k (n + 1) (by omega) n (by omega)), hp]; rfl
 · rename_i h0
   rw [if_neg h0] at hp
   exact dfltP_tlv (hl n) hp _
theorem bindP_ok {α β : Type} {p : PR α} {f : α → PR β} {r r' : List UInt8} {v : α} {k : Nat} {u : β} {m : Nat} (h : p r = .ok (v, k) ∧ r.drop k = r') (h2 : f v r' = .ok (u, m)) : bindP p f r = .ok (u, k + m) := by
 unfold bindP; rw [h.1]; simp only; rw [h.2, h2]
theorem listP_ok {α : Type} {p : PR α} {enc : α → List UInt8} : ∀ (l : List α) (n : Nat), l.length ≤ n → (∀ x ∈ l, enc x ≠ [] ∧ ∀ r, p (enc x ++ r) = .ok (x, (enc x).length)) → listP p n (l.map enc).flatten = .ok (l, (l.map enc).flatten.length)
 | [], 0, _, _ => rfl
 | [], n + 1, _, _ => rfl
 | x :: l, 0, h, _ => absurd h (by simp)
 | x :: l, n + 1, h, hx => by
  obtain ⟨h0, h1⟩ := hx x (by simp)
  have h2 := listP_ok l n (by simpa using h) (fun y hy => hx y (by simp [hy]))
  simp only [List.map_cons, List.flatten_cons, listP]
  rw [if_neg (by simp; intro e; exact absurd e h0), h1]
  simp only [List.drop_left]
  rw [h2]; simp
end Go.Proofs.YtddmkgibghohkaaGreatDoor
/- Contracts: the reference's encoding. -/
namespace Go.Proofs.YtddmkgibghohkaaGreatDoor
open Go Go.Sx Go.Proofs
set_option maxRecDepth 100000
set_option maxHeartbeats 4000000
set_option linter.unusedSimpArgs false

theorem f_quo (n : Nat) (k : Nat) : (n : Int).fdiv k = ((n / k : Nat) : Int) := by
 rw [Int.fdiv_eq_ediv_of_nonneg _ (by omega)]; rfl
end Go.Proofs.YtddmkgibghohkaaGreatDoor
/- Contracts: the reference's numbers. -/
namespace Go.Proofs.YtddmkgibghohkaaGreatDoor
open Go Go.Sx Go.Proofs
set_option maxRecDepth 100000
set_option maxHeartbeats 4000000
set_option linter.unusedSimpArgs false

def qN (n k : Nat) : Nat := n / 256 ^ k
theorem qN_succ (n k : Nat) : qN n (k + 1) = qN n k / 256 := by unfold qN; rw [Nat.pow_succ, Nat.div_div_eq_div_mul]
theorem restN_nat (n k : Nat) : restN (n : Int) k = (qN n k : Int) := by
 induction k with
 | zero => simp [restN, qN]
 | succ k ih => rw [restN, ih, show (256 : Int) = ((256 : Nat) : Int) from rfl, f_quo, qN_succ]
theorem pow28 (k : Nat) : (2 : Int) ^ (8 * k) = ((256 ^ k : Nat) : Int) := by
 rw [show (256 : Nat) = 2 ^ 8 from rfl, ← Nat.pow_mul]; push_cast; rfl
theorem byteAt_nat (n k : Nat) (hk : k ≤ 8) : byteAt (n : Int) k = byteOf (qN n k : Int) := by
 unfold byteAt
 rw [Nat.min_eq_left (by omega), pow28, f_quo]; rfl
theorem numS_succ (v : Int) (m : Nat) : numS v (m + 1) = byteAt v m :: numS v m := by
 apply List.ext_getElem
 · simp [numS]
 · intro j h1 h2
   cases j with
   | zero => simp [numS]
   | succ j =>
    simp only [numS, List.getElem_map, List.getElem_range, List.getElem_cons_succ]
    congr 1
    omega
end Go.Proofs.YtddmkgibghohkaaGreatDoor
/- Contracts: the reference's offers. -/
namespace Go.Proofs.YtddmkgibghohkaaGreatDoor
open Go Go.Sx Go.Proofs
set_option maxRecDepth 100000
set_option maxHeartbeats 4000000
set_option linter.unusedSimpArgs false

theorem vSalt_pos {s : Salt} (h : vSalt s = true) : 0 < s.1 := by
 simp only [vSalt, Bool.and_eq_true, decide_eq_true_eq] at h
 have hk := h.1
 unfold keyLen at hk
 grind
theorem lenS_len (n : Nat) : (lenS n).length ≤ 4 := by
 unfold lenS
 split
 · simp
 · split
   · simp
   · split <;> simp
theorem elemS_len (t : UInt8) (l : List (List UInt8)) : (elemS t l).length ≤ l.flatten.length + 5 := by
 unfold elemS
 split
 · have := lenS_len l.flatten.length
   simp only [tlv, List.length_cons, List.length_append]; omega
 · simp
theorem wrapS_len (t n : Int) (b : List UInt8) : (wrapS t n b).length ≤ b.length + 5 := by
 unfold wrapS
 split
 · have := elemS_len (byteOf (t + n)) [b]
   simp only [List.flatten_cons, List.flatten_nil, List.append_nil] at this
   exact this
 · simp
theorem intSz_le (v : Int) : intSz v ≤ 9 := by
 unfold intSz
 cases h : firstN 9 (oneB v) with
 | none => simp
 | some k => have := (firstN_spec h).1; simp; omega
theorem intS_len (v : Int) : (intS v).length ≤ 14 := by
 unfold intS
 split
 · have h1 := elemS_len 2 [numS v (intSz v)]
   have h2 := intSz_le v
   simp only [List.flatten_cons, List.flatten_nil, List.append_nil, numS, List.length_map, List.length_range] at h1 h2 ⊢
   omega
 · simp
theorem saltS_eq (s : Salt) : saltS s = elemS 48 [wrapS 160 0 (intS s.1), wrapS 160 1 (elemS 27 [s.2.1.data.toList]), wrapS 160 2 (intS s.2.2)] := rfl
theorem saltS_len (s : Salt) : (saltS s).length ≤ s.2.1.size + 53 := by
 rw [saltS_eq]
 have h1 := elemS_len 48 [wrapS 160 0 (intS s.1), wrapS 160 1 (elemS 27 [s.2.1.data.toList]), wrapS 160 2 (intS s.2.2)]
 have h2 := wrapS_len 160 0 (intS s.1)
 have h3 := wrapS_len 160 1 (elemS 27 [s.2.1.data.toList])
 have h4 := wrapS_len 160 2 (intS s.2.2)
 have h5 := intS_len s.1
 have h6 := intS_len s.2.2
 have h7 := elemS_len 27 [s.2.1.data.toList]
 simp only [List.flatten_cons, List.flatten_nil, List.append_nil, List.length_append] at h1 h7
 have h8 : s.2.1.data.toList.length = s.2.1.size := by simp
 omega
end Go.Proofs.YtddmkgibghohkaaGreatDoor
/- The plain law of reading: numbers, strings, offers. -/
namespace Go.Proofs.YtddmkgibghohkaaGreatDoor
open Go Go.Sx Go.Proofs
set_option maxRecDepth 100000
set_option maxHeartbeats 4000000
set_option linter.unusedSimpArgs false

theorem foldl_be : ∀ (l : List UInt8) (v : Nat), l.foldl (fun v c => v * 256 + c.toNat) v = v * 256 ^ l.length + beN l
 | [], v => by simp [beN]
 | x :: l, v => by
  have h1 := foldl_be l (v * 256 + x.toNat)
  have h2 := foldl_be l (0 * 256 + x.toNat)
  simp only [List.foldl_cons, List.length_cons, beN] at *
  rw [h1, h2, Nat.pow_succ, Nat.add_mul, Nat.zero_mul, Nat.zero_add, Nat.mul_assoc, Nat.mul_comm 256, Nat.add_assoc]
theorem beN_cons (x : UInt8) (l : List UInt8) : beN (x :: l) = x.toNat * 256 ^ l.length + beN l := by
 have := foldl_be l (0 * 256 + x.toNat)
 rw [Nat.zero_mul, Nat.zero_add] at this
 unfold beN at *
 rw [List.foldl_cons, Nat.zero_mul, Nat.zero_add, this]
theorem numS_length (v : Int) (m : Nat) : (numS v m).length = m := by simp [numS]
theorem beN_num (n : Nat) : ∀ (m : Nat), m ≤ 9 → beN (numS (n : Int) m) = n % 256 ^ m
 | 0, _ => by simp [numS, beN, Nat.mod_one]
 | m + 1, h => by
  rw [numS_succ, beN_cons, numS_length, beN_num n m (by omega), byteAt_nat n m (by omega), byteOf_nat, Nat.mod_pow_succ]
  unfold qN
  rw [Nat.mul_comm, Nat.add_comm]

def sgn1 (x : UInt8) : Int := IntKind.i8.wrap (x.toNat : Int)
theorem sgn1_pos {x : UInt8} (h : x.toNat < 128) : sgn1 x = (x.toNat : Int) := by
 unfold sgn1
 simp [IntKind.wrap, IntKind.bits, IntKind.signed]
 omega
def sgn (c : List UInt8) : Int := (c.drop 1).foldl (fun v x => v * 256 + (x.toNat : Int)) (sgn1 (c.getD 0 0))
theorem foldl_int : ∀ (l : List UInt8) (v : Nat), l.foldl (fun (v : Int) (x : UInt8) => v * 256 + (x.toNat : Int)) (v : Int) = ((l.foldl (fun v c => v * 256 + c.toNat) v : Nat) : Int)
 | [], v => rfl
 | x :: l, v => by
  have := foldl_int l (v * 256 + x.toNat)
  simp only [List.foldl_cons]
  rw [← this]; push_cast; rfl
theorem sgn_pos {x : UInt8} {l : List UInt8} (h : x.toNat < 128) : sgn (x :: l) = (beN (x :: l) : Int) := by
 unfold sgn
 rw [List.drop_succ_cons, List.drop_zero, List.getD_cons_zero, sgn1_pos h, foldl_int]
 unfold beN
 rw [List.foldl_cons, Nat.zero_mul, Nat.zero_add]
def decInt (c : List UInt8) : Option Int := if 1 ≤ c.length ∧ c.length ≤ 8 ∧ intS (sgn c) = elemS 2 [c] then some (sgn c) else none
def decBits (c : List UInt8) : Option Nat := if c.length = 5 ∧ c.getD 0 0 = 0 then some (beN (c.drop 1)) else none
def decTime (c : List UInt8) : Option Nat := if c.length = 6 ∧ beN c ≤ 1099511627776 then some (beN c) else none
def decStr (c : List UInt8) : Option ByteArray := some ⟨c.toArray⟩
def decOct (c : List UInt8) : Option (List UInt8) := some c
theorem intS_nat (n : Nat) (h : n ≤ 4611686018427387904) : ∃ c, intS n = tlv 2 c ∧ c.length ≤ 8 ∧ 1 ≤ c.length ∧ decInt c = some (n : Int) ∧ beN c = n ∧ (c.length = 8 → 36028797018963968 ≤ n) := by
 have h7 : oneB (n : Int) 7 = true := by
  have : qN n 7 ≤ 127 := by unfold qN; exact Nat.div_le_of_le_mul (by omega)
  unfold oneB; rw [restN_nat, decide_eq_true (show ((qN n 7 : Nat) : Int) ≤ 127 by omega), decide_eq_true (show (-128 : Int) ≤ (qN n 7 : Int) by omega)]; rfl
 obtain ⟨k, hk⟩ : ∃ k, firstN 9 (oneB (n : Int)) = some k := by
  cases hf : firstN 9 (oneB (n : Int)) with
  | some k => exact ⟨k, rfl⟩
  | none =>
   unfold firstN at hf
   rw [List.find?_range_eq_none] at hf
   have := hf 7 (by omega)
   rw [h7] at this; cases this
 obtain ⟨_, hk1, hk2⟩ := firstN_spec hk
 have hk7 : k ≤ 7 := by
  rcases Nat.lt_or_ge 7 k with hl | hl
  · have := hk2 7 hl; rw [h7] at this; cases this
  · exact hl
 have hsz : intSz (n : Int) = k + 1 := by unfold intSz; rw [hk]; simp; omega
 have hint : intS (n : Int) = tlv 2 (numS n (k + 1)) := by
  unfold intS
  rw [if_pos (by omega), hsz, elemS_ok (by rw [numS_length]; omega)]
 have hq : qN n k ≤ 127 := by
  simp only [oneB, restN_nat, Bool.and_eq_true, decide_eq_true_eq] at hk1
  omega
 have hlt : n < 256 ^ (k + 1) := by
  have h1 : n < (qN n k + 1) * 256 ^ k := by
   unfold qN
   have := Nat.lt_mul_div_succ n (show 0 < 256 ^ k from Nat.pow_pos (by decide))
   rw [Nat.mul_comm] at this; exact this
  have h2 : (qN n k + 1) * 256 ^ k ≤ 256 * 256 ^ k := Nat.mul_le_mul_right _ (by omega)
  rw [Nat.pow_succ, Nat.mul_comm]; omega
 have hb : beN (numS (n : Int) (k + 1)) = n := by rw [beN_num n _ (by omega), Nat.mod_eq_of_lt hlt]
 have hs : sgn (numS (n : Int) (k + 1)) = (n : Int) := by
  rw [numS_succ, sgn_pos (by rw [byteAt_nat n k (by omega), byteOf_nat]; omega), ← numS_succ, hb]
 refine ⟨numS n (k + 1), hint, by rw [numS_length]; omega, by rw [numS_length]; omega, ?_, hb, fun h8 => ?_⟩
 · unfold decInt
   rw [hs, hint, elemS_ok (by rw [numS_length]; omega), if_pos ⟨by rw [numS_length]; omega, by rw [numS_length]; omega, rfl⟩]
 · rw [numS_length] at h8
   have hk6 := hk2 6 (by omega)
   simp only [oneB, restN_nat, Bool.and_eq_false_iff, decide_eq_false_iff_not] at hk6
   have : 128 ≤ qN n 6 := by omega
   unfold qN at this
   have h9 := (Nat.le_div_iff_mul_le (show 0 < 256 ^ 6 by decide)).1 this
   omega
theorem intS_i {v : Int} (h : 0 ≤ v ∧ v ≤ 4611686018427387904) : ∃ c, intS v = tlv 2 c ∧ c.length ≤ 8 ∧ 1 ≤ c.length ∧ decInt c = some v ∧ (beN c : Int) = v ∧ (c.length = 8 → 36028797018963968 ≤ v) := by
 obtain ⟨n, rfl⟩ : ∃ n : Nat, v = n := ⟨v.toNat, by omega⟩
 obtain ⟨c, h1, h2, h3, h4, h5, h6⟩ := intS_nat n (by omega)
 exact ⟨c, h1, h2, h3, h4, by rw [h5], fun h => by have := h6 h; omega⟩
def intP : PR Int := rdP 2 decInt
def bitsP : PR Nat := rdP 3 decBits
def octP : PR (List UInt8) := rdP 4 decOct
def timeP : PR Nat := rdP 24 decTime
def strP : PR ByteArray := rdP 27 decStr
theorem intP_ok {v : Int} (h : 0 ≤ v ∧ v ≤ 4611686018427387904) (r : List UInt8) : intP (intS v ++ r) = .ok (v, (intS v).length) := by
 obtain ⟨c, h1, h2, _, h4, _⟩ := intS_i h
 rw [h1]; exact rdP_tlv (by omega) h4 r
theorem bitsS_tlv {v : Int} : bitsS v = tlv 3 (0 :: numS v 4) := by
 unfold bitsS elemS
 simp only [List.flatten_cons, List.flatten_nil, List.append_nil, List.cons_append, List.nil_append]
 rw [if_pos (by simp [numS_length])]
theorem bitsP_ok {n : Nat} (h : n < 4294967296) (r : List UInt8) : bitsP (bitsS n ++ r) = .ok (n, (bitsS n).length) := by
 rw [bitsS_tlv]
 refine rdP_tlv (by simp [numS_length]) ?_ r
 unfold decBits
 rw [if_pos ⟨by simp [numS_length], rfl⟩, List.drop_succ_cons, List.drop_zero, beN_num n 4 (by omega), Nat.mod_eq_of_lt (by omega)]
theorem timeS_tlv {t : Int} (h : 0 ≤ t ∧ t ≤ 1099511627776) : timeS t = tlv 24 (numS t 6) := by
 unfold timeS; rw [if_pos h, elemS_ok (by rw [numS_length]; omega)]
theorem timeP_ok {n : Nat} (h : n ≤ 1099511627776) (r : List UInt8) : timeP (timeS n ++ r) = .ok (n, (timeS n).length) := by
 rw [timeS_tlv (by omega)]
 refine rdP_tlv (by rw [numS_length]; omega) ?_ r
 unfold decTime
 rw [beN_num n 6 (by omega), Nat.mod_eq_of_lt (by omega), if_pos ⟨numS_length _ _, h⟩]
theorem octP_ok {b : List UInt8} (h : b.length ≤ 16777215) (r : List UInt8) : octP (elemS 4 [b] ++ r) = .ok (b, (elemS 4 [b]).length) := by
 rw [elemS_ok h]; exact rdP_tlv h rfl r
theorem strP_ok {s : ByteArray} (h : s.size ≤ 16777215) (r : List UInt8) : strP (elemS 27 [s.data.toList] ++ r) = .ok (s, (elemS 27 [s.data.toList]).length) := by
 have hl : s.data.toList.length = s.size := by simp
 rw [elemS_ok (by omega)]
 exact rdP_tlv (by omega) (by unfold decStr; simp) r
theorem full {α : Type} {p : PR α} {v : α} {e : List UInt8} (h : ∀ r, p (e ++ r) = .ok (v, e.length)) : p e = .ok (v, e.length) := by have := h []; rwa [List.append_nil] at this

def saltP : PR Salt := inP 48 (bindP (needP 0 intP) fun a => bindP (needP 1 strP) fun s => bindP (needP 2 intP) fun i => retP (a, s, i))
theorem saltS_tlv (p : Int) (s : ByteArray) (i : Int) (hp : 0 ≤ p ∧ p ≤ 2) (hs : s.size ≤ 256) (hi : 0 ≤ i ∧ i ≤ 65536) : saltS (p, s, i) = tlv 48 (sufS [intS p, elemS 27 [s.data.toList], intS i] 0 3) := by
 have hl : (s.data.toList).length = s.size := by simp
 have i1 := intS_len p
 have i2 := intS_len i
 have e : saltS (p, s, i) = elemS 48 (tagN [intS p, elemS 27 [s.data.toList], intS i] 3) := rfl
 have hf : (tagN [intS p, elemS 27 [s.data.toList], intS i] 3).flatten = sufS [intS p, elemS 27 [s.data.toList], intS i] 0 3 := sufS_all [intS p, elemS 27 [s.data.toList], intS i]
 have w0 := wrapS_len 160 0 (intS p)
 have w1 := wrapS_len 160 1 (elemS 27 [s.data.toList])
 have w2 := wrapS_len 160 2 (intS i)
 have w3 := elemS_len 27 [s.data.toList]
 simp only [List.flatten_cons, List.flatten_nil, List.append_nil] at w3
 rw [e, elemS_flat, hf]
 have : (tagN [intS p, elemS 27 [s.data.toList], intS i] 3).flatten = wrapS 160 0 (intS p) ++ (wrapS 160 1 (elemS 27 [s.data.toList]) ++ wrapS 160 2 (intS i)) := by simp [tagN, List.range_succ]
 rw [this]
 simp only [List.length_append]
 omega
theorem saltP_at (p : Int) (s : ByteArray) (i : Int) (hp : 0 ≤ p ∧ p ≤ 2) (hs : s.size ≤ 256) (hi : 0 ≤ i ∧ i ≤ 65536) (r : List UInt8) : saltP (saltS (p, s, i) ++ r) = .ok ((p, s, i), (saltS (p, s, i)).length) := by
 have hl : (s.data.toList).length = s.size := by simp
 have i1 := intS_len p
 have i2 := intS_len i
 obtain ⟨c1, e1, _⟩ := intS_i (v := p) (by omega)
 obtain ⟨c2, e2, _⟩ := intS_i (v := i) (by omega)
 have es : elemS 27 [s.data.toList] = tlv 27 s.data.toList := elemS_ok (by omega)
 have hlen : (saltS (p, s, i)).length ≤ s.size + 53 := saltS_len (p, s, i)
 have hL : ∀ j, (([intS p, elemS 27 [s.data.toList], intS i] : List (List UInt8)).getD j []).length ≤ 16777215 := fun j => by
  match j with
  | 0 => show (intS p).length ≤ _; omega
  | 1 => show (elemS 27 [s.data.toList]).length ≤ _; rw [es, tlv_length]; have := lenS_len s.data.toList.length; omega
  | 2 => show (intS i).length ≤ _; omega
  | j + 3 => exact Nat.zero_le _
 have hS := saltS_tlv p s i hp hs hi
 have hin : (sufS [intS p, elemS 27 [s.data.toList], intS i] 0 3).length ≤ 16777215 := by
  rw [hS, tlv_length] at hlen; omega
 rw [hS]
 refine inP_tlv hin ?_ r
 have q0 : intP (([intS p, elemS 27 [s.data.toList], intS i] : List (List UInt8)).getD 0 []) = .ok (p, (([intS p, elemS 27 [s.data.toList], intS i] : List (List UInt8)).getD 0 []).length) := full (e := intS p) (intP_ok (by omega))
 have q1 : strP (([intS p, elemS 27 [s.data.toList], intS i] : List (List UInt8)).getD 1 []) = .ok (s, (([intS p, elemS 27 [s.data.toList], intS i] : List (List UInt8)).getD 1 []).length) := full (e := elemS 27 [s.data.toList]) (strP_ok (by omega))
 have q2 : intP (([intS p, elemS 27 [s.data.toList], intS i] : List (List UInt8)).getD 2 []) = .ok (i, (([intS p, elemS 27 [s.data.toList], intS i] : List (List UInt8)).getD 2 []).length) := full (e := intS i) (intP_ok (by omega))
 have n0 : ([intS p, elemS 27 [s.data.toList], intS i] : List (List UInt8)).getD 0 [] ≠ [] := by show intS p ≠ []; rw [e1]; simp [tlv]
 have n1 : ([intS p, elemS 27 [s.data.toList], intS i] : List (List UInt8)).getD 1 [] ≠ [] := by show elemS 27 _ ≠ []; rw [es]; simp [tlv]
 have n2 : ([intS p, elemS 27 [s.data.toList], intS i] : List (List UInt8)).getD 2 [] ≠ [] := by show intS i ≠ []; rw [e2]; simp [tlv]
 have g := bindP_ok (f := fun a => bindP (needP 1 strP) fun s' => bindP (needP 2 intP) fun i => retP (a, s', i)) (need_suf (k := 2) hL (by omega) n0 q0)
  (bindP_ok (f := fun s' => bindP (needP 2 intP) fun i => retP (p, s', i)) (need_suf (k := 1) hL (by omega) n1 q1)
   (bindP_ok (f := fun i => retP (p, s, i)) (need_suf (k := 0) hL (by omega) n2 q2) rfl))
 rw [g]
 congr 2
 rw [sufS_succ, sufS_succ, sufS_succ]
 simp only [sufS, List.range'_zero, List.map_nil, List.flatten_nil, List.append_nil, List.length_append, Nat.zero_add, Nat.reduceAdd]
 omega
theorem salt_small {s : Salt} (h : vSalt s = true) : (0 ≤ (s.1 : Int) ∧ (s.1 : Int) ≤ 2) ∧ s.2.1.size ≤ 256 ∧ (0 ≤ (s.2.2 : Int) ∧ (s.2.2 : Int) ≤ 65536) := by
 have hp := vSalt_pos h
 simp only [vSalt, Bool.and_eq_true, decide_eq_true_eq] at h
 obtain ⟨h1, h2, h3, h4⟩ := h
 unfold keyLen at h1
 exact ⟨⟨by grind, by grind⟩, by omega, by grind, by grind⟩
theorem saltP_ok {s : Salt} (h : vSalt s = true) (r : List UInt8) : saltP (saltS s ++ r) = .ok (s, (saltS s).length) := by
 obtain ⟨h1, h2, h3⟩ := salt_small h
 obtain ⟨p, s, i⟩ := s
 exact saltP_at p s i h1 h2 h3 r
theorem saltS_ne {s : Salt} (h : vSalt s = true) : saltS s ≠ [] := by
 intro e
 have := saltP_ok h []
 rw [e] at this
 simp [saltP, inP, takeE] at this
def offerP : PR (List Salt) := inP 48 (listP saltP 4)
theorem offerS_tlv {l : List Salt} (h : vOffer l = true) : offerS l = tlv 48 (l.map saltS).flatten ∧ (l.map saltS).flatten.length ≤ 16777215 := by
 have hl4 : l.length ≤ 4 := by simp [vOffer] at h; omega
 have hv : ∀ s ∈ l, vSalt s = true := by simp [vOffer] at h; exact fun s hs => by have := h.1.2; simp_all
 have hd : offerS l = elemS 48 (l.map saltS) := by
  unfold offerS listS mapN
  split
  · rename_i h; rw [List.length_eq_zero_iff.1 h]; rfl
  · rw [List.take_length]
 have hb : ∀ (m : List Salt), (∀ s ∈ m, vSalt s = true) → (m.map saltS).flatten.length ≤ 309 * m.length := fun m => by
  induction m with
  | nil => simp
  | cons x m ih =>
   intro h
   have h1 := saltS_len x
   have h2 := (salt_small (h x (by simp))).2.1
   have h3 := ih (fun y hy => h y (by simp [hy]))
   simp only [List.map_cons, List.flatten_cons, List.length_append, List.length_cons]
   omega
 have hf : (l.map saltS).flatten.length ≤ 16777215 := by have := hb l hv; omega
 rw [hd, elemS_flat hf]
 exact ⟨rfl, hf⟩
theorem offerP_ok {l : List Salt} (h : vOffer l = true) : offerP (offerS l) = .ok (l, (offerS l).length) := by
 have hl4 : l.length ≤ 4 := by simp [vOffer] at h; omega
 have hv : ∀ s ∈ l, vSalt s = true := by simp [vOffer] at h; exact fun s hs => by have := h.1.2; simp_all
 obtain ⟨hd, hf⟩ := offerS_tlv h
 rw [hd]
 refine full (inP_tlv hf ?_)
 exact listP_ok l 4 hl4 fun s hs => ⟨saltS_ne (hv s hs), saltP_ok (hv s hs)⟩
def decOffer (b : List UInt8) : Option (List Salt) := match allP offerP b with
 | .ok l => if vOffer l = true ∧ offerS l = b then some l else none
 | .error _ => none
theorem decOffer_iff (b : List UInt8) (l : List Salt) : decOffer b = some l ↔ vOffer l = true ∧ offerS l = b := by
 constructor
 · unfold decOffer
   split
   · split
     · rintro ⟨⟩; assumption
     · intro h; cases h
   · intro h; cases h
 · rintro ⟨h, rfl⟩
   have := offerP_ok h
   unfold decOffer allP
   rw [this]
   simp [h]
end Go.Proofs.YtddmkgibghohkaaGreatDoor
/- Contracts: the reference's reading of elements. -/
namespace Go.Proofs.YtddmkgibghohkaaGreatDoor
open Go Go.Sx Go.Proofs
set_option maxRecDepth 100000
set_option maxHeartbeats 4000000
set_option linter.unusedSimpArgs false

end Go.Proofs.YtddmkgibghohkaaGreatDoor
/- The plain law of the reference's reading. -/
namespace Go.Proofs.YtddmkgibghohkaaGreatDoor
open Go Go.Sx Go.Proofs
set_option maxRecDepth 100000
set_option maxHeartbeats 4000000
set_option linter.unusedSimpArgs false

end Go.Proofs.YtddmkgibghohkaaGreatDoor
