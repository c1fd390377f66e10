/- Contracts: the measure of an element. -/
import Derived.Test.YtcjehhejgimmdaaGreatDoorP16
import Derived.Test.YtcjehhejgimmdaaGreatDoorP10
set_option linter.all false
namespace Go.Proofs.YtcjehhejgimmdaaGreatDoor
open Go Go.Sx Go.Proofs
set_option maxRecDepth 100000
set_option maxHeartbeats 4000000
def beN (l : List UInt8) : Nat := l.foldl (fun v c => v * 256 + c.toNat) 0
theorem q3p (l : List UInt8) (i : Nat) (h : i < l.length) : beN (l.take (i + 1)) = beN (l.take i) * 256 + (l.getD i 0).toNat := by
 unfold beN
 rw [List.take_add_one, List.foldl_append, List.getElem?_eq_getElem h, List.getD_eq_getElem?_getD, List.getElem?_eq_getElem h]
 rfl
theorem q3b : ∀ (l : List UInt8), beN l < 256 ^ l.length := by
 intro l
 have : ∀ (l : List UInt8) (v : Nat), l.foldl (fun v c => v * 256 + c.toNat) v < (v + 1) * 256 ^ l.length := by
  intro l
  induction l with
  | nil => intro v; simp
  | cons c l ih =>
   intro v
   have h1 := ih (v * 256 + c.toNat)
   have h2 : c.toNat < 256 := c.toNat_lt
   simp only [List.foldl_cons, List.length_cons, Nat.pow_succ]
   refine Nat.lt_of_lt_of_le h1 ?_
   have : (v * 256 + c.toNat + 1) * 256 ^ l.length ≤ ((v + 1) * 256) * 256 ^ l.length := Nat.mul_le_mul_right _ (by omega)
   calc _ ≤ _ := this
    _ = _ := by rw [Nat.mul_assoc, Nat.mul_comm 256]
 have h := this l 0
 simpa [beN] using h
theorem q8P (v c : Nat) (hv : v < 36028797018963968) (hc : c < 256) : IntKind.i64.wrap ((BitVec.ofInt 64 ((v * 256 : Nat) : Int) ||| BitVec.ofInt 64 ((c : Nat) : Int)).toNat : Int) = ((v * 256 + c : Nat) : Int) := by
 have h1 : (BitVec.ofInt 64 ((v * 256 : Nat) : Int)).toNat = v * 256 := by rw [BitVec.ofInt_natCast, BitVec.toNat_ofNat]; exact Nat.mod_eq_of_lt (by omega)
 have h2 : (BitVec.ofInt 64 ((c : Nat) : Int)).toNat = c := by rw [BitVec.ofInt_natCast, BitVec.toNat_ofNat]; exact Nat.mod_eq_of_lt (by omega)
 have h3 : v * 256 ||| c = v * 256 + c := by
  have := Nat.shiftLeft_add_eq_or_of_lt (b := c) (i := 8) hc v
  rw [Nat.shiftLeft_eq] at this
  exact this.symm
 rw [BitVec.toNat_or, h1, h2, h3]
 exact wrapi (by omega)
theorem q7q (b : List UInt8) (hb : b.length ≤ 7) : PC Tryz.prog 220 [.isl .u8 b] (rI (beN b)) := by
 refine q0B rfl rfl ?_
 refine rQ fi220 ?_
 refine q0W (fun i => [(2, rI (beN (b.take i))), (7, .raw (.int .i64 ((i : Nat) : Int)))]) (b.length) (fun j => (fun _ => true) j = true) (by first | decide | simp) (fun i => rfl) ?_ fun i hi hall => ?_
 · (with_reducible refine sxE ?_ <;> try exact True.intro)
   all_goals (try rfl)
 have hwr := wsx i (by omega)
 refine gQ ?_
 have bad : i < (b.length) → (fun _ => true) i = false → allN (b.length) (fun _ => true) = false := fun hlt hv => q0k hlt hv
 have fin : ¬ i < (b.length) → allN (b.length) (fun _ => true) = true := fun h => q0p fun j hj => hall j (by omega)
 try dsimp only at bad fin hall
 refine ⟨fun hlt => ⟨⟨by omega, hlt⟩, ?_⟩, fun hge => ?_⟩
 · have hv := q3b (b.take i)
   have hv2 : 256 ^ (b.take i).length ≤ 256 ^ 6 := Nat.pow_le_pow_right (by decide) (by simp; omega)
   have hc : (b.getD i Ty.u8.dflt).toNat < 256 := UInt8.toNat_lt _
   have e1 : IntKind.i64.wrap ((beN (b.take i) : Int) * 2 ^ min 8 64) = ((beN (b.take i) * 256 : Nat) : Int) := by
    rw [show ((beN (b.take i) : Int) * 2 ^ min 8 64) = ((beN (b.take i) * 256 : Nat) : Int) by simp]
    exact wrapi (by omega)
   have e2 : IntKind.i64.wrap ((b.getD i Ty.u8.dflt).toNat : Int) = (((b.getD i Ty.u8.dflt).toNat : Nat) : Int) := wrapi (by omega)
   have e3 := q8P (beN (b.take i)) (b.getD i Ty.u8.dflt).toNat (by omega) hc
   have e4 := q3p b i hlt
   rw [e1, e2]
   refine ⟨hlt, trivial, ⟨[], rfl⟩, ?_⟩
   with_reducible refine sx1 hwr ?_
   rw [e4]
   exact congrArg (Value.int .i64) e3
 obtain rfl : i = b.length := by omega
 rw [List.take_length]
def minLen : Nat → Nat
 | 1 => 128 | 2 => 256 | 3 => 65536 | _ => 0
def measE (b : List UInt8) (at_ n : Nat) : Nat × Nat × Nat := if b.length - at_ < n then (0, 0, 4) else (at_, at_ + n, 0)
def meas (b : List UInt8) : Nat × Nat × Nat :=
 if b.length < 2 then (0, 0, 4) else
 if (b.getD 1 0).toNat < 128 then measE b 2 (b.getD 1 0).toNat else
 if (b.getD 1 0).toNat - 128 < 1 ∨ 3 < (b.getD 1 0).toNat - 128 then (0, 0, 6) else
 if b.length < 2 + ((b.getD 1 0).toNat - 128) then (0, 0, 4) else
 if beN ((b.drop 2).take ((b.getD 1 0).toNat - 128)) < minLen ((b.getD 1 0).toNat - 128) then (0, 0, 6) else
 measE b (2 + ((b.getD 1 0).toNat - 128)) (beN ((b.drop 2).take ((b.getD 1 0).toNat - 128)))
def measV (m : Nat × Nat × Nat) : SV := .tup [rI m.1, rI m.2.1, rI m.2.2]
theorem z5w (b : List UInt8) (hb : b.length ≤ 1099511627776) : PC Tryz.prog 279 [.isl .u8 b] (measV (meas b)) := by
 refine q0B rfl rfl ?_
 have hx : (b.getD 1 Ty.u8.dflt).toNat < 256 := UInt8.toNat_lt _
 have e0 : IntKind.i64.wrap ((b.getD 1 Ty.u8.dflt).toNat : Int) = (((b.getD 1 Ty.u8.dflt).toNat : Nat) : Int) := wrapi (by omega)
 have e1 : IntKind.i64.wrap (((b.getD 1 Ty.u8.dflt).toNat : Int) - 128) = ((b.getD 1 Ty.u8.dflt).toNat : Int) - 128 := wrapi (by omega)
 have e2 : IntKind.i64.wrap (2 + (((b.getD 1 Ty.u8.dflt).toNat : Int) - 128)) = 2 + (((b.getD 1 Ty.u8.dflt).toNat : Int) - 128) := wrapi (by omega)
 have e3 : IntKind.i64.wrap ((b.length : Int) - 2) = (b.length : Int) - 2 := wrapi (by omega)
 have e4 : IntKind.i64.wrap (2 + ((b.getD 1 Ty.u8.dflt).toNat : Int)) = 2 + ((b.getD 1 Ty.u8.dflt).toNat : Int) := wrapi (by omega)
 have hm : ∀ r, meas b = r → measV (meas b) = measV r := fun r h => by rw [h]
 unfold measV
 refine q1J fi279 (q0l mixed 600 _ ?_)
 simp (maxSteps := 3000000) only [ir279, e0, e1, e2, e3, e4, go_sem, ↓zA, ↓reduceIte, ↓reduceDIte] <;> try simp only [zB]
 have hd : b.getD 1 0 = b.getD 1 Ty.u8.dflt := rfl
 generalize hxx : b.getD 1 Ty.u8.dflt = x at *
 refine ⟨fun h => ?_, fun h => ⟨by omega, fun h2 => ⟨fun h3 => ⟨fun h4 => ?_, fun h4 => ⟨fun h5 => ?_, fun h5 => ⟨⟨by omega, by omega, by omega⟩, ?_⟩⟩⟩, fun h3 => ?_⟩, fun h2 => ⟨fun h3 => ?_, fun h3 => ?_⟩⟩⟩
 · have : meas b = (0, 0, 4) := by unfold meas; rw [if_pos (by omega)]
   rw [this]; rfl
 · have : meas b = (0, 0, 6) := by unfold meas; rw [hd, if_neg (by omega), if_neg (by omega), if_pos (by omega)]
   rw [this]; rfl
 · have : meas b = (0, 0, 4) := by unfold meas; rw [hd, if_neg (by omega), if_neg (by omega), if_neg (by omega), if_pos (by omega)]
   rw [this]; rfl
 · obtain ⟨m, hxm⟩ : ∃ m : Nat, (x.toNat : Int) - 128 = (m : Int) := ⟨x.toNat - 128, by omega⟩
   have hm3 : 1 ≤ m ∧ m ≤ 3 := by omega
   have ht2 : ((2 : Int) + (m : Int)).toNat = 2 + m := by omega
   have hll : (List.drop 2 (List.take (2 + m) b)).length = m := by simp; omega
   rw [hxm, ht2, hll]
   generalize hL : List.drop 2 (List.take (2 + m) b) = L at *
   have hmq : ∀ v, beN L = v → meas b = (if v < minLen m then (0, 0, 6) else measE b (2 + m) v) := fun v hv => by
    have hLx : (b.drop 2).take m = L := by rw [← hL, List.drop_take]; congr 1; omega
    unfold meas
    rw [hd, show x.toNat - 128 = m by omega, if_neg (by omega), if_neg (by omega), if_neg (by omega), if_neg (by omega), hLx, hv]
   rcases (by omega : m = 1 ∨ m = 2 ∨ m = 3) with rfl | rfl | rfl
   · refine q0W (fun i => [(5, rI (beN (L.take i))), (39, .raw (.int .i64 ((i : Nat) : Int)))]) (1) (fun j => (fun _ => true) j = true) (by first | decide | simp) (fun i => rfl) ?_ fun i hi hall => ?_
     · (with_reducible refine sxE ?_ <;> try exact True.intro)
       all_goals (try rfl)
     have hwr := wsx i (by omega)
     refine gQ ?_
     have bad : i < (1) → (fun _ => true) i = false → allN (1) (fun _ => true) = false := fun hlt hv => q0k hlt hv
     have fin : ¬ i < (1) → allN (1) (fun _ => true) = true := fun h => q0p fun j hj => hall j (by omega)
     try dsimp only at bad fin hall
     refine ⟨fun hlt => ⟨⟨by omega, by omega⟩, ?_⟩, fun hge => ?_⟩
     · have hv := q3b (L.take i)
       have hv2 : 256 ^ (L.take i).length ≤ 256 ^ 6 := Nat.pow_le_pow_right (by decide) (by simp; omega)
       have hc : (L.getD i Ty.u8.dflt).toNat < 256 := UInt8.toNat_lt _
       have e1 : IntKind.i64.wrap ((beN (L.take i) : Int) * 2 ^ min 8 64) = ((beN (L.take i) * 256 : Nat) : Int) := by
        rw [show ((beN (L.take i) : Int) * 2 ^ min 8 64) = ((beN (L.take i) * 256 : Nat) : Int) by simp]
        exact wrapi (by omega)
       have e2 : IntKind.i64.wrap ((L.getD i Ty.u8.dflt).toNat : Int) = (((L.getD i Ty.u8.dflt).toNat : Nat) : Int) := wrapi (by omega)
       have e3 := q8P (beN (L.take i)) (L.getD i Ty.u8.dflt).toNat (by omega) hc
       have e4 := q3p L i (by omega)
       rw [e1, e2]
       refine ⟨hlt, trivial, ⟨[], rfl⟩, ?_⟩
       with_reducible refine sx1 hwr ?_
       rw [e4]
       exact congrArg (Value.int .i64) e3
     rw [List.take_of_length_le (by omega : L.length ≤ i)]
     have hv := q3b L
     rw [hll] at hv
     have hv3 : beN L < 16777216 := by omega
     have w1 : IntKind.i64.wrap ((b.length : Int) - (2 + ((1 : Nat) : Int))) = (b.length : Int) - (2 + ((1 : Nat) : Int)) := wrapi (by omega)
     have w2 : IntKind.i64.wrap (2 + ((1 : Nat) : Int) + (beN L : Int)) = ((2 + 1 + beN L : Nat) : Int) := by rw [wrapi (by omega)]; omega
     rw [w1, w2]
     refine ⟨by decide, fun q => ?_, fun q => ⟨fun q2 => ?_, fun q2 => ?_⟩⟩
     · rw [hmq _ rfl, if_pos (by simp only [minLen]; omega)]; rfl
     · rw [hmq _ rfl, if_neg (by simp only [minLen]; omega)]; unfold measE; rw [if_pos (by omega)]; rfl
     rw [hmq _ rfl, if_neg (by simp only [minLen]; omega)]; unfold measE; rw [if_neg (by omega)]; rfl
   · refine q0W (fun i => [(5, rI (beN (L.take i))), (39, .raw (.int .i64 ((i : Nat) : Int)))]) (2) (fun j => (fun _ => true) j = true) (by first | decide | simp) (fun i => rfl) ?_ fun i hi hall => ?_
     · (with_reducible refine sxE ?_ <;> try exact True.intro)
       all_goals (try rfl)
     have hwr := wsx i (by omega)
     refine gQ ?_
     have bad : i < (2) → (fun _ => true) i = false → allN (2) (fun _ => true) = false := fun hlt hv => q0k hlt hv
     have fin : ¬ i < (2) → allN (2) (fun _ => true) = true := fun h => q0p fun j hj => hall j (by omega)
     try dsimp only at bad fin hall
     refine ⟨fun hlt => ⟨⟨by omega, by omega⟩, ?_⟩, fun hge => ?_⟩
     · have hv := q3b (L.take i)
       have hv2 : 256 ^ (L.take i).length ≤ 256 ^ 6 := Nat.pow_le_pow_right (by decide) (by simp; omega)
       have hc : (L.getD i Ty.u8.dflt).toNat < 256 := UInt8.toNat_lt _
       have e1 : IntKind.i64.wrap ((beN (L.take i) : Int) * 2 ^ min 8 64) = ((beN (L.take i) * 256 : Nat) : Int) := by
        rw [show ((beN (L.take i) : Int) * 2 ^ min 8 64) = ((beN (L.take i) * 256 : Nat) : Int) by simp]
        exact wrapi (by omega)
       have e2 : IntKind.i64.wrap ((L.getD i Ty.u8.dflt).toNat : Int) = (((L.getD i Ty.u8.dflt).toNat : Nat) : Int) := wrapi (by omega)
       have e3 := q8P (beN (L.take i)) (L.getD i Ty.u8.dflt).toNat (by omega) hc
       have e4 := q3p L i (by omega)
       rw [e1, e2]
       refine ⟨hlt, trivial, ⟨[], rfl⟩, ?_⟩
       with_reducible refine sx1 hwr ?_
       rw [e4]
       exact congrArg (Value.int .i64) e3
     rw [List.take_of_length_le (by omega : L.length ≤ i)]
     have hv := q3b L
     rw [hll] at hv
     have hv3 : beN L < 16777216 := by omega
     have w1 : IntKind.i64.wrap ((b.length : Int) - (2 + ((2 : Nat) : Int))) = (b.length : Int) - (2 + ((2 : Nat) : Int)) := wrapi (by omega)
     have w2 : IntKind.i64.wrap (2 + ((2 : Nat) : Int) + (beN L : Int)) = ((2 + 2 + beN L : Nat) : Int) := by rw [wrapi (by omega)]; omega
     rw [w1, w2]
     refine ⟨by decide, fun q => ?_, fun q => ⟨fun q2 => ?_, fun q2 => ?_⟩⟩
     · rw [hmq _ rfl, if_pos (by simp only [minLen]; omega)]; rfl
     · rw [hmq _ rfl, if_neg (by simp only [minLen]; omega)]; unfold measE; rw [if_pos (by omega)]; rfl
     rw [hmq _ rfl, if_neg (by simp only [minLen]; omega)]; unfold measE; rw [if_neg (by omega)]; rfl
   refine q0W (fun i => [(5, rI (beN (L.take i))), (39, .raw (.int .i64 ((i : Nat) : Int)))]) (3) (fun j => (fun _ => true) j = true) (by first | decide | simp) (fun i => rfl) ?_ fun i hi hall => ?_
   · (with_reducible refine sxE ?_ <;> try exact True.intro)
     all_goals (try rfl)
   have hwr := wsx i (by omega)
   refine gQ ?_
   have bad : i < (3) → (fun _ => true) i = false → allN (3) (fun _ => true) = false := fun hlt hv => q0k hlt hv
   have fin : ¬ i < (3) → allN (3) (fun _ => true) = true := fun h => q0p fun j hj => hall j (by omega)
   try dsimp only at bad fin hall
   refine ⟨fun hlt => ⟨⟨by omega, by omega⟩, ?_⟩, fun hge => ?_⟩
   · have hv := q3b (L.take i)
     have hv2 : 256 ^ (L.take i).length ≤ 256 ^ 6 := Nat.pow_le_pow_right (by decide) (by simp; omega)
     have hc : (L.getD i Ty.u8.dflt).toNat < 256 := UInt8.toNat_lt _
     have e1 : IntKind.i64.wrap ((beN (L.take i) : Int) * 2 ^ min 8 64) = ((beN (L.take i) * 256 : Nat) : Int) := by
      rw [show ((beN (L.take i) : Int) * 2 ^ min 8 64) = ((beN (L.take i) * 256 : Nat) : Int) by simp]
      exact wrapi (by omega)
     have e2 : IntKind.i64.wrap ((L.getD i Ty.u8.dflt).toNat : Int) = (((L.getD i Ty.u8.dflt).toNat : Nat) : Int) := wrapi (by omega)
     have e3 := q8P (beN (L.take i)) (L.getD i Ty.u8.dflt).toNat (by omega) hc
     have e4 := q3p L i (by omega)
     rw [e1, e2]
     refine ⟨hlt, trivial, ⟨[], rfl⟩, ?_⟩
     with_reducible refine sx1 hwr ?_
     rw [e4]
     exact congrArg (Value.int .i64) e3
   rw [List.take_of_length_le (by omega : L.length ≤ i)]
   have hv := q3b L
   rw [hll] at hv
   have hv3 : beN L < 16777216 := by omega
   have w1 : IntKind.i64.wrap ((b.length : Int) - (2 + ((3 : Nat) : Int))) = (b.length : Int) - (2 + ((3 : Nat) : Int)) := wrapi (by omega)
   have w2 : IntKind.i64.wrap (2 + ((3 : Nat) : Int) + (beN L : Int)) = ((2 + 3 + beN L : Nat) : Int) := by rw [wrapi (by omega)]; omega
   rw [w1, w2]
   refine ⟨by decide, fun q => ?_, fun q => ⟨fun q2 => ?_, fun q2 => ?_⟩⟩
   · rw [hmq _ rfl, if_pos (by simp only [minLen]; omega)]; rfl
   · rw [hmq _ rfl, if_neg (by simp only [minLen]; omega)]; unfold measE; rw [if_pos (by omega)]; rfl
   rw [hmq _ rfl, if_neg (by simp only [minLen]; omega)]; unfold measE; rw [if_neg (by omega)]; rfl
 · have : meas b = (0, 0, 6) := by unfold meas; rw [hd, if_neg (by omega), if_neg (by omega), if_pos (by omega)]
   rw [this]; rfl
 · have : meas b = (0, 0, 4) := by unfold meas; rw [hd, if_neg (by omega), if_pos (by omega)]; unfold measE; rw [if_pos (by omega)]
   rw [this]; rfl
 have : meas b = (2, 2 + x.toNat, 0) := by unfold meas; rw [hd, if_neg (by omega), if_pos (by omega)]; unfold measE; rw [if_neg (by omega)]
 rw [this]; rfl
theorem q1w (n : Nat) : (byteOf (n : Int)).toNat = n % 256 := by
 have h := q0Q (n : Int)
 have : IntKind.u8.wrap (n : Int) = ((n % 256 : Nat) : Int) := by simp [IntKind.wrap, IntKind.bits, IntKind.signed]
 rw [this] at h
 unfold byteOf
 rw [this]
 exact_mod_cast h
theorem beN1 (a : UInt8) : beN [a] = a.toNat := by simp [beN]
theorem beN2 (a b : UInt8) : beN [a, b] = a.toNat * 256 + b.toNat := by simp [beN]
theorem beN3 (a b c : UInt8) : beN [a, b, c] = (a.toNat * 256 + b.toNat) * 256 + c.toNat := by simp [beN]
theorem z1T (n k : Nat) : (n : Int).fdiv (k : Int) = ((n / k : Nat) : Int) := by rw [Int.fdiv_eq_ediv_of_nonneg _ (by omega)]; rfl
theorem q4s (t : UInt8) (c r : List UInt8) (h : c.length ≤ 16777215) : meas (tlv t c ++ r) = (1 + (lenS c.length).length, 1 + (lenS c.length).length + c.length, 0) := by
 have e1 : ((c.length : Nat) : Int).fdiv 256 = ((c.length / 256 : Nat) : Int) := z1T _ 256
 have e2 : ((c.length : Nat) : Int).fdiv 65536 = ((c.length / 65536 : Nat) : Int) := z1T _ 65536
 unfold tlv
 rcases Nat.lt_or_ge c.length 128 with h1 | h1
 · have hL : lenS c.length = [byteOf c.length] := by unfold lenS; rw [if_pos h1]
   have hb : (byteOf (c.length : Int)).toNat = c.length := by rw [q1w]; omega
   rw [hL]
   unfold meas measE
   simp only [List.cons_append, List.nil_append, List.length_cons, List.length_append, List.getD_cons_succ, List.getD_cons_zero, hb, List.length_nil]
   rw [if_neg (by omega), if_pos h1, if_neg (by omega)]
 rcases Nat.lt_or_ge c.length 256 with h2 | h2
 · have hL : lenS c.length = [129, byteOf c.length] := by unfold lenS; rw [if_neg (by omega), if_pos h2]
   have hb : (byteOf (c.length : Int)).toNat = c.length := by rw [q1w]; omega
   have h129 : (129 : UInt8).toNat = 129 := rfl
   rw [hL]
   unfold meas measE
   simp only [List.cons_append, List.nil_append, List.length_cons, List.length_append, List.getD_cons_succ, List.getD_cons_zero, h129, List.length_nil, List.drop_succ_cons, List.drop_zero, Nat.reduceSub, List.take_succ_cons, List.take_zero, beN1, hb, minLen]
   rw [if_neg (by omega), if_neg (by omega), if_neg (by omega), if_neg (by omega), if_neg (by omega), if_neg (by omega)]
 rcases Nat.lt_or_ge c.length 65536 with h3 | h3
 · have hL : lenS c.length = [130, byteOf ((c.length : Int).fdiv 256), byteOf c.length] := by unfold lenS; rw [if_neg (by omega), if_neg (by omega), if_pos h3]
   have hb : (byteOf (c.length : Int)).toNat = c.length % 256 := q1w _
   have hb2 : (byteOf ((c.length : Int).fdiv 256)).toNat = c.length / 256 := by rw [e1, q1w]; omega
   have h130 : (130 : UInt8).toNat = 130 := rfl
   have hv : c.length / 256 * 256 + c.length % 256 = c.length := by omega
   rw [hL]
   unfold meas measE
   simp only [List.cons_append, List.nil_append, List.length_cons, List.length_append, List.getD_cons_succ, List.getD_cons_zero, h130, List.length_nil, List.drop_succ_cons, List.drop_zero, Nat.reduceSub, List.take_succ_cons, List.take_zero, beN2, hb, hb2, hv, minLen]
   rw [if_neg (by omega), if_neg (by omega), if_neg (by omega), if_neg (by omega), if_neg (by omega), if_neg (by omega)]
 have hL : lenS c.length = [131, byteOf ((c.length : Int).fdiv 65536), byteOf ((c.length : Int).fdiv 256), byteOf c.length] := by unfold lenS; rw [if_neg (by omega), if_neg (by omega), if_neg (by omega)]
 have hb : (byteOf (c.length : Int)).toNat = c.length % 256 := q1w _
 have hb2 : (byteOf ((c.length : Int).fdiv 256)).toNat = c.length / 256 % 256 := by rw [e1, q1w]
 have hb3 : (byteOf ((c.length : Int).fdiv 65536)).toNat = c.length / 65536 := by rw [e2, q1w]; omega
 have h131 : (131 : UInt8).toNat = 131 := rfl
 have hv : (c.length / 65536 * 256 + c.length / 256 % 256) * 256 + c.length % 256 = c.length := by omega
 rw [hL]
 unfold meas measE
 simp only [List.cons_append, List.nil_append, List.length_cons, List.length_append, List.getD_cons_succ, List.getD_cons_zero, h131, List.length_nil, List.drop_succ_cons, List.drop_zero, Nat.reduceSub, List.take_succ_cons, List.take_zero, beN3, hb, hb2, hb3, hv, minLen]
 rw [if_neg (by omega), if_neg (by omega), if_neg (by omega), if_neg (by omega), if_neg (by omega), if_neg (by omega)]

def takeE (tag : UInt8) (r : List UInt8) : Nat := if r.length = 0 then 4 else if r.getD 0 0 ≠ tag then 6 else (meas r).2.2
def takeC (r : List UInt8) : List UInt8 := (r.take (meas r).2.1).drop (meas r).1
def takeN (r : List UInt8) : Nat := (meas r).2.1
theorem q0U (t : UInt8) (c : List UInt8) : (tlv t c).length = 1 + (lenS c.length).length + c.length := by simp [tlv]; omega
theorem q9R (t : UInt8) (c r : List UInt8) (h : c.length ≤ 16777215) : takeE t (tlv t c ++ r) = 0 := by
 unfold takeE
 rw [q4s t c r h, if_neg (by simp [tlv]), if_neg (by simp [tlv])]
theorem q6h (t : UInt8) (c r : List UInt8) (h : c.length ≤ 16777215) : takeC (tlv t c ++ r) = c := by
 unfold takeC
 rw [q4s t c r h, List.take_append_of_le_length (by rw [q0U]; exact Nat.le_refl _), List.take_of_length_le (by rw [q0U]; exact Nat.le_refl _)]
 have : tlv t c = (t :: lenS c.length) ++ c := rfl
 rw [this, List.drop_append_of_le_length (by simp; omega), List.drop_of_length_le (by simp; omega), List.nil_append]
theorem q8Z (t : UInt8) (c r : List UInt8) (h : c.length ≤ 16777215) : takeN (tlv t c ++ r) = (tlv t c).length := by
 unfold takeN
 rw [q4s t c r h, q0U]
theorem z0H {r : List UInt8} (h : (meas r).2.2 = 0) : 2 ≤ (meas r).1 ∧ (meas r).1 ≤ (meas r).2.1 ∧ (meas r).2.1 ≤ r.length := by
 have key : ∀ a n, (measE r a n).2.2 = 0 → 2 ≤ a → a ≤ r.length → 2 ≤ (measE r a n).1 ∧ (measE r a n).1 ≤ (measE r a n).2.1 ∧ (measE r a n).2.1 ≤ r.length := by
  intro a n h1 h2 h3
  unfold measE at h1 ⊢
  split at h1
  · cases h1
  rename_i hh; rw [if_neg hh]; simp only; omega
 unfold meas at h ⊢
 repeat' split at h
 all_goals first | (cases h; done) | skip
 · rename_i g1 g2; rw [if_neg g1, if_pos g2]; exact key _ _ h (by omega) (by omega)
 rename_i g1 g2 g3 g4 g5; rw [if_neg g1, if_neg g2, if_neg g3, if_neg g4, if_neg g5]; exact key _ _ h (by omega) (by omega)
theorem z1C {t : UInt8} {r : List UInt8} (h : takeE t r = 0) : (meas r).2.2 = 0 := by
 unfold takeE at h
 split at h
 · cases h
 split at h
 · cases h
 exact h
theorem q4N {t : UInt8} {r : List UInt8} (h : takeE t r = 0) : takeN r ≤ r.length := (z0H (z1C h)).2.2
theorem z5h {t : UInt8} {r : List UInt8} (h : takeE t r = 0) : 2 ≤ takeN r := by have := z0H (z1C h); unfold takeN; omega
theorem q3K (r : List UInt8) : (takeC r).length ≤ r.length := by unfold takeC; rw [List.length_drop, List.length_take]; omega

abbrev PR (α : Type) := List UInt8 → Except Nat (α × Nat)
def rdP {α : Type} (tag : UInt8) (dec : List UInt8 → Option α) : PR α := fun r =>
 if takeE tag r = 0 then match dec (takeC r) with
  | some v => .ok (v, takeN r)
  | none => .error 6
 else .error (takeE tag r)
def allP {α : Type} (p : PR α) (c : List UInt8) : Except Nat α := match p c with
 | .error e => .error e
 | .ok (v, m) => if m < c.length then .error 6 else .ok v
def inP {α : Type} (tag : UInt8) (p : PR α) : PR α := fun r =>
 if takeE tag r = 0 then match allP p (takeC r) with
  | .ok v => .ok (v, takeN r)
  | .error e => .error e
 else .error (takeE tag r)
def tagB (n : Nat) : UInt8 := byteOf (160 + n)
def nextB (n : Nat) (r : List UInt8) : Bool := decide (r.length ≠ 0) && decide (r.getD 0 0 = tagB n)
def mayP {α : Type} (n : Nat) (p : PR α) : PR (Option α) := fun r =>
 if nextB n r then match inP (tagB n) p r with
  | .ok (v, k) => .ok (some v, k)
  | .error e => .error e
 else .ok (none, 0)
def needP {α : Type} (n : Nat) (p : PR α) : PR α := fun r =>
 if nextB n r then inP (tagB n) p r else .error (if r.length = 0 then 4 else 6)
def dfltP {α : Type} (d : α) (n : Nat) (p : PR α) : PR α := fun r => match mayP n p r with
 | .ok (some v, k) => .ok (v, k)
 | .ok (none, k) => .ok (d, k)
 | .error e => .error e
def bindP {α β : Type} (p : PR α) (f : α → PR β) : PR β := fun r => match p r with
 | .error e => .error e
 | .ok (v, k) => match f v (r.drop k) with
  | .error e => .error e
  | .ok (u, m) => .ok (u, k + m)
def retP {α : Type} (v : α) : PR α := fun _ => .ok (v, 0)
def listP {α : Type} (p : PR α) : Nat → PR (List α)
 | 0, r => if r.length = 0 then .ok ([], 0) else .error 6
 | n + 1, r => if r.length = 0 then .ok ([], 0) else match p r with
  | .error e => .error e
  | .ok (v, k) => match listP p n (r.drop k) with
   | .error e => .error e
   | .ok (l, m) => .ok (v :: l, k + m)

theorem q4R {α : Type} {t : UInt8} {dec : List UInt8 → Option α} {c : List UInt8} {v : α} (h : c.length ≤ 16777215) (hd : dec c = some v) (r : List UInt8) : rdP t dec (tlv t c ++ r) = .ok (v, (tlv t c).length) := by
 unfold rdP
 rw [q9R t c r h, q6h t c r h, q8Z t c r h, hd]; rfl
theorem q3C {α : Type} {t : UInt8} {p : PR α} {c : List UInt8} {v : α} (h : c.length ≤ 16777215) (hp : p c = .ok (v, c.length)) (r : List UInt8) : inP t p (tlv t c ++ r) = .ok (v, (tlv t c).length) := by
 unfold inP allP
 rw [q9R t c r h, q6h t c r h, q8Z t c r h, hp]
 simp
theorem q9l (n : Nat) (c r : List UInt8) : nextB n (tlv (tagB n) c ++ r) = true := by simp [nextB, tlv]
theorem z4G {α : Type} {n : Nat} {p : PR α} {c : List UInt8} {v : α} (h : c.length ≤ 16777215) (hp : p c = .ok (v, c.length)) (r : List UInt8) : needP n p (tlv (tagB n) c ++ r) = .ok (v, (tlv (tagB n) c).length) := by
 unfold needP
 rw [if_pos (q9l n c r), q3C h hp]
theorem z5K {α : Type} {d : α} {n : Nat} {p : PR α} {c : List UInt8} {v : α} (h : c.length ≤ 16777215) (hp : p c = .ok (v, c.length)) (r : List UInt8) : dfltP d n p (tlv (tagB n) c ++ r) = .ok (v, (tlv (tagB n) c).length) := by
 unfold dfltP mayP
 rw [if_pos (q9l n c r), q3C h hp]
theorem q7H {α : Type} {d : α} {n : Nat} {p : PR α} {r : List UInt8} (h : nextB n r = false) : dfltP d n p r = .ok (d, 0) := by
 unfold dfltP mayP
 rw [h]; rfl
theorem q1j {t : UInt8} {c : List UInt8} (h : c.length ≤ 16777215) : elemS t [c] = tlv t c := by
 unfold elemS; simp only [List.flatten_cons, List.flatten_nil, List.append_nil]; rw [if_pos h]
theorem q1n {t : UInt8} {l : List (List UInt8)} (h : l.flatten.length ≤ 16777215) : elemS t l = tlv t l.flatten := by unfold elemS; rw [if_pos h]
theorem q7U (n : Nat) (h : n ≤ 30) : (tagB n).toNat = 160 + n := by
 unfold tagB
 have : (160 + (n : Int)) = ((160 + n : Nat) : Int) := by omega
 rw [this, q1w]; omega
theorem z8k {n m : Nat} (hn : n ≤ 30) (hm : m ≤ 30) (h : tagB n = tagB m) : n = m := by
 have := congrArg UInt8.toNat h
 rw [q7U n hn, q7U m hm] at this; omega
theorem q3f {n : Nat} {b : List UInt8} (hn : n ≤ 30) (h : b.length ≤ 16777215) : wrapS 160 n b = if b = [] then [] else tlv (tagB n) b := by
 unfold wrapS
 by_cases hb : b = []
 · rw [if_neg (fun q => q.2.2 hb), if_pos hb]
 rw [if_pos ⟨by omega, by omega, hb⟩, if_neg hb, q1j h]; rfl
def sufS (l : List (List UInt8)) (n k : Nat) : List UInt8 := ((List.range' n k).map fun j => wrapS 160 (j : Nat) (l.getD j [])).flatten
theorem q0T (l : List (List UInt8)) (n k : Nat) : sufS l n (k + 1) = wrapS 160 (n : Nat) (l.getD n []) ++ sufS l (n + 1) k := by simp [sufS, List.range'_succ]
theorem q4F (l : List (List UInt8)) : (tagN l l.length).flatten = sufS l 0 l.length := by
 unfold tagN sufS; rw [List.range_eq_range']; rfl
theorem z1P (l : List (List UInt8)) (hl : ∀ j, (l.getD j []).length ≤ 16777215) : ∀ (k n : Nat), n + k ≤ 31 → ∀ i, i < n → nextB i (sufS l n k) = false
 | 0, n, _, i, _ => by simp [sufS, nextB]
 | k + 1, n, hn, i, hi => by
  rw [q0T, q3f (by omega) (hl n)]
  split
  · rw [List.nil_append]; exact z1P l hl k (n + 1) (by omega) i (by omega)
  simp only [tlv, List.cons_append, nextB, List.length_cons, List.getD_cons_zero, Bool.and_eq_false_iff, decide_eq_false_iff_not]
  exact .inr fun e => by have := z8k (by omega) (by omega) e; omega
theorem q1y {α : Type} {l : List (List UInt8)} {p : PR α} {v : α} {n k : Nat} (hl : ∀ j, (l.getD j []).length ≤ 16777215) (hn : n ≤ 30) (h0 : l.getD n [] ≠ []) (hp : p (l.getD n []) = .ok (v, (l.getD n []).length)) :
 needP n p (sufS l n (k + 1)) = .ok (v, (wrapS 160 (n : Nat) (l.getD n [])).length) ∧ (sufS l n (k + 1)).drop (wrapS 160 (n : Nat) (l.getD n [])).length = sufS l (n + 1) k := by
 rw [q0T, List.drop_left]
 refine ⟨?_, rfl⟩
 rw [q3f hn (hl n), if_neg h0]
 exact z4G (hl n) hp _
theorem q8F {α : Type} {l : List (List UInt8)} {p : PR α} {d v : α} {n k : Nat} (hl : ∀ j, (l.getD j []).length ≤ 16777215) (hn : n + k ≤ 30) (hp : if l.getD n [] = [] then v = d else p (l.getD n []) = .ok (v, (l.getD n []).length)) :
 dfltP d n p (sufS l n (k + 1)) = .ok (v, (wrapS 160 (n : Nat) (l.getD n [])).length) ∧ (sufS l n (k + 1)).drop (wrapS 160 (n : Nat) (l.getD n [])).length = sufS l (n + 1) k := by
 rw [q0T, List.drop_left]
 refine ⟨?_, rfl⟩
 rw [q3f (by omega) (hl n)]
 split
 · rename_i h0
   rw [if_pos h0] at hp
   rw [List.nil_append, q7H (z1P l hl k (n + 1) (by omega) n (by omega)), hp]; rfl
 rename_i h0
 rw [if_neg h0] at hp
 exact z5K (hl n) hp _
theorem q3d {α β : Type} {p : PR α} {f : α → PR β} {r r' : List UInt8} {v : α} {k : Nat} {u : β} {m : Nat} (h : p r = .ok (v, k) ∧ r.drop k = r') (h2 : f v r' = .ok (u, m)) : bindP p f r = .ok (u, k + m) := by
 unfold bindP; rw [h.1]; simp only; rw [h.2, h2]
theorem q8O {α : Type} {p : PR α} {enc : α → List UInt8} : ∀ (l : List α) (n : Nat), l.length ≤ n → (∀ x ∈ l, enc x ≠ [] ∧ ∀ r, p (enc x ++ r) = .ok (x, (enc x).length)) → listP p n (l.map enc).flatten = .ok (l, (l.map enc).flatten.length)
 | [], 0, _, _ => rfl
 | [], n + 1, _, _ => rfl
 | x :: l, 0, h, _ => absurd h (by simp)
 | x :: l, n + 1, h, hx => by
  obtain ⟨h0, h1⟩ := hx x (by simp)
  have h2 := q8O l n (by simpa using h) (fun y hy => hx y (by simp [hy]))
  simp only [List.map_cons, List.flatten_cons, listP]
  rw [if_neg (by simp; intro e; exact absurd e h0), h1]
  simp only [List.drop_left]
  rw [h2]; simp
@[go_sem] abbrev rdr (b : List UInt8) (n : Nat) : SObj := .cells 223 [.isl .u8 b, rI n, .raw (.bool true)]
theorem q9h (b : List UInt8) (n : Nat) (hn : n ≤ b.length) : PE Tryz.prog 251 [.ptr 0 0] [rdr b n] (.ret (.isl .u8 (b.drop n))) [rdr b n] := by
 refine q0c (Nat.le_refl _) ?_
 refine rQ fi251 ?_
 refine ⟨⟨by omega, hn, Nat.le_refl _⟩, ?_⟩
 rw [List.take_length]
theorem q2C (b : List UInt8) (n : Nat) (hn : n ≤ b.length) : PE Tryz.prog 227 [.ptr 0 0] [rdr b n] (.ret (rI ((b.length - n : Nat) : Int))) [rdr b n] := by
 refine q0c (Nat.le_refl _) ?_
 refine rQ fi227 ?_
 refine eQ [0] (q9h b n hn) ?_
 rw [List.length_drop]
theorem j1G (b : List UInt8) (n : Nat) (hn : n ≤ b.length) : PE Tryz.prog 182 [.ptr 0 0] [rdr b n] (.ret (rI (if n < b.length then 5 else 0))) [rdr b n] := by
 refine q0c (Nat.le_refl _) ?_
 refine rQ fi182 ?_
 refine eQ [0] (q2C b n hn) ?_
 refine ⟨fun h => ?_, fun h => ?_⟩
 · rw [if_pos (by omega)]
 rw [if_neg (by omega)]
theorem z5b (b : List UInt8) : PE Tryz.prog 180 [.isl .u8 b] [] (.ret (.ptr 0 0)) [rdr b 0] := by
 refine q0c (Nat.zero_le _) ?_
 refine rQ fi180 ?_; trivial
theorem z1e (b : List UInt8) : PE Tryz.prog 209 [.isl .u8 b] [] (.ret (.tup [.ptr 0 0, rB true])) [rdr b 0] := by
 refine q0c (Nat.zero_le _) ?_
 refine rQ fi209 ?_
 refine eQ [] (z5b b) ?_; trivial
theorem q7E (tag : UInt8) (b : List UInt8) (n : Nat) (hn : n ≤ b.length) (hb : b.length ≤ 1099511627776) :
 PE Tryz.prog 250 [.ptr 0 0, .raw (.int .u8 tag.toNat)] [rdr b n] (.ret (.tup [.isl .u8 (if takeE tag (b.drop n) = 0 then takeC (b.drop n) else []), rI (takeE tag (b.drop n))])) [rdr b (if takeE tag (b.drop n) = 0 then n + takeN (b.drop n) else n)] := by
 have hr := q9h b n hn
 have hlr : (b.drop n).length = b.length - n := List.length_drop
 have hm := z5w (b.drop n) (by omega)
 have hok := @q4N tag (b.drop n)
 generalize hR : b.drop n = r at *
 have hE : takeE tag r = if r.length = 0 then 4 else if r.getD 0 0 ≠ tag then 6 else (meas r).2.2 := rfl
 refine q0c (Nat.le_refl _) ?_
 refine rQ fi250 ?_
 refine eQ [0] (hr) ?_
 refine ⟨fun h => ?_, fun h => ?_⟩
 · rw [if_pos (by omega)] at hE
   rw [hE]
   exact ⟨⟨rfl, rfl⟩, rfl⟩
 rw [if_neg (by omega)] at hE
 refine ⟨by omega, fun h2 => ?_, fun h2 => ?_⟩
 · rw [if_pos (fun e => h2 (by subst e; rfl))] at hE
   rw [hE]
   exact ⟨⟨rfl, rfl⟩, rfl⟩
 have : r.getD 0 0 = tag := by
  apply UInt8.toNat_inj.1
  have : ((r.getD 0 Ty.u8.dflt).toNat : Int) = tag.toNat := h2
  exact_mod_cast this
 rw [if_neg (by simpa using this)] at hE
 refine q0a hm ?_
 unfold measV
 refine gQ ?_
 refine ⟨fun h3 => ?_, fun h3 => ?_⟩
 · have h3' : ¬ (meas r).2.2 = 0 := by omega
   rw [hE, if_neg h3', if_neg h3']
   exact ⟨⟨rfl, rfl⟩, rfl⟩
 have h3' : (meas r).2.2 = 0 := by omega
 have hk := z0H h3'
 rw [hE, if_pos h3', if_pos h3', wrapi (by omega), h3']
 exact ⟨⟨by omega, hk.2.1, Nat.le_refl _, hk.2.2⟩, ⟨rfl, rfl⟩, congrArg (Value.int .i64) (by unfold takeN; omega)⟩
theorem q5A (g : Nat) (tag : UInt8) (b : List UInt8) (n : Nat) (hn : n ≤ b.length) (hb : b.length ≤ 1099511627776) (v : SV) (right : Bool) (hg : PC Tryz.prog g [.isl .u8 (takeC (b.drop n))] (.tup [v, rB right])) (hv : ∃ u, (v = .raw u) ∨ ∃ xs, v = .isl .u8 xs) :
 PE Tryz.prog 217 [.ptr 0 0, .raw (.int .u8 tag.toNat), .fn g [] []] [rdr b n] (.ret (if takeE tag (b.drop n) = 0 then (if right then .tup [v, rI 0] else .tup [.raw (.int .i64 0), rI 6]) else .tup [.raw (.int .i64 0), rI (takeE tag (b.drop n))])) [rdr b (if takeE tag (b.drop n) = 0 ∧ right = true then n + takeN (b.drop n) else n)] := by
 have ht := q7E tag b n hn hb
 generalize takeE tag (b.drop n) = e at *
 generalize takeC (b.drop n) = c at *
 generalize takeN (b.drop n) = k at *
 refine q0c (Nat.le_refl _) ?_
 refine rQ fi217 ?_
 refine eQ [0] (ht) ?_
 refine ⟨fun h => ?_, fun h => ?_⟩
 · have h' : ¬ e = 0 := by omega
   simp only [if_neg h', h', false_and, if_false]
   with_reducible refine sxE ?_; trivial
 obtain rfl : e = 0 := by omega
 simp only [true_and, if_true]
 refine q0a hg ?_
 obtain ⟨u, rfl | ⟨xs, rfl⟩⟩ := hv
 · cases right
   · refine uQ 600 _ ?_
     simp (maxSteps := 3000000) only [Bool.false_eq_true, if_false, go_sem, ↓zA, ↓reduceIte, ↓reduceDIte] <;> try simp only [zB]
   refine gQ ?_; trivial
 cases right
 · refine uQ 600 _ ?_
   simp (maxSteps := 3000000) only [Bool.false_eq_true, if_false, go_sem, ↓zA, ↓reduceIte, ↓reduceDIte] <;> try simp only [zB]
 refine gQ ?_; trivial
theorem z2r (g : Nat) (tag : UInt8) (b : List UInt8) (n : Nat) (hn : n ≤ b.length) (hb : b.length ≤ 1099511627776) (v : SV) (right : Bool) (hg : PC Tryz.prog g [.isl .u8 (takeC (b.drop n))] (.tup [v, rB right])) (hv : ∃ u, (v = .raw u) ∨ ∃ xs, v = .isl .u8 xs) :
 PE Tryz.prog 256 [.ptr 0 0, .raw (.int .u8 tag.toNat), .fn g [] []] [rdr b n] (.ret (if takeE tag (b.drop n) = 0 then (if right then .tup [v, rI 0] else .tup [.raw (.string ⟨#[]⟩), rI 6]) else .tup [.raw (.string ⟨#[]⟩), rI (takeE tag (b.drop n))])) [rdr b (if takeE tag (b.drop n) = 0 ∧ right = true then n + takeN (b.drop n) else n)] := by
 have ht := q7E tag b n hn hb
 generalize takeE tag (b.drop n) = e at *
 generalize takeC (b.drop n) = c at *
 generalize takeN (b.drop n) = k at *
 refine q0c (Nat.le_refl _) ?_
 refine rQ fi256 ?_
 refine eQ [0] (ht) ?_
 refine ⟨fun h => ?_, fun h => ?_⟩
 · have h' : ¬ e = 0 := by omega
   simp only [if_neg h', h', false_and, if_false]
   with_reducible refine sxE ?_; trivial
 obtain rfl : e = 0 := by omega
 simp only [true_and, if_true]
 refine q0a hg ?_
 obtain ⟨u, rfl | ⟨xs, rfl⟩⟩ := hv
 · cases right
   · refine uQ 600 _ ?_
     simp (maxSteps := 3000000) only [Bool.false_eq_true, if_false, go_sem, ↓zA, ↓reduceIte, ↓reduceDIte] <;> try simp only [zB]
   refine gQ ?_; trivial
 cases right
 · refine uQ 600 _ ?_
   simp (maxSteps := 3000000) only [Bool.false_eq_true, if_false, go_sem, ↓zA, ↓reduceIte, ↓reduceDIte] <;> try simp only [zB]
 refine gQ ?_; trivial
theorem z1R (g : Nat) (tag : UInt8) (b : List UInt8) (n : Nat) (hn : n ≤ b.length) (hb : b.length ≤ 1099511627776) (v : SV) (right : Bool) (hg : PC Tryz.prog g [.isl .u8 (takeC (b.drop n))] (.tup [v, rB right])) (hv : ∃ u, (v = .raw u) ∨ ∃ xs, v = .isl .u8 xs) :
 PE Tryz.prog 221 [.ptr 0 0, .raw (.int .u8 tag.toNat), .fn g [] []] [rdr b n] (.ret (if takeE tag (b.drop n) = 0 then (if right then .tup [v, rI 0] else .tup [.raw (.int .u32 0), rI 6]) else .tup [.raw (.int .u32 0), rI (takeE tag (b.drop n))])) [rdr b (if takeE tag (b.drop n) = 0 ∧ right = true then n + takeN (b.drop n) else n)] := by
 have ht := q7E tag b n hn hb
 generalize takeE tag (b.drop n) = e at *
 generalize takeC (b.drop n) = c at *
 generalize takeN (b.drop n) = k at *
 refine q0c (Nat.le_refl _) ?_
 refine rQ fi221 ?_
 refine eQ [0] (ht) ?_
 refine ⟨fun h => ?_, fun h => ?_⟩
 · have h' : ¬ e = 0 := by omega
   simp only [if_neg h', h', false_and, if_false]
   with_reducible refine sxE ?_; trivial
 obtain rfl : e = 0 := by omega
 simp only [true_and, if_true]
 refine q0a hg ?_
 obtain ⟨u, rfl | ⟨xs, rfl⟩⟩ := hv
 · cases right
   · refine uQ 600 _ ?_
     simp (maxSteps := 3000000) only [Bool.false_eq_true, if_false, go_sem, ↓zA, ↓reduceIte, ↓reduceDIte] <;> try simp only [zB]
   refine gQ ?_; trivial
 cases right
 · refine uQ 600 _ ?_
   simp (maxSteps := 3000000) only [Bool.false_eq_true, if_false, go_sem, ↓zA, ↓reduceIte, ↓reduceDIte] <;> try simp only [zB]
 refine gQ ?_; trivial
theorem q7D (g : Nat) (tag : UInt8) (b : List UInt8) (n : Nat) (hn : n ≤ b.length) (hb : b.length ≤ 1099511627776) (v : SV) (right : Bool) (hg : PC Tryz.prog g [.isl .u8 (takeC (b.drop n))] (.tup [v, rB right])) (hv : ∃ u, (v = .raw u) ∨ ∃ xs, v = .isl .u8 xs) :
 PE Tryz.prog 254 [.ptr 0 0, .raw (.int .u8 tag.toNat), .fn g [] []] [rdr b n] (.ret (if takeE tag (b.drop n) = 0 then (if right then .tup [v, rI 0] else .tup [.isl .u8 [], rI 6]) else .tup [.isl .u8 [], rI (takeE tag (b.drop n))])) [rdr b (if takeE tag (b.drop n) = 0 ∧ right = true then n + takeN (b.drop n) else n)] := by
 have ht := q7E tag b n hn hb
 generalize takeE tag (b.drop n) = e at *
 generalize takeC (b.drop n) = c at *
 generalize takeN (b.drop n) = k at *
 refine q0c (Nat.le_refl _) ?_
 refine rQ fi254 ?_
 refine eQ [0] (ht) ?_
 refine ⟨fun h => ?_, fun h => ?_⟩
 · have h' : ¬ e = 0 := by omega
   simp only [if_neg h', h', false_and, if_false]
   with_reducible refine sxE ?_; trivial
 obtain rfl : e = 0 := by omega
 simp only [true_and, if_true]
 refine q0a hg ?_
 obtain ⟨u, rfl | ⟨xs, rfl⟩⟩ := hv
 · cases right
   · refine uQ 600 _ ?_
     simp (maxSteps := 3000000) only [Bool.false_eq_true, if_false, go_sem, ↓zA, ↓reduceIte, ↓reduceDIte] <;> try simp only [zB]
   refine gQ ?_; trivial
 cases right
 · refine uQ 600 _ ?_
   simp (maxSteps := 3000000) only [Bool.false_eq_true, if_false, go_sem, ↓zA, ↓reduceIte, ↓reduceDIte] <;> try simp only [zB]
 refine gQ ?_; trivial
theorem u8w (x : Int) : IntKind.u8.wrap x = x % 256 := by simp [IntKind.wrap, IntKind.bits, IntKind.signed]
theorem z5o (n : Nat) : UInt8.ofNat (IntKind.u8.wrap ((n : Int).tmod 256)).toNat = byteOf n := by
 unfold byteOf
 rw [u8w, u8w, Int.tmod_eq_emod_of_nonneg (by omega), Int.emod_emod_of_dvd _ (by decide)]
theorem z0x (n : Nat) (k : Nat) : (n : Int).tdiv k = ((n / k : Nat) : Int) := by
 rw [Int.tdiv_eq_ediv_of_nonneg (by omega)]; rfl
theorem z4s (n : Nat) (k : Nat) : (n : Int).fdiv k = ((n / k : Nat) : Int) := by
 rw [Int.fdiv_eq_ediv_of_nonneg _ (by omega)]; rfl
theorem j2N (tag : Int) (c : List UInt8) (hc : c.length ≤ 1048576) : PC Tryz.prog 119 [rI tag, .isl .u8 c] (.isl .u8 (tlv (byteOf tag) c)) := by
 have q1 : IntKind.i64.wrap ((c.length : Int).tdiv 256) = ((c.length / 256 : Nat) : Int) := by rw [show (256 : Int) = ((256 : Nat) : Int) from rfl, z0x, wrapi (by omega)]
 have q2 : IntKind.i64.wrap ((c.length : Int).tdiv 65536) = ((c.length / 65536 : Nat) : Int) := by rw [show (65536 : Int) = ((65536 : Nat) : Int) from rfl, z0x, wrapi (by omega)]
 have f1 : (c.length : Int).fdiv 256 = ((c.length / 256 : Nat) : Int) := z4s _ 256
 have f2 : (c.length : Int).fdiv 65536 = ((c.length / 65536 : Nat) : Int) := z4s _ 65536
 have hd : tlv (byteOf tag) c = byteOf tag :: (lenS c.length ++ c) := rfl
 generalize tlv (byteOf tag) c = r at *
 refine q0e rfl rfl ?_
 refine q1J fi119 (q0l mixed 600 _ ?_)
 simp (maxSteps := 3000000) only [ir119, q1, q2, go_sem, ↓zA, ↓reduceIte, ↓reduceDIte] <;> try simp only [zB]
 refine ⟨q0Q _, fun h1 => ?_, fun h1 => ⟨fun h2 => ?_, fun h2 => ⟨fun h3 => ?_, fun h3 => ?_⟩⟩⟩
 · refine ⟨q0Q _, ⟨by omega, by omega⟩, ⟨by omega, by omega⟩, ?_⟩
   rw [List.take_of_length_le (by simp; omega), hd, show lenS c.length = [byteOf c.length] by unfold lenS; rw [if_pos (by omega)]]
   rfl
 · refine ⟨⟨rfl, q0Q _⟩, ⟨by omega, by omega⟩, ⟨by omega, by omega⟩, ?_⟩
   rw [List.take_of_length_le (by simp; omega), hd, show lenS c.length = [129, byteOf c.length] by unfold lenS; rw [if_neg (by omega), if_pos (by omega)]]
   rfl
 · refine ⟨by decide, by decide, ⟨rfl, q0Q _, q0Q _⟩, ⟨by omega, by omega⟩, ⟨by omega, by omega⟩, ?_⟩
   rw [List.take_of_length_le (by simp; omega), hd, z5o, show lenS c.length = [130, byteOf ((c.length : Int).fdiv 256), byteOf c.length] by unfold lenS; rw [if_neg (by omega), if_neg (by omega), if_pos (by omega)], f1]
   rfl
 refine ⟨by decide, by decide, by decide, by decide, ⟨rfl, q0Q _, q0Q _, q0Q _⟩, ⟨by omega, by omega⟩, ⟨by omega, by omega⟩, ?_⟩
 rw [List.take_of_length_le (by simp; omega), hd, z5o, z5o, show lenS c.length = [131, byteOf ((c.length : Int).fdiv 65536), byteOf ((c.length : Int).fdiv 256), byteOf c.length] by unfold lenS; rw [if_neg (by omega), if_neg (by omega), if_neg (by omega)], f1, f2]
 rfl
theorem q5y (t : UInt8) (tag : Int) (ht : byteOf tag = t) (c : List UInt8) (hc : c.length ≤ 1048576) : PC Tryz.prog 119 [rI tag, .isl .u8 c] (.isl .u8 (elemS t [c])) := by
 have h := j2N tag c hc
 rw [ht] at h
 have e : elemS t [c] = tlv t c := by unfold elemS; simp only [List.flatten_cons, List.flatten_nil, List.append_nil]; rw [if_pos (by omega)]
 rwa [← e] at h
theorem z8D (s : ByteArray) (hs : s.size ≤ 1048576) : PC Tryz.prog 122 [rS s] (.isl .u8 (elemS 27 [s.data.toList])) := by
 have hl : (bytesOf s).length = s.size := by simp [bytesOf]
 refine q0e rfl rfl ?_
 refine rQ fi122 ?_
 refine q0v 0 ?_
 with_reducible refine sxE ?_
 refine ⟨by omega, by omega, ?_⟩
 rw [List.take_of_length_le (by omega)]
 refine q0a (q5y 27 27 (by decide) _ (by omega)) ?_
 refine gQ ?_
 rfl
theorem z8L (b : List UInt8) (hb : b.length ≤ 1048576) : PC Tryz.prog 120 [.isl .u8 b] (.isl .u8 (elemS 4 [b])) := by
 refine q0e rfl rfl ?_
 refine rQ fi120 ?_
 refine q0a (q5y 4 4 (by decide) _ hb) ?_
 refine gQ ?_; trivial
theorem q2X (a : Bool) (b : List UInt8) : PC Tryz.prog 56 [rB a, .isl .u8 b] (.isl .u8 (if a then [] else b)) := by
 refine q0e rfl rfl ?_
 refine rQ fi56 ?_
 cases a <;> simp
theorem q9A (t : UInt8) (l : List (List UInt8)) : elemS t [l.flatten] = elemS t l := by unfold elemS; simp
theorem q1m (n : Int) (hn : 0 ≤ n ∧ n ≤ 30) (b : List UInt8) (hb : b.length ≤ 1048576) : PC Tryz.prog 53 [rI n, .isl .u8 b] (.isl .u8 (wrapS 160 n b)) := by
 refine q0e rfl rfl ?_
 refine rQ fi53 ?_
 refine ⟨fun h => ?_, fun h => ?_⟩
 · unfold wrapS; rw [if_neg (fun h' => h'.2.2 (List.length_eq_zero_iff.1 (by omega)))]
 rw [wrapi (by omega)]
 refine q0a (q5y (byteOf (160 + n)) _ rfl _ hb) ?_
 refine gQ ?_
 unfold wrapS; rw [if_pos ⟨hn.1, hn.2, fun e => h (by rw [e]; rfl)⟩]
theorem q6Q (l : List (List UInt8)) (hl : l.length ≤ 1048576) (hf : l.flatten.length ≤ 1048576) : PC Tryz.prog 52 [.isl (.slice .u8) l] (.isl .u8 (elemS 48 l)) := by
 refine q0e rfl rfl ?_
 refine rQ fi52 ?_
 refine q1U 3 .u8 (flatN l) (fun i => [(4, rI i)]) l.length (fun _ => True) rfl (by simp) (by simp [flatN]) rfl (fun i => rfl) ?_ fun i hi _ => ?_
 · with_reducible refine sxE ?_; trivial
 have hwr := wsx i (by omega)
 have hle := q2J l i
 refine gQ ?_
 refine ⟨fun hlt => ?_, fun hge => ?_⟩
 · have hst := q2d hlt
   have hle' := q2J l (i + 1)
   rw [hst, List.length_append] at hle'
   refine ⟨⟨by omega, hlt⟩, ⟨by omega, by omega⟩, q1b [.dead] [] hlt trivial (by rw [hst]; rfl) ?_⟩
   with_reducible refine sx3 hwr hst ?_; trivial
 obtain rfl : i = l.length := by omega
 rw [q3x] at *
 refine q0v 0 ?_
 with_reducible refine sxE ?_
 refine ⟨by omega, Nat.le_refl _, ?_⟩
 rw [List.take_of_length_le (Nat.le_refl _)]
 refine q0a (q5y 48 48 (by decide) l.flatten hf) ?_
 refine gQ ?_
 exact q9A 48 l
theorem q4f {x : Int} (h : 0 ≤ x) : UInt8.ofNat (IntKind.u8.wrap (x.tmod 256)).toNat = byteOf x := by
 unfold byteOf
 rw [u8w, u8w, Int.tmod_eq_emod_of_nonneg h, Int.emod_emod_of_dvd _ (by decide)]
theorem q9j {v : Int} {n k : Nat} (h : k < n) : (numS v n).take (k + 1) = (numS v n).take k ++ [byteAt v (n - 1 - k)] := by
 rw [q0z (d := 0) (by simp [numS]; omega)]
 congr 2
 rw [List.getD_eq_getElem?_getD, List.getElem?_eq_getElem (by simp [numS]; omega)]
 simp [numS]
theorem j2Q (v : Int) (n : Nat) (hv : 0 ≤ v) (hn : n ≤ 7) : PC Tryz.prog 121 [rI v, rI n] (.isl .u8 (numS v n)) := by
 have hl : (numS v n).length = n := by simp [numS]
 have w0 : IntKind.i64.wrap ((n : Int) - 1) = (n : Int) - 1 := wrapi (by omega)
 refine q0e rfl rfl ?_
 refine q1J fi121 (q0l mixed 600 _ ?_)
 simp (maxSteps := 3000000) only [ir121, w0, go_sem, ↓zA, ↓reduceIte, ↓reduceDIte] <;> try simp only [zB]
 refine q1U 5 .u8 (fun k => (numS v n).take k) (fun k => [(6, rI ((n : Int) - 1 - k))]) n (fun _ => True) rfl (by simp) (by simp) rfl (fun i => rfl) ?_ fun k hk _ => ?_
 · with_reducible refine sxE ?_
   simp
 have hln : ((numS v n).take k).length = k := by simp [numS]; omega
 have w1 : IntKind.i64.wrap (8 * ((n : Int) - 1 - k)) = 8 * ((n : Int) - 1 - k) := wrapi (by omega)
 have w2 : IntKind.i64.wrap ((n : Int) - 1 - k - 1) = (n : Int) - 1 - ((k + 1 : Nat) : Int) := by rw [wrapi (by omega)]; omega
 refine uQ 600 _ ?_
 simp (maxSteps := 3000000) only [w1, w2, go_sem, ↓zA, ↓reduceIte, ↓reduceDIte] <;> try simp only [zB]
 refine ⟨fun hlt => ?_, fun hge => ?_⟩
 · have hkn : k < n := by omega
   have hst := q9j (v := v) hkn
   have e8 : (8 * ((n : Int) - 1 - k)).toNat = 8 * (n - 1 - k) := by omega
   have hb : UInt8.ofNat (IntKind.u8.wrap ((v.fdiv (2 ^ min (8 * (n - 1 - k)) 64)).tmod 256)).toNat = byteAt v (n - 1 - k) := q4f (Int.fdiv_nonneg hv (by exact Int.pow_nonneg (by decide)))
   rw [e8, hb]
   refine ⟨by omega, by decide, by rw [← hb]; exact q0Q _, ⟨by omega, by omega⟩, q1b [_, _] [] hkn trivial (by rw [hst]; rfl) ?_⟩
   simp (maxSteps := 3000000) only [hst, List.length_append, go_sem, ↓zA, ↓reduceIte, ↓reduceDIte] <;> try simp only [zB]
 obtain rfl : k = n := by omega
 refine ⟨⟨Nat.le_refl _, by omega⟩, ?_⟩
 rw [List.take_of_length_le (by omega), List.take_of_length_le (by omega)]
theorem z5A (f : Int) (hf : 0 ≤ f ∧ f ≤ 4294967295) : PC Tryz.prog 58 [rI f] (.isl .u8 (bitsS f)) := by
 refine q0e rfl rfl ?_
 refine rQ fi58 ?_
 refine ⟨by simp, q0a (j2Q f 4 hf.1 (by decide)) ?_⟩
 have hl : (numS f 4).length = 4 := by simp [numS]
 refine uQ 600 _ ?_
 with_reducible refine sx1 hl ?_
 refine q0v 1 ?_
 with_reducible refine sx1 hl ?_
 refine q0a (q5y 3 3 (by decide) _ (by simp [numS])) ?_
 refine gQ ?_
 rw [List.take_of_length_le (by omega)]
 have e := q9A 3 [[0], numS f 4]
 simp only [List.flatten_cons, List.flatten_nil, List.append_nil, List.cons_append, List.nil_append] at e
 exact e
def qN (n k : Nat) : Nat := n / 256 ^ k
theorem q8d (n k : Nat) : qN n (k + 1) = qN n k / 256 := by unfold qN; rw [Nat.pow_succ, Nat.div_div_eq_div_mul]
theorem j2o (n k : Nat) : qN n k ≤ n := Nat.div_le_self _ _
theorem z5l (n : Nat) {k m : Nat} (h : k ≤ m) : qN n m ≤ qN n k := Nat.div_le_div_left (Nat.pow_le_pow_right (by decide) h) (Nat.pos_of_ne_zero (by simp))
theorem q2x (n k : Nat) : restN (n : Int) k = (qN n k : Int) := by
 induction k with
 | zero => simp [restN, qN]
 | succ k ih => rw [restN, ih, show (256 : Int) = ((256 : Nat) : Int) from rfl, z4s, q8d]
theorem pow28 (k : Nat) : (2 : Int) ^ (8 * k) = ((256 ^ k : Nat) : Int) := by
 rw [show (256 : Nat) = 2 ^ 8 from rfl, ← Nat.pow_mul]; push_cast; rfl
theorem q2e (n k : Nat) (hk : k ≤ 8) : byteAt (n : Int) k = byteOf (qN n k : Int) := by
 unfold byteAt
 rw [Nat.min_eq_left (by omega), pow28, z4s]; rfl
theorem q2h (v : Int) (m : Nat) : numS v (m + 1) = byteAt v m :: numS v m := by
 apply List.ext_getElem
 · simp [numS]
 intro j h1 h2
 cases j with
 | zero => simp [numS]
 | succ j =>
  simp only [numS, List.getElem_map, List.getElem_range, List.getElem_cons_succ]
  congr 1
  omega
theorem j1M (n : Nat) (hn : n ≤ 4611686018427387904) : PC Tryz.prog 55 [rI n] (.isl .u8 (intS n)) := by
 refine q0e rfl rfl ?_
 have q0 : IntKind.i64.wrap ((n : Int).tdiv 256) = (qN n 1 : Int) := by rw [show (256 : Int) = ((256 : Nat) : Int) from rfl, z0x, wrapi (by omega)]; rfl
 refine q1J fi55 (q0l mixed 600 _ ?_)
 simp (maxSteps := 3000000) only [ir55, q0, go_sem, ↓zA, ↓reduceIte, ↓reduceDIte] <;> try simp only [zB]
 refine ⟨by decide, q0Q _, by decide, ?_⟩
 rw [z5o]
 have h0 : [byteOf (n : Int)] = numS n 1 := by simp [numS, byteAt]
 rw [h0]
 refine q1f (ι := Nat × List SObj) (fun x => [(0, rI (qN n (x.1 + 1) : Int)), (3, .bld x.2.length .u8 (x.1 + 1))]) (fun x => x.2 ++ [.row .u8 (numS n (x.1 + 1))]) (fun x => 8 - x.1) (fun x => x.1 ≤ 7 ∧ (x.1 ≠ 0 → 0 < qN n x.1)) (0, []) ⟨by omega, fun h => absurd rfl h⟩ rfl ?_ ?_
 · with_reducible refine sxE ?_; trivial
 rintro ⟨j, G⟩ ⟨hj, hpos⟩
 dsimp only at hj hpos
 have hln : (numS (n : Int) (j + 1)).length = j + 1 := by simp [numS]
 have q1 : IntKind.i64.wrap ((qN n (j + 1) : Int).tdiv 256) = (qN n (j + 1 + 1) : Int) := by
  have h1 := j2o n (j + 1 + 1)
  rw [show (256 : Int) = ((256 : Nat) : Int) from rfl, z0x, ← q8d, wrapi (by omega)]
 have htk : List.take (j + 1) (numS (n : Int) (j + 1)) = numS n (j + 1) := List.take_of_length_le (by omega)
 have hdiv := q8d n
 have hbig : ∀ k, k < j → oneB (n : Int) k = false := fun k hk => by
  have h1 : qN n j ≤ qN n (k + 1) := z5l n (by omega)
  have h2 := hpos (by omega)
  have h3 := hdiv k
  unfold oneB
  rw [q2x, decide_eq_false (show ¬ ((qN n k : Int) ≤ 127) by omega)]
  simp
 refine uQ 600 _ ?_
 simp (maxSteps := 3000000) only [q1, hln, htk, List.append_assoc, getA, getA0, setA, setA0, List.length_append, Nat.add_assoc, go_sem, ↓zA, ↓reduceIte, ↓reduceDIte] <;> try simp only [zB]
 refine ⟨fun hp => ?_, fun hz => ?_⟩
 · have hj7 : j + 1 ≤ 7 := by
    rcases Nat.lt_or_ge j 7 with h | h
    · omega
    exfalso
    obtain rfl : j = 7 := by omega
    have h8 : qN n (7 + 1) = 0 := Nat.div_eq_of_lt (by omega)
    omega
   refine ⟨by decide, q0Q _, ⟨Nat.le_refl _, by omega, by omega⟩, by decide, (j + 1, G ++ [.row .u8 (numS n (j + 1)), .dead]), ⟨hj7, fun _ => by dsimp only; omega⟩, by dsimp only; omega, ?_, ?_⟩
   · dsimp only
     rw [q4f (by omega), ← q2e n (j + 1) (by omega), ← q2h, List.append_assoc]
     rfl
   with_reducible refine sxaE ?_
   exact congrArg (SV.bld (G.length + 2) .u8) (by omega)
 have hz0 : qN n (j + 1) = 0 := by omega
 have hd := hdiv j
 have hlt : qN n j < 256 := by omega
 have htop : (numS (n : Int) (j + 1)).getD 0 Ty.u8.dflt = byteOf (qN n j : Int) := by
  rw [q2h, List.getD_cons_zero, q2e n j (by omega)]
 have htn : ((byteOf (qN n j : Int)).toNat : Int) = (qN n j : Int) := by
  unfold byteOf
  rw [q0Q, u8w]; omega
 have hint : intS (n : Int) = elemS 2 [numS n (intSz n)] := by unfold intS; rw [if_pos (by omega)]
 rw [htop, htn]
 refine ⟨by omega, by omega, fun h128 => ⟨rfl, ⟨Nat.le_refl _, by omega, by omega⟩, ?_⟩, fun h128 => ?_⟩
 · have hsz : intSz (n : Int) = j + 1 + 1 := by
    unfold intSz
    rw [q3h (i := j + 1) (by omega) (by unfold oneB; rw [q2x, hz0]; rfl) (fun k hk => by
     rcases Nat.lt_or_ge k j with h | h
     · exact hbig k h
     obtain rfl : k = j := by omega
     unfold oneB; rw [q2x, decide_eq_false (show ¬ ((qN n k : Int) ≤ 127) by omega)]; simp)]
    simp; omega
   have hrow : UInt8.ofNat 0 :: numS (n : Int) (j + 1) = numS n (j + 1 + 1) := by
    rw [q2h (n : Int) (j + 1), q2e n (j + 1) (by omega), hz0]; rfl
   rw [hrow]
   have hl2 : (numS (n : Int) (j + 2)).length = j + 2 := by simp [numS]
   refine q0v (G.length + 2) ?_
   with_reducible refine sxaE ?_
   refine ⟨by omega, by omega, ?_⟩
   rw [List.take_of_length_le (by omega)]
   refine q0a (q5y 2 2 (by decide) _ (by omega)) ?_
   refine gQ ?_
   rw [hint, hsz]
 have hsz : intSz (n : Int) = j + 1 := by
  unfold intSz
  rw [q3h (i := j) (by omega) (by unfold oneB; rw [q2x, decide_eq_true (show ((qN n j : Int) ≤ 127) by omega), decide_eq_true (show (-128 ≤ (qN n j : Int)) by omega)]; rfl) hbig]
  simp; omega
 refine q0v G.length ?_
 with_reducible refine sxaE ?_
 refine ⟨by omega, by omega, ?_⟩
 rw [List.take_of_length_le (by omega)]
 refine q0a (q5y 2 2 (by decide) _ (by omega)) ?_
 refine gQ ?_
 rw [hint, hsz]
end Go.Proofs.YtcjehhejgimmdaaGreatDoor
