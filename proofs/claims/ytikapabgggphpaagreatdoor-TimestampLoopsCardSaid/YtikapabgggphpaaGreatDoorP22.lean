/- Profiles: contracts: strings compared, sealed strings opened. -/
import Derived.Test.YtikapabgggphpaaGreatDoorP21
import Derived.Test.YtikapabgggphpaaGreatDoorP12
import Derived.Test.YtikapabgggphpaaGreatDoorP16
set_option linter.all false
namespace Go.Proofs.YtikapabgggphpaaGreatDoor
open Go Go.Sx Go.Proofs
set_option maxRecDepth 100000
set_option maxHeartbeats 40000000
theorem or8 (a b : UInt8) : orK .u8 (a.toNat : Int) (b.toNat : Int) = ((a ||| b).toNat : Int) := by
 unfold orK
 have ha := a.toNat_lt
 have hb := b.toNat_lt
 have hx : a.toNat ||| b.toNat < 2 ^ 8 := Nat.or_lt_two_pow ha hb
 have e : (BitVec.ofInt IntKind.u8.bits (a.toNat : Int) ||| BitVec.ofInt IntKind.u8.bits (b.toNat : Int)).toNat = a.toNat ||| b.toNat := by
  rw [BitVec.toNat_or, BitVec.ofInt_natCast, BitVec.ofInt_natCast, BitVec.toNat_ofNat, BitVec.toNat_ofNat]
  rw [show 2 ^ IntKind.u8.bits = 256 from rfl, Nat.mod_eq_of_lt ha, Nat.mod_eq_of_lt hb]
 rw [e, u8wrapR, UInt8.toNat_or]
 omega
def dfS (a b : List UInt8) : Nat → UInt8
 | 0 => 0
 | i + 1 => dfS a b i ||| (a.getD i 0 ^^^ b.getD i 0)
theorem z5k {a b : UInt8} : a ||| b = 0 ↔ a = 0 ∧ b = 0 := by
 constructor
 · intro h
   have h1 : (a ||| b).toNat = 0 := by rw [h]; rfl
   rw [UInt8.toNat_or] at h1
   have ha := @Nat.left_le_or a.toNat b.toNat
   have hb := @Nat.right_le_or a.toNat b.toNat
   exact ⟨UInt8.toNat_inj.1 (by show a.toNat = 0; omega), UInt8.toNat_inj.1 (by show b.toNat = 0; omega)⟩
 rintro ⟨rfl, rfl⟩; rfl
theorem z2W {a b : UInt8} : a ^^^ b = 0 ↔ a = b := UInt8.xor_eq_zero_iff
theorem z1k (a b : List UInt8) : ∀ i, dfS a b i = 0 ↔ ∀ j, j < i → a.getD j 0 = b.getD j 0
 | 0 => by simp [dfS]
 | i + 1 => by
  rw [dfS, z5k, z1k a b i, z2W]
  constructor
  · rintro ⟨h1, h2⟩ j hj
    by_cases e : j = i
    · subst e; exact h2
    exact h1 j (by omega)
  intro h
  exact ⟨fun j hj => h j (by omega), h i (by omega)⟩
theorem j0w {a b : List UInt8} (h : a.length = b.length) : dfS a b a.length = 0 ↔ a = b := by
 rw [z1k]
 constructor
 · intro h1
   apply List.ext_getElem h
   intro j h2 h3
   have := h1 j h2
   rw [List.getD_eq_getElem?_getD, List.getD_eq_getElem?_getD, List.getElem?_eq_getElem h2, List.getElem?_eq_getElem h3] at this
   exact this
 rintro rfl j _; rfl
theorem z8W (a b : List UInt8) (ha : a.length ≤ 1099511627776) (hb : b.length ≤ 1099511627776) : PC Tryz.prog 99 [.isl .u8 a, .isl .u8 b] (rB (decide (a = b))) := by
 refine q0A rfl rfl ?_
 by_cases hl : a.length = b.length
 · have hl' : ((a.length : Int) = (b.length : Int)) = True := eq_true (by omega)
   refine q1m fi99 (q0R mixed 600 _ ?_)
   simp (maxSteps := 3000000) only [ir99, hl', go_sem, ↓zA, ↓reduceIte, ↓reduceDIte] <;> try simp only [zB]
   refine q0p (ι := Nat) (fun i => [(14, rI i), (5, .raw (.int .u8 (dfS a b i).toNat))]) (fun i => []) (fun i => a.length - i) (fun i => i ≤ a.length) 0 (Nat.zero_le _) rfl ?_ ?_
   · with_reducible refine sxE ?_
     rfl
   intro i hi
   have hwr := wsx i (by omega)
   by_cases h : i < a.length
   · have hx := xor8 (a.getD i 0) (b.getD i 0)
     have ho := or8 (dfS a b i) (a.getD i 0 ^^^ b.getD i 0)
     refine uQ 600 _ ?_
     simp (maxSteps := 3000000) only [hx, ho, Nat.zero_add, Ty.dflt, go_sem, ↓zA, ↓reduceIte, ↓reduceDIte] <;> try simp only [zB]
     refine ⟨fun _ => ⟨⟨by omega, by omega⟩, ⟨by omega, by omega⟩, i + 1, h, by dsimp only; omega, rfl, ?_⟩, fun hh => absurd h hh⟩
     with_reducible refine sx1 hwr ?_
     rfl
   obtain rfl : i = a.length := by omega
   refine gQ ?_
   refine ⟨fun hh => absurd hh (by omega), fun _ => ?_⟩
   rw [decide_eq_decide, ← j0w hl, ← UInt8.toNat_inj]
   exact Int.natCast_eq_zero
 have hl' : ((a.length : Int) = (b.length : Int)) = False := eq_false (by omega)
 refine q1m fi99 (q0R mixed 600 _ ?_)
 simp (maxSteps := 3000000) only [ir99, hl', go_sem, ↓zA, ↓reduceIte, ↓reduceDIte] <;> try simp only [zB]
 exact (decide_eq_false (fun e => hl (by rw [e]))).symm
theorem q7J (a b : List UInt8) (ha : a.length ≤ 1099511627776) (hb : b.length ≤ 1099511627776) : PC Tryz.prog 68 [.isl .u8 a, .isl .u8 b] (rB (decide (a = b))) := by
 refine q0A rfl rfl ?_
 refine rQ fi68 ?_
 refine q0a (z8W a b ha hb) ?_
 refine gQ ?_; trivial
def opS2 (k : Key) (u : Nat) (sp sv : Int) (sb : List UInt8) : List UInt8 × Int :=
 if uOk k u = true then
  if sp = k.1 ∧ (sv = k.2.1 ∨ sv = 0 ∨ k.2.1 = 0) then
   if sb.length < 48 then ([], 4)
   else if 65584 < sb.length then ([], 5)
   else if hmS (dkS k u 85) (sb.take (sb.length - 32)) = sb.drop (sb.length - 32) then (ksS (dkS k u 170) ((sb.take (sb.length - 32)).take 16) ((sb.take (sb.length - 32)).drop 16), 0)
   else ([], 10)
  else ([], 9)
 else ([], 2)
theorem z8I (v : Int) (b : List UInt8) (u : Nat) (sp sv : Int) (sb : List UInt8) (hbl : b.length ≤ 1048576) (hs : sb.length ≤ 1099511627776) : PC Tryz.prog 36 [.agg (KeyT.cells (2, v, b)), rI u, .agg [rI sp, rI sv, .isl .u8 sb]] (.tup [.isl .u8 (opS2 (2, v, b) u sp sv sb).1, rI (opS2 (2, v, b) u sp sv sb).2]) := by
 have hu := q7G (2, v, b) u ⟨trivial, trivial, ⟨show b.length ≤ 1125899906842624 by omega, fun _ _ => trivial⟩⟩
 unfold opS2
 refine q0C rfl rfl ?_
 refine q1m fi36 ?_
 refine uQ 600 _ ?_
 with_reducible refine sxE ?_
 refine q0a hu ?_
 by_cases hv : uOk (2, v, b) u = true
 · rw [if_pos hv, if_pos hv, if_pos hv]
   have hb32 : b.length = 32 := by
    have h1 : vKey (2, v, b) = true := by unfold uOk at hv; simp only [Bool.and_eq_true] at hv; exact hv.1
    unfold vKey keyLen at h1
    simp at h1
    omega
   change SoundI _ _ { k0 := _, todo := _, tmps := putT _ _ (.tup [.agg (rawL kind2), rI 0]), heap := _ }
   -- cases
   have hk64 : b.length ≤ 64 := by omega
   have hd1 := q7F (2, v, b) u 170
   have hd2 := q7F (2, v, b) u 85
   change (dkS (2, v, b) u 170).length = b.length at hd1
   change (dkS (2, v, b) u 85).length = b.length at hd2
   have hw : IntKind.i64.wrap ((sb.length : Int) - 32) = (sb.length : Int) - 32 := by rw [wrapi (by omega)]
   have hw2 : IntKind.i64.wrap (16 + 65536) = 65552 := by rw [wrapi (by omega)]; rfl
   by_cases e1 : sp = 2
   · by_cases e2 : sv = v
     · rw [if_pos ⟨e1, .inl e2⟩]
       by_cases c1 : sb.length < 48
       · have f1 : ((sb.length : Int) - 32 < 16) = True := eq_true (by omega)
         rw [if_pos c1]
         refine uQ 600 _ ?_
         simp (maxSteps := 3000000) only [kind2, e1, e2, hw, f1, go_sem, ↓zA, ↓reduceIte, ↓reduceDIte] <;> try simp only [zB]
       have f1 : ((sb.length : Int) - 32 < 16) = False := eq_false (by omega)
       rw [if_neg c1]
       by_cases c2 : 65584 < sb.length
       · have f2 : (65552 < (sb.length : Int) - 32) = True := eq_true (by omega)
         rw [if_pos c2]
         refine uQ 600 _ ?_
         simp (maxSteps := 3000000) only [kind2, e1, e2, hw, f1, hw2, f2, go_sem, ↓zA, ↓reduceIte, ↓reduceDIte] <;> try simp only [zB]
       have f2 : (65552 < (sb.length : Int) - 32) = False := eq_false (by omega)
       have hn : ((sb.length : Int) - 32).toNat = sb.length - 32 := by omega
       rw [if_neg c2]
       refine uQ 600 _ ?_
       simp (maxSteps := 3000000) only [kind2, e1, e2, hw, f1, hw2, f2, hn, go_sem, ↓zA, ↓reduceIte, ↓reduceDIte] <;> try simp only [zB]
       rw [List.take_length]
       refine ⟨⟨by omega, by omega, by omega⟩, ⟨by omega, by omega, by omega⟩, ?_⟩
       refine q0a (q3R (2, v, b) u hk64) ?_
       refine uQ 600 _ ?_
       with_reducible refine sxE ?_
       refine q0e (q1H (2, v, b) u 85 hk64 (show 1 ≤ b.length by omega) (by decide)) ?_
       refine uQ 600 _ ?_
       with_reducible refine sxE ?_
       have hcl : (List.take (sb.length - 32) sb).length = sb.length - 32 := by rw [List.length_take]; omega
       have htl : (List.drop (sb.length - 32) sb).length = 32 := by rw [List.length_drop]; omega
       generalize List.take (sb.length - 32) sb = ci at *
       generalize List.drop (sb.length - 32) sb = tg at *
       refine q0e (q3F (dkS (2, v, b) u 85) ci (by omega) (by omega)) ?_
       have hml := q3u (dkS (2, v, b) u 85) ci
       generalize hmS (dkS (2, v, b) u 85) ci = mk at *
       have hmt : List.take 32 mk = mk := List.take_of_length_le (by omega)
       refine uQ 600 _ ?_
       simp (maxSteps := 3000000) only [hml, hmt, go_sem, ↓zA, ↓reduceIte, ↓reduceDIte] <;> try simp only [zB]
       refine ⟨by decide, ?_⟩
       refine q0e (q7J mk tg (by omega) (by omega)) ?_
       by_cases c3 : mk = tg
       · rw [if_pos c3]
         refine uQ 600 _ ?_
         simp (maxSteps := 3000000) only [c3, go_sem, ↓zA, ↓reduceIte, ↓reduceDIte] <;> try simp only [zB]
         refine q0e (q1H (2, v, b) u 170 hk64 (show 1 ≤ b.length by omega) (by decide)) ?_
         refine uQ 600 _ ?_
         with_reducible refine sxE ?_
         refine q0e (q6l (dkS (2, v, b) u 170) ci (by omega) (by omega) (by omega)) ?_
         refine uQ 600 _ ?_
         with_reducible refine sxE ?_; trivial
       rw [if_neg c3]
       refine uQ 600 _ ?_
       simp (maxSteps := 3000000) only [c3, go_sem, ↓zA, ↓reduceIte, ↓reduceDIte] <;> try simp only [zB]
     by_cases e3 : sv = 0
     · have e2z : ((0 : Int) = v) = False := eq_false (fun h => e2 (e3.trans h))
       rw [if_pos ⟨e1, .inr (.inl e3)⟩]
       by_cases c1 : sb.length < 48
       · have f1 : ((sb.length : Int) - 32 < 16) = True := eq_true (by omega)
         rw [if_pos c1]
         refine uQ 600 _ ?_
         simp (maxSteps := 3000000) only [kind2, e1, e3, e2z, hw, f1, go_sem, ↓zA, ↓reduceIte, ↓reduceDIte] <;> try simp only [zB]
       have f1 : ((sb.length : Int) - 32 < 16) = False := eq_false (by omega)
       rw [if_neg c1]
       by_cases c2 : 65584 < sb.length
       · have f2 : (65552 < (sb.length : Int) - 32) = True := eq_true (by omega)
         rw [if_pos c2]
         refine uQ 600 _ ?_
         simp (maxSteps := 3000000) only [kind2, e1, e3, e2z, hw, f1, hw2, f2, go_sem, ↓zA, ↓reduceIte, ↓reduceDIte] <;> try simp only [zB]
       have f2 : (65552 < (sb.length : Int) - 32) = False := eq_false (by omega)
       have hn : ((sb.length : Int) - 32).toNat = sb.length - 32 := by omega
       rw [if_neg c2]
       refine uQ 600 _ ?_
       simp (maxSteps := 3000000) only [kind2, e1, e3, e2z, hw, f1, hw2, f2, hn, go_sem, ↓zA, ↓reduceIte, ↓reduceDIte] <;> try simp only [zB]
       rw [List.take_length]
       refine ⟨⟨by omega, by omega, by omega⟩, ⟨by omega, by omega, by omega⟩, ?_⟩
       refine q0a (q3R (2, v, b) u hk64) ?_
       refine uQ 600 _ ?_
       with_reducible refine sxE ?_
       refine q0e (q1H (2, v, b) u 85 hk64 (show 1 ≤ b.length by omega) (by decide)) ?_
       refine uQ 600 _ ?_
       with_reducible refine sxE ?_
       have hcl : (List.take (sb.length - 32) sb).length = sb.length - 32 := by rw [List.length_take]; omega
       have htl : (List.drop (sb.length - 32) sb).length = 32 := by rw [List.length_drop]; omega
       generalize List.take (sb.length - 32) sb = ci at *
       generalize List.drop (sb.length - 32) sb = tg at *
       refine q0e (q3F (dkS (2, v, b) u 85) ci (by omega) (by omega)) ?_
       have hml := q3u (dkS (2, v, b) u 85) ci
       generalize hmS (dkS (2, v, b) u 85) ci = mk at *
       have hmt : List.take 32 mk = mk := List.take_of_length_le (by omega)
       refine uQ 600 _ ?_
       simp (maxSteps := 3000000) only [hml, hmt, go_sem, ↓zA, ↓reduceIte, ↓reduceDIte] <;> try simp only [zB]
       refine ⟨by decide, ?_⟩
       refine q0e (q7J mk tg (by omega) (by omega)) ?_
       by_cases c3 : mk = tg
       · rw [if_pos c3]
         refine uQ 600 _ ?_
         simp (maxSteps := 3000000) only [c3, go_sem, ↓zA, ↓reduceIte, ↓reduceDIte] <;> try simp only [zB]
         refine q0e (q1H (2, v, b) u 170 hk64 (show 1 ≤ b.length by omega) (by decide)) ?_
         refine uQ 600 _ ?_
         with_reducible refine sxE ?_
         refine q0e (q6l (dkS (2, v, b) u 170) ci (by omega) (by omega) (by omega)) ?_
         refine uQ 600 _ ?_
         with_reducible refine sxE ?_; trivial
       rw [if_neg c3]
       refine uQ 600 _ ?_
       simp (maxSteps := 3000000) only [c3, go_sem, ↓zA, ↓reduceIte, ↓reduceDIte] <;> try simp only [zB]
     by_cases e4 : v = 0
     · have e4t : (v = 0) = True := eq_true e4
       rw [if_pos ⟨e1, .inr (.inr e4)⟩]
       by_cases c1 : sb.length < 48
       · have f1 : ((sb.length : Int) - 32 < 16) = True := eq_true (by omega)
         rw [if_pos c1]
         refine uQ 600 _ ?_
         simp (maxSteps := 3000000) only [kind2, e1, e2, e3, e4t, hw, f1, go_sem, ↓zA, ↓reduceIte, ↓reduceDIte] <;> try simp only [zB]
       have f1 : ((sb.length : Int) - 32 < 16) = False := eq_false (by omega)
       rw [if_neg c1]
       by_cases c2 : 65584 < sb.length
       · have f2 : (65552 < (sb.length : Int) - 32) = True := eq_true (by omega)
         rw [if_pos c2]
         refine uQ 600 _ ?_
         simp (maxSteps := 3000000) only [kind2, e1, e2, e3, e4t, hw, f1, hw2, f2, go_sem, ↓zA, ↓reduceIte, ↓reduceDIte] <;> try simp only [zB]
       have f2 : (65552 < (sb.length : Int) - 32) = False := eq_false (by omega)
       have hn : ((sb.length : Int) - 32).toNat = sb.length - 32 := by omega
       rw [if_neg c2]
       refine uQ 600 _ ?_
       simp (maxSteps := 3000000) only [kind2, e1, e2, e3, e4t, hw, f1, hw2, f2, hn, go_sem, ↓zA, ↓reduceIte, ↓reduceDIte] <;> try simp only [zB]
       rw [List.take_length]
       refine ⟨⟨by omega, by omega, by omega⟩, ⟨by omega, by omega, by omega⟩, ?_⟩
       refine q0a (q3R (2, v, b) u hk64) ?_
       refine uQ 600 _ ?_
       with_reducible refine sxE ?_
       refine q0e (q1H (2, v, b) u 85 hk64 (show 1 ≤ b.length by omega) (by decide)) ?_
       refine uQ 600 _ ?_
       with_reducible refine sxE ?_
       have hcl : (List.take (sb.length - 32) sb).length = sb.length - 32 := by rw [List.length_take]; omega
       have htl : (List.drop (sb.length - 32) sb).length = 32 := by rw [List.length_drop]; omega
       generalize List.take (sb.length - 32) sb = ci at *
       generalize List.drop (sb.length - 32) sb = tg at *
       refine q0e (q3F (dkS (2, v, b) u 85) ci (by omega) (by omega)) ?_
       have hml := q3u (dkS (2, v, b) u 85) ci
       generalize hmS (dkS (2, v, b) u 85) ci = mk at *
       have hmt : List.take 32 mk = mk := List.take_of_length_le (by omega)
       refine uQ 600 _ ?_
       simp (maxSteps := 3000000) only [hml, hmt, go_sem, ↓zA, ↓reduceIte, ↓reduceDIte] <;> try simp only [zB]
       refine ⟨by decide, ?_⟩
       refine q0e (q7J mk tg (by omega) (by omega)) ?_
       by_cases c3 : mk = tg
       · rw [if_pos c3]
         refine uQ 600 _ ?_
         simp (maxSteps := 3000000) only [c3, go_sem, ↓zA, ↓reduceIte, ↓reduceDIte] <;> try simp only [zB]
         refine q0e (q1H (2, v, b) u 170 hk64 (show 1 ≤ b.length by omega) (by decide)) ?_
         refine uQ 600 _ ?_
         with_reducible refine sxE ?_
         refine q0e (q6l (dkS (2, v, b) u 170) ci (by omega) (by omega) (by omega)) ?_
         refine uQ 600 _ ?_
         with_reducible refine sxE ?_; trivial
       rw [if_neg c3]
       refine uQ 600 _ ?_
       simp (maxSteps := 3000000) only [c3, go_sem, ↓zA, ↓reduceIte, ↓reduceDIte] <;> try simp only [zB]
     rw [if_neg (by rintro ⟨_, h | h | h⟩ <;> contradiction)]
     refine uQ 600 _ ?_
     simp (maxSteps := 3000000) only [kind2, e1, e2, e3, e4, go_sem, ↓zA, ↓reduceIte, ↓reduceDIte] <;> try simp only [zB]
   · rw [if_neg (fun h => e1 h.1)]
     refine uQ 600 _ ?_
     simp (maxSteps := 3000000) only [kind2, e1, go_sem, ↓zA, ↓reduceIte, ↓reduceDIte] <;> try simp only [zB]
   -- end
 rw [if_neg hv, if_neg hv, if_neg hv]
 refine uQ 600 _ ?_
 simp (maxSteps := 3000000) only [kindZ, go_sem, ↓zA, ↓reduceIte, ↓reduceDIte] <;> try simp only [zB]
end Go.Proofs.YtikapabgggphpaaGreatDoor
namespace Go.Proofs.YtikapabgggphpaaGreatDoor
open Go Go.Sx Go.Proofs
set_option maxRecDepth 100000
set_option maxHeartbeats 4000000
def byteOf (x : Int) : UInt8 := UInt8.ofNat (IntKind.u8.wrap x).toNat
theorem u8wrap (x : Int) : 0 ≤ IntKind.u8.wrap x ∧ IntKind.u8.wrap x < 256 := by
 have h : IntKind.u8.wrap x = x % 256 := by simp [IntKind.wrap, IntKind.bits, IntKind.signed]
 rw [h]
 omega
theorem q5G (x : Int) : ((UInt8.ofNat (IntKind.u8.wrap x).toNat).toNat : Int) = IntKind.u8.wrap x := by
 have := u8wrap x
 rw [UInt8.toNat_ofNat']; omega
theorem j0R (c : UInt8) : ((UInt8.ofNat c.toNat).toNat : Int) = c.toNat := by simp
def lenS (n : Nat) : List UInt8 :=
 if n < 128 then [byteOf n] else if n < 256 then [129, byteOf n] else if n < 65536 then [130, byteOf ((n : Int).fdiv 256), byteOf n] else [131, byteOf ((n : Int).fdiv 65536), byteOf ((n : Int).fdiv 256), byteOf n]
def tlv (tag : UInt8) (c : List UInt8) : List UInt8 := tag :: (lenS c.length ++ c)
def elemS (tag : UInt8) (parts : List (List UInt8)) : List UInt8 := if parts.flatten.length ≤ 16777215 then tlv tag parts.flatten else []
def flatN (parts : List (List UInt8)) (i : Nat) : List UInt8 := (parts.take i).flatten
theorem q4C {parts : List (List UInt8)} {i : Nat} (h : i < parts.length) : flatN parts (i + 1) = flatN parts i ++ parts.getD i (Ty.slice .u8).dflt := by
 unfold flatN; rw [q3c (d := (Ty.slice .u8).dflt) h]; simp
theorem q8X (parts : List (List UInt8)) : flatN parts parts.length = parts.flatten := by unfold flatN; rw [List.take_length]
theorem q7W (parts : List (List UInt8)) (i : Nat) : (flatN parts i).length ≤ parts.flatten.length := by
 unfold flatN
 have := congrArg List.flatten (List.take_append_drop i parts)
 rw [List.flatten_append] at this
 rw [← this]; simp
def fitAt (parts : List (List UInt8)) (j : Nat) : Bool := decide ((flatN parts (j + 1)).length ≤ 16777215)

theorem z4f (tag : UInt8) (parts : List (List UInt8)) (hp : parts.length ≤ 1125899906842624) : PC Tryz.prog 48 [.raw (.int .u8 tag.toNat), .isl (.slice .u8) parts] (.isl .u8 (elemS tag parts)) := by
 refine q0C rfl rfl ?_
 refine rQ fi48 ?_
 refine q3r (fun i => [(5, rI ((flatN parts i).length)), (13, .raw (.int .i64 ((i : Nat) : Int)))]) (parts.length) (fun j => (fitAt parts) j = true) (by first | decide | simp) (fun i => rfl) ?_ fun i hi hall => ?_
 · (with_reducible refine sxE ?_ <;> try exact True.intro)
   all_goals (try rfl)
 have hwr := wsx i (by omega)
 refine gQ ?_
 have bad : i < (parts.length) → (fitAt parts) i = false → allN (parts.length) (fitAt parts) = false := fun hlt hv => q1v hlt hv
 have fin : ¬ i < (parts.length) → allN (parts.length) (fitAt parts) = true := fun h => q1Q fun j hj => hall j (by omega)
 try dsimp only at bad fin hall
 have hn : (flatN parts i).length ≤ 16777215 := by
  cases i with
  | zero => simp [flatN]
  | succ j => have := hall j (by omega); simpa [fitAt] using this
 rw [wrapi (n := 16777215 - ((flatN parts i).length : Int)) (by omega), wrapi (n := ((flatN parts i).length : Int) + 5) (by omega)]
 refine ⟨fun hlt => ⟨⟨by omega, hlt⟩, fun hbig => ?_, fun hfit => ?_⟩, fun hge => ?_⟩
 · have h1 := q7W parts (i + 1)
   rw [q4C hlt, List.length_append] at h1
   unfold elemS
   rw [if_neg (by omega)]
 · have h2 : ((flatN parts i).length : Int) + ((parts.getD i (Ty.slice .u8).dflt).length : Int) = ((flatN parts (i + 1)).length : Int) := by rw [q4C hlt, List.length_append]; rfl
   have h3 : (flatN parts (i + 1)).length ≤ 16777215 := by omega
   refine ⟨hlt, q5a hall (by simpa [fitAt] using h3), ⟨_, rfl⟩, ?_⟩
   rw [h2, wrapi (n := ((flatN parts (i + 1)).length : Int)) (by omega)]
   with_reducible refine sx1 hwr ?_; trivial
 obtain rfl : i = parts.length := by omega
 rw [q8X] at *
 have he : elemS tag parts = tag :: (lenS parts.flatten.length ++ flatN parts parts.length) := by unfold elemS tlv; rw [if_pos hn, q8X]
 refine ⟨⟨by omega, by omega, by omega⟩, j0R tag, fun h1 => ⟨q5G _, ?_⟩, fun h1 => ⟨fun h2 => ⟨?_, ?_⟩, fun h2 => ⟨fun h3 => ⟨?_, ?_⟩, fun h3 => ⟨?_, ?_⟩⟩⟩⟩
 any_goals (repeat' (first | exact q5G _ | exact rfl | with_reducible refine And.intro ?_ ?_))
 have hL : lenS parts.flatten.length = [byteOf parts.flatten.length] := by unfold lenS; rw [if_pos (by omega)]
 rotate_left
 have hL : lenS parts.flatten.length = [129, byteOf parts.flatten.length] := by unfold lenS; rw [if_neg (by omega), if_pos (by omega)]
 rotate_left
 have hL : lenS parts.flatten.length = [130, byteOf ((parts.flatten.length : Int).fdiv 256), byteOf parts.flatten.length] := by unfold lenS; rw [if_neg (by omega), if_neg (by omega), if_pos (by omega)]
 rotate_left
 have hL : lenS parts.flatten.length = [131, byteOf ((parts.flatten.length : Int).fdiv 65536), byteOf ((parts.flatten.length : Int).fdiv 256), byteOf parts.flatten.length] := by unfold lenS; rw [if_neg (by omega), if_neg (by omega), if_neg (by omega)]
 rotate_left
 all_goals
  refine z8N (H := [_, _, _, _]) 8 .u8 (fun i => tag :: (lenS parts.flatten.length ++ flatN parts i)) (fun i => [(44, .any), (52, .any), (60, .any), (71, .any), (74, rI i)]) parts.length (fun _ => True) (by rw [hL]; simp [flatN, byteOf]) (by simp) rfl (fun i => rfl) ?_ fun i hi _ => ?_
  · with_reducible refine sx1 hL ?_
    simp [flatN]
  have hwr := wsx i (by omega)
  have hfl := q7W parts i
  have hll : (lenS parts.flatten.length).length ≤ 4 := by rw [hL]; simp
  refine gQ ?_
  have e1 : (lenS parts.flatten.length ++ flatN parts i).length = (lenS parts.flatten.length).length + (flatN parts i).length := List.length_append
  refine ⟨fun hlt => ?_, fun hge => ?_⟩
  · have h4 := q7W parts (i + 1)
    have h5 := q4C hlt
    rw [h5, List.length_append] at h4
    refine ⟨⟨by omega, hlt⟩, ⟨by omega, by omega⟩, q5d [.dead] [] hlt trivial (by rw [h5, ← List.append_assoc]; rfl) ?_⟩
    with_reducible refine sx3 hwr h5 ?_
    exact congrArg (SV.bld 5 .u8) (by omega)
  obtain rfl : i = parts.length := by omega
  rw [List.take_of_length_le (Nat.le_refl _)]
  exact ⟨⟨Nat.le_refl _, by omega⟩, he.symm⟩
def byteAt (v : Int) (k : Nat) : UInt8 := byteOf (v.fdiv (2 ^ min (8 * k) 64))
def numN (v : Int) (size i : Nat) : List UInt8 := (List.range size).map fun j => if size - 1 - j < i then byteAt v (size - 1 - j) else 0
def numS (v : Int) (size : Nat) : List UInt8 := (List.range size).map fun j => byteAt v (size - 1 - j)
theorem z3v (v : Int) (size : Nat) : List.replicate size (0 : UInt8) = numN v size 0 := by
 apply List.ext_getElem
 · simp [numN]
 intro j h1 h2; simp [numN]
theorem z4Z (v : Int) (size : Nat) : numN v size size = numS v size := by
 apply List.ext_getElem
 · simp [numN, numS]
 intro j h1 h2
 simp [numN, numS]
 simp [numN] at h1
 intro h; omega
theorem z6n {v : Int} {size i : Nat} (h : i < size) : (numN v size i).set (size - 1 - i) (byteAt v i) = numN v size (i + 1) := by
 apply List.ext_getElem
 · simp [numN]
 intro j h1 h2
 simp [numN] at h2
 simp only [numN, List.getElem_set, List.getElem_map, List.getElem_range]
 split
 · rename_i e
   have : size - 1 - j = i := by omega
   rw [this, if_pos (by omega)]
 rename_i e
 by_cases h3 : size - 1 - j < i
 · rw [if_pos h3, if_pos (by omega)]
 rw [if_neg h3, if_neg (by omega)]
theorem z0v (v : Int) (size : Nat) (hs : size ≤ 64) : PC Tryz.prog 50 [rI v, rI size] (.isl .u8 (numS v size)) := by
 refine q0C rfl rfl ?_
 refine rQ fi50 ?_
 refine ⟨by omega, ?_⟩
 refine q0p (ι := Nat) (fun i => [(11, rI i)]) (fun i => [.row .u8 (numN v size i)]) (fun i => size - i) (fun i => i ≤ size) 0 (Nat.zero_le _) (by rw [← z3v]; rfl) ?_ ?_
 · with_reducible refine sxE ?_; trivial
 intro i hi
 have w3 : IntKind.i64.wrap (8 * (i : Int)) = ((8 * i : Nat) : Int) := by rw [wrapi (by omega)]; rfl
 have hwr := wsx i (by omega)
 have hln : (numN v size i).length = size := by simp [numN]
 by_cases hlt : i < size
 · have w1 : IntKind.i64.wrap ((size : Int) - 1) = ((size - 1 : Nat) : Int) := by rw [wrapi (by omega)]; omega
   have w2 : IntKind.i64.wrap (((size - 1 : Nat) : Int) - (i : Int)) = ((size - 1 - i : Nat) : Int) := by rw [wrapi (by omega)]; omega
   refine uQ 600 _ ?_
   simp (maxSteps := 3000000) only [w1, w2, w3, hln, go_sem, ↓zA, ↓reduceIte, ↓reduceDIte] <;> try simp only [zB]
   refine ⟨fun _ => ⟨by omega, ⟨by omega, by omega⟩, ⟨by omega, q5G _⟩, i + 1, hlt, by dsimp only; omega, ?_, ?_⟩, fun h => absurd hlt h⟩
   · dsimp only; rw [← z6n hlt, Nat.zero_add]; rfl
   with_reducible refine sx1 hwr ?_; trivial
 refine uQ 600 _ ?_
 with_reducible refine sx1 hln ?_
 refine ⟨fun h => absurd h hlt, fun _ => ⟨⟨by omega, by omega⟩, ?_⟩⟩
 obtain rfl : i = size := by omega
 rw [z4Z, List.take_of_length_le (by simp [numS])]
theorem q2h (tag : UInt8) (n : Int) (hn : n = tag.toNat) (parts : List (List UInt8)) (hp : parts.length ≤ 1125899906842624) : PC Tryz.prog 48 [.raw (.int .u8 n), .isl (.slice .u8) parts] (.isl .u8 (elemS tag parts)) := by
 subst hn; exact z4f tag parts hp

def restN (v : Int) : Nat → Int
 | 0 => v
 | k + 1 => (restN v k).fdiv 256
def firstN (n : Nat) (q : Nat → Bool) : Option Nat := (List.range n).find? q
theorem q9K {n i : Nat} {q : Nat → Bool} (hi : i < n) (hq : q i = true) (hn : ∀ j, j < i → q j = false) : firstN n q = some i := by
 unfold firstN
 rw [List.find?_range_eq_some]
 exact ⟨hq, by simpa using hi, fun j hj => by rw [hn j hj]; rfl⟩
theorem z0l {n i : Nat} {q : Nat → Bool} (h : firstN n q = some i) : i < n ∧ q i = true ∧ ∀ j, j < i → q j = false := by
 unfold firstN at h
 rw [List.find?_range_eq_some] at h
 exact ⟨by simpa using h.2.1, h.1, fun j hj => by simpa using h.2.2 j hj⟩
def oneB (v : Int) (k : Nat) : Bool := decide (-128 ≤ restN v k) && decide (restN v k ≤ 127)
def intSz (v : Int) : Nat := 1 + (firstN 9 (oneB v)).getD 0
def intS (v : Int) : List UInt8 := if -4611686018427387904 ≤ v ∧ v ≤ 4611686018427387904 then elemS 2 [numS v (intSz v)] else []
theorem fdiv256 (r : Int) : r.fdiv 256 = r / 256 := Int.fdiv_eq_ediv_of_nonneg r (by decide)
theorem rest8 {v : Int} (h1 : -4611686018427387904 ≤ v) (h2 : v ≤ 4611686018427387904) : oneB v 8 = true := by
 simp only [oneB, restN, fdiv256, Bool.and_eq_true, decide_eq_true_eq]
 omega
theorem q2D (v : Int) : PC Tryz.prog 27 [rI v] (.isl .u8 (intS v)) := by
 refine q0C rfl rfl ?_
 refine rQ fi27 ?_ <;> try with_reducible exact True.intro
 repeat' (first
  | (with_reducible refine And.intro ?_ ?_)
  | (with_reducible intro _))
 all_goals (skip)
 · unfold intS; rw [if_neg (by omega)]
 rotate_left
 · unfold intS; rw [if_neg (by omega)]
 rename_i h1 h2
 have h8 := rest8 (v := v) (by omega) (by omega)
 refine q0p (ι := Nat) (fun k => [(3, rI ((1 + k : Nat) : Int)), (4, rI (restN v k))]) (fun _ => []) (fun k => 9 - k) (fun k => k ≤ 8 ∧ ∀ j, j < k → oneB v j = false) 0 ⟨by omega, fun j hj => absurd hj (by omega)⟩ rfl ?_ ?_
 · simp (maxSteps := 3000000) only [restN, go_sem, ↓zA, ↓reduceIte, ↓reduceDIte] <;> try simp only [zB]
   rfl
 rintro k ⟨hk, hall⟩
 have hwr : IntKind.i64.wrap (((1 + k : Nat) : Int) + 1) = ((1 + (k + 1) : Nat) : Int) := by rw [wrapi (by omega)]; omega
 refine uQ 600 _ ?_
 with_reducible refine sx1 hwr ?_
 have hp : (2 : Int) ^ min 8 64 = 256 := by decide
 refine ⟨fun h3 => ⟨fun h4 => ?_, fun h4 => ?_⟩, fun h3 => ?_⟩
 · have ho : oneB v k = false := by simp [oneB]; omega
   have hk8 : k ≠ 8 := fun e => by subst e; rw [h8] at ho; cases ho
   refine ⟨k + 1, ⟨by omega, q5a hall ho⟩, by dsimp only; omega, rfl, ?_⟩
   simp (maxSteps := 3000000) only [restN, hp, go_sem, ↓zA, ↓reduceIte, ↓reduceDIte] <;> try simp only [zB]
 · have ho : oneB v k = true := by simp [oneB]; omega
   have hz : intSz v = 1 + k := by unfold intSz; rw [q9K (by omega) ho hall]; rfl
   refine q0a (z0v v (1 + k) (by omega)) ?_
   refine gQ ?_
   refine q0t 0 ?_
   with_reducible refine sxE ?_
   refine q0a (q2h 2 2 rfl _ (by simp)) ?_
   refine gQ ?_
   unfold intS
   rw [if_pos (by omega), hz]
 have ho : oneB v k = false := by simp [oneB]; omega
 have hk8 : k ≠ 8 := fun e => by subst e; rw [h8] at ho; cases ho
 refine ⟨k + 1, ⟨by omega, q5a hall ho⟩, by dsimp only; omega, rfl, ?_⟩
 simp (maxSteps := 3000000) only [restN, hp, go_sem, ↓zA, ↓reduceIte, ↓reduceDIte] <;> try simp only [zB]
theorem z5M (b : List UInt8) : PC Tryz.prog 86 [.isl .u8 b] (.isl .u8 (elemS 4 [b])) := by
 refine q0C rfl rfl ?_
 refine rQ fi86 ?_
 refine q0t 0 ?_
 with_reducible refine sxE ?_
 refine q0a (q2h 4 4 rfl _ (by simp)) ?_
 refine gQ ?_; trivial
def timeS (t : Int) : List UInt8 := if 0 ≤ t ∧ t ≤ 1099511627776 then elemS 24 [numS t 6] else []
theorem z7f (t : Int) : PC Tryz.prog 26 [rI t] (.isl .u8 (timeS t)) := by
 refine q0C rfl rfl ?_
 refine rQ fi26 ?_
 refine ⟨fun h1 => ⟨fun h2 => ?_, fun h2 => ?_⟩, fun h1 => ?_⟩
 · unfold timeS; rw [if_neg (by omega)]
 · refine q0a (z0v t 6 (by omega)) ?_
   refine gQ ?_
   refine q0t 0 ?_
   with_reducible refine sxE ?_
   refine q0a (q2h 24 24 rfl _ (by simp)) ?_
   refine gQ ?_
   unfold timeS; rw [if_pos (by omega)]
 unfold timeS; rw [if_neg (by omega)]
theorem q4G (l : List (List UInt8)) (hl : l.length ≤ 1125899906842624) : PC Tryz.prog 24 [.isl (.slice .u8) l] (.isl .u8 (elemS 48 l)) := by
 refine q0C rfl rfl ?_
 refine rQ fi24 ?_
 refine q0a (q2h 48 48 rfl _ hl) ?_
 refine gQ ?_; trivial
def wrapS (tag n : Int) (b : List UInt8) : List UInt8 := if 0 ≤ n ∧ n ≤ 30 ∧ b ≠ [] then elemS (byteOf (tag + n)) [b] else []
theorem z3C (tag n : Int) (b : List UInt8) (ht : 0 ≤ tag ∧ tag ≤ 1000) : PC Tryz.prog 49 [rI tag, rI n, .isl .u8 b] (.isl .u8 (wrapS tag n b)) := by
 refine q0C rfl rfl ?_
 refine rQ fi49 ?_
 refine ⟨fun h1 => ⟨fun h2 => ⟨fun h3 => ?_, fun h3 => ?_⟩, fun h2 => ?_⟩, fun h1 => ?_⟩
 · unfold wrapS; rw [if_neg (fun h => h.2.2 (List.length_eq_zero_iff.1 (by omega)))]
 · refine q0t 0 ?_
   with_reducible refine sxE ?_
   refine q0a (q2h (byteOf (tag + n)) _ ?_ _ (by simp)) ?_
   · rw [wrapi (by omega)]; exact (q5G _).symm
   refine gQ ?_
   unfold wrapS
   rw [if_pos ⟨by omega, by omega, fun e => h3 (by rw [e]; rfl)⟩]
 · unfold wrapS; rw [if_neg (by omega)]
 unfold wrapS; rw [if_neg (by omega)]
theorem q3O (n : Int) (b : List UInt8) : PC Tryz.prog 25 [rI n, .isl .u8 b] (.isl .u8 (wrapS 160 n b)) := by
 refine q0C rfl rfl ?_
 refine rQ fi25 ?_
 refine q0a (z3C 160 n b (by omega)) ?_
 refine gQ ?_; trivial
def fullAt (l : List (List UInt8)) (j : Nat) : Bool := decide (l.getD j (Ty.slice .u8).dflt ≠ [])
def wholeS (l : List (List UInt8)) : List UInt8 := if allN l.length (fullAt l) then elemS 48 l else []
theorem z7L (l : List (List UInt8)) (hl : l.length ≤ 1125899906842624) : PC Tryz.prog 124 [.isl (.slice .u8) l] (.isl .u8 (wholeS l)) := by
 refine q0C rfl rfl ?_
 refine rQ fi124 ?_
 refine q3r (fun i => [(7, .raw (.int .i64 ((i : Nat) : Int)))]) (l.length) (fun j => (fullAt l) j = true) (by first | decide | simp) (fun i => rfl) ?_ fun i hi hall => ?_
 · (with_reducible refine sxE ?_ <;> try exact True.intro)
   all_goals (try rfl)
 have hwr := wsx i (by omega)
 refine gQ ?_
 have bad : i < (l.length) → (fullAt l) i = false → allN (l.length) (fullAt l) = false := fun hlt hv => q1v hlt hv
 have fin : ¬ i < (l.length) → allN (l.length) (fullAt l) = true := fun h => q1Q fun j hj => hall j (by omega)
 try dsimp only at bad fin hall
 refine ⟨fun hlt => ⟨⟨by omega, hlt⟩, fun h0 => ?_, fun h0 => ?_⟩, fun hge => q0a (q4G l hl) ?_⟩
 · have : fullAt l i = false := by simp only [fullAt, decide_eq_false_iff_not, ne_eq, Classical.not_not]; exact List.length_eq_zero_iff.1 (by omega)
   unfold wholeS; rw [bad hlt this]; rfl
 · refine ⟨hlt, q5a hall ?_, ⟨_, rfl⟩, ?_⟩
   · simp only [fullAt, decide_eq_true_eq]; exact fun e => h0 (by rw [e]; rfl)
   with_reducible refine sx1 hwr ?_; trivial
 refine gQ ?_
 unfold wholeS; rw [fin hge]; rfl
def tagN (l : List (List UInt8)) (i : Nat) : List (List UInt8) := (List.range i).map fun (j : Nat) => wrapS 160 j (l.getD j (Ty.slice .u8).dflt)
theorem z4o (l : List (List UInt8)) (i : Nat) : tagN l (i + 1) = tagN l i ++ [wrapS 160 i (l.getD i (Ty.slice .u8).dflt)] := by simp [tagN, List.range_succ]
def fieldsS (l : List (List UInt8)) : List UInt8 := wholeS (tagN l l.length)
theorem z5F (l : List (List UInt8)) (hl : l.length ≤ 1048576) : PC Tryz.prog 85 [.isl (.slice .u8) l] (.isl .u8 (fieldsS l)) := by
 refine q0C rfl rfl ?_
 refine rQ fi85 ?_
 refine q9v 3 (.slice .u8) (fun i => tagN l i) (fun i => [(8, rI i)]) l.length (fun _ => True) rfl (by simp) (by simp [tagN]) rfl (fun i => rfl) ?_ fun i hi _ => ?_
 · with_reducible refine sxE ?_; trivial
 have hwr := wsx i (by omega)
 have hln : (tagN l i).length = i := by simp [tagN]
 have hst := z4o l i
 refine gQ ?_
 refine ⟨fun hlt => ⟨⟨by omega, hlt⟩, q0a (q3O _ _) ?_⟩, fun hge => ?_⟩
 · refine gQ ?_
   refine ⟨⟨by omega, by omega⟩, q5d [_, _] [] hlt trivial (by rw [hst]; rfl) ?_⟩
   with_reducible refine sx3 hwr hst ?_; trivial
 obtain rfl : i = l.length := by omega
 refine q0t 0 ?_
 with_reducible refine sxE ?_
 refine ⟨by omega, ?_⟩
 rw [List.take_of_length_le (by omega)]
 refine ⟨Nat.le_refl _, q0a (z7L (tagN l l.length) (by omega)) ?_⟩
 refine gQ ?_
 rfl
def keyS (k : Key) : List UInt8 := fieldsS [intS k.1, intS k.2.1, elemS 4 [k.2.2]]
theorem z6m (p v : Int) (b : List UInt8) : PC Tryz.prog 45 [rI p, rI v, .isl .u8 b] (.isl .u8 (keyS (p, v, b))) := by
 refine q0C rfl rfl ?_
 refine rQ fi45 ?_
 refine q0a (q2D p) ?_
 refine gQ ?_
 refine q0a (q2D v) ?_
 refine gQ ?_
 refine q0a (z5M b) ?_
 refine gQ ?_
 refine q0t 0 ?_
 with_reducible refine sxE ?_
 refine q0a (z5F _ (by simp)) ?_
 refine gQ ?_
 rfl
abbrev PreT : Ty := .prod I64 (.slice .u8)
abbrev Pre := PreT.den
def beN (l : List UInt8) : Nat := l.foldl (fun v c => v * 256 + c.toNat) 0
theorem q5l (l : List UInt8) (i : Nat) (h : i < l.length) : beN (l.take (i + 1)) = beN (l.take i) * 256 + (l.getD i 0).toNat := by
 unfold beN
 rw [List.take_add_one, List.foldl_append, List.getElem?_eq_getElem h, List.getD_eq_getElem?_getD, List.getElem?_eq_getElem h]
 rfl
theorem q5V : ∀ (l : List UInt8), beN l < 256 ^ l.length := by
 intro l
 have : ∀ (l : List UInt8) (v : Nat), l.foldl (fun v c => v * 256 + c.toNat) v < (v + 1) * 256 ^ l.length := by
  intro l
  induction l with
  | nil => intro v; simp
  | cons c l ih =>
   intro v
   have h1 := ih (v * 256 + c.toNat)
   have h2 : c.toNat < 256 := c.toNat_lt
   simp only [List.foldl_cons, List.length_cons, Nat.pow_succ]
   refine Nat.lt_of_lt_of_le h1 ?_
   have : (v * 256 + c.toNat + 1) * 256 ^ l.length ≤ ((v + 1) * 256) * 256 ^ l.length := Nat.mul_le_mul_right _ (by omega)
   calc _ ≤ _ := this
    _ = _ := by rw [Nat.mul_assoc, Nat.mul_comm 256]
 have h := this l 0
 simpa [beN] using h
theorem q7Z (v c : Nat) (hv : v < 36028797018963968) (hc : c < 256) : IntKind.i64.wrap ((BitVec.ofInt 64 ((v * 256 : Nat) : Int) ||| BitVec.ofInt 64 ((c : Nat) : Int)).toNat : Int) = ((v * 256 + c : Nat) : Int) := by
 have h1 : (BitVec.ofInt 64 ((v * 256 : Nat) : Int)).toNat = v * 256 := by rw [BitVec.ofInt_natCast, BitVec.toNat_ofNat]; exact Nat.mod_eq_of_lt (by omega)
 have h2 : (BitVec.ofInt 64 ((c : Nat) : Int)).toNat = c := by rw [BitVec.ofInt_natCast, BitVec.toNat_ofNat]; exact Nat.mod_eq_of_lt (by omega)
 have h3 : v * 256 ||| c = v * 256 + c := by
  have := Nat.shiftLeft_add_eq_or_of_lt (b := c) (i := 8) hc v
  rw [Nat.shiftLeft_eq] at this
  exact this.symm
 rw [BitVec.toNat_or, h1, h2, h3]
 exact wrapi (by omega)
theorem z1Y (b : List UInt8) (hb : b.length ≤ 7) : PC Tryz.prog 105 [.isl .u8 b] (rI (beN b)) := by
 refine q0A rfl rfl ?_
 refine rQ fi105 ?_
 refine q3r (fun i => [(2, rI (beN (b.take i))), (7, .raw (.int .i64 ((i : Nat) : Int)))]) (b.length) (fun j => (fun _ => true) j = true) (by first | decide | simp) (fun i => rfl) ?_ fun i hi hall => ?_
 · (with_reducible refine sxE ?_ <;> try exact True.intro)
   all_goals (try rfl)
 have hwr := wsx i (by omega)
 refine gQ ?_
 have bad : i < (b.length) → (fun _ => true) i = false → allN (b.length) (fun _ => true) = false := fun hlt hv => q1v hlt hv
 have fin : ¬ i < (b.length) → allN (b.length) (fun _ => true) = true := fun h => q1Q fun j hj => hall j (by omega)
 try dsimp only at bad fin hall
 refine ⟨fun hlt => ⟨⟨by omega, hlt⟩, ?_⟩, fun hge => ?_⟩
 · have hv := q5V (b.take i)
   have hv2 : 256 ^ (b.take i).length ≤ 256 ^ 6 := Nat.pow_le_pow_right (by decide) (by simp; omega)
   have hc : (b.getD i Ty.u8.dflt).toNat < 256 := UInt8.toNat_lt _
   have e1 : IntKind.i64.wrap ((beN (b.take i) : Int) * 2 ^ min 8 64) = ((beN (b.take i) * 256 : Nat) : Int) := by
    rw [show ((beN (b.take i) : Int) * 2 ^ min 8 64) = ((beN (b.take i) * 256 : Nat) : Int) by simp]
    exact wrapi (by omega)
   have e2 : IntKind.i64.wrap ((b.getD i Ty.u8.dflt).toNat : Int) = (((b.getD i Ty.u8.dflt).toNat : Nat) : Int) := wrapi (by omega)
   have e3 := q7Z (beN (b.take i)) (b.getD i Ty.u8.dflt).toNat (by omega) hc
   have e4 := q5l b i hlt
   rw [e1, e2]
   refine ⟨hlt, trivial, ⟨[], rfl⟩, ?_⟩
   with_reducible refine sx1 hwr ?_
   rw [e4]
   exact congrArg (Value.int .i64) e3
 obtain rfl : i = b.length := by omega
 rw [List.take_length]
def minLen : Nat → Nat
 | 1 => 128 | 2 => 256 | 3 => 65536 | _ => 0
def measE (b : List UInt8) (at_ n : Nat) : Nat × Nat × Nat := if b.length - at_ < n then (0, 0, 4) else (at_, at_ + n, 0)
def meas (b : List UInt8) : Nat × Nat × Nat :=
 if b.length < 2 then (0, 0, 4) else
 if (b.getD 1 0).toNat < 128 then measE b 2 (b.getD 1 0).toNat else
 if (b.getD 1 0).toNat - 128 < 1 ∨ 3 < (b.getD 1 0).toNat - 128 then (0, 0, 6) else
 if b.length < 2 + ((b.getD 1 0).toNat - 128) then (0, 0, 4) else
 if beN ((b.drop 2).take ((b.getD 1 0).toNat - 128)) < minLen ((b.getD 1 0).toNat - 128) then (0, 0, 6) else
 measE b (2 + ((b.getD 1 0).toNat - 128)) (beN ((b.drop 2).take ((b.getD 1 0).toNat - 128)))
def measV (m : Nat × Nat × Nat) : SV := .tup [rI m.1, rI m.2.1, rI m.2.2]
theorem z2J (b : List UInt8) (hb : b.length ≤ 1099511627776) : PC Tryz.prog 147 [.isl .u8 b] (measV (meas b)) := by
 refine q0A rfl rfl ?_
 have hx : (b.getD 1 Ty.u8.dflt).toNat < 256 := UInt8.toNat_lt _
 have e0 : IntKind.i64.wrap ((b.getD 1 Ty.u8.dflt).toNat : Int) = (((b.getD 1 Ty.u8.dflt).toNat : Nat) : Int) := wrapi (by omega)
 have e1 : IntKind.i64.wrap (((b.getD 1 Ty.u8.dflt).toNat : Int) - 128) = ((b.getD 1 Ty.u8.dflt).toNat : Int) - 128 := wrapi (by omega)
 have e2 : IntKind.i64.wrap (2 + (((b.getD 1 Ty.u8.dflt).toNat : Int) - 128)) = 2 + (((b.getD 1 Ty.u8.dflt).toNat : Int) - 128) := wrapi (by omega)
 have e3 : IntKind.i64.wrap ((b.length : Int) - 2) = (b.length : Int) - 2 := wrapi (by omega)
 have e4 : IntKind.i64.wrap (2 + ((b.getD 1 Ty.u8.dflt).toNat : Int)) = 2 + ((b.getD 1 Ty.u8.dflt).toNat : Int) := wrapi (by omega)
 have hm : ∀ r, meas b = r → measV (meas b) = measV r := fun r h => by rw [h]
 unfold measV
 refine q1m fi147 (q0R mixed 600 _ ?_)
 simp (maxSteps := 3000000) only [ir147, e0, e1, e2, e3, e4, go_sem, ↓zA, ↓reduceIte, ↓reduceDIte] <;> try simp only [zB]
 have hd : b.getD 1 0 = b.getD 1 Ty.u8.dflt := rfl
 generalize hxx : b.getD 1 Ty.u8.dflt = x at *
 refine ⟨fun h => ?_, fun h => ⟨by omega, fun h2 => ⟨fun h3 => ⟨fun h4 => ?_, fun h4 => ⟨fun h5 => ?_, fun h5 => ⟨⟨by omega, by omega, by omega⟩, ?_⟩⟩⟩, fun h3 => ?_⟩, fun h2 => ⟨fun h3 => ?_, fun h3 => ?_⟩⟩⟩
 · have : meas b = (0, 0, 4) := by unfold meas; rw [if_pos (by omega)]
   rw [this]; rfl
 · have : meas b = (0, 0, 6) := by unfold meas; rw [hd, if_neg (by omega), if_neg (by omega), if_pos (by omega)]
   rw [this]; rfl
 · have : meas b = (0, 0, 4) := by unfold meas; rw [hd, if_neg (by omega), if_neg (by omega), if_neg (by omega), if_pos (by omega)]
   rw [this]; rfl
 · obtain ⟨m, hxm⟩ : ∃ m : Nat, (x.toNat : Int) - 128 = (m : Int) := ⟨x.toNat - 128, by omega⟩
   have hm3 : 1 ≤ m ∧ m ≤ 3 := by omega
   have ht2 : ((2 : Int) + (m : Int)).toNat = 2 + m := by omega
   have hll : (List.drop 2 (List.take (2 + m) b)).length = m := by simp; omega
   rw [hxm, ht2, hll]
   generalize hL : List.drop 2 (List.take (2 + m) b) = L at *
   have hmq : ∀ v, beN L = v → meas b = (if v < minLen m then (0, 0, 6) else measE b (2 + m) v) := fun v hv => by
    have hLx : (b.drop 2).take m = L := by rw [← hL, List.drop_take]; congr 1; omega
    unfold meas
    rw [hd, show x.toNat - 128 = m by omega, if_neg (by omega), if_neg (by omega), if_neg (by omega), if_neg (by omega), hLx, hv]
   rcases (by omega : m = 1 ∨ m = 2 ∨ m = 3) with rfl | rfl | rfl
   · refine q3r (fun i => [(5, rI (beN (L.take i))), (39, .raw (.int .i64 ((i : Nat) : Int)))]) (1) (fun j => (fun _ => true) j = true) (by first | decide | simp) (fun i => rfl) ?_ fun i hi hall => ?_
     · (with_reducible refine sxE ?_ <;> try exact True.intro)
       all_goals (try rfl)
     have hwr := wsx i (by omega)
     refine gQ ?_
     have bad : i < (1) → (fun _ => true) i = false → allN (1) (fun _ => true) = false := fun hlt hv => q1v hlt hv
     have fin : ¬ i < (1) → allN (1) (fun _ => true) = true := fun h => q1Q fun j hj => hall j (by omega)
     try dsimp only at bad fin hall
     refine ⟨fun hlt => ⟨⟨by omega, by omega⟩, ?_⟩, fun hge => ?_⟩
     · have hv := q5V (L.take i)
       have hv2 : 256 ^ (L.take i).length ≤ 256 ^ 6 := Nat.pow_le_pow_right (by decide) (by simp; omega)
       have hc : (L.getD i Ty.u8.dflt).toNat < 256 := UInt8.toNat_lt _
       have e1 : IntKind.i64.wrap ((beN (L.take i) : Int) * 2 ^ min 8 64) = ((beN (L.take i) * 256 : Nat) : Int) := by
        rw [show ((beN (L.take i) : Int) * 2 ^ min 8 64) = ((beN (L.take i) * 256 : Nat) : Int) by simp]
        exact wrapi (by omega)
       have e2 : IntKind.i64.wrap ((L.getD i Ty.u8.dflt).toNat : Int) = (((L.getD i Ty.u8.dflt).toNat : Nat) : Int) := wrapi (by omega)
       have e3 := q7Z (beN (L.take i)) (L.getD i Ty.u8.dflt).toNat (by omega) hc
       have e4 := q5l L i (by omega)
       rw [e1, e2]
       refine ⟨hlt, trivial, ⟨[], rfl⟩, ?_⟩
       with_reducible refine sx1 hwr ?_
       rw [e4]
       exact congrArg (Value.int .i64) e3
     rw [List.take_of_length_le (by omega : L.length ≤ i)]
     have hv := q5V L
     rw [hll] at hv
     have hv3 : beN L < 16777216 := by omega
     have w1 : IntKind.i64.wrap ((b.length : Int) - (2 + ((1 : Nat) : Int))) = (b.length : Int) - (2 + ((1 : Nat) : Int)) := wrapi (by omega)
     have w2 : IntKind.i64.wrap (2 + ((1 : Nat) : Int) + (beN L : Int)) = ((2 + 1 + beN L : Nat) : Int) := by rw [wrapi (by omega)]; omega
     rw [w1, w2]
     refine ⟨by decide, fun q => ?_, fun q => ⟨fun q2 => ?_, fun q2 => ?_⟩⟩
     · rw [hmq _ rfl, if_pos (by simp only [minLen]; omega)]; rfl
     · rw [hmq _ rfl, if_neg (by simp only [minLen]; omega)]; unfold measE; rw [if_pos (by omega)]; rfl
     rw [hmq _ rfl, if_neg (by simp only [minLen]; omega)]; unfold measE; rw [if_neg (by omega)]; rfl
   · refine q3r (fun i => [(5, rI (beN (L.take i))), (39, .raw (.int .i64 ((i : Nat) : Int)))]) (2) (fun j => (fun _ => true) j = true) (by first | decide | simp) (fun i => rfl) ?_ fun i hi hall => ?_
     · (with_reducible refine sxE ?_ <;> try exact True.intro)
       all_goals (try rfl)
     have hwr := wsx i (by omega)
     refine gQ ?_
     have bad : i < (2) → (fun _ => true) i = false → allN (2) (fun _ => true) = false := fun hlt hv => q1v hlt hv
     have fin : ¬ i < (2) → allN (2) (fun _ => true) = true := fun h => q1Q fun j hj => hall j (by omega)
     try dsimp only at bad fin hall
     refine ⟨fun hlt => ⟨⟨by omega, by omega⟩, ?_⟩, fun hge => ?_⟩
     · have hv := q5V (L.take i)
       have hv2 : 256 ^ (L.take i).length ≤ 256 ^ 6 := Nat.pow_le_pow_right (by decide) (by simp; omega)
       have hc : (L.getD i Ty.u8.dflt).toNat < 256 := UInt8.toNat_lt _
       have e1 : IntKind.i64.wrap ((beN (L.take i) : Int) * 2 ^ min 8 64) = ((beN (L.take i) * 256 : Nat) : Int) := by
        rw [show ((beN (L.take i) : Int) * 2 ^ min 8 64) = ((beN (L.take i) * 256 : Nat) : Int) by simp]
        exact wrapi (by omega)
       have e2 : IntKind.i64.wrap ((L.getD i Ty.u8.dflt).toNat : Int) = (((L.getD i Ty.u8.dflt).toNat : Nat) : Int) := wrapi (by omega)
       have e3 := q7Z (beN (L.take i)) (L.getD i Ty.u8.dflt).toNat (by omega) hc
       have e4 := q5l L i (by omega)
       rw [e1, e2]
       refine ⟨hlt, trivial, ⟨[], rfl⟩, ?_⟩
       with_reducible refine sx1 hwr ?_
       rw [e4]
       exact congrArg (Value.int .i64) e3
     rw [List.take_of_length_le (by omega : L.length ≤ i)]
     have hv := q5V L
     rw [hll] at hv
     have hv3 : beN L < 16777216 := by omega
     have w1 : IntKind.i64.wrap ((b.length : Int) - (2 + ((2 : Nat) : Int))) = (b.length : Int) - (2 + ((2 : Nat) : Int)) := wrapi (by omega)
     have w2 : IntKind.i64.wrap (2 + ((2 : Nat) : Int) + (beN L : Int)) = ((2 + 2 + beN L : Nat) : Int) := by rw [wrapi (by omega)]; omega
     rw [w1, w2]
     refine ⟨by decide, fun q => ?_, fun q => ⟨fun q2 => ?_, fun q2 => ?_⟩⟩
     · rw [hmq _ rfl, if_pos (by simp only [minLen]; omega)]; rfl
     · rw [hmq _ rfl, if_neg (by simp only [minLen]; omega)]; unfold measE; rw [if_pos (by omega)]; rfl
     rw [hmq _ rfl, if_neg (by simp only [minLen]; omega)]; unfold measE; rw [if_neg (by omega)]; rfl
   refine q3r (fun i => [(5, rI (beN (L.take i))), (39, .raw (.int .i64 ((i : Nat) : Int)))]) (3) (fun j => (fun _ => true) j = true) (by first | decide | simp) (fun i => rfl) ?_ fun i hi hall => ?_
   · (with_reducible refine sxE ?_ <;> try exact True.intro)
     all_goals (try rfl)
   have hwr := wsx i (by omega)
   refine gQ ?_
   have bad : i < (3) → (fun _ => true) i = false → allN (3) (fun _ => true) = false := fun hlt hv => q1v hlt hv
   have fin : ¬ i < (3) → allN (3) (fun _ => true) = true := fun h => q1Q fun j hj => hall j (by omega)
   try dsimp only at bad fin hall
   refine ⟨fun hlt => ⟨⟨by omega, by omega⟩, ?_⟩, fun hge => ?_⟩
   · have hv := q5V (L.take i)
     have hv2 : 256 ^ (L.take i).length ≤ 256 ^ 6 := Nat.pow_le_pow_right (by decide) (by simp; omega)
     have hc : (L.getD i Ty.u8.dflt).toNat < 256 := UInt8.toNat_lt _
     have e1 : IntKind.i64.wrap ((beN (L.take i) : Int) * 2 ^ min 8 64) = ((beN (L.take i) * 256 : Nat) : Int) := by
      rw [show ((beN (L.take i) : Int) * 2 ^ min 8 64) = ((beN (L.take i) * 256 : Nat) : Int) by simp]
      exact wrapi (by omega)
     have e2 : IntKind.i64.wrap ((L.getD i Ty.u8.dflt).toNat : Int) = (((L.getD i Ty.u8.dflt).toNat : Nat) : Int) := wrapi (by omega)
     have e3 := q7Z (beN (L.take i)) (L.getD i Ty.u8.dflt).toNat (by omega) hc
     have e4 := q5l L i (by omega)
     rw [e1, e2]
     refine ⟨hlt, trivial, ⟨[], rfl⟩, ?_⟩
     with_reducible refine sx1 hwr ?_
     rw [e4]
     exact congrArg (Value.int .i64) e3
   rw [List.take_of_length_le (by omega : L.length ≤ i)]
   have hv := q5V L
   rw [hll] at hv
   have hv3 : beN L < 16777216 := by omega
   have w1 : IntKind.i64.wrap ((b.length : Int) - (2 + ((3 : Nat) : Int))) = (b.length : Int) - (2 + ((3 : Nat) : Int)) := wrapi (by omega)
   have w2 : IntKind.i64.wrap (2 + ((3 : Nat) : Int) + (beN L : Int)) = ((2 + 3 + beN L : Nat) : Int) := by rw [wrapi (by omega)]; omega
   rw [w1, w2]
   refine ⟨by decide, fun q => ?_, fun q => ⟨fun q2 => ?_, fun q2 => ?_⟩⟩
   · rw [hmq _ rfl, if_pos (by simp only [minLen]; omega)]; rfl
   · rw [hmq _ rfl, if_neg (by simp only [minLen]; omega)]; unfold measE; rw [if_pos (by omega)]; rfl
   rw [hmq _ rfl, if_neg (by simp only [minLen]; omega)]; unfold measE; rw [if_neg (by omega)]; rfl
 · have : meas b = (0, 0, 6) := by unfold meas; rw [hd, if_neg (by omega), if_neg (by omega), if_pos (by omega)]
   rw [this]; rfl
 · have : meas b = (0, 0, 4) := by unfold meas; rw [hd, if_neg (by omega), if_pos (by omega)]; unfold measE; rw [if_pos (by omega)]
   rw [this]; rfl
 have : meas b = (2, 2 + x.toNat, 0) := by unfold meas; rw [hd, if_neg (by omega), if_pos (by omega)]; unfold measE; rw [if_neg (by omega)]
 rw [this]; rfl
def takeE (tag : UInt8) (r : List UInt8) : Nat := if r.length = 0 then 4 else if r.getD 0 0 ≠ tag then 6 else (meas r).2.2
def takeC (r : List UInt8) : List UInt8 := (r.take (meas r).2.1).drop (meas r).1
def takeN (r : List UInt8) : Nat := (meas r).2.1
theorem z4i {r : List UInt8} (h : (meas r).2.2 = 0) : 2 ≤ (meas r).1 ∧ (meas r).1 ≤ (meas r).2.1 ∧ (meas r).2.1 ≤ r.length := by
 have key : ∀ a n, (measE r a n).2.2 = 0 → 2 ≤ a → a ≤ r.length → 2 ≤ (measE r a n).1 ∧ (measE r a n).1 ≤ (measE r a n).2.1 ∧ (measE r a n).2.1 ≤ r.length := by
  intro a n h1 h2 h3
  unfold measE at h1 ⊢
  split at h1
  · cases h1
  rename_i hh; rw [if_neg hh]; simp only; omega
 unfold meas at h ⊢
 repeat' split at h
 all_goals first | (cases h; done) | skip
 · rename_i g1 g2; rw [if_neg g1, if_pos g2]; exact key _ _ h (by omega) (by omega)
 rename_i g1 g2 g3 g4 g5; rw [if_neg g1, if_neg g2, if_neg g3, if_neg g4, if_neg g5]; exact key _ _ h (by omega) (by omega)
theorem z6D {t : UInt8} {r : List UInt8} (h : takeE t r = 0) : (meas r).2.2 = 0 := by
 unfold takeE at h
 split at h
 · cases h
 split at h
 · cases h
 exact h
theorem q3V {t : UInt8} {r : List UInt8} (h : takeE t r = 0) : takeN r ≤ r.length := (z4i (z6D h)).2.2
theorem q3Q (r : List UInt8) : (takeC r).length ≤ r.length := by unfold takeC; rw [List.length_drop, List.length_take]; omega

abbrev PR (α : Type) := List UInt8 → Except Nat (α × Nat)
def rdP {α : Type} (tag : UInt8) (dec : List UInt8 → Option α) : PR α := fun r =>
 if takeE tag r = 0 then match dec (takeC r) with
  | some v => .ok (v, takeN r)
  | none => .error 6
 else .error (takeE tag r)
def allP {α : Type} (p : PR α) (c : List UInt8) : Except Nat α := match p c with
 | .error e => .error e
 | .ok (v, m) => if m < c.length then .error 6 else .ok v
def inP {α : Type} (tag : UInt8) (p : PR α) : PR α := fun r =>
 if takeE tag r = 0 then match allP p (takeC r) with
  | .ok v => .ok (v, takeN r)
  | .error e => .error e
 else .error (takeE tag r)
def tagB (n : Nat) : UInt8 := byteOf (160 + n)
def nextB (n : Nat) (r : List UInt8) : Bool := decide (r.length ≠ 0) && decide (r.getD 0 0 = tagB n)
def needP {α : Type} (n : Nat) (p : PR α) : PR α := fun r =>
 if nextB n r then inP (tagB n) p r else .error (if r.length = 0 then 4 else 6)
def bindP {α β : Type} (p : PR α) (f : α → PR β) : PR β := fun r => match p r with
 | .error e => .error e
 | .ok (v, k) => match f v (r.drop k) with
  | .error e => .error e
  | .ok (u, m) => .ok (u, k + m)
def retP {α : Type} (v : α) : PR α := fun _ => .ok (v, 0)
end Go.Proofs.YtikapabgggphpaaGreatDoor
