/- HMAC: contracts: the program's key blocks. -/
import Derived.Test.YtikapabgggphpaaGreatDoorP20
import Derived.Test.YtikapabgggphpaaGreatDoorP15
import Derived.Test.YtikapabgggphpaaGreatDoorP12
import Derived.Test.YtikapabgggphpaaGreatDoorP16
set_option linter.all false
namespace Go.Proofs.YtikapabgggphpaaGreatDoor
open Go Go.Sx Go.Proofs
set_option maxRecDepth 100000
set_option maxHeartbeats 40000000
theorem z3M {h k n N : Nat} {t e : Ty} {x : t.den} {ys : List e.den} (ha : t.arrAt x k = some ⟨e, N, ys⟩) (hne : t ≠ e) (hn : n = N) (hl : ys.length = n) (hb : n ≤ 1125899906842624) : Bor h t [x] (.csl h e k 0 n) (.isl e ys) := by
 refine .csl (p := 0 + n ≤ N) ?_ (by omega) hb
 simp only [ownPart]
 rw [dif_neg hne]
 simp only [ha, dite_true, cast_eq, List.drop_zero]
 rw [List.take_of_length_le (by omega)]
theorem z8v {h n : Nat} {t : Ty} {xs : List t.den} (hl : xs.length = n) : Bor h t xs (.osl h t 0 n) (.isl t xs) := by
 have := Bor.osl (h := h) (t := t) (xs := xs) (off := 0) (n := n) (by omega)
 rwa [List.drop_zero, List.take_of_length_le (by omega)] at this
theorem z0A {h n : Nat} {xs : List UInt8} (hl : xs.length = n) (h0 : 0 < n) : Bor h .u8 xs (.rptr h .u8 0 0) (.iptr (.arr n .u8) xs 0) := by
 subst hl
 exact .ptr (.inr ⟨rfl, rfl, rfl, h0, .rfl⟩)
theorem z4N {h : Nat} {t : Ty} {x : t.den} (hg : t.get x 0 t.size = some ⟨t, x⟩) : Bor h t [x] (.rptr h t 0 0) (.iptr t x 0) := .ptr (.inl ⟨x, rfl, by rw [Nat.zero_mul]; exact hg⟩)
theorem z7t (w : List UInt8) (c : UInt8) (_hw : w.length = 64) : PC Tryz.prog 179 [.raw (.int .u8 c.toNat), .iptr (.arr 64 .u8) w 0] (.dat (.arr 64 .u8) (hkP w c 64)) := by
 refine q0A rfl rfl ?_
 refine rQ fi179 ?_
 refine q0p (ι := Nat) (fun i => [(7, rI i)]) (fun i => [.row .u8 (hkP w c i)]) (fun i => 64 - i) (fun i => i ≤ 64) 0 (Nat.zero_le _) (by rw [z5l]; first | done | rfl) ?_ ?_
 · with_reducible refine sxE ?_; trivial
 intro i hi
 have hwr := wsx i (by omega)
 have hpl := q7L w c i
 by_cases h64 : i < 64
 · have hx8 := xor8 (w.getD i 0) c
   refine uQ 600 _ ?_
   simp (maxSteps := 3000000) only [hpl, hx8, Nat.zero_add, Ty.dflt, go_sem, ↓zA, ↓reduceIte, ↓reduceDIte] <;> try simp only [zB]
   refine ⟨fun _ => ⟨⟨by omega, h64⟩, ⟨by omega, h64⟩, ⟨h64, by rw [UInt8.ofNat_toNat]⟩, i + 1, h64, by dsimp only; omega, ?_, ?_⟩, fun h => absurd h (by omega)⟩
   · rw [UInt8.ofNat_toNat, z9O w c h64]
   with_reducible refine sx1 hwr ?_; trivial
 obtain rfl : i = 64 := by omega
 refine uQ 600 _ ?_
 simp (maxSteps := 3000000) only [hpl, Nat.zero_add, go_sem, ↓zA, ↓reduceIte, ↓reduceDIte] <;> try simp only [zB]
 refine ⟨fun h => absurd h (by omega), fun _ => ?_⟩
 have e : List.take 64 (hkP w c 64) ++ List.drop (List.take 64 (hkP w c 64)).length (hkP w c 64) = hkP w c 64 := by
  rw [List.take_of_length_le (by omega), hpl, List.drop_eq_nil_of_le (by omega), List.append_nil]
 rw [e, if_pos hpl]
 exact ⟨_, rfl, rfl⟩
def hz0 : HaD := (List.replicate 8 0, List.replicate 64 0, 0)
theorem q7o : HRep [] hz0 := z5v
theorem z8y (o i : List UInt8) (x : HaD) (rd : Bool) (hi : i.length = 64) : PE Tryz.prog 180 [.rptr 0 (.prod (.prod (.arr 64 .u8) (.arr 64 .u8)) (.prod (.prod (.arr 8 (.int .u32)) (.prod (.arr 64 .u8) (.int .i64))) .bool)) 0 0] [.row (.prod (.prod (.arr 64 .u8) (.arr 64 .u8)) (.prod (.prod (.arr 8 (.int .u32)) (.prod (.arr 64 .u8) (.int .i64))) .bool)) [((o, i), (x, rd))]] (.ret (.dat (.prod (.arr 8 (.int .u32)) (.prod (.arr 64 .u8) (.int .i64))) (wrS [] hz0 i))) [.row (.prod (.prod (.arr 64 .u8) (.arr 64 .u8)) (.prod (.prod (.arr 8 (.int .u32)) (.prod (.arr 64 .u8) (.int .i64))) .bool)) [((o, i), (x, rd))]] := by
 refine q0i (Nat.le_refl _) ?_
 refine rQ fi180 ?_
 refine ⟨⟨by decide, by decide⟩, ?_⟩
 refine q0w [1, 0] (q9Z (t := (.prod (.prod (.arr 64 .u8) (.arr 64 .u8)) (.prod (.prod (.arr 8 (.int .u32)) (.prod (.arr 64 .u8) (.int .i64))) .bool))) (xs := [((o, i), (x, rd))]) (q9I [] i hz0 q7o (by simp; omega)) rfl rfl rfl rfl (by simp) (.cons (.keep rfl) (.cons (z3M rfl (by decide) rfl hi (by decide)) .nil))) rfl (by decide) (by repeat first | exact trivial | exact rfl | refine And.intro ?_ ?_) rfl rfl ?_
 simp only [afterO, Out.ren, SV.ren, mgA, sig, SObj.ren, SV.renL, List.set, List.map, List.append_nil, List.cons_append, List.nil_append]
 refine gQ ?_; trivial
theorem z5h (o i d : List UInt8) (x : HaD) (rd : Bool) (ho : o.length = 64) (hd : d.length = 32) : PE Tryz.prog 182 [.rptr 0 (.prod (.prod (.arr 64 .u8) (.arr 64 .u8)) (.prod (.prod (.arr 8 (.int .u32)) (.prod (.arr 64 .u8) (.int .i64))) .bool)) 0 0, .dat (.arr 32 .u8) d] [.row (.prod (.prod (.arr 64 .u8) (.arr 64 .u8)) (.prod (.prod (.arr 8 (.int .u32)) (.prod (.arr 64 .u8) (.int .i64))) .bool)) [((o, i), (x, rd))]] (.ret (.dat (.arr 32 .u8) (shaS (o ++ d)))) [.row (.prod (.prod (.arr 64 .u8) (.arr 64 .u8)) (.prod (.prod (.arr 8 (.int .u32)) (.prod (.arr 64 .u8) (.int .i64))) .bool)) [((o, i), (x, rd))]] := by
 refine q0i (Nat.le_refl _) ?_
 refine rQ fi182 ?_
 refine ⟨⟨by decide, by decide⟩, ?_⟩
 refine q0w [3, 0] (q9Z (t := (.prod (.prod (.arr 64 .u8) (.arr 64 .u8)) (.prod (.prod (.arr 8 (.int .u32)) (.prod (.arr 64 .u8) (.int .i64))) .bool))) (xs := [((o, i), (x, rd))]) (q9I [] o hz0 q7o (by simp; omega)) rfl rfl rfl rfl (by simp) (.cons (.keep rfl) (.cons (z3M rfl (by decide) rfl ho (by decide)) .nil))) rfl (by decide) (by repeat first | exact trivial | exact rfl | refine And.intro ?_ ?_) rfl rfl ?_
 simp only [afterO, Out.ren, SV.ren, mgA, sig, SObj.ren, SV.renL, List.set, List.map, List.append_nil, List.cons_append, List.nil_append]
 have hr1 : HRep o (wrS [] hz0 o) := q7z q7o
 have hr2 : HRep (o ++ d) (wrS o (wrS [] hz0 o) d) := q7z hr1
 generalize wrS [] hz0 o = y1 at *
 generalize hy : wrS o y1 d = y at *
 have hw2 := hy ▸ q9I o d y1 hr1 (by omega)
 refine gQ ?_
 refine ⟨⟨by decide, by decide⟩, ?_⟩
 refine q0w [3, 1] (q9Z (t := .u8) (xs := d) hw2 (by simp only [List.length_cons, List.length_nil]) rfl rfl rfl (by omega) (.cons (.keep rfl) (.cons (z8v hd) .nil))) rfl (by decide) (by repeat first | exact trivial | exact rfl | refine And.intro ?_ ?_) rfl rfl ?_
 simp only [afterO, Out.ren, SV.ren, mgA, sig, SObj.ren, SV.renL, List.set, List.map, List.append_nil, List.cons_append, List.nil_append]
 refine gQ ?_
 refine q0w [3] (q5c (t := (.prod (.arr 8 (.int .u32)) (.prod (.arr 64 .u8) (.int .i64)))) (xs := [y]) (z7u (o ++ d) y hr2 (by simp; omega)) rfl (by simp) (.cons (z4N rfl) .nil)) rfl (by decide) (by repeat first | exact trivial | exact rfl | refine And.intro ?_ ?_) rfl rfl ?_
 simp only [afterO, Out.ren, SV.ren, mgA, sig, SObj.ren, SV.renL, List.set, List.map, List.append_nil, List.cons_append, List.nil_append]
 have hsl : (shaS (o ++ d)).length = 32 := q0T _
 refine uQ 600 _ ?_
 with_reducible refine sx1 hsl ?_; trivial
def padK (k : List UInt8) : List UInt8 := hkC k ++ List.replicate (64 - (hkC k).length) 0
theorem z9h (k : List UInt8) : (hkC k).length ≤ 64 := by
 unfold hkC
 split
 · have : (shaS k).length = 32 := q0T _
   omega
 omega
theorem z5n (k : List UInt8) : (padK k).length = 64 := by
 have := z9h k
 unfold padK; rw [List.length_append, List.length_replicate]; omega
theorem z3A (k : List UInt8) (c : UInt8) : hkP (padK k) c 64 = hkS k c := by
 unfold hkS hkP
 apply List.map_congr_left
 intro i hi
 have hi' : i < 64 := List.mem_range.1 hi
 rw [if_pos hi', if_pos hi']
 congr 1
 unfold padK
 rw [List.getD_eq_getElem?_getD, List.getD_eq_getElem?_getD]
 rcases Nat.lt_or_ge i (hkC k).length with h | h
 · rw [List.getElem?_append_left h]
 rw [List.getElem?_append_right h, List.getElem?_eq_none h, List.getElem?_replicate]
 split <;> rfl
def macI (k : List UInt8) : (List UInt8 × List UInt8) × (HaD × Bool) := ((hkS k 92, hkS k 54), (wrS [] hz0 (hkS k 54), true))
theorem z7O {ty : Ty} {x : ty.den} {v : Value} {H' : List SObj} {h : Nat} (hH : H'[h]? = some (.row ty [x])) : Weak 0 (fun o' H'' => o' = .ret (.tup [.rptr 0 ty 0 0, .raw v]) ∧ H'' = [.row ty [x]]) (.ret (.tup [.rptr h ty 0 0, .raw v])) H' :=
 ⟨fun _ => h, .tup [.rptr 0 ty 0 0, .raw v], .tup [.rptr 0 ty 0 0, .raw v], [.row ty [x]], ⟨⟨rfl, trivial⟩, ⟨hH, trivial⟩, rfl, rfl, rfl, rfl, Nat.zero_le _, fun _ h0 => absurd h0 (Nat.lt_irrefl 0)⟩, .inl (.inl rfl), ⟨rfl, rfl⟩⟩
abbrev HTT : Ty := (.prod (.arr 8 (.int .u32)) (.prod (.arr 64 .u8) (.int .i64))) 
abbrev MTT : Ty := (.prod (.prod (.arr 64 .u8) (.arr 64 .u8)) (.prod (.prod (.arr 8 (.int .u32)) (.prod (.arr 64 .u8) (.int .i64))) .bool)) 
theorem j0q (k : List UInt8) (hk : k.length ≤ 64) : PE Tryz.prog 159 [.isl .u8 k] [] (.ret (.tup [.rptr 0 (.prod (.prod (.arr 64 .u8) (.arr 64 .u8)) (.prod (.prod (.arr 8 (.int .u32)) (.prod (.arr 64 .u8) (.int .i64))) .bool)) 0 0, rI 0])) [.row (.prod (.prod (.arr 64 .u8) (.arr 64 .u8)) (.prod (.prod (.arr 8 (.int .u32)) (.prod (.arr 64 .u8) (.int .i64))) .bool)) [macI k]] := by
 have c1 : (4096 < (k.length : Int)) = False := eq_false (by omega)
 have c2 : (64 < (k.length : Int)) = False := eq_false (by omega)
 have hkc : hkC k = k := if_neg (by omega)
 have hkm : min k.length 64 = k.length := by omega
 have hpl := z5n k
 refine j0E ?_
 refine q1m fi159 ?_
 refine uQ 600 _ ?_
 simp (maxSteps := 3000000) only [c1, c2, hkm, List.take_length, go_sem, ↓zA, ↓reduceIte, ↓reduceDIte] <;> try simp only [zB]
 have hrow : ∀ l, l = List.replicate 64 (0 : UInt8) → k ++ List.drop (0 + k.length) l = padK k := fun l hl => by
  subst hl
  unfold padK
  rw [hkc, Nat.zero_add, List.drop_replicate]
 rw [hrow]
 case a => rfl
 refine ⟨⟨by decide, by decide⟩, by omega, ?_⟩
 refine q0w [0] (q5c (t := .u8) (xs := padK k) (z7t (padK k) 92 hpl) rfl (by omega) (.cons (.keep rfl) (.cons (z0A hpl (by decide)) .nil))) rfl (by decide) (by repeat first | exact trivial | exact rfl | refine And.intro ?_ ?_) rfl rfl ?_
 simp only [afterO, Out.ren, SV.ren, mgA, sig, SObj.ren, SV.renL, List.set, List.map, List.append_nil, List.cons_append, List.nil_append]
 refine gQ ?_
 refine q0w [0] (q5c (t := .u8) (xs := padK k) (z7t (padK k) 54 hpl) rfl (by omega) (.cons (.keep rfl) (.cons (z0A hpl (by decide)) .nil))) rfl (by decide) (by repeat first | exact trivial | exact rfl | refine And.intro ?_ ?_) rfl rfl ?_
 simp only [afterO, Out.ren, SV.ren, mgA, sig, SObj.ren, SV.renL, List.set, List.map, List.append_nil, List.cons_append, List.nil_append]
 rw [z3A, z3A]
 refine gQ ?_
 refine eQ [1] (z8y (hkS k 92) (hkS k 54) _ true (q7L _ _ _)) ?_
 exact z7O rfl
theorem z5V (m b : List UInt8) (ks : List UInt8 × List UInt8) (x : HaD) (hx : HRep m x) (hl : m.length + b.length ≤ 70368744177664) : PE Tryz.prog 160 [.rptr 0 (.prod (.prod (.arr 64 .u8) (.arr 64 .u8)) (.prod (.prod (.arr 8 (.int .u32)) (.prod (.arr 64 .u8) (.int .i64))) .bool)) 0 0, .isl .u8 b] [.row (.prod (.prod (.arr 64 .u8) (.arr 64 .u8)) (.prod (.prod (.arr 8 (.int .u32)) (.prod (.arr 64 .u8) (.int .i64))) .bool)) [(ks, (x, true))]] (.ret (rI 0)) [.row (.prod (.prod (.arr 64 .u8) (.arr 64 .u8)) (.prod (.prod (.arr 8 (.int .u32)) (.prod (.arr 64 .u8) (.int .i64))) .bool)) [(ks, (wrS m x b, true))]] := by
 refine q0i (Nat.le_refl _) ?_
 refine rQ fi160 ?_
 refine eQ [0] (z5d m b x ks true hx hl) ?_; trivial
theorem j0B (m : List UInt8) (o i : List UInt8) (x : HaD) (hx : HRep m x) (hl : m.length ≤ 70368744177664) (ho : o.length = 64) : PE Tryz.prog 161 [.rptr 0 (.prod (.prod (.arr 64 .u8) (.arr 64 .u8)) (.prod (.prod (.arr 8 (.int .u32)) (.prod (.arr 64 .u8) (.int .i64))) .bool)) 0 0] [.row (.prod (.prod (.arr 64 .u8) (.arr 64 .u8)) (.prod (.prod (.arr 8 (.int .u32)) (.prod (.arr 64 .u8) (.int .i64))) .bool)) [((o, i), (x, true))]] (.ret (.tup [.dat (.arr 32 .u8) (shaS (o ++ shaS m)), rI 0])) [.row (.prod (.prod (.arr 64 .u8) (.arr 64 .u8)) (.prod (.prod (.arr 8 (.int .u32)) (.prod (.arr 64 .u8) (.int .i64))) .bool)) [((o, i), (x, true))]] := by
 have hsl : (shaS m).length = 32 := q0T _
 have hsl2 : (shaS (o ++ shaS m)).length = 32 := q0T _
 have hg : RLies MTT [((o, i), (x, true))] (0 * MTT.size + 128) HTT x := .inl ⟨_, rfl, rfl⟩
 refine q0i (Nat.le_refl _) ?_
 refine q1m fi161 ?_
 refine uQ 21 _ ?_
 with_reducible refine sxE ?_
 refine q1W [0] mixed ?_
 refine uQ 600 _ ?_
 with_reducible refine sxE ?_
 refine q1f [0] (q5c (t := MTT) (xs := [((o, i), (x, true))]) (z7u m x hx hl) rfl (by simp) (.cons (.ptr hg) .nil)) rfl (by decide) (by repeat first | exact trivial | exact rfl | refine And.intro ?_ ?_) rfl rfl (fun h hh => ?_) ?_
 · obtain rfl : h = 0 := by simpa using hh
   rfl
 simp only [afterR, Out.ren, SV.ren, mgA, sig, SObj.ren, SV.renL, List.set, List.map, List.append_nil, List.cons_append, List.nil_append]
 refine uQ 600 _ ?_
 with_reducible refine sx1 hsl ?_
 refine q1f [0] (z5h o i (shaS m) x true ho hsl) rfl (by decide) (by repeat first | exact trivial | exact rfl | refine And.intro ?_ ?_) rfl rfl (fun h hh => ?_) ?_
 · obtain rfl : h = 0 := by simpa using hh
   rfl
 simp only [afterR, Out.ren, SV.ren, mgA, sig, SObj.ren, SV.renL, List.set, List.map, List.append_nil, List.cons_append, List.nil_append]
 refine uQ 600 _ ?_
 with_reducible refine sx1 hsl2 ?_; trivial
def hmS (k b : List UInt8) : List UInt8 := shaS (hkS k 92 ++ shaS (hkS k 54 ++ b))
theorem q3u (k b : List UInt8) : (hmS k b).length = 32 := q0T _
def mWr (k : List UInt8) (ps : List (List UInt8)) : Nat → HaD
 | 0 => wrS [] hz0 (hkS k 54)
 | i + 1 => wrS (hkS k 54 ++ (ps.take i).flatten) (mWr k ps i) (ps.getD i [])
theorem q3G {ps : List (List UInt8)} {i : Nat} (h : i < ps.length) : (ps.take (i + 1)).flatten = (ps.take i).flatten ++ ps.getD i [] := by
 rw [List.take_succ_eq_append_getElem h, List.flatten_append, List.flatten_singleton, List.getD_eq_getElem?_getD, List.getElem?_eq_getElem h]
 rfl
theorem z3F (k : List UInt8) (ps : List (List UInt8)) : ∀ i, i ≤ ps.length → HRep (hkS k 54 ++ (ps.take i).flatten) (mWr k ps i)
 | 0, _ => by
  have := q7z (b := hkS k 54) q7o
  simpa [mWr] using this
 | i + 1, hi => by
  have := q7z (b := ps.getD i []) (z3F k ps i (by omega))
  rw [List.append_assoc, ← q3G (by omega)] at this
  exact this
theorem q0Y : ∀ (ps : List (List UInt8)) (i : Nat), (ps.take i).flatten.length ≤ ps.flatten.length
 | [], i => by simp
 | p :: ps, 0 => by simp
 | p :: ps, i + 1 => by simp only [List.take_succ_cons, List.flatten_cons, List.length_append]; have := q0Y ps i; omega
theorem z6X (k : List UInt8) (ps : List (List UInt8)) (hk : k.length ≤ 64) (hp : ps.flatten.length ≤ 1099511627776) (hpl : ps.length ≤ 1099511627776) : PC Tryz.prog 142 [.isl .u8 k, .isl (.slice .u8) ps] (.tup [.dat (.arr 32 .u8) (hmS k ps.flatten), rI 0]) := by
 refine q0A rfl rfl ?_
 refine q1m fi142 ?_
 refine uQ 600 _ ?_
 with_reducible refine sxE ?_
 refine eQ [] (j0q k hk) ?_
 refine q0p (ι := Nat) (fun i => [(21, rI i)]) (fun i => [.row .u8 (List.replicate 32 0), .row (.prod (.prod (.arr 64 .u8) (.arr 64 .u8)) (.prod (.prod (.arr 8 (.int .u32)) (.prod (.arr 64 .u8) (.int .i64))) .bool)) [((hkS k 92, hkS k 54), (mWr k ps i, true))]]) (fun i => ps.length - i) (fun i => i ≤ ps.length) 0 (Nat.zero_le _) rfl ?_ ?_
 · with_reducible refine sxE ?_; trivial
 intro i hi
 have hrep := z3F k ps i hi
 have hwr := wsx i (by omega)
 have hfl := q0Y ps i
 have hil : (hkS k 54).length = 64 := q7L _ _ _
 by_cases h : i < ps.length
 · have hf1 := q3G h
   have hfl1 := q0Y ps (i + 1)
   rw [hf1, List.length_append] at hfl1
   refine gQ ?_
   refine ⟨fun _ => ⟨⟨by omega, h⟩, ?_⟩, fun hh => absurd h hh⟩
   refine eQ [1] (z5V (hkS k 54 ++ (ps.take i).flatten) (ps.getD i []) (hkS k 92, hkS k 54) _ hrep (by rw [List.length_append]; omega)) ?_
   refine ⟨i + 1, h, by dsimp only; omega, rfl, ?_⟩
   with_reducible refine sx1 hwr ?_; trivial
 obtain rfl : i = ps.length := by omega
 rw [List.take_length] at hrep
 have hsl : (shaS (hkS k 92 ++ shaS (hkS k 54 ++ ps.flatten))).length = 32 := q0T _
 refine gQ ?_
 refine ⟨fun hh => absurd hh (by omega), fun _ => ?_⟩
 refine q0w [1] (j0B (hkS k 54 ++ ps.flatten) (hkS k 92) (hkS k 54) _ hrep (by rw [List.length_append]; omega) (q7L _ _ _)) rfl (by decide) (by repeat first | exact trivial | exact rfl | refine And.intro ?_ ?_) rfl rfl ?_
 simp only [afterO, Out.ren, SV.ren, mgA, sig, SObj.ren, SV.renL, List.set, List.map, List.append_nil, hsl]
 refine uQ 600 _ ?_
 with_reducible refine sx1 hsl ?_
 rfl
def four (n : Nat) : List UInt8 := [UInt8.ofNat (n / 2 ^ 24 % 256), UInt8.ofNat (n / 2 ^ 16 % 256), UInt8.ofNat (n / 2 ^ 8 % 256), UInt8.ofNat (n / 2 ^ 0 % 256)]
theorem z6d (n : Nat) : (four n).length = 4 := rfl
theorem fdivN (n m : Nat) (hm : m ≤ 64) : ((n : Int).fdiv (2 ^ min m 64)) = ((n / 2 ^ m : Nat) : Int) := by
 rw [Nat.min_eq_left hm, Int.fdiv_eq_ediv_of_nonneg _ (by exact_mod_cast Nat.zero_le (2 ^ m))]
 simp
theorem byteN (n m : Nat) (hm : m ≤ 64) : UInt8.ofNat (IntKind.u8.wrap ((n : Int).fdiv (2 ^ min m 64))).toNat = UInt8.ofNat (n / 2 ^ m % 256) := by
 rw [fdivN n m hm]
 generalize n / 2 ^ m = m
 rw [u8wrapR]
 congr 1
theorem byteN0 (n : Nat) : UInt8.ofNat (IntKind.u8.wrap (n : Int)).toNat = UInt8.ofNat (n / 2 ^ 0 % 256) := by
 rw [Nat.pow_zero, Nat.div_one, u8wrapR]
 congr 1
theorem z6V (n : Nat) : PC Tryz.prog 143 [rI n] (.isl .u8 (four n)) := by
 refine q0C rfl rfl ?_
 refine rQ fi143 ?_
 refine ⟨⟨q1V _, q1V _, q1V _, q1V _⟩, ?_⟩
 rw [byteN _ 24 (by decide), byteN _ 16 (by decide), byteN _ 8 (by decide), byteN0]
 rfl
theorem z7Z (n : Nat) (ls : List (List UInt8)) (h1 : 1 ≤ n) (h2 : n ≤ 1024) (hl : ∀ l ∈ ls, l.length ≤ 4096) (hn : ls.length ≤ 100) : PC Tryz.prog 120 [rI n, .isl (.slice .u8) ls] (rB true) := by
 refine q0A rfl rfl ?_
 refine rQ fi120 ?_
 refine q0p (ι := Nat) (fun i => [(9, rI i)]) (fun i => []) (fun i => ls.length - i) (fun i => i ≤ ls.length) 0 (Nat.zero_le _) rfl ?_ ?_
 · with_reducible refine sxE ?_; trivial
 intro i hi
 have hwr := wsx i (by omega)
 by_cases h : i < ls.length
 · have hli : (ls.getD i []).length ≤ 4096 := by
    rw [List.getD_eq_getElem?_getD, List.getElem?_eq_getElem h]; exact hl _ (List.getElem_mem _)
   have hli' : (4096 < (((ls.getD i (Ty.dflt (.slice .u8))).length : Nat) : Int)) = False := eq_false (by show ¬ (4096 < (((ls.getD i []).length : Nat) : Int)); omega)
   refine uQ 600 _ ?_
   with_reducible refine sx1 hli' ?_
   refine ⟨fun _ => ⟨⟨by omega, h⟩, i + 1, h, by dsimp only; omega, rfl, ?_⟩, fun hh => absurd h hh⟩
   with_reducible refine sx1 hwr ?_; trivial
 obtain rfl : i = ls.length := by omega
 refine gQ ?_
 exact ⟨fun hh => absurd hh (by omega), fun _ => ⟨fun _ => by omega, fun hh => absurd hh (by omega)⟩⟩
abbrev derT : Ty := .prod (.slice .u8) (.prod (.slice .u8) (.prod (.slice .u8) (.int .i64)))
def kblk (key label ctx : List UInt8) (n i : Nat) : List UInt8 := hmS key (four i ++ label ++ [0] ++ ctx ++ four (8 * n))
theorem q3Y (key label ctx : List UInt8) (n i : Nat) : (kblk key label ctx n i).length = 32 := q3u _ _
theorem z4J (key label ctx : List UInt8) (n i : Nat) (hk : key.length ≤ 64) (hl : label.length ≤ 4096) (hc : ctx.length ≤ 4096) (hn : n ≤ 1024) (hi : i ≤ 1000000) : PC Tryz.prog 123 [.agg [.isl .u8 key, .isl .u8 label, .isl .u8 ctx, rI n], rI i] (.dat (.arr 32 .u8) (kblk key label ctx n i)) := by
 have hw8 : IntKind.i64.wrap (8 * (n : Int)) = ((8 * n : Nat) : Int) := by rw [wrapi (by omega)]; omega
 refine q0A rfl rfl ?_
 refine q1m fi123 (q0R mixed 600 _ ?_)
 simp (maxSteps := 3000000) only [ir123, hw8, go_sem, ↓zA, ↓reduceIte, ↓reduceDIte] <;> try simp only [zB]
 refine q0V (z6V i) ?_
 refine gQ ?_
 refine q0V (z6V (8 * n)) ?_
 refine gQ ?_
 have hfl : [four i, label, [UInt8.ofNat 0], ctx, four (8 * n)].flatten = four i ++ label ++ [0] ++ ctx ++ four (8 * n) := by simp
 have hfn : [four i, label, [UInt8.ofNat 0], ctx, four (8 * n)].flatten.length ≤ 1099511627776 := by
  rw [hfl]; simp only [List.length_append, z6d, List.length_cons, List.length_nil]; omega
 have hm := z6X key [four i, label, [UInt8.ofNat 0], ctx, four (8 * n)] hk hfn (by simp)
 rw [hfl] at hm
 have hkl := q3Y key label ctx n i
 change PC _ _ _ (.tup [.dat (.arr 32 .u8) (kblk key label ctx n i), _]) at hm
 generalize kblk key label ctx n i = kb at *
 refine ⟨by decide, q0V hm ?_⟩
 have htk : List.take 32 kb = kb := List.take_of_length_le (by omega)
 refine uQ 600 _ ?_
 simp (maxSteps := 3000000) only [hkl, htk, go_sem, ↓zA, ↓reduceIte, ↓reduceDIte] <;> try simp only [zB]
end Go.Proofs.YtikapabgggphpaaGreatDoor
namespace Go.Proofs.YtikapabgggphpaaGreatDoor
open Go Go.Sx Go.Proofs
set_option maxRecDepth 100000
set_option maxHeartbeats 4000000
def allN (n : Nat) (q : Nat → Bool) : Bool := (List.range n).all q
theorem z0U {n : Nat} {q : Nat → Bool} : allN n q = true ↔ ∀ j, j < n → q j = true := by simp [allN]
theorem q1v {n i : Nat} {q : Nat → Bool} (h : i < n) (hq : q i = false) : allN n q = false := by
 rw [Bool.eq_false_iff]; exact fun ha => by rw [z0U.1 ha i h] at hq; cases hq
theorem q1Q {n : Nat} {q : Nat → Bool} (h : ∀ j, j < n → q j = true) : allN n q = true := z0U.2 h
@[go_sem] def fnV (f : Nat) : Value := .func (.func f) #[] #[]
def name1 : ByteArray := ⟨#[97, 101, 115, 49, 50, 56, 45, 99, 116, 115, 45, 104, 109, 97, 99, 45, 115, 104, 97, 50, 53, 54, 45, 49, 50, 56]⟩
def name2 : ByteArray := ⟨#[115, 116, 114, 101, 97, 109, 45, 104, 109, 97, 99, 45, 115, 104, 97, 50, 53, 54, 45, 50, 53, 54]⟩
def kind1 : List Value := [.string name1, .int .i64 16, .int .i64 16, .int .i64 16, .int .i64 16, fnV 114, fnV 115, fnV 116]
def kind2 : List Value := [.string name2, .int .i64 32, .int .i64 16, .int .i64 32, .int .i64 32, fnV 117, fnV 118, fnV 119]
abbrev kindsM : SV := .imap (some .i64) [.int .i64 1, .int .i64 2] [.agg kind1.toArray, .agg kind2.toArray]

theorem z7y : PC Tryz.prog 81 [] kindsM := by
 refine q0A rfl rfl (z9g ?_)
 refine rQ fi81 ?_
 exact ⟨_, _, _, [], rfl, rfl⟩

def keyLen (p : Int) : Int := if p = 1 then 16 else if p = 2 then 32 else 0
def kindZ : List Value := [.string ⟨#[]⟩, .int .i64 0, .int .i64 0, .int .i64 0, .int .i64 0, .nilFunc, .nilFunc, .nilFunc]
def kindOf (p : Int) : List Value := if p = 1 then kind1 else if p = 2 then kind2 else kindZ
def vKey (k : Key) : Bool := decide (keyLen k.1 ≠ 0) && (decide ((k.2.2.length : Int) = keyLen k.1) && (decide (0 ≤ k.2.1) && decide (k.2.1 ≤ 65535)))
theorem z7c (k : Key) : PC Tryz.prog 41 [.agg (KeyT.cells k)] (.tup [.agg (rawL (kindOf k.1)), rB (vKey k)]) := by
 obtain ⟨p, v, b⟩ := k
 refine q0A rfl (by simp [SV.clean, SV.cleanL, q3m]) ?_
 refine rQ fi41 ?_
 refine q0V z7y ?_
 by_cases h1 : p = 1
 · subst h1
   refine uQ 600 _ ?_
   simp (maxSteps := 3000000) only [kind1, kindOf, vKey, keyLen, go_sem, ↓zA, ↓reduceIte, ↓reduceDIte] <;> try simp only [zB]
   grind
 by_cases h2 : p = 2
 · subst h2
   refine uQ 600 _ ?_
   simp (maxSteps := 3000000) only [kind2, kindOf, vKey, keyLen, go_sem, ↓zA, ↓reduceIte, ↓reduceDIte] <;> try simp only [zB]
   grind
 refine uQ 600 _ ?_
 simp (maxSteps := 3000000) only [h1, h2, kindOf, kindZ, vKey, keyLen, go_sem, ↓zA, ↓reduceIte, ↓reduceDIte] <;> try simp only [zB]
 grind
def dec : Bool → List UInt8 → List UInt8 → List (List UInt8)
 | _, cur, [] => [cur]
 | true, cur, c :: r => dec false (cur ++ [c]) r
 | false, cur, c :: r => if c = 92 then dec true cur r else if c = 47 then cur :: dec false [] r else dec false (cur ++ [c]) r
theorem q4S (p : Int) : kindOf p = kind1 ∨ kindOf p = kind2 ∨ kindOf p = kindZ := by
 unfold kindOf
 split
 · exact .inl rfl
 split
 · exact .inr (.inl rfl)
 exact .inr (.inr rfl)
theorem q7a (l : List UInt8) (hl : l.length ≤ 140737488355328) : PC Tryz.prog 63 [.isl .u8 l] (.isl .u8 l) := by
 refine q0C rfl rfl ?_
 refine rQ fi63 ?_
 intro b hb
 refine ⟨hb, fun h => ⟨⟨by omega, by omega⟩, ⟨by omega, by omega⟩, List.take_of_length_le (by omega)⟩⟩
end Go.Proofs.YtikapabgggphpaaGreatDoor
namespace Go.Proofs.YtikapabgggphpaaGreatDoor
open Go Go.Sx Go.Proofs
set_option maxRecDepth 100000
set_option maxHeartbeats 40000000
theorem z1W (x : derT.den) (hok : derT.ok x) : PC Tryz.prog 122 [.fn 123 [.agg (derT.cells x)] []] (.fn 141 [] [.iptr (.clo 123 derT) x 0]) := by
 refine q0A rfl rfl ?_
 refine q1m fi122 ?_
 refine uQ 3 _ ?_
 with_reducible refine sxE ?_
 refine q4y 1 0 (ty := .clo 123 derT) (x := x) rfl hok rfl rfl ?_
 refine gQ ?_; trivial
def vwK (key label ctx : List UInt8) (n : Nat) : Nat → Nat → List SV → List SObj → Prop := fun i _ args' new => args' = [rI ((i + 1 : Nat) : Int), .isl .u8 (kblk key label ctx n (i + 1))] ∧ new = []
theorem q9w (key label ctx : List UInt8) (n N : Nat) (hk : key.length ≤ 64) (hl : label.length ≤ 4096) (hc : ctx.length ≤ 4096) (hn : n ≤ 1024) (hN : N ≤ 1000) : IterI True Tryz.prog 141 [] [.iptr (.clo 123 derT) (key, label, ctx, (n : Int)) 0] N (vwK key label ctx n) := by
 refine ⟨by kernel_rfl, fun l B J hJ yg hno => ?_⟩
 refine (q3p (yFG hJ) fi141 ?_).2
 letI : Ghost := topG (yFG hJ) []
 refine uQ 600 _ ?_
 with_reducible refine sxE ?_
 refine z0m [] (fun i => i) (fun i => [(3, rI ((i + 1 : Nat) : Int))]) N (fun _ => True) trivial rfl (by simp) (by simp [SV.bel]) ?_ fun i hi _ => ?_
 · with_reducible refine sxE ?_
   rfl
 by_cases hlt : i < N
 · have hwr : IntKind.i64.wrap (((i + 1 : Nat) : Int) + 1) = ((i + 1 + 1 : Nat) : Int) := q2o (by omega)
   refine gQ ?_
   refine q0a (z4J key label ctx n (i + 1) hk hl hc hn (by omega)) ?_
   have hbl := q3Y key label ctx n (i + 1)
   generalize hb : kblk key label ctx n (i + 1) = b at *
   refine uQ 8 _ ?_
   with_reducible refine sx1 hbl ?_
   refine ⟨⟨by decide, by decide⟩, ?_⟩
   refine q1u 1 rfl rfl (by rw [hbl]; decide) ?_ ?_ ?_
   · with_reducible refine sxE ?_; trivial
   · with_reducible refine sxE ?_
     omega
   with_reducible refine sxE ?_
   have htk : List.take 32 (List.drop 0 b) = b := by rw [List.drop_zero]; exact List.take_of_length_le (by omega)
   refine uQ 600 _ ?_
   with_reducible refine sx1 htk ?_
   refine q3E [.dead] hJ yg hlt (fun n => ⟨_, _, ⟨by rw [hb, List.take_of_length_le (show b.length ≤ 32 by omega)], rfl⟩, q2j rfl⟩) fun c => ?_
   cases c
   · refine gQ ?_
     exact ⟨_, _, rfl, rfl, by omega⟩
   refine gQ ?_
   refine ⟨hlt, trivial, ⟨[_], rfl⟩, ?_⟩
   with_reducible refine sx1 hwr ?_; trivial
 obtain rfl : i = N := by omega
 exact z6s hJ (hno trivial)
def kacc (key label ctx : List UInt8) (n : Nat) : Nat → List UInt8
 | 0 => []
 | i + 1 => kacc key label ctx n i ++ kblk key label ctx n (i + 1)
theorem q4W (key label ctx : List UInt8) (n : Nat) : ∀ i, (kacc key label ctx n i).length = 32 * i
 | 0 => rfl
 | i + 1 => by rw [kacc, List.length_append, q4W key label ctx n i, q3Y]; omega
def kdfS (key label ctx : List UInt8) (n : Nat) : List UInt8 := (kacc key label ctx n ((n + 31) / 32)).take n
theorem z0W (key label ctx : List UInt8) (n : Nat) : (kdfS key label ctx n).length = n := by
 unfold kdfS
 rw [List.length_take, q4W]; omega
def frC (n i : Nat) (G : List SObj) (acc : List UInt8) : List SObj := .cells 3 [rI n] :: .cells 22 [.bld (G.length + 2) .u8 (32 * i)] :: (G ++ [.row .u8 acc])
def frH (key label ctx : List UInt8) (n : Nat) (i : Nat) (H' : List SObj) : Prop := i < (n + 31) / 32 ∧ ∃ G, (∃ g, G = List.replicate g SObj.dead) ∧ H' = frC n i G (kacc key label ctx n i)
def frX (key label ctx : List UInt8) (n : Nat) (i : Nat) (ex : Ex) (H' : List SObj) : Prop := ex = .exit 0 ∧ i + 1 = (n + 31) / 32 ∧ ∃ G, (∃ g, G = List.replicate g SObj.dead) ∧ H' = frC n (i + 1) G (kacc key label ctx n (i + 1))
theorem q5s {h : Nat} {t : Ty} {xs : List t.den} {l : List SObj} : ∀ g, frzObH h t xs l → frzObH h t xs (List.replicate g SObj.dead ++ l)
 | 0, hl => hl
 | g + 1, hl => ⟨trivial, q5s g hl⟩
theorem z9H (key label ctx : List UInt8) (n : Nat) (hk : key.length ≤ 64) (hl : label.length ≤ 4096) (hc : ctx.length ≤ 4096) (h1 : 1 ≤ n) (hn : n ≤ 1024) : PC Tryz.prog 121 [rI n, .fn 141 [] [.iptr (.clo 123 derT) (key, label, ctx, (n : Int)) 0]] (.isl .u8 (kdfS key label ctx n)) := by
 refine q0A rfl rfl (q7I (q3p noFG fi121 ?_))
 letI : Ghost := topG noFG []
 refine uQ 600 _ ?_
 with_reducible refine sxE ?_
 refine q6H 1 0 .u8 rfl rfl rfl ?_
 have hN : (n + 31) / 32 ≤ 1000 := by omega
 refine z7h (inf := True) (frH key label ctx n) (frX key label ctx n) rfl rfl rfl (q9w key label ctx n ((n + 31) / 32) hk hl hc hn hN) (fun _ Hn h => absurd h.1 (Nat.lt_irrefl _)) (fun i n args' new h => by rw [h.1]; rfl) ⟨by omega, [], ⟨0, rfl⟩, rfl⟩ rfl ?_ ?_ ?_
 · rintro i _ args' new hi ⟨hlt, G, ⟨g, hg⟩, rfl⟩ ⟨rfl, rfl⟩ L1 L2
   letI : Ghost := pinG noFG L1
   rw [List.append_nil]
   have hal := q4W key label ctx n i
   have hbl := q3Y key label ctx n (i + 1)
   have hac : kacc key label ctx n i ++ kblk key label ctx n (i + 1) = kacc key label ctx n (i + 1) := rfl
   generalize hka : kacc key label ctx n i = a at *
   generalize hkb : kblk key label ctx n (i + 1) = b at *
   unfold frC
   refine uQ 600 _ ?_
   simp only [putL, List.toList_toArray]
   with_reducible refine sxaE ?_
   letI : Ghost := pinG noFG L2
   refine uQ 600 _ ?_
   simp (maxSteps := 3000000) only [hal, hbl, List.append_assoc, getA, getA0, setA, setA0, List.length_append, Nat.add_assoc, go_sem, ↓zA, ↓reduceIte, ↓reduceDIte] <;> try simp only [zB]
   refine ⟨⟨by omega, by omega⟩, fun h => ⟨rfl, by omega, G ++ [.dead], ⟨g + 1, by rw [hg, List.replicate_succ']⟩, ?_⟩, fun h => ⟨by omega, G ++ [.dead], ⟨g + 1, by rw [hg, List.replicate_succ']⟩, ?_⟩⟩
   · rw [← hac]
     simp [frC, Nat.mul_add]
   rw [← hac]
   simp [frC, Nat.mul_add]
 · rintro D _ ⟨h, _⟩
   exact absurd h (Nat.lt_irrefl _)
 rintro D i ex _ hi ⟨rfl, hiN, G, ⟨g, hg⟩, rfl⟩
 refine ⟨_, rfl, ?_⟩
 unfold frC
 letI : Ghost := topG noFG [D]
 have hal := q4W key label ctx n (i + 1)
 have hke : List.take n (kacc key label ctx n (i + 1)) = kdfS key label ctx n := by rw [hiN]; rfl
 generalize kacc key label ctx n (i + 1) = a at *
 refine uQ 5 _ ?_
 with_reducible refine sxaE ?_
 refine ⟨⟨by omega, by omega⟩, ?_⟩
 refine q1u (G.length + 2) (ty := .u8) (xs := a) rfl (by simp) (by omega) ?_ ?_ ?_
 · with_reducible refine sxaE ?_
   refine ⟨by omega, ?_⟩
   rw [hg]
   exact q5s g ⟨trivial, trivial⟩
 · with_reducible refine sxaE ?_
   exact ⟨by omega, by omega⟩
 with_reducible refine sxaE ?_
 rw [Nat.sub_zero, hke]
 have hkl : (kdfS key label ctx n).length = n := z0W _ _ _ _
 refine uQ 600 _ ?_
 with_reducible refine sxaE ?_
 refine q0a (q7a (kdfS key label ctx n) (by omega)) ?_
 refine aQ ?_; trivial
theorem j0X (key label ctx : List UInt8) (n : Nat) (hk : key.length ≤ 64) (hl : label.length ≤ 4096) (hc : ctx.length ≤ 4096) (h1 : 1 ≤ n) (hn : n ≤ 1024) : PC Tryz.prog 83 [.isl .u8 key, .isl .u8 label, .isl .u8 ctx, rI n] (.tup [.isl .u8 (kdfS key label ctx n), rI 0]) := by
 have hal := z7Z n [key, label, ctx] h1 hn (fun l hl' => by simp at hl'; rcases hl' with rfl | rfl | rfl <;> omega) (by simp)
 refine q0A rfl rfl ?_
 refine rQ fi83 ?_
 refine q0t 0 ?_
 with_reducible refine sxE ?_
 refine q0a hal ?_
 refine gQ ?_
 refine q0a (z1W (key, label, ctx, (n : Int)) ⟨⟨show key.length ≤ 1125899906842624 by omega, fun _ _ => trivial⟩, ⟨show label.length ≤ 1125899906842624 by omega, fun _ _ => trivial⟩, ⟨show ctx.length ≤ 1125899906842624 by omega, fun _ _ => trivial⟩, trivial⟩) ?_
 refine gQ ?_
 refine q0a (z9H key label ctx n hk hl hc h1 hn) ?_
 refine gQ ?_; trivial
theorem z7v (n : Nat) : PC Tryz.prog 84 [rI n] (.isl .u8 (four n)) := by
 refine q0C rfl rfl ?_
 refine rQ fi84 ?_
 refine ⟨⟨q1V _, q1V _, q1V _, q1V _⟩, ?_⟩
 rw [byteN _ 24 (by decide), byteN _ 16 (by decide), byteN _ 8 (by decide), byteN0]
 rfl
theorem j0L (ls : List (List UInt8)) (hl : ls.flatten.length ≤ 1099511627776) (hn : ls.length ≤ 1099511627776) : PE Tryz.prog 44 [.isl (.slice .u8) ls] [] (.ret (.bld 0 .u8 ls.flatten.length)) [.row .u8 ls.flatten] := by
 refine j0E ?_
 refine rQ fi44 ?_
 refine q9v 3 .u8 (fun i => (ls.take i).flatten) (fun i => [(8, rI i)]) ls.length (fun _ => True) rfl (by simp) (by simp) rfl (fun i => rfl) ?_ fun i hi _ => ?_
 · with_reducible refine sxE ?_; trivial
 have hwr := wsx i (by omega)
 have hfl := q0Y ls i
 by_cases h : i < ls.length
 · have hf1 := q3G h
   have hfl1 := q0Y ls (i + 1)
   rw [hf1, List.length_append] at hfl1
   have hfl2 : (ls.take i).flatten.length + (ls.getD i (Ty.dflt (.slice .u8))).length ≤ ls.flatten.length := hfl1
   refine gQ ?_
   refine ⟨fun _ => ⟨⟨by omega, h⟩, ⟨by omega, by omega⟩, q5d [.dead] [] h trivial (by rw [hf1]; rfl) ?_⟩, fun hh => absurd h hh⟩
   with_reducible refine sx3 hwr hf1 ?_
   rfl
 obtain rfl : i = ls.length := by omega
 rw [List.take_length] at *
 refine gQ ?_
 refine ⟨fun hh => absurd hh (by omega), fun _ => ?_⟩
 exact j0O (h := 0) rfl rfl
theorem z3S (ls : List (List UInt8)) (hl : ls.flatten.length ≤ 1099511627776) (hn : ls.length ≤ 1099511627776) : PC Tryz.prog 44 [.isl (.slice .u8) ls] (.isl .u8 ls.flatten) := by
 refine q0C rfl rfl ?_
 refine rQ fi44 ?_
 refine q9v 3 .u8 (fun i => (ls.take i).flatten) (fun i => [(8, rI i)]) ls.length (fun _ => True) rfl (by simp) (by simp) rfl (fun i => rfl) ?_ fun i hi _ => ?_
 · with_reducible refine sxE ?_; trivial
 have hwr := wsx i (by omega)
 have hfl := q0Y ls i
 by_cases h : i < ls.length
 · have hf1 := q3G h
   have hfl1 := q0Y ls (i + 1)
   rw [hf1, List.length_append] at hfl1
   have hfl2 : (ls.take i).flatten.length + (ls.getD i (Ty.dflt (.slice .u8))).length ≤ ls.flatten.length := hfl1
   refine gQ ?_
   refine ⟨fun _ => ⟨⟨by omega, h⟩, ⟨by omega, by omega⟩, q5d [.dead] [] h trivial (by rw [hf1]; rfl) ?_⟩, fun hh => absurd h hh⟩
   with_reducible refine sx3 hwr hf1 ?_
   rfl
 obtain rfl : i = ls.length := by omega
 rw [List.take_length] at *
 refine gQ ?_
 refine ⟨fun hh => absurd hh (by omega), fun _ => ?_⟩
 exact ⟨⟨by omega, by omega⟩, List.take_length⟩
theorem z0O (k : List UInt8) (ps : List (List UInt8)) (hk : k.length ≤ 64) (hp : ps.flatten.length ≤ 1099511627776) (hpl : ps.length ≤ 1099511627776) : PC Tryz.prog 139 [.isl .u8 k, .isl (.slice .u8) ps] (.isl .u8 (hmS k ps.flatten)) := by
 have hsl := q3u k ps.flatten
 refine q0C rfl rfl ?_
 refine rQ fi139 ?_
 refine q0a (z6X k ps hk hp hpl) ?_
 refine uQ 600 _ ?_
 with_reducible refine sx1 hsl ?_
 exact ⟨⟨by decide, by decide⟩, List.take_of_length_le (by omega)⟩
def dkS (k : KeyT.den) (u use : Nat) : List UInt8 := kdfS k.2.2 (four u ++ [UInt8.ofNat use]) [] k.2.2.length
theorem q7F (k : KeyT.den) (u use : Nat) : (dkS k u use).length = k.2.2.length := z0W _ _ _ _
theorem q3R (k : KeyT.den) (u : Nat) (hk : k.2.2.length ≤ 64) : PC Tryz.prog 43 [.agg (KeyT.cells k), rI u] (.fn 82 [] [.iptr KeyT k 0, .iptr (.int .i64) (u : Int) 0]) := by
 refine q0A rfl rfl ?_
 refine q1m fi43 ?_
 refine uQ 4 _ ?_
 with_reducible refine sxE ?_
 refine q4y 2 0 (ty := KeyT) (x := k) rfl ⟨trivial, trivial, ⟨by omega, fun _ _ => trivial⟩⟩ rfl rfl ?_
 refine q4y 3 1 (ty := .int .i64) (x := (u : Int)) rfl trivial rfl rfl ?_
 refine gQ ?_; trivial
theorem q1H (k : KeyT.den) (u use : Nat) (hk : k.2.2.length ≤ 64) (h1 : 1 ≤ k.2.2.length) (hu : use < 256) : PC Tryz.prog 82 [.raw (.int .u8 use), .iptr KeyT k 0, .iptr (.int .i64) (u : Int) 0] (.isl .u8 (dkS k u use)) := by
 obtain ⟨p, v, b⟩ := k
 have hbl : b.length ≤ 64 := hk
 have hb1 : 1 ≤ b.length := h1
 refine q0A rfl rfl ?_
 refine rQ fi82 ?_
 refine q0V (z7v u) ?_
 refine gQ ?_
 have hj := z3S [four u, [UInt8.ofNat use]] (by simp [four]) (by simp)
 rw [show [four u, [UInt8.ofNat use]].flatten = four u ++ [UInt8.ofNat use] by simp] at hj
 refine ⟨by rw [UInt8.toNat_ofNat']; omega, ?_⟩
 refine q0F 0 (by decide) ?_
 with_reducible refine sxE ?_
 refine q0e hj ?_
 refine uQ 600 _ ?_
 with_reducible refine sxE ?_
 refine q0e ((j0X b (four u ++ [UInt8.ofNat use]) [] b.length hbl (by simp [four]) (by simp) hb1 (by omega)).arg ?_) ?_
 · with_reducible refine sxE ?_; trivial
 refine uQ 600 _ ?_
 with_reducible refine sxE ?_
 rfl
def ksB (key conf text : List UInt8) (i : Nat) : UInt8 := text.getD i 0 ^^^ (hmS key (conf ++ four (i / 32 + 1))).getD (i % 32) 0
def ksP (key conf text : List UInt8) (n : Nat) : List UInt8 := (List.range text.length).map fun i => if i < n then ksB key conf text i else text.getD i 0
def ksS (key conf text : List UInt8) : List UInt8 := (List.range text.length).map (ksB key conf text)
theorem z2S (key conf text : List UInt8) (n : Nat) : (ksP key conf text n).length = text.length := by simp [ksP]
theorem q3A (key conf text : List UInt8) : (ksS key conf text).length = text.length := by simp [ksS]
theorem z5g (key conf text : List UInt8) : ksP key conf text 0 = text := by
 apply List.ext_getElem
 · simp [ksP]
 intro j h1 h2
 simp [ksP, List.getD_eq_getElem?_getD, h2]
theorem q9j (key conf text : List UInt8) {n : Nat} (h : text.length ≤ n) : ksP key conf text n = ksS key conf text := by
 apply List.ext_getElem
 · simp [ksP, ksS]
 intro j h1 h2
 simp [ksP] at h1
 simp only [ksP, ksS, List.getElem_map, List.getElem_range]
 rw [if_pos (by omega)]
theorem z8d (key conf text : List UInt8) {i : Nat} (hi : i < text.length) : (ksP key conf text i).getD i 0 = text.getD i 0 := by
 simp [ksP, List.getD_eq_getElem?_getD, hi]
theorem z9F (key conf text : List UInt8) {i : Nat} (hi : i < text.length) : (ksP key conf text i).set i (ksB key conf text i) = ksP key conf text (i + 1) := by
 apply List.ext_getElem
 · simp [ksP]
 intro j h1 h2
 rw [List.getElem_set]
 simp only [ksP, List.getElem_map, List.getElem_range]
 split
 · subst_vars; rw [if_pos (by omega)]
 rename_i hne
 by_cases hj : j < i
 · rw [if_pos hj, if_pos (by omega)]
 rw [if_neg hj, if_neg (by omega)]
theorem z2E (key conf text : List UInt8) {i : Nat} (hi : i < text.length) : (ksS key conf text).getD i 0 = ksB key conf text i := by
 simp [ksS, List.getD_eq_getElem?_getD, hi]
theorem z9I (key conf text : List UInt8) : ksS key conf (ksS key conf text) = text := by
 apply List.ext_getElem
 · rw [q3A, q3A]
 intro j h1 h2
 have e : (ksS key conf (ksS key conf text))[j] = ksB key conf (ksS key conf text) j := by
  rw [← z2E key conf (ksS key conf text) (by rw [q3A]; exact h2), List.getD_eq_getElem?_getD, List.getElem?_eq_getElem h1]; rfl
 rw [e]
 unfold ksB
 rw [z2E key conf text h2]
 unfold ksB
 rw [UInt8.xor_assoc, UInt8.xor_self, UInt8.xor_zero, List.getD_eq_getElem?_getD, List.getElem?_eq_getElem h2]
 rfl
theorem q6S (key conf text : List UInt8) (hk : key.length ≤ 64) (hc : conf.length ≤ 4096) (ht : text.length ≤ 1048576) : PC Tryz.prog 140 [.isl .u8 key, .isl .u8 conf, .isl .u8 text] (.isl .u8 (ksS key conf text)) := by
 have hjo := j0L [text] (by simp; omega) (by simp)
 rw [List.flatten_singleton] at hjo
 refine q0C rfl rfl ?_
 refine rQ fi140 ?_
 refine q0t 0 ?_
 with_reducible refine sxE ?_
 refine eQ [] (hjo) ?_
 refine q1a (ι := Nat) (fun a => [(8, .raw (.int .i64 ((32 * a : Nat) : Int)))]) (fun a => [.dead, .row .u8 (ksP key conf text (32 * a))]) (fun a => (text.length + 31) / 32 - a) (fun a => a ≤ (text.length + 31) / 32) 0 (Nat.zero_le _) 2 (by rw [z5g]) (by decide) (fun _ => rfl) (fun _ => rfl) (fun _ => rfl) ?_ ?_
 · with_reducible refine sxE ?_; trivial
 intro a ha
 have hpl := z2S key conf text (32 * a)
 have hw32 : IntKind.i64.wrap (((32 * a : Nat) : Int) + 32) = ((32 * (a + 1) : Nat) : Int) := by rw [wrapi (by omega)]; omega
 by_cases hlt : 32 * a < text.length
 · have hq : ((32 * a : Nat) : Int).tdiv 32 = (a : Int) := by rw [Int.tdiv_eq_ediv_of_nonneg (by omega)]; omega
   have hqw : IntKind.i64.wrap (a : Int) = (a : Int) := by rw [wrapi (by omega)]
   have hq1 : IntKind.i64.wrap ((a : Int) + 1) = ((a + 1 : Nat) : Int) := q2o (by omega)
   have hlt' : (((32 * a : Nat) : Int) < (text.length : Int)) = True := eq_true (by omega)
   refine uQ 600 _ ?_
   simp (maxSteps := 3000000) only [hlt', hq, hqw, hq1, go_sem, ↓zA, ↓reduceIte, ↓reduceDIte] <;> try simp only [zB]
   have hke := z0O key [conf, four (a + 1)] hk (by simp [four]; omega) (by simp)
   rw [show [conf, four (a + 1)].flatten = conf ++ four (a + 1) by simp] at hke
   have hkl := q3u key (conf ++ four (a + 1))
   refine ⟨by decide, q0a (z7v (a + 1)) ?_⟩
   refine gQ ?_
   refine q0t 2 ?_
   with_reducible refine sxE ?_
   refine q0a hke ?_
   obtain ⟨E, hE⟩ : ∃ E, E = min (32 * (a + 1)) text.length := ⟨_, rfl⟩
   have hmin : mxV false ((32 * (a + 1) : Nat) : Int) (text.length : Int) = (E : Int) := by
    unfold mxV
    simp only [Bool.false_eq_true, if_false]
    split <;> omega
   refine uQ 600 _ ?_
   simp (maxSteps := 3000000) only [hw32, hmin, go_sem, ↓zA, ↓reduceIte, ↓reduceDIte] <;> try simp only [zB]
   refine ⟨⟨by omega, by omega, by omega⟩, ?_⟩
   refine q0p (ι := Nat) (fun j => [(37, rI j)]) (fun j => [.dead, .row .u8 (ksP key conf text (32 * a + j)), .dead]) (fun j => (E - 32 * a) - j) (fun j => j ≤ E - 32 * a) 0 (Nat.zero_le _) rfl ?_ ?_
   · with_reducible refine sxE ?_; trivial
   intro j hj
   have hjl := z2S key conf text (32 * a + j)
   have hjw : IntKind.i64.wrap ((j : Int) + 1) = ((j + 1 : Nat) : Int) := q2o (by omega)
   have hjs : IntKind.i64.wrap (((32 * a : Nat) : Int) + (j : Int)) = ((32 * a + j : Nat) : Int) := by rw [wrapi (by omega)]; omega
   by_cases hjl2 : j < E - 32 * a
   · have hc1 : ((j : Int) < ((E - 32 * a : Nat) : Int)) = True := eq_true (by omega)
     have hpg := z8d key conf text (i := 32 * a + j) (by omega)
     have hx8 := xor8 (text.getD (32 * a + j) 0) ((hmS key (conf ++ four (a + 1))).getD j 0)
     have hps := z9F key conf text (i := 32 * a + j) (by omega)
     have hkb : ksB key conf text (32 * a + j) = text.getD (32 * a + j) 0 ^^^ (hmS key (conf ++ four (a + 1))).getD j 0 := by
      unfold ksB
      rw [show (32 * a + j) / 32 = a by omega, show (32 * a + j) % 32 = j by omega]
     rw [hkb] at hps
     refine uQ 600 _ ?_
     simp (maxSteps := 3000000) only [hc1, hjs, hjl, hkl, hpg, hx8, Nat.zero_add, Ty.dflt, go_sem, ↓zA, ↓reduceIte, ↓reduceDIte] <;> try simp only [zB]
     refine ⟨⟨by omega, by omega⟩, by omega, ⟨by omega, by omega⟩, ⟨by omega, by omega⟩, ⟨by omega, by rw [UInt8.ofNat_toNat]⟩, j + 1, (show j + 1 ≤ E - 32 * a by omega), by dsimp only; omega, ?_, ?_⟩
     · rw [UInt8.ofNat_toNat, hps]; rfl
     with_reducible refine sx1 hjw ?_; trivial
   obtain rfl : j = E - 32 * a := by omega
   have hc1 : ((((E - 32 * a : Nat) : Int)) < ((E - 32 * a : Nat) : Int)) = False := eq_false (by omega)
   refine uQ 600 _ ?_
   simp (maxSteps := 3000000) only [hc1, hw32, go_sem, ↓zA, ↓reduceIte, ↓reduceDIte] <;> try simp only [zB]
   refine ⟨a + 1, (show a + 1 ≤ (text.length + 31) / 32 by omega), by dsimp only; omega, ⟨[.dead], ?_⟩, ?_⟩
   · have e : ksP key conf text (32 * a + (E - 32 * a)) = ksP key conf text (32 * (a + 1)) := by
      rcases Nat.le_total (32 * (a + 1)) text.length with h | h
      · rw [show 32 * a + (E - 32 * a) = 32 * (a + 1) by omega]
      rw [q9j key conf text (by omega), q9j key conf text h]
     rw [e]
     rfl
   with_reducible refine sxE ?_; trivial
 have hlt' : (((32 * a : Nat) : Int) < (text.length : Int)) = False := eq_false (by omega)
 refine uQ 600 _ ?_
 with_reducible refine sx1 hlt' ?_
 rw [q9j key conf text (by omega)]
 have hsl := q3A key conf text
 exact ⟨⟨by omega, by omega⟩, List.take_of_length_le (by omega)⟩
def uOk (k : Key) (u : Int) : Bool := vKey k && (decide (1 ≤ u) && decide (u ≤ 1023))
theorem q7G (k : Key) (u : Int) (ho : KeyT.ok k) : PC Tryz.prog 42 [.agg (KeyT.cells k), rI u] (.tup [.agg (rawL (if uOk k u = true then kindOf k.1 else kindZ)), rI (if uOk k u = true then 0 else 2)]) := by
 have hf := z7c k
 obtain ⟨p, v, b⟩ := k
 refine q0A rfl (by simp [SV.clean, SV.cleanL, q3m]) ?_
 change PC _ _ _ (.tup [.agg (rawL (kindOf p)), rB (vKey (p, v, b))]) at hf
 unfold uOk
 show VC _ _ _ _ (PK (.tup [.agg (rawL (if (vKey (p, v, b) && (decide (1 ≤ u) && decide (u ≤ 1023))) = true then kindOf p else kindZ)), _]))
 generalize vKey (p, v, b) = vb at *
 have h3 := q4S p
 generalize kindOf p = kv at *
 rcases h3 with rfl | rfl | rfl
 all_goals
  cases vb
  · refine rQ fi42 ?_
    refine q0a hf ?_
    refine uQ 600 _ ?_
    simp (maxSteps := 3000000) only [kind1, kind2, kindZ, go_sem, ↓zA, ↓reduceIte, ↓reduceDIte] <;> try simp only [zB]
  by_cases h1 : 1 ≤ u
  · have h1' : (u < 1) = False := eq_false (by omega)
    by_cases h2 : u ≤ 1023
    · have h2' : (1023 < u) = False := eq_false (by omega)
      refine rQ fi42 ?_
      refine q0a hf ?_
      refine uQ 600 _ ?_
      simp (maxSteps := 3000000) only [kind1, kind2, kindZ, h1, h2, h1', h2', go_sem, ↓zA, ↓reduceIte, ↓reduceDIte] <;> try simp only [zB]
    have h2' : (1023 < u) = True := eq_true (by omega)
    refine rQ fi42 ?_
    refine q0a hf ?_
    refine uQ 600 _ ?_
    simp (maxSteps := 3000000) only [kind1, kind2, kindZ, h1, h2, h1', h2', go_sem, ↓zA, ↓reduceIte, ↓reduceDIte] <;> try simp only [zB]
  have h1' : (u < 1) = True := eq_true (by omega)
  refine rQ fi42 ?_
  refine q0a hf ?_
  refine uQ 600 _ ?_
  simp (maxSteps := 3000000) only [kind1, kind2, kindZ, h1, h1', go_sem, ↓zA, ↓reduceIte, ↓reduceDIte] <;> try simp only [zB]
theorem z3Z (key conf plain : List UInt8) (hk : key.length ≤ 64) (hc : conf.length ≤ 4096) (ht : plain.length ≤ 1048576) : PC Tryz.prog 117 [.isl .u8 key, .isl .u8 conf, .isl .u8 plain] (.isl .u8 (conf ++ ksS key conf plain)) := by
 have hsl := q3A key conf plain
 have hj := z3S [conf, ksS key conf plain] (by simp; omega) (by simp)
 rw [show [conf, ksS key conf plain].flatten = conf ++ ksS key conf plain by simp] at hj
 refine q0A rfl rfl ?_
 refine rQ fi117 ?_
 refine q0a (q6S key conf plain hk hc ht) ?_
 refine gQ ?_
 refine q0t 0 ?_
 with_reducible refine sxE ?_
 refine q0a hj ?_
 refine gQ ?_; trivial
theorem q3F (key cipher : List UInt8) (hk : key.length ≤ 64) (hc : cipher.length ≤ 1048576) : PC Tryz.prog 119 [.isl .u8 key, .isl .u8 cipher] (.isl .u8 (hmS key cipher)) := by
 have hj := z0O key [cipher] hk (by simp; omega) (by simp)
 rw [List.flatten_singleton] at hj
 refine q0A rfl rfl ?_
 refine rQ fi119 ?_
 refine q0t 0 ?_
 with_reducible refine sxE ?_
 refine q0a hj ?_
 refine gQ ?_; trivial
theorem q6l (key cipher : List UInt8) (hk : key.length ≤ 64) (h1 : 16 ≤ cipher.length) (hc : cipher.length ≤ 1048576) : PC Tryz.prog 118 [.isl .u8 key, .isl .u8 cipher] (.isl .u8 (ksS key (cipher.take 16) (cipher.drop 16))) := by
 refine q0A rfl rfl ?_
 refine rQ fi118 ?_
 rw [List.take_length]
 refine ⟨by omega, ⟨by omega, by omega⟩, q0e (q6S key (cipher.take 16) (cipher.drop 16) hk (by rw [List.length_take]; omega) (by rw [List.length_drop]; omega)) ?_⟩
 refine gQ ?_; trivial
def ciS2 (k : Key) (u : Nat) (conf plain : List UInt8) : List UInt8 := conf ++ ksS (dkS k u 170) conf plain
def seS2 (k : Key) (u : Nat) (conf plain : List UInt8) : List UInt8 := ciS2 k u conf plain ++ hmS (dkS k u 85) (ciS2 k u conf plain)
theorem z7Y (v : Int) (b : List UInt8) (u : Nat) (conf plain : List UInt8) (hv : uOk (2, v, b) u = true) (hc : conf.length = 16) (hp : plain.length ≤ 65536) : PC Tryz.prog 17 [.agg (KeyT.cells (2, v, b)), rI u, .isl .u8 conf, .isl .u8 plain] (.tup [.agg [rI 2, rI v, .isl .u8 (seS2 (2, v, b) u conf plain)], rI 0]) := by
 have hbl : b.length = 32 := by
  have h1 : vKey (2, v, b) = true := by unfold uOk at hv; simp only [Bool.and_eq_true] at hv; exact hv.1
  unfold vKey keyLen at h1
  simp at h1
  omega
 have hu := q7G (2, v, b) u ⟨trivial, trivial, ⟨show b.length ≤ 1125899906842624 by omega, fun _ _ => trivial⟩⟩
 rw [if_pos hv, if_pos hv] at hu
 change PC _ _ _ (.tup [.agg (rawL kind2), rI 0]) at hu
 refine q0A rfl rfl ?_
 refine q1m fi17 ?_
 refine uQ 600 _ ?_
 with_reducible refine sxE ?_
 refine q0a hu ?_
 have hcl : ((conf.length : Int) = 16) = True := eq_true (by omega)
 have hpl : (65536 < (plain.length : Int)) = False := eq_false (by omega)
 refine uQ 600 _ ?_
 simp (maxSteps := 3000000) only [kind2, hcl, hpl, go_sem, ↓zA, ↓reduceIte, ↓reduceDIte] <;> try simp only [zB]
 have hk64 : b.length ≤ 64 := by omega
 have hd1 := q7F (2, v, b) u 170
 have hd2 := q7F (2, v, b) u 85
 change (dkS (2, v, b) u 170).length = b.length at hd1
 change (dkS (2, v, b) u 85).length = b.length at hd2
 refine q0a (q3R (2, v, b) u hk64) ?_
 refine uQ 600 _ ?_
 with_reducible refine sxE ?_
 refine q0e (q1H (2, v, b) u 170 hk64 (show 1 ≤ b.length by omega) (by decide)) ?_
 refine uQ 600 _ ?_
 with_reducible refine sxE ?_
 refine q0e (z3Z (dkS (2, v, b) u 170) conf plain (by omega) (by omega) (by omega)) ?_
 have hci : (ciS2 (2, v, b) u conf plain).length = 16 + plain.length := by unfold ciS2; rw [List.length_append, q3A, hc]
 change SoundI _ _ { k0 := _, todo := _, tmps := putT _ _ (.isl .u8 (ciS2 (2, v, b) u conf plain)), heap := _ }
 obtain ⟨ci, hcieq⟩ : ∃ ci, ci = ciS2 (2, v, b) u conf plain := ⟨_, rfl⟩
 rw [← hcieq] at hci ⊢
 refine uQ 600 _ ?_
 with_reducible refine sxE ?_
 refine q0e (q1H (2, v, b) u 85 hk64 (show 1 ≤ b.length by omega) (by decide)) ?_
 refine uQ 600 _ ?_
 with_reducible refine sxE ?_
 refine q0e (q3F (dkS (2, v, b) u 85) ci (by omega) (by omega)) ?_
 have hml := q3u (dkS (2, v, b) u 85) ci
 refine uQ 4 _ ?_
 with_reducible refine sx1 hml ?_
 refine ⟨by decide, ?_⟩
 refine q1W [0] mixed ?_
 refine uQ 600 _ ?_
 with_reducible refine sxE ?_
 have hj := z3S [ci, List.take 32 (hmS (dkS (2, v, b) u 85) ci)] (by simp; omega) (by simp)
 rw [show [ci, List.take 32 (hmS (dkS (2, v, b) u 85) ci)].flatten = seS2 (2, v, b) u conf plain by
  rw [List.take_of_length_le (by omega)]
  simp only [List.flatten_cons, List.flatten_nil, List.append_nil]
  rw [hcieq]; rfl] at hj
 refine q0F 3 (by decide) ?_
 with_reducible refine sxE ?_
 refine q0e hj ?_
 refine uQ 600 _ ?_
 with_reducible refine sxE ?_; trivial
end Go.Proofs.YtikapabgggphpaaGreatDoor
