/- Contracts: the reference's encodings of any values, valid or not. -/
import Derived.Test.YtcjehhejgimmdaaGreatDoorP21
import Derived.Test.YtcjehhejgimmdaaGreatDoorP17
import Derived.Test.YtcjehhejgimmdaaGreatDoorP20
import Derived.Test.YtcjehhejgimmdaaGreatDoorP23
import Derived.Test.YtcjehhejgimmdaaGreatDoorPRv
set_option linter.all false
namespace Go.Proofs.YtcjehhejgimmdaaGreatDoor
open Go Go.Sx Go.Proofs
set_option maxRecDepth 100000
set_option maxHeartbeats 4000000
theorem q9B (x : Int) : UInt8.ofNat (IntKind.u8.wrap (x.tmod 256)).toNat = byteOf x := by
 unfold byteOf
 rw [u8w, u8w]
 have h : x.tmod 256 % 256 = x % 256 := by rw [Int.tmod_def]; omega
 rw [h]
theorem j2L (v : Int) (n : Nat) (hn : n ≤ 7) : PC Tryz.prog 121 [rI v, rI n] (.isl .u8 (numS v n)) := by
 have hl : (numS v n).length = n := by simp [numS]
 have w0 : IntKind.i64.wrap ((n : Int) - 1) = (n : Int) - 1 := wrapi (by omega)
 refine q0e rfl rfl ?_
 refine q1J fi121 (q0l mixed 600 _ ?_)
 simp (maxSteps := 3000000) only [ir121, w0, go_sem, ↓zA, ↓reduceIte, ↓reduceDIte] <;> try simp only [zB]
 refine q1U 5 .u8 (fun k => (numS v n).take k) (fun k => [(6, rI ((n : Int) - 1 - k))]) n (fun _ => True) rfl (by simp) (by simp) rfl (fun i => rfl) ?_ fun k hk _ => ?_
 · with_reducible refine sxE ?_
   simp
 have hln : ((numS v n).take k).length = k := by simp [numS]; omega
 have w1 : IntKind.i64.wrap (8 * ((n : Int) - 1 - k)) = 8 * ((n : Int) - 1 - k) := wrapi (by omega)
 have w2 : IntKind.i64.wrap ((n : Int) - 1 - k - 1) = (n : Int) - 1 - ((k + 1 : Nat) : Int) := by rw [wrapi (by omega)]; omega
 refine uQ 600 _ ?_
 simp (maxSteps := 3000000) only [w1, w2, go_sem, ↓zA, ↓reduceIte, ↓reduceDIte] <;> try simp only [zB]
 refine ⟨fun hlt => ?_, fun hge => ?_⟩
 · have hkn : k < n := by omega
   have hst := q9j (v := v) hkn
   have e8 : (8 * ((n : Int) - 1 - k)).toNat = 8 * (n - 1 - k) := by omega
   have hb : UInt8.ofNat (IntKind.u8.wrap ((v.fdiv (2 ^ min (8 * (n - 1 - k)) 64)).tmod 256)).toNat = byteAt v (n - 1 - k) := q9B _
   rw [e8, hb]
   refine ⟨by omega, by decide, by rw [← hb]; exact q0Q _, ⟨by omega, by omega⟩, q1b [_, _] [] hkn trivial (by rw [hst]; rfl) ?_⟩
   simp (maxSteps := 3000000) only [hst, List.length_append, go_sem, ↓zA, ↓reduceIte, ↓reduceDIte] <;> try simp only [zB]
 obtain rfl : k = n := by omega
 refine ⟨⟨Nat.le_refl _, by omega⟩, ?_⟩
 rw [List.take_of_length_le (by omega), List.take_of_length_le (by omega)]
def timR (t : Int) : List UInt8 := elemS 24 [numS t 6]
theorem q2R (t : Int) : PC Tryz.prog 57 [rI t] (.isl .u8 (timR t)) := by
 refine q0e rfl rfl ?_
 refine rQ fi57 ?_
 refine q0a (j2L t 6 (by decide)) ?_
 refine gQ ?_
 refine q0a (q5y 24 24 (by decide) _ (by simp [numS])) ?_
 refine gQ ?_
 rfl
theorem q7N {t : Int} (h : 0 ≤ t ∧ t ≤ 1099511627776) : timR t = timeS t := by unfold timeS timR; rw [if_pos h]
theorem q2m (t : Int) : (timR t).length ≤ 11 := by
 unfold timR
 rw [q1j (by rw [q0s]; decide), q0U, q0s]; decide
def negB (v : Int) : List UInt8 := if 128 ≤ (byteOf v).toNat then [0, byteOf v] else [byteOf v]
def intR (v : Int) : List UInt8 := if 0 ≤ v ∧ v ≤ 4611686018427387904 then intS v else if v < 0 then elemS 2 [negB v] else elemS 2 [numS v 8]
theorem q6l {v : Int} (h : 0 ≤ v ∧ v ≤ 4611686018427387904) : intR v = intS v := if_pos h
theorem q2P (v : Int) : (intR v).length ≤ 14 := by
 unfold intR
 split
 · exact q1z v
 have h1 := q0o 2 [negB v]
 have h2 := q0o 2 [numS v 8]
 simp only [List.flatten_cons, List.flatten_nil, List.append_nil, q0s] at h1 h2
 have h3 : (negB v).length ≤ 2 := by unfold negB; split <;> simp
 split <;> omega
theorem j1L (v : Int) (h0 : v < 0) (h1 : -9223372036854775808 ≤ v) : PC Tryz.prog 55 [rI v] (.isl .u8 (intR v)) := by
 have hr : intR v = elemS 2 [negB v] := by unfold intR; rw [if_neg (by omega), if_pos h0]
 obtain ⟨n, hn⟩ : ∃ n : Nat, v = -(n : Int) := ⟨(-v).toNat, by omega⟩
 have ht : v.tdiv 256 = -((n / 256 : Nat) : Int) := by rw [hn, Int.neg_tdiv, show (256 : Int) = ((256 : Nat) : Int) from rfl, z0x]
 have hd : v.tdiv 256 ≤ 0 := by omega
 have hd1 : -9223372036854775808 ≤ v.tdiv 256 := by omega
 have q0 : IntKind.i64.wrap (v.tdiv 256) = v.tdiv 256 := wrapi (by omega)
 rw [hr]
 refine q0e rfl rfl ?_
 refine q1J fi55 (q0l mixed 600 _ ?_)
 simp (maxSteps := 3000000) only [ir55, q0, go_sem, ↓zA, ↓reduceIte, ↓reduceDIte] <;> try simp only [zB]
 refine ⟨by decide, q0Q _, by decide, ?_⟩
 rw [q9B]
 refine q1f (ι := Unit) (fun _ => [(0, rI (v.tdiv 256)), (3, .bld 0 .u8 1)]) (fun _ => [.row .u8 [byteOf v]]) (fun _ => 0) (fun _ => True) () trivial rfl ?_ ?_
 · with_reducible refine sxE ?_; trivial
 rintro ⟨⟩ _
 refine gQ ?_
 refine ⟨fun h => absurd h (by omega), fun _ => ?_⟩
 unfold negB
 refine ⟨fun h128 => ⟨rfl, ?_⟩, fun h128 => ?_⟩
 · rw [if_pos (by omega)]
   refine q0v 2 ?_
   with_reducible refine sxE ?_
   refine q0a (q5y 2 2 (by decide) _ (by simp)) ?_
   refine gQ ?_
   rfl
 rw [if_neg (by omega)]
 refine q0v 0 ?_
 with_reducible refine sxE ?_
 refine q0a (q5y 2 2 (by decide) _ (by simp)) ?_
 refine gQ ?_; trivial
theorem j2i (v : Int) (h0 : 4611686018427387904 < v) (h1 : v ≤ 9223372036854775807) : PC Tryz.prog 55 [rI v] (.isl .u8 (intR v)) := by
 have hr : intR v = elemS 2 [numS v 8] := by unfold intR; rw [if_neg (by omega), if_neg (by omega)]
 rw [hr]
 clear hr
 obtain ⟨n, rfl⟩ : ∃ n : Nat, v = n := ⟨v.toNat, by omega⟩
 refine q0e rfl rfl ?_
 have q0 : IntKind.i64.wrap ((n : Int).tdiv 256) = (qN n 1 : Int) := by rw [show (256 : Int) = ((256 : Nat) : Int) from rfl, z0x, wrapi (by omega)]; rfl
 have h7 : 64 ≤ qN n 7 ∧ qN n 7 ≤ 127 := by unfold qN; constructor <;> omega
 have h8 : qN n 8 = 0 := by unfold qN; omega
 refine q1J fi55 (q0l mixed 600 _ ?_)
 simp (maxSteps := 3000000) only [ir55, q0, go_sem, ↓zA, ↓reduceIte, ↓reduceDIte] <;> try simp only [zB]
 refine ⟨by decide, q0Q _, by decide, ?_⟩
 rw [z5o]
 have h0 : [byteOf (n : Int)] = numS n 1 := by simp [numS, byteAt]
 rw [h0]
 refine q1f (ι := Nat × List SObj) (fun x => [(0, rI (qN n (x.1 + 1) : Int)), (3, .bld x.2.length .u8 (x.1 + 1))]) (fun x => x.2 ++ [.row .u8 (numS n (x.1 + 1))]) (fun x => 8 - x.1) (fun x => x.1 ≤ 7) (0, []) (by omega) rfl ?_ ?_
 · with_reducible refine sxE ?_; trivial
 rintro ⟨j, G⟩ hj
 dsimp only at hj
 have hln : (numS (n : Int) (j + 1)).length = j + 1 := by simp [numS]
 have q1 : IntKind.i64.wrap ((qN n (j + 1) : Int).tdiv 256) = (qN n (j + 1 + 1) : Int) := by
  have h1 := j2o n (j + 1 + 1)
  rw [show (256 : Int) = ((256 : Nat) : Int) from rfl, z0x, ← q8d, wrapi (by omega)]
 have htk : List.take (j + 1) (numS (n : Int) (j + 1)) = numS n (j + 1) := List.take_of_length_le (by omega)
 refine uQ 600 _ ?_
 simp (maxSteps := 3000000) only [q1, hln, htk, List.append_assoc, getA, getA0, setA, setA0, List.length_append, Nat.add_assoc, go_sem, ↓zA, ↓reduceIte, ↓reduceDIte] <;> try simp only [zB]
 refine ⟨fun hp => ?_, fun hz => ?_⟩
 · have hj7 : j + 1 ≤ 7 := by
    rcases Nat.lt_or_ge j 7 with h | h
    · omega
    exfalso
    obtain rfl : j = 7 := by omega
    have : qN n (7 + 1) = 0 := h8
    omega
   refine ⟨by decide, q0Q _, ⟨Nat.le_refl _, by omega, by omega⟩, by decide, (j + 1, G ++ [.row .u8 (numS n (j + 1)), .dead]), hj7, by dsimp only; omega, ?_, ?_⟩
   · dsimp only
     rw [q4f (by omega), ← q2e n (j + 1) (by omega), ← q2h, List.append_assoc]
     rfl
   with_reducible refine sxaE ?_
   exact congrArg (SV.bld (G.length + 2) .u8) (by omega)
 have hz0 : qN n (j + 1) = 0 := by omega
 have hj : j = 7 := by
  rcases Nat.lt_or_ge j 7 with h | h
  · exfalso
    have := z5l n (show j + 1 ≤ 7 by omega)
    omega
  omega
 subst hj
 have hln8 : (numS (n : Int) 8).length = 8 := hln
 have htop : (numS (n : Int) 8).getD 0 Ty.u8.dflt = byteOf (qN n 7 : Int) := by
  rw [q2h, List.getD_cons_zero, q2e n 7 (by omega)]
 have htn : ((byteOf (qN n 7 : Int)).toNat : Int) = (qN n 7 : Int) := by
  unfold byteOf
  rw [q0Q, u8w]; omega
 rw [htop, htn]
 refine ⟨by omega, by omega, fun h128 => absurd h128 (by omega), fun h128 => ?_⟩
 refine q0v G.length ?_
 with_reducible refine sxaE ?_
 refine ⟨by omega, by omega, ?_⟩
 rw [List.take_of_length_le (by omega)]
 refine q0a (q5y 2 2 (by decide) _ (by omega)) ?_
 refine gQ ?_; trivial
theorem q9T (v : Int) (h : -9223372036854775808 ≤ v ∧ v ≤ 9223372036854775807) : PC Tryz.prog 55 [rI v] (.isl .u8 (intR v)) := by
 by_cases h0 : v < 0
 · exact j1L v h0 h.1
 by_cases h1 : v ≤ 4611686018427387904
 · rw [q6l ⟨by omega, h1⟩]; exact j2w v ⟨by omega, h1⟩
 exact j2i v (by omega) h.2
theorem z8y (n : Int) (hn : 0 ≤ n ∧ n ≤ 100) (b : List UInt8) (hb : b.length ≤ 1048576) : PC Tryz.prog 51 [rI n, .isl .u8 b] (.isl .u8 (elemS (byteOf (96 + n)) [b])) := by
 have hw : IntKind.i64.wrap (96 + n) = 96 + n := wrapi (by omega)
 refine q0e rfl rfl ?_
 refine q1J fi51 (q0l mixed 600 _ ?_)
 simp (maxSteps := 3000000) only [ir51, hw, go_sem, ↓zA, ↓reduceIte, ↓reduceDIte] <;> try simp only [zB]
 refine q0a (q5y (byteOf (96 + n)) (96 + n) rfl b hb) ?_
 refine gQ ?_; trivial
theorem z2m {l : List ByteArray} {k : Nat} (hl : l.length ≤ 64) (h : ∀ x ∈ l, x.size ≤ 1000) : (strsN l k).flatten.length ≤ 64320 := by
 have h1 := q5U (B := 1005) (strsN l k) (fun x hx => by
  unfold strsN at hx
  rw [List.mem_map] at hx
  obtain ⟨y, hy, rfl⟩ := hx
  have h2 := h y (List.mem_of_mem_take hy)
  have h3 := q0o 27 [y.data.toList]
  have h4 : y.data.toList.length = y.size := by simp
  simp only [List.flatten_cons, List.flatten_nil, List.append_nil] at h3
  omega)
 have h2 : (strsN l k).length ≤ 64 := by unfold strsN; simp; omega
 have : 1005 * (strsN l k).length ≤ 1005 * 64 := Nat.mul_le_mul_left _ h2
 omega
def shP (p : Prin) : Prop := p.1.length ≤ 64 ∧ (∀ x ∈ p.1, x.size ≤ 1000) ∧ p.2.size ≤ 1000
theorem z1L {p : Prin} (h : shP p) : (prinS p).length ≤ 65400 := by
 obtain ⟨l, r⟩ := p
 obtain ⟨hl, hp, hr⟩ := h
 dsimp only at hl hp hr
 have hps : prinS (l, r) = elemS 48 [wrapS 160 0 (elemS 48 (strsN l l.length)), wrapS 160 1 (elemS 27 [r.data.toList])] := rfl
 have hf := z2m (k := l.length) hl hp
 have g1 := q0o 48 (strsN l l.length)
 have g2 := q0o 27 [r.data.toList]
 have g3 : r.data.toList.length = r.size := by simp
 simp only [List.flatten_cons, List.flatten_nil, List.append_nil] at g2
 have g4 := q0n 160 0 (elemS 48 (strsN l l.length))
 have g5 := q0n 160 1 (elemS 27 [r.data.toList])
 have g6 := q0o 48 [wrapS 160 0 (elemS 48 (strsN l l.length)), wrapS 160 1 (elemS 27 [r.data.toList])]
 simp only [List.flatten_cons, List.flatten_nil, List.append_nil, List.length_append] at g6
 rw [hps]; omega
theorem j0E (p : Prin) (h : shP p) : PC Tryz.prog 59 [.agg (PrinT.cells p)] (.isl .u8 (prinS p)) := by
 obtain ⟨l, r⟩ := p
 obtain ⟨hl, hp, hr⟩ := h
 dsimp only at hl hp hr
 have hps : prinS (l, r) = elemS 48 [wrapS 160 0 (elemS 48 (strsN l l.length)), wrapS 160 1 (elemS 27 [r.data.toList])] := rfl
 generalize prinS (l, r) = ps at *
 refine q0e rfl rfl ?_
 refine rQ fi59 ?_
 refine q1U 3 (.slice .u8) (strsN l) (fun i => [(4, rI i)]) l.length (fun _ => True) rfl (by simp) (by simp [strsN]) rfl (fun i => rfl) ?_ fun i hi _ => ?_
 · with_reducible refine sxE ?_; trivial
 have hwr := wsx i (by omega)
 have hln := q9f hi
 by_cases hlt : i < l.length
 · have hst := q7g hlt
   have hsz := hp _ (q1g (d := Ty.str.dflt) hlt)
   refine gQ ?_
   refine ⟨fun _ => ⟨⟨by omega, hlt⟩, q0a (z8D _ (by omega)) ?_⟩, fun h => absurd hlt h⟩
   refine gQ ?_
   refine ⟨⟨by omega, by omega⟩, q1b [_, _] [] hlt trivial (by rw [hst]; rfl) ?_⟩
   with_reducible refine sx3 hwr hst ?_; trivial
 obtain rfl : i = l.length := by omega
 have hf := z2m (k := l.length) hl hp
 have g1 := q0o 48 (strsN l l.length)
 have g2 := q0o 27 [r.data.toList]
 have g3 : r.data.toList.length = r.size := by simp
 simp only [List.flatten_cons, List.flatten_nil, List.append_nil] at g2
 have g4 := q0n 160 0 (elemS 48 (strsN l l.length))
 have g5 := q0n 160 1 (elemS 27 [r.data.toList])
 refine q1t 1 rfl rfl (by omega) ?_ ?_ ?_
 · with_reducible refine sxE ?_; trivial
 · with_reducible refine sxE ?_
   exact Nat.le_refl _
 with_reducible refine sxE ?_
 rw [List.take_of_length_le (Nat.le_refl _)]
 refine gQ ?_
 refine ⟨fun h => absurd h hlt, fun _ => q0b (q6Q _ (by omega) (by omega)) ?_⟩
 refine gQ ?_
 refine q0b (q1m 0 (by decide) _ (by omega)) ?_
 refine gQ ?_
 refine q0b (z8D r (by omega)) ?_
 refine gQ ?_
 refine q0b (q1m 1 (by decide) _ (by omega)) ?_
 refine gQ ?_
 refine q0R 2 (by decide) ?_
 with_reducible refine sxE ?_
 refine q0b (q6Q _ (by simp) (by simp only [List.flatten_cons, List.flatten_nil, List.append_nil, List.length_append]; omega)) ?_
 refine gQ ?_
 exact hps.symm
def datR (d : Pre) : List UInt8 := elemS 48 [wrapS 160 0 (intR d.1), wrapS 160 1 (elemS 4 [d.2])]
theorem z2A (d : Pre) : (datR d).length ≤ d.2.length + 45 := by
 have g1 := q2P d.1
 have g3 := q0o 4 [d.2]
 simp only [List.flatten_cons, List.flatten_nil, List.append_nil] at g3
 have g5 := q0n 160 0 (intR d.1)
 have g6 := q0n 160 1 (elemS 4 [d.2])
 have g7 := q0o 48 [wrapS 160 0 (intR d.1), wrapS 160 1 (elemS 4 [d.2])]
 simp only [List.flatten_cons, List.flatten_nil, List.append_nil, List.length_append] at g7
 unfold datR
 omega
def shD (l : List Pre) : Prop := l.length ≤ 32 ∧ ∀ d ∈ l, (-9223372036854775808 ≤ (d.1 : Int) ∧ (d.1 : Int) ≤ 9223372036854775807) ∧ d.2.length ≤ 16384
def dataR (l : List Pre) : List UInt8 := elemS 48 (mapN (t := PreT) datR l l.length)
theorem z8g {l : List Pre} (h : shD l) (i : Nat) : (mapN (t := PreT) datR l i).flatten.length ≤ 525728 := by
 have h1 := q5U (B := 16429) (mapN (t := PreT) datR l i) (fun x hx => by
  unfold mapN at hx
  rw [List.mem_map] at hx
  obtain ⟨y, hy, rfl⟩ := hx
  have h2 := (h.2 y (List.mem_of_mem_take hy)).2
  have := z2A y
  omega)
 have h2 : (mapN (t := PreT) datR l i).length ≤ 32 := by
  unfold mapN; simp; have := h.1; omega
 have : 16429 * (mapN (t := PreT) datR l i).length ≤ 16429 * 32 := Nat.mul_le_mul_left _ h2
 omega
theorem j0X (l : List Pre) (h : shD l) : PC Tryz.prog 123 [.isl PreT l] (.isl .u8 (dataR l)) := by
 have hl := h.1
 have hfl := z8g h l.length
 have hd : dataR l = elemS 48 (mapN (t := PreT) datR l l.length) := rfl
 generalize dataR l = ps at *
 refine q0e rfl rfl ?_
 refine rQ fi123 ?_
 refine q1U 3 (.slice .u8) (mapN (t := PreT) datR l) (fun i => [(4, rI i)]) l.length (fun _ => True) rfl (by simp) (by simp [mapN]) rfl (fun i => rfl) ?_ fun i hi _ => ?_
 · with_reducible refine sxE ?_; trivial
 have hwr := wsx i (by omega)
 have hln := q8n (t := PreT) (w := datR) hi
 by_cases hlt : i < l.length
 · have hst := q6G (t := PreT) (w := datR) hlt
   obtain ⟨z1, z2⟩ := h.2 _ (q1g (d := PreT.dflt) hlt)
   have hone : datR (l.getD i PreT.dflt) = elemS 48 [wrapS 160 0 (intR (l.getD i PreT.dflt).1), wrapS 160 1 (elemS 4 [(l.getD i PreT.dflt).2])] := rfl
   have g1 := q2P (l.getD i PreT.dflt).1
   have g3 := q0o 4 [(l.getD i PreT.dflt).2]
   simp only [List.flatten_cons, List.flatten_nil, List.append_nil] at g3
   have g5 := q0n 160 0 (intR (l.getD i PreT.dflt).1)
   have g6 := q0n 160 1 (elemS 4 [(l.getD i PreT.dflt).2])
   refine gQ ?_
   refine ⟨fun _ => ⟨⟨by omega, hlt⟩, ⟨by omega, hlt⟩, ?_⟩, fun h => absurd hlt h⟩
   refine q0b (q9T _ z1) ?_
   refine gQ ?_
   refine q0b (q1m 0 (by decide) _ (by omega)) ?_
   refine gQ ?_
   refine q0b (z8L _ (by omega)) ?_
   refine gQ ?_
   refine q0b (q1m 1 (by decide) _ (by omega)) ?_
   refine gQ ?_
   refine q0R 1 (by decide) ?_
   with_reducible refine sxE ?_
   refine q0b (q6Q _ (by simp) (by simp only [List.flatten_cons, List.flatten_nil, List.append_nil, List.length_append]; omega)) ?_
   refine gQ ?_
   refine ⟨⟨by omega, by omega⟩, q1b [_, _, _] [] hlt trivial (by rw [hst, hone]; rfl) ?_⟩
   with_reducible refine sx3 hwr hst ?_; trivial
 obtain rfl : i = l.length := by omega
 refine q1t 0 rfl rfl (by omega) ?_ ?_ ?_
 · with_reducible refine sxE ?_; trivial
 · with_reducible refine sxE ?_
   exact Nat.le_refl _
 with_reducible refine sxE ?_
 rw [List.take_of_length_le (Nat.le_refl _)]
 refine gQ ?_
 refine ⟨fun h => absurd h hlt, fun _ => q0a (q6Q _ (by omega) (by omega)) ?_⟩
 refine gQ ?_
 exact hd.symm
theorem z3A (v lo hi : Int) : PC Tryz.prog 27 [rI v, rI lo, rI hi] (rB (mIn lo hi v)) := z7Q v lo hi
def preR2 (l : List Pre) : List UInt8 := if l.length = 0 then [] else dataR l
def chkR (b : List UInt8) (a n : Nat) : Option (Nat × Nat) := if b.length - a < n then none else some (a, a + n)
def fstR (b : List UInt8) : Option (Nat × Nat) :=
 if b.length < 2 then none else
 if (b.getD 1 0).toNat < 128 then chkR b 2 (b.getD 1 0).toNat else
 if (b.getD 1 0).toNat - 128 < 1 ∨ 3 < (b.getD 1 0).toNat - 128 ∨ b.length < 2 + ((b.getD 1 0).toNat - 128) then none else
 chkR b (2 + ((b.getD 1 0).toNat - 128)) (beN ((b.drop 2).take ((b.getD 1 0).toNat - 128)))
def fstV (b : List UInt8) : SV := match fstR b with
 | none => .tup [rI 0, .isl .u8 [], rI 0]
 | some (a, e) => .tup [rI (b.getD 0 0).toNat, .isl .u8 ((b.take e).drop a), rI e]
theorem z5F (l : List UInt8) (h : l.length ≤ 3) : beN l < 16777216 := by
 have h1 := q3b l
 have h2 : 256 ^ l.length ≤ 256 ^ 3 := Nat.pow_le_pow_right (by decide) h
 omega
theorem z2i (b : List UInt8) (hb : b.length ≤ 1099511627776) : PC Tryz.prog 106 [.isl .u8 b] (fstV b) := by
 have hx : (b.getD 1 Ty.u8.dflt).toNat < 256 := UInt8.toNat_lt _
 have hd : b.getD 1 0 = b.getD 1 Ty.u8.dflt := rfl
 have e0 : IntKind.i64.wrap ((b.getD 1 Ty.u8.dflt).toNat : Int) = (((b.getD 1 Ty.u8.dflt).toNat : Nat) : Int) := wrapi (by omega)
 have e1 : IntKind.i64.wrap (((b.getD 1 Ty.u8.dflt).toNat : Int) - 128) = ((b.getD 1 Ty.u8.dflt).toNat : Int) - 128 := wrapi (by omega)
 have e2 : IntKind.i64.wrap (2 + (((b.getD 1 Ty.u8.dflt).toNat : Int) - 128)) = 2 + (((b.getD 1 Ty.u8.dflt).toNat : Int) - 128) := wrapi (by omega)
 have e3 : IntKind.i64.wrap ((b.length : Int) - 2) = (b.length : Int) - 2 := wrapi (by omega)
 have e4 : IntKind.i64.wrap (2 + ((b.getD 1 Ty.u8.dflt).toNat : Int)) = 2 + ((b.getD 1 Ty.u8.dflt).toNat : Int) := wrapi (by omega)
 have e5 : IntKind.i64.wrap ((b.getD 0 Ty.u8.dflt).toNat : Int) = (((b.getD 0 Ty.u8.dflt).toNat : Nat) : Int) := wrapi (by have := (b.getD 0 Ty.u8.dflt).toNat_lt; omega)
 have hno : fstR b = none → fstV b = .tup [rI 0, .isl .u8 [], rI 0] := fun h => by unfold fstV; rw [h]
 have hyes : ∀ a e, fstR b = some (a, e) → fstV b = .tup [rI (b.getD 0 0).toNat, .isl .u8 ((b.take e).drop a), rI e] := fun a e h => by unfold fstV; rw [h]
 have hsc : (fstV b).clean = true := by
  cases h : fstR b with
  | none => rw [hno h]; rfl
  | some y => obtain ⟨a, e⟩ := y; rw [hyes a e h]; rfl
 generalize fstV b = W at *
 refine q0e rfl hsc ?_
 refine q1J fi106 (q0l mixed 600 _ ?_)
 simp (maxSteps := 3000000) only [ir106, e0, e1, e2, e3, e4, e5, go_sem, ↓zA, ↓reduceIte, ↓reduceDIte] <;> try simp only [zB]
 generalize hxx : b.getD 1 Ty.u8.dflt = x at *
 have hF : ∀ r, fstR b = r → fstR b = r := fun _ h => h
 have hno' : fstR b = none → (SV.tup [SV.raw (Value.int IntKind.i64 0), SV.raw (Value.slice none 0 0), SV.raw (Value.int IntKind.i64 0)]).leV W := fun h => by
  rw [hno h]
  with_reducible refine sxE ?_; trivial
 refine ⟨fun h => ?_, fun h => ⟨by omega, fun h2 => ⟨fun h3 => ⟨fun h4 => ⟨fun h5 => ?_, fun h5 => ?_⟩, fun h4 => ?_⟩, fun h3 => ?_⟩, fun h2 => ⟨fun h3 => ?_, fun h3 => ?_⟩⟩⟩
 · refine hno' ?_
   unfold fstR; rw [if_pos (by omega)]
 · refine hno' ?_
   unfold fstR; rw [hd, if_neg (by omega), if_neg (by omega), if_pos (by omega)]
 · obtain ⟨m, hxm⟩ : ∃ m : Nat, (x.toNat : Int) - 128 = (m : Int) := ⟨x.toNat - 128, by omega⟩
   have hm3 : 1 ≤ m ∧ m ≤ 3 := by omega
   have hmn : x.toNat - 128 = m := by omega
   rw [hxm]
   have hl2 : (b.drop 2).length = b.length - 2 := List.length_drop
   generalize hL : b.drop 2 = L at *
   have hgd : ∀ i, L.getD i Ty.u8.dflt = b.getD (2 + i) Ty.u8.dflt := fun i => by
    rw [← hL, List.getD_eq_getElem?_getD, List.getElem?_drop, List.getD_eq_getElem?_getD]
   have hfst : ∀ v, beN (L.take m) = v → fstR b = chkR b (2 + m) v := fun v hv => by
    unfold fstR
    rw [hd, hL, hmn, if_neg (by omega), if_neg (by omega), if_neg (by omega), hv]
   refine q0W (fun i => [(5, rI (beN (L.take i))), (8, .raw (.int .i64 ((i : Nat) : Int)))]) (m) (fun j => (fun _ => true) j = true) (by first | decide | simp) (fun i => rfl) ?_ fun i hi hall => ?_
   · (with_reducible refine sxE ?_ <;> try exact True.intro)
     all_goals (try rfl)
   have hwr := wsx i (by omega)
   refine gQ ?_
   have bad : i < (m) → (fun _ => true) i = false → allN (m) (fun _ => true) = false := fun hlt hv => q0k hlt hv
   have fin : ¬ i < (m) → allN (m) (fun _ => true) = true := fun h => q0p fun j hj => hall j (by omega)
   try dsimp only at bad fin hall
   refine ⟨fun hlt => ?_, fun hge => ?_⟩
   · have hi2 : IntKind.i64.wrap (2 + (i : Int)) = ((2 + i : Nat) : Int) := by rw [wrapi (by omega)]; omega
     have hv := z5F (L.take i) (by simp; omega)
     have hc : (b.getD (2 + i) Ty.u8.dflt).toNat < 256 := UInt8.toNat_lt _
     have w1 : IntKind.i64.wrap (256 * (beN (L.take i) : Int)) = 256 * (beN (L.take i) : Int) := wrapi (by omega)
     have w2 : IntKind.i64.wrap ((b.getD (2 + i) Ty.u8.dflt).toNat : Int) = (((b.getD (2 + i) Ty.u8.dflt).toNat : Nat) : Int) := wrapi (by omega)
     have e6 := q3p L i (by omega)
     have e7 : L.getD i 0 = b.getD (2 + i) Ty.u8.dflt := hgd i
     rw [e7] at e6
     rw [hi2, Int.toNat_natCast, w1, w2]
     have w3 : IntKind.i64.wrap (256 * (beN (L.take i) : Int) + ((b.getD (2 + i) Ty.u8.dflt).toNat : Int)) = (beN (L.take (i + 1)) : Int) := by rw [wrapi (by omega), e6]; omega
     rw [w3]
     refine ⟨⟨by omega, by omega⟩, hlt, trivial, ⟨[], rfl⟩, ?_⟩
     with_reducible refine sx1 hwr ?_; trivial
   obtain rfl : i = m := by omega
   have hv := z5F (L.take i) (by simp; omega)
   generalize hV : beN (L.take i) = V at *
   have hf := hfst V rfl
   have w1 : IntKind.i64.wrap (2 + (i : Int)) = ((2 + i : Nat) : Int) := by rw [wrapi (by omega)]; omega
   have w2 : IntKind.i64.wrap (((2 + i : Nat) : Int) + (V : Int)) = ((2 + i + V : Nat) : Int) := by rw [wrapi (by omega)]; omega
   have w3 : IntKind.i64.wrap ((b.length : Int) - ((2 + i : Nat) : Int)) = (b.length : Int) - ((2 + i : Nat) : Int) := wrapi (by omega)
   rw [w1, w3, w2, e5]
   refine ⟨fun q => hno' (by rw [hf]; unfold chkR; rw [if_pos (by omega)]), fun q => ⟨by omega, ⟨by omega, by omega, by omega⟩, ?_⟩⟩
   rw [hyes (2 + i) (2 + i + V) (by rw [hf]; unfold chkR; rw [if_neg (by omega)])]
   with_reducible refine sxE ?_
   rfl
 · refine hno' ?_
   unfold fstR; rw [hd, if_neg (by omega), if_neg (by omega), if_pos (by omega)]
 · refine hno' ?_
   unfold fstR; rw [hd, if_neg (by omega), if_neg (by omega), if_pos (by omega)]
 · refine hno' ?_
   unfold fstR chkR; rw [hd, if_neg (by omega), if_pos (by omega), if_pos (by omega)]
 have hf : fstR b = some (2, 2 + x.toNat) := by unfold fstR chkR; rw [hd, if_neg (by omega), if_pos (by omega), if_neg (by omega)]
 rw [hyes _ _ hf]
 have ht : ((2 : Int) + (x.toNat : Int)).toNat = 2 + x.toNat := by omega
 rw [ht]
 refine ⟨by omega, ⟨by omega, by omega⟩, ?_⟩
 with_reducible refine sxE ?_
 exact ⟨rfl, congrArg (Value.int .i64) (by omega)⟩
def conR (b : List UInt8) : List UInt8 := match fstR b with
 | none => []
 | some (a, e) => (b.take e).drop a
theorem q6i {b : List UInt8} {a e : Nat} (h : fstR b = some (a, e)) : 2 ≤ a ∧ a ≤ e ∧ e ≤ b.length := by
 have key : ∀ a' n, chkR b a' n = some (a, e) → 2 ≤ a' → a' ≤ b.length → 2 ≤ a ∧ a ≤ e ∧ e ≤ b.length := by
  intro a' n h1 h2 h3
  unfold chkR at h1
  split at h1
  · cases h1
  cases h1; omega
 unfold fstR at h
 split at h
 · cases h
 split at h
 · exact key _ _ h (by omega) (by omega)
 split at h
 · cases h
 exact key _ _ h (by omega) (by omega)
theorem q1D (b : List UInt8) : (conR b).length ≤ b.length := by
 unfold conR
 split
 · simp
 rw [List.length_drop, List.length_take]; omega
theorem q1v (b : List UInt8) (hb : b.length ≤ 1099511627776) : PC Tryz.prog 37 [.isl .u8 b] (.isl .u8 (conR b)) := by
 have h := z2i b hb
 unfold fstV at h
 unfold conR
 refine q0e rfl rfl ?_
 refine rQ fi37 ?_
 refine q0a h ?_
 cases hf : fstR b with
 | none =>
  refine gQ ?_; trivial
 | some y =>
  obtain ⟨a, e⟩ := y
  refine gQ ?_; trivial
def elsR : Nat → List UInt8 → List (List UInt8)
 | 0, _ => []
 | f + 1, b => match fstR b with
  | none => []
  | some (_, e) => b.take e :: elsR f (b.drop e)
theorem q6d : ∀ (f : Nat) (b : List UInt8), b.length ≤ f → elsR f b = elsR b.length b
 | 0, b, h => by
  have : b = [] := List.length_eq_zero_iff.1 (by omega)
  subst this; rfl
 | f + 1, b, h => by
  cases hb : b.length with
  | zero =>
   have : b = [] := List.length_eq_zero_iff.1 hb
   subst this
   simp [elsR, fstR]
  | succ n =>
   simp only [elsR]
   cases hf : fstR b with
   | none => rfl
   | some y =>
    obtain ⟨a, e⟩ := y
    have hle := q6i hf
    simp only
    rw [q6d f (b.drop e) (by rw [List.length_drop]; omega), q6d n (b.drop e) (by rw [List.length_drop]; omega)]
theorem z5v {b : List UInt8} (h : fstR b = none) : elsR b.length b = [] := by
 cases hb : b.length with
 | zero => rfl
 | succ n => simp only [elsR, h]
theorem q8U {b : List UInt8} {a e : Nat} (h : fstR b = some (a, e)) : elsR b.length b = b.take e :: elsR (b.drop e).length (b.drop e) := by
 have hle := q6i h
 cases hb : b.length with
 | zero => omega
 | succ n =>
  simp only [elsR, h]
  rw [q6d n (b.drop e) (by rw [List.length_drop]; omega)]
theorem q5o (b : List UInt8) (hb : b.length ≤ 1048576) : PC Tryz.prog 108 [.isl .u8 b] (.isl (.slice .u8) (elsR b.length b)) := by
 refine q0e rfl rfl ?_
 refine rQ fi108 ?_
 refine q4G 3 (.slice .u8) rfl rfl ?_
 with_reducible refine sxE ?_
 refine q1f (ι := List UInt8 × List (List UInt8) × List SObj) (fun s => [(0, .isl .u8 s.1), (3, .bld s.2.2.length (.slice .u8) s.2.1.length)]) (fun s => s.2.2 ++ [.row (.slice .u8) s.2.1]) (fun s => s.1.length) (fun s => s.1.length ≤ b.length ∧ s.2.1.length + s.1.length ≤ b.length ∧ elsR b.length b = s.2.1 ++ elsR s.1.length s.1) (b, [], []) ⟨Nat.le_refl _, by simp, rfl⟩ rfl ?_ ?_
 · with_reducible refine sxE ?_; trivial
 rintro ⟨r, acc, G⟩ ⟨h1, h2, h3⟩
 dsimp only at h1 h2 h3
 have hf := z2i r (by omega)
 refine aQ ?_
 refine q0a hf ?_
 unfold fstV
 cases hx : fstR r with
 | none =>
  rw [z5v hx, List.append_nil] at h3
  rw [h3]
  refine aQ ?_
  exact ⟨⟨Nat.le_refl _, by omega⟩, List.take_length⟩
 | some y =>
  obtain ⟨a, e⟩ := y
  have hle := q6i hx
  rw [q8U hx] at h3
  refine aQ ?_
  refine ⟨fun q => by exfalso; omega, fun _ => ⟨⟨by omega, by omega⟩, ⟨by omega, by omega⟩, ⟨by omega, by omega, Nat.le_refl _⟩, ?_⟩⟩
  rw [List.take_length]
  have hl : (r.drop e).length = r.length - e := List.length_drop
  refine ⟨(r.drop e, acc ++ [r.take e], G ++ [.dead, .row (.slice .u8) [r.take e]]), ⟨?_, ?_, ?_⟩, ?_, ?_, ?_⟩
  · dsimp only; omega
  · dsimp only; rw [List.length_append, hl]; simp; omega
  · dsimp only; rw [h3, List.append_assoc]; rfl
  · dsimp only; omega
  · simp
  with_reducible refine sxaE ?_; trivial
theorem q3U : ∀ (f : Nat) (b : List UInt8), ∀ x ∈ elsR f b, 2 ≤ x.length ∧ x.length ≤ b.length
 | 0, b, x, h => by simp [elsR] at h
 | f + 1, b, x, h => by
  simp only [elsR] at h
  cases hf : fstR b with
  | none => rw [hf] at h; simp at h
  | some y =>
   obtain ⟨a, e⟩ := y
   have hle := q6i hf
   rw [hf] at h
   simp only [List.mem_cons] at h
   rcases h with rfl | h
   · rw [List.length_take]; omega
   have := q3U f (b.drop e) x h
   rw [List.length_drop] at this; omega
theorem q4A : ∀ (f : Nat) (b : List UInt8), (elsR f b).length ≤ b.length
 | 0, b => by simp [elsR]
 | f + 1, b => by
  simp only [elsR]
  cases hf : fstR b with
  | none => simp
  | some y =>
   obtain ⟨a, e⟩ := y
   have hle := q6i hf
   have := q4A f (b.drop e)
   rw [List.length_drop] at this
   simp only [List.length_cons]; omega
def isTag (n : Nat) (x : List UInt8) : Bool := decide (((x.getD 0 0).toNat : Int) = 160 + (n : Int))
def fndR (n : Nat) (l : List (List UInt8)) : List UInt8 := match l.find? (isTag n) with
 | none => []
 | some x => conR x
def itmR (b : List UInt8) (n : Nat) : List UInt8 := fndR n (elsR (conR b).length (conR b))
theorem j0l {n : Nat} {l : List (List UInt8)} {i : Nat} (h : i < l.length) (hq : isTag n (l.getD i []) = true) (hn : ∀ j, j < i → isTag n (l.getD j []) = false) : fndR n l = conR (l.getD i []) := by
 have : l.find? (isTag n) = some (l.getD i []) := by
  rw [List.find?_eq_some_iff_getElem]
  refine ⟨hq, i, h, by rw [List.getD_eq_getElem?_getD, List.getElem?_eq_getElem h]; rfl, fun j hj => ?_⟩
  have := hn j hj
  rw [List.getD_eq_getElem?_getD, List.getElem?_eq_getElem (by omega)] at this
  simpa using this
 unfold fndR; rw [this]
theorem z9j {n : Nat} {l : List (List UInt8)} (hn : ∀ j, j < l.length → isTag n (l.getD j []) = false) : fndR n l = [] := by
 have : l.find? (isTag n) = none := by
  rw [List.find?_eq_none]
  intro x hx
  obtain ⟨j, hj, rfl⟩ := List.getElem_of_mem hx
  have := hn j hj
  rw [List.getD_eq_getElem?_getD, List.getElem?_eq_getElem hj] at this
  simpa using this
 unfold fndR; rw [this]
theorem q1d (b : List UInt8) (n : Nat) : (itmR b n).length ≤ b.length := by
 unfold itmR fndR
 split
 · simp
 rename_i x hx
 have h1 := q3U _ _ x (List.mem_of_find?_eq_some hx)
 have h2 := q1D x
 have h3 := q1D b
 omega
theorem q2k (b : List UInt8) (n : Nat) (hn : n ≤ 30) (hb : b.length ≤ 1048576) : PC Tryz.prog 39 [.isl .u8 b, rI n] (.isl .u8 (itmR b n)) := by
 have hl := q1D b
 have hc := q1v b (by omega)
 have he := q5o (conR b) (by omega)
 have hm := q3U (conR b).length (conR b)
 have hle := q4A (conR b).length (conR b)
 have hd : itmR b n = fndR n (elsR (conR b).length (conR b)) := rfl
 rw [hd]
 generalize elsR (conR b).length (conR b) = l at *
 refine q0e rfl rfl ?_
 refine rQ fi39 ?_
 refine q0a hc ?_
 refine gQ ?_
 refine q0a he ?_
 refine gQ ?_
 refine q0W (fun i => [(6, .raw (.int .i64 ((i : Nat) : Int)))]) (l.length) (fun j => (fun j => !isTag n (l.getD j [])) j = true) (by first | decide | simp) (fun i => rfl) ?_ fun i hi hall => ?_
 · (with_reducible refine sxE ?_ <;> try exact True.intro)
   all_goals (try rfl)
 have hwr := wsx i (by omega)
 refine gQ ?_
 have bad : i < (l.length) → (fun j => !isTag n (l.getD j [])) i = false → allN (l.length) (fun j => !isTag n (l.getD j [])) = false := fun hlt hv => q0k hlt hv
 have fin : ¬ i < (l.length) → allN (l.length) (fun j => !isTag n (l.getD j [])) = true := fun h => q0p fun j hj => hall j (by omega)
 try dsimp only at bad fin hall
 refine ⟨fun hlt => ?_, fun hge => ?_⟩
 · have hmm := hm _ (q1g (d := (Ty.slice .u8).dflt) hlt)
   have hx := (List.getD (l.getD i (Ty.slice .u8).dflt) 0 Ty.u8.dflt).toNat_lt
   have w1 : IntKind.i64.wrap ((List.getD (l.getD i (Ty.slice .u8).dflt) 0 Ty.u8.dflt).toNat : Int) = (((List.getD (l.getD i (Ty.slice .u8).dflt) 0 Ty.u8.dflt).toNat : Nat) : Int) := wrapi (by omega)
   have w2 : IntKind.i64.wrap (160 + (n : Int)) = 160 + (n : Int) := wrapi (by omega)
   rw [w1, w2]
   refine ⟨⟨by omega, hlt⟩, by omega, fun q => ⟨⟨by omega, hlt⟩, q0a (q1v _ (by omega)) ?_⟩, fun q => ?_⟩
   · have hq : isTag n (l.getD i []) = true := decide_eq_true q
     rw [j0l hlt hq (fun j hj => by have := hall j hj; simpa using this)]
     refine gQ ?_
     rfl
   have hq : isTag n (l.getD i []) = false := decide_eq_false q
   refine ⟨hlt, q1c (fun j hj => by have := hall j hj; simpa using this) hq, ⟨[], rfl⟩, ?_⟩
   with_reducible refine sx1 hwr ?_; trivial
 rw [z9j (fun j hj => by have := hall j (by omega); simpa using this)]
def gIntR (b : List UInt8) : Nat := beN ((conR b).take 7)
theorem q2o (b : List UInt8) (hb : b.length ≤ 1099511627776) : PC Tryz.prog 40 [.isl .u8 b] (rI (gIntR b)) := by
 have hc := q1v b hb
 unfold gIntR
 generalize conR b = c at *
 refine q0e rfl rfl ?_
 refine rQ fi40 ?_
 refine q0a hc ?_
 refine gQ ?_
 refine q0W (fun i => [(4, rI (beN (c.take i))), (5, .raw (.int .i64 ((i : Nat) : Int)))]) (min c.length 7) (fun j => (fun _ => true) j = true) (by first | decide | simp) (fun i => rfl) ?_ fun i hi hall => ?_
 · (with_reducible refine sxE ?_ <;> try exact True.intro)
   all_goals (try rfl)
 have hwr := wsx i (by omega)
 refine gQ ?_
 have bad : i < (min c.length 7) → (fun _ => true) i = false → allN (min c.length 7) (fun _ => true) = false := fun hlt hv => q0k hlt hv
 have fin : ¬ i < (min c.length 7) → allN (min c.length 7) (fun _ => true) = true := fun h => q0p fun j hj => hall j (by omega)
 try dsimp only at bad fin hall
 refine ⟨fun h1 => ⟨fun h2 => ⟨⟨by omega, h1⟩, ?_⟩, fun h2 => ?_⟩, fun h1 => ?_⟩
 · have hv := q3b (c.take i)
   have hv2 : 256 ^ (c.take i).length ≤ 256 ^ 6 := Nat.pow_le_pow_right (by decide) (by simp; omega)
   have hcc : (c.getD i Ty.u8.dflt).toNat < 256 := UInt8.toNat_lt _
   have w1 : IntKind.i64.wrap (256 * (beN (c.take i) : Int)) = 256 * (beN (c.take i) : Int) := wrapi (by omega)
   have w2 : IntKind.i64.wrap ((c.getD i Ty.u8.dflt).toNat : Int) = (((c.getD i Ty.u8.dflt).toNat : Nat) : Int) := wrapi (by omega)
   have e6 : beN (c.take (i + 1)) = beN (c.take i) * 256 + (c.getD i Ty.u8.dflt).toNat := q3p c i h1
   have w3 : IntKind.i64.wrap (256 * (beN (c.take i) : Int) + ((c.getD i Ty.u8.dflt).toNat : Int)) = (beN (c.take (i + 1)) : Int) := by rw [wrapi (by omega), e6]; omega
   rw [w1, w2, w3]
   refine ⟨by omega, trivial, ⟨[], rfl⟩, ?_⟩
   with_reducible refine sx1 hwr ?_; trivial
 · obtain rfl : i = 7 := by omega
   rfl
 obtain rfl : i = c.length := by omega
 rw [List.take_length, List.take_of_length_le (by omega)]
def gBitsR (b : List UInt8) : Nat := beN (((conR b).drop 1).take 4)
theorem q7F (b : List UInt8) (hb : b.length ≤ 1048576) : PC Tryz.prog 107 [.isl .u8 b] (.isl .u8 (conR b)) := by
 have hc := q1v b (by omega)
 have hl := q1D b
 generalize conR b = c at *
 refine q0e rfl rfl ?_
 refine rQ fi107 ?_
 refine q0a hc ?_
 refine gQ ?_
 exact ⟨⟨by omega, by omega⟩, ⟨by omega, by omega⟩, List.take_of_length_le (by omega)⟩
theorem z6c (b : List UInt8) (hb : b.length ≤ 1099511627776) : PC Tryz.prog 41 [.isl .u8 b] (rI (gBitsR b)) := by
 have hc := q1v b hb
 unfold gBitsR
 generalize conR b = c at *
 refine q0e rfl rfl ?_
 refine rQ fi41 ?_
 refine q0a hc ?_
 refine gQ ?_
 have hl : (c.drop 1).length = c.length - 1 := List.length_drop
 have hgd : ∀ i, c.getD (1 + i) Ty.u8.dflt = (c.drop 1).getD i Ty.u8.dflt := fun i => by
  rw [List.getD_eq_getElem?_getD, List.getD_eq_getElem?_getD, List.getElem?_drop]
 refine q0W (fun i => [(4, rI (beN ((c.drop 1).take i))), (5, .raw (.int .i64 ((1 + i : Nat) : Int)))]) (min (c.drop 1).length 4) (fun _ => True) (by simp) (fun i => rfl) ?_ fun i hi hall => ?_
 · with_reducible refine sxE ?_
   exact ⟨rfl, rfl⟩
 refine gQ ?_
 generalize hD : c.drop 1 = d at *
 refine ⟨fun h1 => ⟨fun h2 => ⟨⟨by omega, h1⟩, ?_⟩, fun h2 => ?_⟩, fun h1 => ?_⟩
 · have hv := q3b (d.take i)
   have hv2 : 256 ^ (d.take i).length ≤ 256 ^ 6 := Nat.pow_le_pow_right (by decide) (by simp; omega)
   have hcc : (c.getD (1 + i) Ty.u8.dflt).toNat < 256 := UInt8.toNat_lt _
   have w1 : IntKind.i64.wrap (256 * (beN (d.take i) : Int)) = 256 * (beN (d.take i) : Int) := wrapi (by omega)
   have w2 : IntKind.i64.wrap ((c.getD (1 + i) Ty.u8.dflt).toNat : Int) = (((c.getD (1 + i) Ty.u8.dflt).toNat : Nat) : Int) := wrapi (by omega)
   have e6 : beN (d.take (i + 1)) = beN (d.take i) * 256 + (d.getD i Ty.u8.dflt).toNat := q3p d i (by omega)
   rw [← hgd i] at e6
   have w3 : IntKind.i64.wrap (256 * (beN (d.take i) : Int) + ((c.getD (1 + i) Ty.u8.dflt).toNat : Int)) = (beN (d.take (i + 1)) : Int) := by rw [wrapi (by omega), e6]; omega
   have hwr : IntKind.i64.wrap (((1 + i : Nat) : Int) + 1) = ((1 + (i + 1) : Nat) : Int) := by rw [wrapi (by omega)]; omega
   rw [w1, w2, w3]
   refine ⟨by omega, trivial, ⟨[], rfl⟩, ?_⟩
   with_reducible refine sx1 hwr ?_; trivial
 · obtain rfl : i = 4 := by omega
   rfl
 obtain rfl : i = d.length := by omega
 rw [List.take_length, List.take_of_length_le (by omega)]
theorem z4r {b : List UInt8} (h : (meas b).2.2 = 0) : fstR b = some ((meas b).1, (meas b).2.1) := by
 have key : ∀ a n, (measE b a n).2.2 = 0 → chkR b a n = some ((measE b a n).1, (measE b a n).2.1) := by
  intro a n h1
  unfold measE at h1 ⊢
  unfold chkR
  split at h1
  · cases h1
  rename_i hh; rw [if_neg hh, if_neg hh]
 unfold meas at h ⊢
 unfold fstR
 split at h
 · cases h
 rename_i g1
 rw [if_neg g1, if_neg g1]
 split at h
 · rename_i g2
   rw [if_pos g2, if_pos g2]
   exact key _ _ h
 rename_i g2
 rw [if_neg g2, if_neg g2]
 split at h
 · cases h
 rename_i g3
 split at h
 · cases h
 rename_i g4
 split at h
 · cases h
 rename_i g5
 rw [if_neg (by omega), if_neg g3, if_neg g4, if_neg g5]
 exact key _ _ h
theorem z1r (t : UInt8) (c r : List UInt8) (h : c.length ≤ 16777215) : fstR (tlv t c ++ r) = some (1 + (lenS c.length).length, (tlv t c).length) := by
 have hm := q4s t c r h
 rw [z4r (by rw [hm]), hm, q0U]
theorem z7x (t : UInt8) (c r : List UInt8) (h : c.length ≤ 16777215) : conR (tlv t c ++ r) = c := by
 have := q6h t c r h
 unfold takeC at this
 rw [q4s t c r h] at this
 unfold conR
 rw [z1r t c r h]
 simp only at this ⊢
 rw [q0U]; exact this
theorem conR_tlv' (t : UInt8) (c : List UInt8) (h : c.length ≤ 16777215) : conR (tlv t c) = c := by
 have := z7x t c [] h
 rwa [List.append_nil] at this
def isEl (x : List UInt8) : Prop := ∃ t c, x = tlv t c ∧ c.length ≤ 16777215
theorem q4K : ∀ (L : List (List UInt8)), (∀ x ∈ L, isEl x) → elsR L.flatten.length L.flatten = L
 | [], _ => rfl
 | x :: L, h => by
  obtain ⟨t, c, rfl, hc⟩ := h x (by simp)
  have hf := z1r t c L.flatten hc
  rw [List.flatten_cons, q8U hf, List.take_left, List.drop_left, q4K L fun y hy => h y (by simp [hy])]
theorem z2X {l : List (List UInt8)} : (l.filter fun x => !x.isEmpty).flatten = l.flatten := by
 induction l with
 | nil => rfl
 | cons x l ih =>
  cases x with
  | nil => simp [ih]
  | cons a x => simp [ih]
def wrapsL (l : List (List UInt8)) (n k : Nat) : List (List UInt8) := ((List.range' n k).map fun j => wrapS 160 (j : Nat) (l.getD j [])).filter fun x => !x.isEmpty
theorem q5T (l : List (List UInt8)) (n k : Nat) : wrapsL l n (k + 1) = if wrapS 160 (n : Nat) (l.getD n []) = [] then wrapsL l (n + 1) k else wrapS 160 (n : Nat) (l.getD n []) :: wrapsL l (n + 1) k := by
 unfold wrapsL
 rw [List.range'_succ, List.map_cons, List.filter_cons]
 cases wrapS 160 (n : Nat) (l.getD n []) <;> simp
theorem z6R {l : List (List UInt8)} {n k : Nat} (hl : ∀ j, (l.getD j []).length ≤ 16777215) (hn : n + k ≤ 31) : elsR (sufS l n k).length (sufS l n k) = wrapsL l n k := by
 have : sufS l n k = (wrapsL l n k).flatten := by unfold wrapsL sufS; rw [z2X]
 rw [this]
 refine q4K _ fun x hx => ?_
 unfold wrapsL at hx
 simp only [List.mem_filter, List.mem_map, List.mem_range'_1] at hx
 obtain ⟨⟨j, hj, rfl⟩, hne⟩ := hx
 rw [q3f (by omega) (hl j)] at hne ⊢
 split
 · rename_i h0; rw [if_pos h0] at hne; simp at hne
 exact ⟨_, _, rfl, hl j⟩
theorem q5O {m n : Nat} {c : List UInt8} (hn : n ≤ 30) : isTag m (tlv (tagB n) c) = decide (n = m) := by
 unfold isTag tlv
 rw [List.getD_cons_zero, q7U n hn]
 exact decide_eq_decide.2 (by omega)
theorem q8I {m : Nat} {x : List UInt8} {L : List (List UInt8)} : fndR m (x :: L) = if isTag m x then conR x else fndR m L := by
 unfold fndR
 rw [List.find?_cons]
 cases isTag m x <;> simp
theorem z8Z {l : List (List UInt8)} {m : Nat} (hl : ∀ j, (l.getD j []).length ≤ 16777215) : ∀ (k n : Nat), m < n → n + k ≤ 31 → fndR m (wrapsL l n k) = []
 | 0, n, _, _ => rfl
 | k + 1, n, h, hn => by
  rw [q5T, q3f (n := n) (by omega) (hl n)]
  have ih := z8Z (m := m) hl k (n + 1) (by omega) (by omega)
  by_cases h0 : l.getD n [] = []
  · rw [if_pos h0, if_pos rfl]; exact ih
  rw [if_neg h0, if_neg (by simp [tlv]), q8I, q5O (n := n) (by omega), decide_eq_false (show ¬ n = m by omega)]
  exact ih
theorem z8K {l : List (List UInt8)} {m : Nat} (hl : ∀ j, (l.getD j []).length ≤ 16777215) : ∀ (k n : Nat), n ≤ m → m < n + k → n + k ≤ 31 → fndR m (wrapsL l n k) = l.getD m []
 | 0, n, _, _, _ => by omega
 | k + 1, n, h, h2, hn => by
  rw [q5T, q3f (n := n) (by omega) (hl n)]
  by_cases e : n = m
  · subst e
    by_cases h0 : l.getD n [] = []
    · rw [if_pos h0, if_pos rfl, z8Z hl k (n + 1) (by omega) (by omega), h0]
    rw [if_neg h0, if_neg (by simp [tlv]), q8I, q5O (n := n) (by omega), decide_eq_true (show n = n from rfl), if_pos rfl, conR_tlv' _ _ (hl n)]
  have ih := z8K (m := m) hl k (n + 1) (by omega) (by omega) (by omega)
  by_cases h0 : l.getD n [] = []
  · rw [if_pos h0, if_pos rfl]; exact ih
  rw [if_neg h0, if_neg (by simp [tlv]), q8I, q5O (n := n) (by omega), decide_eq_false e]
  exact ih
theorem q1A {l : List (List UInt8)} {m k : Nat} (hl : ∀ j, (l.getD j []).length ≤ 16777215) (hk : k ≤ 31) (hm : m < k) (hs : (sufS l 0 k).length ≤ 16777215) : itmR (tlv 48 (sufS l 0 k)) m = l.getD m [] := by
 unfold itmR
 rw [conR_tlv' _ _ hs, z6R hl (by omega)]
 exact z8K hl k 0 (Nat.zero_le _) (by omega) (by omega)
theorem q8Q {v : Int} (h : 0 ≤ v ∧ v < 36028797018963968) : (gIntR (intS v) : Int) = v := by
 obtain ⟨c, h1, h2, _, _, h5, h6⟩ := q4E (v := v) (by omega)
 unfold gIntR
 rw [h1, conR_tlv' _ _ (by omega)]
 have h7 : c.length ≤ 7 := by
  rcases Nat.lt_or_ge c.length 8 with q | q
  · omega
  have := h6 (by omega); omega
 rw [List.take_of_length_le h7]
 exact h5
theorem q5F {n : Nat} (h : n ≤ 1099511627776) : gIntR (timeS n) = n := by
 unfold gIntR
 rw [q3J (by omega), conR_tlv' _ _ (by rw [q0s]; omega), List.take_of_length_le (by rw [q0s]; omega), q5k n 6 (by omega), Nat.mod_eq_of_lt (by omega)]
theorem z7O {n : Nat} (h : n < 4294967296) : gBitsR (bitsS n) = n := by
 unfold gBitsR
 rw [q6x, conR_tlv' _ _ (by simp [q0s]), List.drop_succ_cons, List.drop_zero, List.take_of_length_le (by rw [q0s]; omega), q5k n 4 (by omega), Nat.mod_eq_of_lt (by omega)]
def eltR (x : List UInt8) : List (List UInt8) := elsR (conR x).length (conR x)
def sR (x : List UInt8) : ByteArray := ⟨(conR x).toArray⟩
def prnR (x : List UInt8) : Prin := ((eltR (itmR x 0)).map sR, sR (itmR x 1))
def keyR (x : List UInt8) : Key := ((gIntR (itmR x 0) : Int), (gIntR (itmR x 1) : Int), conR (itmR x 2))
theorem z7v : eltR [] = [] := by decide
theorem z1X {α β : Type} {f : β → α} {w : α → β} {l : List α} (h : ∀ x ∈ l, f (w x) = x) : (l.map w).map f = l := by
 rw [List.map_map]
 conv => rhs; rw [← List.map_id l]
 exact List.map_congr_left fun x hx => h x hx
theorem z1t {n : Nat} (h : n ≤ 1099511627776) : (gIntR (timO (n : Int)) : Int) = n := by
 unfold timO
 split
 · rename_i h0; rw [h0]; rfl
 rw [q5F h]
theorem z1K {s : ByteArray} (h : s.size ≤ 16777215) : sR (elemS 27 [s.data.toList]) = s ∧ isEl (elemS 27 [s.data.toList]) := by
 have hl : s.data.toList.length = s.size := by simp
 rw [q1j (by omega)]
 refine ⟨?_, _, _, rfl, by omega⟩
 unfold sR
 rw [conR_tlv' _ _ (by omega)]
theorem z6U {p : Prin} (h : vPrin p = true) : prnR (prinE p) = p ∧ isEl (prinE p) := by
 obtain ⟨h1, h2, h3⟩ := q4p h
 have he : prinE p = prinS p := by unfold prinE; rw [if_pos h]
 rw [he]
 obtain ⟨xs, t⟩ := p
 have h1' : xs.length ≤ 4 := h1
 have h2' : ∀ x ∈ xs, x.size ≤ 32 := h2
 have h3' : t.size ≤ 32 := h3
 obtain ⟨g1, g2⟩ := q9D xs t (by omega) (fun x hx => by have := h2' x hx; omega) (by omega)
 have hS : prinS (xs, t) = tlv 48 (sufS [elemS 48 (strsN xs xs.length), strE t] 0 2) := by
  show elemS 48 [wrapS 160 0 (elemS 48 (strsN xs xs.length)), wrapS 160 1 (strE t)] = _
  have e : ([wrapS 160 0 (elemS 48 (strsN xs xs.length)), wrapS 160 1 (strE t)] : List (List UInt8)).flatten = sufS [elemS 48 (strsN xs xs.length), strE t] 0 2 := by
   rw [q0T, q0T]
   simp [sufS]
  rw [q1n (by rw [e]; omega), e]
 have e0 : strsN xs xs.length = xs.map strE := by unfold strsN strE; rw [List.take_length]
 have hb : (xs.map strE).flatten.length ≤ 148 := by have := q7x (k := xs.length) h1' h2'; rwa [e0] at this
 have e1 : elemS 48 (strsN xs xs.length) = tlv 48 (xs.map strE).flatten := by rw [e0, q1n (by omega)]
 have l1 := q8y t
 have hL : ∀ j, (([elemS 48 (strsN xs xs.length), strE t] : List (List UInt8)).getD j []).length ≤ 16777215 := fun j => by
  match j with
  | 0 =>
   show (elemS 48 (strsN xs xs.length)).length ≤ _
   rw [e1, q0U]
   have := q3m (xs.map strE).flatten.length
   omega
  | 1 => show (strE t).length ≤ _; omega
  | j + 2 => exact Nat.zero_le _
 rw [hS]
 refine ⟨?_, _, _, rfl, by omega⟩
 unfold prnR
 rw [q1A (m := 0) hL (by omega) (by omega) (by omega), q1A (m := 1) hL (by omega) (by omega) (by omega)]
 have e2 : ([elemS 48 (strsN xs xs.length), strE t] : List (List UInt8)).getD 0 [] = tlv 48 (xs.map strE).flatten := e1
 have e3 : ([elemS 48 (strsN xs xs.length), strE t] : List (List UInt8)).getD 1 [] = strE t := rfl
 rw [e2, e3]
 have hel : ∀ x ∈ xs, sR (strE x) = x ∧ isEl (strE x) := fun x hx => z1K (by have := h2' x hx; omega)
 unfold eltR
 rw [conR_tlv' _ _ (by omega), q4K _ (fun x hx => by obtain ⟨s, hs, rfl⟩ := List.mem_map.1 hx; exact (hel s hs).2), z1X (f := sR) (w := strE) (fun x hx => (hel x hx).1)]
 exact congrArg (Prod.mk xs) (z1K (by omega)).1
theorem z7r {k : Key} (h : keyOk k) : keyR (keyS k) = k ∧ isEl (keyS k) := by
 obtain ⟨a, v, c⟩ := k
 obtain ⟨ha, hv, hc⟩ := h
 have i1 := q1z a
 have i2 := q1z v
 have e3 : elemS 4 [c] = tlv 4 c := q1j (by omega)
 have w3 := q0o 4 [c]
 simp only [List.flatten_cons, List.flatten_nil, List.append_nil] at w3
 have hL : ∀ j, (([intS a, intS v, elemS 4 [c]] : List (List UInt8)).getD j []).length ≤ 16777215 := fun j => by
  match j with
  | 0 => show (intS a).length ≤ _; omega
  | 1 => show (intS v).length ≤ _; omega
  | 2 => show (elemS 4 [c]).length ≤ _; omega
  | j + 3 => exact Nat.zero_le _
 obtain ⟨hS, hin⟩ := q5H a v c ha hv hc
 rw [hS]
 refine ⟨?_, _, _, rfl, hin⟩
 unfold keyR
 rw [q1A (m := 0) hL (by omega) (by omega) hin, q1A (m := 1) hL (by omega) (by omega) hin, q1A (m := 2) hL (by omega) (by omega) hin]
 have t0 : ([intS a, intS v, elemS 4 [c]] : List (List UInt8)).getD 0 [] = intS a := rfl
 have t1 : ([intS a, intS v, elemS 4 [c]] : List (List UInt8)).getD 1 [] = intS v := rfl
 have t2 : ([intS a, intS v, elemS 4 [c]] : List (List UInt8)).getD 2 [] = tlv 4 c := e3
 rw [t0, t1, t2, q8Q (by omega), q8Q (by omega), conR_tlv' _ _ (by omega)]
theorem z0b (x : List UInt8) : gBitsR x < 4294967296 := by
 unfold gBitsR
 have h1 := q3b (((conR x).drop 1).take 4)
 have h2 : 256 ^ (((conR x).drop 1).take 4).length ≤ 256 ^ 4 := Nat.pow_le_pow_right (by decide) (by rw [List.length_take]; omega)
 omega
theorem j1w {p : Pre} (h : ((0 : Int) ≤ p.1 ∧ p.1 ≤ (2147483647 : Int)) ∧ p.2.length ≤ 16384) : datR p = datS p := by
 obtain ⟨a, c⟩ := p
 obtain ⟨h1, h2⟩ := h
 dsimp only at h2
 have ha : (0 : Int) ≤ a ∧ a ≤ 4611686018427387904 := ⟨h1.1, Int.le_trans h1.2 (by decide)⟩
 obtain ⟨e, hl⟩ := q5E a c ha (by omega)
 have hf : (tagN [intS a, elemS 4 [c]] 2).flatten = sufS [intS a, elemS 4 [c]] 0 2 := q4F [intS a, elemS 4 [c]]
 have ht : tagN [intS a, elemS 4 [c]] 2 = [wrapS 160 0 (intS a), wrapS 160 1 (elemS 4 [c])] := by simp [tagN, List.range_succ]
 have hi : intR a = intS a := q6l ha
 show elemS 48 [wrapS 160 0 (intR a), wrapS 160 1 (elemS 4 [c])] = _
 rw [e, hi, ← ht, q1n (by rw [hf]; omega), hf]
theorem z8o {l : List Pre} (h : vPre l = true) : dataR l = dataS l := by
 obtain ⟨h16, hv⟩ := q7A h
 obtain ⟨e, hl⟩ := q4r h
 have hm : mapN (t := PreT) datR l l.length = l.map datS := by
  unfold mapN; rw [List.take_length]
  exact List.map_congr_left fun p hp => j1w (hv p hp)
 unfold dataR
 rw [hm, e, q1n (by omega)]
theorem z7o {l : List Pre} (h : vPre l = true) : preR2 l = preO l := by unfold preR2 preO; rw [z8o h]
theorem z6Y {p : Prin} (h : vPrin p = true) : prinS p = prinE p := by unfold prinE; rw [if_pos h]
theorem j1Y {p : Prin} (h : vPrin p = true) : shP p := by
 obtain ⟨h1, h2, h3⟩ := q4p h
 exact ⟨by omega, fun x hx => by have := h2 x hx; omega, by omega⟩
theorem j2c {l : List Pre} (h : vPre l = true) : shD l := by
 obtain ⟨h16, hv⟩ := q7A h
 refine ⟨by omega, fun p hp => ?_⟩
 obtain ⟨h1, h2⟩ := hv p hp
 exact ⟨⟨Int.le_trans (by decide) h1.1, Int.le_trans h1.2 (by decide)⟩, by omega⟩
def datG (x : List UInt8) : Pre := ((gIntR (itmR x 0) : Int), conR (itmR x 1))
def preG (x : List UInt8) : List Pre := (eltR x).map datG
theorem z2d {p : Pre} (h : ((0 : Int) ≤ p.1 ∧ p.1 ≤ (2147483647 : Int)) ∧ p.2.length ≤ 16384) : datG (datS p) = p ∧ isEl (datS p) := by
 obtain ⟨a, c⟩ := p
 obtain ⟨h1, h2⟩ := h
 dsimp only at h2
 change Int at a
 have h1' : 0 ≤ a ∧ a ≤ 2147483647 := h1
 obtain ⟨e, hl⟩ := q5E a c (by omega) (by omega)
 have i1 := q1z a
 have e3 : elemS 4 [c] = tlv 4 c := q1j (by omega)
 have w3 := q0o 4 [c]
 simp only [List.flatten_cons, List.flatten_nil, List.append_nil] at w3
 have hL : ∀ j, (([intS a, elemS 4 [c]] : List (List UInt8)).getD j []).length ≤ 16777215 := fun j => by
  match j with
  | 0 => show (intS a).length ≤ _; omega
  | 1 => show (elemS 4 [c]).length ≤ _; omega
  | j + 2 => exact Nat.zero_le _
 have hs : (sufS [intS a, elemS 4 [c]] 0 2).length ≤ 16777215 := by omega
 refine ⟨?_, by rw [e]; exact ⟨_, _, rfl, hs⟩⟩
 unfold datG
 rw [e, q1A (m := 0) (k := 2) hL (by omega) (by omega) hs, q1A (m := 1) (k := 2) hL (by omega) (by omega) hs]
 show (((gIntR (intS a) : Nat) : Int), conR (elemS 4 [c])) = (a, c)
 rw [q8Q (by omega), e3, conR_tlv' _ _ (by omega)]
theorem z8m {l : List Pre} (h : vPre l = true) : preG (preO l) = l := by
 obtain ⟨h16, hv⟩ := q7A h
 obtain ⟨e, hl⟩ := q4r h
 unfold preG preO
 by_cases h0 : l.length = 0
 · rw [if_pos h0, List.length_eq_zero_iff.1 h0, z7v]; rfl
 rw [if_neg h0, e]
 unfold eltR
 rw [conR_tlv' _ _ (by omega), q4K _ (fun x hx => by obtain ⟨s, hs, rfl⟩ := List.mem_map.1 hx; exact (z2d (hv s hs)).2)]
 exact z1X fun p hp => (z2d (hv p hp)).1
theorem z4A (k : Int) : PC Tryz.prog 12 [rI k] (rB (vKind k)) := by
 refine q0B rfl rfl ?_
 refine rQ fi12 ?_
 grind [vKind]
def inI (v : Int) : Prop := -9223372036854775808 ≤ v ∧ v ≤ 9223372036854775807
def shK (k : Key) : Prop := inI k.1 ∧ inI k.2.1 ∧ k.2.2.length ≤ 65536
def keyA (k : Key) : List UInt8 := elemS 48 [wrapS 160 0 (intR k.1), wrapS 160 1 (intR k.2.1), wrapS 160 2 (elemS 4 [k.2.2])]
theorem z1H {k : Key} (h : shK k) : (keyA k).length ≤ 65700 := by
 have g1 := q2P k.1
 have g2 := q2P k.2.1
 have g3 := q0o 4 [k.2.2]
 simp only [List.flatten_cons, List.flatten_nil, List.append_nil] at g3
 have g5 := q0n 160 0 (intR k.1)
 have g6 := q0n 160 1 (intR k.2.1)
 have g7 := q0n 160 2 (elemS 4 [k.2.2])
 have g8 := q0o 48 [wrapS 160 0 (intR k.1), wrapS 160 1 (intR k.2.1), wrapS 160 2 (elemS 4 [k.2.2])]
 simp only [List.flatten_cons, List.flatten_nil, List.append_nil, List.length_append] at g8
 have := h.2.2
 unfold keyA
 omega
theorem j2B (k : Key) (h : shK k) : PC Tryz.prog 54 [.agg (KeyT.cells k)] (.isl .u8 (keyA k)) := by
 have hd : keyA k = elemS 48 [wrapS 160 0 (intR k.1), wrapS 160 1 (intR k.2.1), wrapS 160 2 (elemS 4 [k.2.2])] := rfl
 have g1 := q2P k.1
 have g2 := q2P k.2.1
 have g3 := q0o 4 [k.2.2]
 simp only [List.flatten_cons, List.flatten_nil, List.append_nil] at g3
 have g5 := q0n 160 0 (intR k.1)
 have g6 := q0n 160 1 (intR k.2.1)
 have g7 := q0n 160 2 (elemS 4 [k.2.2])
 obtain ⟨h1, h2, h3⟩ := h
 generalize keyA k = R at *
 refine q0e rfl rfl ?_
 refine rQ fi54 ?_
 refine q0b (q9T _ h1) ?_
 refine gQ ?_
 refine q0b (q1m 0 (by decide) _ (by omega)) ?_
 refine gQ ?_
 refine q0b (q9T _ h2) ?_
 refine gQ ?_
 refine q0b (q1m 1 (by decide) _ (by omega)) ?_
 refine gQ ?_
 refine q0b (z8L _ (by omega)) ?_
 refine gQ ?_
 refine q0b (q1m 2 (by decide) _ (by omega)) ?_
 refine gQ ?_
 refine q0R 1 (by decide) ?_
 with_reducible refine sxE ?_
 refine q0b (q6Q _ (by simp) (by simp only [List.flatten_cons, List.flatten_nil, List.append_nil, List.length_append]; omega)) ?_
 refine gQ ?_
 exact hd.symm
theorem z9W {k : Key} (h : keyOk k) : elemS 48 [wrapS 160 0 (intS k.1), wrapS 160 1 (intS k.2.1), wrapS 160 2 (elemS 4 [k.2.2])] = keyS k := by
 obtain ⟨a, v, c⟩ := k
 obtain ⟨ha, hv, hc⟩ := h
 obtain ⟨hS, hl⟩ := q5H a v c ha hv hc
 have e : ([wrapS 160 0 (intS a), wrapS 160 1 (intS v), wrapS 160 2 (elemS 4 [c])] : List (List UInt8)).flatten = sufS [intS a, intS v, elemS 4 [c]] 0 3 := by
  rw [q0T, q0T, q0T]
  simp [sufS]
 rw [hS]
 show elemS 48 [wrapS 160 0 (intS a), wrapS 160 1 (intS v), wrapS 160 2 (elemS 4 [c])] = _
 rw [q1n (by rw [e]; exact hl), e]
theorem j0U {k : Key} (h : keyOk k) : keyA k = keyS k := by
 have he := z9W h
 obtain ⟨a, v, c⟩ := k
 obtain ⟨ha, hv, hc⟩ := h
 have e1 : intR a = intS a := q6l (by omega)
 have e2 : intR v = intS v := q6l (by omega)
 rw [← he]
 unfold keyA
 dsimp only
 rw [e1, e2]
theorem j2f {k : Key} (h : keyOk k) : shK k := by
 obtain ⟨a, v, c⟩ := k
 obtain ⟨ha, hv, hc⟩ := h
 exact ⟨⟨Int.le_trans (by decide) ha.1, Int.le_trans ha.2 (by decide)⟩, ⟨Int.le_trans (by decide) hv.1, Int.le_trans hv.2 (by decide)⟩, hc⟩
def shE (l : List Pre) : Prop := shD l ∧ ∀ d ∈ l, d.2.length ≤ 1500
theorem z3K {l : List Pre} (h : shE l) : (dataR l).length ≤ 50000 := by
 have h1 := q5U (B := 1545) (mapN (t := PreT) datR l l.length) (fun x hx => by
  unfold mapN at hx
  rw [List.mem_map] at hx
  obtain ⟨y, hy, rfl⟩ := hx
  have h2 := h.2 y (List.mem_of_mem_take hy)
  have := z2A y
  omega)
 have h2 : (mapN (t := PreT) datR l l.length).length ≤ 32 := by
  unfold mapN; simp; have := h.1.1; omega
 have : 1545 * (mapN (t := PreT) datR l l.length).length ≤ 1545 * 32 := Nat.mul_le_mul_left _ h2
 have := q0o 48 (mapN (t := PreT) datR l l.length)
 unfold dataR
 omega
theorem z4J {l : List Pre} (h : shE l) : (preR2 l).length ≤ 50000 := by
 have := z3K h
 unfold preR2; split <;> first | (simp; done) | omega
end Go.Proofs.YtcjehhejgimmdaaGreatDoor
