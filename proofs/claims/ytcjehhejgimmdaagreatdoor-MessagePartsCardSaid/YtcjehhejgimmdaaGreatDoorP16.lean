/- Contracts: names. -/
import Derived.Test.YtcjehhejgimmdaaGreatDoorP14
import Derived.Test.YtcjehhejgimmdaaGreatDoorP15
import Derived.Test.YtcjehhejgimmdaaGreatDoorP9
import Derived.Test.YtcjehhejgimmdaaGreatDoorP10
set_option linter.all false
namespace Go.Proofs.YtcjehhejgimmdaaGreatDoor
open Go Go.Sx Go.Proofs
set_option maxRecDepth 100000
set_option maxHeartbeats 4000000
def szB (s : ByteArray) : Bool := decide (1 ≤ (s.size : Int)) && decide ((s.size : Int) ≤ 32)
theorem j2P (s : ByteArray) : PC Tryz.prog 185 [rS s] (rB (szB s)) := by
 refine q0B rfl rfl ?_
 refine rQ fi185 ?_
 grind [szB]
def visC (c : UInt8) : Bool := decide (33 ≤ (c.toNat : Int)) && decide ((c.toNat : Int) ≤ 126)
theorem z5f {c : UInt8} (h1 : ¬ (c.toNat : Int) < 33) (h2 : ¬ 126 < (c.toNat : Int)) : visC c = true := by simp [visC]; omega
theorem z5O {c : UInt8} (h1 : (c.toNat : Int) < 33) : visC c = false := by simp [visC]; omega
theorem z5T {c : UInt8} (h1 : 126 < (c.toNat : Int)) : visC c = false := by simp [visC]; omega
def visB (s : ByteArray) : Bool := allN s.size fun j => visC (s.data.toList.getD j 0)
theorem j2H (s : ByteArray) (hs : s.size ≤ 140737488355328) : PC Tryz.prog 117 [rS s] (rB (visB s && szB s)) := by
 refine q0B rfl rfl ?_
 refine rQ fi117 ?_
 refine q9v 6 s.size (fun j => visC (s.data.toList.getD j 0) = true) ?_ fun i hi hall => ?_
 · with_reducible refine sxE ?_; trivial
 refine gQ ?_
 refine ⟨fun hlt => ⟨⟨by omega, hlt⟩, fun h33 => ⟨⟨by omega, hlt⟩, fun h126 => ?_, fun h126 => q3X hlt hall ?_ ?_⟩, fun h33 => ?_⟩, fun hge => q0a (j2P s) ?_⟩
 · rw [show visB s = false from q0k hlt (z5T h126)]; rfl
 · exact z5f h33 h126
 · with_reducible refine sxE ?_
   rw [q1N (by omega)]
 · rw [show visB s = false from q0k hlt (z5O h33)]; rfl
 refine gQ ?_
 rw [show visB s = true from q0p fun j hj => hall j (by omega)]; rfl

def fidx (l : List Bool) : Int := if l.all id then -1 else ((l.findIdx (!·) : Nat) : Int)
theorem z9g {l : List Bool} {i : Nat} (hlt : i < l.length) (hall : ∀ j, j < i → l.getD j false = true) (h : l.getD i false = false) : fidx l = i := by
 have h1 : ¬ l.all id = true := fun ha => by
  rw [List.all_eq_true] at ha
  have := ha _ (q1g (d := false) hlt)
  rw [h] at this; cases this
 unfold fidx
 rw [if_neg h1, Int.ofNat_inj, List.findIdx_eq hlt]
 refine ⟨by rw [List.getD_eq_getElem?_getD, List.getElem?_eq_getElem hlt] at h; simpa using h, fun j hj => ?_⟩
 have := hall j hj
 rw [List.getD_eq_getElem?_getD, List.getElem?_eq_getElem (by omega)] at this
 simpa using this
theorem j1e {l : List Bool} (hall : ∀ j, j < l.length → l.getD j false = true) : fidx l = -1 := by
 have h1 : l.all id = true := by
  rw [List.all_eq_true]
  intro x hx
  obtain ⟨j, hj, rfl⟩ := List.getElem_of_mem hx
  have := hall j hj
  rw [List.getD_eq_getElem?_getD, List.getElem?_eq_getElem hj] at this
  simpa using this
 unfold fidx
 rw [if_pos h1]
theorem z8n (l : List Bool) (hl : l.length ≤ 1125899906842624) : PC Tryz.prog 237 [.isl .bool l, rB false] (rI (fidx l)) := by
 refine q0B rfl rfl ?_
 refine rQ fi237 ?_
 refine q9v 8 l.length (fun j => l.getD j false = true) ?_ fun i hi hall => ?_
 · with_reducible refine sxE ?_; trivial
 refine gQ ?_
 refine ⟨fun hlt => ⟨⟨by omega, hlt⟩, fun h => ?_, fun h => q3X hlt hall ?_ ?_⟩, fun hge => ?_⟩
 · rw [z9g hlt hall h.symm]
 · simpa [Ty.dflt] using h
 · with_reducible refine sxE ?_
   rw [q1N (by omega)]
 rw [j1e (fun j hj => hall j (by omega))]
theorem q5N (l : List Bool) (hl : l.length ≤ 1125899906842624) : PC Tryz.prog 184 [.isl .bool l, rB false] (rB (!l.all id)) := by
 refine q0B rfl rfl ?_
 refine rQ fi184 ?_
 refine q0a (z8n l hl) ?_
 refine gQ ?_
 unfold fidx
 split
 · simp_all
 rename_i h
 simp [h]
theorem j2m (l : List Bool) (hl : l.length ≤ 1125899906842624) : PC Tryz.prog 115 [.isl .bool l] (rB (l.all id)) := by
 refine q0B rfl rfl ?_
 refine rQ fi115 ?_
 refine q0a (q5N l hl) ?_
 refine gQ ?_
 simp

theorem j2K (s : ByteArray) (hs : s.size ≤ 140737488355328) : PC Tryz.prog 116 [rS s] (rB (realmB s)) :=
 z7I (vs := [.string s]) (by kernel_rfl) fun w => realm_c s w hs _ (Lib.hid rfl)

def vPart (s : ByteArray) : Bool := visB s && szB s
def vPrin (p : Prin) : Bool := (decide (1 ≤ (p.1.length : Int)) && (decide ((p.1.length : Int) ≤ 4) && realmB p.2)) && allN p.1.length fun j => vPart (p.1.getD j ByteArray.empty)
theorem q2r (p : Prin) (hp : PrinT.ok p) : PC Tryz.prog 49 [.agg (PrinT.cells p)] (rB (vPrin p)) := by
 obtain ⟨l, r⟩ := p
 refine q0B rfl rfl ?_
 refine rQ fi49 ?_
 refine q0b (j2K r hp.2) ?_
 refine gQ ?_
 refine q0R 1 (by decide) ?_
 with_reducible refine sxE ?_
 refine q0b (j2m _ (by simp)) ?_
 refine uQ 600 _ ?_
 simp (maxSteps := 3000000) only [List.all_cons, List.all_nil, id, go_sem, ↓zA, ↓reduceIte, ↓reduceDIte] <;> try simp only [zB]
 refine ⟨fun h => ?_, fun h => ?_⟩
 · rw [vPrin, h]; rfl
 refine q9v 22 l.length (fun j => vPart (l.getD j ByteArray.empty) = true) ?_ fun i hi hall => ?_
 · with_reducible refine sxE ?_; trivial
 have hl : l.length ≤ 1125899906842624 := hp.1.1
 refine gQ ?_
 refine ⟨fun hlt => ⟨⟨by omega, hlt⟩, q0a (j2H _ (hp.1.2 _ (q1g hlt))) ?_⟩, fun hge => ?_⟩
 · refine gQ ?_
   refine ⟨fun hb => ?_, fun hb => q3X hlt hall hb ?_⟩
   · rw [vPrin, show (allN l.length fun j => vPart (l.getD j ByteArray.empty)) = false from q0k hlt hb]; simp
   with_reducible refine sxE ?_
   rw [q1N (by omega)]
 rw [vPrin, h, show (allN l.length fun j => vPart (l.getD j ByteArray.empty)) = true from q0p fun j hj => hall j (by omega)]; rfl
def byteOf (x : Int) : UInt8 := UInt8.ofNat (IntKind.u8.wrap x).toNat
theorem u8wrap (x : Int) : 0 ≤ IntKind.u8.wrap x ∧ IntKind.u8.wrap x < 256 := by
 have h : IntKind.u8.wrap x = x % 256 := by simp [IntKind.wrap, IntKind.bits, IntKind.signed]
 rw [h]
 omega
theorem q0Q (x : Int) : ((UInt8.ofNat (IntKind.u8.wrap x).toNat).toNat : Int) = IntKind.u8.wrap x := by
 have := u8wrap x
 rw [UInt8.toNat_ofNat']; omega
theorem z8A (c : UInt8) : ((UInt8.ofNat c.toNat).toNat : Int) = c.toNat := by simp
def lenS (n : Nat) : List UInt8 :=
 if n < 128 then [byteOf n] else if n < 256 then [129, byteOf n] else if n < 65536 then [130, byteOf ((n : Int).fdiv 256), byteOf n] else [131, byteOf ((n : Int).fdiv 65536), byteOf ((n : Int).fdiv 256), byteOf n]
def tlv (tag : UInt8) (c : List UInt8) : List UInt8 := tag :: (lenS c.length ++ c)
def elemS (tag : UInt8) (parts : List (List UInt8)) : List UInt8 := if parts.flatten.length ≤ 16777215 then tlv tag parts.flatten else []
def flatN (parts : List (List UInt8)) (i : Nat) : List UInt8 := (parts.take i).flatten
theorem q2d {parts : List (List UInt8)} {i : Nat} (h : i < parts.length) : flatN parts (i + 1) = flatN parts i ++ parts.getD i (Ty.slice .u8).dflt := by
 unfold flatN; rw [q0z (d := (Ty.slice .u8).dflt) h]; simp
theorem q3x (parts : List (List UInt8)) : flatN parts parts.length = parts.flatten := by unfold flatN; rw [List.take_length]
theorem q2J (parts : List (List UInt8)) (i : Nat) : (flatN parts i).length ≤ parts.flatten.length := by
 unfold flatN
 have := congrArg List.flatten (List.take_append_drop i parts)
 rw [List.flatten_append] at this
 rw [← this]; simp
def fitAt (parts : List (List UInt8)) (j : Nat) : Bool := decide ((flatN parts (j + 1)).length ≤ 16777215)

theorem z3L (tag : UInt8) (parts : List (List UInt8)) (hp : parts.length ≤ 1125899906842624) : PC Tryz.prog 153 [.raw (.int .u8 tag.toNat), .isl (.slice .u8) parts] (.isl .u8 (elemS tag parts)) := by
 refine q0e rfl rfl ?_
 refine rQ fi153 ?_
 refine q0W (fun i => [(5, rI ((flatN parts i).length)), (13, .raw (.int .i64 ((i : Nat) : Int)))]) (parts.length) (fun j => (fitAt parts) j = true) (by first | decide | simp) (fun i => rfl) ?_ fun i hi hall => ?_
 · (with_reducible refine sxE ?_ <;> try exact True.intro)
   all_goals (try rfl)
 have hwr := wsx i (by omega)
 refine gQ ?_
 have bad : i < (parts.length) → (fitAt parts) i = false → allN (parts.length) (fitAt parts) = false := fun hlt hv => q0k hlt hv
 have fin : ¬ i < (parts.length) → allN (parts.length) (fitAt parts) = true := fun h => q0p fun j hj => hall j (by omega)
 try dsimp only at bad fin hall
 have hn : (flatN parts i).length ≤ 16777215 := by
  cases i with
  | zero => simp [flatN]
  | succ j => have := hall j (by omega); simpa [fitAt] using this
 rw [wrapi (n := 16777215 - ((flatN parts i).length : Int)) (by omega), wrapi (n := ((flatN parts i).length : Int) + 5) (by omega)]
 refine ⟨fun hlt => ⟨⟨by omega, hlt⟩, fun hbig => ?_, fun hfit => ?_⟩, fun hge => ?_⟩
 · have h1 := q2J parts (i + 1)
   rw [q2d hlt, List.length_append] at h1
   unfold elemS
   rw [if_neg (by omega)]
 · have h2 : ((flatN parts i).length : Int) + ((parts.getD i (Ty.slice .u8).dflt).length : Int) = ((flatN parts (i + 1)).length : Int) := by rw [q2d hlt, List.length_append]; rfl
   have h3 : (flatN parts (i + 1)).length ≤ 16777215 := by omega
   refine ⟨hlt, q1c hall (by simpa [fitAt] using h3), ⟨_, rfl⟩, ?_⟩
   rw [h2, wrapi (n := ((flatN parts (i + 1)).length : Int)) (by omega)]
   with_reducible refine sx1 hwr ?_; trivial
 obtain rfl : i = parts.length := by omega
 rw [q3x] at *
 have he : elemS tag parts = tag :: (lenS parts.flatten.length ++ flatN parts parts.length) := by unfold elemS tlv; rw [if_pos hn, q3x]
 refine ⟨⟨by omega, by omega, by omega⟩, z8A tag, fun h1 => ⟨q0Q _, ?_⟩, fun h1 => ⟨fun h2 => ⟨?_, ?_⟩, fun h2 => ⟨fun h3 => ⟨?_, ?_⟩, fun h3 => ⟨?_, ?_⟩⟩⟩⟩
 any_goals (repeat' (first | exact q0Q _ | exact rfl | with_reducible refine And.intro ?_ ?_))
 have hL : lenS parts.flatten.length = [byteOf parts.flatten.length] := by unfold lenS; rw [if_pos (by omega)]
 rotate_left
 have hL : lenS parts.flatten.length = [129, byteOf parts.flatten.length] := by unfold lenS; rw [if_neg (by omega), if_pos (by omega)]
 rotate_left
 have hL : lenS parts.flatten.length = [130, byteOf ((parts.flatten.length : Int).fdiv 256), byteOf parts.flatten.length] := by unfold lenS; rw [if_neg (by omega), if_neg (by omega), if_pos (by omega)]
 rotate_left
 have hL : lenS parts.flatten.length = [131, byteOf ((parts.flatten.length : Int).fdiv 65536), byteOf ((parts.flatten.length : Int).fdiv 256), byteOf parts.flatten.length] := by unfold lenS; rw [if_neg (by omega), if_neg (by omega), if_neg (by omega)]
 rotate_left
 all_goals
  refine q7S (H := [_, _, _, _]) 8 .u8 (fun i => tag :: (lenS parts.flatten.length ++ flatN parts i)) (fun i => [(44, .any), (52, .any), (60, .any), (71, .any), (74, rI i)]) parts.length (fun _ => True) (by rw [hL]; simp [flatN, byteOf]) (by simp) rfl (fun i => rfl) ?_ fun i hi _ => ?_
  · with_reducible refine sx1 hL ?_
    simp [flatN]
  have hwr := wsx i (by omega)
  have hfl := q2J parts i
  have hll : (lenS parts.flatten.length).length ≤ 4 := by rw [hL]; simp
  refine gQ ?_
  have e1 : (lenS parts.flatten.length ++ flatN parts i).length = (lenS parts.flatten.length).length + (flatN parts i).length := List.length_append
  refine ⟨fun hlt => ?_, fun hge => ?_⟩
  · have h4 := q2J parts (i + 1)
    have h5 := q2d hlt
    rw [h5, List.length_append] at h4
    refine ⟨⟨by omega, hlt⟩, ⟨by omega, by omega⟩, q1b [.dead] [] hlt trivial (by rw [h5, ← List.append_assoc]; rfl) ?_⟩
    with_reducible refine sx3 hwr h5 ?_
    exact congrArg (SV.bld 5 .u8) (by omega)
  obtain rfl : i = parts.length := by omega
  rw [List.take_of_length_le (Nat.le_refl _)]
  exact ⟨⟨Nat.le_refl _, by omega⟩, he.symm⟩
def byteAt (v : Int) (k : Nat) : UInt8 := byteOf (v.fdiv (2 ^ min (8 * k) 64))
def numN (v : Int) (size i : Nat) : List UInt8 := (List.range size).map fun j => if size - 1 - j < i then byteAt v (size - 1 - j) else 0
def numS (v : Int) (size : Nat) : List UInt8 := (List.range size).map fun j => byteAt v (size - 1 - j)
theorem z3O (v : Int) (size : Nat) : List.replicate size (0 : UInt8) = numN v size 0 := by
 apply List.ext_getElem
 · simp [numN]
 intro j h1 h2; simp [numN]
theorem z8s (v : Int) (size : Nat) : numN v size size = numS v size := by
 apply List.ext_getElem
 · simp [numN, numS]
 intro j h1 h2
 simp [numN, numS]
 simp [numN] at h1
 intro h; omega
theorem z6D {v : Int} {size i : Nat} (h : i < size) : (numN v size i).set (size - 1 - i) (byteAt v i) = numN v size (i + 1) := by
 apply List.ext_getElem
 · simp [numN]
 intro j h1 h2
 simp [numN] at h2
 simp only [numN, List.getElem_set, List.getElem_map, List.getElem_range]
 split
 · rename_i e
   have : size - 1 - j = i := by omega
   rw [this, if_pos (by omega)]
 rename_i e
 by_cases h3 : size - 1 - j < i
 · rw [if_pos h3, if_pos (by omega)]
 rw [if_neg h3, if_neg (by omega)]
theorem q7O (v : Int) (size : Nat) (hs : size ≤ 64) : PC Tryz.prog 154 [rI v, rI size] (.isl .u8 (numS v size)) := by
 refine q0e rfl rfl ?_
 refine rQ fi154 ?_
 refine ⟨by omega, ?_⟩
 refine q1f (ι := Nat) (fun i => [(11, rI i)]) (fun i => [.row .u8 (numN v size i)]) (fun i => size - i) (fun i => i ≤ size) 0 (Nat.zero_le _) (by rw [← z3O]; rfl) ?_ ?_
 · with_reducible refine sxE ?_; trivial
 intro i hi
 have w3 : IntKind.i64.wrap (8 * (i : Int)) = ((8 * i : Nat) : Int) := by rw [wrapi (by omega)]; rfl
 have hwr := wsx i (by omega)
 have hln : (numN v size i).length = size := by simp [numN]
 by_cases hlt : i < size
 · have w1 : IntKind.i64.wrap ((size : Int) - 1) = ((size - 1 : Nat) : Int) := by rw [wrapi (by omega)]; omega
   have w2 : IntKind.i64.wrap (((size - 1 : Nat) : Int) - (i : Int)) = ((size - 1 - i : Nat) : Int) := by rw [wrapi (by omega)]; omega
   refine uQ 600 _ ?_
   simp (maxSteps := 3000000) only [w1, w2, w3, hln, go_sem, ↓zA, ↓reduceIte, ↓reduceDIte] <;> try simp only [zB]
   refine ⟨fun _ => ⟨by omega, ⟨by omega, by omega⟩, ⟨by omega, q0Q _⟩, i + 1, hlt, by dsimp only; omega, ?_, ?_⟩, fun h => absurd hlt h⟩
   · dsimp only; rw [← z6D hlt, Nat.zero_add]; rfl
   with_reducible refine sx1 hwr ?_; trivial
 refine uQ 600 _ ?_
 with_reducible refine sx1 hln ?_
 refine ⟨fun h => absurd h hlt, fun _ => ⟨⟨by omega, by omega⟩, ?_⟩⟩
 obtain rfl : i = size := by omega
 rw [z8s, List.take_of_length_le (by simp [numS])]
theorem q2j (tag : UInt8) (n : Int) (hn : n = tag.toNat) (parts : List (List UInt8)) (hp : parts.length ≤ 1125899906842624) : PC Tryz.prog 153 [.raw (.int .u8 n), .isl (.slice .u8) parts] (.isl .u8 (elemS tag parts)) := by
 subst hn; exact z3L tag parts hp

def restN (v : Int) : Nat → Int
 | 0 => v
 | k + 1 => (restN v k).fdiv 256
def firstN (n : Nat) (q : Nat → Bool) : Option Nat := (List.range n).find? q
theorem q3h {n i : Nat} {q : Nat → Bool} (hi : i < n) (hq : q i = true) (hn : ∀ j, j < i → q j = false) : firstN n q = some i := by
 unfold firstN
 rw [List.find?_range_eq_some]
 exact ⟨hq, by simpa using hi, fun j hj => by rw [hn j hj]; rfl⟩
theorem z0h {n : Nat} {q : Nat → Bool} (hn : ∀ j, j < n → q j = false) : firstN n q = none := by
 unfold firstN
 rw [List.find?_range_eq_none]
 exact fun j hj => by rw [hn j hj]; rfl
theorem q6g {n i : Nat} {q : Nat → Bool} (h : firstN n q = some i) : i < n ∧ q i = true ∧ ∀ j, j < i → q j = false := by
 unfold firstN at h
 rw [List.find?_range_eq_some] at h
 exact ⟨by simpa using h.2.1, h.1, fun j hj => by simpa using h.2.2 j hj⟩
def oneB (v : Int) (k : Nat) : Bool := decide (-128 ≤ restN v k) && decide (restN v k ≤ 127)
def intSz (v : Int) : Nat := 1 + (firstN 9 (oneB v)).getD 0
def intS (v : Int) : List UInt8 := if -4611686018427387904 ≤ v ∧ v ≤ 4611686018427387904 then elemS 2 [numS v (intSz v)] else []
theorem fdiv256 (r : Int) : r.fdiv 256 = r / 256 := Int.fdiv_eq_ediv_of_nonneg r (by decide)
theorem rest8 {v : Int} (h1 : -4611686018427387904 ≤ v) (h2 : v ≤ 4611686018427387904) : oneB v 8 = true := by
 simp only [oneB, restN, fdiv256, Bool.and_eq_true, decide_eq_true_eq]
 omega
theorem q1a (v : Int) : PC Tryz.prog 83 [rI v] (.isl .u8 (intS v)) := by
 refine q0e rfl rfl ?_
 refine rQ fi83 ?_ <;> try with_reducible exact True.intro
 repeat' (first
  | (with_reducible refine And.intro ?_ ?_)
  | (with_reducible intro _))
 all_goals (skip)
 · unfold intS; rw [if_neg (by omega)]
 rotate_left
 · unfold intS; rw [if_neg (by omega)]
 rename_i h1 h2
 have h8 := rest8 (v := v) (by omega) (by omega)
 refine q1f (ι := Nat) (fun k => [(3, rI ((1 + k : Nat) : Int)), (4, rI (restN v k))]) (fun _ => []) (fun k => 9 - k) (fun k => k ≤ 8 ∧ ∀ j, j < k → oneB v j = false) 0 ⟨by omega, fun j hj => absurd hj (by omega)⟩ rfl ?_ ?_
 · simp (maxSteps := 3000000) only [restN, go_sem, ↓zA, ↓reduceIte, ↓reduceDIte] <;> try simp only [zB]
   rfl
 rintro k ⟨hk, hall⟩
 have hwr : IntKind.i64.wrap (((1 + k : Nat) : Int) + 1) = ((1 + (k + 1) : Nat) : Int) := by rw [wrapi (by omega)]; omega
 refine uQ 600 _ ?_
 with_reducible refine sx1 hwr ?_
 have hp : (2 : Int) ^ min 8 64 = 256 := by decide
 refine ⟨fun h3 => ⟨fun h4 => ?_, fun h4 => ?_⟩, fun h3 => ?_⟩
 · have ho : oneB v k = false := by simp [oneB]; omega
   have hk8 : k ≠ 8 := fun e => by subst e; rw [h8] at ho; cases ho
   refine ⟨k + 1, ⟨by omega, q1c hall ho⟩, by dsimp only; omega, rfl, ?_⟩
   simp (maxSteps := 3000000) only [restN, hp, go_sem, ↓zA, ↓reduceIte, ↓reduceDIte] <;> try simp only [zB]
 · have ho : oneB v k = true := by simp [oneB]; omega
   have hz : intSz v = 1 + k := by unfold intSz; rw [q3h (by omega) ho hall]; rfl
   refine q0a (q7O v (1 + k) (by omega)) ?_
   refine gQ ?_
   refine q0v 0 ?_
   with_reducible refine sxE ?_
   refine q0a (q2j 2 2 rfl _ (by simp)) ?_
   refine gQ ?_
   unfold intS
   rw [if_pos (by omega), hz]
 have ho : oneB v k = false := by simp [oneB]; omega
 have hk8 : k ≠ 8 := fun e => by subst e; rw [h8] at ho; cases ho
 refine ⟨k + 1, ⟨by omega, q1c hall ho⟩, by dsimp only; omega, rfl, ?_⟩
 simp (maxSteps := 3000000) only [restN, hp, go_sem, ↓zA, ↓reduceIte, ↓reduceDIte] <;> try simp only [zB]
theorem z2h (b : List UInt8) : PC Tryz.prog 206 [.isl .u8 b] (.isl .u8 (elemS 4 [b])) := by
 refine q0e rfl rfl ?_
 refine rQ fi206 ?_
 refine q0v 0 ?_
 with_reducible refine sxE ?_
 refine q0a (q2j 4 4 rfl _ (by simp)) ?_
 refine gQ ?_; trivial
def timeS (t : Int) : List UInt8 := if 0 ≤ t ∧ t ≤ 1099511627776 then elemS 24 [numS t 6] else []
theorem q7B (t : Int) : PC Tryz.prog 86 [rI t] (.isl .u8 (timeS t)) := by
 refine q0e rfl rfl ?_
 refine rQ fi86 ?_
 refine ⟨fun h1 => ⟨fun h2 => ?_, fun h2 => ?_⟩, fun h1 => ?_⟩
 · unfold timeS; rw [if_neg (by omega)]
 · refine q0a (q7O t 6 (by omega)) ?_
   refine gQ ?_
   refine q0v 0 ?_
   with_reducible refine sxE ?_
   refine q0a (q2j 24 24 rfl _ (by simp)) ?_
   refine gQ ?_
   unfold timeS; rw [if_pos (by omega)]
 unfold timeS; rw [if_neg (by omega)]
theorem q1Z (l : List (List UInt8)) (hl : l.length ≤ 1125899906842624) : PC Tryz.prog 125 [.isl (.slice .u8) l] (.isl .u8 (elemS 48 l)) := by
 refine q0e rfl rfl ?_
 refine rQ fi125 ?_
 refine q0a (q2j 48 48 rfl _ hl) ?_
 refine gQ ?_; trivial
def wrapS (tag n : Int) (b : List UInt8) : List UInt8 := if 0 ≤ n ∧ n ≤ 30 ∧ b ≠ [] then elemS (byteOf (tag + n)) [b] else []
theorem q9u (tag n : Int) (b : List UInt8) (ht : 0 ≤ tag ∧ tag ≤ 1000) : PC Tryz.prog 151 [rI tag, rI n, .isl .u8 b] (.isl .u8 (wrapS tag n b)) := by
 refine q0e rfl rfl ?_
 refine rQ fi151 ?_
 refine ⟨fun h1 => ⟨fun h2 => ⟨fun h3 => ?_, fun h3 => ?_⟩, fun h2 => ?_⟩, fun h1 => ?_⟩
 · unfold wrapS; rw [if_neg (fun h => h.2.2 (List.length_eq_zero_iff.1 (by omega)))]
 · refine q0v 0 ?_
   with_reducible refine sxE ?_
   refine q0a (q2j (byteOf (tag + n)) _ ?_ _ (by simp)) ?_
   · rw [wrapi (by omega)]; exact (q0Q _).symm
   refine gQ ?_
   unfold wrapS
   rw [if_pos ⟨by omega, by omega, fun e => h3 (by rw [e]; rfl)⟩]
 · unfold wrapS; rw [if_neg (by omega)]
 unfold wrapS; rw [if_neg (by omega)]
theorem q0D (n : Int) (b : List UInt8) : PC Tryz.prog 81 [rI n, .isl .u8 b] (.isl .u8 (wrapS 160 n b)) := by
 refine q0e rfl rfl ?_
 refine rQ fi81 ?_
 refine q0a (q9u 160 n b (by omega)) ?_
 refine gQ ?_; trivial
def bitsS (f : Int) : List UInt8 := elemS 3 [[0], numS f 4]
theorem z8C (f : Int) (hf : 0 ≤ f ∧ f ≤ 4294967295) : PC Tryz.prog 85 [.raw (.int .u32 f)] (.isl .u8 (bitsS f)) := by
 refine q0e rfl rfl ?_
 refine rQ fi85 ?_
 rw [wrapi (by omega)]
 refine ⟨by simp, q0a (q7O f 4 (by omega)) ?_⟩
 with_reducible refine sxE ?_
 refine q1t 0 rfl rfl (by simp) ?_ ?_ ?_
 · with_reducible refine sxE ?_; trivial
 · with_reducible refine sxE ?_; trivial
 with_reducible refine sxE ?_
 refine gQ ?_
 refine q0v 1 ?_
 with_reducible refine sxE ?_
 refine q0a (q2j 3 3 rfl _ (by simp)) ?_
 refine gQ ?_
 rfl
theorem q6b (s : ByteArray) (hs : s.size ≤ 140737488355328) : PC Tryz.prog 140 [rS s] (.isl .u8 (elemS 27 [s.data.toList])) := by
 refine q0e rfl rfl ?_
 refine q1J fi140 (q0l mixed 8 _ ?_)
 simp (maxSteps := 3000000) only [ir140, go_sem, ↓zA, ↓reduceIte, ↓reduceDIte] <;> try simp only [zB]
 have hl : (bytesOf s).length = s.size := by simp [bytesOf]
 refine q1t 0 rfl rfl (by omega) ?_ ?_ ?_
 · with_reducible refine sxE ?_; trivial
 · with_reducible refine sxE ?_
   omega
 with_reducible refine sxE ?_
 refine gQ ?_
 refine q0v 1 ?_
 with_reducible refine sxE ?_
 rw [List.take_of_length_le (by omega)]
 refine q0a (q2j 27 27 rfl _ (by simp)) ?_
 refine gQ ?_
 rfl
def fullAt (l : List (List UInt8)) (j : Nat) : Bool := decide (l.getD j (Ty.slice .u8).dflt ≠ [])
def wholeS (l : List (List UInt8)) : List UInt8 := if allN l.length (fullAt l) then elemS 48 l else []
theorem z4c (l : List (List UInt8)) (hl : l.length ≤ 1125899906842624) : PC Tryz.prog 243 [.isl (.slice .u8) l] (.isl .u8 (wholeS l)) := by
 refine q0e rfl rfl ?_
 refine rQ fi243 ?_
 refine q0W (fun i => [(7, .raw (.int .i64 ((i : Nat) : Int)))]) (l.length) (fun j => (fullAt l) j = true) (by first | decide | simp) (fun i => rfl) ?_ fun i hi hall => ?_
 · (with_reducible refine sxE ?_ <;> try exact True.intro)
   all_goals (try rfl)
 have hwr := wsx i (by omega)
 refine gQ ?_
 have bad : i < (l.length) → (fullAt l) i = false → allN (l.length) (fullAt l) = false := fun hlt hv => q0k hlt hv
 have fin : ¬ i < (l.length) → allN (l.length) (fullAt l) = true := fun h => q0p fun j hj => hall j (by omega)
 try dsimp only at bad fin hall
 refine ⟨fun hlt => ⟨⟨by omega, hlt⟩, fun h0 => ?_, fun h0 => ?_⟩, fun hge => q0a (q1Z l hl) ?_⟩
 · have : fullAt l i = false := by simp only [fullAt, decide_eq_false_iff_not, ne_eq, Classical.not_not]; exact List.length_eq_zero_iff.1 (by omega)
   unfold wholeS; rw [bad hlt this]; rfl
 · refine ⟨hlt, q1c hall ?_, ⟨_, rfl⟩, ?_⟩
   · simp only [fullAt, decide_eq_true_eq]; exact fun e => h0 (by rw [e]; rfl)
   with_reducible refine sx1 hwr ?_; trivial
 refine gQ ?_
 unfold wholeS; rw [fin hge]; rfl
def tagN (l : List (List UInt8)) (i : Nat) : List (List UInt8) := (List.range i).map fun (j : Nat) => wrapS 160 j (l.getD j (Ty.slice .u8).dflt)
theorem z3P (l : List (List UInt8)) (i : Nat) : tagN l (i + 1) = tagN l i ++ [wrapS 160 i (l.getD i (Ty.slice .u8).dflt)] := by simp [tagN, List.range_succ]
def fieldsS (l : List (List UInt8)) : List UInt8 := wholeS (tagN l l.length)
theorem z1u (l : List (List UInt8)) (hl : l.length ≤ 1048576) : PC Tryz.prog 205 [.isl (.slice .u8) l] (.isl .u8 (fieldsS l)) := by
 refine q0e rfl rfl ?_
 refine rQ fi205 ?_
 refine q1U 3 (.slice .u8) (fun i => tagN l i) (fun i => [(8, rI i)]) l.length (fun _ => True) rfl (by simp) (by simp [tagN]) rfl (fun i => rfl) ?_ fun i hi _ => ?_
 · with_reducible refine sxE ?_; trivial
 have hwr := wsx i (by omega)
 have hln : (tagN l i).length = i := by simp [tagN]
 have hst := z3P l i
 refine gQ ?_
 refine ⟨fun hlt => ⟨⟨by omega, hlt⟩, q0a (q0D _ _) ?_⟩, fun hge => ?_⟩
 · refine gQ ?_
   refine ⟨⟨by omega, by omega⟩, q1b [_, _] [] hlt trivial (by rw [hst]; rfl) ?_⟩
   with_reducible refine sx3 hwr hst ?_; trivial
 obtain rfl : i = l.length := by omega
 refine q0v 0 ?_
 with_reducible refine sxE ?_
 refine ⟨by omega, ?_⟩
 rw [List.take_of_length_le (by omega)]
 refine ⟨Nat.le_refl _, q0a (z4c (tagN l l.length) (by omega)) ?_⟩
 refine gQ ?_
 rfl
def keyS (k : Key) : List UInt8 := fieldsS [intS k.1, intS k.2.1, elemS 4 [k.2.2]]
theorem z7p (p v : Int) (b : List UInt8) : PC Tryz.prog 152 [rI p, rI v, .isl .u8 b] (.isl .u8 (keyS (p, v, b))) := by
 refine q0e rfl rfl ?_
 refine rQ fi152 ?_
 refine q0a (q1a p) ?_
 refine gQ ?_
 refine q0a (q1a v) ?_
 refine gQ ?_
 refine q0a (z2h b) ?_
 refine gQ ?_
 refine q0v 0 ?_
 with_reducible refine sxE ?_
 refine q0a (z1u _ (by simp)) ?_
 refine gQ ?_
 rfl
theorem j2s (k : Key) : PC Tryz.prog 82 [.agg (KeyT.cells k)] (.isl .u8 (keyS k)) := by
 refine q0e rfl rfl ?_
 refine rQ fi82 ?_
 refine q0a (z7p _ _ _) ?_
 refine gQ ?_; trivial
def dec : Bool → List UInt8 → List UInt8 → List (List UInt8)
 | _, cur, [] => [cur]
 | true, cur, c :: r => dec false (cur ++ [c]) r
 | false, cur, c :: r => if c = 92 then dec true cur r else if c = 47 then cur :: dec false [] r else dec false (cur ++ [c]) r
def rlmR : Bool → List UInt8 → Bool
 | prev, [] => !prev
 | prev, c :: cs => if c == 46 then !prev && rlmR true cs else realmChar c && rlmR false cs
def labL (l : List UInt8) : Bool := decide (0 < l.length) && l.all realmChar
theorem z1i : ∀ (cs cur : List UInt8), (splitGo cur cs).all labL = (cur.all realmChar && rlmR cur.isEmpty cs)
 | [], cur => by cases cur <;> simp [splitGo, labL, rlmR, Bool.and_comm]
 | c :: cs, cur => by
  rw [splitGo, rlmR]
  split
  · have := z1i cs []
    simp only [List.all_cons, this, List.all_nil, List.isEmpty_nil, Bool.true_and]
    cases cur <;> simp [labL, Bool.and_comm, Bool.and_left_comm]
  have := z1i cs (c :: cur)
  rw [this, List.all_cons, List.isEmpty_cons]
  cases realmChar c <;> simp
def rlmAt (prev : Bool) (l : List UInt8) (j : Nat) : Bool :=
 if l.getD j 0 = 46 then decide (j + 1 < l.length) && (if j = 0 then !prev else decide (l.getD (j - 1) 0 ≠ 46)) else realmChar (l.getD j 0)
theorem z3W : ∀ (l : List UInt8) (prev : Bool), l ≠ [] → rlmR prev l = allN l.length (rlmAt prev l)
 | [], _, h => absurd rfl h
 | [c], prev, _ => by
  simp only [rlmR, allN, List.length_singleton, List.range_one, List.all_cons, List.all_nil, Bool.and_true, rlmAt]
  by_cases h : c = 46 <;> simp [h]
 | c :: d :: l, prev, _ => by
  have ih := z3W (d :: l) (c == 46) (by simp)
  have hs : ∀ j, rlmAt prev (c :: d :: l) (j + 1) = rlmAt (c == 46) (d :: l) j := fun j => by
   unfold rlmAt
   simp only [List.getD_cons_succ, List.length_cons, Nat.add_sub_cancel]
   cases j with
   | zero =>
    by_cases h : c = 46
    · simp [h]
    have : (c == 46) = false := by simpa using h
    simp [h, this]
   | succ j => simp
  have ha : allN (c :: d :: l).length (rlmAt prev (c :: d :: l)) = (rlmAt prev (c :: d :: l) 0 && allN (d :: l).length (rlmAt (c == 46) (d :: l))) := by
   rw [Bool.eq_iff_iff, Bool.and_eq_true, q1S, q1S]
   constructor
   · intro h
     exact ⟨h 0 (by simp), fun j hj => by rw [← hs]; exact h (j + 1) (by simp at hj ⊢; omega)⟩
   rintro ⟨h0, h⟩ j hj
   cases j with
   | zero => exact h0
   | succ j => rw [hs]; exact h j (by simp at hj ⊢; omega)
  rw [ha, ← ih, rlmR]
  by_cases h : c = 46
  · subst h; simp [rlmAt]
  have : (c == 46) = false := by simpa using h
  simp [rlmAt, h, this]
theorem q9C (s : ByteArray) : realmB s = (szB s && allN s.size (rlmAt true s.data.toList)) := by
 have h1 : sizedB s = szB s := by
  unfold sizedB szB
  rw [Bool.eq_iff_iff]; simp; omega
 have h2 : (splitB s).all labelB = (splitDot s.data.toList).all labL := by
  unfold splitB
  rw [List.all_map]
  congr 1
 rw [realmB, h1, h2, splitDot, z1i, List.all_nil, List.isEmpty_nil, Bool.true_and]
 by_cases h : s.data.toList = []
 · have : s.size = 0 := by
    have := congrArg List.length h
    simpa using this
   simp [szB, this]
 rw [z3W _ _ h]; first | rfl | simp
theorem j1O {c : UInt8} {n : Nat} (hn : n < 256) : c = UInt8.ofNat n ↔ (c.toNat : Int) = n := by
 have h : (UInt8.ofNat n).toNat = n := by rw [UInt8.toNat_ofNat']; omega
 rw [← UInt8.toNat_inj, h]; omega
theorem q8f (c : UInt8) : realmChar c = true ↔ (c.toNat : Int) = 45 ∨ (65 ≤ (c.toNat : Int) ∧ (c.toNat : Int) ≤ 90) ∨ (48 ≤ (c.toNat : Int) ∧ (c.toNat : Int) ≤ 57) := by
 have h := j1O (c := c) (n := 45) (by decide)
 simp only [realmChar, Bool.or_eq_true, Bool.and_eq_true, decide_eq_true_eq, beq_iff_eq]
 have h' : c = 45 ↔ (c.toNat : Int) = 45 := h
 rw [h']
 omega
theorem j1j {s : ByteArray} {i : Nat} (hlt : i < s.size) : rlmAt true s.data.toList i = true ↔
 (if ((s.data.toList.getD i 0).toNat : Int) = 46 then (i : Int) ≠ 0 ∧ (i : Int) ≠ ((s.size - 1 : Nat) : Int) ∧ ((s.data.toList.getD (i - 1) 0).toNat : Int) ≠ 46 else ((s.data.toList.getD i 0).toNat : Int) = 45 ∨ (65 ≤ ((s.data.toList.getD i 0).toNat : Int) ∧ ((s.data.toList.getD i 0).toNat : Int) ≤ 90) ∨ (48 ≤ ((s.data.toList.getD i 0).toNat : Int) ∧ ((s.data.toList.getD i 0).toNat : Int) ≤ 57)) := by
 have hl : s.data.toList.length = s.size := by simp
 have h46 : ∀ c : UInt8, c = 46 ↔ (c.toNat : Int) = 46 := fun c => j1O (c := c) (n := 46) (by decide)
 unfold rlmAt
 rw [← q8f, hl]
 by_cases hc : s.data.toList.getD i 0 = 46
 · rw [if_pos hc, if_pos ((h46 _).1 hc), Bool.and_eq_true, decide_eq_true_eq]
   by_cases h0 : i = 0
   · simp [h0]
   rw [if_neg h0, decide_eq_true_eq, ne_eq, h46]
   omega
 rw [if_neg hc, if_neg (fun h => hc ((h46 _).2 h))]
theorem rbad {s : ByteArray} {i : Nat} (hlt : i < s.size) (h : ¬ rlmAt true s.data.toList i = true) : false = (szB s && allN s.size (rlmAt true s.data.toList)) := by
 rw [q0k hlt (by simpa using h)]; simp
theorem q8e (s : ByteArray) (hs : s.size ≤ 140737488355328) : PC Tryz.prog 77 [rS s] (rB (realmB s)) := by
 refine q0B rfl rfl ?_
 rw [q9C]
 refine rQ fi77 ?_
 refine q9v 3 s.size (fun j => rlmAt true s.data.toList j = true) ?_ fun i hi hall => ?_
 · with_reducible refine sxE ?_; trivial
 have e1 : IntKind.i64.wrap ((s.size : Int) - 1) = (s.size : Int) - 1 := by rw [wrapi (by omega)]
 refine gQ ?_
 refine ⟨fun hlt => ?_, fun hge => ?_⟩
 · have e3 : ((s.size - 1 : Nat) : Int) = (s.size : Int) - 1 := by omega
   have hri := j1j hlt
   rw [e1]
   rcases Nat.eq_zero_or_pos i with hz | hpos
   · have e2 : ∀ k : Nat, IntKind.i64.wrap ((i : Int) - 1) = k → i = 0 := fun _ _ => hz
     repeat' (first | apply And.intro | intro _)
     all_goals first | omega | (refine rbad hlt ?_; rw [hri]; split <;> omega) | refine q3X hlt hall (by rw [hri]; split <;> omega) ?_
     all_goals (with_reducible refine sxE ?_ <;> try exact True.intro)
     all_goals first | rw [q1N (by omega)] | rfl
   have e2 : IntKind.i64.wrap ((i : Int) - 1) = ((i - 1 : Nat) : Int) := by rw [wrapi (by omega)]; omega
   rw [e2]
   simp only [Int.toNat_natCast]
   repeat' (first | apply And.intro | intro _)
   all_goals first | omega | (refine rbad hlt ?_; rw [hri]; split <;> omega) | refine q3X hlt hall (by rw [hri]; split <;> omega) ?_
   all_goals (with_reducible refine sxE ?_ <;> try exact True.intro)
   all_goals first | rw [q1N (by omega)] | rfl
 rw [q0p fun j hj => hall j (by omega), Bool.and_true, szB]
 refine ⟨fun h => ?_, fun h => ?_⟩ <;> simp [h]
theorem z2b (s : ByteArray) (hs : s.size ≤ 140737488355328) : PC Tryz.prog 76 [rS s] (rB (visB s)) := by
 refine q0B rfl rfl ?_
 refine rQ fi76 ?_
 refine q9v 3 s.size (fun j => visC (s.data.toList.getD j 0) = true) ?_ fun i hi hall => ?_
 · with_reducible refine sxE ?_; trivial
 refine gQ ?_
 refine ⟨fun hlt => ⟨⟨by omega, hlt⟩, fun h33 => ⟨⟨by omega, hlt⟩, fun h126 => ?_, fun h126 => q3X hlt hall ?_ ?_⟩, fun h33 => ?_⟩, fun hge => ?_⟩
 · rw [show visB s = false from q0k hlt (z5T h126)]
 · exact z5f h33 h126
 · with_reducible refine sxE ?_
   rw [q1N (by omega)]
 · rw [show visB s = false from q0k hlt (z5O h33)]
 rw [show visB s = true from q0p fun j hj => hall j (by omega)]
theorem q8X (p : Int) : kindOf p = kind1 ∨ kindOf p = kind2 ∨ kindOf p = kindZ := by
 unfold kindOf
 split
 · exact .inl rfl
 split
 · exact .inr (.inl rfl)
 exact .inr (.inr rfl)
theorem z8q (k : Key) : PC Tryz.prog 44 [.agg (KeyT.cells k)] (rB (vKey k)) := by
 refine q0B rfl rfl ?_
 refine rQ fi44 ?_
 refine q0a (j1N k) ?_
 rcases q8X k.1 with h | h | h
 · rw [h]
   refine uQ 600 _ ?_
   simp (maxSteps := 3000000) only [kind1, go_sem, ↓zA, ↓reduceIte, ↓reduceDIte] <;> try simp only [zB]
 · rw [h]
   refine uQ 600 _ ?_
   simp (maxSteps := 3000000) only [kind2, go_sem, ↓zA, ↓reduceIte, ↓reduceDIte] <;> try simp only [zB]
 rw [h]
 refine uQ 600 _ ?_
 simp (maxSteps := 3000000) only [kindZ, go_sem, ↓zA, ↓reduceIte, ↓reduceDIte] <;> try simp only [zB]
theorem z2z (l : List UInt8) (hl : l.length ≤ 140737488355328) : PC Tryz.prog 181 [.isl .u8 l] (.isl .u8 l) := by
 refine q0e rfl rfl ?_
 refine rQ fi181 ?_
 intro b hb
 refine ⟨hb, fun h => ⟨⟨by omega, by omega⟩, ⟨by omega, by omega⟩, List.take_of_length_le (by omega)⟩⟩
def tagS (l : List (List UInt8)) : List UInt8 := elemS 48 (tagN l l.length)
def timO (v : Int) : List UInt8 := if v = 0 then [] else timeS v
def strsN (l : List ByteArray) (i : Nat) : List (List UInt8) := (l.take i).map fun s => elemS 27 [s.data.toList]
theorem q7g {l : List ByteArray} {i : Nat} (h : i < l.length) : strsN l (i + 1) = strsN l i ++ [elemS 27 [(l.getD i Ty.str.dflt).data.toList]] := by unfold strsN; rw [q0z (d := Ty.str.dflt) h]; simp
theorem q9f {l : List ByteArray} {i : Nat} (h : i ≤ l.length) : (strsN l i).length = i := by simp [strsN]; omega
def prinS (p : Prin) : List UInt8 := elemS 48 [wrapS 160 0 (elemS 48 (strsN p.1 p.1.length)), wrapS 160 1 (elemS 27 [p.2.data.toList])]
theorem z5W (p : Prin) (hp : PrinT.ok p) : PC Tryz.prog 156 [.agg (PrinT.cells p)] (.tup [.isl .u8 (if vPrin p then prinS p else []), rI (if vPrin p then 0 else 2)]) := by
 obtain ⟨l, r⟩ := p
 have hps : prinS (l, r) = elemS 48 [wrapS 160 0 (elemS 48 (strsN l l.length)), wrapS 160 1 (elemS 27 [r.data.toList])] := rfl
 have hok : ∀ {i}, i < l.length → (l.getD i Ty.str.dflt).size ≤ 140737488355328 := fun h => hp.1.2 _ (q1g h)
 have hr : r.size ≤ 140737488355328 := hp.2
 have hv := q2r (l, r) hp
 have hv4 : vPrin (l, r) = true → l.length ≤ 4 := fun h => by simp [vPrin] at h; omega
 clear hp
 generalize vPrin (l, r) = vb at *
 generalize prinS (l, r) = ps at *
 change List ByteArray at l
 refine q0e rfl rfl ?_
 refine rQ fi156 ?_
 refine q0a hv ?_
 refine gQ ?_
 refine ⟨fun h => ?_, fun h => ?_⟩
 · rw [h]; exact ⟨rfl, rfl⟩
 have hl4 : l.length ≤ 4 := hv4 h
 subst h
 refine q1U 4 (.slice .u8) (strsN l) (fun i => [(13, rI i)]) l.length (fun _ => True) rfl (by simp) (by simp [strsN]) rfl (fun i => rfl) ?_ fun i hi _ => ?_
 · with_reducible refine sxE ?_; trivial
 have hwr := wsx i (by omega)
 have hln := q9f hi
 by_cases hlt : i < l.length
 · refine gQ ?_
   refine ⟨fun _ => ⟨⟨by omega, hlt⟩, q0a (q6b _ (hok hlt)) ?_⟩, fun h => absurd hlt h⟩
   refine gQ ?_
   have hst := q7g hlt
   refine ⟨⟨by omega, by omega⟩, q1b [_, _] [] hlt trivial (by rw [hst]; rfl) ?_⟩
   with_reducible refine sx3 hwr hst ?_; trivial
 obtain rfl : i = l.length := by omega
 refine q1t 1 rfl rfl (by omega) ?_ ?_ ?_
 · with_reducible refine sxE ?_; trivial
 · with_reducible refine sxE ?_
   exact Nat.le_refl _
 with_reducible refine sxE ?_
 rw [List.take_of_length_le (Nat.le_refl _)]
 refine gQ ?_
 refine ⟨fun h => absurd h hlt, fun _ => q0b (q1Z _ (by omega)) ?_⟩
 refine gQ ?_
 refine q0b (q0D _ _) ?_
 refine gQ ?_
 refine q0b (q6b r hr) ?_
 refine gQ ?_
 refine q0b (q0D _ _) ?_
 refine gQ ?_
 refine q0R 2 (by decide) ?_
 with_reducible refine sxE ?_
 refine q0b (q1Z _ (by simp)) ?_
 refine gQ ?_
 exact hps.symm
def mapN {t : Ty} (w : t.den → List UInt8) (l : List t.den) (i : Nat) : List (List UInt8) := (l.take i).map w
theorem q6G {t : Ty} {w : t.den → List UInt8} {l : List t.den} {i : Nat} (h : i < l.length) : mapN w l (i + 1) = mapN w l i ++ [w (l.getD i t.dflt)] := by unfold mapN; rw [q0z (d := t.dflt) h]; simp
theorem q8n {t : Ty} {w : t.den → List UInt8} {l : List t.den} {i : Nat} (h : i ≤ l.length) : (mapN w l i).length = i := by simp [mapN]; omega
def prinE (p : Prin) : List UInt8 := if vPrin p then prinS p else []
end Go.Proofs.YtcjehhejgimmdaaGreatDoor
set_option linter.unusedSectionVars false
namespace Go.Sx
open Go
variable [Ghost] {P : Program} {AQ : Ex → List SV → List SObj → Prop} {k0 : Nat} {k : List IT} {t : List SV} {H : List SObj}

structure Cln (cs : List SV) : Prop where
 ren : ∀ σ, SV.renL σ cs = cs
 bel : ∀ n, SV.belL n cs = true
 shut : ∀ n H, SV.sealBL n H cs = some (cs, True)
 le : SV.leAL cs cs
theorem q0I : Cln [] := ⟨fun _ => by rw [SV.renL], fun _ => by rw [SV.belL], fun _ _ => by rw [SV.sealBL], by rw [z2g]; trivial⟩
theorem q0d {v : Value} {cs : List SV} (h : Cln cs) : Cln (.raw v :: cs) :=
 ⟨fun σ => by rw [SV.renL, h.ren, SV.ren], fun n => by rw [SV.belL, h.bel, SV.bel]; rfl, fun n H => by rw [SV.sealBL, h.shut, SV.sealB]; simp, by rw [q3B]; exact ⟨by rw [z4K], h.le⟩⟩
theorem q0O {t : Ty} {xs : List t.den} {cs : List SV} (h : Cln cs) : Cln (.isl t xs :: cs) :=
 ⟨fun σ => by rw [SV.renL, h.ren, SV.ren], fun n => by rw [SV.belL, h.bel, SV.bel]; rfl, fun n H => by rw [SV.sealBL, h.shut, SV.sealB]; simp, by rw [q3B]; exact ⟨by rw [z5S], h.le⟩⟩
theorem z8P {f : Nat} {cs : List SV} (h : Cln cs) : Cln (.fn f [] [] :: cs) :=
 ⟨fun σ => by rw [SV.renL, h.ren, SV.ren, SV.renL], fun n => by rw [SV.belL, h.bel, SV.bel]; rfl, fun n H => by rw [SV.sealBL, h.shut, SV.sealB]; simp [SV.sealBL], by rw [q3B]; exact ⟨by rw [z9c]; exact ⟨rfl, rfl, rfl⟩, h.le⟩⟩
theorem q6H : ∀ (t : Ty) (x : t.den) {cs : List SV}, Cln cs → Cln (t.cells x ++ cs)
 | .u8, _, _, h => q0d h
 | .int _, _, _, h => q0d h
 | .bool, _, _, h => q0d h
 | .str, _, _, h => q0d h
 | .slice _, _, _, h => q0O h
 | .prod a b, x, _, h => by rw [Ty.cells, List.append_assoc]; exact q6H a x.1 (q6H b x.2 h)
 | .unit, _, _, h => h
theorem z2E (t : Ty) (x : t.den) : Cln (t.cells x) := by have := q6H t x q0I; rwa [List.append_nil] at this
theorem z2W {n : Nat} {l : List SObj} : sealHL n H l [] = True := by simp [sealHL]
theorem z0O {n : Nat} {o : SObj} {l l' : List SObj} : sealHL n H (o :: l) (.dead :: l') = (o.unmarked ∧ sealHL n H l l') := by simp [sealHL]
attribute [go_sem] z2W z0O
end Go.Sx
set_option linter.unusedSectionVars false
namespace Go.Sx
open Go
variable [Ghost] {P : Program} {AQ : Ex → List SV → List SObj → Prop} {k0 : Nat} {k : List IT} {t : List SV} {H : List SObj}

def afterR (P : Program) (AQ : Ex → List SV → List SObj → Prop) (d : Option Tmp) (m : IM) : Out → List SObj → Prop
 | .ret s, H' => SoundI P AQ { m with tmps := putT m.tmps d s, heap := H' }
 | .pan s, H' => AQ (.pan s) [] H'
theorem q0j {G : List Nat} {f : FuncId} {args args0 : List SV} {H0 H1 : List SObj} {o : Out} {d : Option Tmp} {m : IM} (hs : List Nat) (hp : PE P f args0 H0 o H1) (hargs : args = SV.renL (sig hs m.heap.length) args0) (hnd : hs.Nodup)
 (ha : atH (sig hs m.heap.length) m.heap hs H0) (hb : SV.belL H0.length args0 = true) (hbh : belH H0.length H0 = true) (hG : SameG G m.heap (mgA (sig hs m.heap.length) hs H1 m.heap))
 (h : afterR P AQ d m (o.ren (sig hs m.heap.length)) (mgA (sig hs m.heap.length) hs H1 m.heap)) : CallR P AQ G f args d m := by
 subst hargs
 refine ⟨hp.1, VCall.g (VCall.fr hs hnd ha hb hbh hp.2 ?_)⟩
 rintro o' H' _ ⟨rfl, rfl⟩
 cases o' with
 | ret s => exact ⟨fun _ => hG, h⟩
 | pan s => exact h

theorem z4I {C : Cx} {h : Nat} {T : TypeId} {cs cs' : List SV} (hw : Wd C H) (hH : H[h]? = some (.cells T cs)) (hd : ∀ vs, SV.denL C cs vs → SV.denL C cs' vs) : Wd C (H.set h (.cells T cs')) ∧ Ext ⟨C, H⟩ C (H.set h (.cells T cs')) := by
 have hget : ∀ {i y}, (H.set h (.cells T cs'))[i]? = some y → ∃ y', H[i]? = some y' ∧ y'.live = y.live ∧ (i ≠ h → y' = y) := fun {i y} hy => by
  by_cases e : i = h
  · subst e
    rw [List.getElem?_set_self (List.getElem?_eq_some_iff.1 hH).1] at hy
    cases hy
    exact ⟨_, hH, rfl, fun hn => absurd rfl hn⟩
  rw [List.getElem?_set_ne (Ne.symm e)] at hy
  exact ⟨y, hy, rfl, fun _ => rfl⟩
 have hown : ∀ b, OwnB C (H.set h (.cells T cs')) b → OwnB C H b := fun b ⟨i, y, hy, hl, hb⟩ => by
  obtain ⟨y', h1, h2, _⟩ := hget hy
  exact ⟨i, y', h1, by rw [h2]; exact hl, hb⟩
 refine ⟨⟨by rw [List.length_set]; exact hw.n, fun i y hy => ?_, fun b hb => hw.own b (hown b hb), fun i j y z b hy hz hl hl' hb hb' => ?_, hw.imm⟩, ⟨Evo.refl _, Nat.le_refl _, rfl, rfl, rfl, fun _ _ _ => rfl, fun _ h => .inl h, fun b hb => .inr (hown b hb), fun _ _ hm => q3P hH rfl hm⟩⟩
 · by_cases e : i = h
   · subst e
     rw [List.getElem?_set_self (List.getElem?_eq_some_iff.1 hH).1] at hy
     cases hy
     obtain ⟨b, vs, h1, h2, h3⟩ := hw.obj i _ hH
     exact ⟨b, vs, h1, h2, hd vs h3⟩
   rw [List.getElem?_set_ne (Ne.symm e)] at hy
   exact hw.obj i y hy
 obtain ⟨y', h1, h2, _⟩ := hget hy
 obtain ⟨z', h3, h4, _⟩ := hget hz
 exact hw.inj i j y' z' b h1 h3 (by rw [h2]; exact hl) (by rw [h4]; exact hl') hb hb'
theorem q7J {P : Program} {k : List It} {tm : List SV} (h off : Nat) (ty : Ty) {T : TypeId} {cs : List SV} (hH : H[h]? = some (.cells T cs)) (hi : cs[off]? = some (.raw (.slice none 0 0))) (hs : Sound P AQ ⟨k0, k, tm, (H.set h (.cells T (cs.set off (.bld H.length ty 0)))) ++ [.row ty []]⟩) : Sound P AQ ⟨k0, k, tm, H⟩ := by
 intro E r n C a h0 hd
 obtain ⟨C', hw, g1, g2, g3⟩ := z0p (t := ty) hd.wd
 have hH' : (H ++ [SObj.row ty []])[h]? = some (.cells T cs) := by rw [List.getElem?_append_left (List.getElem?_eq_some_iff.1 hH).1]; exact hH
 obtain ⟨q1, q2⟩ := z4I (cs' := cs.set off (.bld H.length ty 0)) g1 hH' (fun vs hv => by
  obtain ⟨v, hv', hd'⟩ := q2L hv hi
  rw [SV.den] at hd'
  subst hd'
  have := q4H (i := off) hv g3
  have he : vs.set off (.slice none 0 0) = vs := by
   apply List.ext_getElem?
   intro j
   by_cases e : j = off
   · subst e
     rw [List.getElem?_set_self (List.getElem?_eq_some_iff.1 hv').1, hv']
   rw [List.getElem?_set_ne (Ne.symm e)]
  rwa [he] at this)
 have hset : (H ++ [SObj.row ty []]).set h (.cells T (cs.set off (.bld H.length ty 0))) = H.set h (.cells T (cs.set off (.bld H.length ty 0))) ++ [.row ty []] := List.set_append_left _ _ (List.getElem?_eq_some_iff.1 hH).1
 rw [hset] at q1 q2
 have := hs E r n C' a h0 ⟨q1, hd.ext.trans (g2.trans q2), DefOk.next (g2.trans q2) hd.defs, q0u g2.evo hd.tmps⟩
 rw [← hw]; exact this
theorem q3S (h off : Nat) (ty : Ty) {T : TypeId} {cs : List SV} {td : List IT} (hp : plainT td = true) (hH : H[h]? = some (.cells T cs)) (hi : cs[off]? = some (.raw (.slice none 0 0))) (hs : SoundI P AQ ⟨k0, td, t, (H.set h (.cells T (cs.set off (.bld H.length ty 0)))) ++ [.row ty []]⟩) : SoundI P AQ ⟨k0, td, t, H⟩ :=
 q0i (fun _ hr => q7J h off ty hH hi (q0m hs hr)) hp
theorem rnE {p q : Prop} (h : q) (e : p = q := by (simp only [afterR, Out.ren, SV.ren, mgA, sig, SObj.ren, SV.renL, List.cons_append, List.nil_append, List.append_assoc, List.set_cons_zero, List.set_cons_succ, List.set, List.map, List.append_nil]; rfl)) : p := Eq.mpr e h
theorem rsE {p : Prop} (e : p = True := by (simp (maxSteps := 3000000) only [mgA, sig, q0Z, q1l, go_sem, ↓zA, ↓reduceIte, ↓reduceDIte] <;> try simp only [zB])) : p := of_eq_true e
end Go.Sx
set_option linter.unusedSectionVars false
namespace Go.Sx
open Go
variable [Ghost] {P : Program} {AQ : Ex → List SV → List SObj → Prop} {k0 : Nat} {k : List IT} {t : List SV} {H : List SObj}

theorem q8g {P : Program} {k : List It} (A A' G : List SObj) {ty : Ty} {xs : List ty.den} (hk : k0 ≤ A.length) (hA : A = A'.map (SObj.ren (shift A.length (A.length + G.length)))) (hb : belH (A.length + 1) A' = true) (hbt : SV.belL (A.length + 1) t = true)
 (hl : leT (shift A.length (A.length + G.length)) t t) (hs : Sound P AQ ⟨k0, k, t, A' ++ [.row ty xs]⟩) : Sound P AQ ⟨k0, k, t, A ++ G ++ [.row ty xs]⟩ := by
 intro E r n C a h0 hd
 have hlen : A.length = A'.length := by have := congrArg List.length hA; rwa [List.length_map] at this
 have hsh : ∀ h, h < A.length → shift A.length (A.length + G.length) h = h := fun h hh => by unfold shift; rw [if_neg (by omega)]
 have hshn : shift A.length (A.length + G.length) A.length = A.length + G.length := by unfold shift; rw [if_pos rfl]
 have hd' : Den E (C.ren (shift A.length (A.length + G.length)) (A' ++ [SObj.row ty xs]).length) t (A' ++ [.row ty xs]) a := by
  refine q8W h0.1 hd hl (by rw [List.length_append, ← hlen]; exact hbt) (fun h o ho _ => ?_) (q4U fun h o ho => ?_) (fun h h' o o' ho ho' _ _ e => ?_) (fun h hh => hsh h (Nat.lt_of_lt_of_le hh hk)) (by rw [List.length_append, ← hlen]; exact Nat.le_trans hk (Nat.le_add_right _ _)) (fun m hm0 hm => ?_)
  · rcases q0r ho with ⟨hh, ho⟩ | ⟨hh, rfl⟩
    · rw [hsh h (by omega), List.append_assoc, List.getElem?_append_left (by omega)]
      have := congrArg (fun l => l[h]?) hA
      simp only [List.getElem?_map, ho] at this
      exact this
    rw [hh, ← hlen, hshn, ← List.length_append, List.getElem?_append_right (Nat.le_refl _), Nat.sub_self]
    rfl
  · rcases q0r ho with ⟨hh, ho⟩ | ⟨hh, rfl⟩
    · rw [List.length_append, ← hlen]
      exact q2H hb ho
    rfl
  · have h1 := (List.getElem?_eq_some_iff.1 ho).1
    have h2 := (List.getElem?_eq_some_iff.1 ho').1
    rw [List.length_append, List.length_singleton] at h1 h2
    unfold shift at e
    split at e <;> split at e <;> omega
  have hm := hm
  have hpos : 0 < A.length := Nat.lt_of_lt_of_le hm0 (Nat.le_trans h0.1 hk)
  rw [List.append_assoc, List.getElem?_append_left hpos] at hm
  rw [List.getElem?_append_left (by omega)]
  have h1 := congrArg (fun l => l[0]?) hA
  simp only [List.getElem?_map, hm] at h1
  cases h2 : A'[0]? with
  | none => rw [h2] at h1; simp at h1
  | some o => rw [h2] at h1; cases o <;> simp [SObj.ren] at h1; rw [h1]
 exact hs E r n (C.ren (shift A.length (A.length + G.length)) (A' ++ [SObj.row ty xs]).length) a h0 hd'
theorem z2Q (A A' G : List SObj) {ty : Ty} {xs : List ty.den} {td : List IT} (hp : plainT td = true) (hH : H = A ++ G ++ [.row ty xs]) (hk : k0 ≤ A.length) (hA : A = A'.map (SObj.ren (shift A.length (A.length + G.length)))) (hb : belH (A.length + 1) A' = true) (hbt : SV.belL (A.length + 1) t = true)
 (hl : leT (shift A.length (A.length + G.length)) t t) (hs : SoundI P AQ ⟨k0, td, t, A' ++ [.row ty xs]⟩) : SoundI P AQ ⟨k0, td, t, H⟩ := by
 subst hH
 exact q0i (fun _ hr => q8g A A' G hk hA hb hbt hl (q0m hs hr)) hp
end Go.Sx
set_option linter.unusedSectionVars false
namespace Go.Sx
open Go
variable {P : Program} {AQ : Ex → List SV → List SObj → Prop} {k0 : Nat} {k : List IT} {t : List SV} {H : List SObj}

def CutQ (P : Program) (AQ : Ex → List SV → List SObj → Prop) (k0 : Nat) (k : List IT) (T0 : List SV) : Ex → List SV → List SObj → Prop
 | .normal, t, H => SoundI P AQ ⟨k0, k, t, H⟩
 | .pan s, _, H => AQ (.pan s) T0 H
 | _, _, _ => False
theorem z8F {T0 : List SV} (h : SoundI P AQ ⟨k0, k, t, H⟩) : CutQ P AQ k0 k T0 .normal t H := h
theorem z5g {T0 t' : List SV} {s : SV} (h : AQ (.pan s) T0 H) : CutQ P AQ k0 k T0 (.pan s) t' H := h
def SameBut (ws : List Nat) (t t' : List SV) : Prop := t'.length = t.length ∧ ∀ i, i ∉ ws → t'[i]? = t[i]?
theorem SameBut.put {ws : List Nat} {t t' : List SV} (h : SameBut ws t t') {d : Option Tmp} (hd : ∀ e, d = some e → e ∈ ws) (s : SV) : SameBut ws t (putT t' d s) := by
 cases d with
 | none => exact h
 | some e => exact ⟨by simp [putT, h.1], fun i hi => by
  have hne : e ≠ i := fun e' => hi (e' ▸ hd e rfl)
  simp only [putT]
  rw [List.getElem?_set_ne hne]
  exact h.2 i hi⟩
theorem q9U : ∀ (ws : List Nat) (t : List SV), (maskT ws t).length = t.length
 | [], t => rfl
 | d :: ws, t => by
  show (maskT ws (t.set d .any)).length = _
  rw [q9U ws, List.length_set]
theorem z2e : ∀ (ws : List Nat) (t : List SV) (i : Nat) (s : SV), (maskT ws t)[i]? = some s → s = .any ∨ (i ∉ ws ∧ t[i]? = some s)
 | [], t, i, s, h => .inr ⟨by simp, h⟩
 | d :: ws, t, i, s, h => by
  have h' : (maskT ws (t.set d .any))[i]? = some s := h
  rcases z2e ws _ i s h' with rfl | ⟨h1, h2⟩
  · exact .inl rfl
  by_cases e : d = i
  · subst e
    rw [List.getElem?_set] at h2
    simp at h2
    exact .inl h2.2.symm
  rw [List.getElem?_set_ne e] at h2
  exact .inr ⟨by simp [h1]; exact fun q => e q.symm, h2⟩
theorem z5Z : ∀ {l l' : List SV}, l.length = l'.length → (∀ (i : Nat) s s', l[i]? = some s → l'[i]? = some s' → s' = .any ∨ s' = s) → leL l l'
 | [], [], _, _ => trivial
 | [], _ :: _, h, _ => by simp at h
 | _ :: _, [], h, _ => by simp at h
 | s :: l, s' :: l', h, hp => by
  refine ⟨?_, z5Z (by simpa using h) fun i x x' hx hx' => hp (i + 1) x x' (by simpa using hx) (by simpa using hx')⟩
  rcases hp 0 s s' rfl rfl with rfl | rfl
  · exact SV.le_any s
  exact SV.le_refl _
theorem SameBut.le {ws : List Nat} {t t' : List SV} (h : SameBut ws t t') : leL t' (maskT ws t) :=
 z5Z (by rw [q9U, h.1]) fun i s s' hs hs' => by
  rcases z2e ws t i s' hs' with rfl | ⟨h1, h2⟩
  · exact .inl rfl
  right
  rw [h.2 i h1, h2] at hs
  cases hs; rfl
theorem z7H {k : List It} {all : Array Oper} {G : List Nat} {kI : List IT} {ws : List Nat} {S : Array Bool} {t0 : List SV} (hr : RelT P kI k) (hS : Region.ready .any all S = []) (hW : ∀ (i : Nat) o, all[i]? = some o → S.getD i false = true → ∀ d, o.dst = some d → d ∈ ws) :
 ∀ (fuel : Nat) (listed : Array Bool) (t : List SV) (H : List SObj), SameBut ws t0 t → listed.size = S.size → (∀ j, listed.getD j false = true → S.getD j false = true) → AnyV P (CutQ P AQ k0 kI (maskT ws t0)) k0 [] all G fuel listed t H →
  ∀ (E : EnD) (r : Option Nat) (n : Nat) (C : Cx) (a : Act), Fit E r k0 → Den E C t H a → wpAnyIn (Fw r) n P .any all (afterT (Fw r) n P E (conc E AQ) k) fuel listed a C.w := by
 have leaf : ∀ {t : List SV} {H : List SObj}, Sound P (CutQ P AQ k0 kI (maskT ws t0)) ⟨k0, [], t, H⟩ → ∀ (E : EnD) (r : Option Nat) (n : Nat) (C : Cx) (a : Act), Fit E r k0 → Den E C t H a → wpT (Fw r) n P E (conc E AQ) k a C.w := by
  intro t H h E r n C a h0 hd
  have h1 := h E r n C a h0 hd
  simp only [wpT] at h1
  obtain ⟨C', t', H', h2, h3, h4⟩ := h1
  rw [← h3]
  exact q0m (h2 : SoundI P AQ ⟨k0, kI, t', H'⟩) hr E r n C' a h0 h4
 intro fuel
 induction fuel with
 | zero => exact fun listed t H _ _ _ h E r n C a h0 hd => ⟨h.1, leaf h.2 E r n C a h0 hd⟩
 | succ fuel ih =>
  intro listed t H hb hsz hsub h E r n C a h0 hd
  refine ⟨fun h9 => leaf (h.1 h9) E r n C a h0 hd, fun i hi => ?_⟩
  obtain ⟨o, ho, h1⟩ := h.2 i hi
  obtain ⟨hun, o', ho', hall⟩ := mem_ready.1 hi
  have hlt : i < S.size := by
   rcases Nat.lt_or_ge i listed.size with q | q
   · omega
   simp [Array.getElem?_eq_none q] at hun
  have hiS : S.getD i false = true := by
   cases hq : S.getD i false with
   | true => rfl
   | false =>
    have : i ∈ Region.ready .any all S := mem_ready.2 ⟨by simp [hlt] at hq ⊢; exact hq, o', ho', fun e he hb' => hsub _ (hall e he hb')⟩
    rw [hS] at this
    cases this
  have hwd : ∀ d, o.dst = some d → d ∈ ws := hW i o ho hiS
  have hsub' : ∀ j, (listed.setIfInBounds i true).getD j false = true → S.getD j false = true := fun j hj => by
   by_cases e : i = j
   · subst e; exact hiS
   rw [getD_set_ne false e] at hj; exact hsub j hj
  have hsz' : (listed.setIfInBounds i true).size = S.size := by simpa using hsz
  unfold wpOpIn
  simp only [ho]
  rcases h1 with ⟨hw, hop⟩ | ⟨hw, hk⟩
  · rw [if_pos (q2v hd.tmps hw)]
    refine hop E C r n a _ _ hd.wd hd.defs.2 (fun x _ => q3o hd.tmps x) ?_ ?_
    · intro s v H' C' hk hw' hx hs
      exact ih _ _ _ (hb.put hwd s) hsz' hsub' hk.2 E r n C' _ h0 (q3R hd hw' hx hs)
    intro s v H' C' hk hw' hx hs
    exact ⟨C', maskT ws t0, H', s, v, hk, rfl, hs, rfl, hw', hx.ext hd.ext, (DefOk.stp hx hd.defs).fin, .inr (q4g hb.le (q0u hx.evo hd.tmps))⟩
  rw [if_neg (by rw [q2v hd.tmps hw]; simp)]
  exact ⟨fun f _ => q6B r f, ih _ _ _ (hb.put hwd _) hsz' hsub' hk.2 E r n C _ h0 (q3R hd hd.wd (.of (Ext.refl _ _)) (by rw [SV.den]; rfl))⟩
theorem q9F {all : Array Oper} : ∀ (fuel : Nat) (listed : Array Bool) (l : List (Bool × OpI)), planL P all fuel listed = some l →
 ∃ S : Array Bool, Region.ready .any all S = [] ∧ S.size = listed.size ∧ (∀ j, listed.getD j false = true → S.getD j false = true) ∧ ∀ i, S.getD i false = true → listed.getD i false = true ∨ ∃ o, all[i]? = some o ∧ ∀ d, o.dst = some d → d ∈ IC.wr (.drw l)
 | 0, listed, l, h => by
  unfold planL at h
  split at h
  · rename_i he
    exact ⟨listed, by simpa using he, rfl, fun _ h => h, fun _ h => .inl h⟩
  cases h
 | n + 1, listed, l, h => by
  unfold planL at h
  split at h
  · rename_i he
    exact ⟨listed, by simpa using he, rfl, fun _ h => h, fun _ h => .inl h⟩
  split at h
  · rename_i i fl hch
    split at h
    · rename_i o ho
      split at h
      · rename_i io hco
        split at h
        · rename_i l' hl'
          split at h
          · cases h
            obtain ⟨S, h1, h2, h3, h4⟩ := q9F n _ l' hl'
            refine ⟨S, h1, by simpa using h2, fun j hj => h3 j (getD_set_true hj), fun j hj => ?_⟩
            rcases h4 j hj with q | ⟨o', q1, q2⟩
            · by_cases e : i = j
              · subst e
                refine .inr ⟨o, ho, fun d hd => ?_⟩
                have hio := (q1o hco).2
                simp only [IC.wr, List.flatMap_cons, List.mem_append]
                left
                unfold OpI.wr
                split <;> simp [hio, hd]
              rw [getD_set_ne false e] at q
              exact .inl q
            refine .inr ⟨o', q1, fun d hd => ?_⟩
            have := q2 d hd
            simp only [IC.wr, List.flatMap_cons, List.mem_append] at this ⊢
            exact .inr this
          cases h
        cases h
      cases h
    cases h
  cases h
theorem q7M {l : List (Bool × OpI)} (G : List Nat) (hm : P.follows .mixedOrders = true) (h : SoundI P (CutQ P AQ k0 k (maskT (IC.wr (.drw l)) t)) ⟨k0, [.dops G l], t, H⟩) : SoundI P AQ ⟨k0, .ic (.drw l) :: k, t, H⟩ := q0i (fun td' hr => by
 obtain ⟨c', r, rfl, hc, hr⟩ := hr
 obtain ⟨id, all, rfl, hl⟩ := q1i hc
 obtain ⟨S, h1, h2, h3, h4⟩ := q9F _ _ _ hl
 intro E r' n C a h0 hd
 simp only [wpT]
 have hd' : Den E C.drew t H a := ⟨q3L hd.wd, hd.ext.trans (q2M C H), DefOk.next (q2M C H) hd.defs, q0u (q2K C) hd.tmps⟩
 have hno : ∀ j, (Array.replicate all.size false).getD j false = true → False := fun j hj => by
  rcases Nat.lt_or_ge j all.size with q | q
  · simp [q] at hj
  simp [q] at hj
 refine wpIn_region_any hm (z7H hr h1 (fun i o ho hi d hd => ?_) _ _ _ _ ⟨rfl, fun _ _ => rfl⟩ h2.symm h3 (h all _ _ [] hl rfl) E r' n C.drew a h0 hd')
 rcases h4 i hi with q | ⟨o', q1, q2⟩
 · exact (hno i q).elim
 rw [ho] at q1; cases q1
 exact q2 d hd) rfl
end Go.Sx
