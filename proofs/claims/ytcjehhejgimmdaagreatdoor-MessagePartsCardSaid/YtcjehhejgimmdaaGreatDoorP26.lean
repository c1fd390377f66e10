/- Contracts: addresses. -/
import Derived.Test.YtcjehhejgimmdaaGreatDoorP25
import Derived.Test.YtcjehhejgimmdaaGreatDoorP14
import Derived.Test.YtcjehhejgimmdaaGreatDoorP23
import Derived.Test.YtcjehhejgimmdaaGreatDoorP22
import Derived.Test.YtcjehhejgimmdaaGreatDoorP21
import Derived.Test.YtcjehhejgimmdaaGreatDoorP16
import Derived.Test.YtcjehhejgimmdaaGreatDoorP24
set_option linter.all false
namespace Go.Proofs.YtcjehhejgimmdaaGreatDoor
open Go Go.Sx Go.Proofs
set_option maxRecDepth 100000
set_option maxHeartbeats 4000000
def StrE (k : Nat) (s : SV) : Prop := ∃ str : ByteArray, str.size ≤ k ∧ s = rS str
theorem q7z {k : Nat} : ∀ s, StrE k s → s.clean = true := by rintro _ ⟨s, _, rfl⟩; rfl
theorem j0H (g : List UInt8) (hg : g.length = 1) : PCE Tryz.prog 296 [.isl .u8 g] (StrE 65) := by
 refine q4a rfl q7z ?_
 refine rQ fi296 ?_
 refine ⟨by omega, ?_⟩
 generalize g.getD 0 Ty.u8.dflt = x
 have hx := UInt8.toNat_lt x
 rw [show IntKind.i64.wrap (x.toNat : Int) = ((x.toNat : Nat) : Int) from wrapi (by omega)]
 refine q0a (j1I _ (UInt8.toNat_lt _)) ?_
 refine gQ ?_
 exact ⟨_, ⟨_, Nat.le_trans (z3a _ (UInt8.toNat_lt _)) (by decide), rfl⟩, rfl⟩
theorem or8 (a b : UInt8) : ∃ n : Nat, n < 65536 ∧ IntKind.u64.wrap ((BitVec.ofInt 64 (IntKind.u64.wrap (IntKind.u64.wrap (a.toNat : Int) * 2 ^ min 8 64)) ||| BitVec.ofInt 64 (IntKind.u64.wrap (b.toNat : Int))).toNat : Nat) = ((n : Nat) : Int) := by
 have ha := UInt8.toNat_lt a
 have hb := UInt8.toNat_lt b
 have hw : ∀ x : Int, IntKind.u64.wrap x = x % 18446744073709551616 := fun x => by simp [IntKind.wrap, IntKind.bits, IntKind.signed]
 generalize a.toNat = x at *
 generalize b.toNat = y at *
 have e1 : IntKind.u64.wrap (IntKind.u64.wrap (x : Int) * 2 ^ min 8 64) = ((x * 256 : Nat) : Int) := by
  rw [show (2 : Int) ^ min 8 64 = 256 by decide, hw, hw]; omega
 have e2 : IntKind.u64.wrap (y : Int) = (y : Int) := by rw [hw]; omega
 have e3 : (BitVec.ofInt 64 ((x * 256 : Nat) : Int) ||| BitVec.ofInt 64 (y : Int)).toNat = x * 256 ||| y := by
  rw [BitVec.toNat_or]
  have a : (BitVec.ofInt 64 ((x * 256 : Nat) : Int)).toNat = x * 256 := by rw [BitVec.toNat_ofInt]; omega
  have b : (BitVec.ofInt 64 (y : Int)).toNat = y := by rw [BitVec.toNat_ofInt]; omega
  rw [a, b]
 have l1 : x * 256 ||| y < 2 ^ 16 := Nat.or_lt_two_pow (by omega) (by omega)
 refine ⟨x * 256 ||| y, l1, ?_⟩
 rw [e1, e2, e3, hw]
 generalize x * 256 ||| y = z at *
 omega
theorem z9p (g : List UInt8) (hg : g.length = 2) : PCE Tryz.prog 298 [.isl .u8 g] (StrE 65) := by
 refine q4a rfl q7z ?_
 obtain ⟨n, hn, hv⟩ := or8 (g.getD 0 Ty.u8.dflt) (g.getD 1 Ty.u8.dflt)
 have hc := z8x n hn
 rw [← hv] at hc
 refine rQ fi298 ?_
 refine ⟨by omega, by omega, ?_⟩
 refine z3X hc ?_
 rintro _ ⟨s, hs, rfl⟩
 refine gQ ?_
 exact ⟨_, ⟨_, hs, rfl⟩, rfl⟩
def ListE (n : Nat) (s : SV) : Prop := ∃ l : List ByteArray, l.length = n ∧ (∀ x ∈ l, x.size ≤ 65) ∧ s = .isl .str l
theorem z0Z {n : Nat} : ∀ s, ListE n s → s.clean = true := by rintro _ ⟨s, _, _, rfl⟩; rfl
theorem z1q (b : List UInt8) (size f : Nat) (h1 : 1 ≤ size) (h16 : size ≤ 16) (hb : b.length ≤ 16) (hf : ∀ g : List UInt8, g.length = size → PCE Tryz.prog f [.isl .u8 g] (StrE 65)) :
 PCE Tryz.prog 295 [.isl .u8 b, rI size, .fn f [] []] (ListE (b.length / size)) := by
 refine z7a rfl z0Z ?_
 refine rQ fi295 ?_
 refine q4G 7 .str rfl rfl ?_
 with_reducible refine sxE ?_
 refine q1f (ι := List UInt8 × List ByteArray × List SObj) (fun s => [(0, .isl .u8 s.1), (7, .bld s.2.2.length .str s.2.1.length)]) (fun s => s.2.2 ++ [.row .str s.2.1]) (fun s => s.1.length) (fun s => s.1.length ≤ b.length ∧ s.2.1.length + s.1.length / size = b.length / size ∧ ∀ x ∈ s.2.1, x.size ≤ 65) (b, [], []) ⟨Nat.le_refl _, by simp, by simp⟩ rfl ?_ ?_
 · with_reducible refine sxE ?_; trivial
 rintro ⟨r, acc, G⟩ ⟨g1, g2, g3⟩
 dsimp only at g1 g2 g3
 refine aQ ?_
 have hd : b.length / size ≤ b.length := Nat.div_le_self _ _
 have hacc : acc.length ≤ 16 := Nat.le_trans (Nat.le_trans (Nat.le_add_right _ _) (Nat.le_of_eq g2)) (Nat.le_trans hd hb)
 refine ⟨fun hlt => ⟨⟨by omega, Nat.le_refl _, hlt⟩, q1T (hf _ (List.length_take_of_le hlt)) ?_⟩, fun hge => ?_⟩
 · rintro _ ⟨s, hs, rfl⟩
   refine aQ ?_
   have hd2 : r.length / size = (r.length - size) / size + 1 := Nat.div_eq_sub_div h1 hlt
   refine ⟨by omega, ⟨Nat.le_trans hacc (by decide), Nat.le_trans (Nat.mul_le_mul_right 16 (Nat.succ_le_succ hacc)) (by decide)⟩, ⟨by omega, hlt, Nat.le_refl _⟩, (r.drop size, acc ++ [s], G ++ [.dead, .row .str [s]]), ⟨?_, ?_, fun x hx => ?_⟩, ?_, ?_, ?_⟩
   · dsimp only; rw [List.length_drop]; omega
   · dsimp only; rw [List.length_drop, List.length_append, List.length_singleton]; omega
   · rcases List.mem_append.1 hx with hx | hx
     · exact g3 x hx
     rw [List.mem_singleton.1 hx]; exact hs
   · dsimp only; rw [List.length_drop]; omega
   · simp
   simp (maxSteps := 3000000) only [List.length_append, List.take_length, List.append_assoc, getA, getA0, setA, setA0, List.length_append, Nat.add_assoc, go_sem, ↓zA, ↓reduceIte, ↓reduceDIte] <;> try simp only [zB]
 have hz : r.length / size = 0 := Nat.div_eq_of_lt (by omega)
 refine ⟨.isl .str acc, ⟨acc, by omega, g3, rfl⟩, ?_⟩
 simp (maxSteps := 3000000) only [SealK, SV.sealed, List.append_assoc, getA, getA0, setA, setA0, List.length_append, Nat.add_assoc, go_sem, ↓zA, ↓reduceIte, ↓reduceDIte] <;> try simp only [zB]
 exact ⟨⟨Nat.le_refl _, Nat.le_trans hacc (by decide)⟩, List.take_length⟩
def TxtE (v : Bool) (s : SV) : Prop := ∃ str : ByteArray, s = .tup [rS str, rB v]
theorem q3M {v : Bool} : ∀ s, TxtE v s → s.clean = true := by rintro _ ⟨s, rfl⟩; rfl
theorem z3r (b : List UInt8) : PCE Tryz.prog 266 [.isl .u8 b] (TxtE (decide ((b.length : Int) = 4))) := by
 refine q4a rfl q3M ?_
 by_cases h : (b.length : Int) = 4
 · rw [decide_eq_true h]
   have hg := z1q b 1 296 (by omega) (by omega) (by omega) j0H
   refine q1J fi266 (q0l mixed 600 _ ?_)
   simp (maxSteps := 3000000) only [ir266, h, go_sem, ↓zA, ↓reduceIte, ↓reduceDIte] <;> try simp only [zB]
   refine q1T hg ?_
   rintro _ ⟨l, hl, hx, rfl⟩
   refine gQ ?_
   refine q0a (q8M l _ hx (by omega) (by decide)) ?_
   refine gQ ?_
   exact ⟨_, ⟨_, rfl⟩, rfl⟩
 rw [decide_eq_false h]
 refine q1J fi266 (q0l mixed 600 _ ?_)
 simp (maxSteps := 3000000) only [ir266, h, go_sem, ↓zA, ↓reduceIte, ↓reduceDIte] <;> try simp only [zB]
 exact ⟨_, ⟨_, rfl⟩, rfl⟩
def visAt (l : List UInt8) (j : Nat) : Bool := decide (33 ≤ ((l.getD j Ty.u8.dflt).toNat : Int)) && decide (((l.getD j Ty.u8.dflt).toNat : Int) ≤ 126)
theorem j0Z (l : List UInt8) : visA l = allN l.length (visAt l) := rfl
theorem z3o (b : List UInt8) : PCE Tryz.prog 267 [.isl .u8 b] (TxtE (decide (1 ≤ (b.length : Int)) && (decide ((b.length : Int) ≤ 16) && visA b))) := by
 refine q4a rfl q3M ?_
 rw [j0Z]
 refine rQ fi267 ?_
 refine ⟨fun h1 => ⟨fun h2 => ?_, fun h2 => ?_⟩, fun h1 => ?_⟩
 · rw [decide_eq_false (show ¬ (b.length : Int) ≤ 16 by omega), Bool.false_and, Bool.and_false]
   exact ⟨_, ⟨_, rfl⟩, rfl⟩
 · rw [decide_eq_true (show (1 : Int) ≤ (b.length : Int) by omega), decide_eq_true (show (b.length : Int) ≤ 16 by omega), Bool.true_and, Bool.true_and]
   refine q0W (fun i => [(16, .raw (.int .i64 ((i : Nat) : Int)))]) (b.length) (fun j => (visAt b) j = true) (by first | decide | simp) (fun i => rfl) ?_ fun i hi hall => ?_
   · (with_reducible refine sxE ?_ <;> try exact True.intro)
     all_goals (try rfl)
   have hwr := wsx i (by omega)
   refine gQ ?_
   have bad : i < (b.length) → (visAt b) i = false → allN (b.length) (visAt b) = false := fun hlt hv => q0k hlt hv
   have fin : ¬ i < (b.length) → allN (b.length) (visAt b) = true := fun h => q0p fun j hj => hall j (by omega)
   try dsimp only at bad fin hall
   have hv : visAt b i = (decide (33 ≤ ((b.getD i Ty.u8.dflt).toNat : Int)) && decide (((b.getD i Ty.u8.dflt).toNat : Int) ≤ 126)) := rfl
   refine ⟨fun hlt => ⟨⟨by omega, hlt⟩, fun h33 => ⟨fun h126 => ?_, fun h126 => ⟨hlt, q1c hall ?_, ⟨[], rfl⟩, ?_⟩⟩, fun h33 => ?_⟩, fun hge => ?_⟩
   · rw [bad hlt (by rw [hv, decide_eq_false (Int.not_le.2 h126), Bool.and_false])]
     exact ⟨_, ⟨_, rfl⟩, rfl⟩
   · rw [hv, decide_eq_true (Int.not_lt.1 h33), decide_eq_true (Int.not_lt.1 h126)]; rfl
   · with_reducible refine sx1 hwr ?_; trivial
   · rw [bad hlt (by rw [hv, decide_eq_false (Int.not_le.2 h33), Bool.false_and])]
     exact ⟨_, ⟨_, rfl⟩, rfl⟩
   rw [fin hge]
   have hz : (strOf b).size = b.length := by simp [strOf, ByteArray.size]
   refine ⟨?_, _, ⟨_, rfl⟩, rfl⟩
   rw [hz]
   show 5 + b.length ≤ _
   omega
 rw [decide_eq_false (show ¬ (1 : Int) ≤ (b.length : Int) by omega), Bool.false_and]
 exact ⟨_, ⟨_, rfl⟩, rfl⟩
theorem z2L (b : List UInt8) : PCE Tryz.prog 268 [.isl .u8 b] (TxtE (decide ((b.length : Int) = 16))) := by
 refine q4a rfl q3M ?_
 by_cases h : (b.length : Int) = 16
 · rw [decide_eq_true h]
   have hg := z1q b 2 298 (by omega) (by omega) (by omega) z9p
   refine q1J fi268 (q0l mixed 600 _ ?_)
   simp (maxSteps := 3000000) only [ir268, h, go_sem, ↓zA, ↓reduceIte, ↓reduceDIte] <;> try simp only [zB]
   refine q1T hg ?_
   rintro _ ⟨l, hl, hx, rfl⟩
   have hl8 : l.length = 8 := by omega
   refine gQ ?_
   refine q1f (ι := Nat × Nat × Nat) (fun s => [(5, rI s.2.1), (6, rI s.2.2), (16, rI s.1)]) (fun _ => []) (fun s => 8 - s.1) (fun s => s.1 ≤ 8 ∧ s.2.1 + s.2.2 ≤ 8) (0, 0, 0) ⟨by decide, by decide⟩ rfl ?_ ?_
   · with_reducible refine sxE ?_; trivial
   rintro ⟨i, a, n⟩ ⟨g1, g2⟩
   dsimp only at g1 g2
   have hwi := wsx i (by omega)
   have hwa : IntKind.i64.wrap ((a : Int) + (n : Int)) = ((a + n : Nat) : Int) := wrapi (by omega)
   refine uQ 600 _ ?_
   with_reducible refine sx1 hwa ?_
   refine ⟨fun hlt => ?_, fun hge => ?_⟩
   · refine q1f (ι := Nat) (fun m => [(8, rI (m : Nat))]) (fun _ => []) (fun m => 8 - m) (fun m => i + m ≤ 8) 0 (by omega) rfl ?_ ?_
     · with_reducible refine sxE ?_; trivial
     intro m hm
     have hwm : IntKind.i64.wrap ((i : Int) + (m : Int)) = ((i + m : Nat) : Int) := wrapi (by omega)
     have hwn := wsx m (by omega)
     refine uQ 600 _ ?_
     simp (maxSteps := 3000000) only [hwm, hwn, hwi, go_sem, ↓zA, ↓reduceIte, ↓reduceDIte] <;> try simp only [zB]
     refine ⟨fun h1 => ⟨⟨by omega, h1⟩, fun _ => ?_, fun _ => ⟨fun h2 => ?_, fun h2 => ?_⟩⟩, fun h1 => ⟨fun h2 => ?_, fun h2 => ?_⟩⟩
     · refine ⟨m + 1, by show i + (m + 1) ≤ 8; omega, by show 8 - (m + 1) < 8 - m; omega, rfl, ?_⟩
       with_reducible refine sxE ?_; trivial
     · refine ⟨(i + 1, i, m), ⟨by show i + 1 ≤ 8; omega, by show i + m ≤ 8; omega⟩, by show 8 - (i + 1) < 8 - i; omega, rfl, ?_⟩
       with_reducible refine sxE ?_; trivial
     · refine ⟨(i + 1, a, n), ⟨by show i + 1 ≤ 8; omega, by show a + n ≤ 8; omega⟩, by show 8 - (i + 1) < 8 - i; omega, rfl, ?_⟩
       with_reducible refine sxE ?_; trivial
     · refine ⟨(i + 1, i, m), ⟨by show i + 1 ≤ 8; omega, by show i + m ≤ 8; omega⟩, by show 8 - (i + 1) < 8 - i; omega, rfl, ?_⟩
       with_reducible refine sxE ?_; trivial
     refine ⟨(i + 1, a, n), ⟨by show i + 1 ≤ 8; omega, by show a + n ≤ 8; omega⟩, by show 8 - (i + 1) < 8 - i; omega, rfl, ?_⟩
     with_reducible refine sxE ?_; trivial
   refine ⟨fun h2 => q0a (q8M l _ hx (by omega) (by decide)) ?_, fun h2 => ?_⟩
   · have hj := q4Y l ⟨#[58]⟩ hx
     rw [hl8] at hj
     replace hj : (joinS l ⟨#[58]⟩).size ≤ 528 := hj
     generalize joinS l ⟨#[58]⟩ = J at *
     refine gQ ?_
     refine ⟨by show 1 + J.size ≤ _; omega, by show 1 + J.size + 1 ≤ _; omega, _, ⟨_, rfl⟩, rfl⟩
   have hx1 : ∀ x ∈ l.take a, x.size ≤ 65 := fun x h => hx x (List.mem_of_mem_take h)
   have hx2 : ∀ x ∈ l.drop (a + n), x.size ≤ 65 := fun x h => hx x (List.mem_of_mem_drop h)
   have l1 : (l.take a).length ≤ 16 := by rw [List.length_take]; omega
   have l2 : (l.drop (a + n)).length ≤ 16 := by rw [List.length_drop]; omega
   have c1 := q8M (l.take a) ⟨#[58]⟩ hx1 l1 (by decide)
   have c2 := q8M (l.drop (a + n)) ⟨#[58]⟩ hx2 l2 (by decide)
   have j1 := q4Y (l.take a) ⟨#[58]⟩ hx1
   have j2 := q4Y (l.drop (a + n)) ⟨#[58]⟩ hx2
   replace j1 : (joinS (l.take a) ⟨#[58]⟩).size ≤ 66 * (l.take a).length := j1
   replace j2 : (joinS (l.drop (a + n)) ⟨#[58]⟩).size ≤ 66 * (l.drop (a + n)).length := j2
   generalize joinS (l.take a) ⟨#[58]⟩ = J at *
   generalize joinS (l.drop (a + n)) ⟨#[58]⟩ = K at *
   have ht : List.take l.length l = l := List.take_length
   rw [ht]
   refine ⟨⟨by omega, by omega⟩, ⟨by omega, by omega, Nat.le_refl _⟩, q0b c1 ?_⟩
   refine gQ ?_
   refine ⟨by show 1 + J.size ≤ _; omega, by show 1 + J.size + 2 ≤ _; omega, q0b c2 ?_⟩
   refine gQ ?_
   refine ⟨by show 1 + J.size + 2 + K.size ≤ _; omega, by show 1 + J.size + 2 + K.size + 1 ≤ _; omega, _, ⟨_, rfl⟩, rfl⟩
 rw [decide_eq_false h]
 refine q1J fi268 (q0l mixed 600 _ ?_)
 simp (maxSteps := 3000000) only [ir268, h, go_sem, ↓zA, ↓reduceIte, ↓reduceDIte] <;> try simp only [zB]
 exact ⟨_, ⟨_, rfl⟩, rfl⟩
abbrev kindsA : SV := .imap (some .i64) [.int .i64 2, .int .i64 20, .int .i64 24] [fnV 266, fnV 267, fnV 268]
theorem q5J : PC Tryz.prog 239 [] kindsA := by
 refine q0B rfl rfl (z6o ?_)
 refine rQ fi239 ?_
 exact ⟨_, _, _, [], rfl, rfl⟩
theorem j0F (a : Pre) : PCE Tryz.prog 187 [.agg (PreT.cells a)] (TxtE (vAdr a)) := by
 obtain ⟨k, b⟩ := a
 change Int at k
 refine q4a rfl q3M ?_
 by_cases h4 : k = 2
 · subst h4
   have hv : vAdr (2, b) = decide ((b.length : Int) = 4) := by unfold vAdr; simp
   rw [hv]
   refine rQ fi187 ?_
   refine q0b q5J ?_
   refine gQ ?_
   refine q1T (z3r b) ?_
   rintro _ ⟨s, rfl⟩
   refine gQ ?_
   exact ⟨_, ⟨_, rfl⟩, rfl⟩
 by_cases h20 : k = 20
 · subst h20
   have hv : vAdr (20, b) = (decide (1 ≤ (b.length : Int)) && (decide ((b.length : Int) ≤ 16) && visA b)) := by unfold vAdr; simp
   rw [hv]
   refine rQ fi187 ?_
   refine q0b q5J ?_
   refine gQ ?_
   refine q1T (z3o b) ?_
   rintro _ ⟨s, rfl⟩
   refine gQ ?_
   exact ⟨_, ⟨_, rfl⟩, rfl⟩
 by_cases h24 : k = 24
 · subst h24
   have hv : vAdr (24, b) = decide ((b.length : Int) = 16) := by unfold vAdr; simp
   rw [hv]
   refine rQ fi187 ?_
   refine q0b q5J ?_
   refine gQ ?_
   refine q1T (z2L b) ?_
   rintro _ ⟨s, rfl⟩
   refine gQ ?_
   exact ⟨_, ⟨_, rfl⟩, rfl⟩
 have hv : vAdr (k, b) = false := by unfold vAdr; simp [h4, h20, h24]
 rw [hv]
 refine rQ fi187 ?_
 refine q0b q5J ?_
 refine uQ 600 _ ?_
 simp (maxSteps := 3000000) only [h4, h20, h24, go_sem, ↓zA, ↓reduceIte, ↓reduceDIte] <;> try simp only [zB]
 exact ⟨_, ⟨_, rfl⟩, rfl⟩
theorem z7e (a : Pre) : PC Tryz.prog 118 [.agg (PreT.cells a)] (rB (vAdr a)) := by
 have h := j0F a
 generalize vAdr a = v at *
 obtain ⟨k, b⟩ := a
 refine q0B rfl rfl ?_
 refine rQ fi118 ?_
 refine q1T h ?_
 rintro _ ⟨s, rfl⟩
 refine gQ ?_; trivial
theorem q8c (l : List Pre) : PC Tryz.prog 50 [.isl PreT l] (rB (vAdrs l)) := by
 refine q0B rfl rfl ?_
 refine rQ fi50 ?_
 refine ⟨fun h => ?_, fun h => ?_⟩
 · unfold vAdrs; rw [decide_eq_false (by omega)]; rfl
 have h16 : decide ((l.length : Int) ≤ 16) = true := decide_eq_true (by omega)
 refine q0W (fun i => [(10, .raw (.int .i64 ((i : Nat) : Int)))]) (l.length) (fun j => (adrAt l) j = true) (by first | decide | simp) (fun i => rfl) ?_ fun i hi hall => ?_
 · (with_reducible refine sxE ?_ <;> try exact True.intro)
   all_goals (try rfl)
 have hwr := wsx i (by omega)
 refine gQ ?_
 have bad : i < (l.length) → (adrAt l) i = false → allN (l.length) (adrAt l) = false := fun hlt hv => q0k hlt hv
 have fin : ¬ i < (l.length) → allN (l.length) (adrAt l) = true := fun h => q0p fun j hj => hall j (by omega)
 try dsimp only at bad fin hall
 refine ⟨fun hlt => ⟨⟨by omega, hlt⟩, q0a (z7e _) ?_⟩, fun hge => ?_⟩
 · have hd : adrAt l i = vAdr (l.getD i PreT.dflt) := rfl
   refine gQ ?_
   refine ⟨fun h1 => ?_, fun h1 => ⟨hlt, q1c hall (by rw [hd, h1]), ⟨[_], rfl⟩, ?_⟩⟩
   · unfold vAdrs; rw [bad hlt (by rw [hd, h1]), Bool.and_false]
   with_reducible refine sx1 hwr ?_; trivial
 unfold vAdrs; rw [h16, fin hge]; rfl
theorem z4N (l : List Pre) : PC Tryz.prog 207 [.isl PreT l] (.tup [.isl .u8 (adrS l), rI (if vAdrs l then 0 else 2)]) := by
 have hv := q8c l
 have hd : adrS l = if vAdrs l then dataS l else [] := rfl
 have hl := fun h : vAdrs l = true => (z0C h).1
 rw [hd]
 generalize vAdrs l = v at *
 refine q0e rfl rfl ?_
 refine rQ fi207 ?_
 refine q0a hv ?_
 refine gQ ?_
 refine ⟨fun h => ?_, fun h => ?_⟩
 · rw [h]; exact ⟨rfl, rfl⟩
 have hl := hl h
 rw [h]
 refine q1U 4 PreT (fun i => l.take i) (fun i => [(12, rI i)]) l.length (fun _ => True) rfl (by simp) (by simp) rfl (fun i => rfl) ?_ fun i hi _ => ?_
 · with_reducible refine sxE ?_; trivial
 have hwr := wsx i (by omega)
 have hln : (l.take i).length = i := List.length_take_of_le hi
 refine uQ 600 _ ?_
 with_reducible refine sx1 hln ?_
 refine ⟨fun hlt => ⟨⟨by omega, hlt⟩, ?_⟩, fun hge => ?_⟩
 · have hst := q0z (d := PreT.dflt) hlt
   refine ⟨⟨by omega, by omega⟩, q1b [_, _, _] [] hlt trivial (by rw [hst]; rfl) ?_⟩
   simp (maxSteps := 3000000) only [hwr, hst, List.length_append, hln, go_sem, ↓zA, ↓reduceIte, ↓reduceDIte] <;> try simp only [zB]
 obtain rfl : i = l.length := by omega
 refine q0v 0 ?_
 with_reducible refine sx1 hln ?_
 simp only [List.take_length]
 refine ⟨by omega, Nat.le_refl _, ?_⟩
 refine q0a (z8Y l) ?_
 refine gQ ?_; trivial
theorem j1u (l : List Pre) : PC Tryz.prog 158 [.isl PreT l] (.isl .u8 (adrS l)) := by
 have h := z4N l
 generalize adrS l = w at *
 refine q0e rfl rfl ?_
 refine rQ fi158 ?_
 refine q0a h ?_
 refine gQ ?_; trivial
theorem z3U {α : Type} {q : α → Bool} {x : Except Nat (α × Nat)} {v : α} {m : Nat} (h : chkP q x = .ok (v, m)) : x = .ok (v, m) ∧ q v = true := by
 cases x with
 | error e => cases h
 | ok y =>
  obtain ⟨u, k⟩ := y
  simp only [chkP] at h
  split at h
  · cases h; exact ⟨rfl, by assumption⟩
  cases h
@[go_sem] abbrev rp0 (k : Int) : List SV := [rI k, .raw (.slice none 0 0), .raw (.slice none 0 0), rS ⟨#[]⟩, .raw (.slice none 0 0), rS ⟨#[]⟩, rI 0, rI 0, .raw (.slice none 0 0), rI 0, rI 0, .raw (.slice none 0 0)]
def EffA (f : FuncId) (args : List SV) (b : List UInt8) (n : Nat) : Except Nat (List Pre × Nat) → Prop
 | .ok (l, k) => PE Tryz.prog f args [rdr b n] (.ret (.tup [.isl PreT l, rI 0])) [rdr b (n + k)]
 | .error _ => PE Tryz.prog f args [rdr b n] (.ret (.tup [.isl PreT [], rI 6])) [rdr b n]
theorem z9S (b : List UInt8) (n : Nat) (hn : n ≤ b.length) (hb : b.length ≤ 1099511627776) : EffA 179 [.ptr 0 0] b n (adrP (b.drop n)) := by
 have hc := z0A b n
 have hr := z1M b n hn hb
 unfold adrP
 cases hx : dataP (b.drop n) with
 | error e =>
  have hr' := q5b hr hx
  have he := z2n _ _ hx
  simp only [chkP]
  refine q0c (by simp) ?_
  refine rQ fi179 ?_
  refine eQ [0] (hc) ?_
  refine eQ [0] (hr') ?_
  exact ⟨fun _ => trivial, fun h => absurd h (by omega)⟩
 | ok x =>
  obtain ⟨l, q⟩ := x
  have hr' := q5r hr hx
  have hl16 : l.length ≤ 16 := (q4u (q5C q1R 16) _ l q (by rw [List.length_drop]; omega) hx).1
  have hv := q8c l
  simp only [chkP]
  by_cases hva : vAdrs l = true
  · rw [if_pos hva]
    rw [hva] at hv
    refine q0c (by simp) ?_
    refine rQ fi179 ?_
    refine eQ [0] (hc) ?_
    refine eQ [0] (hr') ?_
    refine q1U 7 PreT (fun i => l.take i) (fun i => [(23, rI i)]) l.length (fun _ => True) rfl (by simp) (by simp) rfl (fun i => rfl) ?_ fun i hi _ => ?_
    · with_reducible refine sxE ?_; trivial
    have hwr := wsx i (by omega)
    have hln : (l.take i).length = i := List.length_take_of_le hi
    by_cases hlt : i < l.length
    · have hst := q0z (d := PreT.dflt) hlt
      refine uQ 600 _ ?_
      with_reducible refine sx1 hln ?_
      refine ⟨fun _ => ⟨⟨by omega, hlt⟩, ⟨by omega, by omega⟩, q1b [_, _, _] [] hlt trivial (by rw [hst]; rfl) ?_⟩, fun h => absurd hlt h⟩
      simp (maxSteps := 3000000) only [hwr, hst, List.length_append, hln, go_sem, ↓zA, ↓reduceIte, ↓reduceDIte] <;> try simp only [zB]
    obtain rfl : i = l.length := by omega
    have hall : l.take l.length = l := List.take_length
    rw [hall]
    rw [hall] at hln
    refine q1t 2 rfl rfl (by omega) ?_ ?_ ?_
    · with_reducible refine sxE ?_; trivial
    · with_reducible refine sxE ?_
      exact Nat.le_refl _
    with_reducible refine sxE ?_
    rw [List.take_of_length_le (Nat.le_refl _)]
    refine gQ ?_
    refine ⟨fun h => absurd h hlt, fun _ => q0a hv ?_⟩
    refine gQ ?_; trivial
  rw [if_neg hva]
  rw [Bool.eq_false_iff.2 hva] at hv
  refine q0c (by simp) ?_
  refine rQ fi179 ?_
  refine eQ [0] (hc) ?_
  refine eQ [0] (hr') ?_
  refine q1U 7 PreT (fun i => l.take i) (fun i => [(23, rI i)]) l.length (fun _ => True) rfl (by simp) (by simp) rfl (fun i => rfl) ?_ fun i hi _ => ?_
  · with_reducible refine sxE ?_; trivial
  have hwr := wsx i (by omega)
  have hln : (l.take i).length = i := List.length_take_of_le hi
  by_cases hlt : i < l.length
  · have hst := q0z (d := PreT.dflt) hlt
    refine uQ 600 _ ?_
    with_reducible refine sx1 hln ?_
    refine ⟨fun _ => ⟨⟨by omega, hlt⟩, ⟨by omega, by omega⟩, q1b [_, _, _] [] hlt trivial (by rw [hst]; rfl) ?_⟩, fun h => absurd hlt h⟩
    simp (maxSteps := 3000000) only [hwr, hst, List.length_append, hln, go_sem, ↓zA, ↓reduceIte, ↓reduceDIte] <;> try simp only [zB]
  obtain rfl : i = l.length := by omega
  have hall : l.take l.length = l := List.take_length
  rw [hall]
  rw [hall] at hln
  refine q1t 2 rfl rfl (by omega) ?_ ?_ ?_
  · with_reducible refine sxE ?_; trivial
  · with_reducible refine sxE ?_
    exact Nat.le_refl _
  with_reducible refine sxE ?_
  rw [List.take_of_length_le (Nat.le_refl _)]
  refine gQ ?_
  refine ⟨fun h => absurd h hlt, fun _ => q0a hv ?_⟩
  refine gQ ?_; trivial
theorem z7f (v : List Pre) : PC Tryz.prog 178 [.isl PreT v, rI 0] (.isl PreT v) := by
 refine q0e rfl rfl ?_
 refine rQ fi178 ?_
 refine q0h (fun _ => ?_) fun h => absurd h (by decide)
 refine gQ ?_; trivial
theorem z0q (e : Nat) (he : e ≠ 0) : PE Tryz.prog 178 [.isl PreT [], rI e] [] (.pan wrongV) [] := by
 refine q0c (by simp) ?_
 refine rQ fi178 ?_
 refine q0h (fun h => absurd h (by simp; omega)) fun _ => ?_
 with_reducible refine sxE ?_; trivial
theorem z9Q (b : List UInt8) (n : Nat) (hn : n ≤ b.length) (hb : b.length ≤ 1099511627776) (T : TypeId) :
 Eff Tryz.prog 177 [.agg [.ptr 0 0], .ptr 1 0] b n [.cells T [.raw (.slice none 0 0)]] (fun _ => .tup []) (fun l : List Pre => [.cells T [.isl PreT l]]) (adrP (b.drop n)) := by
 have hr := z9S b n hn hb
 cases hx : adrP (b.drop n) with
 | error e =>
  rw [hx] at hr
  have hr' : PE Tryz.prog 179 [.ptr 0 0] [rdr b n] (.ret (.tup [.isl PreT [], rI 6])) [rdr b n] := hr
  refine q0c (by simp) ?_
  refine rQ fi177 ?_
  refine eQ [0] (hr') ?_
  refine effP [] (z0q 6 (by decide)) ?_; trivial
 | ok x =>
  obtain ⟨l, k⟩ := x
  rw [hx] at hr
  have hr' : PE Tryz.prog 179 [.ptr 0 0] [rdr b n] (.ret (.tup [.isl PreT l, rI 0])) [rdr b (n + k)] := hr
  refine q0c (by simp) ?_
  refine rQ fi177 ?_
  refine eQ [0] (hr') ?_
  refine q0a (z7f l) ?_
  refine gQ ?_; trivial
theorem z4R : FitsP adrP := fun r v n h => q1G r v n (z3U (q := vAdrs) (x := dataP r) h).1
theorem j0k (f : Int) : PC Tryz.prog 47 [.raw (.int .u32 f)] (rB (vTkF f)) := by
 refine q0B rfl rfl ?_
 refine rQ fi47 ?_
 refine q0a (j2n _ _) ?_
 refine gQ ?_
 rfl
theorem q9G (v lo hi : Int) : PC Tryz.prog 114 [rI v, rI lo, rI hi] (rB (mIn lo hi v)) := by
 refine q0B rfl rfl ?_
 refine rQ fi114 ?_
 grind [mIn]
theorem q9M (v : Int) : PC Tryz.prog 113 [rI v] (rB (vTime v)) := by
 refine q0B rfl rfl ?_
 refine rQ fi113 ?_
 refine q0a (q9G _ _ _) ?_
 refine gQ ?_
 rfl
theorem z9b (l : List Bool) (hl : l.length ≤ 1125899906842624) : PC Tryz.prog 112 [.isl .bool l] (rB (l.all id)) := by
 refine q0B rfl rfl ?_
 refine rQ fi112 ?_
 refine q0a (q5N l hl) ?_
 refine gQ ?_
 simp
theorem j2C (t : Times) : PC Tryz.prog 48 [.agg (TimesT.cells t)] (rB (vLife t)) := by
 obtain ⟨a, s, d, w⟩ := t
 have hd : vLife (a, s, d, w) = (vTime a && (decide (a ≤ s) && (decide (s < d) && (vTime d && (decide (w = 0) || mIn d 1099511627776 w))))) := rfl
 rw [hd]
 refine q0B rfl rfl ?_
 refine rQ fi48 ?_
 refine q0b (q9M _) ?_
 refine gQ ?_
 refine q0b (q9M _) ?_
 refine gQ ?_
 refine ⟨fun h => ?_, fun h => ?_⟩
 · refine q0b (q9G _ _ _) ?_
   refine gQ ?_
   refine q0R 1 (by decide) ?_
   with_reducible refine sxE ?_
   refine q0b (z9b _ (by simp)) ?_
   refine gQ ?_
   simp [h]
 refine q0R 1 (by decide) ?_
 with_reducible refine sxE ?_
 refine q0b (z9b _ (by simp)) ?_
 refine gQ ?_
 simp [h]
theorem z0s (p : Part) (ho : PartT.ok p) : PC Tryz.prog 10 [.agg (PartT.cells p)] (rB (sPart p)) := by
 obtain ⟨ky, n, e, f, t, q, l⟩ := p
 obtain ⟨o1, _, _, _, _, o6, o7⟩ := ho
 have hd : sPart (ky, n, e, f, t, q, l) = (vKey ky && (decide (ky.2.1 = 0) && (mIn 0 4294967295 n && (vTime e && (vTkF f && (vLife t && (vPrin q && vAdrs l))))))) := rfl
 rw [hd]
 have c1 := z8q ky
 have c6 := j2C t
 have c7 := q2r q o6
 have c8 := q8c l
 refine q0B rfl rfl ?_
 refine rQ fi10 ?_ <;> try with_reducible exact True.intro
 repeat' (first
  | (refine q0a (c1) ?_; refine uQ 600 _ ?_; simp (maxSteps := 3000000) only [go_sem, ↓zA, ↓reduceIte, ↓reduceDIte] <;> try simp only [zB])
  | (refine q0b (c1) ?_; refine uQ 600 _ ?_; simp (maxSteps := 3000000) only [go_sem, ↓zA, ↓reduceIte, ↓reduceDIte] <;> try simp only [zB])
  | (refine q0t (c1) ?_; refine uQ 600 _ ?_; simp (maxSteps := 3000000) only [go_sem, ↓zA, ↓reduceIte, ↓reduceDIte] <;> try simp only [zB])
  | (refine q0a (q3r _ _ _) ?_; refine uQ 600 _ ?_; simp (maxSteps := 3000000) only [go_sem, ↓zA, ↓reduceIte, ↓reduceDIte] <;> try simp only [zB])
  | (refine q0b (q3r _ _ _) ?_; refine uQ 600 _ ?_; simp (maxSteps := 3000000) only [go_sem, ↓zA, ↓reduceIte, ↓reduceDIte] <;> try simp only [zB])
  | (refine q0t (q3r _ _ _) ?_; refine uQ 600 _ ?_; simp (maxSteps := 3000000) only [go_sem, ↓zA, ↓reduceIte, ↓reduceDIte] <;> try simp only [zB])
  | (refine q0a (q2T _) ?_; refine uQ 600 _ ?_; simp (maxSteps := 3000000) only [go_sem, ↓zA, ↓reduceIte, ↓reduceDIte] <;> try simp only [zB])
  | (refine q0b (q2T _) ?_; refine uQ 600 _ ?_; simp (maxSteps := 3000000) only [go_sem, ↓zA, ↓reduceIte, ↓reduceDIte] <;> try simp only [zB])
  | (refine q0t (q2T _) ?_; refine uQ 600 _ ?_; simp (maxSteps := 3000000) only [go_sem, ↓zA, ↓reduceIte, ↓reduceDIte] <;> try simp only [zB])
  | (refine q0a (j0k _) ?_; refine uQ 600 _ ?_; simp (maxSteps := 3000000) only [go_sem, ↓zA, ↓reduceIte, ↓reduceDIte] <;> try simp only [zB])
  | (refine q0b (j0k _) ?_; refine uQ 600 _ ?_; simp (maxSteps := 3000000) only [go_sem, ↓zA, ↓reduceIte, ↓reduceDIte] <;> try simp only [zB])
  | (refine q0t (j0k _) ?_; refine uQ 600 _ ?_; simp (maxSteps := 3000000) only [go_sem, ↓zA, ↓reduceIte, ↓reduceDIte] <;> try simp only [zB])
  | (refine q0a (c6) ?_; refine uQ 600 _ ?_; simp (maxSteps := 3000000) only [go_sem, ↓zA, ↓reduceIte, ↓reduceDIte] <;> try simp only [zB])
  | (refine q0b (c6) ?_; refine uQ 600 _ ?_; simp (maxSteps := 3000000) only [go_sem, ↓zA, ↓reduceIte, ↓reduceDIte] <;> try simp only [zB])
  | (refine q0t (c6) ?_; refine uQ 600 _ ?_; simp (maxSteps := 3000000) only [go_sem, ↓zA, ↓reduceIte, ↓reduceDIte] <;> try simp only [zB])
  | (refine q0a (c7) ?_; refine uQ 600 _ ?_; simp (maxSteps := 3000000) only [go_sem, ↓zA, ↓reduceIte, ↓reduceDIte] <;> try simp only [zB])
  | (refine q0b (c7) ?_; refine uQ 600 _ ?_; simp (maxSteps := 3000000) only [go_sem, ↓zA, ↓reduceIte, ↓reduceDIte] <;> try simp only [zB])
  | (refine q0t (c7) ?_; refine uQ 600 _ ?_; simp (maxSteps := 3000000) only [go_sem, ↓zA, ↓reduceIte, ↓reduceDIte] <;> try simp only [zB])
  | (refine q0a (c8) ?_; refine uQ 600 _ ?_; simp (maxSteps := 3000000) only [go_sem, ↓zA, ↓reduceIte, ↓reduceDIte] <;> try simp only [zB])
  | (refine q0b (c8) ?_; refine uQ 600 _ ?_; simp (maxSteps := 3000000) only [go_sem, ↓zA, ↓reduceIte, ↓reduceDIte] <;> try simp only [zB])
  | (refine q0t (c8) ?_; refine uQ 600 _ ?_; simp (maxSteps := 3000000) only [go_sem, ↓zA, ↓reduceIte, ↓reduceDIte] <;> try simp only [zB])
  | (with_reducible refine And.intro ?_ ?_)
  | (with_reducible intro _))
 all_goals ((simp_all; try grind))
theorem z6b (k : Int) (p : Part) (ho : PartT.ok p) (hf : (0 : Int) ≤ p.2.2.2.1 ∧ p.2.2.2.1 ≤ (4294967295 : Int)) : PC Tryz.prog 32 [rI k, .agg (PartT.cells p)] (.isl .u8 (partS k p)) := by
 obtain ⟨ky, n, e, f, ⟨a, s, d, w⟩, q, l⟩ := p
 obtain ⟨o1, _, _, _, _, o6, o7⟩ := ho
 have hd : partS k (ky, n, e, f, (a, s, d, w), q, l) = wrapS 96 (partN k) (elemS 48 [wrapS 160 0 (keyS ky), wrapS 160 1 (intS n), instS 2 e, wrapS 160 3 (bitsS f), wrapS 160 4 (timeS a), wrapS 160 5 (timeS s), wrapS 160 6 (timeS d), instS 7 w, wrapS 160 8 (prinE q), hostS 9 l (adrS l)]) := rfl
 have ck := j2s ky
 have cl := z5P 9 l (adrS l) o7 fun _ => j1u l
 have cq := q6R q o6
 rw [hd]
 refine q0e rfl rfl ?_
 refine rQ fi32 ?_
 refine q0a (q8r k) ?_
 refine gQ ?_
 refine q0b (ck) ?_
 refine gQ ?_
 refine q0b (q0D _ _) ?_
 refine gQ ?_
 refine q0b (q1a n) ?_
 refine gQ ?_
 refine q0b (q0D _ _) ?_
 refine gQ ?_
 refine q0b (q4J 2 e) ?_
 refine gQ ?_
 refine q0b (z8C f hf) ?_
 refine gQ ?_
 refine q0b (q0D _ _) ?_
 refine gQ ?_
 refine q0b (q7B a) ?_
 refine gQ ?_
 refine q0b (q0D _ _) ?_
 refine gQ ?_
 refine q0b (q7B s) ?_
 refine gQ ?_
 refine q0b (q0D _ _) ?_
 refine gQ ?_
 refine q0b (q7B d) ?_
 refine gQ ?_
 refine q0b (q0D _ _) ?_
 refine gQ ?_
 refine q0b (q4J 7 w) ?_
 refine gQ ?_
 refine q0b (cq) ?_
 refine gQ ?_
 refine q0b (q0D _ _) ?_
 refine gQ ?_
 refine q0b (cl) ?_
 refine gQ ?_
 refine q0R 1 (by decide) ?_
 with_reducible refine sxE ?_
 refine q0b (z4W (partN k) _ (by simp)) ?_
 refine gQ ?_; trivial
theorem z6m (k : Int) (p : Part) (ho : PartT.ok p) : PC Tryz.prog 7 [rI k, .agg (PartT.cells p)] (.tup [.isl .u8 (if vKind k && sPart p then partS k p else []), rI (if vKind k && sPart p then 0 else 2)]) := by
 have h1 := z0s p ho
 have h2 : sPart p = true → PC Tryz.prog 32 [rI k, .agg (PartT.cells p)] (.isl .u8 (partS k p)) := fun h => z6b k p ho (z2v (q2y (ky := p.1) (n := p.2.1) (e := p.2.2.1) (f := p.2.2.2.1) (t := p.2.2.2.2.1) (q := p.2.2.2.2.2.1) (l := p.2.2.2.2.2.2) h).2.2.2.2.1)
 have h3 := q6c k
 generalize partS k p = w at *
 generalize sPart p = s at *
 generalize vKind k = v at *
 obtain ⟨ky, n, e, f, t, q, l⟩ := p
 refine q0e rfl rfl ?_
 refine rQ fi7 ?_
 refine q0a h3 ?_
 refine gQ ?_
 refine ⟨fun hv => ?_, fun hv => ?_⟩
 · subst hv
   refine q0a h1 ?_
   refine gQ ?_
   refine ⟨fun hs => ?_, fun hs => ?_⟩
   · subst hs
     with_reducible refine sxE ?_; trivial
   subst hs
   refine q0a (h2 rfl) ?_
   refine gQ ?_; trivial
 subst hv
 with_reducible refine sxE ?_; trivial
theorem z6V (i : Nat) (hi : i ≤ 30) (b : List UInt8) (n : Nat) (hn : n ≤ b.length) (hb : b.length ≤ 1099511627776) :
 Eff Tryz.prog 100 [.agg [.ptr 0 0], rI i] b n [] (fun l : List Pre => .isl PreT l) (fun _ => []) (dfltP [] i adrP (b.drop n)) := by
 have hc : Cln [.raw (.slice none 0 0)] := q0d q0I
 cases h : nextB i (b.drop n) with
 | false =>
  rw [q3c h]
  have hm := fun T => q3G 177 i hi b n hn T _ hc h
  refine q0c (by simp) ?_
  refine rQ fi100 ?_
  refine eQ [0, 2] (hm _) ?_
  rfl
 | true =>
  rw [q2s h]
  have hg := fun T => z9Q (takeC (b.drop n)) 0 (Nat.zero_le _) (q0V hb) T
  simp only [List.drop_zero] at hg
  have hm := fun T => q4M 177 i hi b n hn hb T _ hc adrP z4R (fun l : List Pre => [.isl PreT l]) (fun v => q0O q0I) (hg T) h
  cases hx : inP (tagB i) adrP (b.drop n) with
  | error e =>
   have hm' := fun T => q0w (hm T) hx
   refine q0c (by simp) ?_
   refine rQ fi100 ?_
   refine effP [0, 2] (hm' _) ?_; trivial
  | ok x =>
   obtain ⟨v, k⟩ := x
   have hm' := fun T => q0q (hm T) hx
   refine q0c (by simp) ?_
   refine rQ fi100 ?_
   refine eQ [0, 2] (hm' _) ?_; trivial
theorem z7s (v : Key) : PC Tryz.prog 93 [.agg (KeyT.cells v), rI 0] (.agg (KeyT.cells v)) := by
 refine q0e rfl rfl ?_
 refine rQ fi93 ?_
 refine q0h (fun _ => ?_) fun h => absurd h (by decide)
 refine gQ ?_; trivial
theorem z0T (e : Nat) (he : e ≠ 0) : PE Tryz.prog 93 [zKey, rI e] [] (.pan wrongV) [] := by
 refine q0c (by simp) ?_
 refine rQ fi93 ?_
 refine q0h (fun h => absurd h (by simp; omega)) fun _ => ?_
 with_reducible refine sxE ?_; trivial
@[go_sem] abbrev ptO (cs : List SV) : SObj := .cells 34 cs
@[go_sem] abbrev pt0 : List SV := [rI 0, rI 0, .raw (.slice none 0 0), rI 0, rI 0, mU 0, rI 0, rI 0, rI 0, rI 0, .raw (.slice none 0 0), rS ⟨#[]⟩, .raw (.slice none 0 0)]
@[go_sem] abbrev pt1 (k : Key) : List SV := [rI k.1, rI k.2.1, .isl .u8 k.2.2, rI 0, rI 0, mU 0, rI 0, rI 0, rI 0, rI 0, .raw (.slice none 0 0), rS ⟨#[]⟩, .raw (.slice none 0 0)]
theorem z4j : Cln pt0 := q0d (q0d (q0d (q0d (q0d (q0d (q0d (q0d (q0d (q0d (q0d (q0d (q0d q0I))))))))))))
theorem z9q (k : Key) : Cln (pt1 k) := q0d (q0d (q0O (q0d (q0d (q0d (q0d (q0d (q0d (q0d (q0d (q0d (q0d q0I))))))))))))
theorem j2g (b : List UInt8) (n : Nat) (hn : n ≤ b.length) (hb : b.length ≤ 1099511627776) :
 Eff Tryz.prog 92 [.agg [.ptr 0 0], .ptr 1 0] b n [ptO pt0] (fun _ => .tup []) (fun k : Key => [ptO (pt1 k)]) (keyP (b.drop n)) := by
 have hr := z9G b n hn hb
 cases hx : keyP (b.drop n) with
 | error e =>
  have hr' := q5b hr hx
  refine q0c (by simp) ?_
  refine rQ fi92 ?_
  refine eQ [0] (hr') ?_
  refine effP [] (z0T e (j0x _ _ hx)) ?_; trivial
 | ok x =>
  obtain ⟨v, k⟩ := x
  have hr' := q5r hr hx
  refine q0c (by simp) ?_
  refine rQ fi92 ?_
  refine eQ [0] (hr') ?_
  refine q0a (z7s _) ?_
  refine gQ ?_; trivial
theorem z0V : FitsP partIn := q0y q0f fun _ => q0y q0f fun _ => q0y q0H fun _ => q0y q0f fun _ => q0y q0f fun _ => q0y q0f fun _ => q0y q0f fun _ => q0y q0H fun _ => q0y q0f fun _ => q0y q0H fun _ => q4k
theorem j2U (b : List UInt8) (n : Nat) (hn : n ≤ b.length) (hb : b.length ≤ 1099511627776) :
 Eff Tryz.prog 90 [.agg [.ptr 0 0], .ptr 1 0] b n [ptO pt0] (fun _ => .tup []) (fun p => [ptO (PartT.cells p)]) (partIn (b.drop n)) := by
 refine q7y (fun _ => Nat.le_refl _) ?_
 obtain ⟨X, hX0⟩ : ∃ X, X = partIn (b.drop n) := ⟨_, rfl⟩
 rw [← hX0]
 have hX := hX0.trans z0z
 clear hX0
 unfold partIn at hX
 refine rQ fi90 ?_
 have c1 := need1 92 0 (by omega) b (n) hn hb 34 _ z4j keyP q1G _ (fun k => z9q k) (by have h := j2g (takeC (b.drop (n))) 0 (Nat.zero_le _) (q0V hb); rwa [List.drop_zero] at h)
 rcases h1 : needP 0 keyP (b.drop (n)) with e | ⟨v1, k1⟩
 · have c1' := q0w c1 h1
   obtain rfl := q0J hX h1
   refine effP [0, 1] (c1') ?_; trivial
 replace hX := q0E hX h1
 have c1' := q0q c1 h1
 have f1 := q0G q0f hn h1
 refine eQ [0, 1] (c1') ?_
 have c2 := z0U 1 (by omega) b (n + k1) f1 hb
 rcases h2 : needP 1 intP (b.drop (n + k1)) with e | ⟨v2, k2⟩
 · have c2' := q0w c2 h2
   obtain rfl := q0J hX h2
   refine effP [0] (c2') ?_; trivial
 replace hX := q0E hX h2
 have c2' := q0q c2 h2
 have f2 := q0G q0f f1 h2
 refine eQ [0] (c2') ?_
 have c3 := q3N 2 (by omega) b (n + k1 + k2) f2 hb
 rcases h3 : dfltP (0 : Nat) 2 timeP (b.drop (n + k1 + k2)) with e | ⟨v3, k3⟩
 · have c3' := q0w c3 h3
   obtain rfl := q0J hX h3
   refine effP [0] (c3') ?_; trivial
 replace hX := q0E hX h3
 have c3' := q0q c3 h3
 have f3 := q0G q0H f2 h3
 refine eQ [0] (c3') ?_
 have c4 := z2k 3 (by omega) b (n + k1 + k2 + k3) f3 hb
 rcases h4 : needP 3 bitsP (b.drop (n + k1 + k2 + k3)) with e | ⟨v4, k4⟩
 · have c4' := q0w c4 h4
   obtain rfl := q0J hX h4
   refine effP [0] (c4') ?_; trivial
 replace hX := q0E hX h4
 have c4' := q0q c4 h4
 have f4 := q0G q0f f3 h4
 refine eQ [0] (c4') ?_
 have c5 := q4n 4 (by omega) b (n + k1 + k2 + k3 + k4) f4 hb
 rcases h5 : needP 4 timeP (b.drop (n + k1 + k2 + k3 + k4)) with e | ⟨v5, k5⟩
 · have c5' := q0w c5 h5
   obtain rfl := q0J hX h5
   refine effP [0] (c5') ?_; trivial
 replace hX := q0E hX h5
 have c5' := q0q c5 h5
 have f5 := q0G q0f f4 h5
 refine eQ [0] (c5') ?_
 have c6 := q4n 5 (by omega) b (n + k1 + k2 + k3 + k4 + k5) f5 hb
 rcases h6 : needP 5 timeP (b.drop (n + k1 + k2 + k3 + k4 + k5)) with e | ⟨v6, k6⟩
 · have c6' := q0w c6 h6
   obtain rfl := q0J hX h6
   refine effP [0] (c6') ?_; trivial
 replace hX := q0E hX h6
 have c6' := q0q c6 h6
 have f6 := q0G q0f f5 h6
 refine eQ [0] (c6') ?_
 have c7 := q4n 6 (by omega) b (n + k1 + k2 + k3 + k4 + k5 + k6) f6 hb
 rcases h7 : needP 6 timeP (b.drop (n + k1 + k2 + k3 + k4 + k5 + k6)) with e | ⟨v7, k7⟩
 · have c7' := q0w c7 h7
   obtain rfl := q0J hX h7
   refine effP [0] (c7') ?_; trivial
 replace hX := q0E hX h7
 have c7' := q0q c7 h7
 have f7 := q0G q0f f6 h7
 refine eQ [0] (c7') ?_
 have c8 := q3N 7 (by omega) b (n + k1 + k2 + k3 + k4 + k5 + k6 + k7) f7 hb
 rcases h8 : dfltP (0 : Nat) 7 timeP (b.drop (n + k1 + k2 + k3 + k4 + k5 + k6 + k7)) with e | ⟨v8, k8⟩
 · have c8' := q0w c8 h8
   obtain rfl := q0J hX h8
   refine effP [0] (c8') ?_; trivial
 replace hX := q0E hX h8
 have c8' := q0q c8 h8
 have f8 := q0G q0H f7 h8
 refine eQ [0] (c8') ?_
 have c9 := q5L 8 (by omega) b (n + k1 + k2 + k3 + k4 + k5 + k6 + k7 + k8) f8 hb
 rcases h9 : needP 8 nameP (b.drop (n + k1 + k2 + k3 + k4 + k5 + k6 + k7 + k8)) with e | ⟨v9, k9⟩
 · have c9' := q0w c9 h9
   obtain rfl := q0J hX h9
   refine effP [0] (c9') ?_; trivial
 replace hX := q0E hX h9
 have c9' := q0q c9 h9
 have f9 := q0G q0f f8 h9
 refine eQ [0] (c9') ?_
 have c10 := z6V 9 (by omega) b (n + k1 + k2 + k3 + k4 + k5 + k6 + k7 + k8 + k9) f9 hb
 rcases h10 : dfltP [] 9 adrP (b.drop (n + k1 + k2 + k3 + k4 + k5 + k6 + k7 + k8 + k9)) with e | ⟨v10, k10⟩
 · have c10' := q0w c10 h10
   obtain rfl := q0J hX h10
   refine effP [0] (c10') ?_; trivial
 replace hX := q0E hX h10
 have c10' := q0q c10 h10
 have f10 := q0G q0H f9 h10
 refine eQ [0] (c10') ?_
 subst hX
 simp only [shiftP, retP]
 with_reducible refine sxE ?_
 exact congrArg (Value.int .i64) (by omega)
theorem z3j (k : Int) (m : Nat) (hm : partN k = (m : Nat)) (hm2 : m = 25 ∨ m = 26) (b : List UInt8) (n : Nat) (hn : n ≤ b.length) (hb : b.length ≤ 1099511627776) :
 Eff Tryz.prog 34 [.agg [.ptr 0 0], rI k] b n [] (fun p => .agg (PartT.cells p)) (fun _ => []) (partP m (b.drop n)) := by
 have h1 := j2U (takeC (takeC (b.drop n))) 0 (Nat.zero_le _) (Nat.le_trans (q3K _) (q0V hb))
 rw [List.drop_zero] at h1
 have ha := application1 90 m (by omega) b n hn hb 34 _ z4j partIn z0V (fun p => PartT.cells p) (fun p => z2E PartT p) h1
 change Eff _ _ _ _ _ _ _ _ (partP m (b.drop n)) at ha
 have hp := q8r k
 rw [hm] at hp
 cases hx : partP m (b.drop n) with
 | error e =>
  have ha' := q0w ha hx
  refine q0c (by simp) ?_
  refine rQ fi34 ?_
  refine q0a hp ?_
  refine gQ ?_
  refine effP [0, 2] (ha') ?_; trivial
 | ok x =>
  obtain ⟨v, q⟩ := x
  have ha' := q0q ha hx
  refine q0c (by simp) ?_
  refine rQ fi34 ?_
  refine q0a hp ?_
  refine gQ ?_
  refine eQ [0, 2] (ha') ?_; trivial
theorem z0e (k : Int) (m : Nat) (hm : partN k = (m : Nat)) (hm2 : m = 25 ∨ m = 26) (b : List UInt8) (n : Nat) (hn : n ≤ b.length) (hb : b.length ≤ 1099511627776) :
 Eff Tryz.prog 33 [.agg [.ptr 0 0], .iptr I64 k 0] b n [] (fun p => .agg (PartT.cells p)) (fun _ => []) (partP m (b.drop n)) := by
 have ha := z3j k m hm hm2 b n hn hb
 cases hx : partP m (b.drop n) with
 | error e =>
  have ha' := q0w ha hx
  refine q0c (by simp) ?_
  refine rQ fi33 ?_
  refine effP [0] (ha') ?_; trivial
 | ok x =>
  obtain ⟨v, q⟩ := x
  have ha' := q0q ha hx
  refine q0c (by simp) ?_
  refine rQ fi33 ?_
  refine eQ [0] (ha') ?_; trivial
theorem z6t (k : Int) (p : Part) (ho : PartT.ok p) (hf : (0 : Int) ≤ p.2.2.2.1 ∧ p.2.2.2.1 ≤ (4294967295 : Int)) : PC Tryz.prog 35 [.agg (PartT.cells p), .iptr I64 k 0] (.isl .u8 (partS k p)) := by
 have h := z6b k p ho hf
 generalize partS k p = w at *
 clear hf
 obtain ⟨ky, n, e, f, t, q, l⟩ := p
 refine q0e rfl rfl ?_
 refine rQ fi35 ?_
 refine q0a h ?_
 refine gQ ?_; trivial
theorem q7V (o : SObj) (T : TypeId) (x : Value) (R : List SObj) (K : List SObj → Prop) (h : ∀ G, K (o :: .cells T [rI 6] :: (R ++ G))) : DCall Tryz.prog 101 [.ptr 1 0] (some wrongV) (o :: .cells T [.raw x] :: R) K := by
 refine recE mixed fi101 ?_
 exact h _
theorem z9A (o o' : SObj) (R : List SObj) (K : List SObj → Prop) (h : ∀ G, K (o :: o' :: (R ++ G))) : DCall Tryz.prog 101 [.ptr 1 0] none (o :: o' :: R) K := by
 refine recE mixed fi101 ?_
 exact h _
theorem z7A : OkP adrP (Ty.slice PreT).ok := fun r v m hr h => z7w r v m hr (z3U (q := vAdrs) (x := dataP r) h).1
theorem z2o (m : Nat) : OkP (partP m) fun p => PartT.ok p ∧ ((0 : Int) ≤ p.2.2.2.1 ∧ p.2.2.2.1 ≤ (4294967295 : Int)) :=
 q4u (q4u (q1p (q3j j0V) fun _ h0 => q1p (Q1 := fun _ => True) q1R fun _ _ => q1p (Q1 := fun _ => True) q1R fun _ _ => q1p (q3j z7N) fun _ h3 => q1p (Q1 := fun _ => True) q1R fun _ _ => q1p (Q1 := fun _ => True) q1R fun _ _ => q1p (Q1 := fun _ => True) q1R fun _ _ => q1p (Q1 := fun _ => True) q1R fun _ _ =>
  q1p (q3j z7y) fun _ h8 => q1p (z6Z z1G z7A) fun _ h9 => z0G ⟨⟨h0, trivial, trivial, trivial, ⟨trivial, trivial, trivial, trivial⟩, h8, h9⟩, ⟨Int.natCast_nonneg _, by show ((_ : Nat) : Int) ≤ 4294967295; omega⟩⟩))
theorem z2S (k : Int) (m : Nat) (hm : partN k = (m : Nat)) (hm2 : m = 25 ∨ m = 26) (b : List UInt8) (hb : b.length ≤ 1099511627776) : PC Tryz.prog 36 [.isl .u8 b, .fn 33 [] [.iptr I64 k 0], .fn 10 [] [], .fn 35 [] [.iptr I64 k 0]] (.tup [.agg (PartT.cells ((decPt m k b).getD PartT.dflt)), rI (if (decPt m k b).isSome then 0 else 6)]) := by
 have hnew := j2q b (by omega)
 have hread := z0e k m hm hm2 b 0 (Nat.zero_le _) hb
 have hok : ∀ e q, partP m b = .ok (e, q) → PartT.ok e ∧ ((0 : Int) ≤ e.2.2.2.1 ∧ e.2.2.2.1 ≤ (4294967295 : Int)) := fun e q h => z2o m b e q hb h
 rw [List.drop_zero] at hread
 refine q0e rfl rfl ?_
 refine defE mixed fi36 ?_
 refine gQ ?_
 refine eQ [] (hnew) ?_
 cases hx : partP m b with
 | error e =>
  have hd : decPt m k b = none := by unfold decPt allP; rw [hx]
  have hr := q0w hread hx
  rw [hd]
  refine effP [2] (hr) ?_
  refine ⟨by simp, q7V _ _ _ _ _ fun G => ?_⟩
  with_reducible refine sxE ?_
  exact ⟨⟨rfl, rfl, rfl, rfl, rfl, rfl, rfl, rfl, rfl, rfl, rfl, rfl, rfl⟩, rfl⟩
 | ok x =>
  obtain ⟨e, q⟩ := x
  have hr := q0q hread hx
  obtain ⟨heo, hef⟩ := hok e q hx
  rw [Nat.zero_add] at hr
  refine eQ [2] (hr) ?_
  have hfit : q ≤ b.length := q1G _ _ _ hx
  by_cases hq : q < b.length
  · have hd : decPt m k b = none := by unfold decPt allP; rw [hx]; simp [hq]
    rw [hd]
    refine effP [2] (q4L b q hq) ?_
    refine ⟨by simp, q7V _ _ _ _ _ fun G => ?_⟩
    with_reducible refine sxE ?_
    exact ⟨⟨rfl, rfl, rfl, rfl, rfl, rfl, rfl, rfl, rfl, rfl, rfl, rfl, rfl⟩, rfl⟩
  refine eQ [2] (q5x b q (by omega)) ?_
  refine q0a (z0s e heo) ?_
  cases hv : sPart e with
  | false =>
   have hd : decPt m k b = none := by unfold decPt allP; rw [hx]; simp [hq, hv]
   rw [hd]
   refine gQ ?_
   refine q0h (fun h => absurd h (by decide)) fun _ => ?_
   with_reducible refine sxE ?_
   refine ⟨by simp, q7V _ _ _ _ _ fun G => ?_⟩
   with_reducible refine sxE ?_
   exact ⟨⟨rfl, rfl, rfl, rfl, rfl, rfl, rfl, rfl, rfl, rfl, rfl, rfl, rfl⟩, rfl⟩
  | true =>
   refine gQ ?_
   refine q0a (z6t k e heo hef) ?_
   refine gQ ?_
   refine q0a (z9u _ _) ?_
   by_cases he : partS k e = b
   · have hd : decPt m k b = some e := by unfold decPt allP; rw [hx]; simp [hq, hv, he]
     rw [hd, decide_eq_true he]
     refine gQ ?_
     refine q0a q2z ?_
     refine gQ ?_
     refine z9A _ _ _ _ fun G => ?_
     with_reducible refine sxE ?_
     exact ⟨⟨rfl, rfl, rfl, rfl, rfl, rfl, rfl, rfl, rfl, rfl, rfl, rfl, rfl⟩, rfl⟩
   have hd : decPt m k b = none := by unfold decPt allP; rw [hx]; simp [hq, hv, he]
   rw [hd, decide_eq_false he]
   refine gQ ?_
   refine q0h (fun h => absurd h (by decide)) fun _ => ?_
   with_reducible refine sxE ?_
   refine ⟨by simp, q7V _ _ _ _ _ fun G => ?_⟩
   with_reducible refine sxE ?_
   exact ⟨⟨rfl, rfl, rfl, rfl, rfl, rfl, rfl, rfl, rfl, rfl, rfl, rfl, rfl⟩, rfl⟩
theorem z5i (k : Int) (b : List UInt8) (hb : b.length ≤ 1099511627776) : PC Tryz.prog 8 [rI k, .isl .u8 b] (.tup [.agg (PartT.cells ((decPart k b).getD PartT.dflt)), rI (if vKind k then (if (decPart k b).isSome then 0 else 6) else 2)]) := by
 have hk := q6c k
 unfold decPart
 cases hK : vKind k with
 | false =>
  rw [hK] at hk
  refine q0e rfl rfl ?_
  refine rQ fi8 ?_
  refine q0a hk ?_
  refine gQ ?_
  exact ⟨rfl, rfl, rfl, rfl, rfl, rfl, rfl, rfl, rfl, rfl, rfl, rfl, rfl⟩
 | true =>
  rw [hK] at hk
  obtain ⟨m, hm, hm2⟩ := q7R hK
  have hd := z2S k m hm hm2 b hb
  simp only [if_true, hm, Int.toNat_natCast]
  generalize (decPt m k b).getD PartT.dflt = q at *
  generalize (decPt m k b).isSome = g at *
  refine q0e rfl rfl ?_
  refine rQ fi8 ?_
  refine q0a hk ?_
  refine q3i (ty := I64) (x := k) 2 0 rfl trivial rfl rfl ?_
  refine gQ ?_
  refine q0a hd ?_
  refine gQ ?_; trivial
def dgN (l : List (List UInt8)) (i : Nat) : List Pre := (l.take i).map datG
theorem z6N {l : List (List UInt8)} {i : Nat} (h : i < l.length) : dgN l (i + 1) = dgN l i ++ [datG (l.getD i (Ty.slice .u8).dflt)] := by unfold dgN; rw [q0z (d := (Ty.slice .u8).dflt) h]; simp
theorem j0o {l : List (List UInt8)} {i : Nat} (h : i ≤ l.length) : (dgN l i).length = i := by simp [dgN]; omega
theorem z9m (l : List (List UInt8)) : dgN l l.length = l.map datG := by unfold dgN; rw [List.take_length]
theorem z3c (b : List UInt8) (hb : b.length ≤ 1048576) : PC Tryz.prog 109 [.isl .u8 b] (.isl PreT (preG b)) := by
 have hc := q1v b (by omega)
 have hl := q1D b
 have he := q5o (conR b) (by omega)
 have hm := q3U (conR b).length (conR b)
 have hle := q4A (conR b).length (conR b)
 have hd : preG b = (elsR (conR b).length (conR b)).map datG := rfl
 rw [hd]
 clear hd
 generalize elsR (conR b).length (conR b) = l at *
 rw [← z9m]
 refine q0e rfl rfl ?_
 refine rQ fi109 ?_
 refine q0a hc ?_
 refine gQ ?_
 refine q0a he ?_
 refine gQ ?_
 refine q1U 3 PreT (dgN l) (fun i => [(5, rI i)]) l.length (fun _ => True) rfl (by simp) (by simp [dgN]) rfl (fun i => rfl) ?_ fun i hi _ => ?_
 · with_reducible refine sxE ?_; trivial
 have hwr := wsx i (by omega)
 have hln := j0o hi
 refine gQ ?_
 refine ⟨fun hlt => ?_, fun hge => ?_⟩
 · have hmm := hm _ (q1g (d := (Ty.slice .u8).dflt) hlt)
   have hst := z6N hlt
   have hse : datG (l.getD i (Ty.slice .u8).dflt) = ((gIntR (itmR (l.getD i (Ty.slice .u8).dflt) 0) : Int), conR (itmR (l.getD i (Ty.slice .u8).dflt) 1)) := rfl
   refine ⟨⟨by omega, hlt⟩, ⟨by omega, hlt⟩, ?_⟩
   generalize l.getD i (Ty.slice .u8).dflt = x at *
   have q0 := q1d x 0
   have q1 := q1d x 1
   have q3 := q1D (itmR x 1)
   refine q0b (q2k x 0 (by omega) (by omega)) ?_
   refine gQ ?_
   refine q0b (q2o _ (by omega)) ?_
   refine gQ ?_
   refine q0b (q2k x 1 (by omega) (by omega)) ?_
   refine gQ ?_
   refine q0b (q7F _ (by omega)) ?_
   refine gQ ?_
   refine ⟨⟨by omega, by omega⟩, q1b [_, _] [] hlt trivial (by rw [hst, hse]; rfl) ?_⟩
   with_reducible refine sx3 hwr hst ?_; trivial
 obtain rfl : i = l.length := by omega
 refine ⟨⟨Nat.le_refl _, by omega⟩, List.take_of_length_le (Nat.le_refl _)⟩
theorem z7q (b : List UInt8) : (preG b).length ≤ b.length := by
 unfold preG; rw [List.length_map]; exact z5Y b
theorem z9w {y : List UInt8} (h : y.length ≤ 1048576) : PreT.ok (datG y) := ⟨trivial, z5Q (q6C 1 h)⟩
theorem z9Y {y : List UInt8} (h : y.length ≤ 1048576) : (Ty.slice PreT).ok (preG y) := z4l (t := PreT) h fun _ hz => z9w hz
theorem z3H {y : List UInt8} (h : y.length ≤ 1048576) : (conR y).length ≤ 1048576 := Nat.le_trans (q1D y) h
end Go.Proofs.YtcjehhejgimmdaaGreatDoor
