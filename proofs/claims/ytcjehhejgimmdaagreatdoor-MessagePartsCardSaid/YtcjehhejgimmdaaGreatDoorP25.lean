/- Contracts: the reference's reading of keys, names, key sets. -/
import Derived.Test.YtcjehhejgimmdaaGreatDoorP24
import Derived.Test.YtcjehhejgimmdaaGreatDoorP16
import Derived.Shelf.Strings.OnBuilder
import Derived.Shelf.LaysM
import Derived.Shelf.Strconv.Itoa3
import Derived.Test.YtcjehhejgimmdaaGreatDoorProg
import Derived.Test.YtcjehhejgimmdaaGreatDoorP22
import Derived.Below
import Derived.Deep.Draws
import Derived.Sort.Grow
import Derived.Test.YtcjehhejgimmdaaGreatDoorP23
import Derived.Lib.ItoaLen
import Derived.Test.YtcjehhejgimmdaaGreatDoorP18
set_option linter.all false
namespace Go.Proofs.YtcjehhejgimmdaaGreatDoor
open Go Go.Sx Go.Proofs
set_option maxRecDepth 100000
set_option maxHeartbeats 4000000
theorem z6d (b : List UInt8) (hb : b.length ≤ 1048576) : PC Tryz.prog 38 [.isl .u8 b] (.agg (KeyT.cells (keyR b))) := by
 have q0 := q1d b 0
 have q1 := q1d b 1
 have q2 := q1d b 2
 refine q0e rfl rfl ?_
 refine rQ fi38 ?_
 refine q0a (q2k b 0 (by omega) (by omega)) ?_
 refine gQ ?_
 refine q0a (q2o _ (by omega)) ?_
 refine gQ ?_
 refine q0a (q2k b 1 (by omega) (by omega)) ?_
 refine gQ ?_
 refine q0a (q2o _ (by omega)) ?_
 refine gQ ?_
 refine q0a (q2k b 2 (by omega) (by omega)) ?_
 refine gQ ?_
 refine q0a (q7F _ (by omega)) ?_
 refine gQ ?_
 exact ⟨rfl, rfl, rfl⟩
def srN (l : List (List UInt8)) (i : Nat) : List ByteArray := (l.take i).map sR
theorem z6G {l : List (List UInt8)} {i : Nat} (h : i < l.length) : srN l (i + 1) = srN l i ++ [sR (l.getD i (Ty.slice .u8).dflt)] := by unfold srN; rw [q0z (d := (Ty.slice .u8).dflt) h]; simp
theorem j0Y {l : List (List UInt8)} {i : Nat} (h : i ≤ l.length) : (srN l i).length = i := by simp [srN]; omega
theorem z5a (x : List UInt8) : (sR x).size ≤ x.length := by
 have := q1D x
 unfold sR
 show (conR x).toArray.size ≤ _
 simpa using this
theorem z2O (b : List UInt8) (hb : b.length ≤ 1048576) : PC Tryz.prog 42 [.isl .u8 b] (.agg (PrinT.cells (prnR b))) := by
 have q0 := q1d b 0
 have q1 := q1d b 1
 have hc := q1v (itmR b 0) (by omega)
 have hl := q1D (itmR b 0)
 have he := q5o (conR (itmR b 0)) (by omega)
 have hm := q3U (conR (itmR b 0)).length (conR (itmR b 0))
 have hle := q4A (conR (itmR b 0)).length (conR (itmR b 0))
 have hd : prnR b = ((elsR (conR (itmR b 0)).length (conR (itmR b 0))).map sR, sR (itmR b 1)) := rfl
 rw [hd]
 clear hd
 generalize elsR (conR (itmR b 0)).length (conR (itmR b 0)) = l at *
 refine q0e rfl rfl ?_
 refine rQ fi42 ?_
 refine q0a (q2k b 0 (by omega) (by omega)) ?_
 refine gQ ?_
 refine q0a hc ?_
 refine gQ ?_
 refine q0a he ?_
 refine gQ ?_
 refine q3S 1 0 .str rfl rfl rfl ?_
 with_reducible refine sxE ?_
 refine q1f (ι := Nat × List SObj) (fun s => [(5, rI s.1)]) (fun s => [.cells 31 [.raw (.slice none 0 0), rS ⟨#[]⟩], .cells 31 [.bld (s.2.length + 2) .str (srN l s.1).length, rS ⟨#[]⟩]] ++ s.2 ++ [.row .str (srN l s.1)]) (fun s => l.length - s.1) (fun s => s.1 ≤ l.length) (0, []) (Nat.zero_le _) rfl ?_ ?_
 · with_reducible refine sxE ?_; trivial
 rintro ⟨i, G⟩ hi
 dsimp only at hi
 have hwr := wsx i (by omega)
 have hln := j0Y hi
 refine uQ 12 _ ?_
 with_reducible refine sxaE ?_
 refine ⟨fun hlt => ?_, fun hge => ?_⟩
 · have hmm := hm _ (q1g (d := (Ty.slice .u8).dflt) hlt)
   have hst := z6G hlt
   have hsz := z5a (l.getD i (Ty.slice .u8).dflt)
   refine q1F [1] mixed ?_
   refine aQ ?_
   refine ⟨⟨by omega, hlt⟩, q0b (q1v _ (by omega)) ?_⟩
   refine aQ ?_


   refine ⟨by show (sR _).size ≤ _; omega, ⟨by omega, by omega⟩, (i + 1, G ++ [.dead, .row .str [sR (l.getD i (Ty.slice .u8).dflt)]]), by dsimp only; omega, by dsimp only; omega, ?_, ?_⟩
   · simp [hst]
     rfl
   simp (maxSteps := 3000000) only [hwr, List.append_assoc, getA, getA0, setA, setA0, List.length_append, Nat.add_assoc, go_sem, ↓zA, ↓reduceIte, ↓reduceDIte] <;> try simp only [zB]
 obtain rfl : i = l.length := by omega
 refine aQ ?_
 refine q0a (q2k b 1 (by omega) (by omega)) ?_
 refine aQ ?_
 refine q0a (q1v _ (by omega)) ?_
 refine aQ ?_
 exact ⟨⟨Nat.le_refl _, by omega⟩, by rw [List.take_length]; unfold srN; rw [List.take_length], rfl⟩
theorem z5Y (x : List UInt8) : (eltR x).length ≤ x.length := Nat.le_trans (q4A _ _) (q1D x)
theorem z9s {x y : List UInt8} (h : y ∈ eltR x) : y.length ≤ x.length := Nat.le_trans (q3U _ _ y h).2 (q1D x)
theorem z4l {t : Ty} {f : List UInt8 → t.den} {x : List UInt8} (hx : x.length ≤ 1048576) (h : ∀ y, y.length ≤ 1048576 → t.ok (f y)) : (Ty.slice t).ok ((eltR x).map f) := by
 refine ⟨by rw [List.length_map]; have := z5Y x; omega, fun z hz => ?_⟩
 obtain ⟨y, hy, rfl⟩ := List.mem_map.1 hz
 exact h y (Nat.le_trans (z9s hy) hx)
theorem z4v {y : List UInt8} (h : y.length ≤ 1048576) : (Ty.str).ok (sR y) := by
 have := z5a y
 show (sR y).size ≤ _
 omega
theorem z5Q {y : List UInt8} (h : y.length ≤ 1048576) : (Ty.slice .u8).ok (conR y) := ⟨by have := q1D y; show (conR y).length ≤ _; omega, fun _ _ => trivial⟩
theorem q6C {y : List UInt8} (n : Nat) (h : y.length ≤ 1048576) : (itmR y n).length ≤ 1048576 := Nat.le_trans (q1d y n) h
theorem j0m {y : List UInt8} (h : y.length ≤ 1048576) : PrinT.ok (prnR y) := ⟨z4l (t := .str) (q6C 0 h) fun _ hz => z4v hz, z4v (q6C 1 h)⟩
theorem j1b {y : List UInt8} (h : y.length ≤ 1048576) : KeyT.ok (keyR y) := ⟨trivial, trivial, z5Q (q6C 2 h)⟩
theorem j2l {t : Int} (h : 0 ≤ t ∧ t ≤ 1099511627776) : (if decide (t = 0) = true then [] else timR t) = timO t := by
 unfold timO
 rw [q7N h]
 by_cases h0 : t = 0 <;> simp [h0]
theorem j1l {t n : Int} {b : List UInt8} (h : wrapS t n b ≠ []) : wrapS t n b = elemS (byteOf (t + n)) [b] := by
 unfold wrapS at h ⊢
 split
 · rfl
 rename_i hc
 rw [if_neg hc] at h
 exact absurd rfl h
theorem u32w (x : Int) : IntKind.u32.wrap x = x % 4294967296 := by simp [IntKind.wrap, IntKind.bits, IntKind.signed]
theorem j1V {n s : Nat} : (n ||| s = s) ↔ (s &&& n = n) := by
 constructor
 · intro h
   apply Nat.eq_of_testBit_eq
   intro i
   have := congrArg (fun x => x.testBit i) h
   simp only [Nat.testBit_or, Nat.testBit_and] at this ⊢
   cases h1 : n.testBit i <;> cases h2 : s.testBit i <;> simp_all
 intro h
 apply Nat.eq_of_testBit_eq
 intro i
 have := congrArg (fun x => x.testBit i) h
 simp only [Nat.testBit_or, Nat.testBit_and] at this ⊢
 cases h1 : n.testBit i <;> cases h2 : s.testBit i <;> simp_all
abbrev TimesT : Ty := .prod I64 (.prod I64 (.prod I64 I64))
abbrev PartT : Ty := .prod KeyT (.prod I64 (.prod I64 (.prod (.int .u32) (.prod TimesT (.prod PrinT (.slice PreT))))))
abbrev Times := TimesT.den
abbrev Part := PartT.den
def vLife (t : Times) : Bool := mIn 0 1099511627776 t.1 && (decide (t.1 ≤ t.2.1) && (decide (t.2.1 < t.2.2.1) && (mIn 0 1099511627776 t.2.2.1 && (decide (t.2.2.2 = 0) || mIn t.2.2.1 1099511627776 t.2.2.2))))
def vTkF (f : Int) : Bool := decide (andU 4095 f = f)
def sPart (p : Part) : Bool := vKey p.1 && (decide (p.1.2.1 = 0) && (mIn 0 4294967295 p.2.1 && (vTime p.2.2.1 && (vTkF p.2.2.2.1 && (vLife p.2.2.2.2.1 && (vPrin p.2.2.2.2.2.1 && vAdrs p.2.2.2.2.2.2))))))
def partL (p : Part) : List (List UInt8) := [keyS p.1, intS p.2.1, timO p.2.2.1, bitsS p.2.2.2.1, timeS p.2.2.2.2.1.1, timeS p.2.2.2.2.1.2.1, timeS p.2.2.2.2.1.2.2.1, timO p.2.2.2.2.1.2.2.2, prinE p.2.2.2.2.2.1, preO p.2.2.2.2.2.2]
def partS (k : Int) (p : Part) : List UInt8 := wrapS 96 (partN k) (elemS 48 [wrapS 160 0 (keyS p.1), wrapS 160 1 (intS p.2.1), instS 2 p.2.2.1, wrapS 160 3 (bitsS p.2.2.2.1), wrapS 160 4 (timeS p.2.2.2.2.1.1), wrapS 160 5 (timeS p.2.2.2.2.1.2.1), wrapS 160 6 (timeS p.2.2.2.2.1.2.2.1), instS 7 p.2.2.2.2.1.2.2.2, wrapS 160 8 (prinE p.2.2.2.2.2.1), hostS 9 p.2.2.2.2.2.2 (adrS p.2.2.2.2.2.2)])
def partIn : PR Part := bindP (needP 0 keyP) fun k => bindP (needP 1 intP) fun n => bindP (dfltP (0 : Nat) 2 timeP) fun e => bindP (needP 3 bitsP) fun f => bindP (needP 4 timeP) fun a => bindP (needP 5 timeP) fun s => bindP (needP 6 timeP) fun d => bindP (dfltP (0 : Nat) 7 timeP) fun w => bindP (needP 8 nameP) fun p => bindP (dfltP [] 9 adrP) fun l => retP ((k, n, (e : Int), (f : Int), ((a : Int), (s : Int), (d : Int), (w : Int)), p, l) : Part)
def partP (m : Nat) : PR Part := inP (appB m) (inP 48 partIn)
theorem z2j (k : Int) (p : Part) (h : vAdrs p.2.2.2.2.2.2 = true) : partS k p = wrapS 96 (partN k) (tagS (partL p)) := by
 obtain ⟨ky, n, e, f, ⟨a, s, d, w⟩, q, l⟩ := p
 dsimp only at h
 have h1 : hostS 9 l (adrS l) = wrapS 160 9 (preO l) := by
  unfold adrS
  rw [if_pos h]
  exact j1o 9 l
 unfold partS tagS
 dsimp only
 rw [h1, z1W, z1W]
 rfl
theorem q7W {k : Key} (h : vKey k = true) : keyOk k := by
 obtain ⟨a, v, c⟩ := k
 simp only [vKey, keyLen, Bool.and_eq_true, decide_eq_true_eq] at h
 change Int at a v
 obtain ⟨h1, h2, h3, h4⟩ := h
 refine ⟨?_, ⟨h3, Int.le_trans (show v ≤ (65535 : Int) from h4) (by decide)⟩, ?_⟩
 · split at h1
   · rename_i e; rw [e]; decide
   split at h1
   · rename_i e; rw [e]; decide
   exact absurd rfl h1
 split at h2
 · omega
 split at h2
 · omega
 omega
theorem z0r {a s d w : Int} (h : vLife (a, s, d, w) = true) : (0 ≤ a ∧ a ≤ 1099511627776) ∧ (0 ≤ s ∧ s ≤ 1099511627776) ∧ (0 ≤ d ∧ d ≤ 1099511627776) ∧ (0 ≤ w ∧ w ≤ 1099511627776) := by
 simp only [vLife, mIn, Bool.and_eq_true, Bool.or_eq_true, decide_eq_true_eq] at h
 obtain ⟨h1, h2, h3, h4, h5⟩ := h
 have h2' : (a : Int) ≤ s := h2
 have h3' : (s : Int) < d := h3
 have h5' : (w : Int) = 0 ∨ (d : Int) ≤ w ∧ w ≤ (1099511627776 : Int) := h5
 refine ⟨h1, ⟨by omega, by omega⟩, h4, ?_⟩
 omega
theorem q2y {ky : Key} {n e f : Int} {t : Times} {q : Prin} {l : List Pre} (h : sPart (ky, n, e, f, t, q, l) = true) : vKey ky = true ∧ ky.2.1 = 0 ∧ ((0 : Int) ≤ n ∧ n ≤ (4294967295 : Int)) ∧ ((0 : Int) ≤ e ∧ e ≤ (1099511627776 : Int)) ∧ vTkF f = true ∧ vLife t = true ∧ vPrin q = true ∧ vAdrs l = true := by
 simp only [sPart, vTime, mIn, Bool.and_eq_true, decide_eq_true_eq] at h
 exact h
theorem z2v {o : Int} (h : vTkF o = true) : (0 : Int) ≤ o ∧ o ≤ (4294967295 : Int) := by
 unfold vTkF at h
 rw [decide_eq_true_eq] at h
 unfold andU at h
 rw [u32w] at h
 omega
theorem z0t (k : Int) (m : Nat) (hm : m = 25 ∨ m = 26) (hk : partN k = (m : Nat)) (ky : Key) (n e f a s d w : Int) (q : Prin) (l : List Pre) (h : sPart (ky, n, e, f, (a, s, d, w), q, l) = true) :
 partS k (ky, n, e, f, (a, s, d, w), q, l) = tlv (appB m) (tlv 48 (sufS (partL (ky, n, e, f, (a, s, d, w), q, l)) 0 10)) ∧ (∀ j, ((partL (ky, n, e, f, (a, s, d, w), q, l)).getD j []).length ≤ 16777215) ∧ (sufS (partL (ky, n, e, f, (a, s, d, w), q, l)) 0 10).length ≤ 1048576 ∧
  ∀ r, partP m (partS k (ky, n, e, f, (a, s, d, w), q, l) ++ r) = .ok ((ky, n, e, f, (a, s, d, w), q, l), (partS k (ky, n, e, f, (a, s, d, w), q, l)).length) := by
 obtain ⟨fk, _, fn, fe, ff, ft, fq, fl⟩ := q2y h
 have hE := z2j k (ky, n, e, f, (a, s, d, w), q, l) fl
 obtain ⟨ta, ts, td, tw⟩ := z0r ft
 have fo := z2v ff
 have kok := q7W fk
 clear h ft ff fk
 have zn : (0 : Int) ≤ n ∧ n ≤ 4611686018427387904 := ⟨fn.1, Int.le_trans fn.2 (by decide)⟩
 obtain ⟨f, rfl⟩ : ∃ x : Nat, f = x := ⟨f.toNat, by omega⟩
 obtain ⟨e, rfl, ge⟩ := q4b fe
 obtain ⟨a, rfl, ga⟩ := q4b ta
 obtain ⟨s, rfl, gs⟩ := q4b ts
 obtain ⟨d, rfl, gd⟩ := q4b td
 obtain ⟨w, rfl, gw⟩ := q4b tw
 obtain ⟨ps, psl, psn⟩ := z8i fq
 obtain ⟨b0l, b0n⟩ := q8H (f : Int)
 have b0 := full (z8p (n := f) (by omega))
 obtain ⟨pa, pal⟩ := j1U fl
 have kl := j1A kok
 have kp0 := full (z9I kok)
 have tn : ∀ x : Nat, x ≤ 1099511627776 → timeS (x : Int) ≠ [] ∧ timeP (timeS (x : Int)) = .ok (x, (timeS (x : Int)).length) ∧ (timeS (x : Int)).length ≤ 11 := fun x hx => by
  refine ⟨by rw [q3J (by omega)]; exact q1k, full (z2y hx), ?_⟩
  rw [q3J (by omega), q0U, q0s]; decide
 obtain ⟨a1, a2, a3⟩ := tn a ga
 obtain ⟨s1, s2, s3⟩ := tn s gs
 obtain ⟨d1, d2, d3⟩ := tn d gd
 clear tn
 have l2 := z4o (e : Int)
 have l7 := z4o (w : Int)
 have l1 := q1z n
 have hL : ∀ j, ((partL (ky, n, (e : Int), (f : Int), ((a : Int), (s : Int), (d : Int), (w : Int)), q, l)).getD j []).length ≤ 16777215 := fun j => by
  match j with
  | 0 => exact Nat.le_trans kl (by omega)
  | 1 => show (intS n).length ≤ _; omega
  | 2 => show (timO (e : Int)).length ≤ _; omega
  | 3 => show (bitsS (f : Int)).length ≤ _; omega
  | 4 => show (timeS (a : Int)).length ≤ _; omega
  | 5 => show (timeS (s : Int)).length ≤ _; omega
  | 6 => show (timeS (d : Int)).length ≤ _; omega
  | 7 => show (timO (w : Int)).length ≤ _; omega
  | 8 => exact Nat.le_trans psl (by omega)
  | 9 => exact Nat.le_trans pal (by omega)
  | j + 10 => exact Nat.zero_le _
 have hs : (sufS (partL (ky, n, (e : Int), (f : Int), ((a : Int), (s : Int), (d : Int), (w : Int)), q, l)) 0 10).length ≤ 1048576 := by
  refine Nat.le_trans (z0l 10 0) ?_
  show (keyS ky).length + 5 + ((intS n).length + 5 + ((timO (e : Int)).length + 5 + ((bitsS (f : Int)).length + 5 + ((timeS (a : Int)).length + 5 + ((timeS (s : Int)).length + 5 + ((timeS (d : Int)).length + 5 + ((timO (w : Int)).length + 5 + ((prinE q).length + 5 + ((preO l).length + 5 + 0))))))))) ≤ _
  generalize (preO l).length = x1 at *
  generalize (keyS ky).length = x2 at *
  generalize (prinE q).length = x3 at *
  omega
 have hT : tagS (partL (ky, n, (e : Int), (f : Int), ((a : Int), (s : Int), (d : Int), (w : Int)), q, l)) = tlv 48 (sufS (partL (ky, n, (e : Int), (f : Int), ((a : Int), (s : Int), (d : Int), (w : Int)), q, l)) 0 10) := z8f (l := partL (ky, n, (e : Int), (f : Int), ((a : Int), (s : Int), (d : Int), (w : Int)), q, l)) (Nat.le_trans hs (by decide))
 have hin : partIn (sufS (partL (ky, n, (e : Int), (f : Int), ((a : Int), (s : Int), (d : Int), (w : Int)), q, l)) 0 10) = .ok ((ky, n, (e : Int), (f : Int), ((a : Int), (s : Int), (d : Int), (w : Int)), q, l), (sufS (partL (ky, n, (e : Int), (f : Int), ((a : Int), (s : Int), (d : Int), (w : Int)), q, l)) 0 10).length) := by
  unfold partIn
  refine q1H (n := 0) (k := 9) (q1y hL (by omega) (z9z kok) kp0) ?_
  refine q1H (n := 1) (k := 8) (q1y hL (by omega) (z9N zn) (full (q8N zn))) ?_
  refine q1H (n := 2) (k := 7) (q8F hL (by omega) (z9d ge)) ?_
  refine q1H (n := 3) (k := 6) (q1y hL (by omega) b0n b0) ?_
  refine q1H (n := 4) (k := 5) (q1y hL (by omega) a1 a2) ?_
  refine q1H (n := 5) (k := 4) (q1y hL (by omega) s1 s2) ?_
  refine q1H (n := 6) (k := 3) (q1y hL (by omega) d1 d2) ?_
  refine q1H (n := 7) (k := 2) (q8F hL (by omega) (z9d gw)) ?_
  refine q1H (n := 8) (k := 1) (q1y hL (by omega) psn (full ps)) ?_
  refine q1H (n := 9) (k := 0) (q8F hL (by omega) pa) ?_
  rfl
 generalize sufS (partL (ky, n, (e : Int), (f : Int), ((a : Int), (s : Int), (d : Int), (w : Int)), q, l)) 0 10 = B at *
 have hl48 : (tlv 48 B).length ≤ 1048590 := by
  rw [q0U]; have := q3m B.length; omega
 have hS : partS k (ky, n, (e : Int), (f : Int), ((a : Int), (s : Int), (d : Int), (w : Int)), q, l) = tlv (appB m) (tlv 48 B) := by
  rw [hE, hT, hk]
  unfold wrapS
  rw [if_pos ⟨by omega, by omega, q1k⟩, q1j (by omega)]
  rfl
 refine ⟨hS, hL, hs, fun r => ?_⟩
 rw [hS]
 exact q3C (by omega) (full (q3C (by omega) hin)) r
def decPt (m : Nat) (k : Int) (b : List UInt8) : Option Part := match allP (partP m) b with
 | .ok p => if sPart p = true ∧ partS k p = b then some p else none
 | .error _ => none
def decPart (k : Int) (b : List UInt8) : Option Part := if vKind k then decPt (partN k).toNat k b else none
theorem q7R {k : Int} (h : vKind k = true) : ∃ m : Nat, partN k = (m : Nat) ∧ (m = 25 ∨ m = 26) := by
 simp only [vKind, Bool.or_eq_true, decide_eq_true_eq] at h
 rcases h with rfl | rfl
 · exact ⟨26, rfl, .inr rfl⟩
 exact ⟨25, rfl, .inl rfl⟩
theorem z2G {k : Int} {b : List UInt8} {p : Part} (hk : vKind k = true) (h : sPart p = true) (he : partS k p = b) : decPart k b = some p := by
 subst he
 obtain ⟨m, hm, hm2⟩ := q7R hk
 obtain ⟨ky, n, e, f, ⟨a, s, d, w⟩, q, l⟩ := p
 have hx := full (z0t k m hm2 hm ky n e f a s d w q l h).2.2.2
 unfold decPart decPt allP
 rw [if_pos hk, hm, Int.toNat_natCast, hx]
 simp [h]
theorem q9H {k : Int} {b : List UInt8} {p : Part} (h : decPart k b = some p) : vKind k = true ∧ sPart p = true ∧ partS k p = b := by
 unfold decPart at h
 split at h
 · rename_i hk
   unfold decPt at h
   split at h
   · split at h
     · rename_i h2
       cases h
       exact ⟨hk, h2.1, h2.2⟩
     cases h
   cases h
 cases h
def shPt (p : Part) : Prop := shK p.1 ∧ inI p.2.1 ∧ ((0 : Int) ≤ p.2.2.2.1 ∧ p.2.2.2.1 ≤ (4294967295 : Int)) ∧ shP p.2.2.2.2.2.1 ∧ shE p.2.2.2.2.2.2
def partR (p : Part) : List (List UInt8) := [wrapS 160 0 (keyA p.1), wrapS 160 1 (intR p.2.1), wrapS 160 2 (if p.2.2.1 = 0 then [] else timR p.2.2.1), wrapS 160 3 (bitsS p.2.2.2.1), wrapS 160 4 (timR p.2.2.2.2.1.1), wrapS 160 5 (timR p.2.2.2.2.1.2.1), wrapS 160 6 (timR p.2.2.2.2.1.2.2.1), wrapS 160 7 (if p.2.2.2.2.1.2.2.2 = 0 then [] else timR p.2.2.2.2.1.2.2.2), wrapS 160 8 (prinS p.2.2.2.2.2.1), wrapS 160 9 (preR2 p.2.2.2.2.2.2)]
def partM (k : Int) : Int := if k = 12 then 26 else 25
def partA (k : Int) (p : Part) : List UInt8 := elemS (byteOf (96 + partM k)) [elemS 48 (partR p)]
theorem q4C (t : Int) : (if t = 0 then [] else timR t).length ≤ 11 := by
 split
 · exact Nat.zero_le _
 exact q2m _
theorem z7j {p : Part} (h : shPt p) : (partR p).flatten.length ≤ 300000 := by
 obtain ⟨h1, _, _, h5, h6⟩ := h
 have g0 := z1H h1
 have g1 := q2P p.2.1
 have g2 := q4C p.2.2.1
 have g3 := (q8H p.2.2.2.1).1
 have g4 := q2m p.2.2.2.2.1.1
 have g5 := q2m p.2.2.2.2.1.2.1
 have g6 := q2m p.2.2.2.2.1.2.2.1
 have g7 := q4C p.2.2.2.2.1.2.2.2
 have g8 := z1L h5
 have g9 := z4J h6
 have w0 := q0n 160 0 (keyA p.1)
 have w1 := q0n 160 1 (intR p.2.1)
 have w2 := q0n 160 2 (if p.2.2.1 = 0 then [] else timR p.2.2.1)
 have w3 := q0n 160 3 (bitsS p.2.2.2.1)
 have w4 := q0n 160 4 (timR p.2.2.2.2.1.1)
 have w5 := q0n 160 5 (timR p.2.2.2.2.1.2.1)
 have w6 := q0n 160 6 (timR p.2.2.2.2.1.2.2.1)
 have w7 := q0n 160 7 (if p.2.2.2.2.1.2.2.2 = 0 then [] else timR p.2.2.2.2.1.2.2.2)
 have w8 := q0n 160 8 (prinS p.2.2.2.2.2.1)
 have w9 := q0n 160 9 (preR2 p.2.2.2.2.2.2)
 unfold partR
 simp only [List.flatten_cons, List.flatten_nil, List.append_nil, List.length_append]
 omega
theorem j0T {p : Part} (h : sPart p = true) : shPt p := by
 obtain ⟨ky, n, e, f, t, q, l⟩ := p
 obtain ⟨fk, _, fn, _, ff, _, fq, fl⟩ := q2y h
 exact ⟨j2f (q7W fk), ⟨Int.le_trans (by decide) fn.1, Int.le_trans fn.2 (by decide)⟩, z2v ff, j1Y fq, j2c (q4B fl), fun d hd => Nat.le_trans (z8B ((z0C fl).2 d hd)).2 (by decide)⟩
theorem z4y {t : Int} (h : 0 ≤ t ∧ t ≤ 1099511627776) : (if t = 0 then [] else timR t) = timO t := by
 have := j2l h
 simpa only [decide_eq_true_eq] using this
theorem j0q {k : Int} (hk : vKind k = true) : partM k = partN k := by
 simp only [vKind, Bool.or_eq_true, decide_eq_true_eq] at hk
 rcases hk with rfl | rfl <;> rfl
theorem q8L {k : Int} {p : Part} (hk : vKind k = true) (h : sPart p = true) : partA k p = partS k p := by
 obtain ⟨m, hm, hm2⟩ := q7R hk
 obtain ⟨ky, n, e, f, ⟨a, s, d, w⟩, q, l⟩ := p
 have hne : partS k (ky, n, e, f, (a, s, d, w), q, l) ≠ [] := by rw [(z0t k m hm2 hm ky n e f a s d w q l h).1]; exact q1k
 obtain ⟨fk, _, fn, fe, ff, ft, fq, fl⟩ := q2y h
 obtain ⟨ta, ts, td, tw⟩ := z0r ft
 have hE := z2j k (ky, n, e, f, (a, s, d, w), q, l) fl
 rw [hE] at hne ⊢
 rw [j1l hne]
 unfold partA partR tagS
 dsimp only
 rw [j0q hk, j0U (q7W fk), q6l ⟨fn.1, Int.le_trans fn.2 (by decide)⟩, z4y fe, q7N ta, q7N ts, q7N td, z4y tw, z6Y fq, z7o (q4B fl)]
 rfl
def partG (b : List UInt8) : Part := (keyR (itmR (conR b) 0), (gIntR (itmR (conR b) 1) : Int), (gIntR (itmR (conR b) 2) : Int), (gBitsR (itmR (conR b) 3) : Int), ((gIntR (itmR (conR b) 4) : Int), (gIntR (itmR (conR b) 5) : Int), (gIntR (itmR (conR b) 6) : Int), (gIntR (itmR (conR b) 7) : Int)), prnR (itmR (conR b) 8), preG (itmR (conR b) 9))
theorem z2T {k : Int} {p : Part} (hk : vKind k = true) (h : sPart p = true) : partG (partS k p) = p := by
 obtain ⟨m, hm, hm2⟩ := q7R hk
 obtain ⟨ky, n, e, f, ⟨a, s, d, w⟩, q, l⟩ := p
 change Int at n e f a s d w
 obtain ⟨pS, pL, pl, _⟩ := z0t k m hm2 hm ky n e f a s d w q l h
 obtain ⟨fk, _, fn, fe, ff, ft, fq, fl⟩ := q2y h
 obtain ⟨ta, ts, td, tw⟩ := z0r ft
 have fo := z2v ff
 have hl48 : (tlv 48 (sufS (partL (ky, n, e, f, (a, s, d, w), q, l)) 0 10)).length ≤ 16777215 := by
  rw [q0U]; have := q3m (sufS (partL (ky, n, e, f, (a, s, d, w), q, l)) 0 10).length; omega
 have pl' : (sufS (partL (ky, n, e, f, (a, s, d, w), q, l)) 0 10).length ≤ 16777215 := by omega
 unfold partG
 rw [pS, conR_tlv' _ _ hl48, q1A (m := 0) (k := 10) pL (by omega) (by omega) pl', q1A (m := 1) (k := 10) pL (by omega) (by omega) pl', q1A (m := 2) (k := 10) pL (by omega) (by omega) pl', q1A (m := 3) (k := 10) pL (by omega) (by omega) pl', q1A (m := 4) (k := 10) pL (by omega) (by omega) pl', q1A (m := 5) (k := 10) pL (by omega) (by omega) pl', q1A (m := 6) (k := 10) pL (by omega) (by omega) pl', q1A (m := 7) (k := 10) pL (by omega) (by omega) pl', q1A (m := 8) (k := 10) pL (by omega) (by omega) pl', q1A (m := 9) (k := 10) pL (by omega) (by omega) pl']
 show (keyR (keyS ky), ((gIntR (intS n) : Nat) : Int), ((gIntR (timO e) : Nat) : Int), ((gBitsR (bitsS f) : Nat) : Int), (((gIntR (timeS a) : Nat) : Int), ((gIntR (timeS s) : Nat) : Int), ((gIntR (timeS d) : Nat) : Int), ((gIntR (timO w) : Nat) : Int)), prnR (prinE q), preG (preO l)) = _
 obtain ⟨f, rfl⟩ : ∃ x : Nat, f = x := ⟨f.toNat, by omega⟩
 obtain ⟨e, rfl, ge⟩ := q4b fe
 obtain ⟨a, rfl, ga⟩ := q4b ta
 obtain ⟨s, rfl, gs⟩ := q4b ts
 obtain ⟨d, rfl, gd⟩ := q4b td
 obtain ⟨w, rfl, gw⟩ := q4b tw
 rw [(z7r (q7W fk)).1, q8Q (v := n) ⟨fn.1, Int.lt_of_le_of_lt fn.2 (by decide)⟩, z1t ge, z7O (by omega), q5F ga, q5F gs, q5F gd, z1t gw, (z6U fq).1, z8m (q4B fl)]
theorem z0J (k : Int) (b : List UInt8) (hk : vKind k = true) : (if sPart (partG b) = true ∧ partS k (partG b) = b then some (partG b) else none) = decPart k b := by
 split
 · rename_i h
   exact (z2G hk h.1 h.2).symm
 rename_i h
 cases hd : decPart k b with
 | none => rfl
 | some r =>
  exfalso
  obtain ⟨_, h1, h2⟩ := q9H hd
  have h4 : partG b = r := by rw [← h2]; exact z2T hk h1
  rw [h4] at h
  exact h ⟨h1, h2⟩
theorem orTk {o : Int} (h : 0 ≤ o ∧ o ≤ 4294967295) : decide (IntKind.i64.wrap ((BitVec.ofInt 64 o ||| BitVec.ofInt 64 4095).toNat : Nat) = 4095) = vTkF o := by
 obtain ⟨n, rfl⟩ : ∃ n : Nat, o = n := ⟨o.toNat, by omega⟩
 have hn : n < 4294967296 := by omega
 have e1 : (BitVec.ofInt 64 (n : Int) ||| BitVec.ofInt 64 4095).toNat = n ||| 4095 := by
  rw [BitVec.toNat_or]
  have a : (BitVec.ofInt 64 (n : Int)).toNat = n := by rw [BitVec.toNat_ofInt]; omega
  have b : (BitVec.ofInt 64 4095).toNat = 4095 := by decide
  rw [a, b]
 have e2 : (BitVec.ofInt 32 4095 &&& BitVec.ofInt 32 (n : Int)).toNat = 4095 &&& n := by
  rw [BitVec.toNat_and]
  have a : (BitVec.ofInt 32 (n : Int)).toNat = n := by rw [BitVec.toNat_ofInt]; omega
  have b : (BitVec.ofInt 32 4095).toNat = 4095 := by decide
  rw [a, b]
 have l1 : n ||| 4095 < 2 ^ 32 := Nat.or_lt_two_pow hn (by decide)
 have l2 : 4095 &&& n < 2 ^ 32 := Nat.and_lt_two_pow _ hn
 have := @j1V n 4095
 unfold vTkF andU
 rw [e1, e2]
 generalize n ||| 4095 = x at *
 generalize 4095 &&& n = y at *
 rw [wrapi (by omega), u32w, decide_eq_decide]
 omega
theorem j0G (a s d w : Int) : vLife (a, s, d, w) = (decide (0 ≤ a) && (decide (a ≤ s) && (decide (s < d) && (decide (d ≤ 1099511627776) && (decide (w = 0) || mIn d 1099511627776 w))))) := by
 rw [Bool.eq_iff_iff]
 simp only [vLife, mIn, Bool.and_eq_true, Bool.or_eq_true, decide_eq_true_eq]
 show ((0 : Int) ≤ a ∧ a ≤ (1099511627776 : Int)) ∧ a ≤ s ∧ s < d ∧ ((0 : Int) ≤ d ∧ d ≤ (1099511627776 : Int)) ∧ (w = 0 ∨ d ≤ w ∧ w ≤ (1099511627776 : Int)) ↔ _
 omega
end Go.Proofs.YtcjehhejgimmdaaGreatDoor
namespace Go.Proofs
open Go.Shelf
def Tryz.lays156_ren : Go.Shelf.Ren := ⟨fun | 156 => 326 | 165 => 350 | 166 => 351 | 169 => 352 | 240 => 365 | 241 => 366 | 276 => 376 | 277 => 311 | n => n, fun | 31 => 29 | 9 => 9 | 3 => 3 | 4 => 4 | 0 => 0 | 20 => 20 | 72 => 367 | 76 => 371 | 70 => 365 | 37 => 22 | 75 => 370 | 127 => 387 | 164 => 396 | 5 => 5 | 80 => 373 | n => n, fun | n => n⟩
theorem Tryz.lays156 : Go.Proofs.Lays.n156 Tryz.prog Tryz.lays156_ren := {
  mixed := by kernel_rfl
  f156 := Tryz.func326.trans (congrArg some (by kernel_rfl))
  f165 := Tryz.func350.trans (congrArg some (by kernel_rfl))
  f166 := Tryz.func351.trans (congrArg some (by kernel_rfl))
  f169 := Tryz.func352.trans (congrArg some (by kernel_rfl))
  f240 := Tryz.func365.trans (congrArg some (by kernel_rfl))
  f241 := Tryz.func366.trans (congrArg some (by kernel_rfl))
  f276 := Tryz.func376.trans (congrArg some (by kernel_rfl))
  f277 := Tryz.func311.trans (congrArg some (by kernel_rfl))
  t0 := Tryz.underlying0
  a0 := Tryz.isAgg0
  z0 := Tryz.sizeOf0
  v0 := Tryz.zeroValue0
  t3 := Tryz.underlying3
  a3 := Tryz.isAgg3
  z3 := Tryz.sizeOf3
  v3 := Tryz.zeroValue3
  t4 := Tryz.underlying4
  a4 := Tryz.isAgg4
  z4 := Tryz.sizeOf4
  v4 := Tryz.zeroValue4
  t9 := Tryz.underlying9
  a9 := Tryz.isAgg9
  z9 := Tryz.sizeOf9
  v9 := Tryz.zeroValue9
  t20 := Tryz.underlying20
  a20 := Tryz.isAgg20
  z20 := Tryz.sizeOf20
  v20 := Tryz.zeroValue20
  t31 := Tryz.underlying29
  a31 := Tryz.isAgg29
  z31 := Tryz.sizeOf29
  v31 := Tryz.zeroValue29
  t37 := Tryz.underlying22
  a37 := Tryz.isAgg22
  z37 := Tryz.sizeOf22
  v37 := Tryz.zeroValue22
  t70 := Tryz.underlying365
  a70 := Tryz.isAgg365
  z70 := Tryz.sizeOf365
  v70 := Tryz.zeroValue365
  t72 := Tryz.underlying367
  a72 := Tryz.isAgg367
  z72 := Tryz.sizeOf367
  v72 := Tryz.zeroValue367
  t75 := Tryz.underlying370
  a75 := Tryz.isAgg370
  z75 := Tryz.sizeOf370
  v75 := Tryz.zeroValue370
  t76 := Tryz.underlying371
  a76 := Tryz.isAgg371
  z76 := Tryz.sizeOf371
  v76 := Tryz.zeroValue371
  t127 := Tryz.underlying387
  a127 := Tryz.isAgg387
  z127 := Tryz.sizeOf387
  v127 := Tryz.zeroValue387
  t164 := Tryz.underlying396
  a164 := Tryz.isAgg396
  z164 := Tryz.sizeOf396
  v164 := Tryz.zeroValue396 }
theorem Tryz.Builder_Extra_156 : Builder.Extra Tryz.prog Tryz.lays156_ren := {
  sizeBuilder := by kernel_rfl
  liesBuilder := by kernel_rfl
  t5 := Tryz.underlying5
  a5 := Tryz.isAgg5
  z5 := Tryz.sizeOf5
  v5 := Tryz.zeroValue5
  infoByte := by kernel_rfl
  cellsByte := by kernel_rfl
  sizeByte := by kernel_rfl
  neB5 := by decide }
open Go.RowKit in
theorem Tryz.strings_Join_none (a : Option Addr) (c : Nat) (sep : ByteArray) (w : World) :
    Calls Tryz.prog 326 #[.slice a 0 c, .string sep] w fun e w' => e = .returned (.string ⟨#[]⟩) ∧ w' = w := Any.strings_Join_none Tryz.lays156 Tryz.Builder_Extra_156 a c sep w
open Go.RowKit in
theorem Tryz.strings_Join (bk o c : Nat) (xs : List ByteArray) (sep : ByteArray) (w : World) (hcells : ∀ (j : Nat) x, xs[j]? = some x → w.cell? ⟨bk, o + j, none⟩ = some (.string x)) (hbk : bk < w.heap.size) (hN : xs.length ≤ 140737488355328) (hcap : xs.length ≤ c) (hlen : (Lib.join (xs.map (·.data.toList)) sep.data.toList).length ≤ 140737488355328) :
    Calls Tryz.prog 326 #[.slice (some ⟨bk, o, none⟩) xs.length c, .string sep] w fun e w' => e = .returned (.string ⟨(Lib.join (xs.map (·.data.toList)) sep.data.toList).toArray⟩) ∧ Below w.heap.size w w' := Any.strings_Join Tryz.lays156 Tryz.Builder_Extra_156 bk o c xs sep w hcells hbk hN hcap hlen
def Tryz.laysM171_ren : Go.Shelf.Ren := ⟨fun | 171 => 297 | 243 => 327 | 246 => 353 | 283 => 354 | 284 => 355 | 285 => 356 | 286 => 357 | 129 => 368 | 317 => 367 | 318 => 369 | 319 => 370 | 320 => 371 | 337 => 377 | 338 => 378 | n => n, fun | 3 => 3 | 9 => 9 | 2 => 2 | 4 => 4 | 171 => 375 | 0 => 0 | 53 => 305 | 37 => 22 | 5 => 5 | 173 => 378 | 212 => 389 | 51 => 25 | 20 => 20 | 213 => 390 | 46 => 173 | 232 => 297 | 233 => 349 | n => n, fun | 17 => 4 | 18 => 6 | 19 => 7 | n => n⟩
theorem Tryz.laysM171 : Go.Proofs.LaysM.n171 Tryz.prog Tryz.laysM171_ren := {
  mixed := by kernel_rfl
  f129 := Tryz.func368.trans (congrArg some (by kernel_rfl))
  f171 := Tryz.func297.trans (congrArg some (by kernel_rfl))
  f243 := Tryz.func327.trans (congrArg some (by kernel_rfl))
  f246 := Tryz.func353.trans (congrArg some (by kernel_rfl))
  f283 := Tryz.func354.trans (congrArg some (by kernel_rfl))
  f284 := Tryz.func355.trans (congrArg some (by kernel_rfl))
  f285 := Tryz.func356.trans (congrArg some (by kernel_rfl))
  f286 := Tryz.func357.trans (congrArg some (by kernel_rfl))
  f317 := Tryz.func367.trans (congrArg some (by kernel_rfl))
  f318 := Tryz.func369.trans (congrArg some (by kernel_rfl))
  f319 := Tryz.func370.trans (congrArg some (by kernel_rfl))
  f320 := Tryz.func371.trans (congrArg some (by kernel_rfl))
  f337 := Tryz.func377.trans (congrArg some (by kernel_rfl))
  f338 := Tryz.func378.trans (congrArg some (by kernel_rfl))
  t0 := Tryz.underlying0
  a0 := Tryz.isAgg0
  z0 := Tryz.sizeOf0
  v0 := Tryz.zeroValue0
  t2 := Tryz.underlying2
  a2 := Tryz.isAgg2
  z2 := Tryz.sizeOf2
  v2 := Tryz.zeroValue2
  t3 := Tryz.underlying3
  a3 := Tryz.isAgg3
  z3 := Tryz.sizeOf3
  v3 := Tryz.zeroValue3
  t4 := Tryz.underlying4
  a4 := Tryz.isAgg4
  z4 := Tryz.sizeOf4
  v4 := Tryz.zeroValue4
  t5 := Tryz.underlying5
  a5 := Tryz.isAgg5
  z5 := Tryz.sizeOf5
  v5 := Tryz.zeroValue5
  t9 := Tryz.underlying9
  a9 := Tryz.isAgg9
  z9 := Tryz.sizeOf9
  v9 := Tryz.zeroValue9
  t20 := Tryz.underlying20
  a20 := Tryz.isAgg20
  z20 := Tryz.sizeOf20
  v20 := Tryz.zeroValue20
  t37 := Tryz.underlying22
  a37 := Tryz.isAgg22
  z37 := Tryz.sizeOf22
  v37 := Tryz.zeroValue22
  t46 := Tryz.underlying173
  a46 := Tryz.isAgg173
  z46 := Tryz.sizeOf173
  v46 := Tryz.zeroValue173
  t51 := Tryz.underlying25
  a51 := Tryz.isAgg25
  z51 := Tryz.sizeOf25
  v51 := Tryz.zeroValue25
  t53 := Tryz.underlying305
  a53 := Tryz.isAgg305
  z53 := Tryz.sizeOf305
  v53 := Tryz.zeroValue305
  t171 := Tryz.underlying375
  a171 := Tryz.isAgg375
  z171 := Tryz.sizeOf375
  v171 := Tryz.zeroValue375
  t173 := Tryz.underlying378
  a173 := Tryz.isAgg378
  z173 := Tryz.sizeOf378
  v173 := Tryz.zeroValue378
  t212 := Tryz.underlying389
  a212 := Tryz.isAgg389
  z212 := Tryz.sizeOf389
  v212 := Tryz.zeroValue389
  t213 := Tryz.underlying390
  a213 := Tryz.isAgg390
  z213 := Tryz.sizeOf390
  t232 := Tryz.underlying297
  a232 := Tryz.isAgg297
  z232 := Tryz.sizeOf297
  v232 := Tryz.zeroValue297
  t233 := Tryz.underlying349
  a233 := Tryz.isAgg349
  z233 := Tryz.sizeOf349
  v233 := Tryz.zeroValue349
  g17 := by kernel_rfl
  g18 := by kernel_rfl
  g19 := by kernel_rfl
  i0 := by kernel_rfl
  i2 := by kernel_rfl
  i3 := by kernel_rfl
  i4 := by kernel_rfl
  i5 := by kernel_rfl
  i9 := by kernel_rfl
  i20 := by kernel_rfl
  i37 := by kernel_rfl
  i46 := by kernel_rfl
  i51 := by kernel_rfl
  i53 := by kernel_rfl
  i171 := by kernel_rfl
  i173 := by kernel_rfl
  i212 := by kernel_rfl
  i232 := by kernel_rfl
  i233 := by kernel_rfl
  m17 := by kernel_rfl
  m18 := by kernel_rfl
  m19 := by kernel_rfl }
open Go.RowKit Go.Sort Go.Lib in
theorem Tryz.strconv_Itoa (n : Int) (h0 : -9223372036854775808 ≤ n) (h1 : n ≤ 9223372036854775807) (w : World) (htab : Lib.TabIs Tryz.prog w "internal/strconv.uint64pow10" .u64 Lib.pow10Tab) :
    Calls Tryz.prog 297 #[.int .i64 n] w fun e w' => e = .returned (.string ⟨(Lib.itoa n).toArray⟩) ∧ ∃ k os, w' = grow (w.drewN k) os := Any.strconv_Itoa Tryz.laysM171 n h0 h1 w htab
end Go.Proofs
set_option linter.unusedSectionVars false
namespace Go.Sx
open Go

variable {P : Program}
def PCE (P : Program) (f : FuncId) (args : List SV) (p : SV → Prop) : Prop := enters P f = true ∧ ∀ (H : List SObj) (K : Out → List SObj → Prop), (∀ s, p s → K (.ret s) H) → VCall P f args H K
theorem PCE.mono {f : FuncId} {args : List SV} {p q : SV → Prop} (h : PCE P f args p) (hq : ∀ s, p s → q s) : PCE P f args q := ⟨h.1, fun H K hk => h.2 H K fun s hs => hk s (hq s hs)⟩
theorem q9b {f : FuncId} {us : Array Value} {p : SV → Prop} {C : Cx} {H : List SObj} {K : Out → List SObj → Prop} (hr : ∀ r, p r → r.clean = true) (hw : Wd C H)
 (h : Calls P f us C.w fun e w' => ∃ o H' C', (∃ r, p r ∧ o = .ret r) ∧ C'.w = w' ∧ Wd C' H' ∧ Ext ⟨{ C with n := 0 }, []⟩ C' H' ∧ outDen C' o e) (hk : ∀ r, p r → K (.ret r) H) :
 Calls P f us C.w fun e w' => ∃ o H' C', K o H' ∧ C'.w = w' ∧ Wd C' H' ∧ Ext ⟨C, H⟩ C' H' ∧ outDen C' o e := by
 refine h.mono ?_
 rintro e w' ⟨o, H', C', ⟨r, hp, rfl⟩, rfl, hw', hx, v, rfl, hd⟩
 have hold : ∀ b, b < C.w.heap.size → C'.w.heap[b]? = C.w.heap[b]? := fun b hb => hx.frame b hb (fun ⟨h, o, ho, _⟩ => by simp at ho)
 have hI : Keeps C.I C'.I C.w C'.w := hx.evo.I
 let D : Cx := { ρ := C.ρ, n := C.n, I := C'.I, w := C'.w }
 have hev : Evo C D := ⟨Nat.le_refl _, fun _ _ => rfl, hI, hx.evo.sz⟩
 have hIn : ∀ b, C'.I b → b < C.w.heap.size → C.I b := fun b hb hlt => by
  rcases hx.immNew b hb with h1 | ⟨h1 | ⟨h, o, ho, _⟩, _⟩
  · exact h1
  · exact absurd hlt (by have : C.w.heap.size ≤ b := h1; omega)
  simp at ho
 refine ⟨.ret r, H, D, hk r hp, rfl, ?_, ?_, v, rfl, q0S (C := C') (C' := D) (Keeps.refl _ _) (hr r hp) hd⟩
 · refine ⟨hw.n, fun h o ho => ?_, fun b hb => ?_, hw.inj, hw'.imm⟩
   · have := hw.obj h o ho
     by_cases hl : o.live = true
     · exact q0P (C' := D) hI h rfl (fun b hb => hold b (hw.own b ⟨h, o, ho, hl, hb⟩).2) (q0u hev) this
     cases o <;> first | trivial | simp [SObj.live] at hl
   obtain ⟨h1, h2⟩ := hw.own b hb
   exact ⟨fun hi => h1 (hIn b hi h2), Nat.lt_of_lt_of_le h2 hx.size⟩
 refine ⟨hev, hx.size, hx.os, hx.tape, hx.output, fun b hb _ => hold b hb, fun b hb => ?_, fun b hb => .inr hb, fun _ _ h => h⟩
 rcases hx.immNew b hb with h1 | ⟨h1 | ⟨h, o, ho, _⟩, u⟩
 · exact .inl h1
 · exact .inr ⟨.inl h1, u⟩
 simp at ho
def PKX (p : SV → Prop) : Out → List SObj → Prop := fun o _ => ∃ s, p s ∧ o = .ret s
theorem q4a {f : FuncId} {args : List SV} {p : SV → Prop} (ha : SV.cleanL args = true) (hs : ∀ s, p s → s.clean = true) (h : VC P f args [] (PKX p)) : PCE P f args p :=
 ⟨h.1, fun _ _ hk C vs hw ht hv => q9b hs hw (h.2 { C with n := 0 } vs hw.nil ht (q2a (C := C) (C' := { C with n := 0 }) (Keeps.refl _ _) ha hv)) hk⟩
def SealE (p : SV → Prop) : Out → List SObj → Prop := fun o H => ∃ s, p s ∧ SealK s o H
theorem z7a {f : FuncId} {args : List SV} {p : SV → Prop} (ha : SV.cleanL args = true) (hs : ∀ s, p s → s.clean = true) (h : VC P f args [] (SealE p)) : PCE P f args p := by
 refine q4a ha hs ⟨h.1, fun C vs hw ht hv => (h.2 C vs hw ht hv).mono ?_⟩
 rintro e w' ⟨o, H', C', ⟨s, hp, hk⟩, rfl, hw', hx, hd⟩
 cases o with
 | pan s0 => exact hk.elim
 | ret s0 =>
  simp only [SealK] at hk
  split at hk
  · rename_i s1 q hs
    obtain ⟨v, rfl, hd⟩ := hd
    have hn : C.n = 0 := hw.n
    refine ⟨.ret s, [], C'.shut H', ⟨s, hp, rfl⟩, rfl, ⟨rfl, fun h o ho => by simp at ho, fun b ⟨h, o, ho, _⟩ => by simp at ho, fun h h' o o' b ho => by simp at ho, ?_⟩, ⟨⟨by rw [hn]; exact Nat.le_refl _, fun h hh => by rw [hn] at hh; exact absurd hh (Nat.not_lt_zero h), fun b hb => ⟨.inl (hx.evo.I b hb).1, (hx.evo.I b hb).2⟩, hx.evo.sz⟩, hx.size, hx.os, hx.tape, hx.output, hx.frame, ?_, fun b ⟨h, o, ho, _⟩ => by simp at ho, fun _ _ h => by simp at h⟩, v, rfl, q7X hk.2 (q4T hw' hs hk.1 hd)⟩
    · rintro b (hb | hb)
      · exact hw'.imm b hb
      exact (hw'.own b hb).2
    rintro b (hb | hb)
    · exact hx.immNew b hb
    exact .inr ⟨hx.ownNew b hb, (q4i hw' hb : Unf C'.w b)⟩
  exact hk.elim

section
variable [Ghost] {AQ : Ex → List SV → List SObj → Prop}
theorem q1T {f : FuncId} {args : List SV} {p : SV → Prop} {d : Option Tmp} {m : IM} (hp : PCE P f args p) (h : ∀ s, p s → SoundI P AQ { m with tmps := putT m.tmps d s }) : CallI P AQ f args d m :=
 ⟨hp.1, (hp.2 _ _ h).g⟩
theorem z3X {G : List Nat} {f : FuncId} {args : List SV} {p : SV → Prop} {d : Option Tmp} {m : IM} (hp : PCE P f args p) (h : ∀ s, p s → SoundI P AQ { m with tmps := putT m.tmps d s }) : CallR P AQ G f args d m :=
 ⟨hp.1, (hp.2 _ _ fun s hs => ⟨fun _ => SameG.refl _ _, h s hs⟩).g⟩
end

theorem z8W {f : FuncId} {args : List SV} {s : SV} (ha : SV.cleanL args = true) (hs : s.clean = true) (he : enters P f = true)
 (h : ∀ (C : Cx) (vs : List Value), (∀ b, C.I b → b < C.w.heap.size) → TabT C.I C.w → SV.denL C args vs → Calls P f vs.toArray C.w fun e w' => (∃ v, e = .returned v ∧ ∀ C' : Cx, C'.w = w' → C'.I = C.I → s.den C' v) ∧ RowKit.Below C.w.heap.size C.w w') : PC P f args s := by
 refine q0B ha hs ⟨he, fun C vs hw ht hv => (h C vs hw.imm ht hv).mono ?_⟩
 rintro e w' ⟨⟨v, rfl, hd⟩, hb⟩
 have hn : C.n = 0 := hw.n
 have hk : ∀ b, b < C.w.heap.size → w'.heap[b]? = C.w.heap[b]? := hb.block
 refine ⟨.ret s, [], { C with w := w' }, rfl, rfl, ⟨hn, fun h o ho => by simp at ho, fun b ⟨h, o, ho, _⟩ => by simp at ho, fun h h' o o' b ho => by simp at ho, fun b hb' => Nat.lt_of_lt_of_le (hw.imm b hb') hb.size⟩,
  ⟨⟨Nat.le_refl _, fun _ _ => rfl, fun b hI => ⟨hI, hk b (hw.imm b hI)⟩, fun b m hm => ?_⟩, hb.size, hb.os, hb.tape, hb.output, fun b hlt _ => hk b hlt, fun b hI => .inl hI, fun b ⟨h, o, ho, _⟩ => by simp at ho, fun _ _ h => h⟩, v, rfl, hd _ rfl rfl⟩
 unfold World.bsize at hm ⊢
 have hlt : b < C.w.heap.size := by
  rcases Nat.lt_or_ge b C.w.heap.size with h1 | h1
  · exact h1
  rw [Array.getElem?_eq_none h1] at hm; simp at hm
 rw [show ({ C with w := w' } : Cx).w.heap[b]? = C.w.heap[b]? from hk b hlt]; exact hm
theorem z3k (w : World) (k : Nat) (os : Array Obj) : RowKit.Below w.heap.size w (Go.Sort.grow (w.drewN k) os) :=
 ⟨rfl, rfl, rfl, by simp [Go.Sort.grow, World.drewN], fun b hb => by simp [Go.Sort.grow, World.drewN, Array.getElem?_append_left hb]⟩

section
variable {AQ : Ex → List SV → List SObj → Prop}
theorem z7c {I : Nat → Prop} {w : World} {b off : Nat} {vs : List Value} {v : Value} (ht : TabT I w) (hm : (b, vs) ∈ tabList) (hv : vs[off]? = some v) : w.cell? ⟨b, off, none⟩ = some v := by
 obtain ⟨_, T, fz, h⟩ := ht _ hm
 rw [q0A h]; exact hv
theorem j1s [Ghost] {b off : Nat} {vs : List Value} {v : Value} {d : Option Tmp} {m : IM} (hm : (b, vs) ∈ tabList) (hv : vs[off]? = some v) (hk : SoundI P AQ { m with tmps := putT m.tmps d (.raw v) }) : ZldI P AQ none b off d m := by
 rintro E C _ ⟨ht, _⟩
 refine ⟨.raw v, ⟨[.raw v], [v], by simp [SV.denL, SV.den], fun j u hj => ?_, rfl⟩, hk⟩
 cases j with
 | zero => cases hj; exact z7c ht hm hv
 | succ j => simp at hj
end
end Go.Sx
namespace Go.Proofs.YtcjehhejgimmdaaGreatDoor
open Go Go.Sx Go.Proofs
set_option maxRecDepth 100000
set_option maxHeartbeats 4000000
theorem z9Z {P : Program} {s : String} {k : Nat} (hk : k < tabList.length) (hP : P.globalNamed s = some (tabList[k].1)) {I : Nat → Prop} {w : World} (ht : TabT I w) : w.var? P s = some tabList[k].2.toArray := by
 obtain ⟨_, T, fz, hc⟩ := ht _ (List.getElem_mem hk)
 simp only [World.var?, hP, Option.bind_some, hc]
def itoaS (n : Nat) : ByteArray := ⟨(Lib.itoa n).toArray⟩
theorem j1I (n : Nat) (h : n < 256) : PC Tryz.prog 297 [rI n] (rS (itoaS n)) := by
 refine z8W rfl rfl (by kernel_rfl) fun C vs _ ht hv => ?_
 obtain ⟨v, us, rfl, hd, hn⟩ := q0g.1 hv
 rw [q0F] at hn; subst hn
 rw [SV.den] at hd; subst hd
 refine (Any.strconv_Itoa Tryz.laysM171 (n : Int) (by omega) (by omega) C.w (z9Z (k := 0) (by decide) (by kernel_rfl) ht)).mono ?_
 rintro e w' ⟨rfl, k, os, rfl⟩
 exact ⟨⟨_, rfl, fun C' _ _ => by rw [SV.den]; rfl⟩, z3k _ _ _⟩
theorem z3a (n : Nat) (h : n < 256) : (itoaS n).size ≤ 32 := by
 have := Lib.itoa_length_le (n : Int) (by omega) (by omega)
 show (Lib.itoa n).toArray.size ≤ 32
 simp; omega
def joinS (xs : List ByteArray) (sep : ByteArray) : ByteArray := ⟨(Lib.join (xs.map (·.data.toList)) sep.data.toList).toArray⟩
theorem z5X {k : Nat} : ∀ (xs : List ByteArray), (∀ x ∈ xs, x.size ≤ k) → Lib.lens (xs.map (·.data.toList)) ≤ k * xs.length
 | [], _ => by simp [Lib.lens]
 | x :: xs, h => by
  have h1 := z5X xs fun y hy => h y (List.mem_cons_of_mem _ hy)
  have h2 := h x List.mem_cons_self
  have h3 : x.data.toList.length = x.size := rfl
  simp only [Lib.lens, List.map_cons, List.sum_cons, List.length_cons, Nat.mul_add, Nat.mul_one] at *
  omega
theorem z5x {k : Nat} (xs : List ByteArray) (sep : ByteArray) (h : ∀ x ∈ xs, x.size ≤ k) : (Lib.join (xs.map (·.data.toList)) sep.data.toList).length ≤ (sep.size + k) * xs.length := by
 cases xs with
 | nil => simp [Lib.join_nil]
 | cons x xs =>
  have h1 := z5X (x :: xs) h
  have h2 : sep.data.toList.length = sep.size := rfl
  rw [List.map_cons] at h1 ⊢
  rw [Lib.join_length, h2, List.length_map, Nat.add_mul, List.length_cons, Nat.mul_add]
  rw [List.length_cons] at h1
  omega
theorem q4Y {k : Nat} (xs : List ByteArray) (sep : ByteArray) (h : ∀ x ∈ xs, x.size ≤ k) : (joinS xs sep).size ≤ (sep.size + k) * xs.length := by
 have := z5x xs sep h
 show (Lib.join _ _).toArray.size ≤ _
 simpa using this
theorem j0t (xs : List ByteArray) (sep : ByteArray) (h : ∀ x ∈ xs, x.size ≤ 65) (hl : xs.length ≤ 16) (hs : sep.size ≤ 16) : PC Tryz.prog 326 [.isl .str xs, rS sep] (rS (joinS xs sep)) := by
 have hle := z5x xs sep h
 have hle' : (Lib.join (xs.map (·.data.toList)) sep.data.toList).length ≤ 140737488355328 := by
  have : (sep.size + 65) * xs.length ≤ 81 * 16 := Nat.mul_le_mul (by omega) hl
  omega
 refine z8W rfl rfl (by kernel_rfl) fun C vs hI ht hv => ?_
 obtain ⟨v, us, rfl, hd, hn⟩ := q0g.1 hv
 obtain ⟨v2, us2, rfl, hd2, hn⟩ := q0g.1 hn
 rw [q0F] at hn; subst hn
 rw [SV.den] at hd2; subst hd2
 rw [SV.den] at hd
 obtain ⟨A, n, c, e, rfl, hc, _, hd⟩ := hd
 cases e
 rcases hd with rfl | ⟨b, off, rfl, hb, hd⟩
 · refine (Tryz.strings_Join_none A c sep C.w).mono ?_
   rintro e w' ⟨rfl, rfl⟩
   exact ⟨⟨_, rfl, fun C' _ _ => by rw [SV.den]; rfl⟩, RowKit.Below.refl _ _⟩
 refine (Tryz.strings_Join b off c xs sep C.w (fun j x hx => ?_) (hI b hb) (by omega) hc hle').mono ?_
 · obtain ⟨us, hr, hcell⟩ := hd j x hx
   cases hr.1
   have := hcell 0 _ rfl
   simpa [Ty.size] using this
 rintro e w' ⟨rfl, hbl⟩
 exact ⟨⟨_, rfl, fun C' _ _ => by rw [SV.den]; rfl⟩, hbl⟩
theorem q8M (xs : List ByteArray) (sep : ByteArray) (h : ∀ x ∈ xs, x.size ≤ 65) (hl : xs.length ≤ 16) (hs : sep.size ≤ 16) : PC Tryz.prog 294 [rS sep, .isl .str xs] (rS (joinS xs sep)) := by
 refine q0B rfl rfl ?_
 refine rQ fi294 ?_
 refine q0a (j0t xs sep h hl hs) ?_
 refine gQ ?_; trivial

theorem j2D : PC Tryz.prog 370 [rI 16] (rB true) := by
 refine q0B rfl rfl ?_
 refine rQ fi370 ?_
 decide
theorem j2a : PC Tryz.prog 378 [.raw (.int .u64 16)] (rI 4) := by
 refine q0B rfl rfl ?_
 refine rQ fi378 ?_
 generalize hx : Int.fdiv _ (2 ^ min 58 64) = x
 have h15 : x = 15 := by rw [← hx]; decide
 clear hx
 subst h15
 refine ⟨by decide, j1s (vs := tabList[1].2) (v := .int .u8 4) (List.getElem_mem (l := tabList) (n := 1) (by decide)) rfl ?_⟩
 refine gQ ?_
 rfl
theorem tz_c : PC Tryz.prog 371 [.raw (.int .u64 16)] (rI 4) := by
 refine q0B rfl rfl ?_
 refine rQ fi371 ?_
 refine q0a j2a ?_
 refine gQ ?_; trivial
def qH (n : Nat) : Nat → Nat
 | 0 => n
 | j + 1 => qH n j / 16
theorem j1S {n : Nat} (h : n < 65536) : ∀ j, qH n j < 65536 ∧ (1 ≤ j → qH n j < 4096) ∧ (2 ≤ j → qH n j < 256) ∧ (3 ≤ j → qH n j < 16)
 | 0 => ⟨h, by omega, by omega, by omega⟩
 | j + 1 => by
  obtain ⟨h1, h2, h3, h4⟩ := j1S h j
  simp only [qH]
  refine ⟨by omega, fun _ => by omega, fun _ => ?_, fun _ => ?_⟩
  · rcases Nat.eq_zero_or_pos j with rfl | hj
    · omega
    have := h2 hj; omega
  have := h3 (by omega); omega
def digsH : ByteArray := ⟨#[48, 49, 50, 51, 52, 53, 54, 55, 56, 57, 97, 98, 99, 100, 101, 102, 103, 104, 105, 106, 107, 108, 109, 110, 111, 112, 113, 114, 115, 116, 117, 118, 119, 120, 121, 122]⟩
def digH (k : Nat) : UInt8 := digsH.data.toList.getD k 0
def rowH (n : Nat) : Nat → List UInt8
 | 0 => List.replicate 65 0
 | j + 1 => (rowH n j).set (64 - j) (digH (qH n j % 16))
theorem z1v (n : Nat) : ∀ j, (rowH n j).length = 65
 | 0 => by simp [rowH]
 | j + 1 => by rw [rowH, List.length_set, z1v n j]
theorem and15 (q : Nat) (h : q < 65536) : IntKind.u64.wrap ((BitVec.ofInt 64 (q : Int) &&& BitVec.ofInt 64 15).toNat : Nat) = ((q % 16 : Nat) : Int) := by
 have e : (BitVec.ofInt 64 (q : Int) &&& BitVec.ofInt 64 15).toNat = q % 16 := by
  rw [BitVec.toNat_and]
  have a : (BitVec.ofInt 64 (q : Int)).toNat = q := by rw [BitVec.toNat_ofInt]; omega
  have b : (BitVec.ofInt 64 15).toNat = 15 := by decide
  rw [a, b]
  exact Nat.and_two_pow_sub_one_eq_mod q 4
 rw [e]
 simp [IntKind.wrap, IntKind.bits, IntKind.signed]
 omega
theorem j0n (n : Nat) (hn : n < 65536) : PCE Tryz.prog 357 [.raw (.slice none 0 0), .raw (.int .u64 n), rI 16, rB false, rB false] (fun s => ∃ str : ByteArray, str.size ≤ 65 ∧ s = .tup [.raw (.slice none 0 0), rS str]) := by
 refine q4a rfl (by rintro _ ⟨s, _, rfl⟩; rfl) ?_
 refine q1J fi357 (q0l mixed 3 _ ?_)
 with_reducible refine sxE ?_
 refine uQ 20 _ ?_
 with_reducible refine sxE ?_
 refine uQ 30 _ ?_
 with_reducible refine sxE ?_
 refine q0a j2D ?_
 refine uQ 30 _ ?_
 with_reducible refine sxE ?_
 refine q0a tz_c ?_
 have w4 : IntKind.u64.wrap 4 = 4 := by decide
 have w16 : IntKind.u64.wrap 16 = 16 := by decide
 have w15 : IntKind.u64.wrap (16 - 1) = 15 := by decide
 refine uQ 30 _ ?_
 simp (maxSteps := 3000000) only [w4, w16, w15, go_sem, ↓zA, ↓reduceIte, ↓reduceDIte] <;> try simp only [zB]
 refine q1f (ι := Nat) (fun j => [(1, .raw (.int .u64 (qH n j : Nat))), (13, rI (65 - (j : Int)))]) (fun j => [.row .u8 (rowH n j)]) (fun j => qH n j) (fun j => j ≤ 3) 0 (by decide) rfl ?_ ?_
 · with_reducible refine sxE ?_
   exact ⟨rfl, rfl⟩
 intro j hj
 have hq := j1S hn j
 have hw1 : IntKind.i64.wrap (65 - (j : Int) - 1) = 64 - (j : Int) := by rw [show (65 : Int) - j - 1 = 64 - j by omega]; exact wrapi (by omega)
 have hln := z1v n j
 have hsh : ((qH n j : Nat) : Int).fdiv (2 ^ min 4 64) = ((qH n (j + 1) : Nat) : Int) := by
  rw [show (2 : Int) ^ min 4 64 = ((16 : Nat) : Int) by decide, z4s]; rfl
 have e64 : ((64 : Int) - j).toNat = 64 - j := by omega
 refine uQ 30 _ ?_
 simp (maxSteps := 3000000) only [hw1, hsh, go_sem, ↓zA, ↓reduceIte, ↓reduceDIte] <;> try simp only [zB]
 refine ⟨fun hge => ?_, fun hlt => ?_⟩
 · generalize hX : IntKind.u64.wrap _ = X
   have hXv : X = ((qH n j % 16 : Nat) : Int) := by rw [← hX]; exact and15 _ hq.1
   clear hX
   subst hXv
   rw [e64, Nat.zero_add, UInt8.ofNat_toNat]
   refine ⟨by show qH n j % 16 < 36; omega, ⟨by omega, by omega⟩, ⟨by omega, rfl⟩, ?_⟩
   refine uQ 10 _ ?_
   with_reducible refine sxE ?_
   refine ⟨j + 1, by omega, by show qH n (j + 1) < qH n j; simp only [qH]; omega, rfl, ?_⟩
   with_reducible refine sxE ?_
   rw [show (64 : Int) - j = 65 - ((j + 1 : Nat) : Int) by omega]
 rw [e64, Nat.zero_add, UInt8.ofNat_toNat]
 refine ⟨⟨by omega, by show qH n j < 36; omega⟩, ⟨by omega, by omega⟩, ⟨by omega, rfl⟩, ?_⟩
 refine uQ 40 _ ?_
 with_reducible refine sxE ?_
 refine ⟨⟨by omega, by omega, by omega⟩, ⟨by rw [List.length_set, hln]; omega, by rw [List.length_set, hln]; omega⟩, _, ⟨_, ?_, rfl⟩, rfl⟩
 simp [strOf, ByteArray.size]
 omega
theorem z8c (n : Nat) (hn : n < 65536) : PCE Tryz.prog 328 [.raw (.int .u64 n), rI 16] (fun s => ∃ str : ByteArray, str.size ≤ 65 ∧ s = rS str) := by
 refine q4a rfl (by rintro _ ⟨s, _, rfl⟩; rfl) ?_
 refine rQ fi328 ?_
 refine q1T (j0n n hn) ?_
 rintro _ ⟨s, hs, rfl⟩
 refine gQ ?_
 exact ⟨_, ⟨_, hs, rfl⟩, rfl⟩
theorem z8x (n : Nat) (hn : n < 65536) : PCE Tryz.prog 299 [.raw (.int .u64 n), rI 16] (fun s => ∃ str : ByteArray, str.size ≤ 65 ∧ s = rS str) := by
 refine q4a rfl (by rintro _ ⟨s, _, rfl⟩; rfl) ?_
 refine rQ fi299 ?_
 refine q1T (z8c n hn) ?_
 rintro _ ⟨s, hs, rfl⟩
 refine gQ ?_
 exact ⟨_, ⟨_, hs, rfl⟩, rfl⟩
end Go.Proofs.YtcjehhejgimmdaaGreatDoor
