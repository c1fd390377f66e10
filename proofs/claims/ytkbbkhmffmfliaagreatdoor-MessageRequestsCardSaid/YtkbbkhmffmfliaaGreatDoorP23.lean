/- The plain law of reading: requests. -/
import Derived.Test.YtkbbkhmffmfliaaGreatDoorP22
import Derived.Test.YtkbbkhmffmfliaaGreatDoorP20
import Derived.Test.YtkbbkhmffmfliaaGreatDoorP17
import Derived.Test.YtkbbkhmffmfliaaGreatDoorP19
set_option linter.all false
namespace Go.Proofs.YtkbbkhmffmfliaaGreatDoor
open Go Go.Sx Go.Proofs
set_option maxRecDepth 100000
set_option maxHeartbeats 4000000
def adrS (l : List Pre) : List UInt8 := if vAdrs l then dataS l else []
def tkS (l : List Tick) : List UInt8 := elemS 48 (mapN (t := TickT) tickE l l.length)
def tkAt (l : List Tick) (j : Nat) : Bool := vTick (l.getD j TickT.dflt)
def vTks (l : List Tick) : Bool := decide ((l.length : Int) ≤ 16) && allN l.length (tkAt l)
def sRq (r : Req) : Bool := sReq r (vAdrs r.2.2.2.2.2.2.2.2.2.2.1) (vTks r.2.2.2.2.2.2.2.2.2.2.2)
def bodW (r : Req) : List UInt8 := bodyS r (adrS r.2.2.2.2.2.2.2.2.2.2.1) (tkS r.2.2.2.2.2.2.2.2.2.2.2)
def rqS (r : Req) : List UInt8 := reqS r (adrS r.2.2.2.2.2.2.2.2.2.2.1) (tkS r.2.2.2.2.2.2.2.2.2.2.2)
def vRq (r : Req) : Bool := sRq r && decide ((rqS r).length ≤ 65536)
theorem j0r {a : Pre} (h : vAdr a = true) : ((0 : Int) ≤ a.1 ∧ a.1 ≤ (2147483647 : Int)) ∧ a.2.length ≤ 16 := by
 obtain ⟨k, b⟩ := a
 simp only [vAdr, Bool.or_eq_true, Bool.and_eq_true, decide_eq_true_eq] at h
 change Int at k
 have hk : k = 2 ∨ k = 20 ∨ k = 24 := by
  rcases h with ⟨e, _⟩ | ⟨e, _⟩ | ⟨e, _⟩
  · exact .inl e
  · exact .inr (.inl e)
  exact .inr (.inr e)
 refine ⟨?_, ?_⟩
 · show (0 : Int) ≤ k ∧ k ≤ 2147483647
   omega
 rcases h with ⟨_, e⟩ | ⟨_, _, e, _⟩ | ⟨_, e⟩ <;> (show b.length ≤ 16; omega)
theorem z1e {l : List Pre} (h : vAdrs l = true) : l.length ≤ 16 ∧ ∀ a ∈ l, vAdr a = true := by
 simp only [vAdrs, Bool.and_eq_true, decide_eq_true_eq] at h
 refine ⟨by omega, fun p hp => ?_⟩
 obtain ⟨j, hj, rfl⟩ := List.getElem_of_mem hp
 have := q1u.1 h.2 j hj
 unfold adrAt at this
 rwa [List.getD_eq_getElem?_getD, List.getElem?_eq_getElem hj] at this
theorem q4V {l : List Pre} (h : vAdrs l = true) : vPre l = true := by
 obtain ⟨h16, hv⟩ := z1e h
 unfold vPre
 rw [Bool.and_eq_true, decide_eq_true_eq]
 refine ⟨by omega, q0l fun j hj => ?_⟩
 unfold preAt
 rw [List.getD_eq_getElem?_getD, List.getElem?_eq_getElem hj]
 obtain ⟨h1, h2⟩ := j0r (hv _ (List.getElem_mem hj))
 simp only [vPre1, mIn, Bool.and_eq_true, decide_eq_true_eq, Option.getD_some]
 exact ⟨h1, by omega⟩
theorem z2K {l : List Tick} (h : vTks l = true) : l.length ≤ 16 ∧ ∀ t ∈ l, vTick t = true := by
 simp only [vTks, Bool.and_eq_true, decide_eq_true_eq] at h
 refine ⟨by omega, fun p hp => ?_⟩
 obtain ⟨j, hj, rfl⟩ := List.getElem_of_mem hp
 have := q1u.1 h.2 j hj
 unfold tkAt at this
 rwa [List.getD_eq_getElem?_getD, List.getElem?_eq_getElem hj] at this
theorem q7z {l : List Int} (h : vProf l = true) : (1 ≤ l.length ∧ l.length ≤ 16) ∧ ∀ v ∈ l, 0 ≤ v ∧ v ≤ 2147483647 := by
 simp only [vProf, Bool.and_eq_true, decide_eq_true_eq] at h
 refine ⟨by omega, fun p hp => ?_⟩
 obtain ⟨j, hj, rfl⟩ := List.getElem_of_mem hp
 have := q1u.1 h.2.2.1 j hj
 unfold prfAt at this
 rw [List.getD_eq_getElem?_getD, List.getElem?_eq_getElem hj] at this
 simpa [mIn] using this
theorem j3U {l : List Pre} (h : vAdrs l = true) : (if preO l = [] then l = [] else adrP (preO l) = .ok (l, (preO l).length)) ∧ (preO l).length ≤ 262960 := by
 obtain ⟨h1, h2⟩ := j4p (q4V h)
 refine ⟨?_, h2⟩
 split at h1
 · rename_i e; rw [if_pos e]; exact h1
 rename_i e
 rw [if_neg e]
 unfold adrP
 rw [h1]
 simp only [chkP]
 rw [if_pos h]
theorem j4J {l : List Tick} (h : vTks l = true) : (if listS (t := TickT) tickE l = [] then l = [] else ticksP (listS (t := TickT) tickE l) = .ok (l, (listS (t := TickT) tickE l).length)) ∧ (listS (t := TickT) tickE l).length ≤ 1057605 := by
 obtain ⟨h16, hv⟩ := z2K h
 have hx : ∀ x ∈ l, tickE x ≠ [] ∧ ∀ r, tickP (tickE x ++ r) = .ok (x, (tickE x).length) := fun x hx => by
  rw [q4k (hv x hx)]
  exact ⟨z2G (hv x hx), (q7j (hv x hx)).2.2.2⟩
 have hB : ∀ x ∈ l, (tickE x).length ≤ 66100 := fun x hx => by
  rw [q4k (hv x hx)]
  exact q8K (hv x hx)
 have hf := q2F tickE 66100 l hB
 have hl := z8P (t := TickT) (l := l) 66100 hB
 refine ⟨j2b (t := TickT) h16 hx (by omega), by omega⟩
theorem j3E {l : List Int} (h : vProf l = true) : elemS 48 (mapN (t := I64) intS l l.length) ≠ [] ∧ inP 48 (listP intP 16) (elemS 48 (mapN (t := I64) intS l l.length)) = .ok (l, (elemS 48 (mapN (t := I64) intS l l.length)).length) ∧ (elemS 48 (mapN (t := I64) intS l l.length)).length ≤ 300 := by
 obtain ⟨h1, hv⟩ := q7z h
 have hz : ∀ v ∈ l, 0 ≤ v ∧ v ≤ 4611686018427387904 := fun v hm => ⟨(hv v hm).1, Int.le_trans (hv v hm).2 (by decide)⟩
 have hB : ∀ x ∈ l, (intS x).length ≤ 14 := fun x _ => q0O x
 have hf := q2F intS 14 l hB
 have e : elemS 48 (mapN (t := I64) intS l l.length) = tlv 48 (l.map intS).flatten := by unfold mapN; rw [List.take_length, q0X (by omega)]
 rw [e]
 refine ⟨q1k, full (q2i (by omega) (q4S l 16 (by omega) fun x hx => ⟨q7w (hz x hx), q5n (hz x hx)⟩)), ?_⟩
 rw [q0y]
 have := q1M (l.map intS).flatten.length
 omega
def cliO (k : Int) (p : Prin) : List UInt8 := if k = 10 then prinE p else []
def bodL (r : Req) : List (List UInt8) := [bitsS r.2.2.1, cliO r.1 r.2.2.2.1, prinE r.2.2.2.2.1, timO r.2.2.2.2.2.1, timeS r.2.2.2.2.2.2.1, timO r.2.2.2.2.2.2.2.1, intS r.2.2.2.2.2.2.2.2.1, elemS 48 (mapN (t := I64) intS r.2.2.2.2.2.2.2.2.2.1 r.2.2.2.2.2.2.2.2.2.1.length), preO r.2.2.2.2.2.2.2.2.2.2.1, listS (t := TickT) tickE r.2.2.2.2.2.2.2.2.2.2.2]
theorem z3D (n t : Int) : instS n t = wrapS 160 n (timO t) := by
 unfold instS timO
 rw [j0R]
 by_cases h : t = 0 <;> simp [h]
theorem j0p (n : Int) (p : Prop) [Decidable p] (w : List UInt8) : optS n (decide p) w = wrapS 160 n (if p then w else []) := by
 unfold optS
 by_cases h : p <;> simp [h, wrapS]
theorem z5p (k : Int) (pre : List Pre) (o : Int) (c s : Prin) (f t w n : Int) (pf : List Int) (ad : List Pre) (tk : List Tick) (h : vAdrs ad = true) :
 bodW (k, pre, o, c, s, f, t, w, n, pf, ad, tk) = tagS (bodL (k, pre, o, c, s, f, t, w, n, pf, ad, tk)) := by
 have h1 : hostS 8 ad (adrS ad) = wrapS 160 8 (preO ad) := by
  unfold adrS
  rw [if_pos h]
  exact z5n 8 ad
 have h2 : optS 9 (decide (0 < (tk.length : Int))) (tkS tk) = wrapS 160 9 (listS (t := TickT) tickE tk) := by
  rw [j0p]
  unfold listS tkS
  by_cases h0 : tk.length = 0
  · rw [if_pos h0, if_neg (by omega)]
  rw [if_neg h0, if_pos (by omega)]
 unfold bodW bodyS tagS
 dsimp only
 rw [h1, h2, z3D, z3D, j0p]
 rfl
theorem q2v {k : Int} {pre : List Pre} {o : Int} {c s : Prin} {f t w n : Int} {pf : List Int} {ad : List Pre} {tk : List Tick} (h : sRq (k, pre, o, c, s, f, t, w, n, pf, ad, tk) = true) :
 vKind k = true ∧ vPre pre = true ∧ vOpt o = true ∧ (if k = 10 then vPrin c else noN c) = true ∧ vPrin s = true ∧ (0 ≤ f ∧ f ≤ 1099511627776) ∧ (0 ≤ t ∧ t ≤ 1099511627776) ∧ (0 ≤ w ∧ w ≤ 1099511627776) ∧ (0 ≤ n ∧ n ≤ 4294967295) ∧ vProf pf = true ∧ vAdrs ad = true ∧ vTks tk = true := by
 have hd : sRq (k, pre, o, c, s, f, t, w, n, pf, ad, tk) = (vKind k && (vPre pre && (vOpt o && ((if k = 10 then vPrin c else noN c) && (vPrin s && (vTime f && (vTime t && (vTime w && (mIn 0 4294967295 n && (vProf pf && (vAdrs ad && vTks tk))))))))))) := rfl
 rw [hd] at h
 simp only [vTime, mIn, Bool.and_eq_true, decide_eq_true_eq] at h
 exact h
theorem j2A {L : List (List UInt8)} {k : Int} {c : Prin} (hL : ∀ j, (L.getD j []).length ≤ 16777215) (h1 : L.getD 1 [] = cliO k c) (hc : (if k = 10 then vPrin c else noN c) = true) (m : Nat) :
 cliP k (sufS L 1 (m + 1)) = .ok (c, (wrapS 160 ((1 : Nat) : Int) (L.getD 1 [])).length) ∧ (sufS L 1 (m + 1)).drop (wrapS 160 ((1 : Nat) : Int) (L.getD 1 [])).length = sufS L 2 m := by
 unfold cliP
 unfold cliO at h1
 by_cases hk : k = 10
 · rw [if_pos hk] at hc h1 ⊢
   obtain ⟨p1, p1l, p1n⟩ := q6f hc
   exact q1h hL (by omega) (by rw [h1]; exact p1n) (by rw [h1]; exact full p1)
 rw [if_neg hk] at hc h1 ⊢
 rw [q0S, h1, j1M hc]
 exact ⟨rfl, rfl⟩
theorem j0l (k : Int) (pre : List Pre) (o : Int) (c s : Prin) (f t w n : Int) (pf : List Int) (ad : List Pre) (tk : List Tick) (ho : 0 ≤ o ∧ o ≤ 4294967295) (h : sRq (k, pre, o, c, s, f, t, w, n, pf, ad, tk) = true) :
 bodW (k, pre, o, c, s, f, t, w, n, pf, ad, tk) = tlv 48 (sufS (bodL (k, pre, o, c, s, f, t, w, n, pf, ad, tk)) 0 10) ∧ (∀ j, ((bodL (k, pre, o, c, s, f, t, w, n, pf, ad, tk)).getD j []).length ≤ 16777215) ∧ (sufS (bodL (k, pre, o, c, s, f, t, w, n, pf, ad, tk)) 0 10).length ≤ 1400000 ∧
  bodP k pre (sufS (bodL (k, pre, o, c, s, f, t, w, n, pf, ad, tk)) 0 10) = .ok ((k, pre, o, c, s, f, t, w, n, pf, ad, tk), (sufS (bodL (k, pre, o, c, s, f, t, w, n, pf, ad, tk)) 0 10).length) := by
 obtain ⟨_, _, _, fc, fs, ff, ft, fw, fn, fp, fa, fk⟩ := q2v h
 have hE := z5p k pre o c s f t w n pf ad tk fa
 clear h
 have zn : (0 : Int) ≤ n ∧ n ≤ 4611686018427387904 := ⟨fn.1, Int.le_trans fn.2 (by decide)⟩
 obtain ⟨o, rfl⟩ : ∃ m : Nat, o = m := ⟨o.toNat, by omega⟩
 obtain ⟨f, rfl, gf⟩ := q7W ff
 obtain ⟨t, rfl, gt⟩ := q7W ft
 obtain ⟨w, rfl, gw⟩ := q7W fw
 obtain ⟨ps, psl, psn⟩ := q6f fs
 obtain ⟨b0l, b0n⟩ := q8G (o : Int)
 have b0 := full (z9I (n := o) (by omega))
 obtain ⟨pn, pp, ppl⟩ := j3E fp
 obtain ⟨pa, pal⟩ := j3U fa
 obtain ⟨pk, pkl⟩ := j4J fk
 have n4 : timeS (t : Int) ≠ [] := by rw [q3T (by omega)]; exact q1k
 have p4 := full (z3I gt)
 have l4 : (timeS (t : Int)).length ≤ 11 := by
  rw [q3T (by omega), q0y, q0t]; decide
 have l3 := z4N (f : Int)
 have l5 := z4N (w : Int)
 have l6 := q0O n
 have l1 : (cliO k c).length ≤ 205 := by
  unfold cliO
  split
  · rename_i e
    rw [if_pos e] at fc
    exact (q6f fc).2.1
  exact Nat.zero_le _
 have hL : ∀ j, ((bodL (k, pre, (o : Int), c, s, (f : Int), (t : Int), (w : Int), n, pf, ad, tk)).getD j []).length ≤ 16777215 := fun j => by
  match j with
  | 0 => show (bitsS (o : Int)).length ≤ _; omega
  | 1 => show (cliO k c).length ≤ _; omega
  | 2 => exact Nat.le_trans psl (by omega)
  | 3 => show (timO (f : Int)).length ≤ _; omega
  | 4 => show (timeS (t : Int)).length ≤ _; omega
  | 5 => show (timO (w : Int)).length ≤ _; omega
  | 6 => show (intS n).length ≤ _; omega
  | 7 => exact Nat.le_trans ppl (by omega)
  | 8 => exact Nat.le_trans pal (by omega)
  | 9 => exact Nat.le_trans pkl (by omega)
  | j + 10 => exact Nat.zero_le _
 have hs : (sufS (bodL (k, pre, (o : Int), c, s, (f : Int), (t : Int), (w : Int), n, pf, ad, tk)) 0 10).length ≤ 1400000 := by
  refine Nat.le_trans (q6X 10 0) ?_
  show (bitsS (o : Int)).length + 5 + ((cliO k c).length + 5 + ((prinE s).length + 5 + ((timO (f : Int)).length + 5 + ((timeS (t : Int)).length + 5 + ((timO (w : Int)).length + 5 + ((intS n).length + 5 + ((elemS 48 (mapN (t := I64) intS pf pf.length)).length + 5 + ((preO ad).length + 5 + ((listS (t := TickT) tickE tk).length + 5 + 0))))))))) ≤ _
  generalize (elemS 48 (mapN (t := I64) intS pf pf.length)).length = a1 at *
  generalize (listS (t := TickT) tickE tk).length = a2 at *
  generalize (preO ad).length = a3 at *
  omega
 refine ⟨hE.trans (z3L (l := bodL (k, pre, (o : Int), c, s, (f : Int), (t : Int), (w : Int), n, pf, ad, tk)) (Nat.le_trans hs (by decide))), hL, hs, ?_⟩
 unfold bodP
 refine q1j (n := 0) (k := 9) (q1h hL (by omega) b0n b0) ?_
 refine q1j (n := 1) (k := 8) (j2A hL rfl fc 8) ?_
 refine q1j (n := 2) (k := 7) (q1h hL (by omega) psn (full ps)) ?_
 refine q1j (n := 3) (k := 6) (q5c hL (by omega) (j0y gf)) ?_
 refine q1j (n := 4) (k := 5) (q1h hL (by omega) n4 p4) ?_
 refine q1j (n := 5) (k := 4) (q5c hL (by omega) (j0y gw)) ?_
 refine q1j (n := 6) (k := 3) (q1h hL (by omega) (q7w zn) (full (q5n zn))) ?_
 refine q1j (n := 7) (k := 2) (q1h hL (by omega) pn pp) ?_
 refine q1j (n := 8) (k := 1) (q5c hL (by omega) pa) ?_
 refine q1j (n := 9) (k := 0) (q5c hL (by omega) pk) ?_
 rfl
def reqL (r : Req) : List (List UInt8) := [[], intS 5, intS r.1, preO r.2.1, bodW r]
theorem z9Z (r : Req) : rqS r = wrapS 96 r.1 (elemS 48 [wrapS 160 1 (intS 5), wrapS 160 2 (intS r.1), wrapS 160 3 (preO r.2.1), wrapS 160 4 (bodW r)]) := by
 unfold rqS reqS
 rw [z5n]
 rfl
theorem j1F (m : Nat) (hm : m = 10 ∨ m = 12) (k : Int) (hkm : k = (m : Nat)) (pre : List Pre) (o : Int) (c s : Prin) (f t w n : Int) (pf : List Int) (ad : List Pre) (tk : List Tick) (ho : 0 ≤ o ∧ o ≤ 4294967295) (h : sRq (k, pre, o, c, s, f, t, w, n, pf, ad, tk) = true) :
 rqS (k, pre, o, c, s, f, t, w, n, pf, ad, tk) = tlv (appB m) (tlv 48 (sufS (reqL (k, pre, o, c, s, f, t, w, n, pf, ad, tk)) 0 5)) ∧ (∀ j, ((reqL (k, pre, o, c, s, f, t, w, n, pf, ad, tk)).getD j []).length ≤ 16777215) ∧ (sufS (reqL (k, pre, o, c, s, f, t, w, n, pf, ad, tk)) 0 5).length ≤ 1800000 ∧
  ∀ r, reqP m (rqS (k, pre, o, c, s, f, t, w, n, pf, ad, tk) ++ r) = .ok ((k, pre, o, c, s, f, t, w, n, pf, ad, tk), (rqS (k, pre, o, c, s, f, t, w, n, pf, ad, tk)).length) := by
 have hE := z9Z (k, pre, o, c, s, f, t, w, n, pf, ad, tk)
 obtain ⟨bS, bL, bl, bP⟩ := j0l k pre o c s f t w n pf ad tk ho h
 obtain ⟨fk, fp, _⟩ := q2v h
 clear h
 dsimp only at hE
 have hR : reqL (k, pre, o, c, s, f, t, w, n, pf, ad, tk) = [[], intS 5, intS k, preO pre, bodW (k, pre, o, c, s, f, t, w, n, pf, ad, tk)] := rfl
 have hbl : (tlv 48 (sufS (bodL (k, pre, o, c, s, f, t, w, n, pf, ad, tk)) 0 10)).length ≤ 1400010 := by
  rw [q0y]; have := q1M (sufS (bodL (k, pre, o, c, s, f, t, w, n, pf, ad, tk)) 0 10).length; omega
 have hbn : bodW (k, pre, o, c, s, f, t, w, n, pf, ad, tk) ≠ [] := by rw [bS]; exact q1k
 have hbp : bodS k pre (bodW (k, pre, o, c, s, f, t, w, n, pf, ad, tk)) = .ok ((k, pre, o, c, s, f, t, w, n, pf, ad, tk), (bodW (k, pre, o, c, s, f, t, w, n, pf, ad, tk)).length) := by
  rw [bS]
  exact full (q2i (by omega) bP)
 rw [← bS] at hbl
 generalize (k, pre, o, c, s, f, t, w, n, pf, ad, tk) = R at *
 clear bS bL bl bP
 obtain ⟨p2, p2l⟩ := j4p fp
 have i5 := q0O 5
 have ik := q0O k
 have zk : (0 : Int) ≤ k ∧ k ≤ 4611686018427387904 := by omega
 rw [hR]
 generalize bodW R = B at *
 clear hR
 have hL : ∀ j, (([[], intS 5, intS k, preO pre, B] : List (List UInt8)).getD j []).length ≤ 16777215 := fun j => by
  match j with
  | 0 => exact Nat.zero_le _
  | 1 => show (intS 5).length ≤ _; omega
  | 2 => show (intS k).length ≤ _; omega
  | 3 => exact Nat.le_trans p2l (by omega)
  | 4 => exact Nat.le_trans hbl (by omega)
  | j + 5 => exact Nat.zero_le _
 have hs : (sufS [[], intS 5, intS k, preO pre, B] 0 5).length ≤ 1800000 := by
  refine Nat.le_trans (q6X 5 0) ?_
  show ([] : List UInt8).length + 5 + ((intS 5).length + 5 + ((intS k).length + 5 + ((preO pre).length + 5 + (B.length + 5 + 0)))) ≤ _
  rw [List.length_nil]
  omega
 have h1 : sufS [[], intS 5, intS k, preO pre, B] 0 5 = sufS [[], intS 5, intS k, preO pre, B] 1 4 := by
  rw [q0S]; rfl
 have hT : elemS 48 [wrapS 160 1 (intS 5), wrapS 160 2 (intS k), wrapS 160 3 (preO pre), wrapS 160 4 B] = tlv 48 (sufS [[], intS 5, intS k, preO pre, B] 0 5) := by
  have e : ([wrapS 160 1 (intS 5), wrapS 160 2 (intS k), wrapS 160 3 (preO pre), wrapS 160 4 B] : List (List UInt8)).flatten = sufS [[], intS 5, intS k, preO pre, B] 1 4 := rfl
  rw [h1, ← e, q0X (by rw [e, ← h1]; omega)]
 have hl48 : (tlv 48 (sufS [[], intS 5, intS k, preO pre, B] 0 5)).length ≤ 1800010 := by
  rw [q0y]; have := q1M (sufS [[], intS 5, intS k, preO pre, B] 0 5).length; omega
 have hS : rqS R = tlv (appB m) (tlv 48 (sufS [[], intS 5, intS k, preO pre, B] 0 5)) := by
  rw [hE, hT]
  unfold wrapS
  rw [if_pos ⟨by omega, by omega, q1k⟩, q1s (by omega), hkm]
  rfl
 have hin : rqIn k (sufS [[], intS 5, intS k, preO pre, B] 0 5) = .ok (R, (sufS [[], intS 5, intS k, preO pre, B] 0 5).length) := by
  rw [h1]
  unfold rqIn
  refine q1j (n := 1) (k := 3) (q1h hL (by omega) (q7w (v := 5) (by decide)) (z6K (by decide))) ?_
  refine q1j (n := 2) (k := 2) (q1h hL (by omega) (q7w zk) (z6K zk)) ?_
  refine q1j (n := 3) (k := 1) (q5c hL (by omega) p2) ?_
  refine q1j (n := 4) (k := 0) (q1h hL (by omega) hbn hbp) ?_
  rfl
 refine ⟨hS, hL, hs, fun r => ?_⟩
 rw [hS]
 unfold reqP
 rw [← hkm]
 exact q2i (by omega) (full (q2i (by omega) hin)) r
def decRq (k : Nat) (b : List UInt8) : Option Req := match allP (reqP k) b with
 | .ok r => if sRq r = true ∧ rqS r = b then some r else none
 | .error _ => none
def decReq (b : List UInt8) : Option Req := if kindB b 0 then decRq (kindV b 0).toNat b else none
theorem j1V {n : Nat} (hn : n = 10 ∨ n = 12) (c : List UInt8) (hl : (tlv (appB n) c).length ≤ 65536) : kindB (tlv (appB n) c) 0 = true ∧ kindV (tlv (appB n) c) 0 = (n : Nat) := by
 have ht : typN (tlv (appB n) c) = (n : Int) := by
  unfold typN tlv
  rw [List.getD_cons_zero]
  rcases hn with rfl | rfl <;> decide
 have hb : typB (tlv (appB n) c) = true := by
  unfold typB
  rw [ht]
  rcases hn with rfl | rfl <;> simp [mIn, tlv]
 have hv : kindV (tlv (appB n) c) 0 = (n : Nat) := by
  unfold kindV
  rw [hb, if_pos rfl, ht]; omega
 refine ⟨?_, hv⟩
 unfold kindB
 rw [hb, hv, decide_eq_true hl]
 rcases hn with rfl | rfl <;> decide
def optOk (r : Req) : Prop := (0 : Int) ≤ r.2.2.1 ∧ r.2.2.1 ≤ (4294967295 : Int)
theorem z6M {b : List UInt8} {r : Req} (ho : optOk r) (h : vRq r = true) (he : rqS r = b) : decReq b = some r := by
 subst he
 unfold vRq at h
 rw [Bool.and_eq_true, decide_eq_true_eq] at h
 obtain ⟨k, pre, o, c, s, f, t, w, m, pf, ad, tk⟩ := r
 obtain ⟨hs, hl⟩ := h
 obtain ⟨n, hkn, hn⟩ := q7s (q2v hs).1
 obtain ⟨e, _, _, hp⟩ := j1F n hn k hkn pre o c s f t w m pf ad tk ho hs
 have hx := full hp
 rw [e] at hl
 obtain ⟨k1, k2⟩ := j1V hn _ hl
 rw [← e] at k1 k2
 unfold decReq decRq allP
 rw [if_pos k1, k2, Int.toNat_natCast, hx]
 simp [hs]
theorem z1U {b : List UInt8} {r : Req} (h : decReq b = some r) : vRq r = true ∧ rqS r = b := by
 unfold decReq at h
 split at h
 · rename_i hk
   have hl : b.length ≤ 65536 := by
    unfold kindB at hk
    simp only [Bool.and_eq_true, decide_eq_true_eq] at hk
    exact hk.2.1
   unfold decRq at h
   split at h
   · split at h
     · rename_i h2
       cases h
       refine ⟨?_, h2.2⟩
       unfold vRq
       rw [Bool.and_eq_true, decide_eq_true_eq, h2.2]
       exact ⟨h2.1, hl⟩
     cases h
   cases h
 cases h
theorem z0Q (x : Int) : UInt8.ofNat (IntKind.u8.wrap (x.tmod 256)).toNat = byteOf x := by
 unfold byteOf
 rw [u8w, u8w]
 have h : x.tmod 256 % 256 = x % 256 := by rw [Int.tmod_def]; omega
 rw [h]
theorem j4E (v : Int) (n : Nat) (hn : n ≤ 7) : PC Tryz.prog 114 [rI v, rI n] (.isl .u8 (numS v n)) := by
 have hl : (numS v n).length = n := by simp [numS]
 have w0 : IntKind.i64.wrap ((n : Int) - 1) = (n : Int) - 1 := wrapi (by omega)
 refine q0e rfl rfl ?_
 refine q1L fi114 (q0n mixed 600 _ ?_)
 simp (maxSteps := 3000000) only [ir114, w0, go_sem, ↓zA, ↓reduceIte, ↓reduceDIte] <;> try simp only [zB]
 refine q1C 5 .u8 (fun k => (numS v n).take k) (fun k => [(6, rI ((n : Int) - 1 - k))]) n (fun _ => True) rfl (by simp) (by simp) rfl (fun i => rfl) ?_ fun k hk _ => ?_
 · with_reducible refine sxE ?_
   simp
 have hln : ((numS v n).take k).length = k := by simp [numS]; omega
 have w1 : IntKind.i64.wrap (8 * ((n : Int) - 1 - k)) = 8 * ((n : Int) - 1 - k) := wrapi (by omega)
 have w2 : IntKind.i64.wrap ((n : Int) - 1 - k - 1) = (n : Int) - 1 - ((k + 1 : Nat) : Int) := by rw [wrapi (by omega)]; omega
 refine uQ 600 _ ?_
 simp (maxSteps := 3000000) only [w1, w2, go_sem, ↓zA, ↓reduceIte, ↓reduceDIte] <;> try simp only [zB]
 refine ⟨fun hlt => ?_, fun hge => ?_⟩
 · have hkn : k < n := by omega
   have hst := z0u (v := v) hkn
   have e8 : (8 * ((n : Int) - 1 - k)).toNat = 8 * (n - 1 - k) := by omega
   have hb : UInt8.ofNat (IntKind.u8.wrap ((v.fdiv (2 ^ min (8 * (n - 1 - k)) 64)).tmod 256)).toNat = byteAt v (n - 1 - k) := z0Q _
   rw [e8, hb]
   refine ⟨by omega, by decide, by rw [← hb]; exact q0Y _, ⟨by omega, by omega⟩, q0R [_, _] [] hkn trivial (by rw [hst]; rfl) ?_⟩
   simp (maxSteps := 3000000) only [hst, List.length_append, go_sem, ↓zA, ↓reduceIte, ↓reduceDIte] <;> try simp only [zB]
 obtain rfl : k = n := by omega
 refine ⟨⟨Nat.le_refl _, by omega⟩, ?_⟩
 rw [List.take_of_length_le (by omega), List.take_of_length_le (by omega)]
def timR (t : Int) : List UInt8 := elemS 24 [numS t 6]
theorem z1z (t : Int) : PC Tryz.prog 52 [rI t] (.isl .u8 (timR t)) := by
 refine q0e rfl rfl ?_
 refine rQ fi52 ?_
 refine q0a (j4E t 6 (by decide)) ?_
 refine gQ ?_
 refine q0a (q5A 24 24 (by decide) _ (by simp [numS])) ?_
 refine gQ ?_
 rfl
theorem z6O {t : Int} (h : 0 ≤ t ∧ t ≤ 1099511627776) : timR t = timeS t := by unfold timeS timR; rw [if_pos h]
theorem q4o (t : Int) : (timR t).length ≤ 11 := by
 unfold timR
 rw [q1s (by rw [q0t]; decide), q0y, q0t]; decide
def negB (v : Int) : List UInt8 := if 128 ≤ (byteOf v).toNat then [0, byteOf v] else [byteOf v]
def intR (v : Int) : List UInt8 := if 0 ≤ v ∧ v ≤ 4611686018427387904 then intS v else if v < 0 then elemS 2 [negB v] else elemS 2 [numS v 8]
theorem q4B {v : Int} (h : 0 ≤ v ∧ v ≤ 4611686018427387904) : intR v = intS v := if_pos h
theorem q1I (v : Int) : (intR v).length ≤ 14 := by
 unfold intR
 split
 · exact q0O v
 have h1 := q0k 2 [negB v]
 have h2 := q0k 2 [numS v 8]
 simp only [List.flatten_cons, List.flatten_nil, List.append_nil, q0t] at h1 h2
 have h3 : (negB v).length ≤ 2 := by unfold negB; split <;> simp
 split <;> omega
theorem j4o (v : Int) (h0 : v < 0) (h1 : -9223372036854775808 ≤ v) : PC Tryz.prog 46 [rI v] (.isl .u8 (intR v)) := by
 have hr : intR v = elemS 2 [negB v] := by unfold intR; rw [if_neg (by omega), if_pos h0]
 obtain ⟨n, hn⟩ : ∃ n : Nat, v = -(n : Int) := ⟨(-v).toNat, by omega⟩
 have ht : v.tdiv 256 = -((n / 256 : Nat) : Int) := by rw [hn, Int.neg_tdiv, show (256 : Int) = ((256 : Nat) : Int) from rfl, z1V]
 have hd : v.tdiv 256 ≤ 0 := by omega
 have hd1 : -9223372036854775808 ≤ v.tdiv 256 := by omega
 have q0 : IntKind.i64.wrap (v.tdiv 256) = v.tdiv 256 := wrapi (by omega)
 rw [hr]
 refine q0e rfl rfl ?_
 refine q1L fi46 (q0n mixed 600 _ ?_)
 simp (maxSteps := 3000000) only [ir46, q0, go_sem, ↓zA, ↓reduceIte, ↓reduceDIte] <;> try simp only [zB]
 refine ⟨by decide, q0Y _, by decide, ?_⟩
 rw [z0Q]
 refine q1c (ι := Unit) (fun _ => [(0, rI (v.tdiv 256)), (3, .bld 0 .u8 1)]) (fun _ => [.row .u8 [byteOf v]]) (fun _ => 0) (fun _ => True) () trivial rfl ?_ ?_
 · with_reducible refine sxE ?_; trivial
 rintro ⟨⟩ _
 refine gQ ?_
 refine ⟨fun h => absurd h (by omega), fun _ => ?_⟩
 unfold negB
 refine ⟨fun h128 => ⟨rfl, ?_⟩, fun h128 => ?_⟩
 · rw [if_pos (by omega)]
   refine q0u 2 ?_
   with_reducible refine sxE ?_
   refine q0a (q5A 2 2 (by decide) _ (by simp)) ?_
   refine gQ ?_
   rfl
 rw [if_neg (by omega)]
 refine q0u 0 ?_
 with_reducible refine sxE ?_
 refine q0a (q5A 2 2 (by decide) _ (by simp)) ?_
 refine gQ ?_; trivial
theorem j3T (v : Int) (h0 : 4611686018427387904 < v) (h1 : v ≤ 9223372036854775807) : PC Tryz.prog 46 [rI v] (.isl .u8 (intR v)) := by
 have hr : intR v = elemS 2 [numS v 8] := by unfold intR; rw [if_neg (by omega), if_neg (by omega)]
 rw [hr]
 clear hr
 obtain ⟨n, rfl⟩ : ∃ n : Nat, v = n := ⟨v.toNat, by omega⟩
 refine q0e rfl rfl ?_
 have q0 : IntKind.i64.wrap ((n : Int).tdiv 256) = (qN n 1 : Int) := by rw [show (256 : Int) = ((256 : Nat) : Int) from rfl, z1V, wrapi (by omega)]; rfl
 have h7 : 64 ≤ qN n 7 ∧ qN n 7 ≤ 127 := by unfold qN; constructor <;> omega
 have h8 : qN n 8 = 0 := by unfold qN; omega
 refine q1L fi46 (q0n mixed 600 _ ?_)
 simp (maxSteps := 3000000) only [ir46, q0, go_sem, ↓zA, ↓reduceIte, ↓reduceDIte] <;> try simp only [zB]
 refine ⟨by decide, q0Y _, by decide, ?_⟩
 rw [z6n]
 have h0 : [byteOf (n : Int)] = numS n 1 := by simp [numS, byteAt]
 rw [h0]
 refine q1c (ι := Nat × List SObj) (fun x => [(0, rI (qN n (x.1 + 1) : Int)), (3, .bld x.2.length .u8 (x.1 + 1))]) (fun x => x.2 ++ [.row .u8 (numS n (x.1 + 1))]) (fun x => 8 - x.1) (fun x => x.1 ≤ 7) (0, []) (by omega) rfl ?_ ?_
 · with_reducible refine sxE ?_; trivial
 rintro ⟨j, G⟩ hj
 dsimp only at hj
 have hln : (numS (n : Int) (j + 1)).length = j + 1 := by simp [numS]
 have q1 : IntKind.i64.wrap ((qN n (j + 1) : Int).tdiv 256) = (qN n (j + 1 + 1) : Int) := by
  have h1 := j3S n (j + 1 + 1)
  rw [show (256 : Int) = ((256 : Nat) : Int) from rfl, z1V, ← q8E, wrapi (by omega)]
 have htk : List.take (j + 1) (numS (n : Int) (j + 1)) = numS n (j + 1) := List.take_of_length_le (by omega)
 refine uQ 600 _ ?_
 simp (maxSteps := 3000000) only [q1, hln, htk, List.append_assoc, getA, getA0, setA, setA0, List.length_append, Nat.add_assoc, go_sem, ↓zA, ↓reduceIte, ↓reduceDIte] <;> try simp only [zB]
 refine ⟨fun hp => ?_, fun hz => ?_⟩
 · have hj7 : j + 1 ≤ 7 := by
    rcases Nat.lt_or_ge j 7 with h | h
    · omega
    exfalso
    obtain rfl : j = 7 := by omega
    have : qN n (7 + 1) = 0 := h8
    omega
   refine ⟨by decide, q0Y _, ⟨Nat.le_refl _, by omega, by omega⟩, by decide, (j + 1, G ++ [.row .u8 (numS n (j + 1)), .dead]), hj7, by dsimp only; omega, ?_, ?_⟩
   · dsimp only
     rw [q4H (by omega), ← q2q n (j + 1) (by omega), ← q2y, List.append_assoc]
     rfl
   with_reducible refine sxaE ?_
   exact congrArg (SV.bld (G.length + 2) .u8) (by omega)
 have hz0 : qN n (j + 1) = 0 := by omega
 have hj : j = 7 := by
  rcases Nat.lt_or_ge j 7 with h | h
  · exfalso
    have := z5z n (show j + 1 ≤ 7 by omega)
    omega
  omega
 subst hj
 have hln8 : (numS (n : Int) 8).length = 8 := hln
 have htop : (numS (n : Int) 8).getD 0 Ty.u8.dflt = byteOf (qN n 7 : Int) := by
  rw [q2y, List.getD_cons_zero, q2q n 7 (by omega)]
 have htn : ((byteOf (qN n 7 : Int)).toNat : Int) = (qN n 7 : Int) := by
  unfold byteOf
  rw [q0Y, u8w]; omega
 rw [htop, htn]
 refine ⟨by omega, by omega, fun h128 => absurd h128 (by omega), fun h128 => ?_⟩
 refine q0u G.length ?_
 with_reducible refine sxaE ?_
 refine ⟨by omega, by omega, ?_⟩
 rw [List.take_of_length_le (by omega)]
 refine q0a (q5A 2 2 (by decide) _ (by omega)) ?_
 refine gQ ?_; trivial
theorem q8q (v : Int) (h : -9223372036854775808 ≤ v ∧ v ≤ 9223372036854775807) : PC Tryz.prog 46 [rI v] (.isl .u8 (intR v)) := by
 by_cases h0 : v < 0
 · exact j4o v h0 h.1
 by_cases h1 : v ≤ 4611686018427387904
 · rw [q4B ⟨by omega, h1⟩]; exact z4T v ⟨by omega, h1⟩
 exact j3T v (by omega) h.2
theorem j4c (n : Int) (hn : 0 ≤ n ∧ n ≤ 100) (b : List UInt8) (hb : b.length ≤ 1048576) : PC Tryz.prog 43 [rI n, .isl .u8 b] (.isl .u8 (elemS (byteOf (96 + n)) [b])) := by
 have hw : IntKind.i64.wrap (96 + n) = 96 + n := wrapi (by omega)
 refine q0e rfl rfl ?_
 refine q1L fi43 (q0n mixed 600 _ ?_)
 simp (maxSteps := 3000000) only [ir43, hw, go_sem, ↓zA, ↓reduceIte, ↓reduceDIte] <;> try simp only [zB]
 refine q0a (q5A (byteOf (96 + n)) (96 + n) rfl b hb) ?_
 refine gQ ?_; trivial
theorem z3Q {l : List ByteArray} {k : Nat} (hl : l.length ≤ 64) (h : ∀ x ∈ l, x.size ≤ 1000) : (strsN l k).flatten.length ≤ 64320 := by
 have h1 := q5C (B := 1005) (strsN l k) (fun x hx => by
  unfold strsN at hx
  rw [List.mem_map] at hx
  obtain ⟨y, hy, rfl⟩ := hx
  have h2 := h y (List.mem_of_mem_take hy)
  have h3 := q0k 27 [y.data.toList]
  have h4 : y.data.toList.length = y.size := by simp
  simp only [List.flatten_cons, List.flatten_nil, List.append_nil] at h3
  omega)
 have h2 : (strsN l k).length ≤ 64 := by unfold strsN; simp; omega
 have : 1005 * (strsN l k).length ≤ 1005 * 64 := Nat.mul_le_mul_left _ h2
 omega
def shP (p : Prin) : Prop := p.1.length ≤ 64 ∧ (∀ x ∈ p.1, x.size ≤ 1000) ∧ p.2.size ≤ 1000
theorem q4L {p : Prin} (h : shP p) : (prinS p).length ≤ 65400 := by
 obtain ⟨l, r⟩ := p
 obtain ⟨hl, hp, hr⟩ := h
 dsimp only at hl hp hr
 have hps : prinS (l, r) = elemS 48 [wrapS 160 0 (elemS 48 (strsN l l.length)), wrapS 160 1 (elemS 27 [r.data.toList])] := rfl
 have hf := z3Q (k := l.length) hl hp
 have g1 := q0k 48 (strsN l l.length)
 have g2 := q0k 27 [r.data.toList]
 have g3 : r.data.toList.length = r.size := by simp
 simp only [List.flatten_cons, List.flatten_nil, List.append_nil] at g2
 have g4 := q0h 160 0 (elemS 48 (strsN l l.length))
 have g5 := q0h 160 1 (elemS 27 [r.data.toList])
 have g6 := q0k 48 [wrapS 160 0 (elemS 48 (strsN l l.length)), wrapS 160 1 (elemS 27 [r.data.toList])]
 simp only [List.flatten_cons, List.flatten_nil, List.append_nil, List.length_append] at g6
 rw [hps]; omega
theorem z1O (p : Prin) (h : shP p) : PC Tryz.prog 51 [.agg (PrinT.cells p)] (.isl .u8 (prinS p)) := by
 obtain ⟨l, r⟩ := p
 obtain ⟨hl, hp, hr⟩ := h
 dsimp only at hl hp hr
 have hps : prinS (l, r) = elemS 48 [wrapS 160 0 (elemS 48 (strsN l l.length)), wrapS 160 1 (elemS 27 [r.data.toList])] := rfl
 generalize prinS (l, r) = ps at *
 refine q0e rfl rfl ?_
 refine rQ fi51 ?_
 refine q1C 3 (.slice .u8) (strsN l) (fun i => [(4, rI i)]) l.length (fun _ => True) rfl (by simp) (by simp [strsN]) rfl (fun i => rfl) ?_ fun i hi _ => ?_
 · with_reducible refine sxE ?_; trivial
 have hwr := wsx i (by omega)
 have hln := z0E hi
 by_cases hlt : i < l.length
 · have hst := q7X hlt
   have hsz := hp _ (q0K (d := Ty.str.dflt) hlt)
   refine gQ ?_
   refine ⟨fun _ => ⟨⟨by omega, hlt⟩, q0a (j0e _ (by omega)) ?_⟩, fun h => absurd hlt h⟩
   refine gQ ?_
   refine ⟨⟨by omega, by omega⟩, q0R [_, _] [] hlt trivial (by rw [hst]; rfl) ?_⟩
   with_reducible refine sx3 hwr hst ?_; trivial
 obtain rfl : i = l.length := by omega
 have hf := z3Q (k := l.length) hl hp
 have g1 := q0k 48 (strsN l l.length)
 have g2 := q0k 27 [r.data.toList]
 have g3 : r.data.toList.length = r.size := by simp
 simp only [List.flatten_cons, List.flatten_nil, List.append_nil] at g2
 have g4 := q0h 160 0 (elemS 48 (strsN l l.length))
 have g5 := q0h 160 1 (elemS 27 [r.data.toList])
 refine q1b 1 rfl rfl (by omega) ?_ ?_ ?_
 · with_reducible refine sxE ?_; trivial
 · with_reducible refine sxE ?_
   exact Nat.le_refl _
 with_reducible refine sxE ?_
 rw [List.take_of_length_le (Nat.le_refl _)]
 refine gQ ?_
 refine ⟨fun h => absurd h hlt, fun _ => q0b (q4u _ (by omega) (by omega)) ?_⟩
 refine gQ ?_
 refine q0b (q1F 0 (by decide) _ (by omega)) ?_
 refine gQ ?_
 refine q0b (j0e r (by omega)) ?_
 refine gQ ?_
 refine q0b (q1F 1 (by decide) _ (by omega)) ?_
 refine gQ ?_
 refine q1f 2 (by decide) ?_
 with_reducible refine sxE ?_
 refine q0b (q4u _ (by simp) (by simp only [List.flatten_cons, List.flatten_nil, List.append_nil, List.length_append]; omega)) ?_
 refine gQ ?_
 exact hps.symm
def datR (d : Pre) : List UInt8 := elemS 48 [wrapS 160 0 (intR d.1), wrapS 160 1 (elemS 4 [d.2])]
theorem z2U (d : Pre) : (datR d).length ≤ d.2.length + 45 := by
 have g1 := q1I d.1
 have g3 := q0k 4 [d.2]
 simp only [List.flatten_cons, List.flatten_nil, List.append_nil] at g3
 have g5 := q0h 160 0 (intR d.1)
 have g6 := q0h 160 1 (elemS 4 [d.2])
 have g7 := q0k 48 [wrapS 160 0 (intR d.1), wrapS 160 1 (elemS 4 [d.2])]
 simp only [List.flatten_cons, List.flatten_nil, List.append_nil, List.length_append] at g7
 unfold datR
 omega
def shD (l : List Pre) : Prop := l.length ≤ 32 ∧ ∀ d ∈ l, (-9223372036854775808 ≤ (d.1 : Int) ∧ (d.1 : Int) ≤ 9223372036854775807) ∧ d.2.length ≤ 16384
def dataR (l : List Pre) : List UInt8 := elemS 48 (mapN (t := PreT) datR l l.length)
theorem z9t {l : List Pre} (h : shD l) (i : Nat) : (mapN (t := PreT) datR l i).flatten.length ≤ 525728 := by
 have h1 := q5C (B := 16429) (mapN (t := PreT) datR l i) (fun x hx => by
  unfold mapN at hx
  rw [List.mem_map] at hx
  obtain ⟨y, hy, rfl⟩ := hx
  have h2 := (h.2 y (List.mem_of_mem_take hy)).2
  have := z2U y
  omega)
 have h2 : (mapN (t := PreT) datR l i).length ≤ 32 := by
  unfold mapN; simp; have := h.1; omega
 have : 16429 * (mapN (t := PreT) datR l i).length ≤ 16429 * 32 := Nat.mul_le_mul_left _ h2
 omega
theorem z7M (l : List Pre) (h : shD l) : PC Tryz.prog 112 [.isl PreT l] (.isl .u8 (dataR l)) := by
 have hl := h.1
 have hfl := z9t h l.length
 have hd : dataR l = elemS 48 (mapN (t := PreT) datR l l.length) := rfl
 generalize dataR l = ps at *
 refine q0e rfl rfl ?_
 refine rQ fi112 ?_
 refine q1C 3 (.slice .u8) (mapN (t := PreT) datR l) (fun i => [(4, rI i)]) l.length (fun _ => True) rfl (by simp) (by simp [mapN]) rfl (fun i => rfl) ?_ fun i hi _ => ?_
 · with_reducible refine sxE ?_; trivial
 have hwr := wsx i (by omega)
 have hln := q4s (t := PreT) (w := datR) hi
 by_cases hlt : i < l.length
 · have hst := q3j (t := PreT) (w := datR) hlt
   obtain ⟨z1, z2⟩ := h.2 _ (q0K (d := PreT.dflt) hlt)
   have hone : datR (l.getD i PreT.dflt) = elemS 48 [wrapS 160 0 (intR (l.getD i PreT.dflt).1), wrapS 160 1 (elemS 4 [(l.getD i PreT.dflt).2])] := rfl
   have g1 := q1I (l.getD i PreT.dflt).1
   have g3 := q0k 4 [(l.getD i PreT.dflt).2]
   simp only [List.flatten_cons, List.flatten_nil, List.append_nil] at g3
   have g5 := q0h 160 0 (intR (l.getD i PreT.dflt).1)
   have g6 := q0h 160 1 (elemS 4 [(l.getD i PreT.dflt).2])
   refine gQ ?_
   refine ⟨fun _ => ⟨⟨by omega, hlt⟩, ⟨by omega, hlt⟩, ?_⟩, fun h => absurd hlt h⟩
   refine q0b (q8q _ z1) ?_
   refine gQ ?_
   refine q0b (q1F 0 (by decide) _ (by omega)) ?_
   refine gQ ?_
   refine q0b (j0u _ (by omega)) ?_
   refine gQ ?_
   refine q0b (q1F 1 (by decide) _ (by omega)) ?_
   refine gQ ?_
   refine q1f 1 (by decide) ?_
   with_reducible refine sxE ?_
   refine q0b (q4u _ (by simp) (by simp only [List.flatten_cons, List.flatten_nil, List.append_nil, List.length_append]; omega)) ?_
   refine gQ ?_
   refine ⟨⟨by omega, by omega⟩, q0R [_, _, _] [] hlt trivial (by rw [hst, hone]; rfl) ?_⟩
   with_reducible refine sx3 hwr hst ?_; trivial
 obtain rfl : i = l.length := by omega
 refine q1b 0 rfl rfl (by omega) ?_ ?_ ?_
 · with_reducible refine sxE ?_; trivial
 · with_reducible refine sxE ?_
   exact Nat.le_refl _
 with_reducible refine sxE ?_
 rw [List.take_of_length_le (Nat.le_refl _)]
 refine gQ ?_
 refine ⟨fun h => absurd h hlt, fun _ => q0a (q4u _ (by omega) (by omega)) ?_⟩
 refine gQ ?_
 exact hd.symm
theorem q9C (p : Prin) : PC Tryz.prog 67 [.agg (PrinT.cells p)] (rB (noN p)) := by
 refine q0D rfl rfl ?_
 refine rQ fi67 ?_
 grind [noN]
theorem q7L (v lo hi : Int) : PC Tryz.prog 62 [rI v, rI lo, rI hi] (rB (mIn lo hi v)) := j4M v lo hi
theorem z1H (l : List Pre) (hl : l.length ≤ 1125899906842624) : PC Tryz.prog 65 [.isl PreT l] (rB (vPre l)) := by
 have hd : vPre l = (decide ((l.length : Int) ≤ 16) && allN l.length (preAt l)) := rfl
 refine q0D rfl rfl ?_
 refine rQ fi65 ?_
 refine q0G (fun i => [(3, .raw (.int .i64 ((i : Nat) : Int)))]) (l.length) (fun j => (preAt l) j = true) (by first | decide | simp) (fun i => rfl) ?_ fun i hi hall => ?_
 · (with_reducible refine sxE ?_ <;> try exact True.intro)
   all_goals (try rfl)
 have hwr := wsx i (by omega)
 refine gQ ?_
 have bad : i < (l.length) → (preAt l) i = false → allN (l.length) (preAt l) = false := fun hlt hv => q0i hlt hv
 have fin : ¬ i < (l.length) → allN (l.length) (preAt l) = true := fun h => q0l fun j hj => hall j (by omega)
 try dsimp only at bad fin hall
 repeat' (first
  | (refine q0a (q7L _ _ _) ?_; refine uQ 600 _ ?_; simp (maxSteps := 3000000) only [go_sem, ↓zA, ↓reduceIte, ↓reduceDIte] <;> try simp only [zB])
  | (refine q0b (q7L _ _ _) ?_; refine uQ 600 _ ?_; simp (maxSteps := 3000000) only [go_sem, ↓zA, ↓reduceIte, ↓reduceDIte] <;> try simp only [zB])
  | (refine q0q (q7L _ _ _) ?_; refine uQ 600 _ ?_; simp (maxSteps := 3000000) only [go_sem, ↓zA, ↓reduceIte, ↓reduceDIte] <;> try simp only [zB])
  | (with_reducible refine And.intro ?_ ?_)
  | (with_reducible intro _))
 all_goals (first | (with_reducible (refine (id ?_ : SoundI _ _ _))) | ((try simp only [Ty.dflt] at *); first | omega | (refine ⟨by omega, q0L hall (by grind [preAt, vPre1]), ⟨_, by first | rfl | exact List.append_assoc _ _ _ | (simp only [List.append_assoc, List.cons_append, List.nil_append]; rfl)⟩, ?_⟩; simp only [hwr, go_sem, ↓zA, ↓reduceIte, ↓reduceDIte] <;> (first | rfl | (grind [preAt, vPre1]))) | (refine ⟨_, rfl⟩) | (refine ⟨_, List.append_assoc _ _ _⟩) | (grind [preAt, vPre1])))
def preR2 (l : List Pre) : List UInt8 := if l.length = 0 then [] else dataR l
theorem j4a (l : List Pre) (h : shD l) : PC Tryz.prog 47 [.isl PreT l] (.isl .u8 (preR2 l)) := by
 have hl := h.1
 have hd : preR2 l = if decide ((l.length : Int) = 0) = true then [] else dataR l := by unfold preR2; simp
 rw [hd]
 refine q0e rfl rfl ?_
 refine rQ fi47 ?_
 refine q1C 3 PreT (fun i => l.take i) (fun i => [(4, rI i)]) l.length (fun _ => True) rfl (by simp) (by simp) rfl (fun i => rfl) ?_ fun i hi _ => ?_
 · with_reducible refine sxE ?_; trivial
 have hwr := wsx i (by omega)
 have hln : (l.take i).length = i := List.length_take_of_le hi
 by_cases hlt : i < l.length
 · have hst := q0r (d := PreT.dflt) hlt
   refine gQ ?_
   refine ⟨fun _ => ⟨⟨by omega, hlt⟩, ⟨by omega, hlt⟩, ⟨by omega, by omega⟩, q0R [_, _] [] hlt trivial (by rw [hst]; rfl) ?_⟩, fun h => absurd hlt h⟩
   with_reducible refine sx3 hwr hst ?_; trivial
 obtain rfl : i = l.length := by omega
 have hall : l.take l.length = l := List.take_length
 rw [hall]
 rw [hall] at hln
 refine q1b 0 rfl rfl (by omega) ?_ ?_ ?_
 · with_reducible refine sxE ?_; trivial
 · with_reducible refine sxE ?_
   exact Nat.le_refl _
 with_reducible refine sxE ?_
 rw [List.take_of_length_le (Nat.le_refl _)]
 refine gQ ?_
 refine ⟨fun h => absurd h hlt, fun _ => q0a (z7M l h) ?_⟩
 refine gQ ?_
 refine q0a (q3k _ _) ?_
 refine gQ ?_; trivial
def chkR (b : List UInt8) (a n : Nat) : Option (Nat × Nat) := if b.length - a < n then none else some (a, a + n)
def fstR (b : List UInt8) : Option (Nat × Nat) :=
 if b.length < 2 then none else
 if (b.getD 1 0).toNat < 128 then chkR b 2 (b.getD 1 0).toNat else
 if (b.getD 1 0).toNat - 128 < 1 ∨ 3 < (b.getD 1 0).toNat - 128 ∨ b.length < 2 + ((b.getD 1 0).toNat - 128) then none else
 chkR b (2 + ((b.getD 1 0).toNat - 128)) (beN ((b.drop 2).take ((b.getD 1 0).toNat - 128)))
def fstV (b : List UInt8) : SV := match fstR b with
 | none => .tup [rI 0, .isl .u8 [], rI 0]
 | some (a, e) => .tup [rI (b.getD 0 0).toNat, .isl .u8 ((b.take e).drop a), rI e]
theorem z7x (l : List UInt8) (h : l.length ≤ 3) : beN l < 16777216 := by
 have h1 := q3i l
 have h2 : 256 ^ l.length ≤ 256 ^ 3 := Nat.pow_le_pow_right (by decide) h
 omega
theorem z3s (b : List UInt8) (hb : b.length ≤ 1099511627776) : PC Tryz.prog 108 [.isl .u8 b] (fstV b) := by
 have hx : (b.getD 1 Ty.u8.dflt).toNat < 256 := UInt8.toNat_lt _
 have hd : b.getD 1 0 = b.getD 1 Ty.u8.dflt := rfl
 have e0 : IntKind.i64.wrap ((b.getD 1 Ty.u8.dflt).toNat : Int) = (((b.getD 1 Ty.u8.dflt).toNat : Nat) : Int) := wrapi (by omega)
 have e1 : IntKind.i64.wrap (((b.getD 1 Ty.u8.dflt).toNat : Int) - 128) = ((b.getD 1 Ty.u8.dflt).toNat : Int) - 128 := wrapi (by omega)
 have e2 : IntKind.i64.wrap (2 + (((b.getD 1 Ty.u8.dflt).toNat : Int) - 128)) = 2 + (((b.getD 1 Ty.u8.dflt).toNat : Int) - 128) := wrapi (by omega)
 have e3 : IntKind.i64.wrap ((b.length : Int) - 2) = (b.length : Int) - 2 := wrapi (by omega)
 have e4 : IntKind.i64.wrap (2 + ((b.getD 1 Ty.u8.dflt).toNat : Int)) = 2 + ((b.getD 1 Ty.u8.dflt).toNat : Int) := wrapi (by omega)
 have e5 : IntKind.i64.wrap ((b.getD 0 Ty.u8.dflt).toNat : Int) = (((b.getD 0 Ty.u8.dflt).toNat : Nat) : Int) := wrapi (by have := (b.getD 0 Ty.u8.dflt).toNat_lt; omega)
 have hno : fstR b = none → fstV b = .tup [rI 0, .isl .u8 [], rI 0] := fun h => by unfold fstV; rw [h]
 have hyes : ∀ a e, fstR b = some (a, e) → fstV b = .tup [rI (b.getD 0 0).toNat, .isl .u8 ((b.take e).drop a), rI e] := fun a e h => by unfold fstV; rw [h]
 have hsc : (fstV b).clean = true := by
  cases h : fstR b with
  | none => rw [hno h]; rfl
  | some y => obtain ⟨a, e⟩ := y; rw [hyes a e h]; rfl
 generalize fstV b = W at *
 refine q0e rfl hsc ?_
 refine q1L fi108 (q0n mixed 600 _ ?_)
 simp (maxSteps := 3000000) only [ir108, e0, e1, e2, e3, e4, e5, go_sem, ↓zA, ↓reduceIte, ↓reduceDIte] <;> try simp only [zB]
 generalize hxx : b.getD 1 Ty.u8.dflt = x at *
 have hF : ∀ r, fstR b = r → fstR b = r := fun _ h => h
 have hno' : fstR b = none → (SV.tup [SV.raw (Value.int IntKind.i64 0), SV.raw (Value.slice none 0 0), SV.raw (Value.int IntKind.i64 0)]).leV W := fun h => by
  rw [hno h]
  with_reducible refine sxE ?_; trivial
 refine ⟨fun h => ?_, fun h => ⟨by omega, fun h2 => ⟨fun h3 => ⟨fun h4 => ⟨fun h5 => ?_, fun h5 => ?_⟩, fun h4 => ?_⟩, fun h3 => ?_⟩, fun h2 => ⟨fun h3 => ?_, fun h3 => ?_⟩⟩⟩
 · refine hno' ?_
   unfold fstR; rw [if_pos (by omega)]
 · refine hno' ?_
   unfold fstR; rw [hd, if_neg (by omega), if_neg (by omega), if_pos (by omega)]
 · obtain ⟨m, hxm⟩ : ∃ m : Nat, (x.toNat : Int) - 128 = (m : Int) := ⟨x.toNat - 128, by omega⟩
   have hm3 : 1 ≤ m ∧ m ≤ 3 := by omega
   have hmn : x.toNat - 128 = m := by omega
   rw [hxm]
   have hl2 : (b.drop 2).length = b.length - 2 := List.length_drop
   generalize hL : b.drop 2 = L at *
   have hgd : ∀ i, L.getD i Ty.u8.dflt = b.getD (2 + i) Ty.u8.dflt := fun i => by
    rw [← hL, List.getD_eq_getElem?_getD, List.getElem?_drop, List.getD_eq_getElem?_getD]
   have hfst : ∀ v, beN (L.take m) = v → fstR b = chkR b (2 + m) v := fun v hv => by
    unfold fstR
    rw [hd, hL, hmn, if_neg (by omega), if_neg (by omega), if_neg (by omega), hv]
   refine q0G (fun i => [(5, rI (beN (L.take i))), (8, .raw (.int .i64 ((i : Nat) : Int)))]) (m) (fun j => (fun _ => true) j = true) (by first | decide | simp) (fun i => rfl) ?_ fun i hi hall => ?_
   · (with_reducible refine sxE ?_ <;> try exact True.intro)
     all_goals (try rfl)
   have hwr := wsx i (by omega)
   refine gQ ?_
   have bad : i < (m) → (fun _ => true) i = false → allN (m) (fun _ => true) = false := fun hlt hv => q0i hlt hv
   have fin : ¬ i < (m) → allN (m) (fun _ => true) = true := fun h => q0l fun j hj => hall j (by omega)
   try dsimp only at bad fin hall
   refine ⟨fun hlt => ?_, fun hge => ?_⟩
   · have hi2 : IntKind.i64.wrap (2 + (i : Int)) = ((2 + i : Nat) : Int) := by rw [wrapi (by omega)]; omega
     have hv := z7x (L.take i) (by simp; omega)
     have hc : (b.getD (2 + i) Ty.u8.dflt).toNat < 256 := UInt8.toNat_lt _
     have w1 : IntKind.i64.wrap (256 * (beN (L.take i) : Int)) = 256 * (beN (L.take i) : Int) := wrapi (by omega)
     have w2 : IntKind.i64.wrap ((b.getD (2 + i) Ty.u8.dflt).toNat : Int) = (((b.getD (2 + i) Ty.u8.dflt).toNat : Nat) : Int) := wrapi (by omega)
     have e6 := q3q L i (by omega)
     have e7 : L.getD i 0 = b.getD (2 + i) Ty.u8.dflt := hgd i
     rw [e7] at e6
     rw [hi2, Int.toNat_natCast, w1, w2]
     have w3 : IntKind.i64.wrap (256 * (beN (L.take i) : Int) + ((b.getD (2 + i) Ty.u8.dflt).toNat : Int)) = (beN (L.take (i + 1)) : Int) := by rw [wrapi (by omega), e6]; omega
     rw [w3]
     refine ⟨⟨by omega, by omega⟩, hlt, trivial, ⟨[], rfl⟩, ?_⟩
     with_reducible refine sx1 hwr ?_; trivial
   obtain rfl : i = m := by omega
   have hv := z7x (L.take i) (by simp; omega)
   generalize hV : beN (L.take i) = V at *
   have hf := hfst V rfl
   have w1 : IntKind.i64.wrap (2 + (i : Int)) = ((2 + i : Nat) : Int) := by rw [wrapi (by omega)]; omega
   have w2 : IntKind.i64.wrap (((2 + i : Nat) : Int) + (V : Int)) = ((2 + i + V : Nat) : Int) := by rw [wrapi (by omega)]; omega
   have w3 : IntKind.i64.wrap ((b.length : Int) - ((2 + i : Nat) : Int)) = (b.length : Int) - ((2 + i : Nat) : Int) := wrapi (by omega)
   rw [w1, w3, w2, e5]
   refine ⟨fun q => hno' (by rw [hf]; unfold chkR; rw [if_pos (by omega)]), fun q => ⟨by omega, ⟨by omega, by omega, by omega⟩, ?_⟩⟩
   rw [hyes (2 + i) (2 + i + V) (by rw [hf]; unfold chkR; rw [if_neg (by omega)])]
   with_reducible refine sxE ?_
   rfl
 · refine hno' ?_
   unfold fstR; rw [hd, if_neg (by omega), if_neg (by omega), if_pos (by omega)]
 · refine hno' ?_
   unfold fstR; rw [hd, if_neg (by omega), if_neg (by omega), if_pos (by omega)]
 · refine hno' ?_
   unfold fstR chkR; rw [hd, if_neg (by omega), if_pos (by omega), if_pos (by omega)]
 have hf : fstR b = some (2, 2 + x.toNat) := by unfold fstR chkR; rw [hd, if_neg (by omega), if_pos (by omega), if_neg (by omega)]
 rw [hyes _ _ hf]
 have ht : ((2 : Int) + (x.toNat : Int)).toNat = 2 + x.toNat := by omega
 rw [ht]
 refine ⟨by omega, ⟨by omega, by omega⟩, ?_⟩
 with_reducible refine sxE ?_
 exact ⟨rfl, congrArg (Value.int .i64) (by omega)⟩
def conR (b : List UInt8) : List UInt8 := match fstR b with
 | none => []
 | some (a, e) => (b.take e).drop a
theorem q6N {b : List UInt8} {a e : Nat} (h : fstR b = some (a, e)) : 2 ≤ a ∧ a ≤ e ∧ e ≤ b.length := by
 have key : ∀ a' n, chkR b a' n = some (a, e) → 2 ≤ a' → a' ≤ b.length → 2 ≤ a ∧ a ≤ e ∧ e ≤ b.length := by
  intro a' n h1 h2 h3
  unfold chkR at h1
  split at h1
  · cases h1
  cases h1; omega
 unfold fstR at h
 split at h
 · cases h
 split at h
 · exact key _ _ h (by omega) (by omega)
 split at h
 · cases h
 exact key _ _ h (by omega) (by omega)
theorem q1d (b : List UInt8) : (conR b).length ≤ b.length := by
 unfold conR
 split
 · simp
 rw [List.length_drop, List.length_take]; omega
theorem q1l (b : List UInt8) (hb : b.length ≤ 1099511627776) : PC Tryz.prog 34 [.isl .u8 b] (.isl .u8 (conR b)) := by
 have h := z3s b hb
 unfold fstV at h
 unfold conR
 refine q0e rfl rfl ?_
 refine rQ fi34 ?_
 refine q0a h ?_
 cases hf : fstR b with
 | none =>
  refine gQ ?_; trivial
 | some y =>
  obtain ⟨a, e⟩ := y
  refine gQ ?_; trivial
def elsR : Nat → List UInt8 → List (List UInt8)
 | 0, _ => []
 | f + 1, b => match fstR b with
  | none => []
  | some (_, e) => b.take e :: elsR f (b.drop e)
theorem q7t : ∀ (f : Nat) (b : List UInt8), b.length ≤ f → elsR f b = elsR b.length b
 | 0, b, h => by
  have : b = [] := List.length_eq_zero_iff.1 (by omega)
  subst this; rfl
 | f + 1, b, h => by
  cases hb : b.length with
  | zero =>
   have : b = [] := List.length_eq_zero_iff.1 hb
   subst this
   simp [elsR, fstR]
  | succ n =>
   simp only [elsR]
   cases hf : fstR b with
   | none => rfl
   | some y =>
    obtain ⟨a, e⟩ := y
    have hle := q6N hf
    simp only
    rw [q7t f (b.drop e) (by rw [List.length_drop]; omega), q7t n (b.drop e) (by rw [List.length_drop]; omega)]
theorem z5x {b : List UInt8} (h : fstR b = none) : elsR b.length b = [] := by
 cases hb : b.length with
 | zero => rfl
 | succ n => simp only [elsR, h]
theorem z0A {b : List UInt8} {a e : Nat} (h : fstR b = some (a, e)) : elsR b.length b = b.take e :: elsR (b.drop e).length (b.drop e) := by
 have hle := q6N h
 cases hb : b.length with
 | zero => omega
 | succ n =>
  simp only [elsR, h]
  rw [q7t n (b.drop e) (by rw [List.length_drop]; omega)]
theorem q3g (b : List UInt8) (hb : b.length ≤ 1048576) : PC Tryz.prog 41 [.isl .u8 b] (.isl (.slice .u8) (elsR b.length b)) := by
 refine q0e rfl rfl ?_
 refine rQ fi41 ?_
 refine q4P 3 (.slice .u8) rfl rfl ?_
 with_reducible refine sxE ?_
 refine q1c (ι := List UInt8 × List (List UInt8) × List SObj) (fun s => [(0, .isl .u8 s.1), (3, .bld s.2.2.length (.slice .u8) s.2.1.length)]) (fun s => s.2.2 ++ [.row (.slice .u8) s.2.1]) (fun s => s.1.length) (fun s => s.1.length ≤ b.length ∧ s.2.1.length + s.1.length ≤ b.length ∧ elsR b.length b = s.2.1 ++ elsR s.1.length s.1) (b, [], []) ⟨Nat.le_refl _, by simp, rfl⟩ rfl ?_ ?_
 · with_reducible refine sxE ?_; trivial
 rintro ⟨r, acc, G⟩ ⟨h1, h2, h3⟩
 dsimp only at h1 h2 h3
 have hf := z3s r (by omega)
 refine aQ ?_
 refine q0a hf ?_
 unfold fstV
 cases hx : fstR r with
 | none =>
  rw [z5x hx, List.append_nil] at h3
  rw [h3]
  refine aQ ?_
  exact ⟨⟨Nat.le_refl _, by omega⟩, List.take_length⟩
 | some y =>
  obtain ⟨a, e⟩ := y
  have hle := q6N hx
  rw [z0A hx] at h3
  refine aQ ?_
  refine ⟨fun q => by exfalso; omega, fun _ => ⟨⟨by omega, by omega⟩, ⟨by omega, by omega⟩, ⟨by omega, by omega, Nat.le_refl _⟩, ?_⟩⟩
  rw [List.take_length]
  have hl : (r.drop e).length = r.length - e := List.length_drop
  refine ⟨(r.drop e, acc ++ [r.take e], G ++ [.dead, .row (.slice .u8) [r.take e]]), ⟨?_, ?_, ?_⟩, ?_, ?_, ?_⟩
  · dsimp only; omega
  · dsimp only; rw [List.length_append, hl]; simp; omega
  · dsimp only; rw [h3, List.append_assoc]; rfl
  · dsimp only; omega
  · simp
  with_reducible refine sxaE ?_; trivial
theorem q2X : ∀ (f : Nat) (b : List UInt8), ∀ x ∈ elsR f b, 2 ≤ x.length ∧ x.length ≤ b.length
 | 0, b, x, h => by simp [elsR] at h
 | f + 1, b, x, h => by
  simp only [elsR] at h
  cases hf : fstR b with
  | none => rw [hf] at h; simp at h
  | some y =>
   obtain ⟨a, e⟩ := y
   have hle := q6N hf
   rw [hf] at h
   simp only [List.mem_cons] at h
   rcases h with rfl | h
   · rw [List.length_take]; omega
   have := q2X f (b.drop e) x h
   rw [List.length_drop] at this; omega
theorem q3p : ∀ (f : Nat) (b : List UInt8), (elsR f b).length ≤ b.length
 | 0, b => by simp [elsR]
 | f + 1, b => by
  simp only [elsR]
  cases hf : fstR b with
  | none => simp
  | some y =>
   obtain ⟨a, e⟩ := y
   have hle := q6N hf
   have := q3p f (b.drop e)
   rw [List.length_drop] at this
   simp only [List.length_cons]; omega
def isTag (n : Nat) (x : List UInt8) : Bool := decide (((x.getD 0 0).toNat : Int) = 160 + (n : Int))
def fndR (n : Nat) (l : List (List UInt8)) : List UInt8 := match l.find? (isTag n) with
 | none => []
 | some x => conR x
def itmR (b : List UInt8) (n : Nat) : List UInt8 := fndR n (elsR (conR b).length (conR b))
theorem j2R {n : Nat} {l : List (List UInt8)} {i : Nat} (h : i < l.length) (hq : isTag n (l.getD i []) = true) (hn : ∀ j, j < i → isTag n (l.getD j []) = false) : fndR n l = conR (l.getD i []) := by
 have : l.find? (isTag n) = some (l.getD i []) := by
  rw [List.find?_eq_some_iff_getElem]
  refine ⟨hq, i, h, by rw [List.getD_eq_getElem?_getD, List.getElem?_eq_getElem h]; rfl, fun j hj => ?_⟩
  have := hn j hj
  rw [List.getD_eq_getElem?_getD, List.getElem?_eq_getElem (by omega)] at this
  simpa using this
 unfold fndR; rw [this]
theorem j0N {n : Nat} {l : List (List UInt8)} (hn : ∀ j, j < l.length → isTag n (l.getD j []) = false) : fndR n l = [] := by
 have : l.find? (isTag n) = none := by
  rw [List.find?_eq_none]
  intro x hx
  obtain ⟨j, hj, rfl⟩ := List.getElem_of_mem hx
  have := hn j hj
  rw [List.getD_eq_getElem?_getD, List.getElem?_eq_getElem hj] at this
  simpa using this
 unfold fndR; rw [this]
theorem q0E (b : List UInt8) (n : Nat) : (itmR b n).length ≤ b.length := by
 unfold itmR fndR
 split
 · simp
 rename_i x hx
 have h1 := q2X _ _ x (List.mem_of_find?_eq_some hx)
 have h2 := q1d x
 have h3 := q1d b
 omega
theorem q1O (b : List UInt8) (n : Nat) (hn : n ≤ 30) (hb : b.length ≤ 1048576) : PC Tryz.prog 35 [.isl .u8 b, rI n] (.isl .u8 (itmR b n)) := by
 have hl := q1d b
 have hc := q1l b (by omega)
 have he := q3g (conR b) (by omega)
 have hm := q2X (conR b).length (conR b)
 have hle := q3p (conR b).length (conR b)
 have hd : itmR b n = fndR n (elsR (conR b).length (conR b)) := rfl
 rw [hd]
 generalize elsR (conR b).length (conR b) = l at *
 refine q0e rfl rfl ?_
 refine rQ fi35 ?_
 refine q0a hc ?_
 refine gQ ?_
 refine q0a he ?_
 refine gQ ?_
 refine q0G (fun i => [(6, .raw (.int .i64 ((i : Nat) : Int)))]) (l.length) (fun j => (fun j => !isTag n (l.getD j [])) j = true) (by first | decide | simp) (fun i => rfl) ?_ fun i hi hall => ?_
 · (with_reducible refine sxE ?_ <;> try exact True.intro)
   all_goals (try rfl)
 have hwr := wsx i (by omega)
 refine gQ ?_
 have bad : i < (l.length) → (fun j => !isTag n (l.getD j [])) i = false → allN (l.length) (fun j => !isTag n (l.getD j [])) = false := fun hlt hv => q0i hlt hv
 have fin : ¬ i < (l.length) → allN (l.length) (fun j => !isTag n (l.getD j [])) = true := fun h => q0l fun j hj => hall j (by omega)
 try dsimp only at bad fin hall
 refine ⟨fun hlt => ?_, fun hge => ?_⟩
 · have hmm := hm _ (q0K (d := (Ty.slice .u8).dflt) hlt)
   have hx := (List.getD (l.getD i (Ty.slice .u8).dflt) 0 Ty.u8.dflt).toNat_lt
   have w1 : IntKind.i64.wrap ((List.getD (l.getD i (Ty.slice .u8).dflt) 0 Ty.u8.dflt).toNat : Int) = (((List.getD (l.getD i (Ty.slice .u8).dflt) 0 Ty.u8.dflt).toNat : Nat) : Int) := wrapi (by omega)
   have w2 : IntKind.i64.wrap (160 + (n : Int)) = 160 + (n : Int) := wrapi (by omega)
   rw [w1, w2]
   refine ⟨⟨by omega, hlt⟩, by omega, fun q => ⟨⟨by omega, hlt⟩, q0a (q1l _ (by omega)) ?_⟩, fun q => ?_⟩
   · have hq : isTag n (l.getD i []) = true := decide_eq_true q
     rw [j2R hlt hq (fun j hj => by have := hall j hj; simpa using this)]
     refine gQ ?_
     rfl
   have hq : isTag n (l.getD i []) = false := decide_eq_false q
   refine ⟨hlt, q0L (fun j hj => by have := hall j hj; simpa using this) hq, ⟨[], rfl⟩, ?_⟩
   with_reducible refine sx1 hwr ?_; trivial
 rw [j0N (fun j hj => by have := hall j (by omega); simpa using this)]
def gIntR (b : List UInt8) : Nat := beN ((conR b).take 7)
theorem q2C (b : List UInt8) (hb : b.length ≤ 1099511627776) : PC Tryz.prog 36 [.isl .u8 b] (rI (gIntR b)) := by
 have hc := q1l b hb
 unfold gIntR
 generalize conR b = c at *
 refine q0e rfl rfl ?_
 refine rQ fi36 ?_
 refine q0a hc ?_
 refine gQ ?_
 refine q0G (fun i => [(4, rI (beN (c.take i))), (5, .raw (.int .i64 ((i : Nat) : Int)))]) (min c.length 7) (fun j => (fun _ => true) j = true) (by first | decide | simp) (fun i => rfl) ?_ fun i hi hall => ?_
 · (with_reducible refine sxE ?_ <;> try exact True.intro)
   all_goals (try rfl)
 have hwr := wsx i (by omega)
 refine gQ ?_
 have bad : i < (min c.length 7) → (fun _ => true) i = false → allN (min c.length 7) (fun _ => true) = false := fun hlt hv => q0i hlt hv
 have fin : ¬ i < (min c.length 7) → allN (min c.length 7) (fun _ => true) = true := fun h => q0l fun j hj => hall j (by omega)
 try dsimp only at bad fin hall
 refine ⟨fun h1 => ⟨fun h2 => ⟨⟨by omega, h1⟩, ?_⟩, fun h2 => ?_⟩, fun h1 => ?_⟩
 · have hv := q3i (c.take i)
   have hv2 : 256 ^ (c.take i).length ≤ 256 ^ 6 := Nat.pow_le_pow_right (by decide) (by simp; omega)
   have hcc : (c.getD i Ty.u8.dflt).toNat < 256 := UInt8.toNat_lt _
   have w1 : IntKind.i64.wrap (256 * (beN (c.take i) : Int)) = 256 * (beN (c.take i) : Int) := wrapi (by omega)
   have w2 : IntKind.i64.wrap ((c.getD i Ty.u8.dflt).toNat : Int) = (((c.getD i Ty.u8.dflt).toNat : Nat) : Int) := wrapi (by omega)
   have e6 : beN (c.take (i + 1)) = beN (c.take i) * 256 + (c.getD i Ty.u8.dflt).toNat := q3q c i h1
   have w3 : IntKind.i64.wrap (256 * (beN (c.take i) : Int) + ((c.getD i Ty.u8.dflt).toNat : Int)) = (beN (c.take (i + 1)) : Int) := by rw [wrapi (by omega), e6]; omega
   rw [w1, w2, w3]
   refine ⟨by omega, trivial, ⟨[], rfl⟩, ?_⟩
   with_reducible refine sx1 hwr ?_; trivial
 · obtain rfl : i = 7 := by omega
   rfl
 obtain rfl : i = c.length := by omega
 rw [List.take_length, List.take_of_length_le (by omega)]
def gBitsR (b : List UInt8) : Nat := beN (((conR b).drop 1).take 4)
theorem q8b (b : List UInt8) (hb : b.length ≤ 1048576) : PC Tryz.prog 170 [.isl .u8 b] (.isl .u8 (conR b)) := by
 have hc := q1l b (by omega)
 have hl := q1d b
 generalize conR b = c at *
 refine q0e rfl rfl ?_
 refine rQ fi170 ?_
 refine q0a hc ?_
 refine gQ ?_
 exact ⟨⟨by omega, by omega⟩, ⟨by omega, by omega⟩, List.take_of_length_le (by omega)⟩
theorem z7y (b : List UInt8) (hb : b.length ≤ 1099511627776) : PC Tryz.prog 38 [.isl .u8 b] (rI (gBitsR b)) := by
 have hc := q1l b hb
 unfold gBitsR
 generalize conR b = c at *
 refine q0e rfl rfl ?_
 refine rQ fi38 ?_
 refine q0a hc ?_
 refine gQ ?_
 have hl : (c.drop 1).length = c.length - 1 := List.length_drop
 have hgd : ∀ i, c.getD (1 + i) Ty.u8.dflt = (c.drop 1).getD i Ty.u8.dflt := fun i => by
  rw [List.getD_eq_getElem?_getD, List.getD_eq_getElem?_getD, List.getElem?_drop]
 refine q0G (fun i => [(4, rI (beN ((c.drop 1).take i))), (5, .raw (.int .i64 ((1 + i : Nat) : Int)))]) (min (c.drop 1).length 4) (fun _ => True) (by simp) (fun i => rfl) ?_ fun i hi hall => ?_
 · with_reducible refine sxE ?_
   exact ⟨rfl, rfl⟩
 refine gQ ?_
 generalize hD : c.drop 1 = d at *
 refine ⟨fun h1 => ⟨fun h2 => ⟨⟨by omega, h1⟩, ?_⟩, fun h2 => ?_⟩, fun h1 => ?_⟩
 · have hv := q3i (d.take i)
   have hv2 : 256 ^ (d.take i).length ≤ 256 ^ 6 := Nat.pow_le_pow_right (by decide) (by simp; omega)
   have hcc : (c.getD (1 + i) Ty.u8.dflt).toNat < 256 := UInt8.toNat_lt _
   have w1 : IntKind.i64.wrap (256 * (beN (d.take i) : Int)) = 256 * (beN (d.take i) : Int) := wrapi (by omega)
   have w2 : IntKind.i64.wrap ((c.getD (1 + i) Ty.u8.dflt).toNat : Int) = (((c.getD (1 + i) Ty.u8.dflt).toNat : Nat) : Int) := wrapi (by omega)
   have e6 : beN (d.take (i + 1)) = beN (d.take i) * 256 + (d.getD i Ty.u8.dflt).toNat := q3q d i (by omega)
   rw [← hgd i] at e6
   have w3 : IntKind.i64.wrap (256 * (beN (d.take i) : Int) + ((c.getD (1 + i) Ty.u8.dflt).toNat : Int)) = (beN (d.take (i + 1)) : Int) := by rw [wrapi (by omega), e6]; omega
   have hwr : IntKind.i64.wrap (((1 + i : Nat) : Int) + 1) = ((1 + (i + 1) : Nat) : Int) := by rw [wrapi (by omega)]; omega
   rw [w1, w2, w3]
   refine ⟨by omega, trivial, ⟨[], rfl⟩, ?_⟩
   with_reducible refine sx1 hwr ?_; trivial
 · obtain rfl : i = 4 := by omega
   rfl
 obtain rfl : i = d.length := by omega
 rw [List.take_length, List.take_of_length_le (by omega)]
end Go.Proofs.YtkbbkhmffmfliaaGreatDoor
