/- Realms, plainly; contracts of the reference's names. -/
import Derived.Test.YtddmkgibghohkaaGreatDoorP16
import Derived.Test.YtddmkgibghohkaaGreatDoorP9
import Derived.Test.YtddmkgibghohkaaGreatDoorP10
set_option linter.unusedSimpArgs false
set_option linter.unusedVariables false
set_option linter.unusedSectionVars false
namespace Go.Proofs.YtddmkgibghohkaaGreatDoor
open Go Go.Sx Go.Proofs
set_option maxRecDepth 100000
set_option maxHeartbeats 4000000
set_option linter.unusedSimpArgs false

def rlmR : Bool → List UInt8 → Bool
 | prev, [] => !prev
 | prev, c :: cs => if c == 46 then !prev && rlmR true cs else realmChar c && rlmR false cs
def labL (l : List UInt8) : Bool := decide (0 < l.length) && l.all realmChar
theorem split_R : ∀ (cs cur : List UInt8), (splitGo cur cs).all labL = (cur.all realmChar && rlmR cur.isEmpty cs)
 | [], cur => by cases cur <;> simp [splitGo, labL, rlmR, Bool.and_comm]
 | c :: cs, cur => by
  rw [splitGo, rlmR]
  split
  · have := split_R cs []
    simp only [List.all_cons, this, List.all_nil, List.isEmpty_nil, Bool.true_and]
    cases cur <;> simp [labL, Bool.and_comm, Bool.and_left_comm]
  · have := split_R cs (c :: cur)
    rw [this, List.all_cons, List.isEmpty_cons]
    cases realmChar c <;> simp
def rlmAt (prev : Bool) (l : List UInt8) (j : Nat) : Bool :=
 if l.getD j 0 = 46 then decide (j + 1 < l.length) && (if j = 0 then !prev else decide (l.getD (j - 1) 0 ≠ 46)) else realmChar (l.getD j 0)
theorem rlmR_at : ∀ (l : List UInt8) (prev : Bool), l ≠ [] → rlmR prev l = allN l.length (rlmAt prev l)
 | [], _, h => absurd rfl h
 | [c], prev, _ => by
  simp only [rlmR, allN, List.length_singleton, List.range_one, List.all_cons, List.all_nil, Bool.and_true, rlmAt]
  by_cases h : c = 46 <;> simp [h]
 | c :: d :: l, prev, _ => by
  have ih := rlmR_at (d :: l) (c == 46) (by simp)
  have hs : ∀ j, rlmAt prev (c :: d :: l) (j + 1) = rlmAt (c == 46) (d :: l) j := fun j => by
   unfold rlmAt
   simp only [List.getD_cons_succ, List.length_cons, Nat.add_sub_cancel]
   cases j with
   | zero =>
    by_cases h : c = 46
    · simp [h]
    · have : (c == 46) = false := by simpa using h
      simp [h, this]
   | succ j => simp
  have ha : allN (c :: d :: l).length (rlmAt prev (c :: d :: l)) = (rlmAt prev (c :: d :: l) 0 && allN (d :: l).length (rlmAt (c == 46) (d :: l))) := by
   rw [Bool.eq_iff_iff, Bool.and_eq_true, allN_iff, allN_iff]
   constructor
   · intro h
     exact ⟨h 0 (by simp), fun j hj => by rw [← hs]; exact h (j + 1) (by simp at hj ⊢; omega)⟩
   · rintro ⟨h0, h⟩ j hj
     cases j with
     | zero => exact h0
     | succ j => rw [hs]; exact h j (by simp at hj ⊢; omega)
  rw [ha, ← ih, rlmR]
  by_cases h : c = 46
  · subst h; simp [rlmAt]
  · have : (c == 46) = false := by simpa using h
    simp [rlmAt, h, this]
theorem realmB_at (s : ByteArray) : realmB s = (szB s && allN s.size (rlmAt true s.data.toList)) := by
 have h1 : sizedB s = szB s := by
  unfold sizedB szB
  rw [Bool.eq_iff_iff]; simp; omega
 have h2 : (splitB s).all labelB = (splitDot s.data.toList).all labL := by
  unfold splitB
  rw [List.all_map]
  congr 1
 rw [realmB, h1, h2, splitDot, split_R, List.all_nil, List.isEmpty_nil, Bool.true_and]
 by_cases h : s.data.toList = []
 · have : s.size = 0 := by
    have := congrArg List.length h
    simpa using this
   simp [szB, this]
 · rw [rlmR_at _ _ h]; first | rfl | simp
theorem u8_eq {c : UInt8} {n : Nat} (hn : n < 256) : c = UInt8.ofNat n ↔ (c.toNat : Int) = n := by
 have h : (UInt8.ofNat n).toNat = n := by rw [UInt8.toNat_ofNat']; omega
 rw [← UInt8.toNat_inj, h]; omega
theorem realmChar_iff (c : UInt8) : realmChar c = true ↔ (c.toNat : Int) = 45 ∨ (65 ≤ (c.toNat : Int) ∧ (c.toNat : Int) ≤ 90) ∨ (48 ≤ (c.toNat : Int) ∧ (c.toNat : Int) ≤ 57) := by
 have h := u8_eq (c := c) (n := 45) (by decide)
 simp only [realmChar, Bool.or_eq_true, Bool.and_eq_true, decide_eq_true_eq, beq_iff_eq]
 have h' : c = 45 ↔ (c.toNat : Int) = 45 := h
 rw [h']
 omega
theorem rlm_iff {s : ByteArray} {i : Nat} (hlt : i < s.size) : rlmAt true s.data.toList i = true ↔
 (if ((s.data.toList.getD i 0).toNat : Int) = 46 then (i : Int) ≠ 0 ∧ (i : Int) ≠ ((s.size - 1 : Nat) : Int) ∧ ((s.data.toList.getD (i - 1) 0).toNat : Int) ≠ 46 else ((s.data.toList.getD i 0).toNat : Int) = 45 ∨ (65 ≤ ((s.data.toList.getD i 0).toNat : Int) ∧ ((s.data.toList.getD i 0).toNat : Int) ≤ 90) ∨ (48 ≤ ((s.data.toList.getD i 0).toNat : Int) ∧ ((s.data.toList.getD i 0).toNat : Int) ≤ 57)) := by
 have hl : s.data.toList.length = s.size := by simp
 have h46 : ∀ c : UInt8, c = 46 ↔ (c.toNat : Int) = 46 := fun c => u8_eq (c := c) (n := 46) (by decide)
 unfold rlmAt
 rw [← realmChar_iff, hl]
 by_cases hc : s.data.toList.getD i 0 = 46
 · rw [if_pos hc, if_pos ((h46 _).1 hc), Bool.and_eq_true, decide_eq_true_eq]
   by_cases h0 : i = 0
   · simp [h0]
   · rw [if_neg h0, decide_eq_true_eq, ne_eq, h46]
     omega
 · rw [if_neg hc, if_neg (fun h => hc ((h46 _).2 h))]
theorem realm_noat {s : ByteArray} (h : realmB s = true) : (64 : UInt8) ∉ s.data.toList := by
 rw [realmB_at, Bool.and_eq_true, allN_iff] at h
 intro hm
 obtain ⟨j, hj, he⟩ := List.getElem_of_mem hm
 have hj' : j < s.size := by simpa using hj
 have := (rlm_iff hj').1 (h.2 j hj')
 rw [List.getD_eq_getElem?_getD, List.getElem?_eq_getElem hj, he] at this
 simp at this
theorem vPrin_parts {p : Prin} (h : vPrin p = true) : p.1 ≠ [] ∧ (64 : UInt8) ∉ p.2.data.toList := by
 simp only [vPrin, Bool.and_eq_true, decide_eq_true_eq] at h
 exact ⟨fun e => by rw [e] at h; simp at h, realm_noat h.1.2.2⟩
theorem txt_nodup {l : List Prin} (hv : ∀ p ∈ l, vPrin p = true) : (l.map txt).Nodup ↔ l.Nodup := by
 induction l with
 | nil => simp
 | cons p l ih =>
  have hvl := fun q hq => hv q (List.mem_cons_of_mem _ hq)
  rw [List.map_cons, List.nodup_cons, List.nodup_cons, ih hvl]
  refine and_congr_left fun _ => not_congr ⟨fun h => ?_, fun h => List.mem_map_of_mem h⟩
  obtain ⟨q, hq, he⟩ := List.mem_map.1 h
  have h1 := vPrin_parts (hv p (by simp))
  have h2 := vPrin_parts (hvl q hq)
  rw [← txt_inj h2.1 h1.1 h2.2 h1.2 he]
  exact hq
def disB (l : List Prin) : Bool := decide l.Nodup
theorem distinct_c (l : List Prin) (hp : (Ty.slice PrinT).ok l) (hv : ∀ p ∈ l, vPrin p = true) : PC Tryz.prog 168 [.isl PrinT l] (rB (disB l)) := by
 have h := distinct_w l hp hv
 rwa [keysN_nodup, show decide ((l.map txt).Nodup) = disB l from decide_eq_decide.2 (txt_nodup hv)] at h
end Go.Proofs.YtddmkgibghohkaaGreatDoor
/- Contracts: what is valid. -/
namespace Go.Proofs.YtddmkgibghohkaaGreatDoor
open Go Go.Sx Go.Proofs
set_option maxRecDepth 100000
set_option maxHeartbeats 4000000
set_option linter.unusedSimpArgs false

theorem vtext_k (s : ByteArray) (hs : s.size ≤ 140737488355328) : PC Tryz.prog 92 [rS s] (rB (visB s && decide ((s.size : Int) ≤ 32))) := by
 refine pc_of rfl rfl ?_
 refine runE mixed fi92 ?_
 refine si_cnt 6 s.size (fun j => visC (s.data.toList.getD j 0) = true) ?_ fun i hi hall => ?_
 · with_reducible refine sxE ?_; trivial
 refine goE mixed ?_
 refine ⟨fun hlt => ⟨⟨by omega, hlt⟩, fun h33 => ⟨⟨by omega, hlt⟩, fun h126 => ?_, fun h126 => cnt_next hlt hall ?_ ?_⟩, fun h33 => ?_⟩, fun hge => ?_⟩
 · rw [show visB s = false from allN_false hlt (visC_hi h126)]; rfl
 · exact visC_of h33 h126
 · with_reducible refine sxE ?_
   rw [wrap_succ (by omega)]
 · rw [show visB s = false from allN_false hlt (visC_lo h33)]; rfl
 · rw [show visB s = true from allN_true fun j hj => hall j (by omega)]; rfl
def inB (m v : Int) : Bool := decide (0 ≤ v) && decide (v ≤ m)
theorem within1_c (v m : Int) (h : Nat) (T : TypeId) (H : List SObj) (hH : H[h]? = some (.cells T [rI m])) : PCH Tryz.prog 88 [rI v, .ptr h 0] (rB (inB m v)) H := by
 refine pch_drop rfl ?_
 refine runE mixed fi88 ?_
 with_reducible refine sx1 hH ?_
 refine callI_pure (btw_c v 0 m) ?_
 refine goE mixed ?_
 exact ⟨rfl, [], by simp⟩
theorem within_c (m : Int) (l : List Int) (hl : l.length ≤ 1125899906842624) : PC Tryz.prog 86 [rI m, .isl I64 l] (rB (l.all (inB m))) := by
 refine pc_of rfl rfl ?_
 refine runE mixed fi86 ?_
 refine callI_at (every_int l _ _ _ (inB m) _ hl (fun x _ G => within1_c x m 0 3 _ rfl)) ?_
 refine goE mixed ?_
 simp
theorem principals_c (l : List Prin) (hp : (Ty.slice PrinT).ok l) : PC Tryz.prog 93 [.isl PrinT l] (rB ((decide ((l.length : Int) ≤ 16) && l.all vPrin) && disB l)) := by
 refine pc_of rfl rfl ?_
 refine runE mixed fi93 ?_
 refine callI_at (every_prin l _ _ _ vPrin _ hp.1 (fun x hx G => (nvalid_c x (hp.2 x hx)).at _)) ?_
 refine goE mixed ?_
 refine ⟨fun h => ?_, fun h => ?_⟩
 · refine callI_pure (distinct_c l hp (fun p hpl => List.all_eq_true.1 (Bool.and_eq_true_iff.1 h).2 p hpl)) ?_
   refine goE mixed ?_
   simp [h]
 · simp [h]

def lenB (d : List UInt8) : Bool := decide ((d.length : Int) = 16)
theorem hist_k (d : List UInt8) : PC Tryz.prog 95 [.isl .u8 d] (rB (lenB d)) := by
 refine pc_of rfl rfl ?_
 refine runE mixed fi95 ?_
 rfl
def kOrd (a b : Key) : Bool := decide (a.1 < b.1)
theorem vset2_k (a b : Key) : PC Tryz.prog 117 [.agg (KeyT.cells a), .agg (KeyT.cells b)] (rB (kOrd a b)) := by
 refine pc_of rfl rfl ?_
 refine runE mixed fi117 ?_
 rfl
def sOrd (a b : KSet) : Bool := decide (b.1 < a.1) && decide (b.2.2.2.2 ≤ a.2.2.2.2)
theorem vkeys2_k (a b : KSet) : PC Tryz.prog 172 [.agg (SetT.cells a), .agg (SetT.cells b)] (rB (sOrd a b)) := by
 refine pc_of rfl rfl ?_
 refine runE mixed fi172 ?_
 grind [sOrd]
def vKeyS (v m : Int) (k : Key) : Bool := decide (k.2.1 = v) && (decide (keyLen k.1 ≠ 0) && (if m = 0 then vKey k else decide (1 ≤ (k.2.2.length : Int)) && decide ((k.2.2.length : Int) ≤ 256)))
theorem kindOf_cases (p : Int) : kindOf p = kind1 ∨ kindOf p = kind2 ∨ kindOf p = kindZ := by
 unfold kindOf
 split
 · exact .inl rfl
 · split
   · exact .inr (.inl rfl)
   · exact .inr (.inr rfl)
theorem pvalid_k (k : Key) : PC Tryz.prog 114 [.agg (KeyT.cells k)] (rB (vKey k)) := by
 refine pc_of rfl rfl ?_
 refine runE mixed fi114 ?_
 refine callI_pure (find_c k) ?_
 rcases kindOf_cases k.1 with h | h | h
 · rw [h]
   refine run_sound mixed 600 _ ?_
   simp (maxSteps := 3000000) only [kind1, go_sem, ↓zA, ↓reduceIte, ↓reduceDIte, reduceCtorEq, Nat.reduceAdd, Nat.reduceSub, Nat.reduceLeDiff, Nat.reduceLT, Nat.reduceEqDiff, Nat.reduceBEq, Nat.reduceMul, Int.reduceToNat, Int.reduceEq, Int.reduceLT, Int.reduceLE] <;> try simp only [zB]
 · rw [h]
   refine run_sound mixed 600 _ ?_
   simp (maxSteps := 3000000) only [kind2, go_sem, ↓zA, ↓reduceIte, ↓reduceDIte, reduceCtorEq, Nat.reduceAdd, Nat.reduceSub, Nat.reduceLeDiff, Nat.reduceLT, Nat.reduceEqDiff, Nat.reduceBEq, Nat.reduceMul, Int.reduceToNat, Int.reduceEq, Int.reduceLT, Int.reduceLE] <;> try simp only [zB]
 · rw [h]
   refine run_sound mixed 600 _ ?_
   simp (maxSteps := 3000000) only [kindZ, go_sem, ↓zA, ↓reduceIte, ↓reduceDIte, reduceCtorEq, Nat.reduceAdd, Nat.reduceSub, Nat.reduceLeDiff, Nat.reduceLT, Nat.reduceEqDiff, Nat.reduceBEq, Nat.reduceMul, Int.reduceToNat, Int.reduceEq, Int.reduceLT, Int.reduceLE] <;> try simp only [zB]
theorem vset1_k (k : Key) (s : KSet) (m : Int) (H : List SObj) (hs : ∀ R, (H ++ R)[0]? = some (.cells 34 (SetT.cells s))) (hm : ∀ R, (H ++ R)[1]? = some (.cells 3 [rI m])) : PCH Tryz.prog 112 [.agg (KeyT.cells k), .ptr 0 0, .ptr 1 0] (rB (vKeyS s.1 m k)) H := by
 refine pch_drop rfl ?_
 have hs0 := hs []
 have hm0 := hm []
 rw [List.append_nil] at hs0 hm0
 refine vc_fi fi112 (run_sound mixed 600 _ ?_)
 simp (maxSteps := 3000000) only [ir112, hs, hm, hs0, hm0, go_sem, ↓zA, ↓reduceIte, ↓reduceDIte, reduceCtorEq, Nat.reduceAdd, Nat.reduceSub, Nat.reduceLeDiff, Nat.reduceLT, Nat.reduceEqDiff, Nat.reduceBEq, Nat.reduceMul, Int.reduceToNat, Int.reduceEq, Int.reduceLT, Int.reduceLE] <;> try simp only [zB]
 refine ⟨fun hv => callI_pure (keyLen_c _) ?_, fun hv => ⟨?_, _, rfl⟩⟩
 · refine run_sound mixed 600 _ ?_
   simp (maxSteps := 3000000) only [hs, hm, go_sem, ↓zA, ↓reduceIte, ↓reduceDIte, reduceCtorEq, Nat.reduceAdd, Nat.reduceSub, Nat.reduceLeDiff, Nat.reduceLT, Nat.reduceEqDiff, Nat.reduceBEq, Nat.reduceMul, Int.reduceToNat, Int.reduceEq, Int.reduceLT, Int.reduceLE] <;> try simp only [zB]
   refine ⟨fun h0 => ⟨?_, _, rfl⟩, fun h0 => ⟨fun hz => callI_pure (pvalid_k k) ?_, fun hz => callI_pure (btw_c _ _ _) ?_⟩⟩
   · rw [vKeyS, h0]; simp
   · refine goE mixed ?_
     refine ⟨?_, _, rfl⟩
     simp [vKeyS, hv, h0, hz]
   · refine goE mixed ?_
     refine ⟨?_, _, rfl⟩
     simp [vKeyS, hv, h0, hz]
 · simp [vKeyS, hv]
def vSet (s : KSet) (m : Int) : Bool :=
 (decide (1 ≤ s.1) && decide (s.1 ≤ 65535)) && (decide (1 ≤ (s.2.1.length : Int)) && ((decide ((s.2.1.length : Int) ≤ 4) && s.2.1.all (vKeyS s.1 m)) && (ord (t := KeyT) kOrd s.2.1 && (decide ((s.2.2.1.size : Int) ≤ 256) &&
  ((decide (0 ≤ s.2.2.2.1) && decide (s.2.2.2.1 ≤ 65536)) && ((decide (0 < s.2.2.2.1) || decide (s.2.2.1 = ⟨#[]⟩)) && (decide (0 ≤ s.2.2.2.2) && decide (s.2.2.2.2 ≤ 1099511627776))))))))
theorem vset_k (s : KSet) (m : Int) (hs : SetT.ok s) : PC Tryz.prog 46 [.agg (SetT.cells s), rI m] (rB (vSet s m)) := by
 refine pc_of rfl rfl ?_
 refine runE mixed fi46 ?_
 refine callI_pure (btw_c _ _ _) ?_
 refine goE mixed ?_
 refine ⟨fun h1 => ⟨fun h2 => ?_, fun h2 => ?_⟩, fun h1 => ?_⟩
 · refine callI_at (every_key _ _ _ _ (vKeyS s.1 m) _ hs.2.1.1 (fun x _ G => vset1_k x s m _ (fun R => rfl) (fun R => rfl))) ?_
   refine goE mixed ?_
   refine ⟨fun h3 => ?_, fun h3 => ?_⟩
   · refine callI_at (ordered_key _ _ _ kOrd _ hs.2.1.1 (fun x _ y _ G => (vset2_k x y).at _)) ?_
     refine goE mixed ?_
     refine ⟨fun h4 => ⟨fun h5 => ?_, fun h5 => ?_⟩, fun h4 => ?_⟩
     · refine callI_pure (btw_c _ _ _) ?_
       refine goE mixed ?_
       refine ⟨fun h6 => ⟨fun h7 => ⟨fun h8 => ?_, fun h8 => ?_⟩, fun h7 => ?_⟩, fun h6 => ?_⟩
       · refine callI_pure (btw_c _ _ _) ?_
         refine goE mixed ?_
         rw [h8] at h5
         simp [vSet, h1, h2, h3, h4, h5, h6, h7, h8]
       · simp [vSet, h7, h8]
       · refine callI_pure (btw_c _ _ _) ?_
         refine goE mixed ?_
         simp [vSet, h1, h2, h3, h4, h5, h6, h7]
       · simp [vSet, h6]
     · simp [vSet, h5]
     · simp [vSet, h4]
   · simp [vSet, h3]
 · simp [vSet, h2]
 · simp [vSet, h1]
end Go.Proofs.YtddmkgibghohkaaGreatDoor
/- Contracts: entries that are valid. -/
namespace Go.Proofs.YtddmkgibghohkaaGreatDoor
open Go Go.Sx Go.Proofs
set_option maxRecDepth 100000
set_option maxHeartbeats 4000000
set_option linter.unusedSimpArgs false

theorem vkeys1_k (s : KSet) (e : Ent) (H : List SObj) (hs : SetT.ok s) (he : ∀ R, (H ++ R)[0]? = some (.cells 31 (EntT.cells e))) : PCH Tryz.prog 170 [.agg (SetT.cells s), .ptr 0 0] (rB (vSet s e.2.2.2.1)) H := by
 refine pch_drop rfl ?_
 have he0 := he []
 rw [List.append_nil] at he0
 refine vc_fi fi170 (run_sound mixed 600 _ ?_)
 simp (maxSteps := 3000000) only [ir170, he, he0, go_sem, ↓zA, ↓reduceIte, ↓reduceDIte, reduceCtorEq, Nat.reduceAdd, Nat.reduceSub, Nat.reduceLeDiff, Nat.reduceLT, Nat.reduceEqDiff, Nat.reduceBEq, Nat.reduceMul, Int.reduceToNat, Int.reduceEq, Int.reduceLT, Int.reduceLE] <;> try simp only [zB]
 refine callI_pure (vset_k s _ hs) ?_
 refine goE mixed ?_
 exact ⟨rfl, _, rfl⟩

def vAlias (r : ByteArray) (a : Prin) : Bool := vPrin a && decide (a.2 = r)
theorem vnames1_k (a : Prin) (e : Ent) (H : List SObj) (ha : PrinT.ok a) (he : ∀ R, (H ++ R)[0]? = some (.cells 31 (EntT.cells e))) : PCH Tryz.prog 165 [.agg (PrinT.cells a), .ptr 0 0] (rB (vAlias e.1.2 a)) H := by
 refine pch_drop rfl ?_
 have he0 := he []
 rw [List.append_nil] at he0
 refine vc_fi fi165 (run_sound mixed 600 _ ?_)
 simp (maxSteps := 3000000) only [ir165, he, he0, go_sem, ↓zA, ↓reduceIte, ↓reduceDIte, reduceCtorEq, Nat.reduceAdd, Nat.reduceSub, Nat.reduceLeDiff, Nat.reduceLT, Nat.reduceEqDiff, Nat.reduceBEq, Nat.reduceMul, Int.reduceToNat, Int.reduceEq, Int.reduceLT, Int.reduceLE] <;> try simp only [zB]
 refine callI_pure (nvalid_c a ha) ?_
 refine run_sound mixed 600 _ ?_
 with_reducible refine sx1 he ?_
 refine ⟨fun h => ⟨?_, _, rfl⟩, fun h => ⟨?_, _, rfl⟩⟩
 · simp [vAlias, h]
 · simp [vAlias, h]
def vNames (e : Ent) : Bool := vPrin e.1 && ((decide ((e.2.1.length : Int) ≤ 16) && e.2.1.all (vAlias e.1.2)) && disB (e.1 :: e.2.1))
theorem vnames_k (e : Ent) (he : EntT.ok e) : PC Tryz.prog 90 [.agg (EntT.cells e)] (rB (vNames e)) := by
 refine pc_of rfl rfl ?_
 refine runE mixed fi90 ?_
 refine callI_pure (nvalid_c e.1 he.1) ?_
 refine goE mixed ?_
 refine ⟨fun h1 => ?_, fun h1 => ?_⟩
 rotate_left
 · first | (simp only [vNames, h1, Bool.false_and, Bool.and_false]; done) | simp [vNames, h1]
 refine callI_at ((every_prin _ _ _ _ (vAlias e.1.2) _ he.2.1.1 (fun x hx G => vnames1_k x e _ (he.2.1.2 x hx) (fun R => rfl)))) ?_
 refine goE mixed ?_
 refine ⟨fun h2 => ?_, fun h2 => ?_⟩
 rotate_left
 · first | (simp only [vNames, h2, Bool.false_and, Bool.and_false]; done) | simp [vNames, h2]
 have hl : (e.2.1.length : Int) ≤ 16 := by simp only [Bool.and_eq_true, decide_eq_true_eq] at h2; exact h2.1
 have ha : ∀ a ∈ e.2.1, vPrin a = true := fun a hm => by
  simp only [Bool.and_eq_true, List.all_eq_true] at h2
  have := h2.2 a hm
  simp only [vAlias, Bool.and_eq_true] at this
  exact this.1
 refine ⟨he.1.2, ⟨by omega, by omega⟩, callI_hand 2 ?_⟩
 with_reducible refine sxE ?_
 refine ⟨by omega, by omega, ?_⟩
 rw [List.take_of_length_le (by simp; omega)]
 refine callI_pure (distinct_c (e.1 :: e.2.1) ⟨by simp; omega, fun a hm => ?_⟩ (fun a hm => ?_)) ?_
 · rcases List.mem_cons.1 hm with rfl | hm
   · exact he.1
   · exact he.2.1.2 a hm
 · rcases List.mem_cons.1 hm with rfl | hm
   · exact h1
   · exact ha a hm
 refine goE mixed ?_
 simp [vNames, h1, h2]
def vKeys (e : Ent) : Bool := (decide ((e.2.2.2.2.1.length : Int) ≤ 16) && e.2.2.2.2.1.all (vSet · e.2.2.2.1)) && ord (t := SetT) sOrd e.2.2.2.2.1
theorem vkeys_k (e : Ent) (he : EntT.ok e) : PC Tryz.prog 91 [.agg (EntT.cells e)] (rB (vKeys e)) := by
 refine pc_of rfl rfl ?_
 refine runE mixed fi91 ?_
 refine callI_at ((every_kset _ _ _ _ (vSet · e.2.2.2.1) _ he.2.2.2.2.1.1 (fun x hx G => vkeys1_k x e _ (he.2.2.2.2.1.2 x hx) (fun R => rfl)))) ?_
 refine goE mixed ?_
 refine ⟨fun h3 => ?_, fun h3 => ?_⟩
 rotate_left
 · first | (simp only [vKeys, h3, Bool.false_and, Bool.and_false]; done) | simp [vKeys, h3]
 refine callI_at (ordered_kset _ _ _ sOrd _ he.2.2.2.2.1.1 (fun x _ y _ G => (vkeys2_k x y).at _)) ?_
 refine goE mixed ?_
 simp_all [vKeys]

def vText (s : ByteArray) : Bool := visB s && decide ((s.size : Int) ≤ 32)
def vPrins (l : List Prin) : Bool := (decide ((l.length : Int) ≤ 16) && l.all vPrin) && disB l
def attrB (a : Int) : Bool := decide (IntKind.u32.wrap (BitVec.ofInt 32 a &&& ~~~(BitVec.ofInt 32 1023)).toNat = 0)
def vEnt (e : Ent) : Bool :=
 vNames e && (attrB e.2.2.1 && ([e.2.2.2.1].all (inB 65535) && (vKeys e && (vText e.2.2.2.2.2.1 && ([e.2.2.2.2.2.2.1, e.2.2.2.2.2.2.2.1, e.2.2.2.2.2.2.2.2.2.2.2.1, e.2.2.2.2.2.2.2.2.2.2.2.2.1].all (inB 1099511627776) &&
  ([e.2.2.2.2.2.2.2.2.1, e.2.2.2.2.2.2.2.2.2.1].all (inB 2147483648) && ([e.2.2.2.2.2.2.2.2.2.2.1].all (inB 65535) && (vPrins e.2.2.2.2.2.2.2.2.2.2.2.2.2.1 && (vPrins e.2.2.2.2.2.2.2.2.2.2.2.2.2.2.1 &&
   (decide ((e.2.2.2.2.2.2.2.2.2.2.2.2.2.2.2.length : Int) ≤ 16) && e.2.2.2.2.2.2.2.2.2.2.2.2.2.2.2.all lenB))))))))))
theorem valid_k (e : Ent) (he : EntT.ok e) : PC Tryz.prog 38 [.agg (EntT.cells e)] (rB (vEnt e)) := by
 refine pc_of rfl rfl ?_
 refine runE mixed fi38 ?_
 refine callI_pure (vnames_k e he) ?_
 refine goE mixed ?_
 refine ⟨fun h4 => ?_, fun h4 => ?_⟩
 rotate_left
 · first | (simp only [vEnt, h4, Bool.false_and, Bool.and_false]; done) | simp [vEnt, h4]
 refine ⟨fun h2 => ?_, fun h2 => ?_⟩
 rotate_left
 · have hf : attrB e.2.2.1 = false := decide_eq_false h2
   simp only [vEnt, hf, Bool.false_and, Bool.and_false]
 have ht : attrB e.2.2.1 = true := decide_eq_true h2
 refine callI_hand 1 ?_
 with_reducible refine sxE ?_
 refine callI_pure (within_c _ _ (by simp)) ?_
 refine goE mixed ?_
 refine ⟨fun h5 => ?_, fun h5 => ?_⟩
 rotate_left
 · first | (simp only [vEnt, h5, Bool.false_and, Bool.and_false]; done) | simp [vEnt, h5]
 refine callI_pure (vkeys_k e he) ?_
 refine goE mixed ?_
 refine ⟨fun h6 => ?_, fun h6 => ?_⟩
 rotate_left
 · first | (simp only [vEnt, h6, Bool.false_and, Bool.and_false]; done) | simp [vEnt, h6]
 refine callI_pure (vtext_k _ he.2.2.2.2.2.1) ?_
 refine goE mixed ?_
 refine ⟨fun h7 => ?_, fun h7 => ?_⟩
 rotate_left
 · first | (simp only [vEnt, vText, h7, Bool.false_and, Bool.and_false]; done) | simp [vEnt, vText, h7]
 refine callI_hand 2 ?_
 with_reducible refine sxE ?_
 refine callI_pure (within_c _ _ (by simp)) ?_
 refine goE mixed ?_
 refine ⟨fun h8 => ?_, fun h8 => ?_⟩
 rotate_left
 · first | (simp only [vEnt, h8, Bool.false_and, Bool.and_false]; done) | simp [vEnt, h8]
 refine callI_hand 3 ?_
 with_reducible refine sxE ?_
 refine callI_pure (within_c _ _ (by simp)) ?_
 refine goE mixed ?_
 refine ⟨fun h9 => ?_, fun h9 => ?_⟩
 rotate_left
 · first | (simp only [vEnt, h9, Bool.false_and, Bool.and_false]; done) | simp [vEnt, h9]
 refine callI_hand 4 ?_
 with_reducible refine sxE ?_
 refine callI_pure (within_c _ _ (by simp)) ?_
 refine goE mixed ?_
 refine ⟨fun h10 => ?_, fun h10 => ?_⟩
 rotate_left
 · first | (simp only [vEnt, h10, Bool.false_and, Bool.and_false]; done) | simp [vEnt, h10]
 refine callI_pure (principals_c _ he.2.2.2.2.2.2.2.2.2.2.2.2.2.1) ?_
 refine goE mixed ?_
 refine ⟨fun h11 => ?_, fun h11 => ?_⟩
 rotate_left
 · first | (simp only [vEnt, vPrins, h11, Bool.false_and, Bool.and_false]; done) | simp [vEnt, vPrins, h11]
 refine callI_pure (principals_c _ he.2.2.2.2.2.2.2.2.2.2.2.2.2.2.1) ?_
 refine goE mixed ?_
 refine ⟨fun h12 => ?_, fun h12 => ?_⟩
 rotate_left
 · first | (simp only [vEnt, vPrins, h12, Bool.false_and, Bool.and_false]; done) | simp [vEnt, vPrins, h12]
 refine callI_at (every_bytes _ _ _ _ lenB _ he.2.2.2.2.2.2.2.2.2.2.2.2.2.2.2.1 (fun x _ G => (hist_k x).at _)) ?_
 refine goE mixed ?_
 simp only [vEnt, vText, vPrins, ht, h4, h5, h6, h7, h8, h9, h10, h11, h12, Bool.true_and]
end Go.Proofs.YtddmkgibghohkaaGreatDoor
/- Contracts: copies. -/
namespace Go.Proofs.YtddmkgibghohkaaGreatDoor
open Go Go.Sx Go.Proofs
set_option maxRecDepth 100000
set_option maxHeartbeats 4000000
set_option linter.unusedSimpArgs false

theorem clone_c (l : List ByteArray) (hl : l.length ≤ 8796093022208) : PC Tryz.prog 124 [.isl .str l] (.isl .str l) := by
 refine pc_seal rfl rfl ?_
 refine runE mixed fi124 ?_
 intro b hb
 refine ⟨hb, fun h => ⟨⟨by omega, by omega⟩, ⟨by omega, by omega⟩, List.take_of_length_le (by omega)⟩⟩
theorem bclone_c (l : List UInt8) (hl : l.length ≤ 140737488355328) : PC Tryz.prog 194 [.isl .u8 l] (.isl .u8 l) := by
 refine pc_seal rfl rfl ?_
 refine runE mixed fi194 ?_
 intro b hb
 refine ⟨hb, fun h => ⟨⟨by omega, by omega⟩, ⟨by omega, by omega⟩, List.take_of_length_le (by omega)⟩⟩
theorem cbytes_c (l : List UInt8) (hl : l.length ≤ 140737488355328) : PC Tryz.prog 52 [.isl .u8 l] (.isl .u8 l) := by
 refine pc_seal rfl rfl ?_
 refine runE mixed fi52 ?_
 refine ⟨⟨by omega, by omega⟩, ⟨by omega, by omega⟩, List.take_of_length_le (by omega)⟩
theorem ncopy_c (p : Prin) (hl : p.1.length ≤ 8796093022208) : PC Tryz.prog 58 [.agg (PrinT.cells p)] (.agg (PrinT.cells p)) := by
 refine pc_seal rfl rfl ?_
 refine runE mixed fi58 ?_
 refine callI_pure (clone_c _ hl) ?_
 refine goE mixed ?_; trivial
theorem pcopy_c (k : Key) (hl : k.2.2.length ≤ 140737488355328) : PC Tryz.prog 119 [.agg (KeyT.cells k)] (.agg (KeyT.cells k)) := by
 refine pc_seal rfl rfl ?_
 refine runE mixed fi119 ?_
 refine callI_pure (bclone_c _ hl) ?_
 refine goE mixed ?_; trivial
theorem copies_key (l : List (KeyT).den) (g : Nat) (hl : l.length * 40 ≤ 140737488355328) (hok : ∀ x ∈ l, (KeyT).ok x) (hone : ∀ x ∈ l, PC Tryz.prog g [.agg ((KeyT).cells x)] (.agg ((KeyT).cells x))) :
 PC Tryz.prog 118 [.isl (KeyT) l, .fn g [] []] (.isl (KeyT) l) := by
 refine pc_seal rfl rfl ?_
 refine runE mixed fi118 ?_
 refine si_accN 5 (KeyT) (fun i => l.take i) (fun i => [(10, rI i)]) l.length (fun _ => True) rfl (by simp) (by simp) rfl (fun i => rfl) ?_ fun i hi _ => ?_
 · with_reducible refine sxE ?_; trivial
 refine goE mixed ?_
 have hwr : IntKind.i64.wrap ((i : Int) + 1) = ((i + 1 : Nat) : Int) := wrap_succ (by omega)
 refine ⟨fun hlt => ⟨⟨by omega, hlt⟩, callI_pure (hone _ (getD_mem hlt)) ?_⟩, fun hge => ?_⟩
 · refine goE mixed ?_
   have hst : l.take (i + 1) = l.take i ++ [l.getD i (KeyT).dflt] := take_succ_getD hlt
   have hlen : (l.take i).length = i := by simp; omega
   refine ⟨ ⟨by omega, by omega⟩, acc_next [_, _, _] [] hlt trivial (by rw [hst]; rfl) ?_⟩
   with_reducible refine sx3 hwr hst ?_; trivial
 · obtain rfl : i = l.length := by omega
   simp; omega
theorem copies_prin (l : List (PrinT).den) (g : Nat) (hl : l.length * 40 ≤ 140737488355328) (hok : ∀ x ∈ l, (PrinT).ok x) (hone : ∀ x ∈ l, PC Tryz.prog g [.agg ((PrinT).cells x)] (.agg ((PrinT).cells x))) :
 PC Tryz.prog 59 [.isl (PrinT) l, .fn g [] []] (.isl (PrinT) l) := by
 refine pc_seal rfl rfl ?_
 refine runE mixed fi59 ?_
 refine si_accN 5 (PrinT) (fun i => l.take i) (fun i => [(10, rI i)]) l.length (fun _ => True) rfl (by simp) (by simp) rfl (fun i => rfl) ?_ fun i hi _ => ?_
 · with_reducible refine sxE ?_; trivial
 refine goE mixed ?_
 have hwr : IntKind.i64.wrap ((i : Int) + 1) = ((i + 1 : Nat) : Int) := wrap_succ (by omega)
 refine ⟨fun hlt => ⟨⟨by omega, hlt⟩, callI_pure (hone _ (getD_mem hlt)) ?_⟩, fun hge => ?_⟩
 · refine goE mixed ?_
   have hst : l.take (i + 1) = l.take i ++ [l.getD i (PrinT).dflt] := take_succ_getD hlt
   have hlen : (l.take i).length = i := by simp; omega
   refine ⟨(hok _ (getD_mem hlt)).2, ⟨by omega, by omega⟩, acc_next [_, _, _] [] hlt trivial (by rw [hst]; rfl) ?_⟩
   with_reducible refine sx3 hwr hst ?_; trivial
 · obtain rfl : i = l.length := by omega
   simp; omega
theorem copies_kset (l : List (SetT).den) (g : Nat) (hl : l.length * 64 ≤ 140737488355328) (hok : ∀ x ∈ l, (SetT).ok x) (hone : ∀ x ∈ l, PC Tryz.prog g [.agg ((SetT).cells x)] (.agg ((SetT).cells x))) :
 PC Tryz.prog 60 [.isl (SetT) l, .fn g [] []] (.isl (SetT) l) := by
 refine pc_seal rfl rfl ?_
 refine runE mixed fi60 ?_
 refine si_accN 5 (SetT) (fun i => l.take i) (fun i => [(10, rI i)]) l.length (fun _ => True) rfl (by simp) (by simp) rfl (fun i => rfl) ?_ fun i hi _ => ?_
 · with_reducible refine sxE ?_; trivial
 refine goE mixed ?_
 have hwr : IntKind.i64.wrap ((i : Int) + 1) = ((i + 1 : Nat) : Int) := wrap_succ (by omega)
 refine ⟨fun hlt => ⟨⟨by omega, hlt⟩, callI_pure (hone _ (getD_mem hlt)) ?_⟩, fun hge => ?_⟩
 · refine goE mixed ?_
   have hst : l.take (i + 1) = l.take i ++ [l.getD i (SetT).dflt] := take_succ_getD hlt
   have hlen : (l.take i).length = i := by simp; omega
   refine ⟨(hok _ (getD_mem hlt)).2.2.1, ⟨by omega, by omega⟩, acc_next [_, _, _] [] hlt trivial (by rw [hst]; rfl) ?_⟩
   with_reducible refine sx3 hwr hst ?_; trivial
 · obtain rfl : i = l.length := by omega
   simp; omega
theorem copies_bytes (l : List (List UInt8)) (g : Nat) (hl : l.length * 24 ≤ 140737488355328) (hone : ∀ x ∈ l, PC Tryz.prog g [.isl .u8 x] (.isl .u8 x)) :
 PC Tryz.prog 61 [.isl (.slice .u8) l, .fn g [] []] (.isl (.slice .u8) l) := by
 refine pc_seal rfl rfl ?_
 refine runE mixed fi61 ?_
 refine si_accN 5 (.slice .u8) (fun i => l.take i) (fun i => [(10, rI i)]) l.length (fun _ => True) rfl (by simp) (by simp) rfl (fun i => rfl) ?_ fun i hi _ => ?_
 · with_reducible refine sxE ?_; trivial
 refine goE mixed ?_
 have hwr : IntKind.i64.wrap ((i : Int) + 1) = ((i + 1 : Nat) : Int) := wrap_succ (by omega)
 refine ⟨fun hlt => ⟨⟨by omega, hlt⟩, callI_pure (hone _ (getD_mem (d := (Ty.slice .u8).dflt) hlt)) ?_⟩, fun hge => ?_⟩
 · refine goE mixed ?_
   have hst : l.take (i + 1) = l.take i ++ [l.getD i (Ty.slice .u8).dflt] := take_succ_getD hlt
   have hlen : (l.take i).length = i := by simp; omega
   refine ⟨⟨by omega, by omega⟩, acc_next [_, _] [] hlt trivial (by rw [hst]; rfl) ?_⟩
   with_reducible refine sx3 hwr hst ?_; trivial
 · obtain rfl : i = l.length := by omega
   simp; omega
theorem copySet_c (s : KSet) (ho : SetT.ok s) (hl : s.2.1.length * 40 ≤ 140737488355328) (hk : ∀ k ∈ s.2.1, k.2.2.length ≤ 140737488355328) : PC Tryz.prog 47 [.agg (SetT.cells s)] (.agg (SetT.cells s)) := by
 refine pc_seal rfl rfl ?_
 refine runE mixed fi47 ?_
 refine callI_pure (copies_key s.2.1 _ hl ho.2.1.2 (fun x hx => pcopy_c x (hk x hx))) ?_
 refine goE mixed ?_; trivial
def small47 (e : Ent) : Prop :=
 e.1.1.length ≤ 1048576 ∧ (e.2.1.length ≤ 1048576 ∧ ∀ p ∈ e.2.1, p.1.length ≤ 1048576) ∧ (e.2.2.2.2.1.length ≤ 1048576 ∧ ∀ s ∈ e.2.2.2.2.1, s.2.1.length ≤ 1048576 ∧ ∀ k ∈ s.2.1, k.2.2.length ≤ 1048576) ∧
 (e.2.2.2.2.2.2.2.2.2.2.2.2.2.1.length ≤ 1048576 ∧ ∀ p ∈ e.2.2.2.2.2.2.2.2.2.2.2.2.2.1, p.1.length ≤ 1048576) ∧ (e.2.2.2.2.2.2.2.2.2.2.2.2.2.2.1.length ≤ 1048576 ∧ ∀ p ∈ e.2.2.2.2.2.2.2.2.2.2.2.2.2.2.1, p.1.length ≤ 1048576) ∧
 (e.2.2.2.2.2.2.2.2.2.2.2.2.2.2.2.length ≤ 1048576 ∧ ∀ b ∈ e.2.2.2.2.2.2.2.2.2.2.2.2.2.2.2, b.length ≤ 1048576)
theorem copy_c (e : Ent) (ho : EntT.ok e) (hs : small47 e) : PC Tryz.prog 27 [.agg (EntT.cells e)] (.agg (EntT.cells e)) := by
 obtain ⟨e1, e2, e3, e4, e5, e6, e7, e8, e9, e10, e11, e12, e13, e14, e15, e16⟩ := e
 obtain ⟨h1, ⟨h2, h2'⟩, ⟨h5, h5'⟩, ⟨h14, h14'⟩, ⟨h15, h15'⟩, ⟨h16, h16'⟩⟩ := hs
 dsimp only at *
 refine pc_seal rfl rfl ?_
 refine runE mixed fi27 ?_
 refine callI_pure (ncopy_c e1 (by omega)) ?_
 refine goE mixed ?_
 refine callI_pure (copies_prin e2 _ (by omega) ho.2.1.2 (fun x hx => ncopy_c x (by have := h2' x hx; omega))) ?_
 refine goE mixed ?_
 refine callI_pure (copies_kset e5 _ (by omega) ho.2.2.2.2.1.2 (fun x hx => copySet_c x (ho.2.2.2.2.1.2 x hx) (by have := (h5' x hx).1; omega) (fun k hk => by have := (h5' x hx).2 k hk; omega))) ?_
 refine goE mixed ?_
 refine callI_pure (copies_prin e14 _ (by omega) ho.2.2.2.2.2.2.2.2.2.2.2.2.2.1.2 (fun x hx => ncopy_c x (by have := h14' x hx; omega))) ?_
 refine goE mixed ?_
 refine callI_pure (copies_prin e15 _ (by omega) ho.2.2.2.2.2.2.2.2.2.2.2.2.2.2.1.2 (fun x hx => ncopy_c x (by have := h15' x hx; omega))) ?_
 refine goE mixed ?_
 refine callI_pure (copies_bytes e16 _ (by omega) (fun x hx => cbytes_c x (by have := h16' x hx; omega))) ?_
 refine goE mixed ?_; trivial
end Go.Proofs.YtddmkgibghohkaaGreatDoor
set_option linter.unusedSectionVars false
namespace Go.Sx
open Go
variable [Ghost] {P : Program} {AQ : Ex → List SV → List SObj → Prop} {k0 : Nat} {k : List IT} {t : List SV} {H : List SObj}

structure Cln (cs : List SV) : Prop where
 ren : ∀ σ, SV.renL σ cs = cs
 bel : ∀ n, SV.belL n cs = true
 shut : ∀ n H, SV.sealBL n H cs = some (cs, True)
 le : SV.leAL cs cs
theorem sealHL_nil {n : Nat} {l : List SObj} : sealHL n H l [] = True := by simp [sealHL]
theorem sealHL_dead {n : Nat} {o : SObj} {l l' : List SObj} : sealHL n H (o :: l) (.dead :: l') = (o.unmarked ∧ sealHL n H l l') := by simp [sealHL]
attribute [go_sem] sealHL_nil sealHL_dead
end Go.Sx
set_option linter.unusedSectionVars false
namespace Go.Sx
open Go
variable [Ghost] {P : Program} {AQ : Ex → List SV → List SObj → Prop} {k0 : Nat} {k : List IT} {t : List SV} {H : List SObj}

end Go.Sx
set_option linter.unusedSectionVars false
namespace Go.Sx
open Go
variable [Ghost] {P : Program} {AQ : Ex → List SV → List SObj → Prop} {k0 : Nat} {k : List IT} {t : List SV} {H : List SObj}

end Go.Sx
set_option linter.unusedSectionVars false
namespace Go.Sx
open Go
variable {P : Program} {AQ : Ex → List SV → List SObj → Prop} {k0 : Nat} {k : List IT} {t : List SV} {H : List SObj}

def SameBut (ws : List Nat) (t t' : List SV) : Prop := t'.length = t.length ∧ ∀ i, i ∉ ws → t'[i]? = t[i]?
theorem SameBut.put {ws : List Nat} {t t' : List SV} (h : SameBut ws t t') {d : Option Tmp} (hd : ∀ e, d = some e → e ∈ ws) (s : SV) : SameBut ws t (putT t' d s) := by
 cases d with
 | none => exact h
 | some e => exact ⟨by simp [putT, h.1], fun i hi => by
  have hne : e ≠ i := fun e' => hi (e' ▸ hd e rfl)
  simp only [putT]
  rw [List.getElem?_set_ne hne]
  exact h.2 i hi⟩
theorem maskT_len : ∀ (ws : List Nat) (t : List SV), (maskT ws t).length = t.length
 | [], t => rfl
 | d :: ws, t => by
  show (maskT ws (t.set d .any)).length = _
  rw [maskT_len ws, List.length_set]
theorem maskT_in : ∀ (ws : List Nat) (t : List SV) (i : Nat) (s : SV), (maskT ws t)[i]? = some s → s = .any ∨ (i ∉ ws ∧ t[i]? = some s)
 | [], t, i, s, h => .inr ⟨by simp, h⟩
 | d :: ws, t, i, s, h => by
  have h' : (maskT ws (t.set d .any))[i]? = some s := h
  rcases maskT_in ws _ i s h' with rfl | ⟨h1, h2⟩
  · exact .inl rfl
  · by_cases e : d = i
    · subst e
      rw [List.getElem?_set] at h2
      simp at h2
      exact .inl h2.2.symm
    · rw [List.getElem?_set_ne e] at h2
      exact .inr ⟨by simp [h1]; exact fun q => e q.symm, h2⟩
theorem leL_get : ∀ {l l' : List SV}, l.length = l'.length → (∀ (i : Nat) s s', l[i]? = some s → l'[i]? = some s' → s' = .any ∨ s' = s) → leL l l'
 | [], [], _, _ => trivial
 | [], _ :: _, h, _ => by simp at h
 | _ :: _, [], h, _ => by simp at h
 | s :: l, s' :: l', h, hp => by
  refine ⟨?_, leL_get (by simpa using h) fun i x x' hx hx' => hp (i + 1) x x' (by simpa using hx) (by simpa using hx')⟩
  rcases hp 0 s s' rfl rfl with rfl | rfl
  · exact SV.le_any s
  · exact SV.le_refl _
theorem SameBut.le {ws : List Nat} {t t' : List SV} (h : SameBut ws t t') : leL t' (maskT ws t) :=
 leL_get (by rw [maskT_len, h.1]) fun i s s' hs hs' => by
  rcases maskT_in ws t i s' hs' with rfl | ⟨h1, h2⟩
  · exact .inl rfl
  · right
    rw [h.2 i h1, h2] at hs
    cases hs; rfl
end Go.Sx
namespace Go.Sx
open Go

def ZInv (q : Nat → Prop) (w0 : World) (C : Cx) (H : List SObj) : Prop := ∀ b, q b → b < C.w.heap.size ∧ ¬ C.I b ∧ ¬ OwnB C H b ∧ C.w.heap[b]? = w0.heap[b]?

theorem ext_old {E : En} {C : Cx} {H : List SObj} (hx : Ext E C H) {b : Nat} (h1 : b < E.C.w.heap.size) (h2 : ¬ E.C.I b) (h3 : ¬ OwnB E.C E.H b) : b < C.w.heap.size ∧ ¬ C.I b ∧ ¬ OwnB C H b ∧ C.w.heap[b]? = E.C.w.heap[b]? := by
 refine ⟨Nat.lt_of_lt_of_le h1 hx.size, fun hi => ?_, fun ho => ?_, hx.frame b h1 h3⟩
 · rcases hx.immNew b hi with g | ⟨g | g, _⟩
   · exact h2 g
   · exact absurd h1 (Nat.not_lt.2 g)
   · exact h3 g
 · rcases hx.ownNew b ho with g | g
   · exact absurd h1 (Nat.not_lt.2 g)
   · exact h3 g

@[reducible] def frzG (q : Nat → Prop) (w0 : World) : Ghost where
 inv := fun _ C H => ZInv q w0 C H
 fin := fun E _ _ ds => ds = E.base ∧ True
 toFin := fun _ => ⟨rfl, trivial⟩
 next := fun hx h b hb => by
  obtain ⟨h1, h2, h3, h4⟩ := h b hb
  obtain ⟨g1, g2, g3, g4⟩ := ext_old hx h1 h2 h3
  exact ⟨g1, g2, g3, g4.trans h4⟩
 same := fun _ e _ hi ho _ _ h b hb => by
  obtain ⟨h1, h2, h3, h4⟩ := h b hb
  rw [e]
  exact ⟨h1, fun x => (hi b x).elim h2 h3, fun x => h3 (ho b x), h4⟩

def simV (u v : Value) : Prop := v = u ∨ (∃ k n m, u = .int k n ∧ v = .int k m) ∨ ∃ s s', u = .string s ∧ v = .string s' ∧ s'.size ≤ 140737488355328
def simB (o o' : Option Obj) : Prop := o' = o ∨ ∃ (vs vs' : List Value) (T : TypeId) (fz : Nat × Nat), o = some (.cells vs.toArray T fz) ∧ o' = some (.cells vs'.toArray T fz) ∧ vs'.length = vs.length ∧ ∀ (i : Nat) u v, vs[i]? = some u → vs'[i]? = some v → simV u v
theorem simV.trans {u v w : Value} (h : simV u v) (k : simV v w) : simV u w := by
 rcases h with rfl | ⟨k', n, m, rfl, rfl⟩ | ⟨s, s', rfl, rfl, h1⟩
 · exact k
 · rcases k with rfl | ⟨k2, n2, m2, h1, rfl⟩ | ⟨s, s', h1, _⟩
   · exact .inr (.inl ⟨_, _, _, rfl, rfl⟩)
   · cases h1; exact .inr (.inl ⟨_, _, _, rfl, rfl⟩)
   · cases h1
 · rcases k with rfl | ⟨k2, n2, m2, h1, rfl⟩ | ⟨s2, s3, h2, rfl, h3⟩
   · exact .inr (.inr ⟨_, _, rfl, rfl, h1⟩)
   · cases h1
   · cases h2; exact .inr (.inr ⟨_, _, rfl, rfl, h3⟩)
theorem sim_cell {w0 w : World} {b o : Nat} {u : Value} (h : simB w0.heap[b]? w.heap[b]?) (hc : w0.cell? ⟨b, o, none⟩ = some u) : ∃ v, w.cell? ⟨b, o, none⟩ = some v ∧ simV u v := by
 rcases h with h | ⟨vs, vs', T, fz, h1, h2, h3, h4⟩
 · exact ⟨u, (World.cell?_of_block (a := ⟨b, o, none⟩) h).trans hc, .inl rfl⟩
 · rw [cell_of_cells h1] at hc
   have hlt : o < vs'.length := by rw [h3]; exact (List.getElem?_eq_some_iff.1 hc).1
   exact ⟨vs'[o], by rw [cell_of_cells h2, List.getElem?_eq_getElem hlt], h4 o u _ hc (List.getElem?_eq_getElem hlt)⟩

def SInv (q : Nat → Prop) (w0 : World) (E : En) (C : Cx) (H : List SObj) : Prop :=
 ∀ b, q b → (E.C.w.heap.size ≤ b ∨ OwnB E.C E.H b) ∧ b < C.w.heap.size ∧ ¬ C.I b ∧ ¬ OwnB C H b ∧ Unf C.w b ∧ simB w0.heap[b]? C.w.heap[b]?

@[reducible] def scrG (q : Nat → Prop) (w0 : World) : Ghost where
 inv := fun E C H => SInv q w0 E.toEn C H
 fin := fun E C H ds => ds = E.base ∧ SInv q w0 E.toEn C H
 toFin := fun h => ⟨rfl, h⟩
 next := fun hx h b hb => by
  obtain ⟨h0, h1, h2, h3, h4, h5⟩ := h b hb
  obtain ⟨g1, g2, g3, g4⟩ := ext_old hx h1 h2 h3
  refine ⟨h0, g1, g2, g3, h4.keep g4, ?_⟩
  have g4' := g4
  simp only at g4'
  rw [g4']; exact h5
 same := fun _ e _ hi ho _ _ h b hb => by
  obtain ⟨h0, h1, h2, h3, h4, h5⟩ := h b hb
  rw [e]
  exact ⟨h0, h1, fun x => (hi b x).elim h2 h3, fun x => h3 (ho b x), h4, h5⟩

def At (q : Nat → Prop) (w0 : World) (t : Ty) (x : t.den) (b o : Nat) : Prop := q b ∧ ∃ vs, t.rel q w0 x vs ∧ ∀ j u, vs[j]? = some u → w0.cell? ⟨b, o + j, none⟩ = some u
theorem At.fst {q : Nat → Prop} {w0 : World} {s t : Ty} {x : (Ty.prod s t).den} {b o : Nat} (h : At q w0 (.prod s t) x b o) : At q w0 s x.1 b o := by
 obtain ⟨hq, vs, ⟨v1, v2, rfl, h1, h2⟩, hc⟩ := h
 exact ⟨hq, v1, h1, fun j u hj => hc j u (by rw [List.getElem?_append_left (List.getElem?_eq_some_iff.1 hj).1]; exact hj)⟩
theorem At.snd {q : Nat → Prop} {w0 : World} {s t : Ty} {x : (Ty.prod s t).den} {b o : Nat} (h : At q w0 (.prod s t) x b o) : At q w0 t x.2 b (o + s.size) := by
 obtain ⟨hq, vs, ⟨v1, v2, rfl, h1, h2⟩, hc⟩ := h
 refine ⟨hq, v2, h2, fun j u hj => ?_⟩
 rw [Nat.add_assoc]
 refine hc (s.size + j) u ?_
 rw [← s.rel_size _ _ h1, List.getElem?_append_right (Nat.le_add_right _ _), Nat.add_sub_cancel_left]
 exact hj
def Sl (q : Nat → Prop) (w0 : World) (t : Ty) (xs : List t.den) (v : Value) : Prop := (Ty.slice t).rel q w0 xs [v]
theorem Sl.out {q : Nat → Prop} {w0 : World} {t : Ty} {xs : List t.den} {v : Value} (h : Sl q w0 t xs v) :
 ∃ A c, v = .slice A xs.length c ∧ (xs = [] ∨ ∃ b o, A = some ⟨b, o, none⟩ ∧ ∀ i x, xs[i]? = some x → At q w0 t x b (o + i * t.size)) := by
 obtain ⟨A, n, c, e, rfl, _, _, h⟩ := h
 simp only [List.cons.injEq, and_true] at e
 refine ⟨A, c, e, orMap h id ?_⟩
 rintro ⟨b, o, rfl, hq, h⟩
 exact ⟨b, o, rfl, fun i x hx => ⟨hq, h i x hx⟩⟩
theorem At.sl {q : Nat → Prop} {w0 : World} {t : Ty} {xs : List t.den} {b o : Nat} (h : At q w0 (.slice t) xs b o) : ∃ v, Sl q w0 t xs v ∧ w0.cell? ⟨b, o, none⟩ = some v := by
 obtain ⟨hq, vs, hr, hc⟩ := h
 obtain ⟨A, n, c, rfl, _⟩ := id hr
 exact ⟨_, hr, hc 0 _ rfl⟩
theorem At.int {q : Nat → Prop} {w0 : World} {k : IntKind} {x : (Ty.int k).den} {b o : Nat} (h : At q w0 (.int k) x b o) : w0.cell? ⟨b, o, none⟩ = some (.int k x) := by
 obtain ⟨hq, vs, rfl, hc⟩ := h; exact hc 0 _ rfl
theorem At.u8 {q : Nat → Prop} {w0 : World} {x : Ty.u8.den} {b o : Nat} (h : At q w0 .u8 x b o) : w0.cell? ⟨b, o, none⟩ = some (.int .u8 (UInt8.toNat x)) := by
 obtain ⟨hq, vs, rfl, hc⟩ := h; exact hc 0 _ rfl
theorem At.str {q : Nat → Prop} {w0 : World} {x : Ty.str.den} {b o : Nat} (h : At q w0 .str x b o) : w0.cell? ⟨b, o, none⟩ = some (.string x) := by
 obtain ⟨hq, vs, ⟨rfl, _⟩, hc⟩ := h; exact hc 0 _ rfl

variable {P : Program} {AQ : Ex → List SV → List SObj → Prop}
theorem zld_sim {q : Nat → Prop} {w0 : World} {b o : Nat} {u : Value} {d : Option Tmp} {m : IM} (hq : q b) (hc : w0.cell? ⟨b, o, none⟩ = some u) (hk : ∀ v, simV u v → @SoundI (scrG q w0) P AQ { m with tmps := putT m.tmps d (.raw v) }) :
 @ZldI (scrG q w0) P AQ none b o d m := by
 intro E C _ hg
 obtain ⟨v, h1, h2⟩ := sim_cell (hg b hq).2.2.2.2.2 hc
 refine ⟨.raw v, ⟨[.raw v], [v], denL_cons.2 ⟨v, [], rfl, by rw [SV.den], denL_nil.2 rfl⟩, fun j u hj => ?_, rfl⟩, hk v h2⟩
 cases j with
 | zero => simp only [List.getElem?_cons_zero, Option.some.injEq] at hj; subst hj; exact h1
 | succ j => simp at hj
theorem zld_sl {q : Nat → Prop} {w0 : World} {t : Ty} {ys : List t.den} {b o : Nat} {d : Option Tmp} {m : IM} (h : At q w0 (.slice t) ys b o) (hk : ∀ v, Sl q w0 t ys v → @SoundI (scrG q w0) P AQ { m with tmps := putT m.tmps d (.raw v) }) :
 @ZldI (scrG q w0) P AQ none b o d m := by
 obtain ⟨u, h1, h2⟩ := h.sl
 refine zld_sim h.1 h2 fun v hv => ?_
 obtain ⟨A, c, rfl, _⟩ := h1.out
 rcases hv with rfl | ⟨_, _, _, h3, _⟩ | ⟨_, _, h3, _⟩
 · exact hk _ h1
 · cases h3
 · cases h3
theorem wd_far {C : Cx} {H : List SObj} {w' : World} (hw : Wd C H) (hs : w'.heap.size = C.w.heap.size) (hb : ∀ b, C.I b ∨ OwnB C H b → w'.heap[b]? = C.w.heap[b]?) (hz : ∀ b m, World.bsize C.w b = some m → World.bsize w' b = some m) :
 Wd { C with w := w' } H ∧ Evo C { C with w := w' } := by
 have he : Evo C { C with w := w' } := ⟨Nat.le_refl _, fun _ _ => rfl, fun b hI => ⟨hI, hb b (.inl hI)⟩, hz⟩
 refine ⟨⟨hw.n, fun h o ho => ?_, fun b hb' => ?_, hw.inj, fun b hI => ?_⟩, he⟩
 · by_cases hl : o.live = true
   · exact objDen_evo (C' := { C with w := w' }) he.I h rfl (fun b hb' => hb b (.inr ⟨h, o, ho, hl, hb'⟩)) (denL_evo he) (hw.obj h o ho)
   · cases o <;> first | trivial | simp [SObj.live] at hl
 · have := hw.own b hb'
   exact ⟨this.1, by rw [hs]; exact this.2⟩
 · rw [hs]; exact hw.imm b hI

theorem set_one {b o : Nat} {w : World} {v : Value} {vs : List Value} {T : TypeId} {fz : Nat × Nat} (h : w.heap[b]? = some (.cells vs.toArray T fz)) (hlt : o < vs.length) : (w.setCells b o [v]).heap[b]? = some (.cells (vs.set o v).toArray T fz) := by
 rw [setCells_heap [v] o w vs h (by simp; omega)]
 congr 3
 unfold splice
 rw [List.set_eq_take_append_cons_drop, if_pos hlt]
 simp

theorem zst_sim {q : Nat → Prop} {w0 : World} {b o : Nat} {u v : Value} {d : Option Tmp} {m : IM} (hq : q b) (hc : w0.cell? ⟨b, o, none⟩ = some u) (hs : simV u v) (hf : (SV.raw v).flat = some [.raw v]) (h1 : ones [SV.raw v] = true)
 (hk : @SoundI (scrG q w0) P AQ { m with tmps := putT m.tmps d .any }) : @ZstI (scrG q w0) P AQ 1 b o (.raw v) d m := by
 refine ⟨[.raw v], hf, rfl, h1, fun E C us hw (hg : SInv q w0 E.toEn C m.heap) hv => ?_, hk⟩
 generalize m.heap = H at *
 obtain ⟨v', us', rfl, hv', hn⟩ := denL_cons.1 hv
 rw [denL_nil] at hn; subst hn
 rw [SV.den] at hv'; subst hv'
 obtain ⟨h0, g1, g2, g3, g4, g5⟩ := hg b hq
 obtain ⟨u', hc', hs'⟩ := sim_cell g5 hc
 -- the block as it lies now
 have hcells : ∃ (vs : List Value) (T : TypeId) (fz : Nat × Nat), C.w.heap[b]? = some (.cells vs.toArray T fz) := by
  unfold World.cell? at hc'
  split at hc'
  · rename_i c T fz h; exact ⟨c.toList, T, fz, by simpa using h⟩
  · cases hc'
 obtain ⟨vs, T, fz, hcell⟩ := hcells
 rw [cell_of_cells hcell] at hc'
 have hlt : o < vs.length := (List.getElem?_eq_some_iff.1 hc').1
 have hnew := set_one (v := v') hcell hlt
 have hoth : ∀ b', b' ≠ b → (C.w.setCells b o [v']).heap[b']? = C.w.heap[b']? := fun b' e => setCells_other e _ _ _
 have hfar : ∀ b', C.I b' ∨ OwnB C H b' → b' ≠ b := fun b' h e => by subst e; exact h.elim g2 g3
 have hszw : (C.w.setCells b o [v']).heap.size = C.w.heap.size := setCells_size _ _ _
 have hbs : ∀ b' m, World.bsize C.w b' = some m → World.bsize (C.w.setCells b o [v']) b' = some m := fun b' m hm => by
  by_cases e : b' = b
  · subst e; unfold World.bsize at hm ⊢; rw [hnew]; rw [hcell] at hm; simpa using hm
  · unfold World.bsize at hm ⊢; rw [hoth b' e]; exact hm
 obtain ⟨k1, k2⟩ := wd_far hw hszw (fun b' h => hoth b' (hfar b' h)) hbs
 have hsim : simB (w0.heap[b]?) ((C.w.setCells b o [v']).heap[b]?) := by
  rw [hnew]
  rcases g5 with g5 | ⟨ws, ws', T', fz', e1, e2, e3, e4⟩
  · rw [hcell] at g5
    refine .inr ⟨vs, vs.set o v', T, fz, g5.symm, rfl, by simp, fun i x y hx hy => ?_⟩
    by_cases e : o = i
    · subst e
      rw [List.getElem?_set_self hlt] at hy
      cases hy
      have hu : u = x := by
       rw [World.cell?_of_block (a := ⟨b, o, none⟩) (w := C.w) (by rw [hcell]; exact g5.symm), cell_of_cells hcell, hx] at hc
       exact (Option.some.inj hc).symm
      exact hu ▸ hs
    · rw [List.getElem?_set_ne e, hx] at hy
      cases hy; exact .inl rfl
  · rw [hcell] at e2
    cases e2
    refine .inr ⟨ws, vs.set o v', T, fz, e1, rfl, by simpa using e3, fun i x y hx hy => ?_⟩
    by_cases e : o = i
    · subst e
      rw [List.getElem?_set_self hlt] at hy
      cases hy
      rw [cell_of_cells e1, hx] at hc
      cases hc
      exact hs
    · rw [List.getElem?_set_ne e] at hy
      exact e4 i x y hx hy
 refine ⟨vs, T, fz, hcell, by simp; omega, fun j hj => ?_, k1, @Stp.mk (scrG q w0) E C H _ H k2 (fun hx => ?_) (fun (hx : SInv q w0 E.toEn C H) b' hb' => ?_)⟩
 · have := g4 _ _ _ hcell (o + j) (by simp at hj ⊢; omega)
   exact this
 · have hEb : ∀ b', b' < E.C.w.heap.size → ¬ OwnB E.C E.H b' → b' ≠ b := fun b' h1 h2 e => by subst e; exact h0.elim (fun x => absurd h1 (Nat.not_lt.2 x)) h2
   exact ⟨hx.evo.trans k2, by show _ ≤ (C.w.setCells b o [v']).heap.size; rw [hszw]; exact hx.size, (setCells_os _ _ _).trans hx.os, (setCells_tape _ _ _).trans hx.tape, (setCells_output _ _ _).trans hx.output,
    fun b' h1 h2 => (hoth b' (hEb b' h1 h2)).trans (hx.frame b' h1 h2), fun b' hb' => orMap (hx.immNew b' hb') id fun ⟨x, y⟩ => ⟨x, y.keep (hoth b' (hfar b' (.inl hb')))⟩, hx.ownNew, hx.keep0⟩
 · obtain ⟨a0, a1, a2, a3, a4, a5⟩ := hx b' hb'
   refine ⟨a0, by show _ < (C.w.setCells b o [v']).heap.size; rw [hszw]; exact a1, a2, a3, ?_, ?_⟩
   · by_cases e : b' = b
     · subst e
       intro c' T' fz' hc2 i hi
       simp only at hc2
       rw [hnew] at hc2
       cases hc2
       exact g4 _ _ _ hcell i (by simpa using hi)
     · exact a4.keep (hoth b' e)
   · by_cases e : b' = b
     · subst e; exact hsim
     · show simB _ ((C.w.setCells b o [v']).heap[b']?)
       rw [hoth b' e]; exact a5
theorem zst_str {q : Nat → Prop} {w0 : World} {b o : Nat} {s s' : ByteArray} {d : Option Tmp} {m : IM} (hq : q b) (h : w0.cell? ⟨b, o, none⟩ = some (.string s)) (hs : s'.size ≤ 140737488355328) (hk : @SoundI (scrG q w0) P AQ { m with tmps := putT m.tmps d .any }) :
 @ZstI (scrG q w0) P AQ 1 b o (.raw (.string s')) d m := zst_sim hq h (.inr (.inr ⟨_, _, rfl, rfl, hs⟩)) rfl rfl hk

theorem zldF {q : Nat → Prop} {w0 : World} {t : Ty} {x : t.den} {b o : Nat} {d : Option Tmp} {m : IM} (h : At q w0 t x b o) (hk : ∀ vs, t.rel q w0 x vs → @SoundI (frzG q w0) P AQ { m with tmps := putT m.tmps d (.agg (rawL vs)) }) :
 @ZldI (frzG q w0) P AQ (some t.size) b o d m := by
 obtain ⟨hq, vs, hr, hc⟩ := h
 intro E C _ hg
 have hl : (rawL vs).length = t.size := by rw [rawL, List.length_map]; exact t.rel_size _ _ hr
 refine ⟨.agg (rawL vs), ⟨rawL vs, vs, rawL_den _, fun j u hj => ?_, ?_⟩, hk vs hr⟩
 · rw [World.cell?_of_block (a := ⟨b, o + j, none⟩) (hg b hq).2.2.2]; exact hc j u hj
 · simp only [pick, Nat.zero_add, hl, Nat.le_refl, if_true, List.drop_zero, Option.some.injEq, SV.agg.injEq]
   rw [← hl, List.take_length]
theorem zldF1 {q : Nat → Prop} {w0 : World} {t : Ty} {x : t.den} {b o : Nat} {d : Option Tmp} {m : IM} (h : At q w0 t x b o) (ht : t.size = 1) (hk : ∀ v, t.rel q w0 x [v] → @SoundI (frzG q w0) P AQ { m with tmps := putT m.tmps d (.raw v) }) :
 @ZldI (frzG q w0) P AQ none b o d m := by
 obtain ⟨hq, vs, hr, hc⟩ := h
 intro E C _ hg
 have hl := t.rel_size _ _ hr
 rw [ht] at hl
 match vs, hl with
 | [v], _ =>
  refine ⟨.raw v, ⟨rawL [v], [v], rawL_den _, fun j u hj => ?_, rfl⟩, hk v hr⟩
  rw [World.cell?_of_block (a := ⟨b, o + j, none⟩) (hg b hq).2.2.2]; exact hc j u hj
end Go.Sx
