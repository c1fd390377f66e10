/- Contracts: the keys of an entry. -/
import Derived.Test.YtddmkgibghohkaaGreatDoorP23
import Derived.Test.YtddmkgibghohkaaGreatDoorP21
set_option linter.unusedSimpArgs false
set_option linter.unusedVariables false
set_option linter.unusedSectionVars false
namespace Go.Proofs.YtddmkgibghohkaaGreatDoor
open Go Go.Sx Go.Proofs
set_option maxRecDepth 100000
set_option maxHeartbeats 4000000
set_option linter.unusedSimpArgs false

abbrev keysOf (e : Ent) : List KSet := e.2.2.2.2.1
def setAt (l : List KSet) (j : Nat) : KSet := l.getD j SetT.dflt
def verAt (l : List KSet) (v : Int) (j : Nat) : Bool := decide ((l.getD j SetT.dflt).1 = v)
def posS (l : List KSet) (v : Int) : Int := match firstN l.length (verAt l v) with
 | some i => (i : Int)
 | none => -1
theorem indexFunc_c (l : List KSet) (g : Nat) (ca : List SV) (v : Int) (H : List SObj) (hl : l.length ≤ 1125899906842624) (hp : Fits Tryz.prog g ca (t := SetT) (fun x => .agg (SetT.cells x)) l (fun s => decide (s.1 = v)) H) :
 PCH Tryz.prog 121 [.isl SetT l, .fn g [] ca] (rI (posS l v)) H := by
 refine pch_drop rfl ?_
 have hp0 : ∀ x ∈ l, PCH Tryz.prog g (.agg (SetT.cells x) :: ca) (rB (decide (x.1 = v))) H := fun x hx => by have := hp x hx []; rwa [List.append_nil] at this
 refine runE mixed fi121 ?_
 refine si_cntD (fun i => [(8, .raw (.int .i64 ((i : Nat) : Int)))]) (l.length) (fun j => (fun j => !verAt l v j) j = true) (by first | decide | simp) (fun i => rfl) ?_ fun i hi hall => ?_
 · (with_reducible refine sxE ?_ <;> try exact True.intro)
   all_goals (try rfl)
 have hwr : IntKind.i64.wrap ((i : Int) + 1) = ((i + 1 : Nat) : Int) := wrap_succ (by omega)
 refine goE mixed ?_
 have bad : i < (l.length) → (fun j => !verAt l v j) i = false → allN (l.length) (fun j => !verAt l v j) = false := fun hlt hv => allN_false hlt hv
 have fin : ¬ i < (l.length) → allN (l.length) (fun j => !verAt l v j) = true := fun h => allN_true fun j hj => hall j (by omega)
 try dsimp only at bad fin hall
 have hall' : ∀ j, j < i → verAt l v j = false := fun j hj => by simpa using hall j hj
 refine ⟨fun hlt => ⟨⟨by omega, hlt⟩, callI_at (hp0 _ (getD_mem hlt)) ?_⟩, fun hge => ?_⟩
 · refine goE mixed ?_
   refine ⟨fun h => ?_, fun h => ?_⟩
   · unfold posS
     rw [firstN_some hlt (by simpa [verAt] using h) hall']
     exact ⟨rfl, [], by simp⟩
   · refine ⟨hlt, next_all hall' (by simpa [verAt] using h), ⟨[], by simp⟩, ?_⟩
     with_reducible refine sx1 hwr ?_; trivial
 · unfold posS
   rw [firstN_none (fun j hj => hall' j (by omega))]
   exact ⟨rfl, [], by simp⟩
theorem position1_c (s : KSet) (v : Int) (h : Nat) (T : TypeId) (H : List SObj) (hH : ∀ R, (H ++ R)[h]? = some (.cells T [rI v])) : PCH Tryz.prog 122 [.agg (SetT.cells s), .ptr h 0] (rB (decide (s.1 = v))) H := by
 refine pch_drop rfl ?_
 have hH0 := hH []
 rw [List.append_nil] at hH0
 refine vc_fi fi122 (run_sound mixed 600 _ ?_)
 simp (maxSteps := 3000000) only [ir122, hH, hH0, go_sem, ↓zA, ↓reduceIte, ↓reduceDIte, reduceCtorEq, Nat.reduceAdd, Nat.reduceSub, Nat.reduceLeDiff, Nat.reduceLT, Nat.reduceEqDiff, Nat.reduceBEq, Nat.reduceMul, Int.reduceToNat, Int.reduceEq, Int.reduceLT, Int.reduceLE] <;> try simp only [zB]
 exact ⟨rfl, _, rfl⟩
theorem position_c (e : Ent) (v : Int) (hl : (keysOf e).length ≤ 1125899906842624) : PC Tryz.prog 49 [.agg (EntT.cells e), rI v] (rI (posS (keysOf e) v)) := by
 refine pc_of rfl rfl ?_
 refine runE mixed fi49 ?_
 refine callI_at (indexFunc_c _ _ _ v _ hl (fun x _ G => position1_c x v 1 3 _ (fun R => rfl))) ?_
 refine goE mixed ?_; trivial
def proAt (l : List Key) (p : Int) (j : Nat) : Bool := decide (p = 0) || decide ((l.getD j KeyT.dflt).1 = p)
def findK (l : List Key) (p : Int) : Key × Int := match firstN l.length (proAt l p) with
 | some j => (l.getD j KeyT.dflt, 0)
 | none => (KeyT.dflt, 9)
def idxS (l : List KSet) (v : Int) : Option Nat := if v = 0 then (if l.length = 0 then none else some 0) else firstN l.length (verAt l v)
def findS (e : Ent) (v p : Int) : Key × Int := if vEnt e = false ∨ v < 0 ∨ p < 0 then (KeyT.dflt, 2) else match idxS (keysOf e) v with
 | none => (KeyT.dflt, 9)
 | some i => findK (setAt (keysOf e) i).2.1 p
theorem efind_c (e : Ent) (v p : Int) (ho : EntT.ok e) : PC Tryz.prog 19 [.agg (EntT.cells e), rI v, rI p] (.tup [.agg (KeyT.cells (findS e v p).1), rI (findS e v p).2]) := by
 have hkl : (keysOf e).length ≤ 1125899906842624 := ho.2.2.2.2.1.1
 have hpos := position_c e v hkl
 generalize hS : findS e v p = S at *
 refine pc_seal rfl rfl ?_
 refine runE mixed fi19 ?_
 refine callI_pure (valid_k e ho) ?_
 refine goE mixed ?_
 refine ⟨fun hv => ⟨fun hv0 => ⟨fun hp0 => ?_, fun hp0 => ⟨fun hvz => ?_, fun hvz => ?_⟩⟩, fun hv0 => ?_⟩, fun hv => ?_⟩
 · rw [← hS]; unfold findS; rw [if_pos (.inr (.inr hp0))]; exact ⟨⟨rfl, rfl, rfl⟩, rfl⟩
 · refine callI_pure hpos ?_
   cases hf : firstN (keysOf e).length (verAt (keysOf e) v) with
   | none =>
    have hps : posS (keysOf e) v = -1 := by unfold posS; rw [hf]
    rw [hps]
    refine goE mixed ?_
    rw [← hS]; unfold findS; rw [if_neg (by rintro (h | h | h) <;> simp_all)]
    unfold idxS; rw [if_neg hvz, hf]
    exact ⟨⟨rfl, rfl, rfl⟩, rfl⟩
   | some i0 =>
   have hps : posS (keysOf e) v = (i0 : Int) := by unfold posS; rw [hf]
   have hidx : idxS (keysOf e) v = some i0 := by unfold idxS; rw [if_neg hvz, hf]
   have hilt : i0 < e.2.2.2.2.1.length := (firstN_spec hf).1
   rw [hps]
   have hn0 : ¬ ((i0 : Int) < 0) := by omega
   refine run_sound mixed 600 _ ?_
   with_reducible refine sx1 hn0 ?_
   refine ⟨fun h => absurd h (by omega), fun _ => ⟨⟨by omega, hilt⟩, ?_⟩⟩
   have hL : ∀ x ∈ (List.getD e.2.2.2.2.1 i0 SetT.dflt).2.1, x.2.2.length ≤ 140737488355328 := fun x hx => by
    have h1 := (vEnt_small hv).2.2.1.2 _ (getD_mem (d := SetT.dflt) hilt)
    have := h1.2 x hx
    omega
   have hLl : (List.getD e.2.2.2.2.1 i0 SetT.dflt).2.1.length ≤ 1048576 := ((vEnt_small hv).2.2.1.2 _ (getD_mem (d := SetT.dflt) hilt)).1
   have hF : findS e v p = findK (List.getD e.2.2.2.2.1 i0 SetT.dflt).2.1 p := by
    unfold findS
    rw [if_neg (by rintro (h | h | h) <;> simp_all), hidx]
    rfl
   refine si_cntD (fun i => [(44, .raw (.int .i64 ((i : Nat) : Int)))]) ((List.getD e.2.2.2.2.1 i0 SetT.dflt).2.1.length) (fun j => (fun j => !proAt (List.getD e.2.2.2.2.1 i0 SetT.dflt).2.1 p j) j = true) (by first | decide | simp) (fun i => rfl) ?_ fun i hi hall => ?_
   · (with_reducible refine sxE ?_ <;> try exact True.intro)
     all_goals (try rfl)
   have hwr : IntKind.i64.wrap ((i : Int) + 1) = ((i + 1 : Nat) : Int) := wrap_succ (by omega)
   refine goE mixed ?_
   have bad : i < ((List.getD e.2.2.2.2.1 i0 SetT.dflt).2.1.length) → (fun j => !proAt (List.getD e.2.2.2.2.1 i0 SetT.dflt).2.1 p j) i = false → allN ((List.getD e.2.2.2.2.1 i0 SetT.dflt).2.1.length) (fun j => !proAt (List.getD e.2.2.2.2.1 i0 SetT.dflt).2.1 p j) = false := fun hlt hv => allN_false hlt hv
   have fin : ¬ i < ((List.getD e.2.2.2.2.1 i0 SetT.dflt).2.1.length) → allN ((List.getD e.2.2.2.2.1 i0 SetT.dflt).2.1.length) (fun j => !proAt (List.getD e.2.2.2.2.1 i0 SetT.dflt).2.1 p j) = true := fun h => allN_true fun j hj => hall j (by omega)
   try dsimp only at bad fin hall
   have hall' : ∀ j, j < i → proAt (List.getD e.2.2.2.2.1 i0 SetT.dflt).2.1 p j = false := fun j hj => by simpa using hall j hj
   have hfound : i < (List.getD e.2.2.2.2.1 i0 SetT.dflt).2.1.length → proAt (List.getD e.2.2.2.2.1 i0 SetT.dflt).2.1 p i = true → S = ((List.getD e.2.2.2.2.1 i0 SetT.dflt).2.1.getD i KeyT.dflt, 0) := fun hlt h => by
    rw [← hS, hF]; unfold findK; rw [firstN_some hlt h hall']
   refine ⟨fun hlt => ⟨⟨by omega, hlt⟩, fun hpz => ⟨fun hpe => ?_, fun hpe => ?_⟩, fun hpz => ?_⟩, fun hge => ?_⟩
   · refine callI_pure (cbytes_c _ (hL _ (getD_mem hlt))) ?_
     refine goE mixed ?_
     rw [hfound hlt (by simp only [proAt, Bool.or_eq_true, decide_eq_true_eq]; exact .inr hpe)]
     exact ⟨⟨rfl, rfl, rfl⟩, rfl⟩
   · refine ⟨hlt, next_all hall' (by simp only [proAt, Bool.or_eq_false_iff, decide_eq_false_iff_not]; exact ⟨hpz, hpe⟩), ⟨[_], rfl⟩, ?_⟩
     with_reducible refine sx1 hwr ?_; trivial
   · refine callI_pure (cbytes_c _ (hL _ (getD_mem hlt))) ?_
     refine goE mixed ?_
     rw [hfound hlt (by simp only [proAt, Bool.or_eq_true, decide_eq_true_eq]; exact .inl hpz)]
     exact ⟨⟨rfl, rfl, rfl⟩, rfl⟩
   · rw [← hS, hF]; unfold findK; rw [firstN_none (fun j hj => hall' j (by omega))]
     exact ⟨⟨rfl, rfl, rfl⟩, rfl⟩
 · refine ⟨fun h0 => ?_, fun h0 => ?_⟩
   · rw [← hS]; unfold findS; rw [if_neg (by rintro (h | h | h) <;> simp_all)]
     unfold idxS; rw [if_pos hvz, if_pos (by show List.length e.2.2.2.2.1 = 0; omega)]
     exact ⟨⟨rfl, rfl, rfl⟩, rfl⟩
   have hilt : 0 < e.2.2.2.2.1.length := by omega
   have hidx : idxS (keysOf e) v = some 0 := by unfold idxS; rw [if_pos hvz, if_neg (by show ¬ List.length e.2.2.2.2.1 = 0; omega)]
   refine ⟨hilt, ?_⟩
   have hL : ∀ x ∈ (List.getD e.2.2.2.2.1 0 SetT.dflt).2.1, x.2.2.length ≤ 140737488355328 := fun x hx => by
    have h1 := (vEnt_small hv).2.2.1.2 _ (getD_mem (d := SetT.dflt) hilt)
    have := h1.2 x hx
    omega
   have hLl : (List.getD e.2.2.2.2.1 0 SetT.dflt).2.1.length ≤ 1048576 := ((vEnt_small hv).2.2.1.2 _ (getD_mem (d := SetT.dflt) hilt)).1
   have hF : findS e v p = findK (List.getD e.2.2.2.2.1 0 SetT.dflt).2.1 p := by
    unfold findS
    rw [if_neg (by rintro (h | h | h) <;> simp_all), hidx]
    rfl
   refine si_cntD (fun i => [(44, .raw (.int .i64 ((i : Nat) : Int)))]) ((List.getD e.2.2.2.2.1 0 SetT.dflt).2.1.length) (fun j => (fun j => !proAt (List.getD e.2.2.2.2.1 0 SetT.dflt).2.1 p j) j = true) (by first | decide | simp) (fun i => rfl) ?_ fun i hi hall => ?_
   · (with_reducible refine sxE ?_ <;> try exact True.intro)
     all_goals (try rfl)
   have hwr : IntKind.i64.wrap ((i : Int) + 1) = ((i + 1 : Nat) : Int) := wrap_succ (by omega)
   refine goE mixed ?_
   have bad : i < ((List.getD e.2.2.2.2.1 0 SetT.dflt).2.1.length) → (fun j => !proAt (List.getD e.2.2.2.2.1 0 SetT.dflt).2.1 p j) i = false → allN ((List.getD e.2.2.2.2.1 0 SetT.dflt).2.1.length) (fun j => !proAt (List.getD e.2.2.2.2.1 0 SetT.dflt).2.1 p j) = false := fun hlt hv => allN_false hlt hv
   have fin : ¬ i < ((List.getD e.2.2.2.2.1 0 SetT.dflt).2.1.length) → allN ((List.getD e.2.2.2.2.1 0 SetT.dflt).2.1.length) (fun j => !proAt (List.getD e.2.2.2.2.1 0 SetT.dflt).2.1 p j) = true := fun h => allN_true fun j hj => hall j (by omega)
   try dsimp only at bad fin hall
   have hall' : ∀ j, j < i → proAt (List.getD e.2.2.2.2.1 0 SetT.dflt).2.1 p j = false := fun j hj => by simpa using hall j hj
   have hfound : i < (List.getD e.2.2.2.2.1 0 SetT.dflt).2.1.length → proAt (List.getD e.2.2.2.2.1 0 SetT.dflt).2.1 p i = true → S = ((List.getD e.2.2.2.2.1 0 SetT.dflt).2.1.getD i KeyT.dflt, 0) := fun hlt h => by
    rw [← hS, hF]; unfold findK; rw [firstN_some hlt h hall']
   refine ⟨fun hlt => ⟨⟨by omega, hlt⟩, fun hpz => ⟨fun hpe => ?_, fun hpe => ?_⟩, fun hpz => ?_⟩, fun hge => ?_⟩
   · refine callI_pure (cbytes_c _ (hL _ (getD_mem hlt))) ?_
     refine goE mixed ?_
     rw [hfound hlt (by simp only [proAt, Bool.or_eq_true, decide_eq_true_eq]; exact .inr hpe)]
     exact ⟨⟨rfl, rfl, rfl⟩, rfl⟩
   · refine ⟨hlt, next_all hall' (by simp only [proAt, Bool.or_eq_false_iff, decide_eq_false_iff_not]; exact ⟨hpz, hpe⟩), ⟨[_], rfl⟩, ?_⟩
     with_reducible refine sx1 hwr ?_; trivial
   · refine callI_pure (cbytes_c _ (hL _ (getD_mem hlt))) ?_
     refine goE mixed ?_
     rw [hfound hlt (by simp only [proAt, Bool.or_eq_true, decide_eq_true_eq]; exact .inl hpz)]
     exact ⟨⟨rfl, rfl, rfl⟩, rfl⟩
   · rw [← hS, hF]; unfold findK; rw [firstN_none (fun j hj => hall' j (by omega))]
     exact ⟨⟨rfl, rfl, rfl⟩, rfl⟩
 · rw [← hS]; unfold findS; rw [if_pos (.inr (.inl hv0))]; exact ⟨⟨rfl, rfl, rfl⟩, rfl⟩
 · rw [← hS]; unfold findS; rw [if_pos (.inl hv)]; exact ⟨⟨rfl, rfl, rfl⟩, rfl⟩
def offN (s : KSet) (i : Nat) : List Salt := (s.2.1.take i).map fun k => (k.1, s.2.2.1, s.2.2.2.1)
theorem offN_succ {s : KSet} {i : Nat} (h : i < s.2.1.length) : offN s (i + 1) = offN s i ++ [((s.2.1.getD i KeyT.dflt).1, s.2.2.1, s.2.2.2.1)] := by unfold offN; rw [take_succ_getD (d := KeyT.dflt) h]; simp
theorem offN_len {s : KSet} {i : Nat} (h : i ≤ s.2.1.length) : (offN s i).length = i := by simp [offN]; omega
def ofS (e : Ent) : List Salt × Int := if vEnt e = false then ([], 2) else if (keysOf e).length = 0 then ([], 0) else (offN (setAt (keysOf e) 0) (setAt (keysOf e) 0).2.1.length, 0)
theorem offer_c (e : Ent) (ho : EntT.ok e) : PC Tryz.prog 21 [.agg (EntT.cells e)] (.tup [.isl SaltT (ofS e).1, rI (ofS e).2]) := by
 generalize hS : ofS e = S at *
 refine pc_seal rfl rfl ?_
 refine runE mixed fi21 ?_
 refine callI_pure (valid_k e ho) ?_
 refine goE mixed ?_
 refine ⟨fun hv => ?_, fun hv => ⟨fun h0 => ?_, fun h0 => ?_⟩⟩
 · rw [← hS]; unfold ofS; rw [if_pos hv]; exact ⟨rfl, rfl⟩
 · have hilt : 0 < e.2.2.2.2.1.length := by omega
   have h1 := (vEnt_small hv).2.2.1.2 _ (getD_mem (d := SetT.dflt) hilt)
   have hstr : (List.getD e.2.2.2.2.1 0 SetT.dflt).2.2.1.size ≤ 140737488355328 := (ho.2.2.2.2.1.2 _ (getD_mem (d := SetT.dflt) hilt)).2.2.1
   refine ⟨hilt, ?_⟩
   have hS' : ofS e = (offN (List.getD e.2.2.2.2.1 0 SetT.dflt) (List.getD e.2.2.2.2.1 0 SetT.dflt).2.1.length, 0) := by unfold ofS; rw [if_neg (by simp [hv]), if_neg (by show ¬ List.length e.2.2.2.2.1 = 0; omega)]; rfl
   rw [hS] at hS'
   generalize List.getD e.2.2.2.2.1 0 SetT.dflt = s0 at *
   refine si_accN 4 SaltT (offN s0) (fun i => [(22, rI i)]) s0.2.1.length (fun _ => True) rfl (by simp) (by simp [offN]) rfl (fun i => rfl) ?_ fun i hi _ => ?_
   · with_reducible refine sxE ?_; trivial
   have hwr : IntKind.i64.wrap ((i : Int) + 1) = ((i + 1 : Nat) : Int) := wrap_succ (by omega)
   have hln := offN_len hi
   refine goE mixed ?_
   refine ⟨fun hlt => ?_, fun hge => ?_⟩
   · have hst := offN_succ hlt
     refine ⟨⟨by omega, hlt⟩, hstr, ⟨by omega, by omega⟩, acc_next [_, _, _] [] hlt trivial (by rw [hst]; rfl) ?_⟩
     with_reducible refine sx3 hwr hst ?_; trivial
   · obtain rfl : i = List.length s0.2.1 := by omega
     rw [hS']
     refine ⟨⟨Nat.le_refl _, by omega⟩, List.take_of_length_le (Nat.le_refl _), rfl⟩
 · rw [← hS]; unfold ofS; rw [if_neg (by simp [hv]), if_pos (by show List.length e.2.2.2.2.1 = 0; omega)]; exact ⟨rfl, rfl⟩
end Go.Proofs.YtddmkgibghohkaaGreatDoor
/- Contracts: Add, Without. -/
namespace Go.Proofs.YtddmkgibghohkaaGreatDoor
open Go Go.Sx Go.Proofs
set_option maxRecDepth 100000
set_option maxHeartbeats 4000000
set_option linter.unusedSimpArgs false

def withKeys (e : Ent) (l : List KSet) : Ent := (e.1, e.2.1, e.2.2.1, e.2.2.2.1, l, e.2.2.2.2.2)
def busyB (e : Ent) (s : KSet) : Bool := decide (0 < ((keysOf e).length : Int)) && decide (s.1 ≤ (setAt (keysOf e) 0).1)
def lateB (e : Ent) (s : KSet) : Bool := decide (0 < ((keysOf e).length : Int)) && decide (s.2.2.2.2 < (setAt (keysOf e) 0).2.2.2.2)
def addS (e : Ent) (s : KSet) : Ent × Int :=
 if vEnt e = false then (EntT.dflt, 2) else if busyB e s = true then (EntT.dflt, 11) else if lateB e s = true ∨ vSet s e.2.2.2.1 = false then (EntT.dflt, 2)
 else if 16 ≤ ((keysOf e).length : Int) then (EntT.dflt, 7) else (withKeys e (s :: keysOf e), 0)
theorem eadd_c (e : Ent) (s : KSet) (ho : EntT.ok e) (hs : SetT.ok s) : PC Tryz.prog 13 [.agg (EntT.cells e), .agg (SetT.cells s)] (.tup [.agg (EntT.cells (addS e s).1), rI (addS e s).2]) := by
 generalize hS : addS e s = S at *
 refine pc_seal rfl rfl ?_
 have hcopy : vEnt e = true → PC Tryz.prog 27 [.agg (EntT.cells e)] (.agg (EntT.cells e)) := fun hv => copy_c e ho (vEnt_small hv)
 have hcset : vSet s e.2.2.2.1 = true → PC Tryz.prog 47 [.agg (SetT.cells s)] (.agg (SetT.cells s)) := fun h => copySet_c s hs (by have := (vSet_small h).1; omega) (fun k hk => by have := (vSet_small h).2 k hk; omega)
 have hstr : s.2.2.1.size ≤ 140737488355328 := hs.2.2.1
 by_cases hk : (0 : Int) < (List.length e.2.2.2.2.1 : Int)
 · have hilt : 0 < e.2.2.2.2.1.length := by omega
   refine runE mixed fi13 ?_
   refine callI_pure (valid_k e ho) ?_
   refine run_sound mixed 600 _ ?_
   simp (maxSteps := 3000000) only [hk, hilt, go_sem, ↓zA, ↓reduceIte, ↓reduceDIte, reduceCtorEq, Nat.reduceAdd, Nat.reduceSub, Nat.reduceLeDiff, Nat.reduceLT, Nat.reduceEqDiff, Nat.reduceBEq, Nat.reduceMul, Int.reduceToNat, Int.reduceEq, Int.reduceLT, Int.reduceLE] <;> try simp only [zB]
   refine ⟨fun hv => ?_, fun hv => ⟨fun hb => ?_, fun hb => ⟨fun hl => callR_pure (vset_k s _ hs) ?_, fun hl => ?_⟩⟩⟩
   · have hA : addS e s = (EntT.dflt, 2) := by unfold addS; rw [if_pos hv]
     rw [← hS, hA]; exact ⟨⟨rfl, rfl, rfl, rfl, rfl, rfl, rfl, rfl, rfl, rfl, rfl, rfl, rfl, rfl, rfl, rfl, rfl⟩, rfl⟩
   · have hA : addS e s = (EntT.dflt, 11) := by unfold addS; rw [if_neg (by simp [hv]), if_pos (by unfold busyB; rw [Bool.and_eq_true]; exact ⟨decide_eq_true hk, decide_eq_true hb⟩)]
     rw [← hS, hA]; exact ⟨⟨rfl, rfl, rfl, rfl, rfl, rfl, rfl, rfl, rfl, rfl, rfl, rfl, rfl, rfl, rfl, rfl, rfl⟩, rfl⟩
   · have hbf : ¬ busyB e s = true := by unfold busyB; rw [Bool.and_eq_true]; exact fun h => hb (of_decide_eq_true h.2)
     have hlf : ¬ lateB e s = true := by unfold lateB; rw [Bool.and_eq_true]; exact fun h => hl (of_decide_eq_true h.2)
     refine goE mixed ?_
     refine ⟨fun hvs => ?_, fun hvs => ⟨fun h16 => ?_, fun h16 => callI_pure (hcopy hv) ?_⟩⟩
     · have hA : addS e s = (EntT.dflt, 2) := by unfold addS; rw [if_neg (by simp [hv]), if_neg hbf, if_pos (.inr hvs)]
       rw [← hS, hA]; exact ⟨⟨rfl, rfl, rfl, rfl, rfl, rfl, rfl, rfl, rfl, rfl, rfl, rfl, rfl, rfl, rfl, rfl, rfl⟩, rfl⟩
     · have hA : addS e s = (EntT.dflt, 7) := by unfold addS; rw [if_neg (by simp [hv]), if_neg hbf, if_neg (by rintro (h | h); exact hlf h; rw [hvs] at h; cases h), if_pos h16]
       rw [← hS, hA]; exact ⟨⟨rfl, rfl, rfl, rfl, rfl, rfl, rfl, rfl, rfl, rfl, rfl, rfl, rfl, rfl, rfl, rfl, rfl⟩, rfl⟩
     · have hA : addS e s = (withKeys e (s :: keysOf e), 0) := by unfold addS; rw [if_neg (by simp [hv]), if_neg hbf, if_neg (by rintro (h | h); exact hlf h; rw [hvs] at h; cases h), if_neg h16]
       refine goE mixed ?_
       refine callR_pure (hcset hvs) ?_
       refine goE mixed ?_
       refine ⟨hstr, ⟨by omega, by omega⟩, ⟨by omega, by omega⟩, ?_⟩
       rw [List.take_of_length_le (by simp; omega), ← hS, hA]; exact ⟨⟨rfl, rfl, rfl, rfl, rfl, rfl, rfl, rfl, rfl, rfl, rfl, rfl, rfl, rfl, rfl, rfl, rfl⟩, rfl⟩
   · have hbf : ¬ busyB e s = true := by unfold busyB; rw [Bool.and_eq_true]; exact fun h => hb (of_decide_eq_true h.2)
     have hA : addS e s = (EntT.dflt, 2) := by unfold addS; rw [if_neg (by simp [hv]), if_neg hbf, if_pos (.inl (by unfold lateB; rw [Bool.and_eq_true]; exact ⟨decide_eq_true hk, decide_eq_true hl⟩))]
     rw [← hS, hA]; exact ⟨⟨rfl, rfl, rfl, rfl, rfl, rfl, rfl, rfl, rfl, rfl, rfl, rfl, rfl, rfl, rfl, rfl, rfl⟩, rfl⟩
 · refine runE mixed fi13 ?_
   refine callI_pure (valid_k e ho) ?_
   refine run_sound mixed 600 _ ?_
   with_reducible refine sx1 hk ?_
   have hbf : ¬ busyB e s = true := by unfold busyB; rw [Bool.and_eq_true]; exact fun h => hk (of_decide_eq_true h.1)
   have hlf : ¬ lateB e s = true := by unfold lateB; rw [Bool.and_eq_true]; exact fun h => hk (of_decide_eq_true h.1)
   refine ⟨fun hv => ?_, fun hv => callR_pure (vset_k s _ hs) ?_⟩
   · have hA : addS e s = (EntT.dflt, 2) := by unfold addS; rw [if_pos hv]
     rw [← hS, hA]; exact ⟨⟨rfl, rfl, rfl, rfl, rfl, rfl, rfl, rfl, rfl, rfl, rfl, rfl, rfl, rfl, rfl, rfl, rfl⟩, rfl⟩
   · refine goE mixed ?_
     refine ⟨fun hvs => ?_, fun hvs => ⟨fun h16 => absurd h16 (by omega), fun h16 => callI_pure (hcopy hv) ?_⟩⟩
     · have hA : addS e s = (EntT.dflt, 2) := by unfold addS; rw [if_neg (by simp [hv]), if_neg hbf, if_pos (.inr hvs)]
       rw [← hS, hA]; exact ⟨⟨rfl, rfl, rfl, rfl, rfl, rfl, rfl, rfl, rfl, rfl, rfl, rfl, rfl, rfl, rfl, rfl, rfl⟩, rfl⟩
     · have hA : addS e s = (withKeys e (s :: keysOf e), 0) := by unfold addS; rw [if_neg (by simp [hv]), if_neg hbf, if_neg (by rintro (h | h); exact hlf h; rw [hvs] at h; cases h), if_neg h16]
       refine goE mixed ?_
       refine callR_pure (hcset hvs) ?_
       refine goE mixed ?_
       refine ⟨hstr, ⟨by omega, by omega⟩, ⟨by omega, by omega⟩, ?_⟩
       rw [List.take_of_length_le (by simp; omega), ← hS, hA]; exact ⟨⟨rfl, rfl, rfl, rfl, rfl, rfl, rfl, rfl, rfl, rfl, rfl, rfl, rfl, rfl, rfl, rfl, rfl⟩, rfl⟩
def woS (e : Ent) (v : Int) : Ent × Int := if vEnt e = false then (EntT.dflt, 2) else match firstN (keysOf e).length (verAt (keysOf e) v) with
 | none => (EntT.dflt, 9)
 | some i => (withKeys e ((keysOf e).take i ++ (keysOf e).drop (i + 1)), 0)
theorem ewithout_c (e : Ent) (v : Int) (ho : EntT.ok e) : PC Tryz.prog 15 [.agg (EntT.cells e), rI v] (.tup [.agg (EntT.cells (woS e v).1), rI (woS e v).2]) := by
 have hkl : (keysOf e).length ≤ 1125899906842624 := ho.2.2.2.2.1.1
 generalize hS : woS e v = S at *
 refine pc_seal rfl rfl ?_
 refine runE mixed fi15 ?_
 refine callI_pure (valid_k e ho) ?_
 refine goE mixed ?_
 refine ⟨fun hv => ?_, fun hv => callI_pure (position_c e v hkl) ?_⟩
 · have hA : woS e v = (EntT.dflt, 2) := by unfold woS; rw [if_pos hv]
   rw [← hS, hA]; exact ⟨⟨rfl, rfl, rfl, rfl, rfl, rfl, rfl, rfl, rfl, rfl, rfl, rfl, rfl, rfl, rfl, rfl, rfl⟩, rfl⟩
 cases hf : firstN (keysOf e).length (verAt (keysOf e) v) with
 | none =>
  have hps : posS (keysOf e) v = -1 := by unfold posS; rw [hf]
  have hA : woS e v = (EntT.dflt, 9) := by unfold woS; rw [if_neg (by simp [hv]), hf]
  rw [hps]
  refine goE mixed ?_
  rw [← hS, hA]; exact ⟨⟨rfl, rfl, rfl, rfl, rfl, rfl, rfl, rfl, rfl, rfl, rfl, rfl, rfl, rfl, rfl, rfl, rfl⟩, rfl⟩
 | some i =>
  have hps : posS (keysOf e) v = (i : Int) := by unfold posS; rw [hf]
  have hA : woS e v = (withKeys e ((keysOf e).take i ++ (keysOf e).drop (i + 1)), 0) := by unfold woS; rw [if_neg (by simp [hv]), hf]
  have hilt : i < List.length e.2.2.2.2.1 := (firstN_spec hf).1
  have hn0 : ¬ ((i : Int) < 0) := by omega
  have hsm := (vEnt_small hv).2.2.1.1
  have hwr : IntKind.i64.wrap ((i : Int) + 1) = ((i + 1 : Nat) : Int) := wrap_succ (by omega)
  rw [hps]
  refine run_sound mixed 600 _ ?_
  with_reducible refine sx1 hn0 ?_
  refine callI_pure (copy_c e ho (vEnt_small hv)) ?_
  refine run_sound mixed 600 _ ?_
  with_reducible refine sx1 hwr ?_
  rw [List.take_of_length_le (Nat.le_refl (List.length e.2.2.2.2.1))]
  refine ⟨⟨by omega, by omega, by omega⟩, ⟨by omega, by omega, by omega⟩, ⟨by simp only [List.length_take, List.length_drop]; omega, by simp only [List.length_take, List.length_drop]; omega⟩, ?_⟩
  rw [← hS, hA]; exact ⟨⟨rfl, rfl, rfl, rfl, rfl, rfl, rfl, rfl, rfl, rfl, rfl, rfl, rfl, rfl, rfl, rfl, rfl⟩, rfl⟩
end Go.Proofs.YtddmkgibghohkaaGreatDoor
/- Contracts: the reference's lists of principals. -/
namespace Go.Proofs.YtddmkgibghohkaaGreatDoor
open Go Go.Sx Go.Proofs
set_option maxRecDepth 100000
set_option maxHeartbeats 4000000
set_option linter.unusedSimpArgs false

end Go.Proofs.YtddmkgibghohkaaGreatDoor
