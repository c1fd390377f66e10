/- Contracts: what is small. -/
import Derived.Test.YtddmkgibghohkaaGreatDoorPKn
import Derived.Test.YtddmkgibghohkaaGreatDoorP17
set_option linter.unusedSimpArgs false
set_option linter.unusedVariables false
set_option linter.unusedSectionVars false
namespace Go.Proofs.YtddmkgibghohkaaGreatDoor
open Go Go.Sx Go.Proofs
set_option maxRecDepth 100000
set_option maxHeartbeats 4000000
set_option linter.unusedSimpArgs false

def k300 (l : List Key) (j : Nat) : Bool := decide (((l.getD j KeyT.dflt).2.2.length : Int) ≤ 300)
def smSet (s : KSet) : Bool := allN s.2.1.length (k300 s.2.1) && (decide ((s.2.1.length : Int) ≤ 6) && decide ((s.2.2.1.size : Int) ≤ 300))
theorem smallSet_c (s : KSet) (hs : SetT.ok s) : PC Tryz.prog 11 [.agg (SetT.cells s)] (rB (smSet s)) := by
 have hl : List.length s.2.1 ≤ 1125899906842624 := hs.2.1.1
 refine pc_of rfl rfl ?_
 refine runE mixed fi11 ?_
 refine si_cntD (fun i => [(3, .raw (.int .i64 ((i : Nat) : Int)))]) (List.length s.2.1) (fun j => (k300 s.2.1) j = true) (by first | decide | simp) (fun i => rfl) ?_ fun i hi hall => ?_
 · (with_reducible refine sxE ?_ <;> try exact True.intro)
   all_goals (try rfl)
 have hwr : IntKind.i64.wrap ((i : Int) + 1) = ((i + 1 : Nat) : Int) := wrap_succ (by omega)
 refine goE mixed ?_
 have bad : i < (List.length s.2.1) → (k300 s.2.1) i = false → allN (List.length s.2.1) (k300 s.2.1) = false := fun hlt hv => allN_false hlt hv
 have fin : ¬ i < (List.length s.2.1) → allN (List.length s.2.1) (k300 s.2.1) = true := fun h => allN_true fun j hj => hall j (by omega)
 try dsimp only at bad fin hall
 refine ⟨fun hlt => ⟨⟨by omega, hlt⟩, fun h => ?_, fun h => ?_⟩, fun hge => ⟨fun h => ?_, fun h => ?_⟩⟩
 · have hb := bad hlt (decide_eq_false (by omega))
   unfold smSet; rw [hb]; rfl
 · refine ⟨hlt, next_all hall (decide_eq_true (by omega)), ⟨[], rfl⟩, ?_⟩
   with_reducible refine sx1 hwr ?_; trivial
 · unfold smSet; rw [fin hge, decide_eq_true h]; rfl
 · unfold smSet; rw [fin hge, decide_eq_false h]; rfl
def p40 (l : List ByteArray) (k : Nat) : Bool := decide (((l.getD k Ty.str.dflt).size : Int) ≤ 40)
def shAt (l : List Prin) (j : Nat) : Bool := decide (((l.getD j PrinT.dflt).1.length : Int) ≤ 6) && (decide (((l.getD j PrinT.dflt).2.size : Int) ≤ 40) && allN (l.getD j PrinT.dflt).1.length (p40 (l.getD j PrinT.dflt).1))
def shB (l : List Prin) : Bool := allN l.length (shAt l) && decide ((l.length : Int) ≤ 20)
theorem short_c (l : List Prin) (hl : (Ty.slice PrinT).ok l) : PC Tryz.prog 42 [.isl PrinT l] (rB (shB l)) := by
 have hlen := hl.1
 have hok : ∀ {j}, j < l.length → List.length (l.getD j PrinT.dflt).1 ≤ 1125899906842624 := fun h => (hl.2 _ (getD_mem h)).1.1
 refine pc_of rfl rfl ?_
 refine runE mixed fi42 ?_
 refine si_cntD (fun i => [(3, .raw (.int .i64 ((i : Nat) : Int)))]) (l.length) (fun j => (shAt l) j = true) (by first | decide | simp) (fun i => rfl) ?_ fun i hi hall => ?_
 · (with_reducible refine sxE ?_ <;> try exact True.intro)
   all_goals (try rfl)
 have hwr : IntKind.i64.wrap ((i : Int) + 1) = ((i + 1 : Nat) : Int) := wrap_succ (by omega)
 refine goE mixed ?_
 have bad : i < (l.length) → (shAt l) i = false → allN (l.length) (shAt l) = false := fun hlt hv => allN_false hlt hv
 have fin : ¬ i < (l.length) → allN (l.length) (shAt l) = true := fun h => allN_true fun j hj => hall j (by omega)
 try dsimp only at bad fin hall
 refine ⟨fun hlt => ⟨⟨by omega, hlt⟩, fun h1 => ⟨⟨by omega, hlt⟩, fun h2 => ?_, fun h2 => ?_⟩, fun h1 => ?_⟩, fun hge => ?_⟩
 · have hb := bad hlt (by unfold shAt; rw [decide_eq_false (show ¬ (((l.getD i PrinT.dflt).2.size : Int) ≤ 40) by omega)]; simp)
   unfold shB; rw [hb]; rfl
 · have hp := hok hlt
   refine si_cntD (fun k => [(3, .raw (.int .i64 ((i : Nat) : Int))), (4, .raw (.int .i64 ((k : Nat) : Int)))]) (List.length (l.getD i PrinT.dflt).1) (fun j => (p40 (l.getD i PrinT.dflt).1) j = true) (by first | decide | simp) (fun i => rfl) ?_ fun k hik hallk => ?_
   · (with_reducible refine sxE ?_ <;> try exact True.intro)
     all_goals (try rfl)
   have hwrk : IntKind.i64.wrap ((k : Int) + 1) = ((k + 1 : Nat) : Int) := wrap_succ (by omega)
   refine goE mixed ?_
   have badk : k < (List.length (l.getD i PrinT.dflt).1) → (p40 (l.getD i PrinT.dflt).1) k = false → allN (List.length (l.getD i PrinT.dflt).1) (p40 (l.getD i PrinT.dflt).1) = false := fun hlt hv => allN_false hlt hv
   have fink : ¬ k < (List.length (l.getD i PrinT.dflt).1) → allN (List.length (l.getD i PrinT.dflt).1) (p40 (l.getD i PrinT.dflt).1) = true := fun h => allN_true fun j hj => hallk j (by omega)
   try dsimp only at badk fink hallk
   refine ⟨⟨by omega, hlt⟩, fun hk => ⟨⟨by omega, hlt⟩, ⟨by omega, hk⟩, fun h3 => ?_, fun h3 => ?_⟩, fun hk => ?_⟩
   · have hb := bad hlt (by unfold shAt; rw [badk hk (decide_eq_false (by omega))]; simp)
     unfold shB; rw [hb]; rfl
   · refine ⟨hk, next_all hallk (decide_eq_true (by omega)), ⟨[], rfl⟩, ?_⟩
     with_reducible refine sx1 hwrk ?_; trivial
   · refine ⟨hlt, next_all hall ?_, ⟨[], rfl⟩, ?_⟩
     · unfold shAt; rw [fink hk, decide_eq_true (show (((l.getD i PrinT.dflt).2.size : Int) ≤ 40) by omega), decide_eq_true (show ((List.length (l.getD i PrinT.dflt).1 : Int) ≤ 6) by omega)]; rfl
     · with_reducible refine sx1 hwr ?_; trivial
 · have hb := bad hlt (by unfold shAt; rw [decide_eq_false (show ¬ ((List.length (l.getD i PrinT.dflt).1 : Int) ≤ 6) by omega)]; rfl)
   unfold shB; rw [hb]; rfl
 · unfold shB; rw [fin hge]; rfl
def h300 (l : List (List UInt8)) (j : Nat) : Bool := decide (((l.getD j (Ty.slice .u8).dflt).length : Int) ≤ 300)
def sAt (l : List KSet) (j : Nat) : Bool := smSet (l.getD j SetT.dflt)
def smB (e : Ent) : Bool := shB [e.1] && (shB e.2.1 && (shB e.2.2.2.2.2.2.2.2.2.2.2.2.2.1 && (shB e.2.2.2.2.2.2.2.2.2.2.2.2.2.2.1 && (decide ((e.2.2.2.2.1.length : Int) ≤ 20) && (decide ((e.2.2.2.2.2.2.2.2.2.2.2.2.2.2.2.length : Int) ≤ 20) && (decide ((e.2.2.2.2.2.1.size : Int) ≤ 300) &&
 (allN e.2.2.2.2.1.length (sAt e.2.2.2.2.1) && allN e.2.2.2.2.2.2.2.2.2.2.2.2.2.2.2.length (h300 e.2.2.2.2.2.2.2.2.2.2.2.2.2.2.2))))))))
theorem small_c (e : Ent) (ho : EntT.ok e) : PC Tryz.prog 10 [.agg (EntT.cells e)] (rB (smB e)) := by
 obtain ⟨e1, e2, e3, e4, e5, e6, e7, e8, e9, e10, e11, e12, e13, e14, e15, e16⟩ := e
 obtain ⟨o1, o2, _, _, o5, _, _, _, _, _, _, _, _, o14, o15, o16⟩ := ho
 have hl5 : List.length e5 ≤ 1125899906842624 := o5.1
 have hl16 : List.length e16 ≤ 1125899906842624 := o16.1
 have hok5 : ∀ {j}, j < List.length e5 → SetT.ok (List.getD e5 j SetT.dflt) := fun h => o5.2 _ (getD_mem h)
 have hd : smB (e1, e2, e3, e4, e5, e6, e7, e8, e9, e10, e11, e12, e13, e14, e15, e16) = (shB [e1] && (shB e2 && (shB e14 && (shB e15 && (decide ((List.length e5 : Int) ≤ 20) && (decide ((List.length e16 : Int) ≤ 20) && (decide ((e6.size : Int) ≤ 300) && (allN (List.length e5) (sAt e5) && allN (List.length e16) (h300 e16))))))))) := rfl
 rw [hd]
 clear hd
 have o1' : (Ty.slice PrinT).ok [e1] := ⟨by simp, fun x hx => by simp at hx; subst hx; exact o1⟩
 have hst : e1.2.size ≤ 140737488355328 := o1.2
 refine pc_of rfl rfl ?_
 refine runE mixed fi10 ?_
 refine ⟨hst, callI_hand 1 ?_⟩
 with_reducible refine sxE ?_
 refine callI_pure (short_c [e1] o1') ?_
 refine goE mixed ?_
 refine ⟨fun h => ?_, fun h => by rw [h]; rfl⟩
 rw [h]
 simp only [Bool.true_and]
 refine callI_pure (short_c e2 o2) ?_
 refine goE mixed ?_
 refine ⟨fun h => ?_, fun h => by rw [h]; rfl⟩
 rw [h]
 simp only [Bool.true_and]
 refine callI_pure (short_c e14 o14) ?_
 refine goE mixed ?_
 refine ⟨fun h => ?_, fun h => by rw [h]; rfl⟩
 rw [h]
 simp only [Bool.true_and]
 refine callI_pure (short_c e15 o15) ?_
 refine goE mixed ?_
 refine ⟨fun h => ?_, fun h => by rw [h]; rfl⟩
 rw [h]
 simp only [Bool.true_and]
 clear o1 o2 o5 o14 o15 o16 o1' hst h
 refine ⟨fun h1 => ⟨fun h2 => ⟨fun h3 => ?_, fun h3 => ?_⟩, fun h2 => ?_⟩, fun h1 => ?_⟩
 · rw [decide_eq_false (show ¬ ((e6.size : Int) ≤ 300) by omega)]; simp
 rotate_left
 · rw [decide_eq_false (show ¬ ((List.length e16 : Int) ≤ 20) by omega)]; simp
 · rw [decide_eq_false (show ¬ ((List.length e5 : Int) ≤ 20) by omega)]; rfl
 rw [decide_eq_true (show ((e6.size : Int) ≤ 300) by omega), decide_eq_true (show ((List.length e16 : Int) ≤ 20) by omega), decide_eq_true (show ((List.length e5 : Int) ≤ 20) by omega)]
 simp only [Bool.true_and]
 refine si_cntD (fun i => [(3, .raw (.int .i64 ((i : Nat) : Int)))]) (List.length e5) (fun j => (sAt e5) j = true) (by first | decide | simp) (fun i => rfl) ?_ fun i hi hall => ?_
 · (with_reducible refine sxE ?_ <;> try exact True.intro)
   all_goals (try rfl)
 have hwr : IntKind.i64.wrap ((i : Int) + 1) = ((i + 1 : Nat) : Int) := wrap_succ (by omega)
 refine goE mixed ?_
 have bad : i < (List.length e5) → (sAt e5) i = false → allN (List.length e5) (sAt e5) = false := fun hlt hv => allN_false hlt hv
 have fin : ¬ i < (List.length e5) → allN (List.length e5) (sAt e5) = true := fun h => allN_true fun j hj => hall j (by omega)
 try dsimp only at bad fin hall
 refine ⟨fun hlt => ⟨⟨by omega, hlt⟩, callI_pure (smallSet_c _ (hok5 hlt)) ?_⟩, fun hge => ?_⟩
 · refine goE mixed ?_
   refine ⟨fun h => ?_, fun h => ?_⟩
   · rw [bad hlt h]; rfl
   · refine ⟨hlt, next_all hall h, ⟨[], rfl⟩, ?_⟩
     with_reducible refine sx1 hwr ?_; trivial
 rw [fin hge]
 simp only [Bool.true_and]
 clear fin bad hall hwr
 refine si_cntD (fun i => [(4, .raw (.int .i64 ((i : Nat) : Int)))]) (List.length e16) (fun j => (h300 e16) j = true) (by first | decide | simp) (fun i => rfl) ?_ fun i hi hall => ?_
 · (with_reducible refine sxE ?_ <;> try exact True.intro)
   all_goals (try rfl)
 have hwr : IntKind.i64.wrap ((i : Int) + 1) = ((i + 1 : Nat) : Int) := wrap_succ (by omega)
 refine goE mixed ?_
 have bad : i < (List.length e16) → (h300 e16) i = false → allN (List.length e16) (h300 e16) = false := fun hlt hv => allN_false hlt hv
 have fin : ¬ i < (List.length e16) → allN (List.length e16) (h300 e16) = true := fun h => allN_true fun j hj => hall j (by omega)
 try dsimp only at bad fin hall
 refine ⟨fun hlt => ⟨⟨by omega, hlt⟩, fun h => ?_, fun h => ?_⟩, fun hge => ?_⟩
 · rw [bad hlt (decide_eq_false (by omega))]
 · refine ⟨hlt, next_all hall (decide_eq_true (by omega)), ⟨[], rfl⟩, ?_⟩
   with_reducible refine sx1 hwr ?_; trivial
 · rw [fin hge]
end Go.Proofs.YtddmkgibghohkaaGreatDoor
/- Plain: what is small can be copied. -/
namespace Go.Proofs.YtddmkgibghohkaaGreatDoor
open Go Go.Sx Go.Proofs

theorem allN_mem {α : Type} {l : List α} {d : α} {q : Nat → Bool} (h : allN l.length q = true) {x : α} (hx : x ∈ l) : ∃ j, l.getD j d = x ∧ q j = true := by
 obtain ⟨j, hj, rfl⟩ := List.getElem_of_mem hx
 exact ⟨j, by rw [List.getD_eq_getElem?_getD, List.getElem?_eq_getElem hj]; rfl, allN_iff.1 h j hj⟩
theorem shB_small {l : List Prin} (h : shB l = true) : l.length ≤ 1048576 ∧ ∀ p ∈ l, p.1.length ≤ 1048576 := by
 unfold shB at h
 simp only [Bool.and_eq_true, decide_eq_true_eq] at h
 refine ⟨by omega, fun p hp => ?_⟩
 obtain ⟨j, rfl, hj⟩ := allN_mem (d := PrinT.dflt) h.1 hp
 unfold shAt at hj
 simp only [Bool.and_eq_true, decide_eq_true_eq] at hj
 have := hj.1
 omega
theorem smSet_small {s : KSet} (h : smSet s = true) : s.2.1.length ≤ 1048576 ∧ ∀ k ∈ s.2.1, k.2.2.length ≤ 1048576 := by
 unfold smSet at h
 simp only [Bool.and_eq_true, decide_eq_true_eq] at h
 refine ⟨by omega, fun k hk => ?_⟩
 obtain ⟨j, rfl, hj⟩ := allN_mem (d := KeyT.dflt) h.1 hk
 unfold k300 at hj
 simp only [decide_eq_true_eq] at hj
 omega
theorem sm_small (e : Ent) (h : smB e = true) : small47 e := by
 unfold smB at h
 simp only [Bool.and_eq_true, decide_eq_true_eq] at h
 obtain ⟨h1, h2, h14, h15, h5, h16, _, hk, hh⟩ := h
 refine ⟨(shB_small h1).2 _ List.mem_cons_self, shB_small h2, ⟨by omega, fun s hs => ?_⟩, shB_small h14, shB_small h15, by omega, fun b hb => ?_⟩
 · obtain ⟨j, rfl, hj⟩ := allN_mem (d := SetT.dflt) hk hs
   exact smSet_small hj
 · obtain ⟨j, rfl, hj⟩ := allN_mem (d := (Ty.slice .u8).dflt) hh hb
   unfold h300 at hj
   simp only [decide_eq_true_eq] at hj
   omega
end Go.Proofs.YtddmkgibghohkaaGreatDoor
