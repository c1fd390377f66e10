/- Contracts: messages: known. -/
import Derived.Test.YtkbbkhmffmfliaaGreatDoorP25
import Derived.Test.YtkbbkhmffmfliaaGreatDoorP24
set_option linter.all false
namespace Go.Proofs.YtkbbkhmffmfliaaGreatDoor
open Go Go.Sx Go.Proofs
set_option maxRecDepth 100000
set_option maxHeartbeats 4000000
theorem q9G : PC Tryz.prog 5 [] (rB true) := by
 have hc1 := rqC 10 [1, 2] (by decide)
 have hc2 := rqC 10 [1, 1] (by decide)
 have hc3 := rqC 12 [1, 2] (by decide)
 have cb := j0s hc1
 have ce := z9F hc1 vrq1 (fun h => by have := lrqB; unfold rqB at this; change reqS rq1 [] [] = [] at h; rw [h] at this; cases this)
 have cf := z7d fl1 okfl
 have v2 := q4m hc2
 have v3 := q4m hc3
 have cd := j3A
 change PC _ _ [.agg (ReqT.cells rq1)] (.tup [.isl .u8 (if vReq rq1 true true [] [] then bodyS rq1 [] [] else []), rI (if vReq rq1 true true [] [] then 0 else 2)]) at cb
 change VC _ _ [.agg (ReqT.cells rq1)] [] (RowT .u8 rqB _) at ce
 change PC _ _ [.agg (ReqT.cells rq2)] (rB (vReq rq2 true true [] [])) at v2
 change PC _ _ [.agg (ReqT.cells rq3)] (rB (vReq rq3 true true [] [])) at v3
 rw [vrq1, if_pos rfl, if_pos rfl] at cb
 rw [vfl1, if_pos rfl, if_pos rfl] at cf
 rw [vrq2] at v2
 rw [vrq3] at v3
 have l1 := lbod
 have l2 := lrqB
 have l3 := lfl1
 have g2 := hrqB
 have g3 := hfl1
 have ct := z4Y (failS fl1)
 have ht : typB (failS fl1) = true ∧ typN (failS fl1) = 30 := by unfold typB typN; rw [show (failS fl1).getD 0 0 = 126 from g3]; refine ⟨?_, by decide⟩; rw [decide_eq_true (fun e => by rw [e] at l3; cases l3)]; decide
 rw [ht.1, if_pos rfl, if_pos rfl, ht.2] at ct
 clear ht hc1 hc2 hc3
 generalize bodyS rq1 [] [] = bd at *
 generalize rqB = rb at *
 generalize failS fl1 = fb at *
 refine q0D rfl rfl ?_
 refine rQ fi5 ?_
 refine ⟨by decide, q0a z2u ?_⟩
 refine uQ 5 _ ?_
 with_reducible refine sxE ?_
 refine q1b 0 rfl rfl (by simp) ?_ ?_ ?_
 · with_reducible refine sxE ?_; trivial
 · with_reducible refine sxE ?_; trivial
 with_reducible refine sxE ?_
 refine q1b 1 rfl rfl (by simp) ?_ ?_ ?_
 · with_reducible refine sxE ?_; trivial
 · with_reducible refine sxE ?_; trivial
 with_reducible refine sxE ?_
 refine gQ ?_
 refine q0a z2u ?_
 refine gQ ?_
 refine q0a (cb.arg ?_) ?_
 · simp (maxSteps := 3000000) only [rq1, cliA, tgsP, go_sem, ↓zA, ↓reduceIte, ↓reduceDIte] <;> try simp only [zB]
 refine gQ ?_
 refine z4p (VC.arg ce ?_) rfl rfl (fun h0 => by rw [h0] at l2; cases l2) ?_
 · simp (maxSteps := 3000000) only [rq1, cliA, tgsP, go_sem, ↓zA, ↓reduceIte, ↓reduceDIte] <;> try simp only [zB]
 refine gQ ?_
 refine q0a (cf.arg ?_) ?_
 · simp (maxSteps := 3000000) only [fl1, tgsP, go_sem, ↓zA, ↓reduceIte, ↓reduceDIte] <;> try simp only [zB]
 refine gQ ?_
 refine q0a (q3S _) ?_
 refine gQ ?_
 refine q0a (q3S _) ?_
 refine gQ ?_
 refine q0a (q3S _) ?_
 have hw00 : IntKind.i64.wrap (0 + 0) = 0 := by decide
 refine uQ 600 _ ?_
 simp (maxSteps := 3000000) only [hw00, g2, g3, go_sem, ↓zA, ↓reduceIte, ↓reduceDIte] <;> try simp only [zB]
 refine ⟨fun _ => ⟨fun _ => ⟨by omega, by omega, fun _ => ⟨fun _ => ⟨by omega, fun h => absurd rfl h, fun _ => ?_⟩, fun h => absurd (by omega) h⟩, fun h => absurd rfl h⟩, fun h => absurd (by omega) h⟩, fun h => absurd (by omega) h⟩
 refine q9P fi23 ?_
 refine uQ 600 _ ?_
 simp (maxSteps := 3000000) only [opK, g2, go_sem, ↓zA, ↓reduceIte, ↓reduceDIte] <;> try simp only [zB]
 refine ⟨fun h => absurd h (by omega), fun _ => ⟨by omega, by omega, q0a (q4O _ _ _) ?_⟩⟩
 refine uQ 600 _ ?_
 simp (maxSteps := 3000000) only [opK, go_sem, ↓zA, ↓reduceIte, ↓reduceDIte] <;> try simp only [zB]
 have hty : IntKind.i64.wrap (IntKind.i64.wrap ((UInt8.toNat 106 : Nat) : Int) - 96) = 10 := by decide
 refine ⟨fun h => absurd h (by decide), fun _ => ?_⟩
 rw [hty]
 refine gQ ?_
 refine q0a ct ?_
 refine gQ ?_
 have ct0 : PC Tryz.prog 23 [.isl .u8 [UInt8.ofNat 48, UInt8.ofNat 0]] (.tup [rI 0, rI 6]) := z4Y [48, 0]
 refine ⟨⟨by decide, by decide⟩, q0u 5 ?_⟩
 with_reducible refine sxE ?_
 refine q0a ct0 ?_
 refine uQ 10 _ ?_
 with_reducible refine sxE ?_
 refine ⟨by decide, ?_⟩
 refine q1b 6 rfl rfl (by simp) ?_ ?_ ?_
 · with_reducible refine sxE ?_; trivial
 · with_reducible refine sxE ?_; trivial
 with_reducible refine sxE ?_
 refine gQ ?_
 have cp := z5o [(2, []), (2, [UInt8.ofNat 1])] 2 (by simp) (fun j hj => by
  match j, hj with
  | 0, _ => decide
  | 1, _ => decide)
 have cp1 : preV [(2, []), (2, [UInt8.ofNat 1])] 2 = [] := by decide
 have cp2 : preB [(2, []), (2, [UInt8.ofNat 1])] 2 = true := by decide
 rw [cp1, cp2] at cp
 refine q0u 7 ?_
 with_reducible refine sxE ?_
 refine q0a (cp.arg ?_) ?_
 · with_reducible refine sxE ?_; trivial
 refine gQ ?_
 have l4 : (rb ++ [UInt8.ofNat 0]).length = rb.length + 1 := List.length_append
 refine ⟨by decide, ⟨by omega, by omega⟩, q0u 9 ?_⟩
 with_reducible refine sxE ?_
 rw [List.take_of_length_le (by omega)]
 refine ⟨by omega, by omega, q0a cd ?_⟩
 refine gQ ?_
 refine q0a (q3S _) ?_
 refine gQ ?_
 refine q0a (q3S _) ?_
 refine uQ 600 _ ?_
 with_reducible refine sx1 hw00 ?_
 refine q0a (q3S _) ?_
 refine gQ ?_
 refine q0a (q3S _) ?_
 refine uQ 14 _ ?_
 with_reducible refine sxE ?_
 refine q1b 12 rfl rfl (by simp) ?_ ?_ ?_
 · with_reducible refine sxE ?_; trivial
 · with_reducible refine sxE ?_; trivial
 with_reducible refine sxE ?_
 refine gQ ?_
 refine q0a (v2.arg ?_) ?_
 · simp (maxSteps := 3000000) only [rq2, cliA, tgsP, go_sem, ↓zA, ↓reduceIte, ↓reduceDIte] <;> try simp only [zB]
 refine gQ ?_
 refine q0a (v3.arg ?_) ?_
 · simp (maxSteps := 3000000) only [rq3, cliA, tgsP, go_sem, ↓zA, ↓reduceIte, ↓reduceDIte] <;> try simp only [zB]
 refine gQ ?_; trivial
def s300 (l : List Pre) (j : Nat) : Bool := decide (((l.getD j PreT.dflt).2.length : Int) ≤ 300)
def fewB (l : List Pre) : Bool := allN l.length (s300 l) && decide ((l.length : Int) ≤ 20)
theorem j2y (l : List Pre) (hl : l.length ≤ 1125899906842624) : PC Tryz.prog 18 [.isl PreT l] (rB (fewB l)) := by
 refine q0D rfl rfl ?_
 refine rQ fi18 ?_
 refine q0G (fun i => [(3, .raw (.int .i64 ((i : Nat) : Int)))]) (l.length) (fun j => (s300 l) j = true) (by first | decide | simp) (fun i => rfl) ?_ fun i hi hall => ?_
 · (with_reducible refine sxE ?_ <;> try exact True.intro)
   all_goals (try rfl)
 have hwr := wsx i (by omega)
 refine gQ ?_
 have bad : i < (l.length) → (s300 l) i = false → allN (l.length) (s300 l) = false := fun hlt hv => q0i hlt hv
 have fin : ¬ i < (l.length) → allN (l.length) (s300 l) = true := fun h => q0l fun j hj => hall j (by omega)
 try dsimp only at bad fin hall
 refine ⟨fun hlt => ⟨⟨by omega, hlt⟩, fun h => ?_, fun h => ?_⟩, fun hge => ?_⟩
 · unfold fewB; rw [bad hlt (decide_eq_false (by omega))]; rfl
 · refine ⟨hlt, q0L hall (decide_eq_true (by omega)), ⟨[], rfl⟩, ?_⟩
   with_reducible refine sx1 hwr ?_; trivial
 unfold fewB; rw [fin hge]; rfl
def s40 (l : List ByteArray) (j : Nat) : Bool := decide (((l.getD j (Ty.dflt .str)).size : Int) ≤ 40)
def shortB (p : Prin) : Bool := (decide ((p.1.length : Int) ≤ 6) && decide ((p.2.size : Int) ≤ 40)) && allN p.1.length (s40 p.1)
theorem q2A (p : Prin) (hp : PrinT.ok p) : PC Tryz.prog 19 [.agg (PrinT.cells p)] (rB (shortB p)) := by
 obtain ⟨l, r⟩ := p
 have hl : l.length ≤ 1125899906842624 := hp.1.1
 have hd : shortB (l, r) = ((decide ((l.length : Int) ≤ 6) && decide ((r.size : Int) ≤ 40)) && allN l.length (s40 l)) := rfl
 refine q0D rfl rfl ?_
 refine rQ fi19 ?_
 refine q0G (fun i => [(3, .raw (.int .i64 ((i : Nat) : Int)))]) (l.length) (fun j => (s40 l) j = true) (by first | decide | simp) (fun i => rfl) ?_ fun i hi hall => ?_
 · (with_reducible refine sxE ?_ <;> try exact True.intro)
   all_goals (try rfl)
 have hwr := wsx i (by omega)
 refine gQ ?_
 have bad : i < (l.length) → (s40 l) i = false → allN (l.length) (s40 l) = false := fun hlt hv => q0i hlt hv
 have fin : ¬ i < (l.length) → allN (l.length) (s40 l) = true := fun h => q0l fun j hj => hall j (by omega)
 try dsimp only at bad fin hall
 refine ⟨fun hlt => ⟨⟨by omega, hlt⟩, fun h => ?_, fun h => ?_⟩, fun hge => ?_⟩
 · rw [hd, bad hlt (decide_eq_false (fun q => absurd h (Int.not_lt.2 q))), Bool.and_false]
 · refine ⟨hlt, q0L hall (decide_eq_true (Int.not_lt.1 h)), ⟨[], rfl⟩, ?_⟩
   with_reducible refine sx1 hwr ?_; trivial
 rw [hd, fin hge, Bool.and_true]
 exact ⟨fun h => by rw [decide_eq_true h, Bool.true_and], fun h => by rw [decide_eq_false h, Bool.false_and]⟩
theorem z3q {p : Prin} (h : shortB p = true) : shP p := by
 simp only [shortB, Bool.and_eq_true, decide_eq_true_eq] at h
 refine ⟨by omega, fun x hx => ?_, by omega⟩
 obtain ⟨j, hj, rfl⟩ := List.getElem_of_mem hx
 have := q1u.1 h.2 j hj
 simp only [s40, decide_eq_true_eq, List.getD_eq_getElem?_getD, List.getElem?_eq_getElem hj, Option.getD_some] at this
 omega
theorem j4A {l : List Pre} (h : fewB l = true) (hr : (Ty.slice PreT).inR l) : shD l := by
 simp only [fewB, Bool.and_eq_true, decide_eq_true_eq] at h
 refine ⟨by omega, fun x hx => ⟨(hr x hx).1, ?_⟩⟩
 obtain ⟨j, hj, rfl⟩ := List.getElem_of_mem hx
 have := q1u.1 h.1 j hj
 simp only [s300, decide_eq_true_eq, List.getD_eq_getElem?_getD, List.getElem?_eq_getElem hj, Option.getD_some] at this
 omega
theorem z7o (b w : List UInt8) (e : Int) (v : Bool) : PC Tryz.prog 12 [.isl .u8 b, rI e, rB v, .isl .u8 w] (rB (if v then decide (b = w) && decide (e = 0) else decide (b.length = 0) && decide (e = 2))) := by
 refine q0D rfl rfl ?_
 refine rQ fi12 ?_ <;> try with_reducible exact True.intro
 repeat' (first
  | (refine q0a (q3S _) ?_; refine uQ 600 _ ?_; simp (maxSteps := 3000000) only [go_sem, ↓zA, ↓reduceIte, ↓reduceDIte] <;> try simp only [zB])
  | (refine q0b (q3S _) ?_; refine uQ 600 _ ?_; simp (maxSteps := 3000000) only [go_sem, ↓zA, ↓reduceIte, ↓reduceDIte] <;> try simp only [zB])
  | (refine q0q (q3S _) ?_; refine uQ 600 _ ?_; simp (maxSteps := 3000000) only [go_sem, ↓zA, ↓reduceIte, ↓reduceDIte] <;> try simp only [zB])
  | (with_reducible refine And.intro ?_ ?_)
  | (with_reducible intro _))
 all_goals (simp_all [q6y])
theorem q5N (l : List Pre) (hl : l.length ≤ 1125899906842624) : PC Tryz.prog 55 [.isl PreT l, .isl PreT l] (rB true) := by
 refine q0D rfl rfl ?_
 refine rQ fi55 ?_
 refine q0G (fun i => [(5, .raw (.int .i64 ((i : Nat) : Int)))]) (l.length) (fun j => (fun _ => true) j = true) (by first | decide | simp) (fun i => rfl) ?_ fun i hi hall => ?_
 · (with_reducible refine sxE ?_ <;> try exact True.intro)
   all_goals (try rfl)
 have hwr := wsx i (by omega)
 refine gQ ?_
 have bad : i < (l.length) → (fun _ => true) i = false → allN (l.length) (fun _ => true) = false := fun hlt hv => q0i hlt hv
 have fin : ¬ i < (l.length) → allN (l.length) (fun _ => true) = true := fun h => q0l fun j hj => hall j (by omega)
 try dsimp only at bad fin hall
 refine ⟨fun hlt => ⟨⟨by omega, hlt⟩, ⟨by omega, hlt⟩, ⟨by omega, hlt⟩, ⟨by omega, hlt⟩, ?_⟩, fun _ => trivial⟩
 refine ⟨hlt, trivial, ⟨[], rfl⟩, ?_⟩
 with_reducible refine sx1 hwr ?_; trivial
def tick3 (t : Tick) : Bool := shortB t.1 && decide ((t.2.2.2.length : Int) ≤ 300)
theorem j2L (t : Tick) (ho : TickT.ok t) : PC Tryz.prog 17 [.agg (TickT.cells t)] (rB (tick3 t)) := by
 obtain ⟨p, a, v, c⟩ := t
 have hd : tick3 (p, a, v, c) = (shortB p && decide ((c.length : Int) ≤ 300)) := rfl
 rw [hd]
 refine q0D rfl rfl ?_
 refine rQ fi17 ?_ <;> try with_reducible exact True.intro
 repeat' (first
  | (refine q0a (q2A p ho.1) ?_; refine uQ 600 _ ?_; simp (maxSteps := 3000000) only [go_sem, ↓zA, ↓reduceIte, ↓reduceDIte] <;> try simp only [zB])
  | (refine q0b (q2A p ho.1) ?_; refine uQ 600 _ ?_; simp (maxSteps := 3000000) only [go_sem, ↓zA, ↓reduceIte, ↓reduceDIte] <;> try simp only [zB])
  | (refine q0q (q2A p ho.1) ?_; refine uQ 600 _ ?_; simp (maxSteps := 3000000) only [go_sem, ↓zA, ↓reduceIte, ↓reduceDIte] <;> try simp only [zB])
  | (with_reducible refine And.intro ?_ ?_)
  | (with_reducible intro _))
 all_goals ((simp_all <;> (intros; omega)))
theorem z1d (s : Key) : PC Tryz.prog 116 [.agg (KeyT.cells s), .agg (KeyT.cells s)] (rB true) := by
 obtain ⟨a, v, c⟩ := s
 refine q0D rfl rfl ?_
 refine rQ fi116 ?_; trivial
theorem z2b (t : Tick) (ho : TickT.ok t) : PC Tryz.prog 54 [.agg (TickT.cells t), .agg (TickT.cells t)] (rB true) := by
 obtain ⟨p, s⟩ := t
 have hs := z1d s
 refine q0D rfl rfl ?_
 refine rQ fi54 ?_ <;> try with_reducible exact True.intro
 repeat' (first
  | (refine q0a (q9x _ _ ho.1) ?_; refine uQ 600 _ ?_; simp (maxSteps := 3000000) only [go_sem, ↓zA, ↓reduceIte, ↓reduceDIte] <;> try simp only [zB])
  | (refine q0b (q9x _ _ ho.1) ?_; refine uQ 600 _ ?_; simp (maxSteps := 3000000) only [go_sem, ↓zA, ↓reduceIte, ↓reduceDIte] <;> try simp only [zB])
  | (refine q0q (q9x _ _ ho.1) ?_; refine uQ 600 _ ?_; simp (maxSteps := 3000000) only [go_sem, ↓zA, ↓reduceIte, ↓reduceDIte] <;> try simp only [zB])
  | (refine q0a (hs) ?_; refine uQ 600 _ ?_; simp (maxSteps := 3000000) only [go_sem, ↓zA, ↓reduceIte, ↓reduceDIte] <;> try simp only [zB])
  | (refine q0b (hs) ?_; refine uQ 600 _ ?_; simp (maxSteps := 3000000) only [go_sem, ↓zA, ↓reduceIte, ↓reduceDIte] <;> try simp only [zB])
  | (refine q0q (hs) ?_; refine uQ 600 _ ?_; simp (maxSteps := 3000000) only [go_sem, ↓zA, ↓reduceIte, ↓reduceDIte] <;> try simp only [zB])
  | (with_reducible refine And.intro ?_ ?_)
  | (with_reducible intro _))
 all_goals (simp_all)
theorem z9m (b : List UInt8) : visB (strOf b) = visA b := by
 simp [visB, visA, visC, strOf, ByteArray.size]
 rfl
theorem z1N (a : Pre) (ho : PreT.ok a) : PC Tryz.prog 124 [.agg (PreT.cells a)] (rB (vAdr a)) := by
 obtain ⟨k, b⟩ := a
 change Int at k
 have hv : b.length ≤ 16 → PC Tryz.prog 122 [rS (strOf b)] (rB (visA b)) := fun h => by
  have := z3g (strOf b) (by simp [strOf, ByteArray.size]; omega)
  rwa [z9m] at this
 have hd : vAdr (k, b) = ((decide (k = 2) && decide ((b.length : Int) = 4)) || ((decide (k = 20) && (decide (1 ≤ (b.length : Int)) && (decide ((b.length : Int) ≤ 16) && visA b))) || (decide (k = 24) && decide ((b.length : Int) = 16)))) := rfl
 rw [hd]
 generalize visA b = v at *
 refine q0D rfl rfl ?_
 refine rQ fi124 ?_ <;> try with_reducible exact True.intro
 repeat' (first
  | (refine q0a (hv (by omega)) ?_; refine uQ 600 _ ?_; simp (maxSteps := 3000000) only [go_sem, ↓zA, ↓reduceIte, ↓reduceDIte] <;> try simp only [zB])
  | (refine q0b (hv (by omega)) ?_; refine uQ 600 _ ?_; simp (maxSteps := 3000000) only [go_sem, ↓zA, ↓reduceIte, ↓reduceDIte] <;> try simp only [zB])
  | (refine q0q (hv (by omega)) ?_; refine uQ 600 _ ?_; simp (maxSteps := 3000000) only [go_sem, ↓zA, ↓reduceIte, ↓reduceDIte] <;> try simp only [zB])
  | (with_reducible refine And.intro ?_ ?_)
  | (with_reducible intro _))
 all_goals (grind)
theorem q9v (l : List Pre) (ho : (Ty.slice PreT).ok l) : PC Tryz.prog 68 [.isl PreT l] (rB (vAdrs l)) := by
 have hl : l.length ≤ 1125899906842624 := ho.1
 refine q0D rfl rfl ?_
 refine rQ fi68 ?_
 refine q0G (fun i => [(3, .raw (.int .i64 ((i : Nat) : Int)))]) (l.length) (fun j => (adrAt l) j = true) (by first | decide | simp) (fun i => rfl) ?_ fun i hi hall => ?_
 · (with_reducible refine sxE ?_ <;> try exact True.intro)
   all_goals (try rfl)
 have hwr := wsx i (by omega)
 refine gQ ?_
 have bad : i < (l.length) → (adrAt l) i = false → allN (l.length) (adrAt l) = false := fun hlt hv => q0i hlt hv
 have fin : ¬ i < (l.length) → allN (l.length) (adrAt l) = true := fun h => q0l fun j hj => hall j (by omega)
 try dsimp only at bad fin hall
 repeat' (first
  | (refine q0a (z1N _ (ho.2 _ (q0K ‹_›))) ?_; refine uQ 600 _ ?_; simp (maxSteps := 3000000) only [go_sem, ↓zA, ↓reduceIte, ↓reduceDIte] <;> try simp only [zB])
  | (refine q0b (z1N _ (ho.2 _ (q0K ‹_›))) ?_; refine uQ 600 _ ?_; simp (maxSteps := 3000000) only [go_sem, ↓zA, ↓reduceIte, ↓reduceDIte] <;> try simp only [zB])
  | (refine q0q (z1N _ (ho.2 _ (q0K ‹_›))) ?_; refine uQ 600 _ ?_; simp (maxSteps := 3000000) only [go_sem, ↓zA, ↓reduceIte, ↓reduceDIte] <;> try simp only [zB])
  | (with_reducible refine And.intro ?_ ?_)
  | (with_reducible intro _))
 all_goals (first | (with_reducible (refine (id ?_ : SoundI _ _ _))) | ((try simp only [Ty.dflt] at *); first | omega | (refine ⟨by omega, q0L hall (by grind [adrAt, vAdrs]), ⟨_, by first | rfl | exact List.append_assoc _ _ _ | (simp only [List.append_assoc, List.cons_append, List.nil_append]; rfl)⟩, ?_⟩; simp only [hwr, go_sem, ↓zA, ↓reduceIte, ↓reduceDIte] <;> (first | rfl | (grind [adrAt, vAdrs]))) | (refine ⟨_, rfl⟩) | (refine ⟨_, List.append_assoc _ _ _⟩) | (grind [adrAt, vAdrs])))
theorem j4t (l : List Pre) (h : shD l) : PC Tryz.prog 53 [.isl PreT l] (.isl .u8 (dataR l)) := by
 have hl := h.1
 refine q0e rfl rfl ?_
 refine rQ fi53 ?_
 refine q1C 3 PreT (fun i => l.take i) (fun i => [(4, rI i)]) l.length (fun _ => True) rfl (by simp) (by simp) rfl (fun i => rfl) ?_ fun i hi _ => ?_
 · with_reducible refine sxE ?_; trivial
 have hwr := wsx i (by omega)
 have hln : (l.take i).length = i := List.length_take_of_le hi
 refine uQ 600 _ ?_
 with_reducible refine sx1 hln ?_
 refine ⟨fun hlt => ?_, fun hge => ?_⟩
 · have hst := q0r (d := PreT.dflt) hlt
   refine ⟨⟨by omega, hlt⟩, ⟨by omega, hlt⟩, ⟨by omega, by omega⟩, q0R [_, _] [] hlt trivial (by rw [hst]; rfl) ?_⟩
   simp (maxSteps := 3000000) only [hwr, hst, List.length_append, hln, go_sem, ↓zA, ↓reduceIte, ↓reduceDIte] <;> try simp only [zB]
 obtain rfl : i = l.length := by omega
 refine q0u 0 ?_
 with_reducible refine sx1 hln ?_
 simp only [List.take_length]
 refine ⟨by omega, Nat.le_refl _, ?_⟩
 refine q0a (z7M l h) ?_
 refine gQ ?_; trivial
theorem z6t (b : List UInt8) (hb : b.length ≤ 1048576) : PC Tryz.prog 40 [.isl .u8 b] (.isl PreT (preG b)) := by
 have hc := q7Z b hb
 have hl := z3c b
 generalize preG b = l at *
 refine q0e rfl rfl ?_
 refine rQ fi40 ?_
 refine q0a hc ?_
 refine gQ ?_
 refine q1C 3 PreT (fun i => l.take i) (fun i => [(5, rI i)]) l.length (fun _ => True) rfl (by simp) (by simp) rfl (fun i => rfl) ?_ fun i hi _ => ?_
 · with_reducible refine sxE ?_; trivial
 have hwr := wsx i (by omega)
 have hln : (l.take i).length = i := List.length_take_of_le hi
 refine gQ ?_
 refine ⟨fun hlt => ?_, fun hge => ?_⟩
 · have hst := q0r (d := PreT.dflt) hlt
   refine ⟨⟨by omega, hlt⟩, ⟨by omega, hlt⟩, ⟨by omega, by omega⟩, q0R [_, _] [] hlt trivial (by rw [hst]; rfl) ?_⟩
   with_reducible refine sx3 hwr hst ?_; trivial
 obtain rfl : i = l.length := by omega
 refine ⟨⟨Nat.le_refl _, by omega⟩, by rw [List.take_of_length_le (Nat.le_refl _), List.take_of_length_le (Nat.le_refl _)]⟩
theorem j3L (a : Pre) : PC Tryz.prog 117 [.agg (PreT.cells a), .agg (PreT.cells a)] (rB true) := by
 obtain ⟨k, b⟩ := a
 refine q0D rfl rfl ?_
 refine rQ fi117 ?_; trivial
theorem q5s (l : List Pre) (hl : l.length ≤ 1125899906842624) : PC Tryz.prog 57 [.isl PreT l, .isl PreT l] (rB true) := by
 refine q0D rfl rfl ?_
 refine rQ fi57 ?_
 refine q0G (fun i => [(5, .raw (.int .i64 ((i : Nat) : Int)))]) (l.length) (fun j => (fun _ => true) j = true) (by first | decide | simp) (fun i => rfl) ?_ fun i hi hall => ?_
 · (with_reducible refine sxE ?_ <;> try exact True.intro)
   all_goals (try rfl)
 have hwr := wsx i (by omega)
 refine gQ ?_
 have bad : i < (l.length) → (fun _ => true) i = false → allN (l.length) (fun _ => true) = false := fun hlt hv => q0i hlt hv
 have fin : ¬ i < (l.length) → allN (l.length) (fun _ => true) = true := fun h => q0l fun j hj => hall j (by omega)
 try dsimp only at bad fin hall
 refine ⟨fun hlt => ⟨⟨by omega, hlt⟩, ⟨by omega, hlt⟩, q0b (j3L _) ?_⟩, fun _ => trivial⟩
 refine gQ ?_
 refine ⟨hlt, trivial, ⟨[], rfl⟩, ?_⟩
 with_reducible refine sx1 hwr ?_; trivial
theorem z7N (r : Req) (ho : ReqT.ok r) (hopt : optOk r) : PC Tryz.prog 25 [.agg (ReqT.cells r)] (rB (sRq r)) := by
 obtain ⟨k, pre, o, c, s, f, t, w, n, pf, ad, tk⟩ := r
 change Int at k o f t w n
 obtain ⟨_, o2, _, o4, o5, _, _, _, _, o10, o11, o12⟩ := ho
 have hs : sRq (k, pre, o, c, s, f, t, w, n, pf, ad, tk) = (vKind k && (vPre pre && (vOpt o && ((if k = 10 then vPrin c else noN c) && (vPrin s && (vTime f && (vTime t && (vTime w && (mIn 0 4294967295 n && (vProf pf && (vAdrs ad && vTks tk))))))))))) := rfl
 have hp := z9v pf
 have ht : vTks tk = (decide ((tk.length : Int) ≤ 16) && allN tk.length (tkAt tk)) := rfl
 have hor := orOpt hopt
 have l10 : pf.length ≤ 1125899906842624 := o10.1
 have l12 : tk.length ≤ 1125899906842624 := o12.1
 refine q0D rfl rfl ?_
 refine rQ fi25 ?_
 generalize sRq (k, pre, o, c, s, f, t, w, n, pf, ad, tk) = S at *
 refine q0G (fun i => [(3, .raw (.int .i64 ((i : Nat) : Int)))]) (pf.length) (fun j => (prAt pf) j = true) (by first | decide | simp) (fun i => rfl) ?_ fun i hi hall => ?_
 · (with_reducible refine sxE ?_ <;> try exact True.intro)
   all_goals (try rfl)
 have hwr := wsx i (by omega)
 refine gQ ?_
 have bad : i < (pf.length) → (prAt pf) i = false → allN (pf.length) (prAt pf) = false := fun hlt hv => q0i hlt hv
 have fin : ¬ i < (pf.length) → allN (pf.length) (prAt pf) = true := fun h => q0l fun j hj => hall j (by omega)
 try dsimp only at bad fin hall
 refine ⟨fun hlt => ⟨⟨by omega, hlt⟩, q0a (q7L _ _ _) ?_⟩, fun hge => ?_⟩
 · have hq : prAt pf i = (mIn 0 2147483647 (pf.getD i (Ty.dflt I64)) && allN i (dfrAt pf i)) := rfl
   refine gQ ?_
   have hF : prAt pf i = false → false = S := fun hv => by rw [hs, hp, bad hlt hv]; simp
   refine ⟨fun h1 => hF (by rw [hq, h1, Bool.false_and]), fun h1 => ?_⟩
   refine q0G (fun m => [(4, .raw (.int .i64 ((m : Nat) : Int)))]) (i) (fun j => (dfrAt pf i) j = true) (by first | decide | simp) (fun i => rfl) ?_ fun m him hallm => ?_
   · (with_reducible refine sxE ?_ <;> try exact True.intro)
     all_goals (try rfl)
   have hwrm := wsx m (by omega)
   refine gQ ?_
   have badm : m < (i) → (dfrAt pf i) m = false → allN (i) (dfrAt pf i) = false := fun hlt hv => q0i hlt hv
   have finm : ¬ m < (i) → allN (i) (dfrAt pf i) = true := fun h => q0l fun j hj => hallm j (by omega)
   try dsimp only at badm finm hallm
   have hqm : dfrAt pf i m = !decide (pf.getD m (Ty.dflt I64) = pf.getD i (Ty.dflt I64)) := rfl
   refine ⟨fun hlm => ⟨⟨by omega, Nat.lt_trans hlm hlt⟩, ⟨by omega, hlt⟩, fun he => hF (by rw [hq, badm hlm (by rw [hqm, decide_eq_true he]; rfl), Bool.and_false]), fun hne => ⟨hlm, q0L hallm (by rw [hqm, decide_eq_false hne]; rfl), ⟨[], rfl⟩, ?_⟩⟩, fun hgm => ⟨hlt, q0L hall (by rw [hq, h1, finm hgm]; rfl), ⟨[], rfl⟩, ?_⟩⟩
   · with_reducible refine sx1 hwrm ?_; trivial
   with_reducible refine sx1 hwr ?_; trivial
 rw [fin hge] at hp
 clear bad fin hall hge
 refine q0G (fun m => [(5, .raw (.int .i64 ((m : Nat) : Int)))]) (tk.length) (fun j => (tkAt tk) j = true) (by first | decide | simp) (fun i => rfl) ?_ fun m him hallm => ?_
 · (with_reducible refine sxE ?_ <;> try exact True.intro)
   all_goals (try rfl)
 have hwrm := wsx m (by omega)
 refine gQ ?_
 have badm : m < (tk.length) → (tkAt tk) m = false → allN (tk.length) (tkAt tk) = false := fun hlt hv => q0i hlt hv
 have finm : ¬ m < (tk.length) → allN (tk.length) (tkAt tk) = true := fun h => q0l fun j hj => hallm j (by omega)
 try dsimp only at badm finm hallm
 refine ⟨fun hlt => ⟨⟨by omega, hlt⟩, q0a (z8c _ (o12.2 _ (q0K (d := TickT.dflt) hlt))) ?_⟩, fun hge => ?_⟩
 · have hq : tkAt tk m = vTick (tk.getD m TickT.dflt) := rfl
   refine gQ ?_
   refine ⟨fun h1 => ?_, fun h1 => ⟨hlt, q0L hallm (by rw [hq, h1]), ⟨[], rfl⟩, ?_⟩⟩
   · rw [hs, ht, badm hlt (by rw [hq, h1])]; simp
   with_reducible refine sx1 hwrm ?_; trivial
 rw [finm hge, Bool.and_true] at ht
 rw [Bool.true_and] at hp
 rw [hp, ht] at hs
 have u1 : (0 : Int) ≤ o := hopt.1
 have u2 : o ≤ (4294967295 : Int) := hopt.2
 have hwo : IntKind.i64.wrap o = o := wrapi (show -9223372036854775808 ≤ o ∧ o ≤ 9223372036854775807 by omega)
 clear hp ht badm finm hallm hge him hwr hwrm hi l10 l12 hopt
 dsimp only at hor
 repeat' (first
  | (refine q0a (z2j _) ?_; refine uQ 600 _ ?_; simp (maxSteps := 3000000) only [hwo, go_sem, ↓zA, ↓reduceIte, ↓reduceDIte] <;> try simp only [zB])
  | (refine q0b (z2j _) ?_; refine uQ 600 _ ?_; simp (maxSteps := 3000000) only [hwo, go_sem, ↓zA, ↓reduceIte, ↓reduceDIte] <;> try simp only [zB])
  | (refine q0q (z2j _) ?_; refine uQ 600 _ ?_; simp (maxSteps := 3000000) only [hwo, go_sem, ↓zA, ↓reduceIte, ↓reduceDIte] <;> try simp only [zB])
  | (refine q0a (z1H _ o2.1) ?_; refine uQ 600 _ ?_; simp (maxSteps := 3000000) only [hwo, go_sem, ↓zA, ↓reduceIte, ↓reduceDIte] <;> try simp only [zB])
  | (refine q0b (z1H _ o2.1) ?_; refine uQ 600 _ ?_; simp (maxSteps := 3000000) only [hwo, go_sem, ↓zA, ↓reduceIte, ↓reduceDIte] <;> try simp only [zB])
  | (refine q0q (z1H _ o2.1) ?_; refine uQ 600 _ ?_; simp (maxSteps := 3000000) only [hwo, go_sem, ↓zA, ↓reduceIte, ↓reduceDIte] <;> try simp only [zB])
  | (refine q0a (q9n _ o4) ?_; refine uQ 600 _ ?_; simp (maxSteps := 3000000) only [hwo, go_sem, ↓zA, ↓reduceIte, ↓reduceDIte] <;> try simp only [zB])
  | (refine q0b (q9n _ o4) ?_; refine uQ 600 _ ?_; simp (maxSteps := 3000000) only [hwo, go_sem, ↓zA, ↓reduceIte, ↓reduceDIte] <;> try simp only [zB])
  | (refine q0q (q9n _ o4) ?_; refine uQ 600 _ ?_; simp (maxSteps := 3000000) only [hwo, go_sem, ↓zA, ↓reduceIte, ↓reduceDIte] <;> try simp only [zB])
  | (refine q0a (q9C _) ?_; refine uQ 600 _ ?_; simp (maxSteps := 3000000) only [hwo, go_sem, ↓zA, ↓reduceIte, ↓reduceDIte] <;> try simp only [zB])
  | (refine q0b (q9C _) ?_; refine uQ 600 _ ?_; simp (maxSteps := 3000000) only [hwo, go_sem, ↓zA, ↓reduceIte, ↓reduceDIte] <;> try simp only [zB])
  | (refine q0q (q9C _) ?_; refine uQ 600 _ ?_; simp (maxSteps := 3000000) only [hwo, go_sem, ↓zA, ↓reduceIte, ↓reduceDIte] <;> try simp only [zB])
  | (refine q0a (q9n _ o5) ?_; refine uQ 600 _ ?_; simp (maxSteps := 3000000) only [hwo, go_sem, ↓zA, ↓reduceIte, ↓reduceDIte] <;> try simp only [zB])
  | (refine q0b (q9n _ o5) ?_; refine uQ 600 _ ?_; simp (maxSteps := 3000000) only [hwo, go_sem, ↓zA, ↓reduceIte, ↓reduceDIte] <;> try simp only [zB])
  | (refine q0q (q9n _ o5) ?_; refine uQ 600 _ ?_; simp (maxSteps := 3000000) only [hwo, go_sem, ↓zA, ↓reduceIte, ↓reduceDIte] <;> try simp only [zB])
  | (refine q0a (q7L _ _ _) ?_; refine uQ 600 _ ?_; simp (maxSteps := 3000000) only [hwo, go_sem, ↓zA, ↓reduceIte, ↓reduceDIte] <;> try simp only [zB])
  | (refine q0b (q7L _ _ _) ?_; refine uQ 600 _ ?_; simp (maxSteps := 3000000) only [hwo, go_sem, ↓zA, ↓reduceIte, ↓reduceDIte] <;> try simp only [zB])
  | (refine q0q (q7L _ _ _) ?_; refine uQ 600 _ ?_; simp (maxSteps := 3000000) only [hwo, go_sem, ↓zA, ↓reduceIte, ↓reduceDIte] <;> try simp only [zB])
  | (refine q0a (q9v _ o11) ?_; refine uQ 600 _ ?_; simp (maxSteps := 3000000) only [hwo, go_sem, ↓zA, ↓reduceIte, ↓reduceDIte] <;> try simp only [zB])
  | (refine q0b (q9v _ o11) ?_; refine uQ 600 _ ?_; simp (maxSteps := 3000000) only [hwo, go_sem, ↓zA, ↓reduceIte, ↓reduceDIte] <;> try simp only [zB])
  | (refine q0q (q9v _ o11) ?_; refine uQ 600 _ ?_; simp (maxSteps := 3000000) only [hwo, go_sem, ↓zA, ↓reduceIte, ↓reduceDIte] <;> try simp only [zB])
  | (with_reducible refine And.intro ?_ ?_)
  | (with_reducible intro _))
 all_goals (skip)
 all_goals clear o2 o4 o5 o11 o12 o10 u1 u2 hwo
 all_goals (try first | (have hO : vOpt o = true := hor.symm.trans (decide_eq_true (by assumption))) | (have hO : vOpt o = false := hor.symm.trans (decide_eq_false (by assumption))))
 all_goals clear hor
 all_goals (first | (simp_all [vTime, mIn, vKind]; done) | (simp_all [vTime, mIn, vKind] <;> (intros; omega)))
theorem z4c (r : Req) (ho : ReqT.ok r) : PC Tryz.prog 15 [.agg (ReqT.cells r), .agg (ReqT.cells r)] (rB true) := by
 obtain ⟨k, pre, o, c, s, f, t, w, n, pf, ad, tk⟩ := r
 obtain ⟨_, o2, _, o4, o5, _, _, _, _, o10, o11, o12⟩ := ho
 have l10 : pf.length ≤ 1125899906842624 := o10.1
 have l12 : tk.length ≤ 1125899906842624 := o12.1
 refine q0D rfl rfl ?_
 refine rQ fi15 ?_
 refine q0G (fun i => [(5, .raw (.int .i64 ((i : Nat) : Int)))]) (pf.length) (fun j => (fun _ => true) j = true) (by first | decide | simp) (fun i => rfl) ?_ fun i hi hall => ?_
 · (with_reducible refine sxE ?_ <;> try exact True.intro)
   all_goals (try rfl)
 have hwr := wsx i (by omega)
 refine gQ ?_
 have bad : i < (pf.length) → (fun _ => true) i = false → allN (pf.length) (fun _ => true) = false := fun hlt hv => q0i hlt hv
 have fin : ¬ i < (pf.length) → allN (pf.length) (fun _ => true) = true := fun h => q0l fun j hj => hall j (by omega)
 try dsimp only at bad fin hall
 refine ⟨fun hlt => ⟨⟨by omega, hlt⟩, ⟨by omega, hlt⟩, hlt, trivial, ⟨[], rfl⟩, ?_⟩, fun hge => ?_⟩
 · with_reducible refine sx1 hwr ?_; trivial
 refine q0G (fun m => [(6, .raw (.int .i64 ((m : Nat) : Int)))]) (tk.length) (fun j => (fun _ => true) j = true) (by first | decide | simp) (fun i => rfl) ?_ fun m him hallm => ?_
 · (with_reducible refine sxE ?_ <;> try exact True.intro)
   all_goals (try rfl)
 have hwrm := wsx m (by omega)
 refine gQ ?_
 have badm : m < (tk.length) → (fun _ => true) m = false → allN (tk.length) (fun _ => true) = false := fun hlt hv => q0i hlt hv
 have finm : ¬ m < (tk.length) → allN (tk.length) (fun _ => true) = true := fun h => q0l fun j hj => hallm j (by omega)
 try dsimp only at badm finm hallm
 refine ⟨fun hlt => ⟨⟨by omega, hlt⟩, ⟨by omega, hlt⟩, q0b (z2b _ (o12.2 _ (q0K (d := TickT.dflt) hlt))) ?_⟩, fun hge => ?_⟩
 · refine gQ ?_
   refine ⟨hlt, trivial, ⟨[], rfl⟩, ?_⟩
   simp (maxSteps := 3000000) only [hwrm, go_sem, ↓zA, ↓reduceIte, ↓reduceDIte] <;> try simp only [zB]
 repeat' (first
  | (refine q0a (q5N _ o2.1) ?_; refine uQ 600 _ ?_; simp (maxSteps := 3000000) only [go_sem, ↓zA, ↓reduceIte, ↓reduceDIte] <;> try simp only [zB])
  | (refine q0b (q5N _ o2.1) ?_; refine uQ 600 _ ?_; simp (maxSteps := 3000000) only [go_sem, ↓zA, ↓reduceIte, ↓reduceDIte] <;> try simp only [zB])
  | (refine q0q (q5N _ o2.1) ?_; refine uQ 600 _ ?_; simp (maxSteps := 3000000) only [go_sem, ↓zA, ↓reduceIte, ↓reduceDIte] <;> try simp only [zB])
  | (refine q0a (q9x _ _ o4) ?_; refine uQ 600 _ ?_; simp (maxSteps := 3000000) only [go_sem, ↓zA, ↓reduceIte, ↓reduceDIte] <;> try simp only [zB])
  | (refine q0b (q9x _ _ o4) ?_; refine uQ 600 _ ?_; simp (maxSteps := 3000000) only [go_sem, ↓zA, ↓reduceIte, ↓reduceDIte] <;> try simp only [zB])
  | (refine q0q (q9x _ _ o4) ?_; refine uQ 600 _ ?_; simp (maxSteps := 3000000) only [go_sem, ↓zA, ↓reduceIte, ↓reduceDIte] <;> try simp only [zB])
  | (refine q0a (q9x _ _ o5) ?_; refine uQ 600 _ ?_; simp (maxSteps := 3000000) only [go_sem, ↓zA, ↓reduceIte, ↓reduceDIte] <;> try simp only [zB])
  | (refine q0b (q9x _ _ o5) ?_; refine uQ 600 _ ?_; simp (maxSteps := 3000000) only [go_sem, ↓zA, ↓reduceIte, ↓reduceDIte] <;> try simp only [zB])
  | (refine q0q (q9x _ _ o5) ?_; refine uQ 600 _ ?_; simp (maxSteps := 3000000) only [go_sem, ↓zA, ↓reduceIte, ↓reduceDIte] <;> try simp only [zB])
  | (refine q0a (q5s _ o11.1) ?_; refine uQ 600 _ ?_; simp (maxSteps := 3000000) only [go_sem, ↓zA, ↓reduceIte, ↓reduceDIte] <;> try simp only [zB])
  | (refine q0b (q5s _ o11.1) ?_; refine uQ 600 _ ?_; simp (maxSteps := 3000000) only [go_sem, ↓zA, ↓reduceIte, ↓reduceDIte] <;> try simp only [zB])
  | (refine q0q (q5s _ o11.1) ?_; refine uQ 600 _ ?_; simp (maxSteps := 3000000) only [go_sem, ↓zA, ↓reduceIte, ↓reduceDIte] <;> try simp only [zB])
  | (with_reducible refine And.intro ?_ ?_)
  | (with_reducible intro _))
 all_goals (simp_all)

theorem z7B (r : Req) (h : shQ r) : PC Tryz.prog 14 [.agg (ReqT.cells r)] (.isl .u8 (bodA r)) := by
 have hfl := z5a h
 have hd : bodA r = elemS 48 (bodR r) := rfl
 have hr : bodR r = [wrapS 160 0 (bitsS r.2.2.1), wrapS 160 1 (if decide (r.1 = 12) = true then [] else prinS r.2.2.2.1), wrapS 160 2 (prinS r.2.2.2.2.1), wrapS 160 3 (if decide (r.2.2.2.2.2.1 = 0) = true then [] else timR r.2.2.2.2.2.1), wrapS 160 4 (timR r.2.2.2.2.2.2.1), wrapS 160 5 (if decide (r.2.2.2.2.2.2.2.1 = 0) = true then [] else timR r.2.2.2.2.2.2.2.1), wrapS 160 6 (intR r.2.2.2.2.2.2.2.2.1), wrapS 160 7 (prfA r.2.2.2.2.2.2.2.2.2.1), wrapS 160 8 (preR2 r.2.2.2.2.2.2.2.2.2.2.1), wrapS 160 9 (tksA r.2.2.2.2.2.2.2.2.2.2.2)] := rfl
 obtain ⟨h1, h2, h3, h4, h5, h6, ⟨h7, h7v⟩, h8, h9, h9v⟩ := h
 have g1 := q4L h4
 have g2 := q4L h5
 have g3 := q4o r.2.2.2.2.2.1
 have g4 := q4o r.2.2.2.2.2.2.1
 have g5 := q4o r.2.2.2.2.2.2.2.1
 have g6 := q1I r.2.2.2.2.2.2.2.2.1
 have g0 := (q8G r.2.2.1).1
 have p7 := z2y h7
 have p9 := z2D h9 h9v
 have p8 := z6D h8
 generalize bodA r = R at *
 generalize bodR r = L at *
 obtain ⟨k, pre, o, c, s, f, t, w, n, pf, ad, tk⟩ := r
 dsimp only at *
 change Int at k f w
 refine q0e rfl rfl ?_
 refine rQ fi14 ?_
 refine q1C 3 (.slice .u8) (mapN (t := I64) intR pf) (fun i => [(5, rI i)]) pf.length (fun _ => True) rfl (by simp) (by simp [mapN]) rfl (fun i => rfl) ?_ fun i hi _ => ?_
 · with_reducible refine sxE ?_; trivial
 have hwr := wsx i (by omega)
 have hln := q4s (t := I64) (w := intR) hi
 refine uQ 600 _ ?_
 with_reducible refine sx1 hln ?_
 refine ⟨fun hlt => ?_, fun hge => ?_⟩
 · have hst := q3j (t := I64) (w := intR) hlt
   refine ⟨⟨by omega, hlt⟩, q0a (q8q _ (h7v _ (q0K (d := Ty.dflt I64) hlt))) ?_⟩
   refine uQ 600 _ ?_
   with_reducible refine sx1 hln ?_
   refine ⟨⟨by omega, by omega⟩, q0R [_, _] [] hlt trivial (by rw [hst]; rfl) ?_⟩
   simp (maxSteps := 3000000) only [hwr, hst, List.length_append, hln, go_sem, ↓zA, ↓reduceIte, ↓reduceDIte] <;> try simp only [zB]
 obtain rfl : i = pf.length := by omega
 refine q1b 1 rfl rfl (by omega) ?_ ?_ ?_
 · with_reducible refine sxE ?_; trivial
 · with_reducible refine sxE ?_
   exact Nat.le_of_eq hln.symm
 with_reducible refine sxE ?_
 rw [List.take_of_length_le (Nat.le_of_eq hln)]
 refine q1C 4 (.slice .u8) (mapN (t := TickT) tickA tk) (fun i => [(6, rI i)]) tk.length (fun _ => True) rfl (by simp) (by simp [mapN]) rfl (fun i => rfl) ?_ fun j hj _ => ?_
 · with_reducible refine sxE ?_; trivial
 have hwr2 := wsx j (by omega)
 have hln2 := q4s (t := TickT) (w := tickA) hj
 by_cases hlt : j < tk.length
 · have hst := q3j (t := TickT) (w := tickA) hlt
   refine uQ 600 _ ?_
   with_reducible refine sx1 hln2 ?_
   refine ⟨fun _ => ⟨⟨by omega, hlt⟩, q0a (j2u _ (j4H (h9v _ (q0K (d := TickT.dflt) hlt)))) ?_⟩, fun h => absurd hlt h⟩
   refine uQ 600 _ ?_
   with_reducible refine sx1 hln2 ?_
   refine ⟨⟨by omega, by omega⟩, q0R [_, _] [] hlt trivial (by rw [hst]; rfl) ?_⟩
   simp (maxSteps := 3000000) only [hwr2, hst, List.length_append, hln2, go_sem, ↓zA, ↓reduceIte, ↓reduceDIte] <;> try simp only [zB]
 obtain rfl : j = tk.length := by omega
 refine q1b 2 rfl rfl (by omega) ?_ ?_ ?_
 · with_reducible refine sxE ?_; trivial
 · with_reducible refine sxE ?_
   exact Nat.le_refl _
 with_reducible refine sxE ?_
 rw [List.take_of_length_le (Nat.le_refl _)]
 have hwo : IntKind.i64.wrap o = o := wrapi (show -9223372036854775808 ≤ o ∧ o ≤ 9223372036854775807 from ⟨Int.le_trans (by decide) h3.1, Int.le_trans h3.2 (by decide)⟩)
 refine uQ 600 _ ?_
 with_reducible refine sx1 hwo ?_
 refine ⟨fun h => absurd h hlt, fun _ => ?_⟩
 have q7 : elemS 48 (mapN (t := I64) intR pf pf.length) = prfA pf := rfl
 have q9 : (if (((mapN (t := TickT) tickA tk tk.length).length : Int) = 0) then [] else elemS 48 (mapN (t := TickT) tickA tk tk.length)) = tksA tk := by unfold tksA; rw [hln2]; simp
 have q8 : (if ((ad.length : Int) = 0) then [] else dataR ad) = preR2 ad := by unfold preR2; simp
 have q8l : (preR2 ad).length ≤ 50000 := q8V h8
 have e1 : (if k = 12 then [] else prinS c).length ≤ 65400 := by
  split
  · exact Nat.zero_le _
  exact g1
 have e3 : (if f = 0 then [] else timR f).length ≤ 11 := by
  split
  · exact Nat.zero_le _
  exact g3
 have e5 : (if w = 0 then [] else timR w).length ≤ 11 := by
  split
  · exact Nat.zero_le _
  exact g5
 simp only [decide_eq_true_eq] at hr
 generalize mapN (t := I64) intR pf pf.length = P7 at *
 generalize mapN (t := TickT) tickA tk tk.length = P9 at *

 refine q0b (j2D o h3) ?_
 refine gQ ?_
 refine q0b (q1F 0 (by decide) _ (by omega)) ?_
 refine gQ ?_
 refine q0b (z1O c h4) ?_
 refine gQ ?_
 refine q0b (q3k _ _) ?_
 refine gQ ?_
 refine q0b (q1F 1 (by decide) _ (by omega)) ?_
 refine gQ ?_
 refine q0b (z1O s h5) ?_
 refine gQ ?_
 refine q0b (q1F 2 (by decide) _ (by omega)) ?_
 refine gQ ?_
 refine q0b (z1z f) ?_
 refine gQ ?_
 refine q0b (q3k _ _) ?_
 refine gQ ?_
 refine q0b (q1F 3 (by decide) _ (by omega)) ?_
 refine gQ ?_
 refine q0b (z1z t) ?_
 refine gQ ?_
 refine q0b (q1F 4 (by decide) _ (by omega)) ?_
 refine gQ ?_
 refine q0b (z1z w) ?_
 refine gQ ?_
 refine q0b (q3k _ _) ?_
 refine gQ ?_
 refine q0b (q1F 5 (by decide) _ (by omega)) ?_
 refine gQ ?_
 refine q0b (q8q n h6) ?_
 refine gQ ?_
 refine q0b (q1F 6 (by decide) _ (by omega)) ?_
 refine gQ ?_
 refine q0b (q4u P7 (by omega) (by omega)) ?_
 refine gQ ?_
 rw [q7]
 refine q0b (q1F 7 (by decide) _ (by omega)) ?_
 refine gQ ?_
 refine q0b (j4t ad h8.1) ?_
 refine gQ ?_
 refine q0b (q3k _ _) ?_
 refine gQ ?_
 rw [q8]
 refine q0b (q1F 8 (by decide) _ (by omega)) ?_
 refine gQ ?_
 refine q0b (q4u P9 (by omega) (by omega)) ?_
 refine gQ ?_
 refine q0b (q3k _ _) ?_
 refine gQ ?_
 rw [q9]
 refine q0b (q1F 9 (by decide) _ (by omega)) ?_
 refine gQ ?_
 refine q1f 3 (by decide) ?_
 with_reducible refine sxE ?_
 rw [← hr]
 refine q0b (q4u _ (by rw [hr]; simp) (by omega)) ?_
 refine gQ ?_
 exact hd.symm
theorem q6R (r : Req) (h : shQ r) : PC Tryz.prog 13 [.agg (ReqT.cells r)] (.isl .u8 (rqA r)) := by
 have hfl := j4u h
 have hf : rqA r = elemS (byteOf (96 + r.1)) [elemS 48 (rqR r)] := rfl
 have hr : rqR r = [wrapS 160 1 (intS 5), wrapS 160 2 (intR r.1), wrapS 160 3 (preR2 r.2.1), wrapS 160 4 (bodA r)] := rfl
 have g1 := q0O 5
 have g2 := q1I r.1
 have g3 := q8V h.2.1
 have g4 := z2P h
 have g := q0k 48 (rqR r)
 have hb := z7B r h
 have h1 := h.1
 have h2 := h.2.1.1
 clear h
 generalize rqA r = R at *
 generalize rqR r = L at *
 generalize bodA r = B at *
 obtain ⟨k, pre, o, c, s, f, t, w, n, pf, ad, tk⟩ := r
 dsimp only at *
 change Int at k
 refine q0e rfl rfl ?_
 refine rQ fi13 ?_
 refine q0b (z4T 5 (by decide)) ?_
 refine gQ ?_
 refine q0b (q1F 1 (by decide) _ (by omega)) ?_
 refine gQ ?_
 refine q0b (q8q k h1) ?_
 refine gQ ?_
 refine q0b (q1F 2 (by decide) _ (by omega)) ?_
 refine gQ ?_
 refine q0b (j4a pre h2) ?_
 refine gQ ?_
 refine q0b (q1F 3 (by decide) _ (by omega)) ?_
 refine gQ ?_
 refine q0b (hb) ?_
 refine gQ ?_
 refine q0b (q1F 4 (by decide) _ (by omega)) ?_
 refine gQ ?_
 refine q1f 1 (by decide) ?_
 with_reducible refine sxE ?_
 rw [← hr]
 refine q0b (q4u _ (by rw [hr]; simp) (by omega)) ?_
 refine gQ ?_
 refine q0b (j3B k _ (by omega)) ?_
 refine gQ ?_
 exact hf.symm
theorem z6u (r : Req) (ho : ReqT.ok r) (hopt : optOk r) (he : sRq r = true → PC Tryz.prog 13 [.agg (ReqT.cells r)] (.isl .u8 (rqS r))) : PC Tryz.prog 6 [.agg (ReqT.cells r)] (rB (vRq r)) := by
 have hf := z7N r ho hopt
 have hv : vRq r = (sRq r && decide ((rqS r).length ≤ 65536)) := rfl
 rw [hv]
 generalize rqS r = w at *
 generalize sRq r = v at *
 clear hv hopt ho
 obtain ⟨k, pre, o, c, s, f, t, x, n, pf, ad, tk⟩ := r
 cases v with
 | false =>
  refine q0D rfl rfl ?_
  refine rQ fi6 ?_
  refine q0a hf ?_
  refine gQ ?_; trivial
 | true =>
  replace he := he rfl
  refine q0D rfl rfl ?_
  refine rQ fi6 ?_
  refine q0a hf ?_
  refine gQ ?_
  refine q0a he ?_
  refine gQ ?_
  rw [decide_eq_decide]
  omega
def piN (l : List (List UInt8)) (i : Nat) : List Int := (l.take i).map fun x => (gIntR x : Int)
theorem z8q {l : List (List UInt8)} {i : Nat} (h : i < l.length) : piN l (i + 1) = piN l i ++ [(gIntR (l.getD i (Ty.slice .u8).dflt) : Int)] := by unfold piN; rw [q0r (d := (Ty.slice .u8).dflt) h]; simp
theorem j1m {l : List (List UInt8)} {i : Nat} (h : i ≤ l.length) : (piN l i).length = i := by simp [piN]; omega
theorem j2w (l : List (List UInt8)) : piN l l.length = l.map fun x => (gIntR x : Int) := by unfold piN; rw [List.take_length]
def tgN (l : List (List UInt8)) (i : Nat) : List Tick := (l.take i).map tickG
theorem z9N {l : List (List UInt8)} {i : Nat} (h : i < l.length) : tgN l (i + 1) = tgN l i ++ [tickG (l.getD i (Ty.slice .u8).dflt)] := by unfold tgN; rw [q0r (d := (Ty.slice .u8).dflt) h]; simp
theorem j1x {l : List (List UInt8)} {i : Nat} (h : i ≤ l.length) : (tgN l i).length = i := by simp [tgN]; omega
theorem j1J (l : List (List UInt8)) : tgN l l.length = l.map tickG := by unfold tgN; rw [List.take_length]
theorem j1L {b : List UInt8} (h : b.length ≤ 1048576) : ReqT.ok (rqG b) :=
 ⟨trivial, z7E (q2u 3 (q5R h)), trivial, z2i (q2u 1 (q2u 4 (q5R h))), z2i (q2u 2 (q2u 4 (q5R h))), trivial, trivial, trivial, trivial, q8N (t := I64) (q2u 7 (q2u 4 (q5R h))) fun _ _ => trivial, z7E (q2u 8 (q2u 4 (q5R h))), q8N (t := TickT) (q2u 9 (q2u 4 (q5R h))) fun _ hz => z2z hz⟩
theorem z6j (b : List UInt8) (hb : b.length ≤ 1500) : PC Tryz.prog 10 [.isl .u8 b] (.tup [.agg (ReqT.cells ((decReq b).getD ReqT.dflt)), rI (if (decReq b).isSome then 0 else 6)]) := by
 have hd : decReq b = if vRq (rqG b) = true ∧ rqS (rqG b) = b then some (rqG b) else none := (z3W b).symm
 generalize decReq b = R at *
 have hok := j1L (b := b) (by omega)
 have hopt := z4I b
 have hE : rqG b = ((gIntR (itmR (conR b) 2) : Int), preG (itmR (conR b) 3), (gBitsR (itmR (itmR (conR b) 4) 0) : Int), prnR (itmR (itmR (conR b) 4) 1), prnR (itmR (itmR (conR b) 4) 2), (gIntR (itmR (itmR (conR b) 4) 3) : Int), (gIntR (itmR (itmR (conR b) 4) 4) : Int), (gIntR (itmR (itmR (conR b) 4) 5) : Int), (gIntR (itmR (itmR (conR b) 4) 6) : Int), (elsR (conR (itmR (itmR (conR b) 4) 7)).length (conR (itmR (itmR (conR b) 4) 7))).map (fun x => (gIntR x : Int)), preG (itmR (itmR (conR b) 4) 8), (elsR (conR (itmR (itmR (conR b) 4) 9)).length (conR (itmR (itmR (conR b) 4) 9))).map tickG) := rfl
 have hsz := j4s hb
 have he : sRq (rqG b) = true → PC Tryz.prog 13 [.agg (ReqT.cells (rqG b))] (.isl .u8 (rqS (rqG b))) := fun h => by
  have := q6R (rqG b) (j3M h hopt hsz)
  rwa [z6e h hopt] at this
 have hv := z6u (rqG b) hok hopt he
 have hc := q1l b (by omega)
 have hcl := q1d b
 have hx0 := z0L (itmR (itmR (conR b) 4) 0)
 clear hsz hopt
 generalize rqG b = X at *
 generalize conR b = s at *
 have i2 := q1O s 2 (by omega) (by omega)
 have i3 := q1O s 3 (by omega) (by omega)
 have i4 := q1O s 4 (by omega) (by omega)
 have q2 := q0E s 2
 have q3 := q0E s 3
 have q4 := q0E s 4
 have c2 := q2C (itmR s 2) (by omega)
 have c3 := z7G (itmR s 3) (by omega)
 generalize gIntR (itmR s 2) = y2 at *
 generalize preG (itmR s 3) = y3 at *
 generalize itmR s 4 = q at *
 have j0 := q1O q 0 (by omega) (by omega)
 have p0 := q0E q 0
 have j1 := q1O q 1 (by omega) (by omega)
 have p1 := q0E q 1
 have j2 := q1O q 2 (by omega) (by omega)
 have p2 := q0E q 2
 have j3 := q1O q 3 (by omega) (by omega)
 have p3 := q0E q 3
 have j4 := q1O q 4 (by omega) (by omega)
 have p4 := q0E q 4
 have j5 := q1O q 5 (by omega) (by omega)
 have p5 := q0E q 5
 have j6 := q1O q 6 (by omega) (by omega)
 have p6 := q0E q 6
 have j7 := q1O q 7 (by omega) (by omega)
 have p7 := q0E q 7
 have j8 := q1O q 8 (by omega) (by omega)
 have p8 := q0E q 8
 have j9 := q1O q 9 (by omega) (by omega)
 have p9 := q0E q 9
 have d0 := z7y (itmR q 0) (by omega)
 have d1 := q5i (itmR q 1) (by omega)
 have d2 := q5i (itmR q 2) (by omega)
 have d3 := q2C (itmR q 3) (by omega)
 have d4 := q2C (itmR q 4) (by omega)
 have d5 := q2C (itmR q 5) (by omega)
 have d6 := q2C (itmR q 6) (by omega)
 have d8 := z6t (itmR q 8) (by omega)
 have d7 := q1l (itmR q 7) (by omega)
 have dl7 := q1d (itmR q 7)
 have e7 := q3g (conR (itmR q 7)) (by omega)
 have hm7 := q2X (conR (itmR q 7)).length (conR (itmR q 7))
 have hle7 := q3p (conR (itmR q 7)).length (conR (itmR q 7))
 generalize elsR (conR (itmR q 7)).length (conR (itmR q 7)) = l7 at *
 have d9 := q1l (itmR q 9) (by omega)
 have dl9 := q1d (itmR q 9)
 have e9 := q3g (conR (itmR q 9)) (by omega)
 have hm9 := q2X (conR (itmR q 9)).length (conR (itmR q 9))
 have hle9 := q3p (conR (itmR q 9)).length (conR (itmR q 9))
 generalize elsR (conR (itmR q 9)).length (conR (itmR q 9)) = l9 at *
 generalize gBitsR (itmR q 0) = x0 at *
 generalize prnR (itmR q 1) = x1 at *
 generalize prnR (itmR q 2) = x2 at *
 generalize gIntR (itmR q 3) = x3 at *
 generalize gIntR (itmR q 4) = x4 at *
 generalize gIntR (itmR q 5) = x5 at *
 generalize gIntR (itmR q 6) = x6 at *
 generalize preG (itmR q 8) = x8 at *
 have hu : IntKind.u32.wrap ((x0 : Nat) : Int) = ((x0 : Nat) : Int) := j1r hx0
 refine q0e rfl (by cases R <;> rfl) ?_
 refine rQ fi10 ?_
 refine q0a hc ?_
 refine gQ ?_
 refine q0a i4 ?_
 refine gQ ?_
 refine q0a i2 ?_
 refine gQ ?_
 refine q0a c2 ?_
 refine gQ ?_
 refine q0a i3 ?_
 refine gQ ?_
 refine q0a c3 ?_
 refine gQ ?_
 refine q0a j0 ?_
 refine gQ ?_
 refine q0a d0 ?_
 refine uQ 600 _ ?_
 with_reducible refine sx1 hu ?_
 refine q0a j1 ?_
 refine gQ ?_
 refine q0a d1 ?_
 refine gQ ?_
 refine q0a j2 ?_
 refine gQ ?_
 refine q0a d2 ?_
 refine gQ ?_
 refine q0a j3 ?_
 refine gQ ?_
 refine q0a d3 ?_
 refine gQ ?_
 refine q0a j4 ?_
 refine gQ ?_
 refine q0a d4 ?_
 refine gQ ?_
 refine q0a j5 ?_
 refine gQ ?_
 refine q0a d5 ?_
 refine gQ ?_
 refine q0a j6 ?_
 refine gQ ?_
 refine q0a d6 ?_
 refine gQ ?_
 refine q0a j8 ?_
 refine gQ ?_
 refine q0a d8 ?_
 refine gQ ?_
 refine q0a j7 ?_
 refine gQ ?_
 refine q0a d7 ?_
 refine gQ ?_
 refine q0a e7 ?_
 refine gQ ?_
 refine q0a j9 ?_
 refine gQ ?_
 refine q0a d9 ?_
 refine gQ ?_
 refine q0a e9 ?_
 refine gQ ?_
 refine q2n 1 11 (I64) rfl rfl rfl ?_
 with_reducible refine sxE ?_
 refine q1c (ι := Nat × List SObj) (fun s => [(9, rI s.1)]) (fun s => [.cells 33 [rI 0, .raw (.slice none 0 0), .raw (.int .u32 0), .raw (.slice none 0 0), rS ⟨#[]⟩, .raw (.slice none 0 0), rS ⟨#[]⟩, rI 0, rI 0, rI 0, rI 0, .raw (.slice none 0 0), .raw (.slice none 0 0), .raw (.slice none 0 0)], .cells 33 [rI (y2 : Nat), .isl PreT y3, .raw (.int .u32 (x0 : Nat)), .isl .str x1.1, rS x1.2, .isl .str x2.1, rS x2.2, rI (x3 : Nat), rI (x4 : Nat), rI (x5 : Nat), rI (x6 : Nat), .bld (s.2.length + 2) (I64) (piN l7 s.1).length, .isl PreT x8, .raw (.slice none 0 0)]] ++ s.2 ++ [.row (I64) (piN l7 s.1)]) (fun s => l7.length - s.1) (fun s => s.1 ≤ l7.length) (0, []) (Nat.zero_le _) rfl ?_ ?_
 · with_reducible refine sxE ?_; trivial
 rintro ⟨i, G⟩ hi
 dsimp only at hi
 have hwr := wsx i (by omega)
 have hln := j1m hi
 refine uQ 12 _ ?_
 with_reducible refine sxaE ?_
 refine ⟨fun hlt => ?_, fun hge => ?_⟩
 · have hmm := hm7 _ (q0K (d := (Ty.slice .u8).dflt) hlt)
   have hst := z8q hlt
   refine q1w [1] mixed ?_
   refine aQ ?_
   refine ⟨⟨by omega, hlt⟩, q0b (q2C _ (by omega)) ?_⟩
   refine aQ ?_
   refine ⟨⟨by omega, by omega⟩, (i + 1, G ++ [.dead, .row (I64) [(gIntR (l7.getD i (Ty.slice .u8).dflt) : Int)]]), by dsimp only; omega, by dsimp only; omega, ?_, ?_⟩
   · simp [hst]
   simp (maxSteps := 3000000) only [hwr, List.append_assoc, getA, getA0, setA, setA0, List.length_append, Nat.add_assoc, go_sem, ↓zA, ↓reduceIte, ↓reduceDIte] <;> try simp only [zB]
 obtain rfl : i = l7.length := by omega
 refine q5m (ty := I64) (xs := piN l7 l7.length) [.cells 33 [rI 0, .raw (.slice none 0 0), .raw (.int .u32 0), .raw (.slice none 0 0), rS ⟨#[]⟩, .raw (.slice none 0 0), rS ⟨#[]⟩, rI 0, rI 0, rI 0, rI 0, .raw (.slice none 0 0), .raw (.slice none 0 0), .raw (.slice none 0 0)], .cells 33 [rI (y2 : Nat), .isl PreT y3, .raw (.int .u32 (x0 : Nat)), .isl .str x1.1, rS x1.2, .isl .str x2.1, rS x2.2, rI (x3 : Nat), rI (x4 : Nat), rI (x5 : Nat), rI (x6 : Nat), .bld (G.length + 2) (I64) (piN l7 l7.length).length, .isl PreT x8, .raw (.slice none 0 0)]] [.cells 33 [rI 0, .raw (.slice none 0 0), .raw (.int .u32 0), .raw (.slice none 0 0), rS ⟨#[]⟩, .raw (.slice none 0 0), rS ⟨#[]⟩, rI 0, rI 0, rI 0, rI 0, .raw (.slice none 0 0), .raw (.slice none 0 0), .raw (.slice none 0 0)], .cells 33 [rI (y2 : Nat), .isl PreT y3, .raw (.int .u32 (x0 : Nat)), .isl .str x1.1, rS x1.2, .isl .str x2.1, rS x2.2, rI (x3 : Nat), rI (x4 : Nat), rI (x5 : Nat), rI (x6 : Nat), .bld 2 (I64) (piN l7 l7.length).length, .isl PreT x8, .raw (.slice none 0 0)]] G rfl (by simp) (by simp) ?_ (by rfl) ?_ ?_ ?_
 · simp [SObj.ren, SV.ren, SV.renL, shift, Nat.add_comm]
 · rfl
 · with_reducible refine sxE ?_; trivial
 with_reducible refine sxE ?_
 refine q1b 2 rfl rfl (by omega) ?_ ?_ ?_
 · with_reducible refine sxE ?_
   exact Nat.le_refl _
 · with_reducible refine sxE ?_; trivial
 with_reducible refine sxE ?_
 rw [List.take_of_length_le (Nat.le_refl _), j2w]
 clear hi hwr hln hge
 generalize l7.map (fun x => (gIntR x : Int)) = v7 at *
 refine gQ ?_
 refine q2n 1 13 (TickT) rfl rfl rfl ?_
 with_reducible refine sxE ?_
 refine q1c (ι := Nat × List SObj) (fun s => [(10, rI s.1)]) (fun s => [.cells 33 [rI 0, .raw (.slice none 0 0), .raw (.int .u32 0), .raw (.slice none 0 0), rS ⟨#[]⟩, .raw (.slice none 0 0), rS ⟨#[]⟩, rI 0, rI 0, rI 0, rI 0, .raw (.slice none 0 0), .raw (.slice none 0 0), .raw (.slice none 0 0)], .cells 33 [rI (y2 : Nat), .isl PreT y3, .raw (.int .u32 (x0 : Nat)), .isl .str x1.1, rS x1.2, .isl .str x2.1, rS x2.2, rI (x3 : Nat), rI (x4 : Nat), rI (x5 : Nat), rI (x6 : Nat), .isl I64 v7, .isl PreT x8, .bld (s.2.length + 3) (TickT) (tgN l9 s.1).length], .dead] ++ s.2 ++ [.row (TickT) (tgN l9 s.1)]) (fun s => l9.length - s.1) (fun s => s.1 ≤ l9.length) (0, []) (Nat.zero_le _) rfl ?_ ?_
 · with_reducible refine sxE ?_; trivial
 rintro ⟨i, G⟩ hi
 dsimp only at hi
 have hwr := wsx i (by omega)
 have hln := j1x hi
 refine uQ 12 _ ?_
 with_reducible refine sxaE ?_
 refine ⟨fun hlt => ?_, fun hge => ?_⟩
 · have hmm := hm9 _ (q0K (d := (Ty.slice .u8).dflt) hlt)
   have hst := z9N hlt
   refine q1w [1] mixed ?_
   refine aQ ?_
   refine ⟨⟨by omega, hlt⟩, q0b (z4f _ (by omega)) ?_⟩
   refine aQ ?_
   refine ⟨(z2z (y := l9.getD i (Ty.slice .u8).dflt) (by omega)).1.2, ⟨by omega, by omega⟩, (i + 1, G ++ [.dead, .row (TickT) [tickG (l9.getD i (Ty.slice .u8).dflt)]]), by dsimp only; omega, by dsimp only; omega, ?_, ?_⟩
   · simp [hst]
   simp (maxSteps := 3000000) only [hwr, List.append_assoc, getA, getA0, setA, setA0, List.length_append, Nat.add_assoc, go_sem, ↓zA, ↓reduceIte, ↓reduceDIte] <;> try simp only [zB]
 obtain rfl : i = l9.length := by omega
 refine q5m (ty := TickT) (xs := tgN l9 l9.length) [.cells 33 [rI 0, .raw (.slice none 0 0), .raw (.int .u32 0), .raw (.slice none 0 0), rS ⟨#[]⟩, .raw (.slice none 0 0), rS ⟨#[]⟩, rI 0, rI 0, rI 0, rI 0, .raw (.slice none 0 0), .raw (.slice none 0 0), .raw (.slice none 0 0)], .cells 33 [rI (y2 : Nat), .isl PreT y3, .raw (.int .u32 (x0 : Nat)), .isl .str x1.1, rS x1.2, .isl .str x2.1, rS x2.2, rI (x3 : Nat), rI (x4 : Nat), rI (x5 : Nat), rI (x6 : Nat), .isl I64 v7, .isl PreT x8, .bld (G.length + 3) (TickT) (tgN l9 l9.length).length], .dead] [.cells 33 [rI 0, .raw (.slice none 0 0), .raw (.int .u32 0), .raw (.slice none 0 0), rS ⟨#[]⟩, .raw (.slice none 0 0), rS ⟨#[]⟩, rI 0, rI 0, rI 0, rI 0, .raw (.slice none 0 0), .raw (.slice none 0 0), .raw (.slice none 0 0)], .cells 33 [rI (y2 : Nat), .isl PreT y3, .raw (.int .u32 (x0 : Nat)), .isl .str x1.1, rS x1.2, .isl .str x2.1, rS x2.2, rI (x3 : Nat), rI (x4 : Nat), rI (x5 : Nat), rI (x6 : Nat), .isl I64 v7, .isl PreT x8, .bld 3 (TickT) (tgN l9 l9.length).length], .dead] G rfl (by simp) (by simp) ?_ (by rfl) ?_ ?_ ?_
 · simp [SObj.ren, SV.ren, SV.renL, shift, Nat.add_comm]
 · rfl
 · with_reducible refine sxE ?_; trivial
 with_reducible refine sxE ?_
 refine q1b 3 rfl rfl (by omega) ?_ ?_ ?_
 · with_reducible refine sxE ?_
   exact Nat.le_refl _
 · with_reducible refine sxE ?_; trivial
 with_reducible refine sxE ?_
 rw [List.take_of_length_le (Nat.le_refl _), j1J]
 clear hi hwr hln hge
 generalize l9.map tickG = v9 at *
 refine gQ ?_
 subst hE
 cases hvv : vRq (((y2 : Nat) : Int), y3, ((x0 : Nat) : Int), x1, x2, ((x3 : Nat) : Int), ((x4 : Nat) : Int), ((x5 : Nat) : Int), ((x6 : Nat) : Int), v7, x8, v9) with
 | false =>
  have hR : R = none := by rw [hd, hvv]; simp
  rw [hvv] at hv
  subst hR
  refine q0b hv ?_
  refine gQ ?_
  exact ⟨⟨rfl, rfl, rfl, rfl, rfl, rfl, rfl, rfl, rfl, rfl, rfl, rfl, rfl, rfl⟩, rfl⟩
 | true =>
  rw [hvv] at hv
  refine q0b hv ?_
  refine gQ ?_
  refine q0b (he (by unfold vRq at hvv; rw [Bool.and_eq_true] at hvv; exact hvv.1)) ?_
  refine gQ ?_
  refine ⟨fun hne => ?_, fun heq => ?_⟩
  · have hR : R = none := by rw [hd, if_neg (fun q => hne (q6y.2 q.2))]
    subst hR
    exact ⟨⟨rfl, rfl, rfl, rfl, rfl, rfl, rfl, rfl, rfl, rfl, rfl, rfl, rfl, rfl⟩, rfl⟩
  have hR : R = some (((y2 : Nat) : Int), y3, ((x0 : Nat) : Int), x1, x2, ((x3 : Nat) : Int), ((x4 : Nat) : Int), ((x5 : Nat) : Int), ((x6 : Nat) : Int), v7, x8, v9) := by rw [hd, if_pos ⟨hvv, q6y.1 heq⟩]
  subst hR
  exact ⟨⟨rfl, rfl, rfl, rfl, rfl, rfl, rfl, rfl, rfl, rfl, rfl, rfl, rfl, rfl⟩, rfl⟩
end Go.Proofs.YtkbbkhmffmfliaaGreatDoor
