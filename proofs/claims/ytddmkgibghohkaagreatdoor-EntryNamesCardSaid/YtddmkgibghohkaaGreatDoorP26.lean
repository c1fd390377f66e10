/- Contracts: what is small. -/
import Derived.Test.YtddmkgibghohkaaGreatDoorPKn
import Derived.Test.YtddmkgibghohkaaGreatDoorP17
import Derived.Test.YtddmkgibghohkaaGreatDoorP20
import Derived.Test.YtddmkgibghohkaaGreatDoorPOv
import Derived.Test.YtddmkgibghohkaaGreatDoorPEq2
import Derived.Test.YtddmkgibghohkaaGreatDoorP21
set_option linter.unusedSimpArgs false
set_option linter.unusedVariables false
set_option linter.unusedSectionVars false
namespace Go.Proofs.YtddmkgibghohkaaGreatDoor
open Go Go.Sx Go.Proofs
set_option maxRecDepth 100000
set_option maxHeartbeats 4000000
set_option linter.unusedSimpArgs false

def k300 (l : List Key) (j : Nat) : Bool := decide (((l.getD j KeyT.dflt).2.2.length : Int) ≤ 300)
def smSet (s : KSet) : Bool := allN s.2.1.length (k300 s.2.1) && (decide ((s.2.1.length : Int) ≤ 6) && decide ((s.2.2.1.size : Int) ≤ 300))
theorem smallSet_c (s : KSet) (hs : SetT.ok s) : PC Tryz.prog 11 [.agg (SetT.cells s)] (rB (smSet s)) := by
 have hl : List.length s.2.1 ≤ 1125899906842624 := hs.2.1.1
 refine pc_of rfl rfl ?_
 refine runE mixed fi11 ?_
 refine si_cntD (fun i => [(3, .raw (.int .i64 ((i : Nat) : Int)))]) (List.length s.2.1) (fun j => (k300 s.2.1) j = true) (by first | decide | simp) (fun i => rfl) ?_ fun i hi hall => ?_
 · (with_reducible refine sxE ?_ <;> try exact True.intro)
   all_goals (try rfl)
 have hwr : IntKind.i64.wrap ((i : Int) + 1) = ((i + 1 : Nat) : Int) := wrap_succ (by omega)
 refine goE mixed ?_
 have bad : i < (List.length s.2.1) → (k300 s.2.1) i = false → allN (List.length s.2.1) (k300 s.2.1) = false := fun hlt hv => allN_false hlt hv
 have fin : ¬ i < (List.length s.2.1) → allN (List.length s.2.1) (k300 s.2.1) = true := fun h => allN_true fun j hj => hall j (by omega)
 try dsimp only at bad fin hall
 refine ⟨fun hlt => ⟨⟨by omega, hlt⟩, fun h => ?_, fun h => ?_⟩, fun hge => ⟨fun h => ?_, fun h => ?_⟩⟩
 · have hb := bad hlt (decide_eq_false (by omega))
   unfold smSet; rw [hb]; rfl
 · refine ⟨hlt, next_all hall (decide_eq_true (by omega)), ⟨[], rfl⟩, ?_⟩
   with_reducible refine sx1 hwr ?_; trivial
 · unfold smSet; rw [fin hge, decide_eq_true h]; rfl
 · unfold smSet; rw [fin hge, decide_eq_false h]; rfl
def p40 (l : List ByteArray) (k : Nat) : Bool := decide (((l.getD k Ty.str.dflt).size : Int) ≤ 40)
def shAt (l : List Prin) (j : Nat) : Bool := decide (((l.getD j PrinT.dflt).1.length : Int) ≤ 6) && (decide (((l.getD j PrinT.dflt).2.size : Int) ≤ 40) && allN (l.getD j PrinT.dflt).1.length (p40 (l.getD j PrinT.dflt).1))
def shB (l : List Prin) : Bool := allN l.length (shAt l) && decide ((l.length : Int) ≤ 20)
theorem short_c (l : List Prin) (hl : (Ty.slice PrinT).ok l) : PC Tryz.prog 42 [.isl PrinT l] (rB (shB l)) := by
 have hlen := hl.1
 have hok : ∀ {j}, j < l.length → List.length (l.getD j PrinT.dflt).1 ≤ 1125899906842624 := fun h => (hl.2 _ (getD_mem h)).1.1
 refine pc_of rfl rfl ?_
 refine runE mixed fi42 ?_
 refine si_cntD (fun i => [(3, .raw (.int .i64 ((i : Nat) : Int)))]) (l.length) (fun j => (shAt l) j = true) (by first | decide | simp) (fun i => rfl) ?_ fun i hi hall => ?_
 · (with_reducible refine sxE ?_ <;> try exact True.intro)
   all_goals (try rfl)
 have hwr : IntKind.i64.wrap ((i : Int) + 1) = ((i + 1 : Nat) : Int) := wrap_succ (by omega)
 refine goE mixed ?_
 have bad : i < (l.length) → (shAt l) i = false → allN (l.length) (shAt l) = false := fun hlt hv => allN_false hlt hv
 have fin : ¬ i < (l.length) → allN (l.length) (shAt l) = true := fun h => allN_true fun j hj => hall j (by omega)
 try dsimp only at bad fin hall
 refine ⟨fun hlt => ⟨⟨by omega, hlt⟩, fun h1 => ⟨⟨by omega, hlt⟩, fun h2 => ?_, fun h2 => ?_⟩, fun h1 => ?_⟩, fun hge => ?_⟩
 · have hb := bad hlt (by unfold shAt; rw [decide_eq_false (show ¬ (((l.getD i PrinT.dflt).2.size : Int) ≤ 40) by omega)]; simp)
   unfold shB; rw [hb]; rfl
 · have hp := hok hlt
   refine si_cntD (fun k => [(3, .raw (.int .i64 ((i : Nat) : Int))), (4, .raw (.int .i64 ((k : Nat) : Int)))]) (List.length (l.getD i PrinT.dflt).1) (fun j => (p40 (l.getD i PrinT.dflt).1) j = true) (by first | decide | simp) (fun i => rfl) ?_ fun k hik hallk => ?_
   · (with_reducible refine sxE ?_ <;> try exact True.intro)
     all_goals (try rfl)
   have hwrk : IntKind.i64.wrap ((k : Int) + 1) = ((k + 1 : Nat) : Int) := wrap_succ (by omega)
   refine goE mixed ?_
   have badk : k < (List.length (l.getD i PrinT.dflt).1) → (p40 (l.getD i PrinT.dflt).1) k = false → allN (List.length (l.getD i PrinT.dflt).1) (p40 (l.getD i PrinT.dflt).1) = false := fun hlt hv => allN_false hlt hv
   have fink : ¬ k < (List.length (l.getD i PrinT.dflt).1) → allN (List.length (l.getD i PrinT.dflt).1) (p40 (l.getD i PrinT.dflt).1) = true := fun h => allN_true fun j hj => hallk j (by omega)
   try dsimp only at badk fink hallk
   refine ⟨⟨by omega, hlt⟩, fun hk => ⟨⟨by omega, hlt⟩, ⟨by omega, hk⟩, fun h3 => ?_, fun h3 => ?_⟩, fun hk => ?_⟩
   · have hb := bad hlt (by unfold shAt; rw [badk hk (decide_eq_false (by omega))]; simp)
     unfold shB; rw [hb]; rfl
   · refine ⟨hk, next_all hallk (decide_eq_true (by omega)), ⟨[], rfl⟩, ?_⟩
     with_reducible refine sx1 hwrk ?_; trivial
   · refine ⟨hlt, next_all hall ?_, ⟨[], rfl⟩, ?_⟩
     · unfold shAt; rw [fink hk, decide_eq_true (show (((l.getD i PrinT.dflt).2.size : Int) ≤ 40) by omega), decide_eq_true (show ((List.length (l.getD i PrinT.dflt).1 : Int) ≤ 6) by omega)]; rfl
     · with_reducible refine sx1 hwr ?_; trivial
 · have hb := bad hlt (by unfold shAt; rw [decide_eq_false (show ¬ ((List.length (l.getD i PrinT.dflt).1 : Int) ≤ 6) by omega)]; rfl)
   unfold shB; rw [hb]; rfl
 · unfold shB; rw [fin hge]; rfl
def h300 (l : List (List UInt8)) (j : Nat) : Bool := decide (((l.getD j (Ty.slice .u8).dflt).length : Int) ≤ 300)
def sAt (l : List KSet) (j : Nat) : Bool := smSet (l.getD j SetT.dflt)
def smB (e : Ent) : Bool := shB [e.1] && (shB e.2.1 && (shB e.2.2.2.2.2.2.2.2.2.2.2.2.2.1 && (shB e.2.2.2.2.2.2.2.2.2.2.2.2.2.2.1 && (decide ((e.2.2.2.2.1.length : Int) ≤ 20) && (decide ((e.2.2.2.2.2.2.2.2.2.2.2.2.2.2.2.length : Int) ≤ 20) && (decide ((e.2.2.2.2.2.1.size : Int) ≤ 300) &&
 (allN e.2.2.2.2.1.length (sAt e.2.2.2.2.1) && allN e.2.2.2.2.2.2.2.2.2.2.2.2.2.2.2.length (h300 e.2.2.2.2.2.2.2.2.2.2.2.2.2.2.2))))))))
theorem small_c (e : Ent) (ho : EntT.ok e) : PC Tryz.prog 10 [.agg (EntT.cells e)] (rB (smB e)) := by
 obtain ⟨e1, e2, e3, e4, e5, e6, e7, e8, e9, e10, e11, e12, e13, e14, e15, e16⟩ := e
 obtain ⟨o1, o2, _, _, o5, _, _, _, _, _, _, _, _, o14, o15, o16⟩ := ho
 have hl5 : List.length e5 ≤ 1125899906842624 := o5.1
 have hl16 : List.length e16 ≤ 1125899906842624 := o16.1
 have hok5 : ∀ {j}, j < List.length e5 → SetT.ok (List.getD e5 j SetT.dflt) := fun h => o5.2 _ (getD_mem h)
 have hd : smB (e1, e2, e3, e4, e5, e6, e7, e8, e9, e10, e11, e12, e13, e14, e15, e16) = (shB [e1] && (shB e2 && (shB e14 && (shB e15 && (decide ((List.length e5 : Int) ≤ 20) && (decide ((List.length e16 : Int) ≤ 20) && (decide ((e6.size : Int) ≤ 300) && (allN (List.length e5) (sAt e5) && allN (List.length e16) (h300 e16))))))))) := rfl
 rw [hd]
 clear hd
 have o1' : (Ty.slice PrinT).ok [e1] := ⟨by simp, fun x hx => by simp at hx; subst hx; exact o1⟩
 have hst : e1.2.size ≤ 140737488355328 := o1.2
 refine pc_of rfl rfl ?_
 refine runE mixed fi10 ?_
 refine ⟨hst, callI_hand 1 ?_⟩
 with_reducible refine sxE ?_
 refine callI_pure (short_c [e1] o1') ?_
 refine goE mixed ?_
 refine ⟨fun h => ?_, fun h => by rw [h]; rfl⟩
 rw [h]
 simp only [Bool.true_and]
 refine callI_pure (short_c e2 o2) ?_
 refine goE mixed ?_
 refine ⟨fun h => ?_, fun h => by rw [h]; rfl⟩
 rw [h]
 simp only [Bool.true_and]
 refine callI_pure (short_c e14 o14) ?_
 refine goE mixed ?_
 refine ⟨fun h => ?_, fun h => by rw [h]; rfl⟩
 rw [h]
 simp only [Bool.true_and]
 refine callI_pure (short_c e15 o15) ?_
 refine goE mixed ?_
 refine ⟨fun h => ?_, fun h => by rw [h]; rfl⟩
 rw [h]
 simp only [Bool.true_and]
 clear o1 o2 o5 o14 o15 o16 o1' hst h
 refine ⟨fun h1 => ⟨fun h2 => ⟨fun h3 => ?_, fun h3 => ?_⟩, fun h2 => ?_⟩, fun h1 => ?_⟩
 · rw [decide_eq_false (show ¬ ((e6.size : Int) ≤ 300) by omega)]; simp
 rotate_left
 · rw [decide_eq_false (show ¬ ((List.length e16 : Int) ≤ 20) by omega)]; simp
 · rw [decide_eq_false (show ¬ ((List.length e5 : Int) ≤ 20) by omega)]; rfl
 rw [decide_eq_true (show ((e6.size : Int) ≤ 300) by omega), decide_eq_true (show ((List.length e16 : Int) ≤ 20) by omega), decide_eq_true (show ((List.length e5 : Int) ≤ 20) by omega)]
 simp only [Bool.true_and]
 refine si_cntD (fun i => [(3, .raw (.int .i64 ((i : Nat) : Int)))]) (List.length e5) (fun j => (sAt e5) j = true) (by first | decide | simp) (fun i => rfl) ?_ fun i hi hall => ?_
 · (with_reducible refine sxE ?_ <;> try exact True.intro)
   all_goals (try rfl)
 have hwr : IntKind.i64.wrap ((i : Int) + 1) = ((i + 1 : Nat) : Int) := wrap_succ (by omega)
 refine goE mixed ?_
 have bad : i < (List.length e5) → (sAt e5) i = false → allN (List.length e5) (sAt e5) = false := fun hlt hv => allN_false hlt hv
 have fin : ¬ i < (List.length e5) → allN (List.length e5) (sAt e5) = true := fun h => allN_true fun j hj => hall j (by omega)
 try dsimp only at bad fin hall
 refine ⟨fun hlt => ⟨⟨by omega, hlt⟩, callI_pure (smallSet_c _ (hok5 hlt)) ?_⟩, fun hge => ?_⟩
 · refine goE mixed ?_
   refine ⟨fun h => ?_, fun h => ?_⟩
   · rw [bad hlt h]; rfl
   · refine ⟨hlt, next_all hall h, ⟨[], rfl⟩, ?_⟩
     with_reducible refine sx1 hwr ?_; trivial
 rw [fin hge]
 simp only [Bool.true_and]
 clear fin bad hall hwr
 refine si_cntD (fun i => [(4, .raw (.int .i64 ((i : Nat) : Int)))]) (List.length e16) (fun j => (h300 e16) j = true) (by first | decide | simp) (fun i => rfl) ?_ fun i hi hall => ?_
 · (with_reducible refine sxE ?_ <;> try exact True.intro)
   all_goals (try rfl)
 have hwr : IntKind.i64.wrap ((i : Int) + 1) = ((i + 1 : Nat) : Int) := wrap_succ (by omega)
 refine goE mixed ?_
 have bad : i < (List.length e16) → (h300 e16) i = false → allN (List.length e16) (h300 e16) = false := fun hlt hv => allN_false hlt hv
 have fin : ¬ i < (List.length e16) → allN (List.length e16) (h300 e16) = true := fun h => allN_true fun j hj => hall j (by omega)
 try dsimp only at bad fin hall
 refine ⟨fun hlt => ⟨⟨by omega, hlt⟩, fun h => ?_, fun h => ?_⟩, fun hge => ?_⟩
 · rw [bad hlt (decide_eq_false (by omega))]
 · refine ⟨hlt, next_all hall (decide_eq_true (by omega)), ⟨[], rfl⟩, ?_⟩
   with_reducible refine sx1 hwr ?_; trivial
 · rw [fin hge]
end Go.Proofs.YtddmkgibghohkaaGreatDoor
/- Plain: what is small can be copied. -/
namespace Go.Proofs.YtddmkgibghohkaaGreatDoor
open Go Go.Sx Go.Proofs

theorem allN_mem {α : Type} {l : List α} {d : α} {q : Nat → Bool} (h : allN l.length q = true) {x : α} (hx : x ∈ l) : ∃ j, l.getD j d = x ∧ q j = true := by
 obtain ⟨j, hj, rfl⟩ := List.getElem_of_mem hx
 exact ⟨j, by rw [List.getD_eq_getElem?_getD, List.getElem?_eq_getElem hj]; rfl, allN_iff.1 h j hj⟩
theorem shB_small {l : List Prin} (h : shB l = true) : l.length ≤ 1048576 ∧ ∀ p ∈ l, p.1.length ≤ 1048576 := by
 unfold shB at h
 simp only [Bool.and_eq_true, decide_eq_true_eq] at h
 refine ⟨by omega, fun p hp => ?_⟩
 obtain ⟨j, rfl, hj⟩ := allN_mem (d := PrinT.dflt) h.1 hp
 unfold shAt at hj
 simp only [Bool.and_eq_true, decide_eq_true_eq] at hj
 have := hj.1
 omega
theorem smSet_small {s : KSet} (h : smSet s = true) : s.2.1.length ≤ 1048576 ∧ ∀ k ∈ s.2.1, k.2.2.length ≤ 1048576 := by
 unfold smSet at h
 simp only [Bool.and_eq_true, decide_eq_true_eq] at h
 refine ⟨by omega, fun k hk => ?_⟩
 obtain ⟨j, rfl, hj⟩ := allN_mem (d := KeyT.dflt) h.1 hk
 unfold k300 at hj
 simp only [decide_eq_true_eq] at hj
 omega
theorem sm_small (e : Ent) (h : smB e = true) : small47 e := by
 unfold smB at h
 simp only [Bool.and_eq_true, decide_eq_true_eq] at h
 obtain ⟨h1, h2, h14, h15, h5, h16, _, hk, hh⟩ := h
 refine ⟨(shB_small h1).2 _ List.mem_cons_self, shB_small h2, ⟨by omega, fun s hs => ?_⟩, shB_small h14, shB_small h15, by omega, fun b hb => ?_⟩
 · obtain ⟨j, rfl, hj⟩ := allN_mem (d := SetT.dflt) hk hs
   exact smSet_small hj
 · obtain ⟨j, rfl, hj⟩ := allN_mem (d := (Ty.slice .u8).dflt) hh hb
   unfold h300 at hj
   simp only [decide_eq_true_eq] at hj
   omega
end Go.Proofs.YtddmkgibghohkaaGreatDoor
namespace Go.Sx
open Go

variable {P : Program} {AQ : Ex → List SV → List SObj → Prop} {k0 : Nat} {td : List IT} {t : List SV} {H : List SObj}

theorem call_inv {op : Op} {g : Operand} {xs : List Operand} (h : compOp P op = some (.call g xs)) : ∃ c, op = .call c ∧ c.callee = .value g ∧ c.args.toList = xs := by
 unfold compOp at h
 repeat' split at h
 all_goals first
  | contradiction
  | (cases h; exact ⟨_, rfl, by assumption, rfl⟩)
  | (simp only [Option.bind_eq_some_iff, Option.map_eq_some_iff, Option.some.injEq, reduceCtorEq, and_false, exists_false] at h; done)
  | (simp [Option.bind_eq_some_iff] at h; done)
theorem si_fresh {f : FuncId} {l : List OpI} {p d : Nat} {ty : Ty} {x : ty.den} (hok : ty.ok x) (hp : t[p]? = some (.agg (ty.cells x))) (hen : enters P f = true)
 (hfresh : ∀ (q : Nat → Prop) (w0 : World) (vs : List Value), ty.rel q w0 x vs → PCZ q w0 P f [.agg (rawL vs)] (.agg (ty.cells x))) (hns : noStopI td = true)
 (hk : ∀ (q : Nat → Prop) (w1 : World) (N : Nat) (vs : List Value), ty.rel q w1 x vs → (∀ b, q b → N ≤ b ∧ Unf w1 b) → @SoundI (frzN q w1 N) P AQ ⟨k0, .ops l :: td, putT t (some d) (.agg (rawL vs)), H⟩) :
 @SoundI noGhost P AQ ⟨k0, .ops (⟨some d, .call (.func f) [.tmp p], none⟩ :: l) :: td, t, H⟩ := @soundI_plain noGhost P AQ k0 t H _ (fun td' hr' => by
 obtain ⟨all, idx, r, rfl, ho, hrel⟩ := hr'
 cases idx with
 | nil => exact ho.elim
 | cons i idx =>
  obtain ⟨⟨o, ho1, ho2⟩, ho⟩ := ho
  obtain ⟨hc, hdst⟩ := compO_op ho2
  simp only at hc hdst
  obtain ⟨cl, hop, hcal, hargs⟩ := call_inv hc
  intro E rr n C a h0 hd
  simp only [wpT, wpOpsIn, ho1]
  rw [if_pos (wantedT_ok hd.tmps (by rw [(compO_wanted ho2).1 rfl]))]
  obtain ⟨v, hv, hdv⟩ := denL_get hd.tmps hp
  rw [SV.den] at hdv
  obtain ⟨ws, rfl, hws⟩ := hdv
  refine c2_call hop hcal (d := p) (Array.toList_inj.1 hargs) hen (by simpa using hv) (calls_fresh hd.wd hok (ty.cells_rel _ _ hok hws) hfresh) ?_
  rintro e w' ⟨q, vs, rfl, hrl, hq, g1, g2⟩
  refine ⟨_, rfl, ?_⟩
  rw [← hdst]
  have hsz := hd.ext.size
  have hz : ZInv q w' { C with w := w' } H := fun b hb => by
   obtain ⟨q1, q2, q3⟩ := hq b hb
   exact ⟨q2, fun hI => absurd (hd.wd.imm b hI) (Nat.not_lt.2 q1), fun hO => absurd (hd.wd.own b hO).2 (Nat.not_lt.2 q1), rfl⟩
  have hs := hk q w' E.C.w.heap.size vs hrl fun b hb => ⟨Nat.le_trans hsz (hq b hb).1, (hq b hb).2.2⟩
  have hd2 : @Den (frzN q w' E.C.w.heap.size) E { C with w := w' } (putT t (some d) (.agg (rawL vs))) H (a.put (some d) (.agg vs.toArray)) :=
   ⟨g1, hd.ext.trans g2, ⟨hd.defs.1, Nat.le_refl _, hz⟩, putT_den (denL_evo g2.evo hd.tmps) (some d) (by rw [SV.den]; exact ⟨vs, rfl, rawL_den vs⟩)⟩
  have h5 := @soundI_get (frzN q w' E.C.w.heap.size) P AQ k0 _ H _ (.ops all idx :: r) hs ⟨all, idx, r, rfl, ho, hrel⟩ E rr n _ _ h0 hd2
  have h6 := (@wpT_ghost P noGhost (frzN q w' E.C.w.heap.size) (Fw rr) n E E (@conc noGhost E AQ) (@conc (frzN q w' E.C.w.heap.size) E AQ)
   (fun ex a w hh => @conc_ghost AQ noGhost (frzN q w' E.C.w.heap.size) E (fun _ _ _ _ h => ⟨h.1, trivial⟩) ex a w hh) (.ops all idx :: r) (show noStop r = true from noStopI_rel (td := td) (r := r) hrel hns)).1 _ _ h5
  simp only [wpT] at h6
  exact h6) rfl
theorem callN {q : Nat → Prop} {w0 : World} {N : Nat} {f : FuncId} {args : List SV} {s : SV} {d : Option Tmp} {m : IM} (hp : PCZ q w0 P f args s) (h : @SoundI (frzN q w0 N) P AQ { m with tmps := putT m.tmps d s }) : @CallI (frzN q w0 N) P AQ f args d m := by
 refine ⟨hp.1, fun E C vs hw hg hv => ?_⟩
 refine (hp.2 m.heap (@opK (frzN q w0 N) P AQ m.k0 m.todo m.tmps d) h C vs hw hg.2 hv).mono ?_
 rintro e w' ⟨o, H', C', k, e1, w, x, r⟩
 exact ⟨o, H', C', k, e1, w, @Stp.of (frzN q w0 N) E C C' m.heap H' x, r⟩
end Go.Sx
/- The law on names. -/
namespace Go.Proofs.YtddmkgibghohkaaGreatDoor
open Go Go.Sx Go.Proofs
set_option maxRecDepth 100000
set_option maxHeartbeats 4000000
set_option linter.unusedSimpArgs false

theorem names_l (a : Ent) (many : Int) (ha : EntT.ok a) : PC Tryz.prog 5 [.agg (EntT.cells a), rI many] (rB true) := by
 refine pc_of rfl rfl ?_
 refine vc_fi fi5 ?_
 refine run_sound mixed 600 _ ?_
 with_reducible refine sxE ?_
 refine callI_pure (small_c a ha) ?_
 refine run_sound mixed 7 _ ?_
 with_reducible refine sxE ?_
 refine ⟨fun _ => callI_pure known_c ?_, fun h1 => ?_⟩
 · refine goE mixed ?_; trivial
 have hs := sm_small a h1
 refine si_fresh (x := a) (ty := EntT) ha rfl (by kernel_rfl) (fun q w0 vs hv => copy_z a hv ha hs) rfl fun q w1 N vs hv hq => ?_
 change EntT.rel q w1 a vs at hv
 have hnm := fun q w0 vs (hv : EntT.rel q w0 a vs) => names_z a hv ha hs
 obtain ⟨A1, c1, A2, c2, A5, c5, A14, c14, A15, c15, A16, c16, rfl, r1, s2, -, -, -, -⟩ := rel_ent hv
 letI : Ghost := frzN q w1 N
 refine run_sound mixed 600 _ ?_
 with_reducible refine sxE ?_
 have hse : sameE a a = true := (sameE_eq a a).2 rfl
 have hsame : PC Tryz.prog 17 [.agg (EntT.cells a), .agg (EntT.cells a)] (rB true) := by
  have := rsame_c a a ha
  rwa [hse] at this
 refine callN_lend hsame (lend_agg hv (lend_keep rfl lend_nil)) ?_
 refine run_sound mixed 600 _ ?_
 with_reducible refine sxE ?_
 refine callN (hnm q w1 _ hv) ?_
 refine run_sound mixed 6 _ ?_
 with_reducible refine sxE ?_
 refine si_litz (x := a.1) (us := [.slice A1 a.1.1.length c1, .string a.1.2]) rfl (by rfl) r1 hq rfl fun q' w' v htr hsl => ?_
 letI : Ghost := scrG q' w'
 replace s2 : Sl q' w' PrinT _ _ := htr (.slice PrinT) _ _ s2
 clear htr hq hv r1
 refine goE mixed ?_
 refine callS (spoil_s [a.1] hsl) ?_
 refine goE mixed ?_
 refine callS (spoil_s _ s2) ?_
 refine run_sound mixed 11 _ ?_
 with_reducible refine sxE ?_
 obtain ⟨h1', ⟨h2, h2'⟩, -⟩ := hs
 refine ⟨ha.1.2, ⟨by omega, by omega⟩, ?_⟩
 refine si_freeze 3 rfl rfl (by simp only [List.length_cons]; omega) ?_ ?_ ?_
 · with_reducible refine sxE ?_; trivial
 · with_reducible refine sxE ?_
   omega
 with_reducible refine sxE ?_
 have htk : List.take (1 + List.length a.2.1) ((a.1.1, a.1.2) :: a.2.1) = nmsE a := List.take_of_length_le (by simp only [List.length_cons]; omega)
 rw [htk]
 have hok : (Ty.slice PrinT).ok (nmsE a) := ⟨by simp only [nmsE, List.length_cons]; omega, fun x hx => by
  rcases List.mem_cons.1 hx with rfl | hx
  · exact ha.1
  · exact ha.2.1.2 x hx⟩
 have hx : ∀ p ∈ nmsE a, p.1.length ≤ 8796093022208 := fun x hx => by
  rcases List.mem_cons.1 hx with rfl | hx
  · omega
  · have := h2' x hx; omega
 refine run_sound mixed 600 _ ?_
 with_reducible refine sxE ?_
 refine callI_pure (over_c (nmsE a) many hok hx (by simp [nmsE])) ?_
 refine goE mixed ?_
 refine callI_pure (over_c (nmsE a) 99 hok hx (by simp [nmsE])) ?_
 refine goE mixed ?_
 refine callI_pure known_c ?_
 refine goE mixed ?_; trivial
end Go.Proofs.YtddmkgibghohkaaGreatDoor
