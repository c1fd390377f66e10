/- Contracts: the profiles. -/
import Derived.Test.YtddmkgibghohkaaGreatDoorP13
import Derived.WalkKit
import Derived.WalkSpells
import Derived.Deep.QuietTactic
import Derived.Lib.Hide
set_option linter.unusedSimpArgs false
set_option linter.unusedVariables false
namespace Go.Proofs.YtddmkgibghohkaaGreatDoor
open Go Go.Sx Go.Proofs
set_option maxRecDepth 100000
set_option maxHeartbeats 4000000
set_option linter.unusedSimpArgs false

@[go_sem] def fnV (f : Nat) : Value := .func (.func f) #[] #[]
def name1 : ByteArray := ⟨#[97, 101, 115, 49, 50, 56, 45, 99, 116, 115, 45, 104, 109, 97, 99, 45, 115, 104, 97, 50, 53, 54, 45, 49, 50, 56]⟩
def name2 : ByteArray := ⟨#[115, 116, 114, 101, 97, 109, 45, 104, 109, 97, 99, 45, 115, 104, 97, 50, 53, 54, 45, 50, 53, 54]⟩
/-- The profiles. -/
def kind1 : List Value := [.string name1, .int .i64 16, .int .i64 16, .int .i64 16, .int .i64 16, fnV 239, fnV 240, fnV 241]
def kind2 : List Value := [.string name2, .int .i64 32, .int .i64 16, .int .i64 32, .int .i64 32, fnV 242, fnV 243, fnV 244]
abbrev kindsM : SV := .imap (some .i64) [.int .i64 1, .int .i64 2] [.agg kind1.toArray, .agg kind2.toArray]

theorem kinds_c : PC Tryz.prog 192 [] kindsM := by
  refine pc_of rfl rfl (vc_frzM ?_)
  refine vc_fi fi192 (run_sound mixed 600 _ ?_)
  simp (maxSteps := 3000000) only [ir192, go_sem, ↓bothG_tt, ↓bothG_tf, ↓bothG_ft, ↓bothG_ff, ↓reduceIte, ↓reduceDIte, reduceCtorEq, Nat.reduceAdd, Nat.reduceSub, Nat.reduceLeDiff, Nat.reduceLT, Nat.reduceEqDiff, Nat.reduceBEq, Nat.reduceMul, Int.reduceToNat, Int.reduceEq, Int.reduceLT, Int.reduceLE] <;> try simp only [bothG_t, bothG_f, decide_eq_true_eq, decide_eq_false_iff_not, Bool.not_eq_true', Bool.not_eq_false', Int.ofNat_lt, Int.ofNat_le]
  exact ⟨_, _, _, [], rfl, rfl⟩

def keyLen (p : Int) : Int := if p = 1 then 16 else if p = 2 then 32 else 0
theorem keyLen_c (p : Int) : PC Tryz.prog 113 [rI p] (rI (keyLen p)) := by
  refine pc_of rfl rfl ?_
  refine vc_fi fi113 (run_sound mixed 600 _ ?_)
  simp (maxSteps := 3000000) only [ir113, go_sem, ↓bothG_tt, ↓bothG_tf, ↓bothG_ft, ↓bothG_ff, ↓reduceIte, ↓reduceDIte, reduceCtorEq, Nat.reduceAdd, Nat.reduceSub, Nat.reduceLeDiff, Nat.reduceLT, Nat.reduceEqDiff, Nat.reduceBEq, Nat.reduceMul, Int.reduceToNat, Int.reduceEq, Int.reduceLT, Int.reduceLE] <;> try simp only [bothG_t, bothG_f, decide_eq_true_eq, decide_eq_false_iff_not, Bool.not_eq_true', Bool.not_eq_false', Int.ofNat_lt, Int.ofNat_le]
  refine callI_pure kinds_c ?_
  by_cases h1 : p = 1
  · subst h1
    refine run_sound mixed 600 _ ?_
    simp (maxSteps := 3000000) only [kind1, keyLen, go_sem, ↓bothG_tt, ↓bothG_tf, ↓bothG_ft, ↓bothG_ff, ↓reduceIte, ↓reduceDIte, reduceCtorEq, Nat.reduceAdd, Nat.reduceSub, Nat.reduceLeDiff, Nat.reduceLT, Nat.reduceEqDiff, Nat.reduceBEq, Nat.reduceMul, Int.reduceToNat, Int.reduceEq, Int.reduceLT, Int.reduceLE] <;> try simp only [bothG_t, bothG_f, decide_eq_true_eq, decide_eq_false_iff_not, Bool.not_eq_true', Bool.not_eq_false', Int.ofNat_lt, Int.ofNat_le]
  by_cases h2 : p = 2
  · subst h2
    refine run_sound mixed 600 _ ?_
    simp (maxSteps := 3000000) only [kind2, keyLen, go_sem, ↓bothG_tt, ↓bothG_tf, ↓bothG_ft, ↓bothG_ff, ↓reduceIte, ↓reduceDIte, reduceCtorEq, Nat.reduceAdd, Nat.reduceSub, Nat.reduceLeDiff, Nat.reduceLT, Nat.reduceEqDiff, Nat.reduceBEq, Nat.reduceMul, Int.reduceToNat, Int.reduceEq, Int.reduceLT, Int.reduceLE] <;> try simp only [bothG_t, bothG_f, decide_eq_true_eq, decide_eq_false_iff_not, Bool.not_eq_true', Bool.not_eq_false', Int.ofNat_lt, Int.ofNat_le]
  · refine run_sound mixed 600 _ ?_
    simp (maxSteps := 3000000) only [h1, h2, keyLen, go_sem, ↓bothG_tt, ↓bothG_tf, ↓bothG_ft, ↓bothG_ff, ↓reduceIte, ↓reduceDIte, reduceCtorEq, Nat.reduceAdd, Nat.reduceSub, Nat.reduceLeDiff, Nat.reduceLT, Nat.reduceEqDiff, Nat.reduceBEq, Nat.reduceMul, Int.reduceToNat, Int.reduceEq, Int.reduceLT, Int.reduceLE] <;> try simp only [bothG_t, bothG_f, decide_eq_true_eq, decide_eq_false_iff_not, Bool.not_eq_true', Bool.not_eq_false', Int.ofNat_lt, Int.ofNat_le]
def kindZ : List Value := [.string ⟨#[]⟩, .int .i64 0, .int .i64 0, .int .i64 0, .int .i64 0, .nilFunc, .nilFunc, .nilFunc]
def kindOf (p : Int) : List Value := if p = 1 then kind1 else if p = 2 then kind2 else kindZ
def vKey (k : Key) : Bool := decide (keyLen k.1 ≠ 0) && (decide ((k.2.2.length : Int) = keyLen k.1) && (decide (0 ≤ k.2.1) && decide (k.2.1 ≤ 65535)))
theorem find_c (k : Key) : PC Tryz.prog 193 [.agg (KeyT.cells k)] (.tup [.agg (rawL (kindOf k.1)), rB (vKey k)]) := by
  obtain ⟨p, v, b⟩ := k
  refine pc_of rfl (by simp [SV.clean, SV.cleanL, cleanL_rawL]) ?_
  refine vc_fi fi193 (run_sound mixed 600 _ ?_)
  simp (maxSteps := 3000000) only [ir193, go_sem, ↓bothG_tt, ↓bothG_tf, ↓bothG_ft, ↓bothG_ff, ↓reduceIte, ↓reduceDIte, reduceCtorEq, Nat.reduceAdd, Nat.reduceSub, Nat.reduceLeDiff, Nat.reduceLT, Nat.reduceEqDiff, Nat.reduceBEq, Nat.reduceMul, Int.reduceToNat, Int.reduceEq, Int.reduceLT, Int.reduceLE] <;> try simp only [bothG_t, bothG_f, decide_eq_true_eq, decide_eq_false_iff_not, Bool.not_eq_true', Bool.not_eq_false', Int.ofNat_lt, Int.ofNat_le]
  refine callF_pure kinds_c ?_
  by_cases h1 : p = 1
  · subst h1
    refine run_sound mixed 600 _ ?_
    simp (maxSteps := 3000000) only [kind1, kindOf, vKey, keyLen, go_sem, ↓bothG_tt, ↓bothG_tf, ↓bothG_ft, ↓bothG_ff, ↓reduceIte, ↓reduceDIte, reduceCtorEq, Nat.reduceAdd, Nat.reduceSub, Nat.reduceLeDiff, Nat.reduceLT, Nat.reduceEqDiff, Nat.reduceBEq, Nat.reduceMul, Int.reduceToNat, Int.reduceEq, Int.reduceLT, Int.reduceLE] <;> try simp only [bothG_t, bothG_f, decide_eq_true_eq, decide_eq_false_iff_not, Bool.not_eq_true', Bool.not_eq_false', Int.ofNat_lt, Int.ofNat_le]
    grind
  by_cases h2 : p = 2
  · subst h2
    refine run_sound mixed 600 _ ?_
    simp (maxSteps := 3000000) only [kind2, kindOf, vKey, keyLen, go_sem, ↓bothG_tt, ↓bothG_tf, ↓bothG_ft, ↓bothG_ff, ↓reduceIte, ↓reduceDIte, reduceCtorEq, Nat.reduceAdd, Nat.reduceSub, Nat.reduceLeDiff, Nat.reduceLT, Nat.reduceEqDiff, Nat.reduceBEq, Nat.reduceMul, Int.reduceToNat, Int.reduceEq, Int.reduceLT, Int.reduceLE] <;> try simp only [bothG_t, bothG_f, decide_eq_true_eq, decide_eq_false_iff_not, Bool.not_eq_true', Bool.not_eq_false', Int.ofNat_lt, Int.ofNat_le]
    grind
  · refine run_sound mixed 600 _ ?_
    simp (maxSteps := 3000000) only [h1, h2, kindOf, kindZ, vKey, keyLen, go_sem, ↓bothG_tt, ↓bothG_tf, ↓bothG_ft, ↓bothG_ff, ↓reduceIte, ↓reduceDIte, reduceCtorEq, Nat.reduceAdd, Nat.reduceSub, Nat.reduceLeDiff, Nat.reduceLT, Nat.reduceEqDiff, Nat.reduceBEq, Nat.reduceMul, Int.reduceToNat, Int.reduceEq, Int.reduceLT, Int.reduceLE] <;> try simp only [bothG_t, bothG_f, decide_eq_true_eq, decide_eq_false_iff_not, Bool.not_eq_true', Bool.not_eq_false', Int.ofNat_lt, Int.ofNat_le]
    grind
end Go.Proofs.YtddmkgibghohkaaGreatDoor
/-
  A world that has grown: 'w.more u' keeps every block of w; regions that draw their order, walked in one order; for whatever program.
-/
namespace Go
open Go.RowKit

/-- Every block of w is as it was; new blocks may have come. -/
def Gr (w w' : World) : Prop := Below w.heap.size w w'

theorem Gr.refl (w : World) : Gr w w := Below.refl _ _
theorem Gr.trans {a b c : World} (h : Gr a b) (k : Gr b c) : Gr a c := Below.trans h (Below.mono k h.size)
theorem Gr.size {a b : World} (h : Gr a b) : a.heap.size ≤ b.heap.size := Below.size h
theorem Gr.cell {a b : World} (h : Gr a b) {p : Addr} (hp : p.block < a.heap.size) : b.cell? p = a.cell? p := Below.cell h hp
theorem Gr.frozen {a b : World} (h : Gr a b) {p : Addr} (hp : p.block < a.heap.size) : b.frozen? p = a.frozen? p := Below.frozen h hp
theorem Gr.block {a b : World} (h : Gr a b) {k : Nat} (hk : k < a.heap.size) : b.heap[k]? = a.heap[k]? := Below.block h k hk
theorem Gr.alloc (w : World) (o : Obj) : Gr w (w.alloc o) := (Below.refl _ _).alloc (Nat.le_refl _) _
theorem Gr.drew (w : World) : Gr w w.drew := (Below.refl _ _).drew
theorem Gr.drewN (w : World) (n : Nat) : Gr w (w.drewN n) := ⟨rfl, rfl, rfl, Nat.le_refl _, fun _ _ => rfl⟩

open Classical in
/-- w, grown to u (if u is a growth of w at all). -/
noncomputable def World.more (w u : World) : World := if Gr w u then u else w

section
variable {w u v : World}
theorem World.more_gr (w u : World) : Gr w (w.more u) := by
  unfold World.more
  split
  · assumption
  · exact Gr.refl w
theorem World.more_eq (h : Gr w u) : w.more u = u := by unfold World.more; rw [if_pos h]
theorem World.more_self (w : World) : w.more w = w := World.more_eq (Gr.refl w)
/-- Whatever has grown is 'more'. -/
theorem Gr.more (h : Gr w u) : ∃ x, u = w.more x := ⟨u, (World.more_eq h).symm⟩
theorem gr_of_more (h : ∃ x, u = w.more x) : Gr w u := by obtain ⟨x, rfl⟩ := h; exact World.more_gr _ _
theorem World.more_more (w u v : World) : ∃ x, (w.more u).more v = w.more x := ((World.more_gr w u).trans (World.more_gr _ v)).more
theorem World.size_more (w u : World) : w.heap.size ≤ (w.more u).heap.size := (World.more_gr w u).size
@[go_sem] theorem World.cell?_more (w u : World) (a : Addr) (h : a.block < w.heap.size) : (w.more u).cell? a = w.cell? a := (World.more_gr w u).cell h
@[go_sem] theorem World.frozen?_more (w u : World) (a : Addr) (h : a.block < w.heap.size) : (w.more u).frozen? a = w.frozen? a := (World.more_gr w u).frozen h
theorem World.block_more (w u : World) (k : Nat) (h : k < w.heap.size) : (w.more u).heap[k]? = w.heap[k]? := (World.more_gr w u).block h
end

/-! For the walk's simp: a block that lay there lies there. -/
@[go_sem] theorem World.cell?_more_a1 (w u : World) (o1 : Obj) (b i : Nat) (h : b < w.heap.size) : ((w.alloc o1).more u).cell? ⟨b, i, none⟩ = w.cell? ⟨b, i, none⟩ := by
  rw [World.cell?_more _ u ⟨b, i, none⟩ (by simp; omega)]
  rw [World.cell?_alloc_past _ _ _ h]
@[go_sem] theorem World.frozen?_more_a1 (w u : World) (o1 : Obj) (b i : Nat) (h : b < w.heap.size) : ((w.alloc o1).more u).frozen? ⟨b, i, none⟩ = w.frozen? ⟨b, i, none⟩ := by
  rw [World.frozen?_more _ u ⟨b, i, none⟩ (by simp; omega)]
  rw [World.frozen?_alloc_past _ _ _ h]
@[go_sem] theorem World.cell?_more_a2 (w u : World) (o1 o2 : Obj) (b i : Nat) (h : b < w.heap.size) : (((w.alloc o1).alloc o2).more u).cell? ⟨b, i, none⟩ = w.cell? ⟨b, i, none⟩ := by
  rw [World.cell?_more _ u ⟨b, i, none⟩ (by simp; omega)]
  rw [World.cell?_alloc_past _ _ _ (by simp; omega), World.cell?_alloc_past _ _ _ h]
@[go_sem] theorem World.frozen?_more_a2 (w u : World) (o1 o2 : Obj) (b i : Nat) (h : b < w.heap.size) : (((w.alloc o1).alloc o2).more u).frozen? ⟨b, i, none⟩ = w.frozen? ⟨b, i, none⟩ := by
  rw [World.frozen?_more _ u ⟨b, i, none⟩ (by simp; omega)]
  rw [World.frozen?_alloc_past _ _ _ (by simp; omega), World.frozen?_alloc_past _ _ _ h]
@[go_sem] theorem World.cell?_more_a3 (w u : World) (o1 o2 o3 : Obj) (b i : Nat) (h : b < w.heap.size) : ((((w.alloc o1).alloc o2).alloc o3).more u).cell? ⟨b, i, none⟩ = w.cell? ⟨b, i, none⟩ := by
  rw [World.cell?_more _ u ⟨b, i, none⟩ (by simp; omega)]
  rw [World.cell?_alloc_past _ _ _ (by simp; omega), World.cell?_alloc_past _ _ _ (by simp; omega), World.cell?_alloc_past _ _ _ h]
@[go_sem] theorem World.frozen?_more_a3 (w u : World) (o1 o2 o3 : Obj) (b i : Nat) (h : b < w.heap.size) : ((((w.alloc o1).alloc o2).alloc o3).more u).frozen? ⟨b, i, none⟩ = w.frozen? ⟨b, i, none⟩ := by
  rw [World.frozen?_more _ u ⟨b, i, none⟩ (by simp; omega)]
  rw [World.frozen?_alloc_past _ _ _ (by simp; omega), World.frozen?_alloc_past _ _ _ (by simp; omega), World.frozen?_alloc_past _ _ _ h]
@[go_sem] theorem World.cell?_more_a4 (w u : World) (o1 o2 o3 o4 : Obj) (b i : Nat) (h : b < w.heap.size) : (((((w.alloc o1).alloc o2).alloc o3).alloc o4).more u).cell? ⟨b, i, none⟩ = w.cell? ⟨b, i, none⟩ := by
  rw [World.cell?_more _ u ⟨b, i, none⟩ (by simp; omega)]
  rw [World.cell?_alloc_past _ _ _ (by simp; omega), World.cell?_alloc_past _ _ _ (by simp; omega), World.cell?_alloc_past _ _ _ (by simp; omega), World.cell?_alloc_past _ _ _ h]
@[go_sem] theorem World.frozen?_more_a4 (w u : World) (o1 o2 o3 o4 : Obj) (b i : Nat) (h : b < w.heap.size) : (((((w.alloc o1).alloc o2).alloc o3).alloc o4).more u).frozen? ⟨b, i, none⟩ = w.frozen? ⟨b, i, none⟩ := by
  rw [World.frozen?_more _ u ⟨b, i, none⟩ (by simp; omega)]
  rw [World.frozen?_alloc_past _ _ _ (by simp; omega), World.frozen?_alloc_past _ _ _ (by simp; omega), World.frozen?_alloc_past _ _ _ (by simp; omega), World.frozen?_alloc_past _ _ _ h]
@[go_sem] theorem World.cell?_more_a5 (w u : World) (o1 o2 o3 o4 o5 : Obj) (b i : Nat) (h : b < w.heap.size) : ((((((w.alloc o1).alloc o2).alloc o3).alloc o4).alloc o5).more u).cell? ⟨b, i, none⟩ = w.cell? ⟨b, i, none⟩ := by
  rw [World.cell?_more _ u ⟨b, i, none⟩ (by simp; omega)]
  rw [World.cell?_alloc_past _ _ _ (by simp; omega), World.cell?_alloc_past _ _ _ (by simp; omega), World.cell?_alloc_past _ _ _ (by simp; omega), World.cell?_alloc_past _ _ _ (by simp; omega), World.cell?_alloc_past _ _ _ h]
@[go_sem] theorem World.frozen?_more_a5 (w u : World) (o1 o2 o3 o4 o5 : Obj) (b i : Nat) (h : b < w.heap.size) : ((((((w.alloc o1).alloc o2).alloc o3).alloc o4).alloc o5).more u).frozen? ⟨b, i, none⟩ = w.frozen? ⟨b, i, none⟩ := by
  rw [World.frozen?_more _ u ⟨b, i, none⟩ (by simp; omega)]
  rw [World.frozen?_alloc_past _ _ _ (by simp; omega), World.frozen?_alloc_past _ _ _ (by simp; omega), World.frozen?_alloc_past _ _ _ (by simp; omega), World.frozen?_alloc_past _ _ _ (by simp; omega), World.frozen?_alloc_past _ _ _ h]
@[go_sem] theorem World.cell?_more_a6 (w u : World) (o1 o2 o3 o4 o5 o6 : Obj) (b i : Nat) (h : b < w.heap.size) : (((((((w.alloc o1).alloc o2).alloc o3).alloc o4).alloc o5).alloc o6).more u).cell? ⟨b, i, none⟩ = w.cell? ⟨b, i, none⟩ := by
  rw [World.cell?_more _ u ⟨b, i, none⟩ (by simp; omega)]
  rw [World.cell?_alloc_past _ _ _ (by simp; omega), World.cell?_alloc_past _ _ _ (by simp; omega), World.cell?_alloc_past _ _ _ (by simp; omega), World.cell?_alloc_past _ _ _ (by simp; omega), World.cell?_alloc_past _ _ _ (by simp; omega), World.cell?_alloc_past _ _ _ h]
@[go_sem] theorem World.frozen?_more_a6 (w u : World) (o1 o2 o3 o4 o5 o6 : Obj) (b i : Nat) (h : b < w.heap.size) : (((((((w.alloc o1).alloc o2).alloc o3).alloc o4).alloc o5).alloc o6).more u).frozen? ⟨b, i, none⟩ = w.frozen? ⟨b, i, none⟩ := by
  rw [World.frozen?_more _ u ⟨b, i, none⟩ (by simp; omega)]
  rw [World.frozen?_alloc_past _ _ _ (by simp; omega), World.frozen?_alloc_past _ _ _ (by simp; omega), World.frozen?_alloc_past _ _ _ (by simp; omega), World.frozen?_alloc_past _ _ _ (by simp; omega), World.frozen?_alloc_past _ _ _ (by simp; omega), World.frozen?_alloc_past _ _ _ h]
@[go_sem] theorem nat_lt_size_more {a : Nat} (w u : World) (h : a < w.heap.size) : (a < (w.more u).heap.size) = True := eq_true (Nat.lt_of_lt_of_le h (World.size_more w u))

/-- A callee's contract, met in a world that has grown. -/
theorem Calls.more_of {P : Program} {f : FuncId} {args : Array Value} {w u : World} {v : Value}
    (h : Calls P f args (w.more u) fun e w' => e = .returned v ∧ Gr (w.more u) w') : Calls P f args (w.more u) fun e w'' => e = .returned v ∧ ∃ m, w'' = w.more m :=
  h.mono fun _ _ ⟨he, hg⟩ => ⟨he, ((World.more_gr w u).trans hg).more⟩

/-- Quiet regions at the class 'w, grown'. -/
theorem wp_region_more_lit {P : Program} {id : Nat} {Q : Exit → Act → World → Prop} {a : Act} {w : World} {l : List Oper} (hm : P.follows .mixedOrders = true) (hB : Region.lexB .any l.toArray = true)
    (h : wpQuiet P l.toArray (fun w' => ∃ u, w' = w.more u) (fun a' => ∀ w', (∃ u, w' = w.more u) → Q .normal a' w') l a) : (Code.region id l.toArray true).wp P Q a w :=
  wp_region_quiet (C := fun w' => ∃ u, w' = w.more u) hm hB ((Gr.drew w).more) (by simpa using h)

/-- The same where the world has grown already. -/
theorem wp_region_grown {P : Program} {id : Nat} {Q : Exit → Act → World → Prop} {a : Act} {W u : World} {l : List Oper} (hm : P.follows .mixedOrders = true) (hB : Region.lexB .any l.toArray = true)
    (h : wpQuiet P l.toArray (fun w' => ∃ u, w' = W.more u) (fun a' => ∀ w', (∃ u, w' = W.more u) → Q .normal a' w') l a) : (Code.region id l.toArray true).wp P Q a (W.more u) :=
  wp_region_quiet (C := fun w' => ∃ u, w' = W.more u) hm hB (((World.more_gr W u).trans (Gr.drew _)).more) (by simpa using h)

/-! A region that draws its order, walked in ONE order: operations that float (they leave the world alone and yield the same in every world of the class) and operations that stand in a row. -/

def stillUpon (w : World) (v : Value) : Result Next → Prop
  | .ok (.value u) w' => w' = w ∧ u = v
  | .ok .skip w' => w' = w ∧ v = undef
  | _ => False
attribute [go_sem] stillUpon

section
variable {P : Program} {ops : Array Oper} {Q : Exit → Act → World → Prop} {md : Region.Mode} {C : World → Prop}

def YieldsC (P : Program) (ops : Array Oper) (C : World → Prop) (o : Oper) (v : Value) (a : Act) : Prop :=
  (Region.wanted o (yielded ops a.tmps) = true ∧ ∀ w, C w → stillUpon w v ((execOp a.eval o).run P w)) ∨
  (Region.wanted o (yielded ops a.tmps) = false ∧ v = undef)

theorem YieldsC.wpOp {i : Nat} {o : Oper} {v : Value} {a : Act} (hi : ops[i]? = some o) (hy : YieldsC P ops C o v a)
    {K : Act → World → Prop} {w : World} (hC : C w) (h : K (a.put o.dst v) w) : Go.wpOp P ops Q i K a w := by
  unfold Go.wpOp
  simp only [hi]
  rcases hy with ⟨hw, hv⟩ | ⟨hw, rfl⟩
  · simp only [hw, if_true, Oper.wp]
    left
    have h1 := hv w hC
    generalize (execOp a.eval o).run P w = r at *
    cases r with
    | ok n w' => cases n <;> simp only [stillUpon] at h1 <;> first | (obtain ⟨rfl, rfl⟩ := h1; exact h) | exact h1.elim
    | halt x w' => exact (h1 : False).elim
  · simp only [hw, Bool.false_eq_true, if_false]; exact h

theorem YieldsC.of_same {o : Oper} {v : Value} {a a' : Act} (hy : YieldsC P ops C o v a) (he : execOp a'.eval o = execOp a.eval o)
    (hw : Region.wanted o (yielded ops a'.tmps) = Region.wanted o (yielded ops a.tmps)) : YieldsC P ops C o v a' := by
  unfold YieldsC at *
  rw [he, hw]
  exact hy

theorem wpOp_putC {j : Nat} {oi oj : Oper} {v : Value} (hj : ops[j]? = some oj) (hap : oi.apart ops oj = true)
    (hsi : ∀ cs b, oi.op ≠ .select cs b) (hsj : ∀ cs b, oj.op ≠ .select cs b)
    (hQ : ∀ c a w, Q (.panic c) (a.put oi.dst v) w → Q (.panic c) a w) {K : Act → World → Prop} {a : Act} {w : World}
    (hy : YieldsC P ops C oi v a) (h : wpOp P ops Q j K (a.put oi.dst v) w) :
    wpOp P ops Q j (fun a' w' => YieldsC P ops C oi v a' ∧ K (a'.put oi.dst v) w') a w := by
  obtain ⟨h1, h2, h3⟩ := Oper.apart_spec hap
  have keep : ∀ (a : Act), YieldsC P ops C oi v a → ∀ u, YieldsC P ops C oi v (a.put oj.dst u) := fun a hy u =>
    hy.of_same (execOp_put oi hsi a oj.dst u h3) (wanted_put oi a oj.dst u h3)
  have keepD : ∀ d, YieldsC P ops C oi v { a with defers := d :: a.defers } := fun d => hy.of_same rfl rfl
  unfold wpOp at *
  simp only [hj] at *
  rw [wanted_put oj a oi.dst v h1] at h
  split
  · rename_i hw
    simp only [hw, if_true] at h
    rcases h with h | ⟨hasks, hlets⟩
    case inr => exact .inr ⟨by unfold Oper.asks at *; rw [execOp_put oj hsj a oi.dst v h1] at hasks; exact hasks, hlets⟩
    refine .inl ?_
    unfold Oper.wp at *
    rw [execOp_put oj hsj a oi.dst v h1] at h
    generalize (execOp a.eval oj).run P w = r at *
    cases r with
    | ok n w' =>
      cases n <;> simp only [Oper.upon] at h ⊢
      case value u => exact ⟨keep a hy u, by rw [← Act.put_comm a v u h2]; exact h⟩
      case skip => exact ⟨keep a hy _, by rw [← Act.put_comm a v undef h2]; exact h⟩
      case defer d =>
        refine ⟨keep _ (keepD d) _, ?_⟩
        rw [← Act.put_comm _ v undef h2, ← Act.put_defers]
        exact h
      case enter f args =>
        refine Calls.mono h fun e w'' he => ?_
        cases e with
        | returned u => exact ⟨keep a hy u, by rw [← Act.put_comm a v u h2]; exact he⟩
        | panicked c => exact hQ _ _ _ he
        | outgrown => exact he
      case row row args => exact Rows.mono h fun u w'' he => ⟨keep a hy u, by rw [← Act.put_comm a v u h2]; exact he⟩
    | halt x w' =>
      cases x <;> simp only [Oper.upon] at h ⊢
      case panic u => exact hQ _ _ _ h
  · rename_i hw
    simp only [hw] at h
    exact ⟨keep a hy _, by rw [← Act.put_comm a v undef h2]; exact h⟩

/-- All orders, the world kept in the class between two operations. -/
def wpAnyC (P : Program) (md : Region.Mode) (ops : Array Oper) (Q : Exit → Act → World → Prop) (C : World → Prop) : Nat → Array Bool → Act → World → Prop
  | 0, listed, a, w => Region.ready md ops listed = [] ∧ Q .normal a w
  | fuel + 1, listed, a, w =>
    (Region.ready md ops listed = [] → Q .normal a w) ∧
    ∀ i ∈ Region.ready md ops listed, wpOp P ops Q i (fun a' w' => C w' ∧ wpAnyC P md ops Q C fuel (listed.setIfInBounds i true) a' w') a w

theorem wpAny_of_C : ∀ (fuel : Nat) (listed : Array Bool) (a : Act) (w : World), wpAnyC P md ops Q C fuel listed a w → wpAny P md ops Q fuel listed a w
  | 0, _, _, _, h => h
  | fuel + 1, _, _, _, h => ⟨h.1, fun i hi => wpOp_mono (fun a' w' h' => wpAny_of_C fuel _ a' w' h'.2) (h.2 i hi)⟩

theorem wpAnyC_first {i : Nat} {oi : Oper} {v : Value} (hi : ops[i]? = some oi) (hsel : ∀ (j : Nat) (o : Oper) cs b, ops[j]? = some o → o.op ≠ .select cs b)
    (hQ : ∀ c a w, Q (.panic c) (a.put oi.dst v) w → Q (.panic c) a w) :
    ∀ (fuel : Nat) (listed : Array Bool) (a : Act) (w : World), C w →
      (∀ j oj, ops[j]? = some oj → j ≠ i → listed.getD j true = false → (∀ e ∈ oj.after, Region.binds md e = true → e.on ≠ i) → oi.apart ops oj = true) →
      i ∈ Region.ready md ops listed → YieldsC P ops C oi v a →
      wpAnyC P md ops Q C fuel (listed.setIfInBounds i true) (a.put oi.dst v) w → wpAnyC P md ops Q C (fuel + 1) listed a w := by
  intro fuel
  induction fuel with
  | zero =>
    intro listed a w hC _ hr hy H
    refine ⟨fun h => (by rw [h] at hr; cases hr), fun j hj => ?_⟩
    by_cases hji : j = i
    · subst hji; exact hy.wpOp hi hC ⟨hC, H⟩
    · have := ready_mono hj hji
      rw [H.1] at this
      cases this
  | succ fuel ih =>
    intro listed a w hC hfree hr hy H
    refine ⟨fun h => (by rw [h] at hr; cases hr), fun j hj => ?_⟩
    by_cases hji : j = i
    · subst hji; exact hy.wpOp hi hC ⟨hC, H⟩
    · have h1 := H.2 j (ready_mono hj hji)
      obtain ⟨hjun, oj, hoj, hall⟩ := mem_ready.1 hj
      have hnot : ∀ e ∈ oj.after, Region.binds md e = true → e.on ≠ i := fun e he hb heq => by
        have h1 := hall e he hb
        have h0 := (mem_ready.1 hr).1
        rw [heq] at h1
        rcases Nat.lt_or_ge i listed.size with h' | h'
        · simp [h'] at h0 h1; rw [h0] at h1; cases h1
        · simp [Array.getElem?_eq_none h'] at h1
      have h2 := wpOp_putC hoj (hfree j oj hoj hji hjun hnot) (fun cs b => hsel i oi cs b hi) (fun cs b => hsel j oj cs b hoj) hQ hy h1
      have hfree' : ∀ k ok, ops[k]? = some ok → k ≠ i → (listed.setIfInBounds j true).getD k true = false →
          (∀ e ∈ ok.after, Region.binds md e = true → e.on ≠ i) → oi.apart ops ok = true := fun k ok hk hki hun hno => by
        refine hfree k ok hk hki ?_ hno
        by_cases hjk : j = k
        · subst hjk; exact hjun
        · rw [getD_set_ne true hjk] at hun; exact hun
      refine wpOp_mono (fun a' w' h3 => ⟨h3.2.1, ih (listed.setIfInBounds j true) a' w' h3.2.1 hfree' (ready_mono hr (Ne.symm hji)) h3.1 ?_⟩) h2
      rw [Array.setIfInBounds_comm _ _ hji]
      exact h3.2.2

/-- The walk in one order: 'true': the operation floats; 'false': it is the only one that may come. -/
def wpOrd (P : Program) (ops : Array Oper) (C : World → Prop) (Q : Exit → Act → World → Prop) : List (Nat × Bool) → Act → World → Prop
  | [], a, w => Q .normal a w
  | (i, fl) :: rest, a, w =>
    match ops[i]? with
    | none => False
    | some o =>
      if Region.wanted o (yielded ops a.tmps) then
        (if fl then ∃ v, (∀ w', C w' → stillUpon w' v ((execOp a.eval o).run P w')) ∧ wpOrd P ops C Q rest (a.put o.dst v) w
         else o.wp P a w (fun a' w' => C w' ∧ wpOrd P ops C Q rest a' w') Q)
      else wpOrd P ops C Q rest (a.put o.dst undef) w

def ordOk (md : Region.Mode) (ops : Array Oper) : List (Nat × Bool) → Array Bool → Bool
  | [], listed => (Region.ready md ops listed).isEmpty
  | (i, fl) :: rest, listed =>
    (if fl then (Region.ready md ops listed).contains i && Region.free md ops listed i else Region.ready md ops listed == [i]) && ordOk md ops rest (listed.setIfInBounds i true)

theorem wpAnyC_of_ord (hs : Region.noSelect ops = true) (hQ : ∀ c a w, ¬ Q (.panic c) a w) : ∀ (π : List (Nat × Bool)) (listed : Array Bool) (a : Act) (w : World), C w →
    ordOk md ops π listed = true → wpOrd P ops C Q π a w → wpAnyC P md ops Q C π.length listed a w
  | [], _, _, _, _, hok, h => by
    simp only [ordOk, List.isEmpty_iff] at hok
    exact ⟨hok, h⟩
  | (i, true) :: rest, listed, a, w, hC, hok, h => by
    simp only [ordOk, if_true, Bool.and_eq_true] at hok
    obtain ⟨⟨hr, hf⟩, hok'⟩ := hok
    unfold wpOrd at h
    cases ho : ops[i]? with
    | none => simp only [ho] at h
    | some o =>
      simp only [ho, if_true] at h
      by_cases hw : Region.wanted o (yielded ops a.tmps) = true
      · simp only [hw, if_true] at h
        obtain ⟨v, hv, h'⟩ := h
        exact wpAnyC_first ho (Region.noSelect_spec hs) (fun c a w hq => absurd hq (hQ c _ w)) rest.length listed a w hC (Region.free_spec ho hf) (by simpa using hr) (.inl ⟨hw, hv⟩)
          (wpAnyC_of_ord hs hQ rest _ _ _ hC hok' h')
      · have hw' : Region.wanted o (yielded ops a.tmps) = false := by simpa using hw
        simp only [hw', Bool.false_eq_true, if_false] at h
        exact wpAnyC_first ho (Region.noSelect_spec hs) (fun c a w hq => absurd hq (hQ c _ w)) rest.length listed a w hC (Region.free_spec ho hf) (by simpa using hr) (.inr ⟨hw', rfl⟩)
          (wpAnyC_of_ord hs hQ rest _ _ _ hC hok' h)
  | (i, false) :: rest, listed, a, w, hC, hok, h => by
    simp only [ordOk, Bool.false_eq_true, if_false, Bool.and_eq_true, beq_iff_eq] at hok
    obtain ⟨hr, hok'⟩ := hok
    refine ⟨fun h0 => (by rw [hr] at h0; cases h0), fun j hj => ?_⟩
    rw [hr] at hj
    obtain rfl : j = i := by simpa using hj
    unfold wpOrd at h
    unfold wpOp
    cases ho : ops[j]? with
    | none => simp only [ho] at h
    | some o =>
      simp only [ho, Bool.false_eq_true, if_false] at h ⊢
      by_cases hw : Region.wanted o (yielded ops a.tmps) = true
      · simp only [hw, if_true] at h ⊢
        exact .inl (Oper.wp_mono (fun a' w' h' => ⟨h'.1, wpAnyC_of_ord hs hQ rest _ _ _ h'.1 hok' h'.2⟩) h)
      · have hw' : Region.wanted o (yielded ops a.tmps) = false := by simpa using hw
        simp only [hw', Bool.false_eq_true, if_false] at h ⊢
        exact ⟨hC, wpAnyC_of_ord hs hQ rest _ _ _ hC hok' h⟩

/-- Q, but False at a panic. -/
def NoPan (Q : Exit → Act → World → Prop) : Exit → Act → World → Prop
  | .panic _, _, _ => False
  | e, a, w => Q e a w
theorem NoPan.toQ {Q : Exit → Act → World → Prop} : ∀ (e : Exit) (a : Act) (w : World), NoPan Q e a w → Q e a w := fun e a w h => by
  cases e <;> first | exact h | exact (h : False).elim

/-- The order is checked by the kernel. -/
def ordB (ops : Array Oper) (π : List (Nat × Bool)) : Bool :=
  Region.noSelect ops && π.length == ops.size && ordOk .any ops π (Array.replicate ops.size false)

theorem wp_region_ord {id : Nat} {a : Act} {w : World} (π : List (Nat × Bool)) (hm : P.follows .mixedOrders = true) (hB : ordB ops π = true)
    (hC : C w.drew) (h : wpOrd P ops C (NoPan Q) π a w.drew) : (Code.region id ops true).wp P Q a w := by
  simp only [ordB, Bool.and_eq_true, beq_iff_eq] at hB
  obtain ⟨⟨h1, h2⟩, h3⟩ := hB
  refine Code.wp_mono NoPan.toQ (wp_region_any hm (wpAny_of_C (C := C) _ _ _ _ ?_))
  have := wpAnyC_of_ord (P := P) (C := C) (Q := NoPan Q) (md := .any) h1 (fun _ _ _ hq => hq) π (Array.replicate ops.size false) a w.drew hC h3 h
  rw [h2] at this
  exact this

/-- The same, at the class 'W, grown'; the world behind the draw is one of them. -/
theorem wp_region_ordM {id : Nat} {a : Act} {W u : World} {l : List Oper} (π : List (Nat × Bool)) (hm : P.follows .mixedOrders = true) (hB : ordB l.toArray π = true)
    (h : ∀ x, wpOrd P l.toArray (fun w' => ∃ u, w' = W.more u) (NoPan Q) π a (W.more x)) : (Code.region id l.toArray true).wp P Q a (W.more u) := by
  obtain ⟨x, hx⟩ := ((World.more_gr W u).trans (Gr.drew _)).more
  exact wp_region_ord (C := fun w' => ∃ u, w' = W.more u) π hm hB ⟨x, hx⟩ (hx ▸ h x)
theorem wp_region_ordW {id : Nat} {a : Act} {W : World} {l : List Oper} (π : List (Nat × Bool)) (hm : P.follows .mixedOrders = true) (hB : ordB l.toArray π = true)
    (h : ∀ x, wpOrd P l.toArray (fun w' => ∃ u, w' = W.more u) (NoPan Q) π a (W.more x)) : (Code.region id l.toArray true).wp P Q a W := by
  obtain ⟨x, hx⟩ := (Gr.drew W).more
  exact wp_region_ord (C := fun w' => ∃ u, w' = W.more u) π hm hB ⟨x, hx⟩ (hx ▸ h x)
theorem Gr.grown {W u w1 : World} (h : Gr (W.more u) w1) : ∃ x, w1 = W.more x := ((World.more_gr W u).trans h).more
theorem grown_alloc (W u : World) (o : Obj) : ∃ x, (W.more u).alloc o = W.more x := ((World.more_gr W u).trans (Gr.alloc _ _)).more

theorem wpOrd_nil {a : Act} {w : World} (h : Q .normal a w) : wpOrd P ops C (NoPan Q) [] a w := h

/-- An operation that floats. -/
theorem wpOrd_float {i : Nat} {rest : List (Nat × Bool)} {o : Oper} {a : Act} {w : World} (ho : ops[i]? = some o)
    (h : ∀ K : Act → Prop, (∀ a', wpOrd P ops C Q rest a' w → K a') →
      if Region.wanted o (yielded ops a.tmps) then ∃ v, (∀ w', C w' → stillUpon w' v ((execOp a.eval o).run P w')) ∧ K (a.put o.dst v) else K (a.put o.dst undef)) :
    wpOrd P ops C Q ((i, true) :: rest) a w := by
  have h1 := h _ (fun _ h => h)
  unfold wpOrd
  simp only [ho, if_true]
  exact h1

/-- An operation in the row. -/
theorem wpOrd_row {i : Nat} {rest : List (Nat × Bool)} {o : Oper} {a : Act} {w : World} (ho : ops[i]? = some o)
    (h : ∀ K : Act → World → Prop, (∀ a' w', C w' → wpOrd P ops C Q rest a' w' → K a' w') →
      if Region.wanted o (yielded ops a.tmps) then o.wp P a w K Q else wpOrd P ops C Q rest (a.put o.dst undef) w) :
    wpOrd P ops C Q ((i, false) :: rest) a w := by
  have h1 := h (fun a' w' => C w' ∧ wpOrd P ops C Q rest a' w') (fun _ _ c h => ⟨c, h⟩)
  unfold wpOrd
  simp only [ho, Bool.false_eq_true, if_false]
  exact h1
end
end Go
