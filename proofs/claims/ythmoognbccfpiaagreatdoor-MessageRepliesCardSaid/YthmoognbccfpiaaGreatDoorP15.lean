/-
  A range over a function whose iterator keeps variables of its own in memory: the contract of the iterator and the law of the loop; for whatever program.
-/
import Derived.Test.YthmoognbccfpiaaGreatDoorP14
import Derived.RangeFuncNested
import Derived.RangeFuncBound
import Derived.RangeFuncCalls
import Derived.RangeFuncLeaves
import Derived.Lib.Bytealg
import Derived.Lib.Strings
import Derived.Lib.IndexBytes
import Derived.Shelf.Abstract
import Derived.Shelf.RegionOpen
import Derived.OwnWalkIn
import Derived.TacticsInMore
import Derived.LoopNIn
import Derived.LoopIn
import Derived.RangeFuncBox
import Derived.Test.YthmoognbccfpiaaGreatDoorP9
set_option linter.unusedSimpArgs false
set_option linter.unusedVariables false
set_option linter.unusedSectionVars false
namespace Go
open Go.RowKit

structure GrX (X : Nat → Prop) (W W' : World) : Prop where
  os : W'.os = W.os
  tape : W'.tape = W.tape
  output : W'.output = W.output
  size : W.heap.size ≤ W'.heap.size
  block : ∀ k, k < W.heap.size → ¬ X k → W'.heap[k]? = W.heap[k]?

theorem GrX.refl (X : Nat → Prop) (W : World) : GrX X W W := ⟨rfl, rfl, rfl, Nat.le_refl _, fun _ _ _ => rfl⟩
theorem GrX.trans {X : Nat → Prop} {A B C : World} (h : GrX X A B) (k : GrX X B C) : GrX X A C :=
  ⟨k.os.trans h.os, k.tape.trans h.tape, k.output.trans h.output, Nat.le_trans h.size k.size, fun i hi hx => (k.block i (Nat.lt_of_lt_of_le hi h.size) hx).trans (h.block i hi hx)⟩
theorem GrX.of_gr {X : Nat → Prop} {A B : World} (h : Gr A B) : GrX X A B := ⟨Below.os h, Below.tape h, Below.output h, Below.size h, fun k hk _ => Below.block h k hk⟩
theorem GrX.gr {A B : World} (h : GrX (fun _ => False) A B) : Gr A B := ⟨h.os, h.tape, h.output, h.size, fun k hk => h.block k hk (fun h => h)⟩
theorem GrX.mono {X Y : Nat → Prop} {A B : World} (h : GrX X A B) (hx : ∀ k, k < A.heap.size → X k → Y k) : GrX Y A B := ⟨h.os, h.tape, h.output, h.size, fun k hk hy => h.block k hk (fun e => hy (hx k hk e))⟩
theorem GrX.setCell {X : Nat → Prop} (W : World) (p : Addr) (u : Value) (hp : X p.block) : GrX X W (W.setCell p u) :=
  ⟨rfl, rfl, rfl, by simp, fun k _ hx => Below.heap_setCell W p u k (fun e => hx (e ▸ hp))⟩
theorem GrX.putObj {X : Nat → Prop} (W : World) (l : Nat) (o : Obj) (hl : X l) : GrX X W (W.putObj l o) :=
  ⟨rfl, rfl, rfl, by simp, fun k _ hx => World.putObj_heap_other (fun e => hx (e ▸ hl))⟩
theorem GrX.cell {X : Nat → Prop} {A B : World} (h : GrX X A B) {p : Addr} (hp : p.block < A.heap.size) (hx : ¬ X p.block) : B.cell? p = A.cell? p := World.cell?_of_block (h.block _ hp hx)
theorem GrX.frozen {X : Nat → Prop} {A B : World} (h : GrX X A B) {p : Addr} (hp : p.block < A.heap.size) (hx : ¬ X p.block) : B.frozen? p = A.frozen? p := World.frozen?_of_block (h.block _ hp hx)

def AbX {β : Type} (X : Nat → Prop) (J : β → World → Prop) : Prop := ∀ s W W', J s W → GrX X W W' → J s W'

def SeqX {α : Type} (P : Program) (g : Nat) (lb : Array Value) (encs : α → Array Value) (X : Nat → Prop) (Kp : World → World → Prop) (S Sp : List α → Prop) (w : World) : Prop :=
  ∀ (l n : Nat) (J Jx : List α → World → Prop) (W : World), Gr w W → AbX X J → AbX X Jx →
    (∀ pre x W1, J pre W1 → YieldAt Fence.wide (n - 1) P l (encs x) W1 fun e W' =>
      (e = .returned (.bool true) ∧ J (pre ++ [x]) W' ∧ Kp W1 W') ∨ (e = .returned (.bool false) ∧ Jx (pre ++ [x]) W')) →
    J [] W →
    CallsIn Fence.wide n P g (#[.func (.yield l) #[] #[]] ++ lb) W fun e W' => (∃ v, e = .returned v) ∧ ((∃ xs, S xs ∧ J xs W') ∨ (∃ pre, Sp pre ∧ Jx pre W'))

def TurnX (X : Nat → Prop) (B : Nat) (W : World) (k : Nat) : Prop := X k ∨ (B ≤ k ∧ ∃ o : Obj, W.heap[k]? = some o ∧ o.isCells = false)
def OwnX {β : Type} (X : Nat → Prop) (B : Nat) (I : β → World → Prop) : Prop := ∀ s W W', I s W → GrX (TurnX X B W) W W' → I s W'

def ownPostX {α : Type} (B : Nat) (Kp : World → World → Prop) (I : List α → World → Prop) (Ix : Code → List α → World → Prop) (xs : List α) (W : World) : Exit → Act → World → Prop
  | .normal, _, W' => KeepsFrom B W W' ∧ Kp W W' ∧ I xs W'
  | .ret, _, W' => KeepsFrom B W W' ∧ Ix .ret xs W'
  | .exit id, _, W' => KeepsFrom B W W' ∧ Ix (.exit id) xs W'
  | .goto t, _, W' => KeepsFrom B W W' ∧ Ix (.goto t) xs W'
  | .panic _, _, _ => False
  | .outgrown, _, _ => False

variable {P : Program} {n : Nat}

theorem wpIn_rangeFunc_X {α : Type} {g : Operand} {ps : Array Tmp} {assign body : Code} {Q : Exit → Act → World → Prop} {a : Act} {w : World}
    {gf : Nat} {lb : Array Value} (hg : a.eval g = .func (.func gf) #[] lb) (eg : ∀ args w, (callFunc gf args).run P w = .ok (.enter gf args) w)
    {encs : α → Array Value} {X : Nat → Prop} {Kp : World → World → Prop} {S Sp : List α → Prop} {w0 : World} (hseq : SeqX P gf lb encs X Kp S Sp w0) (h1 : 1 ≤ n)
    (hX : ∀ k, X k → k < w.heap.size)
    (hKt : ∀ {A B C : World}, Kp A B → Kp B C → Kp A C) (hKb : ∀ (W : World) (l : Nat) (o o' : Obj), w.heap.size ≤ l → W.heap[l]? = some o → o.isCells = false → Kp W (W.putObj l o')) (hb0 : Gr w0 w) (hps : ∀ x, (encs x).size = ps.size)
    (I : List α → World → Prop) (Ix : Code → List α → World → Prop) (hI : OwnX X w.heap.size I) (hIx : ∀ c, OwnX X w.heap.size (Ix c)) (h0 : I [] w) (Ax : α → Act → World → Prop)
    (hassign : ∀ (l : Nat) (pre : List α) (x : α) (W : World) (K : Act → World → Prop), I pre W → (∀ a' W', KeepsFrom w.heap.size W W' → Kp W W' → I pre W' → Ax x a' W' → K a' W') →
      assign.wpIn (Fence.wide.inRound l) (n - 1 - 1) P (Exit.then K (fun _ _ _ => False)) { tmps := (ps.zip (encs x)).foldl (fun t (p, v) => t.setIfInBounds p v) a.tmps, defers := [] } W)
    (hAx : ∀ x a', OwnX X w.heap.size (fun (_ : Unit) W => Ax x a' W))
    (hbody : ∀ (l : Nat) (pre : List α) (x : α) (a' : Act) (W : World), I pre W → Ax x a' W → w.heap.size ≤ l → (∃ r, W.heap[l]? = some (.loop r)) → body.wpIn (Fence.wide.inRound l) (n - 1 - 1) P (ownPostX w.heap.size Kp I Ix (pre ++ [x]) W) a' W)
    (hdone : ∀ (D : Nat) (xs : List α) (W : World), w.heap.size ≤ D → S xs → I xs W → W.heap[D]? = some (.deferred (some [])) → Q .normal { a with defers := { target := .collected D, args := #[] } :: a.defers } W)
    (hstop : ∀ (D : Nat) (c : Code) (pre : List α) (W : World), w.heap.size ≤ D → Sp pre → Ix c pre W → W.heap[D]? = some (.deferred (some [])) → c.wpIn Fence.wide n P Q { a with defers := { target := .collected D, args := #[] } :: a.defers } W) :
    (Code.rangeFunc g ps assign body).wpIn Fence.wide n P Q a w := by
  have hIput : ∀ {W : World} {s : List α} {l : Nat} {o : Obj} (o' : Obj), I s W → w.heap.size ≤ l → W.heap[l]? = some o → o.isCells = false → I s (W.putObj l o') :=
    fun o' hi hl ho hc => hI _ _ _ hi (GrX.putObj _ _ o' (.inr ⟨hl, _, ho, hc⟩))
  have hIxput : ∀ {c : Code} {W : World} {s : List α} {l : Nat} {o : Obj} (o' : Obj), Ix c s W → w.heap.size ≤ l → W.heap[l]? = some o → o.isCells = false → Ix c s (W.putObj l o') :=
    fun o' hi hl ho hc => hIx _ _ _ _ hi (GrX.putObj _ _ o' (.inr ⟨hl, _, ho, hc⟩))
  have hAput : ∀ {x : α} {a' : Act} {W : World} {l : Nat} {o : Obj} (o' : Obj), Ax x a' W → w.heap.size ≤ l → W.heap[l]? = some o → o.isCells = false → Ax x a' (W.putObj l o') :=
    fun o' hi hl ho hc => hAx _ _ () _ _ hi (GrX.putObj _ _ o' (.inr ⟨hl, _, ho, hc⟩))
  refine wpIn_rangeFunc ?_
  intro fn hfn
  rw [show Fence.wide.round = none from rfl]
  obtain ⟨rec, hrec⟩ : ∃ rec : LoopState → Option Code → Loop, rec = fun st pe => { state := st, pending := pe, fn, tmps := a.tmps, params := ps, assign, body, defers := w.heap.size } := ⟨_, rfl⟩
  obtain ⟨W1, hW1⟩ : ∃ W1, (w.alloc (.deferred (some []))).alloc (.loop (rec .ready none)) = W1 := ⟨_, rfl⟩
  have hg1 : Gr w W1 := by rw [← hW1]; exact (Gr.alloc _ _).trans (Gr.alloc _ _)
  have hL1 : W1.heap[w.heap.size + 1]? = some (.loop (rec .ready none)) := by
    rw [← hW1]; have := World.alloc_heap_new (w.alloc (.deferred (some []))) (.loop (rec .ready none)); rwa [World.size_alloc] at this
  have hK1 : W1.heap[w.heap.size]? = some (.deferred (some [])) := by
    rw [← hW1]; exact (Below.heap_alloc _ _ _ (by simp)).trans (World.alloc_heap_new w _)
  have hI1 : I [] W1 := hI _ _ _ h0 (GrX.of_gr hg1)
  refine ⟨w.heap.size + 1, [{ target := .collected w.heap.size, args := #[] }], W1, { target := .fn (.func gf) lb, args := #[.func (.yield (w.heap.size + 1)) #[] #[]] }, W1, gf,
    #[.func (.yield (w.heap.size + 1)) #[] #[]] ++ lb, W1, ?_, ?_, ?_, ?_, fun _ => h1, ?_⟩
  · rw [← hW1, hrec]; exact run_enterLoop_outer _ _ _ _ _
  · simp only [resolve, hg]
    simp [go_sem]
  · intro f' hf'; simp [Target.leads] at hf'; subst hf'; exact trivial
  · simp [invoke, go_sem, eg]
  · have habs : ∀ {A B : World} {k : Nat} {o : Obj}, GrX X A B → w.heap.size ≤ k → A.heap[k]? = some o → B.heap[k]? = some o := fun hg hk ho =>
      (hg.block _ (Array.getElem?_eq_some_iff.1 ho).1 (fun hx => by have := hX _ hx; omega)).trans ho
    refine (hseq (w.heap.size + 1) (n - 1)
      (fun pre W => I pre W ∧ W.heap[w.heap.size + 1]? = some (.loop (rec .ready none)) ∧ W.heap[w.heap.size]? = some (.deferred (some [])))
      (fun pre W => ∃ c, Ix c pre W ∧ W.heap[w.heap.size + 1]? = some (.loop (rec .done (some c))) ∧ W.heap[w.heap.size]? = some (.deferred (some [])))
      W1 (hb0.trans hg1)
      (fun s A B hs hg' => ⟨hI s A B hs.1 (hg'.mono fun _ _ h => .inl h), habs hg' (by omega) hs.2.1, habs hg' (by omega) hs.2.2⟩)
      (fun s A B hs hg' => by
        obtain ⟨c, hc, hl, hk⟩ := hs
        exact ⟨c, hIx c s A B hc (hg'.mono fun _ _ h => .inl h), habs hg' (by omega) hl, habs hg' (by omega) hk⟩)
      ?_ ⟨hI1, hL1, hK1⟩).mono ?_
    · rintro pre x W ⟨hi, hl, hk⟩
      have hlt : w.heap.size + 1 < W.heap.size := (Array.getElem?_eq_some_iff.1 hl).1
      have hy := run_yield (P := P) (args := encs x) hl (by rw [hrec]; exact hps x)
      rw [hrec] at hy
      refine ⟨fn, _, assign, body, hy, roundIn_of_wpIn hfn (hassign _ pre x W _ hi ?_)⟩
      intro a' Wa hka hkpa hia hax
      have hla := hka.same _ _ (by omega) hl rfl
      have hkb := hka.same _ _ (by omega) hk rfl
      have hlta : w.heap.size + 1 < Wa.heap.size := (Array.getElem?_eq_some_iff.1 hla).1
      refine ⟨_, run_beginRound hla (by rw [hrec]), ?_⟩
      have hl2 : (Wa.putObj (w.heap.size + 1) (.loop { rec .ready none with state := .busy })).heap[w.heap.size + 1]? = some (.loop { rec .ready none with state := .busy }) := World.putObj_heap_same hlta
      have hk2 : (Wa.putObj (w.heap.size + 1) (.loop { rec .ready none with state := .busy })).heap[w.heap.size]? = some (.deferred (some [])) := (World.putObj_heap_other (by omega)).trans hkb
      have hw2 : Kp Wa (Wa.putObj (w.heap.size + 1) (.loop { rec .ready none with state := .busy })) := hKb _ _ _ _ (by omega) hla rfl
      refine wpIn_mono (hbody (w.heap.size + 1) pre x a' _ (hIput _ hia (by omega) hla rfl) (hAput _ hax (by omega) hla rfl) (by omega) ⟨_, hl2⟩) ?_
      have fin : ∀ (jump : Option Code) (W3 : World), KeepsFrom w.heap.size (Wa.putObj (w.heap.size + 1) (.loop { rec .ready none with state := .busy })) W3 →
          (Instr.endRound (w.heap.size + 1) jump).run P W3 = .ok (.bool jump.isNone) (W3.putObj (w.heap.size + 1) (.loop (rec (if jump.isNone then .ready else .done) jump))) ∧
          W3.heap[w.heap.size + 1]? = some (.loop { rec .ready none with state := .busy }) ∧
          (W3.putObj (w.heap.size + 1) (.loop (rec (if jump.isNone then .ready else .done) jump))).heap[w.heap.size + 1]? = some (.loop (rec (if jump.isNone then .ready else .done) jump)) ∧
          (W3.putObj (w.heap.size + 1) (.loop (rec (if jump.isNone then .ready else .done) jump))).heap[w.heap.size]? = some (.deferred (some [])) := fun jump W3 hk3 => by
        have hl3 := hk3.same _ _ (by omega) hl2 rfl
        have := run_endRound (P := P) jump hl3
        rw [hrec] at this ⊢
        exact ⟨this, by rw [hrec] at hl3; exact hl3, World.putObj_heap_same (Array.getElem?_eq_some_iff.1 hl3).1, (World.putObj_heap_other (by omega)).trans (hk3.same _ _ (Nat.le_refl _) hk2 rfl)⟩
      rintro e a3 W3 hp
      cases e with
      | normal =>
        obtain ⟨hk3, hkp3, hi3⟩ := hp
        obtain ⟨hr, hl3, hl4, hk4⟩ := fin none W3 hk3
        exact ⟨_, _, hr, .inl ⟨rfl, ⟨hIput _ hi3 (by omega) hl3 rfl, hl4, hk4⟩, hKt hkpa (hKt (hKt hw2 hkp3) (hKb _ _ _ _ (by omega) hl3 rfl))⟩⟩
      | ret =>
        obtain ⟨hk3, hi3⟩ := hp
        obtain ⟨hr, hl3, hl4, hk4⟩ := fin (some .ret) W3 hk3
        exact ⟨_, _, hr, .inr ⟨rfl, .ret, hIxput _ hi3 (by omega) hl3 rfl, hl4, hk4⟩⟩
      | exit id =>
        obtain ⟨hk3, hi3⟩ := hp
        obtain ⟨hr, hl3, hl4, hk4⟩ := fin (some (.exit id)) W3 hk3
        exact ⟨_, _, hr, .inr ⟨rfl, .exit id, hIxput _ hi3 (by omega) hl3 rfl, hl4, hk4⟩⟩
      | goto t =>
        obtain ⟨hk3, hi3⟩ := hp
        obtain ⟨hr, hl3, hl4, hk4⟩ := fin (some (.goto t)) W3 hk3
        exact ⟨_, _, hr, .inr ⟨rfl, .goto t, hIxput _ hi3 (by omega) hl3 rfl, hl4, hk4⟩⟩
      | panic ch => exact hp.elim
      | outgrown => exact hp.elim
    · rintro e W2 ⟨⟨v, rfl⟩, (⟨xs, hS, hi, hl, hk⟩ | ⟨pre, hSp, c, hi, hl, hk⟩)⟩
      · exact ⟨none, _, by have := run_endLoop (P := P) hl (by rw [hrec]; simp); rw [hrec] at this; exact this, hdone _ xs _ (Nat.le_refl _) hS (hIput _ hi (by omega) hl rfl) ((World.putObj_heap_other (by omega)).trans hk)⟩
      · exact ⟨some c, _, by have := run_endLoop (P := P) hl (by rw [hrec]; simp); rw [hrec] at this; exact this, hstop _ c pre _ (Nat.le_refl _) hSp (hIxput _ hi (by omega) hl rfl) ((World.putObj_heap_other (by omega)).trans hk)⟩
end Go

/-
  Contracts: strings.Index at a point, strings.SplitSeq at a point.
-/
namespace Go.Proofs.YthmoognbccfpiaaGreatDoor
open Go Go.RowKit

set_option maxHeartbeats 1000000 in
set_option maxRecDepth 100000 in
theorem indexByte_c (s : ByteArray) (c : Int) (w : World) :
    Calls Tryz.prog 299 #[.string s, .int .u8 c] w fun e w' => e = .returned (.int .i64 (Lib.indexByte s.data.toList c.toNat.toUInt8)) ∧ w' = w := by
  go_enter Tryz.func299, Tryz.ntmps299
  go_wp2
  rw [run_callFunc_extern Tryz.func322 (by kernel_rfl) (by kernel_rfl) (by kernel_rfl) (e := Extern.BytealgIndexByte.indexByte) (by kernel_rfl), Lib.run_indexByteString]
  simp only [Result.andThen]
  rw [Oper.upon_value]
  go_wp2
  go_ret
  exact ⟨rfl, rfl⟩

set_option maxHeartbeats 1000000 in
set_option maxRecDepth 100000 in
theorem liteIndex_c (s : ByteArray) (w : World) :
    Calls Tryz.prog 280 #[.string s, .string ⟨#[46]⟩] w fun e w' => e = .returned (.int .i64 (Lib.indexByte s.data.toList 46)) ∧ w' = w := by
  by_cases he : s = ⟨#[46]⟩
  · subst he
    go_enter Tryz.func280, Tryz.ntmps280
    go_wp2
    go_ret
    exact ⟨ret_int (by decide), rfl⟩
  · have hne : ([46] == s.toList) = false := by
      rw [beq_eq_false_iff_ne]
      exact fun h => he (ba_toList_inj (h.symm.trans (by rw [ByteArray.toList_eq])))
    go_enter Tryz.func280, Tryz.ntmps280
    go_wp2_with (go_at_call 299; refine (indexByte_c _ _ _).mono ?_; rintro e w' ⟨rfl, rfl⟩)
    go_ret
    exact ⟨ret_int rfl, rfl⟩

theorem index_c (s : ByteArray) (w : World) :
    Calls Tryz.prog 266 #[.string s, .string ⟨#[46]⟩] w fun e w' => e = .returned (.int .i64 (Lib.indexByte s.data.toList 46)) ∧ w' = w := by
  go_enter Tryz.func266, Tryz.ntmps266
  go_wp2_with (go_at_call 280; refine (liteIndex_c _ _).mono ?_; rintro e w' ⟨rfl, rfl⟩)
  go_ret
  exact ⟨rfl, rfl⟩

theorem splitSeq_c (s : ByteArray) (w : World) :
    Calls Tryz.prog 239 #[.string s, .string ⟨#[46]⟩, .int .i64 0] w fun e w' =>
      e = .returned (.func (.func 264) #[] #[.pointer (some ⟨w.heap.size + 1, 0, none⟩), .pointer (some ⟨w.heap.size, 0, none⟩), .pointer (some ⟨w.heap.size + 1 + 1, 0, none⟩)]) ∧
      w' = (((w.alloc (.cells #[.string s] 9)).alloc (.cells #[.string ⟨#[46]⟩] 9)).alloc (.cells #[.int .i64 0] 3)) := by
  go_enter Tryz.func239, Tryz.ntmps239
  go_wp2
  go_ret
  exact ⟨rfl, rfl⟩

theorem splitSeqPub_c (s : ByteArray) (w : World) :
    Calls Tryz.prog 190 #[.string s, .string ⟨#[46]⟩] w fun e w' =>
      e = .returned (.func (.func 264) #[] #[.pointer (some ⟨w.heap.size + 1, 0, none⟩), .pointer (some ⟨w.heap.size, 0, none⟩), .pointer (some ⟨w.heap.size + 1 + 1, 0, none⟩)]) ∧
      w' = (((w.alloc (.cells #[.string s] 9)).alloc (.cells #[.string ⟨#[46]⟩] 9)).alloc (.cells #[.int .i64 0] 3)) := by
  go_enter Tryz.func190, Tryz.ntmps190
  go_wp2_with (go_at_call 239; refine (splitSeq_c _ _).mono ?_; rintro e w' ⟨rfl, rfl⟩)
  go_ret
  exact ⟨rfl, rfl⟩
def splitGo : List UInt8 → List UInt8 → List (List UInt8)
  | cur, [] => [cur.reverse]
  | cur, c :: cs => if c == 46 then cur.reverse :: splitGo [] cs else splitGo (c :: cur) cs
def splitDot (l : List UInt8) : List (List UInt8) := splitGo [] l

theorem splitGo_none : ∀ (l cur : List UInt8), Lib.indexByte l 46 = -1 → splitGo cur l = [cur.reverse ++ l]
  | [], cur, _ => by simp [splitGo]
  | c :: l, cur, h => by
    unfold Lib.indexByte at h
    by_cases hc : (c == 46) = true
    · rw [if_pos hc] at h; omega
    · have hg := Lib.indexByte_ge l 46
      rw [if_neg hc] at h
      have h' : Lib.indexByte l 46 = -1 := by
        by_cases h2 : (Lib.indexByte l 46 == -1) = true
        · simpa using h2
        · rw [if_neg h2] at h
          simp at h2
          omega
      unfold splitGo
      rw [if_neg hc, splitGo_none l (c :: cur) h']
      simp

theorem splitGo_some : ∀ (l cur : List UInt8) (i : Nat), Lib.indexByte l 46 = (i : Int) → i < l.length ∧ splitGo cur l = (cur.reverse ++ l.take i) :: splitGo [] (l.drop (i + 1))
  | [], cur, i, h => by unfold Lib.indexByte at h; omega
  | c :: l, cur, i, h => by
    unfold Lib.indexByte at h
    by_cases hc : (c == 46) = true
    · rw [if_pos hc] at h
      obtain rfl : i = 0 := by omega
      refine ⟨by simp, ?_⟩
      conv => lhs; unfold splitGo
      rw [if_pos hc]
      simp
    · rw [if_neg hc] at h
      by_cases h2 : (Lib.indexByte l 46 == -1) = true
      · rw [if_pos h2] at h; omega
      · rw [if_neg h2] at h
        have hg := Lib.indexByte_ge l 46
        simp at h2
        obtain ⟨j, rfl⟩ : ∃ j, i = j + 1 := ⟨i - 1, by omega⟩
        obtain ⟨h3, h4⟩ := splitGo_some l (c :: cur) j (by omega)
        refine ⟨by simp; omega, ?_⟩
        conv => lhs; unfold splitGo
        rw [if_neg hc, h4]
        simp

def splitB (s : ByteArray) : List ByteArray := (splitDot s.data.toList).map fun l => ⟨l.toArray⟩

theorem splitB_none (s : ByteArray) (h : Lib.indexByte s.data.toList 46 = -1) : splitB s = [s] := by
  unfold splitB splitDot
  rw [splitGo_none _ _ h]
  simp
theorem splitB_some (s : ByteArray) (i : Nat) (h : Lib.indexByte s.data.toList 46 = (i : Int)) : i < s.size ∧ splitB s = s.extract 0 i :: splitB (s.extract (i + 1) s.size) := by
  obtain ⟨h1, h2⟩ := splitGo_some s.data.toList [] i h
  refine ⟨by simpa using h1, ?_⟩
  unfold splitB splitDot
  rw [h2, Lib.extract_data, Lib.extract_eq]
  have : List.take (s.size - (i + 1)) (List.drop (i + 1) s.data.toList) = List.drop (i + 1) s.data.toList := by
    rw [List.take_of_length_le]; simp
  rw [this]
  simp

def Kp3 (b1 b2 b3 : Nat) (W W' : World) : Prop := W'.heap[b1]? = W.heap[b1]? ∧ W'.heap[b2]? = W.heap[b2]? ∧ W'.heap[b3]? = W.heap[b3]?

def Box (W : World) (b : Nat) (t : TypeId) (v : Value) : Prop := W.heap[b]? = some (.cells #[v] t (0, 0))
theorem Box.cell {W : World} {b : Nat} {t : TypeId} {v : Value} (h : Box W b t v) : W.cell? ⟨b, 0, none⟩ = some v := by unfold Box at h; simp [World.cell?, h]
theorem Box.frozen {W : World} {b : Nat} {t : TypeId} {v : Value} (h : Box W b t v) : W.frozen? ⟨b, 0, none⟩ = false := by unfold Box at h; simp [World.frozen?, h]
theorem Box.lt {W : World} {b : Nat} {t : TypeId} {v : Value} (h : Box W b t v) : b < W.heap.size := (Array.getElem?_eq_some_iff.1 h).1
theorem Box.set {W : World} {b : Nat} {t : TypeId} {v : Value} (h : Box W b t v) (u : Value) : Box (W.setCell ⟨b, 0, none⟩ u) b t u := by
  unfold Box at *
  simp [World.setCell, Array.getElem?_modify, h]
theorem Box.far {W : World} {b c : Nat} {t : TypeId} {v : Value} (h : Box W b t v) (hne : b ≠ c) (u : Value) : Box (W.setCell ⟨c, 0, none⟩ u) b t v := (Below.heap_setCell W ⟨c, 0, none⟩ u b hne).trans h
theorem Box.gr {W W' : World} {b : Nat} {t : TypeId} {v : Value} (h : Box W b t v) (g : Gr W W') : Box W' b t v := (g.block h.lt).trans h
theorem Box.new (W : World) (t : TypeId) (v : Value) : Box (W.alloc (.cells #[v] t)) W.heap.size t v := World.alloc_heap_new W _
theorem Box.alloc {W : World} {b : Nat} {t : TypeId} {v : Value} (h : Box W b t v) (o : Obj) : Box (W.alloc o) b t v := h.gr (Gr.alloc W o)

def strLeft (W : World) (b : Nat) : Nat := match W.cell? ⟨b, 0, none⟩ with | some (.string t) => t.size | _ => 0
theorem strLeft_of {W : World} {b : Nat} {t : TypeId} {s : ByteArray} (h : Box W b t (.string s)) : strLeft W b = s.size := by unfold strLeft; rw [h.cell]

attribute [local go_sem] Oper.semAt_some

abbrev Sm := { x : ByteArray // x.size ≤ 140737488355328 }

set_option maxHeartbeats 1000000 in
set_option maxRecDepth 100000 in
theorem split_seq (s : ByteArray) (bs bp bv : Nat) (w : World) (hs : s.size ≤ 140737488355328) (h1 : Box w bs 9 (.string s)) (h2 : Box w bp 9 (.string ⟨#[46]⟩)) (h3 : Box w bv 3 (.int .i64 0)) (n12 : bp ≠ bs) (n13 : bv ≠ bs) :
    SeqX Tryz.prog 264 #[.pointer (some ⟨bp, 0, none⟩), .pointer (some ⟨bs, 0, none⟩), .pointer (some ⟨bv, 0, none⟩)] (fun x : Sm => #[.string x.1]) (fun k => k = bs) (Kp3 bs bp bv)
      (fun xs => xs.map (·.1) = splitB s) (fun pre => pre.map (·.1) <+: splitB s) w := by
  intro l n J Jx W hW hJ hJx hY hJ0
  have b1 := h1.gr hW
  have b2 := h2.gr hW
  have b3 := h3.gr hW
  have c2 := b2.cell
  refine callsIn_of_wp Tryz.func264 rfl trivial ?_ rfl
  simp only [Tryz.ntmps264, List.size_toArray, List.length_cons, List.length_nil, Nat.reduceAdd, Nat.reduceSub, Array.replicate_succ, Array.replicate_zero, List.push_toArray, List.append_toArray, List.nil_append, List.cons_append]
  gi_wp2
  clear c2
  have hlen : ∀ t : ByteArray, t.size ≤ s.size → t.size ≤ 9223372036854775807 := fun t h => by omega
  have HL := Lib.hid hlen
  clear hlen
  gi_loopw [7] (fun _ wr => ∃ (pre : List Sm) (t : ByteArray), splitB s = pre.map (·.1) ++ splitB t ∧ t.size ≤ s.size ∧ Box wr bs 9 (.string t) ∧ Box wr bp 9 (.string ⟨#[46]⟩) ∧ Box wr bv 3 (.int .i64 0) ∧ J pre wr)
    (fun _ wr => strLeft wr bs)
  case atStart => exact ⟨[], s, rfl, Nat.le_refl _, b1, b2, b3, hJ0⟩
  case round =>
    obtain ⟨pre, t, hsp, hts, x1, x2, x3, hJs⟩ := hrel
    have HS := Lib.hid hsp
    clear hsp
    have c1 := x1.cell
    have c2 := x2.cell
    have c3 := x3.cell
    have f1 := x1.frozen
    have HX1 := Lib.hid x1
    have HX2 := Lib.hid x2
    have HX3 := Lib.hid x3
    clear x1 x2 x3 b1 b2 b3
    have ht := HL.out t hts
    have hge := Lib.indexByte_ge t.data.toList 46
    rcases Int.lt_or_le (Lib.indexByte t.data.toList 46) 0 with hi | hi
    · -- no point is left
      obtain ⟨fn, tmps, assign, body, hy, hR⟩ := hY pre ⟨t, by omega⟩ wr hJs
      gi_wp2_with fail
      refine ⟨trivial, (fun h => by cases h), ?_⟩
      refine (callsIn_wide.2 (index_c _ _)).mono ?_
      rintro e w' ⟨rfl, rfl⟩
      gi_wp2
      refine ⟨(fun h => by cases h), ?_⟩
      refine hR.mono ?_
      rintro e W3 (⟨rfl, hJ3, hk3⟩ | ⟨rfl, hJx3⟩)
      · gi_wp2
        go_end0
        have e := HS.out
        rw [splitB_none t (by omega)] at e
        exact ⟨⟨_, rfl⟩, .inl ⟨pre ++ [⟨t, by omega⟩], by rw [e]; simp, hJ3⟩⟩
      · gi_wp2
        go_end0
        have e := HS.out
        rw [splitB_none t (by omega)] at e
        exact ⟨⟨_, rfl⟩, .inr ⟨pre ++ [⟨t, by omega⟩], ⟨[], by rw [List.append_nil, e]; simp⟩, hJx3⟩⟩
    · obtain ⟨i, hi'⟩ : ∃ i : Nat, Lib.indexByte t.data.toList 46 = (i : Int) := ⟨_, (Int.toNat_of_nonneg hi).symm⟩
      obtain ⟨hil, hsp2⟩ := splitB_some t i hi'
      have HS2 := Lib.hid hsp2
      have HI := Lib.hid hi'
      clear hsp2
      obtain ⟨fn, tmps, assign, body, hy, hR⟩ := hY pre ⟨t.extract 0 i, by simp; omega⟩ wr hJs
      dsimp only at hy
      clear hge hi
      gi_wp2_with fail
      refine ⟨trivial, (fun h => by cases h), ?_⟩
      refine (callsIn_wide.2 (index_c _ _)).mono ?_
      rintro e w' ⟨rfl, rfl⟩
      gi_wp2
      refine ⟨(fun h => by cases h), ?_⟩
      refine hR.mono ?_
      rintro e W3 (⟨rfl, hJ3, hk3⟩ | ⟨rfl, hJx3⟩)
      · have y1 : Box W3 bs 9 (.string t) := hk3.1.trans HX1.out
        have y2 : Box W3 bp 9 (.string ⟨#[46]⟩) := hk3.2.1.trans HX2.out
        have y3 : Box W3 bv 3 (.int .i64 0) := hk3.2.2.trans HX3.out
        have d1 := y1.cell
        have d2 := y2.cell
        have d3 := y3.cell
        have g1 := y1.frozen
        have HY1 := Lib.hid y1
        have HY2 := Lib.hid y2
        have HY3 := Lib.hid y3
        clear y1 y2 y3 c1 c2 c3 f1
        gi_wp2
        go_roundw
        case rel =>
          refine ⟨pre ++ [⟨t.extract 0 i, by simp; omega⟩], t.extract (i + 1) t.size, ?_, ?_, HY1.out.set _, HY2.out.far n12 _, HY3.out.far n13 _, hJ _ _ _ hJ3 (GrX.setCell _ _ _ rfl)⟩
          · rw [HS.out, HS2.out]; simp
          · simp; omega
        case measure =>
          rw [strLeft_of (HY1.out.set _), strLeft_of HX1.out]
          simp; omega
      · gi_wp2
        refine bodyPost_ret (results_none rfl _ _ _) rfl ?_
        exact ⟨⟨_, rfl⟩, .inr ⟨pre ++ [⟨t.extract 0 i, by simp; omega⟩], ⟨splitB (t.extract (i + 1) t.size), by rw [HS.out, HS2.out]; simp⟩, hJx3⟩⟩
end Go.Proofs.YthmoognbccfpiaaGreatDoor

/-
  Contract: name.Realm.
-/
namespace Go.Proofs.YthmoognbccfpiaaGreatDoor
open Go Go.RowKit
attribute [local go_sem] Oper.semAt_some

def realmChar (c : UInt8) : Bool := (decide (65 ≤ c.toNat) && decide (c.toNat ≤ 90)) || (decide (48 ≤ c.toNat) && decide (c.toNat ≤ 57)) || c == 45
def labelB (l : ByteArray) : Bool := decide (0 < l.size) && l.data.toList.all realmChar
def allL (pre : List Sm) : Bool := (pre.map (·.1)).all labelB
theorem allL_snoc (pre : List Sm) (x : Sm) : allL (pre ++ [x]) = (allL pre && labelB x.1) := by simp [allL]
theorem allL_no (pre : List Sm) (x : Sm) (h : labelB x.1 = false) : allL (pre ++ [x]) = false := by rw [allL_snoc, h]; simp
theorem allL_yes (pre : List Sm) (x : Sm) (h0 : allL pre = true) (h : labelB x.1 = true) : allL (pre ++ [x]) = true := by rw [allL_snoc, h, h0]; rfl
def realmB (s : ByteArray) : Bool := sizedB s && (splitB s).all labelB

theorem empty_size {x : ByteArray} (h : x.toList = []) : x.size = 0 := by
  rw [ByteArray.toList_eq] at h
  simpa using congrArg List.length h
theorem size_pos {x : ByteArray} (h : ¬ x.toList = []) : 0 < x.size := by
  rcases Nat.eq_zero_or_pos x.size with h0 | h0
  · exact absurd (by rw [ByteArray.toList_eq]; exact List.eq_nil_of_length_eq_zero (by simpa using h0)) h
  · exact h0

theorem realm_cases (c : UInt8) :
    ((65 : Int) ≤ (c.toNat : Int) ∧ (c.toNat : Int) ≤ 90 ∧ realmChar c = true) ∨ ((48 : Int) ≤ (c.toNat : Int) ∧ (c.toNat : Int) ≤ 57 ∧ realmChar c = true) ∨
    ((c.toNat : Int) < 48 ∧ ((c.toNat : Int) != 45) = false ∧ realmChar c = true) ∨ ((c.toNat : Int) < 48 ∧ ((c.toNat : Int) != 45) = true ∧ realmChar c = false) ∨
    ((57 : Int) < (c.toNat : Int) ∧ (c.toNat : Int) < 65 ∧ realmChar c = false) ∨ ((90 : Int) < (c.toNat : Int) ∧ ((c.toNat : Int) != 45) = true ∧ realmChar c = false) := by
  have hc : (c == 45) = decide (c.toNat = 45) := by rw [Bool.eq_iff_iff]; simp [← UInt8.toNat_inj]
  unfold realmChar
  rw [hc]
  simp
  omega

set_option maxHeartbeats 1000000 in
set_option maxRecDepth 100000 in
theorem realm_no (s : ByteArray) (w : World) (hs : s.size ≤ 140737488355328) (h : sizedB s = false) : Calls Tryz.prog 136 #[.string s] w (Ret w (.bool false)) := by
  go_enter Tryz.func136, Tryz.ntmps136
  go_wp2_with fail
  refine (sized_c s _ hs false (Lib.hid h.symm)).mono ?_
  rintro e w1 ⟨rfl, hg⟩
  have b0 : Box w1 w.heap.size 4 (.bool false) := (Box.new w _ _).gr hg
  have c0 := b0.cell
  have f0 := b0.frozen
  go_wp2
  refine bodyPost_ret (v := .bool false) ?_ rfl ⟨rfl, ?_⟩
  · have := ((b0.set (.bool false)).cell)
    simp [results, Tryz.results136, go_sem, this]
  · exact ((Gr.alloc _ _).trans hg : Below _ _ _).setCell (Nat.le_refl _) _

set_option maxHeartbeats 1000000 in
set_option maxRecDepth 100000 in
theorem realm_yes (s : ByteArray) (w : World) (hs : s.size ≤ 140737488355328) (h : sizedB s = true) (B : Bool) (HB : Hid (B = (splitB s).all labelB)) : Calls Tryz.prog 136 #[.string s] w (Ret w (.bool B)) := by
  refine (callsIn_wide (n := 9)).1 ?_
  refine callsIn_of_wp_marks Tryz.func136 rfl trivial ?_ rfl
  simp only [Tryz.ntmps136, List.size_toArray, List.length_cons, List.length_nil, Nat.reduceAdd, Nat.reduceSub, Array.replicate_succ, Array.replicate_zero, List.push_toArray, List.append_toArray, List.nil_append, List.cons_append]
  gi_wp2_with fail
  refine ⟨trivial, ?_⟩
  refine (callsIn_wide.2 (sized_c s _ hs true (Lib.hid h.symm))).mono ?_
  rintro e w1 ⟨rfl, hg⟩
  have b0 : Box w1 w.heap.size 4 (.bool false) := (Box.new w _ _).gr hg
  have HB0 := Lib.hid b0
  clear b0
  gi_wp2_with fail
  refine ⟨trivial, ?_⟩
  refine (callsIn_wide.2 (splitSeqPub_c _ _)).mono ?_
  rintro e w2 ⟨rfl, rfl⟩
  gi_wp2_with fail
  have x1 := ((Box.new w1 9 (.string s)).alloc (.cells #[.string ⟨#[46]⟩] 9)).alloc (.cells #[.int .i64 0] 3)
  have x2 := (Box.new (w1.alloc (.cells #[.string s] 9)) 9 (.string ⟨#[46]⟩)).alloc (.cells #[.int .i64 0] 3)
  have x3 := Box.new ((w1.alloc (.cells #[.string s] 9)).alloc (.cells #[.string ⟨#[46]⟩] 9)) 3 (.int .i64 0)
  simp only [World.size_alloc] at x2 x3
  obtain ⟨W2, hW2⟩ : ∃ W2, W2 = ((w1.alloc (.cells #[.string s] 9)).alloc (.cells #[.string ⟨#[46]⟩] 9)).alloc (.cells #[.int .i64 0] 3) := ⟨_, rfl⟩
  rw [← hW2] at x1 x2 x3 ⊢
  have g2 : Gr w1 W2 := by rw [hW2]; exact ((Gr.alloc _ _).trans (Gr.alloc _ _)).trans (Gr.alloc _ _)
  have gw : Gr w w1 := (Gr.alloc _ _).trans hg
  have z1 : w.heap.size < w1.heap.size := by have := hg.size; simp at this; omega
  have z2 : w1.heap.size + 1 + 1 < W2.heap.size := x3.lt
  have B0 := HB0.out.gr g2
  clear hW2
  refine wpIn_rangeFunc_X (P := Tryz.prog) (gf := 264) rfl (enters_of Tryz.func264 (by kernel_rfl) rfl)
    (split_seq s w1.heap.size (w1.heap.size + 1) (w1.heap.size + 1 + 1) W2 hs x1 x2 x3 (by omega) (by omega)) (by omega) (fun k hk => by omega)
    (fun h k => ⟨k.1.trans h.1, k.2.1.trans h.2.1, k.2.2.trans h.2.2⟩)
    (fun W l o o' hl _ _ => ⟨World.putObj_heap_other (by omega), World.putObj_heap_other (by omega), World.putObj_heap_other (by omega)⟩)
    (Gr.refl _) (fun _ => rfl)
    (fun pre W => Box W w.heap.size 4 (.bool false) ∧ allL pre = true ∧ Below w.heap.size w W)
    (fun c pre W => c = .ret ∧ Box W w.heap.size 4 (.bool false) ∧ allL pre = false ∧ Below w.heap.size w W)
    ?hI ?hIx ⟨B0, rfl, (gw.trans g2)⟩ (fun x a' _ => a' = { tmps := #[.string s, undef, .pointer (some ⟨w.heap.size, 0, none⟩), .string x.1, undef, undef, .string s, .bool true, .bool false, .string s,
      .func (.func 264) #[] #[.pointer (some ⟨w1.heap.size + 1, 0, none⟩), .pointer (some ⟨w1.heap.size, 0, none⟩), .pointer (some ⟨w1.heap.size + 1 + 1, 0, none⟩)], .string x.1, undef, undef, undef, undef, undef, undef, undef, undef, undef, undef, undef, undef, undef, undef, undef, undef, undef, undef, undef, undef, undef, undef, undef, undef, undef, undef, undef, undef, undef], defers := [] }) ?assign ?hAx ?body ?done ?stop
  case hI =>
    rintro pre W W' ⟨hb, ha, hbl⟩ g
    have hn : ∀ k, k ≤ w.heap.size → ¬ TurnX (fun k => k = w1.heap.size) W2.heap.size W k := fun k hk h => by rcases h with h | ⟨h, _⟩ <;> omega
    exact ⟨(g.block _ hb.lt (hn _ (Nat.le_refl _))).trans hb, ha, hbl.trans ⟨g.os, g.tape, g.output, g.size, fun k hk => g.block k (by have := hbl.size; omega) (hn k (by omega))⟩⟩
  case hIx =>
    rintro c pre W W' ⟨hc, hb, ha, hbl⟩ g
    have hn : ∀ k, k ≤ w.heap.size → ¬ TurnX (fun k => k = w1.heap.size) W2.heap.size W k := fun k hk h => by rcases h with h | ⟨h, _⟩ <;> omega
    exact ⟨hc, (g.block _ hb.lt (hn _ (Nat.le_refl _))).trans hb, ha, hbl.trans ⟨g.os, g.tape, g.output, g.size, fun k hk => g.block k (by have := hbl.size; omega) (hn k (by omega))⟩⟩
  case assign =>
    intro l pre x W K hi hK
    gi_wp2
    exact hK _ _ (KeepsFrom.refl _ _) ⟨rfl, rfl, rfl⟩ hi rfl
  case hAx => exact fun x a' _ W W' h _ => h
  case body =>
    rintro l pre ⟨x, hxs⟩ a' W ⟨hb, ha, hbl⟩ rfl hl hr
    dsimp only
    have HA := Lib.hid ha
    have c0 := hb.cell
    have f0 := hb.frozen
    clear ha hr
    have hbs : Below w.heap.size w (W.setCell ⟨w.heap.size, 0, none⟩ (.bool false)) := hbl.setCell (Nat.le_refl _) _
    have hks : KeepsFrom W2.heap.size W (W.setCell ⟨w.heap.size, 0, none⟩ (.bool false)) := (KeepsOthers.setCell _ _ _).from _
    have hbx := hb.set (.bool false)
    by_cases hx : x.toList = []
    · have hx2 : x.toList.isEmpty = true := by simp [hx]
      gi_wp2
      exact ⟨hks, rfl, hbx, allL_no _ _ (by simp [labelB, empty_size hx]), hbs⟩
    · have hx2 : x.toList.isEmpty = false := by simp [hx]
      have hpos := size_pos hx
      have HK := Lib.hid hks
      have HX := Lib.hid hbx
      have HBS := Lib.hid hbs
      clear hx hks hbx hbs
      gi_wp2
      gi_loopw [4, 5, 16] (fun _ _ i wr => W = wr ∧ ∃ k : Nat, k ≤ x.size ∧ i = .int .i64 k ∧ (x.data.toList.take k).all realmChar = true) (fun _ _ i _ => x.size - (intOf i).toNat)
      case atStart => exact ⟨rfl, 0, Nat.zero_le _, rfl, by simp⟩
      case round =>
        obtain ⟨rfl, k, hk, rfl, hall⟩ := hrel
        have HL := Lib.hid hall
        clear hall
        by_cases hlt : k < x.size
        · rcases realm_cases x[k] with ⟨a1, a2, hv⟩ | ⟨a1, a2, hv⟩ | ⟨a1, a2, hv⟩ | ⟨a1, a2, hv⟩ | ⟨a1, a2, hv⟩ | ⟨a1, a2, hv⟩
          all_goals have HV := Lib.hid hv
          all_goals clear hv
          · gi_wp2
            go_roundw
            case rel => exact ⟨trivial, k + 1, by omega, by go_num, all_snoc hlt HL.out HV.out⟩
            case measure => simp [intOf]; omega
          · gi_wp2
            go_roundw
            case rel => exact ⟨trivial, k + 1, by omega, by go_num, all_snoc hlt HL.out HV.out⟩
            case measure => simp [intOf]; omega
          · gi_wp2
            go_roundw
            case rel => exact ⟨trivial, k + 1, by omega, by go_num, all_snoc hlt HL.out HV.out⟩
            case measure => simp [intOf]; omega
          all_goals
            gi_wp2
            exact ⟨HK.out, rfl, HX.out, allL_no _ _ (by simp only [labelB, all_not hlt HV.out, Bool.and_false]), HBS.out⟩
        · gi_wp2
          have e := all_end hlt HL.out
          exact ⟨KeepsFrom.refl _ _, ⟨rfl, rfl, rfl⟩, hb, allL_yes _ _ HA.out (by simp [labelB, e, hpos]), hbl⟩
  case done =>
    rintro D xs W hD hxs ⟨hb, ha, hbl⟩ hK
    have HX := Lib.hid hxs
    have HA := Lib.hid ha
    clear hxs ha
    have c0 := hb.cell
    have f0 := hb.frozen
    gi_wp2
    have hK2 : (W.setCell ⟨w.heap.size, 0, none⟩ (.bool true)).heap[D]? = some (.deferred (some [])) := (KeepsOthers.setCell _ _ _).same D _ hK rfl
    have hb2 := hb.set (.bool true)
    refine ⟨by simp, .inl ⟨_, _, rfl, run_takeDeferred hK2, ?_⟩⟩
    have hb3 : Box ((W.setCell ⟨w.heap.size, 0, none⟩ (.bool true)).putObj D (.deferred none)) w.heap.size 4 (.bool true) := (World.putObj_heap_other (by omega)).trans hb2
    have c3 := hb3.cell
    refine ⟨.bool true, ?_, ?_⟩
    · simp [results, Tryz.results136, go_sem, c3]
    · refine ⟨ret_bool ?_, (hbl.setCell (Nat.le_refl _) _).trans ⟨rfl, rfl, rfl, by simp, fun k hk => World.putObj_heap_other (by omega)⟩⟩
      rw [HB.out, ← HX.out]
      exact HA.out.symm
  case stop =>
    rintro D c pre W hD hpre ⟨rfl, hb, ha, hbl⟩ hK
    have HP := Lib.hid hpre
    have HA := Lib.hid ha
    clear hpre ha
    gi_wp2
    refine ⟨by simp, .inl ⟨_, _, rfl, run_takeDeferred hK, ?_⟩⟩
    have hb3 : Box (W.putObj D (.deferred none)) w.heap.size 4 (.bool false) := (World.putObj_heap_other (by omega)).trans hb
    have c3 := hb3.cell
    refine ⟨.bool false, ?_, ?_⟩
    · simp [results, Tryz.results136, go_sem, c3]
    · refine ⟨ret_bool ?_, hbl.trans ⟨rfl, rfl, rfl, by simp, fun k hk => World.putObj_heap_other (by omega)⟩⟩
      obtain ⟨rest, hr⟩ := HP.out
      rw [HB.out, ← hr, List.all_append]
      have e : (pre.map (·.1)).all labelB = false := HA.out
      rw [e]; rfl

theorem realm_c (s : ByteArray) (w : World) (hs : s.size ≤ 140737488355328) (B : Bool) (HB : Hid (B = realmB s)) : Calls Tryz.prog 136 #[.string s] w (Ret w (.bool B)) := by
  have e := HB.out
  unfold realmB at e
  by_cases h : sizedB s = true
  · rw [h, Bool.true_and] at e
    exact realm_yes s w hs h B (Lib.hid e)
  · have h' : sizedB s = false := by simpa using h
    rw [h', Bool.false_and] at e
    rw [e]
    exact realm_no s w hs h'
end Go.Proofs.YthmoognbccfpiaaGreatDoor

/- Contracts: names. -/
namespace Go.Proofs.YthmoognbccfpiaaGreatDoor
open Go Go.Sx Go.Proofs
set_option maxRecDepth 100000
set_option maxHeartbeats 4000000
set_option linter.unusedSimpArgs false

def szB (s : ByteArray) : Bool := decide (1 ≤ (s.size : Int)) && decide ((s.size : Int) ≤ 32)
theorem szd_c (s : ByteArray) : PC Tryz.prog 189 [rS s] (rB (szB s)) := by
 refine pc_of rfl rfl ?_
 refine runE mixed fi189 ?_
 grind [szB]
def visC (c : UInt8) : Bool := decide (33 ≤ (c.toNat : Int)) && decide ((c.toNat : Int) ≤ 126)
theorem visC_of {c : UInt8} (h1 : ¬ (c.toNat : Int) < 33) (h2 : ¬ 126 < (c.toNat : Int)) : visC c = true := by simp [visC]; omega
theorem visC_lo {c : UInt8} (h1 : (c.toNat : Int) < 33) : visC c = false := by simp [visC]; omega
theorem visC_hi {c : UInt8} (h1 : 126 < (c.toNat : Int)) : visC c = false := by simp [visC]; omega
def visB (s : ByteArray) : Bool := allN s.size fun j => visC (s.data.toList.getD j 0)
theorem prt_c (s : ByteArray) (hs : s.size ≤ 140737488355328) : PC Tryz.prog 137 [rS s] (rB (visB s && szB s)) := by
 refine pc_of rfl rfl ?_
 refine runE mixed fi137 ?_
 refine si_cnt 6 s.size (fun j => visC (s.data.toList.getD j 0) = true) ?_ fun i hi hall => ?_
 · with_reducible refine sxE ?_; trivial
 refine goE mixed ?_
 refine ⟨fun hlt => ⟨⟨by omega, hlt⟩, fun h33 => ⟨⟨by omega, hlt⟩, fun h126 => ?_, fun h126 => cnt_next hlt hall ?_ ?_⟩, fun h33 => ?_⟩, fun hge => callI_pure (szd_c s) ?_⟩
 · rw [show visB s = false from allN_false hlt (visC_hi h126)]; rfl
 · exact visC_of h33 h126
 · with_reducible refine sxE ?_
   rw [wrap_succ (by omega)]
 · rw [show visB s = false from allN_false hlt (visC_lo h33)]; rfl
 · refine goE mixed ?_
   rw [show visB s = true from allN_true fun j hj => hall j (by omega)]; rfl

def fidx (l : List Bool) : Int := if l.all id then -1 else ((l.findIdx (!·) : Nat) : Int)
theorem fidx_at {l : List Bool} {i : Nat} (hlt : i < l.length) (hall : ∀ j, j < i → l.getD j false = true) (h : l.getD i false = false) : fidx l = i := by
 have h1 : ¬ l.all id = true := fun ha => by
  rw [List.all_eq_true] at ha
  have := ha _ (getD_mem (d := false) hlt)
  rw [h] at this; cases this
 unfold fidx
 rw [if_neg h1, Int.ofNat_inj, List.findIdx_eq hlt]
 refine ⟨by rw [List.getD_eq_getElem?_getD, List.getElem?_eq_getElem hlt] at h; simpa using h, fun j hj => ?_⟩
 have := hall j hj
 rw [List.getD_eq_getElem?_getD, List.getElem?_eq_getElem (by omega)] at this
 simpa using this
theorem fidx_no {l : List Bool} (hall : ∀ j, j < l.length → l.getD j false = true) : fidx l = -1 := by
 have h1 : l.all id = true := by
  rw [List.all_eq_true]
  intro x hx
  obtain ⟨j, hj, rfl⟩ := List.getElem_of_mem hx
  have := hall j hj
  rw [List.getD_eq_getElem?_getD, List.getElem?_eq_getElem hj] at this
  simpa using this
 unfold fidx
 rw [if_pos h1]
theorem bindex_c (l : List Bool) (hl : l.length ≤ 1125899906842624) : PC Tryz.prog 238 [.isl .bool l, rB false] (rI (fidx l)) := by
 refine pc_of rfl rfl ?_
 refine runE mixed fi238 ?_
 refine si_cnt 8 l.length (fun j => l.getD j false = true) ?_ fun i hi hall => ?_
 · with_reducible refine sxE ?_; trivial
 refine goE mixed ?_
 refine ⟨fun hlt => ⟨⟨by omega, hlt⟩, fun h => ?_, fun h => cnt_next hlt hall ?_ ?_⟩, fun hge => ?_⟩
 · rw [fidx_at hlt hall h.symm]
 · simpa [Ty.dflt] using h
 · with_reducible refine sxE ?_
   rw [wrap_succ (by omega)]
 · rw [fidx_no (fun j hj => hall j (by omega))]
theorem bcontains_c (l : List Bool) (hl : l.length ≤ 1125899906842624) : PC Tryz.prog 188 [.isl .bool l, rB false] (rB (!l.all id)) := by
 refine pc_of rfl rfl ?_
 refine runE mixed fi188 ?_
 refine callI_pure (bindex_c l hl) ?_
 refine goE mixed ?_
 unfold fidx
 split
 · simp_all
 · rename_i h
   simp [h]
theorem nall_c (l : List Bool) (hl : l.length ≤ 1125899906842624) : PC Tryz.prog 135 [.isl .bool l] (rB (l.all id)) := by
 refine pc_of rfl rfl ?_
 refine runE mixed fi135 ?_
 refine callI_pure (bcontains_c l hl) ?_
 refine goE mixed ?_
 simp

theorem rlm_c (s : ByteArray) (hs : s.size ≤ 140737488355328) : PC Tryz.prog 136 [rS s] (rB (realmB s)) :=
 pc_calls (vs := [.string s]) (by kernel_rfl) fun w => realm_c s w hs _ (Lib.hid rfl)

def vPart (s : ByteArray) : Bool := visB s && szB s
def vPrin (p : Prin) : Bool := (decide (1 ≤ (p.1.length : Int)) && (decide ((p.1.length : Int) ≤ 4) && realmB p.2)) && allN p.1.length fun j => vPart (p.1.getD j ByteArray.empty)
theorem nvalid_c (p : Prin) (hp : PrinT.ok p) : PC Tryz.prog 73 [.agg (PrinT.cells p)] (rB (vPrin p)) := by
 obtain ⟨l, r⟩ := p
 refine pc_of rfl rfl ?_
 refine runE mixed fi73 ?_
 refine callR_pure (rlm_c r hp.2) ?_
 refine goE mixed ?_
 refine callR_hand 1 (by decide) ?_
 with_reducible refine sxE ?_
 refine callR_pure (nall_c _ (by simp)) ?_
 refine run_sound mixed 600 _ ?_
 simp (maxSteps := 3000000) only [List.all_cons, List.all_nil, id, go_sem, ↓zA, ↓reduceIte, ↓reduceDIte, reduceCtorEq, Nat.reduceAdd, Nat.reduceSub, Nat.reduceLeDiff, Nat.reduceLT, Nat.reduceEqDiff, Nat.reduceBEq, Nat.reduceMul, Int.reduceToNat, Int.reduceEq, Int.reduceLT, Int.reduceLE] <;> try simp only [zB]
 refine ⟨fun h => ?_, fun h => ?_⟩
 · rw [vPrin, h]; rfl
 refine si_cnt 22 l.length (fun j => vPart (l.getD j ByteArray.empty) = true) ?_ fun i hi hall => ?_
 · with_reducible refine sxE ?_; trivial
 have hl : l.length ≤ 1125899906842624 := hp.1.1
 refine goE mixed ?_
 refine ⟨fun hlt => ⟨⟨by omega, hlt⟩, callI_pure (prt_c _ (hp.1.2 _ (getD_mem hlt))) ?_⟩, fun hge => ?_⟩
 · refine goE mixed ?_
   refine ⟨fun hb => ?_, fun hb => cnt_next hlt hall hb ?_⟩
   · rw [vPrin, show (allN l.length fun j => vPart (l.getD j ByteArray.empty)) = false from allN_false hlt hb]; simp
   · with_reducible refine sxE ?_
     rw [wrap_succ (by omega)]
 · rw [vPrin, h, show (allN l.length fun j => vPart (l.getD j ByteArray.empty)) = true from allN_true fun j hj => hall j (by omega)]; rfl
end Go.Proofs.YthmoognbccfpiaaGreatDoor

/- Contracts: the text of a principal. -/
namespace Go.Proofs.YthmoognbccfpiaaGreatDoor
open Go Go.Sx Go.Proofs
set_option maxRecDepth 100000
set_option maxHeartbeats 4000000
set_option linter.unusedSimpArgs false

end Go.Proofs.YthmoognbccfpiaaGreatDoor

/- Contracts: the encoding. -/
namespace Go.Proofs.YthmoognbccfpiaaGreatDoor
open Go Go.Sx Go.Proofs
set_option maxRecDepth 100000
set_option maxHeartbeats 4000000
set_option linter.unusedSimpArgs false

def byteOf (x : Int) : UInt8 := UInt8.ofNat (IntKind.u8.wrap x).toNat
theorem u8wrap (x : Int) : 0 ≤ IntKind.u8.wrap x ∧ IntKind.u8.wrap x < 256 := by
 have h : IntKind.u8.wrap x = x % 256 := by simp [IntKind.wrap, IntKind.bits, IntKind.signed]
 rw [h]
 omega
theorem byte_ob (x : Int) : ((UInt8.ofNat (IntKind.u8.wrap x).toNat).toNat : Int) = IntKind.u8.wrap x := by
 have := u8wrap x
 rw [UInt8.toNat_ofNat']; omega
theorem tag_ob (c : UInt8) : ((UInt8.ofNat c.toNat).toNat : Int) = c.toNat := by simp
def lenS (n : Nat) : List UInt8 :=
 if n < 128 then [byteOf n] else if n < 256 then [129, byteOf n] else if n < 65536 then [130, byteOf ((n : Int).fdiv 256), byteOf n] else [131, byteOf ((n : Int).fdiv 65536), byteOf ((n : Int).fdiv 256), byteOf n]
def tlv (tag : UInt8) (c : List UInt8) : List UInt8 := tag :: (lenS c.length ++ c)
def elemS (tag : UInt8) (parts : List (List UInt8)) : List UInt8 := if parts.flatten.length ≤ 16777215 then tlv tag parts.flatten else []
def flatN (parts : List (List UInt8)) (i : Nat) : List UInt8 := (parts.take i).flatten
theorem flatN_succ {parts : List (List UInt8)} {i : Nat} (h : i < parts.length) : flatN parts (i + 1) = flatN parts i ++ parts.getD i (Ty.slice .u8).dflt := by
 unfold flatN; rw [take_succ_getD (d := (Ty.slice .u8).dflt) h]; simp
theorem flatN_all (parts : List (List UInt8)) : flatN parts parts.length = parts.flatten := by unfold flatN; rw [List.take_length]
theorem flatN_le (parts : List (List UInt8)) (i : Nat) : (flatN parts i).length ≤ parts.flatten.length := by
 unfold flatN
 have := congrArg List.flatten (List.take_append_drop i parts)
 rw [List.flatten_append] at this
 rw [← this]; simp
def fitAt (parts : List (List UInt8)) (j : Nat) : Bool := decide ((flatN parts (j + 1)).length ≤ 16777215)

theorem element_c (tag : UInt8) (parts : List (List UInt8)) (hp : parts.length ≤ 1125899906842624) : PC Tryz.prog 142 [.raw (.int .u8 tag.toNat), .isl (.slice .u8) parts] (.isl .u8 (elemS tag parts)) := by
 refine pc_seal rfl rfl ?_
 refine runE mixed fi142 ?_
 refine si_cntD (fun i => [(5, rI ((flatN parts i).length)), (13, .raw (.int .i64 ((i : Nat) : Int)))]) (parts.length) (fun j => (fitAt parts) j = true) (by first | decide | simp) (fun i => rfl) ?_ fun i hi hall => ?_
 · (with_reducible refine sxE ?_ <;> try exact True.intro)
   all_goals (try rfl)
 have hwr : IntKind.i64.wrap ((i : Int) + 1) = ((i + 1 : Nat) : Int) := wrap_succ (by omega)
 refine goE mixed ?_
 have bad : i < (parts.length) → (fitAt parts) i = false → allN (parts.length) (fitAt parts) = false := fun hlt hv => allN_false hlt hv
 have fin : ¬ i < (parts.length) → allN (parts.length) (fitAt parts) = true := fun h => allN_true fun j hj => hall j (by omega)
 try dsimp only at bad fin hall
 have hn : (flatN parts i).length ≤ 16777215 := by
  cases i with
  | zero => simp [flatN]
  | succ j => have := hall j (by omega); simpa [fitAt] using this
 rw [wrapi (n := 16777215 - ((flatN parts i).length : Int)) (by omega), wrapi (n := ((flatN parts i).length : Int) + 5) (by omega)]
 refine ⟨fun hlt => ⟨⟨by omega, hlt⟩, fun hbig => ?_, fun hfit => ?_⟩, fun hge => ?_⟩
 · have h1 := flatN_le parts (i + 1)
   rw [flatN_succ hlt, List.length_append] at h1
   unfold elemS
   rw [if_neg (by omega)]
 · have h2 : ((flatN parts i).length : Int) + ((parts.getD i (Ty.slice .u8).dflt).length : Int) = ((flatN parts (i + 1)).length : Int) := by rw [flatN_succ hlt, List.length_append]; rfl
   have h3 : (flatN parts (i + 1)).length ≤ 16777215 := by omega
   refine ⟨hlt, next_all hall (by simpa [fitAt] using h3), ⟨_, rfl⟩, ?_⟩
   rw [h2, wrapi (n := ((flatN parts (i + 1)).length : Int)) (by omega)]
   with_reducible refine sx1 hwr ?_; trivial
 · obtain rfl : i = parts.length := by omega
   rw [flatN_all] at *
   have he : elemS tag parts = tag :: (lenS parts.flatten.length ++ flatN parts parts.length) := by unfold elemS tlv; rw [if_pos hn, flatN_all]
   refine ⟨⟨by omega, by omega, by omega⟩, tag_ob tag, fun h1 => ⟨byte_ob _, ?_⟩, fun h1 => ⟨fun h2 => ⟨?_, ?_⟩, fun h2 => ⟨fun h3 => ⟨?_, ?_⟩, fun h3 => ⟨?_, ?_⟩⟩⟩⟩
   any_goals (repeat' (first | exact byte_ob _ | exact rfl | with_reducible refine And.intro ?_ ?_))
   have hL : lenS parts.flatten.length = [byteOf parts.flatten.length] := by unfold lenS; rw [if_pos (by omega)]
   rotate_left
   have hL : lenS parts.flatten.length = [129, byteOf parts.flatten.length] := by unfold lenS; rw [if_neg (by omega), if_pos (by omega)]
   rotate_left
   have hL : lenS parts.flatten.length = [130, byteOf ((parts.flatten.length : Int).fdiv 256), byteOf parts.flatten.length] := by unfold lenS; rw [if_neg (by omega), if_neg (by omega), if_pos (by omega)]
   rotate_left
   have hL : lenS parts.flatten.length = [131, byteOf ((parts.flatten.length : Int).fdiv 65536), byteOf ((parts.flatten.length : Int).fdiv 256), byteOf parts.flatten.length] := by unfold lenS; rw [if_neg (by omega), if_neg (by omega), if_neg (by omega)]
   rotate_left
   all_goals
    refine si_accB (H := [_, _, _, _]) 8 .u8 (fun i => tag :: (lenS parts.flatten.length ++ flatN parts i)) (fun i => [(44, .any), (52, .any), (60, .any), (71, .any), (74, rI i)]) parts.length (fun _ => True) (by rw [hL]; simp [flatN, byteOf]) (by simp) rfl (fun i => rfl) ?_ fun i hi _ => ?_
    · with_reducible refine sx1 hL ?_
      simp [flatN]
    have hwr : IntKind.i64.wrap ((i : Int) + 1) = ((i + 1 : Nat) : Int) := wrap_succ (by omega)
    have hfl := flatN_le parts i
    have hll : (lenS parts.flatten.length).length ≤ 4 := by rw [hL]; simp
    refine goE mixed ?_
    have e1 : (lenS parts.flatten.length ++ flatN parts i).length = (lenS parts.flatten.length).length + (flatN parts i).length := List.length_append
    refine ⟨fun hlt => ?_, fun hge => ?_⟩
    · have h4 := flatN_le parts (i + 1)
      have h5 := flatN_succ hlt
      rw [h5, List.length_append] at h4
      refine ⟨⟨by omega, hlt⟩, ⟨by omega, by omega⟩, acc_next [.dead] [] hlt trivial (by rw [h5, ← List.append_assoc]; rfl) ?_⟩
      with_reducible refine sx3 hwr h5 ?_
      exact congrArg (SV.bld 5 .u8) (by omega)
    · obtain rfl : i = parts.length := by omega
      rw [List.take_of_length_le (Nat.le_refl _)]
      exact ⟨⟨Nat.le_refl _, by omega⟩, he.symm⟩
end Go.Proofs.YthmoognbccfpiaaGreatDoor

