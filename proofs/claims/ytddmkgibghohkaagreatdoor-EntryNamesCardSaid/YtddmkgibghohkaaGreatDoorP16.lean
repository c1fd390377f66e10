/-
  Contracts: strings.Index at a point, strings.SplitSeq at a point.
-/
import Derived.Test.YtddmkgibghohkaaGreatDoorP15
import Derived.Lib.Bytealg
import Derived.Lib.Strings
import Derived.Lib.IndexBytes
import Derived.Shelf.Abstract
import Derived.Shelf.RegionOpen
import Derived.OwnWalkIn
import Derived.TacticsInMore
import Derived.LoopNIn
import Derived.LoopIn
import Derived.RangeFuncBox
set_option linter.unusedSimpArgs false
set_option linter.unusedVariables false
set_option linter.unusedSectionVars false
namespace Go.Proofs.YtddmkgibghohkaaGreatDoor
open Go Go.RowKit

set_option maxHeartbeats 1000000 in
set_option maxRecDepth 100000 in
theorem indexByte_c (s : ByteArray) (c : Int) (w : World) :
    Calls Tryz.prog 340 #[.string s, .int .u8 c] w fun e w' => e = .returned (.int .i64 (Lib.indexByte s.data.toList c.toNat.toUInt8)) ∧ w' = w := by
  go_enter Tryz.func340, Tryz.ntmps340
  go_wp2
  rw [run_callFunc_extern Tryz.func351 (by kernel_rfl) (by kernel_rfl) (by kernel_rfl) (e := Extern.BytealgIndexByte.indexByte) (by kernel_rfl), Lib.run_indexByteString]
  simp only [Result.andThen]
  rw [Oper.upon_value]
  go_wp2
  go_ret
  exact ⟨rfl, rfl⟩

set_option maxHeartbeats 1000000 in
set_option maxRecDepth 100000 in
theorem liteIndex_c (s : ByteArray) (w : World) :
    Calls Tryz.prog 322 #[.string s, .string ⟨#[46]⟩] w fun e w' => e = .returned (.int .i64 (Lib.indexByte s.data.toList 46)) ∧ w' = w := by
  by_cases he : s = ⟨#[46]⟩
  · subst he
    go_enter Tryz.func322, Tryz.ntmps322
    go_wp2
    go_ret
    exact ⟨ret_int (by decide), rfl⟩
  · have hne : ([46] == s.toList) = false := by
      rw [beq_eq_false_iff_ne]
      exact fun h => he (ba_toList_inj (h.symm.trans (by rw [ByteArray.toList_eq])))
    go_enter Tryz.func322, Tryz.ntmps322
    go_wp2_with (go_at_call 340; refine (indexByte_c _ _ _).mono ?_; rintro e w' ⟨rfl, rfl⟩)
    go_ret
    exact ⟨ret_int rfl, rfl⟩

theorem index_c (s : ByteArray) (w : World) :
    Calls Tryz.prog 299 #[.string s, .string ⟨#[46]⟩] w fun e w' => e = .returned (.int .i64 (Lib.indexByte s.data.toList 46)) ∧ w' = w := by
  go_enter Tryz.func299, Tryz.ntmps299
  go_wp2_with (go_at_call 322; refine (liteIndex_c _ _).mono ?_; rintro e w' ⟨rfl, rfl⟩)
  go_ret
  exact ⟨rfl, rfl⟩

theorem splitSeq_c (s : ByteArray) (w : World) :
    Calls Tryz.prog 279 #[.string s, .string ⟨#[46]⟩, .int .i64 0] w fun e w' =>
      e = .returned (.func (.func 297) #[] #[.pointer (some ⟨w.heap.size + 1, 0, none⟩), .pointer (some ⟨w.heap.size, 0, none⟩), .pointer (some ⟨w.heap.size + 1 + 1, 0, none⟩)]) ∧
      w' = (((w.alloc (.cells #[.string s] 9)).alloc (.cells #[.string ⟨#[46]⟩] 9)).alloc (.cells #[.int .i64 0] 3)) := by
  go_enter Tryz.func279, Tryz.ntmps279
  go_wp2
  go_ret
  exact ⟨rfl, rfl⟩

theorem splitSeqPub_c (s : ByteArray) (w : World) :
    Calls Tryz.prog 253 #[.string s, .string ⟨#[46]⟩] w fun e w' =>
      e = .returned (.func (.func 297) #[] #[.pointer (some ⟨w.heap.size + 1, 0, none⟩), .pointer (some ⟨w.heap.size, 0, none⟩), .pointer (some ⟨w.heap.size + 1 + 1, 0, none⟩)]) ∧
      w' = (((w.alloc (.cells #[.string s] 9)).alloc (.cells #[.string ⟨#[46]⟩] 9)).alloc (.cells #[.int .i64 0] 3)) := by
  go_enter Tryz.func253, Tryz.ntmps253
  go_wp2_with (go_at_call 279; refine (splitSeq_c _ _).mono ?_; rintro e w' ⟨rfl, rfl⟩)
  go_ret
  exact ⟨rfl, rfl⟩
def splitGo : List UInt8 → List UInt8 → List (List UInt8)
  | cur, [] => [cur.reverse]
  | cur, c :: cs => if c == 46 then cur.reverse :: splitGo [] cs else splitGo (c :: cur) cs
def splitDot (l : List UInt8) : List (List UInt8) := splitGo [] l

theorem splitGo_none : ∀ (l cur : List UInt8), Lib.indexByte l 46 = -1 → splitGo cur l = [cur.reverse ++ l]
  | [], cur, _ => by simp [splitGo]
  | c :: l, cur, h => by
    unfold Lib.indexByte at h
    by_cases hc : (c == 46) = true
    · rw [if_pos hc] at h; omega
    · have hg := Lib.indexByte_ge l 46
      rw [if_neg hc] at h
      have h' : Lib.indexByte l 46 = -1 := by
        by_cases h2 : (Lib.indexByte l 46 == -1) = true
        · simpa using h2
        · rw [if_neg h2] at h
          simp at h2
          omega
      unfold splitGo
      rw [if_neg hc, splitGo_none l (c :: cur) h']
      simp

theorem splitGo_some : ∀ (l cur : List UInt8) (i : Nat), Lib.indexByte l 46 = (i : Int) → i < l.length ∧ splitGo cur l = (cur.reverse ++ l.take i) :: splitGo [] (l.drop (i + 1))
  | [], cur, i, h => by unfold Lib.indexByte at h; omega
  | c :: l, cur, i, h => by
    unfold Lib.indexByte at h
    by_cases hc : (c == 46) = true
    · rw [if_pos hc] at h
      obtain rfl : i = 0 := by omega
      refine ⟨by simp, ?_⟩
      conv => lhs; unfold splitGo
      rw [if_pos hc]
      simp
    · rw [if_neg hc] at h
      by_cases h2 : (Lib.indexByte l 46 == -1) = true
      · rw [if_pos h2] at h; omega
      · rw [if_neg h2] at h
        have hg := Lib.indexByte_ge l 46
        simp at h2
        obtain ⟨j, rfl⟩ : ∃ j, i = j + 1 := ⟨i - 1, by omega⟩
        obtain ⟨h3, h4⟩ := splitGo_some l (c :: cur) j (by omega)
        refine ⟨by simp; omega, ?_⟩
        conv => lhs; unfold splitGo
        rw [if_neg hc, h4]
        simp

def splitB (s : ByteArray) : List ByteArray := (splitDot s.data.toList).map fun l => ⟨l.toArray⟩

theorem splitB_none (s : ByteArray) (h : Lib.indexByte s.data.toList 46 = -1) : splitB s = [s] := by
  unfold splitB splitDot
  rw [splitGo_none _ _ h]
  simp
theorem splitB_some (s : ByteArray) (i : Nat) (h : Lib.indexByte s.data.toList 46 = (i : Int)) : i < s.size ∧ splitB s = s.extract 0 i :: splitB (s.extract (i + 1) s.size) := by
  obtain ⟨h1, h2⟩ := splitGo_some s.data.toList [] i h
  refine ⟨by simpa using h1, ?_⟩
  unfold splitB splitDot
  rw [h2, Lib.extract_data, Lib.extract_eq]
  have : List.take (s.size - (i + 1)) (List.drop (i + 1) s.data.toList) = List.drop (i + 1) s.data.toList := by
    rw [List.take_of_length_le]; simp
  rw [this]
  simp

def Kp3 (b1 b2 b3 : Nat) (W W' : World) : Prop := W'.heap[b1]? = W.heap[b1]? ∧ W'.heap[b2]? = W.heap[b2]? ∧ W'.heap[b3]? = W.heap[b3]?

def Box (W : World) (b : Nat) (t : TypeId) (v : Value) : Prop := W.heap[b]? = some (.cells #[v] t (0, 0))
theorem Box.cell {W : World} {b : Nat} {t : TypeId} {v : Value} (h : Box W b t v) : W.cell? ⟨b, 0, none⟩ = some v := by unfold Box at h; simp [World.cell?, h]
theorem Box.frozen {W : World} {b : Nat} {t : TypeId} {v : Value} (h : Box W b t v) : W.frozen? ⟨b, 0, none⟩ = false := by unfold Box at h; simp [World.frozen?, h]
theorem Box.lt {W : World} {b : Nat} {t : TypeId} {v : Value} (h : Box W b t v) : b < W.heap.size := (Array.getElem?_eq_some_iff.1 h).1
theorem Box.set {W : World} {b : Nat} {t : TypeId} {v : Value} (h : Box W b t v) (u : Value) : Box (W.setCell ⟨b, 0, none⟩ u) b t u := by
  unfold Box at *
  simp [World.setCell, Array.getElem?_modify, h]
theorem Box.far {W : World} {b c : Nat} {t : TypeId} {v : Value} (h : Box W b t v) (hne : b ≠ c) (u : Value) : Box (W.setCell ⟨c, 0, none⟩ u) b t v := (Below.heap_setCell W ⟨c, 0, none⟩ u b hne).trans h
theorem Box.gr {W W' : World} {b : Nat} {t : TypeId} {v : Value} (h : Box W b t v) (g : Gr W W') : Box W' b t v := (g.block h.lt).trans h
theorem Box.new (W : World) (t : TypeId) (v : Value) : Box (W.alloc (.cells #[v] t)) W.heap.size t v := World.alloc_heap_new W _
theorem Box.alloc {W : World} {b : Nat} {t : TypeId} {v : Value} (h : Box W b t v) (o : Obj) : Box (W.alloc o) b t v := h.gr (Gr.alloc W o)

def strLeft (W : World) (b : Nat) : Nat := match W.cell? ⟨b, 0, none⟩ with | some (.string t) => t.size | _ => 0
theorem strLeft_of {W : World} {b : Nat} {t : TypeId} {s : ByteArray} (h : Box W b t (.string s)) : strLeft W b = s.size := by unfold strLeft; rw [h.cell]

attribute [local go_sem] Oper.semAt_some

abbrev Sm := { x : ByteArray // x.size ≤ 140737488355328 }

set_option maxHeartbeats 1000000 in
set_option maxRecDepth 100000 in
theorem split_seq (s : ByteArray) (bs bp bv : Nat) (w : World) (hs : s.size ≤ 140737488355328) (h1 : Box w bs 9 (.string s)) (h2 : Box w bp 9 (.string ⟨#[46]⟩)) (h3 : Box w bv 3 (.int .i64 0)) (n12 : bp ≠ bs) (n13 : bv ≠ bs) :
    SeqX Tryz.prog 297 #[.pointer (some ⟨bp, 0, none⟩), .pointer (some ⟨bs, 0, none⟩), .pointer (some ⟨bv, 0, none⟩)] (fun x : Sm => #[.string x.1]) (fun k => k = bs) (Kp3 bs bp bv)
      (fun xs => xs.map (·.1) = splitB s) (fun pre => pre.map (·.1) <+: splitB s) w := by
  intro l n J Jx W hW hJ hJx hY hJ0
  have b1 := h1.gr hW
  have b2 := h2.gr hW
  have b3 := h3.gr hW
  have c2 := b2.cell
  refine callsIn_of_wp Tryz.func297 rfl trivial ?_ rfl
  simp only [Tryz.ntmps297, List.size_toArray, List.length_cons, List.length_nil, Nat.reduceAdd, Nat.reduceSub, Array.replicate_succ, Array.replicate_zero, List.push_toArray, List.append_toArray, List.nil_append, List.cons_append]
  gi_wp2
  clear c2
  have hlen : ∀ t : ByteArray, t.size ≤ s.size → t.size ≤ 9223372036854775807 := fun t h => by omega
  have HL := Lib.hid hlen
  clear hlen
  gi_loopw [7] (fun _ wr => ∃ (pre : List Sm) (t : ByteArray), splitB s = pre.map (·.1) ++ splitB t ∧ t.size ≤ s.size ∧ Box wr bs 9 (.string t) ∧ Box wr bp 9 (.string ⟨#[46]⟩) ∧ Box wr bv 3 (.int .i64 0) ∧ J pre wr)
    (fun _ wr => strLeft wr bs)
  case atStart => exact ⟨[], s, rfl, Nat.le_refl _, b1, b2, b3, hJ0⟩
  case round =>
    obtain ⟨pre, t, hsp, hts, x1, x2, x3, hJs⟩ := hrel
    have HS := Lib.hid hsp
    clear hsp
    have c1 := x1.cell
    have c2 := x2.cell
    have c3 := x3.cell
    have f1 := x1.frozen
    have HX1 := Lib.hid x1
    have HX2 := Lib.hid x2
    have HX3 := Lib.hid x3
    clear x1 x2 x3 b1 b2 b3
    have ht := HL.out t hts
    have hge := Lib.indexByte_ge t.data.toList 46
    rcases Int.lt_or_le (Lib.indexByte t.data.toList 46) 0 with hi | hi
    · -- no point is left
      obtain ⟨fn, tmps, assign, body, hy, hR⟩ := hY pre ⟨t, by omega⟩ wr hJs
      gi_wp2_with fail
      refine ⟨trivial, (fun h => by cases h), ?_⟩
      refine (callsIn_wide.2 (index_c _ _)).mono ?_
      rintro e w' ⟨rfl, rfl⟩
      gi_wp2
      refine ⟨(fun h => by cases h), ?_⟩
      refine hR.mono ?_
      rintro e W3 (⟨rfl, hJ3, hk3⟩ | ⟨rfl, hJx3⟩)
      · gi_wp2
        go_end0
        have e := HS.out
        rw [splitB_none t (by omega)] at e
        exact ⟨⟨_, rfl⟩, .inl ⟨pre ++ [⟨t, by omega⟩], by rw [e]; simp, hJ3⟩⟩
      · gi_wp2
        go_end0
        have e := HS.out
        rw [splitB_none t (by omega)] at e
        exact ⟨⟨_, rfl⟩, .inr ⟨pre ++ [⟨t, by omega⟩], ⟨[], by rw [List.append_nil, e]; simp⟩, hJx3⟩⟩
    · obtain ⟨i, hi'⟩ : ∃ i : Nat, Lib.indexByte t.data.toList 46 = (i : Int) := ⟨_, (Int.toNat_of_nonneg hi).symm⟩
      obtain ⟨hil, hsp2⟩ := splitB_some t i hi'
      have HS2 := Lib.hid hsp2
      have HI := Lib.hid hi'
      clear hsp2
      obtain ⟨fn, tmps, assign, body, hy, hR⟩ := hY pre ⟨t.extract 0 i, by simp; omega⟩ wr hJs
      dsimp only at hy
      clear hge hi
      gi_wp2_with fail
      refine ⟨trivial, (fun h => by cases h), ?_⟩
      refine (callsIn_wide.2 (index_c _ _)).mono ?_
      rintro e w' ⟨rfl, rfl⟩
      gi_wp2
      refine ⟨(fun h => by cases h), ?_⟩
      refine hR.mono ?_
      rintro e W3 (⟨rfl, hJ3, hk3⟩ | ⟨rfl, hJx3⟩)
      · have y1 : Box W3 bs 9 (.string t) := hk3.1.trans HX1.out
        have y2 : Box W3 bp 9 (.string ⟨#[46]⟩) := hk3.2.1.trans HX2.out
        have y3 : Box W3 bv 3 (.int .i64 0) := hk3.2.2.trans HX3.out
        have d1 := y1.cell
        have d2 := y2.cell
        have d3 := y3.cell
        have g1 := y1.frozen
        have HY1 := Lib.hid y1
        have HY2 := Lib.hid y2
        have HY3 := Lib.hid y3
        clear y1 y2 y3 c1 c2 c3 f1
        gi_wp2
        go_roundw
        case rel =>
          refine ⟨pre ++ [⟨t.extract 0 i, by simp; omega⟩], t.extract (i + 1) t.size, ?_, ?_, HY1.out.set _, HY2.out.far n12 _, HY3.out.far n13 _, hJ _ _ _ hJ3 (GrX.setCell _ _ _ rfl)⟩
          · rw [HS.out, HS2.out]; simp
          · simp; omega
        case measure =>
          rw [strLeft_of (HY1.out.set _), strLeft_of HX1.out]
          simp; omega
      · gi_wp2
        refine bodyPost_ret (results_none rfl _ _ _) rfl ?_
        exact ⟨⟨_, rfl⟩, .inr ⟨pre ++ [⟨t.extract 0 i, by simp; omega⟩], ⟨splitB (t.extract (i + 1) t.size), by rw [HS.out, HS2.out]; simp⟩, hJx3⟩⟩
end Go.Proofs.YtddmkgibghohkaaGreatDoor
/-
  Contract: name.Realm.
-/
namespace Go.Proofs.YtddmkgibghohkaaGreatDoor
open Go Go.RowKit
attribute [local go_sem] Oper.semAt_some

def realmChar (c : UInt8) : Bool := (decide (65 ≤ c.toNat) && decide (c.toNat ≤ 90)) || (decide (48 ≤ c.toNat) && decide (c.toNat ≤ 57)) || c == 45
def labelB (l : ByteArray) : Bool := decide (0 < l.size) && l.data.toList.all realmChar
def allL (pre : List Sm) : Bool := (pre.map (·.1)).all labelB
theorem allL_snoc (pre : List Sm) (x : Sm) : allL (pre ++ [x]) = (allL pre && labelB x.1) := by simp [allL]
theorem allL_no (pre : List Sm) (x : Sm) (h : labelB x.1 = false) : allL (pre ++ [x]) = false := by rw [allL_snoc, h]; simp
theorem allL_yes (pre : List Sm) (x : Sm) (h0 : allL pre = true) (h : labelB x.1 = true) : allL (pre ++ [x]) = true := by rw [allL_snoc, h, h0]; rfl
def realmB (s : ByteArray) : Bool := sizedB s && (splitB s).all labelB

theorem empty_size {x : ByteArray} (h : x.toList = []) : x.size = 0 := by
  rw [ByteArray.toList_eq] at h
  simpa using congrArg List.length h
theorem size_pos {x : ByteArray} (h : ¬ x.toList = []) : 0 < x.size := by
  rcases Nat.eq_zero_or_pos x.size with h0 | h0
  · exact absurd (by rw [ByteArray.toList_eq]; exact List.eq_nil_of_length_eq_zero (by simpa using h0)) h
  · exact h0

theorem realm_cases (c : UInt8) :
    ((65 : Int) ≤ (c.toNat : Int) ∧ (c.toNat : Int) ≤ 90 ∧ realmChar c = true) ∨ ((48 : Int) ≤ (c.toNat : Int) ∧ (c.toNat : Int) ≤ 57 ∧ realmChar c = true) ∨
    ((c.toNat : Int) < 48 ∧ ((c.toNat : Int) != 45) = false ∧ realmChar c = true) ∨ ((c.toNat : Int) < 48 ∧ ((c.toNat : Int) != 45) = true ∧ realmChar c = false) ∨
    ((57 : Int) < (c.toNat : Int) ∧ (c.toNat : Int) < 65 ∧ realmChar c = false) ∨ ((90 : Int) < (c.toNat : Int) ∧ ((c.toNat : Int) != 45) = true ∧ realmChar c = false) := by
  have hc : (c == 45) = decide (c.toNat = 45) := by rw [Bool.eq_iff_iff]; simp [← UInt8.toNat_inj]
  unfold realmChar
  rw [hc]
  simp
  omega

set_option maxHeartbeats 1000000 in
set_option maxRecDepth 100000 in
theorem realm_no (s : ByteArray) (w : World) (hs : s.size ≤ 140737488355328) (h : sizedB s = false) : Calls Tryz.prog 215 #[.string s] w (Ret w (.bool false)) := by
  go_enter Tryz.func215, Tryz.ntmps215
  go_wp2_with fail
  refine (sized_c s _ hs false (Lib.hid h.symm)).mono ?_
  rintro e w1 ⟨rfl, hg⟩
  have b0 : Box w1 w.heap.size 4 (.bool false) := (Box.new w _ _).gr hg
  have c0 := b0.cell
  have f0 := b0.frozen
  go_wp2
  refine bodyPost_ret (v := .bool false) ?_ rfl ⟨rfl, ?_⟩
  · have := ((b0.set (.bool false)).cell)
    simp [results, Tryz.results215, go_sem, this]
  · exact ((Gr.alloc _ _).trans hg : Below _ _ _).setCell (Nat.le_refl _) _

set_option maxHeartbeats 1000000 in
set_option maxRecDepth 100000 in
theorem realm_yes (s : ByteArray) (w : World) (hs : s.size ≤ 140737488355328) (h : sizedB s = true) (B : Bool) (HB : Hid (B = (splitB s).all labelB)) : Calls Tryz.prog 215 #[.string s] w (Ret w (.bool B)) := by
  refine (callsIn_wide (n := 9)).1 ?_
  refine callsIn_of_wp_marks Tryz.func215 rfl trivial ?_ rfl
  simp only [Tryz.ntmps215, List.size_toArray, List.length_cons, List.length_nil, Nat.reduceAdd, Nat.reduceSub, Array.replicate_succ, Array.replicate_zero, List.push_toArray, List.append_toArray, List.nil_append, List.cons_append]
  gi_wp2_with fail
  refine ⟨trivial, ?_⟩
  refine (callsIn_wide.2 (sized_c s _ hs true (Lib.hid h.symm))).mono ?_
  rintro e w1 ⟨rfl, hg⟩
  have b0 : Box w1 w.heap.size 4 (.bool false) := (Box.new w _ _).gr hg
  have HB0 := Lib.hid b0
  clear b0
  gi_wp2_with fail
  refine ⟨trivial, ?_⟩
  refine (callsIn_wide.2 (splitSeqPub_c _ _)).mono ?_
  rintro e w2 ⟨rfl, rfl⟩
  gi_wp2_with fail
  have x1 := ((Box.new w1 9 (.string s)).alloc (.cells #[.string ⟨#[46]⟩] 9)).alloc (.cells #[.int .i64 0] 3)
  have x2 := (Box.new (w1.alloc (.cells #[.string s] 9)) 9 (.string ⟨#[46]⟩)).alloc (.cells #[.int .i64 0] 3)
  have x3 := Box.new ((w1.alloc (.cells #[.string s] 9)).alloc (.cells #[.string ⟨#[46]⟩] 9)) 3 (.int .i64 0)
  simp only [World.size_alloc] at x2 x3
  obtain ⟨W2, hW2⟩ : ∃ W2, W2 = ((w1.alloc (.cells #[.string s] 9)).alloc (.cells #[.string ⟨#[46]⟩] 9)).alloc (.cells #[.int .i64 0] 3) := ⟨_, rfl⟩
  rw [← hW2] at x1 x2 x3 ⊢
  have g2 : Gr w1 W2 := by rw [hW2]; exact ((Gr.alloc _ _).trans (Gr.alloc _ _)).trans (Gr.alloc _ _)
  have gw : Gr w w1 := (Gr.alloc _ _).trans hg
  have z1 : w.heap.size < w1.heap.size := by have := hg.size; simp at this; omega
  have z2 : w1.heap.size + 1 + 1 < W2.heap.size := x3.lt
  have B0 := HB0.out.gr g2
  clear hW2
  refine wpIn_rangeFunc_X (P := Tryz.prog) (gf := 297) rfl (enters_of Tryz.func297 (by kernel_rfl) rfl)
    (split_seq s w1.heap.size (w1.heap.size + 1) (w1.heap.size + 1 + 1) W2 hs x1 x2 x3 (by omega) (by omega)) (by omega) (fun k hk => by omega)
    (fun h k => ⟨k.1.trans h.1, k.2.1.trans h.2.1, k.2.2.trans h.2.2⟩)
    (fun W l o o' hl _ _ => ⟨World.putObj_heap_other (by omega), World.putObj_heap_other (by omega), World.putObj_heap_other (by omega)⟩)
    (Gr.refl _) (fun _ => rfl)
    (fun pre W => Box W w.heap.size 4 (.bool false) ∧ allL pre = true ∧ Below w.heap.size w W)
    (fun c pre W => c = .ret ∧ Box W w.heap.size 4 (.bool false) ∧ allL pre = false ∧ Below w.heap.size w W)
    ?hI ?hIx ⟨B0, rfl, (gw.trans g2)⟩ (fun x a' _ => a' = { tmps := #[.string s, undef, .pointer (some ⟨w.heap.size, 0, none⟩), .string x.1, undef, undef, .string s, .bool true, .bool false, .string s,
      .func (.func 297) #[] #[.pointer (some ⟨w1.heap.size + 1, 0, none⟩), .pointer (some ⟨w1.heap.size, 0, none⟩), .pointer (some ⟨w1.heap.size + 1 + 1, 0, none⟩)], .string x.1, undef, undef, undef, undef, undef, undef, undef, undef, undef, undef, undef, undef, undef, undef, undef, undef, undef, undef, undef, undef, undef, undef, undef, undef, undef, undef, undef, undef, undef], defers := [] }) ?assign ?hAx ?body ?done ?stop
  case hI =>
    rintro pre W W' ⟨hb, ha, hbl⟩ g
    have hn : ∀ k, k ≤ w.heap.size → ¬ TurnX (fun k => k = w1.heap.size) W2.heap.size W k := fun k hk h => by rcases h with h | ⟨h, _⟩ <;> omega
    exact ⟨(g.block _ hb.lt (hn _ (Nat.le_refl _))).trans hb, ha, hbl.trans ⟨g.os, g.tape, g.output, g.size, fun k hk => g.block k (by have := hbl.size; omega) (hn k (by omega))⟩⟩
  case hIx =>
    rintro c pre W W' ⟨hc, hb, ha, hbl⟩ g
    have hn : ∀ k, k ≤ w.heap.size → ¬ TurnX (fun k => k = w1.heap.size) W2.heap.size W k := fun k hk h => by rcases h with h | ⟨h, _⟩ <;> omega
    exact ⟨hc, (g.block _ hb.lt (hn _ (Nat.le_refl _))).trans hb, ha, hbl.trans ⟨g.os, g.tape, g.output, g.size, fun k hk => g.block k (by have := hbl.size; omega) (hn k (by omega))⟩⟩
  case assign =>
    intro l pre x W K hi hK
    gi_wp2
    exact hK _ _ (KeepsFrom.refl _ _) ⟨rfl, rfl, rfl⟩ hi rfl
  case hAx => exact fun x a' _ W W' h _ => h
  case body =>
    rintro l pre ⟨x, hxs⟩ a' W ⟨hb, ha, hbl⟩ rfl hl hr
    dsimp only
    have HA := Lib.hid ha
    have c0 := hb.cell
    have f0 := hb.frozen
    clear ha hr
    have hbs : Below w.heap.size w (W.setCell ⟨w.heap.size, 0, none⟩ (.bool false)) := hbl.setCell (Nat.le_refl _) _
    have hks : KeepsFrom W2.heap.size W (W.setCell ⟨w.heap.size, 0, none⟩ (.bool false)) := (KeepsOthers.setCell _ _ _).from _
    have hbx := hb.set (.bool false)
    by_cases hx : x.toList = []
    · have hx2 : x.toList.isEmpty = true := by simp [hx]
      gi_wp2
      exact ⟨hks, rfl, hbx, allL_no _ _ (by simp [labelB, empty_size hx]), hbs⟩
    · have hx2 : x.toList.isEmpty = false := by simp [hx]
      have hpos := size_pos hx
      have HK := Lib.hid hks
      have HX := Lib.hid hbx
      have HBS := Lib.hid hbs
      clear hx hks hbx hbs
      gi_wp2
      gi_loopw [4, 5, 16] (fun _ _ i wr => W = wr ∧ ∃ k : Nat, k ≤ x.size ∧ i = .int .i64 k ∧ (x.data.toList.take k).all realmChar = true) (fun _ _ i _ => x.size - (intOf i).toNat)
      case atStart => exact ⟨rfl, 0, Nat.zero_le _, rfl, by simp⟩
      case round =>
        obtain ⟨rfl, k, hk, rfl, hall⟩ := hrel
        have HL := Lib.hid hall
        clear hall
        by_cases hlt : k < x.size
        · rcases realm_cases x[k] with ⟨a1, a2, hv⟩ | ⟨a1, a2, hv⟩ | ⟨a1, a2, hv⟩ | ⟨a1, a2, hv⟩ | ⟨a1, a2, hv⟩ | ⟨a1, a2, hv⟩
          all_goals have HV := Lib.hid hv
          all_goals clear hv
          · gi_wp2
            go_roundw
            case rel => exact ⟨trivial, k + 1, by omega, by go_num, all_snoc hlt HL.out HV.out⟩
            case measure => simp [intOf]; omega
          · gi_wp2
            go_roundw
            case rel => exact ⟨trivial, k + 1, by omega, by go_num, all_snoc hlt HL.out HV.out⟩
            case measure => simp [intOf]; omega
          · gi_wp2
            go_roundw
            case rel => exact ⟨trivial, k + 1, by omega, by go_num, all_snoc hlt HL.out HV.out⟩
            case measure => simp [intOf]; omega
          all_goals
            gi_wp2
            exact ⟨HK.out, rfl, HX.out, allL_no _ _ (by simp only [labelB, all_not hlt HV.out, Bool.and_false]), HBS.out⟩
        · gi_wp2
          have e := all_end hlt HL.out
          exact ⟨KeepsFrom.refl _ _, ⟨rfl, rfl, rfl⟩, hb, allL_yes _ _ HA.out (by simp [labelB, e, hpos]), hbl⟩
  case done =>
    rintro D xs W hD hxs ⟨hb, ha, hbl⟩ hK
    have HX := Lib.hid hxs
    have HA := Lib.hid ha
    clear hxs ha
    have c0 := hb.cell
    have f0 := hb.frozen
    gi_wp2
    have hK2 : (W.setCell ⟨w.heap.size, 0, none⟩ (.bool true)).heap[D]? = some (.deferred (some [])) := (KeepsOthers.setCell _ _ _).same D _ hK rfl
    have hb2 := hb.set (.bool true)
    refine ⟨by simp, .inl ⟨_, _, rfl, run_takeDeferred hK2, ?_⟩⟩
    have hb3 : Box ((W.setCell ⟨w.heap.size, 0, none⟩ (.bool true)).putObj D (.deferred none)) w.heap.size 4 (.bool true) := (World.putObj_heap_other (by omega)).trans hb2
    have c3 := hb3.cell
    refine ⟨.bool true, ?_, ?_⟩
    · simp [results, Tryz.results215, go_sem, c3]
    · refine ⟨ret_bool ?_, (hbl.setCell (Nat.le_refl _) _).trans ⟨rfl, rfl, rfl, by simp, fun k hk => World.putObj_heap_other (by omega)⟩⟩
      rw [HB.out, ← HX.out]
      exact HA.out.symm
  case stop =>
    rintro D c pre W hD hpre ⟨rfl, hb, ha, hbl⟩ hK
    have HP := Lib.hid hpre
    have HA := Lib.hid ha
    clear hpre ha
    gi_wp2
    refine ⟨by simp, .inl ⟨_, _, rfl, run_takeDeferred hK, ?_⟩⟩
    have hb3 : Box (W.putObj D (.deferred none)) w.heap.size 4 (.bool false) := (World.putObj_heap_other (by omega)).trans hb
    have c3 := hb3.cell
    refine ⟨.bool false, ?_, ?_⟩
    · simp [results, Tryz.results215, go_sem, c3]
    · refine ⟨ret_bool ?_, hbl.trans ⟨rfl, rfl, rfl, by simp, fun k hk => World.putObj_heap_other (by omega)⟩⟩
      obtain ⟨rest, hr⟩ := HP.out
      rw [HB.out, ← hr, List.all_append]
      have e : (pre.map (·.1)).all labelB = false := HA.out
      rw [e]; rfl

theorem realm_c (s : ByteArray) (w : World) (hs : s.size ≤ 140737488355328) (B : Bool) (HB : Hid (B = realmB s)) : Calls Tryz.prog 215 #[.string s] w (Ret w (.bool B)) := by
  have e := HB.out
  unfold realmB at e
  by_cases h : sizedB s = true
  · rw [h, Bool.true_and] at e
    exact realm_yes s w hs h B (Lib.hid e)
  · have h' : sizedB s = false := by simpa using h
    rw [h', Bool.false_and] at e
    rw [e]
    exact realm_no s w hs h'
end Go.Proofs.YtddmkgibghohkaaGreatDoor
/- Contracts: names. -/
namespace Go.Proofs.YtddmkgibghohkaaGreatDoor
open Go Go.Sx Go.Proofs
set_option maxRecDepth 100000
set_option maxHeartbeats 4000000
set_option linter.unusedSimpArgs false

def szB (s : ByteArray) : Bool := decide (1 ≤ (s.size : Int)) && decide ((s.size : Int) ≤ 32)
theorem szd_c (s : ByteArray) : PC Tryz.prog 252 [rS s] (rB (szB s)) := by
 refine pc_of rfl rfl ?_
 refine runE mixed fi252 ?_
 grind [szB]
def visC (c : UInt8) : Bool := decide (33 ≤ (c.toNat : Int)) && decide ((c.toNat : Int) ≤ 126)
theorem visC_of {c : UInt8} (h1 : ¬ (c.toNat : Int) < 33) (h2 : ¬ 126 < (c.toNat : Int)) : visC c = true := by simp [visC]; omega
theorem visC_lo {c : UInt8} (h1 : (c.toNat : Int) < 33) : visC c = false := by simp [visC]; omega
theorem visC_hi {c : UInt8} (h1 : 126 < (c.toNat : Int)) : visC c = false := by simp [visC]; omega
def visB (s : ByteArray) : Bool := allN s.size fun j => visC (s.data.toList.getD j 0)
theorem prt_c (s : ByteArray) (hs : s.size ≤ 140737488355328) : PC Tryz.prog 216 [rS s] (rB (visB s && szB s)) := by
 refine pc_of rfl rfl ?_
 refine runE mixed fi216 ?_
 refine si_cnt 6 s.size (fun j => visC (s.data.toList.getD j 0) = true) ?_ fun i hi hall => ?_
 · with_reducible refine sxE ?_; trivial
 refine goE mixed ?_
 refine ⟨fun hlt => ⟨⟨by omega, hlt⟩, fun h33 => ⟨⟨by omega, hlt⟩, fun h126 => ?_, fun h126 => cnt_next hlt hall ?_ ?_⟩, fun h33 => ?_⟩, fun hge => callI_pure (szd_c s) ?_⟩
 · rw [show visB s = false from allN_false hlt (visC_hi h126)]; rfl
 · exact visC_of h33 h126
 · with_reducible refine sxE ?_
   rw [wrap_succ (by omega)]
 · rw [show visB s = false from allN_false hlt (visC_lo h33)]; rfl
 · refine goE mixed ?_
   rw [show visB s = true from allN_true fun j hj => hall j (by omega)]; rfl

def fidx (l : List Bool) : Int := if l.all id then -1 else ((l.findIdx (!·) : Nat) : Int)
theorem fidx_at {l : List Bool} {i : Nat} (hlt : i < l.length) (hall : ∀ j, j < i → l.getD j false = true) (h : l.getD i false = false) : fidx l = i := by
 have h1 : ¬ l.all id = true := fun ha => by
  rw [List.all_eq_true] at ha
  have := ha _ (getD_mem (d := false) hlt)
  rw [h] at this; cases this
 unfold fidx
 rw [if_neg h1, Int.ofNat_inj, List.findIdx_eq hlt]
 refine ⟨by rw [List.getD_eq_getElem?_getD, List.getElem?_eq_getElem hlt] at h; simpa using h, fun j hj => ?_⟩
 have := hall j hj
 rw [List.getD_eq_getElem?_getD, List.getElem?_eq_getElem (by omega)] at this
 simpa using this
theorem fidx_no {l : List Bool} (hall : ∀ j, j < l.length → l.getD j false = true) : fidx l = -1 := by
 have h1 : l.all id = true := by
  rw [List.all_eq_true]
  intro x hx
  obtain ⟨j, hj, rfl⟩ := List.getElem_of_mem hx
  have := hall j hj
  rw [List.getD_eq_getElem?_getD, List.getElem?_eq_getElem hj] at this
  simpa using this
 unfold fidx
 rw [if_pos h1]
theorem bindex_c (l : List Bool) (hl : l.length ≤ 1125899906842624) : PC Tryz.prog 278 [.isl .bool l, rB false] (rI (fidx l)) := by
 refine pc_of rfl rfl ?_
 refine runE mixed fi278 ?_
 refine si_cnt 8 l.length (fun j => l.getD j false = true) ?_ fun i hi hall => ?_
 · with_reducible refine sxE ?_; trivial
 refine goE mixed ?_
 refine ⟨fun hlt => ⟨⟨by omega, hlt⟩, fun h => ?_, fun h => cnt_next hlt hall ?_ ?_⟩, fun hge => ?_⟩
 · rw [fidx_at hlt hall h.symm]
 · simpa [Ty.dflt] using h
 · with_reducible refine sxE ?_
   rw [wrap_succ (by omega)]
 · rw [fidx_no (fun j hj => hall j (by omega))]
theorem bcontains_c (l : List Bool) (hl : l.length ≤ 1125899906842624) : PC Tryz.prog 251 [.isl .bool l, rB false] (rB (!l.all id)) := by
 refine pc_of rfl rfl ?_
 refine runE mixed fi251 ?_
 refine callI_pure (bindex_c l hl) ?_
 refine goE mixed ?_
 unfold fidx
 split
 · simp_all
 · rename_i h
   simp [h]
theorem nall_c (l : List Bool) (hl : l.length ≤ 1125899906842624) : PC Tryz.prog 214 [.isl .bool l] (rB (l.all id)) := by
 refine pc_of rfl rfl ?_
 refine runE mixed fi214 ?_
 refine callI_pure (bcontains_c l hl) ?_
 refine goE mixed ?_
 simp

theorem rlm_c (s : ByteArray) (hs : s.size ≤ 140737488355328) : PC Tryz.prog 215 [rS s] (rB (realmB s)) :=
 pc_calls (vs := [.string s]) (by kernel_rfl) fun w => realm_c s w hs _ (Lib.hid rfl)

def vPart (s : ByteArray) : Bool := visB s && szB s
def vPrin (p : Prin) : Bool := (decide (1 ≤ (p.1.length : Int)) && (decide ((p.1.length : Int) ≤ 4) && realmB p.2)) && allN p.1.length fun j => vPart (p.1.getD j ByteArray.empty)
theorem nvalid_c (p : Prin) (hp : PrinT.ok p) : PC Tryz.prog 166 [.agg (PrinT.cells p)] (rB (vPrin p)) := by
 obtain ⟨l, r⟩ := p
 refine pc_of rfl rfl ?_
 refine runE mixed fi166 ?_
 refine callR_pure (rlm_c r hp.2) ?_
 refine goE mixed ?_
 refine callR_hand 1 (by decide) ?_
 with_reducible refine sxE ?_
 refine callR_pure (nall_c _ (by simp)) ?_
 refine run_sound mixed 600 _ ?_
 simp (maxSteps := 3000000) only [List.all_cons, List.all_nil, id, go_sem, ↓zA, ↓reduceIte, ↓reduceDIte, reduceCtorEq, Nat.reduceAdd, Nat.reduceSub, Nat.reduceLeDiff, Nat.reduceLT, Nat.reduceEqDiff, Nat.reduceBEq, Nat.reduceMul, Int.reduceToNat, Int.reduceEq, Int.reduceLT, Int.reduceLE] <;> try simp only [zB]
 refine ⟨fun h => ?_, fun h => ?_⟩
 · rw [vPrin, h]; rfl
 refine si_cnt 22 l.length (fun j => vPart (l.getD j ByteArray.empty) = true) ?_ fun i hi hall => ?_
 · with_reducible refine sxE ?_; trivial
 have hl : l.length ≤ 1125899906842624 := hp.1.1
 refine goE mixed ?_
 refine ⟨fun hlt => ⟨⟨by omega, hlt⟩, callI_pure (prt_c _ (hp.1.2 _ (getD_mem hlt))) ?_⟩, fun hge => ?_⟩
 · refine goE mixed ?_
   refine ⟨fun hb => ?_, fun hb => cnt_next hlt hall hb ?_⟩
   · rw [vPrin, show (allN l.length fun j => vPart (l.getD j ByteArray.empty)) = false from allN_false hlt hb]; simp
   · with_reducible refine sxE ?_
     rw [wrap_succ (by omega)]
 · rw [vPrin, h, show (allN l.length fun j => vPart (l.getD j ByteArray.empty)) = true from allN_true fun j hj => hall j (by omega)]; rfl
end Go.Proofs.YtddmkgibghohkaaGreatDoor
/- Contracts: the text of a principal. -/
namespace Go.Proofs.YtddmkgibghohkaaGreatDoor
open Go Go.Sx Go.Proofs
set_option maxRecDepth 100000
set_option maxHeartbeats 4000000
set_option linter.unusedSimpArgs false

def specC (c : UInt8) : Bool := decide ((c.toNat : Int) = 47) || (decide ((c.toNat : Int) = 64) || decide ((c.toNat : Int) = 92))
theorem spec_c (c : UInt8) : PC Tryz.prog 254 [.raw (.int .u8 c.toNat)] (rB (specC c)) := by
 refine pc_of rfl rfl ?_
 refine runE mixed fi254 ?_
 grind [specC]
def escC (c : UInt8) : List UInt8 := if specC c then [92, c] else [c]
def escN (s : ByteArray) : Nat → List UInt8
 | 0 => []
 | j + 1 => escN s j ++ escC (s.data.toList.getD j 0)
def txtN (l : List ByteArray) : Nat → List UInt8
 | 0 => []
 | i + 1 => (txtN l i ++ if i > 0 then [47] else []) ++ escN (l.getD i ByteArray.empty) (l.getD i ByteArray.empty).size
def txt (p : Prin) : ByteArray := strOf (txtN p.1 p.1.length) ++ ⟨#[64]⟩ ++ p.2
theorem escC_len (c : UInt8) : (escC c).length ≤ 2 := by unfold escC; split <;> simp
theorem escN_len (s : ByteArray) : ∀ j, (escN s j).length ≤ 2 * j
 | 0 => by simp [escN]
 | j + 1 => by have := escN_len s j; have := escC_len (s.data.toList.getD j 0); simp only [escN, List.length_append]; omega
theorem txtN_len (l : List ByteArray) (h : ∀ x ∈ l, x.size ≤ 32) : ∀ i, i ≤ l.length → (txtN l i).length ≤ 65 * i
 | 0, _ => by simp [txtN]
 | i + 1, hi => by
  have h1 := txtN_len l h i (by omega)
  have h2 := h _ (getD_mem (d := ByteArray.empty) (show i < l.length by omega))
  have h3 := escN_len (l.getD i ByteArray.empty) (l.getD i ByteArray.empty).size
  have h4 : (if i > 0 then [(47 : UInt8)] else []).length ≤ 1 := by split <;> simp
  simp only [txtN, List.length_append]
  omega

theorem strOf_size (xs : List UInt8) : (strOf xs).size = xs.length := by simp [strOf, ByteArray.size]
theorem text_c (p : Prin) (hp : PrinT.ok p) (hv : vPrin p = true) : PC Tryz.prog 217 [.agg (PrinT.cells p)] (.tup [rS (txt p), rI 0]) := by
 obtain ⟨l, r⟩ := p
 have hl4 : l.length ≤ 4 := by simp [vPrin] at hv; omega
 have hsz : ∀ x ∈ l, x.size ≤ 32 := fun x hx => by
  obtain ⟨j, hj, rfl⟩ := List.getElem_of_mem hx
  simp only [vPrin, Bool.and_eq_true, allN_iff] at hv
  have := hv.2 j hj
  simp [vPart, szB, hj] at this
  omega
 refine pc_of rfl rfl ?_
 refine runE mixed fi217 ?_
 refine callI_pure (nvalid_c (l, r) hp) ?_
 rw [hv]
 refine goE mixed ?_
 refine si_nilrow 4 .u8 rfl rfl ?_
 with_reducible refine sxE ?_
 refine si_loopX (ι := Nat × List SObj) (fun x => [(4, .bld x.2.length .u8 (txtN l x.1).length), (14, rI x.1)]) (fun x => x.2 ++ [.row .u8 (txtN l x.1)]) (fun x => l.length - x.1) (fun x => x.1 ≤ l.length ∧ ∀ R, (x.2 ++ R)[0]? = some (.cells 24 [.isl .str l, .raw (.string r)])) (0, [.cells 24 [.isl .str l, .raw (.string r)]]) ⟨by simp, fun R => rfl⟩ rfl ?_ ?_
 · simp (maxSteps := 3000000) only [txtN, go_sem, ↓zA, ↓reduceIte, ↓reduceDIte, reduceCtorEq, Nat.reduceAdd, Nat.reduceSub, Nat.reduceLeDiff, Nat.reduceLT, Nat.reduceEqDiff, Nat.reduceBEq, Nat.reduceMul, Int.reduceToNat, Int.reduceEq, Int.reduceLT, Int.reduceLE] <;> try simp only [zB]
 rintro ⟨i, G⟩ ⟨hi, h0⟩
 dsimp only at hi h0
 have htl := txtN_len l hsz i hi
 have hll : l.length ≤ 4 := hl4
 refine run_sound mixed 600 _ ?_
 simp (maxSteps := 3000000) only [h0, List.append_assoc, getA, getA0, setA, setA0, List.length_append, Nat.add_assoc, go_sem, ↓zA, ↓reduceIte, ↓reduceDIte, reduceCtorEq, Nat.reduceAdd, Nat.reduceSub, Nat.reduceLeDiff, Nat.reduceLT, Nat.reduceEqDiff, Nat.reduceBEq, Nat.reduceMul, Int.reduceToNat, Int.reduceEq, Int.reduceLT, Int.reduceLE] <;> try simp only [zB]
 refine ⟨fun hlt => ⟨⟨by omega, hlt⟩, fun hpos => ⟨rfl, ⟨by omega, by omega⟩, ?_⟩, fun hpos => ?_⟩, fun hge => ?_⟩
 · have hss : (List.getD l i Ty.str.dflt).size ≤ 32 := hsz _ (getD_mem hlt)
   have hst : txtN l (i + 1) = (txtN l i ++ [47]) ++ escN (List.getD l i Ty.str.dflt) (List.getD l i Ty.str.dflt).size := by
    show (txtN l i ++ _) ++ _ = _
    first | rw [if_pos (by omega)] | rw [if_neg (by omega), List.append_nil]
    rfl
   generalize hs : List.getD l i Ty.str.dflt = s at *
   refine si_loopX (ι := Nat × List SObj) (fun x => [(4, .bld x.2.length .u8 ((txtN l i ++ [47]) ++ escN s x.1).length), (26, rI x.1)]) (fun x => x.2 ++ [.row .u8 ((txtN l i ++ [47]) ++ escN s x.1)]) (fun x => s.size - x.1) (fun x => x.1 ≤ s.size ∧ ∀ R, (x.2 ++ R)[0]? = some (.cells 24 [.isl .str l, .raw (.string r)])) (0, G ++ [.dead, .row .u8 [47]]) ⟨Nat.zero_le _, fun R => by simpa using h0 _⟩ (by simp [escN]) ?_ ?_
   · simp (maxSteps := 3000000) only [escN, List.append_assoc, getA, getA0, setA, setA0, List.length_append, Nat.add_assoc, go_sem, ↓zA, ↓reduceIte, ↓reduceDIte, reduceCtorEq, Nat.reduceAdd, Nat.reduceSub, Nat.reduceLeDiff, Nat.reduceLT, Nat.reduceEqDiff, Nat.reduceBEq, Nat.reduceMul, Int.reduceToNat, Int.reduceEq, Int.reduceLT, Int.reduceLE] <;> try simp only [zB]
   rintro ⟨j, G'⟩ ⟨hj, h0'⟩
   dsimp only at hj h0'
   have hln := escN_len s j
   refine run_sound mixed 600 _ ?_
   simp (maxSteps := 3000000) only [h0', List.append_assoc, getA, getA0, setA, setA0, List.length_append, Nat.add_assoc, go_sem, ↓zA, ↓reduceIte, ↓reduceDIte, reduceCtorEq, Nat.reduceAdd, Nat.reduceSub, Nat.reduceLeDiff, Nat.reduceLT, Nat.reduceEqDiff, Nat.reduceBEq, Nat.reduceMul, Int.reduceToNat, Int.reduceEq, Int.reduceLT, Int.reduceLE] <;> try simp only [zB]
   refine ⟨fun hlj => ⟨⟨by omega, hlj⟩, callI_pure (spec_c _) ?_⟩, fun hgj => ?_⟩
   · refine run_sound mixed 600 _ ?_
     simp (maxSteps := 3000000) only [h0', List.append_assoc, getA, getA0, setA, setA0, List.length_append, Nat.add_assoc, go_sem, ↓zA, ↓reduceIte, ↓reduceDIte, reduceCtorEq, Nat.reduceAdd, Nat.reduceSub, Nat.reduceLeDiff, Nat.reduceLT, Nat.reduceEqDiff, Nat.reduceBEq, Nat.reduceMul, Int.reduceToNat, Int.reduceEq, Int.reduceLT, Int.reduceLE] <;> try simp only [zB]
     refine ⟨fun hc => ⟨rfl, ⟨by omega, by omega⟩, ⟨by omega, hlj⟩, by simp, ⟨by omega, by omega⟩, ?_⟩, fun hc => ⟨⟨by omega, hlj⟩, by simp, ⟨by omega, by omega⟩, ?_⟩⟩
     · refine ⟨(j + 1, G' ++ [.dead, .row .u8 [92], .dead, .row .u8 [s.data.toList.getD j 0]]), ⟨hlj, fun R => by rw [List.append_assoc]; exact h0' _⟩, by dsimp only; omega, ?_, ?_⟩
       · simp only [UInt8.ofNat_toNat, escN, escC, hc, if_true, List.append_assoc, List.cons_append, List.nil_append]; rfl
       · simp (maxSteps := 3000000) only [escN, escC, hc, List.append_assoc, getA, getA0, setA, setA0, List.length_append, Nat.add_assoc, go_sem, ↓zA, ↓reduceIte, ↓reduceDIte, reduceCtorEq, Nat.reduceAdd, Nat.reduceSub, Nat.reduceLeDiff, Nat.reduceLT, Nat.reduceEqDiff, Nat.reduceBEq, Nat.reduceMul, Int.reduceToNat, Int.reduceEq, Int.reduceLT, Int.reduceLE] <;> try simp only [zB]
         rw [wrap_succ (by omega)]
     · refine ⟨(j + 1, G' ++ [.dead, .row .u8 [s.data.toList.getD j 0]]), ⟨hlj, fun R => by rw [List.append_assoc]; exact h0' _⟩, by dsimp only; omega, ?_, ?_⟩
       · simp only [UInt8.ofNat_toNat, escN, escC, hc, List.append_assoc, List.cons_append, List.nil_append]; rfl
       · simp (maxSteps := 3000000) only [escN, escC, hc, List.append_assoc, getA, getA0, setA, setA0, List.length_append, Nat.add_assoc, go_sem, ↓zA, ↓reduceIte, ↓reduceDIte, reduceCtorEq, Nat.reduceAdd, Nat.reduceSub, Nat.reduceLeDiff, Nat.reduceLT, Nat.reduceEqDiff, Nat.reduceBEq, Nat.reduceMul, Int.reduceToNat, Int.reduceEq, Int.reduceLT, Int.reduceLE] <;> try simp only [zB]
         rw [wrap_succ (by omega)]
   · obtain rfl : j = s.size := by omega
     refine ⟨(i + 1, G'), ⟨hlt, h0'⟩, by dsimp only; omega, ?_, ?_⟩
     · simp [hst]
     · simp (maxSteps := 3000000) only [hst, List.append_assoc, getA, getA0, setA, setA0, List.length_append, Nat.add_assoc, go_sem, ↓zA, ↓reduceIte, ↓reduceDIte, reduceCtorEq, Nat.reduceAdd, Nat.reduceSub, Nat.reduceLeDiff, Nat.reduceLT, Nat.reduceEqDiff, Nat.reduceBEq, Nat.reduceMul, Int.reduceToNat, Int.reduceEq, Int.reduceLT, Int.reduceLE] <;> try simp only [zB]
       rw [wrap_succ (by omega)]
 · have hss : (List.getD l i Ty.str.dflt).size ≤ 32 := hsz _ (getD_mem hlt)
   have hst : txtN l (i + 1) = txtN l i ++ escN (List.getD l i Ty.str.dflt) (List.getD l i Ty.str.dflt).size := by
    show (txtN l i ++ _) ++ _ = _
    first | rw [if_pos (by omega)] | rw [if_neg (by omega), List.append_nil]
    rfl
   generalize hs : List.getD l i Ty.str.dflt = s at *
   refine si_loopX (ι := Nat × List SObj) (fun x => [(4, .bld x.2.length .u8 (txtN l i ++ escN s x.1).length), (26, rI x.1)]) (fun x => x.2 ++ [.row .u8 (txtN l i ++ escN s x.1)]) (fun x => s.size - x.1) (fun x => x.1 ≤ s.size ∧ ∀ R, (x.2 ++ R)[0]? = some (.cells 24 [.isl .str l, .raw (.string r)])) (0, G) ⟨Nat.zero_le _, fun R => by simpa using h0 _⟩ (by simp [escN]) ?_ ?_
   · simp (maxSteps := 3000000) only [escN, List.append_assoc, getA, getA0, setA, setA0, List.length_append, Nat.add_assoc, go_sem, ↓zA, ↓reduceIte, ↓reduceDIte, reduceCtorEq, Nat.reduceAdd, Nat.reduceSub, Nat.reduceLeDiff, Nat.reduceLT, Nat.reduceEqDiff, Nat.reduceBEq, Nat.reduceMul, Int.reduceToNat, Int.reduceEq, Int.reduceLT, Int.reduceLE] <;> try simp only [zB]
   rintro ⟨j, G'⟩ ⟨hj, h0'⟩
   dsimp only at hj h0'
   have hln := escN_len s j
   refine run_sound mixed 600 _ ?_
   simp (maxSteps := 3000000) only [h0', List.append_assoc, getA, getA0, setA, setA0, List.length_append, Nat.add_assoc, go_sem, ↓zA, ↓reduceIte, ↓reduceDIte, reduceCtorEq, Nat.reduceAdd, Nat.reduceSub, Nat.reduceLeDiff, Nat.reduceLT, Nat.reduceEqDiff, Nat.reduceBEq, Nat.reduceMul, Int.reduceToNat, Int.reduceEq, Int.reduceLT, Int.reduceLE] <;> try simp only [zB]
   refine ⟨fun hlj => ⟨⟨by omega, hlj⟩, callI_pure (spec_c _) ?_⟩, fun hgj => ?_⟩
   · refine run_sound mixed 600 _ ?_
     simp (maxSteps := 3000000) only [h0', List.append_assoc, getA, getA0, setA, setA0, List.length_append, Nat.add_assoc, go_sem, ↓zA, ↓reduceIte, ↓reduceDIte, reduceCtorEq, Nat.reduceAdd, Nat.reduceSub, Nat.reduceLeDiff, Nat.reduceLT, Nat.reduceEqDiff, Nat.reduceBEq, Nat.reduceMul, Int.reduceToNat, Int.reduceEq, Int.reduceLT, Int.reduceLE] <;> try simp only [zB]
     refine ⟨fun hc => ⟨rfl, ⟨by omega, by omega⟩, ⟨by omega, hlj⟩, by simp, ⟨by omega, by omega⟩, ?_⟩, fun hc => ⟨⟨by omega, hlj⟩, by simp, ⟨by omega, by omega⟩, ?_⟩⟩
     · refine ⟨(j + 1, G' ++ [.dead, .row .u8 [92], .dead, .row .u8 [s.data.toList.getD j 0]]), ⟨hlj, fun R => by rw [List.append_assoc]; exact h0' _⟩, by dsimp only; omega, ?_, ?_⟩
       · simp only [UInt8.ofNat_toNat, escN, escC, hc, if_true, List.append_assoc, List.cons_append, List.nil_append]; rfl
       · simp (maxSteps := 3000000) only [escN, escC, hc, List.append_assoc, getA, getA0, setA, setA0, List.length_append, Nat.add_assoc, go_sem, ↓zA, ↓reduceIte, ↓reduceDIte, reduceCtorEq, Nat.reduceAdd, Nat.reduceSub, Nat.reduceLeDiff, Nat.reduceLT, Nat.reduceEqDiff, Nat.reduceBEq, Nat.reduceMul, Int.reduceToNat, Int.reduceEq, Int.reduceLT, Int.reduceLE] <;> try simp only [zB]
         rw [wrap_succ (by omega)]
     · refine ⟨(j + 1, G' ++ [.dead, .row .u8 [s.data.toList.getD j 0]]), ⟨hlj, fun R => by rw [List.append_assoc]; exact h0' _⟩, by dsimp only; omega, ?_, ?_⟩
       · simp only [UInt8.ofNat_toNat, escN, escC, hc, List.append_assoc, List.cons_append, List.nil_append]; rfl
       · simp (maxSteps := 3000000) only [escN, escC, hc, List.append_assoc, getA, getA0, setA, setA0, List.length_append, Nat.add_assoc, go_sem, ↓zA, ↓reduceIte, ↓reduceDIte, reduceCtorEq, Nat.reduceAdd, Nat.reduceSub, Nat.reduceLeDiff, Nat.reduceLT, Nat.reduceEqDiff, Nat.reduceBEq, Nat.reduceMul, Int.reduceToNat, Int.reduceEq, Int.reduceLT, Int.reduceLE] <;> try simp only [zB]
         rw [wrap_succ (by omega)]
   · obtain rfl : j = s.size := by omega
     refine ⟨(i + 1, G'), ⟨hlt, h0'⟩, by dsimp only; omega, ?_, ?_⟩
     · simp [hst]
     · simp (maxSteps := 3000000) only [hst, List.append_assoc, getA, getA0, setA, setA0, List.length_append, Nat.add_assoc, go_sem, ↓zA, ↓reduceIte, ↓reduceDIte, reduceCtorEq, Nat.reduceAdd, Nat.reduceSub, Nat.reduceLeDiff, Nat.reduceLT, Nat.reduceEqDiff, Nat.reduceBEq, Nat.reduceMul, Int.reduceToNat, Int.reduceEq, Int.reduceLT, Int.reduceLE] <;> try simp only [zB]
       rw [wrap_succ (by omega)]
 · obtain rfl : i = l.length := by omega
   refine ⟨⟨Nat.le_refl _, by omega⟩, ?_, ?_, ?_⟩
   · rw [List.take_length, strOf_size]; simp; omega
   · have : r.size ≤ 140737488355328 := hp.2
     rw [List.take_length, strOf_size]; simp; omega
   · rw [List.take_length]; rfl
end Go.Proofs.YtddmkgibghohkaaGreatDoor
/- Contracts: distinct. -/
namespace Go.Proofs.YtddmkgibghohkaaGreatDoor
open Go Go.Sx Go.Proofs
set_option maxRecDepth 100000
set_option maxHeartbeats 4000000
set_option linter.unusedSimpArgs false

def keysN (l : List Prin) : Nat → List Value
 | 0 => []
 | i + 1 => match findI (.string (txt (l.getD i PrinT.dflt))) (keysN l i) with
  | some _ => keysN l i
  | none => keysN l i ++ [.string (txt (l.getD i PrinT.dflt))]
theorem keysN_none {l : List Prin} {i : Nat} (h : findI (.string (txt (l.getD i PrinT.dflt))) (keysN l i) = none) : keysN l (i + 1) = keysN l i ++ [.string (txt (l.getD i PrinT.dflt))] := by rw [keysN, h]
theorem keysN_some {l : List Prin} {i j : Nat} (h : findI (.string (txt (l.getD i PrinT.dflt))) (keysN l i) = some j) : keysN l (i + 1) = keysN l i := by rw [keysN, h]
def Ints (vs : List Value) : Prop := ∀ v ∈ vs, ∃ c, v = .int .i64 c

theorem distinct_w (l : List Prin) (hp : (Ty.slice PrinT).ok l) (hv : ∀ p ∈ l, vPrin p = true) : PC Tryz.prog 168 [.isl PrinT l] (rB (decide (((keysN l l.length).length : Int) = l.length))) := by
 refine pc_of rfl rfl ?_
 have hl : l.length ≤ 1125899906842624 := hp.1
 refine runE mixed fi168 ?_
 refine si_loopX (ι := Nat × List Value × List SObj) (fun x => [(11, rI x.1)]) (fun x => .map none (keysN l x.1) x.2.1 :: x.2.2) (fun x => l.length - x.1) (fun x => x.1 ≤ l.length ∧ x.2.1.length = (keysN l x.1).length ∧ Ints x.2.1) (0, [], []) ⟨Nat.zero_le _, rfl, by simp [Ints]⟩ rfl ?_ ?_
 · with_reducible refine sxE ?_; trivial
 rintro ⟨i, vs, G⟩ ⟨hi, hvl, hint⟩
 dsimp only at hi hvl hint
 refine goaE mixed ?_
 refine ⟨fun hlt => ⟨⟨by omega, hlt⟩, ?_⟩, fun hge => ?_⟩
 · have hm := getD_mem (d := PrinT.dflt) hlt
   refine callI_pure (text_c _ (hp.2 _ hm) (hv _ hm)) ?_
   cases hf : findI (.string (txt (l.getD i PrinT.dflt))) (keysN l i) with
   | none =>
    refine run_sound mixed 600 _ ?_
    simp (maxSteps := 3000000) only [hf, List.append_assoc, getA, getA0, setA, setA0, List.length_append, Nat.add_assoc, go_sem, ↓zA, ↓reduceIte, ↓reduceDIte, reduceCtorEq, Nat.reduceAdd, Nat.reduceSub, Nat.reduceLeDiff, Nat.reduceLT, Nat.reduceEqDiff, Nat.reduceBEq, Nat.reduceMul, Int.reduceToNat, Int.reduceEq, Int.reduceLT, Int.reduceLE] <;> try simp only [zB]
    refine ⟨(i + 1, vs ++ [.int .i64 (IntKind.i64.wrap (0 + 1))], G ++ [_]), ⟨hlt, by rw [keysN_none hf, List.length_append, List.length_append, hvl]; simp, ?_⟩, by dsimp only; omega, by dsimp only; rw [keysN_none hf], ?_⟩
    · intro v hv
      rcases List.mem_append.1 hv with h | h
      · exact hint v h
      · exact ⟨_, List.mem_singleton.1 h⟩
    · with_reducible refine sxE ?_
      rw [wrap_succ (by omega)]
   | some j =>
    obtain ⟨hj, _⟩ := findI_lt hf
    obtain ⟨c, hc⟩ := hint _ (getD_mem (d := undef) (show j < vs.length by omega))
    refine run_sound mixed 600 _ ?_
    simp (maxSteps := 3000000) only [hf, hc, List.append_assoc, getA, getA0, setA, setA0, List.length_append, Nat.add_assoc, go_sem, ↓zA, ↓reduceIte, ↓reduceDIte, reduceCtorEq, Nat.reduceAdd, Nat.reduceSub, Nat.reduceLeDiff, Nat.reduceLT, Nat.reduceEqDiff, Nat.reduceBEq, Nat.reduceMul, Int.reduceToNat, Int.reduceEq, Int.reduceLT, Int.reduceLE] <;> try simp only [zB]
    refine ⟨(i + 1, vs.set j (.int .i64 (IntKind.i64.wrap (c + 1))), G ++ [_]), ⟨hlt, by rw [keysN_some hf, List.length_set, hvl], ?_⟩, by dsimp only; omega, by dsimp only; rw [keysN_some hf], ?_⟩
    · intro v hv
      rcases List.mem_or_eq_of_mem_set hv with h | h
      · exact hint v h
      · exact ⟨_, h⟩
    · with_reducible refine sxE ?_
      rw [wrap_succ (by omega)]
 · obtain rfl : i = l.length := by omega
   rfl

theorem findI_none {s : ByteArray} : ∀ {ks : List ByteArray}, findI (.string s) (ks.map .string) = none ↔ s ∉ ks
 | [] => by simp [findI]
 | k :: ks => by
  have ih := findI_none (s := s) (ks := ks)
  simp only [List.map_cons, findI, keyEq, decide_eq_true_eq, List.mem_cons, not_or]
  split
  · rename_i h; simp [h]
  · rename_i h; simp [ih, h]
theorem keysN_spec (l : List Prin) : ∀ i, i ≤ l.length → ∃ ks : List ByteArray, keysN l i = ks.map .string ∧ (∀ s, s ∈ ks ↔ s ∈ (l.take i).map txt) ∧ ks.length ≤ i ∧ (ks.length = i ↔ ((l.take i).map txt).Nodup)
 | 0, _ => ⟨[], by simp [keysN]⟩
 | i + 1, hi => by
  obtain ⟨ks, h1, h2, h3, h4⟩ := keysN_spec l i (by omega)
  have hta : (l.take (i + 1)).map txt = (l.take i).map txt ++ [txt (l.getD i PrinT.dflt)] := by rw [take_succ_getD (d := PrinT.dflt) (show i < l.length by omega)]; simp
  cases hf : findI (.string (txt (l.getD i PrinT.dflt))) (keysN l i) with
  | none =>
   refine ⟨ks ++ [txt (l.getD i PrinT.dflt)], by rw [keysN_none hf, h1, List.map_append]; rfl, fun s => by rw [hta]; simp only [List.mem_append, h2], by simp; omega, ?_⟩
   rw [h1, findI_none, h2] at hf
   rw [hta, List.nodup_append]
   simp only [List.length_append, List.length_singleton, Nat.add_right_cancel_iff, h4]
   constructor
   · intro h
     refine ⟨h, by simp, fun a ha b hb => ?_⟩
     rw [List.mem_singleton.1 hb]
     exact fun e => hf (e ▸ ha)
   · exact fun h => h.1
  | some j =>
   refine ⟨ks, by rw [keysN_some hf, h1], fun s => ?_, by omega, ?_⟩
   · have hin : txt (l.getD i PrinT.dflt) ∈ (l.take i).map txt := by
      refine Classical.byContradiction fun hn => ?_
      rw [← h2, ← findI_none, ← h1, hf] at hn
      cases hn
     rw [hta, h2]
     simp only [List.mem_append, List.mem_singleton]
     exact ⟨.inl, fun h => h.elim id (fun e => e ▸ hin)⟩
   · have hin : txt (l.getD i PrinT.dflt) ∈ (l.take i).map txt := by
      refine Classical.byContradiction fun hn => ?_
      rw [← h2, ← findI_none, ← h1, hf] at hn
      cases hn
     rw [hta, List.nodup_append]
     constructor
     · intro h; omega
     · intro h; exact absurd rfl (h.2.2 _ hin _ (List.mem_singleton.2 rfl))
theorem keysN_nodup (l : List Prin) : decide (((keysN l l.length).length : Int) = l.length) = decide ((l.map txt).Nodup) := by
 obtain ⟨ks, h1, _, _, h4⟩ := keysN_spec l l.length (Nat.le_refl _)
 rw [List.take_length] at h4
 rw [h1, List.length_map, decide_eq_decide, ← h4]
 omega

def escL (bs : List UInt8) : List UInt8 := bs.flatMap escC
theorem escN_take (s : ByteArray) : ∀ j, j ≤ s.size → escN s j = escL (s.data.toList.take j)
 | 0, _ => by simp [escN, escL]
 | j + 1, h => by
  have hj : j < s.data.toList.length := by simp; omega
  rw [escN, escN_take s j (by omega), take_succ_getD (d := 0) hj]
  simp [escL]
theorem escN_all (s : ByteArray) : escN s s.size = escL s.data.toList := by
 rw [escN_take s s.size (Nat.le_refl _), List.take_of_length_le (by simp)]
def joinT : List ByteArray → List UInt8
 | [] => []
 | [a] => escL a.data.toList
 | a :: b :: l => escL a.data.toList ++ 47 :: joinT (b :: l)
theorem joinT_snoc : ∀ (l : List ByteArray) (a : ByteArray), l ≠ [] → joinT (l ++ [a]) = joinT l ++ 47 :: escL a.data.toList
 | [], _, h => absurd rfl h
 | [x], a, _ => by simp [joinT]
 | x :: y :: l, a, _ => by
  have := joinT_snoc (y :: l) a (by simp)
  simp only [List.cons_append] at this ⊢
  simp [joinT, this]
theorem txtN_join (l : List ByteArray) : ∀ i, i ≤ l.length → txtN l i = joinT (l.take i)
 | 0, _ => by simp [txtN, joinT]
 | i + 1, hi => by
  rw [txtN, txtN_join l i (by omega), escN_all, take_succ_getD (d := ByteArray.empty) (show i < l.length by omega)]
  by_cases h0 : i = 0
  · subst h0; simp [joinT]
  · rw [joinT_snoc _ _ (fun e => h0 (by have := congrArg List.length e; rw [List.length_take, List.length_nil] at this; omega)), if_pos (by omega)]
    simp
def dec : Bool → List UInt8 → List UInt8 → List (List UInt8)
 | _, cur, [] => [cur]
 | true, cur, c :: r => dec false (cur ++ [c]) r
 | false, cur, c :: r => if c = 92 then dec true cur r else if c = 47 then cur :: dec false [] r else dec false (cur ++ [c]) r
theorem dec_esc (cur : List UInt8) (c : UInt8) (r : List UInt8) : dec false cur (escC c ++ r) = dec false (cur ++ [c]) r := by
 unfold escC
 split
 · rfl
 · rename_i h
   have h1 : c ≠ 92 := fun e => h (by subst e; rfl)
   have h2 : c ≠ 47 := fun e => h (by subst e; rfl)
   simp [dec, h1, h2]
theorem dec_escL : ∀ (bs cur r : List UInt8), dec false cur (escL bs ++ r) = dec false (cur ++ bs) r
 | [], cur, r => by simp [escL]
 | b :: bs, cur, r => by
  have := dec_escL bs (cur ++ [b]) r
  simp only [escL, List.flatMap_cons, List.append_assoc] at this ⊢
  rw [dec_esc, this]
  simp
theorem dec_join : ∀ (a : ByteArray) (l : List ByteArray), dec false [] (joinT (a :: l)) = (a :: l).map (·.data.toList)
 | a, [] => by
  have := dec_escL a.data.toList [] []
  simp only [List.append_nil, List.nil_append] at this
  simp [joinT, this, dec]
 | a, b :: l => by
  rw [joinT, dec_escL, List.nil_append]
  simp [dec, dec_join b l]
theorem joinT_inj {l l' : List ByteArray} (h : l ≠ []) (h' : l' ≠ []) (he : joinT l = joinT l') : l = l' := by
 cases l with
 | nil => exact absurd rfl h
 | cons a l =>
  cases l' with
  | nil => exact absurd rfl h'
  | cons b m =>
   have h1 := dec_join a l
   rw [he, dec_join b m] at h1
   have inj : ∀ {x y : ByteArray}, x.data.toList = y.data.toList → x = y := fun {x y} e => by cases x; cases y; simp at e; rw [e]
   exact (List.map_inj_right (fun _ _ => inj) |>.1 h1).symm
theorem cut_last {c : UInt8} : ∀ {a a' b b' : List UInt8}, c ∉ b → c ∉ b' → a ++ c :: b = a' ++ c :: b' → a = a' ∧ b = b'
 | [], [], b, b', _, _, h => ⟨rfl, by simpa using h⟩
 | [], x :: a', b, b', hb, _, h => by
  simp at h
  exact absurd (by rw [h.2]; simp) hb
 | x :: a, [], b, b', _, hb', h => by
  simp at h
  exact absurd (by rw [← h.2]; simp) hb'
 | x :: a, y :: a', b, b', hb, hb', h => by
  simp at h
  obtain ⟨h1, h2⟩ := cut_last hb hb' h.2
  exact ⟨by rw [h.1, h1], h2⟩
theorem txt_inj {p q : Prin} (hp : p.1 ≠ []) (hq : q.1 ≠ []) (h1 : (64 : UInt8) ∉ p.2.data.toList) (h2 : (64 : UInt8) ∉ q.2.data.toList) (h : txt p = txt q) : p = q := by
 have hb := congrArg (fun b : ByteArray => b.data.toList) h
 simp only [txt, strOf, ByteArray.data_append, Array.toList_append, List.append_assoc] at hb
 obtain ⟨e1, e2⟩ := cut_last (c := 64) (a := txtN p.1 p.1.length) (a' := txtN q.1 q.1.length) h1 h2 (by simpa using hb)
 rw [txtN_join _ _ (Nat.le_refl _), txtN_join _ _ (Nat.le_refl _), List.take_length, List.take_length] at e1
 have e3 := joinT_inj hp hq e1
 obtain ⟨l, r⟩ := p
 obtain ⟨l', r'⟩ := q
 simp only at e2 e3
 subst e3
 have : r = r' := by cases r; cases r'; simp at e2; rw [e2]
 rw [this]
end Go.Proofs.YtddmkgibghohkaaGreatDoor
