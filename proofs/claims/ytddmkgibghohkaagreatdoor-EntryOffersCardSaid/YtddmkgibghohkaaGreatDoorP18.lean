/- Contracts: copies. -/
import Derived.Test.YtddmkgibghohkaaGreatDoorP17
import Derived.Test.YtddmkgibghohkaaGreatDoorP9
set_option linter.unusedSimpArgs false
set_option linter.unusedVariables false
namespace Go.Proofs.YtddmkgibghohkaaGreatDoor
open Go Go.Sx Go.Proofs
set_option maxRecDepth 100000
set_option maxHeartbeats 4000000
set_option linter.unusedSimpArgs false

theorem clone_c (l : List ByteArray) (hl : l.length ≤ 8796093022208) : PC Tryz.prog 124 [.isl .str l] (.isl .str l) := by
  refine pc_seal rfl rfl ?_
  refine runE mixed fi124 ?_ <;> try with_reducible exact True.intro
  intro b hb
  refine ⟨hb, fun h => ⟨⟨by omega, by omega⟩, ⟨by omega, by omega⟩, List.take_of_length_le (by omega)⟩⟩
theorem bclone_c (l : List UInt8) (hl : l.length ≤ 140737488355328) : PC Tryz.prog 194 [.isl .u8 l] (.isl .u8 l) := by
  refine pc_seal rfl rfl ?_
  refine runE mixed fi194 ?_ <;> try with_reducible exact True.intro
  intro b hb
  refine ⟨hb, fun h => ⟨⟨by omega, by omega⟩, ⟨by omega, by omega⟩, List.take_of_length_le (by omega)⟩⟩
theorem cbytes_c (l : List UInt8) (hl : l.length ≤ 140737488355328) : PC Tryz.prog 52 [.isl .u8 l] (.isl .u8 l) := by
  refine pc_seal rfl rfl ?_
  refine runE mixed fi52 ?_ <;> try with_reducible exact True.intro
  refine ⟨⟨by omega, by omega⟩, ⟨by omega, by omega⟩, List.take_of_length_le (by omega)⟩
theorem ncopy_c (p : Prin) (hl : p.1.length ≤ 8796093022208) : PC Tryz.prog 58 [.agg (PrinT.cells p)] (.agg (PrinT.cells p)) := by
  refine pc_seal rfl rfl ?_
  refine runE mixed fi58 ?_ <;> try with_reducible exact True.intro
  refine callI_pure (clone_c _ hl) ?_
  refine goE mixed ?_ <;> try with_reducible exact True.intro
theorem pcopy_c (k : Key) (hl : k.2.2.length ≤ 140737488355328) : PC Tryz.prog 119 [.agg (KeyT.cells k)] (.agg (KeyT.cells k)) := by
  refine pc_seal rfl rfl ?_
  refine runE mixed fi119 ?_ <;> try with_reducible exact True.intro
  refine callI_pure (bclone_c _ hl) ?_
  refine goE mixed ?_ <;> try with_reducible exact True.intro
theorem copies_key (l : List (KeyT).den) (g : Nat) (hl : l.length * 40 ≤ 140737488355328) (hok : ∀ x ∈ l, (KeyT).ok x) (hone : ∀ x ∈ l, PC Tryz.prog g [.agg ((KeyT).cells x)] (.agg ((KeyT).cells x))) :
    PC Tryz.prog 118 [.isl (KeyT) l, .fn g [] []] (.isl (KeyT) l) := by
  refine pc_seal rfl rfl ?_
  refine runE mixed fi118 ?_ <;> try with_reducible exact True.intro
  refine si_accN 5 (KeyT) (fun i => l.take i) (fun i => [(10, rI i)]) l.length (fun _ => True) rfl (by simp) (by simp) rfl (fun i => rfl) ?_ fun i hi _ => ?_
  · (with_reducible refine sxE ?_ <;> try exact True.intro)
  refine goE mixed ?_ <;> try with_reducible exact True.intro
  have hwr : IntKind.i64.wrap ((i : Int) + 1) = ((i + 1 : Nat) : Int) := wrap_succ (by omega)
  refine ⟨fun hlt => ⟨⟨by omega, hlt⟩, callI_pure (hone _ (getD_mem hlt)) ?_⟩, fun hge => ?_⟩
  · refine goE mixed ?_ <;> try with_reducible exact True.intro
    have hst : l.take (i + 1) = l.take i ++ [l.getD i (KeyT).dflt] := take_succ_getD hlt
    have hlen : (l.take i).length = i := by simp; omega
    refine ⟨ ⟨by omega, by omega⟩, acc_next [_, _, _] [] hlt trivial (by rw [hst]; rfl) ?_⟩
    simp (maxSteps := 3000000) only [hwr, hst, List.length_append, go_sem, ↓zA, ↓reduceIte, ↓reduceDIte, reduceCtorEq, Nat.reduceAdd, Nat.reduceSub, Nat.reduceLeDiff, Nat.reduceLT, Nat.reduceEqDiff, Nat.reduceBEq, Nat.reduceMul, Int.reduceToNat, Int.reduceEq, Int.reduceLT, Int.reduceLE] <;> try simp only [zB]
  · obtain rfl : i = l.length := by omega
    simp; omega
theorem copies_prin (l : List (PrinT).den) (g : Nat) (hl : l.length * 40 ≤ 140737488355328) (hok : ∀ x ∈ l, (PrinT).ok x) (hone : ∀ x ∈ l, PC Tryz.prog g [.agg ((PrinT).cells x)] (.agg ((PrinT).cells x))) :
    PC Tryz.prog 59 [.isl (PrinT) l, .fn g [] []] (.isl (PrinT) l) := by
  refine pc_seal rfl rfl ?_
  refine runE mixed fi59 ?_ <;> try with_reducible exact True.intro
  refine si_accN 5 (PrinT) (fun i => l.take i) (fun i => [(10, rI i)]) l.length (fun _ => True) rfl (by simp) (by simp) rfl (fun i => rfl) ?_ fun i hi _ => ?_
  · (with_reducible refine sxE ?_ <;> try exact True.intro)
  refine goE mixed ?_ <;> try with_reducible exact True.intro
  have hwr : IntKind.i64.wrap ((i : Int) + 1) = ((i + 1 : Nat) : Int) := wrap_succ (by omega)
  refine ⟨fun hlt => ⟨⟨by omega, hlt⟩, callI_pure (hone _ (getD_mem hlt)) ?_⟩, fun hge => ?_⟩
  · refine goE mixed ?_ <;> try with_reducible exact True.intro
    have hst : l.take (i + 1) = l.take i ++ [l.getD i (PrinT).dflt] := take_succ_getD hlt
    have hlen : (l.take i).length = i := by simp; omega
    refine ⟨(hok _ (getD_mem hlt)).2, ⟨by omega, by omega⟩, acc_next [_, _, _] [] hlt trivial (by rw [hst]; rfl) ?_⟩
    simp (maxSteps := 3000000) only [hwr, hst, List.length_append, go_sem, ↓zA, ↓reduceIte, ↓reduceDIte, reduceCtorEq, Nat.reduceAdd, Nat.reduceSub, Nat.reduceLeDiff, Nat.reduceLT, Nat.reduceEqDiff, Nat.reduceBEq, Nat.reduceMul, Int.reduceToNat, Int.reduceEq, Int.reduceLT, Int.reduceLE] <;> try simp only [zB]
  · obtain rfl : i = l.length := by omega
    simp; omega
theorem copies_kset (l : List (SetT).den) (g : Nat) (hl : l.length * 64 ≤ 140737488355328) (hok : ∀ x ∈ l, (SetT).ok x) (hone : ∀ x ∈ l, PC Tryz.prog g [.agg ((SetT).cells x)] (.agg ((SetT).cells x))) :
    PC Tryz.prog 60 [.isl (SetT) l, .fn g [] []] (.isl (SetT) l) := by
  refine pc_seal rfl rfl ?_
  refine runE mixed fi60 ?_ <;> try with_reducible exact True.intro
  refine si_accN 5 (SetT) (fun i => l.take i) (fun i => [(10, rI i)]) l.length (fun _ => True) rfl (by simp) (by simp) rfl (fun i => rfl) ?_ fun i hi _ => ?_
  · (with_reducible refine sxE ?_ <;> try exact True.intro)
  refine goE mixed ?_ <;> try with_reducible exact True.intro
  have hwr : IntKind.i64.wrap ((i : Int) + 1) = ((i + 1 : Nat) : Int) := wrap_succ (by omega)
  refine ⟨fun hlt => ⟨⟨by omega, hlt⟩, callI_pure (hone _ (getD_mem hlt)) ?_⟩, fun hge => ?_⟩
  · refine goE mixed ?_ <;> try with_reducible exact True.intro
    have hst : l.take (i + 1) = l.take i ++ [l.getD i (SetT).dflt] := take_succ_getD hlt
    have hlen : (l.take i).length = i := by simp; omega
    refine ⟨(hok _ (getD_mem hlt)).2.2.1, ⟨by omega, by omega⟩, acc_next [_, _, _] [] hlt trivial (by rw [hst]; rfl) ?_⟩
    simp (maxSteps := 3000000) only [hwr, hst, List.length_append, go_sem, ↓zA, ↓reduceIte, ↓reduceDIte, reduceCtorEq, Nat.reduceAdd, Nat.reduceSub, Nat.reduceLeDiff, Nat.reduceLT, Nat.reduceEqDiff, Nat.reduceBEq, Nat.reduceMul, Int.reduceToNat, Int.reduceEq, Int.reduceLT, Int.reduceLE] <;> try simp only [zB]
  · obtain rfl : i = l.length := by omega
    simp; omega
theorem copies_bytes (l : List (List UInt8)) (g : Nat) (hl : l.length * 24 ≤ 140737488355328) (hone : ∀ x ∈ l, PC Tryz.prog g [.isl .u8 x] (.isl .u8 x)) :
    PC Tryz.prog 61 [.isl (.slice .u8) l, .fn g [] []] (.isl (.slice .u8) l) := by
  refine pc_seal rfl rfl ?_
  refine runE mixed fi61 ?_ <;> try with_reducible exact True.intro
  refine si_accN 5 (.slice .u8) (fun i => l.take i) (fun i => [(10, rI i)]) l.length (fun _ => True) rfl (by simp) (by simp) rfl (fun i => rfl) ?_ fun i hi _ => ?_
  · (with_reducible refine sxE ?_ <;> try exact True.intro)
  refine goE mixed ?_ <;> try with_reducible exact True.intro
  have hwr : IntKind.i64.wrap ((i : Int) + 1) = ((i + 1 : Nat) : Int) := wrap_succ (by omega)
  refine ⟨fun hlt => ⟨⟨by omega, hlt⟩, callI_pure (hone _ (getD_mem (d := (Ty.slice .u8).dflt) hlt)) ?_⟩, fun hge => ?_⟩
  · refine goE mixed ?_ <;> try with_reducible exact True.intro
    have hst : l.take (i + 1) = l.take i ++ [l.getD i (Ty.slice .u8).dflt] := take_succ_getD hlt
    have hlen : (l.take i).length = i := by simp; omega
    refine ⟨⟨by omega, by omega⟩, acc_next [_, _] [] hlt trivial (by rw [hst]; rfl) ?_⟩
    simp (maxSteps := 3000000) only [hwr, hst, List.length_append, go_sem, ↓zA, ↓reduceIte, ↓reduceDIte, reduceCtorEq, Nat.reduceAdd, Nat.reduceSub, Nat.reduceLeDiff, Nat.reduceLT, Nat.reduceEqDiff, Nat.reduceBEq, Nat.reduceMul, Int.reduceToNat, Int.reduceEq, Int.reduceLT, Int.reduceLE] <;> try simp only [zB]
  · obtain rfl : i = l.length := by omega
    simp; omega
theorem copySet_c (s : KSet) (ho : SetT.ok s) (hl : s.2.1.length * 40 ≤ 140737488355328) (hk : ∀ k ∈ s.2.1, k.2.2.length ≤ 140737488355328) : PC Tryz.prog 47 [.agg (SetT.cells s)] (.agg (SetT.cells s)) := by
  refine pc_seal rfl rfl ?_
  refine runE mixed fi47 ?_ <;> try with_reducible exact True.intro
  refine callI_pure (copies_key s.2.1 _ hl ho.2.1.2 (fun x hx => pcopy_c x (hk x hx))) ?_
  refine goE mixed ?_ <;> try with_reducible exact True.intro
/-- What can be copied: lists that are not too long. -/
def small47 (e : Ent) : Prop :=
  e.1.1.length ≤ 1048576 ∧ (e.2.1.length ≤ 1048576 ∧ ∀ p ∈ e.2.1, p.1.length ≤ 1048576) ∧ (e.2.2.2.2.1.length ≤ 1048576 ∧ ∀ s ∈ e.2.2.2.2.1, s.2.1.length ≤ 1048576 ∧ ∀ k ∈ s.2.1, k.2.2.length ≤ 1048576) ∧
  (e.2.2.2.2.2.2.2.2.2.2.2.2.2.1.length ≤ 1048576 ∧ ∀ p ∈ e.2.2.2.2.2.2.2.2.2.2.2.2.2.1, p.1.length ≤ 1048576) ∧ (e.2.2.2.2.2.2.2.2.2.2.2.2.2.2.1.length ≤ 1048576 ∧ ∀ p ∈ e.2.2.2.2.2.2.2.2.2.2.2.2.2.2.1, p.1.length ≤ 1048576) ∧
  (e.2.2.2.2.2.2.2.2.2.2.2.2.2.2.2.length ≤ 1048576 ∧ ∀ b ∈ e.2.2.2.2.2.2.2.2.2.2.2.2.2.2.2, b.length ≤ 1048576)
theorem copy_c (e : Ent) (ho : EntT.ok e) (hs : small47 e) : PC Tryz.prog 27 [.agg (EntT.cells e)] (.agg (EntT.cells e)) := by
  obtain ⟨e1, e2, e3, e4, e5, e6, e7, e8, e9, e10, e11, e12, e13, e14, e15, e16⟩ := e
  obtain ⟨h1, ⟨h2, h2'⟩, ⟨h5, h5'⟩, ⟨h14, h14'⟩, ⟨h15, h15'⟩, ⟨h16, h16'⟩⟩ := hs
  dsimp only at *
  refine pc_seal rfl rfl ?_
  refine runE mixed fi27 ?_ <;> try with_reducible exact True.intro
  refine callI_pure (ncopy_c e1 (by omega)) ?_
  refine goE mixed ?_ <;> try with_reducible exact True.intro
  refine callI_pure (copies_prin e2 _ (by omega) ho.2.1.2 (fun x hx => ncopy_c x (by have := h2' x hx; omega))) ?_
  refine goE mixed ?_ <;> try with_reducible exact True.intro
  refine callI_pure (copies_kset e5 _ (by omega) ho.2.2.2.2.1.2 (fun x hx => copySet_c x (ho.2.2.2.2.1.2 x hx) (by have := (h5' x hx).1; omega) (fun k hk => by have := (h5' x hx).2 k hk; omega))) ?_
  refine goE mixed ?_ <;> try with_reducible exact True.intro
  refine callI_pure (copies_prin e14 _ (by omega) ho.2.2.2.2.2.2.2.2.2.2.2.2.2.1.2 (fun x hx => ncopy_c x (by have := h14' x hx; omega))) ?_
  refine goE mixed ?_ <;> try with_reducible exact True.intro
  refine callI_pure (copies_prin e15 _ (by omega) ho.2.2.2.2.2.2.2.2.2.2.2.2.2.2.1.2 (fun x hx => ncopy_c x (by have := h15' x hx; omega))) ?_
  refine goE mixed ?_ <;> try with_reducible exact True.intro
  refine callI_pure (copies_bytes e16 _ (by omega) (fun x hx => cbytes_c x (by have := h16' x hx; omega))) ?_
  refine goE mixed ?_ <;> try with_reducible exact True.intro
end Go.Proofs.YtddmkgibghohkaaGreatDoor
/- Contracts: the encoding of entries and offers. -/
namespace Go.Proofs.YtddmkgibghohkaaGreatDoor
open Go Go.Sx Go.Proofs
set_option maxRecDepth 100000
set_option maxHeartbeats 4000000
set_option linter.unusedSimpArgs false

def tagS (l : List (List UInt8)) : List UInt8 := elemS 48 (tagN l l.length)
def tagM (l : List (List UInt8)) (i : Nat) : List (List UInt8) := tagN l i ++ l.drop i
theorem tagM_set {l : List (List UInt8)} {i : Nat} (h : i < l.length) : (tagM l i).set i (wrapS 160 i ((tagM l i).getD i (Ty.slice .u8).dflt)) = tagM l (i + 1) ∧ (tagM l i).getD i (Ty.slice .u8).dflt = l.getD i (Ty.slice .u8).dflt := by
  have hl : (tagN l i).length = i := by simp [tagN]
  have h2 : (tagM l i).getD i (Ty.slice .u8).dflt = l.getD i (Ty.slice .u8).dflt := by
    unfold tagM
    rw [List.getD_eq_getElem?_getD, List.getElem?_append_right (by omega), hl, Nat.sub_self, List.getElem?_drop, List.getD_eq_getElem?_getD, Nat.add_zero]
  refine ⟨?_, h2⟩
  rw [h2]
  unfold tagM
  rw [List.set_append_right _ _ (by omega), hl, Nat.sub_self, List.drop_eq_getElem_cons h, List.set_cons_zero, tagN_succ, List.append_assoc]
  rfl
theorem etagged_c (l : List (List UInt8)) (hl : l.length ≤ 1048576) : PCT Tryz.prog 154 (.slice .u8) l (.isl .u8 (tagS l)) := by
  refine pct_seal rfl ?_
  refine runE mixed fi154 ?_ <;> try with_reducible exact True.intro
  refine si_loopX (ι := Nat) (fun i => [(7, rI i)]) (fun i => [.row (.slice .u8) (tagM l i)]) (fun i => l.length - i) (fun i => i ≤ l.length) 0 (Nat.zero_le _) (by simp [tagM, tagN]) ?_ ?_
  · (with_reducible refine sxE ?_ <;> try exact True.intro)
  intro i hi
  have hwr : IntKind.i64.wrap ((i : Int) + 1) = ((i + 1 : Nat) : Int) := wrap_succ (by omega)
  have hln : (tagM l i).length = l.length := by simp [tagM, tagN]; omega
  refine run_sound mixed 600 _ ?_
  simp (maxSteps := 3000000) only [hln, go_sem, ↓zA, ↓reduceIte, ↓reduceDIte, reduceCtorEq, Nat.reduceAdd, Nat.reduceSub, Nat.reduceLeDiff, Nat.reduceLT, Nat.reduceEqDiff, Nat.reduceBEq, Nat.reduceMul, Int.reduceToNat, Int.reduceEq, Int.reduceLT, Int.reduceLE] <;> try simp only [zB]
  refine ⟨fun hlt => ⟨⟨by omega, hlt⟩, by omega, callI_pure (tagged_c _ _) ?_⟩, fun hge => ?_⟩
  · refine run_sound mixed 600 _ ?_
    simp (maxSteps := 3000000) only [hln, go_sem, ↓zA, ↓reduceIte, ↓reduceDIte, reduceCtorEq, Nat.reduceAdd, Nat.reduceSub, Nat.reduceLeDiff, Nat.reduceLT, Nat.reduceEqDiff, Nat.reduceBEq, Nat.reduceMul, Int.reduceToNat, Int.reduceEq, Int.reduceLT, Int.reduceLE] <;> try simp only [zB]
    obtain ⟨h1, h2⟩ := tagM_set hlt
    rw [Nat.zero_add]
    refine ⟨⟨by omega, hlt⟩, hlt, i + 1, hlt, by dsimp only; omega, ?_, ?_⟩
    · dsimp only; rw [← h1]
    · simp (maxSteps := 3000000) only [hwr, go_sem, ↓zA, ↓reduceIte, ↓reduceDIte, reduceCtorEq, Nat.reduceAdd, Nat.reduceSub, Nat.reduceLeDiff, Nat.reduceLT, Nat.reduceEqDiff, Nat.reduceBEq, Nat.reduceMul, Int.reduceToNat, Int.reduceEq, Int.reduceLT, Int.reduceLE] <;> try simp only [zB]
  · obtain rfl : i = l.length := by omega
    refine callI_hand 0 ?_
    simp (maxSteps := 3000000) only [hln, go_sem, ↓zA, ↓reduceIte, ↓reduceDIte, reduceCtorEq, Nat.reduceAdd, Nat.reduceSub, Nat.reduceLeDiff, Nat.reduceLT, Nat.reduceEqDiff, Nat.reduceBEq, Nat.reduceMul, Int.reduceToNat, Int.reduceEq, Int.reduceLT, Int.reduceLE] <;> try simp only [zB]
    refine ⟨by omega, ?_⟩
    rw [List.take_of_length_le (by omega)]
    refine ⟨Nat.le_refl _, callI_pure (sequence_c (tagM l l.length) (by omega)) ?_⟩
    refine goE mixed ?_ <;> try with_reducible exact True.intro
    unfold tagS tagM
    rw [List.drop_length, List.append_nil]
def numO (v : Int) : List UInt8 := if v = 0 then [] else intS v
theorem einteger_c (v : Int) : PC Tryz.prog 158 [rI v] (.isl .u8 (numO v)) := by
  refine pc_seal rfl rfl ?_
  refine runE mixed fi158 ?_ <;> try with_reducible exact True.intro
  refine ⟨fun h => ?_, fun h => callI_pure (integer_c v) ?_⟩
  · unfold numO; rw [if_pos h]
  · refine goE mixed ?_ <;> try with_reducible exact True.intro
    unfold numO; rw [if_neg h]
def timO (v : Int) : List UInt8 := if v = 0 then [] else timeS v
theorem einstant_c (v : Int) : PC Tryz.prog 162 [rI v] (.isl .u8 (timO v)) := by
  refine pc_seal rfl rfl ?_
  refine runE mixed fi162 ?_ <;> try with_reducible exact True.intro
  refine ⟨fun h => ?_, fun h => callI_pure (time_c v) ?_⟩
  · unfold timO; rw [if_pos h]
  · refine goE mixed ?_ <;> try with_reducible exact True.intro
    unfold timO; rw [if_neg h]
def txtO (s : ByteArray) : List UInt8 := if s = ⟨#[]⟩ then [] else elemS 27 [s.data.toList]
theorem etext_c (s : ByteArray) (hs : s.size ≤ 140737488355328) : PC Tryz.prog 161 [rS s] (.isl .u8 (txtO s)) := by
  refine pc_seal rfl rfl ?_
  refine runE mixed fi161 ?_ <;> try with_reducible exact True.intro
  refine ⟨fun h => ?_, fun h => callI_pure (dstring_c s hs) ?_⟩
  · unfold txtO; rw [if_pos h]
  · refine goE mixed ?_ <;> try with_reducible exact True.intro
    unfold txtO; rw [if_neg h]
def strsN (l : List ByteArray) (i : Nat) : List (List UInt8) := (l.take i).map fun s => elemS 27 [s.data.toList]
theorem strsN_succ {l : List ByteArray} {i : Nat} (h : i < l.length) : strsN l (i + 1) = strsN l i ++ [elemS 27 [(l.getD i Ty.str.dflt).data.toList]] := by unfold strsN; rw [take_succ_getD (d := Ty.str.dflt) h]; simp
theorem strsN_len {l : List ByteArray} {i : Nat} (h : i ≤ l.length) : (strsN l i).length = i := by simp [strsN]; omega
def prinS (p : Prin) : List UInt8 := elemS 48 [wrapS 160 0 (elemS 48 (strsN p.1 p.1.length)), wrapS 160 1 (elemS 27 [p.2.data.toList])]
theorem nencode_c (p : Prin) (hp : PrinT.ok p) : PC Tryz.prog 209 [.agg (PrinT.cells p)] (.tup [.isl .u8 (if vPrin p then prinS p else []), rI (if vPrin p then 0 else 2)]) := by
  obtain ⟨l, r⟩ := p
  have hps : prinS (l, r) = elemS 48 [wrapS 160 0 (elemS 48 (strsN l l.length)), wrapS 160 1 (elemS 27 [r.data.toList])] := rfl
  have hok : ∀ {i}, i < l.length → (l.getD i Ty.str.dflt).size ≤ 140737488355328 := fun h => hp.1.2 _ (getD_mem h)
  have hr : r.size ≤ 140737488355328 := hp.2
  have hv := nvalid_c (l, r) hp
  have hv4 : vPrin (l, r) = true → l.length ≤ 4 := fun h => by simp [vPrin] at h; omega
  clear hp
  generalize vPrin (l, r) = vb at *
  generalize prinS (l, r) = ps at *
  change List ByteArray at l
  refine pc_seal rfl rfl ?_
  refine runE mixed fi209 ?_ <;> try with_reducible exact True.intro
  refine callI_pure hv ?_
  refine goE mixed ?_ <;> try with_reducible exact True.intro
  refine ⟨fun h => ?_, fun h => ?_⟩
  · rw [h]; exact ⟨rfl, rfl⟩
  have hl4 : l.length ≤ 4 := hv4 h
  subst h
  refine si_accN 4 (.slice .u8) (strsN l) (fun i => [(13, rI i)]) l.length (fun _ => True) rfl (by simp) (by simp [strsN]) rfl (fun i => rfl) ?_ fun i hi _ => ?_
  · (with_reducible refine sxE ?_ <;> try exact True.intro)
  have hwr : IntKind.i64.wrap ((i : Int) + 1) = ((i + 1 : Nat) : Int) := wrap_succ (by omega)
  have hln := strsN_len hi
  by_cases hlt : i < l.length
  · refine goE mixed ?_ <;> try with_reducible exact True.intro
    refine ⟨fun _ => ⟨⟨by omega, hlt⟩, callI_pure (dstring_c _ (hok hlt)) ?_⟩, fun h => absurd hlt h⟩
    refine goE mixed ?_ <;> try with_reducible exact True.intro
    have hst := strsN_succ hlt
    refine ⟨⟨by omega, by omega⟩, acc_next [_, _] [] hlt trivial (by rw [hst]; rfl) ?_⟩
    simp (maxSteps := 3000000) only [hwr, hst, List.length_append, go_sem, ↓zA, ↓reduceIte, ↓reduceDIte, reduceCtorEq, Nat.reduceAdd, Nat.reduceSub, Nat.reduceLeDiff, Nat.reduceLT, Nat.reduceEqDiff, Nat.reduceBEq, Nat.reduceMul, Int.reduceToNat, Int.reduceEq, Int.reduceLT, Int.reduceLE] <;> try simp only [zB]
  · obtain rfl : i = l.length := by omega
    refine si_freeze 1 rfl rfl (by omega) ?_ ?_ ?_
    · (with_reducible refine sxE ?_ <;> try exact True.intro)
    · (with_reducible refine sxE ?_ <;> try exact True.intro)
      exact Nat.le_refl _
    (with_reducible refine sxE ?_ <;> try exact True.intro)
    rw [List.take_of_length_le (Nat.le_refl _)]
    refine goE mixed ?_ <;> try with_reducible exact True.intro
    refine ⟨fun h => absurd h hlt, fun _ => callR_pure (sequence_c _ (by omega)) ?_⟩
    refine goE mixed ?_ <;> try with_reducible exact True.intro
    refine callR_pure (tagged_c _ _) ?_
    refine goE mixed ?_ <;> try with_reducible exact True.intro
    refine callR_pure (dstring_c r hr) ?_
    refine goE mixed ?_ <;> try with_reducible exact True.intro
    refine callR_pure (tagged_c _ _) ?_
    refine goE mixed ?_ <;> try with_reducible exact True.intro
    refine callR_hand 2 (by decide) ?_
    (with_reducible refine sxE ?_ <;> try exact True.intro)
    refine callR_pure (sequence_c _ (by simp)) ?_
    refine goE mixed ?_ <;> try with_reducible exact True.intro
    exact hps.symm
end Go.Proofs.YtddmkgibghohkaaGreatDoor
/- Contracts: the encoding of entries and offers, as a whole. -/
namespace Go.Proofs.YtddmkgibghohkaaGreatDoor
open Go Go.Sx Go.Proofs
set_option maxRecDepth 100000
set_option maxHeartbeats 4000000
set_option linter.unusedSimpArgs false

def mapN {t : Ty} (w : t.den → List UInt8) (l : List t.den) (i : Nat) : List (List UInt8) := (l.take i).map w
theorem mapN_succ {t : Ty} {w : t.den → List UInt8} {l : List t.den} {i : Nat} (h : i < l.length) : mapN w l (i + 1) = mapN w l i ++ [w (l.getD i t.dflt)] := by unfold mapN; rw [take_succ_getD (d := t.dflt) h]; simp
theorem mapN_len {t : Ty} {w : t.den → List UInt8} {l : List t.den} {i : Nat} (h : i ≤ l.length) : (mapN w l i).length = i := by simp [mapN]; omega
def listS {t : Ty} (w : t.den → List UInt8) (l : List t.den) : List UInt8 := if l.length = 0 then [] else elemS 48 (mapN w l l.length)
theorem list_key (l : List (KeyT).den) (g : Nat) (w : (KeyT).den → List UInt8) (hl : l.length ≤ 1048576) (hone : ∀ x ∈ l, PC Tryz.prog g [.agg ((KeyT).cells x)] (.isl .u8 (w x))) :
    PC Tryz.prog 211 [.isl (KeyT) l, .fn g [] []] (.isl .u8 (listS (t := KeyT) w l)) := by
  refine pc_seal rfl rfl ?_
  refine runE mixed fi211 ?_ <;> try with_reducible exact True.intro
  refine ⟨fun h0 => ?_, fun h0 => ?_⟩
  · unfold listS; rw [if_pos (by omega)]
  refine si_accN 5 (.slice .u8) (mapN (t := KeyT) w l) (fun i => [(13, rI i)]) l.length (fun _ => True) rfl (by simp) (by simp [mapN]) rfl (fun i => rfl) ?_ fun i hi _ => ?_
  · (with_reducible refine sxE ?_ <;> try exact True.intro)
  have hwr : IntKind.i64.wrap ((i : Int) + 1) = ((i + 1 : Nat) : Int) := wrap_succ (by omega)
  have hln := mapN_len (w := w) hi
  refine goE mixed ?_ <;> try with_reducible exact True.intro
  refine ⟨fun hlt => ⟨⟨by omega, hlt⟩, callI_pure (hone _ (getD_mem (d := (KeyT).dflt) hlt)) ?_⟩, fun hge => ?_⟩
  · refine goE mixed ?_ <;> try with_reducible exact True.intro
    have hst := mapN_succ (t := KeyT) (w := w) hlt
    refine ⟨⟨by omega, by omega⟩, acc_next [_, _, _] [] hlt trivial (by rw [hst]; rfl) ?_⟩
    simp (maxSteps := 3000000) only [hwr, hst, List.length_append, go_sem, ↓zA, ↓reduceIte, ↓reduceDIte, reduceCtorEq, Nat.reduceAdd, Nat.reduceSub, Nat.reduceLeDiff, Nat.reduceLT, Nat.reduceEqDiff, Nat.reduceBEq, Nat.reduceMul, Int.reduceToNat, Int.reduceEq, Int.reduceLT, Int.reduceLE] <;> try simp only [zB]
  · obtain rfl : i = l.length := by omega
    refine callI_hand 0 ?_
    (with_reducible refine sxE ?_ <;> try exact True.intro)
    refine ⟨by omega, Nat.le_refl _, ?_⟩
    rw [List.take_of_length_le (Nat.le_refl _)]
    refine callI_pure (sequence_c (mapN (t := KeyT) w l l.length) (by omega)) ?_
    refine goE mixed ?_ <;> try with_reducible exact True.intro
    unfold listS; rw [if_neg (by omega)]
theorem list_prin (l : List (PrinT).den) (g : Nat) (w : (PrinT).den → List UInt8) (hl : l.length ≤ 1048576) (hone : ∀ x ∈ l, PC Tryz.prog g [.agg ((PrinT).cells x)] (.isl .u8 (w x))) :
    PC Tryz.prog 156 [.isl (PrinT) l, .fn g [] []] (.isl .u8 (listS (t := PrinT) w l)) := by
  refine pc_seal rfl rfl ?_
  refine runE mixed fi156 ?_ <;> try with_reducible exact True.intro
  refine ⟨fun h0 => ?_, fun h0 => ?_⟩
  · unfold listS; rw [if_pos (by omega)]
  refine si_accN 5 (.slice .u8) (mapN (t := PrinT) w l) (fun i => [(13, rI i)]) l.length (fun _ => True) rfl (by simp) (by simp [mapN]) rfl (fun i => rfl) ?_ fun i hi _ => ?_
  · (with_reducible refine sxE ?_ <;> try exact True.intro)
  have hwr : IntKind.i64.wrap ((i : Int) + 1) = ((i + 1 : Nat) : Int) := wrap_succ (by omega)
  have hln := mapN_len (w := w) hi
  refine goE mixed ?_ <;> try with_reducible exact True.intro
  refine ⟨fun hlt => ⟨⟨by omega, hlt⟩, callI_pure (hone _ (getD_mem (d := (PrinT).dflt) hlt)) ?_⟩, fun hge => ?_⟩
  · refine goE mixed ?_ <;> try with_reducible exact True.intro
    have hst := mapN_succ (t := PrinT) (w := w) hlt
    refine ⟨⟨by omega, by omega⟩, acc_next [_, _, _] [] hlt trivial (by rw [hst]; rfl) ?_⟩
    simp (maxSteps := 3000000) only [hwr, hst, List.length_append, go_sem, ↓zA, ↓reduceIte, ↓reduceDIte, reduceCtorEq, Nat.reduceAdd, Nat.reduceSub, Nat.reduceLeDiff, Nat.reduceLT, Nat.reduceEqDiff, Nat.reduceBEq, Nat.reduceMul, Int.reduceToNat, Int.reduceEq, Int.reduceLT, Int.reduceLE] <;> try simp only [zB]
  · obtain rfl : i = l.length := by omega
    refine callI_hand 0 ?_
    (with_reducible refine sxE ?_ <;> try exact True.intro)
    refine ⟨by omega, Nat.le_refl _, ?_⟩
    rw [List.take_of_length_le (Nat.le_refl _)]
    refine callI_pure (sequence_c (mapN (t := PrinT) w l l.length) (by omega)) ?_
    refine goE mixed ?_ <;> try with_reducible exact True.intro
    unfold listS; rw [if_neg (by omega)]
theorem list_kset (l : List (SetT).den) (g : Nat) (w : (SetT).den → List UInt8) (hl : l.length ≤ 1048576) (hone : ∀ x ∈ l, PC Tryz.prog g [.agg ((SetT).cells x)] (.isl .u8 (w x))) :
    PC Tryz.prog 159 [.isl (SetT) l, .fn g [] []] (.isl .u8 (listS (t := SetT) w l)) := by
  refine pc_seal rfl rfl ?_
  refine runE mixed fi159 ?_ <;> try with_reducible exact True.intro
  refine ⟨fun h0 => ?_, fun h0 => ?_⟩
  · unfold listS; rw [if_pos (by omega)]
  refine si_accN 5 (.slice .u8) (mapN (t := SetT) w l) (fun i => [(13, rI i)]) l.length (fun _ => True) rfl (by simp) (by simp [mapN]) rfl (fun i => rfl) ?_ fun i hi _ => ?_
  · (with_reducible refine sxE ?_ <;> try exact True.intro)
  have hwr : IntKind.i64.wrap ((i : Int) + 1) = ((i + 1 : Nat) : Int) := wrap_succ (by omega)
  have hln := mapN_len (w := w) hi
  refine goE mixed ?_ <;> try with_reducible exact True.intro
  refine ⟨fun hlt => ⟨⟨by omega, hlt⟩, callI_pure (hone _ (getD_mem (d := (SetT).dflt) hlt)) ?_⟩, fun hge => ?_⟩
  · refine goE mixed ?_ <;> try with_reducible exact True.intro
    have hst := mapN_succ (t := SetT) (w := w) hlt
    refine ⟨⟨by omega, by omega⟩, acc_next [_, _, _] [] hlt trivial (by rw [hst]; rfl) ?_⟩
    simp (maxSteps := 3000000) only [hwr, hst, List.length_append, go_sem, ↓zA, ↓reduceIte, ↓reduceDIte, reduceCtorEq, Nat.reduceAdd, Nat.reduceSub, Nat.reduceLeDiff, Nat.reduceLT, Nat.reduceEqDiff, Nat.reduceBEq, Nat.reduceMul, Int.reduceToNat, Int.reduceEq, Int.reduceLT, Int.reduceLE] <;> try simp only [zB]
  · obtain rfl : i = l.length := by omega
    refine callI_hand 0 ?_
    (with_reducible refine sxE ?_ <;> try exact True.intro)
    refine ⟨by omega, Nat.le_refl _, ?_⟩
    rw [List.take_of_length_le (Nat.le_refl _)]
    refine callI_pure (sequence_c (mapN (t := SetT) w l l.length) (by omega)) ?_
    refine goE mixed ?_ <;> try with_reducible exact True.intro
    unfold listS; rw [if_neg (by omega)]
theorem list_salt (l : List (SaltT).den) (g : Nat) (w : (SaltT).den → List UInt8) (hl : l.length ≤ 1048576) (hone : ∀ x ∈ l, PC Tryz.prog g [.agg ((SaltT).cells x)] (.isl .u8 (w x))) :
    PC Tryz.prog 134 [.isl (SaltT) l, .fn g [] []] (.isl .u8 (listS (t := SaltT) w l)) := by
  refine pc_seal rfl rfl ?_
  refine runE mixed fi134 ?_ <;> try with_reducible exact True.intro
  refine ⟨fun h0 => ?_, fun h0 => ?_⟩
  · unfold listS; rw [if_pos (by omega)]
  refine si_accN 5 (.slice .u8) (mapN (t := SaltT) w l) (fun i => [(13, rI i)]) l.length (fun _ => True) rfl (by simp) (by simp [mapN]) rfl (fun i => rfl) ?_ fun i hi _ => ?_
  · (with_reducible refine sxE ?_ <;> try exact True.intro)
  have hwr : IntKind.i64.wrap ((i : Int) + 1) = ((i + 1 : Nat) : Int) := wrap_succ (by omega)
  have hln := mapN_len (w := w) hi
  refine goE mixed ?_ <;> try with_reducible exact True.intro
  refine ⟨fun hlt => ⟨⟨by omega, hlt⟩, callI_pure (hone _ (getD_mem (d := (SaltT).dflt) hlt)) ?_⟩, fun hge => ?_⟩
  · refine goE mixed ?_ <;> try with_reducible exact True.intro
    have hst := mapN_succ (t := SaltT) (w := w) hlt
    refine ⟨⟨by omega, by omega⟩, acc_next [_, _, _] [] hlt trivial (by rw [hst]; rfl) ?_⟩
    simp (maxSteps := 3000000) only [hwr, hst, List.length_append, go_sem, ↓zA, ↓reduceIte, ↓reduceDIte, reduceCtorEq, Nat.reduceAdd, Nat.reduceSub, Nat.reduceLeDiff, Nat.reduceLT, Nat.reduceEqDiff, Nat.reduceBEq, Nat.reduceMul, Int.reduceToNat, Int.reduceEq, Int.reduceLT, Int.reduceLE] <;> try simp only [zB]
  · obtain rfl : i = l.length := by omega
    refine callI_hand 0 ?_
    (with_reducible refine sxE ?_ <;> try exact True.intro)
    refine ⟨by omega, Nat.le_refl _, ?_⟩
    rw [List.take_of_length_le (Nat.le_refl _)]
    refine callI_pure (sequence_c (mapN (t := SaltT) w l l.length) (by omega)) ?_
    refine goE mixed ?_ <;> try with_reducible exact True.intro
    unfold listS; rw [if_neg (by omega)]
theorem list_bytes (l : List ((Ty.slice .u8)).den) (g : Nat) (w : ((Ty.slice .u8)).den → List UInt8) (hl : l.length ≤ 1048576) (hone : ∀ x ∈ l, PC Tryz.prog g [.isl .u8 x] (.isl .u8 (w x))) :
    PC Tryz.prog 163 [.isl ((Ty.slice .u8)) l, .fn g [] []] (.isl .u8 (listS (t := (Ty.slice .u8)) w l)) := by
  refine pc_seal rfl rfl ?_
  refine runE mixed fi163 ?_ <;> try with_reducible exact True.intro
  refine ⟨fun h0 => ?_, fun h0 => ?_⟩
  · unfold listS; rw [if_pos (by omega)]
  refine si_accN 5 (.slice .u8) (mapN (t := (Ty.slice .u8)) w l) (fun i => [(13, rI i)]) l.length (fun _ => True) rfl (by simp) (by simp [mapN]) rfl (fun i => rfl) ?_ fun i hi _ => ?_
  · (with_reducible refine sxE ?_ <;> try exact True.intro)
  have hwr : IntKind.i64.wrap ((i : Int) + 1) = ((i + 1 : Nat) : Int) := wrap_succ (by omega)
  have hln := mapN_len (w := w) hi
  refine goE mixed ?_ <;> try with_reducible exact True.intro
  refine ⟨fun hlt => ⟨⟨by omega, hlt⟩, callI_pure (hone _ (getD_mem (d := ((Ty.slice .u8)).dflt) hlt)) ?_⟩, fun hge => ?_⟩
  · refine goE mixed ?_ <;> try with_reducible exact True.intro
    have hst := mapN_succ (t := (Ty.slice .u8)) (w := w) hlt
    refine ⟨⟨by omega, by omega⟩, acc_next [_, _] [] hlt trivial (by rw [hst]; rfl) ?_⟩
    simp (maxSteps := 3000000) only [hwr, hst, List.length_append, go_sem, ↓zA, ↓reduceIte, ↓reduceDIte, reduceCtorEq, Nat.reduceAdd, Nat.reduceSub, Nat.reduceLeDiff, Nat.reduceLT, Nat.reduceEqDiff, Nat.reduceBEq, Nat.reduceMul, Int.reduceToNat, Int.reduceEq, Int.reduceLT, Int.reduceLE] <;> try simp only [zB]
  · obtain rfl : i = l.length := by omega
    refine callI_hand 0 ?_
    (with_reducible refine sxE ?_ <;> try exact True.intro)
    refine ⟨by omega, Nat.le_refl _, ?_⟩
    rw [List.take_of_length_le (Nat.le_refl _)]
    refine callI_pure (sequence_c (mapN (t := (Ty.slice .u8)) w l l.length) (by omega)) ?_
    refine goE mixed ?_ <;> try with_reducible exact True.intro
    unfold listS; rw [if_neg (by omega)]
def prinE (p : Prin) : List UInt8 := if vPrin p then prinS p else []
theorem eprincipal_c (p : Prin) (hp : PrinT.ok p) : PC Tryz.prog 155 [.agg (PrinT.cells p)] (.isl .u8 (prinE p)) := by
  unfold prinE
  refine pc_seal rfl rfl ?_
  refine runE mixed fi155 ?_ <;> try with_reducible exact True.intro
  refine callI_pure (nencode_c p hp) ?_
  refine goE mixed ?_ <;> try with_reducible exact True.intro
def setS (s : KSet) : List UInt8 := tagS [intS s.1, listS (t := KeyT) keyS s.2.1, txtO s.2.2.1, numO s.2.2.2.1, timeS s.2.2.2.2]
theorem writeSet_c (s : KSet) (hs : SetT.ok s) (hl : s.2.1.length ≤ 1048576) : PC Tryz.prog 160 [.agg (SetT.cells s)] (.isl .u8 (setS s)) := by
  refine pc_seal rfl rfl ?_
  refine runE mixed fi160 ?_ <;> try with_reducible exact True.intro
  refine callR_pure (integer_c _) ?_
  refine goE mixed ?_ <;> try with_reducible exact True.intro
  refine callR_pure (list_key _ _ keyS hl (fun x _ => dkey_c x)) ?_
  refine goE mixed ?_ <;> try with_reducible exact True.intro
  refine callR_pure (etext_c _ hs.2.2.1) ?_
  refine goE mixed ?_ <;> try with_reducible exact True.intro
  refine callR_pure (einteger_c _) ?_
  refine goE mixed ?_ <;> try with_reducible exact True.intro
  refine callR_pure (time_c _) ?_
  refine goE mixed ?_ <;> try with_reducible exact True.intro
  refine callR_move (etagged_c _ (by simp)) (by decide) rfl rfl ?_
  refine goE mixed ?_ <;> try with_reducible exact True.intro
  rfl
def saltS (s : Salt) : List UInt8 := tagS [intS s.1, elemS 27 [s.2.1.data.toList], intS s.2.2]
theorem writeSalt_c (s : Salt) (hs : SaltT.ok s) : PC Tryz.prog 135 [.agg (SaltT.cells s)] (.isl .u8 (saltS s)) := by
  refine pc_seal rfl rfl ?_
  refine runE mixed fi135 ?_ <;> try with_reducible exact True.intro
  refine callR_pure (integer_c _) ?_
  refine goE mixed ?_ <;> try with_reducible exact True.intro
  refine callR_pure (dstring_c _ hs.2.1) ?_
  refine goE mixed ?_ <;> try with_reducible exact True.intro
  refine callR_pure (integer_c _) ?_
  refine goE mixed ?_ <;> try with_reducible exact True.intro
  refine callR_move (etagged_c _ (by simp)) (by decide) rfl rfl ?_
  refine goE mixed ?_ <;> try with_reducible exact True.intro
  rfl
def offerS (l : List Salt) : List UInt8 := if l.length = 0 then elemS 48 [] else listS (t := SaltT) saltS l
theorem writeOffer_c (l : List Salt) (ho : (Ty.slice SaltT).ok l) (hl : l.length ≤ 1048576) : PC Tryz.prog 71 [.isl SaltT l] (.isl .u8 (offerS l)) := by
  refine pc_seal rfl rfl ?_
  refine runE mixed fi71 ?_ <;> try with_reducible exact True.intro
  refine ⟨fun h0 => ?_, fun h0 => ?_⟩
  · refine callI_pure ((sequence_c [] (by simp)).arg (by simp [leVL_cons, leVL_nil, leV_nil])) ?_
    refine goE mixed ?_ <;> try with_reducible exact True.intro
    unfold offerS; rw [if_pos (by omega)]
  · refine callI_pure (list_salt l _ saltS hl (fun x hx => writeSalt_c x (ho.2 x hx))) ?_
    refine goE mixed ?_ <;> try with_reducible exact True.intro
    unfold offerS; rw [if_neg (by omega)]
def vSalt (s : Salt) : Bool := decide (keyLen s.1 ≠ 0) && (decide ((s.2.1.size : Int) ≤ 256) && (decide (0 ≤ s.2.2) && decide (s.2.2 ≤ 65536)))
def oOrd (a b : Salt) : Bool := decide (a.1 < b.1)
theorem voffer1_c (s : Salt) : PC Tryz.prog 130 [.agg (SaltT.cells s)] (rB (vSalt s)) := by
  refine pc_of rfl rfl ?_
  refine runE mixed fi130 ?_ <;> try with_reducible exact True.intro
  repeat' (first
    | (refine callI_pure (keyLen_c _) ?_; refine run_sound mixed 600 _ ?_; simp (maxSteps := 3000000) only [go_sem, ↓zA, ↓reduceIte, ↓reduceDIte, reduceCtorEq, Nat.reduceAdd, Nat.reduceSub, Nat.reduceLeDiff, Nat.reduceLT, Nat.reduceEqDiff, Nat.reduceBEq, Nat.reduceMul, Int.reduceToNat, Int.reduceEq, Int.reduceLT, Int.reduceLE] <;> try simp only [zB])
    | (refine callR_pure (keyLen_c _) ?_; refine run_sound mixed 600 _ ?_; simp (maxSteps := 3000000) only [go_sem, ↓zA, ↓reduceIte, ↓reduceDIte, reduceCtorEq, Nat.reduceAdd, Nat.reduceSub, Nat.reduceLeDiff, Nat.reduceLT, Nat.reduceEqDiff, Nat.reduceBEq, Nat.reduceMul, Int.reduceToNat, Int.reduceEq, Int.reduceLT, Int.reduceLE] <;> try simp only [zB])
    | (refine callF_pure (keyLen_c _) ?_; refine run_sound mixed 600 _ ?_; simp (maxSteps := 3000000) only [go_sem, ↓zA, ↓reduceIte, ↓reduceDIte, reduceCtorEq, Nat.reduceAdd, Nat.reduceSub, Nat.reduceLeDiff, Nat.reduceLT, Nat.reduceEqDiff, Nat.reduceBEq, Nat.reduceMul, Int.reduceToNat, Int.reduceEq, Int.reduceLT, Int.reduceLE] <;> try simp only [zB])
    | (refine callI_pure (btw_c _ _ _) ?_; refine run_sound mixed 600 _ ?_; simp (maxSteps := 3000000) only [go_sem, ↓zA, ↓reduceIte, ↓reduceDIte, reduceCtorEq, Nat.reduceAdd, Nat.reduceSub, Nat.reduceLeDiff, Nat.reduceLT, Nat.reduceEqDiff, Nat.reduceBEq, Nat.reduceMul, Int.reduceToNat, Int.reduceEq, Int.reduceLT, Int.reduceLE] <;> try simp only [zB])
    | (refine callR_pure (btw_c _ _ _) ?_; refine run_sound mixed 600 _ ?_; simp (maxSteps := 3000000) only [go_sem, ↓zA, ↓reduceIte, ↓reduceDIte, reduceCtorEq, Nat.reduceAdd, Nat.reduceSub, Nat.reduceLeDiff, Nat.reduceLT, Nat.reduceEqDiff, Nat.reduceBEq, Nat.reduceMul, Int.reduceToNat, Int.reduceEq, Int.reduceLT, Int.reduceLE] <;> try simp only [zB])
    | (refine callF_pure (btw_c _ _ _) ?_; refine run_sound mixed 600 _ ?_; simp (maxSteps := 3000000) only [go_sem, ↓zA, ↓reduceIte, ↓reduceDIte, reduceCtorEq, Nat.reduceAdd, Nat.reduceSub, Nat.reduceLeDiff, Nat.reduceLT, Nat.reduceEqDiff, Nat.reduceBEq, Nat.reduceMul, Int.reduceToNat, Int.reduceEq, Int.reduceLT, Int.reduceLE] <;> try simp only [zB])
    | (with_reducible refine And.intro ?_ ?_)
    | (with_reducible intro _))
  all_goals (grind [vSalt])
theorem voffer2_c (a b : Salt) : PC Tryz.prog 132 [.agg (SaltT.cells a), .agg (SaltT.cells b)] (rB (oOrd a b)) := by
  refine pc_of rfl rfl ?_
  refine runE mixed fi132 ?_ <;> try with_reducible exact True.intro
  rfl
def vOffer (l : List Salt) : Bool := (decide ((l.length : Int) ≤ 4) && l.all vSalt) && ord (t := SaltT) oOrd l
theorem voffer_c (l : List Salt) (hl : l.length ≤ 1125899906842624) : PC Tryz.prog 70 [.isl SaltT l] (rB (vOffer l)) := by
  refine pc_of rfl rfl ?_
  refine runE mixed fi70 ?_ <;> try with_reducible exact True.intro
  refine callI_at ((every_salt _ _ _ _ vSalt _ hl (fun x _ G => (voffer1_c x).at _))) ?_
  refine goE mixed ?_ <;> try with_reducible exact True.intro
  refine ⟨fun h1 => ?_, fun h1 => ?_⟩
  rotate_left
  · first | (simp only [vOffer, h1, Bool.false_and, Bool.and_false]; done) | simp [vOffer, h1]
  refine callI_at (ordered_salt _ _ _ oOrd _ hl (fun x _ y _ G => (voffer2_c x y).at _)) ?_
  refine goE mixed ?_ <;> try with_reducible exact True.intro
  simp_all [vOffer]
theorem encodeOffer_c (l : List Salt) (ho : (Ty.slice SaltT).ok l) : PC Tryz.prog 32 [.isl SaltT l] (.tup [.isl .u8 (if vOffer l then offerS l else []), rI (if vOffer l then 0 else 2)]) := by
  refine pc_seal rfl rfl ?_
  refine runE mixed fi32 ?_ <;> try with_reducible exact True.intro
  refine callI_pure (voffer_c l ho.1) ?_
  refine goE mixed ?_ <;> try with_reducible exact True.intro
  refine ⟨fun h => ?_, fun h => ?_⟩
  · rw [h]; exact ⟨rfl, rfl⟩
  · have hl : l.length ≤ 1048576 := by simp [vOffer] at h; omega
    refine callI_pure (writeOffer_c l ho hl) ?_
    refine goE mixed ?_ <;> try with_reducible exact True.intro
    rw [h]; exact ⟨rfl, rfl⟩
end Go.Proofs.YtddmkgibghohkaaGreatDoor
/- Contracts: the encoding of entries. -/
namespace Go.Proofs.YtddmkgibghohkaaGreatDoor
open Go Go.Sx Go.Proofs
set_option maxRecDepth 100000
set_option maxHeartbeats 4000000
set_option linter.unusedSimpArgs false

def octS (b : List UInt8) : List UInt8 := elemS 4 [b]
def entS (e : Ent) : List UInt8 := tagS [prinE e.1, listS (t := PrinT) prinE e.2.1, bitsS e.2.2.1, numO e.2.2.2.1, listS (t := SetT) setS e.2.2.2.2.1, txtO e.2.2.2.2.2.1, timO e.2.2.2.2.2.2.1, timO e.2.2.2.2.2.2.2.1, numO e.2.2.2.2.2.2.2.2.1, numO e.2.2.2.2.2.2.2.2.2.1,
  numO e.2.2.2.2.2.2.2.2.2.2.1, timO e.2.2.2.2.2.2.2.2.2.2.2.1, timO e.2.2.2.2.2.2.2.2.2.2.2.2.1, listS (t := PrinT) prinE e.2.2.2.2.2.2.2.2.2.2.2.2.2.1, listS (t := PrinT) prinE e.2.2.2.2.2.2.2.2.2.2.2.2.2.2.1, listS (t := Ty.slice .u8) octS e.2.2.2.2.2.2.2.2.2.2.2.2.2.2.2]
theorem write_c (e : Ent) (ho : EntT.ok e) (hs : small47 e) (ha : 0 ≤ e.2.2.1 ∧ e.2.2.1 ≤ 4294967295) : PC Tryz.prog 85 [.agg (EntT.cells e)] (.isl .u8 (entS e)) := by
  obtain ⟨e1, e2, e3, e4, e5, e6, e7, e8, e9, e10, e11, e12, e13, e14, e15, e16⟩ := e
  obtain ⟨h1, ⟨h2, h2'⟩, ⟨h5, h5'⟩, ⟨h14, h14'⟩, ⟨h15, h15'⟩, ⟨h16, h16'⟩⟩ := hs
  dsimp only at *
  refine pc_seal rfl rfl ?_
  refine runE mixed fi85 ?_ <;> try with_reducible exact True.intro
  refine callR_pure (eprincipal_c e1 ho.1) ?_
  refine goE mixed ?_ <;> try with_reducible exact True.intro
  refine callR_pure (list_prin e2 _ prinE h2 (fun x hx => eprincipal_c x (ho.2.1.2 x hx))) ?_
  refine goE mixed ?_ <;> try with_reducible exact True.intro
  refine callR_pure (bits_c _ ha) ?_
  refine goE mixed ?_ <;> try with_reducible exact True.intro
  refine callR_pure (einteger_c _) ?_
  refine goE mixed ?_ <;> try with_reducible exact True.intro
  refine callR_pure (list_kset e5 _ setS h5 (fun x hx => writeSet_c x (ho.2.2.2.2.1.2 x hx) (h5' x hx).1)) ?_
  refine goE mixed ?_ <;> try with_reducible exact True.intro
  refine callR_pure (etext_c _ ho.2.2.2.2.2.1) ?_
  refine goE mixed ?_ <;> try with_reducible exact True.intro
  refine callR_pure (einstant_c _) ?_
  refine goE mixed ?_ <;> try with_reducible exact True.intro
  refine callR_pure (einstant_c _) ?_
  refine goE mixed ?_ <;> try with_reducible exact True.intro
  refine callR_pure (einteger_c _) ?_
  refine goE mixed ?_ <;> try with_reducible exact True.intro
  refine callR_pure (einteger_c _) ?_
  refine goE mixed ?_ <;> try with_reducible exact True.intro
  refine callR_pure (einteger_c _) ?_
  refine goE mixed ?_ <;> try with_reducible exact True.intro
  refine callR_pure (einstant_c _) ?_
  refine goE mixed ?_ <;> try with_reducible exact True.intro
  refine callR_pure (einstant_c _) ?_
  refine goE mixed ?_ <;> try with_reducible exact True.intro
  refine callR_pure (list_prin e14 _ prinE h14 (fun x hx => eprincipal_c x (ho.2.2.2.2.2.2.2.2.2.2.2.2.2.1.2 x hx))) ?_
  refine goE mixed ?_ <;> try with_reducible exact True.intro
  refine callR_pure (list_prin e15 _ prinE h15 (fun x hx => eprincipal_c x (ho.2.2.2.2.2.2.2.2.2.2.2.2.2.2.1.2 x hx))) ?_
  refine goE mixed ?_ <;> try with_reducible exact True.intro
  refine callR_pure (list_bytes e16 _ octS h16 (fun x _ => octets_c x)) ?_
  refine goE mixed ?_ <;> try with_reducible exact True.intro
  refine callR_move (etagged_c _ (by simp)) (by decide) rfl rfl ?_
  refine goE mixed ?_ <;> try with_reducible exact True.intro
  rfl
theorem vPrin_small {p : Prin} (h : vPrin p = true) : p.1.length ≤ 1048576 := by simp [vPrin] at h; omega
theorem vKeyS_small {v m : Int} {k : Key} (h : vKeyS v m k = true) : k.2.2.length ≤ 1048576 := by
  simp only [vKeyS, Bool.and_eq_true, decide_eq_true_eq] at h
  have h3 := h.2.2
  split at h3
  · have hk : keyLen k.1 ≤ 32 := by unfold keyLen; split <;> (try split) <;> omega
    simp only [vKey, Bool.and_eq_true, decide_eq_true_eq] at h3
    omega
  · simp only [Bool.and_eq_true, decide_eq_true_eq] at h3; omega
theorem vSet_small {s : KSet} {m : Int} (h : vSet s m = true) : s.2.1.length ≤ 1048576 ∧ ∀ k ∈ s.2.1, k.2.2.length ≤ 1048576 := by
  simp only [vSet, Bool.and_eq_true, decide_eq_true_eq, List.all_eq_true] at h
  exact ⟨by omega, fun k hk => vKeyS_small (h.2.2.1.2 k hk)⟩
theorem vEnt_small {e : Ent} (h : vEnt e = true) : small47 e := by
  simp only [vEnt, vNames, vKeys, vPrins, Bool.and_eq_true, decide_eq_true_eq, List.all_eq_true] at h
  obtain ⟨⟨n1, ⟨n2, n3⟩, _⟩, _, _, ⟨⟨k1, k2⟩, _⟩, _, _, _, _, ⟨⟨t1, t2⟩, _⟩, ⟨⟨d1, d2⟩, _⟩, h1, h2⟩ := h
  refine ⟨vPrin_small n1, ⟨by omega, fun p hp => ?_⟩, ⟨by omega, fun s hs => vSet_small (k2 s hs)⟩, ⟨by omega, fun p hp => vPrin_small (t2 p hp)⟩, ⟨by omega, fun p hp => vPrin_small (d2 p hp)⟩, ⟨by omega, fun b hb => ?_⟩⟩
  · have := n3 p hp
    simp only [vAlias, Bool.and_eq_true] at this
    exact vPrin_small this.1
  · have := h2 b hb
    simp only [lenB, decide_eq_true_eq] at this
    omega
theorem encode_c (e : Ent) (ho : EntT.ok e) (ha : 0 ≤ e.2.2.1 ∧ e.2.2.1 ≤ 4294967295) : PC Tryz.prog 37 [.agg (EntT.cells e)] (.tup [.isl .u8 (if vEnt e then entS e else []), rI (if vEnt e then 0 else 2)]) := by
  refine pc_seal rfl rfl ?_
  refine runE mixed fi37 ?_ <;> try with_reducible exact True.intro
  refine callI_pure (valid_k e ho) ?_
  refine goE mixed ?_ <;> try with_reducible exact True.intro
  refine ⟨fun h => ?_, fun h => ?_⟩
  · rw [h]; exact ⟨rfl, rfl⟩
  · refine callI_pure (write_c e ho (vEnt_small h) ha) ?_
    refine goE mixed ?_ <;> try with_reducible exact True.intro
    rw [h]; exact ⟨rfl, rfl⟩
end Go.Proofs.YtddmkgibghohkaaGreatDoor
