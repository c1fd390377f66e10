/- Contracts: entries that are valid. -/
import Derived.Test.YtddmkgibghohkaaGreatDoorP16
import Derived.Test.YtddmkgibghohkaaGreatDoorP9
set_option linter.unusedSimpArgs false
set_option linter.unusedVariables false
set_option linter.unusedSectionVars false
namespace Go.Proofs.YtddmkgibghohkaaGreatDoor
open Go Go.Sx Go.Proofs
set_option maxRecDepth 100000
set_option maxHeartbeats 4000000
set_option linter.unusedSimpArgs false

theorem vkeys1_k (s : KSet) (e : Ent) (H : List SObj) (hs : SetT.ok s) (he : ∀ R, (H ++ R)[0]? = some (.cells 31 (EntT.cells e))) : PCH Tryz.prog 170 [.agg (SetT.cells s), .ptr 0 0] (rB (vSet s e.2.2.2.1)) H := by
 refine pch_drop rfl ?_
 have he0 := he []
 rw [List.append_nil] at he0
 refine vc_fi fi170 (run_sound mixed 600 _ ?_)
 simp (maxSteps := 3000000) only [ir170, he, he0, go_sem, ↓zA, ↓reduceIte, ↓reduceDIte, reduceCtorEq, Nat.reduceAdd, Nat.reduceSub, Nat.reduceLeDiff, Nat.reduceLT, Nat.reduceEqDiff, Nat.reduceBEq, Nat.reduceMul, Int.reduceToNat, Int.reduceEq, Int.reduceLT, Int.reduceLE] <;> try simp only [zB]
 refine callI_pure (vset_k s _ hs) ?_
 refine goE mixed ?_
 exact ⟨rfl, _, rfl⟩

def vAlias (r : ByteArray) (a : Prin) : Bool := vPrin a && decide (a.2 = r)
theorem vnames1_k (a : Prin) (e : Ent) (H : List SObj) (ha : PrinT.ok a) (he : ∀ R, (H ++ R)[0]? = some (.cells 31 (EntT.cells e))) : PCH Tryz.prog 165 [.agg (PrinT.cells a), .ptr 0 0] (rB (vAlias e.1.2 a)) H := by
 refine pch_drop rfl ?_
 have he0 := he []
 rw [List.append_nil] at he0
 refine vc_fi fi165 (run_sound mixed 600 _ ?_)
 simp (maxSteps := 3000000) only [ir165, he, he0, go_sem, ↓zA, ↓reduceIte, ↓reduceDIte, reduceCtorEq, Nat.reduceAdd, Nat.reduceSub, Nat.reduceLeDiff, Nat.reduceLT, Nat.reduceEqDiff, Nat.reduceBEq, Nat.reduceMul, Int.reduceToNat, Int.reduceEq, Int.reduceLT, Int.reduceLE] <;> try simp only [zB]
 refine callI_pure (nvalid_c a ha) ?_
 refine run_sound mixed 600 _ ?_
 with_reducible refine sx1 he ?_
 refine ⟨fun h => ⟨?_, _, rfl⟩, fun h => ⟨?_, _, rfl⟩⟩
 · simp [vAlias, h]
 · simp [vAlias, h]
def vNames (e : Ent) : Bool := vPrin e.1 && ((decide ((e.2.1.length : Int) ≤ 16) && e.2.1.all (vAlias e.1.2)) && disB (e.1 :: e.2.1))
theorem vnames_k (e : Ent) (he : EntT.ok e) : PC Tryz.prog 90 [.agg (EntT.cells e)] (rB (vNames e)) := by
 refine pc_of rfl rfl ?_
 refine runE mixed fi90 ?_
 refine callI_pure (nvalid_c e.1 he.1) ?_
 refine goE mixed ?_
 refine ⟨fun h1 => ?_, fun h1 => ?_⟩
 rotate_left
 · first | (simp only [vNames, h1, Bool.false_and, Bool.and_false]; done) | simp [vNames, h1]
 refine callI_at ((every_prin _ _ _ _ (vAlias e.1.2) _ he.2.1.1 (fun x hx G => vnames1_k x e _ (he.2.1.2 x hx) (fun R => rfl)))) ?_
 refine goE mixed ?_
 refine ⟨fun h2 => ?_, fun h2 => ?_⟩
 rotate_left
 · first | (simp only [vNames, h2, Bool.false_and, Bool.and_false]; done) | simp [vNames, h2]
 have hl : (e.2.1.length : Int) ≤ 16 := by simp only [Bool.and_eq_true, decide_eq_true_eq] at h2; exact h2.1
 have ha : ∀ a ∈ e.2.1, vPrin a = true := fun a hm => by
  simp only [Bool.and_eq_true, List.all_eq_true] at h2
  have := h2.2 a hm
  simp only [vAlias, Bool.and_eq_true] at this
  exact this.1
 refine ⟨he.1.2, ⟨by omega, by omega⟩, callI_hand 2 ?_⟩
 with_reducible refine sxE ?_
 refine ⟨by omega, by omega, ?_⟩
 rw [List.take_of_length_le (by simp; omega)]
 refine callI_pure (distinct_c (e.1 :: e.2.1) ⟨by simp; omega, fun a hm => ?_⟩ (fun a hm => ?_)) ?_
 · rcases List.mem_cons.1 hm with rfl | hm
   · exact he.1
   · exact he.2.1.2 a hm
 · rcases List.mem_cons.1 hm with rfl | hm
   · exact h1
   · exact ha a hm
 refine goE mixed ?_
 simp [vNames, h1, h2]
def vKeys (e : Ent) : Bool := (decide ((e.2.2.2.2.1.length : Int) ≤ 16) && e.2.2.2.2.1.all (vSet · e.2.2.2.1)) && ord (t := SetT) sOrd e.2.2.2.2.1
theorem vkeys_k (e : Ent) (he : EntT.ok e) : PC Tryz.prog 91 [.agg (EntT.cells e)] (rB (vKeys e)) := by
 refine pc_of rfl rfl ?_
 refine runE mixed fi91 ?_
 refine callI_at ((every_kset _ _ _ _ (vSet · e.2.2.2.1) _ he.2.2.2.2.1.1 (fun x hx G => vkeys1_k x e _ (he.2.2.2.2.1.2 x hx) (fun R => rfl)))) ?_
 refine goE mixed ?_
 refine ⟨fun h3 => ?_, fun h3 => ?_⟩
 rotate_left
 · first | (simp only [vKeys, h3, Bool.false_and, Bool.and_false]; done) | simp [vKeys, h3]
 refine callI_at (ordered_kset _ _ _ sOrd _ he.2.2.2.2.1.1 (fun x _ y _ G => (vkeys2_k x y).at _)) ?_
 refine goE mixed ?_
 simp_all [vKeys]

def vText (s : ByteArray) : Bool := visB s && decide ((s.size : Int) ≤ 32)
def vPrins (l : List Prin) : Bool := (decide ((l.length : Int) ≤ 16) && l.all vPrin) && disB l
def attrB (a : Int) : Bool := decide (IntKind.u32.wrap (BitVec.ofInt 32 a &&& ~~~(BitVec.ofInt 32 1023)).toNat = 0)
def vEnt (e : Ent) : Bool :=
 vNames e && (attrB e.2.2.1 && ([e.2.2.2.1].all (inB 65535) && (vKeys e && (vText e.2.2.2.2.2.1 && ([e.2.2.2.2.2.2.1, e.2.2.2.2.2.2.2.1, e.2.2.2.2.2.2.2.2.2.2.2.1, e.2.2.2.2.2.2.2.2.2.2.2.2.1].all (inB 1099511627776) &&
  ([e.2.2.2.2.2.2.2.2.1, e.2.2.2.2.2.2.2.2.2.1].all (inB 2147483648) && ([e.2.2.2.2.2.2.2.2.2.2.1].all (inB 65535) && (vPrins e.2.2.2.2.2.2.2.2.2.2.2.2.2.1 && (vPrins e.2.2.2.2.2.2.2.2.2.2.2.2.2.2.1 &&
   (decide ((e.2.2.2.2.2.2.2.2.2.2.2.2.2.2.2.length : Int) ≤ 16) && e.2.2.2.2.2.2.2.2.2.2.2.2.2.2.2.all lenB))))))))))
theorem valid_k (e : Ent) (he : EntT.ok e) : PC Tryz.prog 38 [.agg (EntT.cells e)] (rB (vEnt e)) := by
 refine pc_of rfl rfl ?_
 refine runE mixed fi38 ?_
 refine callI_pure (vnames_k e he) ?_
 refine goE mixed ?_
 refine ⟨fun h4 => ?_, fun h4 => ?_⟩
 rotate_left
 · first | (simp only [vEnt, h4, Bool.false_and, Bool.and_false]; done) | simp [vEnt, h4]
 refine ⟨fun h2 => ?_, fun h2 => ?_⟩
 rotate_left
 · have hf : attrB e.2.2.1 = false := decide_eq_false h2
   simp only [vEnt, hf, Bool.false_and, Bool.and_false]
 have ht : attrB e.2.2.1 = true := decide_eq_true h2
 refine callI_hand 1 ?_
 with_reducible refine sxE ?_
 refine callI_pure (within_c _ _ (by simp)) ?_
 refine goE mixed ?_
 refine ⟨fun h5 => ?_, fun h5 => ?_⟩
 rotate_left
 · first | (simp only [vEnt, h5, Bool.false_and, Bool.and_false]; done) | simp [vEnt, h5]
 refine callI_pure (vkeys_k e he) ?_
 refine goE mixed ?_
 refine ⟨fun h6 => ?_, fun h6 => ?_⟩
 rotate_left
 · first | (simp only [vEnt, h6, Bool.false_and, Bool.and_false]; done) | simp [vEnt, h6]
 refine callI_pure (vtext_k _ he.2.2.2.2.2.1) ?_
 refine goE mixed ?_
 refine ⟨fun h7 => ?_, fun h7 => ?_⟩
 rotate_left
 · first | (simp only [vEnt, vText, h7, Bool.false_and, Bool.and_false]; done) | simp [vEnt, vText, h7]
 refine callI_hand 2 ?_
 with_reducible refine sxE ?_
 refine callI_pure (within_c _ _ (by simp)) ?_
 refine goE mixed ?_
 refine ⟨fun h8 => ?_, fun h8 => ?_⟩
 rotate_left
 · first | (simp only [vEnt, h8, Bool.false_and, Bool.and_false]; done) | simp [vEnt, h8]
 refine callI_hand 3 ?_
 with_reducible refine sxE ?_
 refine callI_pure (within_c _ _ (by simp)) ?_
 refine goE mixed ?_
 refine ⟨fun h9 => ?_, fun h9 => ?_⟩
 rotate_left
 · first | (simp only [vEnt, h9, Bool.false_and, Bool.and_false]; done) | simp [vEnt, h9]
 refine callI_hand 4 ?_
 with_reducible refine sxE ?_
 refine callI_pure (within_c _ _ (by simp)) ?_
 refine goE mixed ?_
 refine ⟨fun h10 => ?_, fun h10 => ?_⟩
 rotate_left
 · first | (simp only [vEnt, h10, Bool.false_and, Bool.and_false]; done) | simp [vEnt, h10]
 refine callI_pure (principals_c _ he.2.2.2.2.2.2.2.2.2.2.2.2.2.1) ?_
 refine goE mixed ?_
 refine ⟨fun h11 => ?_, fun h11 => ?_⟩
 rotate_left
 · first | (simp only [vEnt, vPrins, h11, Bool.false_and, Bool.and_false]; done) | simp [vEnt, vPrins, h11]
 refine callI_pure (principals_c _ he.2.2.2.2.2.2.2.2.2.2.2.2.2.2.1) ?_
 refine goE mixed ?_
 refine ⟨fun h12 => ?_, fun h12 => ?_⟩
 rotate_left
 · first | (simp only [vEnt, vPrins, h12, Bool.false_and, Bool.and_false]; done) | simp [vEnt, vPrins, h12]
 refine callI_at (every_bytes _ _ _ _ lenB _ he.2.2.2.2.2.2.2.2.2.2.2.2.2.2.2.1 (fun x _ G => (hist_k x).at _)) ?_
 refine goE mixed ?_
 simp only [vEnt, vText, vPrins, ht, h4, h5, h6, h7, h8, h9, h10, h11, h12, Bool.true_and]
end Go.Proofs.YtddmkgibghohkaaGreatDoor
/- Contracts: copies. -/
namespace Go.Proofs.YtddmkgibghohkaaGreatDoor
open Go Go.Sx Go.Proofs
set_option maxRecDepth 100000
set_option maxHeartbeats 4000000
set_option linter.unusedSimpArgs false

theorem clone_c (l : List ByteArray) (hl : l.length ≤ 8796093022208) : PC Tryz.prog 124 [.isl .str l] (.isl .str l) := by
 refine pc_seal rfl rfl ?_
 refine runE mixed fi124 ?_
 intro b hb
 refine ⟨hb, fun h => ⟨⟨by omega, by omega⟩, ⟨by omega, by omega⟩, List.take_of_length_le (by omega)⟩⟩
theorem bclone_c (l : List UInt8) (hl : l.length ≤ 140737488355328) : PC Tryz.prog 194 [.isl .u8 l] (.isl .u8 l) := by
 refine pc_seal rfl rfl ?_
 refine runE mixed fi194 ?_
 intro b hb
 refine ⟨hb, fun h => ⟨⟨by omega, by omega⟩, ⟨by omega, by omega⟩, List.take_of_length_le (by omega)⟩⟩
theorem cbytes_c (l : List UInt8) (hl : l.length ≤ 140737488355328) : PC Tryz.prog 52 [.isl .u8 l] (.isl .u8 l) := by
 refine pc_seal rfl rfl ?_
 refine runE mixed fi52 ?_
 refine ⟨⟨by omega, by omega⟩, ⟨by omega, by omega⟩, List.take_of_length_le (by omega)⟩
theorem ncopy_c (p : Prin) (hl : p.1.length ≤ 8796093022208) : PC Tryz.prog 58 [.agg (PrinT.cells p)] (.agg (PrinT.cells p)) := by
 refine pc_seal rfl rfl ?_
 refine runE mixed fi58 ?_
 refine callI_pure (clone_c _ hl) ?_
 refine goE mixed ?_; trivial
theorem pcopy_c (k : Key) (hl : k.2.2.length ≤ 140737488355328) : PC Tryz.prog 119 [.agg (KeyT.cells k)] (.agg (KeyT.cells k)) := by
 refine pc_seal rfl rfl ?_
 refine runE mixed fi119 ?_
 refine callI_pure (bclone_c _ hl) ?_
 refine goE mixed ?_; trivial
theorem copies_key (l : List (KeyT).den) (g : Nat) (hl : l.length * 40 ≤ 140737488355328) (hok : ∀ x ∈ l, (KeyT).ok x) (hone : ∀ x ∈ l, PC Tryz.prog g [.agg ((KeyT).cells x)] (.agg ((KeyT).cells x))) :
 PC Tryz.prog 118 [.isl (KeyT) l, .fn g [] []] (.isl (KeyT) l) := by
 refine pc_seal rfl rfl ?_
 refine runE mixed fi118 ?_
 refine si_accN 5 (KeyT) (fun i => l.take i) (fun i => [(10, rI i)]) l.length (fun _ => True) rfl (by simp) (by simp) rfl (fun i => rfl) ?_ fun i hi _ => ?_
 · with_reducible refine sxE ?_; trivial
 refine goE mixed ?_
 have hwr : IntKind.i64.wrap ((i : Int) + 1) = ((i + 1 : Nat) : Int) := wrap_succ (by omega)
 refine ⟨fun hlt => ⟨⟨by omega, hlt⟩, callI_pure (hone _ (getD_mem hlt)) ?_⟩, fun hge => ?_⟩
 · refine goE mixed ?_
   have hst : l.take (i + 1) = l.take i ++ [l.getD i (KeyT).dflt] := take_succ_getD hlt
   have hlen : (l.take i).length = i := by simp; omega
   refine ⟨ ⟨by omega, by omega⟩, acc_next [_, _, _] [] hlt trivial (by rw [hst]; rfl) ?_⟩
   with_reducible refine sx3 hwr hst ?_; trivial
 · obtain rfl : i = l.length := by omega
   simp; omega
theorem copies_prin (l : List (PrinT).den) (g : Nat) (hl : l.length * 40 ≤ 140737488355328) (hok : ∀ x ∈ l, (PrinT).ok x) (hone : ∀ x ∈ l, PC Tryz.prog g [.agg ((PrinT).cells x)] (.agg ((PrinT).cells x))) :
 PC Tryz.prog 59 [.isl (PrinT) l, .fn g [] []] (.isl (PrinT) l) := by
 refine pc_seal rfl rfl ?_
 refine runE mixed fi59 ?_
 refine si_accN 5 (PrinT) (fun i => l.take i) (fun i => [(10, rI i)]) l.length (fun _ => True) rfl (by simp) (by simp) rfl (fun i => rfl) ?_ fun i hi _ => ?_
 · with_reducible refine sxE ?_; trivial
 refine goE mixed ?_
 have hwr : IntKind.i64.wrap ((i : Int) + 1) = ((i + 1 : Nat) : Int) := wrap_succ (by omega)
 refine ⟨fun hlt => ⟨⟨by omega, hlt⟩, callI_pure (hone _ (getD_mem hlt)) ?_⟩, fun hge => ?_⟩
 · refine goE mixed ?_
   have hst : l.take (i + 1) = l.take i ++ [l.getD i (PrinT).dflt] := take_succ_getD hlt
   have hlen : (l.take i).length = i := by simp; omega
   refine ⟨(hok _ (getD_mem hlt)).2, ⟨by omega, by omega⟩, acc_next [_, _, _] [] hlt trivial (by rw [hst]; rfl) ?_⟩
   with_reducible refine sx3 hwr hst ?_; trivial
 · obtain rfl : i = l.length := by omega
   simp; omega
theorem copies_kset (l : List (SetT).den) (g : Nat) (hl : l.length * 64 ≤ 140737488355328) (hok : ∀ x ∈ l, (SetT).ok x) (hone : ∀ x ∈ l, PC Tryz.prog g [.agg ((SetT).cells x)] (.agg ((SetT).cells x))) :
 PC Tryz.prog 60 [.isl (SetT) l, .fn g [] []] (.isl (SetT) l) := by
 refine pc_seal rfl rfl ?_
 refine runE mixed fi60 ?_
 refine si_accN 5 (SetT) (fun i => l.take i) (fun i => [(10, rI i)]) l.length (fun _ => True) rfl (by simp) (by simp) rfl (fun i => rfl) ?_ fun i hi _ => ?_
 · with_reducible refine sxE ?_; trivial
 refine goE mixed ?_
 have hwr : IntKind.i64.wrap ((i : Int) + 1) = ((i + 1 : Nat) : Int) := wrap_succ (by omega)
 refine ⟨fun hlt => ⟨⟨by omega, hlt⟩, callI_pure (hone _ (getD_mem hlt)) ?_⟩, fun hge => ?_⟩
 · refine goE mixed ?_
   have hst : l.take (i + 1) = l.take i ++ [l.getD i (SetT).dflt] := take_succ_getD hlt
   have hlen : (l.take i).length = i := by simp; omega
   refine ⟨(hok _ (getD_mem hlt)).2.2.1, ⟨by omega, by omega⟩, acc_next [_, _, _] [] hlt trivial (by rw [hst]; rfl) ?_⟩
   with_reducible refine sx3 hwr hst ?_; trivial
 · obtain rfl : i = l.length := by omega
   simp; omega
theorem copies_bytes (l : List (List UInt8)) (g : Nat) (hl : l.length * 24 ≤ 140737488355328) (hone : ∀ x ∈ l, PC Tryz.prog g [.isl .u8 x] (.isl .u8 x)) :
 PC Tryz.prog 61 [.isl (.slice .u8) l, .fn g [] []] (.isl (.slice .u8) l) := by
 refine pc_seal rfl rfl ?_
 refine runE mixed fi61 ?_
 refine si_accN 5 (.slice .u8) (fun i => l.take i) (fun i => [(10, rI i)]) l.length (fun _ => True) rfl (by simp) (by simp) rfl (fun i => rfl) ?_ fun i hi _ => ?_
 · with_reducible refine sxE ?_; trivial
 refine goE mixed ?_
 have hwr : IntKind.i64.wrap ((i : Int) + 1) = ((i + 1 : Nat) : Int) := wrap_succ (by omega)
 refine ⟨fun hlt => ⟨⟨by omega, hlt⟩, callI_pure (hone _ (getD_mem (d := (Ty.slice .u8).dflt) hlt)) ?_⟩, fun hge => ?_⟩
 · refine goE mixed ?_
   have hst : l.take (i + 1) = l.take i ++ [l.getD i (Ty.slice .u8).dflt] := take_succ_getD hlt
   have hlen : (l.take i).length = i := by simp; omega
   refine ⟨⟨by omega, by omega⟩, acc_next [_, _] [] hlt trivial (by rw [hst]; rfl) ?_⟩
   with_reducible refine sx3 hwr hst ?_; trivial
 · obtain rfl : i = l.length := by omega
   simp; omega
theorem copySet_c (s : KSet) (ho : SetT.ok s) (hl : s.2.1.length * 40 ≤ 140737488355328) (hk : ∀ k ∈ s.2.1, k.2.2.length ≤ 140737488355328) : PC Tryz.prog 47 [.agg (SetT.cells s)] (.agg (SetT.cells s)) := by
 refine pc_seal rfl rfl ?_
 refine runE mixed fi47 ?_
 refine callI_pure (copies_key s.2.1 _ hl ho.2.1.2 (fun x hx => pcopy_c x (hk x hx))) ?_
 refine goE mixed ?_; trivial
def small47 (e : Ent) : Prop :=
 e.1.1.length ≤ 1048576 ∧ (e.2.1.length ≤ 1048576 ∧ ∀ p ∈ e.2.1, p.1.length ≤ 1048576) ∧ (e.2.2.2.2.1.length ≤ 1048576 ∧ ∀ s ∈ e.2.2.2.2.1, s.2.1.length ≤ 1048576 ∧ ∀ k ∈ s.2.1, k.2.2.length ≤ 1048576) ∧
 (e.2.2.2.2.2.2.2.2.2.2.2.2.2.1.length ≤ 1048576 ∧ ∀ p ∈ e.2.2.2.2.2.2.2.2.2.2.2.2.2.1, p.1.length ≤ 1048576) ∧ (e.2.2.2.2.2.2.2.2.2.2.2.2.2.2.1.length ≤ 1048576 ∧ ∀ p ∈ e.2.2.2.2.2.2.2.2.2.2.2.2.2.2.1, p.1.length ≤ 1048576) ∧
 (e.2.2.2.2.2.2.2.2.2.2.2.2.2.2.2.length ≤ 1048576 ∧ ∀ b ∈ e.2.2.2.2.2.2.2.2.2.2.2.2.2.2.2, b.length ≤ 1048576)
theorem copy_c (e : Ent) (ho : EntT.ok e) (hs : small47 e) : PC Tryz.prog 27 [.agg (EntT.cells e)] (.agg (EntT.cells e)) := by
 obtain ⟨e1, e2, e3, e4, e5, e6, e7, e8, e9, e10, e11, e12, e13, e14, e15, e16⟩ := e
 obtain ⟨h1, ⟨h2, h2'⟩, ⟨h5, h5'⟩, ⟨h14, h14'⟩, ⟨h15, h15'⟩, ⟨h16, h16'⟩⟩ := hs
 dsimp only at *
 refine pc_seal rfl rfl ?_
 refine runE mixed fi27 ?_
 refine callI_pure (ncopy_c e1 (by omega)) ?_
 refine goE mixed ?_
 refine callI_pure (copies_prin e2 _ (by omega) ho.2.1.2 (fun x hx => ncopy_c x (by have := h2' x hx; omega))) ?_
 refine goE mixed ?_
 refine callI_pure (copies_kset e5 _ (by omega) ho.2.2.2.2.1.2 (fun x hx => copySet_c x (ho.2.2.2.2.1.2 x hx) (by have := (h5' x hx).1; omega) (fun k hk => by have := (h5' x hx).2 k hk; omega))) ?_
 refine goE mixed ?_
 refine callI_pure (copies_prin e14 _ (by omega) ho.2.2.2.2.2.2.2.2.2.2.2.2.2.1.2 (fun x hx => ncopy_c x (by have := h14' x hx; omega))) ?_
 refine goE mixed ?_
 refine callI_pure (copies_prin e15 _ (by omega) ho.2.2.2.2.2.2.2.2.2.2.2.2.2.2.1.2 (fun x hx => ncopy_c x (by have := h15' x hx; omega))) ?_
 refine goE mixed ?_
 refine callI_pure (copies_bytes e16 _ (by omega) (fun x hx => cbytes_c x (by have := h16' x hx; omega))) ?_
 refine goE mixed ?_; trivial
end Go.Proofs.YtddmkgibghohkaaGreatDoor
set_option linter.unusedSectionVars false
namespace Go.Sx
open Go
variable [Ghost] {P : Program} {AQ : Ex → List SV → List SObj → Prop} {k0 : Nat} {k : List IT} {t : List SV} {H : List SObj}

structure Cln (cs : List SV) : Prop where
 ren : ∀ σ, SV.renL σ cs = cs
 bel : ∀ n, SV.belL n cs = true
 shut : ∀ n H, SV.sealBL n H cs = some (cs, True)
 le : SV.leAL cs cs
theorem sealHL_nil {n : Nat} {l : List SObj} : sealHL n H l [] = True := by simp [sealHL]
theorem sealHL_dead {n : Nat} {o : SObj} {l l' : List SObj} : sealHL n H (o :: l) (.dead :: l') = sealHL n H l l' := by cases o <;> simp [sealHL]
attribute [go_sem] sealHL_nil sealHL_dead
end Go.Sx
set_option linter.unusedSectionVars false
namespace Go.Sx
open Go
variable [Ghost] {P : Program} {AQ : Ex → List SV → List SObj → Prop} {k0 : Nat} {k : List IT} {t : List SV} {H : List SObj}

end Go.Sx
set_option linter.unusedSectionVars false
namespace Go.Sx
open Go
variable [Ghost] {P : Program} {AQ : Ex → List SV → List SObj → Prop} {k0 : Nat} {k : List IT} {t : List SV} {H : List SObj}

end Go.Sx
set_option linter.unusedSectionVars false
namespace Go.Sx
open Go
variable {P : Program} {AQ : Ex → List SV → List SObj → Prop} {k0 : Nat} {k : List IT} {t : List SV} {H : List SObj}

def SameBut (ws : List Nat) (t t' : List SV) : Prop := t'.length = t.length ∧ ∀ i, i ∉ ws → t'[i]? = t[i]?
theorem SameBut.put {ws : List Nat} {t t' : List SV} (h : SameBut ws t t') {d : Option Tmp} (hd : ∀ e, d = some e → e ∈ ws) (s : SV) : SameBut ws t (putT t' d s) := by
 cases d with
 | none => exact h
 | some e => exact ⟨by simp [putT, h.1], fun i hi => by
  have hne : e ≠ i := fun e' => hi (e' ▸ hd e rfl)
  simp only [putT]
  rw [List.getElem?_set_ne hne]
  exact h.2 i hi⟩
theorem maskT_len : ∀ (ws : List Nat) (t : List SV), (maskT ws t).length = t.length
 | [], t => rfl
 | d :: ws, t => by
  show (maskT ws (t.set d .any)).length = _
  rw [maskT_len ws, List.length_set]
theorem maskT_in : ∀ (ws : List Nat) (t : List SV) (i : Nat) (s : SV), (maskT ws t)[i]? = some s → s = .any ∨ (i ∉ ws ∧ t[i]? = some s)
 | [], t, i, s, h => .inr ⟨by simp, h⟩
 | d :: ws, t, i, s, h => by
  have h' : (maskT ws (t.set d .any))[i]? = some s := h
  rcases maskT_in ws _ i s h' with rfl | ⟨h1, h2⟩
  · exact .inl rfl
  · by_cases e : d = i
    · subst e
      rw [List.getElem?_set] at h2
      simp at h2
      exact .inl h2.2.symm
    · rw [List.getElem?_set_ne e] at h2
      exact .inr ⟨by simp [h1]; exact fun q => e q.symm, h2⟩
theorem leL_get : ∀ {l l' : List SV}, l.length = l'.length → (∀ (i : Nat) s s', l[i]? = some s → l'[i]? = some s' → s' = .any ∨ s' = s) → leL l l'
 | [], [], _, _ => trivial
 | [], _ :: _, h, _ => by simp at h
 | _ :: _, [], h, _ => by simp at h
 | s :: l, s' :: l', h, hp => by
  refine ⟨?_, leL_get (by simpa using h) fun i x x' hx hx' => hp (i + 1) x x' (by simpa using hx) (by simpa using hx')⟩
  rcases hp 0 s s' rfl rfl with rfl | rfl
  · exact SV.le_any s
  · exact SV.le_refl _
theorem SameBut.le {ws : List Nat} {t t' : List SV} (h : SameBut ws t t') : leL t' (maskT ws t) :=
 leL_get (by rw [maskT_len, h.1]) fun i s s' hs hs' => by
  rcases maskT_in ws t i s' hs' with rfl | ⟨h1, h2⟩
  · exact .inl rfl
  · right
    rw [h.2 i h1, h2] at hs
    cases hs; rfl
end Go.Sx
namespace Go.Sx
open Go

def ZInv (q : Nat → Prop) (w0 : World) (C : Cx) (H : List SObj) : Prop := ∀ b, q b → b < C.w.heap.size ∧ ¬ C.I b ∧ ¬ OwnB C H b ∧ C.w.heap[b]? = w0.heap[b]?

theorem ext_old {E : En} {C : Cx} {H : List SObj} (hx : Ext E C H) {b : Nat} (h1 : b < E.C.w.heap.size) (h2 : ¬ E.C.I b) (h3 : ¬ OwnB E.C E.H b) : b < C.w.heap.size ∧ ¬ C.I b ∧ ¬ OwnB C H b ∧ C.w.heap[b]? = E.C.w.heap[b]? := by
 refine ⟨Nat.lt_of_lt_of_le h1 hx.size, fun hi => ?_, fun ho => ?_, hx.frame b h1 h3⟩
 · rcases hx.immNew b hi with g | ⟨g | g, _⟩
   · exact h2 g
   · exact absurd h1 (Nat.not_lt.2 g)
   · exact h3 g
 · rcases hx.ownNew b ho with g | g
   · exact absurd h1 (Nat.not_lt.2 g)
   · exact h3 g

@[reducible] def frzG (q : Nat → Prop) (w0 : World) : Ghost where
 inv := fun _ C H => ZInv q w0 C H
 fin := fun _ _ _ => True
 toFin := fun _ => trivial
 next := fun hx h b hb => by
  obtain ⟨h1, h2, h3, h4⟩ := h b hb
  obtain ⟨g1, g2, g3, g4⟩ := ext_old hx h1 h2 h3
  exact ⟨g1, g2, g3, g4.trans h4⟩
 same := fun _ e hi ho h b hb => by
  obtain ⟨h1, h2, h3, h4⟩ := h b hb
  rw [e]
  exact ⟨h1, fun x => (hi b x).elim h2 h3, fun x => h3 (ho b x), h4⟩

def simV (u v : Value) : Prop := v = u ∨ (∃ k n m, u = .int k n ∧ v = .int k m) ∨ ∃ s s', u = .string s ∧ v = .string s' ∧ s'.size ≤ 140737488355328
def simB (o o' : Option Obj) : Prop := o' = o ∨ ∃ (vs vs' : List Value) (T : TypeId) (fz : Nat × Nat), o = some (.cells vs.toArray T fz) ∧ o' = some (.cells vs'.toArray T fz) ∧ vs'.length = vs.length ∧ ∀ (i : Nat) u v, vs[i]? = some u → vs'[i]? = some v → simV u v
theorem simV.trans {u v w : Value} (h : simV u v) (k : simV v w) : simV u w := by
 rcases h with rfl | ⟨k', n, m, rfl, rfl⟩ | ⟨s, s', rfl, rfl, h1⟩
 · exact k
 · rcases k with rfl | ⟨k2, n2, m2, h1, rfl⟩ | ⟨s, s', h1, _⟩
   · exact .inr (.inl ⟨_, _, _, rfl, rfl⟩)
   · cases h1; exact .inr (.inl ⟨_, _, _, rfl, rfl⟩)
   · cases h1
 · rcases k with rfl | ⟨k2, n2, m2, h1, rfl⟩ | ⟨s2, s3, h2, rfl, h3⟩
   · exact .inr (.inr ⟨_, _, rfl, rfl, h1⟩)
   · cases h1
   · cases h2; exact .inr (.inr ⟨_, _, rfl, rfl, h3⟩)
theorem sim_cell {w0 w : World} {b o : Nat} {u : Value} (h : simB w0.heap[b]? w.heap[b]?) (hc : w0.cell? ⟨b, o, none⟩ = some u) : ∃ v, w.cell? ⟨b, o, none⟩ = some v ∧ simV u v := by
 rcases h with h | ⟨vs, vs', T, fz, h1, h2, h3, h4⟩
 · exact ⟨u, (World.cell?_of_block (a := ⟨b, o, none⟩) h).trans hc, .inl rfl⟩
 · rw [cell_of_cells h1] at hc
   have hlt : o < vs'.length := by rw [h3]; exact (List.getElem?_eq_some_iff.1 hc).1
   exact ⟨vs'[o], by rw [cell_of_cells h2, List.getElem?_eq_getElem hlt], h4 o u _ hc (List.getElem?_eq_getElem hlt)⟩

def SInv (q : Nat → Prop) (w0 : World) (E : En) (C : Cx) (H : List SObj) : Prop :=
 ∀ b, q b → (E.C.w.heap.size ≤ b ∨ OwnB E.C E.H b) ∧ b < C.w.heap.size ∧ ¬ C.I b ∧ ¬ OwnB C H b ∧ Unf C.w b ∧ simB w0.heap[b]? C.w.heap[b]?

@[reducible] def scrG (q : Nat → Prop) (w0 : World) : Ghost where
 inv := fun E C H => SInv q w0 E.toEn C H
 fin := fun E C H => SInv q w0 E.toEn C H
 toFin := fun h => h
 next := fun hx h b hb => by
  obtain ⟨h0, h1, h2, h3, h4, h5⟩ := h b hb
  obtain ⟨g1, g2, g3, g4⟩ := ext_old hx h1 h2 h3
  refine ⟨h0, g1, g2, g3, h4.keep g4, ?_⟩
  have g4' := g4
  simp only at g4'
  rw [g4']; exact h5
 same := fun _ e hi ho h b hb => by
  obtain ⟨h0, h1, h2, h3, h4, h5⟩ := h b hb
  rw [e]
  exact ⟨h0, h1, fun x => (hi b x).elim h2 h3, fun x => h3 (ho b x), h4, h5⟩

def At (q : Nat → Prop) (w0 : World) (t : Ty) (x : t.den) (b o : Nat) : Prop := q b ∧ ∃ vs, t.rel q w0 x vs ∧ ∀ j u, vs[j]? = some u → w0.cell? ⟨b, o + j, none⟩ = some u
theorem At.fst {q : Nat → Prop} {w0 : World} {s t : Ty} {x : (Ty.prod s t).den} {b o : Nat} (h : At q w0 (.prod s t) x b o) : At q w0 s x.1 b o := by
 obtain ⟨hq, vs, ⟨v1, v2, rfl, h1, h2⟩, hc⟩ := h
 exact ⟨hq, v1, h1, fun j u hj => hc j u (by rw [List.getElem?_append_left (List.getElem?_eq_some_iff.1 hj).1]; exact hj)⟩
theorem At.snd {q : Nat → Prop} {w0 : World} {s t : Ty} {x : (Ty.prod s t).den} {b o : Nat} (h : At q w0 (.prod s t) x b o) : At q w0 t x.2 b (o + s.size) := by
 obtain ⟨hq, vs, ⟨v1, v2, rfl, h1, h2⟩, hc⟩ := h
 refine ⟨hq, v2, h2, fun j u hj => ?_⟩
 rw [Nat.add_assoc]
 refine hc (s.size + j) u ?_
 rw [← s.rel_size _ _ h1, List.getElem?_append_right (Nat.le_add_right _ _), Nat.add_sub_cancel_left]
 exact hj
def Sl (q : Nat → Prop) (w0 : World) (t : Ty) (xs : List t.den) (v : Value) : Prop := (Ty.slice t).rel q w0 xs [v]
theorem Sl.out {q : Nat → Prop} {w0 : World} {t : Ty} {xs : List t.den} {v : Value} (h : Sl q w0 t xs v) :
 ∃ A c, v = .slice A xs.length c ∧ (xs = [] ∨ ∃ b o, A = some ⟨b, o, none⟩ ∧ ∀ i x, xs[i]? = some x → At q w0 t x b (o + i * t.size)) := by
 obtain ⟨A, n, c, e, rfl, _, _, h⟩ := h
 simp only [List.cons.injEq, and_true] at e
 refine ⟨A, c, e, orMap h id ?_⟩
 rintro ⟨b, o, rfl, hq, h⟩
 exact ⟨b, o, rfl, fun i x hx => ⟨hq, h i x hx⟩⟩
theorem At.sl {q : Nat → Prop} {w0 : World} {t : Ty} {xs : List t.den} {b o : Nat} (h : At q w0 (.slice t) xs b o) : ∃ v, Sl q w0 t xs v ∧ w0.cell? ⟨b, o, none⟩ = some v := by
 obtain ⟨hq, vs, hr, hc⟩ := h
 obtain ⟨A, n, c, rfl, _⟩ := id hr
 exact ⟨_, hr, hc 0 _ rfl⟩
theorem At.int {q : Nat → Prop} {w0 : World} {k : IntKind} {x : (Ty.int k).den} {b o : Nat} (h : At q w0 (.int k) x b o) : w0.cell? ⟨b, o, none⟩ = some (.int k x) := by
 obtain ⟨hq, vs, rfl, hc⟩ := h; exact hc 0 _ rfl
theorem At.u8 {q : Nat → Prop} {w0 : World} {x : Ty.u8.den} {b o : Nat} (h : At q w0 .u8 x b o) : w0.cell? ⟨b, o, none⟩ = some (.int .u8 (UInt8.toNat x)) := by
 obtain ⟨hq, vs, rfl, hc⟩ := h; exact hc 0 _ rfl
theorem At.str {q : Nat → Prop} {w0 : World} {x : Ty.str.den} {b o : Nat} (h : At q w0 .str x b o) : w0.cell? ⟨b, o, none⟩ = some (.string x) := by
 obtain ⟨hq, vs, ⟨rfl, _⟩, hc⟩ := h; exact hc 0 _ rfl

variable {P : Program} {AQ : Ex → List SV → List SObj → Prop}
theorem zld_sim {q : Nat → Prop} {w0 : World} {b o : Nat} {u : Value} {d : Option Tmp} {m : IM} (hq : q b) (hc : w0.cell? ⟨b, o, none⟩ = some u) (hk : ∀ v, simV u v → @SoundI (scrG q w0) P AQ { m with tmps := putT m.tmps d (.raw v) }) :
 @ZldI (scrG q w0) P AQ none b o d m := by
 intro E C _ hg
 obtain ⟨v, h1, h2⟩ := sim_cell (hg b hq).2.2.2.2.2 hc
 refine ⟨.raw v, ⟨[.raw v], [v], denL_cons.2 ⟨v, [], rfl, by rw [SV.den], denL_nil.2 rfl⟩, fun j u hj => ?_, rfl⟩, hk v h2⟩
 cases j with
 | zero => simp only [List.getElem?_cons_zero, Option.some.injEq] at hj; subst hj; exact h1
 | succ j => simp at hj
theorem zld_sl {q : Nat → Prop} {w0 : World} {t : Ty} {ys : List t.den} {b o : Nat} {d : Option Tmp} {m : IM} (h : At q w0 (.slice t) ys b o) (hk : ∀ v, Sl q w0 t ys v → @SoundI (scrG q w0) P AQ { m with tmps := putT m.tmps d (.raw v) }) :
 @ZldI (scrG q w0) P AQ none b o d m := by
 obtain ⟨u, h1, h2⟩ := h.sl
 refine zld_sim h.1 h2 fun v hv => ?_
 obtain ⟨A, c, rfl, _⟩ := h1.out
 rcases hv with rfl | ⟨_, _, _, h3, _⟩ | ⟨_, _, h3, _⟩
 · exact hk _ h1
 · cases h3
 · cases h3
theorem zld_int {q : Nat → Prop} {w0 : World} {k : IntKind} {b o : Nat} {n : Int} {d : Option Tmp} {m : IM} (hq : q b) (h : w0.cell? ⟨b, o, none⟩ = some (.int k n)) (hk : ∀ n : Int, @SoundI (scrG q w0) P AQ { m with tmps := putT m.tmps d (.raw (.int k n)) }) :
 @ZldI (scrG q w0) P AQ none b o d m := by
 refine zld_sim hq h fun v hv => ?_
 rcases hv with rfl | ⟨_, _, _, h3, rfl⟩ | ⟨_, _, h3, _⟩
 · exact hk _
 · cases h3; exact hk _
 · cases h3

theorem wd_far {C : Cx} {H : List SObj} {w' : World} (hw : Wd C H) (hs : w'.heap.size = C.w.heap.size) (hb : ∀ b, C.I b ∨ OwnB C H b → w'.heap[b]? = C.w.heap[b]?) (hz : ∀ b m, World.bsize C.w b = some m → World.bsize w' b = some m) :
 Wd { C with w := w' } H ∧ Evo C { C with w := w' } := by
 have he : Evo C { C with w := w' } := ⟨Nat.le_refl _, fun _ _ => rfl, fun b hI => ⟨hI, hb b (.inl hI)⟩, hz⟩
 refine ⟨⟨hw.n, fun h o ho => ?_, fun b hb' => ?_, hw.inj, fun b hI => ?_⟩, he⟩
 · by_cases hl : o.live = true
   · exact objDen_evo (C' := { C with w := w' }) he.I h rfl (fun b hb' => hb b (.inr ⟨h, o, ho, hl, hb'⟩)) (denL_evo he) (hw.obj h o ho)
   · cases o <;> first | trivial | simp [SObj.live] at hl
 · have := hw.own b hb'
   exact ⟨this.1, by rw [hs]; exact this.2⟩
 · rw [hs]; exact hw.imm b hI

theorem set_one {b o : Nat} {w : World} {v : Value} {vs : List Value} {T : TypeId} {fz : Nat × Nat} (h : w.heap[b]? = some (.cells vs.toArray T fz)) (hlt : o < vs.length) : (w.setCells b o [v]).heap[b]? = some (.cells (vs.set o v).toArray T fz) := by
 rw [setCells_heap [v] o w vs h (by simp; omega)]
 congr 3
 unfold splice
 rw [List.set_eq_take_append_cons_drop, if_pos hlt]
 simp

theorem zst_sim {q : Nat → Prop} {w0 : World} {b o : Nat} {u v : Value} {d : Option Tmp} {m : IM} (hq : q b) (hc : w0.cell? ⟨b, o, none⟩ = some u) (hs : simV u v) (hf : (SV.raw v).flat = some [.raw v]) (h1 : ones [SV.raw v] = true)
 (hk : @SoundI (scrG q w0) P AQ { m with tmps := putT m.tmps d .any }) : @ZstI (scrG q w0) P AQ 1 b o (.raw v) d m := by
 refine ⟨[.raw v], hf, rfl, h1, fun E C us hw (hg : SInv q w0 E.toEn C m.heap) hv => ?_, hk⟩
 generalize m.heap = H at *
 obtain ⟨v', us', rfl, hv', hn⟩ := denL_cons.1 hv
 rw [denL_nil] at hn; subst hn
 rw [SV.den] at hv'; subst hv'
 obtain ⟨h0, g1, g2, g3, g4, g5⟩ := hg b hq
 obtain ⟨u', hc', hs'⟩ := sim_cell g5 hc
 -- the block as it lies now
 have hcells : ∃ (vs : List Value) (T : TypeId) (fz : Nat × Nat), C.w.heap[b]? = some (.cells vs.toArray T fz) := by
  unfold World.cell? at hc'
  split at hc'
  · rename_i c T fz h; exact ⟨c.toList, T, fz, by simpa using h⟩
  · cases hc'
 obtain ⟨vs, T, fz, hcell⟩ := hcells
 rw [cell_of_cells hcell] at hc'
 have hlt : o < vs.length := (List.getElem?_eq_some_iff.1 hc').1
 have hnew := set_one (v := v') hcell hlt
 have hoth : ∀ b', b' ≠ b → (C.w.setCells b o [v']).heap[b']? = C.w.heap[b']? := fun b' e => setCells_other e _ _ _
 have hfar : ∀ b', C.I b' ∨ OwnB C H b' → b' ≠ b := fun b' h e => by subst e; exact h.elim g2 g3
 have hszw : (C.w.setCells b o [v']).heap.size = C.w.heap.size := setCells_size _ _ _
 have hbs : ∀ b' m, World.bsize C.w b' = some m → World.bsize (C.w.setCells b o [v']) b' = some m := fun b' m hm => by
  by_cases e : b' = b
  · subst e; unfold World.bsize at hm ⊢; rw [hnew]; rw [hcell] at hm; simpa using hm
  · unfold World.bsize at hm ⊢; rw [hoth b' e]; exact hm
 obtain ⟨k1, k2⟩ := wd_far hw hszw (fun b' h => hoth b' (hfar b' h)) hbs
 have hsim : simB (w0.heap[b]?) ((C.w.setCells b o [v']).heap[b]?) := by
  rw [hnew]
  rcases g5 with g5 | ⟨ws, ws', T', fz', e1, e2, e3, e4⟩
  · rw [hcell] at g5
    refine .inr ⟨vs, vs.set o v', T, fz, g5.symm, rfl, by simp, fun i x y hx hy => ?_⟩
    by_cases e : o = i
    · subst e
      rw [List.getElem?_set_self hlt] at hy
      cases hy
      have hu : u = x := by
       rw [World.cell?_of_block (a := ⟨b, o, none⟩) (w := C.w) (by rw [hcell]; exact g5.symm), cell_of_cells hcell, hx] at hc
       exact (Option.some.inj hc).symm
      exact hu ▸ hs
    · rw [List.getElem?_set_ne e, hx] at hy
      cases hy; exact .inl rfl
  · rw [hcell] at e2
    cases e2
    refine .inr ⟨ws, vs.set o v', T, fz, e1, rfl, by simpa using e3, fun i x y hx hy => ?_⟩
    by_cases e : o = i
    · subst e
      rw [List.getElem?_set_self hlt] at hy
      cases hy
      rw [cell_of_cells e1, hx] at hc
      cases hc
      exact hs
    · rw [List.getElem?_set_ne e] at hy
      exact e4 i x y hx hy
 refine ⟨vs, T, fz, hcell, by simp; omega, fun j hj => ?_, k1, @Stp.mk (scrG q w0) E C H _ H k2 (fun hx => ?_) (fun (hx : SInv q w0 E.toEn C H) b' hb' => ?_)⟩
 · have := g4 _ _ _ hcell (o + j) (by simp at hj ⊢; omega)
   exact this
 · have hEb : ∀ b', b' < E.C.w.heap.size → ¬ OwnB E.C E.H b' → b' ≠ b := fun b' h1 h2 e => by subst e; exact h0.elim (fun x => absurd h1 (Nat.not_lt.2 x)) h2
   exact ⟨hx.evo.trans k2, by show _ ≤ (C.w.setCells b o [v']).heap.size; rw [hszw]; exact hx.size, (setCells_os _ _ _).trans hx.os, (setCells_tape _ _ _).trans hx.tape, (setCells_output _ _ _).trans hx.output,
    fun b' h1 h2 => (hoth b' (hEb b' h1 h2)).trans (hx.frame b' h1 h2), fun b' hb' => orMap (hx.immNew b' hb') id fun ⟨x, y⟩ => ⟨x, y.keep (hoth b' (hfar b' (.inl hb')))⟩, hx.ownNew⟩
 · obtain ⟨a0, a1, a2, a3, a4, a5⟩ := hx b' hb'
   refine ⟨a0, by show _ < (C.w.setCells b o [v']).heap.size; rw [hszw]; exact a1, a2, a3, ?_, ?_⟩
   · by_cases e : b' = b
     · subst e
       intro c' T' fz' hc2 i hi
       simp only at hc2
       rw [hnew] at hc2
       cases hc2
       exact g4 _ _ _ hcell i (by simpa using hi)
     · exact a4.keep (hoth b' e)
   · by_cases e : b' = b
     · subst e; exact hsim
     · show simB _ ((C.w.setCells b o [v']).heap[b']?)
       rw [hoth b' e]; exact a5
theorem zst_int {q : Nat → Prop} {w0 : World} {k : IntKind} {b o : Nat} {n n' : Int} {d : Option Tmp} {m : IM} (hq : q b) (h : w0.cell? ⟨b, o, none⟩ = some (.int k n)) (hk : @SoundI (scrG q w0) P AQ { m with tmps := putT m.tmps d .any }) :
 @ZstI (scrG q w0) P AQ 1 b o (.raw (.int k n')) d m := zst_sim hq h (.inr (.inl ⟨_, _, _, rfl, rfl⟩)) rfl rfl hk
theorem zst_str {q : Nat → Prop} {w0 : World} {b o : Nat} {s s' : ByteArray} {d : Option Tmp} {m : IM} (hq : q b) (h : w0.cell? ⟨b, o, none⟩ = some (.string s)) (hs : s'.size ≤ 140737488355328) (hk : @SoundI (scrG q w0) P AQ { m with tmps := putT m.tmps d .any }) :
 @ZstI (scrG q w0) P AQ 1 b o (.raw (.string s')) d m := zst_sim hq h (.inr (.inr ⟨_, _, rfl, rfl, hs⟩)) rfl rfl hk

theorem zldF {q : Nat → Prop} {w0 : World} {t : Ty} {x : t.den} {b o : Nat} {d : Option Tmp} {m : IM} (h : At q w0 t x b o) (hk : ∀ vs, t.rel q w0 x vs → @SoundI (frzG q w0) P AQ { m with tmps := putT m.tmps d (.agg (rawL vs)) }) :
 @ZldI (frzG q w0) P AQ (some t.size) b o d m := by
 obtain ⟨hq, vs, hr, hc⟩ := h
 intro E C _ hg
 have hl : (rawL vs).length = t.size := by rw [rawL, List.length_map]; exact t.rel_size _ _ hr
 refine ⟨.agg (rawL vs), ⟨rawL vs, vs, rawL_den _, fun j u hj => ?_, ?_⟩, hk vs hr⟩
 · rw [World.cell?_of_block (a := ⟨b, o + j, none⟩) (hg b hq).2.2.2]; exact hc j u hj
 · simp only [pick, Nat.zero_add, hl, Nat.le_refl, if_true, List.drop_zero, Option.some.injEq, SV.agg.injEq]
   rw [← hl, List.take_length]
theorem zldF1 {q : Nat → Prop} {w0 : World} {t : Ty} {x : t.den} {b o : Nat} {d : Option Tmp} {m : IM} (h : At q w0 t x b o) (ht : t.size = 1) (hk : ∀ v, t.rel q w0 x [v] → @SoundI (frzG q w0) P AQ { m with tmps := putT m.tmps d (.raw v) }) :
 @ZldI (frzG q w0) P AQ none b o d m := by
 obtain ⟨hq, vs, hr, hc⟩ := h
 intro E C _ hg
 have hl := t.rel_size _ _ hr
 rw [ht] at hl
 match vs, hl with
 | [v], _ =>
  refine ⟨.raw v, ⟨rawL [v], [v], rawL_den _, fun j u hj => ?_, rfl⟩, hk v hr⟩
  rw [World.cell?_of_block (a := ⟨b, o + j, none⟩) (hg b hq).2.2.2]; exact hc j u hj
end Go.Sx
namespace Go.Sx
open Go

variable {P : Program} {AQ : Ex → List SV → List SObj → Prop} {k0 : Nat} {k : List IT} {t : List SV} {H : List SObj}

theorem fi_out {f : FuncId} {fi : FI} (h : finfo P f = some fi) : ∃ fn c, P.funcs[f]? = some fn ∧ fn.body = some c ∧ comp P c = some fi.code ∧ fn.ntmps = fi.ntmps ∧ fn.results.toList = fi.results ∧ enters P f = true := by
 unfold finfo at h
 split at h
 · rename_i fn hf
   split at h
   · rename_i c hb
     split at h
     · rename_i ic hc
       split at h
       · cases h
       · rename_i hn
         cases h
         exact ⟨fn, c, hf, hb, hc, rfl, rfl, by simp [enters, hf, hb]; simpa using hn⟩
     · cases h
   · cases h
 · cases h
theorem calls_fi [Ghost] {f : FuncId} {fi : FI} {args : List SV} {K : Out → List SObj → Prop} {E : EnD} {C : Cx} {vs : List Value} (h : finfo P f = some fi) (hE : E.base = []) (hn : E.C.n ≤ H.length) (hw : Wd C H) (hx : Ext E C H) (hg : Ghost.inv E C H)
 (hv : SV.denL C args vs) (hs : SoundI P (retF P fi.results K) ⟨H.length, [.ic fi.code], args ++ List.replicate (fi.ntmps - args.length) .any, H⟩) :
 Calls P f vs.toArray C.w fun e w' => ∃ o H' C', K o H' ∧ C'.w = w' ∧ Wd C' H' ∧ Ext E C' H' ∧ Ghost.fin E C' H' ∧ outDen C' o e := by
 obtain ⟨fn, c, hf, hb, hc, h1, h2, _⟩ := fi_out h
 have hq : retQ P fn K = retF P fi.results K := by rw [← h2]; funext e t H; cases e <;> rfl
 exact calls_enter hf hb hE hn hw hx hg hv (by rw [hq, h1]; exact soundI_get hs ⟨c, [], rfl, hc, rfl⟩)

def VCallZ (q : Nat → Prop) (w0 : World) (P : Program) (f : FuncId) (args : List SV) (H : List SObj) (K : Out → List SObj → Prop) : Prop :=
 ∀ (C : Cx) (vs : List Value), Wd C H → ZInv q w0 C H → SV.denL C args vs → Calls P f vs.toArray C.w fun e w' => ∃ o H' C', K o H' ∧ C'.w = w' ∧ Wd C' H' ∧ Ext ⟨C, H⟩ C' H' ∧ outDen C' o e
def VCZ (q : Nat → Prop) (w0 : World) (P : Program) (f : FuncId) (args : List SV) (H : List SObj) (K : Out → List SObj → Prop) : Prop := enters P f = true ∧ VCallZ q w0 P f args H K
theorem VCallZ.g {q : Nat → Prop} {w0 : World} {f : FuncId} {args : List SV} {K : Out → List SObj → Prop} (h : VCallZ q w0 P f args H K) : @VCallG (frzG q w0) P f args H K :=
 fun E C vs hw hg hv => (h C vs hw hg hv).mono fun _ _ ⟨o, H', C', k, e, w, x, r⟩ => ⟨o, H', C', k, e, w, @Stp.of (frzG q w0) E C C' H H' x, r⟩
theorem vcz_fi {q : Nat → Prop} {w0 : World} {f : FuncId} {fi : FI} {args : List SV} {K : Out → List SObj → Prop} (h : finfo P f = some fi)
 (hs : @SoundI (frzG q w0) P (retF P fi.results K) ⟨H.length, [.ic fi.code], args ++ List.replicate (fi.ntmps - args.length) .any, H⟩) : VCZ q w0 P f args H K := by
 obtain ⟨_, _, _, _, _, _, _, hen⟩ := fi_out h
 refine ⟨hen, fun C vs hw hg hv => ?_⟩
 refine (@calls_fi P H (frzG q w0) f fi args K ⟨⟨C, H⟩, []⟩ C vs h rfl (by rw [hw.n]; exact Nat.le_refl _) hw (Ext.refl _ _) hg hv hs).mono ?_
 rintro e w' ⟨o, H', C', k1, k2, k3, k4, _, k5⟩
 exact ⟨o, H', C', k1, k2, k3, k4, k5⟩
def PCZ (q : Nat → Prop) (w0 : World) (P : Program) (f : FuncId) (args : List SV) (s : SV) : Prop := enters P f = true ∧ ∀ (H : List SObj) (K : Out → List SObj → Prop), K (.ret s) H → VCallZ q w0 P f args H K
theorem ZInv.nil {q : Nat → Prop} {w0 : World} {C : Cx} (h : ZInv q w0 C H) : ZInv q w0 { C with n := 0 } [] := fun b hb => by
 obtain ⟨h1, h2, h3, h4⟩ := h b hb
 exact ⟨h1, h2, fun ⟨i, o, ho, _⟩ => by simp at ho, h4⟩
theorem pcz_seal {q : Nat → Prop} {w0 : World} {f : FuncId} {args : List SV} {s : SV} (ha : SV.cleanL args = true) (hs : s.clean = true) (h : VCZ q w0 P f args [] (SealK s)) : PCZ q w0 P f args s :=
 ⟨h.1, fun H K hk C vs hw hg hv => calls_frame hs hw (calls_shut (C := { C with n := 0 }) hw.nil (h.2 { C with n := 0 } vs hw.nil hg.nil (denL_clean (C := C) (C' := { C with n := 0 }) (Keeps.refl _ _) ha hv))) hk⟩
theorem callZ {q : Nat → Prop} {w0 : World} {f : FuncId} {args : List SV} {s : SV} {d : Option Tmp} {m : IM} (hp : PCZ q w0 P f args s) (h : @SoundI (frzG q w0) P AQ { m with tmps := putT m.tmps d s }) : @CallI (frzG q w0) P AQ f args d m :=
 ⟨hp.1, (hp.2 _ _ h).g⟩

def Ty.flat : Ty → Bool
 | .slice _ => false
 | .prod a b => a.flat && b.flat
 | _ => true
theorem Ty.rel_flat {I I' : Nat → Prop} {w w' : World} : ∀ (t : Ty) (x : t.den) (vs : List Value), t.flat = true → t.rel I w x vs → t.rel I' w' x vs
 | .u8, _, _, _, h => h
 | .int _, _, _, _, h => h
 | .bool, _, _, _, h => h
 | .str, _, _, _, h => h
 | .slice t, _, _, hf, _ => by cases hf
 | .prod a b, x, vs, hf, h => by
  obtain ⟨v1, v2, rfl, h1, h2⟩ := h
  simp only [Ty.flat, Bool.and_eq_true] at hf
  exact ⟨v1, v2, rfl, a.rel_flat _ _ hf.1 h1, b.rel_flat _ _ hf.2 h2⟩
 | .unit, _, _, _, h => h
def Cx.lend (C : Cx) (q : Nat → Prop) : Cx := { C with I := fun b => C.I b ∨ q b, n := 0 }
theorem wd_lend {q : Nat → Prop} {w0 : World} {C : Cx} (hw : Wd C H) (hg : ZInv q w0 C H) : Wd (C.lend q) [] where
 n := rfl
 obj := fun h o ho => by simp at ho
 own := fun b ⟨h, o, ho, _⟩ => by simp at ho
 inj := fun h h' o o' b ho => by simp at ho
 imm := fun b hb => hb.elim (hw.imm b) fun h => (hg b h).1
theorem rel_lend {q : Nat → Prop} {w0 : World} {C : Cx} (hg : ZInv q w0 C H) {t : Ty} {x : t.den} {vs : List Value} (h : t.rel q w0 x vs) : t.rel (C.lend q).I (C.lend q).w x vs :=
 Ty.rel_keep (fun b hb => ⟨.inr hb, (hg b hb).2.2.2⟩) _ _ _ h
def LendA (q : Nat → Prop) (w0 : World) (args args' : List SV) : Prop := ∀ (C : Cx) (H : List SObj) (vs : List Value), ZInv q w0 C H → SV.denL C args vs → SV.denL (C.lend q) args' vs
theorem lend_nil {q : Nat → Prop} {w0 : World} : LendA q w0 [] [] := fun _ _ _ _ h => by rw [denL_nil] at h ⊢; exact h
theorem lend_z {q : Nat → Prop} {w0 : World} {t : Ty} {xs : List t.den} {v : Value} {l l' : List SV} (hv : Sl q w0 t xs v) (h : LendA q w0 l l') : LendA q w0 (.raw v :: l) (.isl t xs :: l') := fun C H vs hg hd => by
 obtain ⟨u, us, rfl, h1, h2⟩ := denL_cons.1 hd
 rw [SV.den] at h1; subst h1
 exact denL_cons.2 ⟨_, us, rfl, by rw [SV.den]; exact rel_lend hg hv, h C H us hg h2⟩
theorem lend_agg {q : Nat → Prop} {w0 : World} {t : Ty} {x : t.den} {ws : List Value} {l l' : List SV} (hv : t.rel q w0 x ws) (h : LendA q w0 l l') : LendA q w0 (.agg (rawL ws) :: l) (.agg (t.cells x) :: l') := fun C H vs hg hd => by
 obtain ⟨u, us, rfl, h1, h2⟩ := denL_cons.1 hd
 rw [SV.den] at h1
 obtain ⟨ws', rfl, h1⟩ := h1
 have := rawL_den_eq h1
 subst this
 exact denL_cons.2 ⟨_, us, rfl, by rw [SV.den]; exact ⟨_, rfl, Ty.cells_den (C := C.lend q) _ _ _ (rel_lend hg hv)⟩, h C H us hg h2⟩
theorem lend_keep {q : Nat → Prop} {w0 : World} {s : SV} {l l' : List SV} (hc : s.clean = true) (h : LendA q w0 l l') : LendA q w0 (s :: l) (s :: l') := fun C H vs hg hd => by
 obtain ⟨u, us, rfl, h1, h2⟩ := denL_cons.1 hd
 exact denL_cons.2 ⟨_, us, rfl, den_clean (C := C) (C' := C.lend q) (fun b hb => ⟨.inl hb, rfl⟩) hc h1, h C H us hg h2⟩

theorem ext_lend {q : Nat → Prop} {w0 : World} {C C1 : Cx} {H1 : List SObj} (hw : Wd C H) (hx : Ext ⟨C.lend q, []⟩ C1 H1) :
 Wd { C with w := C1.w } H ∧ Ext ⟨C, H⟩ { C with w := C1.w } H := by
 have hold : ∀ b, b < C.w.heap.size → C1.w.heap[b]? = C.w.heap[b]? := fun b hb => hx.frame b hb (fun ⟨h, o, ho, _⟩ => by simp at ho)
 exact wd_gr hw hx.size hold hx.os hx.tape hx.output

theorem row_back {q : Nat → Prop} {w0 : World} {C C' : Cx} {ty : Ty} {xs : List ty.den} {n : Nat} {u : Value} (hf : ty.flat = true) (hw : Wd C H) (hw' : Wd C' [.row ty xs]) (hx : Ext ⟨C.lend q, []⟩ C' [.row ty xs]) (hd : (SV.bld 0 ty n).den C' u) :
 ∃ D : Cx, D.w = C'.w ∧ Wd D (H ++ [.row ty xs]) ∧ Ext ⟨C, H⟩ D (H ++ [.row ty xs]) ∧ (SV.bld H.length ty n).den D u := by
 obtain ⟨g1, g2⟩ := ext_lend (q := q) (w0 := w0) hw hx
 let A : Cx := { C with w := C'.w }
 let D : Cx := { A with ρ := fun h => if h = C.n then C'.ρ 0 else C.ρ h, n := C.n + 1 }
 have hown0 : ∀ b, C'.ρ 0 = some b → OwnB C' [.row ty xs] b := fun b hb => ⟨0, _, rfl, rfl, hb⟩
 have hnew : ∀ b, C'.ρ 0 = some b → C.w.heap.size ≤ b := fun b hb => (hx.ownNew b (hown0 b hb)).elim id fun ⟨h, o, ho, _⟩ => by simp at ho
 have hev : Evo A D := ⟨Nat.le_succ _, fun h hh => by
  show (if h = C.n then _ else _) = _
  rw [if_neg (by have : h < C.n := hh; omega)], Keeps.refl _ _, fun _ _ h => h⟩
 have hn : C.n = H.length := hw.n
 have hDn : D.ρ H.length = C'.ρ 0 := by show (if H.length = C.n then _ else _) = _; rw [if_pos hn.symm]
 have hDo : ∀ h, h < H.length → D.ρ h = C.ρ h := fun h hh => by show (if h = C.n then _ else _) = _; rw [if_neg (by omega)]
 have hown : ∀ b, OwnB D (H ++ [.row ty xs]) b → OwnB A H b ∨ C'.ρ 0 = some b := by
  rintro b ⟨h, x, hx', hlx, hb⟩
  rcases get_append_some hx' with ⟨h1, h2⟩ | ⟨h1, h2⟩
  · exact .inl ⟨h, x, h2, hlx, (hDo h h1).symm.trans hb⟩
  · subst h1; exact .inr (hDn.symm.trans hb)
 have hrow : objDen D H.length (.row ty xs) := by
  rcases hw'.obj 0 _ rfl with ⟨h1, h2⟩ | ⟨b, arr, T, fz, h1, h2, h3, h4, h5⟩
  · exact .inl ⟨hDn.trans h1, h2⟩
  · refine .inr ⟨b, arr, T, fz, hDn.trans h1, h2, h3, h4, fun i x hx => ?_⟩
    obtain ⟨us, hu, hc⟩ := h5 i x hx
    exact ⟨us, Ty.rel_flat _ _ _ hf hu, hc⟩
 have hwd : Wd D (H ++ [.row ty xs]) := by
  refine ⟨by simp [D, hn], fun h o ho => ?_, fun b hb => ?_, fun i j o o' b ho ho' hl1 hl2 hb hb' => ?_, g1.imm⟩
  · rcases get_append_some ho with ⟨h1, h2⟩ | ⟨h1, h2⟩
    · by_cases hlv : o.live = true
      · exact objDen_evo hev.I h (hDo h h1) (fun _ _ => rfl) (denL_evo hev) (g1.obj h o h2)
      · cases o <;> first | trivial | simp [SObj.live] at hlv
    · subst h1 h2; exact hrow
  · rcases hown b hb with h1 | h1
    · exact g1.own b h1
    · exact ⟨fun hi => absurd (hw.imm b hi) (by have := hnew b h1; omega), (hw'.own b (hown0 b h1)).2⟩
  · rcases get_append_some ho with ⟨h1, h2⟩ | ⟨h1, h2⟩ <;> rcases get_append_some ho' with ⟨h1', h2'⟩ | ⟨h1', h2'⟩
    · rw [hDo i h1] at hb; rw [hDo j h1'] at hb'
      exact g1.inj i j o o' b h2 h2' hl1 hl2 hb hb'
    · exfalso
      rw [hDo i h1] at hb; rw [h1', hDn] at hb'
      have := (hw.own b ⟨i, o, h2, hl1, hb⟩).2
      have := hnew b hb'
      omega
    · exfalso
      rw [hDo j h1'] at hb'; rw [h1, hDn] at hb
      have := (hw.own b ⟨j, o', h2', hl2, hb'⟩).2
      have := hnew b hb
      omega
    · omega
 have hext : Ext ⟨C, H⟩ D (H ++ [.row ty xs]) :=
  ⟨g2.evo.trans hev, g2.size, g2.os, g2.tape, g2.output, g2.frame, g2.immNew, fun b hb => (hown b hb).elim (fun h1 => g2.ownNew b h1) fun h1 => .inl (hnew b h1)⟩
 refine ⟨D, rfl, hwd, hext, ?_⟩
 rw [SV.den] at hd ⊢
 refine ⟨by show H.length < C.n + 1; omega, orMap hd.2 (fun ⟨h1, h2⟩ => ⟨hDn.trans h1, h2⟩) fun ⟨b, c, mm, h1, h2⟩ => ⟨b, c, mm, hDn.trans h1, h2⟩⟩

theorem ghostH_own {C : Cx} {q : Nat → Prop} (hn : C.n = H.length) (L : List Nat) (hL : ∀ b, b ∈ L ↔ q b) {b : Nat}
 (h : OwnB { C with ρ := fun h => if h < C.n then C.ρ h else L[h - C.n]? } (H ++ L.map fun _ => SObj.row .u8 []) b) : OwnB C H b ∨ q b := by
 obtain ⟨i, o, ho, hl, hb⟩ := h
 rcases Nat.lt_or_ge i H.length with h1 | h1
 · rw [List.getElem?_append_left h1] at ho
   simp only [if_pos (show i < C.n by omega)] at hb
   exact .inl ⟨i, o, ho, hl, hb⟩
 · simp only [if_neg (show ¬ i < C.n by omega)] at hb
   exact .inr ((hL b).1 (List.mem_of_getElem? hb))
theorem vcs_fi {q : Nat → Prop} {w0 : World} {f : FuncId} {fi : FI} {args : List SV} {K : Out → List SObj → Prop} (h : finfo P f = some fi)
 (hs : @SoundI (scrG q w0) P (retF P fi.results K) ⟨H.length, [.ic fi.code], args ++ List.replicate (fi.ntmps - args.length) .any, H⟩) : @VCG (scrG q w0) P f args H K := by
 obtain ⟨_, _, _, _, _, _, _, hen⟩ := fi_out h
 refine ⟨hen, fun E C vs hw (hg : SInv q w0 E.toEn C H) hv => ?_⟩
 have hdec : DecidablePred q := fun b => Classical.propDecidable (q b)
 have hLex : ∃ L : List Nat, ∀ b, b ∈ L ↔ q b := ⟨(List.range C.w.heap.size).filter (fun b => decide (q b)), fun b => by
  simp only [List.mem_filter, List.mem_range, decide_eq_true_eq]
  exact ⟨fun h => h.2, fun h => ⟨(hg b h).2.1, h⟩⟩⟩
 obtain ⟨L, hL⟩ := hLex
 let C2 : Cx := { C with ρ := fun h => if h < C.n then C.ρ h else L[h - C.n]? }
 let H2 : List SObj := H ++ L.map fun _ => SObj.row .u8 []
 have hn := hw.n
 have hown2 : ∀ b, OwnB C2 H2 b → OwnB C H b ∨ q b := fun b hb => ghostH_own hn L hL hb
 have hqown : ∀ b, q b → OwnB C2 H2 b := fun b hb => by
  obtain ⟨i, hi, rfl⟩ := List.getElem_of_mem ((hL b).2 hb)
  refine ⟨H.length + i, .row .u8 [], ?_, rfl, ?_⟩
  · show (H ++ _)[H.length + i]? = _
    rw [List.getElem?_append_right (Nat.le_add_right _ _), Nat.add_sub_cancel_left, List.getElem?_map, List.getElem?_eq_getElem hi]; rfl
  · show (if H.length + i < C.n then _ else L[H.length + i - C.n]?) = _
    rw [if_neg (by omega), hn, Nat.add_sub_cancel_left, List.getElem?_eq_getElem hi]
 have hx0 : Ext ⟨C2, H2⟩ C H := ⟨⟨Nat.le_refl _, fun h hh => (if_pos (show h < C.n from hh)).symm, Keeps.refl _ _, fun _ _ h => h⟩, Nat.le_refl _, rfl, rfl, rfl, fun _ _ _ => rfl, fun _ h => .inl h, fun b ⟨i, o, ho, hl, hb⟩ => .inr ⟨i, o, by
  show (H ++ _)[i]? = _
  rw [List.getElem?_append_left (List.getElem?_eq_some_iff.1 ho).1]; exact ho, hl, by
  show (if i < C.n then _ else _) = _
  rw [if_pos (by rw [hn]; exact (List.getElem?_eq_some_iff.1 ho).1)]; exact hb⟩⟩
 have hg0 : SInv q w0 ⟨C2, H2⟩ C H := fun b hb => ⟨.inr (hqown b hb), (hg b hb).2⟩
 refine (@calls_fi P H (scrG q w0) f fi args K ⟨⟨C2, H2⟩, []⟩ C vs h rfl (by show C.n ≤ _; rw [hn]; exact Nat.le_refl _) hw hx0 hg0 hv hs).mono ?_
 rintro e w' ⟨o, H', C', k1, k2, k3, k4, (k5 : SInv q w0 ⟨C2, H2⟩ C' H'), k6⟩
 have hevo : Evo C C' := ⟨k4.evo.n, fun h hh => (k4.evo.ρ h hh).trans (if_pos hh), k4.evo.I, k4.evo.sz⟩
 refine ⟨o, H', C', k1, k2, k3, @Stp.mk (scrG q w0) E C H C' H' hevo (fun k => ?_) (fun _ => fun b hb => ⟨(hg b hb).1, (k5 b hb).2⟩), k6⟩
 have hown : ∀ b, OwnB C2 H2 b → E.C.w.heap.size ≤ b ∨ OwnB E.C E.H b := fun b hb => (hown2 b hb).elim (k.ownNew b) fun h => (hg b h).1
 refine ⟨k.evo.trans hevo, Nat.le_trans k.size k4.size, k4.os.trans k.os, k4.tape.trans k.tape, k4.output.trans k.output, fun b h1 h2 => ?_, fun b hb => ?_, fun b hb => ?_⟩
 · exact (k4.frame b (Nat.lt_of_lt_of_le h1 k.size) fun ho => (hown b ho).elim (fun x => absurd h1 (Nat.not_lt.2 x)) h2).trans (k.frame b h1 h2)
 · rcases k4.immNew b hb with g | ⟨g, u⟩
   · exact orMap (k.immNew b g) id fun ⟨x, u⟩ => ⟨x, u.keep (hevo.I b g).2⟩
   · exact .inr ⟨g.elim (fun x => .inl (Nat.le_trans k.size x)) (hown b), u⟩
 · exact (k4.ownNew b hb).elim (fun x => .inl (Nat.le_trans k.size x)) (hown b)
theorem runZ {q : Nat → Prop} {w0 : World} {f : FuncId} {fi : FI} {args : List SV} {K : Out → List SObj → Prop} {r : Prop} (hm : P.follows .mixedOrders = true) (hf : finfo P f = some fi) (h : r)
 (e : @run (frzG q w0) P (retF P fi.results K) 600 ⟨H.length, [.ic fi.code], args ++ List.replicate (fi.ntmps - args.length) .any, H⟩ = r := by (simp (maxSteps := 3000000) only [go_sem, ↓zA, ↓reduceIte, ↓reduceDIte, reduceCtorEq, Nat.reduceAdd, Nat.reduceSub, Nat.reduceLeDiff, Nat.reduceLT, Nat.reduceEqDiff, Nat.reduceBEq, Nat.reduceMul, Int.reduceToNat, Int.reduceEq, Int.reduceLT, Int.reduceLE]; (try simp only [zB]); rfl)) : VCZ q w0 P f args H K := vcz_fi hf (@run_sound (frzG q w0) P _ hm 600 _ (Eq.mpr e h))
theorem runS {q : Nat → Prop} {w0 : World} {f : FuncId} {fi : FI} {args : List SV} {K : Out → List SObj → Prop} {r : Prop} (hm : P.follows .mixedOrders = true) (hf : finfo P f = some fi) (h : r)
 (e : @run (scrG q w0) P (retF P fi.results K) 600 ⟨H.length, [.ic fi.code], args ++ List.replicate (fi.ntmps - args.length) .any, H⟩ = r := by (simp (maxSteps := 3000000) only [go_sem, ↓zA, ↓reduceIte, ↓reduceDIte, reduceCtorEq, Nat.reduceAdd, Nat.reduceSub, Nat.reduceLeDiff, Nat.reduceLT, Nat.reduceEqDiff, Nat.reduceBEq, Nat.reduceMul, Int.reduceToNat, Int.reduceEq, Int.reduceLT, Int.reduceLE]; (try simp only [zB]); rfl)) : @VCG (scrG q w0) P f args H K := vcs_fi hf (@run_sound (scrG q w0) P _ hm 600 _ (Eq.mpr e h))
def RowK (ty : Ty) (xs : List ty.den) : Out → List SObj → Prop := fun o H' => (xs = [] ∧ o = .ret (.raw (.slice none 0 0)) ∧ H' = []) ∨ (o = .ret (.bld 0 ty xs.length) ∧ H' = [.row ty xs])
theorem rowK_nil {ty : Ty} {xs : List ty.den} {H' : List SObj} (h : xs = []) : Weak 0 (RowK ty xs) (.ret (.raw (.slice none 0 0))) H' :=
 ⟨fun h => h, .raw (.slice none 0 0), .raw (.slice none 0 0), [], ⟨⟨rfl, trivial⟩, trivial, rfl, rfl, rfl, rfl, Nat.le_refl _⟩, .inl (.inl rfl), .inl ⟨h, rfl, rfl⟩⟩
theorem rowK_row {ty : Ty} {xs : List ty.den} {H' : List SObj} {h n : Nat} (hH : H'[h]? = some (.row ty xs)) (hn : n = xs.length) : Weak 0 (RowK ty xs) (.ret (.bld h ty n)) H' := by
 subst hn
 exact ⟨fun _ => h, .bld 0 ty xs.length, .bld 0 ty xs.length, [.row ty xs], ⟨⟨rfl, trivial⟩, ⟨hH, trivial⟩, rfl, rfl, rfl, rfl, Nat.zero_le _⟩, .inl (.inl rfl), .inr ⟨rfl, rfl⟩⟩
theorem callZ_rowK {q : Nat → Prop} {w0 : World} {f : FuncId} {args args' : List SV} {ty : Ty} {xs : List ty.den} {d : Option Tmp} {m : IM} (hf : ty.flat = true) (hp : VC P f args' [] (RowK ty xs)) (hl : LendA q w0 args args')
 (h0 : xs = [] → @SoundI (frzG q w0) P AQ { m with tmps := putT m.tmps d (.raw (.slice none 0 0)) })
 (h : @SoundI (frzG q w0) P AQ { m with tmps := putT m.tmps d (.bld m.heap.length ty xs.length), heap := m.heap ++ [.row ty xs] }) : @CallI (frzG q w0) P AQ f args d m := by
 refine ⟨hp.1, fun E C vs hw hg hv => ?_⟩
 refine (hp.2 (C.lend q) vs (wd_lend hw hg) (hl C _ vs hg hv)).mono ?_
 rintro e w' ⟨o, H', C', hk, rfl, hw', hx, hd⟩
 rcases hk with ⟨rfl, rfl, rfl⟩ | ⟨rfl, rfl⟩
 · obtain ⟨u, rfl, hd⟩ := hd
   rw [SV.den] at hd; subst hd
   obtain ⟨g1, g2⟩ := ext_lend (q := q) (w0 := w0) hw hx
   exact ⟨.ret (.raw (.slice none 0 0)), m.heap, { C with w := C'.w }, h0 rfl, rfl, g1, @Stp.of (frzG q w0) E C { C with w := C'.w } m.heap m.heap g2, _, rfl, by rw [SV.den]⟩
 · obtain ⟨u, rfl, hd⟩ := hd
   obtain ⟨D, k1, k2, k3, k4⟩ := row_back (q := q) (w0 := w0) hf hw hw' hx hd
   exact ⟨.ret (.bld m.heap.length ty xs.length), m.heap ++ [SObj.row ty xs], D, h, k1, k2, @Stp.of (frzG q w0) E C D m.heap _ k3, u, rfl, k4⟩
theorem pcz_lend {q : Nat → Prop} {w0 : World} {f : FuncId} {args args' : List SV} {ty : Ty} {xs : List ty.den} (hf : ty.flat = true) (hp : VC P f args' [] (RowK ty xs)) (hl : LendA q w0 args args') (ha : SV.cleanL args = true) (hlen : xs.length ≤ 1125899906842624) : PCZ q w0 P f args (.isl ty xs) := by
 refine pcz_seal ha rfl ⟨hp.1, fun C vs hw hg hv => (hp.2 (C.lend q) vs (wd_lend hw hg) (hl C _ vs hg hv)).mono ?_⟩
 rintro e w' ⟨o, H', C', hk, rfl, hw', hx, hd⟩
 rcases hk with ⟨h0, rfl, rfl⟩ | ⟨rfl, rfl⟩
 · subst h0
   obtain ⟨u, rfl, hd⟩ := hd
   rw [SV.den] at hd; subst hd
   obtain ⟨g1, g2⟩ := ext_lend (q := q) (w0 := w0) hw hx
   exact ⟨.ret (.raw (.slice none 0 0)), [], { C with w := C'.w }, by simp [go_sem], rfl, g1, g2, _, rfl, by rw [SV.den]⟩
 · obtain ⟨u, rfl, hd⟩ := hd
   obtain ⟨D, k1, k2, k3, k4⟩ := row_back (q := q) (w0 := w0) hf hw hw' hx hd
   refine ⟨.ret (.bld 0 ty xs.length), [SObj.row ty xs], D, ?_, k1, k2, k3, u, rfl, k4⟩
   simp [go_sem]
   exact hlen
def PCS (q : Nat → Prop) (w0 : World) (P : Program) (f : FuncId) (args : List SV) (s : SV) : Prop := enters P f = true ∧ ∀ (H : List SObj) (K : Out → List SObj → Prop), K (.ret s) H → @VCallG (scrG q w0) P f args H K
theorem pcs_of {q : Nat → Prop} {w0 : World} {f : FuncId} {args : List SV} {s : SV} (h : ∀ (H : List SObj) (K : Out → List SObj → Prop), K (.ret s) H → @VCG (scrG q w0) P f args H K) : PCS q w0 P f args s :=
 ⟨(h [] (fun _ _ => True) trivial).1, fun H K hk => (h H K hk).2⟩
theorem callS {q : Nat → Prop} {w0 : World} {f : FuncId} {args : List SV} {s : SV} {d : Option Tmp} {m : IM} (hp : PCS q w0 P f args s) (h : @SoundI (scrG q w0) P AQ { m with tmps := putT m.tmps d s }) : @CallI (scrG q w0) P AQ f args d m :=
 ⟨hp.1, hp.2 _ _ h⟩
end Go.Sx
