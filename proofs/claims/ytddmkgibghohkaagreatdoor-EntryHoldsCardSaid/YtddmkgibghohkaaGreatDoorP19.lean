/- Contracts: the encoding of entries and offers, as a whole. -/
import Derived.Test.YtddmkgibghohkaaGreatDoorP18
set_option linter.unusedSimpArgs false
set_option linter.unusedVariables false
namespace Go.Proofs.YtddmkgibghohkaaGreatDoor
open Go Go.Sx Go.Proofs
set_option maxRecDepth 100000
set_option maxHeartbeats 4000000
set_option linter.unusedSimpArgs false

def mapN {t : Ty} (w : t.den → List UInt8) (l : List t.den) (i : Nat) : List (List UInt8) := (l.take i).map w
theorem mapN_succ {t : Ty} {w : t.den → List UInt8} {l : List t.den} {i : Nat} (h : i < l.length) : mapN w l (i + 1) = mapN w l i ++ [w (l.getD i t.dflt)] := by unfold mapN; rw [take_succ_getD (d := t.dflt) h]; simp
theorem mapN_len {t : Ty} {w : t.den → List UInt8} {l : List t.den} {i : Nat} (h : i ≤ l.length) : (mapN w l i).length = i := by simp [mapN]; omega
def listS {t : Ty} (w : t.den → List UInt8) (l : List t.den) : List UInt8 := if l.length = 0 then [] else elemS 48 (mapN w l l.length)
theorem list_key (l : List (KeyT).den) (g : Nat) (w : (KeyT).den → List UInt8) (hl : l.length ≤ 1048576) (hone : ∀ x ∈ l, PC Tryz.prog g [.agg ((KeyT).cells x)] (.isl .u8 (w x))) :
 PC Tryz.prog 211 [.isl (KeyT) l, .fn g [] []] (.isl .u8 (listS (t := KeyT) w l)) := by
 refine pc_seal rfl rfl ?_
 refine runE mixed fi211 ?_
 refine ⟨fun h0 => ?_, fun h0 => ?_⟩
 · unfold listS; rw [if_pos (by omega)]
 refine si_accN 5 (.slice .u8) (mapN (t := KeyT) w l) (fun i => [(13, rI i)]) l.length (fun _ => True) rfl (by simp) (by simp [mapN]) rfl (fun i => rfl) ?_ fun i hi _ => ?_
 · with_reducible refine sxE ?_; trivial
 have hwr : IntKind.i64.wrap ((i : Int) + 1) = ((i + 1 : Nat) : Int) := wrap_succ (by omega)
 have hln := mapN_len (w := w) hi
 refine goE mixed ?_
 refine ⟨fun hlt => ⟨⟨by omega, hlt⟩, callI_pure (hone _ (getD_mem (d := (KeyT).dflt) hlt)) ?_⟩, fun hge => ?_⟩
 · refine goE mixed ?_
   have hst := mapN_succ (t := KeyT) (w := w) hlt
   refine ⟨⟨by omega, by omega⟩, acc_next [_, _, _] [] hlt trivial (by rw [hst]; rfl) ?_⟩
   with_reducible refine sx3 hwr hst ?_; trivial
 · obtain rfl : i = l.length := by omega
   refine callI_hand 0 ?_
   with_reducible refine sxE ?_
   refine ⟨by omega, Nat.le_refl _, ?_⟩
   rw [List.take_of_length_le (Nat.le_refl _)]
   refine callI_pure (sequence_c (mapN (t := KeyT) w l l.length) (by omega)) ?_
   refine goE mixed ?_
   unfold listS; rw [if_neg (by omega)]
theorem list_prin (l : List (PrinT).den) (g : Nat) (w : (PrinT).den → List UInt8) (hl : l.length ≤ 1048576) (hone : ∀ x ∈ l, PC Tryz.prog g [.agg ((PrinT).cells x)] (.isl .u8 (w x))) :
 PC Tryz.prog 156 [.isl (PrinT) l, .fn g [] []] (.isl .u8 (listS (t := PrinT) w l)) := by
 refine pc_seal rfl rfl ?_
 refine runE mixed fi156 ?_
 refine ⟨fun h0 => ?_, fun h0 => ?_⟩
 · unfold listS; rw [if_pos (by omega)]
 refine si_accN 5 (.slice .u8) (mapN (t := PrinT) w l) (fun i => [(13, rI i)]) l.length (fun _ => True) rfl (by simp) (by simp [mapN]) rfl (fun i => rfl) ?_ fun i hi _ => ?_
 · with_reducible refine sxE ?_; trivial
 have hwr : IntKind.i64.wrap ((i : Int) + 1) = ((i + 1 : Nat) : Int) := wrap_succ (by omega)
 have hln := mapN_len (w := w) hi
 refine goE mixed ?_
 refine ⟨fun hlt => ⟨⟨by omega, hlt⟩, callI_pure (hone _ (getD_mem (d := (PrinT).dflt) hlt)) ?_⟩, fun hge => ?_⟩
 · refine goE mixed ?_
   have hst := mapN_succ (t := PrinT) (w := w) hlt
   refine ⟨⟨by omega, by omega⟩, acc_next [_, _, _] [] hlt trivial (by rw [hst]; rfl) ?_⟩
   with_reducible refine sx3 hwr hst ?_; trivial
 · obtain rfl : i = l.length := by omega
   refine callI_hand 0 ?_
   with_reducible refine sxE ?_
   refine ⟨by omega, Nat.le_refl _, ?_⟩
   rw [List.take_of_length_le (Nat.le_refl _)]
   refine callI_pure (sequence_c (mapN (t := PrinT) w l l.length) (by omega)) ?_
   refine goE mixed ?_
   unfold listS; rw [if_neg (by omega)]
theorem list_kset (l : List (SetT).den) (g : Nat) (w : (SetT).den → List UInt8) (hl : l.length ≤ 1048576) (hone : ∀ x ∈ l, PC Tryz.prog g [.agg ((SetT).cells x)] (.isl .u8 (w x))) :
 PC Tryz.prog 159 [.isl (SetT) l, .fn g [] []] (.isl .u8 (listS (t := SetT) w l)) := by
 refine pc_seal rfl rfl ?_
 refine runE mixed fi159 ?_
 refine ⟨fun h0 => ?_, fun h0 => ?_⟩
 · unfold listS; rw [if_pos (by omega)]
 refine si_accN 5 (.slice .u8) (mapN (t := SetT) w l) (fun i => [(13, rI i)]) l.length (fun _ => True) rfl (by simp) (by simp [mapN]) rfl (fun i => rfl) ?_ fun i hi _ => ?_
 · with_reducible refine sxE ?_; trivial
 have hwr : IntKind.i64.wrap ((i : Int) + 1) = ((i + 1 : Nat) : Int) := wrap_succ (by omega)
 have hln := mapN_len (w := w) hi
 refine goE mixed ?_
 refine ⟨fun hlt => ⟨⟨by omega, hlt⟩, callI_pure (hone _ (getD_mem (d := (SetT).dflt) hlt)) ?_⟩, fun hge => ?_⟩
 · refine goE mixed ?_
   have hst := mapN_succ (t := SetT) (w := w) hlt
   refine ⟨⟨by omega, by omega⟩, acc_next [_, _, _] [] hlt trivial (by rw [hst]; rfl) ?_⟩
   with_reducible refine sx3 hwr hst ?_; trivial
 · obtain rfl : i = l.length := by omega
   refine callI_hand 0 ?_
   with_reducible refine sxE ?_
   refine ⟨by omega, Nat.le_refl _, ?_⟩
   rw [List.take_of_length_le (Nat.le_refl _)]
   refine callI_pure (sequence_c (mapN (t := SetT) w l l.length) (by omega)) ?_
   refine goE mixed ?_
   unfold listS; rw [if_neg (by omega)]
theorem list_salt (l : List (SaltT).den) (g : Nat) (w : (SaltT).den → List UInt8) (hl : l.length ≤ 1048576) (hone : ∀ x ∈ l, PC Tryz.prog g [.agg ((SaltT).cells x)] (.isl .u8 (w x))) :
 PC Tryz.prog 134 [.isl (SaltT) l, .fn g [] []] (.isl .u8 (listS (t := SaltT) w l)) := by
 refine pc_seal rfl rfl ?_
 refine runE mixed fi134 ?_
 refine ⟨fun h0 => ?_, fun h0 => ?_⟩
 · unfold listS; rw [if_pos (by omega)]
 refine si_accN 5 (.slice .u8) (mapN (t := SaltT) w l) (fun i => [(13, rI i)]) l.length (fun _ => True) rfl (by simp) (by simp [mapN]) rfl (fun i => rfl) ?_ fun i hi _ => ?_
 · with_reducible refine sxE ?_; trivial
 have hwr : IntKind.i64.wrap ((i : Int) + 1) = ((i + 1 : Nat) : Int) := wrap_succ (by omega)
 have hln := mapN_len (w := w) hi
 refine goE mixed ?_
 refine ⟨fun hlt => ⟨⟨by omega, hlt⟩, callI_pure (hone _ (getD_mem (d := (SaltT).dflt) hlt)) ?_⟩, fun hge => ?_⟩
 · refine goE mixed ?_
   have hst := mapN_succ (t := SaltT) (w := w) hlt
   refine ⟨⟨by omega, by omega⟩, acc_next [_, _, _] [] hlt trivial (by rw [hst]; rfl) ?_⟩
   with_reducible refine sx3 hwr hst ?_; trivial
 · obtain rfl : i = l.length := by omega
   refine callI_hand 0 ?_
   with_reducible refine sxE ?_
   refine ⟨by omega, Nat.le_refl _, ?_⟩
   rw [List.take_of_length_le (Nat.le_refl _)]
   refine callI_pure (sequence_c (mapN (t := SaltT) w l l.length) (by omega)) ?_
   refine goE mixed ?_
   unfold listS; rw [if_neg (by omega)]
theorem list_bytes (l : List ((Ty.slice .u8)).den) (g : Nat) (w : ((Ty.slice .u8)).den → List UInt8) (hl : l.length ≤ 1048576) (hone : ∀ x ∈ l, PC Tryz.prog g [.isl .u8 x] (.isl .u8 (w x))) :
 PC Tryz.prog 163 [.isl ((Ty.slice .u8)) l, .fn g [] []] (.isl .u8 (listS (t := (Ty.slice .u8)) w l)) := by
 refine pc_seal rfl rfl ?_
 refine runE mixed fi163 ?_
 refine ⟨fun h0 => ?_, fun h0 => ?_⟩
 · unfold listS; rw [if_pos (by omega)]
 refine si_accN 5 (.slice .u8) (mapN (t := (Ty.slice .u8)) w l) (fun i => [(13, rI i)]) l.length (fun _ => True) rfl (by simp) (by simp [mapN]) rfl (fun i => rfl) ?_ fun i hi _ => ?_
 · with_reducible refine sxE ?_; trivial
 have hwr : IntKind.i64.wrap ((i : Int) + 1) = ((i + 1 : Nat) : Int) := wrap_succ (by omega)
 have hln := mapN_len (w := w) hi
 refine goE mixed ?_
 refine ⟨fun hlt => ⟨⟨by omega, hlt⟩, callI_pure (hone _ (getD_mem (d := ((Ty.slice .u8)).dflt) hlt)) ?_⟩, fun hge => ?_⟩
 · refine goE mixed ?_
   have hst := mapN_succ (t := (Ty.slice .u8)) (w := w) hlt
   refine ⟨⟨by omega, by omega⟩, acc_next [_, _] [] hlt trivial (by rw [hst]; rfl) ?_⟩
   with_reducible refine sx3 hwr hst ?_; trivial
 · obtain rfl : i = l.length := by omega
   refine callI_hand 0 ?_
   with_reducible refine sxE ?_
   refine ⟨by omega, Nat.le_refl _, ?_⟩
   rw [List.take_of_length_le (Nat.le_refl _)]
   refine callI_pure (sequence_c (mapN (t := (Ty.slice .u8)) w l l.length) (by omega)) ?_
   refine goE mixed ?_
   unfold listS; rw [if_neg (by omega)]
def prinE (p : Prin) : List UInt8 := if vPrin p then prinS p else []
theorem eprincipal_c (p : Prin) (hp : PrinT.ok p) : PC Tryz.prog 155 [.agg (PrinT.cells p)] (.isl .u8 (prinE p)) := by
 unfold prinE
 refine pc_seal rfl rfl ?_
 refine runE mixed fi155 ?_
 refine callI_pure (nencode_c p hp) ?_
 refine goE mixed ?_; trivial
def setS (s : KSet) : List UInt8 := tagS [intS s.1, listS (t := KeyT) keyS s.2.1, txtO s.2.2.1, numO s.2.2.2.1, timeS s.2.2.2.2]
theorem writeSet_c (s : KSet) (hs : SetT.ok s) (hl : s.2.1.length ≤ 1048576) : PC Tryz.prog 160 [.agg (SetT.cells s)] (.isl .u8 (setS s)) := by
 refine pc_seal rfl rfl ?_
 refine runE mixed fi160 ?_
 refine callR_pure (integer_c _) ?_
 refine goE mixed ?_
 refine callR_pure (list_key _ _ keyS hl (fun x _ => dkey_c x)) ?_
 refine goE mixed ?_
 refine callR_pure (etext_c _ hs.2.2.1) ?_
 refine goE mixed ?_
 refine callR_pure (einteger_c _) ?_
 refine goE mixed ?_
 refine callR_pure (time_c _) ?_
 refine goE mixed ?_
 refine callR_move (etagged_c _ (by simp)) (by decide) rfl rfl ?_
 refine goE mixed ?_
 rfl
def saltS (s : Salt) : List UInt8 := tagS [intS s.1, elemS 27 [s.2.1.data.toList], intS s.2.2]
theorem writeSalt_c (s : Salt) (hs : SaltT.ok s) : PC Tryz.prog 135 [.agg (SaltT.cells s)] (.isl .u8 (saltS s)) := by
 refine pc_seal rfl rfl ?_
 refine runE mixed fi135 ?_
 refine callR_pure (integer_c _) ?_
 refine goE mixed ?_
 refine callR_pure (dstring_c _ hs.2.1) ?_
 refine goE mixed ?_
 refine callR_pure (integer_c _) ?_
 refine goE mixed ?_
 refine callR_move (etagged_c _ (by simp)) (by decide) rfl rfl ?_
 refine goE mixed ?_
 rfl
def offerS (l : List Salt) : List UInt8 := if l.length = 0 then elemS 48 [] else listS (t := SaltT) saltS l
theorem writeOffer_c (l : List Salt) (ho : (Ty.slice SaltT).ok l) (hl : l.length ≤ 1048576) : PC Tryz.prog 71 [.isl SaltT l] (.isl .u8 (offerS l)) := by
 refine pc_seal rfl rfl ?_
 refine runE mixed fi71 ?_
 refine ⟨fun h0 => ?_, fun h0 => ?_⟩
 · refine callI_pure ((sequence_c [] (by simp)).arg (by simp [leVL_cons, leVL_nil, leV_nil])) ?_
   refine goE mixed ?_
   unfold offerS; rw [if_pos (by omega)]
 · refine callI_pure (list_salt l _ saltS hl (fun x hx => writeSalt_c x (ho.2 x hx))) ?_
   refine goE mixed ?_
   unfold offerS; rw [if_neg (by omega)]
def vSalt (s : Salt) : Bool := decide (keyLen s.1 ≠ 0) && (decide ((s.2.1.size : Int) ≤ 256) && (decide (0 ≤ s.2.2) && decide (s.2.2 ≤ 65536)))
def oOrd (a b : Salt) : Bool := decide (a.1 < b.1)
theorem voffer1_c (s : Salt) : PC Tryz.prog 130 [.agg (SaltT.cells s)] (rB (vSalt s)) := by
 refine pc_of rfl rfl ?_
 refine runE mixed fi130 ?_ <;> try with_reducible exact True.intro
 repeat' (first
  | (refine callI_pure (keyLen_c _) ?_; refine run_sound mixed 600 _ ?_; simp (maxSteps := 3000000) only [go_sem, ↓zA, ↓reduceIte, ↓reduceDIte, reduceCtorEq, Nat.reduceAdd, Nat.reduceSub, Nat.reduceLeDiff, Nat.reduceLT, Nat.reduceEqDiff, Nat.reduceBEq, Nat.reduceMul, Int.reduceToNat, Int.reduceEq, Int.reduceLT, Int.reduceLE] <;> try simp only [zB])
  | (refine callR_pure (keyLen_c _) ?_; refine run_sound mixed 600 _ ?_; simp (maxSteps := 3000000) only [go_sem, ↓zA, ↓reduceIte, ↓reduceDIte, reduceCtorEq, Nat.reduceAdd, Nat.reduceSub, Nat.reduceLeDiff, Nat.reduceLT, Nat.reduceEqDiff, Nat.reduceBEq, Nat.reduceMul, Int.reduceToNat, Int.reduceEq, Int.reduceLT, Int.reduceLE] <;> try simp only [zB])
  | (refine callF_pure (keyLen_c _) ?_; refine run_sound mixed 600 _ ?_; simp (maxSteps := 3000000) only [go_sem, ↓zA, ↓reduceIte, ↓reduceDIte, reduceCtorEq, Nat.reduceAdd, Nat.reduceSub, Nat.reduceLeDiff, Nat.reduceLT, Nat.reduceEqDiff, Nat.reduceBEq, Nat.reduceMul, Int.reduceToNat, Int.reduceEq, Int.reduceLT, Int.reduceLE] <;> try simp only [zB])
  | (refine callI_pure (btw_c _ _ _) ?_; refine run_sound mixed 600 _ ?_; simp (maxSteps := 3000000) only [go_sem, ↓zA, ↓reduceIte, ↓reduceDIte, reduceCtorEq, Nat.reduceAdd, Nat.reduceSub, Nat.reduceLeDiff, Nat.reduceLT, Nat.reduceEqDiff, Nat.reduceBEq, Nat.reduceMul, Int.reduceToNat, Int.reduceEq, Int.reduceLT, Int.reduceLE] <;> try simp only [zB])
  | (refine callR_pure (btw_c _ _ _) ?_; refine run_sound mixed 600 _ ?_; simp (maxSteps := 3000000) only [go_sem, ↓zA, ↓reduceIte, ↓reduceDIte, reduceCtorEq, Nat.reduceAdd, Nat.reduceSub, Nat.reduceLeDiff, Nat.reduceLT, Nat.reduceEqDiff, Nat.reduceBEq, Nat.reduceMul, Int.reduceToNat, Int.reduceEq, Int.reduceLT, Int.reduceLE] <;> try simp only [zB])
  | (refine callF_pure (btw_c _ _ _) ?_; refine run_sound mixed 600 _ ?_; simp (maxSteps := 3000000) only [go_sem, ↓zA, ↓reduceIte, ↓reduceDIte, reduceCtorEq, Nat.reduceAdd, Nat.reduceSub, Nat.reduceLeDiff, Nat.reduceLT, Nat.reduceEqDiff, Nat.reduceBEq, Nat.reduceMul, Int.reduceToNat, Int.reduceEq, Int.reduceLT, Int.reduceLE] <;> try simp only [zB])
  | (with_reducible refine And.intro ?_ ?_)
  | (with_reducible intro _))
 all_goals (grind [vSalt])
theorem voffer2_c (a b : Salt) : PC Tryz.prog 132 [.agg (SaltT.cells a), .agg (SaltT.cells b)] (rB (oOrd a b)) := by
 refine pc_of rfl rfl ?_
 refine runE mixed fi132 ?_
 rfl
def vOffer (l : List Salt) : Bool := (decide ((l.length : Int) ≤ 4) && l.all vSalt) && ord (t := SaltT) oOrd l
theorem voffer_c (l : List Salt) (hl : l.length ≤ 1125899906842624) : PC Tryz.prog 70 [.isl SaltT l] (rB (vOffer l)) := by
 refine pc_of rfl rfl ?_
 refine runE mixed fi70 ?_
 refine callI_at ((every_salt _ _ _ _ vSalt _ hl (fun x _ G => (voffer1_c x).at _))) ?_
 refine goE mixed ?_
 refine ⟨fun h1 => ?_, fun h1 => ?_⟩
 rotate_left
 · first | (simp only [vOffer, h1, Bool.false_and, Bool.and_false]; done) | simp [vOffer, h1]
 refine callI_at (ordered_salt _ _ _ oOrd _ hl (fun x _ y _ G => (voffer2_c x y).at _)) ?_
 refine goE mixed ?_
 simp_all [vOffer]
theorem encodeOffer_c (l : List Salt) (ho : (Ty.slice SaltT).ok l) : PC Tryz.prog 32 [.isl SaltT l] (.tup [.isl .u8 (if vOffer l then offerS l else []), rI (if vOffer l then 0 else 2)]) := by
 refine pc_seal rfl rfl ?_
 refine runE mixed fi32 ?_
 refine callI_pure (voffer_c l ho.1) ?_
 refine goE mixed ?_
 refine ⟨fun h => ?_, fun h => ?_⟩
 · rw [h]; exact ⟨rfl, rfl⟩
 · have hl : l.length ≤ 1048576 := by simp [vOffer] at h; omega
   refine callI_pure (writeOffer_c l ho hl) ?_
   refine goE mixed ?_
   rw [h]; exact ⟨rfl, rfl⟩
end Go.Proofs.YtddmkgibghohkaaGreatDoor
/- Contracts: the encoding of entries. -/
namespace Go.Proofs.YtddmkgibghohkaaGreatDoor
open Go Go.Sx Go.Proofs
set_option maxRecDepth 100000
set_option maxHeartbeats 4000000
set_option linter.unusedSimpArgs false

def octS (b : List UInt8) : List UInt8 := elemS 4 [b]
def entS (e : Ent) : List UInt8 := tagS [prinE e.1, listS (t := PrinT) prinE e.2.1, bitsS e.2.2.1, numO e.2.2.2.1, listS (t := SetT) setS e.2.2.2.2.1, txtO e.2.2.2.2.2.1, timO e.2.2.2.2.2.2.1, timO e.2.2.2.2.2.2.2.1, numO e.2.2.2.2.2.2.2.2.1, numO e.2.2.2.2.2.2.2.2.2.1,
 numO e.2.2.2.2.2.2.2.2.2.2.1, timO e.2.2.2.2.2.2.2.2.2.2.2.1, timO e.2.2.2.2.2.2.2.2.2.2.2.2.1, listS (t := PrinT) prinE e.2.2.2.2.2.2.2.2.2.2.2.2.2.1, listS (t := PrinT) prinE e.2.2.2.2.2.2.2.2.2.2.2.2.2.2.1, listS (t := Ty.slice .u8) octS e.2.2.2.2.2.2.2.2.2.2.2.2.2.2.2]
theorem write_c (e : Ent) (ho : EntT.ok e) (hs : small47 e) (ha : 0 ≤ e.2.2.1 ∧ e.2.2.1 ≤ 4294967295) : PC Tryz.prog 85 [.agg (EntT.cells e)] (.isl .u8 (entS e)) := by
 obtain ⟨e1, e2, e3, e4, e5, e6, e7, e8, e9, e10, e11, e12, e13, e14, e15, e16⟩ := e
 obtain ⟨h1, ⟨h2, h2'⟩, ⟨h5, h5'⟩, ⟨h14, h14'⟩, ⟨h15, h15'⟩, ⟨h16, h16'⟩⟩ := hs
 dsimp only at *
 refine pc_seal rfl rfl ?_
 refine runE mixed fi85 ?_
 refine callR_pure (eprincipal_c e1 ho.1) ?_
 refine goE mixed ?_
 refine callR_pure (list_prin e2 _ prinE h2 (fun x hx => eprincipal_c x (ho.2.1.2 x hx))) ?_
 refine goE mixed ?_
 refine callR_pure (bits_c _ ha) ?_
 refine goE mixed ?_
 refine callR_pure (einteger_c _) ?_
 refine goE mixed ?_
 refine callR_pure (list_kset e5 _ setS h5 (fun x hx => writeSet_c x (ho.2.2.2.2.1.2 x hx) (h5' x hx).1)) ?_
 refine goE mixed ?_
 refine callR_pure (etext_c _ ho.2.2.2.2.2.1) ?_
 refine goE mixed ?_
 refine callR_pure (einstant_c _) ?_
 refine goE mixed ?_
 refine callR_pure (einstant_c _) ?_
 refine goE mixed ?_
 refine callR_pure (einteger_c _) ?_
 refine goE mixed ?_
 refine callR_pure (einteger_c _) ?_
 refine goE mixed ?_
 refine callR_pure (einteger_c _) ?_
 refine goE mixed ?_
 refine callR_pure (einstant_c _) ?_
 refine goE mixed ?_
 refine callR_pure (einstant_c _) ?_
 refine goE mixed ?_
 refine callR_pure (list_prin e14 _ prinE h14 (fun x hx => eprincipal_c x (ho.2.2.2.2.2.2.2.2.2.2.2.2.2.1.2 x hx))) ?_
 refine goE mixed ?_
 refine callR_pure (list_prin e15 _ prinE h15 (fun x hx => eprincipal_c x (ho.2.2.2.2.2.2.2.2.2.2.2.2.2.2.1.2 x hx))) ?_
 refine goE mixed ?_
 refine callR_pure (list_bytes e16 _ octS h16 (fun x _ => octets_c x)) ?_
 refine goE mixed ?_
 refine callR_move (etagged_c _ (by simp)) (by decide) rfl rfl ?_
 refine goE mixed ?_
 rfl
theorem vPrin_small {p : Prin} (h : vPrin p = true) : p.1.length ≤ 1048576 := by simp [vPrin] at h; omega
theorem vKeyS_small {v m : Int} {k : Key} (h : vKeyS v m k = true) : k.2.2.length ≤ 1048576 := by
 simp only [vKeyS, Bool.and_eq_true, decide_eq_true_eq] at h
 have h3 := h.2.2
 split at h3
 · have hk : keyLen k.1 ≤ 32 := by unfold keyLen; split <;> (try split) <;> omega
   simp only [vKey, Bool.and_eq_true, decide_eq_true_eq] at h3
   omega
 · simp only [Bool.and_eq_true, decide_eq_true_eq] at h3; omega
theorem vSet_small {s : KSet} {m : Int} (h : vSet s m = true) : s.2.1.length ≤ 1048576 ∧ ∀ k ∈ s.2.1, k.2.2.length ≤ 1048576 := by
 simp only [vSet, Bool.and_eq_true, decide_eq_true_eq, List.all_eq_true] at h
 exact ⟨by omega, fun k hk => vKeyS_small (h.2.2.1.2 k hk)⟩
theorem vEnt_small {e : Ent} (h : vEnt e = true) : small47 e := by
 simp only [vEnt, vNames, vKeys, vPrins, Bool.and_eq_true, decide_eq_true_eq, List.all_eq_true] at h
 obtain ⟨⟨n1, ⟨n2, n3⟩, _⟩, _, _, ⟨⟨k1, k2⟩, _⟩, _, _, _, _, ⟨⟨t1, t2⟩, _⟩, ⟨⟨d1, d2⟩, _⟩, h1, h2⟩ := h
 refine ⟨vPrin_small n1, ⟨by omega, fun p hp => ?_⟩, ⟨by omega, fun s hs => vSet_small (k2 s hs)⟩, ⟨by omega, fun p hp => vPrin_small (t2 p hp)⟩, ⟨by omega, fun p hp => vPrin_small (d2 p hp)⟩, ⟨by omega, fun b hb => ?_⟩⟩
 · have := n3 p hp
   simp only [vAlias, Bool.and_eq_true] at this
   exact vPrin_small this.1
 · have := h2 b hb
   simp only [lenB, decide_eq_true_eq] at this
   omega
theorem encode_c (e : Ent) (ho : EntT.ok e) (ha : 0 ≤ e.2.2.1 ∧ e.2.2.1 ≤ 4294967295) : PC Tryz.prog 37 [.agg (EntT.cells e)] (.tup [.isl .u8 (if vEnt e then entS e else []), rI (if vEnt e then 0 else 2)]) := by
 refine pc_seal rfl rfl ?_
 refine runE mixed fi37 ?_
 refine callI_pure (valid_k e ho) ?_
 refine goE mixed ?_
 refine ⟨fun h => ?_, fun h => ?_⟩
 · rw [h]; exact ⟨rfl, rfl⟩
 · refine callI_pure (write_c e ho (vEnt_small h) ha) ?_
   refine goE mixed ?_
   rw [h]; exact ⟨rfl, rfl⟩
end Go.Proofs.YtddmkgibghohkaaGreatDoor
/- Contracts: the keys of an entry. -/
namespace Go.Proofs.YtddmkgibghohkaaGreatDoor
open Go Go.Sx Go.Proofs
set_option maxRecDepth 100000
set_option maxHeartbeats 4000000
set_option linter.unusedSimpArgs false

abbrev keysOf (e : Ent) : List KSet := e.2.2.2.2.1
def setAt (l : List KSet) (j : Nat) : KSet := l.getD j SetT.dflt
def verAt (l : List KSet) (v : Int) (j : Nat) : Bool := decide ((l.getD j SetT.dflt).1 = v)
def posS (l : List KSet) (v : Int) : Int := match firstN l.length (verAt l v) with
 | some i => (i : Int)
 | none => -1
theorem indexFunc_c (l : List KSet) (g : Nat) (ca : List SV) (v : Int) (H : List SObj) (hl : l.length ≤ 1125899906842624) (hp : Fits Tryz.prog g ca (t := SetT) (fun x => .agg (SetT.cells x)) l (fun s => decide (s.1 = v)) H) :
 PCH Tryz.prog 121 [.isl SetT l, .fn g [] ca] (rI (posS l v)) H := by
 refine pch_drop rfl ?_
 have hp0 : ∀ x ∈ l, PCH Tryz.prog g (.agg (SetT.cells x) :: ca) (rB (decide (x.1 = v))) H := fun x hx => by have := hp x hx []; rwa [List.append_nil] at this
 refine runE mixed fi121 ?_
 refine si_cntD (fun i => [(8, .raw (.int .i64 ((i : Nat) : Int)))]) (l.length) (fun j => (fun j => !verAt l v j) j = true) (by first | decide | simp) (fun i => rfl) ?_ fun i hi hall => ?_
 · (with_reducible refine sxE ?_ <;> try exact True.intro)
   all_goals (try rfl)
 have hwr : IntKind.i64.wrap ((i : Int) + 1) = ((i + 1 : Nat) : Int) := wrap_succ (by omega)
 refine goE mixed ?_
 have bad : i < (l.length) → (fun j => !verAt l v j) i = false → allN (l.length) (fun j => !verAt l v j) = false := fun hlt hv => allN_false hlt hv
 have fin : ¬ i < (l.length) → allN (l.length) (fun j => !verAt l v j) = true := fun h => allN_true fun j hj => hall j (by omega)
 try dsimp only at bad fin hall
 have hall' : ∀ j, j < i → verAt l v j = false := fun j hj => by simpa using hall j hj
 refine ⟨fun hlt => ⟨⟨by omega, hlt⟩, callI_at (hp0 _ (getD_mem hlt)) ?_⟩, fun hge => ?_⟩
 · refine goE mixed ?_
   refine ⟨fun h => ?_, fun h => ?_⟩
   · unfold posS
     rw [firstN_some hlt (by simpa [verAt] using h) hall']
     exact ⟨rfl, [], by simp⟩
   · refine ⟨hlt, next_all hall' (by simpa [verAt] using h), ⟨[], by simp⟩, ?_⟩
     with_reducible refine sx1 hwr ?_; trivial
 · unfold posS
   rw [firstN_none (fun j hj => hall' j (by omega))]
   exact ⟨rfl, [], by simp⟩
theorem position1_c (s : KSet) (v : Int) (h : Nat) (T : TypeId) (H : List SObj) (hH : ∀ R, (H ++ R)[h]? = some (.cells T [rI v])) : PCH Tryz.prog 122 [.agg (SetT.cells s), .ptr h 0] (rB (decide (s.1 = v))) H := by
 refine pch_drop rfl ?_
 have hH0 := hH []
 rw [List.append_nil] at hH0
 refine vc_fi fi122 (run_sound mixed 600 _ ?_)
 simp (maxSteps := 3000000) only [ir122, hH, hH0, go_sem, ↓zA, ↓reduceIte, ↓reduceDIte, reduceCtorEq, Nat.reduceAdd, Nat.reduceSub, Nat.reduceLeDiff, Nat.reduceLT, Nat.reduceEqDiff, Nat.reduceBEq, Nat.reduceMul, Int.reduceToNat, Int.reduceEq, Int.reduceLT, Int.reduceLE] <;> try simp only [zB]
 exact ⟨rfl, _, rfl⟩
theorem position_c (e : Ent) (v : Int) (hl : (keysOf e).length ≤ 1125899906842624) : PC Tryz.prog 49 [.agg (EntT.cells e), rI v] (rI (posS (keysOf e) v)) := by
 refine pc_of rfl rfl ?_
 refine runE mixed fi49 ?_
 refine callI_at (indexFunc_c _ _ _ v _ hl (fun x _ G => position1_c x v 1 3 _ (fun R => rfl))) ?_
 refine goE mixed ?_; trivial
def proAt (l : List Key) (p : Int) (j : Nat) : Bool := decide (p = 0) || decide ((l.getD j KeyT.dflt).1 = p)
def findK (l : List Key) (p : Int) : Key × Int := match firstN l.length (proAt l p) with
 | some j => (l.getD j KeyT.dflt, 0)
 | none => (KeyT.dflt, 9)
def idxS (l : List KSet) (v : Int) : Option Nat := if v = 0 then (if l.length = 0 then none else some 0) else firstN l.length (verAt l v)
def findS (e : Ent) (v p : Int) : Key × Int := if vEnt e = false ∨ v < 0 ∨ p < 0 then (KeyT.dflt, 2) else match idxS (keysOf e) v with
 | none => (KeyT.dflt, 9)
 | some i => findK (setAt (keysOf e) i).2.1 p
theorem efind_c (e : Ent) (v p : Int) (ho : EntT.ok e) : PC Tryz.prog 19 [.agg (EntT.cells e), rI v, rI p] (.tup [.agg (KeyT.cells (findS e v p).1), rI (findS e v p).2]) := by
 have hkl : (keysOf e).length ≤ 1125899906842624 := ho.2.2.2.2.1.1
 have hpos := position_c e v hkl
 generalize hS : findS e v p = S at *
 refine pc_seal rfl rfl ?_
 refine runE mixed fi19 ?_
 refine callI_pure (valid_k e ho) ?_
 refine goE mixed ?_
 refine ⟨fun hv => ⟨fun hv0 => ⟨fun hp0 => ?_, fun hp0 => ⟨fun hvz => ?_, fun hvz => ?_⟩⟩, fun hv0 => ?_⟩, fun hv => ?_⟩
 · rw [← hS]; unfold findS; rw [if_pos (.inr (.inr hp0))]; exact ⟨⟨rfl, rfl, rfl⟩, rfl⟩
 · refine callI_pure hpos ?_
   cases hf : firstN (keysOf e).length (verAt (keysOf e) v) with
   | none =>
    have hps : posS (keysOf e) v = -1 := by unfold posS; rw [hf]
    rw [hps]
    refine goE mixed ?_
    rw [← hS]; unfold findS; rw [if_neg (by rintro (h | h | h) <;> simp_all)]
    unfold idxS; rw [if_neg hvz, hf]
    exact ⟨⟨rfl, rfl, rfl⟩, rfl⟩
   | some i0 =>
   have hps : posS (keysOf e) v = (i0 : Int) := by unfold posS; rw [hf]
   have hidx : idxS (keysOf e) v = some i0 := by unfold idxS; rw [if_neg hvz, hf]
   have hilt : i0 < e.2.2.2.2.1.length := (firstN_spec hf).1
   rw [hps]
   have hn0 : ¬ ((i0 : Int) < 0) := by omega
   refine run_sound mixed 600 _ ?_
   with_reducible refine sx1 hn0 ?_
   refine ⟨fun h => absurd h (by omega), fun _ => ⟨⟨by omega, hilt⟩, ?_⟩⟩
   have hL : ∀ x ∈ (List.getD e.2.2.2.2.1 i0 SetT.dflt).2.1, x.2.2.length ≤ 140737488355328 := fun x hx => by
    have h1 := (vEnt_small hv).2.2.1.2 _ (getD_mem (d := SetT.dflt) hilt)
    have := h1.2 x hx
    omega
   have hLl : (List.getD e.2.2.2.2.1 i0 SetT.dflt).2.1.length ≤ 1048576 := ((vEnt_small hv).2.2.1.2 _ (getD_mem (d := SetT.dflt) hilt)).1
   have hF : findS e v p = findK (List.getD e.2.2.2.2.1 i0 SetT.dflt).2.1 p := by
    unfold findS
    rw [if_neg (by rintro (h | h | h) <;> simp_all), hidx]
    rfl
   refine si_cntD (fun i => [(44, .raw (.int .i64 ((i : Nat) : Int)))]) ((List.getD e.2.2.2.2.1 i0 SetT.dflt).2.1.length) (fun j => (fun j => !proAt (List.getD e.2.2.2.2.1 i0 SetT.dflt).2.1 p j) j = true) (by first | decide | simp) (fun i => rfl) ?_ fun i hi hall => ?_
   · (with_reducible refine sxE ?_ <;> try exact True.intro)
     all_goals (try rfl)
   have hwr : IntKind.i64.wrap ((i : Int) + 1) = ((i + 1 : Nat) : Int) := wrap_succ (by omega)
   refine goE mixed ?_
   have bad : i < ((List.getD e.2.2.2.2.1 i0 SetT.dflt).2.1.length) → (fun j => !proAt (List.getD e.2.2.2.2.1 i0 SetT.dflt).2.1 p j) i = false → allN ((List.getD e.2.2.2.2.1 i0 SetT.dflt).2.1.length) (fun j => !proAt (List.getD e.2.2.2.2.1 i0 SetT.dflt).2.1 p j) = false := fun hlt hv => allN_false hlt hv
   have fin : ¬ i < ((List.getD e.2.2.2.2.1 i0 SetT.dflt).2.1.length) → allN ((List.getD e.2.2.2.2.1 i0 SetT.dflt).2.1.length) (fun j => !proAt (List.getD e.2.2.2.2.1 i0 SetT.dflt).2.1 p j) = true := fun h => allN_true fun j hj => hall j (by omega)
   try dsimp only at bad fin hall
   have hall' : ∀ j, j < i → proAt (List.getD e.2.2.2.2.1 i0 SetT.dflt).2.1 p j = false := fun j hj => by simpa using hall j hj
   have hfound : i < (List.getD e.2.2.2.2.1 i0 SetT.dflt).2.1.length → proAt (List.getD e.2.2.2.2.1 i0 SetT.dflt).2.1 p i = true → S = ((List.getD e.2.2.2.2.1 i0 SetT.dflt).2.1.getD i KeyT.dflt, 0) := fun hlt h => by
    rw [← hS, hF]; unfold findK; rw [firstN_some hlt h hall']
   refine ⟨fun hlt => ⟨⟨by omega, hlt⟩, fun hpz => ⟨fun hpe => ?_, fun hpe => ?_⟩, fun hpz => ?_⟩, fun hge => ?_⟩
   · refine callI_pure (cbytes_c _ (hL _ (getD_mem hlt))) ?_
     refine goE mixed ?_
     rw [hfound hlt (by simp only [proAt, Bool.or_eq_true, decide_eq_true_eq]; exact .inr hpe)]
     exact ⟨⟨rfl, rfl, rfl⟩, rfl⟩
   · refine ⟨hlt, next_all hall' (by simp only [proAt, Bool.or_eq_false_iff, decide_eq_false_iff_not]; exact ⟨hpz, hpe⟩), ⟨[_], rfl⟩, ?_⟩
     with_reducible refine sx1 hwr ?_; trivial
   · refine callI_pure (cbytes_c _ (hL _ (getD_mem hlt))) ?_
     refine goE mixed ?_
     rw [hfound hlt (by simp only [proAt, Bool.or_eq_true, decide_eq_true_eq]; exact .inl hpz)]
     exact ⟨⟨rfl, rfl, rfl⟩, rfl⟩
   · rw [← hS, hF]; unfold findK; rw [firstN_none (fun j hj => hall' j (by omega))]
     exact ⟨⟨rfl, rfl, rfl⟩, rfl⟩
 · refine ⟨fun h0 => ?_, fun h0 => ?_⟩
   · rw [← hS]; unfold findS; rw [if_neg (by rintro (h | h | h) <;> simp_all)]
     unfold idxS; rw [if_pos hvz, if_pos (by show List.length e.2.2.2.2.1 = 0; omega)]
     exact ⟨⟨rfl, rfl, rfl⟩, rfl⟩
   have hilt : 0 < e.2.2.2.2.1.length := by omega
   have hidx : idxS (keysOf e) v = some 0 := by unfold idxS; rw [if_pos hvz, if_neg (by show ¬ List.length e.2.2.2.2.1 = 0; omega)]
   refine ⟨hilt, ?_⟩
   have hL : ∀ x ∈ (List.getD e.2.2.2.2.1 0 SetT.dflt).2.1, x.2.2.length ≤ 140737488355328 := fun x hx => by
    have h1 := (vEnt_small hv).2.2.1.2 _ (getD_mem (d := SetT.dflt) hilt)
    have := h1.2 x hx
    omega
   have hLl : (List.getD e.2.2.2.2.1 0 SetT.dflt).2.1.length ≤ 1048576 := ((vEnt_small hv).2.2.1.2 _ (getD_mem (d := SetT.dflt) hilt)).1
   have hF : findS e v p = findK (List.getD e.2.2.2.2.1 0 SetT.dflt).2.1 p := by
    unfold findS
    rw [if_neg (by rintro (h | h | h) <;> simp_all), hidx]
    rfl
   refine si_cntD (fun i => [(44, .raw (.int .i64 ((i : Nat) : Int)))]) ((List.getD e.2.2.2.2.1 0 SetT.dflt).2.1.length) (fun j => (fun j => !proAt (List.getD e.2.2.2.2.1 0 SetT.dflt).2.1 p j) j = true) (by first | decide | simp) (fun i => rfl) ?_ fun i hi hall => ?_
   · (with_reducible refine sxE ?_ <;> try exact True.intro)
     all_goals (try rfl)
   have hwr : IntKind.i64.wrap ((i : Int) + 1) = ((i + 1 : Nat) : Int) := wrap_succ (by omega)
   refine goE mixed ?_
   have bad : i < ((List.getD e.2.2.2.2.1 0 SetT.dflt).2.1.length) → (fun j => !proAt (List.getD e.2.2.2.2.1 0 SetT.dflt).2.1 p j) i = false → allN ((List.getD e.2.2.2.2.1 0 SetT.dflt).2.1.length) (fun j => !proAt (List.getD e.2.2.2.2.1 0 SetT.dflt).2.1 p j) = false := fun hlt hv => allN_false hlt hv
   have fin : ¬ i < ((List.getD e.2.2.2.2.1 0 SetT.dflt).2.1.length) → allN ((List.getD e.2.2.2.2.1 0 SetT.dflt).2.1.length) (fun j => !proAt (List.getD e.2.2.2.2.1 0 SetT.dflt).2.1 p j) = true := fun h => allN_true fun j hj => hall j (by omega)
   try dsimp only at bad fin hall
   have hall' : ∀ j, j < i → proAt (List.getD e.2.2.2.2.1 0 SetT.dflt).2.1 p j = false := fun j hj => by simpa using hall j hj
   have hfound : i < (List.getD e.2.2.2.2.1 0 SetT.dflt).2.1.length → proAt (List.getD e.2.2.2.2.1 0 SetT.dflt).2.1 p i = true → S = ((List.getD e.2.2.2.2.1 0 SetT.dflt).2.1.getD i KeyT.dflt, 0) := fun hlt h => by
    rw [← hS, hF]; unfold findK; rw [firstN_some hlt h hall']
   refine ⟨fun hlt => ⟨⟨by omega, hlt⟩, fun hpz => ⟨fun hpe => ?_, fun hpe => ?_⟩, fun hpz => ?_⟩, fun hge => ?_⟩
   · refine callI_pure (cbytes_c _ (hL _ (getD_mem hlt))) ?_
     refine goE mixed ?_
     rw [hfound hlt (by simp only [proAt, Bool.or_eq_true, decide_eq_true_eq]; exact .inr hpe)]
     exact ⟨⟨rfl, rfl, rfl⟩, rfl⟩
   · refine ⟨hlt, next_all hall' (by simp only [proAt, Bool.or_eq_false_iff, decide_eq_false_iff_not]; exact ⟨hpz, hpe⟩), ⟨[_], rfl⟩, ?_⟩
     with_reducible refine sx1 hwr ?_; trivial
   · refine callI_pure (cbytes_c _ (hL _ (getD_mem hlt))) ?_
     refine goE mixed ?_
     rw [hfound hlt (by simp only [proAt, Bool.or_eq_true, decide_eq_true_eq]; exact .inl hpz)]
     exact ⟨⟨rfl, rfl, rfl⟩, rfl⟩
   · rw [← hS, hF]; unfold findK; rw [firstN_none (fun j hj => hall' j (by omega))]
     exact ⟨⟨rfl, rfl, rfl⟩, rfl⟩
 · rw [← hS]; unfold findS; rw [if_pos (.inr (.inl hv0))]; exact ⟨⟨rfl, rfl, rfl⟩, rfl⟩
 · rw [← hS]; unfold findS; rw [if_pos (.inl hv)]; exact ⟨⟨rfl, rfl, rfl⟩, rfl⟩
def curS (e : Ent) : KSet × Int := if vEnt e = false then (SetT.dflt, 2) else if (keysOf e).length = 0 then (SetT.dflt, 9) else (setAt (keysOf e) 0, 0)
theorem current_c (e : Ent) (ho : EntT.ok e) : PC Tryz.prog 23 [.agg (EntT.cells e)] (.tup [.agg (SetT.cells (curS e).1), rI (curS e).2]) := by
 generalize hS : curS e = S at *
 refine pc_seal rfl rfl ?_
 refine runE mixed fi23 ?_
 refine callI_pure (valid_k e ho) ?_
 refine goE mixed ?_
 refine ⟨fun hv => ?_, fun hv => ⟨fun h0 => ?_, fun h0 => ?_⟩⟩
 · rw [← hS]; unfold curS; rw [if_pos hv]; exact ⟨⟨rfl, rfl, rfl, rfl, rfl⟩, rfl⟩
 · rw [← hS]; unfold curS; rw [if_neg (by simp [hv]), if_pos (by show List.length e.2.2.2.2.1 = 0; omega)]; exact ⟨⟨rfl, rfl, rfl, rfl, rfl⟩, rfl⟩
 · have hilt : 0 < e.2.2.2.2.1.length := by omega
   have h1 := (vEnt_small hv).2.2.1.2 _ (getD_mem (d := SetT.dflt) hilt)
   refine ⟨hilt, callI_pure (copySet_c _ (ho.2.2.2.2.1.2 _ (getD_mem hilt)) (by omega) (fun k hk => by have := h1.2 k hk; omega)) ?_⟩
   refine goE mixed ?_
   rw [← hS]; unfold curS; rw [if_neg (by simp [hv]), if_neg (by show ¬ List.length e.2.2.2.2.1 = 0; omega)]; exact ⟨⟨rfl, rfl, rfl, rfl, rfl⟩, rfl⟩
def offN (s : KSet) (i : Nat) : List Salt := (s.2.1.take i).map fun k => (k.1, s.2.2.1, s.2.2.2.1)
theorem offN_succ {s : KSet} {i : Nat} (h : i < s.2.1.length) : offN s (i + 1) = offN s i ++ [((s.2.1.getD i KeyT.dflt).1, s.2.2.1, s.2.2.2.1)] := by unfold offN; rw [take_succ_getD (d := KeyT.dflt) h]; simp
theorem offN_len {s : KSet} {i : Nat} (h : i ≤ s.2.1.length) : (offN s i).length = i := by simp [offN]; omega
def ofS (e : Ent) : List Salt × Int := if vEnt e = false then ([], 2) else if (keysOf e).length = 0 then ([], 0) else (offN (setAt (keysOf e) 0) (setAt (keysOf e) 0).2.1.length, 0)
theorem offer_c (e : Ent) (ho : EntT.ok e) : PC Tryz.prog 21 [.agg (EntT.cells e)] (.tup [.isl SaltT (ofS e).1, rI (ofS e).2]) := by
 generalize hS : ofS e = S at *
 refine pc_seal rfl rfl ?_
 refine runE mixed fi21 ?_
 refine callI_pure (valid_k e ho) ?_
 refine goE mixed ?_
 refine ⟨fun hv => ?_, fun hv => ⟨fun h0 => ?_, fun h0 => ?_⟩⟩
 · rw [← hS]; unfold ofS; rw [if_pos hv]; exact ⟨rfl, rfl⟩
 · have hilt : 0 < e.2.2.2.2.1.length := by omega
   have h1 := (vEnt_small hv).2.2.1.2 _ (getD_mem (d := SetT.dflt) hilt)
   have hstr : (List.getD e.2.2.2.2.1 0 SetT.dflt).2.2.1.size ≤ 140737488355328 := (ho.2.2.2.2.1.2 _ (getD_mem (d := SetT.dflt) hilt)).2.2.1
   refine ⟨hilt, ?_⟩
   have hS' : ofS e = (offN (List.getD e.2.2.2.2.1 0 SetT.dflt) (List.getD e.2.2.2.2.1 0 SetT.dflt).2.1.length, 0) := by unfold ofS; rw [if_neg (by simp [hv]), if_neg (by show ¬ List.length e.2.2.2.2.1 = 0; omega)]; rfl
   rw [hS] at hS'
   generalize List.getD e.2.2.2.2.1 0 SetT.dflt = s0 at *
   refine si_accN 4 SaltT (offN s0) (fun i => [(22, rI i)]) s0.2.1.length (fun _ => True) rfl (by simp) (by simp [offN]) rfl (fun i => rfl) ?_ fun i hi _ => ?_
   · with_reducible refine sxE ?_; trivial
   have hwr : IntKind.i64.wrap ((i : Int) + 1) = ((i + 1 : Nat) : Int) := wrap_succ (by omega)
   have hln := offN_len hi
   refine goE mixed ?_
   refine ⟨fun hlt => ?_, fun hge => ?_⟩
   · have hst := offN_succ hlt
     refine ⟨⟨by omega, hlt⟩, hstr, ⟨by omega, by omega⟩, acc_next [_, _, _] [] hlt trivial (by rw [hst]; rfl) ?_⟩
     with_reducible refine sx3 hwr hst ?_; trivial
   · obtain rfl : i = List.length s0.2.1 := by omega
     rw [hS']
     refine ⟨⟨Nat.le_refl _, by omega⟩, List.take_of_length_le (Nat.le_refl _), rfl⟩
 · rw [← hS]; unfold ofS; rw [if_neg (by simp [hv]), if_pos (by show List.length e.2.2.2.2.1 = 0; omega)]; exact ⟨rfl, rfl⟩
end Go.Proofs.YtddmkgibghohkaaGreatDoor
/- Contracts: Add, Without. -/
namespace Go.Proofs.YtddmkgibghohkaaGreatDoor
open Go Go.Sx Go.Proofs
set_option maxRecDepth 100000
set_option maxHeartbeats 4000000
set_option linter.unusedSimpArgs false

def withKeys (e : Ent) (l : List KSet) : Ent := (e.1, e.2.1, e.2.2.1, e.2.2.2.1, l, e.2.2.2.2.2)
def busyB (e : Ent) (s : KSet) : Bool := decide (0 < ((keysOf e).length : Int)) && decide (s.1 ≤ (setAt (keysOf e) 0).1)
def lateB (e : Ent) (s : KSet) : Bool := decide (0 < ((keysOf e).length : Int)) && decide (s.2.2.2.2 < (setAt (keysOf e) 0).2.2.2.2)
def addS (e : Ent) (s : KSet) : Ent × Int :=
 if vEnt e = false then (EntT.dflt, 2) else if busyB e s = true then (EntT.dflt, 11) else if lateB e s = true ∨ vSet s e.2.2.2.1 = false then (EntT.dflt, 2)
 else if 16 ≤ ((keysOf e).length : Int) then (EntT.dflt, 7) else (withKeys e (s :: keysOf e), 0)
theorem eadd_c (e : Ent) (s : KSet) (ho : EntT.ok e) (hs : SetT.ok s) : PC Tryz.prog 13 [.agg (EntT.cells e), .agg (SetT.cells s)] (.tup [.agg (EntT.cells (addS e s).1), rI (addS e s).2]) := by
 generalize hS : addS e s = S at *
 refine pc_seal rfl rfl ?_
 have hcopy : vEnt e = true → PC Tryz.prog 27 [.agg (EntT.cells e)] (.agg (EntT.cells e)) := fun hv => copy_c e ho (vEnt_small hv)
 have hcset : vSet s e.2.2.2.1 = true → PC Tryz.prog 47 [.agg (SetT.cells s)] (.agg (SetT.cells s)) := fun h => copySet_c s hs (by have := (vSet_small h).1; omega) (fun k hk => by have := (vSet_small h).2 k hk; omega)
 have hstr : s.2.2.1.size ≤ 140737488355328 := hs.2.2.1
 by_cases hk : (0 : Int) < (List.length e.2.2.2.2.1 : Int)
 · have hilt : 0 < e.2.2.2.2.1.length := by omega
   refine runE mixed fi13 ?_
   refine callI_pure (valid_k e ho) ?_
   refine run_sound mixed 600 _ ?_
   simp (maxSteps := 3000000) only [hk, hilt, go_sem, ↓zA, ↓reduceIte, ↓reduceDIte, reduceCtorEq, Nat.reduceAdd, Nat.reduceSub, Nat.reduceLeDiff, Nat.reduceLT, Nat.reduceEqDiff, Nat.reduceBEq, Nat.reduceMul, Int.reduceToNat, Int.reduceEq, Int.reduceLT, Int.reduceLE] <;> try simp only [zB]
   refine ⟨fun hv => ?_, fun hv => ⟨fun hb => ?_, fun hb => ⟨fun hl => callR_pure (vset_k s _ hs) ?_, fun hl => ?_⟩⟩⟩
   · have hA : addS e s = (EntT.dflt, 2) := by unfold addS; rw [if_pos hv]
     rw [← hS, hA]; exact ⟨⟨rfl, rfl, rfl, rfl, rfl, rfl, rfl, rfl, rfl, rfl, rfl, rfl, rfl, rfl, rfl, rfl, rfl⟩, rfl⟩
   · have hA : addS e s = (EntT.dflt, 11) := by unfold addS; rw [if_neg (by simp [hv]), if_pos (by unfold busyB; rw [Bool.and_eq_true]; exact ⟨decide_eq_true hk, decide_eq_true hb⟩)]
     rw [← hS, hA]; exact ⟨⟨rfl, rfl, rfl, rfl, rfl, rfl, rfl, rfl, rfl, rfl, rfl, rfl, rfl, rfl, rfl, rfl, rfl⟩, rfl⟩
   · have hbf : ¬ busyB e s = true := by unfold busyB; rw [Bool.and_eq_true]; exact fun h => hb (of_decide_eq_true h.2)
     have hlf : ¬ lateB e s = true := by unfold lateB; rw [Bool.and_eq_true]; exact fun h => hl (of_decide_eq_true h.2)
     refine goE mixed ?_
     refine ⟨fun hvs => ?_, fun hvs => ⟨fun h16 => ?_, fun h16 => callI_pure (hcopy hv) ?_⟩⟩
     · have hA : addS e s = (EntT.dflt, 2) := by unfold addS; rw [if_neg (by simp [hv]), if_neg hbf, if_pos (.inr hvs)]
       rw [← hS, hA]; exact ⟨⟨rfl, rfl, rfl, rfl, rfl, rfl, rfl, rfl, rfl, rfl, rfl, rfl, rfl, rfl, rfl, rfl, rfl⟩, rfl⟩
     · have hA : addS e s = (EntT.dflt, 7) := by unfold addS; rw [if_neg (by simp [hv]), if_neg hbf, if_neg (by rintro (h | h); exact hlf h; rw [hvs] at h; cases h), if_pos h16]
       rw [← hS, hA]; exact ⟨⟨rfl, rfl, rfl, rfl, rfl, rfl, rfl, rfl, rfl, rfl, rfl, rfl, rfl, rfl, rfl, rfl, rfl⟩, rfl⟩
     · have hA : addS e s = (withKeys e (s :: keysOf e), 0) := by unfold addS; rw [if_neg (by simp [hv]), if_neg hbf, if_neg (by rintro (h | h); exact hlf h; rw [hvs] at h; cases h), if_neg h16]
       refine goE mixed ?_
       refine callR_pure (hcset hvs) ?_
       refine goE mixed ?_
       refine ⟨hstr, ⟨by omega, by omega⟩, ⟨by omega, by omega⟩, ?_⟩
       rw [List.take_of_length_le (by simp; omega), ← hS, hA]; exact ⟨⟨rfl, rfl, rfl, rfl, rfl, rfl, rfl, rfl, rfl, rfl, rfl, rfl, rfl, rfl, rfl, rfl, rfl⟩, rfl⟩
   · have hbf : ¬ busyB e s = true := by unfold busyB; rw [Bool.and_eq_true]; exact fun h => hb (of_decide_eq_true h.2)
     have hA : addS e s = (EntT.dflt, 2) := by unfold addS; rw [if_neg (by simp [hv]), if_neg hbf, if_pos (.inl (by unfold lateB; rw [Bool.and_eq_true]; exact ⟨decide_eq_true hk, decide_eq_true hl⟩))]
     rw [← hS, hA]; exact ⟨⟨rfl, rfl, rfl, rfl, rfl, rfl, rfl, rfl, rfl, rfl, rfl, rfl, rfl, rfl, rfl, rfl, rfl⟩, rfl⟩
 · refine runE mixed fi13 ?_
   refine callI_pure (valid_k e ho) ?_
   refine run_sound mixed 600 _ ?_
   with_reducible refine sx1 hk ?_
   have hbf : ¬ busyB e s = true := by unfold busyB; rw [Bool.and_eq_true]; exact fun h => hk (of_decide_eq_true h.1)
   have hlf : ¬ lateB e s = true := by unfold lateB; rw [Bool.and_eq_true]; exact fun h => hk (of_decide_eq_true h.1)
   refine ⟨fun hv => ?_, fun hv => callR_pure (vset_k s _ hs) ?_⟩
   · have hA : addS e s = (EntT.dflt, 2) := by unfold addS; rw [if_pos hv]
     rw [← hS, hA]; exact ⟨⟨rfl, rfl, rfl, rfl, rfl, rfl, rfl, rfl, rfl, rfl, rfl, rfl, rfl, rfl, rfl, rfl, rfl⟩, rfl⟩
   · refine goE mixed ?_
     refine ⟨fun hvs => ?_, fun hvs => ⟨fun h16 => absurd h16 (by omega), fun h16 => callI_pure (hcopy hv) ?_⟩⟩
     · have hA : addS e s = (EntT.dflt, 2) := by unfold addS; rw [if_neg (by simp [hv]), if_neg hbf, if_pos (.inr hvs)]
       rw [← hS, hA]; exact ⟨⟨rfl, rfl, rfl, rfl, rfl, rfl, rfl, rfl, rfl, rfl, rfl, rfl, rfl, rfl, rfl, rfl, rfl⟩, rfl⟩
     · have hA : addS e s = (withKeys e (s :: keysOf e), 0) := by unfold addS; rw [if_neg (by simp [hv]), if_neg hbf, if_neg (by rintro (h | h); exact hlf h; rw [hvs] at h; cases h), if_neg h16]
       refine goE mixed ?_
       refine callR_pure (hcset hvs) ?_
       refine goE mixed ?_
       refine ⟨hstr, ⟨by omega, by omega⟩, ⟨by omega, by omega⟩, ?_⟩
       rw [List.take_of_length_le (by simp; omega), ← hS, hA]; exact ⟨⟨rfl, rfl, rfl, rfl, rfl, rfl, rfl, rfl, rfl, rfl, rfl, rfl, rfl, rfl, rfl, rfl, rfl⟩, rfl⟩
def woS (e : Ent) (v : Int) : Ent × Int := if vEnt e = false then (EntT.dflt, 2) else match firstN (keysOf e).length (verAt (keysOf e) v) with
 | none => (EntT.dflt, 9)
 | some i => (withKeys e ((keysOf e).take i ++ (keysOf e).drop (i + 1)), 0)
theorem ewithout_c (e : Ent) (v : Int) (ho : EntT.ok e) : PC Tryz.prog 15 [.agg (EntT.cells e), rI v] (.tup [.agg (EntT.cells (woS e v).1), rI (woS e v).2]) := by
 have hkl : (keysOf e).length ≤ 1125899906842624 := ho.2.2.2.2.1.1
 generalize hS : woS e v = S at *
 refine pc_seal rfl rfl ?_
 refine runE mixed fi15 ?_
 refine callI_pure (valid_k e ho) ?_
 refine goE mixed ?_
 refine ⟨fun hv => ?_, fun hv => callI_pure (position_c e v hkl) ?_⟩
 · have hA : woS e v = (EntT.dflt, 2) := by unfold woS; rw [if_pos hv]
   rw [← hS, hA]; exact ⟨⟨rfl, rfl, rfl, rfl, rfl, rfl, rfl, rfl, rfl, rfl, rfl, rfl, rfl, rfl, rfl, rfl, rfl⟩, rfl⟩
 cases hf : firstN (keysOf e).length (verAt (keysOf e) v) with
 | none =>
  have hps : posS (keysOf e) v = -1 := by unfold posS; rw [hf]
  have hA : woS e v = (EntT.dflt, 9) := by unfold woS; rw [if_neg (by simp [hv]), hf]
  rw [hps]
  refine goE mixed ?_
  rw [← hS, hA]; exact ⟨⟨rfl, rfl, rfl, rfl, rfl, rfl, rfl, rfl, rfl, rfl, rfl, rfl, rfl, rfl, rfl, rfl, rfl⟩, rfl⟩
 | some i =>
  have hps : posS (keysOf e) v = (i : Int) := by unfold posS; rw [hf]
  have hA : woS e v = (withKeys e ((keysOf e).take i ++ (keysOf e).drop (i + 1)), 0) := by unfold woS; rw [if_neg (by simp [hv]), hf]
  have hilt : i < List.length e.2.2.2.2.1 := (firstN_spec hf).1
  have hn0 : ¬ ((i : Int) < 0) := by omega
  have hsm := (vEnt_small hv).2.2.1.1
  have hwr : IntKind.i64.wrap ((i : Int) + 1) = ((i + 1 : Nat) : Int) := wrap_succ (by omega)
  rw [hps]
  refine run_sound mixed 600 _ ?_
  with_reducible refine sx1 hn0 ?_
  refine callI_pure (copy_c e ho (vEnt_small hv)) ?_
  refine run_sound mixed 600 _ ?_
  with_reducible refine sx1 hwr ?_
  rw [List.take_of_length_le (Nat.le_refl (List.length e.2.2.2.2.1))]
  refine ⟨⟨by omega, by omega, by omega⟩, ⟨by omega, by omega, by omega⟩, ⟨by simp only [List.length_take, List.length_drop]; omega, by simp only [List.length_take, List.length_drop]; omega⟩, ?_⟩
  rw [← hS, hA]; exact ⟨⟨rfl, rfl, rfl, rfl, rfl, rfl, rfl, rfl, rfl, rfl, rfl, rfl, rfl, rfl, rfl, rfl, rfl⟩, rfl⟩
end Go.Proofs.YtddmkgibghohkaaGreatDoor
/- Contracts: the reference on keys and principals. -/
namespace Go.Proofs.YtddmkgibghohkaaGreatDoor
open Go Go.Sx Go.Proofs
set_option maxRecDepth 100000
set_option maxHeartbeats 4000000
set_option linter.unusedSimpArgs false

def inR (v lo hi : Int) : Bool := decide (lo ≤ v) && decide (v ≤ hi)
theorem strOf_inj {xs ys : List UInt8} : strOf xs = strOf ys ↔ xs = ys := by
 constructor
 · intro h
   have := congrArg (fun s : ByteArray => s.data.toList) h
   simpa [strOf] using this
 · rintro rfl; rfl
theorem rsk_c (a b : Key) : PC Tryz.prog 57 [.agg (KeyT.cells a), .agg (KeyT.cells b)] (rB (decide (a = b))) := by
 obtain ⟨p, v, l⟩ := a
 obtain ⟨p', v', l'⟩ := b
 refine pc_of rfl rfl ?_
 refine runE mixed fi57 ?_ <;> try with_reducible exact True.intro
 repeat' (first
  | (with_reducible refine And.intro ?_ ?_)
  | (with_reducible intro _))
 all_goals (simp_all [strOf_inj])

def eqAt {α : Type} [DecidableEq α] (l l' : List α) (d : α) (j : Nat) : Bool := decide (l.getD j d = l'.getD j d)
theorem sameN {α : Type} [DecidableEq α] (l l' : List α) (d : α) : (l = l') ↔ (l.length = l'.length ∧ allN l.length (eqAt l l' d) = true) := by
 constructor
 · rintro rfl
   exact ⟨rfl, allN_true fun j _ => by simp [eqAt]⟩
 · rintro ⟨h1, h2⟩
   apply List.ext_getElem h1
   intro j g1 g2
   have := allN_iff.1 h2 j g1
   simp only [eqAt, decide_eq_true_eq, List.getD_eq_getElem?_getD, List.getElem?_eq_getElem g1, List.getElem?_eq_getElem g2, Option.getD_some] at this
   exact this
theorem rsp_c (a b : Prin) (ha : PrinT.ok a) : PC Tryz.prog 50 [.agg (PrinT.cells a), .agg (PrinT.cells b)] (rB (decide (a = b))) := by
 obtain ⟨l, r⟩ := a
 obtain ⟨l', r'⟩ := b
 have hl : l.length ≤ 1125899906842624 := ha.1.1
 refine pc_of rfl rfl ?_
 refine runE mixed fi50 ?_ <;> try with_reducible exact True.intro
 repeat' (first
  | (with_reducible refine And.intro ?_ ?_)
  | (with_reducible intro _))
 all_goals (skip)
 · grind
 · refine si_cntD (fun i => [(5, .raw (.int .i64 ((i : Nat) : Int)))]) (l.length) (fun j => (eqAt l l' ByteArray.empty) j = true) (by first | decide | simp) (fun i => rfl) ?_ fun i hi hall => ?_
   · (with_reducible refine sxE ?_ <;> try exact True.intro)
     all_goals (try rfl)
   have hwr : IntKind.i64.wrap ((i : Int) + 1) = ((i + 1 : Nat) : Int) := wrap_succ (by omega)
   refine goE mixed ?_
   have bad : i < (l.length) → (eqAt l l' ByteArray.empty) i = false → allN (l.length) (eqAt l l' ByteArray.empty) = false := fun hlt hv => allN_false hlt hv
   have fin : ¬ i < (l.length) → allN (l.length) (eqAt l l' ByteArray.empty) = true := fun h => allN_true fun j hj => hall j (by omega)
   try dsimp only at bad fin hall
   have key := sameN l l' ByteArray.empty
   repeat' (first
    | (with_reducible refine And.intro ?_ ?_)
    | (with_reducible intro _))
   all_goals (first | (with_reducible (refine (id ?_ : SoundI _ _ _))) | ((try simp only [Ty.dflt] at *); first | omega | (refine ⟨by omega, next_all hall (by grind [eqAt]), ⟨_, by first | rfl | exact List.append_assoc _ _ _ | (simp only [List.append_assoc, List.cons_append, List.nil_append]; rfl)⟩, ?_⟩; simp only [hwr, go_sem, ↓zA, ↓reduceIte, ↓reduceDIte, reduceCtorEq, Nat.reduceAdd, Nat.reduceSub, Nat.reduceLeDiff, Nat.reduceLT, Nat.reduceEqDiff, Nat.reduceBEq, Nat.reduceMul, Int.reduceToNat, Int.reduceEq, Int.reduceLT, Int.reduceLE] <;> (first | rfl | (grind [eqAt]))) | (refine ⟨_, rfl⟩) | (refine ⟨_, List.append_assoc _ _ _⟩) | (grind [eqAt])))
 · grind

end Go.Proofs.YtddmkgibghohkaaGreatDoor
/- Contracts: the reference's lists of principals. -/
namespace Go.Proofs.YtddmkgibghohkaaGreatDoor
open Go Go.Sx Go.Proofs
set_option maxRecDepth 100000
set_option maxHeartbeats 4000000
set_option linter.unusedSimpArgs false

end Go.Proofs.YtddmkgibghohkaaGreatDoor
