/- Contracts: the reference's reading of error messages. -/
import Derived.Test.YtmegaleepkmadaaGreatDoorP25
import Derived.Test.YtmegaleepkmadaaGreatDoorP21
import Derived.Test.YtmegaleepkmadaaGreatDoorP22
import Derived.Test.YtmegaleepkmadaaGreatDoorP17
import Derived.Test.YtmegaleepkmadaaGreatDoorP18
import Derived.Test.YtmegaleepkmadaaGreatDoorP23
set_option linter.unusedSimpArgs false
set_option linter.unusedVariables false
set_option linter.unusedSectionVars false
namespace Go.Proofs.YtmegaleepkmadaaGreatDoor
open Go Go.Sx Go.Proofs
set_option maxRecDepth 100000
set_option maxHeartbeats 4000000
set_option linter.unusedSimpArgs false

def dgN (l : List (List UInt8)) (i : Nat) : List Pre := (l.take i).map datG
theorem dgN_succ {l : List (List UInt8)} {i : Nat} (h : i < l.length) : dgN l (i + 1) = dgN l i ++ [datG (l.getD i (Ty.slice .u8).dflt)] := by unfold dgN; rw [take_succ_getD (d := (Ty.slice .u8).dflt) h]; simp
theorem dgN_len {l : List (List UInt8)} {i : Nat} (h : i ≤ l.length) : (dgN l i).length = i := by simp [dgN]; omega
theorem dgN_all (l : List (List UInt8)) : dgN l l.length = l.map datG := by unfold dgN; rw [List.take_length]
theorem rgetData_c (b : List UInt8) (hb : b.length ≤ 1048576) : PC Tryz.prog 96 [.isl .u8 b] (.isl PreT (preG b)) := by
 have hc := contents_c b (by omega)
 have hl := conR_len b
 have he := elements_c (conR b) (by omega)
 have hm := elsR_mem (conR b).length (conR b)
 have hle := elsR_len (conR b).length (conR b)
 have hd : preG b = (elsR (conR b).length (conR b)).map datG := rfl
 rw [hd]
 clear hd
 generalize elsR (conR b).length (conR b) = l at *
 rw [← dgN_all]
 refine pc_seal rfl rfl ?_
 refine runE mixed fi96 ?_
 refine callI_pure hc ?_
 refine goE mixed ?_
 refine callI_pure he ?_
 refine goE mixed ?_
 refine si_accN 3 PreT (dgN l) (fun i => [(5, rI i)]) l.length (fun _ => True) rfl (by simp) (by simp [dgN]) rfl (fun i => rfl) ?_ fun i hi _ => ?_
 · with_reducible refine sxE ?_; trivial
 have hwr : IntKind.i64.wrap ((i : Int) + 1) = ((i + 1 : Nat) : Int) := wrap_succ (by omega)
 have hln := dgN_len hi
 refine goE mixed ?_
 refine ⟨fun hlt => ?_, fun hge => ?_⟩
 · have hmm := hm _ (getD_mem (d := (Ty.slice .u8).dflt) hlt)
   have hst := dgN_succ hlt
   have hse : datG (l.getD i (Ty.slice .u8).dflt) = ((gIntR (itmR (l.getD i (Ty.slice .u8).dflt) 0) : Int), conR (itmR (l.getD i (Ty.slice .u8).dflt) 1)) := rfl
   refine ⟨⟨by omega, hlt⟩, ⟨by omega, hlt⟩, ?_⟩
   generalize l.getD i (Ty.slice .u8).dflt = x at *
   have q0 := itmR_len x 0
   have q1 := itmR_len x 1
   have q3 := conR_len (itmR x 1)
   refine callR_pure (item_c x 0 (by omega) (by omega)) ?_
   refine goE mixed ?_
   refine callR_pure (getInt_c _ (by omega)) ?_
   refine goE mixed ?_
   refine callR_pure (item_c x 1 (by omega) (by omega)) ?_
   refine goE mixed ?_
   refine callR_pure (getBytes_c _ (by omega)) ?_
   refine goE mixed ?_
   refine ⟨⟨by omega, by omega⟩, acc_next [_, _] [] hlt trivial (by rw [hst, hse]; rfl) ?_⟩
   with_reducible refine sx3 hwr hst ?_; trivial
 · obtain rfl : i = l.length := by omega
   refine ⟨⟨Nat.le_refl _, by omega⟩, List.take_of_length_le (Nat.le_refl _)⟩
theorem preG_len (b : List UInt8) : (preG b).length ≤ b.length := by
 unfold preG; rw [List.length_map]; exact elt_len b
theorem rgetPre_c (b : List UInt8) (hb : b.length ≤ 1048576) : PC Tryz.prog 38 [.isl .u8 b] (.isl PreT (preG b)) := by
 have hc := rgetData_c b hb
 have hl := preG_len b
 generalize preG b = l at *
 refine pc_seal rfl rfl ?_
 refine runE mixed fi38 ?_
 refine callI_pure hc ?_
 refine goE mixed ?_
 refine si_accN 3 PreT (fun i => l.take i) (fun i => [(5, rI i)]) l.length (fun _ => True) rfl (by simp) (by simp) rfl (fun i => rfl) ?_ fun i hi _ => ?_
 · with_reducible refine sxE ?_; trivial
 have hwr : IntKind.i64.wrap ((i : Int) + 1) = ((i + 1 : Nat) : Int) := wrap_succ (by omega)
 have hln : (l.take i).length = i := List.length_take_of_le hi
 refine goE mixed ?_
 refine ⟨fun hlt => ?_, fun hge => ?_⟩
 · have hst := take_succ_getD (d := PreT.dflt) hlt
   refine ⟨⟨by omega, hlt⟩, ⟨by omega, hlt⟩, ⟨by omega, by omega⟩, acc_next [_, _] [] hlt trivial (by rw [hst]; rfl) ?_⟩
   with_reducible refine sx3 hwr hst ?_; trivial
 · obtain rfl : i = l.length := by omega
   refine ⟨⟨Nat.le_refl _, by omega⟩, by rw [List.take_of_length_le (Nat.le_refl _), List.take_of_length_le (Nat.le_refl _)]⟩
theorem rvFail_c (f : Fail) (ho : FailT.ok f) : PC Tryz.prog 6 [.agg (FailT.cells f)] (rB (vFail f)) := by
 have he : sFail f = true → PC Tryz.prog 12 [.agg (FailT.cells f)] (.isl .u8 (failS f)) := fun h => by
  have := renc_c f (shF_ok h)
  rwa [faiR_ok h] at this
 have hv : vFail f = (sFail f && decide ((failS f).length ≤ 65536)) := rfl
 have hs : sFail f = (decide ((f.2.2.2.2.2.1.size : Int) ≤ 256) && (allN f.2.2.2.2.2.1.size (txtAt f.2.2.2.2.2.1) && (mIn 0 65535 f.1 && (vTime f.2.1 && (mIn 0 999999 f.2.2.1 && ((noN f.2.2.2.1 || vPrin f.2.2.2.1) && (vPrin f.2.2.2.2.1 && vPre f.2.2.2.2.2.2))))))) := rfl
 rw [hv]
 generalize failS f = w at *
 generalize sFail f = sf at *
 obtain ⟨c, t, m, p, s, x, d⟩ := f
 obtain ⟨_, _, _, o4, o5, o6, o7⟩ := ho
 have hx : x.size ≤ 140737488355328 := o6
 have hvt : vTime t = mIn 0 1099511627776 t := rfl
 dsimp only at hs
 refine pc_of rfl rfl ?_
 refine runE mixed fi6 ?_
 refine si_cntD (fun i => [(3, .raw (.int .i64 ((i : Nat) : Int)))]) (x.size) (fun j => (txtAt x) j = true) (by first | decide | simp) (fun i => rfl) ?_ fun i hi hall => ?_
 · (with_reducible refine sxE ?_ <;> try exact True.intro)
   all_goals (try rfl)
 have hwr : IntKind.i64.wrap ((i : Int) + 1) = ((i + 1 : Nat) : Int) := wrap_succ (by omega)
 refine goE mixed ?_
 have bad : i < (x.size) → (txtAt x) i = false → allN (x.size) (txtAt x) = false := fun hlt hv => allN_false hlt hv
 have fin : ¬ i < (x.size) → allN (x.size) (txtAt x) = true := fun h => allN_true fun j hj => hall j (by omega)
 try dsimp only at bad fin hall
 refine ⟨fun hlt => ⟨⟨by omega, hlt⟩, fun h1 => ⟨⟨by omega, hlt⟩, fun h2 => ?_, fun h2 => ?_⟩, fun h1 => ?_⟩, fun hge => ?_⟩
 · rw [hs, bad hlt (by unfold txtAt; rw [decide_eq_false (show ¬ (((x.data.toList.getD i 0).toNat : Int) ≤ 126) by omega), Bool.and_false]), Bool.false_and, Bool.and_false]; rfl
 · refine ⟨hlt, next_all hall (by unfold txtAt; rw [decide_eq_true (show (32 : Int) ≤ ((x.data.toList.getD i 0).toNat : Int) by omega), decide_eq_true (show ((x.data.toList.getD i 0).toNat : Int) ≤ 126 by omega)]; rfl), ⟨[], rfl⟩, ?_⟩
   with_reducible refine sx1 hwr ?_; trivial
 · rw [hs, bad hlt (by unfold txtAt; rw [decide_eq_false (show ¬ ((32 : Int) ≤ ((x.data.toList.getD i 0).toNat : Int)) by omega), Bool.false_and]), Bool.false_and, Bool.and_false]; rfl
 · rw [fin hge, Bool.true_and, hvt] at hs
   clear bad fin hall hge hvt hv
   repeat' (first
    | (refine callI_pure (rIn_c _ _ _) ?_; refine run_sound mixed 600 _ ?_; simp (maxSteps := 3000000) only [go_sem, ↓zA, ↓reduceIte, ↓reduceDIte, reduceCtorEq, Nat.reduceAdd, Nat.reduceSub, Nat.reduceLeDiff, Nat.reduceLT, Nat.reduceEqDiff, Nat.reduceBEq, Nat.reduceMul, Int.reduceToNat, Int.reduceEq, Int.reduceLT, Int.reduceLE] <;> try simp only [zB])
    | (refine callR_pure (rIn_c _ _ _) ?_; refine run_sound mixed 600 _ ?_; simp (maxSteps := 3000000) only [go_sem, ↓zA, ↓reduceIte, ↓reduceDIte, reduceCtorEq, Nat.reduceAdd, Nat.reduceSub, Nat.reduceLeDiff, Nat.reduceLT, Nat.reduceEqDiff, Nat.reduceBEq, Nat.reduceMul, Int.reduceToNat, Int.reduceEq, Int.reduceLT, Int.reduceLE] <;> try simp only [zB])
    | (refine callF_pure (rIn_c _ _ _) ?_; refine run_sound mixed 600 _ ?_; simp (maxSteps := 3000000) only [go_sem, ↓zA, ↓reduceIte, ↓reduceDIte, reduceCtorEq, Nat.reduceAdd, Nat.reduceSub, Nat.reduceLeDiff, Nat.reduceLT, Nat.reduceEqDiff, Nat.reduceBEq, Nat.reduceMul, Int.reduceToNat, Int.reduceEq, Int.reduceLT, Int.reduceLE] <;> try simp only [zB])
    | (refine callI_pure (rmoment_c _ _) ?_; refine run_sound mixed 600 _ ?_; simp (maxSteps := 3000000) only [go_sem, ↓zA, ↓reduceIte, ↓reduceDIte, reduceCtorEq, Nat.reduceAdd, Nat.reduceSub, Nat.reduceLeDiff, Nat.reduceLT, Nat.reduceEqDiff, Nat.reduceBEq, Nat.reduceMul, Int.reduceToNat, Int.reduceEq, Int.reduceLT, Int.reduceLE] <;> try simp only [zB])
    | (refine callR_pure (rmoment_c _ _) ?_; refine run_sound mixed 600 _ ?_; simp (maxSteps := 3000000) only [go_sem, ↓zA, ↓reduceIte, ↓reduceDIte, reduceCtorEq, Nat.reduceAdd, Nat.reduceSub, Nat.reduceLeDiff, Nat.reduceLT, Nat.reduceEqDiff, Nat.reduceBEq, Nat.reduceMul, Int.reduceToNat, Int.reduceEq, Int.reduceLT, Int.reduceLE] <;> try simp only [zB])
    | (refine callF_pure (rmoment_c _ _) ?_; refine run_sound mixed 600 _ ?_; simp (maxSteps := 3000000) only [go_sem, ↓zA, ↓reduceIte, ↓reduceDIte, reduceCtorEq, Nat.reduceAdd, Nat.reduceSub, Nat.reduceLeDiff, Nat.reduceLT, Nat.reduceEqDiff, Nat.reduceBEq, Nat.reduceMul, Int.reduceToNat, Int.reduceEq, Int.reduceLT, Int.reduceLE] <;> try simp only [zB])
    | (refine callI_pure (rempty_c _) ?_; refine run_sound mixed 600 _ ?_; simp (maxSteps := 3000000) only [go_sem, ↓zA, ↓reduceIte, ↓reduceDIte, reduceCtorEq, Nat.reduceAdd, Nat.reduceSub, Nat.reduceLeDiff, Nat.reduceLT, Nat.reduceEqDiff, Nat.reduceBEq, Nat.reduceMul, Int.reduceToNat, Int.reduceEq, Int.reduceLT, Int.reduceLE] <;> try simp only [zB])
    | (refine callR_pure (rempty_c _) ?_; refine run_sound mixed 600 _ ?_; simp (maxSteps := 3000000) only [go_sem, ↓zA, ↓reduceIte, ↓reduceDIte, reduceCtorEq, Nat.reduceAdd, Nat.reduceSub, Nat.reduceLeDiff, Nat.reduceLT, Nat.reduceEqDiff, Nat.reduceBEq, Nat.reduceMul, Int.reduceToNat, Int.reduceEq, Int.reduceLT, Int.reduceLE] <;> try simp only [zB])
    | (refine callF_pure (rempty_c _) ?_; refine run_sound mixed 600 _ ?_; simp (maxSteps := 3000000) only [go_sem, ↓zA, ↓reduceIte, ↓reduceDIte, reduceCtorEq, Nat.reduceAdd, Nat.reduceSub, Nat.reduceLeDiff, Nat.reduceLT, Nat.reduceEqDiff, Nat.reduceBEq, Nat.reduceMul, Int.reduceToNat, Int.reduceEq, Int.reduceLT, Int.reduceLE] <;> try simp only [zB])
    | (refine callI_pure (rvp_c _ o4) ?_; refine run_sound mixed 600 _ ?_; simp (maxSteps := 3000000) only [go_sem, ↓zA, ↓reduceIte, ↓reduceDIte, reduceCtorEq, Nat.reduceAdd, Nat.reduceSub, Nat.reduceLeDiff, Nat.reduceLT, Nat.reduceEqDiff, Nat.reduceBEq, Nat.reduceMul, Int.reduceToNat, Int.reduceEq, Int.reduceLT, Int.reduceLE] <;> try simp only [zB])
    | (refine callR_pure (rvp_c _ o4) ?_; refine run_sound mixed 600 _ ?_; simp (maxSteps := 3000000) only [go_sem, ↓zA, ↓reduceIte, ↓reduceDIte, reduceCtorEq, Nat.reduceAdd, Nat.reduceSub, Nat.reduceLeDiff, Nat.reduceLT, Nat.reduceEqDiff, Nat.reduceBEq, Nat.reduceMul, Int.reduceToNat, Int.reduceEq, Int.reduceLT, Int.reduceLE] <;> try simp only [zB])
    | (refine callF_pure (rvp_c _ o4) ?_; refine run_sound mixed 600 _ ?_; simp (maxSteps := 3000000) only [go_sem, ↓zA, ↓reduceIte, ↓reduceDIte, reduceCtorEq, Nat.reduceAdd, Nat.reduceSub, Nat.reduceLeDiff, Nat.reduceLT, Nat.reduceEqDiff, Nat.reduceBEq, Nat.reduceMul, Int.reduceToNat, Int.reduceEq, Int.reduceLT, Int.reduceLE] <;> try simp only [zB])
    | (refine callI_pure (rvp_c _ o5) ?_; refine run_sound mixed 600 _ ?_; simp (maxSteps := 3000000) only [go_sem, ↓zA, ↓reduceIte, ↓reduceDIte, reduceCtorEq, Nat.reduceAdd, Nat.reduceSub, Nat.reduceLeDiff, Nat.reduceLT, Nat.reduceEqDiff, Nat.reduceBEq, Nat.reduceMul, Int.reduceToNat, Int.reduceEq, Int.reduceLT, Int.reduceLE] <;> try simp only [zB])
    | (refine callR_pure (rvp_c _ o5) ?_; refine run_sound mixed 600 _ ?_; simp (maxSteps := 3000000) only [go_sem, ↓zA, ↓reduceIte, ↓reduceDIte, reduceCtorEq, Nat.reduceAdd, Nat.reduceSub, Nat.reduceLeDiff, Nat.reduceLT, Nat.reduceEqDiff, Nat.reduceBEq, Nat.reduceMul, Int.reduceToNat, Int.reduceEq, Int.reduceLT, Int.reduceLE] <;> try simp only [zB])
    | (refine callF_pure (rvp_c _ o5) ?_; refine run_sound mixed 600 _ ?_; simp (maxSteps := 3000000) only [go_sem, ↓zA, ↓reduceIte, ↓reduceDIte, reduceCtorEq, Nat.reduceAdd, Nat.reduceSub, Nat.reduceLeDiff, Nat.reduceLT, Nat.reduceEqDiff, Nat.reduceBEq, Nat.reduceMul, Int.reduceToNat, Int.reduceEq, Int.reduceLT, Int.reduceLE] <;> try simp only [zB])
    | (refine callI_pure (rvpre_c _ o7.1) ?_; refine run_sound mixed 600 _ ?_; simp (maxSteps := 3000000) only [go_sem, ↓zA, ↓reduceIte, ↓reduceDIte, reduceCtorEq, Nat.reduceAdd, Nat.reduceSub, Nat.reduceLeDiff, Nat.reduceLT, Nat.reduceEqDiff, Nat.reduceBEq, Nat.reduceMul, Int.reduceToNat, Int.reduceEq, Int.reduceLT, Int.reduceLE] <;> try simp only [zB])
    | (refine callR_pure (rvpre_c _ o7.1) ?_; refine run_sound mixed 600 _ ?_; simp (maxSteps := 3000000) only [go_sem, ↓zA, ↓reduceIte, ↓reduceDIte, reduceCtorEq, Nat.reduceAdd, Nat.reduceSub, Nat.reduceLeDiff, Nat.reduceLT, Nat.reduceEqDiff, Nat.reduceBEq, Nat.reduceMul, Int.reduceToNat, Int.reduceEq, Int.reduceLT, Int.reduceLE] <;> try simp only [zB])
    | (refine callF_pure (rvpre_c _ o7.1) ?_; refine run_sound mixed 600 _ ?_; simp (maxSteps := 3000000) only [go_sem, ↓zA, ↓reduceIte, ↓reduceDIte, reduceCtorEq, Nat.reduceAdd, Nat.reduceSub, Nat.reduceLeDiff, Nat.reduceLT, Nat.reduceEqDiff, Nat.reduceBEq, Nat.reduceMul, Int.reduceToNat, Int.reduceEq, Int.reduceLT, Int.reduceLE] <;> try simp only [zB])
    | (refine callI_pure (he (hs.trans (by simp_all))) ?_; refine run_sound mixed 600 _ ?_; simp (maxSteps := 3000000) only [go_sem, ↓zA, ↓reduceIte, ↓reduceDIte, reduceCtorEq, Nat.reduceAdd, Nat.reduceSub, Nat.reduceLeDiff, Nat.reduceLT, Nat.reduceEqDiff, Nat.reduceBEq, Nat.reduceMul, Int.reduceToNat, Int.reduceEq, Int.reduceLT, Int.reduceLE] <;> try simp only [zB])
    | (refine callR_pure (he (hs.trans (by simp_all))) ?_; refine run_sound mixed 600 _ ?_; simp (maxSteps := 3000000) only [go_sem, ↓zA, ↓reduceIte, ↓reduceDIte, reduceCtorEq, Nat.reduceAdd, Nat.reduceSub, Nat.reduceLeDiff, Nat.reduceLT, Nat.reduceEqDiff, Nat.reduceBEq, Nat.reduceMul, Int.reduceToNat, Int.reduceEq, Int.reduceLT, Int.reduceLE] <;> try simp only [zB])
    | (refine callF_pure (he (hs.trans (by simp_all))) ?_; refine run_sound mixed 600 _ ?_; simp (maxSteps := 3000000) only [go_sem, ↓zA, ↓reduceIte, ↓reduceDIte, reduceCtorEq, Nat.reduceAdd, Nat.reduceSub, Nat.reduceLeDiff, Nat.reduceLT, Nat.reduceEqDiff, Nat.reduceBEq, Nat.reduceMul, Int.reduceToNat, Int.reduceEq, Int.reduceLT, Int.reduceLE] <;> try simp only [zB])
    | (with_reducible refine And.intro ?_ ?_)
    | (with_reducible intro _))
   all_goals ((simp_all; try omega))
theorem okR_dat {y : List UInt8} (h : y.length ≤ 1048576) : PreT.ok (datG y) := ⟨trivial, okR_con (itm_le 1 h)⟩
theorem okR_pre {y : List UInt8} (h : y.length ≤ 1048576) : (Ty.slice PreT).ok (preG y) := okR_map (t := PreT) h fun _ hz => okR_dat hz
theorem con_le {y : List UInt8} (h : y.length ≤ 1048576) : (conR y).length ≤ 1048576 := Nat.le_trans (conR_len y) h
theorem okR_fail {b : List UInt8} (h : b.length ≤ 1048576) : FailT.ok (faG b) := ⟨trivial, trivial, trivial, okR_prn (itm_le 5 (con_le h)), okR_prn (itm_le 6 (con_le h)), okR_str (itm_le 7 (con_le h)), okR_pre (itm_le 8 (con_le h))⟩
theorem rdecFail_c (b : List UInt8) (hb : b.length ≤ 1048576) : PC Tryz.prog 9 [.isl .u8 b] (.tup [.agg (FailT.cells ((decF b).getD FailT.dflt)), rI (if (decF b).isSome then 0 else 6)]) := by
 have hd : decF b = if vFail (faG b) = true ∧ failS (faG b) = b then some (faG b) else none := (decFR_eq b).symm
 generalize decF b = R at *
 have hok := okR_fail hb
 have hE : faG b = ((gIntR (itmR (conR b) 4) : Int), (gIntR (itmR (conR b) 2) : Int), (gIntR (itmR (conR b) 3) : Int), prnR (itmR (conR b) 5), prnR (itmR (conR b) 6), strOf (conR (itmR (conR b) 7)), preG (itmR (conR b) 8)) := rfl
 have hv := rvFail_c (faG b) hok
 have he : vFail (faG b) = true → PC Tryz.prog 12 [.agg (FailT.cells (faG b))] (.isl .u8 (failS (faG b))) := fun h => by
  have h3 : sFail (faG b) = true := by unfold vFail at h; rw [Bool.and_eq_true] at h; exact h.1
  have := renc_c (faG b) (shF_ok h3)
  rwa [faiR_ok h3] at this
 have hc := contents_c b (by omega)
 have hcl := con_le hb
 generalize hs : conR b = s at *
 have i2 := item_c s 2 (by omega) (by omega)
 have i3 := item_c s 3 (by omega) (by omega)
 have i4 := item_c s 4 (by omega) (by omega)
 have i5 := item_c s 5 (by omega) (by omega)
 have i6 := item_c s 6 (by omega) (by omega)
 have i7 := item_c s 7 (by omega) (by omega)
 have i8 := item_c s 8 (by omega) (by omega)
 have q2 := itmR_len s 2
 have q3 := itmR_len s 3
 have q4 := itmR_len s 4
 have q5 := itmR_len s 5
 have q6 := itmR_len s 6
 have q7 := itmR_len s 7
 have q8 := itmR_len s 8
 have c2 := getInt_c (itmR s 2) (by omega)
 have c3 := getInt_c (itmR s 3) (by omega)
 have c4 := getInt_c (itmR s 4) (by omega)
 have c5 := rgetPrin_c (itmR s 5) (by omega)
 have c6 := rgetPrin_c (itmR s 6) (by omega)
 have c7 := contents_c (itmR s 7) (by omega)
 have c8 := rgetPre_c (itmR s 8) (by omega)
 generalize faG b = X at *
 generalize gIntR (itmR s 2) = x2 at *
 generalize gIntR (itmR s 3) = x3 at *
 generalize gIntR (itmR s 4) = x4 at *
 generalize prnR (itmR s 5) = x5 at *
 generalize prnR (itmR s 6) = x6 at *
 generalize conR (itmR s 7) = x7 at *
 generalize preG (itmR s 8) = x8 at *
 refine pc_seal rfl (by cases R <;> rfl) ?_
 refine runE mixed fi9 ?_
 refine callI_pure hc ?_
 refine goE mixed ?_
 refine callF_pure (i2) ?_
 refine goE mixed ?_
 refine callF_pure (c2) ?_
 refine goE mixed ?_
 refine callF_pure (i3) ?_
 refine goE mixed ?_
 refine callF_pure (c3) ?_
 refine goE mixed ?_
 refine callF_pure (i4) ?_
 refine goE mixed ?_
 refine callF_pure (c4) ?_
 refine goE mixed ?_
 refine callF_pure (i5) ?_
 refine goE mixed ?_
 refine callF_pure (c5) ?_
 refine goE mixed ?_
 refine callF_pure (i6) ?_
 refine goE mixed ?_
 refine callF_pure (c6) ?_
 refine goE mixed ?_
 refine callF_pure (i7) ?_
 refine goE mixed ?_
 refine callF_pure (c7) ?_
 refine goE mixed ?_
 refine callF_pure (i8) ?_
 refine goE mixed ?_
 refine callF_pure (c8) ?_
 refine goE mixed ?_
 subst hE
 cases hvv : vFail (((x4 : Nat) : Int), ((x2 : Nat) : Int), ((x3 : Nat) : Int), x5, x6, strOf x7, x8) with
 | false =>
  have hR : R = none := by rw [hd, hvv]; simp
  rw [hvv] at hv
  subst hR
  refine callR_pure hv ?_
  refine goE mixed ?_
  exact ⟨⟨rfl, rfl, rfl, rfl, rfl, rfl, rfl, rfl, rfl⟩, rfl⟩
 | true =>
  rw [hvv] at hv
  refine callR_pure hv ?_
  refine goE mixed ?_
  refine callR_pure (he hvv) ?_
  refine goE mixed ?_
  refine ⟨fun hne => ?_, fun heq => ?_⟩
  · have hR : R = none := by rw [hd, if_neg (fun q => hne (strOf_inj.2 q.2))]
    subst hR
    exact ⟨⟨rfl, rfl, rfl, rfl, rfl, rfl, rfl, rfl, rfl⟩, rfl⟩
  · have hR : R = some (((x4 : Nat) : Int), ((x2 : Nat) : Int), ((x3 : Nat) : Int), x5, x6, strOf x7, x8) := by rw [hd, if_pos ⟨hvv, strOf_inj.1 heq⟩]
    subst hR
    exact ⟨⟨rfl, rfl, rfl, rfl, rfl, rfl, rfl, rfl, rfl⟩, rfl⟩
end Go.Proofs.YtmegaleepkmadaaGreatDoor

/- Contracts: the encoding of a request, as a row of its own. -/
namespace Go.Proofs.YtmegaleepkmadaaGreatDoor
open Go Go.Sx Go.Proofs
set_option maxRecDepth 100000
set_option maxHeartbeats 4000000
set_option linter.unusedSimpArgs false

theorem element_o (tag : UInt8) (parts : List (List UInt8)) (hp : parts.length ≤ 1125899906842624) : VC Tryz.prog 126 [.raw (.int .u8 tag.toNat), .isl (.slice .u8) parts] [] (RowK .u8 (elemS tag parts)) := by
 refine vc_weak ?_
 refine runE mixed fi126 ?_
 refine si_cntD (fun i => [(5, rI ((flatN parts i).length)), (13, .raw (.int .i64 ((i : Nat) : Int)))]) (parts.length) (fun j => (fitAt parts) j = true) (by first | decide | simp) (fun i => rfl) ?_ fun i hi hall => ?_
 · (with_reducible refine sxE ?_ <;> try exact True.intro)
   all_goals (try rfl)
 have hwr : IntKind.i64.wrap ((i : Int) + 1) = ((i + 1 : Nat) : Int) := wrap_succ (by omega)
 refine goE mixed ?_
 have bad : i < (parts.length) → (fitAt parts) i = false → allN (parts.length) (fitAt parts) = false := fun hlt hv => allN_false hlt hv
 have fin : ¬ i < (parts.length) → allN (parts.length) (fitAt parts) = true := fun h => allN_true fun j hj => hall j (by omega)
 try dsimp only at bad fin hall
 have hn : (flatN parts i).length ≤ 16777215 := by
  cases i with
  | zero => simp [flatN]
  | succ j => have := hall j (by omega); simpa [fitAt] using this
 rw [wrapi (n := 16777215 - ((flatN parts i).length : Int)) (by omega), wrapi (n := ((flatN parts i).length : Int) + 5) (by omega)]
 refine ⟨fun hlt => ⟨⟨by omega, hlt⟩, fun hbig => ?_, fun hfit => ?_⟩, fun hge => ?_⟩
 · have h1 := flatN_le parts (i + 1)
   rw [flatN_succ hlt, List.length_append] at h1
   refine rowK_nil ?_
   unfold elemS
   rw [if_neg (by omega)]
 · have h2 : ((flatN parts i).length : Int) + ((parts.getD i (Ty.slice .u8).dflt).length : Int) = ((flatN parts (i + 1)).length : Int) := by rw [flatN_succ hlt, List.length_append]; rfl
   have h3 : (flatN parts (i + 1)).length ≤ 16777215 := by omega
   refine ⟨hlt, next_all hall (by simpa [fitAt] using h3), ⟨_, rfl⟩, ?_⟩
   rw [h2, wrapi (n := ((flatN parts (i + 1)).length : Int)) (by omega)]
   with_reducible refine sx1 hwr ?_; trivial
 · obtain rfl : i = parts.length := by omega
   rw [flatN_all] at *
   have he : elemS tag parts = tag :: (lenS parts.flatten.length ++ flatN parts parts.length) := by unfold elemS tlv; rw [if_pos hn, flatN_all]
   refine ⟨⟨by omega, by omega, by omega⟩, tag_ob tag, fun h1 => ⟨byte_ob _, ?_⟩, fun h1 => ⟨fun h2 => ⟨?_, ?_⟩, fun h2 => ⟨fun h3 => ⟨?_, ?_⟩, fun h3 => ⟨?_, ?_⟩⟩⟩⟩
   any_goals (repeat' (first | exact byte_ob _ | exact rfl | with_reducible refine And.intro ?_ ?_))
   have hL : lenS parts.flatten.length = [byteOf parts.flatten.length] := by unfold lenS; rw [if_pos (by omega)]
   rotate_left
   have hL : lenS parts.flatten.length = [129, byteOf parts.flatten.length] := by unfold lenS; rw [if_neg (by omega), if_pos (by omega)]
   rotate_left
   have hL : lenS parts.flatten.length = [130, byteOf ((parts.flatten.length : Int).fdiv 256), byteOf parts.flatten.length] := by unfold lenS; rw [if_neg (by omega), if_neg (by omega), if_pos (by omega)]
   rotate_left
   have hL : lenS parts.flatten.length = [131, byteOf ((parts.flatten.length : Int).fdiv 65536), byteOf ((parts.flatten.length : Int).fdiv 256), byteOf parts.flatten.length] := by unfold lenS; rw [if_neg (by omega), if_neg (by omega), if_neg (by omega)]
   rotate_left
   all_goals
    refine si_accB (H := [_, _, _, _]) 8 .u8 (fun i => tag :: (lenS parts.flatten.length ++ flatN parts i)) (fun i => [(44, .any), (52, .any), (60, .any), (71, .any), (74, rI i)]) parts.length (fun _ => True) (by rw [hL]; simp [flatN, byteOf]) (by simp) rfl (fun i => rfl) ?_ fun i hi _ => ?_
    · with_reducible refine sx1 hL ?_
      simp [flatN]
    have hwr : IntKind.i64.wrap ((i : Int) + 1) = ((i + 1 : Nat) : Int) := wrap_succ (by omega)
    have hfl := flatN_le parts i
    have hll : (lenS parts.flatten.length).length ≤ 4 := by rw [hL]; simp
    refine goE mixed ?_
    have e1 : (lenS parts.flatten.length ++ flatN parts i).length = (lenS parts.flatten.length).length + (flatN parts i).length := List.length_append
    refine ⟨fun hlt => ?_, fun hge => ?_⟩
    · have h4 := flatN_le parts (i + 1)
      have h5 := flatN_succ hlt
      rw [h5, List.length_append] at h4
      refine ⟨⟨by omega, hlt⟩, ⟨by omega, by omega⟩, acc_next [.dead] [] hlt trivial (by rw [h5, ← List.append_assoc]; rfl) ?_⟩
      with_reducible refine sx3 hwr h5 ?_
      exact congrArg (SV.bld 5 .u8) (by omega)
    · obtain rfl : i = parts.length := by omega
      rw [he]
      exact rowK_row (h := 4) rfl rfl
theorem element_ko (tag : UInt8) (n : Int) (hn : n = tag.toNat) (parts : List (List UInt8)) (hp : parts.length ≤ 1125899906842624) : VC Tryz.prog 126 [.raw (.int .u8 n), .isl (.slice .u8) parts] [] (RowK .u8 (elemS tag parts)) := by
 subst hn; exact element_o tag parts hp
theorem wrapped_o (tag n : Int) (b : List UInt8) (ht : 0 ≤ tag ∧ tag ≤ 1000) : VC Tryz.prog 125 [rI tag, rI n, .isl .u8 b] [] (RowK .u8 (wrapS tag n b)) := by
 refine vc_weak ?_
 refine runE mixed fi125 ?_
 refine ⟨fun h1 => ⟨fun h2 => ⟨fun h3 => ?_, fun h3 => ?_⟩, fun h2 => ?_⟩, fun h1 => ?_⟩
 · refine rowK_nil ?_
   unfold wrapS; rw [if_neg (fun h => h.2.2 (List.length_eq_zero_iff.1 (by omega)))]
 · refine callI_hand 0 ?_
   with_reducible refine sxE ?_
   have hw : wrapS tag n b = elemS (byteOf (tag + n)) [b] := by
    unfold wrapS
    rw [if_pos ⟨by omega, by omega, fun e => h3 (by rw [e]; rfl)⟩]
   rw [hw]
   refine callI_rowK (element_ko (byteOf (tag + n)) _ ?_ _ (by simp)) rfl rfl (fun h0 => ?_) ?_
   · rw [wrapi (by omega)]; exact (byte_ob _).symm
   · refine goE mixed ?_
     exact rowK_nil h0
   · refine goE mixed ?_
     exact rowK_row (h := 1) rfl rfl
 · refine rowK_nil ?_
   unfold wrapS; rw [if_neg (by omega)]
 · refine rowK_nil ?_
   unfold wrapS; rw [if_neg (by omega)]
theorem dapp_o (n : Int) (b : List UInt8) : VC Tryz.prog 124 [rI n, .isl .u8 b] [] (RowK .u8 (wrapS 96 n b)) := by
 refine vc_weak ?_
 refine runE mixed fi124 ?_
 refine callI_rowK (wrapped_o 96 n b (by omega)) rfl rfl (fun h0 => ?_) ?_
 · refine goE mixed ?_
   exact rowK_nil h0
 · refine goE mixed ?_
   exact rowK_row (h := 0) rfl rfl
theorem mapp_o (n : Int) (l : List (List UInt8)) (hl : l.length ≤ 1125899906842624) : VC Tryz.prog 65 [rI n, .isl (.slice .u8) l] [] (RowK .u8 (wrapS 96 n (elemS 48 l))) := by
 refine vc_weak ?_
 refine runE mixed fi65 ?_
 refine callI_pure (sequence_c l hl) ?_
 refine goE mixed ?_
 refine callI_rowK (dapp_o n _) rfl rfl (fun h0 => ?_) ?_
 · refine goE mixed ?_
   exact rowK_nil h0
 · refine goE mixed ?_
   exact rowK_row (h := 0) rfl rfl
theorem wreq_o {r : Req} {va vt : Bool} {wa wt : List UInt8} (h : ReqC r va vt wa wt) (hs : sReq r va vt = true) : VC Tryz.prog 52 [.agg (ReqT.cells r)] [] (RowK .u8 (reqS r wa wt)) := by
 obtain ⟨hl, hp⟩ := sReq_len hs
 have hb := wbody_c r wa wt h.ok h.opt hp h.wa h.wt
 have ho := h.ok
 have hr : reqS r wa wt = wrapS 96 r.1 (elemS 48 [wrapS 160 1 (intS 5), wrapS 160 2 (intS r.1), preS 3 r.2.1, wrapS 160 4 (bodyS r wa wt)]) := rfl
 rw [hr]
 clear hr hs h hp
 generalize bodyS r wa wt = bd at *
 obtain ⟨k, pre, opt, cl, sv, fr, ti, re, no, pf, ad, tk⟩ := r
 obtain ⟨_, o2, _⟩ := ho
 dsimp only at hl
 refine vc_weak ?_
 refine runE mixed fi52 ?_
 refine callR_pure (integer_c 5) ?_
 refine goE mixed ?_
 refine callR_pure (tagged_c _ _) ?_
 refine goE mixed ?_
 refine callR_pure (integer_c k) ?_
 refine goE mixed ?_
 refine callR_pure (tagged_c _ _) ?_
 refine goE mixed ?_
 refine callR_pure (preAuth_c 3 pre o2 hl) ?_
 refine goE mixed ?_
 refine callR_pure (hb) ?_
 refine goE mixed ?_
 refine callR_pure (tagged_c _ _) ?_
 refine goE mixed ?_
 refine callR_hand 1 (by decide) ?_
 with_reducible refine sxE ?_
 refine callR_rowK (mapp_o k _ (by simp)) rfl rfl ?_ (fun h0 => ?_) ?_
 · simp (maxSteps := 3000000) only [sameG_cons, sameG_nil, go_sem, ↓zA, ↓reduceIte, ↓reduceDIte, reduceCtorEq, Nat.reduceAdd, Nat.reduceSub, Nat.reduceLeDiff, Nat.reduceLT, Nat.reduceEqDiff, Nat.reduceBEq, Nat.reduceMul, Int.reduceToNat, Int.reduceEq, Int.reduceLT, Int.reduceLE] <;> try simp only [zB]
 · refine goE mixed ?_
   exact rowK_nil h0
 · refine goE mixed ?_
   exact rowK_row (h := 2) rfl rfl
theorem encReq_o {r : Req} {va vt : Bool} {wa wt : List UInt8} (hc : ReqC r va vt wa wt) (hv : vReq r va vt wa wt = true) (hne : reqS r wa wt ≠ []) : VC Tryz.prog 19 [.agg (ReqT.cells r)] [] (RowT .u8 (reqS r wa wt) (.int .i64 0)) := by
 have h1 := sreq_c r va vt hc.ok hc.va hc.vt
 have hs : sReq r va vt = true := by simp only [vReq, Bool.and_eq_true] at hv; exact hv.1
 have hle : (reqS r wa wt).length ≤ 65536 := by simp only [vReq, Bool.and_eq_true, decide_eq_true_eq] at hv; exact hv.2
 have h2 := wreq_o hc hs
 rw [hs] at h1
 clear hc hv hs
 generalize reqS r wa wt = w at *
 obtain ⟨k, pre, opt, cl, sv, fr, ti, re, no, pf, ad, tk⟩ := r
 refine vc_weak ?_
 refine runE mixed fi19 ?_
 refine callI_pure h1 ?_
 refine goE mixed ?_
 refine callI_rowK h2 rfl rfl (fun h0 => ?_) ?_
 · exact absurd h0 hne
 · refine goE mixed ?_
   refine callI_inl fi30 ?_
   refine run_sound mixed 600 _ ?_
   simp (maxSteps := 3000000) only [opK, go_sem, ↓zA, ↓reduceIte, ↓reduceDIte, reduceCtorEq, Nat.reduceAdd, Nat.reduceSub, Nat.reduceLeDiff, Nat.reduceLT, Nat.reduceEqDiff, Nat.reduceBEq, Nat.reduceMul, Int.reduceToNat, Int.reduceEq, Int.reduceLT, Int.reduceLE] <;> try simp only [zB]
   refine ⟨fun h => absurd h (by omega), fun _ => ?_⟩
   refine goE mixed ?_
   exact rowT_row (h := 1) rfl rfl
end Go.Proofs.YtmegaleepkmadaaGreatDoor

/- Contracts: messages: reading a request. -/
namespace Go.Proofs.YtmegaleepkmadaaGreatDoor
open Go Go.Sx Go.Proofs
set_option maxRecDepth 100000
set_option maxHeartbeats 4000000
set_option linter.unusedSimpArgs false

structure BodH (k : Int) (pre : List Pre) (b : List UInt8) : Prop where
 a : ∀ q, q ≤ b.length → nextB 8 (b.drop q) = true → Eff Tryz.prog 172 [.agg [.ptr 0 0], rI 8] b q [] (fun l : List Pre => .isl PreT l) (fun _ => []) (inP (tagB 8) adrP (b.drop q))
 c : ∀ (o : Int) (c s : Prin) (f t w m : Int) (pf : List Int) (ad : List Pre) (q : Nat), q ≤ b.length → nextB 9 (b.drop q) = true → Eff Tryz.prog 85 [.agg [.ptr 0 0], rI 9, .fn 173 [] [.ptr 1 0]] b q [.cells 142 [.ptr 2 0], rqO [rI k, .isl PreT pre, mU o, .isl .str c.1, rS c.2, .isl .str s.1, rS s.2, rI f, rI t, rI w, rI m, .isl I64 pf, .isl PreT ad, .raw (.slice none 0 0)]] (fun _ => rB true) (fun l : List Tick => [.cells 142 [.ptr 2 0], rqO [rI k, .isl PreT pre, mU o, .isl .str c.1, rS c.2, .isl .str s.1, rS s.2, rI f, rI t, rI w, rI m, .isl I64 pf, .isl PreT ad, .isl TickT l]]) (inP (tagB 9) ticksP (b.drop q))
 z : ∀ (o : Int) (s : Prin) (f t w m : Int) (pf : List Int) (ad : List Pre) (q : Nat), q ≤ b.length → nextB 9 (b.drop q) = true → Eff Tryz.prog 85 [.agg [.ptr 0 0], rI 9, .fn 173 [] [.ptr 1 0]] b q [.cells 142 [.ptr 2 0], rqO [rI k, .isl PreT pre, mU o, .raw (.slice none 0 0), rS ⟨#[]⟩, .isl .str s.1, rS s.2, rI f, rI t, rI w, rI m, .isl I64 pf, .isl PreT ad, .raw (.slice none 0 0)]] (fun _ => rB true) (fun l : List Tick => [.cells 142 [.ptr 2 0], rqO [rI k, .isl PreT pre, mU o, .raw (.slice none 0 0), rS ⟨#[]⟩, .isl .str s.1, rS s.2, rI f, rI t, rI w, rI m, .isl I64 pf, .isl PreT ad, .isl TickT l]]) (inP (tagB 9) ticksP (b.drop q))
structure BodB (B : List UInt8 → Prop) : Prop where
 tk : ∀ r, B r → B (takeC r)
 dr : ∀ r n, B r → B (r.drop n)
 h : ∀ k pre c, B c → BodH k pre c
@[go_sem] abbrev rq0 (k : Int) (pre : SV) : SObj := rqO [rI k, pre, .raw (.int .u32 0), .raw (.slice none 0 0), rS ⟨#[]⟩, .raw (.slice none 0 0), rS ⟨#[]⟩, rI 0, rI 0, rI 0, rI 0, .raw (.slice none 0 0), .raw (.slice none 0 0), .raw (.slice none 0 0)]
theorem bodP_fits (k : Int) (pre : List Pre) : FitsP (bodP k pre) := bindP_fits needP_fits fun _ => bindP_fits (by unfold cliP; split <;> first | exact needP_fits | exact retP_fits) fun _ => bindP_fits needP_fits fun _ => bindP_fits dfltP_fits fun _ => bindP_fits needP_fits fun _ => bindP_fits dfltP_fits fun _ => bindP_fits needP_fits fun _ => bindP_fits needP_fits fun _ => bindP_fits dfltP_fits fun _ => bindP_fits dfltP_fits fun _ => retP_fits
theorem rq111_c {B : List UInt8 → Prop} (hB : BodB B) (k : Int) (pre : List Pre) (b : List UInt8) (n : Nat) (hn : n ≤ b.length) (hb : b.length ≤ 1099511627776) (hh : B b) :
 Eff Tryz.prog 118 [.agg [.ptr 0 0], .ptr 1 0] b n [rq0 k (.isl PreT pre)] (fun _ => .tup []) (fun r => [rqO (ReqT.cells r)]) (bodP k pre (b.drop n)) := by
 have h := hB.h k pre b hh
 have hm := mbody_c k pre b n hn hb h.a h.c h.z
 cases hx : bodP k pre (b.drop n) with
 | error e =>
  have hm' := eff_er hm hx
  refine pe_seal (by simp) ?_
  refine runE mixed fi118 ?_
  refine effP [0, 1] (hm') ?_; trivial
 | ok x =>
  obtain ⟨v, q⟩ := x
  have hm' := eff_ok hm hx
  refine pe_seal (by simp) ?_
  refine runE mixed fi118 ?_
  refine effE mixed [0, 1] (hm') ?_; trivial
theorem cln_rq0 (k : Int) (pre : List Pre) : Cln [rI k, .isl PreT pre, .raw (.int .u32 0), .raw (.slice none 0 0), rS ⟨#[]⟩, .raw (.slice none 0 0), rS ⟨#[]⟩, rI 0, rI 0, rI 0, rI 0, .raw (.slice none 0 0), .raw (.slice none 0 0), .raw (.slice none 0 0)] := cln_raw (cln_isl (cln_raw (cln_raw (cln_raw (cln_raw (cln_raw (cln_raw (cln_raw (cln_raw (cln_raw (cln_raw (cln_raw (cln_raw cln_nil)))))))))))))
def bodS (k : Int) (pre : List Pre) : PR Req := inP 48 (bodP k pre)
theorem rq11_c {B : List UInt8 → Prop} (hB : BodB B) (k : Int) (pre : List Pre) (b : List UInt8) (n : Nat) (hn : n ≤ b.length) (hb : b.length ≤ 1099511627776) (hh : B b) :
 Eff Tryz.prog 116 [.agg [.ptr 0 0], .ptr 1 0] b n [rq0 k (.isl PreT pre)] (fun _ => .tup []) (fun r => [rqO (ReqT.cells r)]) (bodS k pre (b.drop n)) := by
 have hm := sequence1 118 b n hn hb 53 _ (cln_rq0 k pre) (bodP k pre) (bodP_fits k pre) (fun r => ReqT.cells r) (fun r => cln_ty ReqT r) (rq111_c hB k pre (takeC (b.drop n)) 0 (Nat.zero_le _) (tkC_le hb) (hB.tk _ (hB.dr _ _ hh)))
 change Eff _ _ _ _ _ _ _ _ (bodS k pre (b.drop n)) at hm
 cases hx : bodS k pre (b.drop n) with
 | error e =>
  have hm' := eff_er hm hx
  refine pe_seal (by simp) ?_
  refine runE mixed fi116 ?_
  refine effP [0, 1] (hm') ?_; trivial
 | ok x =>
  obtain ⟨v, q⟩ := x
  have hm' := eff_ok hm hx
  refine pe_seal (by simp) ?_
  refine runE mixed fi116 ?_
  refine effE mixed [0, 1] (hm') ?_; trivial
def rqIn (k : Int) : PR Req := bindP (needP 1 (cstP 5)) fun _ => bindP (needP 2 (cstP k)) fun _ => bindP (dfltP [] 3 dataP) fun pre => bindP (needP 4 (bodS k pre)) fun r => retP r
theorem rqIn_fits (k : Int) : FitsP (rqIn k) := bindP_fits needP_fits fun _ => bindP_fits needP_fits fun _ => bindP_fits dfltP_fits fun _ => bindP_fits needP_fits fun _ => retP_fits
theorem rq1_c {B : List UInt8 → Prop} (hB : BodB B) (k : Int) (b : List UInt8) (n : Nat) (hn : n ≤ b.length) (hb : b.length ≤ 1099511627776) (hh : B b) :
 Eff Tryz.prog 114 [.agg [.ptr 0 0], .iptr I64 k 0, .ptr 1 0] b n [rq0 k (.raw (.slice none 0 0))] (fun _ => .tup []) (fun r => [rqO (ReqT.cells r)]) (rqIn k (b.drop n)) := by
 refine eff_of (fun _ => Nat.le_refl _) ?_
 obtain ⟨X, hX0⟩ : ∃ X, X = rqIn k (b.drop n) := ⟨_, rfl⟩
 rw [← hX0]
 have hX := hX0.trans bind_x0
 clear hX0
 unfold rqIn at hX
 refine runE mixed fi114 ?_
 have c1 := mcst_c 1 (by omega) 5 b (n) hn hb
 rcases h1 : needP 1 (cstP 5) (b.drop (n)) with e | ⟨v1, k1⟩
 · have c1' := eff_er c1 h1
   obtain rfl := bind_xe hX h1
   refine effP [0] (c1') ?_; trivial
 replace hX := bind_xo hX h1
 have c1' := eff_ok c1 h1
 have f1 := fits_at needP_fits hn h1
 refine effE mixed [0] (c1') ?_
 have c2 := mcst_c 2 (by omega) k b (n + k1) f1 hb
 rcases h2 : needP 2 (cstP k) (b.drop (n + k1)) with e | ⟨v2, k2⟩
 · have c2' := eff_er c2 h2
   obtain rfl := bind_xe hX h2
   refine effP [0] (c2') ?_; trivial
 replace hX := bind_xo hX h2
 have c2' := eff_ok c2 h2
 have f2 := fits_at needP_fits f1 h2
 refine effE mixed [0] (c2') ?_
 have c3 := mpre_c 3 (by omega) b (n + k1 + k2) f2 hb
 rcases h3 : dfltP [] 3 dataP (b.drop (n + k1 + k2)) with e | ⟨v3, k3⟩
 · have c3' := eff_er c3 h3
   obtain rfl := bind_xe hX h3
   refine effP [0] (c3') ?_; trivial
 replace hX := bind_xo hX h3
 have c3' := eff_ok c3 h3
 have f3 := fits_at dfltP_fits f2 h3
 refine effE mixed [0] (c3') ?_
 have c4 := need1 116 4 (by omega) b (n + k1 + k2 + k3) f3 hb 53 _ (cln_rq0 k v3) (bodS k v3) inP_fits _ (fun r => cln_ty ReqT r) (rq11_c hB k v3 (takeC (b.drop _)) 0 (Nat.zero_le _) (tkC_le hb) (hB.tk _ (hB.dr _ _ hh)))
 rcases h4 : needP 4 (bodS k v3) (b.drop (n + k1 + k2 + k3)) with e | ⟨v4, k4⟩
 · have c4' := eff_er c4 h4
   obtain rfl := bind_xe hX h4
   refine effP [0, 1] (c4') ?_; trivial
 replace hX := bind_xo hX h4
 have c4' := eff_ok c4 h4
 have f4 := fits_at needP_fits f3 h4
 refine effE mixed [0, 1] (c4') ?_
 subst hX
 simp only [shiftP, retP]
 with_reducible refine sxE ?_
 exact congrArg (Value.int .i64) (by omega)
def reqP (k : Nat) : PR Req := inP (appB k) (inP 48 (rqIn k))
theorem readReq_c {B : List UInt8 → Prop} (hB : BodB B) (k : Nat) (hk : k ≤ 30) (b : List UInt8) (n : Nat) (hn : n ≤ b.length) (hb : b.length ≤ 1099511627776) (hh : B b) :
 Eff Tryz.prog 57 [.agg [.ptr 0 0], rI (k : Nat)] b n [] (fun r => .agg (ReqT.cells r)) (fun _ => []) (reqP k (b.drop n)) := by
 have h1 := rq1_c hB (k : Nat) (takeC (takeC (b.drop n))) 0 (Nat.zero_le _) (Nat.le_trans (takeC_len _) (tkC_le hb)) (hB.tk _ (hB.tk _ (hB.dr _ _ hh)))
 rw [List.drop_zero] at h1
 have hc : Cln [rI (k : Nat), .raw (.slice none 0 0), .raw (.int .u32 0), .raw (.slice none 0 0), rS ⟨#[]⟩, .raw (.slice none 0 0), rS ⟨#[]⟩, rI 0, rI 0, rI 0, rI 0, .raw (.slice none 0 0), .raw (.slice none 0 0), .raw (.slice none 0 0)] := cln_raw (cln_raw (cln_raw (cln_raw (cln_raw (cln_raw (cln_raw (cln_raw (cln_raw (cln_raw (cln_raw (cln_raw (cln_raw (cln_raw cln_nil)))))))))))))
 have hm := applicationk 114 k hk b n hn hb (k : Nat) 53 _ hc (rqIn k) (rqIn_fits k) (fun r => ReqT.cells r) (fun r => cln_ty ReqT r) h1
 change Eff _ _ _ _ _ _ _ _ (reqP k (b.drop n)) at hm
 cases hx : reqP k (b.drop n) with
 | error e =>
  have hm' := eff_er hm hx
  refine pe_seal (by simp) ?_
  refine vc_fi fi57 (run_sound mixed 4 _ ?_)
  with_reducible refine sxE ?_
  refine si_frzc 3 2 (ty := I64) (x := ((k : Nat) : Int)) rfl trivial rfl rfl ?_
  refine goE mixed ?_
  refine effP [0, 4] (hm') ?_; trivial
 | ok x =>
  obtain ⟨v, q⟩ := x
  have hm' := eff_ok hm hx
  refine pe_seal (by simp) ?_
  refine vc_fi fi57 (run_sound mixed 4 _ ?_)
  with_reducible refine sxE ?_
  refine si_frzc 3 2 (ty := I64) (x := ((k : Nat) : Int)) rfl trivial rfl rfl ?_
  refine goE mixed ?_
  refine effE mixed [0, 4] (hm') ?_; trivial
theorem readReq1_c {B : List UInt8 → Prop} (hB : BodB B) (k : Nat) (hk : k ≤ 30) (b : List UInt8) (n : Nat) (hn : n ≤ b.length) (hb : b.length ≤ 1099511627776) (hh : B b) :
 Eff Tryz.prog 56 [.agg [.ptr 0 0], .iptr I64 (k : Nat) 0] b n [] (fun r => .agg (ReqT.cells r)) (fun _ => []) (reqP k (b.drop n)) := by
 have hm := readReq_c hB k hk b n hn hb hh
 cases hx : reqP k (b.drop n) with
 | error e =>
  have hm' := eff_er hm hx
  refine pe_seal (by simp) ?_
  refine runE mixed fi56 ?_
  refine effP [0] (hm') ?_; trivial
 | ok x =>
  obtain ⟨v, q⟩ := x
  have hm' := eff_ok hm hx
  refine pe_seal (by simp) ?_
  refine runE mixed fi56 ?_
  refine effE mixed [0] (hm') ?_; trivial
theorem dpanR_c (o : SObj) (T : TypeId) (x : Value) (R : List SObj) (K : List SObj → Prop) (h : ∀ G, K (o :: .cells T [rI 6] :: (R ++ G))) : DCall Tryz.prog 120 [.ptr 1 0] (some wrongV) (o :: .cells T [.raw x] :: R) K := by
 refine recE mixed fi120 ?_
 exact h _
def badR (k : Nat) (b : List UInt8) : Prop := (∃ e, reqP k b = .error e) ∨ ∃ r m, reqP k b = .ok (r, m) ∧ m < b.length
theorem decodeR_bad {B : List UInt8 → Prop} (hB : BodB B) (k : Nat) (hk : k ≤ 30) (b : List UInt8) (hb : b.length ≤ 1099511627776) (hh : B b) (hbad : badR k b) : PC Tryz.prog 58 [.isl .u8 b, .fn 56 [] [.iptr I64 (k : Nat) 0], .fn 51 [] [], .fn 52 [] []] (.tup [.agg (ReqT.cells ReqT.dflt), rI 6]) := by
 have hnew := new_c b (by omega)
 have hread := readReq1_c hB k hk b 0 (Nat.zero_le _) hb hh
 rw [List.drop_zero] at hread
 refine pc_seal rfl rfl ?_
 refine defE mixed fi58 ?_
 refine goE mixed ?_
 refine effE mixed [] (hnew) ?_
 rcases hbad with ⟨e, hx⟩ | ⟨r, m, hx, hm⟩
 · have hr := eff_er hread hx
   refine effP [2] (hr) ?_
   refine ⟨by simp, dpanR_c _ _ _ _ _ fun G => ?_⟩
   with_reducible refine sxE ?_
   exact ⟨rfl, rfl, rfl, rfl, rfl, rfl, rfl, rfl, rfl, rfl, rfl, rfl, rfl, rfl⟩
 · have hr := eff_ok hread hx
   rw [Nat.zero_add] at hr
   refine effE mixed [2] (hr) ?_
   refine effP [2] (done_f b m hm) ?_
   refine ⟨by simp, dpanR_c _ _ _ _ _ fun G => ?_⟩
   with_reducible refine sxE ?_
   exact ⟨rfl, rfl, rfl, rfl, rfl, rfl, rfl, rfl, rfl, rfl, rfl, rfl, rfl, rfl⟩
theorem decReq_bad {B : List UInt8 → Prop} (hB : BodB B) (k : Nat) (hk : k ≤ 30) (b : List UInt8) (hb : b.length ≤ 1099511627776) (hh : B b) (hK : kindB b 0 = true) (hV : kindV b 0 = (k : Nat)) (hbad : badR k b) : PC Tryz.prog 22 [.isl .u8 b] (.tup [.agg (ReqT.cells ReqT.dflt), rI 6]) := by
 have hd := decodeR_bad hB k hk b hb hh hbad
 have hko := kindOf_c b 0 (by omega)
 rw [hK, hV] at hko
 refine pc_seal rfl rfl ?_
 refine runE mixed fi22 ?_
 refine callI_pure hko ?_
 refine run_sound mixed 6 _ ?_
 with_reducible refine sxE ?_
 refine si_frzc 4 1 (ty := I64) (x := ((k : Nat) : Int)) rfl trivial rfl rfl ?_
 refine goE mixed ?_
 refine callI_pure hd ?_
 refine goE mixed ?_; trivial
end Go.Proofs.YtmegaleepkmadaaGreatDoor

/- Contracts: messages: the first of the pre-authentication data; the law's own functions; closed facts. -/
namespace Go.Proofs.YtmegaleepkmadaaGreatDoor
open Go Go.Sx Go.Proofs
set_option maxRecDepth 100000
set_option maxHeartbeats 4000000
set_option linter.unusedSimpArgs false

theorem mcbytes_o (l : List UInt8) (hl : l.length ≤ 140737488355328) : VC Tryz.prog 54 [.isl .u8 l] [] (RowK .u8 l) := by
 refine vc_weak ?_
 refine runE mixed fi54 ?_
 refine ⟨⟨by omega, by omega⟩, ?_⟩
 exact rowK_row (h := 0) rfl (by omega)
def kdAt (l : List Pre) (k : Int) (j : Nat) : Bool := decide ((l.getD j PreT.dflt).1 = k)
def preV (l : List Pre) (k : Int) : List UInt8 := match firstN l.length (kdAt l k) with
 | some j => (l.getD j PreT.dflt).2
 | none => []
def preB (l : List Pre) (k : Int) : Bool := (firstN l.length (kdAt l k)).isSome
theorem preauth_c (l : List Pre) (k : Int) (hl : l.length ≤ 1125899906842624) (hb : ∀ j, j < l.length → (l.getD j PreT.dflt).2.length ≤ 140737488355328) : PC Tryz.prog 21 [.isl PreT l, rI k] (.tup [.isl .u8 (preV l k), rB (preB l k)]) := by
 refine pc_seal rfl rfl ?_
 refine runE mixed fi21 ?_
 refine si_cntD (fun i => [(10, .raw (.int .i64 ((i : Nat) : Int)))]) (l.length) (fun j => (fun j => !kdAt l k j) j = true) (by first | decide | simp) (fun i => rfl) ?_ fun i hi hall => ?_
 · (with_reducible refine sxE ?_ <;> try exact True.intro)
   all_goals (try rfl)
 have hwr : IntKind.i64.wrap ((i : Int) + 1) = ((i + 1 : Nat) : Int) := wrap_succ (by omega)
 refine goE mixed ?_
 have bad : i < (l.length) → (fun j => !kdAt l k j) i = false → allN (l.length) (fun j => !kdAt l k j) = false := fun hlt hv => allN_false hlt hv
 have fin : ¬ i < (l.length) → allN (l.length) (fun j => !kdAt l k j) = true := fun h => allN_true fun j hj => hall j (by omega)
 try dsimp only at bad fin hall
 refine ⟨fun hlt => ⟨⟨by omega, hlt⟩, fun h1 => ?_, fun h1 => ?_⟩, fun hge => ?_⟩
 · have hf : firstN l.length (kdAt l k) = some i := firstN_some hlt (decide_eq_true h1) (fun j hj => by simpa using hall j hj)
   have hv : preV l k = (l.getD i PreT.dflt).2 := by unfold preV; rw [hf]
   have hB : preB l k = true := by unfold preB; rw [hf]; rfl
   have hbl := hb i hlt
   rw [hv, hB]
   refine callI_rowK (mcbytes_o _ hbl) rfl rfl (fun h0 => ?_) ?_
   · refine goE mixed ?_
     rw [h0]
   · refine goE mixed ?_
     exact ⟨⟨Nat.le_refl _, by omega⟩, List.take_of_length_le (Nat.le_refl _)⟩
 · refine ⟨hlt, next_all (fun j hj => by simpa using hall j hj) (by simpa [kdAt] using h1), ⟨[_], rfl⟩, ?_⟩
   with_reducible refine sx1 hwr ?_; trivial
 · have hf : firstN l.length (kdAt l k) = none := firstN_none (fun j hj => by simpa using hall j (by omega))
   have hv : preV l k = [] := by unfold preV; rw [hf]
   have hB : preB l k = false := by unfold preB; rw [hf]; rfl
   rw [hv, hB]
   exact ⟨rfl, rfl⟩
theorem lnum_c (n : Int) : PC Tryz.prog 14 [rI n] (rI n) := by
 refine pc_of rfl rfl ?_
 refine runE mixed fi14 ?_; trivial
def tgsP : Prin := ([⟨#[107, 114, 98, 116, 103, 116]⟩, ⟨#[82]⟩], ⟨#[82]⟩)
theorem lrealm_c : PC Tryz.prog 17 [] (.agg (PrinT.cells tgsP)) := by
 refine pc_seal rfl rfl ?_
 refine runE mixed fi17 ?_
 exact ⟨⟨by decide, by decide⟩, rfl, rfl⟩
theorem vlist0_c : PC Tryz.prog 112 [.isl PreT []] (rB true) := by
 refine pc_of rfl rfl ?_
 refine runE mixed fi112 ?_
 refine si_cntD (fun i => [(10, .raw (.int .i64 ((i : Nat) : Int)))]) (0) (fun j => (fun _ => true) j = true) (by first | decide | simp) (fun i => rfl) ?_ fun i hi hall => ?_
 · (with_reducible refine sxE ?_ <;> try exact True.intro)
   all_goals (try rfl)
 have hwr : IntKind.i64.wrap ((i : Int) + 1) = ((i + 1 : Nat) : Int) := wrap_succ (by omega)
 refine goE mixed ?_
 have bad : i < (0) → (fun _ => true) i = false → allN (0) (fun _ => true) = false := fun hlt hv => allN_false hlt hv
 have fin : ¬ i < (0) → allN (0) (fun _ => true) = true := fun h => allN_true fun j hj => hall j (by omega)
 try dsimp only at bad fin hall
 exact ⟨fun h => absurd h (by omega), fun _ => trivial⟩
theorem vtick0_c : PC Tryz.prog 113 [.isl TickT []] (rB true) := by
 refine pc_of rfl rfl ?_
 refine runE mixed fi113 ?_
 refine si_cntD (fun i => [(10, .raw (.int .i64 ((i : Nat) : Int)))]) (0) (fun j => (fun _ => true) j = true) (by first | decide | simp) (fun i => rfl) ?_ fun i hi hall => ?_
 · (with_reducible refine sxE ?_ <;> try exact True.intro)
   all_goals (try rfl)
 have hwr : IntKind.i64.wrap ((i : Int) + 1) = ((i + 1 : Nat) : Int) := wrap_succ (by omega)
 refine goE mixed ?_
 have bad : i < (0) → (fun _ => true) i = false → allN (0) (fun _ => true) = false := fun hlt hv => allN_false hlt hv
 have fin : ¬ i < (0) → allN (0) (fun _ => true) = true := fun h => allN_true fun j hj => hall j (by omega)
 try dsimp only at bad fin hall
 exact ⟨fun h => absurd h (by omega), fun _ => trivial⟩
def cliA : Prin := ([⟨#[97]⟩], ⟨#[82]⟩)
def rq1 : Req := (10, [], 0, cliA, tgsP, 0, 100, 0, 7, [1, 2], [], [])
def rq2 : Req := (10, [], 0, cliA, tgsP, 0, 100, 0, 7, [1, 1], [], [])
def rq3 : Req := (12, [], 0, cliA, tgsP, 0, 100, 0, 7, [1, 2], [], [])
def fl1 : Fail := (25, 10, 0, ([], ⟨#[]⟩), tgsP, ⟨#[]⟩, [])
theorem okstr (s : ByteArray) (h : s.size ≤ 140737488355328) : Ty.str.ok s := h
theorem okcli : PrinT.ok cliA := by
 refine ⟨⟨by decide, fun x hx => ?_⟩, okstr _ (by decide)⟩
 simp [cliA] at hx; subst hx; exact okstr _ (by decide)
theorem oktgs : PrinT.ok tgsP := by
 refine ⟨⟨by decide, fun x hx => ?_⟩, okstr _ (by decide)⟩
 simp [tgsP] at hx; rcases hx with rfl | rfl <;> exact okstr _ (by decide)
theorem rqC (k : Int) (pf : List Int) (hp : pf.length ≤ 10) : ReqC (k, [], 0, cliA, tgsP, 0, 100, 0, 7, pf, [], []) true true [] [] where
 ok := ⟨trivial, ⟨Nat.zero_le _, fun x hx => by cases hx⟩, trivial, okcli, oktgs, trivial, trivial, trivial, trivial, ⟨by show pf.length ≤ _; omega, fun _ _ => trivial⟩, ⟨Nat.zero_le _, fun x hx => by cases hx⟩, ⟨Nat.zero_le _, fun x hx => by cases hx⟩⟩
 opt := ⟨Int.le_refl _, by show (0 : Int) ≤ 4294967295; decide⟩
 va := vlist0_c
 vt := vtick0_c
 wa := fun h => absurd rfl h
 wt := fun h => absurd rfl h
theorem okfl : FailT.ok fl1 := ⟨trivial, trivial, trivial, ⟨⟨by decide, fun x hx => by cases hx⟩, okstr _ (by decide)⟩, oktgs, okstr _ (by decide), ⟨by decide, fun x hx => by cases hx⟩⟩
theorem vrq1 : vReq rq1 true true [] [] = true := by decide +kernel
theorem vrq2 : vReq rq2 true true [] [] = false := by decide +kernel
theorem vrq3 : vReq rq3 true true [] [] = false := by decide +kernel
theorem lbod : (bodyS rq1 [] []).length = 76 := by decide +kernel
def rqB : List UInt8 := reqS rq1 [] []
theorem lrqB : rqB.length = 92 := by decide +kernel
theorem hrqB : (rqB.getD 0 Ty.u8.dflt) = 106 := by decide +kernel
theorem vfl1 : vFail fl1 = true := by decide +kernel
theorem lfl1 : (failS fl1).length = 58 := by decide +kernel
theorem hfl1 : (failS fl1).getD 0 Ty.u8.dflt = 126 := by decide +kernel
theorem rd1 : reqP 10 (rqB ++ [0]) = .ok (rq1, 92) := by kernel_rfl
theorem bad1 : badR 10 (rqB ++ [0]) := .inr ⟨rq1, 92, rd1, by rw [List.length_append, lrqB]; decide⟩
def noAT (b : List UInt8) : Prop := ∀ x ∈ b, x ≠ tagB 8 ∧ x ≠ tagB 9
theorem noAT_next {b : List UInt8} {i q : Nat} (h : ∀ x ∈ b, x ≠ tagB i) : nextB i (b.drop q) = false := by
 cases hn : nextB i (b.drop q) with
 | false => rfl
 | true =>
  simp only [nextB, Bool.and_eq_true, decide_eq_true_eq, ne_eq] at hn
  obtain ⟨h1, h2⟩ := hn
  exact absurd h2 (h _ (List.mem_of_mem_drop (getD_mem (by omega))))
theorem noATB : BodB noAT where
 tk := fun r h x hx => h x (List.mem_of_mem_take (List.mem_of_mem_drop hx))
 dr := fun r n h x hx => h x (List.mem_of_mem_drop hx)
 h := fun k pre c h => ⟨fun q _ hn => (by rw [noAT_next (fun x hx => (h x hx).1)] at hn; cases hn), fun _ _ _ _ _ _ _ _ _ q _ hn => (by rw [noAT_next (fun x hx => (h x hx).2)] at hn; cases hn), fun _ _ _ _ _ _ _ _ q _ hn => (by rw [noAT_next (fun x hx => (h x hx).2)] at hn; cases hn)⟩
theorem rqAT : noAT (rqB ++ [0]) := by
 have h : (rqB ++ [0]).all (fun x => decide (x ≠ tagB 8) && decide (x ≠ tagB 9)) = true := by decide +kernel
 intro x hx
 have := List.all_eq_true.1 h x hx
 simpa using this
theorem krq : kindB (rqB ++ [0]) 0 = true ∧ kindV (rqB ++ [0]) 0 = ((10 : Nat) : Int) := ⟨by decide +kernel, by decide +kernel⟩
theorem dec1_c : PC Tryz.prog 22 [.isl .u8 (rqB ++ [0])] (.tup [.agg (ReqT.cells ReqT.dflt), rI 6]) :=
 decReq_bad noATB 10 (by decide) (rqB ++ [0]) (by rw [List.length_append, lrqB]; decide) rqAT krq.1 krq.2 bad1
end Go.Proofs.YtmegaleepkmadaaGreatDoor

/- Contracts: messages: known. -/
namespace Go.Proofs.YtmegaleepkmadaaGreatDoor
open Go Go.Sx Go.Proofs
set_option maxRecDepth 100000
set_option maxHeartbeats 4000000
set_option linter.unusedSimpArgs false

theorem mknown_c : PC Tryz.prog 5 [] (rB true) := by
 have hc1 := rqC 10 [1, 2] (by decide)
 have hc2 := rqC 10 [1, 1] (by decide)
 have hc3 := rqC 12 [1, 2] (by decide)
 have cb := body_c hc1
 have ce := encReq_o hc1 vrq1 (fun h => by have := lrqB; unfold rqB at this; change reqS rq1 [] [] = [] at h; rw [h] at this; cases this)
 have cf := encFail_c fl1 okfl
 have v2 := validReq_c hc2
 have v3 := validReq_c hc3
 have cd := dec1_c
 change PC _ _ [.agg (ReqT.cells rq1)] (.tup [.isl .u8 (if vReq rq1 true true [] [] then bodyS rq1 [] [] else []), rI (if vReq rq1 true true [] [] then 0 else 2)]) at cb
 change VC _ _ [.agg (ReqT.cells rq1)] [] (RowT .u8 rqB _) at ce
 change PC _ _ [.agg (ReqT.cells rq2)] (rB (vReq rq2 true true [] [])) at v2
 change PC _ _ [.agg (ReqT.cells rq3)] (rB (vReq rq3 true true [] [])) at v3
 rw [vrq1, if_pos rfl, if_pos rfl] at cb
 rw [vfl1, if_pos rfl, if_pos rfl] at cf
 rw [vrq2] at v2
 rw [vrq3] at v3
 have l1 := lbod
 have l2 := lrqB
 have l3 := lfl1
 have g2 := hrqB
 have g3 := hfl1
 have ct := type_c (failS fl1)
 have ht : typB (failS fl1) = true ∧ typN (failS fl1) = 30 := by unfold typB typN; rw [show (failS fl1).getD 0 0 = 126 from g3]; refine ⟨?_, by decide⟩; rw [decide_eq_true (fun e => by rw [e] at l3; cases l3)]; decide
 rw [ht.1, if_pos rfl, if_pos rfl, ht.2] at ct
 clear ht hc1 hc2 hc3
 generalize bodyS rq1 [] [] = bd at *
 generalize rqB = rb at *
 generalize failS fl1 = fb at *
 refine pc_of rfl rfl ?_
 refine runE mixed fi5 ?_
 refine ⟨by decide, callI_pure lrealm_c ?_⟩
 refine run_sound mixed 5 _ ?_
 with_reducible refine sxE ?_
 refine si_freeze 0 rfl rfl (by simp) ?_ ?_ ?_
 · with_reducible refine sxE ?_; trivial
 · with_reducible refine sxE ?_; trivial
 with_reducible refine sxE ?_
 refine si_freeze 1 rfl rfl (by simp) ?_ ?_ ?_
 · with_reducible refine sxE ?_; trivial
 · with_reducible refine sxE ?_; trivial
 with_reducible refine sxE ?_
 refine goE mixed ?_
 refine callI_pure lrealm_c ?_
 refine goE mixed ?_
 refine callI_pure (cb.arg ?_) ?_
 · simp (maxSteps := 3000000) only [rq1, cliA, tgsP, go_sem, ↓zA, ↓reduceIte, ↓reduceDIte, reduceCtorEq, Nat.reduceAdd, Nat.reduceSub, Nat.reduceLeDiff, Nat.reduceLT, Nat.reduceEqDiff, Nat.reduceBEq, Nat.reduceMul, Int.reduceToNat, Int.reduceEq, Int.reduceLT, Int.reduceLE] <;> try simp only [zB]
 refine goE mixed ?_
 refine callI_rowT (VC.arg ce ?_) rfl rfl (fun h0 => by rw [h0] at l2; cases l2) ?_
 · simp (maxSteps := 3000000) only [rq1, cliA, tgsP, go_sem, ↓zA, ↓reduceIte, ↓reduceDIte, reduceCtorEq, Nat.reduceAdd, Nat.reduceSub, Nat.reduceLeDiff, Nat.reduceLT, Nat.reduceEqDiff, Nat.reduceBEq, Nat.reduceMul, Int.reduceToNat, Int.reduceEq, Int.reduceLT, Int.reduceLE] <;> try simp only [zB]
 refine goE mixed ?_
 refine callI_pure (cf.arg ?_) ?_
 · simp (maxSteps := 3000000) only [fl1, tgsP, go_sem, ↓zA, ↓reduceIte, ↓reduceDIte, reduceCtorEq, Nat.reduceAdd, Nat.reduceSub, Nat.reduceLeDiff, Nat.reduceLT, Nat.reduceEqDiff, Nat.reduceBEq, Nat.reduceMul, Int.reduceToNat, Int.reduceEq, Int.reduceLT, Int.reduceLE] <;> try simp only [zB]
 refine goE mixed ?_
 refine callI_pure (lnum_c _) ?_
 refine goE mixed ?_
 refine callI_pure (lnum_c _) ?_
 refine goE mixed ?_
 refine callI_pure (lnum_c _) ?_
 have hw00 : IntKind.i64.wrap (0 + 0) = 0 := by decide
 refine run_sound mixed 600 _ ?_
 simp (maxSteps := 3000000) only [hw00, g2, g3, go_sem, ↓zA, ↓reduceIte, ↓reduceDIte, reduceCtorEq, Nat.reduceAdd, Nat.reduceSub, Nat.reduceLeDiff, Nat.reduceLT, Nat.reduceEqDiff, Nat.reduceBEq, Nat.reduceMul, Int.reduceToNat, Int.reduceEq, Int.reduceLT, Int.reduceLE] <;> try simp only [zB]
 refine ⟨fun _ => ⟨fun _ => ⟨by omega, by omega, fun _ => ⟨fun _ => ⟨by omega, fun h => absurd rfl h, fun _ => ?_⟩, fun h => absurd (by omega) h⟩, fun h => absurd rfl h⟩, fun h => absurd (by omega) h⟩, fun h => absurd (by omega) h⟩
 refine callI_inl fi20 ?_
 refine run_sound mixed 600 _ ?_
 simp (maxSteps := 3000000) only [opK, g2, go_sem, ↓zA, ↓reduceIte, ↓reduceDIte, reduceCtorEq, Nat.reduceAdd, Nat.reduceSub, Nat.reduceLeDiff, Nat.reduceLT, Nat.reduceEqDiff, Nat.reduceBEq, Nat.reduceMul, Int.reduceToNat, Int.reduceEq, Int.reduceLT, Int.reduceLE] <;> try simp only [zB]
 refine ⟨fun h => absurd h (by omega), fun _ => ⟨by omega, by omega, callI_pure (mbtw_c _ _ _) ?_⟩⟩
 refine run_sound mixed 600 _ ?_
 simp (maxSteps := 3000000) only [opK, go_sem, ↓zA, ↓reduceIte, ↓reduceDIte, reduceCtorEq, Nat.reduceAdd, Nat.reduceSub, Nat.reduceLeDiff, Nat.reduceLT, Nat.reduceEqDiff, Nat.reduceBEq, Nat.reduceMul, Int.reduceToNat, Int.reduceEq, Int.reduceLT, Int.reduceLE] <;> try simp only [zB]
 have hty : IntKind.i64.wrap (IntKind.i64.wrap ((UInt8.toNat 106 : Nat) : Int) - 96) = 10 := by decide
 refine ⟨fun h => absurd h (by decide), fun _ => ?_⟩
 rw [hty]
 refine goE mixed ?_
 refine callI_pure ct ?_
 refine goE mixed ?_
 have ct0 : PC Tryz.prog 20 [.isl .u8 [UInt8.ofNat 48, UInt8.ofNat 0]] (.tup [rI 0, rI 6]) := type_c [48, 0]
 refine ⟨⟨by decide, by decide⟩, callI_hand 5 ?_⟩
 with_reducible refine sxE ?_
 refine callI_pure ct0 ?_
 refine run_sound mixed 10 _ ?_
 with_reducible refine sxE ?_
 refine ⟨by decide, ?_⟩
 refine si_freeze 6 rfl rfl (by simp) ?_ ?_ ?_
 · with_reducible refine sxE ?_; trivial
 · with_reducible refine sxE ?_; trivial
 with_reducible refine sxE ?_
 refine goE mixed ?_
 have cp := preauth_c [(2, []), (2, [UInt8.ofNat 1])] 2 (by simp) (fun j hj => by
  match j, hj with
  | 0, _ => decide
  | 1, _ => decide)
 have cp1 : preV [(2, []), (2, [UInt8.ofNat 1])] 2 = [] := by decide
 have cp2 : preB [(2, []), (2, [UInt8.ofNat 1])] 2 = true := by decide
 rw [cp1, cp2] at cp
 refine callI_hand 7 ?_
 with_reducible refine sxE ?_
 refine callI_pure (cp.arg ?_) ?_
 · with_reducible refine sxE ?_; trivial
 refine goE mixed ?_
 have l4 : (rb ++ [UInt8.ofNat 0]).length = rb.length + 1 := List.length_append
 refine ⟨by decide, ⟨by omega, by omega⟩, callI_hand 9 ?_⟩
 with_reducible refine sxE ?_
 rw [List.take_of_length_le (by omega)]
 refine ⟨by omega, by omega, callI_pure cd ?_⟩
 refine goE mixed ?_
 refine callI_pure (lnum_c _) ?_
 refine goE mixed ?_
 refine callI_pure (lnum_c _) ?_
 refine run_sound mixed 600 _ ?_
 with_reducible refine sx1 hw00 ?_
 refine callI_pure (lnum_c _) ?_
 refine goE mixed ?_
 refine callI_pure (lnum_c _) ?_
 refine run_sound mixed 14 _ ?_
 with_reducible refine sxE ?_
 refine si_freeze 12 rfl rfl (by simp) ?_ ?_ ?_
 · with_reducible refine sxE ?_; trivial
 · with_reducible refine sxE ?_; trivial
 with_reducible refine sxE ?_
 refine goE mixed ?_
 refine callI_pure (v2.arg ?_) ?_
 · simp (maxSteps := 3000000) only [rq2, cliA, tgsP, go_sem, ↓zA, ↓reduceIte, ↓reduceDIte, reduceCtorEq, Nat.reduceAdd, Nat.reduceSub, Nat.reduceLeDiff, Nat.reduceLT, Nat.reduceEqDiff, Nat.reduceBEq, Nat.reduceMul, Int.reduceToNat, Int.reduceEq, Int.reduceLT, Int.reduceLE] <;> try simp only [zB]
 refine goE mixed ?_
 refine callI_pure (v3.arg ?_) ?_
 · simp (maxSteps := 3000000) only [rq3, cliA, tgsP, go_sem, ↓zA, ↓reduceIte, ↓reduceDIte, reduceCtorEq, Nat.reduceAdd, Nat.reduceSub, Nat.reduceLeDiff, Nat.reduceLT, Nat.reduceEqDiff, Nat.reduceBEq, Nat.reduceMul, Int.reduceToNat, Int.reduceEq, Int.reduceLT, Int.reduceLE] <;> try simp only [zB]
 refine goE mixed ?_; trivial
end Go.Proofs.YtmegaleepkmadaaGreatDoor

/- MessageTypes: the law answers true. -/
namespace Go.Proofs.YtmegaleepkmadaaGreatDoor
open Go Go.Sx Go.Proofs
set_option maxRecDepth 100000
set_option maxHeartbeats 4000000
set_option linter.unusedSimpArgs false

def s300 (l : List Pre) (j : Nat) : Bool := decide (((l.getD j PreT.dflt).2.length : Int) ≤ 300)
def fewB (l : List Pre) : Bool := allN l.length (s300 l) && decide ((l.length : Int) ≤ 20)
theorem few_c (l : List Pre) (hl : l.length ≤ 1125899906842624) : PC Tryz.prog 16 [.isl PreT l] (rB (fewB l)) := by
 refine pc_of rfl rfl ?_
 refine runE mixed fi16 ?_
 refine si_cntD (fun i => [(3, .raw (.int .i64 ((i : Nat) : Int)))]) (l.length) (fun j => (s300 l) j = true) (by first | decide | simp) (fun i => rfl) ?_ fun i hi hall => ?_
 · (with_reducible refine sxE ?_ <;> try exact True.intro)
   all_goals (try rfl)
 have hwr : IntKind.i64.wrap ((i : Int) + 1) = ((i + 1 : Nat) : Int) := wrap_succ (by omega)
 refine goE mixed ?_
 have bad : i < (l.length) → (s300 l) i = false → allN (l.length) (s300 l) = false := fun hlt hv => allN_false hlt hv
 have fin : ¬ i < (l.length) → allN (l.length) (s300 l) = true := fun h => allN_true fun j hj => hall j (by omega)
 try dsimp only at bad fin hall
 refine ⟨fun hlt => ⟨⟨by omega, hlt⟩, fun h => ?_, fun h => ?_⟩, fun hge => ?_⟩
 · unfold fewB; rw [bad hlt (decide_eq_false (by omega))]; rfl
 · refine ⟨hlt, next_all hall (decide_eq_true (by omega)), ⟨[], rfl⟩, ?_⟩
   with_reducible refine sx1 hwr ?_; trivial
 · unfold fewB; rw [fin hge]; rfl
end Go.Proofs.YtmegaleepkmadaaGreatDoor

