/- Contracts: the reference's reading of error messages. -/
import Derived.Test.YthmoognbccfpiaaGreatDoorP24
import Derived.Test.YthmoognbccfpiaaGreatDoorP25
import Derived.Test.YthmoognbccfpiaaGreatDoorP23
import Derived.Test.YthmoognbccfpiaaGreatDoorP21
set_option linter.unusedSimpArgs false
set_option linter.unusedVariables false
set_option linter.unusedSectionVars false
namespace Go.Proofs.YthmoognbccfpiaaGreatDoor
open Go Go.Sx Go.Proofs
set_option maxRecDepth 100000
set_option maxHeartbeats 4000000
set_option linter.unusedSimpArgs false

def dgN (l : List (List UInt8)) (i : Nat) : List Pre := (l.take i).map datG
theorem dgN_succ {l : List (List UInt8)} {i : Nat} (h : i < l.length) : dgN l (i + 1) = dgN l i ++ [datG (l.getD i (Ty.slice .u8).dflt)] := by unfold dgN; rw [take_succ_getD (d := (Ty.slice .u8).dflt) h]; simp
theorem dgN_len {l : List (List UInt8)} {i : Nat} (h : i ≤ l.length) : (dgN l i).length = i := by simp [dgN]; omega
theorem dgN_all (l : List (List UInt8)) : dgN l l.length = l.map datG := by unfold dgN; rw [List.take_length]
theorem rgetData_c (b : List UInt8) (hb : b.length ≤ 1048576) : PC Tryz.prog 102 [.isl .u8 b] (.isl PreT (preG b)) := by
 have hc := contents_c b (by omega)
 have hl := conR_len b
 have he := elements_c (conR b) (by omega)
 have hm := elsR_mem (conR b).length (conR b)
 have hle := elsR_len (conR b).length (conR b)
 have hd : preG b = (elsR (conR b).length (conR b)).map datG := rfl
 rw [hd]
 clear hd
 generalize elsR (conR b).length (conR b) = l at *
 rw [← dgN_all]
 refine pc_seal rfl rfl ?_
 refine runE mixed fi102 ?_
 refine callI_pure hc ?_
 refine goE mixed ?_
 refine callI_pure he ?_
 refine goE mixed ?_
 refine si_accN 3 PreT (dgN l) (fun i => [(5, rI i)]) l.length (fun _ => True) rfl (by simp) (by simp [dgN]) rfl (fun i => rfl) ?_ fun i hi _ => ?_
 · with_reducible refine sxE ?_; trivial
 have hwr : IntKind.i64.wrap ((i : Int) + 1) = ((i + 1 : Nat) : Int) := wrap_succ (by omega)
 have hln := dgN_len hi
 refine goE mixed ?_
 refine ⟨fun hlt => ?_, fun hge => ?_⟩
 · have hmm := hm _ (getD_mem (d := (Ty.slice .u8).dflt) hlt)
   have hst := dgN_succ hlt
   have hse : datG (l.getD i (Ty.slice .u8).dflt) = ((gIntR (itmR (l.getD i (Ty.slice .u8).dflt) 0) : Int), conR (itmR (l.getD i (Ty.slice .u8).dflt) 1)) := rfl
   refine ⟨⟨by omega, hlt⟩, ⟨by omega, hlt⟩, ?_⟩
   generalize l.getD i (Ty.slice .u8).dflt = x at *
   have q0 := itmR_len x 0
   have q1 := itmR_len x 1
   have q3 := conR_len (itmR x 1)
   refine callR_pure (item_c x 0 (by omega) (by omega)) ?_
   refine goE mixed ?_
   refine callR_pure (getInt_c _ (by omega)) ?_
   refine goE mixed ?_
   refine callR_pure (item_c x 1 (by omega) (by omega)) ?_
   refine goE mixed ?_
   refine callR_pure (getBytes_c _ (by omega)) ?_
   refine goE mixed ?_
   refine ⟨⟨by omega, by omega⟩, acc_next [_, _] [] hlt trivial (by rw [hst, hse]; rfl) ?_⟩
   with_reducible refine sx3 hwr hst ?_; trivial
 · obtain rfl : i = l.length := by omega
   refine ⟨⟨Nat.le_refl _, by omega⟩, List.take_of_length_le (Nat.le_refl _)⟩
theorem preG_len (b : List UInt8) : (preG b).length ≤ b.length := by
 unfold preG; rw [List.length_map]; exact elt_len b
theorem rgetPre_c (b : List UInt8) (hb : b.length ≤ 1048576) : PC Tryz.prog 41 [.isl .u8 b] (.isl PreT (preG b)) := by
 have hc := rgetData_c b hb
 have hl := preG_len b
 generalize preG b = l at *
 refine pc_seal rfl rfl ?_
 refine runE mixed fi41 ?_
 refine callI_pure hc ?_
 refine goE mixed ?_
 refine si_accN 3 PreT (fun i => l.take i) (fun i => [(5, rI i)]) l.length (fun _ => True) rfl (by simp) (by simp) rfl (fun i => rfl) ?_ fun i hi _ => ?_
 · with_reducible refine sxE ?_; trivial
 have hwr : IntKind.i64.wrap ((i : Int) + 1) = ((i + 1 : Nat) : Int) := wrap_succ (by omega)
 have hln : (l.take i).length = i := List.length_take_of_le hi
 refine goE mixed ?_
 refine ⟨fun hlt => ?_, fun hge => ?_⟩
 · have hst := take_succ_getD (d := PreT.dflt) hlt
   refine ⟨⟨by omega, hlt⟩, ⟨by omega, hlt⟩, ⟨by omega, by omega⟩, acc_next [_, _] [] hlt trivial (by rw [hst]; rfl) ?_⟩
   with_reducible refine sx3 hwr hst ?_; trivial
 · obtain rfl : i = l.length := by omega
   refine ⟨⟨Nat.le_refl _, by omega⟩, by rw [List.take_of_length_le (Nat.le_refl _), List.take_of_length_le (Nat.le_refl _)]⟩
theorem okR_dat {y : List UInt8} (h : y.length ≤ 1048576) : PreT.ok (datG y) := ⟨trivial, okR_con (itm_le 1 h)⟩
theorem okR_pre {y : List UInt8} (h : y.length ≤ 1048576) : (Ty.slice PreT).ok (preG y) := okR_map (t := PreT) h fun _ hz => okR_dat hz
theorem con_le {y : List UInt8} (h : y.length ≤ 1048576) : (conR y).length ≤ 1048576 := Nat.le_trans (conR_len y) h
end Go.Proofs.YthmoognbccfpiaaGreatDoor

/- Contracts: the reference's reading of tickets and replies. -/
namespace Go.Proofs.YthmoognbccfpiaaGreatDoor
open Go Go.Sx Go.Proofs
set_option maxRecDepth 100000
set_option maxHeartbeats 4000000
set_option linter.unusedSimpArgs false

theorem rgetSeal_c (b : List UInt8) (hb : b.length ≤ 1048576) : PC Tryz.prog 44 [.isl .u8 b] (.agg (KeyT.cells (keyR b))) := by
 have hk := rgetKey_c b hb
 generalize keyR b = k at *
 refine pc_seal rfl rfl ?_
 refine runE mixed fi44 ?_
 refine callI_pure hk ?_
 refine goE mixed ?_; trivial
theorem rgetTick_c (b : List UInt8) (hb : b.length ≤ 1048576) : PC Tryz.prog 43 [.isl .u8 b] (.agg (TickT.cells (tickG b))) := by
 have hd : tickG b = (prnR (itmR (conR b) 1), keyR (itmR (conR b) 2)) := rfl
 rw [hd]
 have hc := contents_c b (by omega)
 have hl := conR_len b
 generalize conR b = s at *
 have q1 := itmR_len s 1
 have q2 := itmR_len s 2
 have i1 := item_c s 1 (by omega) (by omega)
 have i2 := item_c s 2 (by omega) (by omega)
 have c1 := rgetPrin_c (itmR s 1) (by omega)
 have c2 := rgetSeal_c (itmR s 2) (by omega)
 generalize prnR (itmR s 1) = p at *
 generalize keyR (itmR s 2) = k at *
 refine pc_seal rfl rfl ?_
 refine runE mixed fi43 ?_
 refine callI_pure hc ?_
 refine goE mixed ?_
 refine callI_pure (i1) ?_
 refine goE mixed ?_
 refine callI_pure (c1) ?_
 refine goE mixed ?_
 refine callI_pure (i2) ?_
 refine goE mixed ?_
 refine callI_pure (c2) ?_
 refine goE mixed ?_; trivial
theorem rvRpl_c (r : Rpl) (ho : RplT.ok r) : PC Tryz.prog 6 [.agg (RplT.cells r)] (rB (vRpl r)) := by
 have he : sRpl r = true → PC Tryz.prog 12 [.agg (RplT.cells r)] (.isl .u8 (rplS r)) := fun h => by
  have := rencRpl_c r (shR_ok h)
  rwa [rplA_ok h] at this
 have hv : vRpl r = (sRpl r && decide ((rplS r).length ≤ 65536)) := rfl
 have hs : sRpl r = (vKind r.1 && (vPre r.2.1 && (vPrin r.2.2.1 && (vTick r.2.2.2.1 && vSeal r.2.2.2.2)))) := rfl
 rw [hv]
 generalize rplS r = w at *
 generalize sRpl r = sf at *
 obtain ⟨k, l, p, t, s⟩ := r
 obtain ⟨_, o2, o3, o4, o5⟩ := ho
 have ht := rvtick_c t o4
 have hse := rvseal_c s
 dsimp only at hs
 clear hv
 refine pc_of rfl rfl ?_
 refine runE mixed fi6 ?_ <;> try with_reducible exact True.intro
 repeat' (first
  | (refine callI_pure (rkind_c _) ?_; refine run_sound mixed 600 _ ?_; simp (maxSteps := 3000000) only [go_sem, ↓zA, ↓reduceIte, ↓reduceDIte, reduceCtorEq, Nat.reduceAdd, Nat.reduceSub, Nat.reduceLeDiff, Nat.reduceLT, Nat.reduceEqDiff, Nat.reduceBEq, Nat.reduceMul, Int.reduceToNat, Int.reduceEq, Int.reduceLT, Int.reduceLE] <;> try simp only [zB])
  | (refine callR_pure (rkind_c _) ?_; refine run_sound mixed 600 _ ?_; simp (maxSteps := 3000000) only [go_sem, ↓zA, ↓reduceIte, ↓reduceDIte, reduceCtorEq, Nat.reduceAdd, Nat.reduceSub, Nat.reduceLeDiff, Nat.reduceLT, Nat.reduceEqDiff, Nat.reduceBEq, Nat.reduceMul, Int.reduceToNat, Int.reduceEq, Int.reduceLT, Int.reduceLE] <;> try simp only [zB])
  | (refine callF_pure (rkind_c _) ?_; refine run_sound mixed 600 _ ?_; simp (maxSteps := 3000000) only [go_sem, ↓zA, ↓reduceIte, ↓reduceDIte, reduceCtorEq, Nat.reduceAdd, Nat.reduceSub, Nat.reduceLeDiff, Nat.reduceLT, Nat.reduceEqDiff, Nat.reduceBEq, Nat.reduceMul, Int.reduceToNat, Int.reduceEq, Int.reduceLT, Int.reduceLE] <;> try simp only [zB])
  | (refine callI_pure (rvpre_c l o2.1) ?_; refine run_sound mixed 600 _ ?_; simp (maxSteps := 3000000) only [go_sem, ↓zA, ↓reduceIte, ↓reduceDIte, reduceCtorEq, Nat.reduceAdd, Nat.reduceSub, Nat.reduceLeDiff, Nat.reduceLT, Nat.reduceEqDiff, Nat.reduceBEq, Nat.reduceMul, Int.reduceToNat, Int.reduceEq, Int.reduceLT, Int.reduceLE] <;> try simp only [zB])
  | (refine callR_pure (rvpre_c l o2.1) ?_; refine run_sound mixed 600 _ ?_; simp (maxSteps := 3000000) only [go_sem, ↓zA, ↓reduceIte, ↓reduceDIte, reduceCtorEq, Nat.reduceAdd, Nat.reduceSub, Nat.reduceLeDiff, Nat.reduceLT, Nat.reduceEqDiff, Nat.reduceBEq, Nat.reduceMul, Int.reduceToNat, Int.reduceEq, Int.reduceLT, Int.reduceLE] <;> try simp only [zB])
  | (refine callF_pure (rvpre_c l o2.1) ?_; refine run_sound mixed 600 _ ?_; simp (maxSteps := 3000000) only [go_sem, ↓zA, ↓reduceIte, ↓reduceDIte, reduceCtorEq, Nat.reduceAdd, Nat.reduceSub, Nat.reduceLeDiff, Nat.reduceLT, Nat.reduceEqDiff, Nat.reduceBEq, Nat.reduceMul, Int.reduceToNat, Int.reduceEq, Int.reduceLT, Int.reduceLE] <;> try simp only [zB])
  | (refine callI_pure (rvp_c p o3) ?_; refine run_sound mixed 600 _ ?_; simp (maxSteps := 3000000) only [go_sem, ↓zA, ↓reduceIte, ↓reduceDIte, reduceCtorEq, Nat.reduceAdd, Nat.reduceSub, Nat.reduceLeDiff, Nat.reduceLT, Nat.reduceEqDiff, Nat.reduceBEq, Nat.reduceMul, Int.reduceToNat, Int.reduceEq, Int.reduceLT, Int.reduceLE] <;> try simp only [zB])
  | (refine callR_pure (rvp_c p o3) ?_; refine run_sound mixed 600 _ ?_; simp (maxSteps := 3000000) only [go_sem, ↓zA, ↓reduceIte, ↓reduceDIte, reduceCtorEq, Nat.reduceAdd, Nat.reduceSub, Nat.reduceLeDiff, Nat.reduceLT, Nat.reduceEqDiff, Nat.reduceBEq, Nat.reduceMul, Int.reduceToNat, Int.reduceEq, Int.reduceLT, Int.reduceLE] <;> try simp only [zB])
  | (refine callF_pure (rvp_c p o3) ?_; refine run_sound mixed 600 _ ?_; simp (maxSteps := 3000000) only [go_sem, ↓zA, ↓reduceIte, ↓reduceDIte, reduceCtorEq, Nat.reduceAdd, Nat.reduceSub, Nat.reduceLeDiff, Nat.reduceLT, Nat.reduceEqDiff, Nat.reduceBEq, Nat.reduceMul, Int.reduceToNat, Int.reduceEq, Int.reduceLT, Int.reduceLE] <;> try simp only [zB])
  | (refine callI_pure (ht) ?_; refine run_sound mixed 600 _ ?_; simp (maxSteps := 3000000) only [go_sem, ↓zA, ↓reduceIte, ↓reduceDIte, reduceCtorEq, Nat.reduceAdd, Nat.reduceSub, Nat.reduceLeDiff, Nat.reduceLT, Nat.reduceEqDiff, Nat.reduceBEq, Nat.reduceMul, Int.reduceToNat, Int.reduceEq, Int.reduceLT, Int.reduceLE] <;> try simp only [zB])
  | (refine callR_pure (ht) ?_; refine run_sound mixed 600 _ ?_; simp (maxSteps := 3000000) only [go_sem, ↓zA, ↓reduceIte, ↓reduceDIte, reduceCtorEq, Nat.reduceAdd, Nat.reduceSub, Nat.reduceLeDiff, Nat.reduceLT, Nat.reduceEqDiff, Nat.reduceBEq, Nat.reduceMul, Int.reduceToNat, Int.reduceEq, Int.reduceLT, Int.reduceLE] <;> try simp only [zB])
  | (refine callF_pure (ht) ?_; refine run_sound mixed 600 _ ?_; simp (maxSteps := 3000000) only [go_sem, ↓zA, ↓reduceIte, ↓reduceDIte, reduceCtorEq, Nat.reduceAdd, Nat.reduceSub, Nat.reduceLeDiff, Nat.reduceLT, Nat.reduceEqDiff, Nat.reduceBEq, Nat.reduceMul, Int.reduceToNat, Int.reduceEq, Int.reduceLT, Int.reduceLE] <;> try simp only [zB])
  | (refine callI_pure (hse) ?_; refine run_sound mixed 600 _ ?_; simp (maxSteps := 3000000) only [go_sem, ↓zA, ↓reduceIte, ↓reduceDIte, reduceCtorEq, Nat.reduceAdd, Nat.reduceSub, Nat.reduceLeDiff, Nat.reduceLT, Nat.reduceEqDiff, Nat.reduceBEq, Nat.reduceMul, Int.reduceToNat, Int.reduceEq, Int.reduceLT, Int.reduceLE] <;> try simp only [zB])
  | (refine callR_pure (hse) ?_; refine run_sound mixed 600 _ ?_; simp (maxSteps := 3000000) only [go_sem, ↓zA, ↓reduceIte, ↓reduceDIte, reduceCtorEq, Nat.reduceAdd, Nat.reduceSub, Nat.reduceLeDiff, Nat.reduceLT, Nat.reduceEqDiff, Nat.reduceBEq, Nat.reduceMul, Int.reduceToNat, Int.reduceEq, Int.reduceLT, Int.reduceLE] <;> try simp only [zB])
  | (refine callF_pure (hse) ?_; refine run_sound mixed 600 _ ?_; simp (maxSteps := 3000000) only [go_sem, ↓zA, ↓reduceIte, ↓reduceDIte, reduceCtorEq, Nat.reduceAdd, Nat.reduceSub, Nat.reduceLeDiff, Nat.reduceLT, Nat.reduceEqDiff, Nat.reduceBEq, Nat.reduceMul, Int.reduceToNat, Int.reduceEq, Int.reduceLT, Int.reduceLE] <;> try simp only [zB])
  | (refine callI_pure (he (hs.trans (by simp_all))) ?_; refine run_sound mixed 600 _ ?_; simp (maxSteps := 3000000) only [go_sem, ↓zA, ↓reduceIte, ↓reduceDIte, reduceCtorEq, Nat.reduceAdd, Nat.reduceSub, Nat.reduceLeDiff, Nat.reduceLT, Nat.reduceEqDiff, Nat.reduceBEq, Nat.reduceMul, Int.reduceToNat, Int.reduceEq, Int.reduceLT, Int.reduceLE] <;> try simp only [zB])
  | (refine callR_pure (he (hs.trans (by simp_all))) ?_; refine run_sound mixed 600 _ ?_; simp (maxSteps := 3000000) only [go_sem, ↓zA, ↓reduceIte, ↓reduceDIte, reduceCtorEq, Nat.reduceAdd, Nat.reduceSub, Nat.reduceLeDiff, Nat.reduceLT, Nat.reduceEqDiff, Nat.reduceBEq, Nat.reduceMul, Int.reduceToNat, Int.reduceEq, Int.reduceLT, Int.reduceLE] <;> try simp only [zB])
  | (refine callF_pure (he (hs.trans (by simp_all))) ?_; refine run_sound mixed 600 _ ?_; simp (maxSteps := 3000000) only [go_sem, ↓zA, ↓reduceIte, ↓reduceDIte, reduceCtorEq, Nat.reduceAdd, Nat.reduceSub, Nat.reduceLeDiff, Nat.reduceLT, Nat.reduceEqDiff, Nat.reduceBEq, Nat.reduceMul, Int.reduceToNat, Int.reduceEq, Int.reduceLT, Int.reduceLE] <;> try simp only [zB])
  | (with_reducible refine And.intro ?_ ?_)
  | (with_reducible intro _))
 all_goals ((simp_all; try omega))
theorem okR_tick {y : List UInt8} (h : y.length ≤ 1048576) : TickT.ok (tickG y) := ⟨okR_prn (itm_le 1 (con_le h)), okR_key (itm_le 2 (con_le h))⟩
theorem okR_rpl {b : List UInt8} (h : b.length ≤ 1048576) : RplT.ok (rpG b) := ⟨trivial, okR_pre (itm_le 2 (con_le h)), okR_prn (itm_le 3 (con_le h)), okR_tick (itm_le 4 (con_le h)), okR_key (itm_le 5 (con_le h))⟩
theorem gInt_lt (x : List UInt8) : gIntR x < 72057594037927936 := by
 unfold gIntR
 have := beN_lt ((conR x).take 7)
 have hl : ((conR x).take 7).length ≤ 7 := by simp; omega
 have : 256 ^ ((conR x).take 7).length ≤ 256 ^ 7 := Nat.pow_le_pow_right (by decide) hl
 have e : 256 ^ 7 = 72057594037927936 := by decide
 omega
theorem rdecRpl_c (b : List UInt8) (hb : b.length ≤ 1048576) : PC Tryz.prog 9 [.isl .u8 b] (.tup [.agg (RplT.cells ((decRpl b).getD RplT.dflt)), rI (if (decRpl b).isSome then 0 else 6)]) := by
 have hd : decRpl b = if vRpl (rpG b) = true ∧ rplS (rpG b) = b then some (rpG b) else none := (decRplG_eq b).symm
 generalize decRpl b = R at *
 have hok := okR_rpl hb
 have hE : rpG b = ((gIntR (itmR (conR b) 1) : Int) - 1, preG (itmR (conR b) 2), prnR (itmR (conR b) 3), tickG (itmR (conR b) 4), keyR (itmR (conR b) 5)) := rfl
 have hv := rvRpl_c (rpG b) hok
 have he : vRpl (rpG b) = true → PC Tryz.prog 12 [.agg (RplT.cells (rpG b))] (.isl .u8 (rplS (rpG b))) := fun h => by
  have h3 : sRpl (rpG b) = true := by unfold vRpl at h; rw [Bool.and_eq_true] at h; exact h.1
  have := rencRpl_c (rpG b) (shR_ok h3)
  rwa [rplA_ok h3] at this
 have hc := contents_c b (by omega)
 have hcl := con_le hb
 generalize hs : conR b = s at *
 have i1 := item_c s 1 (by omega) (by omega)
 have i2 := item_c s 2 (by omega) (by omega)
 have i3 := item_c s 3 (by omega) (by omega)
 have i4 := item_c s 4 (by omega) (by omega)
 have i5 := item_c s 5 (by omega) (by omega)
 have q1 := itmR_len s 1
 have q2 := itmR_len s 2
 have q3 := itmR_len s 3
 have q4 := itmR_len s 4
 have q5 := itmR_len s 5
 have c1 := getInt_c (itmR s 1) (by omega)
 have c2 := rgetPre_c (itmR s 2) (by omega)
 have c3 := rgetPrin_c (itmR s 3) (by omega)
 have c4 := rgetTick_c (itmR s 4) (by omega)
 have c5 := rgetSeal_c (itmR s 5) (by omega)
 have hlt := gInt_lt (itmR s 1)
 generalize rpG b = X at *
 generalize gIntR (itmR s 1) = x1 at *
 generalize preG (itmR s 2) = x2 at *
 generalize prnR (itmR s 3) = x3 at *
 generalize tickG (itmR s 4) = x4 at *
 generalize keyR (itmR s 5) = x5 at *
 have hw : IntKind.i64.wrap (((x1 : Nat) : Int) - 1) = ((x1 : Nat) : Int) - 1 := wrapi (by omega)
 refine pc_seal rfl (by cases R <;> rfl) ?_
 refine runE mixed fi9 ?_
 refine callI_pure hc ?_
 refine goE mixed ?_
 refine callI_pure (i1) ?_
 refine goE mixed ?_
 refine callI_pure (c1) ?_
 refine run_sound mixed 600 _ ?_
 with_reducible refine sx1 hw ?_
 refine callI_pure (i2) ?_
 refine goE mixed ?_
 refine callI_pure (c2) ?_
 refine goE mixed ?_
 refine callI_pure (i3) ?_
 refine goE mixed ?_
 refine callI_pure (c3) ?_
 refine goE mixed ?_
 refine callI_pure (i4) ?_
 refine goE mixed ?_
 refine callI_pure (c4) ?_
 refine goE mixed ?_
 refine callI_pure (i5) ?_
 refine goE mixed ?_
 refine callI_pure (c5) ?_
 refine goE mixed ?_
 subst hE
 cases hvv : vRpl (((x1 : Nat) : Int) - 1, x2, x3, x4, x5) with
 | false =>
  have hR : R = none := by rw [hd, hvv]; simp
  rw [hvv] at hv
  subst hR
  refine callR_pure hv ?_
  refine goE mixed ?_
  exact ⟨⟨rfl, rfl, rfl, rfl, rfl, rfl, rfl, rfl, rfl, rfl, rfl, rfl⟩, rfl⟩
 | true =>
  rw [hvv] at hv
  refine callR_pure hv ?_
  refine goE mixed ?_
  refine callR_pure (he hvv) ?_
  refine goE mixed ?_
  refine ⟨fun hne => ?_, fun heq => ?_⟩
  · have hR : R = none := by rw [hd, if_neg (fun q => hne (strOf_inj.2 q.2))]
    subst hR
    exact ⟨⟨rfl, rfl, rfl, rfl, rfl, rfl, rfl, rfl, rfl, rfl, rfl, rfl⟩, rfl⟩
  · have hR : R = some (((x1 : Nat) : Int) - 1, x2, x3, x4, x5) := by rw [hd, if_pos ⟨hvv, strOf_inj.1 heq⟩]
    subst hR
    exact ⟨⟨rfl, rfl, rfl, rfl, rfl, rfl, rfl, rfl, rfl, rfl, rfl, rfl⟩, rfl⟩
end Go.Proofs.YthmoognbccfpiaaGreatDoor

/- Contracts: reading a ticket. -/
namespace Go.Proofs.YthmoognbccfpiaaGreatDoor
open Go Go.Sx Go.Proofs
set_option maxRecDepth 100000
set_option maxHeartbeats 4000000
set_option linter.unusedSimpArgs false

theorem seal1_c (b : List UInt8) (n : Nat) (hn : n ≤ b.length) (hb : b.length ≤ 1099511627776) :
 EffZ Tryz.prog 164 [.ptr 0 0] b n (posX b n) (fun v : Key => .agg (KeyT.cells v)) (keyP (b.drop n)) := by
 have ht := rtriple_c b n hn hb
 refine effZ_of ?_
 generalize keyP (b.drop n) = X at *
 cases X with
 | error e =>
  have ht' := effZ_er ht rfl
  refine runE mixed fi164 ?_
  refine effP [0] (ht') ?_; trivial
 | ok x =>
  obtain ⟨v, k⟩ := x
  have ht' := effZ_ok ht rfl
  refine runE mixed fi164 ?_
  refine effE mixed [0] (ht') ?_; trivial
theorem dpanSl_c (b : List UInt8) (n m e : Nat) (T2 T4 T5 T6 : TypeId) (y : Value) (K : List SObj → Prop)
 (h : ∀ G, K ([rdr b n, .cells T2 [.ptr 0 0], .cells T4 [rI 0, rI 0, .raw (.slice none 0 0)], .cells T5 [rI e], .cells T6 [rI n]] ++ G)) :
 DCall Tryz.prog 223 [.ptr 4 0, .ptr 1 0, .ptr 2 0, .ptr 3 0] (some (errV e)) [rdr b m, .cells T2 [.ptr 0 0], .cells T4 [rI 0, rI 0, .raw (.slice none 0 0)], .cells T5 [.raw y], .cells T6 [rI n]] K := by
 refine dc_ri fi223 ?_
 refine run_sound mixed 16 _ ?_
 with_reducible refine sxE ?_
 refine si_drw [1, 4, 5, 999999] mixed ?_
 refine run_sound mixed 600 _ ?_
 simp (maxSteps := 3000000) only [List.getElem?_nil, go_sem, ↓zA, ↓reduceIte, ↓reduceDIte, reduceCtorEq, Nat.reduceAdd, Nat.reduceSub, Nat.reduceLeDiff, Nat.reduceLT, Nat.reduceEqDiff, Nat.reduceBEq, Nat.reduceMul, Int.reduceToNat, Int.reduceEq, Int.reduceLT, Int.reduceLE] <;> try simp only [zB]
 exact h _
theorem dretSl_c (H : List SObj) (K : List SObj → Prop) (h : ∀ G, K (H ++ G)) : DCall Tryz.prog 223 [.ptr 4 0, .ptr 1 0, .ptr 2 0, .ptr 3 0] none H K := by
 refine recE mixed fi223 ?_
 simpa using h []
theorem sseal_c (b : List UInt8) (n : Nat) (hn : n ≤ b.length) (hb : b.length ≤ 1099511627776) :
 EffR Tryz.prog 163 [.ptr 0 0, .fn 164 [] []] b n (fun v : Key => .agg (KeyT.cells v)) zKey (keyP (b.drop n)) := by
 have hk := seal1_c b n hn hb
 generalize keyP (b.drop n) = X at *
 cases X with
 | error e =>
  have hk' := effZ_er hk rfl
  refine pe_seal (by simp) ?_
  refine defE mixed fi163 ?_
  refine goE mixed ?_
  refine effP [0] (hk') ?_
  refine ⟨by simp, dpanSl_c b n _ e _ _ _ _ _ _ fun G => ?_⟩
  with_reducible refine sxE ?_; trivial
 | ok x =>
  obtain ⟨v, k⟩ := x
  have hk' := effZ_ok hk rfl
  refine pe_seal (by simp) ?_
  refine defE mixed fi163 ?_
  refine goE mixed ?_
  refine effE mixed [0] (hk') ?_
  refine dretSl_c _ _ fun G => ?_
  with_reducible refine sxE ?_; trivial
theorem drseal_c (b : List UInt8) (n : Nat) (hn : n ≤ b.length) (hb : b.length ≤ 1099511627776) :
 EffR Tryz.prog 94 [.ptr 0 0] b n (fun v : Key => .agg (KeyT.cells v)) zKey (keyP (b.drop n)) := by
 have hk := sseal_c b n hn hb
 generalize keyP (b.drop n) = X at *
 cases X with
 | error e =>
  have hk' := effR_er hk rfl
  refine pe_seal (by simp) ?_
  refine runE mixed fi94 ?_
  refine effE mixed [0] (hk') ?_; trivial
 | ok x =>
  obtain ⟨v, k⟩ := x
  have hk' := effR_ok hk rfl
  refine pe_seal (by simp) ?_
  refine runE mixed fi94 ?_
  refine effE mixed [0] (hk') ?_; trivial
theorem drint_c (b : List UInt8) (n : Nat) (hn : n ≤ b.length) (hb : b.length ≤ 1099511627776) :
 EffR Tryz.prog 153 [.ptr 0 0] b n (fun v : Int => rI v) (rI 0) (intP (b.drop n)) := by
 cases hx : intP (b.drop n) with
 | error e => exact rint_er b n hn hb hx
 | ok x =>
  obtain ⟨v, k⟩ := x
  exact rint_ok b n hn hb hx
theorem tcheck_t (b : List UInt8) (n : Nat) : PE Tryz.prog 218 [.agg [.ptr 0 0], rB true] [rdr b n] (.ret (.tup [])) [rdr b n] := by
 refine pe_seal (by simp) ?_
 refine runE mixed fi218 ?_; trivial
theorem tcheck_f (b : List UInt8) (n : Nat) : PE Tryz.prog 218 [.agg [.ptr 0 0], rB false] [rdr b n] (.pan (errV 6)) [rdr b n] := by
 refine pe_seal (by simp) ?_
 refine runE mixed fi218 ?_; trivial
theorem tend_t (b : List UInt8) (n : Nat) (hn : n = b.length) : PE Tryz.prog 222 [.agg [.ptr 0 0]] [rdr b n] (.ret (.tup [])) [rdr b n] := by
 have hl := left_c b n (by omega)
 have hz : b.length - n = 0 := by omega
 rw [hz] at hl
 refine pe_seal (by simp) ?_
 refine vc_fi fi222 (run_sound mixed 4 _ ?_)
 with_reducible refine sxE ?_
 refine si_drw [1] mixed ?_
 refine goE mixed ?_
 refine callR_eff [0] hl rfl (by decide) ⟨rfl, rfl, trivial⟩ rfl rfl ?_ ?_
 · simp (maxSteps := 3000000) only [mgA, sig, sameG_cons, sameG_nil, go_sem, ↓zA, ↓reduceIte, ↓reduceDIte, reduceCtorEq, Nat.reduceAdd, Nat.reduceSub, Nat.reduceLeDiff, Nat.reduceLT, Nat.reduceEqDiff, Nat.reduceBEq, Nat.reduceMul, Int.reduceToNat, Int.reduceEq, Int.reduceLT, Int.reduceLE] <;> try simp only [zB]
 simp only [afterR, Out.ren, SV.ren, mgA, sig, SObj.ren, SV.renL, List.cons_append, List.nil_append, List.append_assoc, List.set_cons_zero, List.set_cons_succ, List.set, List.map, List.append_nil]
 refine goE mixed ?_
 refine callR_eff [0] (tcheck_t b n) rfl (by decide) ⟨rfl, rfl, trivial⟩ rfl rfl ?_ ?_
 · simp (maxSteps := 3000000) only [mgA, sig, sameG_cons, sameG_nil, go_sem, ↓zA, ↓reduceIte, ↓reduceDIte, reduceCtorEq, Nat.reduceAdd, Nat.reduceSub, Nat.reduceLeDiff, Nat.reduceLT, Nat.reduceEqDiff, Nat.reduceBEq, Nat.reduceMul, Int.reduceToNat, Int.reduceEq, Int.reduceLT, Int.reduceLE] <;> try simp only [zB]
 simp only [afterR, Out.ren, SV.ren, mgA, sig, SObj.ren, SV.renL, List.cons_append, List.nil_append, List.append_assoc, List.set_cons_zero, List.set_cons_succ, List.set, List.map, List.append_nil]
 refine goE mixed ?_; trivial
theorem tend_f (b : List UInt8) (n : Nat) (hn : n < b.length) : PE Tryz.prog 222 [.agg [.ptr 0 0]] [rdr b n] (.pan (errV 6)) [.dead] := by
 have hl := left_c b n (by omega)
 obtain ⟨q, hq⟩ : ∃ q, b.length - n = q + 1 := ⟨b.length - n - 1, by omega⟩
 rw [hq] at hl
 have hz : decide (((q + 1 : Nat) : Int) = 0) = false := decide_eq_false (by omega)
 refine pe_seal (by simp) ?_
 refine vc_fi fi222 (run_sound mixed 4 _ ?_)
 with_reducible refine sxE ?_
 refine si_drwP [1] mixed ?_
 refine goE mixed ?_
 refine callR_eff [0] hl rfl (by decide) ⟨rfl, rfl, trivial⟩ rfl rfl ?_ ?_
 · simp (maxSteps := 3000000) only [mgA, sig, sameG_cons, sameG_nil, go_sem, ↓zA, ↓reduceIte, ↓reduceDIte, reduceCtorEq, Nat.reduceAdd, Nat.reduceSub, Nat.reduceLeDiff, Nat.reduceLT, Nat.reduceEqDiff, Nat.reduceBEq, Nat.reduceMul, Int.reduceToNat, Int.reduceEq, Int.reduceLT, Int.reduceLE] <;> try simp only [zB]
 simp only [afterR, Out.ren, SV.ren, mgA, sig, SObj.ren, SV.renL, List.cons_append, List.nil_append, List.append_assoc, List.set_cons_zero, List.set_cons_succ, List.set, List.map, List.append_nil]
 refine run_sound mixed 600 _ ?_
 with_reducible refine sx1 hz ?_
 refine callR_eff [0] (tcheck_f b n) rfl (by decide) ⟨rfl, rfl, trivial⟩ rfl rfl ?_ ?_
 · simp (maxSteps := 3000000) only [mgA, sig, sameG_cons, sameG_nil, go_sem, ↓zA, ↓reduceIte, ↓reduceDIte, reduceCtorEq, Nat.reduceAdd, Nat.reduceSub, Nat.reduceLeDiff, Nat.reduceLT, Nat.reduceEqDiff, Nat.reduceBEq, Nat.reduceMul, Int.reduceToNat, Int.reduceEq, Int.reduceLT, Int.reduceLE] <;> try simp only [zB]
 simp only [afterR, Out.ren, SV.ren, mgA, sig, SObj.ren, SV.renL, List.cons_append, List.nil_append, List.append_assoc, List.set_cons_zero, List.set_cons_succ, List.set, List.map, List.append_nil]
 refine cutQ_p ?_
 with_reducible refine sxE ?_; trivial
theorem tmust_rdr (b : List UInt8) (n : Nat) : PE Tryz.prog 255 [.ptr 0 0, rI 0] [rdr b n] (.ret (.ptr 0 0)) [rdr b n] := by
 refine pe_seal (by simp) ?_
 refine runE mixed fi255 ?_; trivial
theorem tmust_er_rdr (e : Nat) (he : e ≠ 0) : PE Tryz.prog 255 [.raw (.pointer none), rI e] [] (.pan (errV e)) [] := by
 refine pe_seal (by simp) ?_
 refine runE mixed fi255 ?_
 exact ⟨fun _ => trivial, fun h => absurd (by omega) he⟩
def EffY (P : Program) {α : Type} (f : FuncId) (args : List SV) (b : List UInt8) (n : Nat) (res : α → SV) : Except Nat (α × Nat) → Prop
 | .ok (v, k) => PE P f args [rdr b n] (.ret (res v)) [rdr b (n + k)]
 | .error _ => ∃ e : Nat, PE P f args [rdr b n] (.pan (errV e)) [.dead]
theorem effY_ok {P : Program} {α : Type} {f : FuncId} {args : List SV} {b : List UInt8} {n : Nat} {res : α → SV} {x : Except Nat (α × Nat)} {v : α} {k : Nat} (h : EffY P f args b n res x) (hx : x = .ok (v, k)) : PE P f args [rdr b n] (.ret (res v)) [rdr b (n + k)] := by rw [hx] at h; exact h
theorem effY_er {P : Program} {α : Type} {f : FuncId} {args : List SV} {b : List UInt8} {n : Nat} {res : α → SV} {x : Except Nat (α × Nat)} {e : Nat} (h : EffY P f args b n res x) (hx : x = .error e) : ∃ e : Nat, PE P f args [rdr b n] (.pan (errV e)) [.dead] := by rw [hx] at h; exact h
theorem tmust_int (v : Int) : PC Tryz.prog 273 [(fun v : Int => rI v) v, rI 0] ((fun v : Int => rI v) v) := by
 refine pc_seal rfl rfl ?_
 refine runE mixed fi273 ?_; trivial
theorem tmust_er_int (e : Nat) (he : e ≠ 0) : PE Tryz.prog 273 [(rI 0), rI e] [] (.pan (errV e)) [] := by
 refine pe_seal (by simp) ?_
 refine runE mixed fi273 ?_
 exact ⟨fun _ => trivial, fun h => absurd (by omega) he⟩
theorem topt_no_int (g : Nat) (i : Nat) (hi : i ≤ 30) (b : List UInt8) (n : Nat) (hn : n ≤ b.length) (h : nextB i (b.drop n) = false) :
 PE Tryz.prog 256 [.agg [.ptr 0 0], rI i, .fn g [] []] [rdr b n] (.ret (.tup [(rI 0), rB false])) [rdr b n] := by
 have hs := rtag_no i hi b n hn h
 refine pe_seal (by simp) ?_
 refine runE mixed fi256 ?_
 refine effE mixed [0] (hs) ?_; trivial
theorem topt_in_int (g : Nat) (i : Nat) (hi : i ≤ 30) (b : List UInt8) (n : Nat) (hn : n ≤ b.length) (hb : b.length ≤ 1099511627776) (p : PR (Int)) (hp : FitsP p) (hne : ErrP p)
 (hv : EffR Tryz.prog g [.ptr 0 0] (takeC (b.drop n)) 0 (fun v : Int => rI v) (rI 0) (p (takeC (b.drop n)))) (h : nextB i (b.drop n) = true) :
 EffX Tryz.prog 256 [.agg [.ptr 0 0], rI i, .fn g [] []] b n (fun v => .tup [(fun v : Int => rI v) v, rB true]) (inP (tagB i) p (b.drop n)) := by
 by_cases h1 : takeE (tagB i) (b.drop n) = 0
 · rw [inP_t h1]
   have hs := rtag_ok i hi b n hn hb h h1
   have hc := tkC_le (n := n) hb
   generalize takeC (b.drop n) = c at *
   generalize takeN (b.drop n) = N at *
   cases hx : p c with
   | error e =>
    have hr := effR_er hv hx
    refine pe_seal (by simp) ?_
    refine runE mixed fi256 ?_
    refine effE mixed [0] (hs) ?_
    refine effE mixed [2] (hr) ?_
    refine effP [] (tmust_er_int e (hne _ _ hx)) ?_; trivial
   | ok x =>
    obtain ⟨v, m⟩ := x
    have hm := hp _ _ _ hx
    have hr := effR_ok hv hx
    rw [Nat.zero_add] at hr
    simp only [closeP]
    by_cases hml : m < c.length
    · rw [if_pos hml]
      refine pe_seal (by simp) ?_
      refine runE mixed fi256 ?_
      refine effE mixed [0] (hs) ?_
      refine effE mixed [2] (hr) ?_
      refine callI_pure (tmust_int v) ?_
      refine goE mixed ?_
      refine effP [2] (tend_f c m hml) ?_
      rfl
    · rw [if_neg hml]
      refine pe_seal (by simp) ?_
      refine runE mixed fi256 ?_
      refine effE mixed [0] (hs) ?_
      refine effE mixed [2] (hr) ?_
      refine callI_pure (tmust_int v) ?_
      refine goE mixed ?_
      refine effE mixed [2] (tend_t c m (by omega)) ?_; trivial
 · rw [inP_f h1]
   have hs := rtag_er i hi b n hn hb h h1
   generalize takeE (tagB i) (b.drop n) = e at *
   refine pe_seal (by simp) ?_
   refine runE mixed fi256 ?_
   refine effE mixed [0] (hs) ?_
   exact ⟨fun _ => trivial, fun q => absurd (by omega) h1⟩
theorem tfield_int (g : Nat) (i : Nat) (hi : i ≤ 30) (b : List UInt8) (n : Nat) (hn : n ≤ b.length) (hb : b.length ≤ 1099511627776) (p : PR (Int)) (hp : FitsP p) (hne : ErrP p)
 (hv : EffR Tryz.prog g [.ptr 0 0] (takeC (b.drop n)) 0 (fun v : Int => rI v) (rI 0) (p (takeC (b.drop n)))) :
 EffY Tryz.prog 219 [.agg [.ptr 0 0], rI i, .fn g [] []] b n (fun v : Int => rI v) (needP i p (b.drop n)) := by
 cases h : nextB i (b.drop n) with
 | false =>
  rw [needP_no h]
  have ho := topt_no_int g i hi b n hn h
  refine ⟨6, pe_seal (by simp) ?_⟩
  refine runE mixed fi219 ?_
  refine effE mixed [0] (ho) ?_
  refine effP [0] (tcheck_f b n) ?_
  rfl
 | true =>
  rw [needP_in h]
  have ho := topt_in_int g i hi b n hn hb p hp hne hv h
  cases hx : inP (tagB i) p (b.drop n) with
  | error e =>
   have ho' := effX_er ho hx
   refine ⟨e, pe_seal (by simp) ?_⟩
   refine runE mixed fi219 ?_
   refine effP [0] (ho') ?_; trivial
  | ok x =>
   obtain ⟨v, k⟩ := x
   have ho' := effX_ok ho hx
   refine pe_seal (by simp) ?_
   refine runE mixed fi219 ?_
   refine effE mixed [0] (ho') ?_
   refine effE mixed [0] (tcheck_t b (n + k)) ?_; trivial
theorem tmust_prin (v : Prin) : PC Tryz.prog 274 [(fun p : Prin => .agg (PrinT.cells p)) v, rI 0] ((fun p : Prin => .agg (PrinT.cells p)) v) := by
 refine pc_seal rfl rfl ?_
 refine runE mixed fi274 ?_; trivial
theorem tmust_er_prin (e : Nat) (he : e ≠ 0) : PE Tryz.prog 274 [zPrin, rI e] [] (.pan (errV e)) [] := by
 refine pe_seal (by simp) ?_
 refine runE mixed fi274 ?_
 exact ⟨fun _ => trivial, fun h => absurd (by omega) he⟩
theorem topt_no_prin (g : Nat) (i : Nat) (hi : i ≤ 30) (b : List UInt8) (n : Nat) (hn : n ≤ b.length) (h : nextB i (b.drop n) = false) :
 PE Tryz.prog 257 [.agg [.ptr 0 0], rI i, .fn g [] []] [rdr b n] (.ret (.tup [zPrin, rB false])) [rdr b n] := by
 have hs := rtag_no i hi b n hn h
 refine pe_seal (by simp) ?_
 refine runE mixed fi257 ?_
 refine effE mixed [0] (hs) ?_; trivial
theorem topt_in_prin (g : Nat) (i : Nat) (hi : i ≤ 30) (b : List UInt8) (n : Nat) (hn : n ≤ b.length) (hb : b.length ≤ 1099511627776) (p : PR (Prin)) (hp : FitsP p) (hne : ErrP p)
 (hv : EffR Tryz.prog g [.ptr 0 0] (takeC (b.drop n)) 0 (fun p : Prin => .agg (PrinT.cells p)) zPrin (p (takeC (b.drop n)))) (h : nextB i (b.drop n) = true) :
 EffX Tryz.prog 257 [.agg [.ptr 0 0], rI i, .fn g [] []] b n (fun v => .tup [(fun p : Prin => .agg (PrinT.cells p)) v, rB true]) (inP (tagB i) p (b.drop n)) := by
 by_cases h1 : takeE (tagB i) (b.drop n) = 0
 · rw [inP_t h1]
   have hs := rtag_ok i hi b n hn hb h h1
   have hc := tkC_le (n := n) hb
   generalize takeC (b.drop n) = c at *
   generalize takeN (b.drop n) = N at *
   cases hx : p c with
   | error e =>
    have hr := effR_er hv hx
    refine pe_seal (by simp) ?_
    refine runE mixed fi257 ?_
    refine effE mixed [0] (hs) ?_
    refine effE mixed [3] (hr) ?_
    refine effP [] (tmust_er_prin e (hne _ _ hx)) ?_; trivial
   | ok x =>
    obtain ⟨v, m⟩ := x
    have hm := hp _ _ _ hx
    have hr := effR_ok hv hx
    rw [Nat.zero_add] at hr
    simp only [closeP]
    by_cases hml : m < c.length
    · rw [if_pos hml]
      refine pe_seal (by simp) ?_
      refine runE mixed fi257 ?_
      refine effE mixed [0] (hs) ?_
      refine effE mixed [3] (hr) ?_
      refine callI_pure (tmust_prin v) ?_
      refine goE mixed ?_
      refine effP [3] (tend_f c m hml) ?_
      rfl
    · rw [if_neg hml]
      refine pe_seal (by simp) ?_
      refine runE mixed fi257 ?_
      refine effE mixed [0] (hs) ?_
      refine effE mixed [3] (hr) ?_
      refine callI_pure (tmust_prin v) ?_
      refine goE mixed ?_
      refine effE mixed [3] (tend_t c m (by omega)) ?_; trivial
 · rw [inP_f h1]
   have hs := rtag_er i hi b n hn hb h h1
   generalize takeE (tagB i) (b.drop n) = e at *
   refine pe_seal (by simp) ?_
   refine runE mixed fi257 ?_
   refine effE mixed [0] (hs) ?_
   exact ⟨fun _ => trivial, fun q => absurd (by omega) h1⟩
theorem tfield_prin (g : Nat) (i : Nat) (hi : i ≤ 30) (b : List UInt8) (n : Nat) (hn : n ≤ b.length) (hb : b.length ≤ 1099511627776) (p : PR (Prin)) (hp : FitsP p) (hne : ErrP p)
 (hv : EffR Tryz.prog g [.ptr 0 0] (takeC (b.drop n)) 0 (fun p : Prin => .agg (PrinT.cells p)) zPrin (p (takeC (b.drop n)))) :
 EffY Tryz.prog 220 [.agg [.ptr 0 0], rI i, .fn g [] []] b n (fun p : Prin => .agg (PrinT.cells p)) (needP i p (b.drop n)) := by
 cases h : nextB i (b.drop n) with
 | false =>
  rw [needP_no h]
  have ho := topt_no_prin g i hi b n hn h
  refine ⟨6, pe_seal (by simp) ?_⟩
  refine runE mixed fi220 ?_
  refine effE mixed [0] (ho) ?_
  refine effP [0] (tcheck_f b n) ?_
  rfl
 | true =>
  rw [needP_in h]
  have ho := topt_in_prin g i hi b n hn hb p hp hne hv h
  cases hx : inP (tagB i) p (b.drop n) with
  | error e =>
   have ho' := effX_er ho hx
   refine ⟨e, pe_seal (by simp) ?_⟩
   refine runE mixed fi220 ?_
   refine effP [0] (ho') ?_; trivial
  | ok x =>
   obtain ⟨v, k⟩ := x
   have ho' := effX_ok ho hx
   refine pe_seal (by simp) ?_
   refine runE mixed fi220 ?_
   refine effE mixed [0] (ho') ?_
   refine effE mixed [0] (tcheck_t b (n + k)) ?_; trivial
theorem tmust_seal (v : Key) : PC Tryz.prog 275 [(fun v : Key => .agg (KeyT.cells v)) v, rI 0] ((fun v : Key => .agg (KeyT.cells v)) v) := by
 refine pc_seal rfl rfl ?_
 refine runE mixed fi275 ?_; trivial
theorem tmust_er_seal (e : Nat) (he : e ≠ 0) : PE Tryz.prog 275 [zKey, rI e] [] (.pan (errV e)) [] := by
 refine pe_seal (by simp) ?_
 refine runE mixed fi275 ?_
 exact ⟨fun _ => trivial, fun h => absurd (by omega) he⟩
theorem topt_no_seal (g : Nat) (i : Nat) (hi : i ≤ 30) (b : List UInt8) (n : Nat) (hn : n ≤ b.length) (h : nextB i (b.drop n) = false) :
 PE Tryz.prog 258 [.agg [.ptr 0 0], rI i, .fn g [] []] [rdr b n] (.ret (.tup [zKey, rB false])) [rdr b n] := by
 have hs := rtag_no i hi b n hn h
 refine pe_seal (by simp) ?_
 refine runE mixed fi258 ?_
 refine effE mixed [0] (hs) ?_; trivial
theorem topt_in_seal (g : Nat) (i : Nat) (hi : i ≤ 30) (b : List UInt8) (n : Nat) (hn : n ≤ b.length) (hb : b.length ≤ 1099511627776) (p : PR (Key)) (hp : FitsP p) (hne : ErrP p)
 (hv : EffR Tryz.prog g [.ptr 0 0] (takeC (b.drop n)) 0 (fun v : Key => .agg (KeyT.cells v)) zKey (p (takeC (b.drop n)))) (h : nextB i (b.drop n) = true) :
 EffX Tryz.prog 258 [.agg [.ptr 0 0], rI i, .fn g [] []] b n (fun v => .tup [(fun v : Key => .agg (KeyT.cells v)) v, rB true]) (inP (tagB i) p (b.drop n)) := by
 by_cases h1 : takeE (tagB i) (b.drop n) = 0
 · rw [inP_t h1]
   have hs := rtag_ok i hi b n hn hb h h1
   have hc := tkC_le (n := n) hb
   generalize takeC (b.drop n) = c at *
   generalize takeN (b.drop n) = N at *
   cases hx : p c with
   | error e =>
    have hr := effR_er hv hx
    refine pe_seal (by simp) ?_
    refine runE mixed fi258 ?_
    refine effE mixed [0] (hs) ?_
    refine effE mixed [3] (hr) ?_
    refine effP [] (tmust_er_seal e (hne _ _ hx)) ?_; trivial
   | ok x =>
    obtain ⟨v, m⟩ := x
    have hm := hp _ _ _ hx
    have hr := effR_ok hv hx
    rw [Nat.zero_add] at hr
    simp only [closeP]
    by_cases hml : m < c.length
    · rw [if_pos hml]
      refine pe_seal (by simp) ?_
      refine runE mixed fi258 ?_
      refine effE mixed [0] (hs) ?_
      refine effE mixed [3] (hr) ?_
      refine callI_pure (tmust_seal v) ?_
      refine goE mixed ?_
      refine effP [3] (tend_f c m hml) ?_
      rfl
    · rw [if_neg hml]
      refine pe_seal (by simp) ?_
      refine runE mixed fi258 ?_
      refine effE mixed [0] (hs) ?_
      refine effE mixed [3] (hr) ?_
      refine callI_pure (tmust_seal v) ?_
      refine goE mixed ?_
      refine effE mixed [3] (tend_t c m (by omega)) ?_; trivial
 · rw [inP_f h1]
   have hs := rtag_er i hi b n hn hb h h1
   generalize takeE (tagB i) (b.drop n) = e at *
   refine pe_seal (by simp) ?_
   refine runE mixed fi258 ?_
   refine effE mixed [0] (hs) ?_
   exact ⟨fun _ => trivial, fun q => absurd (by omega) h1⟩
theorem tfield_seal (g : Nat) (i : Nat) (hi : i ≤ 30) (b : List UInt8) (n : Nat) (hn : n ≤ b.length) (hb : b.length ≤ 1099511627776) (p : PR (Key)) (hp : FitsP p) (hne : ErrP p)
 (hv : EffR Tryz.prog g [.ptr 0 0] (takeC (b.drop n)) 0 (fun v : Key => .agg (KeyT.cells v)) zKey (p (takeC (b.drop n)))) :
 EffY Tryz.prog 221 [.agg [.ptr 0 0], rI i, .fn g [] []] b n (fun v : Key => .agg (KeyT.cells v)) (needP i p (b.drop n)) := by
 cases h : nextB i (b.drop n) with
 | false =>
  rw [needP_no h]
  have ho := topt_no_seal g i hi b n hn h
  refine ⟨6, pe_seal (by simp) ?_⟩
  refine runE mixed fi221 ?_
  refine effE mixed [0] (ho) ?_
  refine effP [0] (tcheck_f b n) ?_
  rfl
 | true =>
  rw [needP_in h]
  have ho := topt_in_seal g i hi b n hn hb p hp hne hv h
  cases hx : inP (tagB i) p (b.drop n) with
  | error e =>
   have ho' := effX_er ho hx
   refine ⟨e, pe_seal (by simp) ?_⟩
   refine runE mixed fi221 ?_
   refine effP [0] (ho') ?_; trivial
  | ok x =>
   obtain ⟨v, k⟩ := x
   have ho' := effX_ok ho hx
   refine pe_seal (by simp) ?_
   refine runE mixed fi221 ?_
   refine effE mixed [0] (ho') ?_
   refine effE mixed [0] (tcheck_t b (n + k)) ?_; trivial
end Go.Proofs.YthmoognbccfpiaaGreatDoor

