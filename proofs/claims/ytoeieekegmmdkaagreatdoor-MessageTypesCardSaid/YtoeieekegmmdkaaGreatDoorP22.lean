/- Contracts: messages: the first of the pre-authentication data; the law's own functions; closed facts. -/
import Derived.Test.YtoeieekegmmdkaaGreatDoorP16
import Derived.Test.YtoeieekegmmdkaaGreatDoorP21
set_option linter.unusedSimpArgs false
set_option linter.unusedVariables false
set_option linter.unusedSectionVars false
namespace Go.Proofs.YtoeieekegmmdkaaGreatDoor
open Go Go.Sx Go.Proofs
set_option maxRecDepth 100000
set_option maxHeartbeats 4000000
set_option linter.unusedSimpArgs false

theorem mcbytes_o (l : List UInt8) (hl : l.length ≤ 140737488355328) : VC Tryz.prog 17 [.isl .u8 l] [] (RowK .u8 l) := by
 refine vc_weak ?_
 refine runE mixed fi17 ?_
 refine ⟨⟨by omega, by omega⟩, ?_⟩
 exact rowK_row (h := 0) rfl (by omega)
def kdAt (l : List Pre) (k : Int) (j : Nat) : Bool := decide ((l.getD j PreT.dflt).1 = k)
def preV (l : List Pre) (k : Int) : List UInt8 := match firstN l.length (kdAt l k) with
 | some j => (l.getD j PreT.dflt).2
 | none => []
def preB (l : List Pre) (k : Int) : Bool := (firstN l.length (kdAt l k)).isSome
theorem preauth_c (l : List Pre) (k : Int) (hl : l.length ≤ 1125899906842624) (hb : ∀ j, j < l.length → (l.getD j PreT.dflt).2.length ≤ 140737488355328) : PC Tryz.prog 8 [.isl PreT l, rI k] (.tup [.isl .u8 (preV l k), rB (preB l k)]) := by
 refine pc_seal rfl rfl ?_
 refine runE mixed fi8 ?_
 refine si_cntD (fun i => [(10, .raw (.int .i64 ((i : Nat) : Int)))]) (l.length) (fun j => (fun j => !kdAt l k j) j = true) (by first | decide | simp) (fun i => rfl) ?_ fun i hi hall => ?_
 · (with_reducible refine sxE ?_ <;> try exact True.intro)
   all_goals (try rfl)
 have hwr : IntKind.i64.wrap ((i : Int) + 1) = ((i + 1 : Nat) : Int) := wrap_succ (by omega)
 refine goE mixed ?_
 have bad : i < (l.length) → (fun j => !kdAt l k j) i = false → allN (l.length) (fun j => !kdAt l k j) = false := fun hlt hv => allN_false hlt hv
 have fin : ¬ i < (l.length) → allN (l.length) (fun j => !kdAt l k j) = true := fun h => allN_true fun j hj => hall j (by omega)
 try dsimp only at bad fin hall
 refine ⟨fun hlt => ⟨⟨by omega, hlt⟩, fun h1 => ?_, fun h1 => ?_⟩, fun hge => ?_⟩
 · have hf : firstN l.length (kdAt l k) = some i := firstN_some hlt (decide_eq_true h1) (fun j hj => by simpa using hall j hj)
   have hv : preV l k = (l.getD i PreT.dflt).2 := by unfold preV; rw [hf]
   have hB : preB l k = true := by unfold preB; rw [hf]; rfl
   have hbl := hb i hlt
   rw [hv, hB]
   refine callI_rowK (mcbytes_o _ hbl) rfl rfl (fun h0 => ?_) ?_
   · refine goE mixed ?_
     rw [h0]
   · refine goE mixed ?_
     exact ⟨⟨Nat.le_refl _, by omega⟩, List.take_of_length_le (Nat.le_refl _)⟩
 · refine ⟨hlt, next_all (fun j hj => by simpa using hall j hj) (by simpa [kdAt] using h1), ⟨[_], rfl⟩, ?_⟩
   with_reducible refine sx1 hwr ?_; trivial
 · have hf : firstN l.length (kdAt l k) = none := firstN_none (fun j hj => by simpa using hall j (by omega))
   have hv : preV l k = [] := by unfold preV; rw [hf]
   have hB : preB l k = false := by unfold preB; rw [hf]; rfl
   rw [hv, hB]
   exact ⟨rfl, rfl⟩
theorem lnum_c (n : Int) : PC Tryz.prog 9 [rI n] (rI n) := by
 refine pc_of rfl rfl ?_
 refine runE mixed fi9 ?_; trivial
def tgsP : Prin := ([⟨#[107, 114, 98, 116, 103, 116]⟩, ⟨#[82]⟩], ⟨#[82]⟩)
theorem lrealm_c : PC Tryz.prog 10 [] (.agg (PrinT.cells tgsP)) := by
 refine pc_seal rfl rfl ?_
 refine runE mixed fi10 ?_
 exact ⟨⟨by decide, by decide⟩, rfl, rfl⟩
theorem vlist0_c : PC Tryz.prog 49 [.isl PreT []] (rB true) := by
 refine pc_of rfl rfl ?_
 refine runE mixed fi49 ?_
 refine si_cntD (fun i => [(10, .raw (.int .i64 ((i : Nat) : Int)))]) (0) (fun j => (fun _ => true) j = true) (by first | decide | simp) (fun i => rfl) ?_ fun i hi hall => ?_
 · (with_reducible refine sxE ?_ <;> try exact True.intro)
   all_goals (try rfl)
 have hwr : IntKind.i64.wrap ((i : Int) + 1) = ((i + 1 : Nat) : Int) := wrap_succ (by omega)
 refine goE mixed ?_
 have bad : i < (0) → (fun _ => true) i = false → allN (0) (fun _ => true) = false := fun hlt hv => allN_false hlt hv
 have fin : ¬ i < (0) → allN (0) (fun _ => true) = true := fun h => allN_true fun j hj => hall j (by omega)
 try dsimp only at bad fin hall
 exact ⟨fun h => absurd h (by omega), fun _ => trivial⟩
theorem vtick0_c : PC Tryz.prog 50 [.isl TickT []] (rB true) := by
 refine pc_of rfl rfl ?_
 refine runE mixed fi50 ?_
 refine si_cntD (fun i => [(10, .raw (.int .i64 ((i : Nat) : Int)))]) (0) (fun j => (fun _ => true) j = true) (by first | decide | simp) (fun i => rfl) ?_ fun i hi hall => ?_
 · (with_reducible refine sxE ?_ <;> try exact True.intro)
   all_goals (try rfl)
 have hwr : IntKind.i64.wrap ((i : Int) + 1) = ((i + 1 : Nat) : Int) := wrap_succ (by omega)
 refine goE mixed ?_
 have bad : i < (0) → (fun _ => true) i = false → allN (0) (fun _ => true) = false := fun hlt hv => allN_false hlt hv
 have fin : ¬ i < (0) → allN (0) (fun _ => true) = true := fun h => allN_true fun j hj => hall j (by omega)
 try dsimp only at bad fin hall
 exact ⟨fun h => absurd h (by omega), fun _ => trivial⟩
def cliA : Prin := ([⟨#[97]⟩], ⟨#[82]⟩)
def rq1 : Req := (10, [], 0, cliA, tgsP, 0, 100, 0, 7, [1, 2], [], [])
def rq2 : Req := (10, [], 0, cliA, tgsP, 0, 100, 0, 7, [1, 1], [], [])
def rq3 : Req := (12, [], 0, cliA, tgsP, 0, 100, 0, 7, [1, 2], [], [])
def fl1 : Fail := (25, 10, 0, ([], ⟨#[]⟩), tgsP, ⟨#[]⟩, [])
theorem okstr (s : ByteArray) (h : s.size ≤ 140737488355328) : Ty.str.ok s := h
theorem okcli : PrinT.ok cliA := by
 refine ⟨⟨by decide, fun x hx => ?_⟩, okstr _ (by decide)⟩
 simp [cliA] at hx; subst hx; exact okstr _ (by decide)
theorem oktgs : PrinT.ok tgsP := by
 refine ⟨⟨by decide, fun x hx => ?_⟩, okstr _ (by decide)⟩
 simp [tgsP] at hx; rcases hx with rfl | rfl <;> exact okstr _ (by decide)
theorem rqC (k : Int) (pf : List Int) (hp : pf.length ≤ 10) : ReqC (k, [], 0, cliA, tgsP, 0, 100, 0, 7, pf, [], []) true true [] [] where
 ok := ⟨trivial, ⟨Nat.zero_le _, fun x hx => by cases hx⟩, trivial, okcli, oktgs, trivial, trivial, trivial, trivial, ⟨by show pf.length ≤ _; omega, fun _ _ => trivial⟩, ⟨Nat.zero_le _, fun x hx => by cases hx⟩, ⟨Nat.zero_le _, fun x hx => by cases hx⟩⟩
 opt := ⟨Int.le_refl _, by show (0 : Int) ≤ 4294967295; decide⟩
 va := vlist0_c
 vt := vtick0_c
 wa := fun h => absurd rfl h
 wt := fun h => absurd rfl h
theorem okfl : FailT.ok fl1 := ⟨trivial, trivial, trivial, ⟨⟨by decide, fun x hx => by cases hx⟩, okstr _ (by decide)⟩, oktgs, okstr _ (by decide), ⟨by decide, fun x hx => by cases hx⟩⟩
theorem vrq1 : vReq rq1 true true [] [] = true := by decide +kernel
theorem vrq2 : vReq rq2 true true [] [] = false := by decide +kernel
theorem vrq3 : vReq rq3 true true [] [] = false := by decide +kernel
theorem lbod : (bodyS rq1 [] []).length = 76 := by decide +kernel
def rqB : List UInt8 := reqS rq1 [] []
theorem lrqB : rqB.length = 92 := by decide +kernel
theorem hrqB : (rqB.getD 0 Ty.u8.dflt) = 106 := by decide +kernel
theorem vfl1 : vFail fl1 = true := by decide +kernel
theorem lfl1 : (failS fl1).length = 58 := by decide +kernel
theorem hfl1 : (failS fl1).getD 0 Ty.u8.dflt = 126 := by decide +kernel
theorem rd1 : reqP 10 (rqB ++ [0]) = .ok (rq1, 92) := by kernel_rfl
theorem bad1 : badR 10 (rqB ++ [0]) := .inr ⟨rq1, 92, rd1, by rw [List.length_append, lrqB]; decide⟩
def noAT (b : List UInt8) : Prop := ∀ x ∈ b, x ≠ tagB 8 ∧ x ≠ tagB 9
theorem noAT_next {b : List UInt8} {i q : Nat} (h : ∀ x ∈ b, x ≠ tagB i) : nextB i (b.drop q) = false := by
 cases hn : nextB i (b.drop q) with
 | false => rfl
 | true =>
  simp only [nextB, Bool.and_eq_true, decide_eq_true_eq, ne_eq] at hn
  obtain ⟨h1, h2⟩ := hn
  exact absurd h2 (h _ (List.mem_of_mem_drop (getD_mem (by omega))))
theorem noATB : BodB noAT where
 tk := fun r h x hx => h x (List.mem_of_mem_take (List.mem_of_mem_drop hx))
 dr := fun r n h x hx => h x (List.mem_of_mem_drop hx)
 h := fun k pre c h => ⟨fun q _ hn => (by rw [noAT_next (fun x hx => (h x hx).1)] at hn; cases hn), fun _ _ _ _ _ _ _ _ _ q _ hn => (by rw [noAT_next (fun x hx => (h x hx).2)] at hn; cases hn), fun _ _ _ _ _ _ _ _ q _ hn => (by rw [noAT_next (fun x hx => (h x hx).2)] at hn; cases hn)⟩
theorem rqAT : noAT (rqB ++ [0]) := by
 have h : (rqB ++ [0]).all (fun x => decide (x ≠ tagB 8) && decide (x ≠ tagB 9)) = true := by decide +kernel
 intro x hx
 have := List.all_eq_true.1 h x hx
 simpa using this
theorem krq : kindB (rqB ++ [0]) 0 = true ∧ kindV (rqB ++ [0]) 0 = ((10 : Nat) : Int) := ⟨by decide +kernel, by decide +kernel⟩
theorem dec1_c : PC Tryz.prog 14 [.isl .u8 (rqB ++ [0])] (.tup [.agg (ReqT.cells ReqT.dflt), rI 6]) :=
 decReq_bad noATB 10 (by decide) (rqB ++ [0]) (by rw [List.length_append, lrqB]; decide) rqAT krq.1 krq.2 bad1
end Go.Proofs.YtoeieekegmmdkaaGreatDoor

/- Contracts: messages: known. -/
namespace Go.Proofs.YtoeieekegmmdkaaGreatDoor
open Go Go.Sx Go.Proofs
set_option maxRecDepth 100000
set_option maxHeartbeats 4000000
set_option linter.unusedSimpArgs false

theorem mknown_c : PC Tryz.prog 5 [] (rB true) := by
 have hc1 := rqC 10 [1, 2] (by decide)
 have hc2 := rqC 10 [1, 1] (by decide)
 have hc3 := rqC 12 [1, 2] (by decide)
 have cb := body_c hc1
 have ce := encReq_o hc1 vrq1 (fun h => by have := lrqB; unfold rqB at this; change reqS rq1 [] [] = [] at h; rw [h] at this; cases this)
 have cf := encFail_c fl1 okfl
 have v2 := validReq_c hc2
 have v3 := validReq_c hc3
 have cd := dec1_c
 change PC _ _ [.agg (ReqT.cells rq1)] (.tup [.isl .u8 (if vReq rq1 true true [] [] then bodyS rq1 [] [] else []), rI (if vReq rq1 true true [] [] then 0 else 2)]) at cb
 change VC _ _ [.agg (ReqT.cells rq1)] [] (RowT .u8 rqB _) at ce
 change PC _ _ [.agg (ReqT.cells rq2)] (rB (vReq rq2 true true [] [])) at v2
 change PC _ _ [.agg (ReqT.cells rq3)] (rB (vReq rq3 true true [] [])) at v3
 rw [vrq1, if_pos rfl, if_pos rfl] at cb
 rw [vfl1, if_pos rfl, if_pos rfl] at cf
 rw [vrq2] at v2
 rw [vrq3] at v3
 have l1 := lbod
 have l2 := lrqB
 have l3 := lfl1
 have g2 := hrqB
 have g3 := hfl1
 have ct := type_c (failS fl1)
 have ht : typB (failS fl1) = true ∧ typN (failS fl1) = 30 := by unfold typB typN; rw [show (failS fl1).getD 0 0 = 126 from g3]; refine ⟨?_, by decide⟩; rw [decide_eq_true (fun e => by rw [e] at l3; cases l3)]; decide
 rw [ht.1, if_pos rfl, if_pos rfl, ht.2] at ct
 clear ht hc1 hc2 hc3
 generalize bodyS rq1 [] [] = bd at *
 generalize rqB = rb at *
 generalize failS fl1 = fb at *
 refine pc_of rfl rfl ?_
 refine runE mixed fi5 ?_
 refine ⟨by decide, callI_pure lrealm_c ?_⟩
 refine run_sound mixed 5 _ ?_
 with_reducible refine sxE ?_
 refine si_freeze 0 rfl rfl (by simp) ?_ ?_ ?_
 · with_reducible refine sxE ?_; trivial
 · with_reducible refine sxE ?_; trivial
 with_reducible refine sxE ?_
 refine si_freeze 1 rfl rfl (by simp) ?_ ?_ ?_
 · with_reducible refine sxE ?_; trivial
 · with_reducible refine sxE ?_; trivial
 with_reducible refine sxE ?_
 refine goE mixed ?_
 refine callI_pure lrealm_c ?_
 refine goE mixed ?_
 refine callI_pure (cb.arg ?_) ?_
 · simp (maxSteps := 3000000) only [rq1, cliA, tgsP, go_sem, ↓zA, ↓reduceIte, ↓reduceDIte, reduceCtorEq, Nat.reduceAdd, Nat.reduceSub, Nat.reduceLeDiff, Nat.reduceLT, Nat.reduceEqDiff, Nat.reduceBEq, Nat.reduceMul, Int.reduceToNat, Int.reduceEq, Int.reduceLT, Int.reduceLE] <;> try simp only [zB]
 refine goE mixed ?_
 refine callI_rowT (VC.arg ce ?_) rfl rfl (fun h0 => by rw [h0] at l2; cases l2) ?_
 · simp (maxSteps := 3000000) only [rq1, cliA, tgsP, go_sem, ↓zA, ↓reduceIte, ↓reduceDIte, reduceCtorEq, Nat.reduceAdd, Nat.reduceSub, Nat.reduceLeDiff, Nat.reduceLT, Nat.reduceEqDiff, Nat.reduceBEq, Nat.reduceMul, Int.reduceToNat, Int.reduceEq, Int.reduceLT, Int.reduceLE] <;> try simp only [zB]
 refine goE mixed ?_
 refine callI_pure (cf.arg ?_) ?_
 · simp (maxSteps := 3000000) only [fl1, tgsP, go_sem, ↓zA, ↓reduceIte, ↓reduceDIte, reduceCtorEq, Nat.reduceAdd, Nat.reduceSub, Nat.reduceLeDiff, Nat.reduceLT, Nat.reduceEqDiff, Nat.reduceBEq, Nat.reduceMul, Int.reduceToNat, Int.reduceEq, Int.reduceLT, Int.reduceLE] <;> try simp only [zB]
 refine goE mixed ?_
 refine callI_pure (lnum_c _) ?_
 refine goE mixed ?_
 refine callI_pure (lnum_c _) ?_
 refine goE mixed ?_
 refine callI_pure (lnum_c _) ?_
 have hw00 : IntKind.i64.wrap (0 + 0) = 0 := by decide
 refine run_sound mixed 600 _ ?_
 simp (maxSteps := 3000000) only [hw00, g2, g3, go_sem, ↓zA, ↓reduceIte, ↓reduceDIte, reduceCtorEq, Nat.reduceAdd, Nat.reduceSub, Nat.reduceLeDiff, Nat.reduceLT, Nat.reduceEqDiff, Nat.reduceBEq, Nat.reduceMul, Int.reduceToNat, Int.reduceEq, Int.reduceLT, Int.reduceLE] <;> try simp only [zB]
 refine ⟨fun _ => ⟨fun _ => ⟨by omega, by omega, fun _ => ⟨fun _ => ⟨by omega, fun h => absurd rfl h, fun _ => ?_⟩, fun h => absurd (by omega) h⟩, fun h => absurd rfl h⟩, fun h => absurd (by omega) h⟩, fun h => absurd (by omega) h⟩
 refine callI_inl fi6 ?_
 refine run_sound mixed 600 _ ?_
 simp (maxSteps := 3000000) only [opK, g2, go_sem, ↓zA, ↓reduceIte, ↓reduceDIte, reduceCtorEq, Nat.reduceAdd, Nat.reduceSub, Nat.reduceLeDiff, Nat.reduceLT, Nat.reduceEqDiff, Nat.reduceBEq, Nat.reduceMul, Int.reduceToNat, Int.reduceEq, Int.reduceLT, Int.reduceLE] <;> try simp only [zB]
 refine ⟨fun h => absurd h (by omega), fun _ => ⟨by omega, by omega, callI_pure (mbtw_c _ _ _) ?_⟩⟩
 refine run_sound mixed 600 _ ?_
 simp (maxSteps := 3000000) only [opK, go_sem, ↓zA, ↓reduceIte, ↓reduceDIte, reduceCtorEq, Nat.reduceAdd, Nat.reduceSub, Nat.reduceLeDiff, Nat.reduceLT, Nat.reduceEqDiff, Nat.reduceBEq, Nat.reduceMul, Int.reduceToNat, Int.reduceEq, Int.reduceLT, Int.reduceLE] <;> try simp only [zB]
 have hty : IntKind.i64.wrap (IntKind.i64.wrap ((UInt8.toNat 106 : Nat) : Int) - 96) = 10 := by decide
 refine ⟨fun h => absurd h (by decide), fun _ => ?_⟩
 rw [hty]
 refine goE mixed ?_
 refine callI_pure ct ?_
 refine goE mixed ?_
 have ct0 : PC Tryz.prog 6 [.isl .u8 [UInt8.ofNat 48, UInt8.ofNat 0]] (.tup [rI 0, rI 6]) := type_c [48, 0]
 refine ⟨⟨by decide, by decide⟩, callI_hand 5 ?_⟩
 with_reducible refine sxE ?_
 refine callI_pure ct0 ?_
 refine run_sound mixed 10 _ ?_
 with_reducible refine sxE ?_
 refine ⟨by decide, ?_⟩
 refine si_freeze 6 rfl rfl (by simp) ?_ ?_ ?_
 · with_reducible refine sxE ?_; trivial
 · with_reducible refine sxE ?_; trivial
 with_reducible refine sxE ?_
 refine goE mixed ?_
 have cp := preauth_c [(2, []), (2, [UInt8.ofNat 1])] 2 (by simp) (fun j hj => by
  match j, hj with
  | 0, _ => decide
  | 1, _ => decide)
 have cp1 : preV [(2, []), (2, [UInt8.ofNat 1])] 2 = [] := by decide
 have cp2 : preB [(2, []), (2, [UInt8.ofNat 1])] 2 = true := by decide
 rw [cp1, cp2] at cp
 refine callI_hand 7 ?_
 with_reducible refine sxE ?_
 refine callI_pure (cp.arg ?_) ?_
 · with_reducible refine sxE ?_; trivial
 refine goE mixed ?_
 have l4 : (rb ++ [UInt8.ofNat 0]).length = rb.length + 1 := List.length_append
 refine ⟨by decide, ⟨by omega, by omega⟩, callI_hand 9 ?_⟩
 with_reducible refine sxE ?_
 rw [List.take_of_length_le (by omega)]
 refine ⟨by omega, by omega, callI_pure cd ?_⟩
 refine goE mixed ?_
 refine callI_pure (lnum_c _) ?_
 refine goE mixed ?_
 refine callI_pure (lnum_c _) ?_
 refine run_sound mixed 600 _ ?_
 with_reducible refine sx1 hw00 ?_
 refine callI_pure (lnum_c _) ?_
 refine goE mixed ?_
 refine callI_pure (lnum_c _) ?_
 refine run_sound mixed 14 _ ?_
 with_reducible refine sxE ?_
 refine si_freeze 12 rfl rfl (by simp) ?_ ?_ ?_
 · with_reducible refine sxE ?_; trivial
 · with_reducible refine sxE ?_; trivial
 with_reducible refine sxE ?_
 refine goE mixed ?_
 refine callI_pure (v2.arg ?_) ?_
 · simp (maxSteps := 3000000) only [rq2, cliA, tgsP, go_sem, ↓zA, ↓reduceIte, ↓reduceDIte, reduceCtorEq, Nat.reduceAdd, Nat.reduceSub, Nat.reduceLeDiff, Nat.reduceLT, Nat.reduceEqDiff, Nat.reduceBEq, Nat.reduceMul, Int.reduceToNat, Int.reduceEq, Int.reduceLT, Int.reduceLE] <;> try simp only [zB]
 refine goE mixed ?_
 refine callI_pure (v3.arg ?_) ?_
 · simp (maxSteps := 3000000) only [rq3, cliA, tgsP, go_sem, ↓zA, ↓reduceIte, ↓reduceDIte, reduceCtorEq, Nat.reduceAdd, Nat.reduceSub, Nat.reduceLeDiff, Nat.reduceLT, Nat.reduceEqDiff, Nat.reduceBEq, Nat.reduceMul, Int.reduceToNat, Int.reduceEq, Int.reduceLT, Int.reduceLE] <;> try simp only [zB]
 refine goE mixed ?_; trivial
end Go.Proofs.YtoeieekegmmdkaaGreatDoor

/- MessageTypes: the law answers true. -/
namespace Go.Proofs.YtoeieekegmmdkaaGreatDoor
open Go Go.Sx Go.Proofs
set_option maxRecDepth 100000
set_option maxHeartbeats 4000000
set_option linter.unusedSimpArgs false

theorem mcbytes_p (l : List UInt8) (hl : l.length ≤ 140737488355328) : PE Tryz.prog 17 [.isl .u8 l] [] (.ret (.bld 0 .u8 l.length)) [.row .u8 l] := by
 refine pe_of ?_
 refine runE mixed fi17 ?_
 refine ⟨⟨by omega, by omega⟩, ?_⟩
 exact pe_row (h := 0) rfl (by omega)
theorem preauth_p (l : List Pre) (k : Int) (i : Nat) (hi : firstN l.length (kdAt l k) = some i) (hl : l.length ≤ 1125899906842624) (hb : ∀ j, j < l.length → (l.getD j PreT.dflt).2.length ≤ 140737488355328) : PE Tryz.prog 8 [.isl PreT l, rI k] [] (.ret (.tup [.bld 0 .u8 (List.length (l.getD i PreT.dflt).2), rB true])) [.row .u8 (l.getD i PreT.dflt).2] := by
 refine pe_of ?_
 refine runE mixed fi8 ?_
 refine si_cntD (fun m => [(10, .raw (.int .i64 ((m : Nat) : Int)))]) (l.length) (fun j => (fun j => !kdAt l k j) j = true) (by first | decide | simp) (fun i => rfl) ?_ fun m him hallm => ?_
 · (with_reducible refine sxE ?_ <;> try exact True.intro)
   all_goals (try rfl)
 have hwrm : IntKind.i64.wrap ((m : Int) + 1) = ((m + 1 : Nat) : Int) := wrap_succ (by omega)
 refine goE mixed ?_
 have badm : m < (l.length) → (fun j => !kdAt l k j) m = false → allN (l.length) (fun j => !kdAt l k j) = false := fun hlt hv => allN_false hlt hv
 have finm : ¬ m < (l.length) → allN (l.length) (fun j => !kdAt l k j) = true := fun h => allN_true fun j hj => hallm j (by omega)
 try dsimp only at badm finm hallm
 refine ⟨fun hlt => ⟨⟨by omega, hlt⟩, fun h1 => ?_, fun h1 => ?_⟩, fun hge => ?_⟩
 · have hf : firstN l.length (kdAt l k) = some m := firstN_some hlt (decide_eq_true h1) (fun j hj => by simpa using hallm j hj)
   obtain rfl : i = m := Option.some.inj (hi.symm.trans hf)
   have hbl := hb i hlt
   refine effE mixed [] (mcbytes_p _ hbl) ?_
   exact pe_rowT (h := 1) rfl rfl
 · refine ⟨hlt, next_all (fun j hj => by simpa using hallm j hj) (by simpa [kdAt] using h1), ⟨[_], rfl⟩, ?_⟩
   with_reducible refine sx1 hwrm ?_; trivial
 · have hf : firstN l.length (kdAt l k) = none := firstN_none (fun j hj => by simpa using hallm j (by omega))
   rw [hf] at hi; cases hi
def s300 (l : List Pre) (j : Nat) : Bool := decide (((l.getD j PreT.dflt).2.length : Int) ≤ 300)
def fewB (l : List Pre) : Bool := allN l.length (s300 l) && decide ((l.length : Int) ≤ 20)
theorem few_c (l : List Pre) (hl : l.length ≤ 1125899906842624) : PC Tryz.prog 4 [.isl PreT l] (rB (fewB l)) := by
 refine pc_of rfl rfl ?_
 refine runE mixed fi4 ?_
 refine si_cntD (fun i => [(3, .raw (.int .i64 ((i : Nat) : Int)))]) (l.length) (fun j => (s300 l) j = true) (by first | decide | simp) (fun i => rfl) ?_ fun i hi hall => ?_
 · (with_reducible refine sxE ?_ <;> try exact True.intro)
   all_goals (try rfl)
 have hwr : IntKind.i64.wrap ((i : Int) + 1) = ((i + 1 : Nat) : Int) := wrap_succ (by omega)
 refine goE mixed ?_
 have bad : i < (l.length) → (s300 l) i = false → allN (l.length) (s300 l) = false := fun hlt hv => allN_false hlt hv
 have fin : ¬ i < (l.length) → allN (l.length) (s300 l) = true := fun h => allN_true fun j hj => hall j (by omega)
 try dsimp only at bad fin hall
 refine ⟨fun hlt => ⟨⟨by omega, hlt⟩, fun h => ?_, fun h => ?_⟩, fun hge => ?_⟩
 · unfold fewB; rw [bad hlt (decide_eq_false (by omega))]; rfl
 · refine ⟨hlt, next_all hall (decide_eq_true (by omega)), ⟨[], rfl⟩, ?_⟩
   with_reducible refine sx1 hwr ?_; trivial
 · unfold fewB; rw [fin hge]; rfl
theorem rtype_c (b : List UInt8) : PC Tryz.prog 7 [.isl .u8 b] (.tup [rI (if typB b then typN b else 0), rI (if typB b then 0 else 6)]) := by
 refine pc_of rfl rfl ?_
 refine runE mixed fi7 ?_
 refine ⟨fun h => ?_, fun h => ⟨by omega, ?_⟩⟩
 · obtain rfl : b = [] := List.length_eq_zero_iff.1 (by omega)
   rfl
 have hne : b ≠ [] := fun e => h (by rw [e]; rfl)
 have hlt := (b.getD 0 Ty.u8.dflt).toNat_lt
 have hn : typN b = ((b.getD 0 Ty.u8.dflt).toNat : Int) - 96 := rfl
 have hb : typB b = (mIn 10 13 (typN b) || decide (typN b = 30)) := by unfold typB; rw [decide_eq_true hne, Bool.true_and]
 rw [wrapi (n := ((b.getD 0 Ty.u8.dflt).toNat : Int)) (by omega), wrapi (n := ((b.getD 0 Ty.u8.dflt).toNat : Int) - 96) (by omega), ← hn, hb]
 clear hn hb hlt hne h
 generalize typN b = n
 unfold mIn
 grind
def atG (l : List Pre) (k : Int) : Nat → Int
 | 0 => -1
 | c + 1 => if kdAt l k (l.length - (c + 1)) then ((l.length - (c + 1) : Nat) : Int) else atG l k c
theorem atG_spec (l : List Pre) (k : Int) : ∀ c, c ≤ l.length → (atG l k c = -1 ∧ ∀ j, l.length - c ≤ j → j < l.length → kdAt l k j = false) ∨ ∃ j : Nat, atG l k c = j ∧ l.length - c ≤ j ∧ j < l.length ∧ kdAt l k j = true ∧ ∀ i, l.length - c ≤ i → i < j → kdAt l k i = false
 | 0, _ => .inl ⟨rfl, fun j h1 h2 => by omega⟩
 | c + 1, hc => by
  unfold atG
  cases hk : kdAt l k (l.length - (c + 1)) with
  | true => exact .inr ⟨_, if_pos rfl, Nat.le_refl _, by omega, hk, fun i h1 h2 => by omega⟩
  | false =>
   rw [if_neg (by decide)]
   rcases atG_spec l k c (by omega) with ⟨h1, h2⟩ | ⟨j, h1, h2, h3, h4, h5⟩
   · refine .inl ⟨h1, fun j g1 g2 => ?_⟩
     by_cases e : j = l.length - (c + 1)
     · rw [e, hk]
     · exact h2 j (by omega) g2
   · refine .inr ⟨j, h1, by omega, h3, h4, fun i g1 g2 => ?_⟩
     by_cases e : i = l.length - (c + 1)
     · rw [e, hk]
     · exact h5 i (by omega) g2
theorem atG_none {l : List Pre} {k : Int} (h : firstN l.length (kdAt l k) = none) : atG l k l.length = -1 := by
 rcases atG_spec l k l.length (Nat.le_refl _) with ⟨h1, _⟩ | ⟨j, _, _, h3, h4, h5⟩
 · exact h1
 · rw [firstN_some h3 h4 (fun i hi => h5 i (by omega) hi)] at h; cases h
theorem atG_some {l : List Pre} {k : Int} {j : Nat} (h : firstN l.length (kdAt l k) = some j) : atG l k l.length = j := by
 obtain ⟨g1, g2, _⟩ := firstN_spec h
 rcases atG_spec l k l.length (Nat.le_refl _) with ⟨_, h2⟩ | ⟨i, h1, _, h3, h4, h5⟩
 · rw [h2 j (by omega) g1] at g2; cases g2
 · rw [firstN_some h3 h4 (fun i hi => h5 i (by omega) hi)] at h
   rw [h1, Option.some.inj h]
theorem types_law (b : List UInt8) (l : List Pre) (k : Int) (hb : b.length ≤ 1125899906842624) (ho : (Ty.slice PreT).ok l) : PC Tryz.prog 3 [.isl .u8 b, .isl PreT l, rI k] (rB true) := by
 have hl : l.length ≤ 1125899906842624 := ho.1
 have ct := type_c b
 have cr := rtype_c b
 generalize (if typB b then typN b else 0) = tn at *
 generalize (if typB b then (0 : Int) else 6) = te at *
 refine pc_of rfl rfl ?_
 refine runE mixed fi3 ?_
 refine ⟨fun h => callI_pure (few_c l hl) ?_, fun _ => callI_pure mknown_c ?_⟩
 rotate_left
 · refine goE mixed ?_; trivial
 refine goE mixed ?_
 refine ⟨fun _ => callI_pure mknown_c ?_, fun hf => ?_⟩
 · refine goE mixed ?_; trivial
 refine callI_pure ct ?_
 refine goE mixed ?_
 refine callI_pure cr ?_
 refine goE mixed ?_
 have hf1 : l.length ≤ 20 := by simp only [fewB, Bool.and_eq_true, decide_eq_true_eq] at hf; omega
 have hf2 : ∀ j, j < l.length → (l.getD j PreT.dflt).2.length ≤ 140737488355328 := fun j hj => by
  simp only [fewB, Bool.and_eq_true] at hf
  have := allN_iff.1 hf.1 j hj
  simp only [s300, decide_eq_true_eq] at this
  omega
 clear hf ct cr
 cases hi : firstN l.length (kdAt l k) with
 | none =>
  have hv : preV l k = [] := by unfold preV; rw [hi]
  have hB : preB l k = false := by unfold preB; rw [hi]; rfl
  have cp := preauth_c l k hl hf2
  rw [hv, hB] at cp
  refine callI_pure cp ?_
  refine goE mixed ?_
  refine si_loopX (ι := Nat) (fun c => [(13, rI (atG l k c)), (14, rI ((l.length : Int) - 1 - (c : Nat)))]) (fun _ => []) (fun c => l.length - c) (fun c => c ≤ l.length) 0 (Nat.zero_le _) rfl ?_ ?_
  · with_reducible refine sxE ?_
    exact ⟨rfl, congrArg (Value.int .i64) (by rw [wrapi (by omega)]; omega)⟩
  intro c hc
  by_cases hlt : c < l.length
  · have e : (l.length : Int) - 1 - (c : Nat) = ((l.length - (c + 1) : Nat) : Int) := by omega
    have hw : IntKind.i64.wrap (((l.length - (c + 1) : Nat) : Int) - 1) = (l.length : Int) - 1 - ((c + 1 : Nat) : Int) := by rw [wrapi (by omega)]; omega
    simp (maxSteps := 3000000) only [e, go_sem, ↓zA, ↓reduceIte, ↓reduceDIte, reduceCtorEq, Nat.reduceAdd, Nat.reduceSub, Nat.reduceLeDiff, Nat.reduceLT, Nat.reduceEqDiff, Nat.reduceBEq, Nat.reduceMul, Int.reduceToNat, Int.reduceEq, Int.reduceLT, Int.reduceLE] <;> try simp only [zB]
    refine goE mixed ?_
    refine ⟨fun _ => ⟨⟨by omega, by omega⟩, fun h1 => ?_, fun h1 => ?_⟩, fun h0 => absurd (by omega) h0⟩
    · have hg : atG l k (c + 1) = ((l.length - (c + 1) : Nat) : Int) := if_pos (decide_eq_true h1)
      refine ⟨c + 1, hlt, by dsimp only; omega, rfl, ?_⟩
      simp (maxSteps := 3000000) only [hg, hw, go_sem, ↓zA, ↓reduceIte, ↓reduceDIte, reduceCtorEq, Nat.reduceAdd, Nat.reduceSub, Nat.reduceLeDiff, Nat.reduceLT, Nat.reduceEqDiff, Nat.reduceBEq, Nat.reduceMul, Int.reduceToNat, Int.reduceEq, Int.reduceLT, Int.reduceLE] <;> try simp only [zB]
    · have hg : atG l k (c + 1) = atG l k c := if_neg (by unfold kdAt; rw [decide_eq_false h1]; decide)
      refine ⟨c + 1, hlt, by dsimp only; omega, rfl, ?_⟩
      simp (maxSteps := 3000000) only [hg, hw, go_sem, ↓zA, ↓reduceIte, ↓reduceDIte, reduceCtorEq, Nat.reduceAdd, Nat.reduceSub, Nat.reduceLeDiff, Nat.reduceLT, Nat.reduceEqDiff, Nat.reduceBEq, Nat.reduceMul, Int.reduceToNat, Int.reduceEq, Int.reduceLT, Int.reduceLE] <;> try simp only [zB]
  · obtain rfl : c = l.length := by omega
    have e : (l.length : Int) - 1 - (l.length : Nat) = -1 := by omega
    simp (maxSteps := 3000000) only [e, atG_none hi, go_sem, ↓zA, ↓reduceIte, ↓reduceDIte, reduceCtorEq, Nat.reduceAdd, Nat.reduceSub, Nat.reduceLeDiff, Nat.reduceLT, Nat.reduceEqDiff, Nat.reduceBEq, Nat.reduceMul, Int.reduceToNat, Int.reduceEq, Int.reduceLT, Int.reduceLE] <;> try simp only [zB]
    refine goE mixed ?_
    refine callI_pure (lnum_c _) ?_
    refine goE mixed ?_
    refine callI_pure mknown_c ?_
    refine goE mixed ?_; trivial
 | some j =>
  obtain ⟨hj, hk, _⟩ := firstN_spec hi
  refine effE mixed [] (preauth_p l k j hi hl hf2) ?_
  refine si_loopX (ι := Nat) (fun c => [(13, rI (atG l k c)), (14, rI ((l.length : Int) - 1 - (c : Nat)))]) (fun _ => [.row .u8 (l.getD j PreT.dflt).2]) (fun c => l.length - c) (fun c => c ≤ l.length) 0 (Nat.zero_le _) rfl ?_ ?_
  · with_reducible refine sxE ?_
    exact ⟨rfl, congrArg (Value.int .i64) (by rw [wrapi (by omega)]; omega)⟩
  intro c hc
  by_cases hlt : c < l.length
  · have e : (l.length : Int) - 1 - (c : Nat) = ((l.length - (c + 1) : Nat) : Int) := by omega
    have hw : IntKind.i64.wrap (((l.length - (c + 1) : Nat) : Int) - 1) = (l.length : Int) - 1 - ((c + 1 : Nat) : Int) := by rw [wrapi (by omega)]; omega
    simp (maxSteps := 3000000) only [e, go_sem, ↓zA, ↓reduceIte, ↓reduceDIte, reduceCtorEq, Nat.reduceAdd, Nat.reduceSub, Nat.reduceLeDiff, Nat.reduceLT, Nat.reduceEqDiff, Nat.reduceBEq, Nat.reduceMul, Int.reduceToNat, Int.reduceEq, Int.reduceLT, Int.reduceLE] <;> try simp only [zB]
    refine goE mixed ?_
    refine ⟨fun _ => ⟨⟨by omega, by omega⟩, fun h1 => ?_, fun h1 => ?_⟩, fun h0 => absurd (by omega) h0⟩
    · have hg : atG l k (c + 1) = ((l.length - (c + 1) : Nat) : Int) := if_pos (decide_eq_true h1)
      refine ⟨c + 1, hlt, by dsimp only; omega, rfl, ?_⟩
      simp (maxSteps := 3000000) only [hg, hw, go_sem, ↓zA, ↓reduceIte, ↓reduceDIte, reduceCtorEq, Nat.reduceAdd, Nat.reduceSub, Nat.reduceLeDiff, Nat.reduceLT, Nat.reduceEqDiff, Nat.reduceBEq, Nat.reduceMul, Int.reduceToNat, Int.reduceEq, Int.reduceLT, Int.reduceLE] <;> try simp only [zB]
    · have hg : atG l k (c + 1) = atG l k c := if_neg (by unfold kdAt; rw [decide_eq_false h1]; decide)
      refine ⟨c + 1, hlt, by dsimp only; omega, rfl, ?_⟩
      simp (maxSteps := 3000000) only [hg, hw, go_sem, ↓zA, ↓reduceIte, ↓reduceDIte, reduceCtorEq, Nat.reduceAdd, Nat.reduceSub, Nat.reduceLeDiff, Nat.reduceLT, Nat.reduceEqDiff, Nat.reduceBEq, Nat.reduceMul, Int.reduceToNat, Int.reduceEq, Int.reduceLT, Int.reduceLE] <;> try simp only [zB]
  · obtain rfl : c = l.length := by omega
    have e : (l.length : Int) - 1 - (l.length : Nat) = -1 := by omega
    simp (maxSteps := 3000000) only [e, atG_some hi, go_sem, ↓zA, ↓reduceIte, ↓reduceDIte, reduceCtorEq, Nat.reduceAdd, Nat.reduceSub, Nat.reduceLeDiff, Nat.reduceLT, Nat.reduceEqDiff, Nat.reduceBEq, Nat.reduceMul, Int.reduceToNat, Int.reduceEq, Int.reduceLT, Int.reduceLE] <;> try simp only [zB]
    refine goE mixed ?_
    refine callI_pure (lnum_c _) ?_
    refine goE mixed ?_
    have hx := hf2 j hj
    have hs : strOf (List.take (List.length (l.getD j PreT.dflt).2) (l.getD j PreT.dflt).2) = strOf (l.getD j PreT.dflt).2 := by rw [List.take_of_length_le (Nat.le_refl _)]
    generalize hxs : (l.getD j PreT.dflt).2 = xs at *
    change List.length xs ≤ _ at hx
    refine ⟨fun _ => ⟨fun h => absurd h (by omega), fun _ => ⟨fun _ => ⟨⟨by omega, hj⟩, ⟨Nat.le_refl _, by omega⟩, fun h => absurd hs h, fun _ => ?_⟩, fun h => absurd (by omega) h⟩⟩, fun h => absurd (by simp) h⟩
    refine si_loopX (ι := Nat × List UInt8) (fun s => [(16, rI ((s.1 : Nat) : Int))]) (fun s => [.row .u8 s.2]) (fun s => List.length xs - s.1) (fun s => s.1 ≤ List.length xs ∧ s.2.length = List.length xs) (0, xs) ⟨Nat.zero_le _, rfl⟩ rfl ?_ ?_
    · with_reducible refine sxE ?_; trivial
    rintro ⟨i, ys⟩ ⟨h1, h2⟩
    dsimp only at h1 h2
    have hwr : IntKind.i64.wrap ((i : Int) + 1) = ((i + 1 : Nat) : Int) := wrap_succ (by omega)
    refine goE mixed ?_
    refine ⟨fun hlt => ⟨⟨by omega, hlt⟩, by omega, ⟨by omega, hlt⟩, ⟨by omega, byte_ob _⟩, (i + 1, _), ⟨hlt, by dsimp only; rw [List.length_set, h2]⟩, by dsimp only; omega, rfl, ?_⟩, fun hge => ⟨⟨by omega, hj⟩, fun h => absurd (by rw [hxs]) h, fun _ => callI_pure mknown_c ?_⟩⟩
    · with_reducible refine sx1 hwr ?_; trivial
    · refine goE mixed ?_; trivial
end Go.Proofs.YtoeieekegmmdkaaGreatDoor

