/- MessageFailures: the law answers true. -/
import Derived.Test.YtmegaleepkmadaaGreatDoorP26
set_option linter.unusedSimpArgs false
set_option linter.unusedVariables false
set_option linter.unusedSectionVars false
namespace Go.Proofs.YtmegaleepkmadaaGreatDoor
open Go Go.Sx Go.Proofs
set_option maxRecDepth 100000
set_option maxHeartbeats 4000000
set_option linter.unusedSimpArgs false

def s40 (l : List ByteArray) (j : Nat) : Bool := decide (((l.getD j (Ty.dflt .str)).size : Int) ≤ 40)
def shortB (p : Prin) : Bool := (decide ((p.1.length : Int) ≤ 6) && decide ((p.2.size : Int) ≤ 40)) && allN p.1.length (s40 p.1)
theorem lshort_c (p : Prin) (hp : PrinT.ok p) : PC Tryz.prog 15 [.agg (PrinT.cells p)] (rB (shortB p)) := by
 obtain ⟨l, r⟩ := p
 have hl : l.length ≤ 1125899906842624 := hp.1.1
 have hd : shortB (l, r) = ((decide ((l.length : Int) ≤ 6) && decide ((r.size : Int) ≤ 40)) && allN l.length (s40 l)) := rfl
 refine pc_of rfl rfl ?_
 refine runE mixed fi15 ?_
 refine si_cntD (fun i => [(3, .raw (.int .i64 ((i : Nat) : Int)))]) (l.length) (fun j => (s40 l) j = true) (by first | decide | simp) (fun i => rfl) ?_ fun i hi hall => ?_
 · (with_reducible refine sxE ?_ <;> try exact True.intro)
   all_goals (try rfl)
 have hwr : IntKind.i64.wrap ((i : Int) + 1) = ((i + 1 : Nat) : Int) := wrap_succ (by omega)
 refine goE mixed ?_
 have bad : i < (l.length) → (s40 l) i = false → allN (l.length) (s40 l) = false := fun hlt hv => allN_false hlt hv
 have fin : ¬ i < (l.length) → allN (l.length) (s40 l) = true := fun h => allN_true fun j hj => hall j (by omega)
 try dsimp only at bad fin hall
 refine ⟨fun hlt => ⟨⟨by omega, hlt⟩, fun h => ?_, fun h => ?_⟩, fun hge => ?_⟩
 · rw [hd, bad hlt (decide_eq_false (fun q => absurd h (Int.not_lt.2 q))), Bool.and_false]
 · refine ⟨hlt, next_all hall (decide_eq_true (Int.not_lt.1 h)), ⟨[], rfl⟩, ?_⟩
   with_reducible refine sx1 hwr ?_; trivial
 · rw [hd, fin hge, Bool.and_true]
   exact ⟨fun h => by rw [decide_eq_true h, Bool.true_and], fun h => by rw [decide_eq_false h, Bool.false_and]⟩
theorem short_sh {p : Prin} (h : shortB p = true) : shP p := by
 simp only [shortB, Bool.and_eq_true, decide_eq_true_eq] at h
 refine ⟨by omega, fun x hx => ?_, by omega⟩
 obtain ⟨j, hj, rfl⟩ := List.getElem_of_mem hx
 have := allN_iff.1 h.2 j hj
 simp only [s40, decide_eq_true_eq, List.getD_eq_getElem?_getD, List.getElem?_eq_getElem hj, Option.getD_some] at this
 omega
def failB (f : Fail) : Bool := shortB f.2.2.2.1 && (shortB f.2.2.2.2.1 && (decide ((f.2.2.2.2.2.1.size : Int) ≤ 300) && fewB f.2.2.2.2.2.2))
theorem lfail_c (f : Fail) (ho : FailT.ok f) : PC Tryz.prog 4 [.agg (FailT.cells f)] (rB (failB f)) := by
 have hd : failB f = (shortB f.2.2.2.1 && (shortB f.2.2.2.2.1 && (decide ((f.2.2.2.2.2.1.size : Int) ≤ 300) && fewB f.2.2.2.2.2.2))) := rfl
 rw [hd]
 obtain ⟨c, t, m, p, s, x, d⟩ := f
 obtain ⟨_, _, _, o4, o5, o6, o7⟩ := ho
 refine pc_of rfl rfl ?_
 refine runE mixed fi4 ?_ <;> try with_reducible exact True.intro
 repeat' (first
  | (refine callI_pure (lshort_c _ o4) ?_; refine run_sound mixed 600 _ ?_; simp (maxSteps := 3000000) only [go_sem, ↓zA, ↓reduceIte, ↓reduceDIte, reduceCtorEq, Nat.reduceAdd, Nat.reduceSub, Nat.reduceLeDiff, Nat.reduceLT, Nat.reduceEqDiff, Nat.reduceBEq, Nat.reduceMul, Int.reduceToNat, Int.reduceEq, Int.reduceLT, Int.reduceLE] <;> try simp only [zB])
  | (refine callR_pure (lshort_c _ o4) ?_; refine run_sound mixed 600 _ ?_; simp (maxSteps := 3000000) only [go_sem, ↓zA, ↓reduceIte, ↓reduceDIte, reduceCtorEq, Nat.reduceAdd, Nat.reduceSub, Nat.reduceLeDiff, Nat.reduceLT, Nat.reduceEqDiff, Nat.reduceBEq, Nat.reduceMul, Int.reduceToNat, Int.reduceEq, Int.reduceLT, Int.reduceLE] <;> try simp only [zB])
  | (refine callF_pure (lshort_c _ o4) ?_; refine run_sound mixed 600 _ ?_; simp (maxSteps := 3000000) only [go_sem, ↓zA, ↓reduceIte, ↓reduceDIte, reduceCtorEq, Nat.reduceAdd, Nat.reduceSub, Nat.reduceLeDiff, Nat.reduceLT, Nat.reduceEqDiff, Nat.reduceBEq, Nat.reduceMul, Int.reduceToNat, Int.reduceEq, Int.reduceLT, Int.reduceLE] <;> try simp only [zB])
  | (refine callI_pure (lshort_c _ o5) ?_; refine run_sound mixed 600 _ ?_; simp (maxSteps := 3000000) only [go_sem, ↓zA, ↓reduceIte, ↓reduceDIte, reduceCtorEq, Nat.reduceAdd, Nat.reduceSub, Nat.reduceLeDiff, Nat.reduceLT, Nat.reduceEqDiff, Nat.reduceBEq, Nat.reduceMul, Int.reduceToNat, Int.reduceEq, Int.reduceLT, Int.reduceLE] <;> try simp only [zB])
  | (refine callR_pure (lshort_c _ o5) ?_; refine run_sound mixed 600 _ ?_; simp (maxSteps := 3000000) only [go_sem, ↓zA, ↓reduceIte, ↓reduceDIte, reduceCtorEq, Nat.reduceAdd, Nat.reduceSub, Nat.reduceLeDiff, Nat.reduceLT, Nat.reduceEqDiff, Nat.reduceBEq, Nat.reduceMul, Int.reduceToNat, Int.reduceEq, Int.reduceLT, Int.reduceLE] <;> try simp only [zB])
  | (refine callF_pure (lshort_c _ o5) ?_; refine run_sound mixed 600 _ ?_; simp (maxSteps := 3000000) only [go_sem, ↓zA, ↓reduceIte, ↓reduceDIte, reduceCtorEq, Nat.reduceAdd, Nat.reduceSub, Nat.reduceLeDiff, Nat.reduceLT, Nat.reduceEqDiff, Nat.reduceBEq, Nat.reduceMul, Int.reduceToNat, Int.reduceEq, Int.reduceLT, Int.reduceLE] <;> try simp only [zB])
  | (refine callI_pure (few_c _ o7.1) ?_; refine run_sound mixed 600 _ ?_; simp (maxSteps := 3000000) only [go_sem, ↓zA, ↓reduceIte, ↓reduceDIte, reduceCtorEq, Nat.reduceAdd, Nat.reduceSub, Nat.reduceLeDiff, Nat.reduceLT, Nat.reduceEqDiff, Nat.reduceBEq, Nat.reduceMul, Int.reduceToNat, Int.reduceEq, Int.reduceLT, Int.reduceLE] <;> try simp only [zB])
  | (refine callR_pure (few_c _ o7.1) ?_; refine run_sound mixed 600 _ ?_; simp (maxSteps := 3000000) only [go_sem, ↓zA, ↓reduceIte, ↓reduceDIte, reduceCtorEq, Nat.reduceAdd, Nat.reduceSub, Nat.reduceLeDiff, Nat.reduceLT, Nat.reduceEqDiff, Nat.reduceBEq, Nat.reduceMul, Int.reduceToNat, Int.reduceEq, Int.reduceLT, Int.reduceLE] <;> try simp only [zB])
  | (refine callF_pure (few_c _ o7.1) ?_; refine run_sound mixed 600 _ ?_; simp (maxSteps := 3000000) only [go_sem, ↓zA, ↓reduceIte, ↓reduceDIte, reduceCtorEq, Nat.reduceAdd, Nat.reduceSub, Nat.reduceLeDiff, Nat.reduceLT, Nat.reduceEqDiff, Nat.reduceBEq, Nat.reduceMul, Int.reduceToNat, Int.reduceEq, Int.reduceLT, Int.reduceLE] <;> try simp only [zB])
  | (with_reducible refine And.intro ?_ ?_)
  | (with_reducible intro _))
 all_goals ((simp_all <;> (intros; omega)))
theorem few_sh {l : List Pre} (h : fewB l = true) (hr : (Ty.slice PreT).inR l) : shD l := by
 simp only [fewB, Bool.and_eq_true, decide_eq_true_eq] at h
 refine ⟨by omega, fun x hx => ⟨(hr x hx).1, ?_⟩⟩
 obtain ⟨j, hj, rfl⟩ := List.getElem_of_mem hx
 have := allN_iff.1 h.1 j hj
 simp only [s300, decide_eq_true_eq, List.getD_eq_getElem?_getD, List.getElem?_eq_getElem hj, Option.getD_some] at this
 omega
theorem lsame_c (b w : List UInt8) (e : Int) (v : Bool) : PC Tryz.prog 11 [.isl .u8 b, rI e, rB v, .isl .u8 w] (rB (if v then decide (b = w) && decide (e = 0) else decide (b.length = 0) && decide (e = 2))) := by
 refine pc_of rfl rfl ?_
 refine runE mixed fi11 ?_ <;> try with_reducible exact True.intro
 repeat' (first
  | (refine callI_pure (lnum_c _) ?_; refine run_sound mixed 600 _ ?_; simp (maxSteps := 3000000) only [go_sem, ↓zA, ↓reduceIte, ↓reduceDIte, reduceCtorEq, Nat.reduceAdd, Nat.reduceSub, Nat.reduceLeDiff, Nat.reduceLT, Nat.reduceEqDiff, Nat.reduceBEq, Nat.reduceMul, Int.reduceToNat, Int.reduceEq, Int.reduceLT, Int.reduceLE] <;> try simp only [zB])
  | (refine callR_pure (lnum_c _) ?_; refine run_sound mixed 600 _ ?_; simp (maxSteps := 3000000) only [go_sem, ↓zA, ↓reduceIte, ↓reduceDIte, reduceCtorEq, Nat.reduceAdd, Nat.reduceSub, Nat.reduceLeDiff, Nat.reduceLT, Nat.reduceEqDiff, Nat.reduceBEq, Nat.reduceMul, Int.reduceToNat, Int.reduceEq, Int.reduceLT, Int.reduceLE] <;> try simp only [zB])
  | (refine callF_pure (lnum_c _) ?_; refine run_sound mixed 600 _ ?_; simp (maxSteps := 3000000) only [go_sem, ↓zA, ↓reduceIte, ↓reduceDIte, reduceCtorEq, Nat.reduceAdd, Nat.reduceSub, Nat.reduceLeDiff, Nat.reduceLT, Nat.reduceEqDiff, Nat.reduceBEq, Nat.reduceMul, Int.reduceToNat, Int.reduceEq, Int.reduceLT, Int.reduceLE] <;> try simp only [zB])
  | (with_reducible refine And.intro ?_ ?_)
  | (with_reducible intro _))
 all_goals (simp_all [strOf_inj])
theorem rsamePre_c (l : List Pre) (hl : l.length ≤ 1125899906842624) : PC Tryz.prog 49 [.isl PreT l, .isl PreT l] (rB true) := by
 refine pc_of rfl rfl ?_
 refine runE mixed fi49 ?_
 refine si_cntD (fun i => [(5, .raw (.int .i64 ((i : Nat) : Int)))]) (l.length) (fun j => (fun _ => true) j = true) (by first | decide | simp) (fun i => rfl) ?_ fun i hi hall => ?_
 · (with_reducible refine sxE ?_ <;> try exact True.intro)
   all_goals (try rfl)
 have hwr : IntKind.i64.wrap ((i : Int) + 1) = ((i + 1 : Nat) : Int) := wrap_succ (by omega)
 refine goE mixed ?_
 have bad : i < (l.length) → (fun _ => true) i = false → allN (l.length) (fun _ => true) = false := fun hlt hv => allN_false hlt hv
 have fin : ¬ i < (l.length) → allN (l.length) (fun _ => true) = true := fun h => allN_true fun j hj => hall j (by omega)
 try dsimp only at bad fin hall
 refine ⟨fun hlt => ⟨⟨by omega, hlt⟩, ⟨by omega, hlt⟩, ⟨by omega, hlt⟩, ⟨by omega, hlt⟩, ?_⟩, fun _ => trivial⟩
 refine ⟨hlt, trivial, ⟨[], rfl⟩, ?_⟩
 with_reducible refine sx1 hwr ?_; trivial
theorem rsameFail_c (f : Fail) (ho : FailT.ok f) : PC Tryz.prog 13 [.agg (FailT.cells f), .agg (FailT.cells f)] (rB true) := by
 obtain ⟨c, t, m, p, s, x, d⟩ := f
 obtain ⟨_, _, _, o4, o5, o6, o7⟩ := ho
 refine pc_of rfl rfl ?_
 refine runE mixed fi13 ?_ <;> try with_reducible exact True.intro
 repeat' (first
  | (refine callI_pure (rsp_c _ _ o4) ?_; refine run_sound mixed 600 _ ?_; simp (maxSteps := 3000000) only [go_sem, ↓zA, ↓reduceIte, ↓reduceDIte, reduceCtorEq, Nat.reduceAdd, Nat.reduceSub, Nat.reduceLeDiff, Nat.reduceLT, Nat.reduceEqDiff, Nat.reduceBEq, Nat.reduceMul, Int.reduceToNat, Int.reduceEq, Int.reduceLT, Int.reduceLE] <;> try simp only [zB])
  | (refine callR_pure (rsp_c _ _ o4) ?_; refine run_sound mixed 600 _ ?_; simp (maxSteps := 3000000) only [go_sem, ↓zA, ↓reduceIte, ↓reduceDIte, reduceCtorEq, Nat.reduceAdd, Nat.reduceSub, Nat.reduceLeDiff, Nat.reduceLT, Nat.reduceEqDiff, Nat.reduceBEq, Nat.reduceMul, Int.reduceToNat, Int.reduceEq, Int.reduceLT, Int.reduceLE] <;> try simp only [zB])
  | (refine callF_pure (rsp_c _ _ o4) ?_; refine run_sound mixed 600 _ ?_; simp (maxSteps := 3000000) only [go_sem, ↓zA, ↓reduceIte, ↓reduceDIte, reduceCtorEq, Nat.reduceAdd, Nat.reduceSub, Nat.reduceLeDiff, Nat.reduceLT, Nat.reduceEqDiff, Nat.reduceBEq, Nat.reduceMul, Int.reduceToNat, Int.reduceEq, Int.reduceLT, Int.reduceLE] <;> try simp only [zB])
  | (refine callI_pure (rsp_c _ _ o5) ?_; refine run_sound mixed 600 _ ?_; simp (maxSteps := 3000000) only [go_sem, ↓zA, ↓reduceIte, ↓reduceDIte, reduceCtorEq, Nat.reduceAdd, Nat.reduceSub, Nat.reduceLeDiff, Nat.reduceLT, Nat.reduceEqDiff, Nat.reduceBEq, Nat.reduceMul, Int.reduceToNat, Int.reduceEq, Int.reduceLT, Int.reduceLE] <;> try simp only [zB])
  | (refine callR_pure (rsp_c _ _ o5) ?_; refine run_sound mixed 600 _ ?_; simp (maxSteps := 3000000) only [go_sem, ↓zA, ↓reduceIte, ↓reduceDIte, reduceCtorEq, Nat.reduceAdd, Nat.reduceSub, Nat.reduceLeDiff, Nat.reduceLT, Nat.reduceEqDiff, Nat.reduceBEq, Nat.reduceMul, Int.reduceToNat, Int.reduceEq, Int.reduceLT, Int.reduceLE] <;> try simp only [zB])
  | (refine callF_pure (rsp_c _ _ o5) ?_; refine run_sound mixed 600 _ ?_; simp (maxSteps := 3000000) only [go_sem, ↓zA, ↓reduceIte, ↓reduceDIte, reduceCtorEq, Nat.reduceAdd, Nat.reduceSub, Nat.reduceLeDiff, Nat.reduceLT, Nat.reduceEqDiff, Nat.reduceBEq, Nat.reduceMul, Int.reduceToNat, Int.reduceEq, Int.reduceLT, Int.reduceLE] <;> try simp only [zB])
  | (refine callI_pure (rsamePre_c _ o7.1) ?_; refine run_sound mixed 600 _ ?_; simp (maxSteps := 3000000) only [go_sem, ↓zA, ↓reduceIte, ↓reduceDIte, reduceCtorEq, Nat.reduceAdd, Nat.reduceSub, Nat.reduceLeDiff, Nat.reduceLT, Nat.reduceEqDiff, Nat.reduceBEq, Nat.reduceMul, Int.reduceToNat, Int.reduceEq, Int.reduceLT, Int.reduceLE] <;> try simp only [zB])
  | (refine callR_pure (rsamePre_c _ o7.1) ?_; refine run_sound mixed 600 _ ?_; simp (maxSteps := 3000000) only [go_sem, ↓zA, ↓reduceIte, ↓reduceDIte, reduceCtorEq, Nat.reduceAdd, Nat.reduceSub, Nat.reduceLeDiff, Nat.reduceLT, Nat.reduceEqDiff, Nat.reduceBEq, Nat.reduceMul, Int.reduceToNat, Int.reduceEq, Int.reduceLT, Int.reduceLE] <;> try simp only [zB])
  | (refine callF_pure (rsamePre_c _ o7.1) ?_; refine run_sound mixed 600 _ ?_; simp (maxSteps := 3000000) only [go_sem, ↓zA, ↓reduceIte, ↓reduceDIte, reduceCtorEq, Nat.reduceAdd, Nat.reduceSub, Nat.reduceLeDiff, Nat.reduceLT, Nat.reduceEqDiff, Nat.reduceBEq, Nat.reduceMul, Int.reduceToNat, Int.reduceEq, Int.reduceLT, Int.reduceLE] <;> try simp only [zB])
  | (with_reducible refine And.intro ?_ ?_)
  | (with_reducible intro _))
 all_goals (simp_all)
theorem decF_ok {b : List UInt8} (hb : b.length ≤ 1099511627776) : FailT.ok ((decF b).getD FailT.dflt) := by
 cases h : decF b with
 | none => exact ⟨trivial, trivial, trivial, zP_ok, zP_ok, estr_ok, nil_ok⟩
 | some f =>
  unfold decF at h
  split at h
  · unfold decFail allP at h
    cases hx : failP b with
    | error e' => rw [hx] at h; cases h
    | ok y =>
     obtain ⟨u, k⟩ := y
     rw [hx] at h
     have := okP_fail b u k hb hx
     by_cases hm : k < b.length
     · simp [hm] at h
     · simp [hm] at h
       exact h.2 ▸ this
  · cases h
theorem failures_law (f : Fail) (ho : FailT.ok f) (hr : FailT.inR f) (b : List UInt8) : PC Tryz.prog 3 [.agg (FailT.cells f), .isl .u8 b] (rB true) := by
 have cf := lfail_c f ho
 have hsh : failB f = true → shF f := fun h => by
  simp only [failB, Bool.and_eq_true, decide_eq_true_eq] at h
  exact ⟨hr.1, hr.2.2.1, short_sh h.1, short_sh h.2.1, by omega, few_sh h.2.2.2 hr.2.2.2.2.2.2⟩
 have cv := rvFail_c f ho
 have ce := encFail_c f ho
 have cd := fun hb => decFailure_c b hb
 have cr := fun hb => rdecFail_c b hb
 have cs := fun hb => rsameFail_c _ (decF_ok (b := b) hb)
 have cm := validFail_c f ho
 have cw := fun h => renc_c f (hsh h)
 have hw : vFail f = true → faiR f = failS f := fun h => by
  unfold vFail at h; rw [Bool.and_eq_true] at h; exact faiR_ok h.1
 have cl : PC Tryz.prog 11 [.isl .u8 (if vFail f then failS f else []), rI (if vFail f then 0 else 2), rB (vFail f), .isl .u8 (faiR f)] (rB true) := by
  have := lsame_c (if vFail f then failS f else []) (faiR f) (if vFail f then 0 else 2) (vFail f)
  cases hv : vFail f with
  | false => rw [hv] at this; simpa using this
  | true => rw [hv, hw hv] at this; rw [hw hv]; simpa using this
 generalize (decF b).getD FailT.dflt = q at *
 generalize (if (decF b).isSome then (0 : Int) else 6) = g at *
 generalize failB f = fb at *
 generalize faiR f = w at *
 generalize failS f = w' at *
 generalize vFail f = v at *
 obtain ⟨c, t, m, p, s, x, d⟩ := f
 refine pc_of rfl rfl ?_
 refine runE mixed fi3 ?_
 refine callI_pure cf ?_
 refine goE mixed ?_
 refine ⟨fun hf => ⟨fun h => callI_pure mknown_c ?_, fun hle => callI_pure cv ?_⟩, fun hf => callI_pure mknown_c ?_⟩
 rotate_left
 rotate_left
 · refine goE mixed ?_; trivial
 · refine goE mixed ?_; trivial
 refine goE mixed ?_
 refine callI_pure ce ?_
 refine goE mixed ?_
 refine callI_pure (cd (by omega)) ?_
 refine goE mixed ?_
 refine callI_pure (cr (by omega)) ?_
 refine goE mixed ?_
 refine callI_pure cm ?_
 refine goE mixed ?_
 refine callI_pure (cw hf) ?_
 refine goE mixed ?_
 refine callI_pure cl ?_
 refine goE mixed ?_
 refine callI_pure (cs (by omega)) ?_
 refine goE mixed ?_
 refine callI_pure (lnum_c _) ?_
 refine goE mixed ?_
 refine callI_pure mknown_c ?_
 refine goE mixed ?_; trivial
end Go.Proofs.YtmegaleepkmadaaGreatDoor

