/- Contracts: messages: the writers. -/
import Derived.Test.YtoeieekegmmdkaaGreatDoorP15
import Derived.Test.YtoeieekegmmdkaaGreatDoorP14
set_option linter.unusedSimpArgs false
set_option linter.unusedVariables false
set_option linter.unusedSectionVars false
namespace Go.Proofs.YtoeieekegmmdkaaGreatDoor
open Go Go.Sx Go.Proofs
set_option maxRecDepth 100000
set_option maxHeartbeats 4000000
set_option linter.unusedSimpArgs false

theorem dapp_c (n : Int) (b : List UInt8) : PC Tryz.prog 85 [rI n, .isl .u8 b] (.isl .u8 (wrapS 96 n b)) := by
 refine pc_seal rfl rfl ?_
 refine runE mixed fi85 ?_
 refine callI_pure (wrapped_c 96 n b (by omega)) ?_
 refine goE mixed ?_; trivial
theorem mapp_c (n : Int) (l : List (List UInt8)) (hl : l.length ≤ 1125899906842624) : PC Tryz.prog 51 [rI n, .isl (.slice .u8) l] (.isl .u8 (wrapS 96 n (elemS 48 l))) := by
 refine pc_seal rfl rfl ?_
 refine runE mixed fi51 ?_
 refine callI_pure (sequence_c l hl) ?_
 refine goE mixed ?_
 refine callI_pure (dapp_c n _) ?_
 refine goE mixed ?_; trivial
def optS (n : Int) (p : Bool) (w : List UInt8) : List UInt8 := if p then wrapS 160 n w else []
theorem optional_c (n : Int) (p : Bool) (g : Nat) (ca : List SV) (w : List UInt8) (hca : SV.cleanL ca = true) (hg : p = true → PC Tryz.prog g ca (.isl .u8 w)) : PC Tryz.prog 31 [rI n, rB p, .fn g [] ca] (.isl .u8 (optS n p w)) := by
 refine pc_seal (by simp [SV.cleanL, SV.clean, hca]) rfl ?_
 refine runE mixed fi31 ?_
 refine ⟨fun h => ?_, fun h => callI_pure (hg h) ?_⟩
 · rw [h]; rfl
 · refine goE mixed ?_
   refine callI_pure (tagged_c _ _) ?_
   refine goE mixed ?_
   rw [h]; rfl
theorem mprin_c (p : Prin) (hp : PrinT.ok p) : PC Tryz.prog 33 [.agg (PrinT.cells p)] (.isl .u8 (prinE p)) := by
 unfold prinE
 refine pc_seal rfl rfl ?_
 refine runE mixed fi33 ?_
 refine callI_pure (nencode_c p hp) ?_
 refine goE mixed ?_; trivial
theorem instant1_c (t : Int) : PC Tryz.prog 74 [.iptr I64 t 0] (.isl .u8 (timeS t)) := by
 refine pc_seal rfl rfl ?_
 refine runE mixed fi74 ?_
 refine callI_pure (time_c _) ?_
 refine goE mixed ?_; trivial
def instS (n t : Int) : List UInt8 := optS n (!decide (t = 0)) (timeS t)
theorem instant_c (n t : Int) : PC Tryz.prog 34 [rI n, rI t] (.isl .u8 (instS n t)) := by
 refine pc_seal rfl rfl ?_
 refine vc_fi fi34 (run_sound mixed 3 _ ?_)
 with_reducible refine sxE ?_
 refine si_frzc 3 0 (ty := I64) (x := t) rfl trivial rfl rfl ?_
 refine goE mixed ?_
 refine callI_pure (optional_c n _ _ _ _ rfl fun _ => instant1_c t) ?_
 refine goE mixed ?_
 rfl
def datS (d : Pre) : List UInt8 := fieldsS [intS d.1, elemS 4 [d.2]]
def dataS (l : List Pre) : List UInt8 := if l.length ≤ 16 then wholeS (mapN (t := PreT) datS l l.length) else []
theorem data_c (l : List Pre) : PC Tryz.prog 87 [.isl PreT l] (.isl .u8 (dataS l)) := by
 refine pc_seal rfl rfl ?_
 refine runE mixed fi87 ?_
 refine ⟨fun h => ?_, fun h => ?_⟩
 · unfold dataS; rw [if_neg (by omega)]
 have hl : l.length ≤ 16 := by omega
 refine si_accN 3 (.slice .u8) (mapN (t := PreT) datS l) (fun i => [(11, rI i)]) l.length (fun _ => True) rfl (by simp) (by simp [mapN]) rfl (fun i => rfl) ?_ fun i hi _ => ?_
 · with_reducible refine sxE ?_; trivial
 have hwr : IntKind.i64.wrap ((i : Int) + 1) = ((i + 1 : Nat) : Int) := wrap_succ (by omega)
 have hln := mapN_len (t := PreT) (w := datS) hi
 refine goE mixed ?_
 refine ⟨fun hlt => ⟨⟨by omega, hlt⟩, callR_pure (integer_c _) ?_⟩, fun hge => ?_⟩
 · refine goE mixed ?_
   refine callR_pure (octets_c _) ?_
   refine goE mixed ?_
   refine callR_hand 2 (by decide) ?_
   with_reducible refine sxE ?_
   refine callR_pure (fields_c _ (by simp)) ?_
   refine goE mixed ?_
   have hst := mapN_succ (t := PreT) (w := datS) hlt
   refine ⟨⟨by omega, by omega⟩, acc_next [_, _, _, _] [] hlt trivial (by rw [hst]; rfl) ?_⟩
   with_reducible refine sx3 hwr hst ?_; trivial
 · obtain rfl : i = l.length := by omega
   refine callI_hand 0 ?_
   with_reducible refine sxE ?_
   refine ⟨by omega, Nat.le_refl _, ?_⟩
   rw [List.take_of_length_le (Nat.le_refl _)]
   refine callI_pure (whole_c _ (by omega)) ?_
   refine goE mixed ?_
   unfold dataS; rw [if_pos hl]
theorem preAuth1_c (l : List Pre) (hl : l.length ≤ 1048576) : PC Tryz.prog 86 [.iptr (.slice PreT) l 0] (.isl .u8 (dataS l)) := by
 refine pc_seal rfl rfl ?_
 refine runE mixed fi86 ?_
 refine ⟨by omega, ?_⟩
 refine si_accB (H := []) 2 PreT (fun i => l.take i) (fun i => [(7, .any), (10, rI i)]) l.length (fun _ => True) rfl (by simp) rfl (fun i => rfl) ?_ fun i hi _ => ?_
 · with_reducible refine sxE ?_; trivial
 have hwr : IntKind.i64.wrap ((i : Int) + 1) = ((i + 1 : Nat) : Int) := wrap_succ (by omega)
 have hln : (l.take i).length = i := List.length_take_of_le hi
 refine run_sound mixed 600 _ ?_
 with_reducible refine sx1 hln ?_
 refine ⟨fun hlt => ⟨⟨by omega, hlt⟩, ?_⟩, fun hge => ?_⟩
 · have hst := take_succ_getD (d := PreT.dflt) hlt
   refine ⟨⟨by omega, by omega⟩, acc_next [_, _, _] [] hlt trivial (by rw [hst]; rfl) ?_⟩
   simp (maxSteps := 3000000) only [hwr, hst, List.length_append, hln, go_sem, ↓zA, ↓reduceIte, ↓reduceDIte, reduceCtorEq, Nat.reduceAdd, Nat.reduceSub, Nat.reduceLeDiff, Nat.reduceLT, Nat.reduceEqDiff, Nat.reduceBEq, Nat.reduceMul, Int.reduceToNat, Int.reduceEq, Int.reduceLT, Int.reduceLE] <;> try simp only [zB]
 · obtain rfl : i = l.length := by omega
   refine callI_hand 0 ?_
   with_reducible refine sx1 hln ?_
   simp only [List.take_length]
   refine ⟨by omega, Nat.le_refl _, ?_⟩
   refine callI_pure (data_c l) ?_
   refine goE mixed ?_; trivial
def preS (n : Int) (l : List Pre) : List UInt8 := optS n (decide (0 < (l.length : Int))) (dataS l)
theorem preAuth_c (n : Int) (l : List Pre) (ho : (Ty.slice PreT).ok l) (hl : l.length ≤ 1048576) : PC Tryz.prog 52 [rI n, .isl PreT l] (.isl .u8 (preS n l)) := by
 refine pc_seal rfl rfl ?_
 refine vc_fi fi52 (run_sound mixed 3 _ ?_)
 with_reducible refine sxE ?_
 refine si_frzc 3 0 (ty := .slice PreT) (x := l) rfl ho rfl rfl ?_
 refine goE mixed ?_
 refine callI_pure (optional_c n _ _ _ _ rfl fun _ => preAuth1_c l hl) ?_
 refine goE mixed ?_
 rfl
theorem listI_c (l : List Int) (g : Nat) (w : Int → List UInt8) (hl : l.length ≤ 1048576) (hone : ∀ x ∈ l, PC Tryz.prog g [rI x] (.isl .u8 (w x))) :
 PC Tryz.prog 37 [.isl I64 l, .fn g [] []] (.isl .u8 (elemS 48 (mapN (t := I64) w l l.length))) := by
 refine pc_seal rfl rfl ?_
 refine runE mixed fi37 ?_
 refine ⟨by omega, ?_⟩
 refine si_accB (H := []) 5 (.slice .u8) (mapN (t := I64) w l) (fun i => [(10, .any), (13, rI i)]) l.length (fun _ => True) (by simp [mapN]) (by simp) rfl (fun i => rfl) ?_ fun i hi _ => ?_
 · with_reducible refine sxE ?_
   rfl
 have hwr : IntKind.i64.wrap ((i : Int) + 1) = ((i + 1 : Nat) : Int) := wrap_succ (by omega)
 have hln := mapN_len (t := I64) (w := w) hi
 refine run_sound mixed 600 _ ?_
 with_reducible refine sx1 hln ?_
 refine ⟨fun hlt => ⟨⟨by omega, hlt⟩, callI_pure (hone _ (getD_mem (d := I64.dflt) hlt)) ?_⟩, fun hge => ?_⟩
 · refine run_sound mixed 600 _ ?_
   with_reducible refine sx1 hln ?_
   have hst := mapN_succ (t := I64) (w := w) hlt
   refine ⟨⟨by omega, by omega⟩, acc_next [_, _] [] hlt trivial (by rw [hst]; rfl) ?_⟩
   simp (maxSteps := 3000000) only [hwr, hst, List.length_append, hln, go_sem, ↓zA, ↓reduceIte, ↓reduceDIte, reduceCtorEq, Nat.reduceAdd, Nat.reduceSub, Nat.reduceLeDiff, Nat.reduceLT, Nat.reduceEqDiff, Nat.reduceBEq, Nat.reduceMul, Int.reduceToNat, Int.reduceEq, Int.reduceLT, Int.reduceLE] <;> try simp only [zB]
 · obtain rfl : i = l.length := by omega
   refine callI_hand 0 ?_
   with_reducible refine sx1 hln ?_
   refine ⟨by omega, Nat.le_refl _, ?_⟩
   rw [List.take_of_length_le (by omega)]
   refine callI_pure (sequence_c _ (by omega)) ?_
   refine goE mixed ?_; trivial
end Go.Proofs.YtoeieekegmmdkaaGreatDoor

/- Contracts: messages: the writers, as a whole. -/
namespace Go.Proofs.YtoeieekegmmdkaaGreatDoor
open Go Go.Sx Go.Proofs
set_option maxRecDepth 100000
set_option maxHeartbeats 4000000
set_option linter.unusedSimpArgs false

def failS (f : Fail) : List UInt8 := wrapS 96 30 (elemS 48 [wrapS 160 0 (intS 5), wrapS 160 1 (intS 30), wrapS 160 2 (timeS f.2.1), wrapS 160 3 (intS f.2.2.1), wrapS 160 4 (intS f.1), optS 5 (!noN f.2.2.2.1) (prinE f.2.2.2.1), wrapS 160 6 (prinE f.2.2.2.2.1), optS 7 (!decide (f.2.2.2.2.2.1 = ⟨#[]⟩)) (elemS 27 [f.2.2.2.2.2.1.data.toList]), preS 8 f.2.2.2.2.2.2])
theorem wfail1_c (f : Fail) (ho : FailT.ok f) : PC Tryz.prog 53 [.iptr FailT f 0] (.isl .u8 (prinE f.2.2.2.1)) := by
 obtain ⟨c, t, m, cl, sv, x, d⟩ := f
 obtain ⟨_, _, _, o4, o5, o6, _⟩ := ho
 refine pc_seal rfl rfl ?_
 refine runE mixed fi53 ?_
 refine callI_pure (mprin_c cl o4) ?_
 refine goE mixed ?_; trivial
theorem wfail2_c (f : Fail) (ho : FailT.ok f) : PC Tryz.prog 54 [.iptr FailT f 0] (.isl .u8 (elemS 27 [f.2.2.2.2.2.1.data.toList])) := by
 obtain ⟨c, t, m, cl, sv, x, d⟩ := f
 obtain ⟨_, _, _, o4, o5, o6, _⟩ := ho
 refine pc_seal rfl rfl ?_
 refine runE mixed fi54 ?_
 refine callI_pure (dstring_c x o6) ?_
 refine goE mixed ?_; trivial
theorem wfail_c (f : Fail) (ho : FailT.ok f) (hl : f.2.2.2.2.2.2.length ≤ 1048576) : PC Tryz.prog 23 [.agg (FailT.cells f)] (.isl .u8 (failS f)) := by
 have h1 := wfail1_c f ho
 have h2 := wfail2_c f ho
 have ho' := ho
 obtain ⟨c, t, m, cl, sv, x, d⟩ := f
 obtain ⟨_, _, _, o4, o5, o6, o7⟩ := ho
 dsimp only at hl
 refine pc_seal rfl rfl ?_
 refine vc_fi fi23 (run_sound mixed 3 _ ?_)
 with_reducible refine sxE ?_
 refine si_frzc 1 0 (ty := FailT) (x := (c, t, m, cl, sv, x, d)) rfl ho' rfl rfl ?_
 refine goE mixed ?_
 refine callR_pure (integer_c 5) ?_
 refine goE mixed ?_
 refine callR_pure (tagged_c _ _) ?_
 refine goE mixed ?_
 refine callR_pure (integer_c 30) ?_
 refine goE mixed ?_
 refine callR_pure (tagged_c _ _) ?_
 refine goE mixed ?_
 refine callR_pure (time_c t) ?_
 refine goE mixed ?_
 refine callR_pure (tagged_c _ _) ?_
 refine goE mixed ?_
 refine callR_pure (integer_c m) ?_
 refine goE mixed ?_
 refine callR_pure (tagged_c _ _) ?_
 refine goE mixed ?_
 refine callR_pure (integer_c c) ?_
 refine goE mixed ?_
 refine callR_pure (tagged_c _ _) ?_
 refine goE mixed ?_
 refine callR_pure (noName_c cl) ?_
 refine goE mixed ?_
 refine callR_pure (optional_c 5 _ _ _ _ rfl fun _ => h1) ?_
 refine goE mixed ?_
 refine callR_pure (mprin_c sv o5) ?_
 refine goE mixed ?_
 refine callR_pure (tagged_c _ _) ?_
 refine goE mixed ?_
 refine callR_pure (optional_c 7 _ _ _ _ rfl fun _ => h2) ?_
 refine goE mixed ?_
 refine callR_pure (preAuth_c 8 d o7 hl) ?_
 refine goE mixed ?_
 refine callR_hand 1 (by decide) ?_
 with_reducible refine sxE ?_
 refine callR_pure (mapp_c 30 _ (by simp)) ?_
 refine goE mixed ?_
 rfl
def shortS (b : List UInt8) : List UInt8 := if b.length ≤ 65536 then b else []
theorem short_c (b : List UInt8) : PC Tryz.prog 20 [.isl .u8 b] (.tup [.isl .u8 (shortS b), rI (if b.length ≤ 65536 then 0 else 2)]) := by
 refine pc_seal rfl rfl ?_
 refine runE mixed fi20 ?_
 refine ⟨fun h => ?_, fun h => ?_⟩
 · unfold shortS; rw [if_neg (by omega), if_neg (by omega)]; exact ⟨rfl, rfl⟩
 · unfold shortS; rw [if_pos (by omega), if_pos (by omega)]; exact ⟨rfl, rfl⟩
theorem sFail_len {f : Fail} (h : sFail f = true) : f.2.2.2.2.2.2.length ≤ 1048576 := by
 simp only [sFail, vPre, Bool.and_eq_true, decide_eq_true_eq] at h
 have := h.2.2.2.2.2.2.2.1
 omega
def vFail (f : Fail) : Bool := sFail f && decide ((failS f).length ≤ 65536)
theorem encFail_c (f : Fail) (ho : FailT.ok f) : PC Tryz.prog 13 [.agg (FailT.cells f)] (.tup [.isl .u8 (if vFail f then failS f else []), rI (if vFail f then 0 else 2)]) := by
 have h1 := sfail_c f ho
 have h2 := fun h => wfail_c f ho (sFail_len h)
 have h3 := short_c (failS f)
 have hv : vFail f = (sFail f && decide ((failS f).length ≤ 65536)) := rfl
 have hs : shortS (failS f) = if (failS f).length ≤ 65536 then failS f else [] := rfl
 rw [hv]
 clear hv
 generalize sFail f = s at *
 generalize failS f = w at *
 obtain ⟨c, t, m, cl, sv, x, d⟩ := f
 refine pc_seal rfl rfl ?_
 refine runE mixed fi13 ?_
 refine callI_pure h1 ?_
 refine goE mixed ?_
 refine ⟨fun h => ?_, fun h => callI_pure (h2 h) ?_⟩
 · rw [h]; exact ⟨rfl, rfl⟩
 · refine goE mixed ?_
   refine callI_pure h3 ?_
   refine goE mixed ?_
   rw [h, hs]
   by_cases hw : w.length ≤ 65536
   · rw [if_pos hw, if_pos hw, decide_eq_true hw]; exact ⟨rfl, rfl⟩
   · rw [if_neg hw, if_neg hw, decide_eq_false hw]; exact ⟨rfl, rfl⟩
def hostS (n : Int) (l : List Pre) (w : List UInt8) : List UInt8 := optS n (decide (0 < (l.length : Int))) w
def bodyS (r : Req) (wa wt : List UInt8) : List UInt8 := elemS 48 [wrapS 160 0 (bitsS r.2.2.1), optS 1 (decide (r.1 = 10)) (prinE r.2.2.2.1), wrapS 160 2 (prinE r.2.2.2.2.1), instS 3 r.2.2.2.2.2.1, wrapS 160 4 (timeS r.2.2.2.2.2.2.1), instS 5 r.2.2.2.2.2.2.2.1, wrapS 160 6 (intS r.2.2.2.2.2.2.2.2.1), wrapS 160 7 (elemS 48 (mapN (t := I64) intS r.2.2.2.2.2.2.2.2.2.1 r.2.2.2.2.2.2.2.2.2.1.length)), hostS 8 r.2.2.2.2.2.2.2.2.2.2.1 wa, optS 9 (decide (0 < (r.2.2.2.2.2.2.2.2.2.2.2.length : Int))) wt]
theorem wbody1_c (r : Req) (ho : ReqT.ok r) : PC Tryz.prog 32 [.iptr ReqT r 0] (.isl .u8 (prinE r.2.2.2.1)) := by
 obtain ⟨k, pre, opt, cl, sv, fr, ti, re, no, pf, ad, tk⟩ := r
 obtain ⟨_, o2, _, o4, o5, _⟩ := ho
 refine pc_seal rfl rfl ?_
 refine runE mixed fi32 ?_
 refine callI_pure (mprin_c cl o4) ?_
 refine goE mixed ?_; trivial
theorem hosts_c (n : Int) (l : List Pre) (w : List UInt8) (ho : (Ty.slice PreT).ok l) (ha : l ≠ [] → PC Tryz.prog 76 [.isl PreT l] (.isl .u8 w)) : PC Tryz.prog 38 [rI n, .isl PreT l] (.isl .u8 (hostS n l w)) := by
 refine pc_seal rfl rfl ?_
 refine vc_fi fi38 (run_sound mixed 3 _ ?_)
 with_reducible refine sxE ?_
 refine si_frzc 3 0 (ty := .slice PreT) (x := l) rfl ho rfl rfl ?_
 refine goE mixed ?_
 have h1 : l ≠ [] → PC Tryz.prog 75 [.iptr (.slice PreT) l 0] (.isl .u8 w) := fun h0 => by
  refine pc_seal rfl rfl ?_
  refine runE mixed fi75 ?_
  refine callI_pure (ha h0) ?_
  refine goE mixed ?_; trivial
 refine callI_pure (optional_c n _ _ _ _ rfl fun h => h1 (by rintro rfl; exact absurd h (by decide))) ?_
 refine goE mixed ?_
 rfl
theorem wbody_c (r : Req) (wa wt : List UInt8) (ho : ReqT.ok r) (hr : 0 ≤ r.2.2.1 ∧ r.2.2.1 ≤ 4294967295) (hl : r.2.2.2.2.2.2.2.2.2.1.length ≤ 1048576) (ha : r.2.2.2.2.2.2.2.2.2.2.1 ≠ [] → PC Tryz.prog 76 [.isl PreT r.2.2.2.2.2.2.2.2.2.2.1] (.isl .u8 wa))
 (ht : r.2.2.2.2.2.2.2.2.2.2.2 ≠ [] → PC Tryz.prog 39 [.iptr ReqT r 0] (.isl .u8 wt)) : PC Tryz.prog 18 [.agg (ReqT.cells r)] (.isl .u8 (bodyS r wa wt)) := by
 have h1 := wbody1_c r ho
 have ho' := ho
 obtain ⟨k, pre, opt, cl, sv, fr, ti, re, no, pf, ad, tk⟩ := r
 obtain ⟨_, o2, _, o4, o5, _, _, _, _, o10, o11, o12⟩ := ho
 dsimp only at hl ha hr
 have h2 : decide (0 < (tk.length : Int)) = true → PC Tryz.prog 39 [.iptr ReqT (k, pre, opt, cl, sv, fr, ti, re, no, pf, ad, tk) 0] (.isl .u8 wt) := fun h => ht (by dsimp only; rintro rfl; exact absurd h (by decide))
 clear ht
 refine pc_seal rfl rfl ?_
 refine vc_fi fi18 (run_sound mixed 3 _ ?_)
 with_reducible refine sxE ?_
 refine si_frzc 1 0 (ty := ReqT) (x := (k, pre, opt, cl, sv, fr, ti, re, no, pf, ad, tk)) rfl ho' rfl rfl ?_
 refine goE mixed ?_
 refine callR_pure (bits_c opt hr) ?_
 refine goE mixed ?_
 refine callR_pure (tagged_c _ _) ?_
 refine goE mixed ?_
 refine callR_pure (optional_c 1 _ _ _ _ rfl fun _ => h1) ?_
 refine goE mixed ?_
 refine callR_pure (mprin_c sv o5) ?_
 refine goE mixed ?_
 refine callR_pure (tagged_c _ _) ?_
 refine goE mixed ?_
 refine callR_pure (instant_c 3 fr) ?_
 refine goE mixed ?_
 refine callR_pure (time_c ti) ?_
 refine goE mixed ?_
 refine callR_pure (tagged_c _ _) ?_
 refine goE mixed ?_
 refine callR_pure (instant_c 5 re) ?_
 refine goE mixed ?_
 refine callR_pure (integer_c no) ?_
 refine goE mixed ?_
 refine callR_pure (tagged_c _ _) ?_
 refine goE mixed ?_
 refine callR_pure (listI_c pf _ intS hl fun x _ => integer_c x) ?_
 refine goE mixed ?_
 refine callR_pure (tagged_c _ _) ?_
 refine goE mixed ?_
 refine callR_pure (hosts_c 8 ad wa o11 ha) ?_
 refine goE mixed ?_
 refine callR_pure (optional_c 9 _ _ _ _ rfl h2) ?_
 refine goE mixed ?_
 refine callR_hand 1 (by decide) ?_
 with_reducible refine sxE ?_
 refine callR_pure (sequence_c _ (by simp)) ?_
 refine goE mixed ?_
 rfl
def reqS (r : Req) (wa wt : List UInt8) : List UInt8 := wrapS 96 r.1 (elemS 48 [wrapS 160 1 (intS 5), wrapS 160 2 (intS r.1), preS 3 r.2.1, wrapS 160 4 (bodyS r wa wt)])
structure ReqC (r : Req) (va vt : Bool) (wa wt : List UInt8) : Prop where
 ok : ReqT.ok r
 opt : 0 ≤ r.2.2.1 ∧ r.2.2.1 ≤ 4294967295
 va : PC Tryz.prog 49 [.isl PreT r.2.2.2.2.2.2.2.2.2.2.1] (rB va)
 vt : PC Tryz.prog 50 [.isl TickT r.2.2.2.2.2.2.2.2.2.2.2] (rB vt)
 wa : r.2.2.2.2.2.2.2.2.2.2.1 ≠ [] → PC Tryz.prog 76 [.isl PreT r.2.2.2.2.2.2.2.2.2.2.1] (.isl .u8 wa)
 wt : r.2.2.2.2.2.2.2.2.2.2.2 ≠ [] → PC Tryz.prog 39 [.iptr ReqT r 0] (.isl .u8 wt)
theorem sReq_len {r : Req} {va vt : Bool} (h : sReq r va vt = true) : r.2.1.length ≤ 1048576 ∧ r.2.2.2.2.2.2.2.2.2.1.length ≤ 1048576 := by
 simp only [sReq, vPre, vProf, Bool.and_eq_true, decide_eq_true_eq] at h
 have h1 := h.2.1.1
 have h2 := h.2.2.2.2.2.2.2.2.2.1.2.1
 omega
theorem wreq_c {r : Req} {va vt : Bool} {wa wt : List UInt8} (h : ReqC r va vt wa wt) (hs : sReq r va vt = true) : PC Tryz.prog 21 [.agg (ReqT.cells r)] (.isl .u8 (reqS r wa wt)) := by
 obtain ⟨hl, hp⟩ := sReq_len hs
 have hb := wbody_c r wa wt h.ok h.opt hp h.wa h.wt
 have ho := h.ok
 have hr : reqS r wa wt = wrapS 96 r.1 (elemS 48 [wrapS 160 1 (intS 5), wrapS 160 2 (intS r.1), preS 3 r.2.1, wrapS 160 4 (bodyS r wa wt)]) := rfl
 rw [hr]
 clear hr hs h hp
 generalize bodyS r wa wt = bd at *
 obtain ⟨k, pre, opt, cl, sv, fr, ti, re, no, pf, ad, tk⟩ := r
 obtain ⟨_, o2, _⟩ := ho
 dsimp only at hl
 refine pc_seal rfl rfl ?_
 refine runE mixed fi21 ?_
 refine callR_pure (integer_c 5) ?_
 refine goE mixed ?_
 refine callR_pure (tagged_c _ _) ?_
 refine goE mixed ?_
 refine callR_pure (integer_c k) ?_
 refine goE mixed ?_
 refine callR_pure (tagged_c _ _) ?_
 refine goE mixed ?_
 refine callR_pure (preAuth_c 3 pre o2 hl) ?_
 refine goE mixed ?_
 refine callR_pure (hb) ?_
 refine goE mixed ?_
 refine callR_pure (tagged_c _ _) ?_
 refine goE mixed ?_
 refine callR_hand 1 (by decide) ?_
 with_reducible refine sxE ?_
 refine callR_pure (mapp_c k _ (by simp)) ?_
 refine goE mixed ?_; trivial
def vReq (r : Req) (va vt : Bool) (wa wt : List UInt8) : Bool := sReq r va vt && decide ((reqS r wa wt).length ≤ 65536)
theorem validReq_c {r : Req} {va vt : Bool} {wa wt : List UInt8} (hc : ReqC r va vt wa wt) : PC Tryz.prog 15 [.agg (ReqT.cells r)] (rB (vReq r va vt wa wt)) := by
 have h1 := sreq_c r va vt hc.ok hc.va hc.vt
 have h2 := fun h => wreq_c hc h
 have hv : vReq r va vt wa wt = (sReq r va vt && decide ((reqS r wa wt).length ≤ 65536)) := rfl
 rw [hv]
 clear hv hc
 generalize sReq r va vt = s at *
 generalize reqS r wa wt = w at *
 obtain ⟨k, pre, opt, cl, sv, fr, ti, re, no, pf, ad, tk⟩ := r
 refine pc_of rfl rfl ?_
 refine runE mixed fi15 ?_
 refine callI_pure h1 ?_
 refine goE mixed ?_
 refine ⟨fun h => callI_pure (h2 h) ?_, fun h => by rw [h]; rfl⟩
 refine goE mixed ?_
 rw [h, Bool.true_and]
 exact decide_eq_decide.2 (by omega)
theorem body_c {r : Req} {va vt : Bool} {wa wt : List UInt8} (hc : ReqC r va vt wa wt) : PC Tryz.prog 11 [.agg (ReqT.cells r)] (.tup [.isl .u8 (if vReq r va vt wa wt then bodyS r wa wt else []), rI (if vReq r va vt wa wt then 0 else 2)]) := by
 have h1 := validReq_c hc
 have h2 : vReq r va vt wa wt = true → PC Tryz.prog 18 [.agg (ReqT.cells r)] (.isl .u8 (bodyS r wa wt)) := fun h => by
  simp only [vReq, Bool.and_eq_true] at h
  exact wbody_c r wa wt hc.ok hc.opt (sReq_len h.1).2 hc.wa hc.wt
 clear hc
 generalize vReq r va vt wa wt = v at *
 generalize bodyS r wa wt = w at *
 obtain ⟨k, pre, opt, cl, sv, fr, ti, re, no, pf, ad, tk⟩ := r
 refine pc_seal rfl rfl ?_
 refine runE mixed fi11 ?_
 refine callI_pure h1 ?_
 refine goE mixed ?_
 refine ⟨fun h => ?_, fun h => callI_pure (h2 h) ?_⟩
 · rw [h]; exact ⟨rfl, rfl⟩
 · refine goE mixed ?_
   rw [h]; exact ⟨rfl, rfl⟩
def typN (b : List UInt8) : Int := ((b.getD 0 0).toNat : Int) - 96
def typB (b : List UInt8) : Bool := decide (b ≠ []) && (mIn 10 13 (typN b) || decide (typN b = 30))
theorem type_c (b : List UInt8) : PC Tryz.prog 6 [.isl .u8 b] (.tup [rI (if typB b then typN b else 0), rI (if typB b then 0 else 6)]) := by
 refine pc_of rfl rfl ?_
 refine runE mixed fi6 ?_
 refine ⟨fun h => ?_, fun h => ⟨by omega, ?_⟩⟩
 · obtain rfl : b = [] := List.length_eq_zero_iff.1 (by omega)
   rfl
 have hne : b ≠ [] := fun e => h (by rw [e]; rfl)
 have hlt := (b.getD 0 Ty.u8.dflt).toNat_lt
 have hn : typN b = ((b.getD 0 Ty.u8.dflt).toNat : Int) - 96 := rfl
 have hb : typB b = (mIn 10 13 (typN b) || decide (typN b = 30)) := by unfold typB; rw [decide_eq_true hne, Bool.true_and]
 rw [wrapi (n := ((b.getD 0 Ty.u8.dflt).toNat : Int)) (by omega), wrapi (n := ((b.getD 0 Ty.u8.dflt).toNat : Int) - 96) (by omega), ← hn, hb]
 clear hn hb hlt hne h
 generalize typN b = n
 refine callI_pure (mbtw_c _ _ _) ?_
 refine goE mixed ?_
 refine ⟨fun h1 => ⟨fun h2 => ?_, fun h2 => ?_⟩, fun h1 => ?_⟩
 · rw [h1, decide_eq_true h2]; rfl
 · rw [h1, decide_eq_false h2]; rfl
 · rw [h1]; rfl
def kindV (b : List UInt8) (off : Int) : Int := (if typB b then typN b else 0) - off
def kindB (b : List UInt8) (off : Int) : Bool := typB b && (decide (b.length ≤ 65536) && vKind (kindV b off))
theorem kindOf_c (b : List UInt8) (off : Int) (ho : 0 ≤ off ∧ off ≤ 10) : PC Tryz.prog 24 [.isl .u8 b, rI off] (.tup [rI (kindV b off), rB (kindB b off)]) := by
 have ht := type_c b
 refine pc_of rfl rfl ?_
 refine runE mixed fi24 ?_
 refine callI_pure ht ?_
 clear ht
 have hk : kindV b off = (if typB b then typN b else 0) - off := rfl
 have hlt := (b.getD 0 0).toNat_lt
 have hn : typN b = ((b.getD 0 0).toNat : Int) - 96 := rfl
 have hw : IntKind.i64.wrap ((if typB b then typN b else 0) - off) = kindV b off := by rw [hk]; exact wrapi (by split <;> omega)
 have hd : kindB b off = (typB b && (decide (b.length ≤ 65536) && vKind (kindV b off))) := rfl
 rw [hd]
 clear hd hk hn
 refine run_sound mixed 600 _ ?_
 with_reducible refine sx1 hw ?_
 cases hb : typB b with
 | false =>
  exact ⟨fun h => absurd h (by decide), fun _ => rfl⟩
 | true =>
  refine ⟨fun _ => ⟨fun h => callI_pure (vkind_c _) ?_, fun h => ?_⟩, fun h => absurd rfl h⟩
  · refine goE mixed ?_
    rw [decide_eq_true (show b.length ≤ 65536 by omega)]; rfl
  · rw [decide_eq_false (show ¬ b.length ≤ 65536 by omega)]; rfl
end Go.Proofs.YtoeieekegmmdkaaGreatDoor

set_option linter.unusedSectionVars false
namespace Go.Sx
open Go
variable [Ghost] {P : Program} {AQ : Ex → List SV → List SObj → Prop} {k0 : Nat} {k : List IT} {t : List SV} {H : List SObj}

theorem sound_compactT {P : Program} {k : List It} {t' : List SV} (A A' G : List SObj) {ty : Ty} {xs : List ty.den} (hk : k0 ≤ A.length) (hA : A = A'.map (SObj.ren (shift A.length (A.length + G.length)))) (hb : belH (A.length + 1) A' = true) (hbt : SV.belL (A.length + 1) t' = true)
 (hl : leT (shift A.length (A.length + G.length)) t t') (hs : Sound P AQ ⟨k0, k, t', A' ++ [.row ty xs]⟩) : Sound P AQ ⟨k0, k, t, A ++ G ++ [.row ty xs]⟩ := by
 intro E r n C a h0 hd
 have hlen : A.length = A'.length := by have := congrArg List.length hA; rwa [List.length_map] at this
 have hsh : ∀ h, h < A.length → shift A.length (A.length + G.length) h = h := fun h hh => by unfold shift; rw [if_neg (by omega)]
 have hshn : shift A.length (A.length + G.length) A.length = A.length + G.length := by unfold shift; rw [if_pos rfl]
 have hd' : Den E (C.ren (shift A.length (A.length + G.length)) (A' ++ [SObj.row ty xs]).length) t' (A' ++ [.row ty xs]) a := by
  refine den_le h0.1 hd hl (by rw [List.length_append, ← hlen]; exact hbt) (fun h o ho _ => ?_) (belH_of fun h o ho => ?_) (fun h h' o o' ho ho' _ _ e => ?_) (fun h hh => hsh h (Nat.lt_of_lt_of_le hh hk)) (by rw [List.length_append, ← hlen]; exact Nat.le_trans hk (Nat.le_add_right _ _)) (fun m hm0 hm => ?_)
  · rcases get_append_some ho with ⟨hh, ho⟩ | ⟨hh, rfl⟩
    · rw [hsh h (by omega), List.append_assoc, List.getElem?_append_left (by omega)]
      have := congrArg (fun l => l[h]?) hA
      simp only [List.getElem?_map, ho] at this
      exact this
    · rw [hh, ← hlen, hshn, ← List.length_append, List.getElem?_append_right (Nat.le_refl _), Nat.sub_self]
      rfl
  · rcases get_append_some ho with ⟨hh, ho⟩ | ⟨hh, rfl⟩
    · rw [List.length_append, ← hlen]
      exact belH_get hb ho
    · rfl
  · have h1 := (List.getElem?_eq_some_iff.1 ho).1
    have h2 := (List.getElem?_eq_some_iff.1 ho').1
    rw [List.length_append, List.length_singleton] at h1 h2
    unfold shift at e
    split at e <;> split at e <;> omega
  · have hm := hm
    have hpos : 0 < A.length := Nat.lt_of_lt_of_le hm0 (Nat.le_trans h0.1 hk)
    rw [List.append_assoc, List.getElem?_append_left hpos] at hm
    rw [List.getElem?_append_left (by omega)]
    have h1 := congrArg (fun l => l[0]?) hA
    simp only [List.getElem?_map, hm] at h1
    cases h2 : A'[0]? with
    | none => rw [h2] at h1; simp at h1
    | some o => rw [h2] at h1; cases o <;> simp [SObj.ren] at h1; rw [h1]
 exact hs E r n (C.ren (shift A.length (A.length + G.length)) (A' ++ [SObj.row ty xs]).length) a h0 hd'
theorem si_compactT (t' : List SV) (A A' G : List SObj) {ty : Ty} {xs : List ty.den} {td : List IT} (hp : plainT td = true) (hH : H = A ++ G ++ [.row ty xs]) (hk : k0 ≤ A.length) (hA : A = A'.map (SObj.ren (shift A.length (A.length + G.length)))) (hb : belH (A.length + 1) A' = true) (hbt : SV.belL (A.length + 1) t' = true)
 (hl : leT (shift A.length (A.length + G.length)) t t') (hs : SoundI P AQ ⟨k0, td, t', A' ++ [.row ty xs]⟩) : SoundI P AQ ⟨k0, td, t, H⟩ := by
 subst hH
 exact soundI_plain (fun _ hr => sound_compactT A A' G hk hA hb hbt hl (soundI_get hs hr)) hp
theorem si_compactS (slot n : Nat) (A A' G : List SObj) {ty : Ty} {xs : List ty.den} {td : List IT} (hp : plainT td = true) (hH : H = A ++ G ++ [.row ty xs]) (hk : k0 ≤ A.length) (hA : A = A'.map (SObj.ren (shift A.length (A.length + G.length)))) (hb : belH (A.length + 1) A' = true) (hbt : SV.belL (A.length + 1) (t.set slot (.bld A.length ty n)) = true)
 (hl : leT (shift A.length (A.length + G.length)) t (t.set slot (.bld A.length ty n))) (hs : SoundI P AQ ⟨k0, td, t.set slot (.bld A.length ty n), A' ++ [.row ty xs]⟩) : SoundI P AQ ⟨k0, td, t, H⟩ :=
 si_compactT _ A A' G hp hH hk hA hb hbt hl hs

def RowT (ty : Ty) (xs : List ty.den) (v : Value) : Out → List SObj → Prop := fun o H' => (xs = [] ∧ o = .ret (.tup [.raw (.slice none 0 0), .raw v]) ∧ H' = []) ∨ (o = .ret (.tup [.bld 0 ty xs.length, .raw v]) ∧ H' = [.row ty xs])
theorem rowT_row {ty : Ty} {xs : List ty.den} {v : Value} {H' : List SObj} {h n : Nat} (hH : H'[h]? = some (.row ty xs)) (hn : n = xs.length) : Weak 0 (RowT ty xs v) (.ret (.tup [.bld h ty n, .raw v])) H' := by
 subst hn
 exact ⟨fun _ => h, .tup [.bld 0 ty xs.length, .raw v], .tup [.bld 0 ty xs.length, .raw v], [.row ty xs], ⟨⟨rfl, trivial⟩, ⟨hH, trivial⟩, rfl, rfl, rfl, rfl, Nat.zero_le _, fun _ h0 => absurd h0 (Nat.lt_irrefl 0)⟩, .inl (.inl rfl), .inr ⟨rfl, rfl⟩⟩
theorem callI_rowT {f : FuncId} {args : List SV} {ty : Ty} {xs : List ty.den} {v : Value} {d : Option Tmp} {td : List IT} (hp : VC P f args [] (RowT ty xs v)) (hb : SV.belL 0 args = true) (hargs : args = SV.renL (sig [] H.length) args)
 (h0 : xs = [] → SoundI P AQ ⟨k0, td, putT t d (.tup [.raw (.slice none 0 0), .raw v]), H⟩) (h : SoundI P AQ ⟨k0, td, putT t d (.tup [.bld H.length ty xs.length, .raw v]), H ++ [.row ty xs]⟩) : CallI P AQ f args d ⟨k0, td, t, H⟩ := by
 refine ⟨hp.1, VCall.g ?_⟩
 rw [hargs]
 refine VCall.fr (H0 := []) [] (by simp) trivial hb rfl hp.2 ?_
 rintro o H' _ (⟨e, rfl, rfl⟩ | ⟨rfl, rfl⟩)
 · simp only [mgA, List.map_nil, List.append_nil]; exact h0 e
 · exact h
theorem callR_rowK {G : List Nat} {f : FuncId} {args : List SV} {ty : Ty} {xs : List ty.den} {d : Option Tmp} {td : List IT} (hp : VC P f args [] (RowK ty xs)) (hb : SV.belL 0 args = true) (hargs : args = SV.renL (sig [] H.length) args) (hG : SameG G H (H ++ [.row ty xs]))
 (h0 : xs = [] → SoundI P AQ ⟨k0, td, putT t d (.raw (.slice none 0 0)), H⟩) (h : SoundI P AQ ⟨k0, td, putT t d (.bld H.length ty xs.length), H ++ [.row ty xs]⟩) : CallR P AQ G f args d ⟨k0, td, t, H⟩ := by
 refine ⟨hp.1, VCall.g ?_⟩
 rw [hargs]
 refine VCall.fr (H0 := []) [] (by simp) trivial hb rfl hp.2 ?_
 rintro o H' _ (⟨e, rfl, rfl⟩ | ⟨rfl, rfl⟩)
 · simp only [mgA, List.map_nil, List.append_nil]; exact ⟨fun _ => SameG.refl _ _, h0 e⟩
 · exact ⟨fun _ => hG, h⟩
theorem VC.arg {f : FuncId} {args args' : List SV} {K : Out → List SObj → Prop} (h : VC P f args H K) (hl : SV.leVL args' args) : VC P f args' H K :=
 ⟨h.1, fun C vs hw hv => h.2 C vs hw (leVL_den hl hv)⟩
theorem pe_row {ty : Ty} {xs : List ty.den} {H' : List SObj} {h n m : Nat} (hH : H'[h]? = some (.row ty xs)) (hn : n = m) : Weak 0 (fun o' H'' => o' = .ret (.bld 0 ty m) ∧ H'' = [.row ty xs]) (.ret (.bld h ty n)) H' := by
 subst hn
 exact ⟨fun _ => h, .bld 0 ty n, .bld 0 ty n, [.row ty xs], ⟨⟨rfl, trivial⟩, ⟨hH, trivial⟩, rfl, rfl, rfl, rfl, Nat.zero_le _, fun _ h0 => absurd h0 (Nat.lt_irrefl 0)⟩, .inl (.inl rfl), ⟨rfl, rfl⟩⟩
theorem pe_rowT {ty : Ty} {xs : List ty.den} {v : Value} {H' : List SObj} {h n m : Nat} (hH : H'[h]? = some (.row ty xs)) (hn : n = m) : Weak 0 (fun o' H'' => o' = .ret (.tup [.bld 0 ty m, .raw v]) ∧ H'' = [.row ty xs]) (.ret (.tup [.bld h ty n, .raw v])) H' := by
 subst hn
 exact ⟨fun _ => h, .tup [.bld 0 ty n, .raw v], .tup [.bld 0 ty n, .raw v], [.row ty xs], ⟨⟨rfl, trivial⟩, ⟨hH, trivial⟩, rfl, rfl, rfl, rfl, Nat.zero_le _, fun _ h0 => absurd h0 (Nat.lt_irrefl 0)⟩, .inl (.inl rfl), ⟨rfl, rfl⟩⟩
end Go.Sx
/- Contracts: the encoding of a request, as a row of its own. -/
namespace Go.Proofs.YtoeieekegmmdkaaGreatDoor
open Go Go.Sx Go.Proofs
set_option maxRecDepth 100000
set_option maxHeartbeats 4000000
set_option linter.unusedSimpArgs false

theorem element_o (tag : UInt8) (parts : List (List UInt8)) (hp : parts.length ≤ 1125899906842624) : VC Tryz.prog 70 [.raw (.int .u8 tag.toNat), .isl (.slice .u8) parts] [] (RowK .u8 (elemS tag parts)) := by
 refine vc_weak ?_
 refine runE mixed fi70 ?_
 refine si_cntD (fun i => [(5, rI ((flatN parts i).length)), (13, .raw (.int .i64 ((i : Nat) : Int)))]) (parts.length) (fun j => (fitAt parts) j = true) (by first | decide | simp) (fun i => rfl) ?_ fun i hi hall => ?_
 · (with_reducible refine sxE ?_ <;> try exact True.intro)
   all_goals (try rfl)
 have hwr : IntKind.i64.wrap ((i : Int) + 1) = ((i + 1 : Nat) : Int) := wrap_succ (by omega)
 refine goE mixed ?_
 have bad : i < (parts.length) → (fitAt parts) i = false → allN (parts.length) (fitAt parts) = false := fun hlt hv => allN_false hlt hv
 have fin : ¬ i < (parts.length) → allN (parts.length) (fitAt parts) = true := fun h => allN_true fun j hj => hall j (by omega)
 try dsimp only at bad fin hall
 have hn : (flatN parts i).length ≤ 16777215 := by
  cases i with
  | zero => simp [flatN]
  | succ j => have := hall j (by omega); simpa [fitAt] using this
 rw [wrapi (n := 16777215 - ((flatN parts i).length : Int)) (by omega), wrapi (n := ((flatN parts i).length : Int) + 5) (by omega)]
 refine ⟨fun hlt => ⟨⟨by omega, hlt⟩, fun hbig => ?_, fun hfit => ?_⟩, fun hge => ?_⟩
 · have h1 := flatN_le parts (i + 1)
   rw [flatN_succ hlt, List.length_append] at h1
   refine rowK_nil ?_
   unfold elemS
   rw [if_neg (by omega)]
 · have h2 : ((flatN parts i).length : Int) + ((parts.getD i (Ty.slice .u8).dflt).length : Int) = ((flatN parts (i + 1)).length : Int) := by rw [flatN_succ hlt, List.length_append]; rfl
   have h3 : (flatN parts (i + 1)).length ≤ 16777215 := by omega
   refine ⟨hlt, next_all hall (by simpa [fitAt] using h3), ⟨_, rfl⟩, ?_⟩
   rw [h2, wrapi (n := ((flatN parts (i + 1)).length : Int)) (by omega)]
   with_reducible refine sx1 hwr ?_; trivial
 · obtain rfl : i = parts.length := by omega
   rw [flatN_all] at *
   have he : elemS tag parts = tag :: (lenS parts.flatten.length ++ flatN parts parts.length) := by unfold elemS tlv; rw [if_pos hn, flatN_all]
   refine ⟨⟨by omega, by omega, by omega⟩, tag_ob tag, fun h1 => ⟨byte_ob _, ?_⟩, fun h1 => ⟨fun h2 => ⟨?_, ?_⟩, fun h2 => ⟨fun h3 => ⟨?_, ?_⟩, fun h3 => ⟨?_, ?_⟩⟩⟩⟩
   any_goals (repeat' (first | exact byte_ob _ | exact rfl | with_reducible refine And.intro ?_ ?_))
   have hL : lenS parts.flatten.length = [byteOf parts.flatten.length] := by unfold lenS; rw [if_pos (by omega)]
   rotate_left
   have hL : lenS parts.flatten.length = [129, byteOf parts.flatten.length] := by unfold lenS; rw [if_neg (by omega), if_pos (by omega)]
   rotate_left
   have hL : lenS parts.flatten.length = [130, byteOf ((parts.flatten.length : Int).fdiv 256), byteOf parts.flatten.length] := by unfold lenS; rw [if_neg (by omega), if_neg (by omega), if_pos (by omega)]
   rotate_left
   have hL : lenS parts.flatten.length = [131, byteOf ((parts.flatten.length : Int).fdiv 65536), byteOf ((parts.flatten.length : Int).fdiv 256), byteOf parts.flatten.length] := by unfold lenS; rw [if_neg (by omega), if_neg (by omega), if_neg (by omega)]
   rotate_left
   all_goals
    refine si_accB (H := [_, _, _, _]) 8 .u8 (fun i => tag :: (lenS parts.flatten.length ++ flatN parts i)) (fun i => [(44, .any), (52, .any), (60, .any), (71, .any), (74, rI i)]) parts.length (fun _ => True) (by rw [hL]; simp [flatN, byteOf]) (by simp) rfl (fun i => rfl) ?_ fun i hi _ => ?_
    · with_reducible refine sx1 hL ?_
      simp [flatN]
    have hwr : IntKind.i64.wrap ((i : Int) + 1) = ((i + 1 : Nat) : Int) := wrap_succ (by omega)
    have hfl := flatN_le parts i
    have hll : (lenS parts.flatten.length).length ≤ 4 := by rw [hL]; simp
    refine goE mixed ?_
    have e1 : (lenS parts.flatten.length ++ flatN parts i).length = (lenS parts.flatten.length).length + (flatN parts i).length := List.length_append
    refine ⟨fun hlt => ?_, fun hge => ?_⟩
    · have h4 := flatN_le parts (i + 1)
      have h5 := flatN_succ hlt
      rw [h5, List.length_append] at h4
      refine ⟨⟨by omega, hlt⟩, ⟨by omega, by omega⟩, acc_next [.dead] [] hlt trivial (by rw [h5, ← List.append_assoc]; rfl) ?_⟩
      with_reducible refine sx3 hwr h5 ?_
      exact congrArg (SV.bld 5 .u8) (by omega)
    · obtain rfl : i = parts.length := by omega
      rw [he]
      exact rowK_row (h := 4) rfl rfl
theorem element_ko (tag : UInt8) (n : Int) (hn : n = tag.toNat) (parts : List (List UInt8)) (hp : parts.length ≤ 1125899906842624) : VC Tryz.prog 70 [.raw (.int .u8 n), .isl (.slice .u8) parts] [] (RowK .u8 (elemS tag parts)) := by
 subst hn; exact element_o tag parts hp
theorem wrapped_o (tag n : Int) (b : List UInt8) (ht : 0 ≤ tag ∧ tag ≤ 1000) : VC Tryz.prog 71 [rI tag, rI n, .isl .u8 b] [] (RowK .u8 (wrapS tag n b)) := by
 refine vc_weak ?_
 refine runE mixed fi71 ?_
 refine ⟨fun h1 => ⟨fun h2 => ⟨fun h3 => ?_, fun h3 => ?_⟩, fun h2 => ?_⟩, fun h1 => ?_⟩
 · refine rowK_nil ?_
   unfold wrapS; rw [if_neg (fun h => h.2.2 (List.length_eq_zero_iff.1 (by omega)))]
 · refine callI_hand 0 ?_
   with_reducible refine sxE ?_
   have hw : wrapS tag n b = elemS (byteOf (tag + n)) [b] := by
    unfold wrapS
    rw [if_pos ⟨by omega, by omega, fun e => h3 (by rw [e]; rfl)⟩]
   rw [hw]
   refine callI_rowK (element_ko (byteOf (tag + n)) _ ?_ _ (by simp)) rfl rfl (fun h0 => ?_) ?_
   · rw [wrapi (by omega)]; exact (byte_ob _).symm
   · refine goE mixed ?_
     exact rowK_nil h0
   · refine goE mixed ?_
     exact rowK_row (h := 1) rfl rfl
 · refine rowK_nil ?_
   unfold wrapS; rw [if_neg (by omega)]
 · refine rowK_nil ?_
   unfold wrapS; rw [if_neg (by omega)]
theorem dapp_o (n : Int) (b : List UInt8) : VC Tryz.prog 85 [rI n, .isl .u8 b] [] (RowK .u8 (wrapS 96 n b)) := by
 refine vc_weak ?_
 refine runE mixed fi85 ?_
 refine callI_rowK (wrapped_o 96 n b (by omega)) rfl rfl (fun h0 => ?_) ?_
 · refine goE mixed ?_
   exact rowK_nil h0
 · refine goE mixed ?_
   exact rowK_row (h := 0) rfl rfl
theorem mapp_o (n : Int) (l : List (List UInt8)) (hl : l.length ≤ 1125899906842624) : VC Tryz.prog 51 [rI n, .isl (.slice .u8) l] [] (RowK .u8 (wrapS 96 n (elemS 48 l))) := by
 refine vc_weak ?_
 refine runE mixed fi51 ?_
 refine callI_pure (sequence_c l hl) ?_
 refine goE mixed ?_
 refine callI_rowK (dapp_o n _) rfl rfl (fun h0 => ?_) ?_
 · refine goE mixed ?_
   exact rowK_nil h0
 · refine goE mixed ?_
   exact rowK_row (h := 0) rfl rfl
theorem wreq_o {r : Req} {va vt : Bool} {wa wt : List UInt8} (h : ReqC r va vt wa wt) (hs : sReq r va vt = true) : VC Tryz.prog 21 [.agg (ReqT.cells r)] [] (RowK .u8 (reqS r wa wt)) := by
 obtain ⟨hl, hp⟩ := sReq_len hs
 have hb := wbody_c r wa wt h.ok h.opt hp h.wa h.wt
 have ho := h.ok
 have hr : reqS r wa wt = wrapS 96 r.1 (elemS 48 [wrapS 160 1 (intS 5), wrapS 160 2 (intS r.1), preS 3 r.2.1, wrapS 160 4 (bodyS r wa wt)]) := rfl
 rw [hr]
 clear hr hs h hp
 generalize bodyS r wa wt = bd at *
 obtain ⟨k, pre, opt, cl, sv, fr, ti, re, no, pf, ad, tk⟩ := r
 obtain ⟨_, o2, _⟩ := ho
 dsimp only at hl
 refine vc_weak ?_
 refine runE mixed fi21 ?_
 refine callR_pure (integer_c 5) ?_
 refine goE mixed ?_
 refine callR_pure (tagged_c _ _) ?_
 refine goE mixed ?_
 refine callR_pure (integer_c k) ?_
 refine goE mixed ?_
 refine callR_pure (tagged_c _ _) ?_
 refine goE mixed ?_
 refine callR_pure (preAuth_c 3 pre o2 hl) ?_
 refine goE mixed ?_
 refine callR_pure (hb) ?_
 refine goE mixed ?_
 refine callR_pure (tagged_c _ _) ?_
 refine goE mixed ?_
 refine callR_hand 1 (by decide) ?_
 with_reducible refine sxE ?_
 refine callR_rowK (mapp_o k _ (by simp)) rfl rfl ?_ (fun h0 => ?_) ?_
 · simp (maxSteps := 3000000) only [sameG_cons, sameG_nil, go_sem, ↓zA, ↓reduceIte, ↓reduceDIte, reduceCtorEq, Nat.reduceAdd, Nat.reduceSub, Nat.reduceLeDiff, Nat.reduceLT, Nat.reduceEqDiff, Nat.reduceBEq, Nat.reduceMul, Int.reduceToNat, Int.reduceEq, Int.reduceLT, Int.reduceLE] <;> try simp only [zB]
 · refine goE mixed ?_
   exact rowK_nil h0
 · refine goE mixed ?_
   exact rowK_row (h := 2) rfl rfl
theorem encReq_o {r : Req} {va vt : Bool} {wa wt : List UInt8} (hc : ReqC r va vt wa wt) (hv : vReq r va vt wa wt = true) (hne : reqS r wa wt ≠ []) : VC Tryz.prog 12 [.agg (ReqT.cells r)] [] (RowT .u8 (reqS r wa wt) (.int .i64 0)) := by
 have h1 := sreq_c r va vt hc.ok hc.va hc.vt
 have hs : sReq r va vt = true := by simp only [vReq, Bool.and_eq_true] at hv; exact hv.1
 have hle : (reqS r wa wt).length ≤ 65536 := by simp only [vReq, Bool.and_eq_true, decide_eq_true_eq] at hv; exact hv.2
 have h2 := wreq_o hc hs
 rw [hs] at h1
 clear hc hv hs
 generalize reqS r wa wt = w at *
 obtain ⟨k, pre, opt, cl, sv, fr, ti, re, no, pf, ad, tk⟩ := r
 refine vc_weak ?_
 refine runE mixed fi12 ?_
 refine callI_pure h1 ?_
 refine goE mixed ?_
 refine callI_rowK h2 rfl rfl (fun h0 => ?_) ?_
 · exact absurd h0 hne
 · refine goE mixed ?_
   refine callI_inl fi20 ?_
   refine run_sound mixed 600 _ ?_
   simp (maxSteps := 3000000) only [opK, go_sem, ↓zA, ↓reduceIte, ↓reduceDIte, reduceCtorEq, Nat.reduceAdd, Nat.reduceSub, Nat.reduceLeDiff, Nat.reduceLT, Nat.reduceEqDiff, Nat.reduceBEq, Nat.reduceMul, Int.reduceToNat, Int.reduceEq, Int.reduceLT, Int.reduceLE] <;> try simp only [zB]
   refine ⟨fun h => absurd h (by omega), fun _ => ?_⟩
   refine goE mixed ?_
   exact rowT_row (h := 1) rfl rfl
end Go.Proofs.YtoeieekegmmdkaaGreatDoor

/- Contracts: the measure of an element. -/
namespace Go.Proofs.YtoeieekegmmdkaaGreatDoor
open Go Go.Sx Go.Proofs
set_option maxRecDepth 100000
set_option maxHeartbeats 4000000
set_option linter.unusedSimpArgs false

def beN (l : List UInt8) : Nat := l.foldl (fun v c => v * 256 + c.toNat) 0
theorem beN_succ (l : List UInt8) (i : Nat) (h : i < l.length) : beN (l.take (i + 1)) = beN (l.take i) * 256 + (l.getD i 0).toNat := by
 unfold beN
 rw [List.take_add_one, List.foldl_append, List.getElem?_eq_getElem h, List.getD_eq_getElem?_getD, List.getElem?_eq_getElem h]
 rfl
theorem beN_lt : ∀ (l : List UInt8), beN l < 256 ^ l.length := by
 intro l
 have : ∀ (l : List UInt8) (v : Nat), l.foldl (fun v c => v * 256 + c.toNat) v < (v + 1) * 256 ^ l.length := by
  intro l
  induction l with
  | nil => intro v; simp
  | cons c l ih =>
   intro v
   have h1 := ih (v * 256 + c.toNat)
   have h2 : c.toNat < 256 := c.toNat_lt
   simp only [List.foldl_cons, List.length_cons, Nat.pow_succ]
   refine Nat.lt_of_lt_of_le h1 ?_
   have : (v * 256 + c.toNat + 1) * 256 ^ l.length ≤ ((v + 1) * 256) * 256 ^ l.length := Nat.mul_le_mul_right _ (by omega)
   calc _ ≤ _ := this
    _ = _ := by rw [Nat.mul_assoc, Nat.mul_comm 256]
 have h := this l 0
 simpa [beN] using h
theorem or_byte (v c : Nat) (hv : v < 36028797018963968) (hc : c < 256) : IntKind.i64.wrap ((BitVec.ofInt 64 ((v * 256 : Nat) : Int) ||| BitVec.ofInt 64 ((c : Nat) : Int)).toNat : Int) = ((v * 256 + c : Nat) : Int) := by
 have h1 : (BitVec.ofInt 64 ((v * 256 : Nat) : Int)).toNat = v * 256 := by rw [BitVec.ofInt_natCast, BitVec.toNat_ofNat]; exact Nat.mod_eq_of_lt (by omega)
 have h2 : (BitVec.ofInt 64 ((c : Nat) : Int)).toNat = c := by rw [BitVec.ofInt_natCast, BitVec.toNat_ofNat]; exact Nat.mod_eq_of_lt (by omega)
 have h3 : v * 256 ||| c = v * 256 + c := by
  have := Nat.shiftLeft_add_eq_or_of_lt (b := c) (i := 8) hc v
  rw [Nat.shiftLeft_eq] at this
  exact this.symm
 rw [BitVec.toNat_or, h1, h2, h3]
 exact wrapi (by omega)
theorem unsigned_c (b : List UInt8) (hb : b.length ≤ 7) : PC Tryz.prog 170 [.isl .u8 b] (rI (beN b)) := by
 refine pc_of rfl rfl ?_
 refine runE mixed fi170 ?_
 refine si_cntD (fun i => [(2, rI (beN (b.take i))), (7, .raw (.int .i64 ((i : Nat) : Int)))]) (b.length) (fun j => (fun _ => true) j = true) (by first | decide | simp) (fun i => rfl) ?_ fun i hi hall => ?_
 · (with_reducible refine sxE ?_ <;> try exact True.intro)
   all_goals (try rfl)
 have hwr : IntKind.i64.wrap ((i : Int) + 1) = ((i + 1 : Nat) : Int) := wrap_succ (by omega)
 refine goE mixed ?_
 have bad : i < (b.length) → (fun _ => true) i = false → allN (b.length) (fun _ => true) = false := fun hlt hv => allN_false hlt hv
 have fin : ¬ i < (b.length) → allN (b.length) (fun _ => true) = true := fun h => allN_true fun j hj => hall j (by omega)
 try dsimp only at bad fin hall
 refine ⟨fun hlt => ⟨⟨by omega, hlt⟩, ?_⟩, fun hge => ?_⟩
 · have hv := beN_lt (b.take i)
   have hv2 : 256 ^ (b.take i).length ≤ 256 ^ 6 := Nat.pow_le_pow_right (by decide) (by simp; omega)
   have hc : (b.getD i Ty.u8.dflt).toNat < 256 := UInt8.toNat_lt _
   have e1 : IntKind.i64.wrap ((beN (b.take i) : Int) * 2 ^ min 8 64) = ((beN (b.take i) * 256 : Nat) : Int) := by
    rw [show ((beN (b.take i) : Int) * 2 ^ min 8 64) = ((beN (b.take i) * 256 : Nat) : Int) by simp]
    exact wrapi (by omega)
   have e2 : IntKind.i64.wrap ((b.getD i Ty.u8.dflt).toNat : Int) = (((b.getD i Ty.u8.dflt).toNat : Nat) : Int) := wrapi (by omega)
   have e3 := or_byte (beN (b.take i)) (b.getD i Ty.u8.dflt).toNat (by omega) hc
   have e4 := beN_succ b i hlt
   rw [e1, e2]
   refine ⟨hlt, trivial, ⟨[], rfl⟩, ?_⟩
   with_reducible refine sx1 hwr ?_
   rw [e4]
   exact congrArg (Value.int .i64) e3
 · obtain rfl : i = b.length := by omega
   rw [List.take_length]
def minLen : Nat → Nat
 | 1 => 128 | 2 => 256 | 3 => 65536 | _ => 0
def measE (b : List UInt8) (at_ n : Nat) : Nat × Nat × Nat := if b.length - at_ < n then (0, 0, 4) else (at_, at_ + n, 0)
def meas (b : List UInt8) : Nat × Nat × Nat :=
 if b.length < 2 then (0, 0, 4) else
 if (b.getD 1 0).toNat < 128 then measE b 2 (b.getD 1 0).toNat else
 if (b.getD 1 0).toNat - 128 < 1 ∨ 3 < (b.getD 1 0).toNat - 128 then (0, 0, 6) else
 if b.length < 2 + ((b.getD 1 0).toNat - 128) then (0, 0, 4) else
 if beN ((b.drop 2).take ((b.getD 1 0).toNat - 128)) < minLen ((b.getD 1 0).toNat - 128) then (0, 0, 6) else
 measE b (2 + ((b.getD 1 0).toNat - 128)) (beN ((b.drop 2).take ((b.getD 1 0).toNat - 128)))
def measV (m : Nat × Nat × Nat) : SV := .tup [rI m.1, rI m.2.1, rI m.2.2]
theorem measure_c (b : List UInt8) (hb : b.length ≤ 1099511627776) : PC Tryz.prog 194 [.isl .u8 b] (measV (meas b)) := by
 refine pc_of rfl rfl ?_
 have hx : (b.getD 1 Ty.u8.dflt).toNat < 256 := UInt8.toNat_lt _
 have e0 : IntKind.i64.wrap ((b.getD 1 Ty.u8.dflt).toNat : Int) = (((b.getD 1 Ty.u8.dflt).toNat : Nat) : Int) := wrapi (by omega)
 have e1 : IntKind.i64.wrap (((b.getD 1 Ty.u8.dflt).toNat : Int) - 128) = ((b.getD 1 Ty.u8.dflt).toNat : Int) - 128 := wrapi (by omega)
 have e2 : IntKind.i64.wrap (2 + (((b.getD 1 Ty.u8.dflt).toNat : Int) - 128)) = 2 + (((b.getD 1 Ty.u8.dflt).toNat : Int) - 128) := wrapi (by omega)
 have e3 : IntKind.i64.wrap ((b.length : Int) - 2) = (b.length : Int) - 2 := wrapi (by omega)
 have e4 : IntKind.i64.wrap (2 + ((b.getD 1 Ty.u8.dflt).toNat : Int)) = 2 + ((b.getD 1 Ty.u8.dflt).toNat : Int) := wrapi (by omega)
 have hm : ∀ r, meas b = r → measV (meas b) = measV r := fun r h => by rw [h]
 unfold measV
 refine vc_fi fi194 (run_sound mixed 600 _ ?_)
 simp (maxSteps := 3000000) only [ir194, e0, e1, e2, e3, e4, go_sem, ↓zA, ↓reduceIte, ↓reduceDIte, reduceCtorEq, Nat.reduceAdd, Nat.reduceSub, Nat.reduceLeDiff, Nat.reduceLT, Nat.reduceEqDiff, Nat.reduceBEq, Nat.reduceMul, Int.reduceToNat, Int.reduceEq, Int.reduceLT, Int.reduceLE] <;> try simp only [zB]
 have hd : b.getD 1 0 = b.getD 1 Ty.u8.dflt := rfl
 generalize hxx : b.getD 1 Ty.u8.dflt = x at *
 refine ⟨fun h => ?_, fun h => ⟨by omega, fun h2 => ⟨fun h3 => ⟨fun h4 => ?_, fun h4 => ⟨fun h5 => ?_, fun h5 => ⟨⟨by omega, by omega, by omega⟩, ?_⟩⟩⟩, fun h3 => ?_⟩, fun h2 => ⟨fun h3 => ?_, fun h3 => ?_⟩⟩⟩
 · have : meas b = (0, 0, 4) := by unfold meas; rw [if_pos (by omega)]
   rw [this]; rfl
 · have : meas b = (0, 0, 6) := by unfold meas; rw [hd, if_neg (by omega), if_neg (by omega), if_pos (by omega)]
   rw [this]; rfl
 · have : meas b = (0, 0, 4) := by unfold meas; rw [hd, if_neg (by omega), if_neg (by omega), if_neg (by omega), if_pos (by omega)]
   rw [this]; rfl
 · obtain ⟨m, hxm⟩ : ∃ m : Nat, (x.toNat : Int) - 128 = (m : Int) := ⟨x.toNat - 128, by omega⟩
   have hm3 : 1 ≤ m ∧ m ≤ 3 := by omega
   have ht2 : ((2 : Int) + (m : Int)).toNat = 2 + m := by omega
   have hll : (List.drop 2 (List.take (2 + m) b)).length = m := by simp; omega
   rw [hxm, ht2, hll]
   generalize hL : List.drop 2 (List.take (2 + m) b) = L at *
   have hmq : ∀ v, beN L = v → meas b = (if v < minLen m then (0, 0, 6) else measE b (2 + m) v) := fun v hv => by
    have hLx : (b.drop 2).take m = L := by rw [← hL, List.drop_take]; congr 1; omega
    unfold meas
    rw [hd, show x.toNat - 128 = m by omega, if_neg (by omega), if_neg (by omega), if_neg (by omega), if_neg (by omega), hLx, hv]
   rcases (by omega : m = 1 ∨ m = 2 ∨ m = 3) with rfl | rfl | rfl
   · refine si_cntD (fun i => [(5, rI (beN (L.take i))), (39, .raw (.int .i64 ((i : Nat) : Int)))]) (1) (fun j => (fun _ => true) j = true) (by first | decide | simp) (fun i => rfl) ?_ fun i hi hall => ?_
     · (with_reducible refine sxE ?_ <;> try exact True.intro)
       all_goals (try rfl)
     have hwr : IntKind.i64.wrap ((i : Int) + 1) = ((i + 1 : Nat) : Int) := wrap_succ (by omega)
     refine goE mixed ?_
     have bad : i < (1) → (fun _ => true) i = false → allN (1) (fun _ => true) = false := fun hlt hv => allN_false hlt hv
     have fin : ¬ i < (1) → allN (1) (fun _ => true) = true := fun h => allN_true fun j hj => hall j (by omega)
     try dsimp only at bad fin hall
     refine ⟨fun hlt => ⟨⟨by omega, by omega⟩, ?_⟩, fun hge => ?_⟩
     · have hv := beN_lt (L.take i)
       have hv2 : 256 ^ (L.take i).length ≤ 256 ^ 6 := Nat.pow_le_pow_right (by decide) (by simp; omega)
       have hc : (L.getD i Ty.u8.dflt).toNat < 256 := UInt8.toNat_lt _
       have e1 : IntKind.i64.wrap ((beN (L.take i) : Int) * 2 ^ min 8 64) = ((beN (L.take i) * 256 : Nat) : Int) := by
        rw [show ((beN (L.take i) : Int) * 2 ^ min 8 64) = ((beN (L.take i) * 256 : Nat) : Int) by simp]
        exact wrapi (by omega)
       have e2 : IntKind.i64.wrap ((L.getD i Ty.u8.dflt).toNat : Int) = (((L.getD i Ty.u8.dflt).toNat : Nat) : Int) := wrapi (by omega)
       have e3 := or_byte (beN (L.take i)) (L.getD i Ty.u8.dflt).toNat (by omega) hc
       have e4 := beN_succ L i (by omega)
       rw [e1, e2]
       refine ⟨hlt, trivial, ⟨[], rfl⟩, ?_⟩
       with_reducible refine sx1 hwr ?_
       rw [e4]
       exact congrArg (Value.int .i64) e3
     · rw [List.take_of_length_le (by omega : L.length ≤ i)]
       have hv := beN_lt L
       rw [hll] at hv
       have hv3 : beN L < 16777216 := by omega
       have w1 : IntKind.i64.wrap ((b.length : Int) - (2 + ((1 : Nat) : Int))) = (b.length : Int) - (2 + ((1 : Nat) : Int)) := wrapi (by omega)
       have w2 : IntKind.i64.wrap (2 + ((1 : Nat) : Int) + (beN L : Int)) = ((2 + 1 + beN L : Nat) : Int) := by rw [wrapi (by omega)]; omega
       rw [w1, w2]
       refine ⟨by decide, fun q => ?_, fun q => ⟨fun q2 => ?_, fun q2 => ?_⟩⟩
       · rw [hmq _ rfl, if_pos (by simp only [minLen]; omega)]; rfl
       · rw [hmq _ rfl, if_neg (by simp only [minLen]; omega)]; unfold measE; rw [if_pos (by omega)]; rfl
       · rw [hmq _ rfl, if_neg (by simp only [minLen]; omega)]; unfold measE; rw [if_neg (by omega)]; rfl
   · refine si_cntD (fun i => [(5, rI (beN (L.take i))), (39, .raw (.int .i64 ((i : Nat) : Int)))]) (2) (fun j => (fun _ => true) j = true) (by first | decide | simp) (fun i => rfl) ?_ fun i hi hall => ?_
     · (with_reducible refine sxE ?_ <;> try exact True.intro)
       all_goals (try rfl)
     have hwr : IntKind.i64.wrap ((i : Int) + 1) = ((i + 1 : Nat) : Int) := wrap_succ (by omega)
     refine goE mixed ?_
     have bad : i < (2) → (fun _ => true) i = false → allN (2) (fun _ => true) = false := fun hlt hv => allN_false hlt hv
     have fin : ¬ i < (2) → allN (2) (fun _ => true) = true := fun h => allN_true fun j hj => hall j (by omega)
     try dsimp only at bad fin hall
     refine ⟨fun hlt => ⟨⟨by omega, by omega⟩, ?_⟩, fun hge => ?_⟩
     · have hv := beN_lt (L.take i)
       have hv2 : 256 ^ (L.take i).length ≤ 256 ^ 6 := Nat.pow_le_pow_right (by decide) (by simp; omega)
       have hc : (L.getD i Ty.u8.dflt).toNat < 256 := UInt8.toNat_lt _
       have e1 : IntKind.i64.wrap ((beN (L.take i) : Int) * 2 ^ min 8 64) = ((beN (L.take i) * 256 : Nat) : Int) := by
        rw [show ((beN (L.take i) : Int) * 2 ^ min 8 64) = ((beN (L.take i) * 256 : Nat) : Int) by simp]
        exact wrapi (by omega)
       have e2 : IntKind.i64.wrap ((L.getD i Ty.u8.dflt).toNat : Int) = (((L.getD i Ty.u8.dflt).toNat : Nat) : Int) := wrapi (by omega)
       have e3 := or_byte (beN (L.take i)) (L.getD i Ty.u8.dflt).toNat (by omega) hc
       have e4 := beN_succ L i (by omega)
       rw [e1, e2]
       refine ⟨hlt, trivial, ⟨[], rfl⟩, ?_⟩
       with_reducible refine sx1 hwr ?_
       rw [e4]
       exact congrArg (Value.int .i64) e3
     · rw [List.take_of_length_le (by omega : L.length ≤ i)]
       have hv := beN_lt L
       rw [hll] at hv
       have hv3 : beN L < 16777216 := by omega
       have w1 : IntKind.i64.wrap ((b.length : Int) - (2 + ((2 : Nat) : Int))) = (b.length : Int) - (2 + ((2 : Nat) : Int)) := wrapi (by omega)
       have w2 : IntKind.i64.wrap (2 + ((2 : Nat) : Int) + (beN L : Int)) = ((2 + 2 + beN L : Nat) : Int) := by rw [wrapi (by omega)]; omega
       rw [w1, w2]
       refine ⟨by decide, fun q => ?_, fun q => ⟨fun q2 => ?_, fun q2 => ?_⟩⟩
       · rw [hmq _ rfl, if_pos (by simp only [minLen]; omega)]; rfl
       · rw [hmq _ rfl, if_neg (by simp only [minLen]; omega)]; unfold measE; rw [if_pos (by omega)]; rfl
       · rw [hmq _ rfl, if_neg (by simp only [minLen]; omega)]; unfold measE; rw [if_neg (by omega)]; rfl
   · refine si_cntD (fun i => [(5, rI (beN (L.take i))), (39, .raw (.int .i64 ((i : Nat) : Int)))]) (3) (fun j => (fun _ => true) j = true) (by first | decide | simp) (fun i => rfl) ?_ fun i hi hall => ?_
     · (with_reducible refine sxE ?_ <;> try exact True.intro)
       all_goals (try rfl)
     have hwr : IntKind.i64.wrap ((i : Int) + 1) = ((i + 1 : Nat) : Int) := wrap_succ (by omega)
     refine goE mixed ?_
     have bad : i < (3) → (fun _ => true) i = false → allN (3) (fun _ => true) = false := fun hlt hv => allN_false hlt hv
     have fin : ¬ i < (3) → allN (3) (fun _ => true) = true := fun h => allN_true fun j hj => hall j (by omega)
     try dsimp only at bad fin hall
     refine ⟨fun hlt => ⟨⟨by omega, by omega⟩, ?_⟩, fun hge => ?_⟩
     · have hv := beN_lt (L.take i)
       have hv2 : 256 ^ (L.take i).length ≤ 256 ^ 6 := Nat.pow_le_pow_right (by decide) (by simp; omega)
       have hc : (L.getD i Ty.u8.dflt).toNat < 256 := UInt8.toNat_lt _
       have e1 : IntKind.i64.wrap ((beN (L.take i) : Int) * 2 ^ min 8 64) = ((beN (L.take i) * 256 : Nat) : Int) := by
        rw [show ((beN (L.take i) : Int) * 2 ^ min 8 64) = ((beN (L.take i) * 256 : Nat) : Int) by simp]
        exact wrapi (by omega)
       have e2 : IntKind.i64.wrap ((L.getD i Ty.u8.dflt).toNat : Int) = (((L.getD i Ty.u8.dflt).toNat : Nat) : Int) := wrapi (by omega)
       have e3 := or_byte (beN (L.take i)) (L.getD i Ty.u8.dflt).toNat (by omega) hc
       have e4 := beN_succ L i (by omega)
       rw [e1, e2]
       refine ⟨hlt, trivial, ⟨[], rfl⟩, ?_⟩
       with_reducible refine sx1 hwr ?_
       rw [e4]
       exact congrArg (Value.int .i64) e3
     · rw [List.take_of_length_le (by omega : L.length ≤ i)]
       have hv := beN_lt L
       rw [hll] at hv
       have hv3 : beN L < 16777216 := by omega
       have w1 : IntKind.i64.wrap ((b.length : Int) - (2 + ((3 : Nat) : Int))) = (b.length : Int) - (2 + ((3 : Nat) : Int)) := wrapi (by omega)
       have w2 : IntKind.i64.wrap (2 + ((3 : Nat) : Int) + (beN L : Int)) = ((2 + 3 + beN L : Nat) : Int) := by rw [wrapi (by omega)]; omega
       rw [w1, w2]
       refine ⟨by decide, fun q => ?_, fun q => ⟨fun q2 => ?_, fun q2 => ?_⟩⟩
       · rw [hmq _ rfl, if_pos (by simp only [minLen]; omega)]; rfl
       · rw [hmq _ rfl, if_neg (by simp only [minLen]; omega)]; unfold measE; rw [if_pos (by omega)]; rfl
       · rw [hmq _ rfl, if_neg (by simp only [minLen]; omega)]; unfold measE; rw [if_neg (by omega)]; rfl
 · have : meas b = (0, 0, 6) := by unfold meas; rw [hd, if_neg (by omega), if_neg (by omega), if_pos (by omega)]
   rw [this]; rfl
 · have : meas b = (0, 0, 4) := by unfold meas; rw [hd, if_neg (by omega), if_pos (by omega)]; unfold measE; rw [if_pos (by omega)]
   rw [this]; rfl
 · have : meas b = (2, 2 + x.toNat, 0) := by unfold meas; rw [hd, if_neg (by omega), if_pos (by omega)]; unfold measE; rw [if_neg (by omega)]
   rw [this]; rfl
end Go.Proofs.YtoeieekegmmdkaaGreatDoor

/- Contracts: the encoding of entries. -/
namespace Go.Proofs.YtoeieekegmmdkaaGreatDoor
open Go Go.Sx Go.Proofs
set_option maxRecDepth 100000
set_option maxHeartbeats 4000000
set_option linter.unusedSimpArgs false

end Go.Proofs.YtoeieekegmmdkaaGreatDoor

