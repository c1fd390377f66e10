/- Contracts: messages: reading tagged values. -/
import Derived.Test.YtoeieekegmmdkaaGreatDoorP19
import Derived.Test.YtoeieekegmmdkaaGreatDoorP16
set_option linter.unusedSimpArgs false
set_option linter.unusedVariables false
set_option linter.unusedSectionVars false
namespace Go.Proofs.YtoeieekegmmdkaaGreatDoor
open Go Go.Sx Go.Proofs
set_option maxRecDepth 100000
set_option maxHeartbeats 4000000
set_option linter.unusedSimpArgs false

theorem mrint_cl (b : List UInt8) (n : Nat) (hn : n ≤ b.length) (hb : b.length ≤ 1099511627776) (o : Value) :
 Eff Tryz.prog 148 [.agg [.ptr 0 0], .ptr 1 0] b n [.cells 3 [.raw o]] (fun _ => .tup []) (fun v => [.cells 3 [(rI) v]]) (intP (b.drop n)) := by
 cases hx : intP (b.drop n) with
 | error e =>
  have hr := rint_er b n hn hb hx
  refine pe_seal (by simp) ?_
  refine runE mixed fi148 ?_
  refine effE mixed [0] (hr) ?_
  refine effP [] (take_er_int _ e (rdP_ne hx)) ?_; trivial
 | ok x =>
  obtain ⟨v, k⟩ := x
  have hr := rint_ok b n hn hb hx
  refine pe_seal (by simp) ?_
  refine runE mixed fi148 ?_
  refine effE mixed [0] (hr) ?_
  refine callI_pure (take_int _) ?_
  refine goE mixed ?_; trivial
theorem mrint_c (i : Nat) (hi : i ≤ 30) (b : List UInt8) (n : Nat) (hn : n ≤ b.length) (hb : b.length ≤ 1099511627776) :
 Eff Tryz.prog 102 [.agg [.ptr 0 0], rI i] b n [] (rI) (fun _ => []) (needP i intP (b.drop n)) := by
 have hc : Cln [.raw (.int .i64 0)] := cln_raw cln_nil
 have hg := mrint_cl (takeC (b.drop n)) 0 (Nat.zero_le _) (tkC_le hb) (.int .i64 0)
 rw [List.drop_zero] at hg
 have hm := need1 148 i hi b n hn hb 3 _ hc intP rdP_fits (fun v => [(rI) v]) (fun v => cln_raw cln_nil) hg
 cases hx : needP i intP (b.drop n) with
 | error e =>
  have hm' := eff_er hm hx
  refine pe_seal (by simp) ?_
  refine runE mixed fi102 ?_
  refine effP [0, 2] (hm') ?_; trivial
 | ok x =>
  obtain ⟨v, k⟩ := x
  have hm' := eff_ok hm hx
  refine pe_seal (by simp) ?_
  refine runE mixed fi102 ?_
  refine effE mixed [0, 2] (hm') ?_; trivial
theorem mrtime_cl (b : List UInt8) (n : Nat) (hn : n ≤ b.length) (hb : b.length ≤ 1099511627776) (o : Value) :
 Eff Tryz.prog 147 [.agg [.ptr 0 0], .ptr 1 0] b n [.cells 3 [.raw o]] (fun _ => .tup []) (fun v => [.cells 3 [(fun v => rI (v : Nat)) v]]) (timeP (b.drop n)) := by
 cases hx : timeP (b.drop n) with
 | error e =>
  have hr := rtime_er b n hn hb hx
  refine pe_seal (by simp) ?_
  refine runE mixed fi147 ?_
  refine effE mixed [0] (hr) ?_
  refine effP [] (take_er_int _ e (rdP_ne hx)) ?_; trivial
 | ok x =>
  obtain ⟨v, k⟩ := x
  have hr := rtime_ok b n hn hb hx
  refine pe_seal (by simp) ?_
  refine runE mixed fi147 ?_
  refine effE mixed [0] (hr) ?_
  refine callI_pure (take_int _) ?_
  refine goE mixed ?_; trivial
theorem mrtime_c (i : Nat) (hi : i ≤ 30) (b : List UInt8) (n : Nat) (hn : n ≤ b.length) (hb : b.length ≤ 1099511627776) :
 Eff Tryz.prog 101 [.agg [.ptr 0 0], rI i] b n [] (fun v => rI (v : Nat)) (fun _ => []) (needP i timeP (b.drop n)) := by
 have hc : Cln [.raw (.int .i64 0)] := cln_raw cln_nil
 have hg := mrtime_cl (takeC (b.drop n)) 0 (Nat.zero_le _) (tkC_le hb) (.int .i64 0)
 rw [List.drop_zero] at hg
 have hm := need1 147 i hi b n hn hb 3 _ hc timeP rdP_fits (fun v => [(fun v => rI (v : Nat)) v]) (fun v => cln_raw cln_nil) hg
 cases hx : needP i timeP (b.drop n) with
 | error e =>
  have hm' := eff_er hm hx
  refine pe_seal (by simp) ?_
  refine runE mixed fi101 ?_
  refine effP [0, 2] (hm') ?_; trivial
 | ok x =>
  obtain ⟨v, k⟩ := x
  have hm' := eff_ok hm hx
  refine pe_seal (by simp) ?_
  refine runE mixed fi101 ?_
  refine effE mixed [0, 2] (hm') ?_; trivial
theorem mrbits_cl (b : List UInt8) (n : Nat) (hn : n ≤ b.length) (hb : b.length ≤ 1099511627776) (o : Value) :
 Eff Tryz.prog 139 [.agg [.ptr 0 0], .ptr 1 0] b n [.cells 44 [.raw o]] (fun _ => .tup []) (fun v => [.cells 44 [(fun v => .raw (.int .u32 (v : Nat))) v]]) (bitsP (b.drop n)) := by
 cases hx : bitsP (b.drop n) with
 | error e =>
  have hr := rbits_er b n hn hb hx
  refine pe_seal (by simp) ?_
  refine runE mixed fi139 ?_
  refine effE mixed [0] (hr) ?_
  refine effP [] (take_er_u32 _ e (rdP_ne hx)) ?_; trivial
 | ok x =>
  obtain ⟨v, k⟩ := x
  have hr := rbits_ok b n hn hb hx
  refine pe_seal (by simp) ?_
  refine runE mixed fi139 ?_
  refine effE mixed [0] (hr) ?_
  refine callI_pure (take_u32 _) ?_
  refine goE mixed ?_; trivial
theorem mrbits_c (i : Nat) (hi : i ≤ 30) (b : List UInt8) (n : Nat) (hn : n ≤ b.length) (hb : b.length ≤ 1099511627776) :
 Eff Tryz.prog 98 [.agg [.ptr 0 0], rI i] b n [] (fun v => .raw (.int .u32 (v : Nat))) (fun _ => []) (needP i bitsP (b.drop n)) := by
 have hc : Cln [.raw (.int .u32 0)] := cln_raw cln_nil
 have hg := mrbits_cl (takeC (b.drop n)) 0 (Nat.zero_le _) (tkC_le hb) (.int .u32 0)
 rw [List.drop_zero] at hg
 have hm := need1 139 i hi b n hn hb 44 _ hc bitsP rdP_fits (fun v => [(fun v => .raw (.int .u32 (v : Nat))) v]) (fun v => cln_raw cln_nil) hg
 cases hx : needP i bitsP (b.drop n) with
 | error e =>
  have hm' := eff_er hm hx
  refine pe_seal (by simp) ?_
  refine runE mixed fi98 ?_
  refine effP [0, 2] (hm') ?_; trivial
 | ok x =>
  obtain ⟨v, k⟩ := x
  have hm' := eff_ok hm hx
  refine pe_seal (by simp) ?_
  refine runE mixed fi98 ?_
  refine effE mixed [0, 2] (hm') ?_; trivial
theorem mmtime_cl (b : List UInt8) (n : Nat) (hn : n ≤ b.length) (hb : b.length ≤ 1099511627776) (o : Value) :
 Eff Tryz.prog 145 [.agg [.ptr 0 0], .ptr 1 0] b n [.cells 3 [.raw o]] (fun _ => .tup []) (fun v => [.cells 3 [rI ((v : Nat) : Int)]]) (timeP (b.drop n)) := by
 cases hx : timeP (b.drop n) with
 | error e =>
  have hr := rtime_er b n hn hb hx
  refine pe_seal (by simp) ?_
  refine runE mixed fi145 ?_
  refine effE mixed [0] (hr) ?_
  refine effP [] (take_er_int _ e (rdP_ne hx)) ?_; trivial
 | ok x =>
  obtain ⟨v, k⟩ := x
  have hr := rtime_ok b n hn hb hx
  refine pe_seal (by simp) ?_
  refine runE mixed fi145 ?_
  refine effE mixed [0] (hr) ?_
  refine callI_pure (take_int _) ?_
  refine goE mixed ?_; trivial
theorem mmtime_c (i : Nat) (hi : i ≤ 30) (b : List UInt8) (n : Nat) (hn : n ≤ b.length) (hb : b.length ≤ 1099511627776) :
 Eff Tryz.prog 100 [.agg [.ptr 0 0], rI i] b n [] (fun v => rI ((v : Nat) : Int)) (fun _ => []) (dfltP (0 : Nat) i timeP (b.drop n)) := by
 have hc : Cln [.raw (.int .i64 0)] := cln_raw cln_nil
 cases h : nextB i (b.drop n) with
 | false =>
  rw [dfltP_no h]
  have hm := maybe_no1 145 i hi b n hn 3 _ hc h
  refine pe_seal (by simp) ?_
  refine runE mixed fi100 ?_
  refine effE mixed [0, 2] (hm) ?_
  rfl
 | true =>
  rw [dfltP_in h]
  have hg := mmtime_cl (takeC (b.drop n)) 0 (Nat.zero_le _) (tkC_le hb) (.int .i64 0)
  rw [List.drop_zero] at hg
  have hm := maybe_in1 145 i hi b n hn hb 3 _ hc timeP rdP_fits (fun v => [rI ((v : Nat) : Int)]) (fun v => cln_raw cln_nil) hg h
  cases hx : inP (tagB i) timeP (b.drop n) with
  | error e =>
   have hm' := eff_er hm hx
   refine pe_seal (by simp) ?_
   refine runE mixed fi100 ?_
   refine effP [0, 2] (hm') ?_; trivial
  | ok x =>
   obtain ⟨v, k⟩ := x
   have hm' := eff_ok hm hx
   refine pe_seal (by simp) ?_
   refine runE mixed fi100 ?_
   refine effE mixed [0, 2] (hm') ?_; trivial
theorem take_prin (v : Prin) : PC Tryz.prog 143 [.agg (PrinT.cells v), rI 0] (.agg (PrinT.cells v)) := by
 refine pc_seal rfl rfl ?_
 refine runE mixed fi143 ?_
 refine callI_require (fun _ => ?_) fun h => absurd h (by decide)
 refine goE mixed ?_; trivial
theorem take_er_prin (e : Nat) (he : e ≠ 0) : PE Tryz.prog 143 [zPrin, rI e] [] (.pan wrongV) [] := by
 refine pe_seal (by simp) ?_
 refine runE mixed fi143 ?_
 refine callI_require (fun h => absurd h (by simp; omega)) fun _ => ?_
 with_reducible refine sxE ?_; trivial
theorem mprin_cl (b : List UInt8) (n : Nat) (hn : n ≤ b.length) (hb : b.length ≤ 1099511627776) (T : TypeId) :
 Eff Tryz.prog 142 [.agg [.ptr 0 0], .ptr 1 0] b n [.cells T [.raw (.slice none 0 0), rS ⟨#[]⟩]] (fun _ => .tup []) (fun p : Prin => [.cells T [.isl .str p.1, rS p.2]]) (nameP (b.drop n)) := by
 have hr := read_c b n hn hb
 cases hx : nameP (b.drop n) with
 | error e =>
  have hr' := effR_er hr hx
  refine pe_seal (by simp) ?_
  refine runE mixed fi142 ?_
  refine effE mixed [0] (hr') ?_
  refine effP [] (take_er_prin e (nameP_ne _ _ hx)) ?_; trivial
 | ok x =>
  obtain ⟨v, k⟩ := x
  have hr' := effR_ok hr hx
  refine pe_seal (by simp) ?_
  refine runE mixed fi142 ?_
  refine effE mixed [0] (hr') ?_
  refine callI_pure (take_prin _) ?_
  refine goE mixed ?_; trivial
theorem mrprin_c (i : Nat) (hi : i ≤ 30) (b : List UInt8) (n : Nat) (hn : n ≤ b.length) (hb : b.length ≤ 1099511627776) :
 Eff Tryz.prog 99 [.agg [.ptr 0 0], rI i] b n [] (fun p : Prin => .agg (PrinT.cells p)) (fun _ => []) (needP i nameP (b.drop n)) := by
 have hc : Cln [.raw (.slice none 0 0), rS ⟨#[]⟩] := cln_raw (cln_raw cln_nil)
 have hg := fun T => mprin_cl (takeC (b.drop n)) 0 (Nat.zero_le _) (tkC_le hb) T
 simp only [List.drop_zero] at hg
 have hm := fun T => need1 142 i hi b n hn hb T _ hc nameP nameP_fits (fun p : Prin => [.isl .str p.1, rS p.2]) (fun v => cln_isl (cln_raw cln_nil)) (hg T)
 cases hx : needP i nameP (b.drop n) with
 | error e =>
  have hm' := fun T => eff_er (hm T) hx
  refine pe_seal (by simp) ?_
  refine runE mixed fi99 ?_
  refine effP [0, 2] (hm' _) ?_; trivial
 | ok x =>
  obtain ⟨v, k⟩ := x
  have hm' := fun T => eff_ok (hm T) hx
  refine pe_seal (by simp) ?_
  refine runE mixed fi99 ?_
  refine effE mixed [0, 2] (hm' _) ?_; trivial
def cstP (v : Int) : PR Unit := fun r => match intP r with
 | .ok (w, k) => if w = v then .ok ((), k) else .error 6
 | .error e => .error e
theorem cstP_fits {v : Int} : FitsP (cstP v) := fun r u m h => by
 unfold cstP at h
 cases hx : intP r with
 | error e => rw [hx] at h; cases h
 | ok y =>
  obtain ⟨w, k⟩ := y
  rw [hx] at h
  simp only at h
  split at h
  · cases h; exact rdP_fits _ _ _ hx
  · cases h
theorem mcst_cl (v : Int) (b : List UInt8) (n : Nat) (hn : n ≤ b.length) (hb : b.length ≤ 1099511627776) :
 Eff Tryz.prog 90 [.agg [.ptr 0 0], .ptr 1 0] b n [.cells 3 [rI v]] (fun _ => .tup []) (fun _ => [.cells 3 [rI v]]) (cstP v (b.drop n)) := by
 unfold cstP
 cases hx : intP (b.drop n) with
 | error e =>
  have hr := rint_er b n hn hb hx
  refine pe_seal (by simp) ?_
  refine vc_fi fi90 (run_sound mixed 4 _ ?_)
  with_reducible refine sxE ?_
  refine si_drwP [1, 2] mixed ?_
  refine goaE mixed ?_
  refine callR_eff [0] (hr) rfl (by decide) ⟨rfl, rfl, trivial⟩ rfl rfl ?_ ?_
  · simp (maxSteps := 3000000) only [mgA, sig, sameG_cons, sameG_nil, List.append_assoc, getA, getA0, setA, setA0, List.length_append, Nat.add_assoc, go_sem, ↓zA, ↓reduceIte, ↓reduceDIte, reduceCtorEq, Nat.reduceAdd, Nat.reduceSub, Nat.reduceLeDiff, Nat.reduceLT, Nat.reduceEqDiff, Nat.reduceBEq, Nat.reduceMul, Int.reduceToNat, Int.reduceEq, Int.reduceLT, Int.reduceLE] <;> try simp only [zB]
  simp only [afterR, Out.ren, SV.ren, mgA, sig, SObj.ren, SV.renL, List.cons_append, List.nil_append, List.append_assoc, List.set_cons_zero, List.set_cons_succ, List.set, List.map, List.append_nil]
  refine goaE mixed ?_
  refine callR_eff [] (take_er_int _ e (rdP_ne hx)) rfl (by decide) trivial rfl rfl ?_ ?_
  · simp (maxSteps := 3000000) only [mgA, sig, sameG_cons, sameG_nil, List.append_assoc, getA, getA0, setA, setA0, List.length_append, Nat.add_assoc, go_sem, ↓zA, ↓reduceIte, ↓reduceDIte, reduceCtorEq, Nat.reduceAdd, Nat.reduceSub, Nat.reduceLeDiff, Nat.reduceLT, Nat.reduceEqDiff, Nat.reduceBEq, Nat.reduceMul, Int.reduceToNat, Int.reduceEq, Int.reduceLT, Int.reduceLE] <;> try simp only [zB]
  simp only [afterR, Out.ren, SV.ren, mgA, sig, SObj.ren, SV.renL, List.cons_append, List.nil_append, List.append_assoc, List.set_cons_zero, List.set_cons_succ, List.set, List.map, List.append_nil]
  refine cutQ_p ?_
  with_reducible refine sxaE ?_; trivial
 | ok x =>
  obtain ⟨w, k⟩ := x
  have hr := rint_ok b n hn hb hx
  simp only
  by_cases hw : w = v
  · rw [if_pos hw]
    refine pe_seal (by simp) ?_
    refine vc_fi fi90 (run_sound mixed 4 _ ?_)
    with_reducible refine sxE ?_
    refine si_drwP [1, 2] mixed ?_
    refine goaE mixed ?_
    refine callR_eff [0] (hr) rfl (by decide) ⟨rfl, rfl, trivial⟩ rfl rfl ?_ ?_
    · simp (maxSteps := 3000000) only [mgA, sig, sameG_cons, sameG_nil, List.append_assoc, getA, getA0, setA, setA0, List.length_append, Nat.add_assoc, go_sem, ↓zA, ↓reduceIte, ↓reduceDIte, reduceCtorEq, Nat.reduceAdd, Nat.reduceSub, Nat.reduceLeDiff, Nat.reduceLT, Nat.reduceEqDiff, Nat.reduceBEq, Nat.reduceMul, Int.reduceToNat, Int.reduceEq, Int.reduceLT, Int.reduceLE] <;> try simp only [zB]
    simp only [afterR, Out.ren, SV.ren, mgA, sig, SObj.ren, SV.renL, List.cons_append, List.nil_append, List.append_assoc, List.set_cons_zero, List.set_cons_succ, List.set, List.map, List.append_nil]
    refine goaE mixed ?_
    refine callR_pure (take_int _) ?_
    refine goaE mixed ?_
    rw [decide_eq_true hw]
    refine callR_pure require_t ?_
    refine goaE mixed ?_
    refine cutQ_n ?_
    refine goaE mixed ?_; trivial
  · rw [if_neg hw]
    refine pe_seal (by simp) ?_
    refine vc_fi fi90 (run_sound mixed 4 _ ?_)
    with_reducible refine sxE ?_
    refine si_drwP [1, 2] mixed ?_
    refine goaE mixed ?_
    refine callR_eff [0] (hr) rfl (by decide) ⟨rfl, rfl, trivial⟩ rfl rfl ?_ ?_
    · simp (maxSteps := 3000000) only [mgA, sig, sameG_cons, sameG_nil, List.append_assoc, getA, getA0, setA, setA0, List.length_append, Nat.add_assoc, go_sem, ↓zA, ↓reduceIte, ↓reduceDIte, reduceCtorEq, Nat.reduceAdd, Nat.reduceSub, Nat.reduceLeDiff, Nat.reduceLT, Nat.reduceEqDiff, Nat.reduceBEq, Nat.reduceMul, Int.reduceToNat, Int.reduceEq, Int.reduceLT, Int.reduceLE] <;> try simp only [zB]
    simp only [afterR, Out.ren, SV.ren, mgA, sig, SObj.ren, SV.renL, List.cons_append, List.nil_append, List.append_assoc, List.set_cons_zero, List.set_cons_succ, List.set, List.map, List.append_nil]
    refine goaE mixed ?_
    refine callR_pure (take_int _) ?_
    refine goaE mixed ?_
    rw [decide_eq_false hw]
    refine callR_eff [] require_f rfl (by decide) trivial rfl rfl ?_ ?_
    · simp (maxSteps := 3000000) only [mgA, sig, sameG_cons, sameG_nil, List.append_assoc, getA, getA0, setA, setA0, List.length_append, Nat.add_assoc, go_sem, ↓zA, ↓reduceIte, ↓reduceDIte, reduceCtorEq, Nat.reduceAdd, Nat.reduceSub, Nat.reduceLeDiff, Nat.reduceLT, Nat.reduceEqDiff, Nat.reduceBEq, Nat.reduceMul, Int.reduceToNat, Int.reduceEq, Int.reduceLT, Int.reduceLE] <;> try simp only [zB]
    simp only [afterR, Out.ren, SV.ren, mgA, sig, SObj.ren, SV.renL, List.cons_append, List.nil_append, List.append_assoc, List.set_cons_zero, List.set_cons_succ, List.set, List.map, List.append_nil]
    refine cutQ_p ?_
    with_reducible refine sxaE ?_; trivial
theorem mcst_c (i : Nat) (hi : i ≤ 30) (v : Int) (b : List UInt8) (n : Nat) (hn : n ≤ b.length) (hb : b.length ≤ 1099511627776) :
 Eff Tryz.prog 58 [.agg [.ptr 0 0], rI i, rI v] b n [] (fun _ => .tup []) (fun _ => []) (needP i (cstP v) (b.drop n)) := by
 have hc : Cln [rI v] := cln_raw cln_nil
 have hg := mcst_cl v (takeC (b.drop n)) 0 (Nat.zero_le _) (tkC_le hb)
 rw [List.drop_zero] at hg
 have hm := need1 90 i hi b n hn hb 3 _ hc (cstP v) cstP_fits (fun _ => [rI v]) (fun _ => cln_raw cln_nil) hg
 cases hx : needP i (cstP v) (b.drop n) with
 | error e =>
  have hm' := eff_er hm hx
  refine pe_seal (by simp) ?_
  refine runE mixed fi58 ?_
  refine effP [0, 2] (hm') ?_; trivial
 | ok x =>
  obtain ⟨u, k⟩ := x
  have hm' := eff_ok hm hx
  refine pe_seal (by simp) ?_
  refine runE mixed fi58 ?_
  refine effE mixed [0, 2] (hm') ?_; trivial
end Go.Proofs.YtoeieekegmmdkaaGreatDoor

/- Contracts: reading data. -/
namespace Go.Proofs.YtoeieekegmmdkaaGreatDoor
open Go Go.Sx Go.Proofs
set_option maxRecDepth 100000
set_option maxHeartbeats 4000000
set_option linter.unusedSimpArgs false

def effO {α : Type} (res : α → SV) : Except Nat (α × Nat) → Out
 | .ok (v, _) => .ret (res v)
 | .error _ => .pan wrongV
theorem eff_of {P : Program} {α : Type} {f : FuncId} {args : List SV} {b : List UInt8} {n : Nat} {E : List SObj} {res : α → SV} {upd : α → List SObj} {x : Except Nat (α × Nat)} (hl : ∀ v, E.length ≤ (upd v).length) (h : VC P f args (rdr b n :: E) (SealO (effO res x) (effH b n E upd x))) : Eff P f args b n E res upd x := by
 cases x with
 | error e => exact pe_seal (by simp [effH]) h
 | ok y => obtain ⟨v, k⟩ := y; exact pe_seal (by simp [effH]; exact hl v) h
attribute [go_sem] effO effH
def datIn : PR Pre := bindP (needP 0 intP) fun a => bindP (needP 1 octP) fun c => retP ((a, c) : Pre)
def datP : PR Pre := inP 48 datIn
def dataP : PR (List Pre) := inP 48 (listP datP 16)
theorem datP_ne : ErrP datP := errP_in (errP_bind (errP_need errP_rd) fun _ => errP_bind (errP_need errP_rd) fun _ => errP_ret)
theorem dataP_ne : ErrP dataP := errP_in (errP_list datP_ne 16)
theorem data1_c (b : List UInt8) (n : Nat) (hn : n ≤ b.length) (hb : b.length ≤ 1099511627776) :
 EffZ Tryz.prog 132 [.ptr 0 0] b n (posX b n) (fun l : List Pre => .isl PreT l) (dataP (b.drop n)) := by
 unfold dataP
 by_cases h : takeE 48 (b.drop n) = 0
 · have hs := rseq_ok b n hn hb h
   have hc := tkC_le (n := n) hb
   rw [inP_t h, posX_t h]
   generalize takeC (b.drop n) = c at *
   generalize takeN (b.drop n) = N at *
   generalize hX : listP datP 16 c = X
   refine effZ_of ?_
   refine runE mixed fi132 ?_
   refine effE mixed [0] (hs) ?_
   refine effE mixed [1] (must_drdr c 0) ?_
   refine si_nilrow 2 PreT rfl rfl ?_
   with_reducible refine sxE ?_
   refine si_loopX (ι := Nat × List Pre × List SObj) (fun s => [(2, .bld (s.2.2.length + 2) PreT s.2.1.length)]) (fun s => [rdr b (n + N), rdr c s.1] ++ s.2.2 ++ [.row PreT s.2.1]) (fun s => 20 - s.2.1.length) (fun s => s.2.1.length ≤ 16 ∧ s.1 ≤ c.length ∧ X = tailP s.2.1 s.1 (listP datP (16 - s.2.1.length) (c.drop s.1))) (0, [], []) ⟨Nat.zero_le _, Nat.zero_le _, ?_⟩ rfl ?_ ?_
   · rw [List.drop_zero, tailP_id]; exact hX.symm
   · with_reducible refine sxE ?_; trivial
   rintro ⟨k, xs, G⟩ ⟨i1, i2, i3⟩
   dsimp only at i1 i2 i3
   refine si_compactS (ty := PreT) (xs := xs) 2 xs.length [rdr b (n + N), rdr c k] [rdr b (n + N), rdr c k] G rfl (by simp) (by simp) ?_ (by rfl) ?_ ?_ ?_
   · simp [SObj.ren, SV.ren, SV.renL]
   · rfl
   · with_reducible refine sxE ?_
     exact congrArg (fun q => SV.bld q PreT xs.length) (Nat.add_comm _ _)
   have hleft := left_c c k i2
   refine goE mixed ?_
   refine effE mixed [1] (hleft) ?_
   refine ⟨fun hp0 => ⟨fun h16 => ?_, fun h16 => ?_⟩, fun hp0 => ?_⟩
   · have h0 : 16 - xs.length = 0 := by omega
     rw [h0] at i3
     rw [i3.trans (listP_full (by omega))]
     simp only [closeP]
     with_reducible refine sxE ?_
     rfl
   · have hkl : k < c.length := by omega
     have hlt : 0 < 16 - xs.length := by omega
     by_cases g0 : takeE 48 (c.drop k) = 0
     · have hs1 := rseq_ok c k i2 hc g0
       have hq := tkC_le (n := k) hc
       have hD : datP (c.drop k) = closeP (takeC (c.drop k)).length (takeN (c.drop k)) (datIn (takeC (c.drop k))) := inP_t g0
       have hM := takeN_le g0
       rw [List.length_drop] at hM
       generalize takeC (c.drop k) = s at *
       generalize takeN (c.drop k) = M at *
       unfold datIn at hD
       refine effE mixed [1] (hs1) ?_
       refine effE mixed [3] (must_drdr s 0) ?_
       have e1 := fint_c 0 (by omega) s 0 (Nat.zero_le _) hq
       rw [List.drop_zero] at e1
       cases h1 : needP 0 intP s with
       | error e =>
        rw [bindP_er h1] at hD
        rw [i3.trans (listP_bad hkl hlt hD)]
        have e1' := effX_er e1 h1
        simp only [closeP]
        refine effP [3] (e1') ?_; trivial
       | ok y =>
        obtain ⟨v1, k1⟩ := y
        rw [bindP_s0 h1] at hD
        have e1' := effX_ok e1 h1
        have f1 := needP_fits _ _ _ h1
        rw [Nat.zero_add] at e1'
        refine effE mixed [3] (e1') ?_
        have e2 := foct_c 1 (by omega) s _ f1 hq
        cases h2 : needP 1 octP (s.drop k1) with
        | error e =>
         rw [bindP_er h2] at hD
         rw [i3.trans (listP_bad hkl hlt hD)]
         have e2' := effX_er e2 h2
         simp only [closeP]
         refine effP [3] (e2') ?_; trivial
        | ok y =>
         obtain ⟨v2, k2⟩ := y
         rw [bindP_st h2] at hD
         have e2' := effX_ok e2 h2
         have f2 := fits_at needP_fits f1 h2
         simp only [shiftP, retP, closeP, Nat.add_zero] at hD
         refine effE mixed [3] (e2') ?_
         by_cases hm : k1 + k2 < s.length
         · rw [if_pos hm] at hD
           rw [i3.trans (listP_bad hkl hlt hD)]
           simp only [closeP]
           refine effP [3] (dend_f s _ hm) ?_
           rfl
         · rw [if_neg hm] at hD
           have hX' := i3.trans (listP_step hkl hlt hD)
           refine effE mixed [3] (dend_t s (k1 + k2) (by omega)) ?_
           refine ⟨⟨by omega, by omega⟩, (k + M, xs ++ [(v1, v2)], [.dead, rdr s (k1 + k2), .row PreT [(v1, v2)]]), ⟨by simp; omega, by dsimp only; omega, ?_⟩, by simp; omega, rfl, ?_⟩
           · dsimp only
             rw [hX', List.length_append, List.length_singleton, Nat.sub_sub]
           · with_reducible refine sxE ?_; trivial
     · have hs1 := rseq_er c k i2 hc g0
       have hD : datP (c.drop k) = .error (takeE 48 (c.drop k)) := inP_f g0
       rw [i3.trans (listP_bad hkl hlt hD)]
       generalize takeE 48 (c.drop k) = e at *
       simp only [closeP]
       refine effE mixed [1] (hs1) ?_
       refine effP [] (must_er_drdr e g0) ?_; trivial
   · rw [i3.trans (listP_end (by omega))]
     simp only [closeP]
     rw [if_neg (by omega)]
     with_reducible refine sxE ?_
     exact ⟨⟨Nat.le_refl _, by omega⟩, List.take_of_length_le (Nat.le_refl _)⟩
 · have hs := rseq_er b n hn hb h
   rw [inP_f h, posX_f h]
   generalize takeE 48 (b.drop n) = e at *
   refine effZ_of ?_
   refine runE mixed fi132 ?_
   refine effE mixed [0] (hs) ?_
   refine effP [] (must_er_drdr e h) ?_; trivial
theorem dpanD_c (b : List UInt8) (n m e : Nat) (T2 T4 T5 T6 : TypeId) (y : Value) (K : List SObj → Prop)
 (h : ∀ G, K ([rdr b n, .cells T2 [.ptr 0 0], .cells T4 [.raw (.slice none 0 0)], .cells T5 [rI e], .cells T6 [rI n]] ++ G)) :
 DCall Tryz.prog 163 [.ptr 4 0, .ptr 1 0, .ptr 2 0, .ptr 3 0] (some (errV e)) [rdr b m, .cells T2 [.ptr 0 0], .cells T4 [.raw (.slice none 0 0)], .cells T5 [.raw y], .cells T6 [rI n]] K := by
 refine recE mixed fi163 ?_
 exact h _
theorem dretD_c (H : List SObj) (K : List SObj → Prop) (h : ∀ G, K (H ++ G)) : DCall Tryz.prog 163 [.ptr 4 0, .ptr 1 0, .ptr 2 0, .ptr 3 0] none H K := by
 refine recE mixed fi163 ?_
 simpa using h []
abbrev zDat : SV := .isl PreT []
theorem sdata_c (b : List UInt8) (n : Nat) (hn : n ≤ b.length) (hb : b.length ≤ 1099511627776) :
 EffR Tryz.prog 131 [.ptr 0 0, .fn 132 [] []] b n (fun l : List Pre => .isl PreT l) zDat (dataP (b.drop n)) := by
 have hk := data1_c b n hn hb
 generalize dataP (b.drop n) = X at *
 cases X with
 | error e =>
  have hk' := effZ_er hk rfl
  refine pe_seal (by simp) ?_
  refine defE mixed fi131 ?_
  refine goE mixed ?_
  refine effP [0] (hk') ?_
  refine ⟨by simp, dpanD_c b n _ e _ _ _ _ _ _ fun G => ?_⟩
  with_reducible refine sxE ?_; trivial
 | ok x =>
  obtain ⟨v, k⟩ := x
  have hk' := effZ_ok hk rfl
  refine pe_seal (by simp) ?_
  refine defE mixed fi131 ?_
  refine goE mixed ?_
  refine effE mixed [0] (hk') ?_
  refine dretD_c _ _ fun G => ?_
  with_reducible refine sxE ?_; trivial
theorem drdata_c (b : List UInt8) (n : Nat) (hn : n ≤ b.length) (hb : b.length ≤ 1099511627776) :
 EffR Tryz.prog 96 [.ptr 0 0] b n (fun l : List Pre => .isl PreT l) zDat (dataP (b.drop n)) := by
 have hk := sdata_c b n hn hb
 generalize dataP (b.drop n) = X at *
 cases X with
 | error e =>
  have hk' := effR_er hk rfl
  refine pe_seal (by simp) ?_
  refine runE mixed fi96 ?_
  refine effE mixed [0] (hk') ?_; trivial
 | ok x =>
  obtain ⟨v, k⟩ := x
  have hk' := effR_ok hk rfl
  refine pe_seal (by simp) ?_
  refine runE mixed fi96 ?_
  refine effE mixed [0] (hk') ?_; trivial
theorem take_data (v : List Pre) : PC Tryz.prog 95 [.isl PreT v, rI 0] (.isl PreT v) := by
 refine pc_seal rfl rfl ?_
 refine runE mixed fi95 ?_
 refine callI_require (fun _ => ?_) fun h => absurd h (by decide)
 refine goE mixed ?_; trivial
theorem take_er_data (e : Nat) (he : e ≠ 0) : PE Tryz.prog 95 [zDat, rI e] [] (.pan wrongV) [] := by
 refine pe_seal (by simp) ?_
 refine runE mixed fi95 ?_
 refine callI_require (fun h => absurd h (by simp; omega)) fun _ => ?_
 with_reducible refine sxE ?_; trivial
end Go.Proofs.YtoeieekegmmdkaaGreatDoor

/- Contracts: messages: pre-authentication data, lists of numbers. -/
namespace Go.Proofs.YtoeieekegmmdkaaGreatDoor
open Go Go.Sx Go.Proofs
set_option maxRecDepth 100000
set_option maxHeartbeats 4000000
set_option linter.unusedSimpArgs false

theorem mpre_cl (b : List UInt8) (n : Nat) (hn : n ≤ b.length) (hb : b.length ≤ 1099511627776) (T : TypeId) :
 Eff Tryz.prog 94 [.agg [.ptr 0 0], .ptr 1 0] b n [.cells T [.raw (.slice none 0 0)]] (fun _ => .tup []) (fun l : List Pre => [.cells T [.isl PreT l]]) (dataP (b.drop n)) := by
 have hr := drdata_c b n hn hb
 cases hx : dataP (b.drop n) with
 | error e =>
  have hr' := effR_er hr hx
  refine pe_seal (by simp) ?_
  refine runE mixed fi94 ?_
  refine effE mixed [0] (hr') ?_
  refine effP [] (take_er_data e (dataP_ne _ _ hx)) ?_; trivial
 | ok x =>
  obtain ⟨l, q⟩ := x
  have hr' := effR_ok hr hx
  have hl16 : l.length ≤ 16 := (okP_in (okP_list okP_true 16) _ l q (by rw [List.length_drop]; omega) hx).1
  refine pe_seal (by simp) ?_
  refine runE mixed fi94 ?_
  refine effE mixed [0] (hr') ?_
  refine callI_pure (take_data l) ?_
  refine goE mixed ?_
  refine si_nilcell 1 0 PreT rfl rfl rfl ?_
  with_reducible refine sxE ?_
  refine si_loopX (ι := Nat × List SObj) (fun s => [(12, rI s.1)]) (fun s => [rdr b (n + q), .cells T [.bld (s.2.length + 3) PreT (l.take s.1).length], .cells 67 [.ptr 0 0]] ++ s.2 ++ [.row PreT (l.take s.1)]) (fun s => l.length - s.1) (fun s => s.1 ≤ l.length) (0, []) (Nat.zero_le _) rfl ?_ ?_
  · with_reducible refine sxE ?_; trivial
  rintro ⟨i, G⟩ hi
  dsimp only at hi
  have hwr : IntKind.i64.wrap ((i : Int) + 1) = ((i + 1 : Nat) : Int) := wrap_succ (by omega)
  have hln : (l.take i).length = i := List.length_take_of_le hi
  refine run_sound mixed 600 _ ?_
  simp (maxSteps := 3000000) only [hln, List.append_assoc, getA, getA0, setA, setA0, List.length_append, Nat.add_assoc, go_sem, ↓zA, ↓reduceIte, ↓reduceDIte, reduceCtorEq, Nat.reduceAdd, Nat.reduceSub, Nat.reduceLeDiff, Nat.reduceLT, Nat.reduceEqDiff, Nat.reduceBEq, Nat.reduceMul, Int.reduceToNat, Int.reduceEq, Int.reduceLT, Int.reduceLE] <;> try simp only [zB]
  refine ⟨fun hlt => ⟨⟨by omega, hlt⟩, ⟨by omega, by omega⟩, (i + 1, G ++ [.dead, .cells 128 [rI (l.getD i PreT.dflt).1, .isl .u8 (l.getD i PreT.dflt).2], .row PreT [l.getD i PreT.dflt]]), hlt, by dsimp only; omega, ?_, ?_⟩, fun hge => ?_⟩
  · have hst := take_succ_getD (d := PreT.dflt) hlt
    simp [hst, hln]
  · simp (maxSteps := 3000000) only [hwr, List.append_assoc, getA, getA0, setA, setA0, List.length_append, Nat.add_assoc, go_sem, ↓zA, ↓reduceIte, ↓reduceDIte, reduceCtorEq, Nat.reduceAdd, Nat.reduceSub, Nat.reduceLeDiff, Nat.reduceLT, Nat.reduceEqDiff, Nat.reduceBEq, Nat.reduceMul, Int.reduceToNat, Int.reduceEq, Int.reduceLT, Int.reduceLE] <;> try simp only [zB]
  · obtain rfl : i = l.length := by omega
    rw [if_neg (by omega)]
    simp only [List.take_length]
    with_reducible refine sxE ?_
    omega
theorem mpre_c (i : Nat) (hi : i ≤ 30) (b : List UInt8) (n : Nat) (hn : n ≤ b.length) (hb : b.length ≤ 1099511627776) :
 Eff Tryz.prog 59 [.agg [.ptr 0 0], rI i] b n [] (fun l : List Pre => .isl PreT l) (fun _ => []) (dfltP [] i dataP (b.drop n)) := by
 have hc : Cln [.raw (.slice none 0 0)] := cln_raw cln_nil
 cases h : nextB i (b.drop n) with
 | false =>
  rw [dfltP_no h]
  have hm := fun T => maybe_no1 94 i hi b n hn T _ hc h
  refine pe_seal (by simp) ?_
  refine runE mixed fi59 ?_
  refine effE mixed [0, 2] (hm _) ?_
  rfl
 | true =>
  rw [dfltP_in h]
  have hg := fun T => mpre_cl (takeC (b.drop n)) 0 (Nat.zero_le _) (tkC_le hb) T
  simp only [List.drop_zero] at hg
  have hm := fun T => maybe_in1 94 i hi b n hn hb T _ hc dataP inP_fits (fun l : List Pre => [.isl PreT l]) (fun v => cln_isl cln_nil) (hg T) h
  cases hx : inP (tagB i) dataP (b.drop n) with
  | error e =>
   have hm' := fun T => eff_er (hm T) hx
   refine pe_seal (by simp) ?_
   refine runE mixed fi59 ?_
   refine effP [0, 2] (hm' _) ?_; trivial
  | ok x =>
   obtain ⟨v, k⟩ := x
   have hm' := fun T => eff_ok (hm T) hx
   refine pe_seal (by simp) ?_
   refine runE mixed fi59 ?_
   refine effE mixed [0, 2] (hm' _) ?_; trivial
theorem values1_int (g : Nat) (p : PR (I64).den) (hp : FitsP p) (b : List UInt8) (n : Nat) (hn : n ≤ b.length) (hb : b.length ≤ 1099511627776) (T T2 : TypeId)
 (hok : ∀ m v q, p (b.drop m) = .ok (v, q) → (I64).ok v)
 (hg : ∀ m, m ≤ b.length → Eff Tryz.prog g [.agg [.ptr 0 0]] b m [] (fun x => rI x) (fun _ => []) (p (b.drop m))) :
 Eff Tryz.prog 149 [.agg [.ptr 0 0], .ptr 1 0, .ptr 2 0] b n [.cells T [.raw (.slice none 0 0)], .cells T2 [.fn g [] []]] (fun _ => .tup []) (fun l => [.cells T [.isl (I64) l], .cells T2 [.fn g [] []]]) (listP p 16 (b.drop n)) := by
 refine eff_of (fun _ => Nat.le_refl _) ?_
 generalize hx : listP p 16 (b.drop n) = X
 refine runE mixed fi149 ?_
 refine si_nilcell 1 0 (I64) rfl rfl rfl ?_
 with_reducible refine sxE ?_
 refine si_loopX (ι := Nat × List (I64).den × List SObj) (fun s => []) (fun s => [rdr b s.1, .cells T [.bld (s.2.2.length + 4) (I64) s.2.1.length], .cells T2 [.fn g [] []], .cells 67 [.ptr 0 0]] ++ s.2.2 ++ [.row (I64) s.2.1]) (fun s => 2 * 17 - s.2.1.length) (fun s => s.2.1.length ≤ 16 ∧ n ≤ s.1 ∧ s.1 ≤ b.length ∧ X = tailP s.2.1 (s.1 - n) (listP p (16 - s.2.1.length) (b.drop s.1))) (n, [], []) ⟨Nat.zero_le _, Nat.le_refl _, hn, ?_⟩ rfl ?_ ?_
 · rw [Nat.sub_self, tailP_id]; exact hx.symm
 · with_reducible refine sxE ?_; trivial
 rintro ⟨k, xs, G⟩ ⟨h1, h2, h3, h4⟩
 dsimp only at h1 h2 h3 h4
 have hleft := left_c b k h3
 refine goaE mixed ?_
 refine callI_eff [0] hleft rfl (by decide) ⟨rfl, rfl, trivial⟩ rfl rfl ?_
 simp only [afterO, Out.ren, SV.ren, mgA, sig, SObj.ren, SV.renL, List.cons_append, List.nil_append, List.append_assoc, List.set_cons_zero, List.set_cons_succ, List.set, List.map, List.append_nil]
 refine goaE mixed ?_
 refine ⟨fun hp0 => callI_require (fun hmo => ?_) (fun hmo => ?_), fun hp0 => ?_⟩
 · have hlt : xs.length < 16 := by have := of_decide_eq_true hmo; omega
   have hkl : k < b.length := by omega
   refine run_sound mixed 1 _ ?_
   with_reducible refine sxaE ?_
   refine si_drw [1, 2, 3] mixed ?_
   refine goaE mixed ?_
   cases hpk : p (b.drop k) with
   | error e =>
    have hg' := eff_er (hg k h3) hpk
    have hX := h4.trans (listP_bad hkl (by omega) hpk)
    rw [hX]
    refine callR_eff [0] hg' rfl (by decide) ⟨rfl, rfl, trivial⟩ rfl rfl ?_ ?_
    · simp (maxSteps := 3000000) only [mgA, sig, sameG_cons, sameG_nil, List.append_assoc, getA, getA0, setA, setA0, List.length_append, Nat.add_assoc, go_sem, ↓zA, ↓reduceIte, ↓reduceDIte, reduceCtorEq, Nat.reduceAdd, Nat.reduceSub, Nat.reduceLeDiff, Nat.reduceLT, Nat.reduceEqDiff, Nat.reduceBEq, Nat.reduceMul, Int.reduceToNat, Int.reduceEq, Int.reduceLT, Int.reduceLE] <;> try simp only [zB]
    · simp only [afterR, Out.ren, SV.ren, mgA, sig, SObj.ren, SV.renL, List.cons_append, List.nil_append, List.append_assoc, List.set_cons_zero, List.set_cons_succ, List.set, List.map, List.append_nil, effO, effH]
      with_reducible refine sxaE ?_; trivial
   | ok y =>
    obtain ⟨v, m⟩ := y
    have hg' := eff_ok (hg k h3) hpk
    have hfit := hp _ _ _ hpk
    rw [List.length_drop] at hfit
    have hX := h4.trans (listP_step hkl (by omega) hpk)
    refine callR_eff [0] hg' rfl (by decide) ⟨rfl, rfl, trivial⟩ rfl rfl ?_ ?_
    · simp (maxSteps := 3000000) only [mgA, sig, sameG_cons, sameG_nil, List.append_assoc, getA, getA0, setA, setA0, List.length_append, Nat.add_assoc, go_sem, ↓zA, ↓reduceIte, ↓reduceDIte, reduceCtorEq, Nat.reduceAdd, Nat.reduceSub, Nat.reduceLeDiff, Nat.reduceLT, Nat.reduceEqDiff, Nat.reduceBEq, Nat.reduceMul, Int.reduceToNat, Int.reduceEq, Int.reduceLT, Int.reduceLE] <;> try simp only [zB]
    · simp only [afterR, Out.ren, SV.ren, mgA, sig, SObj.ren, SV.renL, List.cons_append, List.nil_append, List.append_assoc, List.set_cons_zero, List.set_cons_succ, List.set, List.map, List.append_nil]
      refine goaE mixed ?_
      have hob := hok _ _ _ hpk
      skip
      refine ⟨⟨by omega, by omega⟩, (k + m, xs ++ [v], G ++ [.dead, .row (I64) [v]]), ⟨by simp; omega, by dsimp only; omega, by dsimp only; omega, ?_⟩, by simp; omega, ?_, ?_⟩
      · dsimp only
        rw [hX, List.length_append, List.length_singleton, Nat.sub_sub]
        congr 1
        omega
      · simp
      · with_reducible refine sxaE ?_; trivial
 · have hlt : ¬ xs.length < 16 := by have := of_decide_eq_false hmo; omega
   have hm0 : 16 - xs.length = 0 := by omega
   rw [hm0] at h4
   have hX := h4.trans (listP_full (by omega))
   rw [hX]
   simp (maxSteps := 3000000) only [effO, effH, List.append_assoc, getA, getA0, setA, setA0, List.length_append, Nat.add_assoc, go_sem, ↓zA, ↓reduceIte, ↓reduceDIte, reduceCtorEq, Nat.reduceAdd, Nat.reduceSub, Nat.reduceLeDiff, Nat.reduceLT, Nat.reduceEqDiff, Nat.reduceBEq, Nat.reduceMul, Int.reduceToNat, Int.reduceEq, Int.reduceLT, Int.reduceLE] <;> try simp only [zB]
 · have hX := h4.trans (listP_end (by omega))
   rw [hX]
   simp (maxSteps := 3000000) only [effO, effH, List.append_assoc, getA, getA0, setA, setA0, List.length_append, Nat.add_assoc, go_sem, ↓zA, ↓reduceIte, ↓reduceDIte, reduceCtorEq, Nat.reduceAdd, Nat.reduceSub, Nat.reduceLeDiff, Nat.reduceLT, Nat.reduceEqDiff, Nat.reduceBEq, Nat.reduceMul, Int.reduceToNat, Int.reduceEq, Int.reduceLT, Int.reduceLE] <;> try simp only [zB]
   rw [if_neg (by omega)]
   with_reducible refine sxE ?_
   refine ⟨congrArg (Value.int .i64) (by omega), ⟨Nat.le_refl _, by omega⟩, List.take_of_length_le (Nat.le_refl _)⟩
theorem values_int (g : Nat) (p : PR (I64).den) (hp : FitsP p) (b : List UInt8) (n : Nat) (hn : n ≤ b.length) (hb : b.length ≤ 1099511627776)
 (hok : ∀ c v q, c.length ≤ 1099511627776 → p c = .ok (v, q) → (I64).ok v)
 (hg : ∀ (c : List UInt8) m, m ≤ c.length → c.length ≤ 1099511627776 → Eff Tryz.prog g [.agg [.ptr 0 0]] c m [] (fun x => rI x) (fun _ => []) (p (c.drop m))) :
 Eff Tryz.prog 104 [.agg [.ptr 0 0], .fn g [] []] b n [] (fun l => .isl (I64) l) (fun _ => []) (inP 48 (listP p 16) (b.drop n)) := by
 have h1 := fun T T2 => values1_int g p hp (takeC (b.drop n)) 0 (Nat.zero_le _) (tkC_le hb) T T2 (fun m v q h => hok _ v q (by have := tkC_le (n := n) hb; rw [List.length_drop]; omega) h) (fun m hm => hg _ m hm (tkC_le hb))
 simp only [List.drop_zero] at h1
 have hs := fun T T2 => sequence2 149 b n hn hb T T2 [.raw (.slice none 0 0)] [.fn g [] []] (cln_raw cln_nil) (cln_fn cln_nil) (listP p 16) (listP_fits hp 16) (fun l => [.isl (I64) l]) (fun _ => [.fn g [] []]) (fun _ => cln_isl cln_nil) (fun _ => cln_fn cln_nil) (h1 T T2)
 cases hx : inP 48 (listP p 16) (b.drop n) with
 | error e =>
  have hm' := fun T T2 => eff_er (hs T T2) hx
  refine pe_seal (by simp) ?_
  refine runE mixed fi104 ?_
  refine effP [0, 3, 2] (hm' _ _) ?_; trivial
 | ok x =>
  obtain ⟨v, k⟩ := x
  have hm' := fun T T2 => eff_ok (hs T T2) hx
  refine pe_seal (by simp) ?_
  refine runE mixed fi104 ?_
  refine effE mixed [0, 3, 2] (hm' _ _) ?_; trivial
end Go.Proofs.YtoeieekegmmdkaaGreatDoor

/- Contracts: reading lists that may be absent. -/
namespace Go.Proofs.YtoeieekegmmdkaaGreatDoor
open Go Go.Sx Go.Proofs
set_option maxRecDepth 100000
set_option maxHeartbeats 4000000
set_option linter.unusedSimpArgs false

end Go.Proofs.YtoeieekegmmdkaaGreatDoor

/- Contracts: reading a key set. -/
namespace Go.Proofs.YtoeieekegmmdkaaGreatDoor
open Go Go.Sx Go.Proofs
set_option maxRecDepth 100000
set_option maxHeartbeats 4000000
set_option linter.unusedSimpArgs false

theorem bind_xe {α β : Type} {p : PR α} {f : α → PR β} {b : List UInt8} {n N : Nat} {X : Except Nat (β × Nat)} {e : Nat} (hX : X = shiftP N (bindP p f (b.drop n))) (h : p (b.drop n) = .error e) : X = .error e := by
 rw [hX, bindP_er h]; rfl
theorem bind_xo {α β : Type} {p : PR α} {f : α → PR β} {b : List UInt8} {n N : Nat} {X : Except Nat (β × Nat)} {v : α} {k : Nat} (hX : X = shiftP N (bindP p f (b.drop n))) (h : p (b.drop n) = .ok (v, k)) : X = shiftP (N + k) (f v (b.drop (n + k))) := by
 rw [hX, bindP_st h]
 cases f v (b.drop (n + k)) with
 | error e => rfl
 | ok y => obtain ⟨u, m⟩ := y; simp only [shiftP, Nat.add_assoc]
theorem bind_x0 {α : Type} {p : PR α} {b : List UInt8} {n : Nat} : p (b.drop n) = shiftP 0 (p (b.drop n)) := by
 cases p (b.drop n) with
 | error e => rfl
 | ok y => obtain ⟨u, m⟩ := y; simp only [shiftP, Nat.zero_add]
end Go.Proofs.YtoeieekegmmdkaaGreatDoor

