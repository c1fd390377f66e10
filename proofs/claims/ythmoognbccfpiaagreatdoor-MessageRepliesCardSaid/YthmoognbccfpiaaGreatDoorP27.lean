/- Contracts: reading a ticket, as a whole. -/
import Derived.Test.YthmoognbccfpiaaGreatDoorP26
import Derived.Test.YthmoognbccfpiaaGreatDoorP17
import Derived.Test.YthmoognbccfpiaaGreatDoorP25
import Derived.Test.YthmoognbccfpiaaGreatDoorP23
import Derived.Test.YthmoognbccfpiaaGreatDoorP21
import Derived.Test.YthmoognbccfpiaaGreatDoorP22
import Derived.Test.YthmoognbccfpiaaGreatDoorP18
set_option linter.unusedSimpArgs false
set_option linter.unusedVariables false
set_option linter.unusedSectionVars false
namespace Go.Proofs.YthmoognbccfpiaaGreatDoor
open Go Go.Sx Go.Proofs
set_option maxRecDepth 100000
set_option maxHeartbeats 4000000
set_option linter.unusedSimpArgs false

theorem tapp_ok (b : List UInt8) (n : Nat) (hn : n ≤ b.length) (hb : b.length ≤ 1099511627776) (h1 : takeE (appB 1) (b.drop n) = 0) (h2 : takeE 48 (takeC (b.drop n)) = 0) (h3 : takeN (takeC (b.drop n)) = (takeC (b.drop n)).length) :
 PE Tryz.prog 217 [.agg [.ptr 0 0], rI 1] [rdr b n] (.ret (.agg [.ptr 5 0])) [rdr b (n + takeN (b.drop n)), .dead, .dead, .dead, .dead, rdr (takeC (takeC (b.drop n))) 0] := by
 have hs := rapp_ok 1 (by omega) b n hn hb h1
 have hc := tkC_le (n := n) hb
 generalize takeC (b.drop n) = c at *
 generalize takeN (b.drop n) = N at *
 have hq := rseq_ok c 0 (Nat.zero_le _) hc (by rw [List.drop_zero]; exact h2)
 rw [List.drop_zero, Nat.zero_add, h3] at hq
 refine pe_seal (by simp) ?_
 refine runE mixed fi217 ?_
 refine effE mixed [0] (hs) ?_
 refine effE mixed [3] (tmust_rdr c 0) ?_
 refine effE mixed [3] (hq) ?_
 refine effE mixed [5] (tmust_rdr (takeC c) 0) ?_
 refine effE mixed [3] (tend_t c c.length rfl) ?_; trivial
theorem tapp_er (b : List UInt8) (n : Nat) (hn : n ≤ b.length) (hb : b.length ≤ 1099511627776) (h : ¬ (takeE (appB 1) (b.drop n) = 0 ∧ takeE 48 (takeC (b.drop n)) = 0 ∧ takeN (takeC (b.drop n)) = (takeC (b.drop n)).length)) :
 ∃ e m : Nat, PE Tryz.prog 217 [.agg [.ptr 0 0], rI 1] [rdr b n] (.pan (errV e)) [rdr b m] := by
 by_cases h1 : takeE (appB 1) (b.drop n) = 0
 · have hs := rapp_ok 1 (by omega) b n hn hb h1
   have hc := tkC_le (n := n) hb
   generalize takeC (b.drop n) = c at *
   generalize takeN (b.drop n) = N at *
   by_cases h2 : takeE 48 c = 0
   · have hq := rseq_ok c 0 (Nat.zero_le _) hc (by rw [List.drop_zero]; exact h2)
     have hN := takeN_le h2
     have hlt : takeN c < c.length := by
      rcases Nat.lt_or_ge (takeN c) c.length with g | g
      · exact g
      · exact absurd ⟨h1, h2, by omega⟩ h
     rw [List.drop_zero, Nat.zero_add] at hq
     refine ⟨6, n + N, pe_seal (by simp) ?_⟩
     refine runE mixed fi217 ?_
     refine effE mixed [0] (hs) ?_
     refine effE mixed [3] (tmust_rdr c 0) ?_
     refine effE mixed [3] (hq) ?_
     refine effE mixed [5] (tmust_rdr (takeC c) 0) ?_
     refine effP [3] (tend_f c (takeN c) hlt) ?_
     rfl
   · have hq := rseq_er c 0 (Nat.zero_le _) hc (by rw [List.drop_zero]; exact h2)
     rw [List.drop_zero] at hq
     refine ⟨takeE 48 c, n + N, pe_seal (by simp) ?_⟩
     generalize takeE 48 c = e at *
     refine runE mixed fi217 ?_
     refine effE mixed [0] (hs) ?_
     refine effE mixed [3] (tmust_rdr c 0) ?_
     refine effE mixed [3] (hq) ?_
     refine effP [] (tmust_er_rdr e h2) ?_; trivial
 · have hs := rapp_er 1 (by omega) b n hn hb h1
   refine ⟨takeE (appB 1) (b.drop n), n, pe_seal (by simp) ?_⟩
   generalize takeE (appB 1) (b.drop n) = e at *
   refine runE mixed fi217 ?_
   refine effE mixed [0] (hs) ?_
   refine effP [] (tmust_er_rdr e h1) ?_; trivial
theorem need_cst {v : Int} {i : Nat} {r : List UInt8} : needP i (cstP v) r = match needP i intP r with
 | .ok (w, k) => if w = v then .ok ((), k) else .error 6
 | .error e => .error e := by
 cases h : nextB i r with
 | false => rw [needP_no h, needP_no h]
 | true =>
  rw [needP_in h, needP_in h]
  by_cases h1 : takeE (tagB i) r = 0
  · rw [inP_t h1, inP_t h1]
    unfold cstP
    cases hx : intP (takeC r) with
    | error e => rfl
    | ok y =>
     obtain ⟨w, k⟩ := y
     simp only
     by_cases hw : w = v
     · rw [if_pos hw]
       simp only [closeP]
       by_cases hm : k < (takeC r).length
       · rw [if_pos hm, if_pos hm]
       · rw [if_neg hm, if_neg hm]; simp only; rw [if_pos hw]
     · rw [if_neg hw]
       simp only [closeP]
       by_cases hm : k < (takeC r).length
       · rw [if_pos hm]
       · rw [if_neg hm]; simp only; rw [if_neg hw]
  · rw [inP_f h1, inP_f h1]
def EffV (f : FuncId) (args : List SV) (b : List UInt8) (n : Nat) : Except Nat (Tick × Nat) → Prop
 | .ok (t, k) => PE Tryz.prog f args [rdr b n] (.ret (.agg (TickT.cells t))) [rdr b (n + k)]
 | .error _ => ∃ e m : Nat, PE Tryz.prog f args [rdr b n] (.pan (errV e)) [rdr b m]
theorem tick_no {r : List UInt8} (h : ¬ (takeE (appB 1) r = 0 ∧ takeE 48 (takeC r) = 0 ∧ takeN (takeC r) = (takeC r).length)) : ∃ e, tickP r = .error e := by
 unfold tickP
 by_cases h1 : takeE (appB 1) r = 0
 · rw [inP_t h1]
   by_cases h2 : takeE 48 (takeC r) = 0
   · rw [inP_t h2]
     have hN := takeN_le h2
     have hlt : takeN (takeC r) < (takeC r).length := by
      rcases Nat.lt_or_ge (takeN (takeC r)) (takeC r).length with g | g
      · exact g
      · exact absurd ⟨h1, h2, by omega⟩ h
     cases tickIn (takeC (takeC r)) with
     | error e => exact ⟨e, rfl⟩
     | ok y =>
      obtain ⟨v, k⟩ := y
      simp only [closeP]
      by_cases hm : k < (takeC (takeC r)).length
      · rw [if_pos hm]; exact ⟨6, rfl⟩
      · rw [if_neg hm]; simp only; rw [if_pos hlt]; exact ⟨6, rfl⟩
   · rw [inP_f h2]; exact ⟨_, rfl⟩
 · rw [inP_f h1]; exact ⟨_, rfl⟩
theorem tick_in {r : List UInt8} (h1 : takeE (appB 1) r = 0) (h2 : takeE 48 (takeC r) = 0) (h3 : takeN (takeC r) = (takeC r).length) : tickP r = chkP vTick (closeP (takeC (takeC r)).length (takeN r) (tickIn (takeC (takeC r)))) := by
 unfold tickP
 rw [inP_t h1, inP_t h2]
 cases tickIn (takeC (takeC r)) with
 | error e => rfl
 | ok y =>
  obtain ⟨v, k⟩ := y
  simp only [closeP]
  by_cases hm : k < (takeC (takeC r)).length
  · rw [if_pos hm, if_pos hm]
  · rw [if_neg hm, if_neg hm]; simp only; rw [if_neg (by omega)]
theorem rdTick_c (b : List UInt8) (n : Nat) (hn : n ≤ b.length) (hb : b.length ≤ 1099511627776) : EffV 162 [.agg [.ptr 0 0]] b n (tickP (b.drop n)) := by
 by_cases h : takeE (appB 1) (b.drop n) = 0 ∧ takeE 48 (takeC (b.drop n)) = 0 ∧ takeN (takeC (b.drop n)) = (takeC (b.drop n)).length
 rotate_left
 · obtain ⟨e, he⟩ := tick_no h
   rw [he]
   obtain ⟨e', m, hs⟩ := tapp_er b n hn hb h
   refine ⟨e', m, pe_seal (by simp) ?_⟩
   refine runE mixed fi162 ?_
   refine effP [0] (hs) ?_; trivial
 obtain ⟨h1, h2, h3⟩ := h
 have hs := tapp_ok b n hn hb h1 h2 h3
 rw [tick_in h1 h2 h3]
 have hc : (takeC (takeC (b.drop n))).length ≤ 1099511627776 := Nat.le_trans (takeC_len _) (tkC_le hb)
 clear h1 h2 h3
 generalize takeC (takeC (b.drop n)) = c at *
 generalize takeN (b.drop n) = N at *
 have c1 := tfield_int 153 0 (by omega) c 0 (Nat.zero_le _) hc intP rdP_fits errP_rd (drint_c (takeC (c.drop 0)) 0 (Nat.zero_le _) (tkC_le hc))
 rw [List.drop_zero] at c1
 unfold tickIn
 cases h1 : needP 0 intP c with
 | error e =>
  have hx : needP 0 (cstP 5) c = .error e := by rw [need_cst, h1]
  rw [bindP_er hx]
  simp only [closeP, chkP]
  obtain ⟨e', c1'⟩ := effY_er c1 h1
  refine ⟨e', n + N, pe_seal (by simp) ?_⟩
  refine runE mixed fi162 ?_
  refine callI_eff [0] (hs) rfl (by decide) (by repeat first | exact trivial | exact rfl | refine And.intro ?_ ?_) rfl rfl ?_
  simp only [afterO, Out.ren, SV.ren, mgA, sig, SObj.ren, SV.renL, List.set, List.map, List.append_nil]
  refine run_sound mixed 4 _ ?_
  with_reducible refine sxE ?_
  refine si_drwP [8] mixed ?_
  refine goE mixed ?_
  refine callR_eff [7] (c1') rfl (by decide) ⟨rfl, rfl, trivial⟩ rfl rfl ?_ ?_
  · simp (maxSteps := 3000000) only [mgA, sig, sameG_cons, sameG_nil, go_sem, ↓zA, ↓reduceIte, ↓reduceDIte, reduceCtorEq, Nat.reduceAdd, Nat.reduceSub, Nat.reduceLeDiff, Nat.reduceLT, Nat.reduceEqDiff, Nat.reduceBEq, Nat.reduceMul, Int.reduceToNat, Int.reduceEq, Int.reduceLT, Int.reduceLE] <;> try simp only [zB]
  simp only [afterR, Out.ren, SV.ren, mgA, sig, SObj.ren, SV.renL, List.cons_append, List.nil_append, List.append_assoc, List.set_cons_zero, List.set_cons_succ, List.set, List.map, List.append_nil]
  refine cutQ_p ?_
  with_reducible refine sxE ?_; trivial
 | ok x =>
  obtain ⟨v1, k1⟩ := x
  have c1' := effY_ok c1 h1
  have f1 : k1 ≤ c.length := needP_fits _ _ _ h1
  rw [Nat.zero_add] at c1'
  by_cases hv : v1 = 5
  rotate_left
  · have hx : needP 0 (cstP 5) c = .error 6 := by rw [need_cst, h1]; simp only; rw [if_neg hv]
    rw [bindP_er hx]
    simp only [closeP, chkP]
    refine ⟨6, n + N, pe_seal (by simp) ?_⟩
    refine runE mixed fi162 ?_
    refine callI_eff [0] (hs) rfl (by decide) (by repeat first | exact trivial | exact rfl | refine And.intro ?_ ?_) rfl rfl ?_
    simp only [afterO, Out.ren, SV.ren, mgA, sig, SObj.ren, SV.renL, List.set, List.map, List.append_nil]
    refine run_sound mixed 4 _ ?_
    with_reducible refine sxE ?_
    refine si_drwP [8] mixed ?_
    refine goE mixed ?_
    refine callR_eff [7] (c1') rfl (by decide) ⟨rfl, rfl, trivial⟩ rfl rfl ?_ ?_
    · simp (maxSteps := 3000000) only [mgA, sig, sameG_cons, sameG_nil, go_sem, ↓zA, ↓reduceIte, ↓reduceDIte, reduceCtorEq, Nat.reduceAdd, Nat.reduceSub, Nat.reduceLeDiff, Nat.reduceLT, Nat.reduceEqDiff, Nat.reduceBEq, Nat.reduceMul, Int.reduceToNat, Int.reduceEq, Int.reduceLT, Int.reduceLE] <;> try simp only [zB]
    simp only [afterR, Out.ren, SV.ren, mgA, sig, SObj.ren, SV.renL, List.cons_append, List.nil_append, List.append_assoc, List.set_cons_zero, List.set_cons_succ, List.set, List.map, List.append_nil]
    refine goE mixed ?_
    rw [decide_eq_false hv]
    refine callR_eff [7] (tcheck_f c k1) rfl (by decide) ⟨rfl, rfl, trivial⟩ rfl rfl ?_ ?_
    · simp (maxSteps := 3000000) only [mgA, sig, sameG_cons, sameG_nil, go_sem, ↓zA, ↓reduceIte, ↓reduceDIte, reduceCtorEq, Nat.reduceAdd, Nat.reduceSub, Nat.reduceLeDiff, Nat.reduceLT, Nat.reduceEqDiff, Nat.reduceBEq, Nat.reduceMul, Int.reduceToNat, Int.reduceEq, Int.reduceLT, Int.reduceLE] <;> try simp only [zB]
    simp only [afterR, Out.ren, SV.ren, mgA, sig, SObj.ren, SV.renL, List.cons_append, List.nil_append, List.append_assoc, List.set_cons_zero, List.set_cons_succ, List.set, List.map, List.append_nil]
    refine cutQ_p ?_
    with_reducible refine sxE ?_
    rfl
  have hx : needP 0 (cstP 5) c = .ok ((), k1) := by rw [need_cst, h1]; simp only; rw [if_pos hv]
  rw [bindP_s0 hx]
  have c2 := tfield_prin 160 1 (by omega) c k1 f1 hc nameP nameP_fits nameP_ne (read_c (takeC (c.drop k1)) 0 (Nat.zero_le _) (tkC_le hc))
  cases h2 : needP 1 nameP (c.drop k1) with
  | error e =>
   rw [bindP_er h2]
   simp only [shiftP, closeP, chkP]
   obtain ⟨e', c2'⟩ := effY_er c2 h2
   refine ⟨e', n + N, pe_seal (by simp) ?_⟩
   refine runE mixed fi162 ?_
   refine callI_eff [0] (hs) rfl (by decide) (by repeat first | exact trivial | exact rfl | refine And.intro ?_ ?_) rfl rfl ?_
   simp only [afterO, Out.ren, SV.ren, mgA, sig, SObj.ren, SV.renL, List.set, List.map, List.append_nil]
   refine run_sound mixed 4 _ ?_
   with_reducible refine sxE ?_
   refine si_drwP [8] mixed ?_
   refine goE mixed ?_
   refine callR_eff [7] (c1') rfl (by decide) ⟨rfl, rfl, trivial⟩ rfl rfl ?_ ?_
   · simp (maxSteps := 3000000) only [mgA, sig, sameG_cons, sameG_nil, go_sem, ↓zA, ↓reduceIte, ↓reduceDIte, reduceCtorEq, Nat.reduceAdd, Nat.reduceSub, Nat.reduceLeDiff, Nat.reduceLT, Nat.reduceEqDiff, Nat.reduceBEq, Nat.reduceMul, Int.reduceToNat, Int.reduceEq, Int.reduceLT, Int.reduceLE] <;> try simp only [zB]
   simp only [afterR, Out.ren, SV.ren, mgA, sig, SObj.ren, SV.renL, List.cons_append, List.nil_append, List.append_assoc, List.set_cons_zero, List.set_cons_succ, List.set, List.map, List.append_nil]
   refine goE mixed ?_
   rw [decide_eq_true hv]
   refine callR_eff [7] (tcheck_t c k1) rfl (by decide) ⟨rfl, rfl, trivial⟩ rfl rfl ?_ ?_
   · simp (maxSteps := 3000000) only [mgA, sig, sameG_cons, sameG_nil, go_sem, ↓zA, ↓reduceIte, ↓reduceDIte, reduceCtorEq, Nat.reduceAdd, Nat.reduceSub, Nat.reduceLeDiff, Nat.reduceLT, Nat.reduceEqDiff, Nat.reduceBEq, Nat.reduceMul, Int.reduceToNat, Int.reduceEq, Int.reduceLT, Int.reduceLE] <;> try simp only [zB]
   simp only [afterR, Out.ren, SV.ren, mgA, sig, SObj.ren, SV.renL, List.cons_append, List.nil_append, List.append_assoc, List.set_cons_zero, List.set_cons_succ, List.set, List.map, List.append_nil]
   refine goE mixed ?_
   refine cutQ_n ?_
   refine goE mixed ?_
   refine effP [7] (c2') ?_; trivial
  | ok y =>
   obtain ⟨v2, k2⟩ := y
   rw [bindP_st h2]
   have c2' := effY_ok c2 h2
   have f2 := fits_at needP_fits f1 h2
   have c3 := tfield_seal 94 2 (by omega) c (k1 + k2) f2 hc keyP inP_fits keyP_ne (drseal_c (takeC (c.drop (k1 + k2))) 0 (Nat.zero_le _) (tkC_le hc))
   cases h3 : needP 2 keyP (c.drop (k1 + k2)) with
   | error e =>
    rw [bindP_er h3]
    simp only [shiftP, closeP, chkP]
    obtain ⟨e', c3'⟩ := effY_er c3 h3
    refine ⟨e', n + N, pe_seal (by simp) ?_⟩
    refine runE mixed fi162 ?_
    refine callI_eff [0] (hs) rfl (by decide) (by repeat first | exact trivial | exact rfl | refine And.intro ?_ ?_) rfl rfl ?_
    simp only [afterO, Out.ren, SV.ren, mgA, sig, SObj.ren, SV.renL, List.set, List.map, List.append_nil]
    refine run_sound mixed 4 _ ?_
    with_reducible refine sxE ?_
    refine si_drwP [8] mixed ?_
    refine goE mixed ?_
    refine callR_eff [7] (c1') rfl (by decide) ⟨rfl, rfl, trivial⟩ rfl rfl ?_ ?_
    · simp (maxSteps := 3000000) only [mgA, sig, sameG_cons, sameG_nil, go_sem, ↓zA, ↓reduceIte, ↓reduceDIte, reduceCtorEq, Nat.reduceAdd, Nat.reduceSub, Nat.reduceLeDiff, Nat.reduceLT, Nat.reduceEqDiff, Nat.reduceBEq, Nat.reduceMul, Int.reduceToNat, Int.reduceEq, Int.reduceLT, Int.reduceLE] <;> try simp only [zB]
    simp only [afterR, Out.ren, SV.ren, mgA, sig, SObj.ren, SV.renL, List.cons_append, List.nil_append, List.append_assoc, List.set_cons_zero, List.set_cons_succ, List.set, List.map, List.append_nil]
    refine goE mixed ?_
    rw [decide_eq_true hv]
    refine callR_eff [7] (tcheck_t c k1) rfl (by decide) ⟨rfl, rfl, trivial⟩ rfl rfl ?_ ?_
    · simp (maxSteps := 3000000) only [mgA, sig, sameG_cons, sameG_nil, go_sem, ↓zA, ↓reduceIte, ↓reduceDIte, reduceCtorEq, Nat.reduceAdd, Nat.reduceSub, Nat.reduceLeDiff, Nat.reduceLT, Nat.reduceEqDiff, Nat.reduceBEq, Nat.reduceMul, Int.reduceToNat, Int.reduceEq, Int.reduceLT, Int.reduceLE] <;> try simp only [zB]
    simp only [afterR, Out.ren, SV.ren, mgA, sig, SObj.ren, SV.renL, List.cons_append, List.nil_append, List.append_assoc, List.set_cons_zero, List.set_cons_succ, List.set, List.map, List.append_nil]
    refine goE mixed ?_
    refine cutQ_n ?_
    refine goE mixed ?_
    refine effE mixed [7] (c2') ?_
    refine effP [7] (c3') ?_; trivial
   | ok z =>
    obtain ⟨v3, k3⟩ := z
    rw [bindP_st h3]
    have c3' := effY_ok c3 h3
    have f3 := fits_at needP_fits f2 h3
    simp only [shiftP, retP, closeP]
    by_cases hm : k1 + k2 + k3 < c.length
    · rw [if_pos (by omega)]
      simp only [chkP]
      refine ⟨6, n + N, pe_seal (by simp) ?_⟩
      refine runE mixed fi162 ?_
      refine callI_eff [0] (hs) rfl (by decide) (by repeat first | exact trivial | exact rfl | refine And.intro ?_ ?_) rfl rfl ?_
      simp only [afterO, Out.ren, SV.ren, mgA, sig, SObj.ren, SV.renL, List.set, List.map, List.append_nil]
      refine run_sound mixed 4 _ ?_
      with_reducible refine sxE ?_
      refine si_drwP [8] mixed ?_
      refine goE mixed ?_
      refine callR_eff [7] (c1') rfl (by decide) ⟨rfl, rfl, trivial⟩ rfl rfl ?_ ?_
      · simp (maxSteps := 3000000) only [mgA, sig, sameG_cons, sameG_nil, go_sem, ↓zA, ↓reduceIte, ↓reduceDIte, reduceCtorEq, Nat.reduceAdd, Nat.reduceSub, Nat.reduceLeDiff, Nat.reduceLT, Nat.reduceEqDiff, Nat.reduceBEq, Nat.reduceMul, Int.reduceToNat, Int.reduceEq, Int.reduceLT, Int.reduceLE] <;> try simp only [zB]
      simp only [afterR, Out.ren, SV.ren, mgA, sig, SObj.ren, SV.renL, List.cons_append, List.nil_append, List.append_assoc, List.set_cons_zero, List.set_cons_succ, List.set, List.map, List.append_nil]
      refine goE mixed ?_
      rw [decide_eq_true hv]
      refine callR_eff [7] (tcheck_t c k1) rfl (by decide) ⟨rfl, rfl, trivial⟩ rfl rfl ?_ ?_
      · simp (maxSteps := 3000000) only [mgA, sig, sameG_cons, sameG_nil, go_sem, ↓zA, ↓reduceIte, ↓reduceDIte, reduceCtorEq, Nat.reduceAdd, Nat.reduceSub, Nat.reduceLeDiff, Nat.reduceLT, Nat.reduceEqDiff, Nat.reduceBEq, Nat.reduceMul, Int.reduceToNat, Int.reduceEq, Int.reduceLT, Int.reduceLE] <;> try simp only [zB]
      simp only [afterR, Out.ren, SV.ren, mgA, sig, SObj.ren, SV.renL, List.cons_append, List.nil_append, List.append_assoc, List.set_cons_zero, List.set_cons_succ, List.set, List.map, List.append_nil]
      refine goE mixed ?_
      refine cutQ_n ?_
      refine goE mixed ?_
      refine effE mixed [7] (c2') ?_
      refine effE mixed [7] (c3') ?_
      refine effP [7] (tend_f c (k1 + k2 + k3) hm) ?_
      rfl
    · rw [if_neg (by omega)]
      replace hm : k1 + k2 + k3 = c.length := by omega
      have hV := tvalid_c (v2, v3) ⟨okP_need okP_name (c.drop k1) v2 k2 (by rw [List.length_drop]; omega) h2, okP_need okP_key (c.drop (k1 + k2)) v3 k3 (by rw [List.length_drop]; omega) h3⟩
      simp only [chkP]
      cases hv5 : vTick (v2, v3) with
      | false =>
       rw [if_neg (by decide)]
       refine ⟨6, n + N, pe_seal (by simp) ?_⟩
       refine runE mixed fi162 ?_
       refine callI_eff [0] (hs) rfl (by decide) (by repeat first | exact trivial | exact rfl | refine And.intro ?_ ?_) rfl rfl ?_
       simp only [afterO, Out.ren, SV.ren, mgA, sig, SObj.ren, SV.renL, List.set, List.map, List.append_nil]
       refine run_sound mixed 4 _ ?_
       with_reducible refine sxE ?_
       refine si_drwP [8] mixed ?_
       refine goE mixed ?_
       refine callR_eff [7] (c1') rfl (by decide) ⟨rfl, rfl, trivial⟩ rfl rfl ?_ ?_
       · simp (maxSteps := 3000000) only [mgA, sig, sameG_cons, sameG_nil, go_sem, ↓zA, ↓reduceIte, ↓reduceDIte, reduceCtorEq, Nat.reduceAdd, Nat.reduceSub, Nat.reduceLeDiff, Nat.reduceLT, Nat.reduceEqDiff, Nat.reduceBEq, Nat.reduceMul, Int.reduceToNat, Int.reduceEq, Int.reduceLT, Int.reduceLE] <;> try simp only [zB]
       simp only [afterR, Out.ren, SV.ren, mgA, sig, SObj.ren, SV.renL, List.cons_append, List.nil_append, List.append_assoc, List.set_cons_zero, List.set_cons_succ, List.set, List.map, List.append_nil]
       refine goE mixed ?_
       rw [decide_eq_true hv]
       refine callR_eff [7] (tcheck_t c k1) rfl (by decide) ⟨rfl, rfl, trivial⟩ rfl rfl ?_ ?_
       · simp (maxSteps := 3000000) only [mgA, sig, sameG_cons, sameG_nil, go_sem, ↓zA, ↓reduceIte, ↓reduceDIte, reduceCtorEq, Nat.reduceAdd, Nat.reduceSub, Nat.reduceLeDiff, Nat.reduceLT, Nat.reduceEqDiff, Nat.reduceBEq, Nat.reduceMul, Int.reduceToNat, Int.reduceEq, Int.reduceLT, Int.reduceLE] <;> try simp only [zB]
       simp only [afterR, Out.ren, SV.ren, mgA, sig, SObj.ren, SV.renL, List.cons_append, List.nil_append, List.append_assoc, List.set_cons_zero, List.set_cons_succ, List.set, List.map, List.append_nil]
       refine goE mixed ?_
       refine cutQ_n ?_
       refine goE mixed ?_
       refine effE mixed [7] (c2') ?_
       refine effE mixed [7] (c3') ?_
       refine callI_eff [7] (tend_t c (k1 + k2 + k3) hm) rfl (by decide) (by repeat first | exact trivial | exact rfl | refine And.intro ?_ ?_) rfl rfl ?_
       simp only [afterO, Out.ren, SV.ren, mgA, sig, SObj.ren, SV.renL, List.set, List.map, List.append_nil]
       refine run_sound mixed 2 _ ?_
       with_reducible refine sxE ?_
       refine si_drwP [8, 9] mixed ?_
       refine goE mixed ?_
       refine callR_pure hV ?_
       refine goE mixed ?_
       rw [hv5]
       refine callR_eff [7] (tcheck_f c (k1 + k2 + k3)) rfl (by decide) ⟨rfl, rfl, trivial⟩ rfl rfl ?_ ?_
       · simp (maxSteps := 3000000) only [mgA, sig, sameG_cons, sameG_nil, go_sem, ↓zA, ↓reduceIte, ↓reduceDIte, reduceCtorEq, Nat.reduceAdd, Nat.reduceSub, Nat.reduceLeDiff, Nat.reduceLT, Nat.reduceEqDiff, Nat.reduceBEq, Nat.reduceMul, Int.reduceToNat, Int.reduceEq, Int.reduceLT, Int.reduceLE] <;> try simp only [zB]
       simp only [afterR, Out.ren, SV.ren, mgA, sig, SObj.ren, SV.renL, List.cons_append, List.nil_append, List.append_assoc, List.set_cons_zero, List.set_cons_succ, List.set, List.map, List.append_nil]
       refine cutQ_p ?_
       with_reducible refine sxE ?_
       rfl
      | true =>
       rw [if_pos rfl]
       refine pe_seal (by simp) ?_
       refine runE mixed fi162 ?_
       refine callI_eff [0] (hs) rfl (by decide) (by repeat first | exact trivial | exact rfl | refine And.intro ?_ ?_) rfl rfl ?_
       simp only [afterO, Out.ren, SV.ren, mgA, sig, SObj.ren, SV.renL, List.set, List.map, List.append_nil]
       refine run_sound mixed 4 _ ?_
       with_reducible refine sxE ?_
       refine si_drwP [8] mixed ?_
       refine goE mixed ?_
       refine callR_eff [7] (c1') rfl (by decide) ⟨rfl, rfl, trivial⟩ rfl rfl ?_ ?_
       · simp (maxSteps := 3000000) only [mgA, sig, sameG_cons, sameG_nil, go_sem, ↓zA, ↓reduceIte, ↓reduceDIte, reduceCtorEq, Nat.reduceAdd, Nat.reduceSub, Nat.reduceLeDiff, Nat.reduceLT, Nat.reduceEqDiff, Nat.reduceBEq, Nat.reduceMul, Int.reduceToNat, Int.reduceEq, Int.reduceLT, Int.reduceLE] <;> try simp only [zB]
       simp only [afterR, Out.ren, SV.ren, mgA, sig, SObj.ren, SV.renL, List.cons_append, List.nil_append, List.append_assoc, List.set_cons_zero, List.set_cons_succ, List.set, List.map, List.append_nil]
       refine goE mixed ?_
       rw [decide_eq_true hv]
       refine callR_eff [7] (tcheck_t c k1) rfl (by decide) ⟨rfl, rfl, trivial⟩ rfl rfl ?_ ?_
       · simp (maxSteps := 3000000) only [mgA, sig, sameG_cons, sameG_nil, go_sem, ↓zA, ↓reduceIte, ↓reduceDIte, reduceCtorEq, Nat.reduceAdd, Nat.reduceSub, Nat.reduceLeDiff, Nat.reduceLT, Nat.reduceEqDiff, Nat.reduceBEq, Nat.reduceMul, Int.reduceToNat, Int.reduceEq, Int.reduceLT, Int.reduceLE] <;> try simp only [zB]
       simp only [afterR, Out.ren, SV.ren, mgA, sig, SObj.ren, SV.renL, List.cons_append, List.nil_append, List.append_assoc, List.set_cons_zero, List.set_cons_succ, List.set, List.map, List.append_nil]
       refine goE mixed ?_
       refine cutQ_n ?_
       refine goE mixed ?_
       refine effE mixed [7] (c2') ?_
       refine effE mixed [7] (c3') ?_
       refine callI_eff [7] (tend_t c (k1 + k2 + k3) hm) rfl (by decide) (by repeat first | exact trivial | exact rfl | refine And.intro ?_ ?_) rfl rfl ?_
       simp only [afterO, Out.ren, SV.ren, mgA, sig, SObj.ren, SV.renL, List.set, List.map, List.append_nil]
       refine run_sound mixed 2 _ ?_
       with_reducible refine sxE ?_
       refine si_drwP [8, 9] mixed ?_
       refine goE mixed ?_
       refine callR_pure hV ?_
       refine goE mixed ?_
       rw [hv5]
       refine callR_eff [7] (tcheck_t c (k1 + k2 + k3)) rfl (by decide) ⟨rfl, rfl, trivial⟩ rfl rfl ?_ ?_
       · simp (maxSteps := 3000000) only [mgA, sig, sameG_cons, sameG_nil, go_sem, ↓zA, ↓reduceIte, ↓reduceDIte, reduceCtorEq, Nat.reduceAdd, Nat.reduceSub, Nat.reduceLeDiff, Nat.reduceLT, Nat.reduceEqDiff, Nat.reduceBEq, Nat.reduceMul, Int.reduceToNat, Int.reduceEq, Int.reduceLT, Int.reduceLE] <;> try simp only [zB]
       simp only [afterR, Out.ren, SV.ren, mgA, sig, SObj.ren, SV.renL, List.cons_append, List.nil_append, List.append_assoc, List.set_cons_zero, List.set_cons_succ, List.set, List.map, List.append_nil]
       refine goE mixed ?_
       refine cutQ_n ?_
       refine goE mixed ?_; trivial
abbrev zTick : SV := .agg [.isl .str [], rS ⟨#[]⟩, rI 0, rI 0, .isl .u8 []]
def EffT (f : FuncId) (args : List SV) (b : List UInt8) (n : Nat) : Except Nat (Tick × Nat) → Prop
 | .ok (t, k) => PE Tryz.prog f args [rdr b n] (.ret (.tup [.agg (TickT.cells t), rI 0])) [rdr b (n + k)]
 | .error _ => PE Tryz.prog f args [rdr b n] (.ret (.tup [zTick, rI 6])) [rdr b n]
theorem dpanT_c (b : List UInt8) (n m e : Nat) (T2 T3 T4 T5 : TypeId) (y : Value) (K : List SObj → Prop)
 (h : ∀ G, K ([rdr b n, .cells T2 [.ptr 0 0], .cells T3 [.raw (.slice none 0 0), rS ⟨#[]⟩, rI 0, rI 0, .raw (.slice none 0 0)], .cells T4 [rI 6], rdr b n, .cells T5 [.ptr 4 0]] ++ G)) :
 DCall Tryz.prog 216 [.ptr 5 0, .ptr 1 0, .ptr 2 0, .ptr 3 0] (some (errV e)) [rdr b m, .cells T2 [.ptr 0 0], .cells T3 [.raw (.slice none 0 0), rS ⟨#[]⟩, rI 0, rI 0, .raw (.slice none 0 0)], .cells T4 [.raw y], rdr b n, .cells T5 [.ptr 4 0]] K := by
 refine recE mixed fi216 ?_
 exact h _
theorem dretT_c (H : List SObj) (K : List SObj → Prop) (h : ∀ G, K (H ++ G)) : DCall Tryz.prog 216 [.ptr 5 0, .ptr 1 0, .ptr 2 0, .ptr 3 0] none H K := by
 refine recE mixed fi216 ?_
 simpa using h []
theorem tread_c (b : List UInt8) (n : Nat) (hn : n ≤ b.length) (hb : b.length ≤ 1099511627776) : EffT 161 [.ptr 0 0, .fn 162 [] []] b n (tickP (b.drop n)) := by
 have hk := rdTick_c b n hn hb
 generalize tickP (b.drop n) = X at *
 cases X with
 | error e =>
  obtain ⟨e', m, hk'⟩ := hk
  refine pe_seal (by simp) ?_
  refine defE mixed fi161 ?_
  refine effE mixed [0] (rcopy_c b n) ?_
  refine goE mixed ?_
  refine effP [0] (hk') ?_
  refine ⟨by simp, dpanT_c b n m e' _ _ _ _ _ _ fun G => ?_⟩
  with_reducible refine sxE ?_; trivial
 | ok x =>
  obtain ⟨t, k⟩ := x
  have hk' : PE Tryz.prog 162 [.agg [.ptr 0 0]] [rdr b n] (.ret (.agg (TickT.cells t))) [rdr b (n + k)] := hk
  refine pe_seal (by simp) ?_
  refine defE mixed fi161 ?_
  refine effE mixed [0] (rcopy_c b n) ?_
  refine goE mixed ?_
  refine effE mixed [0] (hk') ?_
  refine dretT_c _ _ fun G => ?_
  with_reducible refine sxE ?_; trivial
theorem tRead_c (b : List UInt8) (n : Nat) (hn : n ≤ b.length) (hb : b.length ≤ 1099511627776) : EffT 91 [.ptr 0 0] b n (tickP (b.drop n)) := by
 have hk := tread_c b n hn hb
 generalize tickP (b.drop n) = X at *
 cases X with
 | error e =>
  have hk' : PE Tryz.prog 161 [.ptr 0 0, .fn 162 [] []] [rdr b n] (.ret (.tup [zTick, rI 6])) [rdr b n] := hk
  refine pe_seal (by simp) ?_
  refine runE mixed fi91 ?_
  refine effE mixed [0] (hk') ?_; trivial
 | ok x =>
  obtain ⟨t, k⟩ := x
  have hk' : PE Tryz.prog 161 [.ptr 0 0, .fn 162 [] []] [rdr b n] (.ret (.tup [.agg (TickT.cells t), rI 0])) [rdr b (n + k)] := hk
  refine pe_seal (by simp) ?_
  refine runE mixed fi91 ?_
  refine effE mixed [0] (hk') ?_; trivial
end Go.Proofs.YthmoognbccfpiaaGreatDoor

/- Contracts: messages: reading a reply. -/
namespace Go.Proofs.YthmoognbccfpiaaGreatDoor
open Go Go.Sx Go.Proofs
set_option maxRecDepth 100000
set_option maxHeartbeats 4000000
set_option linter.unusedSimpArgs false

theorem take_tick (v : Tick) : PC Tryz.prog 90 [.agg (TickT.cells v), rI 0] (.agg (TickT.cells v)) := by
 refine pc_seal rfl rfl ?_
 refine runE mixed fi90 ?_
 refine callI_require (fun _ => ?_) fun h => absurd h (by decide)
 refine goE mixed ?_; trivial
theorem take_er_tick (e : Nat) (he : e ≠ 0) : PE Tryz.prog 90 [zTick, rI e] [] (.pan wrongV) [] := by
 refine pe_seal (by simp) ?_
 refine runE mixed fi90 ?_
 refine callI_require (fun h => absurd h (by simp; omega)) fun _ => ?_
 with_reducible refine sxE ?_; trivial
theorem take_seal (v : Key) : PC Tryz.prog 93 [.agg (KeyT.cells v), rI 0] (.agg (KeyT.cells v)) := by
 refine pc_seal rfl rfl ?_
 refine runE mixed fi93 ?_
 refine callI_require (fun _ => ?_) fun h => absurd h (by decide)
 refine goE mixed ?_; trivial
theorem take_er_seal (e : Nat) (he : e ≠ 0) : PE Tryz.prog 93 [zKey, rI e] [] (.pan wrongV) [] := by
 refine pe_seal (by simp) ?_
 refine runE mixed fi93 ?_
 refine callI_require (fun h => absurd h (by simp; omega)) fun _ => ?_
 with_reducible refine sxE ?_; trivial
theorem chkP_ok {α : Type} {q : α → Bool} {x : Except Nat (α × Nat)} {v : α} {m : Nat} (h : chkP q x = .ok (v, m)) : x = .ok (v, m) ∧ q v = true := by
 cases x with
 | error e => cases h
 | ok y =>
  obtain ⟨u, k⟩ := y
  simp only [chkP] at h
  split at h
  · cases h; exact ⟨rfl, by assumption⟩
  · cases h
theorem tickP_fits : FitsP tickP := fun r v m h => inP_fits r v m (chkP_ok (q := vTick) (x := inP (appB 1) (inP 48 tickIn) r) h).1
theorem okP_tick : OkP tickP TickT.ok := fun r v m hr h =>
 (okP_in (okP_in (okP_bind (Q1 := fun _ => True) okP_true fun _ _ => okP_bind (okP_need okP_name) fun _ h1 => okP_bind (okP_need okP_key) fun _ h2 => okP_ret (Q := TickT.ok) ⟨h1, h2⟩)) : OkP (inP (appB 1) (inP 48 tickIn)) TickT.ok) r v m hr (chkP_ok (q := vTick) (x := inP (appB 1) (inP 48 tickIn) r) h).1
@[go_sem] abbrev rpO (cs : List SV) : SObj := .cells 33 cs
theorem rp11_c (k : Int) (l : List Pre) (p : Prin) (b : List UInt8) (n : Nat) (hn : n ≤ b.length) (hb : b.length ≤ 1099511627776) :
 Eff Tryz.prog 89 [.agg [.ptr 0 0], .ptr 1 0] b n [rpO [rI k, .isl PreT l, .isl .str p.1, rS p.2, .raw (.slice none 0 0), rS ⟨#[]⟩, rI 0, rI 0, .raw (.slice none 0 0), rI 0, rI 0, .raw (.slice none 0 0)]] (fun _ => .tup []) (fun t : Tick => [rpO [rI k, .isl PreT l, .isl .str p.1, rS p.2, .isl .str t.1.1, rS t.1.2, rI t.2.1, rI t.2.2.1, .isl .u8 t.2.2.2, rI 0, rI 0, .raw (.slice none 0 0)]]) (tickP (b.drop n)) := by
 have hr := tRead_c b n hn hb
 cases hx : tickP (b.drop n) with
 | error e =>
  rw [hx] at hr
  have hr' : PE Tryz.prog 91 [.ptr 0 0] [rdr b n] (.ret (.tup [zTick, rI 6])) [rdr b n] := hr
  refine pe_seal (by simp) ?_
  refine runE mixed fi89 ?_
  refine effE mixed [0] (hr') ?_
  refine effP [] (take_er_tick 6 (by decide)) ?_; trivial
 | ok x =>
  obtain ⟨t, k⟩ := x
  rw [hx] at hr
  have hr' : PE Tryz.prog 91 [.ptr 0 0] [rdr b n] (.ret (.tup [.agg (TickT.cells t), rI 0])) [rdr b (n + k)] := hr
  refine pe_seal (by simp) ?_
  refine runE mixed fi89 ?_
  refine effE mixed [0] (hr') ?_
  refine callI_pure (take_tick _) ?_
  refine goE mixed ?_; trivial
theorem rp12_c (k : Int) (l : List Pre) (p : Prin) (t : Tick) (b : List UInt8) (n : Nat) (hn : n ≤ b.length) (hb : b.length ≤ 1099511627776) :
 Eff Tryz.prog 92 [.agg [.ptr 0 0], .ptr 1 0] b n [rpO [rI k, .isl PreT l, .isl .str p.1, rS p.2, .isl .str t.1.1, rS t.1.2, rI t.2.1, rI t.2.2.1, .isl .u8 t.2.2.2, rI 0, rI 0, .raw (.slice none 0 0)]] (fun _ => .tup []) (fun s : Key => [rpO [rI k, .isl PreT l, .isl .str p.1, rS p.2, .isl .str t.1.1, rS t.1.2, rI t.2.1, rI t.2.2.1, .isl .u8 t.2.2.2, rI s.1, rI s.2.1, .isl .u8 s.2.2]]) (keyP (b.drop n)) := by
 have hr := drseal_c b n hn hb
 cases hx : keyP (b.drop n) with
 | error e =>
  have hr' := effR_er hr hx
  refine pe_seal (by simp) ?_
  refine runE mixed fi92 ?_
  refine effE mixed [0] (hr') ?_
  refine effP [] (take_er_seal e (keyP_ne _ _ hx)) ?_; trivial
 | ok x =>
  obtain ⟨v, k⟩ := x
  have hr' := effR_ok hr hx
  refine pe_seal (by simp) ?_
  refine runE mixed fi92 ?_
  refine effE mixed [0] (hr') ?_
  refine callI_pure (take_seal _) ?_
  refine goE mixed ?_; trivial
theorem rpIn_fits (k : Int) : FitsP (rpIn k) := bindP_fits needP_fits fun _ => bindP_fits needP_fits fun _ => bindP_fits dfltP_fits fun _ => bindP_fits needP_fits fun _ => bindP_fits needP_fits fun _ => bindP_fits needP_fits fun _ => retP_fits
@[go_sem] abbrev rp0 (k : Int) : List SV := [rI k, .raw (.slice none 0 0), .raw (.slice none 0 0), rS ⟨#[]⟩, .raw (.slice none 0 0), rS ⟨#[]⟩, rI 0, rI 0, .raw (.slice none 0 0), rI 0, rI 0, .raw (.slice none 0 0)]
theorem cln_rp0 (k : Int) : Cln (rp0 k) := cln_raw (cln_raw (cln_raw (cln_raw (cln_raw (cln_raw (cln_raw (cln_raw (cln_raw (cln_raw (cln_raw (cln_raw cln_nil)))))))))))
theorem cln_rp1 (k : Int) (l : List Pre) (p : Prin) : Cln [rI k, .isl PreT l, .isl .str p.1, rS p.2, .raw (.slice none 0 0), rS ⟨#[]⟩, rI 0, rI 0, .raw (.slice none 0 0), rI 0, rI 0, .raw (.slice none 0 0)] := cln_raw (cln_isl (cln_isl (cln_raw (cln_raw (cln_raw (cln_raw (cln_raw (cln_raw (cln_raw (cln_raw (cln_raw cln_nil)))))))))))
theorem cln_rp2 (k : Int) (l : List Pre) (p : Prin) (t : Tick) : Cln [rI k, .isl PreT l, .isl .str p.1, rS p.2, .isl .str t.1.1, rS t.1.2, rI t.2.1, rI t.2.2.1, .isl .u8 t.2.2.2, rI 0, rI 0, .raw (.slice none 0 0)] := cln_raw (cln_isl (cln_isl (cln_raw (cln_isl (cln_raw (cln_raw (cln_raw (cln_isl (cln_raw (cln_raw (cln_raw cln_nil)))))))))))
theorem cln_rp3 (k : Int) (l : List Pre) (p : Prin) (t : Tick) (s : Key) : Cln [rI k, .isl PreT l, .isl .str p.1, rS p.2, .isl .str t.1.1, rS t.1.2, rI t.2.1, rI t.2.2.1, .isl .u8 t.2.2.2, rI s.1, rI s.2.1, .isl .u8 s.2.2] := cln_raw (cln_isl (cln_isl (cln_raw (cln_isl (cln_raw (cln_raw (cln_raw (cln_isl (cln_raw (cln_raw (cln_isl cln_nil)))))))))))
theorem rp1_c (k : Int) (hk : 0 ≤ k ∧ k ≤ 29) (b : List UInt8) (n : Nat) (hn : n ≤ b.length) (hb : b.length ≤ 1099511627776) :
 Eff Tryz.prog 84 [.agg [.ptr 0 0], .iptr I64 k 0, .ptr 1 0] b n [rpO (rp0 k)] (fun _ => .tup []) (fun r => [rpO (RplT.cells r)]) (rpIn k (b.drop n)) := by
 have hw : IntKind.i64.wrap (k + 1) = kp k := wrapi (by omega)
 refine eff_of (fun _ => Nat.le_refl _) ?_
 obtain ⟨X, hX0⟩ : ∃ X, X = rpIn k (b.drop n) := ⟨_, rfl⟩
 rw [← hX0]
 have hX := hX0.trans bind_x0
 clear hX0
 unfold rpIn at hX
 refine runE mixed fi84 ?_
 have c1 := mcst_c 0 (by omega) 5 b (n) hn hb
 rcases h1 : needP 0 (cstP 5) (b.drop (n)) with e | ⟨v1, k1⟩
 · have c1' := eff_er c1 h1
   obtain rfl := bind_xe hX h1
   refine effP [0] (c1') ?_; trivial
 replace hX := bind_xo hX h1
 have c1' := eff_ok c1 h1
 have f1 := fits_at needP_fits hn h1
 refine callI_eff [0] (c1') rfl (by decide) (by repeat first | exact trivial | exact rfl | refine And.intro ?_ ?_) rfl rfl ?_
 simp only [afterO, Out.ren, SV.ren, mgA, sig, SObj.ren, SV.renL, List.set, List.map, List.append_nil, hw]
 refine run_sound mixed 600 _ ?_
 with_reducible refine sx1 hw ?_
 have c2 := mcst_c 1 (by omega) (kp k) b (n + k1) f1 hb
 rcases h2 : needP 1 (cstP (kp k)) (b.drop (n + k1)) with e | ⟨v2, k2⟩
 · have c2' := eff_er c2 h2
   obtain rfl := bind_xe hX h2
   refine effP [0] (c2') ?_; trivial
 replace hX := bind_xo hX h2
 have c2' := eff_ok c2 h2
 have f2 := fits_at needP_fits f1 h2
 refine effE mixed [0] (c2') ?_
 have c3 := mpre_c 2 (by omega) b (n + k1 + k2) f2 hb
 rcases h3 : dfltP [] 2 dataP (b.drop (n + k1 + k2)) with e | ⟨v3, k3⟩
 · have c3' := eff_er c3 h3
   obtain rfl := bind_xe hX h3
   refine effP [0] (c3') ?_; trivial
 replace hX := bind_xo hX h3
 have c3' := eff_ok c3 h3
 have f3 := fits_at dfltP_fits f2 h3
 refine effE mixed [0] (c3') ?_
 have c4 := mrprin_c 3 (by omega) b (n + k1 + k2 + k3) f3 hb
 rcases h4 : needP 3 nameP (b.drop (n + k1 + k2 + k3)) with e | ⟨v4, k4⟩
 · have c4' := eff_er c4 h4
   obtain rfl := bind_xe hX h4
   refine effP [0] (c4') ?_; trivial
 replace hX := bind_xo hX h4
 have c4' := eff_ok c4 h4
 have f4 := fits_at needP_fits f3 h4
 refine effE mixed [0] (c4') ?_
 have c5 := need1 89 4 (by omega) b (n + k1 + k2 + k3 + k4) f4 hb 33 _ (cln_rp1 k v3 v4) tickP tickP_fits _ (fun t => cln_rp2 k v3 v4 t) (by have h := rp11_c k v3 v4 (takeC (b.drop (n + k1 + k2 + k3 + k4))) 0 (Nat.zero_le _) (tkC_le hb); rwa [List.drop_zero] at h)
 rcases h5 : needP 4 tickP (b.drop (n + k1 + k2 + k3 + k4)) with e | ⟨v5, k5⟩
 · have c5' := eff_er c5 h5
   obtain rfl := bind_xe hX h5
   refine effP [0, 1] (c5') ?_; trivial
 replace hX := bind_xo hX h5
 have c5' := eff_ok c5 h5
 have f5 := fits_at needP_fits f4 h5
 refine effE mixed [0, 1] (c5') ?_
 have c6 := need1 92 5 (by omega) b (n + k1 + k2 + k3 + k4 + k5) f5 hb 33 _ (cln_rp2 k v3 v4 v5) keyP inP_fits _ (fun s => cln_rp3 k v3 v4 v5 s) (by have h := rp12_c k v3 v4 v5 (takeC (b.drop (n + k1 + k2 + k3 + k4 + k5))) 0 (Nat.zero_le _) (tkC_le hb); rwa [List.drop_zero] at h)
 rcases h6 : needP 5 keyP (b.drop (n + k1 + k2 + k3 + k4 + k5)) with e | ⟨v6, k6⟩
 · have c6' := eff_er c6 h6
   obtain rfl := bind_xe hX h6
   refine effP [0, 1] (c6') ?_; trivial
 replace hX := bind_xo hX h6
 have c6' := eff_ok c6 h6
 have f6 := fits_at needP_fits f5 h6
 refine effE mixed [0, 1] (c6') ?_
 subst hX
 simp only [shiftP, retP]
 with_reducible refine sxE ?_
 exact congrArg (Value.int .i64) (by omega)
theorem readRpl_c (k : Nat) (hk : k ≤ 29) (b : List UInt8) (n : Nat) (hn : n ≤ b.length) (hb : b.length ≤ 1099511627776) :
 Eff Tryz.prog 36 [.agg [.ptr 0 0], rI (k : Nat)] b n [] (fun r => .agg (RplT.cells r)) (fun _ => []) (rpP k (b.drop n)) := by
 have h1 := rp1_c (k : Nat) (by omega) (takeC (takeC (b.drop n))) 0 (Nat.zero_le _) (Nat.le_trans (takeC_len _) (tkC_le hb))
 rw [List.drop_zero] at h1
 have hm := applicationk 84 (k + 1) (by omega) b n hn hb (k : Nat) 33 _ (cln_rp0 (k : Nat)) (rpIn (k : Nat)) (rpIn_fits (k : Nat)) (fun r => RplT.cells r) (fun r => cln_ty RplT r) h1
 change Eff _ _ _ _ _ _ _ _ (rpP k (b.drop n)) at hm
 have hw : IntKind.i64.wrap (((k : Nat) : Int) + 1) = ((k + 1 : Nat) : Int) := by rw [wrapi (by omega)]; omega
 cases hx : rpP k (b.drop n) with
 | error e =>
  have hm' := eff_er hm hx
  refine pe_seal (by simp) ?_
  refine vc_fi fi36 (run_sound mixed 4 _ ?_)
  with_reducible refine sxE ?_
  refine si_frzc 3 2 (ty := I64) (x := ((k : Nat) : Int)) rfl trivial rfl rfl ?_
  refine run_sound mixed 600 _ ?_
  with_reducible refine sx1 hw ?_
  refine effP [0, 4] (hm') ?_; trivial
 | ok x =>
  obtain ⟨v, q⟩ := x
  have hm' := eff_ok hm hx
  refine pe_seal (by simp) ?_
  refine vc_fi fi36 (run_sound mixed 4 _ ?_)
  with_reducible refine sxE ?_
  refine si_frzc 3 2 (ty := I64) (x := ((k : Nat) : Int)) rfl trivial rfl rfl ?_
  refine run_sound mixed 600 _ ?_
  with_reducible refine sx1 hw ?_
  refine effE mixed [0, 4] (hm') ?_; trivial
theorem readRpl1_c (k : Nat) (hk : k ≤ 29) (b : List UInt8) (n : Nat) (hn : n ≤ b.length) (hb : b.length ≤ 1099511627776) :
 Eff Tryz.prog 35 [.agg [.ptr 0 0], .iptr I64 (k : Nat) 0] b n [] (fun r => .agg (RplT.cells r)) (fun _ => []) (rpP k (b.drop n)) := by
 have hm := readRpl_c k hk b n hn hb
 cases hx : rpP k (b.drop n) with
 | error e =>
  have hm' := eff_er hm hx
  refine pe_seal (by simp) ?_
  refine runE mixed fi35 ?_
  refine effP [0] (hm') ?_; trivial
 | ok x =>
  obtain ⟨v, q⟩ := x
  have hm' := eff_ok hm hx
  refine pe_seal (by simp) ?_
  refine runE mixed fi35 ?_
  refine effE mixed [0] (hm') ?_; trivial
theorem okP_rpl (k : Nat) : OkP (rpP k) RplT.ok :=
 okP_in (okP_in (okP_bind (Q1 := fun _ => True) okP_true fun _ _ => okP_bind (Q1 := fun _ => True) okP_true fun _ _ => okP_bind (okP_dflt nil_ok okP_data) fun _ h2 => okP_bind (okP_need okP_name) fun _ h3 => okP_bind (okP_need okP_tick) fun _ h4 => okP_bind (okP_need okP_key) fun _ h5 => okP_ret ⟨trivial, h2, h3, h4, h5⟩))
theorem dpanP_c (o : SObj) (T : TypeId) (x : Value) (R : List SObj) (K : List SObj → Prop) (h : ∀ G, K (o :: .cells T [rI 6] :: (R ++ G))) : DCall Tryz.prog 95 [.ptr 1 0] (some wrongV) (o :: .cells T [.raw x] :: R) K := by
 refine recE mixed fi95 ?_
 exact h _
theorem dretP_c (o o' : SObj) (R : List SObj) (K : List SObj → Prop) (h : ∀ G, K (o :: o' :: (R ++ G))) : DCall Tryz.prog 95 [.ptr 1 0] none (o :: o' :: R) K := by
 refine recE mixed fi95 ?_
 exact h _
theorem decodeP_c (k : Nat) (hk : k ≤ 29) (b : List UInt8) (hb : b.length ≤ 1099511627776) : PC Tryz.prog 37 [.isl .u8 b, .fn 35 [] [.iptr I64 (k : Nat) 0], .fn 31 [] [], .fn 33 [] []] (.tup [.agg (RplT.cells ((decRp k b).getD RplT.dflt)), rI (if (decRp k b).isSome then 0 else 6)]) := by
 have hnew := new_c b (by omega)
 have hread := readRpl1_c k hk b 0 (Nat.zero_le _) hb
 have hok : ∀ e m, rpP k b = .ok (e, m) → RplT.ok e := fun e m h => okP_rpl k b e m hb h
 rw [List.drop_zero] at hread
 refine pc_seal rfl rfl ?_
 refine defE mixed fi37 ?_
 refine goE mixed ?_
 refine effE mixed [] (hnew) ?_
 cases hx : rpP k b with
 | error e =>
  have hd : decRp k b = none := by unfold decRp allP; rw [hx]
  have hr := eff_er hread hx
  rw [hd]
  refine effP [2] (hr) ?_
  refine ⟨by simp, dpanP_c _ _ _ _ _ fun G => ?_⟩
  with_reducible refine sxE ?_
  exact ⟨⟨rfl, rfl, rfl, rfl, rfl, rfl, rfl, rfl, rfl, rfl, rfl, rfl⟩, rfl⟩
 | ok x =>
  obtain ⟨e, m⟩ := x
  have hr := eff_ok hread hx
  have heo := hok e m hx
  rw [Nat.zero_add] at hr
  refine effE mixed [2] (hr) ?_
  have hfit : m ≤ b.length := inP_fits _ _ _ hx
  by_cases hm : m < b.length
  · have hd : decRp k b = none := by unfold decRp allP; rw [hx]; simp [hm]
    rw [hd]
    refine effP [2] (done_f b m hm) ?_
    refine ⟨by simp, dpanP_c _ _ _ _ _ fun G => ?_⟩
    with_reducible refine sxE ?_
    exact ⟨⟨rfl, rfl, rfl, rfl, rfl, rfl, rfl, rfl, rfl, rfl, rfl, rfl⟩, rfl⟩
  · refine effE mixed [2] (done_t b m (by omega)) ?_
    refine callI_pure (srpl_c e heo) ?_
    cases hv : sRpl e with
    | false =>
     have hd : decRp k b = none := by unfold decRp allP; rw [hx]; simp [hm, hv]
     rw [hd]
     refine goE mixed ?_
     refine callI_require (fun h => absurd h (by decide)) fun _ => ?_
     with_reducible refine sxE ?_
     refine ⟨by simp, dpanP_c _ _ _ _ _ fun G => ?_⟩
     with_reducible refine sxE ?_
     exact ⟨⟨rfl, rfl, rfl, rfl, rfl, rfl, rfl, rfl, rfl, rfl, rfl, rfl⟩, rfl⟩
    | true =>
     refine goE mixed ?_
     refine callI_pure (wrpl_c e heo (sRpl_k hv).1 (sRpl_k hv).2) ?_
     refine goE mixed ?_
     refine callI_pure (equal_d _ _) ?_
     by_cases he : rplS e = b
     · have hd : decRp k b = some e := by unfold decRp allP; rw [hx]; simp [hm, hv, he]
       rw [hd, decide_eq_true he]
       refine goE mixed ?_
       refine callI_pure require_t ?_
       refine goE mixed ?_
       refine dretP_c _ _ _ _ fun G => ?_
       with_reducible refine sxE ?_
       exact ⟨⟨rfl, rfl, rfl, rfl, rfl, rfl, rfl, rfl, rfl, rfl, rfl, rfl⟩, rfl⟩
     · have hd : decRp k b = none := by unfold decRp allP; rw [hx]; simp [hm, hv, he]
       rw [hd, decide_eq_false he]
       refine goE mixed ?_
       refine callI_require (fun h => absurd h (by decide)) fun _ => ?_
       with_reducible refine sxE ?_
       refine ⟨by simp, dpanP_c _ _ _ _ _ fun G => ?_⟩
       with_reducible refine sxE ?_
       exact ⟨⟨rfl, rfl, rfl, rfl, rfl, rfl, rfl, rfl, rfl, rfl, rfl, rfl⟩, rfl⟩
theorem decReply_c (b : List UInt8) (hb : b.length ≤ 1099511627776) : PC Tryz.prog 8 [.isl .u8 b] (.tup [.agg (RplT.cells ((decRpl b).getD RplT.dflt)), rI (if (decRpl b).isSome then 0 else 6)]) := by
 have hko := kindOf_c b 1 (by omega)
 unfold decRpl
 cases hK : kindB b 1 with
 | false =>
  rw [hK] at hko
  rw [if_neg (by decide)]
  refine pc_seal rfl rfl ?_
  refine runE mixed fi8 ?_
  refine callI_pure hko ?_
  refine goE mixed ?_
  exact ⟨⟨rfl, rfl, rfl, rfl, rfl, rfl, rfl, rfl, rfl, rfl, rfl, rfl⟩, rfl⟩
 | true =>
  rw [hK] at hko
  rw [if_pos rfl]
  have hV : vKind (kindV b 1) = true := by
   unfold kindB at hK
   simp only [Bool.and_eq_true] at hK
   exact hK.2.2
  obtain ⟨k, hk, hk2⟩ := vKind_n hV
  rw [hk] at hko
  rw [hk, Int.toNat_natCast]
  have hd := decodeP_c k (by omega) b hb
  generalize (decRp k b).getD RplT.dflt = q at *
  generalize (decRp k b).isSome = g at *
  refine pc_seal rfl rfl ?_
  refine runE mixed fi8 ?_
  refine callI_pure hko ?_
  refine run_sound mixed 6 _ ?_
  with_reducible refine sxE ?_
  refine si_frzc 4 1 (ty := I64) (x := ((k : Nat) : Int)) rfl trivial rfl rfl ?_
  refine goE mixed ?_
  refine callI_pure hd ?_
  refine goE mixed ?_; trivial
end Go.Proofs.YthmoognbccfpiaaGreatDoor

/- Contracts: the encoding of a request, as a row of its own. -/
namespace Go.Proofs.YthmoognbccfpiaaGreatDoor
open Go Go.Sx Go.Proofs
set_option maxRecDepth 100000
set_option maxHeartbeats 4000000
set_option linter.unusedSimpArgs false

theorem element_o (tag : UInt8) (parts : List (List UInt8)) (hp : parts.length ≤ 1125899906842624) : VC Tryz.prog 142 [.raw (.int .u8 tag.toNat), .isl (.slice .u8) parts] [] (RowK .u8 (elemS tag parts)) := by
 refine vc_weak ?_
 refine runE mixed fi142 ?_
 refine si_cntD (fun i => [(5, rI ((flatN parts i).length)), (13, .raw (.int .i64 ((i : Nat) : Int)))]) (parts.length) (fun j => (fitAt parts) j = true) (by first | decide | simp) (fun i => rfl) ?_ fun i hi hall => ?_
 · (with_reducible refine sxE ?_ <;> try exact True.intro)
   all_goals (try rfl)
 have hwr : IntKind.i64.wrap ((i : Int) + 1) = ((i + 1 : Nat) : Int) := wrap_succ (by omega)
 refine goE mixed ?_
 have bad : i < (parts.length) → (fitAt parts) i = false → allN (parts.length) (fitAt parts) = false := fun hlt hv => allN_false hlt hv
 have fin : ¬ i < (parts.length) → allN (parts.length) (fitAt parts) = true := fun h => allN_true fun j hj => hall j (by omega)
 try dsimp only at bad fin hall
 have hn : (flatN parts i).length ≤ 16777215 := by
  cases i with
  | zero => simp [flatN]
  | succ j => have := hall j (by omega); simpa [fitAt] using this
 rw [wrapi (n := 16777215 - ((flatN parts i).length : Int)) (by omega), wrapi (n := ((flatN parts i).length : Int) + 5) (by omega)]
 refine ⟨fun hlt => ⟨⟨by omega, hlt⟩, fun hbig => ?_, fun hfit => ?_⟩, fun hge => ?_⟩
 · have h1 := flatN_le parts (i + 1)
   rw [flatN_succ hlt, List.length_append] at h1
   refine rowK_nil ?_
   unfold elemS
   rw [if_neg (by omega)]
 · have h2 : ((flatN parts i).length : Int) + ((parts.getD i (Ty.slice .u8).dflt).length : Int) = ((flatN parts (i + 1)).length : Int) := by rw [flatN_succ hlt, List.length_append]; rfl
   have h3 : (flatN parts (i + 1)).length ≤ 16777215 := by omega
   refine ⟨hlt, next_all hall (by simpa [fitAt] using h3), ⟨_, rfl⟩, ?_⟩
   rw [h2, wrapi (n := ((flatN parts (i + 1)).length : Int)) (by omega)]
   with_reducible refine sx1 hwr ?_; trivial
 · obtain rfl : i = parts.length := by omega
   rw [flatN_all] at *
   have he : elemS tag parts = tag :: (lenS parts.flatten.length ++ flatN parts parts.length) := by unfold elemS tlv; rw [if_pos hn, flatN_all]
   refine ⟨⟨by omega, by omega, by omega⟩, tag_ob tag, fun h1 => ⟨byte_ob _, ?_⟩, fun h1 => ⟨fun h2 => ⟨?_, ?_⟩, fun h2 => ⟨fun h3 => ⟨?_, ?_⟩, fun h3 => ⟨?_, ?_⟩⟩⟩⟩
   any_goals (repeat' (first | exact byte_ob _ | exact rfl | with_reducible refine And.intro ?_ ?_))
   have hL : lenS parts.flatten.length = [byteOf parts.flatten.length] := by unfold lenS; rw [if_pos (by omega)]
   rotate_left
   have hL : lenS parts.flatten.length = [129, byteOf parts.flatten.length] := by unfold lenS; rw [if_neg (by omega), if_pos (by omega)]
   rotate_left
   have hL : lenS parts.flatten.length = [130, byteOf ((parts.flatten.length : Int).fdiv 256), byteOf parts.flatten.length] := by unfold lenS; rw [if_neg (by omega), if_neg (by omega), if_pos (by omega)]
   rotate_left
   have hL : lenS parts.flatten.length = [131, byteOf ((parts.flatten.length : Int).fdiv 65536), byteOf ((parts.flatten.length : Int).fdiv 256), byteOf parts.flatten.length] := by unfold lenS; rw [if_neg (by omega), if_neg (by omega), if_neg (by omega)]
   rotate_left
   all_goals
    refine si_accB (H := [_, _, _, _]) 8 .u8 (fun i => tag :: (lenS parts.flatten.length ++ flatN parts i)) (fun i => [(44, .any), (52, .any), (60, .any), (71, .any), (74, rI i)]) parts.length (fun _ => True) (by rw [hL]; simp [flatN, byteOf]) (by simp) rfl (fun i => rfl) ?_ fun i hi _ => ?_
    · with_reducible refine sx1 hL ?_
      simp [flatN]
    have hwr : IntKind.i64.wrap ((i : Int) + 1) = ((i + 1 : Nat) : Int) := wrap_succ (by omega)
    have hfl := flatN_le parts i
    have hll : (lenS parts.flatten.length).length ≤ 4 := by rw [hL]; simp
    refine goE mixed ?_
    have e1 : (lenS parts.flatten.length ++ flatN parts i).length = (lenS parts.flatten.length).length + (flatN parts i).length := List.length_append
    refine ⟨fun hlt => ?_, fun hge => ?_⟩
    · have h4 := flatN_le parts (i + 1)
      have h5 := flatN_succ hlt
      rw [h5, List.length_append] at h4
      refine ⟨⟨by omega, hlt⟩, ⟨by omega, by omega⟩, acc_next [.dead] [] hlt trivial (by rw [h5, ← List.append_assoc]; rfl) ?_⟩
      with_reducible refine sx3 hwr h5 ?_
      exact congrArg (SV.bld 5 .u8) (by omega)
    · obtain rfl : i = parts.length := by omega
      rw [he]
      exact rowK_row (h := 4) rfl rfl
theorem element_ko (tag : UInt8) (n : Int) (hn : n = tag.toNat) (parts : List (List UInt8)) (hp : parts.length ≤ 1125899906842624) : VC Tryz.prog 142 [.raw (.int .u8 n), .isl (.slice .u8) parts] [] (RowK .u8 (elemS tag parts)) := by
 subst hn; exact element_o tag parts hp
theorem wrapped_o (tag n : Int) (b : List UInt8) (ht : 0 ≤ tag ∧ tag ≤ 1000) : VC Tryz.prog 141 [rI tag, rI n, .isl .u8 b] [] (RowK .u8 (wrapS tag n b)) := by
 refine vc_weak ?_
 refine runE mixed fi141 ?_
 refine ⟨fun h1 => ⟨fun h2 => ⟨fun h3 => ?_, fun h3 => ?_⟩, fun h2 => ?_⟩, fun h1 => ?_⟩
 · refine rowK_nil ?_
   unfold wrapS; rw [if_neg (fun h => h.2.2 (List.length_eq_zero_iff.1 (by omega)))]
 · refine callI_hand 0 ?_
   with_reducible refine sxE ?_
   have hw : wrapS tag n b = elemS (byteOf (tag + n)) [b] := by
    unfold wrapS
    rw [if_pos ⟨by omega, by omega, fun e => h3 (by rw [e]; rfl)⟩]
   rw [hw]
   refine callI_rowK (element_ko (byteOf (tag + n)) _ ?_ _ (by simp)) rfl rfl (fun h0 => ?_) ?_
   · rw [wrapi (by omega)]; exact (byte_ob _).symm
   · refine goE mixed ?_
     exact rowK_nil h0
   · refine goE mixed ?_
     exact rowK_row (h := 1) rfl rfl
 · refine rowK_nil ?_
   unfold wrapS; rw [if_neg (by omega)]
 · refine rowK_nil ?_
   unfold wrapS; rw [if_neg (by omega)]
theorem dapp_o (n : Int) (b : List UInt8) : VC Tryz.prog 140 [rI n, .isl .u8 b] [] (RowK .u8 (wrapS 96 n b)) := by
 refine vc_weak ?_
 refine runE mixed fi140 ?_
 refine callI_rowK (wrapped_o 96 n b (by omega)) rfl rfl (fun h0 => ?_) ?_
 · refine goE mixed ?_
   exact rowK_nil h0
 · refine goE mixed ?_
   exact rowK_row (h := 0) rfl rfl
theorem mapp_o (n : Int) (l : List (List UInt8)) (hl : l.length ≤ 1125899906842624) : VC Tryz.prog 76 [rI n, .isl (.slice .u8) l] [] (RowK .u8 (wrapS 96 n (elemS 48 l))) := by
 refine vc_weak ?_
 refine runE mixed fi76 ?_
 refine callI_pure (sequence_c l hl) ?_
 refine goE mixed ?_
 refine callI_rowK (dapp_o n _) rfl rfl (fun h0 => ?_) ?_
 · refine goE mixed ?_
   exact rowK_nil h0
 · refine goE mixed ?_
   exact rowK_row (h := 0) rfl rfl
theorem wreq_o {r : Req} {va vt : Bool} {wa wt : List UInt8} (h : ReqC r va vt wa wt) (hs : sReq r va vt = true) : VC Tryz.prog 59 [.agg (ReqT.cells r)] [] (RowK .u8 (reqS r wa wt)) := by
 obtain ⟨hl, hp⟩ := sReq_len hs
 have hb := wbody_c r wa wt h.ok h.opt hp h.wa h.wt
 have ho := h.ok
 have hr : reqS r wa wt = wrapS 96 r.1 (elemS 48 [wrapS 160 1 (intS 5), wrapS 160 2 (intS r.1), preS 3 r.2.1, wrapS 160 4 (bodyS r wa wt)]) := rfl
 rw [hr]
 clear hr hs h hp
 generalize bodyS r wa wt = bd at *
 obtain ⟨k, pre, opt, cl, sv, fr, ti, re, no, pf, ad, tk⟩ := r
 obtain ⟨_, o2, _⟩ := ho
 dsimp only at hl
 refine vc_weak ?_
 refine runE mixed fi59 ?_
 refine callR_pure (integer_c 5) ?_
 refine goE mixed ?_
 refine callR_pure (tagged_c _ _) ?_
 refine goE mixed ?_
 refine callR_pure (integer_c k) ?_
 refine goE mixed ?_
 refine callR_pure (tagged_c _ _) ?_
 refine goE mixed ?_
 refine callR_pure (preAuth_c 3 pre o2 hl) ?_
 refine goE mixed ?_
 refine callR_pure (hb) ?_
 refine goE mixed ?_
 refine callR_pure (tagged_c _ _) ?_
 refine goE mixed ?_
 refine callR_hand 1 (by decide) ?_
 with_reducible refine sxE ?_
 refine callR_rowK (mapp_o k _ (by simp)) rfl rfl ?_ (fun h0 => ?_) ?_
 · simp (maxSteps := 3000000) only [sameG_cons, sameG_nil, go_sem, ↓zA, ↓reduceIte, ↓reduceDIte, reduceCtorEq, Nat.reduceAdd, Nat.reduceSub, Nat.reduceLeDiff, Nat.reduceLT, Nat.reduceEqDiff, Nat.reduceBEq, Nat.reduceMul, Int.reduceToNat, Int.reduceEq, Int.reduceLT, Int.reduceLE] <;> try simp only [zB]
 · refine goE mixed ?_
   exact rowK_nil h0
 · refine goE mixed ?_
   exact rowK_row (h := 2) rfl rfl
theorem encReq_o {r : Req} {va vt : Bool} {wa wt : List UInt8} (hc : ReqC r va vt wa wt) (hv : vReq r va vt wa wt = true) (hne : reqS r wa wt ≠ []) : VC Tryz.prog 20 [.agg (ReqT.cells r)] [] (RowT .u8 (reqS r wa wt) (.int .i64 0)) := by
 have h1 := sreq_c r va vt hc.ok hc.va hc.vt
 have hs : sReq r va vt = true := by simp only [vReq, Bool.and_eq_true] at hv; exact hv.1
 have hle : (reqS r wa wt).length ≤ 65536 := by simp only [vReq, Bool.and_eq_true, decide_eq_true_eq] at hv; exact hv.2
 have h2 := wreq_o hc hs
 rw [hs] at h1
 clear hc hv hs
 generalize reqS r wa wt = w at *
 obtain ⟨k, pre, opt, cl, sv, fr, ti, re, no, pf, ad, tk⟩ := r
 refine vc_weak ?_
 refine runE mixed fi20 ?_
 refine callI_pure h1 ?_
 refine goE mixed ?_
 refine callI_rowK h2 rfl rfl (fun h0 => ?_) ?_
 · exact absurd h0 hne
 · refine goE mixed ?_
   refine callI_inl fi32 ?_
   refine run_sound mixed 600 _ ?_
   simp (maxSteps := 3000000) only [opK, go_sem, ↓zA, ↓reduceIte, ↓reduceDIte, reduceCtorEq, Nat.reduceAdd, Nat.reduceSub, Nat.reduceLeDiff, Nat.reduceLT, Nat.reduceEqDiff, Nat.reduceBEq, Nat.reduceMul, Int.reduceToNat, Int.reduceEq, Int.reduceLT, Int.reduceLE] <;> try simp only [zB]
   refine ⟨fun h => absurd h (by omega), fun _ => ?_⟩
   refine goE mixed ?_
   exact rowT_row (h := 1) rfl rfl
end Go.Proofs.YthmoognbccfpiaaGreatDoor

