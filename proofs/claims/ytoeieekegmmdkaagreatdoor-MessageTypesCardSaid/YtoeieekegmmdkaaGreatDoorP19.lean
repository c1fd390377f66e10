/- Contracts: reading names: the pieces. -/
import Derived.Test.YtoeieekegmmdkaaGreatDoorP18
import Derived.Test.YtoeieekegmmdkaaGreatDoorP14
import Derived.Test.YtoeieekegmmdkaaGreatDoorP16
import Derived.Test.YtoeieekegmmdkaaGreatDoorP15
set_option linter.unusedSimpArgs false
set_option linter.unusedVariables false
set_option linter.unusedSectionVars false
namespace Go.Proofs.YtoeieekegmmdkaaGreatDoor
open Go Go.Sx Go.Proofs
set_option maxRecDepth 100000
set_option maxHeartbeats 4000000
set_option linter.unusedSimpArgs false

def FR (i : Nat) (b : List UInt8) (n : Nat) : Except Nat (List UInt8 × Nat) → Prop
 | .ok (l, k) => PE Tryz.prog 174 [.ptr 0 0, rI i, .fn 97 [] []] [rdr b n] (.ret (.ptr 2 0)) [rdr b (n + k), .dead, rdr l 0]
 | .error e => PE Tryz.prog 174 [.ptr 0 0, rI i, .fn 97 [] []] [rdr b n] (.pan (errV e)) [.dead]
theorem frdr_c (i : Nat) (hi : i ≤ 30) (b : List UInt8) (n : Nat) (hn : n ≤ b.length) (hb : b.length ≤ 1099511627776) : FR i b n (needP i (rdP 48 decOct) (b.drop n)) := by
 cases h : nextB i (b.drop n) with
 | false =>
  rw [needP_no h, List.length_drop]
  have hs := rtag_no i hi b n hn h
  have hl := left_c b n hn
  generalize b.length - n = q at *
  refine pe_seal (by simp) ?_
  refine runE mixed fi174 ?_
  refine effE mixed [0] (hs) ?_
  refine effE mixed [0] (hl) ?_
  by_cases hq : q = 0
  · simp [hq]
  · simp [hq]
 | true =>
  rw [needP_in h]
  by_cases h1 : takeE (tagB i) (b.drop n) = 0
  · rw [inP_t h1]
    have hs := rtag_ok i hi b n hn hb h h1
    have hc := tkC_le (n := n) hb
    generalize takeC (b.drop n) = c at *
    generalize takeN (b.drop n) = N at *
    by_cases h2 : takeE 48 c = 0
    · have hx : rdP 48 decOct c = .ok (takeC c, takeN c) := by unfold rdP; rw [if_pos h2]; rfl
      rw [hx]
      have hr := rseq_ok c 0 (Nat.zero_le _) hc (by rw [List.drop_zero]; exact h2)
      rw [List.drop_zero, Nat.zero_add] at hr
      have hm := takeN_le h2
      generalize takeC c = l at *
      generalize takeN c = m at *
      have hl := left_c c m hm
      simp only [closeP]
      by_cases hml : m < c.length
      · rw [if_pos hml]
        refine pe_seal (by simp) ?_
        refine runE mixed fi174 ?_
        refine effE mixed [0] (hs) ?_
        refine effE mixed [1] (hr) ?_
        refine effE mixed [2] (must_nrdr l 0) ?_
        refine effE mixed [1] (hl) ?_
        exact ⟨fun _ => rfl, fun q => absurd (by omega) q⟩
      · rw [if_neg hml]
        refine pe_seal (by simp) ?_
        refine runE mixed fi174 ?_
        refine effE mixed [0] (hs) ?_
        refine effE mixed [1] (hr) ?_
        refine effE mixed [2] (must_nrdr l 0) ?_
        refine effE mixed [1] (hl) ?_
        exact ⟨fun q => absurd q (by omega), fun _ => trivial⟩
    · have hx : rdP 48 decOct c = .error (takeE 48 c) := by unfold rdP; rw [if_neg h2]
      rw [hx]
      have hr := rseq_er c 0 (Nat.zero_le _) hc (by rw [List.drop_zero]; exact h2)
      rw [List.drop_zero] at hr
      generalize takeE 48 c = e at *
      refine pe_seal (by simp) ?_
      refine runE mixed fi174 ?_
      refine effE mixed [0] (hs) ?_
      refine effE mixed [1] (hr) ?_
      refine effP [] (must_er_nrdr e h2) ?_; trivial
  · rw [inP_f h1]
    have hs := rtag_er i hi b n hn hb h h1
    generalize takeE (tagB i) (b.drop n) = e at *
    refine pe_seal (by simp) ?_
    refine runE mixed fi174 ?_
    refine effE mixed [0] (hs) ?_
    exact ⟨fun _ => trivial, fun q => absurd (by omega) h1⟩
theorem rcopy_c (b : List UInt8) (n : Nat) : PE Tryz.prog 171 [.ptr 0 0] [rdr b n] (.ret (.ptr 1 0)) [rdr b n, rdr b n] := by
 refine pe_seal (by simp) ?_
 refine runE mixed fi171 ?_; trivial
theorem dpanN_c (b : List UInt8) (n m e : Nat) (T2 T3 T4 T5 : TypeId) (x y : SV) (z : Value) (R : List SObj) (K : List SObj → Prop)
 (h : K ([rdr b n, .cells T2 [.ptr 0 0], .cells T3 [.raw (.slice none 0 0), rS ⟨#[]⟩], .cells T4 [rI e], rdr b n, .cells T5 [.ptr 4 0]] ++ R)) :
 DCall Tryz.prog 172 [.ptr 5 0, .ptr 1 0, .ptr 2 0, .ptr 3 0] (some (errV e)) ([rdr b m, .cells T2 [.ptr 0 0], .cells T3 [x, y], .cells T4 [.raw z], rdr b n, .cells T5 [.ptr 4 0]] ++ R) K := by
 refine dc_ri fi172 ?_
 refine run_sound mixed 13 _ ?_
 with_reducible refine sxaE ?_
 refine si_drw [1, 4, 5] mixed ?_
 refine goaE mixed ?_
 exact h
end Go.Proofs.YtoeieekegmmdkaaGreatDoor

/- Contracts: reading names. -/
namespace Go.Proofs.YtoeieekegmmdkaaGreatDoor
open Go Go.Sx Go.Proofs
set_option maxRecDepth 100000
set_option maxHeartbeats 4000000
set_option linter.unusedSimpArgs false

abbrev zPrin : SV := .agg [.isl .str [], rS ⟨#[]⟩]
def rO {α : Type} (res : α → SV) (z : SV) : Except Nat (α × Nat) → Out
 | .ok (v, _) => .ret (.tup [res v, rI 0])
 | .error e => .ret (.tup [z, rI e])
def rH {α : Type} (b : List UInt8) (n : Nat) : Except Nat (α × Nat) → List SObj
 | .ok (_, k) => [rdr b (n + k)]
 | .error _ => [rdr b n]
attribute [go_sem] rO rH
theorem effR_of {P : Program} {α : Type} {f : FuncId} {args : List SV} {b : List UInt8} {n : Nat} {res : α → SV} {z : SV} {x : Except Nat (α × Nat)} (h : VC P f args [rdr b n] (SealO (rO res z x) (rH b n x))) : EffR P f args b n res z x := by
 cases x with
 | error e => exact pe_seal (by simp [rH]) h
 | ok y => exact pe_seal (by simp [rH]) h
theorem read_er (b : List UInt8) (n : Nat) (hn : n ≤ b.length) (hb : b.length ≤ 1099511627776) (h : takeE 48 (b.drop n) ≠ 0) :
 EffR Tryz.prog 144 [.ptr 0 0] b n (fun p : Prin => .agg (PrinT.cells p)) zPrin (nameP (b.drop n)) := by
 have hs := rseq_er b n hn hb h
 have he : nameP (b.drop n) = .error (takeE 48 (b.drop n)) := by unfold nameP; rw [inP_f h]; rfl
 rw [he]
 clear he
 generalize takeE 48 (b.drop n) = e at *
 refine pe_seal (by simp) ?_
 refine defE mixed fi144 ?_
 refine effE mixed [0] (rcopy_c b n) ?_
 refine goE mixed ?_
 refine effE mixed [0] (hs) ?_
 refine effP [] (must_er_nrdr e h) ?_
 refine ⟨by simp, dpanN_c b n n e _ _ _ _ _ _ _ [] _ ?_⟩
 with_reducible refine sxE ?_; trivial
end Go.Proofs.YtoeieekegmmdkaaGreatDoor

/- Contracts: reading names that begin with a sequence. -/
namespace Go.Proofs.YtoeieekegmmdkaaGreatDoor
open Go Go.Sx Go.Proofs
set_option maxRecDepth 100000
set_option maxHeartbeats 4000000
set_option linter.unusedSimpArgs false

theorem strsP_er {β : Type} {l r : List UInt8} {f : List ByteArray → PR β} {e : Nat} (h : listP strP l.length l = .error e) : bindP (strsP l) f r = .error e := by unfold bindP strsP atP; rw [h]
theorem strsP_ok {β : Type} {l r : List UInt8} {f : List ByteArray → PR β} {xs : List ByteArray} {m : Nat} (h : listP strP l.length l = .ok (xs, m)) : bindP (strsP l) f r = shiftP 0 (f xs r) := by
 unfold bindP strsP atP
 rw [h]
 simp only [List.drop_zero]
 cases f xs r with
 | error e => rfl
 | ok y => rfl
theorem shift_sh {α : Type} {j k : Nat} {x : Except Nat (α × Nat)} : shiftP j (shiftP k x) = shiftP (j + k) x := by
 cases x with
 | error e => rfl
 | ok y => obtain ⟨u, m⟩ := y; simp only [shiftP, Nat.add_assoc]
theorem dretN_c (H : List SObj) (K : List SObj → Prop) (h : ∀ G, K (H ++ G)) : DCall Tryz.prog 172 [.ptr 5 0, .ptr 1 0, .ptr 2 0, .ptr 3 0] none H K := by
 refine recE mixed fi172 ?_
 simpa using h []
theorem read_ok (b : List UInt8) (n : Nat) (hn : n ≤ b.length) (hb : b.length ≤ 1099511627776) (h : takeE 48 (b.drop n) = 0) :
 EffR Tryz.prog 144 [.ptr 0 0] b n (fun p : Prin => .agg (PrinT.cells p)) zPrin (nameP (b.drop n)) := by
 have hs := rseq_ok b n hn hb h
 have hc := tkC_le (n := n) hb
 have he : nameP (b.drop n) = chkP vPrin (closeP (takeC (b.drop n)).length (takeN (b.drop n)) (nameIn (takeC (b.drop n)))) := by unfold nameP; rw [inP_t h]
 generalize nameP (b.drop n) = Y at *
 generalize takeC (b.drop n) = c at *
 generalize takeN (b.drop n) = N at *
 refine effR_of ?_
 unfold nameIn at he
 have f0 := frdr_c 0 (by omega) c 0 (Nat.zero_le _) hc
 rw [List.drop_zero] at f0
 refine defE mixed fi144 ?_
 refine effE mixed [0] (rcopy_c b n) ?_
 refine goE mixed ?_
 refine effE mixed [0] (hs) ?_
 refine effE mixed [6] (must_nrdr c 0) ?_
 cases h1 : needP 0 (rdP 48 decOct) c with
 | error e =>
  rw [bindP_er h1] at he
  subst he
  rw [h1] at f0
  have f0' : PE Tryz.prog 174 [.ptr 0 0, rI (0 : Nat), .fn 97 [] []] [rdr c 0] (.pan (errV e)) [.dead] := f0
  simp only [closeP, chkP]
  refine effP [6] (f0') ?_
  refine ⟨by simp, dpanN_c b n _ e _ _ _ _ _ _ _ [_] _ ?_⟩
  with_reducible refine sxE ?_; trivial
 | ok x =>
  obtain ⟨l, k⟩ := x
  rw [bindP_s0 h1] at he
  have hk := needP_fits _ _ _ h1
  rw [h1] at f0
  have f0' : PE Tryz.prog 174 [.ptr 0 0, rI (0 : Nat), .fn 97 [] []] [rdr c 0] (.ret (.ptr 2 0)) [rdr c (0 + k), .dead, rdr l 0] := f0
  rw [Nat.zero_add] at f0'
  refine effE mixed [6] (f0') ?_
  have hlb : l.length ≤ 1099511627776 := (okP_need (okP_rd (Q := fun v : List UInt8 => v.length ≤ 1099511627776) fun c v hc hd => by unfold decOct at hd; cases hd; exact hc)) c l k hc h1
  generalize hX : listP strP l.length l = X
  refine si_nilcell 2 0 .str rfl rfl rfl ?_
  with_reducible refine sxE ?_
  refine si_loopX (ι := Nat × List ByteArray × List SObj) (fun s => []) (fun s => [rdr b (n + N), .cells 65 [.ptr 0 0], .cells 40 [.bld (s.2.2.length + 9) .str s.2.1.length, rS ⟨#[]⟩], .cells 26 [rI 0], rdr b n, .cells 65 [.ptr 4 0], rdr c k, .dead, rdr l s.1] ++ s.2.2 ++ [.row .str s.2.1]) (fun s => l.length - s.1) (fun s => s.2.1.length ≤ s.1 ∧ s.1 ≤ l.length ∧ (∀ x ∈ s.2.1, x.size ≤ 1099511627776) ∧ X = tailP s.2.1 s.1 (listP strP (l.length - s.2.1.length) (l.drop s.1))) (0, [], []) ⟨Nat.le_refl _, Nat.zero_le _, by simp, ?_⟩ rfl ?_ ?_
  · rw [List.drop_zero, List.length_nil, Nat.sub_zero, tailP_id]; exact hX.symm
  · with_reducible refine sxE ?_; trivial
  rintro ⟨m, xs, G⟩ ⟨i1, i2, i4, i3⟩
  dsimp only at i1 i2 i3 i4
  have hleft := left_c l m i2
  refine goaE mixed ?_
  refine callI_eff [8] hleft rfl (by decide) ⟨rfl, rfl, trivial⟩ rfl rfl ?_
  simp only [afterO, Out.ren, SV.ren, mgA, sig, SObj.ren, SV.renL, List.cons_append, List.nil_append, List.append_assoc, List.set_cons_zero, List.set_cons_succ, List.set, List.map, List.append_nil]
  refine run_sound mixed 5 _ ?_
  with_reducible refine sxaE ?_
  refine ⟨fun hp0 => ?_, fun hp0 => ?_⟩
  · have hml : m < l.length := by omega
    refine si_drwP [2] mixed ?_
    refine goaE mixed ?_
    cases hp : strP (l.drop m) with
    | error e =>
     have hr := rstr_er l m i2 hlb hp
     have hXe := i3.trans (listP_bad hml (by omega) hp)
     rw [strsP_er (hX.trans hXe)] at he
     subst he
     simp only [shiftP, closeP, chkP]
     refine callR_eff [8] hr rfl (by decide) ⟨rfl, rfl, trivial⟩ rfl rfl ?_ ?_
     · simp (maxSteps := 3000000) only [mgA, sig, sameG_cons, sameG_nil, List.append_assoc, getA, getA0, setA, setA0, List.length_append, Nat.add_assoc, go_sem, ↓zA, ↓reduceIte, ↓reduceDIte, reduceCtorEq, Nat.reduceAdd, Nat.reduceSub, Nat.reduceLeDiff, Nat.reduceLT, Nat.reduceEqDiff, Nat.reduceBEq, Nat.reduceMul, Int.reduceToNat, Int.reduceEq, Int.reduceLT, Int.reduceLE] <;> try simp only [zB]
     · simp only [afterR, Out.ren, SV.ren, mgA, sig, SObj.ren, SV.renL, List.cons_append, List.nil_append, List.append_assoc, List.set_cons_zero, List.set_cons_succ, List.set, List.map, List.append_nil]
       refine goaE mixed ?_
       refine callR_eff [] (must_er_nstr (.string ⟨#[]⟩) e (rdP_ne hp)) rfl (by decide) trivial rfl rfl ?_ ?_
       · simp (maxSteps := 3000000) only [mgA, sig, sameG_cons, sameG_nil, List.append_assoc, getA, getA0, setA, setA0, List.length_append, Nat.add_assoc, go_sem, ↓zA, ↓reduceIte, ↓reduceDIte, reduceCtorEq, Nat.reduceAdd, Nat.reduceSub, Nat.reduceLeDiff, Nat.reduceLT, Nat.reduceEqDiff, Nat.reduceBEq, Nat.reduceMul, Int.reduceToNat, Int.reduceEq, Int.reduceLT, Int.reduceLE] <;> try simp only [zB]
       · simp only [afterR, Out.ren, SV.ren, mgA, sig, SObj.ren, SV.renL, List.cons_append, List.nil_append, List.append_assoc, List.set_cons_zero, List.set_cons_succ, List.set, List.map, List.append_nil]
         refine cutQ_p ?_
         with_reducible refine sxaE ?_
         refine ⟨by simp, ?_⟩
         have hpan := fun K hK => dpanN_c b n (n + N) e 65 40 26 65 (.bld (G.length + 9) .str xs.length) (rS ⟨#[]⟩) (.int .i64 0) ([rdr c k, .dead, rdr l m] ++ G ++ [.row .str xs]) K hK
         simp only [List.cons_append, List.nil_append, List.append_assoc] at hpan
         refine hpan _ ?_
         with_reducible refine sxaE ?_; trivial
    | ok y =>
     obtain ⟨v, q⟩ := y
     have hr := rstr_ok l m i2 hlb hp
     have hfit := rdP_le hp
     have hq2 := takeN_pos (rdP_ok hp).1
     have hq : 2 ≤ q := by rw [(rdP_ok hp).2.2]; exact hq2
     have hvs := okP_str (l.drop m) v q (by rw [List.length_drop]; omega) hp
     rw [List.length_drop] at hfit
     have hXs := i3.trans (listP_step hml (by omega) hp)
     refine callR_eff [8] hr rfl (by decide) ⟨rfl, rfl, trivial⟩ rfl rfl ?_ ?_
     · simp (maxSteps := 3000000) only [mgA, sig, sameG_cons, sameG_nil, List.append_assoc, getA, getA0, setA, setA0, List.length_append, Nat.add_assoc, go_sem, ↓zA, ↓reduceIte, ↓reduceDIte, reduceCtorEq, Nat.reduceAdd, Nat.reduceSub, Nat.reduceLeDiff, Nat.reduceLT, Nat.reduceEqDiff, Nat.reduceBEq, Nat.reduceMul, Int.reduceToNat, Int.reduceEq, Int.reduceLT, Int.reduceLE] <;> try simp only [zB]
     · simp only [afterR, Out.ren, SV.ren, mgA, sig, SObj.ren, SV.renL, List.cons_append, List.nil_append, List.append_assoc, List.set_cons_zero, List.set_cons_succ, List.set, List.map, List.append_nil]
       refine goaE mixed ?_
       refine callR_pure (must_nstr _) ?_
       refine goaE mixed ?_
       refine ⟨by show v.size ≤ _; omega, ⟨by omega, by omega⟩, cutQ_n ?_⟩
       refine goaE mixed ?_
       refine ⟨(m + q, xs ++ [v], G ++ [.dead, .row .str [v]]), ⟨by simp; omega, by dsimp only; omega, fun x hx => ?_, ?_⟩, by dsimp only; omega, ?_, ?_⟩
       · rcases List.mem_append.1 hx with hx | hx
         · exact i4 x hx
         · rw [List.mem_singleton] at hx; subst hx; exact hvs
       · dsimp only
         rw [hXs, List.length_append, List.length_singleton, Nat.sub_sub]
       · simp
       · with_reducible refine sxaE ?_; trivial
  · have hXe := i3.trans (listP_end (by omega))
    rw [strsP_ok (hX.trans hXe), shift_sh, Nat.add_zero] at he
    clear hX hXe i3
    refine si_compact (ty := .str) (xs := xs) [rdr b (n + N), .cells 65 [.ptr 0 0], .cells 40 [.bld (G.length + 9) .str xs.length, rS ⟨#[]⟩], .cells 26 [rI 0], rdr b n, .cells 65 [.ptr 4 0], rdr c k, .dead, rdr l m] [rdr b (n + N), .cells 65 [.ptr 0 0], .cells 40 [.bld 9 .str xs.length, rS ⟨#[]⟩], .cells 26 [rI 0], rdr b n, .cells 65 [.ptr 4 0], rdr c k, .dead, rdr l m] G rfl (by simp) (by simp) ?_ (by rfl) ?_ ?_ ?_
    · simp [SObj.ren, SV.ren, SV.renL, shift, Nat.add_comm]
    · rfl
    · with_reducible refine sxE ?_; trivial
    with_reducible refine sxE ?_
    have hxs : xs.length ≤ 1099511627776 := by omega
    refine si_freeze 9 rfl rfl (by omega) ?_ ?_ ?_
    · with_reducible refine sxE ?_
      exact Nat.le_refl _
    · with_reducible refine sxE ?_; trivial
    with_reducible refine sxE ?_
    rw [List.take_of_length_le (Nat.le_refl _)]
    have hf1 := fstr_c 1 (by omega) c k hk hc
    cases h2 : needP 1 strP (c.drop k) with
    | error e =>
     rw [bindP_er h2] at he
     subst he
     have hf1' := effX_er hf1 h2
     simp only [shiftP, closeP, chkP]
     refine goE mixed ?_
     refine effP [6] (hf1') ?_
     refine ⟨by simp, ?_⟩
     have hpan := fun K hK => dpanN_c b n (n + N) e 65 40 26 65 (.isl .str xs) (rS ⟨#[]⟩) (.int .i64 0) [.dead, .dead, rdr l m, .dead] K hK
     simp only [List.cons_append, List.nil_append, List.append_assoc] at hpan
     refine hpan _ ?_
     with_reducible refine sxE ?_; trivial
    | ok y =>
     obtain ⟨t, q⟩ := y
     rw [bindP_st h2] at he
     have hf1' := effX_ok hf1 h2
     have hkq := fits_at needP_fits hk h2
     have hts := okP_need okP_str (c.drop k) t q (by rw [List.length_drop]; omega) h2
     have hlq := left_c c (k + q) hkq
     simp only [shiftP, retP, closeP] at he
     refine goE mixed ?_
     refine effE mixed [6] (hf1') ?_
     refine effE mixed [6] (hlq) ?_
     refine ⟨fun hle => callI_pure (nvalid_c (xs, t) ⟨⟨by show xs.length ≤ _; omega, fun x hx => by have := i4 x hx; show x.size ≤ _; omega⟩, by show t.size ≤ _; omega⟩) ?_, fun hgt => ⟨by simp, ?_⟩⟩
     · rw [if_neg (by omega)] at he
       simp only [chkP] at he
       cases hv : vPrin (xs, t) with
       | true =>
        rw [if_pos hv] at he
        subst he
        refine goE mixed ?_
        refine dretN_c _ _ fun G => ?_
        with_reducible refine sxE ?_; trivial
       | false =>
        rw [if_neg (by rw [hv]; decide)] at he
        subst he
        refine goE mixed ?_
        refine ⟨by simp, ?_⟩
        have hpan := fun K hK => dpanN_c b n (n + N) 6 65 40 26 65 (.isl .str xs) (rS t) (.int .i64 0) [rdr c (k + q), .dead, rdr l m, .dead] K hK
        simp only [List.cons_append, List.nil_append, List.append_assoc] at hpan
        refine hpan _ ?_
        with_reducible refine sxE ?_; trivial
     · rw [if_pos (by omega)] at he
       simp only [chkP] at he
       subst he
       have hpan := fun K hK => dpanN_c b n (n + N) 6 65 40 26 65 (.isl .str xs) (rS t) (.int .i64 0) [rdr c (k + q), .dead, rdr l m, .dead] K hK
       simp only [List.cons_append, List.nil_append, List.append_assoc] at hpan
       refine hpan _ ?_
       with_reducible refine sxE ?_; trivial
end Go.Proofs.YtoeieekegmmdkaaGreatDoor

/- Contracts: the reference's encoding of principals, keys, sets. -/
namespace Go.Proofs.YtoeieekegmmdkaaGreatDoor
open Go Go.Sx Go.Proofs
set_option maxRecDepth 100000
set_option maxHeartbeats 4000000
set_option linter.unusedSimpArgs false

end Go.Proofs.YtoeieekegmmdkaaGreatDoor

/- The plain law of reading: entries. -/
namespace Go.Proofs.YtoeieekegmmdkaaGreatDoor
open Go Go.Sx Go.Proofs
set_option maxRecDepth 100000
set_option maxHeartbeats 4000000
set_option linter.unusedSimpArgs false

end Go.Proofs.YtoeieekegmmdkaaGreatDoor

/- The plain law of reading: what is read can be held. -/
namespace Go.Proofs.YtoeieekegmmdkaaGreatDoor
open Go Go.Sx Go.Proofs
set_option maxRecDepth 100000
set_option maxHeartbeats 4000000
set_option linter.unusedSimpArgs false

theorem errP_list {α : Type} {p : PR α} (hp : ErrP p) : ∀ n, ErrP (listP p n)
 | 0, r, e, h => by
  simp only [listP] at h
  split at h <;> cases h
  decide
 | n + 1, r, e, h => by
  simp only [listP] at h
  split at h
  · cases h
  · cases h1 : p r with
    | error e1 => rw [h1] at h; cases h; exact hp r _ h1
    | ok y =>
     obtain ⟨u, k⟩ := y
     rw [h1] at h
     simp only at h
     cases h2 : listP p n (r.drop k) with
     | error e2 => rw [h2] at h; cases h; exact errP_list hp n _ _ h2
     | ok z => obtain ⟨w, l⟩ := z; rw [h2] at h; cases h
theorem nameP_ne : ErrP nameP := fun r e h => by
 have hin : ErrP (inP 48 nameIn) := errP_in (errP_bind (errP_need errP_rd) fun l => errP_bind (fun r' e' h' => by
  unfold strsP atP at h'
  cases h1 : listP strP l.length l with
  | error e1 => rw [h1] at h'; cases h'; exact errP_list errP_rd _ _ _ h1
  | ok y => obtain ⟨u, k⟩ := y; rw [h1] at h'; cases h') fun _ => errP_bind (errP_need errP_rd) fun _ => errP_ret)
 unfold nameP at h
 cases h1 : inP 48 nameIn r with
 | error e1 => rw [h1] at h; cases h; exact hin r _ h1
 | ok y =>
  obtain ⟨u, k⟩ := y
  rw [h1] at h
  simp only [chkP] at h
  split at h <;> cases h
  decide
theorem nameP_fits : FitsP nameP := fun r v m h => by
 unfold nameP at h
 cases h1 : inP 48 nameIn r with
 | error e1 => rw [h1] at h; cases h
 | ok y =>
  obtain ⟨u, k⟩ := y
  rw [h1] at h
  simp only [chkP] at h
  split at h
  · cases h; exact inP_fits r _ _ h1
  · cases h
end Go.Proofs.YtoeieekegmmdkaaGreatDoor

/- Contracts: a principal and octets of an entry read. -/
namespace Go.Proofs.YtoeieekegmmdkaaGreatDoor
open Go Go.Sx Go.Proofs
set_option maxRecDepth 100000
set_option maxHeartbeats 4000000
set_option linter.unusedSimpArgs false

theorem read_c (b : List UInt8) (n : Nat) (hn : n ≤ b.length) (hb : b.length ≤ 1099511627776) :
 EffR Tryz.prog 144 [.ptr 0 0] b n (fun p : Prin => .agg (PrinT.cells p)) zPrin (nameP (b.drop n)) := by
 by_cases h : takeE 48 (b.drop n) = 0
 · exact read_ok b n hn hb h
 · exact read_er b n hn hb h
end Go.Proofs.YtoeieekegmmdkaaGreatDoor

/- Contracts: reading that leaves by a panic. -/
namespace Go.Proofs.YtoeieekegmmdkaaGreatDoor
open Go Go.Sx Go.Proofs
set_option maxRecDepth 100000
set_option maxHeartbeats 4000000
set_option linter.unusedSimpArgs false

@[go_sem] abbrev wrongV : SV := .iface 105 (.agg [rI 6])
theorem require_t : PC Tryz.prog 68 [.raw (.bool true)] (.tup []) := by
 refine pc_of rfl rfl ?_
 refine runE mixed fi68 ?_; trivial
theorem require_f : PE Tryz.prog 68 [.raw (.bool false)] [] (.pan wrongV) [] := by
 refine pe_seal (by simp) ?_
 refine runE mixed fi68 ?_; trivial
theorem callI_require {AQ : Ex → List SV → List SObj → Prop} {x : Bool} {d : Option Tmp} {m : IM} (h1 : x = true → SoundI Tryz.prog AQ { m with tmps := putT m.tmps d (.tup []) }) (h2 : x = false → AQ (.pan wrongV) m.tmps m.heap) :
 CallI Tryz.prog AQ 68 [.raw (.bool x)] d m := by
 cases x with
 | true => exact callI_pure require_t (h1 rfl)
 | false =>
  refine callI_eff [] require_f rfl (by decide) trivial rfl rfl ?_
  have : mgA (sig [] m.heap.length) [] [] m.heap = m.heap := by simp [mgA]
  rw [this]
  exact h2 rfl
theorem take_int (v : Value) : PC Tryz.prog 91 [.raw v, rI 0] (.raw v) := by
 refine pc_of rfl rfl ?_
 refine runE mixed fi91 ?_
 refine callI_pure require_t ?_
 refine goE mixed ?_; trivial
theorem take_er_int (v : Value) (e : Nat) (he : e ≠ 0) : PE Tryz.prog 91 [.raw v, rI e] [] (.pan wrongV) [] := by
 refine pe_seal (by simp) ?_
 refine runE mixed fi91 ?_
 refine callI_require (fun h => absurd h (by simp; omega)) fun _ => ?_
 with_reducible refine sxE ?_; trivial
theorem take_u32 (v : Value) : PC Tryz.prog 140 [.raw v, rI 0] (.raw v) := by
 refine pc_of rfl rfl ?_
 refine runE mixed fi140 ?_
 refine callI_pure require_t ?_
 refine goE mixed ?_; trivial
theorem take_er_u32 (v : Value) (e : Nat) (he : e ≠ 0) : PE Tryz.prog 140 [.raw v, rI e] [] (.pan wrongV) [] := by
 refine pe_seal (by simp) ?_
 refine runE mixed fi140 ?_
 refine callI_require (fun h => absurd h (by simp; omega)) fun _ => ?_
 with_reducible refine sxE ?_; trivial
theorem take_rdr (b : List UInt8) (n : Nat) : PE Tryz.prog 88 [.ptr 0 0, rI 0] [rdr b n] (.ret (.ptr 0 0)) [rdr b n] := by
 refine pe_seal (by simp) ?_
 refine runE mixed fi88 ?_
 refine callI_pure require_t ?_
 refine goE mixed ?_; trivial
theorem take_er_rdr (e : Nat) (he : e ≠ 0) : PE Tryz.prog 88 [.raw (.pointer none), rI e] [] (.pan wrongV) [] := by
 refine pe_seal (by simp) ?_
 refine runE mixed fi88 ?_
 refine callI_require (fun h => absurd h (by simp; omega)) fun _ => ?_
 with_reducible refine sxE ?_; trivial
theorem done_t (b : List UInt8) (n : Nat) (hn : n = b.length) : PE Tryz.prog 67 [.agg [.ptr 0 0]] [rdr b n] (.ret (.tup [])) [rdr b n] := by
 have he := end_c b n (by omega)
 rw [if_neg (by omega)] at he
 refine pe_seal (by simp) ?_
 refine runE mixed fi67 ?_
 refine effE mixed [0] (he) ?_
 refine callI_pure require_t ?_
 refine goE mixed ?_; trivial
theorem done_f (b : List UInt8) (n : Nat) (hn : n < b.length) : PE Tryz.prog 67 [.agg [.ptr 0 0]] [rdr b n] (.pan wrongV) [.dead] := by
 have he := end_c b n (by omega)
 rw [if_pos hn] at he
 refine pe_seal (by simp) ?_
 refine runE mixed fi67 ?_
 refine effE mixed [0] (he) ?_
 refine callI_require (fun h => absurd h (by simp)) fun _ => ?_
 with_reducible refine sxE ?_; trivial
end Go.Proofs.YtoeieekegmmdkaaGreatDoor

/- Contracts: reading inside of elements, with a function. -/
namespace Go.Proofs.YtoeieekegmmdkaaGreatDoor
open Go Go.Sx Go.Proofs
set_option maxRecDepth 100000
set_option maxHeartbeats 4000000
set_option linter.unusedSimpArgs false

def Eff (P : Program) {α : Type} (f : FuncId) (args : List SV) (b : List UInt8) (n : Nat) (E : List SObj) (res : α → SV) (upd : α → List SObj) : Except Nat (α × Nat) → Prop
 | .ok (v, k) => PE P f args (rdr b n :: E) (.ret (res v)) (rdr b (n + k) :: upd v)
 | .error _ => PE P f args (rdr b n :: E) (.pan wrongV) (.dead :: E.map fun _ => .dead)
theorem eff_ok {P : Program} {α : Type} {f : FuncId} {args : List SV} {b : List UInt8} {n : Nat} {E : List SObj} {res : α → SV} {upd : α → List SObj} {x : Except Nat (α × Nat)} {v : α} {k : Nat} (h : Eff P f args b n E res upd x) (hx : x = .ok (v, k)) : PE P f args (rdr b n :: E) (.ret (res v)) (rdr b (n + k) :: upd v) := by rw [hx] at h; exact h
theorem eff_er {P : Program} {α : Type} {f : FuncId} {args : List SV} {b : List UInt8} {n : Nat} {E : List SObj} {res : α → SV} {upd : α → List SObj} {x : Except Nat (α × Nat)} {e : Nat} (h : Eff P f args b n E res upd x) (hx : x = .error e) : PE P f args (rdr b n :: E) (.pan wrongV) (.dead :: E.map fun _ => .dead) := by rw [hx] at h; exact h
def appB (n : Nat) : UInt8 := byteOf (96 + n)
theorem app_wr {m : Nat} (hm : m ≤ 30) : IntKind.u8.wrap (IntKind.i64.wrap (96 + (m : Int))) = ((appB m).toNat : Int) := by
 rw [wrapi (by omega)]
 exact (byte_ob _).symm
theorem rapp_ok (m : Nat) (hm : m ≤ 30) (b : List UInt8) (n : Nat) (hn : n ≤ b.length) (hb : b.length ≤ 1099511627776) (ht : takeE (appB m) (b.drop n) = 0) :
 PE Tryz.prog 89 [.ptr 0 0, rI m] [rdr b n] (.ret (.tup [.ptr 1 0, rI 0])) [rdr b (n + takeN (b.drop n)), rdr (takeC (b.drop n)) 0] := by
 have hd := readr_ok (appB m) b n hn hb ht
 have hu := app_wr hm
 generalize takeC (b.drop n) = c at *
 generalize takeN (b.drop n) = k at *
 refine pe_seal (by simp) ?_
 refine runE mixed fi89 ?_
 refine ⟨fun _ => ⟨fun h30 => absurd h30 (by omega), fun _ => ?_⟩, fun hneg => by exfalso; omega⟩
 rw [hu]
 refine effE mixed [0] (hd) ?_; trivial
theorem rapp_er (m : Nat) (hm : m ≤ 30) (b : List UInt8) (n : Nat) (hn : n ≤ b.length) (hb : b.length ≤ 1099511627776) (ht : takeE (appB m) (b.drop n) ≠ 0) :
 PE Tryz.prog 89 [.ptr 0 0, rI m] [rdr b n] (.ret (.tup [.raw (.pointer none), rI (takeE (appB m) (b.drop n))])) [rdr b n] := by
 have hd := readr_er (appB m) b n hn hb ht
 have hu := app_wr hm
 generalize takeE (appB m) (b.drop n) = e at *
 refine pe_seal (by simp) ?_
 refine runE mixed fi89 ?_
 refine ⟨fun _ => ⟨fun h30 => absurd h30 (by omega), fun _ => ?_⟩, fun hneg => by exfalso; omega⟩
 rw [hu]
 refine effE mixed [0] (hd) ?_; trivial
theorem sequence1 {α : Type} (g : Nat) (b : List UInt8) (n : Nat) (hn : n ≤ b.length) (hb : b.length ≤ 1099511627776) (T : TypeId) (cs : List SV) (hc : Cln cs) (p : PR α) (hp : FitsP p) (upd : α → List SV) (hu : ∀ v, Cln (upd v))
 (hg : Eff Tryz.prog g (.agg [.ptr 0 0] :: [.ptr 1 0]) (takeC (b.drop n)) 0 [.cells T cs] (fun _ => .tup []) (fun v => [.cells T (upd v)]) (p (takeC (b.drop n)))) :
 Eff Tryz.prog 62 [.agg [.ptr 0 0], .fn g [] [.ptr 1 0]] b n [.cells T cs] (fun _ => .tup []) (fun v => [.cells T (upd v)]) (inP 48 p (b.drop n)) := by
 have w1 := cln_rb hc
 have w2 := And.intro w1 (cln_rbF hu)
 rcases inP_cases (tag := 48) (p := p) (r := b.drop n) with ⟨h1, e⟩ | ⟨h1, e, h2, e'⟩ | ⟨h1, v, m, h2, h3, e⟩ | ⟨h1, v, m, h2, h3, e⟩
 · rw [e]
   have hs := rseq_er b n hn hb h1
   generalize takeE 48 (b.drop n) = ee at *
   refine pe_seal (by simp) ?_
   refine runE mixed fi62 ?_
   refine effC mixed [0] (hs) w1 ?_
   refine effD [] (take_er_rdr ee h1) w1 ?_; trivial
 · rw [e']
   have hs := rseq_ok b n hn hb h1
   have hg' := eff_er hg h2
   generalize takeC (b.drop n) = c at *
   refine pe_seal (by simp) ?_
   refine runE mixed fi62 ?_
   refine effC mixed [0] (hs) w1 ?_
   refine effC mixed [3] (take_rdr c 0) w1 ?_
   refine effD [3, 1] (hg') w1 ?_; trivial
 · rw [e]
   have hs := rseq_ok b n hn hb h1
   have hg' := eff_ok hg h2
   generalize takeC (b.drop n) = c at *
   rw [Nat.zero_add] at hg'
   refine pe_seal (by simp) ?_
   refine runE mixed fi62 ?_
   refine effC mixed [0] (hs) w1 ?_
   refine effC mixed [3] (take_rdr c 0) w1 ?_
   refine effC mixed [3, 1] (hg') w2 ?_
   refine effD [3] (done_f c m h3) w2 ?_; trivial
 · rw [e]
   have hs := rseq_ok b n hn hb h1
   have hg' := eff_ok hg h2
   have hm := hp _ _ _ h2
   generalize takeC (b.drop n) = c at *
   rw [Nat.zero_add] at hg'
   refine pe_seal (by simp) ?_
   refine runE mixed fi62 ?_
   refine effC mixed [0] (hs) w1 ?_
   refine effC mixed [3] (take_rdr c 0) w1 ?_
   refine effC mixed [3, 1] (hg') w2 ?_
   refine effC mixed [3] (done_t c m (by omega)) w2 ?_; trivial
theorem maybe_no1 (g : Nat) (i : Nat) (hi : i ≤ 30) (b : List UInt8) (n : Nat) (hn : n ≤ b.length) (T : TypeId) (cs : List SV) (hc : Cln cs) (h : nextB i (b.drop n) = false) :
 PE Tryz.prog 93 [.agg [.ptr 0 0], rI i, .fn g [] [.ptr 1 0]] (rdr b n :: [.cells T cs]) (.ret (rB false)) (rdr b n :: [.cells T cs]) := by
 have w1 := cln_rb hc
 have hs := rtag_no i hi b n hn h
 refine pe_seal (by simp) ?_
 refine runE mixed fi93 ?_
 refine effC mixed [0] (hs) w1 ?_
 refine callI_require (fun _ => ?_) fun h => absurd h (by decide)
 refine run_sound mixed 600 _ ?_
 with_reducible refine sx1 w1 ?_; trivial
theorem maybe_in1 {α : Type} (g : Nat) (i : Nat) (hi : i ≤ 30) (b : List UInt8) (n : Nat) (hn : n ≤ b.length) (hb : b.length ≤ 1099511627776) (T : TypeId) (cs : List SV) (hc : Cln cs) (p : PR α) (hp : FitsP p) (upd : α → List SV) (hu : ∀ v, Cln (upd v))
 (hg : Eff Tryz.prog g (.agg [.ptr 0 0] :: [.ptr 1 0]) (takeC (b.drop n)) 0 [.cells T cs] (fun _ => .tup []) (fun v => [.cells T (upd v)]) (p (takeC (b.drop n)))) (h : nextB i (b.drop n) = true) :
 Eff Tryz.prog 93 [.agg [.ptr 0 0], rI i, .fn g [] [.ptr 1 0]] b n [.cells T cs] (fun _ => rB true) (fun v => [.cells T (upd v)]) (inP (tagB i) p (b.drop n)) := by
 have w1 := cln_rb hc
 have w2 := And.intro w1 (cln_rbF hu)
 rcases inP_cases (tag := tagB i) (p := p) (r := b.drop n) with ⟨h1, e⟩ | ⟨h1, e, h2, e'⟩ | ⟨h1, v, m, h2, h3, e⟩ | ⟨h1, v, m, h2, h3, e⟩
 · rw [e]
   have hs := rtag_er i hi b n hn hb h h1
   generalize takeE (tagB i) (b.drop n) = ee at *
   refine pe_seal (by simp) ?_
   refine runE mixed fi93 ?_
   refine effC mixed [0] (hs) w1 ?_
   refine callI_require (fun h => absurd h (by simp; omega)) fun _ => ?_
   with_reducible refine sxE ?_; trivial
 · rw [e']
   have hs := rtag_ok i hi b n hn hb h h1
   have hg' := eff_er hg h2
   generalize takeC (b.drop n) = c at *
   refine pe_seal (by simp) ?_
   refine runE mixed fi93 ?_
   refine effC mixed [0] (hs) w1 ?_
   refine callI_require (fun _ => ?_) fun h => absurd h (by decide)
   refine goE mixed ?_
   refine effD [3, 1] (hg') w1 ?_; trivial
 · rw [e]
   have hs := rtag_ok i hi b n hn hb h h1
   have hg' := eff_ok hg h2
   generalize takeC (b.drop n) = c at *
   rw [Nat.zero_add] at hg'
   refine pe_seal (by simp) ?_
   refine runE mixed fi93 ?_
   refine effC mixed [0] (hs) w1 ?_
   refine callI_require (fun _ => ?_) fun h => absurd h (by decide)
   refine goE mixed ?_
   refine effC mixed [3, 1] (hg') w2 ?_
   refine effD [3] (done_f c m h3) w2 ?_; trivial
 · rw [e]
   have hs := rtag_ok i hi b n hn hb h h1
   have hg' := eff_ok hg h2
   have hm := hp _ _ _ h2
   generalize takeC (b.drop n) = c at *
   rw [Nat.zero_add] at hg'
   refine pe_seal (by simp) ?_
   refine runE mixed fi93 ?_
   refine effC mixed [0] (hs) w1 ?_
   refine callI_require (fun _ => ?_) fun h => absurd h (by decide)
   refine goE mixed ?_
   refine effC mixed [3, 1] (hg') w2 ?_
   refine effC mixed [3] (done_t c m (by omega)) w2 ?_; trivial
theorem need1 {α : Type} (g : Nat) (i : Nat) (hi : i ≤ 30) (b : List UInt8) (n : Nat) (hn : n ≤ b.length) (hb : b.length ≤ 1099511627776) (T : TypeId) (cs : List SV) (hc : Cln cs) (p : PR α) (hp : FitsP p) (upd : α → List SV) (hu : ∀ v, Cln (upd v))
 (hg : Eff Tryz.prog g (.agg [.ptr 0 0] :: [.ptr 1 0]) (takeC (b.drop n)) 0 [.cells T cs] (fun _ => .tup []) (fun v => [.cells T (upd v)]) (p (takeC (b.drop n)))) :
 Eff Tryz.prog 60 [.agg [.ptr 0 0], rI i, .fn g [] [.ptr 1 0]] b n [.cells T cs] (fun _ => .tup []) (fun v => [.cells T (upd v)]) (needP i p (b.drop n)) := by
 have w1 := cln_rb hc
 have w2 := And.intro w1 (cln_rbF hu)
 cases h : nextB i (b.drop n) with
 | false =>
  have hm := maybe_no1 g i hi b n hn T cs hc h
  have : ∃ e, needP i p (b.drop n) = .error e := ⟨_, by unfold needP; rw [h]; rfl⟩
  obtain ⟨e, he⟩ := this
  rw [he]
  refine pe_seal (by simp) ?_
  refine runE mixed fi60 ?_
  refine effC mixed [0, 1] (hm) w1 ?_
  refine callI_require (fun h => absurd h (by decide)) fun _ => ?_
  with_reducible refine sxE ?_; trivial
 | true =>
  have hm := maybe_in1 g i hi b n hn hb T cs hc p hp upd hu hg h
  have he : needP i p (b.drop n) = inP (tagB i) p (b.drop n) := by unfold needP; rw [h]; rfl
  rw [he]
  cases hx : inP (tagB i) p (b.drop n) with
  | error e =>
   have hm' := eff_er hm hx
   refine pe_seal (by simp) ?_
   refine runE mixed fi60 ?_
   refine effD [0, 1] (hm') w1 ?_; trivial
  | ok x =>
   obtain ⟨v, k⟩ := x
   have hm' := eff_ok hm hx
   refine pe_seal (by simp) ?_
   refine runE mixed fi60 ?_
   refine effC mixed [0, 1] (hm') w2 ?_
   refine callI_require (fun _ => ?_) fun h => absurd h (by decide)
   refine run_sound mixed 600 _ ?_
   with_reducible refine sx1 w2 ?_; trivial
theorem sequence2 {α : Type} (g : Nat) (b : List UInt8) (n : Nat) (hn : n ≤ b.length) (hb : b.length ≤ 1099511627776) (T T2 : TypeId) (cs cs2 : List SV) (hc : Cln cs) (hc2 : Cln cs2) (p : PR α) (hp : FitsP p) (upd upd2 : α → List SV) (hu : ∀ v, Cln (upd v)) (hu2 : ∀ v, Cln (upd2 v))
 (hg : Eff Tryz.prog g (.agg [.ptr 0 0] :: [.ptr 1 0, .ptr 2 0]) (takeC (b.drop n)) 0 [.cells T cs, .cells T2 cs2] (fun _ => .tup []) (fun v => [.cells T (upd v), .cells T2 (upd2 v)]) (p (takeC (b.drop n)))) :
 Eff Tryz.prog 62 [.agg [.ptr 0 0], .fn g [] [.ptr 1 0, .ptr 2 0]] b n [.cells T cs, .cells T2 cs2] (fun _ => .tup []) (fun v => [.cells T (upd v), .cells T2 (upd2 v)]) (inP 48 p (b.drop n)) := by
 have w1 := And.intro (cln_rb hc) (cln_rb hc2)
 have w2 := And.intro w1 (And.intro (cln_rbF hu) (cln_rbF hu2))
 rcases inP_cases (tag := 48) (p := p) (r := b.drop n) with ⟨h1, e⟩ | ⟨h1, e, h2, e'⟩ | ⟨h1, v, m, h2, h3, e⟩ | ⟨h1, v, m, h2, h3, e⟩
 · rw [e]
   have hs := rseq_er b n hn hb h1
   generalize takeE 48 (b.drop n) = ee at *
   refine pe_seal (by simp) ?_
   refine runE mixed fi62 ?_
   refine effC mixed [0] (hs) w1 ?_
   refine effD [] (take_er_rdr ee h1) w1 ?_; trivial
 · rw [e']
   have hs := rseq_ok b n hn hb h1
   have hg' := eff_er hg h2
   generalize takeC (b.drop n) = c at *
   refine pe_seal (by simp) ?_
   refine runE mixed fi62 ?_
   refine effC mixed [0] (hs) w1 ?_
   refine effC mixed [4] (take_rdr c 0) w1 ?_
   refine effD [4, 1, 2] (hg') w1 ?_; trivial
 · rw [e]
   have hs := rseq_ok b n hn hb h1
   have hg' := eff_ok hg h2
   generalize takeC (b.drop n) = c at *
   rw [Nat.zero_add] at hg'
   refine pe_seal (by simp) ?_
   refine runE mixed fi62 ?_
   refine effC mixed [0] (hs) w1 ?_
   refine effC mixed [4] (take_rdr c 0) w1 ?_
   refine effC mixed [4, 1, 2] (hg') w2 ?_
   refine effD [4] (done_f c m h3) w2 ?_; trivial
 · rw [e]
   have hs := rseq_ok b n hn hb h1
   have hg' := eff_ok hg h2
   have hm := hp _ _ _ h2
   generalize takeC (b.drop n) = c at *
   rw [Nat.zero_add] at hg'
   refine pe_seal (by simp) ?_
   refine runE mixed fi62 ?_
   refine effC mixed [0] (hs) w1 ?_
   refine effC mixed [4] (take_rdr c 0) w1 ?_
   refine effC mixed [4, 1, 2] (hg') w2 ?_
   refine effC mixed [4] (done_t c m (by omega)) w2 ?_; trivial
theorem maybe_nop (g : Nat) (i : Nat) (hi : i ≤ 30) (b : List UInt8) (n : Nat) (hn : n ≤ b.length) (T T2 : TypeId) (cs : List SV) (hc : Cln cs) (h : nextB i (b.drop n) = false) :
 PE Tryz.prog 93 [.agg [.ptr 0 0], rI i, .fn g [] [.ptr 1 0]] (rdr b n :: [.cells T [.ptr 2 0], .cells T2 cs]) (.ret (rB false)) (rdr b n :: [.cells T [.ptr 2 0], .cells T2 cs]) := by
 have w1 := cln_rb hc
 have hs := rtag_no i hi b n hn h
 refine pe_seal (by simp) ?_
 refine runE mixed fi93 ?_
 refine effC mixed [0] (hs) w1 ?_
 refine callI_require (fun _ => ?_) fun h => absurd h (by decide)
 refine run_sound mixed 600 _ ?_
 with_reducible refine sx1 w1 ?_; trivial
theorem maybe_inp {α : Type} (g : Nat) (i : Nat) (hi : i ≤ 30) (b : List UInt8) (n : Nat) (hn : n ≤ b.length) (hb : b.length ≤ 1099511627776) (T T2 : TypeId) (cs : List SV) (hc : Cln cs) (p : PR α) (hp : FitsP p) (upd : α → List SV) (hu : ∀ v, Cln (upd v))
 (hg : Eff Tryz.prog g (.agg [.ptr 0 0] :: [.ptr 1 0]) (takeC (b.drop n)) 0 [.cells T [.ptr 2 0], .cells T2 cs] (fun _ => .tup []) (fun v => [.cells T [.ptr 2 0], .cells T2 (upd v)]) (p (takeC (b.drop n)))) (h : nextB i (b.drop n) = true) :
 Eff Tryz.prog 93 [.agg [.ptr 0 0], rI i, .fn g [] [.ptr 1 0]] b n [.cells T [.ptr 2 0], .cells T2 cs] (fun _ => rB true) (fun v => [.cells T [.ptr 2 0], .cells T2 (upd v)]) (inP (tagB i) p (b.drop n)) := by
 have w1 := cln_rb hc
 have w2 := And.intro w1 (cln_rbF hu)
 rcases inP_cases (tag := tagB i) (p := p) (r := b.drop n) with ⟨h1, e⟩ | ⟨h1, e, h2, e'⟩ | ⟨h1, v, m, h2, h3, e⟩ | ⟨h1, v, m, h2, h3, e⟩
 · rw [e]
   have hs := rtag_er i hi b n hn hb h h1
   generalize takeE (tagB i) (b.drop n) = ee at *
   refine pe_seal (by simp) ?_
   refine runE mixed fi93 ?_
   refine effC mixed [0] (hs) w1 ?_
   refine callI_require (fun h => absurd h (by simp; omega)) fun _ => ?_
   with_reducible refine sxE ?_; trivial
 · rw [e']
   have hs := rtag_ok i hi b n hn hb h h1
   have hg' := eff_er hg h2
   generalize takeC (b.drop n) = c at *
   refine pe_seal (by simp) ?_
   refine runE mixed fi93 ?_
   refine effC mixed [0] (hs) w1 ?_
   refine callI_require (fun _ => ?_) fun h => absurd h (by decide)
   refine goE mixed ?_
   refine effD [4, 1, 2] (hg') w1 ?_; trivial
 · rw [e]
   have hs := rtag_ok i hi b n hn hb h h1
   have hg' := eff_ok hg h2
   generalize takeC (b.drop n) = c at *
   rw [Nat.zero_add] at hg'
   refine pe_seal (by simp) ?_
   refine runE mixed fi93 ?_
   refine effC mixed [0] (hs) w1 ?_
   refine callI_require (fun _ => ?_) fun h => absurd h (by decide)
   refine goE mixed ?_
   refine effC mixed [4, 1, 2] (hg') w2 ?_
   refine effD [4] (done_f c m h3) w2 ?_; trivial
 · rw [e]
   have hs := rtag_ok i hi b n hn hb h h1
   have hg' := eff_ok hg h2
   have hm := hp _ _ _ h2
   generalize takeC (b.drop n) = c at *
   rw [Nat.zero_add] at hg'
   refine pe_seal (by simp) ?_
   refine runE mixed fi93 ?_
   refine effC mixed [0] (hs) w1 ?_
   refine callI_require (fun _ => ?_) fun h => absurd h (by decide)
   refine goE mixed ?_
   refine effC mixed [4, 1, 2] (hg') w2 ?_
   refine effC mixed [4] (done_t c m (by omega)) w2 ?_; trivial
theorem needp {α : Type} (g : Nat) (i : Nat) (hi : i ≤ 30) (b : List UInt8) (n : Nat) (hn : n ≤ b.length) (hb : b.length ≤ 1099511627776) (T T2 : TypeId) (cs : List SV) (hc : Cln cs) (p : PR α) (hp : FitsP p) (upd : α → List SV) (hu : ∀ v, Cln (upd v))
 (hg : Eff Tryz.prog g (.agg [.ptr 0 0] :: [.ptr 1 0]) (takeC (b.drop n)) 0 [.cells T [.ptr 2 0], .cells T2 cs] (fun _ => .tup []) (fun v => [.cells T [.ptr 2 0], .cells T2 (upd v)]) (p (takeC (b.drop n)))) :
 Eff Tryz.prog 60 [.agg [.ptr 0 0], rI i, .fn g [] [.ptr 1 0]] b n [.cells T [.ptr 2 0], .cells T2 cs] (fun _ => .tup []) (fun v => [.cells T [.ptr 2 0], .cells T2 (upd v)]) (needP i p (b.drop n)) := by
 have w1 := cln_rb hc
 have w2 := And.intro w1 (cln_rbF hu)
 cases h : nextB i (b.drop n) with
 | false =>
  have hm := maybe_nop g i hi b n hn T T2 cs hc h
  have : ∃ e, needP i p (b.drop n) = .error e := ⟨_, by unfold needP; rw [h]; rfl⟩
  obtain ⟨e, he⟩ := this
  rw [he]
  refine pe_seal (by simp) ?_
  refine runE mixed fi60 ?_
  refine effC mixed [0, 1, 2] (hm) w1 ?_
  refine callI_require (fun h => absurd h (by decide)) fun _ => ?_
  with_reducible refine sxE ?_; trivial
 | true =>
  have hm := maybe_inp g i hi b n hn hb T T2 cs hc p hp upd hu hg h
  have he : needP i p (b.drop n) = inP (tagB i) p (b.drop n) := by unfold needP; rw [h]; rfl
  rw [he]
  cases hx : inP (tagB i) p (b.drop n) with
  | error e =>
   have hm' := eff_er hm hx
   refine pe_seal (by simp) ?_
   refine runE mixed fi60 ?_
   refine effD [0, 1, 2] (hm') w1 ?_; trivial
  | ok x =>
   obtain ⟨v, k⟩ := x
   have hm' := eff_ok hm hx
   refine pe_seal (by simp) ?_
   refine runE mixed fi60 ?_
   refine effC mixed [0, 1, 2] (hm') w2 ?_
   refine callI_require (fun _ => ?_) fun h => absurd h (by decide)
   refine run_sound mixed 600 _ ?_
   with_reducible refine sx1 w2 ?_; trivial
theorem sequencek {α : Type} (g : Nat) (b : List UInt8) (n : Nat) (hn : n ≤ b.length) (hb : b.length ≤ 1099511627776) (kk : Int) (T : TypeId) (cs : List SV) (hc : Cln cs) (p : PR α) (hp : FitsP p) (upd : α → List SV) (hu : ∀ v, Cln (upd v))
 (hg : Eff Tryz.prog g (.agg [.ptr 0 0] :: [.iptr I64 kk 0, .ptr 1 0]) (takeC (b.drop n)) 0 [.cells T cs] (fun _ => .tup []) (fun v => [.cells T (upd v)]) (p (takeC (b.drop n)))) :
 Eff Tryz.prog 62 [.agg [.ptr 0 0], .fn g [] [.iptr I64 kk 0, .ptr 1 0]] b n [.cells T cs] (fun _ => .tup []) (fun v => [.cells T (upd v)]) (inP 48 p (b.drop n)) := by
 have w1 := cln_rb hc
 have w2 := And.intro w1 (cln_rbF hu)
 rcases inP_cases (tag := 48) (p := p) (r := b.drop n) with ⟨h1, e⟩ | ⟨h1, e, h2, e'⟩ | ⟨h1, v, m, h2, h3, e⟩ | ⟨h1, v, m, h2, h3, e⟩
 · rw [e]
   have hs := rseq_er b n hn hb h1
   generalize takeE 48 (b.drop n) = ee at *
   refine pe_seal (by simp) ?_
   refine runE mixed fi62 ?_
   refine effC mixed [0] (hs) w1 ?_
   refine effD [] (take_er_rdr ee h1) w1 ?_; trivial
 · rw [e']
   have hs := rseq_ok b n hn hb h1
   have hg' := eff_er hg h2
   generalize takeC (b.drop n) = c at *
   refine pe_seal (by simp) ?_
   refine runE mixed fi62 ?_
   refine effC mixed [0] (hs) w1 ?_
   refine effC mixed [3] (take_rdr c 0) w1 ?_
   refine effD [3, 1] (hg') w1 ?_; trivial
 · rw [e]
   have hs := rseq_ok b n hn hb h1
   have hg' := eff_ok hg h2
   generalize takeC (b.drop n) = c at *
   rw [Nat.zero_add] at hg'
   refine pe_seal (by simp) ?_
   refine runE mixed fi62 ?_
   refine effC mixed [0] (hs) w1 ?_
   refine effC mixed [3] (take_rdr c 0) w1 ?_
   refine effC mixed [3, 1] (hg') w2 ?_
   refine effD [3] (done_f c m h3) w2 ?_; trivial
 · rw [e]
   have hs := rseq_ok b n hn hb h1
   have hg' := eff_ok hg h2
   have hm := hp _ _ _ h2
   generalize takeC (b.drop n) = c at *
   rw [Nat.zero_add] at hg'
   refine pe_seal (by simp) ?_
   refine runE mixed fi62 ?_
   refine effC mixed [0] (hs) w1 ?_
   refine effC mixed [3] (take_rdr c 0) w1 ?_
   refine effC mixed [3, 1] (hg') w2 ?_
   refine effC mixed [3] (done_t c m (by omega)) w2 ?_; trivial
theorem applicationk {α : Type} (g : Nat) (i : Nat) (hi : i ≤ 30) (b : List UInt8) (n : Nat) (hn : n ≤ b.length) (hb : b.length ≤ 1099511627776) (kk : Int) (T : TypeId) (cs : List SV) (hc : Cln cs) (p : PR α) (hp : FitsP p) (upd : α → List SV) (hu : ∀ v, Cln (upd v))
 (hg : Eff Tryz.prog g (.agg [.ptr 0 0] :: [.iptr I64 kk 0, .ptr 1 0]) (takeC (takeC (b.drop n))) 0 [.cells T cs] (fun _ => .tup []) (fun v => [.cells T (upd v)]) (p (takeC (takeC (b.drop n))))) :
 Eff Tryz.prog 56 [.agg [.ptr 0 0], rI i, .fn g [] [.iptr I64 kk 0, .ptr 1 0]] b n [.cells T cs] (fun _ => .tup []) (fun v => [.cells T (upd v)]) (inP (appB i) (inP 48 p) (b.drop n)) := by
 have w1 := cln_rb hc
 have w2 := And.intro w1 (cln_rbF hu)
 have hsq := sequencek g (takeC (b.drop n)) 0 (Nat.zero_le _) (tkC_le hb) kk T cs hc p hp upd hu (by rw [List.drop_zero]; exact hg)
 rw [List.drop_zero] at hsq
 clear hg
 rcases inP_cases (tag := appB i) (p := inP 48 p) (r := b.drop n) with ⟨h1, e⟩ | ⟨h1, e, h2, e'⟩ | ⟨h1, v, m, h2, h3, e⟩ | ⟨h1, v, m, h2, h3, e⟩
 · rw [e]
   have hs := rapp_er i hi b n hn hb h1
   generalize takeE (appB i) (b.drop n) = ee at *
   refine pe_seal (by simp) ?_
   refine runE mixed fi56 ?_
   refine effC mixed [0] (hs) w1 ?_
   refine effD [] (take_er_rdr ee h1) w1 ?_; trivial
 · rw [e']
   have hs := rapp_ok i hi b n hn hb h1
   have hg' := eff_er hsq h2
   generalize takeC (b.drop n) = c at *
   refine pe_seal (by simp) ?_
   refine runE mixed fi56 ?_
   refine effC mixed [0] (hs) w1 ?_
   refine effC mixed [3] (take_rdr c 0) w1 ?_
   refine effD [3, 1] (hg') w1 ?_; trivial
 · rw [e]
   have hs := rapp_ok i hi b n hn hb h1
   have hg' := eff_ok hsq h2
   generalize takeC (b.drop n) = c at *
   rw [Nat.zero_add] at hg'
   refine pe_seal (by simp) ?_
   refine runE mixed fi56 ?_
   refine effC mixed [0] (hs) w1 ?_
   refine effC mixed [3] (take_rdr c 0) w1 ?_
   refine effC mixed [3, 1] (hg') w2 ?_
   refine effD [3] (done_f c m h3) w2 ?_; trivial
 · rw [e]
   have hs := rapp_ok i hi b n hn hb h1
   have hg' := eff_ok hsq h2
   have hm := inP_fits _ _ _ h2
   generalize takeC (b.drop n) = c at *
   rw [Nat.zero_add] at hg'
   refine pe_seal (by simp) ?_
   refine runE mixed fi56 ?_
   refine effC mixed [0] (hs) w1 ?_
   refine effC mixed [3] (take_rdr c 0) w1 ?_
   refine effC mixed [3, 1] (hg') w2 ?_
   refine effC mixed [3] (done_t c m (by omega)) w2 ?_; trivial
end Go.Proofs.YtoeieekegmmdkaaGreatDoor

