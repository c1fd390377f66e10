/- Contracts: reading lists of values. -/
import Derived.Test.YtddmkgibghohkaaGreatDoorP23
set_option linter.unusedSimpArgs false
set_option linter.unusedVariables false
namespace Go.Proofs.YtddmkgibghohkaaGreatDoor
open Go Go.Sx Go.Proofs
set_option maxRecDepth 100000
set_option maxHeartbeats 4000000
set_option linter.unusedSimpArgs false

def effO {α : Type} (res : α → SV) : Except Nat (α × Nat) → Out
 | .ok (v, _) => .ret (res v)
 | .error _ => .pan wrongV
def effH {α : Type} (b : List UInt8) (n : Nat) (E : List SObj) (upd : α → List SObj) : Except Nat (α × Nat) → List SObj
 | .ok (v, k) => rdr b (n + k) :: upd v
 | .error _ => .dead :: E.map fun _ => .dead
theorem eff_of {P : Program} {α : Type} {f : FuncId} {args : List SV} {b : List UInt8} {n : Nat} {E : List SObj} {res : α → SV} {upd : α → List SObj} {x : Except Nat (α × Nat)} (hl : ∀ v, E.length ≤ (upd v).length) (h : VC P f args (rdr b n :: E) (SealO (effO res x) (effH b n E upd x))) : Eff P f args b n E res upd x := by
 cases x with
 | error e => exact pe_seal (by simp [effH]) h
 | ok y => obtain ⟨v, k⟩ := y; exact pe_seal (by simp [effH]; exact hl v) h
def tailP {α : Type} (xs : List α) (k : Nat) : Except Nat (List α × Nat) → Except Nat (List α × Nat)
 | .ok (l, m) => .ok (xs ++ l, k + m)
 | .error e => .error e
theorem listP_step {α : Type} {p : PR α} {most : Nat} {c : List UInt8} {xs : List α} {k n : Nat} {v : α} {m : Nat} (hk : k < c.length) (hm : 0 < most) (hp : p (c.drop k) = .ok (v, m)) : tailP xs n (listP p most (c.drop k)) = tailP (xs ++ [v]) (n + m) (listP p (most - 1) (c.drop (k + m))) := by
 obtain ⟨most, rfl⟩ : ∃ q, most = q + 1 := ⟨most - 1, by omega⟩
 simp only [listP]
 rw [if_neg (by rw [List.length_drop]; omega), hp]
 simp only [Nat.add_sub_cancel, List.drop_drop]
 cases listP p most (c.drop (k + m)) with
 | error e => rfl
 | ok y => obtain ⟨l, q⟩ := y; simp [tailP]; omega
theorem listP_full {α : Type} {p : PR α} {c : List UInt8} {xs : List α} {k n : Nat} (hk : k < c.length) : tailP xs n (listP p 0 (c.drop k)) = .error 6 := by
 simp only [listP]
 rw [if_neg (by rw [List.length_drop]; omega)]; rfl
theorem listP_bad {α : Type} {p : PR α} {most : Nat} {c : List UInt8} {xs : List α} {k n : Nat} {e : Nat} (hk : k < c.length) (hm : 0 < most) (hp : p (c.drop k) = .error e) : tailP xs n (listP p most (c.drop k)) = .error e := by
 obtain ⟨most, rfl⟩ : ∃ q, most = q + 1 := ⟨most - 1, by omega⟩
 simp only [listP]
 rw [if_neg (by rw [List.length_drop]; omega), hp]; rfl
theorem listP_end {α : Type} {p : PR α} {most : Nat} {c : List UInt8} {xs : List α} {k n : Nat} (hk : c.length ≤ k) : tailP xs n (listP p most (c.drop k)) = .ok (xs, n) := by
 have : c.drop k = [] := List.drop_eq_nil_of_le hk
 rw [this]
 cases most <;> simp [listP, tailP]
theorem tailP_id {α : Type} (x : Except Nat (List α × Nat)) : tailP [] 0 x = x := by
 cases x with
 | error e => rfl
 | ok y => obtain ⟨l, m⟩ := y; simp [tailP]
theorem values1_salt (g : Nat) (p : PR (SaltT).den) (hp : FitsP p) (most : Nat) (hmost : most ≤ 1000) (b : List UInt8) (n : Nat) (hn : n ≤ b.length) (hb : b.length ≤ 1099511627776) (T T2 T3 : TypeId)
 (hok : ∀ m v q, p (b.drop m) = .ok (v, q) → (SaltT).ok v)
 (hg : ∀ m, m ≤ b.length → Eff Tryz.prog g [.agg [.ptr 0 0]] b m [] (fun x => .agg ((SaltT).cells x)) (fun _ => []) (p (b.drop m))) :
 Eff Tryz.prog 138 [.agg [.ptr 0 0], .ptr 1 0, .ptr 2 0, .ptr 3 0] b n [.cells T [.raw (.slice none 0 0)], .cells T2 [rI most], .cells T3 [.fn g [] []]] (fun _ => .tup []) (fun l => [.cells T [.isl (SaltT) l], .cells T2 [rI most], .cells T3 [.fn g [] []]]) (listP p most (b.drop n)) := by
 refine eff_of (fun _ => Nat.le_refl _) ?_
 generalize hx : listP p most (b.drop n) = X
 refine runE mixed fi138 ?_
 refine si_nilcell 1 0 (SaltT) rfl rfl rfl ?_
 with_reducible refine sxE ?_
 refine si_loopX (ι := Nat × List (SaltT).den × List SObj) (fun s => []) (fun s => [rdr b s.1, .cells T [.bld (s.2.2.length + 5) (SaltT) s.2.1.length], .cells T2 [rI most], .cells T3 [.fn g [] []], .cells 116 [.ptr 0 0]] ++ s.2.2 ++ [.row (SaltT) s.2.1]) (fun s => 2 * (most + 1) - s.2.1.length) (fun s => s.2.1.length ≤ most ∧ n ≤ s.1 ∧ s.1 ≤ b.length ∧ X = tailP s.2.1 (s.1 - n) (listP p (most - s.2.1.length) (b.drop s.1))) (n, [], []) ⟨Nat.zero_le _, Nat.le_refl _, hn, ?_⟩ rfl ?_ ?_
 · rw [Nat.sub_self, tailP_id]; exact hx.symm
 · with_reducible refine sxE ?_; trivial
 rintro ⟨k, xs, G⟩ ⟨h1, h2, h3, h4⟩
 dsimp only at h1 h2 h3 h4
 have hleft := left_c b k h3
 refine goaE mixed ?_
 refine callI_eff [0] hleft rfl (by decide) ⟨rfl, rfl, trivial⟩ rfl rfl ?_
 simp only [afterO, Out.ren, SV.ren, mgA, sig, SObj.ren, SV.renL, List.cons_append, List.nil_append, List.append_assoc, List.set_cons_zero, List.set_cons_succ, List.set, List.map, List.append_nil]
 refine goaE mixed ?_
 refine ⟨fun hp0 => callI_require (fun hmo => ?_) (fun hmo => ?_), fun hp0 => ?_⟩
 · have hlt : xs.length < most := of_decide_eq_true hmo
   have hkl : k < b.length := by omega
   refine run_sound mixed 1 _ ?_
   with_reducible refine sxaE ?_
   refine si_drw [1, 3, 4] mixed ?_
   refine goaE mixed ?_
   cases hpk : p (b.drop k) with
   | error e =>
    have hg' := eff_er (hg k h3) hpk
    have hX := h4.trans (listP_bad hkl (by omega) hpk)
    rw [hX]
    refine callR_eff [0] hg' rfl (by decide) ⟨rfl, rfl, trivial⟩ rfl rfl ?_ ?_
    · simp (maxSteps := 3000000) only [mgA, sig, sameG_cons, sameG_nil, List.append_assoc, getA, getA0, setA, setA0, List.length_append, Nat.add_assoc, go_sem, ↓zA, ↓reduceIte, ↓reduceDIte, reduceCtorEq, Nat.reduceAdd, Nat.reduceSub, Nat.reduceLeDiff, Nat.reduceLT, Nat.reduceEqDiff, Nat.reduceBEq, Nat.reduceMul, Int.reduceToNat, Int.reduceEq, Int.reduceLT, Int.reduceLE] <;> try simp only [zB]
    · simp only [afterR, Out.ren, SV.ren, mgA, sig, SObj.ren, SV.renL, List.cons_append, List.nil_append, List.append_assoc, List.set_cons_zero, List.set_cons_succ, List.set, List.map, List.append_nil, effO, effH]
      with_reducible refine sxaE ?_; trivial
   | ok y =>
    obtain ⟨v, m⟩ := y
    have hg' := eff_ok (hg k h3) hpk
    have hfit := hp _ _ _ hpk
    rw [List.length_drop] at hfit
    have hX := h4.trans (listP_step hkl (by omega) hpk)
    refine callR_eff [0] hg' rfl (by decide) ⟨rfl, rfl, trivial⟩ rfl rfl ?_ ?_
    · simp (maxSteps := 3000000) only [mgA, sig, sameG_cons, sameG_nil, List.append_assoc, getA, getA0, setA, setA0, List.length_append, Nat.add_assoc, go_sem, ↓zA, ↓reduceIte, ↓reduceDIte, reduceCtorEq, Nat.reduceAdd, Nat.reduceSub, Nat.reduceLeDiff, Nat.reduceLT, Nat.reduceEqDiff, Nat.reduceBEq, Nat.reduceMul, Int.reduceToNat, Int.reduceEq, Int.reduceLT, Int.reduceLE] <;> try simp only [zB]
    · simp only [afterR, Out.ren, SV.ren, mgA, sig, SObj.ren, SV.renL, List.cons_append, List.nil_append, List.append_assoc, List.set_cons_zero, List.set_cons_succ, List.set, List.map, List.append_nil]
      refine goaE mixed ?_
      have hob := hok _ _ _ hpk
      refine ⟨hob.2.1, ?_⟩
      refine ⟨⟨by omega, by omega⟩, (k + m, xs ++ [v], G ++ [.dead, .row (SaltT) [v]]), ⟨by simp; omega, by dsimp only; omega, by dsimp only; omega, ?_⟩, by simp; omega, ?_, ?_⟩
      · dsimp only
        rw [hX, List.length_append, List.length_singleton, Nat.sub_sub]
        congr 1
        omega
      · simp
      · with_reducible refine sxaE ?_; trivial
 · have hlt : ¬ xs.length < most := of_decide_eq_false hmo
   have hm0 : most - xs.length = 0 := by omega
   rw [hm0] at h4
   have hX := h4.trans (listP_full (by omega))
   rw [hX]
   simp (maxSteps := 3000000) only [effO, effH, List.append_assoc, getA, getA0, setA, setA0, List.length_append, Nat.add_assoc, go_sem, ↓zA, ↓reduceIte, ↓reduceDIte, reduceCtorEq, Nat.reduceAdd, Nat.reduceSub, Nat.reduceLeDiff, Nat.reduceLT, Nat.reduceEqDiff, Nat.reduceBEq, Nat.reduceMul, Int.reduceToNat, Int.reduceEq, Int.reduceLT, Int.reduceLE] <;> try simp only [zB]
 · have hX := h4.trans (listP_end (by omega))
   rw [hX]
   simp (maxSteps := 3000000) only [effO, effH, List.append_assoc, getA, getA0, setA, setA0, List.length_append, Nat.add_assoc, go_sem, ↓zA, ↓reduceIte, ↓reduceDIte, reduceCtorEq, Nat.reduceAdd, Nat.reduceSub, Nat.reduceLeDiff, Nat.reduceLT, Nat.reduceEqDiff, Nat.reduceBEq, Nat.reduceMul, Int.reduceToNat, Int.reduceEq, Int.reduceLT, Int.reduceLE] <;> try simp only [zB]
   rw [if_neg (by omega)]
   with_reducible refine sxE ?_
   refine ⟨congrArg (Value.int .i64) (by omega), ⟨Nat.le_refl _, by omega⟩, List.take_of_length_le (Nat.le_refl _)⟩
theorem values_salt (g : Nat) (p : PR (SaltT).den) (hp : FitsP p) (most : Nat) (hmost : most ≤ 1000) (b : List UInt8) (n : Nat) (hn : n ≤ b.length) (hb : b.length ≤ 1099511627776)
 (hok : ∀ c v q, c.length ≤ 1099511627776 → p c = .ok (v, q) → (SaltT).ok v)
 (hg : ∀ (c : List UInt8) m, m ≤ c.length → c.length ≤ 1099511627776 → Eff Tryz.prog g [.agg [.ptr 0 0]] c m [] (fun x => .agg ((SaltT).cells x)) (fun _ => []) (p (c.drop m))) :
 Eff Tryz.prog 78 [.agg [.ptr 0 0], rI most, .fn g [] []] b n [] (fun l => .isl (SaltT) l) (fun _ => []) (inP 48 (listP p most) (b.drop n)) := by
 have h1 := fun T T2 T3 => values1_salt g p hp most hmost (takeC (b.drop n)) 0 (Nat.zero_le _) (tkC_le hb) T T2 T3 (fun m v q h => hok _ v q (by have := tkC_le (n := n) hb; rw [List.length_drop]; omega) h) (fun m hm => hg _ m hm (tkC_le hb))
 simp only [List.drop_zero] at h1
 have hs := fun T T2 T3 => sequence3 138 b n hn hb T T2 T3 [.raw (.slice none 0 0)] [rI most] [.fn g [] []] (cln_raw cln_nil) (cln_raw cln_nil) (cln_fn cln_nil) (listP p most) (listP_fits hp most) (fun l => [.isl (SaltT) l]) (fun _ => [rI most]) (fun _ => [.fn g [] []]) (fun _ => cln_isl cln_nil) (fun _ => cln_raw cln_nil) (fun _ => cln_fn cln_nil) (h1 T T2 T3)
 cases hx : inP 48 (listP p most) (b.drop n) with
 | error e =>
  have hm' := fun T T2 T3 => eff_er (hs T T2 T3) hx
  refine pe_seal (by simp) ?_
  refine runE mixed fi78 ?_
  refine effP [0, 4, 2, 3] (hm' _ _ _) ?_; trivial
 | ok x =>
  obtain ⟨v, k⟩ := x
  have hm' := fun T T2 T3 => eff_ok (hs T T2 T3) hx
  refine pe_seal (by simp) ?_
  refine runE mixed fi78 ?_
  refine effE mixed [0, 4, 2, 3] (hm' _ _ _) ?_; trivial
theorem values1_key (g : Nat) (p : PR (KeyT).den) (hp : FitsP p) (most : Nat) (hmost : most ≤ 1000) (b : List UInt8) (n : Nat) (hn : n ≤ b.length) (hb : b.length ≤ 1099511627776) (T T2 T3 : TypeId)
 (hok : ∀ m v q, p (b.drop m) = .ok (v, q) → (KeyT).ok v)
 (hg : ∀ m, m ≤ b.length → Eff Tryz.prog g [.agg [.ptr 0 0]] b m [] (fun x => .agg ((KeyT).cells x)) (fun _ => []) (p (b.drop m))) :
 Eff Tryz.prog 280 [.agg [.ptr 0 0], .ptr 1 0, .ptr 2 0, .ptr 3 0] b n [.cells T [.raw (.slice none 0 0)], .cells T2 [rI most], .cells T3 [.fn g [] []]] (fun _ => .tup []) (fun l => [.cells T [.isl (KeyT) l], .cells T2 [rI most], .cells T3 [.fn g [] []]]) (listP p most (b.drop n)) := by
 refine eff_of (fun _ => Nat.le_refl _) ?_
 generalize hx : listP p most (b.drop n) = X
 refine runE mixed fi280 ?_
 refine si_nilcell 1 0 (KeyT) rfl rfl rfl ?_
 with_reducible refine sxE ?_
 refine si_loopX (ι := Nat × List (KeyT).den × List SObj) (fun s => []) (fun s => [rdr b s.1, .cells T [.bld (s.2.2.length + 5) (KeyT) s.2.1.length], .cells T2 [rI most], .cells T3 [.fn g [] []], .cells 116 [.ptr 0 0]] ++ s.2.2 ++ [.row (KeyT) s.2.1]) (fun s => 2 * (most + 1) - s.2.1.length) (fun s => s.2.1.length ≤ most ∧ n ≤ s.1 ∧ s.1 ≤ b.length ∧ X = tailP s.2.1 (s.1 - n) (listP p (most - s.2.1.length) (b.drop s.1))) (n, [], []) ⟨Nat.zero_le _, Nat.le_refl _, hn, ?_⟩ rfl ?_ ?_
 · rw [Nat.sub_self, tailP_id]; exact hx.symm
 · with_reducible refine sxE ?_; trivial
 rintro ⟨k, xs, G⟩ ⟨h1, h2, h3, h4⟩
 dsimp only at h1 h2 h3 h4
 have hleft := left_c b k h3
 refine goaE mixed ?_
 refine callI_eff [0] hleft rfl (by decide) ⟨rfl, rfl, trivial⟩ rfl rfl ?_
 simp only [afterO, Out.ren, SV.ren, mgA, sig, SObj.ren, SV.renL, List.cons_append, List.nil_append, List.append_assoc, List.set_cons_zero, List.set_cons_succ, List.set, List.map, List.append_nil]
 refine goaE mixed ?_
 refine ⟨fun hp0 => callI_require (fun hmo => ?_) (fun hmo => ?_), fun hp0 => ?_⟩
 · have hlt : xs.length < most := of_decide_eq_true hmo
   have hkl : k < b.length := by omega
   refine run_sound mixed 1 _ ?_
   with_reducible refine sxaE ?_
   refine si_drw [1, 3, 4] mixed ?_
   refine goaE mixed ?_
   cases hpk : p (b.drop k) with
   | error e =>
    have hg' := eff_er (hg k h3) hpk
    have hX := h4.trans (listP_bad hkl (by omega) hpk)
    rw [hX]
    refine callR_eff [0] hg' rfl (by decide) ⟨rfl, rfl, trivial⟩ rfl rfl ?_ ?_
    · simp (maxSteps := 3000000) only [mgA, sig, sameG_cons, sameG_nil, List.append_assoc, getA, getA0, setA, setA0, List.length_append, Nat.add_assoc, go_sem, ↓zA, ↓reduceIte, ↓reduceDIte, reduceCtorEq, Nat.reduceAdd, Nat.reduceSub, Nat.reduceLeDiff, Nat.reduceLT, Nat.reduceEqDiff, Nat.reduceBEq, Nat.reduceMul, Int.reduceToNat, Int.reduceEq, Int.reduceLT, Int.reduceLE] <;> try simp only [zB]
    · simp only [afterR, Out.ren, SV.ren, mgA, sig, SObj.ren, SV.renL, List.cons_append, List.nil_append, List.append_assoc, List.set_cons_zero, List.set_cons_succ, List.set, List.map, List.append_nil, effO, effH]
      with_reducible refine sxaE ?_; trivial
   | ok y =>
    obtain ⟨v, m⟩ := y
    have hg' := eff_ok (hg k h3) hpk
    have hfit := hp _ _ _ hpk
    rw [List.length_drop] at hfit
    have hX := h4.trans (listP_step hkl (by omega) hpk)
    refine callR_eff [0] hg' rfl (by decide) ⟨rfl, rfl, trivial⟩ rfl rfl ?_ ?_
    · simp (maxSteps := 3000000) only [mgA, sig, sameG_cons, sameG_nil, List.append_assoc, getA, getA0, setA, setA0, List.length_append, Nat.add_assoc, go_sem, ↓zA, ↓reduceIte, ↓reduceDIte, reduceCtorEq, Nat.reduceAdd, Nat.reduceSub, Nat.reduceLeDiff, Nat.reduceLT, Nat.reduceEqDiff, Nat.reduceBEq, Nat.reduceMul, Int.reduceToNat, Int.reduceEq, Int.reduceLT, Int.reduceLE] <;> try simp only [zB]
    · simp only [afterR, Out.ren, SV.ren, mgA, sig, SObj.ren, SV.renL, List.cons_append, List.nil_append, List.append_assoc, List.set_cons_zero, List.set_cons_succ, List.set, List.map, List.append_nil]
      refine goaE mixed ?_
      have hob := hok _ _ _ hpk
      skip
      refine ⟨⟨by omega, by omega⟩, (k + m, xs ++ [v], G ++ [.dead, .row (KeyT) [v]]), ⟨by simp; omega, by dsimp only; omega, by dsimp only; omega, ?_⟩, by simp; omega, ?_, ?_⟩
      · dsimp only
        rw [hX, List.length_append, List.length_singleton, Nat.sub_sub]
        congr 1
        omega
      · simp
      · with_reducible refine sxaE ?_; trivial
 · have hlt : ¬ xs.length < most := of_decide_eq_false hmo
   have hm0 : most - xs.length = 0 := by omega
   rw [hm0] at h4
   have hX := h4.trans (listP_full (by omega))
   rw [hX]
   simp (maxSteps := 3000000) only [effO, effH, List.append_assoc, getA, getA0, setA, setA0, List.length_append, Nat.add_assoc, go_sem, ↓zA, ↓reduceIte, ↓reduceDIte, reduceCtorEq, Nat.reduceAdd, Nat.reduceSub, Nat.reduceLeDiff, Nat.reduceLT, Nat.reduceEqDiff, Nat.reduceBEq, Nat.reduceMul, Int.reduceToNat, Int.reduceEq, Int.reduceLT, Int.reduceLE] <;> try simp only [zB]
 · have hX := h4.trans (listP_end (by omega))
   rw [hX]
   simp (maxSteps := 3000000) only [effO, effH, List.append_assoc, getA, getA0, setA, setA0, List.length_append, Nat.add_assoc, go_sem, ↓zA, ↓reduceIte, ↓reduceDIte, reduceCtorEq, Nat.reduceAdd, Nat.reduceSub, Nat.reduceLeDiff, Nat.reduceLT, Nat.reduceEqDiff, Nat.reduceBEq, Nat.reduceMul, Int.reduceToNat, Int.reduceEq, Int.reduceLT, Int.reduceLE] <;> try simp only [zB]
   rw [if_neg (by omega)]
   with_reducible refine sxE ?_
   refine ⟨congrArg (Value.int .i64) (by omega), ⟨Nat.le_refl _, by omega⟩, List.take_of_length_le (Nat.le_refl _)⟩
theorem values_key (g : Nat) (p : PR (KeyT).den) (hp : FitsP p) (most : Nat) (hmost : most ≤ 1000) (b : List UInt8) (n : Nat) (hn : n ≤ b.length) (hb : b.length ≤ 1099511627776)
 (hok : ∀ c v q, c.length ≤ 1099511627776 → p c = .ok (v, q) → (KeyT).ok v)
 (hg : ∀ (c : List UInt8) m, m ≤ c.length → c.length ≤ 1099511627776 → Eff Tryz.prog g [.agg [.ptr 0 0]] c m [] (fun x => .agg ((KeyT).cells x)) (fun _ => []) (p (c.drop m))) :
 Eff Tryz.prog 264 [.agg [.ptr 0 0], rI most, .fn g [] []] b n [] (fun l => .isl (KeyT) l) (fun _ => []) (inP 48 (listP p most) (b.drop n)) := by
 have h1 := fun T T2 T3 => values1_key g p hp most hmost (takeC (b.drop n)) 0 (Nat.zero_le _) (tkC_le hb) T T2 T3 (fun m v q h => hok _ v q (by have := tkC_le (n := n) hb; rw [List.length_drop]; omega) h) (fun m hm => hg _ m hm (tkC_le hb))
 simp only [List.drop_zero] at h1
 have hs := fun T T2 T3 => sequence3 280 b n hn hb T T2 T3 [.raw (.slice none 0 0)] [rI most] [.fn g [] []] (cln_raw cln_nil) (cln_raw cln_nil) (cln_fn cln_nil) (listP p most) (listP_fits hp most) (fun l => [.isl (KeyT) l]) (fun _ => [rI most]) (fun _ => [.fn g [] []]) (fun _ => cln_isl cln_nil) (fun _ => cln_raw cln_nil) (fun _ => cln_fn cln_nil) (h1 T T2 T3)
 cases hx : inP 48 (listP p most) (b.drop n) with
 | error e =>
  have hm' := fun T T2 T3 => eff_er (hs T T2 T3) hx
  refine pe_seal (by simp) ?_
  refine runE mixed fi264 ?_
  refine effP [0, 4, 2, 3] (hm' _ _ _) ?_; trivial
 | ok x =>
  obtain ⟨v, k⟩ := x
  have hm' := fun T T2 T3 => eff_ok (hs T T2 T3) hx
  refine pe_seal (by simp) ?_
  refine runE mixed fi264 ?_
  refine effE mixed [0, 4, 2, 3] (hm' _ _ _) ?_; trivial
theorem values1_prin (g : Nat) (p : PR (PrinT).den) (hp : FitsP p) (most : Nat) (hmost : most ≤ 1000) (b : List UInt8) (n : Nat) (hn : n ≤ b.length) (hb : b.length ≤ 1099511627776) (T T2 T3 : TypeId)
 (hok : ∀ m v q, p (b.drop m) = .ok (v, q) → (PrinT).ok v)
 (hg : ∀ m, m ≤ b.length → Eff Tryz.prog g [.agg [.ptr 0 0]] b m [] (fun x => .agg ((PrinT).cells x)) (fun _ => []) (p (b.drop m))) :
 Eff Tryz.prog 261 [.agg [.ptr 0 0], .ptr 1 0, .ptr 2 0, .ptr 3 0] b n [.cells T [.raw (.slice none 0 0)], .cells T2 [rI most], .cells T3 [.fn g [] []]] (fun _ => .tup []) (fun l => [.cells T [.isl (PrinT) l], .cells T2 [rI most], .cells T3 [.fn g [] []]]) (listP p most (b.drop n)) := by
 refine eff_of (fun _ => Nat.le_refl _) ?_
 generalize hx : listP p most (b.drop n) = X
 refine runE mixed fi261 ?_
 refine si_nilcell 1 0 (PrinT) rfl rfl rfl ?_
 with_reducible refine sxE ?_
 refine si_loopX (ι := Nat × List (PrinT).den × List SObj) (fun s => []) (fun s => [rdr b s.1, .cells T [.bld (s.2.2.length + 5) (PrinT) s.2.1.length], .cells T2 [rI most], .cells T3 [.fn g [] []], .cells 116 [.ptr 0 0]] ++ s.2.2 ++ [.row (PrinT) s.2.1]) (fun s => 2 * (most + 1) - s.2.1.length) (fun s => s.2.1.length ≤ most ∧ n ≤ s.1 ∧ s.1 ≤ b.length ∧ X = tailP s.2.1 (s.1 - n) (listP p (most - s.2.1.length) (b.drop s.1))) (n, [], []) ⟨Nat.zero_le _, Nat.le_refl _, hn, ?_⟩ rfl ?_ ?_
 · rw [Nat.sub_self, tailP_id]; exact hx.symm
 · with_reducible refine sxE ?_; trivial
 rintro ⟨k, xs, G⟩ ⟨h1, h2, h3, h4⟩
 dsimp only at h1 h2 h3 h4
 have hleft := left_c b k h3
 refine goaE mixed ?_
 refine callI_eff [0] hleft rfl (by decide) ⟨rfl, rfl, trivial⟩ rfl rfl ?_
 simp only [afterO, Out.ren, SV.ren, mgA, sig, SObj.ren, SV.renL, List.cons_append, List.nil_append, List.append_assoc, List.set_cons_zero, List.set_cons_succ, List.set, List.map, List.append_nil]
 refine goaE mixed ?_
 refine ⟨fun hp0 => callI_require (fun hmo => ?_) (fun hmo => ?_), fun hp0 => ?_⟩
 · have hlt : xs.length < most := of_decide_eq_true hmo
   have hkl : k < b.length := by omega
   refine run_sound mixed 1 _ ?_
   with_reducible refine sxaE ?_
   refine si_drw [1, 3, 4] mixed ?_
   refine goaE mixed ?_
   cases hpk : p (b.drop k) with
   | error e =>
    have hg' := eff_er (hg k h3) hpk
    have hX := h4.trans (listP_bad hkl (by omega) hpk)
    rw [hX]
    refine callR_eff [0] hg' rfl (by decide) ⟨rfl, rfl, trivial⟩ rfl rfl ?_ ?_
    · simp (maxSteps := 3000000) only [mgA, sig, sameG_cons, sameG_nil, List.append_assoc, getA, getA0, setA, setA0, List.length_append, Nat.add_assoc, go_sem, ↓zA, ↓reduceIte, ↓reduceDIte, reduceCtorEq, Nat.reduceAdd, Nat.reduceSub, Nat.reduceLeDiff, Nat.reduceLT, Nat.reduceEqDiff, Nat.reduceBEq, Nat.reduceMul, Int.reduceToNat, Int.reduceEq, Int.reduceLT, Int.reduceLE] <;> try simp only [zB]
    · simp only [afterR, Out.ren, SV.ren, mgA, sig, SObj.ren, SV.renL, List.cons_append, List.nil_append, List.append_assoc, List.set_cons_zero, List.set_cons_succ, List.set, List.map, List.append_nil, effO, effH]
      with_reducible refine sxaE ?_; trivial
   | ok y =>
    obtain ⟨v, m⟩ := y
    have hg' := eff_ok (hg k h3) hpk
    have hfit := hp _ _ _ hpk
    rw [List.length_drop] at hfit
    have hX := h4.trans (listP_step hkl (by omega) hpk)
    refine callR_eff [0] hg' rfl (by decide) ⟨rfl, rfl, trivial⟩ rfl rfl ?_ ?_
    · simp (maxSteps := 3000000) only [mgA, sig, sameG_cons, sameG_nil, List.append_assoc, getA, getA0, setA, setA0, List.length_append, Nat.add_assoc, go_sem, ↓zA, ↓reduceIte, ↓reduceDIte, reduceCtorEq, Nat.reduceAdd, Nat.reduceSub, Nat.reduceLeDiff, Nat.reduceLT, Nat.reduceEqDiff, Nat.reduceBEq, Nat.reduceMul, Int.reduceToNat, Int.reduceEq, Int.reduceLT, Int.reduceLE] <;> try simp only [zB]
    · simp only [afterR, Out.ren, SV.ren, mgA, sig, SObj.ren, SV.renL, List.cons_append, List.nil_append, List.append_assoc, List.set_cons_zero, List.set_cons_succ, List.set, List.map, List.append_nil]
      refine goaE mixed ?_
      have hob := hok _ _ _ hpk
      refine ⟨hob.2, ?_⟩
      refine ⟨⟨by omega, by omega⟩, (k + m, xs ++ [v], G ++ [.dead, .row (PrinT) [v]]), ⟨by simp; omega, by dsimp only; omega, by dsimp only; omega, ?_⟩, by simp; omega, ?_, ?_⟩
      · dsimp only
        rw [hX, List.length_append, List.length_singleton, Nat.sub_sub]
        congr 1
        omega
      · simp
      · with_reducible refine sxaE ?_; trivial
 · have hlt : ¬ xs.length < most := of_decide_eq_false hmo
   have hm0 : most - xs.length = 0 := by omega
   rw [hm0] at h4
   have hX := h4.trans (listP_full (by omega))
   rw [hX]
   simp (maxSteps := 3000000) only [effO, effH, List.append_assoc, getA, getA0, setA, setA0, List.length_append, Nat.add_assoc, go_sem, ↓zA, ↓reduceIte, ↓reduceDIte, reduceCtorEq, Nat.reduceAdd, Nat.reduceSub, Nat.reduceLeDiff, Nat.reduceLT, Nat.reduceEqDiff, Nat.reduceBEq, Nat.reduceMul, Int.reduceToNat, Int.reduceEq, Int.reduceLT, Int.reduceLE] <;> try simp only [zB]
 · have hX := h4.trans (listP_end (by omega))
   rw [hX]
   simp (maxSteps := 3000000) only [effO, effH, List.append_assoc, getA, getA0, setA, setA0, List.length_append, Nat.add_assoc, go_sem, ↓zA, ↓reduceIte, ↓reduceDIte, reduceCtorEq, Nat.reduceAdd, Nat.reduceSub, Nat.reduceLeDiff, Nat.reduceLT, Nat.reduceEqDiff, Nat.reduceBEq, Nat.reduceMul, Int.reduceToNat, Int.reduceEq, Int.reduceLT, Int.reduceLE] <;> try simp only [zB]
   rw [if_neg (by omega)]
   with_reducible refine sxE ?_
   refine ⟨congrArg (Value.int .i64) (by omega), ⟨Nat.le_refl _, by omega⟩, List.take_of_length_le (Nat.le_refl _)⟩
theorem values_prin (g : Nat) (p : PR (PrinT).den) (hp : FitsP p) (most : Nat) (hmost : most ≤ 1000) (b : List UInt8) (n : Nat) (hn : n ≤ b.length) (hb : b.length ≤ 1099511627776)
 (hok : ∀ c v q, c.length ≤ 1099511627776 → p c = .ok (v, q) → (PrinT).ok v)
 (hg : ∀ (c : List UInt8) m, m ≤ c.length → c.length ≤ 1099511627776 → Eff Tryz.prog g [.agg [.ptr 0 0]] c m [] (fun x => .agg ((PrinT).cells x)) (fun _ => []) (p (c.drop m))) :
 Eff Tryz.prog 221 [.agg [.ptr 0 0], rI most, .fn g [] []] b n [] (fun l => .isl (PrinT) l) (fun _ => []) (inP 48 (listP p most) (b.drop n)) := by
 have h1 := fun T T2 T3 => values1_prin g p hp most hmost (takeC (b.drop n)) 0 (Nat.zero_le _) (tkC_le hb) T T2 T3 (fun m v q h => hok _ v q (by have := tkC_le (n := n) hb; rw [List.length_drop]; omega) h) (fun m hm => hg _ m hm (tkC_le hb))
 simp only [List.drop_zero] at h1
 have hs := fun T T2 T3 => sequence3 261 b n hn hb T T2 T3 [.raw (.slice none 0 0)] [rI most] [.fn g [] []] (cln_raw cln_nil) (cln_raw cln_nil) (cln_fn cln_nil) (listP p most) (listP_fits hp most) (fun l => [.isl (PrinT) l]) (fun _ => [rI most]) (fun _ => [.fn g [] []]) (fun _ => cln_isl cln_nil) (fun _ => cln_raw cln_nil) (fun _ => cln_fn cln_nil) (h1 T T2 T3)
 cases hx : inP 48 (listP p most) (b.drop n) with
 | error e =>
  have hm' := fun T T2 T3 => eff_er (hs T T2 T3) hx
  refine pe_seal (by simp) ?_
  refine runE mixed fi221 ?_
  refine effP [0, 4, 2, 3] (hm' _ _ _) ?_; trivial
 | ok x =>
  obtain ⟨v, k⟩ := x
  have hm' := fun T T2 T3 => eff_ok (hs T T2 T3) hx
  refine pe_seal (by simp) ?_
  refine runE mixed fi221 ?_
  refine effE mixed [0, 4, 2, 3] (hm' _ _ _) ?_; trivial
theorem values1_kset (g : Nat) (p : PR (SetT).den) (hp : FitsP p) (most : Nat) (hmost : most ≤ 1000) (b : List UInt8) (n : Nat) (hn : n ≤ b.length) (hb : b.length ≤ 1099511627776) (T T2 T3 : TypeId)
 (hok : ∀ m v q, p (b.drop m) = .ok (v, q) → (SetT).ok v)
 (hg : ∀ m, m ≤ b.length → Eff Tryz.prog g [.agg [.ptr 0 0]] b m [] (fun x => .agg ((SetT).cells x)) (fun _ => []) (p (b.drop m))) :
 Eff Tryz.prog 262 [.agg [.ptr 0 0], .ptr 1 0, .ptr 2 0, .ptr 3 0] b n [.cells T [.raw (.slice none 0 0)], .cells T2 [rI most], .cells T3 [.fn g [] []]] (fun _ => .tup []) (fun l => [.cells T [.isl (SetT) l], .cells T2 [rI most], .cells T3 [.fn g [] []]]) (listP p most (b.drop n)) := by
 refine eff_of (fun _ => Nat.le_refl _) ?_
 generalize hx : listP p most (b.drop n) = X
 refine runE mixed fi262 ?_
 refine si_nilcell 1 0 (SetT) rfl rfl rfl ?_
 with_reducible refine sxE ?_
 refine si_loopX (ι := Nat × List (SetT).den × List SObj) (fun s => []) (fun s => [rdr b s.1, .cells T [.bld (s.2.2.length + 5) (SetT) s.2.1.length], .cells T2 [rI most], .cells T3 [.fn g [] []], .cells 116 [.ptr 0 0]] ++ s.2.2 ++ [.row (SetT) s.2.1]) (fun s => 2 * (most + 1) - s.2.1.length) (fun s => s.2.1.length ≤ most ∧ n ≤ s.1 ∧ s.1 ≤ b.length ∧ X = tailP s.2.1 (s.1 - n) (listP p (most - s.2.1.length) (b.drop s.1))) (n, [], []) ⟨Nat.zero_le _, Nat.le_refl _, hn, ?_⟩ rfl ?_ ?_
 · rw [Nat.sub_self, tailP_id]; exact hx.symm
 · with_reducible refine sxE ?_; trivial
 rintro ⟨k, xs, G⟩ ⟨h1, h2, h3, h4⟩
 dsimp only at h1 h2 h3 h4
 have hleft := left_c b k h3
 refine goaE mixed ?_
 refine callI_eff [0] hleft rfl (by decide) ⟨rfl, rfl, trivial⟩ rfl rfl ?_
 simp only [afterO, Out.ren, SV.ren, mgA, sig, SObj.ren, SV.renL, List.cons_append, List.nil_append, List.append_assoc, List.set_cons_zero, List.set_cons_succ, List.set, List.map, List.append_nil]
 refine goaE mixed ?_
 refine ⟨fun hp0 => callI_require (fun hmo => ?_) (fun hmo => ?_), fun hp0 => ?_⟩
 · have hlt : xs.length < most := of_decide_eq_true hmo
   have hkl : k < b.length := by omega
   refine run_sound mixed 1 _ ?_
   with_reducible refine sxaE ?_
   refine si_drw [1, 3, 4] mixed ?_
   refine goaE mixed ?_
   cases hpk : p (b.drop k) with
   | error e =>
    have hg' := eff_er (hg k h3) hpk
    have hX := h4.trans (listP_bad hkl (by omega) hpk)
    rw [hX]
    refine callR_eff [0] hg' rfl (by decide) ⟨rfl, rfl, trivial⟩ rfl rfl ?_ ?_
    · simp (maxSteps := 3000000) only [mgA, sig, sameG_cons, sameG_nil, List.append_assoc, getA, getA0, setA, setA0, List.length_append, Nat.add_assoc, go_sem, ↓zA, ↓reduceIte, ↓reduceDIte, reduceCtorEq, Nat.reduceAdd, Nat.reduceSub, Nat.reduceLeDiff, Nat.reduceLT, Nat.reduceEqDiff, Nat.reduceBEq, Nat.reduceMul, Int.reduceToNat, Int.reduceEq, Int.reduceLT, Int.reduceLE] <;> try simp only [zB]
    · simp only [afterR, Out.ren, SV.ren, mgA, sig, SObj.ren, SV.renL, List.cons_append, List.nil_append, List.append_assoc, List.set_cons_zero, List.set_cons_succ, List.set, List.map, List.append_nil, effO, effH]
      with_reducible refine sxaE ?_; trivial
   | ok y =>
    obtain ⟨v, m⟩ := y
    have hg' := eff_ok (hg k h3) hpk
    have hfit := hp _ _ _ hpk
    rw [List.length_drop] at hfit
    have hX := h4.trans (listP_step hkl (by omega) hpk)
    refine callR_eff [0] hg' rfl (by decide) ⟨rfl, rfl, trivial⟩ rfl rfl ?_ ?_
    · simp (maxSteps := 3000000) only [mgA, sig, sameG_cons, sameG_nil, List.append_assoc, getA, getA0, setA, setA0, List.length_append, Nat.add_assoc, go_sem, ↓zA, ↓reduceIte, ↓reduceDIte, reduceCtorEq, Nat.reduceAdd, Nat.reduceSub, Nat.reduceLeDiff, Nat.reduceLT, Nat.reduceEqDiff, Nat.reduceBEq, Nat.reduceMul, Int.reduceToNat, Int.reduceEq, Int.reduceLT, Int.reduceLE] <;> try simp only [zB]
    · simp only [afterR, Out.ren, SV.ren, mgA, sig, SObj.ren, SV.renL, List.cons_append, List.nil_append, List.append_assoc, List.set_cons_zero, List.set_cons_succ, List.set, List.map, List.append_nil]
      refine goaE mixed ?_
      have hob := hok _ _ _ hpk
      refine ⟨hob.2.2.1, ?_⟩
      refine ⟨⟨by omega, by omega⟩, (k + m, xs ++ [v], G ++ [.dead, .row (SetT) [v]]), ⟨by simp; omega, by dsimp only; omega, by dsimp only; omega, ?_⟩, by simp; omega, ?_, ?_⟩
      · dsimp only
        rw [hX, List.length_append, List.length_singleton, Nat.sub_sub]
        congr 1
        omega
      · simp
      · with_reducible refine sxaE ?_; trivial
 · have hlt : ¬ xs.length < most := of_decide_eq_false hmo
   have hm0 : most - xs.length = 0 := by omega
   rw [hm0] at h4
   have hX := h4.trans (listP_full (by omega))
   rw [hX]
   simp (maxSteps := 3000000) only [effO, effH, List.append_assoc, getA, getA0, setA, setA0, List.length_append, Nat.add_assoc, go_sem, ↓zA, ↓reduceIte, ↓reduceDIte, reduceCtorEq, Nat.reduceAdd, Nat.reduceSub, Nat.reduceLeDiff, Nat.reduceLT, Nat.reduceEqDiff, Nat.reduceBEq, Nat.reduceMul, Int.reduceToNat, Int.reduceEq, Int.reduceLT, Int.reduceLE] <;> try simp only [zB]
 · have hX := h4.trans (listP_end (by omega))
   rw [hX]
   simp (maxSteps := 3000000) only [effO, effH, List.append_assoc, getA, getA0, setA, setA0, List.length_append, Nat.add_assoc, go_sem, ↓zA, ↓reduceIte, ↓reduceDIte, reduceCtorEq, Nat.reduceAdd, Nat.reduceSub, Nat.reduceLeDiff, Nat.reduceLT, Nat.reduceEqDiff, Nat.reduceBEq, Nat.reduceMul, Int.reduceToNat, Int.reduceEq, Int.reduceLT, Int.reduceLE] <;> try simp only [zB]
   rw [if_neg (by omega)]
   with_reducible refine sxE ?_
   refine ⟨congrArg (Value.int .i64) (by omega), ⟨Nat.le_refl _, by omega⟩, List.take_of_length_le (Nat.le_refl _)⟩
theorem values_kset (g : Nat) (p : PR (SetT).den) (hp : FitsP p) (most : Nat) (hmost : most ≤ 1000) (b : List UInt8) (n : Nat) (hn : n ≤ b.length) (hb : b.length ≤ 1099511627776)
 (hok : ∀ c v q, c.length ≤ 1099511627776 → p c = .ok (v, q) → (SetT).ok v)
 (hg : ∀ (c : List UInt8) m, m ≤ c.length → c.length ≤ 1099511627776 → Eff Tryz.prog g [.agg [.ptr 0 0]] c m [] (fun x => .agg ((SetT).cells x)) (fun _ => []) (p (c.drop m))) :
 Eff Tryz.prog 227 [.agg [.ptr 0 0], rI most, .fn g [] []] b n [] (fun l => .isl (SetT) l) (fun _ => []) (inP 48 (listP p most) (b.drop n)) := by
 have h1 := fun T T2 T3 => values1_kset g p hp most hmost (takeC (b.drop n)) 0 (Nat.zero_le _) (tkC_le hb) T T2 T3 (fun m v q h => hok _ v q (by have := tkC_le (n := n) hb; rw [List.length_drop]; omega) h) (fun m hm => hg _ m hm (tkC_le hb))
 simp only [List.drop_zero] at h1
 have hs := fun T T2 T3 => sequence3 262 b n hn hb T T2 T3 [.raw (.slice none 0 0)] [rI most] [.fn g [] []] (cln_raw cln_nil) (cln_raw cln_nil) (cln_fn cln_nil) (listP p most) (listP_fits hp most) (fun l => [.isl (SetT) l]) (fun _ => [rI most]) (fun _ => [.fn g [] []]) (fun _ => cln_isl cln_nil) (fun _ => cln_raw cln_nil) (fun _ => cln_fn cln_nil) (h1 T T2 T3)
 cases hx : inP 48 (listP p most) (b.drop n) with
 | error e =>
  have hm' := fun T T2 T3 => eff_er (hs T T2 T3) hx
  refine pe_seal (by simp) ?_
  refine runE mixed fi227 ?_
  refine effP [0, 4, 2, 3] (hm' _ _ _) ?_; trivial
 | ok x =>
  obtain ⟨v, k⟩ := x
  have hm' := fun T T2 T3 => eff_ok (hs T T2 T3) hx
  refine pe_seal (by simp) ?_
  refine runE mixed fi227 ?_
  refine effE mixed [0, 4, 2, 3] (hm' _ _ _) ?_; trivial
theorem values1_bytes (g : Nat) (p : PR ((Ty.slice .u8)).den) (hp : FitsP p) (most : Nat) (hmost : most ≤ 1000) (b : List UInt8) (n : Nat) (hn : n ≤ b.length) (hb : b.length ≤ 1099511627776) (T T2 T3 : TypeId)
 (hok : ∀ m v q, p (b.drop m) = .ok (v, q) → ((Ty.slice .u8)).ok v)
 (hg : ∀ m, m ≤ b.length → Eff Tryz.prog g [.agg [.ptr 0 0]] b m [] (fun x => .isl .u8 x) (fun _ => []) (p (b.drop m))) :
 Eff Tryz.prog 268 [.agg [.ptr 0 0], .ptr 1 0, .ptr 2 0, .ptr 3 0] b n [.cells T [.raw (.slice none 0 0)], .cells T2 [rI most], .cells T3 [.fn g [] []]] (fun _ => .tup []) (fun l => [.cells T [.isl ((Ty.slice .u8)) l], .cells T2 [rI most], .cells T3 [.fn g [] []]]) (listP p most (b.drop n)) := by
 refine eff_of (fun _ => Nat.le_refl _) ?_
 generalize hx : listP p most (b.drop n) = X
 refine runE mixed fi268 ?_
 refine si_nilcell 1 0 ((Ty.slice .u8)) rfl rfl rfl ?_
 with_reducible refine sxE ?_
 refine si_loopX (ι := Nat × List ((Ty.slice .u8)).den × List SObj) (fun s => []) (fun s => [rdr b s.1, .cells T [.bld (s.2.2.length + 5) ((Ty.slice .u8)) s.2.1.length], .cells T2 [rI most], .cells T3 [.fn g [] []], .cells 116 [.ptr 0 0]] ++ s.2.2 ++ [.row ((Ty.slice .u8)) s.2.1]) (fun s => 2 * (most + 1) - s.2.1.length) (fun s => s.2.1.length ≤ most ∧ n ≤ s.1 ∧ s.1 ≤ b.length ∧ X = tailP s.2.1 (s.1 - n) (listP p (most - s.2.1.length) (b.drop s.1))) (n, [], []) ⟨Nat.zero_le _, Nat.le_refl _, hn, ?_⟩ rfl ?_ ?_
 · rw [Nat.sub_self, tailP_id]; exact hx.symm
 · with_reducible refine sxE ?_; trivial
 rintro ⟨k, xs, G⟩ ⟨h1, h2, h3, h4⟩
 dsimp only at h1 h2 h3 h4
 have hleft := left_c b k h3
 refine goaE mixed ?_
 refine callI_eff [0] hleft rfl (by decide) ⟨rfl, rfl, trivial⟩ rfl rfl ?_
 simp only [afterO, Out.ren, SV.ren, mgA, sig, SObj.ren, SV.renL, List.cons_append, List.nil_append, List.append_assoc, List.set_cons_zero, List.set_cons_succ, List.set, List.map, List.append_nil]
 refine goaE mixed ?_
 refine ⟨fun hp0 => callI_require (fun hmo => ?_) (fun hmo => ?_), fun hp0 => ?_⟩
 · have hlt : xs.length < most := of_decide_eq_true hmo
   have hkl : k < b.length := by omega
   refine run_sound mixed 1 _ ?_
   with_reducible refine sxaE ?_
   refine si_drw [1, 3, 4] mixed ?_
   refine goaE mixed ?_
   cases hpk : p (b.drop k) with
   | error e =>
    have hg' := eff_er (hg k h3) hpk
    have hX := h4.trans (listP_bad hkl (by omega) hpk)
    rw [hX]
    refine callR_eff [0] hg' rfl (by decide) ⟨rfl, rfl, trivial⟩ rfl rfl ?_ ?_
    · simp (maxSteps := 3000000) only [mgA, sig, sameG_cons, sameG_nil, List.append_assoc, getA, getA0, setA, setA0, List.length_append, Nat.add_assoc, go_sem, ↓zA, ↓reduceIte, ↓reduceDIte, reduceCtorEq, Nat.reduceAdd, Nat.reduceSub, Nat.reduceLeDiff, Nat.reduceLT, Nat.reduceEqDiff, Nat.reduceBEq, Nat.reduceMul, Int.reduceToNat, Int.reduceEq, Int.reduceLT, Int.reduceLE] <;> try simp only [zB]
    · simp only [afterR, Out.ren, SV.ren, mgA, sig, SObj.ren, SV.renL, List.cons_append, List.nil_append, List.append_assoc, List.set_cons_zero, List.set_cons_succ, List.set, List.map, List.append_nil, effO, effH]
      with_reducible refine sxaE ?_; trivial
   | ok y =>
    obtain ⟨v, m⟩ := y
    have hg' := eff_ok (hg k h3) hpk
    have hfit := hp _ _ _ hpk
    rw [List.length_drop] at hfit
    have hX := h4.trans (listP_step hkl (by omega) hpk)
    refine callR_eff [0] hg' rfl (by decide) ⟨rfl, rfl, trivial⟩ rfl rfl ?_ ?_
    · simp (maxSteps := 3000000) only [mgA, sig, sameG_cons, sameG_nil, List.append_assoc, getA, getA0, setA, setA0, List.length_append, Nat.add_assoc, go_sem, ↓zA, ↓reduceIte, ↓reduceDIte, reduceCtorEq, Nat.reduceAdd, Nat.reduceSub, Nat.reduceLeDiff, Nat.reduceLT, Nat.reduceEqDiff, Nat.reduceBEq, Nat.reduceMul, Int.reduceToNat, Int.reduceEq, Int.reduceLT, Int.reduceLE] <;> try simp only [zB]
    · simp only [afterR, Out.ren, SV.ren, mgA, sig, SObj.ren, SV.renL, List.cons_append, List.nil_append, List.append_assoc, List.set_cons_zero, List.set_cons_succ, List.set, List.map, List.append_nil]
      refine goaE mixed ?_
      have hob := hok _ _ _ hpk
      skip
      refine ⟨⟨by omega, by omega⟩, (k + m, xs ++ [v], G ++ [.dead, .row ((Ty.slice .u8)) [v]]), ⟨by simp; omega, by dsimp only; omega, by dsimp only; omega, ?_⟩, by simp; omega, ?_, ?_⟩
      · dsimp only
        rw [hX, List.length_append, List.length_singleton, Nat.sub_sub]
        congr 1
        omega
      · simp
      · with_reducible refine sxaE ?_; trivial
 · have hlt : ¬ xs.length < most := of_decide_eq_false hmo
   have hm0 : most - xs.length = 0 := by omega
   rw [hm0] at h4
   have hX := h4.trans (listP_full (by omega))
   rw [hX]
   simp (maxSteps := 3000000) only [effO, effH, List.append_assoc, getA, getA0, setA, setA0, List.length_append, Nat.add_assoc, go_sem, ↓zA, ↓reduceIte, ↓reduceDIte, reduceCtorEq, Nat.reduceAdd, Nat.reduceSub, Nat.reduceLeDiff, Nat.reduceLT, Nat.reduceEqDiff, Nat.reduceBEq, Nat.reduceMul, Int.reduceToNat, Int.reduceEq, Int.reduceLT, Int.reduceLE] <;> try simp only [zB]
 · have hX := h4.trans (listP_end (by omega))
   rw [hX]
   simp (maxSteps := 3000000) only [effO, effH, List.append_assoc, getA, getA0, setA, setA0, List.length_append, Nat.add_assoc, go_sem, ↓zA, ↓reduceIte, ↓reduceDIte, reduceCtorEq, Nat.reduceAdd, Nat.reduceSub, Nat.reduceLeDiff, Nat.reduceLT, Nat.reduceEqDiff, Nat.reduceBEq, Nat.reduceMul, Int.reduceToNat, Int.reduceEq, Int.reduceLT, Int.reduceLE] <;> try simp only [zB]
   rw [if_neg (by omega)]
   with_reducible refine sxE ?_
   refine ⟨congrArg (Value.int .i64) (by omega), ⟨Nat.le_refl _, by omega⟩, List.take_of_length_le (Nat.le_refl _)⟩
theorem values_bytes (g : Nat) (p : PR ((Ty.slice .u8)).den) (hp : FitsP p) (most : Nat) (hmost : most ≤ 1000) (b : List UInt8) (n : Nat) (hn : n ≤ b.length) (hb : b.length ≤ 1099511627776)
 (hok : ∀ c v q, c.length ≤ 1099511627776 → p c = .ok (v, q) → ((Ty.slice .u8)).ok v)
 (hg : ∀ (c : List UInt8) m, m ≤ c.length → c.length ≤ 1099511627776 → Eff Tryz.prog g [.agg [.ptr 0 0]] c m [] (fun x => .isl .u8 x) (fun _ => []) (p (c.drop m))) :
 Eff Tryz.prog 236 [.agg [.ptr 0 0], rI most, .fn g [] []] b n [] (fun l => .isl ((Ty.slice .u8)) l) (fun _ => []) (inP 48 (listP p most) (b.drop n)) := by
 have h1 := fun T T2 T3 => values1_bytes g p hp most hmost (takeC (b.drop n)) 0 (Nat.zero_le _) (tkC_le hb) T T2 T3 (fun m v q h => hok _ v q (by have := tkC_le (n := n) hb; rw [List.length_drop]; omega) h) (fun m hm => hg _ m hm (tkC_le hb))
 simp only [List.drop_zero] at h1
 have hs := fun T T2 T3 => sequence3 268 b n hn hb T T2 T3 [.raw (.slice none 0 0)] [rI most] [.fn g [] []] (cln_raw cln_nil) (cln_raw cln_nil) (cln_fn cln_nil) (listP p most) (listP_fits hp most) (fun l => [.isl ((Ty.slice .u8)) l]) (fun _ => [rI most]) (fun _ => [.fn g [] []]) (fun _ => cln_isl cln_nil) (fun _ => cln_raw cln_nil) (fun _ => cln_fn cln_nil) (h1 T T2 T3)
 cases hx : inP 48 (listP p most) (b.drop n) with
 | error e =>
  have hm' := fun T T2 T3 => eff_er (hs T T2 T3) hx
  refine pe_seal (by simp) ?_
  refine runE mixed fi236 ?_
  refine effP [0, 4, 2, 3] (hm' _ _ _) ?_; trivial
 | ok x =>
  obtain ⟨v, k⟩ := x
  have hm' := fun T T2 T3 => eff_ok (hs T T2 T3) hx
  refine pe_seal (by simp) ?_
  refine runE mixed fi236 ?_
  refine effE mixed [0, 4, 2, 3] (hm' _ _ _) ?_; trivial
end Go.Proofs.YtddmkgibghohkaaGreatDoor
/- Contracts: reading the elements of an offer; decoding an offer. -/
namespace Go.Proofs.YtddmkgibghohkaaGreatDoor
open Go Go.Sx Go.Proofs
set_option maxRecDepth 100000
set_option maxHeartbeats 4000000
set_option linter.unusedSimpArgs false

attribute [go_sem] effO effH
def shiftP {α : Type} (k : Nat) : Except Nat (α × Nat) → Except Nat (α × Nat)
 | .ok (v, m) => .ok (v, k + m)
 | .error e => .error e
theorem bindP_er {α β : Type} {p : PR α} {f : α → PR β} {r : List UInt8} {e : Nat} (h : p r = .error e) : bindP p f r = .error e := by unfold bindP; rw [h]
theorem bindP_st {α β : Type} {p : PR α} {f : α → PR β} {b : List UInt8} {n : Nat} {v : α} {k : Nat} (h : p (b.drop n) = .ok (v, k)) : bindP p f (b.drop n) = shiftP k (f v (b.drop (n + k))) := by
 unfold bindP; rw [h]
 simp only [List.drop_drop]
 cases f v (b.drop (n + k)) with
 | error e => rfl
 | ok y => rfl
theorem fits_at {α : Type} {p : PR α} (hp : FitsP p) {b : List UInt8} {n : Nat} (hn : n ≤ b.length) {v : α} {k : Nat} (h : p (b.drop n) = .ok (v, k)) : n + k ≤ b.length := by
 have := hp _ _ _ h
 rw [List.length_drop] at this; omega
theorem salA (b : List UInt8) (n : Nat) (hn : n ≤ b.length) (hb : b.length ≤ 1099511627776) (x0 x1 x2 : Value) :
 Eff Tryz.prog 143 [.agg [.ptr 0 0], .ptr 1 0] b n [.cells 73 [.raw x0, .raw x1, .raw x2]] (fun _ => .tup []) (fun v => [.cells 73 [rI v, .raw x1, .raw x2]]) (intP (b.drop n)) := by
 cases hx : intP (b.drop n) with
 | error e =>
  have hr := rint_er b n hn hb hx
  refine pe_seal (by simp) ?_
  refine runE mixed fi143 ?_
  refine effE mixed [0] (hr) ?_
  refine effP [] (take_er_int _ e (rdP_ne hx)) ?_; trivial
 | ok x =>
  obtain ⟨v, k⟩ := x
  have hr := rint_ok b n hn hb hx
  refine pe_seal (by simp) ?_
  refine runE mixed fi143 ?_
  refine effE mixed [0] (hr) ?_
  refine callI_pure (take_int _) ?_
  refine goE mixed ?_; trivial
theorem salB (b : List UInt8) (n : Nat) (hn : n ≤ b.length) (hb : b.length ≤ 1099511627776) (x0 x1 x2 : Value) :
 Eff Tryz.prog 146 [.agg [.ptr 0 0], .ptr 1 0] b n [.cells 73 [.raw x0, .raw x1, .raw x2]] (fun _ => .tup []) (fun v => [.cells 73 [.raw x0, rS v, .raw x2]]) (strP (b.drop n)) := by
 cases hx : strP (b.drop n) with
 | error e =>
  have hr := rstr_er b n hn hb hx
  refine pe_seal (by simp) ?_
  refine runE mixed fi146 ?_
  refine effE mixed [0] (hr) ?_
  refine effP [] (take_er_str _ e (rdP_ne hx)) ?_; trivial
 | ok x =>
  obtain ⟨v, k⟩ := x
  have hr := rstr_ok b n hn hb hx
  refine pe_seal (by simp) ?_
  refine runE mixed fi146 ?_
  refine effE mixed [0] (hr) ?_
  refine callI_pure (take_str _) ?_
  refine goE mixed ?_; trivial
theorem salC (b : List UInt8) (n : Nat) (hn : n ≤ b.length) (hb : b.length ≤ 1099511627776) (x0 x1 x2 : Value) :
 Eff Tryz.prog 149 [.agg [.ptr 0 0], .ptr 1 0] b n [.cells 73 [.raw x0, .raw x1, .raw x2]] (fun _ => .tup []) (fun v => [.cells 73 [.raw x0, .raw x1, rI v]]) (intP (b.drop n)) := by
 cases hx : intP (b.drop n) with
 | error e =>
  have hr := rint_er b n hn hb hx
  refine pe_seal (by simp) ?_
  refine runE mixed fi149 ?_
  refine effE mixed [0] (hr) ?_
  refine effP [] (take_er_int _ e (rdP_ne hx)) ?_; trivial
 | ok x =>
  obtain ⟨v, k⟩ := x
  have hr := rint_ok b n hn hb hx
  refine pe_seal (by simp) ?_
  refine runE mixed fi149 ?_
  refine effE mixed [0] (hr) ?_
  refine callI_pure (take_int _) ?_
  refine goE mixed ?_; trivial
def saltIn : PR Salt := bindP (needP 0 intP) fun a => bindP (needP 1 strP) fun s => bindP (needP 2 intP) fun i => retP (a, s, i)
theorem salt1_c (b : List UInt8) (n : Nat) (hn : n ≤ b.length) (hb : b.length ≤ 1099511627776) :
 Eff Tryz.prog 141 [.agg [.ptr 0 0], .ptr 1 0] b n [.cells 73 [rI 0, rS ⟨#[]⟩, rI 0]] (fun _ => .tup []) (fun s => [.cells 73 (SaltT.cells s)]) (saltIn (b.drop n)) := by
 refine eff_of (fun _ => Nat.le_refl _) ?_
 unfold saltIn
 have c3 : ∀ a s i : Value, Cln [.raw a, .raw s, .raw i] := fun _ _ _ => cln_raw (cln_raw (cln_raw cln_nil))
 refine runE mixed fi141 ?_
 have n1 := need1 143 0 (by omega) b n hn hb 73 _ (c3 (.int .i64 0) (.string ⟨#[]⟩) (.int .i64 0)) intP rdP_fits _ (fun v => c3 (.int .i64 v) _ _) (salA (takeC (b.drop n)) 0 (Nat.zero_le _) (tkC_le hb) _ _ _)
 cases h1 : needP 0 intP (b.drop n) with
 | error e =>
  rw [bindP_er h1]
  have n1' := eff_er n1 h1
  refine effP [0, 1] (n1') ?_; trivial
 | ok x =>
  obtain ⟨v1, k1⟩ := x
  rw [bindP_st h1]
  have n1' := eff_ok n1 h1
  have f1 := fits_at needP_fits hn h1
  refine effE mixed [0, 1] (n1') ?_
  have n2 := need1 146 1 (by omega) b _ f1 hb 73 _ (c3 (.int .i64 v1) (.string ⟨#[]⟩) (.int .i64 0)) strP rdP_fits _ (fun v => c3 _ (.string v) _) (salB (takeC (b.drop _)) 0 (Nat.zero_le _) (tkC_le hb) _ _ _)
  cases h2 : needP 1 strP (b.drop (n + k1)) with
  | error e =>
   rw [bindP_er h2]
   have n2' := eff_er n2 h2
   simp only [shiftP]
   refine effP [0, 1] (n2') ?_; trivial
  | ok x =>
   obtain ⟨v2, k2⟩ := x
   rw [bindP_st h2]
   have n2' := eff_ok n2 h2
   have f2 := fits_at needP_fits f1 h2
   refine effE mixed [0, 1] (n2') ?_
   have n3 := need1 149 2 (by omega) b _ f2 hb 73 _ (c3 (.int .i64 v1) (.string v2) (.int .i64 0)) intP rdP_fits _ (fun v => c3 _ _ (.int .i64 v)) (salC (takeC (b.drop _)) 0 (Nat.zero_le _) (tkC_le hb) _ _ _)
   cases h3 : needP 2 intP (b.drop (n + k1 + k2)) with
   | error e =>
    rw [bindP_er h3]
    have n3' := eff_er n3 h3
    simp only [shiftP]
    refine effP [0, 1] (n3') ?_; trivial
   | ok x =>
    obtain ⟨v3, k3⟩ := x
    rw [bindP_st h3]
    have n3' := eff_ok n3 h3
    simp only [shiftP, retP]
    refine effE mixed [0, 1] (n3') ?_
    exact congrArg (Value.int .i64) (by omega)
theorem saltIn_fits : FitsP saltIn := bindP_fits needP_fits fun _ => bindP_fits needP_fits fun _ => bindP_fits needP_fits fun _ => retP_fits
theorem salt_c (b : List UInt8) (n : Nat) (hn : n ≤ b.length) (hb : b.length ≤ 1099511627776) :
 Eff Tryz.prog 79 [.agg [.ptr 0 0]] b n [] (fun s => .agg (SaltT.cells s)) (fun _ => []) (saltP (b.drop n)) := by
 have h1 := salt1_c (takeC (b.drop n)) 0 (Nat.zero_le _) (tkC_le hb)
 rw [List.drop_zero] at h1
 have hs := sequence1 141 b n hn hb 73 _ (cln_raw (cln_raw (cln_raw cln_nil))) saltIn saltIn_fits (fun s => SaltT.cells s) (fun s => cln_ty SaltT s) h1
 have he : saltP (b.drop n) = inP 48 saltIn (b.drop n) := rfl
 rw [he]
 cases hx : inP 48 saltIn (b.drop n) with
 | error e =>
  have hm' := eff_er hs hx
  refine pe_seal (by simp) ?_
  refine runE mixed fi79 ?_
  refine effP [0, 2] (hm') ?_; trivial
 | ok x =>
  obtain ⟨v, k⟩ := x
  have hm' := eff_ok hs hx
  refine pe_seal (by simp) ?_
  refine runE mixed fi79 ?_
  refine effE mixed [0, 2] (hm') ?_; trivial
end Go.Proofs.YtddmkgibghohkaaGreatDoor
/- Contracts: decoding an offer. -/
namespace Go.Proofs.YtddmkgibghohkaaGreatDoor
open Go Go.Sx Go.Proofs
set_option maxRecDepth 100000
set_option maxHeartbeats 4000000
set_option linter.unusedSimpArgs false

def OkP {α : Type} (p : PR α) (Q : α → Prop) : Prop := ∀ r v m, r.length ≤ 1099511627776 → p r = .ok (v, m) → Q v
theorem okP_rd {α : Type} {tag : UInt8} {dec : List UInt8 → Option α} {Q : α → Prop} (h : ∀ c v, c.length ≤ 1099511627776 → dec c = some v → Q v) : OkP (rdP tag dec) Q := fun r v m hr hx => by
 obtain ⟨_, h2, _⟩ := rdP_ok hx
 exact h _ v (Nat.le_trans (takeC_len r) hr) h2
theorem okP_in {α : Type} {tag : UInt8} {p : PR α} {Q : α → Prop} (h : OkP p Q) : OkP (inP tag p) Q := fun r v m hr hx => by
 rcases inP_cases (tag := tag) (p := p) (r := r) with ⟨_, e⟩ | ⟨_, _, _, e⟩ | ⟨_, _, _, _, _, e⟩ | ⟨_, u, k, g, _, e⟩ <;> rw [e] at hx <;> cases hx
 exact h _ _ _ (Nat.le_trans (takeC_len r) hr) g
theorem okP_need {α : Type} {n : Nat} {p : PR α} {Q : α → Prop} (h : OkP p Q) : OkP (needP n p) Q := fun r v m hr hx => by
 unfold needP at hx
 split at hx
 · exact okP_in h r v m hr hx
 · cases hx
theorem okP_dflt {α : Type} {d : α} {n : Nat} {p : PR α} {Q : α → Prop} (hd : Q d) (h : OkP p Q) : OkP (dfltP d n p) Q := fun r v m hr hx => by
 cases hb : nextB n r with
 | false => rw [dfltP_no hb] at hx; cases hx; exact hd
 | true => rw [dfltP_in hb] at hx; exact okP_in h r v m hr hx
theorem okP_bind {α β : Type} {p : PR α} {f : α → PR β} {Q1 : α → Prop} {Q : β → Prop} (hp : OkP p Q1) (hf : ∀ v, Q1 v → OkP (f v) Q) : OkP (bindP p f) Q := fun r v m hr hx => by
 unfold bindP at hx
 cases h1 : p r with
 | error e => rw [h1] at hx; cases hx
 | ok y =>
  obtain ⟨u, k⟩ := y
  rw [h1] at hx
  simp only at hx
  cases h2 : f u (r.drop k) with
  | error e => rw [h2] at hx; cases hx
  | ok z =>
   obtain ⟨w, l⟩ := z
   rw [h2] at hx; cases hx
   exact hf u (hp r u k hr h1) _ _ _ (by rw [List.length_drop]; omega) h2
theorem okP_ret {α : Type} {v : α} {Q : α → Prop} (h : Q v) : OkP (retP v) Q := fun r u m _ hx => by cases hx; exact h
theorem okP_list {α : Type} {p : PR α} {Q : α → Prop} (hp : OkP p Q) : ∀ n, OkP (listP p n) fun l => l.length ≤ n ∧ ∀ x ∈ l, Q x
 | 0, r, v, m, _, hx => by
  simp only [listP] at hx
  split at hx
  · cases hx; exact ⟨Nat.le_refl _, by simp⟩
  · cases hx
 | n + 1, r, v, m, hr, hx => by
  simp only [listP] at hx
  split at hx
  · cases hx; exact ⟨by simp, by simp⟩
  · cases h1 : p r with
    | error e => rw [h1] at hx; cases hx
    | ok y =>
     obtain ⟨u, k⟩ := y
     rw [h1] at hx
     simp only at hx
     cases h2 : listP p n (r.drop k) with
     | error e => rw [h2] at hx; cases hx
     | ok z =>
      obtain ⟨w, l⟩ := z
      rw [h2] at hx; cases hx
      have h3 := okP_list hp n _ _ _ (by rw [List.length_drop]; omega) h2
      exact ⟨by simp; exact h3.1, fun x hxm => by
       rcases List.mem_cons.1 hxm with rfl | hm
       · exact hp r _ k hr h1
       · exact h3.2 x hm⟩
theorem okP_true {α : Type} {p : PR α} : OkP p fun _ => True := fun _ _ _ _ _ => trivial
theorem okP_str : OkP strP fun s => s.size ≤ 1099511627776 := okP_rd fun c v hc hd => by
 unfold decStr at hd; cases hd
 show c.toArray.size ≤ _
 simpa using hc
theorem okP_salt : OkP saltP (SaltT).ok := okP_in (okP_bind (Q1 := fun _ => True) okP_true fun a _ => okP_bind (okP_need okP_str) fun s hs => okP_bind (Q1 := fun _ => True) okP_true fun i _ => okP_ret ⟨trivial, by show s.size ≤ _; omega, trivial⟩)
theorem new_c (b : List UInt8) (hb : b.length ≤ 140737488355328) : PE Tryz.prog 151 [.isl .u8 b] [] (.ret (.ptr 0 0)) [rdr b 0] := by
 refine pe_seal (by simp) ?_
 refine runE mixed fi151 ?_
 refine callI_pure (bclone_c b hb) ?_
 refine goE mixed ?_
 refine effE mixed [] (inner_c b) ?_; trivial
theorem offer1_c (b : List UInt8) (n : Nat) (hn : n ≤ b.length) (hb : b.length ≤ 1099511627776) :
 Eff Tryz.prog 77 [.agg [.ptr 0 0]] b n [] (fun l => .isl SaltT l) (fun _ => []) (offerP (b.drop n)) := by
 have hv := values_salt 79 saltP inP_fits 4 (by omega) b n hn hb (fun c v q hc h => okP_salt c v q hc h) (fun c m hm hc => salt_c c m hm hc)
 have he : offerP (b.drop n) = inP 48 (listP saltP 4) (b.drop n) := rfl
 rw [he]
 cases hx : inP 48 (listP saltP 4) (b.drop n) with
 | error e =>
  have hm' := eff_er hv hx
  refine pe_seal (by simp) ?_
  refine runE mixed fi77 ?_
  refine effP [0] (hm') ?_; trivial
 | ok x =>
  obtain ⟨v, k⟩ := x
  have hm' := eff_ok hv hx
  refine pe_seal (by simp) ?_
  refine runE mixed fi77 ?_
  refine effE mixed [0] (hm') ?_; trivial
theorem equal_d (a b : List UInt8) : PC Tryz.prog 69 [.isl .u8 a, .isl .u8 b] (rB (decide (a = b))) := by
 refine pc_of rfl rfl ?_
 refine runE mixed fi69 ?_
 exact decide_eq_decide.2 ⟨fun h => by simpa [strOf] using h, fun h => by rw [h]⟩
theorem dpanS_c (T : TypeId) (x : Value) (R : List SObj) (K : List SObj → Prop) (h : ∀ G, K (.cells T [rI 6] :: (R ++ G))) : DCall Tryz.prog 150 [.ptr 0 0] (some wrongV) (.cells T [.raw x] :: R) K := by
 refine recE mixed fi150 ?_
 exact h _
theorem dretS_c (o : SObj) (R : List SObj) (K : List SObj → Prop) (h : ∀ G, K (o :: (R ++ G))) : DCall Tryz.prog 150 [.ptr 0 0] none (o :: R) K := by
 refine recE mixed fi150 ?_
 exact h _
theorem decodeS_c (b : List UInt8) (hb : b.length ≤ 1099511627776) : PC Tryz.prog 80 [.isl .u8 b, .fn 77 [] [], .fn 70 [] [], .fn 71 [] []] (.tup [.isl SaltT ((decOffer b).getD []), rI (if (decOffer b).isSome then 0 else 6)]) := by
 have hnew := new_c b (by omega)
 have hread := offer1_c b 0 (Nat.zero_le _) hb
 have hok : ∀ l m, offerP b = .ok (l, m) → l.length ≤ 4 ∧ ∀ x ∈ l, (SaltT).ok x := fun l m h => okP_in (okP_list okP_salt 4) b l m hb h
 rw [List.drop_zero] at hread
 refine pc_seal rfl rfl ?_
 refine defE mixed fi80 ?_
 refine goE mixed ?_
 refine effE mixed [] (hnew) ?_
 cases hx : offerP b with
 | error e =>
  have hd : decOffer b = none := by unfold decOffer allP; rw [hx]
  have hr := eff_er hread hx
  rw [hd]
  refine effP [1] (hr) ?_
  refine ⟨by simp, dpanS_c _ _ _ _ fun G => ?_⟩
  with_reducible refine sxE ?_
  exact ⟨rfl, rfl⟩
 | ok x =>
  obtain ⟨l, m⟩ := x
  have hr := eff_ok hread hx
  obtain ⟨hl4, hlo⟩ := hok l m hx
  rw [Nat.zero_add] at hr
  refine effE mixed [1] (hr) ?_
  have hfit : m ≤ b.length := inP_fits _ _ _ hx
  by_cases hm : m < b.length
  · have hd : decOffer b = none := by unfold decOffer allP; rw [hx]; simp [hm]
    rw [hd]
    refine effP [1] (done_f b m hm) ?_
    refine ⟨by simp, dpanS_c _ _ _ _ fun G => ?_⟩
    with_reducible refine sxE ?_
    exact ⟨rfl, rfl⟩
  · refine effE mixed [1] (done_t b m (by omega)) ?_
    refine callI_pure (voffer_c l (by omega)) ?_
    cases hv : vOffer l with
    | false =>
     have hd : decOffer b = none := by unfold decOffer allP; rw [hx]; simp [hm, hv]
     rw [hd]
     refine goE mixed ?_
     refine callI_require (fun h => absurd h (by decide)) fun _ => ?_
     with_reducible refine sxE ?_
     refine ⟨by simp, dpanS_c _ _ _ _ fun G => ?_⟩
     with_reducible refine sxE ?_
     exact ⟨rfl, rfl⟩
    | true =>
     refine goE mixed ?_
     have ho : (Ty.slice SaltT).ok l := ⟨by omega, hlo⟩
     refine callI_pure (writeOffer_c l ho (by omega)) ?_
     refine goE mixed ?_
     refine callI_pure (equal_d _ _) ?_
     by_cases he : offerS l = b
     · have hd : decOffer b = some l := by unfold decOffer allP; rw [hx]; simp [hm, hv, he]
       rw [hd, decide_eq_true he]
       refine goE mixed ?_
       refine callI_pure require_t ?_
       refine goE mixed ?_
       refine dretS_c _ _ _ fun G => ?_
       with_reducible refine sxE ?_
       exact ⟨rfl, rfl⟩
     · have hd : decOffer b = none := by unfold decOffer allP; rw [hx]; simp [hm, hv, he]
       rw [hd, decide_eq_false he]
       refine goE mixed ?_
       refine callI_require (fun h => absurd h (by decide)) fun _ => ?_
       with_reducible refine sxE ?_
       refine ⟨by simp, dpanS_c _ _ _ _ fun G => ?_⟩
       with_reducible refine sxE ?_
       exact ⟨rfl, rfl⟩
theorem decodeOffer_c (b : List UInt8) (hb : b.length ≤ 1099511627776) : PC Tryz.prog 35 [.isl .u8 b] (.tup [.isl SaltT ((decOffer b).getD []), rI (if (decOffer b).isSome then 0 else 6)]) := by
 have h := decodeS_c b hb
 generalize (decOffer b).getD [] = l at *
 generalize (decOffer b).isSome = s at *
 refine pc_seal rfl rfl ?_
 refine runE mixed fi35 ?_
 refine callI_pure h ?_
 refine goE mixed ?_; trivial
end Go.Proofs.YtddmkgibghohkaaGreatDoor
