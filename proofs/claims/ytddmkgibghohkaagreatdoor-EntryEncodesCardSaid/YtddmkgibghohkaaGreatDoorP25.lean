/- Contracts: reading lists of values. -/
import Derived.Test.YtddmkgibghohkaaGreatDoorP24
set_option linter.unusedSimpArgs false
set_option linter.unusedVariables false
namespace Go.Proofs.YtddmkgibghohkaaGreatDoor
open Go Go.Sx Go.Proofs
set_option maxRecDepth 100000
set_option maxHeartbeats 4000000
set_option linter.unusedSimpArgs false

def effO {α : Type} (res : α → SV) : Except Nat (α × Nat) → Out
 | .ok (v, _) => .ret (res v)
 | .error _ => .pan wrongV
def effH {α : Type} (b : List UInt8) (n : Nat) (E : List SObj) (upd : α → List SObj) : Except Nat (α × Nat) → List SObj
 | .ok (v, k) => rdr b (n + k) :: upd v
 | .error _ => .dead :: E.map fun _ => .dead
theorem eff_of {P : Program} {α : Type} {f : FuncId} {args : List SV} {b : List UInt8} {n : Nat} {E : List SObj} {res : α → SV} {upd : α → List SObj} {x : Except Nat (α × Nat)} (hl : ∀ v, E.length ≤ (upd v).length) (h : VC P f args (rdr b n :: E) (SealO (effO res x) (effH b n E upd x))) : Eff P f args b n E res upd x := by
 cases x with
 | error e => exact pe_seal (by simp [effH]) h
 | ok y => obtain ⟨v, k⟩ := y; exact pe_seal (by simp [effH]; exact hl v) h
def tailP {α : Type} (xs : List α) (k : Nat) : Except Nat (List α × Nat) → Except Nat (List α × Nat)
 | .ok (l, m) => .ok (xs ++ l, k + m)
 | .error e => .error e
theorem listP_step {α : Type} {p : PR α} {most : Nat} {c : List UInt8} {xs : List α} {k n : Nat} {v : α} {m : Nat} (hk : k < c.length) (hm : 0 < most) (hp : p (c.drop k) = .ok (v, m)) : tailP xs n (listP p most (c.drop k)) = tailP (xs ++ [v]) (n + m) (listP p (most - 1) (c.drop (k + m))) := by
 obtain ⟨most, rfl⟩ : ∃ q, most = q + 1 := ⟨most - 1, by omega⟩
 simp only [listP]
 rw [if_neg (by rw [List.length_drop]; omega), hp]
 simp only [Nat.add_sub_cancel, List.drop_drop]
 cases listP p most (c.drop (k + m)) with
 | error e => rfl
 | ok y => obtain ⟨l, q⟩ := y; simp [tailP]; omega
theorem listP_full {α : Type} {p : PR α} {c : List UInt8} {xs : List α} {k n : Nat} (hk : k < c.length) : tailP xs n (listP p 0 (c.drop k)) = .error 6 := by
 simp only [listP]
 rw [if_neg (by rw [List.length_drop]; omega)]; rfl
theorem listP_bad {α : Type} {p : PR α} {most : Nat} {c : List UInt8} {xs : List α} {k n : Nat} {e : Nat} (hk : k < c.length) (hm : 0 < most) (hp : p (c.drop k) = .error e) : tailP xs n (listP p most (c.drop k)) = .error e := by
 obtain ⟨most, rfl⟩ : ∃ q, most = q + 1 := ⟨most - 1, by omega⟩
 simp only [listP]
 rw [if_neg (by rw [List.length_drop]; omega), hp]; rfl
theorem listP_end {α : Type} {p : PR α} {most : Nat} {c : List UInt8} {xs : List α} {k n : Nat} (hk : c.length ≤ k) : tailP xs n (listP p most (c.drop k)) = .ok (xs, n) := by
 have : c.drop k = [] := List.drop_eq_nil_of_le hk
 rw [this]
 cases most <;> simp [listP, tailP]
theorem tailP_id {α : Type} (x : Except Nat (List α × Nat)) : tailP [] 0 x = x := by
 cases x with
 | error e => rfl
 | ok y => obtain ⟨l, m⟩ := y; simp [tailP]
theorem values1_key (g : Nat) (p : PR (KeyT).den) (hp : FitsP p) (most : Nat) (hmost : most ≤ 1000) (b : List UInt8) (n : Nat) (hn : n ≤ b.length) (hb : b.length ≤ 1099511627776) (T T2 T3 : TypeId)
 (hok : ∀ m v q, p (b.drop m) = .ok (v, q) → (KeyT).ok v)
 (hg : ∀ m, m ≤ b.length → Eff Tryz.prog g [.agg [.ptr 0 0]] b m [] (fun x => .agg ((KeyT).cells x)) (fun _ => []) (p (b.drop m))) :
 Eff Tryz.prog 280 [.agg [.ptr 0 0], .ptr 1 0, .ptr 2 0, .ptr 3 0] b n [.cells T [.raw (.slice none 0 0)], .cells T2 [rI most], .cells T3 [.fn g [] []]] (fun _ => .tup []) (fun l => [.cells T [.isl (KeyT) l], .cells T2 [rI most], .cells T3 [.fn g [] []]]) (listP p most (b.drop n)) := by
 refine eff_of (fun _ => Nat.le_refl _) ?_
 generalize hx : listP p most (b.drop n) = X
 refine runE mixed fi280 ?_
 refine si_nilcell 1 0 (KeyT) rfl rfl rfl ?_
 with_reducible refine sxE ?_
 refine si_loopX (ι := Nat × List (KeyT).den × List SObj) (fun s => []) (fun s => [rdr b s.1, .cells T [.bld (s.2.2.length + 5) (KeyT) s.2.1.length], .cells T2 [rI most], .cells T3 [.fn g [] []], .cells 116 [.ptr 0 0]] ++ s.2.2 ++ [.row (KeyT) s.2.1]) (fun s => 2 * (most + 1) - s.2.1.length) (fun s => s.2.1.length ≤ most ∧ n ≤ s.1 ∧ s.1 ≤ b.length ∧ X = tailP s.2.1 (s.1 - n) (listP p (most - s.2.1.length) (b.drop s.1))) (n, [], []) ⟨Nat.zero_le _, Nat.le_refl _, hn, ?_⟩ rfl ?_ ?_
 · rw [Nat.sub_self, tailP_id]; exact hx.symm
 · with_reducible refine sxE ?_; trivial
 rintro ⟨k, xs, G⟩ ⟨h1, h2, h3, h4⟩
 dsimp only at h1 h2 h3 h4
 have hleft := left_c b k h3
 refine goaE mixed ?_
 refine callI_eff [0] hleft rfl (by decide) ⟨rfl, rfl, trivial⟩ rfl rfl ?_
 simp only [afterO, Out.ren, SV.ren, mgA, sig, SObj.ren, SV.renL, List.cons_append, List.nil_append, List.append_assoc, List.set_cons_zero, List.set_cons_succ, List.set, List.map, List.append_nil]
 refine goaE mixed ?_
 refine ⟨fun hp0 => callI_require (fun hmo => ?_) (fun hmo => ?_), fun hp0 => ?_⟩
 · have hlt : xs.length < most := of_decide_eq_true hmo
   have hkl : k < b.length := by omega
   refine run_sound mixed 1 _ ?_
   with_reducible refine sxaE ?_
   refine si_drw [1, 3, 4] mixed ?_
   refine goaE mixed ?_
   cases hpk : p (b.drop k) with
   | error e =>
    have hg' := eff_er (hg k h3) hpk
    have hX := h4.trans (listP_bad hkl (by omega) hpk)
    rw [hX]
    refine callR_eff [0] hg' rfl (by decide) ⟨rfl, rfl, trivial⟩ rfl rfl ?_ ?_
    · simp (maxSteps := 3000000) only [mgA, sig, sameG_cons, sameG_nil, List.append_assoc, getA, getA0, setA, setA0, List.length_append, Nat.add_assoc, go_sem, ↓zA, ↓reduceIte, ↓reduceDIte, reduceCtorEq, Nat.reduceAdd, Nat.reduceSub, Nat.reduceLeDiff, Nat.reduceLT, Nat.reduceEqDiff, Nat.reduceBEq, Nat.reduceMul, Int.reduceToNat, Int.reduceEq, Int.reduceLT, Int.reduceLE] <;> try simp only [zB]
    · simp only [afterR, Out.ren, SV.ren, mgA, sig, SObj.ren, SV.renL, List.cons_append, List.nil_append, List.append_assoc, List.set_cons_zero, List.set_cons_succ, List.set, List.map, List.append_nil, effO, effH]
      with_reducible refine sxaE ?_; trivial
   | ok y =>
    obtain ⟨v, m⟩ := y
    have hg' := eff_ok (hg k h3) hpk
    have hfit := hp _ _ _ hpk
    rw [List.length_drop] at hfit
    have hX := h4.trans (listP_step hkl (by omega) hpk)
    refine callR_eff [0] hg' rfl (by decide) ⟨rfl, rfl, trivial⟩ rfl rfl ?_ ?_
    · simp (maxSteps := 3000000) only [mgA, sig, sameG_cons, sameG_nil, List.append_assoc, getA, getA0, setA, setA0, List.length_append, Nat.add_assoc, go_sem, ↓zA, ↓reduceIte, ↓reduceDIte, reduceCtorEq, Nat.reduceAdd, Nat.reduceSub, Nat.reduceLeDiff, Nat.reduceLT, Nat.reduceEqDiff, Nat.reduceBEq, Nat.reduceMul, Int.reduceToNat, Int.reduceEq, Int.reduceLT, Int.reduceLE] <;> try simp only [zB]
    · simp only [afterR, Out.ren, SV.ren, mgA, sig, SObj.ren, SV.renL, List.cons_append, List.nil_append, List.append_assoc, List.set_cons_zero, List.set_cons_succ, List.set, List.map, List.append_nil]
      refine goaE mixed ?_
      have hob := hok _ _ _ hpk
      skip
      refine ⟨⟨by omega, by omega⟩, (k + m, xs ++ [v], G ++ [.dead, .row (KeyT) [v]]), ⟨by simp; omega, by dsimp only; omega, by dsimp only; omega, ?_⟩, by simp; omega, ?_, ?_⟩
      · dsimp only
        rw [hX, List.length_append, List.length_singleton, Nat.sub_sub]
        congr 1
        omega
      · simp
      · with_reducible refine sxaE ?_; trivial
 · have hlt : ¬ xs.length < most := of_decide_eq_false hmo
   have hm0 : most - xs.length = 0 := by omega
   rw [hm0] at h4
   have hX := h4.trans (listP_full (by omega))
   rw [hX]
   simp (maxSteps := 3000000) only [effO, effH, List.append_assoc, getA, getA0, setA, setA0, List.length_append, Nat.add_assoc, go_sem, ↓zA, ↓reduceIte, ↓reduceDIte, reduceCtorEq, Nat.reduceAdd, Nat.reduceSub, Nat.reduceLeDiff, Nat.reduceLT, Nat.reduceEqDiff, Nat.reduceBEq, Nat.reduceMul, Int.reduceToNat, Int.reduceEq, Int.reduceLT, Int.reduceLE] <;> try simp only [zB]
 · have hX := h4.trans (listP_end (by omega))
   rw [hX]
   simp (maxSteps := 3000000) only [effO, effH, List.append_assoc, getA, getA0, setA, setA0, List.length_append, Nat.add_assoc, go_sem, ↓zA, ↓reduceIte, ↓reduceDIte, reduceCtorEq, Nat.reduceAdd, Nat.reduceSub, Nat.reduceLeDiff, Nat.reduceLT, Nat.reduceEqDiff, Nat.reduceBEq, Nat.reduceMul, Int.reduceToNat, Int.reduceEq, Int.reduceLT, Int.reduceLE] <;> try simp only [zB]
   rw [if_neg (by omega)]
   with_reducible refine sxE ?_
   refine ⟨congrArg (Value.int .i64) (by omega), ⟨Nat.le_refl _, by omega⟩, List.take_of_length_le (Nat.le_refl _)⟩
theorem values_key (g : Nat) (p : PR (KeyT).den) (hp : FitsP p) (most : Nat) (hmost : most ≤ 1000) (b : List UInt8) (n : Nat) (hn : n ≤ b.length) (hb : b.length ≤ 1099511627776)
 (hok : ∀ c v q, c.length ≤ 1099511627776 → p c = .ok (v, q) → (KeyT).ok v)
 (hg : ∀ (c : List UInt8) m, m ≤ c.length → c.length ≤ 1099511627776 → Eff Tryz.prog g [.agg [.ptr 0 0]] c m [] (fun x => .agg ((KeyT).cells x)) (fun _ => []) (p (c.drop m))) :
 Eff Tryz.prog 264 [.agg [.ptr 0 0], rI most, .fn g [] []] b n [] (fun l => .isl (KeyT) l) (fun _ => []) (inP 48 (listP p most) (b.drop n)) := by
 have h1 := fun T T2 T3 => values1_key g p hp most hmost (takeC (b.drop n)) 0 (Nat.zero_le _) (tkC_le hb) T T2 T3 (fun m v q h => hok _ v q (by have := tkC_le (n := n) hb; rw [List.length_drop]; omega) h) (fun m hm => hg _ m hm (tkC_le hb))
 simp only [List.drop_zero] at h1
 have hs := fun T T2 T3 => sequence3 280 b n hn hb T T2 T3 [.raw (.slice none 0 0)] [rI most] [.fn g [] []] (cln_raw cln_nil) (cln_raw cln_nil) (cln_fn cln_nil) (listP p most) (listP_fits hp most) (fun l => [.isl (KeyT) l]) (fun _ => [rI most]) (fun _ => [.fn g [] []]) (fun _ => cln_isl cln_nil) (fun _ => cln_raw cln_nil) (fun _ => cln_fn cln_nil) (h1 T T2 T3)
 cases hx : inP 48 (listP p most) (b.drop n) with
 | error e =>
  have hm' := fun T T2 T3 => eff_er (hs T T2 T3) hx
  refine pe_seal (by simp) ?_
  refine runE mixed fi264 ?_
  refine effP [0, 4, 2, 3] (hm' _ _ _) ?_; trivial
 | ok x =>
  obtain ⟨v, k⟩ := x
  have hm' := fun T T2 T3 => eff_ok (hs T T2 T3) hx
  refine pe_seal (by simp) ?_
  refine runE mixed fi264 ?_
  refine effE mixed [0, 4, 2, 3] (hm' _ _ _) ?_; trivial
theorem values1_prin (g : Nat) (p : PR (PrinT).den) (hp : FitsP p) (most : Nat) (hmost : most ≤ 1000) (b : List UInt8) (n : Nat) (hn : n ≤ b.length) (hb : b.length ≤ 1099511627776) (T T2 T3 : TypeId)
 (hok : ∀ m v q, p (b.drop m) = .ok (v, q) → (PrinT).ok v)
 (hg : ∀ m, m ≤ b.length → Eff Tryz.prog g [.agg [.ptr 0 0]] b m [] (fun x => .agg ((PrinT).cells x)) (fun _ => []) (p (b.drop m))) :
 Eff Tryz.prog 261 [.agg [.ptr 0 0], .ptr 1 0, .ptr 2 0, .ptr 3 0] b n [.cells T [.raw (.slice none 0 0)], .cells T2 [rI most], .cells T3 [.fn g [] []]] (fun _ => .tup []) (fun l => [.cells T [.isl (PrinT) l], .cells T2 [rI most], .cells T3 [.fn g [] []]]) (listP p most (b.drop n)) := by
 refine eff_of (fun _ => Nat.le_refl _) ?_
 generalize hx : listP p most (b.drop n) = X
 refine runE mixed fi261 ?_
 refine si_nilcell 1 0 (PrinT) rfl rfl rfl ?_
 with_reducible refine sxE ?_
 refine si_loopX (ι := Nat × List (PrinT).den × List SObj) (fun s => []) (fun s => [rdr b s.1, .cells T [.bld (s.2.2.length + 5) (PrinT) s.2.1.length], .cells T2 [rI most], .cells T3 [.fn g [] []], .cells 116 [.ptr 0 0]] ++ s.2.2 ++ [.row (PrinT) s.2.1]) (fun s => 2 * (most + 1) - s.2.1.length) (fun s => s.2.1.length ≤ most ∧ n ≤ s.1 ∧ s.1 ≤ b.length ∧ X = tailP s.2.1 (s.1 - n) (listP p (most - s.2.1.length) (b.drop s.1))) (n, [], []) ⟨Nat.zero_le _, Nat.le_refl _, hn, ?_⟩ rfl ?_ ?_
 · rw [Nat.sub_self, tailP_id]; exact hx.symm
 · with_reducible refine sxE ?_; trivial
 rintro ⟨k, xs, G⟩ ⟨h1, h2, h3, h4⟩
 dsimp only at h1 h2 h3 h4
 have hleft := left_c b k h3
 refine goaE mixed ?_
 refine callI_eff [0] hleft rfl (by decide) ⟨rfl, rfl, trivial⟩ rfl rfl ?_
 simp only [afterO, Out.ren, SV.ren, mgA, sig, SObj.ren, SV.renL, List.cons_append, List.nil_append, List.append_assoc, List.set_cons_zero, List.set_cons_succ, List.set, List.map, List.append_nil]
 refine goaE mixed ?_
 refine ⟨fun hp0 => callI_require (fun hmo => ?_) (fun hmo => ?_), fun hp0 => ?_⟩
 · have hlt : xs.length < most := of_decide_eq_true hmo
   have hkl : k < b.length := by omega
   refine run_sound mixed 1 _ ?_
   with_reducible refine sxaE ?_
   refine si_drw [1, 3, 4] mixed ?_
   refine goaE mixed ?_
   cases hpk : p (b.drop k) with
   | error e =>
    have hg' := eff_er (hg k h3) hpk
    have hX := h4.trans (listP_bad hkl (by omega) hpk)
    rw [hX]
    refine callR_eff [0] hg' rfl (by decide) ⟨rfl, rfl, trivial⟩ rfl rfl ?_ ?_
    · simp (maxSteps := 3000000) only [mgA, sig, sameG_cons, sameG_nil, List.append_assoc, getA, getA0, setA, setA0, List.length_append, Nat.add_assoc, go_sem, ↓zA, ↓reduceIte, ↓reduceDIte, reduceCtorEq, Nat.reduceAdd, Nat.reduceSub, Nat.reduceLeDiff, Nat.reduceLT, Nat.reduceEqDiff, Nat.reduceBEq, Nat.reduceMul, Int.reduceToNat, Int.reduceEq, Int.reduceLT, Int.reduceLE] <;> try simp only [zB]
    · simp only [afterR, Out.ren, SV.ren, mgA, sig, SObj.ren, SV.renL, List.cons_append, List.nil_append, List.append_assoc, List.set_cons_zero, List.set_cons_succ, List.set, List.map, List.append_nil, effO, effH]
      with_reducible refine sxaE ?_; trivial
   | ok y =>
    obtain ⟨v, m⟩ := y
    have hg' := eff_ok (hg k h3) hpk
    have hfit := hp _ _ _ hpk
    rw [List.length_drop] at hfit
    have hX := h4.trans (listP_step hkl (by omega) hpk)
    refine callR_eff [0] hg' rfl (by decide) ⟨rfl, rfl, trivial⟩ rfl rfl ?_ ?_
    · simp (maxSteps := 3000000) only [mgA, sig, sameG_cons, sameG_nil, List.append_assoc, getA, getA0, setA, setA0, List.length_append, Nat.add_assoc, go_sem, ↓zA, ↓reduceIte, ↓reduceDIte, reduceCtorEq, Nat.reduceAdd, Nat.reduceSub, Nat.reduceLeDiff, Nat.reduceLT, Nat.reduceEqDiff, Nat.reduceBEq, Nat.reduceMul, Int.reduceToNat, Int.reduceEq, Int.reduceLT, Int.reduceLE] <;> try simp only [zB]
    · simp only [afterR, Out.ren, SV.ren, mgA, sig, SObj.ren, SV.renL, List.cons_append, List.nil_append, List.append_assoc, List.set_cons_zero, List.set_cons_succ, List.set, List.map, List.append_nil]
      refine goaE mixed ?_
      have hob := hok _ _ _ hpk
      refine ⟨hob.2, ?_⟩
      refine ⟨⟨by omega, by omega⟩, (k + m, xs ++ [v], G ++ [.dead, .row (PrinT) [v]]), ⟨by simp; omega, by dsimp only; omega, by dsimp only; omega, ?_⟩, by simp; omega, ?_, ?_⟩
      · dsimp only
        rw [hX, List.length_append, List.length_singleton, Nat.sub_sub]
        congr 1
        omega
      · simp
      · with_reducible refine sxaE ?_; trivial
 · have hlt : ¬ xs.length < most := of_decide_eq_false hmo
   have hm0 : most - xs.length = 0 := by omega
   rw [hm0] at h4
   have hX := h4.trans (listP_full (by omega))
   rw [hX]
   simp (maxSteps := 3000000) only [effO, effH, List.append_assoc, getA, getA0, setA, setA0, List.length_append, Nat.add_assoc, go_sem, ↓zA, ↓reduceIte, ↓reduceDIte, reduceCtorEq, Nat.reduceAdd, Nat.reduceSub, Nat.reduceLeDiff, Nat.reduceLT, Nat.reduceEqDiff, Nat.reduceBEq, Nat.reduceMul, Int.reduceToNat, Int.reduceEq, Int.reduceLT, Int.reduceLE] <;> try simp only [zB]
 · have hX := h4.trans (listP_end (by omega))
   rw [hX]
   simp (maxSteps := 3000000) only [effO, effH, List.append_assoc, getA, getA0, setA, setA0, List.length_append, Nat.add_assoc, go_sem, ↓zA, ↓reduceIte, ↓reduceDIte, reduceCtorEq, Nat.reduceAdd, Nat.reduceSub, Nat.reduceLeDiff, Nat.reduceLT, Nat.reduceEqDiff, Nat.reduceBEq, Nat.reduceMul, Int.reduceToNat, Int.reduceEq, Int.reduceLT, Int.reduceLE] <;> try simp only [zB]
   rw [if_neg (by omega)]
   with_reducible refine sxE ?_
   refine ⟨congrArg (Value.int .i64) (by omega), ⟨Nat.le_refl _, by omega⟩, List.take_of_length_le (Nat.le_refl _)⟩
theorem values_prin (g : Nat) (p : PR (PrinT).den) (hp : FitsP p) (most : Nat) (hmost : most ≤ 1000) (b : List UInt8) (n : Nat) (hn : n ≤ b.length) (hb : b.length ≤ 1099511627776)
 (hok : ∀ c v q, c.length ≤ 1099511627776 → p c = .ok (v, q) → (PrinT).ok v)
 (hg : ∀ (c : List UInt8) m, m ≤ c.length → c.length ≤ 1099511627776 → Eff Tryz.prog g [.agg [.ptr 0 0]] c m [] (fun x => .agg ((PrinT).cells x)) (fun _ => []) (p (c.drop m))) :
 Eff Tryz.prog 221 [.agg [.ptr 0 0], rI most, .fn g [] []] b n [] (fun l => .isl (PrinT) l) (fun _ => []) (inP 48 (listP p most) (b.drop n)) := by
 have h1 := fun T T2 T3 => values1_prin g p hp most hmost (takeC (b.drop n)) 0 (Nat.zero_le _) (tkC_le hb) T T2 T3 (fun m v q h => hok _ v q (by have := tkC_le (n := n) hb; rw [List.length_drop]; omega) h) (fun m hm => hg _ m hm (tkC_le hb))
 simp only [List.drop_zero] at h1
 have hs := fun T T2 T3 => sequence3 261 b n hn hb T T2 T3 [.raw (.slice none 0 0)] [rI most] [.fn g [] []] (cln_raw cln_nil) (cln_raw cln_nil) (cln_fn cln_nil) (listP p most) (listP_fits hp most) (fun l => [.isl (PrinT) l]) (fun _ => [rI most]) (fun _ => [.fn g [] []]) (fun _ => cln_isl cln_nil) (fun _ => cln_raw cln_nil) (fun _ => cln_fn cln_nil) (h1 T T2 T3)
 cases hx : inP 48 (listP p most) (b.drop n) with
 | error e =>
  have hm' := fun T T2 T3 => eff_er (hs T T2 T3) hx
  refine pe_seal (by simp) ?_
  refine runE mixed fi221 ?_
  refine effP [0, 4, 2, 3] (hm' _ _ _) ?_; trivial
 | ok x =>
  obtain ⟨v, k⟩ := x
  have hm' := fun T T2 T3 => eff_ok (hs T T2 T3) hx
  refine pe_seal (by simp) ?_
  refine runE mixed fi221 ?_
  refine effE mixed [0, 4, 2, 3] (hm' _ _ _) ?_; trivial
theorem values1_kset (g : Nat) (p : PR (SetT).den) (hp : FitsP p) (most : Nat) (hmost : most ≤ 1000) (b : List UInt8) (n : Nat) (hn : n ≤ b.length) (hb : b.length ≤ 1099511627776) (T T2 T3 : TypeId)
 (hok : ∀ m v q, p (b.drop m) = .ok (v, q) → (SetT).ok v)
 (hg : ∀ m, m ≤ b.length → Eff Tryz.prog g [.agg [.ptr 0 0]] b m [] (fun x => .agg ((SetT).cells x)) (fun _ => []) (p (b.drop m))) :
 Eff Tryz.prog 262 [.agg [.ptr 0 0], .ptr 1 0, .ptr 2 0, .ptr 3 0] b n [.cells T [.raw (.slice none 0 0)], .cells T2 [rI most], .cells T3 [.fn g [] []]] (fun _ => .tup []) (fun l => [.cells T [.isl (SetT) l], .cells T2 [rI most], .cells T3 [.fn g [] []]]) (listP p most (b.drop n)) := by
 refine eff_of (fun _ => Nat.le_refl _) ?_
 generalize hx : listP p most (b.drop n) = X
 refine runE mixed fi262 ?_
 refine si_nilcell 1 0 (SetT) rfl rfl rfl ?_
 with_reducible refine sxE ?_
 refine si_loopX (ι := Nat × List (SetT).den × List SObj) (fun s => []) (fun s => [rdr b s.1, .cells T [.bld (s.2.2.length + 5) (SetT) s.2.1.length], .cells T2 [rI most], .cells T3 [.fn g [] []], .cells 116 [.ptr 0 0]] ++ s.2.2 ++ [.row (SetT) s.2.1]) (fun s => 2 * (most + 1) - s.2.1.length) (fun s => s.2.1.length ≤ most ∧ n ≤ s.1 ∧ s.1 ≤ b.length ∧ X = tailP s.2.1 (s.1 - n) (listP p (most - s.2.1.length) (b.drop s.1))) (n, [], []) ⟨Nat.zero_le _, Nat.le_refl _, hn, ?_⟩ rfl ?_ ?_
 · rw [Nat.sub_self, tailP_id]; exact hx.symm
 · with_reducible refine sxE ?_; trivial
 rintro ⟨k, xs, G⟩ ⟨h1, h2, h3, h4⟩
 dsimp only at h1 h2 h3 h4
 have hleft := left_c b k h3
 refine goaE mixed ?_
 refine callI_eff [0] hleft rfl (by decide) ⟨rfl, rfl, trivial⟩ rfl rfl ?_
 simp only [afterO, Out.ren, SV.ren, mgA, sig, SObj.ren, SV.renL, List.cons_append, List.nil_append, List.append_assoc, List.set_cons_zero, List.set_cons_succ, List.set, List.map, List.append_nil]
 refine goaE mixed ?_
 refine ⟨fun hp0 => callI_require (fun hmo => ?_) (fun hmo => ?_), fun hp0 => ?_⟩
 · have hlt : xs.length < most := of_decide_eq_true hmo
   have hkl : k < b.length := by omega
   refine run_sound mixed 1 _ ?_
   with_reducible refine sxaE ?_
   refine si_drw [1, 3, 4] mixed ?_
   refine goaE mixed ?_
   cases hpk : p (b.drop k) with
   | error e =>
    have hg' := eff_er (hg k h3) hpk
    have hX := h4.trans (listP_bad hkl (by omega) hpk)
    rw [hX]
    refine callR_eff [0] hg' rfl (by decide) ⟨rfl, rfl, trivial⟩ rfl rfl ?_ ?_
    · simp (maxSteps := 3000000) only [mgA, sig, sameG_cons, sameG_nil, List.append_assoc, getA, getA0, setA, setA0, List.length_append, Nat.add_assoc, go_sem, ↓zA, ↓reduceIte, ↓reduceDIte, reduceCtorEq, Nat.reduceAdd, Nat.reduceSub, Nat.reduceLeDiff, Nat.reduceLT, Nat.reduceEqDiff, Nat.reduceBEq, Nat.reduceMul, Int.reduceToNat, Int.reduceEq, Int.reduceLT, Int.reduceLE] <;> try simp only [zB]
    · simp only [afterR, Out.ren, SV.ren, mgA, sig, SObj.ren, SV.renL, List.cons_append, List.nil_append, List.append_assoc, List.set_cons_zero, List.set_cons_succ, List.set, List.map, List.append_nil, effO, effH]
      with_reducible refine sxaE ?_; trivial
   | ok y =>
    obtain ⟨v, m⟩ := y
    have hg' := eff_ok (hg k h3) hpk
    have hfit := hp _ _ _ hpk
    rw [List.length_drop] at hfit
    have hX := h4.trans (listP_step hkl (by omega) hpk)
    refine callR_eff [0] hg' rfl (by decide) ⟨rfl, rfl, trivial⟩ rfl rfl ?_ ?_
    · simp (maxSteps := 3000000) only [mgA, sig, sameG_cons, sameG_nil, List.append_assoc, getA, getA0, setA, setA0, List.length_append, Nat.add_assoc, go_sem, ↓zA, ↓reduceIte, ↓reduceDIte, reduceCtorEq, Nat.reduceAdd, Nat.reduceSub, Nat.reduceLeDiff, Nat.reduceLT, Nat.reduceEqDiff, Nat.reduceBEq, Nat.reduceMul, Int.reduceToNat, Int.reduceEq, Int.reduceLT, Int.reduceLE] <;> try simp only [zB]
    · simp only [afterR, Out.ren, SV.ren, mgA, sig, SObj.ren, SV.renL, List.cons_append, List.nil_append, List.append_assoc, List.set_cons_zero, List.set_cons_succ, List.set, List.map, List.append_nil]
      refine goaE mixed ?_
      have hob := hok _ _ _ hpk
      refine ⟨hob.2.2.1, ?_⟩
      refine ⟨⟨by omega, by omega⟩, (k + m, xs ++ [v], G ++ [.dead, .row (SetT) [v]]), ⟨by simp; omega, by dsimp only; omega, by dsimp only; omega, ?_⟩, by simp; omega, ?_, ?_⟩
      · dsimp only
        rw [hX, List.length_append, List.length_singleton, Nat.sub_sub]
        congr 1
        omega
      · simp
      · with_reducible refine sxaE ?_; trivial
 · have hlt : ¬ xs.length < most := of_decide_eq_false hmo
   have hm0 : most - xs.length = 0 := by omega
   rw [hm0] at h4
   have hX := h4.trans (listP_full (by omega))
   rw [hX]
   simp (maxSteps := 3000000) only [effO, effH, List.append_assoc, getA, getA0, setA, setA0, List.length_append, Nat.add_assoc, go_sem, ↓zA, ↓reduceIte, ↓reduceDIte, reduceCtorEq, Nat.reduceAdd, Nat.reduceSub, Nat.reduceLeDiff, Nat.reduceLT, Nat.reduceEqDiff, Nat.reduceBEq, Nat.reduceMul, Int.reduceToNat, Int.reduceEq, Int.reduceLT, Int.reduceLE] <;> try simp only [zB]
 · have hX := h4.trans (listP_end (by omega))
   rw [hX]
   simp (maxSteps := 3000000) only [effO, effH, List.append_assoc, getA, getA0, setA, setA0, List.length_append, Nat.add_assoc, go_sem, ↓zA, ↓reduceIte, ↓reduceDIte, reduceCtorEq, Nat.reduceAdd, Nat.reduceSub, Nat.reduceLeDiff, Nat.reduceLT, Nat.reduceEqDiff, Nat.reduceBEq, Nat.reduceMul, Int.reduceToNat, Int.reduceEq, Int.reduceLT, Int.reduceLE] <;> try simp only [zB]
   rw [if_neg (by omega)]
   with_reducible refine sxE ?_
   refine ⟨congrArg (Value.int .i64) (by omega), ⟨Nat.le_refl _, by omega⟩, List.take_of_length_le (Nat.le_refl _)⟩
theorem values_kset (g : Nat) (p : PR (SetT).den) (hp : FitsP p) (most : Nat) (hmost : most ≤ 1000) (b : List UInt8) (n : Nat) (hn : n ≤ b.length) (hb : b.length ≤ 1099511627776)
 (hok : ∀ c v q, c.length ≤ 1099511627776 → p c = .ok (v, q) → (SetT).ok v)
 (hg : ∀ (c : List UInt8) m, m ≤ c.length → c.length ≤ 1099511627776 → Eff Tryz.prog g [.agg [.ptr 0 0]] c m [] (fun x => .agg ((SetT).cells x)) (fun _ => []) (p (c.drop m))) :
 Eff Tryz.prog 227 [.agg [.ptr 0 0], rI most, .fn g [] []] b n [] (fun l => .isl (SetT) l) (fun _ => []) (inP 48 (listP p most) (b.drop n)) := by
 have h1 := fun T T2 T3 => values1_kset g p hp most hmost (takeC (b.drop n)) 0 (Nat.zero_le _) (tkC_le hb) T T2 T3 (fun m v q h => hok _ v q (by have := tkC_le (n := n) hb; rw [List.length_drop]; omega) h) (fun m hm => hg _ m hm (tkC_le hb))
 simp only [List.drop_zero] at h1
 have hs := fun T T2 T3 => sequence3 262 b n hn hb T T2 T3 [.raw (.slice none 0 0)] [rI most] [.fn g [] []] (cln_raw cln_nil) (cln_raw cln_nil) (cln_fn cln_nil) (listP p most) (listP_fits hp most) (fun l => [.isl (SetT) l]) (fun _ => [rI most]) (fun _ => [.fn g [] []]) (fun _ => cln_isl cln_nil) (fun _ => cln_raw cln_nil) (fun _ => cln_fn cln_nil) (h1 T T2 T3)
 cases hx : inP 48 (listP p most) (b.drop n) with
 | error e =>
  have hm' := fun T T2 T3 => eff_er (hs T T2 T3) hx
  refine pe_seal (by simp) ?_
  refine runE mixed fi227 ?_
  refine effP [0, 4, 2, 3] (hm' _ _ _) ?_; trivial
 | ok x =>
  obtain ⟨v, k⟩ := x
  have hm' := fun T T2 T3 => eff_ok (hs T T2 T3) hx
  refine pe_seal (by simp) ?_
  refine runE mixed fi227 ?_
  refine effE mixed [0, 4, 2, 3] (hm' _ _ _) ?_; trivial
theorem values1_bytes (g : Nat) (p : PR ((Ty.slice .u8)).den) (hp : FitsP p) (most : Nat) (hmost : most ≤ 1000) (b : List UInt8) (n : Nat) (hn : n ≤ b.length) (hb : b.length ≤ 1099511627776) (T T2 T3 : TypeId)
 (hok : ∀ m v q, p (b.drop m) = .ok (v, q) → ((Ty.slice .u8)).ok v)
 (hg : ∀ m, m ≤ b.length → Eff Tryz.prog g [.agg [.ptr 0 0]] b m [] (fun x => .isl .u8 x) (fun _ => []) (p (b.drop m))) :
 Eff Tryz.prog 268 [.agg [.ptr 0 0], .ptr 1 0, .ptr 2 0, .ptr 3 0] b n [.cells T [.raw (.slice none 0 0)], .cells T2 [rI most], .cells T3 [.fn g [] []]] (fun _ => .tup []) (fun l => [.cells T [.isl ((Ty.slice .u8)) l], .cells T2 [rI most], .cells T3 [.fn g [] []]]) (listP p most (b.drop n)) := by
 refine eff_of (fun _ => Nat.le_refl _) ?_
 generalize hx : listP p most (b.drop n) = X
 refine runE mixed fi268 ?_
 refine si_nilcell 1 0 ((Ty.slice .u8)) rfl rfl rfl ?_
 with_reducible refine sxE ?_
 refine si_loopX (ι := Nat × List ((Ty.slice .u8)).den × List SObj) (fun s => []) (fun s => [rdr b s.1, .cells T [.bld (s.2.2.length + 5) ((Ty.slice .u8)) s.2.1.length], .cells T2 [rI most], .cells T3 [.fn g [] []], .cells 116 [.ptr 0 0]] ++ s.2.2 ++ [.row ((Ty.slice .u8)) s.2.1]) (fun s => 2 * (most + 1) - s.2.1.length) (fun s => s.2.1.length ≤ most ∧ n ≤ s.1 ∧ s.1 ≤ b.length ∧ X = tailP s.2.1 (s.1 - n) (listP p (most - s.2.1.length) (b.drop s.1))) (n, [], []) ⟨Nat.zero_le _, Nat.le_refl _, hn, ?_⟩ rfl ?_ ?_
 · rw [Nat.sub_self, tailP_id]; exact hx.symm
 · with_reducible refine sxE ?_; trivial
 rintro ⟨k, xs, G⟩ ⟨h1, h2, h3, h4⟩
 dsimp only at h1 h2 h3 h4
 have hleft := left_c b k h3
 refine goaE mixed ?_
 refine callI_eff [0] hleft rfl (by decide) ⟨rfl, rfl, trivial⟩ rfl rfl ?_
 simp only [afterO, Out.ren, SV.ren, mgA, sig, SObj.ren, SV.renL, List.cons_append, List.nil_append, List.append_assoc, List.set_cons_zero, List.set_cons_succ, List.set, List.map, List.append_nil]
 refine goaE mixed ?_
 refine ⟨fun hp0 => callI_require (fun hmo => ?_) (fun hmo => ?_), fun hp0 => ?_⟩
 · have hlt : xs.length < most := of_decide_eq_true hmo
   have hkl : k < b.length := by omega
   refine run_sound mixed 1 _ ?_
   with_reducible refine sxaE ?_
   refine si_drw [1, 3, 4] mixed ?_
   refine goaE mixed ?_
   cases hpk : p (b.drop k) with
   | error e =>
    have hg' := eff_er (hg k h3) hpk
    have hX := h4.trans (listP_bad hkl (by omega) hpk)
    rw [hX]
    refine callR_eff [0] hg' rfl (by decide) ⟨rfl, rfl, trivial⟩ rfl rfl ?_ ?_
    · simp (maxSteps := 3000000) only [mgA, sig, sameG_cons, sameG_nil, List.append_assoc, getA, getA0, setA, setA0, List.length_append, Nat.add_assoc, go_sem, ↓zA, ↓reduceIte, ↓reduceDIte, reduceCtorEq, Nat.reduceAdd, Nat.reduceSub, Nat.reduceLeDiff, Nat.reduceLT, Nat.reduceEqDiff, Nat.reduceBEq, Nat.reduceMul, Int.reduceToNat, Int.reduceEq, Int.reduceLT, Int.reduceLE] <;> try simp only [zB]
    · simp only [afterR, Out.ren, SV.ren, mgA, sig, SObj.ren, SV.renL, List.cons_append, List.nil_append, List.append_assoc, List.set_cons_zero, List.set_cons_succ, List.set, List.map, List.append_nil, effO, effH]
      with_reducible refine sxaE ?_; trivial
   | ok y =>
    obtain ⟨v, m⟩ := y
    have hg' := eff_ok (hg k h3) hpk
    have hfit := hp _ _ _ hpk
    rw [List.length_drop] at hfit
    have hX := h4.trans (listP_step hkl (by omega) hpk)
    refine callR_eff [0] hg' rfl (by decide) ⟨rfl, rfl, trivial⟩ rfl rfl ?_ ?_
    · simp (maxSteps := 3000000) only [mgA, sig, sameG_cons, sameG_nil, List.append_assoc, getA, getA0, setA, setA0, List.length_append, Nat.add_assoc, go_sem, ↓zA, ↓reduceIte, ↓reduceDIte, reduceCtorEq, Nat.reduceAdd, Nat.reduceSub, Nat.reduceLeDiff, Nat.reduceLT, Nat.reduceEqDiff, Nat.reduceBEq, Nat.reduceMul, Int.reduceToNat, Int.reduceEq, Int.reduceLT, Int.reduceLE] <;> try simp only [zB]
    · simp only [afterR, Out.ren, SV.ren, mgA, sig, SObj.ren, SV.renL, List.cons_append, List.nil_append, List.append_assoc, List.set_cons_zero, List.set_cons_succ, List.set, List.map, List.append_nil]
      refine goaE mixed ?_
      have hob := hok _ _ _ hpk
      skip
      refine ⟨⟨by omega, by omega⟩, (k + m, xs ++ [v], G ++ [.dead, .row ((Ty.slice .u8)) [v]]), ⟨by simp; omega, by dsimp only; omega, by dsimp only; omega, ?_⟩, by simp; omega, ?_, ?_⟩
      · dsimp only
        rw [hX, List.length_append, List.length_singleton, Nat.sub_sub]
        congr 1
        omega
      · simp
      · with_reducible refine sxaE ?_; trivial
 · have hlt : ¬ xs.length < most := of_decide_eq_false hmo
   have hm0 : most - xs.length = 0 := by omega
   rw [hm0] at h4
   have hX := h4.trans (listP_full (by omega))
   rw [hX]
   simp (maxSteps := 3000000) only [effO, effH, List.append_assoc, getA, getA0, setA, setA0, List.length_append, Nat.add_assoc, go_sem, ↓zA, ↓reduceIte, ↓reduceDIte, reduceCtorEq, Nat.reduceAdd, Nat.reduceSub, Nat.reduceLeDiff, Nat.reduceLT, Nat.reduceEqDiff, Nat.reduceBEq, Nat.reduceMul, Int.reduceToNat, Int.reduceEq, Int.reduceLT, Int.reduceLE] <;> try simp only [zB]
 · have hX := h4.trans (listP_end (by omega))
   rw [hX]
   simp (maxSteps := 3000000) only [effO, effH, List.append_assoc, getA, getA0, setA, setA0, List.length_append, Nat.add_assoc, go_sem, ↓zA, ↓reduceIte, ↓reduceDIte, reduceCtorEq, Nat.reduceAdd, Nat.reduceSub, Nat.reduceLeDiff, Nat.reduceLT, Nat.reduceEqDiff, Nat.reduceBEq, Nat.reduceMul, Int.reduceToNat, Int.reduceEq, Int.reduceLT, Int.reduceLE] <;> try simp only [zB]
   rw [if_neg (by omega)]
   with_reducible refine sxE ?_
   refine ⟨congrArg (Value.int .i64) (by omega), ⟨Nat.le_refl _, by omega⟩, List.take_of_length_le (Nat.le_refl _)⟩
theorem values_bytes (g : Nat) (p : PR ((Ty.slice .u8)).den) (hp : FitsP p) (most : Nat) (hmost : most ≤ 1000) (b : List UInt8) (n : Nat) (hn : n ≤ b.length) (hb : b.length ≤ 1099511627776)
 (hok : ∀ c v q, c.length ≤ 1099511627776 → p c = .ok (v, q) → ((Ty.slice .u8)).ok v)
 (hg : ∀ (c : List UInt8) m, m ≤ c.length → c.length ≤ 1099511627776 → Eff Tryz.prog g [.agg [.ptr 0 0]] c m [] (fun x => .isl .u8 x) (fun _ => []) (p (c.drop m))) :
 Eff Tryz.prog 236 [.agg [.ptr 0 0], rI most, .fn g [] []] b n [] (fun l => .isl ((Ty.slice .u8)) l) (fun _ => []) (inP 48 (listP p most) (b.drop n)) := by
 have h1 := fun T T2 T3 => values1_bytes g p hp most hmost (takeC (b.drop n)) 0 (Nat.zero_le _) (tkC_le hb) T T2 T3 (fun m v q h => hok _ v q (by have := tkC_le (n := n) hb; rw [List.length_drop]; omega) h) (fun m hm => hg _ m hm (tkC_le hb))
 simp only [List.drop_zero] at h1
 have hs := fun T T2 T3 => sequence3 268 b n hn hb T T2 T3 [.raw (.slice none 0 0)] [rI most] [.fn g [] []] (cln_raw cln_nil) (cln_raw cln_nil) (cln_fn cln_nil) (listP p most) (listP_fits hp most) (fun l => [.isl ((Ty.slice .u8)) l]) (fun _ => [rI most]) (fun _ => [.fn g [] []]) (fun _ => cln_isl cln_nil) (fun _ => cln_raw cln_nil) (fun _ => cln_fn cln_nil) (h1 T T2 T3)
 cases hx : inP 48 (listP p most) (b.drop n) with
 | error e =>
  have hm' := fun T T2 T3 => eff_er (hs T T2 T3) hx
  refine pe_seal (by simp) ?_
  refine runE mixed fi236 ?_
  refine effP [0, 4, 2, 3] (hm' _ _ _) ?_; trivial
 | ok x =>
  obtain ⟨v, k⟩ := x
  have hm' := fun T T2 T3 => eff_ok (hs T T2 T3) hx
  refine pe_seal (by simp) ?_
  refine runE mixed fi236 ?_
  refine effE mixed [0, 4, 2, 3] (hm' _ _ _) ?_; trivial
end Go.Proofs.YtddmkgibghohkaaGreatDoor
/- Contracts: reading the elements of an offer; decoding an offer. -/
namespace Go.Proofs.YtddmkgibghohkaaGreatDoor
open Go Go.Sx Go.Proofs
set_option maxRecDepth 100000
set_option maxHeartbeats 4000000
set_option linter.unusedSimpArgs false

attribute [go_sem] effO effH
def shiftP {α : Type} (k : Nat) : Except Nat (α × Nat) → Except Nat (α × Nat)
 | .ok (v, m) => .ok (v, k + m)
 | .error e => .error e
theorem bindP_er {α β : Type} {p : PR α} {f : α → PR β} {r : List UInt8} {e : Nat} (h : p r = .error e) : bindP p f r = .error e := by unfold bindP; rw [h]
theorem bindP_st {α β : Type} {p : PR α} {f : α → PR β} {b : List UInt8} {n : Nat} {v : α} {k : Nat} (h : p (b.drop n) = .ok (v, k)) : bindP p f (b.drop n) = shiftP k (f v (b.drop (n + k))) := by
 unfold bindP; rw [h]
 simp only [List.drop_drop]
 cases f v (b.drop (n + k)) with
 | error e => rfl
 | ok y => rfl
theorem fits_at {α : Type} {p : PR α} (hp : FitsP p) {b : List UInt8} {n : Nat} (hn : n ≤ b.length) {v : α} {k : Nat} (h : p (b.drop n) = .ok (v, k)) : n + k ≤ b.length := by
 have := hp _ _ _ h
 rw [List.length_drop] at this; omega
end Go.Proofs.YtddmkgibghohkaaGreatDoor
/- Contracts: decoding an offer. -/
namespace Go.Proofs.YtddmkgibghohkaaGreatDoor
open Go Go.Sx Go.Proofs
set_option maxRecDepth 100000
set_option maxHeartbeats 4000000
set_option linter.unusedSimpArgs false

def OkP {α : Type} (p : PR α) (Q : α → Prop) : Prop := ∀ r v m, r.length ≤ 1099511627776 → p r = .ok (v, m) → Q v
theorem okP_rd {α : Type} {tag : UInt8} {dec : List UInt8 → Option α} {Q : α → Prop} (h : ∀ c v, c.length ≤ 1099511627776 → dec c = some v → Q v) : OkP (rdP tag dec) Q := fun r v m hr hx => by
 obtain ⟨_, h2, _⟩ := rdP_ok hx
 exact h _ v (Nat.le_trans (takeC_len r) hr) h2
theorem okP_in {α : Type} {tag : UInt8} {p : PR α} {Q : α → Prop} (h : OkP p Q) : OkP (inP tag p) Q := fun r v m hr hx => by
 rcases inP_cases (tag := tag) (p := p) (r := r) with ⟨_, e⟩ | ⟨_, _, _, e⟩ | ⟨_, _, _, _, _, e⟩ | ⟨_, u, k, g, _, e⟩ <;> rw [e] at hx <;> cases hx
 exact h _ _ _ (Nat.le_trans (takeC_len r) hr) g
theorem okP_need {α : Type} {n : Nat} {p : PR α} {Q : α → Prop} (h : OkP p Q) : OkP (needP n p) Q := fun r v m hr hx => by
 unfold needP at hx
 split at hx
 · exact okP_in h r v m hr hx
 · cases hx
theorem okP_dflt {α : Type} {d : α} {n : Nat} {p : PR α} {Q : α → Prop} (hd : Q d) (h : OkP p Q) : OkP (dfltP d n p) Q := fun r v m hr hx => by
 cases hb : nextB n r with
 | false => rw [dfltP_no hb] at hx; cases hx; exact hd
 | true => rw [dfltP_in hb] at hx; exact okP_in h r v m hr hx
theorem okP_bind {α β : Type} {p : PR α} {f : α → PR β} {Q1 : α → Prop} {Q : β → Prop} (hp : OkP p Q1) (hf : ∀ v, Q1 v → OkP (f v) Q) : OkP (bindP p f) Q := fun r v m hr hx => by
 unfold bindP at hx
 cases h1 : p r with
 | error e => rw [h1] at hx; cases hx
 | ok y =>
  obtain ⟨u, k⟩ := y
  rw [h1] at hx
  simp only at hx
  cases h2 : f u (r.drop k) with
  | error e => rw [h2] at hx; cases hx
  | ok z =>
   obtain ⟨w, l⟩ := z
   rw [h2] at hx; cases hx
   exact hf u (hp r u k hr h1) _ _ _ (by rw [List.length_drop]; omega) h2
theorem okP_ret {α : Type} {v : α} {Q : α → Prop} (h : Q v) : OkP (retP v) Q := fun r u m _ hx => by cases hx; exact h
theorem okP_list {α : Type} {p : PR α} {Q : α → Prop} (hp : OkP p Q) : ∀ n, OkP (listP p n) fun l => l.length ≤ n ∧ ∀ x ∈ l, Q x
 | 0, r, v, m, _, hx => by
  simp only [listP] at hx
  split at hx
  · cases hx; exact ⟨Nat.le_refl _, by simp⟩
  · cases hx
 | n + 1, r, v, m, hr, hx => by
  simp only [listP] at hx
  split at hx
  · cases hx; exact ⟨by simp, by simp⟩
  · cases h1 : p r with
    | error e => rw [h1] at hx; cases hx
    | ok y =>
     obtain ⟨u, k⟩ := y
     rw [h1] at hx
     simp only at hx
     cases h2 : listP p n (r.drop k) with
     | error e => rw [h2] at hx; cases hx
     | ok z =>
      obtain ⟨w, l⟩ := z
      rw [h2] at hx; cases hx
      have h3 := okP_list hp n _ _ _ (by rw [List.length_drop]; omega) h2
      exact ⟨by simp; exact h3.1, fun x hxm => by
       rcases List.mem_cons.1 hxm with rfl | hm
       · exact hp r _ k hr h1
       · exact h3.2 x hm⟩
theorem okP_true {α : Type} {p : PR α} : OkP p fun _ => True := fun _ _ _ _ _ => trivial
theorem okP_str : OkP strP fun s => s.size ≤ 1099511627776 := okP_rd fun c v hc hd => by
 unfold decStr at hd; cases hd
 show c.toArray.size ≤ _
 simpa using hc
theorem new_c (b : List UInt8) (hb : b.length ≤ 140737488355328) : PE Tryz.prog 151 [.isl .u8 b] [] (.ret (.ptr 0 0)) [rdr b 0] := by
 refine pe_seal (by simp) ?_
 refine runE mixed fi151 ?_
 refine callI_pure (bclone_c b hb) ?_
 refine goE mixed ?_
 refine effE mixed [] (inner_c b) ?_; trivial
theorem equal_d (a b : List UInt8) : PC Tryz.prog 69 [.isl .u8 a, .isl .u8 b] (rB (decide (a = b))) := by
 refine pc_of rfl rfl ?_
 refine runE mixed fi69 ?_
 exact decide_eq_decide.2 ⟨fun h => by simpa [strOf] using h, fun h => by rw [h]⟩
end Go.Proofs.YtddmkgibghohkaaGreatDoor
/- Contracts: reading that leaves by a panic with a number: fields, keys. -/
namespace Go.Proofs.YtddmkgibghohkaaGreatDoor
open Go Go.Sx Go.Proofs
set_option maxRecDepth 100000
set_option maxHeartbeats 4000000
set_option linter.unusedSimpArgs false

@[go_sem] abbrev errV (e : Int) : SV := .iface 38 (rI e)
def EffX (P : Program) {α : Type} (f : FuncId) (args : List SV) (b : List UInt8) (n : Nat) (res : α → SV) : Except Nat (α × Nat) → Prop
 | .ok (v, k) => PE P f args [rdr b n] (.ret (res v)) [rdr b (n + k)]
 | .error e => PE P f args [rdr b n] (.pan (errV e)) [.dead]
theorem effX_ok {P : Program} {α : Type} {f : FuncId} {args : List SV} {b : List UInt8} {n : Nat} {res : α → SV} {x : Except Nat (α × Nat)} {v : α} {k : Nat} (h : EffX P f args b n res x) (hx : x = .ok (v, k)) : PE P f args [rdr b n] (.ret (res v)) [rdr b (n + k)] := by rw [hx] at h; exact h
theorem effX_er {P : Program} {α : Type} {f : FuncId} {args : List SV} {b : List UInt8} {n : Nat} {res : α → SV} {x : Except Nat (α × Nat)} {e : Nat} (h : EffX P f args b n res x) (hx : x = .error e) : PE P f args [rdr b n] (.pan (errV e)) [.dead] := by rw [hx] at h; exact h
theorem must_dint (v : Value) : PC Tryz.prog 323 [.raw v, rI 0] (.raw v) := by
 refine pc_of rfl rfl ?_
 refine runE mixed fi323 ?_; trivial
theorem must_er_dint (v : Value) (e : Nat) (he : e ≠ 0) : PE Tryz.prog 323 [.raw v, rI e] [] (.pan (errV e)) [] := by
 refine pe_seal (by simp) ?_
 refine runE mixed fi323 ?_
 exact ⟨fun _ => trivial, fun h => absurd (by omega) he⟩
theorem must_dbytes (v : List UInt8) : PC Tryz.prog 324 [.isl .u8 v, rI 0] (.isl .u8 v) := by
 refine pc_of rfl rfl ?_
 refine runE mixed fi324 ?_; trivial
theorem must_er_dbytes (v : List UInt8) (e : Nat) (he : e ≠ 0) : PE Tryz.prog 324 [.isl .u8 v, rI e] [] (.pan (errV e)) [] := by
 refine pe_seal (by simp) ?_
 refine runE mixed fi324 ?_
 exact ⟨fun _ => trivial, fun h => absurd (by omega) he⟩
theorem must_nstr (v : Value) : PC Tryz.prog 259 [.raw v, rI 0] (.raw v) := by
 refine pc_of rfl rfl ?_
 refine runE mixed fi259 ?_; trivial
theorem must_er_nstr (v : Value) (e : Nat) (he : e ≠ 0) : PE Tryz.prog 259 [.raw v, rI e] [] (.pan (errV e)) [] := by
 refine pe_seal (by simp) ?_
 refine runE mixed fi259 ?_
 exact ⟨fun _ => trivial, fun h => absurd (by omega) he⟩
theorem must_drdr (b : List UInt8) (n : Nat) : PE Tryz.prog 301 [.ptr 0 0, rI 0] [rdr b n] (.ret (.ptr 0 0)) [rdr b n] := by
 refine pe_seal (by simp) ?_
 refine runE mixed fi301 ?_; trivial
theorem must_er_drdr (e : Nat) (he : e ≠ 0) : PE Tryz.prog 301 [.raw (.pointer none), rI e] [] (.pan (errV e)) [] := by
 refine pe_seal (by simp) ?_
 refine runE mixed fi301 ?_
 exact ⟨fun _ => trivial, fun h => absurd (by omega) he⟩
theorem must_nrdr (b : List UInt8) (n : Nat) : PE Tryz.prog 257 [.ptr 0 0, rI 0] [rdr b n] (.ret (.ptr 0 0)) [rdr b n] := by
 refine pe_seal (by simp) ?_
 refine runE mixed fi257 ?_; trivial
theorem must_er_nrdr (e : Nat) (he : e ≠ 0) : PE Tryz.prog 257 [.raw (.pointer none), rI e] [] (.pan (errV e)) [] := by
 refine pe_seal (by simp) ?_
 refine runE mixed fi257 ?_
 exact ⟨fun _ => trivial, fun h => absurd (by omega) he⟩
theorem dend_t (b : List UInt8) (n : Nat) (hn : n = b.length) : PE Tryz.prog 304 [.ptr 0 0] [rdr b n] (.ret (.tup [])) [rdr b n] := by
 have he := left_c b n (by omega)
 refine pe_seal (by simp) ?_
 refine runE mixed fi304 ?_
 refine effE mixed [0] (he) ?_
 exact ⟨fun q => absurd q (by omega), fun _ => trivial⟩
theorem dend_f (b : List UInt8) (n : Nat) (hn : n < b.length) : PE Tryz.prog 304 [.ptr 0 0] [rdr b n] (.pan (errV 6)) [.dead] := by
 have he := left_c b n (by omega)
 refine pe_seal (by simp) ?_
 refine runE mixed fi304 ?_
 refine effE mixed [0] (he) ?_
 exact ⟨fun _ => trivial, fun q => absurd (by omega) q⟩
theorem needP_no {α : Type} {n : Nat} {p : PR α} {r : List UInt8} (h : nextB n r = false) : needP n p r = .error (if r.length = 0 then 4 else 6) := by unfold needP; rw [h]; rfl
theorem needP_in {α : Type} {n : Nat} {p : PR α} {r : List UInt8} (h : nextB n r = true) : needP n p r = inP (tagB n) p r := by unfold needP; rw [h]; rfl
def closeP {α : Type} (l N : Nat) : Except Nat (α × Nat) → Except Nat (α × Nat)
 | .ok (v, m) => if m < l then .error 6 else .ok (v, N)
 | .error e => .error e
theorem inP_t {α : Type} {tag : UInt8} {p : PR α} {r : List UInt8} (h : takeE tag r = 0) : inP tag p r = closeP (takeC r).length (takeN r) (p (takeC r)) := by
 unfold inP allP
 rw [if_pos h]
 cases p (takeC r) with
 | error e => rfl
 | ok x =>
  obtain ⟨v, m⟩ := x
  simp only [closeP]
  by_cases hm : m < (takeC r).length <;> simp [hm]
theorem inP_f {α : Type} {tag : UInt8} {p : PR α} {r : List UInt8} (h : takeE tag r ≠ 0) : inP tag p r = .error (takeE tag r) := by
 unfold inP
 rw [if_neg h]
theorem fint_c (i : Nat) (hi : i ≤ 30) (b : List UInt8) (n : Nat) (hn : n ≤ b.length) (hb : b.length ≤ 1099511627776) : EffX Tryz.prog 302 [.ptr 0 0, rI i, .fn 145 [] []] b n (fun v => rI v) (needP i intP (b.drop n)) := by
 cases h : nextB i (b.drop n) with
 | false =>
  rw [needP_no h, List.length_drop]
  have hs := rtag_no i hi b n hn h
  have hl := left_c b n hn
  generalize b.length - n = q at *
  refine pe_seal (by simp) ?_
  refine runE mixed fi302 ?_
  refine effE mixed [0] (hs) ?_
  refine effE mixed [0] (hl) ?_
  by_cases hq : q = 0
  · simp [hq]
  · simp [hq]
 | true =>
  rw [needP_in h]
  by_cases h1 : takeE (tagB i) (b.drop n) = 0
  · rw [inP_t h1]
    have hs := rtag_ok i hi b n hn hb h h1
    have hc := tkC_le (n := n) hb
    generalize takeC (b.drop n) = c at *
    generalize takeN (b.drop n) = N at *
    cases hx : intP c with
    | error e =>
     have hr := rint_er c 0 (Nat.zero_le _) hc (by rw [List.drop_zero]; exact hx)
     refine pe_seal (by simp) ?_
     refine runE mixed fi302 ?_
     refine effE mixed [0] (hs) ?_
     refine effE mixed [1] (hr) ?_
     refine effP [] (must_er_dint (.int .i64 0) e (rdP_ne hx)) ?_; trivial
    | ok x =>
     obtain ⟨v, m⟩ := x
     have hm := rdP_fits _ _ _ hx
     have hr := rint_ok c 0 (Nat.zero_le _) hc (by rw [List.drop_zero]; exact hx)
     have hl := left_c c m hm
     rw [Nat.zero_add] at hr
     simp only [closeP]
     by_cases hml : m < c.length
     · rw [if_pos hml]
       refine pe_seal (by simp) ?_
       refine runE mixed fi302 ?_
       refine effE mixed [0] (hs) ?_
       refine effE mixed [1] (hr) ?_
       refine callI_pure (must_dint _) ?_
       refine goE mixed ?_
       refine effP [1] (dend_f c m hml) ?_
       rfl
     · rw [if_neg hml]
       refine pe_seal (by simp) ?_
       refine runE mixed fi302 ?_
       refine effE mixed [0] (hs) ?_
       refine effE mixed [1] (hr) ?_
       refine callI_pure (must_dint _) ?_
       refine goE mixed ?_
       refine effE mixed [1] (dend_t c m (by omega)) ?_; trivial
  · rw [inP_f h1]
    have hs := rtag_er i hi b n hn hb h h1
    generalize takeE (tagB i) (b.drop n) = e at *
    refine pe_seal (by simp) ?_
    refine runE mixed fi302 ?_
    refine effE mixed [0] (hs) ?_
    exact ⟨fun _ => trivial, fun q => absurd (by omega) h1⟩
theorem foct_c (i : Nat) (hi : i ≤ 30) (b : List UInt8) (n : Nat) (hn : n ≤ b.length) (hb : b.length ≤ 1099511627776) : EffX Tryz.prog 303 [.ptr 0 0, rI i, .fn 238 [] []] b n (fun v => .isl .u8 v) (needP i octP (b.drop n)) := by
 cases h : nextB i (b.drop n) with
 | false =>
  rw [needP_no h, List.length_drop]
  have hs := rtag_no i hi b n hn h
  have hl := left_c b n hn
  generalize b.length - n = q at *
  refine pe_seal (by simp) ?_
  refine runE mixed fi303 ?_
  refine effE mixed [0] (hs) ?_
  refine effE mixed [0] (hl) ?_
  by_cases hq : q = 0
  · simp [hq]
  · simp [hq]
 | true =>
  rw [needP_in h]
  by_cases h1 : takeE (tagB i) (b.drop n) = 0
  · rw [inP_t h1]
    have hs := rtag_ok i hi b n hn hb h h1
    have hc := tkC_le (n := n) hb
    generalize takeC (b.drop n) = c at *
    generalize takeN (b.drop n) = N at *
    cases hx : octP c with
    | error e =>
     have hr := roct_er c 0 (Nat.zero_le _) hc (by rw [List.drop_zero]; exact hx)
     refine pe_seal (by simp) ?_
     refine runE mixed fi303 ?_
     refine effE mixed [0] (hs) ?_
     refine effE mixed [1] (hr) ?_
     refine effP [] (must_er_dbytes [] e (rdP_ne hx)) ?_; trivial
    | ok x =>
     obtain ⟨v, m⟩ := x
     have hm := rdP_fits _ _ _ hx
     have hr := roct_ok c 0 (Nat.zero_le _) hc (by rw [List.drop_zero]; exact hx)
     have hl := left_c c m hm
     rw [Nat.zero_add] at hr
     simp only [closeP]
     by_cases hml : m < c.length
     · rw [if_pos hml]
       refine pe_seal (by simp) ?_
       refine runE mixed fi303 ?_
       refine effE mixed [0] (hs) ?_
       refine effE mixed [1] (hr) ?_
       refine callI_pure (must_dbytes _) ?_
       refine goE mixed ?_
       refine effP [1] (dend_f c m hml) ?_
       rfl
     · rw [if_neg hml]
       refine pe_seal (by simp) ?_
       refine runE mixed fi303 ?_
       refine effE mixed [0] (hs) ?_
       refine effE mixed [1] (hr) ?_
       refine callI_pure (must_dbytes _) ?_
       refine goE mixed ?_
       refine effE mixed [1] (dend_t c m (by omega)) ?_; trivial
  · rw [inP_f h1]
    have hs := rtag_er i hi b n hn hb h h1
    generalize takeE (tagB i) (b.drop n) = e at *
    refine pe_seal (by simp) ?_
    refine runE mixed fi303 ?_
    refine effE mixed [0] (hs) ?_
    exact ⟨fun _ => trivial, fun q => absurd (by omega) h1⟩
theorem fstr_c (i : Nat) (hi : i ≤ 30) (b : List UInt8) (n : Nat) (hn : n ≤ b.length) (hb : b.length ≤ 1099511627776) : EffX Tryz.prog 260 [.ptr 0 0, rI i, .fn 148 [] []] b n (fun v => rS v) (needP i strP (b.drop n)) := by
 cases h : nextB i (b.drop n) with
 | false =>
  rw [needP_no h, List.length_drop]
  have hs := rtag_no i hi b n hn h
  have hl := left_c b n hn
  generalize b.length - n = q at *
  refine pe_seal (by simp) ?_
  refine runE mixed fi260 ?_
  refine effE mixed [0] (hs) ?_
  refine effE mixed [0] (hl) ?_
  by_cases hq : q = 0
  · simp [hq]
  · simp [hq]
 | true =>
  rw [needP_in h]
  by_cases h1 : takeE (tagB i) (b.drop n) = 0
  · rw [inP_t h1]
    have hs := rtag_ok i hi b n hn hb h h1
    have hc := tkC_le (n := n) hb
    generalize takeC (b.drop n) = c at *
    generalize takeN (b.drop n) = N at *
    cases hx : strP c with
    | error e =>
     have hr := rstr_er c 0 (Nat.zero_le _) hc (by rw [List.drop_zero]; exact hx)
     refine pe_seal (by simp) ?_
     refine runE mixed fi260 ?_
     refine effE mixed [0] (hs) ?_
     refine effE mixed [1] (hr) ?_
     refine effP [] (must_er_nstr (.string ⟨#[]⟩) e (rdP_ne hx)) ?_; trivial
    | ok x =>
     obtain ⟨v, m⟩ := x
     have hm := rdP_fits _ _ _ hx
     have hr := rstr_ok c 0 (Nat.zero_le _) hc (by rw [List.drop_zero]; exact hx)
     have hl := left_c c m hm
     rw [Nat.zero_add] at hr
     simp only [closeP]
     by_cases hml : m < c.length
     · rw [if_pos hml]
       refine pe_seal (by simp) ?_
       refine runE mixed fi260 ?_
       refine effE mixed [0] (hs) ?_
       refine effE mixed [1] (hr) ?_
       refine callI_pure (must_nstr _) ?_
       refine goE mixed ?_
       refine effE mixed [1] (hl) ?_
       exact ⟨fun _ => rfl, fun q => absurd (by omega) q⟩
     · rw [if_neg hml]
       refine pe_seal (by simp) ?_
       refine runE mixed fi260 ?_
       refine effE mixed [0] (hs) ?_
       refine effE mixed [1] (hr) ?_
       refine callI_pure (must_nstr _) ?_
       refine goE mixed ?_
       refine effE mixed [1] (hl) ?_
       exact ⟨fun q => absurd q (by omega), fun _ => trivial⟩
  · rw [inP_f h1]
    have hs := rtag_er i hi b n hn hb h h1
    generalize takeE (tagB i) (b.drop n) = e at *
    refine pe_seal (by simp) ?_
    refine runE mixed fi260 ?_
    refine effE mixed [0] (hs) ?_
    exact ⟨fun _ => trivial, fun q => absurd (by omega) h1⟩
end Go.Proofs.YtddmkgibghohkaaGreatDoor
/- Contracts: reading a key. -/
namespace Go.Proofs.YtddmkgibghohkaaGreatDoor
open Go Go.Sx Go.Proofs
set_option maxRecDepth 100000
set_option maxHeartbeats 4000000
set_option linter.unusedSimpArgs false

def zO {α : Type} (res : α → SV) : Except Nat (α × Nat) → Out
 | .ok (v, _) => .ret (res v)
 | .error e => .pan (errV e)
def zH {α : Type} (b : List UInt8) (n m : Nat) : Except Nat (α × Nat) → List SObj
 | .ok (_, k) => [rdr b (n + k)]
 | .error _ => [rdr b m]
attribute [go_sem] zO zH
def EffZ (P : Program) {α : Type} (f : FuncId) (args : List SV) (b : List UInt8) (n m : Nat) (res : α → SV) (x : Except Nat (α × Nat)) : Prop := PE P f args [rdr b n] (zO res x) (zH b n m x)
theorem effZ_of {P : Program} {α : Type} {f : FuncId} {args : List SV} {b : List UInt8} {n m : Nat} {res : α → SV} {x : Except Nat (α × Nat)} (h : VC P f args [rdr b n] (SealO (zO res x) (zH b n m x))) : EffZ P f args b n m res x := by
 cases x with
 | error e => exact pe_seal (by simp [zH]) h
 | ok y => exact pe_seal (by simp [zH]) h
theorem effZ_ok {P : Program} {α : Type} {f : FuncId} {args : List SV} {b : List UInt8} {n m : Nat} {res : α → SV} {x : Except Nat (α × Nat)} {v : α} {k : Nat} (h : EffZ P f args b n m res x) (hx : x = .ok (v, k)) : PE P f args [rdr b n] (.ret (res v)) [rdr b (n + k)] := by rw [hx] at h; exact h
theorem effZ_er {P : Program} {α : Type} {f : FuncId} {args : List SV} {b : List UInt8} {n m : Nat} {res : α → SV} {x : Except Nat (α × Nat)} {e : Nat} (h : EffZ P f args b n m res x) (hx : x = .error e) : PE P f args [rdr b n] (.pan (errV e)) [rdr b m] := by rw [hx] at h; exact h
def posX (b : List UInt8) (n : Nat) : Nat := if takeE 48 (b.drop n) = 0 then n + takeN (b.drop n) else n
theorem posX_t {b : List UInt8} {n : Nat} (h : takeE 48 (b.drop n) = 0) : posX b n = n + takeN (b.drop n) := if_pos h
theorem posX_f {b : List UInt8} {n : Nat} (h : takeE 48 (b.drop n) ≠ 0) : posX b n = n := if_neg h
def tripIn : PR Key := bindP (needP 0 intP) fun a => bindP (needP 1 intP) fun k => bindP (needP 2 octP) fun c => retP ((a, k, c) : Key)
def keyP : PR Key := inP 48 tripIn
theorem bindP_s0 {α β : Type} {p : PR α} {f : α → PR β} {b : List UInt8} {v : α} {k : Nat} (h : p b = .ok (v, k)) : bindP p f b = shiftP k (f v (b.drop k)) := by
 have := bindP_st (f := f) (b := b) (n := 0) (by rw [List.drop_zero]; exact h)
 rwa [List.drop_zero, Nat.zero_add] at this
theorem rtriple_c (b : List UInt8) (n : Nat) (hn : n ≤ b.length) (hb : b.length ≤ 1099511627776) :
 EffZ Tryz.prog 283 [.ptr 0 0] b n (posX b n) (fun v : Key => .tup [rI v.1, rI v.2.1, .isl .u8 v.2.2]) (keyP (b.drop n)) := by
 unfold keyP
 by_cases h : takeE 48 (b.drop n) = 0
 · have hs := rseq_ok b n hn hb h
   have hc := tkC_le (n := n) hb
   rw [inP_t h, posX_t h]
   generalize takeC (b.drop n) = c at *
   generalize takeN (b.drop n) = N at *
   unfold tripIn
   refine effZ_of ?_
   refine runE mixed fi283 ?_
   refine effE mixed [0] (hs) ?_
   refine effE mixed [1] (must_drdr c 0) ?_
   have e1 := fint_c 0 (by omega) c 0 (Nat.zero_le _) hc
   rw [List.drop_zero] at e1
   cases h1 : needP 0 intP c with
   | error e =>
    rw [bindP_er h1]
    have e1' := effX_er e1 h1
    simp only [closeP]
    refine effP [1] (e1') ?_; trivial
   | ok x =>
    obtain ⟨v1, k1⟩ := x
    rw [bindP_s0 h1]
    have e1' := effX_ok e1 h1
    have f1 := needP_fits _ _ _ h1
    rw [Nat.zero_add] at e1'
    refine effE mixed [1] (e1') ?_
    have e2 := fint_c 1 (by omega) c _ f1 hc
    cases h2 : needP 1 intP (c.drop k1) with
    | error e =>
     rw [bindP_er h2]
     have e2' := effX_er e2 h2
     simp only [shiftP, closeP]
     refine effP [1] (e2') ?_; trivial
    | ok x =>
     obtain ⟨v2, k2⟩ := x
     rw [bindP_st h2]
     have e2' := effX_ok e2 h2
     have f2 := fits_at needP_fits f1 h2
     refine effE mixed [1] (e2') ?_
     have e3 := foct_c 2 (by omega) c _ f2 hc
     cases h3 : needP 2 octP (c.drop (k1 + k2)) with
     | error e =>
      rw [bindP_er h3]
      have e3' := effX_er e3 h3
      simp only [shiftP, closeP]
      refine effP [1] (e3') ?_; trivial
     | ok x =>
      obtain ⟨v3, k3⟩ := x
      rw [bindP_st h3]
      have e3' := effX_ok e3 h3
      have f3 := fits_at needP_fits f2 h3
      simp only [shiftP, retP, closeP]
      refine effE mixed [1] (e3') ?_
      by_cases hm : k1 + k2 + k3 < c.length
      · rw [if_pos (by omega)]
        refine effP [1] (dend_f c _ hm) ?_
        rfl
      · rw [if_neg (by omega)]
        refine effE mixed [1] (dend_t c (k1 + k2 + k3) (by omega)) ?_; trivial
 · have hs := rseq_er b n hn hb h
   rw [inP_f h, posX_f h]
   generalize takeE 48 (b.drop n) = e at *
   refine effZ_of ?_
   refine runE mixed fi283 ?_
   refine effE mixed [0] (hs) ?_
   refine effP [] (must_er_drdr e h) ?_; trivial
theorem key1_c (b : List UInt8) (n : Nat) (hn : n ≤ b.length) (hb : b.length ≤ 1099511627776) :
 EffZ Tryz.prog 282 [.ptr 0 0] b n (posX b n) (fun v : Key => .agg (KeyT.cells v)) (keyP (b.drop n)) := by
 have ht := rtriple_c b n hn hb
 refine effZ_of ?_
 generalize keyP (b.drop n) = X at *
 cases X with
 | error e =>
  have ht' := effZ_er ht rfl
  refine runE mixed fi282 ?_
  refine effP [0] (ht') ?_; trivial
 | ok x =>
  obtain ⟨v, k⟩ := x
  have ht' := effZ_ok ht rfl
  refine runE mixed fi282 ?_
  refine effE mixed [0] (ht') ?_; trivial
end Go.Proofs.YtddmkgibghohkaaGreatDoor
