/- Contracts: reading inside of elements, with a function. -/
import Derived.Test.YtddmkgibghohkaaGreatDoorP23
set_option linter.unusedSimpArgs false
set_option linter.unusedVariables false
namespace Go.Proofs.YtddmkgibghohkaaGreatDoor
open Go Go.Sx Go.Proofs
set_option maxRecDepth 100000
set_option maxHeartbeats 4000000
set_option linter.unusedSimpArgs false

/-- What a reading function comes to, said with the parser's result. -/
def Eff (P : Program) {α : Type} (f : FuncId) (args : List SV) (b : List UInt8) (n : Nat) (E : List SObj) (res : α → SV) (upd : α → List SObj) : Except Nat (α × Nat) → Prop
  | .ok (v, k) => PE P f args (rdr b n :: E) (.ret (res v)) (rdr b (n + k) :: upd v)
  | .error _ => PE P f args (rdr b n :: E) (.pan wrongV) (.dead :: E.map fun _ => .dead)
theorem eff_ok {P : Program} {α : Type} {f : FuncId} {args : List SV} {b : List UInt8} {n : Nat} {E : List SObj} {res : α → SV} {upd : α → List SObj} {x : Except Nat (α × Nat)} {v : α} {k : Nat} (h : Eff P f args b n E res upd x) (hx : x = .ok (v, k)) : PE P f args (rdr b n :: E) (.ret (res v)) (rdr b (n + k) :: upd v) := by rw [hx] at h; exact h
theorem eff_er {P : Program} {α : Type} {f : FuncId} {args : List SV} {b : List UInt8} {n : Nat} {E : List SObj} {res : α → SV} {upd : α → List SObj} {x : Except Nat (α × Nat)} {e : Nat} (h : Eff P f args b n E res upd x) (hx : x = .error e) : PE P f args (rdr b n :: E) (.pan wrongV) (.dead :: E.map fun _ => .dead) := by rw [hx] at h; exact h
theorem inP_cases {α : Type} {tag : UInt8} {p : PR α} {r : List UInt8} : (takeE tag r ≠ 0 ∧ inP tag p r = .error (takeE tag r)) ∨
    (takeE tag r = 0 ∧ ∃ e, p (takeC r) = .error e ∧ inP tag p r = .error e) ∨
    (takeE tag r = 0 ∧ ∃ v m, p (takeC r) = .ok (v, m) ∧ m < (takeC r).length ∧ inP tag p r = .error 6) ∨
    (takeE tag r = 0 ∧ ∃ v m, p (takeC r) = .ok (v, m) ∧ ¬ m < (takeC r).length ∧ inP tag p r = .ok (v, takeN r)) := by
  unfold inP allP
  by_cases h : takeE tag r = 0
  · right
    rw [if_pos h]
    cases hp : p (takeC r) with
    | error e => exact .inl ⟨h, e, rfl, rfl⟩
    | ok x =>
      obtain ⟨v, m⟩ := x
      by_cases hm : m < (takeC r).length
      · exact .inr (.inl ⟨h, v, m, rfl, hm, by simp [hm]⟩)
      · exact .inr (.inr ⟨h, v, m, rfl, hm, by simp [hm]⟩)
  · exact .inl ⟨h, by rw [if_neg h]⟩
/-- No parser reads more than there is. -/
def FitsP {α : Type} (p : PR α) : Prop := ∀ r v m, p r = .ok (v, m) → m ≤ r.length
theorem inP_fits {α : Type} {tag : UInt8} {p : PR α} : FitsP (inP tag p) := fun r v m h => by
  rcases inP_cases (tag := tag) (p := p) (r := r) with ⟨_, e⟩ | ⟨_, _, _, e⟩ | ⟨_, _, _, _, _, e⟩ | ⟨h0, _, _, _, _, e⟩ <;> rw [e] at h <;> cases h
  exact takeN_le h0
theorem rdP_fits {α : Type} {tag : UInt8} {dec : List UInt8 → Option α} : FitsP (rdP tag dec) := fun _ _ _ h => rdP_le h
theorem needP_fits {α : Type} {n : Nat} {p : PR α} : FitsP (needP n p) := fun r v m h => by
  unfold needP at h
  split at h
  · exact inP_fits r v m h
  · cases h
theorem bindP_fits {α β : Type} {p : PR α} {f : α → PR β} (hp : FitsP p) (hf : ∀ v, FitsP (f v)) : FitsP (bindP p f) := fun r v m h => by
  unfold bindP at h
  cases h1 : p r with
  | error e => rw [h1] at h; cases h
  | ok x =>
    obtain ⟨u, k⟩ := x
    rw [h1] at h
    simp only at h
    cases h2 : f u (r.drop k) with
    | error e => rw [h2] at h; cases h
    | ok y =>
      obtain ⟨z, l⟩ := y
      rw [h2] at h; cases h
      have := hp r _ k h1
      have := hf _ _ _ l h2
      rw [List.length_drop] at this
      omega
theorem retP_fits {α : Type} {v : α} : FitsP (retP v) := fun r u m h => by cases h; exact Nat.zero_le _
theorem listP_fits {α : Type} {p : PR α} (hp : FitsP p) : ∀ n, FitsP (listP p n)
  | 0, r, v, m, h => by
    simp only [listP] at h
    split at h
    · cases h; exact Nat.zero_le _
    · cases h
  | n + 1, r, v, m, h => by
    simp only [listP] at h
    split at h
    · cases h; exact Nat.zero_le _
    · cases h1 : p r with
      | error e => rw [h1] at h; cases h
      | ok x =>
        obtain ⟨u, k⟩ := x
        rw [h1] at h
        simp only at h
        cases h2 : listP p n (r.drop k) with
        | error e => rw [h2] at h; cases h
        | ok y =>
          obtain ⟨z, l⟩ := y
          rw [h2] at h; cases h
          have := hp r _ k h1
          have := listP_fits hp n _ _ l h2
          rw [List.length_drop] at this
          omega

theorem sequence1 {α : Type} (g : Nat) (b : List UInt8) (n : Nat) (hn : n ≤ b.length) (hb : b.length ≤ 1099511627776) (T : TypeId) (cs : List SV) (hc : Cln cs) (p : PR α) (hp : FitsP p) (upd : α → List SV) (hu : ∀ v, Cln (upd v))
    (hg : Eff Tryz.prog g (.agg [.ptr 0 0] :: [.ptr 1 0]) (takeC (b.drop n)) 0 [.cells T cs] (fun _ => .tup []) (fun v => [.cells T (upd v)]) (p (takeC (b.drop n)))) :
    Eff Tryz.prog 137 [.agg [.ptr 0 0], .fn g [] [.ptr 1 0]] b n [.cells T cs] (fun _ => .tup []) (fun v => [.cells T (upd v)]) (inP 48 p (b.drop n)) := by
  rcases inP_cases (tag := 48) (p := p) (r := b.drop n) with ⟨h1, e⟩ | ⟨h1, e, h2, e'⟩ | ⟨h1, v, m, h2, h3, e⟩ | ⟨h1, v, m, h2, h3, e⟩
  · rw [e]
    have hs := rseq_er b n hn hb h1
    generalize takeE 48 (b.drop n) = ee at *
    refine pe_seal (by simp) ?_
    refine runE mixed fi137 ?_ <;> try with_reducible exact True.intro
    refine callI_eff [0] (hs) rfl (by decide) (by simp [atH, sig, SObj.ren, SV.ren, SV.renL, SObj.live, hc.ren, hc.bel]) rfl (by simp [belH, SObj.bel, SV.belL, SV.bel, hc.ren, hc.bel]) ?_
    simp only [afterO, Out.ren, SV.ren, mgA, sig, SObj.ren, SV.renL, List.set, List.map, List.append_nil, hc.ren, hc.bel]
    refine run_sound mixed 600 _ ?_
    simp (maxSteps := 3000000) only [hc.ren, hc.bel, go_sem, ↓zA, ↓reduceIte, ↓reduceDIte, reduceCtorEq, Nat.reduceAdd, Nat.reduceSub, Nat.reduceLeDiff, Nat.reduceLT, Nat.reduceEqDiff, Nat.reduceBEq, Nat.reduceMul, Int.reduceToNat, Int.reduceEq, Int.reduceLT, Int.reduceLE] <;> try simp only [zB]
    refine callI_eff [] (take_er_rdr ee h1) rfl (by decide) (by simp [atH, sig, SObj.ren, SV.ren, SV.renL, SObj.live, hc.ren, hc.bel]) rfl (by simp [belH, SObj.bel, SV.belL, SV.bel, hc.ren, hc.bel]) ?_
    simp only [afterO, Out.ren, SV.ren, mgA, sig, SObj.ren, SV.renL, List.set, List.map, List.append_nil, hc.ren, hc.bel]
    simp (maxSteps := 3000000) only [hc.ren, hc.bel, go_sem, ↓zA, ↓reduceIte, ↓reduceDIte, reduceCtorEq, Nat.reduceAdd, Nat.reduceSub, Nat.reduceLeDiff, Nat.reduceLT, Nat.reduceEqDiff, Nat.reduceBEq, Nat.reduceMul, Int.reduceToNat, Int.reduceEq, Int.reduceLT, Int.reduceLE] <;> try simp only [zB]
  · rw [e']
    have hs := rseq_ok b n hn hb h1
    have hg' := eff_er hg h2
    generalize takeC (b.drop n) = c at *
    refine pe_seal (by simp) ?_
    refine runE mixed fi137 ?_ <;> try with_reducible exact True.intro
    refine callI_eff [0] (hs) rfl (by decide) (by simp [atH, sig, SObj.ren, SV.ren, SV.renL, SObj.live, hc.ren, hc.bel]) rfl (by simp [belH, SObj.bel, SV.belL, SV.bel, hc.ren, hc.bel]) ?_
    simp only [afterO, Out.ren, SV.ren, mgA, sig, SObj.ren, SV.renL, List.set, List.map, List.append_nil, hc.ren, hc.bel]
    refine run_sound mixed 600 _ ?_
    simp (maxSteps := 3000000) only [hc.ren, hc.bel, go_sem, ↓zA, ↓reduceIte, ↓reduceDIte, reduceCtorEq, Nat.reduceAdd, Nat.reduceSub, Nat.reduceLeDiff, Nat.reduceLT, Nat.reduceEqDiff, Nat.reduceBEq, Nat.reduceMul, Int.reduceToNat, Int.reduceEq, Int.reduceLT, Int.reduceLE] <;> try simp only [zB]
    refine callI_eff [3] (take_rdr c 0) rfl (by decide) (by simp [atH, sig, SObj.ren, SV.ren, SV.renL, SObj.live, hc.ren, hc.bel]) rfl (by simp [belH, SObj.bel, SV.belL, SV.bel, hc.ren, hc.bel]) ?_
    simp only [afterO, Out.ren, SV.ren, mgA, sig, SObj.ren, SV.renL, List.set, List.map, List.append_nil, hc.ren, hc.bel]
    refine run_sound mixed 600 _ ?_
    simp (maxSteps := 3000000) only [hc.ren, hc.bel, go_sem, ↓zA, ↓reduceIte, ↓reduceDIte, reduceCtorEq, Nat.reduceAdd, Nat.reduceSub, Nat.reduceLeDiff, Nat.reduceLT, Nat.reduceEqDiff, Nat.reduceBEq, Nat.reduceMul, Int.reduceToNat, Int.reduceEq, Int.reduceLT, Int.reduceLE] <;> try simp only [zB]
    refine callI_eff [3, 1] (hg') rfl (by decide) (by simp [atH, sig, SObj.ren, SV.ren, SV.renL, SObj.live, hc.ren, hc.bel]) rfl (by simp [belH, SObj.bel, SV.belL, SV.bel, hc.ren, hc.bel]) ?_
    simp only [afterO, Out.ren, SV.ren, mgA, sig, SObj.ren, SV.renL, List.set, List.map, List.append_nil, hc.ren, hc.bel]
    simp (maxSteps := 3000000) only [hc.ren, hc.bel, go_sem, ↓zA, ↓reduceIte, ↓reduceDIte, reduceCtorEq, Nat.reduceAdd, Nat.reduceSub, Nat.reduceLeDiff, Nat.reduceLT, Nat.reduceEqDiff, Nat.reduceBEq, Nat.reduceMul, Int.reduceToNat, Int.reduceEq, Int.reduceLT, Int.reduceLE] <;> try simp only [zB]
  · rw [e]
    have hs := rseq_ok b n hn hb h1
    have hg' := eff_ok hg h2
    generalize takeC (b.drop n) = c at *
    rw [Nat.zero_add] at hg'
    refine pe_seal (by simp) ?_
    refine runE mixed fi137 ?_ <;> try with_reducible exact True.intro
    refine callI_eff [0] (hs) rfl (by decide) (by simp [atH, sig, SObj.ren, SV.ren, SV.renL, SObj.live, hc.ren, hc.bel]) rfl (by simp [belH, SObj.bel, SV.belL, SV.bel, hc.ren, hc.bel]) ?_
    simp only [afterO, Out.ren, SV.ren, mgA, sig, SObj.ren, SV.renL, List.set, List.map, List.append_nil, hc.ren, hc.bel]
    refine run_sound mixed 600 _ ?_
    simp (maxSteps := 3000000) only [hc.ren, hc.bel, go_sem, ↓zA, ↓reduceIte, ↓reduceDIte, reduceCtorEq, Nat.reduceAdd, Nat.reduceSub, Nat.reduceLeDiff, Nat.reduceLT, Nat.reduceEqDiff, Nat.reduceBEq, Nat.reduceMul, Int.reduceToNat, Int.reduceEq, Int.reduceLT, Int.reduceLE] <;> try simp only [zB]
    refine callI_eff [3] (take_rdr c 0) rfl (by decide) (by simp [atH, sig, SObj.ren, SV.ren, SV.renL, SObj.live, hc.ren, hc.bel]) rfl (by simp [belH, SObj.bel, SV.belL, SV.bel, hc.ren, hc.bel]) ?_
    simp only [afterO, Out.ren, SV.ren, mgA, sig, SObj.ren, SV.renL, List.set, List.map, List.append_nil, hc.ren, hc.bel]
    refine run_sound mixed 600 _ ?_
    simp (maxSteps := 3000000) only [hc.ren, hc.bel, go_sem, ↓zA, ↓reduceIte, ↓reduceDIte, reduceCtorEq, Nat.reduceAdd, Nat.reduceSub, Nat.reduceLeDiff, Nat.reduceLT, Nat.reduceEqDiff, Nat.reduceBEq, Nat.reduceMul, Int.reduceToNat, Int.reduceEq, Int.reduceLT, Int.reduceLE] <;> try simp only [zB]
    refine callI_eff [3, 1] (hg') rfl (by decide) (by simp [atH, sig, SObj.ren, SV.ren, SV.renL, SObj.live, hc.ren, hc.bel, (hu _).ren, (hu _).bel]) rfl (by simp [belH, SObj.bel, SV.belL, SV.bel, hc.ren, hc.bel, (hu _).ren, (hu _).bel]) ?_
    simp only [afterO, Out.ren, SV.ren, mgA, sig, SObj.ren, SV.renL, List.set, List.map, List.append_nil, hc.ren, hc.bel, (hu _).ren, (hu _).bel]
    refine run_sound mixed 600 _ ?_
    simp (maxSteps := 3000000) only [hc.ren, hc.bel, (hu _).ren, (hu _).bel, go_sem, ↓zA, ↓reduceIte, ↓reduceDIte, reduceCtorEq, Nat.reduceAdd, Nat.reduceSub, Nat.reduceLeDiff, Nat.reduceLT, Nat.reduceEqDiff, Nat.reduceBEq, Nat.reduceMul, Int.reduceToNat, Int.reduceEq, Int.reduceLT, Int.reduceLE] <;> try simp only [zB]
    refine callI_eff [3] (done_f c m h3) rfl (by decide) (by simp [atH, sig, SObj.ren, SV.ren, SV.renL, SObj.live, hc.ren, hc.bel, (hu _).ren, (hu _).bel]) rfl (by simp [belH, SObj.bel, SV.belL, SV.bel, hc.ren, hc.bel, (hu _).ren, (hu _).bel]) ?_
    simp only [afterO, Out.ren, SV.ren, mgA, sig, SObj.ren, SV.renL, List.set, List.map, List.append_nil, hc.ren, hc.bel, (hu _).ren, (hu _).bel]
    simp (maxSteps := 3000000) only [hc.ren, hc.bel, (hu _).ren, (hu _).bel, go_sem, ↓zA, ↓reduceIte, ↓reduceDIte, reduceCtorEq, Nat.reduceAdd, Nat.reduceSub, Nat.reduceLeDiff, Nat.reduceLT, Nat.reduceEqDiff, Nat.reduceBEq, Nat.reduceMul, Int.reduceToNat, Int.reduceEq, Int.reduceLT, Int.reduceLE] <;> try simp only [zB]
  · rw [e]
    have hs := rseq_ok b n hn hb h1
    have hg' := eff_ok hg h2
    have hm := hp _ _ _ h2
    generalize takeC (b.drop n) = c at *
    rw [Nat.zero_add] at hg'
    refine pe_seal (by simp) ?_
    refine runE mixed fi137 ?_ <;> try with_reducible exact True.intro
    refine callI_eff [0] (hs) rfl (by decide) (by simp [atH, sig, SObj.ren, SV.ren, SV.renL, SObj.live, hc.ren, hc.bel]) rfl (by simp [belH, SObj.bel, SV.belL, SV.bel, hc.ren, hc.bel]) ?_
    simp only [afterO, Out.ren, SV.ren, mgA, sig, SObj.ren, SV.renL, List.set, List.map, List.append_nil, hc.ren, hc.bel]
    refine run_sound mixed 600 _ ?_
    simp (maxSteps := 3000000) only [hc.ren, hc.bel, go_sem, ↓zA, ↓reduceIte, ↓reduceDIte, reduceCtorEq, Nat.reduceAdd, Nat.reduceSub, Nat.reduceLeDiff, Nat.reduceLT, Nat.reduceEqDiff, Nat.reduceBEq, Nat.reduceMul, Int.reduceToNat, Int.reduceEq, Int.reduceLT, Int.reduceLE] <;> try simp only [zB]
    refine callI_eff [3] (take_rdr c 0) rfl (by decide) (by simp [atH, sig, SObj.ren, SV.ren, SV.renL, SObj.live, hc.ren, hc.bel]) rfl (by simp [belH, SObj.bel, SV.belL, SV.bel, hc.ren, hc.bel]) ?_
    simp only [afterO, Out.ren, SV.ren, mgA, sig, SObj.ren, SV.renL, List.set, List.map, List.append_nil, hc.ren, hc.bel]
    refine run_sound mixed 600 _ ?_
    simp (maxSteps := 3000000) only [hc.ren, hc.bel, go_sem, ↓zA, ↓reduceIte, ↓reduceDIte, reduceCtorEq, Nat.reduceAdd, Nat.reduceSub, Nat.reduceLeDiff, Nat.reduceLT, Nat.reduceEqDiff, Nat.reduceBEq, Nat.reduceMul, Int.reduceToNat, Int.reduceEq, Int.reduceLT, Int.reduceLE] <;> try simp only [zB]
    refine callI_eff [3, 1] (hg') rfl (by decide) (by simp [atH, sig, SObj.ren, SV.ren, SV.renL, SObj.live, hc.ren, hc.bel, (hu _).ren, (hu _).bel]) rfl (by simp [belH, SObj.bel, SV.belL, SV.bel, hc.ren, hc.bel, (hu _).ren, (hu _).bel]) ?_
    simp only [afterO, Out.ren, SV.ren, mgA, sig, SObj.ren, SV.renL, List.set, List.map, List.append_nil, hc.ren, hc.bel, (hu _).ren, (hu _).bel]
    refine run_sound mixed 600 _ ?_
    simp (maxSteps := 3000000) only [hc.ren, hc.bel, (hu _).ren, (hu _).bel, go_sem, ↓zA, ↓reduceIte, ↓reduceDIte, reduceCtorEq, Nat.reduceAdd, Nat.reduceSub, Nat.reduceLeDiff, Nat.reduceLT, Nat.reduceEqDiff, Nat.reduceBEq, Nat.reduceMul, Int.reduceToNat, Int.reduceEq, Int.reduceLT, Int.reduceLE] <;> try simp only [zB]
    refine callI_eff [3] (done_t c m (by omega)) rfl (by decide) (by simp [atH, sig, SObj.ren, SV.ren, SV.renL, SObj.live, hc.ren, hc.bel, (hu _).ren, (hu _).bel, (hu _).shut, (hu _).le]) rfl (by simp [belH, SObj.bel, SV.belL, SV.bel, hc.ren, hc.bel, (hu _).ren, (hu _).bel, (hu _).shut, (hu _).le]) ?_
    simp only [afterO, Out.ren, SV.ren, mgA, sig, SObj.ren, SV.renL, List.set, List.map, List.append_nil, hc.ren, hc.bel, (hu _).ren, (hu _).bel, (hu _).shut, (hu _).le]
    refine run_sound mixed 600 _ ?_
    simp (maxSteps := 3000000) only [hc.ren, hc.bel, (hu _).ren, (hu _).bel, (hu _).shut, (hu _).le, go_sem, ↓zA, ↓reduceIte, ↓reduceDIte, reduceCtorEq, Nat.reduceAdd, Nat.reduceSub, Nat.reduceLeDiff, Nat.reduceLT, Nat.reduceEqDiff, Nat.reduceBEq, Nat.reduceMul, Int.reduceToNat, Int.reduceEq, Int.reduceLT, Int.reduceLE] <;> try simp only [zB]
theorem maybe_no1 (g : Nat) (i : Nat) (hi : i ≤ 30) (b : List UInt8) (n : Nat) (hn : n ≤ b.length) (T : TypeId) (cs : List SV) (hc : Cln cs) (h : nextB i (b.drop n) = false) :
    PE Tryz.prog 201 [.agg [.ptr 0 0], rI i, .fn g [] [.ptr 1 0]] (rdr b n :: [.cells T cs]) (.ret (rB false)) (rdr b n :: [.cells T cs]) := by
  have hs := rtag_no i hi b n hn h
  refine pe_seal (by simp) ?_
  refine runE mixed fi201 ?_ <;> try with_reducible exact True.intro
  refine callI_eff [0] (hs) rfl (by decide) (by simp [atH, sig, SObj.ren, SV.ren, SV.renL, SObj.live, hc.ren, hc.bel]) rfl (by simp [belH, SObj.bel, SV.belL, SV.bel, hc.ren, hc.bel]) ?_
  simp only [afterO, Out.ren, SV.ren, mgA, sig, SObj.ren, SV.renL, List.set, List.map, List.append_nil, hc.ren, hc.bel]
  refine run_sound mixed 600 _ ?_
  simp (maxSteps := 3000000) only [hc.ren, hc.bel, go_sem, ↓zA, ↓reduceIte, ↓reduceDIte, reduceCtorEq, Nat.reduceAdd, Nat.reduceSub, Nat.reduceLeDiff, Nat.reduceLT, Nat.reduceEqDiff, Nat.reduceBEq, Nat.reduceMul, Int.reduceToNat, Int.reduceEq, Int.reduceLT, Int.reduceLE] <;> try simp only [zB]
  refine callI_require (fun _ => ?_) fun h => absurd h (by decide)
  refine run_sound mixed 600 _ ?_
  simp (maxSteps := 3000000) only [hc.shut, hc.le, go_sem, ↓zA, ↓reduceIte, ↓reduceDIte, reduceCtorEq, Nat.reduceAdd, Nat.reduceSub, Nat.reduceLeDiff, Nat.reduceLT, Nat.reduceEqDiff, Nat.reduceBEq, Nat.reduceMul, Int.reduceToNat, Int.reduceEq, Int.reduceLT, Int.reduceLE] <;> try simp only [zB]
theorem maybe_in1 {α : Type} (g : Nat) (i : Nat) (hi : i ≤ 30) (b : List UInt8) (n : Nat) (hn : n ≤ b.length) (hb : b.length ≤ 1099511627776) (T : TypeId) (cs : List SV) (hc : Cln cs) (p : PR α) (hp : FitsP p) (upd : α → List SV) (hu : ∀ v, Cln (upd v))
    (hg : Eff Tryz.prog g (.agg [.ptr 0 0] :: [.ptr 1 0]) (takeC (b.drop n)) 0 [.cells T cs] (fun _ => .tup []) (fun v => [.cells T (upd v)]) (p (takeC (b.drop n)))) (h : nextB i (b.drop n) = true) :
    Eff Tryz.prog 201 [.agg [.ptr 0 0], rI i, .fn g [] [.ptr 1 0]] b n [.cells T cs] (fun _ => rB true) (fun v => [.cells T (upd v)]) (inP (tagB i) p (b.drop n)) := by
  rcases inP_cases (tag := tagB i) (p := p) (r := b.drop n) with ⟨h1, e⟩ | ⟨h1, e, h2, e'⟩ | ⟨h1, v, m, h2, h3, e⟩ | ⟨h1, v, m, h2, h3, e⟩
  · rw [e]
    have hs := rtag_er i hi b n hn hb h h1
    generalize takeE (tagB i) (b.drop n) = ee at *
    refine pe_seal (by simp) ?_
    refine runE mixed fi201 ?_ <;> try with_reducible exact True.intro
    refine callI_eff [0] (hs) rfl (by decide) (by simp [atH, sig, SObj.ren, SV.ren, SV.renL, SObj.live, hc.ren, hc.bel]) rfl (by simp [belH, SObj.bel, SV.belL, SV.bel, hc.ren, hc.bel]) ?_
    simp only [afterO, Out.ren, SV.ren, mgA, sig, SObj.ren, SV.renL, List.set, List.map, List.append_nil, hc.ren, hc.bel]
    refine run_sound mixed 600 _ ?_
    simp (maxSteps := 3000000) only [hc.ren, hc.bel, go_sem, ↓zA, ↓reduceIte, ↓reduceDIte, reduceCtorEq, Nat.reduceAdd, Nat.reduceSub, Nat.reduceLeDiff, Nat.reduceLT, Nat.reduceEqDiff, Nat.reduceBEq, Nat.reduceMul, Int.reduceToNat, Int.reduceEq, Int.reduceLT, Int.reduceLE] <;> try simp only [zB]
    refine callI_require (fun h => absurd h (by simp; omega)) fun _ => ?_
    (with_reducible refine sxE ?_ <;> try exact True.intro)
  · rw [e']
    have hs := rtag_ok i hi b n hn hb h h1
    have hg' := eff_er hg h2
    generalize takeC (b.drop n) = c at *
    refine pe_seal (by simp) ?_
    refine runE mixed fi201 ?_ <;> try with_reducible exact True.intro
    refine callI_eff [0] (hs) rfl (by decide) (by simp [atH, sig, SObj.ren, SV.ren, SV.renL, SObj.live, hc.ren, hc.bel]) rfl (by simp [belH, SObj.bel, SV.belL, SV.bel, hc.ren, hc.bel]) ?_
    simp only [afterO, Out.ren, SV.ren, mgA, sig, SObj.ren, SV.renL, List.set, List.map, List.append_nil, hc.ren, hc.bel]
    refine run_sound mixed 600 _ ?_
    simp (maxSteps := 3000000) only [hc.ren, hc.bel, go_sem, ↓zA, ↓reduceIte, ↓reduceDIte, reduceCtorEq, Nat.reduceAdd, Nat.reduceSub, Nat.reduceLeDiff, Nat.reduceLT, Nat.reduceEqDiff, Nat.reduceBEq, Nat.reduceMul, Int.reduceToNat, Int.reduceEq, Int.reduceLT, Int.reduceLE] <;> try simp only [zB]
    refine callI_require (fun _ => ?_) fun h => absurd h (by decide)
    refine goE mixed ?_ <;> try with_reducible exact True.intro
    refine callI_eff [3, 1] (hg') rfl (by decide) (by simp [atH, sig, SObj.ren, SV.ren, SV.renL, SObj.live, hc.ren, hc.bel]) rfl (by simp [belH, SObj.bel, SV.belL, SV.bel, hc.ren, hc.bel]) ?_
    simp only [afterO, Out.ren, SV.ren, mgA, sig, SObj.ren, SV.renL, List.set, List.map, List.append_nil, hc.ren, hc.bel]
    simp (maxSteps := 3000000) only [hc.ren, hc.bel, go_sem, ↓zA, ↓reduceIte, ↓reduceDIte, reduceCtorEq, Nat.reduceAdd, Nat.reduceSub, Nat.reduceLeDiff, Nat.reduceLT, Nat.reduceEqDiff, Nat.reduceBEq, Nat.reduceMul, Int.reduceToNat, Int.reduceEq, Int.reduceLT, Int.reduceLE] <;> try simp only [zB]
  · rw [e]
    have hs := rtag_ok i hi b n hn hb h h1
    have hg' := eff_ok hg h2
    generalize takeC (b.drop n) = c at *
    rw [Nat.zero_add] at hg'
    refine pe_seal (by simp) ?_
    refine runE mixed fi201 ?_ <;> try with_reducible exact True.intro
    refine callI_eff [0] (hs) rfl (by decide) (by simp [atH, sig, SObj.ren, SV.ren, SV.renL, SObj.live, hc.ren, hc.bel]) rfl (by simp [belH, SObj.bel, SV.belL, SV.bel, hc.ren, hc.bel]) ?_
    simp only [afterO, Out.ren, SV.ren, mgA, sig, SObj.ren, SV.renL, List.set, List.map, List.append_nil, hc.ren, hc.bel]
    refine run_sound mixed 600 _ ?_
    simp (maxSteps := 3000000) only [hc.ren, hc.bel, go_sem, ↓zA, ↓reduceIte, ↓reduceDIte, reduceCtorEq, Nat.reduceAdd, Nat.reduceSub, Nat.reduceLeDiff, Nat.reduceLT, Nat.reduceEqDiff, Nat.reduceBEq, Nat.reduceMul, Int.reduceToNat, Int.reduceEq, Int.reduceLT, Int.reduceLE] <;> try simp only [zB]
    refine callI_require (fun _ => ?_) fun h => absurd h (by decide)
    refine goE mixed ?_ <;> try with_reducible exact True.intro
    refine callI_eff [3, 1] (hg') rfl (by decide) (by simp [atH, sig, SObj.ren, SV.ren, SV.renL, SObj.live, hc.ren, hc.bel, (hu _).ren, (hu _).bel]) rfl (by simp [belH, SObj.bel, SV.belL, SV.bel, hc.ren, hc.bel, (hu _).ren, (hu _).bel]) ?_
    simp only [afterO, Out.ren, SV.ren, mgA, sig, SObj.ren, SV.renL, List.set, List.map, List.append_nil, hc.ren, hc.bel, (hu _).ren, (hu _).bel]
    refine run_sound mixed 600 _ ?_
    simp (maxSteps := 3000000) only [hc.ren, hc.bel, (hu _).ren, (hu _).bel, go_sem, ↓zA, ↓reduceIte, ↓reduceDIte, reduceCtorEq, Nat.reduceAdd, Nat.reduceSub, Nat.reduceLeDiff, Nat.reduceLT, Nat.reduceEqDiff, Nat.reduceBEq, Nat.reduceMul, Int.reduceToNat, Int.reduceEq, Int.reduceLT, Int.reduceLE] <;> try simp only [zB]
    refine callI_eff [3] (done_f c m h3) rfl (by decide) (by simp [atH, sig, SObj.ren, SV.ren, SV.renL, SObj.live, hc.ren, hc.bel, (hu _).ren, (hu _).bel]) rfl (by simp [belH, SObj.bel, SV.belL, SV.bel, hc.ren, hc.bel, (hu _).ren, (hu _).bel]) ?_
    simp only [afterO, Out.ren, SV.ren, mgA, sig, SObj.ren, SV.renL, List.set, List.map, List.append_nil, hc.ren, hc.bel, (hu _).ren, (hu _).bel]
    simp (maxSteps := 3000000) only [hc.ren, hc.bel, (hu _).ren, (hu _).bel, go_sem, ↓zA, ↓reduceIte, ↓reduceDIte, reduceCtorEq, Nat.reduceAdd, Nat.reduceSub, Nat.reduceLeDiff, Nat.reduceLT, Nat.reduceEqDiff, Nat.reduceBEq, Nat.reduceMul, Int.reduceToNat, Int.reduceEq, Int.reduceLT, Int.reduceLE] <;> try simp only [zB]
  · rw [e]
    have hs := rtag_ok i hi b n hn hb h h1
    have hg' := eff_ok hg h2
    have hm := hp _ _ _ h2
    generalize takeC (b.drop n) = c at *
    rw [Nat.zero_add] at hg'
    refine pe_seal (by simp) ?_
    refine runE mixed fi201 ?_ <;> try with_reducible exact True.intro
    refine callI_eff [0] (hs) rfl (by decide) (by simp [atH, sig, SObj.ren, SV.ren, SV.renL, SObj.live, hc.ren, hc.bel]) rfl (by simp [belH, SObj.bel, SV.belL, SV.bel, hc.ren, hc.bel]) ?_
    simp only [afterO, Out.ren, SV.ren, mgA, sig, SObj.ren, SV.renL, List.set, List.map, List.append_nil, hc.ren, hc.bel]
    refine run_sound mixed 600 _ ?_
    simp (maxSteps := 3000000) only [hc.ren, hc.bel, go_sem, ↓zA, ↓reduceIte, ↓reduceDIte, reduceCtorEq, Nat.reduceAdd, Nat.reduceSub, Nat.reduceLeDiff, Nat.reduceLT, Nat.reduceEqDiff, Nat.reduceBEq, Nat.reduceMul, Int.reduceToNat, Int.reduceEq, Int.reduceLT, Int.reduceLE] <;> try simp only [zB]
    refine callI_require (fun _ => ?_) fun h => absurd h (by decide)
    refine goE mixed ?_ <;> try with_reducible exact True.intro
    refine callI_eff [3, 1] (hg') rfl (by decide) (by simp [atH, sig, SObj.ren, SV.ren, SV.renL, SObj.live, hc.ren, hc.bel, (hu _).ren, (hu _).bel]) rfl (by simp [belH, SObj.bel, SV.belL, SV.bel, hc.ren, hc.bel, (hu _).ren, (hu _).bel]) ?_
    simp only [afterO, Out.ren, SV.ren, mgA, sig, SObj.ren, SV.renL, List.set, List.map, List.append_nil, hc.ren, hc.bel, (hu _).ren, (hu _).bel]
    refine run_sound mixed 600 _ ?_
    simp (maxSteps := 3000000) only [hc.ren, hc.bel, (hu _).ren, (hu _).bel, go_sem, ↓zA, ↓reduceIte, ↓reduceDIte, reduceCtorEq, Nat.reduceAdd, Nat.reduceSub, Nat.reduceLeDiff, Nat.reduceLT, Nat.reduceEqDiff, Nat.reduceBEq, Nat.reduceMul, Int.reduceToNat, Int.reduceEq, Int.reduceLT, Int.reduceLE] <;> try simp only [zB]
    refine callI_eff [3] (done_t c m (by omega)) rfl (by decide) (by simp [atH, sig, SObj.ren, SV.ren, SV.renL, SObj.live, hc.ren, hc.bel, (hu _).ren, (hu _).bel, (hu _).shut, (hu _).le]) rfl (by simp [belH, SObj.bel, SV.belL, SV.bel, hc.ren, hc.bel, (hu _).ren, (hu _).bel, (hu _).shut, (hu _).le]) ?_
    simp only [afterO, Out.ren, SV.ren, mgA, sig, SObj.ren, SV.renL, List.set, List.map, List.append_nil, hc.ren, hc.bel, (hu _).ren, (hu _).bel, (hu _).shut, (hu _).le]
    refine run_sound mixed 600 _ ?_
    simp (maxSteps := 3000000) only [hc.ren, hc.bel, (hu _).ren, (hu _).bel, (hu _).shut, (hu _).le, go_sem, ↓zA, ↓reduceIte, ↓reduceDIte, reduceCtorEq, Nat.reduceAdd, Nat.reduceSub, Nat.reduceLeDiff, Nat.reduceLT, Nat.reduceEqDiff, Nat.reduceBEq, Nat.reduceMul, Int.reduceToNat, Int.reduceEq, Int.reduceLT, Int.reduceLE] <;> try simp only [zB]
theorem need1 {α : Type} (g : Nat) (i : Nat) (hi : i ≤ 30) (b : List UInt8) (n : Nat) (hn : n ≤ b.length) (hb : b.length ≤ 1099511627776) (T : TypeId) (cs : List SV) (hc : Cln cs) (p : PR α) (hp : FitsP p) (upd : α → List SV) (hu : ∀ v, Cln (upd v))
    (hg : Eff Tryz.prog g (.agg [.ptr 0 0] :: [.ptr 1 0]) (takeC (b.drop n)) 0 [.cells T cs] (fun _ => .tup []) (fun v => [.cells T (upd v)]) (p (takeC (b.drop n)))) :
    Eff Tryz.prog 142 [.agg [.ptr 0 0], rI i, .fn g [] [.ptr 1 0]] b n [.cells T cs] (fun _ => .tup []) (fun v => [.cells T (upd v)]) (needP i p (b.drop n)) := by
  cases h : nextB i (b.drop n) with
  | false =>
    have hm := maybe_no1 g i hi b n hn T cs hc h
    have : ∃ e, needP i p (b.drop n) = .error e := ⟨_, by unfold needP; rw [h]; rfl⟩
    obtain ⟨e, he⟩ := this
    rw [he]
    refine pe_seal (by simp) ?_
    refine runE mixed fi142 ?_ <;> try with_reducible exact True.intro
    refine callI_eff [0, 1] (hm) rfl (by decide) (by simp [atH, sig, SObj.ren, SV.ren, SV.renL, SObj.live, hc.ren, hc.bel]) rfl (by simp [belH, SObj.bel, SV.belL, SV.bel, hc.ren, hc.bel]) ?_
    simp only [afterO, Out.ren, SV.ren, mgA, sig, SObj.ren, SV.renL, List.set, List.map, List.append_nil, hc.ren, hc.bel]
    refine run_sound mixed 600 _ ?_
    simp (maxSteps := 3000000) only [hc.ren, hc.bel, go_sem, ↓zA, ↓reduceIte, ↓reduceDIte, reduceCtorEq, Nat.reduceAdd, Nat.reduceSub, Nat.reduceLeDiff, Nat.reduceLT, Nat.reduceEqDiff, Nat.reduceBEq, Nat.reduceMul, Int.reduceToNat, Int.reduceEq, Int.reduceLT, Int.reduceLE] <;> try simp only [zB]
    refine callI_require (fun h => absurd h (by decide)) fun _ => ?_
    (with_reducible refine sxE ?_ <;> try exact True.intro)
  | true =>
    have hm := maybe_in1 g i hi b n hn hb T cs hc p hp upd hu hg h
    have he : needP i p (b.drop n) = inP (tagB i) p (b.drop n) := by unfold needP; rw [h]; rfl
    rw [he]
    cases hx : inP (tagB i) p (b.drop n) with
    | error e =>
      have hm' := eff_er hm hx
      refine pe_seal (by simp) ?_
      refine runE mixed fi142 ?_ <;> try with_reducible exact True.intro
      refine callI_eff [0, 1] (hm') rfl (by decide) (by simp [atH, sig, SObj.ren, SV.ren, SV.renL, SObj.live, hc.ren, hc.bel]) rfl (by simp [belH, SObj.bel, SV.belL, SV.bel, hc.ren, hc.bel]) ?_
      simp only [afterO, Out.ren, SV.ren, mgA, sig, SObj.ren, SV.renL, List.set, List.map, List.append_nil, hc.ren, hc.bel]
      simp (maxSteps := 3000000) only [hc.ren, hc.bel, go_sem, ↓zA, ↓reduceIte, ↓reduceDIte, reduceCtorEq, Nat.reduceAdd, Nat.reduceSub, Nat.reduceLeDiff, Nat.reduceLT, Nat.reduceEqDiff, Nat.reduceBEq, Nat.reduceMul, Int.reduceToNat, Int.reduceEq, Int.reduceLT, Int.reduceLE] <;> try simp only [zB]
    | ok x =>
      obtain ⟨v, k⟩ := x
      have hm' := eff_ok hm hx
      refine pe_seal (by simp) ?_
      refine runE mixed fi142 ?_ <;> try with_reducible exact True.intro
      refine callI_eff [0, 1] (hm') rfl (by decide) (by simp [atH, sig, SObj.ren, SV.ren, SV.renL, SObj.live, hc.ren, hc.bel, (hu _).ren, (hu _).bel]) rfl (by simp [belH, SObj.bel, SV.belL, SV.bel, hc.ren, hc.bel, (hu _).ren, (hu _).bel]) ?_
      simp only [afterO, Out.ren, SV.ren, mgA, sig, SObj.ren, SV.renL, List.set, List.map, List.append_nil, hc.ren, hc.bel, (hu _).ren, (hu _).bel]
      refine run_sound mixed 600 _ ?_
      simp (maxSteps := 3000000) only [hc.ren, hc.bel, (hu _).ren, (hu _).bel, go_sem, ↓zA, ↓reduceIte, ↓reduceDIte, reduceCtorEq, Nat.reduceAdd, Nat.reduceSub, Nat.reduceLeDiff, Nat.reduceLT, Nat.reduceEqDiff, Nat.reduceBEq, Nat.reduceMul, Int.reduceToNat, Int.reduceEq, Int.reduceLT, Int.reduceLE] <;> try simp only [zB]
      refine callI_require (fun _ => ?_) fun h => absurd h (by decide)
      refine run_sound mixed 600 _ ?_
      simp (maxSteps := 3000000) only [hc.ren, hc.bel, (hu _).ren, (hu _).bel, (hu _).shut, (hu _).le, go_sem, ↓zA, ↓reduceIte, ↓reduceDIte, reduceCtorEq, Nat.reduceAdd, Nat.reduceSub, Nat.reduceLeDiff, Nat.reduceLT, Nat.reduceEqDiff, Nat.reduceBEq, Nat.reduceMul, Int.reduceToNat, Int.reduceEq, Int.reduceLT, Int.reduceLE] <;> try simp only [zB]
theorem sequence3 {α : Type} (g : Nat) (b : List UInt8) (n : Nat) (hn : n ≤ b.length) (hb : b.length ≤ 1099511627776) (T T2 T3 : TypeId) (cs cs2 cs3 : List SV) (hc : Cln cs) (hc2 : Cln cs2) (hc3 : Cln cs3) (p : PR α) (hp : FitsP p) (upd upd2 upd3 : α → List SV) (hu : ∀ v, Cln (upd v)) (hu2 : ∀ v, Cln (upd2 v)) (hu3 : ∀ v, Cln (upd3 v))
    (hg : Eff Tryz.prog g (.agg [.ptr 0 0] :: [.ptr 1 0, .ptr 2 0, .ptr 3 0]) (takeC (b.drop n)) 0 [.cells T cs, .cells T2 cs2, .cells T3 cs3] (fun _ => .tup []) (fun v => [.cells T (upd v), .cells T2 (upd2 v), .cells T3 (upd3 v)]) (p (takeC (b.drop n)))) :
    Eff Tryz.prog 137 [.agg [.ptr 0 0], .fn g [] [.ptr 1 0, .ptr 2 0, .ptr 3 0]] b n [.cells T cs, .cells T2 cs2, .cells T3 cs3] (fun _ => .tup []) (fun v => [.cells T (upd v), .cells T2 (upd2 v), .cells T3 (upd3 v)]) (inP 48 p (b.drop n)) := by
  rcases inP_cases (tag := 48) (p := p) (r := b.drop n) with ⟨h1, e⟩ | ⟨h1, e, h2, e'⟩ | ⟨h1, v, m, h2, h3, e⟩ | ⟨h1, v, m, h2, h3, e⟩
  · rw [e]
    have hs := rseq_er b n hn hb h1
    generalize takeE 48 (b.drop n) = ee at *
    refine pe_seal (by simp) ?_
    refine runE mixed fi137 ?_ <;> try with_reducible exact True.intro
    refine callI_eff [0] (hs) rfl (by decide) (by simp [atH, sig, SObj.ren, SV.ren, SV.renL, SObj.live, hc.ren, hc.bel, hc2.ren, hc2.bel, hc3.ren, hc3.bel]) rfl (by simp [belH, SObj.bel, SV.belL, SV.bel, hc.ren, hc.bel, hc2.ren, hc2.bel, hc3.ren, hc3.bel]) ?_
    simp only [afterO, Out.ren, SV.ren, mgA, sig, SObj.ren, SV.renL, List.set, List.map, List.append_nil, hc.ren, hc.bel, hc2.ren, hc2.bel, hc3.ren, hc3.bel]
    refine run_sound mixed 600 _ ?_
    simp (maxSteps := 3000000) only [hc.ren, hc.bel, hc2.ren, hc2.bel, hc3.ren, hc3.bel, go_sem, ↓zA, ↓reduceIte, ↓reduceDIte, reduceCtorEq, Nat.reduceAdd, Nat.reduceSub, Nat.reduceLeDiff, Nat.reduceLT, Nat.reduceEqDiff, Nat.reduceBEq, Nat.reduceMul, Int.reduceToNat, Int.reduceEq, Int.reduceLT, Int.reduceLE] <;> try simp only [zB]
    refine callI_eff [] (take_er_rdr ee h1) rfl (by decide) (by simp [atH, sig, SObj.ren, SV.ren, SV.renL, SObj.live, hc.ren, hc.bel, hc2.ren, hc2.bel, hc3.ren, hc3.bel]) rfl (by simp [belH, SObj.bel, SV.belL, SV.bel, hc.ren, hc.bel, hc2.ren, hc2.bel, hc3.ren, hc3.bel]) ?_
    simp only [afterO, Out.ren, SV.ren, mgA, sig, SObj.ren, SV.renL, List.set, List.map, List.append_nil, hc.ren, hc.bel, hc2.ren, hc2.bel, hc3.ren, hc3.bel]
    simp (maxSteps := 3000000) only [hc.ren, hc.bel, hc2.ren, hc2.bel, hc3.ren, hc3.bel, go_sem, ↓zA, ↓reduceIte, ↓reduceDIte, reduceCtorEq, Nat.reduceAdd, Nat.reduceSub, Nat.reduceLeDiff, Nat.reduceLT, Nat.reduceEqDiff, Nat.reduceBEq, Nat.reduceMul, Int.reduceToNat, Int.reduceEq, Int.reduceLT, Int.reduceLE] <;> try simp only [zB]
  · rw [e']
    have hs := rseq_ok b n hn hb h1
    have hg' := eff_er hg h2
    generalize takeC (b.drop n) = c at *
    refine pe_seal (by simp) ?_
    refine runE mixed fi137 ?_ <;> try with_reducible exact True.intro
    refine callI_eff [0] (hs) rfl (by decide) (by simp [atH, sig, SObj.ren, SV.ren, SV.renL, SObj.live, hc.ren, hc.bel, hc2.ren, hc2.bel, hc3.ren, hc3.bel]) rfl (by simp [belH, SObj.bel, SV.belL, SV.bel, hc.ren, hc.bel, hc2.ren, hc2.bel, hc3.ren, hc3.bel]) ?_
    simp only [afterO, Out.ren, SV.ren, mgA, sig, SObj.ren, SV.renL, List.set, List.map, List.append_nil, hc.ren, hc.bel, hc2.ren, hc2.bel, hc3.ren, hc3.bel]
    refine run_sound mixed 600 _ ?_
    simp (maxSteps := 3000000) only [hc.ren, hc.bel, hc2.ren, hc2.bel, hc3.ren, hc3.bel, go_sem, ↓zA, ↓reduceIte, ↓reduceDIte, reduceCtorEq, Nat.reduceAdd, Nat.reduceSub, Nat.reduceLeDiff, Nat.reduceLT, Nat.reduceEqDiff, Nat.reduceBEq, Nat.reduceMul, Int.reduceToNat, Int.reduceEq, Int.reduceLT, Int.reduceLE] <;> try simp only [zB]
    refine callI_eff [5] (take_rdr c 0) rfl (by decide) (by simp [atH, sig, SObj.ren, SV.ren, SV.renL, SObj.live, hc.ren, hc.bel, hc2.ren, hc2.bel, hc3.ren, hc3.bel]) rfl (by simp [belH, SObj.bel, SV.belL, SV.bel, hc.ren, hc.bel, hc2.ren, hc2.bel, hc3.ren, hc3.bel]) ?_
    simp only [afterO, Out.ren, SV.ren, mgA, sig, SObj.ren, SV.renL, List.set, List.map, List.append_nil, hc.ren, hc.bel, hc2.ren, hc2.bel, hc3.ren, hc3.bel]
    refine run_sound mixed 600 _ ?_
    simp (maxSteps := 3000000) only [hc.ren, hc.bel, hc2.ren, hc2.bel, hc3.ren, hc3.bel, go_sem, ↓zA, ↓reduceIte, ↓reduceDIte, reduceCtorEq, Nat.reduceAdd, Nat.reduceSub, Nat.reduceLeDiff, Nat.reduceLT, Nat.reduceEqDiff, Nat.reduceBEq, Nat.reduceMul, Int.reduceToNat, Int.reduceEq, Int.reduceLT, Int.reduceLE] <;> try simp only [zB]
    refine callI_eff [5, 1, 2, 3] (hg') rfl (by decide) (by simp [atH, sig, SObj.ren, SV.ren, SV.renL, SObj.live, hc.ren, hc.bel, hc2.ren, hc2.bel, hc3.ren, hc3.bel]) rfl (by simp [belH, SObj.bel, SV.belL, SV.bel, hc.ren, hc.bel, hc2.ren, hc2.bel, hc3.ren, hc3.bel]) ?_
    simp only [afterO, Out.ren, SV.ren, mgA, sig, SObj.ren, SV.renL, List.set, List.map, List.append_nil, hc.ren, hc.bel, hc2.ren, hc2.bel, hc3.ren, hc3.bel]
    simp (maxSteps := 3000000) only [hc.ren, hc.bel, hc2.ren, hc2.bel, hc3.ren, hc3.bel, go_sem, ↓zA, ↓reduceIte, ↓reduceDIte, reduceCtorEq, Nat.reduceAdd, Nat.reduceSub, Nat.reduceLeDiff, Nat.reduceLT, Nat.reduceEqDiff, Nat.reduceBEq, Nat.reduceMul, Int.reduceToNat, Int.reduceEq, Int.reduceLT, Int.reduceLE] <;> try simp only [zB]
  · rw [e]
    have hs := rseq_ok b n hn hb h1
    have hg' := eff_ok hg h2
    generalize takeC (b.drop n) = c at *
    rw [Nat.zero_add] at hg'
    refine pe_seal (by simp) ?_
    refine runE mixed fi137 ?_ <;> try with_reducible exact True.intro
    refine callI_eff [0] (hs) rfl (by decide) (by simp [atH, sig, SObj.ren, SV.ren, SV.renL, SObj.live, hc.ren, hc.bel, hc2.ren, hc2.bel, hc3.ren, hc3.bel]) rfl (by simp [belH, SObj.bel, SV.belL, SV.bel, hc.ren, hc.bel, hc2.ren, hc2.bel, hc3.ren, hc3.bel]) ?_
    simp only [afterO, Out.ren, SV.ren, mgA, sig, SObj.ren, SV.renL, List.set, List.map, List.append_nil, hc.ren, hc.bel, hc2.ren, hc2.bel, hc3.ren, hc3.bel]
    refine run_sound mixed 600 _ ?_
    simp (maxSteps := 3000000) only [hc.ren, hc.bel, hc2.ren, hc2.bel, hc3.ren, hc3.bel, go_sem, ↓zA, ↓reduceIte, ↓reduceDIte, reduceCtorEq, Nat.reduceAdd, Nat.reduceSub, Nat.reduceLeDiff, Nat.reduceLT, Nat.reduceEqDiff, Nat.reduceBEq, Nat.reduceMul, Int.reduceToNat, Int.reduceEq, Int.reduceLT, Int.reduceLE] <;> try simp only [zB]
    refine callI_eff [5] (take_rdr c 0) rfl (by decide) (by simp [atH, sig, SObj.ren, SV.ren, SV.renL, SObj.live, hc.ren, hc.bel, hc2.ren, hc2.bel, hc3.ren, hc3.bel]) rfl (by simp [belH, SObj.bel, SV.belL, SV.bel, hc.ren, hc.bel, hc2.ren, hc2.bel, hc3.ren, hc3.bel]) ?_
    simp only [afterO, Out.ren, SV.ren, mgA, sig, SObj.ren, SV.renL, List.set, List.map, List.append_nil, hc.ren, hc.bel, hc2.ren, hc2.bel, hc3.ren, hc3.bel]
    refine run_sound mixed 600 _ ?_
    simp (maxSteps := 3000000) only [hc.ren, hc.bel, hc2.ren, hc2.bel, hc3.ren, hc3.bel, go_sem, ↓zA, ↓reduceIte, ↓reduceDIte, reduceCtorEq, Nat.reduceAdd, Nat.reduceSub, Nat.reduceLeDiff, Nat.reduceLT, Nat.reduceEqDiff, Nat.reduceBEq, Nat.reduceMul, Int.reduceToNat, Int.reduceEq, Int.reduceLT, Int.reduceLE] <;> try simp only [zB]
    refine callI_eff [5, 1, 2, 3] (hg') rfl (by decide) (by simp [atH, sig, SObj.ren, SV.ren, SV.renL, SObj.live, hc.ren, hc.bel, hc2.ren, hc2.bel, hc3.ren, hc3.bel, (hu _).ren, (hu _).bel, (hu2 _).ren, (hu2 _).bel, (hu3 _).ren, (hu3 _).bel]) rfl (by simp [belH, SObj.bel, SV.belL, SV.bel, hc.ren, hc.bel, hc2.ren, hc2.bel, hc3.ren, hc3.bel, (hu _).ren, (hu _).bel, (hu2 _).ren, (hu2 _).bel, (hu3 _).ren, (hu3 _).bel]) ?_
    simp only [afterO, Out.ren, SV.ren, mgA, sig, SObj.ren, SV.renL, List.set, List.map, List.append_nil, hc.ren, hc.bel, hc2.ren, hc2.bel, hc3.ren, hc3.bel, (hu _).ren, (hu _).bel, (hu2 _).ren, (hu2 _).bel, (hu3 _).ren, (hu3 _).bel]
    refine run_sound mixed 600 _ ?_
    simp (maxSteps := 3000000) only [hc.ren, hc.bel, hc2.ren, hc2.bel, hc3.ren, hc3.bel, (hu _).ren, (hu _).bel, (hu2 _).ren, (hu2 _).bel, (hu3 _).ren, (hu3 _).bel, go_sem, ↓zA, ↓reduceIte, ↓reduceDIte, reduceCtorEq, Nat.reduceAdd, Nat.reduceSub, Nat.reduceLeDiff, Nat.reduceLT, Nat.reduceEqDiff, Nat.reduceBEq, Nat.reduceMul, Int.reduceToNat, Int.reduceEq, Int.reduceLT, Int.reduceLE] <;> try simp only [zB]
    refine callI_eff [5] (done_f c m h3) rfl (by decide) (by simp [atH, sig, SObj.ren, SV.ren, SV.renL, SObj.live, hc.ren, hc.bel, hc2.ren, hc2.bel, hc3.ren, hc3.bel, (hu _).ren, (hu _).bel, (hu2 _).ren, (hu2 _).bel, (hu3 _).ren, (hu3 _).bel]) rfl (by simp [belH, SObj.bel, SV.belL, SV.bel, hc.ren, hc.bel, hc2.ren, hc2.bel, hc3.ren, hc3.bel, (hu _).ren, (hu _).bel, (hu2 _).ren, (hu2 _).bel, (hu3 _).ren, (hu3 _).bel]) ?_
    simp only [afterO, Out.ren, SV.ren, mgA, sig, SObj.ren, SV.renL, List.set, List.map, List.append_nil, hc.ren, hc.bel, hc2.ren, hc2.bel, hc3.ren, hc3.bel, (hu _).ren, (hu _).bel, (hu2 _).ren, (hu2 _).bel, (hu3 _).ren, (hu3 _).bel]
    simp (maxSteps := 3000000) only [hc.ren, hc.bel, hc2.ren, hc2.bel, hc3.ren, hc3.bel, (hu _).ren, (hu _).bel, (hu2 _).ren, (hu2 _).bel, (hu3 _).ren, (hu3 _).bel, go_sem, ↓zA, ↓reduceIte, ↓reduceDIte, reduceCtorEq, Nat.reduceAdd, Nat.reduceSub, Nat.reduceLeDiff, Nat.reduceLT, Nat.reduceEqDiff, Nat.reduceBEq, Nat.reduceMul, Int.reduceToNat, Int.reduceEq, Int.reduceLT, Int.reduceLE] <;> try simp only [zB]
  · rw [e]
    have hs := rseq_ok b n hn hb h1
    have hg' := eff_ok hg h2
    have hm := hp _ _ _ h2
    generalize takeC (b.drop n) = c at *
    rw [Nat.zero_add] at hg'
    refine pe_seal (by simp) ?_
    refine runE mixed fi137 ?_ <;> try with_reducible exact True.intro
    refine callI_eff [0] (hs) rfl (by decide) (by simp [atH, sig, SObj.ren, SV.ren, SV.renL, SObj.live, hc.ren, hc.bel, hc2.ren, hc2.bel, hc3.ren, hc3.bel]) rfl (by simp [belH, SObj.bel, SV.belL, SV.bel, hc.ren, hc.bel, hc2.ren, hc2.bel, hc3.ren, hc3.bel]) ?_
    simp only [afterO, Out.ren, SV.ren, mgA, sig, SObj.ren, SV.renL, List.set, List.map, List.append_nil, hc.ren, hc.bel, hc2.ren, hc2.bel, hc3.ren, hc3.bel]
    refine run_sound mixed 600 _ ?_
    simp (maxSteps := 3000000) only [hc.ren, hc.bel, hc2.ren, hc2.bel, hc3.ren, hc3.bel, go_sem, ↓zA, ↓reduceIte, ↓reduceDIte, reduceCtorEq, Nat.reduceAdd, Nat.reduceSub, Nat.reduceLeDiff, Nat.reduceLT, Nat.reduceEqDiff, Nat.reduceBEq, Nat.reduceMul, Int.reduceToNat, Int.reduceEq, Int.reduceLT, Int.reduceLE] <;> try simp only [zB]
    refine callI_eff [5] (take_rdr c 0) rfl (by decide) (by simp [atH, sig, SObj.ren, SV.ren, SV.renL, SObj.live, hc.ren, hc.bel, hc2.ren, hc2.bel, hc3.ren, hc3.bel]) rfl (by simp [belH, SObj.bel, SV.belL, SV.bel, hc.ren, hc.bel, hc2.ren, hc2.bel, hc3.ren, hc3.bel]) ?_
    simp only [afterO, Out.ren, SV.ren, mgA, sig, SObj.ren, SV.renL, List.set, List.map, List.append_nil, hc.ren, hc.bel, hc2.ren, hc2.bel, hc3.ren, hc3.bel]
    refine run_sound mixed 600 _ ?_
    simp (maxSteps := 3000000) only [hc.ren, hc.bel, hc2.ren, hc2.bel, hc3.ren, hc3.bel, go_sem, ↓zA, ↓reduceIte, ↓reduceDIte, reduceCtorEq, Nat.reduceAdd, Nat.reduceSub, Nat.reduceLeDiff, Nat.reduceLT, Nat.reduceEqDiff, Nat.reduceBEq, Nat.reduceMul, Int.reduceToNat, Int.reduceEq, Int.reduceLT, Int.reduceLE] <;> try simp only [zB]
    refine callI_eff [5, 1, 2, 3] (hg') rfl (by decide) (by simp [atH, sig, SObj.ren, SV.ren, SV.renL, SObj.live, hc.ren, hc.bel, hc2.ren, hc2.bel, hc3.ren, hc3.bel, (hu _).ren, (hu _).bel, (hu2 _).ren, (hu2 _).bel, (hu3 _).ren, (hu3 _).bel]) rfl (by simp [belH, SObj.bel, SV.belL, SV.bel, hc.ren, hc.bel, hc2.ren, hc2.bel, hc3.ren, hc3.bel, (hu _).ren, (hu _).bel, (hu2 _).ren, (hu2 _).bel, (hu3 _).ren, (hu3 _).bel]) ?_
    simp only [afterO, Out.ren, SV.ren, mgA, sig, SObj.ren, SV.renL, List.set, List.map, List.append_nil, hc.ren, hc.bel, hc2.ren, hc2.bel, hc3.ren, hc3.bel, (hu _).ren, (hu _).bel, (hu2 _).ren, (hu2 _).bel, (hu3 _).ren, (hu3 _).bel]
    refine run_sound mixed 600 _ ?_
    simp (maxSteps := 3000000) only [hc.ren, hc.bel, hc2.ren, hc2.bel, hc3.ren, hc3.bel, (hu _).ren, (hu _).bel, (hu2 _).ren, (hu2 _).bel, (hu3 _).ren, (hu3 _).bel, go_sem, ↓zA, ↓reduceIte, ↓reduceDIte, reduceCtorEq, Nat.reduceAdd, Nat.reduceSub, Nat.reduceLeDiff, Nat.reduceLT, Nat.reduceEqDiff, Nat.reduceBEq, Nat.reduceMul, Int.reduceToNat, Int.reduceEq, Int.reduceLT, Int.reduceLE] <;> try simp only [zB]
    refine callI_eff [5] (done_t c m (by omega)) rfl (by decide) (by simp [atH, sig, SObj.ren, SV.ren, SV.renL, SObj.live, hc.ren, hc.bel, hc2.ren, hc2.bel, hc3.ren, hc3.bel, (hu _).ren, (hu _).bel, (hu2 _).ren, (hu2 _).bel, (hu3 _).ren, (hu3 _).bel, (hu _).shut, (hu _).le, (hu2 _).shut, (hu2 _).le, (hu3 _).shut, (hu3 _).le]) rfl (by simp [belH, SObj.bel, SV.belL, SV.bel, hc.ren, hc.bel, hc2.ren, hc2.bel, hc3.ren, hc3.bel, (hu _).ren, (hu _).bel, (hu2 _).ren, (hu2 _).bel, (hu3 _).ren, (hu3 _).bel, (hu _).shut, (hu _).le, (hu2 _).shut, (hu2 _).le, (hu3 _).shut, (hu3 _).le]) ?_
    simp only [afterO, Out.ren, SV.ren, mgA, sig, SObj.ren, SV.renL, List.set, List.map, List.append_nil, hc.ren, hc.bel, hc2.ren, hc2.bel, hc3.ren, hc3.bel, (hu _).ren, (hu _).bel, (hu2 _).ren, (hu2 _).bel, (hu3 _).ren, (hu3 _).bel, (hu _).shut, (hu _).le, (hu2 _).shut, (hu2 _).le, (hu3 _).shut, (hu3 _).le]
    refine run_sound mixed 600 _ ?_
    simp (maxSteps := 3000000) only [hc.ren, hc.bel, hc2.ren, hc2.bel, hc3.ren, hc3.bel, (hu _).ren, (hu _).bel, (hu2 _).ren, (hu2 _).bel, (hu3 _).ren, (hu3 _).bel, (hu _).shut, (hu _).le, (hu2 _).shut, (hu2 _).le, (hu3 _).shut, (hu3 _).le, go_sem, ↓zA, ↓reduceIte, ↓reduceDIte, reduceCtorEq, Nat.reduceAdd, Nat.reduceSub, Nat.reduceLeDiff, Nat.reduceLT, Nat.reduceEqDiff, Nat.reduceBEq, Nat.reduceMul, Int.reduceToNat, Int.reduceEq, Int.reduceLT, Int.reduceLE] <;> try simp only [zB]
end Go.Proofs.YtddmkgibghohkaaGreatDoor
/- Contracts: reading tagged values that may be absent. -/
namespace Go.Proofs.YtddmkgibghohkaaGreatDoor
open Go Go.Sx Go.Proofs
set_option maxRecDepth 100000
set_option maxHeartbeats 4000000
set_option linter.unusedSimpArgs false

theorem rdP_ne {α : Type} {tag : UInt8} {dec : List UInt8 → Option α} {r : List UInt8} {e : Nat} (h : rdP tag dec r = .error e) : e ≠ 0 := by
  rcases rdP_er h with ⟨_, _, rfl⟩ | ⟨h1, rfl⟩
  · decide
  · exact h1
end Go.Proofs.YtddmkgibghohkaaGreatDoor
namespace Go.Sx
open Go
variable {P : Program} {AQ : Ex → List SV → List SObj → Prop} {k0 : Nat} {k : List IT} {t : List SV} {H : List SObj}

/-! ### Calls with an effect in a region that draws -/
def afterR (P : Program) (AQ : Ex → List SV → List SObj → Prop) (d : Option Tmp) (m : IM) : Out → List SObj → Prop
  | .ret s, H' => SoundI P AQ { m with tmps := putT m.tmps d s, heap := H' }
  | .pan s, H' => AQ (.pan s) [] H'
theorem callR_eff {G : List Nat} {f : FuncId} {args args0 : List SV} {H0 H1 : List SObj} {o : Out} {d : Option Tmp} {m : IM} (hs : List Nat) (hp : PE P f args0 H0 o H1) (hargs : args = SV.renL (sig hs m.heap.length) args0) (hnd : hs.Nodup)
    (ha : atH (sig hs m.heap.length) m.heap hs H0) (hb : SV.belL H0.length args0 = true) (hbh : belH H0.length H0 = true) (hG : SameG G m.heap (mgA (sig hs m.heap.length) hs H1 m.heap))
    (h : afterR P AQ d m (o.ren (sig hs m.heap.length)) (mgA (sig hs m.heap.length) hs H1 m.heap)) : CallR P AQ G f args d m := by
  subst hargs
  refine ⟨hp.1, VCall.fr hs hnd ha hb hbh hp.2 ?_⟩
  rintro o' H' _ ⟨rfl, rfl⟩
  cases o' with
  | ret s => exact ⟨fun _ => hG, h⟩
  | pan s => exact h

/-! ### A nil slice in a cell, seen as a row of the call's own -/
theorem wd_recell {C : Cx} {h : Nat} {T : TypeId} {cs cs' : List SV} (hw : Wd C H) (hH : H[h]? = some (.cells T cs)) (hd : ∀ vs, SV.denL C cs vs → SV.denL C cs' vs) : Wd C (H.set h (.cells T cs')) ∧ Ext ⟨C, H⟩ C (H.set h (.cells T cs')) := by
  have hget : ∀ {i y}, (H.set h (.cells T cs'))[i]? = some y → ∃ y', H[i]? = some y' ∧ y'.live = y.live ∧ (i ≠ h → y' = y) := fun {i y} hy => by
    by_cases e : i = h
    · subst e
      rw [List.getElem?_set_self (List.getElem?_eq_some_iff.1 hH).1] at hy
      cases hy
      exact ⟨_, hH, rfl, fun hn => absurd rfl hn⟩
    · rw [List.getElem?_set_ne (Ne.symm e)] at hy
      exact ⟨y, hy, rfl, fun _ => rfl⟩
  have hown : ∀ b, OwnB C (H.set h (.cells T cs')) b → OwnB C H b := fun b ⟨i, y, hy, hl, hb⟩ => by
    obtain ⟨y', h1, h2, _⟩ := hget hy
    exact ⟨i, y', h1, by rw [h2]; exact hl, hb⟩
  refine ⟨⟨by rw [List.length_set]; exact hw.n, fun i y hy => ?_, fun b hb => hw.own b (hown b hb), fun i j y z b hy hz hl hl' hb hb' => ?_, hw.imm⟩, ⟨Evo.refl _, Nat.le_refl _, rfl, rfl, rfl, fun _ _ _ => rfl, fun _ h => .inl h, fun b hb => .inr (hown b hb)⟩⟩
  · by_cases e : i = h
    · subst e
      rw [List.getElem?_set_self (List.getElem?_eq_some_iff.1 hH).1] at hy
      cases hy
      obtain ⟨b, vs, h1, h2, h3⟩ := hw.obj i _ hH
      exact ⟨b, vs, h1, h2, hd vs h3⟩
    · rw [List.getElem?_set_ne (Ne.symm e)] at hy
      exact hw.obj i y hy
  · obtain ⟨y', h1, h2, _⟩ := hget hy
    obtain ⟨z', h3, h4, _⟩ := hget hz
    exact hw.inj i j y' z' b h1 h3 (by rw [h2]; exact hl) (by rw [h4]; exact hl') hb hb'
theorem sound_nilcell {P : Program} {k : List It} {tm : List SV} (h off : Nat) (ty : Ty) {T : TypeId} {cs : List SV} (hH : H[h]? = some (.cells T cs)) (hi : cs[off]? = some (.raw (.slice none 0 0))) (hs : Sound P AQ ⟨k0, k, tm, (H.set h (.cells T (cs.set off (.bld H.length ty 0)))) ++ [.row ty []]⟩) : Sound P AQ ⟨k0, k, tm, H⟩ := by
  intro E r n C a h0 hd
  obtain ⟨C', hw, g1, g2, g3⟩ := nil_row (t := ty) hd.wd
  have hH' : (H ++ [SObj.row ty []])[h]? = some (.cells T cs) := by rw [List.getElem?_append_left (List.getElem?_eq_some_iff.1 hH).1]; exact hH
  obtain ⟨q1, q2⟩ := wd_recell (cs' := cs.set off (.bld H.length ty 0)) g1 hH' (fun vs hv => by
    obtain ⟨v, hv', hd'⟩ := denL_get hv hi
    rw [SV.den] at hd'
    subst hd'
    have := denL_set (i := off) hv g3
    have he : vs.set off (.slice none 0 0) = vs := by
      apply List.ext_getElem?
      intro j
      by_cases e : j = off
      · subst e
        rw [List.getElem?_set_self (List.getElem?_eq_some_iff.1 hv').1, hv']
      · rw [List.getElem?_set_ne (Ne.symm e)]
    rwa [he] at this)
  have hset : (H ++ [SObj.row ty []]).set h (.cells T (cs.set off (.bld H.length ty 0))) = H.set h (.cells T (cs.set off (.bld H.length ty 0))) ++ [.row ty []] := List.set_append_left _ _ (List.getElem?_eq_some_iff.1 hH).1
  rw [hset] at q1 q2
  have := hs E r n C' a h0 ⟨q1, hd.ext.trans (g2.trans q2), hd.defs.next (g2.trans q2), denL_evo g2.evo hd.tmps⟩
  rw [← hw]; exact this
theorem si_nilcell (h off : Nat) (ty : Ty) {T : TypeId} {cs : List SV} {td : List IT} (hp : plainT td = true) (hH : H[h]? = some (.cells T cs)) (hi : cs[off]? = some (.raw (.slice none 0 0))) (hs : SoundI P AQ ⟨k0, td, t, (H.set h (.cells T (cs.set off (.bld H.length ty 0)))) ++ [.row ty []]⟩) : SoundI P AQ ⟨k0, td, t, H⟩ :=
  soundI_plain (fun _ hr => sound_nilcell h off ty hH hi (soundI_get hs hr)) hp
end Go.Sx
/- Contracts: reading lists of values. -/
namespace Go.Proofs.YtddmkgibghohkaaGreatDoor
open Go Go.Sx Go.Proofs
set_option maxRecDepth 100000
set_option maxHeartbeats 4000000
set_option linter.unusedSimpArgs false

def effO {α : Type} (res : α → SV) : Except Nat (α × Nat) → Out
  | .ok (v, _) => .ret (res v)
  | .error _ => .pan wrongV
def effH {α : Type} (b : List UInt8) (n : Nat) (E : List SObj) (upd : α → List SObj) : Except Nat (α × Nat) → List SObj
  | .ok (v, k) => rdr b (n + k) :: upd v
  | .error _ => .dead :: E.map fun _ => .dead
theorem eff_of {P : Program} {α : Type} {f : FuncId} {args : List SV} {b : List UInt8} {n : Nat} {E : List SObj} {res : α → SV} {upd : α → List SObj} {x : Except Nat (α × Nat)} (hl : ∀ v, E.length ≤ (upd v).length) (h : VC P f args (rdr b n :: E) (SealO (effO res x) (effH b n E upd x))) : Eff P f args b n E res upd x := by
  cases x with
  | error e => exact pe_seal (by simp [effH]) h
  | ok y => obtain ⟨v, k⟩ := y; exact pe_seal (by simp [effH]; exact hl v) h
/-- What is still to come of a list. -/
def tailP {α : Type} (xs : List α) (k : Nat) : Except Nat (List α × Nat) → Except Nat (List α × Nat)
  | .ok (l, m) => .ok (xs ++ l, k + m)
  | .error e => .error e
theorem listP_step {α : Type} {p : PR α} {most : Nat} {c : List UInt8} {xs : List α} {k n : Nat} {v : α} {m : Nat} (hk : k < c.length) (hm : 0 < most) (hp : p (c.drop k) = .ok (v, m)) : tailP xs n (listP p most (c.drop k)) = tailP (xs ++ [v]) (n + m) (listP p (most - 1) (c.drop (k + m))) := by
  obtain ⟨most, rfl⟩ : ∃ q, most = q + 1 := ⟨most - 1, by omega⟩
  simp only [listP]
  rw [if_neg (by rw [List.length_drop]; omega), hp]
  simp only [Nat.add_sub_cancel, List.drop_drop]
  cases listP p most (c.drop (k + m)) with
  | error e => rfl
  | ok y => obtain ⟨l, q⟩ := y; simp [tailP]; omega
theorem listP_full {α : Type} {p : PR α} {c : List UInt8} {xs : List α} {k n : Nat} (hk : k < c.length) : tailP xs n (listP p 0 (c.drop k)) = .error 6 := by
  simp only [listP]
  rw [if_neg (by rw [List.length_drop]; omega)]; rfl
theorem listP_bad {α : Type} {p : PR α} {most : Nat} {c : List UInt8} {xs : List α} {k n : Nat} {e : Nat} (hk : k < c.length) (hm : 0 < most) (hp : p (c.drop k) = .error e) : tailP xs n (listP p most (c.drop k)) = .error e := by
  obtain ⟨most, rfl⟩ : ∃ q, most = q + 1 := ⟨most - 1, by omega⟩
  simp only [listP]
  rw [if_neg (by rw [List.length_drop]; omega), hp]; rfl
theorem listP_end {α : Type} {p : PR α} {most : Nat} {c : List UInt8} {xs : List α} {k n : Nat} (hk : c.length ≤ k) : tailP xs n (listP p most (c.drop k)) = .ok (xs, n) := by
  have : c.drop k = [] := List.drop_eq_nil_of_le hk
  rw [this]
  cases most <;> simp [listP, tailP]
theorem tailP_id {α : Type} (x : Except Nat (List α × Nat)) : tailP [] 0 x = x := by
  cases x with
  | error e => rfl
  | ok y => obtain ⟨l, m⟩ := y; simp [tailP]
theorem values1_salt (g : Nat) (p : PR (SaltT).den) (hp : FitsP p) (most : Nat) (hmost : most ≤ 1000) (b : List UInt8) (n : Nat) (hn : n ≤ b.length) (hb : b.length ≤ 1099511627776) (T T2 T3 : TypeId)
    (hok : ∀ m v q, p (b.drop m) = .ok (v, q) → (SaltT).ok v)
    (hg : ∀ m, m ≤ b.length → Eff Tryz.prog g [.agg [.ptr 0 0]] b m [] (fun x => .agg ((SaltT).cells x)) (fun _ => []) (p (b.drop m))) :
    Eff Tryz.prog 138 [.agg [.ptr 0 0], .ptr 1 0, .ptr 2 0, .ptr 3 0] b n [.cells T [.raw (.slice none 0 0)], .cells T2 [rI most], .cells T3 [.fn g [] []]] (fun _ => .tup []) (fun l => [.cells T [.isl (SaltT) l], .cells T2 [rI most], .cells T3 [.fn g [] []]]) (listP p most (b.drop n)) := by
  refine eff_of (fun _ => Nat.le_refl _) ?_
  generalize hx : listP p most (b.drop n) = X
  refine runE mixed fi138 ?_ <;> try with_reducible exact True.intro
  refine si_nilcell 1 0 (SaltT) rfl rfl rfl ?_
  (with_reducible refine sxE ?_ <;> try exact True.intro)
  refine si_loopX (ι := Nat × List (SaltT).den × List SObj) (fun s => []) (fun s => [rdr b s.1, .cells T [.bld (s.2.2.length + 5) (SaltT) s.2.1.length], .cells T2 [rI most], .cells T3 [.fn g [] []], .cells 116 [.ptr 0 0]] ++ s.2.2 ++ [.row (SaltT) s.2.1]) (fun s => 2 * (most + 1) - s.2.1.length) (fun s => s.2.1.length ≤ most ∧ n ≤ s.1 ∧ s.1 ≤ b.length ∧ X = tailP s.2.1 (s.1 - n) (listP p (most - s.2.1.length) (b.drop s.1))) (n, [], []) ⟨Nat.zero_le _, Nat.le_refl _, hn, ?_⟩ rfl ?_ ?_
  · rw [Nat.sub_self, tailP_id]; exact hx.symm
  · (with_reducible refine sxE ?_ <;> try exact True.intro)
  rintro ⟨k, xs, G⟩ ⟨h1, h2, h3, h4⟩
  dsimp only at h1 h2 h3 h4
  have hleft := left_c b k h3
  refine goaE mixed ?_ <;> try with_reducible exact True.intro
  refine callI_eff [0] hleft rfl (by decide) ⟨rfl, rfl, trivial⟩ rfl rfl ?_
  simp only [afterO, Out.ren, SV.ren, mgA, sig, SObj.ren, SV.renL, List.cons_append, List.nil_append, List.append_assoc, List.set_cons_zero, List.set_cons_succ, List.set, List.map, List.append_nil]
  refine goaE mixed ?_ <;> try with_reducible exact True.intro
  refine ⟨fun hp0 => callI_require (fun hmo => ?_) (fun hmo => ?_), fun hp0 => ?_⟩
  · have hlt : xs.length < most := of_decide_eq_true hmo
    have hkl : k < b.length := by omega
    refine run_sound mixed 1 _ ?_
    (with_reducible refine sxaE ?_ <;> try exact True.intro)
    refine si_drw [1, 3, 4] mixed ?_
    refine goaE mixed ?_ <;> try with_reducible exact True.intro
    cases hpk : p (b.drop k) with
    | error e =>
      have hg' := eff_er (hg k h3) hpk
      have hX := h4.trans (listP_bad hkl (by omega) hpk)
      rw [hX]
      refine callR_eff [0] hg' rfl (by decide) ⟨rfl, rfl, trivial⟩ rfl rfl ?_ ?_
      · simp (maxSteps := 3000000) only [mgA, sig, sameG_cons, sameG_nil, List.append_assoc, getA, getA0, setA, setA0, List.length_append, Nat.add_assoc, go_sem, ↓zA, ↓reduceIte, ↓reduceDIte, reduceCtorEq, Nat.reduceAdd, Nat.reduceSub, Nat.reduceLeDiff, Nat.reduceLT, Nat.reduceEqDiff, Nat.reduceBEq, Nat.reduceMul, Int.reduceToNat, Int.reduceEq, Int.reduceLT, Int.reduceLE] <;> try simp only [zB]
      · simp only [afterR, Out.ren, SV.ren, mgA, sig, SObj.ren, SV.renL, List.cons_append, List.nil_append, List.append_assoc, List.set_cons_zero, List.set_cons_succ, List.set, List.map, List.append_nil, effO, effH]
        (with_reducible refine sxaE ?_ <;> try exact True.intro)
    | ok y =>
      obtain ⟨v, m⟩ := y
      have hg' := eff_ok (hg k h3) hpk
      have hfit := hp _ _ _ hpk
      rw [List.length_drop] at hfit
      have hX := h4.trans (listP_step hkl (by omega) hpk)
      refine callR_eff [0] hg' rfl (by decide) ⟨rfl, rfl, trivial⟩ rfl rfl ?_ ?_
      · simp (maxSteps := 3000000) only [mgA, sig, sameG_cons, sameG_nil, List.append_assoc, getA, getA0, setA, setA0, List.length_append, Nat.add_assoc, go_sem, ↓zA, ↓reduceIte, ↓reduceDIte, reduceCtorEq, Nat.reduceAdd, Nat.reduceSub, Nat.reduceLeDiff, Nat.reduceLT, Nat.reduceEqDiff, Nat.reduceBEq, Nat.reduceMul, Int.reduceToNat, Int.reduceEq, Int.reduceLT, Int.reduceLE] <;> try simp only [zB]
      · simp only [afterR, Out.ren, SV.ren, mgA, sig, SObj.ren, SV.renL, List.cons_append, List.nil_append, List.append_assoc, List.set_cons_zero, List.set_cons_succ, List.set, List.map, List.append_nil]
        refine goaE mixed ?_ <;> try with_reducible exact True.intro
        have hob := hok _ _ _ hpk
        refine ⟨hob.2.1, ?_⟩
        refine ⟨⟨by omega, by omega⟩, (k + m, xs ++ [v], G ++ [.dead, .row (SaltT) [v]]), ⟨by simp; omega, by dsimp only; omega, by dsimp only; omega, ?_⟩, by simp; omega, ?_, ?_⟩
        · dsimp only
          rw [hX, List.length_append, List.length_singleton, Nat.sub_sub]
          congr 1
          omega
        · simp
        · (with_reducible refine sxaE ?_ <;> try exact True.intro)
  · have hlt : ¬ xs.length < most := of_decide_eq_false hmo
    have hm0 : most - xs.length = 0 := by omega
    rw [hm0] at h4
    have hX := h4.trans (listP_full (by omega))
    rw [hX]
    simp (maxSteps := 3000000) only [effO, effH, List.append_assoc, getA, getA0, setA, setA0, List.length_append, Nat.add_assoc, go_sem, ↓zA, ↓reduceIte, ↓reduceDIte, reduceCtorEq, Nat.reduceAdd, Nat.reduceSub, Nat.reduceLeDiff, Nat.reduceLT, Nat.reduceEqDiff, Nat.reduceBEq, Nat.reduceMul, Int.reduceToNat, Int.reduceEq, Int.reduceLT, Int.reduceLE] <;> try simp only [zB]
  · have hX := h4.trans (listP_end (by omega))
    rw [hX]
    simp (maxSteps := 3000000) only [effO, effH, List.append_assoc, getA, getA0, setA, setA0, List.length_append, Nat.add_assoc, go_sem, ↓zA, ↓reduceIte, ↓reduceDIte, reduceCtorEq, Nat.reduceAdd, Nat.reduceSub, Nat.reduceLeDiff, Nat.reduceLT, Nat.reduceEqDiff, Nat.reduceBEq, Nat.reduceMul, Int.reduceToNat, Int.reduceEq, Int.reduceLT, Int.reduceLE] <;> try simp only [zB]
    rw [if_neg (by omega)]
    (with_reducible refine sxE ?_ <;> try exact True.intro)
    refine ⟨congrArg (Value.int .i64) (by omega), ⟨Nat.le_refl _, by omega⟩, List.take_of_length_le (Nat.le_refl _)⟩
theorem values_salt (g : Nat) (p : PR (SaltT).den) (hp : FitsP p) (most : Nat) (hmost : most ≤ 1000) (b : List UInt8) (n : Nat) (hn : n ≤ b.length) (hb : b.length ≤ 1099511627776)
    (hok : ∀ c v q, c.length ≤ 1099511627776 → p c = .ok (v, q) → (SaltT).ok v)
    (hg : ∀ (c : List UInt8) m, m ≤ c.length → c.length ≤ 1099511627776 → Eff Tryz.prog g [.agg [.ptr 0 0]] c m [] (fun x => .agg ((SaltT).cells x)) (fun _ => []) (p (c.drop m))) :
    Eff Tryz.prog 78 [.agg [.ptr 0 0], rI most, .fn g [] []] b n [] (fun l => .isl (SaltT) l) (fun _ => []) (inP 48 (listP p most) (b.drop n)) := by
  have h1 := fun T T2 T3 => values1_salt g p hp most hmost (takeC (b.drop n)) 0 (Nat.zero_le _) (tkC_le hb) T T2 T3 (fun m v q h => hok _ v q (by have := tkC_le (n := n) hb; rw [List.length_drop]; omega) h) (fun m hm => hg _ m hm (tkC_le hb))
  simp only [List.drop_zero] at h1
  have hs := fun T T2 T3 => sequence3 138 b n hn hb T T2 T3 [.raw (.slice none 0 0)] [rI most] [.fn g [] []] (cln_raw cln_nil) (cln_raw cln_nil) (cln_fn cln_nil) (listP p most) (listP_fits hp most) (fun l => [.isl (SaltT) l]) (fun _ => [rI most]) (fun _ => [.fn g [] []]) (fun _ => cln_isl cln_nil) (fun _ => cln_raw cln_nil) (fun _ => cln_fn cln_nil) (h1 T T2 T3)
  cases hx : inP 48 (listP p most) (b.drop n) with
  | error e =>
    have hm' := fun T T2 T3 => eff_er (hs T T2 T3) hx
    refine pe_seal (by simp) ?_
    refine runE mixed fi78 ?_ <;> try with_reducible exact True.intro
    refine callI_eff [0, 4, 2, 3] (hm' _ _ _) rfl (by decide) (by repeat first | exact trivial | exact rfl | refine And.intro ?_ ?_) rfl rfl ?_
    simp only [afterO, Out.ren, SV.ren, mgA, sig, SObj.ren, SV.renL, List.set, List.map, List.append_nil]
    (with_reducible refine sxE ?_ <;> try exact True.intro)
  | ok x =>
    obtain ⟨v, k⟩ := x
    have hm' := fun T T2 T3 => eff_ok (hs T T2 T3) hx
    refine pe_seal (by simp) ?_
    refine runE mixed fi78 ?_ <;> try with_reducible exact True.intro
    refine callI_eff [0, 4, 2, 3] (hm' _ _ _) rfl (by decide) (by repeat first | exact trivial | exact rfl | refine And.intro ?_ ?_) rfl rfl ?_
    simp only [afterO, Out.ren, SV.ren, mgA, sig, SObj.ren, SV.renL, List.set, List.map, List.append_nil]
    refine goE mixed ?_ <;> try with_reducible exact True.intro
end Go.Proofs.YtddmkgibghohkaaGreatDoor
