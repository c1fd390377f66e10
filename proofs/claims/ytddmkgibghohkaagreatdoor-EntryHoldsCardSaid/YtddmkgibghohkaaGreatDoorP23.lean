/- Contracts: reading inside of elements, with a function. -/
import Derived.Test.YtddmkgibghohkaaGreatDoorP22
set_option linter.unusedSimpArgs false
set_option linter.unusedVariables false
namespace Go.Proofs.YtddmkgibghohkaaGreatDoor
open Go Go.Sx Go.Proofs
set_option maxRecDepth 100000
set_option maxHeartbeats 4000000
set_option linter.unusedSimpArgs false

def Eff (P : Program) {α : Type} (f : FuncId) (args : List SV) (b : List UInt8) (n : Nat) (E : List SObj) (res : α → SV) (upd : α → List SObj) : Except Nat (α × Nat) → Prop
 | .ok (v, k) => PE P f args (rdr b n :: E) (.ret (res v)) (rdr b (n + k) :: upd v)
 | .error _ => PE P f args (rdr b n :: E) (.pan wrongV) (.dead :: E.map fun _ => .dead)
theorem eff_ok {P : Program} {α : Type} {f : FuncId} {args : List SV} {b : List UInt8} {n : Nat} {E : List SObj} {res : α → SV} {upd : α → List SObj} {x : Except Nat (α × Nat)} {v : α} {k : Nat} (h : Eff P f args b n E res upd x) (hx : x = .ok (v, k)) : PE P f args (rdr b n :: E) (.ret (res v)) (rdr b (n + k) :: upd v) := by rw [hx] at h; exact h
theorem eff_er {P : Program} {α : Type} {f : FuncId} {args : List SV} {b : List UInt8} {n : Nat} {E : List SObj} {res : α → SV} {upd : α → List SObj} {x : Except Nat (α × Nat)} {e : Nat} (h : Eff P f args b n E res upd x) (hx : x = .error e) : PE P f args (rdr b n :: E) (.pan wrongV) (.dead :: E.map fun _ => .dead) := by rw [hx] at h; exact h
theorem inP_cases {α : Type} {tag : UInt8} {p : PR α} {r : List UInt8} : (takeE tag r ≠ 0 ∧ inP tag p r = .error (takeE tag r)) ∨
 (takeE tag r = 0 ∧ ∃ e, p (takeC r) = .error e ∧ inP tag p r = .error e) ∨
 (takeE tag r = 0 ∧ ∃ v m, p (takeC r) = .ok (v, m) ∧ m < (takeC r).length ∧ inP tag p r = .error 6) ∨
 (takeE tag r = 0 ∧ ∃ v m, p (takeC r) = .ok (v, m) ∧ ¬ m < (takeC r).length ∧ inP tag p r = .ok (v, takeN r)) := by
 unfold inP allP
 by_cases h : takeE tag r = 0
 · right
   rw [if_pos h]
   cases hp : p (takeC r) with
   | error e => exact .inl ⟨h, e, rfl, rfl⟩
   | ok x =>
    obtain ⟨v, m⟩ := x
    by_cases hm : m < (takeC r).length
    · exact .inr (.inl ⟨h, v, m, rfl, hm, by simp [hm]⟩)
    · exact .inr (.inr ⟨h, v, m, rfl, hm, by simp [hm]⟩)
 · exact .inl ⟨h, by rw [if_neg h]⟩
def FitsP {α : Type} (p : PR α) : Prop := ∀ r v m, p r = .ok (v, m) → m ≤ r.length
theorem inP_fits {α : Type} {tag : UInt8} {p : PR α} : FitsP (inP tag p) := fun r v m h => by
 rcases inP_cases (tag := tag) (p := p) (r := r) with ⟨_, e⟩ | ⟨_, _, _, e⟩ | ⟨_, _, _, _, _, e⟩ | ⟨h0, _, _, _, _, e⟩ <;> rw [e] at h <;> cases h
 exact takeN_le h0
theorem rdP_fits {α : Type} {tag : UInt8} {dec : List UInt8 → Option α} : FitsP (rdP tag dec) := fun _ _ _ h => rdP_le h
theorem needP_fits {α : Type} {n : Nat} {p : PR α} : FitsP (needP n p) := fun r v m h => by
 unfold needP at h
 split at h
 · exact inP_fits r v m h
 · cases h
theorem dfltP_fits {α : Type} {d : α} {n : Nat} {p : PR α} : FitsP (dfltP d n p) := fun r v m h => by
 unfold dfltP mayP at h
 cases hb : nextB n r with
 | false => rw [hb] at h; cases h; exact Nat.zero_le _
 | true =>
  rw [hb] at h
  cases hp : inP (tagB n) p r with
  | error e => rw [hp] at h; cases h
  | ok x =>
   obtain ⟨u, k⟩ := x
   rw [hp] at h; cases h
   exact inP_fits r _ m hp
theorem bindP_fits {α β : Type} {p : PR α} {f : α → PR β} (hp : FitsP p) (hf : ∀ v, FitsP (f v)) : FitsP (bindP p f) := fun r v m h => by
 unfold bindP at h
 cases h1 : p r with
 | error e => rw [h1] at h; cases h
 | ok x =>
  obtain ⟨u, k⟩ := x
  rw [h1] at h
  simp only at h
  cases h2 : f u (r.drop k) with
  | error e => rw [h2] at h; cases h
  | ok y =>
   obtain ⟨z, l⟩ := y
   rw [h2] at h; cases h
   have := hp r _ k h1
   have := hf _ _ _ l h2
   rw [List.length_drop] at this
   omega
theorem retP_fits {α : Type} {v : α} : FitsP (retP v) := fun r u m h => by cases h; exact Nat.zero_le _
theorem listP_fits {α : Type} {p : PR α} (hp : FitsP p) : ∀ n, FitsP (listP p n)
 | 0, r, v, m, h => by
  simp only [listP] at h
  split at h
  · cases h; exact Nat.zero_le _
  · cases h
 | n + 1, r, v, m, h => by
  simp only [listP] at h
  split at h
  · cases h; exact Nat.zero_le _
  · cases h1 : p r with
    | error e => rw [h1] at h; cases h
    | ok x =>
     obtain ⟨u, k⟩ := x
     rw [h1] at h
     simp only at h
     cases h2 : listP p n (r.drop k) with
     | error e => rw [h2] at h; cases h
     | ok y =>
      obtain ⟨z, l⟩ := y
      rw [h2] at h; cases h
      have := hp r _ k h1
      have := listP_fits hp n _ _ l h2
      rw [List.length_drop] at this
      omega

theorem cln_rb {cs : List SV} (h : Cln cs) : (∀ σ, SV.renL σ cs = cs) ∧ (∀ n, SV.belL n cs = true) ∧ (∀ n H, SV.sealBL n H cs = some (cs, True)) ∧ SV.leAL cs cs := ⟨h.ren, h.bel, h.shut, h.le⟩
theorem cln_rbF {α : Type} {f : α → List SV} (h : ∀ v, Cln (f v)) : (∀ v σ, SV.renL σ (f v) = f v) ∧ (∀ v n, SV.belL n (f v) = true) ∧ (∀ v n H, SV.sealBL n H (f v) = some (f v, True)) ∧ ∀ v, SV.leAL (f v) (f v) := ⟨fun v => (h v).ren, fun v => (h v).bel, fun v => (h v).shut, fun v => (h v).le⟩
theorem sequence1 {α : Type} (g : Nat) (b : List UInt8) (n : Nat) (hn : n ≤ b.length) (hb : b.length ≤ 1099511627776) (T : TypeId) (cs : List SV) (hc : Cln cs) (p : PR α) (hp : FitsP p) (upd : α → List SV) (hu : ∀ v, Cln (upd v))
 (hg : Eff Tryz.prog g (.agg [.ptr 0 0] :: [.ptr 1 0]) (takeC (b.drop n)) 0 [.cells T cs] (fun _ => .tup []) (fun v => [.cells T (upd v)]) (p (takeC (b.drop n)))) :
 Eff Tryz.prog 137 [.agg [.ptr 0 0], .fn g [] [.ptr 1 0]] b n [.cells T cs] (fun _ => .tup []) (fun v => [.cells T (upd v)]) (inP 48 p (b.drop n)) := by
 have w1 := cln_rb hc
 have w2 := And.intro w1 (cln_rbF hu)
 rcases inP_cases (tag := 48) (p := p) (r := b.drop n) with ⟨h1, e⟩ | ⟨h1, e, h2, e'⟩ | ⟨h1, v, m, h2, h3, e⟩ | ⟨h1, v, m, h2, h3, e⟩
 · rw [e]
   have hs := rseq_er b n hn hb h1
   generalize takeE 48 (b.drop n) = ee at *
   refine pe_seal (by simp) ?_
   refine runE mixed fi137 ?_
   refine effC mixed [0] (hs) w1 ?_
   refine effD [] (take_er_rdr ee h1) w1 ?_; trivial
 · rw [e']
   have hs := rseq_ok b n hn hb h1
   have hg' := eff_er hg h2
   generalize takeC (b.drop n) = c at *
   refine pe_seal (by simp) ?_
   refine runE mixed fi137 ?_
   refine effC mixed [0] (hs) w1 ?_
   refine effC mixed [3] (take_rdr c 0) w1 ?_
   refine effD [3, 1] (hg') w1 ?_; trivial
 · rw [e]
   have hs := rseq_ok b n hn hb h1
   have hg' := eff_ok hg h2
   generalize takeC (b.drop n) = c at *
   rw [Nat.zero_add] at hg'
   refine pe_seal (by simp) ?_
   refine runE mixed fi137 ?_
   refine effC mixed [0] (hs) w1 ?_
   refine effC mixed [3] (take_rdr c 0) w1 ?_
   refine effC mixed [3, 1] (hg') w2 ?_
   refine effD [3] (done_f c m h3) w2 ?_; trivial
 · rw [e]
   have hs := rseq_ok b n hn hb h1
   have hg' := eff_ok hg h2
   have hm := hp _ _ _ h2
   generalize takeC (b.drop n) = c at *
   rw [Nat.zero_add] at hg'
   refine pe_seal (by simp) ?_
   refine runE mixed fi137 ?_
   refine effC mixed [0] (hs) w1 ?_
   refine effC mixed [3] (take_rdr c 0) w1 ?_
   refine effC mixed [3, 1] (hg') w2 ?_
   refine effC mixed [3] (done_t c m (by omega)) w2 ?_; trivial
theorem maybe_no1 (g : Nat) (i : Nat) (hi : i ≤ 30) (b : List UInt8) (n : Nat) (hn : n ≤ b.length) (T : TypeId) (cs : List SV) (hc : Cln cs) (h : nextB i (b.drop n) = false) :
 PE Tryz.prog 201 [.agg [.ptr 0 0], rI i, .fn g [] [.ptr 1 0]] (rdr b n :: [.cells T cs]) (.ret (rB false)) (rdr b n :: [.cells T cs]) := by
 have w1 := cln_rb hc
 have hs := rtag_no i hi b n hn h
 refine pe_seal (by simp) ?_
 refine runE mixed fi201 ?_
 refine effC mixed [0] (hs) w1 ?_
 refine callI_require (fun _ => ?_) fun h => absurd h (by decide)
 refine run_sound mixed 600 _ ?_
 with_reducible refine sx1 w1 ?_; trivial
theorem maybe_in1 {α : Type} (g : Nat) (i : Nat) (hi : i ≤ 30) (b : List UInt8) (n : Nat) (hn : n ≤ b.length) (hb : b.length ≤ 1099511627776) (T : TypeId) (cs : List SV) (hc : Cln cs) (p : PR α) (hp : FitsP p) (upd : α → List SV) (hu : ∀ v, Cln (upd v))
 (hg : Eff Tryz.prog g (.agg [.ptr 0 0] :: [.ptr 1 0]) (takeC (b.drop n)) 0 [.cells T cs] (fun _ => .tup []) (fun v => [.cells T (upd v)]) (p (takeC (b.drop n)))) (h : nextB i (b.drop n) = true) :
 Eff Tryz.prog 201 [.agg [.ptr 0 0], rI i, .fn g [] [.ptr 1 0]] b n [.cells T cs] (fun _ => rB true) (fun v => [.cells T (upd v)]) (inP (tagB i) p (b.drop n)) := by
 have w1 := cln_rb hc
 have w2 := And.intro w1 (cln_rbF hu)
 rcases inP_cases (tag := tagB i) (p := p) (r := b.drop n) with ⟨h1, e⟩ | ⟨h1, e, h2, e'⟩ | ⟨h1, v, m, h2, h3, e⟩ | ⟨h1, v, m, h2, h3, e⟩
 · rw [e]
   have hs := rtag_er i hi b n hn hb h h1
   generalize takeE (tagB i) (b.drop n) = ee at *
   refine pe_seal (by simp) ?_
   refine runE mixed fi201 ?_
   refine effC mixed [0] (hs) w1 ?_
   refine callI_require (fun h => absurd h (by simp; omega)) fun _ => ?_
   with_reducible refine sxE ?_; trivial
 · rw [e']
   have hs := rtag_ok i hi b n hn hb h h1
   have hg' := eff_er hg h2
   generalize takeC (b.drop n) = c at *
   refine pe_seal (by simp) ?_
   refine runE mixed fi201 ?_
   refine effC mixed [0] (hs) w1 ?_
   refine callI_require (fun _ => ?_) fun h => absurd h (by decide)
   refine goE mixed ?_
   refine effD [3, 1] (hg') w1 ?_; trivial
 · rw [e]
   have hs := rtag_ok i hi b n hn hb h h1
   have hg' := eff_ok hg h2
   generalize takeC (b.drop n) = c at *
   rw [Nat.zero_add] at hg'
   refine pe_seal (by simp) ?_
   refine runE mixed fi201 ?_
   refine effC mixed [0] (hs) w1 ?_
   refine callI_require (fun _ => ?_) fun h => absurd h (by decide)
   refine goE mixed ?_
   refine effC mixed [3, 1] (hg') w2 ?_
   refine effD [3] (done_f c m h3) w2 ?_; trivial
 · rw [e]
   have hs := rtag_ok i hi b n hn hb h h1
   have hg' := eff_ok hg h2
   have hm := hp _ _ _ h2
   generalize takeC (b.drop n) = c at *
   rw [Nat.zero_add] at hg'
   refine pe_seal (by simp) ?_
   refine runE mixed fi201 ?_
   refine effC mixed [0] (hs) w1 ?_
   refine callI_require (fun _ => ?_) fun h => absurd h (by decide)
   refine goE mixed ?_
   refine effC mixed [3, 1] (hg') w2 ?_
   refine effC mixed [3] (done_t c m (by omega)) w2 ?_; trivial
theorem need1 {α : Type} (g : Nat) (i : Nat) (hi : i ≤ 30) (b : List UInt8) (n : Nat) (hn : n ≤ b.length) (hb : b.length ≤ 1099511627776) (T : TypeId) (cs : List SV) (hc : Cln cs) (p : PR α) (hp : FitsP p) (upd : α → List SV) (hu : ∀ v, Cln (upd v))
 (hg : Eff Tryz.prog g (.agg [.ptr 0 0] :: [.ptr 1 0]) (takeC (b.drop n)) 0 [.cells T cs] (fun _ => .tup []) (fun v => [.cells T (upd v)]) (p (takeC (b.drop n)))) :
 Eff Tryz.prog 142 [.agg [.ptr 0 0], rI i, .fn g [] [.ptr 1 0]] b n [.cells T cs] (fun _ => .tup []) (fun v => [.cells T (upd v)]) (needP i p (b.drop n)) := by
 have w1 := cln_rb hc
 have w2 := And.intro w1 (cln_rbF hu)
 cases h : nextB i (b.drop n) with
 | false =>
  have hm := maybe_no1 g i hi b n hn T cs hc h
  have : ∃ e, needP i p (b.drop n) = .error e := ⟨_, by unfold needP; rw [h]; rfl⟩
  obtain ⟨e, he⟩ := this
  rw [he]
  refine pe_seal (by simp) ?_
  refine runE mixed fi142 ?_
  refine effC mixed [0, 1] (hm) w1 ?_
  refine callI_require (fun h => absurd h (by decide)) fun _ => ?_
  with_reducible refine sxE ?_; trivial
 | true =>
  have hm := maybe_in1 g i hi b n hn hb T cs hc p hp upd hu hg h
  have he : needP i p (b.drop n) = inP (tagB i) p (b.drop n) := by unfold needP; rw [h]; rfl
  rw [he]
  cases hx : inP (tagB i) p (b.drop n) with
  | error e =>
   have hm' := eff_er hm hx
   refine pe_seal (by simp) ?_
   refine runE mixed fi142 ?_
   refine effD [0, 1] (hm') w1 ?_; trivial
  | ok x =>
   obtain ⟨v, k⟩ := x
   have hm' := eff_ok hm hx
   refine pe_seal (by simp) ?_
   refine runE mixed fi142 ?_
   refine effC mixed [0, 1] (hm') w2 ?_
   refine callI_require (fun _ => ?_) fun h => absurd h (by decide)
   refine run_sound mixed 600 _ ?_
   with_reducible refine sx1 w2 ?_; trivial
theorem sequence3 {α : Type} (g : Nat) (b : List UInt8) (n : Nat) (hn : n ≤ b.length) (hb : b.length ≤ 1099511627776) (T T2 T3 : TypeId) (cs cs2 cs3 : List SV) (hc : Cln cs) (hc2 : Cln cs2) (hc3 : Cln cs3) (p : PR α) (hp : FitsP p) (upd upd2 upd3 : α → List SV) (hu : ∀ v, Cln (upd v)) (hu2 : ∀ v, Cln (upd2 v)) (hu3 : ∀ v, Cln (upd3 v))
 (hg : Eff Tryz.prog g (.agg [.ptr 0 0] :: [.ptr 1 0, .ptr 2 0, .ptr 3 0]) (takeC (b.drop n)) 0 [.cells T cs, .cells T2 cs2, .cells T3 cs3] (fun _ => .tup []) (fun v => [.cells T (upd v), .cells T2 (upd2 v), .cells T3 (upd3 v)]) (p (takeC (b.drop n)))) :
 Eff Tryz.prog 137 [.agg [.ptr 0 0], .fn g [] [.ptr 1 0, .ptr 2 0, .ptr 3 0]] b n [.cells T cs, .cells T2 cs2, .cells T3 cs3] (fun _ => .tup []) (fun v => [.cells T (upd v), .cells T2 (upd2 v), .cells T3 (upd3 v)]) (inP 48 p (b.drop n)) := by
 have w1 := And.intro (cln_rb hc) (And.intro (cln_rb hc2) (cln_rb hc3))
 have w2 := And.intro w1 (And.intro (cln_rbF hu) (And.intro (cln_rbF hu2) (cln_rbF hu3)))
 rcases inP_cases (tag := 48) (p := p) (r := b.drop n) with ⟨h1, e⟩ | ⟨h1, e, h2, e'⟩ | ⟨h1, v, m, h2, h3, e⟩ | ⟨h1, v, m, h2, h3, e⟩
 · rw [e]
   have hs := rseq_er b n hn hb h1
   generalize takeE 48 (b.drop n) = ee at *
   refine pe_seal (by simp) ?_
   refine runE mixed fi137 ?_
   refine effC mixed [0] (hs) w1 ?_
   refine effD [] (take_er_rdr ee h1) w1 ?_; trivial
 · rw [e']
   have hs := rseq_ok b n hn hb h1
   have hg' := eff_er hg h2
   generalize takeC (b.drop n) = c at *
   refine pe_seal (by simp) ?_
   refine runE mixed fi137 ?_
   refine effC mixed [0] (hs) w1 ?_
   refine effC mixed [5] (take_rdr c 0) w1 ?_
   refine effD [5, 1, 2, 3] (hg') w1 ?_; trivial
 · rw [e]
   have hs := rseq_ok b n hn hb h1
   have hg' := eff_ok hg h2
   generalize takeC (b.drop n) = c at *
   rw [Nat.zero_add] at hg'
   refine pe_seal (by simp) ?_
   refine runE mixed fi137 ?_
   refine effC mixed [0] (hs) w1 ?_
   refine effC mixed [5] (take_rdr c 0) w1 ?_
   refine effC mixed [5, 1, 2, 3] (hg') w2 ?_
   refine effD [5] (done_f c m h3) w2 ?_; trivial
 · rw [e]
   have hs := rseq_ok b n hn hb h1
   have hg' := eff_ok hg h2
   have hm := hp _ _ _ h2
   generalize takeC (b.drop n) = c at *
   rw [Nat.zero_add] at hg'
   refine pe_seal (by simp) ?_
   refine runE mixed fi137 ?_
   refine effC mixed [0] (hs) w1 ?_
   refine effC mixed [5] (take_rdr c 0) w1 ?_
   refine effC mixed [5, 1, 2, 3] (hg') w2 ?_
   refine effC mixed [5] (done_t c m (by omega)) w2 ?_; trivial
theorem maybe_no3 (g : Nat) (i : Nat) (hi : i ≤ 30) (b : List UInt8) (n : Nat) (hn : n ≤ b.length) (T T2 T3 : TypeId) (cs cs2 cs3 : List SV) (hc : Cln cs) (hc2 : Cln cs2) (hc3 : Cln cs3) (h : nextB i (b.drop n) = false) :
 PE Tryz.prog 201 [.agg [.ptr 0 0], rI i, .fn g [] [.ptr 1 0, .ptr 2 0, .ptr 3 0]] (rdr b n :: [.cells T cs, .cells T2 cs2, .cells T3 cs3]) (.ret (rB false)) (rdr b n :: [.cells T cs, .cells T2 cs2, .cells T3 cs3]) := by
 have w1 := And.intro (cln_rb hc) (And.intro (cln_rb hc2) (cln_rb hc3))
 have hs := rtag_no i hi b n hn h
 refine pe_seal (by simp) ?_
 refine runE mixed fi201 ?_
 refine effC mixed [0] (hs) w1 ?_
 refine callI_require (fun _ => ?_) fun h => absurd h (by decide)
 refine run_sound mixed 600 _ ?_
 with_reducible refine sx1 w1 ?_; trivial
theorem maybe_in3 {α : Type} (g : Nat) (i : Nat) (hi : i ≤ 30) (b : List UInt8) (n : Nat) (hn : n ≤ b.length) (hb : b.length ≤ 1099511627776) (T T2 T3 : TypeId) (cs cs2 cs3 : List SV) (hc : Cln cs) (hc2 : Cln cs2) (hc3 : Cln cs3) (p : PR α) (hp : FitsP p) (upd upd2 upd3 : α → List SV) (hu : ∀ v, Cln (upd v)) (hu2 : ∀ v, Cln (upd2 v)) (hu3 : ∀ v, Cln (upd3 v))
 (hg : Eff Tryz.prog g (.agg [.ptr 0 0] :: [.ptr 1 0, .ptr 2 0, .ptr 3 0]) (takeC (b.drop n)) 0 [.cells T cs, .cells T2 cs2, .cells T3 cs3] (fun _ => .tup []) (fun v => [.cells T (upd v), .cells T2 (upd2 v), .cells T3 (upd3 v)]) (p (takeC (b.drop n)))) (h : nextB i (b.drop n) = true) :
 Eff Tryz.prog 201 [.agg [.ptr 0 0], rI i, .fn g [] [.ptr 1 0, .ptr 2 0, .ptr 3 0]] b n [.cells T cs, .cells T2 cs2, .cells T3 cs3] (fun _ => rB true) (fun v => [.cells T (upd v), .cells T2 (upd2 v), .cells T3 (upd3 v)]) (inP (tagB i) p (b.drop n)) := by
 have w1 := And.intro (cln_rb hc) (And.intro (cln_rb hc2) (cln_rb hc3))
 have w2 := And.intro w1 (And.intro (cln_rbF hu) (And.intro (cln_rbF hu2) (cln_rbF hu3)))
 rcases inP_cases (tag := tagB i) (p := p) (r := b.drop n) with ⟨h1, e⟩ | ⟨h1, e, h2, e'⟩ | ⟨h1, v, m, h2, h3, e⟩ | ⟨h1, v, m, h2, h3, e⟩
 · rw [e]
   have hs := rtag_er i hi b n hn hb h h1
   generalize takeE (tagB i) (b.drop n) = ee at *
   refine pe_seal (by simp) ?_
   refine runE mixed fi201 ?_
   refine effC mixed [0] (hs) w1 ?_
   refine callI_require (fun h => absurd h (by simp; omega)) fun _ => ?_
   with_reducible refine sxE ?_; trivial
 · rw [e']
   have hs := rtag_ok i hi b n hn hb h h1
   have hg' := eff_er hg h2
   generalize takeC (b.drop n) = c at *
   refine pe_seal (by simp) ?_
   refine runE mixed fi201 ?_
   refine effC mixed [0] (hs) w1 ?_
   refine callI_require (fun _ => ?_) fun h => absurd h (by decide)
   refine goE mixed ?_
   refine effD [5, 1, 2, 3] (hg') w1 ?_; trivial
 · rw [e]
   have hs := rtag_ok i hi b n hn hb h h1
   have hg' := eff_ok hg h2
   generalize takeC (b.drop n) = c at *
   rw [Nat.zero_add] at hg'
   refine pe_seal (by simp) ?_
   refine runE mixed fi201 ?_
   refine effC mixed [0] (hs) w1 ?_
   refine callI_require (fun _ => ?_) fun h => absurd h (by decide)
   refine goE mixed ?_
   refine effC mixed [5, 1, 2, 3] (hg') w2 ?_
   refine effD [5] (done_f c m h3) w2 ?_; trivial
 · rw [e]
   have hs := rtag_ok i hi b n hn hb h h1
   have hg' := eff_ok hg h2
   have hm := hp _ _ _ h2
   generalize takeC (b.drop n) = c at *
   rw [Nat.zero_add] at hg'
   refine pe_seal (by simp) ?_
   refine runE mixed fi201 ?_
   refine effC mixed [0] (hs) w1 ?_
   refine callI_require (fun _ => ?_) fun h => absurd h (by decide)
   refine goE mixed ?_
   refine effC mixed [5, 1, 2, 3] (hg') w2 ?_
   refine effC mixed [5] (done_t c m (by omega)) w2 ?_; trivial
end Go.Proofs.YtddmkgibghohkaaGreatDoor
/- Contracts: reading tagged values that may be absent. -/
namespace Go.Proofs.YtddmkgibghohkaaGreatDoor
open Go Go.Sx Go.Proofs
set_option maxRecDepth 100000
set_option maxHeartbeats 4000000
set_option linter.unusedSimpArgs false

theorem rdP_ne {α : Type} {tag : UInt8} {dec : List UInt8 → Option α} {r : List UInt8} {e : Nat} (h : rdP tag dec r = .error e) : e ≠ 0 := by
 rcases rdP_er h with ⟨_, _, rfl⟩ | ⟨h1, rfl⟩
 · decide
 · exact h1
theorem dfltP_no {α : Type} {d : α} {n : Nat} {p : PR α} {r : List UInt8} (h : nextB n r = false) : dfltP d n p r = .ok (d, 0) := dfltP_none h
theorem dfltP_in {α : Type} {d : α} {n : Nat} {p : PR α} {r : List UInt8} (h : nextB n r = true) : dfltP d n p r = inP (tagB n) p r := by
 unfold dfltP mayP
 rw [if_pos h]
 cases inP (tagB n) p r with
 | error e => rfl
 | ok x => rfl
theorem int_cl (b : List UInt8) (n : Nat) (hn : n ≤ b.length) (hb : b.length ≤ 1099511627776) (o : Value) :
 Eff Tryz.prog 225 [.agg [.ptr 0 0], .ptr 1 0] b n [.cells 3 [.raw o]] (fun _ => .tup []) (fun v => [.cells 3 [(rI) v]]) (intP (b.drop n)) := by
 cases hx : intP (b.drop n) with
 | error e =>
  have hr := rint_er b n hn hb hx
  refine pe_seal (by simp) ?_
  refine runE mixed fi225 ?_
  refine effE mixed [0] (hr) ?_
  refine effP [] (take_er_int _ e (rdP_ne hx)) ?_; trivial
 | ok x =>
  obtain ⟨v, k⟩ := x
  have hr := rint_ok b n hn hb hx
  refine pe_seal (by simp) ?_
  refine runE mixed fi225 ?_
  refine effE mixed [0] (hr) ?_
  refine callI_pure (take_int _) ?_
  refine goE mixed ?_; trivial
theorem eint_c (i : Nat) (hi : i ≤ 30) (b : List UInt8) (n : Nat) (hn : n ≤ b.length) (hb : b.length ≤ 1099511627776) :
 Eff Tryz.prog 184 [.agg [.ptr 0 0], rI i] b n [] (rI) (fun _ => []) (dfltP (0 : Int) i intP (b.drop n)) := by
 have hc : Cln [.raw (.int .i64 0)] := cln_raw cln_nil
 cases h : nextB i (b.drop n) with
 | false =>
  rw [dfltP_no h]
  have hm := maybe_no1 225 i hi b n hn 3 _ hc h
  refine pe_seal (by simp) ?_
  refine runE mixed fi184 ?_
  refine effE mixed [0, 2] (hm) ?_
  rfl
 | true =>
  rw [dfltP_in h]
  have hg := int_cl (takeC (b.drop n)) 0 (Nat.zero_le _) (tkC_le hb) (.int .i64 0)
  rw [List.drop_zero] at hg
  have hm := maybe_in1 225 i hi b n hn hb 3 _ hc intP rdP_fits (fun v => [(rI) v]) (fun v => cln_raw cln_nil) hg h
  cases hx : inP (tagB i) intP (b.drop n) with
  | error e =>
   have hm' := eff_er hm hx
   refine pe_seal (by simp) ?_
   refine runE mixed fi184 ?_
   refine effP [0, 2] (hm') ?_; trivial
  | ok x =>
   obtain ⟨v, k⟩ := x
   have hm' := eff_ok hm hx
   refine pe_seal (by simp) ?_
   refine runE mixed fi184 ?_
   refine effE mixed [0, 2] (hm') ?_; trivial
theorem str_cl (b : List UInt8) (n : Nat) (hn : n ≤ b.length) (hb : b.length ≤ 1099511627776) (o : Value) :
 Eff Tryz.prog 233 [.agg [.ptr 0 0], .ptr 1 0] b n [.cells 9 [.raw o]] (fun _ => .tup []) (fun v => [.cells 9 [(rS) v]]) (strP (b.drop n)) := by
 cases hx : strP (b.drop n) with
 | error e =>
  have hr := rstr_er b n hn hb hx
  refine pe_seal (by simp) ?_
  refine runE mixed fi233 ?_
  refine effE mixed [0] (hr) ?_
  refine effP [] (take_er_str _ e (rdP_ne hx)) ?_; trivial
 | ok x =>
  obtain ⟨v, k⟩ := x
  have hr := rstr_ok b n hn hb hx
  refine pe_seal (by simp) ?_
  refine runE mixed fi233 ?_
  refine effE mixed [0] (hr) ?_
  refine callI_pure (take_str _) ?_
  refine goE mixed ?_; trivial
theorem estr_c (i : Nat) (hi : i ≤ 30) (b : List UInt8) (n : Nat) (hn : n ≤ b.length) (hb : b.length ≤ 1099511627776) :
 Eff Tryz.prog 187 [.agg [.ptr 0 0], rI i] b n [] (rS) (fun _ => []) (dfltP (⟨#[]⟩ : ByteArray) i strP (b.drop n)) := by
 have hc : Cln [.raw (.string ⟨#[]⟩)] := cln_raw cln_nil
 cases h : nextB i (b.drop n) with
 | false =>
  rw [dfltP_no h]
  have hm := maybe_no1 233 i hi b n hn 9 _ hc h
  refine pe_seal (by simp) ?_
  refine runE mixed fi187 ?_
  refine effE mixed [0, 2] (hm) ?_
  rfl
 | true =>
  rw [dfltP_in h]
  have hg := str_cl (takeC (b.drop n)) 0 (Nat.zero_le _) (tkC_le hb) (.string ⟨#[]⟩)
  rw [List.drop_zero] at hg
  have hm := maybe_in1 233 i hi b n hn hb 9 _ hc strP rdP_fits (fun v => [(rS) v]) (fun v => cln_raw cln_nil) hg h
  cases hx : inP (tagB i) strP (b.drop n) with
  | error e =>
   have hm' := eff_er hm hx
   refine pe_seal (by simp) ?_
   refine runE mixed fi187 ?_
   refine effP [0, 2] (hm') ?_; trivial
  | ok x =>
   obtain ⟨v, k⟩ := x
   have hm' := eff_ok hm hx
   refine pe_seal (by simp) ?_
   refine runE mixed fi187 ?_
   refine effE mixed [0, 2] (hm') ?_; trivial
theorem time_cl (b : List UInt8) (n : Nat) (hn : n ≤ b.length) (hb : b.length ≤ 1099511627776) (o : Value) :
 Eff Tryz.prog 234 [.agg [.ptr 0 0], .ptr 1 0] b n [.cells 3 [.raw o]] (fun _ => .tup []) (fun v => [.cells 3 [(fun v => rI (v : Nat)) v]]) (timeP (b.drop n)) := by
 cases hx : timeP (b.drop n) with
 | error e =>
  have hr := rtime_er b n hn hb hx
  refine pe_seal (by simp) ?_
  refine runE mixed fi234 ?_
  refine effE mixed [0] (hr) ?_
  refine effP [] (take_er_int _ e (rdP_ne hx)) ?_; trivial
 | ok x =>
  obtain ⟨v, k⟩ := x
  have hr := rtime_ok b n hn hb hx
  refine pe_seal (by simp) ?_
  refine runE mixed fi234 ?_
  refine effE mixed [0] (hr) ?_
  refine callI_pure (take_int _) ?_
  refine goE mixed ?_; trivial
theorem etime_c (i : Nat) (hi : i ≤ 30) (b : List UInt8) (n : Nat) (hn : n ≤ b.length) (hb : b.length ≤ 1099511627776) :
 Eff Tryz.prog 188 [.agg [.ptr 0 0], rI i] b n [] (fun v => rI (v : Nat)) (fun _ => []) (dfltP (0 : Nat) i timeP (b.drop n)) := by
 have hc : Cln [.raw (.int .i64 0)] := cln_raw cln_nil
 cases h : nextB i (b.drop n) with
 | false =>
  rw [dfltP_no h]
  have hm := maybe_no1 234 i hi b n hn 3 _ hc h
  refine pe_seal (by simp) ?_
  refine runE mixed fi188 ?_
  refine effE mixed [0, 2] (hm) ?_
  rfl
 | true =>
  rw [dfltP_in h]
  have hg := time_cl (takeC (b.drop n)) 0 (Nat.zero_le _) (tkC_le hb) (.int .i64 0)
  rw [List.drop_zero] at hg
  have hm := maybe_in1 234 i hi b n hn hb 3 _ hc timeP rdP_fits (fun v => [(fun v => rI (v : Nat)) v]) (fun v => cln_raw cln_nil) hg h
  cases hx : inP (tagB i) timeP (b.drop n) with
  | error e =>
   have hm' := eff_er hm hx
   refine pe_seal (by simp) ?_
   refine runE mixed fi188 ?_
   refine effP [0, 2] (hm') ?_; trivial
  | ok x =>
   obtain ⟨v, k⟩ := x
   have hm' := eff_ok hm hx
   refine pe_seal (by simp) ?_
   refine runE mixed fi188 ?_
   refine effE mixed [0, 2] (hm') ?_; trivial
end Go.Proofs.YtddmkgibghohkaaGreatDoor
namespace Go.Sx
open Go
variable {P : Program} {AQ : Ex → List SV → List SObj → Prop} {k0 : Nat} {k : List IT} {t : List SV} {H : List SObj}

def afterR (P : Program) (AQ : Ex → List SV → List SObj → Prop) (d : Option Tmp) (m : IM) : Out → List SObj → Prop
 | .ret s, H' => SoundI P AQ { m with tmps := putT m.tmps d s, heap := H' }
 | .pan s, H' => AQ (.pan s) [] H'
theorem callR_eff {G : List Nat} {f : FuncId} {args args0 : List SV} {H0 H1 : List SObj} {o : Out} {d : Option Tmp} {m : IM} (hs : List Nat) (hp : PE P f args0 H0 o H1) (hargs : args = SV.renL (sig hs m.heap.length) args0) (hnd : hs.Nodup)
 (ha : atH (sig hs m.heap.length) m.heap hs H0) (hb : SV.belL H0.length args0 = true) (hbh : belH H0.length H0 = true) (hG : SameG G m.heap (mgA (sig hs m.heap.length) hs H1 m.heap))
 (h : afterR P AQ d m (o.ren (sig hs m.heap.length)) (mgA (sig hs m.heap.length) hs H1 m.heap)) : CallR P AQ G f args d m := by
 subst hargs
 refine ⟨hp.1, VCall.fr hs hnd ha hb hbh hp.2 ?_⟩
 rintro o' H' _ ⟨rfl, rfl⟩
 cases o' with
 | ret s => exact ⟨fun _ => hG, h⟩
 | pan s => exact h

theorem wd_recell {C : Cx} {h : Nat} {T : TypeId} {cs cs' : List SV} (hw : Wd C H) (hH : H[h]? = some (.cells T cs)) (hd : ∀ vs, SV.denL C cs vs → SV.denL C cs' vs) : Wd C (H.set h (.cells T cs')) ∧ Ext ⟨C, H⟩ C (H.set h (.cells T cs')) := by
 have hget : ∀ {i y}, (H.set h (.cells T cs'))[i]? = some y → ∃ y', H[i]? = some y' ∧ y'.live = y.live ∧ (i ≠ h → y' = y) := fun {i y} hy => by
  by_cases e : i = h
  · subst e
    rw [List.getElem?_set_self (List.getElem?_eq_some_iff.1 hH).1] at hy
    cases hy
    exact ⟨_, hH, rfl, fun hn => absurd rfl hn⟩
  · rw [List.getElem?_set_ne (Ne.symm e)] at hy
    exact ⟨y, hy, rfl, fun _ => rfl⟩
 have hown : ∀ b, OwnB C (H.set h (.cells T cs')) b → OwnB C H b := fun b ⟨i, y, hy, hl, hb⟩ => by
  obtain ⟨y', h1, h2, _⟩ := hget hy
  exact ⟨i, y', h1, by rw [h2]; exact hl, hb⟩
 refine ⟨⟨by rw [List.length_set]; exact hw.n, fun i y hy => ?_, fun b hb => hw.own b (hown b hb), fun i j y z b hy hz hl hl' hb hb' => ?_, hw.imm⟩, ⟨Evo.refl _, Nat.le_refl _, rfl, rfl, rfl, fun _ _ _ => rfl, fun _ h => .inl h, fun b hb => .inr (hown b hb)⟩⟩
 · by_cases e : i = h
   · subst e
     rw [List.getElem?_set_self (List.getElem?_eq_some_iff.1 hH).1] at hy
     cases hy
     obtain ⟨b, vs, h1, h2, h3⟩ := hw.obj i _ hH
     exact ⟨b, vs, h1, h2, hd vs h3⟩
   · rw [List.getElem?_set_ne (Ne.symm e)] at hy
     exact hw.obj i y hy
 · obtain ⟨y', h1, h2, _⟩ := hget hy
   obtain ⟨z', h3, h4, _⟩ := hget hz
   exact hw.inj i j y' z' b h1 h3 (by rw [h2]; exact hl) (by rw [h4]; exact hl') hb hb'
theorem sound_nilcell {P : Program} {k : List It} {tm : List SV} (h off : Nat) (ty : Ty) {T : TypeId} {cs : List SV} (hH : H[h]? = some (.cells T cs)) (hi : cs[off]? = some (.raw (.slice none 0 0))) (hs : Sound P AQ ⟨k0, k, tm, (H.set h (.cells T (cs.set off (.bld H.length ty 0)))) ++ [.row ty []]⟩) : Sound P AQ ⟨k0, k, tm, H⟩ := by
 intro E r n C a h0 hd
 obtain ⟨C', hw, g1, g2, g3⟩ := nil_row (t := ty) hd.wd
 have hH' : (H ++ [SObj.row ty []])[h]? = some (.cells T cs) := by rw [List.getElem?_append_left (List.getElem?_eq_some_iff.1 hH).1]; exact hH
 obtain ⟨q1, q2⟩ := wd_recell (cs' := cs.set off (.bld H.length ty 0)) g1 hH' (fun vs hv => by
  obtain ⟨v, hv', hd'⟩ := denL_get hv hi
  rw [SV.den] at hd'
  subst hd'
  have := denL_set (i := off) hv g3
  have he : vs.set off (.slice none 0 0) = vs := by
   apply List.ext_getElem?
   intro j
   by_cases e : j = off
   · subst e
     rw [List.getElem?_set_self (List.getElem?_eq_some_iff.1 hv').1, hv']
   · rw [List.getElem?_set_ne (Ne.symm e)]
  rwa [he] at this)
 have hset : (H ++ [SObj.row ty []]).set h (.cells T (cs.set off (.bld H.length ty 0))) = H.set h (.cells T (cs.set off (.bld H.length ty 0))) ++ [.row ty []] := List.set_append_left _ _ (List.getElem?_eq_some_iff.1 hH).1
 rw [hset] at q1 q2
 have := hs E r n C' a h0 ⟨q1, hd.ext.trans (g2.trans q2), hd.defs.next (g2.trans q2), denL_evo g2.evo hd.tmps⟩
 rw [← hw]; exact this
theorem si_nilcell (h off : Nat) (ty : Ty) {T : TypeId} {cs : List SV} {td : List IT} (hp : plainT td = true) (hH : H[h]? = some (.cells T cs)) (hi : cs[off]? = some (.raw (.slice none 0 0))) (hs : SoundI P AQ ⟨k0, td, t, (H.set h (.cells T (cs.set off (.bld H.length ty 0)))) ++ [.row ty []]⟩) : SoundI P AQ ⟨k0, td, t, H⟩ :=
 soundI_plain (fun _ hr => sound_nilcell h off ty hH hi (soundI_get hs hr)) hp
end Go.Sx
