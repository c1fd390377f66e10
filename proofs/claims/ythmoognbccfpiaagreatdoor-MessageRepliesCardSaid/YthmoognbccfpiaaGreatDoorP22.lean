/- Contracts: reading inside of elements, with a function. -/
import Derived.Test.YthmoognbccfpiaaGreatDoorP21
import Derived.Test.YthmoognbccfpiaaGreatDoorP18
import Derived.Test.YthmoognbccfpiaaGreatDoorP17
set_option linter.unusedSimpArgs false
set_option linter.unusedVariables false
set_option linter.unusedSectionVars false
namespace Go.Proofs.YthmoognbccfpiaaGreatDoor
open Go Go.Sx Go.Proofs
set_option maxRecDepth 100000
set_option maxHeartbeats 4000000
set_option linter.unusedSimpArgs false

def Eff (P : Program) {α : Type} (f : FuncId) (args : List SV) (b : List UInt8) (n : Nat) (E : List SObj) (res : α → SV) (upd : α → List SObj) : Except Nat (α × Nat) → Prop
 | .ok (v, k) => PE P f args (rdr b n :: E) (.ret (res v)) (rdr b (n + k) :: upd v)
 | .error _ => PE P f args (rdr b n :: E) (.pan wrongV) (.dead :: E.map fun _ => .dead)
theorem eff_ok {P : Program} {α : Type} {f : FuncId} {args : List SV} {b : List UInt8} {n : Nat} {E : List SObj} {res : α → SV} {upd : α → List SObj} {x : Except Nat (α × Nat)} {v : α} {k : Nat} (h : Eff P f args b n E res upd x) (hx : x = .ok (v, k)) : PE P f args (rdr b n :: E) (.ret (res v)) (rdr b (n + k) :: upd v) := by rw [hx] at h; exact h
theorem eff_er {P : Program} {α : Type} {f : FuncId} {args : List SV} {b : List UInt8} {n : Nat} {E : List SObj} {res : α → SV} {upd : α → List SObj} {x : Except Nat (α × Nat)} {e : Nat} (h : Eff P f args b n E res upd x) (hx : x = .error e) : PE P f args (rdr b n :: E) (.pan wrongV) (.dead :: E.map fun _ => .dead) := by rw [hx] at h; exact h
def appB (n : Nat) : UInt8 := byteOf (96 + n)
theorem app_wr {m : Nat} (hm : m ≤ 30) : IntKind.u8.wrap (IntKind.i64.wrap (96 + (m : Int))) = ((appB m).toNat : Int) := by
 rw [wrapi (by omega)]
 exact (byte_ob _).symm
theorem rapp_ok (m : Nat) (hm : m ≤ 30) (b : List UInt8) (n : Nat) (hn : n ≤ b.length) (hb : b.length ≤ 1099511627776) (ht : takeE (appB m) (b.drop n) = 0) :
 PE Tryz.prog 150 [.ptr 0 0, rI m] [rdr b n] (.ret (.tup [.ptr 1 0, rI 0])) [rdr b (n + takeN (b.drop n)), rdr (takeC (b.drop n)) 0] := by
 have hd := readr_ok (appB m) b n hn hb ht
 have hu := app_wr hm
 generalize takeC (b.drop n) = c at *
 generalize takeN (b.drop n) = k at *
 refine pe_seal (by simp) ?_
 refine runE mixed fi150 ?_
 refine ⟨fun _ => ⟨fun h30 => absurd h30 (by omega), fun _ => ?_⟩, fun hneg => by exfalso; omega⟩
 rw [hu]
 refine effE mixed [0] (hd) ?_; trivial
theorem rapp_er (m : Nat) (hm : m ≤ 30) (b : List UInt8) (n : Nat) (hn : n ≤ b.length) (hb : b.length ≤ 1099511627776) (ht : takeE (appB m) (b.drop n) ≠ 0) :
 PE Tryz.prog 150 [.ptr 0 0, rI m] [rdr b n] (.ret (.tup [.raw (.pointer none), rI (takeE (appB m) (b.drop n))])) [rdr b n] := by
 have hd := readr_er (appB m) b n hn hb ht
 have hu := app_wr hm
 generalize takeE (appB m) (b.drop n) = e at *
 refine pe_seal (by simp) ?_
 refine runE mixed fi150 ?_
 refine ⟨fun _ => ⟨fun h30 => absurd h30 (by omega), fun _ => ?_⟩, fun hneg => by exfalso; omega⟩
 rw [hu]
 refine effE mixed [0] (hd) ?_; trivial
theorem sequence1 {α : Type} (g : Nat) (b : List UInt8) (n : Nat) (hn : n ≤ b.length) (hb : b.length ≤ 1099511627776) (T : TypeId) (cs : List SV) (hc : Cln cs) (p : PR α) (hp : FitsP p) (upd : α → List SV) (hu : ∀ v, Cln (upd v))
 (hg : Eff Tryz.prog g (.agg [.ptr 0 0] :: [.ptr 1 0]) (takeC (b.drop n)) 0 [.cells T cs] (fun _ => .tup []) (fun v => [.cells T (upd v)]) (p (takeC (b.drop n)))) :
 Eff Tryz.prog 130 [.agg [.ptr 0 0], .fn g [] [.ptr 1 0]] b n [.cells T cs] (fun _ => .tup []) (fun v => [.cells T (upd v)]) (inP 48 p (b.drop n)) := by
 have w1 := cln_rb hc
 have w2 := And.intro w1 (cln_rbF hu)
 rcases inP_cases (tag := 48) (p := p) (r := b.drop n) with ⟨h1, e⟩ | ⟨h1, e, h2, e'⟩ | ⟨h1, v, m, h2, h3, e⟩ | ⟨h1, v, m, h2, h3, e⟩
 · rw [e]
   have hs := rseq_er b n hn hb h1
   generalize takeE 48 (b.drop n) = ee at *
   refine pe_seal (by simp) ?_
   refine runE mixed fi130 ?_
   refine effC mixed [0] (hs) w1 ?_
   refine effD [] (take_er_rdr ee h1) w1 ?_; trivial
 · rw [e']
   have hs := rseq_ok b n hn hb h1
   have hg' := eff_er hg h2
   generalize takeC (b.drop n) = c at *
   refine pe_seal (by simp) ?_
   refine runE mixed fi130 ?_
   refine effC mixed [0] (hs) w1 ?_
   refine effC mixed [3] (take_rdr c 0) w1 ?_
   refine effD [3, 1] (hg') w1 ?_; trivial
 · rw [e]
   have hs := rseq_ok b n hn hb h1
   have hg' := eff_ok hg h2
   generalize takeC (b.drop n) = c at *
   rw [Nat.zero_add] at hg'
   refine pe_seal (by simp) ?_
   refine runE mixed fi130 ?_
   refine effC mixed [0] (hs) w1 ?_
   refine effC mixed [3] (take_rdr c 0) w1 ?_
   refine effC mixed [3, 1] (hg') w2 ?_
   refine effD [3] (done_f c m h3) w2 ?_; trivial
 · rw [e]
   have hs := rseq_ok b n hn hb h1
   have hg' := eff_ok hg h2
   have hm := hp _ _ _ h2
   generalize takeC (b.drop n) = c at *
   rw [Nat.zero_add] at hg'
   refine pe_seal (by simp) ?_
   refine runE mixed fi130 ?_
   refine effC mixed [0] (hs) w1 ?_
   refine effC mixed [3] (take_rdr c 0) w1 ?_
   refine effC mixed [3, 1] (hg') w2 ?_
   refine effC mixed [3] (done_t c m (by omega)) w2 ?_; trivial
theorem maybe_no1 (g : Nat) (i : Nat) (hi : i ≤ 30) (b : List UInt8) (n : Nat) (hn : n ≤ b.length) (T : TypeId) (cs : List SV) (hc : Cln cs) (h : nextB i (b.drop n) = false) :
 PE Tryz.prog 154 [.agg [.ptr 0 0], rI i, .fn g [] [.ptr 1 0]] (rdr b n :: [.cells T cs]) (.ret (rB false)) (rdr b n :: [.cells T cs]) := by
 have w1 := cln_rb hc
 have hs := rtag_no i hi b n hn h
 refine pe_seal (by simp) ?_
 refine runE mixed fi154 ?_
 refine effC mixed [0] (hs) w1 ?_
 refine callI_require (fun _ => ?_) fun h => absurd h (by decide)
 refine run_sound mixed 600 _ ?_
 with_reducible refine sx1 w1 ?_; trivial
theorem maybe_in1 {α : Type} (g : Nat) (i : Nat) (hi : i ≤ 30) (b : List UInt8) (n : Nat) (hn : n ≤ b.length) (hb : b.length ≤ 1099511627776) (T : TypeId) (cs : List SV) (hc : Cln cs) (p : PR α) (hp : FitsP p) (upd : α → List SV) (hu : ∀ v, Cln (upd v))
 (hg : Eff Tryz.prog g (.agg [.ptr 0 0] :: [.ptr 1 0]) (takeC (b.drop n)) 0 [.cells T cs] (fun _ => .tup []) (fun v => [.cells T (upd v)]) (p (takeC (b.drop n)))) (h : nextB i (b.drop n) = true) :
 Eff Tryz.prog 154 [.agg [.ptr 0 0], rI i, .fn g [] [.ptr 1 0]] b n [.cells T cs] (fun _ => rB true) (fun v => [.cells T (upd v)]) (inP (tagB i) p (b.drop n)) := by
 have w1 := cln_rb hc
 have w2 := And.intro w1 (cln_rbF hu)
 rcases inP_cases (tag := tagB i) (p := p) (r := b.drop n) with ⟨h1, e⟩ | ⟨h1, e, h2, e'⟩ | ⟨h1, v, m, h2, h3, e⟩ | ⟨h1, v, m, h2, h3, e⟩
 · rw [e]
   have hs := rtag_er i hi b n hn hb h h1
   generalize takeE (tagB i) (b.drop n) = ee at *
   refine pe_seal (by simp) ?_
   refine runE mixed fi154 ?_
   refine effC mixed [0] (hs) w1 ?_
   refine callI_require (fun h => absurd h (by simp; omega)) fun _ => ?_
   with_reducible refine sxE ?_; trivial
 · rw [e']
   have hs := rtag_ok i hi b n hn hb h h1
   have hg' := eff_er hg h2
   generalize takeC (b.drop n) = c at *
   refine pe_seal (by simp) ?_
   refine runE mixed fi154 ?_
   refine effC mixed [0] (hs) w1 ?_
   refine callI_require (fun _ => ?_) fun h => absurd h (by decide)
   refine goE mixed ?_
   refine effD [3, 1] (hg') w1 ?_; trivial
 · rw [e]
   have hs := rtag_ok i hi b n hn hb h h1
   have hg' := eff_ok hg h2
   generalize takeC (b.drop n) = c at *
   rw [Nat.zero_add] at hg'
   refine pe_seal (by simp) ?_
   refine runE mixed fi154 ?_
   refine effC mixed [0] (hs) w1 ?_
   refine callI_require (fun _ => ?_) fun h => absurd h (by decide)
   refine goE mixed ?_
   refine effC mixed [3, 1] (hg') w2 ?_
   refine effD [3] (done_f c m h3) w2 ?_; trivial
 · rw [e]
   have hs := rtag_ok i hi b n hn hb h h1
   have hg' := eff_ok hg h2
   have hm := hp _ _ _ h2
   generalize takeC (b.drop n) = c at *
   rw [Nat.zero_add] at hg'
   refine pe_seal (by simp) ?_
   refine runE mixed fi154 ?_
   refine effC mixed [0] (hs) w1 ?_
   refine callI_require (fun _ => ?_) fun h => absurd h (by decide)
   refine goE mixed ?_
   refine effC mixed [3, 1] (hg') w2 ?_
   refine effC mixed [3] (done_t c m (by omega)) w2 ?_; trivial
theorem need1 {α : Type} (g : Nat) (i : Nat) (hi : i ≤ 30) (b : List UInt8) (n : Nat) (hn : n ≤ b.length) (hb : b.length ≤ 1099511627776) (T : TypeId) (cs : List SV) (hc : Cln cs) (p : PR α) (hp : FitsP p) (upd : α → List SV) (hu : ∀ v, Cln (upd v))
 (hg : Eff Tryz.prog g (.agg [.ptr 0 0] :: [.ptr 1 0]) (takeC (b.drop n)) 0 [.cells T cs] (fun _ => .tup []) (fun v => [.cells T (upd v)]) (p (takeC (b.drop n)))) :
 Eff Tryz.prog 88 [.agg [.ptr 0 0], rI i, .fn g [] [.ptr 1 0]] b n [.cells T cs] (fun _ => .tup []) (fun v => [.cells T (upd v)]) (needP i p (b.drop n)) := by
 have w1 := cln_rb hc
 have w2 := And.intro w1 (cln_rbF hu)
 cases h : nextB i (b.drop n) with
 | false =>
  have hm := maybe_no1 g i hi b n hn T cs hc h
  have : ∃ e, needP i p (b.drop n) = .error e := ⟨_, by unfold needP; rw [h]; rfl⟩
  obtain ⟨e, he⟩ := this
  rw [he]
  refine pe_seal (by simp) ?_
  refine runE mixed fi88 ?_
  refine effC mixed [0, 1] (hm) w1 ?_
  refine callI_require (fun h => absurd h (by decide)) fun _ => ?_
  with_reducible refine sxE ?_; trivial
 | true =>
  have hm := maybe_in1 g i hi b n hn hb T cs hc p hp upd hu hg h
  have he : needP i p (b.drop n) = inP (tagB i) p (b.drop n) := by unfold needP; rw [h]; rfl
  rw [he]
  cases hx : inP (tagB i) p (b.drop n) with
  | error e =>
   have hm' := eff_er hm hx
   refine pe_seal (by simp) ?_
   refine runE mixed fi88 ?_
   refine effD [0, 1] (hm') w1 ?_; trivial
  | ok x =>
   obtain ⟨v, k⟩ := x
   have hm' := eff_ok hm hx
   refine pe_seal (by simp) ?_
   refine runE mixed fi88 ?_
   refine effC mixed [0, 1] (hm') w2 ?_
   refine callI_require (fun _ => ?_) fun h => absurd h (by decide)
   refine run_sound mixed 600 _ ?_
   with_reducible refine sx1 w2 ?_; trivial
theorem sequence2 {α : Type} (g : Nat) (b : List UInt8) (n : Nat) (hn : n ≤ b.length) (hb : b.length ≤ 1099511627776) (T T2 : TypeId) (cs cs2 : List SV) (hc : Cln cs) (hc2 : Cln cs2) (p : PR α) (hp : FitsP p) (upd upd2 : α → List SV) (hu : ∀ v, Cln (upd v)) (hu2 : ∀ v, Cln (upd2 v))
 (hg : Eff Tryz.prog g (.agg [.ptr 0 0] :: [.ptr 1 0, .ptr 2 0]) (takeC (b.drop n)) 0 [.cells T cs, .cells T2 cs2] (fun _ => .tup []) (fun v => [.cells T (upd v), .cells T2 (upd2 v)]) (p (takeC (b.drop n)))) :
 Eff Tryz.prog 130 [.agg [.ptr 0 0], .fn g [] [.ptr 1 0, .ptr 2 0]] b n [.cells T cs, .cells T2 cs2] (fun _ => .tup []) (fun v => [.cells T (upd v), .cells T2 (upd2 v)]) (inP 48 p (b.drop n)) := by
 have w1 := And.intro (cln_rb hc) (cln_rb hc2)
 have w2 := And.intro w1 (And.intro (cln_rbF hu) (cln_rbF hu2))
 rcases inP_cases (tag := 48) (p := p) (r := b.drop n) with ⟨h1, e⟩ | ⟨h1, e, h2, e'⟩ | ⟨h1, v, m, h2, h3, e⟩ | ⟨h1, v, m, h2, h3, e⟩
 · rw [e]
   have hs := rseq_er b n hn hb h1
   generalize takeE 48 (b.drop n) = ee at *
   refine pe_seal (by simp) ?_
   refine runE mixed fi130 ?_
   refine effC mixed [0] (hs) w1 ?_
   refine effD [] (take_er_rdr ee h1) w1 ?_; trivial
 · rw [e']
   have hs := rseq_ok b n hn hb h1
   have hg' := eff_er hg h2
   generalize takeC (b.drop n) = c at *
   refine pe_seal (by simp) ?_
   refine runE mixed fi130 ?_
   refine effC mixed [0] (hs) w1 ?_
   refine effC mixed [4] (take_rdr c 0) w1 ?_
   refine effD [4, 1, 2] (hg') w1 ?_; trivial
 · rw [e]
   have hs := rseq_ok b n hn hb h1
   have hg' := eff_ok hg h2
   generalize takeC (b.drop n) = c at *
   rw [Nat.zero_add] at hg'
   refine pe_seal (by simp) ?_
   refine runE mixed fi130 ?_
   refine effC mixed [0] (hs) w1 ?_
   refine effC mixed [4] (take_rdr c 0) w1 ?_
   refine effC mixed [4, 1, 2] (hg') w2 ?_
   refine effD [4] (done_f c m h3) w2 ?_; trivial
 · rw [e]
   have hs := rseq_ok b n hn hb h1
   have hg' := eff_ok hg h2
   have hm := hp _ _ _ h2
   generalize takeC (b.drop n) = c at *
   rw [Nat.zero_add] at hg'
   refine pe_seal (by simp) ?_
   refine runE mixed fi130 ?_
   refine effC mixed [0] (hs) w1 ?_
   refine effC mixed [4] (take_rdr c 0) w1 ?_
   refine effC mixed [4, 1, 2] (hg') w2 ?_
   refine effC mixed [4] (done_t c m (by omega)) w2 ?_; trivial
theorem maybe_nop (g : Nat) (i : Nat) (hi : i ≤ 30) (b : List UInt8) (n : Nat) (hn : n ≤ b.length) (T T2 : TypeId) (cs : List SV) (hc : Cln cs) (h : nextB i (b.drop n) = false) :
 PE Tryz.prog 154 [.agg [.ptr 0 0], rI i, .fn g [] [.ptr 1 0]] (rdr b n :: [.cells T [.ptr 2 0], .cells T2 cs]) (.ret (rB false)) (rdr b n :: [.cells T [.ptr 2 0], .cells T2 cs]) := by
 have w1 := cln_rb hc
 have hs := rtag_no i hi b n hn h
 refine pe_seal (by simp) ?_
 refine runE mixed fi154 ?_
 refine effC mixed [0] (hs) w1 ?_
 refine callI_require (fun _ => ?_) fun h => absurd h (by decide)
 refine run_sound mixed 600 _ ?_
 with_reducible refine sx1 w1 ?_; trivial
theorem maybe_inp {α : Type} (g : Nat) (i : Nat) (hi : i ≤ 30) (b : List UInt8) (n : Nat) (hn : n ≤ b.length) (hb : b.length ≤ 1099511627776) (T T2 : TypeId) (cs : List SV) (hc : Cln cs) (p : PR α) (hp : FitsP p) (upd : α → List SV) (hu : ∀ v, Cln (upd v))
 (hg : Eff Tryz.prog g (.agg [.ptr 0 0] :: [.ptr 1 0]) (takeC (b.drop n)) 0 [.cells T [.ptr 2 0], .cells T2 cs] (fun _ => .tup []) (fun v => [.cells T [.ptr 2 0], .cells T2 (upd v)]) (p (takeC (b.drop n)))) (h : nextB i (b.drop n) = true) :
 Eff Tryz.prog 154 [.agg [.ptr 0 0], rI i, .fn g [] [.ptr 1 0]] b n [.cells T [.ptr 2 0], .cells T2 cs] (fun _ => rB true) (fun v => [.cells T [.ptr 2 0], .cells T2 (upd v)]) (inP (tagB i) p (b.drop n)) := by
 have w1 := cln_rb hc
 have w2 := And.intro w1 (cln_rbF hu)
 rcases inP_cases (tag := tagB i) (p := p) (r := b.drop n) with ⟨h1, e⟩ | ⟨h1, e, h2, e'⟩ | ⟨h1, v, m, h2, h3, e⟩ | ⟨h1, v, m, h2, h3, e⟩
 · rw [e]
   have hs := rtag_er i hi b n hn hb h h1
   generalize takeE (tagB i) (b.drop n) = ee at *
   refine pe_seal (by simp) ?_
   refine runE mixed fi154 ?_
   refine effC mixed [0] (hs) w1 ?_
   refine callI_require (fun h => absurd h (by simp; omega)) fun _ => ?_
   with_reducible refine sxE ?_; trivial
 · rw [e']
   have hs := rtag_ok i hi b n hn hb h h1
   have hg' := eff_er hg h2
   generalize takeC (b.drop n) = c at *
   refine pe_seal (by simp) ?_
   refine runE mixed fi154 ?_
   refine effC mixed [0] (hs) w1 ?_
   refine callI_require (fun _ => ?_) fun h => absurd h (by decide)
   refine goE mixed ?_
   refine effD [4, 1, 2] (hg') w1 ?_; trivial
 · rw [e]
   have hs := rtag_ok i hi b n hn hb h h1
   have hg' := eff_ok hg h2
   generalize takeC (b.drop n) = c at *
   rw [Nat.zero_add] at hg'
   refine pe_seal (by simp) ?_
   refine runE mixed fi154 ?_
   refine effC mixed [0] (hs) w1 ?_
   refine callI_require (fun _ => ?_) fun h => absurd h (by decide)
   refine goE mixed ?_
   refine effC mixed [4, 1, 2] (hg') w2 ?_
   refine effD [4] (done_f c m h3) w2 ?_; trivial
 · rw [e]
   have hs := rtag_ok i hi b n hn hb h h1
   have hg' := eff_ok hg h2
   have hm := hp _ _ _ h2
   generalize takeC (b.drop n) = c at *
   rw [Nat.zero_add] at hg'
   refine pe_seal (by simp) ?_
   refine runE mixed fi154 ?_
   refine effC mixed [0] (hs) w1 ?_
   refine callI_require (fun _ => ?_) fun h => absurd h (by decide)
   refine goE mixed ?_
   refine effC mixed [4, 1, 2] (hg') w2 ?_
   refine effC mixed [4] (done_t c m (by omega)) w2 ?_; trivial
theorem needp {α : Type} (g : Nat) (i : Nat) (hi : i ≤ 30) (b : List UInt8) (n : Nat) (hn : n ≤ b.length) (hb : b.length ≤ 1099511627776) (T T2 : TypeId) (cs : List SV) (hc : Cln cs) (p : PR α) (hp : FitsP p) (upd : α → List SV) (hu : ∀ v, Cln (upd v))
 (hg : Eff Tryz.prog g (.agg [.ptr 0 0] :: [.ptr 1 0]) (takeC (b.drop n)) 0 [.cells T [.ptr 2 0], .cells T2 cs] (fun _ => .tup []) (fun v => [.cells T [.ptr 2 0], .cells T2 (upd v)]) (p (takeC (b.drop n)))) :
 Eff Tryz.prog 88 [.agg [.ptr 0 0], rI i, .fn g [] [.ptr 1 0]] b n [.cells T [.ptr 2 0], .cells T2 cs] (fun _ => .tup []) (fun v => [.cells T [.ptr 2 0], .cells T2 (upd v)]) (needP i p (b.drop n)) := by
 have w1 := cln_rb hc
 have w2 := And.intro w1 (cln_rbF hu)
 cases h : nextB i (b.drop n) with
 | false =>
  have hm := maybe_nop g i hi b n hn T T2 cs hc h
  have : ∃ e, needP i p (b.drop n) = .error e := ⟨_, by unfold needP; rw [h]; rfl⟩
  obtain ⟨e, he⟩ := this
  rw [he]
  refine pe_seal (by simp) ?_
  refine runE mixed fi88 ?_
  refine effC mixed [0, 1, 2] (hm) w1 ?_
  refine callI_require (fun h => absurd h (by decide)) fun _ => ?_
  with_reducible refine sxE ?_; trivial
 | true =>
  have hm := maybe_inp g i hi b n hn hb T T2 cs hc p hp upd hu hg h
  have he : needP i p (b.drop n) = inP (tagB i) p (b.drop n) := by unfold needP; rw [h]; rfl
  rw [he]
  cases hx : inP (tagB i) p (b.drop n) with
  | error e =>
   have hm' := eff_er hm hx
   refine pe_seal (by simp) ?_
   refine runE mixed fi88 ?_
   refine effD [0, 1, 2] (hm') w1 ?_; trivial
  | ok x =>
   obtain ⟨v, k⟩ := x
   have hm' := eff_ok hm hx
   refine pe_seal (by simp) ?_
   refine runE mixed fi88 ?_
   refine effC mixed [0, 1, 2] (hm') w2 ?_
   refine callI_require (fun _ => ?_) fun h => absurd h (by decide)
   refine run_sound mixed 600 _ ?_
   with_reducible refine sx1 w2 ?_; trivial
theorem sequencek {α : Type} (g : Nat) (b : List UInt8) (n : Nat) (hn : n ≤ b.length) (hb : b.length ≤ 1099511627776) (kk : Int) (T : TypeId) (cs : List SV) (hc : Cln cs) (p : PR α) (hp : FitsP p) (upd : α → List SV) (hu : ∀ v, Cln (upd v))
 (hg : Eff Tryz.prog g (.agg [.ptr 0 0] :: [.iptr I64 kk 0, .ptr 1 0]) (takeC (b.drop n)) 0 [.cells T cs] (fun _ => .tup []) (fun v => [.cells T (upd v)]) (p (takeC (b.drop n)))) :
 Eff Tryz.prog 130 [.agg [.ptr 0 0], .fn g [] [.iptr I64 kk 0, .ptr 1 0]] b n [.cells T cs] (fun _ => .tup []) (fun v => [.cells T (upd v)]) (inP 48 p (b.drop n)) := by
 have w1 := cln_rb hc
 have w2 := And.intro w1 (cln_rbF hu)
 rcases inP_cases (tag := 48) (p := p) (r := b.drop n) with ⟨h1, e⟩ | ⟨h1, e, h2, e'⟩ | ⟨h1, v, m, h2, h3, e⟩ | ⟨h1, v, m, h2, h3, e⟩
 · rw [e]
   have hs := rseq_er b n hn hb h1
   generalize takeE 48 (b.drop n) = ee at *
   refine pe_seal (by simp) ?_
   refine runE mixed fi130 ?_
   refine effC mixed [0] (hs) w1 ?_
   refine effD [] (take_er_rdr ee h1) w1 ?_; trivial
 · rw [e']
   have hs := rseq_ok b n hn hb h1
   have hg' := eff_er hg h2
   generalize takeC (b.drop n) = c at *
   refine pe_seal (by simp) ?_
   refine runE mixed fi130 ?_
   refine effC mixed [0] (hs) w1 ?_
   refine effC mixed [3] (take_rdr c 0) w1 ?_
   refine effD [3, 1] (hg') w1 ?_; trivial
 · rw [e]
   have hs := rseq_ok b n hn hb h1
   have hg' := eff_ok hg h2
   generalize takeC (b.drop n) = c at *
   rw [Nat.zero_add] at hg'
   refine pe_seal (by simp) ?_
   refine runE mixed fi130 ?_
   refine effC mixed [0] (hs) w1 ?_
   refine effC mixed [3] (take_rdr c 0) w1 ?_
   refine effC mixed [3, 1] (hg') w2 ?_
   refine effD [3] (done_f c m h3) w2 ?_; trivial
 · rw [e]
   have hs := rseq_ok b n hn hb h1
   have hg' := eff_ok hg h2
   have hm := hp _ _ _ h2
   generalize takeC (b.drop n) = c at *
   rw [Nat.zero_add] at hg'
   refine pe_seal (by simp) ?_
   refine runE mixed fi130 ?_
   refine effC mixed [0] (hs) w1 ?_
   refine effC mixed [3] (take_rdr c 0) w1 ?_
   refine effC mixed [3, 1] (hg') w2 ?_
   refine effC mixed [3] (done_t c m (by omega)) w2 ?_; trivial
theorem applicationk {α : Type} (g : Nat) (i : Nat) (hi : i ≤ 30) (b : List UInt8) (n : Nat) (hn : n ≤ b.length) (hb : b.length ≤ 1099511627776) (kk : Int) (T : TypeId) (cs : List SV) (hc : Cln cs) (p : PR α) (hp : FitsP p) (upd : α → List SV) (hu : ∀ v, Cln (upd v))
 (hg : Eff Tryz.prog g (.agg [.ptr 0 0] :: [.iptr I64 kk 0, .ptr 1 0]) (takeC (takeC (b.drop n))) 0 [.cells T cs] (fun _ => .tup []) (fun v => [.cells T (upd v)]) (p (takeC (takeC (b.drop n))))) :
 Eff Tryz.prog 83 [.agg [.ptr 0 0], rI i, .fn g [] [.iptr I64 kk 0, .ptr 1 0]] b n [.cells T cs] (fun _ => .tup []) (fun v => [.cells T (upd v)]) (inP (appB i) (inP 48 p) (b.drop n)) := by
 have w1 := cln_rb hc
 have w2 := And.intro w1 (cln_rbF hu)
 have hsq := sequencek g (takeC (b.drop n)) 0 (Nat.zero_le _) (tkC_le hb) kk T cs hc p hp upd hu (by rw [List.drop_zero]; exact hg)
 rw [List.drop_zero] at hsq
 clear hg
 rcases inP_cases (tag := appB i) (p := inP 48 p) (r := b.drop n) with ⟨h1, e⟩ | ⟨h1, e, h2, e'⟩ | ⟨h1, v, m, h2, h3, e⟩ | ⟨h1, v, m, h2, h3, e⟩
 · rw [e]
   have hs := rapp_er i hi b n hn hb h1
   generalize takeE (appB i) (b.drop n) = ee at *
   refine pe_seal (by simp) ?_
   refine runE mixed fi83 ?_
   refine effC mixed [0] (hs) w1 ?_
   refine effD [] (take_er_rdr ee h1) w1 ?_; trivial
 · rw [e']
   have hs := rapp_ok i hi b n hn hb h1
   have hg' := eff_er hsq h2
   generalize takeC (b.drop n) = c at *
   refine pe_seal (by simp) ?_
   refine runE mixed fi83 ?_
   refine effC mixed [0] (hs) w1 ?_
   refine effC mixed [3] (take_rdr c 0) w1 ?_
   refine effD [3, 1] (hg') w1 ?_; trivial
 · rw [e]
   have hs := rapp_ok i hi b n hn hb h1
   have hg' := eff_ok hsq h2
   generalize takeC (b.drop n) = c at *
   rw [Nat.zero_add] at hg'
   refine pe_seal (by simp) ?_
   refine runE mixed fi83 ?_
   refine effC mixed [0] (hs) w1 ?_
   refine effC mixed [3] (take_rdr c 0) w1 ?_
   refine effC mixed [3, 1] (hg') w2 ?_
   refine effD [3] (done_f c m h3) w2 ?_; trivial
 · rw [e]
   have hs := rapp_ok i hi b n hn hb h1
   have hg' := eff_ok hsq h2
   have hm := inP_fits _ _ _ h2
   generalize takeC (b.drop n) = c at *
   rw [Nat.zero_add] at hg'
   refine pe_seal (by simp) ?_
   refine runE mixed fi83 ?_
   refine effC mixed [0] (hs) w1 ?_
   refine effC mixed [3] (take_rdr c 0) w1 ?_
   refine effC mixed [3, 1] (hg') w2 ?_
   refine effC mixed [3] (done_t c m (by omega)) w2 ?_; trivial
end Go.Proofs.YthmoognbccfpiaaGreatDoor

/- Contracts: messages: reading tagged values. -/
namespace Go.Proofs.YthmoognbccfpiaaGreatDoor
open Go Go.Sx Go.Proofs
set_option maxRecDepth 100000
set_option maxHeartbeats 4000000
set_option linter.unusedSimpArgs false

theorem mrint_cl (b : List UInt8) (n : Nat) (hn : n ≤ b.length) (hb : b.length ≤ 1099511627776) (o : Value) :
 Eff Tryz.prog 232 [.agg [.ptr 0 0], .ptr 1 0] b n [.cells 3 [.raw o]] (fun _ => .tup []) (fun v => [.cells 3 [(rI) v]]) (intP (b.drop n)) := by
 cases hx : intP (b.drop n) with
 | error e =>
  have hr := rint_er b n hn hb hx
  refine pe_seal (by simp) ?_
  refine runE mixed fi232 ?_
  refine effE mixed [0] (hr) ?_
  refine effP [] (take_er_int _ e (rdP_ne hx)) ?_; trivial
 | ok x =>
  obtain ⟨v, k⟩ := x
  have hr := rint_ok b n hn hb hx
  refine pe_seal (by simp) ?_
  refine runE mixed fi232 ?_
  refine effE mixed [0] (hr) ?_
  refine callI_pure (take_int _) ?_
  refine goE mixed ?_; trivial
theorem mrint_c (i : Nat) (hi : i ≤ 30) (b : List UInt8) (n : Nat) (hn : n ≤ b.length) (hb : b.length ≤ 1099511627776) :
 Eff Tryz.prog 180 [.agg [.ptr 0 0], rI i] b n [] (rI) (fun _ => []) (needP i intP (b.drop n)) := by
 have hc : Cln [.raw (.int .i64 0)] := cln_raw cln_nil
 have hg := mrint_cl (takeC (b.drop n)) 0 (Nat.zero_le _) (tkC_le hb) (.int .i64 0)
 rw [List.drop_zero] at hg
 have hm := need1 232 i hi b n hn hb 3 _ hc intP rdP_fits (fun v => [(rI) v]) (fun v => cln_raw cln_nil) hg
 cases hx : needP i intP (b.drop n) with
 | error e =>
  have hm' := eff_er hm hx
  refine pe_seal (by simp) ?_
  refine runE mixed fi180 ?_
  refine effP [0, 2] (hm') ?_; trivial
 | ok x =>
  obtain ⟨v, k⟩ := x
  have hm' := eff_ok hm hx
  refine pe_seal (by simp) ?_
  refine runE mixed fi180 ?_
  refine effE mixed [0, 2] (hm') ?_; trivial
theorem mrtime_cl (b : List UInt8) (n : Nat) (hn : n ≤ b.length) (hb : b.length ≤ 1099511627776) (o : Value) :
 Eff Tryz.prog 231 [.agg [.ptr 0 0], .ptr 1 0] b n [.cells 3 [.raw o]] (fun _ => .tup []) (fun v => [.cells 3 [(fun v => rI (v : Nat)) v]]) (timeP (b.drop n)) := by
 cases hx : timeP (b.drop n) with
 | error e =>
  have hr := rtime_er b n hn hb hx
  refine pe_seal (by simp) ?_
  refine runE mixed fi231 ?_
  refine effE mixed [0] (hr) ?_
  refine effP [] (take_er_int _ e (rdP_ne hx)) ?_; trivial
 | ok x =>
  obtain ⟨v, k⟩ := x
  have hr := rtime_ok b n hn hb hx
  refine pe_seal (by simp) ?_
  refine runE mixed fi231 ?_
  refine effE mixed [0] (hr) ?_
  refine callI_pure (take_int _) ?_
  refine goE mixed ?_; trivial
theorem mrtime_c (i : Nat) (hi : i ≤ 30) (b : List UInt8) (n : Nat) (hn : n ≤ b.length) (hb : b.length ≤ 1099511627776) :
 Eff Tryz.prog 179 [.agg [.ptr 0 0], rI i] b n [] (fun v => rI (v : Nat)) (fun _ => []) (needP i timeP (b.drop n)) := by
 have hc : Cln [.raw (.int .i64 0)] := cln_raw cln_nil
 have hg := mrtime_cl (takeC (b.drop n)) 0 (Nat.zero_le _) (tkC_le hb) (.int .i64 0)
 rw [List.drop_zero] at hg
 have hm := need1 231 i hi b n hn hb 3 _ hc timeP rdP_fits (fun v => [(fun v => rI (v : Nat)) v]) (fun v => cln_raw cln_nil) hg
 cases hx : needP i timeP (b.drop n) with
 | error e =>
  have hm' := eff_er hm hx
  refine pe_seal (by simp) ?_
  refine runE mixed fi179 ?_
  refine effP [0, 2] (hm') ?_; trivial
 | ok x =>
  obtain ⟨v, k⟩ := x
  have hm' := eff_ok hm hx
  refine pe_seal (by simp) ?_
  refine runE mixed fi179 ?_
  refine effE mixed [0, 2] (hm') ?_; trivial
theorem mrbits_cl (b : List UInt8) (n : Nat) (hn : n ≤ b.length) (hb : b.length ≤ 1099511627776) (o : Value) :
 Eff Tryz.prog 226 [.agg [.ptr 0 0], .ptr 1 0] b n [.cells 54 [.raw o]] (fun _ => .tup []) (fun v => [.cells 54 [(fun v => .raw (.int .u32 (v : Nat))) v]]) (bitsP (b.drop n)) := by
 cases hx : bitsP (b.drop n) with
 | error e =>
  have hr := rbits_er b n hn hb hx
  refine pe_seal (by simp) ?_
  refine runE mixed fi226 ?_
  refine effE mixed [0] (hr) ?_
  refine effP [] (take_er_u32 _ e (rdP_ne hx)) ?_; trivial
 | ok x =>
  obtain ⟨v, k⟩ := x
  have hr := rbits_ok b n hn hb hx
  refine pe_seal (by simp) ?_
  refine runE mixed fi226 ?_
  refine effE mixed [0] (hr) ?_
  refine callI_pure (take_u32 _) ?_
  refine goE mixed ?_; trivial
theorem mrbits_c (i : Nat) (hi : i ≤ 30) (b : List UInt8) (n : Nat) (hn : n ≤ b.length) (hb : b.length ≤ 1099511627776) :
 Eff Tryz.prog 177 [.agg [.ptr 0 0], rI i] b n [] (fun v => .raw (.int .u32 (v : Nat))) (fun _ => []) (needP i bitsP (b.drop n)) := by
 have hc : Cln [.raw (.int .u32 0)] := cln_raw cln_nil
 have hg := mrbits_cl (takeC (b.drop n)) 0 (Nat.zero_le _) (tkC_le hb) (.int .u32 0)
 rw [List.drop_zero] at hg
 have hm := need1 226 i hi b n hn hb 54 _ hc bitsP rdP_fits (fun v => [(fun v => .raw (.int .u32 (v : Nat))) v]) (fun v => cln_raw cln_nil) hg
 cases hx : needP i bitsP (b.drop n) with
 | error e =>
  have hm' := eff_er hm hx
  refine pe_seal (by simp) ?_
  refine runE mixed fi177 ?_
  refine effP [0, 2] (hm') ?_; trivial
 | ok x =>
  obtain ⟨v, k⟩ := x
  have hm' := eff_ok hm hx
  refine pe_seal (by simp) ?_
  refine runE mixed fi177 ?_
  refine effE mixed [0, 2] (hm') ?_; trivial
theorem mmtime_cl (b : List UInt8) (n : Nat) (hn : n ≤ b.length) (hb : b.length ≤ 1099511627776) (o : Value) :
 Eff Tryz.prog 229 [.agg [.ptr 0 0], .ptr 1 0] b n [.cells 3 [.raw o]] (fun _ => .tup []) (fun v => [.cells 3 [rI ((v : Nat) : Int)]]) (timeP (b.drop n)) := by
 cases hx : timeP (b.drop n) with
 | error e =>
  have hr := rtime_er b n hn hb hx
  refine pe_seal (by simp) ?_
  refine runE mixed fi229 ?_
  refine effE mixed [0] (hr) ?_
  refine effP [] (take_er_int _ e (rdP_ne hx)) ?_; trivial
 | ok x =>
  obtain ⟨v, k⟩ := x
  have hr := rtime_ok b n hn hb hx
  refine pe_seal (by simp) ?_
  refine runE mixed fi229 ?_
  refine effE mixed [0] (hr) ?_
  refine callI_pure (take_int _) ?_
  refine goE mixed ?_; trivial
theorem mmtime_c (i : Nat) (hi : i ≤ 30) (b : List UInt8) (n : Nat) (hn : n ≤ b.length) (hb : b.length ≤ 1099511627776) :
 Eff Tryz.prog 178 [.agg [.ptr 0 0], rI i] b n [] (fun v => rI ((v : Nat) : Int)) (fun _ => []) (dfltP (0 : Nat) i timeP (b.drop n)) := by
 have hc : Cln [.raw (.int .i64 0)] := cln_raw cln_nil
 cases h : nextB i (b.drop n) with
 | false =>
  rw [dfltP_no h]
  have hm := maybe_no1 229 i hi b n hn 3 _ hc h
  refine pe_seal (by simp) ?_
  refine runE mixed fi178 ?_
  refine effE mixed [0, 2] (hm) ?_
  rfl
 | true =>
  rw [dfltP_in h]
  have hg := mmtime_cl (takeC (b.drop n)) 0 (Nat.zero_le _) (tkC_le hb) (.int .i64 0)
  rw [List.drop_zero] at hg
  have hm := maybe_in1 229 i hi b n hn hb 3 _ hc timeP rdP_fits (fun v => [rI ((v : Nat) : Int)]) (fun v => cln_raw cln_nil) hg h
  cases hx : inP (tagB i) timeP (b.drop n) with
  | error e =>
   have hm' := eff_er hm hx
   refine pe_seal (by simp) ?_
   refine runE mixed fi178 ?_
   refine effP [0, 2] (hm') ?_; trivial
  | ok x =>
   obtain ⟨v, k⟩ := x
   have hm' := eff_ok hm hx
   refine pe_seal (by simp) ?_
   refine runE mixed fi178 ?_
   refine effE mixed [0, 2] (hm') ?_; trivial
theorem take_prin (v : Prin) : PC Tryz.prog 159 [.agg (PrinT.cells v), rI 0] (.agg (PrinT.cells v)) := by
 refine pc_seal rfl rfl ?_
 refine runE mixed fi159 ?_
 refine callI_require (fun _ => ?_) fun h => absurd h (by decide)
 refine goE mixed ?_; trivial
theorem take_er_prin (e : Nat) (he : e ≠ 0) : PE Tryz.prog 159 [zPrin, rI e] [] (.pan wrongV) [] := by
 refine pe_seal (by simp) ?_
 refine runE mixed fi159 ?_
 refine callI_require (fun h => absurd h (by simp; omega)) fun _ => ?_
 with_reducible refine sxE ?_; trivial
theorem mprin_cl (b : List UInt8) (n : Nat) (hn : n ≤ b.length) (hb : b.length ≤ 1099511627776) (T : TypeId) :
 Eff Tryz.prog 158 [.agg [.ptr 0 0], .ptr 1 0] b n [.cells T [.raw (.slice none 0 0), rS ⟨#[]⟩]] (fun _ => .tup []) (fun p : Prin => [.cells T [.isl .str p.1, rS p.2]]) (nameP (b.drop n)) := by
 have hr := read_c b n hn hb
 cases hx : nameP (b.drop n) with
 | error e =>
  have hr' := effR_er hr hx
  refine pe_seal (by simp) ?_
  refine runE mixed fi158 ?_
  refine effE mixed [0] (hr') ?_
  refine effP [] (take_er_prin e (nameP_ne _ _ hx)) ?_; trivial
 | ok x =>
  obtain ⟨v, k⟩ := x
  have hr' := effR_ok hr hx
  refine pe_seal (by simp) ?_
  refine runE mixed fi158 ?_
  refine effE mixed [0] (hr') ?_
  refine callI_pure (take_prin _) ?_
  refine goE mixed ?_; trivial
theorem mrprin_c (i : Nat) (hi : i ≤ 30) (b : List UInt8) (n : Nat) (hn : n ≤ b.length) (hb : b.length ≤ 1099511627776) :
 Eff Tryz.prog 87 [.agg [.ptr 0 0], rI i] b n [] (fun p : Prin => .agg (PrinT.cells p)) (fun _ => []) (needP i nameP (b.drop n)) := by
 have hc : Cln [.raw (.slice none 0 0), rS ⟨#[]⟩] := cln_raw (cln_raw cln_nil)
 have hg := fun T => mprin_cl (takeC (b.drop n)) 0 (Nat.zero_le _) (tkC_le hb) T
 simp only [List.drop_zero] at hg
 have hm := fun T => need1 158 i hi b n hn hb T _ hc nameP nameP_fits (fun p : Prin => [.isl .str p.1, rS p.2]) (fun v => cln_isl (cln_raw cln_nil)) (hg T)
 cases hx : needP i nameP (b.drop n) with
 | error e =>
  have hm' := fun T => eff_er (hm T) hx
  refine pe_seal (by simp) ?_
  refine runE mixed fi87 ?_
  refine effP [0, 2] (hm' _) ?_; trivial
 | ok x =>
  obtain ⟨v, k⟩ := x
  have hm' := fun T => eff_ok (hm T) hx
  refine pe_seal (by simp) ?_
  refine runE mixed fi87 ?_
  refine effE mixed [0, 2] (hm' _) ?_; trivial
def cstP (v : Int) : PR Unit := fun r => match intP r with
 | .ok (w, k) => if w = v then .ok ((), k) else .error 6
 | .error e => .error e
theorem cstP_fits {v : Int} : FitsP (cstP v) := fun r u m h => by
 unfold cstP at h
 cases hx : intP r with
 | error e => rw [hx] at h; cases h
 | ok y =>
  obtain ⟨w, k⟩ := y
  rw [hx] at h
  simp only at h
  split at h
  · cases h; exact rdP_fits _ _ _ hx
  · cases h
theorem mcst_cl (v : Int) (b : List UInt8) (n : Nat) (hn : n ≤ b.length) (hb : b.length ≤ 1099511627776) :
 Eff Tryz.prog 151 [.agg [.ptr 0 0], .ptr 1 0] b n [.cells 3 [rI v]] (fun _ => .tup []) (fun _ => [.cells 3 [rI v]]) (cstP v (b.drop n)) := by
 unfold cstP
 cases hx : intP (b.drop n) with
 | error e =>
  have hr := rint_er b n hn hb hx
  refine pe_seal (by simp) ?_
  refine vc_fi fi151 (run_sound mixed 4 _ ?_)
  with_reducible refine sxE ?_
  refine si_drwP [1, 2] mixed ?_
  refine goaE mixed ?_
  refine callR_eff [0] (hr) rfl (by decide) ⟨rfl, rfl, trivial⟩ rfl rfl ?_ ?_
  · simp (maxSteps := 3000000) only [mgA, sig, sameG_cons, sameG_nil, List.append_assoc, getA, getA0, setA, setA0, List.length_append, Nat.add_assoc, go_sem, ↓zA, ↓reduceIte, ↓reduceDIte, reduceCtorEq, Nat.reduceAdd, Nat.reduceSub, Nat.reduceLeDiff, Nat.reduceLT, Nat.reduceEqDiff, Nat.reduceBEq, Nat.reduceMul, Int.reduceToNat, Int.reduceEq, Int.reduceLT, Int.reduceLE] <;> try simp only [zB]
  simp only [afterR, Out.ren, SV.ren, mgA, sig, SObj.ren, SV.renL, List.cons_append, List.nil_append, List.append_assoc, List.set_cons_zero, List.set_cons_succ, List.set, List.map, List.append_nil]
  refine goaE mixed ?_
  refine callR_eff [] (take_er_int _ e (rdP_ne hx)) rfl (by decide) trivial rfl rfl ?_ ?_
  · simp (maxSteps := 3000000) only [mgA, sig, sameG_cons, sameG_nil, List.append_assoc, getA, getA0, setA, setA0, List.length_append, Nat.add_assoc, go_sem, ↓zA, ↓reduceIte, ↓reduceDIte, reduceCtorEq, Nat.reduceAdd, Nat.reduceSub, Nat.reduceLeDiff, Nat.reduceLT, Nat.reduceEqDiff, Nat.reduceBEq, Nat.reduceMul, Int.reduceToNat, Int.reduceEq, Int.reduceLT, Int.reduceLE] <;> try simp only [zB]
  simp only [afterR, Out.ren, SV.ren, mgA, sig, SObj.ren, SV.renL, List.cons_append, List.nil_append, List.append_assoc, List.set_cons_zero, List.set_cons_succ, List.set, List.map, List.append_nil]
  refine cutQ_p ?_
  with_reducible refine sxaE ?_; trivial
 | ok x =>
  obtain ⟨w, k⟩ := x
  have hr := rint_ok b n hn hb hx
  simp only
  by_cases hw : w = v
  · rw [if_pos hw]
    refine pe_seal (by simp) ?_
    refine vc_fi fi151 (run_sound mixed 4 _ ?_)
    with_reducible refine sxE ?_
    refine si_drwP [1, 2] mixed ?_
    refine goaE mixed ?_
    refine callR_eff [0] (hr) rfl (by decide) ⟨rfl, rfl, trivial⟩ rfl rfl ?_ ?_
    · simp (maxSteps := 3000000) only [mgA, sig, sameG_cons, sameG_nil, List.append_assoc, getA, getA0, setA, setA0, List.length_append, Nat.add_assoc, go_sem, ↓zA, ↓reduceIte, ↓reduceDIte, reduceCtorEq, Nat.reduceAdd, Nat.reduceSub, Nat.reduceLeDiff, Nat.reduceLT, Nat.reduceEqDiff, Nat.reduceBEq, Nat.reduceMul, Int.reduceToNat, Int.reduceEq, Int.reduceLT, Int.reduceLE] <;> try simp only [zB]
    simp only [afterR, Out.ren, SV.ren, mgA, sig, SObj.ren, SV.renL, List.cons_append, List.nil_append, List.append_assoc, List.set_cons_zero, List.set_cons_succ, List.set, List.map, List.append_nil]
    refine goaE mixed ?_
    refine callR_pure (take_int _) ?_
    refine goaE mixed ?_
    rw [decide_eq_true hw]
    refine callR_pure require_t ?_
    refine goaE mixed ?_
    refine cutQ_n ?_
    refine goaE mixed ?_; trivial
  · rw [if_neg hw]
    refine pe_seal (by simp) ?_
    refine vc_fi fi151 (run_sound mixed 4 _ ?_)
    with_reducible refine sxE ?_
    refine si_drwP [1, 2] mixed ?_
    refine goaE mixed ?_
    refine callR_eff [0] (hr) rfl (by decide) ⟨rfl, rfl, trivial⟩ rfl rfl ?_ ?_
    · simp (maxSteps := 3000000) only [mgA, sig, sameG_cons, sameG_nil, List.append_assoc, getA, getA0, setA, setA0, List.length_append, Nat.add_assoc, go_sem, ↓zA, ↓reduceIte, ↓reduceDIte, reduceCtorEq, Nat.reduceAdd, Nat.reduceSub, Nat.reduceLeDiff, Nat.reduceLT, Nat.reduceEqDiff, Nat.reduceBEq, Nat.reduceMul, Int.reduceToNat, Int.reduceEq, Int.reduceLT, Int.reduceLE] <;> try simp only [zB]
    simp only [afterR, Out.ren, SV.ren, mgA, sig, SObj.ren, SV.renL, List.cons_append, List.nil_append, List.append_assoc, List.set_cons_zero, List.set_cons_succ, List.set, List.map, List.append_nil]
    refine goaE mixed ?_
    refine callR_pure (take_int _) ?_
    refine goaE mixed ?_
    rw [decide_eq_false hw]
    refine callR_eff [] require_f rfl (by decide) trivial rfl rfl ?_ ?_
    · simp (maxSteps := 3000000) only [mgA, sig, sameG_cons, sameG_nil, List.append_assoc, getA, getA0, setA, setA0, List.length_append, Nat.add_assoc, go_sem, ↓zA, ↓reduceIte, ↓reduceDIte, reduceCtorEq, Nat.reduceAdd, Nat.reduceSub, Nat.reduceLeDiff, Nat.reduceLT, Nat.reduceEqDiff, Nat.reduceBEq, Nat.reduceMul, Int.reduceToNat, Int.reduceEq, Int.reduceLT, Int.reduceLE] <;> try simp only [zB]
    simp only [afterR, Out.ren, SV.ren, mgA, sig, SObj.ren, SV.renL, List.cons_append, List.nil_append, List.append_assoc, List.set_cons_zero, List.set_cons_succ, List.set, List.map, List.append_nil]
    refine cutQ_p ?_
    with_reducible refine sxaE ?_; trivial
theorem mcst_c (i : Nat) (hi : i ≤ 30) (v : Int) (b : List UInt8) (n : Nat) (hn : n ≤ b.length) (hb : b.length ≤ 1099511627776) :
 Eff Tryz.prog 85 [.agg [.ptr 0 0], rI i, rI v] b n [] (fun _ => .tup []) (fun _ => []) (needP i (cstP v) (b.drop n)) := by
 have hc : Cln [rI v] := cln_raw cln_nil
 have hg := mcst_cl v (takeC (b.drop n)) 0 (Nat.zero_le _) (tkC_le hb)
 rw [List.drop_zero] at hg
 have hm := need1 151 i hi b n hn hb 3 _ hc (cstP v) cstP_fits (fun _ => [rI v]) (fun _ => cln_raw cln_nil) hg
 cases hx : needP i (cstP v) (b.drop n) with
 | error e =>
  have hm' := eff_er hm hx
  refine pe_seal (by simp) ?_
  refine runE mixed fi85 ?_
  refine effP [0, 2] (hm') ?_; trivial
 | ok x =>
  obtain ⟨u, k⟩ := x
  have hm' := eff_ok hm hx
  refine pe_seal (by simp) ?_
  refine runE mixed fi85 ?_
  refine effE mixed [0, 2] (hm') ?_; trivial
end Go.Proofs.YthmoognbccfpiaaGreatDoor

set_option linter.unusedSectionVars false
namespace Go.Sx
open Go
variable [Ghost] {P : Program} {AQ : Ex → List SV → List SObj → Prop} {k0 : Nat} {k : List IT} {t : List SV} {H : List SObj}

theorem sound_compactT {P : Program} {k : List It} {t' : List SV} (A A' G : List SObj) {ty : Ty} {xs : List ty.den} (hk : k0 ≤ A.length) (hA : A = A'.map (SObj.ren (shift A.length (A.length + G.length)))) (hb : belH (A.length + 1) A' = true) (hbt : SV.belL (A.length + 1) t' = true)
 (hl : leT (shift A.length (A.length + G.length)) t t') (hs : Sound P AQ ⟨k0, k, t', A' ++ [.row ty xs]⟩) : Sound P AQ ⟨k0, k, t, A ++ G ++ [.row ty xs]⟩ := by
 intro E r n C a h0 hd
 have hlen : A.length = A'.length := by have := congrArg List.length hA; rwa [List.length_map] at this
 have hsh : ∀ h, h < A.length → shift A.length (A.length + G.length) h = h := fun h hh => by unfold shift; rw [if_neg (by omega)]
 have hshn : shift A.length (A.length + G.length) A.length = A.length + G.length := by unfold shift; rw [if_pos rfl]
 have hd' : Den E (C.ren (shift A.length (A.length + G.length)) (A' ++ [SObj.row ty xs]).length) t' (A' ++ [.row ty xs]) a := by
  refine den_le h0.1 hd hl (by rw [List.length_append, ← hlen]; exact hbt) (fun h o ho _ => ?_) (belH_of fun h o ho => ?_) (fun h h' o o' ho ho' _ _ e => ?_) (fun h hh => hsh h (Nat.lt_of_lt_of_le hh hk)) (by rw [List.length_append, ← hlen]; exact Nat.le_trans hk (Nat.le_add_right _ _)) (fun m hm0 hm => ?_)
  · rcases get_append_some ho with ⟨hh, ho⟩ | ⟨hh, rfl⟩
    · rw [hsh h (by omega), List.append_assoc, List.getElem?_append_left (by omega)]
      have := congrArg (fun l => l[h]?) hA
      simp only [List.getElem?_map, ho] at this
      exact this
    · rw [hh, ← hlen, hshn, ← List.length_append, List.getElem?_append_right (Nat.le_refl _), Nat.sub_self]
      rfl
  · rcases get_append_some ho with ⟨hh, ho⟩ | ⟨hh, rfl⟩
    · rw [List.length_append, ← hlen]
      exact belH_get hb ho
    · rfl
  · have h1 := (List.getElem?_eq_some_iff.1 ho).1
    have h2 := (List.getElem?_eq_some_iff.1 ho').1
    rw [List.length_append, List.length_singleton] at h1 h2
    unfold shift at e
    split at e <;> split at e <;> omega
  · have hm := hm
    have hpos : 0 < A.length := Nat.lt_of_lt_of_le hm0 (Nat.le_trans h0.1 hk)
    rw [List.append_assoc, List.getElem?_append_left hpos] at hm
    rw [List.getElem?_append_left (by omega)]
    have h1 := congrArg (fun l => l[0]?) hA
    simp only [List.getElem?_map, hm] at h1
    cases h2 : A'[0]? with
    | none => rw [h2] at h1; simp at h1
    | some o => rw [h2] at h1; cases o <;> simp [SObj.ren] at h1; rw [h1]
 exact hs E r n (C.ren (shift A.length (A.length + G.length)) (A' ++ [SObj.row ty xs]).length) a h0 hd'
theorem si_compactT (t' : List SV) (A A' G : List SObj) {ty : Ty} {xs : List ty.den} {td : List IT} (hp : plainT td = true) (hH : H = A ++ G ++ [.row ty xs]) (hk : k0 ≤ A.length) (hA : A = A'.map (SObj.ren (shift A.length (A.length + G.length)))) (hb : belH (A.length + 1) A' = true) (hbt : SV.belL (A.length + 1) t' = true)
 (hl : leT (shift A.length (A.length + G.length)) t t') (hs : SoundI P AQ ⟨k0, td, t', A' ++ [.row ty xs]⟩) : SoundI P AQ ⟨k0, td, t, H⟩ := by
 subst hH
 exact soundI_plain (fun _ hr => sound_compactT A A' G hk hA hb hbt hl (soundI_get hs hr)) hp
theorem si_compactS (slot n : Nat) (A A' G : List SObj) {ty : Ty} {xs : List ty.den} {td : List IT} (hp : plainT td = true) (hH : H = A ++ G ++ [.row ty xs]) (hk : k0 ≤ A.length) (hA : A = A'.map (SObj.ren (shift A.length (A.length + G.length)))) (hb : belH (A.length + 1) A' = true) (hbt : SV.belL (A.length + 1) (t.set slot (.bld A.length ty n)) = true)
 (hl : leT (shift A.length (A.length + G.length)) t (t.set slot (.bld A.length ty n))) (hs : SoundI P AQ ⟨k0, td, t.set slot (.bld A.length ty n), A' ++ [.row ty xs]⟩) : SoundI P AQ ⟨k0, td, t, H⟩ :=
 si_compactT _ A A' G hp hH hk hA hb hbt hl hs

def RowT (ty : Ty) (xs : List ty.den) (v : Value) : Out → List SObj → Prop := fun o H' => (xs = [] ∧ o = .ret (.tup [.raw (.slice none 0 0), .raw v]) ∧ H' = []) ∨ (o = .ret (.tup [.bld 0 ty xs.length, .raw v]) ∧ H' = [.row ty xs])
theorem rowT_row {ty : Ty} {xs : List ty.den} {v : Value} {H' : List SObj} {h n : Nat} (hH : H'[h]? = some (.row ty xs)) (hn : n = xs.length) : Weak 0 (RowT ty xs v) (.ret (.tup [.bld h ty n, .raw v])) H' := by
 subst hn
 exact ⟨fun _ => h, .tup [.bld 0 ty xs.length, .raw v], .tup [.bld 0 ty xs.length, .raw v], [.row ty xs], ⟨⟨rfl, trivial⟩, ⟨hH, trivial⟩, rfl, rfl, rfl, rfl, Nat.zero_le _, fun _ h0 => absurd h0 (Nat.lt_irrefl 0)⟩, .inl (.inl rfl), .inr ⟨rfl, rfl⟩⟩
theorem callI_rowT {f : FuncId} {args : List SV} {ty : Ty} {xs : List ty.den} {v : Value} {d : Option Tmp} {td : List IT} (hp : VC P f args [] (RowT ty xs v)) (hb : SV.belL 0 args = true) (hargs : args = SV.renL (sig [] H.length) args)
 (h0 : xs = [] → SoundI P AQ ⟨k0, td, putT t d (.tup [.raw (.slice none 0 0), .raw v]), H⟩) (h : SoundI P AQ ⟨k0, td, putT t d (.tup [.bld H.length ty xs.length, .raw v]), H ++ [.row ty xs]⟩) : CallI P AQ f args d ⟨k0, td, t, H⟩ := by
 refine ⟨hp.1, VCall.g ?_⟩
 rw [hargs]
 refine VCall.fr (H0 := []) [] (by simp) trivial hb rfl hp.2 ?_
 rintro o H' _ (⟨e, rfl, rfl⟩ | ⟨rfl, rfl⟩)
 · simp only [mgA, List.map_nil, List.append_nil]; exact h0 e
 · exact h
theorem callR_rowK {G : List Nat} {f : FuncId} {args : List SV} {ty : Ty} {xs : List ty.den} {d : Option Tmp} {td : List IT} (hp : VC P f args [] (RowK ty xs)) (hb : SV.belL 0 args = true) (hargs : args = SV.renL (sig [] H.length) args) (hG : SameG G H (H ++ [.row ty xs]))
 (h0 : xs = [] → SoundI P AQ ⟨k0, td, putT t d (.raw (.slice none 0 0)), H⟩) (h : SoundI P AQ ⟨k0, td, putT t d (.bld H.length ty xs.length), H ++ [.row ty xs]⟩) : CallR P AQ G f args d ⟨k0, td, t, H⟩ := by
 refine ⟨hp.1, VCall.g ?_⟩
 rw [hargs]
 refine VCall.fr (H0 := []) [] (by simp) trivial hb rfl hp.2 ?_
 rintro o H' _ (⟨e, rfl, rfl⟩ | ⟨rfl, rfl⟩)
 · simp only [mgA, List.map_nil, List.append_nil]; exact ⟨fun _ => SameG.refl _ _, h0 e⟩
 · exact ⟨fun _ => hG, h⟩
theorem VC.arg {f : FuncId} {args args' : List SV} {K : Out → List SObj → Prop} (h : VC P f args H K) (hl : SV.leVL args' args) : VC P f args' H K :=
 ⟨h.1, fun C vs hw hv => h.2 C vs hw (leVL_den hl hv)⟩
end Go.Sx
/- Contracts: reading data. -/
namespace Go.Proofs.YthmoognbccfpiaaGreatDoor
open Go Go.Sx Go.Proofs
set_option maxRecDepth 100000
set_option maxHeartbeats 4000000
set_option linter.unusedSimpArgs false

def effO {α : Type} (res : α → SV) : Except Nat (α × Nat) → Out
 | .ok (v, _) => .ret (res v)
 | .error _ => .pan wrongV
theorem eff_of {P : Program} {α : Type} {f : FuncId} {args : List SV} {b : List UInt8} {n : Nat} {E : List SObj} {res : α → SV} {upd : α → List SObj} {x : Except Nat (α × Nat)} (hl : ∀ v, E.length ≤ (upd v).length) (h : VC P f args (rdr b n :: E) (SealO (effO res x) (effH b n E upd x))) : Eff P f args b n E res upd x := by
 cases x with
 | error e => exact pe_seal (by simp [effH]) h
 | ok y => obtain ⟨v, k⟩ := y; exact pe_seal (by simp [effH]; exact hl v) h
attribute [go_sem] effO effH
def datIn : PR Pre := bindP (needP 0 intP) fun a => bindP (needP 1 octP) fun c => retP ((a, c) : Pre)
def datP : PR Pre := inP 48 datIn
def dataP : PR (List Pre) := inP 48 (listP datP 16)
theorem datP_ne : ErrP datP := errP_in (errP_bind (errP_need errP_rd) fun _ => errP_bind (errP_need errP_rd) fun _ => errP_ret)
theorem dataP_ne : ErrP dataP := errP_in (errP_list datP_ne 16)
theorem data1_c (b : List UInt8) (n : Nat) (hn : n ≤ b.length) (hb : b.length ≤ 1099511627776) :
 EffZ Tryz.prog 202 [.ptr 0 0] b n (posX b n) (fun l : List Pre => .isl PreT l) (dataP (b.drop n)) := by
 unfold dataP
 by_cases h : takeE 48 (b.drop n) = 0
 · have hs := rseq_ok b n hn hb h
   have hc := tkC_le (n := n) hb
   rw [inP_t h, posX_t h]
   generalize takeC (b.drop n) = c at *
   generalize takeN (b.drop n) = N at *
   generalize hX : listP datP 16 c = X
   refine effZ_of ?_
   refine runE mixed fi202 ?_
   refine effE mixed [0] (hs) ?_
   refine effE mixed [1] (must_drdr c 0) ?_
   refine si_nilrow 2 PreT rfl rfl ?_
   with_reducible refine sxE ?_
   refine si_loopX (ι := Nat × List Pre × List SObj) (fun s => [(2, .bld (s.2.2.length + 2) PreT s.2.1.length)]) (fun s => [rdr b (n + N), rdr c s.1] ++ s.2.2 ++ [.row PreT s.2.1]) (fun s => 20 - s.2.1.length) (fun s => s.2.1.length ≤ 16 ∧ s.1 ≤ c.length ∧ X = tailP s.2.1 s.1 (listP datP (16 - s.2.1.length) (c.drop s.1))) (0, [], []) ⟨Nat.zero_le _, Nat.zero_le _, ?_⟩ rfl ?_ ?_
   · rw [List.drop_zero, tailP_id]; exact hX.symm
   · with_reducible refine sxE ?_; trivial
   rintro ⟨k, xs, G⟩ ⟨i1, i2, i3⟩
   dsimp only at i1 i2 i3
   refine si_compactS (ty := PreT) (xs := xs) 2 xs.length [rdr b (n + N), rdr c k] [rdr b (n + N), rdr c k] G rfl (by simp) (by simp) ?_ (by rfl) ?_ ?_ ?_
   · simp [SObj.ren, SV.ren, SV.renL]
   · rfl
   · with_reducible refine sxE ?_
     exact congrArg (fun q => SV.bld q PreT xs.length) (Nat.add_comm _ _)
   have hleft := left_c c k i2
   refine goE mixed ?_
   refine effE mixed [1] (hleft) ?_
   refine ⟨fun hp0 => ⟨fun h16 => ?_, fun h16 => ?_⟩, fun hp0 => ?_⟩
   · have h0 : 16 - xs.length = 0 := by omega
     rw [h0] at i3
     rw [i3.trans (listP_full (by omega))]
     simp only [closeP]
     with_reducible refine sxE ?_
     rfl
   · have hkl : k < c.length := by omega
     have hlt : 0 < 16 - xs.length := by omega
     by_cases g0 : takeE 48 (c.drop k) = 0
     · have hs1 := rseq_ok c k i2 hc g0
       have hq := tkC_le (n := k) hc
       have hD : datP (c.drop k) = closeP (takeC (c.drop k)).length (takeN (c.drop k)) (datIn (takeC (c.drop k))) := inP_t g0
       have hM := takeN_le g0
       rw [List.length_drop] at hM
       generalize takeC (c.drop k) = s at *
       generalize takeN (c.drop k) = M at *
       unfold datIn at hD
       refine effE mixed [1] (hs1) ?_
       refine effE mixed [3] (must_drdr s 0) ?_
       have e1 := fint_c 0 (by omega) s 0 (Nat.zero_le _) hq
       rw [List.drop_zero] at e1
       cases h1 : needP 0 intP s with
       | error e =>
        rw [bindP_er h1] at hD
        rw [i3.trans (listP_bad hkl hlt hD)]
        have e1' := effX_er e1 h1
        simp only [closeP]
        refine effP [3] (e1') ?_; trivial
       | ok y =>
        obtain ⟨v1, k1⟩ := y
        rw [bindP_s0 h1] at hD
        have e1' := effX_ok e1 h1
        have f1 := needP_fits _ _ _ h1
        rw [Nat.zero_add] at e1'
        refine effE mixed [3] (e1') ?_
        have e2 := foct_c 1 (by omega) s _ f1 hq
        cases h2 : needP 1 octP (s.drop k1) with
        | error e =>
         rw [bindP_er h2] at hD
         rw [i3.trans (listP_bad hkl hlt hD)]
         have e2' := effX_er e2 h2
         simp only [closeP]
         refine effP [3] (e2') ?_; trivial
        | ok y =>
         obtain ⟨v2, k2⟩ := y
         rw [bindP_st h2] at hD
         have e2' := effX_ok e2 h2
         have f2 := fits_at needP_fits f1 h2
         simp only [shiftP, retP, closeP, Nat.add_zero] at hD
         refine effE mixed [3] (e2') ?_
         by_cases hm : k1 + k2 < s.length
         · rw [if_pos hm] at hD
           rw [i3.trans (listP_bad hkl hlt hD)]
           simp only [closeP]
           refine effP [3] (dend_f s _ hm) ?_
           rfl
         · rw [if_neg hm] at hD
           have hX' := i3.trans (listP_step hkl hlt hD)
           refine effE mixed [3] (dend_t s (k1 + k2) (by omega)) ?_
           refine ⟨⟨by omega, by omega⟩, (k + M, xs ++ [(v1, v2)], [.dead, rdr s (k1 + k2), .row PreT [(v1, v2)]]), ⟨by simp; omega, by dsimp only; omega, ?_⟩, by simp; omega, rfl, ?_⟩
           · dsimp only
             rw [hX', List.length_append, List.length_singleton, Nat.sub_sub]
           · with_reducible refine sxE ?_; trivial
     · have hs1 := rseq_er c k i2 hc g0
       have hD : datP (c.drop k) = .error (takeE 48 (c.drop k)) := inP_f g0
       rw [i3.trans (listP_bad hkl hlt hD)]
       generalize takeE 48 (c.drop k) = e at *
       simp only [closeP]
       refine effE mixed [1] (hs1) ?_
       refine effP [] (must_er_drdr e g0) ?_; trivial
   · rw [i3.trans (listP_end (by omega))]
     simp only [closeP]
     rw [if_neg (by omega)]
     with_reducible refine sxE ?_
     exact ⟨⟨Nat.le_refl _, by omega⟩, List.take_of_length_le (Nat.le_refl _)⟩
 · have hs := rseq_er b n hn hb h
   rw [inP_f h, posX_f h]
   generalize takeE 48 (b.drop n) = e at *
   refine effZ_of ?_
   refine runE mixed fi202 ?_
   refine effE mixed [0] (hs) ?_
   refine effP [] (must_er_drdr e h) ?_; trivial
theorem dpanD_c (b : List UInt8) (n m e : Nat) (T2 T4 T5 T6 : TypeId) (y : Value) (K : List SObj → Prop)
 (h : ∀ G, K ([rdr b n, .cells T2 [.ptr 0 0], .cells T4 [.raw (.slice none 0 0)], .cells T5 [rI e], .cells T6 [rI n]] ++ G)) :
 DCall Tryz.prog 248 [.ptr 4 0, .ptr 1 0, .ptr 2 0, .ptr 3 0] (some (errV e)) [rdr b m, .cells T2 [.ptr 0 0], .cells T4 [.raw (.slice none 0 0)], .cells T5 [.raw y], .cells T6 [rI n]] K := by
 refine recE mixed fi248 ?_
 exact h _
theorem dretD_c (H : List SObj) (K : List SObj → Prop) (h : ∀ G, K (H ++ G)) : DCall Tryz.prog 248 [.ptr 4 0, .ptr 1 0, .ptr 2 0, .ptr 3 0] none H K := by
 refine recE mixed fi248 ?_
 simpa using h []
abbrev zDat : SV := .isl PreT []
theorem sdata_c (b : List UInt8) (n : Nat) (hn : n ≤ b.length) (hb : b.length ≤ 1099511627776) :
 EffR Tryz.prog 201 [.ptr 0 0, .fn 202 [] []] b n (fun l : List Pre => .isl PreT l) zDat (dataP (b.drop n)) := by
 have hk := data1_c b n hn hb
 generalize dataP (b.drop n) = X at *
 cases X with
 | error e =>
  have hk' := effZ_er hk rfl
  refine pe_seal (by simp) ?_
  refine defE mixed fi201 ?_
  refine goE mixed ?_
  refine effP [0] (hk') ?_
  refine ⟨by simp, dpanD_c b n _ e _ _ _ _ _ _ fun G => ?_⟩
  with_reducible refine sxE ?_; trivial
 | ok x =>
  obtain ⟨v, k⟩ := x
  have hk' := effZ_ok hk rfl
  refine pe_seal (by simp) ?_
  refine defE mixed fi201 ?_
  refine goE mixed ?_
  refine effE mixed [0] (hk') ?_
  refine dretD_c _ _ fun G => ?_
  with_reducible refine sxE ?_; trivial
theorem drdata_c (b : List UInt8) (n : Nat) (hn : n ≤ b.length) (hb : b.length ≤ 1099511627776) :
 EffR Tryz.prog 157 [.ptr 0 0] b n (fun l : List Pre => .isl PreT l) zDat (dataP (b.drop n)) := by
 have hk := sdata_c b n hn hb
 generalize dataP (b.drop n) = X at *
 cases X with
 | error e =>
  have hk' := effR_er hk rfl
  refine pe_seal (by simp) ?_
  refine runE mixed fi157 ?_
  refine effE mixed [0] (hk') ?_; trivial
 | ok x =>
  obtain ⟨v, k⟩ := x
  have hk' := effR_ok hk rfl
  refine pe_seal (by simp) ?_
  refine runE mixed fi157 ?_
  refine effE mixed [0] (hk') ?_; trivial
theorem take_data (v : List Pre) : PC Tryz.prog 156 [.isl PreT v, rI 0] (.isl PreT v) := by
 refine pc_seal rfl rfl ?_
 refine runE mixed fi156 ?_
 refine callI_require (fun _ => ?_) fun h => absurd h (by decide)
 refine goE mixed ?_; trivial
theorem take_er_data (e : Nat) (he : e ≠ 0) : PE Tryz.prog 156 [zDat, rI e] [] (.pan wrongV) [] := by
 refine pe_seal (by simp) ?_
 refine runE mixed fi156 ?_
 refine callI_require (fun h => absurd h (by simp; omega)) fun _ => ?_
 with_reducible refine sxE ?_; trivial
end Go.Proofs.YthmoognbccfpiaaGreatDoor

