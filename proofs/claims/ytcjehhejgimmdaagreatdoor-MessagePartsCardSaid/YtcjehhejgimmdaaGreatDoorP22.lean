/- Contracts: reading inside of elements, with a function. -/
import Derived.Test.YtcjehhejgimmdaaGreatDoorP21
import Derived.Test.YtcjehhejgimmdaaGreatDoorP17
import Derived.Test.YtcjehhejgimmdaaGreatDoorP16
set_option linter.all false
namespace Go.Proofs.YtcjehhejgimmdaaGreatDoor
open Go Go.Sx Go.Proofs
set_option maxRecDepth 100000
set_option maxHeartbeats 4000000
def Eff (P : Program) {α : Type} (f : FuncId) (args : List SV) (b : List UInt8) (n : Nat) (E : List SObj) (res : α → SV) (upd : α → List SObj) : Except Nat (α × Nat) → Prop
 | .ok (v, k) => PE P f args (rdr b n :: E) (.ret (res v)) (rdr b (n + k) :: upd v)
 | .error _ => PE P f args (rdr b n :: E) (.pan wrongV) (.dead :: E.map fun _ => .dead)
theorem q0q {P : Program} {α : Type} {f : FuncId} {args : List SV} {b : List UInt8} {n : Nat} {E : List SObj} {res : α → SV} {upd : α → List SObj} {x : Except Nat (α × Nat)} {v : α} {k : Nat} (h : Eff P f args b n E res upd x) (hx : x = .ok (v, k)) : PE P f args (rdr b n :: E) (.ret (res v)) (rdr b (n + k) :: upd v) := by rw [hx] at h; exact h
theorem q0w {P : Program} {α : Type} {f : FuncId} {args : List SV} {b : List UInt8} {n : Nat} {E : List SObj} {res : α → SV} {upd : α → List SObj} {x : Except Nat (α × Nat)} {e : Nat} (h : Eff P f args b n E res upd x) (hx : x = .error e) : PE P f args (rdr b n :: E) (.pan wrongV) (.dead :: E.map fun _ => .dead) := by rw [hx] at h; exact h
def appB (n : Nat) : UInt8 := byteOf (96 + n)
theorem z8I {m : Nat} (hm : m ≤ 30) : IntKind.u8.wrap (IntKind.i64.wrap (96 + (m : Int))) = ((appB m).toNat : Int) := by
 rw [wrapi (by omega)]
 exact (q0Q _).symm
theorem q4Q (m : Nat) (hm : m ≤ 30) (b : List UInt8) (n : Nat) (hn : n ≤ b.length) (hb : b.length ≤ 1099511627776) (ht : takeE (appB m) (b.drop n) = 0) :
 PE Tryz.prog 160 [.ptr 0 0, rI m] [rdr b n] (.ret (.tup [.ptr 1 0, rI 0])) [rdr b (n + takeN (b.drop n)), rdr (takeC (b.drop n)) 0] := by
 have hd := q8u (appB m) b n hn hb ht
 have hu := z8I hm
 generalize takeC (b.drop n) = c at *
 generalize takeN (b.drop n) = k at *
 refine q0c (by simp) ?_
 refine rQ fi160 ?_
 refine ⟨fun _ => ⟨fun h30 => absurd h30 (by omega), fun _ => ?_⟩, fun hneg => by exfalso; omega⟩
 rw [hu]
 refine eQ [0] (hd) ?_; trivial
theorem z5k (m : Nat) (hm : m ≤ 30) (b : List UInt8) (n : Nat) (hn : n ≤ b.length) (hb : b.length ≤ 1099511627776) (ht : takeE (appB m) (b.drop n) ≠ 0) :
 PE Tryz.prog 160 [.ptr 0 0, rI m] [rdr b n] (.ret (.tup [.raw (.pointer none), rI (takeE (appB m) (b.drop n))])) [rdr b n] := by
 have hd := q8x (appB m) b n hn hb ht
 have hu := z8I hm
 generalize takeE (appB m) (b.drop n) = e at *
 refine q0c (by simp) ?_
 refine rQ fi160 ?_
 refine ⟨fun _ => ⟨fun h30 => absurd h30 (by omega), fun _ => ?_⟩, fun hneg => by exfalso; omega⟩
 rw [hu]
 refine eQ [0] (hd) ?_; trivial
theorem sequence1 {α : Type} (g : Nat) (b : List UInt8) (n : Nat) (hn : n ≤ b.length) (hb : b.length ≤ 1099511627776) (T : TypeId) (cs : List SV) (hc : Cln cs) (p : PR α) (hp : FitsP p) (upd : α → List SV) (hu : ∀ v, Cln (upd v))
 (hg : Eff Tryz.prog g (.agg [.ptr 0 0] :: [.ptr 1 0]) (takeC (b.drop n)) 0 [.cells T cs] (fun _ => .tup []) (fun v => [.cells T (upd v)]) (p (takeC (b.drop n)))) :
 Eff Tryz.prog 145 [.agg [.ptr 0 0], .fn g [] [.ptr 1 0]] b n [.cells T cs] (fun _ => .tup []) (fun v => [.cells T (upd v)]) (inP 48 p (b.drop n)) := by
 have w1 := q3s hc
 have w2 := And.intro w1 (q2S hu)
 rcases q1E (tag := 48) (p := p) (r := b.drop n) with ⟨h1, e⟩ | ⟨h1, e, h2, e'⟩ | ⟨h1, v, m, h2, h3, e⟩ | ⟨h1, v, m, h2, h3, e⟩
 · rw [e]
   have hs := q3E b n hn hb h1
   generalize takeE 48 (b.drop n) = ee at *
   refine q0c (by simp) ?_
   refine rQ fi145 ?_
   refine effC mixed [0] (hs) w1 ?_
   refine effD [] (q2F ee h1) w1 ?_; trivial
 · rw [e']
   have hs := q1P b n hn hb h1
   have hg' := q0w hg h2
   generalize takeC (b.drop n) = c at *
   refine q0c (by simp) ?_
   refine rQ fi145 ?_
   refine effC mixed [0] (hs) w1 ?_
   refine effC mixed [3] (q1r c 0) w1 ?_
   refine effD [3, 1] (hg') w1 ?_; trivial
 · rw [e]
   have hs := q1P b n hn hb h1
   have hg' := q0q hg h2
   generalize takeC (b.drop n) = c at *
   rw [Nat.zero_add] at hg'
   refine q0c (by simp) ?_
   refine rQ fi145 ?_
   refine effC mixed [0] (hs) w1 ?_
   refine effC mixed [3] (q1r c 0) w1 ?_
   refine effC mixed [3, 1] (hg') w2 ?_
   refine effD [3] (q4L c m h3) w2 ?_; trivial
 rw [e]
 have hs := q1P b n hn hb h1
 have hg' := q0q hg h2
 have hm := hp _ _ _ h2
 generalize takeC (b.drop n) = c at *
 rw [Nat.zero_add] at hg'
 refine q0c (by simp) ?_
 refine rQ fi145 ?_
 refine effC mixed [0] (hs) w1 ?_
 refine effC mixed [3] (q1r c 0) w1 ?_
 refine effC mixed [3, 1] (hg') w2 ?_
 refine effC mixed [3] (q5x c m (by omega)) w2 ?_; trivial
theorem q3G (g : Nat) (i : Nat) (hi : i ≤ 30) (b : List UInt8) (n : Nat) (hn : n ≤ b.length) (T : TypeId) (cs : List SV) (hc : Cln cs) (h : nextB i (b.drop n) = false) :
 PE Tryz.prog 161 [.agg [.ptr 0 0], rI i, .fn g [] [.ptr 1 0]] (rdr b n :: [.cells T cs]) (.ret (rB false)) (rdr b n :: [.cells T cs]) := by
 have w1 := q3s hc
 have hs := q4W i hi b n hn h
 refine q0c (by simp) ?_
 refine rQ fi161 ?_
 refine effC mixed [0] (hs) w1 ?_
 refine q0h (fun _ => ?_) fun h => absurd h (by decide)
 refine uQ 600 _ ?_
 with_reducible refine sx1 w1 ?_; trivial
theorem q4M {α : Type} (g : Nat) (i : Nat) (hi : i ≤ 30) (b : List UInt8) (n : Nat) (hn : n ≤ b.length) (hb : b.length ≤ 1099511627776) (T : TypeId) (cs : List SV) (hc : Cln cs) (p : PR α) (hp : FitsP p) (upd : α → List SV) (hu : ∀ v, Cln (upd v))
 (hg : Eff Tryz.prog g (.agg [.ptr 0 0] :: [.ptr 1 0]) (takeC (b.drop n)) 0 [.cells T cs] (fun _ => .tup []) (fun v => [.cells T (upd v)]) (p (takeC (b.drop n)))) (h : nextB i (b.drop n) = true) :
 Eff Tryz.prog 161 [.agg [.ptr 0 0], rI i, .fn g [] [.ptr 1 0]] b n [.cells T cs] (fun _ => rB true) (fun v => [.cells T (upd v)]) (inP (tagB i) p (b.drop n)) := by
 have w1 := q3s hc
 have w2 := And.intro w1 (q2S hu)
 rcases q1E (tag := tagB i) (p := p) (r := b.drop n) with ⟨h1, e⟩ | ⟨h1, e, h2, e'⟩ | ⟨h1, v, m, h2, h3, e⟩ | ⟨h1, v, m, h2, h3, e⟩
 · rw [e]
   have hs := q5a i hi b n hn hb h h1
   generalize takeE (tagB i) (b.drop n) = ee at *
   refine q0c (by simp) ?_
   refine rQ fi161 ?_
   refine effC mixed [0] (hs) w1 ?_
   refine q0h (fun h => absurd h (by simp; omega)) fun _ => ?_
   with_reducible refine sxE ?_; trivial
 · rw [e']
   have hs := q2U i hi b n hn hb h h1
   have hg' := q0w hg h2
   generalize takeC (b.drop n) = c at *
   refine q0c (by simp) ?_
   refine rQ fi161 ?_
   refine effC mixed [0] (hs) w1 ?_
   refine q0h (fun _ => ?_) fun h => absurd h (by decide)
   refine gQ ?_
   refine effD [3, 1] (hg') w1 ?_; trivial
 · rw [e]
   have hs := q2U i hi b n hn hb h h1
   have hg' := q0q hg h2
   generalize takeC (b.drop n) = c at *
   rw [Nat.zero_add] at hg'
   refine q0c (by simp) ?_
   refine rQ fi161 ?_
   refine effC mixed [0] (hs) w1 ?_
   refine q0h (fun _ => ?_) fun h => absurd h (by decide)
   refine gQ ?_
   refine effC mixed [3, 1] (hg') w2 ?_
   refine effD [3] (q4L c m h3) w2 ?_; trivial
 rw [e]
 have hs := q2U i hi b n hn hb h h1
 have hg' := q0q hg h2
 have hm := hp _ _ _ h2
 generalize takeC (b.drop n) = c at *
 rw [Nat.zero_add] at hg'
 refine q0c (by simp) ?_
 refine rQ fi161 ?_
 refine effC mixed [0] (hs) w1 ?_
 refine q0h (fun _ => ?_) fun h => absurd h (by decide)
 refine gQ ?_
 refine effC mixed [3, 1] (hg') w2 ?_
 refine effC mixed [3] (q5x c m (by omega)) w2 ?_; trivial
theorem need1 {α : Type} (g : Nat) (i : Nat) (hi : i ≤ 30) (b : List UInt8) (n : Nat) (hn : n ≤ b.length) (hb : b.length ≤ 1099511627776) (T : TypeId) (cs : List SV) (hc : Cln cs) (p : PR α) (hp : FitsP p) (upd : α → List SV) (hu : ∀ v, Cln (upd v))
 (hg : Eff Tryz.prog g (.agg [.ptr 0 0] :: [.ptr 1 0]) (takeC (b.drop n)) 0 [.cells T cs] (fun _ => .tup []) (fun v => [.cells T (upd v)]) (p (takeC (b.drop n)))) :
 Eff Tryz.prog 91 [.agg [.ptr 0 0], rI i, .fn g [] [.ptr 1 0]] b n [.cells T cs] (fun _ => .tup []) (fun v => [.cells T (upd v)]) (needP i p (b.drop n)) := by
 have w1 := q3s hc
 have w2 := And.intro w1 (q2S hu)
 cases h : nextB i (b.drop n) with
 | false =>
  have hm := q3G g i hi b n hn T cs hc h
  have : ∃ e, needP i p (b.drop n) = .error e := ⟨_, by unfold needP; rw [h]; rfl⟩
  obtain ⟨e, he⟩ := this
  rw [he]
  refine q0c (by simp) ?_
  refine rQ fi91 ?_
  refine effC mixed [0, 1] (hm) w1 ?_
  refine q0h (fun h => absurd h (by decide)) fun _ => ?_
  with_reducible refine sxE ?_; trivial
 | true =>
  have hm := q4M g i hi b n hn hb T cs hc p hp upd hu hg h
  have he : needP i p (b.drop n) = inP (tagB i) p (b.drop n) := by unfold needP; rw [h]; rfl
  rw [he]
  cases hx : inP (tagB i) p (b.drop n) with
  | error e =>
   have hm' := q0w hm hx
   refine q0c (by simp) ?_
   refine rQ fi91 ?_
   refine effD [0, 1] (hm') w1 ?_; trivial
  | ok x =>
   obtain ⟨v, k⟩ := x
   have hm' := q0q hm hx
   refine q0c (by simp) ?_
   refine rQ fi91 ?_
   refine effC mixed [0, 1] (hm') w2 ?_
   refine q0h (fun _ => ?_) fun h => absurd h (by decide)
   refine uQ 600 _ ?_
   with_reducible refine sx1 w2 ?_; trivial
theorem application1 {α : Type} (g : Nat) (i : Nat) (hi : i ≤ 30) (b : List UInt8) (n : Nat) (hn : n ≤ b.length) (hb : b.length ≤ 1099511627776) (T : TypeId) (cs : List SV) (hc : Cln cs) (p : PR α) (hp : FitsP p) (upd : α → List SV) (hu : ∀ v, Cln (upd v))
 (hg : Eff Tryz.prog g (.agg [.ptr 0 0] :: [.ptr 1 0]) (takeC (takeC (b.drop n))) 0 [.cells T cs] (fun _ => .tup []) (fun v => [.cells T (upd v)]) (p (takeC (takeC (b.drop n))))) :
 Eff Tryz.prog 89 [.agg [.ptr 0 0], rI i, .fn g [] [.ptr 1 0]] b n [.cells T cs] (fun _ => .tup []) (fun v => [.cells T (upd v)]) (inP (appB i) (inP 48 p) (b.drop n)) := by
 have w1 := q3s hc
 have w2 := And.intro w1 (q2S hu)
 have hsq := sequence1 g (takeC (b.drop n)) 0 (Nat.zero_le _) (q0V hb) T cs hc p hp upd hu (by rw [List.drop_zero]; exact hg)
 rw [List.drop_zero] at hsq
 clear hg
 rcases q1E (tag := appB i) (p := inP 48 p) (r := b.drop n) with ⟨h1, e⟩ | ⟨h1, e, h2, e'⟩ | ⟨h1, v, m, h2, h3, e⟩ | ⟨h1, v, m, h2, h3, e⟩
 · rw [e]
   have hs := z5k i hi b n hn hb h1
   generalize takeE (appB i) (b.drop n) = ee at *
   refine q0c (by simp) ?_
   refine rQ fi89 ?_
   refine effC mixed [0] (hs) w1 ?_
   refine effD [] (q2F ee h1) w1 ?_; trivial
 · rw [e']
   have hs := q4Q i hi b n hn hb h1
   have hg' := q0w hsq h2
   generalize takeC (b.drop n) = c at *
   refine q0c (by simp) ?_
   refine rQ fi89 ?_
   refine effC mixed [0] (hs) w1 ?_
   refine effC mixed [3] (q1r c 0) w1 ?_
   refine effD [3, 1] (hg') w1 ?_; trivial
 · rw [e]
   have hs := q4Q i hi b n hn hb h1
   have hg' := q0q hsq h2
   generalize takeC (b.drop n) = c at *
   rw [Nat.zero_add] at hg'
   refine q0c (by simp) ?_
   refine rQ fi89 ?_
   refine effC mixed [0] (hs) w1 ?_
   refine effC mixed [3] (q1r c 0) w1 ?_
   refine effC mixed [3, 1] (hg') w2 ?_
   refine effD [3] (q4L c m h3) w2 ?_; trivial
 rw [e]
 have hs := q4Q i hi b n hn hb h1
 have hg' := q0q hsq h2
 have hm := q1G _ _ _ h2
 generalize takeC (b.drop n) = c at *
 rw [Nat.zero_add] at hg'
 refine q0c (by simp) ?_
 refine rQ fi89 ?_
 refine effC mixed [0] (hs) w1 ?_
 refine effC mixed [3] (q1r c 0) w1 ?_
 refine effC mixed [3, 1] (hg') w2 ?_
 refine effC mixed [3] (q5x c m (by omega)) w2 ?_; trivial
theorem sequence2 {α : Type} (g : Nat) (b : List UInt8) (n : Nat) (hn : n ≤ b.length) (hb : b.length ≤ 1099511627776) (T T2 : TypeId) (cs cs2 : List SV) (hc : Cln cs) (hc2 : Cln cs2) (p : PR α) (hp : FitsP p) (upd upd2 : α → List SV) (hu : ∀ v, Cln (upd v)) (hu2 : ∀ v, Cln (upd2 v))
 (hg : Eff Tryz.prog g (.agg [.ptr 0 0] :: [.ptr 1 0, .ptr 2 0]) (takeC (b.drop n)) 0 [.cells T cs, .cells T2 cs2] (fun _ => .tup []) (fun v => [.cells T (upd v), .cells T2 (upd2 v)]) (p (takeC (b.drop n)))) :
 Eff Tryz.prog 145 [.agg [.ptr 0 0], .fn g [] [.ptr 1 0, .ptr 2 0]] b n [.cells T cs, .cells T2 cs2] (fun _ => .tup []) (fun v => [.cells T (upd v), .cells T2 (upd2 v)]) (inP 48 p (b.drop n)) := by
 have w1 := And.intro (q3s hc) (q3s hc2)
 have w2 := And.intro w1 (And.intro (q2S hu) (q2S hu2))
 rcases q1E (tag := 48) (p := p) (r := b.drop n) with ⟨h1, e⟩ | ⟨h1, e, h2, e'⟩ | ⟨h1, v, m, h2, h3, e⟩ | ⟨h1, v, m, h2, h3, e⟩
 · rw [e]
   have hs := q3E b n hn hb h1
   generalize takeE 48 (b.drop n) = ee at *
   refine q0c (by simp) ?_
   refine rQ fi145 ?_
   refine effC mixed [0] (hs) w1 ?_
   refine effD [] (q2F ee h1) w1 ?_; trivial
 · rw [e']
   have hs := q1P b n hn hb h1
   have hg' := q0w hg h2
   generalize takeC (b.drop n) = c at *
   refine q0c (by simp) ?_
   refine rQ fi145 ?_
   refine effC mixed [0] (hs) w1 ?_
   refine effC mixed [4] (q1r c 0) w1 ?_
   refine effD [4, 1, 2] (hg') w1 ?_; trivial
 · rw [e]
   have hs := q1P b n hn hb h1
   have hg' := q0q hg h2
   generalize takeC (b.drop n) = c at *
   rw [Nat.zero_add] at hg'
   refine q0c (by simp) ?_
   refine rQ fi145 ?_
   refine effC mixed [0] (hs) w1 ?_
   refine effC mixed [4] (q1r c 0) w1 ?_
   refine effC mixed [4, 1, 2] (hg') w2 ?_
   refine effD [4] (q4L c m h3) w2 ?_; trivial
 rw [e]
 have hs := q1P b n hn hb h1
 have hg' := q0q hg h2
 have hm := hp _ _ _ h2
 generalize takeC (b.drop n) = c at *
 rw [Nat.zero_add] at hg'
 refine q0c (by simp) ?_
 refine rQ fi145 ?_
 refine effC mixed [0] (hs) w1 ?_
 refine effC mixed [4] (q1r c 0) w1 ?_
 refine effC mixed [4, 1, 2] (hg') w2 ?_
 refine effC mixed [4] (q5x c m (by omega)) w2 ?_; trivial
theorem q5Q (g : Nat) (i : Nat) (hi : i ≤ 30) (b : List UInt8) (n : Nat) (hn : n ≤ b.length) (T T2 : TypeId) (cs : List SV) (hc : Cln cs) (h : nextB i (b.drop n) = false) :
 PE Tryz.prog 161 [.agg [.ptr 0 0], rI i, .fn g [] [.ptr 1 0]] (rdr b n :: [.cells T [.ptr 2 0], .cells T2 cs]) (.ret (rB false)) (rdr b n :: [.cells T [.ptr 2 0], .cells T2 cs]) := by
 have w1 := q3s hc
 have hs := q4W i hi b n hn h
 refine q0c (by simp) ?_
 refine rQ fi161 ?_
 refine effC mixed [0] (hs) w1 ?_
 refine q0h (fun _ => ?_) fun h => absurd h (by decide)
 refine uQ 600 _ ?_
 with_reducible refine sx1 w1 ?_; trivial
theorem z6h {α : Type} (g : Nat) (i : Nat) (hi : i ≤ 30) (b : List UInt8) (n : Nat) (hn : n ≤ b.length) (hb : b.length ≤ 1099511627776) (T T2 : TypeId) (cs : List SV) (hc : Cln cs) (p : PR α) (hp : FitsP p) (upd : α → List SV) (hu : ∀ v, Cln (upd v))
 (hg : Eff Tryz.prog g (.agg [.ptr 0 0] :: [.ptr 1 0]) (takeC (b.drop n)) 0 [.cells T [.ptr 2 0], .cells T2 cs] (fun _ => .tup []) (fun v => [.cells T [.ptr 2 0], .cells T2 (upd v)]) (p (takeC (b.drop n)))) (h : nextB i (b.drop n) = true) :
 Eff Tryz.prog 161 [.agg [.ptr 0 0], rI i, .fn g [] [.ptr 1 0]] b n [.cells T [.ptr 2 0], .cells T2 cs] (fun _ => rB true) (fun v => [.cells T [.ptr 2 0], .cells T2 (upd v)]) (inP (tagB i) p (b.drop n)) := by
 have w1 := q3s hc
 have w2 := And.intro w1 (q2S hu)
 rcases q1E (tag := tagB i) (p := p) (r := b.drop n) with ⟨h1, e⟩ | ⟨h1, e, h2, e'⟩ | ⟨h1, v, m, h2, h3, e⟩ | ⟨h1, v, m, h2, h3, e⟩
 · rw [e]
   have hs := q5a i hi b n hn hb h h1
   generalize takeE (tagB i) (b.drop n) = ee at *
   refine q0c (by simp) ?_
   refine rQ fi161 ?_
   refine effC mixed [0] (hs) w1 ?_
   refine q0h (fun h => absurd h (by simp; omega)) fun _ => ?_
   with_reducible refine sxE ?_; trivial
 · rw [e']
   have hs := q2U i hi b n hn hb h h1
   have hg' := q0w hg h2
   generalize takeC (b.drop n) = c at *
   refine q0c (by simp) ?_
   refine rQ fi161 ?_
   refine effC mixed [0] (hs) w1 ?_
   refine q0h (fun _ => ?_) fun h => absurd h (by decide)
   refine gQ ?_
   refine effD [4, 1, 2] (hg') w1 ?_; trivial
 · rw [e]
   have hs := q2U i hi b n hn hb h h1
   have hg' := q0q hg h2
   generalize takeC (b.drop n) = c at *
   rw [Nat.zero_add] at hg'
   refine q0c (by simp) ?_
   refine rQ fi161 ?_
   refine effC mixed [0] (hs) w1 ?_
   refine q0h (fun _ => ?_) fun h => absurd h (by decide)
   refine gQ ?_
   refine effC mixed [4, 1, 2] (hg') w2 ?_
   refine effD [4] (q4L c m h3) w2 ?_; trivial
 rw [e]
 have hs := q2U i hi b n hn hb h h1
 have hg' := q0q hg h2
 have hm := hp _ _ _ h2
 generalize takeC (b.drop n) = c at *
 rw [Nat.zero_add] at hg'
 refine q0c (by simp) ?_
 refine rQ fi161 ?_
 refine effC mixed [0] (hs) w1 ?_
 refine q0h (fun _ => ?_) fun h => absurd h (by decide)
 refine gQ ?_
 refine effC mixed [4, 1, 2] (hg') w2 ?_
 refine effC mixed [4] (q5x c m (by omega)) w2 ?_; trivial
theorem needp {α : Type} (g : Nat) (i : Nat) (hi : i ≤ 30) (b : List UInt8) (n : Nat) (hn : n ≤ b.length) (hb : b.length ≤ 1099511627776) (T T2 : TypeId) (cs : List SV) (hc : Cln cs) (p : PR α) (hp : FitsP p) (upd : α → List SV) (hu : ∀ v, Cln (upd v))
 (hg : Eff Tryz.prog g (.agg [.ptr 0 0] :: [.ptr 1 0]) (takeC (b.drop n)) 0 [.cells T [.ptr 2 0], .cells T2 cs] (fun _ => .tup []) (fun v => [.cells T [.ptr 2 0], .cells T2 (upd v)]) (p (takeC (b.drop n)))) :
 Eff Tryz.prog 91 [.agg [.ptr 0 0], rI i, .fn g [] [.ptr 1 0]] b n [.cells T [.ptr 2 0], .cells T2 cs] (fun _ => .tup []) (fun v => [.cells T [.ptr 2 0], .cells T2 (upd v)]) (needP i p (b.drop n)) := by
 have w1 := q3s hc
 have w2 := And.intro w1 (q2S hu)
 cases h : nextB i (b.drop n) with
 | false =>
  have hm := q5Q g i hi b n hn T T2 cs hc h
  have : ∃ e, needP i p (b.drop n) = .error e := ⟨_, by unfold needP; rw [h]; rfl⟩
  obtain ⟨e, he⟩ := this
  rw [he]
  refine q0c (by simp) ?_
  refine rQ fi91 ?_
  refine effC mixed [0, 1, 2] (hm) w1 ?_
  refine q0h (fun h => absurd h (by decide)) fun _ => ?_
  with_reducible refine sxE ?_; trivial
 | true =>
  have hm := z6h g i hi b n hn hb T T2 cs hc p hp upd hu hg h
  have he : needP i p (b.drop n) = inP (tagB i) p (b.drop n) := by unfold needP; rw [h]; rfl
  rw [he]
  cases hx : inP (tagB i) p (b.drop n) with
  | error e =>
   have hm' := q0w hm hx
   refine q0c (by simp) ?_
   refine rQ fi91 ?_
   refine effD [0, 1, 2] (hm') w1 ?_; trivial
  | ok x =>
   obtain ⟨v, k⟩ := x
   have hm' := q0q hm hx
   refine q0c (by simp) ?_
   refine rQ fi91 ?_
   refine effC mixed [0, 1, 2] (hm') w2 ?_
   refine q0h (fun _ => ?_) fun h => absurd h (by decide)
   refine uQ 600 _ ?_
   with_reducible refine sx1 w2 ?_; trivial
theorem sequencek {α : Type} (g : Nat) (b : List UInt8) (n : Nat) (hn : n ≤ b.length) (hb : b.length ≤ 1099511627776) (kk : Int) (T : TypeId) (cs : List SV) (hc : Cln cs) (p : PR α) (hp : FitsP p) (upd : α → List SV) (hu : ∀ v, Cln (upd v))
 (hg : Eff Tryz.prog g (.agg [.ptr 0 0] :: [.iptr I64 kk 0, .ptr 1 0]) (takeC (b.drop n)) 0 [.cells T cs] (fun _ => .tup []) (fun v => [.cells T (upd v)]) (p (takeC (b.drop n)))) :
 Eff Tryz.prog 145 [.agg [.ptr 0 0], .fn g [] [.iptr I64 kk 0, .ptr 1 0]] b n [.cells T cs] (fun _ => .tup []) (fun v => [.cells T (upd v)]) (inP 48 p (b.drop n)) := by
 have w1 := q3s hc
 have w2 := And.intro w1 (q2S hu)
 rcases q1E (tag := 48) (p := p) (r := b.drop n) with ⟨h1, e⟩ | ⟨h1, e, h2, e'⟩ | ⟨h1, v, m, h2, h3, e⟩ | ⟨h1, v, m, h2, h3, e⟩
 · rw [e]
   have hs := q3E b n hn hb h1
   generalize takeE 48 (b.drop n) = ee at *
   refine q0c (by simp) ?_
   refine rQ fi145 ?_
   refine effC mixed [0] (hs) w1 ?_
   refine effD [] (q2F ee h1) w1 ?_; trivial
 · rw [e']
   have hs := q1P b n hn hb h1
   have hg' := q0w hg h2
   generalize takeC (b.drop n) = c at *
   refine q0c (by simp) ?_
   refine rQ fi145 ?_
   refine effC mixed [0] (hs) w1 ?_
   refine effC mixed [3] (q1r c 0) w1 ?_
   refine effD [3, 1] (hg') w1 ?_; trivial
 · rw [e]
   have hs := q1P b n hn hb h1
   have hg' := q0q hg h2
   generalize takeC (b.drop n) = c at *
   rw [Nat.zero_add] at hg'
   refine q0c (by simp) ?_
   refine rQ fi145 ?_
   refine effC mixed [0] (hs) w1 ?_
   refine effC mixed [3] (q1r c 0) w1 ?_
   refine effC mixed [3, 1] (hg') w2 ?_
   refine effD [3] (q4L c m h3) w2 ?_; trivial
 rw [e]
 have hs := q1P b n hn hb h1
 have hg' := q0q hg h2
 have hm := hp _ _ _ h2
 generalize takeC (b.drop n) = c at *
 rw [Nat.zero_add] at hg'
 refine q0c (by simp) ?_
 refine rQ fi145 ?_
 refine effC mixed [0] (hs) w1 ?_
 refine effC mixed [3] (q1r c 0) w1 ?_
 refine effC mixed [3, 1] (hg') w2 ?_
 refine effC mixed [3] (q5x c m (by omega)) w2 ?_; trivial
theorem applicationk {α : Type} (g : Nat) (i : Nat) (hi : i ≤ 30) (b : List UInt8) (n : Nat) (hn : n ≤ b.length) (hb : b.length ≤ 1099511627776) (kk : Int) (T : TypeId) (cs : List SV) (hc : Cln cs) (p : PR α) (hp : FitsP p) (upd : α → List SV) (hu : ∀ v, Cln (upd v))
 (hg : Eff Tryz.prog g (.agg [.ptr 0 0] :: [.iptr I64 kk 0, .ptr 1 0]) (takeC (takeC (b.drop n))) 0 [.cells T cs] (fun _ => .tup []) (fun v => [.cells T (upd v)]) (p (takeC (takeC (b.drop n))))) :
 Eff Tryz.prog 89 [.agg [.ptr 0 0], rI i, .fn g [] [.iptr I64 kk 0, .ptr 1 0]] b n [.cells T cs] (fun _ => .tup []) (fun v => [.cells T (upd v)]) (inP (appB i) (inP 48 p) (b.drop n)) := by
 have w1 := q3s hc
 have w2 := And.intro w1 (q2S hu)
 have hsq := sequencek g (takeC (b.drop n)) 0 (Nat.zero_le _) (q0V hb) kk T cs hc p hp upd hu (by rw [List.drop_zero]; exact hg)
 rw [List.drop_zero] at hsq
 clear hg
 rcases q1E (tag := appB i) (p := inP 48 p) (r := b.drop n) with ⟨h1, e⟩ | ⟨h1, e, h2, e'⟩ | ⟨h1, v, m, h2, h3, e⟩ | ⟨h1, v, m, h2, h3, e⟩
 · rw [e]
   have hs := z5k i hi b n hn hb h1
   generalize takeE (appB i) (b.drop n) = ee at *
   refine q0c (by simp) ?_
   refine rQ fi89 ?_
   refine effC mixed [0] (hs) w1 ?_
   refine effD [] (q2F ee h1) w1 ?_; trivial
 · rw [e']
   have hs := q4Q i hi b n hn hb h1
   have hg' := q0w hsq h2
   generalize takeC (b.drop n) = c at *
   refine q0c (by simp) ?_
   refine rQ fi89 ?_
   refine effC mixed [0] (hs) w1 ?_
   refine effC mixed [3] (q1r c 0) w1 ?_
   refine effD [3, 1] (hg') w1 ?_; trivial
 · rw [e]
   have hs := q4Q i hi b n hn hb h1
   have hg' := q0q hsq h2
   generalize takeC (b.drop n) = c at *
   rw [Nat.zero_add] at hg'
   refine q0c (by simp) ?_
   refine rQ fi89 ?_
   refine effC mixed [0] (hs) w1 ?_
   refine effC mixed [3] (q1r c 0) w1 ?_
   refine effC mixed [3, 1] (hg') w2 ?_
   refine effD [3] (q4L c m h3) w2 ?_; trivial
 rw [e]
 have hs := q4Q i hi b n hn hb h1
 have hg' := q0q hsq h2
 have hm := q1G _ _ _ h2
 generalize takeC (b.drop n) = c at *
 rw [Nat.zero_add] at hg'
 refine q0c (by simp) ?_
 refine rQ fi89 ?_
 refine effC mixed [0] (hs) w1 ?_
 refine effC mixed [3] (q1r c 0) w1 ?_
 refine effC mixed [3, 1] (hg') w2 ?_
 refine effC mixed [3] (q5x c m (by omega)) w2 ?_; trivial
theorem z8l (b : List UInt8) (n : Nat) (hn : n ≤ b.length) (hb : b.length ≤ 1099511627776) (o : Value) :
 Eff Tryz.prog 165 [.agg [.ptr 0 0], .ptr 1 0] b n [.cells 3 [.raw o]] (fun _ => .tup []) (fun v => [.cells 3 [(rI) v]]) (intP (b.drop n)) := by
 cases hx : intP (b.drop n) with
 | error e =>
  have hr := q8q b n hn hb hx
  refine q0c (by simp) ?_
  refine rQ fi165 ?_
  refine eQ [0] (hr) ?_
  refine effP [] (q2E _ e (q3F hx)) ?_; trivial
 | ok x =>
  obtain ⟨v, k⟩ := x
  have hr := q8s b n hn hb hx
  refine q0c (by simp) ?_
  refine rQ fi165 ?_
  refine eQ [0] (hr) ?_
  refine q0a (q3W _) ?_
  refine gQ ?_; trivial
theorem z0U (i : Nat) (hi : i ≤ 30) (b : List UInt8) (n : Nat) (hn : n ≤ b.length) (hb : b.length ≤ 1099511627776) :
 Eff Tryz.prog 95 [.agg [.ptr 0 0], rI i] b n [] (rI) (fun _ => []) (needP i intP (b.drop n)) := by
 have hc : Cln [.raw (.int .i64 0)] := q0d q0I
 have hg := z8l (takeC (b.drop n)) 0 (Nat.zero_le _) (q0V hb) (.int .i64 0)
 rw [List.drop_zero] at hg
 have hm := need1 165 i hi b n hn hb 3 _ hc intP q2f (fun v => [(rI) v]) (fun v => q0d q0I) hg
 cases hx : needP i intP (b.drop n) with
 | error e =>
  have hm' := q0w hm hx
  refine q0c (by simp) ?_
  refine rQ fi95 ?_
  refine effP [0, 2] (hm') ?_; trivial
 | ok x =>
  obtain ⟨v, k⟩ := x
  have hm' := q0q hm hx
  refine q0c (by simp) ?_
  refine rQ fi95 ?_
  refine eQ [0, 2] (hm') ?_; trivial
theorem z4M (b : List UInt8) (n : Nat) (hn : n ≤ b.length) (hb : b.length ≤ 1099511627776) (o : Value) :
 Eff Tryz.prog 173 [.agg [.ptr 0 0], .ptr 1 0] b n [.cells 3 [.raw o]] (fun _ => .tup []) (fun v => [.cells 3 [(fun v => rI (v : Nat)) v]]) (timeP (b.drop n)) := by
 cases hx : timeP (b.drop n) with
 | error e =>
  have hr := z2C b n hn hb hx
  refine q0c (by simp) ?_
  refine rQ fi173 ?_
  refine eQ [0] (hr) ?_
  refine effP [] (q2E _ e (q3F hx)) ?_; trivial
 | ok x =>
  obtain ⟨v, k⟩ := x
  have hr := z1A b n hn hb hx
  refine q0c (by simp) ?_
  refine rQ fi173 ?_
  refine eQ [0] (hr) ?_
  refine q0a (q3W _) ?_
  refine gQ ?_; trivial
theorem q4n (i : Nat) (hi : i ≤ 30) (b : List UInt8) (n : Nat) (hn : n ≤ b.length) (hb : b.length ≤ 1099511627776) :
 Eff Tryz.prog 98 [.agg [.ptr 0 0], rI i] b n [] (fun v => rI (v : Nat)) (fun _ => []) (needP i timeP (b.drop n)) := by
 have hc : Cln [.raw (.int .i64 0)] := q0d q0I
 have hg := z4M (takeC (b.drop n)) 0 (Nat.zero_le _) (q0V hb) (.int .i64 0)
 rw [List.drop_zero] at hg
 have hm := need1 173 i hi b n hn hb 3 _ hc timeP q2f (fun v => [(fun v => rI (v : Nat)) v]) (fun v => q0d q0I) hg
 cases hx : needP i timeP (b.drop n) with
 | error e =>
  have hm' := q0w hm hx
  refine q0c (by simp) ?_
  refine rQ fi98 ?_
  refine effP [0, 2] (hm') ?_; trivial
 | ok x =>
  obtain ⟨v, k⟩ := x
  have hm' := q0q hm hx
  refine q0c (by simp) ?_
  refine rQ fi98 ?_
  refine eQ [0, 2] (hm') ?_; trivial
theorem z4S (b : List UInt8) (n : Nat) (hn : n ≤ b.length) (hb : b.length ≤ 1099511627776) (o : Value) :
 Eff Tryz.prog 170 [.agg [.ptr 0 0], .ptr 1 0] b n [.cells 26 [.raw o]] (fun _ => .tup []) (fun v => [.cells 26 [(fun v => .raw (.int .u32 (v : Nat))) v]]) (bitsP (b.drop n)) := by
 cases hx : bitsP (b.drop n) with
 | error e =>
  have hr := z8u b n hn hb hx
  refine q0c (by simp) ?_
  refine rQ fi170 ?_
  refine eQ [0] (hr) ?_
  refine effP [] (z0I _ e (q3F hx)) ?_; trivial
 | ok x =>
  obtain ⟨v, k⟩ := x
  have hr := z7Y b n hn hb hx
  refine q0c (by simp) ?_
  refine rQ fi170 ?_
  refine eQ [0] (hr) ?_
  refine q0a (z6x _) ?_
  refine gQ ?_; trivial
theorem z2k (i : Nat) (hi : i ≤ 30) (b : List UInt8) (n : Nat) (hn : n ≤ b.length) (hb : b.length ≤ 1099511627776) :
 Eff Tryz.prog 97 [.agg [.ptr 0 0], rI i] b n [] (fun v => .raw (.int .u32 (v : Nat))) (fun _ => []) (needP i bitsP (b.drop n)) := by
 have hc : Cln [.raw (.int .u32 0)] := q0d q0I
 have hg := z4S (takeC (b.drop n)) 0 (Nat.zero_le _) (q0V hb) (.int .u32 0)
 rw [List.drop_zero] at hg
 have hm := need1 170 i hi b n hn hb 26 _ hc bitsP q2f (fun v => [(fun v => .raw (.int .u32 (v : Nat))) v]) (fun v => q0d q0I) hg
 cases hx : needP i bitsP (b.drop n) with
 | error e =>
  have hm' := q0w hm hx
  refine q0c (by simp) ?_
  refine rQ fi97 ?_
  refine effP [0, 2] (hm') ?_; trivial
 | ok x =>
  obtain ⟨v, k⟩ := x
  have hm' := q0q hm hx
  refine q0c (by simp) ?_
  refine rQ fi97 ?_
  refine eQ [0, 2] (hm') ?_; trivial
theorem z5c (b : List UInt8) (n : Nat) (hn : n ≤ b.length) (hb : b.length ≤ 1099511627776) (o : Value) :
 Eff Tryz.prog 168 [.agg [.ptr 0 0], .ptr 1 0] b n [.cells 3 [.raw o]] (fun _ => .tup []) (fun v => [.cells 3 [rI ((v : Nat) : Int)]]) (timeP (b.drop n)) := by
 cases hx : timeP (b.drop n) with
 | error e =>
  have hr := z2C b n hn hb hx
  refine q0c (by simp) ?_
  refine rQ fi168 ?_
  refine eQ [0] (hr) ?_
  refine effP [] (q2E _ e (q3F hx)) ?_; trivial
 | ok x =>
  obtain ⟨v, k⟩ := x
  have hr := z1A b n hn hb hx
  refine q0c (by simp) ?_
  refine rQ fi168 ?_
  refine eQ [0] (hr) ?_
  refine q0a (q3W _) ?_
  refine gQ ?_; trivial
theorem q3N (i : Nat) (hi : i ≤ 30) (b : List UInt8) (n : Nat) (hn : n ≤ b.length) (hb : b.length ≤ 1099511627776) :
 Eff Tryz.prog 96 [.agg [.ptr 0 0], rI i] b n [] (fun v => rI ((v : Nat) : Int)) (fun _ => []) (dfltP (0 : Nat) i timeP (b.drop n)) := by
 have hc : Cln [.raw (.int .i64 0)] := q0d q0I
 cases h : nextB i (b.drop n) with
 | false =>
  rw [q3c h]
  have hm := q3G 168 i hi b n hn 3 _ hc h
  refine q0c (by simp) ?_
  refine rQ fi96 ?_
  refine eQ [0, 2] (hm) ?_
  rfl
 | true =>
  rw [q2s h]
  have hg := z5c (takeC (b.drop n)) 0 (Nat.zero_le _) (q0V hb) (.int .i64 0)
  rw [List.drop_zero] at hg
  have hm := q4M 168 i hi b n hn hb 3 _ hc timeP q2f (fun v => [rI ((v : Nat) : Int)]) (fun v => q0d q0I) hg h
  cases hx : inP (tagB i) timeP (b.drop n) with
  | error e =>
   have hm' := q0w hm hx
   refine q0c (by simp) ?_
   refine rQ fi96 ?_
   refine effP [0, 2] (hm') ?_; trivial
  | ok x =>
   obtain ⟨v, k⟩ := x
   have hm' := q0q hm hx
   refine q0c (by simp) ?_
   refine rQ fi96 ?_
   refine eQ [0, 2] (hm') ?_; trivial
theorem z4Y (v : Prin) : PC Tryz.prog 175 [.agg (PrinT.cells v), rI 0] (.agg (PrinT.cells v)) := by
 refine q0e rfl rfl ?_
 refine rQ fi175 ?_
 refine q0h (fun _ => ?_) fun h => absurd h (by decide)
 refine gQ ?_; trivial
theorem q9p (e : Nat) (he : e ≠ 0) : PE Tryz.prog 175 [zPrin, rI e] [] (.pan wrongV) [] := by
 refine q0c (by simp) ?_
 refine rQ fi175 ?_
 refine q0h (fun h => absurd h (by simp; omega)) fun _ => ?_
 with_reducible refine sxE ?_; trivial
theorem z7J (b : List UInt8) (n : Nat) (hn : n ≤ b.length) (hb : b.length ≤ 1099511627776) (T : TypeId) :
 Eff Tryz.prog 174 [.agg [.ptr 0 0], .ptr 1 0] b n [.cells T [.raw (.slice none 0 0), rS ⟨#[]⟩]] (fun _ => .tup []) (fun p : Prin => [.cells T [.isl .str p.1, rS p.2]]) (nameP (b.drop n)) := by
 have hr := j2h b n hn hb
 cases hx : nameP (b.drop n) with
 | error e =>
  have hr' := q5b hr hx
  refine q0c (by simp) ?_
  refine rQ fi174 ?_
  refine eQ [0] (hr') ?_
  refine effP [] (q9p e (z7W _ _ hx)) ?_; trivial
 | ok x =>
  obtain ⟨v, k⟩ := x
  have hr' := q5r hr hx
  refine q0c (by simp) ?_
  refine rQ fi174 ?_
  refine eQ [0] (hr') ?_
  refine q0a (z4Y _) ?_
  refine gQ ?_; trivial
theorem q5L (i : Nat) (hi : i ≤ 30) (b : List UInt8) (n : Nat) (hn : n ≤ b.length) (hb : b.length ≤ 1099511627776) :
 Eff Tryz.prog 99 [.agg [.ptr 0 0], rI i] b n [] (fun p : Prin => .agg (PrinT.cells p)) (fun _ => []) (needP i nameP (b.drop n)) := by
 have hc : Cln [.raw (.slice none 0 0), rS ⟨#[]⟩] := q0d (q0d q0I)
 have hg := fun T => z7J (takeC (b.drop n)) 0 (Nat.zero_le _) (q0V hb) T
 simp only [List.drop_zero] at hg
 have hm := fun T => need1 174 i hi b n hn hb T _ hc nameP z3y (fun p : Prin => [.isl .str p.1, rS p.2]) (fun v => q0O (q0d q0I)) (hg T)
 cases hx : needP i nameP (b.drop n) with
 | error e =>
  have hm' := fun T => q0w (hm T) hx
  refine q0c (by simp) ?_
  refine rQ fi99 ?_
  refine effP [0, 2] (hm' _) ?_; trivial
 | ok x =>
  obtain ⟨v, k⟩ := x
  have hm' := fun T => q0q (hm T) hx
  refine q0c (by simp) ?_
  refine rQ fi99 ?_
  refine eQ [0, 2] (hm' _) ?_; trivial
def cstP (v : Int) : PR Unit := fun r => match intP r with
 | .ok (w, k) => if w = v then .ok ((), k) else .error 6
 | .error e => .error e
theorem z6g {v : Int} : FitsP (cstP v) := fun r u m h => by
 unfold cstP at h
 cases hx : intP r with
 | error e => rw [hx] at h; cases h
 | ok y =>
  obtain ⟨w, k⟩ := y
  rw [hx] at h
  simp only at h
  split at h
  · cases h; exact q2f _ _ _ hx
  cases h
theorem j1t (v : Int) (b : List UInt8) (n : Nat) (hn : n ≤ b.length) (hb : b.length ≤ 1099511627776) :
 Eff Tryz.prog 192 [.agg [.ptr 0 0], .ptr 1 0] b n [.cells 3 [rI v]] (fun _ => .tup []) (fun _ => [.cells 3 [rI v]]) (cstP v (b.drop n)) := by
 unfold cstP
 cases hx : intP (b.drop n) with
 | error e =>
  have hr := q8q b n hn hb hx
  refine q0c (by simp) ?_
  refine q1J fi192 (q0l mixed 4 _ ?_)
  with_reducible refine sxE ?_
  refine q7M [1, 2] mixed ?_
  refine aQ ?_
  refine q0j [0] (hr) rfl (by decide) ⟨rfl, rfl, trivial⟩ rfl rfl ?_ ?_
  · simp (maxSteps := 3000000) only [mgA, sig, q0Z, q1l, List.append_assoc, getA, getA0, setA, setA0, List.length_append, Nat.add_assoc, go_sem, ↓zA, ↓reduceIte, ↓reduceDIte] <;> try simp only [zB]
  refine rnE ?_
  refine aQ ?_
  refine q0j [] (q2E _ e (q3F hx)) rfl (by decide) trivial rfl rfl ?_ ?_
  · simp (maxSteps := 3000000) only [mgA, sig, q0Z, q1l, List.append_assoc, getA, getA0, setA, setA0, List.length_append, Nat.add_assoc, go_sem, ↓zA, ↓reduceIte, ↓reduceDIte] <;> try simp only [zB]
  refine rnE ?_
  refine z5g ?_
  with_reducible refine sxaE ?_; trivial
 | ok x =>
  obtain ⟨w, k⟩ := x
  have hr := q8s b n hn hb hx
  simp only
  by_cases hw : w = v
  · rw [if_pos hw]
    refine q0c (by simp) ?_
    refine q1J fi192 (q0l mixed 4 _ ?_)
    with_reducible refine sxE ?_
    refine q7M [1, 2] mixed ?_
    refine aQ ?_
    refine q0j [0] (hr) rfl (by decide) ⟨rfl, rfl, trivial⟩ rfl rfl ?_ ?_
    · simp (maxSteps := 3000000) only [mgA, sig, q0Z, q1l, List.append_assoc, getA, getA0, setA, setA0, List.length_append, Nat.add_assoc, go_sem, ↓zA, ↓reduceIte, ↓reduceDIte] <;> try simp only [zB]
    refine rnE ?_
    refine aQ ?_
    refine q0b (q3W _) ?_
    refine aQ ?_
    rw [decide_eq_true hw]
    refine q0b q2z ?_
    refine aQ ?_
    refine z8F ?_
    refine aQ ?_; trivial
  rw [if_neg hw]
  refine q0c (by simp) ?_
  refine q1J fi192 (q0l mixed 4 _ ?_)
  with_reducible refine sxE ?_
  refine q7M [1, 2] mixed ?_
  refine aQ ?_
  refine q0j [0] (hr) rfl (by decide) ⟨rfl, rfl, trivial⟩ rfl rfl ?_ ?_
  · simp (maxSteps := 3000000) only [mgA, sig, q0Z, q1l, List.append_assoc, getA, getA0, setA, setA0, List.length_append, Nat.add_assoc, go_sem, ↓zA, ↓reduceIte, ↓reduceDIte] <;> try simp only [zB]
  refine rnE ?_
  refine aQ ?_
  refine q0b (q3W _) ?_
  refine aQ ?_
  rw [decide_eq_false hw]
  refine q0j [] q9Y rfl (by decide) trivial rfl rfl ?_ ?_
  · simp (maxSteps := 3000000) only [mgA, sig, q0Z, q1l, List.append_assoc, getA, getA0, setA, setA0, List.length_append, Nat.add_assoc, go_sem, ↓zA, ↓reduceIte, ↓reduceDIte] <;> try simp only [zB]
  refine rnE ?_
  refine z5g ?_
  with_reducible refine sxaE ?_; trivial
theorem z8R (i : Nat) (hi : i ≤ 30) (v : Int) (b : List UInt8) (n : Nat) (hn : n ≤ b.length) (hb : b.length ≤ 1099511627776) :
 Eff Tryz.prog 142 [.agg [.ptr 0 0], rI i, rI v] b n [] (fun _ => .tup []) (fun _ => []) (needP i (cstP v) (b.drop n)) := by
 have hc : Cln [rI v] := q0d q0I
 have hg := j1t v (takeC (b.drop n)) 0 (Nat.zero_le _) (q0V hb)
 rw [List.drop_zero] at hg
 have hm := need1 192 i hi b n hn hb 3 _ hc (cstP v) z6g (fun _ => [rI v]) (fun _ => q0d q0I) hg
 cases hx : needP i (cstP v) (b.drop n) with
 | error e =>
  have hm' := q0w hm hx
  refine q0c (by simp) ?_
  refine rQ fi142 ?_
  refine effP [0, 2] (hm') ?_; trivial
 | ok x =>
  obtain ⟨u, k⟩ := x
  have hm' := q0q hm hx
  refine q0c (by simp) ?_
  refine rQ fi142 ?_
  refine eQ [0, 2] (hm') ?_; trivial
end Go.Proofs.YtcjehhejgimmdaaGreatDoor
set_option linter.unusedSectionVars false
namespace Go.Sx
open Go
variable [Ghost] {P : Program} {AQ : Ex → List SV → List SObj → Prop} {k0 : Nat} {k : List IT} {t : List SV} {H : List SObj}

theorem q6U {P : Program} {k : List It} {t' : List SV} (A A' G : List SObj) {ty : Ty} {xs : List ty.den} (hk : k0 ≤ A.length) (hA : A = A'.map (SObj.ren (shift A.length (A.length + G.length)))) (hb : belH (A.length + 1) A' = true) (hbt : SV.belL (A.length + 1) t' = true)
 (hl : leT (shift A.length (A.length + G.length)) t t') (hs : Sound P AQ ⟨k0, k, t', A' ++ [.row ty xs]⟩) : Sound P AQ ⟨k0, k, t, A ++ G ++ [.row ty xs]⟩ := by
 intro E r n C a h0 hd
 have hlen : A.length = A'.length := by have := congrArg List.length hA; rwa [List.length_map] at this
 have hsh : ∀ h, h < A.length → shift A.length (A.length + G.length) h = h := fun h hh => by unfold shift; rw [if_neg (by omega)]
 have hshn : shift A.length (A.length + G.length) A.length = A.length + G.length := by unfold shift; rw [if_pos rfl]
 have hd' : Den E (C.ren (shift A.length (A.length + G.length)) (A' ++ [SObj.row ty xs]).length) t' (A' ++ [.row ty xs]) a := by
  refine q8W h0.1 hd hl (by rw [List.length_append, ← hlen]; exact hbt) (fun h o ho _ => ?_) (q4U fun h o ho => ?_) (fun h h' o o' ho ho' _ _ e => ?_) (fun h hh => hsh h (Nat.lt_of_lt_of_le hh hk)) (by rw [List.length_append, ← hlen]; exact Nat.le_trans hk (Nat.le_add_right _ _)) (fun m hm0 hm => ?_)
  · rcases q0r ho with ⟨hh, ho⟩ | ⟨hh, rfl⟩
    · rw [hsh h (by omega), List.append_assoc, List.getElem?_append_left (by omega)]
      have := congrArg (fun l => l[h]?) hA
      simp only [List.getElem?_map, ho] at this
      exact this
    rw [hh, ← hlen, hshn, ← List.length_append, List.getElem?_append_right (Nat.le_refl _), Nat.sub_self]
    rfl
  · rcases q0r ho with ⟨hh, ho⟩ | ⟨hh, rfl⟩
    · rw [List.length_append, ← hlen]
      exact q2H hb ho
    rfl
  · have h1 := (List.getElem?_eq_some_iff.1 ho).1
    have h2 := (List.getElem?_eq_some_iff.1 ho').1
    rw [List.length_append, List.length_singleton] at h1 h2
    unfold shift at e
    split at e <;> split at e <;> omega
  have hm := hm
  have hpos : 0 < A.length := Nat.lt_of_lt_of_le hm0 (Nat.le_trans h0.1 hk)
  rw [List.append_assoc, List.getElem?_append_left hpos] at hm
  rw [List.getElem?_append_left (by omega)]
  have h1 := congrArg (fun l => l[0]?) hA
  simp only [List.getElem?_map, hm] at h1
  cases h2 : A'[0]? with
  | none => rw [h2] at h1; simp at h1
  | some o => rw [h2] at h1; cases o <;> simp [SObj.ren] at h1; rw [h1]
 exact hs E r n (C.ren (shift A.length (A.length + G.length)) (A' ++ [SObj.row ty xs]).length) a h0 hd'
theorem z1l (t' : List SV) (A A' G : List SObj) {ty : Ty} {xs : List ty.den} {td : List IT} (hp : plainT td = true) (hH : H = A ++ G ++ [.row ty xs]) (hk : k0 ≤ A.length) (hA : A = A'.map (SObj.ren (shift A.length (A.length + G.length)))) (hb : belH (A.length + 1) A' = true) (hbt : SV.belL (A.length + 1) t' = true)
 (hl : leT (shift A.length (A.length + G.length)) t t') (hs : SoundI P AQ ⟨k0, td, t', A' ++ [.row ty xs]⟩) : SoundI P AQ ⟨k0, td, t, H⟩ := by
 subst hH
 exact q0i (fun _ hr => q6U A A' G hk hA hb hbt hl (q0m hs hr)) hp
theorem z0d (slot n : Nat) (A A' G : List SObj) {ty : Ty} {xs : List ty.den} {td : List IT} (hp : plainT td = true) (hH : H = A ++ G ++ [.row ty xs]) (hk : k0 ≤ A.length) (hA : A = A'.map (SObj.ren (shift A.length (A.length + G.length)))) (hb : belH (A.length + 1) A' = true) (hbt : SV.belL (A.length + 1) (t.set slot (.bld A.length ty n)) = true)
 (hl : leT (shift A.length (A.length + G.length)) t (t.set slot (.bld A.length ty n))) (hs : SoundI P AQ ⟨k0, td, t.set slot (.bld A.length ty n), A' ++ [.row ty xs]⟩) : SoundI P AQ ⟨k0, td, t, H⟩ :=
 z1l _ A A' G hp hH hk hA hb hbt hl hs

def RowT (ty : Ty) (xs : List ty.den) (v : Value) : Out → List SObj → Prop := fun o H' => (xs = [] ∧ o = .ret (.tup [.raw (.slice none 0 0), .raw v]) ∧ H' = []) ∨ (o = .ret (.tup [.bld 0 ty xs.length, .raw v]) ∧ H' = [.row ty xs])
theorem z7F {ty : Ty} {xs : List ty.den} {v : Value} {H' : List SObj} {h n : Nat} (hH : H'[h]? = some (.row ty xs)) (hn : n = xs.length) : Weak 0 (RowT ty xs v) (.ret (.tup [.bld h ty n, .raw v])) H' := by
 subst hn
 exact ⟨fun _ => h, .tup [.bld 0 ty xs.length, .raw v], .tup [.bld 0 ty xs.length, .raw v], [.row ty xs], ⟨⟨rfl, trivial⟩, ⟨hH, trivial⟩, rfl, rfl, rfl, rfl, Nat.zero_le _, fun _ h0 => absurd h0 (Nat.lt_irrefl 0)⟩, .inl (.inl rfl), .inr ⟨rfl, rfl⟩⟩
theorem z3t {f : FuncId} {args : List SV} {ty : Ty} {xs : List ty.den} {v : Value} {d : Option Tmp} {td : List IT} (hp : VC P f args [] (RowT ty xs v)) (hb : SV.belL 0 args = true) (hargs : args = SV.renL (sig [] H.length) args)
 (h0 : xs = [] → SoundI P AQ ⟨k0, td, putT t d (.tup [.raw (.slice none 0 0), .raw v]), H⟩) (h : SoundI P AQ ⟨k0, td, putT t d (.tup [.bld H.length ty xs.length, .raw v]), H ++ [.row ty xs]⟩) : CallI P AQ f args d ⟨k0, td, t, H⟩ := by
 refine ⟨hp.1, VCall.g ?_⟩
 rw [hargs]
 refine VCall.fr (H0 := []) [] (by simp) trivial hb rfl hp.2 ?_
 rintro o H' _ (⟨e, rfl, rfl⟩ | ⟨rfl, rfl⟩)
 · simp only [mgA, List.map_nil, List.append_nil]; exact h0 e
 exact h
theorem z3s {G : List Nat} {f : FuncId} {args : List SV} {ty : Ty} {xs : List ty.den} {d : Option Tmp} {td : List IT} (hp : VC P f args [] (RowK ty xs)) (hb : SV.belL 0 args = true) (hargs : args = SV.renL (sig [] H.length) args) (hG : SameG G H (H ++ [.row ty xs]))
 (h0 : xs = [] → SoundI P AQ ⟨k0, td, putT t d (.raw (.slice none 0 0)), H⟩) (h : SoundI P AQ ⟨k0, td, putT t d (.bld H.length ty xs.length), H ++ [.row ty xs]⟩) : CallR P AQ G f args d ⟨k0, td, t, H⟩ := by
 refine ⟨hp.1, VCall.g ?_⟩
 rw [hargs]
 refine VCall.fr (H0 := []) [] (by simp) trivial hb rfl hp.2 ?_
 rintro o H' _ (⟨e, rfl, rfl⟩ | ⟨rfl, rfl⟩)
 · simp only [mgA, List.map_nil, List.append_nil]; exact ⟨fun _ => SameG.refl _ _, h0 e⟩
 exact ⟨fun _ => hG, h⟩
theorem VC.arg {f : FuncId} {args args' : List SV} {K : Out → List SObj → Prop} (h : VC P f args H K) (hl : SV.leVL args' args) : VC P f args' H K :=
 ⟨h.1, fun C vs hw ht hv => h.2 C vs hw ht (q4m hl hv)⟩
end Go.Sx
namespace Go.Proofs.YtcjehhejgimmdaaGreatDoor
open Go Go.Sx Go.Proofs
set_option maxRecDepth 100000
set_option maxHeartbeats 4000000
def effO {α : Type} (res : α → SV) : Except Nat (α × Nat) → Out
 | .ok (v, _) => .ret (res v)
 | .error _ => .pan wrongV
theorem q7y {P : Program} {α : Type} {f : FuncId} {args : List SV} {b : List UInt8} {n : Nat} {E : List SObj} {res : α → SV} {upd : α → List SObj} {x : Except Nat (α × Nat)} (hl : ∀ v, E.length ≤ (upd v).length) (h : VC P f args (rdr b n :: E) (SealO (effO res x) (effH b n E upd x))) : Eff P f args b n E res upd x := by
 cases x with
 | error e => exact q0c (by simp [effH]) h
 | ok y => obtain ⟨v, k⟩ := y; exact q0c (by simp [effH]; exact hl v) h
attribute [go_sem] effO effH
def datIn : PR Pre := bindP (needP 0 intP) fun a => bindP (needP 1 octP) fun c => retP ((a, c) : Pre)
def datP : PR Pre := inP 48 datIn
def dataP : PR (List Pre) := inP 48 (listP datP 16)
theorem j1z : ErrP datP := q6E (q2i (q2D q3H) fun _ => q2i (q2D q3H) fun _ => q7T)
theorem z2n : ErrP dataP := q6E (q6y j1z 16)
theorem j0M (b : List UInt8) (n : Nat) (hn : n ≤ b.length) (hb : b.length ≤ 1099511627776) :
 EffZ Tryz.prog 245 [.ptr 0 0] b n (posX b n) (fun l : List Pre => .isl PreT l) (dataP (b.drop n)) := by
 unfold dataP
 by_cases h : takeE 48 (b.drop n) = 0
 · have hs := q1P b n hn hb h
   have hc := q0V (n := n) hb
   rw [q9E h, z8N h]
   generalize takeC (b.drop n) = c at *
   generalize takeN (b.drop n) = N at *
   generalize hX : listP datP 16 c = X
   refine q6f ?_
   refine rQ fi245 ?_
   refine eQ [0] (hs) ?_
   refine eQ [1] (q5Z c 0) ?_
   refine q4G 2 PreT rfl rfl ?_
   with_reducible refine sxE ?_
   refine q1f (ι := Nat × List Pre × List SObj) (fun s => [(2, .bld (s.2.2.length + 2) PreT s.2.1.length)]) (fun s => [rdr b (n + N), rdr c s.1] ++ s.2.2 ++ [.row PreT s.2.1]) (fun s => 20 - s.2.1.length) (fun s => s.2.1.length ≤ 16 ∧ s.1 ≤ c.length ∧ X = tailP s.2.1 s.1 (listP datP (16 - s.2.1.length) (c.drop s.1))) (0, [], []) ⟨Nat.zero_le _, Nat.zero_le _, ?_⟩ rfl ?_ ?_
   · rw [List.drop_zero, q7I]; exact hX.symm
   · with_reducible refine sxE ?_; trivial
   rintro ⟨k, xs, G⟩ ⟨i1, i2, i3⟩
   dsimp only at i1 i2 i3
   refine z0d (ty := PreT) (xs := xs) 2 xs.length [rdr b (n + N), rdr c k] [rdr b (n + N), rdr c k] G rfl (by simp) (by simp) ?_ (by rfl) ?_ ?_ ?_
   · simp [SObj.ren, SV.ren, SV.renL]
   · rfl
   · with_reducible refine sxE ?_
     exact congrArg (fun q => SV.bld q PreT xs.length) (Nat.add_comm _ _)
   have hleft := q2C c k i2
   refine gQ ?_
   refine eQ [1] (hleft) ?_
   refine ⟨fun hp0 => ⟨fun h16 => ?_, fun h16 => ?_⟩, fun hp0 => ?_⟩
   · have h0 : 16 - xs.length = 0 := by omega
     rw [h0] at i3
     rw [i3.trans (q7n (by omega))]
     simp only [closeP]
     with_reducible refine sxE ?_
     rfl
   · have hkl : k < c.length := by omega
     have hlt : 0 < 16 - xs.length := by omega
     by_cases g0 : takeE 48 (c.drop k) = 0
     · have hs1 := q1P c k i2 hc g0
       have hq := q0V (n := k) hc
       have hD : datP (c.drop k) = closeP (takeC (c.drop k)).length (takeN (c.drop k)) (datIn (takeC (c.drop k))) := q9E g0
       have hM := q4N g0
       rw [List.length_drop] at hM
       generalize takeC (c.drop k) = s at *
       generalize takeN (c.drop k) = M at *
       unfold datIn at hD
       refine eQ [1] (hs1) ?_
       refine eQ [3] (q5Z s 0) ?_
       have e1 := z4V 0 (by omega) s 0 (Nat.zero_le _) hq
       rw [List.drop_zero] at e1
       cases h1 : needP 0 intP s with
       | error e =>
        rw [q2Q h1] at hD
        rw [i3.trans (q2Y hkl hlt hD)]
        have e1' := q5m e1 h1
        simp only [closeP]
        refine effP [3] (e1') ?_; trivial
       | ok y =>
        obtain ⟨v1, k1⟩ := y
        rw [q7Q h1] at hD
        have e1' := q5e e1 h1
        have f1 := q0f _ _ _ h1
        rw [Nat.zero_add] at e1'
        refine eQ [3] (e1') ?_
        have e2 := z8X 1 (by omega) s _ f1 hq
        cases h2 : needP 1 octP (s.drop k1) with
        | error e =>
         rw [q2Q h2] at hD
         rw [i3.trans (q2Y hkl hlt hD)]
         have e2' := q5m e2 h2
         simp only [closeP]
         refine effP [3] (e2') ?_; trivial
        | ok y =>
         obtain ⟨v2, k2⟩ := y
         rw [q3Q h2] at hD
         have e2' := q5e e2 h2
         have f2 := q0G q0f f1 h2
         simp only [shiftP, retP, closeP, Nat.add_zero] at hD
         refine eQ [3] (e2') ?_
         by_cases hm : k1 + k2 < s.length
         · rw [if_pos hm] at hD
           rw [i3.trans (q2Y hkl hlt hD)]
           simp only [closeP]
           refine effP [3] (z1E s _ hm) ?_
           rfl
         rw [if_neg hm] at hD
         have hX' := i3.trans (q5f hkl hlt hD)
         refine eQ [3] (z1F s (k1 + k2) (by omega)) ?_
         refine ⟨⟨by omega, by omega⟩, (k + M, xs ++ [(v1, v2)], [.dead, rdr s (k1 + k2), .row PreT [(v1, v2)]]), ⟨by simp; omega, by dsimp only; omega, ?_⟩, by simp; omega, rfl, ?_⟩
         · dsimp only
           rw [hX', List.length_append, List.length_singleton, Nat.sub_sub]
         with_reducible refine sxE ?_; trivial
     have hs1 := q3E c k i2 hc g0
     have hD : datP (c.drop k) = .error (takeE 48 (c.drop k)) := q9y g0
     rw [i3.trans (q2Y hkl hlt hD)]
     generalize takeE 48 (c.drop k) = e at *
     simp only [closeP]
     refine eQ [1] (hs1) ?_
     refine effP [] (q3y e g0) ?_; trivial
   rw [i3.trans (q6v (by omega))]
   simp only [closeP]
   rw [if_neg (by omega)]
   with_reducible refine sxE ?_
   exact ⟨⟨Nat.le_refl _, by omega⟩, List.take_of_length_le (Nat.le_refl _)⟩
 have hs := q3E b n hn hb h
 rw [q9y h, z8G h]
 generalize takeE 48 (b.drop n) = e at *
 refine q6f ?_
 refine rQ fi245 ?_
 refine eQ [0] (hs) ?_
 refine effP [] (q3y e h) ?_; trivial
theorem z9r (b : List UInt8) (n m e : Nat) (T2 T4 T5 T6 : TypeId) (y : Value) (K : List SObj → Prop)
 (h : ∀ G, K ([rdr b n, .cells T2 [.ptr 0 0], .cells T4 [.raw (.slice none 0 0)], .cells T5 [rI e], .cells T6 [rI n]] ++ G)) :
 DCall Tryz.prog 270 [.ptr 4 0, .ptr 1 0, .ptr 2 0, .ptr 3 0] (some (errV e)) [rdr b m, .cells T2 [.ptr 0 0], .cells T4 [.raw (.slice none 0 0)], .cells T5 [.raw y], .cells T6 [rI n]] K := by
 refine recE mixed fi270 ?_
 exact h _
theorem j1x (H : List SObj) (K : List SObj → Prop) (h : ∀ G, K (H ++ G)) : DCall Tryz.prog 270 [.ptr 4 0, .ptr 1 0, .ptr 2 0, .ptr 3 0] none H K := by
 refine recE mixed fi270 ?_
 simpa using h []
abbrev zDat : SV := .isl PreT []
theorem j0z (b : List UInt8) (n : Nat) (hn : n ≤ b.length) (hb : b.length ≤ 1099511627776) :
 EffR Tryz.prog 244 [.ptr 0 0, .fn 245 [] []] b n (fun l : List Pre => .isl PreT l) zDat (dataP (b.drop n)) := by
 have hk := j0M b n hn hb
 generalize dataP (b.drop n) = X at *
 cases X with
 | error e =>
  have hk' := z0N hk rfl
  refine q0c (by simp) ?_
  refine defE mixed fi244 ?_
  refine gQ ?_
  refine effP [0] (hk') ?_
  refine ⟨by simp, z9r b n _ e _ _ _ _ _ _ fun G => ?_⟩
  with_reducible refine sxE ?_; trivial
 | ok x =>
  obtain ⟨v, k⟩ := x
  have hk' := z0y hk rfl
  refine q0c (by simp) ?_
  refine defE mixed fi244 ?_
  refine gQ ?_
  refine eQ [0] (hk') ?_
  refine j1x _ _ fun G => ?_
  with_reducible refine sxE ?_; trivial
theorem z1M (b : List UInt8) (n : Nat) (hn : n ≤ b.length) (hb : b.length ≤ 1099511627776) :
 EffR Tryz.prog 195 [.ptr 0 0] b n (fun l : List Pre => .isl PreT l) zDat (dataP (b.drop n)) := by
 have hk := j0z b n hn hb
 generalize dataP (b.drop n) = X at *
 cases X with
 | error e =>
  have hk' := q5b hk rfl
  refine q0c (by simp) ?_
  refine rQ fi195 ?_
  refine eQ [0] (hk') ?_; trivial
 | ok x =>
  obtain ⟨v, k⟩ := x
  have hk' := q5r hk rfl
  refine q0c (by simp) ?_
  refine rQ fi195 ?_
  refine eQ [0] (hk') ?_; trivial
theorem z6i (v : List Pre) : PC Tryz.prog 194 [.isl PreT v, rI 0] (.isl PreT v) := by
 refine q0e rfl rfl ?_
 refine rQ fi194 ?_
 refine q0h (fun _ => ?_) fun h => absurd h (by decide)
 refine gQ ?_; trivial
theorem q9r (e : Nat) (he : e ≠ 0) : PE Tryz.prog 194 [zDat, rI e] [] (.pan wrongV) [] := by
 refine q0c (by simp) ?_
 refine rQ fi194 ?_
 refine q0h (fun h => absurd h (by simp; omega)) fun _ => ?_
 with_reducible refine sxE ?_; trivial
theorem j0R (b : List UInt8) (n : Nat) (hn : n ≤ b.length) (hb : b.length ≤ 1099511627776) (T : TypeId) :
 Eff Tryz.prog 193 [.agg [.ptr 0 0], .ptr 1 0] b n [.cells T [.raw (.slice none 0 0)]] (fun _ => .tup []) (fun l : List Pre => [.cells T [.isl PreT l]]) (dataP (b.drop n)) := by
 have hr := z1M b n hn hb
 cases hx : dataP (b.drop n) with
 | error e =>
  have hr' := q5b hr hx
  refine q0c (by simp) ?_
  refine rQ fi193 ?_
  refine eQ [0] (hr') ?_
  refine effP [] (q9r e (z2n _ _ hx)) ?_; trivial
 | ok x =>
  obtain ⟨l, q⟩ := x
  have hr' := q5r hr hx
  have hl16 : l.length ≤ 16 := (q4u (q5C q1R 16) _ l q (by rw [List.length_drop]; omega) hx).1
  refine q0c (by simp) ?_
  refine rQ fi193 ?_
  refine eQ [0] (hr') ?_
  refine q0a (z6i l) ?_
  refine gQ ?_
  refine q3S 1 0 PreT rfl rfl rfl ?_
  with_reducible refine sxE ?_
  refine q1f (ι := Nat × List SObj) (fun s => [(12, rI s.1)]) (fun s => [rdr b (n + q), .cells T [.bld (s.2.length + 3) PreT (l.take s.1).length], .cells 77 [.ptr 0 0]] ++ s.2 ++ [.row PreT (l.take s.1)]) (fun s => l.length - s.1) (fun s => s.1 ≤ l.length) (0, []) (Nat.zero_le _) rfl ?_ ?_
  · with_reducible refine sxE ?_; trivial
  rintro ⟨i, G⟩ hi
  dsimp only at hi
  have hwr := wsx i (by omega)
  have hln : (l.take i).length = i := List.length_take_of_le hi
  refine uQ 600 _ ?_
  simp (maxSteps := 3000000) only [hln, List.append_assoc, getA, getA0, setA, setA0, List.length_append, Nat.add_assoc, go_sem, ↓zA, ↓reduceIte, ↓reduceDIte] <;> try simp only [zB]
  refine ⟨fun hlt => ⟨⟨by omega, hlt⟩, ⟨by omega, by omega⟩, (i + 1, G ++ [.dead, .cells 140 [rI (l.getD i PreT.dflt).1, .isl .u8 (l.getD i PreT.dflt).2], .row PreT [l.getD i PreT.dflt]]), hlt, by dsimp only; omega, ?_, ?_⟩, fun hge => ?_⟩
  · have hst := q0z (d := PreT.dflt) hlt
    simp [hst, hln]
  · simp (maxSteps := 3000000) only [hwr, List.append_assoc, getA, getA0, setA, setA0, List.length_append, Nat.add_assoc, go_sem, ↓zA, ↓reduceIte, ↓reduceDIte] <;> try simp only [zB]
  obtain rfl : i = l.length := by omega
  rw [if_neg (by omega)]
  simp only [List.take_length]
  with_reducible refine sxE ?_
  omega
theorem j1X (i : Nat) (hi : i ≤ 30) (b : List UInt8) (n : Nat) (hn : n ≤ b.length) (hb : b.length ≤ 1099511627776) :
 Eff Tryz.prog 143 [.agg [.ptr 0 0], rI i] b n [] (fun l : List Pre => .isl PreT l) (fun _ => []) (dfltP [] i dataP (b.drop n)) := by
 have hc : Cln [.raw (.slice none 0 0)] := q0d q0I
 cases h : nextB i (b.drop n) with
 | false =>
  rw [q3c h]
  have hm := fun T => q3G 193 i hi b n hn T _ hc h
  refine q0c (by simp) ?_
  refine rQ fi143 ?_
  refine eQ [0, 2] (hm _) ?_
  rfl
 | true =>
  rw [q2s h]
  have hg := fun T => j0R (takeC (b.drop n)) 0 (Nat.zero_le _) (q0V hb) T
  simp only [List.drop_zero] at hg
  have hm := fun T => q4M 193 i hi b n hn hb T _ hc dataP q1G (fun l : List Pre => [.isl PreT l]) (fun v => q0O q0I) (hg T) h
  cases hx : inP (tagB i) dataP (b.drop n) with
  | error e =>
   have hm' := fun T => q0w (hm T) hx
   refine q0c (by simp) ?_
   refine rQ fi143 ?_
   refine effP [0, 2] (hm' _) ?_; trivial
  | ok x =>
   obtain ⟨v, k⟩ := x
   have hm' := fun T => q0q (hm T) hx
   refine q0c (by simp) ?_
   refine rQ fi143 ?_
   refine eQ [0, 2] (hm' _) ?_; trivial
theorem z0k (g : Nat) (p : PR (I64).den) (hp : FitsP p) (b : List UInt8) (n : Nat) (hn : n ≤ b.length) (hb : b.length ≤ 1099511627776) (T T2 : TypeId)
 (hok : ∀ m v q, p (b.drop m) = .ok (v, q) → (I64).ok v)
 (hg : ∀ m, m ≤ b.length → Eff Tryz.prog g [.agg [.ptr 0 0]] b m [] (fun x => rI x) (fun _ => []) (p (b.drop m))) :
 Eff Tryz.prog 246 [.agg [.ptr 0 0], .ptr 1 0, .ptr 2 0] b n [.cells T [.raw (.slice none 0 0)], .cells T2 [.fn g [] []]] (fun _ => .tup []) (fun l => [.cells T [.isl (I64) l], .cells T2 [.fn g [] []]]) (listP p 16 (b.drop n)) := by
 refine q7y (fun _ => Nat.le_refl _) ?_
 generalize hx : listP p 16 (b.drop n) = X
 refine rQ fi246 ?_
 refine q3S 1 0 (I64) rfl rfl rfl ?_
 with_reducible refine sxE ?_
 refine q1f (ι := Nat × List (I64).den × List SObj) (fun s => []) (fun s => [rdr b s.1, .cells T [.bld (s.2.2.length + 4) (I64) s.2.1.length], .cells T2 [.fn g [] []], .cells 77 [.ptr 0 0]] ++ s.2.2 ++ [.row (I64) s.2.1]) (fun s => 2 * 17 - s.2.1.length) (fun s => s.2.1.length ≤ 16 ∧ n ≤ s.1 ∧ s.1 ≤ b.length ∧ X = tailP s.2.1 (s.1 - n) (listP p (16 - s.2.1.length) (b.drop s.1))) (n, [], []) ⟨Nat.zero_le _, Nat.le_refl _, hn, ?_⟩ rfl ?_ ?_
 · rw [Nat.sub_self, q7I]; exact hx.symm
 · with_reducible refine sxE ?_; trivial
 rintro ⟨k, xs, G⟩ ⟨h1, h2, h3, h4⟩
 dsimp only at h1 h2 h3 h4
 have hleft := q2C b k h3
 refine aQ ?_
 refine q1s [0] hleft rfl (by decide) ⟨rfl, rfl, trivial⟩ rfl rfl ?_
 simp only [afterO, Out.ren, SV.ren, mgA, sig, SObj.ren, SV.renL, List.cons_append, List.nil_append, List.append_assoc, List.set_cons_zero, List.set_cons_succ, List.set, List.map, List.append_nil]
 refine aQ ?_
 refine ⟨fun hp0 => q0h (fun hmo => ?_) (fun hmo => ?_), fun hp0 => ?_⟩
 · have hlt : xs.length < 16 := by have := of_decide_eq_true hmo; omega
   have hkl : k < b.length := by omega
   refine uQ 1 _ ?_
   with_reducible refine sxaE ?_
   refine q1F [1, 2, 3] mixed ?_
   refine aQ ?_
   cases hpk : p (b.drop k) with
   | error e =>
    have hg' := q0w (hg k h3) hpk
    have hX := h4.trans (q2Y hkl (by omega) hpk)
    rw [hX]
    refine q0j [0] hg' rfl (by decide) ⟨rfl, rfl, trivial⟩ rfl rfl ?_ ?_
    · simp (maxSteps := 3000000) only [mgA, sig, q0Z, q1l, List.append_assoc, getA, getA0, setA, setA0, List.length_append, Nat.add_assoc, go_sem, ↓zA, ↓reduceIte, ↓reduceDIte] <;> try simp only [zB]
    simp only [afterR, Out.ren, SV.ren, mgA, sig, SObj.ren, SV.renL, List.cons_append, List.nil_append, List.append_assoc, List.set_cons_zero, List.set_cons_succ, List.set, List.map, List.append_nil, effO, effH]
    with_reducible refine sxaE ?_; trivial
   | ok y =>
    obtain ⟨v, m⟩ := y
    have hg' := q0q (hg k h3) hpk
    have hfit := hp _ _ _ hpk
    rw [List.length_drop] at hfit
    have hX := h4.trans (q5f hkl (by omega) hpk)
    refine q0j [0] hg' rfl (by decide) ⟨rfl, rfl, trivial⟩ rfl rfl ?_ ?_
    · simp (maxSteps := 3000000) only [mgA, sig, q0Z, q1l, List.append_assoc, getA, getA0, setA, setA0, List.length_append, Nat.add_assoc, go_sem, ↓zA, ↓reduceIte, ↓reduceDIte] <;> try simp only [zB]
    refine rnE ?_
    refine aQ ?_
    have hob := hok _ _ _ hpk
    skip
    refine ⟨⟨by omega, by omega⟩, (k + m, xs ++ [v], G ++ [.dead, .row (I64) [v]]), ⟨by simp; omega, by dsimp only; omega, by dsimp only; omega, ?_⟩, by simp; omega, ?_, ?_⟩
    · dsimp only
      rw [hX, List.length_append, List.length_singleton, Nat.sub_sub]
      congr 1
      omega
    · simp
    with_reducible refine sxaE ?_; trivial
 · have hlt : ¬ xs.length < 16 := by have := of_decide_eq_false hmo; omega
   have hm0 : 16 - xs.length = 0 := by omega
   rw [hm0] at h4
   have hX := h4.trans (q7n (by omega))
   rw [hX]
   simp (maxSteps := 3000000) only [effO, effH, List.append_assoc, getA, getA0, setA, setA0, List.length_append, Nat.add_assoc, go_sem, ↓zA, ↓reduceIte, ↓reduceDIte] <;> try simp only [zB]
 have hX := h4.trans (q6v (by omega))
 rw [hX]
 simp (maxSteps := 3000000) only [effO, effH, List.append_assoc, getA, getA0, setA, setA0, List.length_append, Nat.add_assoc, go_sem, ↓zA, ↓reduceIte, ↓reduceDIte] <;> try simp only [zB]
 rw [if_neg (by omega)]
 with_reducible refine sxE ?_
 refine ⟨congrArg (Value.int .i64) (by omega), ⟨Nat.le_refl _, by omega⟩, List.take_of_length_le (Nat.le_refl _)⟩
theorem q7i (g : Nat) (p : PR (I64).den) (hp : FitsP p) (b : List UInt8) (n : Nat) (hn : n ≤ b.length) (hb : b.length ≤ 1099511627776)
 (hok : ∀ c v q, c.length ≤ 1099511627776 → p c = .ok (v, q) → (I64).ok v)
 (hg : ∀ (c : List UInt8) m, m ≤ c.length → c.length ≤ 1099511627776 → Eff Tryz.prog g [.agg [.ptr 0 0]] c m [] (fun x => rI x) (fun _ => []) (p (c.drop m))) :
 Eff Tryz.prog 198 [.agg [.ptr 0 0], .fn g [] []] b n [] (fun l => .isl (I64) l) (fun _ => []) (inP 48 (listP p 16) (b.drop n)) := by
 have h1 := fun T T2 => z0k g p hp (takeC (b.drop n)) 0 (Nat.zero_le _) (q0V hb) T T2 (fun m v q h => hok _ v q (by have := q0V (n := n) hb; rw [List.length_drop]; omega) h) (fun m hm => hg _ m hm (q0V hb))
 simp only [List.drop_zero] at h1
 have hs := fun T T2 => sequence2 246 b n hn hb T T2 [.raw (.slice none 0 0)] [.fn g [] []] (q0d q0I) (z8P q0I) (listP p 16) (q7k hp 16) (fun l => [.isl (I64) l]) (fun _ => [.fn g [] []]) (fun _ => q0O q0I) (fun _ => z8P q0I) (h1 T T2)
 cases hx : inP 48 (listP p 16) (b.drop n) with
 | error e =>
  have hm' := fun T T2 => q0w (hs T T2) hx
  refine q0c (by simp) ?_
  refine rQ fi198 ?_
  refine effP [0, 3, 2] (hm' _ _) ?_; trivial
 | ok x =>
  obtain ⟨v, k⟩ := x
  have hm' := fun T T2 => q0q (hs T T2) hx
  refine q0c (by simp) ?_
  refine rQ fi198 ?_
  refine eQ [0, 3, 2] (hm' _ _) ?_; trivial
end Go.Proofs.YtcjehhejgimmdaaGreatDoor
