/- Contracts: the reference's reading of error messages. -/
import Derived.Test.YtkbbkhmffmfliaaGreatDoorP24
import Derived.Test.YtkbbkhmffmfliaaGreatDoorP22
import Derived.Test.YtkbbkhmffmfliaaGreatDoorP21
import Derived.Test.YtkbbkhmffmfliaaGreatDoorP20
import Derived.Test.YtkbbkhmffmfliaaGreatDoorP16
import Derived.Test.YtkbbkhmffmfliaaGreatDoorP17
set_option linter.all false
namespace Go.Proofs.YtkbbkhmffmfliaaGreatDoor
open Go Go.Sx Go.Proofs
set_option maxRecDepth 100000
set_option maxHeartbeats 4000000
def dgN (l : List (List UInt8)) (i : Nat) : List Pre := (l.take i).map datG
theorem z9l {l : List (List UInt8)} {i : Nat} (h : i < l.length) : dgN l (i + 1) = dgN l i ++ [datG (l.getD i (Ty.slice .u8).dflt)] := by unfold dgN; rw [q0r (d := (Ty.slice .u8).dflt) h]; simp
theorem j1q {l : List (List UInt8)} {i : Nat} (h : i ≤ l.length) : (dgN l i).length = i := by simp [dgN]; omega
theorem j1s (l : List (List UInt8)) : dgN l l.length = l.map datG := by unfold dgN; rw [List.take_length]
theorem q7Z (b : List UInt8) (hb : b.length ≤ 1048576) : PC Tryz.prog 109 [.isl .u8 b] (.isl PreT (preG b)) := by
 have hc := q1l b (by omega)
 have hl := q1d b
 have he := q3g (conR b) (by omega)
 have hm := q2X (conR b).length (conR b)
 have hle := q3p (conR b).length (conR b)
 have hd : preG b = (elsR (conR b).length (conR b)).map datG := rfl
 rw [hd]
 clear hd
 generalize elsR (conR b).length (conR b) = l at *
 rw [← j1s]
 refine q0e rfl rfl ?_
 refine rQ fi109 ?_
 refine q0a hc ?_
 refine gQ ?_
 refine q0a he ?_
 refine gQ ?_
 refine q1C 3 PreT (dgN l) (fun i => [(5, rI i)]) l.length (fun _ => True) rfl (by simp) (by simp [dgN]) rfl (fun i => rfl) ?_ fun i hi _ => ?_
 · with_reducible refine sxE ?_; trivial
 have hwr := wsx i (by omega)
 have hln := j1q hi
 refine gQ ?_
 refine ⟨fun hlt => ?_, fun hge => ?_⟩
 · have hmm := hm _ (q0K (d := (Ty.slice .u8).dflt) hlt)
   have hst := z9l hlt
   have hse : datG (l.getD i (Ty.slice .u8).dflt) = ((gIntR (itmR (l.getD i (Ty.slice .u8).dflt) 0) : Int), conR (itmR (l.getD i (Ty.slice .u8).dflt) 1)) := rfl
   refine ⟨⟨by omega, hlt⟩, ⟨by omega, hlt⟩, ?_⟩
   generalize l.getD i (Ty.slice .u8).dflt = x at *
   have q0 := q0E x 0
   have q1 := q0E x 1
   have q3 := q1d (itmR x 1)
   refine q0b (q1O x 0 (by omega) (by omega)) ?_
   refine gQ ?_
   refine q0b (q2C _ (by omega)) ?_
   refine gQ ?_
   refine q0b (q1O x 1 (by omega) (by omega)) ?_
   refine gQ ?_
   refine q0b (q8b _ (by omega)) ?_
   refine gQ ?_
   refine ⟨⟨by omega, by omega⟩, q0R [_, _] [] hlt trivial (by rw [hst, hse]; rfl) ?_⟩
   with_reducible refine sx3 hwr hst ?_; trivial
 obtain rfl : i = l.length := by omega
 refine ⟨⟨Nat.le_refl _, by omega⟩, List.take_of_length_le (Nat.le_refl _)⟩
theorem z3c (b : List UInt8) : (preG b).length ≤ b.length := by
 unfold preG; rw [List.length_map]; exact z7c b
theorem z7G (b : List UInt8) (hb : b.length ≤ 1048576) : PC Tryz.prog 37 [.isl .u8 b] (.isl PreT (preG b)) := by
 have hc := q7Z b hb
 have hl := z3c b
 generalize preG b = l at *
 refine q0e rfl rfl ?_
 refine rQ fi37 ?_
 refine q0a hc ?_
 refine gQ ?_
 refine q1C 3 PreT (fun i => l.take i) (fun i => [(5, rI i)]) l.length (fun _ => True) rfl (by simp) (by simp) rfl (fun i => rfl) ?_ fun i hi _ => ?_
 · with_reducible refine sxE ?_; trivial
 have hwr := wsx i (by omega)
 have hln : (l.take i).length = i := List.length_take_of_le hi
 refine gQ ?_
 refine ⟨fun hlt => ?_, fun hge => ?_⟩
 · have hst := q0r (d := PreT.dflt) hlt
   refine ⟨⟨by omega, hlt⟩, ⟨by omega, hlt⟩, ⟨by omega, by omega⟩, q0R [_, _] [] hlt trivial (by rw [hst]; rfl) ?_⟩
   with_reducible refine sx3 hwr hst ?_; trivial
 obtain rfl : i = l.length := by omega
 refine ⟨⟨Nat.le_refl _, by omega⟩, by rw [List.take_of_length_le (Nat.le_refl _), List.take_of_length_le (Nat.le_refl _)]⟩
theorem j1T {y : List UInt8} (h : y.length ≤ 1048576) : PreT.ok (datG y) := ⟨trivial, z5F (q2u 1 h)⟩
theorem z7E {y : List UInt8} (h : y.length ≤ 1048576) : (Ty.slice PreT).ok (preG y) := q8N (t := PreT) h fun _ hz => j1T hz
theorem q5R {y : List UInt8} (h : y.length ≤ 1048576) : (conR y).length ≤ 1048576 := Nat.le_trans (q1d y) h
theorem z4A (b : List UInt8) (hb : b.length ≤ 1048576) : PC Tryz.prog 110 [.isl .u8 b] (.agg (KeyT.cells (keyR b))) := by
 have hk := z6g b hb
 generalize keyR b = k at *
 refine q0e rfl rfl ?_
 refine rQ fi110 ?_
 refine q0a hk ?_
 refine gQ ?_; trivial
theorem z4f (b : List UInt8) (hb : b.length ≤ 1048576) : PC Tryz.prog 42 [.isl .u8 b] (.agg (TickT.cells (tickG b))) := by
 have hd : tickG b = (prnR (itmR (conR b) 1), keyR (itmR (conR b) 2)) := rfl
 rw [hd]
 have hc := q1l b (by omega)
 have hl := q1d b
 generalize conR b = s at *
 have q1 := q0E s 1
 have q2 := q0E s 2
 have i1 := q1O s 1 (by omega) (by omega)
 have i2 := q1O s 2 (by omega) (by omega)
 have c1 := q5i (itmR s 1) (by omega)
 have c2 := z4A (itmR s 2) (by omega)
 generalize prnR (itmR s 1) = p at *
 generalize keyR (itmR s 2) = k at *
 refine q0e rfl rfl ?_
 refine rQ fi42 ?_
 refine q0a hc ?_
 refine gQ ?_
 refine q0a (i1) ?_
 refine gQ ?_
 refine q0a (c1) ?_
 refine gQ ?_
 refine q0a (i2) ?_
 refine gQ ?_
 refine q0a (c2) ?_
 refine gQ ?_; trivial
theorem z2z {y : List UInt8} (h : y.length ≤ 1048576) : TickT.ok (tickG y) := ⟨z2i (q2u 1 (q5R h)), j1k (q2u 2 (q5R h))⟩
theorem j1A (b : List UInt8) (n : Nat) (hn : n ≤ b.length) (hb : b.length ≤ 1099511627776) :
 EffZ Tryz.prog 262 [.ptr 0 0] b n (posX b n) (fun v : Key => .agg (KeyT.cells v)) (keyP (b.drop n)) := by
 have ht := z5t b n hn hb
 refine q7C ?_
 generalize keyP (b.drop n) = X at *
 cases X with
 | error e =>
  have ht' := z1G ht rfl
  refine rQ fi262 ?_
  refine effP [0] (ht') ?_; trivial
 | ok x =>
  obtain ⟨v, k⟩ := x
  have ht' := z2c ht rfl
  refine rQ fi262 ?_
  refine eQ [0] (ht') ?_; trivial
theorem z8s (b : List UInt8) (n m e : Nat) (T2 T4 T5 T6 : TypeId) (y : Value) (K : List SObj → Prop)
 (h : ∀ G, K ([rdr b n, .cells T2 [.ptr 0 0], .cells T4 [rI 0, rI 0, .raw (.slice none 0 0)], .cells T5 [rI e], .cells T6 [rI n]] ++ G)) :
 DCall Tryz.prog 281 [.ptr 4 0, .ptr 1 0, .ptr 2 0, .ptr 3 0] (some (errV e)) [rdr b m, .cells T2 [.ptr 0 0], .cells T4 [rI 0, rI 0, .raw (.slice none 0 0)], .cells T5 [.raw y], .cells T6 [rI n]] K := by
 refine j3c fi281 ?_
 refine uQ 16 _ ?_
 with_reducible refine sxE ?_
 refine q1w [1, 4, 5, 999999] mixed ?_
 refine uQ 600 _ ?_
 simp (maxSteps := 3000000) only [List.getElem?_nil, go_sem, ↓zA, ↓reduceIte, ↓reduceDIte] <;> try simp only [zB]
 exact h _
theorem z8J (H : List SObj) (K : List SObj → Prop) (h : ∀ G, K (H ++ G)) : DCall Tryz.prog 281 [.ptr 4 0, .ptr 1 0, .ptr 2 0, .ptr 3 0] none H K := by
 refine recE mixed fi281 ?_
 simpa using h []
theorem j2j (b : List UInt8) (n : Nat) (hn : n ≤ b.length) (hb : b.length ≤ 1099511627776) :
 EffR Tryz.prog 261 [.ptr 0 0, .fn 262 [] []] b n (fun v : Key => .agg (KeyT.cells v)) zKey (keyP (b.drop n)) := by
 have hk := j1A b n hn hb
 generalize keyP (b.drop n) = X at *
 cases X with
 | error e =>
  have hk' := z1G hk rfl
  refine q0c (by simp) ?_
  refine defE mixed fi261 ?_
  refine gQ ?_
  refine effP [0] (hk') ?_
  refine ⟨by simp, z8s b n _ e _ _ _ _ _ _ fun G => ?_⟩
  with_reducible refine sxE ?_; trivial
 | ok x =>
  obtain ⟨v, k⟩ := x
  have hk' := z2c hk rfl
  refine q0c (by simp) ?_
  refine defE mixed fi261 ?_
  refine gQ ?_
  refine eQ [0] (hk') ?_
  refine z8J _ _ fun G => ?_
  with_reducible refine sxE ?_; trivial
theorem z9j (b : List UInt8) (n : Nat) (hn : n ≤ b.length) (hb : b.length ≤ 1099511627776) :
 EffR Tryz.prog 245 [.ptr 0 0] b n (fun v : Key => .agg (KeyT.cells v)) zKey (keyP (b.drop n)) := by
 have hk := j2j b n hn hb
 generalize keyP (b.drop n) = X at *
 cases X with
 | error e =>
  have hk' := q4c hk rfl
  refine q0c (by simp) ?_
  refine rQ fi245 ?_
  refine eQ [0] (hk') ?_; trivial
 | ok x =>
  obtain ⟨v, k⟩ := x
  have hk' := q3W hk rfl
  refine q0c (by simp) ?_
  refine rQ fi245 ?_
  refine eQ [0] (hk') ?_; trivial
theorem j2U (b : List UInt8) (n : Nat) (hn : n ≤ b.length) (hb : b.length ≤ 1099511627776) :
 EffR Tryz.prog 147 [.ptr 0 0] b n (fun v : Int => rI v) (rI 0) (intP (b.drop n)) := by
 cases hx : intP (b.drop n) with
 | error e => exact q7c b n hn hb hx
 | ok x =>
  obtain ⟨v, k⟩ := x
  exact q6x b n hn hb hx
theorem q2t (b : List UInt8) (n : Nat) : PE Tryz.prog 241 [.agg [.ptr 0 0], rB true] [rdr b n] (.ret (.tup [])) [rdr b n] := by
 refine q0c (by simp) ?_
 refine rQ fi241 ?_; trivial
theorem q4j (b : List UInt8) (n : Nat) : PE Tryz.prog 241 [.agg [.ptr 0 0], rB false] [rdr b n] (.pan (errV 6)) [rdr b n] := by
 refine q0c (by simp) ?_
 refine rQ fi241 ?_; trivial
theorem q8i (b : List UInt8) (n : Nat) (hn : n = b.length) : PE Tryz.prog 246 [.agg [.ptr 0 0]] [rdr b n] (.ret (.tup [])) [rdr b n] := by
 have hl := q2f b n (by omega)
 have hz : b.length - n = 0 := by omega
 rw [hz] at hl
 refine q0c (by simp) ?_
 refine q1L fi246 (q0n mixed 4 _ ?_)
 with_reducible refine sxE ?_
 refine q1w [1] mixed ?_
 refine gQ ?_
 refine q0f [0] hl rfl (by decide) ⟨rfl, rfl, trivial⟩ rfl rfl ?_ ?_
 · exact rsE
 refine rnE ?_
 refine gQ ?_
 refine q0f [0] (q2t b n) rfl (by decide) ⟨rfl, rfl, trivial⟩ rfl rfl ?_ ?_
 · exact rsE
 refine rnE ?_
 refine gQ ?_; trivial
theorem z0g (b : List UInt8) (n : Nat) (hn : n < b.length) : PE Tryz.prog 246 [.agg [.ptr 0 0]] [rdr b n] (.pan (errV 6)) [.dead] := by
 have hl := q2f b n (by omega)
 obtain ⟨q, hq⟩ : ∃ q, b.length - n = q + 1 := ⟨b.length - n - 1, by omega⟩
 rw [hq] at hl
 have hz : decide (((q + 1 : Nat) : Int) = 0) = false := decide_eq_false (by omega)
 refine q0c (by simp) ?_
 refine q1L fi246 (q0n mixed 4 _ ?_)
 with_reducible refine sxE ?_
 refine q2b [1] mixed ?_
 refine gQ ?_
 refine q0f [0] hl rfl (by decide) ⟨rfl, rfl, trivial⟩ rfl rfl ?_ ?_
 · exact rsE
 refine rnE ?_
 refine uQ 600 _ ?_
 with_reducible refine sx1 hz ?_
 refine q0f [0] (q4j b n) rfl (by decide) ⟨rfl, rfl, trivial⟩ rfl rfl ?_ ?_
 · exact rsE
 refine rnE ?_
 refine q6L ?_
 with_reducible refine sxE ?_; trivial
theorem q3N (b : List UInt8) (n : Nat) : PE Tryz.prog 257 [.ptr 0 0, rI 0] [rdr b n] (.ret (.ptr 0 0)) [rdr b n] := by
 refine q0c (by simp) ?_
 refine rQ fi257 ?_; trivial
theorem q5Q (e : Nat) (he : e ≠ 0) : PE Tryz.prog 257 [.raw (.pointer none), rI e] [] (.pan (errV e)) [] := by
 refine q0c (by simp) ?_
 refine rQ fi257 ?_
 exact ⟨fun _ => trivial, fun h => absurd (by omega) he⟩
def EffY (P : Program) {α : Type} (f : FuncId) (args : List SV) (b : List UInt8) (n : Nat) (res : α → SV) : Except Nat (α × Nat) → Prop
 | .ok (v, k) => PE P f args [rdr b n] (.ret (res v)) [rdr b (n + k)]
 | .error _ => ∃ e : Nat, PE P f args [rdr b n] (.pan (errV e)) [.dead]
theorem z1i {P : Program} {α : Type} {f : FuncId} {args : List SV} {b : List UInt8} {n : Nat} {res : α → SV} {x : Except Nat (α × Nat)} {v : α} {k : Nat} (h : EffY P f args b n res x) (hx : x = .ok (v, k)) : PE P f args [rdr b n] (.ret (res v)) [rdr b (n + k)] := by rw [hx] at h; exact h
theorem z1w {P : Program} {α : Type} {f : FuncId} {args : List SV} {b : List UInt8} {n : Nat} {res : α → SV} {x : Except Nat (α × Nat)} {e : Nat} (h : EffY P f args b n res x) (hx : x = .error e) : ∃ e : Nat, PE P f args [rdr b n] (.pan (errV e)) [.dead] := by rw [hx] at h; exact h
theorem z0b (v : Int) : PC Tryz.prog 278 [(fun v : Int => rI v) v, rI 0] ((fun v : Int => rI v) v) := by
 refine q0e rfl rfl ?_
 refine rQ fi278 ?_; trivial
theorem q9T (e : Nat) (he : e ≠ 0) : PE Tryz.prog 278 [(rI 0), rI e] [] (.pan (errV e)) [] := by
 refine q0c (by simp) ?_
 refine rQ fi278 ?_
 exact ⟨fun _ => trivial, fun h => absurd (by omega) he⟩
theorem z1W (g : Nat) (i : Nat) (hi : i ≤ 30) (b : List UInt8) (n : Nat) (hn : n ≤ b.length) (h : nextB i (b.drop n) = false) :
 PE Tryz.prog 258 [.agg [.ptr 0 0], rI i, .fn g [] []] [rdr b n] (.ret (.tup [(rI 0), rB false])) [rdr b n] := by
 have hs := q3H i hi b n hn h
 refine q0c (by simp) ?_
 refine rQ fi258 ?_
 refine eQ [0] (hs) ?_; trivial
theorem z1l (g : Nat) (i : Nat) (hi : i ≤ 30) (b : List UInt8) (n : Nat) (hn : n ≤ b.length) (hb : b.length ≤ 1099511627776) (p : PR (Int)) (hp : FitsP p) (hne : ErrP p)
 (hv : EffR Tryz.prog g [.ptr 0 0] (takeC (b.drop n)) 0 (fun v : Int => rI v) (rI 0) (p (takeC (b.drop n)))) (h : nextB i (b.drop n) = true) :
 EffX Tryz.prog 258 [.agg [.ptr 0 0], rI i, .fn g [] []] b n (fun v => .tup [(fun v : Int => rI v) v, rB true]) (inP (tagB i) p (b.drop n)) := by
 by_cases h1 : takeE (tagB i) (b.drop n) = 0
 · rw [q3P h1]
   have hs := q2h i hi b n hn hb h h1
   have hc := q0J (n := n) hb
   generalize takeC (b.drop n) = c at *
   generalize takeN (b.drop n) = N at *
   cases hx : p c with
   | error e =>
    have hr := q4c hv hx
    refine q0c (by simp) ?_
    refine rQ fi258 ?_
    refine eQ [0] (hs) ?_
    refine eQ [2] (hr) ?_
    refine effP [] (q9T e (hne _ _ hx)) ?_; trivial
   | ok x =>
    obtain ⟨v, m⟩ := x
    have hm := hp _ _ _ hx
    have hr := q3W hv hx
    rw [Nat.zero_add] at hr
    simp only [closeP]
    by_cases hml : m < c.length
    · rw [if_pos hml]
      refine q0c (by simp) ?_
      refine rQ fi258 ?_
      refine eQ [0] (hs) ?_
      refine eQ [2] (hr) ?_
      refine q0a (z0b v) ?_
      refine gQ ?_
      refine effP [2] (z0g c m hml) ?_
      rfl
    rw [if_neg hml]
    refine q0c (by simp) ?_
    refine rQ fi258 ?_
    refine eQ [0] (hs) ?_
    refine eQ [2] (hr) ?_
    refine q0a (z0b v) ?_
    refine gQ ?_
    refine eQ [2] (q8i c m (by omega)) ?_; trivial
 rw [q4A h1]
 have hs := q3y i hi b n hn hb h h1
 generalize takeE (tagB i) (b.drop n) = e at *
 refine q0c (by simp) ?_
 refine rQ fi258 ?_
 refine eQ [0] (hs) ?_
 exact ⟨fun _ => trivial, fun q => absurd (by omega) h1⟩
theorem z4g (g : Nat) (i : Nat) (hi : i ≤ 30) (b : List UInt8) (n : Nat) (hn : n ≤ b.length) (hb : b.length ≤ 1099511627776) (p : PR (Int)) (hp : FitsP p) (hne : ErrP p)
 (hv : EffR Tryz.prog g [.ptr 0 0] (takeC (b.drop n)) 0 (fun v : Int => rI v) (rI 0) (p (takeC (b.drop n)))) :
 EffY Tryz.prog 242 [.agg [.ptr 0 0], rI i, .fn g [] []] b n (fun v : Int => rI v) (needP i p (b.drop n)) := by
 cases h : nextB i (b.drop n) with
 | false =>
  rw [q2r h]
  have ho := z1W g i hi b n hn h
  refine ⟨6, q0c (by simp) ?_⟩
  refine rQ fi242 ?_
  refine eQ [0] (ho) ?_
  refine effP [0] (q4j b n) ?_
  rfl
 | true =>
  rw [q2s h]
  have ho := z1l g i hi b n hn hb p hp hne hv h
  cases hx : inP (tagB i) p (b.drop n) with
  | error e =>
   have ho' := q3D ho hx
   refine ⟨e, q0c (by simp) ?_⟩
   refine rQ fi242 ?_
   refine effP [0] (ho') ?_; trivial
  | ok x =>
   obtain ⟨v, k⟩ := x
   have ho' := q3F ho hx
   refine q0c (by simp) ?_
   refine rQ fi242 ?_
   refine eQ [0] (ho') ?_
   refine eQ [0] (q2t b (n + k)) ?_; trivial
theorem q8g (v : Prin) : PC Tryz.prog 279 [(fun p : Prin => .agg (PrinT.cells p)) v, rI 0] ((fun p : Prin => .agg (PrinT.cells p)) v) := by
 refine q0e rfl rfl ?_
 refine rQ fi279 ?_; trivial
theorem q9s (e : Nat) (he : e ≠ 0) : PE Tryz.prog 279 [zPrin, rI e] [] (.pan (errV e)) [] := by
 refine q0c (by simp) ?_
 refine rQ fi279 ?_
 exact ⟨fun _ => trivial, fun h => absurd (by omega) he⟩
theorem z0m (g : Nat) (i : Nat) (hi : i ≤ 30) (b : List UInt8) (n : Nat) (hn : n ≤ b.length) (h : nextB i (b.drop n) = false) :
 PE Tryz.prog 259 [.agg [.ptr 0 0], rI i, .fn g [] []] [rdr b n] (.ret (.tup [zPrin, rB false])) [rdr b n] := by
 have hs := q3H i hi b n hn h
 refine q0c (by simp) ?_
 refine rQ fi259 ?_
 refine eQ [0] (hs) ?_; trivial
theorem z0x (g : Nat) (i : Nat) (hi : i ≤ 30) (b : List UInt8) (n : Nat) (hn : n ≤ b.length) (hb : b.length ≤ 1099511627776) (p : PR (Prin)) (hp : FitsP p) (hne : ErrP p)
 (hv : EffR Tryz.prog g [.ptr 0 0] (takeC (b.drop n)) 0 (fun p : Prin => .agg (PrinT.cells p)) zPrin (p (takeC (b.drop n)))) (h : nextB i (b.drop n) = true) :
 EffX Tryz.prog 259 [.agg [.ptr 0 0], rI i, .fn g [] []] b n (fun v => .tup [(fun p : Prin => .agg (PrinT.cells p)) v, rB true]) (inP (tagB i) p (b.drop n)) := by
 by_cases h1 : takeE (tagB i) (b.drop n) = 0
 · rw [q3P h1]
   have hs := q2h i hi b n hn hb h h1
   have hc := q0J (n := n) hb
   generalize takeC (b.drop n) = c at *
   generalize takeN (b.drop n) = N at *
   cases hx : p c with
   | error e =>
    have hr := q4c hv hx
    refine q0c (by simp) ?_
    refine rQ fi259 ?_
    refine eQ [0] (hs) ?_
    refine eQ [3] (hr) ?_
    refine effP [] (q9s e (hne _ _ hx)) ?_; trivial
   | ok x =>
    obtain ⟨v, m⟩ := x
    have hm := hp _ _ _ hx
    have hr := q3W hv hx
    rw [Nat.zero_add] at hr
    simp only [closeP]
    by_cases hml : m < c.length
    · rw [if_pos hml]
      refine q0c (by simp) ?_
      refine rQ fi259 ?_
      refine eQ [0] (hs) ?_
      refine eQ [3] (hr) ?_
      refine q0a (q8g v) ?_
      refine gQ ?_
      refine effP [3] (z0g c m hml) ?_
      rfl
    rw [if_neg hml]
    refine q0c (by simp) ?_
    refine rQ fi259 ?_
    refine eQ [0] (hs) ?_
    refine eQ [3] (hr) ?_
    refine q0a (q8g v) ?_
    refine gQ ?_
    refine eQ [3] (q8i c m (by omega)) ?_; trivial
 rw [q4A h1]
 have hs := q3y i hi b n hn hb h h1
 generalize takeE (tagB i) (b.drop n) = e at *
 refine q0c (by simp) ?_
 refine rQ fi259 ?_
 refine eQ [0] (hs) ?_
 exact ⟨fun _ => trivial, fun q => absurd (by omega) h1⟩
theorem z1X (g : Nat) (i : Nat) (hi : i ≤ 30) (b : List UInt8) (n : Nat) (hn : n ≤ b.length) (hb : b.length ≤ 1099511627776) (p : PR (Prin)) (hp : FitsP p) (hne : ErrP p)
 (hv : EffR Tryz.prog g [.ptr 0 0] (takeC (b.drop n)) 0 (fun p : Prin => .agg (PrinT.cells p)) zPrin (p (takeC (b.drop n)))) :
 EffY Tryz.prog 243 [.agg [.ptr 0 0], rI i, .fn g [] []] b n (fun p : Prin => .agg (PrinT.cells p)) (needP i p (b.drop n)) := by
 cases h : nextB i (b.drop n) with
 | false =>
  rw [q2r h]
  have ho := z0m g i hi b n hn h
  refine ⟨6, q0c (by simp) ?_⟩
  refine rQ fi243 ?_
  refine eQ [0] (ho) ?_
  refine effP [0] (q4j b n) ?_
  rfl
 | true =>
  rw [q2s h]
  have ho := z0x g i hi b n hn hb p hp hne hv h
  cases hx : inP (tagB i) p (b.drop n) with
  | error e =>
   have ho' := q3D ho hx
   refine ⟨e, q0c (by simp) ?_⟩
   refine rQ fi243 ?_
   refine effP [0] (ho') ?_; trivial
  | ok x =>
   obtain ⟨v, k⟩ := x
   have ho' := q3F ho hx
   refine q0c (by simp) ?_
   refine rQ fi243 ?_
   refine eQ [0] (ho') ?_
   refine eQ [0] (q2t b (n + k)) ?_; trivial
theorem q8d (v : Key) : PC Tryz.prog 280 [(fun v : Key => .agg (KeyT.cells v)) v, rI 0] ((fun v : Key => .agg (KeyT.cells v)) v) := by
 refine q0e rfl rfl ?_
 refine rQ fi280 ?_; trivial
theorem q9t (e : Nat) (he : e ≠ 0) : PE Tryz.prog 280 [zKey, rI e] [] (.pan (errV e)) [] := by
 refine q0c (by simp) ?_
 refine rQ fi280 ?_
 exact ⟨fun _ => trivial, fun h => absurd (by omega) he⟩
theorem z0s (g : Nat) (i : Nat) (hi : i ≤ 30) (b : List UInt8) (n : Nat) (hn : n ≤ b.length) (h : nextB i (b.drop n) = false) :
 PE Tryz.prog 260 [.agg [.ptr 0 0], rI i, .fn g [] []] [rdr b n] (.ret (.tup [zKey, rB false])) [rdr b n] := by
 have hs := q3H i hi b n hn h
 refine q0c (by simp) ?_
 refine rQ fi260 ?_
 refine eQ [0] (hs) ?_; trivial
theorem z0W (g : Nat) (i : Nat) (hi : i ≤ 30) (b : List UInt8) (n : Nat) (hn : n ≤ b.length) (hb : b.length ≤ 1099511627776) (p : PR (Key)) (hp : FitsP p) (hne : ErrP p)
 (hv : EffR Tryz.prog g [.ptr 0 0] (takeC (b.drop n)) 0 (fun v : Key => .agg (KeyT.cells v)) zKey (p (takeC (b.drop n)))) (h : nextB i (b.drop n) = true) :
 EffX Tryz.prog 260 [.agg [.ptr 0 0], rI i, .fn g [] []] b n (fun v => .tup [(fun v : Key => .agg (KeyT.cells v)) v, rB true]) (inP (tagB i) p (b.drop n)) := by
 by_cases h1 : takeE (tagB i) (b.drop n) = 0
 · rw [q3P h1]
   have hs := q2h i hi b n hn hb h h1
   have hc := q0J (n := n) hb
   generalize takeC (b.drop n) = c at *
   generalize takeN (b.drop n) = N at *
   cases hx : p c with
   | error e =>
    have hr := q4c hv hx
    refine q0c (by simp) ?_
    refine rQ fi260 ?_
    refine eQ [0] (hs) ?_
    refine eQ [3] (hr) ?_
    refine effP [] (q9t e (hne _ _ hx)) ?_; trivial
   | ok x =>
    obtain ⟨v, m⟩ := x
    have hm := hp _ _ _ hx
    have hr := q3W hv hx
    rw [Nat.zero_add] at hr
    simp only [closeP]
    by_cases hml : m < c.length
    · rw [if_pos hml]
      refine q0c (by simp) ?_
      refine rQ fi260 ?_
      refine eQ [0] (hs) ?_
      refine eQ [3] (hr) ?_
      refine q0a (q8d v) ?_
      refine gQ ?_
      refine effP [3] (z0g c m hml) ?_
      rfl
    rw [if_neg hml]
    refine q0c (by simp) ?_
    refine rQ fi260 ?_
    refine eQ [0] (hs) ?_
    refine eQ [3] (hr) ?_
    refine q0a (q8d v) ?_
    refine gQ ?_
    refine eQ [3] (q8i c m (by omega)) ?_; trivial
 rw [q4A h1]
 have hs := q3y i hi b n hn hb h h1
 generalize takeE (tagB i) (b.drop n) = e at *
 refine q0c (by simp) ?_
 refine rQ fi260 ?_
 refine eQ [0] (hs) ?_
 exact ⟨fun _ => trivial, fun q => absurd (by omega) h1⟩
theorem z2d (g : Nat) (i : Nat) (hi : i ≤ 30) (b : List UInt8) (n : Nat) (hn : n ≤ b.length) (hb : b.length ≤ 1099511627776) (p : PR (Key)) (hp : FitsP p) (hne : ErrP p)
 (hv : EffR Tryz.prog g [.ptr 0 0] (takeC (b.drop n)) 0 (fun v : Key => .agg (KeyT.cells v)) zKey (p (takeC (b.drop n)))) :
 EffY Tryz.prog 244 [.agg [.ptr 0 0], rI i, .fn g [] []] b n (fun v : Key => .agg (KeyT.cells v)) (needP i p (b.drop n)) := by
 cases h : nextB i (b.drop n) with
 | false =>
  rw [q2r h]
  have ho := z0s g i hi b n hn h
  refine ⟨6, q0c (by simp) ?_⟩
  refine rQ fi244 ?_
  refine eQ [0] (ho) ?_
  refine effP [0] (q4j b n) ?_
  rfl
 | true =>
  rw [q2s h]
  have ho := z0W g i hi b n hn hb p hp hne hv h
  cases hx : inP (tagB i) p (b.drop n) with
  | error e =>
   have ho' := q3D ho hx
   refine ⟨e, q0c (by simp) ?_⟩
   refine rQ fi244 ?_
   refine effP [0] (ho') ?_; trivial
  | ok x =>
   obtain ⟨v, k⟩ := x
   have ho' := q3F ho hx
   refine q0c (by simp) ?_
   refine rQ fi244 ?_
   refine eQ [0] (ho') ?_
   refine eQ [0] (q2t b (n + k)) ?_; trivial
theorem j1R (b : List UInt8) (n : Nat) (hn : n ≤ b.length) (hb : b.length ≤ 1099511627776) (h1 : takeE (appB 1) (b.drop n) = 0) (h2 : takeE 48 (takeC (b.drop n)) = 0) (h3 : takeN (takeC (b.drop n)) = (takeC (b.drop n)).length) :
 PE Tryz.prog 240 [.agg [.ptr 0 0], rI 1] [rdr b n] (.ret (.agg [.ptr 5 0])) [rdr b (n + takeN (b.drop n)), .dead, .dead, .dead, .dead, rdr (takeC (takeC (b.drop n))) 0] := by
 have hs := q6O 1 (by omega) b n hn hb h1
 have hc := q0J (n := n) hb
 generalize takeC (b.drop n) = c at *
 generalize takeN (b.drop n) = N at *
 have hq := q1P c 0 (Nat.zero_le _) hc (by rw [List.drop_zero]; exact h2)
 rw [List.drop_zero, Nat.zero_add, h3] at hq
 refine q0c (by simp) ?_
 refine rQ fi240 ?_
 refine eQ [0] (hs) ?_
 refine eQ [3] (q3N c 0) ?_
 refine eQ [3] (hq) ?_
 refine eQ [5] (q3N (takeC c) 0) ?_
 refine eQ [3] (q8i c c.length rfl) ?_; trivial
theorem j0J (b : List UInt8) (n : Nat) (hn : n ≤ b.length) (hb : b.length ≤ 1099511627776) (h : ¬ (takeE (appB 1) (b.drop n) = 0 ∧ takeE 48 (takeC (b.drop n)) = 0 ∧ takeN (takeC (b.drop n)) = (takeC (b.drop n)).length)) :
 ∃ e m : Nat, PE Tryz.prog 240 [.agg [.ptr 0 0], rI 1] [rdr b n] (.pan (errV e)) [rdr b m] := by
 by_cases h1 : takeE (appB 1) (b.drop n) = 0
 · have hs := q6O 1 (by omega) b n hn hb h1
   have hc := q0J (n := n) hb
   generalize takeC (b.drop n) = c at *
   generalize takeN (b.drop n) = N at *
   by_cases h2 : takeE 48 c = 0
   · have hq := q1P c 0 (Nat.zero_le _) hc (by rw [List.drop_zero]; exact h2)
     have hN := q3x h2
     have hlt : takeN c < c.length := by
      rcases Nat.lt_or_ge (takeN c) c.length with g | g
      · exact g
      exact absurd ⟨h1, h2, by omega⟩ h
     rw [List.drop_zero, Nat.zero_add] at hq
     refine ⟨6, n + N, q0c (by simp) ?_⟩
     refine rQ fi240 ?_
     refine eQ [0] (hs) ?_
     refine eQ [3] (q3N c 0) ?_
     refine eQ [3] (hq) ?_
     refine eQ [5] (q3N (takeC c) 0) ?_
     refine effP [3] (z0g c (takeN c) hlt) ?_
     rfl
   have hq := q3G c 0 (Nat.zero_le _) hc (by rw [List.drop_zero]; exact h2)
   rw [List.drop_zero] at hq
   refine ⟨takeE 48 c, n + N, q0c (by simp) ?_⟩
   generalize takeE 48 c = e at *
   refine rQ fi240 ?_
   refine eQ [0] (hs) ?_
   refine eQ [3] (q3N c 0) ?_
   refine eQ [3] (hq) ?_
   refine effP [] (q5Q e h2) ?_; trivial
 have hs := z5m 1 (by omega) b n hn hb h1
 refine ⟨takeE (appB 1) (b.drop n), n, q0c (by simp) ?_⟩
 generalize takeE (appB 1) (b.drop n) = e at *
 refine rQ fi240 ?_
 refine eQ [0] (hs) ?_
 refine effP [] (q5Q e h1) ?_; trivial
theorem q8H {v : Int} {i : Nat} {r : List UInt8} : needP i (cstP v) r = match needP i intP r with
 | .ok (w, k) => if w = v then .ok ((), k) else .error 6
 | .error e => .error e := by
 cases h : nextB i r with
 | false => rw [q2r h, q2r h]
 | true =>
  rw [q2s h, q2s h]
  by_cases h1 : takeE (tagB i) r = 0
  · rw [q3P h1, q3P h1]
    unfold cstP
    cases hx : intP (takeC r) with
    | error e => rfl
    | ok y =>
     obtain ⟨w, k⟩ := y
     simp only
     by_cases hw : w = v
     · rw [if_pos hw]
       simp only [closeP]
       by_cases hm : k < (takeC r).length
       · rw [if_pos hm, if_pos hm]
       rw [if_neg hm, if_neg hm]; simp only; rw [if_pos hw]
     rw [if_neg hw]
     simp only [closeP]
     by_cases hm : k < (takeC r).length
     · rw [if_pos hm]
     rw [if_neg hm]; simp only; rw [if_neg hw]
  rw [q4A h1, q4A h1]
def EffV (f : FuncId) (args : List SV) (b : List UInt8) (n : Nat) : Except Nat (Tick × Nat) → Prop
 | .ok (t, k) => PE Tryz.prog f args [rdr b n] (.ret (.agg (TickT.cells t))) [rdr b (n + k)]
 | .error _ => ∃ e m : Nat, PE Tryz.prog f args [rdr b n] (.pan (errV e)) [rdr b m]
theorem j1c {r : List UInt8} (h : ¬ (takeE (appB 1) r = 0 ∧ takeE 48 (takeC r) = 0 ∧ takeN (takeC r) = (takeC r).length)) : ∃ e, tickP r = .error e := by
 unfold tickP
 by_cases h1 : takeE (appB 1) r = 0
 · rw [q3P h1]
   by_cases h2 : takeE 48 (takeC r) = 0
   · rw [q3P h2]
     have hN := q3x h2
     have hlt : takeN (takeC r) < (takeC r).length := by
      rcases Nat.lt_or_ge (takeN (takeC r)) (takeC r).length with g | g
      · exact g
      exact absurd ⟨h1, h2, by omega⟩ h
     cases tickIn (takeC (takeC r)) with
     | error e => exact ⟨e, rfl⟩
     | ok y =>
      obtain ⟨v, k⟩ := y
      simp only [closeP]
      by_cases hm : k < (takeC (takeC r)).length
      · rw [if_pos hm]; exact ⟨6, rfl⟩
      rw [if_neg hm]; simp only; rw [if_pos hlt]; exact ⟨6, rfl⟩
   rw [q4A h2]; exact ⟨_, rfl⟩
 rw [q4A h1]; exact ⟨_, rfl⟩
theorem j1o {r : List UInt8} (h1 : takeE (appB 1) r = 0) (h2 : takeE 48 (takeC r) = 0) (h3 : takeN (takeC r) = (takeC r).length) : tickP r = chkP vTick (closeP (takeC (takeC r)).length (takeN r) (tickIn (takeC (takeC r)))) := by
 unfold tickP
 rw [q3P h1, q3P h2]
 cases tickIn (takeC (takeC r)) with
 | error e => rfl
 | ok y =>
  obtain ⟨v, k⟩ := y
  simp only [closeP]
  by_cases hm : k < (takeC (takeC r)).length
  · rw [if_pos hm, if_pos hm]
  rw [if_neg hm, if_neg hm]; simp only; rw [if_neg (by omega)]
theorem z8h (b : List UInt8) (n : Nat) (hn : n ≤ b.length) (hb : b.length ≤ 1099511627776) : EffV 215 [.agg [.ptr 0 0]] b n (tickP (b.drop n)) := by
 by_cases h : takeE (appB 1) (b.drop n) = 0 ∧ takeE 48 (takeC (b.drop n)) = 0 ∧ takeN (takeC (b.drop n)) = (takeC (b.drop n)).length
 rotate_left
 · obtain ⟨e, he⟩ := j1c h
   rw [he]
   obtain ⟨e', m, hs⟩ := j0J b n hn hb h
   refine ⟨e', m, q0c (by simp) ?_⟩
   refine rQ fi215 ?_
   refine effP [0] (hs) ?_; trivial
 obtain ⟨h1, h2, h3⟩ := h
 have hs := j1R b n hn hb h1 h2 h3
 rw [j1o h1 h2 h3]
 have hc : (takeC (takeC (b.drop n))).length ≤ 1099511627776 := Nat.le_trans (q3e _) (q0J hb)
 clear h1 h2 h3
 generalize takeC (takeC (b.drop n)) = c at *
 generalize takeN (b.drop n) = N at *
 have c1 := z4g 147 0 (by omega) c 0 (Nat.zero_le _) hc intP q1Z q3w (j2U (takeC (c.drop 0)) 0 (Nat.zero_le _) (q0J hc))
 rw [List.drop_zero] at c1
 unfold tickIn
 cases h1 : needP 0 intP c with
 | error e =>
  have hx : needP 0 (cstP 5) c = .error e := by rw [q8H, h1]
  rw [q1R hx]
  simp only [closeP, chkP]
  obtain ⟨e', c1'⟩ := z1w c1 h1
  refine ⟨e', n + N, q0c (by simp) ?_⟩
  refine rQ fi215 ?_
  refine q0I [0] (hs) rfl (by decide) (by repeat first | exact trivial | exact rfl | refine And.intro ?_ ?_) rfl rfl ?_
  simp only [afterO, Out.ren, SV.ren, mgA, sig, SObj.ren, SV.renL, List.set, List.map, List.append_nil]
  refine uQ 4 _ ?_
  with_reducible refine sxE ?_
  refine q2b [8] mixed ?_
  refine gQ ?_
  refine q0f [7] (c1') rfl (by decide) ⟨rfl, rfl, trivial⟩ rfl rfl ?_ ?_
  · exact rsE
  refine rnE ?_
  refine q6L ?_
  with_reducible refine sxE ?_; trivial
 | ok x =>
  obtain ⟨v1, k1⟩ := x
  have c1' := z1i c1 h1
  have f1 : k1 ≤ c.length := q0o _ _ _ h1
  rw [Nat.zero_add] at c1'
  by_cases hv : v1 = 5
  rotate_left
  · have hx : needP 0 (cstP 5) c = .error 6 := by rw [q8H, h1]; simp only; rw [if_neg hv]
    rw [q1R hx]
    simp only [closeP, chkP]
    refine ⟨6, n + N, q0c (by simp) ?_⟩
    refine rQ fi215 ?_
    refine q0I [0] (hs) rfl (by decide) (by repeat first | exact trivial | exact rfl | refine And.intro ?_ ?_) rfl rfl ?_
    simp only [afterO, Out.ren, SV.ren, mgA, sig, SObj.ren, SV.renL, List.set, List.map, List.append_nil]
    refine uQ 4 _ ?_
    with_reducible refine sxE ?_
    refine q2b [8] mixed ?_
    refine gQ ?_
    refine q0f [7] (c1') rfl (by decide) ⟨rfl, rfl, trivial⟩ rfl rfl ?_ ?_
    · exact rsE
    refine rnE ?_
    refine gQ ?_
    rw [decide_eq_false hv]
    refine q0f [7] (q4j c k1) rfl (by decide) ⟨rfl, rfl, trivial⟩ rfl rfl ?_ ?_
    · exact rsE
    refine rnE ?_
    refine q6L ?_
    with_reducible refine sxE ?_
    rfl
  have hx : needP 0 (cstP 5) c = .ok ((), k1) := by rw [q8H, h1]; simp only; rw [if_pos hv]
  rw [q6m hx]
  have c2 := z1X 204 1 (by omega) c k1 f1 hc nameP q8u z3R (z9U (takeC (c.drop k1)) 0 (Nat.zero_le _) (q0J hc))
  cases h2 : needP 1 nameP (c.drop k1) with
  | error e =>
   rw [q1R h2]
   simp only [shiftP, closeP, chkP]
   obtain ⟨e', c2'⟩ := z1w c2 h2
   refine ⟨e', n + N, q0c (by simp) ?_⟩
   refine rQ fi215 ?_
   refine q0I [0] (hs) rfl (by decide) (by repeat first | exact trivial | exact rfl | refine And.intro ?_ ?_) rfl rfl ?_
   simp only [afterO, Out.ren, SV.ren, mgA, sig, SObj.ren, SV.renL, List.set, List.map, List.append_nil]
   refine uQ 4 _ ?_
   with_reducible refine sxE ?_
   refine q2b [8] mixed ?_
   refine gQ ?_
   refine q0f [7] (c1') rfl (by decide) ⟨rfl, rfl, trivial⟩ rfl rfl ?_ ?_
   · exact rsE
   refine rnE ?_
   refine gQ ?_
   rw [decide_eq_true hv]
   refine q0f [7] (q2t c k1) rfl (by decide) ⟨rfl, rfl, trivial⟩ rfl rfl ?_ ?_
   · exact rsE
   refine rnE ?_
   refine gQ ?_
   refine q5W ?_
   refine gQ ?_
   refine effP [7] (c2') ?_; trivial
  | ok y =>
   obtain ⟨v2, k2⟩ := y
   rw [q3d h2]
   have c2' := z1i c2 h2
   have f2 := q1a q0o f1 h2
   have c3 := z2d 245 2 (by omega) c (k1 + k2) f2 hc keyP q1E j2f (z9j (takeC (c.drop (k1 + k2))) 0 (Nat.zero_le _) (q0J hc))
   cases h3 : needP 2 keyP (c.drop (k1 + k2)) with
   | error e =>
    rw [q1R h3]
    simp only [shiftP, closeP, chkP]
    obtain ⟨e', c3'⟩ := z1w c3 h3
    refine ⟨e', n + N, q0c (by simp) ?_⟩
    refine rQ fi215 ?_
    refine q0I [0] (hs) rfl (by decide) (by repeat first | exact trivial | exact rfl | refine And.intro ?_ ?_) rfl rfl ?_
    simp only [afterO, Out.ren, SV.ren, mgA, sig, SObj.ren, SV.renL, List.set, List.map, List.append_nil]
    refine uQ 4 _ ?_
    with_reducible refine sxE ?_
    refine q2b [8] mixed ?_
    refine gQ ?_
    refine q0f [7] (c1') rfl (by decide) ⟨rfl, rfl, trivial⟩ rfl rfl ?_ ?_
    · exact rsE
    refine rnE ?_
    refine gQ ?_
    rw [decide_eq_true hv]
    refine q0f [7] (q2t c k1) rfl (by decide) ⟨rfl, rfl, trivial⟩ rfl rfl ?_ ?_
    · exact rsE
    refine rnE ?_
    refine gQ ?_
    refine q5W ?_
    refine gQ ?_
    refine eQ [7] (c2') ?_
    refine effP [7] (c3') ?_; trivial
   | ok z =>
    obtain ⟨v3, k3⟩ := z
    rw [q3d h3]
    have c3' := z1i c3 h3
    have f3 := q1a q0o f2 h3
    simp only [shiftP, retP, closeP]
    by_cases hm : k1 + k2 + k3 < c.length
    · rw [if_pos (by omega)]
      simp only [chkP]
      refine ⟨6, n + N, q0c (by simp) ?_⟩
      refine rQ fi215 ?_
      refine q0I [0] (hs) rfl (by decide) (by repeat first | exact trivial | exact rfl | refine And.intro ?_ ?_) rfl rfl ?_
      simp only [afterO, Out.ren, SV.ren, mgA, sig, SObj.ren, SV.renL, List.set, List.map, List.append_nil]
      refine uQ 4 _ ?_
      with_reducible refine sxE ?_
      refine q2b [8] mixed ?_
      refine gQ ?_
      refine q0f [7] (c1') rfl (by decide) ⟨rfl, rfl, trivial⟩ rfl rfl ?_ ?_
      · exact rsE
      refine rnE ?_
      refine gQ ?_
      rw [decide_eq_true hv]
      refine q0f [7] (q2t c k1) rfl (by decide) ⟨rfl, rfl, trivial⟩ rfl rfl ?_ ?_
      · exact rsE
      refine rnE ?_
      refine gQ ?_
      refine q5W ?_
      refine gQ ?_
      refine eQ [7] (c2') ?_
      refine eQ [7] (c3') ?_
      refine effP [7] (z0g c (k1 + k2 + k3) hm) ?_
      rfl
    rw [if_neg (by omega)]
    replace hm : k1 + k2 + k3 = c.length := by omega
    have hV := q9c (v2, v3) ⟨q1J q6n (c.drop k1) v2 k2 (by rw [List.length_drop]; omega) h2, q1J z4K (c.drop (k1 + k2)) v3 k3 (by rw [List.length_drop]; omega) h3⟩
    simp only [chkP]
    cases hv5 : vTick (v2, v3) with
    | false =>
     rw [if_neg (by decide)]
     refine ⟨6, n + N, q0c (by simp) ?_⟩
     refine rQ fi215 ?_
     refine q0I [0] (hs) rfl (by decide) (by repeat first | exact trivial | exact rfl | refine And.intro ?_ ?_) rfl rfl ?_
     simp only [afterO, Out.ren, SV.ren, mgA, sig, SObj.ren, SV.renL, List.set, List.map, List.append_nil]
     refine uQ 4 _ ?_
     with_reducible refine sxE ?_
     refine q2b [8] mixed ?_
     refine gQ ?_
     refine q0f [7] (c1') rfl (by decide) ⟨rfl, rfl, trivial⟩ rfl rfl ?_ ?_
     · exact rsE
     refine rnE ?_
     refine gQ ?_
     rw [decide_eq_true hv]
     refine q0f [7] (q2t c k1) rfl (by decide) ⟨rfl, rfl, trivial⟩ rfl rfl ?_ ?_
     · exact rsE
     refine rnE ?_
     refine gQ ?_
     refine q5W ?_
     refine gQ ?_
     refine eQ [7] (c2') ?_
     refine eQ [7] (c3') ?_
     refine q0I [7] (q8i c (k1 + k2 + k3) hm) rfl (by decide) (by repeat first | exact trivial | exact rfl | refine And.intro ?_ ?_) rfl rfl ?_
     simp only [afterO, Out.ren, SV.ren, mgA, sig, SObj.ren, SV.renL, List.set, List.map, List.append_nil]
     refine uQ 2 _ ?_
     with_reducible refine sxE ?_
     refine q2b [8, 9] mixed ?_
     refine gQ ?_
     refine q0b hV ?_
     refine gQ ?_
     rw [hv5]
     refine q0f [7] (q4j c (k1 + k2 + k3)) rfl (by decide) ⟨rfl, rfl, trivial⟩ rfl rfl ?_ ?_
     · exact rsE
     refine rnE ?_
     refine q6L ?_
     with_reducible refine sxE ?_
     rfl
    | true =>
     rw [if_pos rfl]
     refine q0c (by simp) ?_
     refine rQ fi215 ?_
     refine q0I [0] (hs) rfl (by decide) (by repeat first | exact trivial | exact rfl | refine And.intro ?_ ?_) rfl rfl ?_
     simp only [afterO, Out.ren, SV.ren, mgA, sig, SObj.ren, SV.renL, List.set, List.map, List.append_nil]
     refine uQ 4 _ ?_
     with_reducible refine sxE ?_
     refine q2b [8] mixed ?_
     refine gQ ?_
     refine q0f [7] (c1') rfl (by decide) ⟨rfl, rfl, trivial⟩ rfl rfl ?_ ?_
     · exact rsE
     refine rnE ?_
     refine gQ ?_
     rw [decide_eq_true hv]
     refine q0f [7] (q2t c k1) rfl (by decide) ⟨rfl, rfl, trivial⟩ rfl rfl ?_ ?_
     · exact rsE
     refine rnE ?_
     refine gQ ?_
     refine q5W ?_
     refine gQ ?_
     refine eQ [7] (c2') ?_
     refine eQ [7] (c3') ?_
     refine q0I [7] (q8i c (k1 + k2 + k3) hm) rfl (by decide) (by repeat first | exact trivial | exact rfl | refine And.intro ?_ ?_) rfl rfl ?_
     simp only [afterO, Out.ren, SV.ren, mgA, sig, SObj.ren, SV.renL, List.set, List.map, List.append_nil]
     refine uQ 2 _ ?_
     with_reducible refine sxE ?_
     refine q2b [8, 9] mixed ?_
     refine gQ ?_
     refine q0b hV ?_
     refine gQ ?_
     rw [hv5]
     refine q0f [7] (q2t c (k1 + k2 + k3)) rfl (by decide) ⟨rfl, rfl, trivial⟩ rfl rfl ?_ ?_
     · exact rsE
     refine rnE ?_
     refine gQ ?_
     refine q5W ?_
     refine gQ ?_; trivial
abbrev zTick : SV := .agg [.isl .str [], rS ⟨#[]⟩, rI 0, rI 0, .isl .u8 []]
def EffT (f : FuncId) (args : List SV) (b : List UInt8) (n : Nat) : Except Nat (Tick × Nat) → Prop
 | .ok (t, k) => PE Tryz.prog f args [rdr b n] (.ret (.tup [.agg (TickT.cells t), rI 0])) [rdr b (n + k)]
 | .error _ => PE Tryz.prog f args [rdr b n] (.ret (.tup [zTick, rI 6])) [rdr b n]
theorem j3a (b : List UInt8) (n m e : Nat) (T2 T3 T4 T5 : TypeId) (y : Value) (K : List SObj → Prop)
 (h : ∀ G, K ([rdr b n, .cells T2 [.ptr 0 0], .cells T3 [.raw (.slice none 0 0), rS ⟨#[]⟩, rI 0, rI 0, .raw (.slice none 0 0)], .cells T4 [rI 6], rdr b n, .cells T5 [.ptr 4 0]] ++ G)) :
 DCall Tryz.prog 239 [.ptr 5 0, .ptr 1 0, .ptr 2 0, .ptr 3 0] (some (errV e)) [rdr b m, .cells T2 [.ptr 0 0], .cells T3 [.raw (.slice none 0 0), rS ⟨#[]⟩, rI 0, rI 0, .raw (.slice none 0 0)], .cells T4 [.raw y], rdr b n, .cells T5 [.ptr 4 0]] K := by
 refine recE mixed fi239 ?_
 exact h _
theorem j1w (H : List SObj) (K : List SObj → Prop) (h : ∀ G, K (H ++ G)) : DCall Tryz.prog 239 [.ptr 5 0, .ptr 1 0, .ptr 2 0, .ptr 3 0] none H K := by
 refine recE mixed fi239 ?_
 simpa using h []
theorem j1z (b : List UInt8) (n : Nat) (hn : n ≤ b.length) (hb : b.length ≤ 1099511627776) : EffT 214 [.ptr 0 0, .fn 215 [] []] b n (tickP (b.drop n)) := by
 have hk := z8h b n hn hb
 generalize tickP (b.drop n) = X at *
 cases X with
 | error e =>
  obtain ⟨e', m, hk'⟩ := hk
  refine q0c (by simp) ?_
  refine defE mixed fi214 ?_
  refine eQ [0] (q7g b n) ?_
  refine gQ ?_
  refine effP [0] (hk') ?_
  refine ⟨by simp, j3a b n m e' _ _ _ _ _ _ fun G => ?_⟩
  with_reducible refine sxE ?_; trivial
 | ok x =>
  obtain ⟨t, k⟩ := x
  have hk' : PE Tryz.prog 215 [.agg [.ptr 0 0]] [rdr b n] (.ret (.agg (TickT.cells t))) [rdr b (n + k)] := hk
  refine q0c (by simp) ?_
  refine defE mixed fi214 ?_
  refine eQ [0] (q7g b n) ?_
  refine gQ ?_
  refine eQ [0] (hk') ?_
  refine j1w _ _ fun G => ?_
  with_reducible refine sxE ?_; trivial
theorem j2B (b : List UInt8) (n : Nat) (hn : n ≤ b.length) (hb : b.length ≤ 1099511627776) : EffT 166 [.ptr 0 0] b n (tickP (b.drop n)) := by
 have hk := j1z b n hn hb
 generalize tickP (b.drop n) = X at *
 cases X with
 | error e =>
  have hk' : PE Tryz.prog 214 [.ptr 0 0, .fn 215 [] []] [rdr b n] (.ret (.tup [zTick, rI 6])) [rdr b n] := hk
  refine q0c (by simp) ?_
  refine rQ fi166 ?_
  refine eQ [0] (hk') ?_; trivial
 | ok x =>
  obtain ⟨t, k⟩ := x
  have hk' : PE Tryz.prog 214 [.ptr 0 0, .fn 215 [] []] [rdr b n] (.ret (.tup [.agg (TickT.cells t), rI 0])) [rdr b (n + k)] := hk
  refine q0c (by simp) ?_
  refine rQ fi166 ?_
  refine eQ [0] (hk') ?_; trivial
theorem z6C (v : Tick) : PC Tryz.prog 165 [.agg (TickT.cells v), rI 0] (.agg (TickT.cells v)) := by
 refine q0e rfl rfl ?_
 refine rQ fi165 ?_
 refine q0g (fun _ => ?_) fun h => absurd h (by decide)
 refine gQ ?_; trivial
theorem z0w (e : Nat) (he : e ≠ 0) : PE Tryz.prog 165 [zTick, rI e] [] (.pan wrongV) [] := by
 refine q0c (by simp) ?_
 refine rQ fi165 ?_
 refine q0g (fun h => absurd h (by simp; omega)) fun _ => ?_
 with_reducible refine sxE ?_; trivial
theorem q9u {α : Type} {q : α → Bool} {x : Except Nat (α × Nat)} {v : α} {m : Nat} (h : chkP q x = .ok (v, m)) : x = .ok (v, m) ∧ q v = true := by
 cases x with
 | error e => cases h
 | ok y =>
  obtain ⟨u, k⟩ := y
  simp only [chkP] at h
  split at h
  · cases h; exact ⟨rfl, by assumption⟩
  cases h
theorem q8w : FitsP tickP := fun r v m h => q1E r v m (q9u (q := vTick) (x := inP (appB 1) (inP 48 tickIn) r) h).1
theorem q8R : OkP tickP TickT.ok := fun r v m hr h =>
 (q3n (q3n (q0U (Q1 := fun _ => True) q1K fun _ _ => q0U (q1J q6n) fun _ h1 => q0U (q1J z4K) fun _ h2 => q5y (Q := TickT.ok) ⟨h1, h2⟩)) : OkP (inP (appB 1) (inP 48 tickIn)) TickT.ok) r v m hr (q9u (q := vTick) (x := inP (appB 1) (inP 48 tickIn) r) h).1
@[go_sem] abbrev rp0 (k : Int) : List SV := [rI k, .raw (.slice none 0 0), .raw (.slice none 0 0), rS ⟨#[]⟩, .raw (.slice none 0 0), rS ⟨#[]⟩, rI 0, rI 0, .raw (.slice none 0 0), rI 0, rI 0, .raw (.slice none 0 0)]
theorem z4R (tag : UInt8) (parts : List (List UInt8)) (hp : parts.length ≤ 1125899906842624) : VC Tryz.prog 134 [.raw (.int .u8 tag.toNat), .isl (.slice .u8) parts] [] (RowK .u8 (elemS tag parts)) := by
 refine q4D ?_
 refine rQ fi134 ?_
 refine q0G (fun i => [(5, rI ((flatN parts i).length)), (13, .raw (.int .i64 ((i : Nat) : Int)))]) (parts.length) (fun j => (fitAt parts) j = true) (by first | decide | simp) (fun i => rfl) ?_ fun i hi hall => ?_
 · (with_reducible refine sxE ?_ <;> try exact True.intro)
   all_goals (try rfl)
 have hwr := wsx i (by omega)
 refine gQ ?_
 have bad : i < (parts.length) → (fitAt parts) i = false → allN (parts.length) (fitAt parts) = false := fun hlt hv => q0i hlt hv
 have fin : ¬ i < (parts.length) → allN (parts.length) (fitAt parts) = true := fun h => q0l fun j hj => hall j (by omega)
 try dsimp only at bad fin hall
 have hn : (flatN parts i).length ≤ 16777215 := by
  cases i with
  | zero => simp [flatN]
  | succ j => have := hall j (by omega); simpa [fitAt] using this
 rw [wrapi (n := 16777215 - ((flatN parts i).length : Int)) (by omega), wrapi (n := ((flatN parts i).length : Int) + 5) (by omega)]
 refine ⟨fun hlt => ⟨⟨by omega, hlt⟩, fun hbig => ?_, fun hfit => ?_⟩, fun hge => ?_⟩
 · have h1 := q2T parts (i + 1)
   rw [q2p hlt, List.length_append] at h1
   refine q2U ?_
   unfold elemS
   rw [if_neg (by omega)]
 · have h2 : ((flatN parts i).length : Int) + ((parts.getD i (Ty.slice .u8).dflt).length : Int) = ((flatN parts (i + 1)).length : Int) := by rw [q2p hlt, List.length_append]; rfl
   have h3 : (flatN parts (i + 1)).length ≤ 16777215 := by omega
   refine ⟨hlt, q0L hall (by simpa [fitAt] using h3), ⟨_, rfl⟩, ?_⟩
   rw [h2, wrapi (n := ((flatN parts (i + 1)).length : Int)) (by omega)]
   with_reducible refine sx1 hwr ?_; trivial
 obtain rfl : i = parts.length := by omega
 rw [q3K] at *
 have he : elemS tag parts = tag :: (lenS parts.flatten.length ++ flatN parts parts.length) := by unfold elemS tlv; rw [if_pos hn, q3K]
 refine ⟨⟨by omega, by omega, by omega⟩, z9T tag, fun h1 => ⟨q0Y _, ?_⟩, fun h1 => ⟨fun h2 => ⟨?_, ?_⟩, fun h2 => ⟨fun h3 => ⟨?_, ?_⟩, fun h3 => ⟨?_, ?_⟩⟩⟩⟩
 any_goals (repeat' (first | exact q0Y _ | exact rfl | with_reducible refine And.intro ?_ ?_))
 have hL : lenS parts.flatten.length = [byteOf parts.flatten.length] := by unfold lenS; rw [if_pos (by omega)]
 rotate_left
 have hL : lenS parts.flatten.length = [129, byteOf parts.flatten.length] := by unfold lenS; rw [if_neg (by omega), if_pos (by omega)]
 rotate_left
 have hL : lenS parts.flatten.length = [130, byteOf ((parts.flatten.length : Int).fdiv 256), byteOf parts.flatten.length] := by unfold lenS; rw [if_neg (by omega), if_neg (by omega), if_pos (by omega)]
 rotate_left
 have hL : lenS parts.flatten.length = [131, byteOf ((parts.flatten.length : Int).fdiv 65536), byteOf ((parts.flatten.length : Int).fdiv 256), byteOf parts.flatten.length] := by unfold lenS; rw [if_neg (by omega), if_neg (by omega), if_neg (by omega)]
 rotate_left
 all_goals
  refine q7f (H := [_, _, _, _]) 8 .u8 (fun i => tag :: (lenS parts.flatten.length ++ flatN parts i)) (fun i => [(44, .any), (52, .any), (60, .any), (71, .any), (74, rI i)]) parts.length (fun _ => True) (by rw [hL]; simp [flatN, byteOf]) (by simp) rfl (fun i => rfl) ?_ fun i hi _ => ?_
  · with_reducible refine sx1 hL ?_
    simp [flatN]
  have hwr := wsx i (by omega)
  have hfl := q2T parts i
  have hll : (lenS parts.flatten.length).length ≤ 4 := by rw [hL]; simp
  refine gQ ?_
  have e1 : (lenS parts.flatten.length ++ flatN parts i).length = (lenS parts.flatten.length).length + (flatN parts i).length := List.length_append
  refine ⟨fun hlt => ?_, fun hge => ?_⟩
  · have h4 := q2T parts (i + 1)
    have h5 := q2p hlt
    rw [h5, List.length_append] at h4
    refine ⟨⟨by omega, hlt⟩, ⟨by omega, by omega⟩, q0R [.dead] [] hlt trivial (by rw [h5, ← List.append_assoc]; rfl) ?_⟩
    with_reducible refine sx3 hwr h5 ?_
    exact congrArg (SV.bld 5 .u8) (by omega)
  obtain rfl : i = parts.length := by omega
  rw [he]
  exact q4p (h := 4) rfl rfl
theorem z4n (tag : UInt8) (n : Int) (hn : n = tag.toNat) (parts : List (List UInt8)) (hp : parts.length ≤ 1125899906842624) : VC Tryz.prog 134 [.raw (.int .u8 n), .isl (.slice .u8) parts] [] (RowK .u8 (elemS tag parts)) := by
 subst hn; exact z4R tag parts hp
theorem z6W (tag n : Int) (b : List UInt8) (ht : 0 ≤ tag ∧ tag ≤ 1000) : VC Tryz.prog 133 [rI tag, rI n, .isl .u8 b] [] (RowK .u8 (wrapS tag n b)) := by
 refine q4D ?_
 refine rQ fi133 ?_
 refine ⟨fun h1 => ⟨fun h2 => ⟨fun h3 => ?_, fun h3 => ?_⟩, fun h2 => ?_⟩, fun h1 => ?_⟩
 · refine q2U ?_
   unfold wrapS; rw [if_neg (fun h => h.2.2 (List.length_eq_zero_iff.1 (by omega)))]
 · refine q0u 0 ?_
   with_reducible refine sxE ?_
   have hw : wrapS tag n b = elemS (byteOf (tag + n)) [b] := by
    unfold wrapS
    rw [if_pos ⟨by omega, by omega, fun e => h3 (by rw [e]; rfl)⟩]
   rw [hw]
   refine q3m (z4n (byteOf (tag + n)) _ ?_ _ (by simp)) rfl rfl (fun h0 => ?_) ?_
   · rw [wrapi (by omega)]; exact (q0Y _).symm
   · refine gQ ?_
     exact q2U h0
   refine gQ ?_
   exact q4p (h := 1) rfl rfl
 · refine q2U ?_
   unfold wrapS; rw [if_neg (by omega)]
 refine q2U ?_
 unfold wrapS; rw [if_neg (by omega)]
theorem j3F (n : Int) (b : List UInt8) : VC Tryz.prog 132 [rI n, .isl .u8 b] [] (RowK .u8 (wrapS 96 n b)) := by
 refine q4D ?_
 refine rQ fi132 ?_
 refine q3m (z6W 96 n b (by omega)) rfl rfl (fun h0 => ?_) ?_
 · refine gQ ?_
   exact q2U h0
 refine gQ ?_
 exact q4p (h := 0) rfl rfl
theorem j3D (n : Int) (l : List (List UInt8)) (hl : l.length ≤ 1125899906842624) : VC Tryz.prog 78 [rI n, .isl (.slice .u8) l] [] (RowK .u8 (wrapS 96 n (elemS 48 l))) := by
 refine q4D ?_
 refine rQ fi78 ?_
 refine q0a (q1N l hl) ?_
 refine gQ ?_
 refine q3m (j3F n _) rfl rfl (fun h0 => ?_) ?_
 · refine gQ ?_
   exact q2U h0
 refine gQ ?_
 exact q4p (h := 0) rfl rfl
theorem j4e {r : Req} {va vt : Bool} {wa wt : List UInt8} (h : ReqC r va vt wa wt) (hs : sReq r va vt = true) : VC Tryz.prog 28 [.agg (ReqT.cells r)] [] (RowK .u8 (reqS r wa wt)) := by
 obtain ⟨hl, hp⟩ := q8Y hs
 have hb := z1n r wa wt h.ok h.opt hp h.wa h.wt
 have ho := h.ok
 have hr : reqS r wa wt = wrapS 96 r.1 (elemS 48 [wrapS 160 1 (intS 5), wrapS 160 2 (intS r.1), preS 3 r.2.1, wrapS 160 4 (bodyS r wa wt)]) := rfl
 rw [hr]
 clear hr hs h hp
 generalize bodyS r wa wt = bd at *
 obtain ⟨k, pre, opt, cl, sv, fr, ti, re, no, pf, ad, tk⟩ := r
 obtain ⟨_, o2, _⟩ := ho
 dsimp only at hl
 refine q4D ?_
 refine rQ fi28 ?_
 refine q0b (q1n 5) ?_
 refine gQ ?_
 refine q0b (q0N _ _) ?_
 refine gQ ?_
 refine q0b (q1n k) ?_
 refine gQ ?_
 refine q0b (q0N _ _) ?_
 refine gQ ?_
 refine q0b (q7i 3 pre o2 hl) ?_
 refine gQ ?_
 refine q0b (hb) ?_
 refine gQ ?_
 refine q0b (q0N _ _) ?_
 refine gQ ?_
 refine q1f 1 (by decide) ?_
 with_reducible refine sxE ?_
 refine z4h (j3D k _ (by simp)) rfl rfl ?_ (fun h0 => ?_) ?_
 · simp (maxSteps := 3000000) only [q0V, q1m, go_sem, ↓zA, ↓reduceIte, ↓reduceDIte] <;> try simp only [zB]
 · refine gQ ?_
   exact q2U h0
 refine gQ ?_
 exact q4p (h := 2) rfl rfl
theorem z9F {r : Req} {va vt : Bool} {wa wt : List UInt8} (hc : ReqC r va vt wa wt) (hv : vReq r va vt wa wt = true) (hne : reqS r wa wt ≠ []) : VC Tryz.prog 7 [.agg (ReqT.cells r)] [] (RowT .u8 (reqS r wa wt) (.int .i64 0)) := by
 have h1 := z2E r va vt hc.ok hc.va hc.vt
 have hs : sReq r va vt = true := by simp only [vReq, Bool.and_eq_true] at hv; exact hv.1
 have hle : (reqS r wa wt).length ≤ 65536 := by simp only [vReq, Bool.and_eq_true, decide_eq_true_eq] at hv; exact hv.2
 have h2 := j4e hc hs
 rw [hs] at h1
 clear hc hv hs
 generalize reqS r wa wt = w at *
 obtain ⟨k, pre, opt, cl, sv, fr, ti, re, no, pf, ad, tk⟩ := r
 refine q4D ?_
 refine rQ fi7 ?_
 refine q0a h1 ?_
 refine gQ ?_
 refine q3m h2 rfl rfl (fun h0 => ?_) ?_
 · exact absurd h0 hne
 refine gQ ?_
 refine q9P fi27 ?_
 refine uQ 600 _ ?_
 simp (maxSteps := 3000000) only [opK, go_sem, ↓zA, ↓reduceIte, ↓reduceDIte] <;> try simp only [zB]
 refine ⟨fun h => absurd h (by omega), fun _ => ?_⟩
 refine gQ ?_
 exact z8D (h := 1) rfl rfl
theorem z4L (l : List UInt8) (hl : l.length ≤ 140737488355328) : VC Tryz.prog 61 [.isl .u8 l] [] (RowK .u8 l) := by
 refine q4D ?_
 refine rQ fi61 ?_
 refine ⟨⟨by omega, by omega⟩, ?_⟩
 exact q4p (h := 0) rfl (by omega)
def kdAt (l : List Pre) (k : Int) (j : Nat) : Bool := decide ((l.getD j PreT.dflt).1 = k)
def preV (l : List Pre) (k : Int) : List UInt8 := match firstN l.length (kdAt l k) with
 | some j => (l.getD j PreT.dflt).2
 | none => []
def preB (l : List Pre) (k : Int) : Bool := (firstN l.length (kdAt l k)).isSome
theorem z5o (l : List Pre) (k : Int) (hl : l.length ≤ 1125899906842624) (hb : ∀ j, j < l.length → (l.getD j PreT.dflt).2.length ≤ 140737488355328) : PC Tryz.prog 24 [.isl PreT l, rI k] (.tup [.isl .u8 (preV l k), rB (preB l k)]) := by
 refine q0e rfl rfl ?_
 refine rQ fi24 ?_
 refine q0G (fun i => [(10, .raw (.int .i64 ((i : Nat) : Int)))]) (l.length) (fun j => (fun j => !kdAt l k j) j = true) (by first | decide | simp) (fun i => rfl) ?_ fun i hi hall => ?_
 · (with_reducible refine sxE ?_ <;> try exact True.intro)
   all_goals (try rfl)
 have hwr := wsx i (by omega)
 refine gQ ?_
 have bad : i < (l.length) → (fun j => !kdAt l k j) i = false → allN (l.length) (fun j => !kdAt l k j) = false := fun hlt hv => q0i hlt hv
 have fin : ¬ i < (l.length) → allN (l.length) (fun j => !kdAt l k j) = true := fun h => q0l fun j hj => hall j (by omega)
 try dsimp only at bad fin hall
 refine ⟨fun hlt => ⟨⟨by omega, hlt⟩, fun h1 => ?_, fun h1 => ?_⟩, fun hge => ?_⟩
 · have hf : firstN l.length (kdAt l k) = some i := q3B hlt (decide_eq_true h1) (fun j hj => by simpa using hall j hj)
   have hv : preV l k = (l.getD i PreT.dflt).2 := by unfold preV; rw [hf]
   have hB : preB l k = true := by unfold preB; rw [hf]; rfl
   have hbl := hb i hlt
   rw [hv, hB]
   refine q3m (z4L _ hbl) rfl rfl (fun h0 => ?_) ?_
   · refine gQ ?_
     rw [h0]
   refine gQ ?_
   exact ⟨⟨Nat.le_refl _, by omega⟩, List.take_of_length_le (Nat.le_refl _)⟩
 · refine ⟨hlt, q0L (fun j hj => by simpa using hall j hj) (by simpa [kdAt] using h1), ⟨[_], rfl⟩, ?_⟩
   with_reducible refine sx1 hwr ?_; trivial
 have hf : firstN l.length (kdAt l k) = none := z1f (fun j hj => by simpa using hall j (by omega))
 have hv : preV l k = [] := by unfold preV; rw [hf]
 have hB : preB l k = false := by unfold preB; rw [hf]; rfl
 rw [hv, hB]
 exact ⟨rfl, rfl⟩
theorem q3S (n : Int) : PC Tryz.prog 16 [rI n] (rI n) := by
 refine q0D rfl rfl ?_
 refine rQ fi16 ?_; trivial
def tgsP : Prin := ([⟨#[107, 114, 98, 116, 103, 116]⟩, ⟨#[82]⟩], ⟨#[82]⟩)
theorem z2u : PC Tryz.prog 21 [] (.agg (PrinT.cells tgsP)) := by
 refine q0e rfl rfl ?_
 refine rQ fi21 ?_
 exact ⟨⟨by decide, by decide⟩, rfl, rfl⟩
theorem z8Y : PC Tryz.prog 76 [.isl PreT []] (rB true) := by
 refine q0D rfl rfl ?_
 refine rQ fi76 ?_
 refine q0G (fun i => [(10, .raw (.int .i64 ((i : Nat) : Int)))]) (0) (fun j => (fun _ => true) j = true) (by first | decide | simp) (fun i => rfl) ?_ fun i hi hall => ?_
 · (with_reducible refine sxE ?_ <;> try exact True.intro)
   all_goals (try rfl)
 have hwr := wsx i (by omega)
 refine gQ ?_
 have bad : i < (0) → (fun _ => true) i = false → allN (0) (fun _ => true) = false := fun hlt hv => q0i hlt hv
 have fin : ¬ i < (0) → allN (0) (fun _ => true) = true := fun h => q0l fun j hj => hall j (by omega)
 try dsimp only at bad fin hall
 exact ⟨fun h => absurd h (by omega), fun _ => trivial⟩
theorem z8B : PC Tryz.prog 77 [.isl TickT []] (rB true) := by
 refine q0D rfl rfl ?_
 refine rQ fi77 ?_
 refine q0G (fun i => [(10, .raw (.int .i64 ((i : Nat) : Int)))]) (0) (fun j => (fun _ => true) j = true) (by first | decide | simp) (fun i => rfl) ?_ fun i hi hall => ?_
 · (with_reducible refine sxE ?_ <;> try exact True.intro)
   all_goals (try rfl)
 have hwr := wsx i (by omega)
 refine gQ ?_
 have bad : i < (0) → (fun _ => true) i = false → allN (0) (fun _ => true) = false := fun hlt hv => q0i hlt hv
 have fin : ¬ i < (0) → allN (0) (fun _ => true) = true := fun h => q0l fun j hj => hall j (by omega)
 try dsimp only at bad fin hall
 exact ⟨fun h => absurd h (by omega), fun _ => trivial⟩
def cliA : Prin := ([⟨#[97]⟩], ⟨#[82]⟩)
def rq1 : Req := (10, [], 0, cliA, tgsP, 0, 100, 0, 7, [1, 2], [], [])
def rq2 : Req := (10, [], 0, cliA, tgsP, 0, 100, 0, 7, [1, 1], [], [])
def rq3 : Req := (12, [], 0, cliA, tgsP, 0, 100, 0, 7, [1, 2], [], [])
def fl1 : Fail := (25, 10, 0, ([], ⟨#[]⟩), tgsP, ⟨#[]⟩, [])
theorem okstr (s : ByteArray) (h : s.size ≤ 140737488355328) : Ty.str.ok s := h
theorem okcli : PrinT.ok cliA := by
 refine ⟨⟨by decide, fun x hx => ?_⟩, okstr _ (by decide)⟩
 simp [cliA] at hx; subst hx; exact okstr _ (by decide)
theorem oktgs : PrinT.ok tgsP := by
 refine ⟨⟨by decide, fun x hx => ?_⟩, okstr _ (by decide)⟩
 simp [tgsP] at hx; rcases hx with rfl | rfl <;> exact okstr _ (by decide)
theorem rqC (k : Int) (pf : List Int) (hp : pf.length ≤ 10) : ReqC (k, [], 0, cliA, tgsP, 0, 100, 0, 7, pf, [], []) true true [] [] where
 ok := ⟨trivial, ⟨Nat.zero_le _, fun x hx => by cases hx⟩, trivial, okcli, oktgs, trivial, trivial, trivial, trivial, ⟨by show pf.length ≤ _; omega, fun _ _ => trivial⟩, ⟨Nat.zero_le _, fun x hx => by cases hx⟩, ⟨Nat.zero_le _, fun x hx => by cases hx⟩⟩
 opt := ⟨Int.le_refl _, by show (0 : Int) ≤ 4294967295; decide⟩
 va := z8Y
 vt := z8B
 wa := fun h => absurd rfl h
 wt := fun h => absurd rfl h
theorem okfl : FailT.ok fl1 := ⟨trivial, trivial, trivial, ⟨⟨by decide, fun x hx => by cases hx⟩, okstr _ (by decide)⟩, oktgs, okstr _ (by decide), ⟨by decide, fun x hx => by cases hx⟩⟩
theorem vrq1 : vReq rq1 true true [] [] = true := by decide +kernel
theorem vrq2 : vReq rq2 true true [] [] = false := by decide +kernel
theorem vrq3 : vReq rq3 true true [] [] = false := by decide +kernel
theorem lbod : (bodyS rq1 [] []).length = 76 := by decide +kernel
def rqB : List UInt8 := reqS rq1 [] []
theorem lrqB : rqB.length = 92 := by decide +kernel
theorem hrqB : (rqB.getD 0 Ty.u8.dflt) = 106 := by decide +kernel
theorem vfl1 : vFail fl1 = true := by decide +kernel
theorem lfl1 : (failS fl1).length = 58 := by decide +kernel
theorem hfl1 : (failS fl1).getD 0 Ty.u8.dflt = 126 := by decide +kernel
theorem rd1 : reqP 10 (rqB ++ [0]) = .ok (rq1, 92) := by kernel_rfl
theorem bad1 : badR 10 (rqB ++ [0]) := .inr ⟨rq1, 92, rd1, by rw [List.length_append, lrqB]; decide⟩
def noAT (b : List UInt8) : Prop := ∀ x ∈ b, x ≠ tagB 8 ∧ x ≠ tagB 9
theorem q6J {b : List UInt8} {i q : Nat} (h : ∀ x ∈ b, x ≠ tagB i) : nextB i (b.drop q) = false := by
 cases hn : nextB i (b.drop q) with
 | false => rfl
 | true =>
  simp only [nextB, Bool.and_eq_true, decide_eq_true_eq, ne_eq] at hn
  obtain ⟨h1, h2⟩ := hn
  exact absurd h2 (h _ (List.mem_of_mem_drop (q0K (by omega))))
theorem noATB : BodB noAT where
 tk := fun r h x hx => h x (List.mem_of_mem_take (List.mem_of_mem_drop hx))
 dr := fun r n h x hx => h x (List.mem_of_mem_drop hx)
 h := fun k pre c h => ⟨fun q _ hn => (by rw [q6J (fun x hx => (h x hx).1)] at hn; cases hn), fun _ _ _ _ _ _ _ _ _ q _ hn => (by rw [q6J (fun x hx => (h x hx).2)] at hn; cases hn), fun _ _ _ _ _ _ _ _ q _ hn => (by rw [q6J (fun x hx => (h x hx).2)] at hn; cases hn)⟩
theorem rqAT : noAT (rqB ++ [0]) := by
 have h : (rqB ++ [0]).all (fun x => decide (x ≠ tagB 8) && decide (x ≠ tagB 9)) = true := by decide +kernel
 intro x hx
 have := List.all_eq_true.1 h x hx
 simpa using this
theorem krq : kindB (rqB ++ [0]) 0 = true ∧ kindV (rqB ++ [0]) 0 = ((10 : Nat) : Int) := ⟨by decide +kernel, by decide +kernel⟩
theorem j3A : PC Tryz.prog 9 [.isl .u8 (rqB ++ [0])] (.tup [.agg (ReqT.cells ReqT.dflt), rI 6]) :=
 z4o noATB 10 (by decide) (rqB ++ [0]) (by rw [List.length_append, lrqB]; decide) rqAT krq.1 krq.2 bad1
end Go.Proofs.YtkbbkhmffmfliaaGreatDoor
