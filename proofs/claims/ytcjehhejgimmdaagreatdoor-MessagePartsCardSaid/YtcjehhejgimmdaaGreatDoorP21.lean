/- Contracts: reading a key. -/
import Derived.Test.YtcjehhejgimmdaaGreatDoorP20
import Derived.Test.YtcjehhejgimmdaaGreatDoorP16
import Derived.Test.YtcjehhejgimmdaaGreatDoorP18
import Derived.Test.YtcjehhejgimmdaaGreatDoorP17
set_option linter.all false
namespace Go.Proofs.YtcjehhejgimmdaaGreatDoor
open Go Go.Sx Go.Proofs
set_option maxRecDepth 100000
set_option maxHeartbeats 4000000
def zO {α : Type} (res : α → SV) : Except Nat (α × Nat) → Out
 | .ok (v, _) => .ret (res v)
 | .error e => .pan (errV e)
def zH {α : Type} (b : List UInt8) (n m : Nat) : Except Nat (α × Nat) → List SObj
 | .ok (_, k) => [rdr b (n + k)]
 | .error _ => [rdr b m]
attribute [go_sem] zO zH
def EffZ (P : Program) {α : Type} (f : FuncId) (args : List SV) (b : List UInt8) (n m : Nat) (res : α → SV) (x : Except Nat (α × Nat)) : Prop := PE P f args [rdr b n] (zO res x) (zH b n m x)
theorem q6f {P : Program} {α : Type} {f : FuncId} {args : List SV} {b : List UInt8} {n m : Nat} {res : α → SV} {x : Except Nat (α × Nat)} (h : VC P f args [rdr b n] (SealO (zO res x) (zH b n m x))) : EffZ P f args b n m res x := by
 cases x with
 | error e => exact q0c (by simp [zH]) h
 | ok y => exact q0c (by simp [zH]) h
theorem z0y {P : Program} {α : Type} {f : FuncId} {args : List SV} {b : List UInt8} {n m : Nat} {res : α → SV} {x : Except Nat (α × Nat)} {v : α} {k : Nat} (h : EffZ P f args b n m res x) (hx : x = .ok (v, k)) : PE P f args [rdr b n] (.ret (res v)) [rdr b (n + k)] := by rw [hx] at h; exact h
theorem z0N {P : Program} {α : Type} {f : FuncId} {args : List SV} {b : List UInt8} {n m : Nat} {res : α → SV} {x : Except Nat (α × Nat)} {e : Nat} (h : EffZ P f args b n m res x) (hx : x = .error e) : PE P f args [rdr b n] (.pan (errV e)) [rdr b m] := by rw [hx] at h; exact h
def posX (b : List UInt8) (n : Nat) : Nat := if takeE 48 (b.drop n) = 0 then n + takeN (b.drop n) else n
theorem z8N {b : List UInt8} {n : Nat} (h : takeE 48 (b.drop n) = 0) : posX b n = n + takeN (b.drop n) := if_pos h
theorem z8G {b : List UInt8} {n : Nat} (h : takeE 48 (b.drop n) ≠ 0) : posX b n = n := if_neg h
def tripIn : PR Key := bindP (needP 0 intP) fun a => bindP (needP 1 intP) fun k => bindP (needP 2 octP) fun c => retP ((a, k, c) : Key)
def keyP : PR Key := inP 48 tripIn
theorem q7Q {α β : Type} {p : PR α} {f : α → PR β} {b : List UInt8} {v : α} {k : Nat} (h : p b = .ok (v, k)) : bindP p f b = shiftP k (f v (b.drop k)) := by
 have := q3Q (f := f) (b := b) (n := 0) (by rw [List.drop_zero]; exact h)
 rwa [List.drop_zero, Nat.zero_add] at this
theorem z5R (b : List UInt8) (n : Nat) (hn : n ≤ b.length) (hb : b.length ≤ 1099511627776) :
 EffZ Tryz.prog 164 [.ptr 0 0] b n (posX b n) (fun v : Key => .tup [rI v.1, rI v.2.1, .isl .u8 v.2.2]) (keyP (b.drop n)) := by
 unfold keyP
 by_cases h : takeE 48 (b.drop n) = 0
 · have hs := q1P b n hn hb h
   have hc := q0V (n := n) hb
   rw [q9E h, z8N h]
   generalize takeC (b.drop n) = c at *
   generalize takeN (b.drop n) = N at *
   unfold tripIn
   refine q6f ?_
   refine rQ fi164 ?_
   refine eQ [0] (hs) ?_
   refine eQ [1] (q5Z c 0) ?_
   have e1 := z4V 0 (by omega) c 0 (Nat.zero_le _) hc
   rw [List.drop_zero] at e1
   cases h1 : needP 0 intP c with
   | error e =>
    rw [q2Q h1]
    have e1' := q5m e1 h1
    simp only [closeP]
    refine effP [1] (e1') ?_; trivial
   | ok x =>
    obtain ⟨v1, k1⟩ := x
    rw [q7Q h1]
    have e1' := q5e e1 h1
    have f1 := q0f _ _ _ h1
    rw [Nat.zero_add] at e1'
    refine eQ [1] (e1') ?_
    have e2 := z4V 1 (by omega) c _ f1 hc
    cases h2 : needP 1 intP (c.drop k1) with
    | error e =>
     rw [q2Q h2]
     have e2' := q5m e2 h2
     simp only [shiftP, closeP]
     refine effP [1] (e2') ?_; trivial
    | ok x =>
     obtain ⟨v2, k2⟩ := x
     rw [q3Q h2]
     have e2' := q5e e2 h2
     have f2 := q0G q0f f1 h2
     refine eQ [1] (e2') ?_
     have e3 := z8X 2 (by omega) c _ f2 hc
     cases h3 : needP 2 octP (c.drop (k1 + k2)) with
     | error e =>
      rw [q2Q h3]
      have e3' := q5m e3 h3
      simp only [shiftP, closeP]
      refine effP [1] (e3') ?_; trivial
     | ok x =>
      obtain ⟨v3, k3⟩ := x
      rw [q3Q h3]
      have e3' := q5e e3 h3
      have f3 := q0G q0f f2 h3
      simp only [shiftP, retP, closeP]
      refine eQ [1] (e3') ?_
      by_cases hm : k1 + k2 + k3 < c.length
      · rw [if_pos (by omega)]
        refine effP [1] (z1E c _ hm) ?_
        rfl
      rw [if_neg (by omega)]
      refine eQ [1] (z1F c (k1 + k2 + k3) (by omega)) ?_; trivial
 have hs := q3E b n hn hb h
 rw [q9y h, z8G h]
 generalize takeE 48 (b.drop n) = e at *
 refine q6f ?_
 refine rQ fi164 ?_
 refine eQ [0] (hs) ?_
 refine effP [] (q3y e h) ?_; trivial
theorem j1P (b : List UInt8) (n : Nat) (hn : n ≤ b.length) (hb : b.length ≤ 1099511627776) :
 EffZ Tryz.prog 163 [.ptr 0 0] b n (posX b n) (fun v : Key => .agg (KeyT.cells v)) (keyP (b.drop n)) := by
 have ht := z5R b n hn hb
 refine q6f ?_
 generalize keyP (b.drop n) = X at *
 cases X with
 | error e =>
  have ht' := z0N ht rfl
  refine rQ fi163 ?_
  refine effP [0] (ht') ?_; trivial
 | ok x =>
  obtain ⟨v, k⟩ := x
  have ht' := z0y ht rfl
  refine rQ fi163 ?_
  refine eQ [0] (ht') ?_; trivial
def ErrP {α : Type} (p : PR α) : Prop := ∀ r e, p r = .error e → e ≠ 0
theorem q3H {α : Type} {tag : UInt8} {dec : List UInt8 → Option α} : ErrP (rdP tag dec) := fun _ _ h => q3F h
theorem q6E {α : Type} {tag : UInt8} {p : PR α} (hp : ErrP p) : ErrP (inP tag p) := fun r e h => by
 rcases q1E (tag := tag) (p := p) (r := r) with ⟨h1, e'⟩ | ⟨_, e1, h2, e'⟩ | ⟨_, _, _, _, _, e'⟩ | ⟨_, _, _, _, _, e'⟩ <;> rw [e'] at h <;> cases h
 · exact h1
 · exact hp _ _ h2
 decide
theorem q2D {α : Type} {n : Nat} {p : PR α} (hp : ErrP p) : ErrP (needP n p) := fun r e h => by
 cases hb : nextB n r with
 | false =>
  rw [q4y hb] at h
  split at h <;> cases h <;> decide
 | true => rw [q4o hb] at h; exact q6E hp r e h
theorem q2i {α β : Type} {p : PR α} {f : α → PR β} (hp : ErrP p) (hf : ∀ v, ErrP (f v)) : ErrP (bindP p f) := fun r e h => by
 unfold bindP at h
 cases h1 : p r with
 | error e1 => rw [h1] at h; cases h; exact hp r _ h1
 | ok y =>
  obtain ⟨u, k⟩ := y
  rw [h1] at h
  simp only at h
  cases h2 : f u (r.drop k) with
  | error e2 => rw [h2] at h; cases h; exact hf u _ _ h2
  | ok z => obtain ⟨w, l⟩ := z; rw [h2] at h; cases h
theorem q7T {α : Type} {v : α} : ErrP (retP v) := fun _ _ h => by cases h
theorem j0x : ErrP keyP := q6E (q2i (q2D q3H) fun _ => q2i (q2D q3H) fun _ => q2i (q2D q3H) fun _ => q7T)
def EffR (P : Program) {α : Type} (f : FuncId) (args : List SV) (b : List UInt8) (n : Nat) (res : α → SV) (z : SV) : Except Nat (α × Nat) → Prop
 | .ok (v, k) => PE P f args [rdr b n] (.ret (.tup [res v, rI 0])) [rdr b (n + k)]
 | .error e => PE P f args [rdr b n] (.ret (.tup [z, rI e])) [rdr b n]
theorem q5r {P : Program} {α : Type} {f : FuncId} {args : List SV} {b : List UInt8} {n : Nat} {res : α → SV} {z : SV} {x : Except Nat (α × Nat)} {v : α} {k : Nat} (h : EffR P f args b n res z x) (hx : x = .ok (v, k)) : PE P f args [rdr b n] (.ret (.tup [res v, rI 0])) [rdr b (n + k)] := by rw [hx] at h; exact h
theorem q5b {P : Program} {α : Type} {f : FuncId} {args : List SV} {b : List UInt8} {n : Nat} {res : α → SV} {z : SV} {x : Except Nat (α × Nat)} {e : Nat} (h : EffR P f args b n res z x) (hx : x = .error e) : PE P f args [rdr b n] (.ret (.tup [z, rI e])) [rdr b n] := by rw [hx] at h; exact h
abbrev zKey : SV := .agg [rI 0, rI 0, .isl .u8 []]
theorem z9h (b : List UInt8) (n m e : Nat) (T2 T4 T5 T6 : TypeId) (y : Value) (K : List SObj → Prop)
 (h : ∀ G, K ([rdr b n, .cells T2 [.ptr 0 0], .cells T4 [rI 0, rI 0, .raw (.slice none 0 0)], .cells T5 [rI e], .cells T6 [rI n]] ++ G)) :
 DCall Tryz.prog 211 [.ptr 4 0, .ptr 1 0, .ptr 2 0, .ptr 3 0] (some (errV e)) [rdr b m, .cells T2 [.ptr 0 0], .cells T4 [rI 0, rI 0, .raw (.slice none 0 0)], .cells T5 [.raw y], .cells T6 [rI n]] K := by
 refine j1g fi211 ?_
 refine uQ 16 _ ?_
 with_reducible refine sxE ?_
 refine q1F [1, 4, 5, 999999] mixed ?_
 refine uQ 600 _ ?_
 simp (maxSteps := 3000000) only [List.getElem?_nil, go_sem, ↓zA, ↓reduceIte, ↓reduceDIte] <;> try simp only [zB]
 exact h _
theorem j0A (H : List SObj) (K : List SObj → Prop) (h : ∀ G, K (H ++ G)) : DCall Tryz.prog 211 [.ptr 4 0, .ptr 1 0, .ptr 2 0, .ptr 3 0] none H K := by
 refine recE mixed fi211 ?_
 simpa using h []
theorem j1W (b : List UInt8) (n : Nat) (hn : n ≤ b.length) (hb : b.length ≤ 1099511627776) :
 EffR Tryz.prog 162 [.ptr 0 0, .fn 163 [] []] b n (fun v : Key => .agg (KeyT.cells v)) zKey (keyP (b.drop n)) := by
 have hk := j1P b n hn hb
 generalize keyP (b.drop n) = X at *
 cases X with
 | error e =>
  have hk' := z0N hk rfl
  refine q0c (by simp) ?_
  refine defE mixed fi162 ?_
  refine gQ ?_
  refine effP [0] (hk') ?_
  refine ⟨by simp, z9h b n _ e _ _ _ _ _ _ fun G => ?_⟩
  with_reducible refine sxE ?_; trivial
 | ok x =>
  obtain ⟨v, k⟩ := x
  have hk' := z0y hk rfl
  refine q0c (by simp) ?_
  refine defE mixed fi162 ?_
  refine gQ ?_
  refine eQ [0] (hk') ?_
  refine j0A _ _ fun G => ?_
  with_reducible refine sxE ?_; trivial
theorem z9G (b : List UInt8) (n : Nat) (hn : n ≤ b.length) (hb : b.length ≤ 1099511627776) :
 EffR Tryz.prog 94 [.ptr 0 0] b n (fun v : Key => .agg (KeyT.cells v)) zKey (keyP (b.drop n)) := by
 have hk := j1W b n hn hb
 generalize keyP (b.drop n) = X at *
 cases X with
 | error e =>
  have hk' := q5b hk rfl
  refine q0c (by simp) ?_
  refine rQ fi94 ?_
  refine eQ [0] (hk') ?_; trivial
 | ok x =>
  obtain ⟨v, k⟩ := x
  have hk' := q5r hk rfl
  refine q0c (by simp) ?_
  refine rQ fi94 ?_
  refine eQ [0] (hk') ?_; trivial
theorem q3z {n : Nat} {b : List UInt8} (hn : n ≤ 30) (h : b.length ≤ 16777215) (h0 : b ≠ []) : wrapS 160 n b = tlv (tagB n) b := by rw [q3f hn h, if_neg h0]
theorem q1k {t : UInt8} {c : List UInt8} : tlv t c ≠ [] := by simp [tlv]
theorem q5H (a v : Int) (c : List UInt8) (ha : 0 ≤ a ∧ a ≤ 1048576) (hv : 0 ≤ v ∧ v ≤ 1048576) (hc : c.length ≤ 65536) : keyS (a, v, c) = tlv 48 (sufS [intS a, intS v, elemS 4 [c]] 0 3) ∧ (sufS [intS a, intS v, elemS 4 [c]] 0 3).length ≤ 16777215 := by
 have i1 := q1z a
 have i2 := q1z v
 obtain ⟨c1, e1, _⟩ := q4E (v := a) (by omega)
 obtain ⟨c2, e2, _⟩ := q4E (v := v) (by omega)
 have e3 : elemS 4 [c] = tlv 4 c := q1j (by omega)
 have w3 := q0o 4 [c]
 simp only [List.flatten_cons, List.flatten_nil, List.append_nil] at w3
 have w0 := q0n 160 0 (intS a)
 have w1 := q0n 160 1 (intS v)
 have w2 := q0n 160 2 (elemS 4 [c])
 have n0 : wrapS 160 0 (intS a) ≠ [] := by rw [show (0 : Int) = ((0 : Nat) : Int) from rfl, q3z (by omega) (by omega) (by rw [e1]; exact q1k)]; exact q1k
 have n1 : wrapS 160 1 (intS v) ≠ [] := by rw [show (1 : Int) = ((1 : Nat) : Int) from rfl, q3z (by omega) (by omega) (by rw [e2]; exact q1k)]; exact q1k
 have n2 : wrapS 160 2 (elemS 4 [c]) ≠ [] := by rw [show (2 : Int) = ((2 : Nat) : Int) from rfl, q3z (by omega) (by omega) (by rw [e3]; exact q1k)]; exact q1k
 have hf : (tagN [intS a, intS v, elemS 4 [c]] 3).flatten = sufS [intS a, intS v, elemS 4 [c]] 0 3 := q4F [intS a, intS v, elemS 4 [c]]
 have ht : tagN [intS a, intS v, elemS 4 [c]] 3 = [wrapS 160 0 (intS a), wrapS 160 1 (intS v), wrapS 160 2 (elemS 4 [c])] := by simp [tagN, List.range_succ]
 have hl : (sufS [intS a, intS v, elemS 4 [c]] 0 3).length ≤ 16777215 := by
  rw [← hf, ht]
  simp only [List.flatten_cons, List.flatten_nil, List.append_nil, List.length_append]
  omega
 refine ⟨?_, hl⟩
 have hfull : allN 3 (fullAt [wrapS 160 0 (intS a), wrapS 160 1 (intS v), wrapS 160 2 (elemS 4 [c])]) = true := by
  refine q0p fun j hj => ?_
  match j, hj with
  | 0, _ => exact decide_eq_true n0
  | 1, _ => exact decide_eq_true n1
  | 2, _ => exact decide_eq_true n2
 show wholeS [wrapS 160 0 (intS a), wrapS 160 1 (intS v), wrapS 160 2 (elemS 4 [c])] = _
 unfold wholeS
 rw [show ([wrapS 160 0 (intS a), wrapS 160 1 (intS v), wrapS 160 2 (elemS 4 [c])] : List (List UInt8)).length = 3 from rfl, if_pos hfull, ← ht, q1n (by rw [hf]; exact hl), hf]
theorem j0N (a v : Int) (c : List UInt8) (ha : 0 ≤ a ∧ a ≤ 1048576) (hv : 0 ≤ v ∧ v ≤ 1048576) (hc : c.length ≤ 65536) (r : List UInt8) : keyP (keyS (a, v, c) ++ r) = .ok ((a, v, c), (keyS (a, v, c)).length) := by
 have i1 := q1z a
 have i2 := q1z v
 obtain ⟨c1, e1, _⟩ := q4E (v := a) (by omega)
 obtain ⟨c2, e2, _⟩ := q4E (v := v) (by omega)
 have e3 : elemS 4 [c] = tlv 4 c := q1j (by omega)
 have w3 := q0o 4 [c]
 simp only [List.flatten_cons, List.flatten_nil, List.append_nil] at w3
 have hL : ∀ j, (([intS a, intS v, elemS 4 [c]] : List (List UInt8)).getD j []).length ≤ 16777215 := fun j => by
  match j with
  | 0 => show (intS a).length ≤ _; omega
  | 1 => show (intS v).length ≤ _; omega
  | 2 => show (elemS 4 [c]).length ≤ _; omega
  | j + 3 => exact Nat.zero_le _
 obtain ⟨hS, hin⟩ := q5H a v c ha hv hc
 rw [hS]
 refine q3C hin ?_ r
 have q0 : intP (([intS a, intS v, elemS 4 [c]] : List (List UInt8)).getD 0 []) = .ok (a, (([intS a, intS v, elemS 4 [c]] : List (List UInt8)).getD 0 []).length) := full (e := intS a) (q8N (by omega))
 have q1 : intP (([intS a, intS v, elemS 4 [c]] : List (List UInt8)).getD 1 []) = .ok (v, (([intS a, intS v, elemS 4 [c]] : List (List UInt8)).getD 1 []).length) := full (e := intS v) (q8N (by omega))
 have q2 : octP (([intS a, intS v, elemS 4 [c]] : List (List UInt8)).getD 2 []) = .ok (c, (([intS a, intS v, elemS 4 [c]] : List (List UInt8)).getD 2 []).length) := full (e := elemS 4 [c]) (z5B (by omega))
 have n0 : ([intS a, intS v, elemS 4 [c]] : List (List UInt8)).getD 0 [] ≠ [] := by show intS a ≠ []; rw [e1]; exact q1k
 have n1 : ([intS a, intS v, elemS 4 [c]] : List (List UInt8)).getD 1 [] ≠ [] := by show intS v ≠ []; rw [e2]; exact q1k
 have n2 : ([intS a, intS v, elemS 4 [c]] : List (List UInt8)).getD 2 [] ≠ [] := by show elemS 4 _ ≠ []; rw [e3]; exact q1k
 have g := q3d (f := fun a => bindP (needP 1 intP) fun k => bindP (needP 2 octP) fun c => retP ((a, k, c) : Key)) (q1y (k := 2) hL (by omega) n0 q0)
  (q3d (f := fun k => bindP (needP 2 octP) fun c => retP ((a, k, c) : Key)) (q1y (k := 1) hL (by omega) n1 q1)
   (q3d (f := fun c => retP ((a, v, c) : Key)) (q1y (k := 0) hL (by omega) n2 q2) rfl))
 show tripIn _ = _
 unfold tripIn
 rw [g]
 congr 2
 rw [q0T, q0T, q0T]
 simp only [sufS, List.range'_zero, List.map_nil, List.flatten_nil, List.append_nil, List.length_append, Nat.zero_add, Nat.reduceAdd]
 omega
theorem z6K (a v : Int) (c : List UInt8) : (keyS (a, v, c)).length ≤ c.length + 58 := by
 have i1 := q1z a
 have i2 := q1z v
 have w3 := q0o 4 [c]
 simp only [List.flatten_cons, List.flatten_nil, List.append_nil] at w3
 have w0 := q0n 160 0 (intS a)
 have w1 := q0n 160 1 (intS v)
 have w2 := q0n 160 2 (elemS 4 [c])
 show (wholeS [wrapS 160 0 (intS a), wrapS 160 1 (intS v), wrapS 160 2 (elemS 4 [c])]).length ≤ _
 have w4 := q0o 48 [wrapS 160 0 (intS a), wrapS 160 1 (intS v), wrapS 160 2 (elemS 4 [c])]
 simp only [List.flatten_cons, List.flatten_nil, List.append_nil, List.length_append] at w4
 unfold wholeS
 split
 · omega
 simp
theorem q8t {α : Type} (f : α → List UInt8) (B : Nat) : ∀ l : List α, (∀ x ∈ l, (f x).length ≤ B) → (l.map f).flatten.length ≤ B * l.length
 | [], _ => by simp
 | x :: l, h => by
  have h1 := h x (by simp)
  have h2 := q8t f B l fun y hy => h y (by simp [hy])
  simp only [List.map_cons, List.flatten_cons, List.length_append, List.length_cons, Nat.mul_add, Nat.mul_one]
  omega
def keyOk3 (a v : Int) (c : List UInt8) : Prop := (0 ≤ a ∧ a ≤ 1048576) ∧ (0 ≤ v ∧ v ≤ 1048576) ∧ c.length ≤ 65536
def keyOk : Key → Prop
 | (a, v, c) => keyOk3 a v c
theorem z9I {k : Key} (h : keyOk k) (r : List UInt8) : keyP (keyS k ++ r) = .ok (k, (keyS k).length) := by
 obtain ⟨a, v, c⟩ := k
 exact j0N a v c h.1 h.2.1 h.2.2 r
theorem j1A {k : Key} (h : keyOk k) : (keyS k).length ≤ 65600 := by
 obtain ⟨a, v, c⟩ := k
 have h1 := z6K a v c
 have h2 : c.length ≤ 65536 := h.2.2
 exact Nat.le_trans h1 (by omega)
theorem z9z {k : Key} (h : keyOk k) : keyS k ≠ [] := by
 obtain ⟨a, v, c⟩ := k
 rw [(q5H a v c h.1 h.2.1 h.2.2).1]
 exact q1k
theorem z9d {n : Nat} (h : n ≤ 1099511627776) : if timO (n : Int) = [] then n = 0 else timeP (timO (n : Int)) = .ok (n, (timO (n : Int)).length) := by
 by_cases h0 : n = 0
 · rw [if_pos (by unfold timO; rw [if_pos (by omega)])]; exact h0
 have e : timO (n : Int) = timeS n := by unfold timO; rw [if_neg (by omega)]
 rw [e, if_neg (by rw [q3J (by omega)]; exact q1k)]
 exact full (z2y h)
theorem z8f {l : List (List UInt8)} (h : (sufS l 0 l.length).length ≤ 16777215) : tagS l = tlv 48 (sufS l 0 l.length) := by
 unfold tagS
 rw [q1n (by rw [q4F]; exact h), q4F]
theorem z0l {l : List (List UInt8)} : ∀ (k n : Nat), (sufS l n k).length ≤ ((List.range' n k).map fun j => (l.getD j []).length + 5).sum
 | 0, n => by simp [sufS]
 | k + 1, n => by
  rw [q0T, List.range'_succ]
  have := q0n 160 (n : Nat) (l.getD n [])
  have := z0l (l := l) k (n + 1)
  simp only [List.length_append, List.map_cons, List.sum_cons]
  omega
def atP {α : Type} (p : PR α) (l : List UInt8) : PR α := fun _ => match p l with
 | .ok (x, _) => .ok (x, 0)
 | .error e => .error e
def strsP (l : List UInt8) : PR (List ByteArray) := atP (listP strP l.length) l
def nameIn : PR Prin := bindP (needP 0 (rdP 48 decOct)) fun l => bindP (strsP l) fun xs => bindP (needP 1 strP) fun t => retP ((xs, t) : Prin)
def chkP {α : Type} (q : α → Bool) : Except Nat (α × Nat) → Except Nat (α × Nat)
 | .ok (v, k) => if q v = true then .ok (v, k) else .error 6
 | .error e => .error e
def nameP : PR Prin := fun r => chkP vPrin (inP 48 nameIn r)
theorem z4a {α : Type} (f : α → List UInt8) : ∀ l : List α, (∀ x ∈ l, f x ≠ []) → l.length ≤ (l.map f).flatten.length
 | [], _ => by simp
 | x :: l, h => by
  have h1 := List.length_pos_iff.2 (h x (by simp))
  have h2 := z4a f l fun y hy => h y (by simp [hy])
  simp only [List.map_cons, List.flatten_cons, List.length_append, List.length_cons]
  omega
def strE (s : ByteArray) : List UInt8 := elemS 27 [s.data.toList]
theorem q8y (s : ByteArray) : (strE s).length ≤ s.size + 5 := by
 have := q0o 27 [s.data.toList]
 have hl : s.data.toList.length = s.size := by simp
 simp only [List.flatten_cons, List.flatten_nil, List.append_nil] at this
 unfold strE; omega
theorem z0u {s : ByteArray} (h : s.size ≤ 16777215) : strE s ≠ [] := by
 have hl : s.data.toList.length = s.size := by simp
 unfold strE
 rw [q1j (by omega)]; exact q1k
theorem q9D (xs : List ByteArray) (t : ByteArray) (hn : xs.length ≤ 16) (hx : ∀ x ∈ xs, x.size ≤ 65536) (ht : t.size ≤ 65536) :
 (sufS [elemS 48 (strsN xs xs.length), strE t] 0 2).length ≤ 1200000 ∧ nameIn (sufS [elemS 48 (strsN xs xs.length), strE t] 0 2) = .ok ((xs, t), (sufS [elemS 48 (strsN xs xs.length), strE t] 0 2).length) := by
 have e0 : strsN xs xs.length = xs.map strE := by unfold strsN strE; rw [List.take_length]
 have hb : (xs.map strE).flatten.length ≤ 1048700 := by
  have := q8t strE 65541 xs fun x hx' => by
   have := q8y x
   have := hx x hx'
   omega
  have h4 : 65541 * xs.length ≤ 65541 * 16 := Nat.mul_le_mul_left _ hn
  omega
 have e1 : elemS 48 (strsN xs xs.length) = tlv 48 (xs.map strE).flatten := by rw [e0, q1n (by omega)]
 have hF := z4a strE xs fun x hx' => z0u (by have := hx x hx'; omega)
 have l1 := q8y t
 have l0 : (elemS 48 (strsN xs xs.length)).length ≤ 1048705 := by
  have := q0o 48 (strsN xs xs.length)
  rw [e0] at this ⊢
  omega
 have hs := z0l (l := [elemS 48 (strsN xs xs.length), strE t]) 2 0
 have hs' : (sufS [elemS 48 (strsN xs xs.length), strE t] 0 2).length ≤ 1200000 := by
  refine Nat.le_trans hs ?_
  show (elemS 48 (strsN xs xs.length)).length + 5 + ((strE t).length + 5 + 0) ≤ _
  omega
 refine ⟨hs', ?_⟩
 have hL : ∀ j, (([elemS 48 (strsN xs xs.length), strE t] : List (List UInt8)).getD j []).length ≤ 16777215 := fun j => by
  match j with
  | 0 => show (elemS 48 (strsN xs xs.length)).length ≤ _; omega
  | 1 => show (strE t).length ≤ _; omega
  | j + 2 => exact Nat.zero_le _
 have q0 : rdP 48 decOct (elemS 48 (strsN xs xs.length)) = .ok ((xs.map strE).flatten, (elemS 48 (strsN xs xs.length)).length) := by
  rw [e1]
  exact full (q4R (by omega) rfl)
 have n0 : elemS 48 (strsN xs xs.length) ≠ [] := by rw [e1]; exact q1k
 have q1 : listP strP (xs.map strE).flatten.length (xs.map strE).flatten = .ok (xs, (xs.map strE).flatten.length) := q8O xs _ hF fun x hx' => ⟨z0u (by have := hx x hx'; omega), z3N (by have := hx x hx'; omega)⟩
 have q1' : ∀ r, strsP (xs.map strE).flatten r = .ok (xs, 0) := fun r => by unfold strsP atP; rw [q1]
 have q2 : strP (strE t) = .ok (t, (strE t).length) := full (z3N (by omega))
 have n2 : strE t ≠ [] := z0u (by omega)
 have g := q3d (f := fun l => bindP (strsP l) fun xs => bindP (needP 1 strP) fun t => retP ((xs, t) : Prin)) (q1y (l := [elemS 48 (strsN xs xs.length), strE t]) (n := 0) (k := 1) hL (by omega) n0 q0)
  (q3d (p := strsP (xs.map strE).flatten) (f := fun xs => bindP (needP 1 strP) fun t => retP ((xs, t) : Prin)) (r' := sufS [elemS 48 (strsN xs xs.length), strE t] 1 1) ⟨q1' _, List.drop_zero⟩
   (q3d (f := fun t => retP ((xs, t) : Prin)) (q1y (l := [elemS 48 (strsN xs xs.length), strE t]) (n := 1) (k := 0) hL (by omega) n2 q2) rfl))
 unfold nameIn
 rw [g]
 congr 2
 rw [q0T, q0T]
 simp only [sufS, List.range'_zero, List.map_nil, List.flatten_nil, List.append_nil, List.length_append, Nat.zero_add, Nat.reduceAdd]
 omega
theorem z6H (xs : List ByteArray) (t : ByteArray) (hn : xs.length ≤ 16) (hx : ∀ x ∈ xs, x.size ≤ 65536) (ht : t.size ≤ 65536) (hv : vPrin (xs, t) = true) :
 (∀ r : List UInt8, nameP (prinS (xs, t) ++ r) = .ok ((xs, t), (prinS (xs, t)).length)) ∧ (prinS (xs, t)).length ≤ 1200010 ∧ prinS (xs, t) ≠ [] := by
 obtain ⟨h1, h2⟩ := q9D xs t hn hx ht
 have hS : prinS (xs, t) = tlv 48 (sufS [elemS 48 (strsN xs xs.length), strE t] 0 2) := by
  show elemS 48 [wrapS 160 0 (elemS 48 (strsN xs xs.length)), wrapS 160 1 (strE t)] = _
  have e : ([wrapS 160 0 (elemS 48 (strsN xs xs.length)), wrapS 160 1 (strE t)] : List (List UInt8)).flatten = sufS [elemS 48 (strsN xs xs.length), strE t] 0 2 := by
   rw [q0T, q0T]
   simp [sufS]
  rw [q1n (by rw [e]; omega), e]
 rw [hS]
 refine ⟨fun r => ?_, ?_, q1k⟩
 · unfold nameP
   rw [q3C (by omega) h2 r]
   simp only [chkP]
   rw [if_pos hv]
 rw [q0U]
 have := q3m (sufS [elemS 48 (strsN xs xs.length), strE t] 0 2).length
 omega
def FR (i : Nat) (b : List UInt8) (n : Nat) : Except Nat (List UInt8 × Nat) → Prop
 | .ok (l, k) => PE Tryz.prog 226 [.ptr 0 0, rI i, .fn 196 [] []] [rdr b n] (.ret (.ptr 2 0)) [rdr b (n + k), .dead, rdr l 0]
 | .error e => PE Tryz.prog 226 [.ptr 0 0, rI i, .fn 196 [] []] [rdr b n] (.pan (errV e)) [.dead]
theorem j2u (i : Nat) (hi : i ≤ 30) (b : List UInt8) (n : Nat) (hn : n ≤ b.length) (hb : b.length ≤ 1099511627776) : FR i b n (needP i (rdP 48 decOct) (b.drop n)) := by
 cases h : nextB i (b.drop n) with
 | false =>
  rw [q4y h, List.length_drop]
  have hs := q4W i hi b n hn h
  have hl := q2C b n hn
  generalize b.length - n = q at *
  refine q0c (by simp) ?_
  refine rQ fi226 ?_
  refine eQ [0] (hs) ?_
  refine eQ [0] (hl) ?_
  by_cases hq : q = 0
  · simp [hq]
  simp [hq]
 | true =>
  rw [q4o h]
  by_cases h1 : takeE (tagB i) (b.drop n) = 0
  · rw [q9E h1]
    have hs := q2U i hi b n hn hb h h1
    have hc := q0V (n := n) hb
    generalize takeC (b.drop n) = c at *
    generalize takeN (b.drop n) = N at *
    by_cases h2 : takeE 48 c = 0
    · have hx : rdP 48 decOct c = .ok (takeC c, takeN c) := by unfold rdP; rw [if_pos h2]; rfl
      rw [hx]
      have hr := q1P c 0 (Nat.zero_le _) hc (by rw [List.drop_zero]; exact h2)
      rw [List.drop_zero, Nat.zero_add] at hr
      have hm := q4N h2
      generalize takeC c = l at *
      generalize takeN c = m at *
      have hl := q2C c m hm
      simp only [closeP]
      by_cases hml : m < c.length
      · rw [if_pos hml]
        refine q0c (by simp) ?_
        refine rQ fi226 ?_
        refine eQ [0] (hs) ?_
        refine eQ [1] (hr) ?_
        refine eQ [2] (q6u l 0) ?_
        refine eQ [1] (hl) ?_
        exact ⟨fun _ => rfl, fun q => absurd (by omega) q⟩
      rw [if_neg hml]
      refine q0c (by simp) ?_
      refine rQ fi226 ?_
      refine eQ [0] (hs) ?_
      refine eQ [1] (hr) ?_
      refine eQ [2] (q6u l 0) ?_
      refine eQ [1] (hl) ?_
      exact ⟨fun q => absurd q (by omega), fun _ => trivial⟩
    have hx : rdP 48 decOct c = .error (takeE 48 c) := by unfold rdP; rw [if_neg h2]
    rw [hx]
    have hr := q3E c 0 (Nat.zero_le _) hc (by rw [List.drop_zero]; exact h2)
    rw [List.drop_zero] at hr
    generalize takeE 48 c = e at *
    refine q0c (by simp) ?_
    refine rQ fi226 ?_
    refine eQ [0] (hs) ?_
    refine eQ [1] (hr) ?_
    refine effP [] (q5v e h2) ?_; trivial
  rw [q9y h1]
  have hs := q5a i hi b n hn hb h h1
  generalize takeE (tagB i) (b.drop n) = e at *
  refine q0c (by simp) ?_
  refine rQ fi226 ?_
  refine eQ [0] (hs) ?_
  exact ⟨fun _ => trivial, fun q => absurd (by omega) h1⟩
theorem z0A (b : List UInt8) (n : Nat) : PE Tryz.prog 223 [.ptr 0 0] [rdr b n] (.ret (.ptr 1 0)) [rdr b n, rdr b n] := by
 refine q0c (by simp) ?_
 refine rQ fi223 ?_; trivial
theorem q4V (b : List UInt8) (n m e : Nat) (T2 T3 T4 T5 : TypeId) (x y : SV) (z : Value) (R : List SObj) (K : List SObj → Prop)
 (h : K ([rdr b n, .cells T2 [.ptr 0 0], .cells T3 [.raw (.slice none 0 0), rS ⟨#[]⟩], .cells T4 [rI e], rdr b n, .cells T5 [.ptr 4 0]] ++ R)) :
 DCall Tryz.prog 224 [.ptr 5 0, .ptr 1 0, .ptr 2 0, .ptr 3 0] (some (errV e)) ([rdr b m, .cells T2 [.ptr 0 0], .cells T3 [x, y], .cells T4 [.raw z], rdr b n, .cells T5 [.ptr 4 0]] ++ R) K := by
 refine j1g fi224 ?_
 refine uQ 13 _ ?_
 with_reducible refine sxaE ?_
 refine q1F [1, 4, 5] mixed ?_
 refine aQ ?_
 exact h
abbrev zPrin : SV := .agg [.isl .str [], rS ⟨#[]⟩]
def rO {α : Type} (res : α → SV) (z : SV) : Except Nat (α × Nat) → Out
 | .ok (v, _) => .ret (.tup [res v, rI 0])
 | .error e => .ret (.tup [z, rI e])
def rH {α : Type} (b : List UInt8) (n : Nat) : Except Nat (α × Nat) → List SObj
 | .ok (_, k) => [rdr b (n + k)]
 | .error _ => [rdr b n]
attribute [go_sem] rO rH
theorem j0w {P : Program} {α : Type} {f : FuncId} {args : List SV} {b : List UInt8} {n : Nat} {res : α → SV} {z : SV} {x : Except Nat (α × Nat)} (h : VC P f args [rdr b n] (SealO (rO res z x) (rH b n x))) : EffR P f args b n res z x := by
 cases x with
 | error e => exact q0c (by simp [rH]) h
 | ok y => exact q0c (by simp [rH]) h
theorem z9x (b : List UInt8) (n : Nat) (hn : n ≤ b.length) (hb : b.length ≤ 1099511627776) (h : takeE 48 (b.drop n) ≠ 0) :
 EffR Tryz.prog 176 [.ptr 0 0] b n (fun p : Prin => .agg (PrinT.cells p)) zPrin (nameP (b.drop n)) := by
 have hs := q3E b n hn hb h
 have he : nameP (b.drop n) = .error (takeE 48 (b.drop n)) := by unfold nameP; rw [q9y h]; rfl
 rw [he]
 clear he
 generalize takeE 48 (b.drop n) = e at *
 refine q0c (by simp) ?_
 refine defE mixed fi176 ?_
 refine eQ [0] (z0A b n) ?_
 refine gQ ?_
 refine eQ [0] (hs) ?_
 refine effP [] (q5v e h) ?_
 refine ⟨by simp, q4V b n n e _ _ _ _ _ _ _ [] _ ?_⟩
 with_reducible refine sxE ?_; trivial
theorem z7g {β : Type} {l r : List UInt8} {f : List ByteArray → PR β} {e : Nat} (h : listP strP l.length l = .error e) : bindP (strsP l) f r = .error e := by unfold bindP strsP atP; rw [h]
theorem z7U {β : Type} {l r : List UInt8} {f : List ByteArray → PR β} {xs : List ByteArray} {m : Nat} (h : listP strP l.length l = .ok (xs, m)) : bindP (strsP l) f r = shiftP 0 (f xs r) := by
 unfold bindP strsP atP
 rw [h]
 simp only [List.drop_zero]
 cases f xs r with
 | error e => rfl
 | ok y => rfl
theorem z6O {α : Type} {j k : Nat} {x : Except Nat (α × Nat)} : shiftP j (shiftP k x) = shiftP (j + k) x := by
 cases x with
 | error e => rfl
 | ok y => obtain ⟨u, m⟩ := y; simp only [shiftP, Nat.add_assoc]
theorem j0a (H : List SObj) (K : List SObj → Prop) (h : ∀ G, K (H ++ G)) : DCall Tryz.prog 224 [.ptr 5 0, .ptr 1 0, .ptr 2 0, .ptr 3 0] none H K := by
 refine recE mixed fi224 ?_
 simpa using h []
theorem j0f (b : List UInt8) (n : Nat) (hn : n ≤ b.length) (hb : b.length ≤ 1099511627776) (h : takeE 48 (b.drop n) = 0) :
 EffR Tryz.prog 176 [.ptr 0 0] b n (fun p : Prin => .agg (PrinT.cells p)) zPrin (nameP (b.drop n)) := by
 have hs := q1P b n hn hb h
 have hc := q0V (n := n) hb
 have he : nameP (b.drop n) = chkP vPrin (closeP (takeC (b.drop n)).length (takeN (b.drop n)) (nameIn (takeC (b.drop n)))) := by unfold nameP; rw [q9E h]
 generalize nameP (b.drop n) = Y at *
 generalize takeC (b.drop n) = c at *
 generalize takeN (b.drop n) = N at *
 refine j0w ?_
 unfold nameIn at he
 have f0 := j2u 0 (by omega) c 0 (Nat.zero_le _) hc
 rw [List.drop_zero] at f0
 refine defE mixed fi176 ?_
 refine eQ [0] (z0A b n) ?_
 refine gQ ?_
 refine eQ [0] (hs) ?_
 refine eQ [6] (q6u c 0) ?_
 cases h1 : needP 0 (rdP 48 decOct) c with
 | error e =>
  rw [q2Q h1] at he
  subst he
  rw [h1] at f0
  have f0' : PE Tryz.prog 226 [.ptr 0 0, rI (0 : Nat), .fn 196 [] []] [rdr c 0] (.pan (errV e)) [.dead] := f0
  simp only [closeP, chkP]
  refine effP [6] (f0') ?_
  refine ⟨by simp, q4V b n _ e _ _ _ _ _ _ _ [_] _ ?_⟩
  with_reducible refine sxE ?_; trivial
 | ok x =>
  obtain ⟨l, k⟩ := x
  rw [q7Q h1] at he
  have hk := q0f _ _ _ h1
  rw [h1] at f0
  have f0' : PE Tryz.prog 226 [.ptr 0 0, rI (0 : Nat), .fn 196 [] []] [rdr c 0] (.ret (.ptr 2 0)) [rdr c (0 + k), .dead, rdr l 0] := f0
  rw [Nat.zero_add] at f0'
  refine eQ [6] (f0') ?_
  have hlb : l.length ≤ 1099511627776 := (q3j (z1Q (Q := fun v : List UInt8 => v.length ≤ 1099511627776) fun c v hc hd => by unfold decOct at hd; cases hd; exact hc)) c l k hc h1
  generalize hX : listP strP l.length l = X
  refine q3S 2 0 .str rfl rfl rfl ?_
  with_reducible refine sxE ?_
  refine q1f (ι := Nat × List ByteArray × List SObj) (fun s => []) (fun s => [rdr b (n + N), .cells 75 [.ptr 0 0], .cells 31 [.bld (s.2.2.length + 9) .str s.2.1.length, rS ⟨#[]⟩], .cells 38 [rI 0], rdr b n, .cells 75 [.ptr 4 0], rdr c k, .dead, rdr l s.1] ++ s.2.2 ++ [.row .str s.2.1]) (fun s => l.length - s.1) (fun s => s.2.1.length ≤ s.1 ∧ s.1 ≤ l.length ∧ (∀ x ∈ s.2.1, x.size ≤ 1099511627776) ∧ X = tailP s.2.1 s.1 (listP strP (l.length - s.2.1.length) (l.drop s.1))) (0, [], []) ⟨Nat.le_refl _, Nat.zero_le _, by simp, ?_⟩ rfl ?_ ?_
  · rw [List.drop_zero, List.length_nil, Nat.sub_zero, q7I]; exact hX.symm
  · with_reducible refine sxE ?_; trivial
  rintro ⟨m, xs, G⟩ ⟨i1, i2, i4, i3⟩
  dsimp only at i1 i2 i3 i4
  have hleft := q2C l m i2
  refine aQ ?_
  refine q1s [8] hleft rfl (by decide) ⟨rfl, rfl, trivial⟩ rfl rfl ?_
  simp only [afterO, Out.ren, SV.ren, mgA, sig, SObj.ren, SV.renL, List.cons_append, List.nil_append, List.append_assoc, List.set_cons_zero, List.set_cons_succ, List.set, List.map, List.append_nil]
  refine uQ 5 _ ?_
  with_reducible refine sxaE ?_
  refine ⟨fun hp0 => ?_, fun hp0 => ?_⟩
  · have hml : m < l.length := by omega
    refine q7M [2] mixed ?_
    refine aQ ?_
    cases hp : strP (l.drop m) with
    | error e =>
     have hr := z4i l m i2 hlb hp
     have hXe := i3.trans (q2Y hml (by omega) hp)
     rw [z7g (hX.trans hXe)] at he
     subst he
     simp only [shiftP, closeP, chkP]
     refine q0j [8] hr rfl (by decide) ⟨rfl, rfl, trivial⟩ rfl rfl ?_ ?_
     · simp (maxSteps := 3000000) only [mgA, sig, q0Z, q1l, List.append_assoc, getA, getA0, setA, setA0, List.length_append, Nat.add_assoc, go_sem, ↓zA, ↓reduceIte, ↓reduceDIte] <;> try simp only [zB]
     refine rnE ?_
     refine aQ ?_
     refine q0j [] (q5u (.string ⟨#[]⟩) e (q3F hp)) rfl (by decide) trivial rfl rfl ?_ ?_
     · simp (maxSteps := 3000000) only [mgA, sig, q0Z, q1l, List.append_assoc, getA, getA0, setA, setA0, List.length_append, Nat.add_assoc, go_sem, ↓zA, ↓reduceIte, ↓reduceDIte] <;> try simp only [zB]
     refine rnE ?_
     refine z5g ?_
     with_reducible refine sxaE ?_
     refine ⟨by simp, ?_⟩
     have hpan := fun K hK => q4V b n (n + N) e 75 31 38 75 (.bld (G.length + 9) .str xs.length) (rS ⟨#[]⟩) (.int .i64 0) ([rdr c k, .dead, rdr l m] ++ G ++ [.row .str xs]) K hK
     simp only [List.cons_append, List.nil_append, List.append_assoc] at hpan
     refine hpan _ ?_
     with_reducible refine sxaE ?_; trivial
    | ok y =>
     obtain ⟨v, q⟩ := y
     have hr := z3D l m i2 hlb hp
     have hfit := z8E hp
     have hq2 := z5h (q4q hp).1
     have hq : 2 ≤ q := by rw [(q4q hp).2.2]; exact hq2
     have hvs := z6s (l.drop m) v q (by rw [List.length_drop]; omega) hp
     rw [List.length_drop] at hfit
     have hXs := i3.trans (q5f hml (by omega) hp)
     refine q0j [8] hr rfl (by decide) ⟨rfl, rfl, trivial⟩ rfl rfl ?_ ?_
     · simp (maxSteps := 3000000) only [mgA, sig, q0Z, q1l, List.append_assoc, getA, getA0, setA, setA0, List.length_append, Nat.add_assoc, go_sem, ↓zA, ↓reduceIte, ↓reduceDIte] <;> try simp only [zB]
     refine rnE ?_
     refine aQ ?_
     refine q0b (q6L _) ?_
     refine aQ ?_
     refine ⟨by show v.size ≤ _; omega, ⟨by omega, by omega⟩, z8F ?_⟩
     refine aQ ?_
     refine ⟨(m + q, xs ++ [v], G ++ [.dead, .row .str [v]]), ⟨by simp; omega, by dsimp only; omega, fun x hx => ?_, ?_⟩, by dsimp only; omega, ?_, ?_⟩
     · rcases List.mem_append.1 hx with hx | hx
       · exact i4 x hx
       rw [List.mem_singleton] at hx; subst hx; exact hvs
     · dsimp only
       rw [hXs, List.length_append, List.length_singleton, Nat.sub_sub]
     · simp
     with_reducible refine sxaE ?_; trivial
  have hXe := i3.trans (q6v (by omega))
  rw [z7U (hX.trans hXe), z6O, Nat.add_zero] at he
  clear hX hXe i3
  refine z2Q (ty := .str) (xs := xs) [rdr b (n + N), .cells 75 [.ptr 0 0], .cells 31 [.bld (G.length + 9) .str xs.length, rS ⟨#[]⟩], .cells 38 [rI 0], rdr b n, .cells 75 [.ptr 4 0], rdr c k, .dead, rdr l m] [rdr b (n + N), .cells 75 [.ptr 0 0], .cells 31 [.bld 9 .str xs.length, rS ⟨#[]⟩], .cells 38 [rI 0], rdr b n, .cells 75 [.ptr 4 0], rdr c k, .dead, rdr l m] G rfl (by simp) (by simp) ?_ (by rfl) ?_ ?_ ?_
  · simp [SObj.ren, SV.ren, SV.renL, shift, Nat.add_comm]
  · rfl
  · with_reducible refine sxE ?_; trivial
  with_reducible refine sxE ?_
  have hxs : xs.length ≤ 1099511627776 := by omega
  refine q1t 9 rfl rfl (by omega) ?_ ?_ ?_
  · with_reducible refine sxE ?_
    exact Nat.le_refl _
  · with_reducible refine sxE ?_; trivial
  with_reducible refine sxE ?_
  rw [List.take_of_length_le (Nat.le_refl _)]
  have hf1 := j2j 1 (by omega) c k hk hc
  cases h2 : needP 1 strP (c.drop k) with
  | error e =>
   rw [q2Q h2] at he
   subst he
   have hf1' := q5m hf1 h2
   simp only [shiftP, closeP, chkP]
   refine gQ ?_
   refine effP [6] (hf1') ?_
   refine ⟨by simp, ?_⟩
   have hpan := fun K hK => q4V b n (n + N) e 75 31 38 75 (.isl .str xs) (rS ⟨#[]⟩) (.int .i64 0) [.dead, .dead, rdr l m, .dead] K hK
   simp only [List.cons_append, List.nil_append, List.append_assoc] at hpan
   refine hpan _ ?_
   with_reducible refine sxE ?_; trivial
  | ok y =>
   obtain ⟨t, q⟩ := y
   rw [q3Q h2] at he
   have hf1' := q5e hf1 h2
   have hkq := q0G q0f hk h2
   have hts := q3j z6s (c.drop k) t q (by rw [List.length_drop]; omega) h2
   have hlq := q2C c (k + q) hkq
   simp only [shiftP, retP, closeP] at he
   refine gQ ?_
   refine eQ [6] (hf1') ?_
   refine eQ [6] (hlq) ?_
   refine ⟨fun hle => q0a (q2r (xs, t) ⟨⟨by show xs.length ≤ _; omega, fun x hx => by have := i4 x hx; show x.size ≤ _; omega⟩, by show t.size ≤ _; omega⟩) ?_, fun hgt => ⟨by simp, ?_⟩⟩
   · rw [if_neg (by omega)] at he
     simp only [chkP] at he
     cases hv : vPrin (xs, t) with
     | true =>
      rw [if_pos hv] at he
      subst he
      refine gQ ?_
      refine j0a _ _ fun G => ?_
      with_reducible refine sxE ?_; trivial
     | false =>
      rw [if_neg (by rw [hv]; decide)] at he
      subst he
      refine gQ ?_
      refine ⟨by simp, ?_⟩
      have hpan := fun K hK => q4V b n (n + N) 6 75 31 38 75 (.isl .str xs) (rS t) (.int .i64 0) [rdr c (k + q), .dead, rdr l m, .dead] K hK
      simp only [List.cons_append, List.nil_append, List.append_assoc] at hpan
      refine hpan _ ?_
      with_reducible refine sxE ?_; trivial
   rw [if_pos (by omega)] at he
   simp only [chkP] at he
   subst he
   have hpan := fun K hK => q4V b n (n + N) 6 75 31 38 75 (.isl .str xs) (rS t) (.int .i64 0) [rdr c (k + q), .dead, rdr l m, .dead] K hK
   simp only [List.cons_append, List.nil_append, List.append_assoc] at hpan
   refine hpan _ ?_
   with_reducible refine sxE ?_; trivial
theorem q5U {B : Nat} : ∀ (m : List (List UInt8)), (∀ x ∈ m, x.length ≤ B) → m.flatten.length ≤ B * m.length
 | [], _ => by simp
 | x :: m, h => by
  have h1 := h x (by simp)
  have h2 := q5U m (fun y hy => h y (by simp [hy]))
  simp only [List.flatten_cons, List.length_append, List.length_cons, Nat.mul_add, Nat.mul_one]
  omega
theorem q7x {l : List ByteArray} {k : Nat} (hl : l.length ≤ 4) (h : ∀ x ∈ l, x.size ≤ 32) : (strsN l k).flatten.length ≤ 148 := by
 have h1 := q5U (B := 37) (strsN l k) (fun x hx => by
  unfold strsN at hx
  rw [List.mem_map] at hx
  obtain ⟨y, hy, rfl⟩ := hx
  have h2 := h y (List.mem_of_mem_take hy)
  have h3 := q0o 27 [y.data.toList]
  have h4 : y.data.toList.length = y.size := by simp
  simp only [List.flatten_cons, List.flatten_nil, List.append_nil] at h3
  omega)
 have h2 : (strsN l k).length ≤ 4 := by unfold strsN; simp; omega
 have : 37 * (strsN l k).length ≤ 37 * 4 := Nat.mul_le_mul_left _ h2
 omega
theorem q1H {α β : Type} {p : PR α} {f : α → PR β} {l : List (List UInt8)} {n k : Nat} {v : α} {u : β} (h : p (sufS l n (k + 1)) = .ok (v, (wrapS 160 (n : Nat) (l.getD n [])).length) ∧ (sufS l n (k + 1)).drop (wrapS 160 (n : Nat) (l.getD n [])).length = sufS l (n + 1) k)
 (h2 : f v (sufS l (n + 1) k) = .ok (u, (sufS l (n + 1) k).length)) : bindP p f (sufS l n (k + 1)) = .ok (u, (sufS l n (k + 1)).length) := by
 rw [q3d h h2, q0T l n k, List.length_append]
theorem q4p {p : Prin} (h : vPrin p = true) : p.1.length ≤ 4 ∧ (∀ x ∈ p.1, x.size ≤ 32) ∧ p.2.size ≤ 32 := by
 simp only [vPrin, Bool.and_eq_true, decide_eq_true_eq, q9C, szB, q1S] at h
 refine ⟨by omega, fun x hx => ?_, by omega⟩
 obtain ⟨j, hj, rfl⟩ := List.getElem_of_mem hx
 have := h.2 j hj
 rw [j1h hj] at this
 simp only [vPart, szB, Bool.and_eq_true, decide_eq_true_eq] at this
 omega
theorem z8r {p : Prin} (h : vPrin p = true) : (prinS p).length ≤ 205 := by
 obtain ⟨h1, h2, h3⟩ := q4p h
 obtain ⟨xs, t⟩ := p
 have f := q7x (l := xs) (k := xs.length) h1 h2
 have g1 := q0o 48 (strsN xs xs.length)
 have g2 := q0o 27 [t.data.toList]
 have g3 : t.data.toList.length = t.size := by simp
 simp only [List.flatten_cons, List.flatten_nil, List.append_nil] at g2
 have g4 := q0n 160 0 (elemS 48 (strsN xs xs.length))
 have g5 := q0n 160 1 (elemS 27 [t.data.toList])
 have g6 := q0o 48 [wrapS 160 0 (elemS 48 (strsN xs xs.length)), wrapS 160 1 (elemS 27 [t.data.toList])]
 simp only [List.flatten_cons, List.flatten_nil, List.append_nil, List.length_append] at g6
 have h3' : t.size ≤ 32 := h3
 refine Nat.le_trans g6 ?_
 omega
theorem z8i {p : Prin} (h : vPrin p = true) : (∀ r : List UInt8, nameP (prinE p ++ r) = .ok (p, (prinE p).length)) ∧ (prinE p).length ≤ 205 ∧ prinE p ≠ [] := by
 have hle := z8r h
 obtain ⟨h1, h2, h3⟩ := q4p h
 have he : prinE p = prinS p := by unfold prinE; rw [if_pos h]
 rw [he]
 obtain ⟨xs, t⟩ := p
 have h1' : xs.length ≤ 4 := h1
 have h3' : t.size ≤ 32 := h3
 have := z6H xs t (by omega) (fun x hx => by have := h2 x hx; omega) (by omega) h
 exact ⟨this.1, hle, this.2.2⟩
theorem z4o (v : Int) : (timO v).length ≤ 11 := by
 unfold timO timeS
 split
 · simp
 split
 · have := q0o 24 [numS v 6]
   simpa [q0s] using this
 simp
theorem j0h {m : Nat} (h : m < 4294967296) : IntKind.u32.wrap (m : Int) = (m : Int) := by
 simp [IntKind.wrap, IntKind.bits, IntKind.signed]
 omega
theorem q8H (v : Int) : (bitsS v).length = 7 ∧ bitsS v ≠ [] := by
 rw [q6x]
 refine ⟨?_, q1k⟩
 rw [q0U]
 simp [q0s, lenS]
theorem q4b {t : Int} (h : 0 ≤ t ∧ t ≤ 1099511627776) : ∃ n : Nat, t = n ∧ n ≤ 1099511627776 := ⟨t.toNat, by omega, by omega⟩
theorem z7k {α : Type} {p : PR α} {Q Q' : α → Prop} (h : OkP p Q) (hq : ∀ v, Q v → Q' v) : OkP p Q' := fun r v m hr hx => hq v (h r v m hr hx)
theorem z9L {p : PR Prin} {Q : Prin → Prop} (hq : ∀ v, vPrin v = true → Q v) : OkP (fun r => chkP vPrin (p r)) Q := fun r v m _ hx => by
 have hx : chkP vPrin (p r) = .ok (v, m) := hx
 cases hp : p r with
 | error e => rw [hp] at hx; cases hx
 | ok y =>
  obtain ⟨u, k⟩ := y
  rw [hp] at hx
  simp only [chkP] at hx
  split at hx
  · cases hx; exact hq _ (by assumption)
  cases hx
theorem j1B {p : Prin} (h : vPrin p = true) : PrinT.ok p := by
 obtain ⟨h1, h2, h3⟩ := q4p h
 exact ⟨⟨by omega, fun x hx => by have := h2 x hx; show x.size ≤ _; omega⟩, by show p.2.size ≤ _; omega⟩
theorem z7y : OkP nameP PrinT.ok := z9L fun _ h => j1B h
theorem z3G : OkP octP (Ty.slice .u8).ok := z1Q fun c v hc hd => by
 unfold decOct at hd; cases hd
 exact ⟨by show c.length ≤ _; omega, fun _ _ => trivial⟩
theorem j2J {t : Ty} {p : PR t.den} (n : Nat) (hn : n ≤ 1000) (h : OkP p t.ok) : OkP (inP 48 (listP p n)) (Ty.slice t).ok := q4u (z7k (q5C h n) fun v hv => ⟨by have := hv.1; omega, hv.2⟩)
theorem z1G {t : Ty} : (Ty.slice t).ok ([] : List t.den) := ⟨by simp, by simp⟩
theorem z7N : OkP bitsP fun n => n ≤ 4294967295 := z1Q fun c v _ hd => by
 unfold decBits at hd
 split at hd
 · rename_i h
   cases hd
   have := q3b (c.drop 1)
   rw [List.length_drop, h.1] at this
   have e : 256 ^ (5 - 1) = 4294967296 := by decide
   omega
 cases hd
theorem j0V : OkP keyP KeyT.ok := q4u (q1p (Q1 := fun _ => True) q1R fun _ _ => q1p (Q1 := fun _ => True) q1R fun _ _ => q1p (q3j z3G) fun _ hc => z0G ⟨trivial, trivial, hc⟩)
theorem j0S : (Ty.str).ok (⟨#[]⟩ : ByteArray) := by show (⟨#[]⟩ : ByteArray).size ≤ _; exact Nat.zero_le _
theorem q6y {α : Type} {p : PR α} (hp : ErrP p) : ∀ n, ErrP (listP p n)
 | 0, r, e, h => by
  simp only [listP] at h
  split at h <;> cases h
  decide
 | n + 1, r, e, h => by
  simp only [listP] at h
  split at h
  · cases h
  cases h1 : p r with
  | error e1 => rw [h1] at h; cases h; exact hp r _ h1
  | ok y =>
   obtain ⟨u, k⟩ := y
   rw [h1] at h
   simp only at h
   cases h2 : listP p n (r.drop k) with
   | error e2 => rw [h2] at h; cases h; exact q6y hp n _ _ h2
   | ok z => obtain ⟨w, l⟩ := z; rw [h2] at h; cases h
theorem z7W : ErrP nameP := fun r e h => by
 have hin : ErrP (inP 48 nameIn) := q6E (q2i (q2D q3H) fun l => q2i (fun r' e' h' => by
  unfold strsP atP at h'
  cases h1 : listP strP l.length l with
  | error e1 => rw [h1] at h'; cases h'; exact q6y q3H _ _ _ h1
  | ok y => obtain ⟨u, k⟩ := y; rw [h1] at h'; cases h') fun _ => q2i (q2D q3H) fun _ => q7T)
 unfold nameP at h
 cases h1 : inP 48 nameIn r with
 | error e1 => rw [h1] at h; cases h; exact hin r _ h1
 | ok y =>
  obtain ⟨u, k⟩ := y
  rw [h1] at h
  simp only [chkP] at h
  split at h <;> cases h
  decide
theorem z3y : FitsP nameP := fun r v m h => by
 unfold nameP at h
 cases h1 : inP 48 nameIn r with
 | error e1 => rw [h1] at h; cases h
 | ok y =>
  obtain ⟨u, k⟩ := y
  rw [h1] at h
  simp only [chkP] at h
  split at h
  · cases h; exact q1G r _ _ h1
  cases h
theorem j2h (b : List UInt8) (n : Nat) (hn : n ≤ b.length) (hb : b.length ≤ 1099511627776) :
 EffR Tryz.prog 176 [.ptr 0 0] b n (fun p : Prin => .agg (PrinT.cells p)) zPrin (nameP (b.drop n)) := by
 by_cases h : takeE 48 (b.drop n) = 0
 · exact j0f b n hn hb h
 exact z9x b n hn hb h
@[go_sem] abbrev wrongV : SV := .iface 130 (.agg [rI 6])
theorem q2z : PC Tryz.prog 104 [.raw (.bool true)] (.tup []) := by
 refine q0B rfl rfl ?_
 refine rQ fi104 ?_; trivial
theorem q9Y : PE Tryz.prog 104 [.raw (.bool false)] [] (.pan wrongV) [] := by
 refine q0c (by simp) ?_
 refine rQ fi104 ?_; trivial
theorem q0h {AQ : Ex → List SV → List SObj → Prop} {x : Bool} {d : Option Tmp} {m : IM} (h1 : x = true → SoundI Tryz.prog AQ { m with tmps := putT m.tmps d (.tup []) }) (h2 : x = false → AQ (.pan wrongV) m.tmps m.heap) :
 CallI Tryz.prog AQ 104 [.raw (.bool x)] d m := by
 cases x with
 | true => exact q0a q2z (h1 rfl)
 | false =>
  refine q1s [] q9Y rfl (by decide) trivial rfl rfl ?_
  have : mgA (sig [] m.heap.length) [] [] m.heap = m.heap := by simp [mgA]
  rw [this]
  exact h2 rfl
theorem q3W (v : Value) : PC Tryz.prog 166 [.raw v, rI 0] (.raw v) := by
 refine q0B rfl rfl ?_
 refine rQ fi166 ?_
 refine q0a q2z ?_
 refine gQ ?_; trivial
theorem q2E (v : Value) (e : Nat) (he : e ≠ 0) : PE Tryz.prog 166 [.raw v, rI e] [] (.pan wrongV) [] := by
 refine q0c (by simp) ?_
 refine rQ fi166 ?_
 refine q0h (fun h => absurd h (by simp; omega)) fun _ => ?_
 with_reducible refine sxE ?_; trivial
theorem z6x (v : Value) : PC Tryz.prog 171 [.raw v, rI 0] (.raw v) := by
 refine q0B rfl rfl ?_
 refine rQ fi171 ?_
 refine q0a q2z ?_
 refine gQ ?_; trivial
theorem z0I (v : Value) (e : Nat) (he : e ≠ 0) : PE Tryz.prog 171 [.raw v, rI e] [] (.pan wrongV) [] := by
 refine q0c (by simp) ?_
 refine rQ fi171 ?_
 refine q0h (fun h => absurd h (by simp; omega)) fun _ => ?_
 with_reducible refine sxE ?_; trivial
theorem q1r (b : List UInt8) (n : Nat) : PE Tryz.prog 159 [.ptr 0 0, rI 0] [rdr b n] (.ret (.ptr 0 0)) [rdr b n] := by
 refine q0c (by simp) ?_
 refine rQ fi159 ?_
 refine q0a q2z ?_
 refine gQ ?_; trivial
theorem q2F (e : Nat) (he : e ≠ 0) : PE Tryz.prog 159 [.raw (.pointer none), rI e] [] (.pan wrongV) [] := by
 refine q0c (by simp) ?_
 refine rQ fi159 ?_
 refine q0h (fun h => absurd h (by simp; omega)) fun _ => ?_
 with_reducible refine sxE ?_; trivial
theorem q5x (b : List UInt8) (n : Nat) (hn : n = b.length) : PE Tryz.prog 103 [.agg [.ptr 0 0]] [rdr b n] (.ret (.tup [])) [rdr b n] := by
 have he := j1G b n (by omega)
 rw [if_neg (by omega)] at he
 refine q0c (by simp) ?_
 refine rQ fi103 ?_
 refine eQ [0] (he) ?_
 refine q0a q2z ?_
 refine gQ ?_; trivial
theorem q4L (b : List UInt8) (n : Nat) (hn : n < b.length) : PE Tryz.prog 103 [.agg [.ptr 0 0]] [rdr b n] (.pan wrongV) [.dead] := by
 have he := j1G b n (by omega)
 rw [if_pos hn] at he
 refine q0c (by simp) ?_
 refine rQ fi103 ?_
 refine eQ [0] (he) ?_
 refine q0h (fun h => absurd h (by simp)) fun _ => ?_
 with_reducible refine sxE ?_; trivial
end Go.Proofs.YtcjehhejgimmdaaGreatDoor
