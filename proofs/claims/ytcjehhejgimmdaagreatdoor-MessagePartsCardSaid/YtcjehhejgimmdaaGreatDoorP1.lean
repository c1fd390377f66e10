/- A part of the proof: a symbolic executor over abstract values, and its soundness. -/
import Derived.WalkKit
import Derived.CallsIn
import Derived.OrdersIn
import Derived.Deep.LoopGhost
import Derived.RangeFuncLeaves
import Derived.BigFrameIn
set_option linter.all false
namespace Go.Sx
open Go
theorem orMap {a b c d : Prop} (h : a ∨ b) (f : a → c) (g : b → d) : c ∨ d := h.elim (fun x => .inl (f x)) (fun x => .inr (g x))

inductive Ty where
 | u8 | int (k : IntKind) | bool | str | slice (t : Ty) | prod (a b : Ty) | unit
 deriving DecidableEq

@[reducible] def Ty.den : Ty → Type
 | .u8 => UInt8
 | .int _ => Int
 | .bool => Bool
 | .str => ByteArray
 | .slice t => List t.den
 | .prod a b => a.den × b.den
 | .unit => Unit

def Ty.dflt : (t : Ty) → t.den
 | .u8 => (0 : UInt8)
 | .int _ => (0 : Int)
 | .bool => false
 | .str => ByteArray.empty
 | .slice t => ([] : List t.den)
 | .prod a b => (a.dflt, b.dflt)
 | .unit => ()

def Ty.size : Ty → Nat
 | .prod a b => a.size + b.size
 | .unit => 0
 | _ => 1

def Ty.ok : (t : Ty) → t.den → Prop
 | .u8, _ => True
 | .int _, _ => True
 | .bool, _ => True
 | .str, s => s.size ≤ 140737488355328
 | .slice t, xs => xs.length ≤ 1125899906842624 ∧ ∀ x ∈ xs, t.ok x
 | .prod a b, x => a.ok x.1 ∧ b.ok x.2
 | .unit, _ => True

def Ty.rel (I : Nat → Prop) (w : World) : (t : Ty) → t.den → List Value → Prop
 | .u8, c, vs => vs = [.int .u8 c.toNat]
 | .int k, n, vs => vs = [.int k n]
 | .bool, b, vs => vs = [.bool b]
 | .str, s, vs => vs = [.string s] ∧ s.size ≤ 140737488355328
 | .slice t, xs, vs => ∃ A n c, vs = [.slice A n c] ∧ n = xs.length ∧ n ≤ c ∧ n ≤ 1125899906842624 ∧
  (xs = [] ∨ ∃ b off, A = some ⟨b, off, none⟩ ∧ I b ∧ ∀ i x, xs[i]? = some x → ∃ us, t.rel I w x us ∧ ∀ k u, us[k]? = some u → w.cell? ⟨b, off + i * t.size + k, none⟩ = some u)
 | .prod a b, x, vs => ∃ v1 v2, vs = v1 ++ v2 ∧ a.rel I w x.1 v1 ∧ b.rel I w x.2 v2
 | .unit, _, vs => vs = []

theorem Ty.rel_ok {I : Nat → Prop} {w : World} : ∀ (t : Ty) (x : t.den) (vs : List Value), t.rel I w x vs → t.ok x
 | .u8, _, _, _ => trivial
 | .int _, _, _, _ => trivial
 | .bool, _, _, _ => trivial
 | .str, _, _, h => h.2
 | .slice t, xs, vs, h => by
  obtain ⟨A, n, c, rfl, rfl, _, hn, h⟩ := h
  refine ⟨hn, fun x hx => ?_⟩
  rcases h with rfl | ⟨b, off, rfl, _, h⟩
  · cases hx
  obtain ⟨i, hi, rfl⟩ := List.getElem_of_mem hx
  obtain ⟨us, hr, _⟩ := h i xs[i] (List.getElem?_eq_getElem hi)
  exact t.rel_ok _ _ hr
 | .prod a b, x, vs, h => by
  obtain ⟨v1, v2, rfl, h1, h2⟩ := h
  exact ⟨a.rel_ok _ _ h1, b.rel_ok _ _ h2⟩
 | .unit, _, _, _ => trivial

theorem Ty.rel_size {I : Nat → Prop} {w : World} : ∀ (t : Ty) (x : t.den) (vs : List Value), t.rel I w x vs → vs.length = t.size
 | .u8, _, _, h => by cases h; rfl
 | .int _, _, _, h => by cases h; rfl
 | .bool, _, _, h => by cases h; rfl
 | .str, _, _, h => by cases h.1; rfl
 | .slice t, xs, vs, h => by obtain ⟨A, n, c, rfl, _⟩ := h; rfl
 | .prod a b, x, vs, h => by
  obtain ⟨v1, v2, rfl, h1, h2⟩ := h
  rw [List.length_append, a.rel_size _ _ h1, b.rel_size _ _ h2]; rfl
 | .unit, _, _, h => by cases h; rfl

def Keeps (I I' : Nat → Prop) (w w' : World) : Prop := ∀ b, I b → I' b ∧ w'.heap[b]? = w.heap[b]?
theorem Keeps.refl (I : Nat → Prop) (w : World) : Keeps I I w w := fun _ h => ⟨h, rfl⟩
theorem Keeps.trans {I I' I'' : Nat → Prop} {w w' w'' : World} (h : Keeps I I' w w') (k : Keeps I' I'' w' w'') : Keeps I I'' w w'' :=
 fun b hb => ⟨(k b (h b hb).1).1, ((k b (h b hb).1).2).trans (h b hb).2⟩

theorem Ty.rel_keep {I I' : Nat → Prop} {w w' : World} (hk : Keeps I I' w w') : ∀ (t : Ty) (x : t.den) (vs : List Value), t.rel I w x vs → t.rel I' w' x vs
 | .u8, _, _, h => h
 | .int _, _, _, h => h
 | .bool, _, _, h => h
 | .str, _, _, h => h
 | .slice t, xs, vs, h => by
  obtain ⟨A, n, c, rfl, h1, h2, h3, h⟩ := h
  refine ⟨A, n, c, rfl, h1, h2, h3, orMap h id ?_⟩
  rintro ⟨b, off, rfl, hI, h⟩
  refine ⟨b, off, rfl, (hk b hI).1, fun i x hx => ?_⟩
  obtain ⟨us, hr, hc⟩ := h i x hx
  exact ⟨us, t.rel_keep hk _ _ hr, fun k u hu => by rw [← hc k u hu]; exact World.cell?_of_block (hk b hI).2⟩
 | .prod a b, x, vs, h => by
  obtain ⟨v1, v2, rfl, h1, h2⟩ := h
  exact ⟨v1, v2, rfl, a.rel_keep hk _ _ h1, b.rel_keep hk _ _ h2⟩
 | .unit, _, _, h => h

inductive SV where
 | any
 | raw (v : Value)
 | isl (t : Ty) (xs : List t.den)
 | fsl (t : Ty) (xs : List t.den)
 | iptr (t : Ty) (x : t.den) (k : Nat)
 | ptr (h off : Nat)
 | rptr (h : Nat) (t : Ty) (i k : Nat)
 | bld (h : Nat) (t : Ty) (n : Nat)
 | osl (h : Nat) (t : Ty) (off n : Nat)
 | csl (h off n : Nat)
 | agg (l : List SV)
 | tup (l : List SV)
 | fn (f : Nat) (first caps : List SV)
 | iface (T : TypeId) (x : SV)
 | mp (h : Nat)
 | imap (kk : Option IntKind) (ks vs : List Value)

structure Cx where
 ρ : Nat → Option Nat
 n : Nat
 I : Nat → Prop
 w : World

def World.bsize (w : World) (b : Nat) : Option Nat :=
 match w.heap[b]? with
 | some (.cells c _ _) => some c.size
 | _ => none

def keyIs : Option IntKind → Value → Bool
 | some k, .int k' _ => k == k'
 | none, .string _ => true
 | _, _ => false
def keyEq : Value → Value → Bool
 | .int _ a, .int _ b => decide (a = b)
 | .string a, .string b => decide (a = b)
 | _, _ => false
def findI (k : Value) : List Value → Option Nat
 | [] => none
 | k' :: l => if keyEq k k' then some 0 else (findI k l).map (· + 1)
def mapAt (w : World) (b : Nat) (kk : Option IntKind) (ks vs : List Value) : Prop :=
 ∃ es clock, w.heap[b]? = some (.map es clock) ∧ es.toList.map (·.key) = ks ∧ es.toList.map (·.val) = vs ∧ ∀ k ∈ ks, keyIs kk k = true
theorem q5d {w w' : World} {b : Nat} {kk : Option IntKind} {ks vs : List Value} (h : mapAt w b kk ks vs) (hb : w'.heap[b]? = w.heap[b]?) : mapAt w' b kk ks vs := by
 obtain ⟨es, clock, h1, h2⟩ := h
 exact ⟨es, clock, hb.trans h1, h2⟩

mutual
def SV.den (C : Cx) : SV → Value → Prop
 | .any, _ => True
 | .raw u, v => v = u
 | .isl t xs, v => (Ty.slice t).rel C.I C.w xs [v]
 | .fsl t xs, v => (Ty.slice t).rel C.I C.w xs [v] ∧ ∃ A, v = .slice A xs.length xs.length
 | .iptr t x k, v => ∃ b off vs, v = .pointer (some ⟨b, off + k, none⟩) ∧ C.I b ∧ t.rel C.I C.w x vs ∧ ∀ j u, vs[j]? = some u → C.w.cell? ⟨b, off + j, none⟩ = some u
 | .ptr h off, v => h < C.n ∧ ∃ b, C.ρ h = some b ∧ v = .pointer (some ⟨b, off, none⟩)
 | .rptr h t i k, v => h < C.n ∧ ∃ b, C.ρ h = some b ∧ v = .pointer (some ⟨b, i * t.size + k, none⟩)
 | .bld h t n, v => h < C.n ∧ ((C.ρ h = none ∧ n = 0 ∧ v = .slice none 0 0) ∨ ∃ b c m, C.ρ h = some b ∧ v = .slice (some ⟨b, 0, none⟩) n c ∧ n ≤ c ∧ World.bsize C.w b = some m ∧ c * t.size ≤ m)
 | .osl h t off n, v => h < C.n ∧ ∃ A c, v = .slice A n c ∧ n ≤ c ∧ (n = 0 ∨ ∃ b, C.ρ h = some b ∧ A = some ⟨b, off * t.size, none⟩)
 | .csl h off n, v => h < C.n ∧ ∃ b c, C.ρ h = some b ∧ v = .slice (some ⟨b, off, none⟩) n c ∧ n ≤ c
 | .agg l, v => ∃ vs, v = .agg vs.toArray ∧ SV.denL C l vs
 | .tup l, v => ∃ vs, v = .tuple vs.toArray ∧ SV.denL C l vs
 | .fn f l1 l2, v => ∃ v1 v2, v = .func (.func f) v1.toArray v2.toArray ∧ SV.denL C l1 v1 ∧ SV.denL C l2 v2
 | .iface T x, v => ∃ u, v = .iface T u ∧ SV.den C x u
 | .mp h, v => h < C.n ∧ ∃ b, C.ρ h = some b ∧ v = .map (some b)
 | .imap kk ks vs, v => ∃ b, v = .map (some b) ∧ C.I b ∧ mapAt C.w b kk ks vs
def SV.denL (C : Cx) : List SV → List Value → Prop
 | [], vs => vs = []
 | s :: l, vs => ∃ v us, vs = v :: us ∧ SV.den C s v ∧ SV.denL C l us
end

theorem q0F {C : Cx} {vs : List Value} : SV.denL C [] vs ↔ vs = [] := by rw [SV.denL]
theorem q0g {C : Cx} {s : SV} {l : List SV} {vs : List Value} : SV.denL C (s :: l) vs ↔ ∃ v us, vs = v :: us ∧ SV.den C s v ∧ SV.denL C l us := by rw [SV.denL]

theorem q0M {C : Cx} : ∀ {l l' : List SV} {vs : List Value}, SV.denL C (l ++ l') vs ↔ ∃ v1 v2, vs = v1 ++ v2 ∧ SV.denL C l v1 ∧ SV.denL C l' v2
 | [], l', vs => by
  simp only [List.nil_append, q0F]
  exact ⟨fun h => ⟨[], vs, rfl, rfl, h⟩, fun ⟨v1, v2, h1, h2, h3⟩ => by subst h2 h1; exact h3⟩
 | s :: l, l', vs => by
  simp only [List.cons_append, q0g, q0M]
  constructor
  · rintro ⟨v, us, rfl, hv, v1, v2, rfl, h1, h2⟩
    exact ⟨v :: v1, v2, rfl, ⟨v, v1, rfl, hv, h1⟩, h2⟩
  rintro ⟨_, v2, rfl, ⟨v, v1, rfl, hv, h1⟩, h2⟩
  exact ⟨v, v1 ++ v2, rfl, hv, v1, v2, rfl, h1, h2⟩

theorem q0K {C : Cx} : ∀ {l : List SV} {vs : List Value}, SV.denL C l vs → vs.length = l.length
 | [], _, h => by rw [q0F] at h; subst h; rfl
 | s :: l, _, h => by obtain ⟨v, us, rfl, _, h⟩ := q0g.1 h; simp [q0K h]

theorem q2L {C : Cx} : ∀ {l : List SV} {vs : List Value} {i : Nat} {s : SV}, SV.denL C l vs → l[i]? = some s → ∃ v, vs[i]? = some v ∧ s.den C v
 | [], _, _, _, _, h => by simp at h
 | x :: l, _, 0, s, h, hi => by
  obtain ⟨v, us, rfl, hv, h⟩ := q0g.1 h
  simp at hi; subst hi
  exact ⟨v, rfl, hv⟩
 | x :: l, _, i + 1, s, h, hi => by
  obtain ⟨v, us, rfl, hv, h⟩ := q0g.1 h
  simp at hi
  obtain ⟨u, hu, hs⟩ := q2L h hi
  exact ⟨u, by simpa using hu, hs⟩

theorem q4H {C : Cx} : ∀ {l : List SV} {vs : List Value} {i : Nat} {s : SV} {v : Value}, SV.denL C l vs → s.den C v → SV.denL C (l.set i s) (vs.set i v)
 | [], _, _, _, _, h, _ => by rw [q0F] at h; subst h; simp [q0F]
 | x :: l, _, 0, s, v, h, hs => by
  obtain ⟨u, us, rfl, hv, h⟩ := q0g.1 h
  exact q0g.2 ⟨v, us, rfl, hs, h⟩
 | x :: l, _, i + 1, s, v, h, hs => by
  obtain ⟨u, us, rfl, hv, h⟩ := q0g.1 h
  exact q0g.2 ⟨u, us.set i v, rfl, hv, q4H h hs⟩

theorem q4l {C : Cx} : ∀ {l : List SV} {vs : List Value} (n : Nat), SV.denL C l vs → SV.denL C (l.take n) (vs.take n)
 | [], _, _, h => by rw [q0F] at h; subst h; simp [q0F]
 | x :: l, _, 0, h => by simp [q0F]
 | x :: l, _, n + 1, h => by
  obtain ⟨u, us, rfl, hv, h⟩ := q0g.1 h
  exact q0g.2 ⟨u, us.take n, rfl, hv, q4l n h⟩
theorem q4I {C : Cx} : ∀ {l : List SV} {vs : List Value} (n : Nat), SV.denL C l vs → SV.denL C (l.drop n) (vs.drop n)
 | [], _, _, h => by rw [q0F] at h; subst h; simp [q0F]
 | x :: l, _, 0, h => h
 | x :: l, _, n + 1, h => by
  obtain ⟨u, us, rfl, hv, h⟩ := q0g.1 h
  exact q4I n h

def Ty.cells : (t : Ty) → t.den → List SV
 | .u8, c => [.raw (.int .u8 c.toNat)]
 | .int k, n => [.raw (.int k n)]
 | .bool, b => [.raw (.bool b)]
 | .str, s => [.raw (.string s)]
 | .slice t, xs => [.isl t xs]
 | .prod a b, x => a.cells x.1 ++ b.cells x.2
 | .unit, _ => []

theorem Ty.cells_den {C : Cx} : ∀ (t : Ty) (x : t.den) (vs : List Value), t.rel C.I C.w x vs → SV.denL C (t.cells x) vs
 | .u8, _, _, h => by cases h; simp [Ty.cells, SV.denL, SV.den]
 | .int _, _, _, h => by cases h; simp [Ty.cells, SV.denL, SV.den]
 | .bool, _, _, h => by cases h; simp [Ty.cells, SV.denL, SV.den]
 | .str, _, _, h => by cases h.1; simp [Ty.cells, SV.denL, SV.den]
 | .slice t, xs, vs, h => by
  obtain ⟨A, n, c, rfl, h'⟩ := id h
  simp only [Ty.cells, SV.denL, SV.den]
  exact ⟨_, _, rfl, h, rfl⟩
 | .prod a b, x, vs, h => by
  obtain ⟨v1, v2, rfl, h1, h2⟩ := h
  exact q0M.2 ⟨v1, v2, rfl, a.cells_den _ _ h1, b.cells_den _ _ h2⟩
 | .unit, _, _, h => by cases h; simp [Ty.cells, SV.denL]

def rdU8 : List SV → Option (UInt8 × Prop)
 | [.raw (.int .u8 n)] => some (UInt8.ofNat n.toNat, ((UInt8.ofNat n.toNat).toNat : Int) = n)
 | _ => none
def rdInt (k : IntKind) : List SV → Option (Int × Prop)
 | [.raw (.int k' n)] => if k = k' then some (n, True) else none
 | _ => none
def rdBool : List SV → Option (Bool × Prop)
 | [.raw (.bool b)] => some (b, True)
 | _ => none
def rdStr : List SV → Option (ByteArray × Prop)
 | [.raw (.string s)] => some (s, s.size ≤ 140737488355328)
 | _ => none
def rdSlice (t : Ty) : List SV → Option (List t.den × Prop)
 | [.isl t' xs] => if h : t' = t then some (cast (by rw [h]) xs, True) else none
 | [.raw (.slice none 0 0)] => some ([], True)
 | _ => none
def rdUnit : List SV → Option (Unit × Prop)
 | [] => some ((), True)
 | _ => none
def Ty.rd : (t : Ty) → List SV → Option (t.den × Prop)
 | .u8, cs => rdU8 cs
 | .int k, cs => rdInt k cs
 | .bool, cs => rdBool cs
 | .str, cs => rdStr cs
 | .slice t, cs => rdSlice t cs
 | .prod a b, cs => match a.rd (cs.take a.size), b.rd (cs.drop a.size) with
  | some (x, p), some (y, q) => some ((x, y), p ∧ q)
  | _, _ => none
 | .unit, cs => rdUnit cs

theorem Ty.rd_rel {C : Cx} : ∀ (t : Ty) (cs : List SV) (x : t.den) (p : Prop) (vs : List Value), t.rd cs = some (x, p) → p → SV.denL C cs vs → t.rel C.I C.w x vs
 | .prod a b, cs, x, p, vs, h, hp, hv => by
  unfold Ty.rd at h
  split at h
  · rename_i x1 p1 y1 q1 h1 h2
    cases h
    rw [← List.take_append_drop a.size cs] at hv
    obtain ⟨v1, v2, rfl, d1, d2⟩ := q0M.1 hv
    exact ⟨v1, v2, rfl, a.rd_rel _ _ _ _ h1 hp.1 d1, b.rd_rel _ _ _ _ h2 hp.2 d2⟩
  cases h
 | .u8, cs, x, p, vs, h, hp, hv => by
  simp only [Ty.rd] at h
  unfold rdU8 at h
  split at h <;> cases h
  simp only [SV.denL, SV.den] at hv
  obtain ⟨v, us, rfl, rfl, rfl⟩ := hv
  simp only [Ty.rel]
  rw [hp]
 | .int k, cs, x, p, vs, h, hp, hv => by
  simp only [Ty.rd] at h
  unfold rdInt at h
  split at h
  · split at h
    · subst k; cases h
      simp only [SV.denL, SV.den] at hv
      obtain ⟨v, us, rfl, rfl, rfl⟩ := hv
      simp [Ty.rel]
    cases h
  cases h
 | .bool, cs, x, p, vs, h, hp, hv => by
  simp only [Ty.rd] at h
  unfold rdBool at h
  split at h <;> cases h
  simp only [SV.denL, SV.den] at hv
  obtain ⟨v, us, rfl, rfl, rfl⟩ := hv
  simp [Ty.rel]
 | .str, cs, x, p, vs, h, hp, hv => by
  simp only [Ty.rd] at h
  unfold rdStr at h
  split at h <;> cases h
  simp only [SV.denL, SV.den] at hv
  obtain ⟨v, us, rfl, rfl, rfl⟩ := hv
  exact ⟨rfl, hp⟩
 | .slice t, cs, x, p, vs, h, hp, hv => by
  simp only [Ty.rd] at h
  unfold rdSlice at h
  split at h
  · split at h
    · rename_i ht
      subst ht
      cases h
      simp only [SV.denL, SV.den] at hv
      obtain ⟨v, us, rfl, h, rfl⟩ := hv
      exact h
    cases h
  · cases h
    simp only [SV.denL, SV.den] at hv
    obtain ⟨v, us, rfl, rfl, rfl⟩ := hv
    exact ⟨_, _, _, rfl, rfl, Nat.le_refl _, by simp, .inl rfl⟩
  cases h
 | .unit, cs, x, p, vs, h, hp, hv => by
  simp only [Ty.rd] at h
  unfold rdUnit at h
  split at h
  · simp only [SV.denL] at hv
    simp [Ty.rel, hv]
  cases h
inductive SObj where
 | dead
 | cells (T : TypeId) (cs : List SV)
 | row (t : Ty) (xs : List t.den)
 | map (kk : Option IntKind) (ks vs : List Value)
 | mark (n : Nat)                                            -- nothing of memory: a number that only a yield changes

structure Evo (C C' : Cx) : Prop where
 n : C.n ≤ C'.n
 ρ : ∀ h, h < C.n → C'.ρ h = C.ρ h
 I : Keeps C.I C'.I C.w C'.w
 sz : ∀ b m, World.bsize C.w b = some m → World.bsize C'.w b = some m

theorem Evo.refl (C : Cx) : Evo C C := ⟨Nat.le_refl _, fun _ _ => rfl, Keeps.refl _ _, fun _ _ h => h⟩
theorem Evo.trans {A B C : Cx} (h : Evo A B) (k : Evo B C) : Evo A C :=
 ⟨Nat.le_trans h.n k.n, fun x hx => (k.ρ x (Nat.lt_of_lt_of_le hx h.n)).trans (h.ρ x hx), h.I.trans k.I, fun b m hm => k.sz b m (h.sz b m hm)⟩

mutual
theorem q1x {C C' : Cx} (e : Evo C C') : ∀ {s : SV} {v : Value}, s.den C v → s.den C' v
 | .any, _, _ => by rw [SV.den]; trivial
 | .raw u, v, h => by rw [SV.den] at h ⊢; exact h
 | .isl t xs, v, h => by rw [SV.den] at h ⊢; exact Ty.rel_keep e.I _ _ _ h
 | .fsl t xs, v, h => by rw [SV.den] at h ⊢; exact ⟨Ty.rel_keep e.I _ _ _ h.1, h.2⟩
 | .iptr t x k, v, h => by
  rw [SV.den] at h ⊢
  obtain ⟨b, off, vs, rfl, hI, hr, hc⟩ := h
  exact ⟨b, off, vs, rfl, (e.I b hI).1, Ty.rel_keep e.I _ _ _ hr, fun j u hu => by rw [← hc j u hu]; exact World.cell?_of_block (e.I b hI).2⟩
 | .ptr h off, v, d => by
  rw [SV.den] at d ⊢
  obtain ⟨hn, b, hb, hv⟩ := d
  exact ⟨Nat.lt_of_lt_of_le hn e.n, b, (e.ρ h hn).trans hb, hv⟩
 | .rptr h t i k, v, d => by
  rw [SV.den] at d ⊢
  obtain ⟨hn, b, hb, hv⟩ := d
  exact ⟨Nat.lt_of_lt_of_le hn e.n, b, (e.ρ h hn).trans hb, hv⟩
 | .bld h t n, v, d => by
  rw [SV.den] at d ⊢
  obtain ⟨hn, d⟩ := d
  refine ⟨Nat.lt_of_lt_of_le hn e.n, ?_⟩
  rcases d with ⟨h1, h2⟩ | ⟨b, c, m, hb, hv, hc, hm, hcm⟩
  · exact .inl ⟨(e.ρ h hn).trans h1, h2⟩
  exact .inr ⟨b, c, m, (e.ρ h hn).trans hb, hv, hc, e.sz b m hm, hcm⟩
 | .osl h t off n, v, d => by
  rw [SV.den] at d ⊢
  obtain ⟨hn, A, c, hv, hc, d⟩ := d
  exact ⟨Nat.lt_of_lt_of_le hn e.n, A, c, hv, hc, orMap d id fun ⟨b, hb, hA⟩ => ⟨b, (e.ρ h hn).trans hb, hA⟩⟩
 | .csl h off n, v, d => by
  rw [SV.den] at d ⊢
  obtain ⟨hn, b, c, hb, hv, hc⟩ := d
  exact ⟨Nat.lt_of_lt_of_le hn e.n, b, c, (e.ρ h hn).trans hb, hv, hc⟩
 | .agg l, v, d => by
  rw [SV.den] at d ⊢
  obtain ⟨vs, hv, hl⟩ := d
  exact ⟨vs, hv, q0u e hl⟩
 | .tup l, v, d => by
  rw [SV.den] at d ⊢
  obtain ⟨vs, hv, hl⟩ := d
  exact ⟨vs, hv, q0u e hl⟩
 | .fn f l1 l2, v, d => by
  rw [SV.den] at d ⊢
  obtain ⟨v1, v2, hv, h1, h2⟩ := d
  exact ⟨v1, v2, hv, q0u e h1, q0u e h2⟩
 | .iface T x, v, d => by
  rw [SV.den] at d ⊢
  obtain ⟨u, hv, h1⟩ := d
  exact ⟨u, hv, q1x e h1⟩
 | .mp h, v, d => by
  rw [SV.den] at d ⊢
  obtain ⟨hn, b, hb, hv⟩ := d
  exact ⟨Nat.lt_of_lt_of_le hn e.n, b, (e.ρ h hn).trans hb, hv⟩
 | .imap kk ks vs, v, d => by
  rw [SV.den] at d ⊢
  obtain ⟨b, hv, hb, hm⟩ := d
  exact ⟨b, hv, (e.I b hb).1, q5d hm (e.I b hb).2⟩
theorem q0u {C C' : Cx} (e : Evo C C') : ∀ {l : List SV} {vs : List Value}, SV.denL C l vs → SV.denL C' l vs
 | [], _, h => by rw [SV.denL] at h ⊢; exact h
 | s :: l, _, h => by
  rw [SV.denL] at h ⊢
  obtain ⟨v, us, rfl, h1, h2⟩ := h
  exact ⟨v, us, rfl, q1x e h1, q0u e h2⟩
end

def rowAt (I : Nat → Prop) (w : World) (t : Ty) (xs : List t.den) (b off : Nat) : Prop :=
 ∀ i x, xs[i]? = some x → ∃ us, t.rel I w x us ∧ ∀ k u, us[k]? = some u → w.cell? ⟨b, off + i * t.size + k, none⟩ = some u

def objDen (C : Cx) (h : Nat) : SObj → Prop
 | .dead => True
 | .cells T cs => ∃ b vs, C.ρ h = some b ∧ C.w.heap[b]? = some (.cells vs.toArray T (0, 0)) ∧ SV.denL C cs vs
 | .row t xs => (C.ρ h = none ∧ xs = []) ∨ ∃ b arr T fz, C.ρ h = some b ∧ C.w.heap[b]? = some (.cells arr T fz) ∧ (∀ i, i < arr.size → ¬ (fz.1 ≤ i ∧ i < fz.2)) ∧ xs.length * t.size ≤ arr.size ∧ rowAt C.I C.w t xs b 0
 | .map kk ks vs => ∃ b, C.ρ h = some b ∧ mapAt C.w b kk ks vs
 | .mark _ => True

def SObj.live : SObj → Bool
 | .dead => false
 | .mark _ => false
 | _ => true

def OwnB (C : Cx) (H : List SObj) (b : Nat) : Prop := ∃ h o, H[h]? = some o ∧ o.live = true ∧ C.ρ h = some b

structure Wd (C : Cx) (H : List SObj) : Prop where
 n : C.n = H.length
 obj : ∀ h o, H[h]? = some o → objDen C h o
 own : ∀ b, OwnB C H b → ¬ C.I b ∧ b < C.w.heap.size
 inj : ∀ h h' o o' b, H[h]? = some o → H[h']? = some o' → o.live = true → o'.live = true → C.ρ h = some b → C.ρ h' = some b → h = h'
 imm : ∀ b, C.I b → b < C.w.heap.size

def Unf (w : World) (b : Nat) : Prop := ∀ c T fz, w.heap[b]? = some (.cells c T fz) → ∀ i, i < c.size → ¬ (fz.1 ≤ i ∧ i < fz.2)
theorem Unf.keep {w w' : World} {b : Nat} (h : Unf w b) (e : w'.heap[b]? = w.heap[b]?) : Unf w' b := fun c T fz hc => h c T fz (e ▸ hc)
theorem q4i {C : Cx} {H : List SObj} {b : Nat} (hw : Wd C H) (h : OwnB C H b) : Unf C.w b := by
 obtain ⟨i, o, ho, hl, hb⟩ := h
 have := hw.obj i o ho
 intro c T fz hc j hj
 cases o with
 | dead => simp [SObj.live] at hl
 | cells T' cs =>
  obtain ⟨b', vs, h1, h2, _⟩ := this
  rw [hb] at h1; cases h1
  rw [hc] at h2; cases h2
  simp
 | row t xs =>
  rcases this with ⟨h1, _⟩ | ⟨b', arr, T', fz', h1, h2, h3, _⟩
  · rw [hb] at h1; cases h1
  rw [hb] at h1; cases h1
  rw [hc] at h2; cases h2
  exact h3 j hj
 | map kk ks vs =>
  obtain ⟨b', h1, es, cl, h2, _⟩ := this
  rw [hb] at h1; cases h1
  rw [hc] at h2; cases h2
 | mark n => simp [SObj.live] at hl

structure En where
 C : Cx
 H : List SObj

structure Ext (E : En) (C : Cx) (H : List SObj) : Prop where
 evo : Evo E.C C
 size : E.C.w.heap.size ≤ C.w.heap.size
 os : C.w.os = E.C.w.os
 tape : C.w.tape = E.C.w.tape
 output : C.w.output = E.C.w.output
 frame : ∀ b, b < E.C.w.heap.size → ¬ OwnB E.C E.H b → C.w.heap[b]? = E.C.w.heap[b]?
 immNew : ∀ b, C.I b → E.C.I b ∨ ((E.C.w.heap.size ≤ b ∨ OwnB E.C E.H b) ∧ Unf C.w b)
 ownNew : ∀ b, OwnB C H b → E.C.w.heap.size ≤ b ∨ OwnB E.C E.H b
 keep0 : ∀ n, 0 < E.C.n → E.H[0]? = some (.mark n) → H[0]? = some (.mark n)

theorem Ext.refl (C : Cx) (H : List SObj) : Ext ⟨C, H⟩ C H :=
 ⟨Evo.refl _, Nat.le_refl _, rfl, rfl, rfl, fun _ _ _ => rfl, fun _ h => .inl h, fun _ h => .inr h, fun _ _ h => h⟩
theorem Ext.trans {E : En} {C C' : Cx} {H H' : List SObj} (h : Ext E C H) (k : Ext ⟨C, H⟩ C' H') : Ext E C' H' where
 evo := h.evo.trans k.evo
 size := Nat.le_trans h.size k.size
 os := k.os.trans h.os
 tape := k.tape.trans h.tape
 output := k.output.trans h.output
 frame := fun b hb ho => (k.frame b (Nat.lt_of_lt_of_le hb h.size) (fun hc => (h.ownNew b hc).elim (fun x => absurd hb (by omega)) ho)).trans (h.frame b hb ho)
 immNew := fun b hb => (k.immNew b hb).elim (fun hb0 => orMap (h.immNew b hb0) id fun ⟨x, u⟩ => ⟨x, u.keep (k.evo.I b hb0).2⟩) fun ⟨x, u⟩ => .inr ⟨x.elim (fun y => .inl (Nat.le_trans h.size y)) (h.ownNew b), u⟩
 ownNew := fun b hb => (k.ownNew b hb).elim (fun y => .inl (Nat.le_trans h.size y)) (h.ownNew b)
 keep0 := fun n h0 hn => k.keep0 n (Nat.lt_of_lt_of_le h0 h.evo.n) (h.keep0 n h0 hn)
theorem q8S {H L : List SObj} {x : SObj} (h : H[0]? = some x) : (H ++ L)[0]? = some x := by
 rw [List.getElem?_append_left (List.getElem?_eq_some_iff.1 h).1]; exact h
theorem q3P {H : List SObj} {h n : Nat} {o o' : SObj} (ho : H[h]? = some o) (hl : o.live = true) (hm : H[0]? = some (.mark n)) : (H.set h o')[0]? = some (.mark n) := by
 by_cases e : h = 0
 · subst e; rw [hm] at ho; cases ho; simp [SObj.live] at hl
 rw [List.getElem?_set_ne e]; exact hm

inductive Out where
 | ret (v : SV)
 | pan (v : SV)

def outDen (C : Cx) : Out → Ending → Prop
 | .ret s, e => ∃ v, e = .returned v ∧ s.den C v
 | .pan s, e => ∃ v, e = .panicked [{ v, recovered := false }] ∧ s.den C v

def tabList : List (Nat × List Value) := [(4, [.int .u64 1, .int .u64 10, .int .u64 100, .int .u64 1000, .int .u64 10000, .int .u64 100000, .int .u64 1000000, .int .u64 10000000, .int .u64 100000000, .int .u64 1000000000, .int .u64 10000000000, .int .u64 100000000000, .int .u64 1000000000000, .int .u64 10000000000000, .int .u64 100000000000000, .int .u64 1000000000000000, .int .u64 10000000000000000, .int .u64 100000000000000000, .int .u64 1000000000000000000, .int .u64 10000000000000000000]), (7, [.int .u8 0, .int .u8 1, .int .u8 56, .int .u8 2, .int .u8 57, .int .u8 49, .int .u8 28, .int .u8 3, .int .u8 61, .int .u8 58, .int .u8 42, .int .u8 50, .int .u8 38, .int .u8 29, .int .u8 17, .int .u8 4, .int .u8 62, .int .u8 47, .int .u8 59, .int .u8 36, .int .u8 45, .int .u8 43, .int .u8 51, .int .u8 22, .int .u8 53, .int .u8 39, .int .u8 33, .int .u8 30, .int .u8 24, .int .u8 18, .int .u8 12, .int .u8 5, .int .u8 63, .int .u8 55, .int .u8 48, .int .u8 27, .int .u8 60, .int .u8 41, .int .u8 37, .int .u8 16, .int .u8 46, .int .u8 35, .int .u8 44, .int .u8 21, .int .u8 52, .int .u8 32, .int .u8 23, .int .u8 11, .int .u8 54, .int .u8 26, .int .u8 40, .int .u8 15, .int .u8 34, .int .u8 20, .int .u8 31, .int .u8 10, .int .u8 25, .int .u8 14, .int .u8 19, .int .u8 9, .int .u8 13, .int .u8 8, .int .u8 7, .int .u8 6]), (6, [.int .u8 0, .int .u8 1, .int .u8 28, .int .u8 2, .int .u8 29, .int .u8 14, .int .u8 24, .int .u8 3, .int .u8 30, .int .u8 22, .int .u8 20, .int .u8 15, .int .u8 25, .int .u8 17, .int .u8 4, .int .u8 8, .int .u8 31, .int .u8 27, .int .u8 13, .int .u8 23, .int .u8 21, .int .u8 19, .int .u8 16, .int .u8 7, .int .u8 26, .int .u8 12, .int .u8 18, .int .u8 6, .int .u8 11, .int .u8 5, .int .u8 10, .int .u8 9])]
def TabB (I : Nat → Prop) (w : World) (e : Nat × List Value) : Prop := I e.1 ∧ ∃ (T : TypeId) (fz : Nat × Nat), w.heap[e.1]? = some (.cells e.2.toArray T fz)
def TabT (I : Nat → Prop) (w : World) : Prop := ∀ e ∈ tabList, TabB I w e
theorem TabT.keep {I I' : Nat → Prop} {w w' : World} (h : TabT I w) (hk : ∀ b, I b → I' b ∧ w'.heap[b]? = w.heap[b]?) : TabT I' w' := fun e he => by
 obtain ⟨h1, T, fz, h2⟩ := h e he
 exact ⟨(hk _ h1).1, T, fz, (hk _ h1).2.trans h2⟩
theorem TabT.evo {C C' : Cx} (h : TabT C.I C.w) (e : Evo C C') : TabT C'.I C'.w := h.keep e.I
def VCall (P : Program) (f : FuncId) (args : List SV) (H : List SObj) (K : Out → List SObj → Prop) : Prop :=
 ∀ (C : Cx) (vs : List Value), Wd C H → TabT C.I C.w → SV.denL C args vs →
  Calls P f vs.toArray C.w fun e w' => ∃ o H' C', K o H' ∧ C'.w = w' ∧ Wd C' H' ∧ Ext ⟨C, H⟩ C' H' ∧ outDen C' o e

theorem VCall.mono {P : Program} {f : FuncId} {args : List SV} {H : List SObj} {K K' : Out → List SObj → Prop} (h : VCall P f args H K) (hk : ∀ o H', K o H' → K' o H') : VCall P f args H K' :=
 fun C vs hw ht hv => (h C vs hw ht hv).mono fun _ _ ⟨o, H', C', k, r⟩ => ⟨o, H', C', hk _ _ k, r⟩

theorem Wd.nil {C : Cx} {H : List SObj} (h : Wd C H) : Wd { C with n := 0 } [] where
 n := rfl
 obj := fun h o ho => by simp at ho
 own := fun b ⟨h, o, ho, _⟩ => by simp at ho
 inj := fun h h' o o' b ho => by simp at ho
 imm := h.imm

/- Values that name no handle. -/
mutual
def SV.clean : SV → Bool
 | .any | .raw _ | .isl _ _ | .fsl _ _ | .iptr _ _ _ | .imap _ _ _ => true
 | .ptr .. | .rptr .. | .bld .. | .osl .. | .csl .. | .mp _ => false
 | .agg l => SV.cleanL l
 | .tup l => SV.cleanL l
 | .fn _ a b => SV.cleanL a && SV.cleanL b
 | .iface _ x => SV.clean x
def SV.cleanL : List SV → Bool
 | [] => true
 | s :: l => SV.clean s && SV.cleanL l
end

mutual
theorem q0S {C C' : Cx} (hI : Keeps C.I C'.I C.w C'.w) : ∀ {s : SV} {v : Value}, s.clean = true → s.den C v → s.den C' v
 | .any, _, _, _ => by rw [SV.den]; trivial
 | .raw u, v, _, h => by rw [SV.den] at h ⊢; exact h
 | .isl t xs, v, _, h => by rw [SV.den] at h ⊢; exact Ty.rel_keep hI _ _ _ h
 | .fsl t xs, v, _, h => by rw [SV.den] at h ⊢; exact ⟨Ty.rel_keep hI _ _ _ h.1, h.2⟩
 | .iptr t x k, v, _, h => by
  rw [SV.den] at h ⊢
  obtain ⟨b, off, vs, rfl, hb, hr, hc⟩ := h
  exact ⟨b, off, vs, rfl, (hI b hb).1, Ty.rel_keep hI _ _ _ hr, fun j u hu => by rw [← hc j u hu]; exact World.cell?_of_block (hI b hb).2⟩
 | .ptr .., _, h, _ => by simp [SV.clean] at h
 | .rptr .., _, h, _ => by simp [SV.clean] at h
 | .bld .., _, h, _ => by simp [SV.clean] at h
 | .osl .., _, h, _ => by simp [SV.clean] at h
 | .csl .., _, h, _ => by simp [SV.clean] at h
 | .mp _, _, h, _ => by simp [SV.clean] at h
 | .imap kk ks vs, v, _, d => by
  rw [SV.den] at d ⊢
  obtain ⟨b, hv, hb, hm⟩ := d
  exact ⟨b, hv, (hI b hb).1, q5d hm (hI b hb).2⟩
 | .agg l, v, h, d => by
  rw [SV.den] at d ⊢
  obtain ⟨vs, hv, hl⟩ := d
  exact ⟨vs, hv, q2a hI (by simpa [SV.clean] using h) hl⟩
 | .tup l, v, h, d => by
  rw [SV.den] at d ⊢
  obtain ⟨vs, hv, hl⟩ := d
  exact ⟨vs, hv, q2a hI (by simpa [SV.clean] using h) hl⟩
 | .fn f l1 l2, v, h, d => by
  rw [SV.den] at d ⊢
  obtain ⟨v1, v2, hv, h1, h2⟩ := d
  simp [SV.clean] at h
  exact ⟨v1, v2, hv, q2a hI h.1 h1, q2a hI h.2 h2⟩
 | .iface T x, v, h, d => by
  rw [SV.den] at d ⊢
  obtain ⟨u, hv, h1⟩ := d
  exact ⟨u, hv, q0S hI (by simpa [SV.clean] using h) h1⟩
theorem q2a {C C' : Cx} (hI : Keeps C.I C'.I C.w C'.w) : ∀ {l : List SV} {vs : List Value}, SV.cleanL l = true → SV.denL C l vs → SV.denL C' l vs
 | [], _, _, h => by rw [SV.denL] at h ⊢; exact h
 | s :: l, _, hc, h => by
  rw [SV.denL] at h ⊢
  obtain ⟨v, us, rfl, h1, h2⟩ := h
  simp [SV.cleanL] at hc
  exact ⟨v, us, rfl, q0S hI hc.1 h1, q2a hI hc.2 h2⟩
end

theorem q0P {C C' : Cx} (hI : Keeps C.I C'.I C.w C'.w) (h : Nat) (hr : C'.ρ h = C.ρ h) (hb : ∀ b, C.ρ h = some b → C'.w.heap[b]? = C.w.heap[b]?) (e : ∀ {l : List SV} {vs : List Value}, SV.denL C l vs → SV.denL C' l vs) :
 ∀ {o : SObj}, objDen C h o → objDen C' h o
 | .dead, _ => trivial
 | .cells T cs, ⟨b, vs, h1, h2, h3⟩ => ⟨b, vs, hr.trans h1, (hb b h1).trans h2, e h3⟩
 | .row t xs, d => by
  rcases d with ⟨h1, h2⟩ | ⟨b, arr, T, fz, h1, h2, h3, h4, h5⟩
  · exact .inl ⟨hr.trans h1, h2⟩
  refine .inr ⟨b, arr, T, fz, hr.trans h1, (hb b h1).trans h2, h3, h4, fun i x hx => ?_⟩
  obtain ⟨us, hu, hc⟩ := h5 i x hx
  exact ⟨us, Ty.rel_keep hI _ _ _ hu, fun k u hk => by rw [← hc k u hk]; exact World.cell?_of_block (hb b h1)⟩
 | .map kk ks vs, ⟨b, h1, h2⟩ => ⟨b, hr.trans h1, q5d h2 (hb b h1)⟩
 | .mark _, _ => trivial

theorem z0m {P : Program} {f : FuncId} {us : Array Value} {r : SV} {C : Cx} {H : List SObj} {K : Out → List SObj → Prop} (hr : r.clean = true) (hw : Wd C H)
 (h : Calls P f us C.w fun e w' => ∃ o H' C', o = .ret r ∧ C'.w = w' ∧ Wd C' H' ∧ Ext ⟨{ C with n := 0 }, []⟩ C' H' ∧ outDen C' o e) (hk : K (.ret r) H) :
 Calls P f us C.w fun e w' => ∃ o H' C', K o H' ∧ C'.w = w' ∧ Wd C' H' ∧ Ext ⟨C, H⟩ C' H' ∧ outDen C' o e := by
 refine h.mono ?_
 rintro e w' ⟨o, H', C', rfl, rfl, hw', hx, v, rfl, hd⟩
 have hold : ∀ b, b < C.w.heap.size → C'.w.heap[b]? = C.w.heap[b]? := fun b hb => hx.frame b hb (fun ⟨h, o, ho, _⟩ => by simp at ho)
 have hI : Keeps C.I C'.I C.w C'.w := hx.evo.I
 let D : Cx := { ρ := C.ρ, n := C.n, I := C'.I, w := C'.w }
 have hsz : ∀ b m, World.bsize C.w b = some m → World.bsize C'.w b = some m := hx.evo.sz
 have hev : Evo C D := ⟨Nat.le_refl _, fun _ _ => rfl, hI, hsz⟩
 have hIn : ∀ b, C'.I b → b < C.w.heap.size → C.I b := fun b hb hlt => by
  rcases hx.immNew b hb with h1 | ⟨h1 | ⟨h, o, ho, _⟩, _⟩
  · exact h1
  · exact absurd hlt (by have : C.w.heap.size ≤ b := h1; omega)
  simp at ho
 refine ⟨.ret r, H, D, hk, rfl, ?_, ?_, v, rfl, q0S (C := C') (C' := D) (Keeps.refl _ _) hr hd⟩
 · refine ⟨hw.n, fun h o ho => ?_, fun b hb => ?_, hw.inj, hw'.imm⟩
   · have := hw.obj h o ho
     by_cases hl : o.live = true
     · exact q0P (C' := D) hI h rfl (fun b hb => hold b (hw.own b ⟨h, o, ho, hl, hb⟩).2) (q0u hev) this
     cases o <;> first | trivial | simp [SObj.live] at hl
   obtain ⟨h1, h2⟩ := hw.own b hb
   exact ⟨fun hi => h1 (hIn b hi h2), Nat.lt_of_lt_of_le h2 hx.size⟩
 refine ⟨hev, hx.size, hx.os, hx.tape, hx.output, fun b hb _ => hold b hb, fun b hb => ?_, fun b hb => .inr hb, fun _ _ h => h⟩
 rcases hx.immNew b hb with h1 | ⟨h1 | ⟨h, o, ho, _⟩, u⟩
 · exact .inl h1
 · exact .inr ⟨.inl h1, u⟩
 simp at ho
theorem VCall.frame {P : Program} {f : FuncId} {args : List SV} {r : SV} (hc : SV.cleanL args = true) (hr : r.clean = true) (h : VCall P f args [] fun o _ => o = .ret r) (H : List SObj) (K : Out → List SObj → Prop)
 (hk : K (.ret r) H) : VCall P f args H K := by
 intro C vs hw ht hv
 exact z0m hr hw (h { C with n := 0 } vs hw.nil ht (q2a (C := C) (C' := { C with n := 0 }) (Keeps.refl _ _) hc hv)) hk
end Go.Sx
set_option linter.unusedSectionVars false
namespace Go.Sx
open Go

abbrev Fw (r : Option Nat) : Fence := { Fence.wide with round := r }
theorem q6B (r : Option Nat) (f : FuncId) : (Fw r).fn f := trivial
theorem q7r {r : Option Nat} {n : Nat} {P : Program} {f : FuncId} {args : Array Value} {w : World} {R : Ending → World → Prop} (h : Calls P f args w R) : CallsIn (Fw r) n P f args w R :=
 (callsIn_wide (n := n)).2 h

def evT (tmps : List SV) : Operand → SV
 | .tmp t => tmps.getD t .any
 | .const v => .raw v
 | .global g => .raw (.pointer (some ⟨g, 0, none⟩))
 | .func f => .fn f [] []

theorem q3o {C : Cx} {tmps : List SV} {a : Act} (h : SV.denL C tmps a.tmps.toList) (x : Operand) : (evT tmps x).den C (a.eval x) := by
 cases x with
 | tmp t =>
  simp only [evT, Act.eval]
  rcases Nat.lt_or_ge t tmps.length with hl | hl
  · obtain ⟨v, hv, hd⟩ := q2L h (List.getElem?_eq_getElem hl)
    have e : a.tmps[t]? = some v := by simpa using hv
    rw [List.getD_eq_getElem?_getD, List.getElem?_eq_getElem hl, Array.getD_eq_getD_getElem?, e]
    exact hd
  rw [List.getD_eq_getElem?_getD, List.getElem?_eq_none hl]; simp [SV.den]
 | const v => simp [evT, Act.eval, SV.den]
 | global g => simp [evT, Act.eval, SV.den]
 | func f => simp only [evT, Act.eval, SV.den, SV.denL]; exact ⟨[], [], rfl, rfl, rfl⟩

def putT (tmps : List SV) : Option Tmp → SV → List SV
 | some d, s => tmps.set d s
 | none, _ => tmps

theorem q8D {C : Cx} {tmps : List SV} {a : Act} (h : SV.denL C tmps a.tmps.toList) (d : Option Tmp) {s : SV} {v : Value} (hs : s.den C v) : SV.denL C (putT tmps d s) (a.put d v).tmps.toList := by
 cases d with
 | none => exact h
 | some d => simp only [putT, Act.put, Array.toList_setIfInBounds]; exact q4H h hs

structure EnD extends En where
 base : List Deferred
instance : Coe EnD En := ⟨EnD.toEn⟩
class Ghost where
 inv0 : EnD → Cx → List SObj → Prop
 fin : EnD → Cx → List SObj → List Deferred → Prop
 toFin0 : ∀ {E C H}, TabT C.I C.w → inv0 E C H → fin E C H E.base
 next0 : ∀ {E C C' H H'}, Ext ⟨C, H⟩ C' H' → inv0 E C H → inv0 E C' H'
 same0 : ∀ {E C C' H H'}, Wd C H → C'.w = C.w → (∀ b, C.I b → C'.I b) → (∀ b, C'.I b → C.I b ∨ OwnB C H b) → (∀ b, OwnB C' H' b → OwnB C H b) → (∀ n, 0 < E.C.n → H[0]? = some (.mark n) → H'[0]? = some (.mark n)) → E.C.n ≤ C'.n → inv0 E C H → inv0 E C' H'
 rd : Option Nat → Prop := fun _ => True
 rd0 : rd none := by trivial
def Ghost.inv [Ghost] (E : EnD) (C : Cx) (H : List SObj) : Prop := TabT C.I C.w ∧ Ghost.inv0 E C H
theorem Ghost.toFin [Ghost] {E : EnD} {C : Cx} {H : List SObj} (h : Ghost.inv E C H) : Ghost.fin E C H E.base := Ghost.toFin0 h.1 h.2
theorem Ghost.next [Ghost] {E : EnD} {C C' : Cx} {H H' : List SObj} (e : Ext ⟨C, H⟩ C' H') (h : Ghost.inv E C H) : Ghost.inv E C' H' := ⟨h.1.evo e.evo, Ghost.next0 e h.2⟩
theorem Ghost.same [Ghost] {E : EnD} {C C' : Cx} {H H' : List SObj} (hw : Wd C H) (e : C'.w = C.w) (hi : ∀ b, C.I b → C'.I b) (hi' : ∀ b, C'.I b → C.I b ∨ OwnB C H b) (ho : ∀ b, OwnB C' H' b → OwnB C H b) (hm : ∀ n, 0 < E.C.n → H[0]? = some (.mark n) → H'[0]? = some (.mark n)) (hn : E.C.n ≤ C'.n) (h : Ghost.inv E C H) : Ghost.inv E C' H' :=
 ⟨h.1.keep fun b hb => ⟨hi b hb, by rw [e]⟩, Ghost.same0 hw e hi hi' ho hm hn h.2⟩
instance (priority := low) noGhost : Ghost where
 inv0 := fun _ _ _ => True
 fin := fun E C _ ds => ds = E.base ∧ TabT C.I C.w ∧ True
 toFin0 := fun ht _ => ⟨rfl, ht, trivial⟩
 next0 := fun _ _ => trivial
 same0 := fun _ _ _ _ _ _ _ _ => trivial
variable [Ghost]

structure Stp (E : EnD) (C : Cx) (H : List SObj) (C' : Cx) (H' : List SObj) : Prop where
 evo : Evo C C'
 ext : Ext E C H → Ext E C' H'
 inv : Ghost.inv E C H → Ghost.inv E C' H'
theorem Stp.of {E : EnD} {C C' : Cx} {H H' : List SObj} (h : Ext ⟨C, H⟩ C' H') : Stp E C H C' H' := ⟨h.evo, fun k => k.trans h, Ghost.next h⟩
theorem Stp.trans {E : EnD} {A B C : Cx} {H H' H'' : List SObj} (h : Stp E A H B H') (k : Stp E B H' C H'') : Stp E A H C H'' := ⟨h.evo.trans k.evo, fun x => k.ext (h.ext x), fun x => k.inv (h.inv x)⟩

def OpV (P : Program) (o : Oper) (ev : Operand → SV) (H : List SObj) (K : Out → List SObj → Prop) : Prop :=
 ∀ (E : EnD) (C : Cx) (r : Option Nat) (n : Nat) (a : Act) (next : Act → World → Prop) (Q : Exit → Act → World → Prop),
  Wd C H → Ghost.inv E C H → (∀ x ∈ o.op.operands, (ev x).den C (a.eval x)) →
  (∀ s v H' C', K (.ret s) H' → Wd C' H' → Stp E C H C' H' → s.den C' v → next (a.put o.dst v) C'.w) →
  (∀ s v H' C', K (.pan s) H' → Wd C' H' → Stp E C H C' H' → s.den C' v → Q (.panic [{ v, recovered := false }]) a C'.w) →
  o.wpIn (Fw r) n P a C.w next Q

theorem OpV.mono {P : Program} {o : Oper} {ev : Operand → SV} {H : List SObj} {K K' : Out → List SObj → Prop} (h : OpV P o ev H K) (hk : ∀ o H', K o H' → K' o H') : OpV P o ev H K' :=
 fun E C r n a next Q hw hg hv h1 h2 => h E C r n a next Q hw hg hv (fun s v H' C' k => h1 s v H' C' (hk _ _ k)) (fun s v H' C' k => h2 s v H' C' (hk _ _ k))

theorem OpV.congr {P : Program} {o : Oper} {ev ev' : Operand → SV} {H : List SObj} {K : Out → List SObj → Prop} (h : OpV P o ev H K) (he : ∀ x ∈ o.op.operands, ev' x = ev x) : OpV P o ev' H K :=
 fun E C r n a next Q hw hg hv h1 h2 => h E C r n a next Q hw hg (fun x hx => he x hx ▸ hv x hx) h1 h2

def VCallG (P : Program) (f : FuncId) (args : List SV) (H : List SObj) (K : Out → List SObj → Prop) : Prop :=
 ∀ (E : EnD) (C : Cx) (vs : List Value), Wd C H → Ghost.inv E C H → SV.denL C args vs →
  Calls P f vs.toArray C.w fun e w' => ∃ o H' C', K o H' ∧ C'.w = w' ∧ Wd C' H' ∧ Stp E C H C' H' ∧ outDen C' o e
theorem VCall.g {P : Program} {f : FuncId} {args : List SV} {H : List SObj} {K : Out → List SObj → Prop} (h : VCall P f args H K) : VCallG P f args H K :=
 fun _ C vs hw hg hv => (h C vs hw hg.1 hv).mono fun _ _ ⟨o, H', C', k, e, w, x, r⟩ => ⟨o, H', C', k, e, w, .of x, r⟩
theorem VCallG.mono {P : Program} {f : FuncId} {args : List SV} {H : List SObj} {K K' : Out → List SObj → Prop} (h : VCallG P f args H K) (hk : ∀ o H', K o H' → K' o H') : VCallG P f args H K' :=
 fun E C vs hw hg hv => (h E C vs hw hg hv).mono fun _ _ ⟨o, H', C', k, r⟩ => ⟨o, H', C', hk _ _ k, r⟩

theorem OpV.dst {P : Program} {o : Oper} {ev : Operand → SV} {H : List SObj} {K : Out → List SObj → Prop} (h : OpV P o ev H K) : OpV P o ev H K := h

inductive It where
 | code (c : Code)
 | ops (all : Array Oper) (l : List Nat)
 | any (all : Array Oper) (listed : Array Bool) (fuel : Nat) (G : List Nat)
 | blk (id : Nat)
 | stop (Φ : List SV → List SObj → Prop)

structure M where
 k0 : Nat
 todo : List It
 tmps : List SV
 heap : List SObj

inductive Ex where
 | normal | ret | exit (id : Nat) | pan (v : SV)

def markD (D : Nat) : Deferred := { target := .collected D, args := #[] }
abbrev DefOk (E : EnD) (C : Cx) (H : List SObj) (ds : List Deferred) : Prop := ds = E.base ∧ Ghost.inv E C H
theorem DefOk.next {E : EnD} {C C' : Cx} {H H' : List SObj} {ds : List Deferred} (e : Ext ⟨C, H⟩ C' H') (h : DefOk E C H ds) : DefOk E C' H' ds := ⟨h.1, Ghost.next e h.2⟩
theorem DefOk.stp {E : EnD} {C C' : Cx} {H H' : List SObj} {ds : List Deferred} (e : Stp E C H C' H') (h : DefOk E C H ds) : DefOk E C' H' ds := ⟨h.1, e.inv h.2⟩
abbrev DefFin (E : EnD) (C : Cx) (H : List SObj) (ds : List Deferred) : Prop := Ghost.fin E C H ds
theorem DefOk.fin {E : EnD} {C : Cx} {H : List SObj} {ds : List Deferred} (h : DefOk E C H ds) : DefFin E C H ds := by rw [h.1]; exact Ghost.toFin h.2

structure DenG (g : EnD → Cx → List SObj → List Deferred → Prop) (E : EnD) (C : Cx) (tmps : List SV) (H : List SObj) (a : Act) : Prop where
 wd : Wd C H
 ext : Ext E C H
 defs : g E C H a.defers
 tmps : SV.denL C tmps a.tmps.toList
abbrev Den (E : EnD) (C : Cx) (tmps : List SV) (H : List SObj) (a : Act) : Prop := DenG DefOk E C tmps H a
abbrev DenF (E : EnD) (C : Cx) (tmps : List SV) (H : List SObj) (a : Act) : Prop := DenG Ghost.fin E C tmps H a
theorem Den.fin {E : EnD} {C : Cx} {tmps : List SV} {H : List SObj} {a : Act} (h : Den E C tmps H a) : DenF E C tmps H a := ⟨h.wd, h.ext, DefOk.fin h.defs, h.tmps⟩

def conc (E : EnD) (AQ : Ex → List SV → List SObj → Prop) : Exit → Act → World → Prop
 | .normal, a, w => ∃ C t H, AQ .normal t H ∧ C.w = w ∧ DenF E C t H a
 | .ret, a, w => ∃ C t H, AQ .ret t H ∧ C.w = w ∧ DenF E C t H a
 | .exit id, a, w => ∃ C t H, AQ (.exit id) t H ∧ C.w = w ∧ DenF E C t H a
 | .panic ch, a, w => ∃ C t H s v, AQ (.pan s) t H ∧ ch = [{ v, recovered := false }] ∧ s.den C v ∧ C.w = w ∧ Wd C H ∧ Ext E C H ∧ DefFin E C H a.defers ∧ (t = [] ∨ SV.denL C t a.tmps.toList)
 | _, _, _ => False

mutual
def wpT (F : Fence) (n : Nat) (P : Program) (E : EnD) (Q : Exit → Act → World → Prop) : List It → Act → World → Prop
 | [], a, w => Q .normal a w
 | .code c :: k, a, w => c.wpIn F n P (fun e a w => match e with
  | .normal => wpT F n P E Q k a w
  | .exit id => exitT F n P E Q id k a w
  | e => Q e a w) a w
 | .ops all l :: k, a, w => wpOpsIn F n P all (fun e a w => match e with
  | .normal => wpT F n P E Q k a w
  | .exit id => exitT F n P E Q id k a w
  | e => Q e a w) l a w
 | .any all listed fuel _ :: k, a, w => wpAnyIn F n P .any all (fun e a w => match e with
  | .normal => wpT F n P E Q k a w
  | .exit id => exitT F n P E Q id k a w
  | e => Q e a w) fuel listed a w
 | .blk _ :: k, a, w => wpT F n P E Q k a w
 | .stop Φ :: _, a, w => ∃ C t H, Φ t H ∧ C.w = w ∧ Den E C t H a
def exitT (F : Fence) (n : Nat) (P : Program) (E : EnD) (Q : Exit → Act → World → Prop) (id : Nat) : List It → Act → World → Prop
 | [], a, w => Q (.exit id) a w
 | .blk id' :: k, a, w => if id' = id then wpT F n P E Q k a w else exitT F n P E Q id k a w
 | .code _ :: k, a, w => exitT F n P E Q id k a w
 | .ops _ _ :: k, a, w => exitT F n P E Q id k a w
 | .any _ _ _ _ :: k, a, w => exitT F n P E Q id k a w
 | .stop _ :: k, a, w => exitT F n P E Q id k a w
end

abbrev afterT (F : Fence) (n : Nat) (P : Program) (E : EnD) (Q : Exit → Act → World → Prop) (k : List It) : Exit → Act → World → Prop := fun e a w => match e with
 | .normal => wpT F n P E Q k a w
 | .exit id => exitT F n P E Q id k a w
 | e => Q e a w

def Fit (E : EnD) (r : Option Nat) (k0 : Nat) : Prop := E.C.n ≤ k0 ∧ Ghost.rd r
def Sound (P : Program) (AQ : Ex → List SV → List SObj → Prop) (m : M) : Prop :=
 ∀ (E : EnD) (r : Option Nat) (n : Nat) (C : Cx) (a : Act), Fit E r m.k0 → Den E C m.tmps m.heap a → wpT (Fw r) n P E (conc E AQ) m.todo a C.w

variable {P : Program} {AQ : Ex → List SV → List SObj → Prop} {k0 : Nat} {k : List It} {t : List SV} {H : List SObj}

theorem z4C {x y : Code} (h : Sound P AQ ⟨k0, .code x :: .code y :: k, t, H⟩) : Sound P AQ ⟨k0, .code (.seq x y) :: k, t, H⟩ := by
 intro E r n C a h0 hd
 have h1 := h E r n C a h0 hd
 simp only [wpT] at h1 ⊢
 refine wpIn_seq (wpIn_mono h1 fun e a w hq => ?_)
 cases e <;> exact hq

theorem z3b (h : Sound P AQ ⟨k0, k, t, H⟩) : Sound P AQ ⟨k0, .code .skip :: k, t, H⟩ := fun E r n C a h0 hd => by
 simp only [wpT]; exact wpIn_skip (h E r n C a h0 hd)

theorem z6l (h : AQ .ret t H) : Sound P AQ ⟨k0, .code .ret :: k, t, H⟩ := fun E r n C a h0 hd => by
 simp only [wpT]; exact wpIn_ret ⟨C, t, H, h, rfl, Den.fin hd⟩

theorem z5r (h : AQ .normal t H) : Sound P AQ ⟨k0, [], t, H⟩ := fun _ _ _ C _ _ hd => ⟨C, t, H, h, rfl, Den.fin hd⟩

theorem z3h {Φ : List SV → List SObj → Prop} (h : Φ t H) : Sound P AQ ⟨k0, .stop Φ :: k, t, H⟩ := fun E r n C a h0 hd => by
 simp only [wpT]; exact ⟨C, t, H, h, rfl, hd⟩

theorem z5y {id : Nat} (h : Sound P AQ ⟨k0, k, t, H⟩) : Sound P AQ ⟨k0, .blk id :: k, t, H⟩ := fun E r n C a h0 hd => by
 simp only [wpT]; exact h E r n C a h0 hd

theorem z0n {id : Nat} {c : Code} (h : Sound P AQ ⟨k0, .code c :: .blk id :: k, t, H⟩) : Sound P AQ ⟨k0, .code (.block id c) :: k, t, H⟩ := fun E r n C a h0 hd => by
 have h1 := h E r n C a h0 hd
 simp only [wpT] at h1 ⊢
 refine wpIn_block (wpIn_mono h1 fun e a w hq => ?_)
 cases e with
 | exit id' =>
  simp only [exitT] at hq
  simp only [Exit.inBlock]
  by_cases hi : id = id'
  · subst hi; simpa using hq
  rw [if_neg hi] at hq
  have hi' : ¬ id' = id := fun e => hi e.symm
  simpa [hi', hi] using hq
 | _ => exact hq

theorem q1Y {b : Frame} {a : Act} {k : List Item} {cs : List Frame} {w : World} {c : Code} : step P (lone (b.atR a (.code (.scope c) :: k)) cs w) = .next (lone (b.atR a (.code c :: .inScope c :: k)) cs w) :=
 step_lone_go (by simp [stepG, stepG.exec, Frame.atR])
theorem q8R {b : Frame} {a : Act} {k : List Item} {cs : List Frame} {w : World} {c : Code} : step P (lone (b.atR a (.inScope c :: k)) cs w) = .next (lone (b.atR a k) cs w) :=
 step_lone_go (by simp [stepG, stepG.exec, Frame.atR])
theorem z3q {F : Fence} {n : Nat} {Q : Exit → Act → World → Prop} {a : Act} {w : World} {c : Code} (hQ : ∀ l a w, ¬ Q (.goto l) a w) (h : c.wpIn F n P Q a w) : (Code.scope c).wpIn F n P Q a w := by
 intro b k cs hro hb hr
 have h0 : (lone (b.atR a (.code (.scope c) :: k)) cs w).fenced P F := fenced_calm hb hr rfl
 obtain ⟨e, a₁, w₁, hq, harr⟩ := h b (.inScope c :: k) cs hro hb hr
 cases e with
 | normal => exact ⟨.normal, a₁, w₁, hq, .head h0 q1Y (StepsIn.trans harr (.one (fenced_calm hb hr rfl) q8R))⟩
 | exit id' =>
  have hx : exitTo id' (.inScope c :: k) = exitTo id' k := by simp [exitTo]
  exact ⟨.exit id', a₁, w₁, hq, fun k' hk => .head h0 q1Y (harr.1 k' (by rw [hx]; exact hk)),
   fun hr' hk => let ⟨k₁, h1, h2⟩ := harr.2 hr' (by rw [hx]; exact hk); ⟨k₁, h1, .head h0 q1Y h2⟩⟩
 | goto l => exact (hQ _ _ _ hq).elim
 | ret => exact ⟨_, a₁, w₁, hq, .of_steps (.one h0 q1Y) harr⟩
 | panic ch => exact ⟨_, a₁, w₁, hq, .of_steps (.one h0 q1Y) harr⟩
 | outgrown => exact ⟨_, a₁, w₁, hq, .of_steps (.one h0 q1Y) harr⟩
theorem z1m {c : Code} (h : Sound P AQ ⟨k0, .code c :: k, t, H⟩) : Sound P AQ ⟨k0, .code (.scope c) :: k, t, H⟩ := fun E r n C a h0 hd => by
 have h1 := h E r n C a h0 hd
 simp only [wpT] at h1 ⊢
 exact z3q (fun l a w hh => hh.elim) h1
theorem z0E {l : Nat} (h : Sound P AQ ⟨k0, k, t, H⟩) : Sound P AQ ⟨k0, .code (.label l) :: k, t, H⟩ := fun E r n C a h0 hd => by
 simp only [wpT]; exact wpIn_label (h E r n C a h0 hd)

def exitTo' (id : Nat) : List It → Option (List It)
 | [] => none
 | .blk id' :: k => if id' = id then some k else exitTo' id k
 | _ :: k => exitTo' id k

theorem q3O {F : Fence} {n : Nat} {E : EnD} {Q : Exit → Act → World → Prop} {id : Nat} {a : Act} {w : World} {k' : List It} : ∀ {k : List It}, exitTo' id k = some k' → wpT F n P E Q k' a w → exitT F n P E Q id k a w
 | [], h, _ => by simp [exitTo'] at h
 | .blk id' :: k, h, hw => by
  unfold exitTo' at h
  rw [exitT]
  split at h
  · rw [if_pos (by assumption)]; cases h; exact hw
  rw [if_neg (by assumption)]; exact q3O h hw
 | .code _ :: k, h, hw => by rw [exitT]; exact q3O h hw
 | .ops _ _ :: k, h, hw => by rw [exitT]; exact q3O h hw
 | .any _ _ _ _ :: k, h, hw => by rw [exitT]; exact q3O h hw
 | .stop _ :: k, h, hw => by rw [exitT]; exact q3O h hw

theorem q2w {F : Fence} {n : Nat} {E : EnD} {Q : Exit → Act → World → Prop} {id : Nat} {a : Act} {w : World} : ∀ {k : List It}, exitTo' id k = none → Q (.exit id) a w → exitT F n P E Q id k a w
 | [], _, h => h
 | .blk id' :: k, hk, h => by
  unfold exitTo' at hk
  rw [exitT]
  split at hk
  · cases hk
  rw [if_neg (by assumption)]; exact q2w hk h
 | .code _ :: k, hk, h => by rw [exitT]; exact q2w hk h
 | .ops _ _ :: k, hk, h => by rw [exitT]; exact q2w hk h
 | .any _ _ _ _ :: k, hk, h => by rw [exitT]; exact q2w hk h
 | .stop _ :: k, hk, h => by rw [exitT]; exact q2w hk h
theorem z3d {id : Nat} {k' : List It} (hk : exitTo' id k = some k') (h : Sound P AQ ⟨k0, k', t, H⟩) : Sound P AQ ⟨k0, .code (.exit id) :: k, t, H⟩ := fun E r n C a h0 hd => by
 simp only [wpT]
 exact wpIn_exit (q3O hk (h E r n C a h0 hd))

theorem z2J {c : Operand} {x y : Code} {b : Bool} (hc : evT t c = .raw (.bool b)) (h1 : b = true → Sound P AQ ⟨k0, .code x :: k, t, H⟩) (h2 : b = false → Sound P AQ ⟨k0, .code y :: k, t, H⟩) :
 Sound P AQ ⟨k0, .code (.cond c x y) :: k, t, H⟩ := fun E r n C a h0 hd => by
 have he := q3o hd.tmps c
 rw [hc, SV.den] at he
 have g1 := fun hb => h1 hb E r n C a h0 hd
 have g2 := fun hb => h2 hb E r n C a h0 hd
 simp only [wpT] at g1 g2 ⊢
 exact wpIn_cond_split he g1 g2

def SV.le : SV → SV → Prop := fun s s' => ∀ C v, s.den C v → s'.den C v
theorem SV.le_refl (s : SV) : SV.le s s := fun _ _ h => h
theorem SV.le_any (s : SV) : SV.le s .any := fun _ _ _ => by rw [SV.den]; trivial
def leL : List SV → List SV → Prop
 | [], [] => True
 | s :: l, s' :: l' => SV.le s s' ∧ leL l l'
 | _, _ => False
theorem q4g {C : Cx} : ∀ {l l' : List SV} {vs : List Value}, leL l l' → SV.denL C l vs → SV.denL C l' vs
 | [], [], _, _, h => h
 | s :: l, s' :: l', _, hl, h => by
  obtain ⟨v, us, rfl, h1, h2⟩ := q0g.1 h
  exact q0g.2 ⟨v, us, rfl, hl.1 C v h1, q4g hl.2 h2⟩
 | [], _ :: _, _, hl, _ => hl.elim
 | _ :: _, [], _, hl, _ => hl.elim

theorem q1L {F : Fence} {n : Nat} {Q : Exit → Act → World → Prop} {a : Act} {w : World} {c : Code} (I : Nat → Act → World → Prop) (n₀ : Nat) (h₀ : I n₀ a w)
 (round : ∀ m a w, I m a w → c.wpIn F n P (Exit.then (fun a' w' => ∃ m', m' < m ∧ I m' a' w') Q) a w) : (Code.loop c).wpIn F n P Q a w := by
 refine wpIn_loop (fun a w => ∃ m, I m a w) (fun a w => leastOf (fun m => I m a w)) ⟨n₀, h₀⟩ ?_
 intro a w hI
 refine wpIn_mono (round _ a w (leastOf_spec hI).1) ?_
 intro e a' w' hq
 cases e with
 | normal =>
  obtain ⟨n', hlt, hI'⟩ := hq
  exact show (∃ n, I n a' w') ∧ leastOf (fun n => I n a' w') < leastOf (fun n => I n a w) from ⟨⟨n', hI'⟩, Nat.lt_of_le_of_lt ((leastOf_spec ⟨n', hI'⟩).2 n' hI') hlt⟩
 | exit id => exact hq
 | goto l => exact hq
 | ret => exact hq
 | panic ch => exact hq
 | outgrown => exact hq

theorem q9I {id : Nat} {all : Array Oper} (h : Sound P AQ ⟨k0, .ops all (List.range all.size) :: k, t, H⟩) : Sound P AQ ⟨k0, .code (.region id all false) :: k, t, H⟩ := fun E r n C a h0 hd => by
 have h1 := h E r n C a h0 hd
 simp only [wpT] at h1 ⊢
 exact wpIn_region h1

theorem q8v {all : Array Oper} (h : Sound P AQ ⟨k0, k, t, H⟩) : Sound P AQ ⟨k0, .ops all [] :: k, t, H⟩ := fun E r n C a h0 hd => by
 have h1 := h E r n C a h0 hd
 simp only [wpT, wpOpsIn]
 exact h1

def wantedT (all : Array Oper) (t : List SV) (o : Oper) : Option Bool :=
 match o.guard with
 | none => some true
 | some (j, want) => match (all[j]?).bind (·.dst) with
  | some d => match t.getD d .any with
   | .raw (.bool b) => some (b == want)
   | .raw (.tuple _) => some false
   | _ => none
  | none => none

theorem q2v {C : Cx} {all : Array Oper} {a : Act} {o : Oper} {b : Bool} (h : SV.denL C t a.tmps.toList) (hw : wantedT all t o = some b) : Region.wanted o (yielded all a.tmps) = b := by
 unfold wantedT at hw
 unfold Region.wanted
 split at hw
 · rename_i hg; rw [hg]; cases hw; rfl
 rename_i j want hg
 rw [hg]
 split at hw
 · rename_i d hdst
   split at hw
   · rename_i b' hb
     cases hw
     have hd := q3o h (.tmp d)
     simp only [evT] at hd
     rw [hb, SV.den] at hd
     have hlt : d < t.length := by
      rcases Nat.lt_or_ge d t.length with h' | h'
      · exact h'
      rw [List.getD_eq_getElem?_getD, List.getElem?_eq_none h'] at hb; simp at hb
     have hlt' : d < a.tmps.size := by
      have h2 : a.tmps.toList.length = t.length := q0K h
      rw [Array.length_toList] at h2
      rw [h2]; exact hlt
     have hv : a.tmps[d]? = some (.bool b') := by
      simp only [Act.eval] at hd
      rw [Array.getD_eq_getD_getElem?, Array.getElem?_eq_getElem hlt'] at hd
      rw [Array.getElem?_eq_getElem hlt']
      simpa using hd
     simp only [yielded, hdst, Option.bind_some, hv]
     cases b' <;> cases want <;> rfl
   · rename_i vs hb
     cases hw
     have hd := q3o h (.tmp d)
     simp only [evT] at hd
     rw [hb, SV.den] at hd
     simp only [Act.eval] at hd
     have hv : ∀ b, a.tmps[d]? ≠ some (.bool b) := fun b e => by
      rw [Array.getD_eq_getD_getElem?, e] at hd
      cases hd
     simp only [yielded, hdst, Option.bind_some]
     cases want <;> rfl
   cases hw
 cases hw

theorem q3R {E : EnD} {C C' : Cx} {H' : List SObj} {a : Act} {d : Option Tmp} {s : SV} {v : Value} (hd : Den E C t H a) (hw : Wd C' H') (hx : Stp E C H C' H') (hs : s.den C' v) : Den E C' (putT t d s) H' (a.put d v) where
 wd := hw
 ext := hx.ext hd.ext
 defs := by
  have : (a.put d v).defers = a.defers := by cases d <;> rfl
  rw [this]
  exact DefOk.stp hx hd.defs
 tmps := q8D (q0u hx.evo hd.tmps) d hs

theorem z1w {all : Array Oper} {i : Nat} {l : List Nat} {o : Oper} (ho : all[i]? = some o) (hw : wantedT all t o = some true)
 (h : OpV P o (evT t) H fun
  | .ret s, H' => Sound P AQ ⟨k0, .ops all l :: k, putT t o.dst s, H'⟩
  | .pan s, H' => AQ (.pan s) t H') : Sound P AQ ⟨k0, .ops all (i :: l) :: k, t, H⟩ := fun E r n C a h0 hd => by
 simp only [wpT, wpOpsIn, ho]
 rw [if_pos (q2v hd.tmps hw)]
 refine h E C r n a _ _ hd.wd hd.defs.2 (fun x _ => q3o hd.tmps x) ?_ ?_
 · intro s v H' C' hk hw' hx hs
   have := hk E r n C' (a.put o.dst v) h0 (q3R hd hw' hx hs)
   simp only [wpT] at this
   exact this
 intro s v H' C' hk hw' hx hs
 exact ⟨C', t, H', s, v, hk, rfl, hs, rfl, hw', hx.ext hd.ext, (DefOk.stp hx hd.defs).fin, .inr (q0u hx.evo hd.tmps)⟩

theorem q4O {all : Array Oper} {i : Nat} {l : List Nat} {o : Oper} (ho : all[i]? = some o) (hw : wantedT all t o = some false)
 (h : Sound P AQ ⟨k0, .ops all l :: k, putT t o.dst (.raw (.tuple #[])), H⟩) : Sound P AQ ⟨k0, .ops all (i :: l) :: k, t, H⟩ := fun E r n C a h0 hd => by
 simp only [wpT, wpOpsIn, ho]
 rw [if_neg (by rw [q2v hd.tmps hw]; simp)]
 refine ⟨fun f _ => q6B r f, ?_⟩
 have := h E r n C (a.put o.dst undef) h0 (q3R hd hd.wd (.of (Ext.refl _ _)) (by rw [SV.den]; rfl))
 simp only [wpT] at this
 exact this

end Go.Sx
