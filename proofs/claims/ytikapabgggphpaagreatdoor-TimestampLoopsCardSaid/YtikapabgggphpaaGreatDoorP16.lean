/- SHA-256: the reference's blocks. -/
import Derived.Test.YtikapabgggphpaaGreatDoorP15
import Derived.Test.YtikapabgggphpaaGreatDoorP13
import Derived.Below
import Derived.Deep.Draws
import Derived.Sort.Grow
import Derived.Test.YtikapabgggphpaaGreatDoorP12
set_option linter.all false
namespace Go.Proofs.YtikapabgggphpaaGreatDoor
open Go Go.Sx Go.Proofs
set_option maxRecDepth 100000
set_option maxHeartbeats 4000000
abbrev W32 : Int := 4294967296
def byI (b : List UInt8) (j : Nat) : Int := ((b.getD j 0).toNat : Int)
theorem z9U (b : List UInt8) (j : Nat) : 0 ≤ byI b j ∧ byI b j < 256 := by
 have := (b.getD j 0).toNat_lt
 unfold byI; omega
def wdP (b : List UInt8) (t : Nat) : Nat → Int
 | 0 => 0
 | i + 1 => 256 * wdP b t i + byI b (4 * t + i)
theorem z6U (b : List UInt8) (t : Nat) : ∀ i, i ≤ 4 → inW (wdP b t i) ∧ wdP b t i < 256 ^ i
 | 0, _ => by simp [wdP, inW]
 | i + 1, hi => by
  have := z6U b t i (by omega)
  have hb := z9U b (4 * t + i)
  have h3 : i = 0 ∨ i = 1 ∨ i = 2 ∨ i = 3 := by omega
  rcases h3 with rfl | rfl | rfl | rfl <;> (simp only [wdP] at *; simp at *; omega)
def sg0 (x : Int) : Int := xorW (xorW (rotW 7 x) (rotW 18 x)) (x / 8)
def sg1 (y : Int) : Int := xorW (xorW (rotW 17 y) (rotW 19 y)) (y / 1024)
def wS (b : List UInt8) (t : Nat) : Int := if h : t < 16 then wdP b t 4 else (sg1 (wS b (t - 2)) + wS b (t - 7) + sg0 (wS b (t - 15)) + wS b (t - 16)) % W32
termination_by t
theorem z0a {b : List UInt8} {t : Nat} (h : t < 16) : wS b t = wdP b t 4 := by rw [wS, dif_pos h]
theorem z0e {b : List UInt8} {t : Nat} (h : 16 ≤ t) : wS b t = (sg1 (wS b (t - 2)) + wS b (t - 7) + sg0 (wS b (t - 15)) + wS b (t - 16)) % W32 := by rw [wS, dif_neg (by omega)]
theorem q2a (b : List UInt8) (t : Nat) : inW (wS b t) := by
 rcases Nat.lt_or_ge t 16 with h | h
 · rw [z0a h]; exact (z6U b t 4 (Nat.le_refl _)).1
 rw [z0e h]; unfold inW W32; omega
def wL (b : List UInt8) (t : Nat) : List Int := (List.range 64).map fun j => if j < t then wS b j else 0
theorem q3f (b : List UInt8) (t : Nat) : (wL b t).length = 64 := by simp [wL]
theorem q0Q (b : List UInt8) {t j : Nat} (h : j < t) (h2 : j < 64) : (wL b t).getD j 0 = wS b j := by
 simp [wL, List.getD_eq_getElem?_getD, h2, h]
theorem q3e (b : List UInt8) {t : Nat} (h : t < 64) : (wL b t).set t (wS b t) = wL b (t + 1) := by
 apply List.ext_getElem
 · simp [wL]
 intro j h1 h2
 simp [wL] at h1 h2
 rw [List.getElem_set]
 simp only [wL, List.getElem_map, List.getElem_range]
 split
 · subst_vars; rw [if_pos (by omega)]
 rename_i hne
 by_cases hj : j < t
 · rw [if_pos hj, if_pos (by omega)]
 rw [if_neg hj, if_neg (by omega)]
theorem q5m (b : List UInt8) : wL b 0 = List.replicate 64 0 := by
 unfold wL
 rw [List.eq_replicate_iff]
 refine ⟨by rw [List.length_map, List.length_range], fun x hx => ?_⟩
 obtain ⟨j, _, rfl⟩ := List.mem_map.1 hx
 exact if_neg (Nat.not_lt_zero _)
def kS (t : Nat) : Int := dat_ref04_constants.getD t 0
def bs1 (e : Int) : Int := xorW (xorW (rotW 6 e) (rotW 11 e)) (rotW 25 e)
def bs0 (a : Int) : Int := xorW (xorW (rotW 2 a) (rotW 13 a)) (rotW 22 a)
def t1S (k w : Int) (v : List Int) : Int := v.getD 7 0 + bs1 (v.getD 4 0) + chW (v.getD 4 0) (v.getD 5 0) (v.getD 6 0) + k + w
def t2S (v : List Int) : Int := bs0 (v.getD 0 0) + majW (v.getD 0 0) (v.getD 1 0) (v.getD 2 0)
def rnd (k w : Int) (v : List Int) : List Int :=
 [(t1S k w v + t2S v) % W32, v.getD 0 0, v.getD 1 0, v.getD 2 0, (v.getD 3 0 + t1S k w v) % W32, v.getD 4 0, v.getD 5 0, v.getD 6 0]
def rnds (b : List UInt8) (h : List Int) : Nat → List Int
 | 0 => h
 | t + 1 => rnd (kS t) (wS b t) (rnds b h t)
abbrev inWs (v : List Int) : Prop := v.length = 8 ∧ ∀ x ∈ v, inW x
theorem q0g {v : List Int} (h : inWs v) (i : Nat) (hi : i < 8) : inW (v.getD i 0) := by
 rw [List.getD_eq_getElem?_getD, List.getElem?_eq_getElem (by omega)]
 exact h.2 _ (List.getElem_mem _)
theorem z9Z {k w : Int} {v : List Int} (h : inWs v) : inWs (rnd k w v) := by
 refine ⟨rfl, fun x hx => ?_⟩
 have hm : ∀ y : Int, inW (y % W32) := fun y => by unfold inW W32; omega
 simp only [rnd, List.mem_cons, List.not_mem_nil, or_false] at hx
 rcases hx with rfl | rfl | rfl | rfl | rfl | rfl | rfl | rfl
 · exact hm _
 · exact q0g h 0 (by decide)
 · exact q0g h 1 (by decide)
 · exact q0g h 2 (by decide)
 · exact hm _
 · exact q0g h 4 (by decide)
 · exact q0g h 5 (by decide)
 exact q0g h 6 (by decide)
theorem q1c {b : List UInt8} {h : List Int} (hh : inWs h) : ∀ t, inWs (rnds b h t)
 | 0 => hh
 | t + 1 => z9Z (q1c hh t)
theorem j1c : ∀ t, t < 64 → inW (kS t) := by decide
def blkS (b : List UInt8) (h : List Int) : List Int := (List.range 8).map fun i => (h.getD i 0 + (rnds b h 64).getD i 0) % W32
def blkP (b : List UInt8) (h : List Int) (n : Nat) : List Int := (List.range 8).map fun i => if i < n then (h.getD i 0 + (rnds b h 64).getD i 0) % W32 else h.getD i 0
end Go.Proofs.YtikapabgggphpaaGreatDoor
set_option linter.unusedSectionVars false
namespace Go.Sx
open Go
variable [Ghost] {P : Program} {AQ : Ex → List SV → List SObj → Prop} {k0 : Nat} {k : List IT} {t : List SV} {H : List SObj}

structure Cln (cs : List SV) : Prop where
 ren : ∀ σ, SV.renL σ cs = cs
 bel : ∀ n, SV.belL n cs = true
 shut : ∀ n H, SV.sealBL n H cs = some (cs, True)
 le : SV.leAL cs cs
theorem z1U {n : Nat} {l : List SObj} : sealHL n H l [] = True := by simp [sealHL]
theorem q9l {n : Nat} {o : SObj} {l l' : List SObj} : sealHL n H (o :: l) (.dead :: l') = (o.unmarked ∧ sealHL n H l l') := by simp [sealHL]
attribute [go_sem] z1U q9l
end Go.Sx
set_option linter.unusedSectionVars false
namespace Go.Sx
open Go
variable [Ghost] {P : Program} {AQ : Ex → List SV → List SObj → Prop} {k0 : Nat} {k : List IT} {t : List SV} {H : List SObj}

def afterR (P : Program) (AQ : Ex → List SV → List SObj → Prop) (d : Option Tmp) (m : IM) : Out → List SObj → Prop
 | .ret s, H' => SoundI P AQ { m with tmps := putT m.tmps d s, heap := H' }
 | .pan s, H' => AQ (.pan s) [] H'
theorem q1f {G : List Nat} {f : FuncId} {args args0 : List SV} {H0 H1 : List SObj} {o : Out} {d : Option Tmp} {m : IM} (hs : List Nat) (hp : PE P f args0 H0 o H1) (hargs : args = SV.renL (sig hs m.heap.length) args0) (hnd : hs.Nodup)
 (ha : atH (sig hs m.heap.length) m.heap hs H0) (hb : SV.belL H0.length args0 = true) (hbh : belH H0.length H0 = true) (hG : SameG G m.heap (mgA (sig hs m.heap.length) hs H1 m.heap))
 (h : afterR P AQ d m (o.ren (sig hs m.heap.length)) (mgA (sig hs m.heap.length) hs H1 m.heap)) : CallR P AQ G f args d m := by
 subst hargs
 refine ⟨hp.1, VCall.g (VCall.fr hs hnd ha hb hbh hp.2 ?_)⟩
 rintro o' H' _ ⟨rfl, rfl⟩
 cases o' with
 | ret s => exact ⟨fun _ => hG, h⟩
 | pan s => exact h

theorem z3B {C : Cx} {h : Nat} {T : TypeId} {cs cs' : List SV} (hw : Wd C H) (hH : H[h]? = some (.cells T cs)) (hd : ∀ vs, SV.denL C cs vs → SV.denL C cs' vs) : Wd C (H.set h (.cells T cs')) ∧ Ext ⟨C, H⟩ C (H.set h (.cells T cs')) := by
 have hget : ∀ {i y}, (H.set h (.cells T cs'))[i]? = some y → ∃ y', H[i]? = some y' ∧ y'.live = y.live ∧ (i ≠ h → y' = y) := fun {i y} hy => by
  by_cases e : i = h
  · subst e
    rw [List.getElem?_set_self (List.getElem?_eq_some_iff.1 hH).1] at hy
    cases hy
    exact ⟨_, hH, rfl, fun hn => absurd rfl hn⟩
  rw [List.getElem?_set_ne (Ne.symm e)] at hy
  exact ⟨y, hy, rfl, fun _ => rfl⟩
 have hown : ∀ b, OwnB C (H.set h (.cells T cs')) b → OwnB C H b := fun b ⟨i, y, hy, hl, hb⟩ => by
  obtain ⟨y', h1, h2, _⟩ := hget hy
  exact ⟨i, y', h1, by rw [h2]; exact hl, hb⟩
 refine ⟨⟨by rw [List.length_set]; exact hw.n, fun i y hy => ?_, fun b hb => hw.own b (hown b hb), fun i j y z b hy hz hl hl' hb hb' => ?_, hw.imm⟩, ⟨Evo.refl _, Nat.le_refl _, rfl, rfl, rfl, fun _ _ _ => rfl, fun _ h => .inl h, fun b hb => .inr (hown b hb), fun _ _ hm => q2Z hH rfl hm⟩⟩
 · by_cases e : i = h
   · subst e
     rw [List.getElem?_set_self (List.getElem?_eq_some_iff.1 hH).1] at hy
     cases hy
     obtain ⟨b, vs, h1, h2, h3⟩ := hw.obj i _ hH
     exact ⟨b, vs, h1, h2, hd vs h3⟩
   rw [List.getElem?_set_ne (Ne.symm e)] at hy
   exact hw.obj i y hy
 obtain ⟨y', h1, h2, _⟩ := hget hy
 obtain ⟨z', h3, h4, _⟩ := hget hz
 exact hw.inj i j y' z' b h1 h3 (by rw [h2]; exact hl) (by rw [h4]; exact hl') hb hb'
theorem q7t {P : Program} {k : List It} {tm : List SV} (h off : Nat) (ty : Ty) {T : TypeId} {cs : List SV} (hH : H[h]? = some (.cells T cs)) (hi : cs[off]? = some (.raw (.slice none 0 0))) (hs : Sound P AQ ⟨k0, k, tm, (H.set h (.cells T (cs.set off (.bld H.length ty 0)))) ++ [.row ty []]⟩) : Sound P AQ ⟨k0, k, tm, H⟩ := by
 intro E r n C a h0 hd
 obtain ⟨C', hw, g1, g2, g3⟩ := z0p (t := ty) hd.wd
 have hH' : (H ++ [SObj.row ty []])[h]? = some (.cells T cs) := by rw [List.getElem?_append_left (List.getElem?_eq_some_iff.1 hH).1]; exact hH
 obtain ⟨q1, q2⟩ := z3B (cs' := cs.set off (.bld H.length ty 0)) g1 hH' (fun vs hv => by
  obtain ⟨v, hv', hd'⟩ := q1o hv hi
  rw [SV.den] at hd'
  subst hd'
  have := q1J (i := off) hv g3
  have he : vs.set off (.slice none 0 0) = vs := by
   apply List.ext_getElem?
   intro j
   by_cases e : j = off
   · subst e
     rw [List.getElem?_set_self (List.getElem?_eq_some_iff.1 hv').1, hv']
   rw [List.getElem?_set_ne (Ne.symm e)]
  rwa [he] at this)
 have hset : (H ++ [SObj.row ty []]).set h (.cells T (cs.set off (.bld H.length ty 0))) = H.set h (.cells T (cs.set off (.bld H.length ty 0))) ++ [.row ty []] := List.set_append_left _ _ (List.getElem?_eq_some_iff.1 hH).1
 rw [hset] at q1 q2
 have := hs E r n C' a h0 ⟨q1, hd.ext.trans (g2.trans q2), DefOk.next (g2.trans q2) hd.defs, q0h g2.evo hd.tmps⟩
 rw [← hw]; exact this
theorem q6H (h off : Nat) (ty : Ty) {T : TypeId} {cs : List SV} {td : List IT} (hp : plainT td = true) (hH : H[h]? = some (.cells T cs)) (hi : cs[off]? = some (.raw (.slice none 0 0))) (hs : SoundI P AQ ⟨k0, td, t, (H.set h (.cells T (cs.set off (.bld H.length ty 0)))) ++ [.row ty []]⟩) : SoundI P AQ ⟨k0, td, t, H⟩ :=
 q0d (fun _ hr => q7t h off ty hH hi (q0c hs hr)) hp
end Go.Sx
set_option linter.unusedSectionVars false
namespace Go.Sx
open Go
variable [Ghost] {P : Program} {AQ : Ex → List SV → List SObj → Prop} {k0 : Nat} {k : List IT} {t : List SV} {H : List SObj}

end Go.Sx
set_option linter.unusedSectionVars false
namespace Go.Sx
open Go
variable {P : Program} {AQ : Ex → List SV → List SObj → Prop} {k0 : Nat} {k : List IT} {t : List SV} {H : List SObj}

def SameBut (ws : List Nat) (t t' : List SV) : Prop := t'.length = t.length ∧ ∀ i, i ∉ ws → t'[i]? = t[i]?
theorem SameBut.put {ws : List Nat} {t t' : List SV} (h : SameBut ws t t') {d : Option Tmp} (hd : ∀ e, d = some e → e ∈ ws) (s : SV) : SameBut ws t (putT t' d s) := by
 cases d with
 | none => exact h
 | some e => exact ⟨by simp [putT, h.1], fun i hi => by
  have hne : e ≠ i := fun e' => hi (e' ▸ hd e rfl)
  simp only [putT]
  rw [List.getElem?_set_ne hne]
  exact h.2 i hi⟩
theorem q8B : ∀ (ws : List Nat) (t : List SV), (maskT ws t).length = t.length
 | [], t => rfl
 | d :: ws, t => by
  show (maskT ws (t.set d .any)).length = _
  rw [q8B ws, List.length_set]
theorem z0y : ∀ (ws : List Nat) (t : List SV) (i : Nat) (s : SV), (maskT ws t)[i]? = some s → s = .any ∨ (i ∉ ws ∧ t[i]? = some s)
 | [], t, i, s, h => .inr ⟨by simp, h⟩
 | d :: ws, t, i, s, h => by
  have h' : (maskT ws (t.set d .any))[i]? = some s := h
  rcases z0y ws _ i s h' with rfl | ⟨h1, h2⟩
  · exact .inl rfl
  by_cases e : d = i
  · subst e
    rw [List.getElem?_set] at h2
    simp at h2
    exact .inl h2.2.symm
  rw [List.getElem?_set_ne e] at h2
  exact .inr ⟨by simp [h1]; exact fun q => e q.symm, h2⟩
theorem z3y : ∀ {l l' : List SV}, l.length = l'.length → (∀ (i : Nat) s s', l[i]? = some s → l'[i]? = some s' → s' = .any ∨ s' = s) → leL l l'
 | [], [], _, _ => trivial
 | [], _ :: _, h, _ => by simp at h
 | _ :: _, [], h, _ => by simp at h
 | s :: l, s' :: l', h, hp => by
  refine ⟨?_, z3y (by simpa using h) fun i x x' hx hx' => hp (i + 1) x x' (by simpa using hx) (by simpa using hx')⟩
  rcases hp 0 s s' rfl rfl with rfl | rfl
  · exact SV.le_any s
  exact SV.le_refl _
theorem SameBut.le {ws : List Nat} {t t' : List SV} (h : SameBut ws t t') : leL t' (maskT ws t) :=
 z3y (by rw [q8B, h.1]) fun i s s' hs hs' => by
  rcases z0y ws t i s' hs' with rfl | ⟨h1, h2⟩
  · exact .inl rfl
  right
  rw [h.2 i h1, h2] at hs
  cases hs; rfl
end Go.Sx
namespace Go.Sx
open Go

def ZInv (q : Nat → Prop) (w0 : World) (C : Cx) (H : List SObj) : Prop := ∀ b, q b → b < C.w.heap.size ∧ ¬ C.I b ∧ ¬ OwnB C H b ∧ C.w.heap[b]? = w0.heap[b]?

theorem z3c {E : En} {C : Cx} {H : List SObj} (hx : Ext E C H) {b : Nat} (h1 : b < E.C.w.heap.size) (h2 : ¬ E.C.I b) (h3 : ¬ OwnB E.C E.H b) : b < C.w.heap.size ∧ ¬ C.I b ∧ ¬ OwnB C H b ∧ C.w.heap[b]? = E.C.w.heap[b]? := by
 refine ⟨Nat.lt_of_lt_of_le h1 hx.size, fun hi => ?_, fun ho => ?_, hx.frame b h1 h3⟩
 · rcases hx.immNew b hi with g | ⟨g | g, _⟩
   · exact h2 g
   · exact absurd h1 (Nat.not_lt.2 g)
   exact h3 g
 rcases hx.ownNew b ho with g | g
 · exact absurd h1 (Nat.not_lt.2 g)
 exact h3 g

@[reducible] def frzG (q : Nat → Prop) (w0 : World) : Ghost where
 inv0 := fun _ C H => ZInv q w0 C H
 fin := fun E _ _ ds => ds = E.base ∧ True
 toFin0 := fun _ _ => ⟨rfl, trivial⟩
 next0 := fun hx h b hb => by
  obtain ⟨h1, h2, h3, h4⟩ := h b hb
  obtain ⟨g1, g2, g3, g4⟩ := z3c hx h1 h2 h3
  exact ⟨g1, g2, g3, g4.trans h4⟩
 same0 := fun _ e _ hi ho _ _ h b hb => by
  obtain ⟨h1, h2, h3, h4⟩ := h b hb
  rw [e]
  exact ⟨h1, fun x => (hi b x).elim h2 h3, fun x => h3 (ho b x), h4⟩

def simV (u v : Value) : Prop := v = u ∨ (∃ k n m, u = .int k n ∧ v = .int k m) ∨ ∃ s s', u = .string s ∧ v = .string s' ∧ s'.size ≤ 140737488355328
def simB (o o' : Option Obj) : Prop := o' = o ∨ ∃ (vs vs' : List Value) (T : TypeId) (fz : Nat × Nat), o = some (.cells vs.toArray T fz) ∧ o' = some (.cells vs'.toArray T fz) ∧ vs'.length = vs.length ∧ ∀ (i : Nat) u v, vs[i]? = some u → vs'[i]? = some v → simV u v
theorem simV.trans {u v w : Value} (h : simV u v) (k : simV v w) : simV u w := by
 rcases h with rfl | ⟨k', n, m, rfl, rfl⟩ | ⟨s, s', rfl, rfl, h1⟩
 · exact k
 · rcases k with rfl | ⟨k2, n2, m2, h1, rfl⟩ | ⟨s, s', h1, _⟩
   · exact .inr (.inl ⟨_, _, _, rfl, rfl⟩)
   · cases h1; exact .inr (.inl ⟨_, _, _, rfl, rfl⟩)
   cases h1
 rcases k with rfl | ⟨k2, n2, m2, h1, rfl⟩ | ⟨s2, s3, h2, rfl, h3⟩
 · exact .inr (.inr ⟨_, _, rfl, rfl, h1⟩)
 · cases h1
 cases h2; exact .inr (.inr ⟨_, _, rfl, rfl, h3⟩)
theorem z1q {w0 w : World} {b o : Nat} {u : Value} (h : simB w0.heap[b]? w.heap[b]?) (hc : w0.cell? ⟨b, o, none⟩ = some u) : ∃ v, w.cell? ⟨b, o, none⟩ = some v ∧ simV u v := by
 rcases h with h | ⟨vs, vs', T, fz, h1, h2, h3, h4⟩
 · exact ⟨u, (World.cell?_of_block (a := ⟨b, o, none⟩) h).trans hc, .inl rfl⟩
 rw [q0f h1] at hc
 have hlt : o < vs'.length := by rw [h3]; exact (List.getElem?_eq_some_iff.1 hc).1
 exact ⟨vs'[o], by rw [q0f h2, List.getElem?_eq_getElem hlt], h4 o u _ hc (List.getElem?_eq_getElem hlt)⟩

def SInv (q : Nat → Prop) (w0 : World) (E : En) (C : Cx) (H : List SObj) : Prop :=
 ∀ b, q b → ((E.C.w.heap.size ≤ b ∨ OwnB E.C E.H b) ∧ ¬ TBlk b) ∧ b < C.w.heap.size ∧ ¬ C.I b ∧ ¬ OwnB C H b ∧ Unf C.w b ∧ simB w0.heap[b]? C.w.heap[b]?

@[reducible] def scrG (q : Nat → Prop) (w0 : World) : Ghost where
 inv0 := fun E C H => SInv q w0 E.toEn C H
 fin := fun E C H ds => ds = E.base ∧ SInv q w0 E.toEn C H
 toFin0 := fun _ h => ⟨rfl, h⟩
 next0 := fun hx h b hb => by
  obtain ⟨h0, h1, h2, h3, h4, h5⟩ := h b hb
  obtain ⟨g1, g2, g3, g4⟩ := z3c hx h1 h2 h3
  refine ⟨h0, g1, g2, g3, h4.keep g4, ?_⟩
  have g4' := g4
  simp only at g4'
  rw [g4']; exact h5
 same0 := fun _ e _ hi ho _ _ h b hb => by
  obtain ⟨h0, h1, h2, h3, h4, h5⟩ := h b hb
  rw [e]
  exact ⟨h0, h1, fun x => (hi b x).elim h2 h3, fun x => h3 (ho b x), h4, h5⟩

def At (q : Nat → Prop) (w0 : World) (t : Ty) (x : t.den) (b o : Nat) : Prop := q b ∧ ∃ vs, t.rel q w0 x vs ∧ ∀ j u, vs[j]? = some u → w0.cell? ⟨b, o + j, none⟩ = some u
theorem At.fst {q : Nat → Prop} {w0 : World} {s t : Ty} {x : (Ty.prod s t).den} {b o : Nat} (h : At q w0 (.prod s t) x b o) : At q w0 s x.1 b o := by
 obtain ⟨hq, vs, ⟨v1, v2, rfl, h1, h2⟩, hc⟩ := h
 exact ⟨hq, v1, h1, fun j u hj => hc j u (by rw [List.getElem?_append_left (List.getElem?_eq_some_iff.1 hj).1]; exact hj)⟩
theorem At.snd {q : Nat → Prop} {w0 : World} {s t : Ty} {x : (Ty.prod s t).den} {b o : Nat} (h : At q w0 (.prod s t) x b o) : At q w0 t x.2 b (o + s.size) := by
 obtain ⟨hq, vs, ⟨v1, v2, rfl, h1, h2⟩, hc⟩ := h
 refine ⟨hq, v2, h2, fun j u hj => ?_⟩
 rw [Nat.add_assoc]
 refine hc (s.size + j) u ?_
 rw [← s.rel_size _ _ h1, List.getElem?_append_right (Nat.le_add_right _ _), Nat.add_sub_cancel_left]
 exact hj
def Sl (q : Nat → Prop) (w0 : World) (t : Ty) (xs : List t.den) (v : Value) : Prop := (Ty.slice t).rel q w0 xs [v]
theorem Sl.out {q : Nat → Prop} {w0 : World} {t : Ty} {xs : List t.den} {v : Value} (h : Sl q w0 t xs v) :
 ∃ A c, v = .slice A xs.length c ∧ (xs = [] ∨ ∃ b o, A = some ⟨b, o, none⟩ ∧ ∀ i x, xs[i]? = some x → At q w0 t x b (o + i * t.size)) := by
 obtain ⟨A, n, c, e, rfl, _, _, h⟩ := h
 simp only [List.cons.injEq, and_true] at e
 refine ⟨A, c, e, orMap h id ?_⟩
 rintro ⟨b, o, rfl, hq, h⟩
 exact ⟨b, o, rfl, fun i x hx => ⟨hq, h i x hx⟩⟩
theorem At.sl {q : Nat → Prop} {w0 : World} {t : Ty} {xs : List t.den} {b o : Nat} (h : At q w0 (.slice t) xs b o) : ∃ v, Sl q w0 t xs v ∧ w0.cell? ⟨b, o, none⟩ = some v := by
 obtain ⟨hq, vs, hr, hc⟩ := h
 obtain ⟨A, n, c, rfl, _⟩ := id hr
 exact ⟨_, hr, hc 0 _ rfl⟩
theorem At.int {q : Nat → Prop} {w0 : World} {k : IntKind} {x : (Ty.int k).den} {b o : Nat} (h : At q w0 (.int k) x b o) : w0.cell? ⟨b, o, none⟩ = some (.int k x) := by
 obtain ⟨hq, vs, rfl, hc⟩ := h; exact hc 0 _ rfl
theorem At.u8 {q : Nat → Prop} {w0 : World} {x : Ty.u8.den} {b o : Nat} (h : At q w0 .u8 x b o) : w0.cell? ⟨b, o, none⟩ = some (.int .u8 (UInt8.toNat x)) := by
 obtain ⟨hq, vs, rfl, hc⟩ := h; exact hc 0 _ rfl
theorem At.str {q : Nat → Prop} {w0 : World} {x : Ty.str.den} {b o : Nat} (h : At q w0 .str x b o) : w0.cell? ⟨b, o, none⟩ = some (.string x) := by
 obtain ⟨hq, vs, ⟨rfl, _⟩, hc⟩ := h; exact hc 0 _ rfl

variable {P : Program} {AQ : Ex → List SV → List SObj → Prop}
theorem z4n {q : Nat → Prop} {w0 : World} {b o : Nat} {u : Value} {d : Option Tmp} {m : IM} (hq : q b) (hc : w0.cell? ⟨b, o, none⟩ = some u) (hk : ∀ v, simV u v → @SoundI (scrG q w0) P AQ { m with tmps := putT m.tmps d (.raw v) }) :
 @ZldI (scrG q w0) P AQ none b o d m := by
 rintro E C _ ⟨_, hg⟩
 obtain ⟨v, h1, h2⟩ := z1q (hg b hq).2.2.2.2.2 hc
 refine ⟨.raw v, .inl ⟨[.raw v], [v], q0b.2 ⟨v, [], rfl, by rw [SV.den], q0l.2 rfl⟩, fun j u hj => ?_, rfl⟩, hk v h2⟩
 cases j with
 | zero => simp only [List.getElem?_cons_zero, Option.some.injEq] at hj; subst hj; exact h1
 | succ j => simp at hj
theorem z7d {q : Nat → Prop} {w0 : World} {t : Ty} {ys : List t.den} {b o : Nat} {d : Option Tmp} {m : IM} (h : At q w0 (.slice t) ys b o) (hk : ∀ v, Sl q w0 t ys v → @SoundI (scrG q w0) P AQ { m with tmps := putT m.tmps d (.raw v) }) :
 @ZldI (scrG q w0) P AQ none b o d m := by
 obtain ⟨u, h1, h2⟩ := h.sl
 refine z4n h.1 h2 fun v hv => ?_
 obtain ⟨A, c, rfl, _⟩ := h1.out
 rcases hv with rfl | ⟨_, _, _, h3, _⟩ | ⟨_, _, h3, _⟩
 · exact hk _ h1
 · cases h3
 cases h3
theorem z9v {q : Nat → Prop} {w0 : World} {k : IntKind} {b o : Nat} {n : Int} {d : Option Tmp} {m : IM} (hq : q b) (h : w0.cell? ⟨b, o, none⟩ = some (.int k n)) (hk : ∀ n : Int, @SoundI (scrG q w0) P AQ { m with tmps := putT m.tmps d (.raw (.int k n)) }) :
 @ZldI (scrG q w0) P AQ none b o d m := by
 refine z4n hq h fun v hv => ?_
 rcases hv with rfl | ⟨_, _, _, h3, rfl⟩ | ⟨_, _, h3, _⟩
 · exact hk _
 · cases h3; exact hk _
 cases h3

theorem z7i {C : Cx} {H : List SObj} {w' : World} (hw : Wd C H) (hs : w'.heap.size = C.w.heap.size) (hb : ∀ b, C.I b ∨ OwnB C H b → w'.heap[b]? = C.w.heap[b]?) (hz : ∀ b m, World.bsize C.w b = some m → World.bsize w' b = some m) :
 Wd { C with w := w' } H ∧ Evo C { C with w := w' } := by
 have he : Evo C { C with w := w' } := ⟨Nat.le_refl _, fun _ _ => rfl, fun b hI => ⟨hI, hb b (.inl hI)⟩, hz⟩
 refine ⟨⟨hw.n, fun h o ho => ?_, fun b hb' => ?_, hw.inj, fun b hI => ?_⟩, he⟩
 · by_cases hl : o.live = true
   · exact q0r (C' := { C with w := w' }) he.I h rfl (fun b hb' => hb b (.inr ⟨h, o, ho, hl, hb'⟩)) (q0h he) (hw.obj h o ho)
   cases o <;> first | trivial | simp [SObj.live] at hl
 · have := hw.own b hb'
   exact ⟨this.1, by rw [hs]; exact this.2⟩
 rw [hs]; exact hw.imm b hI

theorem z9l {b o : Nat} {w : World} {v : Value} {vs : List Value} {T : TypeId} {fz : Nat × Nat} (h : w.heap[b]? = some (.cells vs.toArray T fz)) (hlt : o < vs.length) : (w.setCells b o [v]).heap[b]? = some (.cells (vs.set o v).toArray T fz) := by
 rw [q1b [v] o w vs h (by simp; omega)]
 congr 3
 unfold splice
 rw [List.set_eq_take_append_cons_drop, if_pos hlt]
 simp

theorem z9s {q : Nat → Prop} {w0 : World} {b o : Nat} {u v : Value} {d : Option Tmp} {m : IM} (hq : q b) (hc : w0.cell? ⟨b, o, none⟩ = some u) (hs : simV u v) (hf : (SV.raw v).flat = some [.raw v]) (h1 : ones [SV.raw v] = true)
 (hk : @SoundI (scrG q w0) P AQ { m with tmps := putT m.tmps d .any }) : @ZstI (scrG q w0) P AQ 1 b o (.raw v) d m := by
 refine ⟨[.raw v], hf, rfl, h1, fun E C us hw hg0 hv => ?_, hk⟩
 have hg : SInv q w0 E.toEn C m.heap := hg0.2
 clear hg0
 generalize m.heap = H at *
 obtain ⟨v', us', rfl, hv', hn⟩ := q0b.1 hv
 rw [q0l] at hn; subst hn
 rw [SV.den] at hv'; subst hv'
 obtain ⟨h0, g1, g2, g3, g4, g5⟩ := hg b hq
 obtain ⟨u', hc', hs'⟩ := z1q g5 hc
 -- the block as it lies now
 have hcells : ∃ (vs : List Value) (T : TypeId) (fz : Nat × Nat), C.w.heap[b]? = some (.cells vs.toArray T fz) := by
  unfold World.cell? at hc'
  split at hc'
  · rename_i c T fz h; exact ⟨c.toList, T, fz, by simpa using h⟩
  cases hc'
 obtain ⟨vs, T, fz, hcell⟩ := hcells
 rw [q0f hcell] at hc'
 have hlt : o < vs.length := (List.getElem?_eq_some_iff.1 hc').1
 have hnew := z9l (v := v') hcell hlt
 have hoth : ∀ b', b' ≠ b → (C.w.setCells b o [v']).heap[b']? = C.w.heap[b']? := fun b' e => q0q e _ _ _
 have hfar : ∀ b', C.I b' ∨ OwnB C H b' → b' ≠ b := fun b' h e => by subst e; exact h.elim g2 g3
 have hszw : (C.w.setCells b o [v']).heap.size = C.w.heap.size := q0P _ _ _
 have hbs : ∀ b' m, World.bsize C.w b' = some m → World.bsize (C.w.setCells b o [v']) b' = some m := fun b' m hm => by
  by_cases e : b' = b
  · subst e; unfold World.bsize at hm ⊢; rw [hnew]; rw [hcell] at hm; simpa using hm
  unfold World.bsize at hm ⊢; rw [hoth b' e]; exact hm
 obtain ⟨k1, k2⟩ := z7i hw hszw (fun b' h => hoth b' (hfar b' h)) hbs
 have hsim : simB (w0.heap[b]?) ((C.w.setCells b o [v']).heap[b]?) := by
  rw [hnew]
  rcases g5 with g5 | ⟨ws, ws', T', fz', e1, e2, e3, e4⟩
  · rw [hcell] at g5
    refine .inr ⟨vs, vs.set o v', T, fz, g5.symm, rfl, by simp, fun i x y hx hy => ?_⟩
    by_cases e : o = i
    · subst e
      rw [List.getElem?_set_self hlt] at hy
      cases hy
      have hu : u = x := by
       rw [World.cell?_of_block (a := ⟨b, o, none⟩) (w := C.w) (by rw [hcell]; exact g5.symm), q0f hcell, hx] at hc
       exact (Option.some.inj hc).symm
      exact hu ▸ hs
    rw [List.getElem?_set_ne e, hx] at hy
    cases hy; exact .inl rfl
  rw [hcell] at e2
  cases e2
  refine .inr ⟨ws, vs.set o v', T, fz, e1, rfl, by simpa using e3, fun i x y hx hy => ?_⟩
  by_cases e : o = i
  · subst e
    rw [List.getElem?_set_self hlt] at hy
    cases hy
    rw [q0f e1, hx] at hc
    cases hc
    exact hs
  rw [List.getElem?_set_ne e] at hy
  exact e4 i x y hx hy
 refine ⟨vs, T, fz, hcell, by simp; omega, fun j hj => ?_, k1, @Stp.mk (scrG q w0) E C H _ H k2 (fun hx => ?_) (fun hx0 => ⟨⟨hx0.1.tab.keep k2.I fun b' hT hb' ho => ⟨by show _ < (C.w.setCells b o [v']).heap.size; rw [hszw]; exact hb', ho, hoth b' fun e => by subst e; exact h0.2 hT⟩, hx0.1.old⟩, fun b' hb' => ?_⟩)⟩
 · have := g4 _ _ _ hcell (o + j) (by simp at hj ⊢; omega)
   exact this
 · have hEb : ∀ b', b' < E.C.w.heap.size → ¬ OwnB E.C E.H b' → b' ≠ b := fun b' h1 h2 e => by subst e; exact h0.1.elim (fun x => absurd h1 (Nat.not_lt.2 x)) h2
   exact ⟨hx.evo.trans k2, by show _ ≤ (C.w.setCells b o [v']).heap.size; rw [hszw]; exact hx.size, (q1i _ _ _).trans hx.os, (q0O _ _ _).trans hx.tape, (q0I _ _ _).trans hx.output,
    fun b' h1 h2 => (hoth b' (hEb b' h1 h2)).trans (hx.frame b' h1 h2), fun b' hb' => orMap (hx.immNew b' hb') id fun ⟨x, y⟩ => ⟨x, y.keep (hoth b' (hfar b' (.inl hb')))⟩, hx.ownNew, hx.keep0⟩
 have hx : SInv q w0 E.toEn C H := hx0.2
 obtain ⟨a0, a1, a2, a3, a4, a5⟩ := hx b' hb'
 refine ⟨a0, by show _ < (C.w.setCells b o [v']).heap.size; rw [hszw]; exact a1, a2, a3, ?_, ?_⟩
 · by_cases e : b' = b
   · subst e
     intro c' T' fz' hc2 i hi
     simp only at hc2
     rw [hnew] at hc2
     cases hc2
     exact g4 _ _ _ hcell i (by simpa using hi)
   exact a4.keep (hoth b' e)
 by_cases e : b' = b
 · subst e; exact hsim
 show simB _ ((C.w.setCells b o [v']).heap[b']?)
 rw [hoth b' e]; exact a5
theorem z2w {q : Nat → Prop} {w0 : World} {k : IntKind} {b o : Nat} {n n' : Int} {d : Option Tmp} {m : IM} (hq : q b) (h : w0.cell? ⟨b, o, none⟩ = some (.int k n)) (hk : @SoundI (scrG q w0) P AQ { m with tmps := putT m.tmps d .any }) :
 @ZstI (scrG q w0) P AQ 1 b o (.raw (.int k n')) d m := z9s hq h (.inr (.inl ⟨_, _, _, rfl, rfl⟩)) rfl rfl hk
theorem zldF {q : Nat → Prop} {w0 : World} {t : Ty} {x : t.den} {b o : Nat} {d : Option Tmp} {m : IM} (h : At q w0 t x b o) (hk : ∀ vs, t.rel q w0 x vs → @SoundI (frzG q w0) P AQ { m with tmps := putT m.tmps d (.agg (rawL vs)) }) :
 @ZldI (frzG q w0) P AQ (some t.size) b o d m := by
 obtain ⟨hq, vs, hr, hc⟩ := h
 rintro E C _ ⟨_, hg⟩
 have hl : (rawL vs).length = t.size := by rw [rawL, List.length_map]; exact t.rel_size _ _ hr
 refine ⟨.agg (rawL vs), .inl ⟨rawL vs, vs, q0Z _, fun j u hj => ?_, ?_⟩, hk vs hr⟩
 · rw [World.cell?_of_block (a := ⟨b, o + j, none⟩) (hg b hq).2.2.2]; exact hc j u hj
 simp only [pick, Nat.zero_add, hl, Nat.le_refl, if_true, List.drop_zero, Option.some.injEq, SV.agg.injEq]
 rw [← hl, List.take_length]
theorem zldF1 {q : Nat → Prop} {w0 : World} {t : Ty} {x : t.den} {b o : Nat} {d : Option Tmp} {m : IM} (h : At q w0 t x b o) (ht : t.size = 1) (hk : ∀ v, t.rel q w0 x [v] → @SoundI (frzG q w0) P AQ { m with tmps := putT m.tmps d (.raw v) }) :
 @ZldI (frzG q w0) P AQ none b o d m := by
 obtain ⟨hq, vs, hr, hc⟩ := h
 rintro E C _ ⟨_, hg⟩
 have hl := t.rel_size _ _ hr
 rw [ht] at hl
 match vs, hl with
 | [v], _ =>
  refine ⟨.raw v, .inl ⟨rawL [v], [v], q0Z _, fun j u hj => ?_, rfl⟩, hk v hr⟩
  rw [World.cell?_of_block (a := ⟨b, o + j, none⟩) (hg b hq).2.2.2]; exact hc j u hj
end Go.Sx
namespace Go.Sx
open Go

variable {P : Program} {AQ : Ex → List SV → List SObj → Prop} {k0 : Nat} {k : List IT} {t : List SV} {H : List SObj}

theorem z2r {f : FuncId} {fi : FI} (h : finfo P f = some fi) : ∃ fn c, P.funcs[f]? = some fn ∧ fn.body = some c ∧ comp P c = some fi.code ∧ fn.ntmps = fi.ntmps ∧ fn.results.toList = fi.results ∧ enters P f = true := by
 unfold finfo at h
 split at h
 · rename_i fn hf
   split at h
   · rename_i c hb
     split at h
     · rename_i ic hc
       split at h
       · cases h
       rename_i hn
       cases h
       exact ⟨fn, c, hf, hb, hc, rfl, rfl, by simp [enters, hf, hb]; simpa using hn⟩
     cases h
   cases h
 cases h
theorem z4T [Ghost] {f : FuncId} {fi : FI} {args : List SV} {K : Out → List SObj → Prop} {E : EnD} {C : Cx} {vs : List Value} (h : finfo P f = some fi) (hE : E.base = []) (hn : E.C.n ≤ H.length) (hw : Wd C H) (hx : Ext E C H) (hg : Ghost.inv E C H)
 (J : Cx → List SObj → Prop) (hJ : LeaveOk E J)
 (hv : SV.denL C args vs) (hs : SoundI P (retF P fi.results K) ⟨H.length, [.ic fi.code], args ++ List.replicate (fi.ntmps - args.length) .any, H⟩) :
 Calls P f vs.toArray C.w fun e w' => ∃ o H' C', K o H' ∧ C'.w = w' ∧ Wd C' H' ∧ Ext E C' H' ∧ J C' H' ∧ outDen C' o e := by
 obtain ⟨fn, c, hf, hb, hc, h1, h2, _⟩ := z2r h
 have hq : retQ P fn K = retF P fi.results K := by rw [← h2]; funext e t H; cases e <;> rfl
 exact q3t hf hb hE hn hw hx hg J hJ hv (by rw [hq, h1]; exact q0c hs ⟨c, [], rfl, hc, rfl⟩)

def VCallZ (q : Nat → Prop) (w0 : World) (P : Program) (f : FuncId) (args : List SV) (H : List SObj) (K : Out → List SObj → Prop) : Prop :=
 ∀ (C : Cx) (vs : List Value), Wd C H → TabT C H → ZInv q w0 C H → SV.denL C args vs → Calls P f vs.toArray C.w fun e w' => ∃ o H' C', K o H' ∧ C'.w = w' ∧ Wd C' H' ∧ Ext ⟨C, H⟩ C' H' ∧ outDen C' o e
def VCZ (q : Nat → Prop) (w0 : World) (P : Program) (f : FuncId) (args : List SV) (H : List SObj) (K : Out → List SObj → Prop) : Prop := enters P f = true ∧ VCallZ q w0 P f args H K
theorem VCallZ.g {q : Nat → Prop} {w0 : World} {f : FuncId} {args : List SV} {K : Out → List SObj → Prop} (h : VCallZ q w0 P f args H K) : @VCallG (frzG q w0) P f args H K :=
 fun E C vs hw hg hv => (h C vs hw hg.1.tab hg.2 hv).mono fun _ _ ⟨o, H', C', k, e, w, x, r⟩ => ⟨o, H', C', k, e, w, @Stp.of (frzG q w0) E C C' H H' x, r⟩
theorem z9Y {q : Nat → Prop} {w0 : World} {f : FuncId} {fi : FI} {args : List SV} {K : Out → List SObj → Prop} (h : finfo P f = some fi)
 (hs : @SoundI (frzG q w0) P (retF P fi.results K) ⟨H.length, [.ic fi.code], args ++ List.replicate (fi.ntmps - args.length) .any, H⟩) : VCZ q w0 P f args H K := by
 obtain ⟨_, _, _, _, _, _, _, hen⟩ := z2r h
 refine ⟨hen, fun C vs hw ht hg hv => ?_⟩
 refine (@z4T P H (frzG q w0) f fi args K ⟨⟨C, H⟩, []⟩ C vs h rfl (by rw [hw.n]; exact Nat.le_refl _) hw (Ext.refl _ _) ⟨ht.here, hg⟩ (fun _ _ => True) (fun _ _ ds _ _ h => ⟨[], h.1, List.nodup_nil, fun _ h => by simp at h, trivial⟩) hv hs).mono ?_
 rintro e w' ⟨o, H', C', k1, k2, k3, k4, _, k5⟩
 exact ⟨o, H', C', k1, k2, k3, k4, k5⟩
def PCZ (q : Nat → Prop) (w0 : World) (P : Program) (f : FuncId) (args : List SV) (s : SV) : Prop := enters P f = true ∧ ∀ (H : List SObj) (K : Out → List SObj → Prop), K (.ret s) H → VCallZ q w0 P f args H K
theorem ZInv.nil {q : Nat → Prop} {w0 : World} {C : Cx} (h : ZInv q w0 C H) : ZInv q w0 { C with n := 0 } [] := fun b hb => by
 obtain ⟨h1, h2, h3, h4⟩ := h b hb
 exact ⟨h1, h2, fun ⟨i, o, ho, _⟩ => by simp at ho, h4⟩
theorem z4X {q : Nat → Prop} {w0 : World} {f : FuncId} {args : List SV} {s : SV} (ha : SV.cleanL args = true) (hs : s.clean = true) (h : VCZ q w0 P f args [] (SealK s)) : PCZ q w0 P f args s :=
 ⟨h.1, fun H K hk C vs hw ht hg hv => q3s hs hw (q6B (C := { C with n := 0 }) hw.nil (h.2 { C with n := 0 } vs hw.nil (ht.nil rfl fun _ h => h) hg.nil (q0D (C := C) (C' := { C with n := 0 }) (Keeps.refl _ _) ha hv))) hk⟩
def Ty.flat : Ty → Bool
 | .slice _ => false
 | .prod a b => a.flat && b.flat
 | .arr _ t => t.flat
 | .ptr _ => false
 | .clo _ _ => false
 | .mbs _ => false
 | _ => true
theorem Ty.rel_flat {I I' : Nat → Prop} {w w' : World} : ∀ (t : Ty) (x : t.den) (vs : List Value), t.flat = true → t.rel I w x vs → t.rel I' w' x vs
 | .u8, _, _, _, h => h
 | .int _, _, _, _, h => h
 | .bool, _, _, _, h => h
 | .str, _, _, _, h => h
 | .slice t, _, _, hf, _ => by cases hf
 | .prod a b, x, vs, hf, h => by
  obtain ⟨v1, v2, rfl, h1, h2⟩ := h
  simp only [Ty.flat, Bool.and_eq_true] at hf
  exact ⟨v1, v2, rfl, a.rel_flat _ _ hf.1 h1, b.rel_flat _ _ hf.2 h2⟩
 | .unit, _, _, _, h => h
 | .arr n t, xs, vs, hf, h => by
  obtain ⟨hn, vss, rfl, hl, h⟩ := h
  exact ⟨hn, vss, rfl, hl, fun i x us hx hu => t.rel_flat _ _ hf (h i x us hx hu)⟩
 | .ptr t, _, _, hf, _ => by cases hf
 | .clo _ t, _, _, hf, _ => by cases hf
 | .mbs t, _, _, hf, _ => by cases hf
def Cx.lend (C : Cx) (q : Nat → Prop) : Cx := { C with I := fun b => C.I b ∨ q b, n := 0 }
theorem z9N {q : Nat → Prop} {w0 : World} {C : Cx} (hw : Wd C H) (hg : ZInv q w0 C H) : Wd (C.lend q) [] where
 n := rfl
 obj := fun h o ho => by simp at ho
 own := fun b ⟨h, o, ho, _⟩ => by simp at ho
 inj := fun h h' o o' b ho => by simp at ho
 imm := fun b hb => hb.elim (hw.imm b) fun h => (hg b h).1
theorem z5o {q : Nat → Prop} {w0 : World} {C : Cx} (hg : ZInv q w0 C H) {t : Ty} {x : t.den} {vs : List Value} (h : t.rel q w0 x vs) : t.rel (C.lend q).I (C.lend q).w x vs :=
 Ty.rel_keep (fun b hb => ⟨.inr hb, (hg b hb).2.2.2⟩) _ _ _ h
def LendA (q : Nat → Prop) (w0 : World) (args args' : List SV) : Prop := ∀ (C : Cx) (H : List SObj) (vs : List Value), ZInv q w0 C H → SV.denL C args vs → SV.denL (C.lend q) args' vs
theorem z5q {q : Nat → Prop} {w0 : World} : LendA q w0 [] [] := fun _ _ _ _ h => by rw [q0l] at h ⊢; exact h
theorem j0a {q : Nat → Prop} {w0 : World} {t : Ty} {xs : List t.den} {v : Value} {l l' : List SV} (hv : Sl q w0 t xs v) (h : LendA q w0 l l') : LendA q w0 (.raw v :: l) (.isl t xs :: l') := fun C H vs hg hd => by
 obtain ⟨u, us, rfl, h1, h2⟩ := q0b.1 hd
 rw [SV.den] at h1; subst h1
 exact q0b.2 ⟨_, us, rfl, by rw [SV.den]; exact z5o hg hv, h C H us hg h2⟩
theorem z1b {q : Nat → Prop} {w0 : World} {C C1 : Cx} {H1 : List SObj} (hw : Wd C H) (hx : Ext ⟨C.lend q, []⟩ C1 H1) :
 Wd { C with w := C1.w } H ∧ Ext ⟨C, H⟩ { C with w := C1.w } H := by
 have hold : ∀ b, b < C.w.heap.size → C1.w.heap[b]? = C.w.heap[b]? := fun b hb => hx.frame b hb (fun ⟨h, o, ho, _⟩ => by simp at ho)
 exact z5m hw hx.size hold hx.os hx.tape hx.output

theorem z6N {q : Nat → Prop} {w0 : World} {C C' : Cx} {ty : Ty} {xs : List ty.den} {n : Nat} {u : Value} (hf : ty.flat = true) (hw : Wd C H) (hw' : Wd C' [.row ty xs]) (hx : Ext ⟨C.lend q, []⟩ C' [.row ty xs]) (hd : (SV.bld 0 ty n).den C' u) :
 ∃ D : Cx, D.w = C'.w ∧ Wd D (H ++ [.row ty xs]) ∧ Ext ⟨C, H⟩ D (H ++ [.row ty xs]) ∧ (SV.bld H.length ty n).den D u := by
 obtain ⟨g1, g2⟩ := z1b (q := q) (w0 := w0) hw hx
 let A : Cx := { C with w := C'.w }
 let D : Cx := { A with ρ := fun h => if h = C.n then C'.ρ 0 else C.ρ h, n := C.n + 1 }
 have hown0 : ∀ b, C'.ρ 0 = some b → OwnB C' [.row ty xs] b := fun b hb => ⟨0, _, rfl, rfl, hb⟩
 have hnew : ∀ b, C'.ρ 0 = some b → C.w.heap.size ≤ b := fun b hb => (hx.ownNew b (hown0 b hb)).elim id fun ⟨h, o, ho, _⟩ => by simp at ho
 have hev : Evo A D := ⟨Nat.le_succ _, fun h hh => by
  show (if h = C.n then _ else _) = _
  rw [if_neg (by have : h < C.n := hh; omega)], Keeps.refl _ _, fun _ _ h => h⟩
 have hn : C.n = H.length := hw.n
 have hDn : D.ρ H.length = C'.ρ 0 := by show (if H.length = C.n then _ else _) = _; rw [if_pos hn.symm]
 have hDo : ∀ h, h < H.length → D.ρ h = C.ρ h := fun h hh => by show (if h = C.n then _ else _) = _; rw [if_neg (by omega)]
 have hown : ∀ b, OwnB D (H ++ [.row ty xs]) b → OwnB A H b ∨ C'.ρ 0 = some b := by
  rintro b ⟨h, x, hx', hlx, hb⟩
  rcases q0m hx' with ⟨h1, h2⟩ | ⟨h1, h2⟩
  · exact .inl ⟨h, x, h2, hlx, (hDo h h1).symm.trans hb⟩
  subst h1; exact .inr (hDn.symm.trans hb)
 have hrow : objDen D H.length (.row ty xs) := by
  rcases hw'.obj 0 _ rfl with ⟨h1, h2⟩ | ⟨b, arr, T, fz, h1, h2, h3, h4, h5⟩
  · exact .inl ⟨hDn.trans h1, h2⟩
  refine .inr ⟨b, arr, T, fz, hDn.trans h1, h2, h3, h4, fun i x hx => ?_⟩
  obtain ⟨us, hu, hc⟩ := h5 i x hx
  exact ⟨us, Ty.rel_flat _ _ _ hf hu, hc⟩
 have hwd : Wd D (H ++ [.row ty xs]) := by
  refine ⟨by simp [D, hn], fun h o ho => ?_, fun b hb => ?_, fun i j o o' b ho ho' hl1 hl2 hb hb' => ?_, g1.imm⟩
  · rcases q0m ho with ⟨h1, h2⟩ | ⟨h1, h2⟩
    · by_cases hlv : o.live = true
      · exact q0r hev.I h (hDo h h1) (fun _ _ => rfl) (q0h hev) (g1.obj h o h2)
      cases o <;> first | trivial | simp [SObj.live] at hlv
    subst h1 h2; exact hrow
  · rcases hown b hb with h1 | h1
    · exact g1.own b h1
    exact ⟨fun hi => absurd (hw.imm b hi) (by have := hnew b h1; omega), (hw'.own b (hown0 b h1)).2⟩
  rcases q0m ho with ⟨h1, h2⟩ | ⟨h1, h2⟩ <;> rcases q0m ho' with ⟨h1', h2'⟩ | ⟨h1', h2'⟩
  · rw [hDo i h1] at hb; rw [hDo j h1'] at hb'
    exact g1.inj i j o o' b h2 h2' hl1 hl2 hb hb'
  · exfalso
    rw [hDo i h1] at hb; rw [h1', hDn] at hb'
    have := (hw.own b ⟨i, o, h2, hl1, hb⟩).2
    have := hnew b hb'
    omega
  · exfalso
    rw [hDo j h1'] at hb'; rw [h1, hDn] at hb
    have := (hw.own b ⟨j, o', h2', hl2, hb'⟩).2
    have := hnew b hb
    omega
  omega
 have hext : Ext ⟨C, H⟩ D (H ++ [.row ty xs]) :=
  ⟨g2.evo.trans hev, g2.size, g2.os, g2.tape, g2.output, g2.frame, g2.immNew, fun b hb => (hown b hb).elim (fun h1 => g2.ownNew b h1) fun h1 => .inl (hnew b h1), fun m h0 hm => q2P (g2.keep0 m h0 hm)⟩
 refine ⟨D, rfl, hwd, hext, ?_⟩
 rw [SV.den] at hd ⊢
 refine ⟨by show H.length < C.n + 1; omega, orMap hd.2 (fun ⟨h1, h2⟩ => ⟨hDn.trans h1, h2⟩) fun ⟨b, c, mm, h1, h2⟩ => ⟨b, c, mm, hDn.trans h1, h2⟩⟩

def RowK (ty : Ty) (xs : List ty.den) : Out → List SObj → Prop := fun o H' => (xs = [] ∧ o = .ret (.raw (.slice none 0 0)) ∧ H' = []) ∨ (o = .ret (.bld 0 ty xs.length) ∧ H' = [.row ty xs])
theorem z5P {ty : Ty} {xs : List ty.den} {H' : List SObj} (h : xs = []) : Weak 0 (RowK ty xs) (.ret (.raw (.slice none 0 0))) H' :=
 ⟨fun h => h, .raw (.slice none 0 0), .raw (.slice none 0 0), [], ⟨⟨rfl, trivial⟩, trivial, rfl, rfl, rfl, rfl, Nat.le_refl _, fun _ h0 => absurd h0 (Nat.lt_irrefl 0)⟩, .inl (.inl rfl), .inl ⟨h, rfl, rfl⟩⟩
theorem z5W {ty : Ty} {xs : List ty.den} {H' : List SObj} {h n : Nat} (hH : H'[h]? = some (.row ty xs)) (hn : n = xs.length) : Weak 0 (RowK ty xs) (.ret (.bld h ty n)) H' := by
 subst hn
 exact ⟨fun _ => h, .bld 0 ty xs.length, .bld 0 ty xs.length, [.row ty xs], ⟨⟨rfl, trivial⟩, ⟨hH, trivial⟩, rfl, rfl, rfl, rfl, Nat.zero_le _, fun _ h0 => absurd h0 (Nat.lt_irrefl 0)⟩, .inl (.inl rfl), .inr ⟨rfl, rfl⟩⟩
theorem z6p {q : Nat → Prop} {w0 : World} {f : FuncId} {args args' : List SV} {ty : Ty} {xs : List ty.den} (hf : ty.flat = true) (hp : VC P f args' [] (RowK ty xs)) (hl : LendA q w0 args args') (ha : SV.cleanL args = true) (hlen : xs.length ≤ 1125899906842624) : PCZ q w0 P f args (.isl ty xs) := by
 refine z4X ha rfl ⟨hp.1, fun C vs hw ht hg hv => (hp.2 (C.lend q) vs (z9N hw hg) (ht.nil rfl fun b hb => .inl hb) (hl C _ vs hg hv)).mono ?_⟩
 rintro e w' ⟨o, H', C', hk, rfl, hw', hx, hd⟩
 rcases hk with ⟨h0, rfl, rfl⟩ | ⟨rfl, rfl⟩
 · subst h0
   obtain ⟨u, rfl, hd⟩ := hd
   rw [SV.den] at hd; subst hd
   obtain ⟨g1, g2⟩ := z1b (q := q) (w0 := w0) hw hx
   exact ⟨.ret (.raw (.slice none 0 0)), [], { C with w := C'.w }, by simp [go_sem], rfl, g1, g2, _, rfl, by rw [SV.den]⟩
 obtain ⟨u, rfl, hd⟩ := hd
 obtain ⟨D, k1, k2, k3, k4⟩ := z6N (q := q) (w0 := w0) hf hw hw' hx hd
 refine ⟨.ret (.bld 0 ty xs.length), [SObj.row ty xs], D, ?_, k1, k2, k3, u, rfl, k4⟩
 simp [go_sem]
 exact hlen
theorem Ty.cells_rel {C : Cx} : ∀ (t : Ty) (x : t.den) (vs : List Value), t.known = true → t.ok x → SV.denL C (t.cells x) vs → t.rel C.I C.w x vs
 | .u8, _, _, _, _, h => by simp only [Ty.cells, SV.denL, SV.den] at h; obtain ⟨v, us, rfl, rfl, rfl⟩ := h; rfl
 | .int _, _, _, _, _, h => by simp only [Ty.cells, SV.denL, SV.den] at h; obtain ⟨v, us, rfl, rfl, rfl⟩ := h; rfl
 | .bool, _, _, _, _, h => by simp only [Ty.cells, SV.denL, SV.den] at h; obtain ⟨v, us, rfl, rfl, rfl⟩ := h; rfl
 | .str, _, _, _, ho, h => by simp only [Ty.cells, SV.denL, SV.den] at h; obtain ⟨v, us, rfl, rfl, rfl⟩ := h; exact ⟨rfl, ho⟩
 | .slice t, _, _, _, _, h => by simp only [Ty.cells, SV.denL, SV.den] at h; obtain ⟨v, us, rfl, h, rfl⟩ := h; exact h
 | .prod a b, x, vs, hk, ho, h => by
  simp only [Ty.known, Bool.and_eq_true] at hk
  obtain ⟨v1, v2, rfl, h1, h2⟩ := q0s.1 h
  exact ⟨v1, v2, rfl, a.cells_rel _ _ hk.1 ho.1 h1, b.cells_rel _ _ hk.2 ho.2 h2⟩
 | .unit, _, _, _, _, h => by simpa [Ty.cells, SV.denL, Ty.rel] using h
 | .arr n t, xs, vs, hk, ho, h => by
  replace hk : t.known = true := hk
  obtain ⟨hn, ho⟩ := ho
  refine ⟨hn, ?_⟩
  simp only [Ty.cells] at h
  rw [← hn] at h
  clear hn
  have key : ∀ (ys : List t.den) (vs : List Value), (∀ x ∈ ys, t.ok x) → SV.denL C ((List.range ys.length).flatMap fun i => t.cells (ys.getD i t.dflt)) vs → ∃ vss : List (List Value), vs = vss.flatten ∧ vss.length = ys.length ∧ ∀ (i : Nat) x us, ys[i]? = some x → vss[i]? = some us → t.rel C.I C.w x us := by
   intro ys
   induction ys with
   | nil => intro vs _ h; exact ⟨[], by simpa [q0l] using h, rfl, fun i x us hx => by simp at hx⟩
   | cons y ys ih =>
    intro vs ho h
    rw [List.length_cons, List.range_succ_eq_map, List.flatMap_cons, List.flatMap_map] at h
    obtain ⟨v1, v2, rfl, h1, h2⟩ := q0s.1 h
    obtain ⟨vss, rfl, hl, hr⟩ := ih v2 (fun x hx => ho x (List.mem_cons_of_mem _ hx)) h2
    refine ⟨v1 :: vss, rfl, by simp [hl], fun i x us hx hu => ?_⟩
    cases i with
    | zero => simp at hx hu; subst hx hu; exact t.cells_rel _ _ hk (ho _ (List.mem_cons_self ..)) h1
    | succ i => exact hr i x us (by simpa using hx) (by simpa using hu)
  exact key xs vs ho h
 | .ptr t, x, vs, _, ho, h => by
  cases x with
  | none =>
   simp only [Ty.cells, SV.denL, SV.den] at h
   obtain ⟨v, us, rfl, rfl, rfl⟩ := h
   exact .inl ⟨rfl, rfl⟩
  | some x =>
   simp only [Ty.cells, SV.denL, SV.den] at h
   obtain ⟨v, us, rfl, ⟨b, off, ws, rfl, hI, hr, hc⟩, rfl⟩ := h
   exact .inr ⟨x, b, off, ws, rfl, by rw [Nat.add_zero], hI, hr, hc⟩
 | .clo f t, x, vs, hk, ho, h => by
  simp only [Ty.cells, SV.denL, SV.den] at h
  obtain ⟨v, us, rfl, ⟨v1, v2, rfl, ⟨u, ws, rfl, ⟨zs, rfl, hz⟩, rfl⟩, rfl⟩, rfl⟩ := h
  exact ⟨zs, rfl, t.cells_rel _ _ hk ho hz⟩
 | .mbs _, _, _, hk, _, _ => by cases hk

end Go.Sx
set_option linter.unusedSectionVars false
namespace Go.Sx
open Go
variable {P : Program} {AQ : Ex → List SV → List SObj → Prop} {k0 : Nat} {k : List IT} {t : List SV} {H : List SObj}

theorem q4y [Ghost] (d h : Nat) {T : TypeId} {ty : Ty} {x : ty.den} {td : List IT} (hp : plainT td = true) (hok : ty.ok x) (hH : H[h]? = some (.cells T (ty.cells x))) (hd : t[d]? = some (.ptr h 0)) (hs : SoundI P AQ ⟨k0, td, t.set d (.iptr ty x 0), H.set h .dead⟩) (hkn : ty.known = true := by rfl) :
 SoundI P AQ ⟨k0, td, t, H⟩ := q0d (fun td' hr E r n C a h0 hden => by
 have h1 := q0c hs hr
 obtain ⟨b, vs, hb, hcell, hvs⟩ := hden.wd.obj h _ hH
 have hown : OwnB C H b := ⟨h, _, hH, rfl, hb⟩
 obtain ⟨hnI, hlt⟩ := hden.wd.own b hown
 have hoff : ∀ b', OwnB C (H.set h .dead) b' → OwnB C H b' ∧ b' ≠ b := by
  rintro b' ⟨i, o, ho, hl, hb'⟩
  by_cases e : h = i
  · subst e
    rw [List.getElem?_set_self (List.getElem?_eq_some_iff.1 hH).1] at ho
    cases ho; simp [SObj.live] at hl
  rw [List.getElem?_set_ne e] at ho
  refine ⟨⟨i, o, ho, hl, hb'⟩, fun e' => ?_⟩
  subst e'
  exact e (hden.wd.inj h i _ o b' hH ho rfl hl hb hb')
 let C' : Cx := { C with I := fun b' => C.I b' ∨ b' = b }
 have he : Evo C C' := ⟨Nat.le_refl _, fun _ _ => rfl, fun b' hb' => ⟨.inl hb', rfl⟩, fun _ _ hm => hm⟩
 have hw : Wd C' (H.set h .dead) := by
  refine ⟨by simp [C', hden.wd.n], fun i o ho => ?_, fun b' hb' => ?_, fun i i' o o' b' h1 h2 h3 h4 h5 h6 => ?_, fun b' hb' => ?_⟩
  · by_cases e : h = i
    · subst e
      rw [List.getElem?_set_self (List.getElem?_eq_some_iff.1 hH).1] at ho
      cases ho; trivial
    rw [List.getElem?_set_ne e] at ho
    exact q0r he.I i rfl (fun _ _ => rfl) (q0h he) (hden.wd.obj i o ho)
  · obtain ⟨g1, g2⟩ := hoff b' hb'
    have := hden.wd.own b' g1
    exact ⟨fun hi => hi.elim this.1 g2, this.2⟩
  · have key : ∀ {i : Nat} {o : SObj}, (H.set h .dead)[i]? = some o → o.live = true → H[i]? = some o := fun {i o} ho hl => by
     by_cases e : h = i
     · subst e
       rw [List.getElem?_set_self (List.getElem?_eq_some_iff.1 hH).1] at ho
       cases ho; simp [SObj.live] at hl
     rwa [List.getElem?_set_ne e] at ho
    exact hden.wd.inj i i' o o' b' (key h1 h3) (key h2 h4) h3 h4 h5 h6
  exact hb'.elim (hden.wd.imm b') fun e => e ▸ hlt
 have hmk : ∀ n, H[0]? = some (.mark n) → (H.set h .dead)[0]? = some (.mark n) := fun n hn => q2Z hH rfl hn
 have hx : Ext E.toEn C' (H.set h .dead) := by
  refine ⟨hden.ext.evo.trans he, hden.ext.size, hden.ext.os, hden.ext.tape, hden.ext.output, hden.ext.frame, fun b' hb' => ?_, fun b' hb' => hden.ext.ownNew b' (hoff b' hb').1, fun n h0 hn => hmk n (hden.ext.keep0 n h0 hn)⟩
  rcases hb' with hb' | rfl
  · exact hden.ext.immNew b' hb'
  exact .inr ⟨hden.ext.ownNew b' hown, q3h (C := C) hden.wd hown⟩
 have hg : Ghost.inv E C' (H.set h .dead) := Ghost.same (C := C) (C' := C') hden.wd rfl (fun b' hb' => .inl hb') (fun b' (hb' : C.I b' ∨ b' = b) => hb'.elim .inl fun e => .inr (by subst e; exact hown)) (fun b' hb' => (hoff b' hb').1) (fun n _ hn => hmk n hn) hden.ext.evo.n hden.defs.2
 refine h1 E r n C' a h0 ⟨hw, hx, ⟨hden.defs.1, hg⟩, ?_⟩
 have ht := q0h he hden.tmps
 obtain ⟨v, hv, hdv⟩ := q1o ht hd
 rw [SV.den] at hdv
 obtain ⟨_, b', hb', rfl⟩ := hdv
 have e : b' = b := by have : C.ρ h = some b' := hb'; rw [hb] at this; exact (Option.some.inj this).symm
 subst e
 have hi : (SV.iptr ty x 0).den C' (.pointer (some ⟨b', 0, none⟩)) := by
  rw [SV.den]
  exact ⟨b', 0, vs, rfl, .inr rfl, ty.cells_rel _ _ hkn hok (q0h he hvs), fun j u hj => by rw [Nat.zero_add]; show C.w.cell? _ = _; rw [q0f hcell]; exact hj⟩
 have h9 := q1J (i := d) ht hi
 have e9 : a.tmps.toList.set d (.pointer (some ⟨b', 0, none⟩)) = a.tmps.toList := by
  apply List.ext_getElem?
  intro j
  by_cases ej : d = j
  · subst ej; rw [List.getElem?_set_self (List.getElem?_eq_some_iff.1 hv).1, hv]
  rw [List.getElem?_set_ne ej]
 rwa [e9] at h9) hp
end Go.Sx
set_option linter.unusedSectionVars false
namespace Go.Sx
open Go

variable {P : Program} {AQ : Ex → List SV → List SObj → Prop} {k0 : Nat} {k : List IT} {t : List SV} {H : List SObj}

end Go.Sx
set_option linter.unusedSectionVars false
namespace Go.Sx
open Go
variable [Ghost] {P : Program} {AQ : Ex → List SV → List SObj → Prop} {k0 : Nat} {k : List IT} {t : List SV} {H : List SObj}

theorem z1G {G : List Nat} {f : FuncId} {args : List SV} {ty : Ty} {xs : List ty.den} {d : Option Tmp} {td : List IT} (hp : VC P f args [] (RowK ty xs)) (hb : SV.belL 0 args = true) (hargs : args = SV.renL (sig [] H.length) args) (hG : SameG G H (H ++ [.row ty xs]))
 (h0 : xs = [] → SoundI P AQ ⟨k0, td, putT t d (.raw (.slice none 0 0)), H⟩) (h : SoundI P AQ ⟨k0, td, putT t d (.bld H.length ty xs.length), H ++ [.row ty xs]⟩) : CallR P AQ G f args d ⟨k0, td, t, H⟩ := by
 refine ⟨hp.1, VCall.g ?_⟩
 rw [hargs]
 refine VCall.fr (H0 := []) [] (by simp) trivial hb rfl hp.2 ?_
 rintro o H' _ (⟨e, rfl, rfl⟩ | ⟨rfl, rfl⟩)
 · simp only [mgA, List.map_nil, List.append_nil]; exact ⟨fun _ => SameG.refl _ _, h0 e⟩
 exact ⟨fun _ => hG, h⟩
theorem VC.arg {f : FuncId} {args args' : List SV} {K : Out → List SObj → Prop} (h : VC P f args H K) (hl : SV.leVL args' args) : VC P f args' H K :=
 ⟨h.1, fun C vs hw ht hv => h.2 C vs hw ht (q3P hl hv)⟩
theorem j0O {ty : Ty} {xs : List ty.den} {H' : List SObj} {h n m : Nat} (hH : H'[h]? = some (.row ty xs)) (hn : n = m) : Weak 0 (fun o' H'' => o' = .ret (.bld 0 ty m) ∧ H'' = [.row ty xs]) (.ret (.bld h ty n)) H' := by
 subst hn
 exact ⟨fun _ => h, .bld 0 ty n, .bld 0 ty n, [.row ty xs], ⟨⟨rfl, trivial⟩, ⟨hH, trivial⟩, rfl, rfl, rfl, rfl, Nat.zero_le _, fun _ h0 => absurd h0 (Nat.lt_irrefl 0)⟩, .inl (.inl rfl), ⟨rfl, rfl⟩⟩
end Go.Sx
set_option linter.unusedSectionVars false
namespace Go.Sx
open Go

variable {P : Program}
def PCE (P : Program) (f : FuncId) (args : List SV) (p : SV → Prop) : Prop := enters P f = true ∧ ∀ (H : List SObj) (K : Out → List SObj → Prop), (∀ s, p s → K (.ret s) H) → VCall P f args H K
theorem PCE.mono {f : FuncId} {args : List SV} {p q : SV → Prop} (h : PCE P f args p) (hq : ∀ s, p s → q s) : PCE P f args q := ⟨h.1, fun H K hk => h.2 H K fun s hs => hk s (hq s hs)⟩
section
variable [Ghost] {AQ : Ex → List SV → List SObj → Prop}
end

section
variable {AQ : Ex → List SV → List SObj → Prop}
theorem q2E [Ghost] {b : Nat} {t : Ty} {x : t.den} {ag : Option Nat} {s : SV} {d : Option Tmp} {m : IM} (hm : (b, (⟨t, x⟩ : Sigma Ty.den)) ∈ datList) (hs : SV.ofT ag t x = some s) (ha : ag = none ∨ ag = some t.size) (hk : SoundI P AQ { m with tmps := putT m.tmps d s }) : ZldI P AQ ag b 0 d m := by
 rintro E C _ ⟨⟨ht, _⟩, _⟩
 exact ⟨s, .inr ⟨t, x, (ht.dat _ hm).2, hs, ha⟩, hk⟩
end
end Go.Sx
namespace Go.Proofs.YtikapabgggphpaaGreatDoor
open Go Go.Sx Go.Proofs
set_option maxRecDepth 100000
set_option maxHeartbeats 40000000
theorem fdivW (x : Int) (n : Nat) (hn : 0 < n) : x.fdiv (n : Int) = x / (n : Int) := Int.fdiv_eq_ediv_of_nonneg _ (by omega)
theorem q4b (b : List UInt8) (h : List Int) (n : Nat) : (blkP b h n).length = 8 := by simp [blkP]
theorem q4d (b : List UInt8) (h : List Int) {i : Nat} (hi : i < 8) : (blkP b h i).getD i 0 = h.getD i 0 := by
 simp [blkP, List.getD_eq_getElem?_getD, hi]
theorem q3W (b : List UInt8) (h : List Int) {i : Nat} (hi : i < 8) : (blkP b h i).set i ((h.getD i 0 + (rnds b h 64).getD i 0) % W32) = blkP b h (i + 1) := by
 apply List.ext_getElem
 · simp [blkP]
 intro j h1 h2
 rw [List.getElem_set]
 simp only [blkP, List.getElem_map, List.getElem_range]
 split
 · subst_vars; rw [if_pos (by omega)]
 rename_i hne
 by_cases hj : j < i
 · rw [if_pos hj, if_pos (by omega)]
 rw [if_neg hj, if_neg (by omega)]
theorem q2B (b : List UInt8) {h : List Int} (hl : h.length = 8) : blkP b h 0 = h := by
 apply List.ext_getElem
 · simp [blkP, hl]
 intro j h1 h2
 simp only [blkP, List.getElem_map, List.getElem_range]
 rw [if_neg (Nat.not_lt_zero _), List.getD_eq_getElem?_getD, List.getElem?_eq_getElem h2]
 rfl
theorem q3U (b : List UInt8) (h : List Int) : blkP b h 8 = blkS b h := by
 apply List.ext_getElem
 · simp [blkP, blkS]
 intro j h1 h2
 simp [blkP] at h1
 simp only [blkP, blkS, List.getElem_map, List.getElem_range]
 rw [if_pos h1]
theorem u8wrapR (x : Int) : IntKind.u8.wrap x = x % 256 := by simp [IntKind.wrap, IntKind.bits, IntKind.signed]
theorem q1V (x : Int) : ((UInt8.ofNat (IntKind.u8.wrap x).toNat).toNat : Int) = IntKind.u8.wrap x := by
 have := u8wrapR x
 rw [UInt8.toNat_ofNat']; omega
def padZ (b : List UInt8) (k : Nat) : List UInt8 := b ++ [128] ++ List.replicate k 0
def padN (n : Nat) : Nat := (119 - n % 64) % 64
theorem z5L (b : List UInt8) (k : Nat) : (padZ b k).length = b.length + 1 + k := by simp [padZ]; omega
def lnB8 (n : Nat) (j : Nat) : List UInt8 := (List.range j).map fun i => UInt8.ofNat (n / 2 ^ (8 * (7 - i)) % 256)
theorem z6z (n j : Nat) : (lnB8 n j).length = j := by simp [lnB8]
def padS (b : List UInt8) : List UInt8 := padZ b (padN b.length) ++ lnB8 (8 * b.length) 8
def hS0 : List Int := [0x6a09e667, 0xbb67ae85, 0x3c6ef372, 0xa54ff53a, 0x510e527f, 0x9b05688c, 0x1f83d9ab, 0x5be0cd19]
def hashS (p : List UInt8) : Nat → List Int
 | 0 => hS0
 | k + 1 => blkS ((p.take (64 * k + 64)).drop (64 * k)) (hashS p k)
theorem q9L {b : List UInt8} {h : List Int} : inWs (blkS b h) := by
 refine ⟨by simp [blkS], fun x hx => ?_⟩
 obtain ⟨i, _, rfl⟩ := List.mem_map.1 hx
 unfold inW W32; omega
theorem q4P : inWs hS0 := by decide
def wordB (h : List Int) (i : Nat) : UInt8 := UInt8.ofNat ((h.getD (i / 4) 0).toNat / 2 ^ (24 - 8 * (i % 4)) % 256)
def bytesP (h : List Int) (n : Nat) : List UInt8 := (List.range 32).map fun i => if i < n then wordB h i else 0
def bytesS (h : List Int) : List UInt8 := (List.range 32).map (wordB h)
theorem q6x (h : List Int) (n : Nat) : (bytesP h n).length = 32 := by simp [bytesP]
theorem q0T (h : List Int) : (bytesS h).length = 32 := by simp [bytesS]
theorem q2Y (h : List Int) {i : Nat} (hi : i < 32) : (bytesP h i).set i (wordB h i) = bytesP h (i + 1) := by
 apply List.ext_getElem
 · simp [bytesP]
 intro j h1 h2
 rw [List.getElem_set]
 simp only [bytesP, List.getElem_map, List.getElem_range]
 split
 · subst_vars; rw [if_pos (by omega)]
 rename_i hne
 by_cases hj : j < i
 · rw [if_pos hj, if_pos (by omega)]
 rw [if_neg hj, if_neg (by omega)]
theorem z2j (h : List Int) : bytesP h 32 = bytesS h := by
 apply List.ext_getElem
 · simp [bytesP, bytesS]
 intro j h1 h2
 simp [bytesP] at h1
 simp only [bytesP, bytesS, List.getElem_map, List.getElem_range]
 rw [if_pos h1]
def blksN (b : List UInt8) : Nat := (b.length + 72) / 64
def shaS (b : List UInt8) : List UInt8 := bytesS (hashS (padS b) (blksN b))
theorem xor8 (a b : UInt8) : xorK .u8 (a.toNat : Int) (b.toNat : Int) = ((a ^^^ b).toNat : Int) := by
 unfold xorK
 have ha := a.toNat_lt
 have hb := b.toNat_lt
 have hx : a.toNat ^^^ b.toNat < 2 ^ 8 := Nat.xor_lt_two_pow ha hb
 have e : (BitVec.ofInt IntKind.u8.bits (a.toNat : Int) ^^^ BitVec.ofInt IntKind.u8.bits (b.toNat : Int)).toNat = a.toNat ^^^ b.toNat := by
  rw [BitVec.toNat_xor, BitVec.ofInt_natCast, BitVec.ofInt_natCast, BitVec.toNat_ofNat, BitVec.toNat_ofNat]
  rw [show 2 ^ IntKind.u8.bits = 256 from rfl, Nat.mod_eq_of_lt ha, Nat.mod_eq_of_lt hb]
 rw [e, u8wrapR, UInt8.toNat_xor]
 omega
def hkP (k : List UInt8) (c : UInt8) (n : Nat) : List UInt8 := (List.range 64).map fun i => if i < n then k.getD i 0 ^^^ c else 0
def hkC (k : List UInt8) : List UInt8 := if 64 < k.length then shaS k else k
def hkS (k : List UInt8) (c : UInt8) : List UInt8 := hkP (hkC k) c 64
theorem q7L (k : List UInt8) (c : UInt8) (n : Nat) : (hkP k c n).length = 64 := by simp [hkP]
theorem z9O (k : List UInt8) (c : UInt8) {i : Nat} (hi : i < 64) : (hkP k c i).set i (k.getD i 0 ^^^ c) = hkP k c (i + 1) := by
 apply List.ext_getElem
 · simp [hkP]
 intro j h1 h2
 rw [List.getElem_set]
 simp only [hkP, List.getElem_map, List.getElem_range]
 split
 · subst_vars; rw [if_pos (by omega)]
 rename_i hne
 by_cases hj : j < i
 · rw [if_pos hj, if_pos (by omega)]
 rw [if_neg hj, if_neg (by omega)]
theorem z5l (k : List UInt8) (c : UInt8) : hkP k c 0 = List.replicate 64 0 := by
 unfold hkP
 rw [List.eq_replicate_iff]
 refine ⟨by rw [List.length_map, List.length_range], fun x hx => ?_⟩
 obtain ⟨j, _, rfl⟩ := List.mem_map.1 hx
 exact if_neg (Nat.not_lt_zero _)
end Go.Proofs.YtikapabgggphpaaGreatDoor
