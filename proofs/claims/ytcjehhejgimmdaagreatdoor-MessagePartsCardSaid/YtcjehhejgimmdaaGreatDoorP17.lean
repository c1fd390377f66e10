/- A part of the proof: a symbolic executor over abstract values, and its soundness. -/
import Derived.Test.YtcjehhejgimmdaaGreatDoorP16
set_option linter.all false
namespace Go.Sx
open Go

def ZInv (q : Nat → Prop) (w0 : World) (C : Cx) (H : List SObj) : Prop := ∀ b, q b → b < C.w.heap.size ∧ ¬ C.I b ∧ ¬ OwnB C H b ∧ C.w.heap[b]? = w0.heap[b]?

theorem z4P {E : En} {C : Cx} {H : List SObj} (hx : Ext E C H) {b : Nat} (h1 : b < E.C.w.heap.size) (h2 : ¬ E.C.I b) (h3 : ¬ OwnB E.C E.H b) : b < C.w.heap.size ∧ ¬ C.I b ∧ ¬ OwnB C H b ∧ C.w.heap[b]? = E.C.w.heap[b]? := by
 refine ⟨Nat.lt_of_lt_of_le h1 hx.size, fun hi => ?_, fun ho => ?_, hx.frame b h1 h3⟩
 · rcases hx.immNew b hi with g | ⟨g | g, _⟩
   · exact h2 g
   · exact absurd h1 (Nat.not_lt.2 g)
   exact h3 g
 rcases hx.ownNew b ho with g | g
 · exact absurd h1 (Nat.not_lt.2 g)
 exact h3 g

@[reducible] def frzG (q : Nat → Prop) (w0 : World) : Ghost where
 inv0 := fun _ C H => ZInv q w0 C H
 fin := fun E _ _ ds => ds = E.base ∧ True
 toFin0 := fun _ _ => ⟨rfl, trivial⟩
 next0 := fun hx h b hb => by
  obtain ⟨h1, h2, h3, h4⟩ := h b hb
  obtain ⟨g1, g2, g3, g4⟩ := z4P hx h1 h2 h3
  exact ⟨g1, g2, g3, g4.trans h4⟩
 same0 := fun _ e _ hi ho _ _ h b hb => by
  obtain ⟨h1, h2, h3, h4⟩ := h b hb
  rw [e]
  exact ⟨h1, fun x => (hi b x).elim h2 h3, fun x => h3 (ho b x), h4⟩

def simV (u v : Value) : Prop := v = u ∨ (∃ k n m, u = .int k n ∧ v = .int k m) ∨ ∃ s s', u = .string s ∧ v = .string s' ∧ s'.size ≤ 140737488355328
def simB (o o' : Option Obj) : Prop := o' = o ∨ ∃ (vs vs' : List Value) (T : TypeId) (fz : Nat × Nat), o = some (.cells vs.toArray T fz) ∧ o' = some (.cells vs'.toArray T fz) ∧ vs'.length = vs.length ∧ ∀ (i : Nat) u v, vs[i]? = some u → vs'[i]? = some v → simV u v
theorem simV.trans {u v w : Value} (h : simV u v) (k : simV v w) : simV u w := by
 rcases h with rfl | ⟨k', n, m, rfl, rfl⟩ | ⟨s, s', rfl, rfl, h1⟩
 · exact k
 · rcases k with rfl | ⟨k2, n2, m2, h1, rfl⟩ | ⟨s, s', h1, _⟩
   · exact .inr (.inl ⟨_, _, _, rfl, rfl⟩)
   · cases h1; exact .inr (.inl ⟨_, _, _, rfl, rfl⟩)
   cases h1
 rcases k with rfl | ⟨k2, n2, m2, h1, rfl⟩ | ⟨s2, s3, h2, rfl, h3⟩
 · exact .inr (.inr ⟨_, _, rfl, rfl, h1⟩)
 · cases h1
 cases h2; exact .inr (.inr ⟨_, _, rfl, rfl, h3⟩)
def SInv (q : Nat → Prop) (w0 : World) (E : En) (C : Cx) (H : List SObj) : Prop :=
 ∀ b, q b → (E.C.w.heap.size ≤ b ∨ OwnB E.C E.H b) ∧ b < C.w.heap.size ∧ ¬ C.I b ∧ ¬ OwnB C H b ∧ Unf C.w b ∧ simB w0.heap[b]? C.w.heap[b]?

@[reducible] def scrG (q : Nat → Prop) (w0 : World) : Ghost where
 inv0 := fun E C H => SInv q w0 E.toEn C H
 fin := fun E C H ds => ds = E.base ∧ SInv q w0 E.toEn C H
 toFin0 := fun _ h => ⟨rfl, h⟩
 next0 := fun hx h b hb => by
  obtain ⟨h0, h1, h2, h3, h4, h5⟩ := h b hb
  obtain ⟨g1, g2, g3, g4⟩ := z4P hx h1 h2 h3
  refine ⟨h0, g1, g2, g3, h4.keep g4, ?_⟩
  have g4' := g4
  simp only at g4'
  rw [g4']; exact h5
 same0 := fun _ e _ hi ho _ _ h b hb => by
  obtain ⟨h0, h1, h2, h3, h4, h5⟩ := h b hb
  rw [e]
  exact ⟨h0, h1, fun x => (hi b x).elim h2 h3, fun x => h3 (ho b x), h4, h5⟩

def At (q : Nat → Prop) (w0 : World) (t : Ty) (x : t.den) (b o : Nat) : Prop := q b ∧ ∃ vs, t.rel q w0 x vs ∧ ∀ j u, vs[j]? = some u → w0.cell? ⟨b, o + j, none⟩ = some u
def Sl (q : Nat → Prop) (w0 : World) (t : Ty) (xs : List t.den) (v : Value) : Prop := (Ty.slice t).rel q w0 xs [v]
theorem Sl.out {q : Nat → Prop} {w0 : World} {t : Ty} {xs : List t.den} {v : Value} (h : Sl q w0 t xs v) :
 ∃ A c, v = .slice A xs.length c ∧ (xs = [] ∨ ∃ b o, A = some ⟨b, o, none⟩ ∧ ∀ i x, xs[i]? = some x → At q w0 t x b (o + i * t.size)) := by
 obtain ⟨A, n, c, e, rfl, _, _, h⟩ := h
 simp only [List.cons.injEq, and_true] at e
 refine ⟨A, c, e, orMap h id ?_⟩
 rintro ⟨b, o, rfl, hq, h⟩
 exact ⟨b, o, rfl, fun i x hx => ⟨hq, h i x hx⟩⟩
theorem At.sl {q : Nat → Prop} {w0 : World} {t : Ty} {xs : List t.den} {b o : Nat} (h : At q w0 (.slice t) xs b o) : ∃ v, Sl q w0 t xs v ∧ w0.cell? ⟨b, o, none⟩ = some v := by
 obtain ⟨hq, vs, hr, hc⟩ := h
 obtain ⟨A, n, c, rfl, _⟩ := id hr
 exact ⟨_, hr, hc 0 _ rfl⟩
theorem At.int {q : Nat → Prop} {w0 : World} {k : IntKind} {x : (Ty.int k).den} {b o : Nat} (h : At q w0 (.int k) x b o) : w0.cell? ⟨b, o, none⟩ = some (.int k x) := by
 obtain ⟨hq, vs, rfl, hc⟩ := h; exact hc 0 _ rfl
theorem At.u8 {q : Nat → Prop} {w0 : World} {x : Ty.u8.den} {b o : Nat} (h : At q w0 .u8 x b o) : w0.cell? ⟨b, o, none⟩ = some (.int .u8 (UInt8.toNat x)) := by
 obtain ⟨hq, vs, rfl, hc⟩ := h; exact hc 0 _ rfl
theorem At.str {q : Nat → Prop} {w0 : World} {x : Ty.str.den} {b o : Nat} (h : At q w0 .str x b o) : w0.cell? ⟨b, o, none⟩ = some (.string x) := by
 obtain ⟨hq, vs, ⟨rfl, _⟩, hc⟩ := h; exact hc 0 _ rfl

variable {P : Program} {AQ : Ex → List SV → List SObj → Prop}
end Go.Sx
namespace Go.Sx
open Go

variable {P : Program} {AQ : Ex → List SV → List SObj → Prop} {k0 : Nat} {k : List IT} {t : List SV} {H : List SObj}

def VCallZ (q : Nat → Prop) (w0 : World) (P : Program) (f : FuncId) (args : List SV) (H : List SObj) (K : Out → List SObj → Prop) : Prop :=
 ∀ (C : Cx) (vs : List Value), Wd C H → TabT C.I C.w → ZInv q w0 C H → SV.denL C args vs → Calls P f vs.toArray C.w fun e w' => ∃ o H' C', K o H' ∧ C'.w = w' ∧ Wd C' H' ∧ Ext ⟨C, H⟩ C' H' ∧ outDen C' o e
theorem VCallZ.g {q : Nat → Prop} {w0 : World} {f : FuncId} {args : List SV} {K : Out → List SObj → Prop} (h : VCallZ q w0 P f args H K) : @VCallG (frzG q w0) P f args H K :=
 fun E C vs hw hg hv => (h C vs hw hg.1 hg.2 hv).mono fun _ _ ⟨o, H', C', k, e, w, x, r⟩ => ⟨o, H', C', k, e, w, @Stp.of (frzG q w0) E C C' H H' x, r⟩
theorem ZInv.nil {q : Nat → Prop} {w0 : World} {C : Cx} (h : ZInv q w0 C H) : ZInv q w0 { C with n := 0 } [] := fun b hb => by
 obtain ⟨h1, h2, h3, h4⟩ := h b hb
 exact ⟨h1, h2, fun ⟨i, o, ho, _⟩ => by simp at ho, h4⟩
def Ty.flat : Ty → Bool
 | .slice _ => false
 | .prod a b => a.flat && b.flat
 | _ => true
def RowK (ty : Ty) (xs : List ty.den) : Out → List SObj → Prop := fun o H' => (xs = [] ∧ o = .ret (.raw (.slice none 0 0)) ∧ H' = []) ∨ (o = .ret (.bld 0 ty xs.length) ∧ H' = [.row ty xs])
theorem q2O {ty : Ty} {xs : List ty.den} {H' : List SObj} (h : xs = []) : Weak 0 (RowK ty xs) (.ret (.raw (.slice none 0 0))) H' :=
 ⟨fun h => h, .raw (.slice none 0 0), .raw (.slice none 0 0), [], ⟨⟨rfl, trivial⟩, trivial, rfl, rfl, rfl, rfl, Nat.le_refl _, fun _ h0 => absurd h0 (Nat.lt_irrefl 0)⟩, .inl (.inl rfl), .inl ⟨h, rfl, rfl⟩⟩
theorem q3Y {ty : Ty} {xs : List ty.den} {H' : List SObj} {h n : Nat} (hH : H'[h]? = some (.row ty xs)) (hn : n = xs.length) : Weak 0 (RowK ty xs) (.ret (.bld h ty n)) H' := by
 subst hn
 exact ⟨fun _ => h, .bld 0 ty xs.length, .bld 0 ty xs.length, [.row ty xs], ⟨⟨rfl, trivial⟩, ⟨hH, trivial⟩, rfl, rfl, rfl, rfl, Nat.zero_le _, fun _ h0 => absurd h0 (Nat.lt_irrefl 0)⟩, .inl (.inl rfl), .inr ⟨rfl, rfl⟩⟩
theorem Ty.cells_rel {C : Cx} : ∀ (t : Ty) (x : t.den) (vs : List Value), t.ok x → SV.denL C (t.cells x) vs → t.rel C.I C.w x vs
 | .u8, _, _, _, h => by simp only [Ty.cells, SV.denL, SV.den] at h; obtain ⟨v, us, rfl, rfl, rfl⟩ := h; rfl
 | .int _, _, _, _, h => by simp only [Ty.cells, SV.denL, SV.den] at h; obtain ⟨v, us, rfl, rfl, rfl⟩ := h; rfl
 | .bool, _, _, _, h => by simp only [Ty.cells, SV.denL, SV.den] at h; obtain ⟨v, us, rfl, rfl, rfl⟩ := h; rfl
 | .str, _, _, ho, h => by simp only [Ty.cells, SV.denL, SV.den] at h; obtain ⟨v, us, rfl, rfl, rfl⟩ := h; exact ⟨rfl, ho⟩
 | .slice t, _, _, _, h => by simp only [Ty.cells, SV.denL, SV.den] at h; obtain ⟨v, us, rfl, h, rfl⟩ := h; exact h
 | .prod a b, x, vs, ho, h => by
  obtain ⟨v1, v2, rfl, h1, h2⟩ := q0M.1 h
  exact ⟨v1, v2, rfl, a.cells_rel _ _ ho.1 h1, b.cells_rel _ _ ho.2 h2⟩
 | .unit, _, _, _, h => by simpa [Ty.cells, SV.denL, Ty.rel] using h

end Go.Sx
set_option linter.unusedSectionVars false
namespace Go.Sx
open Go
variable {P : Program} {AQ : Ex → List SV → List SObj → Prop} {k0 : Nat} {k : List IT} {t : List SV} {H : List SObj}

theorem q2V [Ghost] {f : FuncId} {args : List SV} {ty : Ty} {xs : List ty.den} {d : Option Tmp} {td : List IT} (hp : VC P f args [] (RowK ty xs)) (hb : SV.belL 0 args = true) (hargs : args = SV.renL (sig [] H.length) args)
 (h0 : xs = [] → SoundI P AQ ⟨k0, td, putT t d (.raw (.slice none 0 0)), H⟩) (h : SoundI P AQ ⟨k0, td, putT t d (.bld H.length ty xs.length), H ++ [.row ty xs]⟩) : CallI P AQ f args d ⟨k0, td, t, H⟩ := by
 refine ⟨hp.1, VCall.g ?_⟩
 rw [hargs]
 refine VCall.fr (H0 := []) [] (by simp) trivial hb rfl hp.2 ?_
 rintro o H' _ (⟨e, rfl, rfl⟩ | ⟨rfl, rfl⟩)
 · simp only [mgA, List.map_nil, List.append_nil]; exact h0 e
 exact h
theorem q3i [Ghost] (d h : Nat) {T : TypeId} {ty : Ty} {x : ty.den} {td : List IT} (hp : plainT td = true) (hok : ty.ok x) (hH : H[h]? = some (.cells T (ty.cells x))) (hd : t[d]? = some (.ptr h 0)) (hs : SoundI P AQ ⟨k0, td, t.set d (.iptr ty x 0), H.set h .dead⟩) :
 SoundI P AQ ⟨k0, td, t, H⟩ := q0i (fun td' hr E r n C a h0 hden => by
 have h1 := q0m hs hr
 obtain ⟨b, vs, hb, hcell, hvs⟩ := hden.wd.obj h _ hH
 have hown : OwnB C H b := ⟨h, _, hH, rfl, hb⟩
 obtain ⟨hnI, hlt⟩ := hden.wd.own b hown
 have hoff : ∀ b', OwnB C (H.set h .dead) b' → OwnB C H b' ∧ b' ≠ b := by
  rintro b' ⟨i, o, ho, hl, hb'⟩
  by_cases e : h = i
  · subst e
    rw [List.getElem?_set_self (List.getElem?_eq_some_iff.1 hH).1] at ho
    cases ho; simp [SObj.live] at hl
  rw [List.getElem?_set_ne e] at ho
  refine ⟨⟨i, o, ho, hl, hb'⟩, fun e' => ?_⟩
  subst e'
  exact e (hden.wd.inj h i _ o b' hH ho rfl hl hb hb')
 let C' : Cx := { C with I := fun b' => C.I b' ∨ b' = b }
 have he : Evo C C' := ⟨Nat.le_refl _, fun _ _ => rfl, fun b' hb' => ⟨.inl hb', rfl⟩, fun _ _ hm => hm⟩
 have hw : Wd C' (H.set h .dead) := by
  refine ⟨by simp [C', hden.wd.n], fun i o ho => ?_, fun b' hb' => ?_, fun i i' o o' b' h1 h2 h3 h4 h5 h6 => ?_, fun b' hb' => ?_⟩
  · by_cases e : h = i
    · subst e
      rw [List.getElem?_set_self (List.getElem?_eq_some_iff.1 hH).1] at ho
      cases ho; trivial
    rw [List.getElem?_set_ne e] at ho
    exact q0P he.I i rfl (fun _ _ => rfl) (q0u he) (hden.wd.obj i o ho)
  · obtain ⟨g1, g2⟩ := hoff b' hb'
    have := hden.wd.own b' g1
    exact ⟨fun hi => hi.elim this.1 g2, this.2⟩
  · have key : ∀ {i : Nat} {o : SObj}, (H.set h .dead)[i]? = some o → o.live = true → H[i]? = some o := fun {i o} ho hl => by
     by_cases e : h = i
     · subst e
       rw [List.getElem?_set_self (List.getElem?_eq_some_iff.1 hH).1] at ho
       cases ho; simp [SObj.live] at hl
     rwa [List.getElem?_set_ne e] at ho
    exact hden.wd.inj i i' o o' b' (key h1 h3) (key h2 h4) h3 h4 h5 h6
  exact hb'.elim (hden.wd.imm b') fun e => e ▸ hlt
 have hmk : ∀ n, H[0]? = some (.mark n) → (H.set h .dead)[0]? = some (.mark n) := fun n hn => q3P hH rfl hn
 have hx : Ext E.toEn C' (H.set h .dead) := by
  refine ⟨hden.ext.evo.trans he, hden.ext.size, hden.ext.os, hden.ext.tape, hden.ext.output, hden.ext.frame, fun b' hb' => ?_, fun b' hb' => hden.ext.ownNew b' (hoff b' hb').1, fun n h0 hn => hmk n (hden.ext.keep0 n h0 hn)⟩
  rcases hb' with hb' | rfl
  · exact hden.ext.immNew b' hb'
  exact .inr ⟨hden.ext.ownNew b' hown, q4i (C := C) hden.wd hown⟩
 have hg : Ghost.inv E C' (H.set h .dead) := Ghost.same (C := C) (C' := C') hden.wd rfl (fun b' hb' => .inl hb') (fun b' (hb' : C.I b' ∨ b' = b) => hb'.elim .inl fun e => .inr (by subst e; exact hown)) (fun b' hb' => (hoff b' hb').1) (fun n _ hn => hmk n hn) hden.ext.evo.n hden.defs.2
 refine h1 E r n C' a h0 ⟨hw, hx, ⟨hden.defs.1, hg⟩, ?_⟩
 have ht := q0u he hden.tmps
 obtain ⟨v, hv, hdv⟩ := q2L ht hd
 rw [SV.den] at hdv
 obtain ⟨_, b', hb', rfl⟩ := hdv
 have e : b' = b := by have : C.ρ h = some b' := hb'; rw [hb] at this; exact (Option.some.inj this).symm
 subst e
 have hi : (SV.iptr ty x 0).den C' (.pointer (some ⟨b', 0, none⟩)) := by
  rw [SV.den]
  exact ⟨b', 0, vs, rfl, .inr rfl, ty.cells_rel _ _ hok (q0u he hvs), fun j u hj => by rw [Nat.zero_add]; show C.w.cell? _ = _; rw [q0A hcell]; exact hj⟩
 have h9 := q4H (i := d) ht hi
 have e9 : a.tmps.toList.set d (.pointer (some ⟨b', 0, none⟩)) = a.tmps.toList := by
  apply List.ext_getElem?
  intro j
  by_cases ej : d = j
  · subst ej; rw [List.getElem?_set_self (List.getElem?_eq_some_iff.1 hv).1, hv]
  rw [List.getElem?_set_ne ej]
 rwa [e9] at h9) hp
end Go.Sx
set_option linter.unusedSectionVars false
namespace Go.Sx
open Go

variable {P : Program} {AQ : Ex → List SV → List SObj → Prop} {k0 : Nat} {k : List IT} {t : List SV} {H : List SObj}

theorem z0a {f : FuncId} {fi : FI} {args : List SV} {d : Option Tmp} (h : finfo P f = some fi)
 (hs : @SoundI noGhost P (retF P fi.results (@opK noGhost P AQ k0 k t d)) ⟨H.length, [.ic fi.code], args ++ List.replicate (fi.ntmps - args.length) .any, H⟩) : @CallI noGhost P AQ f args d ⟨k0, k, t, H⟩ := (q1J h hs).g
end Go.Sx
namespace Go.Proofs.YtcjehhejgimmdaaGreatDoor
open Go Go.Sx Go.Proofs
set_option maxRecDepth 100000
set_option maxHeartbeats 4000000
abbrev PreT : Ty := .prod I64 (.slice .u8)
abbrev TickT : Ty := .prod PrinT KeyT
abbrev ReqT : Ty := .prod I64 (.prod (.slice PreT) (.prod (.int .u32) (.prod PrinT (.prod PrinT (.prod I64 (.prod I64 (.prod I64 (.prod I64 (.prod (.slice I64) (.prod (.slice PreT) (.slice TickT)))))))))))
abbrev FailT : Ty := .prod I64 (.prod I64 (.prod I64 (.prod PrinT (.prod PrinT (.prod .str (.slice PreT))))))
abbrev Pre := PreT.den
abbrev Tick := TickT.den
abbrev Req := ReqT.den
abbrev Fail := FailT.den
def mIn (lo hi v : Int) : Bool := decide (lo ≤ v) && decide (v ≤ hi)
theorem q3r (v lo hi : Int) : PC Tryz.prog 45 [rI v, rI lo, rI hi] (rB (mIn lo hi v)) := by
 refine q0B rfl rfl ?_
 refine rQ fi45 ?_
 grind [mIn]
def vTime (t : Int) : Bool := mIn 0 1099511627776 t
theorem q2T (v : Int) : PC Tryz.prog 46 [rI v] (rB (vTime v)) := by
 refine q0B rfl rfl ?_
 refine rQ fi46 ?_
 refine q0a (q3r _ _ _) ?_
 refine gQ ?_
 rfl
def noN (p : Prin) : Bool := decide (p.1.length = 0) && decide (p.2 = ⟨#[]⟩)
theorem q8p (p : Prin) : PC Tryz.prog 132 [.agg (PrinT.cells p)] (rB (noN p)) := by
 refine q0B rfl rfl ?_
 refine rQ fi132 ?_
 grind [noN]
def partN (k : Int) : Int := if k = 12 then 26 else if k = 10 then 25 else 0
def partU (k : Int) : Int := if k = 12 then 8 else if k = 10 then 3 else 0
def vKind (k : Int) : Bool := decide (k = 12) || decide (k = 10)
theorem q8r (k : Int) : PC Tryz.prog 79 [rI k] (.tup [rI (partN k), rI (partU k), rB (vKind k)]) := by
 refine q0B rfl rfl ?_
 refine rQ fi79 ?_
 grind [partN, partU, vKind]
theorem q6c (k : Int) : PC Tryz.prog 31 [rI k] (rB (vKind k)) := by
 refine q0B rfl rfl ?_
 refine rQ fi31 ?_
 refine q0a (q8r k) ?_
 refine gQ ?_; trivial
def vPre1 (p : Pre) : Bool := mIn 0 2147483647 p.1 && decide ((p.2.length : Int) ≤ 16384)
def preAt (l : List Pre) (j : Nat) : Bool := vPre1 (l.getD j PreT.dflt)
def vPre (l : List Pre) : Bool := decide ((l.length : Int) ≤ 16) && allN l.length (preAt l)
theorem z1O (l : List Pre) : PC Tryz.prog 133 [.isl PreT l] (rB (vPre l)) := by
 refine q0B rfl rfl ?_
 refine rQ fi133 ?_
 refine ⟨fun h => ?_, fun h => ?_⟩
 · unfold vPre; rw [decide_eq_false (by omega)]; rfl
 have h16 : decide ((l.length : Int) ≤ 16) = true := decide_eq_true (by omega)
 refine q0W (fun i => [(10, .raw (.int .i64 ((i : Nat) : Int)))]) (l.length) (fun j => (preAt l) j = true) (by first | decide | simp) (fun i => rfl) ?_ fun i hi hall => ?_
 · (with_reducible refine sxE ?_ <;> try exact True.intro)
   all_goals (try rfl)
 have hwr := wsx i (by omega)
 refine gQ ?_
 have bad : i < (l.length) → (preAt l) i = false → allN (l.length) (preAt l) = false := fun hlt hv => q0k hlt hv
 have fin : ¬ i < (l.length) → allN (l.length) (preAt l) = true := fun h => q0p fun j hj => hall j (by omega)
 try dsimp only at bad fin hall
 refine ⟨fun hlt => ⟨⟨by omega, hlt⟩, q0a (q3r _ _ _) ?_⟩, fun hge => ?_⟩
 · have hd : preAt l i = (mIn 0 2147483647 (l.getD i PreT.dflt).1 && decide (((l.getD i PreT.dflt).2.length : Int) ≤ 16384)) := rfl
   refine gQ ?_
   refine ⟨fun h1 => ⟨fun h2 => ?_, fun h2 => ⟨hlt, q1c hall (by rw [hd, h1, decide_eq_true (by omega)]; rfl), ⟨[_], rfl⟩, ?_⟩⟩, fun h1 => ?_⟩
   · unfold vPre; rw [bad hlt (by rw [hd, decide_eq_false (by omega), Bool.and_false]), Bool.and_false]
   · with_reducible refine sx1 hwr ?_; trivial
   unfold vPre; rw [bad hlt (by rw [hd, h1]; rfl), Bool.and_false]
 unfold vPre; rw [h16, fin hge]; rfl
def andU (a f : Int) : Int := IntKind.u32.wrap ((BitVec.ofInt 32 a &&& BitVec.ofInt 32 f).toNat : Nat)
theorem j2n (a f : Int) : PC Tryz.prog 111 [.raw (.int .u32 a), .raw (.int .u32 f)] (rB (decide (andU a f = f))) := by
 refine q0B rfl rfl ?_
 refine rQ fi111 ?_
 rfl
def vOpt (f : Int) : Bool := decide (andU 2031807 f = f)
theorem z8U (f : Int) : PC Tryz.prog 134 [.raw (.int .u32 f)] (rB (vOpt f)) := by
 refine q0B rfl rfl ?_
 refine rQ fi134 ?_
 refine q0a (j2n _ _) ?_
 refine gQ ?_
 rfl
def keysI (l : List Int) : Nat → List Value
 | 0 => []
 | i + 1 => match findI (.int .i64 (l.getD i (Ty.dflt I64))) (keysI l i) with
  | some _ => keysI l i
  | none => keysI l i ++ [.int .i64 (l.getD i (Ty.dflt I64))]
theorem q7s {l : List Int} {i : Nat} (h : findI (.int .i64 (l.getD i (Ty.dflt I64))) (keysI l i) = none) : keysI l (i + 1) = keysI l i ++ [.int .i64 (l.getD i (Ty.dflt I64))] := by rw [keysI, h]
theorem q7j {l : List Int} {i j : Nat} (h : findI (.int .i64 (l.getD i (Ty.dflt I64))) (keysI l i) = some j) : keysI l (i + 1) = keysI l i := by rw [keysI, h]
def AllI (vs : List Value) : Prop := ∀ v ∈ vs, ∃ c, v = .int .i64 c
def prfAt (l : List Int) (j : Nat) : Bool := mIn 0 2147483647 (l.getD j (Ty.dflt I64))
def vProf (l : List Int) : Bool := decide (1 ≤ (l.length : Int)) && (decide ((l.length : Int) ≤ 16) && (allN l.length (prfAt l) && decide (((keysI l l.length).length : Int) = l.length)))
theorem z4b (l : List Int) : PC Tryz.prog 135 [.isl I64 l] (rB (vProf l)) := by
 refine q0B rfl rfl ?_
 refine rQ fi135 ?_
 refine ⟨fun h1 => ⟨fun h2 => ?_, fun h2 => ?_⟩, fun h1 => ?_⟩
 · unfold vProf; rw [decide_eq_false (show ¬ (l.length : Int) ≤ 16 by omega)]; simp
 rotate_left
 · unfold vProf; rw [decide_eq_false (by omega)]; rfl
 have hv : vProf l = (allN l.length (prfAt l) && decide (((keysI l l.length).length : Int) = l.length)) := by
  unfold vProf; rw [decide_eq_true (show 1 ≤ (l.length : Int) by omega), decide_eq_true (show (l.length : Int) ≤ 16 by omega)]; rfl
 rw [hv]
 clear hv
 refine q1f (ι := Nat × List Value × List SObj) (fun x => [(17, rI x.1)]) (fun x => .map (some .i64) (keysI l x.1) x.2.1 :: x.2.2) (fun x => l.length - x.1) (fun x => x.1 ≤ l.length ∧ x.2.1.length = (keysI l x.1).length ∧ AllI x.2.1 ∧ ∀ j, j < x.1 → prfAt l j = true) (0, [], []) ⟨Nat.zero_le _, rfl, by simp [AllI], fun j hj => absurd hj (Nat.not_lt_zero j)⟩ rfl ?_ ?_
 · with_reducible refine sxE ?_; trivial
 rintro ⟨i, vs, G⟩ ⟨hi, hvl, hint, hall⟩
 dsimp only at hi hvl hint hall
 refine aQ ?_
 refine ⟨fun hlt => ⟨⟨by omega, hlt⟩, q0a (q3r _ _ _) ?_⟩, fun hge => ?_⟩
 · have hp : prfAt l i = mIn 0 2147483647 (l.getD i (Ty.dflt I64)) := rfl
   cases hf : findI (.int .i64 (l.getD i (Ty.dflt I64))) (keysI l i) with
   | none =>
    refine uQ 600 _ ?_
    simp (maxSteps := 3000000) only [hf, List.append_assoc, getA, getA0, setA, setA0, List.length_append, Nat.add_assoc, go_sem, ↓zA, ↓reduceIte, ↓reduceDIte] <;> try simp only [zB]
    refine ⟨fun hb => ?_, fun hb => ⟨(i + 1, vs ++ [.int .i64 (IntKind.i64.wrap (0 + 1))], G), ⟨hlt, by rw [q7s hf, List.length_append, List.length_append, hvl]; simp, ?_, q1c hall (hp.trans hb)⟩, by dsimp only; omega, by dsimp only; rw [q7s hf], ?_⟩⟩
    · rw [q0k hlt (hp.trans hb)]; rfl
    · intro v hv
      rcases List.mem_append.1 hv with h | h
      · exact hint v h
      exact ⟨_, List.mem_singleton.1 h⟩
    with_reducible refine sxE ?_
    rw [q1N (by omega)]
   | some j =>
    obtain ⟨hj, _⟩ := q8b hf
    obtain ⟨c, hc⟩ := hint _ (q1g (d := undef) (show j < vs.length by omega))
    refine uQ 600 _ ?_
    simp (maxSteps := 3000000) only [hf, hc, List.append_assoc, getA, getA0, setA, setA0, List.length_append, Nat.add_assoc, go_sem, ↓zA, ↓reduceIte, ↓reduceDIte] <;> try simp only [zB]
    refine ⟨fun hb => ?_, fun hb => ⟨(i + 1, vs.set j (.int .i64 (IntKind.i64.wrap (c + 1))), G), ⟨hlt, by rw [q7j hf, List.length_set, hvl], ?_, q1c hall (hp.trans hb)⟩, by dsimp only; omega, by dsimp only; rw [q7j hf], ?_⟩⟩
    · rw [q0k hlt (hp.trans hb)]; rfl
    · intro v hv
      rcases List.mem_or_eq_of_mem_set hv with h | h
      · exact hint v h
      exact ⟨_, h⟩
    with_reducible refine sxE ?_
    rw [q1N (by omega)]
 obtain rfl : i = l.length := by omega
 rw [q0p hall]; rfl
def sReq (r : Req) (va vt : Bool) : Bool := vKind r.1 && (vPre r.2.1 && (vOpt r.2.2.1 && ((if r.1 = 10 then vPrin r.2.2.2.1 else noN r.2.2.2.1) && (vPrin r.2.2.2.2.1 && (vTime r.2.2.2.2.2.1 && (vTime r.2.2.2.2.2.2.1 && (vTime r.2.2.2.2.2.2.2.1 && (mIn 0 4294967295 r.2.2.2.2.2.2.2.2.1 && (vProf r.2.2.2.2.2.2.2.2.2.1 && (va && vt))))))))))
theorem z8V (r : Req) (va vt : Bool) (ho : ReqT.ok r) (ha : PC Tryz.prog 50 [.isl PreT r.2.2.2.2.2.2.2.2.2.2.1] (rB va)) (ht : PC Tryz.prog 136 [.isl TickT r.2.2.2.2.2.2.2.2.2.2.2] (rB vt)) :
 PC Tryz.prog 65 [.agg (ReqT.cells r)] (rB (sReq r va vt)) := by
 obtain ⟨k, pre, opt, cl, sv, fr, ti, re, no, pf, ad, tk⟩ := r
 obtain ⟨_, o2, _, o4, o5, _⟩ := ho
 dsimp only at ha ht o4 o5
 have hs : sReq (k, pre, opt, cl, sv, fr, ti, re, no, pf, ad, tk) va vt = (vKind k && (vPre pre && (vOpt opt && ((if k = 10 then vPrin cl else noN cl) && (vPrin sv && (vTime fr && (vTime ti && (vTime re && (mIn 0 4294967295 no && (vProf pf && (va && vt)))))))))))  := rfl
 rw [hs]
 clear hs
 refine q0B rfl rfl ?_
 refine rQ fi65 ?_
 refine q0a (q8p cl) ?_
 refine gQ ?_
 refine ⟨fun h => q0a (q2r cl o4) ?_, fun h => ?_⟩
 · rw [if_pos h]
   clear h
   refine gQ ?_
   refine q0a (q6c k) ?_
   refine gQ ?_
   refine ⟨fun h1 => ?_, fun h1 => ?_⟩
   rotate_left
   · first | (simp only [Bool.true_and, h1, Bool.false_and, Bool.and_false]; done) | simp [Bool.true_and, h1]
   refine q0a (z1O pre) ?_
   refine gQ ?_
   refine ⟨fun h2 => ?_, fun h2 => ?_⟩
   rotate_left
   · first | (simp only [Bool.true_and, h2, Bool.false_and, Bool.and_false]; done) | simp [Bool.true_and, h2]
   refine q0a (z8U opt) ?_
   refine gQ ?_
   refine ⟨fun h3 => ?_, fun h3 => ?_⟩
   rotate_left
   · first | (simp only [Bool.true_and, h3, Bool.false_and, Bool.and_false]; done) | simp [Bool.true_and, h3]
   refine ⟨fun hp => ?_, fun hp => by simp [hp]⟩
   refine q0a (q2r sv o5) ?_
   refine gQ ?_
   refine ⟨fun h4 => ?_, fun h4 => ?_⟩
   rotate_left
   · first | (simp only [Bool.true_and, h4, Bool.false_and, Bool.and_false]; done) | simp [Bool.true_and, h4]
   refine q0a (q2T _) ?_
   refine gQ ?_
   refine ⟨fun h5 => ?_, fun h5 => ?_⟩
   rotate_left
   · first | (simp only [Bool.true_and, h5, Bool.false_and, Bool.and_false]; done) | simp [Bool.true_and, h5]
   refine q0a (q2T _) ?_
   refine gQ ?_
   refine ⟨fun h6 => ?_, fun h6 => ?_⟩
   rotate_left
   · first | (simp only [Bool.true_and, h6, Bool.false_and, Bool.and_false]; done) | simp [Bool.true_and, h6]
   refine q0a (q2T _) ?_
   refine gQ ?_
   refine ⟨fun h7 => ?_, fun h7 => ?_⟩
   rotate_left
   · first | (simp only [Bool.true_and, h7, Bool.false_and, Bool.and_false]; done) | simp [Bool.true_and, h7]
   refine q0a (q3r _ _ _) ?_
   refine gQ ?_
   refine ⟨fun h8 => ?_, fun h8 => ?_⟩
   rotate_left
   · first | (simp only [Bool.true_and, h8, Bool.false_and, Bool.and_false]; done) | simp [Bool.true_and, h8]
   refine q0a (z4b pf) ?_
   refine gQ ?_
   refine ⟨fun h9 => ?_, fun h9 => ?_⟩
   rotate_left
   · first | (simp only [Bool.true_and, h9, Bool.false_and, Bool.and_false]; done) | simp [Bool.true_and, h9]
   refine q0a (ha) ?_
   refine gQ ?_
   refine ⟨fun h10 => ?_, fun h10 => ?_⟩
   rotate_left
   · first | (simp only [Bool.true_and, h10, Bool.false_and, Bool.and_false]; done) | simp [Bool.true_and, h10]
   refine q0a (ht) ?_
   refine gQ ?_
   simp [*]
 rw [if_neg h]
 clear h
 refine q0a (q6c k) ?_
 refine gQ ?_
 refine ⟨fun h11 => ?_, fun h11 => ?_⟩
 rotate_left
 · first | (simp only [Bool.true_and, h11, Bool.false_and, Bool.and_false]; done) | simp [Bool.true_and, h11]
 refine q0a (z1O pre) ?_
 refine gQ ?_
 refine ⟨fun h12 => ?_, fun h12 => ?_⟩
 rotate_left
 · first | (simp only [Bool.true_and, h12, Bool.false_and, Bool.and_false]; done) | simp [Bool.true_and, h12]
 refine q0a (z8U opt) ?_
 refine gQ ?_
 refine ⟨fun h13 => ?_, fun h13 => ?_⟩
 rotate_left
 · first | (simp only [Bool.true_and, h13, Bool.false_and, Bool.and_false]; done) | simp [Bool.true_and, h13]
 refine ⟨fun hp => ?_, fun hp => by simp [hp]⟩
 refine q0a (q2r sv o5) ?_
 refine gQ ?_
 refine ⟨fun h14 => ?_, fun h14 => ?_⟩
 rotate_left
 · first | (simp only [Bool.true_and, h14, Bool.false_and, Bool.and_false]; done) | simp [Bool.true_and, h14]
 refine q0a (q2T _) ?_
 refine gQ ?_
 refine ⟨fun h15 => ?_, fun h15 => ?_⟩
 rotate_left
 · first | (simp only [Bool.true_and, h15, Bool.false_and, Bool.and_false]; done) | simp [Bool.true_and, h15]
 refine q0a (q2T _) ?_
 refine gQ ?_
 refine ⟨fun h16 => ?_, fun h16 => ?_⟩
 rotate_left
 · first | (simp only [Bool.true_and, h16, Bool.false_and, Bool.and_false]; done) | simp [Bool.true_and, h16]
 refine q0a (q2T _) ?_
 refine gQ ?_
 refine ⟨fun h17 => ?_, fun h17 => ?_⟩
 rotate_left
 · first | (simp only [Bool.true_and, h17, Bool.false_and, Bool.and_false]; done) | simp [Bool.true_and, h17]
 refine q0a (q3r _ _ _) ?_
 refine gQ ?_
 refine ⟨fun h18 => ?_, fun h18 => ?_⟩
 rotate_left
 · first | (simp only [Bool.true_and, h18, Bool.false_and, Bool.and_false]; done) | simp [Bool.true_and, h18]
 refine q0a (z4b pf) ?_
 refine gQ ?_
 refine ⟨fun h19 => ?_, fun h19 => ?_⟩
 rotate_left
 · first | (simp only [Bool.true_and, h19, Bool.false_and, Bool.and_false]; done) | simp [Bool.true_and, h19]
 refine q0a (ha) ?_
 refine gQ ?_
 refine ⟨fun h20 => ?_, fun h20 => ?_⟩
 rotate_left
 · first | (simp only [Bool.true_and, h20, Bool.false_and, Bool.and_false]; done) | simp [Bool.true_and, h20]
 refine q0a (ht) ?_
 refine gQ ?_
 simp [*]
def txtAt (s : ByteArray) (j : Nat) : Bool := decide (32 ≤ ((s.data.toList.getD j 0).toNat : Int)) && decide (((s.data.toList.getD j 0).toNat : Int) ≤ 126)
def sFail (f : Fail) : Bool := decide ((f.2.2.2.2.2.1.size : Int) ≤ 256) && (allN f.2.2.2.2.2.1.size (txtAt f.2.2.2.2.2.1) && (mIn 0 65535 f.1 && (vTime f.2.1 && (mIn 0 999999 f.2.2.1 && ((noN f.2.2.2.1 || vPrin f.2.2.2.1) && (vPrin f.2.2.2.2.1 && vPre f.2.2.2.2.2.2))))))
theorem z9y (f : Fail) (ho : FailT.ok f) : PC Tryz.prog 68 [.agg (FailT.cells f)] (rB (sFail f)) := by
 obtain ⟨c, t, m, cl, sv, x, d⟩ := f
 obtain ⟨_, _, _, o4, o5, o6, _⟩ := ho
 dsimp only at o4 o5 o6
 have hs : sFail (c, t, m, cl, sv, x, d) = (decide ((x.size : Int) ≤ 256) && (allN x.size (txtAt x) && (mIn 0 65535 c && (vTime t && (mIn 0 999999 m && ((noN cl || vPrin cl) && (vPrin sv && vPre d))))))) := rfl
 rw [hs]
 clear hs
 refine q0B rfl rfl ?_
 refine rQ fi68 ?_
 refine ⟨fun h => ?_, fun h => ?_⟩
 · rw [decide_eq_false (by omega)]; rfl
 rw [decide_eq_true (show (x.size : Int) ≤ 256 by omega), Bool.true_and]
 refine q0W (fun i => [(11, .raw (.int .i64 ((i : Nat) : Int)))]) (x.size) (fun j => (txtAt x) j = true) (by first | decide | simp) (fun i => rfl) ?_ fun i hi hall => ?_
 · (with_reducible refine sxE ?_ <;> try exact True.intro)
   all_goals (try rfl)
 have hwr := wsx i (by omega)
 refine gQ ?_
 have bad : i < (x.size) → (txtAt x) i = false → allN (x.size) (txtAt x) = false := fun hlt hv => q0k hlt hv
 have fin : ¬ i < (x.size) → allN (x.size) (txtAt x) = true := fun h => q0p fun j hj => hall j (by omega)
 try dsimp only at bad fin hall
 have hd : txtAt x i = (decide (32 ≤ ((x.data.toList.getD i 0).toNat : Int)) && decide (((x.data.toList.getD i 0).toNat : Int) ≤ 126)) := rfl
 refine ⟨fun hlt => ⟨⟨by omega, hlt⟩, fun h1 => ⟨⟨by omega, hlt⟩, fun h2 => ?_, fun h2 => ?_⟩, fun h1 => ?_⟩, fun hge => ?_⟩
 · rw [bad hlt (by rw [hd, decide_eq_false (show ¬ ((x.data.toList.getD i 0).toNat : Int) ≤ 126 by omega), Bool.and_false])]; rfl
 · refine ⟨hlt, q1c hall (by rw [hd, decide_eq_true (by omega), decide_eq_true (by omega)]; rfl), ⟨[], rfl⟩, ?_⟩
   with_reducible refine sx1 hwr ?_; trivial
 · rw [bad hlt (by rw [hd, decide_eq_false (by omega)]; rfl)]; rfl
 rw [fin hge, Bool.true_and]
 clear hge fin bad hall hwr hd h
 refine q0a (q3r _ _ _) ?_
 refine gQ ?_
 refine ⟨fun h21 => ?_, fun h21 => ?_⟩
 rotate_left
 · first | (simp only [Bool.true_and, h21, Bool.false_and, Bool.and_false]; done) | simp [Bool.true_and, h21]
 refine q0a (q2T _) ?_
 refine gQ ?_
 refine ⟨fun h22 => ?_, fun h22 => ?_⟩
 rotate_left
 · first | (simp only [Bool.true_and, h22, Bool.false_and, Bool.and_false]; done) | simp [Bool.true_and, h22]
 refine q0a (q3r _ _ _) ?_
 refine gQ ?_
 refine ⟨fun h23 => ?_, fun h23 => ?_⟩
 rotate_left
 · first | (simp only [Bool.true_and, h23, Bool.false_and, Bool.and_false]; done) | simp [Bool.true_and, h23]
 refine q0a (q8p cl) ?_
 refine gQ ?_
 refine ⟨fun h => q0a (q2r cl o4) ?_, fun h => ?_⟩
 · rw [h, Bool.false_or]
   refine gQ ?_
   refine ⟨fun hp => ?_, fun hp => by simp [hp]⟩
   refine q0a (q2r sv o5) ?_
   refine gQ ?_
   refine ⟨fun h24 => ?_, fun h24 => ?_⟩
   rotate_left
   · first | (simp only [Bool.true_and, h24, Bool.false_and, Bool.and_false]; done) | simp [Bool.true_and, h24]
   refine q0a (z1O d) ?_
   refine gQ ?_
   simp [*]
 rw [h, Bool.true_or]
 refine q0a (q2r sv o5) ?_
 refine gQ ?_
 refine ⟨fun h25 => ?_, fun h25 => ?_⟩
 rotate_left
 · first | (simp only [Bool.true_and, h25, Bool.false_and, Bool.and_false]; done) | simp [Bool.true_and, h25]
 refine q0a (z1O d) ?_
 refine gQ ?_
 simp [*]
theorem j1E (n : Int) (b : List UInt8) : PC Tryz.prog 150 [rI n, .isl .u8 b] (.isl .u8 (wrapS 96 n b)) := by
 refine q0e rfl rfl ?_
 refine rQ fi150 ?_
 refine q0a (q9u 96 n b (by omega)) ?_
 refine gQ ?_; trivial
theorem z4W (n : Int) (l : List (List UInt8)) (hl : l.length ≤ 1125899906842624) : PC Tryz.prog 80 [rI n, .isl (.slice .u8) l] (.isl .u8 (wrapS 96 n (elemS 48 l))) := by
 refine q0e rfl rfl ?_
 refine rQ fi80 ?_
 refine q0a (q1Z l hl) ?_
 refine gQ ?_
 refine q0a (j1E n _) ?_
 refine gQ ?_; trivial
def optS (n : Int) (p : Bool) (w : List UInt8) : List UInt8 := if p then wrapS 160 n w else []
theorem q2c (n : Int) (p : Bool) (g : Nat) (ca : List SV) (w : List UInt8) (hca : SV.cleanL ca = true) (hg : p = true → PC Tryz.prog g ca (.isl .u8 w)) : PC Tryz.prog 126 [rI n, rB p, .fn g [] ca] (.isl .u8 (optS n p w)) := by
 refine q0e (by simp [SV.cleanL, SV.clean, hca]) rfl ?_
 refine rQ fi126 ?_
 refine ⟨fun h => ?_, fun h => q0a (hg h) ?_⟩
 · rw [h]; rfl
 refine gQ ?_
 refine q0a (q0D _ _) ?_
 refine gQ ?_
 rw [h]; rfl
theorem q6R (p : Prin) (hp : PrinT.ok p) : PC Tryz.prog 87 [.agg (PrinT.cells p)] (.isl .u8 (prinE p)) := by
 unfold prinE
 refine q0e rfl rfl ?_
 refine rQ fi87 ?_
 refine q0a (z5W p hp) ?_
 refine gQ ?_; trivial
theorem z3m (t : Int) : PC Tryz.prog 155 [.iptr I64 t 0] (.isl .u8 (timeS t)) := by
 refine q0e rfl rfl ?_
 refine rQ fi155 ?_
 refine q0a (q7B _) ?_
 refine gQ ?_; trivial
def instS (n t : Int) : List UInt8 := optS n (!decide (t = 0)) (timeS t)
theorem q4J (n t : Int) : PC Tryz.prog 84 [rI n, rI t] (.isl .u8 (instS n t)) := by
 refine q0e rfl rfl ?_
 refine q1J fi84 (q0l mixed 3 _ ?_)
 with_reducible refine sxE ?_
 refine q3i 3 0 (ty := I64) (x := t) rfl trivial rfl rfl ?_
 refine gQ ?_
 refine q0a (q2c n _ _ _ _ rfl fun _ => z3m t) ?_
 refine gQ ?_
 rfl
def datS (d : Pre) : List UInt8 := fieldsS [intS d.1, elemS 4 [d.2]]
def dataS (l : List Pre) : List UInt8 := if l.length ≤ 16 then wholeS (mapN (t := PreT) datS l l.length) else []
theorem z8Y (l : List Pre) : PC Tryz.prog 191 [.isl PreT l] (.isl .u8 (dataS l)) := by
 refine q0e rfl rfl ?_
 refine rQ fi191 ?_
 refine ⟨fun h => ?_, fun h => ?_⟩
 · unfold dataS; rw [if_neg (by omega)]
 have hl : l.length ≤ 16 := by omega
 refine q1U 3 (.slice .u8) (mapN (t := PreT) datS l) (fun i => [(11, rI i)]) l.length (fun _ => True) rfl (by simp) (by simp [mapN]) rfl (fun i => rfl) ?_ fun i hi _ => ?_
 · with_reducible refine sxE ?_; trivial
 have hwr := wsx i (by omega)
 have hln := q8n (t := PreT) (w := datS) hi
 refine gQ ?_
 refine ⟨fun hlt => ⟨⟨by omega, hlt⟩, q0b (q1a _) ?_⟩, fun hge => ?_⟩
 · refine gQ ?_
   refine q0b (z2h _) ?_
   refine gQ ?_
   refine q0R 2 (by decide) ?_
   with_reducible refine sxE ?_
   refine q0b (z1u _ (by simp)) ?_
   refine gQ ?_
   have hst := q6G (t := PreT) (w := datS) hlt
   refine ⟨⟨by omega, by omega⟩, q1b [_, _, _, _] [] hlt trivial (by rw [hst]; rfl) ?_⟩
   with_reducible refine sx3 hwr hst ?_; trivial
 obtain rfl : i = l.length := by omega
 refine q0v 0 ?_
 with_reducible refine sxE ?_
 refine ⟨by omega, Nat.le_refl _, ?_⟩
 rw [List.take_of_length_le (Nat.le_refl _)]
 refine q0a (z4c _ (by omega)) ?_
 refine gQ ?_
 unfold dataS; rw [if_pos hl]
theorem z2N (l : List Pre) (hl : l.length ≤ 1048576) : PC Tryz.prog 190 [.iptr (.slice PreT) l 0] (.isl .u8 (dataS l)) := by
 refine q0e rfl rfl ?_
 refine rQ fi190 ?_
 refine ⟨by omega, ?_⟩
 refine q7S (H := []) 2 PreT (fun i => l.take i) (fun i => [(7, .any), (10, rI i)]) l.length (fun _ => True) rfl (by simp) rfl (fun i => rfl) ?_ fun i hi _ => ?_
 · with_reducible refine sxE ?_; trivial
 have hwr := wsx i (by omega)
 have hln : (l.take i).length = i := List.length_take_of_le hi
 refine uQ 600 _ ?_
 with_reducible refine sx1 hln ?_
 refine ⟨fun hlt => ⟨⟨by omega, hlt⟩, ?_⟩, fun hge => ?_⟩
 · have hst := q0z (d := PreT.dflt) hlt
   refine ⟨⟨by omega, by omega⟩, q1b [_, _, _] [] hlt trivial (by rw [hst]; rfl) ?_⟩
   simp (maxSteps := 3000000) only [hwr, hst, List.length_append, hln, go_sem, ↓zA, ↓reduceIte, ↓reduceDIte] <;> try simp only [zB]
 obtain rfl : i = l.length := by omega
 refine q0v 0 ?_
 with_reducible refine sx1 hln ?_
 simp only [List.take_length]
 refine ⟨by omega, Nat.le_refl _, ?_⟩
 refine q0a (z8Y l) ?_
 refine gQ ?_; trivial
def preS (n : Int) (l : List Pre) : List UInt8 := optS n (decide (0 < (l.length : Int))) (dataS l)
theorem q6j (n : Int) (l : List Pre) (ho : (Ty.slice PreT).ok l) (hl : l.length ≤ 1048576) : PC Tryz.prog 137 [rI n, .isl PreT l] (.isl .u8 (preS n l)) := by
 refine q0e rfl rfl ?_
 refine q1J fi137 (q0l mixed 3 _ ?_)
 with_reducible refine sxE ?_
 refine q3i 3 0 (ty := .slice PreT) (x := l) rfl ho rfl rfl ?_
 refine gQ ?_
 refine q0a (q2c n _ _ _ _ rfl fun _ => z2N l hl) ?_
 refine gQ ?_
 rfl
theorem j0L (l : List Int) (g : Nat) (w : Int → List UInt8) (hl : l.length ≤ 1048576) (hone : ∀ x ∈ l, PC Tryz.prog g [rI x] (.isl .u8 (w x))) :
 PC Tryz.prog 128 [.isl I64 l, .fn g [] []] (.isl .u8 (elemS 48 (mapN (t := I64) w l l.length))) := by
 refine q0e rfl rfl ?_
 refine rQ fi128 ?_
 refine ⟨by omega, ?_⟩
 refine q7S (H := []) 5 (.slice .u8) (mapN (t := I64) w l) (fun i => [(10, .any), (13, rI i)]) l.length (fun _ => True) (by simp [mapN]) (by simp) rfl (fun i => rfl) ?_ fun i hi _ => ?_
 · with_reducible refine sxE ?_
   rfl
 have hwr := wsx i (by omega)
 have hln := q8n (t := I64) (w := w) hi
 refine uQ 600 _ ?_
 with_reducible refine sx1 hln ?_
 refine ⟨fun hlt => ⟨⟨by omega, hlt⟩, q0a (hone _ (q1g (d := I64.dflt) hlt)) ?_⟩, fun hge => ?_⟩
 · refine uQ 600 _ ?_
   with_reducible refine sx1 hln ?_
   have hst := q6G (t := I64) (w := w) hlt
   refine ⟨⟨by omega, by omega⟩, q1b [_, _] [] hlt trivial (by rw [hst]; rfl) ?_⟩
   simp (maxSteps := 3000000) only [hwr, hst, List.length_append, hln, go_sem, ↓zA, ↓reduceIte, ↓reduceDIte] <;> try simp only [zB]
 obtain rfl : i = l.length := by omega
 refine q0v 0 ?_
 with_reducible refine sx1 hln ?_
 refine ⟨by omega, Nat.le_refl _, ?_⟩
 rw [List.take_of_length_le (by omega)]
 refine q0a (q1Z _ (by omega)) ?_
 refine gQ ?_; trivial
def failS (f : Fail) : List UInt8 := wrapS 96 30 (elemS 48 [wrapS 160 0 (intS 5), wrapS 160 1 (intS 30), wrapS 160 2 (timeS f.2.1), wrapS 160 3 (intS f.2.2.1), wrapS 160 4 (intS f.1), optS 5 (!noN f.2.2.2.1) (prinE f.2.2.2.1), wrapS 160 6 (prinE f.2.2.2.2.1), optS 7 (!decide (f.2.2.2.2.2.1 = ⟨#[]⟩)) (elemS 27 [f.2.2.2.2.2.1.data.toList]), preS 8 f.2.2.2.2.2.2])
theorem z6Q (f : Fail) (ho : FailT.ok f) : PC Tryz.prog 138 [.iptr FailT f 0] (.isl .u8 (prinE f.2.2.2.1)) := by
 obtain ⟨c, t, m, cl, sv, x, d⟩ := f
 obtain ⟨_, _, _, o4, o5, o6, _⟩ := ho
 refine q0e rfl rfl ?_
 refine rQ fi138 ?_
 refine q0a (q6R cl o4) ?_
 refine gQ ?_; trivial
theorem z8a (f : Fail) (ho : FailT.ok f) : PC Tryz.prog 139 [.iptr FailT f 0] (.isl .u8 (elemS 27 [f.2.2.2.2.2.1.data.toList])) := by
 obtain ⟨c, t, m, cl, sv, x, d⟩ := f
 obtain ⟨_, _, _, o4, o5, o6, _⟩ := ho
 refine q0e rfl rfl ?_
 refine rQ fi139 ?_
 refine q0a (q6b x o6) ?_
 refine gQ ?_; trivial
theorem j0s (f : Fail) (ho : FailT.ok f) (hl : f.2.2.2.2.2.2.length ≤ 1048576) : PC Tryz.prog 69 [.agg (FailT.cells f)] (.isl .u8 (failS f)) := by
 have h1 := z6Q f ho
 have h2 := z8a f ho
 have ho' := ho
 obtain ⟨c, t, m, cl, sv, x, d⟩ := f
 obtain ⟨_, _, _, o4, o5, o6, o7⟩ := ho
 dsimp only at hl
 refine q0e rfl rfl ?_
 refine q1J fi69 (q0l mixed 3 _ ?_)
 with_reducible refine sxE ?_
 refine q3i 1 0 (ty := FailT) (x := (c, t, m, cl, sv, x, d)) rfl ho' rfl rfl ?_
 refine gQ ?_
 refine q0b (q1a 5) ?_
 refine gQ ?_
 refine q0b (q0D _ _) ?_
 refine gQ ?_
 refine q0b (q1a 30) ?_
 refine gQ ?_
 refine q0b (q0D _ _) ?_
 refine gQ ?_
 refine q0b (q7B t) ?_
 refine gQ ?_
 refine q0b (q0D _ _) ?_
 refine gQ ?_
 refine q0b (q1a m) ?_
 refine gQ ?_
 refine q0b (q0D _ _) ?_
 refine gQ ?_
 refine q0b (q1a c) ?_
 refine gQ ?_
 refine q0b (q0D _ _) ?_
 refine gQ ?_
 refine q0b (q8p cl) ?_
 refine gQ ?_
 refine q0b (q2c 5 _ _ _ _ rfl fun _ => h1) ?_
 refine gQ ?_
 refine q0b (q6R sv o5) ?_
 refine gQ ?_
 refine q0b (q0D _ _) ?_
 refine gQ ?_
 refine q0b (q2c 7 _ _ _ _ rfl fun _ => h2) ?_
 refine gQ ?_
 refine q0b (q6j 8 d o7 hl) ?_
 refine gQ ?_
 refine q0R 1 (by decide) ?_
 with_reducible refine sxE ?_
 refine q0b (z4W 30 _ (by simp)) ?_
 refine gQ ?_
 rfl
def shortS (b : List UInt8) : List UInt8 := if b.length ≤ 65536 then b else []
theorem j1r (b : List UInt8) : PC Tryz.prog 66 [.isl .u8 b] (.tup [.isl .u8 (shortS b), rI (if b.length ≤ 65536 then 0 else 2)]) := by
 refine q0e rfl rfl ?_
 refine rQ fi66 ?_
 refine ⟨fun h => ?_, fun h => ?_⟩
 · unfold shortS; rw [if_neg (by omega), if_neg (by omega)]; exact ⟨rfl, rfl⟩
 unfold shortS; rw [if_pos (by omega), if_pos (by omega)]; exact ⟨rfl, rfl⟩
theorem z3B {f : Fail} (h : sFail f = true) : f.2.2.2.2.2.2.length ≤ 1048576 := by
 simp only [sFail, vPre, Bool.and_eq_true, decide_eq_true_eq] at h
 have := h.2.2.2.2.2.2.2.1
 omega
def vFail (f : Fail) : Bool := sFail f && decide ((failS f).length ≤ 65536)
theorem z6j (f : Fail) (ho : FailT.ok f) : PC Tryz.prog 21 [.agg (FailT.cells f)] (.tup [.isl .u8 (if vFail f then failS f else []), rI (if vFail f then 0 else 2)]) := by
 have h1 := z9y f ho
 have h2 := fun h => j0s f ho (z3B h)
 have h3 := j1r (failS f)
 have hv : vFail f = (sFail f && decide ((failS f).length ≤ 65536)) := rfl
 have hs : shortS (failS f) = if (failS f).length ≤ 65536 then failS f else [] := rfl
 rw [hv]
 clear hv
 generalize sFail f = s at *
 generalize failS f = w at *
 obtain ⟨c, t, m, cl, sv, x, d⟩ := f
 refine q0e rfl rfl ?_
 refine rQ fi21 ?_
 refine q0a h1 ?_
 refine gQ ?_
 refine ⟨fun h => ?_, fun h => q0a (h2 h) ?_⟩
 · rw [h]; exact ⟨rfl, rfl⟩
 refine gQ ?_
 refine q0a h3 ?_
 refine gQ ?_
 rw [h, hs]
 by_cases hw : w.length ≤ 65536
 · rw [if_pos hw, if_pos hw, decide_eq_true hw]; exact ⟨rfl, rfl⟩
 rw [if_neg hw, if_neg hw, decide_eq_false hw]; exact ⟨rfl, rfl⟩
def hostS (n : Int) (l : List Pre) (w : List UInt8) : List UInt8 := optS n (decide (0 < (l.length : Int))) w
def bodyS (r : Req) (wa wt : List UInt8) : List UInt8 := elemS 48 [wrapS 160 0 (bitsS r.2.2.1), optS 1 (decide (r.1 = 10)) (prinE r.2.2.2.1), wrapS 160 2 (prinE r.2.2.2.2.1), instS 3 r.2.2.2.2.2.1, wrapS 160 4 (timeS r.2.2.2.2.2.2.1), instS 5 r.2.2.2.2.2.2.2.1, wrapS 160 6 (intS r.2.2.2.2.2.2.2.2.1), wrapS 160 7 (elemS 48 (mapN (t := I64) intS r.2.2.2.2.2.2.2.2.2.1 r.2.2.2.2.2.2.2.2.2.1.length)), hostS 8 r.2.2.2.2.2.2.2.2.2.2.1 wa, optS 9 (decide (0 < (r.2.2.2.2.2.2.2.2.2.2.2.length : Int))) wt]
theorem z7t (r : Req) (ho : ReqT.ok r) : PC Tryz.prog 127 [.iptr ReqT r 0] (.isl .u8 (prinE r.2.2.2.1)) := by
 obtain ⟨k, pre, opt, cl, sv, fr, ti, re, no, pf, ad, tk⟩ := r
 obtain ⟨_, o2, _, o4, o5, _⟩ := ho
 refine q0e rfl rfl ?_
 refine rQ fi127 ?_
 refine q0a (q6R cl o4) ?_
 refine gQ ?_; trivial
theorem z5P (n : Int) (l : List Pre) (w : List UInt8) (ho : (Ty.slice PreT).ok l) (ha : l ≠ [] → PC Tryz.prog 158 [.isl PreT l] (.isl .u8 w)) : PC Tryz.prog 88 [rI n, .isl PreT l] (.isl .u8 (hostS n l w)) := by
 refine q0e rfl rfl ?_
 refine q1J fi88 (q0l mixed 3 _ ?_)
 with_reducible refine sxE ?_
 refine q3i 3 0 (ty := .slice PreT) (x := l) rfl ho rfl rfl ?_
 refine gQ ?_
 have h1 : l ≠ [] → PC Tryz.prog 157 [.iptr (.slice PreT) l 0] (.isl .u8 w) := fun h0 => by
  refine q0e rfl rfl ?_
  refine rQ fi157 ?_
  refine q0a (ha h0) ?_
  refine gQ ?_; trivial
 refine q0a (q2c n _ _ _ _ rfl fun h => h1 (by rintro rfl; exact absurd h (by decide))) ?_
 refine gQ ?_
 rfl
theorem z0F (r : Req) (wa wt : List UInt8) (ho : ReqT.ok r) (hr : 0 ≤ r.2.2.1 ∧ r.2.2.1 ≤ 4294967295) (hl : r.2.2.2.2.2.2.2.2.2.1.length ≤ 1048576) (ha : r.2.2.2.2.2.2.2.2.2.2.1 ≠ [] → PC Tryz.prog 158 [.isl PreT r.2.2.2.2.2.2.2.2.2.2.1] (.isl .u8 wa))
 (ht : r.2.2.2.2.2.2.2.2.2.2.2 ≠ [] → PC Tryz.prog 129 [.iptr ReqT r 0] (.isl .u8 wt)) : PC Tryz.prog 64 [.agg (ReqT.cells r)] (.isl .u8 (bodyS r wa wt)) := by
 have h1 := z7t r ho
 have ho' := ho
 obtain ⟨k, pre, opt, cl, sv, fr, ti, re, no, pf, ad, tk⟩ := r
 obtain ⟨_, o2, _, o4, o5, _, _, _, _, o10, o11, o12⟩ := ho
 dsimp only at hl ha hr
 have h2 : decide (0 < (tk.length : Int)) = true → PC Tryz.prog 129 [.iptr ReqT (k, pre, opt, cl, sv, fr, ti, re, no, pf, ad, tk) 0] (.isl .u8 wt) := fun h => ht (by dsimp only; rintro rfl; exact absurd h (by decide))
 clear ht
 refine q0e rfl rfl ?_
 refine q1J fi64 (q0l mixed 3 _ ?_)
 with_reducible refine sxE ?_
 refine q3i 1 0 (ty := ReqT) (x := (k, pre, opt, cl, sv, fr, ti, re, no, pf, ad, tk)) rfl ho' rfl rfl ?_
 refine gQ ?_
 refine q0b (z8C opt hr) ?_
 refine gQ ?_
 refine q0b (q0D _ _) ?_
 refine gQ ?_
 refine q0b (q2c 1 _ _ _ _ rfl fun _ => h1) ?_
 refine gQ ?_
 refine q0b (q6R sv o5) ?_
 refine gQ ?_
 refine q0b (q0D _ _) ?_
 refine gQ ?_
 refine q0b (q4J 3 fr) ?_
 refine gQ ?_
 refine q0b (q7B ti) ?_
 refine gQ ?_
 refine q0b (q0D _ _) ?_
 refine gQ ?_
 refine q0b (q4J 5 re) ?_
 refine gQ ?_
 refine q0b (q1a no) ?_
 refine gQ ?_
 refine q0b (q0D _ _) ?_
 refine gQ ?_
 refine q0b (j0L pf _ intS hl fun x _ => q1a x) ?_
 refine gQ ?_
 refine q0b (q0D _ _) ?_
 refine gQ ?_
 refine q0b (z5P 8 ad wa o11 ha) ?_
 refine gQ ?_
 refine q0b (q2c 9 _ _ _ _ rfl h2) ?_
 refine gQ ?_
 refine q0R 1 (by decide) ?_
 with_reducible refine sxE ?_
 refine q0b (q1Z _ (by simp)) ?_
 refine gQ ?_
 rfl
def reqS (r : Req) (wa wt : List UInt8) : List UInt8 := wrapS 96 r.1 (elemS 48 [wrapS 160 1 (intS 5), wrapS 160 2 (intS r.1), preS 3 r.2.1, wrapS 160 4 (bodyS r wa wt)])
structure ReqC (r : Req) (va vt : Bool) (wa wt : List UInt8) : Prop where
 ok : ReqT.ok r
 opt : 0 ≤ r.2.2.1 ∧ r.2.2.1 ≤ 4294967295
 va : PC Tryz.prog 50 [.isl PreT r.2.2.2.2.2.2.2.2.2.2.1] (rB va)
 vt : PC Tryz.prog 136 [.isl TickT r.2.2.2.2.2.2.2.2.2.2.2] (rB vt)
 wa : r.2.2.2.2.2.2.2.2.2.2.1 ≠ [] → PC Tryz.prog 158 [.isl PreT r.2.2.2.2.2.2.2.2.2.2.1] (.isl .u8 wa)
 wt : r.2.2.2.2.2.2.2.2.2.2.2 ≠ [] → PC Tryz.prog 129 [.iptr ReqT r 0] (.isl .u8 wt)
theorem q8o {r : Req} {va vt : Bool} (h : sReq r va vt = true) : r.2.1.length ≤ 1048576 ∧ r.2.2.2.2.2.2.2.2.2.1.length ≤ 1048576 := by
 simp only [sReq, vPre, vProf, Bool.and_eq_true, decide_eq_true_eq] at h
 have h1 := h.2.1.1
 have h2 := h.2.2.2.2.2.2.2.2.2.1.2.1
 omega
theorem j1T {r : Req} {va vt : Bool} {wa wt : List UInt8} (h : ReqC r va vt wa wt) (hs : sReq r va vt = true) : PC Tryz.prog 67 [.agg (ReqT.cells r)] (.isl .u8 (reqS r wa wt)) := by
 obtain ⟨hl, hp⟩ := q8o hs
 have hb := z0F r wa wt h.ok h.opt hp h.wa h.wt
 have ho := h.ok
 have hr : reqS r wa wt = wrapS 96 r.1 (elemS 48 [wrapS 160 1 (intS 5), wrapS 160 2 (intS r.1), preS 3 r.2.1, wrapS 160 4 (bodyS r wa wt)]) := rfl
 rw [hr]
 clear hr hs h hp
 generalize bodyS r wa wt = bd at *
 obtain ⟨k, pre, opt, cl, sv, fr, ti, re, no, pf, ad, tk⟩ := r
 obtain ⟨_, o2, _⟩ := ho
 dsimp only at hl
 refine q0e rfl rfl ?_
 refine rQ fi67 ?_
 refine q0b (q1a 5) ?_
 refine gQ ?_
 refine q0b (q0D _ _) ?_
 refine gQ ?_
 refine q0b (q1a k) ?_
 refine gQ ?_
 refine q0b (q0D _ _) ?_
 refine gQ ?_
 refine q0b (q6j 3 pre o2 hl) ?_
 refine gQ ?_
 refine q0b (hb) ?_
 refine gQ ?_
 refine q0b (q0D _ _) ?_
 refine gQ ?_
 refine q0R 1 (by decide) ?_
 with_reducible refine sxE ?_
 refine q0b (z4W k _ (by simp)) ?_
 refine gQ ?_; trivial
def vReq (r : Req) (va vt : Bool) (wa wt : List UInt8) : Bool := sReq r va vt && decide ((reqS r wa wt).length ≤ 65536)
theorem q5s {r : Req} {va vt : Bool} {wa wt : List UInt8} (hc : ReqC r va vt wa wt) : PC Tryz.prog 25 [.agg (ReqT.cells r)] (rB (vReq r va vt wa wt)) := by
 have h1 := z8V r va vt hc.ok hc.va hc.vt
 have h2 := fun h => j1T hc h
 have hv : vReq r va vt wa wt = (sReq r va vt && decide ((reqS r wa wt).length ≤ 65536)) := rfl
 rw [hv]
 clear hv hc
 generalize sReq r va vt = s at *
 generalize reqS r wa wt = w at *
 obtain ⟨k, pre, opt, cl, sv, fr, ti, re, no, pf, ad, tk⟩ := r
 refine q0B rfl rfl ?_
 refine rQ fi25 ?_
 refine q0a h1 ?_
 refine gQ ?_
 refine ⟨fun h => q0a (h2 h) ?_, fun h => by rw [h]; rfl⟩
 refine gQ ?_
 rw [h, Bool.true_and]
 exact decide_eq_decide.2 (by omega)
theorem j2r {r : Req} {va vt : Bool} {wa wt : List UInt8} (hc : ReqC r va vt wa wt) : PC Tryz.prog 19 [.agg (ReqT.cells r)] (.tup [.isl .u8 (if vReq r va vt wa wt then bodyS r wa wt else []), rI (if vReq r va vt wa wt then 0 else 2)]) := by
 have h1 := q5s hc
 have h2 : vReq r va vt wa wt = true → PC Tryz.prog 64 [.agg (ReqT.cells r)] (.isl .u8 (bodyS r wa wt)) := fun h => by
  simp only [vReq, Bool.and_eq_true] at h
  exact z0F r wa wt hc.ok hc.opt (q8o h.1).2 hc.wa hc.wt
 clear hc
 generalize vReq r va vt wa wt = v at *
 generalize bodyS r wa wt = w at *
 obtain ⟨k, pre, opt, cl, sv, fr, ti, re, no, pf, ad, tk⟩ := r
 refine q0e rfl rfl ?_
 refine rQ fi19 ?_
 refine q0a h1 ?_
 refine gQ ?_
 refine ⟨fun h => ?_, fun h => q0a (h2 h) ?_⟩
 · rw [h]; exact ⟨rfl, rfl⟩
 refine gQ ?_
 rw [h]; exact ⟨rfl, rfl⟩
def typN (b : List UInt8) : Int := ((b.getD 0 0).toNat : Int) - 96
def typB (b : List UInt8) : Bool := decide (b ≠ []) && (mIn 10 13 (typN b) || decide (typN b = 30))
theorem z5M (b : List UInt8) : PC Tryz.prog 22 [.isl .u8 b] (.tup [rI (if typB b then typN b else 0), rI (if typB b then 0 else 6)]) := by
 refine q0B rfl rfl ?_
 refine rQ fi22 ?_
 refine ⟨fun h => ?_, fun h => ⟨by omega, ?_⟩⟩
 · obtain rfl : b = [] := List.length_eq_zero_iff.1 (by omega)
   rfl
 have hne : b ≠ [] := fun e => h (by rw [e]; rfl)
 have hlt := (b.getD 0 Ty.u8.dflt).toNat_lt
 have hn : typN b = ((b.getD 0 Ty.u8.dflt).toNat : Int) - 96 := rfl
 have hb : typB b = (mIn 10 13 (typN b) || decide (typN b = 30)) := by unfold typB; rw [decide_eq_true hne, Bool.true_and]
 rw [wrapi (n := ((b.getD 0 Ty.u8.dflt).toNat : Int)) (by omega), wrapi (n := ((b.getD 0 Ty.u8.dflt).toNat : Int) - 96) (by omega), ← hn, hb]
 clear hn hb hlt hne h
 generalize typN b = n
 refine q0a (q3r _ _ _) ?_
 refine gQ ?_
 refine ⟨fun h1 => ⟨fun h2 => ?_, fun h2 => ?_⟩, fun h1 => ?_⟩
 · rw [h1, decide_eq_true h2]; rfl
 · rw [h1, decide_eq_false h2]; rfl
 rw [h1]; rfl
def kindV (b : List UInt8) (off : Int) : Int := (if typB b then typN b else 0) - off
def kindB (b : List UInt8) (off : Int) : Bool := typB b && (decide (b.length ≤ 65536) && vKind (kindV b off))
theorem z7D (b : List UInt8) (off : Int) (ho : 0 ≤ off ∧ off ≤ 10) : PC Tryz.prog 71 [.isl .u8 b, rI off] (.tup [rI (kindV b off), rB (kindB b off)]) := by
 have ht := z5M b
 refine q0B rfl rfl ?_
 refine rQ fi71 ?_
 refine q0a ht ?_
 clear ht
 have hk : kindV b off = (if typB b then typN b else 0) - off := rfl
 have hlt := (b.getD 0 0).toNat_lt
 have hn : typN b = ((b.getD 0 0).toNat : Int) - 96 := rfl
 have hw : IntKind.i64.wrap ((if typB b then typN b else 0) - off) = kindV b off := by rw [hk]; exact wrapi (by split <;> omega)
 have hd : kindB b off = (typB b && (decide (b.length ≤ 65536) && vKind (kindV b off))) := rfl
 rw [hd]
 clear hd hk hn
 refine uQ 600 _ ?_
 with_reducible refine sx1 hw ?_
 cases hb : typB b with
 | false =>
  exact ⟨fun h => absurd h (by decide), fun _ => rfl⟩
 | true =>
  refine ⟨fun _ => ⟨fun h => q0a (q6c _) ?_, fun h => ?_⟩, fun h => absurd rfl h⟩
  · refine gQ ?_
    rw [decide_eq_true (show b.length ≤ 65536 by omega)]; rfl
  rw [decide_eq_false (show ¬ b.length ≤ 65536 by omega)]; rfl
end Go.Proofs.YtcjehhejgimmdaaGreatDoor
