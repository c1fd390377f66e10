/- A part of the proof: a symbolic executor over abstract values, and its soundness. -/
import Derived.Test.YtoeieekegmmdkaaGreatDoorP14
import Derived.RangeFuncRecord
set_option linter.unusedSimpArgs false
set_option linter.unusedVariables false
set_option linter.unusedSectionVars false
namespace Go.Sx
open Go

variable {P : Program} {AQ : Ex → List SV → List SObj → Prop} {k0 : Nat} {k : List IT} {t : List SV} {H : List SObj}

def VCallZ (q : Nat → Prop) (w0 : World) (P : Program) (f : FuncId) (args : List SV) (H : List SObj) (K : Out → List SObj → Prop) : Prop :=
 ∀ (C : Cx) (vs : List Value), Wd C H → ZInv q w0 C H → SV.denL C args vs → Calls P f vs.toArray C.w fun e w' => ∃ o H' C', K o H' ∧ C'.w = w' ∧ Wd C' H' ∧ Ext ⟨C, H⟩ C' H' ∧ outDen C' o e
theorem VCallZ.g {q : Nat → Prop} {w0 : World} {f : FuncId} {args : List SV} {K : Out → List SObj → Prop} (h : VCallZ q w0 P f args H K) : @VCallG (frzG q w0) P f args H K :=
 fun E C vs hw hg hv => (h C vs hw hg hv).mono fun _ _ ⟨o, H', C', k, e, w, x, r⟩ => ⟨o, H', C', k, e, w, @Stp.of (frzG q w0) E C C' H H' x, r⟩
theorem ZInv.nil {q : Nat → Prop} {w0 : World} {C : Cx} (h : ZInv q w0 C H) : ZInv q w0 { C with n := 0 } [] := fun b hb => by
 obtain ⟨h1, h2, h3, h4⟩ := h b hb
 exact ⟨h1, h2, fun ⟨i, o, ho, _⟩ => by simp at ho, h4⟩
def Ty.flat : Ty → Bool
 | .slice _ => false
 | .prod a b => a.flat && b.flat
 | _ => true
def RowK (ty : Ty) (xs : List ty.den) : Out → List SObj → Prop := fun o H' => (xs = [] ∧ o = .ret (.raw (.slice none 0 0)) ∧ H' = []) ∨ (o = .ret (.bld 0 ty xs.length) ∧ H' = [.row ty xs])
theorem rowK_nil {ty : Ty} {xs : List ty.den} {H' : List SObj} (h : xs = []) : Weak 0 (RowK ty xs) (.ret (.raw (.slice none 0 0))) H' :=
 ⟨fun h => h, .raw (.slice none 0 0), .raw (.slice none 0 0), [], ⟨⟨rfl, trivial⟩, trivial, rfl, rfl, rfl, rfl, Nat.le_refl _, fun _ h0 => absurd h0 (Nat.lt_irrefl 0)⟩, .inl (.inl rfl), .inl ⟨h, rfl, rfl⟩⟩
theorem rowK_row {ty : Ty} {xs : List ty.den} {H' : List SObj} {h n : Nat} (hH : H'[h]? = some (.row ty xs)) (hn : n = xs.length) : Weak 0 (RowK ty xs) (.ret (.bld h ty n)) H' := by
 subst hn
 exact ⟨fun _ => h, .bld 0 ty xs.length, .bld 0 ty xs.length, [.row ty xs], ⟨⟨rfl, trivial⟩, ⟨hH, trivial⟩, rfl, rfl, rfl, rfl, Nat.zero_le _, fun _ h0 => absurd h0 (Nat.lt_irrefl 0)⟩, .inl (.inl rfl), .inr ⟨rfl, rfl⟩⟩
end Go.Sx
namespace Go.Sx
open Go

variable {P : Program} {AQ : Ex → List SV → List SObj → Prop} {k0 : Nat} {k : List It} {t : List SV} {H : List SObj}

@[reducible] def frzN (q : Nat → Prop) (w0 : World) (N : Nat) : Ghost where
 inv := fun E C H => E.C.w.heap.size ≤ N ∧ ZInv q w0 C H
 fin := fun E _ _ ds => ds = E.base ∧ True
 toFin := fun _ => ⟨rfl, trivial⟩
 next := fun {E _ _ _ _} hx h => ⟨h.1, (frzG q w0).next (E := E) hx h.2⟩
 same := fun {E _ _ _ _} hw e hk hi ho hm hl h => ⟨h.1, (frzG q w0).same (E := E) hw e hk hi ho hm hl h.2⟩

theorem Ty.cells_rel {C : Cx} : ∀ (t : Ty) (x : t.den) (vs : List Value), t.ok x → SV.denL C (t.cells x) vs → t.rel C.I C.w x vs
 | .u8, _, _, _, h => by simp only [Ty.cells, SV.denL, SV.den] at h; obtain ⟨v, us, rfl, rfl, rfl⟩ := h; rfl
 | .int _, _, _, _, h => by simp only [Ty.cells, SV.denL, SV.den] at h; obtain ⟨v, us, rfl, rfl, rfl⟩ := h; rfl
 | .bool, _, _, _, h => by simp only [Ty.cells, SV.denL, SV.den] at h; obtain ⟨v, us, rfl, rfl, rfl⟩ := h; rfl
 | .str, _, _, ho, h => by simp only [Ty.cells, SV.denL, SV.den] at h; obtain ⟨v, us, rfl, rfl, rfl⟩ := h; exact ⟨rfl, ho⟩
 | .slice t, _, _, _, h => by simp only [Ty.cells, SV.denL, SV.den] at h; obtain ⟨v, us, rfl, h, rfl⟩ := h; exact h
 | .prod a b, x, vs, ho, h => by
  obtain ⟨v1, v2, rfl, h1, h2⟩ := denL_append.1 h
  exact ⟨v1, v2, rfl, a.cells_rel _ _ ho.1 h1, b.cells_rel _ _ ho.2 h2⟩
 | .unit, _, _, _, h => by simpa [Ty.cells, SV.denL, Ty.rel] using h

end Go.Sx
namespace Go.Sx
open Go

variable {P : Program} {AQ : Ex → List SV → List SObj → Prop} {k0 : Nat} {k : List It} {t : List SV} {H : List SObj}

structure C2P where
 f : FuncId
 p : Nat
 d0 : Nat
 d1 : Nat
 d2 : Nat
 d3 : Nat
 d4 : Nat
 d5 : Nat
 T : TypeId
 m : Nat
 zs : List Value
 ty : Ty
 x : ty.den

def needs (o : Oper) (j : Nat) : Prop := ∃ e ∈ o.after, Region.binds .any e = true ∧ e.on = j
structure IsC2 (P : Program) (all : Array Oper) (c : C2P) : Prop where
 size : all.size = 8
 top : ∀ (i : Nat) (o : Oper), all[i]? = some o → ∀ e ∈ o.after, e.on < i
 o0 : ∃ o, all[0]? = some o ∧ o.op = .load c.T (.tmp c.p) ∧ o.dst = some c.d0 ∧ o.guard = none
 o1 : ∃ o cl, all[1]? = some o ∧ o.op = .call cl ∧ cl.callee = .value (.func c.f) ∧ cl.args = #[.tmp c.d0] ∧ o.dst = some c.d1 ∧ o.guard = none ∧ needs o 0
 o2 : ∃ o, all[2]? = some o ∧ o.op = .load c.T (.tmp c.p) ∧ o.dst = some c.d2 ∧ o.guard = none
 o3 : ∃ o cl, all[3]? = some o ∧ o.op = .call cl ∧ cl.callee = .value (.func c.f) ∧ cl.args = #[.tmp c.d2] ∧ o.dst = some c.d3 ∧ o.guard = none ∧ needs o 2
 o4 : ∃ o, all[4]? = some o ∧ o.op = .alloc c.T ∧ o.dst = some c.d4 ∧ o.guard = none
 o5 : ∃ o, all[5]? = some o ∧ o.op = .alloc c.T ∧ o.dst = some c.d5 ∧ o.guard = none
 o6 : ∃ o, all[6]? = some o ∧ o.op = .store c.T (.tmp c.d4) (.tmp c.d1) ∧ o.dst = none ∧ o.guard = none ∧ needs o 4 ∧ needs o 1
 o7 : ∃ o, all[7]? = some o ∧ o.op = .store c.T (.tmp c.d5) (.tmp c.d3) ∧ o.dst = none ∧ o.guard = none ∧ needs o 5 ∧ needs o 3
 ag : aggOf P c.T = some (some c.m)
 zero : (P.info? c.T).bind (fun i => i.zero.map (·.cells.toList)) = some c.zs
 zlen : c.zs.length = c.m
 tsz : c.ty.size = c.m
 en : enters P c.f = true
 nd : [c.p, c.d0, c.d1, c.d2, c.d3, c.d4, c.d5].Nodup

def Far (E : EnD) (C : Cx) (H : List SObj) (b : Nat) : Prop := E.C.w.heap.size ≤ b ∧ b < C.w.heap.size ∧ ¬ C.I b ∧ ¬ OwnB C H b ∧ Unf C.w b
theorem Far.ext {E : EnD} {C C' : Cx} {b : Nat} (h : Far E C H b) (hx : Ext ⟨C, H⟩ C' H) : Far E C' H b ∧ C'.w.heap[b]? = C.w.heap[b]? := by
 obtain ⟨h0, h1, h2, h3, h4⟩ := h
 obtain ⟨g1, g2, g3, g4⟩ := ext_old hx h1 h2 h3
 exact ⟨⟨h0, g1, g2, g3, h4.keep g4⟩, g4⟩

def upd (β : Nat → Bool) (i : Nat) : Nat → Bool := fun j => if j = i then true else β j
structure R2 (c : C2P) (E : EnD) (tm : List SV) (H : List SObj) (β : Nat → Bool) (vs : List Value) (q : Nat → Prop) (b4 b5 : Nat) (C : Cx) (a : Act) : Prop where
 den : @Den noGhost E C tm H a
 f0 : β 0 = true → ∃ ws : List Value, a.tmps[c.d0]? = some (.agg ws.toArray) ∧ SV.denL C (c.ty.cells c.x) ws
 f1 : β 1 = true → a.tmps[c.d1]? = some (.agg vs.toArray) ∧ c.ty.rel q C.w c.x vs ∧ ∀ b, q b → Far E C H b
 f2 : β 2 = true → ∃ ws : List Value, a.tmps[c.d2]? = some (.agg ws.toArray) ∧ SV.denL C (c.ty.cells c.x) ws
 f3 : β 3 = true → ∃ ws : List Value, a.tmps[c.d3]? = some (.agg ws.toArray) ∧ SV.denL C (c.ty.cells c.x) ws
 f4 : β 4 = true → a.tmps[c.d4]? = some (.pointer (some ⟨b4, 0, none⟩)) ∧ Far E C H b4 ∧ (β 1 = true → ¬ q b4) ∧ C.w.heap[b4]? = some (.cells (if β 6 = true then vs else c.zs).toArray c.T (0, 0))
 f5 : β 5 = true → a.tmps[c.d5]? = some (.pointer (some ⟨b5, 0, none⟩)) ∧ Far E C H b5 ∧ (β 1 = true → ¬ q b5) ∧ (β 4 = true → b5 ≠ b4) ∧ ∃ us : List Value, C.w.heap[b5]? = some (.cells us.toArray c.T (0, 0)) ∧ us.length = c.m ∧ (β 7 = true → SV.denL C (c.ty.cells c.x) us)
 i6 : β 6 = true → β 4 = true ∧ β 1 = true
 i7 : β 7 = true → β 5 = true ∧ β 3 = true

variable {c : C2P} {E : EnD} {tm : List SV} {β : Nat → Bool} {vs : List Value} {q : Nat → Prop} {b4 b5 : Nat} {C C' : Cx} {a : Act}

theorem R2.ext (r : R2 c E tm H β vs q b4 b5 C a) (hw : Wd C' H) (hx : Ext ⟨C, H⟩ C' H) : R2 c E tm H β vs q b4 b5 C' a where
 den := ⟨hw, r.den.ext.trans hx, ⟨r.den.defs.1, trivial⟩, denL_evo hx.evo r.den.tmps⟩
 f0 := fun h => by obtain ⟨ws, h1, h2⟩ := r.f0 h; exact ⟨ws, h1, denL_evo hx.evo h2⟩
 f1 := fun h => by
  obtain ⟨h1, h2, h3⟩ := r.f1 h
  exact ⟨h1, Ty.rel_keep (fun b hb => ⟨hb, ((h3 b hb).ext hx).2⟩) _ _ _ h2, fun b hb => ((h3 b hb).ext hx).1⟩
 f2 := fun h => by obtain ⟨ws, h1, h2⟩ := r.f2 h; exact ⟨ws, h1, denL_evo hx.evo h2⟩
 f3 := fun h => by obtain ⟨ws, h1, h2⟩ := r.f3 h; exact ⟨ws, h1, denL_evo hx.evo h2⟩
 f4 := fun h => by
  obtain ⟨h1, h2, h3, h4⟩ := r.f4 h
  exact ⟨h1, (h2.ext hx).1, h3, (h2.ext hx).2.trans h4⟩
 f5 := fun h => by
  obtain ⟨h1, h2, h3, h4, us, h5, h6, h7⟩ := r.f5 h
  exact ⟨h1, (h2.ext hx).1, h3, h4, us, (h2.ext hx).2.trans h5, h6, fun h => denL_evo hx.evo (h7 h)⟩
 i6 := r.i6
 i7 := r.i7

theorem den_put {d : Nat} {v : Value} (h : @Den noGhost E C tm H a) (hd : tm[d]? = some .any) : @Den noGhost E C tm H (a.put (some d) v) := by
 refine ⟨h.wd, h.ext, ⟨h.defs.1, trivial⟩, ?_⟩
 simp only [Act.put, Array.toList_setIfInBounds]
 have h1 := denL_set (i := d) (s := .any) (v := v) h.tmps (by rw [SV.den]; trivial)
 have h2 : tm.set d .any = tm := by
  apply List.ext_getElem?
  intro i
  by_cases e : d = i
  · subst e; rw [List.getElem?_set_self (List.getElem?_eq_some_iff.1 hd).1, hd]
  · rw [List.getElem?_set_ne e]
 rwa [h2] at h1
theorem put_ne {d e : Nat} {v : Value} (h : d ≠ e) : (a.put (some d) v).tmps[e]? = a.tmps[e]? := by
 simp only [Act.put]; exact Array.getElem?_setIfInBounds_ne h

theorem R2.put {i d : Nat} {v : Value} (r : R2 c E tm H β vs q b4 b5 C a) (hnd : [c.p, c.d0, c.d1, c.d2, c.d3, c.d4, c.d5].Nodup) (hi : β i = false) (hd : [c.d0, c.d1, c.d2, c.d3, c.d4, c.d5][i]? = some d) (ht : tm[d]? = some .any) : R2 c E tm H β vs q b4 b5 C (a.put (some d) v) := by
 have key : ∀ (j e : Nat), [c.d0, c.d1, c.d2, c.d3, c.d4, c.d5][j]? = some e → β j = true → (a.put (some d) v).tmps[e]? = a.tmps[e]? := fun j e he hj => put_ne fun h => by
  subst h
  have hnd' : [c.d0, c.d1, c.d2, c.d3, c.d4, c.d5].Nodup := (List.nodup_cons.1 hnd).2
  have h1 := (List.getElem?_eq_some_iff.1 hd).1
  have : i = j := (List.getElem?_inj h1 hnd').1 (hd.trans he.symm)
  subst this
  rw [hi] at hj; cases hj
 refine ⟨den_put r.den ht, fun h => ?_, fun h => ?_, fun h => ?_, fun h => ?_, fun h => ?_, fun h => ?_, r.i6, r.i7⟩
 · obtain ⟨ws, h1, h2⟩ := r.f0 h; exact ⟨ws, (key 0 _ rfl h).trans h1, h2⟩
 · obtain ⟨h1, h2⟩ := r.f1 h; exact ⟨(key 1 _ rfl h).trans h1, h2⟩
 · obtain ⟨ws, h1, h2⟩ := r.f2 h; exact ⟨ws, (key 2 _ rfl h).trans h1, h2⟩
 · obtain ⟨ws, h1, h2⟩ := r.f3 h; exact ⟨ws, (key 3 _ rfl h).trans h1, h2⟩
 · obtain ⟨h1, h2⟩ := r.f4 h; exact ⟨(key 4 _ rfl h).trans h1, h2⟩
 · obtain ⟨h1, h2⟩ := r.f5 h; exact ⟨(key 5 _ rfl h).trans h1, h2⟩

end Go.Sx
namespace Go.Sx
open Go

variable {P : Program} {AQ : Ex → List SV → List SObj → Prop} {k0 : Nat} {k : List It} {t : List SV} {H : List SObj}
variable {c : C2P} {E : EnD} {tm : List SV} {β : Nat → Bool} {vs : List Value} {q : Nat → Prop} {b4 b5 : Nat} {C C' : Cx} {a : Act}

end Go.Sx
namespace Go.Sx
open Go

variable {P : Program} {AQ : Ex → List SV → List SObj → Prop} {k0 : Nat} {k : List It} {t : List SV} {H : List SObj}
variable {c : C2P}

end Go.Sx
namespace Go.Sx
open Go

variable {P : Program} {AQ : Ex → List SV → List SObj → Prop} {k0 : Nat} {k : List It} {t : List SV} {H : List SObj}

structure XI where
 ntmps : Nat
 results : List ResultVar
 pre : List IC
 reg : Array Oper
 post : List IC
end Go.Sx
namespace Go.Sx
open Go

variable {P : Program} {AQ : Ex → List SV → List SObj → Prop} {k0 : Nat} {td : List IT} {t : List SV} {H : List SObj}

end Go.Sx
set_option linter.unusedSectionVars false
namespace Go.Sx
open Go

variable {P : Program} {AQ : Ex → List SV → List SObj → Prop} {k0 : Nat} {k : List It} {t : List SV} {H : List SObj}

def far : Obj → Prop
 | .loop _ => True
 | .deferred _ => True
 | _ => False
def FarAt (w : World) (b : Nat) : Prop := ∃ o, w.heap[b]? = some o ∧ far o
def Perm (E : En) (b : Nat) : Prop := E.C.w.heap.size ≤ b ∨ OwnB E.C E.H b
def unmk : SObj → SObj
 | .mark _ => .dead
 | o => o
theorem unmk_live {o : SObj} : (unmk o).live = true ↔ o.live = true := by cases o <;> simp [unmk, SObj.live]
theorem unmk_of {o : SObj} (h : o.live = true) : unmk o = o := by cases o <;> first | rfl | simp [SObj.live] at h
open Classical in
noncomputable def rowOf (S : Nat → Prop) (b : Nat) : Option Nat := if S b then some b else none
noncomputable def startE (um : Bool) (S : Nat → Prop) (C : Cx) (H : List SObj) : EnD :=
 { C := { C with ρ := fun h => if h < C.n then C.ρ h else rowOf S (h - C.n) }, H := (if um then H.map unmk else H) ++ List.replicate C.w.heap.size (.row .u8 []), base := [] }
theorem startE_own {um : Bool} {S : Nat → Prop} {C : Cx} {b : Nat} (hn : C.n = H.length) : OwnB (startE um S C H).C (startE um S C H).H b ↔ OwnB C H b ∨ (S b ∧ b < C.w.heap.size) := by
 have hlen : (if um then H.map unmk else H).length = H.length := by cases um <;> simp
 constructor
 · rintro ⟨h, o, ho, hl, hb⟩
   simp only [startE] at ho hb
   rcases Nat.lt_or_ge h H.length with hh | hh
   · rw [List.getElem?_append_left (by rw [hlen]; exact hh)] at ho
     rw [if_pos (by omega)] at hb
     cases um
     · exact .inl ⟨h, o, ho, hl, hb⟩
     · simp only [if_true, List.getElem?_map, Option.map_eq_some_iff] at ho
       obtain ⟨o', ho', rfl⟩ := ho
       exact .inl ⟨h, o', ho', unmk_live.1 hl, hb⟩
   · rw [List.getElem?_append_right (by rw [hlen]; exact hh), hlen] at ho
     rw [if_neg (by omega)] at hb
     have h1 := (List.getElem?_eq_some_iff.1 ho).1
     rw [List.length_replicate] at h1
     unfold rowOf at hb
     split at hb
     · rename_i hS
       cases hb
       rw [hn]
       exact .inr ⟨hn ▸ hS, h1⟩
     · cases hb
 · rintro (⟨h, o, ho, hl, hb⟩ | ⟨hS, hb⟩)
   · have hh := (List.getElem?_eq_some_iff.1 ho).1
     refine ⟨h, o, ?_, hl, ?_⟩
     · simp only [startE]
       rw [List.getElem?_append_left (by rw [hlen]; exact hh)]
       cases um
       · exact ho
       · simp only [if_true, List.getElem?_map, ho, Option.map_some, unmk_of hl]
     · simp only [startE]
       rw [if_pos (by omega)]; exact hb
   · refine ⟨H.length + b, .row .u8 [], ?_, rfl, ?_⟩
     · simp only [startE]
       rw [List.getElem?_append_right (by rw [hlen]; omega), hlen, Nat.add_sub_cancel_left, List.getElem?_replicate, if_pos hb]
     · simp only [startE]
       rw [if_neg (by omega), hn, Nat.add_sub_cancel_left]
       unfold rowOf
       rw [if_pos hS]
theorem startE_evo {um : Bool} {S : Nat → Prop} {C C' : Cx} (h : Evo (startE um S C H).C C') : Evo C C' :=
 ⟨h.n, fun x hx => (h.ρ x hx).trans (if_pos hx), h.I, h.sz⟩
theorem ext_start {E : En} {um : Bool} {S : Nat → Prop} {C C' : Cx} {H' : List SObj} (hw : Wd C H) (hx : Ext E C H) (hS : ∀ b, S b → Perm E b) (hu : um = true → ∀ n, E.H[0]? ≠ some (.mark n)) (k : Ext (startE um S C H) C' H') : Ext E C' H' := by
 have hown : ∀ b, OwnB (startE um S C H).C (startE um S C H).H b → Perm E b := fun b hb => ((startE_own hw.n).1 hb).elim (hx.ownNew b) fun h => hS b h.1
 refine ⟨hx.evo.trans (startE_evo k.evo), Nat.le_trans hx.size k.size, k.os.trans hx.os, k.tape.trans hx.tape, k.output.trans hx.output, fun b h1 h2 => ?_, fun b hb => ?_, fun b hb => ?_, fun m h0 hm => ?_⟩
 · exact (k.frame b (Nat.lt_of_lt_of_le h1 hx.size) fun ho => (hown b ho).elim (fun x => absurd h1 (Nat.not_lt.2 x)) h2).trans (hx.frame b h1 h2)
 · rcases k.immNew b hb with g | ⟨g, u⟩
   · exact orMap (hx.immNew b g) id fun ⟨x, u⟩ => ⟨x, u.keep (k.evo.I b g).2⟩
   · exact .inr ⟨g.elim (fun x => .inl (Nat.le_trans hx.size x)) (hown b), u⟩
 · exact (k.ownNew b hb).elim (fun x => .inl (Nat.le_trans hx.size x)) (hown b)
 · have h1 := hx.keep0 m h0 hm
   have hn := hw.n
   have hlt : 0 < C.n := Nat.lt_of_lt_of_le h0 hx.evo.n
   cases um with
   | true => exact absurd hm (hu rfl m)
   | false =>
    refine k.keep0 m hlt ?_
    simp only [startE]
    rw [List.getElem?_append_left (by simpa using (show 0 < H.length by omega))]
    exact h1

structure FG where
 um : Bool
 core : EnD → Cx → List SObj → (Nat → Prop) → Prop
 next : ∀ {E C C' H H' S}, Ext ⟨C, H⟩ C' H' → core E C H S → core E C' H' S
 own : ∀ {E C C' H H' S}, Wd C H → C'.w = C.w → (∀ b, C.I b → C'.I b) → (∀ b, C'.I b → C.I b ∨ OwnB C H b) → (∀ b, OwnB C' H' b → OwnB C H b ∨ (E.C.w.heap.size ≤ b ∧ ¬ S b)) → (∀ n, 0 < E.C.n → H[0]? = some (.mark n) → H'[0]? = some (.mark n)) → E.C.n ≤ C'.n → core E C H S → core E C' H' S
 perm : ∀ {E C H S b}, core E C H S → S b → Perm E.toEn b ∧ ¬ C.I b ∧ ¬ OwnB C H b ∧ b < C.w.heap.size
 abide : ∀ {E C H S w' I'}, core E C H S → C.w.heap.size ≤ w'.heap.size → (∀ b, b < C.w.heap.size → (b < E.C.w.heap.size ∨ S b ∨ C.I b ∨ OwnB C H b) → w'.heap[b]? = C.w.heap[b]?) → (∀ b, C.I b → w'.heap[b]? = C.w.heap[b]?) → w'.os = C.w.os → w'.tape = C.w.tape → w'.output = C.w.output →
  (∀ b m, World.bsize C.w b = some m → World.bsize w' b = some m) → (∀ b, C.I b → I' b) → (∀ b, I' b → C.I b ∨ (E.C.w.heap.size ≤ b ∧ ¬ S b ∧ ¬ OwnB C H b ∧ Unf w' b)) → core E { C with w := w', I := I' } H S
 lo : ∀ {E C H S b}, core E C H S → S b → FarAt C.w b → b < E.C.w.heap.size
 start : ∀ {E C H S}, Wd C H → core E C H S → core (startE um S C H) C H S
 back : ∀ {E C H S C' H' S'}, Wd C H → core E C H S → Ext (startE um S C H) C' H' → core (startE um S C H) C' H' S' → core E C' H' S'
 unm : ∀ {E C H S}, um = true → core E C H S → ∀ n, E.H[0]? ≠ some (.mark n)
 base : ∀ {E C H S} (ds : List Deferred), core E C H S → core { E with base := ds } C H S

theorem MarkOk.far {E : En} {C : Cx} {D : Nat} (h : MarkOk E C H D) : FarAt C.w D := ⟨_, h.at_, trivial⟩
theorem MarkOk.next {E : En} {C C' : Cx} {H' : List SObj} {D : Nat} (hx : Ext ⟨C, H⟩ C' H') (h : MarkOk E C H D) : MarkOk E C' H' D := by
 have hlt : D < C.w.heap.size := (Array.getElem?_eq_some_iff.1 h.at_).1
 refine ⟨h.sz, fun hi => ?_, fun ho => ?_, (hx.frame D hlt h.own).trans h.at_⟩
 · exact (hx.immNew D hi).elim h.imm fun ⟨x, _⟩ => x.elim (fun x => absurd hlt (Nat.not_lt.2 x)) h.own
 · exact (hx.ownNew D ho).elim (fun x => absurd hlt (Nat.not_lt.2 x)) h.own
theorem MarkOk.same {E : En} {C C' : Cx} {H' : List SObj} {D : Nat} (e : C'.w = C.w) (hi : ∀ b, C'.I b → C.I b ∨ OwnB C H b) (ho : ∀ b, OwnB C' H' b → OwnB C H b) (h : MarkOk E C H D) : MarkOk E C' H' D :=
 ⟨h.sz, fun x => (hi D x).elim h.imm h.own, fun x => h.own (ho D x), by rw [e]; exact h.at_⟩

@[reducible] def fgG (g : FG) : Ghost where
 inv := fun E C H => ∃ S, g.core E C H S
 fin := fun E C H ds => ds = E.base ∧ ∃ S, g.core E C H S
 toFin := fun h => ⟨rfl, h⟩
 next := fun hx ⟨S, h⟩ => ⟨S, g.next hx h⟩
 same := fun hw e hk hi ho hm hl ⟨S, h⟩ => ⟨S, g.own hw e hk hi (fun b hb => .inl (ho b hb)) hm hl h⟩
end Go.Sx
set_option linter.unusedSectionVars false
namespace Go.Sx
open Go

variable {P : Program} {AQ : Ex → List SV → List SObj → Prop} {k0 : Nat} {k : List It} {t : List SV} {H : List SObj}

@[reducible] def topG (g : FG) (Ds : List Nat) : Ghost where
 inv := fun E C H => (∃ S, g.core E C H S) ∧ Ds.Nodup ∧ ∀ D ∈ Ds, MarkOk E.toEn C H D
 fin := fun E C H ds => ∃ Ds' : List Nat, ds = Ds'.map markD ++ E.base ∧ (∃ S, g.core E C H S) ∧ (Ds' ++ Ds).Nodup ∧ ∀ D ∈ Ds' ++ Ds, MarkOk E.toEn C H D
 toFin := fun h => ⟨[], rfl, h.1, by simpa using h.2.1, by simpa using h.2.2⟩
 next := fun hx h => ⟨(fgG g).next hx h.1, h.2.1, fun D hD => (h.2.2 D hD).next hx⟩
 same := fun hw e hk hi ho hm hl h => ⟨(fgG g).same hw e hk hi ho hm hl h.1, h.2.1, fun D hD => (h.2.2 D hD).same e hi ho⟩
 rd := fun r => r = none
 rd0 := rfl

def Pins (L : List (Nat × Obj)) (C : Cx) (H : List SObj) (S : Nat → Prop) : Prop := ∀ x ∈ L, ¬ C.I x.1 ∧ ¬ OwnB C H x.1 ∧ ¬ S x.1 ∧ C.w.heap[x.1]? = some x.2 ∧ far x.2
theorem Pins.next {L : List (Nat × Obj)} {S : Nat → Prop} {C C' : Cx} {H' : List SObj} (hx : Ext ⟨C, H⟩ C' H') (h : Pins L C H S) : Pins L C' H' S := fun x hxL => by
 obtain ⟨h1, h2, hS, h3, h4⟩ := h x hxL
 have hlt : x.1 < C.w.heap.size := (Array.getElem?_eq_some_iff.1 h3).1
 refine ⟨fun hi => ?_, fun ho => ?_, hS, (hx.frame _ hlt h2).trans h3, h4⟩
 · exact (hx.immNew _ hi).elim h1 fun ⟨y, _⟩ => y.elim (fun y => absurd hlt (Nat.not_lt.2 y)) h2
 · exact (hx.ownNew _ ho).elim (fun y => absurd hlt (Nat.not_lt.2 y)) h2
theorem Pins.same {L : List (Nat × Obj)} {S : Nat → Prop} {C C' : Cx} {H' : List SObj} (e : C'.w = C.w) (hi : ∀ b, C'.I b → C.I b ∨ OwnB C H b) (ho : ∀ b, OwnB C' H' b → OwnB C H b) (h : Pins L C H S) : Pins L C' H' S := fun x hxL => by
 obtain ⟨h1, h2, hS, h3, h4⟩ := h x hxL
 exact ⟨fun y => (hi _ y).elim h1 h2, fun y => h2 (ho _ y), hS, by rw [e]; exact h3, h4⟩
@[reducible] def pinG (g : FG) (L : List (Nat × Obj)) : Ghost where
 inv := fun E C H => ∃ S, g.core E C H S ∧ Pins L C H S
 fin := fun E C H ds => ds = E.base ∧ ∃ S, g.core E C H S ∧ Pins L C H S
 toFin := fun h => ⟨rfl, h⟩
 next := fun hx ⟨S, h⟩ => ⟨S, g.next hx h.1, h.2.next hx⟩
 same := fun hw e hk hi ho hm hl ⟨S, h⟩ => ⟨S, g.own hw e hk hi (fun b hb => .inl (ho b hb)) hm hl h.1, h.2.same e hi ho⟩

structure FJ (B : Nat) (J : Nat → (Nat → Prop) → World → (Nat → Prop) → Prop) : Prop where
 abide : ∀ {m S w I w' I'}, J m S w I → w.heap.size ≤ w'.heap.size → (∀ b, b < w.heap.size → (b < B ∨ S b ∨ I b) → w'.heap[b]? = w.heap[b]?) → (∀ b, I b → w'.heap[b]? = w.heap[b]?) → w'.os = w.os → w'.tape = w.tape → w'.output = w.output →
  (∀ b m, World.bsize w b = some m → World.bsize w' b = some m) → (∀ b, I b → I' b) → (∀ b, I' b → I b ∨ (B ≤ b ∧ ¬ S b ∧ Unf w' b)) → J m S w' I'
 fp : ∀ {m S w I b}, J m S w I → S b → ¬ I b ∧ b < w.heap.size
 lo : ∀ {m S w I b}, J m S w I → S b → FarAt w b → b < B
structure YCore (B : Nat) (J : Nat → (Nat → Prop) → World → (Nat → Prop) → Prop) (E : EnD) (C : Cx) (H : List SObj) (S : Nat → Prop) : Prop where
 pos : 0 < E.C.n
 n : E.C.n ≤ C.n
 unm : ∀ n, E.H[0]? ≠ some (.mark n)
 lo : B ≤ E.C.w.heap.size
 sz : E.C.w.heap.size ≤ C.w.heap.size
 own : ∀ b, OwnB C H b → Perm E.toEn b ∧ B ≤ b
 st : ∃ m, H[0]? = some (.mark m) ∧ J m S C.w C.I
 fp : ∀ b, S b → Perm E.toEn b ∧ ¬ OwnB C H b
end Go.Sx
set_option linter.unusedSectionVars false
namespace Go.Sx
open Go

variable {P : Program} {AQ : Ex → List SV → List SObj → Prop} {k0 : Nat} {k : List It} {t : List SV} {H : List SObj}

structure Fr (Q : Nat → Prop) (C C' : Cx) : Prop where
 size : C.w.heap.size ≤ C'.w.heap.size
 os : C'.w.os = C.w.os
 tape : C'.w.tape = C.w.tape
 output : C'.w.output = C.w.output
 keep : Keeps C.I C'.I C.w C'.w
 sz : ∀ b m, World.bsize C.w b = some m → World.bsize C'.w b = some m
 frame : ∀ b, b < C.w.heap.size → ¬ Q b → C'.w.heap[b]? = C.w.heap[b]?
 imm : ∀ b, C'.I b → C.I b ∨ ((C.w.heap.size ≤ b ∨ Q b) ∧ Unf C'.w b)
theorem Fr.trans {Q Q' : Nat → Prop} {C C' C'' : Cx} (h : Fr Q C C') (k : Fr Q' C' C'') (hq : ∀ b, Q' b → C.w.heap.size ≤ b ∨ Q b) : Fr Q C C'' where
 size := Nat.le_trans h.size k.size
 os := k.os.trans h.os
 tape := k.tape.trans h.tape
 output := k.output.trans h.output
 keep := h.keep.trans k.keep
 sz := fun b m hm => k.sz b m (h.sz b m hm)
 frame := fun b hb hn => (k.frame b (Nat.lt_of_lt_of_le hb h.size) fun h' => (hq b h').elim (fun x => absurd hb (Nat.not_lt.2 x)) hn).trans (h.frame b hb hn)
 imm := fun b hb => by
  rcases k.imm b hb with x | ⟨x, u⟩
  · exact orMap (h.imm b x) id fun ⟨y, u⟩ => ⟨y, u.keep (k.keep b x).2⟩
  · exact .inr ⟨x.elim (fun y => .inl (Nat.le_trans h.size y)) (hq b), u⟩
theorem Fr.mono {Q Q' : Nat → Prop} {C C' : Cx} (h : Fr Q C C') (hq : ∀ b, Q b → Q' b) : Fr Q' C C' where
 size := h.size
 os := h.os
 tape := h.tape
 output := h.output
 keep := h.keep
 sz := h.sz
 frame := fun b hb hn => h.frame b hb fun x => hn (hq b x)
 imm := fun b hb => orMap (h.imm b hb) id fun ⟨y, u⟩ => ⟨orMap y id (hq b), u⟩
structure Rnd (S : Nat → Prop) (C C' : Cx) (H H' : List SObj) (S' : Nat → Prop) : Prop where
 evo : Evo C C'
 fr : Fr (fun b => S b ∨ OwnB C H b) C C'
 own : ∀ b, OwnB C' H' b → OwnB C H b
 fp : ∀ b, S' b → (C.w.heap.size ≤ b ∨ S b ∨ OwnB C H b) ∧ ¬ OwnB C' H' b

end Go.Sx
set_option linter.unusedSectionVars false
namespace Go.Sx
open Go

variable {P : Program} {AQ : Ex → List SV → List SObj → Prop} {k0 : Nat} {k : List It} {t : List SV} {H : List SObj}

def putL : List Tmp → List SV → List SV → List SV
 | p :: ps, s :: l, t => putL ps l (t.set p s)
 | _, _, t => t
theorem Fr.congr {Q : Nat → Prop} {A A' B B' : Cx} (h : Fr Q A B) (e1 : A'.w = A.w) (i1 : ∀ b, A'.I b ↔ A.I b) (e2 : B'.w = B.w) (i2 : ∀ b, B'.I b ↔ B.I b) : Fr Q A' B' where
 size := by rw [e1, e2]; exact h.size
 os := by rw [e1, e2]; exact h.os
 tape := by rw [e1, e2]; exact h.tape
 output := by rw [e1, e2]; exact h.output
 keep := fun b hb => ⟨(i2 b).2 (h.keep b ((i1 b).1 hb)).1, by rw [e1, e2]; exact (h.keep b ((i1 b).1 hb)).2⟩
 sz := by rw [e1, e2]; exact h.sz
 frame := by rw [e1, e2]; exact h.frame
 imm := fun b hb => by rw [e1, e2]; exact (h.imm b ((i2 b).1 hb)).imp (i1 b).2 id
structure Cal (g : FG) (E : EnD) (Ds : List Nat) (t : List SV) (tms : List Value) (l : Nat) (o : Obj) (C : Cx) (H : List SObj) (S : Nat → Prop) : Prop where
 wd : Wd C H
 ext : Ext E.toEn C H
 core : g.core E C H S
 tmps : SV.denL C t tms
 marks : ∀ D ∈ Ds, MarkOk E.toEn C H D
 lne : l ∉ Ds
 lsz : E.C.w.heap.size ≤ l
 limm : ¬ C.I l
 lown : ¬ OwnB C H l
 lat : C.w.heap[l]? = some o
 lfar : far o
def calS (Ds : List Nat) (l : Nat) (C : Cx) (H : List SObj) (S : Nat → Prop) (b : Nat) : Prop := OwnB C H b ∨ S b ∨ b = l ∨ b ∈ Ds
variable {g : FG} {E : EnD} {Ds : List Nat} {tms : List Value} {l : Nat} {o : Obj} {C : Cx} {S : Nat → Prop}

theorem Cal.fp (h : Cal g E Ds t tms l o C H S) {b : Nat} (hb : calS Ds l C H S b) : ¬ C.I b ∧ b < C.w.heap.size := by
 rcases hb with x | x | x | x
 · exact h.wd.own b x
 · exact ⟨(g.perm h.core x).2.1, (g.perm h.core x).2.2.2⟩
 · subst x; exact ⟨h.limm, (Array.getElem?_eq_some_iff.1 h.lat).1⟩
 · exact ⟨(h.marks b x).imm, (Array.getElem?_eq_some_iff.1 (h.marks b x).at_).1⟩
theorem Cal.abide {B : Nat} {w' : World} {I' : Nat → Prop} (h : Cal g E Ds t tms l o C H S) (hB : E.C.w.heap.size ≤ B) (hs : C.w.heap.size ≤ w'.heap.size) (hf : ∀ b, b < C.w.heap.size → (b < B ∨ calS Ds l C H S b ∨ C.I b) → w'.heap[b]? = C.w.heap[b]?)
 (h1 : w'.os = C.w.os) (h2 : w'.tape = C.w.tape) (h3 : w'.output = C.w.output) (hz : ∀ b m, World.bsize C.w b = some m → World.bsize w' b = some m) (hI : ∀ b, C.I b → I' b) (hI' : ∀ b, I' b → C.I b ∨ (B ≤ b ∧ ¬ calS Ds l C H S b ∧ Unf w' b)) (hlt : ∀ b, I' b → b < w'.heap.size) :
 Cal g E Ds t tms l o { C with w := w', I := I' } H S := by
 have hk : Keeps C.I I' C.w w' := fun b hb => ⟨hI b hb, hf b (h.wd.imm b hb) (.inr (.inr hb))⟩
 have he : Evo C { C with w := w', I := I' } := ⟨Nat.le_refl _, fun _ _ => rfl, hk, hz⟩
 refine ⟨⟨h.wd.n, fun x o ho => ?_, fun b hb => ?_, h.wd.inj, hlt⟩, ⟨h.ext.evo.trans he, Nat.le_trans h.ext.size hs, h1.trans h.ext.os, h2.trans h.ext.tape, h3.trans h.ext.output, fun b hb hn => ?_, fun b hb => ?_, h.ext.ownNew, h.ext.keep0⟩, ?_, denL_evo he h.tmps, fun D hD => ?_, h.lne, h.lsz, ?_, h.lown, ?_, h.lfar⟩
 · by_cases hl : o.live = true
   · exact objDen_evo (C' := { C with w := w', I := I' }) hk x rfl (fun b hb => hf b (h.wd.own b ⟨x, o, ho, hl, hb⟩).2 (.inr (.inl (.inl ⟨x, o, ho, hl, hb⟩)))) (denL_evo he) (h.wd.obj x o ho)
   · cases o <;> first | trivial | simp [SObj.live] at hl
 · have := h.wd.own b hb
   exact ⟨fun hi => (hI' b hi).elim this.1 fun y => y.2.1 (.inl hb), Nat.lt_of_lt_of_le this.2 hs⟩
 · exact (hf b (Nat.lt_of_lt_of_le hb h.ext.size) (.inl (Nat.lt_of_lt_of_le hb hB))).trans (h.ext.frame b hb hn)
 · rcases hI' b hb with x | x
   · exact orMap (h.ext.immNew b x) id fun ⟨y, u⟩ => ⟨y, u.keep (hk b x).2⟩
   · exact .inr ⟨.inl (Nat.le_trans hB x.1), x.2.2⟩
 · refine g.abide h.core hs (fun b hb hc => hf b hb ?_) (fun b hb => (hk b hb).2) h1 h2 h3 hz hI fun b hb => orMap (hI' b hb) id fun x => ⟨Nat.le_trans hB x.1, fun y => x.2.1 (.inr (.inl y)), fun y => x.2.1 (.inl y), x.2.2⟩
   rcases hc with x | x | x | x
   · exact .inl (Nat.lt_of_lt_of_le x hB)
   · exact .inr (.inl (.inr (.inl x)))
   · exact .inr (.inr x)
   · exact .inr (.inl (.inl x))
 · have m := h.marks D hD
   exact ⟨m.sz, fun hi => (hI' D hi).elim m.imm fun y => y.2.1 (.inr (.inr (.inr hD))), m.own, (hf D (Array.getElem?_eq_some_iff.1 m.at_).1 (.inr (.inl (.inr (.inr (.inr hD)))))).trans m.at_⟩
 · exact fun hi => (hI' l hi).elim h.limm fun y => y.2.1 (.inr (.inr (.inl rfl)))
 · exact (hf l (Array.getElem?_eq_some_iff.1 h.lat).1 (.inr (.inl (.inr (.inr (.inl rfl)))))).trans h.lat
end Go.Sx
set_option linter.unusedSectionVars false
namespace Go.Sx
open Go

variable {P : Program} {AQ : Ex → List SV → List SObj → Prop} {k0 : Nat} {k : List It} {t : List SV} {H : List SObj}
variable {g : FG} {E : EnD} {Ds : List Nat} {tms : List Value} {l : Nat} {o : Obj} {C C' : Cx} {H' : List SObj} {S S' : Nat → Prop}

def calL (Ds : List Nat) (l : Nat) (o : Obj) : List (Nat × Obj) := (l, o) :: Ds.map fun D => (D, .deferred (some []))
theorem Cal.run (h : Cal g E Ds t tms l o C H S) (hx : Ext (startE g.um S C H).toEn C' H') (hw : Wd C' H') (hcore : g.core (startE g.um S C H) C' H' S') (hp : Pins (calL Ds l o) C' H' S') : Cal g E Ds t tms l o C' H' S' := by
 obtain ⟨q1, q2, q3, q4, q5⟩ := hp (l, o) (by simp [calL])
 refine ⟨hw, ext_start h.wd h.ext (fun b hb => (g.perm h.core hb).1) (fun hu => g.unm hu h.core) hx, g.back h.wd h.core hx hcore, denL_evo (startE_evo hx.evo) h.tmps, fun D hD => ?_, h.lne, h.lsz, q1, q2, q4, q5⟩
 obtain ⟨p1, p2, p3, p4, p5⟩ := hp (D, .deferred (some [])) (by simp [calL]; exact .inr hD)
 exact ⟨(h.marks D hD).sz, p1, p2, p4⟩

def RQ (Hs : Nat → List SObj → Prop) (X : Nat → Ex → List SObj → Prop) (i : Nat) : Ex → List SV → List SObj → Prop
 | .normal, _, H' => Hs (i + 1) H'
 | .ret, _, H' => X i .ret H'
 | .exit id, _, H' => X i (.exit id) H'
 | .pan _, _, _ => False
structure RfOk (P : Program) (g : FG) (ps : Array Tmp) (assign body : Code) (t : List SV) (N : Nat) (vw : Nat → Nat → List SV → List SObj → Prop) (Hs : Nat → List SObj → Prop) (X : Nat → Ex → List SObj → Prop) : Prop where
 len : ∀ i n args' new, vw i n args' new → args'.length = ps.size
 round : ∀ i Hi args' new, i < N → Hs i Hi → vw i Hi.length args' new → ∀ L1 L2, ∃ Φ, (∀ t' H', Φ t' H' → @Sound (pinG g L2) P (RQ Hs X i) ⟨H'.length, [.code body], t', H'⟩) ∧
  @Sound (pinG g L1) P (fun _ _ _ => False) ⟨(Hi ++ new).length, [.code assign, .stop Φ], putL ps.toList args' t, Hi ++ new⟩
@[reducible] def rfRec (fn : FuncId) (us : Array Value) (ps : Array Tmp) (assign body : Code) (D : Nat) (st : LoopState) (pe : Option Code) : Loop := { state := st, pending := pe, fn, tmps := us, params := ps, assign, body, defers := D }

end Go.Sx
set_option linter.unusedSectionVars false
set_option maxHeartbeats 4000000
namespace Go.Sx
open Go

variable {P : Program} {AQ : Ex → List SV → List SObj → Prop} {k0 : Nat} {k : List It} {t : List SV} {H : List SObj}
variable {g : FG} {Ds : List Nat}

end Go.Sx
set_option linter.unusedSectionVars false
namespace Go.Sx
open Go

variable {P : Program} {AQ : Ex → List SV → List SObj → Prop} {k0 : Nat} {k : List IT} {t : List SV} {H : List SObj}
variable {g : FG} {Ds : List Nat}

theorem size_nil0 : (#[] : Array Value).size = 0 := rfl
attribute [go_sem] size_nil0
theorem callI_rowK [Ghost] {f : FuncId} {args : List SV} {ty : Ty} {xs : List ty.den} {d : Option Tmp} {td : List IT} (hp : VC P f args [] (RowK ty xs)) (hb : SV.belL 0 args = true) (hargs : args = SV.renL (sig [] H.length) args)
 (h0 : xs = [] → SoundI P AQ ⟨k0, td, putT t d (.raw (.slice none 0 0)), H⟩) (h : SoundI P AQ ⟨k0, td, putT t d (.bld H.length ty xs.length), H ++ [.row ty xs]⟩) : CallI P AQ f args d ⟨k0, td, t, H⟩ := by
 refine ⟨hp.1, VCall.g ?_⟩
 rw [hargs]
 refine VCall.fr (H0 := []) [] (by simp) trivial hb rfl hp.2 ?_
 rintro o H' _ (⟨e, rfl, rfl⟩ | ⟨rfl, rfl⟩)
 · simp only [mgA, List.map_nil, List.append_nil]; exact h0 e
 · exact h
theorem si_frzc [Ghost] (d h : Nat) {T : TypeId} {ty : Ty} {x : ty.den} {td : List IT} (hp : plainT td = true) (hok : ty.ok x) (hH : H[h]? = some (.cells T (ty.cells x))) (hd : t[d]? = some (.ptr h 0)) (hs : SoundI P AQ ⟨k0, td, t.set d (.iptr ty x 0), H.set h .dead⟩) :
 SoundI P AQ ⟨k0, td, t, H⟩ := soundI_plain (fun td' hr E r n C a h0 hden => by
 have h1 := soundI_get hs hr
 obtain ⟨b, vs, hb, hcell, hvs⟩ := hden.wd.obj h _ hH
 have hown : OwnB C H b := ⟨h, _, hH, rfl, hb⟩
 obtain ⟨hnI, hlt⟩ := hden.wd.own b hown
 have hoff : ∀ b', OwnB C (H.set h .dead) b' → OwnB C H b' ∧ b' ≠ b := by
  rintro b' ⟨i, o, ho, hl, hb'⟩
  by_cases e : h = i
  · subst e
    rw [List.getElem?_set_self (List.getElem?_eq_some_iff.1 hH).1] at ho
    cases ho; simp [SObj.live] at hl
  · rw [List.getElem?_set_ne e] at ho
    refine ⟨⟨i, o, ho, hl, hb'⟩, fun e' => ?_⟩
    subst e'
    exact e (hden.wd.inj h i _ o b' hH ho rfl hl hb hb')
 let C' : Cx := { C with I := fun b' => C.I b' ∨ b' = b }
 have he : Evo C C' := ⟨Nat.le_refl _, fun _ _ => rfl, fun b' hb' => ⟨.inl hb', rfl⟩, fun _ _ hm => hm⟩
 have hw : Wd C' (H.set h .dead) := by
  refine ⟨by simp [C', hden.wd.n], fun i o ho => ?_, fun b' hb' => ?_, fun i i' o o' b' h1 h2 h3 h4 h5 h6 => ?_, fun b' hb' => ?_⟩
  · by_cases e : h = i
    · subst e
      rw [List.getElem?_set_self (List.getElem?_eq_some_iff.1 hH).1] at ho
      cases ho; trivial
    · rw [List.getElem?_set_ne e] at ho
      exact objDen_evo he.I i rfl (fun _ _ => rfl) (denL_evo he) (hden.wd.obj i o ho)
  · obtain ⟨g1, g2⟩ := hoff b' hb'
    have := hden.wd.own b' g1
    exact ⟨fun hi => hi.elim this.1 g2, this.2⟩
  · have key : ∀ {i : Nat} {o : SObj}, (H.set h .dead)[i]? = some o → o.live = true → H[i]? = some o := fun {i o} ho hl => by
     by_cases e : h = i
     · subst e
       rw [List.getElem?_set_self (List.getElem?_eq_some_iff.1 hH).1] at ho
       cases ho; simp [SObj.live] at hl
     · rwa [List.getElem?_set_ne e] at ho
    exact hden.wd.inj i i' o o' b' (key h1 h3) (key h2 h4) h3 h4 h5 h6
  · exact hb'.elim (hden.wd.imm b') fun e => e ▸ hlt
 have hmk : ∀ n, H[0]? = some (.mark n) → (H.set h .dead)[0]? = some (.mark n) := fun n hn => keep_set hH rfl hn
 have hx : Ext E.toEn C' (H.set h .dead) := by
  refine ⟨hden.ext.evo.trans he, hden.ext.size, hden.ext.os, hden.ext.tape, hden.ext.output, hden.ext.frame, fun b' hb' => ?_, fun b' hb' => hden.ext.ownNew b' (hoff b' hb').1, fun n h0 hn => hmk n (hden.ext.keep0 n h0 hn)⟩
  rcases hb' with hb' | rfl
  · exact hden.ext.immNew b' hb'
  · exact .inr ⟨hden.ext.ownNew b' hown, own_unf (C := C) hden.wd hown⟩
 have hg : Ghost.inv E C' (H.set h .dead) := Ghost.same (C := C) (C' := C') hden.wd rfl (fun b' hb' => .inl hb') (fun b' (hb' : C.I b' ∨ b' = b) => hb'.elim .inl fun e => .inr (by subst e; exact hown)) (fun b' hb' => (hoff b' hb').1) (fun n _ hn => hmk n hn) hden.ext.evo.n hden.defs.2
 refine h1 E r n C' a h0 ⟨hw, hx, ⟨hden.defs.1, hg⟩, ?_⟩
 have ht := denL_evo he hden.tmps
 obtain ⟨v, hv, hdv⟩ := denL_get ht hd
 rw [SV.den] at hdv
 obtain ⟨_, b', hb', rfl⟩ := hdv
 have e : b' = b := by have : C.ρ h = some b' := hb'; rw [hb] at this; exact (Option.some.inj this).symm
 subst e
 have hi : (SV.iptr ty x 0).den C' (.pointer (some ⟨b', 0, none⟩)) := by
  rw [SV.den]
  exact ⟨b', 0, vs, rfl, .inr rfl, ty.cells_rel _ _ hok (denL_evo he hvs), fun j u hj => by rw [Nat.zero_add]; show C.w.cell? _ = _; rw [cell_of_cells hcell]; exact hj⟩
 have h9 := denL_set (i := d) ht hi
 have e9 : a.tmps.toList.set d (.pointer (some ⟨b', 0, none⟩)) = a.tmps.toList := by
  apply List.ext_getElem?
  intro j
  by_cases ej : d = j
  · subst ej; rw [List.getElem?_set_self (List.getElem?_eq_some_iff.1 hv).1, hv]
  · rw [List.getElem?_set_ne ej]
 rwa [e9] at h9) hp

end Go.Sx
set_option linter.unusedSectionVars false
namespace Go.Sx
open Go

variable [Ghost] {P : Program} {AQ : Ex → List SV → List SObj → Prop} {k0 : Nat} {k : List IT} {k' : List It} {t : List SV} {H : List SObj}
variable {all : Array Oper} {G : List Nat} {o : Oper} {ev : Operand → SV} {K : Out → List SObj → Prop}

end Go.Sx
namespace Go.Sx
open Go

variable {P : Program} {AQ : Ex → List SV → List SObj → Prop} {k0 : Nat} {td : List IT} {t : List SV} {H : List SObj}

end Go.Sx
set_option linter.unusedSectionVars false
namespace Go.Sx
open Go

variable {P : Program} {AQ : Ex → List SV → List SObj → Prop} {k0 : Nat} {k : List IT} {t : List SV} {H : List SObj}

theorem callI_inl {f : FuncId} {fi : FI} {args : List SV} {d : Option Tmp} (h : finfo P f = some fi)
 (hs : @SoundI noGhost P (retF P fi.results (@opK noGhost P AQ k0 k t d)) ⟨H.length, [.ic fi.code], args ++ List.replicate (fi.ntmps - args.length) .any, H⟩) : @CallI noGhost P AQ f args d ⟨k0, k, t, H⟩ := (vc_fi h hs).g
end Go.Sx
/- Contracts: messages: the data, what is valid. -/
namespace Go.Proofs.YtoeieekegmmdkaaGreatDoor
open Go Go.Sx Go.Proofs
set_option maxRecDepth 100000
set_option maxHeartbeats 4000000
set_option linter.unusedSimpArgs false

abbrev PreT : Ty := .prod I64 (.slice .u8)
abbrev TickT : Ty := .prod PrinT KeyT
abbrev ReqT : Ty := .prod I64 (.prod (.slice PreT) (.prod (.int .u32) (.prod PrinT (.prod PrinT (.prod I64 (.prod I64 (.prod I64 (.prod I64 (.prod (.slice I64) (.prod (.slice PreT) (.slice TickT)))))))))))
abbrev FailT : Ty := .prod I64 (.prod I64 (.prod I64 (.prod PrinT (.prod PrinT (.prod .str (.slice PreT))))))
abbrev Pre := PreT.den
abbrev Tick := TickT.den
abbrev Req := ReqT.den
abbrev Fail := FailT.den
def mIn (lo hi v : Int) : Bool := decide (lo ≤ v) && decide (v ≤ hi)
theorem mbtw_c (v lo hi : Int) : PC Tryz.prog 16 [rI v, rI lo, rI hi] (rB (mIn lo hi v)) := by
 refine pc_of rfl rfl ?_
 refine runE mixed fi16 ?_
 grind [mIn]
def vTime (t : Int) : Bool := mIn 0 1099511627776 t
theorem mtime_c (v : Int) : PC Tryz.prog 47 [rI v] (rB (vTime v)) := by
 refine pc_of rfl rfl ?_
 refine runE mixed fi47 ?_
 refine callI_pure (mbtw_c _ _ _) ?_
 refine goE mixed ?_
 rfl
def noN (p : Prin) : Bool := decide (p.1.length = 0) && decide (p.2 = ⟨#[]⟩)
theorem noName_c (p : Prin) : PC Tryz.prog 42 [.agg (PrinT.cells p)] (rB (noN p)) := by
 refine pc_of rfl rfl ?_
 refine runE mixed fi42 ?_
 grind [noN]
def partN (k : Int) : Int := if k = 12 then 26 else if k = 10 then 25 else 0
def partU (k : Int) : Int := if k = 12 then 8 else if k = 10 then 3 else 0
def vKind (k : Int) : Bool := decide (k = 12) || decide (k = 10)
theorem partOf_c (k : Int) : PC Tryz.prog 81 [rI k] (.tup [rI (partN k), rI (partU k), rB (vKind k)]) := by
 refine pc_of rfl rfl ?_
 refine runE mixed fi81 ?_
 grind [partN, partU, vKind]
theorem vkind_c (k : Int) : PC Tryz.prog 44 [rI k] (rB (vKind k)) := by
 refine pc_of rfl rfl ?_
 refine runE mixed fi44 ?_
 refine callI_pure (partOf_c k) ?_
 refine goE mixed ?_; trivial
def vPre1 (p : Pre) : Bool := mIn 0 2147483647 p.1 && decide ((p.2.length : Int) ≤ 16384)
def preAt (l : List Pre) (j : Nat) : Bool := vPre1 (l.getD j PreT.dflt)
def vPre (l : List Pre) : Bool := decide ((l.length : Int) ≤ 16) && allN l.length (preAt l)
theorem vpre_c (l : List Pre) : PC Tryz.prog 45 [.isl PreT l] (rB (vPre l)) := by
 refine pc_of rfl rfl ?_
 refine runE mixed fi45 ?_
 refine ⟨fun h => ?_, fun h => ?_⟩
 · unfold vPre; rw [decide_eq_false (by omega)]; rfl
 have h16 : decide ((l.length : Int) ≤ 16) = true := decide_eq_true (by omega)
 refine si_cntD (fun i => [(10, .raw (.int .i64 ((i : Nat) : Int)))]) (l.length) (fun j => (preAt l) j = true) (by first | decide | simp) (fun i => rfl) ?_ fun i hi hall => ?_
 · (with_reducible refine sxE ?_ <;> try exact True.intro)
   all_goals (try rfl)
 have hwr : IntKind.i64.wrap ((i : Int) + 1) = ((i + 1 : Nat) : Int) := wrap_succ (by omega)
 refine goE mixed ?_
 have bad : i < (l.length) → (preAt l) i = false → allN (l.length) (preAt l) = false := fun hlt hv => allN_false hlt hv
 have fin : ¬ i < (l.length) → allN (l.length) (preAt l) = true := fun h => allN_true fun j hj => hall j (by omega)
 try dsimp only at bad fin hall
 refine ⟨fun hlt => ⟨⟨by omega, hlt⟩, callI_pure (mbtw_c _ _ _) ?_⟩, fun hge => ?_⟩
 · have hd : preAt l i = (mIn 0 2147483647 (l.getD i PreT.dflt).1 && decide (((l.getD i PreT.dflt).2.length : Int) ≤ 16384)) := rfl
   refine goE mixed ?_
   refine ⟨fun h1 => ⟨fun h2 => ?_, fun h2 => ⟨hlt, next_all hall (by rw [hd, h1, decide_eq_true (by omega)]; rfl), ⟨[_], rfl⟩, ?_⟩⟩, fun h1 => ?_⟩
   · unfold vPre; rw [bad hlt (by rw [hd, decide_eq_false (by omega), Bool.and_false]), Bool.and_false]
   · with_reducible refine sx1 hwr ?_; trivial
   · unfold vPre; rw [bad hlt (by rw [hd, h1]; rfl), Bool.and_false]
 · unfold vPre; rw [h16, fin hge]; rfl
def andU (a f : Int) : Int := IntKind.u32.wrap ((BitVec.ofInt 32 a &&& BitVec.ofInt 32 f).toNat : Nat)
theorem has_c (a f : Int) : PC Tryz.prog 82 [.raw (.int .u32 a), .raw (.int .u32 f)] (rB (decide (andU a f = f))) := by
 refine pc_of rfl rfl ?_
 refine runE mixed fi82 ?_
 rfl
def vOpt (f : Int) : Bool := decide (andU 2031807 f = f)
theorem opts_c (f : Int) : PC Tryz.prog 46 [.raw (.int .u32 f)] (rB (vOpt f)) := by
 refine pc_of rfl rfl ?_
 refine runE mixed fi46 ?_
 refine callI_pure (has_c _ _) ?_
 refine goE mixed ?_
 rfl
def keysI (l : List Int) : Nat → List Value
 | 0 => []
 | i + 1 => match findI (.int .i64 (l.getD i (Ty.dflt I64))) (keysI l i) with
  | some _ => keysI l i
  | none => keysI l i ++ [.int .i64 (l.getD i (Ty.dflt I64))]
theorem keysI_none {l : List Int} {i : Nat} (h : findI (.int .i64 (l.getD i (Ty.dflt I64))) (keysI l i) = none) : keysI l (i + 1) = keysI l i ++ [.int .i64 (l.getD i (Ty.dflt I64))] := by rw [keysI, h]
theorem keysI_some {l : List Int} {i j : Nat} (h : findI (.int .i64 (l.getD i (Ty.dflt I64))) (keysI l i) = some j) : keysI l (i + 1) = keysI l i := by rw [keysI, h]
def AllI (vs : List Value) : Prop := ∀ v ∈ vs, ∃ c, v = .int .i64 c
def prfAt (l : List Int) (j : Nat) : Bool := mIn 0 2147483647 (l.getD j (Ty.dflt I64))
def vProf (l : List Int) : Bool := decide (1 ≤ (l.length : Int)) && (decide ((l.length : Int) ≤ 16) && (allN l.length (prfAt l) && decide (((keysI l l.length).length : Int) = l.length)))
theorem vprof_c (l : List Int) : PC Tryz.prog 48 [.isl I64 l] (rB (vProf l)) := by
 refine pc_of rfl rfl ?_
 refine runE mixed fi48 ?_
 refine ⟨fun h1 => ⟨fun h2 => ?_, fun h2 => ?_⟩, fun h1 => ?_⟩
 · unfold vProf; rw [decide_eq_false (show ¬ (l.length : Int) ≤ 16 by omega)]; simp
 rotate_left
 · unfold vProf; rw [decide_eq_false (by omega)]; rfl
 have hv : vProf l = (allN l.length (prfAt l) && decide (((keysI l l.length).length : Int) = l.length)) := by
  unfold vProf; rw [decide_eq_true (show 1 ≤ (l.length : Int) by omega), decide_eq_true (show (l.length : Int) ≤ 16 by omega)]; rfl
 rw [hv]
 clear hv
 refine si_loopX (ι := Nat × List Value × List SObj) (fun x => [(17, rI x.1)]) (fun x => .map (some .i64) (keysI l x.1) x.2.1 :: x.2.2) (fun x => l.length - x.1) (fun x => x.1 ≤ l.length ∧ x.2.1.length = (keysI l x.1).length ∧ AllI x.2.1 ∧ ∀ j, j < x.1 → prfAt l j = true) (0, [], []) ⟨Nat.zero_le _, rfl, by simp [AllI], fun j hj => absurd hj (Nat.not_lt_zero j)⟩ rfl ?_ ?_
 · with_reducible refine sxE ?_; trivial
 rintro ⟨i, vs, G⟩ ⟨hi, hvl, hint, hall⟩
 dsimp only at hi hvl hint hall
 refine goaE mixed ?_
 refine ⟨fun hlt => ⟨⟨by omega, hlt⟩, callI_pure (mbtw_c _ _ _) ?_⟩, fun hge => ?_⟩
 · have hp : prfAt l i = mIn 0 2147483647 (l.getD i (Ty.dflt I64)) := rfl
   cases hf : findI (.int .i64 (l.getD i (Ty.dflt I64))) (keysI l i) with
   | none =>
    refine run_sound mixed 600 _ ?_
    simp (maxSteps := 3000000) only [hf, List.append_assoc, getA, getA0, setA, setA0, List.length_append, Nat.add_assoc, go_sem, ↓zA, ↓reduceIte, ↓reduceDIte, reduceCtorEq, Nat.reduceAdd, Nat.reduceSub, Nat.reduceLeDiff, Nat.reduceLT, Nat.reduceEqDiff, Nat.reduceBEq, Nat.reduceMul, Int.reduceToNat, Int.reduceEq, Int.reduceLT, Int.reduceLE] <;> try simp only [zB]
    refine ⟨fun hb => ?_, fun hb => ⟨(i + 1, vs ++ [.int .i64 (IntKind.i64.wrap (0 + 1))], G), ⟨hlt, by rw [keysI_none hf, List.length_append, List.length_append, hvl]; simp, ?_, next_all hall (hp.trans hb)⟩, by dsimp only; omega, by dsimp only; rw [keysI_none hf], ?_⟩⟩
    · rw [allN_false hlt (hp.trans hb)]; rfl
    · intro v hv
      rcases List.mem_append.1 hv with h | h
      · exact hint v h
      · exact ⟨_, List.mem_singleton.1 h⟩
    · with_reducible refine sxE ?_
      rw [wrap_succ (by omega)]
   | some j =>
    obtain ⟨hj, _⟩ := findI_lt hf
    obtain ⟨c, hc⟩ := hint _ (getD_mem (d := undef) (show j < vs.length by omega))
    refine run_sound mixed 600 _ ?_
    simp (maxSteps := 3000000) only [hf, hc, List.append_assoc, getA, getA0, setA, setA0, List.length_append, Nat.add_assoc, go_sem, ↓zA, ↓reduceIte, ↓reduceDIte, reduceCtorEq, Nat.reduceAdd, Nat.reduceSub, Nat.reduceLeDiff, Nat.reduceLT, Nat.reduceEqDiff, Nat.reduceBEq, Nat.reduceMul, Int.reduceToNat, Int.reduceEq, Int.reduceLT, Int.reduceLE] <;> try simp only [zB]
    refine ⟨fun hb => ?_, fun hb => ⟨(i + 1, vs.set j (.int .i64 (IntKind.i64.wrap (c + 1))), G), ⟨hlt, by rw [keysI_some hf, List.length_set, hvl], ?_, next_all hall (hp.trans hb)⟩, by dsimp only; omega, by dsimp only; rw [keysI_some hf], ?_⟩⟩
    · rw [allN_false hlt (hp.trans hb)]; rfl
    · intro v hv
      rcases List.mem_or_eq_of_mem_set hv with h | h
      · exact hint v h
      · exact ⟨_, h⟩
    · with_reducible refine sxE ?_
      rw [wrap_succ (by omega)]
 · obtain rfl : i = l.length := by omega
   rw [allN_true hall]; rfl
def sReq (r : Req) (va vt : Bool) : Bool := vKind r.1 && (vPre r.2.1 && (vOpt r.2.2.1 && ((if r.1 = 10 then vPrin r.2.2.2.1 else noN r.2.2.2.1) && (vPrin r.2.2.2.2.1 && (vTime r.2.2.2.2.2.1 && (vTime r.2.2.2.2.2.2.1 && (vTime r.2.2.2.2.2.2.2.1 && (mIn 0 4294967295 r.2.2.2.2.2.2.2.2.1 && (vProf r.2.2.2.2.2.2.2.2.2.1 && (va && vt))))))))))
theorem sreq_c (r : Req) (va vt : Bool) (ho : ReqT.ok r) (ha : PC Tryz.prog 49 [.isl PreT r.2.2.2.2.2.2.2.2.2.2.1] (rB va)) (ht : PC Tryz.prog 50 [.isl TickT r.2.2.2.2.2.2.2.2.2.2.2] (rB vt)) :
 PC Tryz.prog 19 [.agg (ReqT.cells r)] (rB (sReq r va vt)) := by
 obtain ⟨k, pre, opt, cl, sv, fr, ti, re, no, pf, ad, tk⟩ := r
 obtain ⟨_, o2, _, o4, o5, _⟩ := ho
 dsimp only at ha ht o4 o5
 have hs : sReq (k, pre, opt, cl, sv, fr, ti, re, no, pf, ad, tk) va vt = (vKind k && (vPre pre && (vOpt opt && ((if k = 10 then vPrin cl else noN cl) && (vPrin sv && (vTime fr && (vTime ti && (vTime re && (mIn 0 4294967295 no && (vProf pf && (va && vt)))))))))))  := rfl
 rw [hs]
 clear hs
 refine pc_of rfl rfl ?_
 refine runE mixed fi19 ?_
 refine callI_pure (noName_c cl) ?_
 refine goE mixed ?_
 refine ⟨fun h => callI_pure (nvalid_c cl o4) ?_, fun h => ?_⟩
 · rw [if_pos h]
   clear h
   refine goE mixed ?_
   refine callI_pure (vkind_c k) ?_
   refine goE mixed ?_
   refine ⟨fun h1 => ?_, fun h1 => ?_⟩
   rotate_left
   · first | (simp only [Bool.true_and, h1, Bool.false_and, Bool.and_false]; done) | simp [Bool.true_and, h1]
   refine callI_pure (vpre_c pre) ?_
   refine goE mixed ?_
   refine ⟨fun h2 => ?_, fun h2 => ?_⟩
   rotate_left
   · first | (simp only [Bool.true_and, h2, Bool.false_and, Bool.and_false]; done) | simp [Bool.true_and, h2]
   refine callI_pure (opts_c opt) ?_
   refine goE mixed ?_
   refine ⟨fun h3 => ?_, fun h3 => ?_⟩
   rotate_left
   · first | (simp only [Bool.true_and, h3, Bool.false_and, Bool.and_false]; done) | simp [Bool.true_and, h3]
   refine ⟨fun hp => ?_, fun hp => by simp [hp]⟩
   refine callI_pure (nvalid_c sv o5) ?_
   refine goE mixed ?_
   refine ⟨fun h4 => ?_, fun h4 => ?_⟩
   rotate_left
   · first | (simp only [Bool.true_and, h4, Bool.false_and, Bool.and_false]; done) | simp [Bool.true_and, h4]
   refine callI_pure (mtime_c _) ?_
   refine goE mixed ?_
   refine ⟨fun h5 => ?_, fun h5 => ?_⟩
   rotate_left
   · first | (simp only [Bool.true_and, h5, Bool.false_and, Bool.and_false]; done) | simp [Bool.true_and, h5]
   refine callI_pure (mtime_c _) ?_
   refine goE mixed ?_
   refine ⟨fun h6 => ?_, fun h6 => ?_⟩
   rotate_left
   · first | (simp only [Bool.true_and, h6, Bool.false_and, Bool.and_false]; done) | simp [Bool.true_and, h6]
   refine callI_pure (mtime_c _) ?_
   refine goE mixed ?_
   refine ⟨fun h7 => ?_, fun h7 => ?_⟩
   rotate_left
   · first | (simp only [Bool.true_and, h7, Bool.false_and, Bool.and_false]; done) | simp [Bool.true_and, h7]
   refine callI_pure (mbtw_c _ _ _) ?_
   refine goE mixed ?_
   refine ⟨fun h8 => ?_, fun h8 => ?_⟩
   rotate_left
   · first | (simp only [Bool.true_and, h8, Bool.false_and, Bool.and_false]; done) | simp [Bool.true_and, h8]
   refine callI_pure (vprof_c pf) ?_
   refine goE mixed ?_
   refine ⟨fun h9 => ?_, fun h9 => ?_⟩
   rotate_left
   · first | (simp only [Bool.true_and, h9, Bool.false_and, Bool.and_false]; done) | simp [Bool.true_and, h9]
   refine callI_pure (ha) ?_
   refine goE mixed ?_
   refine ⟨fun h10 => ?_, fun h10 => ?_⟩
   rotate_left
   · first | (simp only [Bool.true_and, h10, Bool.false_and, Bool.and_false]; done) | simp [Bool.true_and, h10]
   refine callI_pure (ht) ?_
   refine goE mixed ?_
   simp [*]
 · rw [if_neg h]
   clear h
   refine callI_pure (vkind_c k) ?_
   refine goE mixed ?_
   refine ⟨fun h11 => ?_, fun h11 => ?_⟩
   rotate_left
   · first | (simp only [Bool.true_and, h11, Bool.false_and, Bool.and_false]; done) | simp [Bool.true_and, h11]
   refine callI_pure (vpre_c pre) ?_
   refine goE mixed ?_
   refine ⟨fun h12 => ?_, fun h12 => ?_⟩
   rotate_left
   · first | (simp only [Bool.true_and, h12, Bool.false_and, Bool.and_false]; done) | simp [Bool.true_and, h12]
   refine callI_pure (opts_c opt) ?_
   refine goE mixed ?_
   refine ⟨fun h13 => ?_, fun h13 => ?_⟩
   rotate_left
   · first | (simp only [Bool.true_and, h13, Bool.false_and, Bool.and_false]; done) | simp [Bool.true_and, h13]
   refine ⟨fun hp => ?_, fun hp => by simp [hp]⟩
   refine callI_pure (nvalid_c sv o5) ?_
   refine goE mixed ?_
   refine ⟨fun h14 => ?_, fun h14 => ?_⟩
   rotate_left
   · first | (simp only [Bool.true_and, h14, Bool.false_and, Bool.and_false]; done) | simp [Bool.true_and, h14]
   refine callI_pure (mtime_c _) ?_
   refine goE mixed ?_
   refine ⟨fun h15 => ?_, fun h15 => ?_⟩
   rotate_left
   · first | (simp only [Bool.true_and, h15, Bool.false_and, Bool.and_false]; done) | simp [Bool.true_and, h15]
   refine callI_pure (mtime_c _) ?_
   refine goE mixed ?_
   refine ⟨fun h16 => ?_, fun h16 => ?_⟩
   rotate_left
   · first | (simp only [Bool.true_and, h16, Bool.false_and, Bool.and_false]; done) | simp [Bool.true_and, h16]
   refine callI_pure (mtime_c _) ?_
   refine goE mixed ?_
   refine ⟨fun h17 => ?_, fun h17 => ?_⟩
   rotate_left
   · first | (simp only [Bool.true_and, h17, Bool.false_and, Bool.and_false]; done) | simp [Bool.true_and, h17]
   refine callI_pure (mbtw_c _ _ _) ?_
   refine goE mixed ?_
   refine ⟨fun h18 => ?_, fun h18 => ?_⟩
   rotate_left
   · first | (simp only [Bool.true_and, h18, Bool.false_and, Bool.and_false]; done) | simp [Bool.true_and, h18]
   refine callI_pure (vprof_c pf) ?_
   refine goE mixed ?_
   refine ⟨fun h19 => ?_, fun h19 => ?_⟩
   rotate_left
   · first | (simp only [Bool.true_and, h19, Bool.false_and, Bool.and_false]; done) | simp [Bool.true_and, h19]
   refine callI_pure (ha) ?_
   refine goE mixed ?_
   refine ⟨fun h20 => ?_, fun h20 => ?_⟩
   rotate_left
   · first | (simp only [Bool.true_and, h20, Bool.false_and, Bool.and_false]; done) | simp [Bool.true_and, h20]
   refine callI_pure (ht) ?_
   refine goE mixed ?_
   simp [*]
def txtAt (s : ByteArray) (j : Nat) : Bool := decide (32 ≤ ((s.data.toList.getD j 0).toNat : Int)) && decide (((s.data.toList.getD j 0).toNat : Int) ≤ 126)
def sFail (f : Fail) : Bool := decide ((f.2.2.2.2.2.1.size : Int) ≤ 256) && (allN f.2.2.2.2.2.1.size (txtAt f.2.2.2.2.2.1) && (mIn 0 65535 f.1 && (vTime f.2.1 && (mIn 0 999999 f.2.2.1 && ((noN f.2.2.2.1 || vPrin f.2.2.2.1) && (vPrin f.2.2.2.2.1 && vPre f.2.2.2.2.2.2))))))
theorem sfail_c (f : Fail) (ho : FailT.ok f) : PC Tryz.prog 22 [.agg (FailT.cells f)] (rB (sFail f)) := by
 obtain ⟨c, t, m, cl, sv, x, d⟩ := f
 obtain ⟨_, _, _, o4, o5, o6, _⟩ := ho
 dsimp only at o4 o5 o6
 have hs : sFail (c, t, m, cl, sv, x, d) = (decide ((x.size : Int) ≤ 256) && (allN x.size (txtAt x) && (mIn 0 65535 c && (vTime t && (mIn 0 999999 m && ((noN cl || vPrin cl) && (vPrin sv && vPre d))))))) := rfl
 rw [hs]
 clear hs
 refine pc_of rfl rfl ?_
 refine runE mixed fi22 ?_
 refine ⟨fun h => ?_, fun h => ?_⟩
 · rw [decide_eq_false (by omega)]; rfl
 rw [decide_eq_true (show (x.size : Int) ≤ 256 by omega), Bool.true_and]
 refine si_cntD (fun i => [(11, .raw (.int .i64 ((i : Nat) : Int)))]) (x.size) (fun j => (txtAt x) j = true) (by first | decide | simp) (fun i => rfl) ?_ fun i hi hall => ?_
 · (with_reducible refine sxE ?_ <;> try exact True.intro)
   all_goals (try rfl)
 have hwr : IntKind.i64.wrap ((i : Int) + 1) = ((i + 1 : Nat) : Int) := wrap_succ (by omega)
 refine goE mixed ?_
 have bad : i < (x.size) → (txtAt x) i = false → allN (x.size) (txtAt x) = false := fun hlt hv => allN_false hlt hv
 have fin : ¬ i < (x.size) → allN (x.size) (txtAt x) = true := fun h => allN_true fun j hj => hall j (by omega)
 try dsimp only at bad fin hall
 have hd : txtAt x i = (decide (32 ≤ ((x.data.toList.getD i 0).toNat : Int)) && decide (((x.data.toList.getD i 0).toNat : Int) ≤ 126)) := rfl
 refine ⟨fun hlt => ⟨⟨by omega, hlt⟩, fun h1 => ⟨⟨by omega, hlt⟩, fun h2 => ?_, fun h2 => ?_⟩, fun h1 => ?_⟩, fun hge => ?_⟩
 · rw [bad hlt (by rw [hd, decide_eq_false (show ¬ ((x.data.toList.getD i 0).toNat : Int) ≤ 126 by omega), Bool.and_false])]; rfl
 · refine ⟨hlt, next_all hall (by rw [hd, decide_eq_true (by omega), decide_eq_true (by omega)]; rfl), ⟨[], rfl⟩, ?_⟩
   with_reducible refine sx1 hwr ?_; trivial
 · rw [bad hlt (by rw [hd, decide_eq_false (by omega)]; rfl)]; rfl
 rw [fin hge, Bool.true_and]
 clear hge fin bad hall hwr hd h
 refine callI_pure (mbtw_c _ _ _) ?_
 refine goE mixed ?_
 refine ⟨fun h21 => ?_, fun h21 => ?_⟩
 rotate_left
 · first | (simp only [Bool.true_and, h21, Bool.false_and, Bool.and_false]; done) | simp [Bool.true_and, h21]
 refine callI_pure (mtime_c _) ?_
 refine goE mixed ?_
 refine ⟨fun h22 => ?_, fun h22 => ?_⟩
 rotate_left
 · first | (simp only [Bool.true_and, h22, Bool.false_and, Bool.and_false]; done) | simp [Bool.true_and, h22]
 refine callI_pure (mbtw_c _ _ _) ?_
 refine goE mixed ?_
 refine ⟨fun h23 => ?_, fun h23 => ?_⟩
 rotate_left
 · first | (simp only [Bool.true_and, h23, Bool.false_and, Bool.and_false]; done) | simp [Bool.true_and, h23]
 refine callI_pure (noName_c cl) ?_
 refine goE mixed ?_
 refine ⟨fun h => callI_pure (nvalid_c cl o4) ?_, fun h => ?_⟩
 · rw [h, Bool.false_or]
   refine goE mixed ?_
   refine ⟨fun hp => ?_, fun hp => by simp [hp]⟩
   refine callI_pure (nvalid_c sv o5) ?_
   refine goE mixed ?_
   refine ⟨fun h24 => ?_, fun h24 => ?_⟩
   rotate_left
   · first | (simp only [Bool.true_and, h24, Bool.false_and, Bool.and_false]; done) | simp [Bool.true_and, h24]
   refine callI_pure (vpre_c d) ?_
   refine goE mixed ?_
   simp [*]
 · rw [h, Bool.true_or]
   refine callI_pure (nvalid_c sv o5) ?_
   refine goE mixed ?_
   refine ⟨fun h25 => ?_, fun h25 => ?_⟩
   rotate_left
   · first | (simp only [Bool.true_and, h25, Bool.false_and, Bool.and_false]; done) | simp [Bool.true_and, h25]
   refine callI_pure (vpre_c d) ?_
   refine goE mixed ?_
   simp [*]
end Go.Proofs.YtoeieekegmmdkaaGreatDoor

