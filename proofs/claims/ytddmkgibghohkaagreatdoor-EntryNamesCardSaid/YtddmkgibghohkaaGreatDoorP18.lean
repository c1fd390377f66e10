/- A part of the proof: a symbolic executor over abstract values, and its soundness. -/
import Derived.Test.YtddmkgibghohkaaGreatDoorP17
set_option linter.unusedSimpArgs false
set_option linter.unusedVariables false
set_option linter.unusedSectionVars false
namespace Go.Sx
open Go

variable {P : Program} {AQ : Ex → List SV → List SObj → Prop} {k0 : Nat} {k : List IT} {t : List SV} {H : List SObj}

theorem fi_out {f : FuncId} {fi : FI} (h : finfo P f = some fi) : ∃ fn c, P.funcs[f]? = some fn ∧ fn.body = some c ∧ comp P c = some fi.code ∧ fn.ntmps = fi.ntmps ∧ fn.results.toList = fi.results ∧ enters P f = true := by
 unfold finfo at h
 split at h
 · rename_i fn hf
   split at h
   · rename_i c hb
     split at h
     · rename_i ic hc
       split at h
       · cases h
       · rename_i hn
         cases h
         exact ⟨fn, c, hf, hb, hc, rfl, rfl, by simp [enters, hf, hb]; simpa using hn⟩
     · cases h
   · cases h
 · cases h
theorem calls_fi [Ghost] {f : FuncId} {fi : FI} {args : List SV} {K : Out → List SObj → Prop} {E : EnD} {C : Cx} {vs : List Value} (h : finfo P f = some fi) (hE : E.base = []) (hn : E.C.n ≤ H.length) (hw : Wd C H) (hx : Ext E C H) (hg : Ghost.inv E C H)
 (J : Cx → List SObj → Prop) (hJ : LeaveOk E J)
 (hv : SV.denL C args vs) (hs : SoundI P (retF P fi.results K) ⟨H.length, [.ic fi.code], args ++ List.replicate (fi.ntmps - args.length) .any, H⟩) :
 Calls P f vs.toArray C.w fun e w' => ∃ o H' C', K o H' ∧ C'.w = w' ∧ Wd C' H' ∧ Ext E C' H' ∧ J C' H' ∧ outDen C' o e := by
 obtain ⟨fn, c, hf, hb, hc, h1, h2, _⟩ := fi_out h
 have hq : retQ P fn K = retF P fi.results K := by rw [← h2]; funext e t H; cases e <;> rfl
 exact calls_enter hf hb hE hn hw hx hg J hJ hv (by rw [hq, h1]; exact soundI_get hs ⟨c, [], rfl, hc, rfl⟩)

def VCallZ (q : Nat → Prop) (w0 : World) (P : Program) (f : FuncId) (args : List SV) (H : List SObj) (K : Out → List SObj → Prop) : Prop :=
 ∀ (C : Cx) (vs : List Value), Wd C H → ZInv q w0 C H → SV.denL C args vs → Calls P f vs.toArray C.w fun e w' => ∃ o H' C', K o H' ∧ C'.w = w' ∧ Wd C' H' ∧ Ext ⟨C, H⟩ C' H' ∧ outDen C' o e
def VCZ (q : Nat → Prop) (w0 : World) (P : Program) (f : FuncId) (args : List SV) (H : List SObj) (K : Out → List SObj → Prop) : Prop := enters P f = true ∧ VCallZ q w0 P f args H K
theorem VCallZ.g {q : Nat → Prop} {w0 : World} {f : FuncId} {args : List SV} {K : Out → List SObj → Prop} (h : VCallZ q w0 P f args H K) : @VCallG (frzG q w0) P f args H K :=
 fun E C vs hw hg hv => (h C vs hw hg hv).mono fun _ _ ⟨o, H', C', k, e, w, x, r⟩ => ⟨o, H', C', k, e, w, @Stp.of (frzG q w0) E C C' H H' x, r⟩
theorem vcz_fi {q : Nat → Prop} {w0 : World} {f : FuncId} {fi : FI} {args : List SV} {K : Out → List SObj → Prop} (h : finfo P f = some fi)
 (hs : @SoundI (frzG q w0) P (retF P fi.results K) ⟨H.length, [.ic fi.code], args ++ List.replicate (fi.ntmps - args.length) .any, H⟩) : VCZ q w0 P f args H K := by
 obtain ⟨_, _, _, _, _, _, _, hen⟩ := fi_out h
 refine ⟨hen, fun C vs hw hg hv => ?_⟩
 refine (@calls_fi P H (frzG q w0) f fi args K ⟨⟨C, H⟩, []⟩ C vs h rfl (by rw [hw.n]; exact Nat.le_refl _) hw (Ext.refl _ _) hg (fun _ _ => True) (fun _ _ ds _ _ h => ⟨[], h.1, List.nodup_nil, fun _ h => by simp at h, trivial⟩) hv hs).mono ?_
 rintro e w' ⟨o, H', C', k1, k2, k3, k4, _, k5⟩
 exact ⟨o, H', C', k1, k2, k3, k4, k5⟩
def PCZ (q : Nat → Prop) (w0 : World) (P : Program) (f : FuncId) (args : List SV) (s : SV) : Prop := enters P f = true ∧ ∀ (H : List SObj) (K : Out → List SObj → Prop), K (.ret s) H → VCallZ q w0 P f args H K
theorem ZInv.nil {q : Nat → Prop} {w0 : World} {C : Cx} (h : ZInv q w0 C H) : ZInv q w0 { C with n := 0 } [] := fun b hb => by
 obtain ⟨h1, h2, h3, h4⟩ := h b hb
 exact ⟨h1, h2, fun ⟨i, o, ho, _⟩ => by simp at ho, h4⟩
theorem pcz_seal {q : Nat → Prop} {w0 : World} {f : FuncId} {args : List SV} {s : SV} (ha : SV.cleanL args = true) (hs : s.clean = true) (h : VCZ q w0 P f args [] (SealK s)) : PCZ q w0 P f args s :=
 ⟨h.1, fun H K hk C vs hw hg hv => calls_frame hs hw (calls_shut (C := { C with n := 0 }) hw.nil (h.2 { C with n := 0 } vs hw.nil hg.nil (denL_clean (C := C) (C' := { C with n := 0 }) (Keeps.refl _ _) ha hv))) hk⟩
theorem callZ {q : Nat → Prop} {w0 : World} {f : FuncId} {args : List SV} {s : SV} {d : Option Tmp} {m : IM} (hp : PCZ q w0 P f args s) (h : @SoundI (frzG q w0) P AQ { m with tmps := putT m.tmps d s }) : @CallI (frzG q w0) P AQ f args d m :=
 ⟨hp.1, (hp.2 _ _ h).g⟩

def Ty.flat : Ty → Bool
 | .slice _ => false
 | .prod a b => a.flat && b.flat
 | _ => true
theorem Ty.rel_flat {I I' : Nat → Prop} {w w' : World} : ∀ (t : Ty) (x : t.den) (vs : List Value), t.flat = true → t.rel I w x vs → t.rel I' w' x vs
 | .u8, _, _, _, h => h
 | .int _, _, _, _, h => h
 | .bool, _, _, _, h => h
 | .str, _, _, _, h => h
 | .slice t, _, _, hf, _ => by cases hf
 | .prod a b, x, vs, hf, h => by
  obtain ⟨v1, v2, rfl, h1, h2⟩ := h
  simp only [Ty.flat, Bool.and_eq_true] at hf
  exact ⟨v1, v2, rfl, a.rel_flat _ _ hf.1 h1, b.rel_flat _ _ hf.2 h2⟩
 | .unit, _, _, _, h => h
def Cx.lend (C : Cx) (q : Nat → Prop) : Cx := { C with I := fun b => C.I b ∨ q b, n := 0 }
theorem wd_lend {q : Nat → Prop} {w0 : World} {C : Cx} (hw : Wd C H) (hg : ZInv q w0 C H) : Wd (C.lend q) [] where
 n := rfl
 obj := fun h o ho => by simp at ho
 own := fun b ⟨h, o, ho, _⟩ => by simp at ho
 inj := fun h h' o o' b ho => by simp at ho
 imm := fun b hb => hb.elim (hw.imm b) fun h => (hg b h).1
theorem rel_lend {q : Nat → Prop} {w0 : World} {C : Cx} (hg : ZInv q w0 C H) {t : Ty} {x : t.den} {vs : List Value} (h : t.rel q w0 x vs) : t.rel (C.lend q).I (C.lend q).w x vs :=
 Ty.rel_keep (fun b hb => ⟨.inr hb, (hg b hb).2.2.2⟩) _ _ _ h
def LendA (q : Nat → Prop) (w0 : World) (args args' : List SV) : Prop := ∀ (C : Cx) (H : List SObj) (vs : List Value), ZInv q w0 C H → SV.denL C args vs → SV.denL (C.lend q) args' vs
theorem lend_nil {q : Nat → Prop} {w0 : World} : LendA q w0 [] [] := fun _ _ _ _ h => by rw [denL_nil] at h ⊢; exact h
theorem lend_z {q : Nat → Prop} {w0 : World} {t : Ty} {xs : List t.den} {v : Value} {l l' : List SV} (hv : Sl q w0 t xs v) (h : LendA q w0 l l') : LendA q w0 (.raw v :: l) (.isl t xs :: l') := fun C H vs hg hd => by
 obtain ⟨u, us, rfl, h1, h2⟩ := denL_cons.1 hd
 rw [SV.den] at h1; subst h1
 exact denL_cons.2 ⟨_, us, rfl, by rw [SV.den]; exact rel_lend hg hv, h C H us hg h2⟩
theorem lend_agg {q : Nat → Prop} {w0 : World} {t : Ty} {x : t.den} {ws : List Value} {l l' : List SV} (hv : t.rel q w0 x ws) (h : LendA q w0 l l') : LendA q w0 (.agg (rawL ws) :: l) (.agg (t.cells x) :: l') := fun C H vs hg hd => by
 obtain ⟨u, us, rfl, h1, h2⟩ := denL_cons.1 hd
 rw [SV.den] at h1
 obtain ⟨ws', rfl, h1⟩ := h1
 have := rawL_den_eq h1
 subst this
 exact denL_cons.2 ⟨_, us, rfl, by rw [SV.den]; exact ⟨_, rfl, Ty.cells_den (C := C.lend q) _ _ _ (rel_lend hg hv)⟩, h C H us hg h2⟩
theorem lend_keep {q : Nat → Prop} {w0 : World} {s : SV} {l l' : List SV} (hc : s.clean = true) (h : LendA q w0 l l') : LendA q w0 (s :: l) (s :: l') := fun C H vs hg hd => by
 obtain ⟨u, us, rfl, h1, h2⟩ := denL_cons.1 hd
 exact denL_cons.2 ⟨_, us, rfl, den_clean (C := C) (C' := C.lend q) (fun b hb => ⟨.inl hb, rfl⟩) hc h1, h C H us hg h2⟩

theorem ext_lend {q : Nat → Prop} {w0 : World} {C C1 : Cx} {H1 : List SObj} (hw : Wd C H) (hx : Ext ⟨C.lend q, []⟩ C1 H1) :
 Wd { C with w := C1.w } H ∧ Ext ⟨C, H⟩ { C with w := C1.w } H := by
 have hold : ∀ b, b < C.w.heap.size → C1.w.heap[b]? = C.w.heap[b]? := fun b hb => hx.frame b hb (fun ⟨h, o, ho, _⟩ => by simp at ho)
 exact wd_gr hw hx.size hold hx.os hx.tape hx.output

theorem row_back {q : Nat → Prop} {w0 : World} {C C' : Cx} {ty : Ty} {xs : List ty.den} {n : Nat} {u : Value} (hf : ty.flat = true) (hw : Wd C H) (hw' : Wd C' [.row ty xs]) (hx : Ext ⟨C.lend q, []⟩ C' [.row ty xs]) (hd : (SV.bld 0 ty n).den C' u) :
 ∃ D : Cx, D.w = C'.w ∧ Wd D (H ++ [.row ty xs]) ∧ Ext ⟨C, H⟩ D (H ++ [.row ty xs]) ∧ (SV.bld H.length ty n).den D u := by
 obtain ⟨g1, g2⟩ := ext_lend (q := q) (w0 := w0) hw hx
 let A : Cx := { C with w := C'.w }
 let D : Cx := { A with ρ := fun h => if h = C.n then C'.ρ 0 else C.ρ h, n := C.n + 1 }
 have hown0 : ∀ b, C'.ρ 0 = some b → OwnB C' [.row ty xs] b := fun b hb => ⟨0, _, rfl, rfl, hb⟩
 have hnew : ∀ b, C'.ρ 0 = some b → C.w.heap.size ≤ b := fun b hb => (hx.ownNew b (hown0 b hb)).elim id fun ⟨h, o, ho, _⟩ => by simp at ho
 have hev : Evo A D := ⟨Nat.le_succ _, fun h hh => by
  show (if h = C.n then _ else _) = _
  rw [if_neg (by have : h < C.n := hh; omega)], Keeps.refl _ _, fun _ _ h => h⟩
 have hn : C.n = H.length := hw.n
 have hDn : D.ρ H.length = C'.ρ 0 := by show (if H.length = C.n then _ else _) = _; rw [if_pos hn.symm]
 have hDo : ∀ h, h < H.length → D.ρ h = C.ρ h := fun h hh => by show (if h = C.n then _ else _) = _; rw [if_neg (by omega)]
 have hown : ∀ b, OwnB D (H ++ [.row ty xs]) b → OwnB A H b ∨ C'.ρ 0 = some b := by
  rintro b ⟨h, x, hx', hlx, hb⟩
  rcases get_append_some hx' with ⟨h1, h2⟩ | ⟨h1, h2⟩
  · exact .inl ⟨h, x, h2, hlx, (hDo h h1).symm.trans hb⟩
  · subst h1; exact .inr (hDn.symm.trans hb)
 have hrow : objDen D H.length (.row ty xs) := by
  rcases hw'.obj 0 _ rfl with ⟨h1, h2⟩ | ⟨b, arr, T, fz, h1, h2, h3, h4, h5⟩
  · exact .inl ⟨hDn.trans h1, h2⟩
  · refine .inr ⟨b, arr, T, fz, hDn.trans h1, h2, h3, h4, fun i x hx => ?_⟩
    obtain ⟨us, hu, hc⟩ := h5 i x hx
    exact ⟨us, Ty.rel_flat _ _ _ hf hu, hc⟩
 have hwd : Wd D (H ++ [.row ty xs]) := by
  refine ⟨by simp [D, hn], fun h o ho => ?_, fun b hb => ?_, fun i j o o' b ho ho' hl1 hl2 hb hb' => ?_, g1.imm⟩
  · rcases get_append_some ho with ⟨h1, h2⟩ | ⟨h1, h2⟩
    · by_cases hlv : o.live = true
      · exact objDen_evo hev.I h (hDo h h1) (fun _ _ => rfl) (denL_evo hev) (g1.obj h o h2)
      · cases o <;> first | trivial | simp [SObj.live] at hlv
    · subst h1 h2; exact hrow
  · rcases hown b hb with h1 | h1
    · exact g1.own b h1
    · exact ⟨fun hi => absurd (hw.imm b hi) (by have := hnew b h1; omega), (hw'.own b (hown0 b h1)).2⟩
  · rcases get_append_some ho with ⟨h1, h2⟩ | ⟨h1, h2⟩ <;> rcases get_append_some ho' with ⟨h1', h2'⟩ | ⟨h1', h2'⟩
    · rw [hDo i h1] at hb; rw [hDo j h1'] at hb'
      exact g1.inj i j o o' b h2 h2' hl1 hl2 hb hb'
    · exfalso
      rw [hDo i h1] at hb; rw [h1', hDn] at hb'
      have := (hw.own b ⟨i, o, h2, hl1, hb⟩).2
      have := hnew b hb'
      omega
    · exfalso
      rw [hDo j h1'] at hb'; rw [h1, hDn] at hb
      have := (hw.own b ⟨j, o', h2', hl2, hb'⟩).2
      have := hnew b hb
      omega
    · omega
 have hext : Ext ⟨C, H⟩ D (H ++ [.row ty xs]) :=
  ⟨g2.evo.trans hev, g2.size, g2.os, g2.tape, g2.output, g2.frame, g2.immNew, fun b hb => (hown b hb).elim (fun h1 => g2.ownNew b h1) fun h1 => .inl (hnew b h1), fun m h0 hm => keep_app (g2.keep0 m h0 hm)⟩
 refine ⟨D, rfl, hwd, hext, ?_⟩
 rw [SV.den] at hd ⊢
 refine ⟨by show H.length < C.n + 1; omega, orMap hd.2 (fun ⟨h1, h2⟩ => ⟨hDn.trans h1, h2⟩) fun ⟨b, c, mm, h1, h2⟩ => ⟨b, c, mm, hDn.trans h1, h2⟩⟩

theorem ghostH_own {C : Cx} {q : Nat → Prop} (hn : C.n = H.length) (L : List Nat) (hL : ∀ b, b ∈ L ↔ q b) {b : Nat}
 (h : OwnB { C with ρ := fun h => if h < C.n then C.ρ h else L[h - C.n]? } (H ++ L.map fun _ => SObj.row .u8 []) b) : OwnB C H b ∨ q b := by
 obtain ⟨i, o, ho, hl, hb⟩ := h
 rcases Nat.lt_or_ge i H.length with h1 | h1
 · rw [List.getElem?_append_left h1] at ho
   simp only [if_pos (show i < C.n by omega)] at hb
   exact .inl ⟨i, o, ho, hl, hb⟩
 · simp only [if_neg (show ¬ i < C.n by omega)] at hb
   exact .inr ((hL b).1 (List.mem_of_getElem? hb))
theorem vcs_fi {q : Nat → Prop} {w0 : World} {f : FuncId} {fi : FI} {args : List SV} {K : Out → List SObj → Prop} (h : finfo P f = some fi)
 (hs : @SoundI (scrG q w0) P (retF P fi.results K) ⟨H.length, [.ic fi.code], args ++ List.replicate (fi.ntmps - args.length) .any, H⟩) : @VCG (scrG q w0) P f args H K := by
 obtain ⟨_, _, _, _, _, _, _, hen⟩ := fi_out h
 refine ⟨hen, fun E C vs hw (hg : SInv q w0 E.toEn C H) hv => ?_⟩
 have hdec : DecidablePred q := fun b => Classical.propDecidable (q b)
 have hLex : ∃ L : List Nat, ∀ b, b ∈ L ↔ q b := ⟨(List.range C.w.heap.size).filter (fun b => decide (q b)), fun b => by
  simp only [List.mem_filter, List.mem_range, decide_eq_true_eq]
  exact ⟨fun h => h.2, fun h => ⟨(hg b h).2.1, h⟩⟩⟩
 obtain ⟨L, hL⟩ := hLex
 let C2 : Cx := { C with ρ := fun h => if h < C.n then C.ρ h else L[h - C.n]? }
 let H2 : List SObj := H ++ L.map fun _ => SObj.row .u8 []
 have hn := hw.n
 have hown2 : ∀ b, OwnB C2 H2 b → OwnB C H b ∨ q b := fun b hb => ghostH_own hn L hL hb
 have hqown : ∀ b, q b → OwnB C2 H2 b := fun b hb => by
  obtain ⟨i, hi, rfl⟩ := List.getElem_of_mem ((hL b).2 hb)
  refine ⟨H.length + i, .row .u8 [], ?_, rfl, ?_⟩
  · show (H ++ _)[H.length + i]? = _
    rw [List.getElem?_append_right (Nat.le_add_right _ _), Nat.add_sub_cancel_left, List.getElem?_map, List.getElem?_eq_getElem hi]; rfl
  · show (if H.length + i < C.n then _ else L[H.length + i - C.n]?) = _
    rw [if_neg (by omega), hn, Nat.add_sub_cancel_left, List.getElem?_eq_getElem hi]
 have hx0 : Ext ⟨C2, H2⟩ C H := ⟨⟨Nat.le_refl _, fun h hh => (if_pos (show h < C.n from hh)).symm, Keeps.refl _ _, fun _ _ h => h⟩, Nat.le_refl _, rfl, rfl, rfl, fun _ _ _ => rfl, fun _ h => .inl h, fun b ⟨i, o, ho, hl, hb⟩ => .inr ⟨i, o, by
  show (H ++ _)[i]? = _
  rw [List.getElem?_append_left (List.getElem?_eq_some_iff.1 ho).1]; exact ho, hl, by
  show (if i < C.n then _ else _) = _
  rw [if_pos (by rw [hn]; exact (List.getElem?_eq_some_iff.1 ho).1)]; exact hb⟩, fun m h0 hm => by
  have h0' : 0 < C.n := h0
  rwa [List.getElem?_append_left (by omega)] at hm⟩
 have hg0 : SInv q w0 ⟨C2, H2⟩ C H := fun b hb => ⟨.inr (hqown b hb), (hg b hb).2⟩
 refine (@calls_fi P H (scrG q w0) f fi args K ⟨⟨C2, H2⟩, []⟩ C vs h rfl (by show C.n ≤ _; rw [hn]; exact Nat.le_refl _) hw hx0 hg0 (fun C' H' => SInv q w0 ⟨C2, H2⟩ C' H') (fun _ _ ds _ _ h => ⟨[], h.1, List.nodup_nil, fun _ h => by simp at h, h.2⟩) hv hs).mono ?_
 rintro e w' ⟨o, H', C', k1, k2, k3, k4, (k5 : SInv q w0 ⟨C2, H2⟩ C' H'), k6⟩
 have hevo : Evo C C' := ⟨k4.evo.n, fun h hh => (k4.evo.ρ h hh).trans (if_pos hh), k4.evo.I, k4.evo.sz⟩
 refine ⟨o, H', C', k1, k2, k3, @Stp.mk (scrG q w0) E C H C' H' hevo (fun k => ?_) (fun _ => fun b hb => ⟨(hg b hb).1, (k5 b hb).2⟩), k6⟩
 have hown : ∀ b, OwnB C2 H2 b → E.C.w.heap.size ≤ b ∨ OwnB E.C E.H b := fun b hb => (hown2 b hb).elim (k.ownNew b) fun h => (hg b h).1
 refine ⟨k.evo.trans hevo, Nat.le_trans k.size k4.size, k4.os.trans k.os, k4.tape.trans k.tape, k4.output.trans k.output, fun b h1 h2 => ?_, fun b hb => ?_, fun b hb => ?_, fun m h0 hm => k4.keep0 m (Nat.lt_of_lt_of_le h0 k.evo.n) (keep_app (k.keep0 m h0 hm))⟩
 · exact (k4.frame b (Nat.lt_of_lt_of_le h1 k.size) fun ho => (hown b ho).elim (fun x => absurd h1 (Nat.not_lt.2 x)) h2).trans (k.frame b h1 h2)
 · rcases k4.immNew b hb with g | ⟨g, u⟩
   · exact orMap (k.immNew b g) id fun ⟨x, u⟩ => ⟨x, u.keep (hevo.I b g).2⟩
   · exact .inr ⟨g.elim (fun x => .inl (Nat.le_trans k.size x)) (hown b), u⟩
 · exact (k4.ownNew b hb).elim (fun x => .inl (Nat.le_trans k.size x)) (hown b)
theorem runZ {q : Nat → Prop} {w0 : World} {f : FuncId} {fi : FI} {args : List SV} {K : Out → List SObj → Prop} {r : Prop} (hm : P.follows .mixedOrders = true) (hf : finfo P f = some fi) (h : r)
 (e : @run (frzG q w0) P (retF P fi.results K) 600 ⟨H.length, [.ic fi.code], args ++ List.replicate (fi.ntmps - args.length) .any, H⟩ = r := by (simp (maxSteps := 3000000) only [go_sem, ↓zA, ↓reduceIte, ↓reduceDIte, reduceCtorEq, Nat.reduceAdd, Nat.reduceSub, Nat.reduceLeDiff, Nat.reduceLT, Nat.reduceEqDiff, Nat.reduceBEq, Nat.reduceMul, Int.reduceToNat, Int.reduceEq, Int.reduceLT, Int.reduceLE]; (try simp only [zB]); rfl)) : VCZ q w0 P f args H K := vcz_fi hf (@run_sound (frzG q w0) P _ hm 600 _ (Eq.mpr e h))
theorem runS {q : Nat → Prop} {w0 : World} {f : FuncId} {fi : FI} {args : List SV} {K : Out → List SObj → Prop} {r : Prop} (hm : P.follows .mixedOrders = true) (hf : finfo P f = some fi) (h : r)
 (e : @run (scrG q w0) P (retF P fi.results K) 600 ⟨H.length, [.ic fi.code], args ++ List.replicate (fi.ntmps - args.length) .any, H⟩ = r := by (simp (maxSteps := 3000000) only [go_sem, ↓zA, ↓reduceIte, ↓reduceDIte, reduceCtorEq, Nat.reduceAdd, Nat.reduceSub, Nat.reduceLeDiff, Nat.reduceLT, Nat.reduceEqDiff, Nat.reduceBEq, Nat.reduceMul, Int.reduceToNat, Int.reduceEq, Int.reduceLT, Int.reduceLE]; (try simp only [zB]); rfl)) : @VCG (scrG q w0) P f args H K := vcs_fi hf (@run_sound (scrG q w0) P _ hm 600 _ (Eq.mpr e h))
def RowK (ty : Ty) (xs : List ty.den) : Out → List SObj → Prop := fun o H' => (xs = [] ∧ o = .ret (.raw (.slice none 0 0)) ∧ H' = []) ∨ (o = .ret (.bld 0 ty xs.length) ∧ H' = [.row ty xs])
theorem rowK_nil {ty : Ty} {xs : List ty.den} {H' : List SObj} (h : xs = []) : Weak 0 (RowK ty xs) (.ret (.raw (.slice none 0 0))) H' :=
 ⟨fun h => h, .raw (.slice none 0 0), .raw (.slice none 0 0), [], ⟨⟨rfl, trivial⟩, trivial, rfl, rfl, rfl, rfl, Nat.le_refl _, fun _ h0 => absurd h0 (Nat.lt_irrefl 0)⟩, .inl (.inl rfl), .inl ⟨h, rfl, rfl⟩⟩
theorem rowK_row {ty : Ty} {xs : List ty.den} {H' : List SObj} {h n : Nat} (hH : H'[h]? = some (.row ty xs)) (hn : n = xs.length) : Weak 0 (RowK ty xs) (.ret (.bld h ty n)) H' := by
 subst hn
 exact ⟨fun _ => h, .bld 0 ty xs.length, .bld 0 ty xs.length, [.row ty xs], ⟨⟨rfl, trivial⟩, ⟨hH, trivial⟩, rfl, rfl, rfl, rfl, Nat.zero_le _, fun _ h0 => absurd h0 (Nat.lt_irrefl 0)⟩, .inl (.inl rfl), .inr ⟨rfl, rfl⟩⟩
theorem callZ_rowK {q : Nat → Prop} {w0 : World} {f : FuncId} {args args' : List SV} {ty : Ty} {xs : List ty.den} {d : Option Tmp} {m : IM} (hf : ty.flat = true) (hp : VC P f args' [] (RowK ty xs)) (hl : LendA q w0 args args')
 (h0 : xs = [] → @SoundI (frzG q w0) P AQ { m with tmps := putT m.tmps d (.raw (.slice none 0 0)) })
 (h : @SoundI (frzG q w0) P AQ { m with tmps := putT m.tmps d (.bld m.heap.length ty xs.length), heap := m.heap ++ [.row ty xs] }) : @CallI (frzG q w0) P AQ f args d m := by
 refine ⟨hp.1, fun E C vs hw hg hv => ?_⟩
 refine (hp.2 (C.lend q) vs (wd_lend hw hg) (hl C _ vs hg hv)).mono ?_
 rintro e w' ⟨o, H', C', hk, rfl, hw', hx, hd⟩
 rcases hk with ⟨rfl, rfl, rfl⟩ | ⟨rfl, rfl⟩
 · obtain ⟨u, rfl, hd⟩ := hd
   rw [SV.den] at hd; subst hd
   obtain ⟨g1, g2⟩ := ext_lend (q := q) (w0 := w0) hw hx
   exact ⟨.ret (.raw (.slice none 0 0)), m.heap, { C with w := C'.w }, h0 rfl, rfl, g1, @Stp.of (frzG q w0) E C { C with w := C'.w } m.heap m.heap g2, _, rfl, by rw [SV.den]⟩
 · obtain ⟨u, rfl, hd⟩ := hd
   obtain ⟨D, k1, k2, k3, k4⟩ := row_back (q := q) (w0 := w0) hf hw hw' hx hd
   exact ⟨.ret (.bld m.heap.length ty xs.length), m.heap ++ [SObj.row ty xs], D, h, k1, k2, @Stp.of (frzG q w0) E C D m.heap _ k3, u, rfl, k4⟩
theorem pcz_lend {q : Nat → Prop} {w0 : World} {f : FuncId} {args args' : List SV} {ty : Ty} {xs : List ty.den} (hf : ty.flat = true) (hp : VC P f args' [] (RowK ty xs)) (hl : LendA q w0 args args') (ha : SV.cleanL args = true) (hlen : xs.length ≤ 1125899906842624) : PCZ q w0 P f args (.isl ty xs) := by
 refine pcz_seal ha rfl ⟨hp.1, fun C vs hw hg hv => (hp.2 (C.lend q) vs (wd_lend hw hg) (hl C _ vs hg hv)).mono ?_⟩
 rintro e w' ⟨o, H', C', hk, rfl, hw', hx, hd⟩
 rcases hk with ⟨h0, rfl, rfl⟩ | ⟨rfl, rfl⟩
 · subst h0
   obtain ⟨u, rfl, hd⟩ := hd
   rw [SV.den] at hd; subst hd
   obtain ⟨g1, g2⟩ := ext_lend (q := q) (w0 := w0) hw hx
   exact ⟨.ret (.raw (.slice none 0 0)), [], { C with w := C'.w }, by simp [go_sem], rfl, g1, g2, _, rfl, by rw [SV.den]⟩
 · obtain ⟨u, rfl, hd⟩ := hd
   obtain ⟨D, k1, k2, k3, k4⟩ := row_back (q := q) (w0 := w0) hf hw hw' hx hd
   refine ⟨.ret (.bld 0 ty xs.length), [SObj.row ty xs], D, ?_, k1, k2, k3, u, rfl, k4⟩
   simp [go_sem]
   exact hlen
def PCS (q : Nat → Prop) (w0 : World) (P : Program) (f : FuncId) (args : List SV) (s : SV) : Prop := enters P f = true ∧ ∀ (H : List SObj) (K : Out → List SObj → Prop), K (.ret s) H → @VCallG (scrG q w0) P f args H K
theorem pcs_of {q : Nat → Prop} {w0 : World} {f : FuncId} {args : List SV} {s : SV} (h : ∀ (H : List SObj) (K : Out → List SObj → Prop), K (.ret s) H → @VCG (scrG q w0) P f args H K) : PCS q w0 P f args s :=
 ⟨(h [] (fun _ _ => True) trivial).1, fun H K hk => (h H K hk).2⟩
theorem callS {q : Nat → Prop} {w0 : World} {f : FuncId} {args : List SV} {s : SV} {d : Option Tmp} {m : IM} (hp : PCS q w0 P f args s) (h : @SoundI (scrG q w0) P AQ { m with tmps := putT m.tmps d s }) : @CallI (scrG q w0) P AQ f args d m :=
 ⟨hp.1, hp.2 _ _ h⟩
end Go.Sx
/- Contracts: copies in new memory, of what lies as it lay. -/
namespace Go.Proofs.YtddmkgibghohkaaGreatDoor
open Go Go.Sx Go.Proofs
set_option maxRecDepth 100000
set_option maxHeartbeats 4000000
set_option linter.unusedSimpArgs false

theorem clone_o (l : List ByteArray) (hl : l.length ≤ 8796093022208) : VC Tryz.prog 124 [.isl .str l] [] (RowK .str l) := by
 refine vc_weak ?_
 refine runE mixed fi124 ?_
 intro b hb
 refine ⟨fun h => rowK_nil (hb h), fun h => ⟨⟨by omega, by omega⟩, ?_⟩⟩
 exact rowK_row (h := 1) rfl (by omega)
theorem bclone_o (l : List UInt8) (hl : l.length ≤ 140737488355328) : VC Tryz.prog 194 [.isl .u8 l] [] (RowK .u8 l) := by
 refine vc_weak ?_
 refine runE mixed fi194 ?_
 intro b hb
 refine ⟨fun h => rowK_nil (hb h), fun h => ⟨⟨by omega, by omega⟩, ?_⟩⟩
 exact rowK_row (h := 1) rfl (by omega)
theorem cbytes_o (l : List UInt8) (hl : l.length ≤ 140737488355328) : VC Tryz.prog 52 [.isl .u8 l] [] (RowK .u8 l) := by
 refine vc_weak ?_
 refine runE mixed fi52 ?_
 refine ⟨⟨by omega, by omega⟩, ?_⟩
 exact rowK_row (h := 0) rfl (by omega)

variable {q : Nat → Prop} {w0 : World}
theorem rel_str {x : Ty.str.den} {vs : List Value} (h : Ty.str.rel q w0 x vs) : vs = [.string x] := h.1
theorem rel_int {k : IntKind} {x : (Ty.int k).den} {vs : List Value} (h : (Ty.int k).rel q w0 x vs) : vs = [.int k x] := h
theorem rel_sl {t : Ty} {xs : List t.den} {vs : List Value} (h : (Ty.slice t).rel q w0 xs vs) : ∃ A n c, vs = [.slice A n c] ∧ Sl q w0 t xs (.slice A n c) := by
 obtain ⟨A, n, c, rfl, _⟩ := id h; exact ⟨A, n, c, rfl, h⟩
theorem rel_pr {s t : Ty} {x : (Ty.prod s t).den} {vs : List Value} (h : (Ty.prod s t).rel q w0 x vs) : ∃ v1 v2, vs = v1 ++ v2 ∧ s.rel q w0 x.1 v1 ∧ t.rel q w0 x.2 v2 := h

theorem rel_prin {p : Prin} {vs : List Value} (h : PrinT.rel q w0 p vs) : ∃ A n c, vs = [.slice A n c, .string p.2] ∧ Sl q w0 .str p.1 (.slice A n c) := by
 obtain ⟨v1, v2, rfl, h1, h2⟩ := rel_pr h
 obtain ⟨A, n, c, rfl, h1⟩ := rel_sl h1
 obtain rfl := rel_str h2
 exact ⟨A, n, c, rfl, h1⟩
theorem rel_key {k : Key} {vs : List Value} (h : KeyT.rel q w0 k vs) : ∃ A n c, vs = [.int .i64 k.1, .int .i64 k.2.1, .slice A n c] ∧ Sl q w0 .u8 k.2.2 (.slice A n c) := by
 obtain ⟨v1, v2, rfl, h1, h2⟩ := rel_pr h
 obtain ⟨v3, v4, rfl, h3, h4⟩ := rel_pr h2
 obtain rfl := rel_int h1
 obtain rfl := rel_int h3
 obtain ⟨A, n, c, rfl, h4⟩ := rel_sl h4
 exact ⟨A, n, c, rfl, h4⟩
theorem rel_set {s : KSet} {vs : List Value} (h : SetT.rel q w0 s vs) : ∃ A n c, vs = [.int .i64 s.1, .slice A n c, .string s.2.2.1, .int .i64 s.2.2.2.1, .int .i64 s.2.2.2.2] ∧ Sl q w0 KeyT s.2.1 (.slice A n c) := by
 obtain ⟨v1, v2, rfl, h1, h2⟩ := rel_pr h
 obtain ⟨v3, v4, rfl, h3, h4⟩ := rel_pr h2
 obtain ⟨v5, v6, rfl, h5, h6⟩ := rel_pr h4
 obtain ⟨v7, v8, rfl, h7, h8⟩ := rel_pr h6
 obtain rfl := rel_int h1
 obtain ⟨A, n, c, rfl, h3⟩ := rel_sl h3
 obtain rfl := rel_str h5
 obtain rfl := rel_int h7
 obtain rfl := rel_int h8
 exact ⟨A, n, c, rfl, h3⟩

theorem ncopy_z (p : Prin) {vs : List Value} (hv : PrinT.rel q w0 p vs) (hl : p.1.length ≤ 8796093022208) : PCZ q w0 Tryz.prog 58 [.agg (rawL vs)] (.agg (PrinT.cells p)) := by
 letI : Ghost := frzG q w0
 obtain ⟨A, n, c, rfl, h1⟩ := rel_prin hv
 obtain ⟨p1, p2⟩ := p
 change p1.length ≤ _ at hl
 refine pcz_seal rfl rfl ?_
 refine runZ mixed fi58 ?_ <;> try with_reducible exact True.intro
 refine callZ_rowK rfl (clone_o _ hl) (lend_z h1 lend_nil) (fun h0 => ?_) ?_
 · obtain rfl : _ = [] := h0
   refine goE mixed ?_; trivial
 · refine goE mixed ?_
   exact ⟨⟨Nat.le_refl _, by omega⟩, List.take_of_length_le (Nat.le_refl _)⟩
theorem pcopy_z (k : Key) {vs : List Value} (hv : KeyT.rel q w0 k vs) (hl : k.2.2.length ≤ 140737488355328) : PCZ q w0 Tryz.prog 119 [.agg (rawL vs)] (.agg (KeyT.cells k)) := by
 letI : Ghost := frzG q w0
 obtain ⟨A, n, c, rfl, h1⟩ := rel_key hv
 obtain ⟨k1, k2, k3⟩ := k
 change k3.length ≤ _ at hl
 refine pcz_seal rfl rfl ?_
 refine runZ mixed fi119 ?_ <;> try with_reducible exact True.intro
 refine callZ_rowK rfl (bclone_o _ hl) (lend_z h1 lend_nil) (fun h0 => ?_) ?_
 · obtain rfl : _ = [] := h0
   refine goE mixed ?_; trivial
 · refine goE mixed ?_
   exact ⟨⟨Nat.le_refl _, by omega⟩, List.take_of_length_le (Nat.le_refl _)⟩
end Go.Proofs.YtddmkgibghohkaaGreatDoor
namespace Go.Sx
open Go

variable {P : Program} {AQ : Ex → List SV → List SObj → Prop} {k0 : Nat} {k : List It} {t : List SV} {H : List SObj}

@[reducible] def frzN (q : Nat → Prop) (w0 : World) (N : Nat) : Ghost where
 inv := fun E C H => E.C.w.heap.size ≤ N ∧ ZInv q w0 C H
 fin := fun E _ _ ds => ds = E.base ∧ True
 toFin := fun _ => ⟨rfl, trivial⟩
 next := fun {E _ _ _ _} hx h => ⟨h.1, (frzG q w0).next (E := E) hx h.2⟩
 same := fun {E _ _ _ _} hw e hk hi ho hm hl h => ⟨h.1, (frzG q w0).same (E := E) hw e hk hi ho hm hl h.2⟩

theorem letsOut_mono {Q Q' : Exit → Act → World → Prop} (hq : ∀ e a w, Q e a w → Q' e a w) (h : LetsOut Q) : LetsOut Q' := by
 obtain ⟨a, w, h⟩ := h
 exact ⟨a, w, hq _ _ _ h⟩
theorem oper_mono2 {F : Fence} {n : Nat} {o : Oper} {a : Act} {w : World} {K K' : Act → World → Prop} {Q Q' : Exit → Act → World → Prop} (h : ∀ a w, K a w → K' a w) (hq : ∀ e a w, Q e a w → Q' e a w)
 (hh : o.wpIn F n P a w K Q) : o.wpIn F n P a w K' Q' := by
 unfold Oper.wpIn at *
 refine ⟨hh.1, ?_⟩
 have hh := hh.2
 generalize (o.semAt F.round a.eval).run P w = r at *
 cases r with
 | ok x w' =>
  cases x <;> simp only [Oper.uponIn] at hh ⊢ <;>
   first
    | exact h _ _ hh
    | exact ⟨hh.1, CallsIn.mono hh.2 (fun e w'' he => by cases e <;> first | exact h _ _ he | exact hq _ _ _ he | exact letsOut_mono hq he)⟩
    | exact ⟨hh.1, RowsIn.mono hh.2 (fun _ _ he => h _ _ he)⟩
    | exact ⟨hh.1, RoundIn.mono hh.2 (fun e w'' he => by cases e <;> first | exact h _ _ he | exact hq _ _ _ he | exact letsOut_mono hq he)⟩
 | halt x w' => cases x <;> simp only [Oper.uponIn] at hh ⊢ <;> first | exact hq _ _ _ hh | exact hh
theorem ops_mono2 {F : Fence} {n : Nat} {all : Array Oper} {Q Q' : Exit → Act → World → Prop} (hq : ∀ e a w, Q e a w → Q' e a w) : ∀ (l : List Nat) (a : Act) (w : World), wpOpsIn F n P all Q l a w → wpOpsIn F n P all Q' l a w
 | [], a, w, h => hq _ _ _ h
 | i :: l, a, w, h => by
  unfold wpOpsIn at h ⊢
  split
  · rename_i ho; simp only [ho] at h; exact ops_mono2 hq l a w h
  · rename_i o ho
    simp only [ho] at h
    split
    · rename_i hw; rw [if_pos hw] at h; exact oper_mono2 (fun a w h => ops_mono2 hq l a w h) hq h
    · rename_i hw; rw [if_neg hw] at h; exact ⟨h.1, ops_mono2 hq l _ w h.2⟩

def noStop : List It → Bool
 | [] => true
 | .code _ :: k => noStop k
 | .ops _ _ :: k => noStop k
 | .blk _ :: k => noStop k
 | _ :: _ => false
theorem wpT_ghost {G G' : Ghost} {F : Fence} {n : Nat} {E E' : EnD} {Q Q' : Exit → Act → World → Prop} (hq : ∀ e a w, Q' e a w → Q e a w) : ∀ (k : List It), noStop k = true →
 (∀ a w, @wpT G' F n P E' Q' k a w → @wpT G F n P E Q k a w) ∧ (∀ id a w, @exitT G' F n P E' Q' id k a w → @exitT G F n P E Q id k a w)
 | [], _ => ⟨fun a w h => by simp only [wpT] at h ⊢; exact hq _ _ _ h, fun id a w h => by simp only [exitT] at h ⊢; exact hq _ _ _ h⟩
 | .code c :: k, hs => by
  obtain ⟨h1, h2⟩ := wpT_ghost (G := G) (G' := G') (F := F) (n := n) (E := E) (E' := E') hq k hs
  refine ⟨fun a w h => ?_, fun id a w h => by simp only [exitT] at h ⊢; exact h2 id a w h⟩
  simp only [wpT] at h ⊢
  refine wpIn_mono h fun e a w hh => ?_
  cases e with
  | normal => exact h1 a w hh
  | exit id => exact h2 id a w hh
  | _ => exact hq _ _ _ hh
 | .ops all l :: k, hs => by
  obtain ⟨h1, h2⟩ := wpT_ghost (G := G) (G' := G') (F := F) (n := n) (E := E) (E' := E') hq k hs
  refine ⟨fun a w h => ?_, fun id a w h => by simp only [exitT] at h ⊢; exact h2 id a w h⟩
  simp only [wpT] at h ⊢
  refine ops_mono2 (fun e a w hh => ?_) l a w h
  cases e with
  | normal => exact h1 a w hh
  | exit id => exact h2 id a w hh
  | _ => exact hq _ _ _ hh
 | .blk id' :: k, hs => by
  obtain ⟨h1, h2⟩ := wpT_ghost (G := G) (G' := G') (F := F) (n := n) (E := E) (E' := E') hq k hs
  refine ⟨fun a w h => by simp only [wpT] at h ⊢; exact h1 a w h, fun id a w h => ?_⟩
  simp only [exitT] at h ⊢
  split
  · rw [if_pos (by assumption)] at h; exact h1 a w h
  · rw [if_neg (by assumption)] at h; exact h2 id a w h
theorem conc_ghost {G G' : Ghost} {E : EnD} (hf : ∀ E C H ds, G'.fin E C H ds → G.fin E C H ds) (e : Exit) (a : Act) (w : World) (h : @conc G' E AQ e a w) : @conc G E AQ e a w := by
 cases e with
 | normal => obtain ⟨C, t, H, h1, h2, h3⟩ := h; exact ⟨C, t, H, h1, h2, ⟨h3.wd, h3.ext, hf _ _ _ _ h3.defs, h3.tmps⟩⟩
 | ret => obtain ⟨C, t, H, h1, h2, h3⟩ := h; exact ⟨C, t, H, h1, h2, ⟨h3.wd, h3.ext, hf _ _ _ _ h3.defs, h3.tmps⟩⟩
 | exit id => obtain ⟨C, t, H, h1, h2, h3⟩ := h; exact ⟨C, t, H, h1, h2, ⟨h3.wd, h3.ext, hf _ _ _ _ h3.defs, h3.tmps⟩⟩
 | panic ch => obtain ⟨C, t, H, s, v, h1, h2, h3, h4, h5, h6, h7, h8⟩ := h; exact ⟨C, t, H, s, v, h1, h2, h3, h4, h5, h6, hf _ _ _ _ h7, h8⟩
 | goto l => exact h
 | outgrown => exact h
theorem wp_eff {o : Oper} {a : Act} {w w' : World} {v : Value} {r : Option Nat} {n : Nat} {next : Act → World → Prop} {Q : Exit → Act → World → Prop} (hnd : ∀ c, o.op ≠ .defer c)
 (hrun : (execOp a.eval o).run P w = .ok (.value v) w' ∨ ((execOp a.eval o).run P w = .ok .skip w' ∧ v = undef)) (h : next (a.put o.dst v) w') : o.wpIn (Fw r) n P a w next Q := by
 refine ⟨fun f _ => fw_fn r f, ?_⟩
 rw [Oper.semAt_eq _ _ _ hnd]
 rcases hrun with hrun | ⟨hrun, rfl⟩ <;> rw [hrun] <;> exact h

theorem Ty.cells_rel {C : Cx} : ∀ (t : Ty) (x : t.den) (vs : List Value), t.ok x → SV.denL C (t.cells x) vs → t.rel C.I C.w x vs
 | .u8, _, _, _, h => by simp only [Ty.cells, SV.denL, SV.den] at h; obtain ⟨v, us, rfl, rfl, rfl⟩ := h; rfl
 | .int _, _, _, _, h => by simp only [Ty.cells, SV.denL, SV.den] at h; obtain ⟨v, us, rfl, rfl, rfl⟩ := h; rfl
 | .bool, _, _, _, h => by simp only [Ty.cells, SV.denL, SV.den] at h; obtain ⟨v, us, rfl, rfl, rfl⟩ := h; rfl
 | .str, _, _, ho, h => by simp only [Ty.cells, SV.denL, SV.den] at h; obtain ⟨v, us, rfl, rfl, rfl⟩ := h; exact ⟨rfl, ho⟩
 | .slice t, _, _, _, h => by simp only [Ty.cells, SV.denL, SV.den] at h; obtain ⟨v, us, rfl, h, rfl⟩ := h; exact h
 | .prod a b, x, vs, ho, h => by
  obtain ⟨v1, v2, rfl, h1, h2⟩ := denL_append.1 h
  exact ⟨v1, v2, rfl, a.cells_rel _ _ ho.1 h1, b.cells_rel _ _ ho.2 h2⟩
 | .unit, _, _, _, h => by simpa [Ty.cells, SV.denL, Ty.rel] using h

theorem calls_fresh {C : Cx} {f : FuncId} {ty : Ty} {x : ty.den} {ws : List Value} (hw : Wd C H) (ho : ty.ok x) (hr : ty.rel C.I C.w x ws) (hp : ∀ (q : Nat → Prop) (w0 : World) (vs : List Value), ty.rel q w0 x vs → PCZ q w0 P f [.agg (rawL vs)] (.agg (ty.cells x))) :
 Calls P f #[.agg ws.toArray] C.w fun e w' => ∃ (q : Nat → Prop) (vs : List Value), e = .returned (.agg vs.toArray) ∧ ty.rel q w' x vs ∧ (∀ b, q b → C.w.heap.size ≤ b ∧ b < w'.heap.size ∧ Unf w' b) ∧ Wd { C with w := w' } H ∧ Ext ⟨C, H⟩ { C with w := w' } H := by
 let C0 : Cx := { C with I := fun _ => False, n := 0 }
 have hw0 : Wd C0 [] := ⟨rfl, fun h o ho => by simp at ho, fun b ⟨h, o, ho, _⟩ => by simp at ho, fun h h' o o' b ho => by simp at ho, fun b hb => hb.elim⟩
 have hz : ZInv C.I C.w C0 [] := fun b hb => ⟨hw.imm b hb, fun h => h, fun ⟨h, o, ho, _⟩ => by simp at ho, rfl⟩
 have h1 := (hp C.I C.w ws hr).2 [] (fun o H' => o = .ret (.agg (ty.cells x)) ∧ H' = []) ⟨rfl, rfl⟩ C0 [.agg ws.toArray] hw0 hz (denL_cons.2 ⟨_, [], rfl, by rw [SV.den]; exact ⟨_, rfl, rawL_den _⟩, denL_nil.2 rfl⟩)
 refine h1.mono ?_
 rintro e w' ⟨o, H', C', ⟨rfl, rfl⟩, rfl, hw', hx, v, rfl, hd⟩
 rw [SV.den] at hd
 obtain ⟨vs, rfl, hd⟩ := hd
 have hold : ∀ b, b < C.w.heap.size → C'.w.heap[b]? = C.w.heap[b]? := fun b hb => hx.frame b hb (fun ⟨h, o, ho, _⟩ => by simp at ho)
 obtain ⟨g1, g2⟩ := wd_gr hw hx.size hold hx.os hx.tape hx.output
 refine ⟨C'.I, vs, rfl, ty.cells_rel _ _ ho hd, fun b hb => ?_, g1, g2⟩
 rcases hx.immNew b hb with h2 | ⟨h2 | ⟨h, o, ho, _⟩, h3⟩
 · exact h2.elim
 · exact ⟨h2, hw'.imm b hb, h3⟩
 · simp at ho
end Go.Sx
namespace Go.Sx
open Go

variable {P : Program} {AQ : Ex → List SV → List SObj → Prop} {k0 : Nat} {k : List It} {t : List SV} {H : List SObj}

structure C2P where
 f : FuncId
 p : Nat
 d0 : Nat
 d1 : Nat
 d2 : Nat
 d3 : Nat
 d4 : Nat
 d5 : Nat
 T : TypeId
 m : Nat
 zs : List Value
 ty : Ty
 x : ty.den

def needs (o : Oper) (j : Nat) : Prop := ∃ e ∈ o.after, Region.binds .any e = true ∧ e.on = j
structure IsC2 (P : Program) (all : Array Oper) (c : C2P) : Prop where
 size : all.size = 8
 top : ∀ (i : Nat) (o : Oper), all[i]? = some o → ∀ e ∈ o.after, e.on < i
 o0 : ∃ o, all[0]? = some o ∧ o.op = .load c.T (.tmp c.p) ∧ o.dst = some c.d0 ∧ o.guard = none
 o1 : ∃ o cl, all[1]? = some o ∧ o.op = .call cl ∧ cl.callee = .value (.func c.f) ∧ cl.args = #[.tmp c.d0] ∧ o.dst = some c.d1 ∧ o.guard = none ∧ needs o 0
 o2 : ∃ o, all[2]? = some o ∧ o.op = .load c.T (.tmp c.p) ∧ o.dst = some c.d2 ∧ o.guard = none
 o3 : ∃ o cl, all[3]? = some o ∧ o.op = .call cl ∧ cl.callee = .value (.func c.f) ∧ cl.args = #[.tmp c.d2] ∧ o.dst = some c.d3 ∧ o.guard = none ∧ needs o 2
 o4 : ∃ o, all[4]? = some o ∧ o.op = .alloc c.T ∧ o.dst = some c.d4 ∧ o.guard = none
 o5 : ∃ o, all[5]? = some o ∧ o.op = .alloc c.T ∧ o.dst = some c.d5 ∧ o.guard = none
 o6 : ∃ o, all[6]? = some o ∧ o.op = .store c.T (.tmp c.d4) (.tmp c.d1) ∧ o.dst = none ∧ o.guard = none ∧ needs o 4 ∧ needs o 1
 o7 : ∃ o, all[7]? = some o ∧ o.op = .store c.T (.tmp c.d5) (.tmp c.d3) ∧ o.dst = none ∧ o.guard = none ∧ needs o 5 ∧ needs o 3
 ag : aggOf P c.T = some (some c.m)
 zero : (P.info? c.T).bind (fun i => i.zero.map (·.cells.toList)) = some c.zs
 zlen : c.zs.length = c.m
 tsz : c.ty.size = c.m
 en : enters P c.f = true
 nd : [c.p, c.d0, c.d1, c.d2, c.d3, c.d4, c.d5].Nodup

def Far (E : EnD) (C : Cx) (H : List SObj) (b : Nat) : Prop := E.C.w.heap.size ≤ b ∧ b < C.w.heap.size ∧ ¬ C.I b ∧ ¬ OwnB C H b ∧ Unf C.w b
theorem Far.ext {E : EnD} {C C' : Cx} {b : Nat} (h : Far E C H b) (hx : Ext ⟨C, H⟩ C' H) : Far E C' H b ∧ C'.w.heap[b]? = C.w.heap[b]? := by
 obtain ⟨h0, h1, h2, h3, h4⟩ := h
 obtain ⟨g1, g2, g3, g4⟩ := ext_old hx h1 h2 h3
 exact ⟨⟨h0, g1, g2, g3, h4.keep g4⟩, g4⟩

def upd (β : Nat → Bool) (i : Nat) : Nat → Bool := fun j => if j = i then true else β j
structure R2 (c : C2P) (E : EnD) (tm : List SV) (H : List SObj) (β : Nat → Bool) (vs : List Value) (q : Nat → Prop) (b4 b5 : Nat) (C : Cx) (a : Act) : Prop where
 den : @Den noGhost E C tm H a
 f0 : β 0 = true → ∃ ws : List Value, a.tmps[c.d0]? = some (.agg ws.toArray) ∧ SV.denL C (c.ty.cells c.x) ws
 f1 : β 1 = true → a.tmps[c.d1]? = some (.agg vs.toArray) ∧ c.ty.rel q C.w c.x vs ∧ ∀ b, q b → Far E C H b
 f2 : β 2 = true → ∃ ws : List Value, a.tmps[c.d2]? = some (.agg ws.toArray) ∧ SV.denL C (c.ty.cells c.x) ws
 f3 : β 3 = true → ∃ ws : List Value, a.tmps[c.d3]? = some (.agg ws.toArray) ∧ SV.denL C (c.ty.cells c.x) ws
 f4 : β 4 = true → a.tmps[c.d4]? = some (.pointer (some ⟨b4, 0, none⟩)) ∧ Far E C H b4 ∧ (β 1 = true → ¬ q b4) ∧ C.w.heap[b4]? = some (.cells (if β 6 = true then vs else c.zs).toArray c.T (0, 0))
 f5 : β 5 = true → a.tmps[c.d5]? = some (.pointer (some ⟨b5, 0, none⟩)) ∧ Far E C H b5 ∧ (β 1 = true → ¬ q b5) ∧ (β 4 = true → b5 ≠ b4) ∧ ∃ us : List Value, C.w.heap[b5]? = some (.cells us.toArray c.T (0, 0)) ∧ us.length = c.m ∧ (β 7 = true → SV.denL C (c.ty.cells c.x) us)
 i6 : β 6 = true → β 4 = true ∧ β 1 = true
 i7 : β 7 = true → β 5 = true ∧ β 3 = true

variable {c : C2P} {E : EnD} {tm : List SV} {β : Nat → Bool} {vs : List Value} {q : Nat → Prop} {b4 b5 : Nat} {C C' : Cx} {a : Act}

theorem R2.ext (r : R2 c E tm H β vs q b4 b5 C a) (hw : Wd C' H) (hx : Ext ⟨C, H⟩ C' H) : R2 c E tm H β vs q b4 b5 C' a where
 den := ⟨hw, r.den.ext.trans hx, ⟨r.den.defs.1, trivial⟩, denL_evo hx.evo r.den.tmps⟩
 f0 := fun h => by obtain ⟨ws, h1, h2⟩ := r.f0 h; exact ⟨ws, h1, denL_evo hx.evo h2⟩
 f1 := fun h => by
  obtain ⟨h1, h2, h3⟩ := r.f1 h
  exact ⟨h1, Ty.rel_keep (fun b hb => ⟨hb, ((h3 b hb).ext hx).2⟩) _ _ _ h2, fun b hb => ((h3 b hb).ext hx).1⟩
 f2 := fun h => by obtain ⟨ws, h1, h2⟩ := r.f2 h; exact ⟨ws, h1, denL_evo hx.evo h2⟩
 f3 := fun h => by obtain ⟨ws, h1, h2⟩ := r.f3 h; exact ⟨ws, h1, denL_evo hx.evo h2⟩
 f4 := fun h => by
  obtain ⟨h1, h2, h3, h4⟩ := r.f4 h
  exact ⟨h1, (h2.ext hx).1, h3, (h2.ext hx).2.trans h4⟩
 f5 := fun h => by
  obtain ⟨h1, h2, h3, h4, us, h5, h6, h7⟩ := r.f5 h
  exact ⟨h1, (h2.ext hx).1, h3, h4, us, (h2.ext hx).2.trans h5, h6, fun h => denL_evo hx.evo (h7 h)⟩
 i6 := r.i6
 i7 := r.i7

theorem den_put {d : Nat} {v : Value} (h : @Den noGhost E C tm H a) (hd : tm[d]? = some .any) : @Den noGhost E C tm H (a.put (some d) v) := by
 refine ⟨h.wd, h.ext, ⟨h.defs.1, trivial⟩, ?_⟩
 simp only [Act.put, Array.toList_setIfInBounds]
 have h1 := denL_set (i := d) (s := .any) (v := v) h.tmps (by rw [SV.den]; trivial)
 have h2 : tm.set d .any = tm := by
  apply List.ext_getElem?
  intro i
  by_cases e : d = i
  · subst e; rw [List.getElem?_set_self (List.getElem?_eq_some_iff.1 hd).1, hd]
  · rw [List.getElem?_set_ne e]
 rwa [h2] at h1
theorem put_ne {d e : Nat} {v : Value} (h : d ≠ e) : (a.put (some d) v).tmps[e]? = a.tmps[e]? := by
 simp only [Act.put]; exact Array.getElem?_setIfInBounds_ne h

theorem R2.put {i d : Nat} {v : Value} (r : R2 c E tm H β vs q b4 b5 C a) (hnd : [c.p, c.d0, c.d1, c.d2, c.d3, c.d4, c.d5].Nodup) (hi : β i = false) (hd : [c.d0, c.d1, c.d2, c.d3, c.d4, c.d5][i]? = some d) (ht : tm[d]? = some .any) : R2 c E tm H β vs q b4 b5 C (a.put (some d) v) := by
 have key : ∀ (j e : Nat), [c.d0, c.d1, c.d2, c.d3, c.d4, c.d5][j]? = some e → β j = true → (a.put (some d) v).tmps[e]? = a.tmps[e]? := fun j e he hj => put_ne fun h => by
  subst h
  have hnd' : [c.d0, c.d1, c.d2, c.d3, c.d4, c.d5].Nodup := (List.nodup_cons.1 hnd).2
  have h1 := (List.getElem?_eq_some_iff.1 hd).1
  have : i = j := (List.getElem?_inj h1 hnd').1 (hd.trans he.symm)
  subst this
  rw [hi] at hj; cases hj
 refine ⟨den_put r.den ht, fun h => ?_, fun h => ?_, fun h => ?_, fun h => ?_, fun h => ?_, fun h => ?_, r.i6, r.i7⟩
 · obtain ⟨ws, h1, h2⟩ := r.f0 h; exact ⟨ws, (key 0 _ rfl h).trans h1, h2⟩
 · obtain ⟨h1, h2⟩ := r.f1 h; exact ⟨(key 1 _ rfl h).trans h1, h2⟩
 · obtain ⟨ws, h1, h2⟩ := r.f2 h; exact ⟨ws, (key 2 _ rfl h).trans h1, h2⟩
 · obtain ⟨ws, h1, h2⟩ := r.f3 h; exact ⟨ws, (key 3 _ rfl h).trans h1, h2⟩
 · obtain ⟨h1, h2⟩ := r.f4 h; exact ⟨(key 4 _ rfl h).trans h1, h2⟩
 · obtain ⟨h1, h2⟩ := r.f5 h; exact ⟨(key 5 _ rfl h).trans h1, h2⟩

theorem eval_tmp {d : Nat} {v : Value} (h : a.tmps[d]? = some v) : a.eval (.tmp d) = v := by
 simp only [Act.eval]; rw [Array.getD_eq_getD_getElem?, h]; rfl

theorem c2_call {o : Oper} {cl : Call} {f : FuncId} {d : Nat} {v : Value} {w : World} {r : Option Nat} {n : Nat} {R : Ending → World → Prop} {next : Act → World → Prop} {Q : Exit → Act → World → Prop} (hop : o.op = .call cl) (hc : cl.callee = .value (.func f)) (ha : cl.args = #[.tmp d]) (hen : enters P f = true)
 (hv : a.tmps[d]? = some v) (hcall : Calls P f #[v] w R) (hR : ∀ e w', R e w' → ∃ u, e = .returned u ∧ next (a.put o.dst u) w') : o.wpIn (Fw r) n P a w next Q := by
 refine ⟨fun f _ => fw_fn r f, ?_⟩
 rw [Oper.semAt_eq _ _ _ (by rw [hop]; intro c hc; cases hc)]
 have he := eval_tmp hv
 have hrun : (execOp a.eval o).run P w = .ok (.enter f #[v]) w := by
  have hf : a.eval (.func f) = .func (.func f) #[] #[] := rfl
  simp [execOp, hop, resolve, hc, hf, ha, he, Deferred.ofValue, invoke, enters_run hen]
 rw [hrun]
 refine ⟨(fun hd => by cases hd), callsIn_fw (hcall.mono fun e w' h => ?_)⟩
 obtain ⟨u, rfl, hn⟩ := hR e w' h
 exact hn

theorem far_alloc {T : TypeId} {zs : List Value} (hd : @Den noGhost E C tm H a) :
 Wd { C with w := C.w.alloc (.cells zs.toArray T) } H ∧ Ext ⟨C, H⟩ { C with w := C.w.alloc (.cells zs.toArray T) } H ∧ Far E { C with w := C.w.alloc (.cells zs.toArray T) } H C.w.heap.size ∧ (C.w.alloc (.cells zs.toArray T)).heap[C.w.heap.size]? = some (.cells zs.toArray T (0, 0)) := by
 have hsz : (C.w.alloc (.cells zs.toArray T)).heap.size = C.w.heap.size + 1 := Array.size_push _
 obtain ⟨g1, g2⟩ := wd_gr (w' := C.w.alloc (.cells zs.toArray T)) hd.wd (by rw [hsz]; exact Nat.le_succ _) (fun b hb => alloc_old _ _ hb) rfl rfl rfl
 have hnew : (C.w.alloc (.cells zs.toArray T)).heap[C.w.heap.size]? = some (.cells zs.toArray T (0, 0)) := alloc_new _ _
 refine ⟨g1, g2, ⟨hd.ext.size, by show _ < (C.w.alloc _).heap.size; rw [hsz]; omega, fun hi => absurd (hd.wd.imm _ hi) (Nat.lt_irrefl _), fun ho => absurd (hd.wd.own _ ho).2 (Nat.lt_irrefl _), fun c T fz hc => ?_⟩, hnew⟩
 simp only at hc
 rw [hnew] at hc; cases hc; simp

end Go.Sx
namespace Go.Sx
open Go

variable {P : Program} {AQ : Ex → List SV → List SObj → Prop} {k0 : Nat} {k : List It} {t : List SV} {H : List SObj}
variable {c : C2P} {E : EnD} {tm : List SV} {β : Nat → Bool} {vs : List Value} {q : Nat → Prop} {b4 b5 : Nat} {C C' : Cx} {a : Act}

end Go.Sx
namespace Go.Sx
open Go

variable {P : Program} {AQ : Ex → List SV → List SObj → Prop} {k0 : Nat} {k : List It} {t : List SV} {H : List SObj}
variable {c : C2P}

end Go.Sx
namespace Go.Sx
open Go

variable {P : Program} {AQ : Ex → List SV → List SObj → Prop} {k0 : Nat} {k : List It} {t : List SV} {H : List SObj}

def flatC : Code → List Code
 | .seq a b => flatC a ++ flatC b
 | c => [c]
theorem exitT_codes [Ghost] {F : Fence} {n : Nat} {E : EnD} {Q : Exit → Act → World → Prop} {id : Nat} {a : Act} {w : World} {k : List It} : ∀ (l : List Code), exitT F n P E Q id (l.map .code ++ k) a w ↔ exitT F n P E Q id k a w
 | [] => Iff.rfl
 | c :: l => by simp only [List.map_cons, List.cons_append, exitT]; exact exitT_codes l
theorem wpT_flat [Ghost] {F : Fence} {n : Nat} {E : EnD} {Q : Exit → Act → World → Prop} : ∀ (c : Code) (k : List It) (a : Act) (w : World), wpT F n P E Q ((flatC c).map .code ++ k) a w → wpT F n P E Q (.code c :: k) a w
 | .seq x y, k, a, w, h => by
  rw [flatC, List.map_append, List.append_assoc] at h
  have h1 := wpT_flat x _ a w h
  simp only [wpT] at h1 ⊢
  refine wpIn_seq (wpIn_mono h1 fun e a w hq => ?_)
  cases e with
  | normal =>
   have h2 := wpT_flat y k a w hq
   simp only [wpT] at h2
   exact h2
  | exit id => exact (exitT_codes _).1 hq
  | _ => exact hq
 | .skip, _, _, _, h => h
 | .region .., _, _, _, h => h
 | .cond .., _, _, _, h => h
 | .block .., _, _, _, h => h
 | .loop _, _, _, _, h => h
 | .rangeFunc .., _, _, _, h => h
 | .exit _, _, _, _, h => h
 | .scope _, _, _, _, h => h
 | .label _, _, _, _, h => h
 | .goto _, _, _, _, h => h
 | .ret, _, _, _, h => h
 | .refuse .., _, _, _, h => h

def compAll (P : Program) : List Code → Option (List IC)
 | [] => some []
 | c :: cs => match comp P c, compAll P cs with
  | some x, some l => some (x :: l)
  | _, _ => none
theorem compAll_ok : ∀ {cs : List Code} {l : List IC}, compAll P cs = some l → cs.map (comp P) = l.map some
 | [], l, h => by cases h; rfl
 | c :: cs, l, h => by
  unfold compAll at h
  split at h
  · rename_i x l' h1 h2
    cases h
    simp only [List.map_cons, h1, compAll_ok h2]
  · cases h
def splitX (P : Program) : List Code → Option (List IC × Array Oper × List IC)
 | [] => none
 | c :: cs => match comp P c with
  | some x => match splitX P cs with
   | some (l, r, l') => some (x :: l, r, l')
   | none => none
  | none => match c with
   | .region _ all true => match compAll P cs with
    | some l => some ([], all, l)
    | none => none
   | _ => none
theorem splitX_ok : ∀ {cs : List Code} {l : List IC} {r : Array Oper} {l' : List IC}, splitX P cs = some (l, r, l') → ∃ (cs1 : List Code) (id : Nat) (cs2 : List Code), cs = cs1 ++ .region id r true :: cs2 ∧ cs1.map (comp P) = l.map some ∧ cs2.map (comp P) = l'.map some
 | [], _, _, _, h => by cases h
 | c :: cs, l, r, l', h => by
  unfold splitX at h
  split at h
  · rename_i x hx
    split at h
    · rename_i l1 r1 l1' h1
      cases h
      obtain ⟨cs1, id, cs2, rfl, g1, g2⟩ := splitX_ok h1
      exact ⟨c :: cs1, id, cs2, rfl, by simp only [List.map_cons, hx, g1], g2⟩
    · cases h
  · split at h
    · rename_i id all _
      split at h
      · rename_i l1 h1
        cases h
        exact ⟨[], id, cs, rfl, rfl, compAll_ok h1⟩
      · cases h
    · cases h
structure XI where
 ntmps : Nat
 results : List ResultVar
 pre : List IC
 reg : Array Oper
 post : List IC
def xinfo (P : Program) (f : FuncId) : Option XI :=
 match P.funcs[f]? with
 | some fn => match fn.body with
  | some c => match splitX P (flatC c) with
   | some (l, r, l') => if fn.name == "runtime.NumGoroutine" then none else some ⟨fn.ntmps, fn.results.toList, l, r, l'⟩
   | none => none
  | none => none
 | none => none
def xreg (P : Program) (f : FuncId) : Array Oper := match xinfo P f with
 | some xi => xi.reg
 | none => #[]

theorem rel_codes' : ∀ {cs : List Code} {l : List IC}, cs.map (comp P) = l.map some → RelT P (l.map .ic) (cs.map .code)
 | [], [], _ => rfl
 | c :: cs, ic :: l, h => by
  simp only [List.map_cons, List.cons.injEq] at h
  exact ⟨c, _, rfl, h.1, rel_codes' h.2⟩
 | [], _ :: _, h => by simp at h
 | _ :: _, [], h => by simp at h
theorem noStop_codes : ∀ (cs : List Code), noStop (cs.map .code) = true
 | [] => rfl
 | _ :: cs => noStop_codes cs
end Go.Sx
namespace Go.Sx
open Go

variable {P : Program} {AQ : Ex → List SV → List SObj → Prop} {k0 : Nat} {td : List IT} {t : List SV} {H : List SObj}

def noStopI : List IT → Bool
 | [] => true
 | .ic _ :: k => noStopI k
 | .ops _ :: k => noStopI k
 | .blk _ :: k => noStopI k
 | _ :: _ => false
theorem noStopI_rel : ∀ {td : List IT} {r : List It}, RelT P td r → noStopI td = true → noStop r = true
 | [], r, h, _ => by cases h; rfl
 | .ic c :: k, r, h, hs => by obtain ⟨c', r', rfl, _, hr⟩ := h; exact (noStopI_rel (td := k) (r := r') hr hs : noStop r' = true)
 | .ops l :: k, r, h, hs => by obtain ⟨all, idx, r', rfl, _, hr⟩ := h; exact (noStopI_rel (td := k) (r := r') hr hs : noStop r' = true)
 | .blk id :: k, r, h, hs => by obtain ⟨r', rfl, hr⟩ := h; exact (noStopI_rel (td := k) (r := r') hr hs : noStop r' = true)

theorem scr_of {q : Nat → Prop} {w1 : World} {N b0 : Nat} {E : EnD} {C C' : Cx} {a : Act} (hd : @Den (frzN q w1 N) E C t H a) (hq : ∀ b, q b → N ≤ b ∧ Unf w1 b) (hw : Wd C' H) (hx : Ext ⟨C, H⟩ C' H) (hf : Far E C' H b0) :
 SInv (fun b => q b ∨ b = b0) C'.w E.toEn C' H ∧ ∀ (ty : Ty) (x : ty.den) (vs : List Value), ty.rel q w1 x vs → ty.rel (fun b => q b ∨ b = b0) C'.w x vs := by
 have hz : ZInv q w1 C H := hd.defs.2.2
 have hN : E.C.w.heap.size ≤ N := hd.defs.2.1
 have hz' : ∀ b, q b → Far E C' H b ∧ C'.w.heap[b]? = w1.heap[b]? := fun b hb => by
  obtain ⟨g1, g2, g3, g4⟩ := hz b hb
  obtain ⟨k1, k2⟩ := (show Far E C H b from ⟨Nat.le_trans hN (hq b hb).1, g1, g2, g3, (hq b hb).2.keep g4⟩).ext hx
  exact ⟨k1, k2.trans g4⟩
 refine ⟨fun b hb => ?_, fun ty x vs h => Ty.rel_keep (fun b hb => ⟨.inl hb, (hz' b hb).2⟩) _ _ _ h⟩
 have hfar : Far E C' H b := hb.elim (fun h => (hz' b h).1) fun h => h ▸ hf
 exact ⟨.inl hfar.1, hfar.2.1, hfar.2.2.1, hfar.2.2.2.1, hfar.2.2.2.2, .inl rfl⟩

theorem not_bsl {op : Op} {ty : Ty} {n sz : Nat} {zs : List Value} {ps : List (Nat × Operand)} (h : compOp P op = some (.bsl ty n sz zs ps)) (hn : ∀ T n ps, op ≠ .buildSlice T n ps) : False := by
 unfold compOp at h
 repeat' split at h
 all_goals first
  | exact hn _ _ _ rfl
  | contradiction
  | (simp only [Option.bind_eq_some_iff, Option.map_eq_some_iff, Option.some.injEq, reduceCtorEq, and_false, exists_false] at h; done)
  | (simp [Option.bind_eq_some_iff] at h; done)
theorem si_litz {q : Nat → Prop} {w1 : World} {N : Nat} {l : List OpI} {d sz : Nat} {ty : Ty} {x : ty.den} {zs us : List Value} {ps : List (Nat × Operand)} (hsz : sz = ty.size) (hf : fillS (PlaceK.arr sz).fn (rawL zs) (ps.map fun p => (p.1, evT t p.2)) = some (rawL us)) (hr : ty.rel q w1 x us)
 (hq : ∀ b, q b → N ≤ b ∧ Unf w1 b) (hns : noStopI td = true)
 (hk : ∀ (q' : Nat → Prop) (w' : World) (v : Value), (∀ (ty : Ty) (x : ty.den) (vs : List Value), ty.rel q w1 x vs → ty.rel q' w' x vs) → Sl q' w' ty [x] v → @SoundI (scrG q' w') P AQ ⟨k0, .ops l :: td, putT t (some d) (.raw v), H⟩) :
 @SoundI (frzN q w1 N) P AQ ⟨k0, .ops (⟨some d, .bsl ty 1 sz zs ps, none⟩ :: l) :: td, t, H⟩ := @soundI_plain (frzN q w1 N) P AQ k0 t H _ (fun td' hr' => by
 obtain ⟨all, idx, r, rfl, ho, hrel⟩ := hr'
 cases idx with
 | nil => exact ho.elim
 | cons i idx =>
  obtain ⟨⟨o, ho1, ho2⟩, ho⟩ := ho
  obtain ⟨hc, hdst⟩ := compO_op ho2
  simp only at hc hdst
  cases hop : o.op with
  | buildSlice T n parts =>
   rw [hop] at hc
   simp only [compOp] at hc
   split at hc
   · rename_i e hT
     split at hc
     · rename_i ty' sz' zs' h1 h2 h3
       cases hc
       intro E rr n C a h0 hd
       simp only [wpT, wpOpsIn, ho1]
       rw [if_pos (wantedT_ok hd.tmps (by rw [(compO_wanted ho2).1 rfl]))]
       -- the run
       obtain ⟨us', g1, g2⟩ := run_fill_parts (C := C) (ev := evT t) (e := a.eval) (parts := parts) (fun q hq => evT_den hd.tmps q.2) hf
       have := rawL_den_eq g2
       subst this
       have hlen : us'.length = ty.size := ty.rel_size _ _ hr
       obtain ⟨f1, f2, f3, f4⟩ := far_alloc (E := E) (C := C) (tm := t) (H := H) (a := a) (T := e) (zs := us') ⟨hd.wd, hd.ext, ⟨hd.defs.1, trivial⟩, hd.tmps⟩
       have hrun : (execOp a.eval o).run P C.w = .ok (.value (.slice (some ⟨C.w.heap.size, 0, none⟩) 1 1)) (C.w.alloc (.cells us'.toArray e)) := by
        unfold zerosOf at h3
        cases hi : P.info? e with
        | none => simp [hi] at h3
        | some i =>
         simp only [hi] at h3
         cases hz0 : i.zero with
         | none => simp [hz0] at h3
         | some z =>
          simp only [hz0] at h3
          split at h3
          · rename_i hle
            have hsi : i.size = sz := by simpa [hi] using h2
            cases h3
            simp only [execOp, hop, Sem.run_bind, Instr.buildSlice, run_underlying' hT, Result.andThen, run_sizeOf h2, Sem.run_ite]
            rw [hsi] at g1 hle
            rw [if_neg (by omega)]
            have hzr : (zeroValue e).run P C.w = .ok z C.w := by simp [zeroValue, typeInfo, hi, hz0]
            have h1' := g1
            simp only [Array.toArray_toList] at h1'
            by_cases h0 : 1 * sz = 0
            · simp only [if_pos h0, Sem.run_pure] at h1' ⊢
              erw [h1']
              simp [newRow]
            · simp only [if_neg h0, hzr, Sem.run_pure] at h1' ⊢
              erw [h1']
              simp [newRow]
          · cases h3
       refine wp_eff (by rw [hop]; intro c hc; cases hc) (.inl hrun) ?_
       rw [← hdst]
       obtain ⟨s1, s2⟩ := scr_of (t := t) hd hq f1 f2 f3
       have hv : Sl (fun b => q b ∨ b = C.w.heap.size) (C.w.alloc (.cells us'.toArray e)) ty [x] (.slice (some ⟨C.w.heap.size, 0, none⟩) 1 1) :=
        ⟨_, 1, 1, rfl, rfl, Nat.le_refl _, by decide, .inr ⟨C.w.heap.size, 0, rfl, .inr rfl, fun j y hy => by
         cases j with
         | zero =>
          simp only [List.getElem?_cons_zero, Option.some.injEq] at hy
          subst hy
          refine ⟨us', s2 ty x us' hr, fun k u hu => ?_⟩
          rw [Nat.zero_mul, Nat.zero_add, cell_of_cells f4]
          exact hu
         | succ j => simp at hy⟩⟩
       have hs := hk _ _ _ s2 hv
       have hd2 : @Den (scrG (fun b => q b ∨ b = C.w.heap.size) (C.w.alloc (.cells us'.toArray e))) E { C with w := C.w.alloc (.cells us'.toArray e) } (putT t (some d) (.raw (.slice (some ⟨C.w.heap.size, 0, none⟩) 1 1))) H (a.put (some d) (.slice (some ⟨C.w.heap.size, 0, none⟩) 1 1)) :=
        ⟨f1, hd.ext.trans f2, ⟨hd.defs.1, s1⟩, putT_den (denL_evo f2.evo hd.tmps) (some d) (by rw [SV.den])⟩
       have h5 := @soundI_get (scrG (fun b => q b ∨ b = C.w.heap.size) (C.w.alloc (.cells us'.toArray e))) P AQ k0 _ H _ (.ops all idx :: r) hs ⟨all, idx, r, rfl, ho, hrel⟩ E rr n _ _ h0 hd2
       have h6 := (@wpT_ghost P (frzN q w1 N) (scrG (fun b => q b ∨ b = C.w.heap.size) (C.w.alloc (.cells us'.toArray e))) (Fw rr) n E E (@conc (frzN q w1 N) E AQ) (@conc (scrG (fun b => q b ∨ b = C.w.heap.size) (C.w.alloc (.cells us'.toArray e))) E AQ)
        (fun ex a w hh => @conc_ghost AQ (frzN q w1 N) (scrG (fun b => q b ∨ b = C.w.heap.size) (C.w.alloc (.cells us'.toArray e))) E (fun _ _ _ _ h => ⟨h.1, trivial⟩) ex a w hh) (.ops all idx :: r) (show noStop r = true from noStopI_rel (td := td) (r := r) hrel hns)).1 _ _ h5
       simp only [wpT] at h6
       exact h6
     · cases hc
   · cases hc
  | _ => exact (not_bsl hc (by rw [hop]; intro T n ps h; cases h)).elim) rfl
theorem callN_lend {q : Nat → Prop} {w0 : World} {N : Nat} {f : FuncId} {args args' : List SV} {v : Value} {d : Option Tmp} {m : IM} (hp : PC P f args' (.raw v)) (hl : LendA q w0 args args') (h : @SoundI (frzN q w0 N) P AQ { m with tmps := putT m.tmps d (.raw v) }) :
 @CallI (frzN q w0 N) P AQ f args d m := by
 refine ⟨hp.1, fun E C vs hw hg hv => ?_⟩
 refine (hp.2 [] (PK (.raw v)) rfl (C.lend q) vs (wd_lend hw hg.2) (hl C _ vs hg.2 hv)).mono ?_
 rintro e w' ⟨o, H', C', rfl, rfl, hw', hx, u, rfl, hd⟩
 rw [SV.den] at hd; subst hd
 obtain ⟨g1, g2⟩ := ext_lend (q := q) (w0 := w0) hw hx
 exact ⟨.ret (.raw u), m.heap, { C with w := C'.w }, h, rfl, g1, @Stp.of (frzN q w0 N) E C { C with w := C'.w } m.heap m.heap g2, u, rfl, by rw [SV.den]⟩
end Go.Sx
