/- A part of the proof: a symbolic executor over abstract values, and its soundness. -/
import Derived.Test.YthmoognbccfpiaaGreatDoorP4
import Derived.MapKept
import Derived.Laws.IdiomStrings
import Derived.Laws.MakeOwn
set_option linter.unusedSimpArgs false
set_option linter.unusedVariables false
set_option linter.unusedSectionVars false
set_option linter.unusedSectionVars false
namespace Go.Sx
open Go

variable [Ghost] {P : Program} {AQ : Ex → List SV → List SObj → Prop} {k0 : Nat} {k : List It} {tm : List SV} {H : List SObj}

mutual
def SV.frz (h : Nat) (t : Ty) (xs : List t.den) : SV → SV
 | .bld h' t' n => if h' = h ∧ t' = t then .isl t (xs.take n) else .bld h' t' n
 | .osl h' t' off n => if h' = h ∧ t' = t then .isl t ((xs.drop off).take n) else .osl h' t' off n
 | .agg l => .agg (SV.frzL h t xs l)
 | .tup l => .tup (SV.frzL h t xs l)
 | .iface T x => .iface T (SV.frz h t xs x)
 | s => s
def SV.frzL (h : Nat) (t : Ty) (xs : List t.den) : List SV → List SV
 | [] => []
 | s :: l => SV.frz h t xs s :: SV.frzL h t xs l
end
mutual
def SV.frzOb (h : Nat) (t : Ty) (xs : List t.den) : SV → Prop
 | .bld h' t' n => if h' = h ∧ t' = t then n ≤ xs.length else True
 | .osl h' t' off n => if h' = h ∧ t' = t then off + n ≤ xs.length else True
 | .agg l => SV.frzObL h t xs l
 | .tup l => SV.frzObL h t xs l
 | .iface _ x => SV.frzOb h t xs x
 | _ => True
def SV.frzObL (h : Nat) (t : Ty) (xs : List t.den) : List SV → Prop
 | [] => True
 | s :: l => SV.frzOb h t xs s ∧ SV.frzObL h t xs l
end

def Cx.frz (C : Cx) (h : Nat) : Cx := { C with I := fun b => C.I b ∨ C.ρ h = some b }
theorem evo_frz (C : Cx) (h : Nat) : Evo C (C.frz h) := ⟨Nat.le_refl _, fun _ _ => rfl, fun _ hb => ⟨.inl hb, rfl⟩, fun _ _ h => h⟩

theorem osl_frz {C : Cx} {h off n : Nat} {t : Ty} {xs : List t.den} {v : Value} (hw : Wd C H) (hH : H[h]? = some (.row t xs)) (hlen : xs.length ≤ 1125899906842624) (ho : off + n ≤ xs.length) (hd : (SV.osl h t off n).den C v) : (SV.isl t ((xs.drop off).take n)).den (C.frz h) v := by
 obtain ⟨A, c, rfl, hc, hd⟩ := own_read hw hH hd ho
 rw [SV.den]
 refine ⟨A, n, c, rfl, by simp; omega, hc, by omega, ?_⟩
 rcases hd with h0 | ⟨b, rfl, hb, _, hr⟩
 · exact .inl (by simp [h0])
 · refine .inr ⟨b, off * t.size, rfl, .inr hb, fun i x hx => ?_⟩
   obtain ⟨us, g1, g2⟩ := hr i x hx
   exact ⟨us, Ty.rel_keep (evo_frz C h).I _ _ _ g1, g2⟩

mutual
theorem frz_den {C : Cx} {h : Nat} {t : Ty} {xs : List t.den} (hw : Wd C H) (hH : H[h]? = some (.row t xs)) (hlen : xs.length ≤ 1125899906842624) : ∀ {s : SV} {v : Value}, s.frzOb h t xs → s.den C v → (s.frz h t xs).den (C.frz h) v
 | .any, _, _, d => by rw [SV.frz]; exact den_evo (evo_frz C h) d; all_goals (intros; contradiction)
 | .raw _, _, _, d => by rw [SV.frz]; exact den_evo (evo_frz C h) d; all_goals (intros; contradiction)
 | .isl _ _, _, _, d => by rw [SV.frz]; exact den_evo (evo_frz C h) d; all_goals (intros; contradiction)
 | .fsl _ _, _, _, d => by rw [SV.frz]; exact den_evo (evo_frz C h) d; all_goals (intros; contradiction)
 | .iptr _ _ _, _, _, d => by rw [SV.frz]; exact den_evo (evo_frz C h) d; all_goals (intros; contradiction)
 | .ptr _ _, _, _, d => by rw [SV.frz]; exact den_evo (evo_frz C h) d; all_goals (intros; contradiction)
 | .rptr _ _ _ _, _, _, d => by rw [SV.frz]; exact den_evo (evo_frz C h) d; all_goals (intros; contradiction)
 | .csl _ _ _, _, _, d => by rw [SV.frz]; exact den_evo (evo_frz C h) d; all_goals (intros; contradiction)
 | .mp _, _, _, d => by rw [SV.frz]; exact den_evo (evo_frz C h) d; all_goals (intros; contradiction)
 | .imap .., _, _, d => by rw [SV.frz]; exact den_evo (evo_frz C h) d; all_goals (intros; contradiction)
 | .fn _ _ _, _, _, d => by rw [SV.frz]; exact den_evo (evo_frz C h) d; all_goals (intros; contradiction)
 | .bld h' t' n, v, ob, d => by
  rw [SV.frz]
  rw [SV.frzOb] at ob
  split
  · rename_i e
    rw [if_pos e] at ob
    obtain ⟨rfl, rfl⟩ := e
    have := osl_frz hw hH hlen (off := 0) (n := n) (by omega) (bld_osl d)
    simpa using this
  · exact den_evo (evo_frz C h) d
 | .osl h' t' off n, v, ob, d => by
  rw [SV.frz]
  rw [SV.frzOb] at ob
  split
  · rename_i e
    rw [if_pos e] at ob
    obtain ⟨rfl, rfl⟩ := e
    exact osl_frz hw hH hlen ob d
  · exact den_evo (evo_frz C h) d
 | .agg l, v, ob, d => by
  rw [SV.frz, SV.den]
  rw [SV.frzOb] at ob
  rw [SV.den] at d
  obtain ⟨vs, hv, hl⟩ := d
  exact ⟨vs, hv, frzL_den hw hH hlen ob hl⟩
 | .tup l, v, ob, d => by
  rw [SV.frz, SV.den]
  rw [SV.frzOb] at ob
  rw [SV.den] at d
  obtain ⟨vs, hv, hl⟩ := d
  exact ⟨vs, hv, frzL_den hw hH hlen ob hl⟩
 | .iface T x, v, ob, d => by
  rw [SV.frz, SV.den]
  rw [SV.frzOb] at ob
  rw [SV.den] at d
  obtain ⟨u, hv, hl⟩ := d
  exact ⟨u, hv, frz_den hw hH hlen ob hl⟩
theorem frzL_den {C : Cx} {h : Nat} {t : Ty} {xs : List t.den} (hw : Wd C H) (hH : H[h]? = some (.row t xs)) (hlen : xs.length ≤ 1125899906842624) : ∀ {l : List SV} {vs : List Value}, SV.frzObL h t xs l → SV.denL C l vs → SV.denL (C.frz h) (SV.frzL h t xs l) vs
 | [], _, _, d => by rw [SV.frzL, SV.denL]; rw [SV.denL] at d; exact d
 | s :: l, _, ob, d => by
  rw [SV.frzL, SV.denL]
  rw [SV.frzObL] at ob
  rw [SV.denL] at d
  obtain ⟨v, us, rfl, d1, d2⟩ := d
  exact ⟨v, us, rfl, frz_den hw hH hlen ob.1 d1, frzL_den hw hH hlen ob.2 d2⟩
end

def SObj.frz (h : Nat) (t : Ty) (xs : List t.den) : SObj → SObj
 | .cells T cs => .cells T (SV.frzL h t xs cs)
 | o => o
def SObj.frzOb (h : Nat) (t : Ty) (xs : List t.den) : SObj → Prop
 | .cells _ cs => SV.frzObL h t xs cs
 | _ => True
def frzObH (h : Nat) (t : Ty) (xs : List t.den) : List SObj → Prop
 | [] => True
 | x :: l => x.frzOb h t xs ∧ frzObH h t xs l
theorem frzObH_get {h : Nat} {t : Ty} {xs : List t.den} : ∀ {H : List SObj} {i : Nat} {x : SObj}, frzObH h t xs H → H[i]? = some x → x.frzOb h t xs
 | [], _, _, _, hi => by simp at hi
 | y :: l, 0, x, ho, hi => by simp at hi; subst hi; exact ho.1
 | y :: l, i + 1, x, ho, hi => frzObH_get ho.2 (by simpa using hi)
theorem frz_live {h : Nat} {t : Ty} {xs : List t.den} (x : SObj) : (x.frz h t xs).live = x.live := by cases x <;> rfl

def frzH (h : Nat) (t : Ty) (xs : List t.den) (H : List SObj) : List SObj := (H.map (SObj.frz h t xs)).set h .dead

theorem frzH_get {h : Nat} {t : Ty} {xs : List t.den} {i : Nat} {y : SObj} (hy : (frzH h t xs H)[i]? = some y) (hl : y.live = true) : i ≠ h ∧ ∃ x, H[i]? = some x ∧ y = x.frz h t xs ∧ x.live = true := by
 unfold frzH at hy
 have hne : i ≠ h := fun e => by
  subst e
  rcases Nat.lt_or_ge i (H.map (SObj.frz i t xs)).length with h1 | h1
  · rw [List.getElem?_set_self h1] at hy; cases hy; simp [SObj.live] at hl
  · rw [List.getElem?_eq_none (by simpa using h1)] at hy; cases hy
 rw [List.getElem?_set_ne (Ne.symm hne), List.getElem?_map] at hy
 cases hx : H[i]? with
 | none => simp [hx] at hy
 | some x => simp [hx] at hy; exact ⟨hne, x, rfl, hy.symm, by rw [← hy, frz_live] at hl; exact hl⟩

theorem keep_frz {h n : Nat} {t : Ty} {xs : List t.den} (hH : H[h]? = some (.row t xs)) (hm : H[0]? = some (.mark n)) : (frzH h t xs H)[0]? = some (.mark n) := by
 unfold frzH
 have hne : h ≠ 0 := fun e => by subst e; rw [hm] at hH; cases hH
 rw [List.getElem?_set_ne hne, List.getElem?_map, hm]; rfl
theorem frz_own {C : Cx} {h : Nat} {t : Ty} {xs : List t.den} (hw : Wd C H) (hH : H[h]? = some (.row t xs)) {b : Nat} : OwnB (C.frz h) (frzH h t xs H) b → OwnB C H b ∧ C.ρ h ≠ some b := by
 rintro ⟨i, y, hy, hl, hb⟩
 obtain ⟨hne, x, hxi, rfl, hlx⟩ := frzH_get hy hl
 exact ⟨⟨i, x, hxi, hlx, hb⟩, fun e => hne (hw.inj i h x _ b hxi hH hlx rfl hb e)⟩
theorem wd_frz {E : En} {C : Cx} {h : Nat} {t : Ty} {xs : List t.den} (hw : Wd C H) (hx : Ext E C H) (hH : H[h]? = some (.row t xs)) (hlen : xs.length ≤ 1125899906842624) (ho : frzObH h t xs H) : Wd (C.frz h) (frzH h t xs H) ∧ Ext E (C.frz h) (frzH h t xs H) := by
 have hown : ∀ b, OwnB (C.frz h) (frzH h t xs H) b → OwnB C H b ∧ C.ρ h ≠ some b := by
  rintro b ⟨i, y, hy, hl, hb⟩
  obtain ⟨hne, x, hxi, rfl, hlx⟩ := frzH_get hy hl
  exact ⟨⟨i, x, hxi, hlx, hb⟩, fun e => hne (hw.inj i h x _ b hxi hH hlx rfl hb e)⟩
 have hownh : ∀ b, C.ρ h = some b → OwnB C H b := fun b hb => ⟨h, _, hH, rfl, hb⟩
 refine ⟨⟨by simp [frzH, Cx.frz, hw.n], ?_, ?_, ?_, ?_⟩, ⟨hx.evo.trans (evo_frz C h), hx.size, hx.os, hx.tape, hx.output, hx.frame, ?_, ?_, fun n h0 hn => keep_frz hH (hx.keep0 n h0 hn)⟩⟩
 · intro i y hy
   by_cases hl : y.live = true
   · obtain ⟨hne, x, hxi, rfl, hlx⟩ := frzH_get hy hl
     have hobj := hw.obj i x hxi
     cases x with
     | dead => trivial
     | cells T cs =>
      obtain ⟨b, vs, h1, h2, h3⟩ := hobj
      exact ⟨b, vs, h1, h2, frzL_den hw hH hlen (frzObH_get ho hxi) h3⟩
     | mark n => trivial
     | map kk ks vs => exact objDen_evo (evo_frz C h).I i rfl (fun _ _ => rfl) (denL_evo (evo_frz C h)) hobj
     | row t' ys => exact objDen_evo (evo_frz C h).I i rfl (fun _ _ => rfl) (denL_evo (evo_frz C h)) hobj
   · cases y <;> first | trivial | simp [SObj.live] at hl
 · intro b hb
   obtain ⟨h1, h2⟩ := hown b hb
   have := hw.own b h1
   exact ⟨fun hi => hi.elim this.1 h2, this.2⟩
 · intro i j y y' b hy hy' hl hl' hb hb'
   obtain ⟨_, x, hxi, rfl, hlx⟩ := frzH_get hy hl
   obtain ⟨_, x', hxj, rfl, hlx'⟩ := frzH_get hy' hl'
   exact hw.inj i j x x' b hxi hxj hlx hlx' hb hb'
 · rintro b (hb | hb)
   · exact hw.imm b hb
   · exact (hw.own b (hownh b hb)).2
 · rintro b (hb | hb)
   · exact hx.immNew b hb
   · exact .inr ⟨hx.ownNew b (hownh b hb), (own_unf hw (hownh b hb) : Unf C.w b)⟩
 · intro b hb
   exact hx.ownNew b (hown b hb).1

theorem sound_freeze (h : Nat) {t : Ty} {xs : List t.den} (hH : H[h]? = some (.row t xs)) (hlen : xs.length ≤ 1125899906842624) (ho : frzObH h t xs H) (hot : SV.frzObL h t xs tm) (hs : Sound P AQ ⟨k0, k, SV.frzL h t xs tm, frzH h t xs H⟩) : Sound P AQ ⟨k0, k, tm, H⟩ := by
 intro E r n C a h0 hd
 obtain ⟨g1, g2⟩ := wd_frz hd.wd hd.ext hH hlen ho
 have hdef : DefOk E (C.frz h) (frzH h t xs H) a.defers := ⟨hd.defs.1, Ghost.same hd.wd rfl (fun _ h => .inl h) (fun b hb => orMap hb id fun hb => ⟨h, _, hH, rfl, hb⟩) (fun b hb => (frz_own hd.wd hH hb).1) (fun _ _ hn => keep_frz hH hn) hd.ext.evo.n hd.defs.2⟩
 exact hs E r n (C.frz h) a h0 ⟨g1, g2, hdef, frzL_den hd.wd hH hlen hot hd.tmps⟩

end Go.Sx
set_option linter.unusedSectionVars false
namespace Go.Sx
set_option linter.unusedSimpArgs false
open Go

variable [Ghost] {P : Program} {o : Oper} {ev : Operand → SV} {H : List SObj} {K : Out → List SObj → Prop}

theorem opv_conv_ownStr {src dst : TypeId} {x : Operand} {e' : TypeId} {h n : Nat} {xs : List UInt8} (hop : o.op = .convert src dst x) (hs : P.underlying src = some (.slice e')) (ht : P.underlying dst = some .string) (he : P.underlying e' = some (.int .u8)) (hx : ev x = .bld h .u8 n)
 (hH : H[h]? = some (.row .u8 xs)) (hn : n ≤ xs.length) (hlen : xs.length ≤ 1125899906842624) (hk : K (.ret (.raw (.string (strOf (xs.take n))))) H) : OpV P o ev H K := by
 refine opv_pure (by rw [hop]; intro c hc; cases hc) (fun C e hw hv => ?_) hk
 have h0 := hv x (by rw [hop]; simp [Op.operands])
 rw [hx] at h0
 have h1 := osl_frz hw hH hlen (off := 0) (n := n) (by omega) (bld_osl h0)
 rw [List.drop_zero] at h1
 have hb := bytesToString_run (P := P) h1
 rw [SV.den] at h1
 obtain ⟨A, n', c, e0, _⟩ := h1
 simp only [List.cons.injEq, and_true] at e0
 rw [e0] at hb
 have hb' : (Conv.bytesToString (.slice A n' c)).run P C.w = .ok (.string (strOf (xs.take n))) C.w := hb
 exact ⟨.string (strOf (xs.take n)), by simp [execOp, hop, e0, convert, run_underlying' hs, run_underlying' ht, run_underlying' he, hb', Result.andThen], by rw [SV.den]⟩

mutual
def SV.toV : SV → Option Value
 | .raw v => some v
 | .fn f a b => match SV.toVL a, SV.toVL b with
  | some x, some y => some (.func (.func f) x.toArray y.toArray)
  | _, _ => none
 | .agg l => match SV.toVL l with
  | some x => some (.agg x.toArray)
  | none => none
 | _ => none
def SV.toVL : List SV → Option (List Value)
 | [] => some []
 | s :: l => match SV.toV s, SV.toVL l with
  | some v, some vs => some (v :: vs)
  | _, _ => none
end
mutual
theorem toV_den {C : Cx} : ∀ {s : SV} {v u : Value}, s.toV = some u → s.den C v → v = u
 | .raw _, v, u, h, d => by rw [SV.toV] at h; cases h; rw [SV.den] at d; exact d
 | .fn f a b, v, u, h, d => by
  rw [SV.toV] at h
  split at h
  · rename_i x y h1 h2
    cases h
    rw [SV.den] at d
    obtain ⟨v1, v2, rfl, d1, d2⟩ := d
    rw [toVL_den h1 d1, toVL_den h2 d2]
  · cases h
 | .agg l, v, u, h, d => by
  rw [SV.toV] at h
  split at h
  · rename_i x h1
    cases h
    rw [SV.den] at d
    obtain ⟨vs, rfl, d1⟩ := d
    rw [toVL_den h1 d1]
  · cases h
 | .any, _, _, h, _ => by simp [SV.toV] at h
 | .isl .., _, _, h, _ => by simp [SV.toV] at h
 | .fsl .., _, _, h, _ => by simp [SV.toV] at h
 | .iptr .., _, _, h, _ => by simp [SV.toV] at h
 | .ptr .., _, _, h, _ => by simp [SV.toV] at h
 | .rptr .., _, _, h, _ => by simp [SV.toV] at h
 | .bld .., _, _, h, _ => by simp [SV.toV] at h
 | .osl .., _, _, h, _ => by simp [SV.toV] at h
 | .csl .., _, _, h, _ => by simp [SV.toV] at h
 | .tup _, _, _, h, _ => by simp [SV.toV] at h
 | .iface .., _, _, h, _ => by simp [SV.toV] at h
 | .mp _, _, _, h, _ => by simp [SV.toV] at h
 | .imap .., _, _, h, _ => by simp [SV.toV] at h
theorem toVL_den {C : Cx} : ∀ {l : List SV} {vs us : List Value}, SV.toVL l = some us → SV.denL C l vs → vs = us
 | [], vs, us, h, d => by rw [SV.toVL] at h; cases h; rw [SV.denL] at d; exact d
 | s :: l, vs, us, h, d => by
  rw [SV.toVL] at h
  split at h
  · rename_i v ws h1 h2
    cases h
    rw [SV.denL] at d
    obtain ⟨v', us', rfl, d1, d2⟩ := d
    rw [toV_den h1 d1, toVL_den h2 d2]
  · cases h
end
def SV.ofV : Value → SV
 | .agg cs => .agg (rawL cs.toList)
 | v => .raw v
theorem ofV_den {C : Cx} (v : Value) : (SV.ofV v).den C v := by
 unfold SV.ofV
 split
 · rw [SV.den]; exact ⟨_, by simp, rawL_den _⟩
 · rw [SV.den]

def keyKind (P : Program) (t : TypeId) : Option (Option IntKind) := match P.underlying t with
 | some (.int k) => some (some k)
 | some .string => some none
 | _ => none

theorem keyKind_cases {t : TypeId} {kk : Option IntKind} (h : keyKind P t = some kk) : (∃ k, kk = some k ∧ P.underlying t = some (.int k)) ∨ (kk = none ∧ P.underlying t = some .string) := by
 unfold keyKind at h
 split at h <;> cases h
 · exact .inl ⟨_, rfl, by assumption⟩
 · exact .inr ⟨rfl, by assumption⟩

theorem sameNow_key {t : TypeId} {kk : Option IntKind} {d : TypeDesc} (h : keyKind P t = some kk) (hd : P.underlying t = some d) {k k' : Value} (h1 : keyIs kk k = true) (h2 : keyIs kk k' = true) : Instr.sameNow d k k' = some (keyEq k k') := by
 rcases keyKind_cases h with ⟨q, rfl, hu⟩ | ⟨rfl, hu⟩
 · rw [hu] at hd; cases hd
   cases k <;> simp [keyIs] at h1
   cases k' <;> simp [keyIs] at h2
   subst h1 h2
   simp [Instr.sameNow, keyEq]
   rfl
 · rw [hu] at hd; cases hd
   cases k <;> simp [keyIs] at h1
   cases k' <;> simp [keyIs] at h2
   simp only [Instr.sameNow, keyEq, Option.some.injEq]
   rw [Bool.eq_iff_iff, decide_eq_true_eq]; exact MapKept.bytes_beq _ _

theorem findNow_key {t : TypeId} {kk : Option IntKind} {d : TypeDesc} (h : keyKind P t = some kk) (hd : P.underlying t = some d) {k : Value} (h1 : keyIs kk k = true) : ∀ (es : List MapEntry) (j : Nat), (∀ e ∈ es, keyIs kk e.key = true) →
 Instr.findNow d k es j = some (match findI k (es.map (·.key)) with | some i => some (i + j, (es.map (·.val)).getD i undef) | none => none)
 | [], j, _ => by simp [Instr.findNow, findI]
 | e :: es, j, hk => by
  have h2 := sameNow_key h hd h1 (hk e (by simp))
  have ih := findNow_key h hd h1 es (j + 1) (fun e' he' => hk e' (by simp [he']))
  simp only [Instr.findNow, h2, List.map_cons, findI]
  cases hq : keyEq k e.key
  · simp only [Bool.false_eq_true, if_false, ih]
    cases hf : findI k (es.map (·.key)) with
    | none => rfl
    | some i => simp; omega
  · simp

theorem findKey_run {t : TypeId} {kk : Option IntKind} (h : keyKind P t = some kk) {k : Value} (h1 : keyIs kk k = true) (es : List MapEntry) (hk : ∀ e ∈ es, keyIs kk e.key = true) (w : World) :
 (Instr.findKey t k es).run P w = .ok (match findI k (es.map (·.key)) with | some i => some (i, (es.map (·.val)).getD i undef) | none => none) w := by
 have : ∃ d, P.underlying t = some d := by rcases keyKind_cases h with ⟨q, _, hu⟩ | ⟨_, hu⟩ <;> exact ⟨_, hu⟩
 obtain ⟨d, hd⟩ := this
 have := findNow_key h hd h1 es 0 hk
 simp only [Instr.findKey, Sem.run_bind, run_underlying' hd, Result.andThen, this]
 cases findI k (es.map (·.key)) <;> simp

theorem isKey_of {t : TypeId} {kk : Option IntKind} (h : keyKind P t = some kk) {k : Value} (hk : keyIs kk k = true) : ∃ d, P.underlying t = some d ∧ MapKept.IsKey d k := by
 rcases keyKind_cases h with ⟨q, rfl, hu⟩ | ⟨rfl, hu⟩
 · exact ⟨_, hu, by cases k <;> simp [keyIs] at hk; simp [MapKept.IsKey, hk]⟩
 · exact ⟨_, hu, by cases k <;> simp [keyIs] at hk; simp [MapKept.IsKey]⟩
theorem checkKey_run {t : TypeId} {kk : Option IntKind} (h : keyKind P t = some kk) {b : Bool} {k : Value} (hk : keyIs kk k = true) (w : World) : (Instr.checkKey b 10000 t k).run P w = .ok () w := by
 obtain ⟨d, hd, hi⟩ := isKey_of h hk
 exact MapKept.run_checkKey hd hi b 9999

theorem findI_lt : ∀ {k : Value} {ks : List Value} {i : Nat}, findI k ks = some i → i < ks.length ∧ ∃ k', ks[i]? = some k' ∧ keyEq k k' = true
 | k, [], i, h => by simp [findI] at h
 | k, k' :: ks, i, h => by
  simp only [findI] at h
  split at h
  · cases h; exact ⟨by simp, k', rfl, by assumption⟩
  · simp only [Option.map_eq_some_iff] at h
    obtain ⟨j, hj, rfl⟩ := h
    obtain ⟨h1, k'', h2, h3⟩ := findI_lt hj
    exact ⟨by simpa using h1, k'', by simpa using h2, h3⟩
theorem keyEq_bits {kk : Option IntKind} {k k' : Value} (h1 : keyIs kk k = true) (h2 : keyIs kk k' = true) (h : keyEq k k' = true) : k' = k := by
 cases kk <;> cases k <;> simp [keyIs] at h1 <;> cases k' <;> simp [keyIs] at h2 <;> simp [keyEq] at h <;> subst_vars <;> rfl

theorem opv_makeMap {T : TypeId} (kk : Option IntKind) (hop : o.op = .makeMap T none) (hk : K (.ret (.mp H.length)) (H ++ [.map kk [] []])) : OpV P o ev H K := by
 refine opv_eff (by rw [hop]; intro c hc; cases hc) fun C e hw _ => ?_
 obtain ⟨g1, g2⟩ := wd_grow hw (.map #[] 0) (.map kk [] []) ⟨C.w.heap.size, by simp [Cx.grow], #[], 0, alloc_new _ _, rfl, rfl, by simp⟩
 refine ⟨_, .map (some C.w.heap.size), _, _, hk, .inl ?_, g1, g2, ?_⟩
 · simp [execOp, hop, Instr.makeMap, Cx.grow, Result.andThen]
 · rw [SV.den]; exact ⟨by simp [Cx.grow, hw.n], C.w.heap.size, by simp [Cx.grow, hw.n], rfl⟩

def mput (ks vs : List Value) (k v : Value) : List Value × List Value :=
 match findI k ks with
 | some i => (ks, vs.set i v)
 | none => (ks ++ [k], vs ++ [v])

theorem opv_mapUpdate {T kt et : TypeId} {m k x : Operand} {h : Nat} {kk : Option IntKind} {ks vs : List Value} {kv xv : Value} (hop : o.op = .mapUpdate T m k x ∨ o.op = .insert T m k x) (hT : P.underlying T = some (.map kt et)) (hkk : keyKind P kt = some kk)
 (hm : ev m = .mp h) (hkv : ev k = .raw kv) (hki : keyIs kk kv = true) (hx : (ev x).toV = some xv) (hH : H[h]? = some (.map kk ks vs)) (hk : K (.ret .any) (H.set h (.map kk (mput ks vs kv xv).1 (mput ks vs kv xv).2))) : OpV P o ev H K := by
 refine opv_eff (by rcases hop with h | h <;> (rw [h]; intro c hc; cases hc)) fun C e hw hv => ?_
 have v1 := hv m (by rcases hop with h | h <;> (rw [h]; simp [Op.operands]))
 have v2 := hv k (by rcases hop with h | h <;> (rw [h]; simp [Op.operands]))
 have v3 := toV_den hx (hv x (by rcases hop with h | h <;> (rw [h]; simp [Op.operands])))
 rw [hm, SV.den] at v1
 rw [hkv, SV.den] at v2
 obtain ⟨_, b, hb, v1⟩ := v1
 obtain ⟨b', hb', es, clock, hes, hks, hvs, hall⟩ := hw.obj h _ hH
 rw [hb] at hb'; cases hb'
 have hke : ∀ e ∈ es.toList, keyIs kk e.key = true := fun e he => hall _ (by rw [← hks]; exact List.mem_map_of_mem he)
 have hfind := fun w => findKey_run (P := P) hkk hki es.toList hke w
 have main : ∀ es' clock', (es'.toList.map (·.key), es'.toList.map (·.val)) = mput ks vs kv xv → (Instr.mapUpdate T (e m) (e k) (e x)).run P C.w = .ok () { C.w with heap := C.w.heap.setIfInBounds b (.map es' clock') } →
  ∃ s v H' C', K (.ret s) H' ∧ ((execOp e o).run P C.w = .ok (.value v) C'.w ∨ ((execOp e o).run P C.w = .ok .skip C'.w ∧ v = undef)) ∧ Wd C' H' ∧ Ext ⟨C, H⟩ C' H' ∧ s.den C' v := fun es' clock' hput hrun => by
  have hlt : b < C.w.heap.size := (Array.getElem?_eq_some_iff.1 hes).1
  have hkeys : ∀ k' ∈ (mput ks vs kv xv).1, keyIs kk k' = true := by
   unfold mput
   split
   · exact hall
   · intro k' hk'
     rcases List.mem_append.1 hk' with h1 | h1
     · exact hall k' h1
     · rw [List.mem_singleton.1 h1]; exact hki
  obtain ⟨g1, g2, g3⟩ := wd_upd (so' := .map kk (mput ks vs kv xv).1 (mput ks vs kv xv).2) hw hH rfl rfl hb { C.w with heap := C.w.heap.setIfInBounds b (.map es' clock') } (fun b' hb' => by simp [Ne.symm hb']) (by simp)
   (fun m hm => by unfold World.bsize at hm; rw [hes] at hm; cases hm) rfl rfl rfl
   ⟨b, hb, es', clock', by simp [hlt], by rw [← hput], by rw [← hput], hkeys⟩
  refine ⟨_, undef, _, _, hk, .inr ⟨?_, rfl⟩, g1, g2, by rw [SV.den]; trivial⟩
  rcases hop with h | h <;> simp [execOp, h, hrun, Result.andThen]
 cases hf : findI kv ks with
 | none =>
  refine main (es.push { key := kv, val := xv, born := clock }) (clock + 1) (by simp [mput, hf, hks, hvs]) ?_
  simp [Instr.mapUpdate, run_underlying' hT, v1, v2, v3, hes, checkKey_run hkk hki, MapKept.run_getObj_map hes, MapKept.run_setObj_map _ hes, hfind, hks, hf, Result.andThen]
 | some i =>
  obtain ⟨hi, k', hk', hkeq⟩ := findI_lt hf
  have hkk' : k' = kv := keyEq_bits hki (hall k' (List.mem_of_getElem? hk')) hkeq
  subst hkk'
  have hes' : (es[i]?).map (·.key) = some k' := by
   rw [← hks] at hk'
   simpa using hk'
  have hbits : (Instr.keyThatStays k' k').run P C.w = .ok k' C.w := by
   obtain ⟨d, hd, hi⟩ := isKey_of hkk hki
   exact MapKept.run_keyThatStays hi
  have hlen : es.toList.length = ks.length := by rw [← hks]; simp
  refine main (es.modify i fun e => { e with key := k', val := xv }) clock ?_ ?_
  · simp only [mput, hf, Prod.mk.injEq]
    constructor
    · rw [← hks]
      apply List.ext_getElem?
      intro j
      by_cases hj : j = i
      · subst hj
        simp only [Array.toList_modify, List.getElem?_map, List.getElem?_modify]
        have : (es.toList[j]?).map (·.key) = some k' := by simpa using hes'
        cases he : es.toList[j]? with
        | none => simp
        | some e => simp [he] at this; simp [this]
      · simp [Array.toList_modify, List.getElem?_modify, Ne.symm hj]
    · rw [← hvs]
      apply List.ext_getElem?
      intro j
      have hil : i < es.toList.length := by omega
      by_cases hj : j = i
      · subst hj
        simp only [Array.toList_modify, List.getElem?_map, List.getElem?_modify, if_true]
        rw [List.getElem?_set_self (by simpa using hil), List.getElem?_eq_getElem hil]
        simp
      · rw [List.getElem?_set_ne (Ne.symm hj)]
        simp [Array.toList_modify, List.getElem?_modify, Ne.symm hj]
  · simp [Instr.mapUpdate, run_underlying' hT, v1, v2, v3, hes, checkKey_run hkk hki, MapKept.run_getObj_map hes, MapKept.run_setObj_map _ hes, hfind, hks, hf, Result.andThen, hes', hbits]

def mget (ks vs : List Value) (z k : Value) : Value × Bool :=
 match findI k ks with
 | some i => (vs.getD i undef, true)
 | none => (z, false)
def mres (ok : Bool) (p : Value × Bool) : SV := if ok then .tup [.ofV p.1, .raw (.bool p.2)] else .ofV p.1

def zeroOf (P : Program) (t : TypeId) : Option Value := (P.info? t).bind (·.zero)
theorem zeroOf_run {t : TypeId} {z : Value} (h : zeroOf P t = some z) (w : World) : (zeroValue t).run P w = .ok z w := by
 unfold zeroOf at h
 cases hi : P.info? t with
 | none => simp [hi] at h
 | some i =>
  simp [hi] at h
  simp [zeroValue, typeInfo, hi, h]

def mapOf (H : List SObj) : SV → Option (Option IntKind × List Value × List Value)
 | .mp h => match H[h]? with
  | some (.map kk ks vs) => some (kk, ks, vs)
  | _ => none
 | .imap kk ks vs => some (kk, ks, vs)
 | _ => none
theorem mapOf_den {C : Cx} {s : SV} {v : Value} {kk : Option IntKind} {ks vs : List Value} (hw : Wd C H) (h : mapOf H s = some (kk, ks, vs)) (d : s.den C v) : ∃ b, v = .map (some b) ∧ mapAt C.w b kk ks vs := by
 unfold mapOf at h
 split at h
 · split at h
   · rename_i hH
     cases h
     rw [SV.den] at d
     obtain ⟨_, b, hb, hv⟩ := d
     obtain ⟨b', hb', hm⟩ := hw.obj _ _ hH
     rw [hb] at hb'; cases hb'
     exact ⟨b, hv, hm⟩
   · cases h
 · cases h
   rw [SV.den] at d
   obtain ⟨b, hv, _, hm⟩ := d
   exact ⟨b, hv, hm⟩
 · cases h

theorem opv_lookup {T kt et : TypeId} {m k : Operand} {ok : Bool} {kk : Option IntKind} {ks vs : List Value} {kv z : Value} (hop : o.op = .lookup T m k ok) (hT : P.underlying T = some (.map kt et)) (hkk : keyKind P kt = some kk) (hz : zeroOf P et = some z)
 (hm : mapOf H (ev m) = some (kk, ks, vs)) (hkv : ev k = .raw kv) (hki : keyIs kk kv = true) (hk : K (.ret (mres ok (mget ks vs z kv))) H) : OpV P o ev H K := by
 refine opv_pure (by rw [hop]; intro c hc; cases hc) (s := mres ok (mget ks vs z kv)) (fun C e hw hv => ?_) hk
 have v1 := hv m (by rw [hop]; simp [Op.operands])
 have v2 := hv k (by rw [hop]; simp [Op.operands])
 rw [hkv, SV.den] at v2
 obtain ⟨b, v1, es, clock, hes, hks, hvs, hall⟩ := mapOf_den hw hm v1
 have hke : ∀ e ∈ es.toList, keyIs kk e.key = true := fun e he => hall _ (by rw [← hks]; exact List.mem_map_of_mem he)
 have hfind := findKey_run (P := P) hkk hki es.toList hke C.w
 refine ⟨if ok then .tuple #[(mget ks vs z kv).1, .bool (mget ks vs z kv).2] else (mget ks vs z kv).1, ?_, ?_⟩
 · unfold mget
   cases hf : findI kv ks with
   | none => simp [execOp, hop, Instr.lookup, run_underlying' hT, v1, v2, hes, checkKey_run hkk hki, MapKept.run_getObj_map hes, MapKept.run_setObj_map _ hes, hfind, hks, hf, Result.andThen, zeroOf_run hz]
   | some i => simp [execOp, hop, Instr.lookup, run_underlying' hT, v1, v2, hes, checkKey_run hkk hki, MapKept.run_getObj_map hes, MapKept.run_setObj_map _ hes, hfind, hks, hvs, hf, Result.andThen]
 · unfold mres
   cases ok
   · simp only [Bool.false_eq_true, if_false]; exact ofV_den _
   · simp only [if_true]
     rw [SV.den]
     exact ⟨[(mget ks vs z kv).1, .bool (mget ks vs z kv).2], rfl, denL_cons.2 ⟨_, _, rfl, ofV_den _, denL_cons.2 ⟨_, _, rfl, by rw [SV.den], denL_nil.2 rfl⟩⟩⟩

theorem opv_len_map {c : Call} {t kt et : TypeId} {x : Operand} {kk : Option IntKind} {ks vs : List Value} (hop : o.op = .call c) (hc : c.callee = .builtin .len) (ha : c.args = #[x]) (hty : c.argTypes = #[t]) (hT : P.underlying t = some (.map kt et))
 (hm : mapOf H (ev x) = some (kk, ks, vs)) (hk : K (.ret (.raw (.int .i64 ks.length))) H) : OpV P o ev H K := by
 refine opv_pure (by rw [hop]; intro c hc; cases hc) (fun C e hw hv => ?_) hk
 have h0 := hv x (by rw [hop]; simp [Op.operands, Call.operands, hc, ha])
 obtain ⟨b, v1, es, clock, hes, hks, hvs, hall⟩ := mapOf_den hw hm h0
 refine ⟨.int .i64 ks.length, ?_, by rw [SV.den]⟩
 have hl : es.size = ks.length := by rw [← hks]; simp
 have hrun : (Builtin.len_ #[t] o.type #[e x]).run P C.w = .ok (.int .i64 ks.length) C.w := by
  simp [Builtin.len_, v1, run_underlying' hT, MapKept.run_getObj_map hes, goInt, Result.andThen, hl]
 simp [execOp, hop, resolve, hc, ha, hty, invoke, builtin, hrun, Result.andThen]
end Go.Sx
set_option linter.unusedSectionVars false
namespace Go.Sx
open Go

variable [Ghost] {P : Program} {o : Oper} {ev : Operand → SV} {H : List SObj} {K : Out → List SObj → Prop} {t : Ty}

theorem OpV.weaken {ev' : Operand → SV} (h : OpV P o ev' H K) (hle : ∀ x, SV.le (ev x) (ev' x)) : OpV P o ev H K :=
 fun E C r n a next Q hw hg hv h1 h2 => h E C r n a next Q hw hg (fun x hx => hle x C _ (hv x hx)) h1 h2

theorem splice_get {α : Type} {vs us : List α} {o : Nat} (h : o + us.length ≤ vs.length) (j : Nat) :
 (splice vs o us)[j]? = if j < o then vs[j]? else if j < o + us.length then us[j - o]? else vs[j]? := by
 unfold splice
 rcases Nat.lt_or_ge j o with h1 | h1
 · rw [if_pos h1, List.getElem?_append_left (by simp; omega), List.getElem?_append_left (by simp; omega), List.getElem?_take, if_pos h1]
 · rw [if_neg (by omega)]
   rcases Nat.lt_or_ge j (o + us.length) with h2 | h2
   · rw [if_pos h2, List.getElem?_append_left (by simp; omega), List.getElem?_append_right (by simp; omega)]
     congr 1; simp; omega
   · rw [if_neg (by omega), List.getElem?_append_right (by simp; omega), List.getElem?_drop]
     congr 1; simp; omega

theorem opv_store_rptr {ty : TypeId} {x y : Operand} {h i kk n : Nat} {xs : List t.den} {ds : List SV} {d' : t.den} {p : Prop} (hop : o.op = .store ty x y) (hs : (P.info? ty).map (·.size) = some n) (he : ev x = .rptr h t i kk)
 (hH : H[h]? = some (.row t xs)) (hi : i < xs.length) (hf : (ev y).flat = some ds) (hn : ds.length = n) (hb : kk + n ≤ t.size) (h1 : ones ds = true)
 (hr : t.rd (splice (t.cells (xs.getD i t.dflt)) kk ds) = some (d', p)) (hp : p) (hk : K (.ret .any) (H.set h (.row t (xs.set i d')))) : OpV P o ev H K := by
 refine opv_eff (by rw [hop]; intro c hc; cases hc) fun C e hw hv => ?_
 have hx := hv x (by rw [hop]; simp [Op.operands])
 have hy := flat_den hf (hv y (by rw [hop]; simp [Op.operands]))
 rw [he, SV.den] at hx
 obtain ⟨_, b, hbb, hx⟩ := hx
 rcases hw.obj h _ hH with ⟨_, h2⟩ | ⟨b', arr, T, fz, hb', hcell, hfz, hsz, hrow⟩
 · subst h2; simp at hi
 rw [hbb] at hb'; cases hb'
 have hlen : (e y).cells.toList.length = n := by rw [denL_length hy, hn]
 have hin : i * t.size + kk + n ≤ arr.toList.length := by
  rw [Array.length_toList]
  have : (i + 1) * t.size ≤ xs.length * t.size := Nat.mul_le_mul_right _ hi
  rw [Nat.add_mul] at this
  omega
 have hcell' : C.w.heap[b]? = some (.cells arr.toList.toArray T fz) := by rw [hcell]
 have hrun : (storeCells ⟨b, i * t.size + kk, none⟩ (e y).cells.toList 0).run P C.w = .ok () (C.w.setCells b (i * t.size + kk + 0) (e y).cells.toList) := run_storeCells_cells b (i * t.size + kk) _ 0 C.w
  (fun j hj => by rw [cell_of_cells hcell']; rw [List.getElem?_eq_getElem (by omega)]; rfl)
  (fun j hj => by
   have := hfz (i * t.size + kk + 0 + j) (by rw [Array.length_toList] at hin; omega)
   simp only [World.frozen?, hcell]
   rw [Bool.and_eq_false_iff]
   simp only [decide_eq_false_iff_not]
   omega) (ones_den h1 hy)
 rw [Nat.add_zero] at hrun
 have hfit : i * t.size + kk + (e y).cells.toList.length ≤ arr.toList.length := by omega
 have hnew := setCells_heap (e y).cells.toList (i * t.size + kk) C.w arr.toList hcell' hfit
 have hkeep : Keeps C.I C.I C.w (C.w.setCells b (i * t.size + kk) (e y).cells.toList) := fun b' hi' => ⟨hi', setCells_other (fun (eq : b' = b) => (hw.own b ⟨h, _, hH, rfl, hbb⟩).1 (eq ▸ hi')) _ _ _⟩
 have hbs : ∀ m, World.bsize C.w b = some m → World.bsize (C.w.setCells b (i * t.size + kk) (e y).cells.toList) b = some m := fun m hm => by
  unfold World.bsize at hm ⊢
  rw [hnew]; rw [hcell] at hm
  simp only [List.size_toArray] at hm ⊢
  rw [splice_length hfit, Array.length_toList]; exact hm
 have hev : Evo C { C with w := C.w.setCells b (i * t.size + kk) (e y).cells.toList } := ⟨Nat.le_refl _, fun _ _ => rfl, hkeep, fun b' m hm => by
  by_cases hbb' : b' = b
  · subst hbb'; exact hbs m hm
  · unfold World.bsize at hm ⊢; rw [setCells_other hbb']; exact hm⟩
 obtain ⟨g1, g2, g3⟩ := wd_upd (so' := .row t (xs.set i d')) hw hH rfl rfl hbb (C.w.setCells b (i * t.size + kk) (e y).cells.toList) (fun b' hb' => setCells_other hb' _ _ _) (setCells_size _ _ _)
  hbs (setCells_os _ _ _) (setCells_tape _ _ _) (setCells_output _ _ _)
  (.inr ⟨b, _, T, fz, hbb, hnew, by rw [List.size_toArray, splice_length hfit, Array.length_toList]; exact hfz, by rw [List.length_set]; have := splice_length hfit; rw [Array.length_toList] at this; simp only [List.size_toArray, this]; exact hsz, fun j d hd => by
   by_cases hj : j = i
   · subst hj
     rw [List.getElem?_set_self hi] at hd
     cases hd
     have hold : xs[j]? = some (xs.getD j t.dflt) := by rw [List.getD_eq_getElem?_getD, List.getElem?_eq_getElem hi]; rfl
     obtain ⟨us, r1, r2⟩ := hrow j _ hold
     have hul := Ty.rel_size _ _ _ r1
     refine ⟨splice us kk (e y).cells.toList, ?_, fun k u hu => ?_⟩
     · refine Ty.rd_rel (C := { C with w := C.w.setCells b (j * t.size + kk) (e y).cells.toList }) _ _ _ _ _ hr hp (denL_evo hev (denL_splice (Ty.cells_den _ _ _ r1) hy))
     · have hlt := (List.getElem?_eq_some_iff.1 hu).1
       rw [splice_length (by omega)] at hlt
       rw [cell_of_cells hnew, splice_get hfit]
       rw [splice_get (by omega)] at hu
       rw [Nat.zero_add]
       have hc := fun u hu => r2 k u hu
       simp only [Nat.zero_add] at hc
       rw [cell_of_cells hcell'] at hc
       split at hu
       · rw [if_pos (by omega)]; exact hc u hu
       · rw [if_neg (by omega)]
         split at hu
         · rw [if_pos (by omega), ← hu]; congr 1; omega
         · rw [if_neg (by omega)]; exact hc u hu
   · rw [List.getElem?_set_ne (Ne.symm hj)] at hd
     obtain ⟨us, r1, r2⟩ := hrow j d hd
     have hul := Ty.rel_size _ _ _ r1
     refine ⟨us, Ty.rel_keep hkeep _ _ _ r1, fun k u hu => ?_⟩
     have hlt := (List.getElem?_eq_some_iff.1 hu).1
     have hc := r2 k u hu
     simp only [Nat.zero_add] at hc ⊢
     rw [cell_of_cells hcell'] at hc
     rw [cell_of_cells hnew, splice_get hfit]
     rcases Nat.lt_or_gt_of_ne hj with hj | hj
     · have : (j + 1) * t.size ≤ i * t.size := Nat.mul_le_mul_right _ hj
       rw [Nat.add_mul] at this
       rw [if_pos (by omega)]; exact hc
     · have : (i + 1) * t.size ≤ j * t.size := Nat.mul_le_mul_right _ hj
       rw [Nat.add_mul] at this
       rw [if_neg (by omega), if_neg (by omega)]; exact hc⟩)
 refine ⟨_, undef, _, _, hk, .inr ⟨?_, rfl⟩, g1, g2, by rw [SV.den]; trivial⟩
 have hsz' : (e y).cells.size = n := by rw [← Array.length_toList]; exact hlen
 simp [execOp, hop, hx, Instr.storeAt, Instr.sureAddr, Result.andThen, storeVar, run_sizeOf hs, hsz', hrun]

theorem range_period {α : Type} (f : Nat → α) (s : Nat) (hf : ∀ j, f (s + j) = f j) : ∀ n, (List.range ((n + 1) * s)).map f = (List.range s).map f ++ (List.range (n * s)).map f := by
 intro n
 rw [Nat.add_mul, Nat.one_mul, Nat.add_comm (n * s) s, List.range_add, List.map_append, List.map_map]
 congr 1
 apply List.map_congr_left
 intro j _
 exact hf j
theorem relL_zeros {I : Nat → Prop} {w : World} {d : t.den} {zl : List Value} (f : Nat → Value) (hz : (List.range t.size).map f = zl) (hf : ∀ j, f (t.size + j) = f j) (hd : t.rel I w d zl) : ∀ n, relL I w t (List.replicate n d) ((List.range (n * t.size)).map f)
 | 0 => by simp [relL]
 | n + 1 => by
  rw [range_period f t.size hf, hz, List.replicate_succ]
  exact ⟨_, _, rfl, hd, relL_zeros f hz hf hd n⟩

def Ty.isZero : Ty → List Value → Bool
 | .u8, [.int .u8 n] => n == 0
 | .int k, [.int k' n] => k == k' && n == 0
 | .bool, [.bool b] => !b
 | .str, [.string s] => s.size == 0
 | .slice _, [.slice none 0 0] => true
 | .prod a b, vs => a.isZero (vs.take a.size) && b.isZero (vs.drop a.size)
 | .unit, [] => true
 | _, _ => false
theorem Ty.isZero_rel {I : Nat → Prop} {w : World} : ∀ {t : Ty} {vs : List Value}, t.isZero vs = true → t.rel I w t.dflt vs
 | .prod a b, vs, h => by
  simp only [Ty.isZero, Bool.and_eq_true] at h
  exact ⟨_, _, (List.take_append_drop a.size vs).symm, isZero_rel h.1, isZero_rel h.2⟩
 | .u8, vs, h => by
  unfold Ty.isZero at h
  split at h <;> first | (cases h; done) | skip
  all_goals simp_all [Ty.rel, Ty.dflt]
 | .int k, vs, h => by
  unfold Ty.isZero at h
  split at h <;> first | (cases h; done) | skip
  all_goals simp_all [Ty.rel, Ty.dflt]
 | .bool, vs, h => by
  unfold Ty.isZero at h
  split at h <;> first | (cases h; done) | skip
  all_goals simp_all [Ty.rel, Ty.dflt]
 | .str, vs, h => by
  unfold Ty.isZero at h
  split at h <;> first | (cases h; done) | skip
  all_goals simp_all [Ty.rel, Ty.dflt]
 | .slice t, vs, h => by
  unfold Ty.isZero at h
  split at h <;> first | (cases h; done) | skip
  all_goals simp_all [Ty.rel, Ty.dflt]
  all_goals exact ⟨_, _, _, ⟨rfl, rfl, rfl⟩, rfl, Nat.le_refl _, by omega⟩
 | .unit, vs, h => by
  unfold Ty.isZero at h
  split at h <;> first | (cases h; done) | skip
  all_goals simp_all [Ty.rel, Ty.dflt]

theorem opv_makeSlice {T e : TypeId} {x y : Operand} {i : TypeInfo} {z : Value} {k1 k2 : IntKind} {n c : Int} (hop : o.op = .makeSlice T x y) (ht : P.underlying T = some (.slice e)) (hi : P.info? e = some i) (hz : i.zero = some z) (hsz : i.size = t.size) (hzs : z.cells.size = t.size) (hpos : 0 < t.size)
 (hx : ev x = .raw (.int k1 n)) (hy : ev y = .raw (.int k2 c)) (h0 : 0 ≤ n) (hnc : n ≤ c) (hc : c.toNat * i.bytes ≤ 140737488355328) (hc2 : c ≤ 1125899906842624) (hd : t.isZero z.cells.toList = true)
 (hk : K (.ret (.bld H.length t n.toNat)) (H ++ [.row t (List.replicate n.toNat t.dflt)])) : OpV P o ev H K := by
 refine opv_eff (by rw [hop]; intro c hc; cases hc) fun C e' hw hv => ?_
 have h1 := hv x (by rw [hop]; simp [Op.operands])
 have h2 := hv y (by rw [hop]; simp [Op.operands])
 rw [hx, SV.den] at h1
 rw [hy, SV.den] at h2
 let f : Nat → Value := fun j => z.cells[j % z.cells.size]!
 have hf0 : (List.range t.size).map f = z.cells.toList := by
  apply List.ext_getElem
  · simp [hzs]
  · intro j h1 h2
    simp only [List.getElem_map, List.getElem_range, f]
    have hj : j < z.cells.size := by simpa using h2
    rw [Nat.mod_eq_of_lt hj, getElem!_pos z.cells j hj]
    simp
 have hf1 : ∀ j, f (t.size + j) = f j := fun j => by simp only [f, hzs]; rw [Nat.add_mod_left]
 have hsplit : (List.range (c.toNat * t.size)).map f = (List.range (n.toNat * t.size)).map f ++ ((List.range ((c.toNat - n.toNat) * t.size)).map (n.toNat * t.size + ·)).map f := by
  rw [← List.map_append, ← List.range_add, ← Nat.add_mul]
  congr 3; omega
 have hr := relL_zeros (I := C.I) (w := C.w) f hf0 hf1 (Ty.isZero_rel hd) n.toNat
 obtain ⟨q1, q2, q3⟩ := new_row (T := e) (rest := ((List.range ((c.toNat - n.toNat) * t.size)).map (n.toNat * t.size + ·)).map f) hw (n := n.toNat) (c := c.toNat) hr (by simp) (by omega) (by
  simp only [List.length_map, List.length_range, ← Nat.add_mul]
  exact Nat.mul_le_mul_right _ (by omega))
 refine ⟨_, _, _, _, hk, .inl ?_, q1, q2, q3⟩
 have hbig : (i.bytes : Int) * c ≤ 281474976710656 := by
  have : ((c.toNat * i.bytes : Nat) : Int) = (i.bytes : Int) * c := by
   rw [Int.natCast_mul, Int.toNat_of_nonneg (by omega), Int.mul_comm]
  omega
 have harr : madeCells z.cells (c.toNat * i.size) = ((List.range (n.toNat * t.size)).map f ++ ((List.range ((c.toNat - n.toNat) * t.size)).map (n.toNat * t.size + ·)).map f).toArray := by
  rw [← hsplit, hsz]
  apply Array.ext'
  simp [madeCells, f]
 have hrun := run_make C.w T e i z ht hi hz k1 k2 n c h0 hnc hbig (by omega)
 rw [harr] at hrun
 simp only [execOp, hop, Sem.run_bind, h1, h2, hrun, Result.andThen, Sem.run_pure]
 rfl

theorem new_rowF {C : Cx} (hw : Wd C H) {xs : List t.den} {vs rest : List Value} {T : TypeId} {n c : Nat} {fz : Nat × Nat} (hr : relL C.I C.w t xs vs) (hnc : n ≤ c) (hc : c * t.size ≤ vs.length + rest.length) (hfz : ∀ i, i < (vs ++ rest).length → ¬ (fz.1 ≤ i ∧ i < fz.2)) :
 Wd (C.grow (.cells (vs ++ rest).toArray T fz)) (H ++ [.row t xs]) ∧ Ext ⟨C, H⟩ (C.grow (.cells (vs ++ rest).toArray T fz)) (H ++ [.row t xs]) ∧
  (SV.bld H.length t n).den (C.grow (.cells (vs ++ rest).toArray T fz)) (.slice (some ⟨C.w.heap.size, 0, none⟩) n c) := by
 have he := evo_grow hw.imm (.cells (vs ++ rest).toArray T fz)
 have hl := relL_length hr
 obtain ⟨g1, g2⟩ := wd_grow hw (.cells (vs ++ rest).toArray T fz) (.row t xs) (by
  refine .inr ⟨C.w.heap.size, (vs ++ rest).toArray, T, fz, by simp [Cx.grow], alloc_new _ _, by simpa using hfz, by simp [← hl], ?_⟩
  refine rowAt_of (relL_keep he.I hr) fun j u hu => ?_
  have : (C.grow (.cells (vs ++ rest).toArray T fz)).w.heap[C.w.heap.size]? = some (.cells (vs ++ rest).toArray T fz) := alloc_new _ _
  rw [Nat.zero_add, cell_of_cells this, List.getElem?_append_left (List.getElem?_eq_some_iff.1 hu).1]
  exact hu)
 refine ⟨g1, g2, ?_⟩
 rw [SV.den]
 refine ⟨by simp [Cx.grow, hw.n], .inr ⟨C.w.heap.size, c, (vs ++ rest).length, by simp [Cx.grow, hw.n], rfl, hnc, ?_, by simpa using hc⟩⟩
 unfold World.bsize
 rw [show (C.grow (.cells (vs ++ rest).toArray T fz)).w.heap[C.w.heap.size]? = some (.cells (vs ++ rest).toArray T fz) from alloc_new _ _]
 simp

theorem opv_conv_toB {src dst e : TypeId} {x : Operand} {s : ByteArray} (hop : o.op = .convert src dst x) (hs : P.underlying src = some .string) (hd : P.underlying dst = some (.slice e)) (he : P.underlying e = some (.int .u8)) (hx : ev x = .raw (.string s))
 (hk : K (.ret (.bld H.length .u8 s.size)) (H ++ [.row .u8 (bytesOf s)])) : OpV P o ev H K := by
 refine opv_eff (by rw [hop]; intro c hc; cases hc) fun C e' hw hv => ?_
 have h1 := hv x (by rw [hop]; simp [Op.operands])
 rw [hx, SV.den] at h1
 have hrun := run_bytes_of_string (P := P) C.w src dst e s hs hd he
 have hcap : s.size ≤ grownCap C.w s.size 0 e := by simp [grownCap, Question.cut]
 have harr : bytesRow s (grownCap C.w s.size 0 e) = ((bytesOf s).map (fun b : UInt8 => Value.int .u8 b.toNat) ++ List.replicate (grownCap C.w s.size 0 e - s.size) (Value.int .u8 0)).toArray := by
  apply Array.ext'
  simp [bytesRow, bytesOf]
 have hbl : (bytesOf s).length = s.size := Array.length_toList
 obtain ⟨q1, q2, q3⟩ := new_rowF (t := .u8) (T := e) (H := H) (fz := ((bytesRow s (grownCap C.w s.size 0 e)).size, (bytesRow s (grownCap C.w s.size 0 e)).size + 1)) (rest := List.replicate (grownCap C.w s.size 0 e - s.size) (Value.int .u8 0)) (wd_drew hw) (n := s.size) (c := grownCap C.w s.size 0 e)
  (relL_bytes C.drew.I C.drew.w (bytesOf s)) hcap (by simp [Ty.size, hbl]; omega) (by
   intro i hi
   rw [harr]
   simp only [List.size_toArray]
   omega)
 refine ⟨_, _, _, _, hk, .inl ?_, q1, (ext_drew C H).trans q2, q3⟩
 simp only [execOp, hop, h1, Sem.run_bind, hrun, Result.andThen, Sem.run_pure]
 rw [← harr]
 rfl

theorem fsl_isl {xs : List t.den} : SV.le (.fsl t xs) (.isl t xs) := fun C v h => by simp only [SV.den] at h ⊢; exact h.1
def SV.wk : SV → SV
 | .fsl t xs => .isl t xs
 | s => s
theorem wk_le (s : SV) : SV.le s s.wk := by
 cases s <;> first | exact SV.le_refl _ | exact fsl_isl

theorem imm_new {C : Cx} (hw : Wd C H) {xs : List t.den} {vs rest : List Value} {T : TypeId} {c : Nat} (hr : relL C.I C.w t xs vs) (hc : xs.length ≤ c) (hlen : xs.length ≤ 1125899906842624) :
 ∃ C', C'.w = C.w.alloc (.cells (vs ++ rest).toArray T) ∧ Wd C' H ∧ Ext ⟨C, H⟩ C' H ∧ (SV.isl t xs).den C' (.slice (some ⟨C.w.heap.size, 0, none⟩) xs.length c) := by
 let D : Cx := { C with I := fun b => C.I b ∨ b = C.w.heap.size, w := C.w.alloc (.cells (vs ++ rest).toArray T) }
 have hsz : D.w.heap.size = C.w.heap.size + 1 := by show (C.w.heap.push _).size = _; simp
 have hk : Keeps C.I D.I C.w D.w := fun b hb => ⟨.inl hb, alloc_old _ _ (hw.imm b hb)⟩
 have hev : Evo C D := ⟨Nat.le_refl _, fun _ _ => rfl, hk, fun b m hm => by
  have := bsize_lt hm
  unfold World.bsize at hm ⊢
  rw [alloc_old _ _ this]; exact hm⟩
 have hnew : D.w.heap[C.w.heap.size]? = some (.cells (vs ++ rest).toArray T) := alloc_new _ _
 refine ⟨D, rfl, ⟨hw.n, fun h o ho => ?_, fun b hb => ?_, hw.inj, ?_⟩, ⟨hev, by rw [hsz]; exact Nat.le_succ _, rfl, rfl, rfl, fun b hb _ => alloc_old _ _ hb, ?_, fun b hb => .inr hb, fun _ _ h => h⟩, ?_⟩
 · by_cases hl : o.live = true
   · exact objDen_evo (C' := D) hk h rfl (fun b hb => alloc_old _ _ (hw.own b ⟨h, o, ho, hl, hb⟩).2) (denL_evo hev) (hw.obj h o ho)
   · cases o <;> first | trivial | simp [SObj.live] at hl
 · have := hw.own b hb
   exact ⟨fun hi => hi.elim this.1 (by omega), by omega⟩
 · rintro b (hb | rfl)
   · have := hw.imm b hb; omega
   · omega
 · rintro b (hb | rfl)
   · exact .inl hb
   · exact .inr ⟨.inl (Nat.le_refl _), fun c T fz hc => by rw [hnew] at hc; cases hc; simp⟩
 · rw [SV.den]
   refine ⟨_, _, _, rfl, rfl, hc, hlen, .inr ⟨C.w.heap.size, 0, rfl, .inr rfl, ?_⟩⟩
   refine rowAt_of (relL_keep hk hr) fun j u hu => ?_
   rw [Nat.zero_add, cell_of_cells hnew, List.getElem?_append_left (List.getElem?_eq_some_iff.1 hu).1]
   exact hu

theorem append_zero_run {w : World} {tS tX ty e : TypeId} {i : TypeInfo} {A : Option Addr} {n c : Nat} {xv : Value} (ht : P.underlying tS = some (.slice e)) {bb : Bool} (hx : srcType P tX = some bb) (hi : P.info? e = some i) (hlen : (Builtin.lenOf xv).run P w = .ok 0 w) (hnc : n ≤ c)
 (hfc : (Builtin.firstCells i.size 0 xv).run P w = .ok #[] w) :
 (Builtin.append_ #[tS, tX] ty #[.slice A n c, xv]).run P w = .ok (.slice A n c) w := by
 rcases srcType_cases hx with ⟨e', hd⟩ | hd <;> clear hx <;> have hd := run_underlying' hd
 all_goals cases A <;> simp [Builtin.append_, run_underlying' ht, sizeOf, typeInfo, hi, hd, hlen, hfc, hnc, storeCells]

theorem opv_append_fsl {c : Call} {x y : Operand} {tS tX e : TypeId} {bb : Bool} {i : TypeInfo} {z : Value} {xs ys : List t.den} {p : Prop} (hop : o.op = .call c) (hc : c.callee = .builtin .append) (ha : c.args = #[x, y]) (hty : c.argTypes = #[tS, tX])
 (ht : P.underlying tS = some (.slice e)) (hx : srcType P tX = some bb) (hi : P.info? e = some i) (hsz : i.size = t.size) (hz : i.zero = some z)
 (hdst : ev x = .fsl t xs) (hsrc : srcS t H (ev y) = some (ys, p)) (hp : p)
 (h63 : xs.length + ys.length ≤ 1125899906842624) (hb : (xs.length + ys.length) * i.bytes ≤ 140737488355328)
 (hk : K (.ret (.isl t (xs ++ ys))) H) : OpV P o ev H K := by
 refine opv_eff (by rw [hop]; intro c hc; cases hc) fun C e' hw hv => ?_
 have h0 := hv x (by rw [hop]; simp [Op.operands, Call.operands, hc, ha])
 have h1 := hv y (by rw [hop]; simp [Op.operands, Call.operands, hc, ha])
 rw [hdst, SV.den] at h0
 obtain ⟨h0, A, hv0⟩ := h0
 obtain ⟨news, hr, hlen, hfc⟩ := src_of hw h1 hsrc hp
 obtain ⟨news', hr', hlen', hfc'⟩ := src_of (wd_drew hw) (den_evo (evo_drew C) h1) hsrc hp
 rw [← hsz] at hfc hfc'
 have fin : ∀ r C', (Builtin.append_ #[tS, tX] o.type #[e' x, e' y]).run P C.w = .ok r C'.w → Wd C' H → Ext ⟨C, H⟩ C' H → (SV.isl t (xs ++ ys)).den C' r →
  ∃ s v H' C', K (.ret s) H' ∧ ((execOp e' o).run P C.w = .ok (.value v) C'.w ∨ ((execOp e' o).run P C.w = .ok .skip C'.w ∧ v = undef)) ∧ Wd C' H' ∧ Ext ⟨C, H⟩ C' H' ∧ s.den C' v := fun r C' hrun g1 g2 g3 =>
  ⟨_, r, _, C', hk, .inl (by simp [execOp, hop, resolve, hc, ha, hty, invoke, builtin, hrun, Result.andThen]), g1, g2, g3⟩
 by_cases hy : ys.length = 0
 · obtain rfl : ys = [] := List.eq_nil_of_length_eq_zero hy
   obtain rfl : news = [] := by cases hr; rfl
   refine fin (e' x) C ?_ hw (Ext.refl _ _) ?_
   · rw [hv0]
     exact append_zero_run ht hx hi hlen (Nat.le_refl _) (by simpa using hfc)
   · rw [List.append_nil, SV.den]; exact h0
 · obtain ⟨vs, v1, v2⟩ : ∃ vs, relL C.drew.I C.drew.w t xs vs ∧ (Builtin.firstCells t.size xs.length (.slice A xs.length xs.length)).run P C.drew.w = .ok vs.toArray C.drew.w := by
    refine slice_cells (P := P) (C := C.drew) (A := A) (c := xs.length) (ys := xs) ?_
    obtain ⟨A', n, c', e1, hn, _, _, hd⟩ := h0
    rw [hv0] at e1
    simp only [List.cons.injEq, Value.slice.injEq, and_true] at e1
    obtain ⟨rfl, _, _⟩ := e1
    rcases hd with hd | ⟨b, off, rfl, _, hd⟩
    · exact .inl hd
    · refine .inr ⟨b, off, rfl, fun j d hj => ?_⟩
      obtain ⟨us, a1, a2⟩ := hd j d hj
      exact ⟨us, Ty.rel_keep (evo_drew C).I _ _ _ a1, a2⟩
   rw [← hsz] at v2
   obtain ⟨cap, hcap, hrun⟩ := append_grow_run (P := P) (w := C.w) (ty := o.type) ht hx hi hz hlen (sLen := xs.length) (sCap := xs.length) (by omega) (by omega) hb v2 hfc'
   obtain ⟨C', hC', g1, g2, g3⟩ := imm_new (T := e) (rest := (Builtin.zeroCells z.cells (cap - (xs.length + ys.length))).toList) (wd_drew hw) (relL_append v1 hr') (c := cap) (by simpa using hcap) (by simpa using h63)
   refine fin _ C' ?_ g1 ((ext_drew C H).trans g2) g3
   rw [hv0, hrun, hC']
   simp only [List.length_append]
   rfl

theorem bnd3_run {C : Cx} {e : Operand → Value} {lo : Option Operand} {hi mx : Operand} {a : Option Int} {b m : Int} {isS : Bool} {len cap : Nat} (hlo : ∀ x ∈ lo, (ev x).den C (e x)) (hhi : (ev hi).den C (e hi)) (hmx : (ev mx).den C (e mx))
 (h1 : bndV ev lo = some a) (h2 : bndV ev (some hi) = some (some b)) (h3 : bndV ev (some mx) = some (some m)) (w : World) (g0 : 0 ≤ loOf a) (g1 : loOf a ≤ b) (g2 : b ≤ m) (g3 : m ≤ (cap : Int)) :
 (Instr.sliceBounds isS len cap (lo.map e) (some (e hi)) (some (e mx))).run P w = .ok ((loOf a).toNat, b.toNat, m.toNat) w := by
 have hm := bnd_run (P := P) hmx h3 cap (if isS then .slice3Acap else .slice3Alen) w (by omega) (by omega)
 have hh := bnd_run (P := P) hhi h2 m.toNat (.slice3B) w (by omega) (by omega)
 cases lo with
 | none =>
  simp only [bndV, Option.some.injEq] at h1
  subst h1
  simp [Instr.sliceBounds, loOf, hm, hh]
 | some x =>
  cases a with
  | none => simp only [bndV] at h1; split at h1 <;> simp at h1
  | some n =>
   simp only [loOf] at *
   have := bnd_run (P := P) (hlo x rfl) h1 b.toNat (.slice3C) w g0 (by omega)
   simp [Instr.sliceBounds, hm, hh, this]

def fullS (f : Bool) : SV → SV
 | .isl t xs => if f then .fsl t xs else .isl t xs
 | s => s
theorem opv_slice3 {T : TypeId} {x hi mx : Operand} {lo : Option Operand} {a : Option Int} {b m : Int} {s : SV} {f : Bool} (hop : o.op = .slice T x lo (some hi) (some mx)) (hk0 : sliceKind P T (ev x) = true) (h1 : bndV ev lo = some a) (h2 : bndV ev (some hi) = some (some b)) (h3 : bndV ev (some mx) = some (some m))
 (g0 : 0 ≤ loOf a) (g1 : loOf a ≤ b) (g2 : b ≤ m) (g3 : m ≤ (lenOfS (ev x) : Int)) (hf : f = true → b = m) (hne : ∀ str, ev x ≠ .raw (.string str)) (hs : sliceTo (loOf a).toNat b.toNat (ev x) = some s) (hk : K (.ret (fullS f s)) H) : OpV P o ev H K := by
 refine opv_pure (by rw [hop]; intro c hc; cases hc) (s := fullS f s) (fun C e _ hv => ?_) hk
 rw [hop] at hv
 have hx := hv x (by simp [Op.operands])
 have hlo : ∀ y ∈ lo, (ev y).den C (e y) := fun y hy => hv y (by simp [Op.operands]; cases hy; simp)
 have hhi : (ev hi).den C (e hi) := hv hi (by simp [Op.operands])
 have hmx : (ev mx).den C (e mx) := hv mx (by simp [Op.operands])
 have hexec : ∀ r : Value, (Instr.sliceAt T (e x) (lo.map e) (some (e hi)) (some (e mx))).run P C.w = .ok r C.w → (execOp e o).run P C.w = .ok (.value r) C.w := fun r hr => by
  simp [execOp, hop, hr]
 generalize hsx : ev x = sx at *
 unfold sliceKind at hk0
 split at hk0
 · exact absurd rfl (hne _)
 · rename_i ty xs
   obtain ⟨el, hu, hsz⟩ := sliceT_ok hk0
   simp only [sliceTo, Option.some.injEq] at hs
   subst hs
   simp only [lenOfS] at *
   rw [SV.den] at hx
   obtain ⟨A, n, c, e0, hn, hc, hlim, hd⟩ := hx
   simp only [List.cons.injEq, and_true] at e0
   subst hn
   have hb := bnd3_run (P := P) (C := C) (e := e) (isS := true) (len := xs.length) (cap := c) hlo hhi hmx h1 h2 h3 C.w g0 g1 g2 (by omega)
   have hden : (SV.isl ty ((xs.take b.toNat).drop (loOf a).toNat)).den C (.slice (if m.toNat = (loOf a).toNat then A else A.map (·.add ((loOf a).toNat * ty.size))) (b.toNat - (loOf a).toNat) (m.toNat - (loOf a).toNat)) := by
    rw [SV.den]
    refine ⟨_, _, _, rfl, by simp; omega, by omega, by omega, ?_⟩
    by_cases hz : b.toNat - (loOf a).toNat = 0
    · exact .inl (List.eq_nil_of_length_eq_zero (by simp; omega))
    rcases hd with rfl | ⟨blk, off, rfl, hI, hd⟩
    · simp at g3; omega
    refine .inr ⟨blk, off + (loOf a).toNat * ty.size, ?_, hI, fun i x hx => ?_⟩
    · rw [if_neg (by omega)]; simp [addr_add]
    · rw [List.getElem?_drop, List.getElem?_take] at hx
      split at hx
      · obtain ⟨us, h1, h2⟩ := hd ((loOf a).toNat + i) x hx
        exact ⟨us, h1, fun k u hu => by rw [← h2 k u hu, Nat.add_mul]; congr 2; omega⟩
      · cases hx
   refine ⟨.slice (if m.toNat = (loOf a).toNat then A else A.map (·.add ((loOf a).toNat * ty.size))) (b.toNat - (loOf a).toNat) (m.toNat - (loOf a).toNat), hexec _ (by simp [Instr.sliceAt, run_underlying' hu, Instr.slice, e0, hb, run_sizeOf hsz]), ?_⟩
   cases f with
   | false => exact hden
   | true =>
    have hbm := hf rfl
    subst hbm
    simp only [fullS, if_true]
    simp only [SV.den] at hden ⊢
    have hl : ((xs.take b.toNat).drop (loOf a).toNat).length = b.toNat - (loOf a).toNat := by simp; omega
    refine ⟨hden, if b.toNat = (loOf a).toNat then A else A.map (·.add ((loOf a).toNat * ty.size)), ?_⟩
    rw [hl]
 · rename_i h ty n
   obtain ⟨el, hu, hsz⟩ := sliceT_ok hk0
   simp only [sliceTo, Option.some.injEq] at hs
   subst hs
   simp only [lenOfS] at *
   have hx := bld_osl hx
   rw [SV.den] at hx
   obtain ⟨hn, A, c, e0, hc, hd⟩ := hx
   have hb := bnd3_run (P := P) (C := C) (e := e) (isS := true) (len := n) (cap := c) hlo hhi hmx h1 h2 h3 C.w g0 g1 g2 (by omega)
   refine ⟨.slice (if m.toNat = (loOf a).toNat then A else A.map (·.add ((loOf a).toNat * ty.size))) (b.toNat - (loOf a).toNat) (m.toNat - (loOf a).toNat), hexec _ ?_, ?_⟩
   · simp [Instr.sliceAt, run_underlying' hu, Instr.slice, e0, hb, run_sizeOf hsz]
   · simp only [fullS]
     rw [SV.den]
     refine ⟨hn, _, _, rfl, by omega, ?_⟩
     by_cases hz : b.toNat - (loOf a).toNat = 0
     · exact .inl hz
     rcases hd with h0 | ⟨blk, hblk, rfl⟩
     · omega
     · refine .inr ⟨blk, hblk, ?_⟩
       rw [if_neg (by omega)]
       simp [addr_add]
 · rename_i h ty off n
   obtain ⟨el, hu, hsz⟩ := sliceT_ok hk0
   simp only [sliceTo, Option.some.injEq] at hs
   subst hs
   simp only [lenOfS] at *
   rw [SV.den] at hx
   obtain ⟨hn, A, c, e0, hc, hd⟩ := hx
   have hb := bnd3_run (P := P) (C := C) (e := e) (isS := true) (len := n) (cap := c) hlo hhi hmx h1 h2 h3 C.w g0 g1 g2 (by omega)
   refine ⟨.slice (if m.toNat = (loOf a).toNat then A else A.map (·.add ((loOf a).toNat * ty.size))) (b.toNat - (loOf a).toNat) (m.toNat - (loOf a).toNat), hexec _ ?_, ?_⟩
   · simp [Instr.sliceAt, run_underlying' hu, Instr.slice, e0, hb, run_sizeOf hsz]
   · simp only [fullS]
     rw [SV.den]
     refine ⟨hn, _, _, rfl, by omega, ?_⟩
     by_cases hz : b.toNat - (loOf a).toNat = 0
     · exact .inl hz
     rcases hd with h0 | ⟨blk, hblk, rfl⟩
     · omega
     · refine .inr ⟨blk, hblk, ?_⟩
       rw [if_neg (by omega)]
       simp [addr_add, Nat.add_mul]
 · split at hk0
   · rename_i el hu
     simp only [sliceTo, Option.some.injEq] at hs
     subst hs
     simp only [lenOfS] at *
     rw [SV.den] at hx
     have hb := bnd3_run (P := P) (C := C) (e := e) (isS := true) (len := 0) (cap := 0) hlo hhi hmx h1 h2 h3 C.w g0 g1 g2 g3
     have e1 : (loOf a).toNat = 0 := by omega
     have e2 : b.toNat = 0 := by omega
     have e3 : m.toNat = 0 := by omega
     rw [e1, e2, e3] at hb
     obtain ⟨i, hi'⟩ := Option.isSome_iff_exists.1 hk0
     refine ⟨_, hexec (.slice none 0 0) ?_, by simp only [fullS]; rw [SV.den]⟩
     simp [Instr.sliceAt, run_underlying' hu, Instr.slice, hx, hb, sizeOf, typeInfo, hi']
   · cases hk0
 · cases hk0
end Go.Sx
