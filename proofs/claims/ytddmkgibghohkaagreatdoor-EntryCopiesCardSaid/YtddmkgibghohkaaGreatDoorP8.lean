/- A part of the proof: a symbolic executor over abstract values, and its soundness. -/
import Derived.Test.YtddmkgibghohkaaGreatDoorP7
import Derived.IntWalk
import Derived.Below
import GoSem.ClaimJoined
import Derived.ChangeArms
import Derived.Carry
import Derived.ChangeSame
import Derived.RowKit
import Derived.RowKit3
set_option linter.unusedSimpArgs false
set_option linter.unusedVariables false
set_option linter.unusedSectionVars false
set_option linter.unusedSectionVars false
namespace Go.Sx
open Go

variable [Ghost] {P : Program} {AQ : Ex → List SV → List SObj → Prop} {k0 : Nat} {k : List IT} {t : List SV} {H : List SObj}

def leM1 (s : SV) : SV → Prop
 | .any => True
 | s' => s = s'
def leM : List SV → List SV → Prop
 | [], [] => True
 | s :: l, s' :: l' => leM1 s s' ∧ leM l l'
 | _, _ => False
theorem leM1_le {s s' : SV} (h : leM1 s s') : SV.le s s' := by
 cases s' <;> first | exact SV.le_any _ | (simp only [leM1] at h; subst h; exact SV.le_refl _)
theorem leM_leL : ∀ {l l' : List SV}, leM l l' → leL l l'
 | [], [], _ => trivial
 | _ :: _, _ :: _, h => ⟨leM1_le h.1, leM_leL h.2⟩
 | [], _ :: _, h => h.elim
 | _ :: _, [], h => h.elim
def setMany (t : List SV) : List (Nat × SV) → List SV
 | [] => t
 | (i, s) :: l => setMany (t.set i s) l

def RoundX {ι : Type} (Hf : ι → List SObj) (S : ι → List SV) (μ : ι → Nat) (p : ι → Prop) (i : ι) : List SV → List SObj → Prop :=
 fun t' H' => ∃ j, p j ∧ μ j < μ i ∧ H' = Hf j ∧ leM t' (S j)

theorem sound_loopX {P : Program} {k : List It} {ι : Type} (c : Code) (S : ι → List SV) (Hf : ι → List SObj) (μ : ι → Nat) (p : ι → Prop) (i₀ : ι) (h₀ : p i₀) (hH : H = Hf i₀) (hs : leM t (S i₀))
 (round : ∀ i, p i → Sound P AQ ⟨k0, .code c :: .stop (RoundX Hf S μ p i) :: k, S i, Hf i⟩) : Sound P AQ ⟨k0, .code (.loop c) :: k, t, H⟩ := fun E r n C a h0 hd => by
 subst hH
 simp only [wpT]
 refine wpIn_loop_ghost (fun m a w => ∃ i, p i ∧ μ i = m ∧ ∃ C, C.w = w ∧ Den E C (S i) (Hf i) a) (μ i₀) ⟨i₀, h₀, rfl, C, rfl, hd.wd, hd.ext, hd.defs, leL_den (leM_leL hs) hd.tmps⟩ ?_
 rintro m a w ⟨i, hp, rfl, C, rfl, hd⟩
 have h1 := round i hp E r n C a h0 hd
 simp only [wpT] at h1
 refine wpIn_mono h1 fun e a w hq => ?_
 cases e with
 | normal =>
  obtain ⟨C', t', H', ⟨j, hj, hlt, rfl, hS⟩, rfl, hd'⟩ := hq
  exact ⟨μ j, hlt, j, hj, rfl, C', rfl, hd'.wd, hd'.ext, hd'.defs, leL_den (leM_leL hS) hd'.tmps⟩
 | exit id => simpa only [Exit.then, exitT] using hq
 | _ => exact hq

theorem si_loopX {ι : Type} {c : IC} (upd : ι → List (Nat × SV)) (Hf : ι → List SObj) (μ : ι → Nat) (p : ι → Prop) (i₀ : ι) (h₀ : p i₀) (hH : H = Hf i₀) (hs : leM t (setMany (maskT c.wr t) (upd i₀)))
 (round : ∀ i, p i → SoundI P AQ ⟨k0, .ic c :: .stop (RoundX Hf (fun i => setMany (maskT c.wr t) (upd i)) μ p i) :: k, setMany (maskT c.wr t) (upd i), Hf i⟩) : SoundI P AQ ⟨k0, .ic (.loop c) :: k, t, H⟩ := soundI_plain (fun td' hr => by
 obtain ⟨c', r, rfl, hc, hr⟩ := hr
 obtain ⟨x, rfl, hx⟩ := comp_inv hc
 exact sound_loopX x _ Hf μ p i₀ h₀ hH hs (fun i hi => soundI_get (round i hi) ⟨x, _, rfl, hx, r, rfl, hr⟩)) rfl

theorem si_cnt {c : IC} (slot n : Nat) (q : Nat → Prop) (hs : leM t (setMany (maskT c.wr t) [(slot, .raw (.int .i64 ((0 : Nat) : Int)))]))
 (round : ∀ i, i ≤ n → (∀ j, j < i → q j) → SoundI P AQ ⟨k0, .ic c :: .stop (RoundX (fun _ => H) (fun i => setMany (maskT c.wr t) [(slot, .raw (.int .i64 ((i : Nat) : Int)))]) (fun i => n - i) (fun i => i ≤ n ∧ ∀ j, j < i → q j) i) :: k, setMany (maskT c.wr t) [(slot, .raw (.int .i64 ((i : Nat) : Int)))], H⟩) :
 SoundI P AQ ⟨k0, .ic (.loop c) :: k, t, H⟩ :=
 si_loopX (fun i : Nat => [(slot, .raw (.int .i64 (i : Int)))]) (fun _ => H) (fun i => n - i) (fun i => i ≤ n ∧ ∀ j, j < i → q j) 0 ⟨Nat.zero_le _, fun _ h => absurd h (Nat.not_lt_zero _)⟩ rfl hs fun i hi => round i hi.1 hi.2
theorem cnt_next {S : Nat → List SV} {n i : Nat} {q : Nat → Prop} (hlt : i < n) (hall : ∀ j, j < i → q j) (hq : q i) (h : leM t (S (i + 1))) : RoundX (fun _ => H) S (fun i => n - i) (fun i => i ≤ n ∧ ∀ j, j < i → q j) i t H :=
 ⟨i + 1, ⟨hlt, fun j hj => by
  by_cases e : j = i
  · subst e; exact hq
  · exact hall j (by omega)⟩, by dsimp only; omega, rfl, h⟩
theorem wrap_succ {i : Nat} (h : i < 4611686018427387904) : IntKind.i64.wrap ((i : Int) + 1) = ((i + 1 : Nat) : Int) := by
 rw [IntWalk.i64_in _ (by omega)]; rfl

mutual
theorem den_bel {C : Cx} : ∀ {s : SV} {v : Value}, s.den C v → s.bel C.n = true
 | .any, _, _ => rfl
 | .raw _, _, _ => rfl
 | .isl _ _, _, _ => rfl
 | .fsl _ _, _, _ => rfl
 | .iptr _ _ _, _, _ => rfl
 | .ptr h off, _, d => by rw [SV.den] at d; simpa [SV.bel] using d.1
 | .rptr h t i k, _, d => by rw [SV.den] at d; simpa [SV.bel] using d.1
 | .bld h t m, _, d => by rw [SV.den] at d; simpa [SV.bel] using d.1
 | .osl h t off m, _, d => by rw [SV.den] at d; simpa [SV.bel] using d.1
 | .csl h off m, _, d => by rw [SV.den] at d; simpa [SV.bel] using d.1
 | .mp h, _, d => by rw [SV.den] at d; simpa [SV.bel] using d.1
 | .imap .., _, _ => rfl
 | .agg l, _, d => by rw [SV.den] at d; obtain ⟨vs, _, hl⟩ := d; rw [SV.bel]; exact denL_bel hl
 | .tup l, _, d => by rw [SV.den] at d; obtain ⟨vs, _, hl⟩ := d; rw [SV.bel]; exact denL_bel hl
 | .fn f a b, _, d => by rw [SV.den] at d; obtain ⟨v1, v2, _, h1, h2⟩ := d; rw [SV.bel, denL_bel h1, denL_bel h2]; rfl
 | .iface T x, _, d => by rw [SV.den] at d; obtain ⟨u, _, h1⟩ := d; rw [SV.bel]; exact den_bel h1
theorem denL_bel {C : Cx} : ∀ {l : List SV} {vs : List Value}, SV.denL C l vs → SV.belL C.n l = true
 | [], _, _ => rfl
 | s :: l, _, d => by rw [SV.denL] at d; obtain ⟨v, us, _, h1, h2⟩ := d; rw [SV.belL, den_bel h1, denL_bel h2]; rfl
end
theorem obj_bel {C : Cx} {h : Nat} {o : SObj} (d : objDen C h o) : o.bel C.n = true := by
 cases o with
 | cells T cs => obtain ⟨b, vs, _, _, hl⟩ := d; exact denL_bel hl
 | _ => rfl

mutual
theorem ren_id : ∀ (s : SV), s.ren (fun h => h) = s
 | .any => rfl
 | .raw _ => rfl
 | .isl _ _ => rfl
 | .fsl _ _ => rfl
 | .iptr _ _ _ => rfl
 | .ptr .. => rfl
 | .rptr .. => rfl
 | .bld .. => rfl
 | .osl .. => rfl
 | .csl .. => rfl
 | .mp _ => rfl
 | .imap .. => rfl
 | .agg l => by rw [SV.ren, renL_id]
 | .tup l => by rw [SV.ren, renL_id]
 | .fn f a b => by rw [SV.ren, renL_id, renL_id]
 | .iface T x => by rw [SV.ren, ren_id]
theorem renL_id : ∀ (l : List SV), SV.renL (fun h => h) l = l
 | [] => rfl
 | s :: l => by rw [SV.renL, ren_id, renL_id]
end
theorem objRen_id (o : SObj) : o.ren (fun h => h) = o := by cases o <;> simp [SObj.ren, renL_id]

theorem VCall.drop {f : FuncId} {args : List SV} {s : SV} (hs : s.clean = true) (h : VCall P f args H fun o H' => o = .ret s ∧ ∃ G, H' = H ++ G) (K : Out → List SObj → Prop) (hk : K (.ret s) H) : VCall P f args H K := by
 intro C vs hw hv
 refine (h C vs hw hv).mono ?_
 rintro e w' ⟨o, H', C', ⟨rfl, G, rfl⟩, rfl, hw', hx, v, rfl, hd⟩
 let D : Cx := { C' with n := H.length }
 have hget : ∀ {h' o}, H[h']? = some o → (H ++ G)[h']? = some o := fun hh => by rw [List.getElem?_append_left (List.getElem?_eq_some_iff.1 hh).1]; exact hh
 have hown : ∀ b, OwnB D H b → OwnB C' (H ++ G) b := fun b ⟨h', o, ho, hl, hb⟩ => ⟨h', o, hget ho, hl, hb⟩
 have hev : Evo C D := ⟨by rw [hw.n]; exact Nat.le_refl _, hx.evo.ρ, hx.evo.I, hx.evo.sz⟩
 refine ⟨.ret s, H, D, hk, rfl, ⟨rfl, fun h' o ho => ?_, fun b hb => hw'.own b (hown b hb), fun h1 h2 o o' b g1 g2 => hw'.inj h1 h2 o o' b (hget g1) (hget g2), hw'.imm⟩, ⟨hev, hx.size, hx.os, hx.tape, hx.output, hx.frame, hx.immNew, fun b hb => hx.ownNew b (hown b hb)⟩, v, rfl, den_clean (C := C') (C' := D) (Keeps.refl _ _) hs hd⟩
 have hb := obj_bel (hw.obj h' o ho)
 rw [hw.n] at hb
 have := objRen (σ := fun h => h) (n := H.length) hb (by rw [objRen_id]; exact hw'.obj h' o (hget ho))
 exact this

def PCH (P : Program) (f : FuncId) (args : List SV) (s : SV) (H : List SObj) : Prop := enters P f = true ∧ ∀ K : Out → List SObj → Prop, K (.ret s) H → VCall P f args H K
theorem PC.at {f : FuncId} {args : List SV} {s : SV} (h : PC P f args s) (H : List SObj) : PCH P f args s H := ⟨h.1, h.2 H⟩
def PKE (s : SV) (H : List SObj) : Out → List SObj → Prop := fun o H' => o = .ret s ∧ ∃ G, H' = H ++ G
theorem pch_drop {f : FuncId} {args : List SV} {s : SV} (hs : s.clean = true) (h : VC P f args H (PKE s H)) : PCH P f args s H := ⟨h.1, VCall.drop hs h.2⟩
theorem callI_at {f : FuncId} {args : List SV} {s : SV} {d : Option Tmp} {m : IM} (hp : PCH P f args s m.heap) (h : SoundI P AQ { m with tmps := putT m.tmps d s }) : CallI P AQ f args d m :=
 ⟨hp.1, (hp.2 _ h).g⟩
theorem callR_at {G : List Nat} {f : FuncId} {args : List SV} {s : SV} {d : Option Tmp} {m : IM} (hp : PCH P f args s m.heap) (h : SoundI P AQ { m with tmps := putT m.tmps d s }) : CallR P AQ G f args d m :=
 ⟨hp.1, (hp.2 _ ⟨fun _ => SameG.refl _ _, h⟩).g⟩

theorem callI_at' {f : FuncId} {args args' : List SV} {s : SV} {d : Option Tmp} {m : IM} {H' : List SObj} (hp : PCH P f args' s H') (he : m.heap = H') (ha : args = args') (h : SoundI P AQ { m with tmps := putT m.tmps d s }) : CallI P AQ f args d m := by
 subst he ha; exact callI_at hp h

theorem callR_at' {G : List Nat} {f : FuncId} {args args' : List SV} {s : SV} {d : Option Tmp} {m : IM} {H' : List SObj} (hp : PCH P f args' s H') (he : m.heap = H') (ha : args = args') (h : SoundI P AQ { m with tmps := putT m.tmps d s }) : CallR P AQ G f args d m := by
 subst he ha; exact callR_at hp h

def Frz (hd : Nat) (K : Out → List SObj → Prop) : Out → List SObj → Prop
 | .ret s, H' => match H'[hd]? with
  | some (.row t xs) => xs.length ≤ 1125899906842624 ∧ frzObH hd t xs H' ∧ s.frzOb hd t xs ∧ K (.ret (s.frz hd t xs)) (frzH hd t xs H')
  | _ => False
 | .pan s, H' => K (.pan s) H'
theorem VCall.frz {f : FuncId} {args : List SV} {K : Out → List SObj → Prop} (hd : Nat) (h : VCall P f args H (Frz hd K)) : VCall P f args H K := by
 intro C vs hw hv
 refine (h C vs hw hv).mono ?_
 rintro e w' ⟨o, H', C', hk, rfl, hw', hx, hd'⟩
 cases o with
 | pan s => exact ⟨.pan s, H', C', hk, rfl, hw', hx, hd'⟩
 | ret s =>
  simp only [Frz] at hk
  split at hk
  · rename_i t xs hH
    obtain ⟨k1, k2, k3, k4⟩ := hk
    obtain ⟨g1, g2⟩ := wd_frz hw' hx hH k1 k2
    obtain ⟨v, rfl, hd'⟩ := hd'
    exact ⟨.ret (s.frz hd t xs), frzH hd t xs H', C'.frz hd, k4, rfl, g1, g2, v, rfl, frz_den hw' hH k1 k3 hd'⟩
  · exact hk.elim
def FrzM (K : Out → List SObj → Prop) (H : List SObj) : Out → List SObj → Prop
 | .ret (.mp h), H' => ∃ kk ks vs G, h = H.length ∧ H' = H ++ .map kk ks vs :: G ∧ K (.ret (.imap kk ks vs)) H
 | _, _ => False
theorem VCall.frzM {f : FuncId} {args : List SV} {K : Out → List SObj → Prop} (h : VCall P f args H (FrzM K H)) : VCall P f args H K := by
 intro C vs hw hv
 refine (h C vs hw hv).mono ?_
 rintro e w' ⟨o, H', C', hk, rfl, hw', hx, hd'⟩
 unfold FrzM at hk
 split at hk
 · obtain ⟨kk, ks, ms, G, rfl, rfl, hk⟩ := hk
   obtain ⟨v, rfl, hd'⟩ := hd'
   rw [SV.den] at hd'
   obtain ⟨_, b, hb, rfl⟩ := hd'
   have hget' : (H ++ .map kk ks ms :: G)[H.length]? = some (.map kk ks ms) := by simp
   obtain ⟨b', hb', hm⟩ := hw'.obj H.length _ hget'
   rw [hb] at hb'; cases hb'
   have hob : OwnB C' (H ++ .map kk ks ms :: G) b := ⟨H.length, _, hget', rfl, hb⟩
   let D : Cx := { C' with n := H.length, I := fun x => C'.I x ∨ x = b }
   have hget : ∀ {h' o}, H[h']? = some o → (H ++ .map kk ks ms :: G)[h']? = some o := fun hh => by rw [List.getElem?_append_left (List.getElem?_eq_some_iff.1 hh).1]; exact hh
   have hown : ∀ x, OwnB D H x → OwnB C' (H ++ .map kk ks ms :: G) x ∧ x ≠ b := fun x ⟨h', o, ho, hl, hx⟩ => ⟨⟨h', o, hget ho, hl, hx⟩, fun e => by
    subst e
    have := hw'.inj h' H.length _ _ x (hget ho) hget' hl rfl hx hb
    have hlt := (List.getElem?_eq_some_iff.1 ho).1
    omega⟩
   have hev : Evo C D := ⟨by rw [hw.n]; exact Nat.le_refl _, hx.evo.ρ, fun x hxI => ⟨.inl (hx.evo.I x hxI).1, (hx.evo.I x hxI).2⟩, hx.evo.sz⟩
   have hkeep : Keeps C'.I D.I C'.w D.w := fun x hxI => ⟨.inl hxI, rfl⟩
   refine ⟨.ret (.imap kk ks ms), H, D, hk, rfl, ⟨rfl, fun h' o ho => ?_, fun x hxo => ?_, fun h1 h2 o o' x g1 g2 => hw'.inj h1 h2 o o' x (hget g1) (hget g2), ?_⟩, ⟨hev, hx.size, hx.os, hx.tape, hx.output, hx.frame, ?_, fun x hxo => hx.ownNew x (hown x hxo).1⟩, .map (some b), rfl, by rw [SV.den]; exact ⟨b, rfl, .inr rfl, hm⟩⟩
   · have hbel := obj_bel (hw.obj h' o ho)
     rw [hw.n] at hbel
     have h1 : objDen (C'.ren (fun h => h) H.length) h' o := objRen (σ := fun h => h) (n := H.length) hbel (by rw [objRen_id]; exact hw'.obj h' o (hget ho))
     have he : Evo (C'.ren (fun h => h) H.length) D := ⟨Nat.le_refl _, fun _ _ => rfl, hkeep, fun _ _ h => h⟩
     exact objDen_evo he.I h' rfl (fun _ _ => rfl) (denL_evo he) h1
   · obtain ⟨h1, h2⟩ := hown x hxo
     have := hw'.own x h1
     exact ⟨fun hi => hi.elim this.1 h2, this.2⟩
   · rintro x (hx' | rfl)
     · exact hw'.imm x hx'
     · exact (hw'.own _ hob).2
   · rintro x (hx' | rfl)
     · exact hx.immNew x hx'
     · exact .inr ⟨hx.ownNew _ hob, (own_unf hw' hob : Unf C'.w _)⟩
 · exact hk.elim
theorem vc_frzM {f : FuncId} {args : List SV} {K : Out → List SObj → Prop} (h : VC P f args H (FrzM K H)) : VC P f args H K := ⟨h.1, VCall.frzM h.2⟩

theorem wd_gr {C : Cx} {w' : World} (hw : Wd C H) (hs : C.w.heap.size ≤ w'.heap.size) (hb : ∀ b, b < C.w.heap.size → w'.heap[b]? = C.w.heap[b]?) (h1 : w'.os = C.w.os) (h2 : w'.tape = C.w.tape) (h3 : w'.output = C.w.output) :
 Wd { C with w := w' } H ∧ Ext ⟨C, H⟩ { C with w := w' } H := by
 have he : Evo C { C with w := w' } := ⟨Nat.le_refl _, fun _ _ => rfl, fun b hI => ⟨hI, hb b (hw.imm b hI)⟩, fun b m hm => by
  have hlt := bsize_lt hm
  unfold World.bsize at hm ⊢
  rw [hb b hlt]; exact hm⟩
 refine ⟨⟨hw.n, fun h o ho => ?_, fun b hb' => ?_, hw.inj, fun b hI => Nat.lt_of_lt_of_le (hw.imm b hI) hs⟩, ⟨he, hs, h1, h2, h3, fun b hb' _ => hb b hb', fun b hI => .inl hI, fun b hb' => .inr hb'⟩⟩
 · by_cases hl : o.live = true
   · exact objDen_evo (C' := { C with w := w' }) he.I h rfl (fun b hb' => hb b (hw.own b ⟨h, o, ho, hl, hb'⟩).2) (denL_evo he) (hw.obj h o ho)
   · cases o <;> first | trivial | simp [SObj.live] at hl
 · obtain ⟨h1, h2⟩ := hw.own b hb'
   exact ⟨h1, Nat.lt_of_lt_of_le h2 hs⟩
theorem pc_calls {f : FuncId} {vs : List Value} {v : Value} (he : enters P f = true) (h : ∀ w, Calls P f vs.toArray w fun e w' => e = .returned v ∧ Go.RowKit.Below w.heap.size w w') : PC P f (rawL vs) (.raw v) := by
 refine ⟨he, fun H K hk C us hw hv => ?_⟩
 rw [rawL_den_eq hv]
 refine (h C.w).mono ?_
 rintro e w' ⟨rfl, hg⟩
 obtain ⟨g1, g2⟩ := wd_gr hw hg.size hg.block hg.os hg.tape hg.output
 exact ⟨_, H, _, hk, rfl, g1, g2, v, rfl, by rw [SV.den]⟩

theorem sound_nilrow {P : Program} {k : List It} {tm : List SV} (i : Nat) (ty : Ty) (hi : tm[i]? = some (.raw (.slice none 0 0))) (hs : Sound P AQ ⟨k0, k, tm.set i (.bld H.length ty 0), H ++ [.row ty []]⟩) : Sound P AQ ⟨k0, k, tm, H⟩ := by
 intro E r n C a h0 hd
 obtain ⟨C', hw, g1, g2, g3⟩ := nil_row (t := ty) hd.wd
 have := hs E r n C' a h0 ⟨g1, hd.ext.trans g2, DefOk.next g2 hd.defs, ?_⟩
 · rw [← hw]; exact this
 · have h1 := denL_evo g2.evo hd.tmps
   obtain ⟨v, hv, hd'⟩ := denL_get h1 hi
   rw [SV.den] at hd'
   subst hd'
   have := denL_set (i := i) h1 g3
   have he : a.tmps.toList.set i (.slice none 0 0) = a.tmps.toList := by
    apply List.ext_getElem?
    intro j
    by_cases e : j = i
    · subst e
      rw [List.getElem?_set_self (List.getElem?_eq_some_iff.1 hv).1, hv]
    · rw [List.getElem?_set_ne (Ne.symm e)]
   rwa [he] at this
theorem si_nilrow (i : Nat) (ty : Ty) {td : List IT} (hp : plainT td = true) (hi : t[i]? = some (.raw (.slice none 0 0))) (h : SoundI P AQ ⟨k0, td, t.set i (.bld H.length ty 0), H ++ [.row ty []]⟩) : SoundI P AQ ⟨k0, td, t, H⟩ :=
 soundI_plain (fun _ hr => sound_nilrow i ty hi (soundI_get h hr)) hp

theorem wd_hand {C : Cx} {h : Nat} {t : Ty} {xs : List t.den} (hw : Wd C H) (hH : H[h]? = some (.row t xs)) : Wd (C.frz h) (H.set h .dead) ∧ Ext ⟨C, H⟩ (C.frz h) (H.set h .dead) := by
 have hob : ∀ b, C.ρ h = some b → OwnB C H b := fun b hb => ⟨h, _, hH, rfl, hb⟩
 have hget : ∀ {i y}, (H.set h .dead)[i]? = some y → y.live = true → i ≠ h ∧ H[i]? = some y := fun {i y} hy hl => by
  by_cases e : i = h
  · subst e
    rcases Nat.lt_or_ge i H.length with h1 | h1
    · rw [List.getElem?_set_self h1] at hy; cases hy; simp [SObj.live] at hl
    · rw [List.getElem?_eq_none (by simpa using h1)] at hy; cases hy
  · rw [List.getElem?_set_ne (Ne.symm e)] at hy; exact ⟨e, hy⟩
 have hown : ∀ b, OwnB (C.frz h) (H.set h .dead) b → OwnB C H b ∧ C.ρ h ≠ some b := by
  rintro b ⟨i, y, hy, hl, hb⟩
  obtain ⟨hne, hy'⟩ := hget hy hl
  exact ⟨⟨i, y, hy', hl, hb⟩, fun e => hne (hw.inj i h y _ b hy' hH hl rfl hb e)⟩
 refine ⟨⟨by simp [Cx.frz, hw.n], fun i y hy => ?_, fun b hb => ?_, fun i j y y' b hy hy' hl hl' hb hb' => ?_, ?_⟩, ⟨evo_frz C h, Nat.le_refl _, rfl, rfl, rfl, fun _ _ _ => rfl, ?_, fun b hb => .inr (hown b hb).1⟩⟩
 · by_cases hl : y.live = true
   · exact objDen_evo (evo_frz C h).I i rfl (fun _ _ => rfl) (denL_evo (evo_frz C h)) (hw.obj i y (hget hy hl).2)
   · cases y <;> first | trivial | simp [SObj.live] at hl
 · obtain ⟨h1, h2⟩ := hown b hb
   have := hw.own b h1
   exact ⟨fun hi => hi.elim this.1 h2, this.2⟩
 · exact hw.inj i j y y' b (hget hy hl).2 (hget hy' hl').2 hl hl' hb hb'
 · rintro b (hb | hb)
   · exact hw.imm b hb
   · exact (hw.own b (hob b hb)).2
 · rintro b (hb | hb)
   · exact .inl hb
   · exact .inr ⟨.inr (hob b hb), (own_unf hw (hob b hb) : Unf C.w b)⟩
theorem VCall.hand {f : FuncId} {args : List SV} {K : Out → List SObj → Prop} (h : Nat) {t : Ty} {xs : List t.den} (hH : H[h]? = some (.row t xs)) (hlen : xs.length ≤ 1125899906842624) (ho : SV.frzObL h t xs args)
 (hc : VCall P f (SV.frzL h t xs args) (H.set h .dead) K) : VCall P f args H K := by
 intro C vs hw hv
 obtain ⟨g1, g2⟩ := wd_hand hw hH
 refine (hc (C.frz h) vs g1 (frzL_den hw hH hlen ho hv)).mono ?_
 rintro e w' ⟨o, H', C', hk, rfl, hw', hx, hd'⟩
 exact ⟨o, H', C', hk, rfl, hw', g2.trans hx, hd'⟩
theorem VCallG.hand {f : FuncId} {args : List SV} {K : Out → List SObj → Prop} (h : Nat) {t : Ty} {xs : List t.den} (hH : H[h]? = some (.row t xs)) (hlen : xs.length ≤ 1125899906842624) (ho : SV.frzObL h t xs args)
 (hc : VCallG P f (SV.frzL h t xs args) (H.set h .dead) K) : VCallG P f args H K := by
 intro E C vs hw hg hv
 obtain ⟨g1, g2⟩ := wd_hand hw hH
 refine (hc E (C.frz h) vs g1 (Ghost.next g2 hg) (frzL_den hw hH hlen ho hv)).mono ?_
 rintro e w' ⟨o, H', C', hk, rfl, hw', hx, hd'⟩
 exact ⟨o, H', C', hk, rfl, hw', (Stp.of g2).trans hx, hd'⟩
def handC (h : Nat) (args : List SV) (H : List SObj) (k : List SV → List SObj → Prop) : Prop := match H[h]? with
 | some (.row t xs) => xs.length ≤ 1125899906842624 ∧ SV.frzObL h t xs args ∧ k (SV.frzL h t xs args) (H.set h .dead)
 | _ => False
theorem callI_hand {f : FuncId} {args : List SV} {d : Option Tmp} {m : IM} (h : Nat) (hc : handC h args m.heap fun args' H' => CallI P AQ f args' d { m with heap := H' }) : CallI P AQ f args d m := by
 unfold handC at hc
 split at hc
 · rename_i t xs hH
   exact ⟨hc.2.2.1, VCallG.hand h hH hc.1 hc.2.1 hc.2.2.2⟩
 · exact hc.elim
theorem callR_hand {G : List Nat} {f : FuncId} {args : List SV} {d : Option Tmp} {m : IM} (h : Nat) (hG : G.contains h = false) (hc : handC h args m.heap fun args' H' => CallR P AQ G f args' d { m with heap := H' }) : CallR P AQ G f args d m := by
 unfold handC at hc
 split at hc
 · rename_i t xs hH
   refine ⟨hc.2.2.1, VCallG.hand h hH hc.1 hc.2.1 (hc.2.2.2.mono fun o H' ho => ?_)⟩
   have hs : SameG G m.heap (m.heap.set h .dead) := fun i hi => by
    rw [List.getElem?_set_ne]
    rintro rfl
    have : G.contains h = true := by simpa using hi
    rw [this] at hG; cases hG
   cases o with
   | ret s => exact ⟨fun hg => hs.trans (ho.1 hg), ho.2⟩
   | pan s => exact ho
 · exact hc.elim

theorem cleanL_rawL : ∀ (l : List Value), SV.cleanL (rawL l) = true
 | [] => rfl
 | _ :: l => by rw [rawL, List.map_cons, SV.cleanL, SV.clean, Bool.true_and]; exact cleanL_rawL l

theorem getA {α : Type} (G R : List α) (k : Nat) : (G ++ R)[G.length + k]? = R[k]? := by rw [List.getElem?_append_right (by omega)]; congr 1; omega
theorem getA0 {α : Type} (G R : List α) : (G ++ R)[G.length]? = R[0]? := getA G R 0
theorem setA {α : Type} (G R : List α) (k : Nat) (x : α) : (G ++ R).set (G.length + k) x = G ++ R.set k x := by rw [List.set_append_right _ _ (by omega)]; congr 2; omega
theorem setA0 {α : Type} (G R : List α) (x : α) : (G ++ R).set G.length x = G ++ R.set 0 x := setA G R 0 x
theorem get_len {α : Type} (l : List α) (a : α) : (l ++ [a])[l.length]? = some a := by simp
theorem set_len {α : Type} (l : List α) (a b : α) : (l ++ [a]).set l.length b = l ++ [b] := by simp
theorem length_snoc {α : Type} (l : List α) (a : α) : (l ++ [a]).length = l.length + 1 := by simp
theorem wrapi {n : Int} (h : -9223372036854775808 ≤ n ∧ n ≤ 9223372036854775807) : IntKind.i64.wrap n = n := IntWalk.i64_in n h
theorem getD_mem {α : Type} {l : List α} {i : Nat} {d : α} (h : i < l.length) : l.getD i d ∈ l := by
 rw [List.getD_eq_getElem?_getD, List.getElem?_eq_getElem h]; exact List.getElem_mem h
theorem take_succ_getD {α : Type} {l : List α} {i : Nat} {d : α} (h : i < l.length) : l.take (i + 1) = l.take i ++ [l.getD i d] := by
 rw [List.take_add_one, List.getD_eq_getElem?_getD, List.getElem?_eq_getElem h]; rfl
theorem all_take_succ {α : Type} {l : List α} {i : Nat} {d : α} {p : α → Bool} (h : i < l.length) : (l.take (i + 1)).all p = ((l.take i).all p && p (l.getD i d)) := by
 rw [take_succ_getD (d := d) h]; simp
theorem all_of_not {α : Type} {l : List α} {i : Nat} {d : α} {p : α → Bool} (h : i < l.length) (hp : p (l.getD i d) = false) : l.all p = false := by
 rw [List.all_eq_false]; exact ⟨_, getD_mem h, by rw [hp]; simp⟩
theorem all_of_take {α : Type} {l : List α} {i : Nat} {p : α → Bool} (h : ¬ i < l.length) (hp : (l.take i).all p = true) : l.all p = true := by
 rwa [List.take_of_length_le (by omega)] at hp
theorem cast0 : ((0 : Nat) : Int) = 0 := rfl
attribute [go_sem] handC FrzM Frz frzObH SObj.frzOb SV.frzOb SV.frzObL SV.frz SV.frzL frzH SObj.frz List.map_append Int.toNat_natCast cast0 get_len set_len length_snoc setMany maskT leM leM1 IC.wr OpI.wr List.flatMap_cons List.flatMap_nil Option.toList_some Option.toList_none List.foldl_cons List.foldl_nil
theorem goaE {P : Program} {AQ : Ex → List SV → List SObj → Prop} {m : IM} {q : Prop} (hm : P.follows .mixedOrders = true) (h : q) (e : run P AQ 600 m = q := by (simp (maxSteps := 3000000) only [List.append_assoc, getA, getA0, setA, setA0, List.length_append, Nat.add_assoc, go_sem, ↓zA, ↓reduceIte, ↓reduceDIte, reduceCtorEq, Nat.reduceAdd, Nat.reduceSub, Nat.reduceLeDiff, Nat.reduceLT, Nat.reduceEqDiff, Nat.reduceBEq, Nat.reduceMul, Int.reduceToNat, Int.reduceEq, Int.reduceLT, Int.reduceLE]; (try simp only [zB]); rfl)) : SoundI P AQ m := run_sound hm 600 m (Eq.mpr e h)
end Go.Sx
set_option linter.unusedSectionVars false
namespace Go.Sx
open Go

variable [Ghost] {P : Program} {AQ : Ex → List SV → List SObj → Prop} {k0 : Nat} {k : List IT} {t : List SV} {H : List SObj}

theorem belL_set {n : Nat} {s : SV} (hs : s.bel n = true) : ∀ {l : List SV} (i : Nat), SV.belL n l = true → SV.belL n (l.set i s) = true
 | [], _, h => h
 | x :: l, 0, h => by rw [List.set_cons_zero, SV.belL] at *; simp only [Bool.and_eq_true] at *; exact ⟨hs, h.2⟩
 | x :: l, i + 1, h => by rw [List.set_cons_succ, SV.belL] at *; simp only [Bool.and_eq_true] at *; exact ⟨h.1, belL_set hs i h.2⟩
theorem belL_mask {n : Nat} : ∀ (ws : List Nat) {l : List SV}, SV.belL n l = true → SV.belL n (maskT ws l) = true
 | [], _, h => h
 | d :: ws, l, h => by
  simp only [maskT, List.foldl_cons]
  exact belL_mask ws (belL_set (s := .any) rfl d h)
theorem belL_many {n : Nat} : ∀ (u : List (Nat × SV)) {l : List SV}, (u.all fun x => x.2.bel n) = true → SV.belL n l = true → SV.belL n (setMany l u) = true
 | [], _, _, h => h
 | (i, s) :: u, l, hu, h => by
  simp only [List.all_cons, Bool.and_eq_true] at hu
  exact belL_many u hu.2 (belL_set hu.1 i h)
theorem belH_of {n : Nat} : ∀ {L : List SObj}, (∀ (h : Nat) (o : SObj), L[h]? = some o → o.bel n = true) → belH n L = true
 | [], _ => rfl
 | o :: l, h => by
  simp only [belH, Bool.and_eq_true]
  exact ⟨h 0 o rfl, belH_of fun i x hx => h (i + 1) x (by simpa using hx)⟩
theorem leM_leT : ∀ {l l' : List SV}, leM l l' → leT (fun h => h) l l'
 | [], [], _ => trivial
 | s :: l, s' :: l', h => by
  refine ⟨?_, leM_leT h.2⟩
  have := h.1
  cases s' <;> first | trivial | (simp only [leM1] at this; simp only [leS]; rw [this]; rw [ren_id])
 | [], _ :: _, h => h.elim
 | _ :: _, [], h => h.elim
theorem den_le {σ : Nat → Nat} {t' : List SV} {H' : List SObj} {E : EnD} {C : Cx} {a : Act} (he : E.C.n ≤ k0) (hd : Den E C t H a) (tm : leT σ t t') (bt : SV.belL H'.length t' = true)
 (hp : ∀ h o, H'[h]? = some o → o.live = true → H[σ h]? = some (o.ren σ)) (bh : belH H'.length H' = true) (inj : ∀ h h' o o', H'[h]? = some o → H'[h']? = some o' → o.live = true → o'.live = true → σ h = σ h' → h = h') (fix : ∀ h, h < k0 → σ h = h) (len : k0 ≤ H'.length) :
 Den E (C.ren σ H'.length) t' H' a := by
 have hown : ∀ b, OwnB (C.ren σ H'.length) H' b → OwnB C H b := by
  rintro b ⟨i, o, ho, hl, hb⟩
  exact ⟨σ i, _, hp i o ho hl, by rw [ren_live]; exact hl, hb⟩
 have hevo : Evo E.C (C.ren σ H'.length) := ⟨Nat.le_trans he len, fun x hx => by simp only [Cx.ren]; rw [fix x (by omega)]; exact hd.ext.evo.ρ x hx, hd.ext.evo.I, hd.ext.evo.sz⟩
 refine ⟨⟨rfl, ?_, fun b hb => hd.wd.own b (hown b hb), ?_, hd.wd.imm⟩, ⟨hevo, hd.ext.size, hd.ext.os, hd.ext.tape, hd.ext.output, hd.ext.frame, hd.ext.immNew, fun b hb => hd.ext.ownNew b (hown b hb)⟩, ?_, leT_den tm bt hd.tmps⟩
 · intro i o ho
   by_cases hl : o.live = true
   · exact objRen (belH_get bh ho) (hd.wd.obj _ _ (hp i o ho hl))
   · cases o <;> first | trivial | simp [SObj.live] at hl
 · intro i j o o' b ho ho' hl hl' hb hb'
   exact inj i j o o' ho ho' hl hl' (hd.wd.inj (σ i) (σ j) _ _ b (hp i o ho hl) (hp j o' ho' hl') (by rw [ren_live]; exact hl) (by rw [ren_live]; exact hl') hb hb')
 · exact ⟨hd.defs.1, Ghost.same hd.wd rfl (fun _ hb => .inl hb) hown hd.defs.2⟩

def RoundD (H : List SObj) (S : Nat → List SV) (n : Nat) (p : Nat → Prop) (i : Nat) : List SV → List SObj → Prop :=
 fun t' H' => i < n ∧ p (i + 1) ∧ (∃ G, H' = H ++ G) ∧ leM t' (S (i + 1))
theorem sound_loopD {P : Program} {k : List It} (c : Code) (S : Nat → List SV) (n : Nat) (p : Nat → Prop) (h₀ : p 0) (hs : leM t (S 0)) (hk : k0 ≤ H.length) (hb : SV.belL H.length t = true → ∀ i, SV.belL H.length (S i) = true)
 (round : ∀ i, i ≤ n → p i → Sound P AQ ⟨k0, .code c :: .stop (RoundD H S n p i) :: k, S i, H⟩) : Sound P AQ ⟨k0, .code (.loop c) :: k, t, H⟩ := fun E r m C a h0 hd => by
 have hbt : ∀ i, SV.belL H.length (S i) = true := hb (by have := denL_bel hd.tmps; rwa [hd.wd.n] at this)
 have hbh : belH H.length H = true := belH_of fun h o ho => by have := obj_bel (hd.wd.obj h o ho); rwa [hd.wd.n] at this
 simp only [wpT]
 refine wpIn_loop_ghost (fun m a w => ∃ i, i ≤ n ∧ p i ∧ n - i = m ∧ ∃ C, C.w = w ∧ Den E C (S i) H a) n ⟨0, Nat.zero_le _, h₀, rfl, C, rfl, hd.wd, hd.ext, hd.defs, leL_den (leM_leL hs) hd.tmps⟩ ?_
 rintro m' a w ⟨i, hi, hp, rfl, C, rfl, hd⟩
 have h1 := round i hi hp E r m C a h0 hd
 simp only [wpT] at h1
 refine wpIn_mono h1 fun e a w hq => ?_
 cases e with
 | normal =>
  obtain ⟨C', t', H', ⟨hlt, hp', ⟨G, rfl⟩, hS⟩, rfl, hd'⟩ := hq
  refine ⟨n - (i + 1), by omega, i + 1, hlt, hp', rfl, C'.ren (fun h => h) H.length, rfl, ?_⟩
  exact den_le h0 hd' (leM_leT hS) (hbt _) (fun h o ho _ => by rw [objRen_id, List.getElem?_append_left (List.getElem?_eq_some_iff.1 ho).1]; exact ho) hbh (fun _ _ _ _ _ _ _ _ e => e) (fun _ _ => rfl) hk
 | exit id => simpa only [Exit.then, exitT] using hq
 | _ => exact hq
theorem si_cntD {c : IC} (upd : Nat → List (Nat × SV)) (n : Nat) (q : Nat → Prop) (hk : k0 ≤ H.length) (hu : ∀ i, ((upd i).all fun x => x.2.bel H.length) = true) (hs : leM t (setMany (maskT c.wr t) (upd 0)))
 (round : ∀ i, i ≤ n → (∀ j, j < i → q j) → SoundI P AQ ⟨k0, .ic c :: .stop (RoundD H (fun i => setMany (maskT c.wr t) (upd i)) n (fun i => ∀ j, j < i → q j) i) :: k, setMany (maskT c.wr t) (upd i), H⟩) :
 SoundI P AQ ⟨k0, .ic (.loop c) :: k, t, H⟩ := soundI_plain (fun td' hr => by
 obtain ⟨c', r, rfl, hc, hr⟩ := hr
 obtain ⟨x, rfl, hx⟩ := comp_inv hc
 exact sound_loopD x _ n _ (fun j hj => absurd hj (Nat.not_lt_zero j)) hs hk (fun hb i => belL_many _ (hu i) (belL_mask _ hb)) (fun i hi hp => soundI_get (round i hi hp) ⟨x, _, rfl, hx, r, rfl, hr⟩)) rfl
theorem next_all {q : Nat → Prop} {i : Nat} (hall : ∀ j, j < i → q j) (h : q i) : ∀ j, j < i + 1 → q j := fun j hj => by
 by_cases e : j = i
 · subst e; exact h
 · exact hall j (by omega)

def shift (n m h : Nat) : Nat := if h = n then m else h
def RoundA (H : List SObj) (ty : Ty) (S : Nat → List SV) (xs : Nat → List ty.den) (n : Nat) (p : Nat → Prop) (i : Nat) : List SV → List SObj → Prop :=
 fun t' H' => i < n ∧ p (i + 1) ∧ ∃ G G', H' = H ++ G ++ [.row ty (xs (i + 1))] ++ G' ∧ leT (shift H.length (H.length + G.length)) t' (S (i + 1))
theorem ren_bel {n m : Nat} : (∀ {s : SV}, s.bel n = true → s.ren (shift n m) = s) ∧ (∀ {l : List SV}, SV.belL n l = true → SV.renL (shift n m) l = l) := by
 have hlt : ∀ h, decide (h < n) = true → shift n m h = h := fun h hh => by unfold shift; rw [if_neg (by have := of_decide_eq_true hh; omega)]
 refine ⟨fun {s} => ?_, fun {l} => ?_⟩
 · exact SV.rec (motive_1 := fun s => s.bel n = true → s.ren (shift n m) = s) (motive_2 := fun l => SV.belL n l = true → SV.renL (shift n m) l = l)
    (by intro h; rw [SV.ren]) (by intros; rw [SV.ren]) (by intros; rw [SV.ren]) (by intros; rw [SV.ren]) (by intros; rw [SV.ren]) (fun h _ hb => by rw [SV.bel] at hb; rw [SV.ren, hlt _ hb]) (fun h _ _ _ hb => by rw [SV.bel] at hb; rw [SV.ren, hlt _ hb]) (fun h _ _ hb => by rw [SV.bel] at hb; rw [SV.ren, hlt _ hb]) (fun h _ _ _ hb => by rw [SV.bel] at hb; rw [SV.ren, hlt _ hb]) (fun h _ _ hb => by rw [SV.bel] at hb; rw [SV.ren, hlt _ hb])
    (fun l ih hb => by rw [SV.bel] at hb; rw [SV.ren, ih hb]) (fun l ih hb => by rw [SV.bel] at hb; rw [SV.ren, ih hb]) (fun f a b iha ihb hb => by rw [SV.bel, Bool.and_eq_true] at hb; rw [SV.ren, iha hb.1, ihb hb.2]) (fun T x ih hb => by rw [SV.bel] at hb; rw [SV.ren, ih hb]) (fun h hb => by rw [SV.bel] at hb; rw [SV.ren, hlt _ hb]) (by intros; rw [SV.ren])
    (fun _ => by rw [SV.renL]) (fun s l ihs ihl hb => by rw [SV.belL, Bool.and_eq_true] at hb; rw [SV.renL, ihs hb.1, ihl hb.2]) s
 · exact SV.rec_1 (motive_1 := fun s => s.bel n = true → s.ren (shift n m) = s) (motive_2 := fun l => SV.belL n l = true → SV.renL (shift n m) l = l)
    (by intro h; rw [SV.ren]) (by intros; rw [SV.ren]) (by intros; rw [SV.ren]) (by intros; rw [SV.ren]) (by intros; rw [SV.ren]) (fun h _ hb => by rw [SV.bel] at hb; rw [SV.ren, hlt _ hb]) (fun h _ _ _ hb => by rw [SV.bel] at hb; rw [SV.ren, hlt _ hb]) (fun h _ _ hb => by rw [SV.bel] at hb; rw [SV.ren, hlt _ hb]) (fun h _ _ _ hb => by rw [SV.bel] at hb; rw [SV.ren, hlt _ hb]) (fun h _ _ hb => by rw [SV.bel] at hb; rw [SV.ren, hlt _ hb])
    (fun l ih hb => by rw [SV.bel] at hb; rw [SV.ren, ih hb]) (fun l ih hb => by rw [SV.bel] at hb; rw [SV.ren, ih hb]) (fun f a b iha ihb hb => by rw [SV.bel, Bool.and_eq_true] at hb; rw [SV.ren, iha hb.1, ihb hb.2]) (fun T x ih hb => by rw [SV.bel] at hb; rw [SV.ren, ih hb]) (fun h hb => by rw [SV.bel] at hb; rw [SV.ren, hlt _ hb]) (by intros; rw [SV.ren])
    (fun _ => by rw [SV.renL]) (fun s l ihs ihl hb => by rw [SV.belL, Bool.and_eq_true] at hb; rw [SV.renL, ihs hb.1, ihl hb.2]) l
theorem sound_loopA {P : Program} {k : List It} (c : Code) (ty : Ty) (S : Nat → List SV) (xs : Nat → List ty.den) (n : Nat) (p : Nat → Prop) (h₀ : p 0) (hs : leM t (S 0)) (hk : k0 ≤ H.length) (hx0 : xs 0 = []) (hbh : belH H.length H = true) (hb : SV.belL (H.length + 1) t = true → ∀ i, SV.belL (H.length + 1) (S i) = true)
 (round : ∀ i, i ≤ n → p i → Sound P AQ ⟨k0, .code c :: .stop (RoundA H ty S xs n p i) :: k, S i, H ++ [.row ty (xs i)]⟩) : Sound P AQ ⟨k0, .code (.loop c) :: k, t, H ++ [.row ty []]⟩ := fun E r m C a h0 hd => by
 have hbt : ∀ i, SV.belL (H.length + 1) (S i) = true := hb (by have := denL_bel hd.tmps; rw [hd.wd.n] at this; simpa using this)
 have hbh' : ∀ ys : List ty.den, belH (H.length + 1) (H ++ [.row ty ys]) = true := fun ys => belH_of fun h o ho => by
  rcases get_append_some ho with ⟨_, ho⟩ | ⟨_, rfl⟩
  · have := obj_bel (hd.wd.obj h o (by rw [List.getElem?_append_left (List.getElem?_eq_some_iff.1 ho).1]; exact ho)); rw [hd.wd.n] at this; simpa using this
  · rfl
 simp only [wpT]
 refine wpIn_loop_ghost (fun m a w => ∃ i, i ≤ n ∧ p i ∧ n - i = m ∧ ∃ C, C.w = w ∧ Den E C (S i) (H ++ [.row ty (xs i)]) a) n ⟨0, Nat.zero_le _, h₀, rfl, C, rfl, by rw [hx0]; exact hd.wd, by rw [hx0]; exact hd.ext, by rw [hx0]; exact hd.defs, leL_den (leM_leL hs) hd.tmps⟩ ?_
 rintro m' a w ⟨i, hi, hp, rfl, C, rfl, hd⟩
 have h1 := round i hi hp E r m C a h0 hd
 simp only [wpT] at h1
 refine wpIn_mono h1 fun e a w hq => ?_
 cases e with
 | normal =>
  obtain ⟨C', t', H', ⟨hlt, hp', G, G', rfl, hS⟩, rfl, hd'⟩ := hq
  refine ⟨n - (i + 1), by omega, i + 1, hlt, hp', rfl, C'.ren (shift H.length (H.length + G.length)) (H ++ [SObj.row ty (xs (i + 1))]).length, rfl, ?_⟩
  have hsh : ∀ h, h < H.length → shift H.length (H.length + G.length) h = h := fun h hh => by unfold shift; rw [if_neg (by omega)]
  have hshn : shift H.length (H.length + G.length) H.length = H.length + G.length := by unfold shift; rw [if_pos rfl]
  refine den_le h0 hd' hS (by simpa using hbt (i + 1)) (fun h o ho hl => ?_) (by simpa using hbh' (xs (i + 1))) (fun h h' o o' ho ho' _ _ e => ?_) (fun h hh => hsh h (Nat.lt_of_lt_of_le hh hk)) (by simp; exact Nat.le_succ_of_le hk)
  · rcases get_append_some ho with ⟨hh, ho⟩ | ⟨hh, rfl⟩
    · rw [hsh h hh]
      have hr : o.ren (shift H.length (H.length + G.length)) = o := by
       have hbo := belH_get hbh ho
       cases o with
       | cells T cs => simp only [SObj.ren]; rw [ren_bel.2 (by simpa [SObj.bel] using hbo)]
       | _ => rfl
      rw [hr, List.append_assoc, List.append_assoc, List.getElem?_append_left hh]; exact ho
    · subst hh
      rw [hshn]
      simp [SObj.ren]
  · have hlen : ∀ {h : Nat} {o : SObj}, (H ++ [SObj.row ty (xs (i + 1))])[h]? = some o → h ≤ H.length := fun ho => by have := (List.getElem?_eq_some_iff.1 ho).1; simp at this; omega
    have g1 := hlen ho
    have g2 := hlen ho'
    unfold shift at e
    split at e <;> split at e <;> omega
 | exit id => simpa only [Exit.then, exitT] using hq
 | _ => exact hq
theorem si_accA {c : IC} (slot : Nat) (ty : Ty) (xs : Nat → List ty.den) (upd : Nat → List (Nat × SV)) (n : Nat) (q : Nat → Prop) (hk : k0 ≤ H.length) (hx0 : xs 0 = []) (hbh : belH H.length H = true) (hu : ∀ i, ((upd i).all fun x => x.2.bel (H.length + 1)) = true)
 (hs : leM t (setMany (maskT c.wr t) ((slot, .bld H.length ty 0) :: upd 0)))
 (round : ∀ i, i ≤ n → (∀ j, j < i → q j) → SoundI P AQ ⟨k0, .ic c :: .stop (RoundA H ty (fun i => setMany (maskT c.wr t) ((slot, .bld H.length ty (xs i).length) :: upd i)) xs n (fun i => ∀ j, j < i → q j) i) :: k, setMany (maskT c.wr t) ((slot, .bld H.length ty (xs i).length) :: upd i), H ++ [.row ty (xs i)]⟩) :
 SoundI P AQ ⟨k0, .ic (.loop c) :: k, t, H ++ [.row ty []]⟩ := soundI_plain (fun td' hr => by
 obtain ⟨c', r, rfl, hc, hr⟩ := hr
 obtain ⟨x, rfl, hx⟩ := comp_inv hc
 refine sound_loopA x ty _ xs n _ (fun j hj => absurd hj (Nat.not_lt_zero j)) (by rw [hx0]; exact hs) hk hx0 hbh (fun hb i => belL_many _ ?_ (belL_mask _ hb)) (fun i hi hp => soundI_get (round i hi hp) ⟨x, _, rfl, hx, r, rfl, hr⟩)
 rw [List.all_cons, Bool.and_eq_true]
 exact ⟨by rw [SV.bel]; simp, hu i⟩) rfl
attribute [go_sem] leT leS shift SV.ren SV.renL
end Go.Sx
namespace Go.Sx
open Go

def Ty.inR : (t : Ty) → t.den → Prop
 | .u8, _ => True
 | .int k, n => k.min ≤ n ∧ n ≤ k.max
 | .bool, _ => True
 | .str, _ => True
 | .slice t, xs => ∀ x ∈ xs, t.inR x
 | .prod a b, x => a.inR x.1 ∧ b.inR x.2
 | .unit, _ => True
def tyFs (P : Program) (rec : TypeId → Option Ty) : List Field → Nat → Option Ty
 | [], _ => none
 | f :: fs, off => match rec f.type with
  | none => none
  | some a => if f.offset = off ∧ P.cellsOf f.type = a.size then
   (match fs with
   | [] => some a
   | _ :: _ => (tyFs P rec fs (off + a.size)).map (.prod a ·)) else none
def tyRd (P : Program) : Nat → TypeId → Option Ty
 | 0, _ => none
 | n + 1, t => match P.underlying t with
  | some .bool => some .bool
  | some (.int .u8) => some .u8
  | some (.int k) => some (.int k)
  | some .string => some .str
  | some (.slice e) => match tyRd P n e with
   | some a => if P.cellsOf e = a.size ∧ 0 < P.bytesOf e ∧ 0 < a.size then some (.slice a) else none
   | none => none
  | some (.struct fs) => match tyFs P (tyRd P n) fs.toList 0 with
   | some a => if P.cellsOf t = a.size then some a else none
   | none => none
  | _ => none

variable {H : Type} {enc : TypeId × Value → H} {P : Program} {w : World} {spare : Nat → Bool} {held : Bool}

theorem all_append_le {l r : List Nat} {B : Nat} (h : (l ++ r).all (· ≤ B) = true) : l.all (· ≤ B) = true ∧ r.all (· ≤ B) = true := by
 rw [List.all_append, Bool.and_eq_true] at h; exact h
theorem weightsAll_get {e : TypeId} {B : Nat} : ∀ {l : List (DataW H)} {i : Nat} {d : DataW H}, (DataW.weightsAll P e l).all (· ≤ B) = true → l[i]? = some d → (d.weights P e).all (· ≤ B) = true
 | [], _, _, _, h => by simp at h
 | x :: l, 0, d, hw, h => by
  simp at h; subst h
  rw [DataW.weightsAll] at hw; exact (all_append_le hw).1
 | x :: l, i + 1, d, hw, h => by
  rw [DataW.weightsAll] at hw
  exact weightsAll_get (all_append_le hw).2 (by simpa using h)
theorem cells?_cell {a : Addr} {n : Nat} {cs : List Value} (h : w.cells? 0 a n = some cs) : ∀ (k : Nat) (u : Value), cs[k]? = some u → w.cell? (a.add k) = some u := by
 intro k u hu
 unfold World.cells? at h
 rw [if_pos (Nat.zero_le _)] at h
 have hl := mapM_some_length h
 rw [List.length_range] at hl
 have hk : k < n := by rw [← hl]; exact (List.getElem?_eq_some_iff.1 hu).1
 have := mapM_some_get h k k (by simp [hk])
 rw [this, hu]
theorem cell?_spot {a : Addr} {v : Value} (h : w.cell? a = some v) : a.spot = none ∧ a.block < w.heap.size := by
 unfold World.cell? at h
 split at h
 · rename_i c t f hb
   split at h
   · cases h
   · rename_i hs
     exact ⟨by simpa using hs, (Array.getElem?_eq_some_iff.1 hb).1⟩
 · cases h
theorem exists_list {α : Type} {n : Nat} {p : Nat → α → Prop} (h : ∀ i, i < n → ∃ x, p i x) : ∃ l : List α, l.length = n ∧ ∀ i x, l[i]? = some x → p i x := by
 induction n with
 | zero => exact ⟨[], rfl, fun i x h => by simp at h⟩
 | succ n ih =>
  obtain ⟨l, hl, hp⟩ := ih (fun i hi => h i (by omega))
  obtain ⟨x, hx⟩ := h n (by omega)
  refine ⟨l ++ [x], by simp [hl], fun i y hy => ?_⟩
  rcases Nat.lt_or_ge i l.length with hi | hi
  · rw [List.getElem?_append_left hi] at hy; exact hp i y hy
  · rw [List.getElem?_append_right hi] at hy
    have : i - l.length = 0 := by
     rcases Nat.lt_or_ge (i - l.length) 1 with h1 | h1
     · omega
     · rw [List.getElem?_eq_none (by simpa using h1)] at hy; cases hy
    rw [this] at hy
    simp at hy; subst hy
    have : i = n := by omega
    rw [this]; exact hx
theorem trodFs_rel {n : Nat} {rec : TypeId → Option Ty} {cs : List Value}
 (ih : ∀ (t : TypeId) (cs : List Value) (d : DataW H) (ps : List MemPlace) (ty : Ty), rec t = some ty → DataW.trod enc P w 0 spare held n t cs = some (d, ps) → (d.weights P t).all (· ≤ reachBytes) = true → ∃ x : ty.den, ty.rel (fun b => b < w.heap.size) w x cs ∧ ty.inR x) :
 ∀ (fs : List Field) (xs : List (DataW H × List MemPlace)) (off : Nat) (ty : Ty), tyFs P rec fs off = some ty → xs.length = fs.length →
  (∀ (i : Nat) (f : Field), fs[i]? = some f → DataW.trod enc P w 0 spare held n f.type ((cs.drop f.offset).take (P.cellsOf f.type)) = xs[i]?) →
  (DataW.weightsEach P (fs.map (·.type)) (xs.map (·.1))).all (· ≤ reachBytes) = true → cs.length = off + ty.size →
  ∃ x : ty.den, ty.rel (fun b => b < w.heap.size) w x (cs.drop off) ∧ ty.inR x
 | [], _, _, _, h, _, _, _, _ => by simp [tyFs] at h
 | f :: fs, xs, off, ty, h, hl, hx, hw, hc => by
  unfold tyFs at h
  split at h
  · cases h
  · rename_i a ha
    split at h
    · rename_i hk
      obtain ⟨ho, hs⟩ := hk
      cases xs with
      | nil => simp at hl
      | cons y ys =>
       have h0 := hx 0 f rfl
       simp only [List.getElem?_cons_zero] at h0
       simp only [List.map_cons, DataW.weightsEach] at hw
       obtain ⟨hw1, hw2⟩ := all_append_le hw
       obtain ⟨x, hx1, hx2⟩ := ih f.type _ y.1 y.2 a ha h0 hw1
       rw [ho, hs] at hx1
       split at h
       · cases h
         rw [List.take_of_length_le (by rw [List.length_drop]; omega)] at hx1
         exact ⟨x, hx1, hx2⟩
       · rename_i g gs
         simp only [Option.map_eq_some_iff] at h
         obtain ⟨b, hb, rfl⟩ := h
         have hsz : (Ty.prod a b).size = a.size + b.size := rfl
         obtain ⟨z, hz1, hz2⟩ := trodFs_rel ih (g :: gs) ys (off + a.size) b hb (by simpa using hl) (fun i f' hf => by have := hx (i + 1) f' (by simpa using hf); simpa using this) hw2 (by omega)
         refine ⟨(x, z), ⟨_, _, ?_, hx1, hz1⟩, hx2, hz2⟩
         rw [← List.drop_drop, List.take_append_drop]
    · cases h

theorem trod_rel : ∀ (fuel n : Nat) (t : TypeId) (cs : List Value) (d : DataW H) (ps : List MemPlace) (ty : Ty), tyRd P n t = some ty → DataW.trod enc P w 0 spare held fuel t cs = some (d, ps) → (d.weights P t).all (· ≤ reachBytes) = true →
 ∃ x : ty.den, ty.rel (fun b => b < w.heap.size) w x cs ∧ ty.inR x
 | _, 0, _, _, _, _, _, h, _, _ => by simp [tyRd] at h
 | 0, n + 1, t, cs, d, ps, ty, h, hd, hw => by simp [DataW.trod] at hd
 | fuel + 1, n + 1, t, cs, d, ps, ty, h, hd, hw => by
  unfold tyRd at h
  split at h
  · rename_i hu
    cases h
    obtain ⟨b, rfl, _⟩ := DataW.trod_bool hu hd
    exact ⟨b, rfl, trivial⟩
  · rename_i hu
    cases h
    obtain ⟨m, rfl, _, hwf⟩ := DataW.trod_int hu hd
    simp only [Lit.wf, Bool.and_eq_true, decide_eq_true_eq] at hwf
    have h1 : (0 : Int) ≤ m := hwf.1
    have h2 : m ≤ 255 := hwf.2
    refine ⟨UInt8.ofNat m.toNat, ?_, trivial⟩
    simp only [Ty.rel]
    have : ((UInt8.ofNat m.toNat).toNat : Int) = m := by rw [UInt8.toNat_ofNat']; omega
    rw [this]
  · rename_i k hne hu
    cases h
    obtain ⟨m, rfl, _, hwf⟩ := DataW.trod_int hu hd
    simp only [Lit.wf, Bool.and_eq_true, decide_eq_true_eq] at hwf
    exact ⟨m, rfl, hwf⟩
  · rename_i hu
    cases h
    obtain ⟨s, rfl, hx, _⟩ := DataW.trod_string hu hd
    cases hx
    simp only [DataW.weights, List.all_cons, List.all_nil, Bool.and_true] at hw
    have hw := of_decide_eq_true hw
    refine ⟨s, ⟨rfl, ?_⟩, trivial⟩
    have e1 : s.data.toList.length = s.size := by simp
    rw [e1] at hw
    simp only [reachBytes] at hw
    omega
  · rename_i e hu
    split at h
    · rename_i a ha
      split at h
      · rename_i hk
        obtain ⟨hk1, hk2, hk3⟩ := hk
        cases h
        rcases DataW.trod_slice hu hd with ⟨rfl, hx⟩ | ⟨A, len, cap, elems, rest, m, hm, rfl, hx, _, hlc, _, hel, he, _, _⟩
        · exact ⟨[], ⟨_, _, _, rfl, rfl, Nat.le_refl _, by simp, .inl rfl⟩, fun x hx => by cases hx⟩
        · cases hm
          cases hx
          simp only [DataW.weights, hu, List.all_cons, Bool.and_eq_true, decide_eq_true_eq] at hw
          obtain ⟨hw0, hw1⟩ := hw
          obtain ⟨hw1, _⟩ := all_append_le hw1
          have hlen : len ≤ 1125899906842624 := by
           simp only [List.length_map, reachBytes] at hw0
           have : len * 1 ≤ (elems.length + rest.length) * P.bytesOf e := Nat.mul_le_mul (by omega) hk2
           omega
          have key : ∀ i, i < len → ∃ x : a.den, (∃ us, w.cells? 0 (A.add (i * P.cellsOf e)) (P.cellsOf e) = some us ∧ a.rel (fun b => b < w.heap.size) w x us) ∧ a.inR x := fun i hi => by
           have h1 := he i hi
           have hlt : i < elems.length := by omega
           rw [List.getElem?_eq_getElem hlt, Option.bind_eq_some_iff] at h1
           obtain ⟨us, hu1, hu2⟩ := h1
           obtain ⟨x, hx1, hx2⟩ := trod_rel fuel n e us elems[i].1 elems[i].2 a ha hu2 (weightsAll_get hw1 (by rw [List.getElem?_map, List.getElem?_eq_getElem hlt]; rfl))
           exact ⟨x, ⟨us, hu1, hx1⟩, hx2⟩
          obtain ⟨xs, hxl, hxp⟩ := exists_list key
          refine ⟨xs, ⟨some A, len, cap, rfl, hxl.symm, hlc, hlen, ?_⟩, fun x hx => ?_⟩
          · by_cases h0 : xs = []
            · exact .inl h0
            · right
              have hpos : 0 < len := by rw [← hxl]; exact List.length_pos_iff.2 h0
              obtain ⟨x0, ⟨us0, hu0, hr0⟩, _⟩ := key 0 hpos
              have hl0 := a.rel_size _ _ hr0
              have hc0 : us0[0]? = some (us0.getD 0 default) := by
               rw [List.getD_eq_getElem?_getD]
               rw [List.getElem?_eq_getElem (show 0 < us0.length by omega)]; rfl
              have hcell := cells?_cell hu0 0 _ hc0
              have hadd : (A.add (0 * P.cellsOf e)).add 0 = A := by simp [Addr.add]
              rw [hadd] at hcell
              obtain ⟨hsp, hbl⟩ := cell?_spot hcell
              refine ⟨A.block, A.off, by cases A; simp at hsp; subst hsp; rfl, hbl, fun i x hx => ?_⟩
              obtain ⟨⟨us, hu1, hr1⟩, _⟩ := hxp i x hx
              refine ⟨us, hr1, fun k u hu => ?_⟩
              have := cells?_cell hu1 k u hu
              have e1 : (A.add (i * P.cellsOf e)).add k = ⟨A.block, A.off + i * a.size + k, none⟩ := by
               cases A
               simp only at hsp
               subst hsp
               simp only [Addr.add, hk1]
               split <;> split <;> simp_all
              rw [e1] at this; exact this
          · obtain ⟨i, hi, rfl⟩ := List.getElem_of_mem hx
            exact (hxp i _ (List.getElem?_eq_getElem hi)).2
      · cases h
    · cases h
  · rename_i fs hu
    split at h
    · rename_i a ha
      split at h
      · rename_i hk
        cases h
        obtain ⟨xs, m, hm, hx, hlen, hxl, hxs⟩ := DataW.trod_struct hu hd
        cases hm
        cases hx
        simp only [DataW.weights, hu] at hw
        have := trodFs_rel (cs := cs) (fun t cs d ps ty => trod_rel fuel n t cs d ps ty) fs.toList xs 0 _ ha (by simpa using hxl) (fun i f hf => hxs i f (by simpa using hf)) hw (by omega)
        simpa using this
      · cases h
    · cases h
  · cases h
end Go.Sx
namespace Go.Sx
open Go Go.ChangeShapes Go.WideShapes Go.RowKit

def Cx.top (w : World) : Cx := { ρ := fun _ => none, n := 0, I := fun b => b < w.heap.size, w := w }
theorem calls_of_pc {P : Program} {f : FuncId} {args : List SV} {v : Value} {w : World} {vs : List Value} (h : PC P f args (.raw v)) (hd : SV.denL (Cx.top w) args vs) :
 Calls P f vs.toArray w fun e w' => e = .returned v ∧ Below w.heap.size w w' := by
 have h1 : VCall P f args [] (fun o _ => o = .ret (.raw v)) := h.2 [] _ rfl
 have hw : Wd (Cx.top w) [] := ⟨rfl, fun h o ho => by simp at ho, fun b ⟨h, o, ho, _⟩ => by simp at ho, fun h h' o o' b ho => by simp at ho, fun b hb => hb⟩
 refine (h1 (Cx.top w) vs hw hd).mono ?_
 rintro e w' ⟨o, H', C', rfl, rfl, _, hx, u, rfl, hu⟩
 rw [SV.den] at hu
 subst hu
 exact ⟨rfl, hx.os, hx.tape, hx.output, hx.size, fun b hb => hx.frame b hb (fun ⟨h, o, ho, _⟩ => by simp at ho)⟩

section
variable {H : Type} {enc : TypeId × Value → H} {P : Program}
theorem trodAll_below' (hl : laidOutB P = true) {W W' : World} (hb : Below W.heap.size W W') {ts : List TypeId} {vs : List Value} {ds : List (DataW H)} {ps : List MemPlace} (ht : ∀ t ∈ ts, P.readableRec t = true ∧ t < P.types.size)
 (h : DataW.TrodAll enc P W 0 (fun _ => true) true ts vs ds ps) (hlt : ∀ x ∈ ps, x.block < W.heap.size) (sp : Nat → Bool) (hsp : ∀ p ∈ ps, sp p.block = true) : DataW.TrodAll enc P W' 0 sp true ts vs ds ps := by
 induction ts generalizing vs ds ps with
 | nil =>
  obtain ⟨rfl, rfl, rfl⟩ := trodAll_nil h
  exact rfl
 | cons t ts ih =>
  obtain ⟨v, vs, d, ds, p, q, rfl, rfl, rfl, h0, h1⟩ := trodAll_cons h
  refine ⟨p, q, ?_, ih (fun t' h' => ht t' (by simp [h'])) h1 (fun x hx => hlt x (by simp [hx])) (fun x hx => hsp x (by simp [hx])), rfl⟩
  exact WideElems.Trod_stays hl (ht t (by simp)).1 (ht t (by simp)).2 h0 (fun x hx => hb.same (hlt x (by simp [hx]))) (fun x hx => hsp x (by simp [hx]))

theorem shut_bool' {t : TypeId} {w : World} {base : Nat} {spare : Nat → Bool} {held : Bool} (ht : P.underlying t = some .bool) (b : Bool) : DataW.Trod enc P w base spare held t (.bool b) (.lit (.bool b)) [] :=
 ⟨1, by simp [DataW.trod, Value.cells, ht]⟩

theorem law_post {f : Func} {s : ChangeSpec} {W W' : World} {args : Array Value} {ds gs : List (DataW H)} {before : List MemPlace} {tb : TypeId}
 (hl : laidOutB P = true) (ht : ∀ t ∈ f.params.toList, P.readableRec t = true ∧ t < P.types.size) (hr : f.resultTypes = #[tb]) (htb : P.underlying tb = some .bool) (hvs : s.vars = [])
 (hW : DataW.Whole enc P f.params.toList s.vars false W args.toList ds gs before) (hfn : s.fn H (ds ++ gs) = { results := [.lit (.bool true)], args := ds }) (hb : Below W.heap.size W W') :
 s.post enc P f false true false false W args (.bool true) W' := by
 have hlt := hW.lt
 have hW' := hW
 rw [hvs] at hW
 obtain ⟨p, q, hA, hV, rfl, hz, hn⟩ := hW
 obtain ⟨rfl, rfl⟩ : gs = [] ∧ q = [] := by
  cases gs with
  | nil => exact ⟨rfl, hV⟩
  | cons g gs => exact hV.elim
 rw [List.append_nil] at hlt hz hW' 
 have hres : ∀ (b : Nat) (sp : Nat → Bool) (hd : Bool), DataW.TrodAll enc P W' b sp hd f.resultTypes.toList ((Value.bool true).resultList f.resultTypes.size) (s.fn H (ds ++ [])).results [] := fun b sp hd => by
  rw [hr, hfn]
  exact trodAll_mk1 (shut_bool' htb true)
 have hargs : ∀ sp : Nat → Bool, (∀ p' ∈ p, sp p'.block = true) → DataW.TrodAll enc P W' 0 sp true f.params.toList args.toList (s.fn H (ds ++ [])).args p := fun sp hsp => by
  rw [hfn]; exact trodAll_below' hl hb ht hA hlt sp hsp
 have hvars : ∀ sp : Nat → Bool, DataW.TrodVars enc P W' sp s.vars (s.fn H (ds ++ [])).vars [] := fun sp => by
  rw [hvs, hfn]; exact rfl
 have hold : ∀ p' ∈ p, (fun b => decide (b < W.heap.size)) p'.block = true := fun p' hp => by simpa using hlt p' hp
 refine ⟨ds, [], p, [], p, [], hW', hres _ _ _, hargs _ hold, hvars _, World.keptBut_mono (fun p' hp => ⟨hp, .inr (by simpa using hp)⟩) (hb.frame _), fun _ => ?_⟩
 refine ⟨ok_one hr rfl (okWide_bool_mk htb true), _, _, ([] ++ p) ++ [], ⟨[] ++ p, [], trodAll_append (hargs _ (fun _ _ => rfl)) (hres _ _ _), hvars _, rfl, ?_, ?_⟩, ?_⟩
 · intro b off hp
   have hp' : MemPlace.cell b off ∈ p := by simpa using hp
   rw [hb.frozen (p := ⟨b, off, none⟩) (hlt _ hp')]
   exact hz b off hp'
 · intro ha; cases ha
 · intro p' hp _
   simpa using hp
end
end Go.Sx
