/- A part of the proof: a symbolic executor over abstract values, and its soundness. -/
import Derived.Test.YtddmkgibghohkaaGreatDoorP7
import Derived.IntWalk
import Derived.Below
set_option linter.unusedSimpArgs false
set_option linter.unusedVariables false
namespace Go.Sx
open Go

variable {P : Program} {AQ : Ex → List SV → List SObj → Prop} {k0 : Nat} {k : List IT} {t : List SV} {H : List SObj}

/-! ### Loops over a memory that stays -/
def leM1 (s : SV) : SV → Prop
  | .any => True
  | s' => s = s'
def leM : List SV → List SV → Prop
  | [], [] => True
  | s :: l, s' :: l' => leM1 s s' ∧ leM l l'
  | _, _ => False
theorem leM1_le {s s' : SV} (h : leM1 s s') : SV.le s s' := by
  cases s' <;> first | exact SV.le_any _ | (simp only [leM1] at h; subst h; exact SV.le_refl _)
theorem leM_leL : ∀ {l l' : List SV}, leM l l' → leL l l'
  | [], [], _ => trivial
  | _ :: _, _ :: _, h => ⟨leM1_le h.1, leM_leL h.2⟩
  | [], _ :: _, h => h.elim
  | _ :: _, [], h => h.elim
theorem leM_refl : ∀ (l : List SV), leM l l
  | [] => trivial
  | s :: l => ⟨by cases s <;> simp [leM1], leM_refl l⟩

def setMany (t : List SV) : List (Nat × SV) → List SV
  | [] => t
  | (i, s) :: l => setMany (t.set i s) l

/-- What a round must come to: the temporaries and the memory of a later index. -/
def RoundX {ι : Type} (Hf : ι → List SObj) (S : ι → List SV) (μ : ι → Nat) (p : ι → Prop) (i : ι) : List SV → List SObj → Prop :=
  fun t' H' => ∃ j, p j ∧ μ j < μ i ∧ H' = Hf j ∧ leM t' (S j)

theorem sound_loopX {P : Program} {k : List It} {ι : Type} (c : Code) (S : ι → List SV) (Hf : ι → List SObj) (μ : ι → Nat) (p : ι → Prop) (i₀ : ι) (h₀ : p i₀) (hH : H = Hf i₀) (hs : leM t (S i₀))
    (round : ∀ i, p i → Sound P AQ ⟨k0, .code c :: .stop (RoundX Hf S μ p i) :: k, S i, Hf i⟩) : Sound P AQ ⟨k0, .code (.loop c) :: k, t, H⟩ := fun E r n C a h0 hd => by
  subst hH
  simp only [wpT]
  refine wpIn_loop_ghost (fun m a w => ∃ i, p i ∧ μ i = m ∧ ∃ C, C.w = w ∧ Den E C (S i) (Hf i) a) (μ i₀) ⟨i₀, h₀, rfl, C, rfl, hd.wd, hd.ext, hd.defs, leL_den (leM_leL hs) hd.tmps⟩ ?_
  rintro m a w ⟨i, hp, rfl, C, rfl, hd⟩
  have h1 := round i hp E r n C a h0 hd
  simp only [wpT] at h1
  refine wpIn_mono h1 fun e a w hq => ?_
  cases e with
  | normal =>
    obtain ⟨C', t', H', ⟨j, hj, hlt, rfl, hS⟩, rfl, hd'⟩ := hq
    exact ⟨μ j, hlt, j, hj, rfl, C', rfl, hd'.wd, hd'.ext, hd'.defs, leL_den (leM_leL hS) hd'.tmps⟩
  | exit id => simpa only [Exit.then, exitT] using hq
  | _ => exact hq

theorem si_loopX {ι : Type} {c : IC} (upd : ι → List (Nat × SV)) (Hf : ι → List SObj) (μ : ι → Nat) (p : ι → Prop) (i₀ : ι) (h₀ : p i₀) (hH : H = Hf i₀) (hs : leM t (setMany (maskT c.wr t) (upd i₀)))
    (round : ∀ i, p i → SoundI P AQ ⟨k0, .ic c :: .stop (RoundX Hf (fun i => setMany (maskT c.wr t) (upd i)) μ p i) :: k, setMany (maskT c.wr t) (upd i), Hf i⟩) : SoundI P AQ ⟨k0, .ic (.loop c) :: k, t, H⟩ := soundI_plain (fun td' hr => by
  obtain ⟨c', r, rfl, hc, hr⟩ := hr
  obtain ⟨x, rfl, hx⟩ := comp_inv hc
  exact sound_loopX x _ Hf μ p i₀ h₀ hH hs (fun i hi => soundI_get (round i hi) ⟨x, _, rfl, hx, r, rfl, hr⟩)) rfl

/-- Counting loops: the one thing that changes from round to round is the number. -/
theorem si_cnt {c : IC} (slot n : Nat) (q : Nat → Prop) (hs : leM t (setMany (maskT c.wr t) [(slot, .raw (.int .i64 ((0 : Nat) : Int)))]))
    (round : ∀ i, i ≤ n → (∀ j, j < i → q j) → SoundI P AQ ⟨k0, .ic c :: .stop (RoundX (fun _ => H) (fun i => setMany (maskT c.wr t) [(slot, .raw (.int .i64 ((i : Nat) : Int)))]) (fun i => n - i) (fun i => i ≤ n ∧ ∀ j, j < i → q j) i) :: k, setMany (maskT c.wr t) [(slot, .raw (.int .i64 ((i : Nat) : Int)))], H⟩) :
    SoundI P AQ ⟨k0, .ic (.loop c) :: k, t, H⟩ :=
  si_loopX (fun i : Nat => [(slot, .raw (.int .i64 (i : Int)))]) (fun _ => H) (fun i => n - i) (fun i => i ≤ n ∧ ∀ j, j < i → q j) 0 ⟨Nat.zero_le _, fun _ h => absurd h (Nat.not_lt_zero _)⟩ rfl hs fun i hi => round i hi.1 hi.2
theorem cnt_next {S : Nat → List SV} {n i : Nat} {q : Nat → Prop} (hlt : i < n) (hall : ∀ j, j < i → q j) (hq : q i) (h : leM t (S (i + 1))) : RoundX (fun _ => H) S (fun i => n - i) (fun i => i ≤ n ∧ ∀ j, j < i → q j) i t H :=
  ⟨i + 1, ⟨hlt, fun j hj => by
    by_cases e : j = i
    · subst e; exact hq
    · exact hall j (by omega)⟩, by dsimp only; omega, rfl, h⟩
theorem wrap_succ {i : Nat} (h : i < 4611686018427387904) : IntKind.i64.wrap ((i : Int) + 1) = ((i + 1 : Nat) : Int) := by
  rw [IntWalk.i64_in _ (by omega)]; rfl

/-! ### What is left over may be dropped -/
mutual
theorem den_bel {C : Cx} : ∀ {s : SV} {v : Value}, s.den C v → s.bel C.n = true
  | .any, _, _ => rfl
  | .raw _, _, _ => rfl
  | .isl _ _, _, _ => rfl
  | .fsl _ _, _, _ => rfl
  | .iptr _ _ _, _, _ => rfl
  | .ptr h off, _, d => by rw [SV.den] at d; simpa [SV.bel] using d.1
  | .rptr h t i k, _, d => by rw [SV.den] at d; simpa [SV.bel] using d.1
  | .bld h t m, _, d => by rw [SV.den] at d; simpa [SV.bel] using d.1
  | .osl h t off m, _, d => by rw [SV.den] at d; simpa [SV.bel] using d.1
  | .csl h off m, _, d => by rw [SV.den] at d; simpa [SV.bel] using d.1
  | .mp h, _, d => by rw [SV.den] at d; simpa [SV.bel] using d.1
  | .imap .., _, _ => rfl
  | .agg l, _, d => by rw [SV.den] at d; obtain ⟨vs, _, hl⟩ := d; rw [SV.bel]; exact denL_bel hl
  | .tup l, _, d => by rw [SV.den] at d; obtain ⟨vs, _, hl⟩ := d; rw [SV.bel]; exact denL_bel hl
  | .fn f a b, _, d => by rw [SV.den] at d; obtain ⟨v1, v2, _, h1, h2⟩ := d; rw [SV.bel, denL_bel h1, denL_bel h2]; rfl
  | .iface T x, _, d => by rw [SV.den] at d; obtain ⟨u, _, h1⟩ := d; rw [SV.bel]; exact den_bel h1
theorem denL_bel {C : Cx} : ∀ {l : List SV} {vs : List Value}, SV.denL C l vs → SV.belL C.n l = true
  | [], _, _ => rfl
  | s :: l, _, d => by rw [SV.denL] at d; obtain ⟨v, us, _, h1, h2⟩ := d; rw [SV.belL, den_bel h1, denL_bel h2]; rfl
end
theorem obj_bel {C : Cx} {h : Nat} {o : SObj} (d : objDen C h o) : o.bel C.n = true := by
  cases o with
  | cells T cs => obtain ⟨b, vs, _, _, hl⟩ := d; exact denL_bel hl
  | _ => rfl

mutual
theorem ren_id : ∀ (s : SV), s.ren (fun h => h) = s
  | .any => rfl
  | .raw _ => rfl
  | .isl _ _ => rfl
  | .fsl _ _ => rfl
  | .iptr _ _ _ => rfl
  | .ptr .. => rfl
  | .rptr .. => rfl
  | .bld .. => rfl
  | .osl .. => rfl
  | .csl .. => rfl
  | .mp _ => rfl
  | .imap .. => rfl
  | .agg l => by rw [SV.ren, renL_id]
  | .tup l => by rw [SV.ren, renL_id]
  | .fn f a b => by rw [SV.ren, renL_id, renL_id]
  | .iface T x => by rw [SV.ren, ren_id]
theorem renL_id : ∀ (l : List SV), SV.renL (fun h => h) l = l
  | [] => rfl
  | s :: l => by rw [SV.renL, ren_id, renL_id]
end
theorem objRen_id (o : SObj) : o.ren (fun h => h) = o := by cases o <;> simp [SObj.ren, renL_id]

theorem VCall.drop {f : FuncId} {args : List SV} {s : SV} (hs : s.clean = true) (h : VCall P f args H fun o H' => o = .ret s ∧ ∃ G, H' = H ++ G) (K : Out → List SObj → Prop) (hk : K (.ret s) H) : VCall P f args H K := by
  intro C vs hw hv
  refine (h C vs hw hv).mono ?_
  rintro e w' ⟨o, H', C', ⟨rfl, G, rfl⟩, rfl, hw', hx, v, rfl, hd⟩
  let D : Cx := { C' with n := H.length }
  have hget : ∀ {h' o}, H[h']? = some o → (H ++ G)[h']? = some o := fun hh => by rw [List.getElem?_append_left (List.getElem?_eq_some_iff.1 hh).1]; exact hh
  have hown : ∀ b, OwnB D H b → OwnB C' (H ++ G) b := fun b ⟨h', o, ho, hl, hb⟩ => ⟨h', o, hget ho, hl, hb⟩
  have hev : Evo C D := ⟨by rw [hw.n]; exact Nat.le_refl _, hx.evo.ρ, hx.evo.I, hx.evo.sz⟩
  refine ⟨.ret s, H, D, hk, rfl, ⟨rfl, fun h' o ho => ?_, fun b hb => hw'.own b (hown b hb), fun h1 h2 o o' b g1 g2 => hw'.inj h1 h2 o o' b (hget g1) (hget g2), hw'.imm⟩, ⟨hev, hx.size, hx.os, hx.tape, hx.output, hx.frame, hx.immNew, fun b hb => hx.ownNew b (hown b hb)⟩, v, rfl, den_clean (C := C') (C' := D) (Keeps.refl _ _) hs hd⟩
  have hb := obj_bel (hw.obj h' o ho)
  rw [hw.n] at hb
  have := objRen (σ := fun h => h) (n := H.length) hb (by rw [objRen_id]; exact hw'.obj h' o (hget ho))
  exact this

/-! ### Contracts at a memory -/
def PCH (P : Program) (f : FuncId) (args : List SV) (s : SV) (H : List SObj) : Prop := enters P f = true ∧ ∀ K : Out → List SObj → Prop, K (.ret s) H → VCall P f args H K
theorem PC.at {f : FuncId} {args : List SV} {s : SV} (h : PC P f args s) (H : List SObj) : PCH P f args s H := ⟨h.1, h.2 H⟩
theorem pch_of {f : FuncId} {args : List SV} {s : SV} (h : ∀ K : Out → List SObj → Prop, K (.ret s) H → VC P f args H K) : PCH P f args s H := ⟨(h (fun _ _ => True) trivial).1, fun K hk => (h K hk).2⟩
/-- The contract of a function that may leave garbage behind. -/
def PKE (s : SV) (H : List SObj) : Out → List SObj → Prop := fun o H' => o = .ret s ∧ ∃ G, H' = H ++ G
theorem pch_drop {f : FuncId} {args : List SV} {s : SV} (hs : s.clean = true) (h : VC P f args H (PKE s H)) : PCH P f args s H := ⟨h.1, VCall.drop hs h.2⟩
theorem callI_at {f : FuncId} {args : List SV} {s : SV} {d : Option Tmp} {m : IM} (hp : PCH P f args s m.heap) (h : SoundI P AQ { m with tmps := putT m.tmps d s }) : CallI P AQ f args d m :=
  ⟨hp.1, hp.2 _ h⟩
theorem callR_at {G : List Nat} {f : FuncId} {args : List SV} {s : SV} {d : Option Tmp} {m : IM} (hp : PCH P f args s m.heap) (h : SoundI P AQ { m with tmps := putT m.tmps d s }) : CallR P AQ G f args d m :=
  ⟨hp.1, hp.2 _ ⟨fun _ => SameG.refl _ _, h⟩⟩

theorem callI_at' {f : FuncId} {args args' : List SV} {s : SV} {d : Option Tmp} {m : IM} {H' : List SObj} (hp : PCH P f args' s H') (he : m.heap = H') (ha : args = args') (h : SoundI P AQ { m with tmps := putT m.tmps d s }) : CallI P AQ f args d m := by
  subst he ha; exact callI_at hp h

theorem callR_at' {G : List Nat} {f : FuncId} {args args' : List SV} {s : SV} {d : Option Tmp} {m : IM} {H' : List SObj} (hp : PCH P f args' s H') (he : m.heap = H') (ha : args = args') (h : SoundI P AQ { m with tmps := putT m.tmps d s }) : CallR P AQ G f args d m := by
  subst he ha; exact callR_at hp h

/-! ### Results in new memory, immutable from now on -/
def Frz (hd : Nat) (K : Out → List SObj → Prop) : Out → List SObj → Prop
  | .ret s, H' => match H'[hd]? with
    | some (.row t xs) => xs.length ≤ 1125899906842624 ∧ frzObH hd t xs H' ∧ s.frzOb hd t xs ∧ K (.ret (s.frz hd t xs)) (frzH hd t xs H')
    | _ => False
  | .pan s, H' => K (.pan s) H'
theorem VCall.frz {f : FuncId} {args : List SV} {K : Out → List SObj → Prop} (hd : Nat) (h : VCall P f args H (Frz hd K)) : VCall P f args H K := by
  intro C vs hw hv
  refine (h C vs hw hv).mono ?_
  rintro e w' ⟨o, H', C', hk, rfl, hw', hx, hd'⟩
  cases o with
  | pan s => exact ⟨.pan s, H', C', hk, rfl, hw', hx, hd'⟩
  | ret s =>
    simp only [Frz] at hk
    split at hk
    · rename_i t xs hH
      obtain ⟨k1, k2, k3, k4⟩ := hk
      obtain ⟨g1, g2⟩ := wd_frz hw' hx hH k1 k2
      obtain ⟨v, rfl, hd'⟩ := hd'
      exact ⟨.ret (s.frz hd t xs), frzH hd t xs H', C'.frz hd, k4, rfl, g1, g2, v, rfl, frz_den hw' hH k1 k3 hd'⟩
    · exact hk.elim
theorem vc_frz {f : FuncId} {args : List SV} {K : Out → List SObj → Prop} (hd : Nat) (h : VC P f args H (Frz hd K)) : VC P f args H K := ⟨h.1, VCall.frz hd h.2⟩
/-- A map that comes back, immutable from now on. -/
def FrzM (K : Out → List SObj → Prop) (H : List SObj) : Out → List SObj → Prop
  | .ret (.mp h), H' => ∃ kk ks vs G, h = H.length ∧ H' = H ++ .map kk ks vs :: G ∧ K (.ret (.imap kk ks vs)) H
  | _, _ => False
theorem VCall.frzM {f : FuncId} {args : List SV} {K : Out → List SObj → Prop} (h : VCall P f args H (FrzM K H)) : VCall P f args H K := by
  intro C vs hw hv
  refine (h C vs hw hv).mono ?_
  rintro e w' ⟨o, H', C', hk, rfl, hw', hx, hd'⟩
  unfold FrzM at hk
  split at hk
  · obtain ⟨kk, ks, ms, G, rfl, rfl, hk⟩ := hk
    obtain ⟨v, rfl, hd'⟩ := hd'
    rw [SV.den] at hd'
    obtain ⟨_, b, hb, rfl⟩ := hd'
    have hget' : (H ++ .map kk ks ms :: G)[H.length]? = some (.map kk ks ms) := by simp
    obtain ⟨b', hb', hm⟩ := hw'.obj H.length _ hget'
    rw [hb] at hb'; cases hb'
    have hob : OwnB C' (H ++ .map kk ks ms :: G) b := ⟨H.length, _, hget', rfl, hb⟩
    let D : Cx := { C' with n := H.length, I := fun x => C'.I x ∨ x = b }
    have hget : ∀ {h' o}, H[h']? = some o → (H ++ .map kk ks ms :: G)[h']? = some o := fun hh => by rw [List.getElem?_append_left (List.getElem?_eq_some_iff.1 hh).1]; exact hh
    have hown : ∀ x, OwnB D H x → OwnB C' (H ++ .map kk ks ms :: G) x ∧ x ≠ b := fun x ⟨h', o, ho, hl, hx⟩ => ⟨⟨h', o, hget ho, hl, hx⟩, fun e => by
      subst e
      have := hw'.inj h' H.length _ _ x (hget ho) hget' hl rfl hx hb
      have hlt := (List.getElem?_eq_some_iff.1 ho).1
      omega⟩
    have hev : Evo C D := ⟨by rw [hw.n]; exact Nat.le_refl _, hx.evo.ρ, fun x hxI => ⟨.inl (hx.evo.I x hxI).1, (hx.evo.I x hxI).2⟩, hx.evo.sz⟩
    have hkeep : Keeps C'.I D.I C'.w D.w := fun x hxI => ⟨.inl hxI, rfl⟩
    refine ⟨.ret (.imap kk ks ms), H, D, hk, rfl, ⟨rfl, fun h' o ho => ?_, fun x hxo => ?_, fun h1 h2 o o' x g1 g2 => hw'.inj h1 h2 o o' x (hget g1) (hget g2), ?_⟩, ⟨hev, hx.size, hx.os, hx.tape, hx.output, hx.frame, ?_, fun x hxo => hx.ownNew x (hown x hxo).1⟩, .map (some b), rfl, by rw [SV.den]; exact ⟨b, rfl, .inr rfl, hm⟩⟩
    · have hbel := obj_bel (hw.obj h' o ho)
      rw [hw.n] at hbel
      have h1 : objDen (C'.ren (fun h => h) H.length) h' o := objRen (σ := fun h => h) (n := H.length) hbel (by rw [objRen_id]; exact hw'.obj h' o (hget ho))
      have he : Evo (C'.ren (fun h => h) H.length) D := ⟨Nat.le_refl _, fun _ _ => rfl, hkeep, fun _ _ h => h⟩
      exact objDen_evo he.I h' rfl (fun _ _ => rfl) (denL_evo he) h1
    · obtain ⟨h1, h2⟩ := hown x hxo
      have := hw'.own x h1
      exact ⟨fun hi => hi.elim this.1 h2, this.2⟩
    · rintro x (hx' | rfl)
      · exact hw'.imm x hx'
      · exact (hw'.own _ hob).2
    · rintro x (hx' | rfl)
      · exact hx.immNew x hx'
      · exact .inr (hx.ownNew _ hob)
  · exact hk.elim
theorem vc_frzM {f : FuncId} {args : List SV} {K : Out → List SObj → Prop} (h : VC P f args H (FrzM K H)) : VC P f args H K := ⟨h.1, VCall.frzM h.2⟩

/-- The world grew, and no block of it was written. -/
theorem wd_gr {C : Cx} {w' : World} (hw : Wd C H) (hs : C.w.heap.size ≤ w'.heap.size) (hb : ∀ b, b < C.w.heap.size → w'.heap[b]? = C.w.heap[b]?) (h1 : w'.os = C.w.os) (h2 : w'.tape = C.w.tape) (h3 : w'.output = C.w.output) :
    Wd { C with w := w' } H ∧ Ext ⟨C, H⟩ { C with w := w' } H := by
  have he : Evo C { C with w := w' } := ⟨Nat.le_refl _, fun _ _ => rfl, fun b hI => ⟨hI, hb b (hw.imm b hI)⟩, fun b m hm => by
    have hlt := bsize_lt hm
    unfold World.bsize at hm ⊢
    rw [hb b hlt]; exact hm⟩
  refine ⟨⟨hw.n, fun h o ho => ?_, fun b hb' => ?_, hw.inj, fun b hI => Nat.lt_of_lt_of_le (hw.imm b hI) hs⟩, ⟨he, hs, h1, h2, h3, fun b hb' _ => hb b hb', fun b hI => .inl hI, fun b hb' => .inr hb'⟩⟩
  · by_cases hl : o.live = true
    · exact objDen_evo (C' := { C with w := w' }) he.I h rfl (fun b hb' => hb b (hw.own b ⟨h, o, ho, hl, hb'⟩).2) (denL_evo he) (hw.obj h o ho)
    · cases o <;> first | trivial | simp [SObj.live] at hl
  · obtain ⟨h1, h2⟩ := hw.own b hb'
    exact ⟨h1, Nat.lt_of_lt_of_le h2 hs⟩
/-- A contract from elsewhere: plain arguments, a plain result, memory that only grew. -/
theorem pc_calls {f : FuncId} {vs : List Value} {v : Value} (he : enters P f = true) (h : ∀ w, Calls P f vs.toArray w fun e w' => e = .returned v ∧ Go.RowKit.Below w.heap.size w w') : PC P f (rawL vs) (.raw v) := by
  refine ⟨he, fun H K hk C us hw hv => ?_⟩
  rw [rawL_den_eq hv]
  refine (h C.w).mono ?_
  rintro e w' ⟨rfl, hg⟩
  obtain ⟨g1, g2⟩ := wd_gr hw hg.size hg.block hg.os hg.tape hg.output
  exact ⟨_, H, _, hk, rfl, g1, g2, v, rfl, by rw [SV.den]⟩

/-- A nil slice, seen as a row of the call's own that has no block yet. -/
theorem sound_nilrow {P : Program} {k : List It} {tm : List SV} (i : Nat) (ty : Ty) (hi : tm[i]? = some (.raw (.slice none 0 0))) (hs : Sound P AQ ⟨k0, k, tm.set i (.bld H.length ty 0), H ++ [.row ty []]⟩) : Sound P AQ ⟨k0, k, tm, H⟩ := by
  intro E r n C a h0 hd
  obtain ⟨C', hw, g1, g2, g3⟩ := nil_row (t := ty) hd.wd
  have := hs E r n C' a h0 ⟨g1, hd.ext.trans g2, hd.defs.next g2, ?_⟩
  · rw [← hw]; exact this
  · have h1 := denL_evo g2.evo hd.tmps
    obtain ⟨v, hv, hd'⟩ := denL_get h1 hi
    rw [SV.den] at hd'
    subst hd'
    have := denL_set (i := i) h1 g3
    have he : a.tmps.toList.set i (.slice none 0 0) = a.tmps.toList := by
      apply List.ext_getElem?
      intro j
      by_cases e : j = i
      · subst e
        rw [List.getElem?_set_self (List.getElem?_eq_some_iff.1 hv).1, hv]
      · rw [List.getElem?_set_ne (Ne.symm e)]
    rwa [he] at this
theorem si_nilrow (i : Nat) (ty : Ty) {td : List IT} (hp : plainT td = true) (hi : t[i]? = some (.raw (.slice none 0 0))) (h : SoundI P AQ ⟨k0, td, t.set i (.bld H.length ty 0), H ++ [.row ty []]⟩) : SoundI P AQ ⟨k0, td, t, H⟩ :=
  soundI_plain (fun _ hr => sound_nilrow i ty hi (soundI_get h hr)) hp

/-! ### A row of the call's own is handed over, immutable from now on -/
theorem wd_hand {C : Cx} {h : Nat} {t : Ty} {xs : List t.den} (hw : Wd C H) (hH : H[h]? = some (.row t xs)) : Wd (C.frz h) (H.set h .dead) ∧ Ext ⟨C, H⟩ (C.frz h) (H.set h .dead) := by
  have hob : ∀ b, C.ρ h = some b → OwnB C H b := fun b hb => ⟨h, _, hH, rfl, hb⟩
  have hget : ∀ {i y}, (H.set h .dead)[i]? = some y → y.live = true → i ≠ h ∧ H[i]? = some y := fun {i y} hy hl => by
    by_cases e : i = h
    · subst e
      rcases Nat.lt_or_ge i H.length with h1 | h1
      · rw [List.getElem?_set_self h1] at hy; cases hy; simp [SObj.live] at hl
      · rw [List.getElem?_eq_none (by simpa using h1)] at hy; cases hy
    · rw [List.getElem?_set_ne (Ne.symm e)] at hy; exact ⟨e, hy⟩
  have hown : ∀ b, OwnB (C.frz h) (H.set h .dead) b → OwnB C H b ∧ C.ρ h ≠ some b := by
    rintro b ⟨i, y, hy, hl, hb⟩
    obtain ⟨hne, hy'⟩ := hget hy hl
    exact ⟨⟨i, y, hy', hl, hb⟩, fun e => hne (hw.inj i h y _ b hy' hH hl rfl hb e)⟩
  refine ⟨⟨by simp [Cx.frz, hw.n], fun i y hy => ?_, fun b hb => ?_, fun i j y y' b hy hy' hl hl' hb hb' => ?_, ?_⟩, ⟨evo_frz C h, Nat.le_refl _, rfl, rfl, rfl, fun _ _ _ => rfl, ?_, fun b hb => .inr (hown b hb).1⟩⟩
  · by_cases hl : y.live = true
    · exact objDen_evo (evo_frz C h).I i rfl (fun _ _ => rfl) (denL_evo (evo_frz C h)) (hw.obj i y (hget hy hl).2)
    · cases y <;> first | trivial | simp [SObj.live] at hl
  · obtain ⟨h1, h2⟩ := hown b hb
    have := hw.own b h1
    exact ⟨fun hi => hi.elim this.1 h2, this.2⟩
  · exact hw.inj i j y y' b (hget hy hl).2 (hget hy' hl').2 hl hl' hb hb'
  · rintro b (hb | hb)
    · exact hw.imm b hb
    · exact (hw.own b (hob b hb)).2
  · rintro b (hb | hb)
    · exact .inl hb
    · exact .inr (.inr (hob b hb))
theorem VCall.hand {f : FuncId} {args : List SV} {K : Out → List SObj → Prop} (h : Nat) {t : Ty} {xs : List t.den} (hH : H[h]? = some (.row t xs)) (hlen : xs.length ≤ 1125899906842624) (ho : SV.frzObL h t xs args)
    (hc : VCall P f (SV.frzL h t xs args) (H.set h .dead) K) : VCall P f args H K := by
  intro C vs hw hv
  obtain ⟨g1, g2⟩ := wd_hand hw hH
  refine (hc (C.frz h) vs g1 (frzL_den hw hH hlen ho hv)).mono ?_
  rintro e w' ⟨o, H', C', hk, rfl, hw', hx, hd'⟩
  exact ⟨o, H', C', hk, rfl, hw', g2.trans hx, hd'⟩
def handC (h : Nat) (args : List SV) (H : List SObj) (k : List SV → List SObj → Prop) : Prop := match H[h]? with
  | some (.row t xs) => xs.length ≤ 1125899906842624 ∧ SV.frzObL h t xs args ∧ k (SV.frzL h t xs args) (H.set h .dead)
  | _ => False
theorem callI_hand {f : FuncId} {args : List SV} {d : Option Tmp} {m : IM} (h : Nat) (hc : handC h args m.heap fun args' H' => CallI P AQ f args' d { m with heap := H' }) : CallI P AQ f args d m := by
  unfold handC at hc
  split at hc
  · rename_i t xs hH
    exact ⟨hc.2.2.1, VCall.hand h hH hc.1 hc.2.1 hc.2.2.2⟩
  · exact hc.elim
theorem callR_hand {G : List Nat} {f : FuncId} {args : List SV} {d : Option Tmp} {m : IM} (h : Nat) (hG : G.contains h = false) (hc : handC h args m.heap fun args' H' => CallR P AQ G f args' d { m with heap := H' }) : CallR P AQ G f args d m := by
  unfold handC at hc
  split at hc
  · rename_i t xs hH
    refine ⟨hc.2.2.1, VCall.hand h hH hc.1 hc.2.1 (hc.2.2.2.mono fun o H' ho => ?_)⟩
    have hs : SameG G m.heap (m.heap.set h .dead) := fun i hi => by
      rw [List.getElem?_set_ne]
      rintro rfl
      have : G.contains h = true := by simpa using hi
      rw [this] at hG; cases hG
    cases o with
    | ret s => exact ⟨fun hg => hs.trans (ho.1 hg), ho.2⟩
    | pan s => exact ho
  · exact hc.elim

theorem cleanL_rawL : ∀ (l : List Value), SV.cleanL (rawL l) = true
  | [] => rfl
  | _ :: l => by rw [rawL, List.map_cons, SV.cleanL, SV.clean, Bool.true_and]; exact cleanL_rawL l

theorem getA {α : Type} (G R : List α) (k : Nat) : (G ++ R)[G.length + k]? = R[k]? := by rw [List.getElem?_append_right (by omega)]; congr 1; omega
theorem getA0 {α : Type} (G R : List α) : (G ++ R)[G.length]? = R[0]? := getA G R 0
theorem setA {α : Type} (G R : List α) (k : Nat) (x : α) : (G ++ R).set (G.length + k) x = G ++ R.set k x := by rw [List.set_append_right _ _ (by omega)]; congr 2; omega
theorem setA0 {α : Type} (G R : List α) (x : α) : (G ++ R).set G.length x = G ++ R.set 0 x := setA G R 0 x
theorem get_len {α : Type} (l : List α) (a : α) : (l ++ [a])[l.length]? = some a := by simp
theorem set_len {α : Type} (l : List α) (a b : α) : (l ++ [a]).set l.length b = l ++ [b] := by simp
theorem get_len1 {α : Type} (l : List α) (a b : α) : (l ++ [a] ++ [b])[l.length]? = some a := by simp
theorem length_snoc {α : Type} (l : List α) (a : α) : (l ++ [a]).length = l.length + 1 := by simp
theorem wrapi {n : Int} (h : -9223372036854775808 ≤ n ∧ n ≤ 9223372036854775807) : IntKind.i64.wrap n = n := IntWalk.i64_in n h
theorem getD_mem {α : Type} {l : List α} {i : Nat} {d : α} (h : i < l.length) : l.getD i d ∈ l := by
  rw [List.getD_eq_getElem?_getD, List.getElem?_eq_getElem h]; exact List.getElem_mem h
theorem take_succ_getD {α : Type} {l : List α} {i : Nat} {d : α} (h : i < l.length) : l.take (i + 1) = l.take i ++ [l.getD i d] := by
  rw [List.take_add_one, List.getD_eq_getElem?_getD, List.getElem?_eq_getElem h]; rfl
theorem all_take_succ {α : Type} {l : List α} {i : Nat} {d : α} {p : α → Bool} (h : i < l.length) : (l.take (i + 1)).all p = ((l.take i).all p && p (l.getD i d)) := by
  rw [take_succ_getD (d := d) h]; simp
theorem all_of_not {α : Type} {l : List α} {i : Nat} {d : α} {p : α → Bool} (h : i < l.length) (hp : p (l.getD i d) = false) : l.all p = false := by
  rw [List.all_eq_false]; exact ⟨_, getD_mem h, by rw [hp]; simp⟩
theorem all_of_take {α : Type} {l : List α} {i : Nat} {p : α → Bool} (h : ¬ i < l.length) (hp : (l.take i).all p = true) : l.all p = true := by
  rwa [List.take_of_length_le (by omega)] at hp
theorem cast0 : ((0 : Nat) : Int) = 0 := rfl
attribute [go_sem] handC FrzM Frz frzObH SObj.frzOb SV.frzOb SV.frzObL SV.frz SV.frzL frzH SObj.frz List.map_append Int.toNat_natCast cast0 get_len set_len length_snoc setMany maskT leM leM1 IC.wr OpI.wr List.flatMap_cons List.flatMap_nil Option.toList_some Option.toList_none List.foldl_cons List.foldl_nil
end Go.Sx
