/- A part of the proof: a symbolic executor over abstract values, and its soundness. -/
import Derived.Test.YtddmkgibghohkaaGreatDoorP8
import Derived.RecoverIn
set_option linter.unusedSimpArgs false
set_option linter.unusedVariables false
set_option linter.unusedSectionVars false
namespace Go.Sx
open Go

mutual
def SV.sealed (H : List SObj) : SV → Option (SV × Prop)
 | .any => some (.any, True)
 | .raw v => some (.raw v, True)
 | .isl t xs => some (.isl t xs, True)
 | .fsl t xs => some (.isl t xs, True)
 | .iptr t x k => some (.iptr t x k, True)
 | .imap kk ks vs => some (.imap kk ks vs, True)
 | .bld h t n => match H[h]? with
  | some (.row t' xs) => if t = t' then some (.isl t' (xs.take n), n ≤ xs.length ∧ xs.length ≤ 1125899906842624) else none
  | _ => none
 | .osl h t off n => match H[h]? with
  | some (.row t' xs) => if t = t' then some (.isl t' ((xs.drop off).take n), off + n ≤ xs.length ∧ xs.length ≤ 1125899906842624) else none
  | _ => none
 | .mp h => match H[h]? with
  | some (.map kk ks vs) => some (.imap kk ks vs, True)
  | _ => none
 | .agg l => match SV.sealedL H l with
  | some (l', p) => some (.agg l', p)
  | none => none
 | .tup l => match SV.sealedL H l with
  | some (l', p) => some (.tup l', p)
  | none => none
 | _ => none
def SV.sealedL (H : List SObj) : List SV → Option (List SV × Prop)
 | [] => some ([], True)
 | s :: l => match SV.sealed H s, SV.sealedL H l with
  | some (s', p), some (l', q) => some (s' :: l', p ∧ q)
  | _, _ => none
end
mutual
def SV.leV : SV → SV → Prop
 | s, .isl t xs => s = .isl t xs ∨ (s = .raw (.slice none 0 0) ∧ xs = [])
 | s, .agg l => match s with
  | .agg l' => SV.leVL l' l
  | _ => False
 | s, .tup l => match s with
  | .tup l' => SV.leVL l' l
  | _ => False
 | s, s' => s = s'
def SV.leVL : List SV → List SV → Prop
 | [], l => l = []
 | s :: l, r => match r with
  | [] => False
  | s' :: l' => SV.leV s s' ∧ SV.leVL l l'
end
theorem leV_raw {v u : Value} : SV.leV (.raw v) (.raw u) = (v = u) := by simp [SV.leV]
theorem leV_isl {t : Ty} {xs ys : List t.den} : SV.leV (.isl t xs) (.isl t ys) = (xs = ys) := by simp [SV.leV]
theorem leV_nil {t : Ty} {ys : List t.den} : SV.leV (.raw (.slice none 0 0)) (.isl t ys) = (ys = []) := by simp [SV.leV]
theorem leV_agg {l l' : List SV} : SV.leV (.agg l) (.agg l') = SV.leVL l l' := by rw [SV.leV]
theorem leV_tup {l l' : List SV} : SV.leV (.tup l) (.tup l') = SV.leVL l l' := by rw [SV.leV]
theorem leV_imap {kk kk' : Option IntKind} {ks vs ks' vs' : List Value} : SV.leV (.imap kk ks vs) (.imap kk' ks' vs') = (kk = kk' ∧ ks = ks' ∧ vs = vs') := by simp [SV.leV]
theorem leVL_cons {s s' : SV} {l l' : List SV} : SV.leVL (s :: l) (s' :: l') = (SV.leV s s' ∧ SV.leVL l l') := by rw [SV.leVL]
theorem leVL_nil : SV.leVL [] [] = True := by simp [SV.leVL]
mutual
theorem leV_refl : ∀ (s : SV), SV.leV s s
 | .any => by simp [SV.leV]
 | .raw _ => by simp [SV.leV]
 | .isl _ _ => by simp [SV.leV]
 | .fsl _ _ => by simp [SV.leV]
 | .iptr .. => by simp [SV.leV]
 | .ptr .. => by simp [SV.leV]
 | .rptr .. => by simp [SV.leV]
 | .bld .. => by simp [SV.leV]
 | .osl .. => by simp [SV.leV]
 | .csl .. => by simp [SV.leV]
 | .mp _ => by simp [SV.leV]
 | .imap .. => by simp [SV.leV]
 | .fn .. => by simp [SV.leV]
 | .iface .. => by simp [SV.leV]
 | .agg l => by rw [leV_agg]; exact leVL_refl l
 | .tup l => by rw [leV_tup]; exact leVL_refl l
theorem leVL_refl : ∀ (l : List SV), SV.leVL l l
 | [] => by rw [leVL_nil]; trivial
 | s :: l => by rw [leVL_cons]; exact ⟨leV_refl s, leVL_refl l⟩
end
mutual
theorem leV_den {C : Cx} : ∀ {s s' : SV} {v : Value}, SV.leV s s' → s.den C v → s'.den C v
 | s, .isl t xs, v, h, d => by
  rw [SV.leV] at h
  rcases h with rfl | ⟨rfl, rfl⟩
  · exact d
  · rw [SV.den] at d; subst d
    rw [SV.den]
    exact ⟨_, _, _, rfl, rfl, Nat.le_refl _, by simp, .inl rfl⟩
 | .agg l', .agg l, v, h, d => by
  rw [leV_agg] at h
  rw [SV.den] at d ⊢
  obtain ⟨vs, hv, hl⟩ := d
  exact ⟨vs, hv, leVL_den h hl⟩
 | .tup l', .tup l, v, h, d => by
  rw [leV_tup] at h
  rw [SV.den] at d ⊢
  obtain ⟨vs, hv, hl⟩ := d
  exact ⟨vs, hv, leVL_den h hl⟩
 | .any, .agg _, _, h, _ => by simp [SV.leV] at h
 | .raw _, .agg _, _, h, _ => by simp [SV.leV] at h
 | .isl _ _, .agg _, _, h, _ => by simp [SV.leV] at h
 | .fsl _ _, .agg _, _, h, _ => by simp [SV.leV] at h
 | .iptr .., .agg _, _, h, _ => by simp [SV.leV] at h
 | .ptr .., .agg _, _, h, _ => by simp [SV.leV] at h
 | .rptr .., .agg _, _, h, _ => by simp [SV.leV] at h
 | .bld .., .agg _, _, h, _ => by simp [SV.leV] at h
 | .osl .., .agg _, _, h, _ => by simp [SV.leV] at h
 | .csl .., .agg _, _, h, _ => by simp [SV.leV] at h
 | .mp _, .agg _, _, h, _ => by simp [SV.leV] at h
 | .imap .., .agg _, _, h, _ => by simp [SV.leV] at h
 | .fn .., .agg _, _, h, _ => by simp [SV.leV] at h
 | .iface .., .agg _, _, h, _ => by simp [SV.leV] at h
 | .tup _, .agg _, _, h, _ => by simp [SV.leV] at h
 | .any, .tup _, _, h, _ => by simp [SV.leV] at h
 | .raw _, .tup _, _, h, _ => by simp [SV.leV] at h
 | .isl _ _, .tup _, _, h, _ => by simp [SV.leV] at h
 | .fsl _ _, .tup _, _, h, _ => by simp [SV.leV] at h
 | .iptr .., .tup _, _, h, _ => by simp [SV.leV] at h
 | .ptr .., .tup _, _, h, _ => by simp [SV.leV] at h
 | .rptr .., .tup _, _, h, _ => by simp [SV.leV] at h
 | .bld .., .tup _, _, h, _ => by simp [SV.leV] at h
 | .osl .., .tup _, _, h, _ => by simp [SV.leV] at h
 | .csl .., .tup _, _, h, _ => by simp [SV.leV] at h
 | .mp _, .tup _, _, h, _ => by simp [SV.leV] at h
 | .imap .., .tup _, _, h, _ => by simp [SV.leV] at h
 | .fn .., .tup _, _, h, _ => by simp [SV.leV] at h
 | .iface .., .tup _, _, h, _ => by simp [SV.leV] at h
 | .agg _, .tup _, _, h, _ => by simp [SV.leV] at h
 | s, .any, v, h, d => by simp [SV.leV] at h; subst h; exact d
 | s, .raw _, v, h, d => by simp [SV.leV] at h; subst h; exact d
 | s, .fsl _ _, v, h, d => by simp [SV.leV] at h; subst h; exact d
 | s, .iptr .., v, h, d => by simp [SV.leV] at h; subst h; exact d
 | s, .ptr .., v, h, d => by simp [SV.leV] at h; subst h; exact d
 | s, .rptr .., v, h, d => by simp [SV.leV] at h; subst h; exact d
 | s, .bld .., v, h, d => by simp [SV.leV] at h; subst h; exact d
 | s, .osl .., v, h, d => by simp [SV.leV] at h; subst h; exact d
 | s, .csl .., v, h, d => by simp [SV.leV] at h; subst h; exact d
 | s, .mp _, v, h, d => by simp [SV.leV] at h; subst h; exact d
 | s, .imap .., v, h, d => by simp [SV.leV] at h; subst h; exact d
 | s, .fn .., v, h, d => by simp [SV.leV] at h; subst h; exact d
 | s, .iface .., v, h, d => by simp [SV.leV] at h; subst h; exact d
theorem leVL_den {C : Cx} : ∀ {l l' : List SV} {vs : List Value}, SV.leVL l l' → SV.denL C l vs → SV.denL C l' vs
 | [], l', vs, h, d => by simp only [SV.leVL] at h; subst h; exact d
 | s :: l, [], vs, h, d => by simp [SV.leVL] at h
 | s :: l, s' :: l', vs, h, d => by
  rw [leVL_cons] at h
  obtain ⟨v, us, rfl, h1, h2⟩ := denL_cons.1 d
  exact denL_cons.2 ⟨v, us, rfl, leV_den h.1 h1, leVL_den h.2 h2⟩
end

def Cx.shut (C : Cx) (H : List SObj) : Cx := { C with n := 0, I := fun b => C.I b ∨ OwnB C H b }
mutual
theorem sealed_den {C : Cx} {H : List SObj} (hw : Wd C H) : ∀ {s s' : SV} {p : Prop} {v : Value}, s.sealed H = some (s', p) → p → s.den C v → s'.den (C.shut H) v
 | .any, _, _, _, h, _, _ => by simp [SV.sealed] at h; rw [← h.1, SV.den]; trivial
 | .raw _, _, _, _, h, _, d => by simp [SV.sealed] at h; rw [← h.1]; rw [SV.den] at d ⊢; exact d
 | .isl _ _, _, _, _, h, _, d => by simp [SV.sealed] at h; rw [← h.1]; exact den_clean (C := C) (C' := C.shut H) (fun b hb => ⟨.inl hb, rfl⟩) rfl d
 | .fsl _ _, _, _, _, h, _, d => by simp [SV.sealed] at h; rw [← h.1]; rw [SV.den] at d; exact den_clean (C := C) (C' := C.shut H) (fun b hb => ⟨.inl hb, rfl⟩) rfl (by rw [SV.den]; exact d.1)
 | .iptr .., _, _, _, h, _, d => by simp [SV.sealed] at h; rw [← h.1]; exact den_clean (C := C) (C' := C.shut H) (fun b hb => ⟨.inl hb, rfl⟩) rfl d
 | .imap .., _, _, _, h, _, d => by simp [SV.sealed] at h; rw [← h.1]; exact den_clean (C := C) (C' := C.shut H) (fun b hb => ⟨.inl hb, rfl⟩) rfl d
 | .bld hd t n, s', p, v, h, hp, d => by
  unfold SV.sealed at h
  split at h
  · rename_i t' xs hH
    split at h
    · rename_i e; subst e; cases h
      have h1 := frz_den hw hH hp.2 (s := .bld hd t n) (by rw [SV.frzOb, if_pos ⟨rfl, rfl⟩]; exact hp.1) d
      rw [SV.frz, if_pos ⟨rfl, rfl⟩] at h1
      exact den_clean (C := C.frz hd) (C' := C.shut H) (fun b hb => ⟨hb.elim .inl (fun e => .inr ⟨hd, _, hH, rfl, e⟩), rfl⟩) rfl h1
    · cases h
  · cases h
 | .osl hd t off n, s', p, v, h, hp, d => by
  unfold SV.sealed at h
  split at h
  · rename_i t' xs hH
    split at h
    · rename_i e; subst e; cases h
      have h1 := frz_den hw hH hp.2 (s := .osl hd t off n) (by rw [SV.frzOb, if_pos ⟨rfl, rfl⟩]; exact hp.1) d
      rw [SV.frz, if_pos ⟨rfl, rfl⟩] at h1
      exact den_clean (C := C.frz hd) (C' := C.shut H) (fun b hb => ⟨hb.elim .inl (fun e => .inr ⟨hd, _, hH, rfl, e⟩), rfl⟩) rfl h1
    · cases h
  · cases h
 | .mp hd, s', p, v, h, hp, d => by
  unfold SV.sealed at h
  split at h
  · rename_i kk ks vs hH
    cases h
    simp only [SV.den] at d ⊢
    obtain ⟨_, b, hb, rfl⟩ := d
    obtain ⟨b', hb', hm⟩ := hw.obj hd _ hH
    rw [hb] at hb'; cases hb'
    exact ⟨b, rfl, .inr ⟨hd, _, hH, rfl, hb⟩, hm⟩
  · cases h
 | .agg l, s', p, v, h, hp, d => by
  unfold SV.sealed at h
  split at h
  · cases h
    rw [SV.den] at d ⊢
    obtain ⟨vs, hv, hl⟩ := d
    exact ⟨vs, hv, sealedL_den hw (by assumption) hp hl⟩
  · cases h
 | .tup l, s', p, v, h, hp, d => by
  unfold SV.sealed at h
  split at h
  · cases h
    rw [SV.den] at d ⊢
    obtain ⟨vs, hv, hl⟩ := d
    exact ⟨vs, hv, sealedL_den hw (by assumption) hp hl⟩
  · cases h
 | .ptr .., _, _, _, h, _, _ => by simp [SV.sealed] at h
 | .rptr .., _, _, _, h, _, _ => by simp [SV.sealed] at h
 | .csl .., _, _, _, h, _, _ => by simp [SV.sealed] at h
 | .fn .., _, _, _, h, _, _ => by simp [SV.sealed] at h
 | .iface .., _, _, _, h, _, _ => by simp [SV.sealed] at h
theorem sealedL_den {C : Cx} {H : List SObj} (hw : Wd C H) : ∀ {l l' : List SV} {p : Prop} {vs : List Value}, SV.sealedL H l = some (l', p) → p → SV.denL C l vs → SV.denL (C.shut H) l' vs
 | [], _, _, _, h, _, d => by simp [SV.sealedL] at h; rw [h.1]; rw [denL_nil] at d ⊢; exact d
 | s :: l, l', p, vs, h, hp, d => by
  unfold SV.sealedL at h
  split at h
  · cases h
    obtain ⟨v, us, rfl, h1, h2⟩ := denL_cons.1 d
    exact denL_cons.2 ⟨v, us, rfl, sealed_den hw (by assumption) hp.1 h1, sealedL_den hw (by assumption) hp.2 h2⟩
  · cases h
end
def SealK (s : SV) : Out → List SObj → Prop
 | .ret s0, H' => match s0.sealed H' with
  | some (s1, p) => p ∧ SV.leV s1 s
  | none => False
 | .pan _, _ => False
theorem calls_shut {P : Program} {f : FuncId} {us : Array Value} {s : SV} {C : Cx} (hw : Wd C []) (h : Calls P f us C.w fun e w' => ∃ o H' C', SealK s o H' ∧ C'.w = w' ∧ Wd C' H' ∧ Ext ⟨C, []⟩ C' H' ∧ outDen C' o e) :
 Calls P f us C.w fun e w' => ∃ o H' C', PK s o H' ∧ C'.w = w' ∧ Wd C' H' ∧ Ext ⟨C, []⟩ C' H' ∧ outDen C' o e := by
 refine h.mono ?_
 rintro e w' ⟨o, H', C', hk, rfl, hw', hx, hd⟩
 cases o with
 | pan s0 => exact hk.elim
 | ret s0 =>
  simp only [SealK] at hk
  split at hk
  · rename_i s1 p hs
    obtain ⟨v, rfl, hd⟩ := hd
    have hn : C.n = 0 := hw.n
    refine ⟨.ret s, [], C'.shut H', rfl, rfl, ⟨rfl, fun h o ho => by simp at ho, fun b ⟨h, o, ho, _⟩ => by simp at ho, fun h h' o o' b ho => by simp at ho, ?_⟩, ⟨⟨by rw [hn]; exact Nat.le_refl _, fun h hh => by rw [hn] at hh; exact absurd hh (Nat.not_lt_zero h), fun b hb => ⟨.inl (hx.evo.I b hb).1, (hx.evo.I b hb).2⟩, hx.evo.sz⟩, hx.size, hx.os, hx.tape, hx.output, hx.frame, ?_, fun b ⟨h, o, ho, _⟩ => by simp at ho⟩, v, rfl, leV_den hk.2 (sealed_den hw' hs hk.1 hd)⟩
    · rintro b (hb | hb)
      · exact hw'.imm b hb
      · exact (hw'.own b hb).2
    · rintro b (hb | hb)
      · exact hx.immNew b hb
      · exact .inr ⟨hx.ownNew b hb, (own_unf hw' hb : Unf C'.w b)⟩
  · exact hk.elim
theorem VCall.shut {P : Program} {f : FuncId} {args : List SV} {s : SV} (h : VCall P f args [] (SealK s)) : VCall P f args [] (PK s) :=
 fun C vs hw hv => calls_shut hw (h C vs hw hv)
theorem pc_seal {P : Program} {f : FuncId} {args : List SV} {s : SV} (ha : SV.cleanL args = true) (hs : s.clean = true) (h : VC P f args [] (SealK s)) : PC P f args s :=
 pc_of ha hs ⟨h.1, VCall.shut h.2⟩
attribute [go_sem] SealK SV.sealed SV.sealedL leV_raw leV_isl leV_nil leV_agg leV_tup leV_imap leVL_cons leVL_nil
end Go.Sx
set_option linter.unusedSectionVars false
namespace Go.Sx
open Go
variable [Ghost] {P : Program} {AQ : Ex → List SV → List SObj → Prop} {k0 : Nat} {k : List IT} {t : List SV} {H : List SObj}
theorem si_accN {c : IC} (slot : Nat) (ty : Ty) (xs : Nat → List ty.den) (upd : Nat → List (Nat × SV)) (n : Nat) (q : Nat → Prop) (hi : t[slot]? = some (.raw (.slice none 0 0))) (hk : k0 ≤ H.length) (hx0 : xs 0 = []) (hbh : belH H.length H = true) (hu : ∀ i, ((upd i).all fun x => x.2.bel (H.length + 1)) = true)
 (hs : leM (t.set slot (.bld H.length ty 0)) (setMany (maskT c.wr (t.set slot (.bld H.length ty 0))) ((slot, .bld H.length ty 0) :: upd 0)))
 (round : ∀ i, i ≤ n → (∀ j, j < i → q j) → SoundI P AQ ⟨k0, .ic c :: .stop (RoundA H ty (fun i => setMany (maskT c.wr (t.set slot (.bld H.length ty 0))) ((slot, .bld H.length ty (xs i).length) :: upd i)) xs n (fun i => ∀ j, j < i → q j) i) :: k, setMany (maskT c.wr (t.set slot (.bld H.length ty 0))) ((slot, .bld H.length ty (xs i).length) :: upd i), H ++ [.row ty (xs i)]⟩) :
 SoundI P AQ ⟨k0, .ic (.loop c) :: k, t, H⟩ :=
 si_nilrow slot ty rfl hi (si_accA slot ty xs upd n q hk hx0 hbh hu hs round)
theorem acc_next {ty : Ty} {S : Nat → List SV} {xs : Nat → List ty.den} {n i : Nat} {p : Nat → Prop} {t' : List SV} {H' : List SObj} (G G' : List SObj) (hlt : i < n) (hp : p (i + 1)) (hH : H' = H ++ G ++ [.row ty (xs (i + 1))] ++ G') (hl : leT (shift H.length (H.length + G.length)) t' (S (i + 1))) : RoundA H ty S xs n p i t' H' :=
 ⟨hlt, hp, G, G', hH, hl⟩
theorem sound_loopB {P : Program} {k : List It} (c : Code) (ty : Ty) (S : Nat → List SV) (xs : Nat → List ty.den) (n : Nat) (p : Nat → Prop) (h₀ : p 0) (hs : leM t (S 0)) (hk : k0 ≤ H.length) (hbh : belH H.length H = true) (hb : SV.belL (H.length + 1) t = true → ∀ i, SV.belL (H.length + 1) (S i) = true)
 (round : ∀ i, i ≤ n → p i → Sound P AQ ⟨k0, .code c :: .stop (RoundA H ty S xs n p i) :: k, S i, H ++ [.row ty (xs i)]⟩) : Sound P AQ ⟨k0, .code (.loop c) :: k, t, H ++ [.row ty (xs 0)]⟩ := fun E r m C a h0 hd => by
 have hbt : ∀ i, SV.belL (H.length + 1) (S i) = true := hb (by have := denL_bel hd.tmps; rw [hd.wd.n] at this; simpa using this)
 have hbh' : ∀ ys : List ty.den, belH (H.length + 1) (H ++ [.row ty ys]) = true := fun ys => belH_of fun h o ho => by
  rcases get_append_some ho with ⟨_, ho⟩ | ⟨_, rfl⟩
  · have := obj_bel (hd.wd.obj h o (by rw [List.getElem?_append_left (List.getElem?_eq_some_iff.1 ho).1]; exact ho)); rw [hd.wd.n] at this; simpa using this
  · rfl
 simp only [wpT]
 refine wpIn_loop_ghost (fun m a w => ∃ i, i ≤ n ∧ p i ∧ n - i = m ∧ ∃ C, C.w = w ∧ Den E C (S i) (H ++ [.row ty (xs i)]) a) n ⟨0, Nat.zero_le _, h₀, rfl, C, rfl, hd.wd, hd.ext, hd.defs, leL_den (leM_leL hs) hd.tmps⟩ ?_
 rintro m' a w ⟨i, hi, hp, rfl, C, rfl, hd⟩
 have h1 := round i hi hp E r m C a h0 hd
 simp only [wpT] at h1
 refine wpIn_mono h1 fun e a w hq => ?_
 cases e with
 | normal =>
  obtain ⟨C', t', H', ⟨hlt, hp', G, G', rfl, hS⟩, rfl, hd'⟩ := hq
  refine ⟨n - (i + 1), by omega, i + 1, hlt, hp', rfl, C'.ren (shift H.length (H.length + G.length)) (H ++ [SObj.row ty (xs (i + 1))]).length, rfl, ?_⟩
  have hsh : ∀ h, h < H.length → shift H.length (H.length + G.length) h = h := fun h hh => by unfold shift; rw [if_neg (by omega)]
  have hshn : shift H.length (H.length + G.length) H.length = H.length + G.length := by unfold shift; rw [if_pos rfl]
  refine den_le h0 hd' hS (by simpa using hbt (i + 1)) (fun h o ho hl => ?_) (by simpa using hbh' (xs (i + 1))) (fun h h' o o' ho ho' _ _ e => ?_) (fun h hh => hsh h (Nat.lt_of_lt_of_le hh hk)) (by simp; exact Nat.le_succ_of_le hk)
  · rcases get_append_some ho with ⟨hh, ho⟩ | ⟨hh, rfl⟩
    · rw [hsh h hh]
      have hr : o.ren (shift H.length (H.length + G.length)) = o := by
       have hbo := belH_get hbh ho
       cases o with
       | cells T cs => simp only [SObj.ren]; rw [ren_bel.2 (by simpa [SObj.bel] using hbo)]
       | _ => rfl
      rw [hr, List.append_assoc, List.append_assoc, List.getElem?_append_left hh]; exact ho
    · subst hh
      rw [hshn]
      simp [SObj.ren]
  · have hlen : ∀ {h : Nat} {o : SObj}, (H ++ [SObj.row ty (xs (i + 1))])[h]? = some o → h ≤ H.length := fun ho => by have := (List.getElem?_eq_some_iff.1 ho).1; simp at this; omega
    have g1 := hlen ho
    have g2 := hlen ho'
    unfold shift at e
    split at e <;> split at e <;> omega
 | exit id => simpa only [Exit.then, exitT] using hq
 | _ => exact hq
theorem si_accB {c : IC} (slot : Nat) (ty : Ty) (xs : Nat → List ty.den) (upd : Nat → List (Nat × SV)) (n : Nat) (q : Nat → Prop) {r0 : List ty.den} (hr : r0 = xs 0) (hk : k0 ≤ H.length) (hbh : belH H.length H = true) (hu : ∀ i, ((upd i).all fun x => x.2.bel (H.length + 1)) = true)
 (hs : leM t (setMany (maskT c.wr t) ((slot, .bld H.length ty (xs 0).length) :: upd 0)))
 (round : ∀ i, i ≤ n → (∀ j, j < i → q j) → SoundI P AQ ⟨k0, .ic c :: .stop (RoundA H ty (fun i => setMany (maskT c.wr t) ((slot, .bld H.length ty (xs i).length) :: upd i)) xs n (fun i => ∀ j, j < i → q j) i) :: k, setMany (maskT c.wr t) ((slot, .bld H.length ty (xs i).length) :: upd i), H ++ [.row ty (xs i)]⟩) :
 SoundI P AQ ⟨k0, .ic (.loop c) :: k, t, H ++ [.row ty r0]⟩ := by
 subst hr
 exact soundI_plain (fun td' hr => by
 obtain ⟨c', r, rfl, hc, hr⟩ := hr
 obtain ⟨x, rfl, hx⟩ := comp_inv hc
 refine sound_loopB x ty _ xs n _ (fun j hj => absurd hj (Nat.not_lt_zero j)) hs hk hbh (fun hb i => belL_many _ ?_ (belL_mask _ hb)) (fun i hi hp => soundI_get (round i hi hp) ⟨x, _, rfl, hx, r, rfl, hr⟩)
 rw [List.all_cons, Bool.and_eq_true]
 exact ⟨by rw [SV.bel]; simp, hu i⟩) rfl
theorem wd_one {C : Cx} {H : List SObj} {h : Nat} {t : Ty} {xs : List t.den} (hw : Wd C H) (hH : H[h]? = some (.row t xs)) : Wd { C with ρ := fun _ => C.ρ h, n := 1 } [.row t xs] where
 n := rfl
 obj := fun i o ho => by
  cases i with
  | zero =>
   simp at ho; subst ho
   have := hw.obj h _ hH
   exact this
  | succ i => simp at ho
 own := fun b ⟨i, o, ho, hl, hb⟩ => by
  have hb' : C.ρ h = some b := hb
  exact hw.own b ⟨h, _, hH, rfl, hb'⟩
 inj := fun i j o o' b ho ho' _ _ _ _ => by
  have h1 := (List.getElem?_eq_some_iff.1 ho).1
  have h2 := (List.getElem?_eq_some_iff.1 ho').1
  simp at h1 h2; omega
 imm := hw.imm
def PCT (P : Program) (f : FuncId) (t : Ty) (xs : List t.den) (s : SV) : Prop :=
 enters P f = true ∧ ∀ (h n : Nat) (H : List SObj) (K : Out → List SObj → Prop), H[h]? = some (.row t xs) → n = xs.length → K (.ret s) (H.set h .dead) → VCall P f [.bld h t n] H K
theorem pct_seal {P : Program} {f : FuncId} {t : Ty} {xs : List t.den} {s : SV} (hs : s.clean = true) (hc : VC P f [.bld 0 t xs.length] [.row t xs] (SealK s)) : PCT P f t xs s := by
 refine ⟨hc.1, fun h n H K hH hn hk C vs hw hv => ?_⟩
 subst hn
 let C1 : Cx := { C with ρ := fun _ => C.ρ h, n := 1 }
 have hw1 : Wd C1 [.row t xs] := wd_one hw hH
 have hlt : h < C.n := by rw [hw.n]; exact (List.getElem?_eq_some_iff.1 hH).1
 have hv1 : SV.denL C1 [.bld 0 t xs.length] vs := by
  obtain ⟨v, us, rfl, h1, h2⟩ := denL_cons.1 hv
  rw [denL_nil] at h2; subst h2
  refine denL_cons.2 ⟨v, [], rfl, ?_, denL_nil.2 rfl⟩
  rw [SV.den] at h1 ⊢
  exact ⟨Nat.zero_lt_one, h1.2⟩
 refine (hc.2 C1 vs hw1 hv1).mono ?_
 rintro e w' ⟨o, H', C', hk', rfl, hw', hx, hd⟩
 cases o with
 | pan s0 => exact hk'.elim
 | ret s0 =>
  simp only [SealK] at hk'
  split at hk'
  · rename_i s1 p hs1
    obtain ⟨v, rfl, hd⟩ := hd
    have hown1 : ∀ b, OwnB C1 [.row t xs] b ↔ C.ρ h = some b := fun b => ⟨fun ⟨i, o, ho, _, hb⟩ => hb, fun hb => ⟨0, _, rfl, rfl, hb⟩⟩
    let D : Cx := { ρ := C.ρ, n := C.n, I := fun b => C'.I b ∨ OwnB C' H' b, w := C'.w }
    have hkeepI : Keeps C.I D.I C.w D.w := fun b hb => ⟨.inl (hx.evo.I b hb).1, (hx.evo.I b hb).2⟩
    have hev : Evo C D := ⟨Nat.le_refl _, fun _ _ => rfl, hkeepI, hx.evo.sz⟩
    have hold : ∀ b, b < C.w.heap.size → C.ρ h ≠ some b → C'.w.heap[b]? = C.w.heap[b]? := fun b hb hne => hx.frame b hb (fun ho => hne ((hown1 b).1 ho))
    have hget : ∀ {i y}, (H.set h .dead)[i]? = some y → y.live = true → i ≠ h ∧ H[i]? = some y := fun {i y} hy hl => by
     by_cases e : i = h
     · subst e
       rcases Nat.lt_or_ge i H.length with h1 | h1
       · rw [List.getElem?_set_self h1] at hy; cases hy; simp [SObj.live] at hl
       · rw [List.getElem?_eq_none (by simpa using h1)] at hy; cases hy
     · rw [List.getElem?_set_ne (Ne.symm e)] at hy; exact ⟨e, hy⟩
    have hDI : ∀ b, D.I b → b < C.w.heap.size → C.I b ∨ C.ρ h = some b := by
     rintro b (hb | hb) hlt
     · rcases hx.immNew b hb with h1 | ⟨h1 | h1, _⟩
       · exact .inl h1
       · exact absurd hlt (Nat.not_lt.2 h1)
       · exact .inr ((hown1 b).1 h1)
     · rcases hx.ownNew b hb with h1 | h1
       · exact absurd hlt (Nat.not_lt.2 h1)
       · exact .inr ((hown1 b).1 h1)
    have hown : ∀ b, OwnB D (H.set h .dead) b → OwnB C H b ∧ C.ρ h ≠ some b := by
     rintro b ⟨i, y, hy, hl, hb⟩
     obtain ⟨hne, hy'⟩ := hget hy hl
     exact ⟨⟨i, y, hy', hl, hb⟩, fun e => hne (hw.inj i h y _ b hy' hH hl rfl hb e)⟩
    refine ⟨.ret s, H.set h .dead, D, hk, rfl, ⟨by simp [D, hw.n], fun i y hy => ?_, fun b hb => ?_, fun i j y y' b hy hy' hl hl' hb hb' => ?_, ?_⟩, ⟨hev, hx.size, hx.os, hx.tape, hx.output, fun b hb ho => ?_, ?_, fun b hb => .inr (hown b hb).1⟩, v, rfl, ?_⟩
    · by_cases hl : y.live = true
      · obtain ⟨hne, hy'⟩ := hget hy hl
        exact objDen_evo hkeepI i rfl (fun b hb => hold b (hw.own b ⟨i, y, hy', hl, hb⟩).2 (fun e => hne (hw.inj i h y _ b hy' hH hl rfl hb e))) (denL_evo hev) (hw.obj i y hy')
      · cases y <;> first | trivial | simp [SObj.live] at hl
    · obtain ⟨h1, h2⟩ := hown b hb
      have h3 := hw.own b h1
      refine ⟨fun hi => ?_, Nat.lt_of_lt_of_le h3.2 hx.size⟩
      rcases hDI b hi h3.2 with h4 | h4
      · exact h3.1 h4
      · exact h2 h4
    · exact hw.inj i j y y' b (hget hy hl).2 (hget hy' hl').2 hl hl' hb hb'
    · rintro b (hb | hb)
      · exact hw'.imm b hb
      · exact (hw'.own b hb).2
    · exact hold b hb (fun e => ho ⟨h, _, hH, rfl, e⟩)
    · intro b hb
      have hu : C.I b ∨ Unf C'.w b := hb.elim (fun hb => orMap (hx.immNew b hb) id (·.2)) fun hb => .inr (own_unf hw' hb)
      rcases hu with hu | hu
      · exact .inl hu
      rcases Nat.lt_or_ge b C.w.heap.size with hlt | hge
      · rcases hDI b hb hlt with h1 | h1
        · exact .inl h1
        · exact .inr ⟨.inr ⟨h, _, hH, rfl, h1⟩, hu⟩
      · exact .inr ⟨.inl hge, hu⟩
    · have := leV_den hk'.2 (sealed_den hw' hs1 hk'.1 hd)
      exact den_clean (C := C'.shut H') (C' := D) (fun b hb => ⟨hb, rfl⟩) hs this
  · exact hk'.elim
theorem PC.arg {f : FuncId} {args args' : List SV} {s : SV} (h : PC P f args s) (hl : SV.leVL args' args) : PC P f args' s :=
 ⟨h.1, fun H K hk C vs hw hv => h.2 H K hk C vs hw (leVL_den hl hv)⟩
theorem callR_move {G : List Nat} {f : FuncId} {t' : Ty} {xs : List t'.den} {s : SV} {d : Option Tmp} {m : IM} {h n : Nat} (hp : PCT P f t' xs s) (hG : G.contains h = false) (hH : m.heap[h]? = some (.row t' xs)) (hn : n = xs.length) (hs : SoundI P AQ { m with tmps := putT m.tmps d s, heap := m.heap.set h .dead }) : CallR P AQ G f [.bld h t' n] d m := by
 refine ⟨hp.1, VCall.g (hp.2 h n _ _ hH hn ⟨fun _ i hi => ?_, hs⟩)⟩
 rw [List.getElem?_set_ne]
 rintro rfl
 have : G.contains h = true := by simpa using hi
 rw [this] at hG; cases hG
end Go.Sx
set_option linter.unusedSectionVars false
namespace Go.Sx
open Go

variable [Ghost] {P : Program} {AQ : Ex → List SV → List SObj → Prop} {k0 : Nat} {k : List IT} {t : List SV} {H : List SObj}

def Out.ren (σ : Nat → Nat) : Out → Out
 | .ret s => .ret (s.ren σ)
 | .pan s => .pan (s.ren σ)
/- Values that are carried to another context. -/
mutual
theorem ren_up {C D : Cx} {σ : Nat → Nat} (hρ : ∀ h, h < C.n → D.ρ (σ h) = C.ρ h ∧ σ h < D.n) (hI : D.I = C.I) (hW : D.w = C.w) : ∀ {s : SV} {v : Value}, s.den C v → (s.ren σ).den D v
 | .any, _, _ => by rw [SV.ren, SV.den]; trivial
 | .raw _, _, d => by rw [SV.den] at d; rw [SV.ren, SV.den]; exact d
 | .isl _ _, _, d => by rw [SV.den] at d; rw [SV.ren, SV.den, hI, hW]; exact d
 | .fsl _ _, _, d => by rw [SV.den] at d; rw [SV.ren, SV.den, hI, hW]; exact d
 | .iptr _ _ _, _, d => by rw [SV.den] at d; rw [SV.ren, SV.den, hI, hW]; exact d
 | .ptr h off, _, d => by rw [SV.den] at d; rw [SV.ren, SV.den, (hρ h d.1).1]; exact ⟨(hρ h d.1).2, d.2⟩
 | .rptr h t i k, _, d => by rw [SV.den] at d; rw [SV.ren, SV.den, (hρ h d.1).1]; exact ⟨(hρ h d.1).2, d.2⟩
 | .bld h t m, _, d => by rw [SV.den] at d; rw [SV.ren, SV.den, (hρ h d.1).1, hW]; exact ⟨(hρ h d.1).2, d.2⟩
 | .osl h t off m, _, d => by rw [SV.den] at d; rw [SV.ren, SV.den, (hρ h d.1).1]; exact ⟨(hρ h d.1).2, d.2⟩
 | .csl h off m, _, d => by rw [SV.den] at d; rw [SV.ren, SV.den, (hρ h d.1).1]; exact ⟨(hρ h d.1).2, d.2⟩
 | .mp h, _, d => by rw [SV.den] at d; rw [SV.ren, SV.den, (hρ h d.1).1]; exact ⟨(hρ h d.1).2, d.2⟩
 | .imap .., _, d => by rw [SV.den] at d; rw [SV.ren, SV.den, hI, hW]; exact d
 | .agg l, _, d => by
  rw [SV.den] at d; rw [SV.ren, SV.den]
  obtain ⟨vs, hv, hl⟩ := d
  exact ⟨vs, hv, renL_up hρ hI hW hl⟩
 | .tup l, _, d => by
  rw [SV.den] at d; rw [SV.ren, SV.den]
  obtain ⟨vs, hv, hl⟩ := d
  exact ⟨vs, hv, renL_up hρ hI hW hl⟩
 | .fn f a b, _, d => by
  rw [SV.den] at d; rw [SV.ren, SV.den]
  obtain ⟨v1, v2, hv, h1, h2⟩ := d
  exact ⟨v1, v2, hv, renL_up hρ hI hW h1, renL_up hρ hI hW h2⟩
 | .iface T x, _, d => by
  rw [SV.den] at d; rw [SV.ren, SV.den]
  obtain ⟨u, hv, h1⟩ := d
  exact ⟨u, hv, ren_up hρ hI hW h1⟩
theorem renL_up {C D : Cx} {σ : Nat → Nat} (hρ : ∀ h, h < C.n → D.ρ (σ h) = C.ρ h ∧ σ h < D.n) (hI : D.I = C.I) (hW : D.w = C.w) : ∀ {l : List SV} {vs : List Value}, SV.denL C l vs → SV.denL D (SV.renL σ l) vs
 | [], _, d => by rw [SV.denL] at d; rw [SV.renL, SV.denL]; exact d
 | s :: l, _, d => by
  rw [SV.denL] at d; rw [SV.renL, SV.denL]
  obtain ⟨v, us, rfl, h1, h2⟩ := d
  exact ⟨v, us, rfl, ren_up hρ hI hW h1, renL_up hρ hI hW h2⟩
end
def Out.val : Out → SV
 | .ret s => s
 | .pan s => s
def Out.withV : Out → SV → Out
 | .ret _, s => .ret s
 | .pan _, s => .pan s
def SV.leW1 (s s' : SV) : Prop := s = s' ∨ s' = .any ∨ ∃ t xs, s' = .isl t xs ∧ (s = .fsl t xs ∨ (s = .raw (.slice none 0 0) ∧ xs = []))
def SV.leWL : List SV → List SV → Prop
 | [], [] => True
 | s :: l, s' :: l' => SV.leW1 s s' ∧ SV.leWL l l'
 | _, _ => False
def SV.leW (s s' : SV) : Prop := SV.leW1 s s' ∨ ∃ l l', s = .tup l ∧ s' = .tup l' ∧ SV.leWL l l'
theorem leW1_den {C : Cx} {s s' : SV} {v : Value} (h : SV.leW1 s s') (d : s.den C v) : s'.den C v := by
 rcases h with rfl | rfl | ⟨t, xs, rfl, rfl | ⟨rfl, rfl⟩⟩
 · exact d
 · rw [SV.den]; trivial
 · rw [SV.den] at d; rw [SV.den]; exact d.1
 · exact leV_den (by rw [leV_nil]) d
theorem leWL_den {C : Cx} : ∀ {l l' : List SV} {vs : List Value}, SV.leWL l l' → SV.denL C l vs → SV.denL C l' vs
 | [], [], _, _, d => d
 | s :: l, s' :: l', _, h, d => by
  obtain ⟨v, us, rfl, h1, h2⟩ := denL_cons.1 d
  exact denL_cons.2 ⟨v, us, rfl, leW1_den h.1 h1, leWL_den h.2 h2⟩
 | [], _ :: _, _, h, _ => h.elim
 | _ :: _, [], _, h, _ => h.elim
theorem leW_den {C : Cx} {s s' : SV} {v : Value} (h : SV.leW s s') (d : s.den C v) : s'.den C v := by
 rcases h with h | ⟨l, l', rfl, rfl, h⟩
 · exact leW1_den h d
 · rw [SV.den] at d ⊢
   obtain ⟨vs, hv, hl⟩ := d
   exact ⟨vs, hv, leWL_den h hl⟩
def Weak (k0 : Nat) (K : Out → List SObj → Prop) : Out → List SObj → Prop := fun o H' => ∃ σ s2 s3 H2, Le σ k0 [o.val] H' [s2] H2 ∧ SV.leW s2 s3 ∧ K (o.withV s3) H2
theorem VCall.weak {f : FuncId} {args : List SV} {K : Out → List SObj → Prop} (h : VCall P f args H (Weak H.length K)) : VCall P f args H K := by
 intro C vs hw hv
 refine (h C vs hw hv).mono ?_
 rintro e w' ⟨o, H', C', ⟨σ, s2, s3, H2, hle, hw3, hk⟩, rfl, hw', hx, hd⟩
 have key : ∀ v, o.val.den C' v → ∃ D : Cx, D.w = C'.w ∧ Wd D H2 ∧ Ext ⟨C, H⟩ D H2 ∧ s3.den D v := by
  intro v hv'
  have hden : @Den noGhost ⟨⟨C, H⟩, []⟩ C' [o.val] H' { tmps := #[v], defers := [] } := ⟨hw', hx, ⟨rfl, trivial⟩, denL_cons.2 ⟨v, [], rfl, hv', denL_nil.2 rfl⟩⟩
  have g := @Le.wd noGhost _ _ _ _ _ _ _ _ _ hle (Nat.le_of_eq hw.n) hden
  obtain ⟨v', us, he, hs2, _⟩ := denL_cons.1 g.tmps
  cases he
  exact ⟨C'.ren σ H2.length, rfl, g.wd, g.ext, leW_den hw3 hs2⟩
 cases o with
 | ret s =>
  obtain ⟨v, rfl, hd⟩ := hd
  obtain ⟨D, h1, h2, h3, h4⟩ := key v hd
  exact ⟨.ret s3, H2, D, hk, h1, h2, h3, v, rfl, h4⟩
 | pan s =>
  obtain ⟨v, rfl, hd⟩ := hd
  obtain ⟨D, h1, h2, h3, h4⟩ := key v hd
  exact ⟨.pan s3, H2, D, hk, h1, h2, h3, v, rfl, h4⟩
theorem vc_weak {f : FuncId} {args : List SV} {K : Out → List SObj → Prop} (h : VC P f args H (Weak H.length K)) : VC P f args H K := ⟨h.1, VCall.weak h.2⟩

def PE (P : Program) (f : FuncId) (args : List SV) (H0 : List SObj) (o : Out) (H1 : List SObj) : Prop := VC P f args H0 fun o' H' => o' = o ∧ H' = H1
end Go.Sx
set_option linter.unusedSectionVars false
namespace Go.Sx
open Go
variable [Ghost] {P : Program} {AQ : Ex → List SV → List SObj → Prop} {k0 : Nat} {k : List IT} {t : List SV} {H : List SObj}

mutual
def SV.sealB (n : Nat) (H : List SObj) : SV → Option (SV × Prop)
 | .any => some (.any, True)
 | .raw v => some (.raw v, True)
 | .isl t xs => some (.isl t xs, True)
 | .fsl t xs => some (.isl t xs, True)
 | .iptr t x k => some (.iptr t x k, True)
 | .imap kk ks vs => some (.imap kk ks vs, True)
 | .ptr h off => if h < n then some (.ptr h off, True) else none
 | .rptr h t i k => if h < n then some (.rptr h t i k, True) else none
 | .csl h off m => if h < n then some (.csl h off m, True) else none
 | .bld h t m => if h < n then some (.bld h t m, True) else match H[h]? with
  | some (.row t' xs) => if t = t' then some (.isl t' (xs.take m), m ≤ xs.length ∧ xs.length ≤ 1125899906842624) else none
  | _ => none
 | .osl h t off m => if h < n then some (.osl h t off m, True) else match H[h]? with
  | some (.row t' xs) => if t = t' then some (.isl t' ((xs.drop off).take m), off + m ≤ xs.length ∧ xs.length ≤ 1125899906842624) else none
  | _ => none
 | .mp h => if h < n then some (.mp h, True) else match H[h]? with
  | some (.map kk ks vs) => some (.imap kk ks vs, True)
  | _ => none
 | .agg l => match SV.sealBL n H l with
  | some (l', p) => some (.agg l', p)
  | none => none
 | .tup l => match SV.sealBL n H l with
  | some (l', p) => some (.tup l', p)
  | none => none
 | .iface T x => match SV.sealB n H x with
  | some (x', p) => some (.iface T x', p)
  | none => none
 | .fn f a b => match SV.sealBL n H a, SV.sealBL n H b with
  | some (a', p), some (b', q) => some (.fn f a' b', p ∧ q)
  | _, _ => none
def SV.sealBL (n : Nat) (H : List SObj) : List SV → Option (List SV × Prop)
 | [] => some ([], True)
 | s :: l => match SV.sealB n H s, SV.sealBL n H l with
  | some (s', p), some (l', q) => some (s' :: l', p ∧ q)
  | _, _ => none
end

def OwnGe (C : Cx) (H : List SObj) (n : Nat) (b : Nat) : Prop := ∃ h o, n ≤ h ∧ H[h]? = some o ∧ o.live = true ∧ C.ρ h = some b
def Cx.shutB (C : Cx) (H : List SObj) (n : Nat) : Cx := { C with n := n, I := fun b => C.I b ∨ OwnGe C H n b }
theorem keeps_shutB (C : Cx) (H : List SObj) (n : Nat) : Keeps C.I (C.shutB H n).I C.w (C.shutB H n).w := fun _ hb => ⟨.inl hb, rfl⟩
theorem keeps_frzB {C : Cx} {H : List SObj} {n hd : Nat} {o : SObj} (hn : n ≤ hd) (hH : H[hd]? = some o) (hl : o.live = true) : Keeps (C.frz hd).I (C.shutB H n).I (C.frz hd).w (C.shutB H n).w :=
 fun _ hb => ⟨hb.elim .inl (fun e => .inr ⟨hd, o, hn, hH, hl, e⟩), rfl⟩
mutual
theorem sealB_den {C : Cx} {H : List SObj} {n : Nat} (hw : Wd C H) : ∀ {s s' : SV} {p : Prop} {v : Value}, s.sealB n H = some (s', p) → p → s.den C v → s'.den (C.shutB H n) v
 | .any, _, _, _, h, _, _ => by simp [SV.sealB] at h; rw [← h.1, SV.den]; trivial
 | .raw _, _, _, _, h, _, d => by simp [SV.sealB] at h; rw [← h.1]; rw [SV.den] at d ⊢; exact d
 | .isl _ _, _, _, _, h, _, d => by simp [SV.sealB] at h; rw [← h.1]; exact den_clean (keeps_shutB C H n) rfl d
 | .fsl _ _, _, _, _, h, _, d => by simp [SV.sealB] at h; rw [← h.1]; rw [SV.den] at d; exact den_clean (keeps_shutB C H n) rfl (by rw [SV.den]; exact d.1)
 | .iptr .., _, _, _, h, _, d => by simp [SV.sealB] at h; rw [← h.1]; exact den_clean (keeps_shutB C H n) rfl d
 | .imap .., _, _, _, h, _, d => by simp [SV.sealB] at h; rw [← h.1]; exact den_clean (keeps_shutB C H n) rfl d
 | .ptr hd off, _, _, _, h, _, d => by
  simp only [SV.sealB] at h
  split at h
  · cases h; rw [SV.den] at d ⊢; exact ⟨by assumption, d.2⟩
  · cases h
 | .rptr .., _, _, _, h, _, d => by
  simp only [SV.sealB] at h
  split at h
  · cases h; rw [SV.den] at d ⊢; exact ⟨by assumption, d.2⟩
  · cases h
 | .csl .., _, _, _, h, _, d => by
  simp only [SV.sealB] at h
  split at h
  · cases h; rw [SV.den] at d ⊢; exact ⟨by assumption, d.2⟩
  · cases h
 | .bld hd t m, s', p, v, h, hp, d => by
  simp only [SV.sealB] at h
  split at h
  · cases h; rw [SV.den] at d ⊢; exact ⟨by assumption, d.2⟩
  · rename_i hge
    split at h
    · rename_i t' xs hH
      split at h
      · rename_i e; subst e; cases h
        have h1 := frz_den hw hH hp.2 (s := .bld hd t m) (by rw [SV.frzOb, if_pos ⟨rfl, rfl⟩]; exact hp.1) d
        rw [SV.frz, if_pos ⟨rfl, rfl⟩] at h1
        exact den_clean (keeps_frzB (Nat.not_lt.1 hge) hH rfl) rfl h1
      · cases h
    · cases h
 | .osl hd t off m, s', p, v, h, hp, d => by
  simp only [SV.sealB] at h
  split at h
  · cases h; rw [SV.den] at d ⊢; exact ⟨by assumption, d.2⟩
  · rename_i hge
    split at h
    · rename_i t' xs hH
      split at h
      · rename_i e; subst e; cases h
        have h1 := frz_den hw hH hp.2 (s := .osl hd t off m) (by rw [SV.frzOb, if_pos ⟨rfl, rfl⟩]; exact hp.1) d
        rw [SV.frz, if_pos ⟨rfl, rfl⟩] at h1
        exact den_clean (keeps_frzB (Nat.not_lt.1 hge) hH rfl) rfl h1
      · cases h
    · cases h
 | .mp hd, s', p, v, h, hp, d => by
  simp only [SV.sealB] at h
  split at h
  · cases h; rw [SV.den] at d ⊢; exact ⟨by assumption, d.2⟩
  · rename_i hge
    split at h
    · rename_i kk ks vs hH
      cases h
      simp only [SV.den] at d ⊢
      obtain ⟨_, b, hb, rfl⟩ := d
      obtain ⟨b', hb', hm⟩ := hw.obj hd _ hH
      rw [hb] at hb'; cases hb'
      exact ⟨b, rfl, .inr ⟨hd, _, Nat.not_lt.1 hge, hH, rfl, hb⟩, hm⟩
    · cases h
 | .agg l, s', p, v, h, hp, d => by
  unfold SV.sealB at h
  split at h
  · cases h
    rw [SV.den] at d ⊢
    obtain ⟨vs, hv, hl⟩ := d
    exact ⟨vs, hv, sealBL_den hw (by assumption) hp hl⟩
  · cases h
 | .tup l, s', p, v, h, hp, d => by
  unfold SV.sealB at h
  split at h
  · cases h
    rw [SV.den] at d ⊢
    obtain ⟨vs, hv, hl⟩ := d
    exact ⟨vs, hv, sealBL_den hw (by assumption) hp hl⟩
  · cases h
 | .iface T x, s', p, v, h, hp, d => by
  unfold SV.sealB at h
  split at h
  · cases h
    rw [SV.den] at d ⊢
    obtain ⟨u, hv, hl⟩ := d
    exact ⟨u, hv, sealB_den hw (by assumption) hp hl⟩
  · cases h
 | .fn f a b, s', p, v, h, hp, d => by
  unfold SV.sealB at h
  split at h
  · cases h
    rw [SV.den] at d ⊢
    obtain ⟨v1, v2, hv, h1, h2⟩ := d
    exact ⟨v1, v2, hv, sealBL_den hw (by assumption) hp.1 h1, sealBL_den hw (by assumption) hp.2 h2⟩
  · cases h
theorem sealBL_den {C : Cx} {H : List SObj} {n : Nat} (hw : Wd C H) : ∀ {l l' : List SV} {p : Prop} {vs : List Value}, SV.sealBL n H l = some (l', p) → p → SV.denL C l vs → SV.denL (C.shutB H n) l' vs
 | [], _, _, _, h, _, d => by simp [SV.sealBL] at h; rw [h.1]; rw [denL_nil] at d ⊢; exact d
 | s :: l, l', p, vs, h, hp, d => by
  unfold SV.sealBL at h
  split at h
  · cases h
    obtain ⟨v, us, rfl, h1, h2⟩ := denL_cons.1 d
    exact denL_cons.2 ⟨v, us, rfl, sealB_den hw (by assumption) hp.1 h1, sealBL_den hw (by assumption) hp.2 h2⟩
  · cases h
end

/- A value that says less: nil and the empty slice are one, .any says nothing. -/
mutual
def SV.leA : SV → SV → Prop
 | _, .any => True
 | s, .isl t xs => s = .isl t xs ∨ (s = .raw (.slice none 0 0) ∧ xs = [])
 | s, .agg l => match s with
  | .agg l' => SV.leAL l' l
  | _ => False
 | s, .tup l => match s with
  | .tup l' => SV.leAL l' l
  | _ => False
 | s, s' => s = s'
def SV.leAL : List SV → List SV → Prop
 | [], l => l = []
 | s :: l, r => match r with
  | [] => False
  | s' :: l' => SV.leA s s' ∧ SV.leAL l l'
end
theorem leA_any {s : SV} : SV.leA s .any = True := by cases s <;> simp [SV.leA]
theorem leA_raw {v u : Value} : SV.leA (.raw v) (.raw u) = (v = u) := by simp [SV.leA]
theorem leA_isl {t : Ty} {xs ys : List t.den} : SV.leA (.isl t xs) (.isl t ys) = (xs = ys) := by simp [SV.leA]
theorem leA_nil {t : Ty} {ys : List t.den} : SV.leA (.raw (.slice none 0 0)) (.isl t ys) = (ys = []) := by simp [SV.leA]
theorem leA_agg {l l' : List SV} : SV.leA (.agg l) (.agg l') = SV.leAL l l' := by rw [SV.leA]
theorem leA_tup {l l' : List SV} : SV.leA (.tup l) (.tup l') = SV.leAL l l' := by rw [SV.leA]
theorem leA_ptr {h o h' o' : Nat} : SV.leA (.ptr h o) (.ptr h' o') = (h = h' ∧ o = o') := by simp [SV.leA]
theorem leA_iface {T T' : TypeId} {x x' : SV} : SV.leA (.iface T x) (.iface T' x') = (T = T' ∧ x = x') := by simp [SV.leA]
theorem leA_fn {f f' : Nat} {a a' b b' : List SV} : SV.leA (.fn f a b) (.fn f' a' b') = (f = f' ∧ a = a' ∧ b = b') := by simp [SV.leA]
theorem leA_bld {h h' n n' : Nat} {t t' : Ty} : SV.leA (.bld h t n) (.bld h' t' n') = (h = h' ∧ t = t' ∧ n = n') := by simp [SV.leA]
theorem leAL_cons {s s' : SV} {l l' : List SV} : SV.leAL (s :: l) (s' :: l') = (SV.leA s s' ∧ SV.leAL l l') := by rw [SV.leAL]
theorem leAL_nil : SV.leAL [] [] = True := by simp [SV.leAL]
mutual
theorem leA_den {C : Cx} : ∀ {s s' : SV} {v : Value}, SV.leA s s' → s.den C v → s'.den C v
 | s, .any, v, _, _ => by rw [SV.den]; trivial
 | s, .isl t xs, v, h, d => by
  rw [SV.leA] at h
  rcases h with rfl | ⟨rfl, rfl⟩
  · exact d
  · rw [SV.den] at d; subst d
    rw [SV.den]
    exact ⟨_, _, _, rfl, rfl, Nat.le_refl _, by simp, .inl rfl⟩
 | .agg l', .agg l, v, h, d => by
  rw [leA_agg] at h
  rw [SV.den] at d ⊢
  obtain ⟨vs, hv, hl⟩ := d
  exact ⟨vs, hv, leAL_den h hl⟩
 | .tup l', .tup l, v, h, d => by
  rw [leA_tup] at h
  rw [SV.den] at d ⊢
  obtain ⟨vs, hv, hl⟩ := d
  exact ⟨vs, hv, leAL_den h hl⟩
 | .any, .agg _, _, h, _ => by simp [SV.leA] at h
 | .raw _, .agg _, _, h, _ => by simp [SV.leA] at h
 | .isl _ _, .agg _, _, h, _ => by simp [SV.leA] at h
 | .fsl _ _, .agg _, _, h, _ => by simp [SV.leA] at h
 | .iptr .., .agg _, _, h, _ => by simp [SV.leA] at h
 | .ptr .., .agg _, _, h, _ => by simp [SV.leA] at h
 | .rptr .., .agg _, _, h, _ => by simp [SV.leA] at h
 | .bld .., .agg _, _, h, _ => by simp [SV.leA] at h
 | .osl .., .agg _, _, h, _ => by simp [SV.leA] at h
 | .csl .., .agg _, _, h, _ => by simp [SV.leA] at h
 | .mp _, .agg _, _, h, _ => by simp [SV.leA] at h
 | .imap .., .agg _, _, h, _ => by simp [SV.leA] at h
 | .fn .., .agg _, _, h, _ => by simp [SV.leA] at h
 | .iface .., .agg _, _, h, _ => by simp [SV.leA] at h
 | .tup _, .agg _, _, h, _ => by simp [SV.leA] at h
 | .any, .tup _, _, h, _ => by simp [SV.leA] at h
 | .raw _, .tup _, _, h, _ => by simp [SV.leA] at h
 | .isl _ _, .tup _, _, h, _ => by simp [SV.leA] at h
 | .fsl _ _, .tup _, _, h, _ => by simp [SV.leA] at h
 | .iptr .., .tup _, _, h, _ => by simp [SV.leA] at h
 | .ptr .., .tup _, _, h, _ => by simp [SV.leA] at h
 | .rptr .., .tup _, _, h, _ => by simp [SV.leA] at h
 | .bld .., .tup _, _, h, _ => by simp [SV.leA] at h
 | .osl .., .tup _, _, h, _ => by simp [SV.leA] at h
 | .csl .., .tup _, _, h, _ => by simp [SV.leA] at h
 | .mp _, .tup _, _, h, _ => by simp [SV.leA] at h
 | .imap .., .tup _, _, h, _ => by simp [SV.leA] at h
 | .fn .., .tup _, _, h, _ => by simp [SV.leA] at h
 | .iface .., .tup _, _, h, _ => by simp [SV.leA] at h
 | .agg _, .tup _, _, h, _ => by simp [SV.leA] at h
 | s, .raw _, v, h, d => by simp [SV.leA] at h; subst h; exact d
 | s, .fsl _ _, v, h, d => by simp [SV.leA] at h; subst h; exact d
 | s, .iptr .., v, h, d => by simp [SV.leA] at h; subst h; exact d
 | s, .ptr .., v, h, d => by simp [SV.leA] at h; subst h; exact d
 | s, .rptr .., v, h, d => by simp [SV.leA] at h; subst h; exact d
 | s, .bld .., v, h, d => by simp [SV.leA] at h; subst h; exact d
 | s, .osl .., v, h, d => by simp [SV.leA] at h; subst h; exact d
 | s, .csl .., v, h, d => by simp [SV.leA] at h; subst h; exact d
 | s, .mp _, v, h, d => by simp [SV.leA] at h; subst h; exact d
 | s, .imap .., v, h, d => by simp [SV.leA] at h; subst h; exact d
 | s, .fn .., v, h, d => by simp [SV.leA] at h; subst h; exact d
 | s, .iface .., v, h, d => by simp [SV.leA] at h; subst h; exact d
theorem leAL_den {C : Cx} : ∀ {l l' : List SV} {vs : List Value}, SV.leAL l l' → SV.denL C l vs → SV.denL C l' vs
 | [], l', vs, h, d => by simp only [SV.leAL] at h; subst h; exact d
 | s :: l, [], vs, h, d => by simp [SV.leAL] at h
 | s :: l, s' :: l', vs, h, d => by
  rw [leAL_cons] at h
  obtain ⟨v, us, rfl, h1, h2⟩ := denL_cons.1 d
  exact denL_cons.2 ⟨v, us, rfl, leA_den h.1 h1, leAL_den h.2 h2⟩
end

def sealHL (n : Nat) (H : List SObj) : List SObj → List SObj → Prop
 | _, [] => True
 | _ :: l, .dead :: l' => sealHL n H l l'
 | .cells T cs :: l, .cells T' cs' :: l' => (match SV.sealBL n H cs with
  | some (cs1, p) => p ∧ T = T' ∧ SV.leAL cs1 cs'
  | none => False) ∧ sealHL n H l l'
 | .row t xs :: l, .row t' xs' :: l' => SObj.row t xs = SObj.row t' xs' ∧ sealHL n H l l'
 | .map a b c :: l, .map a' b' c' :: l' => (a = a' ∧ b = b' ∧ c = c') ∧ sealHL n H l l'
 | _, _ => False
def SealO (o : Out) (H1 : List SObj) (o' : Out) (H' : List SObj) : Prop :=
 o' = o.withV o'.val ∧ H1.length ≤ H'.length ∧ (match o'.val.sealB H1.length H' with
  | some (s1, p) => p ∧ SV.leA s1 o.val
  | none => False) ∧ sealHL H1.length H' H' H1
theorem PC.pe {f : FuncId} {args : List SV} {s : SV} (h : PC P f args s) : PE P f args [] (.ret s) [] := ⟨h.1, h.2 _ _ ⟨rfl, rfl⟩⟩
theorem sealO_ret {s s' : SV} {H1 H' : List SObj} : SealO (.ret s) H1 (.ret s') H' = (H1.length ≤ H'.length ∧ (match s'.sealB H1.length H' with
 | some (s1, p) => p ∧ SV.leA s1 s
 | none => False) ∧ sealHL H1.length H' H' H1) := by simp [SealO, Out.withV, Out.val]
theorem sealO_pan {s s' : SV} {H1 H' : List SObj} : SealO (.pan s) H1 (.pan s') H' = (H1.length ≤ H'.length ∧ (match s'.sealB H1.length H' with
 | some (s1, p) => p ∧ SV.leA s1 s
 | none => False) ∧ sealHL H1.length H' H' H1) := by simp [SealO, Out.withV, Out.val]
attribute [go_sem] sealO_ret sealO_pan SV.sealB SV.sealBL leA_any leA_raw leA_isl leA_nil leA_agg leA_tup leA_ptr leA_iface leA_fn leA_bld leAL_cons leAL_nil sealHL
end Go.Sx
namespace Go.Sx
open Go
variable {P : Program} {AQ : Ex → List SV → List SObj → Prop} {k0 : Nat} {k : List IT} {t : List SV} {H : List SObj}

def afterD (H : List SObj) (C : Cx) (K : List SObj → Prop) (m : FrameMode) : Ending → FrameMode → World → Prop :=
 fun e u w => e = .returned (.tuple #[]) ∧ u = m ∧ ∃ H' C', K H' ∧ C'.w = w ∧ Wd C' H' ∧ Ext ⟨C, H⟩ C' H'
def DCall (P : Program) (g : FuncId) (args : List SV) (pan : Option SV) (H : List SObj) (K : List SObj → Prop) : Prop :=
 enters P g = true ∧ ∀ (C : Cx) (vs : List Value), Wd C H → SV.denL C args vs → match pan with
  | none => CallsDIn Fence.wide 0 P g vs.toArray .returning C.w (afterD H C K .returning)
  | some s => ∀ v, s.den C v → CallsDIn Fence.wide 0 P g vs.toArray (.panicking [{ v, recovered := false }]) C.w (afterD H C K (.panicking [{ v, recovered := true }]))

def recS : Option SV → SV
 | none => .raw .nilIface
 | some s => s
def AQD (K : List SObj → Prop) : Ex → List SV → List SObj → Prop
 | .normal, _, H => K H
 | .ret, _, H => K H
 | _, _, _ => False

structure DI where
 ntmps : Nat
 results : List ResultVar
 pre : List IC
 slot : Nat
 g : Nat
 ca : List Operand
 post : IC

def AQ2 (P : Program) (rs : List ResultVar) (g : FuncId) (caps : List SV) (K : Out → List SObj → Prop) : Ex → List SV → List SObj → Prop
 | .normal, t, H => DCall P g caps none H fun H' => ∃ s, resV P t H' rs = some s ∧ K (.ret s) H'
 | .ret, t, H => DCall P g caps none H fun H' => ∃ s, resV P t H' rs = some s ∧ K (.ret s) H'
 | .pan s, t, H => t ≠ [] ∧ DCall P g caps (some s) H fun H' => ∃ s, resV P t H' rs = some s ∧ K (.ret s) H'
 | .exit _, _, _ => False
def AQ1 (P : Program) (rs : List ResultVar) (K : Out → List SObj → Prop) : Ex → List SV → List SObj → Prop
 | .ret, t, H => ∃ s, resV P t H rs = some s ∧ K (.ret s) H
 | .pan s, _, H => K (.pan s) H
 | _, _, _ => False
def DPost (P : Program) (di : DI) (K : Out → List SObj → Prop) : List SV → List SObj → Prop :=
 fun t H => di.slot < t.length ∧ SoundI P (AQ2 P di.results di.g (di.ca.map (evT t)) K) ⟨H.length, [.ic di.post], t.set di.slot (.fn di.g [] (di.ca.map (evT t))), H⟩

theorem wpT_splice {F : Fence} {n : Nat} {E : EnD} {Q1 Q : Exit → Act → World → Prop} {Φ : List SV → List SObj → Prop} {k2 : List It} (hQ : ∀ e a w, e ≠ .normal → Q1 e a w → Q e a w) (hx : ∀ id a w, ¬ Q1 (.exit id) a w) (hΦ : ∀ a C t H, Φ t H → Den E C t H a → wpT F n P E Q k2 a C.w) :
 ∀ (l : List Code) (a : Act) (w : World), wpT F n P E Q1 (l.map .code ++ [.stop Φ]) a w → wpT F n P E Q (l.map .code ++ k2) a w
 | [], a, w, h => by
  obtain ⟨C, t, H, h1, rfl, h2⟩ := h
  exact hΦ a C t H h1 h2
 | c :: l, a, w, h => by
  simp only [List.map_cons, List.cons_append, wpT] at h ⊢
  refine wpIn_mono h fun e a w hq => ?_
  cases e with
  | normal => exact wpT_splice hQ hx hΦ l a w hq
  | exit id =>
   exfalso
   have : ∀ (l : List Code) (a : Act) (w : World), ¬ exitT F n P E Q1 id (l.map .code ++ [.stop Φ]) a w := by
    intro l
    induction l with
    | nil => intro a w hq; simp only [List.map_nil, List.nil_append, exitT] at hq; exact hx _ _ _ hq
    | cons c l ih => intro a w hq; simp only [List.map_cons, List.cons_append, exitT] at hq; exact ih a w hq
   exact this l a w hq
  | ret => exact hQ _ _ _ (by simp) hq
  | panic ch => exact hQ _ _ _ (by simp) hq
  | goto l => exact hQ _ _ _ (by simp) hq
  | outgrown => exact hQ _ _ _ (by simp) hq

theorem rel_codes {Φ : List SV → List SObj → Prop} : ∀ {cs : List Code} {l : List IC}, cs.map (comp P) = l.map some → RelT P (l.map .ic ++ [.stop Φ]) (cs.map .code ++ [.stop Φ])
 | [], [], _ => ⟨[], rfl, rfl⟩
 | c :: cs, ic :: l, h => by
  simp only [List.map_cons, List.cons.injEq] at h
  exact ⟨c, _, rfl, h.1, rel_codes h.2⟩
 | [], _ :: _, h => by simp at h
 | _ :: _, [], h => by simp at h

structure RI where
 ntmps : Nat
 slot : Nat
 ops : List OpI
 code : IC
attribute [go_sem] AQD AQ1 AQ2 DPost recS List.map_cons List.map_nil
abbrev zs : Value := .slice none 0 0
abbrev zi : Value := .int .i64 0
abbrev ze : Value := .string ⟨#[]⟩
def kT : Operand := .const (.bool true)
def kF : Operand := .const (.bool false)
def kS : Operand := .const (.slice none 0 0)
def kE : Operand := .const (.string ⟨#[]⟩)
def fA (d k x : Nat) : OpI := ⟨some d, .fa k (.tmp x), none⟩
def lD (d x : Nat) : OpI := ⟨some d, .ld none (.tmp x), none⟩
def lG (d n x : Nat) : OpI := ⟨some d, .ld (some n) (.tmp x), none⟩
def c0 (d f : Nat) : OpI := ⟨some d, .call (.func f) [], none⟩
def c1 (d f a : Nat) : OpI := ⟨some d, .call (.func f) [.tmp a], none⟩
def c2 (d f a b : Nat) : OpI := ⟨some d, .call (.func f) [.tmp a, .tmp b], none⟩
def c3 (d f a b c : Nat) : OpI := ⟨some d, .call (.func f) [.tmp a, .tmp b, .tmp c], none⟩
def bN (d : Nat) (o : BinOp) (k x y : Nat) : OpI := ⟨some d, .bin o k (.tmp x) (.tmp y), none⟩
def nT (d x : Nat) : OpI := ⟨some d, .un .not (.tmp x), none⟩
def lN (d : Nat) (b : Bool) (x : Nat) : OpI := ⟨some d, .len b (.tmp x), none⟩
def iA (d s x y : Nat) : OpI := ⟨some d, .ia s (.tmp x) (.tmp y), none⟩
def sT (n x y : Nat) : OpI := ⟨none, .st n (.tmp x) (.tmp y), none⟩
def tS (d x : Nat) : OpI := ⟨some d, .toStr true (.tmp x), none⟩
def mI (d : Nat) (n : Int) : OpI := ⟨some d, .mov (.const (.int .i64 n)), none⟩
def aI (d x : Nat) : OpI := ⟨some d, .bin .add 0 (.tmp x) (.const (.int .i64 1)), none⟩
def qR (l : List OpI) (b : IC) : IC := .seq (.reg l) b
def cE (x k : Nat) : IC := .cond (.tmp x) .skip (.exit k)
def pT (d x y : Nat) : OpI := ⟨some d, .pick (.tmp x) (.const (.bool true)) (.tmp y), none⟩
def pF (d x y : Nat) : OpI := ⟨some d, .pick (.tmp x) (.tmp y) (.const (.bool false)), none⟩
def z17 : List Value := [zs, ze, zs, .int .u32 0, zi, zs, ze, zi, zi, zi, zi, zi, zi, zi, zs, zs, zs]
def z5 : List Value := [zi, zs, ze, zi, zi]
attribute [go_sem] qR zs zi ze kT kF kS kE fA lD lG c0 c1 c2 c3 bN nT lN iA sT tS mI aI cE pT pF z17 z5
end Go.Sx
