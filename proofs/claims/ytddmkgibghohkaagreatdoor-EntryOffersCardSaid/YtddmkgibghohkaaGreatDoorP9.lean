/- A part of the proof: a symbolic executor over abstract values, and its soundness. -/
import Derived.Test.YtddmkgibghohkaaGreatDoorP8
set_option linter.unusedSimpArgs false
set_option linter.unusedVariables false
namespace Go.Sx
open Go

/-! ### Results in new memory: all that is the call's own is immutable from now on -/
mutual
def SV.sealed (H : List SObj) : SV → Option (SV × Prop)
  | .any => some (.any, True)
  | .raw v => some (.raw v, True)
  | .isl t xs => some (.isl t xs, True)
  | .fsl t xs => some (.isl t xs, True)
  | .iptr t x k => some (.iptr t x k, True)
  | .imap kk ks vs => some (.imap kk ks vs, True)
  | .bld h t n => match H[h]? with
    | some (.row t' xs) => if t = t' then some (.isl t' (xs.take n), n ≤ xs.length ∧ xs.length ≤ 1125899906842624) else none
    | _ => none
  | .osl h t off n => match H[h]? with
    | some (.row t' xs) => if t = t' then some (.isl t' ((xs.drop off).take n), off + n ≤ xs.length ∧ xs.length ≤ 1125899906842624) else none
    | _ => none
  | .mp h => match H[h]? with
    | some (.map kk ks vs) => some (.imap kk ks vs, True)
    | _ => none
  | .agg l => match SV.sealedL H l with
    | some (l', p) => some (.agg l', p)
    | none => none
  | .tup l => match SV.sealedL H l with
    | some (l', p) => some (.tup l', p)
    | none => none
  | _ => none
def SV.sealedL (H : List SObj) : List SV → Option (List SV × Prop)
  | [] => some ([], True)
  | s :: l => match SV.sealed H s, SV.sealedL H l with
    | some (s', p), some (l', q) => some (s' :: l', p ∧ q)
    | _, _ => none
end
mutual
def SV.leV : SV → SV → Prop
  | s, .isl t xs => s = .isl t xs ∨ (s = .raw (.slice none 0 0) ∧ xs = [])
  | s, .agg l => match s with
    | .agg l' => SV.leVL l' l
    | _ => False
  | s, .tup l => match s with
    | .tup l' => SV.leVL l' l
    | _ => False
  | s, s' => s = s'
def SV.leVL : List SV → List SV → Prop
  | [], l => l = []
  | s :: l, r => match r with
    | [] => False
    | s' :: l' => SV.leV s s' ∧ SV.leVL l l'
end
theorem leV_raw {v u : Value} : SV.leV (.raw v) (.raw u) = (v = u) := by simp [SV.leV]
theorem leV_isl {t : Ty} {xs ys : List t.den} : SV.leV (.isl t xs) (.isl t ys) = (xs = ys) := by simp [SV.leV]
theorem leV_nil {t : Ty} {ys : List t.den} : SV.leV (.raw (.slice none 0 0)) (.isl t ys) = (ys = []) := by simp [SV.leV]
theorem leV_agg {l l' : List SV} : SV.leV (.agg l) (.agg l') = SV.leVL l l' := by rw [SV.leV]
theorem leV_tup {l l' : List SV} : SV.leV (.tup l) (.tup l') = SV.leVL l l' := by rw [SV.leV]
theorem leV_imap {kk kk' : Option IntKind} {ks vs ks' vs' : List Value} : SV.leV (.imap kk ks vs) (.imap kk' ks' vs') = (kk = kk' ∧ ks = ks' ∧ vs = vs') := by simp [SV.leV]
theorem leVL_cons {s s' : SV} {l l' : List SV} : SV.leVL (s :: l) (s' :: l') = (SV.leV s s' ∧ SV.leVL l l') := by rw [SV.leVL]
theorem leVL_nil : SV.leVL [] [] = True := by simp [SV.leVL]
mutual
theorem leV_refl : ∀ (s : SV), SV.leV s s
  | .any => by simp [SV.leV]
  | .raw _ => by simp [SV.leV]
  | .isl _ _ => by simp [SV.leV]
  | .fsl _ _ => by simp [SV.leV]
  | .iptr .. => by simp [SV.leV]
  | .ptr .. => by simp [SV.leV]
  | .rptr .. => by simp [SV.leV]
  | .bld .. => by simp [SV.leV]
  | .osl .. => by simp [SV.leV]
  | .csl .. => by simp [SV.leV]
  | .mp _ => by simp [SV.leV]
  | .imap .. => by simp [SV.leV]
  | .fn .. => by simp [SV.leV]
  | .iface .. => by simp [SV.leV]
  | .agg l => by rw [leV_agg]; exact leVL_refl l
  | .tup l => by rw [leV_tup]; exact leVL_refl l
theorem leVL_refl : ∀ (l : List SV), SV.leVL l l
  | [] => by rw [leVL_nil]; trivial
  | s :: l => by rw [leVL_cons]; exact ⟨leV_refl s, leVL_refl l⟩
end
mutual
theorem leV_den {C : Cx} : ∀ {s s' : SV} {v : Value}, SV.leV s s' → s.den C v → s'.den C v
  | s, .isl t xs, v, h, d => by
    rw [SV.leV] at h
    rcases h with rfl | ⟨rfl, rfl⟩
    · exact d
    · rw [SV.den] at d; subst d
      rw [SV.den]
      exact ⟨_, _, _, rfl, rfl, Nat.le_refl _, by simp, .inl rfl⟩
  | .agg l', .agg l, v, h, d => by
    rw [leV_agg] at h
    rw [SV.den] at d ⊢
    obtain ⟨vs, hv, hl⟩ := d
    exact ⟨vs, hv, leVL_den h hl⟩
  | .tup l', .tup l, v, h, d => by
    rw [leV_tup] at h
    rw [SV.den] at d ⊢
    obtain ⟨vs, hv, hl⟩ := d
    exact ⟨vs, hv, leVL_den h hl⟩
  | .any, .agg _, _, h, _ => by simp [SV.leV] at h
  | .raw _, .agg _, _, h, _ => by simp [SV.leV] at h
  | .isl _ _, .agg _, _, h, _ => by simp [SV.leV] at h
  | .fsl _ _, .agg _, _, h, _ => by simp [SV.leV] at h
  | .iptr .., .agg _, _, h, _ => by simp [SV.leV] at h
  | .ptr .., .agg _, _, h, _ => by simp [SV.leV] at h
  | .rptr .., .agg _, _, h, _ => by simp [SV.leV] at h
  | .bld .., .agg _, _, h, _ => by simp [SV.leV] at h
  | .osl .., .agg _, _, h, _ => by simp [SV.leV] at h
  | .csl .., .agg _, _, h, _ => by simp [SV.leV] at h
  | .mp _, .agg _, _, h, _ => by simp [SV.leV] at h
  | .imap .., .agg _, _, h, _ => by simp [SV.leV] at h
  | .fn .., .agg _, _, h, _ => by simp [SV.leV] at h
  | .iface .., .agg _, _, h, _ => by simp [SV.leV] at h
  | .tup _, .agg _, _, h, _ => by simp [SV.leV] at h
  | .any, .tup _, _, h, _ => by simp [SV.leV] at h
  | .raw _, .tup _, _, h, _ => by simp [SV.leV] at h
  | .isl _ _, .tup _, _, h, _ => by simp [SV.leV] at h
  | .fsl _ _, .tup _, _, h, _ => by simp [SV.leV] at h
  | .iptr .., .tup _, _, h, _ => by simp [SV.leV] at h
  | .ptr .., .tup _, _, h, _ => by simp [SV.leV] at h
  | .rptr .., .tup _, _, h, _ => by simp [SV.leV] at h
  | .bld .., .tup _, _, h, _ => by simp [SV.leV] at h
  | .osl .., .tup _, _, h, _ => by simp [SV.leV] at h
  | .csl .., .tup _, _, h, _ => by simp [SV.leV] at h
  | .mp _, .tup _, _, h, _ => by simp [SV.leV] at h
  | .imap .., .tup _, _, h, _ => by simp [SV.leV] at h
  | .fn .., .tup _, _, h, _ => by simp [SV.leV] at h
  | .iface .., .tup _, _, h, _ => by simp [SV.leV] at h
  | .agg _, .tup _, _, h, _ => by simp [SV.leV] at h
  | s, .any, v, h, d => by simp [SV.leV] at h; subst h; exact d
  | s, .raw _, v, h, d => by simp [SV.leV] at h; subst h; exact d
  | s, .fsl _ _, v, h, d => by simp [SV.leV] at h; subst h; exact d
  | s, .iptr .., v, h, d => by simp [SV.leV] at h; subst h; exact d
  | s, .ptr .., v, h, d => by simp [SV.leV] at h; subst h; exact d
  | s, .rptr .., v, h, d => by simp [SV.leV] at h; subst h; exact d
  | s, .bld .., v, h, d => by simp [SV.leV] at h; subst h; exact d
  | s, .osl .., v, h, d => by simp [SV.leV] at h; subst h; exact d
  | s, .csl .., v, h, d => by simp [SV.leV] at h; subst h; exact d
  | s, .mp _, v, h, d => by simp [SV.leV] at h; subst h; exact d
  | s, .imap .., v, h, d => by simp [SV.leV] at h; subst h; exact d
  | s, .fn .., v, h, d => by simp [SV.leV] at h; subst h; exact d
  | s, .iface .., v, h, d => by simp [SV.leV] at h; subst h; exact d
theorem leVL_den {C : Cx} : ∀ {l l' : List SV} {vs : List Value}, SV.leVL l l' → SV.denL C l vs → SV.denL C l' vs
  | [], l', vs, h, d => by simp only [SV.leVL] at h; subst h; exact d
  | s :: l, [], vs, h, d => by simp [SV.leVL] at h
  | s :: l, s' :: l', vs, h, d => by
    rw [leVL_cons] at h
    obtain ⟨v, us, rfl, h1, h2⟩ := denL_cons.1 d
    exact denL_cons.2 ⟨v, us, rfl, leV_den h.1 h1, leVL_den h.2 h2⟩
end

def Cx.shut (C : Cx) (H : List SObj) : Cx := { C with n := 0, I := fun b => C.I b ∨ OwnB C H b }
mutual
theorem sealed_den {C : Cx} {H : List SObj} (hw : Wd C H) : ∀ {s s' : SV} {p : Prop} {v : Value}, s.sealed H = some (s', p) → p → s.den C v → s'.den (C.shut H) v
  | .any, _, _, _, h, _, _ => by simp [SV.sealed] at h; rw [← h.1, SV.den]; trivial
  | .raw _, _, _, _, h, _, d => by simp [SV.sealed] at h; rw [← h.1]; rw [SV.den] at d ⊢; exact d
  | .isl _ _, _, _, _, h, _, d => by simp [SV.sealed] at h; rw [← h.1]; exact den_clean (C := C) (C' := C.shut H) (fun b hb => ⟨.inl hb, rfl⟩) rfl d
  | .fsl _ _, _, _, _, h, _, d => by simp [SV.sealed] at h; rw [← h.1]; rw [SV.den] at d; exact den_clean (C := C) (C' := C.shut H) (fun b hb => ⟨.inl hb, rfl⟩) rfl (by rw [SV.den]; exact d.1)
  | .iptr .., _, _, _, h, _, d => by simp [SV.sealed] at h; rw [← h.1]; exact den_clean (C := C) (C' := C.shut H) (fun b hb => ⟨.inl hb, rfl⟩) rfl d
  | .imap .., _, _, _, h, _, d => by simp [SV.sealed] at h; rw [← h.1]; exact den_clean (C := C) (C' := C.shut H) (fun b hb => ⟨.inl hb, rfl⟩) rfl d
  | .bld hd t n, s', p, v, h, hp, d => by
    unfold SV.sealed at h
    split at h
    · rename_i t' xs hH
      split at h
      · rename_i e; subst e; cases h
        have h1 := frz_den hw hH hp.2 (s := .bld hd t n) (by rw [SV.frzOb, if_pos ⟨rfl, rfl⟩]; exact hp.1) d
        rw [SV.frz, if_pos ⟨rfl, rfl⟩] at h1
        exact den_clean (C := C.frz hd) (C' := C.shut H) (fun b hb => ⟨hb.elim .inl (fun e => .inr ⟨hd, _, hH, rfl, e⟩), rfl⟩) rfl h1
      · cases h
    · cases h
  | .osl hd t off n, s', p, v, h, hp, d => by
    unfold SV.sealed at h
    split at h
    · rename_i t' xs hH
      split at h
      · rename_i e; subst e; cases h
        have h1 := frz_den hw hH hp.2 (s := .osl hd t off n) (by rw [SV.frzOb, if_pos ⟨rfl, rfl⟩]; exact hp.1) d
        rw [SV.frz, if_pos ⟨rfl, rfl⟩] at h1
        exact den_clean (C := C.frz hd) (C' := C.shut H) (fun b hb => ⟨hb.elim .inl (fun e => .inr ⟨hd, _, hH, rfl, e⟩), rfl⟩) rfl h1
      · cases h
    · cases h
  | .mp hd, s', p, v, h, hp, d => by
    unfold SV.sealed at h
    split at h
    · rename_i kk ks vs hH
      cases h
      simp only [SV.den] at d ⊢
      obtain ⟨_, b, hb, rfl⟩ := d
      obtain ⟨b', hb', hm⟩ := hw.obj hd _ hH
      rw [hb] at hb'; cases hb'
      exact ⟨b, rfl, .inr ⟨hd, _, hH, rfl, hb⟩, hm⟩
    · cases h
  | .agg l, s', p, v, h, hp, d => by
    unfold SV.sealed at h
    split at h
    · cases h
      rw [SV.den] at d ⊢
      obtain ⟨vs, hv, hl⟩ := d
      exact ⟨vs, hv, sealedL_den hw (by assumption) hp hl⟩
    · cases h
  | .tup l, s', p, v, h, hp, d => by
    unfold SV.sealed at h
    split at h
    · cases h
      rw [SV.den] at d ⊢
      obtain ⟨vs, hv, hl⟩ := d
      exact ⟨vs, hv, sealedL_den hw (by assumption) hp hl⟩
    · cases h
  | .ptr .., _, _, _, h, _, _ => by simp [SV.sealed] at h
  | .rptr .., _, _, _, h, _, _ => by simp [SV.sealed] at h
  | .csl .., _, _, _, h, _, _ => by simp [SV.sealed] at h
  | .fn .., _, _, _, h, _, _ => by simp [SV.sealed] at h
  | .iface .., _, _, _, h, _, _ => by simp [SV.sealed] at h
theorem sealedL_den {C : Cx} {H : List SObj} (hw : Wd C H) : ∀ {l l' : List SV} {p : Prop} {vs : List Value}, SV.sealedL H l = some (l', p) → p → SV.denL C l vs → SV.denL (C.shut H) l' vs
  | [], _, _, _, h, _, d => by simp [SV.sealedL] at h; rw [h.1]; rw [denL_nil] at d ⊢; exact d
  | s :: l, l', p, vs, h, hp, d => by
    unfold SV.sealedL at h
    split at h
    · cases h
      obtain ⟨v, us, rfl, h1, h2⟩ := denL_cons.1 d
      exact denL_cons.2 ⟨v, us, rfl, sealed_den hw (by assumption) hp.1 h1, sealedL_den hw (by assumption) hp.2 h2⟩
    · cases h
end
/-- What a call comes to, up to what is immutable from now on. -/
def SealK (s : SV) : Out → List SObj → Prop
  | .ret s0, H' => match s0.sealed H' with
    | some (s1, p) => p ∧ SV.leV s1 s
    | none => False
  | .pan _, _ => False
theorem VCall.shut {P : Program} {f : FuncId} {args : List SV} {s : SV} (h : VCall P f args [] (SealK s)) : VCall P f args [] (PK s) := by
  intro C vs hw hv
  refine (h C vs hw hv).mono ?_
  rintro e w' ⟨o, H', C', hk, rfl, hw', hx, hd⟩
  cases o with
  | pan s0 => exact hk.elim
  | ret s0 =>
    simp only [SealK] at hk
    split at hk
    · rename_i s1 p hs
      obtain ⟨v, rfl, hd⟩ := hd
      have hn : C.n = 0 := hw.n
      refine ⟨.ret s, [], C'.shut H', rfl, rfl, ⟨rfl, fun h o ho => by simp at ho, fun b ⟨h, o, ho, _⟩ => by simp at ho, fun h h' o o' b ho => by simp at ho, ?_⟩, ⟨⟨by rw [hn]; exact Nat.le_refl _, fun h hh => by rw [hn] at hh; exact absurd hh (Nat.not_lt_zero h), fun b hb => ⟨.inl (hx.evo.I b hb).1, (hx.evo.I b hb).2⟩, hx.evo.sz⟩, hx.size, hx.os, hx.tape, hx.output, hx.frame, ?_, fun b ⟨h, o, ho, _⟩ => by simp at ho⟩, v, rfl, leV_den hk.2 (sealed_den hw' hs hk.1 hd)⟩
      · rintro b (hb | hb)
        · exact hw'.imm b hb
        · exact (hw'.own b hb).2
      · rintro b (hb | hb)
        · exact hx.immNew b hb
        · rcases hx.ownNew b hb with h1 | h1
          · exact .inr (.inl h1)
          · exact .inr (.inr h1)
    · exact hk.elim
theorem pc_seal {P : Program} {f : FuncId} {args : List SV} {s : SV} (ha : SV.cleanL args = true) (hs : s.clean = true) (h : VC P f args [] (SealK s)) : PC P f args s :=
  pc_of ha hs ⟨h.1, VCall.shut h.2⟩
attribute [go_sem] SealK SV.sealed SV.sealedL leV_raw leV_isl leV_nil leV_agg leV_tup leV_imap leVL_cons leVL_nil
end Go.Sx
namespace Go.Sx
open Go
variable {P : Program} {AQ : Ex → List SV → List SObj → Prop} {k0 : Nat} {k : List IT} {t : List SV} {H : List SObj}
/-- A counting loop that builds a row out of nil. -/
theorem si_accN {c : IC} (slot : Nat) (ty : Ty) (xs : Nat → List ty.den) (upd : Nat → List (Nat × SV)) (n : Nat) (q : Nat → Prop) (hi : t[slot]? = some (.raw (.slice none 0 0))) (hk : k0 ≤ H.length) (hx0 : xs 0 = []) (hbh : belH H.length H = true) (hu : ∀ i, ((upd i).all fun x => x.2.bel (H.length + 1)) = true)
    (hs : leM (t.set slot (.bld H.length ty 0)) (setMany (maskT c.wr (t.set slot (.bld H.length ty 0))) ((slot, .bld H.length ty 0) :: upd 0)))
    (round : ∀ i, i ≤ n → (∀ j, j < i → q j) → SoundI P AQ ⟨k0, .ic c :: .stop (RoundA H ty (fun i => setMany (maskT c.wr (t.set slot (.bld H.length ty 0))) ((slot, .bld H.length ty (xs i).length) :: upd i)) xs n (fun i => ∀ j, j < i → q j) i) :: k, setMany (maskT c.wr (t.set slot (.bld H.length ty 0))) ((slot, .bld H.length ty (xs i).length) :: upd i), H ++ [.row ty (xs i)]⟩) :
    SoundI P AQ ⟨k0, .ic (.loop c) :: k, t, H⟩ :=
  si_nilrow slot ty rfl hi (si_accA slot ty xs upd n q hk hx0 hbh hu hs round)
theorem acc_next {ty : Ty} {S : Nat → List SV} {xs : Nat → List ty.den} {n i : Nat} {p : Nat → Prop} {t' : List SV} {H' : List SObj} (G G' : List SObj) (hlt : i < n) (hp : p (i + 1)) (hH : H' = H ++ G ++ [.row ty (xs (i + 1))] ++ G') (hl : leT (shift H.length (H.length + G.length)) t' (S (i + 1))) : RoundA H ty S xs n p i t' H' :=
  ⟨hlt, hp, G, G', hH, hl⟩
/-- A loop that lets a row grow. -/
theorem sound_loopB {P : Program} {k : List It} (c : Code) (ty : Ty) (S : Nat → List SV) (xs : Nat → List ty.den) (n : Nat) (p : Nat → Prop) (h₀ : p 0) (hs : leM t (S 0)) (hk : k0 ≤ H.length) (hbh : belH H.length H = true) (hb : SV.belL (H.length + 1) t = true → ∀ i, SV.belL (H.length + 1) (S i) = true)
    (round : ∀ i, i ≤ n → p i → Sound P AQ ⟨k0, .code c :: .stop (RoundA H ty S xs n p i) :: k, S i, H ++ [.row ty (xs i)]⟩) : Sound P AQ ⟨k0, .code (.loop c) :: k, t, H ++ [.row ty (xs 0)]⟩ := fun E r m C a h0 hd => by
  have hbt : ∀ i, SV.belL (H.length + 1) (S i) = true := hb (by have := denL_bel hd.tmps; rw [hd.wd.n] at this; simpa using this)
  have hbh' : ∀ ys : List ty.den, belH (H.length + 1) (H ++ [.row ty ys]) = true := fun ys => belH_of fun h o ho => by
    rcases get_append_some ho with ⟨_, ho⟩ | ⟨_, rfl⟩
    · have := obj_bel (hd.wd.obj h o (by rw [List.getElem?_append_left (List.getElem?_eq_some_iff.1 ho).1]; exact ho)); rw [hd.wd.n] at this; simpa using this
    · rfl
  simp only [wpT]
  refine wpIn_loop_ghost (fun m a w => ∃ i, i ≤ n ∧ p i ∧ n - i = m ∧ ∃ C, C.w = w ∧ Den E C (S i) (H ++ [.row ty (xs i)]) a) n ⟨0, Nat.zero_le _, h₀, rfl, C, rfl, hd.wd, hd.ext, hd.defs, leL_den (leM_leL hs) hd.tmps⟩ ?_
  rintro m' a w ⟨i, hi, hp, rfl, C, rfl, hd⟩
  have h1 := round i hi hp E r m C a h0 hd
  simp only [wpT] at h1
  refine wpIn_mono h1 fun e a w hq => ?_
  cases e with
  | normal =>
    obtain ⟨C', t', H', ⟨hlt, hp', G, G', rfl, hS⟩, rfl, hd'⟩ := hq
    refine ⟨n - (i + 1), by omega, i + 1, hlt, hp', rfl, C'.ren (shift H.length (H.length + G.length)) (H ++ [SObj.row ty (xs (i + 1))]).length, rfl, ?_⟩
    have hsh : ∀ h, h < H.length → shift H.length (H.length + G.length) h = h := fun h hh => by unfold shift; rw [if_neg (by omega)]
    have hshn : shift H.length (H.length + G.length) H.length = H.length + G.length := by unfold shift; rw [if_pos rfl]
    refine den_le h0 hd' hS (by simpa using hbt (i + 1)) (fun h o ho hl => ?_) (by simpa using hbh' (xs (i + 1))) (fun h h' o o' ho ho' _ _ e => ?_) (fun h hh => hsh h (Nat.lt_of_lt_of_le hh hk)) (by simp; exact Nat.le_succ_of_le hk)
    · rcases get_append_some ho with ⟨hh, ho⟩ | ⟨hh, rfl⟩
      · rw [hsh h hh]
        have hr : o.ren (shift H.length (H.length + G.length)) = o := by
          have hbo := belH_get hbh ho
          cases o with
          | cells T cs => simp only [SObj.ren]; rw [ren_bel.2 (by simpa [SObj.bel] using hbo)]
          | _ => rfl
        rw [hr, List.append_assoc, List.append_assoc, List.getElem?_append_left hh]; exact ho
      · subst hh
        rw [hshn]
        simp [SObj.ren]
    · have hlen : ∀ {h : Nat} {o : SObj}, (H ++ [SObj.row ty (xs (i + 1))])[h]? = some o → h ≤ H.length := fun ho => by have := (List.getElem?_eq_some_iff.1 ho).1; simp at this; omega
      have g1 := hlen ho
      have g2 := hlen ho'
      unfold shift at e
      split at e <;> split at e <;> omega
  | exit id => simpa only [Exit.then, exitT] using hq
  | _ => exact hq
theorem si_accB {c : IC} (slot : Nat) (ty : Ty) (xs : Nat → List ty.den) (upd : Nat → List (Nat × SV)) (n : Nat) (q : Nat → Prop) {r0 : List ty.den} (hr : r0 = xs 0) (hk : k0 ≤ H.length) (hbh : belH H.length H = true) (hu : ∀ i, ((upd i).all fun x => x.2.bel (H.length + 1)) = true)
    (hs : leM t (setMany (maskT c.wr t) ((slot, .bld H.length ty (xs 0).length) :: upd 0)))
    (round : ∀ i, i ≤ n → (∀ j, j < i → q j) → SoundI P AQ ⟨k0, .ic c :: .stop (RoundA H ty (fun i => setMany (maskT c.wr t) ((slot, .bld H.length ty (xs i).length) :: upd i)) xs n (fun i => ∀ j, j < i → q j) i) :: k, setMany (maskT c.wr t) ((slot, .bld H.length ty (xs i).length) :: upd i), H ++ [.row ty (xs i)]⟩) :
    SoundI P AQ ⟨k0, .ic (.loop c) :: k, t, H ++ [.row ty r0]⟩ := by
  subst hr
  exact soundI_plain (fun td' hr => by
  obtain ⟨c', r, rfl, hc, hr⟩ := hr
  obtain ⟨x, rfl, hx⟩ := comp_inv hc
  refine sound_loopB x ty _ xs n _ (fun j hj => absurd hj (Nat.not_lt_zero j)) hs hk hbh (fun hb i => belL_many _ ?_ (belL_mask _ hb)) (fun i hi hp => soundI_get (round i hi hp) ⟨x, _, rfl, hx, r, rfl, hr⟩)
  rw [List.all_cons, Bool.and_eq_true]
  exact ⟨by rw [SV.bel]; simp, hu i⟩) rfl
/-! ### A row that is handed over with all rights -/
theorem wd_one {C : Cx} {H : List SObj} {h : Nat} {t : Ty} {xs : List t.den} (hw : Wd C H) (hH : H[h]? = some (.row t xs)) : Wd { C with ρ := fun _ => C.ρ h, n := 1 } [.row t xs] where
  n := rfl
  obj := fun i o ho => by
    cases i with
    | zero =>
      simp at ho; subst ho
      have := hw.obj h _ hH
      exact this
    | succ i => simp at ho
  own := fun b ⟨i, o, ho, hl, hb⟩ => by
    have hb' : C.ρ h = some b := hb
    exact hw.own b ⟨h, _, hH, rfl, hb'⟩
  inj := fun i j o o' b ho ho' _ _ _ _ => by
    have h1 := (List.getElem?_eq_some_iff.1 ho).1
    have h2 := (List.getElem?_eq_some_iff.1 ho').1
    simp at h1 h2; omega
  imm := hw.imm
/-- The contract of a function that is handed a row, which is its own from then on. -/
def PCT (P : Program) (f : FuncId) (t : Ty) (xs : List t.den) (s : SV) : Prop :=
  enters P f = true ∧ ∀ (h n : Nat) (H : List SObj) (K : Out → List SObj → Prop), H[h]? = some (.row t xs) → n = xs.length → K (.ret s) (H.set h .dead) → VCall P f [.bld h t n] H K
theorem pct_seal {P : Program} {f : FuncId} {t : Ty} {xs : List t.den} {s : SV} (hs : s.clean = true) (hc : VC P f [.bld 0 t xs.length] [.row t xs] (SealK s)) : PCT P f t xs s := by
  refine ⟨hc.1, fun h n H K hH hn hk C vs hw hv => ?_⟩
  subst hn
  let C1 : Cx := { C with ρ := fun _ => C.ρ h, n := 1 }
  have hw1 : Wd C1 [.row t xs] := wd_one hw hH
  have hlt : h < C.n := by rw [hw.n]; exact (List.getElem?_eq_some_iff.1 hH).1
  have hv1 : SV.denL C1 [.bld 0 t xs.length] vs := by
    obtain ⟨v, us, rfl, h1, h2⟩ := denL_cons.1 hv
    rw [denL_nil] at h2; subst h2
    refine denL_cons.2 ⟨v, [], rfl, ?_, denL_nil.2 rfl⟩
    rw [SV.den] at h1 ⊢
    exact ⟨Nat.zero_lt_one, h1.2⟩
  refine (hc.2 C1 vs hw1 hv1).mono ?_
  rintro e w' ⟨o, H', C', hk', rfl, hw', hx, hd⟩
  cases o with
  | pan s0 => exact hk'.elim
  | ret s0 =>
    simp only [SealK] at hk'
    split at hk'
    · rename_i s1 p hs1
      obtain ⟨v, rfl, hd⟩ := hd
      have hown1 : ∀ b, OwnB C1 [.row t xs] b ↔ C.ρ h = some b := fun b => ⟨fun ⟨i, o, ho, _, hb⟩ => hb, fun hb => ⟨0, _, rfl, rfl, hb⟩⟩
      let D : Cx := { ρ := C.ρ, n := C.n, I := fun b => C'.I b ∨ OwnB C' H' b, w := C'.w }
      have hkeepI : Keeps C.I D.I C.w D.w := fun b hb => ⟨.inl (hx.evo.I b hb).1, (hx.evo.I b hb).2⟩
      have hev : Evo C D := ⟨Nat.le_refl _, fun _ _ => rfl, hkeepI, hx.evo.sz⟩
      have hold : ∀ b, b < C.w.heap.size → C.ρ h ≠ some b → C'.w.heap[b]? = C.w.heap[b]? := fun b hb hne => hx.frame b hb (fun ho => hne ((hown1 b).1 ho))
      have hget : ∀ {i y}, (H.set h .dead)[i]? = some y → y.live = true → i ≠ h ∧ H[i]? = some y := fun {i y} hy hl => by
        by_cases e : i = h
        · subst e
          rcases Nat.lt_or_ge i H.length with h1 | h1
          · rw [List.getElem?_set_self h1] at hy; cases hy; simp [SObj.live] at hl
          · rw [List.getElem?_eq_none (by simpa using h1)] at hy; cases hy
        · rw [List.getElem?_set_ne (Ne.symm e)] at hy; exact ⟨e, hy⟩
      have hDI : ∀ b, D.I b → b < C.w.heap.size → C.I b ∨ C.ρ h = some b := by
        rintro b (hb | hb) hlt
        · rcases hx.immNew b hb with h1 | h1 | h1
          · exact .inl h1
          · exact absurd hlt (Nat.not_lt.2 h1)
          · exact .inr ((hown1 b).1 h1)
        · rcases hx.ownNew b hb with h1 | h1
          · exact absurd hlt (Nat.not_lt.2 h1)
          · exact .inr ((hown1 b).1 h1)
      have hown : ∀ b, OwnB D (H.set h .dead) b → OwnB C H b ∧ C.ρ h ≠ some b := by
        rintro b ⟨i, y, hy, hl, hb⟩
        obtain ⟨hne, hy'⟩ := hget hy hl
        exact ⟨⟨i, y, hy', hl, hb⟩, fun e => hne (hw.inj i h y _ b hy' hH hl rfl hb e)⟩
      refine ⟨.ret s, H.set h .dead, D, hk, rfl, ⟨by simp [D, hw.n], fun i y hy => ?_, fun b hb => ?_, fun i j y y' b hy hy' hl hl' hb hb' => ?_, ?_⟩, ⟨hev, hx.size, hx.os, hx.tape, hx.output, fun b hb ho => ?_, ?_, fun b hb => .inr (hown b hb).1⟩, v, rfl, ?_⟩
      · by_cases hl : y.live = true
        · obtain ⟨hne, hy'⟩ := hget hy hl
          exact objDen_evo hkeepI i rfl (fun b hb => hold b (hw.own b ⟨i, y, hy', hl, hb⟩).2 (fun e => hne (hw.inj i h y _ b hy' hH hl rfl hb e))) (denL_evo hev) (hw.obj i y hy')
        · cases y <;> first | trivial | simp [SObj.live] at hl
      · obtain ⟨h1, h2⟩ := hown b hb
        have h3 := hw.own b h1
        refine ⟨fun hi => ?_, Nat.lt_of_lt_of_le h3.2 hx.size⟩
        rcases hDI b hi h3.2 with h4 | h4
        · exact h3.1 h4
        · exact h2 h4
      · exact hw.inj i j y y' b (hget hy hl).2 (hget hy' hl').2 hl hl' hb hb'
      · rintro b (hb | hb)
        · exact hw'.imm b hb
        · exact (hw'.own b hb).2
      · exact hold b hb (fun e => ho ⟨h, _, hH, rfl, e⟩)
      · intro b hb
        rcases Nat.lt_or_ge b C.w.heap.size with hlt | hge
        · rcases hDI b hb hlt with h1 | h1
          · exact .inl h1
          · exact .inr (.inr ⟨h, _, hH, rfl, h1⟩)
        · exact .inr (.inl hge)
      · have := leV_den hk'.2 (sealed_den hw' hs1 hk'.1 hd)
        exact den_clean (C := C'.shut H') (C' := D) (fun b hb => ⟨hb, rfl⟩) hs this
    · exact hk'.elim
theorem PC.arg {f : FuncId} {args args' : List SV} {s : SV} (h : PC P f args s) (hl : SV.leVL args' args) : PC P f args' s :=
  ⟨h.1, fun H K hk C vs hw hv => h.2 H K hk C vs hw (leVL_den hl hv)⟩
theorem callR_move {G : List Nat} {f : FuncId} {t' : Ty} {xs : List t'.den} {s : SV} {d : Option Tmp} {m : IM} {h n : Nat} (hp : PCT P f t' xs s) (hG : G.contains h = false) (hH : m.heap[h]? = some (.row t' xs)) (hn : n = xs.length) (hs : SoundI P AQ { m with tmps := putT m.tmps d s, heap := m.heap.set h .dead }) : CallR P AQ G f [.bld h t' n] d m := by
  refine ⟨hp.1, hp.2 h n _ _ hH hn ⟨fun _ i hi => ?_, hs⟩⟩
  rw [List.getElem?_set_ne]
  rintro rfl
  have : G.contains h = true := by simpa using hi
  rw [this] at hG; cases hG
end Go.Sx
namespace Go.Sx
open Go

variable {P : Program} {AQ : Ex → List SV → List SObj → Prop} {k0 : Nat} {k : List IT} {t : List SV} {H : List SObj}

/-! ### A contract over a few objects serves in every memory that holds them -/
/-- The handles of the callee, in the caller's memory. -/
def sig : List Nat → Nat → Nat → Nat
  | [], N, h => N + h
  | x :: _, _, 0 => x
  | _ :: l, N, h + 1 => sig l N h
/-- The caller's memory after the call. -/
def mgA (σ : Nat → Nat) : List Nat → List SObj → List SObj → List SObj
  | [], l, H => H ++ l.map (SObj.ren σ)
  | x :: r, o :: l, H => mgA σ r l (H.set x (o.ren σ))
  | _ :: _, [], H => H
def Out.ren (σ : Nat → Nat) : Out → Out
  | .ret s => .ret (s.ren σ)
  | .pan s => .pan (s.ren σ)
/-- The callee's objects, where the caller has them. -/
def atH (σ : Nat → Nat) (H : List SObj) : List Nat → List SObj → Prop
  | [], [] => True
  | x :: r, o :: l => H[x]? = some (o.ren σ) ∧ o.live = true ∧ atH σ H r l
  | _, _ => False

theorem atH_len {σ : Nat → Nat} : ∀ {r : List Nat} {l : List SObj}, atH σ H r l → r.length = l.length
  | [], [], _ => rfl
  | _ :: r, _ :: l, h => by simp [atH_len h.2.2]
  | [], _ :: _, h => h.elim
  | _ :: _, [], h => h.elim
theorem atH_get {σ : Nat → Nat} {N : Nat} : ∀ {r : List Nat} {l : List SObj} {h : Nat} {o : SObj}, atH σ H r l → l[h]? = some o → H[sig r N h]? = some (o.ren σ) ∧ o.live = true ∧ sig r N h ∈ r
  | [], [], _, _, _, hi => by simp at hi
  | x :: r, o' :: l, 0, o, ha, hi => by simp at hi; subst hi; exact ⟨ha.1, ha.2.1, by simp [sig]⟩
  | x :: r, o' :: l, h + 1, o, ha, hi => by
    simp at hi
    obtain ⟨g1, g2, g3⟩ := atH_get (N := N) ha.2.2 hi
    exact ⟨g1, g2, by simp only [sig]; exact List.mem_cons_of_mem _ g3⟩
  | [], _ :: _, _, _, h, _ => h.elim
  | _ :: _, [], _, _, h, _ => h.elim
theorem sig_inj : ∀ {r : List Nat} {N h h' : Nat}, r.Nodup → h < r.length → h' < r.length → sig r N h = sig r N h' → h = h'
  | x :: r, N, 0, 0, _, _, _, _ => rfl
  | x :: r, N, 0, h' + 1, hn, _, hl, he => by
    simp only [sig] at he
    have : sig r N h' ∈ r := sig_in (by simpa using hl)
    rw [← he] at this
    exact absurd this (List.nodup_cons.1 hn).1
  | x :: r, N, h + 1, 0, hn, hl, _, he => by
    simp only [sig] at he
    have : sig r N h ∈ r := sig_in (by simpa using hl)
    rw [he] at this
    exact absurd this (List.nodup_cons.1 hn).1
  | x :: r, N, h + 1, h' + 1, hn, hl, hl', he => by
    simp only [sig] at he
    rw [sig_inj (List.nodup_cons.1 hn).2 (by simpa using hl) (by simpa using hl') he]
  | [], _, _, _, _, hl, _, _ => by simp at hl
where sig_in : ∀ {r : List Nat} {N h : Nat}, h < r.length → sig r N h ∈ r
  | x :: r, N, 0, _ => by simp [sig]
  | x :: r, N, h + 1, hl => by simp only [sig]; exact List.mem_cons_of_mem _ (sig_in (by simpa using hl))
  | [], _, _, hl => by simp at hl
theorem sig_out : ∀ {r : List Nat} {N h : Nat}, r.length ≤ h → sig r N h = N + (h - r.length)
  | [], N, h, _ => by simp [sig]
  | x :: r, N, h + 1, hl => by simp only [sig]; rw [sig_out (by simpa using hl)]; simp
  | x :: r, N, 0, hl => by simp at hl

theorem mgA_len {σ : Nat → Nat} : ∀ {r : List Nat} {l H : List SObj}, r.length ≤ l.length → (mgA σ r l H).length = H.length + (l.length - r.length)
  | [], l, H, _ => by simp [mgA]
  | x :: r, o :: l, H, h => by rw [mgA, mgA_len (by simpa using h)]; simp
  | _ :: _, [], _, h => by simp at h
theorem mgA_get {σ : Nat → Nat} : ∀ {r : List Nat} {l H : List SObj} {i : Nat} {o : SObj}, r.length ≤ l.length → (mgA σ r l H)[i]? = some o →
    (∃ k oo, l[k]? = some oo ∧ o = oo.ren σ ∧ i = sig r H.length k) ∨ (i ∉ r ∧ H[i]? = some o)
  | [], l, H, i, o, _, h => by
    rw [mgA] at h
    rcases Nat.lt_or_ge i H.length with hl | hl
    · rw [List.getElem?_append_left hl] at h; exact .inr ⟨by simp, h⟩
    · rw [List.getElem?_append_right hl, List.getElem?_map] at h
      cases hk : l[i - H.length]? with
      | none => rw [hk] at h; cases h
      | some oo => rw [hk] at h; cases h; exact .inl ⟨_, oo, hk, rfl, by simp only [sig]; omega⟩
  | x :: r, o' :: l, H, i, o, hl, h => by
    rw [mgA] at h
    rcases mgA_get (by simpa using hl) h with ⟨k, oo, h1, h2, h3⟩ | ⟨h1, h2⟩
    · exact .inl ⟨k + 1, oo, by simpa using h1, h2, by simp only [sig]; rw [h3]; simp⟩
    · by_cases e : i = x
      · subst e
        rcases Nat.lt_or_ge i H.length with hi | hi
        · rw [List.getElem?_set_self hi] at h2
          cases h2
          exact .inl ⟨0, o', rfl, rfl, rfl⟩
        · rw [List.getElem?_eq_none (by simpa using hi)] at h2; cases h2
      · rw [List.getElem?_set_ne (Ne.symm e)] at h2
        exact .inr ⟨by simp [e, h1], h2⟩
  | _ :: _, [], _, _, _, hl, _ => by simp at hl

/- Values that are carried to another context. -/
mutual
theorem ren_up {C D : Cx} {σ : Nat → Nat} (hρ : ∀ h, h < C.n → D.ρ (σ h) = C.ρ h ∧ σ h < D.n) (hI : D.I = C.I) (hW : D.w = C.w) : ∀ {s : SV} {v : Value}, s.den C v → (s.ren σ).den D v
  | .any, _, _ => by rw [SV.ren, SV.den]; trivial
  | .raw _, _, d => by rw [SV.den] at d; rw [SV.ren, SV.den]; exact d
  | .isl _ _, _, d => by rw [SV.den] at d; rw [SV.ren, SV.den, hI, hW]; exact d
  | .fsl _ _, _, d => by rw [SV.den] at d; rw [SV.ren, SV.den, hI, hW]; exact d
  | .iptr _ _ _, _, d => by rw [SV.den] at d; rw [SV.ren, SV.den, hI, hW]; exact d
  | .ptr h off, _, d => by rw [SV.den] at d; rw [SV.ren, SV.den, (hρ h d.1).1]; exact ⟨(hρ h d.1).2, d.2⟩
  | .rptr h t i k, _, d => by rw [SV.den] at d; rw [SV.ren, SV.den, (hρ h d.1).1]; exact ⟨(hρ h d.1).2, d.2⟩
  | .bld h t m, _, d => by rw [SV.den] at d; rw [SV.ren, SV.den, (hρ h d.1).1, hW]; exact ⟨(hρ h d.1).2, d.2⟩
  | .osl h t off m, _, d => by rw [SV.den] at d; rw [SV.ren, SV.den, (hρ h d.1).1]; exact ⟨(hρ h d.1).2, d.2⟩
  | .csl h off m, _, d => by rw [SV.den] at d; rw [SV.ren, SV.den, (hρ h d.1).1]; exact ⟨(hρ h d.1).2, d.2⟩
  | .mp h, _, d => by rw [SV.den] at d; rw [SV.ren, SV.den, (hρ h d.1).1]; exact ⟨(hρ h d.1).2, d.2⟩
  | .imap .., _, d => by rw [SV.den] at d; rw [SV.ren, SV.den, hI, hW]; exact d
  | .agg l, _, d => by
    rw [SV.den] at d; rw [SV.ren, SV.den]
    obtain ⟨vs, hv, hl⟩ := d
    exact ⟨vs, hv, renL_up hρ hI hW hl⟩
  | .tup l, _, d => by
    rw [SV.den] at d; rw [SV.ren, SV.den]
    obtain ⟨vs, hv, hl⟩ := d
    exact ⟨vs, hv, renL_up hρ hI hW hl⟩
  | .fn f a b, _, d => by
    rw [SV.den] at d; rw [SV.ren, SV.den]
    obtain ⟨v1, v2, hv, h1, h2⟩ := d
    exact ⟨v1, v2, hv, renL_up hρ hI hW h1, renL_up hρ hI hW h2⟩
  | .iface T x, _, d => by
    rw [SV.den] at d; rw [SV.ren, SV.den]
    obtain ⟨u, hv, h1⟩ := d
    exact ⟨u, hv, ren_up hρ hI hW h1⟩
theorem renL_up {C D : Cx} {σ : Nat → Nat} (hρ : ∀ h, h < C.n → D.ρ (σ h) = C.ρ h ∧ σ h < D.n) (hI : D.I = C.I) (hW : D.w = C.w) : ∀ {l : List SV} {vs : List Value}, SV.denL C l vs → SV.denL D (SV.renL σ l) vs
  | [], _, d => by rw [SV.denL] at d; rw [SV.renL, SV.denL]; exact d
  | s :: l, _, d => by
    rw [SV.denL] at d; rw [SV.renL, SV.denL]
    obtain ⟨v, us, rfl, h1, h2⟩ := d
    exact ⟨v, us, rfl, ren_up hρ hI hW h1, renL_up hρ hI hW h2⟩
end
theorem objUp {C D : Cx} {σ : Nat → Nat} {h : Nat} (hρ : ∀ h, h < C.n → D.ρ (σ h) = C.ρ h ∧ σ h < D.n) (hI : D.I = C.I) (hW : D.w = C.w) (hh : h < C.n) : ∀ {o : SObj}, objDen C h o → objDen D (σ h) (o.ren σ)
  | .dead, _ => trivial
  | .cells T cs, ⟨b, vs, h1, h2, h3⟩ => ⟨b, vs, (hρ h hh).1.trans h1, by rw [hW]; exact h2, renL_up hρ hI hW h3⟩
  | .row t xs, d => by simp only [SObj.ren, objDen] at d ⊢; rw [(hρ h hh).1, hI, hW]; exact d
  | .map kk ks vs, d => by simp only [SObj.ren, objDen] at d ⊢; rw [(hρ h hh).1, hW]; exact d

theorem VCall.fr {f : FuncId} {args : List SV} {H0 : List SObj} {K0 K : Out → List SObj → Prop} (hs : List Nat) (hnd : hs.Nodup) (ha : atH (sig hs H.length) H hs H0) (hb : SV.belL H0.length args = true) (hbh : belH H0.length H0 = true)
    (hc : VCall P f args H0 K0) (hk : ∀ o H', H0.length ≤ H'.length → K0 o H' → K (o.ren (sig hs H.length)) (mgA (sig hs H.length) hs H' H)) :
    VCall P f (SV.renL (sig hs H.length) args) H K := by
  intro C vs hw hv
  have hlen := atH_len ha
  generalize hσ : sig hs H.length = σ at *
  have hget : ∀ {h o}, H0[h]? = some o → H[σ h]? = some (o.ren σ) ∧ o.live = true ∧ σ h ∈ hs := fun hh => by
    have := atH_get (N := H.length) ha hh; rw [hσ] at this; exact this
  let C0 : Cx := C.ren σ H0.length
  have hown0 : ∀ b, OwnB C0 H0 b → ∃ h, h < H0.length ∧ C.ρ (σ h) = some b ∧ OwnB C H b := by
    rintro b ⟨i, o, ho, hl, hbb⟩
    exact ⟨i, (List.getElem?_eq_some_iff.1 ho).1, hbb, σ i, _, (hget ho).1, by rw [ren_live]; exact hl, hbb⟩
  have hw0 : Wd C0 H0 := by
    refine ⟨rfl, fun i o ho => objRen (belH_get hbh ho) (hw.obj _ _ (hget ho).1), fun b hb' => ?_, fun i j o o' b ho ho' hl hl' hb1 hb2 => ?_, hw.imm⟩
    · obtain ⟨_, _, _, h1⟩ := hown0 b hb'
      exact hw.own b h1
    · have e := hw.inj (σ i) (σ j) _ _ b (hget ho).1 (hget ho').1 (by rw [ren_live]; exact hl) (by rw [ren_live]; exact hl') hb1 hb2
      rw [← hσ] at e
      exact sig_inj hnd (by rw [hlen]; exact (List.getElem?_eq_some_iff.1 ho).1) (by rw [hlen]; exact (List.getElem?_eq_some_iff.1 ho').1) e
  refine (hc C0 vs hw0 (renL_den hb hv)).mono ?_
  rintro e w' ⟨o, H', C', hK, rfl, hw', hx, hd⟩
  have hn : H0.length ≤ H'.length := by have := hx.evo.n; rw [hw'.n] at this; exact this
  have hsl : hs.length ≤ H'.length := by omega
  let D : Cx := { ρ := fun i => if i < H.length then C.ρ i else C'.ρ (H0.length + (i - H.length)), n := H.length + (H'.length - H0.length), I := C'.I, w := C'.w }
  have hlt : ∀ h, h < H0.length → σ h < H.length := fun h hh => (List.getElem?_eq_some_iff.1 (hget (List.getElem?_eq_getElem hh)).1).1
  have hout : ∀ h, H0.length ≤ h → σ h = H.length + (h - H0.length) := fun h hh => by rw [← hσ, sig_out (by omega), hlen]
  have hρ : ∀ h, h < C'.n → D.ρ (σ h) = C'.ρ h ∧ σ h < D.n := by
    intro h hh
    rw [hw'.n] at hh
    rcases Nat.lt_or_ge h H0.length with h1 | h1
    · have := hlt h h1
      refine ⟨?_, by show σ h < H.length + (H'.length - H0.length); omega⟩
      show (if σ h < H.length then C.ρ (σ h) else _) = _
      rw [if_pos this]; exact (hx.evo.ρ h h1).symm
    · have := hout h h1
      refine ⟨?_, by show σ h < H.length + (H'.length - H0.length); omega⟩
      show (if σ h < H.length then C.ρ (σ h) else C'.ρ (H0.length + (σ h - H.length))) = _
      rw [if_neg (by omega)]; congr 1; omega
  have hevo : Evo C D := ⟨by rw [hw.n]; exact Nat.le_add_right _ _, fun x hxl => by
    show (if x < H.length then C.ρ x else _) = _
    rw [if_pos (by rw [hw.n] at hxl; exact hxl)], hx.evo.I, hx.evo.sz⟩
  have hgetM : ∀ {i oo}, (mgA σ hs H' H)[i]? = some oo → (∃ h o', H'[h]? = some o' ∧ oo = o'.ren σ ∧ i = σ h) ∨ (i ∉ hs ∧ H[i]? = some oo) := fun hh => by
    rcases mgA_get hsl hh with ⟨k, o', g1, g2, g3⟩ | g
    · rw [hσ] at g3; exact .inl ⟨k, o', g1, g2, g3⟩
    · exact .inr g
  have hfar : ∀ i oo b, i ∉ hs → H[i]? = some oo → oo.live = true → C.ρ i = some b → ¬ OwnB C0 H0 b := by
    rintro i oo b hi ho hl hb' ⟨h, o', ho', hl', hb2⟩
    have e := hw.inj i (σ h) _ _ b ho (hget ho').1 hl (by rw [ren_live]; exact hl') hb' hb2
    exact hi (e ▸ (hget ho').2.2)
  have hDρ : ∀ i oo, H[i]? = some oo → D.ρ i = C.ρ i := fun i oo ho => by
    show (if i < H.length then C.ρ i else _) = _
    rw [if_pos (List.getElem?_eq_some_iff.1 ho).1]
  have hownD : ∀ b, OwnB D (mgA σ hs H' H) b → OwnB C' H' b ∨ (OwnB C H b ∧ ¬ OwnB C0 H0 b) := by
    rintro b ⟨i, oo, ho, hl, hb'⟩
    rcases hgetM ho with ⟨h, o', g1, rfl, rfl⟩ | ⟨g1, g2⟩
    · rw [(hρ h (by rw [hw'.n]; exact (List.getElem?_eq_some_iff.1 g1).1)).1] at hb'
      exact .inl ⟨h, o', g1, by rw [ren_live] at hl; exact hl, hb'⟩
    · rw [hDρ i oo g2] at hb'
      exact .inr ⟨⟨i, oo, g2, hl, hb'⟩, hfar i oo b g1 g2 hl hb'⟩
  refine ⟨o.ren σ, mgA σ hs H' H, D, hk o H' hn hK, rfl, ⟨?_, ?_, ?_, ?_, hw'.imm⟩, ⟨hevo, hx.size, hx.os, hx.tape, hx.output, ?_, ?_, ?_⟩, ?_⟩
  · rw [mgA_len hsl, hlen]
  · intro i oo ho
    rcases hgetM ho with ⟨h, o', g1, rfl, rfl⟩ | ⟨g1, g2⟩
    · exact objUp hρ rfl rfl (by rw [hw'.n]; exact (List.getElem?_eq_some_iff.1 g1).1) (hw'.obj h o' g1)
    · by_cases hl : oo.live = true
      · exact objDen_evo (C' := D) hevo.I i (hDρ i oo g2) (fun b hb' => hx.frame b (hw.own b ⟨i, oo, g2, hl, hb'⟩).2 (hfar i oo b g1 g2 hl hb')) (denL_evo hevo) (hw.obj i oo g2)
      · cases oo <;> first | trivial | simp [SObj.live] at hl
  · intro b hb'
    rcases hownD b hb' with h1 | ⟨h1, h2⟩
    · exact hw'.own b h1
    · obtain ⟨g1, g2⟩ := hw.own b h1
      refine ⟨fun hi => ?_, Nat.lt_of_lt_of_le g2 hx.size⟩
      rcases hx.immNew b hi with q | q | q
      · exact g1 q
      · exact absurd g2 (Nat.not_lt.2 q)
      · exact h2 q
  · intro i j oo oo' b ho ho' hl hl' hb1 hb2
    rcases hgetM ho with ⟨h, o', g1, rfl, rfl⟩ | ⟨g1, g2⟩ <;> rcases hgetM ho' with ⟨h', o'', g1', rfl, rfl⟩ | ⟨g1', g2'⟩
    · rw [(hρ h (by rw [hw'.n]; exact (List.getElem?_eq_some_iff.1 g1).1)).1] at hb1
      rw [(hρ h' (by rw [hw'.n]; exact (List.getElem?_eq_some_iff.1 g1').1)).1] at hb2
      rw [ren_live] at hl hl'
      rw [hw'.inj h h' _ _ b g1 g1' hl hl' hb1 hb2]
    · rw [(hρ h (by rw [hw'.n]; exact (List.getElem?_eq_some_iff.1 g1).1)).1] at hb1
      rw [hDρ j oo' g2'] at hb2
      rw [ren_live] at hl
      rcases hx.ownNew b ⟨h, o', g1, hl, hb1⟩ with q | q
      · exact absurd (hw.own b ⟨j, oo', g2', hl', hb2⟩).2 (Nat.not_lt.2 q)
      · exact absurd q (hfar j oo' b g1' g2' hl' hb2)
    · rw [(hρ h' (by rw [hw'.n]; exact (List.getElem?_eq_some_iff.1 g1').1)).1] at hb2
      rw [hDρ i oo g2] at hb1
      rw [ren_live] at hl'
      rcases hx.ownNew b ⟨h', o'', g1', hl', hb2⟩ with q | q
      · exact absurd (hw.own b ⟨i, oo, g2, hl, hb1⟩).2 (Nat.not_lt.2 q)
      · exact absurd q (hfar i oo b g1 g2 hl hb1)
    · rw [hDρ i oo g2] at hb1
      rw [hDρ j oo' g2'] at hb2
      exact hw.inj i j oo oo' b g2 g2' hl hl' hb1 hb2
  · intro b hb' ho
    refine hx.frame b hb' fun hq => ?_
    obtain ⟨_, _, _, h1⟩ := hown0 b hq
    exact ho h1
  · intro b hb'
    rcases hx.immNew b hb' with q | q | q
    · exact .inl q
    · exact .inr (.inl q)
    · obtain ⟨_, _, _, h1⟩ := hown0 b q
      exact .inr (.inr h1)
  · intro b hb'
    rcases hownD b hb' with h1 | ⟨h1, _⟩
    · rcases hx.ownNew b h1 with q | q
      · exact .inl q
      · obtain ⟨_, _, _, h2⟩ := hown0 b q
        exact .inr h2
    · exact .inr h1
  · cases o with
    | ret s => obtain ⟨v, rfl, hd⟩ := hd; exact ⟨v, rfl, ren_up hρ rfl rfl hd⟩
    | pan s => obtain ⟨v, rfl, hd⟩ := hd; exact ⟨v, rfl, ren_up hρ rfl rfl hd⟩

/-! ### A weaker outcome: garbage dropped, objects forgotten -/
def Out.val : Out → SV
  | .ret s => s
  | .pan s => s
def Out.withV : Out → SV → Out
  | .ret _, s => .ret s
  | .pan _, s => .pan s
/-! ### Contracts with an effect on a few objects -/
/-- Called over the objects H0, it comes to this outcome and leaves them so. -/
def PE (P : Program) (f : FuncId) (args : List SV) (H0 : List SObj) (o : Out) (H1 : List SObj) : Prop := VC P f args H0 fun o' H' => o' = o ∧ H' = H1
/-- What comes after the call. -/
def afterO (P : Program) (AQ : Ex → List SV → List SObj → Prop) (d : Option Tmp) (m : IM) : Out → List SObj → Prop
  | .ret s, H' => SoundI P AQ { m with tmps := putT m.tmps d s, heap := H' }
  | .pan s, H' => AQ (.pan s) m.tmps H'

theorem callI_eff {f : FuncId} {args args0 : List SV} {H0 H1 : List SObj} {o : Out} {d : Option Tmp} {m : IM} (hs : List Nat) (hp : PE P f args0 H0 o H1) (hargs : args = SV.renL (sig hs m.heap.length) args0) (hnd : hs.Nodup)
    (ha : atH (sig hs m.heap.length) m.heap hs H0) (hb : SV.belL H0.length args0 = true) (hbh : belH H0.length H0 = true)
    (h : afterO P AQ d m (o.ren (sig hs m.heap.length)) (mgA (sig hs m.heap.length) hs H1 m.heap)) : CallI P AQ f args d m := by
  subst hargs
  refine ⟨hp.1, VCall.fr hs hnd ha hb hbh hp.2 ?_⟩
  rintro o' H' _ ⟨rfl, rfl⟩
  cases o' <;> exact h
end Go.Sx
