/- A part of the proof: a symbolic executor over abstract values, and its soundness. -/
import Derived.Test.YtddmkgibghohkaaGreatDoorP9
import Derived.RecoverIn
import Derived.Test.YtddmkgibghohkaaGreatDoorProg
import Derived.KernelRfl
set_option linter.unusedSimpArgs false
set_option linter.unusedVariables false
set_option linter.unusedSectionVars false
set_option linter.unusedSectionVars false
namespace Go.Sx
open Go
variable [Ghost] {P : Program} {AQ : Ex → List SV → List SObj → Prop} {k0 : Nat} {k : List IT} {t : List SV} {H : List SObj}

mutual
def SV.sealB (n : Nat) (H : List SObj) : SV → Option (SV × Prop)
 | .any => some (.any, True)
 | .raw v => some (.raw v, True)
 | .isl t xs => some (.isl t xs, True)
 | .fsl t xs => some (.isl t xs, True)
 | .iptr t x k => some (.iptr t x k, True)
 | .imap kk ks vs => some (.imap kk ks vs, True)
 | .ptr h off => if h < n then some (.ptr h off, True) else none
 | .rptr h t i k => if h < n then some (.rptr h t i k, True) else none
 | .csl h off m => if h < n then some (.csl h off m, True) else none
 | .bld h t m => if h < n then some (.bld h t m, True) else match H[h]? with
  | some (.row t' xs) => if t = t' then some (.isl t' (xs.take m), m ≤ xs.length ∧ xs.length ≤ 1125899906842624) else none
  | _ => none
 | .osl h t off m => if h < n then some (.osl h t off m, True) else match H[h]? with
  | some (.row t' xs) => if t = t' then some (.isl t' ((xs.drop off).take m), off + m ≤ xs.length ∧ xs.length ≤ 1125899906842624) else none
  | _ => none
 | .mp h => if h < n then some (.mp h, True) else match H[h]? with
  | some (.map kk ks vs) => some (.imap kk ks vs, True)
  | _ => none
 | .agg l => match SV.sealBL n H l with
  | some (l', p) => some (.agg l', p)
  | none => none
 | .tup l => match SV.sealBL n H l with
  | some (l', p) => some (.tup l', p)
  | none => none
 | .iface T x => match SV.sealB n H x with
  | some (x', p) => some (.iface T x', p)
  | none => none
 | .fn f a b => match SV.sealBL n H a, SV.sealBL n H b with
  | some (a', p), some (b', q) => some (.fn f a' b', p ∧ q)
  | _, _ => none
def SV.sealBL (n : Nat) (H : List SObj) : List SV → Option (List SV × Prop)
 | [] => some ([], True)
 | s :: l => match SV.sealB n H s, SV.sealBL n H l with
  | some (s', p), some (l', q) => some (s' :: l', p ∧ q)
  | _, _ => none
end

def OwnGe (C : Cx) (H : List SObj) (n : Nat) (b : Nat) : Prop := ∃ h o, n ≤ h ∧ H[h]? = some o ∧ o.live = true ∧ C.ρ h = some b
def Cx.shutB (C : Cx) (H : List SObj) (n : Nat) : Cx := { C with n := n, I := fun b => C.I b ∨ OwnGe C H n b }
theorem keeps_shutB (C : Cx) (H : List SObj) (n : Nat) : Keeps C.I (C.shutB H n).I C.w (C.shutB H n).w := fun _ hb => ⟨.inl hb, rfl⟩
theorem keeps_frzB {C : Cx} {H : List SObj} {n hd : Nat} {o : SObj} (hn : n ≤ hd) (hH : H[hd]? = some o) (hl : o.live = true) : Keeps (C.frz hd).I (C.shutB H n).I (C.frz hd).w (C.shutB H n).w :=
 fun _ hb => ⟨hb.elim .inl (fun e => .inr ⟨hd, o, hn, hH, hl, e⟩), rfl⟩
mutual
theorem sealB_den {C : Cx} {H : List SObj} {n : Nat} (hw : Wd C H) : ∀ {s s' : SV} {p : Prop} {v : Value}, s.sealB n H = some (s', p) → p → s.den C v → s'.den (C.shutB H n) v
 | .any, _, _, _, h, _, _ => by simp [SV.sealB] at h; rw [← h.1, SV.den]; trivial
 | .raw _, _, _, _, h, _, d => by simp [SV.sealB] at h; rw [← h.1]; rw [SV.den] at d ⊢; exact d
 | .isl _ _, _, _, _, h, _, d => by simp [SV.sealB] at h; rw [← h.1]; exact den_clean (keeps_shutB C H n) rfl d
 | .fsl _ _, _, _, _, h, _, d => by simp [SV.sealB] at h; rw [← h.1]; rw [SV.den] at d; exact den_clean (keeps_shutB C H n) rfl (by rw [SV.den]; exact d.1)
 | .iptr .., _, _, _, h, _, d => by simp [SV.sealB] at h; rw [← h.1]; exact den_clean (keeps_shutB C H n) rfl d
 | .imap .., _, _, _, h, _, d => by simp [SV.sealB] at h; rw [← h.1]; exact den_clean (keeps_shutB C H n) rfl d
 | .ptr hd off, _, _, _, h, _, d => by
  simp only [SV.sealB] at h
  split at h
  · cases h; rw [SV.den] at d ⊢; exact ⟨by assumption, d.2⟩
  · cases h
 | .rptr .., _, _, _, h, _, d => by
  simp only [SV.sealB] at h
  split at h
  · cases h; rw [SV.den] at d ⊢; exact ⟨by assumption, d.2⟩
  · cases h
 | .csl .., _, _, _, h, _, d => by
  simp only [SV.sealB] at h
  split at h
  · cases h; rw [SV.den] at d ⊢; exact ⟨by assumption, d.2⟩
  · cases h
 | .bld hd t m, s', p, v, h, hp, d => by
  simp only [SV.sealB] at h
  split at h
  · cases h; rw [SV.den] at d ⊢; exact ⟨by assumption, d.2⟩
  · rename_i hge
    split at h
    · rename_i t' xs hH
      split at h
      · rename_i e; subst e; cases h
        have h1 := frz_den hw hH hp.2 (s := .bld hd t m) (by rw [SV.frzOb, if_pos ⟨rfl, rfl⟩]; exact hp.1) d
        rw [SV.frz, if_pos ⟨rfl, rfl⟩] at h1
        exact den_clean (keeps_frzB (Nat.not_lt.1 hge) hH rfl) rfl h1
      · cases h
    · cases h
 | .osl hd t off m, s', p, v, h, hp, d => by
  simp only [SV.sealB] at h
  split at h
  · cases h; rw [SV.den] at d ⊢; exact ⟨by assumption, d.2⟩
  · rename_i hge
    split at h
    · rename_i t' xs hH
      split at h
      · rename_i e; subst e; cases h
        have h1 := frz_den hw hH hp.2 (s := .osl hd t off m) (by rw [SV.frzOb, if_pos ⟨rfl, rfl⟩]; exact hp.1) d
        rw [SV.frz, if_pos ⟨rfl, rfl⟩] at h1
        exact den_clean (keeps_frzB (Nat.not_lt.1 hge) hH rfl) rfl h1
      · cases h
    · cases h
 | .mp hd, s', p, v, h, hp, d => by
  simp only [SV.sealB] at h
  split at h
  · cases h; rw [SV.den] at d ⊢; exact ⟨by assumption, d.2⟩
  · rename_i hge
    split at h
    · rename_i kk ks vs hH
      cases h
      simp only [SV.den] at d ⊢
      obtain ⟨_, b, hb, rfl⟩ := d
      obtain ⟨b', hb', hm⟩ := hw.obj hd _ hH
      rw [hb] at hb'; cases hb'
      exact ⟨b, rfl, .inr ⟨hd, _, Nat.not_lt.1 hge, hH, rfl, hb⟩, hm⟩
    · cases h
 | .agg l, s', p, v, h, hp, d => by
  unfold SV.sealB at h
  split at h
  · cases h
    rw [SV.den] at d ⊢
    obtain ⟨vs, hv, hl⟩ := d
    exact ⟨vs, hv, sealBL_den hw (by assumption) hp hl⟩
  · cases h
 | .tup l, s', p, v, h, hp, d => by
  unfold SV.sealB at h
  split at h
  · cases h
    rw [SV.den] at d ⊢
    obtain ⟨vs, hv, hl⟩ := d
    exact ⟨vs, hv, sealBL_den hw (by assumption) hp hl⟩
  · cases h
 | .iface T x, s', p, v, h, hp, d => by
  unfold SV.sealB at h
  split at h
  · cases h
    rw [SV.den] at d ⊢
    obtain ⟨u, hv, hl⟩ := d
    exact ⟨u, hv, sealB_den hw (by assumption) hp hl⟩
  · cases h
 | .fn f a b, s', p, v, h, hp, d => by
  unfold SV.sealB at h
  split at h
  · cases h
    rw [SV.den] at d ⊢
    obtain ⟨v1, v2, hv, h1, h2⟩ := d
    exact ⟨v1, v2, hv, sealBL_den hw (by assumption) hp.1 h1, sealBL_den hw (by assumption) hp.2 h2⟩
  · cases h
theorem sealBL_den {C : Cx} {H : List SObj} {n : Nat} (hw : Wd C H) : ∀ {l l' : List SV} {p : Prop} {vs : List Value}, SV.sealBL n H l = some (l', p) → p → SV.denL C l vs → SV.denL (C.shutB H n) l' vs
 | [], _, _, _, h, _, d => by simp [SV.sealBL] at h; rw [h.1]; rw [denL_nil] at d ⊢; exact d
 | s :: l, l', p, vs, h, hp, d => by
  unfold SV.sealBL at h
  split at h
  · cases h
    obtain ⟨v, us, rfl, h1, h2⟩ := denL_cons.1 d
    exact denL_cons.2 ⟨v, us, rfl, sealB_den hw (by assumption) hp.1 h1, sealBL_den hw (by assumption) hp.2 h2⟩
  · cases h
end

/- A value that says less: nil and the empty slice are one, .any says nothing. -/
mutual
def SV.leA : SV → SV → Prop
 | _, .any => True
 | s, .isl t xs => s = .isl t xs ∨ (s = .raw (.slice none 0 0) ∧ xs = [])
 | s, .agg l => match s with
  | .agg l' => SV.leAL l' l
  | _ => False
 | s, .tup l => match s with
  | .tup l' => SV.leAL l' l
  | _ => False
 | s, s' => s = s'
def SV.leAL : List SV → List SV → Prop
 | [], l => l = []
 | s :: l, r => match r with
  | [] => False
  | s' :: l' => SV.leA s s' ∧ SV.leAL l l'
end
theorem leA_any {s : SV} : SV.leA s .any = True := by cases s <;> simp [SV.leA]
theorem leA_raw {v u : Value} : SV.leA (.raw v) (.raw u) = (v = u) := by simp [SV.leA]
theorem leA_isl {t : Ty} {xs ys : List t.den} : SV.leA (.isl t xs) (.isl t ys) = (xs = ys) := by simp [SV.leA]
theorem leA_nil {t : Ty} {ys : List t.den} : SV.leA (.raw (.slice none 0 0)) (.isl t ys) = (ys = []) := by simp [SV.leA]
theorem leA_agg {l l' : List SV} : SV.leA (.agg l) (.agg l') = SV.leAL l l' := by rw [SV.leA]
theorem leA_tup {l l' : List SV} : SV.leA (.tup l) (.tup l') = SV.leAL l l' := by rw [SV.leA]
theorem leA_ptr {h o h' o' : Nat} : SV.leA (.ptr h o) (.ptr h' o') = (h = h' ∧ o = o') := by simp [SV.leA]
theorem leA_iface {T T' : TypeId} {x x' : SV} : SV.leA (.iface T x) (.iface T' x') = (T = T' ∧ x = x') := by simp [SV.leA]
theorem leA_fn {f f' : Nat} {a a' b b' : List SV} : SV.leA (.fn f a b) (.fn f' a' b') = (f = f' ∧ a = a' ∧ b = b') := by simp [SV.leA]
theorem leA_bld {h h' n n' : Nat} {t t' : Ty} : SV.leA (.bld h t n) (.bld h' t' n') = (h = h' ∧ t = t' ∧ n = n') := by simp [SV.leA]
theorem leAL_cons {s s' : SV} {l l' : List SV} : SV.leAL (s :: l) (s' :: l') = (SV.leA s s' ∧ SV.leAL l l') := by rw [SV.leAL]
theorem leAL_nil : SV.leAL [] [] = True := by simp [SV.leAL]
mutual
theorem leA_den {C : Cx} : ∀ {s s' : SV} {v : Value}, SV.leA s s' → s.den C v → s'.den C v
 | s, .any, v, _, _ => by rw [SV.den]; trivial
 | s, .isl t xs, v, h, d => by
  rw [SV.leA] at h
  rcases h with rfl | ⟨rfl, rfl⟩
  · exact d
  · rw [SV.den] at d; subst d
    rw [SV.den]
    exact ⟨_, _, _, rfl, rfl, Nat.le_refl _, by simp, .inl rfl⟩
 | .agg l', .agg l, v, h, d => by
  rw [leA_agg] at h
  rw [SV.den] at d ⊢
  obtain ⟨vs, hv, hl⟩ := d
  exact ⟨vs, hv, leAL_den h hl⟩
 | .tup l', .tup l, v, h, d => by
  rw [leA_tup] at h
  rw [SV.den] at d ⊢
  obtain ⟨vs, hv, hl⟩ := d
  exact ⟨vs, hv, leAL_den h hl⟩
 | .any, .agg _, _, h, _ => by simp [SV.leA] at h
 | .raw _, .agg _, _, h, _ => by simp [SV.leA] at h
 | .isl _ _, .agg _, _, h, _ => by simp [SV.leA] at h
 | .fsl _ _, .agg _, _, h, _ => by simp [SV.leA] at h
 | .iptr .., .agg _, _, h, _ => by simp [SV.leA] at h
 | .ptr .., .agg _, _, h, _ => by simp [SV.leA] at h
 | .rptr .., .agg _, _, h, _ => by simp [SV.leA] at h
 | .bld .., .agg _, _, h, _ => by simp [SV.leA] at h
 | .osl .., .agg _, _, h, _ => by simp [SV.leA] at h
 | .csl .., .agg _, _, h, _ => by simp [SV.leA] at h
 | .mp _, .agg _, _, h, _ => by simp [SV.leA] at h
 | .imap .., .agg _, _, h, _ => by simp [SV.leA] at h
 | .fn .., .agg _, _, h, _ => by simp [SV.leA] at h
 | .iface .., .agg _, _, h, _ => by simp [SV.leA] at h
 | .tup _, .agg _, _, h, _ => by simp [SV.leA] at h
 | .any, .tup _, _, h, _ => by simp [SV.leA] at h
 | .raw _, .tup _, _, h, _ => by simp [SV.leA] at h
 | .isl _ _, .tup _, _, h, _ => by simp [SV.leA] at h
 | .fsl _ _, .tup _, _, h, _ => by simp [SV.leA] at h
 | .iptr .., .tup _, _, h, _ => by simp [SV.leA] at h
 | .ptr .., .tup _, _, h, _ => by simp [SV.leA] at h
 | .rptr .., .tup _, _, h, _ => by simp [SV.leA] at h
 | .bld .., .tup _, _, h, _ => by simp [SV.leA] at h
 | .osl .., .tup _, _, h, _ => by simp [SV.leA] at h
 | .csl .., .tup _, _, h, _ => by simp [SV.leA] at h
 | .mp _, .tup _, _, h, _ => by simp [SV.leA] at h
 | .imap .., .tup _, _, h, _ => by simp [SV.leA] at h
 | .fn .., .tup _, _, h, _ => by simp [SV.leA] at h
 | .iface .., .tup _, _, h, _ => by simp [SV.leA] at h
 | .agg _, .tup _, _, h, _ => by simp [SV.leA] at h
 | s, .raw _, v, h, d => by simp [SV.leA] at h; subst h; exact d
 | s, .fsl _ _, v, h, d => by simp [SV.leA] at h; subst h; exact d
 | s, .iptr .., v, h, d => by simp [SV.leA] at h; subst h; exact d
 | s, .ptr .., v, h, d => by simp [SV.leA] at h; subst h; exact d
 | s, .rptr .., v, h, d => by simp [SV.leA] at h; subst h; exact d
 | s, .bld .., v, h, d => by simp [SV.leA] at h; subst h; exact d
 | s, .osl .., v, h, d => by simp [SV.leA] at h; subst h; exact d
 | s, .csl .., v, h, d => by simp [SV.leA] at h; subst h; exact d
 | s, .mp _, v, h, d => by simp [SV.leA] at h; subst h; exact d
 | s, .imap .., v, h, d => by simp [SV.leA] at h; subst h; exact d
 | s, .fn .., v, h, d => by simp [SV.leA] at h; subst h; exact d
 | s, .iface .., v, h, d => by simp [SV.leA] at h; subst h; exact d
theorem leAL_den {C : Cx} : ∀ {l l' : List SV} {vs : List Value}, SV.leAL l l' → SV.denL C l vs → SV.denL C l' vs
 | [], l', vs, h, d => by simp only [SV.leAL] at h; subst h; exact d
 | s :: l, [], vs, h, d => by simp [SV.leAL] at h
 | s :: l, s' :: l', vs, h, d => by
  rw [leAL_cons] at h
  obtain ⟨v, us, rfl, h1, h2⟩ := denL_cons.1 d
  exact denL_cons.2 ⟨v, us, rfl, leA_den h.1 h1, leAL_den h.2 h2⟩
end

def SObj.unmarked : SObj → Prop
 | .mark _ => False
 | .dead => True
 | .cells _ _ => True
 | .row _ _ => True
 | .map _ _ _ => True
def sealHL (n : Nat) (H : List SObj) : List SObj → List SObj → Prop
 | _, [] => True
 | o :: l, .dead :: l' => o.unmarked ∧ sealHL n H l l'
 | .cells T cs :: l, .cells T' cs' :: l' => (match SV.sealBL n H cs with
  | some (cs1, p) => p ∧ T = T' ∧ SV.leAL cs1 cs'
  | none => False) ∧ sealHL n H l l'
 | .row t xs :: l, .row t' xs' :: l' => SObj.row t xs = SObj.row t' xs' ∧ sealHL n H l l'
 | .map a b c :: l, .map a' b' c' :: l' => (a = a' ∧ b = b' ∧ c = c') ∧ sealHL n H l l'
 | .mark a :: l, .mark a' :: l' => a = a' ∧ sealHL n H l l'
 | _, _ => False
def SealO (o : Out) (H1 : List SObj) (o' : Out) (H' : List SObj) : Prop :=
 o' = o.withV o'.val ∧ H1.length ≤ H'.length ∧ (match o'.val.sealB H1.length H' with
  | some (s1, p) => p ∧ SV.leA s1 o.val
  | none => False) ∧ sealHL H1.length H' H' H1
theorem PC.pe {f : FuncId} {args : List SV} {s : SV} (h : PC P f args s) : PE P f args [] (.ret s) [] := ⟨h.1, h.2 _ _ ⟨rfl, rfl⟩⟩
theorem sealO_ret {s s' : SV} {H1 H' : List SObj} : SealO (.ret s) H1 (.ret s') H' = (H1.length ≤ H'.length ∧ (match s'.sealB H1.length H' with
 | some (s1, p) => p ∧ SV.leA s1 s
 | none => False) ∧ sealHL H1.length H' H' H1) := by simp [SealO, Out.withV, Out.val]
theorem sealO_pan {s s' : SV} {H1 H' : List SObj} : SealO (.pan s) H1 (.pan s') H' = (H1.length ≤ H'.length ∧ (match s'.sealB H1.length H' with
 | some (s1, p) => p ∧ SV.leA s1 s
 | none => False) ∧ sealHL H1.length H' H' H1) := by simp [SealO, Out.withV, Out.val]
attribute [go_sem] sealO_ret sealO_pan SV.sealB SV.sealBL leA_any leA_raw leA_isl leA_nil leA_agg leA_tup leA_ptr leA_iface leA_fn leA_bld leAL_cons leAL_nil sealHL SObj.unmarked
end Go.Sx
namespace Go.Sx
open Go
variable {P : Program} {AQ : Ex → List SV → List SObj → Prop} {k0 : Nat} {k : List IT} {t : List SV} {H : List SObj}

def afterD (H : List SObj) (C : Cx) (K : List SObj → Prop) (m : FrameMode) : Ending → FrameMode → World → Prop :=
 fun e u w => e = .returned (.tuple #[]) ∧ u = m ∧ ∃ H' C', K H' ∧ C'.w = w ∧ Wd C' H' ∧ Ext ⟨C, H⟩ C' H'
def DCall (P : Program) (g : FuncId) (args : List SV) (pan : Option SV) (H : List SObj) (K : List SObj → Prop) : Prop :=
 enters P g = true ∧ ∀ (C : Cx) (vs : List Value), Wd C H → SV.denL C args vs → match pan with
  | none => CallsDIn Fence.wide 0 P g vs.toArray .returning C.w (afterD H C K .returning)
  | some s => ∀ v, s.den C v → CallsDIn Fence.wide 0 P g vs.toArray (.panicking [{ v, recovered := false }]) C.w (afterD H C K (.panicking [{ v, recovered := true }]))

def recS : Option SV → SV
 | none => .raw .nilIface
 | some s => s
def AQD (K : List SObj → Prop) : Ex → List SV → List SObj → Prop
 | .normal, _, H => K H
 | .ret, _, H => K H
 | _, _, _ => False

structure DI where
 ntmps : Nat
 results : List ResultVar
 pre : List IC
 slot : Nat
 g : Nat
 ca : List Operand
 post : IC

def AQ2 (P : Program) (rs : List ResultVar) (g : FuncId) (caps : List SV) (K : Out → List SObj → Prop) : Ex → List SV → List SObj → Prop
 | .normal, t, H => DCall P g caps none H fun H' => ∃ s, resV P t H' rs = some s ∧ K (.ret s) H'
 | .ret, t, H => DCall P g caps none H fun H' => ∃ s, resV P t H' rs = some s ∧ K (.ret s) H'
 | .pan s, t, H => t ≠ [] ∧ DCall P g caps (some s) H fun H' => ∃ s, resV P t H' rs = some s ∧ K (.ret s) H'
 | .exit _, _, _ => False
def AQ1 (P : Program) (rs : List ResultVar) (K : Out → List SObj → Prop) : Ex → List SV → List SObj → Prop
 | .ret, t, H => ∃ s, resV P t H rs = some s ∧ K (.ret s) H
 | .pan s, _, H => K (.pan s) H
 | _, _, _ => False
def DPost (P : Program) (di : DI) (K : Out → List SObj → Prop) : List SV → List SObj → Prop :=
 fun t H => di.slot < t.length ∧ SoundI P (AQ2 P di.results di.g (di.ca.map (evT t)) K) ⟨H.length, [.ic di.post], t.set di.slot (.fn di.g [] (di.ca.map (evT t))), H⟩

theorem rel_codes {Φ : List SV → List SObj → Prop} : ∀ {cs : List Code} {l : List IC}, cs.map (comp P) = l.map some → RelT P (l.map .ic ++ [.stop Φ]) (cs.map .code ++ [.stop Φ])
 | [], [], _ => ⟨[], rfl, rfl⟩
 | c :: cs, ic :: l, h => by
  simp only [List.map_cons, List.cons.injEq] at h
  exact ⟨c, _, rfl, h.1, rel_codes h.2⟩
 | [], _ :: _, h => by simp at h
 | _ :: _, [], h => by simp at h

structure RI where
 ntmps : Nat
 slot : Nat
 ops : List OpI
 code : IC
attribute [go_sem] AQD AQ1 AQ2 DPost recS List.map_cons List.map_nil
abbrev zs : Value := .slice none 0 0
abbrev zi : Value := .int .i64 0
abbrev ze : Value := .string ⟨#[]⟩
def kT : Operand := .const (.bool true)
def kF : Operand := .const (.bool false)
def kS : Operand := .const (.slice none 0 0)
def kE : Operand := .const (.string ⟨#[]⟩)
def fA (d k x : Nat) : OpI := ⟨some d, .fa k (.tmp x), none⟩
def lD (d x : Nat) : OpI := ⟨some d, .ld none (.tmp x), none⟩
def lG (d n x : Nat) : OpI := ⟨some d, .ld (some n) (.tmp x), none⟩
def c0 (d f : Nat) : OpI := ⟨some d, .call (.func f) [], none⟩
def c1 (d f a : Nat) : OpI := ⟨some d, .call (.func f) [.tmp a], none⟩
def c2 (d f a b : Nat) : OpI := ⟨some d, .call (.func f) [.tmp a, .tmp b], none⟩
def c3 (d f a b c : Nat) : OpI := ⟨some d, .call (.func f) [.tmp a, .tmp b, .tmp c], none⟩
def bN (d : Nat) (o : BinOp) (k x y : Nat) : OpI := ⟨some d, .bin o k (.tmp x) (.tmp y), none⟩
def nT (d x : Nat) : OpI := ⟨some d, .un .not (.tmp x), none⟩
def lN (d : Nat) (b : Bool) (x : Nat) : OpI := ⟨some d, .len b (.tmp x), none⟩
def iA (d s x y : Nat) : OpI := ⟨some d, .ia s (.tmp x) (.tmp y), none⟩
def sT (n x y : Nat) : OpI := ⟨none, .st n (.tmp x) (.tmp y), none⟩
def tS (d x : Nat) : OpI := ⟨some d, .toStr true (.tmp x), none⟩
def mI (d : Nat) (n : Int) : OpI := ⟨some d, .mov (.const (.int .i64 n)), none⟩
def aI (d x : Nat) : OpI := ⟨some d, .bin .add 0 (.tmp x) (.const (.int .i64 1)), none⟩
def qR (l : List OpI) (b : IC) : IC := .seq (.reg l) b
def cE (x k : Nat) : IC := .cond (.tmp x) .skip (.exit k)
def pT (d x y : Nat) : OpI := ⟨some d, .pick (.tmp x) (.const (.bool true)) (.tmp y), none⟩
def pF (d x y : Nat) : OpI := ⟨some d, .pick (.tmp x) (.tmp y) (.const (.bool false)), none⟩
def z17 : List Value := [zs, ze, zs, .int .u32 0, zi, zs, ze, zi, zi, zi, zi, zi, zi, zi, zs, zs, zs]
def z5 : List Value := [zi, zs, ze, zi, zi]
attribute [go_sem] qR zs zi ze kT kF kS kE fA lD lG c0 c1 c2 c3 bN nT lN iA sT tS mI aI cE pT pF z17 z5
end Go.Sx
/- The functions of the program in the compact form; the kernel checks each. -/
namespace Go.Proofs.YtddmkgibghohkaaGreatDoor
open Go Go.Sx Go.Proofs
set_option maxRecDepth 100000
@[go_sem] theorem ag3 : aggOf Tryz.prog 3 = some none := by kernel_rfl
@[go_sem] theorem ag4 : aggOf Tryz.prog 4 = some none := by kernel_rfl
@[go_sem] theorem ag9 : aggOf Tryz.prog 9 = some none := by kernel_rfl
@[go_sem] theorem ag24 : aggOf Tryz.prog 24 = some (some 2) := by kernel_rfl
@[go_sem] theorem ag25 : aggOf Tryz.prog 25 = some none := by kernel_rfl
@[go_sem] theorem ag28 : aggOf Tryz.prog 28 = some none := by kernel_rfl
@[go_sem] theorem ag29 : aggOf Tryz.prog 29 = some none := by kernel_rfl
@[go_sem] theorem ag31 : aggOf Tryz.prog 31 = some (some 17) := by kernel_rfl
@[go_sem] theorem ag32 : aggOf Tryz.prog 32 = some none := by kernel_rfl
@[go_sem] theorem ag34 : aggOf Tryz.prog 34 = some (some 5) := by kernel_rfl
@[go_sem] theorem ag38 : aggOf Tryz.prog 38 = some none := by kernel_rfl
@[go_sem] theorem ag50 : aggOf Tryz.prog 50 = some (some 3) := by kernel_rfl
@[go_sem] theorem ag55 : aggOf Tryz.prog 55 = some none := by kernel_rfl
@[go_sem] theorem ag73 : aggOf Tryz.prog 73 = some (some 3) := by kernel_rfl
@[go_sem] theorem ag203 : aggOf Tryz.prog 203 = some (some 8) := by kernel_rfl
def ir3 : FI := ⟨71, [.tmp 6], (qR [o1 3 (.box 31 (.tmp 0)), o1 4 (.box 34 (.tmp 1)), o1 6 (.mov kF)] (.seq (qR [lG 15 17 3, c1 16 10 15, nT 17 16, mv 18 17, oF 19 (.ld (some 5) (.tmp 4)) 18, oF 20 (.call (.func 11) [(.tmp 19)]) 18, oF 21 (.un .not (.tmp 20)) 18, pT 22 18 21] (.cond (.tmp 22) (qR [c0 23 12, mv 6 23] .ret) .skip)) (qR [lG 25 17 3, lG 26 5 4, c2 27 13 25 26, mv 24 27, ex 28 0 24, ex 29 1 24, o1 7 (.new 31 z17), sT 17 7 28, mv 8 29] (qR [lG 31 17 3, lG 32 5 4, c2 33 14 31 32, mv 30 33, ex 34 0 30, ex 35 1 30, o1 9 (.new 31 z17), sT 17 9 34, mv 10 35] (qR [lG 37 17 3, mv 38 2, c2 39 15 37 38, mv 36 39, ex 40 0 36, ex 41 1 36, o1 11 (.new 31 z17), sT 17 11 40, mv 12 41] (qR [lG 43 17 3, mv 44 2, c2 45 16 43 44, mv 42 45, ex 46 0 42, ex 47 1 42, o1 13 (.new 31 z17), sT 17 13 46, mv 14 47] (qR [lG 48 17 7, lG 49 17 9, c2 50 17 48 49, mv 51 50, oT 52 (.mov (.tmp 8)) 51, oT 53 (.call (.func 18) [(.tmp 52)]) 51, oT 54 (.mov (.tmp 10)) 51, oT 55 (.bin .eql 0 (.tmp 53) (.tmp 54)) 51, pF 56 51 55, mv 57 56, oT 58 (.ld (some 17) (.tmp 11)) 57, oT 59 (.ld (some 17) (.tmp 13)) 57, oT 60 (.call (.func 17) [(.tmp 58), (.tmp 59)]) 57, pF 61 57 60, mv 62 61, oT 63 (.mov (.tmp 12)) 62, oT 64 (.call (.func 18) [(.tmp 63)]) 62, oT 65 (.mov (.tmp 14)) 62, oT 66 (.bin .eql 0 (.tmp 64) (.tmp 65)) 62, pF 67 62 66, mv 68 67, oT 69 (.call (.func 12) []) 68, pF 70 68 69, mv 6 70] .ret)))))))⟩
def ir4 : FI := ⟨118, [.tmp 6], (qR [o1 3 (.box 31 (.tmp 0)), o1 6 (.mov kF)] (.seq (qR [lG 19 17 3, c1 20 10 19, nT 21 20] (.cond (.tmp 21) (qR [c0 22 12, mv 6 22] .ret) .skip)) (qR [lG 24 17 3, mv 25 1, mv 26 2, c3 27 19 24 25 26, mv 23 27, ex 28 0 23, ex 29 1 23, o1 7 (.new 50 [zi, zi, zs]), sT 3 7 28, mv 8 29] (qR [lG 31 17 3, mv 32 1, mv 33 2, c3 34 20 31 32 33, mv 30 34, ex 35 0 30, ex 36 1 30, o1 9 (.new 50 [zi, zi, zs]), sT 3 9 35, mv 10 36] (qR [lG 38 17 3, c1 39 21 38, mv 37 39, ex 40 0 37, ex 41 1 37, mv 11 40, mv 12 41] (qR [lG 43 17 3, c1 44 22 43, mv 42 44, ex 45 0 42, ex 46 1 42, mv 13 45, mv 14 46] (qR [lG 48 17 3, c1 49 23 48, mv 47 49, ex 50 0 47, ex 51 1 47, o1 15 (.new 34 z5), sT 5 15 50, mv 16 51] (qR [o1 52 (.bld z5 (.fields [(0, 1), (1, 1), (2, 1), (3, 1), (4, 1)]) []), o1 17 (.new 34 z5), sT 5 17 52, mI 18 0] (.seq (.blk 0 (qR [lG 58 17 3, c1 59 24 58, nT 60 59, mv 57 60] (.cond (.tmp 57) (.reg [mI 18 2]) (qR [fA 62 5 3, lD 63 62, lN 64 false 63, o1 65 (.bin .eql 0 (.tmp 64) (ci 0)), mv 61 65] (.cond (.tmp 61) (.reg [mI 18 9]) (.reg [fA 53 5 3, lD 54 53, o1 55 (.ia 5 (.tmp 54) (ci 0)), lG 56 5 55, sT 5 17 56])))))) (qR [fA 66 0 7, lD 67 66, fA 68 0 9, lD 69 68, bN 70 .eql 0 67 69, mv 71 70, oT 72 (.fa 1 (.tmp 7)) 71, oT 73 (.ld none (.tmp 72)) 71, oT 74 (.fa 1 (.tmp 9)) 71, oT 75 (.ld none (.tmp 74)) 71, oT 76 (.bin .eql 0 (.tmp 73) (.tmp 75)) 71, pF 77 71 76, mv 78 77, oT 79 (.fa 2 (.tmp 7)) 78, oT 80 (.ld none (.tmp 79)) 78, oT 81 (.toStr true (.tmp 80)) 78, oT 82 (.fa 2 (.tmp 9)) 78, oT 83 (.ld none (.tmp 82)) 78, oT 84 (.toStr true (.tmp 83)) 78, oT 85 (.bin .eql 0 (.tmp 81) (.tmp 84)) 78, pF 86 78 85, mv 87 86, oT 88 (.mov (.tmp 8)) 87, oT 89 (.call (.func 18) [(.tmp 88)]) 87, oT 90 (.mov (.tmp 10)) 87, oT 91 (.bin .eql 0 (.tmp 89) (.tmp 90)) 87, pF 92 87 91, mv 93 92, oT 94 (.mov (.tmp 11)) 93, oT 95 (.mov (.tmp 13)) 93, oT 96 (.call (.func 25) [(.tmp 94), (.tmp 95)]) 93, pF 97 93 96, mv 98 97, oT 99 (.mov (.tmp 12)) 98, oT 100 (.call (.func 18) [(.tmp 99)]) 98, oT 101 (.mov (.tmp 14)) 98, oT 102 (.bin .eql 0 (.tmp 100) (.tmp 101)) 98, pF 103 98 102, mv 104 103, oT 105 (.ld (some 5) (.tmp 15)) 104, oT 106 (.ld (some 5) (.tmp 17)) 104, oT 107 (.call (.func 26) [(.tmp 105), (.tmp 106)]) 104, pF 108 104 107, mv 109 108, oT 110 (.mov (.tmp 16)) 109, oT 111 (.call (.func 18) [(.tmp 110)]) 109, oT 112 (.mov (.tmp 18)) 109, oT 113 (.bin .eql 0 (.tmp 111) (.tmp 112)) 109, pF 114 109 113, mv 115 114, oT 116 (.call (.func 12) []) 115, pF 117 115 116, mv 6 117] .ret))))))))))⟩
def ir5 : FI := ⟨45, [.tmp 4], (qR [o1 2 (.box 31 (.tmp 0)), o1 4 (.mov kF)] (.seq (qR [lG 8 17 2, c1 9 10 8, nT 10 9] (.cond (.tmp 10) (qR [c0 11 12, mv 4 11] .ret) .skip)) (qR [lG 12 17 2, c1 13 27 12, o1 5 (.new 31 z17), sT 17 5 13] (.seq (qR [lG 14 17 5, lG 15 17 2, c2 16 17 14 15, nT 17 16] (.cond (.tmp 17) (qR [o1 4 (.mov kF)] .ret) .skip)) (qR [lG 18 17 5, c1 19 28 18, mv 6 19] (qR [fA 20 0 5, lG 21 2 20, o1 22 (.bsl (.prod (.slice .str) .str) 1 2 [zs, ze] [(0, (.tmp 21))]), c1 23 29 22] (qR [fA 24 2 5, lD 25 24, c1 26 29 25] (qR [fA 27 0 2, lG 28 2 27, o1 29 (.bsl (.prod (.slice .str) .str) 1 2 [zs, ze] [(0, (.tmp 28))]), fA 30 2 2, lD 31 30, o1 32 (.app (.prod (.slice .str) .str) 40 (.tmp 29) (.tmp 31)), mv 7 32] (qR [mv 33 6, mv 34 7, mv 35 1, c3 36 30 33 34 35, mv 37 36, oT 38 (.mov (.tmp 6)) 37, oT 39 (.mov (.tmp 7)) 37, oT 40 (.call (.func 30) [(.tmp 38), (.tmp 39), (ci 99)]) 37, pF 41 37 40, mv 42 41, oT 43 (.call (.func 12) []) 42, pF 44 42 43, mv 4 44] .ret)))))))))⟩
theorem fi5 : finfo Tryz.prog 5 = some ir5 := by kernel_rfl
def ir7 : FI := ⟨84, [.tmp 4], (qR [o1 4 (.mov kF)] (.seq (qR [mv 12 0, lN 13 false 12, o1 14 (.bin .gtr 0 (.tmp 13) (ci 6)), mv 15 14, oF 16 (.mov (.tmp 1)) 15, oF 17 (.len false (.tmp 16)) 15, oF 18 (.bin .gtr 0 (.tmp 17) (ci 1000)) 15, pT 19 15 18] (.cond (.tmp 19) (qR [c0 20 12, mv 4 20] .ret) .skip)) (.seq (qR [mI 5 0] (.blk 0 (.loop (.seq (qR [mv 21 5, mv 22 0, lN 23 false 22, bN 24 .lss 0 21 23] (cE 24 0)) (.seq (.blk 1 (qR [mv 27 0, mv 28 5, iA 29 3 27 28, fA 30 1 29, lD 31 30, lN 32 true 31, o1 33 (.bin .gtr 0 (.tmp 32) (ci 300))] (.cond (.tmp 33) (qR [c0 34 12, mv 4 34] .ret) .skip))) (.reg [mv 25 5, aI 26 25, mv 5 26])))))) (qR [mv 36 0, c1 37 32 36, mv 35 37, ex 38 0 35, ex 39 1 35, mv 6 38, mv 7 39] (.seq (qR [mv 40 0, c1 41 33 40, nT 42 41] (.cond (.tmp 42) (qR [mv 43 6, lN 44 false 43, o1 45 (.bin .neq 0 (.tmp 44) (ci 0)), mv 46 45, oF 47 (.mov (.tmp 7)) 46, oF 48 (.call (.func 18) [(.tmp 47)]) 46, oF 49 (.bin .neq 0 (.tmp 48) (ci 2)) 46, pT 50 46 49] (.cond (.tmp 50) (qR [o1 4 (.mov kF)] .ret) .skip)) (.seq (.drw [(true, mv 51 6), (true, tS 52 51), (true, mv 53 0), (false, c1 54 34 53), (true, tS 55 54), (true, bN 56 .neq 0 52 55), (true, mv 57 56), (true, oF 58 (.mov (.tmp 7)) 57), (false, oF 59 (.call (.func 18) [(.tmp 58)]) 57), (true, oF 60 (.bin .neq 0 (.tmp 59) (ci 0)) 57), (true, pT 61 57 60)]) (.cond (.tmp 61) (qR [o1 4 (.mov kF)] .ret) .skip)))) (qR [mv 63 1, c1 64 35 63, mv 62 64, ex 65 0 62, ex 66 1 62, mv 8 65, mv 9 66] (qR [mv 68 1, c1 69 36 68, mv 67 69, ex 70 0 67, ex 71 1 67, mv 10 70, mv 11 71] (qR [mv 72 8, mv 73 10, c2 74 25 72 73, mv 75 74, oT 76 (.mov (.tmp 9)) 75, oT 77 (.call (.func 18) [(.tmp 76)]) 75, oT 78 (.mov (.tmp 11)) 75, oT 79 (.bin .eql 0 (.tmp 77) (.tmp 78)) 75, pF 80 75 79, mv 81 80, oT 82 (.call (.func 12) []) 81, pF 83 81 82, mv 4 83] .ret))))))))⟩
def ir8 : FI := ⟨74, [.tmp 4], (qR [o1 2 (.box 31 (.tmp 0)), o1 4 (.mov kF)] (.seq (qR [lG 11 17 2, c1 12 10 11, nT 13 12, mv 14 13, oF 15 (.mov (.tmp 1)) 14, oF 16 (.len false (.tmp 15)) 14, oF 17 (.bin .gtr 0 (.tmp 16) (ci 3000)) 14, pT 18 14 17] (.cond (.tmp 18) (qR [c0 19 12, mv 4 19] .ret) .skip)) (qR [lG 21 17 2, c1 22 37 21, mv 20 22, ex 23 0 20, ex 24 1 20, mv 5 23, mv 6 24] (.seq (.seq (.drw [(true, lG 25 17 2), (true, lG 27 17 2), (false, c1 26 38 25), (false, c1 28 24 27), (true, bN 29 .neq 3 26 28)]) (.cond (.tmp 29) (qR [o1 4 (.mov kF)] .ret) .skip)) (.seq (qR [lG 30 17 2, c1 31 24 30, nT 32 31] (.cond (.tmp 32) (qR [mv 33 5, lN 34 false 33, o1 35 (.bin .neq 0 (.tmp 34) (ci 0)), mv 36 35, oF 37 (.mov (.tmp 6)) 36, oF 38 (.call (.func 18) [(.tmp 37)]) 36, oF 39 (.bin .neq 0 (.tmp 38) (ci 2)) 36, pT 40 36 39] (.cond (.tmp 40) (qR [o1 4 (.mov kF)] .ret) .skip)) (.seq (.drw [(true, mv 41 5), (true, tS 42 41), (true, lG 43 17 2), (false, c1 44 39 43), (true, tS 45 44), (true, bN 46 .neq 0 42 45), (true, mv 47 46), (true, oF 48 (.mov (.tmp 6)) 47), (false, oF 49 (.call (.func 18) [(.tmp 48)]) 47), (true, oF 50 (.bin .neq 0 (.tmp 49) (ci 0)) 47), (true, pT 51 47 50)]) (.cond (.tmp 51) (qR [o1 4 (.mov kF)] .ret) .skip)))) (qR [mv 53 1, c1 54 40 53, mv 52 54, ex 55 0 52, ex 56 1 52, o1 7 (.new 31 z17), sT 17 7 55, mv 8 56] (qR [mv 58 1, c1 59 41 58, mv 57 59, ex 60 0 57, ex 61 1 57, o1 9 (.new 31 z17), sT 17 9 60, mv 10 61] (qR [lG 62 17 7, lG 63 17 9, c2 64 17 62 63, mv 65 64, oT 66 (.mov (.tmp 8)) 65, oT 67 (.call (.func 18) [(.tmp 66)]) 65, oT 68 (.mov (.tmp 10)) 65, oT 69 (.bin .eql 0 (.tmp 67) (.tmp 68)) 65, pF 70 65 69, mv 71 70, oT 72 (.call (.func 12) []) 71, pF 73 71 72, mv 4 73] .ret))))))))⟩
def ir9 : FI := ⟨184, [.tmp 4], (qR [o1 2 (.box 31 (.tmp 0)), o1 3 (.box 34 (.tmp 1)), o1 4 (.mov kF)] (.seq (qR [lG 26 17 2, c1 27 10 26, nT 28 27, mv 29 28, oF 30 (.ld (some 5) (.tmp 3)) 29, oF 31 (.call (.func 11) [(.tmp 30)]) 29, oF 32 (.un .not (.tmp 31)) 29, pT 33 29 32] (.cond (.tmp 33) (qR [c0 34 12, mv 4 34] .ret) .skip)) (qR [lG 36 17 2, c1 37 37 36, mv 35 37, ex 38 0 35, ex 39 1 35, mv 5 38, mv 6 39] (.seq (qR [mv 40 6, c1 41 18 40, o1 42 (.bin .neq 0 (.tmp 41) (ci 0))] (.cond (.tmp 42) (qR [c0 43 12, mv 4 43] .ret) .skip)) (qR [mv 45 5, c1 46 40 45, mv 44 46, ex 47 0 44, ex 48 1 44, o1 7 (.new 31 z17), sT 17 7 47, mv 8 48] (qR [lG 50 17 2, c1 51 21 50, mv 49 51, ex 52 0 49, ex 53 1 49, mv 9 52, mv 10 53] (qR [mv 55 9, c1 56 32 55, mv 54 56, ex 57 0 54, ex 58 1 54, mv 11 57, mv 12 58] (qR [mv 60 11, c1 61 35 60, mv 59 61, ex 62 0 59, ex 63 1 59, mv 13 62, mv 14 63] (.seq (qR [mv 64 8, c1 65 18 64, mv 66 10, c1 67 18 66, bN 68 .add 0 65 67, mv 69 12, c1 70 18 69, bN 71 .add 0 68 70, mv 72 14, c1 73 18 72, bN 74 .add 0 71 73, o1 75 (.bin .neq 0 (.tmp 74) (ci 0)), mv 76 75, oF 77 (.ld (some 17) (.tmp 7)) 76, oF 78 (.ld (some 17) (.tmp 2)) 76, oF 79 (.call (.func 17) [(.tmp 77), (.tmp 78)]) 76, oF 80 (.un .not (.tmp 79)) 76, pT 81 76 80, mv 82 81, oF 83 (.mov (.tmp 9)) 82, oF 84 (.mov (.tmp 13)) 82, oF 85 (.call (.func 25) [(.tmp 83), (.tmp 84)]) 82, oF 86 (.un .not (.tmp 85)) 82, pT 87 82 86] (.cond (.tmp 87) (qR [o1 4 (.mov kF)] .ret) .skip)) (qR [lG 89 17 2, lG 90 5 3, c2 91 13 89 90, mv 88 91, ex 92 0 88, ex 93 1 88, o1 15 (.new 31 z17), sT 17 15 92, mv 16 93] (.seq (qR [mv 94 16, c1 95 18 94, o1 96 (.bin .neq 0 (.tmp 95) (ci 0))] (.cond (.tmp 96) (qR [c0 97 12, mv 4 97] .ret) .skip)) (qR [lG 99 17 15, c1 100 23 99, mv 98 100, ex 101 0 98, ex 102 1 98, o1 17 (.new 34 z5), sT 5 17 101, mv 18 102] (qR [lG 104 17 15, fA 105 0 3, lD 106 105, c2 107 15 104 106, mv 103 107, ex 108 0 103, ex 109 1 103, o1 19 (.new 31 z17), sT 17 19 108, mv 20 109] (.seq (qR [mv 110 18, c1 111 18 110, mv 112 20, c1 113 18 112, bN 114 .add 0 111 113, o1 115 (.bin .neq 0 (.tmp 114) (ci 0)), mv 116 115, oF 117 (.ld (some 5) (.tmp 17)) 116, oF 118 (.ld (some 5) (.tmp 3)) 116, oF 119 (.call (.func 26) [(.tmp 117), (.tmp 118)]) 116, oF 120 (.un .not (.tmp 119)) 116, pT 121 116 120, mv 122 121, oF 123 (.ld (some 17) (.tmp 19)) 122, oF 124 (.ld (some 17) (.tmp 2)) 122, oF 125 (.call (.func 17) [(.tmp 123), (.tmp 124)]) 122, oF 126 (.un .not (.tmp 125)) 122, pT 127 122 126] (.cond (.tmp 127) (qR [o1 4 (.mov kF)] .ret) .skip)) (.seq (qR [mI 21 0] (.blk 0 (.loop (.seq (qR [mv 128 21, fA 129 5 2, lD 130 129, lN 131 false 130, bN 132 .lss 0 128 131] (cE 132 0)) (.seq (.blk 1 (.seq (.drw [(true, lG 136 17 2), (true, fA 137 5 2), (true, lD 138 137), (true, mv 139 21), (true, iA 140 5 138 139), (true, fA 141 0 140), (true, lD 142 141), (true, o1 143 (.call (.func 19) [(.tmp 136), (.tmp 142), (ci 0)])), (true, mv 135 143), (true, ex 144 0 135), (true, ex 145 1 135), (false, o1 22 (.new 50 [zi, zi, zs])), (false, sT 3 22 144), (true, mv 23 145)]) (.seq (.drw [(true, lG 147 17 15), (true, fA 148 5 2), (true, lD 149 148), (true, mv 150 21), (true, iA 151 5 149 150), (true, fA 152 0 151), (true, lD 153 152), (true, o1 154 (.call (.func 19) [(.tmp 147), (.tmp 153), (ci 0)])), (true, mv 146 154), (true, ex 155 0 146), (true, ex 156 1 146), (false, o1 24 (.new 50 [zi, zi, zs])), (false, sT 3 24 155), (true, mv 25 156)]) (qR [mv 157 23, c1 158 18 157, mv 159 25, c1 160 18 159, bN 161 .add 0 158 160, o1 162 (.bin .neq 0 (.tmp 161) (ci 0)), mv 163 162, oF 164 (.fa 0 (.tmp 22)) 163, oF 165 (.ld none (.tmp 164)) 163, oF 166 (.fa 0 (.tmp 24)) 163, oF 167 (.ld none (.tmp 166)) 163, oF 168 (.bin .neq 0 (.tmp 165) (.tmp 167)) 163, pT 169 163 168, mv 170 169, oF 171 (.fa 2 (.tmp 22)) 170, oF 172 (.ld none (.tmp 171)) 170, oF 173 (.toStr true (.tmp 172)) 170, oF 174 (.fa 2 (.tmp 24)) 170, oF 175 (.ld none (.tmp 174)) 170, oF 176 (.toStr true (.tmp 175)) 170, oF 177 (.bin .neq 0 (.tmp 173) (.tmp 176)) 170, pT 178 170 177] (.cond (.tmp 178) (qR [o1 4 (.mov kF)] .ret) .skip))))) (.reg [mv 133 21, aI 134 133, mv 21 134])))))) (qR [lG 179 17 15, c1 180 38 179, mv 181 180, oT 182 (.call (.func 12) []) 181, pF 183 181 182, mv 4 183] .ret))))))))))))))))⟩
def ir10 : FI := ⟨74, [.tmp 2], (qR [o1 1 (.box 31 (.tmp 0)), o1 2 (.mov kF)] (.seq (qR [fA 5 0 1, lG 6 2 5, o1 7 (.bsl (.prod (.slice .str) .str) 1 2 [zs, ze] [(0, (.tmp 6))]), c1 8 42 7, nT 9 8, mv 10 9, oF 11 (.fa 2 (.tmp 1)) 10, oF 12 (.ld none (.tmp 11)) 10, oF 13 (.call (.func 42) [(.tmp 12)]) 10, oF 14 (.un .not (.tmp 13)) 10, pT 15 10 14, mv 16 15, oF 17 (.fa 14 (.tmp 1)) 16, oF 18 (.ld none (.tmp 17)) 16, oF 19 (.call (.func 42) [(.tmp 18)]) 16, oF 20 (.un .not (.tmp 19)) 16, pT 21 16 20, mv 22 21, oF 23 (.fa 15 (.tmp 1)) 22, oF 24 (.ld none (.tmp 23)) 22, oF 25 (.call (.func 42) [(.tmp 24)]) 22, oF 26 (.un .not (.tmp 25)) 22, pT 27 22 26, mv 28 27, oF 29 (.fa 5 (.tmp 1)) 28, oF 30 (.ld none (.tmp 29)) 28, oF 31 (.len false (.tmp 30)) 28, oF 32 (.bin .gtr 0 (.tmp 31) (ci 20)) 28, pT 33 28 32, mv 34 33, oF 35 (.fa 16 (.tmp 1)) 34, oF 36 (.ld none (.tmp 35)) 34, oF 37 (.len false (.tmp 36)) 34, oF 38 (.bin .gtr 0 (.tmp 37) (ci 20)) 34, pT 39 34 38, mv 40 39, oF 41 (.fa 6 (.tmp 1)) 40, oF 42 (.ld none (.tmp 41)) 40, oF 43 (.len true (.tmp 42)) 40, oF 44 (.bin .gtr 0 (.tmp 43) (ci 300)) 40, pT 45 40 44] (.cond (.tmp 45) (qR [o1 2 (.mov kF)] .ret) .skip)) (.seq (qR [mI 3 0] (.blk 0 (.loop (.seq (qR [mv 46 3, fA 47 5 1, lD 48 47, lN 49 false 48, bN 50 .lss 0 46 49] (cE 50 0)) (.seq (.blk 1 (qR [fA 53 5 1, lD 54 53, mv 55 3, iA 56 5 54 55, lG 57 5 56, c1 58 11 57, nT 59 58] (.cond (.tmp 59) (qR [o1 2 (.mov kF)] .ret) .skip))) (.reg [mv 51 3, aI 52 51, mv 3 52])))))) (.seq (qR [mI 4 0] (.blk 2 (.loop (.seq (qR [mv 60 4, fA 61 16 1, lD 62 61, lN 63 false 62, bN 64 .lss 0 60 63] (cE 64 2)) (.seq (.blk 3 (qR [fA 67 16 1, lD 68 67, mv 69 4, iA 70 1 68 69, lD 71 70, lN 72 false 71, o1 73 (.bin .gtr 0 (.tmp 72) (ci 300))] (.cond (.tmp 73) (qR [o1 2 (.mov kF)] .ret) .skip))) (.reg [mv 65 4, aI 66 65, mv 4 66])))))) (qR [o1 2 (.mov kT)] .ret)))))⟩
theorem fi10 : finfo Tryz.prog 10 = some ir10 := by kernel_rfl
def ir11 : FI := ⟨29, [.tmp 2], (qR [o1 1 (.box 34 (.tmp 0)), o1 2 (.mov kF)] (.seq (qR [mI 3 0] (.blk 0 (.loop (.seq (qR [mv 4 3, fA 5 1 1, lD 6 5, lN 7 false 6, bN 8 .lss 0 4 7] (cE 8 0)) (.seq (.blk 1 (qR [fA 11 1 1, lD 12 11, mv 13 3, iA 14 3 12 13, fA 15 2 14, lD 16 15, lN 17 false 16, o1 18 (.bin .gtr 0 (.tmp 17) (ci 300))] (.cond (.tmp 18) (qR [o1 2 (.mov kF)] .ret) .skip))) (.reg [mv 9 3, aI 10 9, mv 3 10])))))) (qR [fA 19 1 1, lD 20 19, lN 21 false 20, o1 22 (.bin .leq 0 (.tmp 21) (ci 6)), mv 23 22, oT 24 (.fa 2 (.tmp 1)) 23, oT 25 (.ld none (.tmp 24)) 23, oT 26 (.len true (.tmp 25)) 23, oT 27 (.bin .leq 0 (.tmp 26) (ci 300)) 23, pF 28 23 27, mv 2 28] .ret)))⟩
theorem fi11 : finfo Tryz.prog 11 = some ir11 := by kernel_rfl
def ir12 : FI := ⟨135, [.tmp 0], (qR [o1 0 (.mov kF)] (qR [o1 14 (.bsl .str 1 1 [ze] [(0, (.const (.string ⟨#[97]⟩)))]), o1 15 (.bld [zs, ze] (.fields [(0, 1), (1, 1)]) [(0, (.tmp 14)), (1, (.const (.string ⟨#[82]⟩)))]), c0 16 43, o1 17 (.bsl (.prod (.int .i64) (.prod (.slice (.prod (.int .i64) (.prod (.int .i64) (.slice .u8)))) (.prod .str (.prod (.int .i64) (.int .i64))))) 1 5 z5 [(0, (.tmp 16))]), o1 18 (.bld z17 (.fields [(0, 2), (2, 1), (3, 1), (4, 1), (5, 1), (6, 1), (7, 1), (8, 1), (9, 1), (10, 1), (11, 1), (12, 1), (13, 1), (14, 1), (15, 1), (16, 1)]) [(0, (.tmp 15)), (4, (.tmp 17))]), o1 1 (.new 31 z17), sT 17 1 18] (.seq (.drw [(true, lG 20 17 1), (true, c0 21 44), (true, c2 22 13 20 21), (true, mv 19 22), (true, ex 23 0 19), (true, ex 24 1 19), (false, o1 2 (.new 31 z17)), (false, sT 17 2 23), (true, mv 3 24)]) (.seq (.drw [(true, lG 26 17 2), (true, c0 27 43), (true, c2 28 13 26 27), (true, mv 25 28), (true, ex 29 0 25), (true, ex 30 1 25), (false, o1 4 (.new 31 z17)), (false, sT 17 4 29), (true, mv 5 30)]) (qR [lG 32 17 2, o1 33 (.call (.func 15) [(.tmp 32), (ci 2)]), mv 31 33, ex 34 0 31, ex 35 1 31, o1 6 (.new 31 z17), sT 17 6 34, mv 7 35] (.seq (.seq (.drw [(true, mv 36 3), (true, mv 38 7), (false, c1 37 18 36), (false, c1 39 18 38), (true, bN 40 .add 0 37 39), (true, o1 41 (.bin .neq 0 (.tmp 40) (ci 0))), (true, mv 42 41), (true, oF 43 (.mov (.tmp 5)) 42), (false, oF 44 (.call (.func 18) [(.tmp 43)]) 42), (true, oF 45 (.bin .neq 0 (.tmp 44) (ci 11)) 42), (true, pT 46 42 45), (true, mv 47 46), (true, oF 48 (.ld (some 17) (.tmp 6)) 47), (true, oF 49 (.ld (some 17) (.tmp 1)) 47), (false, oF 50 (.call (.func 17) [(.tmp 48), (.tmp 49)]) 47), (true, oF 51 (.un .not (.tmp 50)) 47), (true, pT 52 47 51), (true, mv 53 52), (true, oF 54 (.fa 5 (.tmp 2)) 53), (true, oF 55 (.ld none (.tmp 54)) 53), (true, oF 56 (.len false (.tmp 55)) 53), (true, oF 57 (.bin .neq 0 (.tmp 56) (ci 2)) 53), (true, pT 58 53 57), (true, mv 59 58), (true, oF 60 (.fa 5 (.tmp 2)) 59), (true, oF 61 (.ld none (.tmp 60)) 59), (true, oF 62 (.ia 5 (.tmp 61) (ci 0)) 59), (true, oF 63 (.ld (some 5) (.tmp 62)) 59), (false, oF 64 (.call (.func 44) []) 59), (false, oF 65 (.call (.func 26) [(.tmp 63), (.tmp 64)]) 59), (true, oF 66 (.un .not (.tmp 65)) 59), (true, pT 67 59 66), (true, mv 68 67), (true, oF 69 (.fa 5 (.tmp 2)) 68), (true, oF 70 (.ld none (.tmp 69)) 68), (true, oF 71 (.ia 5 (.tmp 70) (ci 1)) 68), (true, oF 72 (.ld (some 5) (.tmp 71)) 68), (false, oF 73 (.call (.func 43) []) 68), (false, oF 74 (.call (.func 26) [(.tmp 72), (.tmp 73)]) 68), (true, oF 75 (.un .not (.tmp 74)) 68), (true, pT 76 68 75)]) (.cond (.tmp 76) (qR [o1 0 (.mov kF)] .ret) .skip)) (.seq (qR [lG 77 17 2, o1 78 (.call (.func 45) [(.tmp 77), (ci 0), (ci 0), (ci 32), (ci 0)]), nT 79 78, mv 80 79, oF 81 (.ld (some 17) (.tmp 2)) 80, oF 82 (.call (.func 45) [(.tmp 81), (ci 1), (ci 0), (ci 16), (ci 0)]) 80, oF 83 (.un .not (.tmp 82)) 80, pT 84 80 83, mv 85 84, oF 86 (.ld (some 17) (.tmp 2)) 85, oF 87 (.call (.func 45) [(.tmp 86), (ci 1), (ci 2), (ci 0), (ci 9)]) 85, oF 88 (.un .not (.tmp 87)) 85, pT 89 85 88, mv 90 89, oF 91 (.ld (some 17) (.tmp 2)) 90, oF 92 (.call (.func 45) [(.tmp 91), (ci 3), (ci 0), (ci 0), (ci 9)]) 90, oF 93 (.un .not (.tmp 92)) 90, pT 94 90 93] (.cond (.tmp 94) (qR [o1 0 (.mov kF)] .ret) .skip)) (qR [lG 96 17 1, c1 97 37 96, mv 95 97, ex 98 0 95, ex 99 1 95, mv 8 98, mv 9 99] (qR [lG 101 17 1, c1 102 21 101, mv 100 102, ex 103 0 100, ex 104 1 100, mv 10 103, mv 11 104] (qR [mv 106 10, c1 107 32 106, mv 105 107, ex 108 0 105, ex 109 1 105, mv 12 108, mv 13 109] (qR [mv 110 9, c1 111 18 110, mv 112 11, c1 113 18 112, bN 114 .add 0 111 113, mv 115 13, c1 116 18 115, bN 117 .add 0 114 116, o1 118 (.bin .eql 0 (.tmp 117) (ci 0)), mv 119 118, oT 120 (.mov (.tmp 8)) 119, oT 121 (.len false (.tmp 120)) 119, oT 122 (.bin .eql 0 (.tmp 121) (ci 95)) 119, pF 123 119 122, mv 124 123, oT 125 (.mov (.tmp 10)) 124, oT 126 (.bld [zi, ze, zi] (.fields [(0, 1), (1, 1), (2, 1)]) [(0, (ci 1)), (1, (.const (.string ⟨#[82, 97]⟩))), (2, (ci 4))]) 124, oT 127 (.bsl (.prod (.int .i64) (.prod .str (.int .i64))) 1 3 [zi, ze, zi] [(0, (.tmp 126))]) 124, oT 128 (.call (.func 25) [(.tmp 125), (.tmp 127)]) 124, pF 129 124 128, mv 130 129, oT 131 (.mov (.tmp 12)) 130, oT 132 (.toStr true (.tmp 131)) 130, oT 133 (.bin .eql 0 (.tmp 132) (.const (.string ⟨#[48, 18, 48, 16, 160, 3, 2, 1, 1, 161, 4, 27, 2, 82, 97, 162, 3, 2, 1, 4]⟩))) 130, pF 134 130 133, mv 0 134] .ret)))))))))))⟩
theorem fi12 : finfo Tryz.prog 12 = some ir12 := by kernel_rfl
def ir13 : FI := ⟨63, [.cell 4 31, .tmp 5], (qR [o1 2 (.box 31 (.tmp 0)), o1 3 (.box 34 (.tmp 1)), o1 4 (.new 31 z17), mI 5 0] (.seq (qR [lG 7 17 2, c1 8 38 7, nT 9 8] (.cond (.tmp 9) (qR [o1 10 (.bld z17 (.fields [(0, 2), (2, 1), (3, 1), (4, 1), (5, 1), (6, 1), (7, 1), (8, 1), (9, 1), (10, 1), (11, 1), (12, 1), (13, 1), (14, 1), (15, 1), (16, 1)]) []), sT 17 4 10, mI 5 2] .ret) .skip)) (.seq (.seq (.drw [(true, fA 11 5 2), (true, lD 12 11), (true, lN 13 false 12), (true, o1 14 (.bin .gtr 0 (.tmp 13) (ci 0))), (true, mv 15 14), (true, oT 16 (.fa 0 (.tmp 3)) 15), (true, oT 17 (.ld none (.tmp 16)) 15), (true, oT 18 (.fa 5 (.tmp 2)) 15), (true, oT 19 (.ld none (.tmp 18)) 15), (true, oT 20 (.ia 5 (.tmp 19) (ci 0)) 15), (true, oT 21 (.fa 0 (.tmp 20)) 15), (true, oT 22 (.ld none (.tmp 21)) 15), (true, oT 23 (.bin .leq 0 (.tmp 17) (.tmp 22)) 15), (true, pF 24 15 23)]) (.cond (.tmp 24) (qR [o1 25 (.bld z17 (.fields [(0, 2), (2, 1), (3, 1), (4, 1), (5, 1), (6, 1), (7, 1), (8, 1), (9, 1), (10, 1), (11, 1), (12, 1), (13, 1), (14, 1), (15, 1), (16, 1)]) []), sT 17 4 25, mI 5 11] .ret) .skip)) (.seq (.seq (.drw [(true, fA 26 5 2), (true, lD 27 26), (true, lN 28 false 27), (true, o1 29 (.bin .gtr 0 (.tmp 28) (ci 0))), (true, mv 30 29), (true, oT 31 (.fa 4 (.tmp 3)) 30), (true, oT 32 (.ld none (.tmp 31)) 30), (true, oT 33 (.fa 5 (.tmp 2)) 30), (true, oT 34 (.ld none (.tmp 33)) 30), (true, oT 35 (.ia 5 (.tmp 34) (ci 0)) 30), (true, oT 36 (.fa 4 (.tmp 35)) 30), (true, oT 37 (.ld none (.tmp 36)) 30), (true, oT 38 (.bin .lss 0 (.tmp 32) (.tmp 37)) 30), (true, pF 39 30 38), (true, mv 40 39), (true, oF 41 (.ld (some 5) (.tmp 3)) 40), (true, oF 42 (.fa 4 (.tmp 2)) 40), (true, oF 43 (.ld none (.tmp 42)) 40), (false, oF 44 (.call (.func 46) [(.tmp 41), (.tmp 43)]) 40), (true, oF 45 (.un .not (.tmp 44)) 40), (true, pT 46 40 45)]) (.cond (.tmp 46) (qR [o1 47 (.bld z17 (.fields [(0, 2), (2, 1), (3, 1), (4, 1), (5, 1), (6, 1), (7, 1), (8, 1), (9, 1), (10, 1), (11, 1), (12, 1), (13, 1), (14, 1), (15, 1), (16, 1)]) []), sT 17 4 47, mI 5 2] .ret) .skip)) (.seq (qR [fA 48 5 2, lD 49 48, lN 50 false 49, o1 51 (.bin .geq 0 (.tmp 50) (ci 16))] (.cond (.tmp 51) (qR [o1 52 (.bld z17 (.fields [(0, 2), (2, 1), (3, 1), (4, 1), (5, 1), (6, 1), (7, 1), (8, 1), (9, 1), (10, 1), (11, 1), (12, 1), (13, 1), (14, 1), (15, 1), (16, 1)]) []), sT 17 4 52, mI 5 7] .ret) .skip)) (qR [lG 53 17 2, c1 54 27 53, o1 6 (.new 31 z17), sT 17 6 54] (.seq (.drw [(true, lG 55 5 3), (true, fA 58 5 6), (true, lD 59 58), (false, c1 56 47 55), (false, o1 57 (.bsl (.prod (.int .i64) (.prod (.slice (.prod (.int .i64) (.prod (.int .i64) (.slice .u8)))) (.prod .str (.prod (.int .i64) (.int .i64))))) 1 5 z5 [(0, (.tmp 56))])), (false, o1 60 (.app (.prod (.int .i64) (.prod (.slice (.prod (.int .i64) (.prod (.int .i64) (.slice .u8)))) (.prod .str (.prod (.int .i64) (.int .i64))))) 64 (.tmp 57) (.tmp 59))), (true, fA 61 5 6), (false, sT 1 61 60)]) (qR [lG 62 17 6, sT 17 4 62, mI 5 0] .ret))))))))⟩
theorem fi13 : finfo Tryz.prog 13 = some ir13 := by kernel_rfl
def ir14 : FI := ⟨59, [.cell 4 31, .tmp 5], (qR [o1 2 (.box 31 (.tmp 0)), o1 3 (.box 34 (.tmp 1)), o1 4 (.new 31 z17), mI 5 0] (.seq (qR [lG 6 17 2, c1 7 24 6, nT 8 7] (.cond (.tmp 8) (qR [o1 9 (.bld z17 (.fields [(0, 2), (2, 1), (3, 1), (4, 1), (5, 1), (6, 1), (7, 1), (8, 1), (9, 1), (10, 1), (11, 1), (12, 1), (13, 1), (14, 1), (15, 1), (16, 1)]) []), sT 17 4 9, mI 5 2] .ret) .skip)) (.seq (.seq (.drw [(true, fA 10 5 2), (true, lD 11 10), (true, lN 12 false 11), (true, o1 13 (.bin .gtr 0 (.tmp 12) (ci 0))), (true, mv 14 13), (true, oT 15 (.fa 0 (.tmp 3)) 14), (true, oT 16 (.ld none (.tmp 15)) 14), (true, oT 17 (.fa 5 (.tmp 2)) 14), (true, oT 18 (.ld none (.tmp 17)) 14), (true, oT 19 (.ia 5 (.tmp 18) (ci 0)) 14), (true, oT 20 (.fa 0 (.tmp 19)) 14), (true, oT 21 (.ld none (.tmp 20)) 14), (true, oT 22 (.bin .leq 0 (.tmp 16) (.tmp 21)) 14), (true, pF 23 14 22)]) (.cond (.tmp 23) (qR [o1 24 (.bld z17 (.fields [(0, 2), (2, 1), (3, 1), (4, 1), (5, 1), (6, 1), (7, 1), (8, 1), (9, 1), (10, 1), (11, 1), (12, 1), (13, 1), (14, 1), (15, 1), (16, 1)]) []), sT 17 4 24, mI 5 11] .ret) .skip)) (.seq (.seq (.drw [(true, lG 25 5 3), (true, fA 26 4 2), (true, lD 27 26), (false, c2 28 48 25 27), (true, nT 29 28), (true, mv 30 29), (true, oF 31 (.fa 5 (.tmp 2)) 30), (true, oF 32 (.ld none (.tmp 31)) 30), (true, oF 33 (.len false (.tmp 32)) 30), (true, oF 34 (.bin .gtr 0 (.tmp 33) (ci 0)) 30), (true, oF 35 (.mov (.tmp 34)) 30), (true, oT 36 (.fa 4 (.tmp 3)) 35), (true, oT 37 (.ld none (.tmp 36)) 35), (true, oT 38 (.fa 5 (.tmp 2)) 35), (true, oT 39 (.ld none (.tmp 38)) 35), (true, oT 40 (.ia 5 (.tmp 39) (ci 0)) 35), (true, oT 41 (.fa 4 (.tmp 40)) 35), (true, oT 42 (.ld none (.tmp 41)) 35), (true, oT 43 (.bin .lss 0 (.tmp 37) (.tmp 42)) 35), (true, oF 44 (.pick (.tmp 35) (.tmp 43) kF) 30), (true, pT 45 30 44)]) (.cond (.tmp 45) (qR [o1 46 (.bld z17 (.fields [(0, 2), (2, 1), (3, 1), (4, 1), (5, 1), (6, 1), (7, 1), (8, 1), (9, 1), (10, 1), (11, 1), (12, 1), (13, 1), (14, 1), (15, 1), (16, 1)]) []), sT 17 4 46, mI 5 2] .ret) .skip)) (.seq (qR [fA 47 5 2, lD 48 47, lN 49 false 48, o1 50 (.bin .eql 0 (.tmp 49) (ci 16))] (.cond (.tmp 50) (qR [o1 51 (.bld z17 (.fields [(0, 2), (2, 1), (3, 1), (4, 1), (5, 1), (6, 1), (7, 1), (8, 1), (9, 1), (10, 1), (11, 1), (12, 1), (13, 1), (14, 1), (15, 1), (16, 1)]) []), sT 17 4 51, mI 5 7] .ret) .skip)) (qR [lG 52 5 3, o1 53 (.bsl (.prod (.int .i64) (.prod (.slice (.prod (.int .i64) (.prod (.int .i64) (.slice .u8)))) (.prod .str (.prod (.int .i64) (.int .i64))))) 1 5 z5 [(0, (.tmp 52))]), fA 54 5 2, lD 55 54, o1 56 (.app (.prod (.int .i64) (.prod (.slice (.prod (.int .i64) (.prod (.int .i64) (.slice .u8)))) (.prod .str (.prod (.int .i64) (.int .i64))))) 64 (.tmp 53) (.tmp 55)), fA 57 5 2, sT 1 57 56] (qR [lG 58 17 2, sT 17 4 58, mI 5 0] .ret)))))))⟩
def ir15 : FI := ⟨33, [.cell 4 31, .tmp 5], (qR [o1 2 (.box 31 (.tmp 0)), o1 4 (.new 31 z17), mI 5 0] (.seq (qR [lG 8 17 2, c1 9 38 8, nT 10 9] (.cond (.tmp 10) (qR [o1 11 (.bld z17 (.fields [(0, 2), (2, 1), (3, 1), (4, 1), (5, 1), (6, 1), (7, 1), (8, 1), (9, 1), (10, 1), (11, 1), (12, 1), (13, 1), (14, 1), (15, 1), (16, 1)]) []), sT 17 4 11, mI 5 2] .ret) .skip)) (qR [lG 12 17 2, mv 13 1, c2 14 49 12 13, mv 6 14] (.seq (qR [mv 15 6, o1 16 (.bin .lss 0 (.tmp 15) (ci 0))] (.cond (.tmp 16) (qR [o1 17 (.bld z17 (.fields [(0, 2), (2, 1), (3, 1), (4, 1), (5, 1), (6, 1), (7, 1), (8, 1), (9, 1), (10, 1), (11, 1), (12, 1), (13, 1), (14, 1), (15, 1), (16, 1)]) []), sT 17 4 17, mI 5 9] .ret) .skip)) (qR [lG 18 17 2, c1 19 27 18, o1 7 (.new 31 z17), sT 17 7 19] (.seq (.drw [(true, fA 20 5 7), (true, lD 21 20), (true, mv 22 6), (true, mv 23 6), (true, o1 24 (.sl3 5 false (.tmp 21) none (.tmp 22) (.tmp 23))), (true, fA 25 5 7), (true, lD 26 25), (true, mv 27 6), (true, aI 28 27), (true, o1 29 (.sl (some 5) (.tmp 26) (some (.tmp 28)) none)), (false, o1 30 (.app (.prod (.int .i64) (.prod (.slice (.prod (.int .i64) (.prod (.int .i64) (.slice .u8)))) (.prod .str (.prod (.int .i64) (.int .i64))))) 64 (.tmp 24) (.tmp 29))), (true, fA 31 5 7), (false, sT 1 31 30)]) (qR [lG 32 17 7, sT 17 4 32, mI 5 0] .ret)))))))⟩
theorem fi15 : finfo Tryz.prog 15 = some ir15 := by kernel_rfl
def ir16 : FI := ⟨45, [.cell 4 31, .tmp 5], (qR [o1 2 (.box 31 (.tmp 0)), o1 4 (.new 31 z17), mI 5 0] (.seq (qR [lG 8 17 2, c1 9 24 8, nT 10 9] (.cond (.tmp 10) (qR [o1 11 (.bld z17 (.fields [(0, 2), (2, 1), (3, 1), (4, 1), (5, 1), (6, 1), (7, 1), (8, 1), (9, 1), (10, 1), (11, 1), (12, 1), (13, 1), (14, 1), (15, 1), (16, 1)]) []), sT 17 4 11, mI 5 2] .ret) .skip)) (qR [o1 6 (.mov kS)] (.seq (qR [mI 7 0] (.blk 0 (.loop (.seq (qR [mv 12 7, fA 13 5 2, lD 14 13, lN 15 false 14, bN 16 .lss 0 12 15] (cE 16 0)) (.seq (.blk 1 (qR [fA 19 5 2, lD 20 19, mv 21 7, iA 22 5 20 21, fA 23 0 22, lD 24 23, mv 25 1, bN 26 .neq 0 24 25] (.cond (.tmp 26) (.reg [mv 27 6, fA 28 5 2, lD 29 28, mv 30 7, iA 31 5 29 30, lG 32 5 31, o1 33 (.bsl (.prod (.int .i64) (.prod (.slice (.prod (.int .i64) (.prod (.int .i64) (.slice .u8)))) (.prod .str (.prod (.int .i64) (.int .i64))))) 1 5 z5 [(0, (.tmp 32))]), o1 34 (.app (.prod (.int .i64) (.prod (.slice (.prod (.int .i64) (.prod (.int .i64) (.slice .u8)))) (.prod .str (.prod (.int .i64) (.int .i64))))) 64 (.tmp 27) (.tmp 33)), mv 6 34]) .skip))) (.reg [mv 17 7, aI 18 17, mv 7 18])))))) (.seq (qR [mv 35 6, lN 36 false 35, fA 37 5 2, lD 38 37, lN 39 false 38, bN 40 .eql 0 36 39] (.cond (.tmp 40) (qR [o1 41 (.bld z17 (.fields [(0, 2), (2, 1), (3, 1), (4, 1), (5, 1), (6, 1), (7, 1), (8, 1), (9, 1), (10, 1), (11, 1), (12, 1), (13, 1), (14, 1), (15, 1), (16, 1)]) []), sT 17 4 41, mI 5 9] .ret) .skip)) (qR [mv 42 6, fA 43 5 2, sT 1 43 42] (qR [lG 44 17 2, sT 17 4 44, mI 5 0] .ret)))))))⟩
def ir17 : FI := ⟨156, [.tmp 4], (qR [o1 2 (.box 31 (.tmp 0)), o1 3 (.box 31 (.tmp 1)), o1 4 (.mov kF)] (.seq (qR [fA 7 5 2, lD 8 7, lN 9 false 8, fA 10 5 3, lD 11 10, lN 12 false 11, bN 13 .neq 0 9 12, mv 14 13, oF 15 (.fa 16 (.tmp 2)) 14, oF 16 (.ld none (.tmp 15)) 14, oF 17 (.len false (.tmp 16)) 14, oF 18 (.fa 16 (.tmp 3)) 14, oF 19 (.ld none (.tmp 18)) 14, oF 20 (.len false (.tmp 19)) 14, oF 21 (.bin .neq 0 (.tmp 17) (.tmp 20)) 14, pT 22 14 21] (.cond (.tmp 22) (qR [o1 4 (.mov kF)] .ret) .skip)) (.seq (qR [mI 5 0] (.blk 0 (.loop (.seq (qR [mv 23 5, fA 24 5 2, lD 25 24, lN 26 false 25, bN 27 .lss 0 23 26] (cE 27 0)) (.seq (.blk 1 (.seq (.drw [(true, fA 30 5 2), (true, lD 31 30), (true, mv 32 5), (true, iA 33 5 31 32), (true, lG 34 5 33), (true, fA 35 5 3), (true, lD 36 35), (true, mv 37 5), (true, iA 38 5 36 37), (true, lG 39 5 38), (false, c2 40 26 34 39), (true, nT 41 40)]) (.cond (.tmp 41) (qR [o1 4 (.mov kF)] .ret) .skip))) (.reg [mv 28 5, aI 29 28, mv 5 29])))))) (.seq (qR [mI 6 0] (.blk 2 (.loop (.seq (qR [mv 42 6, fA 43 16 2, lD 44 43, lN 45 false 44, bN 46 .lss 0 42 45] (cE 46 2)) (.seq (.blk 3 (.seq (.drw [(true, fA 49 16 2), (true, lD 50 49), (true, mv 51 6), (true, iA 52 1 50 51), (true, lD 53 52), (true, tS 54 53), (true, fA 55 16 3), (true, lD 56 55), (true, mv 57 6), (true, iA 58 1 56 57), (true, lD 59 58), (true, tS 60 59), (true, bN 61 .neq 0 54 60)]) (.cond (.tmp 61) (qR [o1 4 (.mov kF)] .ret) .skip))) (.reg [mv 47 6, aI 48 47, mv 6 48])))))) (.seq (qR [fA 62 3 2, lD 63 62, fA 64 3 3, lD 65 64, bN 66 .neq 0 63 65, mv 67 66, oF 68 (.fa 4 (.tmp 2)) 67, oF 69 (.ld none (.tmp 68)) 67, oF 70 (.fa 4 (.tmp 3)) 67, oF 71 (.ld none (.tmp 70)) 67, oF 72 (.bin .neq 0 (.tmp 69) (.tmp 71)) 67, pT 73 67 72, mv 74 73, oF 75 (.fa 6 (.tmp 2)) 74, oF 76 (.ld none (.tmp 75)) 74, oF 77 (.fa 6 (.tmp 3)) 74, oF 78 (.ld none (.tmp 77)) 74, oF 79 (.bin .neq 0 (.tmp 76) (.tmp 78)) 74, pT 80 74 79, mv 81 80, oF 82 (.fa 7 (.tmp 2)) 81, oF 83 (.ld none (.tmp 82)) 81, oF 84 (.fa 7 (.tmp 3)) 81, oF 85 (.ld none (.tmp 84)) 81, oF 86 (.bin .neq 0 (.tmp 83) (.tmp 85)) 81, pT 87 81 86, mv 88 87, oF 89 (.fa 8 (.tmp 2)) 88, oF 90 (.ld none (.tmp 89)) 88, oF 91 (.fa 8 (.tmp 3)) 88, oF 92 (.ld none (.tmp 91)) 88, oF 93 (.bin .neq 0 (.tmp 90) (.tmp 92)) 88, pT 94 88 93, mv 95 94, oF 96 (.fa 9 (.tmp 2)) 95, oF 97 (.ld none (.tmp 96)) 95, oF 98 (.fa 9 (.tmp 3)) 95, oF 99 (.ld none (.tmp 98)) 95, oF 100 (.bin .neq 0 (.tmp 97) (.tmp 99)) 95, pT 101 95 100, mv 102 101, oF 103 (.fa 10 (.tmp 2)) 102, oF 104 (.ld none (.tmp 103)) 102, oF 105 (.fa 10 (.tmp 3)) 102, oF 106 (.ld none (.tmp 105)) 102, oF 107 (.bin .neq 0 (.tmp 104) (.tmp 106)) 102, pT 108 102 107] (.cond (.tmp 108) (qR [o1 4 (.mov kF)] .ret) .skip)) (qR [fA 109 0 2, lG 110 2 109, fA 111 0 3, lG 112 2 111, c2 113 50 110 112, mv 114 113, oT 115 (.fa 2 (.tmp 2)) 114, oT 116 (.ld none (.tmp 115)) 114, oT 117 (.fa 2 (.tmp 3)) 114, oT 118 (.ld none (.tmp 117)) 114, oT 119 (.call (.func 51) [(.tmp 116), (.tmp 118)]) 114, pF 120 114 119, mv 121 120, oT 122 (.fa 11 (.tmp 2)) 121, oT 123 (.ld none (.tmp 122)) 121, oT 124 (.fa 11 (.tmp 3)) 121, oT 125 (.ld none (.tmp 124)) 121, oT 126 (.bin .eql 0 (.tmp 123) (.tmp 125)) 121, pF 127 121 126, mv 128 127, oT 129 (.fa 12 (.tmp 2)) 128, oT 130 (.ld none (.tmp 129)) 128, oT 131 (.fa 12 (.tmp 3)) 128, oT 132 (.ld none (.tmp 131)) 128, oT 133 (.bin .eql 0 (.tmp 130) (.tmp 132)) 128, pF 134 128 133, mv 135 134, oT 136 (.fa 13 (.tmp 2)) 135, oT 137 (.ld none (.tmp 136)) 135, oT 138 (.fa 13 (.tmp 3)) 135, oT 139 (.ld none (.tmp 138)) 135, oT 140 (.bin .eql 0 (.tmp 137) (.tmp 139)) 135, pF 141 135 140, mv 142 141, oT 143 (.fa 14 (.tmp 2)) 142, oT 144 (.ld none (.tmp 143)) 142, oT 145 (.fa 14 (.tmp 3)) 142, oT 146 (.ld none (.tmp 145)) 142, oT 147 (.call (.func 51) [(.tmp 144), (.tmp 146)]) 142, pF 148 142 147, mv 149 148, oT 150 (.fa 15 (.tmp 2)) 149, oT 151 (.ld none (.tmp 150)) 149, oT 152 (.fa 15 (.tmp 3)) 149, oT 153 (.ld none (.tmp 152)) 149, oT 154 (.call (.func 51) [(.tmp 151), (.tmp 153)]) 149, pF 155 149 154, mv 4 155] .ret))))))⟩
theorem fi17 : finfo Tryz.prog 17 = some ir17 := by kernel_rfl
def ir18 : FI := ⟨4, [.tmp 2], (qR [mI 2 0] (qR [mv 3 0, mv 2 3] .ret))⟩
theorem fi18 : finfo Tryz.prog 18 = some ir18 := by kernel_rfl
attribute [go_sem] ir3 ir4 ir5 ir7 ir8 ir9 ir10 ir11 ir12 ir13 ir14 ir15 ir16 ir17 ir18
end Go.Proofs.YtddmkgibghohkaaGreatDoor
