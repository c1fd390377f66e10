/- A part of the proof: a symbolic executor over abstract values, and its soundness. -/
import Derived.Test.YtddmkgibghohkaaGreatDoorP8
set_option linter.unusedSimpArgs false
set_option linter.unusedVariables false
namespace Go.Sx
open Go

variable {P : Program} {AQ : Ex → List SV → List SObj → Prop} {k0 : Nat} {k : List IT} {t : List SV} {H : List SObj}

def sig : List Nat → Nat → Nat → Nat
 | [], N, h => N + h
 | x :: _, _, 0 => x
 | _ :: l, N, h + 1 => sig l N h
def mgA (σ : Nat → Nat) : List Nat → List SObj → List SObj → List SObj
 | [], l, H => H ++ l.map (SObj.ren σ)
 | x :: r, o :: l, H => mgA σ r l (H.set x (o.ren σ))
 | _ :: _, [], H => H
def Out.ren (σ : Nat → Nat) : Out → Out
 | .ret s => .ret (s.ren σ)
 | .pan s => .pan (s.ren σ)
def atH (σ : Nat → Nat) (H : List SObj) : List Nat → List SObj → Prop
 | [], [] => True
 | x :: r, o :: l => H[x]? = some (o.ren σ) ∧ o.live = true ∧ atH σ H r l
 | _, _ => False

theorem atH_len {σ : Nat → Nat} : ∀ {r : List Nat} {l : List SObj}, atH σ H r l → r.length = l.length
 | [], [], _ => rfl
 | _ :: r, _ :: l, h => by simp [atH_len h.2.2]
 | [], _ :: _, h => h.elim
 | _ :: _, [], h => h.elim
theorem atH_get {σ : Nat → Nat} {N : Nat} : ∀ {r : List Nat} {l : List SObj} {h : Nat} {o : SObj}, atH σ H r l → l[h]? = some o → H[sig r N h]? = some (o.ren σ) ∧ o.live = true ∧ sig r N h ∈ r
 | [], [], _, _, _, hi => by simp at hi
 | x :: r, o' :: l, 0, o, ha, hi => by simp at hi; subst hi; exact ⟨ha.1, ha.2.1, by simp [sig]⟩
 | x :: r, o' :: l, h + 1, o, ha, hi => by
  simp at hi
  obtain ⟨g1, g2, g3⟩ := atH_get (N := N) ha.2.2 hi
  exact ⟨g1, g2, by simp only [sig]; exact List.mem_cons_of_mem _ g3⟩
 | [], _ :: _, _, _, h, _ => h.elim
 | _ :: _, [], _, _, h, _ => h.elim
theorem sig_inj : ∀ {r : List Nat} {N h h' : Nat}, r.Nodup → h < r.length → h' < r.length → sig r N h = sig r N h' → h = h'
 | x :: r, N, 0, 0, _, _, _, _ => rfl
 | x :: r, N, 0, h' + 1, hn, _, hl, he => by
  simp only [sig] at he
  have : sig r N h' ∈ r := sig_in (by simpa using hl)
  rw [← he] at this
  exact absurd this (List.nodup_cons.1 hn).1
 | x :: r, N, h + 1, 0, hn, hl, _, he => by
  simp only [sig] at he
  have : sig r N h ∈ r := sig_in (by simpa using hl)
  rw [he] at this
  exact absurd this (List.nodup_cons.1 hn).1
 | x :: r, N, h + 1, h' + 1, hn, hl, hl', he => by
  simp only [sig] at he
  rw [sig_inj (List.nodup_cons.1 hn).2 (by simpa using hl) (by simpa using hl') he]
 | [], _, _, _, _, hl, _, _ => by simp at hl
where sig_in : ∀ {r : List Nat} {N h : Nat}, h < r.length → sig r N h ∈ r
 | x :: r, N, 0, _ => by simp [sig]
 | x :: r, N, h + 1, hl => by simp only [sig]; exact List.mem_cons_of_mem _ (sig_in (by simpa using hl))
 | [], _, _, hl => by simp at hl
theorem sig_out : ∀ {r : List Nat} {N h : Nat}, r.length ≤ h → sig r N h = N + (h - r.length)
 | [], N, h, _ => by simp [sig]
 | x :: r, N, h + 1, hl => by simp only [sig]; rw [sig_out (by simpa using hl)]; simp
 | x :: r, N, 0, hl => by simp at hl

theorem mgA_len {σ : Nat → Nat} : ∀ {r : List Nat} {l H : List SObj}, r.length ≤ l.length → (mgA σ r l H).length = H.length + (l.length - r.length)
 | [], l, H, _ => by simp [mgA]
 | x :: r, o :: l, H, h => by rw [mgA, mgA_len (by simpa using h)]; simp
 | _ :: _, [], _, h => by simp at h
theorem mgA_get {σ : Nat → Nat} : ∀ {r : List Nat} {l H : List SObj} {i : Nat} {o : SObj}, r.length ≤ l.length → (mgA σ r l H)[i]? = some o →
 (∃ k oo, l[k]? = some oo ∧ o = oo.ren σ ∧ i = sig r H.length k) ∨ (i ∉ r ∧ H[i]? = some o)
 | [], l, H, i, o, _, h => by
  rw [mgA] at h
  rcases Nat.lt_or_ge i H.length with hl | hl
  · rw [List.getElem?_append_left hl] at h; exact .inr ⟨by simp, h⟩
  · rw [List.getElem?_append_right hl, List.getElem?_map] at h
    cases hk : l[i - H.length]? with
    | none => rw [hk] at h; cases h
    | some oo => rw [hk] at h; cases h; exact .inl ⟨_, oo, hk, rfl, by simp only [sig]; omega⟩
 | x :: r, o' :: l, H, i, o, hl, h => by
  rw [mgA] at h
  rcases mgA_get (by simpa using hl) h with ⟨k, oo, h1, h2, h3⟩ | ⟨h1, h2⟩
  · exact .inl ⟨k + 1, oo, by simpa using h1, h2, by simp only [sig]; rw [h3]; simp⟩
  · by_cases e : i = x
    · subst e
      rcases Nat.lt_or_ge i H.length with hi | hi
      · rw [List.getElem?_set_self hi] at h2
        cases h2
        exact .inl ⟨0, o', rfl, rfl, rfl⟩
      · rw [List.getElem?_eq_none (by simpa using hi)] at h2; cases h2
    · rw [List.getElem?_set_ne (Ne.symm e)] at h2
      exact .inr ⟨by simp [e, h1], h2⟩
 | _ :: _, [], _, _, _, hl, _ => by simp at hl

/- Values that are carried to another context. -/
mutual
theorem ren_up {C D : Cx} {σ : Nat → Nat} (hρ : ∀ h, h < C.n → D.ρ (σ h) = C.ρ h ∧ σ h < D.n) (hI : D.I = C.I) (hW : D.w = C.w) : ∀ {s : SV} {v : Value}, s.den C v → (s.ren σ).den D v
 | .any, _, _ => by rw [SV.ren, SV.den]; trivial
 | .raw _, _, d => by rw [SV.den] at d; rw [SV.ren, SV.den]; exact d
 | .isl _ _, _, d => by rw [SV.den] at d; rw [SV.ren, SV.den, hI, hW]; exact d
 | .fsl _ _, _, d => by rw [SV.den] at d; rw [SV.ren, SV.den, hI, hW]; exact d
 | .iptr _ _ _, _, d => by rw [SV.den] at d; rw [SV.ren, SV.den, hI, hW]; exact d
 | .ptr h off, _, d => by rw [SV.den] at d; rw [SV.ren, SV.den, (hρ h d.1).1]; exact ⟨(hρ h d.1).2, d.2⟩
 | .rptr h t i k, _, d => by rw [SV.den] at d; rw [SV.ren, SV.den, (hρ h d.1).1]; exact ⟨(hρ h d.1).2, d.2⟩
 | .bld h t m, _, d => by rw [SV.den] at d; rw [SV.ren, SV.den, (hρ h d.1).1, hW]; exact ⟨(hρ h d.1).2, d.2⟩
 | .osl h t off m, _, d => by rw [SV.den] at d; rw [SV.ren, SV.den, (hρ h d.1).1]; exact ⟨(hρ h d.1).2, d.2⟩
 | .csl h off m, _, d => by rw [SV.den] at d; rw [SV.ren, SV.den, (hρ h d.1).1]; exact ⟨(hρ h d.1).2, d.2⟩
 | .mp h, _, d => by rw [SV.den] at d; rw [SV.ren, SV.den, (hρ h d.1).1]; exact ⟨(hρ h d.1).2, d.2⟩
 | .imap .., _, d => by rw [SV.den] at d; rw [SV.ren, SV.den, hI, hW]; exact d
 | .agg l, _, d => by
  rw [SV.den] at d; rw [SV.ren, SV.den]
  obtain ⟨vs, hv, hl⟩ := d
  exact ⟨vs, hv, renL_up hρ hI hW hl⟩
 | .tup l, _, d => by
  rw [SV.den] at d; rw [SV.ren, SV.den]
  obtain ⟨vs, hv, hl⟩ := d
  exact ⟨vs, hv, renL_up hρ hI hW hl⟩
 | .fn f a b, _, d => by
  rw [SV.den] at d; rw [SV.ren, SV.den]
  obtain ⟨v1, v2, hv, h1, h2⟩ := d
  exact ⟨v1, v2, hv, renL_up hρ hI hW h1, renL_up hρ hI hW h2⟩
 | .iface T x, _, d => by
  rw [SV.den] at d; rw [SV.ren, SV.den]
  obtain ⟨u, hv, h1⟩ := d
  exact ⟨u, hv, ren_up hρ hI hW h1⟩
theorem renL_up {C D : Cx} {σ : Nat → Nat} (hρ : ∀ h, h < C.n → D.ρ (σ h) = C.ρ h ∧ σ h < D.n) (hI : D.I = C.I) (hW : D.w = C.w) : ∀ {l : List SV} {vs : List Value}, SV.denL C l vs → SV.denL D (SV.renL σ l) vs
 | [], _, d => by rw [SV.denL] at d; rw [SV.renL, SV.denL]; exact d
 | s :: l, _, d => by
  rw [SV.denL] at d; rw [SV.renL, SV.denL]
  obtain ⟨v, us, rfl, h1, h2⟩ := d
  exact ⟨v, us, rfl, ren_up hρ hI hW h1, renL_up hρ hI hW h2⟩
end
theorem objUp {C D : Cx} {σ : Nat → Nat} {h : Nat} (hρ : ∀ h, h < C.n → D.ρ (σ h) = C.ρ h ∧ σ h < D.n) (hI : D.I = C.I) (hW : D.w = C.w) (hh : h < C.n) : ∀ {o : SObj}, objDen C h o → objDen D (σ h) (o.ren σ)
 | .dead, _ => trivial
 | .cells T cs, ⟨b, vs, h1, h2, h3⟩ => ⟨b, vs, (hρ h hh).1.trans h1, by rw [hW]; exact h2, renL_up hρ hI hW h3⟩
 | .row t xs, d => by simp only [SObj.ren, objDen] at d ⊢; rw [(hρ h hh).1, hI, hW]; exact d
 | .map kk ks vs, d => by simp only [SObj.ren, objDen] at d ⊢; rw [(hρ h hh).1, hW]; exact d

theorem VCall.fr {f : FuncId} {args : List SV} {H0 : List SObj} {K0 K : Out → List SObj → Prop} (hs : List Nat) (hnd : hs.Nodup) (ha : atH (sig hs H.length) H hs H0) (hb : SV.belL H0.length args = true) (hbh : belH H0.length H0 = true)
 (hc : VCall P f args H0 K0) (hk : ∀ o H', H0.length ≤ H'.length → K0 o H' → K (o.ren (sig hs H.length)) (mgA (sig hs H.length) hs H' H)) :
 VCall P f (SV.renL (sig hs H.length) args) H K := by
 intro C vs hw hv
 have hlen := atH_len ha
 generalize hσ : sig hs H.length = σ at *
 have hget : ∀ {h o}, H0[h]? = some o → H[σ h]? = some (o.ren σ) ∧ o.live = true ∧ σ h ∈ hs := fun hh => by
  have := atH_get (N := H.length) ha hh; rw [hσ] at this; exact this
 let C0 : Cx := C.ren σ H0.length
 have hown0 : ∀ b, OwnB C0 H0 b → ∃ h, h < H0.length ∧ C.ρ (σ h) = some b ∧ OwnB C H b := by
  rintro b ⟨i, o, ho, hl, hbb⟩
  exact ⟨i, (List.getElem?_eq_some_iff.1 ho).1, hbb, σ i, _, (hget ho).1, by rw [ren_live]; exact hl, hbb⟩
 have hw0 : Wd C0 H0 := by
  refine ⟨rfl, fun i o ho => objRen (belH_get hbh ho) (hw.obj _ _ (hget ho).1), fun b hb' => ?_, fun i j o o' b ho ho' hl hl' hb1 hb2 => ?_, hw.imm⟩
  · obtain ⟨_, _, _, h1⟩ := hown0 b hb'
    exact hw.own b h1
  · have e := hw.inj (σ i) (σ j) _ _ b (hget ho).1 (hget ho').1 (by rw [ren_live]; exact hl) (by rw [ren_live]; exact hl') hb1 hb2
    rw [← hσ] at e
    exact sig_inj hnd (by rw [hlen]; exact (List.getElem?_eq_some_iff.1 ho).1) (by rw [hlen]; exact (List.getElem?_eq_some_iff.1 ho').1) e
 refine (hc C0 vs hw0 (renL_den hb hv)).mono ?_
 rintro e w' ⟨o, H', C', hK, rfl, hw', hx, hd⟩
 have hn : H0.length ≤ H'.length := by have := hx.evo.n; rw [hw'.n] at this; exact this
 have hsl : hs.length ≤ H'.length := by omega
 let D : Cx := { ρ := fun i => if i < H.length then C.ρ i else C'.ρ (H0.length + (i - H.length)), n := H.length + (H'.length - H0.length), I := C'.I, w := C'.w }
 have hlt : ∀ h, h < H0.length → σ h < H.length := fun h hh => (List.getElem?_eq_some_iff.1 (hget (List.getElem?_eq_getElem hh)).1).1
 have hout : ∀ h, H0.length ≤ h → σ h = H.length + (h - H0.length) := fun h hh => by rw [← hσ, sig_out (by omega), hlen]
 have hρ : ∀ h, h < C'.n → D.ρ (σ h) = C'.ρ h ∧ σ h < D.n := by
  intro h hh
  rw [hw'.n] at hh
  rcases Nat.lt_or_ge h H0.length with h1 | h1
  · have := hlt h h1
    refine ⟨?_, by show σ h < H.length + (H'.length - H0.length); omega⟩
    show (if σ h < H.length then C.ρ (σ h) else _) = _
    rw [if_pos this]; exact (hx.evo.ρ h h1).symm
  · have := hout h h1
    refine ⟨?_, by show σ h < H.length + (H'.length - H0.length); omega⟩
    show (if σ h < H.length then C.ρ (σ h) else C'.ρ (H0.length + (σ h - H.length))) = _
    rw [if_neg (by omega)]; congr 1; omega
 have hevo : Evo C D := ⟨by rw [hw.n]; exact Nat.le_add_right _ _, fun x hxl => by
  show (if x < H.length then C.ρ x else _) = _
  rw [if_pos (by rw [hw.n] at hxl; exact hxl)], hx.evo.I, hx.evo.sz⟩
 have hgetM : ∀ {i oo}, (mgA σ hs H' H)[i]? = some oo → (∃ h o', H'[h]? = some o' ∧ oo = o'.ren σ ∧ i = σ h) ∨ (i ∉ hs ∧ H[i]? = some oo) := fun hh => by
  rcases mgA_get hsl hh with ⟨k, o', g1, g2, g3⟩ | g
  · rw [hσ] at g3; exact .inl ⟨k, o', g1, g2, g3⟩
  · exact .inr g
 have hfar : ∀ i oo b, i ∉ hs → H[i]? = some oo → oo.live = true → C.ρ i = some b → ¬ OwnB C0 H0 b := by
  rintro i oo b hi ho hl hb' ⟨h, o', ho', hl', hb2⟩
  have e := hw.inj i (σ h) _ _ b ho (hget ho').1 hl (by rw [ren_live]; exact hl') hb' hb2
  exact hi (e ▸ (hget ho').2.2)
 have hDρ : ∀ i oo, H[i]? = some oo → D.ρ i = C.ρ i := fun i oo ho => by
  show (if i < H.length then C.ρ i else _) = _
  rw [if_pos (List.getElem?_eq_some_iff.1 ho).1]
 have hownD : ∀ b, OwnB D (mgA σ hs H' H) b → OwnB C' H' b ∨ (OwnB C H b ∧ ¬ OwnB C0 H0 b) := by
  rintro b ⟨i, oo, ho, hl, hb'⟩
  rcases hgetM ho with ⟨h, o', g1, rfl, rfl⟩ | ⟨g1, g2⟩
  · rw [(hρ h (by rw [hw'.n]; exact (List.getElem?_eq_some_iff.1 g1).1)).1] at hb'
    exact .inl ⟨h, o', g1, by rw [ren_live] at hl; exact hl, hb'⟩
  · rw [hDρ i oo g2] at hb'
    exact .inr ⟨⟨i, oo, g2, hl, hb'⟩, hfar i oo b g1 g2 hl hb'⟩
 refine ⟨o.ren σ, mgA σ hs H' H, D, hk o H' hn hK, rfl, ⟨?_, ?_, ?_, ?_, hw'.imm⟩, ⟨hevo, hx.size, hx.os, hx.tape, hx.output, ?_, ?_, ?_⟩, ?_⟩
 · rw [mgA_len hsl, hlen]
 · intro i oo ho
   rcases hgetM ho with ⟨h, o', g1, rfl, rfl⟩ | ⟨g1, g2⟩
   · exact objUp hρ rfl rfl (by rw [hw'.n]; exact (List.getElem?_eq_some_iff.1 g1).1) (hw'.obj h o' g1)
   · by_cases hl : oo.live = true
     · exact objDen_evo (C' := D) hevo.I i (hDρ i oo g2) (fun b hb' => hx.frame b (hw.own b ⟨i, oo, g2, hl, hb'⟩).2 (hfar i oo b g1 g2 hl hb')) (denL_evo hevo) (hw.obj i oo g2)
     · cases oo <;> first | trivial | simp [SObj.live] at hl
 · intro b hb'
   rcases hownD b hb' with h1 | ⟨h1, h2⟩
   · exact hw'.own b h1
   · obtain ⟨g1, g2⟩ := hw.own b h1
     refine ⟨fun hi => ?_, Nat.lt_of_lt_of_le g2 hx.size⟩
     rcases hx.immNew b hi with q | q | q
     · exact g1 q
     · exact absurd g2 (Nat.not_lt.2 q)
     · exact h2 q
 · intro i j oo oo' b ho ho' hl hl' hb1 hb2
   rcases hgetM ho with ⟨h, o', g1, rfl, rfl⟩ | ⟨g1, g2⟩ <;> rcases hgetM ho' with ⟨h', o'', g1', rfl, rfl⟩ | ⟨g1', g2'⟩
   · rw [(hρ h (by rw [hw'.n]; exact (List.getElem?_eq_some_iff.1 g1).1)).1] at hb1
     rw [(hρ h' (by rw [hw'.n]; exact (List.getElem?_eq_some_iff.1 g1').1)).1] at hb2
     rw [ren_live] at hl hl'
     rw [hw'.inj h h' _ _ b g1 g1' hl hl' hb1 hb2]
   · rw [(hρ h (by rw [hw'.n]; exact (List.getElem?_eq_some_iff.1 g1).1)).1] at hb1
     rw [hDρ j oo' g2'] at hb2
     rw [ren_live] at hl
     rcases hx.ownNew b ⟨h, o', g1, hl, hb1⟩ with q | q
     · exact absurd (hw.own b ⟨j, oo', g2', hl', hb2⟩).2 (Nat.not_lt.2 q)
     · exact absurd q (hfar j oo' b g1' g2' hl' hb2)
   · rw [(hρ h' (by rw [hw'.n]; exact (List.getElem?_eq_some_iff.1 g1').1)).1] at hb2
     rw [hDρ i oo g2] at hb1
     rw [ren_live] at hl'
     rcases hx.ownNew b ⟨h', o'', g1', hl', hb2⟩ with q | q
     · exact absurd (hw.own b ⟨i, oo, g2, hl, hb1⟩).2 (Nat.not_lt.2 q)
     · exact absurd q (hfar i oo b g1 g2 hl hb1)
   · rw [hDρ i oo g2] at hb1
     rw [hDρ j oo' g2'] at hb2
     exact hw.inj i j oo oo' b g2 g2' hl hl' hb1 hb2
 · intro b hb' ho
   refine hx.frame b hb' fun hq => ?_
   obtain ⟨_, _, _, h1⟩ := hown0 b hq
   exact ho h1
 · intro b hb'
   rcases hx.immNew b hb' with q | q | q
   · exact .inl q
   · exact .inr (.inl q)
   · obtain ⟨_, _, _, h1⟩ := hown0 b q
     exact .inr (.inr h1)
 · intro b hb'
   rcases hownD b hb' with h1 | ⟨h1, _⟩
   · rcases hx.ownNew b h1 with q | q
     · exact .inl q
     · obtain ⟨_, _, _, h2⟩ := hown0 b q
       exact .inr h2
   · exact .inr h1
 · cases o with
   | ret s => obtain ⟨v, rfl, hd⟩ := hd; exact ⟨v, rfl, ren_up hρ rfl rfl hd⟩
   | pan s => obtain ⟨v, rfl, hd⟩ := hd; exact ⟨v, rfl, ren_up hρ rfl rfl hd⟩

def Out.val : Out → SV
 | .ret s => s
 | .pan s => s
def Out.withV : Out → SV → Out
 | .ret _, s => .ret s
 | .pan _, s => .pan s
def PE (P : Program) (f : FuncId) (args : List SV) (H0 : List SObj) (o : Out) (H1 : List SObj) : Prop := VC P f args H0 fun o' H' => o' = o ∧ H' = H1
def afterO (P : Program) (AQ : Ex → List SV → List SObj → Prop) (d : Option Tmp) (m : IM) : Out → List SObj → Prop
 | .ret s, H' => SoundI P AQ { m with tmps := putT m.tmps d s, heap := H' }
 | .pan s, H' => AQ (.pan s) m.tmps H'

theorem callI_eff {f : FuncId} {args args0 : List SV} {H0 H1 : List SObj} {o : Out} {d : Option Tmp} {m : IM} (hs : List Nat) (hp : PE P f args0 H0 o H1) (hargs : args = SV.renL (sig hs m.heap.length) args0) (hnd : hs.Nodup)
 (ha : atH (sig hs m.heap.length) m.heap hs H0) (hb : SV.belL H0.length args0 = true) (hbh : belH H0.length H0 = true)
 (h : afterO P AQ d m (o.ren (sig hs m.heap.length)) (mgA (sig hs m.heap.length) hs H1 m.heap)) : CallI P AQ f args d m := by
 subst hargs
 refine ⟨hp.1, VCall.fr hs hnd ha hb hbh hp.2 ?_⟩
 rintro o' H' _ ⟨rfl, rfl⟩
 cases o' <;> exact h
theorem effE {P : Program} {AQ : Ex → List SV → List SObj → Prop} {f : FuncId} {args args0 : List SV} {H0 H1 : List SObj} {s : SV} {d : Option Tmp} {m : IM} {q : Prop} (hm : P.follows .mixedOrders = true) (hs : List Nat) (hp : PE P f args0 H0 (.ret s) H1) (h : q) (hargs : args = SV.renL (sig hs m.heap.length) args0 := by rfl) (hnd : hs.Nodup := by decide)
 (ha : atH (sig hs m.heap.length) m.heap hs H0 := by (repeat first | exact trivial | exact rfl | refine And.intro ?_ ?_)) (hb : SV.belL H0.length args0 = true := by rfl) (hbh : belH H0.length H0 = true := by rfl)
 (e : run P AQ 600 { m with tmps := putT m.tmps d (s.ren (sig hs m.heap.length)), heap := mgA (sig hs m.heap.length) hs H1 m.heap } = q := by (simp only [Out.ren, SV.ren, mgA, sig, SObj.ren, SV.renL, List.set, List.map, List.append_nil]; simp (maxSteps := 3000000) only [go_sem, ↓zA, ↓reduceIte, ↓reduceDIte, reduceCtorEq, Nat.reduceAdd, Nat.reduceSub, Nat.reduceLeDiff, Nat.reduceLT, Nat.reduceEqDiff, Nat.reduceBEq, Nat.reduceMul, Int.reduceToNat, Int.reduceEq, Int.reduceLT, Int.reduceLE]; (try simp only [zB]); rfl)) : CallI P AQ f args d m :=
 callI_eff hs hp hargs hnd ha hb hbh (run_sound hm 600 _ (Eq.mpr e h))
theorem effP {P : Program} {AQ : Ex → List SV → List SObj → Prop} {f : FuncId} {args args0 : List SV} {H0 H1 : List SObj} {s : SV} {d : Option Tmp} {m : IM} {q : Prop} (hs : List Nat) (hp : PE P f args0 H0 (.pan s) H1) (h : q) (hargs : args = SV.renL (sig hs m.heap.length) args0 := by rfl) (hnd : hs.Nodup := by decide)
 (ha : atH (sig hs m.heap.length) m.heap hs H0 := by (repeat first | exact trivial | exact rfl | refine And.intro ?_ ?_)) (hb : SV.belL H0.length args0 = true := by rfl) (hbh : belH H0.length H0 = true := by rfl)
 (e : AQ (.pan (s.ren (sig hs m.heap.length))) m.tmps (mgA (sig hs m.heap.length) hs H1 m.heap) = q := by (simp only [Out.ren, SV.ren, mgA, sig, SObj.ren, SV.renL, List.set, List.map, List.append_nil]; simp (maxSteps := 3000000) only [go_sem, ↓zA, ↓reduceIte, ↓reduceDIte, reduceCtorEq, Nat.reduceAdd, Nat.reduceSub, Nat.reduceLeDiff, Nat.reduceLT, Nat.reduceEqDiff, Nat.reduceBEq, Nat.reduceMul, Int.reduceToNat, Int.reduceEq, Int.reduceLT, Int.reduceLE]; (try simp only [zB]); rfl)) : CallI P AQ f args d m :=
 callI_eff hs hp hargs hnd ha hb hbh (Eq.mpr e h)
theorem effC {P : Program} {AQ : Ex → List SV → List SObj → Prop} {f : FuncId} {args args0 : List SV} {H0 H1 : List SObj} {s : SV} {d : Option Tmp} {m : IM} {a q : Prop} (hm : P.follows .mixedOrders = true) (hs : List Nat) (hp : PE P f args0 H0 (.ret s) H1) (w : a) (h : q) (hargs : args = SV.renL (sig hs m.heap.length) args0 := by rfl) (hnd : hs.Nodup := by decide)
 (ha : a → atH (sig hs m.heap.length) m.heap hs H0 := by (intro w; simp [atH, sig, SObj.ren, SV.ren, SV.renL, SObj.live, w])) (hb : SV.belL H0.length args0 = true := by rfl) (hbh : a → belH H0.length H0 = true := by (intro w; simp [belH, SObj.bel, SV.belL, SV.bel, w]))
 (e : a → run P AQ 600 { m with tmps := putT m.tmps d (s.ren (sig hs m.heap.length)), heap := mgA (sig hs m.heap.length) hs H1 m.heap } = q := by (intro w; simp only [Out.ren, SV.ren, mgA, sig, SObj.ren, SV.renL, List.set, List.map, List.append_nil, w]; simp (maxSteps := 3000000) only [w, go_sem, ↓zA, ↓reduceIte, ↓reduceDIte, reduceCtorEq, Nat.reduceAdd, Nat.reduceSub, Nat.reduceLeDiff, Nat.reduceLT, Nat.reduceEqDiff, Nat.reduceBEq, Nat.reduceMul, Int.reduceToNat, Int.reduceEq, Int.reduceLT, Int.reduceLE]; (try simp only [zB]); rfl)) : CallI P AQ f args d m :=
 callI_eff hs hp hargs hnd (ha w) hb (hbh w) (run_sound hm 600 _ (Eq.mpr (e w) h))
theorem effD {P : Program} {AQ : Ex → List SV → List SObj → Prop} {f : FuncId} {args args0 : List SV} {H0 H1 : List SObj} {s : SV} {d : Option Tmp} {m : IM} {a q : Prop} (hs : List Nat) (hp : PE P f args0 H0 (.pan s) H1) (w : a) (h : q) (hargs : args = SV.renL (sig hs m.heap.length) args0 := by rfl) (hnd : hs.Nodup := by decide)
 (ha : a → atH (sig hs m.heap.length) m.heap hs H0 := by (intro w; simp [atH, sig, SObj.ren, SV.ren, SV.renL, SObj.live, w])) (hb : SV.belL H0.length args0 = true := by rfl) (hbh : a → belH H0.length H0 = true := by (intro w; simp [belH, SObj.bel, SV.belL, SV.bel, w]))
 (e : a → AQ (.pan (s.ren (sig hs m.heap.length))) m.tmps (mgA (sig hs m.heap.length) hs H1 m.heap) = q := by (intro w; simp only [Out.ren, SV.ren, mgA, sig, SObj.ren, SV.renL, List.set, List.map, List.append_nil, w]; simp (maxSteps := 3000000) only [w, go_sem, ↓zA, ↓reduceIte, ↓reduceDIte, reduceCtorEq, Nat.reduceAdd, Nat.reduceSub, Nat.reduceLeDiff, Nat.reduceLT, Nat.reduceEqDiff, Nat.reduceBEq, Nat.reduceMul, Int.reduceToNat, Int.reduceEq, Int.reduceLT, Int.reduceLE]; (try simp only [zB]); rfl)) : CallI P AQ f args d m :=
 callI_eff hs hp hargs hnd (ha w) hb (hbh w) (Eq.mpr (e w) h)
end Go.Sx
namespace Go.Sx
open Go
variable {P : Program} {AQ : Ex → List SV → List SObj → Prop} {k0 : Nat} {k : List IT} {t : List SV} {H : List SObj}

mutual
def SV.sealB (n : Nat) (H : List SObj) : SV → Option (SV × Prop)
 | .any => some (.any, True)
 | .raw v => some (.raw v, True)
 | .isl t xs => some (.isl t xs, True)
 | .fsl t xs => some (.isl t xs, True)
 | .iptr t x k => some (.iptr t x k, True)
 | .imap kk ks vs => some (.imap kk ks vs, True)
 | .ptr h off => if h < n then some (.ptr h off, True) else none
 | .rptr h t i k => if h < n then some (.rptr h t i k, True) else none
 | .csl h off m => if h < n then some (.csl h off m, True) else none
 | .bld h t m => if h < n then some (.bld h t m, True) else match H[h]? with
  | some (.row t' xs) => if t = t' then some (.isl t' (xs.take m), m ≤ xs.length ∧ xs.length ≤ 1125899906842624) else none
  | _ => none
 | .osl h t off m => if h < n then some (.osl h t off m, True) else match H[h]? with
  | some (.row t' xs) => if t = t' then some (.isl t' ((xs.drop off).take m), off + m ≤ xs.length ∧ xs.length ≤ 1125899906842624) else none
  | _ => none
 | .mp h => if h < n then some (.mp h, True) else match H[h]? with
  | some (.map kk ks vs) => some (.imap kk ks vs, True)
  | _ => none
 | .agg l => match SV.sealBL n H l with
  | some (l', p) => some (.agg l', p)
  | none => none
 | .tup l => match SV.sealBL n H l with
  | some (l', p) => some (.tup l', p)
  | none => none
 | .iface T x => match SV.sealB n H x with
  | some (x', p) => some (.iface T x', p)
  | none => none
 | .fn f a b => match SV.sealBL n H a, SV.sealBL n H b with
  | some (a', p), some (b', q) => some (.fn f a' b', p ∧ q)
  | _, _ => none
def SV.sealBL (n : Nat) (H : List SObj) : List SV → Option (List SV × Prop)
 | [] => some ([], True)
 | s :: l => match SV.sealB n H s, SV.sealBL n H l with
  | some (s', p), some (l', q) => some (s' :: l', p ∧ q)
  | _, _ => none
end

def OwnGe (C : Cx) (H : List SObj) (n : Nat) (b : Nat) : Prop := ∃ h o, n ≤ h ∧ H[h]? = some o ∧ o.live = true ∧ C.ρ h = some b
def Cx.shutB (C : Cx) (H : List SObj) (n : Nat) : Cx := { C with n := n, I := fun b => C.I b ∨ OwnGe C H n b }
theorem keeps_shutB (C : Cx) (H : List SObj) (n : Nat) : Keeps C.I (C.shutB H n).I C.w (C.shutB H n).w := fun _ hb => ⟨.inl hb, rfl⟩
theorem keeps_frzB {C : Cx} {H : List SObj} {n hd : Nat} {o : SObj} (hn : n ≤ hd) (hH : H[hd]? = some o) (hl : o.live = true) : Keeps (C.frz hd).I (C.shutB H n).I (C.frz hd).w (C.shutB H n).w :=
 fun _ hb => ⟨hb.elim .inl (fun e => .inr ⟨hd, o, hn, hH, hl, e⟩), rfl⟩
mutual
theorem sealB_den {C : Cx} {H : List SObj} {n : Nat} (hw : Wd C H) : ∀ {s s' : SV} {p : Prop} {v : Value}, s.sealB n H = some (s', p) → p → s.den C v → s'.den (C.shutB H n) v
 | .any, _, _, _, h, _, _ => by simp [SV.sealB] at h; rw [← h.1, SV.den]; trivial
 | .raw _, _, _, _, h, _, d => by simp [SV.sealB] at h; rw [← h.1]; rw [SV.den] at d ⊢; exact d
 | .isl _ _, _, _, _, h, _, d => by simp [SV.sealB] at h; rw [← h.1]; exact den_clean (keeps_shutB C H n) rfl d
 | .fsl _ _, _, _, _, h, _, d => by simp [SV.sealB] at h; rw [← h.1]; rw [SV.den] at d; exact den_clean (keeps_shutB C H n) rfl (by rw [SV.den]; exact d.1)
 | .iptr .., _, _, _, h, _, d => by simp [SV.sealB] at h; rw [← h.1]; exact den_clean (keeps_shutB C H n) rfl d
 | .imap .., _, _, _, h, _, d => by simp [SV.sealB] at h; rw [← h.1]; exact den_clean (keeps_shutB C H n) rfl d
 | .ptr hd off, _, _, _, h, _, d => by
  simp only [SV.sealB] at h
  split at h
  · cases h; rw [SV.den] at d ⊢; exact ⟨by assumption, d.2⟩
  · cases h
 | .rptr .., _, _, _, h, _, d => by
  simp only [SV.sealB] at h
  split at h
  · cases h; rw [SV.den] at d ⊢; exact ⟨by assumption, d.2⟩
  · cases h
 | .csl .., _, _, _, h, _, d => by
  simp only [SV.sealB] at h
  split at h
  · cases h; rw [SV.den] at d ⊢; exact ⟨by assumption, d.2⟩
  · cases h
 | .bld hd t m, s', p, v, h, hp, d => by
  simp only [SV.sealB] at h
  split at h
  · cases h; rw [SV.den] at d ⊢; exact ⟨by assumption, d.2⟩
  · rename_i hge
    split at h
    · rename_i t' xs hH
      split at h
      · rename_i e; subst e; cases h
        have h1 := frz_den hw hH hp.2 (s := .bld hd t m) (by rw [SV.frzOb, if_pos ⟨rfl, rfl⟩]; exact hp.1) d
        rw [SV.frz, if_pos ⟨rfl, rfl⟩] at h1
        exact den_clean (keeps_frzB (Nat.not_lt.1 hge) hH rfl) rfl h1
      · cases h
    · cases h
 | .osl hd t off m, s', p, v, h, hp, d => by
  simp only [SV.sealB] at h
  split at h
  · cases h; rw [SV.den] at d ⊢; exact ⟨by assumption, d.2⟩
  · rename_i hge
    split at h
    · rename_i t' xs hH
      split at h
      · rename_i e; subst e; cases h
        have h1 := frz_den hw hH hp.2 (s := .osl hd t off m) (by rw [SV.frzOb, if_pos ⟨rfl, rfl⟩]; exact hp.1) d
        rw [SV.frz, if_pos ⟨rfl, rfl⟩] at h1
        exact den_clean (keeps_frzB (Nat.not_lt.1 hge) hH rfl) rfl h1
      · cases h
    · cases h
 | .mp hd, s', p, v, h, hp, d => by
  simp only [SV.sealB] at h
  split at h
  · cases h; rw [SV.den] at d ⊢; exact ⟨by assumption, d.2⟩
  · rename_i hge
    split at h
    · rename_i kk ks vs hH
      cases h
      simp only [SV.den] at d ⊢
      obtain ⟨_, b, hb, rfl⟩ := d
      obtain ⟨b', hb', hm⟩ := hw.obj hd _ hH
      rw [hb] at hb'; cases hb'
      exact ⟨b, rfl, .inr ⟨hd, _, Nat.not_lt.1 hge, hH, rfl, hb⟩, hm⟩
    · cases h
 | .agg l, s', p, v, h, hp, d => by
  unfold SV.sealB at h
  split at h
  · cases h
    rw [SV.den] at d ⊢
    obtain ⟨vs, hv, hl⟩ := d
    exact ⟨vs, hv, sealBL_den hw (by assumption) hp hl⟩
  · cases h
 | .tup l, s', p, v, h, hp, d => by
  unfold SV.sealB at h
  split at h
  · cases h
    rw [SV.den] at d ⊢
    obtain ⟨vs, hv, hl⟩ := d
    exact ⟨vs, hv, sealBL_den hw (by assumption) hp hl⟩
  · cases h
 | .iface T x, s', p, v, h, hp, d => by
  unfold SV.sealB at h
  split at h
  · cases h
    rw [SV.den] at d ⊢
    obtain ⟨u, hv, hl⟩ := d
    exact ⟨u, hv, sealB_den hw (by assumption) hp hl⟩
  · cases h
 | .fn f a b, s', p, v, h, hp, d => by
  unfold SV.sealB at h
  split at h
  · cases h
    rw [SV.den] at d ⊢
    obtain ⟨v1, v2, hv, h1, h2⟩ := d
    exact ⟨v1, v2, hv, sealBL_den hw (by assumption) hp.1 h1, sealBL_den hw (by assumption) hp.2 h2⟩
  · cases h
theorem sealBL_den {C : Cx} {H : List SObj} {n : Nat} (hw : Wd C H) : ∀ {l l' : List SV} {p : Prop} {vs : List Value}, SV.sealBL n H l = some (l', p) → p → SV.denL C l vs → SV.denL (C.shutB H n) l' vs
 | [], _, _, _, h, _, d => by simp [SV.sealBL] at h; rw [h.1]; rw [denL_nil] at d ⊢; exact d
 | s :: l, l', p, vs, h, hp, d => by
  unfold SV.sealBL at h
  split at h
  · cases h
    obtain ⟨v, us, rfl, h1, h2⟩ := denL_cons.1 d
    exact denL_cons.2 ⟨v, us, rfl, sealB_den hw (by assumption) hp.1 h1, sealBL_den hw (by assumption) hp.2 h2⟩
  · cases h
end

/- A value that says less: nil and the empty slice are one, .any says nothing. -/
mutual
def SV.leA : SV → SV → Prop
 | _, .any => True
 | s, .isl t xs => s = .isl t xs ∨ (s = .raw (.slice none 0 0) ∧ xs = [])
 | s, .agg l => match s with
  | .agg l' => SV.leAL l' l
  | _ => False
 | s, .tup l => match s with
  | .tup l' => SV.leAL l' l
  | _ => False
 | s, s' => s = s'
def SV.leAL : List SV → List SV → Prop
 | [], l => l = []
 | s :: l, r => match r with
  | [] => False
  | s' :: l' => SV.leA s s' ∧ SV.leAL l l'
end
theorem leA_any {s : SV} : SV.leA s .any = True := by cases s <;> simp [SV.leA]
theorem leA_raw {v u : Value} : SV.leA (.raw v) (.raw u) = (v = u) := by simp [SV.leA]
theorem leA_isl {t : Ty} {xs ys : List t.den} : SV.leA (.isl t xs) (.isl t ys) = (xs = ys) := by simp [SV.leA]
theorem leA_nil {t : Ty} {ys : List t.den} : SV.leA (.raw (.slice none 0 0)) (.isl t ys) = (ys = []) := by simp [SV.leA]
theorem leA_agg {l l' : List SV} : SV.leA (.agg l) (.agg l') = SV.leAL l l' := by rw [SV.leA]
theorem leA_tup {l l' : List SV} : SV.leA (.tup l) (.tup l') = SV.leAL l l' := by rw [SV.leA]
theorem leA_ptr {h o h' o' : Nat} : SV.leA (.ptr h o) (.ptr h' o') = (h = h' ∧ o = o') := by simp [SV.leA]
theorem leA_iface {T T' : TypeId} {x x' : SV} : SV.leA (.iface T x) (.iface T' x') = (T = T' ∧ x = x') := by simp [SV.leA]
theorem leA_fn {f f' : Nat} {a a' b b' : List SV} : SV.leA (.fn f a b) (.fn f' a' b') = (f = f' ∧ a = a' ∧ b = b') := by simp [SV.leA]
theorem leA_bld {h h' n n' : Nat} {t t' : Ty} : SV.leA (.bld h t n) (.bld h' t' n') = (h = h' ∧ t = t' ∧ n = n') := by simp [SV.leA]
theorem leAL_cons {s s' : SV} {l l' : List SV} : SV.leAL (s :: l) (s' :: l') = (SV.leA s s' ∧ SV.leAL l l') := by rw [SV.leAL]
theorem leAL_nil : SV.leAL [] [] = True := by simp [SV.leAL]
mutual
theorem leA_den {C : Cx} : ∀ {s s' : SV} {v : Value}, SV.leA s s' → s.den C v → s'.den C v
 | s, .any, v, _, _ => by rw [SV.den]; trivial
 | s, .isl t xs, v, h, d => by
  rw [SV.leA] at h
  rcases h with rfl | ⟨rfl, rfl⟩
  · exact d
  · rw [SV.den] at d; subst d
    rw [SV.den]
    exact ⟨_, _, _, rfl, rfl, Nat.le_refl _, by simp, .inl rfl⟩
 | .agg l', .agg l, v, h, d => by
  rw [leA_agg] at h
  rw [SV.den] at d ⊢
  obtain ⟨vs, hv, hl⟩ := d
  exact ⟨vs, hv, leAL_den h hl⟩
 | .tup l', .tup l, v, h, d => by
  rw [leA_tup] at h
  rw [SV.den] at d ⊢
  obtain ⟨vs, hv, hl⟩ := d
  exact ⟨vs, hv, leAL_den h hl⟩
 | .any, .agg _, _, h, _ => by simp [SV.leA] at h
 | .raw _, .agg _, _, h, _ => by simp [SV.leA] at h
 | .isl _ _, .agg _, _, h, _ => by simp [SV.leA] at h
 | .fsl _ _, .agg _, _, h, _ => by simp [SV.leA] at h
 | .iptr .., .agg _, _, h, _ => by simp [SV.leA] at h
 | .ptr .., .agg _, _, h, _ => by simp [SV.leA] at h
 | .rptr .., .agg _, _, h, _ => by simp [SV.leA] at h
 | .bld .., .agg _, _, h, _ => by simp [SV.leA] at h
 | .osl .., .agg _, _, h, _ => by simp [SV.leA] at h
 | .csl .., .agg _, _, h, _ => by simp [SV.leA] at h
 | .mp _, .agg _, _, h, _ => by simp [SV.leA] at h
 | .imap .., .agg _, _, h, _ => by simp [SV.leA] at h
 | .fn .., .agg _, _, h, _ => by simp [SV.leA] at h
 | .iface .., .agg _, _, h, _ => by simp [SV.leA] at h
 | .tup _, .agg _, _, h, _ => by simp [SV.leA] at h
 | .any, .tup _, _, h, _ => by simp [SV.leA] at h
 | .raw _, .tup _, _, h, _ => by simp [SV.leA] at h
 | .isl _ _, .tup _, _, h, _ => by simp [SV.leA] at h
 | .fsl _ _, .tup _, _, h, _ => by simp [SV.leA] at h
 | .iptr .., .tup _, _, h, _ => by simp [SV.leA] at h
 | .ptr .., .tup _, _, h, _ => by simp [SV.leA] at h
 | .rptr .., .tup _, _, h, _ => by simp [SV.leA] at h
 | .bld .., .tup _, _, h, _ => by simp [SV.leA] at h
 | .osl .., .tup _, _, h, _ => by simp [SV.leA] at h
 | .csl .., .tup _, _, h, _ => by simp [SV.leA] at h
 | .mp _, .tup _, _, h, _ => by simp [SV.leA] at h
 | .imap .., .tup _, _, h, _ => by simp [SV.leA] at h
 | .fn .., .tup _, _, h, _ => by simp [SV.leA] at h
 | .iface .., .tup _, _, h, _ => by simp [SV.leA] at h
 | .agg _, .tup _, _, h, _ => by simp [SV.leA] at h
 | s, .raw _, v, h, d => by simp [SV.leA] at h; subst h; exact d
 | s, .fsl _ _, v, h, d => by simp [SV.leA] at h; subst h; exact d
 | s, .iptr .., v, h, d => by simp [SV.leA] at h; subst h; exact d
 | s, .ptr .., v, h, d => by simp [SV.leA] at h; subst h; exact d
 | s, .rptr .., v, h, d => by simp [SV.leA] at h; subst h; exact d
 | s, .bld .., v, h, d => by simp [SV.leA] at h; subst h; exact d
 | s, .osl .., v, h, d => by simp [SV.leA] at h; subst h; exact d
 | s, .csl .., v, h, d => by simp [SV.leA] at h; subst h; exact d
 | s, .mp _, v, h, d => by simp [SV.leA] at h; subst h; exact d
 | s, .imap .., v, h, d => by simp [SV.leA] at h; subst h; exact d
 | s, .fn .., v, h, d => by simp [SV.leA] at h; subst h; exact d
 | s, .iface .., v, h, d => by simp [SV.leA] at h; subst h; exact d
theorem leAL_den {C : Cx} : ∀ {l l' : List SV} {vs : List Value}, SV.leAL l l' → SV.denL C l vs → SV.denL C l' vs
 | [], l', vs, h, d => by simp only [SV.leAL] at h; subst h; exact d
 | s :: l, [], vs, h, d => by simp [SV.leAL] at h
 | s :: l, s' :: l', vs, h, d => by
  rw [leAL_cons] at h
  obtain ⟨v, us, rfl, h1, h2⟩ := denL_cons.1 d
  exact denL_cons.2 ⟨v, us, rfl, leA_den h.1 h1, leAL_den h.2 h2⟩
end

def sealHL (n : Nat) (H : List SObj) : List SObj → List SObj → Prop
 | _, [] => True
 | _ :: l, .dead :: l' => sealHL n H l l'
 | .cells T cs :: l, .cells T' cs' :: l' => (match SV.sealBL n H cs with
  | some (cs1, p) => p ∧ T = T' ∧ SV.leAL cs1 cs'
  | none => False) ∧ sealHL n H l l'
 | .row t xs :: l, .row t' xs' :: l' => SObj.row t xs = SObj.row t' xs' ∧ sealHL n H l l'
 | .map a b c :: l, .map a' b' c' :: l' => (a = a' ∧ b = b' ∧ c = c') ∧ sealHL n H l l'
 | _, _ => False
theorem sealHL_get {n : Nat} {H : List SObj} : ∀ {L L' : List SObj} {h : Nat} {o' : SObj}, sealHL n H L L' → L'[h]? = some o' → o'.live = true →
 ∃ o, L[h]? = some o ∧ o.live = true ∧ ((∃ T cs cs' cs1 p, o = .cells T cs ∧ o' = .cells T cs' ∧ SV.sealBL n H cs = some (cs1, p) ∧ p ∧ SV.leAL cs1 cs') ∨ (o = o' ∧ ∀ T cs, o ≠ .cells T cs))
 | L, [], h, o', _, hi, _ => by simp at hi
 | [], .dead :: l', _, _, hl, _, _ => by simp [sealHL] at hl
 | [], .cells _ _ :: l', _, _, hl, _, _ => by simp [sealHL] at hl
 | [], .row _ _ :: l', _, _, hl, _, _ => by simp [sealHL] at hl
 | [], .map _ _ _ :: l', _, _, hl, _, _ => by simp [sealHL] at hl
 | o :: l, .dead :: l', 0, o', hl, hi, hv => by simp at hi; subst hi; simp [SObj.live] at hv
 | o :: l, .dead :: l', h + 1, o', hl, hi, hv => by
  have hl' : sealHL n H l l' := by cases o <;> simpa [sealHL] using hl
  simpa using sealHL_get hl' (by simpa using hi) hv
 | .cells T cs :: l, .cells T' cs' :: l', 0, o', hl, hi, hv => by
  simp at hi; subst hi
  simp only [sealHL] at hl
  obtain ⟨h1, _⟩ := hl
  split at h1
  · rename_i cs1 p he
    obtain ⟨hp, rfl, hle⟩ := h1
    exact ⟨_, rfl, rfl, .inl ⟨T, cs, cs', cs1, p, rfl, rfl, he, hp, hle⟩⟩
  · exact h1.elim
 | .cells T cs :: l, .cells T' cs' :: l', h + 1, o', hl, hi, hv => by
  simp only [sealHL] at hl
  simpa using sealHL_get hl.2 (by simpa using hi) hv
 | .row t xs :: l, .row t' xs' :: l', 0, o', hl, hi, hv => by
  simp at hi; subst hi
  simp only [sealHL] at hl
  exact ⟨_, rfl, rfl, .inr ⟨hl.1, fun _ _ h => by cases h⟩⟩
 | .row t xs :: l, .row t' xs' :: l', h + 1, o', hl, hi, hv => by
  simp only [sealHL] at hl
  simpa using sealHL_get hl.2 (by simpa using hi) hv
 | .map a b c :: l, .map a' b' c' :: l', 0, o', hl, hi, hv => by
  simp at hi; subst hi
  simp only [sealHL] at hl
  obtain ⟨⟨rfl, rfl, rfl⟩, _⟩ := hl
  exact ⟨_, rfl, rfl, .inr ⟨rfl, fun _ _ h => by cases h⟩⟩
 | .map a b c :: l, .map a' b' c' :: l', h + 1, o', hl, hi, hv => by
  simp only [sealHL] at hl
  simpa using sealHL_get hl.2 (by simpa using hi) hv
 | .dead :: l, .cells _ _ :: l', _, _, hl, _, _ => by simp [sealHL] at hl
 | .dead :: l, .row _ _ :: l', _, _, hl, _, _ => by simp [sealHL] at hl
 | .dead :: l, .map _ _ _ :: l', _, _, hl, _, _ => by simp [sealHL] at hl
 | .cells _ _ :: l, .row _ _ :: l', _, _, hl, _, _ => by simp [sealHL] at hl
 | .cells _ _ :: l, .map _ _ _ :: l', _, _, hl, _, _ => by simp [sealHL] at hl
 | .row _ _ :: l, .cells _ _ :: l', _, _, hl, _, _ => by simp [sealHL] at hl
 | .row _ _ :: l, .map _ _ _ :: l', _, _, hl, _, _ => by simp [sealHL] at hl
 | .map _ _ _ :: l, .cells _ _ :: l', _, _, hl, _, _ => by simp [sealHL] at hl
 | .map _ _ _ :: l, .row _ _ :: l', _, _, hl, _, _ => by simp [sealHL] at hl

theorem wd_shutB {C : Cx} {H' H1 : List SObj} (hw : Wd C H') (hlen : H1.length ≤ H'.length) (hl : sealHL H1.length H' H' H1) : Wd (C.shutB H' H1.length) H1 := by
 have hown : ∀ b, OwnB (C.shutB H' H1.length) H1 b → OwnB C H' b ∧ ¬ OwnGe C H' H1.length b := by
  rintro b ⟨h, o', ho, hv, hb⟩
  obtain ⟨o, h1, h2, _⟩ := sealHL_get hl ho hv
  refine ⟨⟨h, o, h1, h2, hb⟩, ?_⟩
  rintro ⟨h', o2, hge, h3, h4, hb'⟩
  have e := hw.inj h h' o o2 b h1 h3 h2 h4 hb hb'
  have := (List.getElem?_eq_some_iff.1 ho).1
  omega
 refine ⟨rfl, fun h o' ho => ?_, fun b hb => ?_, fun h h' o o' b ho ho' hv hv' hb hb' => ?_, ?_⟩
 · by_cases hv : o'.live = true
   · obtain ⟨o, h1, _, h3⟩ := sealHL_get hl ho hv
     have hd := hw.obj h o h1
     rcases h3 with ⟨T, cs, cs', cs1, p, rfl, rfl, he, hp, hle⟩ | ⟨rfl, hc⟩
     · obtain ⟨b, vs, g1, g2, g3⟩ := hd
       exact ⟨b, vs, g1, g2, leAL_den hle (sealBL_den hw he hp g3)⟩
     · cases o with
       | dead => trivial
       | cells T cs => exact absurd rfl (hc T cs)
       | row t xs =>
        rcases hd with hd | ⟨b, arr, T, fz, g1, g2, g3, g4, g5⟩
        · exact .inl hd
        · refine .inr ⟨b, arr, T, fz, g1, g2, g3, g4, fun i x hx => ?_⟩
          obtain ⟨us, hu, hc'⟩ := g5 i x hx
          exact ⟨us, Ty.rel_keep (keeps_shutB C H' _) _ _ _ hu, hc'⟩
       | map kk ks vs => exact hd
   · cases o' <;> first | trivial | simp [SObj.live] at hv
 · obtain ⟨h1, h2⟩ := hown b hb
   exact ⟨fun hi => hi.elim (hw.own b h1).1 h2, (hw.own b h1).2⟩
 · obtain ⟨o1, h1, h2, _⟩ := sealHL_get hl ho hv
   obtain ⟨o2, h3, h4, _⟩ := sealHL_get hl ho' hv'
   exact hw.inj h h' o1 o2 b h1 h3 h2 h4 hb hb'
 · rintro b (hb | ⟨h, o, _, h1, h2, h3⟩)
   · exact hw.imm b hb
   · exact (hw.own b ⟨h, o, h1, h2, h3⟩).2
theorem ext_shutB {C C' : Cx} {H' H1 : List SObj} (hn : C.n ≤ H1.length) (hx : Ext ⟨C, H⟩ C' H') (hl : sealHL H1.length H' H' H1) : Ext ⟨C, H⟩ (C'.shutB H' H1.length) H1 := by
 refine ⟨⟨hn, fun h hh => hx.evo.ρ h hh, hx.evo.I.trans (keeps_shutB C' H' _), hx.evo.sz⟩, hx.size, hx.os, hx.tape, hx.output, hx.frame, ?_, ?_⟩
 · rintro b (hb | ⟨h, o, _, h1, h2, h3⟩)
   · exact hx.immNew b hb
   · exact .inr (hx.ownNew b ⟨h, o, h1, h2, h3⟩)
 · rintro b ⟨h, o', ho, hv, hb⟩
   obtain ⟨o, h1, h2, _⟩ := sealHL_get hl ho hv
   exact hx.ownNew b ⟨h, o, h1, h2, hb⟩

def SealO (o : Out) (H1 : List SObj) (o' : Out) (H' : List SObj) : Prop :=
 o' = o.withV o'.val ∧ H1.length ≤ H'.length ∧ (match o'.val.sealB H1.length H' with
  | some (s1, p) => p ∧ SV.leA s1 o.val
  | none => False) ∧ sealHL H1.length H' H' H1
theorem VCall.sealO {f : FuncId} {args : List SV} {o : Out} {H1 : List SObj} (hn : H.length ≤ H1.length) (h : VCall P f args H (SealO o H1)) : VCall P f args H fun o' H' => o' = o ∧ H' = H1 := by
 intro C vs hw hv
 refine (h C vs hw hv).mono ?_
 rintro e w' ⟨o', H', C', ⟨ho, hlen, hs, hl⟩, rfl, hw', hx, hd⟩
 split at hs
 · rename_i s1 p he
   refine ⟨o, H1, C'.shutB H' H1.length, ⟨rfl, rfl⟩, rfl, wd_shutB hw' hlen hl, ext_shutB (by rw [hw.n]; exact hn) hx hl, ?_⟩
   rw [ho] at hd
   cases o with
   | ret s => obtain ⟨v, rfl, hd⟩ := hd; exact ⟨v, rfl, leA_den hs.2 (sealB_den hw' he hs.1 hd)⟩
   | pan s => obtain ⟨v, rfl, hd⟩ := hd; exact ⟨v, rfl, leA_den hs.2 (sealB_den hw' he hs.1 hd)⟩
 · exact hs.elim
theorem pe_seal {f : FuncId} {args : List SV} {H0 H1 : List SObj} {o : Out} (hn : H0.length ≤ H1.length) (h : VC P f args H0 (SealO o H1)) : PE P f args H0 o H1 := ⟨h.1, VCall.sealO hn h.2⟩
theorem PC.pe {f : FuncId} {args : List SV} {s : SV} (h : PC P f args s) : PE P f args [] (.ret s) [] := ⟨h.1, h.2 _ _ ⟨rfl, rfl⟩⟩
theorem sealO_ret {s s' : SV} {H1 H' : List SObj} : SealO (.ret s) H1 (.ret s') H' = (H1.length ≤ H'.length ∧ (match s'.sealB H1.length H' with
 | some (s1, p) => p ∧ SV.leA s1 s
 | none => False) ∧ sealHL H1.length H' H' H1) := by simp [SealO, Out.withV, Out.val]
theorem sealO_pan {s s' : SV} {H1 H' : List SObj} : SealO (.pan s) H1 (.pan s') H' = (H1.length ≤ H'.length ∧ (match s'.sealB H1.length H' with
 | some (s1, p) => p ∧ SV.leA s1 s
 | none => False) ∧ sealHL H1.length H' H' H1) := by simp [SealO, Out.withV, Out.val]
attribute [go_sem] sealO_ret sealO_pan SV.sealB SV.sealBL leA_any leA_raw leA_isl leA_nil leA_agg leA_tup leA_ptr leA_iface leA_fn leA_bld leAL_cons leAL_nil sealHL
end Go.Sx
