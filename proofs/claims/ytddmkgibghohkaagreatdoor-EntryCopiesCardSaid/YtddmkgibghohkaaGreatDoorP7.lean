/- A part of the proof: a symbolic executor over abstract values, and its soundness. -/
import Derived.Test.YtddmkgibghohkaaGreatDoorP6
set_option linter.unusedSimpArgs false
set_option linter.unusedVariables false
set_option linter.unusedSectionVars false
set_option linter.unusedSectionVars false
namespace Go.Sx
open Go

variable [Ghost] {P : Program} {AQ : Ex → List SV → List SObj → Prop} {k0 : Nat} {k : List IT} {t : List SV} {H : List SObj}

theorem getD_set_self {d : Nat} {v b : Bool} (hv : t.getD d .any = .raw (.bool v)) : (t.set d (.raw (.bool b))).getD d .any = .raw (.bool b) := by
 rcases Nat.lt_or_ge d t.length with hl | hl
 · rw [List.getD_eq_getElem?_getD, List.getElem?_set_self hl]; rfl
 · rw [List.getD_eq_getElem?_getD, List.getElem?_eq_none hl] at hv; simp at hv

theorem si_guard {io : OpI} {l : List OpI} {d : Nat} {v b : Bool} (hg : io.guard = some (d, b)) (hv : t.getD d .any = .raw (.bool v))
 (h1 : v = b → (io.op.ev H (evT (t.set d (.raw (.bool b))))).to P H (opK P AQ k0 (.ops l :: k) (t.set d (.raw (.bool b))) io.dst))
 (h2 : v = !b → SoundI P AQ ⟨k0, .ops l :: k, putT (t.set d (.raw (.bool !b))) io.dst (.raw (.tuple #[])), H⟩) : SoundI P AQ ⟨k0, .ops (io :: l) :: k, t, H⟩ := soundI_plain (fun td' hr => by
 obtain ⟨all, idx, r, rfl, ho, hr⟩ := hr
 cases idx with
 | nil => exact ho.elim
 | cons i idx =>
  obtain ⟨⟨o, ho1, ho2⟩, ho⟩ := ho
  obtain ⟨hc, hd⟩ := compO_op ho2
  by_cases hb : v = b
  · refine sound_lit d hv hb ?_
    refine sound_op ho1 (by rw [(compO_wanted ho2).2.1 d b b hg (getD_set_self hv)]; simp) (OpV.mono (ev_sound hc (h1 hb)) fun x H' hx => ?_)
    cases x with
    | ret s => simp only [opK, hd] at hx; exact soundI_get hx ⟨all, idx, r, rfl, ho, hr⟩
    | pan s => exact hx
  · have hb' : v = !b := by cases v <;> cases b <;> simp_all
    refine sound_lit d hv hb' ?_
    refine sound_op_skip ho1 (by rw [(compO_wanted ho2).2.1 d b (!b) hg (getD_set_self hv)]; simp) ?_
    have := h2 hb'
    rw [hd] at this
    exact soundI_get this ⟨all, idx, r, rfl, ho, hr⟩) rfl

theorem si_guardU {io : OpI} {l : List OpI} {d : Nat} {b : Bool} {vs : Array Value} (hg : io.guard = some (d, b)) (hv : t.getD d .any = .raw (.tuple vs))
 (h2 : SoundI P AQ ⟨k0, .ops l :: k, putT t io.dst (.raw (.tuple #[])), H⟩) : SoundI P AQ ⟨k0, .ops (io :: l) :: k, t, H⟩ := soundI_plain (fun td' hr => by
 obtain ⟨all, idx, r, rfl, ho, hr⟩ := hr
 cases idx with
 | nil => exact ho.elim
 | cons i idx =>
  obtain ⟨⟨o, ho1, ho2⟩, ho⟩ := ho
  obtain ⟨hc, hd⟩ := compO_op ho2
  refine sound_op_skip ho1 ((compO_wanted ho2).2.2 d b vs hg hv) ?_
  rw [hd] at h2
  exact soundI_get h2 ⟨all, idx, r, rfl, ho, hr⟩) rfl

theorem planL_cons {all : Array Oper} {fuel : Nat} {listed : Array Bool} {fl : Bool} {io : OpI} {l : List (Bool × OpI)} (h : planL P all fuel listed = some ((fl, io) :: l)) :
 ∃ n i o io0, fuel = n + 1 ∧ all[i]? = some o ∧ compO P all o = some io0 ∧ planL P all n (listed.setIfInBounds i true) = some l ∧
  planChk all listed i fl = true ∧ io.dst = io0.dst ∧ io.guard = io0.guard ∧ ((io = io0 ∧ (fl = true → ldChk all listed i = true)) ∨ (fl = true ∧ io.op = toS io0.op)) := by
 cases fuel with
 | zero =>
  simp only [planL] at h
  split at h <;> cases h
 | succ n =>
  simp only [planL] at h
  split at h
  · cases h
  · split at h
    · split at h
      · split at h
        · split at h
          · split at h
            · rename_i i fl' _ _ o ho _ io0 hio _ l' hl hc
              simp only [Option.some.injEq, List.cons.injEq, Prod.mk.injEq] at h
              obtain ⟨⟨rfl, rfl⟩, rfl⟩ := h
              refine ⟨n, i, o, io0, rfl, ho, hio, hl, hc, ?_⟩
              cases hq : (fl' && !ldChk all listed i) with
              | true =>
               simp only [if_true, true_and]
               rw [Bool.and_eq_true] at hq
               exact .inr ⟨hq.1, trivial⟩
              | false =>
               simp only [Bool.false_eq_true, if_false, true_and]
               refine .inl fun hf => ?_
               rw [hf] at hq
               simpa using hq
            · cases h
          · cases h
        · cases h
      · cases h
    · cases h
theorem toS_ev (i : IOp) (H : List SObj) (ev : Operand → SV) : (toS i).ev H ev = i.ev H ev := by cases i <;> rfl
theorem planL_nil {all : Array Oper} {fuel : Nat} {listed : Array Bool} (h : planL P all fuel listed = some []) : (Region.ready .any all listed).isEmpty = true := by
 cases fuel with
 | zero =>
  simp only [planL] at h
  split at h
  · assumption
  · cases h
 | succ n =>
  simp only [planL] at h
  split at h
  · assumption
  · split at h
    · split at h
      · split at h
        · split at h
          · split at h <;> cases h
          · cases h
        · cases h
      · cases h
    · cases h

theorem sd_end {G : List Nat} (h : SoundI P AQ ⟨k0, k, t, H⟩) : SoundI P AQ ⟨k0, .dops G [] :: k, t, H⟩ := by
 intro all listed fuel k' hp hr
 exact any_nil (planL_nil hp) (soundI_get h hr)

def floatOk (G : List Nat) (ev : Operand → SV) : IOp → Bool
 | .mov _ | .pick .. | .nil _ | .bin .. | .eqs .. | .un .. | .toInt .. | .fa .. | .fld .. | .ia .. | .ixs .. | .len .. | .ext .. | .mkf .. | .mki .. | .bld .. | .sl .. | .sl3 .. | .iaa .. => true
 | .toStr _ x => match ev x with
  | .bld .. => false
  | _ => true
 | .ld _ x => match ev x with
  | .ptr h _ => G.contains h
  | .rptr h _ _ _ => G.contains h
  | _ => true
 | .ldS _ x => strictG G && match ev x with
  | .ptr h _ => G.contains h
  | .rptr h _ _ _ => G.contains h
  | _ => true
 | .mlk _ _ _ m _ => match ev m with
  | .imap .. => true
  | _ => false
 | _ => false
theorem str_same {G : List Nat} {H' : List SObj} {ev : Operand → SV} {b : Bool} {x : Operand} (hf : floatOk G ev (.toStr b x) = true) : (IOp.toStr b x).ev H' ev = (IOp.toStr b x).ev H ev := by
 cases b with
 | false => rfl
 | true =>
  simp only [IOp.ev, floatOk] at *
  generalize ev x = s at *
  cases s with
  | bld h t n => cases hf
  | raw v => cases v with
   | slice a n c => cases a <;> cases n <;> cases c <;> rfl
   | _ => rfl
  | isl t xs => cases t <;> rfl
  | _ => rfl
theorem mlk_same {G : List Nat} {H' : List SObj} {ev : Operand → SV} {kk : Option IntKind} {z : Value} {ok : Bool} {m k : Operand} (hf : floatOk G ev (.mlk kk z ok m k) = true) : (IOp.mlk kk z ok m k).ev H' ev = (IOp.mlk kk z ok m k).ev H ev := by
 simp only [IOp.ev, floatOk] at *
 generalize ev m = s at *
 cases s <;> first | rfl | (simp at hf; done)
theorem ev_same {G : List Nat} {H' : List SObj} {i : IOp} {ev : Operand → SV} (hf : floatOk G ev i = true) (hs : SameG G H H') : i.ev H' ev = i.ev H ev := by
 cases i <;> first | rfl | (simp [floatOk] at hf; done) | skip
 case toStr b x => exact str_same hf
 case mlk => exact mlk_same hf
 case ld ag x =>
  simp only [IOp.ev, floatOk] at *
  generalize ev x = s at *
  cases s <;> first | rfl | skip
  · rename_i v
    cases v <;> try rfl
    rename_i p
    cases p <;> try rfl
    rename_i a
    obtain ⟨b, off, sp⟩ := a
    cases sp <;> rfl
  · simp only at hf
    simp only [evLd]
    rw [hs _ (by simpa using hf)]
  · simp only at hf
    simp only [evLd]
    rw [hs _ (by simpa using hf)]
 case ldS ag x =>
  simp only [IOp.ev, floatOk, Bool.and_eq_true] at *
  replace hf := hf.2
  generalize ev x = s at *
  cases s <;> first | rfl | skip
  · rename_i v
    cases v <;> try rfl
    rename_i p
    cases p <;> try rfl
    rename_i a
    obtain ⟨b, off, sp⟩ := a
    cases sp <;> rfl
  · simp only at hf
    simp only [evLd]
    rw [hs _ (by simpa using hf)]
  · simp only at hf
    simp only [evLd]
    rw [hs _ (by simpa using hf)]

theorem floatS {G : List Nat} {ev : Operand → SV} {i : IOp} (h : floatOk G ev (toS i) = true) : floatOk G ev i = true ∧ (isLd i = true → strictG G = true) := by
 cases i <;> first | exact ⟨h, fun hl => absurd hl Bool.false_ne_true⟩ | skip
 case ld ag x =>
  simp only [toS, floatOk, Bool.and_eq_true] at h
  exact ⟨by simp only [floatOk]; exact h.2, fun _ => h.1⟩
 case ldS ag x =>
  refine ⟨h, fun _ => ?_⟩
  simp only [toS, floatOk, Bool.and_eq_true] at h
  exact h.1
theorem float0 {G : List Nat} {all : Array Oper} {listed : Array Bool} {i : Nat} {fl : Bool} {ev : Operand → SV} {io io0 : OpI} (hop : (io = io0 ∧ (fl = true → ldChk all listed i = true)) ∨ (fl = true ∧ io.op = toS io0.op)) (hfl : fl = true) (hf : floatOk G ev io.op = true) :
 floatOk G ev io0.op = true ∧ (∀ H, io.op.ev H ev = io0.op.ev H ev) ∧ (isLd io0.op = true → ldChk all listed i = true ∨ strictG G = true) := by
 rcases hop with ⟨rfl, h⟩ | ⟨_, h⟩
 · exact ⟨hf, fun _ => rfl, fun _ => .inl (h hfl)⟩
 · rw [h] at hf
   have h1 := floatS hf
   exact ⟨h1.1, fun H => by rw [h, toS_ev], fun hl => .inr (h1.2 hl)⟩
theorem op0 {all : Array Oper} {listed : Array Bool} {i : Nat} {fl : Bool} {ev : Operand → SV} {io io0 : OpI} (hop : (io = io0 ∧ (fl = true → ldChk all listed i = true)) ∨ (fl = true ∧ io.op = toS io0.op)) (H : List SObj) : io.op.ev H ev = io0.op.ev H ev := by
 rcases hop with ⟨rfl, h⟩ | ⟨_, h⟩
 · rfl
 · rw [h, toS_ev]
theorem ev_same0 {H' : List SObj} {G : List Nat} {i : IOp} {ev : Operand → SV} (hf : floatOk G ev i = true) (hl : isLd i = false) : i.ev H' ev = i.ev H ev := by
 cases i <;> first | rfl | (simp [floatOk] at hf; done) | (simp [isLd] at hl; done) | skip
 case toStr b x => exact str_same hf
 case mlk => exact mlk_same hf
theorem isLd_comp {all : Array Oper} {o : Oper} {io : OpI} (h : compO P all o = some io) (hl : isLd io.op = true) : needsLd o = true := by
 rw [← (compOp'_ok (compO_op' h).1).2.1]; exact hl
theorem gkI_comp {all : Array Oper} {o : Oper} {io : OpI} (h : compO P all o = some io) : gk o = gkI io.op := (compOp'_ok (compO_op' h).1).2.2.symm

theorem planChk_true {all : Array Oper} {listed : Array Bool} {i : Nat} (h : planChk all listed i true = true) : ((Region.ready .any all listed).contains i && Region.free .any all listed i) = true ∧ ldChkS all listed i = true := by
 simp only [planChk, if_true] at h
 rw [Bool.and_eq_true] at h
 exact h

theorem any_pure {all : Array Oper} {G : List Nat} {o : Oper} {io : OpI} {p : Prop} {s : SV} {i n : Nat} {listed : Array Bool} {k' : List It} (ho : all[i]? = some o) (hc : compO P all o = some io) (hw : wantedT all t o = some true) (hf : floatOk G (evT t) io.op = true) (he : io.op.ev H (evT t) = .val p s) (hp : p) (hL : isLd io.op = true → ldChk all listed i = true ∨ strictG G = true)
 (hB : planChk all listed i true = true) (h : AnyV P AQ k0 k' all G n (listed.setIfInBounds i true) (putT t o.dst s) H) : AnyV P AQ k0 k' all G (n + 1) listed t H := by
 obtain ⟨h1, h2⟩ := planChk_true hB
 cases hl : isLd io.op with
 | false => exact any_float h1 ho (.inl ⟨hw, fun H' _ K hk => ev_sound (compO_op hc).1 (by rw [ev_same0 (H := H) hf hl, he]; exact ⟨hp, hk⟩)⟩) h
 | true =>
  rcases hL hl with h3 | h3
  · have hL : ldFree all listed i = true := by
     simp only [ldChk, ho, isLd_comp hc hl] at h3
     simpa using h3
    exact any_floatG h1 hL ho (.inl ⟨hw, fun H' hs K hk => ev_sound (compO_op hc).1 (by rw [ev_same hf hs, he]; exact ⟨hp, hk⟩)⟩) h
  · have hL : closedB all listed = true := by
     simp only [ldChkS, ho, isLd_comp hc hl] at h2
     simpa using h2
    exact any_floatS h3 h1 hL ho (.inl ⟨hw, fun H' hs K hk => ev_sound (compO_op hc).1 (by rw [ev_same hf hs, he]; exact ⟨hp, hk⟩)⟩) h

theorem sd_float {G : List Nat} {io : OpI} {l : List (Bool × OpI)} {p : Prop} {s : SV} (hg : io.guard = none) (hf : floatOk G (evT t) io.op = true) (he : io.op.ev H (evT t) = .val p s) (hp : p) (h : SoundI P AQ ⟨k0, .dops G l :: k, putT t io.dst s, H⟩) :
 SoundI P AQ ⟨k0, .dops G ((true, io) :: l) :: k, t, H⟩ := by
 intro all listed fuel k' hpl hr
 obtain ⟨n, i, o, io0, rfl, ho, hco, hpl', hB, hdst, hgd, hop⟩ := planL_cons hpl
 obtain ⟨hf0, he0, hL⟩ := float0 hop rfl hf
 refine any_pure ho hco ((compO_wanted hco).1 (hgd ▸ hg)) hf0 ((he0 H).symm.trans he) hp hL hB ?_
 rw [← (compO_op hco).2, ← hdst]
 exact h all _ n k' hpl' hr

theorem anyV_lit {all : Array Oper} {G : List Nat} {fuel : Nat} {listed : Array Bool} {k' : List It} (d : Nat) {v b : Bool} (hv : t.getD d .any = .raw (.bool v)) (e : v = b) (h : AnyV P AQ k0 k' all G fuel listed (t.set d (.raw (.bool b))) H) : AnyV P AQ k0 k' all G fuel listed t H := by
 subst e
 have : t.set d (.raw (.bool v)) = t := by
  rcases Nat.lt_or_ge d t.length with hl | hl
  · apply List.ext_getElem?
    intro i
    by_cases hi : i = d
    · subst hi
      rw [List.getElem?_set_self hl, ← hv, List.getD_eq_getElem?_getD, List.getElem?_eq_getElem hl]; rfl
    · rw [List.getElem?_set_ne (Ne.symm hi)]
  · exact List.set_eq_of_length_le hl
 rwa [this] at h

theorem sd_guard {G : List Nat} {fl : Bool} {io : OpI} {l : List (Bool × OpI)} {d : Nat} {v b : Bool} (hg : io.guard = some (d, b)) (hv : t.getD d .any = .raw (.bool v))
 (h1 : v = b → SoundI P AQ ⟨k0, .dops G ((fl, { io with guard := some (d, b) }) :: l) :: k, t.set d (.raw (.bool b)), H⟩)
 (h2 : v = !b → SoundI P AQ ⟨k0, .dops G ((fl, { io with guard := some (d, b) }) :: l) :: k, t.set d (.raw (.bool !b)), H⟩) : SoundI P AQ ⟨k0, .dops G ((fl, io) :: l) :: k, t, H⟩ := by
 have hio : { io with guard := some (d, b) } = io := by cases io; simp at hg; subst hg; rfl
 rw [hio] at h1 h2
 intro all listed fuel k' hpl hr
 by_cases hb : v = b
 · exact anyV_lit d hv hb (h1 hb all listed fuel k' hpl hr)
 · have hb' : v = !b := by cases v <;> cases b <;> simp_all
   exact anyV_lit d hv hb' (h2 hb' all listed fuel k' hpl hr)

theorem sd_float_g {G : List Nat} {io : OpI} {l : List (Bool × OpI)} {d : Nat} {b : Bool} {p : Prop} {s : SV} (hg : io.guard = some (d, b)) (hv : t.getD d .any = .raw (.bool b)) (hf : floatOk G (evT t) io.op = true) (he : io.op.ev H (evT t) = .val p s) (hp : p) (h : SoundI P AQ ⟨k0, .dops G l :: k, putT t io.dst s, H⟩) :
 SoundI P AQ ⟨k0, .dops G ((true, io) :: l) :: k, t, H⟩ := by
 intro all listed fuel k' hpl hr
 obtain ⟨n, i, o, io0, rfl, ho, hco, hpl', hB, hdst, hgd, hop⟩ := planL_cons hpl
 obtain ⟨hf0, he0, hL⟩ := float0 hop rfl hf
 refine any_pure ho hco (by rw [(compO_wanted hco).2.1 d b b (hgd ▸ hg) hv]; simp) hf0 ((he0 H).symm.trans he) hp hL hB ?_
 rw [← (compO_op hco).2, ← hdst]
 exact h all _ n k' hpl' hr
theorem any_drop {all : Array Oper} {G : List Nat} {fuel i : Nat} {listed : Array Bool} {o : Oper} {k' : List It} (fl : Bool) (hB : planChk all listed i fl = true) (ho : all[i]? = some o) (hw : wantedT all t o = some false)
 (h : AnyV P AQ k0 k' all G fuel (listed.setIfInBounds i true) (putT t o.dst (.raw (.tuple #[]))) H) : AnyV P AQ k0 k' all G (fuel + 1) listed t H := by
 cases fl with
 | true => exact any_skip (planChk_true hB).1 ho hw h
 | false =>
  have hB' : Region.ready .any all listed = [i] := by simpa [planChk] using hB
  refine ⟨fun h0 => (by rw [hB'] at h0; cases h0), fun j hj => ?_⟩
  rw [hB'] at hj
  obtain rfl : j = i := by simpa using hj
  exact ⟨o, ho, .inr ⟨hw, SameG.refl _ _, h⟩⟩
theorem sd_drop {G : List Nat} {fl : Bool} {io : OpI} {l : List (Bool × OpI)} {d : Nat} {b : Bool} (hg : io.guard = some (d, b)) (hv : t.getD d .any = .raw (.bool !b)) (h : SoundI P AQ ⟨k0, .dops G l :: k, putT t io.dst (.raw (.tuple #[])), H⟩) :
 SoundI P AQ ⟨k0, .dops G ((fl, io) :: l) :: k, t, H⟩ := by
 intro all listed fuel k' hpl hr
 obtain ⟨n, i, o, io0, rfl, ho, hco, hpl', hB, hdst, hgd, hop⟩ := planL_cons hpl
 refine any_drop fl hB ho (by rw [(compO_wanted hco).2.1 d b (!b) (hgd ▸ hg) hv]; simp) ?_
 rw [← (compO_op hco).2, ← hdst]
 exact h all _ n k' hpl' hr

theorem sd_dropU {G : List Nat} {fl : Bool} {io : OpI} {l : List (Bool × OpI)} {d : Nat} {b : Bool} {vs : Array Value} (hg : io.guard = some (d, b)) (hv : t.getD d .any = .raw (.tuple vs)) (h : SoundI P AQ ⟨k0, .dops G l :: k, putT t io.dst (.raw (.tuple #[])), H⟩) :
 SoundI P AQ ⟨k0, .dops G ((fl, io) :: l) :: k, t, H⟩ := by
 intro all listed fuel k' hpl hr
 obtain ⟨n, i, o, io0, rfl, ho, hco, hpl', hB, hdst, hgd, hop⟩ := planL_cons hpl
 refine any_drop fl hB ho ((compO_wanted hco).2.2 d b vs (hgd ▸ hg) hv) ?_
 rw [← (compO_op hco).2, ← hdst]
 exact h all _ n k' hpl' hr

def opKG (P : Program) (AQ : Ex → List SV → List SObj → Prop) (k0 : Nat) (g : Bool) (G : List Nat) (H : List SObj) (td : List IT) (t : List SV) (d : Option Tmp) : Out → List SObj → Prop
 | .ret s, H' => (g = true → SameG G H H') ∧ SoundI P AQ ⟨k0, td, putT t d s, H'⟩
 | .pan s, H' => AQ (.pan s) [] H'
theorem sd_row {G : List Nat} {io : OpI} {l : List (Bool × OpI)} (hg : io.guard = none ∨ ∃ d b, io.guard = some (d, b) ∧ t.getD d .any = .raw (.bool b)) (h : (io.op.ev H (evT t)).to P H (opKG P AQ k0 (gkI io.op || strictG G) G H (.dops G l :: k) t io.dst)) :
 SoundI P AQ ⟨k0, .dops G ((false, io) :: l) :: k, t, H⟩ := by
 intro all listed fuel k' hpl hr
 obtain ⟨n, i, o, io0, rfl, ho, hco, hpl', hB, hdst, hgd, hop⟩ := planL_cons hpl
 have hw : wantedT all t o = some true := by
  rcases hg with hg | ⟨d, b, hg, hv⟩
  · exact (compO_wanted hco).1 (hgd ▸ hg)
  · rw [(compO_wanted hco).2.1 d b b (hgd ▸ hg) hv]; simp
 obtain ⟨rfl, -⟩ : io = io0 ∧ True := by
  rcases hop with h | h
  · exact ⟨h.1, trivial⟩
  · cases h.1
 refine any_row hB ho hw (OpV.mono (ev_sound (compO_op hco).1 h) fun x H' hx => ?_)
 cases x with
 | ret s =>
  simp only [opKG, (compO_op hco).2] at hx
  refine ⟨?_, hx.2 all _ n k' hpl' hr⟩
  simp only [gsel, ho]
  rw [gkI_comp hco]
  split
  · exact hx.1 (by assumption)
  · exact fun _ hh => by cases hh
 | pan s => exact hx

theorem sd_call {G : List Nat} {io : OpI} {l : List (Bool × OpI)} {f : FuncId} {args : List SV} {s : SV} (hg : io.guard = none ∨ ∃ d b, io.guard = some (d, b) ∧ t.getD d .any = .raw (.bool b)) (he : ∀ H', io.op.ev H' (evT t) = .call f args) (hf : enters P f = true)
 (hc : ∀ (H' : List SObj) (K : Out → List SObj → Prop), K (.ret s) H' → VCallG P f args H' K) (h : SoundI P AQ ⟨k0, .dops G l :: k, putT t io.dst s, H⟩) :
 SoundI P AQ ⟨k0, .dops G ((true, io) :: l) :: k, t, H⟩ := by
 intro all listed fuel k' hpl hr
 obtain ⟨n, i, o, io0, rfl, ho, hco, hpl', hB, hdst, hgd, hop⟩ := planL_cons hpl
 have hw : wantedT all t o = some true := by
  rcases hg with hg | ⟨d, b, hg, hv⟩
  · exact (compO_wanted hco).1 (hgd ▸ hg)
  · rw [(compO_wanted hco).2.1 d b b (hgd ▸ hg) hv]; simp
 refine any_float (planChk_true hB).1 ho (.inl ⟨hw, fun H' _ K hk => ev_sound (compO_op hco).1 (by rw [← op0 hop H', he H']; exact ⟨hf, hc H' K hk⟩)⟩) ?_
 rw [← (compO_op hco).2, ← hdst]
 exact h all _ n k' hpl' hr
end Go.Sx
set_option linter.unusedSectionVars false
namespace Go.Sx
open Go

variable [Ghost] {P : Program} {AQ : Ex → List SV → List SObj → Prop} {k0 : Nat} {k : List IT} {t : List SV} {H : List SObj}

def VC (P : Program) (f : FuncId) (args : List SV) (H : List SObj) (K : Out → List SObj → Prop) : Prop := enters P f = true ∧ VCall P f args H K
def VCG (P : Program) (f : FuncId) (args : List SV) (H : List SObj) (K : Out → List SObj → Prop) : Prop := enters P f = true ∧ VCallG P f args H K
theorem VC.g {f : FuncId} {args : List SV} {K : Out → List SObj → Prop} (h : VC P f args H K) : VCG P f args H K := ⟨h.1, h.2.g⟩

def CallI (P : Program) (AQ : Ex → List SV → List SObj → Prop) (f : FuncId) (args : List SV) (d : Option Tmp) (m : IM) : Prop :=
 VCG P f args m.heap (opK P AQ m.k0 m.todo m.tmps d)
def CallR (P : Program) (AQ : Ex → List SV → List SObj → Prop) (G : List Nat) (f : FuncId) (args : List SV) (d : Option Tmp) (m : IM) : Prop :=
 VCG P f args m.heap (opKG P AQ m.k0 true G m.heap m.todo m.tmps d)
def CallF (P : Program) (AQ : Ex → List SV → List SObj → Prop) (f : FuncId) (args : List SV) (d : Option Tmp) (m : IM) : Prop :=
 ∃ s, enters P f = true ∧ (∀ (H' : List SObj) (K : Out → List SObj → Prop), K (.ret s) H' → VCallG P f args H' K) ∧ SoundI P AQ { m with tmps := putT m.tmps d s }

def ZldI (P : Program) (AQ : Ex → List SV → List SObj → Prop) (ag : Option Nat) (b off : Nat) (d : Option Tmp) (m : IM) : Prop := (Res.zld ag b off).to P m.heap (opK P AQ m.k0 m.todo m.tmps d)
def ZstI (P : Program) (AQ : Ex → List SV → List SObj → Prop) (n b off : Nat) (y : SV) (d : Option Tmp) (m : IM) : Prop := (Res.zst n b off y).to P m.heap (opK P AQ m.k0 m.todo m.tmps d)
def ZldR (P : Program) (AQ : Ex → List SV → List SObj → Prop) (g : Bool) (G : List Nat) (ag : Option Nat) (b off : Nat) (d : Option Tmp) (m : IM) : Prop := (Res.zld ag b off).to P m.heap (opKG P AQ m.k0 g G m.heap m.todo m.tmps d)
def ZstR (P : Program) (AQ : Ex → List SV → List SObj → Prop) (g : Bool) (G : List Nat) (n b off : Nat) (y : SV) (d : Option Tmp) (m : IM) : Prop := (Res.zst n b off y).to P m.heap (opKG P AQ m.k0 g G m.heap m.todo m.tmps d)

def exec (P : Program) (AQ : Ex → List SV → List SObj → Prop) (rec : IM → Prop) (k0 : Nat) (td : List IT) (t : List SV) (H : List SObj) (d : Option Tmp) : Res → Prop
 | .val p s => p ∧ rec ⟨k0, td, putT t d s, H⟩
 | .amb E s => ∀ b : Bool, (b = true → E) → rec ⟨k0, td, putT t d (s b), H⟩
 | .new p s Hk so => p ∧ rec ⟨k0, td, putT t d s, Hk ++ [so]⟩
 | .set s h so => rec ⟨k0, td, putT t d s, H.set h so⟩
 | .setp p s h so => p ∧ rec ⟨k0, td, putT t d s, H.set h so⟩
 | .call f args => CallI P AQ f args d ⟨k0, td, t, H⟩
 | .zld ag b off => ZldI P AQ ag b off d ⟨k0, td, t, H⟩
 | .zst n b off y => ZstI P AQ n b off y d ⟨k0, td, t, H⟩
 | .pan s => AQ (.pan s) t H
 | .none => False

def execR (P : Program) (AQ : Ex → List SV → List SObj → Prop) (rec : IM → Prop) (g : Bool) (k0 : Nat) (G : List Nat) (td : List IT) (t : List SV) (H : List SObj) (d : Option Tmp) : Res → Prop
 | .val p s => p ∧ rec ⟨k0, td, putT t d s, H⟩
 | .amb E s => ∀ b : Bool, (b = true → E) → rec ⟨k0, td, putT t d (s b), H⟩
 | .new p s Hk so => p ∧ (g = true → SameG G H (Hk ++ [so])) ∧ rec ⟨k0, td, putT t d s, Hk ++ [so]⟩
 | .set s h so => (g = true → SameG G H (H.set h so)) ∧ rec ⟨k0, td, putT t d s, H.set h so⟩
 | .setp p s h so => p ∧ (g = true → SameG G H (H.set h so)) ∧ rec ⟨k0, td, putT t d s, H.set h so⟩
 | .call f args => g = true ∧ CallR P AQ G f args d ⟨k0, td, t, H⟩
 | .zld ag b off => ZldR P AQ g G ag b off d ⟨k0, td, t, H⟩
 | .zst n b off y => ZstR P AQ g G n b off y d ⟨k0, td, t, H⟩
 | .pan s => AQ (.pan s) [] H
 | .none => False

def execF (P : Program) (AQ : Ex → List SV → List SObj → Prop) (rec : IM → Prop) (c : Bool) (k0 : Nat) (td : List IT) (t : List SV) (H : List SObj) (d : Option Tmp) : Res → Prop
 | .val p s => p ∧ rec ⟨k0, td, putT t d s, H⟩
 | .call f args => c = true ∧ CallF P AQ f args d ⟨k0, td, t, H⟩
 | _ => False

def gOf : Nat → List Nat
 | 0 => []
 | n + 1 => n :: gOf n

def isCallI : IOp → Bool
 | .call _ _ => true
 | _ => false

def bothG (b v : Bool) (A B : Prop) : Prop := (v = b → A) ∧ (v = !b → B)
theorem bothG_tt (A B : Prop) : bothG true true A B = A := by simp [bothG]
theorem bothG_tf (A B : Prop) : bothG true false A B = B := by simp [bothG]
theorem bothG_ft (A B : Prop) : bothG false true A B = B := by simp [bothG]
theorem bothG_ff (A B : Prop) : bothG false false A B = A := by simp [bothG]
theorem bothG_t (v : Bool) (A B : Prop) : bothG true v A B = ((v = true → A) ∧ (v = false → B)) := rfl
theorem bothG_f (v : Bool) (A B : Prop) : bothG false v A B = ((v = false → A) ∧ (v = true → B)) := rfl
theorem sameG_cons {h : Nat} {G : List Nat} {H H' : List SObj} : SameG (h :: G) H H' = (H'[h]? = H[h]? ∧ SameG G H H') := by simp [SameG]
theorem sameG_nil {H H' : List SObj} : SameG [] H H' = True := by simp [SameG]

def run (P : Program) (AQ : Ex → List SV → List SObj → Prop) : Nat → IM → Prop
 | 0, m => SoundI P AQ m
 | n + 1, ⟨k0, td, t, H⟩ => match td with
  | [] => AQ .normal t H
  | .ic c :: k => match c with
   | .skip => run P AQ n ⟨k0, k, t, H⟩
   | .seq a b => run P AQ n ⟨k0, .ic a :: .ic b :: k, t, H⟩
   | .cond c a b => match evT t c with
    | .raw (.bool v) => bothG true v (run P AQ n ⟨k0, .ic a :: k, t, H⟩) (run P AQ n ⟨k0, .ic b :: k, t, H⟩)
    | _ => False
   | .blk id c => run P AQ n ⟨k0, .ic c :: .blk id :: k, t, H⟩
   | .loop c => SoundI P AQ ⟨k0, .ic (.loop c) :: k, t, H⟩
   | .exit id => match exitI id k with
    | some k' => run P AQ n ⟨k0, k', t, H⟩
    | none => False
   | .ret => AQ .ret t H
   | .reg l => run P AQ n ⟨k0, .ops l :: k, t, H⟩
   | .drw l => run P AQ n ⟨k0, .dops (gOf H.length) l :: k, t, H⟩
  | .blk _ :: k => run P AQ n ⟨k0, k, t, H⟩
  | .stop Φ :: _ => Φ t H
  | .ops l :: k => match l with
   | [] => run P AQ n ⟨k0, k, t, H⟩
   | io :: l => match io.guard with
    | none => exec P AQ (run P AQ n) k0 (.ops l :: k) t H io.dst (io.op.ev H (evT t))
    | some (d, b) => match t.getD d .any with
     | .raw (.bool v) => bothG b v (exec P AQ (run P AQ n) k0 (.ops l :: k) (t.set d (.raw (.bool b))) H io.dst (io.op.ev H (evT (t.set d (.raw (.bool b))))))
      (run P AQ n ⟨k0, .ops l :: k, putT (t.set d (.raw (.bool !b))) io.dst (.raw (.tuple #[])), H⟩)
     | .raw (.tuple _) => run P AQ n ⟨k0, .ops l :: k, putT t io.dst (.raw (.tuple #[])), H⟩
     | _ => False
  | .dops G l :: k => match l with
   | [] => run P AQ n ⟨k0, k, t, H⟩
   | (fl, io) :: l => match io.guard with
    | none => match fl with
     | true => (floatOk G (evT t) io.op || isCallI io.op) = true ∧ execF P AQ (run P AQ n) (isCallI io.op) k0 (.dops G l :: k) t H io.dst (io.op.ev H (evT t))
     | false => execR P AQ (run P AQ n) (gkI io.op || strictG G) k0 G (.dops G l :: k) t H io.dst (io.op.ev H (evT t))
    | some (d, b) => match t.getD d .any with
     | .raw (.bool v) => bothG b v (match fl with
      | true => (floatOk G (evT (t.set d (.raw (.bool b)))) io.op || isCallI io.op) = true ∧ execF P AQ (run P AQ n) (isCallI io.op) k0 (.dops G l :: k) (t.set d (.raw (.bool b))) H io.dst (io.op.ev H (evT (t.set d (.raw (.bool b)))))
      | false => execR P AQ (run P AQ n) (gkI io.op || strictG G) k0 G (.dops G l :: k) (t.set d (.raw (.bool b))) H io.dst (io.op.ev H (evT (t.set d (.raw (.bool b))))))
      (run P AQ n ⟨k0, .dops G l :: k, putT (t.set d (.raw (.bool !b))) io.dst (.raw (.tuple #[])), H⟩)
     | .raw (.tuple _) => run P AQ n ⟨k0, .dops G l :: k, putT t io.dst (.raw (.tuple #[])), H⟩
     | _ => False

theorem exec_to {rec : IM → Prop} (hrec : ∀ m, rec m → SoundI P AQ m) {td : List IT} {d : Option Tmp} {r : Res} (h : exec P AQ rec k0 td t H d r) : r.to P H (opK P AQ k0 td t d) := by
 cases r with
 | val p s => exact ⟨h.1, hrec _ h.2⟩
 | amb E s => exact fun b hb => hrec _ (h b hb)
 | new p s Hk so => exact ⟨h.1, hrec _ h.2⟩
 | set s x so => exact hrec _ h
 | setp p s x so => exact ⟨h.1, hrec _ h.2⟩
 | call f args => exact h
 | zld ag b off => exact h
 | zst n b off y => exact h
 | pan s => exact h
 | none => exact h
theorem execR_to {rec : IM → Prop} (hrec : ∀ m, rec m → SoundI P AQ m) {G : List Nat} {td : List IT} {d : Option Tmp} {r : Res} {g : Bool} (h : execR P AQ rec g k0 G td t H d r) : r.to P H (opKG P AQ k0 g G H td t d) := by
 cases r with
 | val p s => exact ⟨h.1, fun _ => SameG.refl _ _, hrec _ h.2⟩
 | amb E s => exact fun b hb => ⟨fun _ => SameG.refl _ _, hrec _ (h b hb)⟩
 | new p s Hk so => exact ⟨h.1, h.2.1, hrec _ h.2.2⟩
 | set s x so => exact ⟨h.1, hrec _ h.2⟩
 | setp p s x so => exact ⟨h.1, h.2.1, hrec _ h.2.2⟩
 | call f args => obtain ⟨rfl, h⟩ := h; exact h
 | zld ag b off => exact h
 | zst n b off y => exact h
 | pan s => exact h
 | none => exact h

theorem call_ev {i : IOp} {H' : List SObj} {ev : Operand → SV} {f : FuncId} {args : List SV} (key : isCallI i = true) (h : i.ev H ev = .call f args) : i.ev H' ev = .call f args := by
 cases i <;> first | exact h | simp [isCallI] at key

theorem execF_sound {rec : IM → Prop} (hrec : ∀ m, rec m → SoundI P AQ m) {G : List Nat} {io : OpI} {l : List (Bool × OpI)} (hg : io.guard = none ∨ ∃ d b, io.guard = some (d, b) ∧ t.getD d .any = .raw (.bool b))
 (hf : (floatOk G (evT t) io.op || isCallI io.op) = true) (h : execF P AQ rec (isCallI io.op) k0 (.dops G l :: k) t H io.dst (io.op.ev H (evT t))) : SoundI P AQ ⟨k0, .dops G ((true, io) :: l) :: k, t, H⟩ := by
 generalize hr : io.op.ev H (evT t) = r at h
 cases r with
 | val p s =>
  have hf' : floatOk G (evT t) io.op = true := by
   rcases Bool.or_eq_true_iff.1 hf with h1 | h1
   · exact h1
   · exfalso
     cases hop : io.op <;> rw [hop] at h1 <;> simp [isCallI] at h1
     rw [hop] at hr
     simp only [IOp.ev] at hr
     split at hr <;> cases hr
  rcases hg with hg | ⟨d, b, hg, hv⟩
  · exact sd_float hg hf' hr h.1 (hrec _ h.2)
  · exact sd_float_g hg hv hf' hr h.1 (hrec _ h.2)
 | call f args =>
  obtain ⟨hci, s, h1, h2, h3⟩ := h
  exact sd_call hg (fun H' => call_ev hci hr) h1 h2 h3
 | amb E s => exact h.elim
 | new p s Hk so => exact h.elim
 | set s x so => exact h.elim
 | setp p s x so => exact h.elim
 | zld ag b off => exact h.elim
 | zst n b off y => exact h.elim
 | pan s => exact h.elim
 | none => exact h.elim

theorem run_sound (hm : P.follows .mixedOrders = true) : ∀ (n : Nat) (m : IM), run P AQ n m → SoundI P AQ m
 | 0, _, h => h
 | n + 1, ⟨k0, td, t, H⟩, h => by
  have ih := run_sound hm n
  unfold run at h
  split at h
  · exact si_end h
  · split at h
    · exact si_skip (ih _ h)
    · exact si_seq (ih _ h)
    · split at h
      · exact si_cond (by assumption) (fun e => ih _ (h.1 e)) (fun e => ih _ (h.2 e))
      · exact h.elim
    · exact si_blk (ih _ h)
    · exact h
    · split at h
      · exact si_exit (by assumption) (ih _ h)
      · exact h.elim
    · exact si_ret h
    · exact si_reg (ih _ h)
    · exact si_drw _ hm (ih _ h)
  · exact si_blkEnd (ih _ h)
  · exact si_stop h
  · split at h
    · exact si_opsEnd (ih _ h)
    · split at h
      · exact si_op (by assumption) (exec_to ih h)
      · split at h
        · exact si_guard (by assumption) (by assumption) (fun e => exec_to ih (h.1 e)) (fun e => ih _ (h.2 e))
        · exact si_guardU (by assumption) (by assumption) (ih _ h)
        · exact h.elim
  · split at h
    · exact sd_end (ih _ h)
    · rename_i fl io l
      split at h
      · rename_i hg
        split at h
        · exact execF_sound ih (.inl hg) h.1 h.2
        · exact sd_row (.inl hg) (execR_to ih h)
      · rename_i d b hg
        split at h
        · rename_i v hv
          have hio : { io with guard := some (d, b) } = io := by cases io; simp at hg; subst hg; rfl
          refine sd_guard hg hv (fun e => ?_) (fun e => ?_)
          · rw [hio]
            have h1 := h.1 e
            split at h1
            · exact execF_sound ih (.inr ⟨d, b, hg, getD_set_self hv⟩) h1.1 h1.2
            · exact sd_row (.inr ⟨d, b, hg, getD_set_self hv⟩) (execR_to ih h1)
          · rw [hio]
            exact sd_drop hg (getD_set_self hv) (ih _ (h.2 e))
        · exact sd_dropU hg (by assumption) (ih _ h)
        · exact h.elim
end Go.Sx
set_option linter.unusedSectionVars false
namespace Go.Sx
open Go

variable [Ghost] {P : Program} {AQ : Ex → List SV → List SObj → Prop} {k0 : Nat} {k : List IT} {t : List SV} {H : List SObj}

structure FI where
 ntmps : Nat
 results : List ResultVar
 code : IC

def finfo (P : Program) (f : FuncId) : Option FI :=
 match P.funcs[f]? with
 | some fn => match fn.body with
  | some c => match comp P c with
   | some ic => if fn.name == "runtime.NumGoroutine" then none else some ⟨fn.ntmps, fn.results.toList, ic⟩
   | none => none
  | none => none
 | none => none

def retF (P : Program) (rs : List ResultVar) (K : Out → List SObj → Prop) : Ex → List SV → List SObj → Prop
 | .normal, t, H => ∃ s, resV P t H rs = some s ∧ K (.ret s) H
 | .ret, t, H => ∃ s, resV P t H rs = some s ∧ K (.ret s) H
 | .pan s, _, H => K (.pan s) H
 | .exit _, _, _ => False

theorem vc_fi {f : FuncId} {fi : FI} {args : List SV} {K : Out → List SObj → Prop} (h : finfo P f = some fi)
 (hs : @SoundI noGhost P (retF P fi.results K) ⟨H.length, [.ic fi.code], args ++ List.replicate (fi.ntmps - args.length) .any, H⟩) : VC P f args H K := by
 unfold finfo at h
 split at h
 · rename_i fn hf
   split at h
   · rename_i c hb
     split at h
     · rename_i ic hc
       split at h
       · cases h
       · rename_i hn
         cases h
         refine ⟨by simp [enters, hf, hb]; simpa using hn, ?_⟩
         have hq : retQ P fn K = retF P fn.results.toList K := by funext e t H; cases e <;> rfl
         exact vcall_enter hf hb (by rw [hq]; exact @soundI_get noGhost _ _ _ _ _ _ _ hs ⟨c, [], rfl, hc, rfl⟩)
     · cases h
   · cases h
 · cases h

def PC (P : Program) (f : FuncId) (args : List SV) (s : SV) : Prop := enters P f = true ∧ ∀ (H : List SObj) (K : Out → List SObj → Prop), K (.ret s) H → VCall P f args H K

def PK (s : SV) : Out → List SObj → Prop := fun o _ => o = .ret s

theorem pc_of {f : FuncId} {args : List SV} {s : SV} (ha : SV.cleanL args = true) (hs : s.clean = true) (h : VC P f args [] (PK s)) : PC P f args s :=
 ⟨h.1, fun H K hk => VCall.frame ha hs h.2 H K hk⟩

theorem callI_pure {f : FuncId} {args : List SV} {s : SV} {d : Option Tmp} {m : IM} (hp : PC P f args s) (h : SoundI P AQ { m with tmps := putT m.tmps d s }) : CallI P AQ f args d m :=
 ⟨hp.1, (hp.2 _ _ h).g⟩
theorem callR_pure {G : List Nat} {f : FuncId} {args : List SV} {s : SV} {d : Option Tmp} {m : IM} (hp : PC P f args s) (h : SoundI P AQ { m with tmps := putT m.tmps d s }) : CallR P AQ G f args d m :=
 ⟨hp.1, (hp.2 _ _ ⟨fun _ => SameG.refl _ _, h⟩).g⟩
theorem callF_pure {f : FuncId} {args : List SV} {s : SV} {d : Option Tmp} {m : IM} (hp : PC P f args s) (h : SoundI P AQ { m with tmps := putT m.tmps d s }) : CallF P AQ f args d m :=
 ⟨s, hp.1, fun H' K hk => (hp.2 H' K hk).g, h⟩

mutual
def SV.ren (σ : Nat → Nat) : SV → SV
 | .ptr h off => .ptr (σ h) off
 | .rptr h t i k => .rptr (σ h) t i k
 | .bld h t n => .bld (σ h) t n
 | .osl h t off n => .osl (σ h) t off n
 | .csl h off n => .csl (σ h) off n
 | .mp h => .mp (σ h)
 | .imap kk ks vs => .imap kk ks vs
 | .agg l => .agg (SV.renL σ l)
 | .tup l => .tup (SV.renL σ l)
 | .fn f a b => .fn f (SV.renL σ a) (SV.renL σ b)
 | .iface T x => .iface T (SV.ren σ x)
 | .any => .any
 | .raw v => .raw v
 | .isl t xs => .isl t xs
 | .fsl t xs => .fsl t xs
 | .iptr t x k => .iptr t x k
def SV.renL (σ : Nat → Nat) : List SV → List SV
 | [] => []
 | s :: l => SV.ren σ s :: SV.renL σ l
end
mutual
def SV.bel (n : Nat) : SV → Bool
 | .ptr h _ => decide (h < n)
 | .rptr h _ _ _ => decide (h < n)
 | .bld h _ _ => decide (h < n)
 | .osl h _ _ _ => decide (h < n)
 | .csl h _ _ => decide (h < n)
 | .mp h => decide (h < n)
 | .agg l => SV.belL n l
 | .tup l => SV.belL n l
 | .fn _ a b => SV.belL n a && SV.belL n b
 | .iface _ x => SV.bel n x
 | .any => true
 | .raw _ => true
 | .isl _ _ => true
 | .fsl _ _ => true
 | .iptr _ _ _ => true
 | .imap _ _ _ => true
def SV.belL (n : Nat) : List SV → Bool
 | [] => true
 | s :: l => SV.bel n s && SV.belL n l
end
def Cx.ren (C : Cx) (σ : Nat → Nat) (n : Nat) : Cx := { ρ := fun h => C.ρ (σ h), n := n, I := C.I, w := C.w }

mutual
theorem ren_den {C : Cx} {σ : Nat → Nat} {n : Nat} : ∀ {s : SV} {v : Value}, s.bel n = true → (s.ren σ).den C v → s.den (C.ren σ n) v
 | .any, _, _, _ => by rw [SV.den]; trivial
 | .raw _, _, _, d => by rw [SV.ren, SV.den] at d; rw [SV.den]; exact d
 | .isl _ _, _, _, d => by rw [SV.ren, SV.den] at d; rw [SV.den]; exact d
 | .fsl _ _, _, _, d => by rw [SV.ren, SV.den] at d; rw [SV.den]; exact d
 | .iptr _ _ _, _, _, d => by rw [SV.ren, SV.den] at d; rw [SV.den]; exact d
 | .ptr h off, _, hb, d => by rw [SV.ren, SV.den] at d; rw [SV.den]; exact ⟨by simpa [SV.bel, Cx.ren] using hb, d.2⟩
 | .rptr h t i k, _, hb, d => by rw [SV.ren, SV.den] at d; rw [SV.den]; exact ⟨by simpa [SV.bel, Cx.ren] using hb, d.2⟩
 | .bld h t m, _, hb, d => by rw [SV.ren, SV.den] at d; rw [SV.den]; exact ⟨by simpa [SV.bel, Cx.ren] using hb, d.2⟩
 | .osl h t off m, _, hb, d => by rw [SV.ren, SV.den] at d; rw [SV.den]; exact ⟨by simpa [SV.bel, Cx.ren] using hb, d.2⟩
 | .csl h off m, _, hb, d => by rw [SV.ren, SV.den] at d; rw [SV.den]; exact ⟨by simpa [SV.bel, Cx.ren] using hb, d.2⟩
 | .mp h, _, hb, d => by rw [SV.ren, SV.den] at d; rw [SV.den]; exact ⟨by simpa [SV.bel, Cx.ren] using hb, d.2⟩
 | .imap .., _, _, d => by rw [SV.ren, SV.den] at d; rw [SV.den]; exact d
 | .agg l, _, hb, d => by
  rw [SV.ren, SV.den] at d; rw [SV.den]
  obtain ⟨vs, hv, hl⟩ := d
  exact ⟨vs, hv, renL_den (by simpa [SV.bel] using hb) hl⟩
 | .tup l, _, hb, d => by
  rw [SV.ren, SV.den] at d; rw [SV.den]
  obtain ⟨vs, hv, hl⟩ := d
  exact ⟨vs, hv, renL_den (by simpa [SV.bel] using hb) hl⟩
 | .fn f a b, _, hb, d => by
  rw [SV.ren, SV.den] at d; rw [SV.den]
  obtain ⟨v1, v2, hv, h1, h2⟩ := d
  simp [SV.bel] at hb
  exact ⟨v1, v2, hv, renL_den hb.1 h1, renL_den hb.2 h2⟩
 | .iface T x, _, hb, d => by
  rw [SV.ren, SV.den] at d; rw [SV.den]
  obtain ⟨u, hv, h1⟩ := d
  exact ⟨u, hv, ren_den (by simpa [SV.bel] using hb) h1⟩
theorem renL_den {C : Cx} {σ : Nat → Nat} {n : Nat} : ∀ {l : List SV} {vs : List Value}, SV.belL n l = true → SV.denL C (SV.renL σ l) vs → SV.denL (C.ren σ n) l vs
 | [], _, _, d => by rw [SV.renL, SV.denL] at d; rw [SV.denL]; exact d
 | s :: l, _, hb, d => by
  rw [SV.renL, SV.denL] at d; rw [SV.denL]
  simp [SV.belL] at hb
  obtain ⟨v, us, rfl, h1, h2⟩ := d
  exact ⟨v, us, rfl, ren_den hb.1 h1, renL_den hb.2 h2⟩
end

def SObj.ren (σ : Nat → Nat) : SObj → SObj
 | .cells T cs => .cells T (SV.renL σ cs)
 | o => o
def SObj.bel (n : Nat) : SObj → Bool
 | .cells _ cs => SV.belL n cs
 | _ => true
theorem objRen {C : Cx} {σ : Nat → Nat} {n h : Nat} : ∀ {o : SObj}, o.bel n = true → objDen C (σ h) (o.ren σ) → objDen (C.ren σ n) h o
 | .dead, _, _ => trivial
 | .cells T cs, hb, ⟨b, vs, h1, h2, h3⟩ => ⟨b, vs, h1, h2, renL_den (by simpa [SObj.bel] using hb) h3⟩
 | .row t xs, _, d => d
 | .map kk ks vs, _, d => d

def leS (σ : Nat → Nat) (s : SV) : SV → Prop
 | .any => True
 | s' => s = s'.ren σ
def leT (σ : Nat → Nat) : List SV → List SV → Prop
 | [], [] => True
 | s :: l, s' :: l' => leS σ s s' ∧ leT σ l l'
 | _, _ => False
def leH (σ : Nat → Nat) (H : List SObj) (i : Nat) : List SObj → Prop
 | [] => True
 | .dead :: l => leH σ H (i + 1) l
 | o :: l => H[σ i]? = some (o.ren σ) ∧ leH σ H (i + 1) l
def belH (n : Nat) : List SObj → Bool
 | [] => true
 | o :: l => o.bel n && belH n l
def injH (σ : Nat → Nat) (i : Nat) : List SObj → List Nat → Bool
 | [], _ => true
 | .dead :: l, seen => injH σ (i + 1) l seen
 | _ :: l, seen => !seen.contains (σ i) && injH σ (i + 1) l (σ i :: seen)
def fixK (σ : Nat → Nat) : Nat → Bool
 | 0 => true
 | n + 1 => (σ n == n) && fixK σ n

structure Le (σ : Nat → Nat) (k0 : Nat) (t : List SV) (H : List SObj) (t' : List SV) (H' : List SObj) : Prop where
 tm : leT σ t t'
 hp : leH σ H 0 H'
 bt : SV.belL H'.length t' = true
 bh : belH H'.length H' = true
 inj : injH σ 0 H' [] = true
 fix : fixK σ k0 = true
 len : k0 ≤ H'.length

theorem leS_den {C : Cx} {σ : Nat → Nat} {n : Nat} {s s' : SV} {v : Value} (h : leS σ s s') (hb : s'.bel n = true) (hd : s.den C v) : s'.den (C.ren σ n) v := by
 cases s' <;> first | (rw [SV.den]; trivial) | (simp only [leS] at h; rw [h] at hd; exact ren_den hb hd)
theorem leT_den {C : Cx} {σ : Nat → Nat} {n : Nat} : ∀ {t t' : List SV} {vs : List Value}, leT σ t t' → SV.belL n t' = true → SV.denL C t vs → SV.denL (C.ren σ n) t' vs
 | [], [], _, _, _, d => by rw [denL_nil] at d ⊢; exact d
 | s :: l, s' :: l', _, h, hb, d => by
  obtain ⟨v, us, rfl, h1, h2⟩ := denL_cons.1 d
  simp [SV.belL] at hb
  exact denL_cons.2 ⟨v, us, rfl, leS_den h.1 hb.1 h1, leT_den h.2 hb.2 h2⟩
 | [], _ :: _, _, h, _, _ => h.elim
 | _ :: _, [], _, h, _, _ => h.elim
theorem leH_get {σ : Nat → Nat} : ∀ {H' : List SObj} {i h : Nat} {o : SObj}, leH σ H i H' → H'[h]? = some o → o.live = true → H[σ (i + h)]? = some (o.ren σ)
 | [], _, _, _, _, hi, _ => by simp at hi
 | x :: l, i, 0, o, hl, hi, hlive => by
  simp at hi; subst hi
  cases x with
  | dead => simp [SObj.live] at hlive
  | cells T cs => exact hl.1
  | row t xs => exact hl.1
  | map kk ks vs => exact hl.1
 | x :: l, i, h + 1, o, hl, hi, hlive => by
  simp at hi
  have : leH σ H (i + 1) l := by
   cases x with
   | dead => exact hl
   | cells T cs => exact hl.2
   | row t xs => exact hl.2
   | map kk ks vs => exact hl.2
  have := leH_get this hi hlive
  rwa [show i + 1 + h = i + (h + 1) by omega] at this
theorem belH_get {n : Nat} : ∀ {H' : List SObj} {h : Nat} {o : SObj}, belH n H' = true → H'[h]? = some o → o.bel n = true
 | [], _, _, _, hi => by simp at hi
 | x :: l, 0, o, hb, hi => by simp at hi; subst hi; simp [belH] at hb; exact hb.1
 | x :: l, h + 1, o, hb, hi => by simp at hi; simp [belH] at hb; exact belH_get hb.2 hi
theorem injH_seen {σ : Nat → Nat} : ∀ {H' : List SObj} {i h : Nat} {o : SObj} {seen : List Nat}, injH σ i H' seen = true → H'[h]? = some o → o.live = true → σ (i + h) ∉ seen
 | [], _, _, _, _, _, hi, _ => by simp at hi
 | x :: l, i, 0, o, seen, hj, hi, hl => by
  simp at hi; subst hi
  cases x with
  | dead => simp [SObj.live] at hl
  | cells T cs => simp [injH] at hj; simpa using hj.1
  | row t xs => simp [injH] at hj; simpa using hj.1
  | map kk ks vs => simp [injH] at hj; simpa using hj.1
 | x :: l, i, h + 1, o, seen, hj, hi, hl => by
  simp at hi
  have e : i + 1 + h = i + (h + 1) := by omega
  cases x with
  | dead => have := injH_seen (i := i + 1) (seen := seen) (by simpa [injH] using hj) hi hl; rwa [e] at this
  | cells T cs => simp [injH] at hj; have := injH_seen hj.2 hi hl; rw [e] at this; exact fun hm => this (List.mem_cons_of_mem _ hm)
  | row t xs => simp [injH] at hj; have := injH_seen hj.2 hi hl; rw [e] at this; exact fun hm => this (List.mem_cons_of_mem _ hm)
  | map kk ks vs => simp [injH] at hj; have := injH_seen hj.2 hi hl; rw [e] at this; exact fun hm => this (List.mem_cons_of_mem _ hm)
theorem injH_inj {σ : Nat → Nat} : ∀ {H' : List SObj} {i h h' : Nat} {o o' : SObj} {seen : List Nat}, injH σ i H' seen = true → H'[h]? = some o → H'[h']? = some o' → o.live = true → o'.live = true → h < h' → σ (i + h) ≠ σ (i + h')
 | [], _, _, _, _, _, _, _, hi, _, _, _, _ => by simp at hi
 | x :: l, i, 0, h' + 1, o, o', seen, hj, hi, hi', hl, hl', _ => by
  simp at hi hi'; subst hi
  have e : i + 1 + h' = i + (h' + 1) := by omega
  cases x with
  | dead => simp [SObj.live] at hl
  | cells T cs => simp [injH] at hj; have := injH_seen hj.2 hi' hl'; rw [e] at this; simp at this; exact fun he => this.1 he.symm
  | row t xs => simp [injH] at hj; have := injH_seen hj.2 hi' hl'; rw [e] at this; simp at this; exact fun he => this.1 he.symm
  | map kk ks vs => simp [injH] at hj; have := injH_seen hj.2 hi' hl'; rw [e] at this; simp at this; exact fun he => this.1 he.symm
 | x :: l, i, h + 1, h' + 1, o, o', seen, hj, hi, hi', hl, hl', hlt => by
  simp at hi hi'
  have e : i + 1 + h' = i + (h' + 1) := by omega
  have e2 : i + 1 + h = i + (h + 1) := by omega
  cases x with
  | dead => have := injH_inj (i := i + 1) (seen := seen) (by simpa [injH] using hj) hi hi' hl hl' (by omega); rwa [e, e2] at this
  | cells T cs => simp [injH] at hj; have := injH_inj hj.2 hi hi' hl hl' (by omega); rwa [e, e2] at this
  | row t xs => simp [injH] at hj; have := injH_inj hj.2 hi hi' hl hl' (by omega); rwa [e, e2] at this
  | map kk ks vs => simp [injH] at hj; have := injH_inj hj.2 hi hi' hl hl' (by omega); rwa [e, e2] at this
theorem fixK_get {σ : Nat → Nat} : ∀ {n h : Nat}, fixK σ n = true → h < n → σ h = h
 | 0, _, _, hh => absurd hh (by omega)
 | n + 1, h, hf, hh => by
  simp [fixK] at hf
  by_cases e : h = n
  · rw [e]; exact hf.1
  · exact fixK_get hf.2 (by omega)
theorem ren_live (σ : Nat → Nat) (o : SObj) : (o.ren σ).live = o.live := by cases o <;> rfl

theorem Le.wd {σ : Nat → Nat} {t' : List SV} {H' : List SObj} {E : EnD} {C : Cx} {a : Act} (h : Le σ k0 t H t' H') (he : E.C.n ≤ k0) (hd : Den E C t H a) : Den E (C.ren σ H'.length) t' H' a := by
 have hown : ∀ b, OwnB (C.ren σ H'.length) H' b → OwnB C H b := by
  rintro b ⟨i, o, ho, hl, hb⟩
  have := leH_get h.hp ho hl
  rw [Nat.zero_add] at this
  exact ⟨σ i, _, this, by rw [ren_live]; exact hl, hb⟩
 have hevo : Evo E.C (C.ren σ H'.length) := ⟨Nat.le_trans he h.len, fun x hx => by simp only [Cx.ren]; rw [fixK_get h.fix (by omega)]; exact hd.ext.evo.ρ x hx, hd.ext.evo.I, hd.ext.evo.sz⟩
 refine ⟨⟨rfl, ?_, fun b hb => hd.wd.own b (hown b hb), ?_, hd.wd.imm⟩, ⟨hevo, hd.ext.size, hd.ext.os, hd.ext.tape, hd.ext.output, hd.ext.frame, hd.ext.immNew, fun b hb => hd.ext.ownNew b (hown b hb)⟩, ?_, leT_den h.tm h.bt hd.tmps⟩
 · intro i o ho
   by_cases hl : o.live = true
   · have := leH_get h.hp ho hl
     rw [Nat.zero_add] at this
     exact objRen (belH_get h.bh ho) (hd.wd.obj _ _ this)
   · cases o <;> first | trivial | simp [SObj.live] at hl
 · intro i j o o' b ho ho' hl hl' hb hb'
   have e1 := leH_get h.hp ho hl
   have e2 := leH_get h.hp ho' hl'
   rw [Nat.zero_add] at e1 e2
   have hσ := hd.wd.inj (σ i) (σ j) _ _ b e1 e2 (by rw [ren_live]; exact hl) (by rw [ren_live]; exact hl') hb hb'
   rcases Nat.lt_trichotomy i j with hij | hij | hij
   · have := injH_inj h.inj ho ho' hl hl' hij
     rw [Nat.zero_add, Nat.zero_add] at this
     exact absurd hσ this
   · exact hij
   · have := injH_inj h.inj ho' ho hl' hl hij
     rw [Nat.zero_add, Nat.zero_add] at this
     exact absurd hσ.symm this
 · exact ⟨hd.defs.1, Ghost.same hd.wd rfl (fun _ hb => .inl hb) hown hd.defs.2⟩

theorem si_freeze (h : Nat) {ty : Ty} {xs : List ty.den} {td : List IT} (hp : plainT td = true) (hH : H[h]? = some (.row ty xs)) (hlen : xs.length ≤ 1125899906842624) (ho : frzObH h ty xs H) (hot : SV.frzObL h ty xs t) (hs : SoundI P AQ ⟨k0, td, SV.frzL h ty xs t, frzH h ty xs H⟩) : SoundI P AQ ⟨k0, td, t, H⟩ :=
 soundI_plain (fun _ hr => sound_freeze h hH hlen ho hot (soundI_get hs hr)) hp

def OpI.wr (io : OpI) : List Nat := io.dst.toList
def IC.wr : IC → List Nat
 | .reg l => l.flatMap OpI.wr
 | .drw l => l.flatMap fun x => OpI.wr x.2
 | .seq a b => a.wr ++ b.wr
 | .cond _ a b => a.wr ++ b.wr
 | .blk _ c => c.wr
 | .loop c => c.wr
 | _ => []
def maskT (ws : List Nat) (t : List SV) : List SV := ws.foldl (fun t d => t.set d .any) t
end Go.Sx
namespace Go.Sx
open Go
/- Short forms of operations. -/
def ci (n : Int) : Operand := .const (.int .i64 n)
def o0 (i : IOp) : OpI := ⟨none, i, none⟩
def o1 (d : Nat) (i : IOp) : OpI := ⟨some d, i, none⟩
def oT (d : Nat) (i : IOp) (g : Nat) : OpI := ⟨some d, i, some (g, true)⟩
def oF (d : Nat) (i : IOp) (g : Nat) : OpI := ⟨some d, i, some (g, false)⟩
def mv (d x : Nat) : OpI := ⟨some d, .mov (.tmp x), none⟩
def ex (d i x : Nat) : OpI := ⟨some d, .ext i (.tmp x), none⟩
attribute [go_sem] ci o0 o1 oT oF mv ex strictG
theorem zA : (∀ A B : Prop, bothG true true A B = A) ∧ (∀ A B : Prop, bothG true false A B = B) ∧ (∀ A B : Prop, bothG false true A B = B) ∧ (∀ A B : Prop, bothG false false A B = A) := ⟨bothG_tt, bothG_tf, bothG_ft, bothG_ff⟩
theorem zB : (∀ (v : Bool) (A B : Prop), bothG true v A B = ((v = true → A) ∧ (v = false → B))) ∧ (∀ (v : Bool) (A B : Prop), bothG false v A B = ((v = false → A) ∧ (v = true → B))) ∧ (∀ (p : Prop) [Decidable p], (decide p = true) = p) ∧ (∀ (p : Prop) [Decidable p], (decide p = false) = ¬ p) ∧
 (∀ b : Bool, ((!b) = true) = (b = false)) ∧ (∀ b : Bool, ((!b) = false) = (b = true)) ∧ (∀ m n : Nat, ((m : Int) < (n : Int)) = (m < n)) ∧ (∀ m n : Nat, ((m : Int) ≤ (n : Int)) = (m ≤ n)) :=
 ⟨bothG_t, bothG_f, fun p _ => decide_eq_true_eq, fun p _ => propext decide_eq_false_iff_not, fun b => Bool.not_eq_true' b, fun b => Bool.not_eq_false' b, fun m n => propext Int.ofNat_lt, fun m n => propext Int.ofNat_le⟩
attribute [go_sem] sameG_cons sameG_nil gkI mapOf mres mget mput findI keyEq keyIs SV.toV SV.toVL SV.ofV SV.wk fullS run exec execR execF IOp.ev evLd evSt evBin evEq evNil SV.emp eqRs eqR eqOk eqV binV unV evT putT SV.flat SV.one SV.nonNil ones rawL Sx.pick splice fillS PlaceK.fn SV.add SV.len lenOk slOk sliceTo lenOfS bndV loOf hiOf exitI gOf floatOk isCallI retF resV resVL resV1 PK rdL Ty.rd rdU8 rdInt rdBool rdStr rdSlice rdUnit Ty.size Ty.cells Value.cells Value.oneCell' srcS srcOf dstOf List.getD_cons_zero List.getD_cons_succ List.set_cons_zero List.set_cons_succ List.cons_append List.nil_append List.append_nil List.replicate List.length_cons List.length_nil List.map_cons List.map_nil List.getElem?_cons_zero List.getElem?_cons_succ List.take_succ_cons List.take_zero List.drop_succ_cons List.drop_zero List.take_nil List.drop_nil true_and and_true false_and and_false eq_self Bool.not_true Bool.not_false false_implies implies_true forall_const Option.some.injEq exists_eq_left' exists_eq_left Out.ret.injEq SV.raw.injEq Value.bool.injEq Bool.or_true Bool.true_or Bool.or_false Bool.false_or beq_self_eq_true and_self Bool.and_true Bool.true_and Bool.and_self Bool.and_false Bool.false_and Option.map_some Option.map_none decide_true decide_false Bool.false_eq_true cast_eq List.contains_cons List.contains_nil List.any_nil List.any_cons
/- A goal and what it simplifies to. -/
theorem sxE {p q : Prop} (h : q) (e : p = q := by (simp (maxSteps := 3000000) only [go_sem, ↓zA, ↓reduceIte, ↓reduceDIte, reduceCtorEq, Nat.reduceAdd, Nat.reduceSub, Nat.reduceLeDiff, Nat.reduceLT, Nat.reduceEqDiff, Nat.reduceBEq, Nat.reduceMul, Int.reduceToNat, Int.reduceEq, Int.reduceLT, Int.reduceLE]; (try simp only [zB]); rfl)) : p := Eq.mpr e h
theorem goE [Ghost] {P : Program} {AQ : Ex → List SV → List SObj → Prop} {m : IM} {q : Prop} (hm : P.follows .mixedOrders = true) (h : q) (e : run P AQ 600 m = q := by (simp (maxSteps := 3000000) only [go_sem, ↓zA, ↓reduceIte, ↓reduceDIte, reduceCtorEq, Nat.reduceAdd, Nat.reduceSub, Nat.reduceLeDiff, Nat.reduceLT, Nat.reduceEqDiff, Nat.reduceBEq, Nat.reduceMul, Int.reduceToNat, Int.reduceEq, Int.reduceLT, Int.reduceLE]; (try simp only [zB]); rfl)) : SoundI P AQ m := run_sound hm 600 m (Eq.mpr e h)
theorem runE {P : Program} {f : FuncId} {fi : FI} {args : List SV} {K : Out → List SObj → Prop} {H : List SObj} {q : Prop} (hm : P.follows .mixedOrders = true) (hf : finfo P f = some fi) (h : q)
 (e : run P (retF P fi.results K) 600 ⟨H.length, [.ic fi.code], args ++ List.replicate (fi.ntmps - args.length) .any, H⟩ = q := by (simp (maxSteps := 3000000) only [go_sem, ↓zA, ↓reduceIte, ↓reduceDIte, reduceCtorEq, Nat.reduceAdd, Nat.reduceSub, Nat.reduceLeDiff, Nat.reduceLT, Nat.reduceEqDiff, Nat.reduceBEq, Nat.reduceMul, Int.reduceToNat, Int.reduceEq, Int.reduceLT, Int.reduceLE]; (try simp only [zB]); rfl)) : VC P f args H K := vc_fi hf (run_sound hm 600 _ (Eq.mpr e h))
theorem sx1 {a p q : Prop} (w : a) (h : q) (e : a → p = q := by (intro w; simp (maxSteps := 3000000) only [w, go_sem, ↓zA, ↓reduceIte, ↓reduceDIte, reduceCtorEq, Nat.reduceAdd, Nat.reduceSub, Nat.reduceLeDiff, Nat.reduceLT, Nat.reduceEqDiff, Nat.reduceBEq, Nat.reduceMul, Int.reduceToNat, Int.reduceEq, Int.reduceLT, Int.reduceLE]; (try simp only [zB]); rfl)) : p := Eq.mpr (e w) h
theorem sx3 {a b p q : Prop} (w : a) (w2 : b) (h : q) (e : a → b → p = q := by (intro w w2; simp (maxSteps := 3000000) only [w, w2, List.length_append, go_sem, ↓zA, ↓reduceIte, ↓reduceDIte, reduceCtorEq, Nat.reduceAdd, Nat.reduceSub, Nat.reduceLeDiff, Nat.reduceLT, Nat.reduceEqDiff, Nat.reduceBEq, Nat.reduceMul, Int.reduceToNat, Int.reduceEq, Int.reduceLT, Int.reduceLE]; (try simp only [zB]); rfl)) : p := Eq.mpr (e w w2) h
end Go.Sx
