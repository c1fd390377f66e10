/- A part of the proof: a symbolic executor over abstract values, and its soundness. -/
import Derived.Test.YtcjehhejgimmdaaGreatDoorP1
import Derived.Laws.IdiomCopy
import Derived.Laws.Cells
set_option linter.all false
set_option linter.unusedSectionVars false
namespace Go.Sx
open Go

def SameG (G : List Nat) (H H' : List SObj) : Prop := ∀ h ∈ G, H'[h]? = H[h]?
theorem SameG.refl (G : List Nat) (H : List SObj) : SameG G H H := fun _ _ => rfl
theorem SameG.trans {G : List Nat} {A B C : List SObj} (h : SameG G A B) (k : SameG G B C) : SameG G A C := fun x hx => (k x hx).trans (h x hx)

variable [Ghost] {P : Program} {AQ : Ex → List SV → List SObj → Prop} {k0 : Nat} {k : List It} {t : List SV} {H : List SObj} {all : Array Oper} {G : List Nat}

def OpStep (P : Program) (AQ : Ex → List SV → List SObj → Prop) (all : Array Oper) (i : Nat) (t : List SV) (H : List SObj) (K : List SV → List SObj → Prop) : Prop :=
 ∃ o, all[i]? = some o ∧ ((wantedT all t o = some true ∧ OpV P o (evT t) H fun
  | .ret s, H' => K (putT t o.dst s) H'
  | .pan s, H' => AQ (.pan s) [] H') ∨
  (wantedT all t o = some false ∧ K (putT t o.dst (.raw (.tuple #[]))) H))

theorem OpStep.mono {i : Nat} {K K' : List SV → List SObj → Prop} (h : OpStep P AQ all i t H K) (hk : ∀ t H, K t H → K' t H) : OpStep P AQ all i t H K' := by
 obtain ⟨o, ho, h⟩ := h
 refine ⟨o, ho, orMap h (fun ⟨h1, h2⟩ => ⟨h1, h2.mono fun x H' hx => ?_⟩) (fun ⟨h1, h2⟩ => ⟨h1, hk _ _ h2⟩)⟩
 cases x with
 | ret s => exact hk _ _ hx
 | pan s => exact hx

def gk (o : Oper) : Bool := match o.op with
 | .store .. => false
 | .call { callee := .builtin .append, .. } => false
 | .call { callee := .builtin .copy, .. } => false
 | .mapUpdate .. => false
 | .insert .. => false
 | _ => true
def strictG : List Nat → Bool
 | [] => false
 | h :: G => h == 999999 || strictG G
def gsel (all : Array Oper) (i : Nat) (G : List Nat) : List Nat := match all[i]? with
 | some o => if gk o || strictG G then G else []
 | none => G

def AnyV (P : Program) (AQ : Ex → List SV → List SObj → Prop) (k0 : Nat) (k : List It) (all : Array Oper) (G : List Nat) : Nat → Array Bool → List SV → List SObj → Prop
 | 0, listed, t, H => Region.ready .any all listed = [] ∧ Sound P AQ ⟨k0, k, t, H⟩
 | fuel + 1, listed, t, H =>
  (Region.ready .any all listed = [] → Sound P AQ ⟨k0, k, t, H⟩) ∧
  ∀ i ∈ Region.ready .any all listed, OpStep P AQ all i t H fun t' H' => SameG (gsel all i G) H H' ∧ AnyV P AQ k0 k all G fuel (listed.setIfInBounds i true) t' H'

theorem q5l : ∀ (fuel : Nat) (listed : Array Bool) (t : List SV) (H : List SObj), AnyV P AQ k0 k all G fuel listed t H →
 ∀ (E : EnD) (r : Option Nat) (n : Nat) (C : Cx) (a : Act), Fit E r k0 → Den E C t H a → wpAnyIn (Fw r) n P .any all (afterT (Fw r) n P E (conc E AQ) k) fuel listed a C.w
 | 0, _, _, _, h, E, r, n, C, a, h0, hd => ⟨h.1, h.2 E r n C a h0 hd⟩
 | fuel + 1, listed, t, H, h, E, r, n, C, a, h0, hd => by
  refine ⟨fun h9 => h.1 h9 E r n C a h0 hd, fun i hi => ?_⟩
  obtain ⟨o, ho, h1⟩ := h.2 i hi
  unfold wpOpIn
  simp only [ho]
  rcases h1 with ⟨hw, hop⟩ | ⟨hw, hk⟩
  · rw [if_pos (q2v hd.tmps hw)]
    refine hop E C r n a _ _ hd.wd hd.defs.2 (fun x _ => q3o hd.tmps x) ?_ ?_
    · intro s v H' C' hk hw' hx hs
      exact q5l fuel _ _ _ hk.2 E r n C' _ h0 (q3R hd hw' hx hs)
    intro s v H' C' hk hw' hx hs
    exact ⟨C', [], H', s, v, hk, rfl, hs, rfl, hw', hx.ext hd.ext, (DefOk.stp hx hd.defs).fin, .inl rfl⟩
  rw [if_neg (by rw [q2v hd.tmps hw]; simp)]
  exact ⟨fun f _ => q6B r f, q5l fuel _ _ _ hk.2 E r n C _ h0 (q3R hd hd.wd (.of (Ext.refl _ _)) (by rw [SV.den]; rfl))⟩

def Cx.drew (C : Cx) : Cx := { C with w := { C.w with drawn := C.w.drawn + 1 } }
theorem q2K (C : Cx) : Evo C C.drew := ⟨Nat.le_refl _, fun _ _ => rfl, fun _ hb => ⟨hb, rfl⟩, fun _ _ h => h⟩
theorem q3L {C : Cx} (h : Wd C H) : Wd C.drew H :=
 ⟨h.n, fun x o ho => q0P (C := C) (C' := C.drew) (fun _ hb => ⟨hb, rfl⟩) x rfl (fun _ _ => rfl) (q0u (q2K C)) (h.obj x o ho), h.own, h.inj, h.imm⟩
theorem q2M (C : Cx) (H : List SObj) : Ext ⟨C, H⟩ C.drew H := ⟨q2K C, Nat.le_refl _, rfl, rfl, rfl, fun _ _ _ => rfl, fun _ h => .inl h, fun _ h => .inr h, fun _ _ h => h⟩

theorem z2Z {id : Nat} (G : List Nat) (hm : P.follows .mixedOrders = true) (h : AnyV P AQ k0 k all G all.size (Array.replicate all.size false) t H) : Sound P AQ ⟨k0, .code (.region id all true) :: k, t, H⟩ := fun E r n C a h0 hd => by
 simp only [wpT]
 have hd' : Den E C.drew t H a := ⟨q3L hd.wd, hd.ext.trans (q2M C H), DefOk.next (q2M C H) hd.defs, q0u (q2K C) hd.tmps⟩
 exact wpIn_region_any hm (q5l _ _ _ _ h E r n C.drew a h0 hd')

def PureV (P : Program) (all : Array Oper) (G : List Nat) (o : Oper) (t : List SV) (H : List SObj) (s : SV) : Prop :=
 (wantedT all t o = some true ∧ ∀ H', SameG G H H' → ∀ K : Out → List SObj → Prop, K (.ret s) H' → OpV P o (evT t) H' K) ∨ (wantedT all t o = some false ∧ s = (.raw (.tuple #[])))

theorem z9e {d : Option Tmp} {s : SV} {x : Operand} (h : ∀ e, d = some e → x ≠ .tmp e) : evT (putT t d s) x = evT t x := by
 cases d with
 | none => rfl
 | some d =>
  cases x with
  | tmp e =>
   have hne : d ≠ e := fun he => h d rfl (he ▸ rfl)
   simp [evT, putT, List.getD_eq_getElem?_getD, List.getElem?_set_ne hne]
  | _ => rfl

theorem z2f {o : Oper} {d : Option Tmp} {s : SV} (h : ∀ e, d = some e → e ∉ o.looksAt all) : ∀ x ∈ o.op.operands, evT (putT t d s) x = evT t x := fun x hx =>
 z9e fun e he hxe => h e he (by
  subst hxe
  exact List.mem_append_left _ (List.mem_filterMap.2 ⟨.tmp e, by simpa using hx, rfl⟩))

theorem q5V {o : Oper} {d : Option Tmp} {s : SV} (h : ∀ e, d = some e → e ∉ o.looksAt all) : wantedT all (putT t d s) o = wantedT all t o := by
 unfold wantedT
 cases hg : o.guard with
 | none => rfl
 | some g =>
  obtain ⟨j, want⟩ := g
  simp only
  cases hdst : (all[j]?).bind (·.dst) with
  | none => rfl
  | some e =>
   simp only
   have hne : ∀ e', d = some e' → e' ≠ e := fun e' he' heq => h e' he' (by
    unfold Oper.looksAt
    refine List.mem_append_right _ ?_
    rw [hg]
    simp only [hdst, Option.toList_some, List.mem_singleton]
    exact heq)
   cases d with
   | none => rfl
   | some d =>
    have := hne d rfl
    simp [putT, List.getD_eq_getElem?_getD, List.getElem?_set_ne this]

theorem q9N {x y : Option Tmp} (v u : SV) (h : ∀ d, x = some d → y ≠ some d) : putT (putT t x v) y u = putT (putT t y u) x v := by
 cases x with
 | none => rfl
 | some d =>
  cases y with
  | none => rfl
  | some e =>
   have hne : d ≠ e := fun he => h d rfl (he ▸ rfl)
   simp only [putT]
   exact List.set_comm _ _ hne

theorem PureV.of_put {oi oj : Oper} {s u : SV} {H' : List SObj} (hp : PureV P all G oi t H s) (h3 : ∀ d, oj.dst = some d → d ∉ oi.looksAt all) (hs : SameG G H H') : PureV P all G oi (putT t oj.dst u) H' s := by
 unfold PureV at *
 rw [q5V h3]
 exact orMap hp (fun ⟨h1, h2⟩ => ⟨h1, fun H'' hs' K hk => (h2 H'' (hs.trans hs') K hk).congr (z2f h3)⟩) id

theorem PureV.step {oi : Oper} {i : Nat} {s : SV} {K : List SV → List SObj → Prop} (hi : all[i]? = some oi) (hp : PureV P all G oi t H s) (h : K (putT t oi.dst s) H) : OpStep P AQ all i t H K := by
 refine ⟨oi, hi, ?_⟩
 rcases hp with ⟨hw, hp⟩ | ⟨hw, rfl⟩
 · exact .inl ⟨hw, hp H (SameG.refl _ _) _ h⟩
 exact .inr ⟨hw, h⟩

theorem OpStep.comm {oi : Oper} {j : Nat} {s : SV} {G' : List Nat} (hap : ∀ oj, all[j]? = some oj → oi.apart all oj = true) (hsub : ∀ H H', SameG (gsel all j G) H H' → SameG G' H H') (hp : PureV P all G' oi t H s) {K : List SV → List SObj → Prop}
 (h : OpStep P AQ all j (putT t oi.dst s) H fun t' H' => SameG (gsel all j G) H H' ∧ K t' H') :
 OpStep P AQ all j t H fun t' H' => SameG (gsel all j G) H H' ∧ PureV P all G' oi t' H' s ∧ K (putT t' oi.dst s) H' := by
 obtain ⟨oj, hoj, h⟩ := h
 obtain ⟨h1, h2, h3⟩ := Oper.apart_spec (hap oj hoj)
 refine ⟨oj, hoj, ?_⟩
 rw [q5V h1] at h
 rcases h with ⟨hw, hop⟩ | ⟨hw, hs, hk⟩
 · refine .inl ⟨hw, (hop.congr (fun x hx => (z2f h1 x hx).symm)).mono fun x H' hx => ?_⟩
   cases x with
   | ret u => exact ⟨hx.1, hp.of_put h3 (hsub _ _ hx.1), by rw [← q9N s u h2]; exact hx.2⟩
   | pan u => exact hx
 exact .inr ⟨hw, hs, hp.of_put h3 (hsub _ _ hs), by rw [← q9N s (.raw (.tuple #[])) h2]; exact hk⟩

def reaches (all : Array Oper) : Nat → Nat → Nat → Bool
 | 0, _, _ => false
 | n + 1, j, i => match all[j]? with
  | some o => o.after.toList.any fun e => Region.binds .any e && (e.on == i || reaches all n e.on i)
  | none => false
def Closed (all : Array Oper) (listed : Array Bool) : Prop := ∀ m o, all[m]? = some o → listed.getD m false = true → ∀ e ∈ o.after, Region.binds .any e = true → listed.getD e.on false = true
theorem q7e {listed : Array Bool} {i : Nat} (hc : Closed all listed) (hi : listed.getD i false = false) : ∀ (n m : Nat), listed.getD m false = true → reaches all n m i = false
 | 0, _, _ => rfl
 | n + 1, m, hm => by
  unfold reaches
  cases ho : all[m]? with
  | none => rfl
  | some o =>
   simp only
   rw [List.any_eq_false]
   intro e he hb
   simp only [Bool.and_eq_true, Bool.or_eq_true, beq_iff_eq] at hb
   have hl := hc m o ho hm e (by simpa using he) hb.1
   rcases hb.2 with h1 | h1
   · rw [h1, hi] at hl; cases hl
   rw [q7e hc hi n e.on hl] at h1; cases h1
theorem q8B {listed : Array Bool} {i j : Nat} {oj : Oper} (hc : Closed all listed) (hi : listed.getD i false = false) (hoj : all[j]? = some oj) (hall : ∀ e ∈ oj.after, Region.binds .any e = true → listed.getD e.on false = true) (n : Nat) : reaches all n j i = false := by
 cases n with
 | zero => rfl
 | succ n =>
  unfold reaches
  rw [hoj]
  simp only
  rw [List.any_eq_false]
  intro e he hb
  simp only [Bool.and_eq_true, Bool.or_eq_true, beq_iff_eq] at hb
  have hl := hall e (by simpa using he) hb.1
  rcases hb.2 with h1 | h1
  · rw [h1, hi] at hl; cases hl
  rw [q7e hc hi n e.on hl] at h1; cases h1
theorem Closed.set {listed : Array Bool} {j : Nat} {oj : Oper} (hc : Closed all listed) (hoj : all[j]? = some oj) (hall : ∀ e ∈ oj.after, Region.binds .any e = true → listed.getD e.on false = true) : Closed all (listed.setIfInBounds j true) := by
 have mono : ∀ x, listed.getD x false = true → (listed.setIfInBounds j true).getD x false = true := fun x hx => by
  by_cases e : j = x
  · subst e
    rcases Nat.lt_or_ge j listed.size with h1 | h1
    · simp [h1]
    simp [Array.getElem?_eq_none h1] at hx
  rw [getD_set_ne false e]; exact hx
 intro m o ho hm e he hb
 by_cases hmj : j = m
 · subst hmj
   rw [hoj] at ho; cases ho
   exact mono _ (hall e he hb)
 rw [getD_set_ne false hmj] at hm
 exact mono _ (hc m o ho hm e he hb)

theorem q4X {i N : Nat} {oi : Oper} {s : SV} {G' : List Nat} (hi : all[i]? = some oi) :
 ∀ (fuel : Nat) (listed : Array Bool) (t : List SV) (H : List SObj),
  (∀ j oj, all[j]? = some oj → j ≠ i → listed.getD j true = false → (∀ e ∈ oj.after, Region.binds .any e = true → e.on ≠ i) → oi.apart all oj = true ∧ (reaches all N j i = false → ∀ H H', SameG (gsel all j G) H H' → SameG G' H H')) → (Closed all listed ∨ G' = []) →
  i ∈ Region.ready .any all listed → PureV P all G' oi t H s →
  AnyV P AQ k0 k all G fuel (listed.setIfInBounds i true) (putT t oi.dst s) H → AnyV P AQ k0 k all G (fuel + 1) listed t H := by
 intro fuel
 induction fuel with
 | zero =>
  intro listed t H _ _ hr hp h
  refine ⟨fun h0 => (by rw [h0] at hr; cases hr), fun j hj => ?_⟩
  by_cases hji : j = i
  · subst hji; exact hp.step hi ⟨SameG.refl _ _, h⟩
  have := ready_mono hj hji
  rw [h.1] at this
  cases this
 | succ fuel ih =>
  intro listed t H hfree hcl hr hp h
  refine ⟨fun h0 => (by rw [h0] at hr; cases hr), fun j hj => ?_⟩
  by_cases hji : j = i
  · subst hji; exact hp.step hi ⟨SameG.refl _ _, h⟩
  have h1 := h.2 j (ready_mono hj hji)
  obtain ⟨hjun, oj, hoj, hall⟩ := mem_ready.1 hj
  have hnot : ∀ e ∈ oj.after, Region.binds .any e = true → e.on ≠ i := fun e he hb heq => by
   have h1 := hall e he hb
   have h0 := (mem_ready.1 hr).1
   rw [heq] at h1
   rcases Nat.lt_or_ge i listed.size with h' | h'
   · simp [h'] at h0 h1; rw [h0] at h1; cases h1
   simp [Array.getElem?_eq_none h'] at h1
  have hap : ∀ oj', all[j]? = some oj' → oi.apart all oj' = true := fun oj' hoj' => by
   rw [hoj] at hoj'; cases hoj'; exact (hfree j oj hoj hji hjun hnot).1
  have hiu : listed.getD i false = false := by
   have h0 := (mem_ready.1 hr).1
   rcases Nat.lt_or_ge i listed.size with h' | h'
   · simp [h'] at h0 ⊢; exact h0
   simp [Array.getElem?_eq_none h']
  have hsub : ∀ H H', SameG (gsel all j G) H H' → SameG G' H H' := by
   rcases hcl with hcl | rfl
   · exact (hfree j oj hoj hji hjun hnot).2 (q8B hcl hiu hoj (fun e he hb => by have := hall e he hb; simpa using this) N)
   exact fun _ _ _ _ hh => by cases hh
  have h2 := OpStep.comm hap hsub hp h1
  have hfree' : ∀ k ok, all[k]? = some ok → k ≠ i → (listed.setIfInBounds j true).getD k true = false →
   (∀ e ∈ ok.after, Region.binds .any e = true → e.on ≠ i) → oi.apart all ok = true ∧ (reaches all N k i = false → ∀ H H', SameG (gsel all k G) H H' → SameG G' H H') := fun k ok hk hki hun hno => by
   refine hfree k ok hk hki ?_ hno
   by_cases hjk : j = k
   · subst hjk; exact hjun
   rw [getD_set_ne true hjk] at hun; exact hun
  refine h2.mono fun t' H' h3 => ⟨h3.1, ih (listed.setIfInBounds j true) t' H' hfree' (orMap hcl (fun hc => hc.set hoj (fun e he hb => by have := hall e he hb; simpa using this)) id) (ready_mono hr (Ne.symm hji)) h3.2.1 ?_⟩
  rw [Array.setIfInBounds_comm _ _ hji]
  exact h3.2.2

theorem q6z {i : Nat} {oi : Oper} {s : SV} {fuel : Nat} {listed : Array Bool} (hB : ((Region.ready .any all listed).contains i && Region.free .any all listed i) = true) (hi : all[i]? = some oi)
 (hp : PureV P all [] oi t H s) (h : AnyV P AQ k0 k all G fuel (listed.setIfInBounds i true) (putT t oi.dst s) H) : AnyV P AQ k0 k all G (fuel + 1) listed t H := by
 rw [Bool.and_eq_true] at hB
 exact q4X (N := 0) (G' := []) hi fuel listed t H (fun j oj h1 h2 h3 h4 => ⟨Region.free_spec hi hB.2 j oj h1 h2 h3 h4, fun _ _ _ _ _ hh => by cases hh⟩) (.inr rfl) (by simpa using hB.1) hp h

def closedB (all : Array Oper) (listed : Array Bool) : Bool :=
 (List.range all.size).all fun m => !listed.getD m false || match all[m]? with
  | some o => o.after.toList.all fun e => !Region.binds .any e || listed.getD e.on false
  | none => true
theorem q7p {listed : Array Bool} (h : closedB all listed = true) : Closed all listed := by
 intro m o ho hm e he hb
 simp only [closedB, List.all_eq_true, List.mem_range] at h
 have h1 := h m (Array.getElem?_eq_some_iff.1 ho).1
 simp only [hm, Bool.not_true, Bool.false_or, ho, List.all_eq_true] at h1
 have h2 := h1 e (by simpa using he)
 simpa [hb] using h2
def ldFree (all : Array Oper) (listed : Array Bool) (i : Nat) : Bool :=
 closedB all listed && (List.range all.size).all fun j => j == i || listed.getD j true || match all[j]? with
  | some oj => reaches all all.size j i || gk oj
  | none => true
theorem z0Q {i : Nat} {listed : Array Bool} (h : ldFree all listed i = true) (j : Nat) (oj : Oper) (hj : all[j]? = some oj) (hne : j ≠ i) (hun : listed.getD j true = false) (hno : reaches all all.size j i = false) : gsel all j G = G := by
 simp only [ldFree, Bool.and_eq_true, List.all_eq_true, List.mem_range] at h
 have h1 := h.2 j (Array.getElem?_eq_some_iff.1 hj).1
 simp only [hj, Bool.or_eq_true, beq_iff_eq, hne, false_or, hun, Bool.false_eq_true, hno] at h1
 simp [gsel, hj, h1]

theorem z2P {i : Nat} {oi : Oper} {s : SV} {fuel : Nat} {listed : Array Bool} (hB : ((Region.ready .any all listed).contains i && Region.free .any all listed i) = true) (hL : ldFree all listed i = true) (hi : all[i]? = some oi)
 (hp : PureV P all G oi t H s) (h : AnyV P AQ k0 k all G fuel (listed.setIfInBounds i true) (putT t oi.dst s) H) : AnyV P AQ k0 k all G (fuel + 1) listed t H := by
 rw [Bool.and_eq_true] at hB
 exact q4X (N := all.size) (G' := G) hi fuel listed t H (fun j oj h1 h2 h3 h4 => ⟨Region.free_spec hi hB.2 j oj h1 h2 h3 h4, fun hno _ _ hs => by rwa [z0Q hL j oj h1 h2 h3 hno] at hs⟩) (.inl (q7p (by simp only [ldFree, Bool.and_eq_true] at hL; exact hL.1))) (by simpa using hB.1) hp h

theorem z3x {i : Nat} {oi : Oper} {s : SV} {fuel : Nat} {listed : Array Bool} (hS : strictG G = true) (hB : ((Region.ready .any all listed).contains i && Region.free .any all listed i) = true) (hcl : closedB all listed = true) (hi : all[i]? = some oi)
 (hp : PureV P all G oi t H s) (h : AnyV P AQ k0 k all G fuel (listed.setIfInBounds i true) (putT t oi.dst s) H) : AnyV P AQ k0 k all G (fuel + 1) listed t H := by
 rw [Bool.and_eq_true] at hB
 exact q4X (N := 0) (G' := G) hi fuel listed t H (fun j oj h1 h2 h3 h4 => ⟨Region.free_spec hi hB.2 j oj h1 h2 h3 h4, fun _ _ _ hs => by unfold gsel at hs; rw [h1] at hs; simpa [hS] using hs⟩) (.inl (q7p hcl)) (by simpa using hB.1) hp h

theorem j1f {i : Nat} {o : Oper} {fuel : Nat} {listed : Array Bool} (hB : (Region.ready .any all listed == [i]) = true) (ho : all[i]? = some o) (hw : wantedT all t o = some true)
 (h : OpV P o (evT t) H fun
  | .ret s, H' => SameG (gsel all i G) H H' ∧ AnyV P AQ k0 k all G fuel (listed.setIfInBounds i true) (putT t o.dst s) H'
  | .pan s, H' => AQ (.pan s) [] H') : AnyV P AQ k0 k all G (fuel + 1) listed t H := by
 have hB' : Region.ready .any all listed = [i] := by simpa using hB
 refine ⟨fun h0 => (by rw [hB'] at h0; cases h0), fun j hj => ?_⟩
 rw [hB'] at hj
 obtain rfl : j = i := by simpa using hj
 exact ⟨o, ho, .inl ⟨hw, h⟩⟩

theorem z7K {i : Nat} {o : Oper} {fuel : Nat} {listed : Array Bool} (hB : ((Region.ready .any all listed).contains i && Region.free .any all listed i) = true) (ho : all[i]? = some o) (hw : wantedT all t o = some false)
 (h : AnyV P AQ k0 k all G fuel (listed.setIfInBounds i true) (putT t o.dst (.raw (.tuple #[]))) H) : AnyV P AQ k0 k all G (fuel + 1) listed t H :=
 q6z hB ho (.inr ⟨hw, rfl⟩) h

theorem any_nil {fuel : Nat} {listed : Array Bool} (hB : (Region.ready .any all listed).isEmpty = true) (h : Sound P AQ ⟨k0, k, t, H⟩) : AnyV P AQ k0 k all G fuel listed t H := by
 have hB' : Region.ready .any all listed = [] := by simpa using hB
 cases fuel with
 | zero => exact ⟨hB', h⟩
 | succ fuel => exact ⟨fun _ => h, fun i hi => by rw [hB'] at hi; cases hi⟩
end Go.Sx
set_option linter.unusedSectionVars false
namespace Go.Sx
open Go

variable [Ghost] {P : Program} {o : Oper} {ev : Operand → SV} {H : List SObj} {K : Out → List SObj → Prop}

theorem z2u (hnd : ∀ c, o.op ≠ .defer c)
 (h : ∀ (E : EnD) (C : Cx) (e : Operand → Value), Wd C H → Ghost.inv E C H → (∀ x ∈ o.op.operands, (ev x).den C (e x)) → ∃ s v H' C', K (.ret s) H' ∧ ((execOp e o).run P C.w = .ok (.value v) C'.w ∨ ((execOp e o).run P C.w = .ok .skip C'.w ∧ v = undef)) ∧ Wd C' H' ∧ Stp E C H C' H' ∧ s.den C' v) :
 OpV P o ev H K := by
 intro E C r n a next Q hw hg hv h1 _
 obtain ⟨s, v, H', C', hk, hrun, hw', hx, hs⟩ := h E C a.eval hw hg hv
 refine ⟨fun f _ => q6B r f, ?_⟩
 rw [Oper.semAt_eq _ _ _ hnd]
 rcases hrun with hrun | ⟨hrun, rfl⟩
 · rw [hrun]; exact h1 s v H' C' hk hw' hx hs
 rw [hrun]; exact h1 s _ H' C' hk hw' hx hs
theorem q1I (hnd : ∀ c, o.op ≠ .defer c)
 (h : ∀ (C : Cx) (e : Operand → Value), Wd C H → (∀ x ∈ o.op.operands, (ev x).den C (e x)) → ∃ s v H' C', K (.ret s) H' ∧ ((execOp e o).run P C.w = .ok (.value v) C'.w ∨ ((execOp e o).run P C.w = .ok .skip C'.w ∧ v = undef)) ∧ Wd C' H' ∧ Ext ⟨C, H⟩ C' H' ∧ s.den C' v) :
 OpV P o ev H K := by
 intro E C r n a next Q hw _ hv h1 _
 obtain ⟨s, v, H', C', hk, hrun, hw', hx, hs⟩ := h C a.eval hw hv
 refine ⟨fun f _ => q6B r f, ?_⟩
 rw [Oper.semAt_eq _ _ _ hnd]
 rcases hrun with hrun | ⟨hrun, rfl⟩
 · rw [hrun]; exact h1 s v H' C' hk hw' (.of hx) hs
 rw [hrun]; exact h1 s _ H' C' hk hw' (.of hx) hs

theorem q0x (hnd : ∀ c, o.op ≠ .defer c) {s : SV}
 (h : ∀ (C : Cx) (e : Operand → Value), Wd C H → (∀ x ∈ o.op.operands, (ev x).den C (e x)) → ∃ v, (execOp e o).run P C.w = .ok (.value v) C.w ∧ s.den C v) (hk : K (.ret s) H) :
 OpV P o ev H K :=
 q1I hnd fun C e hw hv => by
  obtain ⟨v, h1, h2⟩ := h C e hw hv
  exact ⟨s, v, H, C, hk, .inl h1, hw, Ext.refl _ _, h2⟩

def Cx.grow (C : Cx) (o : Obj) : Cx := { ρ := fun h => if h = C.n then some C.w.heap.size else C.ρ h, n := C.n + 1, I := C.I, w := C.w.alloc o }

theorem q2g (w : World) (o : Obj) {b : Nat} (h : b < w.heap.size) : (w.alloc o).heap[b]? = w.heap[b]? := by
 show (w.heap.push o)[b]? = _
 rw [Array.getElem?_push, if_neg (by omega)]
theorem q1M (w : World) (o : Obj) : (w.alloc o).heap[w.heap.size]? = some o := by
 show (w.heap.push o)[w.heap.size]? = _
 rw [Array.getElem?_push, if_pos rfl]
theorem q8j {w : World} {b m : Nat} (h : World.bsize w b = some m) : b < w.heap.size := by
 unfold World.bsize at h
 rcases Nat.lt_or_ge b w.heap.size with hl | hl
 · exact hl
 rw [Array.getElem?_eq_none hl] at h; simp at h

theorem q5D {C : Cx} (hi : ∀ b, C.I b → b < C.w.heap.size) (o : Obj) : Evo C (C.grow o) where
 n := Nat.le_succ _
 ρ := fun h hh => by simp only [Cx.grow]; rw [if_neg (by omega)]
 I := fun b hb => ⟨hb, q2g _ _ (hi b hb)⟩
 sz := fun b m hm => by
  have := q8j hm
  unfold World.bsize at hm ⊢
  simp only [Cx.grow]
  rw [q2g _ _ this]; exact hm

theorem q0r {α : Type} {H : List α} {x y : α} {h : Nat} (hh : (H ++ [x])[h]? = some y) : (h < H.length ∧ H[h]? = some y) ∨ (h = H.length ∧ y = x) := by
 rcases Nat.lt_trichotomy h H.length with hl | hl | hl
 · exact .inl ⟨hl, by rwa [List.getElem?_append_left hl] at hh⟩
 · subst hl; rw [List.getElem?_append_right (Nat.le_refl _)] at hh; simp at hh; exact .inr ⟨rfl, hh.symm⟩
 rw [List.getElem?_append_right (by omega), List.getElem?_eq_none (by simp; omega)] at hh; simp at hh

theorem q6D {C : Cx} (hw : Wd C H) (o : Obj) (so : SObj) (hs : objDen (C.grow o) C.n so) : Wd (C.grow o) (H ++ [so]) ∧ Ext ⟨C, H⟩ (C.grow o) (H ++ [so]) := by
 have he := q5D hw.imm o
 have hown : ∀ b, OwnB (C.grow o) (H ++ [so]) b → OwnB C H b ∨ b = C.w.heap.size := by
  rintro b ⟨h, x, hx, hl, hb⟩
  rcases q0r hx with ⟨h1, h2⟩ | ⟨h1, h2⟩
  · refine .inl ⟨h, x, h2, hl, ?_⟩
    simp only [Cx.grow] at hb
    rwa [if_neg (by rw [hw.n]; omega)] at hb
  subst h1
  simp only [Cx.grow] at hb
  rw [if_pos hw.n.symm] at hb
  exact .inr (Option.some.inj hb).symm
 have hgs : (C.grow o).w.heap.size = C.w.heap.size + 1 := Array.size_push _
 refine ⟨⟨?_, ?_, ?_, ?_, ?_⟩, ⟨he, by rw [hgs]; exact Nat.le_succ _, rfl, rfl, rfl, fun b hb _ => q2g _ _ hb, fun b hb => .inl hb, fun b hb => ?_, fun _ _ hn => q8S hn⟩⟩
 · simp [Cx.grow, hw.n]
 · intro h x hx
   rcases q0r hx with ⟨h1, h2⟩ | ⟨h1, h2⟩
   · by_cases hl : x.live = true
     · refine q0P he.I h (he.ρ h (by rw [hw.n]; exact h1)) (fun b hb => q2g _ _ (hw.own b ⟨h, x, h2, hl, hb⟩).2) (q0u he) (hw.obj h x h2)
     cases x <;> first | trivial | simp [SObj.live] at hl
   subst h2; rw [h1, ← hw.n]; exact hs
 · intro b hb
   rcases hown b hb with h1 | rfl
   · have := hw.own b h1
     exact ⟨this.1, by rw [hgs]; omega⟩
   refine ⟨fun hi => absurd (hw.imm _ hi) (by omega), by rw [hgs]; omega⟩
 · intro h h' x x' b hx hx' hl hl' hb hb'
   rcases q0r hx with ⟨h1, h2⟩ | ⟨h1, h2⟩ <;> rcases q0r hx' with ⟨h1', h2'⟩ | ⟨h1', h2'⟩
   · rw [he.ρ h (by rw [hw.n]; exact h1)] at hb
     rw [he.ρ h' (by rw [hw.n]; exact h1')] at hb'
     exact hw.inj h h' x x' b h2 h2' hl hl' hb hb'
   · exfalso
     rw [he.ρ h (by rw [hw.n]; exact h1)] at hb
     have := (hw.own b ⟨h, x, h2, hl, hb⟩).2
     simp only [Cx.grow, h1', ← hw.n, if_true] at hb'
     cases hb'; omega
   · exfalso
     rw [he.ρ h' (by rw [hw.n]; exact h1')] at hb'
     have := (hw.own b ⟨h', x', h2', hl', hb'⟩).2
     simp only [Cx.grow, h1, ← hw.n, if_true] at hb
     cases hb; omega
   omega
 · intro b hb
   have := hw.imm b hb
   rw [hgs]; omega
 rcases hown b hb with h1 | rfl
 · exact .inr h1
 exact .inl (Nat.le_refl _)

theorem z2w {C : Cx} (hw : Wd C H) {h b : Nat} {so so' : SObj} (ho : H[h]? = some so) (hl : so.live = true) (hl' : so'.live = true) (hb : C.ρ h = some b) (w' : World)
 (hoth : ∀ b', b' ≠ b → w'.heap[b']? = C.w.heap[b']?) (hsz : w'.heap.size = C.w.heap.size) (hbs : ∀ m, World.bsize C.w b = some m → World.bsize w' b = some m)
 (hos : w'.os = C.w.os) (htp : w'.tape = C.w.tape) (hop : w'.output = C.w.output) (hs : objDen { C with w := w' } h so') :
 Wd { C with w := w' } (H.set h so') ∧ Ext ⟨C, H⟩ { C with w := w' } (H.set h so') ∧ Evo C { C with w := w' } := by
 have hob : OwnB C H b := ⟨h, so, ho, hl, hb⟩
 have hne : ∀ b', C.I b' → b' ≠ b := fun b' hi e => (hw.own b hob).1 (e ▸ hi)
 have he : Evo C { C with w := w' } := ⟨Nat.le_refl _, fun _ _ => rfl, fun b' hi => ⟨hi, hoth b' (hne b' hi)⟩, fun b' m hm => by
  by_cases hbb : b' = b
  · subst hbb; exact hbs m hm
  unfold World.bsize at hm ⊢; rw [hoth b' hbb]; exact hm⟩
 have hlt : h < H.length := (List.getElem?_eq_some_iff.1 ho).1
 have hget : ∀ {h' x}, (H.set h so')[h']? = some x → (h' = h ∧ x = so') ∨ (h' ≠ h ∧ H[h']? = some x) := by
  intro h' x hx
  by_cases e : h' = h
  · subst e; rw [List.getElem?_set_self hlt] at hx; cases hx; exact .inl ⟨rfl, rfl⟩
  rw [List.getElem?_set_ne (Ne.symm e)] at hx; exact .inr ⟨e, hx⟩
 have hown : ∀ b', OwnB { C with w := w' } (H.set h so') b' → OwnB C H b' := by
  rintro b' ⟨h', x, hx, hlx, hbx⟩
  rcases hget hx with ⟨rfl, rfl⟩ | ⟨h1, h2⟩
  · exact ⟨h', so, ho, hl, hbx⟩
  exact ⟨h', x, h2, hlx, hbx⟩
 refine ⟨⟨?_, ?_, ?_, ?_, ?_⟩, ⟨he, by rw [show ({ C with w := w' } : Cx).w.heap.size = C.w.heap.size from hsz]; exact Nat.le_refl _, hos, htp, hop, fun b' _ hn => hoth b' (fun e => hn (e ▸ hob)), fun b' hi => .inl hi, fun b' hb' => .inr (hown b' hb'), fun _ _ hn => q3P ho hl hn⟩, he⟩
 · simp [hw.n]
 · intro h' x hx
   rcases hget hx with ⟨rfl, rfl⟩ | ⟨h1, h2⟩
   · exact hs
   by_cases hlx : x.live = true
   · exact q0P he.I h' rfl (fun b' hb' => hoth b' (fun e => h1 (hw.inj h' h x so b h2 ho hlx hl (e ▸ hb') hb))) (q0u he) (hw.obj h' x h2)
   cases x <;> first | trivial | simp [SObj.live] at hlx
 · intro b' hb'
   have := hw.own b' (hown b' hb')
   exact ⟨this.1, by rw [hsz]; exact this.2⟩
 · intro h1 h2 x x' b' hx hx' hlx hlx' hb1 hb2
   have g1 : ∃ y, H[h1]? = some y ∧ y.live = true := by
    rcases hget hx with ⟨rfl, rfl⟩ | ⟨_, h2⟩
    · exact ⟨so, ho, hl⟩
    exact ⟨x, h2, hlx⟩
   have g2 : ∃ y, H[h2]? = some y ∧ y.live = true := by
    rcases hget hx' with ⟨rfl, rfl⟩ | ⟨_, h2⟩
    · exact ⟨so, ho, hl⟩
    exact ⟨x', h2, hlx'⟩
   obtain ⟨y1, e1, l1⟩ := g1
   obtain ⟨y2, e2, l2⟩ := g2
   exact hw.inj h1 h2 y1 y2 b' e1 e2 l1 l2 hb1 hb2
 intro b' hi
 have := hw.imm b' hi
 rw [show ({ C with w := w' } : Cx).w.heap.size = C.w.heap.size from hsz]
 exact this

def aggOf (P : Program) (t : TypeId) : Option (Option Nat) :=
 match P.underlying t, P.info? t with
 | some (.struct _), some i => some (some i.size)
 | some (.array _ _), some i => some (some i.size)
 | some _, some _ => some none
 | _, _ => none

theorem q3A {t : TypeId} {x : Option Nat} (h : aggOf P t = some x) (w : World) : (isAgg t).run P w = .ok x.isSome w := by
 unfold aggOf at h
 simp only [isAgg, underlying, Sem.run_bind, run_program, Result.andThen]
 cases hu : P.underlying t with
 | none => rw [hu] at h; cases hi : P.info? t <;> simp at h
 | some d =>
  rw [hu] at h
  cases hi : P.info? t with
  | none => rw [hi] at h; cases d <;> simp at h
  | some i => cases d <;> simp [hi] at h <;> subst h <;> simp
theorem q0C {t : TypeId} {n : Nat} (h : (P.info? t).map (·.size) = some n) (w : World) : (sizeOf t).run P w = .ok n w := by
 cases hi : P.info? t with
 | none => simp [hi] at h
 | some i => simp [hi] at h; simp [sizeOf, typeInfo, hi, h]
theorem q7f {t : TypeId} {n : Nat} (h : aggOf P t = some (some n)) : (P.info? t).map (·.size) = some n := by
 unfold aggOf at h
 cases hu : P.underlying t with
 | none => rw [hu] at h; cases hi : P.info? t <;> simp at h
 | some d =>
  rw [hu] at h
  cases hi : P.info? t with
  | none => rw [hi] at h; cases d <;> simp at h
  | some i => cases d <;> simp [hi] at h <;> simp [h]

def pick (cs : List SV) (off : Nat) : Option Nat → Option SV
 | none => cs[off]?
 | some n => if off + n ≤ cs.length then some (.agg ((cs.drop off).take n)) else none

theorem q1h (b off i : Nat) : (⟨b, off, none⟩ : Addr).add i = ⟨b, off + i, none⟩ := by unfold Addr.add; split <;> simp_all

theorem q2A {t : TypeId} {x : Option Nat} (ht : aggOf P t = some x) {w : World} {b base off : Nat} {vs : List Value} {cs : List SV} {C : Cx} {s : SV} (hd : SV.denL C cs vs)
 (hc : ∀ j u, vs[j]? = some u → w.cell? ⟨b, base + j, none⟩ = some u) (hp : pick cs off x = some s) : ∃ v, (loadVar t ⟨b, base + off, none⟩).run P w = .ok v w ∧ s.den C v := by
 cases x with
 | none =>
  simp only [pick] at hp
  obtain ⟨v, hv, hs⟩ := q2L hd hp
  refine ⟨v, ?_, hs⟩
  have := hc off v hv
  simp [loadVar, q3A ht, Result.andThen, this]
 | some n =>
  simp only [pick] at hp
  split at hp
  · rename_i hle
    cases hp
    have hlen : ((vs.drop off).take n).length = n := by
     have := q0K hd
     simp; omega
    refine ⟨.agg ((vs.drop off).take n).toArray, ?_, ?_⟩
    · have hl := run_loadCells_list (P := P) w ⟨b, base + off, none⟩ ((vs.drop off).take n) (fun j v hj => by
       rw [q1h, Nat.add_assoc]
       refine hc (off + j) v ?_
       rw [List.getElem?_take] at hj
       split at hj
       · rwa [List.getElem?_drop] at hj
       cases hj)
      rw [hlen] at hl
      simp [loadVar, q3A ht, q0C (q7f ht), Result.andThen, hl]
    rw [SV.den]
    exact ⟨_, rfl, q4l n (q4I off hd)⟩
  cases hp

theorem q0A {w : World} {b : Nat} {vs : List Value} {T : TypeId} {fz : Nat × Nat} (h : w.heap[b]? = some (.cells vs.toArray T fz)) (j : Nat) : w.cell? ⟨b, j, none⟩ = vs[j]? := by
 simp [World.cell?, h]

def ZLd (C : Cx) (ag : Option Nat) (b off : Nat) (s : SV) : Prop := ∃ cs vs, SV.denL C cs vs ∧ (∀ j u, vs[j]? = some u → C.w.cell? ⟨b, off + j, none⟩ = some u) ∧ pick cs 0 ag = some s
theorem j0I {t : TypeId} {x : Operand} {ag : Option Nat} {b off : Nat} (hop : o.op = .load t x) (ht : aggOf P t = some ag) (he : ev x = .raw (.pointer (some ⟨b, off, none⟩)))
 (h : ∀ E C, Wd C H → Ghost.inv E C H → ∃ s, ZLd C ag b off s ∧ K (.ret s) H) : OpV P o ev H K := by
 refine z2u (by rw [hop]; intro c hc; cases hc) fun E C e hw hg hv => ?_
 have hx := hv x (by rw [hop]; simp [Op.operands])
 rw [he, SV.den] at hx
 obtain ⟨s, ⟨cs, vs, hd, hc, hp⟩, hk⟩ := h E C hw hg
 obtain ⟨v, h1, h2⟩ := q2A (P := P) ht (b := b) (base := off) (off := 0) hd hc hp
 rw [Nat.add_zero] at h1
 exact ⟨s, v, H, C, hk, .inl (by simp [execOp, hop, hx, Instr.loadAt, Instr.sureAddr, Result.andThen, h1]), hw, .of (Ext.refl _ _), h2⟩

theorem q9z {t : TypeId} {x : Operand} {ag : Option Nat} {h off : Nat} {T : TypeId} {cs : List SV} {s : SV} (hop : o.op = .load t x) (ht : aggOf P t = some ag) (he : ev x = .ptr h off)
 (hH : H[h]? = some (.cells T cs)) (hp : pick cs off ag = some s) (hk : K (.ret s) H) : OpV P o ev H K := by
 refine q0x (by rw [hop]; intro c hc; cases hc) (s := s) (fun C e hw hv => ?_) hk
 have hx := hv x (by rw [hop]; simp [Op.operands])
 rw [he, SV.den] at hx
 obtain ⟨_, b, hb, hv'⟩ := hx
 obtain ⟨b', vs, hb', hcell, hd⟩ := hw.obj h _ hH
 rw [hb] at hb'; cases hb'
 obtain ⟨v, h1, h2⟩ := q2A ht (b := b) (base := 0) (off := off) hd (fun j u hj => by rw [Nat.zero_add, q0A hcell]; exact hj) hp
 rw [Nat.zero_add] at h1
 exact ⟨v, by simp [execOp, hop, hv', Instr.loadAt, Instr.sureAddr, Result.andThen, h1], h2⟩

theorem q8z {t : TypeId} {x : Operand} {ag : Option Nat} {ty : Ty} {d : ty.den} {kk : Nat} {s : SV} (hop : o.op = .load t x) (ht : aggOf P t = some ag) (he : ev x = .iptr ty d kk)
 (hp : pick (ty.cells d) kk ag = some s) (hk : K (.ret s) H) : OpV P o ev H K := by
 refine q0x (by rw [hop]; intro c hc; cases hc) (s := s) (fun C e hw hv => ?_) hk
 have hx := hv x (by rw [hop]; simp [Op.operands])
 rw [he, SV.den] at hx
 obtain ⟨b, off, vs, hv', _, hr, hc⟩ := hx
 obtain ⟨v, h1, h2⟩ := q2A ht (b := b) (base := off) (off := kk) (Ty.cells_den _ _ _ hr) hc hp
 exact ⟨v, by simp [execOp, hop, hv', Instr.loadAt, Instr.sureAddr, Result.andThen, h1], h2⟩

theorem q8w {t : TypeId} {x : Operand} {ag : Option Nat} {h i kk : Nat} {ty : Ty} {xs : List ty.den} {d : ty.den} {s : SV} (hop : o.op = .load t x) (ht : aggOf P t = some ag) (he : ev x = .rptr h ty i kk)
 (hH : H[h]? = some (.row ty xs)) (hi : xs[i]? = some d) (hp : pick (ty.cells d) kk ag = some s) (hk : K (.ret s) H) : OpV P o ev H K := by
 refine q0x (by rw [hop]; intro c hc; cases hc) (s := s) (fun C e hw hv => ?_) hk
 have hx := hv x (by rw [hop]; simp [Op.operands])
 rw [he, SV.den] at hx
 obtain ⟨_, b, hb, hv'⟩ := hx
 rcases hw.obj h _ hH with ⟨h1, h2⟩ | ⟨b', arr, T, fz, hb', hcell, hfz, hsz, hrow⟩
 · subst h2; simp at hi
 rw [hb] at hb'; cases hb'
 obtain ⟨us, hr, hc⟩ := hrow i d hi
 obtain ⟨v, h1, h2⟩ := q2A ht (b := b) (base := i * ty.size) (off := kk) (Ty.cells_den _ _ _ hr) (fun j u hj => by have := hc j u hj; rwa [Nat.zero_add] at this) hp
 exact ⟨v, by simp [execOp, hop, hv', Instr.loadAt, Instr.sureAddr, Result.andThen, h1], h2⟩
end Go.Sx
set_option linter.unusedSectionVars false
namespace Go.Sx
open Go

variable [Ghost] {P : Program} {o : Oper} {ev : Operand → SV} {H : List SObj} {K : Out → List SObj → Prop}

def splice {α : Type} (vs : List α) (o : Nat) (us : List α) : List α := vs.take o ++ us ++ vs.drop (o + us.length)
theorem q0Y {α : Type} {vs us : List α} {o : Nat} (h : o + us.length ≤ vs.length) : (splice vs o us).length = vs.length := by simp [splice]; omega
theorem q4d {C : Cx} {cs ds : List SV} {vs us : List Value} {o : Nat} (h : SV.denL C cs vs) (k : SV.denL C ds us) : SV.denL C (splice cs o ds) (splice vs o us) := by
 unfold splice
 rw [q0K k]
 exact q0M.2 ⟨_, _, rfl, q0M.2 ⟨_, _, rfl, q4l o h, k⟩, q4I _ h⟩
theorem q6A {α : Type} {vs : List α} {o : Nat} {u : α} {us : List α} (h : o < vs.length) : splice vs o (u :: us) = splice (vs.set o u) (o + 1) us := by
 unfold splice
 apply List.ext_getElem?
 intro i
 rcases Nat.lt_trichotomy i o with hi | hi | hi
 · rw [List.getElem?_append_left (by simp; omega), List.getElem?_append_left (by simp; omega), List.getElem?_append_left (by simp; omega), List.getElem?_append_left (by simp; omega)]
   rw [List.getElem?_take, List.getElem?_take, if_pos hi, if_pos (by omega), List.getElem?_set_ne (by omega)]
 · subst hi
   rw [List.getElem?_append_left (by simp; omega), List.getElem?_append_right (by simp; omega)]
   rw [List.getElem?_append_left (by simp; omega), List.getElem?_append_left (by simp; omega), List.getElem?_take, if_pos (by omega), List.getElem?_set_self h]
   simp [Nat.min_eq_left (Nat.le_of_lt h)]
 rcases Nat.lt_or_ge i (o + (us.length + 1)) with h2 | h2
 · rw [List.getElem?_append_left (by simp; omega), List.getElem?_append_right (by simp; omega)]
   rw [List.getElem?_append_left (by simp; omega), List.getElem?_append_right (by simp; omega)]
   simp only [List.length_take, List.length_set, Nat.min_eq_left (Nat.le_of_lt h)]
   rw [show min (o + 1) vs.length = o + 1 from Nat.min_eq_left h, show i - o = (i - (o + 1)) + 1 from by omega, List.getElem?_cons_succ]
 rw [List.getElem?_append_right (by simp; omega), List.getElem?_append_right (by simp; omega)]
 simp only [List.length_append, List.length_take, List.length_set, List.length_cons, List.getElem?_drop, Nat.min_eq_left (Nat.le_of_lt h)]
 rw [show min (o + 1) vs.length = o + 1 from Nat.min_eq_left h, List.getElem?_set_ne (by omega)]
 congr 1
 omega

theorem q9a {w : World} {b o : Nat} {vs : List Value} {T : TypeId} {fz : Nat × Nat} (h : w.heap[b]? = some (.cells vs.toArray T fz)) (u : Value) : (w.setCell ⟨b, o, none⟩ u).heap[b]? = some (.cells (vs.set o u).toArray T fz) := by
 have : ((w.heap.modify b fun | .cells c elem frozen => .cells (if (none : Option Nat).isSome then c else c.setIfInBounds o u) elem frozen | o => o))[b]? = some (.cells (vs.set o u).toArray T fz) := by
  rw [Array.getElem?_modify, if_pos rfl, h]; simp
 exact this
theorem q7Z {w : World} {b o b' : Nat} (u : Value) (h : b' ≠ b) : (w.setCell ⟨b, o, none⟩ u).heap[b']? = w.heap[b']? := by
 unfold World.setCell
 simp only [Array.getElem?_modify]
 rw [if_neg (fun e => h e.symm)]

theorem q2p {b : Nat} {T : TypeId} {fz : Nat × Nat} : ∀ (us : List Value) (o : Nat) (w : World) (vs : List Value), w.heap[b]? = some (.cells vs.toArray T fz) → o + us.length ≤ vs.length →
 (w.setCells b o us).heap[b]? = some (.cells (splice vs o us).toArray T fz)
 | [], o, w, vs, h, _ => by simp only [World.setCells]; rw [h]; simp [splice]
 | u :: us, o, w, vs, h, hl => by
  simp only [List.length_cons] at hl
  simp only [World.setCells]
  rw [q2p us (o + 1) _ (vs.set o u) (q9a h u) (by rw [List.length_set]; omega), q6A (by omega)]
theorem q0L {b b' : Nat} (h : b' ≠ b) : ∀ (us : List Value) (o : Nat) (w : World), (w.setCells b o us).heap[b']? = w.heap[b']?
 | [], _, _ => rfl
 | u :: us, o, w => by simp only [World.setCells]; rw [q0L h us (o + 1), q7Z u h]
theorem q1Q {b : Nat} : ∀ (us : List Value) (o : Nat) (w : World), (w.setCells b o us).heap.size = w.heap.size
 | [], _, _ => rfl
 | u :: us, o, w => by simp only [World.setCells]; rw [q1Q us (o + 1)]; simp
theorem q2G {b : Nat} : ∀ (us : List Value) (o : Nat) (w : World), (w.setCells b o us).os = w.os
 | [], _, _ => rfl
 | u :: us, o, w => by simp only [World.setCells]; rw [q2G us (o + 1)]; rfl
theorem q1K {b : Nat} : ∀ (us : List Value) (o : Nat) (w : World), (w.setCells b o us).tape = w.tape
 | [], _, _ => rfl
 | u :: us, o, w => by simp only [World.setCells]; rw [q1K us (o + 1)]; rfl
theorem q1B {b : Nat} : ∀ (us : List Value) (o : Nat) (w : World), (w.setCells b o us).output = w.output
 | [], _, _ => rfl
 | u :: us, o, w => by simp only [World.setCells]; rw [q1B us (o + 1)]; rfl

def SV.one : SV → Bool
 | .any | .agg _ | .tup _ => false
 | .raw v => v.oneCell'
 | _ => true
theorem z3Q {C : Cx} : ∀ {s : SV} {v : Value}, s.one = true → s.den C v → v.oneCell' = true
 | .any, _, h, _ => by simp [SV.one] at h
 | .agg _, _, h, _ => by simp [SV.one] at h
 | .tup _, _, h, _ => by simp [SV.one] at h
 | .raw u, v, h, d => by rw [SV.den] at d; subst d; simpa [SV.one] using h
 | .isl t xs, v, _, d => by rw [SV.den] at d; obtain ⟨A, n, c, e, _⟩ := d; cases e; rfl
 | .fsl t xs, v, _, d => by rw [SV.den] at d; obtain ⟨_, A, rfl⟩ := d; rfl
 | .iptr .., v, _, d => by rw [SV.den] at d; obtain ⟨_, _, _, rfl, _⟩ := d; rfl
 | .ptr .., v, _, d => by rw [SV.den] at d; obtain ⟨_, _, _, rfl⟩ := d; rfl
 | .rptr .., v, _, d => by rw [SV.den] at d; obtain ⟨_, _, _, rfl⟩ := d; rfl
 | .bld .., v, _, d => by rw [SV.den] at d; obtain ⟨_, ⟨_, _, rfl⟩ | ⟨_, _, _, _, rfl, _⟩⟩ := d <;> rfl
 | .osl .., v, _, d => by rw [SV.den] at d; obtain ⟨_, _, _, rfl, _⟩ := d; rfl
 | .csl .., v, _, d => by rw [SV.den] at d; obtain ⟨_, _, _, _, rfl, _⟩ := d; rfl
 | .fn .., v, _, d => by rw [SV.den] at d; obtain ⟨_, _, rfl, _⟩ := d; rfl
 | .iface .., v, _, d => by rw [SV.den] at d; obtain ⟨_, rfl, _⟩ := d; rfl
 | .mp _, v, _, d => by rw [SV.den] at d; obtain ⟨_, _, _, rfl⟩ := d; rfl
 | .imap .., v, _, d => by rw [SV.den] at d; obtain ⟨_, rfl, _⟩ := d; rfl

def ones : List SV → Bool
 | [] => true
 | s :: l => s.one && ones l
theorem q5K {C : Cx} : ∀ {l : List SV} {vs : List Value}, ones l = true → SV.denL C l vs → ∀ v ∈ vs, v.oneCell' = true
 | [], _, _, h, v, hv => by rw [q0F] at h; subst h; cases hv
 | s :: l, _, ho, h, v, hv => by
  obtain ⟨u, us, rfl, h1, h2⟩ := q0g.1 h
  simp [ones] at ho
  rcases List.mem_cons.1 hv with rfl | hv
  · exact z3Q ho.1 h1
  exact q5K ho.2 h2 v hv

def rawL (vs : List Value) : List SV := vs.map .raw
theorem q2I {C : Cx} : ∀ (vs : List Value), SV.denL C (rawL vs) vs
 | [] => by simp [rawL, SV.denL]
 | v :: vs => by
  simp only [rawL, List.map_cons]
  exact q0g.2 ⟨v, vs, rfl, by rw [SV.den], q2I vs⟩
theorem q6w {C : Cx} : ∀ {vs us : List Value}, SV.denL C (rawL vs) us → us = vs
 | [], us, h => by simpa [rawL, SV.denL] using h
 | v :: vs, us, h => by
  simp only [rawL, List.map_cons] at h
  obtain ⟨u, us', rfl, h1, h2⟩ := q0g.1 h
  rw [SV.den] at h1
  subst h1
  rw [q6w h2]

def SV.flat : SV → Option (List SV)
 | .any | .tup _ => none
 | .agg l => some l
 | .raw v => some (rawL v.cells.toList)
 | s => some [s]
theorem q4j {C : Cx} {s : SV} {v : Value} {cs : List SV} (hf : s.flat = some cs) (h : s.den C v) : SV.denL C cs v.cells.toList := by
 have one : ∀ (s : SV), s.one = true → s.flat = some [s] → s.den C v → SV.denL C [s] v.cells.toList := fun s h1 h2 hd => by
  have := z3Q h1 hd
  have hc : v.cells = #[v] := by cases v <;> first | rfl | simp [Value.oneCell'] at this
  rw [hc]; exact q0g.2 ⟨v, [], rfl, hd, q0F.2 rfl⟩
 cases s with
 | any => simp [SV.flat] at hf
 | tup l => simp [SV.flat] at hf
 | agg l =>
  cases hf
  rw [SV.den] at h
  obtain ⟨vs, rfl, hl⟩ := h
  simpa [Value.cells] using hl
 | raw u =>
  cases hf
  rw [SV.den] at h
  subst h
  exact q2I _
 | _ => cases hf; exact one _ rfl rfl h

theorem z2s {x : Operand} (hop : o.op = .move x ∨ o.op = .assign x) (hk : K (.ret (ev x)) H) : OpV P o ev H K := by
 refine q0x (by rcases hop with h | h <;> (rw [h]; intro c hc; cases hc)) (s := ev x) (fun C e _ hv => ?_) hk
 have hx := hv x (by rcases hop with h | h <;> (rw [h]; simp [Op.operands]))
 exact ⟨e x, by rcases hop with h | h <;> simp [execOp, h], hx⟩

theorem z8b {c x y : Operand} {b : Bool} (hop : o.op = .pick c x y) (hc : ev c = .raw (.bool b)) (hk : K (.ret (if b then ev x else ev y)) H) : OpV P o ev H K := by
 refine q0x (by rw [hop]; intro c hc; cases hc) (fun C e _ hv => ?_) hk
 have h0 := hv c (by rw [hop]; simp [Op.operands])
 have h1 := hv x (by rw [hop]; simp [Op.operands])
 have h2 := hv y (by rw [hop]; simp [Op.operands])
 rw [hc, SV.den] at h0
 refine ⟨if b then e x else e y, by simp [execOp, hop, h0, asBool], ?_⟩
 cases b <;> simpa

def SV.nonNil : SV → Bool
 | .ptr .. | .iptr .. | .rptr .. | .fn .. => true
 | .raw (.pointer (some _)) => true
 | _ => false
theorem q9W {x : Operand} (hop : o.op = .nilCheck x) (hn : (ev x).nonNil = true) (hk : K (.ret (ev x)) H) : OpV P o ev H K := by
 refine q0x (by rw [hop]; intro c hc; cases hc) (s := ev x) (fun C e _ hv => ?_) hk
 have hx := hv x (by rw [hop]; simp [Op.operands])
 refine ⟨e x, ?_, hx⟩
 generalize hs : ev x = s at hx hn
 unfold SV.nonNil at hn
 split at hn <;> first | (cases hn; done) | rw [SV.den] at hx
 · obtain ⟨_, _, _, hv⟩ := hx; simp [execOp, hop, hv]
 · obtain ⟨_, _, _, hv, _⟩ := hx; simp [execOp, hop, hv]
 · obtain ⟨_, _, _, hv⟩ := hx; simp [execOp, hop, hv]
 · obtain ⟨_, _, hv, _⟩ := hx; simp [execOp, hop, hv]
 simp [execOp, hop, hx]

theorem z0w {x : Operand} {i : Nat} {l : List SV} {s : SV} (hop : o.op = .extract x i) (hx : ev x = .tup l) (hs : l[i]? = some s) (hk : K (.ret s) H) : OpV P o ev H K := by
 refine q0x (by rw [hop]; intro c hc; cases hc) (s := s) (fun C e _ hv => ?_) hk
 have h0 := hv x (by rw [hop]; simp [Op.operands])
 rw [hx, SV.den] at h0
 obtain ⟨vs, h0, hl⟩ := h0
 obtain ⟨v, h1, h2⟩ := q2L hl hs
 exact ⟨v, by simp [execOp, hop, h0, Instr.extract, h1], h2⟩

theorem q2l {C : Cx} {ev : Operand → SV} {e : Operand → Value} : ∀ (xs : List Operand), (∀ x ∈ xs, (ev x).den C (e x)) → SV.denL C (xs.map ev) (xs.map e)
 | [], _ => by simp [SV.denL]
 | x :: xs, h => by
  simp only [List.map_cons]
  exact q0g.2 ⟨_, _, rfl, h x (by simp), q2l xs fun y hy => h y (by simp [hy])⟩

theorem q9c {f : Nat} {fi ca : Array Operand} (hop : o.op = .makeFunc (.func f) fi ca) (hk : K (.ret (.fn f (fi.toList.map ev) (ca.toList.map ev))) H) : OpV P o ev H K := by
 refine q0x (by rw [hop]; intro c hc; cases hc) (fun C e _ hv => ?_) hk
 rw [hop] at hv
 simp only [Op.operands, Array.mem_append] at hv
 refine ⟨.func (.func f) (fi.map e) (ca.map e), by simp [execOp, hop, Instr.makeFunc], ?_⟩
 rw [SV.den]
 refine ⟨fi.toList.map e, ca.toList.map e, by simp [← Array.toList_map], q2l _ fun x hx => hv x (.inl (by simpa using hx)), q2l _ fun x hx => hv x (.inr (by simpa using hx))⟩

def notIface (P : Program) (t : TypeId) : Bool := match P.underlying t with
 | some (.interface _) => false
 | some _ => true
 | none => false
theorem q4Z {T : TypeId} {x : Operand} (hop : o.op = .makeInterface T x) (ht : notIface P T = true) (hk : K (.ret (.iface T (ev x))) H) : OpV P o ev H K := by
 refine q0x (by rw [hop]; intro c hc; cases hc) (fun C e _ hv => ?_) hk
 have h0 := hv x (by rw [hop]; simp [Op.operands])
 refine ⟨.iface T (e x), ?_, by rw [SV.den]; exact ⟨_, rfl, h0⟩⟩
 unfold notIface at ht
 cases hu : P.underlying T with
 | none => simp [hu] at ht
 | some d => cases d <;> simp [hu] at ht <;> simp [execOp, hop, Instr.makeInterface, underlying, Result.andThen, hu]

theorem q7v {C : Cx} (hi : ∀ b, C.I b → b < C.w.heap.size) (T : TypeId) {cs : List SV} {vs : List Value} (h : SV.denL C cs vs) : objDen (C.grow (.cells vs.toArray T)) C.n (.cells T cs) :=
 ⟨C.w.heap.size, vs, by simp [Cx.grow], q1M _ _, q0u (q5D hi _) h⟩

theorem z4e {T : TypeId} {zs : List Value} (hop : o.op = .alloc T) (hz : (P.info? T).bind (fun i => i.zero.map (·.cells.toList)) = some zs) (hk : K (.ret (.ptr H.length 0)) (H ++ [.cells T (rawL zs)])) : OpV P o ev H K := by
 refine q1I (by rw [hop]; intro c hc; cases hc) fun C e hw _ => ?_
 obtain ⟨g1, g2⟩ := q6D hw (.cells zs.toArray T) (.cells T (rawL zs)) (q7v hw.imm T (q2I zs))
 refine ⟨_, .pointer (some ⟨C.w.heap.size, 0, none⟩), _, _, hk, .inl ?_, g1, g2, ?_⟩
 · cases hi : P.info? T with
   | none => simp [hi] at hz
   | some i =>
    cases hz0 : i.zero with
    | none => simp [hi, hz0] at hz
    | some z =>
     simp [hi, hz0] at hz
     simp [execOp, hop, Instr.alloc, zeroValue, typeInfo, hi, hz0, Result.andThen, newVar, newRow, Cx.grow, ← hz]
 rw [SV.den]; exact ⟨by simp [Cx.grow, hw.n], C.w.heap.size, by simp [Cx.grow, hw.n], rfl⟩

theorem j1v {T : TypeId} {x : Operand} {cs : List SV} (hop : o.op = .box T x) (hf : (ev x).flat = some cs) (hk : K (.ret (.ptr H.length 0)) (H ++ [.cells T cs])) : OpV P o ev H K := by
 refine q1I (by rw [hop]; intro c hc; cases hc) fun C e hw hv => ?_
 have hd := q4j hf (hv x (by rw [hop]; simp [Op.operands]))
 obtain ⟨g1, g2⟩ := q6D hw (.cells (e x).cells T) (.cells T cs) (by have := q7v hw.imm T hd; simpa using this)
 refine ⟨_, .pointer (some ⟨C.w.heap.size, 0, none⟩), _, _, hk, .inl ?_, g1, g2, ?_⟩
 · simp [execOp, hop, Instr.box, Result.andThen, newVar, newRow, Cx.grow]
 rw [SV.den]; exact ⟨by simp [Cx.grow, hw.n], C.w.heap.size, by simp [Cx.grow, hw.n], rfl⟩

theorem q7L {T ty : TypeId} {x y : Operand} {h off n : Nat} {cs ds : List SV} (hop : o.op = .store ty x y) (hs : (P.info? ty).map (·.size) = some n) (he : ev x = .ptr h off) (hH : H[h]? = some (.cells T cs))
 (hf : (ev y).flat = some ds) (hn : ds.length = n) (hb : off + n ≤ cs.length) (h1 : ones ds = true) (hk : K (.ret .any) (H.set h (.cells T (splice cs off ds)))) : OpV P o ev H K := by
 refine q1I (by rw [hop]; intro c hc; cases hc) fun C e hw hv => ?_
 have hx := hv x (by rw [hop]; simp [Op.operands])
 have hy := q4j hf (hv y (by rw [hop]; simp [Op.operands]))
 rw [he, SV.den] at hx
 obtain ⟨_, b, hbb, hx⟩ := hx
 obtain ⟨b', vs, hb', hcell, hd⟩ := hw.obj h _ hH
 rw [hbb] at hb'; cases hb'
 have hlen : (e y).cells.toList.length = n := by rw [q0K hy, hn]
 have hvl : vs.length = cs.length := q0K hd
 have hrun : (storeCells ⟨b, off, none⟩ (e y).cells.toList 0).run P C.w = .ok () (C.w.setCells b (off + 0) (e y).cells.toList) := run_storeCells_cells b off _ 0 C.w
  (fun j hj => by rw [q0A hcell]; rw [List.getElem?_eq_getElem (by omega)]; rfl)
  (fun j _ => by simp [World.frozen?, hcell]) (q5K h1 hy)
 rw [Nat.add_zero] at hrun
 have hnew := q2p (e y).cells.toList off C.w vs hcell (by omega)
 obtain ⟨g1, g2, g3⟩ := z2w (so' := .cells T (splice cs off ds)) hw hH rfl rfl hbb (C.w.setCells b off (e y).cells.toList) (fun b' hb' => q0L hb' _ _ _) (q1Q _ _ _)
  (fun m hm => by
   unfold World.bsize at hm ⊢
   rw [hnew]; rw [hcell] at hm
   simp at hm ⊢
   rw [q0Y (by omega)]; exact hm)
  (q2G _ _ _) (q1K _ _ _) (q1B _ _ _)
  ⟨b, _, hbb, hnew, by
   have he : Evo C { C with w := C.w.setCells b off (e y).cells.toList } := ⟨Nat.le_refl _, fun _ _ => rfl, fun b' hi => ⟨hi, q0L (fun (eq : b' = b) => (hw.own b ⟨h, _, hH, rfl, hbb⟩).1 (eq ▸ hi)) _ _ _⟩, fun b' m hm => by
    by_cases hbb' : b' = b
    · subst hbb'
      unfold World.bsize at hm ⊢
      rw [hnew]; rw [hcell] at hm
      simp at hm ⊢
      rw [q0Y (by omega)]; exact hm
    unfold World.bsize at hm ⊢; rw [q0L hbb']; exact hm⟩
   exact q0u he (q4d hd hy)⟩
 refine ⟨_, undef, _, _, hk, .inr ⟨?_, rfl⟩, g1, g2, by rw [SV.den]; trivial⟩
 have hsz : (e y).cells.size = n := by rw [← Array.length_toList]; exact hlen
 simp [execOp, hop, hx, Instr.storeAt, Instr.sureAddr, Result.andThen, storeVar, q0C hs, hsz, hrun]
def ZSt (E : EnD) (C : Cx) (H : List SObj) (b off : Nat) (us : List Value) : Prop := ∃ (vs : List Value) (T : TypeId) (fz : Nat × Nat), C.w.heap[b]? = some (.cells vs.toArray T fz) ∧ off + us.length ≤ vs.length ∧ (∀ j, j < us.length → ¬ (fz.1 ≤ off + j ∧ off + j < fz.2)) ∧
 Wd { C with w := C.w.setCells b off us } H ∧ Stp E C H { C with w := C.w.setCells b off us } H
theorem j0D {ty : TypeId} {x y : Operand} {b off n : Nat} {ds : List SV} (hop : o.op = .store ty x y) (hs : (P.info? ty).map (·.size) = some n) (he : ev x = .raw (.pointer (some ⟨b, off, none⟩)))
 (hf : (ev y).flat = some ds) (hn : ds.length = n) (h1 : ones ds = true) (h : ∀ E C us, Wd C H → Ghost.inv E C H → SV.denL C ds us → ZSt E C H b off us) (hk : K (.ret .any) H) : OpV P o ev H K := by
 refine z2u (by rw [hop]; intro c hc; cases hc) fun E C e hw hg hv => ?_
 have hx := hv x (by rw [hop]; simp [Op.operands])
 have hy := q4j hf (hv y (by rw [hop]; simp [Op.operands]))
 rw [he, SV.den] at hx
 have hlen : (e y).cells.toList.length = n := by rw [q0K hy, hn]
 obtain ⟨vs, T, fz, hcell, hfit, hfz, g1, g2⟩ := h E C _ hw hg hy
 have hrun : (storeCells ⟨b, off, none⟩ (e y).cells.toList 0).run P C.w = .ok () (C.w.setCells b (off + 0) (e y).cells.toList) := run_storeCells_cells b off _ 0 C.w
  (fun j hj => by rw [q0A hcell]; rw [List.getElem?_eq_getElem (by omega)]; rfl)
  (fun j hj => by
   have := hfz j hj
   simp only [World.frozen?, hcell]
   rw [Bool.and_eq_false_iff]
   simp only [decide_eq_false_iff_not]
   omega) (q5K h1 hy)
 rw [Nat.add_zero] at hrun
 refine ⟨.any, undef, H, _, hk, .inr ⟨?_, rfl⟩, g1, g2, by rw [SV.den]; trivial⟩
 have hsz : (e y).cells.size = n := by rw [← Array.length_toList]; exact hlen
 simp [execOp, hop, hx, Instr.storeAt, Instr.sureAddr, Result.andThen, storeVar, q0C hs, hsz, hrun]
end Go.Sx
