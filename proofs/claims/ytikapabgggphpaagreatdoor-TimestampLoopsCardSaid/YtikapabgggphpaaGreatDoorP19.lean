/- A part of the proof: a symbolic executor over abstract values, and its soundness. -/
import Derived.Test.YtikapabgggphpaaGreatDoorP18
import Derived.Test.YtikapabgggphpaaGreatDoorP16
import Derived.Test.YtikapabgggphpaaGreatDoorP17
set_option linter.all false
set_option linter.unusedSectionVars false
set_option maxHeartbeats 4000000
namespace Go.Sx
open Go

variable {P : Program} {AQ : Ex → List SV → List SObj → Prop} {k0 : Nat} {k : List It} {t : List SV} {H : List SObj}
variable {g : FG} {Ds : List Nat}

theorem q6U {E : EnD} {D : Nat} {C : Cx} {ds : List Deferred} (h : (topG g (D :: Ds)).fin { E with base := markD D :: E.base } C H ds) : (topG g Ds).fin E C H ds := by
 obtain ⟨Ds', e, ⟨S, hc⟩, hnd, hok⟩ := h
 exact ⟨Ds' ++ [D], by rw [e]; simp, ⟨S, g.base (E := { E with base := markD D :: E.base }) E.base hc⟩, by simpa using hnd, by simpa using hok⟩
theorem q8b {E : EnD} {D : Nat} (e : Exit) (a : Act) (w : World) (h : @conc (topG g (D :: Ds)) { E with base := markD D :: E.base } AQ e a w) : @conc (topG g Ds) E AQ e a w := by
 cases e with
 | normal => obtain ⟨C, t, H, h1, h2, h3⟩ := h; exact ⟨C, t, H, h1, h2, ⟨h3.wd, h3.ext, q6U h3.defs, h3.tmps⟩⟩
 | ret => obtain ⟨C, t, H, h1, h2, h3⟩ := h; exact ⟨C, t, H, h1, h2, ⟨h3.wd, h3.ext, q6U h3.defs, h3.tmps⟩⟩
 | exit id => obtain ⟨C, t, H, h1, h2, h3⟩ := h; exact ⟨C, t, H, h1, h2, ⟨h3.wd, h3.ext, q6U h3.defs, h3.tmps⟩⟩
 | panic ch => obtain ⟨C, t, H, s, v, h1, h2, h3, h4, h5, h6, h7, h8⟩ := h; exact ⟨C, t, H, s, v, h1, h2, h3, h4, h5, h6, q6U h7, h8⟩
 | goto l => exact h
 | outgrown => exact h

theorem q4v {w : World} {o : Obj} {b : Nat} (h : b < w.heap.size) : (w.alloc o).heap[b]? = w.heap[b]? := by
 show (w.heap.push o)[b]? = _
 rw [Array.getElem?_push_lt h, Array.getElem?_eq_getElem h]

def RfStop (g : FG) (P : Program) (AQ : Ex → List SV → List SObj → Prop) (k0 : Nat) (k : List It) (t : List SV) (Ds : List Nat) : Ex → List SObj → Prop
 | .exit id, H => ∃ k', exitTo' id k = some k' ∧ @Sound (topG g Ds) P AQ ⟨k0, k', t, H⟩
 | .ret, H => AQ .ret t H
 | _, _ => False
theorem z4V {inf : Prop} {gop : Operand} {ps : Array Tmp} {assign body : Code} {f : FuncId} {fi ca : List SV} {N : Nat} {vw : Nat → Nat → List SV → List SObj → Prop} {Hs : Nat → List SObj → Prop} {X : Nat → Ex → List SObj → Prop}
 (hgop : evT t gop = .fn f fi ca) (hfi : SV.cleanL fi = true) (hca : SV.cleanL ca = true) (hit : IterI inf P f fi ca N vw) (hinf : inf → ∀ Hn, ¬ Hs N Hn) (hr : RfOk P g ps assign body t N vw Hs X) (h0 : Hs 0 H) (hns : noStop k = true)
 (hdone : ∀ D Hn, Hs N Hn → @Sound (topG g (D :: Ds)) P AQ ⟨k0, k, t, Hn⟩) (hstop : ∀ D i ex Hn, i < N → X i ex Hn → RfStop g P AQ k0 k t (D :: Ds) ex Hn) :
 @Sound (topG g Ds) P AQ ⟨k0, .code (.rangeFunc gop ps assign body) :: k, t, H⟩ := by
 intro E r n C a hfit hd
 obtain ⟨hn0, rfl⟩ : E.C.n ≤ k0 ∧ r = none := hfit
 simp only [wpT]
 obtain ⟨hdf, htab, ⟨S0, hcore⟩, hnd, hok⟩ := hd.defs
 have hgv := q1Z hd.tmps gop
 rw [hgop, SV.den] at hgv
 obtain ⟨v1, v2, hgv, d1, d2⟩ := hgv
 refine wpIn_rangeFunc fun fn _ => ?_
 obtain ⟨w1, hw1⟩ : ∃ w1, w1 = (C.w.alloc (.deferred (some []))).alloc (.loop (rfRec fn a.tmps ps assign body C.w.heap.size .ready none)) := ⟨_, rfl⟩
 have hsz : w1.heap.size = C.w.heap.size + 2 := by rw [hw1]; simp
 have hold : ∀ b, b < C.w.heap.size → w1.heap[b]? = C.w.heap[b]? := fun b hb => by rw [hw1, q4v (by simp; omega), q4v hb]
 have hD0 : w1.heap[C.w.heap.size]? = some (.deferred (some [])) := by rw [hw1, q4v (by simp), World.alloc_heap_new]
 have hl0 : w1.heap[C.w.heap.size + 1]? = some (.loop (rfRec fn a.tmps ps assign body C.w.heap.size .ready none)) := by
  rw [hw1]; have := World.alloc_heap_new (C.w.alloc (.deferred (some []))) (.loop (rfRec fn a.tmps ps assign body C.w.heap.size .ready none)); rwa [World.size_alloc] at this
 have henter : (Instr.enterLoop fn a.tmps ps assign body (Fw none).round).run P C.w = .ok (C.w.heap.size + 1, [markD C.w.heap.size]) w1 := by rw [hw1]; exact run_enterLoop_outer _ _ _ _ _
 have hvw : World.os w1 = C.w.os ∧ w1.tape = C.w.tape ∧ w1.output = C.w.output := by rw [hw1]; exact ⟨rfl, rfl, rfl⟩
 clear hw1
 obtain ⟨g1, g2⟩ := z5m (w' := w1) hd.wd (by omega) hold hvw.1 hvw.2.1 hvw.2.2
 have hDlt : ∀ D ∈ Ds, D < C.w.heap.size := fun D hD => (Array.getElem?_eq_some_iff.1 (hok D hD).at_).1
 have hnew : ∀ b, C.w.heap.size ≤ b → ¬ C.I b ∧ ¬ OwnB C H b := fun b hb => ⟨fun h => absurd (hd.wd.imm b h) (by omega), fun h => absurd (hd.wd.own b h).2 (by omega)⟩
 have hEs : E.C.w.heap.size ≤ C.w.heap.size := hd.ext.size
 have hcal : Cal g E (C.w.heap.size :: Ds) t a.tmps.toList (C.w.heap.size + 1) (.loop (rfRec fn a.tmps ps assign body C.w.heap.size .ready none)) { C with w := w1 } H S0 := by
  refine ⟨g1, hd.ext.trans g2, g.next g2 hcore, q0h g2.evo hd.tmps, fun D hD => ?_, fun hm => ?_, by omega, (hnew _ (by omega)).1, (hnew _ (by omega)).2, hl0, trivial, ⟨htab.tab.next g2, htab.old⟩⟩
  · rcases List.mem_cons.1 hD with rfl | hD
    · exact ⟨hEs, (hnew _ (Nat.le_refl _)).1, (hnew _ (Nat.le_refl _)).2, hD0⟩
    exact (hok D hD).next g2
  rcases List.mem_cons.1 hm with h | h
  · omega
  have := hDlt _ h; omega
 have hB : E.C.w.heap.size ≤ C.w.heap.size + 2 := by omega
 have hJ := z9T (g := g) (E := E) (Ds := C.w.heap.size :: Ds) (t := t) (tms := a.tmps.toList) (l := C.w.heap.size + 1) (N := N) (Hs := Hs) (X := X) (rec := rfRec fn a.tmps ps assign body C.w.heap.size) hB (by omega) (fun D hD => by
  rcases List.mem_cons.1 hD with rfl | hD
  · omega
  have := hDlt _ hD; omega)
 have yg := z2v (E := E) (Ds := C.w.heap.size :: Ds) (l := C.w.heap.size + 1) (fn := fn) (us := a.tmps) (D := C.w.heap.size) hr hB
 have hj0 : rfJ g E (C.w.heap.size :: Ds) t a.tmps.toList (C.w.heap.size + 1) N Hs X (rfRec fn a.tmps ps assign body C.w.heap.size) 0 (calS (C.w.heap.size :: Ds) (C.w.heap.size + 1) { C with w := w1 } H S0) w1 C.I :=
  ⟨{ C with w := w1 }, S0, H, _, rfl, fun b => ⟨fun h => ⟨h, g1.imm b h⟩, And.left⟩, hcal, fun _ => Iff.rfl, .inl ⟨Nat.zero_le _, h0, rfl⟩⟩
 have hno : ∀ b, ¬ OwnB ⟨fun _ => none, 1, C.I, w1⟩ [.mark 0] b := fun b ⟨x, o, _, _, hb⟩ => by cases hb
 have hw2 : Wd ⟨fun _ => none, 1, C.I, w1⟩ [.mark 0] := by
  refine ⟨rfl, fun x o ho => ?_, fun b hb => absurd hb (hno b), fun x x' o o' b _ _ _ _ h => (by cases h), g1.imm⟩
  cases x with
  | zero => simp at ho; subst ho; trivial
  | succ x => simp at ho
 have hy := YCore.mk (B := C.w.heap.size + 2) (E := startE true (calS (C.w.heap.size :: Ds) (C.w.heap.size + 1) { C with w := w1 } H S0) ⟨fun _ => none, 1, C.I, w1⟩ [.mark 0]) (C := ⟨fun _ => none, 1, C.I, w1⟩) (H := [.mark 0]) (S := calS (C.w.heap.size :: Ds) (C.w.heap.size + 1) { C with w := w1 } H S0)
  Nat.one_pos (Nat.le_refl _) (fun n hn => by cases (q3w (by simp) hn).1) (by show _ ≤ w1.heap.size; omega) (Nat.le_refl _) (fun b hb => absurd hb (hno b)) ⟨0, rfl, hj0⟩ (fun b hb => ⟨.inr ((q0K rfl).2 (.inr ⟨hb, (hJ.fp hj0 hb).2⟩)), hno b⟩)
 have hkeep : Keeps C.I C.I C.w w1 := g2.evo.I
 have htab2 : TabT ⟨fun _ => none, 1, C.I, w1⟩ [.mark 0] := htab.tab.keep g2.evo.I fun b _ hb _ => ⟨by show b < w1.heap.size; omega, hno b, hold b hb⟩
 have hcall := hit.2 (C.w.heap.size + 1) (C.w.heap.size + 2) _ hJ yg (fun hi S w I ⟨_, _, Hn, _, _, _, _, _, hat⟩ => by
  rcases hat with ⟨_, h1, _⟩ | ⟨i, _, _, h1, h2, _⟩
  · exact hinf hi Hn h1
  · omega) (startE true (calS (C.w.heap.size :: Ds) (C.w.heap.size + 1) { C with w := w1 } H S0) ⟨fun _ => none, 1, C.I, w1⟩ [.mark 0]) ⟨fun _ => none, 1, C.I, w1⟩ (v1 ++ [Value.func (.yield (C.w.heap.size + 1)) #[] #[]] ++ v2) hw2 ⟨⟨htab2, htab2.lt⟩, _, hy⟩
  (q0s.2 ⟨_, _, rfl, q0s.2 ⟨_, _, rfl, q0D (C := C) hkeep hfi d1, q0b.2 ⟨_, [], rfl, by rw [SV.den], q0l.2 rfl⟩⟩, q0D (C := C) hkeep hca d2⟩)
 refine ⟨C.w.heap.size + 1, [markD C.w.heap.size], w1, { target := .fn (.func f) v2.toArray, args := v1.toArray ++ #[.func (.yield (C.w.heap.size + 1)) #[] #[]] }, w1, f, (v1 ++ [Value.func (.yield (C.w.heap.size + 1)) #[] #[]] ++ v2).toArray, w1, henter, ?_, fun f' _ => q4J none f', ?_, fun h => (by cases h), q4n (hcall.mono ?_)⟩
 · simp [resolve, hgv, Deferred.ofValue]; rfl
 · simp [invoke, q2V hit.1]
 rintro e w' ⟨o, H', C', ⟨s, m, rfl, hm, hN⟩, rfl, hw', hx', v, rfl, hv⟩
 obtain ⟨_, S', hy'⟩ := @Stp.inv (fgG (yFG hJ)) _ _ _ _ _ hx' ⟨⟨htab2, htab2.lt⟩, _, hy⟩
 obtain ⟨m', hm', C3, S3, H3, o3, e3, hI3, hc3, hS3, hat⟩ := hy'.st
 have hmm : m' = m := by rw [hm] at hm'; simpa using hm'.symm
 subst hmm
 have hden : ∀ (pe : Option Code), @Den (topG g (C.w.heap.size :: Ds)) { E with base := markD C.w.heap.size :: E.base } (chgC C3 (C.w.heap.size + 1) (.loop (rfRec fn a.tmps ps assign body C.w.heap.size .exhausted pe))) t H3 { a with defers := [markD C.w.heap.size] ++ a.defers } := fun pe => by
  have hcal4 := hc3.chg (o' := .loop (rfRec fn a.tmps ps assign body C.w.heap.size .exhausted pe)) trivial
  exact ⟨hcal4.wd, hcal4.ext, ⟨by rw [hdf]; rfl, hcal4.tab, ⟨S3, g.base _ hcal4.core⟩, List.nodup_cons.2 ⟨fun h => absurd (hDlt _ h) (Nat.lt_irrefl _), hnd⟩, hcal4.marks⟩, hcal4.tmps⟩
 rcases hat with ⟨hmN, hHs, rfl⟩ | ⟨i, ex, c, rfl, hi, hX, hex, rfl⟩
 · have hmN : m' = N := Nat.le_antisymm hmN hN
   subst hmN
   refine ⟨none, _, by rw [← e3]; exact run_endLoop hc3.lat (by simp), ?_⟩
   exact (q1R (fun e a w hh => q8b e a w hh) k hns).1 _ _ (hdone C.w.heap.size H3 hHs { E with base := markD C.w.heap.size :: E.base } none n _ _ ⟨hn0, rfl⟩ (hden none))
 have hs := hstop C.w.heap.size i ex H3 hi hX
 refine ⟨some c, _, by rw [← e3]; exact run_endLoop hc3.lat (by simp), ?_⟩
 cases ex with
 | normal => exact hs.elim
 | pan s => exact hs.elim
 | ret =>
  cases hex
  exact wpIn_ret (q8b .ret _ _ ⟨_, t, H3, hs, rfl, @Den.fin (topG g (C.w.heap.size :: Ds)) _ _ _ _ _ (hden (some .ret))⟩)
 | exit id =>
  cases hex
  obtain ⟨k', hk', hs⟩ := hs
  have h9 := hs { E with base := markD C.w.heap.size :: E.base } none n _ _ ⟨hn0, rfl⟩ (hden (some (.exit id)))
  have h8 := @q2v (topG g (C.w.heap.size :: Ds)) P (Fw none) n _ _ id _ _ k' k hk' h9
  exact wpIn_exit ((q1R (G := topG g Ds) (fun e a w hh => q8b e a w hh) k hns).2 id _ _ h8)
end Go.Sx
set_option linter.unusedSectionVars false
namespace Go.Sx
open Go

variable {P : Program} {AQ : Ex → List SV → List SObj → Prop} {k0 : Nat} {k : List IT} {t : List SV} {H : List SObj}
variable {g : FG} {Ds : List Nat}

theorem z3L : (#[] : Array Value).size = 0 := rfl
attribute [go_sem] z3L
def RfStopI (g : FG) (P : Program) (AQ : Ex → List SV → List SObj → Prop) (k0 : Nat) (k : List IT) (t : List SV) (Ds : List Nat) : Ex → List SObj → Prop
 | .exit id, H => ∃ k', exitI id k = some k' ∧ @SoundI (topG g Ds) P AQ ⟨k0, k', t, H⟩
 | .ret, H => AQ .ret t H
 | _, _ => False
theorem z7h {inf : Prop} {gop : Operand} {ps : Array Tmp} {asg body : IC} {f : FuncId} {fi ca : List SV} {N : Nat} {vw : Nat → Nat → List SV → List SObj → Prop} (Hs : Nat → List SObj → Prop) (X : Nat → Ex → List SObj → Prop)
 (hgop : evT t gop = .fn f fi ca) (hfi : SV.cleanL fi = true) (hca : SV.cleanL ca = true) (hit : IterI inf P f fi ca N vw) (hinf : inf → ∀ Hn, ¬ Hs N Hn) (hlen : ∀ i n args' new, vw i n args' new → args'.length = ps.size) (h0 : Hs 0 H) (hns : noStopI k = true)
 (hround : ∀ i Hi args' new, i < N → Hs i Hi → vw i Hi.length args' new → ∀ L1 L2, @SoundI (pinG g L1) P (fun _ _ _ => False)
  ⟨(Hi ++ new).length, [.ic asg, .stop fun t' H' => @SoundI (pinG g L2) P (RQ Hs X i) ⟨H'.length, [.ic body], t', H'⟩], putL ps.toList args' t, Hi ++ new⟩)
 (hdone : ∀ D Hn, Hs N Hn → @SoundI (topG g (D :: Ds)) P AQ ⟨k0, k, t, Hn⟩) (hstop : ∀ D i ex Hn, i < N → X i ex Hn → RfStopI g P AQ k0 k t (D :: Ds) ex Hn) :
 @SoundI (topG g Ds) P AQ ⟨k0, .ic (.rf gop ps asg body) :: k, t, H⟩ := @q0d (topG g Ds) P AQ k0 t H _ (fun td' hr => by
 obtain ⟨c', r, rfl, hc, hr⟩ := hr
 obtain ⟨a, b, rfl, ha, hb⟩ := q0z hc
 refine z4V (Hs := Hs) (X := X) hgop hfi hca hit hinf ⟨hlen, fun i Hi args' new hi hH hv L1 L2 => ⟨_, fun t' H' hΦ => ?_, @q0c (pinG g L1) _ _ _ _ _ _ _ (hround i Hi args' new hi hH hv L1 L2) ⟨a, _, rfl, ha, [], rfl, rfl⟩⟩⟩ h0 (q1B hr hns) (fun D Hn h => @q0c (topG g (D :: Ds)) _ _ _ _ _ _ _ (hdone D Hn h) hr) fun D i ex Hn hi hX => ?_
 · exact @q0c (pinG g L2) _ _ _ _ _ _ _ hΦ ⟨b, [], rfl, hb, rfl⟩
 have h := hstop D i ex Hn hi hX
 cases ex with
 | normal => exact h.elim
 | pan s => exact h.elim
 | ret => exact h
 | exit id =>
  obtain ⟨k', hk', hs⟩ := h
  obtain ⟨r', hr', hrel⟩ := q2d hr hk'
  exact ⟨r', hr', @q0c (topG g (D :: Ds)) _ _ _ _ _ _ _ hs hrel⟩) rfl
theorem z7U {gop : Operand} {ps : Array Tmp} {asg body : IC} {f : FuncId} {fi ca : List SV} {N : Nat} {vw : Nat → Nat → List SV → List SObj → Prop} (Hs : Nat → List SObj → Prop) (X : Nat → Ex → List SObj → Prop)
 (hgop : evT t gop = .fn f fi ca) (hfi : SV.cleanL fi = true) (hca : SV.cleanL ca = true) (hit : Iter P f fi ca N vw) (hlen : ∀ i n args' new, vw i n args' new → args'.length = ps.size) (h0 : Hs 0 H) (hns : noStopI k = true)
 (hround : ∀ i Hi args' new, i < N → Hs i Hi → vw i Hi.length args' new → ∀ L1 L2, @SoundI (pinG g L1) P (fun _ _ _ => False)
  ⟨(Hi ++ new).length, [.ic asg, .stop fun t' H' => @SoundI (pinG g L2) P (RQ Hs X i) ⟨H'.length, [.ic body], t', H'⟩], putL ps.toList args' t, Hi ++ new⟩)
 (hdone : ∀ D Hn, Hs N Hn → @SoundI (topG g (D :: Ds)) P AQ ⟨k0, k, t, Hn⟩) (hstop : ∀ D i ex Hn, i < N → X i ex Hn → RfStopI g P AQ k0 k t (D :: Ds) ex Hn) :
 @SoundI (topG g Ds) P AQ ⟨k0, .ic (.rf gop ps asg body) :: k, t, H⟩ :=
 z7h (inf := False) Hs X hgop hfi hca hit.toI (fun h => h.elim) hlen h0 hns hround hdone hstop
theorem z6s {B N : Nat} {J : Nat → (Nat → Prop) → World → (Nat → Prop) → Prop} {T : List SObj} {c : IC} (hJ : FJ B J) (hno : ∀ S w I, ¬ J N S w I) : @SoundI (topG (yFG hJ) Ds) P AQ ⟨k0, .ic c :: k, t, .mark N :: T⟩ := @q0d (topG (yFG hJ) Ds) P AQ k0 t _ _ (fun td' _ E r n C a h0 hd => by
 obtain ⟨_, _, ⟨S0, hc⟩, _⟩ := hd.defs
 obtain ⟨m, h1, h2⟩ := hc.st
 have e : m = N := by simpa using h1.symm
 exact (hno _ _ _ (e ▸ h2)).elim) rfl

theorem q3E {l B N : Nat} {J : Nat → (Nat → Prop) → World → (Nat → Prop) → Prop} {vw : Nat → Nat → List SV → List SObj → Prop} {i : Nat} {T : List SObj} (T' : List SObj) {args : List SV} {d : Option Tmp}
 (hJ : FJ B J) (yg : YG P l B N J vw) (hi : i < N) (hh : ∀ n, ∃ args' new, vw i n args' new ∧ Hand n (.mark i :: T) (.mark i :: T') args args' new)
 (hk : ∀ b : Bool, @SoundI (topG (yFG hJ) Ds) P AQ ⟨k0, k, putT t d (.raw (.bool b)), .mark (if b then i + 1 else N + 1 + i) :: T'⟩) : @YldI (topG (yFG hJ) Ds) P AQ l args d ⟨k0, k, t, .mark i :: T⟩ := z0S hJ yg hi hh hk
def RoundM (T : List SObj) (f : Nat → Nat) (S : Nat → List SV) (n : Nat) (p : Nat → Prop) (i : Nat) : List SV → List SObj → Prop :=
 fun t' H' => i < n ∧ p (i + 1) ∧ (∃ G, H' = .mark (f (i + 1)) :: T ++ G) ∧ leM t' (S (i + 1))
theorem q9x [Ghost] {P : Program} {k : List It} (c : Code) (T : List SObj) (f : Nat → Nat) (S : Nat → List SV) (n : Nat) (p : Nat → Prop) (h₀ : p 0) (hs : leM t (S 0)) (hk : k0 ≤ T.length + 1) (hb : SV.belL (T.length + 1) t = true → ∀ i, SV.belL (T.length + 1) (S i) = true)
 (round : ∀ i, i ≤ n → p i → Sound P AQ ⟨k0, .code c :: .stop (RoundM T f S n p i) :: k, S i, .mark (f i) :: T⟩) : Sound P AQ ⟨k0, .code (.loop c) :: k, t, .mark (f 0) :: T⟩ := fun E r m C a h0 hd => by
 have hbt : ∀ i, SV.belL (T.length + 1) (S i) = true := hb (by have := q1s hd.tmps; rwa [hd.wd.n] at this)
 have hbh : belH (T.length + 1) T = true := q6c fun h o ho => by have := q4B (hd.wd.obj (h + 1) o (by simpa using ho)); rwa [hd.wd.n] at this
 simp only [wpT]
 refine q0B (fun m a w => ∃ i, i ≤ n ∧ p i ∧ n - i = m ∧ ∃ C, C.w = w ∧ Den E C (S i) (.mark (f i) :: T) a) n ⟨0, Nat.zero_le _, h₀, rfl, C, rfl, hd.wd, hd.ext, hd.defs, q1x (q1w hs) hd.tmps⟩ ?_
 rintro m' a w ⟨i, hi, hp, rfl, C, rfl, hd⟩
 have h1 := round i hi hp E r m C a h0 hd
 simp only [wpT] at h1
 refine wpIn_mono h1 fun e a w hq => ?_
 cases e with
 | normal =>
  obtain ⟨C', t', H', ⟨hlt, hp', ⟨G, rfl⟩, hS⟩, rfl, hd'⟩ := hq
  refine ⟨n - (i + 1), by omega, i + 1, hlt, hp', rfl, C'.ren (fun h => h) (T.length + 1), rfl, ?_⟩
  exact q8y (H' := .mark (f (i + 1)) :: T) h0.1 hd' (q8c hS) (hbt _) (fun h o ho _ => by rw [q2C, List.getElem?_append_left (List.getElem?_eq_some_iff.1 ho).1]; exact ho) (by simp only [belH, Bool.and_eq_true]; exact ⟨rfl, hbh⟩) (fun _ _ _ _ _ _ _ _ e => e) (fun _ _ => rfl) hk (fun _ hp hn => by rw [List.getElem?_append_left (by simp)] at hn; exact hn)
 | exit id => simpa only [Exit.then, exitT] using hq
 | _ => exact hq
theorem z0m [Ghost] {c : IC} (T : List SObj) (f : Nat → Nat) (upd : Nat → List (Nat × SV)) (n : Nat) (p : Nat → Prop) (h₀ : p 0) (hH : H = .mark (f 0) :: T) (hk : k0 ≤ T.length + 1) (hu : ∀ i, ((upd i).all fun x => x.2.bel (T.length + 1)) = true) (hs : leM t (setMany (maskT c.wr t) (upd 0)))
 (round : ∀ i, i ≤ n → p i → SoundI P AQ ⟨k0, .ic c :: .stop (RoundM T f (fun i => setMany (maskT c.wr t) (upd i)) n p i) :: k, setMany (maskT c.wr t) (upd i), .mark (f i) :: T⟩) :
 SoundI P AQ ⟨k0, .ic (.loop c) :: k, t, H⟩ := q0d (fun td' hr => by
 subst hH
 obtain ⟨c', r, rfl, hc, hr⟩ := hr
 obtain ⟨x, rfl, hx⟩ := q0z hc
 exact q9x x T f _ n _ h₀ hs hk (fun hb i => q2e _ (hu i) (q2m _ hb)) (fun i hi hp => q0c (round i hi hp) ⟨x, _, rfl, hx, r, rfl, hr⟩)) rfl

theorem z4H {n i : Nat} {T : List SObj} {hd : Nat} {ty : Ty} {xs : List ty.den} {rest : List SV} (hrow : T[hd]? = some (.row ty xs)) (hc : SV.cleanL rest = true) :
 Hand n (.mark i :: T) (.mark i :: T.set hd .dead) [.agg (.bld (hd + 1) ty xs.length :: rest)] [.agg (.bld n ty xs.length :: rest)] [.row ty xs] := by
 intro C Cc Hc vs hw hv hwc hn hwe hi hsep
 have hrow' : (SObj.mark i :: T)[hd + 1]? = some (.row ty xs) := by simpa using hrow
 have hset : (SObj.mark i :: T).set (hd + 1) .dead = .mark i :: T.set hd .dead := by simp
 obtain ⟨g1, g2⟩ := z0j hw (hd + 1) hrow' rfl
 rw [hset] at g1 g2
 obtain ⟨v, us, rfl, d1, d2⟩ := q0b.1 hv
 rw [q0l] at d2; subst d2
 rw [SV.den] at d1
 obtain ⟨ws, rfl, d1⟩ := d1
 obtain ⟨v, us, rfl, d1, d2⟩ := q0b.1 d1
 have hIk : Keeps C.I Cc.I C.w Cc.w := fun b hb => ⟨(hi b).2 hb, by rw [hwe]⟩
 have hobj := hw.obj _ _ hrow'
 -- the block of the row
 let hb : Option Nat := C.ρ (hd + 1)
 have hown1 : ∀ b, hb = some b → OwnB C (.mark i :: T) b := fun b h => ⟨hd + 1, _, hrow', rfl, h⟩
 have hnot : ∀ b, hb = some b → ¬ OwnB C (.mark i :: T.set hd .dead) b := by
  rintro b hbb ⟨x, o, ho, hl, hx⟩
  rw [← hset] at ho
  by_cases e : hd + 1 = x
  · subst e
    rw [List.getElem?_set_self (List.getElem?_eq_some_iff.1 hrow').1] at ho
    cases ho; simp [SObj.live] at hl
  rw [List.getElem?_set_ne e] at ho
  exact e (hw.inj _ _ _ o b hrow' ho rfl hl hbb hx)
 obtain ⟨k1, k2, k3⟩ := q6Y hwc hb (.row ty xs) (fun b h => by
  have h1 := hw.own b (hown1 b h)
  exact ⟨fun x => h1.1 ((hi b).1 x), by rw [hwe]; exact h1.2, hsep b (hown1 b h)⟩) _ rfl (by
  have hnn : (if Cc.n = Cc.n then hb else Cc.ρ Cc.n) = C.ρ (hd + 1) := if_pos rfl
  rcases hobj with ⟨x1, x2⟩ | ⟨b, arr, T', fz, x1, x2, x3, x4, x5⟩
  · exact .inl ⟨hnn.trans x1, x2⟩
  refine .inr ⟨b, arr, T', fz, hnn.trans x1, by show Cc.w.heap[b]? = _; rw [hwe]; exact x2, x3, x4, fun j y hy => ?_⟩
  obtain ⟨us', q1, q2⟩ := x5 j y hy
  exact ⟨us', Ty.rel_keep hIk _ _ _ q1, fun m u hm => by show Cc.w.cell? _ = _; rw [hwe]; exact q2 m u hm⟩)
 refine ⟨C, { Cc with ρ := (fun h => if h = Cc.n then hb else Cc.ρ h), n := Cc.n + 1 }, rfl, rfl, g1, Evo.refl _, fun b hb' => ?_, hwe, rfl, k1, k2, ?_, fun b hb' => ?_⟩
 · exact (g2.ownNew b hb').elim (fun x => by
    obtain ⟨x', o, ho, hl, hx⟩ := hb'
    rw [← hset] at ho
    by_cases e : hd + 1 = x'
    · subst e
      rw [List.getElem?_set_self (List.getElem?_eq_some_iff.1 hrow').1] at ho
      cases ho; simp [SObj.live] at hl
    rw [List.getElem?_set_ne e] at ho
    exact ⟨x', o, ho, hl, hx⟩) id
 · refine q0b.2 ⟨_, [], rfl, ?_, q0l.2 rfl⟩
   rw [SV.den]
   refine ⟨_, rfl, q0b.2 ⟨v, us, rfl, ?_, ?_⟩⟩
   · rw [SV.den] at d1 ⊢
     obtain ⟨_, d1⟩ := d1
     have hnn : (if n = Cc.n then hb else Cc.ρ n) = C.ρ (hd + 1) := if_pos (by rw [hwc.n, hn])
     refine ⟨by show n < Cc.n + 1; rw [hwc.n, hn]; omega, ?_⟩
     rcases d1 with ⟨x1, x2⟩ | ⟨b, c, m, x1, x2, x3, x4, x5⟩
     · exact .inl ⟨hnn.trans x1, x2⟩
     exact .inr ⟨b, c, m, hnn.trans x1, x2, x3, by show World.bsize Cc.w b = _; rw [hwe]; exact x4, x5⟩
   exact q0D (C := C) (C' := { Cc with ρ := (fun h => if h = Cc.n then hb else Cc.ρ h), n := Cc.n + 1 }) hIk hc d2
 exact orMap (k3 b hb') id fun e => ⟨hown1 b e, hnot b e⟩
end Go.Sx
namespace Go.Proofs.YtikapabgggphpaaGreatDoor
open Go Go.Sx Go.Proofs
set_option maxRecDepth 100000
set_option maxHeartbeats 40000000
def padT (b : List UInt8) (total : Nat) : List UInt8 := padZ b (padN b.length) ++ lnB8 (8 * total) 8
theorem q6Z (b : List UInt8) (total : Nat) : (padT b total).length = 64 * blksN b := by
 unfold padT blksN
 rw [List.length_append, z5L, z6z]
 unfold padN
 omega
def blkAt (p : List UInt8) (i : Nat) : List UInt8 := (p.take (64 * i + 64)).drop (64 * i)
theorem q8M {p : List UInt8} {N i : Nat} (hp : p.length = 64 * N) (hi : i < N) : (blkAt p i).length = 64 := by
 unfold blkAt
 rw [List.length_drop, List.length_take]; omega
def vwB (b : List UInt8) (total : Nat) : Nat → Nat → List SV → List SObj → Prop := fun i _ args' new => args' = [.isl .u8 (blkAt (padT b total) i)] ∧ new = []
theorem z7o (b : List UInt8) (total : Nat) (hb : b.length ≤ 70368744177664) : PC Tryz.prog 193 [.isl .u8 b, rI total] (.fn 200 [] [.iptr (.slice .u8) b 0, .iptr (.int .i64) total 0]) := by
 refine q0A rfl rfl ?_
 refine q1m fi193 ?_
 refine uQ 4 _ ?_
 with_reducible refine sxE ?_
 refine q4y 2 0 (ty := .slice .u8) (x := b) rfl ⟨by omega, fun _ _ => trivial⟩ rfl rfl ?_
 refine q4y 3 1 (ty := .int .i64) (x := (total : Int)) rfl trivial rfl rfl ?_
 refine gQ ?_; trivial
def endP (r : List UInt8) (total S i : Nat) : List UInt8 := (List.range S).map fun j => if j < r.length then r.getD j 0 else if j = r.length then 128 else if S - i ≤ j then UInt8.ofNat (8 * total / 2 ^ (8 * (S - 1 - j)) % 256) else 0
theorem q3T (r : List UInt8) (total S i : Nat) : (endP r total S i).length = S := by simp [endP]
theorem q8J (r : List UInt8) (total : Nat) {S : Nat} (h : r.length < S) : (splice (List.replicate S 0) 0 r).set r.length 128 = endP r total S 0 := by
 apply List.ext_getElem
 · simp [endP, splice]; omega
 intro j h1 h2
 rw [List.getElem_set]
 simp only [endP, List.getElem_map, List.getElem_range]
 rw [q3T] at h2
 split
 · subst_vars; rw [if_neg (by omega), if_pos rfl]
 rename_i hne
 simp only [splice, List.take_zero, List.nil_append, Nat.zero_add]
 by_cases hj : j < r.length
 · rw [if_pos hj, List.getElem_append_left hj, List.getD_eq_getElem?_getD, List.getElem?_eq_getElem hj]; rfl
 rw [if_neg hj, if_neg (by omega), if_neg (by omega), List.getElem_append_right (by omega)]
 simp
theorem z0X (r : List UInt8) (total : Nat) {S i : Nat} (h : r.length + 9 ≤ S) (hi : i < 8) : (endP r total S i).set (S - 1 - i) (UInt8.ofNat (8 * total / 2 ^ (8 * i) % 256)) = endP r total S (i + 1) := by
 apply List.ext_getElem
 · simp [endP]
 intro j h1 h2
 rw [q3T] at h2
 rw [List.getElem_set]
 simp only [endP, List.getElem_map, List.getElem_range]
 split
 · subst_vars
   rw [if_neg (by omega), if_neg (by omega), if_pos (by omega)]
   rw [show S - 1 - (S - 1 - i) = i by omega]
 rename_i hne
 by_cases h1 : j < r.length
 · rw [if_pos h1, if_pos h1]
 rw [if_neg h1, if_neg h1]
 by_cases h2 : j = r.length
 · rw [if_pos h2, if_pos h2]
 rw [if_neg h2, if_neg h2]
 by_cases h3 : S - i ≤ j
 · rw [if_pos h3, if_pos (by omega)]
 rw [if_neg h3, if_neg (by omega)]
theorem z6Q (b : List UInt8) (total : Nat) {S : Nat} (hS : S = 64 * (blksN b - b.length / 64)) : (padT b total).drop (64 * (b.length / 64)) = endP (b.drop (64 * (b.length / 64))) total S 8 := by
 have hl := q6Z b total
 have hb : blksN b = (b.length + 72) / 64 := rfl
 apply List.ext_getElem
 · rw [List.length_drop, hl, q3T]; omega
 intro j h1 h2
 rw [List.length_drop, hl] at h1
 have hd : (b.drop (64 * (b.length / 64))).length = b.length % 64 := by rw [List.length_drop]; omega
 have hn : padN b.length = (119 - b.length % 64) % 64 := rfl
 rw [List.getElem_drop]
 simp only [endP, List.getElem_map, List.getElem_range, hd]
 unfold padT padZ
 by_cases c1 : j < b.length % 64
 · rw [if_pos c1, List.getElem_append_left (by simp; omega), List.getElem_append_left (by simp; omega), List.getElem_append_left (by omega), List.getD_eq_getElem?_getD, List.getElem?_drop, List.getElem?_eq_getElem (by omega)]; rfl
 rw [if_neg c1]
 by_cases c2 : j = b.length % 64
 · rw [if_pos c2, List.getElem_append_left (by simp; omega), List.getElem_append_left (by simp; omega), List.getElem_append_right (by omega)]
   have : 64 * (b.length / 64) + j - b.length = 0 := by omega
   simp [this]
 rw [if_neg c2]
 by_cases c3 : S - 8 ≤ j
 · have hpl : (b ++ [128] ++ List.replicate (padN b.length) (0 : UInt8)).length = b.length + 1 + padN b.length := by simp; omega
   rw [if_pos c3, List.getElem_append_right (by rw [hpl]; omega)]
   simp only [lnB8, List.getElem_map, List.getElem_range, hpl]
   refine congrArg (fun k => UInt8.ofNat (8 * total / 2 ^ (8 * k) % 256)) ?_
   omega
 rw [if_neg c3, List.getElem_append_left (by simp; omega), List.getElem_append_right (by simp; omega)]
 simp
theorem u64i {x : Int} (h : 0 ≤ x ∧ x < 18446744073709551616) : IntKind.u64.wrap x = x := by
 have e : IntKind.u64.wrap x = x % 18446744073709551616 := rfl
 rw [e]; omega
theorem byteQ (n i : Nat) (hi : i ≤ 7) : UInt8.ofNat (IntKind.u8.wrap ((n : Int).fdiv (2 ^ min (8 * i) 64))).toNat = UInt8.ofNat (n / 2 ^ (8 * i) % 256) := by
 have e : ((n : Int).fdiv (2 ^ (8 * i))) = ((n / 2 ^ (8 * i) : Nat) : Int) := by
  rw [Int.fdiv_eq_ediv_of_nonneg _ (by exact_mod_cast Nat.zero_le (2 ^ (8 * i)))]
  simp
 rw [Nat.min_eq_left (by omega), e]
 generalize n / 2 ^ (8 * i) = m
 rw [u8wrapR]
 congr 1
theorem q5F (p : List UInt8) (f k : Nat) : blkAt p (f + k) = ((p.drop (64 * f)).drop (64 * k)).take 64 := by
 unfold blkAt
 rw [List.drop_drop, List.drop_take, Nat.mul_add]
 congr 1
 omega
theorem z4u (b : List UInt8) (total : Nat) {i : Nat} (hi : i < b.length / 64) : List.take 64 (b.drop (64 * i)) = blkAt (padT b total) i := by
 unfold blkAt padT padZ
 rw [List.take_append_of_le_length (by simp; omega), List.take_append_of_le_length (by simp; omega), List.take_append_of_le_length (by omega), List.drop_take]
 congr 1
 omega
theorem q9f (b : List UInt8) (total : Nat) (hb : b.length ≤ 70368744177664) (ht : total ≤ 70368744177664) : Iter Tryz.prog 200 [] [.iptr (.slice .u8) b 0, .iptr (.int .i64) (total : Int) 0] (blksN b) (vwB b total) := by
 refine ⟨by kernel_rfl, fun l B J hJ yg => ?_⟩
 refine (q3p (yFG hJ) fi200 ?_).2
 letI : Ghost := topG (yFG hJ) []
 refine uQ 600 _ ?_
 with_reducible refine sxE ?_
 refine z0m [] (fun i => i) (fun i => [(4, .isl .u8 (b.drop (64 * i)))]) (b.length / 64) (fun _ => True) trivial rfl (by simp) (by simp [SV.bel]) ?_ fun i hi _ => ?_
 · with_reducible refine sxE ?_; trivial
 have hN : blksN b = (b.length + 72) / 64 := rfl
 by_cases hlt : i < b.length / 64
 · refine uQ 600 _ ?_
   simp (maxSteps := 3000000) only [List.length_drop, go_sem, ↓zA, ↓reduceIte, ↓reduceDIte] <;> try simp only [zB]
   refine ⟨fun _ => ⟨by omega, ?_⟩, fun h => absurd h (by omega)⟩
   refine q3E [] hJ yg (by omega) (fun n => ⟨_, _, ⟨by rw [z4u b total hlt], rfl⟩, q2j rfl⟩) fun c => ?_
   cases c
   · refine gQ ?_
     exact ⟨_, _, rfl, rfl, by omega⟩
   refine uQ 600 _ ?_
   simp (maxSteps := 3000000) only [List.length_drop, go_sem, ↓zA, ↓reduceIte, ↓reduceDIte] <;> try simp only [zB]
   have he : List.drop 64 (List.take (b.length - 64 * i) (List.drop (64 * i) b)) = List.drop (64 * (i + 1)) b := by
    rw [List.take_of_length_le (by rw [List.length_drop]; omega), List.drop_drop]; congr 1
   refine ⟨⟨by omega, by omega⟩, hlt, trivial, ⟨[], rfl⟩, ?_⟩
   rw [he]
   with_reducible refine sxE ?_; trivial
 obtain rfl : i = b.length / 64 := by omega
 refine uQ 600 _ ?_
 simp (maxSteps := 3000000) only [List.length_drop, go_sem, ↓zA, ↓reduceIte, ↓reduceDIte] <;> try simp only [zB]
 have hrl : (b.drop (64 * (b.length / 64))).length = b.length % 64 := by rw [List.length_drop]; omega
 have hea := z6Q b total (S := 64 * (blksN b - b.length / 64)) rfl
 generalize hr : b.drop (64 * (b.length / 64)) = r at *
 have hl2 : b.length - 64 * (b.length / 64) = b.length % 64 := by omega
 rw [hl2]
 refine ⟨fun h => absurd h (by omega), fun _ => ⟨fun hg => ?_, fun hg => ?_⟩⟩
 · have hw9 : IntKind.i64.wrap (((b.length % 64 : Nat) : Int) + 9) = ((b.length % 64 : Nat) : Int) + 9 := by rw [wrapi (by omega)]
   have hS : 64 * (blksN b - b.length / 64) = 128 := by omega
   rw [hS] at hea
   have htk : List.take (min (b.length % 64) 128) r = r := List.take_of_length_le (by omega)
   have hz := q8J r total (S := 128) (by omega)
   rw [htk]
   repeat (with_reducible refine And.intro (by first | omega | exact ⟨by omega, by omega⟩ | exact ⟨by simp; omega, by decide⟩) ?_)
   refine q0p (ι := Nat) (fun i => [(32, rI i)]) (fun i => [.mark (b.length / 64), .row .u8 (endP r total 128 i)]) (fun i => 8 - i) (fun i => i ≤ 8) 0 (Nat.zero_le _) ?_ ?_ ?_
   · rw [← hz]
     simp only [splice, List.take_zero, List.nil_append, hrl, Nat.zero_add]
     rfl
   · with_reducible refine sxE ?_; trivial
   intro i hi
   have hel := q3T r total 128 i
   have hwr := wsx i (by omega)
   by_cases h8 : i < 8
   · have w0 : IntKind.i64.wrap (128 - 1) = 127 := by rw [wrapi (by omega)]; rfl
     have w1 : IntKind.i64.wrap (127 - (i : Int)) = ((127 - i : Nat) : Int) := by rw [wrapi (by omega)]; omega
     have w2 : IntKind.u64.wrap (total : Int) = total := u64i (by omega)
     have w3 : IntKind.u64.wrap ((total : Int) * 8) = ((8 * total : Nat) : Int) := by rw [u64i (by omega)]; omega
     have w4 : IntKind.i64.wrap (8 * (i : Int)) = ((8 * i : Nat) : Int) := by rw [wrapi (by omega)]; omega
     refine uQ 600 _ ?_
     simp (maxSteps := 3000000) only [w0, w1, w2, w3, w4, hel, Nat.zero_add, go_sem, ↓zA, ↓reduceIte, ↓reduceDIte] <;> try simp only [zB]
     refine ⟨fun _ => ?_, fun h => absurd h (by omega)⟩
     repeat (with_reducible refine And.intro (by first | omega | exact ⟨by omega, by omega⟩ | exact ⟨by omega, q1V _⟩) ?_)
     refine ⟨i + 1, h8, by dsimp only; omega, ?_, ?_⟩
     · dsimp only
       rw [byteQ _ _ (by omega), ← z0X r total (by omega) h8]
     with_reducible refine sx1 hwr ?_; trivial
   obtain rfl : i = 8 := by omega
   refine uQ 6 _ ?_
   simp (maxSteps := 3000000) only [hel, Nat.zero_add, go_sem, ↓zA, ↓reduceIte, ↓reduceDIte] <;> try simp only [zB]
   refine ⟨fun h => absurd h (by omega), fun _ => ?_⟩
   refine uQ 1 _ ?_
   with_reducible refine sxE ?_
   refine q1u 1 rfl rfl (by rw [hel]; decide) ?_ ?_ ?_
   · with_reducible refine sxE ?_; trivial
   · with_reducible refine sxE ?_
     omega
   with_reducible refine sxE ?_
   have hck : List.take 128 (endP r total 128 8) = endP r total 128 8 := List.take_of_length_le (by omega)
   rw [hck]
   refine uQ 600 _ ?_
   simp (maxSteps := 3000000) only [hel, Nat.zero_add, go_sem, ↓zA, ↓reduceIte, ↓reduceDIte] <;> try simp only [zB]
   refine ⟨by omega, ?_⟩
   refine q3E [.dead] hJ yg (i := b.length / 64) (by omega) (fun n => ⟨_, _, ⟨by rw [show blkAt (padT b total) (b.length / 64) = _ from q5F (padT b total) (b.length / 64) 0, hea, List.drop_zero], rfl⟩, q2j rfl⟩) fun c => ?_
   cases c
   · refine gQ ?_
     exact ⟨_, _, rfl, rfl, by omega⟩
   refine uQ 600 _ ?_
   simp (maxSteps := 3000000) only [hel, Nat.zero_add, go_sem, ↓zA, ↓reduceIte, ↓reduceDIte] <;> try simp only [zB]
   repeat (with_reducible refine And.intro (by first | omega | exact ⟨by omega, by omega⟩) ?_)
   refine q3E [.dead] hJ yg (i := b.length / 64 + 1) (by omega) (fun n => ⟨_, _, ⟨by rw [q5F _ _ 1, hea, hck, List.take_of_length_le (by rw [List.length_drop]; omega)], rfl⟩, q2j rfl⟩) fun c => ?_
   cases c
   · refine gQ ?_
     exact ⟨_, _, rfl, rfl, by omega⟩
   refine gQ ?_
   exact ⟨_, _, rfl, rfl, by omega⟩
 have hw9 : IntKind.i64.wrap (((b.length % 64 : Nat) : Int) + 9) = ((b.length % 64 : Nat) : Int) + 9 := by rw [wrapi (by omega)]
 have hS : 64 * (blksN b - b.length / 64) = 64 := by omega
 rw [hS] at hea
 have htk : List.take (min (b.length % 64) 64) r = r := List.take_of_length_le (by omega)
 have hz := q8J r total (S := 64) (by omega)
 rw [htk]
 repeat (with_reducible refine And.intro (by first | omega | exact ⟨by omega, by omega⟩ | exact ⟨by simp; omega, by decide⟩) ?_)
 refine q0p (ι := Nat) (fun i => [(32, rI i)]) (fun i => [.mark (b.length / 64), .row .u8 (endP r total 64 i)]) (fun i => 8 - i) (fun i => i ≤ 8) 0 (Nat.zero_le _) ?_ ?_ ?_
 · rw [← hz]
   simp only [splice, List.take_zero, List.nil_append, hrl, Nat.zero_add]
   rfl
 · with_reducible refine sxE ?_; trivial
 intro i hi
 have hel := q3T r total 64 i
 have hwr := wsx i (by omega)
 by_cases h8 : i < 8
 · have w0 : IntKind.i64.wrap (64 - 1) = 63 := by rw [wrapi (by omega)]; rfl
   have w1 : IntKind.i64.wrap (63 - (i : Int)) = ((63 - i : Nat) : Int) := by rw [wrapi (by omega)]; omega
   have w2 : IntKind.u64.wrap (total : Int) = total := u64i (by omega)
   have w3 : IntKind.u64.wrap ((total : Int) * 8) = ((8 * total : Nat) : Int) := by rw [u64i (by omega)]; omega
   have w4 : IntKind.i64.wrap (8 * (i : Int)) = ((8 * i : Nat) : Int) := by rw [wrapi (by omega)]; omega
   refine uQ 600 _ ?_
   simp (maxSteps := 3000000) only [w0, w1, w2, w3, w4, hel, Nat.zero_add, go_sem, ↓zA, ↓reduceIte, ↓reduceDIte] <;> try simp only [zB]
   refine ⟨fun _ => ?_, fun h => absurd h (by omega)⟩
   repeat (with_reducible refine And.intro (by first | omega | exact ⟨by omega, by omega⟩ | exact ⟨by omega, q1V _⟩) ?_)
   refine ⟨i + 1, h8, by dsimp only; omega, ?_, ?_⟩
   · dsimp only
     rw [byteQ _ _ (by omega), ← z0X r total (by omega) h8]
   with_reducible refine sx1 hwr ?_; trivial
 obtain rfl : i = 8 := by omega
 refine uQ 6 _ ?_
 simp (maxSteps := 3000000) only [hel, Nat.zero_add, go_sem, ↓zA, ↓reduceIte, ↓reduceDIte] <;> try simp only [zB]
 refine ⟨fun h => absurd h (by omega), fun _ => ?_⟩
 refine uQ 1 _ ?_
 with_reducible refine sxE ?_
 refine q1u 1 rfl rfl (by rw [hel]; decide) ?_ ?_ ?_
 · with_reducible refine sxE ?_; trivial
 · with_reducible refine sxE ?_
   omega
 with_reducible refine sxE ?_
 have hck : List.take 64 (endP r total 64 8) = endP r total 64 8 := List.take_of_length_le (by omega)
 rw [hck]
 refine uQ 600 _ ?_
 simp (maxSteps := 3000000) only [hel, Nat.zero_add, go_sem, ↓zA, ↓reduceIte, ↓reduceDIte] <;> try simp only [zB]
 refine ⟨by omega, ?_⟩
 refine q3E [.dead] hJ yg (i := b.length / 64) (by omega) (fun n => ⟨_, _, ⟨by rw [show blkAt (padT b total) (b.length / 64) = _ from q5F (padT b total) (b.length / 64) 0, hea, List.drop_zero], rfl⟩, q2j rfl⟩) fun c => ?_
 cases c
 · refine gQ ?_
   exact ⟨_, _, rfl, rfl, by omega⟩
 refine gQ ?_
 exact ⟨_, _, rfl, rfl, by omega⟩
def foldB (h : List Int) (p : List UInt8) : Nat → List Int
 | 0 => h
 | k + 1 => blkS (blkAt p k) (foldB h p k)
theorem q4A (p : List UInt8) : ∀ k, foldB hS0 p k = hashS p k
 | 0 => rfl
 | k + 1 => by rw [foldB, q4A p k]; rfl
theorem q0W {h : List Int} (hh : inWs h) (p : List UInt8) : ∀ k, inWs (foldB h p k)
 | 0 => hh
 | _ + 1 => q9L
def smH (h : List Int) (p : List UInt8) (i : Nat) (H' : List SObj) : Prop := ∃ G, H' = .row .u8 (List.replicate 32 0) :: .row (.int .u32) (foldB h p i) :: G
theorem j0y (b : List UInt8) (hb : b.length ≤ 70368744177664) : PC Tryz.prog 178 [.isl .u8 b] (.dat (.arr 32 .u8) (shaS b)) := by
 refine q0A rfl rfl (q7I (q3p noFG fi178 ?_))
 letI : Ghost := topG noFG []
 refine uQ 600 _ ?_
 with_reducible refine sxE ?_
 refine q2E (t := .arr 8 (.int .u32)) (x := dat_sha_start) (ag := some 8) (s := .dat (.arr 8 (.int .u32)) dat_sha_start) (by unfold datList; repeat (first | exact .head _ | apply List.Mem.tail)) rfl (.inr rfl) ?_
 refine gQ ?_
 refine q0a (z7o b b.length hb) ?_
 refine gQ ?_
 refine z7U (smH hS0 (padS b)) (fun _ _ _ => False) rfl rfl rfl (q9f b b.length hb hb) (fun i n args' new h => by rw [h.1]; rfl) ⟨[], rfl⟩ rfl ?_ ?_ ?_
 · rintro i _ args' new hi ⟨G, rfl⟩ ⟨rfl, rfl⟩ L1 L2
   letI : Ghost := pinG noFG L1
   rw [List.append_nil]
   refine uQ 600 _ ?_
   simp only [putL, List.toList_toArray]
   with_reducible refine sxaE ?_
   letI : Ghost := pinG noFG L2
   refine uQ 600 _ ?_
   with_reducible refine sxaE ?_
   have hbl : (blkAt (padT b b.length) i).length = 64 := q8M (q6Z b b.length) hi
   refine eQ [1] (j0P (blkAt (padT b b.length) i) _ hbl (q0W q4P _ i)) ?_
   exact ⟨G, rfl⟩
 · rintro D _ ⟨G, rfl⟩
   letI : Ghost := topG noFG [D]
   have hv := q0W q4P (padS b) (blksN b)
   have hfl := hv.1
   have hfe : bytesS (foldB hS0 (padS b) (blksN b)) = shaS b := by rw [q4A]; rfl
   generalize foldB hS0 (padS b) (blksN b) = h at *
   refine gQ ?_
   have htk : List.take 8 h = h := List.take_of_length_le (by omega)
   rw [htk]
   refine ⟨by omega, q0a (z2X h hv) ?_⟩
   have hbl := q0T h
   refine uQ 600 _ ?_
   with_reducible refine sx1 hbl ?_
   rw [hfe]
 rintro D i ex _ hi h
 exact h.elim
theorem z3I {p q : List UInt8} {i : Nat} (h : 64 * i + 64 ≤ p.length) : blkAt (p ++ q) i = blkAt p i := by
 unfold blkAt
 rw [List.take_append_of_le_length h]
theorem q9W {p q : List UInt8} {c i : Nat} (h : p.length = 64 * c) : blkAt (p ++ q) (c + i) = blkAt q i := by
 unfold blkAt
 rw [List.take_append, List.drop_append, List.drop_eq_nil_of_le (by rw [List.length_take]; omega), List.nil_append, List.length_take, h]
 congr 1
 · omega
 congr 1; omega
theorem q2b (h : List Int) {p q : List UInt8} : ∀ {k : Nat}, 64 * k ≤ p.length → foldB h (p ++ q) k = foldB h p k
 | 0, _ => rfl
 | k + 1, hk => by rw [foldB, foldB, q2b h (by omega), z3I (by omega)]
theorem q5x (h : List Int) {p q : List UInt8} {c : Nat} (hp : p.length = 64 * c) : ∀ k, foldB h (p ++ q) (c + k) = foldB (foldB h p c) q k
 | 0 => by rw [Nat.add_zero, q2b h (by omega)]; rfl
 | k + 1 => by rw [← Nat.add_assoc, foldB, foldB, q5x h hp k, q9W hp]
abbrev HaD : Type := List Int × List UInt8 × Int
structure HRep (m : List UInt8) (x : HaD) : Prop where
 n : x.2.2 = (m.length : Int)
 rest : x.2.1.length = 64
 len : x.1.length = 8
 st : m.length ≠ 0 → x.1 = foldB hS0 m (m.length / 64)
 tail : x.2.1.take (m.length % 64) = m.drop (64 * (m.length / 64))
theorem z5v : HRep [] (List.replicate 8 0, List.replicate 64 0, 0) := ⟨rfl, by simp, by simp, fun h => absurd rfl h, by simp⟩
def wrR (m rest b : List UInt8) : List UInt8 :=
 if m.length % 64 + b.length < 64 then splice rest (m.length % 64) b
 else splice (if 0 < m.length % 64 then splice rest (m.length % 64) (b.take (64 - m.length % 64)) else rest) 0 ((m ++ b).drop (64 * ((m ++ b).length / 64)))
def wrS (m : List UInt8) (x : HaD) (b : List UInt8) : HaD := (foldB hS0 (m ++ b) ((m ++ b).length / 64), wrR m x.2.1 b, ((m ++ b).length : Int))
theorem q1P {α : Type} {xs ys : List α} {i : Nat} (h : i + ys.length ≤ xs.length) : (splice xs i ys).length = xs.length := by simp [splice]; omega
theorem q5J {α : Type} {xs ys : List α} {i : Nat} (h : i + ys.length ≤ xs.length) : (splice xs i ys).take (i + ys.length) = xs.take i ++ ys := by
 unfold splice
 rw [List.take_append_of_le_length (by rw [List.length_append, List.length_take]; omega), List.take_of_length_le (by rw [List.length_append, List.length_take]; omega)]
theorem q7z {m b : List UInt8} {x : HaD} (h : HRep m x) : HRep (m ++ b) (wrS m x b) := by
 obtain ⟨h1, h2, h3, h4, h5⟩ := h
 have hlen : (m ++ b).length = m.length + b.length := List.length_append
 have hl : (wrR m x.2.1 b).length = 64 := by
  unfold wrR
  split
  · rw [q1P (by omega)]; exact h2
  have h6 : ((m ++ b).drop (64 * ((m ++ b).length / 64))).length ≤ 64 := by rw [List.length_drop]; omega
  split
  · rw [q1P, q1P] <;> (try rw [q1P]) <;> (try rw [List.length_take]) <;> omega
  rw [q1P] <;> omega
 refine ⟨rfl, hl, (q0W q4P _ _).1, fun _ => rfl, ?_⟩
 show (wrR m x.2.1 b).take _ = _
 unfold wrR at hl ⊢
 split
 · rename_i hlt
   have e : (m ++ b).length % 64 = m.length % 64 + b.length := by omega
   rw [e, q5J (by omega), h5, List.drop_append_of_le_length (by omega)]
   congr 2
   omega
 rename_i hge
 rw [if_neg hge] at hl
 have h6 : ((m ++ b).drop (64 * ((m ++ b).length / 64))).length = (m ++ b).length % 64 := by rw [List.length_drop]; omega
 generalize hr : (if 0 < m.length % 64 then splice x.2.1 (m.length % 64) (b.take (64 - m.length % 64)) else x.2.1) = r at *
 generalize ht : (m ++ b).drop (64 * ((m ++ b).length / 64)) = t at *
 have hrl : r.length = 64 := by
  rw [← hr]
  split
  · rw [q1P] <;> (try rw [List.length_take]) <;> omega
  exact h2
 have := q5J (xs := r) (ys := t) (i := 0) (by omega)
 rw [Nat.zero_add, List.take_zero, List.nil_append] at this
 rw [← h6]; exact this
theorem z5Y {m : List UInt8} {x : HaD} (h : HRep m x) (hm : m.length ≠ 0) : bytesS (foldB x.1 (padT (x.2.1.take (m.length % 64)) m.length) (blksN (x.2.1.take (m.length % 64)))) = shaS m := by
 obtain ⟨h1, h2, h3, h4, h5⟩ := h
 rw [h4 hm, h5]
 have hp : padS m = m.take (64 * (m.length / 64)) ++ padT (m.drop (64 * (m.length / 64))) m.length := by
  unfold padS padT padZ
  have e : padN (m.drop (64 * (m.length / 64))).length = padN m.length := by
   rw [List.length_drop]; unfold padN; congr 2; omega
  rw [e]
  simp only [← List.append_assoc, List.take_append_drop]
 have hb : blksN m = m.length / 64 + blksN (m.drop (64 * (m.length / 64))) := by
  unfold blksN
  rw [List.length_drop]; omega
 unfold shaS
 rw [← q4A, hp, hb, q5x hS0 (by rw [List.length_take]; omega)]
 congr 2
 have := q2b hS0 (p := m.take (64 * (m.length / 64))) (q := m.drop (64 * (m.length / 64))) (k := m.length / 64) (by rw [List.length_take]; omega)
 rw [List.take_append_drop] at this
 exact this
theorem z4a (b : List UInt8) (r : List UInt8 × Int) (h : List Int) (hb : b.length = 64) (hh : inWs h) : PE Tryz.prog 194 [.rptr 0 (.prod (.arr 8 (.int .u32)) (.prod (.arr 64 .u8) (.int .i64))) 0 0, .isl .u8 b] [.row (.prod (.arr 8 (.int .u32)) (.prod (.arr 64 .u8) (.int .i64))) [(h, r)]] (.ret (.tup [])) [.row (.prod (.arr 8 (.int .u32)) (.prod (.arr 64 .u8) (.int .i64))) [((blkS b h), r)]] := by
 refine q0i (Nat.le_refl _) ?_
 refine rQ fi194 ?_
 refine q0p (ι := Nat) (fun t => [(26, rI t)]) (fun t => [.row (.prod (.arr 8 (.int .u32)) (.prod (.arr 64 .u8) (.int .i64))) [(h, r)], .row (.int .u32) (wL b t)]) (fun t => 16 - t) (fun t => t ≤ 16) 0 (Nat.zero_le _) (by rw [q5m]; rfl) ?_ ?_
 · with_reducible refine sxE ?_; trivial
 intro t ht
 have hwr := wsx t (by omega)
 have hwl := q3f b t
 by_cases hlt : t < 16
 · have w1 : IntKind.i64.wrap (4 * (t : Int)) = ((4 * t : Nat) : Int) := by rw [wrapi (by omega)]; omega
   have w4 : IntKind.i64.wrap (((4 * t : Nat) : Int) + 4) = ((4 * t + 4 : Nat) : Int) := by rw [wrapi (by omega)]; omega
   refine uQ 600 _ ?_
   simp (maxSteps := 3000000) only [w1, w4, hwl, Nat.zero_add, go_sem, ↓zA, ↓reduceIte, ↓reduceDIte] <;> try simp only [zB]
   have hdl : (List.drop (4 * t) (List.take (4 * t + 4) b)).length = 4 := by rw [List.length_drop, List.length_take]; omega
   refine ⟨fun _ => ?_, fun h => absurd h (by omega)⟩
   repeat (with_reducible refine And.intro (by first | omega | exact ⟨by omega, by omega, by omega, by omega⟩ | exact ⟨by omega, by omega⟩) ?_)
   refine ⟨t + 1, by show t + 1 ≤ 16; omega, by dsimp only; omega, ?_, ?_⟩
   · have hd : ∀ j, j < 4 → (List.drop (4 * t) (List.take (4 * t + 4) b)).getD j Ty.u8.dflt = b.getD (4 * t + j) 0 := fun j hj => by
      rw [List.getD_eq_getElem?_getD, List.getElem?_drop, List.getElem?_take_of_lt (by omega), ← List.getD_eq_getElem?_getD]
      rfl
     have ho := or4 fun j => (List.drop (4 * t) (List.take (4 * t + 4) b)).getD j Ty.u8.dflt
     rw [ho, hd 0 (by omega), hd 1 (by omega), hd 2 (by omega), hd 3 (by omega)]
     have hw : ((256 * (256 * (256 * (b.getD (4 * t + 0) 0).toNat + (b.getD (4 * t + 1) 0).toNat) + (b.getD (4 * t + 2) 0).toNat) + (b.getD (4 * t + 3) 0).toNat : Nat) : Int) = wS b t := by
      rw [z0a hlt]
      simp only [wdP, byI]
      omega
     show [SObj.row (.prod (.arr 8 (.int .u32)) (.prod (.arr 64 .u8) (.int .i64))) [(h, r)], SObj.row (.int .u32) ((wL b t).set t ((256 * (256 * (256 * (b.getD (4 * t + 0) 0).toNat + (b.getD (4 * t + 1) 0).toNat) + (b.getD (4 * t + 2) 0).toNat) + (b.getD (4 * t + 3) 0).toNat : Nat) : Int))] = [SObj.row (.prod (.arr 8 (.int .u32)) (.prod (.arr 64 .u8) (.int .i64))) [(h, r)], SObj.row (.int .u32) (wL b (t + 1))]
     rw [hw, q3e b (by omega)]
   with_reducible refine sx1 hwr ?_; trivial
 obtain rfl : t = 16 := by omega
 refine uQ 600 _ ?_
 simp (maxSteps := 3000000) only [hwl, Nat.zero_add, go_sem, ↓zA, ↓reduceIte, ↓reduceDIte] <;> try simp only [zB]
 refine ⟨fun h => absurd h (by omega), fun _ => ?_⟩
 refine q1a (ι := Nat) (fun t => [(7, rI t)]) (fun t => [.row (.prod (.arr 8 (.int .u32)) (.prod (.arr 64 .u8) (.int .i64))) [(h, r)], .row (.int .u32) (wL b t)]) (fun t => 64 - t) (fun t => 16 ≤ t ∧ t ≤ 64) 16 (by decide) 2 rfl (by decide) (fun _ => rfl) (fun _ => rfl) (fun _ => rfl) ?_ ?_
 · with_reducible refine sxE ?_
   rfl
 intro t ht
 have hwl := q3f b t
 have hwr := wsx t (by omega)
 by_cases hlt : t < 64
 · have e15 : IntKind.i64.wrap ((t : Int) - 15) = ((t - 15 : Nat) : Int) := by rw [wrapi (by omega)]; omega
   have e2 : IntKind.i64.wrap ((t : Int) - 2) = ((t - 2 : Nat) : Int) := by rw [wrapi (by omega)]; omega
   have e7 : IntKind.i64.wrap ((t : Int) - 7) = ((t - 7 : Nat) : Int) := by rw [wrapi (by omega)]; omega
   have e16 : IntKind.i64.wrap ((t : Int) - 16) = ((t - 16 : Nat) : Int) := by rw [wrapi (by omega)]; omega
   have g15 := q0Q b (t := t) (j := t - 15) (by omega) (by omega)
   have g2 := q0Q b (t := t) (j := t - 2) (by omega) (by omega)
   have g7 := q0Q b (t := t) (j := t - 7) (by omega) (by omega)
   have g16 := q0Q b (t := t) (j := t - 16) (by omega) (by omega)
   have i15 := q2a b (t - 15)
   have i2 := q2a b (t - 2)
   have i7 := q2a b (t - 7)
   have i16 := q2a b (t - 16)
   refine uQ 600 _ ?_
   simp (maxSteps := 3000000) only [e15, e2, e7, e16, g15, g2, g7, g16, hwl, Nat.zero_add, Ty.dflt, go_sem, ↓zA, ↓reduceIte, ↓reduceDIte] <;> try simp only [zB]
   refine ⟨fun _ => ⟨⟨by omega, by omega⟩, by omega, ⟨by omega, by omega⟩, by omega, ⟨by omega, by omega⟩, by omega, ⟨by omega, by omega⟩, by omega, q0V (q0E (wS b (t - 2)) [17, 19] i2 (by decide) (by decide)) ?_⟩, fun h => absurd hlt (by omega)⟩
   refine gQ ?_
   refine q0F 2 (by decide) ?_
   with_reducible refine sxE ?_
   refine q0e (q0E (wS b (t - 15)) [7, 18] i15 (by decide) (by decide)) ?_
   refine uQ 600 _ ?_
   simp (maxSteps := 3000000) only [e15, e2, e7, e16, g15, g2, g7, g16, hwl, Nat.zero_add, Ty.dflt, go_sem, ↓zA, ↓reduceIte, ↓reduceDIte] <;> try simp only [zB]
   repeat (with_reducible refine And.intro (by first | omega | exact ⟨by omega, by omega⟩) ?_)
   refine ⟨t + 1, ⟨by omega, hlt⟩, by dsimp only; omega, ⟨[.dead], ?_⟩, ?_⟩
   · rw [schU i15 i2, ← z0e (by omega), q3e b hlt]
     rfl
   with_reducible refine sx1 hwr ?_; trivial
 obtain rfl : t = 64 := by omega
 refine gQ ?_
 have hl := hh.1
 refine ⟨fun h => absurd h (by omega), fun _ => ?_⟩
 repeat (with_reducible refine And.intro (by omega) ?_)
 refine q2E (t := .arr 64 (.int .u32)) (x := dat_sha_constants) (ag := some 64) (s := .dat (.arr 64 (.int .u32)) dat_sha_constants) (by unfold datList; repeat (first | exact .head _ | apply List.Mem.tail)) rfl (.inr rfl) ?_
 refine gQ ?_
 refine q1a (ι := Nat) (fun t => [(134, rI t), (12, .raw (.int .u32 ((rnds b h t).getD 0 0))), (13, .raw (.int .u32 ((rnds b h t).getD 1 0))), (14, .raw (.int .u32 ((rnds b h t).getD 2 0))), (15, .raw (.int .u32 ((rnds b h t).getD 3 0))), (16, .raw (.int .u32 ((rnds b h t).getD 4 0))), (17, .raw (.int .u32 ((rnds b h t).getD 5 0))), (18, .raw (.int .u32 ((rnds b h t).getD 6 0))), (19, .raw (.int .u32 ((rnds b h t).getD 7 0)))]) (fun t => [.row (.prod (.arr 8 (.int .u32)) (.prod (.arr 64 .u8) (.int .i64))) [(h, r)], .row (.int .u32) (wL b 64)]) (fun t => 64 - t) (fun t => t ≤ 64) 0 (Nat.zero_le _) 2 rfl (by decide) (fun _ => rfl) (fun _ => rfl) (fun _ => rfl) ?_ ?_
 · with_reducible refine sxE ?_
   exact ⟨rfl, rfl, rfl, rfl, rfl, rfl, rfl, rfl⟩
 intro t ht
 have hwr := wsx t (by omega)
 by_cases hlt : t < 64
 · have hv := q1c (b := b) hh t
   generalize hvv : rnds b h t = v at *
   have i0 := q0g hv 0 (by decide)
   have i1 := q0g hv 1 (by decide)
   have i2 := q0g hv 2 (by decide)
   have i3 := q0g hv 3 (by decide)
   have i4 := q0g hv 4 (by decide)
   have i5 := q0g hv 5 (by decide)
   have i6 := q0g hv 6 (by decide)
   have i7 := q0g hv 7 (by decide)
   refine uQ 600 _ ?_
   simp (maxSteps := 3000000) only [hl, hwl, Nat.zero_add, Ty.dflt, go_sem, ↓zA, ↓reduceIte, ↓reduceDIte] <;> try simp only [zB]
   refine ⟨fun _ => ⟨⟨by omega, by omega⟩, ⟨by omega, by omega⟩, by omega, ?_⟩, fun h => absurd hlt (by omega)⟩
   refine q0F 2 (by decide) ?_
   with_reducible refine sxE ?_
   refine q0e (q0E _ [6, 11, 25] i4 (by decide) (by decide)) ?_
   refine uQ 600 _ ?_
   simp (maxSteps := 3000000) only [hl, hwl, Nat.zero_add, Ty.dflt, go_sem, ↓zA, ↓reduceIte, ↓reduceDIte] <;> try simp only [zB]
   refine q0e (q3Z _ _ _ i4 i5 i6) ?_
   refine uQ 600 _ ?_
   simp (maxSteps := 3000000) only [hl, hwl, Nat.zero_add, Ty.dflt, go_sem, ↓zA, ↓reduceIte, ↓reduceDIte] <;> try simp only [zB]
   refine q0t 3 ?_
   with_reducible refine sxE ?_
   refine q0a (q0E _ [2, 13, 22] i0 (by decide) (by decide)) ?_
   refine uQ 600 _ ?_
   simp (maxSteps := 3000000) only [hl, hwl, Nat.zero_add, Ty.dflt, go_sem, ↓zA, ↓reduceIte, ↓reduceDIte] <;> try simp only [zB]
   refine q0a (q2g _ _ _ i0 i1 i2) ?_
   refine uQ 600 _ ?_
   simp (maxSteps := 3000000) only [hl, hwl, Nat.zero_add, Ty.dflt, go_sem, ↓zA, ↓reduceIte, ↓reduceDIte] <;> try simp only [zB]
   have hr : rnds b h (t + 1) = rnd (kS t) (wS b t) v := by show rnd (kS t) (wS b t) (rnds b h t) = _; rw [hvv]
   have hT1 := t1U (k := kS t) (w := wS b t) hv
   have hT2 := t2U hv
   refine ⟨t + 1, hlt, by dsimp only; omega, ⟨[.dead, .dead], rfl⟩, ?_⟩
   rw [q8p, q0Q b hlt hlt, hT1, hT2, aU, eU]
   simp (maxSteps := 3000000) only [hwr, hr, go_sem, ↓zA, ↓reduceIte, ↓reduceDIte] <;> try simp only [zB]
   exact ⟨rfl, rfl, rfl, rfl, rfl, rfl, rfl, rfl⟩
 obtain rfl : t = 64 := by omega
 refine uQ 600 _ ?_
 simp (maxSteps := 3000000) only [hl, hwl, Nat.zero_add, Ty.dflt, go_sem, ↓zA, ↓reduceIte, ↓reduceDIte] <;> try simp only [zB]
 refine ⟨fun h => absurd h (by omega), fun _ => ?_⟩
 have e8 := list8 (q1c (b := b) hh 64).1
 refine q0p (ι := Nat) (fun i => [(186, rI i), (185, .dat (.arr 8 (.int .u32)) (rnds b h 64))]) (fun i => [.row (.prod (.arr 8 (.int .u32)) (.prod (.arr 64 .u8) (.int .i64))) [((blkP b h i), r)], .row (.int .u32) (wL b 64)]) (fun t => 8 - t) (fun t => t ≤ 8) 0 (Nat.zero_le _) ?_ ?_ ?_
 · rw [q2B b hh.1]
 · with_reducible refine sxE ?_
   exact congrArg (SV.dat (.arr 8 (.int .u32))) e8
 intro i hi
 have hwr := wsx i (by omega)
 have hv := q1c (b := b) hh 64
 have hl := hv.1
 have hbl := q4b b h i
 by_cases hlt : i < 8
 · have hbg := q4d b h hlt
   refine uQ 600 _ ?_
   simp (maxSteps := 3000000) only [hl, hbl, Nat.zero_add, Nat.mul_one, Ty.dflt, go_sem, ↓zA, ↓reduceIte, ↓reduceDIte] <;> try simp only [zB]
   refine ⟨fun _ => ?_, fun h => absurd hlt (by omega)⟩
   repeat (with_reducible refine And.intro (by first | omega | exact ⟨by omega, by omega⟩) ?_)
   refine ⟨i + 1, hlt, by dsimp only; omega, ?_, ?_⟩
   · rw [hbg, wrapU]
     show [_, _] = [SObj.row (.prod (.arr 8 (.int .u32)) (.prod (.arr 64 .u8) (.int .i64))) [((blkP b h (i + 1)), r)], _]
     rw [← q3W b h hlt]
   with_reducible refine sx1 hwr ?_; trivial
 obtain rfl : i = 8 := by omega
 refine uQ 600 _ ?_
 simp (maxSteps := 3000000) only [hl, hbl, Nat.zero_add, Ty.dflt, go_sem, ↓zA, ↓reduceIte, ↓reduceDIte] <;> try simp only [zB]
 refine ⟨fun h => absurd h (by omega), fun _ => ?_⟩
 rw [q3U]
end Go.Proofs.YtikapabgggphpaaGreatDoor
