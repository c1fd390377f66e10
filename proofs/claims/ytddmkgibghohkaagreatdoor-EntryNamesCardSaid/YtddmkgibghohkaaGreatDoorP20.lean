/- A part of the proof: a symbolic executor over abstract values, and its soundness. -/
import Derived.Test.YtddmkgibghohkaaGreatDoorP19
import Derived.Test.YtddmkgibghohkaaGreatDoorP18
set_option linter.unusedSimpArgs false
set_option linter.unusedVariables false
set_option linter.unusedSectionVars false
set_option linter.unusedSectionVars false
set_option maxHeartbeats 4000000
namespace Go.Sx
open Go

variable {P : Program} {AQ : Ex → List SV → List SObj → Prop} {k0 : Nat} {k : List It} {t : List SV} {H : List SObj}
variable {g : FG} {Ds : List Nat}

theorem fin_top {E : EnD} {D : Nat} {C : Cx} {ds : List Deferred} (h : (topG g (D :: Ds)).fin { E with base := markD D :: E.base } C H ds) : (topG g Ds).fin E C H ds := by
 obtain ⟨Ds', e, ⟨S, hc⟩, hnd, hok⟩ := h
 exact ⟨Ds' ++ [D], by rw [e]; simp, ⟨S, g.base (E := { E with base := markD D :: E.base }) E.base hc⟩, by simpa using hnd, by simpa using hok⟩
theorem conc_top {E : EnD} {D : Nat} (e : Exit) (a : Act) (w : World) (h : @conc (topG g (D :: Ds)) { E with base := markD D :: E.base } AQ e a w) : @conc (topG g Ds) E AQ e a w := by
 cases e with
 | normal => obtain ⟨C, t, H, h1, h2, h3⟩ := h; exact ⟨C, t, H, h1, h2, ⟨h3.wd, h3.ext, fin_top h3.defs, h3.tmps⟩⟩
 | ret => obtain ⟨C, t, H, h1, h2, h3⟩ := h; exact ⟨C, t, H, h1, h2, ⟨h3.wd, h3.ext, fin_top h3.defs, h3.tmps⟩⟩
 | exit id => obtain ⟨C, t, H, h1, h2, h3⟩ := h; exact ⟨C, t, H, h1, h2, ⟨h3.wd, h3.ext, fin_top h3.defs, h3.tmps⟩⟩
 | panic ch => obtain ⟨C, t, H, s, v, h1, h2, h3, h4, h5, h6, h7, h8⟩ := h; exact ⟨C, t, H, s, v, h1, h2, h3, h4, h5, h6, fin_top h7, h8⟩
 | goto l => exact h
 | outgrown => exact h

theorem alloc_oldO {w : World} {o : Obj} {b : Nat} (h : b < w.heap.size) : (w.alloc o).heap[b]? = w.heap[b]? := by
 show (w.heap.push o)[b]? = _
 rw [Array.getElem?_push_lt h, Array.getElem?_eq_getElem h]

def RfStop (g : FG) (P : Program) (AQ : Ex → List SV → List SObj → Prop) (k0 : Nat) (k : List It) (t : List SV) (Ds : List Nat) : Ex → List SObj → Prop
 | .exit id, H => ∃ k', exitTo' id k = some k' ∧ @Sound (topG g Ds) P AQ ⟨k0, k', t, H⟩
 | .ret, H => AQ .ret t H
 | _, _ => False
theorem sound_rf {gop : Operand} {ps : Array Tmp} {assign body : Code} {f : FuncId} {fi ca : List SV} {N : Nat} {vw : Nat → Nat → List SV → List SObj → Prop} {Hs : Nat → List SObj → Prop} {X : Nat → Ex → List SObj → Prop}
 (hgop : evT t gop = .fn f fi ca) (hfi : SV.cleanL fi = true) (hca : SV.cleanL ca = true) (hit : Iter P f fi ca N vw) (hr : RfOk P g ps assign body t N vw Hs X) (h0 : Hs 0 H) (hns : noStop k = true)
 (hdone : ∀ D Hn, Hs N Hn → @Sound (topG g (D :: Ds)) P AQ ⟨k0, k, t, Hn⟩) (hstop : ∀ D i ex Hn, i < N → X i ex Hn → RfStop g P AQ k0 k t (D :: Ds) ex Hn) :
 @Sound (topG g Ds) P AQ ⟨k0, .code (.rangeFunc gop ps assign body) :: k, t, H⟩ := by
 intro E r n C a hfit hd
 obtain ⟨hn0, rfl⟩ : E.C.n ≤ k0 ∧ r = none := hfit
 simp only [wpT]
 obtain ⟨hdf, ⟨S0, hcore⟩, hnd, hok⟩ := hd.defs
 have hgv := evT_den hd.tmps gop
 rw [hgop, SV.den] at hgv
 obtain ⟨v1, v2, hgv, d1, d2⟩ := hgv
 refine wpIn_rangeFunc fun fn _ => ?_
 obtain ⟨w1, hw1⟩ : ∃ w1, w1 = (C.w.alloc (.deferred (some []))).alloc (.loop (rfRec fn a.tmps ps assign body C.w.heap.size .ready none)) := ⟨_, rfl⟩
 have hsz : w1.heap.size = C.w.heap.size + 2 := by rw [hw1]; simp
 have hold : ∀ b, b < C.w.heap.size → w1.heap[b]? = C.w.heap[b]? := fun b hb => by rw [hw1, alloc_oldO (by simp; omega), alloc_oldO hb]
 have hD0 : w1.heap[C.w.heap.size]? = some (.deferred (some [])) := by rw [hw1, alloc_oldO (by simp), World.alloc_heap_new]
 have hl0 : w1.heap[C.w.heap.size + 1]? = some (.loop (rfRec fn a.tmps ps assign body C.w.heap.size .ready none)) := by
  rw [hw1]; have := World.alloc_heap_new (C.w.alloc (.deferred (some []))) (.loop (rfRec fn a.tmps ps assign body C.w.heap.size .ready none)); rwa [World.size_alloc] at this
 have henter : (Instr.enterLoop fn a.tmps ps assign body (Fw none).round).run P C.w = .ok (C.w.heap.size + 1, [markD C.w.heap.size]) w1 := by rw [hw1]; exact run_enterLoop_outer _ _ _ _ _
 have hvw : World.os w1 = C.w.os ∧ w1.tape = C.w.tape ∧ w1.output = C.w.output := by rw [hw1]; exact ⟨rfl, rfl, rfl⟩
 clear hw1
 obtain ⟨g1, g2⟩ := wd_gr (w' := w1) hd.wd (by omega) hold hvw.1 hvw.2.1 hvw.2.2
 have hDlt : ∀ D ∈ Ds, D < C.w.heap.size := fun D hD => (Array.getElem?_eq_some_iff.1 (hok D hD).at_).1
 have hnew : ∀ b, C.w.heap.size ≤ b → ¬ C.I b ∧ ¬ OwnB C H b := fun b hb => ⟨fun h => absurd (hd.wd.imm b h) (by omega), fun h => absurd (hd.wd.own b h).2 (by omega)⟩
 have hEs : E.C.w.heap.size ≤ C.w.heap.size := hd.ext.size
 have hcal : Cal g E (C.w.heap.size :: Ds) t a.tmps.toList (C.w.heap.size + 1) (.loop (rfRec fn a.tmps ps assign body C.w.heap.size .ready none)) { C with w := w1 } H S0 := by
  refine ⟨g1, hd.ext.trans g2, g.next g2 hcore, denL_evo g2.evo hd.tmps, fun D hD => ?_, fun hm => ?_, by omega, (hnew _ (by omega)).1, (hnew _ (by omega)).2, hl0, trivial⟩
  · rcases List.mem_cons.1 hD with rfl | hD
    · exact ⟨hEs, (hnew _ (Nat.le_refl _)).1, (hnew _ (Nat.le_refl _)).2, hD0⟩
    · exact (hok D hD).next g2
  · rcases List.mem_cons.1 hm with h | h
    · omega
    · have := hDlt _ h; omega
 have hB : E.C.w.heap.size ≤ C.w.heap.size + 2 := by omega
 have hJ := rfJ_fj (g := g) (E := E) (Ds := C.w.heap.size :: Ds) (t := t) (tms := a.tmps.toList) (l := C.w.heap.size + 1) (N := N) (Hs := Hs) (X := X) (rec := rfRec fn a.tmps ps assign body C.w.heap.size) hB (by omega) (fun D hD => by
  rcases List.mem_cons.1 hD with rfl | hD
  · omega
  · have := hDlt _ hD; omega)
 have yg := rf_rounds (E := E) (Ds := C.w.heap.size :: Ds) (l := C.w.heap.size + 1) (fn := fn) (us := a.tmps) (D := C.w.heap.size) hr hB
 have hj0 : rfJ g E (C.w.heap.size :: Ds) t a.tmps.toList (C.w.heap.size + 1) N Hs X (rfRec fn a.tmps ps assign body C.w.heap.size) 0 (calS (C.w.heap.size :: Ds) (C.w.heap.size + 1) { C with w := w1 } H S0) w1 C.I :=
  ⟨{ C with w := w1 }, S0, H, _, rfl, fun b => ⟨fun h => ⟨h, g1.imm b h⟩, And.left⟩, hcal, fun _ => Iff.rfl, .inl ⟨Nat.zero_le _, h0, rfl⟩⟩
 have hno : ∀ b, ¬ OwnB ⟨fun _ => none, 1, C.I, w1⟩ [.mark 0] b := fun b ⟨x, o, _, _, hb⟩ => by cases hb
 have hw2 : Wd ⟨fun _ => none, 1, C.I, w1⟩ [.mark 0] := by
  refine ⟨rfl, fun x o ho => ?_, fun b hb => absurd hb (hno b), fun x x' o o' b _ _ _ _ h => (by cases h), g1.imm⟩
  cases x with
  | zero => simp at ho; subst ho; trivial
  | succ x => simp at ho
 have hy := YCore.mk (B := C.w.heap.size + 2) (E := startE true (calS (C.w.heap.size :: Ds) (C.w.heap.size + 1) { C with w := w1 } H S0) ⟨fun _ => none, 1, C.I, w1⟩ [.mark 0]) (C := ⟨fun _ => none, 1, C.I, w1⟩) (H := [.mark 0]) (S := calS (C.w.heap.size :: Ds) (C.w.heap.size + 1) { C with w := w1 } H S0)
  Nat.one_pos (Nat.le_refl _) (fun n hn => by cases (startE_mark (by simp) hn).1) (by show _ ≤ w1.heap.size; omega) (Nat.le_refl _) (fun b hb => absurd hb (hno b)) ⟨0, rfl, hj0⟩ (fun b hb => ⟨.inr ((startE_own rfl).2 (.inr ⟨hb, (hJ.fp hj0 hb).2⟩)), hno b⟩)
 have hkeep : Keeps C.I C.I C.w w1 := g2.evo.I
 have hcall := hit.2 (C.w.heap.size + 1) (C.w.heap.size + 2) _ hJ yg (startE true (calS (C.w.heap.size :: Ds) (C.w.heap.size + 1) { C with w := w1 } H S0) ⟨fun _ => none, 1, C.I, w1⟩ [.mark 0]) ⟨fun _ => none, 1, C.I, w1⟩ (v1 ++ [Value.func (.yield (C.w.heap.size + 1)) #[] #[]] ++ v2) hw2 ⟨_, hy⟩
  (denL_append.2 ⟨_, _, rfl, denL_append.2 ⟨_, _, rfl, denL_clean (C := C) hkeep hfi d1, denL_cons.2 ⟨_, [], rfl, by rw [SV.den], denL_nil.2 rfl⟩⟩, denL_clean (C := C) hkeep hca d2⟩)
 refine ⟨C.w.heap.size + 1, [markD C.w.heap.size], w1, { target := .fn (.func f) v2.toArray, args := v1.toArray ++ #[.func (.yield (C.w.heap.size + 1)) #[] #[]] }, w1, f, (v1 ++ [Value.func (.yield (C.w.heap.size + 1)) #[] #[]] ++ v2).toArray, w1, henter, ?_, fun f' _ => fw_fn none f', ?_, fun h => (by cases h), callsIn_fw (hcall.mono ?_)⟩
 · simp [resolve, hgv, Deferred.ofValue]; rfl
 · simp [invoke, enters_run hit.1]
 rintro e w' ⟨o, H', C', ⟨s, m, rfl, hm, hN⟩, rfl, hw', hx', v, rfl, hv⟩
 obtain ⟨S', hy'⟩ := @Stp.inv (fgG (yFG hJ)) _ _ _ _ _ hx' ⟨_, hy⟩
 obtain ⟨m', hm', C3, S3, H3, o3, e3, hI3, hc3, hS3, hat⟩ := hy'.st
 have hmm : m' = m := by rw [hm] at hm'; simpa using hm'.symm
 subst hmm
 have hden : ∀ (pe : Option Code), @Den (topG g (C.w.heap.size :: Ds)) { E with base := markD C.w.heap.size :: E.base } (chgC C3 (C.w.heap.size + 1) (.loop (rfRec fn a.tmps ps assign body C.w.heap.size .exhausted pe))) t H3 { a with defers := [markD C.w.heap.size] ++ a.defers } := fun pe => by
  have hcal4 := hc3.chg (o' := .loop (rfRec fn a.tmps ps assign body C.w.heap.size .exhausted pe)) trivial
  exact ⟨hcal4.wd, hcal4.ext, ⟨by rw [hdf]; rfl, ⟨S3, g.base _ hcal4.core⟩, List.nodup_cons.2 ⟨fun h => absurd (hDlt _ h) (Nat.lt_irrefl _), hnd⟩, hcal4.marks⟩, hcal4.tmps⟩
 rcases hat with ⟨hmN, hHs, rfl⟩ | ⟨i, ex, c, rfl, hi, hX, hex, rfl⟩
 · have hmN : m' = N := Nat.le_antisymm hmN hN
   subst hmN
   refine ⟨none, _, by rw [← e3]; exact run_endLoop hc3.lat (by simp), ?_⟩
   exact (wpT_ghost (fun e a w hh => conc_top e a w hh) k hns).1 _ _ (hdone C.w.heap.size H3 hHs { E with base := markD C.w.heap.size :: E.base } none n _ _ ⟨hn0, rfl⟩ (hden none))
 · have hs := hstop C.w.heap.size i ex H3 hi hX
   refine ⟨some c, _, by rw [← e3]; exact run_endLoop hc3.lat (by simp), ?_⟩
   cases ex with
   | normal => exact hs.elim
   | pan s => exact hs.elim
   | ret =>
    cases hex
    exact wpIn_ret (conc_top .ret _ _ ⟨_, t, H3, hs, rfl, @Den.fin (topG g (C.w.heap.size :: Ds)) _ _ _ _ _ (hden (some .ret))⟩)
   | exit id =>
    cases hex
    obtain ⟨k', hk', hs⟩ := hs
    have h9 := hs { E with base := markD C.w.heap.size :: E.base } none n _ _ ⟨hn0, rfl⟩ (hden (some (.exit id)))
    have h8 := @exitT_of (topG g (C.w.heap.size :: Ds)) P (Fw none) n _ _ id _ _ k' k hk' h9
    exact wpIn_exit ((wpT_ghost (G := topG g Ds) (fun e a w hh => conc_top e a w hh) k hns).2 id _ _ h8)
end Go.Sx
set_option linter.unusedSectionVars false
namespace Go.Sx
open Go

variable {P : Program} {AQ : Ex → List SV → List SObj → Prop} {k0 : Nat} {k : List IT} {t : List SV} {H : List SObj}
variable {g : FG} {Ds : List Nat}

theorem size_nil0 : (#[] : Array Value).size = 0 := rfl
attribute [go_sem] size_nil0
def RfStopI (g : FG) (P : Program) (AQ : Ex → List SV → List SObj → Prop) (k0 : Nat) (k : List IT) (t : List SV) (Ds : List Nat) : Ex → List SObj → Prop
 | .exit id, H => ∃ k', exitI id k = some k' ∧ @SoundI (topG g Ds) P AQ ⟨k0, k', t, H⟩
 | .ret, H => AQ .ret t H
 | _, _ => False
theorem si_rf {gop : Operand} {ps : Array Tmp} {asg body : IC} {f : FuncId} {fi ca : List SV} {N : Nat} {vw : Nat → Nat → List SV → List SObj → Prop} (Hs : Nat → List SObj → Prop) (X : Nat → Ex → List SObj → Prop)
 (hgop : evT t gop = .fn f fi ca) (hfi : SV.cleanL fi = true) (hca : SV.cleanL ca = true) (hit : Iter P f fi ca N vw) (hlen : ∀ i n args' new, vw i n args' new → args'.length = ps.size) (h0 : Hs 0 H) (hns : noStopI k = true)
 (hround : ∀ i Hi args' new, i < N → Hs i Hi → vw i Hi.length args' new → ∀ L1 L2, @SoundI (pinG g L1) P (fun _ _ _ => False)
  ⟨(Hi ++ new).length, [.ic asg, .stop fun t' H' => @SoundI (pinG g L2) P (RQ Hs X i) ⟨H'.length, [.ic body], t', H'⟩], putL ps.toList args' t, Hi ++ new⟩)
 (hdone : ∀ D Hn, Hs N Hn → @SoundI (topG g (D :: Ds)) P AQ ⟨k0, k, t, Hn⟩) (hstop : ∀ D i ex Hn, i < N → X i ex Hn → RfStopI g P AQ k0 k t (D :: Ds) ex Hn) :
 @SoundI (topG g Ds) P AQ ⟨k0, .ic (.rf gop ps asg body) :: k, t, H⟩ := @soundI_plain (topG g Ds) P AQ k0 t H _ (fun td' hr => by
 obtain ⟨c', r, rfl, hc, hr⟩ := hr
 obtain ⟨a, b, rfl, ha, hb⟩ := comp_inv hc
 refine sound_rf (Hs := Hs) (X := X) hgop hfi hca hit ⟨hlen, fun i Hi args' new hi hH hv L1 L2 => ⟨_, fun t' H' hΦ => ?_, @soundI_get (pinG g L1) _ _ _ _ _ _ _ (hround i Hi args' new hi hH hv L1 L2) ⟨a, _, rfl, ha, [], rfl, rfl⟩⟩⟩ h0 (noStopI_rel hr hns) (fun D Hn h => @soundI_get (topG g (D :: Ds)) _ _ _ _ _ _ _ (hdone D Hn h) hr) fun D i ex Hn hi hX => ?_
 · exact @soundI_get (pinG g L2) _ _ _ _ _ _ _ hΦ ⟨b, [], rfl, hb, rfl⟩
 · have h := hstop D i ex Hn hi hX
   cases ex with
   | normal => exact h.elim
   | pan s => exact h.elim
   | ret => exact h
   | exit id =>
    obtain ⟨k', hk', hs⟩ := h
    obtain ⟨r', hr', hrel⟩ := exitI_rel hr hk'
    exact ⟨r', hr', @soundI_get (topG g (D :: Ds)) _ _ _ _ _ _ _ hs hrel⟩) rfl

theorem yldI_top {l B N : Nat} {J : Nat → (Nat → Prop) → World → (Nat → Prop) → Prop} {vw : Nat → Nat → List SV → List SObj → Prop} {i : Nat} {T : List SObj} (T' : List SObj) {args : List SV} {d : Option Tmp}
 (hJ : FJ B J) (yg : YG P l B N J vw) (hi : i < N) (hh : ∀ n, ∃ args' new, vw i n args' new ∧ Hand n (.mark i :: T) (.mark i :: T') args args' new)
 (hk : ∀ b : Bool, @SoundI (topG (yFG hJ) Ds) P AQ ⟨k0, k, putT t d (.raw (.bool b)), .mark (if b then i + 1 else N + 1 + i) :: T'⟩) : @YldI (topG (yFG hJ) Ds) P AQ l args d ⟨k0, k, t, .mark i :: T⟩ := vyld_top hJ yg hi hh hk
theorem yldR_pin {L : List (Nat × Obj)} {q : Bool} {G : List Nat} {l B N : Nat} {J : Nat → (Nat → Prop) → World → (Nat → Prop) → Prop} {vw : Nat → Nat → List SV → List SObj → Prop} {i : Nat} {T : List SObj} (T' : List SObj) {args : List SV} {d : Option Tmp}
 (hJ : FJ B J) (yg : YG P l B N J vw) (hi : i < N) (hh : ∀ n, ∃ args' new, vw i n args' new ∧ Hand n (.mark i :: T) (.mark i :: T') args args' new)
 (hk : ∀ b : Bool, (q = true → SameG G (.mark i :: T) (.mark (if b then i + 1 else N + 1 + i) :: T')) ∧ @SoundI (pinG (yFG hJ) L) P AQ ⟨k0, k, putT t d (.raw (.bool b)), .mark (if b then i + 1 else N + 1 + i) :: T'⟩) : @YldR (pinG (yFG hJ) L) P AQ q G l args d ⟨k0, k, t, .mark i :: T⟩ := vyld_pin hJ yg hi hh hk

def RowA (ty : Ty) (xs : List ty.den) (v : Value) : Out → List SObj → Prop := fun o H' => (xs = [] ∧ o = .ret (.agg [.raw (.slice none 0 0), .raw v]) ∧ H' = []) ∨ (o = .ret (.agg [.bld 0 ty xs.length, .raw v]) ∧ H' = [.row ty xs])
theorem rowA_nil {ty : Ty} {xs : List ty.den} {v : Value} {H' : List SObj} (h : xs = []) : Weak 0 (RowA ty xs v) (.ret (.agg [.raw (.slice none 0 0), .raw v])) H' :=
 ⟨fun h => h, .agg [.raw (.slice none 0 0), .raw v], .agg [.raw (.slice none 0 0), .raw v], [], ⟨⟨rfl, trivial⟩, trivial, rfl, rfl, rfl, rfl, Nat.le_refl _, fun _ h0 => absurd h0 (Nat.lt_irrefl 0)⟩, .inl (.inl rfl), .inl ⟨h, rfl, rfl⟩⟩
theorem rowA_row {ty : Ty} {xs : List ty.den} {v : Value} {H' : List SObj} {h n : Nat} (hH : H'[h]? = some (.row ty xs)) (hn : n = xs.length) : Weak 0 (RowA ty xs v) (.ret (.agg [.bld h ty n, .raw v])) H' := by
 subst hn
 exact ⟨fun _ => h, .agg [.bld 0 ty xs.length, .raw v], .agg [.bld 0 ty xs.length, .raw v], [.row ty xs], ⟨⟨rfl, trivial⟩, ⟨hH, trivial⟩, rfl, rfl, rfl, rfl, Nat.zero_le _, fun _ h0 => absurd h0 (Nat.lt_irrefl 0)⟩, .inl (.inl rfl), .inr ⟨rfl, rfl⟩⟩
theorem callI_rowK [Ghost] {f : FuncId} {args : List SV} {ty : Ty} {xs : List ty.den} {d : Option Tmp} {td : List IT} (hp : VC P f args [] (RowK ty xs)) (hb : SV.belL 0 args = true) (hargs : args = SV.renL (sig [] H.length) args)
 (h0 : xs = [] → SoundI P AQ ⟨k0, td, putT t d (.raw (.slice none 0 0)), H⟩) (h : SoundI P AQ ⟨k0, td, putT t d (.bld H.length ty xs.length), H ++ [.row ty xs]⟩) : CallI P AQ f args d ⟨k0, td, t, H⟩ := by
 refine ⟨hp.1, VCall.g ?_⟩
 rw [hargs]
 refine VCall.fr (H0 := []) [] (by simp) trivial hb rfl hp.2 ?_
 rintro o H' _ (⟨e, rfl, rfl⟩ | ⟨rfl, rfl⟩)
 · simp only [mgA, List.map_nil, List.append_nil]; exact h0 e
 · exact h
theorem callR_rowA [Ghost] {G : List Nat} {f : FuncId} {args : List SV} {ty : Ty} {xs : List ty.den} {v : Value} {d : Option Tmp} {td : List IT} (hp : VC P f args [] (RowA ty xs v)) (hb : SV.belL 0 args = true) (hargs : args = SV.renL (sig [] H.length) args) (hG : SameG G H (H ++ [.row ty xs]))
 (h0 : xs = [] → SoundI P AQ ⟨k0, td, putT t d (.agg [.raw (.slice none 0 0), .raw v]), H⟩) (h : SoundI P AQ ⟨k0, td, putT t d (.agg [.bld H.length ty xs.length, .raw v]), H ++ [.row ty xs]⟩) : CallR P AQ G f args d ⟨k0, td, t, H⟩ := by
 refine ⟨hp.1, VCall.g ?_⟩
 rw [hargs]
 refine VCall.fr (H0 := []) [] (by simp) trivial hb rfl hp.2 ?_
 rintro o H' _ (⟨e, rfl, rfl⟩ | ⟨rfl, rfl⟩)
 · simp only [mgA, List.map_nil, List.append_nil]; exact ⟨fun _ => SameG.refl _ _, h0 e⟩
 · exact ⟨fun _ => hG, h⟩

theorem si_frzc [Ghost] (d h : Nat) {T : TypeId} {ty : Ty} {x : ty.den} {td : List IT} (hp : plainT td = true) (hok : ty.ok x) (hH : H[h]? = some (.cells T (ty.cells x))) (hd : t[d]? = some (.ptr h 0)) (hs : SoundI P AQ ⟨k0, td, t.set d (.iptr ty x 0), H.set h .dead⟩) :
 SoundI P AQ ⟨k0, td, t, H⟩ := soundI_plain (fun td' hr E r n C a h0 hden => by
 have h1 := soundI_get hs hr
 obtain ⟨b, vs, hb, hcell, hvs⟩ := hden.wd.obj h _ hH
 have hown : OwnB C H b := ⟨h, _, hH, rfl, hb⟩
 obtain ⟨hnI, hlt⟩ := hden.wd.own b hown
 have hoff : ∀ b', OwnB C (H.set h .dead) b' → OwnB C H b' ∧ b' ≠ b := by
  rintro b' ⟨i, o, ho, hl, hb'⟩
  by_cases e : h = i
  · subst e
    rw [List.getElem?_set_self (List.getElem?_eq_some_iff.1 hH).1] at ho
    cases ho; simp [SObj.live] at hl
  · rw [List.getElem?_set_ne e] at ho
    refine ⟨⟨i, o, ho, hl, hb'⟩, fun e' => ?_⟩
    subst e'
    exact e (hden.wd.inj h i _ o b' hH ho rfl hl hb hb')
 let C' : Cx := { C with I := fun b' => C.I b' ∨ b' = b }
 have he : Evo C C' := ⟨Nat.le_refl _, fun _ _ => rfl, fun b' hb' => ⟨.inl hb', rfl⟩, fun _ _ hm => hm⟩
 have hw : Wd C' (H.set h .dead) := by
  refine ⟨by simp [C', hden.wd.n], fun i o ho => ?_, fun b' hb' => ?_, fun i i' o o' b' h1 h2 h3 h4 h5 h6 => ?_, fun b' hb' => ?_⟩
  · by_cases e : h = i
    · subst e
      rw [List.getElem?_set_self (List.getElem?_eq_some_iff.1 hH).1] at ho
      cases ho; trivial
    · rw [List.getElem?_set_ne e] at ho
      exact objDen_evo he.I i rfl (fun _ _ => rfl) (denL_evo he) (hden.wd.obj i o ho)
  · obtain ⟨g1, g2⟩ := hoff b' hb'
    have := hden.wd.own b' g1
    exact ⟨fun hi => hi.elim this.1 g2, this.2⟩
  · have key : ∀ {i : Nat} {o : SObj}, (H.set h .dead)[i]? = some o → o.live = true → H[i]? = some o := fun {i o} ho hl => by
     by_cases e : h = i
     · subst e
       rw [List.getElem?_set_self (List.getElem?_eq_some_iff.1 hH).1] at ho
       cases ho; simp [SObj.live] at hl
     · rwa [List.getElem?_set_ne e] at ho
    exact hden.wd.inj i i' o o' b' (key h1 h3) (key h2 h4) h3 h4 h5 h6
  · exact hb'.elim (hden.wd.imm b') fun e => e ▸ hlt
 have hmk : ∀ n, H[0]? = some (.mark n) → (H.set h .dead)[0]? = some (.mark n) := fun n hn => keep_set hH rfl hn
 have hx : Ext E.toEn C' (H.set h .dead) := by
  refine ⟨hden.ext.evo.trans he, hden.ext.size, hden.ext.os, hden.ext.tape, hden.ext.output, hden.ext.frame, fun b' hb' => ?_, fun b' hb' => hden.ext.ownNew b' (hoff b' hb').1, fun n h0 hn => hmk n (hden.ext.keep0 n h0 hn)⟩
  rcases hb' with hb' | rfl
  · exact hden.ext.immNew b' hb'
  · exact .inr ⟨hden.ext.ownNew b' hown, own_unf (C := C) hden.wd hown⟩
 have hg : Ghost.inv E C' (H.set h .dead) := Ghost.same (C := C) (C' := C') hden.wd rfl (fun b' hb' => .inl hb') (fun b' (hb' : C.I b' ∨ b' = b) => hb'.elim .inl fun e => .inr (by subst e; exact hown)) (fun b' hb' => (hoff b' hb').1) (fun n _ hn => hmk n hn) hden.ext.evo.n hden.defs.2
 refine h1 E r n C' a h0 ⟨hw, hx, ⟨hden.defs.1, hg⟩, ?_⟩
 have ht := denL_evo he hden.tmps
 obtain ⟨v, hv, hdv⟩ := denL_get ht hd
 rw [SV.den] at hdv
 obtain ⟨_, b', hb', rfl⟩ := hdv
 have e : b' = b := by have : C.ρ h = some b' := hb'; rw [hb] at this; exact (Option.some.inj this).symm
 subst e
 have hi : (SV.iptr ty x 0).den C' (.pointer (some ⟨b', 0, none⟩)) := by
  rw [SV.den]
  exact ⟨b', 0, vs, rfl, .inr rfl, ty.cells_rel _ _ hok (denL_evo he hvs), fun j u hj => by rw [Nat.zero_add]; show C.w.cell? _ = _; rw [cell_of_cells hcell]; exact hj⟩
 have h9 := denL_set (i := d) ht hi
 have e9 : a.tmps.toList.set d (.pointer (some ⟨b', 0, none⟩)) = a.tmps.toList := by
  apply List.ext_getElem?
  intro j
  by_cases ej : d = j
  · subst ej; rw [List.getElem?_set_self (List.getElem?_eq_some_iff.1 hv).1, hv]
  · rw [List.getElem?_set_ne ej]
 rwa [e9] at h9) hp

def RoundM (T : List SObj) (f : Nat → Nat) (S : Nat → List SV) (n : Nat) (p : Nat → Prop) (i : Nat) : List SV → List SObj → Prop :=
 fun t' H' => i < n ∧ p (i + 1) ∧ (∃ G, H' = .mark (f (i + 1)) :: T ++ G) ∧ leM t' (S (i + 1))
theorem sound_loopM [Ghost] {P : Program} {k : List It} (c : Code) (T : List SObj) (f : Nat → Nat) (S : Nat → List SV) (n : Nat) (p : Nat → Prop) (h₀ : p 0) (hs : leM t (S 0)) (hk : k0 ≤ T.length + 1) (hb : SV.belL (T.length + 1) t = true → ∀ i, SV.belL (T.length + 1) (S i) = true)
 (round : ∀ i, i ≤ n → p i → Sound P AQ ⟨k0, .code c :: .stop (RoundM T f S n p i) :: k, S i, .mark (f i) :: T⟩) : Sound P AQ ⟨k0, .code (.loop c) :: k, t, .mark (f 0) :: T⟩ := fun E r m C a h0 hd => by
 have hbt : ∀ i, SV.belL (T.length + 1) (S i) = true := hb (by have := denL_bel hd.tmps; rwa [hd.wd.n] at this)
 have hbh : belH (T.length + 1) T = true := belH_of fun h o ho => by have := obj_bel (hd.wd.obj (h + 1) o (by simpa using ho)); rwa [hd.wd.n] at this
 simp only [wpT]
 refine wpIn_loop_ghost (fun m a w => ∃ i, i ≤ n ∧ p i ∧ n - i = m ∧ ∃ C, C.w = w ∧ Den E C (S i) (.mark (f i) :: T) a) n ⟨0, Nat.zero_le _, h₀, rfl, C, rfl, hd.wd, hd.ext, hd.defs, leL_den (leM_leL hs) hd.tmps⟩ ?_
 rintro m' a w ⟨i, hi, hp, rfl, C, rfl, hd⟩
 have h1 := round i hi hp E r m C a h0 hd
 simp only [wpT] at h1
 refine wpIn_mono h1 fun e a w hq => ?_
 cases e with
 | normal =>
  obtain ⟨C', t', H', ⟨hlt, hp', ⟨G, rfl⟩, hS⟩, rfl, hd'⟩ := hq
  refine ⟨n - (i + 1), by omega, i + 1, hlt, hp', rfl, C'.ren (fun h => h) (T.length + 1), rfl, ?_⟩
  exact den_le (H' := .mark (f (i + 1)) :: T) h0.1 hd' (leM_leT hS) (hbt _) (fun h o ho _ => by rw [objRen_id, List.getElem?_append_left (List.getElem?_eq_some_iff.1 ho).1]; exact ho) (by simp only [belH, Bool.and_eq_true]; exact ⟨rfl, hbh⟩) (fun _ _ _ _ _ _ _ _ e => e) (fun _ _ => rfl) hk (fun _ hp hn => by rw [List.getElem?_append_left (by simp)] at hn; exact hn)
 | exit id => simpa only [Exit.then, exitT] using hq
 | _ => exact hq
theorem si_cntM [Ghost] {c : IC} (T : List SObj) (f : Nat → Nat) (upd : Nat → List (Nat × SV)) (n : Nat) (p : Nat → Prop) (h₀ : p 0) (hH : H = .mark (f 0) :: T) (hk : k0 ≤ T.length + 1) (hu : ∀ i, ((upd i).all fun x => x.2.bel (T.length + 1)) = true) (hs : leM t (setMany (maskT c.wr t) (upd 0)))
 (round : ∀ i, i ≤ n → p i → SoundI P AQ ⟨k0, .ic c :: .stop (RoundM T f (fun i => setMany (maskT c.wr t) (upd i)) n p i) :: k, setMany (maskT c.wr t) (upd i), .mark (f i) :: T⟩) :
 SoundI P AQ ⟨k0, .ic (.loop c) :: k, t, H⟩ := soundI_plain (fun td' hr => by
 subst hH
 obtain ⟨c', r, rfl, hc, hr⟩ := hr
 obtain ⟨x, rfl, hx⟩ := comp_inv hc
 exact sound_loopM x T f _ n _ h₀ hs hk (fun hb i => belL_many _ (hu i) (belL_mask _ hb)) (fun i hi hp => soundI_get (round i hi hp) ⟨x, _, rfl, hx, r, rfl, hr⟩)) rfl

theorem hand_row {n i : Nat} {T : List SObj} {hd : Nat} {ty : Ty} {xs : List ty.den} {rest : List SV} (hrow : T[hd]? = some (.row ty xs)) (hc : SV.cleanL rest = true) :
 Hand n (.mark i :: T) (.mark i :: T.set hd .dead) [.agg (.bld (hd + 1) ty xs.length :: rest)] [.agg (.bld n ty xs.length :: rest)] [.row ty xs] := by
 intro C Cc Hc vs hw hv hwc hn hwe hi hsep
 have hrow' : (SObj.mark i :: T)[hd + 1]? = some (.row ty xs) := by simpa using hrow
 have hset : (SObj.mark i :: T).set (hd + 1) .dead = .mark i :: T.set hd .dead := by simp
 obtain ⟨g1, g2⟩ := wd_kill hw (hd + 1) hrow' rfl
 rw [hset] at g1 g2
 obtain ⟨v, us, rfl, d1, d2⟩ := denL_cons.1 hv
 rw [denL_nil] at d2; subst d2
 rw [SV.den] at d1
 obtain ⟨ws, rfl, d1⟩ := d1
 obtain ⟨v, us, rfl, d1, d2⟩ := denL_cons.1 d1
 have hIk : Keeps C.I Cc.I C.w Cc.w := fun b hb => ⟨(hi b).2 hb, by rw [hwe]⟩
 have hobj := hw.obj _ _ hrow'
 -- the block of the row
 let hb : Option Nat := C.ρ (hd + 1)
 have hown1 : ∀ b, hb = some b → OwnB C (.mark i :: T) b := fun b h => ⟨hd + 1, _, hrow', rfl, h⟩
 have hnot : ∀ b, hb = some b → ¬ OwnB C (.mark i :: T.set hd .dead) b := by
  rintro b hbb ⟨x, o, ho, hl, hx⟩
  rw [← hset] at ho
  by_cases e : hd + 1 = x
  · subst e
    rw [List.getElem?_set_self (List.getElem?_eq_some_iff.1 hrow').1] at ho
    cases ho; simp [SObj.live] at hl
  · rw [List.getElem?_set_ne e] at ho
    exact e (hw.inj _ _ _ o b hrow' ho rfl hl hbb hx)
 obtain ⟨k1, k2, k3⟩ := wd_more hwc hb (.row ty xs) (fun b h => by
  have h1 := hw.own b (hown1 b h)
  exact ⟨fun x => h1.1 ((hi b).1 x), by rw [hwe]; exact h1.2, hsep b (hown1 b h)⟩) _ rfl (by
  have hnn : (if Cc.n = Cc.n then hb else Cc.ρ Cc.n) = C.ρ (hd + 1) := if_pos rfl
  rcases hobj with ⟨x1, x2⟩ | ⟨b, arr, T', fz, x1, x2, x3, x4, x5⟩
  · exact .inl ⟨hnn.trans x1, x2⟩
  · refine .inr ⟨b, arr, T', fz, hnn.trans x1, by show Cc.w.heap[b]? = _; rw [hwe]; exact x2, x3, x4, fun j y hy => ?_⟩
    obtain ⟨us', q1, q2⟩ := x5 j y hy
    exact ⟨us', Ty.rel_keep hIk _ _ _ q1, fun m u hm => by show Cc.w.cell? _ = _; rw [hwe]; exact q2 m u hm⟩)
 refine ⟨C, { Cc with ρ := (fun h => if h = Cc.n then hb else Cc.ρ h), n := Cc.n + 1 }, rfl, rfl, g1, Evo.refl _, fun b hb' => ?_, hwe, rfl, k1, k2, ?_, fun b hb' => ?_⟩
 · exact (g2.ownNew b hb').elim (fun x => by
    obtain ⟨x', o, ho, hl, hx⟩ := hb'
    rw [← hset] at ho
    by_cases e : hd + 1 = x'
    · subst e
      rw [List.getElem?_set_self (List.getElem?_eq_some_iff.1 hrow').1] at ho
      cases ho; simp [SObj.live] at hl
    · rw [List.getElem?_set_ne e] at ho
      exact ⟨x', o, ho, hl, hx⟩) id
 · refine denL_cons.2 ⟨_, [], rfl, ?_, denL_nil.2 rfl⟩
   rw [SV.den]
   refine ⟨_, rfl, denL_cons.2 ⟨v, us, rfl, ?_, ?_⟩⟩
   · rw [SV.den] at d1 ⊢
     obtain ⟨_, d1⟩ := d1
     have hnn : (if n = Cc.n then hb else Cc.ρ n) = C.ρ (hd + 1) := if_pos (by rw [hwc.n, hn])
     refine ⟨by show n < Cc.n + 1; rw [hwc.n, hn]; omega, ?_⟩
     rcases d1 with ⟨x1, x2⟩ | ⟨b, c, m, x1, x2, x3, x4, x5⟩
     · exact .inl ⟨hnn.trans x1, x2⟩
     · exact .inr ⟨b, c, m, hnn.trans x1, x2, x3, by show World.bsize Cc.w b = _; rw [hwe]; exact x4, x5⟩
   · exact denL_clean (C := C) (C' := { Cc with ρ := (fun h => if h = Cc.n then hb else Cc.ρ h), n := Cc.n + 1 }) hIk hc d2
 · exact orMap (k3 b hb') id fun e => ⟨hown1 b e, hnot b e⟩
end Go.Sx
/- Contracts: loops over functions: slices.Values. -/
namespace Go.Proofs.YtddmkgibghohkaaGreatDoor
open Go Go.Sx Go.Proofs
set_option maxRecDepth 100000
set_option maxHeartbeats 4000000
set_option linter.unusedSimpArgs false

def vwS (ty : Ty) (xs : List ty.den) : Nat → Nat → List SV → List SObj → Prop := fun i _ args' new => args' = [.agg (ty.cells (xs.getD i ty.dflt))] ∧ new = []
theorem values_c (xs : List Prin) (hok : (Ty.slice PrinT).ok xs) : PC Tryz.prog 63 [.isl PrinT xs] (.fn 125 [] [.iptr (.slice PrinT) xs 0]) := by
 refine pc_of rfl rfl ?_
 refine vc_fi fi63 ?_
 refine run_sound mixed 5 _ ?_
 with_reducible refine sxE ?_
 refine si_frzc 1 0 rfl hok rfl rfl ?_
 refine goE mixed ?_; trivial
theorem values_it (xs : List Prin) (hok : (Ty.slice PrinT).ok xs) : Iter Tryz.prog 125 [] [.iptr (.slice PrinT) xs 0] xs.length (vwS PrinT xs) := by
 have hlen := hok.1
 refine ⟨by kernel_rfl, fun l B J hJ yg => ?_⟩
 refine (vcg_top (yFG hJ) fi125 ?_).2
 letI : Ghost := topG (yFG hJ) []
 refine run_sound mixed 600 _ ?_
 with_reducible refine sxE ?_
 refine si_cntM [] (fun i => i) (fun i => [(7, rI i)]) xs.length (fun _ => True) trivial rfl (by simp) (by simp [SV.bel]) ?_ fun i hi _ => ?_
 · with_reducible refine sxE ?_; trivial
 refine goE mixed ?_
 have hwr : IntKind.i64.wrap ((i : Int) + 1) = ((i + 1 : Nat) : Int) := wrap_succ (by omega)
 refine ⟨fun hlt => ⟨⟨by omega, hlt⟩, yldI_top [_] hJ yg hlt (fun n => ⟨_, _, ⟨rfl, rfl⟩, hand_clean rfl⟩) fun b => ?_⟩, fun hge => ⟨_, i, rfl, rfl, by omega⟩⟩
 cases b
 · refine goE mixed ?_
   exact ⟨_, _, rfl, rfl, by omega⟩
 · refine goE mixed ?_
   refine ⟨hlt, trivial, ⟨[_], rfl⟩, ?_⟩
   with_reducible refine sx1 hwr ?_; trivial
theorem ncopy_o (p : Prin) (hl : p.1.length ≤ 8796093022208) : VC Tryz.prog 58 [.agg (PrinT.cells p)] [] (RowA .str p.1 (.string p.2)) := by
 refine vc_weak ?_
 refine runE mixed fi58 ?_
 refine callI_rowK (clone_o _ hl) rfl rfl (fun h0 => ?_) ?_
 · refine goE mixed ?_
   exact rowA_nil h0
 · refine goE mixed ?_
   exact rowA_row (h := 2) rfl rfl
end Go.Proofs.YtddmkgibghohkaaGreatDoor
set_option linter.unusedSectionVars false
namespace Go.Sx
open Go

variable [Ghost] {P : Program} {AQ : Ex → List SV → List SObj → Prop} {k0 : Nat} {k : List IT} {k' : List It} {t : List SV} {H : List SObj}
variable {all : Array Oper} {G : List Nat} {o : Oper} {ev : Operand → SV} {K : Out → List SObj → Prop}

theorem opv_bslF {T e : TypeId} {ty : Ty} {len sz : Nat} {parts : Array (Nat × Operand)} {zs : List Value} {cs : List SV} {xs : List ty.den} {p : Prop} (hop : o.op = .buildSlice T len parts) (ht : P.underlying T = some (.slice e)) (hs : (P.info? e).map (·.size) = some sz)
 (hz : zerosOf P e len = some zs) (hf : fillS (PlaceK.arr sz).fn (rawL zs) (parts.toList.map fun p => (p.1, ev p.2)) = some cs) (hr : rdL ty len cs = some (xs, p)) (hp : p) (hl : len ≤ 1125899906842624)
 (hk : K (.ret (.fsl ty xs)) H) : OpV P o ev H K := by
 refine opv_eff (by rw [hop]; intro c hc; cases hc) fun C e' hw hv => ?_
 rw [hop] at hv
 simp only [Op.operands] at hv
 obtain ⟨us, h1, h2⟩ := run_fill_parts (C := C) (e := e') (parts := parts) (fun q hq => hv q.2 (by simpa using ⟨q.1, by simpa using hq⟩)) hf
 obtain ⟨g1, g2⟩ := rdL_rel len cs xs p us hr hp h2
 have hrun : (execOp e' o).run P C.w = .ok (.value (.slice (some ⟨C.w.heap.size, 0, none⟩) len len)) (C.w.alloc (.cells us.toArray e)) := by
  unfold zerosOf at hz
  cases hi : P.info? e with
  | none => simp [hi] at hz
  | some i =>
   simp only [hi] at hz
   cases hz0 : i.zero with
   | none => simp [hz0] at hz
   | some z =>
    simp only [hz0] at hz
    split at hz
    · rename_i hle
      have hsi : i.size = sz := by simpa [hi] using hs
      cases hz
      simp only [execOp, hop, Sem.run_bind, Instr.buildSlice, run_underlying' ht, Result.andThen, run_sizeOf hs, Sem.run_ite]
      rw [hsi] at h1 hle
      rw [if_neg (by omega)]
      have hzr : (zeroValue e).run P C.w = .ok z C.w := by simp [zeroValue, typeInfo, hi, hz0]
      have h1' := h1
      simp only [Array.toArray_toList] at h1'
      by_cases h0 : len * sz = 0
      · simp only [if_pos h0, Sem.run_pure] at h1' ⊢
        erw [h1']
        simp [newRow]
      · simp only [if_neg h0, hzr, Sem.run_pure] at h1' ⊢
        erw [h1']
        simp [newRow]
    · cases hz
 have hsz : (C.w.alloc (.cells us.toArray e)).heap.size = C.w.heap.size + 1 := Array.size_push _
 obtain ⟨w1, w2⟩ := wd_gr (w' := C.w.alloc (.cells us.toArray e)) hw (by rw [hsz]; exact Nat.le_succ _) (fun b hb => alloc_old _ _ hb) rfl rfl rfl
 have hnew : (C.w.alloc (.cells us.toArray e)).heap[C.w.heap.size]? = some (.cells us.toArray e (0, 0)) := alloc_new _ _
 let C' : Cx := { C with w := C.w.alloc (.cells us.toArray e), I := fun b => C.I b ∨ b = C.w.heap.size }
 have hI : Keeps C.I C'.I C.w C'.w := fun b hb => ⟨.inl hb, (w2.evo.I b hb).2⟩
 have he : Evo C C' := ⟨Nat.le_refl _, fun _ _ => rfl, hI, w2.evo.sz⟩
 have hnown : ∀ b, OwnB C H b → b ≠ C.w.heap.size := fun b hb => Nat.ne_of_lt (hw.own b hb).2
 refine ⟨.fsl ty xs, .slice (some ⟨C.w.heap.size, 0, none⟩) len len, H, C', hk, .inl hrun, ⟨hw.n, fun h x hx => ?_, fun b hb => ?_, hw.inj, fun b hb => ?_⟩, ⟨he, w2.size, w2.os, w2.tape, w2.output, w2.frame, fun b hb => ?_, w2.ownNew, w2.keep0⟩, ?_⟩
 · by_cases hl : x.live = true
   · exact objDen_evo (C' := C') hI h rfl (fun b hb => alloc_old _ _ (hw.own b ⟨h, x, hx, hl, hb⟩).2) (denL_evo he) (hw.obj h x hx)
   · cases x <;> first | trivial | simp [SObj.live] at hl
 · have := hw.own b hb
   exact ⟨fun hi => hi.elim this.1 (hnown b hb), by show b < (C.w.alloc _).heap.size; rw [hsz]; omega⟩
 · show b < (C.w.alloc _).heap.size
   rw [hsz]
   exact hb.elim (fun x => Nat.lt_succ_of_lt (hw.imm b x)) fun x => by rw [x]; exact Nat.lt_succ_self _
 · refine orMap hb id fun x => ⟨.inl (Nat.le_of_eq x.symm), fun c T' fz hc => ?_⟩
   subst x
   have hc' : (C.w.alloc (.cells us.toArray e)).heap[C.w.heap.size]? = _ := hc
   rw [hnew] at hc'; cases hc'; simp
 · rw [SV.den]
   refine ⟨⟨_, len, len, rfl, g2.symm, Nat.le_refl _, hl, .inr ⟨C.w.heap.size, 0, rfl, .inr rfl, fun i x hx => ?_⟩⟩, _, by rw [g2]⟩
   obtain ⟨us', q1, q2⟩ := relL_get g1 i x hx
   refine ⟨us', Ty.rel_keep hI _ _ _ q1, fun k u hu => ?_⟩
   show (C.w.alloc _).cell? _ = _
   rw [Nat.zero_add, cell_of_cells hnew]
   exact q2 k u hu

theorem hand_nilrow {n : Nat} {H : List SObj} {ty : Ty} {xs : List ty.den} {rest : List SV} (hxs : xs = []) (hc : SV.cleanL rest = true) : Hand n H H [.agg (.raw (.slice none 0 0) :: rest)] [.agg (.bld n ty xs.length :: rest)] [.row ty xs] := by
 subst hxs
 intro C Cc Hc vs hw hv hwc hn hwe hi hsep
 have hIk : Keeps C.I Cc.I C.w Cc.w := fun b hb => ⟨(hi b).2 hb, by rw [hwe]⟩
 obtain ⟨v, us, rfl, d1, d2⟩ := denL_cons.1 hv
 rw [denL_nil] at d2; subst d2
 rw [SV.den] at d1
 obtain ⟨ws, rfl, d1⟩ := d1
 obtain ⟨v, us, rfl, d1, d2⟩ := denL_cons.1 d1
 rw [SV.den] at d1; subst d1
 obtain ⟨k1, k2, k3⟩ := wd_more hwc none (.row ty []) (fun b h => by cases h) _ rfl (.inl ⟨if_pos rfl, rfl⟩)
 refine ⟨C, { Cc with ρ := (fun h => if h = Cc.n then none else Cc.ρ h), n := Cc.n + 1 }, rfl, rfl, hw, Evo.refl _, fun _ h => h, hwe, rfl, k1, k2, ?_, fun b hb => orMap (k3 b hb) id fun h => by cases h⟩
 refine denL_cons.2 ⟨_, [], rfl, ?_, denL_nil.2 rfl⟩
 rw [SV.den]
 refine ⟨_, rfl, denL_cons.2 ⟨_, us, rfl, ?_, denL_clean (C := C) (C' := { Cc with ρ := (fun h => if h = Cc.n then none else Cc.ρ h), n := Cc.n + 1 }) hIk hc d2⟩⟩
 rw [SV.den]
 exact ⟨by show n < Cc.n + 1; rw [hwc.n, hn]; omega, .inl ⟨if_pos (by rw [hwc.n, hn]), rfl, rfl⟩⟩

def borrowC (h : Nat) (args : List SV) (H : List SObj) (args' : List SV) : Prop := match H[h]? with
 | some (.row t xs) => xs.length ≤ 1125899906842624 ∧ SV.frzObL h t xs args ∧ SV.frzL h t xs args = args'
 | _ => False
theorem vcall_borrow {f : FuncId} {args args' : List SV} {v : Value} (h : Nat) (hb : borrowC h args H args') (hc : SV.cleanL args' = true) (hp : PC P f args' (.raw v)) (hk : K (.ret (.raw v)) H) : VCallG P f args H K := by
 unfold borrowC at hb
 split at hb
 · rename_i ty xs hH
   obtain ⟨hlen, ho, rfl⟩ := hb
   intro E C vs hw hg hv
   obtain ⟨g1, g2⟩ := wd_hand hw hH
   refine (hp.2 [] (fun o _ => o = .ret (.raw v)) rfl { C.frz h with n := 0 } vs g1.nil (denL_clean (C := C.frz h) (C' := { C.frz h with n := 0 }) (Keeps.refl _ _) hc (frzL_den hw hH hlen ho hv))).mono ?_
   rintro e w' ⟨o, H', C', rfl, rfl, hw', hx, u, rfl, hd⟩
   rw [SV.den] at hd
   obtain ⟨q1, q2⟩ := wd_gr (w' := C'.w) hw hx.size (fun b hb => hx.frame b hb fun ⟨i, o, ho, _⟩ => by simp at ho) hx.os hx.tape hx.output
   exact ⟨.ret (.raw v), H, { C with w := C'.w }, hk, rfl, q1, .of q2, u, rfl, by rw [SV.den]; exact hd⟩
 · exact hb.elim
theorem callR_borrow {f : FuncId} {args args' : List SV} {v : Value} {d : Option Tmp} {m : IM} (h : Nat) (hb : borrowC h args m.heap args') (hc : SV.cleanL args' = true) (hp : PC P f args' (.raw v)) (hk : SoundI P AQ { m with tmps := putT m.tmps d (.raw v) }) : CallR P AQ G f args d m :=
 ⟨hp.1, vcall_borrow h hb hc hp ⟨fun _ => SameG.refl _ _, hk⟩⟩
def atOp (P : Program) (all : Array Oper) (i : Nat) : Option OpI := (all[i]?).bind (compO P all)
theorem atOp_ok {i : Nat} {io : OpI} (h : atOp P all i = some io) : ∃ o, all[i]? = some o ∧ compO P all o = some io := by
 unfold atOp at h
 cases ho : all[i]? with
 | none => rw [ho] at h; cases h
 | some o => rw [ho] at h; exact ⟨o, rfl, h⟩
theorem am_val {i n : Nat} {listed : Array Bool} {io : OpI} {p : Prop} {s : SV} (hc : atOp P all i = some io) (hB : (planChk all listed i true && ldChk all listed i && io.guard.isNone) = true) (hf : floatOk G (evT t) io.op = true) (he : io.op.ev H (evT t) = .val p s) (hp : p)
 (h : AnyV P AQ k0 k' all G n (listed.setIfInBounds i true) (putT t io.dst s) H) : AnyV P AQ k0 k' all G (n + 1) listed t H := by
 obtain ⟨o, ho, hco⟩ := atOp_ok hc
 simp only [Bool.and_eq_true, Option.isNone_iff_eq_none] at hB
 refine any_pure ho hco ((compO_wanted hco).1 hB.2) hf he hp (fun _ => .inl hB.1.2) hB.1.1 ?_
 rw [← (compO_op hco).2]; exact h
theorem am_valA {i n : Nat} {listed : Array Bool} {io : OpI} {p : Prop} {s : SV} (hc : atOp P all i = some io) (hB : (planChk all listed i true && io.guard.isNone) = true) (he : ∀ H', io.op.ev H' (evT t) = .val p s) (hp : p)
 (h : AnyV P AQ k0 k' all G n (listed.setIfInBounds i true) (putT t io.dst s) H) : AnyV P AQ k0 k' all G (n + 1) listed t H := by
 obtain ⟨o, ho, hco⟩ := atOp_ok hc
 simp only [Bool.and_eq_true, Option.isNone_iff_eq_none] at hB
 refine any_float (planChk_true hB.1).1 ho (.inl ⟨(compO_wanted hco).1 hB.2, fun H' _ K hk => ev_sound (compO_op hco).1 (by rw [he H']; exact ⟨hp, hk⟩)⟩) ?_
 rw [← (compO_op hco).2]; exact h
theorem am_call {i n : Nat} {listed : Array Bool} {io : OpI} {f : FuncId} {args : List SV} {s : SV} (hc : atOp P all i = some io) (hB : (planChk all listed i true && io.guard.isNone) = true) (he : ∀ H', io.op.ev H' (evT t) = .call f args) (hf : enters P f = true)
 (hcall : ∀ (H' : List SObj) (K : Out → List SObj → Prop), K (.ret s) H' → VCallG P f args H' K) (h : AnyV P AQ k0 k' all G n (listed.setIfInBounds i true) (putT t io.dst s) H) : AnyV P AQ k0 k' all G (n + 1) listed t H := by
 obtain ⟨o, ho, hco⟩ := atOp_ok hc
 simp only [Bool.and_eq_true, Option.isNone_iff_eq_none] at hB
 refine any_float (planChk_true hB.1).1 ho (.inl ⟨(compO_wanted hco).1 hB.2, fun H' _ K hk => ev_sound (compO_op hco).1 (by rw [he H']; exact ⟨hf, hcall H' K hk⟩)⟩) ?_
 rw [← (compO_op hco).2]; exact h
theorem am_bsl {i n : Nat} {listed : Array Bool} {d : Option Tmp} {ty : Ty} {m sz : Nat} {zs : List Value} {ps : List (Nat × Operand)} {cs : List SV} {xs : List ty.den} {p : Prop} (hc : atOp P all i = some ⟨d, .bsl ty m sz zs ps, none⟩) (hB : planChk all listed i true = true)
 (hf : fillS (PlaceK.arr sz).fn (rawL zs) (ps.map fun p => (p.1, evT t p.2)) = some cs) (hr : rdL ty m cs = some (xs, p)) (hp : p) (hl : m ≤ 1125899906842624) (h : AnyV P AQ k0 k' all G n (listed.setIfInBounds i true) (putT t d (.fsl ty xs)) H) : AnyV P AQ k0 k' all G (n + 1) listed t H := by
 obtain ⟨o, ho, hco⟩ := atOp_ok hc
 obtain ⟨hcp, hdst⟩ := compO_op hco
 simp only at hcp hdst
 refine any_float (planChk_true hB).1 ho (.inl ⟨(compO_wanted hco).1 rfl, fun H' _ K hk => ?_⟩) (by rw [← hdst]; exact h)
 cases hop : o.op with
 | buildSlice T n parts =>
  rw [hop] at hcp
  simp only [compOp] at hcp
  split at hcp
  · rename_i e hT
    split at hcp
    · rename_i ty' sz' zs' h1 h2 h3
      cases hcp
      exact opv_bslF hop hT h2 h3 hf hr hp hl hk
    · cases hcp
  · cases hcp
 | _ => exact (not_bsl hcp (by rw [hop]; intro _ _ _ h; cases h)).elim
theorem am_tail {n : Nat} {listed : Array Bool} {l : List (Bool × OpI)} (hpl : planL P all n listed = some l) (hr : RelT P k k') (h : SoundI P AQ ⟨k0, .dops G l :: k, t, H⟩) : AnyV P AQ k0 k' all G n listed t H := h all listed n k' hpl hr
theorem am_start {id m : Nat} (hm : P.follows .mixedOrders = true) (hs : all.size = m) (h : AnyV P AQ k0 k' all G m (Array.replicate m false) t H) : Sound P AQ ⟨k0, .code (.region id all true) :: k', t, H⟩ := sound_draw G hm (by rw [hs]; exact h)

theorem wpT_spliceG {F : Fence} {n : Nat} {E : EnD} {Q1 Q : Exit → Act → World → Prop} {Φ : List SV → List SObj → Prop} {k2 : List It} (hQ : ∀ e a w, e ≠ .normal → Q1 e a w → Q e a w) (hx : ∀ id a w, ¬ Q1 (.exit id) a w) (hΦ : ∀ a C t H, Φ t H → Den E C t H a → wpT F n P E Q k2 a C.w) :
 ∀ (l : List Code) (a : Act) (w : World), wpT F n P E Q1 (l.map .code ++ [.stop Φ]) a w → wpT F n P E Q (l.map .code ++ k2) a w
 | [], a, w, h => by
  obtain ⟨C, t, H, h1, rfl, h2⟩ := h
  exact hΦ a C t H h1 h2
 | c :: l, a, w, h => by
  simp only [List.map_cons, List.cons_append, wpT] at h ⊢
  refine wpIn_mono h fun e a w hq => ?_
  cases e with
  | normal => exact wpT_spliceG hQ hx hΦ l a w hq
  | exit id =>
   exfalso
   have : ∀ (l : List Code) (a : Act) (w : World), ¬ exitT F n P E Q1 id (l.map .code ++ [.stop Φ]) a w := by
    intro l
    induction l with
    | nil => intro a w hq; simp only [List.map_nil, List.nil_append, exitT] at hq; exact hx _ _ _ hq
    | cons c l ih => intro a w hq; simp only [List.map_cons, List.cons_append, exitT] at hq; exact ih a w hq
   exact this l a w hq
  | ret => exact hQ _ _ _ (by simp) hq
  | panic ch => exact hQ _ _ _ (by simp) hq
  | goto l => exact hQ _ _ _ (by simp) hq
  | outgrown => exact hQ _ _ _ (by simp) hq
def AtRegG (P : Program) (AQ : Ex → List SV → List SObj → Prop) (k0 : Nat) (xi : XI) (t : List SV) (H : List SObj) : Prop :=
 ∀ (id : Nat) (k : List It), noStop k = true → RelT P (xi.post.map .ic) k → Sound P AQ ⟨k0, .code (.region id xi.reg true) :: k, t, H⟩
theorem vcz_xi {q : Nat → Prop} {w0 : World} {f : FuncId} {xi : XI} {args : List SV} {K : Out → List SObj → Prop} (h : xinfo P f = some xi)
 (hs : @SoundI (frzG q w0) P (retF P xi.results K) ⟨H.length, xi.pre.map .ic ++ [.stop (@AtRegG (frzG q w0) P (retF P xi.results K) H.length xi)], args ++ List.replicate (xi.ntmps - args.length) .any, H⟩) : VCZ q w0 P f args H K := by
 unfold xinfo at h
 split at h
 · rename_i fn hf
   split at h
   · rename_i c hb
     split at h
     · rename_i l r l' hsp
       split at h
       · cases h
       · rename_i hn
         cases h
         refine ⟨by simp [enters, hf, hb]; simpa using hn, fun C vs hw hg hv => ?_⟩
         have hq : retQ P fn K = retF P fn.results.toList K := by funext e t H; cases e <;> rfl
         obtain ⟨cs1, id, cs2, hcs, g1, g2⟩ := splitX_ok hsp
         refine (@calls_enter (frzG q w0) P H f fn c args K ⟨⟨C, H⟩, []⟩ C vs hf hb rfl (by rw [hw.n]; exact Nat.le_refl _) hw (Ext.refl _ _) hg (fun _ _ => True) (fun _ _ ds _ _ h => ⟨[], h.1, List.nodup_nil, fun _ h => by simp at h, trivial⟩) hv ?_).mono ?_
         · rw [hq]
           intro E r n C a h0 hd
           refine @wpT_flat P (frzG q w0) _ _ _ _ c [] a C.w ?_
           rw [List.append_nil, hcs, List.map_append]
           have h1 := @soundI_get (frzG q w0) _ _ _ _ _ _ _ hs (rel_codes g1) E r n C a h0 hd
           refine @wpT_spliceG (frzG q w0) P _ _ _ (@conc (frzG q w0) E (retF P fn.results.toList K)) _ _ _ (fun e a w _ h => h) (fun id a w ⟨_, _, _, hq, _⟩ => hq) (fun a C t H hΦ hd => ?_) cs1 a C.w h1
           exact hΦ id (cs2.map .code) (noStop_codes cs2) (rel_codes' g2) E r n C a h0 hd
         · rintro e w' ⟨o, H', C', k1, k2, k3, k4, _, k5⟩
           exact ⟨o, H', C', k1, k2, k3, k4, k5⟩
     · cases h
   · cases h
 · cases h
theorem pcz_of {q : Nat → Prop} {w0 : World} {f : FuncId} {args : List SV} {s : SV} (ha : SV.cleanL args = true) (hs : s.clean = true) (h : VCZ q w0 P f args [] (PK s)) : PCZ q w0 P f args s :=
 ⟨h.1, fun H K hk C vs hw hg hv => calls_frame hs hw (h.2 { C with n := 0 } vs hw.nil hg.nil (denL_clean (C := C) (C' := { C with n := 0 }) (Keeps.refl _ _) ha hv)) hk⟩
end Go.Sx
/- Contracts: loops over functions: entry.Names. -/
namespace Go.Proofs.YtddmkgibghohkaaGreatDoor
open Go Go.Sx Go.Proofs
set_option maxRecDepth 100000
set_option maxHeartbeats 4000000
set_option linter.unusedSimpArgs false

def vwN (xs : List Prin) : Nat → Nat → List SV → List SObj → Prop := fun i n args' new =>
 args' = [.agg [.bld n .str (xs.getD i PrinT.dflt).1.length, .raw (.string (xs.getD i PrinT.dflt).2)]] ∧ new = [.row .str (xs.getD i PrinT.dflt).1]
def nmH (l : Nat) (i : Nat) (H' : List SObj) : Prop := ∃ G, H' = .mark i :: .cells 96 [.raw (.func (.yield l) #[] #[])] :: G
def nmX (N i : Nat) (ex : Ex) (H' : List SObj) : Prop := ex = .exit 0 ∧ ∃ G, H' = .mark (N + 1 + i) :: G
theorem names_it (xs : List Prin) (hok : (Ty.slice PrinT).ok xs) (hx : ∀ p ∈ xs, p.1.length ≤ 8796093022208) : Iter Tryz.prog 62 [] [.iptr (.slice PrinT) xs 0] xs.length (vwN xs) := by
 refine ⟨by kernel_rfl, fun l B J hJ yg => ?_⟩
 refine (vcg_top (yFG hJ) fi62 ?_).2
 letI : Ghost := topG (yFG hJ) []
 refine run_sound mixed 600 _ ?_
 with_reducible refine sxE ?_
 refine callI_pure (values_c xs hok) ?_
 refine goE mixed ?_
 refine si_rf (nmH l) (nmX xs.length) rfl rfl rfl (values_it xs hok) (fun i n args' new h => by rw [h.1]; rfl) ⟨[], rfl⟩ rfl ?_ ?_ ?_
 · rintro i _ args' new hi ⟨G, rfl⟩ ⟨rfl, rfl⟩ L1 L2
   letI : Ghost := pinG (yFG hJ) L1
   rw [List.append_nil]
   refine run_sound mixed 600 _ ?_
   simp only [putL, List.toList_toArray]
   with_reducible refine sxaE ?_
   letI : Ghost := pinG (yFG hJ) L2
   refine run_sound mixed 2 _ ?_
   with_reducible refine sxaE ?_
   refine si_drw [1, G.length + 2] mixed ?_
   refine run_sound mixed 600 _ ?_
   with_reducible refine sxaE ?_
   refine callR_rowA (ncopy_o _ (hx _ (getD_mem hi))) rfl rfl ?_ (fun h0 => ?_) ?_
   · with_reducible refine sxaE ?_; trivial
   · refine run_sound mixed 600 _ ?_
     with_reducible refine sxaE ?_
     refine yldR_pin _ hJ yg hi (fun n => ⟨_, _, ⟨rfl, rfl⟩, hand_nilrow h0 rfl⟩) fun b => ⟨fun _ => ?_, ?_⟩
     · with_reducible refine sxaE ?_; trivial
     · cases b
       · refine run_sound mixed 600 _ ?_
         with_reducible refine sxaE ?_
         exact ⟨rfl, _, by rw [Nat.add_assoc]⟩
       · refine run_sound mixed 600 _ ?_
         with_reducible refine sxaE ?_
         exact ⟨_, rfl⟩
   · refine run_sound mixed 600 _ ?_
     with_reducible refine sxaE ?_
     refine yldR_pin _ hJ yg hi (fun n => ⟨_, _, ⟨rfl, rfl⟩, hand_row (hd := G.length + 2) ?_ rfl⟩) fun b => ⟨fun _ => ?_, ?_⟩
     · with_reducible refine sxaE ?_; trivial
     · with_reducible refine sxaE ?_; trivial
     · cases b
       · refine run_sound mixed 600 _ ?_
         with_reducible refine sxaE ?_
         exact ⟨rfl, _, by rw [Nat.add_assoc]⟩
       · refine run_sound mixed 600 _ ?_
         with_reducible refine sxaE ?_
         exact ⟨_, rfl⟩
 · rintro D _ ⟨G, rfl⟩
   letI : Ghost := topG (yFG hJ) [D]
   refine goE mixed ?_
   exact ⟨_, _, rfl, rfl, Nat.le_refl _⟩
 · rintro D i ex _ hi ⟨rfl, G, rfl⟩
   refine ⟨_, rfl, ?_⟩
   letI : Ghost := topG (yFG hJ) [D]
   refine goE mixed ?_
   exact ⟨_, _, rfl, rfl, by omega⟩
end Go.Proofs.YtddmkgibghohkaaGreatDoor
/- Contracts: copies in new memory, of what lies as it lay. -/
namespace Go.Proofs.YtddmkgibghohkaaGreatDoor
open Go Go.Sx Go.Proofs
set_option maxRecDepth 100000
set_option maxHeartbeats 4000000
set_option linter.unusedSimpArgs false

variable {q : Nat → Prop} {w0 : World}
theorem copies_key_z (l : List (KeyT).den) (f : Nat) {w : Value} (hw : Sl q w0 (KeyT) l w) (hl : l.length * 40 ≤ 140737488355328) (hok : ∀ x ∈ l, (KeyT).ok x) (hone : ∀ x ∈ l, ∀ vs, (KeyT).rel q w0 x vs → PCZ q w0 Tryz.prog f [.agg (rawL vs)] (.agg ((KeyT).cells x))) :
 PCZ q w0 Tryz.prog 118 [.raw w, .fn f [] []] (.isl (KeyT) l) := by
 letI : Ghost := frzG q w0
 obtain ⟨A, c, rfl, hA⟩ := hw.out
 refine pcz_seal rfl rfl ?_
 refine runZ mixed fi118 ?_ <;> try with_reducible exact True.intro
 refine si_accN 5 (KeyT) (fun i => l.take i) (fun i => [(10, rI i)]) l.length (fun _ => True) rfl (by simp) (by simp) rfl (fun i => rfl) ?_ fun i hi _ => ?_
 · with_reducible refine sxE ?_; trivial
 rcases hA with rfl | ⟨b, o, rfl, hat⟩
 · obtain rfl : i = 0 := by simpa using hi
   rcases A with _ | ⟨b, o, _ | _⟩
   all_goals
    refine run_sound mixed 600 _ ?_
    simp (maxSteps := 3000000) [go_sem, bothG]
 refine goE mixed ?_
 have hwr : IntKind.i64.wrap ((i : Int) + 1) = ((i + 1 : Nat) : Int) := wrap_succ (by omega)
 refine ⟨fun hlt => ⟨⟨by omega, hlt⟩, zldF (hat i (l.getD i (KeyT).dflt) (by rw [List.getD_eq_getElem?_getD, List.getElem?_eq_getElem hlt]; rfl)) fun vs hvs => ?_⟩, fun hge => ?_⟩
 · obtain ⟨A, n, c', rfl, h1⟩ := rel_key hvs
   refine goE mixed ?_
   refine callZ (hone _ (getD_mem hlt) _ hvs) ?_
   refine goE mixed ?_
   have hst : l.take (i + 1) = l.take i ++ [l.getD i (KeyT).dflt] := take_succ_getD hlt
   have hlen : (l.take i).length = i := by simp; omega
   refine ⟨ ⟨by omega, by omega⟩, acc_next [_, _, _] [] hlt trivial (by rw [hst]; rfl) ?_⟩
   with_reducible refine sx3 hwr hst ?_; trivial
 · obtain rfl : i = l.length := by omega
   simp; omega
theorem copies_prin_z (l : List (PrinT).den) (f : Nat) {w : Value} (hw : Sl q w0 (PrinT) l w) (hl : l.length * 40 ≤ 140737488355328) (hok : ∀ x ∈ l, (PrinT).ok x) (hone : ∀ x ∈ l, ∀ vs, (PrinT).rel q w0 x vs → PCZ q w0 Tryz.prog f [.agg (rawL vs)] (.agg ((PrinT).cells x))) :
 PCZ q w0 Tryz.prog 59 [.raw w, .fn f [] []] (.isl (PrinT) l) := by
 letI : Ghost := frzG q w0
 obtain ⟨A, c, rfl, hA⟩ := hw.out
 refine pcz_seal rfl rfl ?_
 refine runZ mixed fi59 ?_ <;> try with_reducible exact True.intro
 refine si_accN 5 (PrinT) (fun i => l.take i) (fun i => [(10, rI i)]) l.length (fun _ => True) rfl (by simp) (by simp) rfl (fun i => rfl) ?_ fun i hi _ => ?_
 · with_reducible refine sxE ?_; trivial
 rcases hA with rfl | ⟨b, o, rfl, hat⟩
 · obtain rfl : i = 0 := by simpa using hi
   rcases A with _ | ⟨b, o, _ | _⟩
   all_goals
    refine run_sound mixed 600 _ ?_
    simp (maxSteps := 3000000) [go_sem, bothG]
 refine goE mixed ?_
 have hwr : IntKind.i64.wrap ((i : Int) + 1) = ((i + 1 : Nat) : Int) := wrap_succ (by omega)
 refine ⟨fun hlt => ⟨⟨by omega, hlt⟩, zldF (hat i (l.getD i (PrinT).dflt) (by rw [List.getD_eq_getElem?_getD, List.getElem?_eq_getElem hlt]; rfl)) fun vs hvs => ?_⟩, fun hge => ?_⟩
 · obtain ⟨A, n, c', rfl, h1⟩ := rel_prin hvs
   refine goE mixed ?_
   refine callZ (hone _ (getD_mem hlt) _ hvs) ?_
   refine goE mixed ?_
   have hst : l.take (i + 1) = l.take i ++ [l.getD i (PrinT).dflt] := take_succ_getD hlt
   have hlen : (l.take i).length = i := by simp; omega
   refine ⟨(hok _ (getD_mem hlt)).2, ⟨by omega, by omega⟩, acc_next [_, _, _] [] hlt trivial (by rw [hst]; rfl) ?_⟩
   with_reducible refine sx3 hwr hst ?_; trivial
 · obtain rfl : i = l.length := by omega
   simp; omega
theorem copies_set_z (l : List (SetT).den) (f : Nat) {w : Value} (hw : Sl q w0 (SetT) l w) (hl : l.length * 64 ≤ 140737488355328) (hok : ∀ x ∈ l, (SetT).ok x) (hone : ∀ x ∈ l, ∀ vs, (SetT).rel q w0 x vs → PCZ q w0 Tryz.prog f [.agg (rawL vs)] (.agg ((SetT).cells x))) :
 PCZ q w0 Tryz.prog 60 [.raw w, .fn f [] []] (.isl (SetT) l) := by
 letI : Ghost := frzG q w0
 obtain ⟨A, c, rfl, hA⟩ := hw.out
 refine pcz_seal rfl rfl ?_
 refine runZ mixed fi60 ?_ <;> try with_reducible exact True.intro
 refine si_accN 5 (SetT) (fun i => l.take i) (fun i => [(10, rI i)]) l.length (fun _ => True) rfl (by simp) (by simp) rfl (fun i => rfl) ?_ fun i hi _ => ?_
 · with_reducible refine sxE ?_; trivial
 rcases hA with rfl | ⟨b, o, rfl, hat⟩
 · obtain rfl : i = 0 := by simpa using hi
   rcases A with _ | ⟨b, o, _ | _⟩
   all_goals
    refine run_sound mixed 600 _ ?_
    simp (maxSteps := 3000000) [go_sem, bothG]
 refine goE mixed ?_
 have hwr : IntKind.i64.wrap ((i : Int) + 1) = ((i + 1 : Nat) : Int) := wrap_succ (by omega)
 refine ⟨fun hlt => ⟨⟨by omega, hlt⟩, zldF (hat i (l.getD i (SetT).dflt) (by rw [List.getD_eq_getElem?_getD, List.getElem?_eq_getElem hlt]; rfl)) fun vs hvs => ?_⟩, fun hge => ?_⟩
 · obtain ⟨A, n, c', rfl, h1⟩ := rel_set hvs
   refine goE mixed ?_
   refine callZ (hone _ (getD_mem hlt) _ hvs) ?_
   refine goE mixed ?_
   have hst : l.take (i + 1) = l.take i ++ [l.getD i (SetT).dflt] := take_succ_getD hlt
   have hlen : (l.take i).length = i := by simp; omega
   refine ⟨(hok _ (getD_mem hlt)).2.2.1, ⟨by omega, by omega⟩, acc_next [_, _, _] [] hlt trivial (by rw [hst]; rfl) ?_⟩
   with_reducible refine sx3 hwr hst ?_; trivial
 · obtain rfl : i = l.length := by omega
   simp; omega
theorem cbytes_z (l : List UInt8) {v : Value} (hv : Sl q w0 .u8 l v) (hl : l.length ≤ 140737488355328) : PCZ q w0 Tryz.prog 52 [.raw v] (.isl .u8 l) := by
 exact pcz_lend rfl (cbytes_o l hl) (lend_z hv lend_nil) rfl (by omega)
theorem copies_bytes_z (l : List (List UInt8)) (f : Nat) {w : Value} (hw : Sl q w0 (.slice .u8) l w) (hl : l.length * 24 ≤ 140737488355328) (hone : ∀ x ∈ l, ∀ v, Sl q w0 .u8 x v → PCZ q w0 Tryz.prog f [.raw v] (.isl .u8 x)) :
 PCZ q w0 Tryz.prog 61 [.raw w, .fn f [] []] (.isl (.slice .u8) l) := by
 letI : Ghost := frzG q w0
 obtain ⟨A, c, rfl, hA⟩ := hw.out
 refine pcz_seal rfl rfl ?_
 refine runZ mixed fi61 ?_ <;> try with_reducible exact True.intro
 refine si_accN 5 (.slice .u8) (fun i => l.take i) (fun i => [(10, rI i)]) l.length (fun _ => True) rfl (by simp) (by simp) rfl (fun i => rfl) ?_ fun i hi _ => ?_
 · with_reducible refine sxE ?_; trivial
 rcases hA with rfl | ⟨b, o, rfl, hat⟩
 · obtain rfl : i = 0 := by simpa using hi
   rcases A with _ | ⟨b, o, _ | _⟩
   all_goals
    refine run_sound mixed 600 _ ?_
    simp (maxSteps := 3000000) [go_sem, bothG]
 refine goE mixed ?_
 have hwr : IntKind.i64.wrap ((i : Int) + 1) = ((i + 1 : Nat) : Int) := wrap_succ (by omega)
 refine ⟨fun hlt => ⟨⟨by omega, hlt⟩, zldF1 (hat i (l.getD i (Ty.slice .u8).dflt) (by rw [List.getD_eq_getElem?_getD, List.getElem?_eq_getElem hlt]; rfl)) rfl fun v hv => ?_⟩, fun hge => ?_⟩
 · obtain ⟨A, n, c', h0, h1⟩ := rel_sl hv
   cases h0
   refine goE mixed ?_
   refine callZ (hone _ (getD_mem (d := (Ty.slice .u8).dflt) hlt) _ h1) ?_
   refine goE mixed ?_
   have hst : l.take (i + 1) = l.take i ++ [l.getD i (Ty.slice .u8).dflt] := take_succ_getD hlt
   have hlen : (l.take i).length = i := by simp; omega
   refine ⟨⟨by omega, by omega⟩, acc_next [_, _] [] hlt trivial (by rw [hst]; rfl) ?_⟩
   with_reducible refine sx3 hwr hst ?_; trivial
 · obtain rfl : i = l.length := by omega
   simp; omega
theorem copySet_z (s : KSet) {vs : List Value} (hv : SetT.rel q w0 s vs) (ho : SetT.ok s) (hl : s.2.1.length * 40 ≤ 140737488355328) (hk : ∀ k ∈ s.2.1, k.2.2.length ≤ 140737488355328) : PCZ q w0 Tryz.prog 47 [.agg (rawL vs)] (.agg (SetT.cells s)) := by
 letI : Ghost := frzG q w0
 obtain ⟨A, n, c, rfl, h1⟩ := rel_set hv
 refine pcz_seal rfl rfl ?_
 refine runZ mixed fi47 ?_ <;> try with_reducible exact True.intro
 refine callZ (copies_key_z s.2.1 _ h1 hl ho.2.1.2 (fun x hx vs hvs => pcopy_z x hvs (hk x hx))) ?_
 refine goE mixed ?_; trivial
theorem copy_z (e : Ent) {vs : List Value} (hv : EntT.rel q w0 e vs) (ho : EntT.ok e) (hs : small47 e) : PCZ q w0 Tryz.prog 27 [.agg (rawL vs)] (.agg (EntT.cells e)) := by
 letI : Ghost := frzG q w0
 obtain ⟨e1, e2, e3, e4, e5, e6, e7, e8, e9, e10, e11, e12, e13, e14, e15, e16⟩ := e
 obtain ⟨h1, ⟨h2, h2'⟩, ⟨h5, h5'⟩, ⟨h14, h14'⟩, ⟨h15, h15'⟩, ⟨h16, h16'⟩⟩ := hs
 obtain ⟨v1, u1, rfl, r1, hv⟩ := rel_pr hv
 obtain ⟨v2, u2, rfl, r2, hv⟩ := rel_pr hv
 obtain ⟨v3, u3, rfl, r3, hv⟩ := rel_pr hv
 obtain ⟨v4, u4, rfl, r4, hv⟩ := rel_pr hv
 obtain ⟨v5, u5, rfl, r5, hv⟩ := rel_pr hv
 obtain ⟨v6, u6, rfl, r6, hv⟩ := rel_pr hv
 obtain ⟨v7, u7, rfl, r7, hv⟩ := rel_pr hv
 obtain ⟨v8, u8, rfl, r8, hv⟩ := rel_pr hv
 obtain ⟨v9, u9, rfl, r9, hv⟩ := rel_pr hv
 obtain ⟨v10, u10, rfl, r10, hv⟩ := rel_pr hv
 obtain ⟨v11, u11, rfl, r11, hv⟩ := rel_pr hv
 obtain ⟨v12, u12, rfl, r12, hv⟩ := rel_pr hv
 obtain ⟨v13, u13, rfl, r13, hv⟩ := rel_pr hv
 obtain ⟨v14, u14, rfl, r14, hv⟩ := rel_pr hv
 obtain ⟨v15, v16, rfl, r15, r16⟩ := rel_pr hv
 obtain ⟨A1, n1, c1, rfl, s1⟩ := rel_prin r1
 obtain ⟨A2, n2, c2, rfl, s2⟩ := rel_sl r2
 obtain rfl := rel_int r3
 obtain rfl := rel_int r4
 obtain ⟨A5, n5, c5, rfl, s5⟩ := rel_sl r5
 obtain rfl := rel_str r6
 obtain rfl := rel_int r7
 obtain rfl := rel_int r8
 obtain rfl := rel_int r9
 obtain rfl := rel_int r10
 obtain rfl := rel_int r11
 obtain rfl := rel_int r12
 obtain rfl := rel_int r13
 obtain ⟨A14, n14, c14, rfl, s14⟩ := rel_sl r14
 obtain ⟨A15, n15, c15, rfl, s15⟩ := rel_sl r15
 obtain ⟨A16, n16, c16, rfl, s16⟩ := rel_sl r16
 dsimp only at *
 refine pcz_seal rfl rfl ?_
 refine runZ mixed fi27 ?_ <;> try with_reducible exact True.intro
 refine callZ (ncopy_z e1 r1 (by omega)) ?_
 refine goE mixed ?_
 refine callZ (copies_prin_z e2 _ s2 (by omega) ho.2.1.2 (fun x hx vs hvs => ncopy_z x hvs (by have := h2' x hx; omega))) ?_
 refine goE mixed ?_
 refine callZ (copies_set_z e5 _ s5 (by omega) ho.2.2.2.2.1.2 (fun x hx vs hvs => copySet_z x hvs (ho.2.2.2.2.1.2 x hx) (by have := (h5' x hx).1; omega) (fun k hk => by have := (h5' x hx).2 k hk; omega))) ?_
 refine goE mixed ?_
 refine callZ (copies_prin_z e14 _ s14 (by omega) ho.2.2.2.2.2.2.2.2.2.2.2.2.2.1.2 (fun x hx vs hvs => ncopy_z x hvs (by have := h14' x hx; omega))) ?_
 refine goE mixed ?_
 refine callZ (copies_prin_z e15 _ s15 (by omega) ho.2.2.2.2.2.2.2.2.2.2.2.2.2.2.1.2 (fun x hx vs hvs => ncopy_z x hvs (by have := h15' x hx; omega))) ?_
 refine goE mixed ?_
 refine callZ (copies_bytes_z e16 _ s16 (by omega) (fun x hx v hv => cbytes_z x hv (by have := h16' x hx; omega))) ?_
 refine goE mixed ?_; trivial
end Go.Proofs.YtddmkgibghohkaaGreatDoor
