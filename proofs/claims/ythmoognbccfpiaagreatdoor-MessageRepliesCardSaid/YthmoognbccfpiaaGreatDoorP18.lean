/- A part of the proof: a symbolic executor over abstract values, and its soundness. -/
import Derived.Test.YthmoognbccfpiaaGreatDoorP17
import Derived.Test.YthmoognbccfpiaaGreatDoorP16
import Derived.Test.YthmoognbccfpiaaGreatDoorP15
set_option linter.unusedSimpArgs false
set_option linter.unusedVariables false
set_option linter.unusedSectionVars false
set_option linter.unusedSectionVars false
set_option maxHeartbeats 4000000
namespace Go.Sx
open Go

variable {P : Program} {AQ : Ex → List SV → List SObj → Prop} {k0 : Nat} {k : List It} {t : List SV} {H : List SObj}
variable {g : FG} {Ds : List Nat}

end Go.Sx
set_option linter.unusedSectionVars false
namespace Go.Sx
open Go

variable {P : Program} {AQ : Ex → List SV → List SObj → Prop} {k0 : Nat} {k : List IT} {t : List SV} {H : List SObj}
variable {g : FG} {Ds : List Nat}

theorem size_nil0 : (#[] : Array Value).size = 0 := rfl
attribute [go_sem] size_nil0
theorem callI_rowK [Ghost] {f : FuncId} {args : List SV} {ty : Ty} {xs : List ty.den} {d : Option Tmp} {td : List IT} (hp : VC P f args [] (RowK ty xs)) (hb : SV.belL 0 args = true) (hargs : args = SV.renL (sig [] H.length) args)
 (h0 : xs = [] → SoundI P AQ ⟨k0, td, putT t d (.raw (.slice none 0 0)), H⟩) (h : SoundI P AQ ⟨k0, td, putT t d (.bld H.length ty xs.length), H ++ [.row ty xs]⟩) : CallI P AQ f args d ⟨k0, td, t, H⟩ := by
 refine ⟨hp.1, VCall.g ?_⟩
 rw [hargs]
 refine VCall.fr (H0 := []) [] (by simp) trivial hb rfl hp.2 ?_
 rintro o H' _ (⟨e, rfl, rfl⟩ | ⟨rfl, rfl⟩)
 · simp only [mgA, List.map_nil, List.append_nil]; exact h0 e
 · exact h
theorem si_frzc [Ghost] (d h : Nat) {T : TypeId} {ty : Ty} {x : ty.den} {td : List IT} (hp : plainT td = true) (hok : ty.ok x) (hH : H[h]? = some (.cells T (ty.cells x))) (hd : t[d]? = some (.ptr h 0)) (hs : SoundI P AQ ⟨k0, td, t.set d (.iptr ty x 0), H.set h .dead⟩) :
 SoundI P AQ ⟨k0, td, t, H⟩ := soundI_plain (fun td' hr E r n C a h0 hden => by
 have h1 := soundI_get hs hr
 obtain ⟨b, vs, hb, hcell, hvs⟩ := hden.wd.obj h _ hH
 have hown : OwnB C H b := ⟨h, _, hH, rfl, hb⟩
 obtain ⟨hnI, hlt⟩ := hden.wd.own b hown
 have hoff : ∀ b', OwnB C (H.set h .dead) b' → OwnB C H b' ∧ b' ≠ b := by
  rintro b' ⟨i, o, ho, hl, hb'⟩
  by_cases e : h = i
  · subst e
    rw [List.getElem?_set_self (List.getElem?_eq_some_iff.1 hH).1] at ho
    cases ho; simp [SObj.live] at hl
  · rw [List.getElem?_set_ne e] at ho
    refine ⟨⟨i, o, ho, hl, hb'⟩, fun e' => ?_⟩
    subst e'
    exact e (hden.wd.inj h i _ o b' hH ho rfl hl hb hb')
 let C' : Cx := { C with I := fun b' => C.I b' ∨ b' = b }
 have he : Evo C C' := ⟨Nat.le_refl _, fun _ _ => rfl, fun b' hb' => ⟨.inl hb', rfl⟩, fun _ _ hm => hm⟩
 have hw : Wd C' (H.set h .dead) := by
  refine ⟨by simp [C', hden.wd.n], fun i o ho => ?_, fun b' hb' => ?_, fun i i' o o' b' h1 h2 h3 h4 h5 h6 => ?_, fun b' hb' => ?_⟩
  · by_cases e : h = i
    · subst e
      rw [List.getElem?_set_self (List.getElem?_eq_some_iff.1 hH).1] at ho
      cases ho; trivial
    · rw [List.getElem?_set_ne e] at ho
      exact objDen_evo he.I i rfl (fun _ _ => rfl) (denL_evo he) (hden.wd.obj i o ho)
  · obtain ⟨g1, g2⟩ := hoff b' hb'
    have := hden.wd.own b' g1
    exact ⟨fun hi => hi.elim this.1 g2, this.2⟩
  · have key : ∀ {i : Nat} {o : SObj}, (H.set h .dead)[i]? = some o → o.live = true → H[i]? = some o := fun {i o} ho hl => by
     by_cases e : h = i
     · subst e
       rw [List.getElem?_set_self (List.getElem?_eq_some_iff.1 hH).1] at ho
       cases ho; simp [SObj.live] at hl
     · rwa [List.getElem?_set_ne e] at ho
    exact hden.wd.inj i i' o o' b' (key h1 h3) (key h2 h4) h3 h4 h5 h6
  · exact hb'.elim (hden.wd.imm b') fun e => e ▸ hlt
 have hmk : ∀ n, H[0]? = some (.mark n) → (H.set h .dead)[0]? = some (.mark n) := fun n hn => keep_set hH rfl hn
 have hx : Ext E.toEn C' (H.set h .dead) := by
  refine ⟨hden.ext.evo.trans he, hden.ext.size, hden.ext.os, hden.ext.tape, hden.ext.output, hden.ext.frame, fun b' hb' => ?_, fun b' hb' => hden.ext.ownNew b' (hoff b' hb').1, fun n h0 hn => hmk n (hden.ext.keep0 n h0 hn)⟩
  rcases hb' with hb' | rfl
  · exact hden.ext.immNew b' hb'
  · exact .inr ⟨hden.ext.ownNew b' hown, own_unf (C := C) hden.wd hown⟩
 have hg : Ghost.inv E C' (H.set h .dead) := Ghost.same (C := C) (C' := C') hden.wd rfl (fun b' hb' => .inl hb') (fun b' (hb' : C.I b' ∨ b' = b) => hb'.elim .inl fun e => .inr (by subst e; exact hown)) (fun b' hb' => (hoff b' hb').1) (fun n _ hn => hmk n hn) hden.ext.evo.n hden.defs.2
 refine h1 E r n C' a h0 ⟨hw, hx, ⟨hden.defs.1, hg⟩, ?_⟩
 have ht := denL_evo he hden.tmps
 obtain ⟨v, hv, hdv⟩ := denL_get ht hd
 rw [SV.den] at hdv
 obtain ⟨_, b', hb', rfl⟩ := hdv
 have e : b' = b := by have : C.ρ h = some b' := hb'; rw [hb] at this; exact (Option.some.inj this).symm
 subst e
 have hi : (SV.iptr ty x 0).den C' (.pointer (some ⟨b', 0, none⟩)) := by
  rw [SV.den]
  exact ⟨b', 0, vs, rfl, .inr rfl, ty.cells_rel _ _ hok (denL_evo he hvs), fun j u hj => by rw [Nat.zero_add]; show C.w.cell? _ = _; rw [cell_of_cells hcell]; exact hj⟩
 have h9 := denL_set (i := d) ht hi
 have e9 : a.tmps.toList.set d (.pointer (some ⟨b', 0, none⟩)) = a.tmps.toList := by
  apply List.ext_getElem?
  intro j
  by_cases ej : d = j
  · subst ej; rw [List.getElem?_set_self (List.getElem?_eq_some_iff.1 hv).1, hv]
  · rw [List.getElem?_set_ne ej]
 rwa [e9] at h9) hp

end Go.Sx
set_option linter.unusedSectionVars false
namespace Go.Sx
open Go

variable [Ghost] {P : Program} {AQ : Ex → List SV → List SObj → Prop} {k0 : Nat} {k : List IT} {k' : List It} {t : List SV} {H : List SObj}
variable {all : Array Oper} {G : List Nat} {o : Oper} {ev : Operand → SV} {K : Out → List SObj → Prop}

end Go.Sx
namespace Go.Sx
open Go

variable {P : Program} {AQ : Ex → List SV → List SObj → Prop} {k0 : Nat} {td : List IT} {t : List SV} {H : List SObj}

end Go.Sx
set_option linter.unusedSectionVars false
namespace Go.Sx
open Go

variable {P : Program} {AQ : Ex → List SV → List SObj → Prop} {k0 : Nat} {k : List IT} {t : List SV} {H : List SObj}

theorem callI_inl {f : FuncId} {fi : FI} {args : List SV} {d : Option Tmp} (h : finfo P f = some fi)
 (hs : @SoundI noGhost P (retF P fi.results (@opK noGhost P AQ k0 k t d)) ⟨H.length, [.ic fi.code], args ++ List.replicate (fi.ntmps - args.length) .any, H⟩) : @CallI noGhost P AQ f args d ⟨k0, k, t, H⟩ := (vc_fi h hs).g
end Go.Sx
/- Contracts: messages: the data, what is valid. -/
namespace Go.Proofs.YthmoognbccfpiaaGreatDoor
open Go Go.Sx Go.Proofs
set_option maxRecDepth 100000
set_option maxHeartbeats 4000000
set_option linter.unusedSimpArgs false

abbrev PreT : Ty := .prod I64 (.slice .u8)
abbrev TickT : Ty := .prod PrinT KeyT
abbrev ReqT : Ty := .prod I64 (.prod (.slice PreT) (.prod (.int .u32) (.prod PrinT (.prod PrinT (.prod I64 (.prod I64 (.prod I64 (.prod I64 (.prod (.slice I64) (.prod (.slice PreT) (.slice TickT)))))))))))
abbrev FailT : Ty := .prod I64 (.prod I64 (.prod I64 (.prod PrinT (.prod PrinT (.prod .str (.slice PreT))))))
abbrev Pre := PreT.den
abbrev Tick := TickT.den
abbrev Req := ReqT.den
abbrev Fail := FailT.den
def mIn (lo hi v : Int) : Bool := decide (lo ≤ v) && decide (v ≤ hi)
theorem mbtw_c (v lo hi : Int) : PC Tryz.prog 62 [rI v, rI lo, rI hi] (rB (mIn lo hi v)) := by
 refine pc_of rfl rfl ?_
 refine runE mixed fi62 ?_
 grind [mIn]
def vTime (t : Int) : Bool := mIn 0 1099511627776 t
theorem mtime_c (v : Int) : PC Tryz.prog 121 [rI v] (rB (vTime v)) := by
 refine pc_of rfl rfl ?_
 refine runE mixed fi121 ?_
 refine callI_pure (mbtw_c _ _ _) ?_
 refine goE mixed ?_
 rfl
def noN (p : Prin) : Bool := decide (p.1.length = 0) && decide (p.2 = ⟨#[]⟩)
theorem noName_c (p : Prin) : PC Tryz.prog 119 [.agg (PrinT.cells p)] (rB (noN p)) := by
 refine pc_of rfl rfl ?_
 refine runE mixed fi119 ?_
 grind [noN]
def partN (k : Int) : Int := if k = 12 then 26 else if k = 10 then 25 else 0
def partU (k : Int) : Int := if k = 12 then 8 else if k = 10 then 3 else 0
def vKind (k : Int) : Bool := decide (k = 12) || decide (k = 10)
theorem partOf_c (k : Int) : PC Tryz.prog 134 [rI k] (.tup [rI (partN k), rI (partU k), rB (vKind k)]) := by
 refine pc_of rfl rfl ?_
 refine runE mixed fi134 ?_
 grind [partN, partU, vKind]
theorem vkind_c (k : Int) : PC Tryz.prog 71 [rI k] (rB (vKind k)) := by
 refine pc_of rfl rfl ?_
 refine runE mixed fi71 ?_
 refine callI_pure (partOf_c k) ?_
 refine goE mixed ?_; trivial
def vPre1 (p : Pre) : Bool := mIn 0 2147483647 p.1 && decide ((p.2.length : Int) ≤ 16384)
def preAt (l : List Pre) (j : Nat) : Bool := vPre1 (l.getD j PreT.dflt)
def vPre (l : List Pre) : Bool := decide ((l.length : Int) ≤ 16) && allN l.length (preAt l)
theorem vpre_c (l : List Pre) : PC Tryz.prog 72 [.isl PreT l] (rB (vPre l)) := by
 refine pc_of rfl rfl ?_
 refine runE mixed fi72 ?_
 refine ⟨fun h => ?_, fun h => ?_⟩
 · unfold vPre; rw [decide_eq_false (by omega)]; rfl
 have h16 : decide ((l.length : Int) ≤ 16) = true := decide_eq_true (by omega)
 refine si_cntD (fun i => [(10, .raw (.int .i64 ((i : Nat) : Int)))]) (l.length) (fun j => (preAt l) j = true) (by first | decide | simp) (fun i => rfl) ?_ fun i hi hall => ?_
 · (with_reducible refine sxE ?_ <;> try exact True.intro)
   all_goals (try rfl)
 have hwr : IntKind.i64.wrap ((i : Int) + 1) = ((i + 1 : Nat) : Int) := wrap_succ (by omega)
 refine goE mixed ?_
 have bad : i < (l.length) → (preAt l) i = false → allN (l.length) (preAt l) = false := fun hlt hv => allN_false hlt hv
 have fin : ¬ i < (l.length) → allN (l.length) (preAt l) = true := fun h => allN_true fun j hj => hall j (by omega)
 try dsimp only at bad fin hall
 refine ⟨fun hlt => ⟨⟨by omega, hlt⟩, callI_pure (mbtw_c _ _ _) ?_⟩, fun hge => ?_⟩
 · have hd : preAt l i = (mIn 0 2147483647 (l.getD i PreT.dflt).1 && decide (((l.getD i PreT.dflt).2.length : Int) ≤ 16384)) := rfl
   refine goE mixed ?_
   refine ⟨fun h1 => ⟨fun h2 => ?_, fun h2 => ⟨hlt, next_all hall (by rw [hd, h1, decide_eq_true (by omega)]; rfl), ⟨[_], rfl⟩, ?_⟩⟩, fun h1 => ?_⟩
   · unfold vPre; rw [bad hlt (by rw [hd, decide_eq_false (by omega), Bool.and_false]), Bool.and_false]
   · with_reducible refine sx1 hwr ?_; trivial
   · unfold vPre; rw [bad hlt (by rw [hd, h1]; rfl), Bool.and_false]
 · unfold vPre; rw [h16, fin hge]; rfl
def andU (a f : Int) : Int := IntKind.u32.wrap ((BitVec.ofInt 32 a &&& BitVec.ofInt 32 f).toNat : Nat)
theorem has_c (a f : Int) : PC Tryz.prog 174 [.raw (.int .u32 a), .raw (.int .u32 f)] (rB (decide (andU a f = f))) := by
 refine pc_of rfl rfl ?_
 refine runE mixed fi174 ?_
 rfl
def vOpt (f : Int) : Bool := decide (andU 2031807 f = f)
theorem opts_c (f : Int) : PC Tryz.prog 120 [.raw (.int .u32 f)] (rB (vOpt f)) := by
 refine pc_of rfl rfl ?_
 refine runE mixed fi120 ?_
 refine callI_pure (has_c _ _) ?_
 refine goE mixed ?_
 rfl
def keysI (l : List Int) : Nat → List Value
 | 0 => []
 | i + 1 => match findI (.int .i64 (l.getD i (Ty.dflt I64))) (keysI l i) with
  | some _ => keysI l i
  | none => keysI l i ++ [.int .i64 (l.getD i (Ty.dflt I64))]
theorem keysI_none {l : List Int} {i : Nat} (h : findI (.int .i64 (l.getD i (Ty.dflt I64))) (keysI l i) = none) : keysI l (i + 1) = keysI l i ++ [.int .i64 (l.getD i (Ty.dflt I64))] := by rw [keysI, h]
theorem keysI_some {l : List Int} {i j : Nat} (h : findI (.int .i64 (l.getD i (Ty.dflt I64))) (keysI l i) = some j) : keysI l (i + 1) = keysI l i := by rw [keysI, h]
def AllI (vs : List Value) : Prop := ∀ v ∈ vs, ∃ c, v = .int .i64 c
def prfAt (l : List Int) (j : Nat) : Bool := mIn 0 2147483647 (l.getD j (Ty.dflt I64))
def vProf (l : List Int) : Bool := decide (1 ≤ (l.length : Int)) && (decide ((l.length : Int) ≤ 16) && (allN l.length (prfAt l) && decide (((keysI l l.length).length : Int) = l.length)))
theorem vprof_c (l : List Int) : PC Tryz.prog 122 [.isl I64 l] (rB (vProf l)) := by
 refine pc_of rfl rfl ?_
 refine runE mixed fi122 ?_
 refine ⟨fun h1 => ⟨fun h2 => ?_, fun h2 => ?_⟩, fun h1 => ?_⟩
 · unfold vProf; rw [decide_eq_false (show ¬ (l.length : Int) ≤ 16 by omega)]; simp
 rotate_left
 · unfold vProf; rw [decide_eq_false (by omega)]; rfl
 have hv : vProf l = (allN l.length (prfAt l) && decide (((keysI l l.length).length : Int) = l.length)) := by
  unfold vProf; rw [decide_eq_true (show 1 ≤ (l.length : Int) by omega), decide_eq_true (show (l.length : Int) ≤ 16 by omega)]; rfl
 rw [hv]
 clear hv
 refine si_loopX (ι := Nat × List Value × List SObj) (fun x => [(17, rI x.1)]) (fun x => .map (some .i64) (keysI l x.1) x.2.1 :: x.2.2) (fun x => l.length - x.1) (fun x => x.1 ≤ l.length ∧ x.2.1.length = (keysI l x.1).length ∧ AllI x.2.1 ∧ ∀ j, j < x.1 → prfAt l j = true) (0, [], []) ⟨Nat.zero_le _, rfl, by simp [AllI], fun j hj => absurd hj (Nat.not_lt_zero j)⟩ rfl ?_ ?_
 · with_reducible refine sxE ?_; trivial
 rintro ⟨i, vs, G⟩ ⟨hi, hvl, hint, hall⟩
 dsimp only at hi hvl hint hall
 refine goaE mixed ?_
 refine ⟨fun hlt => ⟨⟨by omega, hlt⟩, callI_pure (mbtw_c _ _ _) ?_⟩, fun hge => ?_⟩
 · have hp : prfAt l i = mIn 0 2147483647 (l.getD i (Ty.dflt I64)) := rfl
   cases hf : findI (.int .i64 (l.getD i (Ty.dflt I64))) (keysI l i) with
   | none =>
    refine run_sound mixed 600 _ ?_
    simp (maxSteps := 3000000) only [hf, List.append_assoc, getA, getA0, setA, setA0, List.length_append, Nat.add_assoc, go_sem, ↓zA, ↓reduceIte, ↓reduceDIte, reduceCtorEq, Nat.reduceAdd, Nat.reduceSub, Nat.reduceLeDiff, Nat.reduceLT, Nat.reduceEqDiff, Nat.reduceBEq, Nat.reduceMul, Int.reduceToNat, Int.reduceEq, Int.reduceLT, Int.reduceLE] <;> try simp only [zB]
    refine ⟨fun hb => ?_, fun hb => ⟨(i + 1, vs ++ [.int .i64 (IntKind.i64.wrap (0 + 1))], G), ⟨hlt, by rw [keysI_none hf, List.length_append, List.length_append, hvl]; simp, ?_, next_all hall (hp.trans hb)⟩, by dsimp only; omega, by dsimp only; rw [keysI_none hf], ?_⟩⟩
    · rw [allN_false hlt (hp.trans hb)]; rfl
    · intro v hv
      rcases List.mem_append.1 hv with h | h
      · exact hint v h
      · exact ⟨_, List.mem_singleton.1 h⟩
    · with_reducible refine sxE ?_
      rw [wrap_succ (by omega)]
   | some j =>
    obtain ⟨hj, _⟩ := findI_lt hf
    obtain ⟨c, hc⟩ := hint _ (getD_mem (d := undef) (show j < vs.length by omega))
    refine run_sound mixed 600 _ ?_
    simp (maxSteps := 3000000) only [hf, hc, List.append_assoc, getA, getA0, setA, setA0, List.length_append, Nat.add_assoc, go_sem, ↓zA, ↓reduceIte, ↓reduceDIte, reduceCtorEq, Nat.reduceAdd, Nat.reduceSub, Nat.reduceLeDiff, Nat.reduceLT, Nat.reduceEqDiff, Nat.reduceBEq, Nat.reduceMul, Int.reduceToNat, Int.reduceEq, Int.reduceLT, Int.reduceLE] <;> try simp only [zB]
    refine ⟨fun hb => ?_, fun hb => ⟨(i + 1, vs.set j (.int .i64 (IntKind.i64.wrap (c + 1))), G), ⟨hlt, by rw [keysI_some hf, List.length_set, hvl], ?_, next_all hall (hp.trans hb)⟩, by dsimp only; omega, by dsimp only; rw [keysI_some hf], ?_⟩⟩
    · rw [allN_false hlt (hp.trans hb)]; rfl
    · intro v hv
      rcases List.mem_or_eq_of_mem_set hv with h | h
      · exact hint v h
      · exact ⟨_, h⟩
    · with_reducible refine sxE ?_
      rw [wrap_succ (by omega)]
 · obtain rfl : i = l.length := by omega
   rw [allN_true hall]; rfl
def sReq (r : Req) (va vt : Bool) : Bool := vKind r.1 && (vPre r.2.1 && (vOpt r.2.2.1 && ((if r.1 = 10 then vPrin r.2.2.2.1 else noN r.2.2.2.1) && (vPrin r.2.2.2.2.1 && (vTime r.2.2.2.2.2.1 && (vTime r.2.2.2.2.2.2.1 && (vTime r.2.2.2.2.2.2.2.1 && (mIn 0 4294967295 r.2.2.2.2.2.2.2.2.1 && (vProf r.2.2.2.2.2.2.2.2.2.1 && (va && vt))))))))))
theorem sreq_c (r : Req) (va vt : Bool) (ho : ReqT.ok r) (ha : PC Tryz.prog 123 [.isl PreT r.2.2.2.2.2.2.2.2.2.2.1] (rB va)) (ht : PC Tryz.prog 124 [.isl TickT r.2.2.2.2.2.2.2.2.2.2.2] (rB vt)) :
 PC Tryz.prog 58 [.agg (ReqT.cells r)] (rB (sReq r va vt)) := by
 obtain ⟨k, pre, opt, cl, sv, fr, ti, re, no, pf, ad, tk⟩ := r
 obtain ⟨_, o2, _, o4, o5, _⟩ := ho
 dsimp only at ha ht o4 o5
 have hs : sReq (k, pre, opt, cl, sv, fr, ti, re, no, pf, ad, tk) va vt = (vKind k && (vPre pre && (vOpt opt && ((if k = 10 then vPrin cl else noN cl) && (vPrin sv && (vTime fr && (vTime ti && (vTime re && (mIn 0 4294967295 no && (vProf pf && (va && vt)))))))))))  := rfl
 rw [hs]
 clear hs
 refine pc_of rfl rfl ?_
 refine runE mixed fi58 ?_
 refine callI_pure (noName_c cl) ?_
 refine goE mixed ?_
 refine ⟨fun h => callI_pure (nvalid_c cl o4) ?_, fun h => ?_⟩
 · rw [if_pos h]
   clear h
   refine goE mixed ?_
   refine callI_pure (vkind_c k) ?_
   refine goE mixed ?_
   refine ⟨fun h1 => ?_, fun h1 => ?_⟩
   rotate_left
   · first | (simp only [Bool.true_and, h1, Bool.false_and, Bool.and_false]; done) | simp [Bool.true_and, h1]
   refine callI_pure (vpre_c pre) ?_
   refine goE mixed ?_
   refine ⟨fun h2 => ?_, fun h2 => ?_⟩
   rotate_left
   · first | (simp only [Bool.true_and, h2, Bool.false_and, Bool.and_false]; done) | simp [Bool.true_and, h2]
   refine callI_pure (opts_c opt) ?_
   refine goE mixed ?_
   refine ⟨fun h3 => ?_, fun h3 => ?_⟩
   rotate_left
   · first | (simp only [Bool.true_and, h3, Bool.false_and, Bool.and_false]; done) | simp [Bool.true_and, h3]
   refine ⟨fun hp => ?_, fun hp => by simp [hp]⟩
   refine callI_pure (nvalid_c sv o5) ?_
   refine goE mixed ?_
   refine ⟨fun h4 => ?_, fun h4 => ?_⟩
   rotate_left
   · first | (simp only [Bool.true_and, h4, Bool.false_and, Bool.and_false]; done) | simp [Bool.true_and, h4]
   refine callI_pure (mtime_c _) ?_
   refine goE mixed ?_
   refine ⟨fun h5 => ?_, fun h5 => ?_⟩
   rotate_left
   · first | (simp only [Bool.true_and, h5, Bool.false_and, Bool.and_false]; done) | simp [Bool.true_and, h5]
   refine callI_pure (mtime_c _) ?_
   refine goE mixed ?_
   refine ⟨fun h6 => ?_, fun h6 => ?_⟩
   rotate_left
   · first | (simp only [Bool.true_and, h6, Bool.false_and, Bool.and_false]; done) | simp [Bool.true_and, h6]
   refine callI_pure (mtime_c _) ?_
   refine goE mixed ?_
   refine ⟨fun h7 => ?_, fun h7 => ?_⟩
   rotate_left
   · first | (simp only [Bool.true_and, h7, Bool.false_and, Bool.and_false]; done) | simp [Bool.true_and, h7]
   refine callI_pure (mbtw_c _ _ _) ?_
   refine goE mixed ?_
   refine ⟨fun h8 => ?_, fun h8 => ?_⟩
   rotate_left
   · first | (simp only [Bool.true_and, h8, Bool.false_and, Bool.and_false]; done) | simp [Bool.true_and, h8]
   refine callI_pure (vprof_c pf) ?_
   refine goE mixed ?_
   refine ⟨fun h9 => ?_, fun h9 => ?_⟩
   rotate_left
   · first | (simp only [Bool.true_and, h9, Bool.false_and, Bool.and_false]; done) | simp [Bool.true_and, h9]
   refine callI_pure (ha) ?_
   refine goE mixed ?_
   refine ⟨fun h10 => ?_, fun h10 => ?_⟩
   rotate_left
   · first | (simp only [Bool.true_and, h10, Bool.false_and, Bool.and_false]; done) | simp [Bool.true_and, h10]
   refine callI_pure (ht) ?_
   refine goE mixed ?_
   simp [*]
 · rw [if_neg h]
   clear h
   refine callI_pure (vkind_c k) ?_
   refine goE mixed ?_
   refine ⟨fun h11 => ?_, fun h11 => ?_⟩
   rotate_left
   · first | (simp only [Bool.true_and, h11, Bool.false_and, Bool.and_false]; done) | simp [Bool.true_and, h11]
   refine callI_pure (vpre_c pre) ?_
   refine goE mixed ?_
   refine ⟨fun h12 => ?_, fun h12 => ?_⟩
   rotate_left
   · first | (simp only [Bool.true_and, h12, Bool.false_and, Bool.and_false]; done) | simp [Bool.true_and, h12]
   refine callI_pure (opts_c opt) ?_
   refine goE mixed ?_
   refine ⟨fun h13 => ?_, fun h13 => ?_⟩
   rotate_left
   · first | (simp only [Bool.true_and, h13, Bool.false_and, Bool.and_false]; done) | simp [Bool.true_and, h13]
   refine ⟨fun hp => ?_, fun hp => by simp [hp]⟩
   refine callI_pure (nvalid_c sv o5) ?_
   refine goE mixed ?_
   refine ⟨fun h14 => ?_, fun h14 => ?_⟩
   rotate_left
   · first | (simp only [Bool.true_and, h14, Bool.false_and, Bool.and_false]; done) | simp [Bool.true_and, h14]
   refine callI_pure (mtime_c _) ?_
   refine goE mixed ?_
   refine ⟨fun h15 => ?_, fun h15 => ?_⟩
   rotate_left
   · first | (simp only [Bool.true_and, h15, Bool.false_and, Bool.and_false]; done) | simp [Bool.true_and, h15]
   refine callI_pure (mtime_c _) ?_
   refine goE mixed ?_
   refine ⟨fun h16 => ?_, fun h16 => ?_⟩
   rotate_left
   · first | (simp only [Bool.true_and, h16, Bool.false_and, Bool.and_false]; done) | simp [Bool.true_and, h16]
   refine callI_pure (mtime_c _) ?_
   refine goE mixed ?_
   refine ⟨fun h17 => ?_, fun h17 => ?_⟩
   rotate_left
   · first | (simp only [Bool.true_and, h17, Bool.false_and, Bool.and_false]; done) | simp [Bool.true_and, h17]
   refine callI_pure (mbtw_c _ _ _) ?_
   refine goE mixed ?_
   refine ⟨fun h18 => ?_, fun h18 => ?_⟩
   rotate_left
   · first | (simp only [Bool.true_and, h18, Bool.false_and, Bool.and_false]; done) | simp [Bool.true_and, h18]
   refine callI_pure (vprof_c pf) ?_
   refine goE mixed ?_
   refine ⟨fun h19 => ?_, fun h19 => ?_⟩
   rotate_left
   · first | (simp only [Bool.true_and, h19, Bool.false_and, Bool.and_false]; done) | simp [Bool.true_and, h19]
   refine callI_pure (ha) ?_
   refine goE mixed ?_
   refine ⟨fun h20 => ?_, fun h20 => ?_⟩
   rotate_left
   · first | (simp only [Bool.true_and, h20, Bool.false_and, Bool.and_false]; done) | simp [Bool.true_and, h20]
   refine callI_pure (ht) ?_
   refine goE mixed ?_
   simp [*]
def txtAt (s : ByteArray) (j : Nat) : Bool := decide (32 ≤ ((s.data.toList.getD j 0).toNat : Int)) && decide (((s.data.toList.getD j 0).toNat : Int) ≤ 126)
def sFail (f : Fail) : Bool := decide ((f.2.2.2.2.2.1.size : Int) ≤ 256) && (allN f.2.2.2.2.2.1.size (txtAt f.2.2.2.2.2.1) && (mIn 0 65535 f.1 && (vTime f.2.1 && (mIn 0 999999 f.2.2.1 && ((noN f.2.2.2.1 || vPrin f.2.2.2.1) && (vPrin f.2.2.2.2.1 && vPre f.2.2.2.2.2.2))))))
theorem sfail_c (f : Fail) (ho : FailT.ok f) : PC Tryz.prog 60 [.agg (FailT.cells f)] (rB (sFail f)) := by
 obtain ⟨c, t, m, cl, sv, x, d⟩ := f
 obtain ⟨_, _, _, o4, o5, o6, _⟩ := ho
 dsimp only at o4 o5 o6
 have hs : sFail (c, t, m, cl, sv, x, d) = (decide ((x.size : Int) ≤ 256) && (allN x.size (txtAt x) && (mIn 0 65535 c && (vTime t && (mIn 0 999999 m && ((noN cl || vPrin cl) && (vPrin sv && vPre d))))))) := rfl
 rw [hs]
 clear hs
 refine pc_of rfl rfl ?_
 refine runE mixed fi60 ?_
 refine ⟨fun h => ?_, fun h => ?_⟩
 · rw [decide_eq_false (by omega)]; rfl
 rw [decide_eq_true (show (x.size : Int) ≤ 256 by omega), Bool.true_and]
 refine si_cntD (fun i => [(11, .raw (.int .i64 ((i : Nat) : Int)))]) (x.size) (fun j => (txtAt x) j = true) (by first | decide | simp) (fun i => rfl) ?_ fun i hi hall => ?_
 · (with_reducible refine sxE ?_ <;> try exact True.intro)
   all_goals (try rfl)
 have hwr : IntKind.i64.wrap ((i : Int) + 1) = ((i + 1 : Nat) : Int) := wrap_succ (by omega)
 refine goE mixed ?_
 have bad : i < (x.size) → (txtAt x) i = false → allN (x.size) (txtAt x) = false := fun hlt hv => allN_false hlt hv
 have fin : ¬ i < (x.size) → allN (x.size) (txtAt x) = true := fun h => allN_true fun j hj => hall j (by omega)
 try dsimp only at bad fin hall
 have hd : txtAt x i = (decide (32 ≤ ((x.data.toList.getD i 0).toNat : Int)) && decide (((x.data.toList.getD i 0).toNat : Int) ≤ 126)) := rfl
 refine ⟨fun hlt => ⟨⟨by omega, hlt⟩, fun h1 => ⟨⟨by omega, hlt⟩, fun h2 => ?_, fun h2 => ?_⟩, fun h1 => ?_⟩, fun hge => ?_⟩
 · rw [bad hlt (by rw [hd, decide_eq_false (show ¬ ((x.data.toList.getD i 0).toNat : Int) ≤ 126 by omega), Bool.and_false])]; rfl
 · refine ⟨hlt, next_all hall (by rw [hd, decide_eq_true (by omega), decide_eq_true (by omega)]; rfl), ⟨[], rfl⟩, ?_⟩
   with_reducible refine sx1 hwr ?_; trivial
 · rw [bad hlt (by rw [hd, decide_eq_false (by omega)]; rfl)]; rfl
 rw [fin hge, Bool.true_and]
 clear hge fin bad hall hwr hd h
 refine callI_pure (mbtw_c _ _ _) ?_
 refine goE mixed ?_
 refine ⟨fun h21 => ?_, fun h21 => ?_⟩
 rotate_left
 · first | (simp only [Bool.true_and, h21, Bool.false_and, Bool.and_false]; done) | simp [Bool.true_and, h21]
 refine callI_pure (mtime_c _) ?_
 refine goE mixed ?_
 refine ⟨fun h22 => ?_, fun h22 => ?_⟩
 rotate_left
 · first | (simp only [Bool.true_and, h22, Bool.false_and, Bool.and_false]; done) | simp [Bool.true_and, h22]
 refine callI_pure (mbtw_c _ _ _) ?_
 refine goE mixed ?_
 refine ⟨fun h23 => ?_, fun h23 => ?_⟩
 rotate_left
 · first | (simp only [Bool.true_and, h23, Bool.false_and, Bool.and_false]; done) | simp [Bool.true_and, h23]
 refine callI_pure (noName_c cl) ?_
 refine goE mixed ?_
 refine ⟨fun h => callI_pure (nvalid_c cl o4) ?_, fun h => ?_⟩
 · rw [h, Bool.false_or]
   refine goE mixed ?_
   refine ⟨fun hp => ?_, fun hp => by simp [hp]⟩
   refine callI_pure (nvalid_c sv o5) ?_
   refine goE mixed ?_
   refine ⟨fun h24 => ?_, fun h24 => ?_⟩
   rotate_left
   · first | (simp only [Bool.true_and, h24, Bool.false_and, Bool.and_false]; done) | simp [Bool.true_and, h24]
   refine callI_pure (vpre_c d) ?_
   refine goE mixed ?_
   simp [*]
 · rw [h, Bool.true_or]
   refine callI_pure (nvalid_c sv o5) ?_
   refine goE mixed ?_
   refine ⟨fun h25 => ?_, fun h25 => ?_⟩
   rotate_left
   · first | (simp only [Bool.true_and, h25, Bool.false_and, Bool.and_false]; done) | simp [Bool.true_and, h25]
   refine callI_pure (vpre_c d) ?_
   refine goE mixed ?_
   simp [*]
end Go.Proofs.YthmoognbccfpiaaGreatDoor

/- Contracts: messages: the writers. -/
namespace Go.Proofs.YthmoognbccfpiaaGreatDoor
open Go Go.Sx Go.Proofs
set_option maxRecDepth 100000
set_option maxHeartbeats 4000000
set_option linter.unusedSimpArgs false

theorem dapp_c (n : Int) (b : List UInt8) : PC Tryz.prog 140 [rI n, .isl .u8 b] (.isl .u8 (wrapS 96 n b)) := by
 refine pc_seal rfl rfl ?_
 refine runE mixed fi140 ?_
 refine callI_pure (wrapped_c 96 n b (by omega)) ?_
 refine goE mixed ?_; trivial
theorem mapp_c (n : Int) (l : List (List UInt8)) (hl : l.length ≤ 1125899906842624) : PC Tryz.prog 76 [rI n, .isl (.slice .u8) l] (.isl .u8 (wrapS 96 n (elemS 48 l))) := by
 refine pc_seal rfl rfl ?_
 refine runE mixed fi76 ?_
 refine callI_pure (sequence_c l hl) ?_
 refine goE mixed ?_
 refine callI_pure (dapp_c n _) ?_
 refine goE mixed ?_; trivial
def optS (n : Int) (p : Bool) (w : List UInt8) : List UInt8 := if p then wrapS 160 n w else []
theorem optional_c (n : Int) (p : Bool) (g : Nat) (ca : List SV) (w : List UInt8) (hca : SV.cleanL ca = true) (hg : p = true → PC Tryz.prog g ca (.isl .u8 w)) : PC Tryz.prog 111 [rI n, rB p, .fn g [] ca] (.isl .u8 (optS n p w)) := by
 refine pc_seal (by simp [SV.cleanL, SV.clean, hca]) rfl ?_
 refine runE mixed fi111 ?_
 refine ⟨fun h => ?_, fun h => callI_pure (hg h) ?_⟩
 · rw [h]; rfl
 · refine goE mixed ?_
   refine callI_pure (tagged_c _ _) ?_
   refine goE mixed ?_
   rw [h]; rfl
theorem mprin_c (p : Prin) (hp : PrinT.ok p) : PC Tryz.prog 80 [.agg (PrinT.cells p)] (.isl .u8 (prinE p)) := by
 unfold prinE
 refine pc_seal rfl rfl ?_
 refine runE mixed fi80 ?_
 refine callI_pure (nencode_c p hp) ?_
 refine goE mixed ?_; trivial
theorem instant1_c (t : Int) : PC Tryz.prog 171 [.iptr I64 t 0] (.isl .u8 (timeS t)) := by
 refine pc_seal rfl rfl ?_
 refine runE mixed fi171 ?_
 refine callI_pure (time_c _) ?_
 refine goE mixed ?_; trivial
def instS (n t : Int) : List UInt8 := optS n (!decide (t = 0)) (timeS t)
theorem instant_c (n t : Int) : PC Tryz.prog 113 [rI n, rI t] (.isl .u8 (instS n t)) := by
 refine pc_seal rfl rfl ?_
 refine vc_fi fi113 (run_sound mixed 3 _ ?_)
 with_reducible refine sxE ?_
 refine si_frzc 3 0 (ty := I64) (x := t) rfl trivial rfl rfl ?_
 refine goE mixed ?_
 refine callI_pure (optional_c n _ _ _ _ rfl fun _ => instant1_c t) ?_
 refine goE mixed ?_
 rfl
def datS (d : Pre) : List UInt8 := fieldsS [intS d.1, elemS 4 [d.2]]
def dataS (l : List Pre) : List UInt8 := if l.length ≤ 16 then wholeS (mapN (t := PreT) datS l l.length) else []
theorem data_c (l : List Pre) : PC Tryz.prog 145 [.isl PreT l] (.isl .u8 (dataS l)) := by
 refine pc_seal rfl rfl ?_
 refine runE mixed fi145 ?_
 refine ⟨fun h => ?_, fun h => ?_⟩
 · unfold dataS; rw [if_neg (by omega)]
 have hl : l.length ≤ 16 := by omega
 refine si_accN 3 (.slice .u8) (mapN (t := PreT) datS l) (fun i => [(11, rI i)]) l.length (fun _ => True) rfl (by simp) (by simp [mapN]) rfl (fun i => rfl) ?_ fun i hi _ => ?_
 · with_reducible refine sxE ?_; trivial
 have hwr : IntKind.i64.wrap ((i : Int) + 1) = ((i + 1 : Nat) : Int) := wrap_succ (by omega)
 have hln := mapN_len (t := PreT) (w := datS) hi
 refine goE mixed ?_
 refine ⟨fun hlt => ⟨⟨by omega, hlt⟩, callR_pure (integer_c _) ?_⟩, fun hge => ?_⟩
 · refine goE mixed ?_
   refine callR_pure (octets_c _) ?_
   refine goE mixed ?_
   refine callR_hand 2 (by decide) ?_
   with_reducible refine sxE ?_
   refine callR_pure (fields_c _ (by simp)) ?_
   refine goE mixed ?_
   have hst := mapN_succ (t := PreT) (w := datS) hlt
   refine ⟨⟨by omega, by omega⟩, acc_next [_, _, _, _] [] hlt trivial (by rw [hst]; rfl) ?_⟩
   with_reducible refine sx3 hwr hst ?_; trivial
 · obtain rfl : i = l.length := by omega
   refine callI_hand 0 ?_
   with_reducible refine sxE ?_
   refine ⟨by omega, Nat.le_refl _, ?_⟩
   rw [List.take_of_length_le (Nat.le_refl _)]
   refine callI_pure (whole_c _ (by omega)) ?_
   refine goE mixed ?_
   unfold dataS; rw [if_pos hl]
theorem preAuth1_c (l : List Pre) (hl : l.length ≤ 1048576) : PC Tryz.prog 144 [.iptr (.slice PreT) l 0] (.isl .u8 (dataS l)) := by
 refine pc_seal rfl rfl ?_
 refine runE mixed fi144 ?_
 refine ⟨by omega, ?_⟩
 refine si_accB (H := []) 2 PreT (fun i => l.take i) (fun i => [(7, .any), (10, rI i)]) l.length (fun _ => True) rfl (by simp) rfl (fun i => rfl) ?_ fun i hi _ => ?_
 · with_reducible refine sxE ?_; trivial
 have hwr : IntKind.i64.wrap ((i : Int) + 1) = ((i + 1 : Nat) : Int) := wrap_succ (by omega)
 have hln : (l.take i).length = i := List.length_take_of_le hi
 refine run_sound mixed 600 _ ?_
 with_reducible refine sx1 hln ?_
 refine ⟨fun hlt => ⟨⟨by omega, hlt⟩, ?_⟩, fun hge => ?_⟩
 · have hst := take_succ_getD (d := PreT.dflt) hlt
   refine ⟨⟨by omega, by omega⟩, acc_next [_, _, _] [] hlt trivial (by rw [hst]; rfl) ?_⟩
   simp (maxSteps := 3000000) only [hwr, hst, List.length_append, hln, go_sem, ↓zA, ↓reduceIte, ↓reduceDIte, reduceCtorEq, Nat.reduceAdd, Nat.reduceSub, Nat.reduceLeDiff, Nat.reduceLT, Nat.reduceEqDiff, Nat.reduceBEq, Nat.reduceMul, Int.reduceToNat, Int.reduceEq, Int.reduceLT, Int.reduceLE] <;> try simp only [zB]
 · obtain rfl : i = l.length := by omega
   refine callI_hand 0 ?_
   with_reducible refine sx1 hln ?_
   simp only [List.take_length]
   refine ⟨by omega, Nat.le_refl _, ?_⟩
   refine callI_pure (data_c l) ?_
   refine goE mixed ?_; trivial
def preS (n : Int) (l : List Pre) : List UInt8 := optS n (decide (0 < (l.length : Int))) (dataS l)
theorem preAuth_c (n : Int) (l : List Pre) (ho : (Ty.slice PreT).ok l) (hl : l.length ≤ 1048576) : PC Tryz.prog 79 [rI n, .isl PreT l] (.isl .u8 (preS n l)) := by
 refine pc_seal rfl rfl ?_
 refine vc_fi fi79 (run_sound mixed 3 _ ?_)
 with_reducible refine sxE ?_
 refine si_frzc 3 0 (ty := .slice PreT) (x := l) rfl ho rfl rfl ?_
 refine goE mixed ?_
 refine callI_pure (optional_c n _ _ _ _ rfl fun _ => preAuth1_c l hl) ?_
 refine goE mixed ?_
 rfl
theorem listI_c (l : List Int) (g : Nat) (w : Int → List UInt8) (hl : l.length ≤ 1048576) (hone : ∀ x ∈ l, PC Tryz.prog g [rI x] (.isl .u8 (w x))) :
 PC Tryz.prog 115 [.isl I64 l, .fn g [] []] (.isl .u8 (elemS 48 (mapN (t := I64) w l l.length))) := by
 refine pc_seal rfl rfl ?_
 refine runE mixed fi115 ?_
 refine ⟨by omega, ?_⟩
 refine si_accB (H := []) 5 (.slice .u8) (mapN (t := I64) w l) (fun i => [(10, .any), (13, rI i)]) l.length (fun _ => True) (by simp [mapN]) (by simp) rfl (fun i => rfl) ?_ fun i hi _ => ?_
 · with_reducible refine sxE ?_
   rfl
 have hwr : IntKind.i64.wrap ((i : Int) + 1) = ((i + 1 : Nat) : Int) := wrap_succ (by omega)
 have hln := mapN_len (t := I64) (w := w) hi
 refine run_sound mixed 600 _ ?_
 with_reducible refine sx1 hln ?_
 refine ⟨fun hlt => ⟨⟨by omega, hlt⟩, callI_pure (hone _ (getD_mem (d := I64.dflt) hlt)) ?_⟩, fun hge => ?_⟩
 · refine run_sound mixed 600 _ ?_
   with_reducible refine sx1 hln ?_
   have hst := mapN_succ (t := I64) (w := w) hlt
   refine ⟨⟨by omega, by omega⟩, acc_next [_, _] [] hlt trivial (by rw [hst]; rfl) ?_⟩
   simp (maxSteps := 3000000) only [hwr, hst, List.length_append, hln, go_sem, ↓zA, ↓reduceIte, ↓reduceDIte, reduceCtorEq, Nat.reduceAdd, Nat.reduceSub, Nat.reduceLeDiff, Nat.reduceLT, Nat.reduceEqDiff, Nat.reduceBEq, Nat.reduceMul, Int.reduceToNat, Int.reduceEq, Int.reduceLT, Int.reduceLE] <;> try simp only [zB]
 · obtain rfl : i = l.length := by omega
   refine callI_hand 0 ?_
   with_reducible refine sx1 hln ?_
   refine ⟨by omega, Nat.le_refl _, ?_⟩
   rw [List.take_of_length_le (by omega)]
   refine callI_pure (sequence_c _ (by omega)) ?_
   refine goE mixed ?_; trivial
end Go.Proofs.YthmoognbccfpiaaGreatDoor

/- Contracts: the measure of an element. -/
namespace Go.Proofs.YthmoognbccfpiaaGreatDoor
open Go Go.Sx Go.Proofs
set_option maxRecDepth 100000
set_option maxHeartbeats 4000000
set_option linter.unusedSimpArgs false

def beN (l : List UInt8) : Nat := l.foldl (fun v c => v * 256 + c.toNat) 0
theorem beN_succ (l : List UInt8) (i : Nat) (h : i < l.length) : beN (l.take (i + 1)) = beN (l.take i) * 256 + (l.getD i 0).toNat := by
 unfold beN
 rw [List.take_add_one, List.foldl_append, List.getElem?_eq_getElem h, List.getD_eq_getElem?_getD, List.getElem?_eq_getElem h]
 rfl
theorem beN_lt : ∀ (l : List UInt8), beN l < 256 ^ l.length := by
 intro l
 have : ∀ (l : List UInt8) (v : Nat), l.foldl (fun v c => v * 256 + c.toNat) v < (v + 1) * 256 ^ l.length := by
  intro l
  induction l with
  | nil => intro v; simp
  | cons c l ih =>
   intro v
   have h1 := ih (v * 256 + c.toNat)
   have h2 : c.toNat < 256 := c.toNat_lt
   simp only [List.foldl_cons, List.length_cons, Nat.pow_succ]
   refine Nat.lt_of_lt_of_le h1 ?_
   have : (v * 256 + c.toNat + 1) * 256 ^ l.length ≤ ((v + 1) * 256) * 256 ^ l.length := Nat.mul_le_mul_right _ (by omega)
   calc _ ≤ _ := this
    _ = _ := by rw [Nat.mul_assoc, Nat.mul_comm 256]
 have h := this l 0
 simpa [beN] using h
theorem or_byte (v c : Nat) (hv : v < 36028797018963968) (hc : c < 256) : IntKind.i64.wrap ((BitVec.ofInt 64 ((v * 256 : Nat) : Int) ||| BitVec.ofInt 64 ((c : Nat) : Int)).toNat : Int) = ((v * 256 + c : Nat) : Int) := by
 have h1 : (BitVec.ofInt 64 ((v * 256 : Nat) : Int)).toNat = v * 256 := by rw [BitVec.ofInt_natCast, BitVec.toNat_ofNat]; exact Nat.mod_eq_of_lt (by omega)
 have h2 : (BitVec.ofInt 64 ((c : Nat) : Int)).toNat = c := by rw [BitVec.ofInt_natCast, BitVec.toNat_ofNat]; exact Nat.mod_eq_of_lt (by omega)
 have h3 : v * 256 ||| c = v * 256 + c := by
  have := Nat.shiftLeft_add_eq_or_of_lt (b := c) (i := 8) hc v
  rw [Nat.shiftLeft_eq] at this
  exact this.symm
 rw [BitVec.toNat_or, h1, h2, h3]
 exact wrapi (by omega)
theorem unsigned_c (b : List UInt8) (hb : b.length ≤ 7) : PC Tryz.prog 262 [.isl .u8 b] (rI (beN b)) := by
 refine pc_of rfl rfl ?_
 refine runE mixed fi262 ?_
 refine si_cntD (fun i => [(2, rI (beN (b.take i))), (7, .raw (.int .i64 ((i : Nat) : Int)))]) (b.length) (fun j => (fun _ => true) j = true) (by first | decide | simp) (fun i => rfl) ?_ fun i hi hall => ?_
 · (with_reducible refine sxE ?_ <;> try exact True.intro)
   all_goals (try rfl)
 have hwr : IntKind.i64.wrap ((i : Int) + 1) = ((i + 1 : Nat) : Int) := wrap_succ (by omega)
 refine goE mixed ?_
 have bad : i < (b.length) → (fun _ => true) i = false → allN (b.length) (fun _ => true) = false := fun hlt hv => allN_false hlt hv
 have fin : ¬ i < (b.length) → allN (b.length) (fun _ => true) = true := fun h => allN_true fun j hj => hall j (by omega)
 try dsimp only at bad fin hall
 refine ⟨fun hlt => ⟨⟨by omega, hlt⟩, ?_⟩, fun hge => ?_⟩
 · have hv := beN_lt (b.take i)
   have hv2 : 256 ^ (b.take i).length ≤ 256 ^ 6 := Nat.pow_le_pow_right (by decide) (by simp; omega)
   have hc : (b.getD i Ty.u8.dflt).toNat < 256 := UInt8.toNat_lt _
   have e1 : IntKind.i64.wrap ((beN (b.take i) : Int) * 2 ^ min 8 64) = ((beN (b.take i) * 256 : Nat) : Int) := by
    rw [show ((beN (b.take i) : Int) * 2 ^ min 8 64) = ((beN (b.take i) * 256 : Nat) : Int) by simp]
    exact wrapi (by omega)
   have e2 : IntKind.i64.wrap ((b.getD i Ty.u8.dflt).toNat : Int) = (((b.getD i Ty.u8.dflt).toNat : Nat) : Int) := wrapi (by omega)
   have e3 := or_byte (beN (b.take i)) (b.getD i Ty.u8.dflt).toNat (by omega) hc
   have e4 := beN_succ b i hlt
   rw [e1, e2]
   refine ⟨hlt, trivial, ⟨[], rfl⟩, ?_⟩
   with_reducible refine sx1 hwr ?_
   rw [e4]
   exact congrArg (Value.int .i64) e3
 · obtain rfl : i = b.length := by omega
   rw [List.take_length]
def minLen : Nat → Nat
 | 1 => 128 | 2 => 256 | 3 => 65536 | _ => 0
def measE (b : List UInt8) (at_ n : Nat) : Nat × Nat × Nat := if b.length - at_ < n then (0, 0, 4) else (at_, at_ + n, 0)
def meas (b : List UInt8) : Nat × Nat × Nat :=
 if b.length < 2 then (0, 0, 4) else
 if (b.getD 1 0).toNat < 128 then measE b 2 (b.getD 1 0).toNat else
 if (b.getD 1 0).toNat - 128 < 1 ∨ 3 < (b.getD 1 0).toNat - 128 then (0, 0, 6) else
 if b.length < 2 + ((b.getD 1 0).toNat - 128) then (0, 0, 4) else
 if beN ((b.drop 2).take ((b.getD 1 0).toNat - 128)) < minLen ((b.getD 1 0).toNat - 128) then (0, 0, 6) else
 measE b (2 + ((b.getD 1 0).toNat - 128)) (beN ((b.drop 2).take ((b.getD 1 0).toNat - 128)))
def measV (m : Nat × Nat × Nat) : SV := .tup [rI m.1, rI m.2.1, rI m.2.2]
theorem measure_c (b : List UInt8) (hb : b.length ≤ 1099511627776) : PC Tryz.prog 272 [.isl .u8 b] (measV (meas b)) := by
 refine pc_of rfl rfl ?_
 have hx : (b.getD 1 Ty.u8.dflt).toNat < 256 := UInt8.toNat_lt _
 have e0 : IntKind.i64.wrap ((b.getD 1 Ty.u8.dflt).toNat : Int) = (((b.getD 1 Ty.u8.dflt).toNat : Nat) : Int) := wrapi (by omega)
 have e1 : IntKind.i64.wrap (((b.getD 1 Ty.u8.dflt).toNat : Int) - 128) = ((b.getD 1 Ty.u8.dflt).toNat : Int) - 128 := wrapi (by omega)
 have e2 : IntKind.i64.wrap (2 + (((b.getD 1 Ty.u8.dflt).toNat : Int) - 128)) = 2 + (((b.getD 1 Ty.u8.dflt).toNat : Int) - 128) := wrapi (by omega)
 have e3 : IntKind.i64.wrap ((b.length : Int) - 2) = (b.length : Int) - 2 := wrapi (by omega)
 have e4 : IntKind.i64.wrap (2 + ((b.getD 1 Ty.u8.dflt).toNat : Int)) = 2 + ((b.getD 1 Ty.u8.dflt).toNat : Int) := wrapi (by omega)
 have hm : ∀ r, meas b = r → measV (meas b) = measV r := fun r h => by rw [h]
 unfold measV
 refine vc_fi fi272 (run_sound mixed 600 _ ?_)
 simp (maxSteps := 3000000) only [ir272, e0, e1, e2, e3, e4, go_sem, ↓zA, ↓reduceIte, ↓reduceDIte, reduceCtorEq, Nat.reduceAdd, Nat.reduceSub, Nat.reduceLeDiff, Nat.reduceLT, Nat.reduceEqDiff, Nat.reduceBEq, Nat.reduceMul, Int.reduceToNat, Int.reduceEq, Int.reduceLT, Int.reduceLE] <;> try simp only [zB]
 have hd : b.getD 1 0 = b.getD 1 Ty.u8.dflt := rfl
 generalize hxx : b.getD 1 Ty.u8.dflt = x at *
 refine ⟨fun h => ?_, fun h => ⟨by omega, fun h2 => ⟨fun h3 => ⟨fun h4 => ?_, fun h4 => ⟨fun h5 => ?_, fun h5 => ⟨⟨by omega, by omega, by omega⟩, ?_⟩⟩⟩, fun h3 => ?_⟩, fun h2 => ⟨fun h3 => ?_, fun h3 => ?_⟩⟩⟩
 · have : meas b = (0, 0, 4) := by unfold meas; rw [if_pos (by omega)]
   rw [this]; rfl
 · have : meas b = (0, 0, 6) := by unfold meas; rw [hd, if_neg (by omega), if_neg (by omega), if_pos (by omega)]
   rw [this]; rfl
 · have : meas b = (0, 0, 4) := by unfold meas; rw [hd, if_neg (by omega), if_neg (by omega), if_neg (by omega), if_pos (by omega)]
   rw [this]; rfl
 · obtain ⟨m, hxm⟩ : ∃ m : Nat, (x.toNat : Int) - 128 = (m : Int) := ⟨x.toNat - 128, by omega⟩
   have hm3 : 1 ≤ m ∧ m ≤ 3 := by omega
   have ht2 : ((2 : Int) + (m : Int)).toNat = 2 + m := by omega
   have hll : (List.drop 2 (List.take (2 + m) b)).length = m := by simp; omega
   rw [hxm, ht2, hll]
   generalize hL : List.drop 2 (List.take (2 + m) b) = L at *
   have hmq : ∀ v, beN L = v → meas b = (if v < minLen m then (0, 0, 6) else measE b (2 + m) v) := fun v hv => by
    have hLx : (b.drop 2).take m = L := by rw [← hL, List.drop_take]; congr 1; omega
    unfold meas
    rw [hd, show x.toNat - 128 = m by omega, if_neg (by omega), if_neg (by omega), if_neg (by omega), if_neg (by omega), hLx, hv]
   rcases (by omega : m = 1 ∨ m = 2 ∨ m = 3) with rfl | rfl | rfl
   · refine si_cntD (fun i => [(5, rI (beN (L.take i))), (39, .raw (.int .i64 ((i : Nat) : Int)))]) (1) (fun j => (fun _ => true) j = true) (by first | decide | simp) (fun i => rfl) ?_ fun i hi hall => ?_
     · (with_reducible refine sxE ?_ <;> try exact True.intro)
       all_goals (try rfl)
     have hwr : IntKind.i64.wrap ((i : Int) + 1) = ((i + 1 : Nat) : Int) := wrap_succ (by omega)
     refine goE mixed ?_
     have bad : i < (1) → (fun _ => true) i = false → allN (1) (fun _ => true) = false := fun hlt hv => allN_false hlt hv
     have fin : ¬ i < (1) → allN (1) (fun _ => true) = true := fun h => allN_true fun j hj => hall j (by omega)
     try dsimp only at bad fin hall
     refine ⟨fun hlt => ⟨⟨by omega, by omega⟩, ?_⟩, fun hge => ?_⟩
     · have hv := beN_lt (L.take i)
       have hv2 : 256 ^ (L.take i).length ≤ 256 ^ 6 := Nat.pow_le_pow_right (by decide) (by simp; omega)
       have hc : (L.getD i Ty.u8.dflt).toNat < 256 := UInt8.toNat_lt _
       have e1 : IntKind.i64.wrap ((beN (L.take i) : Int) * 2 ^ min 8 64) = ((beN (L.take i) * 256 : Nat) : Int) := by
        rw [show ((beN (L.take i) : Int) * 2 ^ min 8 64) = ((beN (L.take i) * 256 : Nat) : Int) by simp]
        exact wrapi (by omega)
       have e2 : IntKind.i64.wrap ((L.getD i Ty.u8.dflt).toNat : Int) = (((L.getD i Ty.u8.dflt).toNat : Nat) : Int) := wrapi (by omega)
       have e3 := or_byte (beN (L.take i)) (L.getD i Ty.u8.dflt).toNat (by omega) hc
       have e4 := beN_succ L i (by omega)
       rw [e1, e2]
       refine ⟨hlt, trivial, ⟨[], rfl⟩, ?_⟩
       with_reducible refine sx1 hwr ?_
       rw [e4]
       exact congrArg (Value.int .i64) e3
     · rw [List.take_of_length_le (by omega : L.length ≤ i)]
       have hv := beN_lt L
       rw [hll] at hv
       have hv3 : beN L < 16777216 := by omega
       have w1 : IntKind.i64.wrap ((b.length : Int) - (2 + ((1 : Nat) : Int))) = (b.length : Int) - (2 + ((1 : Nat) : Int)) := wrapi (by omega)
       have w2 : IntKind.i64.wrap (2 + ((1 : Nat) : Int) + (beN L : Int)) = ((2 + 1 + beN L : Nat) : Int) := by rw [wrapi (by omega)]; omega
       rw [w1, w2]
       refine ⟨by decide, fun q => ?_, fun q => ⟨fun q2 => ?_, fun q2 => ?_⟩⟩
       · rw [hmq _ rfl, if_pos (by simp only [minLen]; omega)]; rfl
       · rw [hmq _ rfl, if_neg (by simp only [minLen]; omega)]; unfold measE; rw [if_pos (by omega)]; rfl
       · rw [hmq _ rfl, if_neg (by simp only [minLen]; omega)]; unfold measE; rw [if_neg (by omega)]; rfl
   · refine si_cntD (fun i => [(5, rI (beN (L.take i))), (39, .raw (.int .i64 ((i : Nat) : Int)))]) (2) (fun j => (fun _ => true) j = true) (by first | decide | simp) (fun i => rfl) ?_ fun i hi hall => ?_
     · (with_reducible refine sxE ?_ <;> try exact True.intro)
       all_goals (try rfl)
     have hwr : IntKind.i64.wrap ((i : Int) + 1) = ((i + 1 : Nat) : Int) := wrap_succ (by omega)
     refine goE mixed ?_
     have bad : i < (2) → (fun _ => true) i = false → allN (2) (fun _ => true) = false := fun hlt hv => allN_false hlt hv
     have fin : ¬ i < (2) → allN (2) (fun _ => true) = true := fun h => allN_true fun j hj => hall j (by omega)
     try dsimp only at bad fin hall
     refine ⟨fun hlt => ⟨⟨by omega, by omega⟩, ?_⟩, fun hge => ?_⟩
     · have hv := beN_lt (L.take i)
       have hv2 : 256 ^ (L.take i).length ≤ 256 ^ 6 := Nat.pow_le_pow_right (by decide) (by simp; omega)
       have hc : (L.getD i Ty.u8.dflt).toNat < 256 := UInt8.toNat_lt _
       have e1 : IntKind.i64.wrap ((beN (L.take i) : Int) * 2 ^ min 8 64) = ((beN (L.take i) * 256 : Nat) : Int) := by
        rw [show ((beN (L.take i) : Int) * 2 ^ min 8 64) = ((beN (L.take i) * 256 : Nat) : Int) by simp]
        exact wrapi (by omega)
       have e2 : IntKind.i64.wrap ((L.getD i Ty.u8.dflt).toNat : Int) = (((L.getD i Ty.u8.dflt).toNat : Nat) : Int) := wrapi (by omega)
       have e3 := or_byte (beN (L.take i)) (L.getD i Ty.u8.dflt).toNat (by omega) hc
       have e4 := beN_succ L i (by omega)
       rw [e1, e2]
       refine ⟨hlt, trivial, ⟨[], rfl⟩, ?_⟩
       with_reducible refine sx1 hwr ?_
       rw [e4]
       exact congrArg (Value.int .i64) e3
     · rw [List.take_of_length_le (by omega : L.length ≤ i)]
       have hv := beN_lt L
       rw [hll] at hv
       have hv3 : beN L < 16777216 := by omega
       have w1 : IntKind.i64.wrap ((b.length : Int) - (2 + ((2 : Nat) : Int))) = (b.length : Int) - (2 + ((2 : Nat) : Int)) := wrapi (by omega)
       have w2 : IntKind.i64.wrap (2 + ((2 : Nat) : Int) + (beN L : Int)) = ((2 + 2 + beN L : Nat) : Int) := by rw [wrapi (by omega)]; omega
       rw [w1, w2]
       refine ⟨by decide, fun q => ?_, fun q => ⟨fun q2 => ?_, fun q2 => ?_⟩⟩
       · rw [hmq _ rfl, if_pos (by simp only [minLen]; omega)]; rfl
       · rw [hmq _ rfl, if_neg (by simp only [minLen]; omega)]; unfold measE; rw [if_pos (by omega)]; rfl
       · rw [hmq _ rfl, if_neg (by simp only [minLen]; omega)]; unfold measE; rw [if_neg (by omega)]; rfl
   · refine si_cntD (fun i => [(5, rI (beN (L.take i))), (39, .raw (.int .i64 ((i : Nat) : Int)))]) (3) (fun j => (fun _ => true) j = true) (by first | decide | simp) (fun i => rfl) ?_ fun i hi hall => ?_
     · (with_reducible refine sxE ?_ <;> try exact True.intro)
       all_goals (try rfl)
     have hwr : IntKind.i64.wrap ((i : Int) + 1) = ((i + 1 : Nat) : Int) := wrap_succ (by omega)
     refine goE mixed ?_
     have bad : i < (3) → (fun _ => true) i = false → allN (3) (fun _ => true) = false := fun hlt hv => allN_false hlt hv
     have fin : ¬ i < (3) → allN (3) (fun _ => true) = true := fun h => allN_true fun j hj => hall j (by omega)
     try dsimp only at bad fin hall
     refine ⟨fun hlt => ⟨⟨by omega, by omega⟩, ?_⟩, fun hge => ?_⟩
     · have hv := beN_lt (L.take i)
       have hv2 : 256 ^ (L.take i).length ≤ 256 ^ 6 := Nat.pow_le_pow_right (by decide) (by simp; omega)
       have hc : (L.getD i Ty.u8.dflt).toNat < 256 := UInt8.toNat_lt _
       have e1 : IntKind.i64.wrap ((beN (L.take i) : Int) * 2 ^ min 8 64) = ((beN (L.take i) * 256 : Nat) : Int) := by
        rw [show ((beN (L.take i) : Int) * 2 ^ min 8 64) = ((beN (L.take i) * 256 : Nat) : Int) by simp]
        exact wrapi (by omega)
       have e2 : IntKind.i64.wrap ((L.getD i Ty.u8.dflt).toNat : Int) = (((L.getD i Ty.u8.dflt).toNat : Nat) : Int) := wrapi (by omega)
       have e3 := or_byte (beN (L.take i)) (L.getD i Ty.u8.dflt).toNat (by omega) hc
       have e4 := beN_succ L i (by omega)
       rw [e1, e2]
       refine ⟨hlt, trivial, ⟨[], rfl⟩, ?_⟩
       with_reducible refine sx1 hwr ?_
       rw [e4]
       exact congrArg (Value.int .i64) e3
     · rw [List.take_of_length_le (by omega : L.length ≤ i)]
       have hv := beN_lt L
       rw [hll] at hv
       have hv3 : beN L < 16777216 := by omega
       have w1 : IntKind.i64.wrap ((b.length : Int) - (2 + ((3 : Nat) : Int))) = (b.length : Int) - (2 + ((3 : Nat) : Int)) := wrapi (by omega)
       have w2 : IntKind.i64.wrap (2 + ((3 : Nat) : Int) + (beN L : Int)) = ((2 + 3 + beN L : Nat) : Int) := by rw [wrapi (by omega)]; omega
       rw [w1, w2]
       refine ⟨by decide, fun q => ?_, fun q => ⟨fun q2 => ?_, fun q2 => ?_⟩⟩
       · rw [hmq _ rfl, if_pos (by simp only [minLen]; omega)]; rfl
       · rw [hmq _ rfl, if_neg (by simp only [minLen]; omega)]; unfold measE; rw [if_pos (by omega)]; rfl
       · rw [hmq _ rfl, if_neg (by simp only [minLen]; omega)]; unfold measE; rw [if_neg (by omega)]; rfl
 · have : meas b = (0, 0, 6) := by unfold meas; rw [hd, if_neg (by omega), if_neg (by omega), if_pos (by omega)]
   rw [this]; rfl
 · have : meas b = (0, 0, 4) := by unfold meas; rw [hd, if_neg (by omega), if_pos (by omega)]; unfold measE; rw [if_pos (by omega)]
   rw [this]; rfl
 · have : meas b = (2, 2 + x.toNat, 0) := by unfold meas; rw [hd, if_neg (by omega), if_pos (by omega)]; unfold measE; rw [if_neg (by omega)]
   rw [this]; rfl
end Go.Proofs.YthmoognbccfpiaaGreatDoor

