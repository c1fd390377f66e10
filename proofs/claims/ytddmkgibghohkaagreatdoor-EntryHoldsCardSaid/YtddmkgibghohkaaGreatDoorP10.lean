/- A part of the proof: a symbolic executor over abstract values, and its soundness. -/
import Derived.Test.YtddmkgibghohkaaGreatDoorP9
import Derived.RecoverIn
set_option linter.unusedSimpArgs false
set_option linter.unusedVariables false
namespace Go.Sx
open Go
variable {P : Program} {AQ : Ex → List SV → List SObj → Prop} {k0 : Nat} {k : List IT} {t : List SV} {H : List SObj}

def afterD (H : List SObj) (C : Cx) (K : List SObj → Prop) (m : FrameMode) : Ending → FrameMode → World → Prop :=
 fun e u w => e = .returned (.tuple #[]) ∧ u = m ∧ ∃ H' C', K H' ∧ C'.w = w ∧ Wd C' H' ∧ Ext ⟨C, H⟩ C' H'
def DCall (P : Program) (g : FuncId) (args : List SV) (pan : Option SV) (H : List SObj) (K : List SObj → Prop) : Prop :=
 enters P g = true ∧ ∀ (C : Cx) (vs : List Value), Wd C H → SV.denL C args vs → match pan with
  | none => CallsDIn Fence.wide 0 P g vs.toArray .returning C.w (afterD H C K .returning)
  | some s => ∀ v, s.den C v → CallsDIn Fence.wide 0 P g vs.toArray (.panicking [{ v, recovered := false }]) C.w (afterD H C K (.panicking [{ v, recovered := true }]))

def calmOp : Op → Bool
 | .typeAssert .. | .move _ | .assign _ | .extract .. | .alloc _ | .store .. | .load .. => true
 | _ => false
theorem vrun_calm {s : Sem Value} {w w' : World} {x : Next} (h : (do pure (.value (← s)) : Sem Next).run P w = .ok x w') : (∃ v, x = .value v) ∨ x = .skip := by
 simp only [Sem.run_bind] at h
 cases hs : s.run P w with
 | ok v w1 => rw [hs] at h; simp [Result.andThen] at h; exact .inl ⟨v, h.1.symm⟩
 | halt a b => rw [hs] at h; simp [Result.andThen] at h
theorem urun_calm {s : Sem Unit} {w w' : World} {x : Next} (h : (do s; pure .skip : Sem Next).run P w = .ok x w') : (∃ v, x = .value v) ∨ x = .skip := by
 simp only [Sem.run_bind] at h
 cases hs : s.run P w with
 | ok v w1 => rw [hs] at h; simp [Result.andThen] at h; exact .inr h.1.symm
 | halt a b => rw [hs] at h; simp [Result.andThen] at h
theorem calm_run {ρ : Operand → Value} {o : Oper} {w w' : World} {x : Next} (hc : calmOp o.op = true) (h : (execOp ρ o).run P w = .ok x w') : (∃ v, x = .value v) ∨ x = .skip := by
 unfold execOp at h
 generalize o.op = op at *
 cases op <;> first | (simp [calmOp] at hc; done) | exact vrun_calm h | exact urun_calm h | (simp at h; exact .inl ⟨_, h.1.symm⟩)

theorem opsS_of_ops {all : Array Oper} {Q1 : Exit → Act → World → Prop} {Q : Exit → Act → List Frame → World → Prop} {cs : List Frame} {n : Nat} (hq : ∀ e a w, Q1 e a w → Q e a cs w) :
 ∀ (l : List Nat), (∀ i ∈ l, ∀ o, all[i]? = some o → calmOp o.op = true) → ∀ (a : Act) (w : World), wpOpsIn (Fw none) n P all Q1 l a w → wpOpsSIn Fence.wide n P all Q l a cs w
 | [], _, a, w, h => hq _ _ _ h
 | i :: rest, hc, a, w, h => by
  have ih := fun a w => opsS_of_ops (n := n) hq rest (fun j hj => hc j (List.mem_cons_of_mem _ hj)) a w
  simp only [wpOpsIn] at h
  simp only [wpOpsSIn]
  cases ho : all[i]? with
  | none => rw [ho] at h; exact ih _ _ h
  | some o =>
   rw [ho] at h
   simp only at h ⊢
   refine ⟨fun f _ => trivial, ?_⟩
   by_cases hw : Region.wanted o (yielded all a.tmps) = true
   · rw [if_pos hw] at h ⊢
     obtain ⟨_, hup⟩ := h
     have hup' : o.uponIn (Fw none) n P a (wpOpsIn (Fw none) n P all Q1 rest) Q1 ((execOp a.eval o).run P w) := hup
     cases hr : (execOp a.eval o).run P w with
     | ok x w' =>
      rw [hr] at hup'
      rcases calm_run (hc i (by simp) o ho) hr with ⟨v, rfl⟩ | rfl
      · exact ih _ _ hup'
      · exact ih _ _ hup'
     | halt x w' =>
      rw [hr] at hup'
      cases x <;> first | exact hq _ _ _ hup' | exact hup'.elim
   · rw [if_neg hw] at h ⊢
     exact ih _ _ h.2

def recS : Option SV → SV
 | none => .raw .nilIface
 | some s => s
def AQD (K : List SObj → Prop) : Ex → List SV → List SObj → Prop
 | .normal, _, H => K H
 | .ret, _, H => K H
 | _, _, _ => False

theorem dcall_of {g : FuncId} {fn : Func} {id : Nat} {all : Array Oper} {x : Code} {args : List SV} {pan : Option SV} {K : List SObj → Prop} {o0 : Oper} {c : Call} {d : Nat} {m : Nat} (hg : enters P g = true) (hf : P.funcs[g]? = some fn) (hb : fn.body = some (.seq (.region id all false) x))
 (hr : fn.results = #[]) (hm : all.size = m + 1) (h0 : all[0]? = some o0) (ho : o0.op = .call c) (hcal : c.callee = .builtin .recover) (hgd : o0.guard = none) (hd0 : o0.dst = some d) (hcalm : ∀ i ∈ (List.range m).map (1 + ·), ∀ o, all[i]? = some o → calmOp o.op = true)
 (hs : Sound P (AQD K) ⟨H.length, [.ops all ((List.range m).map (1 + ·)), .code x], (args ++ List.replicate (fn.ntmps - args.length) SV.any).set d (recS pan), H⟩) : DCall P g args pan H K := by
 refine ⟨hg, ?_⟩
 intro C vs hw hv
 have hlen := denL_length hv
 have key : ∀ (c₀ : Frame) (cs : List Frame) (u : FrameMode) (v : Value), (recS pan).den C v → ((recoverD (c₀ :: cs) = none ∧ v = .nilIface ∧ { c₀ with mode := u } = c₀) ∨ recoverD (c₀ :: cs) = some (v, { c₀ with mode := u } :: cs)) →
  (Code.seq (.region id all false) x).wpSIn Fence.wide 0 P (bodyPostS P fn c₀ cs (afterD H C K u)) { tmps := vs.toArray ++ Array.replicate (fn.ntmps - vs.toArray.size) undef, defers := [] } (c₀ :: cs) C.w := by
  intro c₀ cs u v hdv hrec
  apply wpSIn_seq
  apply wpSIn_region
  have hra : List.range all.size = 0 :: (List.range m).map (1 + ·) := by
   rw [hm, List.range_succ_eq_map]
   congr 1
   exact List.map_congr_left fun a _ => by simp [Nat.add_comm]
  rw [hra]
  simp only [wpOpsSIn, h0]
  refine ⟨fun f _ => trivial, ?_⟩
  have hwant : ∀ y, Region.wanted o0 y = true := fun y => by unfold Region.wanted; rw [hgd]
  rw [if_pos (hwant _)]
  have hrun : ∀ ρ : Operand → Value, (execOp ρ o0).run P C.w = .ok .recover C.w := fun ρ => by simp [execOp, ho, resolve, hcal, invoke, builtin]
  rw [hrun]
  simp only
  have hden : Den ⟨⟨C, H⟩, []⟩ C ((args ++ List.replicate (fn.ntmps - args.length) SV.any).set d (recS pan)) H (({ tmps := vs.toArray ++ Array.replicate (fn.ntmps - vs.toArray.size) undef, defers := [] } : Act).put (some d) v) := by
   refine ⟨hw, Ext.refl _ _, rfl, putT_den (a := { tmps := vs.toArray ++ Array.replicate (fn.ntmps - vs.toArray.size) undef, defers := [] }) ?_ (some d) hdv⟩
   simp only [Array.toList_append, Array.toList_replicate, List.size_toArray, hlen]
   refine denL_append.2 ⟨vs, _, rfl, hv, ?_⟩
   generalize fn.ntmps - args.length = m
   induction m with
   | zero => exact denL_nil.2 rfl
   | succ m ih => exact denL_cons.2 ⟨_, _, List.replicate_succ, by rw [SV.den]; trivial, ih⟩
  have h1 := hs ⟨⟨C, H⟩, []⟩ none 0 C _ (by rw [hw.n]; exact Nat.le_refl _) hden
  simp only [wpT] at h1
  have fin : ∀ (e : Exit) (a : Act) (w : World), conc ⟨⟨C, H⟩, []⟩ (AQD K) e a w → bodyPostS P fn c₀ cs (afterD H C K u) e a ({ c₀ with mode := u } :: cs) w := by
   intro e a w hq
   have hres : ∀ w, (results fn a.tmps).run P w = .ok (.tuple #[]) w := fun w => by unfold results; rw [hr]; simp [Result.andThen]
   cases e with
   | normal =>
    obtain ⟨C', t', H', hk, rfl, hd'⟩ := hq
    exact ⟨hd'.defs, u, rfl, .tuple #[], hres _, rfl, rfl, H', C', hk, rfl, hd'.wd, hd'.ext⟩
   | ret =>
    obtain ⟨C', t', H', hk, rfl, hd'⟩ := hq
    exact ⟨hd'.defs, u, rfl, .tuple #[], hres _, rfl, rfl, H', C', hk, rfl, hd'.wd, hd'.ext⟩
   | exit id => obtain ⟨_, _, _, hk, _⟩ := hq; exact hk.elim
   | panic ch => obtain ⟨_, _, _, _, _, hk, _⟩ := hq; exact hk.elim
   | goto l => exact hq.elim
   | outgrown => exact hq.elim
  have main : wpOpsSIn Fence.wide 0 P all (Exit.thenS (x.wpSIn Fence.wide 0 P (bodyPostS P fn c₀ cs (afterD H C K u))) (bodyPostS P fn c₀ cs (afterD H C K u))) ((List.range m).map (1 + ·)) (({ tmps := vs.toArray ++ Array.replicate (fn.ntmps - vs.toArray.size) undef, defers := [] } : Act).put (some d) v) ({ c₀ with mode := u } :: cs) C.w := by
   refine opsS_of_ops ?_ _ hcalm _ _ h1
   intro e a w hq
   cases e with
   | normal =>
    refine wpSIn_of_wpIn rfl (wpIn_mono hq fun e a w hq => ?_)
    cases e with
    | normal => exact fin _ _ _ hq
    | exit id => exact fin _ _ _ hq
    | ret => exact fin _ _ _ hq
    | panic ch => exact fin _ _ _ hq
    | goto l => exact hq.elim
    | outgrown => exact hq.elim
   | exit id => exact fin _ _ _ (by simpa only [exitT] using hq)
   | ret => exact fin _ _ _ hq
   | panic ch => exact fin _ _ _ hq
   | goto l => exact hq.elim
   | outgrown => exact hq.elim
  rcases hrec with ⟨hrec, rfl, hc⟩ | hrec
  · rw [hrec, hd0]
    rw [hc] at main
    exact main
  · rw [hrec, hd0]
    exact main
 cases pan with
 | none =>
  refine callsDIn_of_wpSIn hf hb trivial fun c₀ cs hu => ?_
  refine key c₀ cs .returning .nilIface (by simp [recS, SV.den]) (.inl ⟨by simp [recoverD, hu], rfl, ?_⟩)
  cases c₀; simp at hu; subst hu; rfl
 | some s =>
  intro v hdv
  refine callsDIn_of_wpSIn hf hb trivial fun c₀ cs hu => ?_
  exact key c₀ cs _ v hdv (.inr (by simp [recoverD, hu]))

theorem leaves_one {fn : Func} {tmps : Array Value} {R : Ending → World → Prop} {g : FuncId} {caps : Array Value} {u : FrameMode} {w : World} (hu : u ≠ .run) (hg : enters P g = true)
 (h : CallsDIn Fence.wide 0 P g caps u w fun
  | .returned _, u', w' => LeavesIn Fence.wide 0 P fn tmps R [] (settle u') w'
  | .panicked chain, u', w' => LeavesIn Fence.wide 0 P fn tmps R [] (raised u' chain) w'
  | .outgrown, _, w' => R .outgrown w') :
 LeavesInM Fence.wide 0 P fn tmps R [{ target := .fn (.func g) caps, args := #[] }] u w := by
 refine ⟨hu, .inr ⟨(fun hd => by cases hd), .func g, caps, g, caps, rfl, ?_, fun _ _ => trivial, ?_⟩⟩
 · simp [invoke, enters_run hg]
 · exact h

structure DI where
 ntmps : Nat
 results : List ResultVar
 pre : List IC
 slot : Nat
 g : Nat
 ca : List Operand
 post : IC

def deferAt : Code → Option (Nat × Nat × List Operand)
 | .region _ ops false => match ops.toList with
  | [o0, o1] => match o0.op, o0.dst, o0.guard, o1.op, o1.dst, o1.guard with
   | .makeFunc (.func g) fi ca, some d, none, .defer c, none, none => match c.callee with
    | .value (.tmp d') => if d = d' ∧ c.args.size = 0 ∧ fi.size = 0 then some (d, g, ca.toList) else none
    | _ => none
   | _, _, _, _, _, _ => none
  | _ => none
 | _ => none
def dsplit (P : Program) : Code → Option (List IC × (Nat × Nat × List Operand) × IC)
 | .seq x y => match deferAt x with
  | some q => match comp P y with
   | some iy => some ([], q, iy)
   | none => none
  | none => match comp P x, dsplit P y with
   | some ix, some (l, q, iy) => some (ix :: l, q, iy)
   | _, _ => none
 | _ => none
def dinfo (P : Program) (f : FuncId) : Option DI :=
 match P.funcs[f]? with
 | some fn => match fn.body with
  | some c => match dsplit P c with
   | some (l, (d, g, ca), iy) => if fn.name == "runtime.NumGoroutine" then none else some ⟨fn.ntmps, fn.results.toList, l, d, g, ca, iy⟩
   | none => none
  | none => none
 | none => none

def AQ2 (P : Program) (rs : List ResultVar) (g : FuncId) (caps : List SV) (K : Out → List SObj → Prop) : Ex → List SV → List SObj → Prop
 | .normal, t, H => DCall P g caps none H fun H' => ∃ s, resV P t H' rs = some s ∧ K (.ret s) H'
 | .ret, t, H => DCall P g caps none H fun H' => ∃ s, resV P t H' rs = some s ∧ K (.ret s) H'
 | .pan s, t, H => t ≠ [] ∧ DCall P g caps (some s) H fun H' => ∃ s, resV P t H' rs = some s ∧ K (.ret s) H'
 | .exit _, _, _ => False
def AQ1 (P : Program) (rs : List ResultVar) (K : Out → List SObj → Prop) : Ex → List SV → List SObj → Prop
 | .ret, t, H => ∃ s, resV P t H rs = some s ∧ K (.ret s) H
 | .pan s, _, H => K (.pan s) H
 | _, _, _ => False
def DPost (P : Program) (di : DI) (K : Out → List SObj → Prop) : List SV → List SObj → Prop :=
 fun t H => di.slot < t.length ∧ SoundI P (AQ2 P di.results di.g (di.ca.map (evT t)) K) ⟨H.length, [.ic di.post], t.set di.slot (.fn di.g [] (di.ca.map (evT t))), H⟩

theorem wpT_splice {F : Fence} {n : Nat} {E : EnD} {Q1 Q : Exit → Act → World → Prop} {Φ : List SV → List SObj → Prop} {k2 : List It} (hQ : ∀ e a w, e ≠ .normal → Q1 e a w → Q e a w) (hx : ∀ id a w, ¬ Q1 (.exit id) a w) (hΦ : ∀ a C t H, Φ t H → Den E C t H a → wpT F n P E Q k2 a C.w) :
 ∀ (l : List Code) (a : Act) (w : World), wpT F n P E Q1 (l.map .code ++ [.stop Φ]) a w → wpT F n P E Q (l.map .code ++ k2) a w
 | [], a, w, h => by
  obtain ⟨C, t, H, h1, rfl, h2⟩ := h
  exact hΦ a C t H h1 h2
 | c :: l, a, w, h => by
  simp only [List.map_cons, List.cons_append, wpT] at h ⊢
  refine wpIn_mono h fun e a w hq => ?_
  cases e with
  | normal => exact wpT_splice hQ hx hΦ l a w hq
  | exit id =>
   exfalso
   have : ∀ (l : List Code) (a : Act) (w : World), ¬ exitT F n P E Q1 id (l.map .code ++ [.stop Φ]) a w := by
    intro l
    induction l with
    | nil => intro a w hq; simp only [List.map_nil, List.nil_append, exitT] at hq; exact hx _ _ _ hq
    | cons c l ih => intro a w hq; simp only [List.map_cons, List.cons_append, exitT] at hq; exact ih a w hq
   exact this l a w hq
  | ret => exact hQ _ _ _ (by simp) hq
  | panic ch => exact hQ _ _ _ (by simp) hq
  | goto l => exact hQ _ _ _ (by simp) hq
  | outgrown => exact hQ _ _ _ (by simp) hq

theorem defer_region {x : Code} {d g : Nat} {ca : List Operand} {n : Nat} {Q : Exit → Act → World → Prop} {a : Act} {w : World} (h : deferAt x = some (d, g, ca))
 (hq : Q .normal { tmps := a.tmps.setIfInBounds d (.func (.func g) #[] (ca.map a.eval).toArray), defers := { target := .fn (.func g) (ca.map a.eval).toArray, args := #[] } :: a.defers } w) (hsz : d < a.tmps.size) : x.wpIn (Fw none) n P Q a w := by
 unfold deferAt at h
 split at h
 · rename_i id ops
   split at h
   · rename_i o0 o1 hops
     split at h
     · rename_i g' fi ca' d' c e1 e2 e3 e4 e5 e6
       split at h
       · rename_i d'' ec
         split at h
         · rename_i hcond
           obtain ⟨rfl, hargs, hfi⟩ := hcond
           cases h
           have hops' : ops = #[o0, o1] := by rw [← hops]
           subst hops'
           have hfi' : fi = #[] := Array.eq_empty_of_size_eq_zero hfi
           have hargs' : c.args = #[] := Array.eq_empty_of_size_eq_zero hargs
           apply wpIn_region
           have hr : List.range (#[o0, o1] : Array Oper).size = [0, 1] := rfl
           rw [hr]
           have hw0 : ∀ y, Region.wanted o0 y = true := fun y => by unfold Region.wanted; rw [e3]
           have hw1 : ∀ y, Region.wanted o1 y = true := fun y => by unfold Region.wanted; rw [e6]
           simp only [wpOpsIn, List.getElem?_toArray, List.getElem?_cons_zero, List.getElem?_cons_succ]
           rw [if_pos (hw0 _)]
           refine ⟨fun f _ => fw_fn none f, ?_⟩
           have r0 : (o0.semAt (Fw none).round a.eval).run P w = .ok (.value (.func (.func g) #[] (ca'.map a.eval))) w := by
            rw [Oper.semAt_eq _ _ _ (by rw [e1]; intro c hc; cases hc)]
            simp [execOp, e1, hfi', Instr.makeFunc]
           rw [r0]
           simp only [Oper.uponIn]
           rw [if_pos (hw1 _)]
           refine ⟨fun f _ => fw_fn none f, ?_⟩
           have hev : (a.put o0.dst (.func (.func g) #[] (ca'.map a.eval))).eval (.tmp d) = .func (.func g) #[] (ca'.map a.eval) := by
            simp [e2, Act.put, Act.eval, Array.getD_eq_getD_getElem?, hsz]
           have r1 : (o1.semAt (Fw none).round (a.put o0.dst (.func (.func g) #[] (ca'.map a.eval))).eval).run P w = .ok (.defer { target := .fn (.func g) (ca'.map a.eval), args := #[] }) w := by
            show (o1.semAt none _).run P w = _
            rw [Oper.semAt_none]
            simp [execOp, e4, resolve, ec, hev, hargs', Deferred.ofValue]
           rw [r1]
           simp only [Oper.uponIn]
           rw [e2, e5]
           have hmp : (List.map a.eval ca'.toList).toArray = ca'.map a.eval := by apply Array.ext'; simp
           rw [hmp] at hq
           exact hq
         · cases h
       · cases h
     · cases h
   · cases h
 · cases h

theorem dsplit_wp {n : Nat} {E : EnD} {Q : Exit → Act → World → Prop} : ∀ {c : Code} {l : List IC} {q : Nat × Nat × List Operand} {iy : IC}, dsplit P c = some (l, q, iy) →
 ∃ (cs : List Code) (x y : Code), deferAt x = some q ∧ comp P y = some iy ∧ (cs.map (comp P) = l.map some) ∧ ∀ a w, wpT (Fw none) n P E Q (cs.map .code ++ [.code x, .code y]) a w → c.wpIn (Fw none) n P Q a w
 | .seq x y, l, q, iy, h => by
  have hex : ∀ (k : List It), (∀ i ∈ k, ∃ c, i = .code c) → ∀ id a w, exitT (Fw none) n P E Q id k a w → Q (.exit id) a w := by
   intro k
   induction k with
   | nil => intro _ id a w h; exact h
   | cons i k ih =>
    intro hk id a w h
    obtain ⟨c, rfl⟩ := hk i (by simp)
    simp only [exitT] at h
    exact ih (fun j hj => hk j (by simp [hj])) id a w h
  simp only [dsplit] at h
  split at h
  · rename_i q' hd
    split at h
    · cases h
      refine ⟨[], x, y, hd, by assumption, rfl, fun a w hw => ?_⟩
      simp only [List.map_nil, List.nil_append, wpT] at hw
      refine wpIn_seq (wpIn_mono hw fun e a w hq => ?_)
      cases e with
      | normal =>
       refine wpIn_mono hq fun e a w hq => ?_
       cases e <;> exact hq
      | exit id => exact hex [.code y] (by simp) id a w hq
      | _ => exact hq
    · cases h
  · split at h
    · rename_i ix l' q' iy' h1 h2
      cases h
      obtain ⟨cs, x', y', g1, g2, g3, g4⟩ := dsplit_wp (n := n) (E := E) (Q := Q) h2
      refine ⟨x :: cs, x', y', g1, g2, by simp [h1, g3], fun a w hw => ?_⟩
      simp only [List.map_cons, List.cons_append, wpT] at hw
      refine wpIn_seq (wpIn_mono hw fun e a w hq => ?_)
      cases e with
      | normal => exact g4 a w hq
      | exit id => exact hex (cs.map .code ++ [.code x', .code y']) (by simp; rintro i (⟨c, _, rfl⟩ | rfl | rfl) <;> exact ⟨_, rfl⟩) id a w hq
      | _ => exact hq
    · cases h
 | .skip, _, _, _, h => by simp [dsplit] at h
 | .region .., _, _, _, h => by simp [dsplit] at h
 | .cond .., _, _, _, h => by simp [dsplit] at h
 | .block .., _, _, _, h => by simp [dsplit] at h
 | .loop _, _, _, _, h => by simp [dsplit] at h
 | .exit _, _, _, _, h => by simp [dsplit] at h
 | .ret, _, _, _, h => by simp [dsplit] at h
 | .rangeFunc .., _, _, _, h => by simp [dsplit] at h
 | .scope _, _, _, _, h => by simp [dsplit] at h
 | .goto _, _, _, _, h => by simp [dsplit] at h
 | .refuse _, _, _, _, h => by simp [dsplit] at h
 | .label _, _, _, _, h => by simp [dsplit] at h
theorem rel_codes {Φ : List SV → List SObj → Prop} : ∀ {cs : List Code} {l : List IC}, cs.map (comp P) = l.map some → RelT P (l.map .ic ++ [.stop Φ]) (cs.map .code ++ [.stop Φ])
 | [], [], _ => ⟨[], rfl, rfl⟩
 | c :: cs, ic :: l, h => by
  simp only [List.map_cons, List.cons.injEq] at h
  exact ⟨c, _, rfl, h.1, rel_codes h.2⟩
 | [], _ :: _, h => by simp at h
 | _ :: _, [], h => by simp at h

theorem vc_di {f : FuncId} {di : DI} {args : List SV} {K : Out → List SObj → Prop} (h : dinfo P f = some di)
 (hs : SoundI P (AQ1 P di.results K) ⟨H.length, di.pre.map .ic ++ [.stop (DPost P di K)], args ++ List.replicate (di.ntmps - args.length) .any, H⟩) : VC P f args H K := by
 unfold dinfo at h
 split at h
 · rename_i fn hf
   split at h
   · rename_i c hb
     split at h
     · rename_i l d g ca iy hd
       split at h
       · cases h
       · rename_i hn
         cases h
         refine ⟨by simp [enters, hf, hb]; simpa using hn, ?_⟩
         intro C vs hw hv
         refine (callsIn_wide (n := 0)).1 (callsIn_of_wp_marks hf hb trivial ?_ rfl)
         have hlen := denL_length hv
         have hd0 : Den ⟨⟨C, H⟩, []⟩ C (args ++ List.replicate (fn.ntmps - args.length) .any) H { tmps := vs.toArray ++ Array.replicate (fn.ntmps - vs.toArray.size) undef, defers := [] } := by
          refine ⟨hw, Ext.refl _ _, rfl, ?_⟩
          simp only [Array.toList_append, Array.toList_replicate, List.size_toArray, hlen]
          refine denL_append.2 ⟨vs, _, rfl, hv, ?_⟩
          generalize fn.ntmps - args.length = m
          induction m with
          | zero => exact denL_nil.2 rfl
          | succ m ih => exact denL_cons.2 ⟨_, _, List.replicate_succ, by rw [SV.den]; trivial, ih⟩
         obtain ⟨cs, x, y, g1, g2, g3, g4⟩ := dsplit_wp (n := 0) (E := ⟨⟨C, H⟩, []⟩) (Q := bodyPostM Fence.wide 0 P fn fun e w' => ∃ o H' C', K o H' ∧ C'.w = w' ∧ Wd C' H' ∧ Ext ⟨C, H⟩ C' H' ∧ outDen C' o e) hd
         refine g4 _ _ ?_
         have h1 := soundI_get hs (rel_codes g3) ⟨⟨C, H⟩, []⟩ none 0 C _ (by rw [hw.n]; exact Nat.le_refl _) hd0
         refine wpT_splice ?_ ?_ ?_ cs _ _ h1
         · intro e a w hne hq
           cases e with
           | normal => exact absurd rfl hne
           | ret =>
            obtain ⟨C', t', H', ⟨s, hs', hk⟩, rfl, hd'⟩ := hq
            have e1 : a.defers = [] := hd'.defs
            show LeavesInM _ _ _ _ _ _ _ _ _
            rw [e1]
            obtain ⟨v, q1, q2⟩ := resV_run (P := P) (fn := fn) hd'.wd hd'.tmps hs'
            exact leavesIn_ret q1 ⟨.ret s, H', C', hk, rfl, hd'.wd, hd'.ext, v, rfl, q2⟩
           | panic ch =>
            obtain ⟨C', t', H', s, v, hk, rfl, hs', rfl, hw', hx', hdf, _⟩ := hq
            have e1 : a.defers = [] := hdf
            show LeavesInM _ _ _ _ _ _ _ _ _
            rw [e1]
            exact ⟨.pan s, H', C', hk, rfl, hw', hx', v, rfl, hs'⟩
           | exit id => obtain ⟨_, _, _, hq, _⟩ := hq; exact hq.elim
           | goto l => exact hq.elim
           | outgrown => exact hq.elim
         · rintro id a w ⟨_, _, _, hq, _⟩; exact hq
         · intro a C1 t1 H1 hΦ hd1
           simp only [wpT]
           have hsz : d < a.tmps.size := by
            have := denL_length hd1.tmps
            rw [Array.length_toList] at this
            rw [this]; exact hΦ.1
           refine defer_region g1 ?_ hsz
           have e1 : a.defers = [] := hd1.defs
           have hcaps : SV.denL C1 (ca.map (evT t1)) (ca.map a.eval) := denL_map _ fun x _ => evT_den hd1.tmps x
           have hden1 : Den ⟨⟨C1, H1⟩, [{ target := .fn (.func g) (ca.map a.eval).toArray, args := #[] }]⟩ C1 (t1.set d (.fn g [] (ca.map (evT t1)))) H1 { tmps := a.tmps.setIfInBounds d (.func (.func g) #[] (ca.map a.eval).toArray), defers := { target := .fn (.func g) (ca.map a.eval).toArray, args := #[] } :: a.defers } := by
            refine ⟨hd1.wd, Ext.refl _ _, by rw [e1]; rfl, putT_den (a := a) hd1.tmps (some d) ?_⟩
            rw [SV.den]
            exact ⟨[], _, rfl, denL_nil.2 rfl, hcaps⟩
           have h2 := soundI_get hΦ.2 ⟨y, [], rfl, g2, rfl⟩ _ none 0 C1 _ (by rw [hd1.wd.n]; exact Nat.le_refl _) hden1
           simp only [wpT] at h2
           refine wpIn_mono h2 fun e a2 w2 hq => ?_
           have fin : ∀ (C2 : Cx) (t2 : List SV) (H2 : List SObj) (pan : Option SV) (u : FrameMode) (u2 : FrameMode), u ≠ .run → settle u2 = .returning → DCall P g (ca.map (evT t1)) pan H2 (fun H' => ∃ s, resV P t2 H' fn.results.toList = some s ∧ K (.ret s) H') → C2.w = w2 → Wd C2 H2 → Ext ⟨C1, H1⟩ C2 H2 → a2.defers = [{ target := .fn (.func g) (ca.map a.eval).toArray, args := #[] }] → SV.denL C2 t2 a2.tmps.toList →
            (∀ {R : Ending → FrameMode → World → Prop}, (∀ e u' w', afterD H2 C2 (fun H' => ∃ s, resV P t2 H' fn.results.toList = some s ∧ K (.ret s) H') u2 e u' w' → R e u' w') → CallsDIn Fence.wide 0 P g (ca.map a.eval).toArray u C2.w R) →
            LeavesInM Fence.wide 0 P fn a2.tmps (fun e w' => ∃ o H' C', K o H' ∧ C'.w = w' ∧ Wd C' H' ∧ Ext ⟨C, H⟩ C' H' ∧ outDen C' o e) a2.defers u w2 := by
            intro C2 t2 H2 pan u u2 hu hset hdc hw2 hwd hx hdef hden hcall
            subst hw2
            rw [hdef]
            refine leaves_one hu hdc.1 (hcall ?_)
            rintro e u' w' ⟨rfl, rfl, H3, C3, ⟨s, hs3, hk⟩, rfl, hw3, hx3⟩
            simp only
            rw [hset]
            obtain ⟨v, q1, q2⟩ := resV_run (P := P) (fn := fn) (a := a2) hw3 (denL_evo hx3.evo hden) hs3
            exact ⟨v, q1, .ret s, H3, C3, hk, rfl, hw3, hd1.ext.trans (hx.trans hx3), v, rfl, q2⟩
           cases e with
           | normal =>
            obtain ⟨C2, t2, H2, hdc, hw2, hd2⟩ := hq
            exact fin C2 t2 H2 none .returning .returning (by simp) rfl hdc hw2 hd2.wd hd2.ext hd2.defs hd2.tmps fun hR => (hdc.2 C2 _ hd2.wd (denL_evo hd2.ext.evo hcaps)).mono fun e u' w' h => hR e u' w' h
           | ret =>
            obtain ⟨C2, t2, H2, hdc, hw2, hd2⟩ := hq
            exact fin C2 t2 H2 none .returning .returning (by simp) rfl hdc hw2 hd2.wd hd2.ext hd2.defs hd2.tmps fun hR => (hdc.2 C2 _ hd2.wd (denL_evo hd2.ext.evo hcaps)).mono fun e u' w' h => hR e u' w' h
           | panic ch =>
            obtain ⟨C2, t2, H2, s, v, ⟨hne, hdc⟩, rfl, hs2, hw2, hwd2, hx2, hdf2, ht2⟩ := hq
            have ht2' := ht2.resolve_left hne
            exact fin C2 t2 H2 (some s) (.panicking [{ v, recovered := false }]) (.panicking [{ v, recovered := true }]) (by simp) rfl hdc hw2 hwd2 hx2 hdf2 ht2' fun hR => (hdc.2 C2 _ hwd2 (denL_evo hx2.evo hcaps) v hs2).mono fun e u' w' h => hR e u' w' h
           | exit id => obtain ⟨_, _, _, hq, _⟩ := hq; exact hq.elim
           | goto l => exact hq.elim
           | outgrown => exact hq.elim
     · cases h
   · cases h
 · cases h
structure RI where
 ntmps : Nat
 slot : Nat
 ops : List OpI
 code : IC
def isRec (o : Oper) : Bool := match o.op with
 | .call c => match c.callee with
  | .builtin .recover => true
  | _ => false
 | _ => false
def rinfo (P : Program) (g : FuncId) : Option RI :=
 match P.funcs[g]? with
 | some fn => match fn.body with
  | some (.seq (.region _ all false) x) => match all.toList with
   | o0 :: os => match o0.dst, o0.guard, compL P all os, comp P x with
    | some d, none, some l, some ix => if isRec o0 = true ∧ os.all (fun o => calmOp o.op) = true ∧ fn.results.size = 0 ∧ (fn.name == "runtime.NumGoroutine") = false then some ⟨fn.ntmps, d, l, ix⟩ else none
    | _, _, _, _ => none
   | [] => none
  | _ => none
 | none => none
theorem dc_ri {g : FuncId} {ri : RI} {args : List SV} {pan : Option SV} {K : List SObj → Prop} (h : rinfo P g = some ri)
 (hs : SoundI P (AQD K) ⟨H.length, [.ops ri.ops, .ic ri.code], (args ++ List.replicate (ri.ntmps - args.length) SV.any).set ri.slot (recS pan), H⟩) : DCall P g args pan H K := by
 unfold rinfo at h
 split at h
 · rename_i fn hf
   split at h
   · rename_i id all x hb
     split at h
     · rename_i o0 os hall
       split at h
       · rename_i d l ix hd hg hl hx
         split at h
         · rename_i hc
           cases h
           obtain ⟨hc1, hc2, hc3, hc4⟩ := hc
           have hen : enters P g = true := by simp [enters, hf, hb]; simpa using hc4
           have hm : all.size = os.length + 1 := by rw [← Array.length_toList, hall]; rfl
           have hget : ∀ j, os[j]? = all[1 + j]? := fun j => by rw [← Array.getElem?_toList, hall, Nat.add_comm]; rfl
           unfold isRec at hc1
           split at hc1
           · rename_i c ho
             split at hc1
             · rename_i hcal
               refine dcall_of hen hf hb (Array.eq_empty_of_size_eq_zero hc3) hm (o0 := o0) (by rw [← Array.getElem?_toList, hall]; rfl) ho hcal hg hd (fun i hi o hio => ?_) (soundI_get (td' := [It.ops all ((List.range os.length).map (1 + ·)), It.code x]) hs ⟨all, _, _, rfl, compL_rel 1 hget hl, x, [], rfl, hx, rfl⟩)
               obtain ⟨j, hj, rfl⟩ := List.mem_map.1 hi
               rw [← hget] at hio
               exact List.all_eq_true.1 hc2 o (List.mem_of_getElem? hio)
             · cases hc1
           · cases hc1
         · cases h
       · cases h
     · cases h
   · cases h
 · cases h
attribute [go_sem] AQD AQ1 AQ2 DPost recS List.map_cons List.map_nil
theorem recE {g : FuncId} {ri : RI} {args : List SV} {pan : Option SV} {K : List SObj → Prop} {q : Prop} (hm : P.follows .mixedOrders = true) (hf : rinfo P g = some ri) (h : q)
 (e : run P (AQD K) 600 ⟨H.length, [.ops ri.ops, .ic ri.code], (args ++ List.replicate (ri.ntmps - args.length) SV.any).set ri.slot (recS pan), H⟩ = q := by (simp (maxSteps := 3000000) only [go_sem, ↓zA, ↓reduceIte, ↓reduceDIte, reduceCtorEq, Nat.reduceAdd, Nat.reduceSub, Nat.reduceLeDiff, Nat.reduceLT, Nat.reduceEqDiff, Nat.reduceBEq, Nat.reduceMul, Int.reduceToNat, Int.reduceEq, Int.reduceLT, Int.reduceLE]; (try simp only [zB]); rfl)) : DCall P g args pan H K := dc_ri hf (run_sound hm 600 _ (Eq.mpr e h))
theorem defE {f : FuncId} {di : DI} {args : List SV} {K : Out → List SObj → Prop} {q : Prop} (hm : P.follows .mixedOrders = true) (hf : dinfo P f = some di) (h : q)
 (e : run P (AQ1 P di.results K) 600 ⟨H.length, di.pre.map .ic ++ [.stop (DPost P di K)], args ++ List.replicate (di.ntmps - args.length) .any, H⟩ = q := by (simp (maxSteps := 3000000) only [go_sem, ↓zA, ↓reduceIte, ↓reduceDIte, reduceCtorEq, Nat.reduceAdd, Nat.reduceSub, Nat.reduceLeDiff, Nat.reduceLT, Nat.reduceEqDiff, Nat.reduceBEq, Nat.reduceMul, Int.reduceToNat, Int.reduceEq, Int.reduceLT, Int.reduceLE]; (try simp only [zB]); rfl)) : VC P f args H K := vc_di hf (run_sound hm 600 _ (Eq.mpr e h))
abbrev zs : Value := .slice none 0 0
abbrev zi : Value := .int .i64 0
abbrev ze : Value := .string ⟨#[]⟩
def kT : Operand := .const (.bool true)
def kF : Operand := .const (.bool false)
def kS : Operand := .const (.slice none 0 0)
def kE : Operand := .const (.string ⟨#[]⟩)
def fA (d k x : Nat) : OpI := ⟨some d, .fa k (.tmp x), none⟩
def lD (d x : Nat) : OpI := ⟨some d, .ld none (.tmp x), none⟩
def lG (d n x : Nat) : OpI := ⟨some d, .ld (some n) (.tmp x), none⟩
def c0 (d f : Nat) : OpI := ⟨some d, .call (.func f) [], none⟩
def c1 (d f a : Nat) : OpI := ⟨some d, .call (.func f) [.tmp a], none⟩
def c2 (d f a b : Nat) : OpI := ⟨some d, .call (.func f) [.tmp a, .tmp b], none⟩
def c3 (d f a b c : Nat) : OpI := ⟨some d, .call (.func f) [.tmp a, .tmp b, .tmp c], none⟩
def bN (d : Nat) (o : BinOp) (k x y : Nat) : OpI := ⟨some d, .bin o k (.tmp x) (.tmp y), none⟩
def nT (d x : Nat) : OpI := ⟨some d, .un .not (.tmp x), none⟩
def lN (d : Nat) (b : Bool) (x : Nat) : OpI := ⟨some d, .len b (.tmp x), none⟩
def iA (d s x y : Nat) : OpI := ⟨some d, .ia s (.tmp x) (.tmp y), none⟩
def sT (n x y : Nat) : OpI := ⟨none, .st n (.tmp x) (.tmp y), none⟩
def tS (d x : Nat) : OpI := ⟨some d, .toStr true (.tmp x), none⟩
def mI (d : Nat) (n : Int) : OpI := ⟨some d, .mov (.const (.int .i64 n)), none⟩
def aI (d x : Nat) : OpI := ⟨some d, .bin .add 0 (.tmp x) (.const (.int .i64 1)), none⟩
def qR (l : List OpI) (b : IC) : IC := .seq (.reg l) b
def cE (x k : Nat) : IC := .cond (.tmp x) .skip (.exit k)
def pT (d x y : Nat) : OpI := ⟨some d, .pick (.tmp x) (.const (.bool true)) (.tmp y), none⟩
def pF (d x y : Nat) : OpI := ⟨some d, .pick (.tmp x) (.tmp y) (.const (.bool false)), none⟩
def z17 : List Value := [zs, ze, zs, .int .u32 0, zi, zs, ze, zi, zi, zi, zi, zi, zi, zi, zs, zs, zs]
def z5 : List Value := [zi, zs, ze, zi, zi]
attribute [go_sem] qR zs zi ze kT kF kS kE fA lD lG c0 c1 c2 c3 bN nT lN iA sT tS mI aI cE pT pF z17 z5
end Go.Sx
