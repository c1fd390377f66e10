/- A part of the proof: a symbolic executor over abstract values, and its soundness. -/
import Derived.Test.YtddmkgibghohkaaGreatDoorP18
import Derived.Test.YtddmkgibghohkaaGreatDoorP14
import Derived.Test.YtddmkgibghohkaaGreatDoorP17
set_option linter.unusedSimpArgs false
set_option linter.unusedVariables false
set_option linter.unusedSectionVars false
namespace Go.Sx
open Go

variable {P : Program} {AQ : Ex → List SV → List SObj → Prop} {k0 : Nat} {k : List It} {t : List SV} {H : List SObj}
variable {c : C2P}

theorem maskT_out : ∀ (ws : List Nat) (t : List SV) (i : Nat), i ∉ ws → (maskT ws t)[i]? = t[i]?
 | [], _, _, _ => rfl
 | d :: ws, t, i, h => by
  show (maskT ws (t.set d .any))[i]? = _
  rw [maskT_out ws _ i (fun h1 => h (List.mem_cons_of_mem _ h1))]
  exact List.getElem?_set_ne (fun e => h (by rw [e]; exact List.mem_cons_self))
theorem maskT_hit : ∀ (ws : List Nat) (t : List SV) (i : Nat), i ∈ ws → i < t.length → (maskT ws t)[i]? = some .any
 | d :: ws, t, i, h, hl => by
  show (maskT ws (t.set d .any))[i]? = _
  by_cases h1 : i ∈ ws
  · exact maskT_hit ws _ i h1 (by simpa using hl)
  · rw [maskT_out ws _ i h1]
    rcases List.mem_cons.1 h with rfl | h2
    · rw [List.getElem?_set_self hl]
    · exact absurd h2 h1
theorem maskT_le (ws : List Nat) (t : List SV) : leL t (maskT ws t) := leL_get (maskT_len ws t).symm fun i s s' hs hs' => by
 rcases maskT_in ws t i s' hs' with rfl | ⟨_, h2⟩
 · exact .inl rfl
 · rw [hs] at h2; cases h2; exact .inr rfl

theorem c2_all {all : Array Oper} (h2 : IsC2 P all c) {L : Array Bool} (hL : L.size = 8) (hr : Region.ready .any all L = []) : ∀ i, i < 8 → L.getD i false = true := by
 intro i
 induction i using Nat.strongRecOn with
 | _ i ih =>
  intro hi
  cases hb : L.getD i false with
  | true => rfl
  | false =>
   have hlt : i < all.size := by rw [h2.size]; exact hi
   have : i ∈ Region.ready .any all L := mem_ready.2 ⟨by
    have h1 : i < L.size := by omega
    simpa [h1] using hb, all[i], Array.getElem?_eq_getElem hlt, fun e he _ => by
    have := h2.top i _ (Array.getElem?_eq_getElem hlt) e he
    exact ih e.on this (by omega)⟩
   rw [hr] at this; cases this

theorem sound_c2 {all : Array Oper} {id h : Nat} {T' : TypeId} (hm : P.follows .mixedOrders = true) (h2 : IsC2 P all c) (hok : c.ty.ok c.x) (hp : t[c.p]? = some (.ptr h 0)) (hH : H[h]? = some (.cells T' (c.ty.cells c.x)))
 (hlen : ∀ d ∈ [c.d0, c.d1, c.d2, c.d3, c.d4, c.d5], d < t.length) (hns : noStop k = true)
 (hfresh : ∀ (q : Nat → Prop) (w0 : World) (vs : List Value), c.ty.rel q w0 c.x vs → PCZ q w0 P c.f [.agg (rawL vs)] (.agg (c.ty.cells c.x))) (hpc : PC P c.f [.agg (c.ty.cells c.x)] (.agg (c.ty.cells c.x)))
 (hk : ∀ (q : Nat → Prop) (w1 : World) (N : Nat) (vs : List Value), c.ty.rel q w1 c.x vs → (∀ b, q b → N ≤ b ∧ Unf w1 b) →
  @Sound (frzN q w1 N) P AQ ⟨k0, k, ((maskT [c.d0, c.d1, c.d2, c.d3, c.d4, c.d5] t).set c.d4 (.ptr H.length 0)).set c.d5 (.ptr (H.length + 1) 0), H ++ [.cells c.T (rawL vs), .cells c.T (c.ty.cells c.x)]⟩) :
 @Sound noGhost P AQ ⟨k0, .code (.region id all true) :: k, t, H⟩ := by
 intro E r n C a h0 hd
 simp only [wpT]
 have hds : [c.d0, c.d1, c.d2, c.d3, c.d4, c.d5].Nodup := (List.nodup_cons.1 h2.nd).2
 have hpn : c.p ∉ [c.d0, c.d1, c.d2, c.d3, c.d4, c.d5] := (List.nodup_cons.1 h2.nd).1
 let tm := maskT [c.d0, c.d1, c.d2, c.d3, c.d4, c.d5] t
 have hany : ∀ d ∈ [c.d0, c.d1, c.d2, c.d3, c.d4, c.d5], tm[d]? = some .any := fun d hd => maskT_hit _ _ _ hd (hlen d hd)
 have hp' : tm[c.p]? = some (.ptr h 0) := (maskT_out _ _ _ hpn).trans hp
 have hd' : @Den noGhost E C.drew tm H a := ⟨wd_drew hd.wd, hd.ext.trans (ext_drew C H), ⟨hd.defs.1, trivial⟩, leL_den (maskT_le _ _) (denL_evo (evo_drew C) hd.tmps)⟩
 have hno : ∀ j, (Array.replicate all.size false).getD j false = true → False := fun j hj => by
  rcases Nat.lt_or_ge j all.size with q | q
  · simp [q] at hj
  · simp [q] at hj
 have h00 : C2Inv c E tm H (Array.replicate all.size false) a C.drew.w := ⟨C.drew, [], fun _ => False, 0, 0, rfl, by simp [h2.size], hd', fun h => (hno _ h).elim, fun h => (hno _ h).elim, fun h => (hno _ h).elim, fun h => (hno _ h).elim, fun h => (hno _ h).elim, fun h => (hno _ h).elim, fun h => (hno _ h).elim, fun h => (hno _ h).elim⟩
 refine wpIn_region_any hm (wpAny_inv (C2Inv c E tm H) ?_ (fun L a w i hi hr => c2_step h2 hok hp' hH hany hfresh hpc L a w i hi hr) _ _ _ _ h00 ?_)
 · rintro L a w ⟨C, vs, q, b4, b5, rfl, hL, R⟩ hr
   have hall := c2_all h2 hL hr
   obtain ⟨p1, p2, p3⟩ := R.f1 (hall 1 (by omega))
   obtain ⟨k1, k2, k3, k4⟩ := R.f4 (hall 4 (by omega))
   obtain ⟨n1, n2, n3, n4, us, n5, n6, n7⟩ := R.f5 (hall 5 (by omega))
   have k3 := k3 (hall 1 (by omega))
   have n3 := n3 (hall 1 (by omega))
   have n4 := n4 (hall 4 (by omega))
   have n7 := n7 (hall 7 (by omega))
   have e6 := hall 6 (by omega)
   simp only [e6, if_true] at k4
   let C1 : Cx := { C with ρ := (fun h => if h = C.n then some b4 else C.ρ h), n := C.n + 1 }
   obtain ⟨g1, g2, g3⟩ := wd_more R.den.wd (some b4) (.cells c.T (rawL vs)) (fun b hb => by cases hb; exact ⟨k2.2.2.1, k2.2.1, k2.2.2.2.1⟩) C1 rfl ⟨b4, vs, by simp [C1], k4, rawL_den vs⟩
   have n41 : ¬ OwnB C1 (H ++ [.cells c.T (rawL vs)]) b5 := fun ho => (g3 b5 ho).elim n2.2.2.2.1 fun e => n4 (Option.some.inj e).symm
   let C2 : Cx := { C1 with ρ := (fun h => if h = C1.n then some b5 else C1.ρ h), n := C1.n + 1 }
   obtain ⟨m1, m2, m3⟩ := wd_more g1 (some b5) (.cells c.T (c.ty.cells c.x)) (fun b hb => by cases hb; exact ⟨n2.2.2.1, n2.2.1, n41⟩) C2 rfl ⟨b5, us, by simp [C2], n5, denL_evo (C := C) (C' := C2) ⟨by show C.n ≤ C.n + 1 + 1; omega, fun h hh => by
    have hh : h < C.n := hh
    show (if h = C.n + 1 then _ else if h = C.n then _ else _) = _
    rw [if_neg (by omega), if_neg (by omega)], Keeps.refl _ _, fun _ _ h => h⟩ n7⟩
   have hevo := g2.trans m2
   have hown : ∀ b, OwnB C2 (H ++ [.cells c.T (rawL vs)] ++ [.cells c.T (c.ty.cells c.x)]) b → OwnB C H b ∨ b = b4 ∨ b = b5 := fun b hb => (m3 b hb).elim (fun h => orMap (g3 b h) (fun h => h) fun e => .inl (Option.some.inj e).symm) fun e => .inr (.inr (Option.some.inj e).symm)
   have hn := R.den.wd.n
   have hext : Ext E C2 (H ++ [.cells c.T (rawL vs)] ++ [.cells c.T (c.ty.cells c.x)]) :=
    ⟨R.den.ext.evo.trans hevo, R.den.ext.size, R.den.ext.os, R.den.ext.tape, R.den.ext.output, R.den.ext.frame, R.den.ext.immNew, fun b hb => (hown b hb).elim (R.den.ext.ownNew b) fun e => e.elim (fun e => .inl (e ▸ k2.1)) fun e => .inl (e ▸ n2.1)⟩
   have hlt4 := hany c.d4 (by simp)
   have hlt5 := hany c.d5 (by simp)
   have setSame : ∀ (l : List Value) (i : Nat) (v : Value), l[i]? = some v → l.set i v = l := fun l i v hv => by
    apply List.ext_getElem?
    intro j
    by_cases e : i = j
    · subst e; rw [List.getElem?_set_self (List.getElem?_eq_some_iff.1 hv).1, hv]
    · rw [List.getElem?_set_ne e]
   have ht1 := denL_evo hevo R.den.tmps
   have ht2 := denL_set (i := c.d4) (s := .ptr H.length 0) (v := .pointer (some ⟨b4, 0, none⟩)) ht1 (by
    rw [SV.den]; refine ⟨by show H.length < C.n + 1 + 1; omega, b4, ?_, rfl⟩
    show (if H.length = C.n + 1 then _ else if H.length = C.n then _ else _) = _
    rw [if_neg (by omega), if_pos hn.symm])
   rw [setSame _ _ _ (by simpa using k1)] at ht2
   have ht3 := denL_set (i := c.d5) (s := .ptr (H.length + 1) 0) (v := .pointer (some ⟨b5, 0, none⟩)) ht2 (by
    rw [SV.den]; refine ⟨by show H.length + 1 < C.n + 1 + 1; omega, b5, ?_, rfl⟩
    show (if H.length + 1 = C.n + 1 then _ else _) = _
    rw [if_pos (by omega)])
   rw [setSame _ _ _ (by simpa using n1)] at ht3
   have hz : ZInv q C.w C2 (H ++ [.cells c.T (rawL vs)] ++ [.cells c.T (c.ty.cells c.x)]) := fun b hb => by
    obtain ⟨f0, f1, f2, f3, f4⟩ := p3 b hb
    exact ⟨f1, f2, fun ho => (hown b ho).elim f3 fun e => e.elim (fun e => k3 (e ▸ hb)) fun e => n3 (e ▸ hb), rfl⟩
   have hden : @Den (frzN q C.w E.C.w.heap.size) E C2 ((tm.set c.d4 (.ptr H.length 0)).set c.d5 (.ptr (H.length + 1) 0)) (H ++ [.cells c.T (rawL vs), .cells c.T (c.ty.cells c.x)]) a := by
    have e : H ++ [SObj.cells c.T (rawL vs), .cells c.T (c.ty.cells c.x)] = H ++ [.cells c.T (rawL vs)] ++ [.cells c.T (c.ty.cells c.x)] := by simp
    rw [e]
    exact ⟨m1, hext, ⟨R.den.defs.1, Nat.le_refl _, hz⟩, ht3⟩
   have hs := hk q C.w E.C.w.heap.size vs p2 (fun b hb => ⟨(p3 b hb).1, (p3 b hb).2.2.2.2⟩) E r n C2 a h0 hden
   exact (wpT_ghost (fun e a w hh => conc_ghost (fun _ _ _ _ => trivial) e a w hh) k hns).1 a C.w hs
 · unfold unl
   simpa using List.countP_le_length (p := fun b => !b) (l := (Array.replicate all.size false).toList)
end Go.Sx
namespace Go.Sx
open Go

variable {P : Program} {AQ : Ex → List SV → List SObj → Prop} {k0 : Nat} {k : List It} {t : List SV} {H : List SObj}

def flatC : Code → List Code
 | .seq a b => flatC a ++ flatC b
 | c => [c]
theorem exitT_codes [Ghost] {F : Fence} {n : Nat} {E : EnD} {Q : Exit → Act → World → Prop} {id : Nat} {a : Act} {w : World} {k : List It} : ∀ (l : List Code), exitT F n P E Q id (l.map .code ++ k) a w ↔ exitT F n P E Q id k a w
 | [] => Iff.rfl
 | c :: l => by simp only [List.map_cons, List.cons_append, exitT]; exact exitT_codes l
theorem wpT_flat [Ghost] {F : Fence} {n : Nat} {E : EnD} {Q : Exit → Act → World → Prop} : ∀ (c : Code) (k : List It) (a : Act) (w : World), wpT F n P E Q ((flatC c).map .code ++ k) a w → wpT F n P E Q (.code c :: k) a w
 | .seq x y, k, a, w, h => by
  rw [flatC, List.map_append, List.append_assoc] at h
  have h1 := wpT_flat x _ a w h
  simp only [wpT] at h1 ⊢
  refine wpIn_seq (wpIn_mono h1 fun e a w hq => ?_)
  cases e with
  | normal =>
   have h2 := wpT_flat y k a w hq
   simp only [wpT] at h2
   exact h2
  | exit id => exact (exitT_codes _).1 hq
  | _ => exact hq
 | .skip, _, _, _, h => h
 | .region .., _, _, _, h => h
 | .cond .., _, _, _, h => h
 | .block .., _, _, _, h => h
 | .loop _, _, _, _, h => h
 | .rangeFunc .., _, _, _, h => h
 | .exit _, _, _, _, h => h
 | .scope _, _, _, _, h => h
 | .label _, _, _, _, h => h
 | .goto _, _, _, _, h => h
 | .ret, _, _, _, h => h
 | .refuse .., _, _, _, h => h

def compAll (P : Program) : List Code → Option (List IC)
 | [] => some []
 | c :: cs => match comp P c, compAll P cs with
  | some x, some l => some (x :: l)
  | _, _ => none
theorem compAll_ok : ∀ {cs : List Code} {l : List IC}, compAll P cs = some l → cs.map (comp P) = l.map some
 | [], l, h => by cases h; rfl
 | c :: cs, l, h => by
  unfold compAll at h
  split at h
  · rename_i x l' h1 h2
    cases h
    simp only [List.map_cons, h1, compAll_ok h2]
  · cases h
def splitX (P : Program) : List Code → Option (List IC × Array Oper × List IC)
 | [] => none
 | c :: cs => match comp P c with
  | some x => match splitX P cs with
   | some (l, r, l') => some (x :: l, r, l')
   | none => none
  | none => match c with
   | .region _ all true => match compAll P cs with
    | some l => some ([], all, l)
    | none => none
   | _ => none
theorem splitX_ok : ∀ {cs : List Code} {l : List IC} {r : Array Oper} {l' : List IC}, splitX P cs = some (l, r, l') → ∃ (cs1 : List Code) (id : Nat) (cs2 : List Code), cs = cs1 ++ .region id r true :: cs2 ∧ cs1.map (comp P) = l.map some ∧ cs2.map (comp P) = l'.map some
 | [], _, _, _, h => by cases h
 | c :: cs, l, r, l', h => by
  unfold splitX at h
  split at h
  · rename_i x hx
    split at h
    · rename_i l1 r1 l1' h1
      cases h
      obtain ⟨cs1, id, cs2, rfl, g1, g2⟩ := splitX_ok h1
      exact ⟨c :: cs1, id, cs2, rfl, by simp only [List.map_cons, hx, g1], g2⟩
    · cases h
  · split at h
    · rename_i id all _
      split at h
      · rename_i l1 h1
        cases h
        exact ⟨[], id, cs, rfl, rfl, compAll_ok h1⟩
      · cases h
    · cases h
structure XI where
 ntmps : Nat
 results : List ResultVar
 pre : List IC
 reg : Array Oper
 post : List IC
def xinfo (P : Program) (f : FuncId) : Option XI :=
 match P.funcs[f]? with
 | some fn => match fn.body with
  | some c => match splitX P (flatC c) with
   | some (l, r, l') => if fn.name == "runtime.NumGoroutine" then none else some ⟨fn.ntmps, fn.results.toList, l, r, l'⟩
   | none => none
  | none => none
 | none => none
def xreg (P : Program) (f : FuncId) : Array Oper := match xinfo P f with
 | some xi => xi.reg
 | none => #[]

theorem rel_codes' : ∀ {cs : List Code} {l : List IC}, cs.map (comp P) = l.map some → RelT P (l.map .ic) (cs.map .code)
 | [], [], _ => rfl
 | c :: cs, ic :: l, h => by
  simp only [List.map_cons, List.cons.injEq] at h
  exact ⟨c, _, rfl, h.1, rel_codes' h.2⟩
 | [], _ :: _, h => by simp at h
 | _ :: _, [], h => by simp at h
theorem noStop_codes : ∀ (cs : List Code), noStop (cs.map .code) = true
 | [] => rfl
 | _ :: cs => noStop_codes cs
def AtReg (P : Program) (AQ : Ex → List SV → List SObj → Prop) (k0 : Nat) (xi : XI) (t : List SV) (H : List SObj) : Prop :=
 ∀ (id : Nat) (k : List It), noStop k = true → RelT P (xi.post.map .ic) k → @Sound noGhost P AQ ⟨k0, .code (.region id xi.reg true) :: k, t, H⟩
theorem vc_xi {f : FuncId} {xi : XI} {args : List SV} {K : Out → List SObj → Prop} (h : xinfo P f = some xi)
 (hs : @SoundI noGhost P (retF P xi.results K) ⟨H.length, xi.pre.map .ic ++ [.stop (AtReg P (retF P xi.results K) H.length xi)], args ++ List.replicate (xi.ntmps - args.length) .any, H⟩) : VC P f args H K := by
 unfold xinfo at h
 split at h
 · rename_i fn hf
   split at h
   · rename_i c hb
     split at h
     · rename_i l r l' hsp
       split at h
       · cases h
       · rename_i hn
         cases h
         refine ⟨by simp [enters, hf, hb]; simpa using hn, ?_⟩
         have hq : retQ P fn K = retF P fn.results.toList K := by funext e t H; cases e <;> rfl
         obtain ⟨cs1, id, cs2, hcs, g1, g2⟩ := splitX_ok hsp
         refine vcall_enter hf hb ?_
         rw [hq]
         intro E r n C a h0 hd
         refine wpT_flat c [] a C.w ?_
         rw [List.append_nil, hcs, List.map_append]
         have h1 := soundI_get hs (rel_codes g1) E r n C a h0 hd
         refine wpT_splice (Q1 := conc E (retF P fn.results.toList K)) (fun e a w _ h => h) (fun id a w ⟨_, _, _, hq, _⟩ => hq) (fun a C t H hΦ hd => ?_) cs1 a C.w h1
         exact hΦ id (cs2.map .code) (noStop_codes cs2) (rel_codes' g2) E r n C a h0 hd
     · cases h
   · cases h
 · cases h
def ckOp (all : Array Oper) (i : Nat) (d : Option Nat) (p : Op → Bool) : Bool := match all[i]? with
 | some o => p o.op && decide (o.dst = d) && o.guard.isNone
 | none => false
theorem ckOp_ok {all : Array Oper} {i : Nat} {d : Option Nat} {p : Op → Bool} (h : ckOp all i d p = true) : ∃ o, all[i]? = some o ∧ p o.op = true ∧ o.dst = d ∧ o.guard = none := by
 unfold ckOp at h
 split at h
 · rename_i o ho
   simp only [Bool.and_eq_true, decide_eq_true_eq, Option.isNone_iff_eq_none] at h
   exact ⟨o, ho, h.1.1, h.1.2, h.2⟩
 · cases h
def ckNeed (all : Array Oper) (i j : Nat) : Bool := match all[i]? with
 | some o => o.after.toList.any fun e => Region.binds .any e && decide (e.on = j)
 | none => false
theorem ckNeed_ok {all : Array Oper} {i j : Nat} {o : Oper} (ho : all[i]? = some o) (h : ckNeed all i j = true) : needs o j := by
 unfold ckNeed at h
 rw [ho] at h
 simp only [List.any_eq_true, Bool.and_eq_true, decide_eq_true_eq] at h
 obtain ⟨e, he, h1, h2⟩ := h
 exact ⟨e, by simpa using he, h1, h2⟩
def isLoad (T p : Nat) : Op → Bool
 | .load T' (.tmp p') => decide (T' = T) && decide (p' = p)
 | _ => false
theorem isLoad_ok {T p : Nat} {o : Op} (h : isLoad T p o = true) : o = .load T (.tmp p) := by
 unfold isLoad at h
 split at h
 · simp only [Bool.and_eq_true, decide_eq_true_eq] at h; rw [h.1, h.2]
 · cases h
def isAlloc (T : Nat) : Op → Bool
 | .alloc T' => decide (T' = T)
 | _ => false
theorem isAlloc_ok {T : Nat} {o : Op} (h : isAlloc T o = true) : o = .alloc T := by
 unfold isAlloc at h
 split at h
 · simp only [decide_eq_true_eq] at h; rw [h]
 · cases h
def isStore (T p v : Nat) : Op → Bool
 | .store T' (.tmp p') (.tmp v') => decide (T' = T) && decide (p' = p) && decide (v' = v)
 | _ => false
theorem isStore_ok {T p v : Nat} {o : Op} (h : isStore T p v o = true) : o = .store T (.tmp p) (.tmp v) := by
 unfold isStore at h
 split at h
 · simp only [Bool.and_eq_true, decide_eq_true_eq] at h; rw [h.1.1, h.1.2, h.2]
 · cases h
def isCall1 (f d : Nat) : Op → Bool
 | .call cl => match cl.callee, cl.args.toList with
  | .value (.func f'), [.tmp d'] => decide (f' = f) && decide (d' = d)
  | _, _ => false
 | _ => false
theorem isCall1_ok {f d : Nat} {o : Op} (h : isCall1 f d o = true) : ∃ cl, o = .call cl ∧ cl.callee = .value (.func f) ∧ cl.args = #[.tmp d] := by
 unfold isCall1 at h
 split at h
 · rename_i cl
   split at h
   · rename_i f' d' h1 h2
     simp only [Bool.and_eq_true, decide_eq_true_eq] at h
     refine ⟨cl, rfl, by rw [h1, h.1], ?_⟩
     rw [h.2] at h2
     exact Array.toList_inj.1 h2
   · cases h
 · cases h
def isC2B (P : Program) (all : Array Oper) (c : C2P) : Bool :=
 decide (all.size = 8) && ((List.range all.size).all fun i => match all[i]? with
  | some o => o.after.toList.all fun e => decide (e.on < i)
  | none => true) &&
 (ckOp all 0 (some c.d0) (isLoad c.T c.p) && ckOp all 1 (some c.d1) (isCall1 c.f c.d0) && ckOp all 2 (some c.d2) (isLoad c.T c.p) && ckOp all 3 (some c.d3) (isCall1 c.f c.d2) && ckOp all 4 (some c.d4) (isAlloc c.T) && ckOp all 5 (some c.d5) (isAlloc c.T) && ckOp all 6 none (isStore c.T c.d4 c.d1) && ckOp all 7 none (isStore c.T c.d5 c.d3)) &&
 (ckNeed all 1 0 && ckNeed all 3 2 && ckNeed all 6 4 && ckNeed all 6 1 && ckNeed all 7 5 && ckNeed all 7 3) && enters P c.f && decide ([c.p, c.d0, c.d1, c.d2, c.d3, c.d4, c.d5].Nodup)
theorem isC2_of {all : Array Oper} {c : C2P} (h : isC2B P all c = true) (ag : aggOf P c.T = some (some c.m)) (zero : (P.info? c.T).bind (fun i => i.zero.map (·.cells.toList)) = some c.zs) (zlen : c.zs.length = c.m) (tsz : c.ty.size = c.m) : IsC2 P all c := by
 unfold isC2B at h
 simp only [Bool.and_eq_true, decide_eq_true_eq] at h
 obtain ⟨⟨⟨⟨⟨hs, ht⟩, ⟨⟨⟨⟨⟨⟨⟨k0, k1⟩, k2⟩, k3⟩, k4⟩, k5⟩, k6⟩, k7⟩⟩, ⟨⟨⟨⟨⟨n1, n3⟩, n64⟩, n61⟩, n75⟩, n73⟩⟩, he⟩, hn⟩ := h
 obtain ⟨o0, a0, b0, c0, g0⟩ := ckOp_ok k0
 obtain ⟨o1, a1, b1, c1, g1⟩ := ckOp_ok k1
 obtain ⟨o2, a2, b2, c2, g2⟩ := ckOp_ok k2
 obtain ⟨o3, a3, b3, c3, g3⟩ := ckOp_ok k3
 obtain ⟨o4, a4, b4, c4, g4⟩ := ckOp_ok k4
 obtain ⟨o5, a5, b5, c5, g5⟩ := ckOp_ok k5
 obtain ⟨o6, a6, b6, c6, g6⟩ := ckOp_ok k6
 obtain ⟨o7, a7, b7, c7, g7⟩ := ckOp_ok k7
 obtain ⟨cl1, e1, e2, e3⟩ := isCall1_ok b1
 obtain ⟨cl3, e4, e5, e6⟩ := isCall1_ok b3
 refine ⟨hs, fun i o ho e he => ?_, ⟨o0, a0, isLoad_ok b0, c0, g0⟩, ⟨o1, cl1, a1, e1, e2, e3, c1, g1, ckNeed_ok a1 n1⟩, ⟨o2, a2, isLoad_ok b2, c2, g2⟩, ⟨o3, cl3, a3, e4, e5, e6, c3, g3, ckNeed_ok a3 n3⟩, ⟨o4, a4, isAlloc_ok b4, c4, g4⟩, ⟨o5, a5, isAlloc_ok b5, c5, g5⟩,
  ⟨o6, a6, isStore_ok b6, c6, g6, ckNeed_ok a6 n64, ckNeed_ok a6 n61⟩, ⟨o7, a7, isStore_ok b7, c7, g7, ckNeed_ok a7 n75, ckNeed_ok a7 n73⟩, ag, zero, zlen, tsz, he, hn⟩
 rw [List.all_eq_true] at ht
 have h1 := ht i (List.mem_range.2 (Array.getElem?_eq_some_iff.1 ho).1)
 rw [ho] at h1
 simp only [List.all_eq_true, decide_eq_true_eq] at h1
 exact h1 e (by simpa using he)
end Go.Sx
namespace Go.Sx
open Go

variable {P : Program} {AQ : Ex → List SV → List SObj → Prop} {k0 : Nat} {td : List IT} {t : List SV} {H : List SObj}

def noStopI : List IT → Bool
 | [] => true
 | .ic _ :: k => noStopI k
 | .ops _ :: k => noStopI k
 | .blk _ :: k => noStopI k
 | _ :: _ => false
theorem noStopI_rel : ∀ {td : List IT} {r : List It}, RelT P td r → noStopI td = true → noStop r = true
 | [], r, h, _ => by cases h; rfl
 | .ic c :: k, r, h, hs => by obtain ⟨c', r', rfl, _, hr⟩ := h; exact (noStopI_rel (td := k) (r := r') hr hs : noStop r' = true)
 | .ops l :: k, r, h, hs => by obtain ⟨all, idx, r', rfl, _, hr⟩ := h; exact (noStopI_rel (td := k) (r := r') hr hs : noStop r' = true)
 | .blk id :: k, r, h, hs => by obtain ⟨r', rfl, hr⟩ := h; exact (noStopI_rel (td := k) (r := r') hr hs : noStop r' = true)

theorem scr_of {q : Nat → Prop} {w1 : World} {N b0 : Nat} {E : EnD} {C C' : Cx} {a : Act} (hd : @Den (frzN q w1 N) E C t H a) (hq : ∀ b, q b → N ≤ b ∧ Unf w1 b) (hw : Wd C' H) (hx : Ext ⟨C, H⟩ C' H) (hf : Far E C' H b0) :
 SInv (fun b => q b ∨ b = b0) C'.w E.toEn C' H ∧ ∀ (ty : Ty) (x : ty.den) (vs : List Value), ty.rel q w1 x vs → ty.rel (fun b => q b ∨ b = b0) C'.w x vs := by
 have hz : ZInv q w1 C H := hd.defs.2.2
 have hN : E.C.w.heap.size ≤ N := hd.defs.2.1
 have hz' : ∀ b, q b → Far E C' H b ∧ C'.w.heap[b]? = w1.heap[b]? := fun b hb => by
  obtain ⟨g1, g2, g3, g4⟩ := hz b hb
  obtain ⟨k1, k2⟩ := (show Far E C H b from ⟨Nat.le_trans hN (hq b hb).1, g1, g2, g3, (hq b hb).2.keep g4⟩).ext hx
  exact ⟨k1, k2.trans g4⟩
 refine ⟨fun b hb => ?_, fun ty x vs h => Ty.rel_keep (fun b hb => ⟨.inl hb, (hz' b hb).2⟩) _ _ _ h⟩
 have hfar : Far E C' H b := hb.elim (fun h => (hz' b h).1) fun h => h ▸ hf
 exact ⟨.inl hfar.1, hfar.2.1, hfar.2.2.1, hfar.2.2.2.1, hfar.2.2.2.2, .inl rfl⟩

theorem not_bsl {op : Op} {ty : Ty} {n sz : Nat} {zs : List Value} {ps : List (Nat × Operand)} (h : compOp P op = some (.bsl ty n sz zs ps)) (hn : ∀ T n ps, op ≠ .buildSlice T n ps) : False := by
 unfold compOp at h
 repeat' split at h
 all_goals first
  | exact hn _ _ _ rfl
  | contradiction
  | (simp only [Option.bind_eq_some_iff, Option.map_eq_some_iff, Option.some.injEq, reduceCtorEq, and_false, exists_false] at h; done)
  | (simp [Option.bind_eq_some_iff] at h; done)
theorem si_litz {q : Nat → Prop} {w1 : World} {N : Nat} {l : List OpI} {d sz : Nat} {ty : Ty} {x : ty.den} {zs us : List Value} {ps : List (Nat × Operand)} (hsz : sz = ty.size) (hf : fillS (PlaceK.arr sz).fn (rawL zs) (ps.map fun p => (p.1, evT t p.2)) = some (rawL us)) (hr : ty.rel q w1 x us)
 (hq : ∀ b, q b → N ≤ b ∧ Unf w1 b) (hns : noStopI td = true)
 (hk : ∀ (q' : Nat → Prop) (w' : World) (v : Value), (∀ (ty : Ty) (x : ty.den) (vs : List Value), ty.rel q w1 x vs → ty.rel q' w' x vs) → Sl q' w' ty [x] v → @SoundI (scrG q' w') P AQ ⟨k0, .ops l :: td, putT t (some d) (.raw v), H⟩) :
 @SoundI (frzN q w1 N) P AQ ⟨k0, .ops (⟨some d, .bsl ty 1 sz zs ps, none⟩ :: l) :: td, t, H⟩ := @soundI_plain (frzN q w1 N) P AQ k0 t H _ (fun td' hr' => by
 obtain ⟨all, idx, r, rfl, ho, hrel⟩ := hr'
 cases idx with
 | nil => exact ho.elim
 | cons i idx =>
  obtain ⟨⟨o, ho1, ho2⟩, ho⟩ := ho
  obtain ⟨hc, hdst⟩ := compO_op ho2
  simp only at hc hdst
  cases hop : o.op with
  | buildSlice T n parts =>
   rw [hop] at hc
   simp only [compOp] at hc
   split at hc
   · rename_i e hT
     split at hc
     · rename_i ty' sz' zs' h1 h2 h3
       cases hc
       intro E rr n C a h0 hd
       simp only [wpT, wpOpsIn, ho1]
       rw [if_pos (wantedT_ok hd.tmps (by rw [(compO_wanted ho2).1 rfl]))]
       -- the run
       obtain ⟨us', g1, g2⟩ := run_fill_parts (C := C) (ev := evT t) (e := a.eval) (parts := parts) (fun q hq => evT_den hd.tmps q.2) hf
       have := rawL_den_eq g2
       subst this
       have hlen : us'.length = ty.size := ty.rel_size _ _ hr
       obtain ⟨f1, f2, f3, f4⟩ := far_alloc (E := E) (C := C) (tm := t) (H := H) (a := a) (T := e) (zs := us') ⟨hd.wd, hd.ext, ⟨hd.defs.1, trivial⟩, hd.tmps⟩
       have hrun : (execOp a.eval o).run P C.w = .ok (.value (.slice (some ⟨C.w.heap.size, 0, none⟩) 1 1)) (C.w.alloc (.cells us'.toArray e)) := by
        unfold zerosOf at h3
        cases hi : P.info? e with
        | none => simp [hi] at h3
        | some i =>
         simp only [hi] at h3
         cases hz0 : i.zero with
         | none => simp [hz0] at h3
         | some z =>
          simp only [hz0] at h3
          split at h3
          · rename_i hle
            have hsi : i.size = sz := by simpa [hi] using h2
            cases h3
            simp only [execOp, hop, Sem.run_bind, Instr.buildSlice, run_underlying' hT, Result.andThen, run_sizeOf h2, Sem.run_ite]
            rw [hsi] at g1 hle
            rw [if_neg (by omega)]
            have hzr : (zeroValue e).run P C.w = .ok z C.w := by simp [zeroValue, typeInfo, hi, hz0]
            have h1' := g1
            simp only [Array.toArray_toList] at h1'
            by_cases h0 : 1 * sz = 0
            · simp only [if_pos h0, Sem.run_pure] at h1' ⊢
              erw [h1']
              simp [newRow]
            · simp only [if_neg h0, hzr, Sem.run_pure] at h1' ⊢
              erw [h1']
              simp [newRow]
          · cases h3
       refine wp_eff (by rw [hop]; intro c hc; cases hc) (.inl hrun) ?_
       rw [← hdst]
       obtain ⟨s1, s2⟩ := scr_of (t := t) hd hq f1 f2 f3
       have hv : Sl (fun b => q b ∨ b = C.w.heap.size) (C.w.alloc (.cells us'.toArray e)) ty [x] (.slice (some ⟨C.w.heap.size, 0, none⟩) 1 1) :=
        ⟨_, 1, 1, rfl, rfl, Nat.le_refl _, by decide, .inr ⟨C.w.heap.size, 0, rfl, .inr rfl, fun j y hy => by
         cases j with
         | zero =>
          simp only [List.getElem?_cons_zero, Option.some.injEq] at hy
          subst hy
          refine ⟨us', s2 ty x us' hr, fun k u hu => ?_⟩
          rw [Nat.zero_mul, Nat.zero_add, cell_of_cells f4]
          exact hu
         | succ j => simp at hy⟩⟩
       have hs := hk _ _ _ s2 hv
       have hd2 : @Den (scrG (fun b => q b ∨ b = C.w.heap.size) (C.w.alloc (.cells us'.toArray e))) E { C with w := C.w.alloc (.cells us'.toArray e) } (putT t (some d) (.raw (.slice (some ⟨C.w.heap.size, 0, none⟩) 1 1))) H (a.put (some d) (.slice (some ⟨C.w.heap.size, 0, none⟩) 1 1)) :=
        ⟨f1, hd.ext.trans f2, ⟨hd.defs.1, s1⟩, putT_den (denL_evo f2.evo hd.tmps) (some d) (by rw [SV.den])⟩
       have h5 := @soundI_get (scrG (fun b => q b ∨ b = C.w.heap.size) (C.w.alloc (.cells us'.toArray e))) P AQ k0 _ H _ (.ops all idx :: r) hs ⟨all, idx, r, rfl, ho, hrel⟩ E rr n _ _ h0 hd2
       have h6 := (@wpT_ghost P (frzN q w1 N) (scrG (fun b => q b ∨ b = C.w.heap.size) (C.w.alloc (.cells us'.toArray e))) (Fw rr) n E (@conc (frzN q w1 N) E AQ) (@conc (scrG (fun b => q b ∨ b = C.w.heap.size) (C.w.alloc (.cells us'.toArray e))) E AQ)
        (fun ex a w hh => @conc_ghost AQ (frzN q w1 N) (scrG (fun b => q b ∨ b = C.w.heap.size) (C.w.alloc (.cells us'.toArray e))) E (fun _ _ _ _ => trivial) ex a w hh) (.ops all idx :: r) (show noStop r = true from noStopI_rel (td := td) (r := r) hrel hns)).1 _ _ h5
       simp only [wpT] at h6
       exact h6
     · cases hc
   · cases hc
  | _ => exact (not_bsl hc (by rw [hop]; intro T n ps h; cases h)).elim) rfl
theorem callN_lend {q : Nat → Prop} {w0 : World} {N : Nat} {f : FuncId} {args args' : List SV} {v : Value} {d : Option Tmp} {m : IM} (hp : PC P f args' (.raw v)) (hl : LendA q w0 args args') (h : @SoundI (frzN q w0 N) P AQ { m with tmps := putT m.tmps d (.raw v) }) :
 @CallI (frzN q w0 N) P AQ f args d m := by
 refine ⟨hp.1, fun E C vs hw hg hv => ?_⟩
 refine (hp.2 [] (PK (.raw v)) rfl (C.lend q) vs (wd_lend hw hg.2) (hl C _ vs hg.2 hv)).mono ?_
 rintro e w' ⟨o, H', C', rfl, rfl, hw', hx, u, rfl, hd⟩
 rw [SV.den] at hd; subst hd
 obtain ⟨g1, g2⟩ := ext_lend (q := q) (w0 := w0) hw hx
 exact ⟨.ret (.raw u), m.heap, { C with w := C'.w }, h, rfl, g1, @Stp.of (frzN q w0 N) E C { C with w := C'.w } m.heap m.heap g2, u, rfl, by rw [SV.den]⟩
end Go.Sx
/- The law on copies: its compact form, and its region of two copies. -/
namespace Go.Proofs.YtddmkgibghohkaaGreatDoor
open Go Go.Sx Go.Proofs
set_option maxRecDepth 100000
set_option maxHeartbeats 4000000

def irx6 (r : Array Oper) : XI := ⟨152, [.tmp 4], [(.reg [o1 2 (.box 31 (.tmp 0)), o1 3 (.box 31 (.tmp 1)), o1 4 (.mov (.const (.bool false)))]), (.reg [o1 12 (.ld (some 17) (.tmp 2)), o1 13 (.call (.func 10) [(.tmp 12)]), o1 14 (.un .not (.tmp 13)), mv 15 14, oF 16 (.ld (some 17) (.tmp 3)) 15, oF 17 (.call (.func 10) [(.tmp 16)]) 15, oF 18 (.un .not (.tmp 17)) 15, o1 19 (.pick (.tmp 15) (.const (.bool true)) (.tmp 18))]), (.cond (.tmp 19) (.seq (.reg [o1 20 (.call (.func 12) []), mv 4 20]) .ret) .skip), (.drw [(true, o1 21 (.ld (some 17) (.tmp 2))), (true, o1 22 (.ld (some 17) (.tmp 3))), (true, o1 24 (.ld (some 17) (.tmp 2))), (true, o1 25 (.ld (some 17) (.tmp 3))), (false, o1 23 (.call (.func 31) [(.tmp 21), (.tmp 22)])), (false, o1 26 (.call (.func 17) [(.tmp 24), (.tmp 25)])), (true, o1 27 (.bin .neq 3 (.tmp 23) (.tmp 26)))]), (.cond (.tmp 27) (.seq (.reg [o1 4 (.mov (.const (.bool false)))]) .ret) .skip)], r, [(.reg [o1 32 (.ld (some 17) (.tmp 5)), o1 33 (.ld (some 17) (.tmp 2)), o1 34 (.call (.func 17) [(.tmp 32), (.tmp 33)]), o1 35 (.un .not (.tmp 34))]), (.cond (.tmp 35) (.seq (.reg [o1 4 (.mov (.const (.bool false)))]) .ret) .skip), (.reg [o1 36 (.fa 0 (.tmp 5)), o1 37 (.ld (some 2) (.tmp 36)), o1 38 (.bsl (.prod (.slice .str) .str) 1 2 [(.slice none 0 0), (.string ⟨#[]⟩)] [(0, (.tmp 37))]), o1 39 (.call (.func 29) [(.tmp 38)])]), (.reg [o1 40 (.fa 2 (.tmp 5)), o1 41 (.ld none (.tmp 40)), o1 42 (.call (.func 29) [(.tmp 41)])]), (.reg [o1 43 (.fa 14 (.tmp 5)), o1 44 (.ld none (.tmp 43)), o1 45 (.call (.func 29) [(.tmp 44)])]), (.reg [o1 46 (.fa 15 (.tmp 5)), o1 47 (.ld none (.tmp 46)), o1 48 (.call (.func 29) [(.tmp 47)])]), (.reg [o1 7 (.mov (ci 0))]), (.blk 0 (.loop (.seq (.seq (.reg [mv 49 7, o1 50 (.fa 5 (.tmp 5)), o1 51 (.ld none (.tmp 50)), o1 52 (.len false (.tmp 51)), o1 53 (.bin .lss 0 (.tmp 49) (.tmp 52))]) (.cond (.tmp 53) .skip (.exit 0))) (.seq (.blk 1 (.seq (.seq (.reg [o1 8 (.mov (ci 0))]) (.blk 2 (.loop (.seq (.seq (.reg [mv 56 8, o1 57 (.fa 5 (.tmp 5)), o1 58 (.ld none (.tmp 57)), mv 59 7, o1 60 (.ia 5 (.tmp 58) (.tmp 59)), o1 61 (.fa 1 (.tmp 60)), o1 62 (.ld none (.tmp 61)), o1 63 (.len false (.tmp 62)), o1 64 (.bin .lss 0 (.tmp 56) (.tmp 63))]) (.cond (.tmp 64) .skip (.exit 2))) (.seq (.blk 3 (.seq (.seq (.reg [o1 9 (.mov (ci 0))]) (.blk 4 (.loop (.seq (.seq (.reg [mv 67 9, o1 68 (.fa 5 (.tmp 5)), o1 69 (.ld none (.tmp 68)), mv 70 7, o1 71 (.ia 5 (.tmp 69) (.tmp 70)), o1 72 (.fa 1 (.tmp 71)), o1 73 (.ld none (.tmp 72)), mv 74 8, o1 75 (.ia 3 (.tmp 73) (.tmp 74)), o1 76 (.fa 2 (.tmp 75)), o1 77 (.ld none (.tmp 76)), o1 78 (.len false (.tmp 77)), o1 79 (.bin .lss 0 (.tmp 67) (.tmp 78))]) (.cond (.tmp 79) .skip (.exit 4))) (.seq (.blk 5 (.reg [o1 82 (.fa 5 (.tmp 5)), o1 83 (.ld none (.tmp 82)), mv 84 7, o1 85 (.ia 5 (.tmp 83) (.tmp 84)), o1 86 (.fa 1 (.tmp 85)), o1 87 (.ld none (.tmp 86)), mv 88 8, o1 89 (.ia 3 (.tmp 87) (.tmp 88)), o1 90 (.fa 2 (.tmp 89)), o1 91 (.ld none (.tmp 90)), mv 92 9, o1 93 (.ia 1 (.tmp 91) (.tmp 92)), o1 94 (.ld none (.tmp 93)), o1 95 (.bin .add 0 (.tmp 94) (.const (.int .u8 1))), o1 96 (.ia 1 (.tmp 91) (.tmp 92)), o0 (.st 1 (.tmp 96) (.tmp 95))])) (.reg [mv 80 9, o1 81 (.bin .add 0 (.tmp 80) (ci 1)), mv 9 81])))))) (.reg [o1 97 (.fa 5 (.tmp 5)), o1 98 (.ld none (.tmp 97)), mv 99 7, o1 100 (.ia 5 (.tmp 98) (.tmp 99)), o1 101 (.fa 1 (.tmp 100)), o1 102 (.ld none (.tmp 101)), mv 103 8, o1 104 (.ia 3 (.tmp 102) (.tmp 103)), o1 105 (.fa 0 (.tmp 104)), o1 106 (.ld none (.tmp 105)), o1 107 (.bin .add 0 (.tmp 106) (ci 1)), o1 108 (.ia 3 (.tmp 102) (.tmp 103)), o1 109 (.fa 0 (.tmp 108)), o0 (.st 1 (.tmp 109) (.tmp 107))]))) (.reg [mv 65 8, o1 66 (.bin .add 0 (.tmp 65) (ci 1)), mv 8 66])))))) (.reg [o1 110 (.fa 5 (.tmp 5)), o1 111 (.ld none (.tmp 110)), mv 112 7, o1 113 (.ia 5 (.tmp 111) (.tmp 112)), o1 114 (.fa 0 (.tmp 113)), o1 115 (.ld none (.tmp 114)), o1 116 (.bin .add 0 (.tmp 115) (ci 1)), o1 117 (.ia 5 (.tmp 111) (.tmp 112)), o1 118 (.fa 0 (.tmp 117)), o0 (.st 1 (.tmp 118) (.tmp 116))]))) (.reg [mv 54 7, o1 55 (.bin .add 0 (.tmp 54) (ci 1)), mv 7 55]))))), (.reg [o1 10 (.mov (ci 0))]), (.blk 6 (.loop (.seq (.seq (.reg [mv 119 10, o1 120 (.fa 16 (.tmp 5)), o1 121 (.ld none (.tmp 120)), o1 122 (.len false (.tmp 121)), o1 123 (.bin .lss 0 (.tmp 119) (.tmp 122))]) (.cond (.tmp 123) .skip (.exit 6))) (.seq (.blk 7 (.seq (.reg [o1 11 (.mov (ci 0))]) (.blk 8 (.loop (.seq (.seq (.reg [mv 126 11, o1 127 (.fa 16 (.tmp 5)), o1 128 (.ld none (.tmp 127)), mv 129 10, o1 130 (.ia 1 (.tmp 128) (.tmp 129)), o1 131 (.ld none (.tmp 130)), o1 132 (.len false (.tmp 131)), o1 133 (.bin .lss 0 (.tmp 126) (.tmp 132))]) (.cond (.tmp 133) .skip (.exit 8))) (.seq (.blk 9 (.reg [o1 136 (.fa 16 (.tmp 5)), o1 137 (.ld none (.tmp 136)), mv 138 10, o1 139 (.ia 1 (.tmp 137) (.tmp 138)), o1 140 (.ld none (.tmp 139)), mv 141 11, o1 142 (.ia 1 (.tmp 140) (.tmp 141)), o1 143 (.ld none (.tmp 142)), o1 144 (.bin .add 0 (.tmp 143) (.const (.int .u8 1))), o1 145 (.ia 1 (.tmp 140) (.tmp 141)), o0 (.st 1 (.tmp 145) (.tmp 144))])) (.reg [mv 134 11, o1 135 (.bin .add 0 (.tmp 134) (ci 1)), mv 11 135]))))))) (.reg [mv 124 10, o1 125 (.bin .add 0 (.tmp 124) (ci 1)), mv 10 125]))))), (.reg [o1 146 (.ld (some 17) (.tmp 6)), o1 147 (.ld (some 17) (.tmp 2)), o1 148 (.call (.func 17) [(.tmp 146), (.tmp 147)]), mv 149 148, oT 150 (.call (.func 12) []) 149, o1 151 (.pick (.tmp 149) (.tmp 150) (.const (.bool false))), mv 4 151]), .ret]⟩
theorem fix6 : xinfo Tryz.prog 6 = some (irx6 (xreg Tryz.prog 6)) := by kernel_rfl
attribute [go_sem] irx6

def c2law (e : Ent) : C2P := { f := 27, p := 2, d0 := 28, d1 := 29, d2 := 30, d3 := 31, d4 := 5, d5 := 6, T := 31, m := 17, zs := [.slice none 0 0, .string ⟨#[]⟩, .slice none 0 0, .int .u32 0, .int .i64 0, .slice none 0 0, .string ⟨#[]⟩, .int .i64 0, .int .i64 0, .int .i64 0, .int .i64 0, .int .i64 0, .int .i64 0, .int .i64 0, .slice none 0 0, .slice none 0 0, .slice none 0 0], ty := EntT, x := e }
theorem is_c2law (e : Ent) : IsC2 Tryz.prog (xreg Tryz.prog 6) (c2law e) :=
 isC2_of (by kernel_rfl) (by kernel_rfl) (by kernel_rfl) rfl rfl

variable {q : Nat → Prop} {w0 : World}
theorem rel_sl' {t : Ty} {xs : List t.den} {vs : List Value} (h : (Ty.slice t).rel q w0 xs vs) : ∃ A c, vs = [.slice A xs.length c] ∧ Sl q w0 t xs (.slice A xs.length c) := by
 obtain ⟨A, n, c, rfl, h1⟩ := rel_sl h
 obtain ⟨A', c', h2, _⟩ := h1.out
 cases h2
 exact ⟨A, c, rfl, h1⟩
theorem rel_ent {e : Ent} {vs : List Value} (hv : EntT.rel q w0 e vs) : ∃ A1 c1 A2 c2 A5 c5 A14 c14 A15 c15 A16 c16,
 vs = [.slice A1 e.1.1.length c1, .string e.1.2, .slice A2 e.2.1.length c2, .int .u32 e.2.2.1, .int .i64 e.2.2.2.1, .slice A5 e.2.2.2.2.1.length c5, .string e.2.2.2.2.2.1, .int .i64 e.2.2.2.2.2.2.1, .int .i64 e.2.2.2.2.2.2.2.1, .int .i64 e.2.2.2.2.2.2.2.2.1, .int .i64 e.2.2.2.2.2.2.2.2.2.1, .int .i64 e.2.2.2.2.2.2.2.2.2.2.1, .int .i64 e.2.2.2.2.2.2.2.2.2.2.2.1, .int .i64 e.2.2.2.2.2.2.2.2.2.2.2.2.1, .slice A14 e.2.2.2.2.2.2.2.2.2.2.2.2.2.1.length c14, .slice A15 e.2.2.2.2.2.2.2.2.2.2.2.2.2.2.1.length c15, .slice A16 e.2.2.2.2.2.2.2.2.2.2.2.2.2.2.2.length c16] ∧
 PrinT.rel q w0 e.1 [.slice A1 e.1.1.length c1, .string e.1.2] ∧ Sl q w0 PrinT e.2.1 (.slice A2 e.2.1.length c2) ∧ Sl q w0 SetT e.2.2.2.2.1 (.slice A5 e.2.2.2.2.1.length c5) ∧ Sl q w0 PrinT e.2.2.2.2.2.2.2.2.2.2.2.2.2.1 (.slice A14 e.2.2.2.2.2.2.2.2.2.2.2.2.2.1.length c14) ∧ Sl q w0 PrinT e.2.2.2.2.2.2.2.2.2.2.2.2.2.2.1 (.slice A15 e.2.2.2.2.2.2.2.2.2.2.2.2.2.2.1.length c15) ∧ Sl q w0 (.slice .u8) e.2.2.2.2.2.2.2.2.2.2.2.2.2.2.2 (.slice A16 e.2.2.2.2.2.2.2.2.2.2.2.2.2.2.2.length c16) := by
 obtain ⟨v1, u1, rfl, r1, hv⟩ := rel_pr hv
 obtain ⟨v2, u2, rfl, r2, hv⟩ := rel_pr hv
 obtain ⟨v3, u3, rfl, r3, hv⟩ := rel_pr hv
 obtain ⟨v4, u4, rfl, r4, hv⟩ := rel_pr hv
 obtain ⟨v5, u5, rfl, r5, hv⟩ := rel_pr hv
 obtain ⟨v6, u6, rfl, r6, hv⟩ := rel_pr hv
 obtain ⟨v7, u7, rfl, r7, hv⟩ := rel_pr hv
 obtain ⟨v8, u8, rfl, r8, hv⟩ := rel_pr hv
 obtain ⟨v9, u9, rfl, r9, hv⟩ := rel_pr hv
 obtain ⟨v10, u10, rfl, r10, hv⟩ := rel_pr hv
 obtain ⟨v11, u11, rfl, r11, hv⟩ := rel_pr hv
 obtain ⟨v12, u12, rfl, r12, hv⟩ := rel_pr hv
 obtain ⟨v13, u13, rfl, r13, hv⟩ := rel_pr hv
 obtain ⟨v14, u14, rfl, r14, hv⟩ := rel_pr hv
 obtain ⟨v15, v16, rfl, r15, r16⟩ := rel_pr hv
 obtain ⟨x1, x2, rfl, p1, p2⟩ := rel_pr r1
 obtain ⟨A1, c1, rfl, s1⟩ := rel_sl' p1
 obtain rfl := rel_str p2
 obtain ⟨A2, c2, rfl, s2⟩ := rel_sl' r2
 obtain rfl := rel_int r3
 obtain rfl := rel_int r4
 obtain ⟨A5, c5, rfl, s5⟩ := rel_sl' r5
 obtain rfl := rel_str r6
 obtain rfl := rel_int r7
 obtain rfl := rel_int r8
 obtain rfl := rel_int r9
 obtain rfl := rel_int r10
 obtain rfl := rel_int r11
 obtain rfl := rel_int r12
 obtain rfl := rel_int r13
 obtain ⟨A14, c14, rfl, s14⟩ := rel_sl' r14
 obtain ⟨A15, c15, rfl, s15⟩ := rel_sl' r15
 obtain ⟨A16, c16, rfl, s16⟩ := rel_sl' r16
 exact ⟨A1, c1, A2, c2, A5, c5, A14, c14, A15, c15, A16, c16, rfl, r1, s2, s5, s14, s15, s16⟩
end Go.Proofs.YtddmkgibghohkaaGreatDoor
/- Contracts: the reference on keys and principals. -/
namespace Go.Proofs.YtddmkgibghohkaaGreatDoor
open Go Go.Sx Go.Proofs
set_option maxRecDepth 100000
set_option maxHeartbeats 4000000
set_option linter.unusedSimpArgs false

def inR (v lo hi : Int) : Bool := decide (lo ≤ v) && decide (v ≤ hi)
theorem strOf_inj {xs ys : List UInt8} : strOf xs = strOf ys ↔ xs = ys := by
 constructor
 · intro h
   have := congrArg (fun s : ByteArray => s.data.toList) h
   simpa [strOf] using this
 · rintro rfl; rfl
theorem rsk_c (a b : Key) : PC Tryz.prog 57 [.agg (KeyT.cells a), .agg (KeyT.cells b)] (rB (decide (a = b))) := by
 obtain ⟨p, v, l⟩ := a
 obtain ⟨p', v', l'⟩ := b
 refine pc_of rfl rfl ?_
 refine runE mixed fi57 ?_ <;> try with_reducible exact True.intro
 repeat' (first
  | (with_reducible refine And.intro ?_ ?_)
  | (with_reducible intro _))
 all_goals (simp_all [strOf_inj])

def eqAt {α : Type} [DecidableEq α] (l l' : List α) (d : α) (j : Nat) : Bool := decide (l.getD j d = l'.getD j d)
theorem sameN {α : Type} [DecidableEq α] (l l' : List α) (d : α) : (l = l') ↔ (l.length = l'.length ∧ allN l.length (eqAt l l' d) = true) := by
 constructor
 · rintro rfl
   exact ⟨rfl, allN_true fun j _ => by simp [eqAt]⟩
 · rintro ⟨h1, h2⟩
   apply List.ext_getElem h1
   intro j g1 g2
   have := allN_iff.1 h2 j g1
   simp only [eqAt, decide_eq_true_eq, List.getD_eq_getElem?_getD, List.getElem?_eq_getElem g1, List.getElem?_eq_getElem g2, Option.getD_some] at this
   exact this
theorem rsp_c (a b : Prin) (ha : PrinT.ok a) : PC Tryz.prog 50 [.agg (PrinT.cells a), .agg (PrinT.cells b)] (rB (decide (a = b))) := by
 obtain ⟨l, r⟩ := a
 obtain ⟨l', r'⟩ := b
 have hl : l.length ≤ 1125899906842624 := ha.1.1
 refine pc_of rfl rfl ?_
 refine runE mixed fi50 ?_ <;> try with_reducible exact True.intro
 repeat' (first
  | (with_reducible refine And.intro ?_ ?_)
  | (with_reducible intro _))
 all_goals (skip)
 · grind
 · refine si_cntD (fun i => [(5, .raw (.int .i64 ((i : Nat) : Int)))]) (l.length) (fun j => (eqAt l l' ByteArray.empty) j = true) (by first | decide | simp) (fun i => rfl) ?_ fun i hi hall => ?_
   · (with_reducible refine sxE ?_ <;> try exact True.intro)
     all_goals (try rfl)
   have hwr : IntKind.i64.wrap ((i : Int) + 1) = ((i + 1 : Nat) : Int) := wrap_succ (by omega)
   refine goE mixed ?_
   have bad : i < (l.length) → (eqAt l l' ByteArray.empty) i = false → allN (l.length) (eqAt l l' ByteArray.empty) = false := fun hlt hv => allN_false hlt hv
   have fin : ¬ i < (l.length) → allN (l.length) (eqAt l l' ByteArray.empty) = true := fun h => allN_true fun j hj => hall j (by omega)
   try dsimp only at bad fin hall
   have key := sameN l l' ByteArray.empty
   repeat' (first
    | (with_reducible refine And.intro ?_ ?_)
    | (with_reducible intro _))
   all_goals (first | (with_reducible (refine (id ?_ : SoundI _ _ _))) | ((try simp only [Ty.dflt] at *); first | omega | (refine ⟨by omega, next_all hall (by grind [eqAt]), ⟨_, by first | rfl | exact List.append_assoc _ _ _ | (simp only [List.append_assoc, List.cons_append, List.nil_append]; rfl)⟩, ?_⟩; simp only [hwr, go_sem, ↓zA, ↓reduceIte, ↓reduceDIte, reduceCtorEq, Nat.reduceAdd, Nat.reduceSub, Nat.reduceLeDiff, Nat.reduceLT, Nat.reduceEqDiff, Nat.reduceBEq, Nat.reduceMul, Int.reduceToNat, Int.reduceEq, Int.reduceLT, Int.reduceLE] <;> (first | rfl | (grind [eqAt]))) | (refine ⟨_, rfl⟩) | (refine ⟨_, List.append_assoc _ _ _⟩) | (grind [eqAt])))
 · grind

end Go.Proofs.YtddmkgibghohkaaGreatDoor
