/- A part of the proof: a symbolic executor over abstract values, and its soundness. -/
import Derived.Test.YtikapabgggphpaaGreatDoorP19
import Derived.Test.YtikapabgggphpaaGreatDoorP17
import Derived.Test.YtikapabgggphpaaGreatDoorP25
set_option linter.all false
set_option linter.unusedSectionVars false
namespace Go.Sx
open Go

variable [Ghost] {P : Program} {AQ : Ex → List SV → List SObj → Prop} {k0 : Nat} {k : List IT} {k' : List It} {t : List SV} {H : List SObj}
variable {all : Array Oper} {G : List Nat} {o : Oper} {ev : Operand → SV} {K : Out → List SObj → Prop}

theorem z0b {n : Nat} {H : List SObj} {ty : Ty} {xs : List ty.den} {rest : List SV} (hxs : xs = []) (hc : SV.cleanL rest = true) : Hand n H H [.agg (.raw (.slice none 0 0) :: rest)] [.agg (.bld n ty xs.length :: rest)] [.row ty xs] := by
 subst hxs
 intro C Cc Hc vs hw hv hwc hn hwe hi hsep
 have hIk : Keeps C.I Cc.I C.w Cc.w := fun b hb => ⟨(hi b).2 hb, by rw [hwe]⟩
 obtain ⟨v, us, rfl, d1, d2⟩ := q0b.1 hv
 rw [q0l] at d2; subst d2
 rw [SV.den] at d1
 obtain ⟨ws, rfl, d1⟩ := d1
 obtain ⟨v, us, rfl, d1, d2⟩ := q0b.1 d1
 rw [SV.den] at d1; subst d1
 obtain ⟨k1, k2, k3⟩ := q6Y hwc none (.row ty []) (fun b h => by cases h) _ rfl (.inl ⟨if_pos rfl, rfl⟩)
 refine ⟨C, { Cc with ρ := (fun h => if h = Cc.n then none else Cc.ρ h), n := Cc.n + 1 }, rfl, rfl, hw, Evo.refl _, fun _ h => h, hwe, rfl, k1, k2, ?_, fun b hb => orMap (k3 b hb) id fun h => by cases h⟩
 refine q0b.2 ⟨_, [], rfl, ?_, q0l.2 rfl⟩
 rw [SV.den]
 refine ⟨_, rfl, q0b.2 ⟨_, us, rfl, ?_, q0D (C := C) (C' := { Cc with ρ := (fun h => if h = Cc.n then none else Cc.ρ h), n := Cc.n + 1 }) hIk hc d2⟩⟩
 rw [SV.den]
 exact ⟨by show n < Cc.n + 1; rw [hwc.n, hn]; omega, .inl ⟨if_pos (by rw [hwc.n, hn]), rfl, rfl⟩⟩

def borrowC (h : Nat) (args : List SV) (H : List SObj) (args' : List SV) : Prop := match H[h]? with
 | some (.row t xs) => xs.length ≤ 1125899906842624 ∧ SV.frzObL h t xs args ∧ SV.frzL h t xs args = args'
 | _ => False
theorem q8m {f : FuncId} {args args' : List SV} {v : Value} (h : Nat) (hb : borrowC h args H args') (hc : SV.cleanL args' = true) (hp : PC P f args' (.raw v)) (hk : K (.ret (.raw v)) H) : VCallG P f args H K := by
 unfold borrowC at hb
 split at hb
 · rename_i ty xs hH
   obtain ⟨hlen, ho, rfl⟩ := hb
   intro E C vs hw hg hv
   obtain ⟨g1, g2⟩ := q9V hw hH
   refine (hp.2 [] (fun o _ => o = .ret (.raw v)) rfl { C.frz h with n := 0 } vs g1.nil (hg.1.tab.nil rfl fun b hb => .inl hb) (q0D (C := C.frz h) (C' := { C.frz h with n := 0 }) (Keeps.refl _ _) hc (q1U hw hH hlen ho hv))).mono ?_
   rintro e w' ⟨o, H', C', rfl, rfl, hw', hx, u, rfl, hd⟩
   rw [SV.den] at hd
   obtain ⟨q1, q2⟩ := z5m (w' := C'.w) hw hx.size (fun b hb => hx.frame b hb fun ⟨i, o, ho, _⟩ => by simp at ho) hx.os hx.tape hx.output
   exact ⟨.ret (.raw v), H, { C with w := C'.w }, hk, rfl, q1, .of q2, u, rfl, by rw [SV.den]; exact hd⟩
 exact hb.elim
theorem q4M {f : FuncId} {args args' : List SV} {v : Value} {d : Option Tmp} {m : IM} (h : Nat) (hb : borrowC h args m.heap args') (hc : SV.cleanL args' = true) (hp : PC P f args' (.raw v)) (hk : SoundI P AQ { m with tmps := putT m.tmps d (.raw v) }) : CallR P AQ G f args d m :=
 ⟨hp.1, q8m h hb hc hp ⟨fun _ => SameG.refl _ _, hk⟩⟩
def atOp (P : Program) (all : Array Oper) (i : Nat) : Option OpI := (all[i]?).bind (compO P all)
theorem q9X {i : Nat} {io : OpI} (h : atOp P all i = some io) : ∃ o, all[i]? = some o ∧ compO P all o = some io := by
 unfold atOp at h
 cases ho : all[i]? with
 | none => rw [ho] at h; cases h
 | some o => rw [ho] at h; exact ⟨o, rfl, h⟩
theorem z8z {i n : Nat} {listed : Array Bool} {io : OpI} {f : FuncId} {args : List SV} {s : SV} (hc : atOp P all i = some io) (hB : (planChk all listed i true && io.guard.isNone) = true) (he : ∀ H', io.op.ev H' (evT t) = .call f args) (hf : enters P f = true)
 (hcall : ∀ (H' : List SObj) (K : Out → List SObj → Prop), K (.ret s) H' → VCallG P f args H' K) (h : AnyV P AQ k0 k' all G n (listed.setIfInBounds i true) (putT t io.dst s) H) : AnyV P AQ k0 k' all G (n + 1) listed t H := by
 obtain ⟨o, ho, hco⟩ := q9X hc
 simp only [Bool.and_eq_true, Option.isNone_iff_eq_none] at hB
 refine q2n (q1k hB.1).1 ho (.inl ⟨(q0n hco).1 hB.2, fun H' _ K hk => q1E (q0x hco).1 (by rw [he H']; exact ⟨hf, hcall H' K hk⟩)⟩) ?_
 rw [← (q0x hco).2]; exact h
theorem q9u {n : Nat} {listed : Array Bool} {l : List (Bool × OpI)} (hpl : planL P all n listed = some l) (hr : RelT P k k') (h : SoundI P AQ ⟨k0, .dops G l :: k, t, H⟩) : AnyV P AQ k0 k' all G n listed t H := h all listed n k' hpl hr
theorem z6e {id m : Nat} (hm : P.follows .mixedOrders = true) (hs : all.size = m) (h : AnyV P AQ k0 k' all G m (Array.replicate m false) t H) : Sound P AQ ⟨k0, .code (.region id all true) :: k', t, H⟩ := q6Q G hm (by rw [hs]; exact h)

end Go.Sx
set_option linter.unusedSectionVars false
namespace Go.Sx
open Go

variable [Ghost] {P : Program} {AQ : Ex → List SV → List SObj → Prop} {k0 : Nat} {k : List IT} {k' : List It} {t : List SV} {H : List SObj}
variable {all : Array Oper} {G : List Nat} {o : Oper}

def AnyK (P : Program) (AQ : Ex → List SV → List SObj → Prop) (k0 : Nat) (k' : List It) (all : Array Oper) (G : List Nat) (n : Nat) (listed : Array Bool) (t : List SV) (H : List SObj) (i : Nat) (d : Option Tmp) : Out → List SObj → Prop
 | .ret s, H' => SameG (gsel all i G) H H' ∧ AnyV P AQ k0 k' all G n (listed.setIfInBounds i true) (putT t d s) H'
 | .pan s, H' => AQ (.pan s) [] H'
theorem z7a {i j n : Nat} {listed : Array Bool} {io jo : OpI} (hci : atOp P all i = some io) (hcj : atOp P all j = some jo) (hB : (Region.ready .any all listed == [i, j] && io.guard.isNone && jo.guard.isNone) = true)
 (hi : (io.op.ev H (evT t)).to P H (AnyK P AQ k0 k' all G n listed t H i io.dst)) (hj : (jo.op.ev H (evT t)).to P H (AnyK P AQ k0 k' all G n listed t H j jo.dst)) : AnyV P AQ k0 k' all G (n + 1) listed t H := by
 obtain ⟨oi, hoi, hcoi⟩ := q9X hci
 obtain ⟨oj, hoj, hcoj⟩ := q9X hcj
 simp only [Bool.and_eq_true, Option.isNone_iff_eq_none, beq_iff_eq] at hB
 refine ⟨fun h0 => (by rw [hB.1.1] at h0; cases h0), fun m hm => ?_⟩
 rw [hB.1.1] at hm
 have hK : ∀ {x : Nat} {ox : Oper} {xo : OpI}, compO P all ox = some xo → xo.dst = ox.dst → (xo.op.ev H (evT t)).to P H (AnyK P AQ k0 k' all G n listed t H x xo.dst) → OpV P ox (evT t) H fun
  | .ret s, H' => SameG (gsel all x G) H H' ∧ AnyV P AQ k0 k' all G n (listed.setIfInBounds x true) (putT t ox.dst s) H'
  | .pan s, H' => AQ (.pan s) [] H' := fun {x ox xo} hc hd h => by
  rw [hd] at h
  exact q1E (q0x hc).1 h
 rcases List.mem_cons.1 hm with rfl | hm
 · exact ⟨oi, hoi, .inl ⟨(q0n hcoi).1 hB.1.2, hK hcoi (q0x hcoi).2 hi⟩⟩
 obtain rfl : m = j := by simpa using hm
 exact ⟨oj, hoj, .inl ⟨(q0n hcoj).1 hB.2, hK hcoj (q0x hcoj).2 hj⟩⟩
end Go.Sx
namespace Go.Sx
open Go

variable {P : Program} {AQ : Ex → List SV → List SObj → Prop} {k0 : Nat} {k : List It} {t : List SV} {H : List SObj}

def flatC : Code → List Code
 | .seq a b => flatC a ++ flatC b
 | c => [c]
theorem q5v [Ghost] {F : Fence} {n : Nat} {E : EnD} {Q : Exit → Act → World → Prop} {id : Nat} {a : Act} {w : World} {k : List It} : ∀ (l : List Code), exitT F n P E Q id (l.map .code ++ k) a w ↔ exitT F n P E Q id k a w
 | [] => Iff.rfl
 | c :: l => by simp only [List.map_cons, List.cons_append, exitT]; exact q5v l
theorem q5i [Ghost] {F : Fence} {n : Nat} {E : EnD} {Q : Exit → Act → World → Prop} : ∀ (c : Code) (k : List It) (a : Act) (w : World), wpT F n P E Q ((flatC c).map .code ++ k) a w → wpT F n P E Q (.code c :: k) a w
 | .seq x y, k, a, w, h => by
  rw [flatC, List.map_append, List.append_assoc] at h
  have h1 := q5i x _ a w h
  simp only [wpT] at h1 ⊢
  refine wpIn_seq (wpIn_mono h1 fun e a w hq => ?_)
  cases e with
  | normal =>
   have h2 := q5i y k a w hq
   simp only [wpT] at h2
   exact h2
  | exit id => exact (q5v _).1 hq
  | _ => exact hq
 | .skip, _, _, _, h => h
 | .region .., _, _, _, h => h
 | .cond .., _, _, _, h => h
 | .block .., _, _, _, h => h
 | .loop _, _, _, _, h => h
 | .rangeFunc .., _, _, _, h => h
 | .exit _, _, _, _, h => h
 | .scope _, _, _, _, h => h
 | .label _, _, _, _, h => h
 | .goto _, _, _, _, h => h
 | .ret, _, _, _, h => h
 | .refuse .., _, _, _, h => h

def compAll (P : Program) : List Code → Option (List IC)
 | [] => some []
 | c :: cs => match comp P c, compAll P cs with
  | some x, some l => some (x :: l)
  | _, _ => none
theorem q6G : ∀ {cs : List Code} {l : List IC}, compAll P cs = some l → cs.map (comp P) = l.map some
 | [], l, h => by cases h; rfl
 | c :: cs, l, h => by
  unfold compAll at h
  split at h
  · rename_i x l' h1 h2
    cases h
    simp only [List.map_cons, h1, q6G h2]
  cases h
def splitX (P : Program) : List Code → Option (List IC × Array Oper × List IC)
 | [] => none
 | c :: cs => match comp P c with
  | some x => match splitX P cs with
   | some (l, r, l') => some (x :: l, r, l')
   | none => none
  | none => match c with
   | .region _ all true => match compAll P cs with
    | some l => some ([], all, l)
    | none => none
   | _ => none
theorem q8S : ∀ {cs : List Code} {l : List IC} {r : Array Oper} {l' : List IC}, splitX P cs = some (l, r, l') → ∃ (cs1 : List Code) (id : Nat) (cs2 : List Code), cs = cs1 ++ .region id r true :: cs2 ∧ cs1.map (comp P) = l.map some ∧ cs2.map (comp P) = l'.map some
 | [], _, _, _, h => by cases h
 | c :: cs, l, r, l', h => by
  unfold splitX at h
  split at h
  · rename_i x hx
    split at h
    · rename_i l1 r1 l1' h1
      cases h
      obtain ⟨cs1, id, cs2, rfl, g1, g2⟩ := q8S h1
      exact ⟨c :: cs1, id, cs2, rfl, by simp only [List.map_cons, hx, g1], g2⟩
    cases h
  split at h
  · rename_i id all _
    split at h
    · rename_i l1 h1
      cases h
      exact ⟨[], id, cs, rfl, rfl, q6G h1⟩
    cases h
  cases h
structure XI where
 ntmps : Nat
 results : List ResultVar
 pre : List IC
 reg : Array Oper
 post : List IC
def xinfo (P : Program) (f : FuncId) : Option XI :=
 match P.funcs[f]? with
 | some fn => match fn.body with
  | some c => match splitX P (flatC c) with
   | some (l, r, l') => if fn.name == "runtime.NumGoroutine" then none else some ⟨fn.ntmps, fn.results.toList, l, r, l'⟩
   | none => none
  | none => none
 | none => none
def xreg (P : Program) (f : FuncId) : Array Oper := match xinfo P f with
 | some xi => xi.reg
 | none => #[]

theorem rel_codes' : ∀ {cs : List Code} {l : List IC}, cs.map (comp P) = l.map some → RelT P (l.map .ic) (cs.map .code)
 | [], [], _ => rfl
 | c :: cs, ic :: l, h => by
  simp only [List.map_cons, List.cons.injEq] at h
  exact ⟨c, _, rfl, h.1, rel_codes' h.2⟩
 | [], _ :: _, h => by simp at h
 | _ :: _, [], h => by simp at h
theorem q4N : ∀ (cs : List Code), noStop (cs.map .code) = true
 | [] => rfl
 | _ :: cs => q4N cs
def AtReg (P : Program) (AQ : Ex → List SV → List SObj → Prop) (k0 : Nat) (xi : XI) (t : List SV) (H : List SObj) : Prop :=
 ∀ (id : Nat) (k : List It), noStop k = true → RelT P (xi.post.map .ic) k → @Sound noGhost P AQ ⟨k0, .code (.region id xi.reg true) :: k, t, H⟩
theorem j0U {f : FuncId} {xi : XI} {args : List SV} {K : Out → List SObj → Prop} (h : xinfo P f = some xi)
 (hs : @SoundI noGhost P (retF P xi.results K) ⟨H.length, xi.pre.map .ic ++ [.stop (AtReg P (retF P xi.results K) H.length xi)], args ++ List.replicate (xi.ntmps - args.length) .any, H⟩) : VC P f args H K := by
 unfold xinfo at h
 split at h
 · rename_i fn hf
   split at h
   · rename_i c hb
     split at h
     · rename_i l r l' hsp
       split at h
       · cases h
       rename_i hn
       cases h
       refine ⟨by simp [enters, hf, hb]; simpa using hn, ?_⟩
       have hq : retQ P fn K = retF P fn.results.toList K := by funext e t H; cases e <;> rfl
       obtain ⟨cs1, id, cs2, hcs, g1, g2⟩ := q8S hsp
       refine q6i hf hb ?_
       rw [hq]
       intro E r n C a h0 hd
       refine q5i c [] a C.w ?_
       rw [List.append_nil, hcs, List.map_append]
       have h1 := q0c hs (q5C g1) E r n C a h0 hd
       refine q4D (Q1 := conc E (retF P fn.results.toList K)) (fun e a w _ h => h) (fun id a w ⟨_, _, _, hq, _⟩ => hq) (fun a C t H hΦ hd => ?_) cs1 a C.w h1
       exact hΦ id (cs2.map .code) (q4N cs2) (rel_codes' g2) E r n C a h0 hd
     cases h
   cases h
 cases h
end Go.Sx
namespace Go.Proofs.YtikapabgggphpaaGreatDoor
open Go Go.Sx Go.Proofs
set_option maxRecDepth 100000
set_option maxHeartbeats 40000000
def irx9 (r : Array Oper) : XI := ⟨135, [.tmp 0], [(.reg [o1 0 (.mov (.const (.bool false)))])], r, [(.reg [o1 3 (.mov (ci 0))]), (.blk 0 (.loop (.seq (.seq (.reg [mv 18 3, o1 19 (.bin .lss 0 (.tmp 18) (ci 16))]) (.cond (.tmp 19) .skip (.exit 0))) (.seq (.blk 1 (.reg [mv 22 2, mv 23 3, o1 24 (.ia 1 (.tmp 22) (.tmp 23)), o0 (.st 1 (.tmp 24) (.const (.int .u8 2)))])) (.reg [mv 20 3, o1 21 (.bin .add 0 (.tmp 20) (ci 1)), mv 3 21]))))), (.reg [o1 26 (.ld (some 3) (.tmp 1)), mv 27 2, o1 28 (.call (.func 10) [(.tmp 26), (ci 1000), (ci 5), (.tmp 27)]), mv 25 28, ex 29 0 25, ex 30 1 25, o1 4 (.new 27 [(.int .i64 0), (.slice none 0 0)]), o0 (.st 2 (.tmp 4) (.tmp 29)), mv 5 30]), (.reg [mv 31 5, o1 32 (.call (.func 13) [(.tmp 31)]), o1 33 (.bin .neq 0 (.tmp 32) (ci 0)), mv 34 33, oF 35 (.fa 1 (.tmp 4)) 34, oF 36 (.ld none (.tmp 35)) 34, oF 37 (.len false (.tmp 36)) 34, oF 38 (.bin .neq 0 (.tmp 37) (ci 81)) 34, o1 39 (.pick (.tmp 34) (.const (.bool true)) (.tmp 38)), mv 40 39, oF 41 (.fa 0 (.tmp 4)) 40, oF 42 (.ld none (.tmp 41)) 40, oF 43 (.bin .neq 0 (.tmp 42) (ci 2)) 40, o1 44 (.pick (.tmp 40) (.const (.bool true)) (.tmp 43)), mv 45 44, oF 46 (.ld (some 3) (.tmp 1)) 45, oF 47 (.ld (some 2) (.tmp 4)) 45, oF 48 (.call (.func 23) [(.tmp 46), (.tmp 47), (ci 1300), (ci 300), (ci 1000), (ci 5), (ci 0)]) 45, oF 49 (.un .not (.tmp 48)) 45, o1 50 (.pick (.tmp 45) (.const (.bool true)) (.tmp 49)), mv 51 50, oF 52 (.ld (some 3) (.tmp 1)) 51, oF 53 (.ld (some 2) (.tmp 4)) 51, oF 54 (.call (.func 23) [(.tmp 52), (.tmp 53), (ci 1301), (ci 300), (ci 0), (ci 0), (ci 330)]) 51, oF 55 (.un .not (.tmp 54)) 51, o1 56 (.pick (.tmp 51) (.const (.bool true)) (.tmp 55)), mv 57 56, oF 58 (.ld (some 3) (.tmp 1)) 57, oF 59 (.ld (some 2) (.tmp 4)) 57, oF 60 (.call (.func 23) [(.tmp 58), (.tmp 59), (ci 1000), (.const (.int .i64 (-1))), (ci 0), (ci 0), (ci 2)]) 57, oF 61 (.un .not (.tmp 60)) 57, o1 62 (.pick (.tmp 57) (.const (.bool true)) (.tmp 61))]), (.cond (.tmp 62) (.seq (.reg [o1 0 (.mov (.const (.bool false)))]) .ret) .skip), (.drw [(true, o1 65 (.ld (some 3) (.tmp 1))), (true, o1 67 (.ld (some 2) (.tmp 4))), (false, o1 64 (.call (.func 22) [(.const (.int .u8 3)), (ci 3)])), (false, o1 66 (.bsl (.prod (.int .i64) (.prod (.int .i64) (.slice .u8))) 2 3 [(.int .i64 0), (.int .i64 0), (.slice none 0 0), (.int .i64 0), (.int .i64 0), (.slice none 0 0)] [(0, (.tmp 64)), (1, (.tmp 65))])), (false, o1 68 (.call (.func 19) [(.tmp 66), (.tmp 67), (ci 1000), (ci 0)])), (true, mv 63 68), (true, ex 69 0 63), (true, ex 70 1 63), (true, ex 71 2 63), (true, ex 72 3 63), (true, mv 6 69), (true, mv 7 70), (true, mv 8 71), (true, mv 9 72)]), (.reg [o1 74 (.ld (some 3) (.tmp 1)), mv 75 2, o1 76 (.call (.func 10) [(.tmp 74), (ci 1000), (ci 1000000), (.tmp 75)]), mv 73 76, ex 77 0 73, ex 78 1 73, o1 10 (.new 27 [(.int .i64 0), (.slice none 0 0)]), o0 (.st 2 (.tmp 10) (.tmp 77)), mv 11 78]), (.reg [o1 80 (.ld (some 3) (.tmp 1)), o1 81 (.call (.func 10) [(.tmp 80), (ci 1000), (ci 5), (.const (.slice none 0 0))]), mv 79 81, ex 82 0 79, ex 83 1 79, o1 12 (.new 27 [(.int .i64 0), (.slice none 0 0)]), o0 (.st 2 (.tmp 12) (.tmp 82)), mv 13 83]), (.reg [mv 84 6, o1 85 (.bin .neq 0 (.tmp 84) (ci 1)), mv 86 85, oF 87 (.mov (.tmp 7)) 86, oF 88 (.bin .neq 0 (.tmp 87) (ci 1000)) 86, o1 89 (.pick (.tmp 86) (.const (.bool true)) (.tmp 88)), mv 90 89, oF 91 (.mov (.tmp 8)) 90, oF 92 (.bin .neq 0 (.tmp 91) (ci 5)) 90, o1 93 (.pick (.tmp 90) (.const (.bool true)) (.tmp 92)), mv 94 93, oF 95 (.mov (.tmp 9)) 94, oF 96 (.call (.func 13) [(.tmp 95)]) 94, oF 97 (.bin .neq 0 (.tmp 96) (ci 0)) 94, o1 98 (.pick (.tmp 94) (.const (.bool true)) (.tmp 97)), mv 99 98, oF 100 (.mov (.tmp 11)) 99, oF 101 (.bin .neq 0 (.tmp 100) (ci 2)) 99, o1 102 (.pick (.tmp 99) (.const (.bool true)) (.tmp 101)), mv 103 102, oF 104 (.mov (.tmp 13)) 103, oF 105 (.bin .neq 0 (.tmp 104) (ci 2)) 103, o1 106 (.pick (.tmp 103) (.const (.bool true)) (.tmp 105))]), (.cond (.tmp 106) (.seq (.reg [o1 0 (.mov (.const (.bool false)))]) .ret) .skip), (.reg [o1 107 (.bsl .u8 0 1 [] []), o1 108 (.fa 1 (.tmp 4)), o1 109 (.ld none (.tmp 108)), o1 110 (.app .u8 1 (.tmp 107) (.tmp 109)), o1 111 (.bld [(.int .i64 0), (.slice none 0 0)] (.fields [(0, 1), (1, 1)]) [(0, (ci 2)), (1, (.tmp 110))]), o1 14 (.new 27 [(.int .i64 0), (.slice none 0 0)]), o0 (.st 2 (.tmp 14) (.tmp 111))]), (.reg [o1 112 (.fa 1 (.tmp 14)), o1 113 (.ld none (.tmp 112)), o1 114 (.ia 1 (.tmp 113) (ci 80)), o1 115 (.ld none (.tmp 114)), o1 116 (.bin .add 0 (.tmp 115) (.const (.int .u8 1))), o1 117 (.ia 1 (.tmp 113) (ci 80)), o0 (.st 1 (.tmp 117) (.tmp 116))]), (.reg [o1 118 (.fa 1 (.tmp 4)), o1 119 (.ld none (.tmp 118)), o1 120 (.sl (some 1) (.tmp 119) none (some (ci 80))), o1 121 (.bld [(.int .i64 0), (.slice none 0 0)] (.fields [(0, 1), (1, 1)]) [(0, (ci 2)), (1, (.tmp 120))]), o1 15 (.new 27 [(.int .i64 0), (.slice none 0 0)]), o0 (.st 2 (.tmp 15) (.tmp 121))]), (.drw [(true, o1 122 (.ld (some 3) (.tmp 1))), (true, o1 123 (.ld (some 2) (.tmp 14))), (false, o1 124 (.call (.func 23) [(.tmp 122), (.tmp 123), (ci 1000), (ci 0), (ci 0), (ci 0), (ci 10)])), (true, mv 125 124), (true, oT 126 (.ld (some 3) (.tmp 1)) 125), (true, oT 127 (.ld (some 2) (.tmp 15)) 125), (false, oT 128 (.call (.func 23) [(.tmp 126), (.tmp 127), (ci 1000), (ci 0), (ci 0), (ci 0), (ci 4)]) 125), (true, o1 129 (.pick (.tmp 125) (.tmp 128) (.const (.bool false)))), (true, mv 130 129), (true, oT 132 (.ld (some 2) (.tmp 4)) 130), (false, oT 131 (.call (.func 22) [(.const (.int .u8 1)), (ci 4)]) 130), (false, oT 133 (.call (.func 23) [(.tmp 131), (.tmp 132), (ci 1000), (ci 0), (ci 0), (ci 0), (ci 9)]) 130), (true, o1 134 (.pick (.tmp 130) (.tmp 133) (.const (.bool false)))), (true, mv 0 134)]), .ret]⟩
theorem fix9 : xinfo Tryz.prog 9 = some (irx9 (xreg Tryz.prog 9)) := by kernel_rfl
attribute [go_sem] irx9
theorem z5i {all : Array Oper} {i : Nat} : gsel all i [] = [] := by
 unfold gsel
 split
 · split <;> rfl
 rfl
theorem q4Z {all : Array Oper} {i : Nat} {H H' : List SObj} : SameG (gsel all i []) H H' := fun x h => by rw [z5i] at h; cases h
def knT : List SV := [.raw (.bool false), .ptr 0 0, .bld 1 .u8 16] ++ List.replicate 13 .any ++ [.agg [rI 2, rI 3, .isl .u8 (k32 1)], .bld 1 .u8 16] ++ List.replicate 117 .any
def cfP (i : Nat) : List UInt8 := List.replicate i 2 ++ List.replicate (16 - i) 0
theorem z9o {i : Nat} (hi : i ≤ 16) : (cfP i).length = 16 := by simp [cfP]; omega
theorem z8D {i : Nat} (hi : i < 16) : (cfP i).set i 2 = cfP (i + 1) := by
 unfold cfP
 rw [List.set_append_right _ _ (by simp)]
 simp only [List.length_replicate, Nat.sub_self]
 rw [show 16 - i = (16 - (i + 1)) + 1 by omega, List.replicate_succ, List.set_cons_zero, List.replicate_succ', List.append_assoc]
 rfl
theorem mk1 : PC Tryz.prog 10 [.agg (KeyT.cells (2, 3, k32 1)), rI 1000, rI 5, .isl .u8 conf16] (.tup [.agg [rI 2, .isl .u8 el0], rI 0]) := by
 have h := z8F 3 (k32 1) 1000 5 conf16 (by decide) (by decide) (by rw [q7Q]; decide)
 rw [z7C 3] at h
 exact h
theorem q7v (c : UInt8) : (((UInt8.ofNat (IntKind.u8.wrap ((c.toNat : Int) + 1)).toNat).toNat : Nat) : Int) = IntKind.u8.wrap ((c.toNat : Int) + 1) := by
 rw [u8wrapR, UInt8.toNat_ofNat']
 omega
theorem z7q (c : UInt8) : UInt8.ofNat (IntKind.u8.wrap ((c.toNat : Int) + 1)).toNat = c + 1 := by
 apply UInt8.toNat_inj.mp
 have h := q7v c
 rw [u8wrapR] at *
 rw [UInt8.toNat_add]
 have : (1 : UInt8).toNat = 1 := rfl
 omega
theorem q3y : @SoundI noGhost Tryz.prog (retF Tryz.prog [.tmp 0] (PK (rB true))) ⟨0, (irx9 #[]).post.map .ic, knT, [.cells 24 [rI 2, rI 3, .isl .u8 (k32 1)], .row .u8 (List.replicate 16 0)]⟩ := by
 letI : Ghost := noGhost
 unfold knT
 refine uQ 600 _ ?_
 with_reducible refine sxE ?_
 refine q0p (ι := Nat) (fun i => [(3, rI i)]) (fun i => [.cells 24 [rI 2, rI 3, .isl .u8 (k32 1)], .row .u8 (cfP i)]) (fun i => 16 - i) (fun i => i ≤ 16) 0 (Nat.zero_le _) rfl ?_ ?_
 · with_reducible refine sxE ?_; trivial
 intro i hi
 have hl := z9o hi
 have hwr := wsx i (by omega)
 by_cases h : i < 16
 · have f1 : ((i : Int) < 16) = True := eq_true (by omega)
   refine uQ 600 _ ?_
   simp (maxSteps := 3000000) only [f1, hl, Nat.zero_add, go_sem, ↓zA, ↓reduceIte, ↓reduceDIte] <;> try simp only [zB]
   refine ⟨⟨by omega, by omega⟩, ⟨by omega, by decide⟩, i + 1, h, by dsimp only; omega, ?_, ?_⟩
   · rw [show UInt8.ofNat 2 = 2 from rfl, z8D h]
   with_reducible refine sx1 hwr ?_; trivial
 obtain rfl : i = 16 := by omega
 have f1 : (((16 : Nat) : Int) < 16) = False := eq_false (by omega)
 refine uQ 8 _ ?_
 simp (maxSteps := 3000000) only [f1, hl, go_sem, ↓zA, ↓reduceIte, ↓reduceDIte] <;> try simp only [zB]
 refine q1u 1 rfl rfl (by rw [hl]; decide) ?_ ?_ ?_
 · with_reducible refine sxE ?_; trivial
 · with_reducible refine sxE ?_
   omega
 with_reducible refine sxE ?_
 have hcf : List.take 16 (cfP 16) = conf16 := by decide
 rw [hcf]
 refine uQ 600 _ ?_
 with_reducible refine sxE ?_
 refine q0a mk1 ?_
 have hl81 := q4E
 refine uQ 600 _ ?_
 with_reducible refine sx1 hl81 ?_
 refine q0a (z3V 0) ?_
 have f81 : (((81 : Nat) : Int) = 81) = True := eq_true rfl
 refine uQ 600 _ ?_
 simp (maxSteps := 3000000) only [hl81, f81, go_sem, ↓zA, ↓reduceIte, ↓reduceDIte] <;> try simp only [zB]
 refine q0a (q2c 3 (k32 1) 2 el0 1300 300 1000 5 0 (by rw [q1I]; decide) (by rw [hl81]; decide)) ?_
 rw [ck1]
 refine uQ 600 _ ?_
 with_reducible refine sxE ?_
 refine q0a (q2c 3 (k32 1) 2 el0 1301 300 0 0 330 (by rw [q1I]; decide) (by rw [hl81]; decide)) ?_
 rw [ck2]
 refine uQ 600 _ ?_
 with_reducible refine sxE ?_
 refine q0a (q2c 3 (k32 1) 2 el0 1000 (-1) 0 0 2 (by rw [q1I]; decide) (by rw [hl81]; decide)) ?_
 rw [ck3]
 refine uQ 600 _ ?_
 with_reducible refine sxE ?_
 refine q0e (z4g 3 3) ?_
 refine uQ 600 _ ?_
 with_reducible refine sxE ?_
 refine q0F 3 (by decide) ?_
 with_reducible refine sxE ?_
 have hks : ∀ k ∈ [((2, 3, k32 3) : Key), (2, 3, k32 1)], k.1 = 2 ∧ k.2.2.length ≤ 1048576 := by
  intro k hk
  rcases List.mem_cons.mp hk with rfl | hk
  · exact ⟨rfl, by show (k32 3).length ≤ 1048576; rw [q1I]; decide⟩
  obtain rfl := List.mem_singleton.mp hk
  exact ⟨rfl, by show (k32 1).length ≤ 1048576; rw [q1I]; decide⟩
 refine q0e (z9C [(2, 3, k32 3), (2, 3, k32 1)] 2 el0 1000 0 hks (by decide) (by rw [hl81]; decide)) ?_
 rw [show fnGo 2 el0 1000 0 0 9 [(2, 3, k32 3), (2, 3, k32 1)] = (1, 1000, 5, 0) by rw [fnGo, ck5, fnGo, ck4]; rfl]
 simp only [fnO]
 refine uQ 600 _ ?_
 with_reducible refine sxE ?_
 refine q0a (z9b (2, 3, k32 1) 1000 1000000 conf16 ⟨trivial, trivial, ⟨show (k32 1).length ≤ 1125899906842624 by rw [q1I]; decide, fun _ _ => trivial⟩⟩ (by decide)) ?_
 refine uQ 600 _ ?_
 with_reducible refine sxE ?_
 refine q0a ((z6I 3 (k32 1) 1000 5 [] (by decide) (by decide) (by rw [q7Q]; decide)).arg ?_) ?_
 · with_reducible refine sxE ?_; trivial
 refine uQ 600 _ ?_
 with_reducible refine sxE ?_
 refine q0a (z3V 0) ?_
 refine uQ 600 _ ?_
 simp (maxSteps := 3000000) only [hl81, f81, go_sem, ↓zA, ↓reduceIte, ↓reduceDIte] <;> try simp only [zB]
 refine ⟨q7v _, by omega, ?_⟩
 rw [z7q, show el0.set 80 (el0.getD 80 Ty.u8.dflt + 1) = elX from rfl]
 refine q4M 7 (args' := [.agg [rI 2, rI 3, .isl .u8 (k32 1)], .agg [rI 2, .isl .u8 elX], rI 1000, rI 0, rI 0, rI 0, rI 10]) ?_ rfl (q2c 3 (k32 1) 2 elX 1000 0 0 0 10 (by rw [q1I]; decide) (by rw [q9i]; decide)) ?_
 · unfold borrowC
   simp (maxSteps := 3000000) only [q9i, go_sem, ↓zA, ↓reduceIte, ↓reduceDIte] <;> try simp only [zB]
   all_goals (first | rfl | decide | skip)
 rw [ck7]
 refine uQ 600 _ ?_
 with_reducible refine sxE ?_
 refine q0e (q2c 3 (k32 1) 2 (el0.take 80) 1000 0 0 0 4 (by rw [q1I]; decide) (by rw [List.length_take, hl81]; decide)) ?_
 rw [ck8]
 refine uQ 600 _ ?_
 with_reducible refine sxE ?_
 refine q0e (z4g 1 4) ?_
 refine uQ 600 _ ?_
 with_reducible refine sxE ?_
 refine q0e (q2c 4 (k32 1) 2 el0 1000 0 0 0 9 (by rw [q1I]; decide) (by rw [hl81]; decide)) ?_
 rw [ck6]
 refine uQ 600 _ ?_
 with_reducible refine sxE ?_; trivial
theorem q6W : PC Tryz.prog 9 [] (rB true) := by
 refine q0A rfl rfl ?_
 refine j0U fix9 ?_
 letI : Ghost := noGhost
 refine uQ 600 _ ?_
 generalize hR : xreg Tryz.prog 9 = R
 with_reducible refine sxE ?_
 subst hR
 intro id k hns hrel
 refine z6e (G := []) mixed (m := 5) (by kernel_rfl) ?_
 refine z8z (i := 0) (io := ⟨some 16, .call (.func 22) [.const (.int .u8 1), .const (.int .i64 3)], none⟩) (by kernel_rfl) (by kernel_rfl) (fun H' => rfl) (by kernel_rfl) (s := .agg [rI 2, rI 3, .isl .u8 (k32 1)]) (fun H' K hk => ((z4g 1 3).2 H' K hk).g) ?_
 refine z7a (i := 1) (j := 2) (io := ⟨some 17, .mks .u8 1 (.const (.int .i64 16)) (.const (.int .i64 16)), none⟩) (jo := ⟨some 1, .new 24 [.int .i64 0, .int .i64 0, .slice none 0 0], none⟩) (by kernel_rfl) (by kernel_rfl) (by kernel_rfl) ?_ ?_
 · refine ⟨by decide, q4Z, ?_⟩
   refine q9u (l := [(false, ⟨some 1, .new 24 [.int .i64 0, .int .i64 0, .slice none 0 0], none⟩), (false, ⟨none, .st 3 (.tmp 1) (.tmp 16), none⟩), (true, ⟨some 2, .mov (.tmp 17), none⟩)]) (by kernel_rfl) hrel ?_
   clear hrel hns
   refine uQ 4 _ ?_
   with_reducible refine sxE ?_
   refine j0v rfl (σ := fun h => if h = 0 then 1 else if h = 1 then 0 else h) ⟨?_, ?_, rfl, rfl, rfl, rfl, Nat.zero_le _, fun _ h0 => absurd h0 (Nat.lt_irrefl 0)⟩ q3y
   · unfold knT
     repeat (first | exact trivial | exact rfl | refine And.intro ?_ ?_)
   repeat (first | exact trivial | exact rfl | refine And.intro ?_ ?_)
 refine ⟨trivial, q4Z, ?_⟩
 refine z7a (i := 1) (j := 3) (io := ⟨some 17, .mks .u8 1 (.const (.int .i64 16)) (.const (.int .i64 16)), none⟩) (jo := ⟨none, .st 3 (.tmp 1) (.tmp 16), none⟩) (by kernel_rfl) (by kernel_rfl) (by kernel_rfl) ?_ ?_
 · refine ⟨by decide, q4Z, ?_⟩
   refine q9u (l := [(false, ⟨none, .st 3 (.tmp 1) (.tmp 16), none⟩), (true, ⟨some 2, .mov (.tmp 17), none⟩)]) (by kernel_rfl) hrel ?_
   clear hrel hns
   refine uQ 3 _ ?_
   with_reducible refine sxE ?_
   exact q3y
 refine ⟨q4Z, ?_⟩
 refine q9u (l := [(false, ⟨some 17, .mks .u8 1 (.const (.int .i64 16)) (.const (.int .i64 16)), none⟩), (true, ⟨some 2, .mov (.tmp 17), none⟩)]) (by kernel_rfl) hrel ?_
 clear hrel hns
 refine uQ 3 _ ?_
 with_reducible refine sxE ?_
 exact q3y
end Go.Proofs.YtikapabgggphpaaGreatDoor
namespace Go.Sx
open Go

variable {P : Program} {AQ : Ex → List SV → List SObj → Prop} {k0 : Nat}

theorem q3J {G1 G : Ghost} {F : Fence} {n : Nat} {E1 E : EnD} {Q1 Q : Exit → Act → World → Prop} {Φ : List SV → List SObj → Prop} {k2 : List It} (hQ : ∀ e a w, e ≠ .normal → Q1 e a w → Q e a w) (hx : ∀ id a w, ¬ Q1 (.exit id) a w)
 (hΦ : ∀ a C t H, Φ t H → @Den G1 E1 C t H a → @wpT G F n P E Q k2 a C.w) :
 ∀ (l : List Code) (a : Act) (w : World), @wpT G1 F n P E1 Q1 (l.map .code ++ [.stop Φ]) a w → @wpT G F n P E Q (l.map .code ++ k2) a w
 | [], a, w, h => by
  obtain ⟨C, t, H, h1, rfl, h2⟩ := h
  exact hΦ a C t H h1 h2
 | c :: l, a, w, h => by
  simp only [List.map_cons, List.cons_append, wpT] at h ⊢
  refine wpIn_mono h fun e a w hq => ?_
  cases e with
  | normal => exact q3J hQ hx hΦ l a w hq
  | exit id =>
   exfalso
   have : ∀ (l : List Code) (a : Act) (w : World), ¬ @exitT G1 F n P E1 Q1 id (l.map .code ++ [.stop Φ]) a w := by
    intro l
    induction l with
    | nil => intro a w hq; simp only [List.map_nil, List.nil_append, exitT] at hq; exact hx _ _ _ hq
    | cons c l ih => intro a w hq; simp only [List.map_cons, List.cons_append, exitT] at hq; exact ih a w hq
   exact this l a w hq
  | ret => exact hQ _ _ _ (by simp) hq
  | panic ch => exact hQ _ _ _ (by simp) hq
  | goto l => exact hQ _ _ _ (by simp) hq
  | outgrown => exact hQ _ _ _ (by simp) hq

/- Values that hold nothing immutable. -/
mutual
def SV.noI : SV → Bool
 | .any | .raw _ | .ptr .. | .rptr .. | .bld .. | .osl .. | .csl .. | .mp _ => true
 | .agg l => SV.noIL l
 | .tup l => SV.noIL l
 | .fn _ a b => SV.noIL a && SV.noIL b
 | .iface _ x => SV.noI x
 | _ => false
def SV.noIL : List SV → Bool
 | [] => true
 | s :: l => SV.noI s && SV.noIL l
end
mutual
theorem z3x {C : Cx} {I : Nat → Prop} : ∀ {s : SV} {v : Value}, s.noI = true → s.den C v → s.den { C with I := I } v
 | .any, _, _, _ => by rw [SV.den]; trivial
 | .raw u, v, _, h => by rw [SV.den] at h ⊢; exact h
 | .isl .., _, h, _ => by simp [SV.noI] at h
 | .fsl .., _, h, _ => by simp [SV.noI] at h
 | .iptr .., _, h, _ => by simp [SV.noI] at h
 | .dat .., _, h, _ => by simp [SV.noI] at h
 | .imap .., _, h, _ => by simp [SV.noI] at h
 | .ptr h off, v, _, d => by rw [SV.den] at d ⊢; exact d
 | .rptr h t i k, v, _, d => by rw [SV.den] at d ⊢; exact d
 | .bld h t n, v, _, d => by rw [SV.den] at d ⊢; exact d
 | .osl h t off n, v, _, d => by rw [SV.den] at d ⊢; exact d
 | .csl h t k i n, v, _, d => by rw [SV.den] at d ⊢; exact d
 | .mp h, v, _, d => by rw [SV.den] at d ⊢; exact d
 | .agg l, v, h, d => by
  rw [SV.den] at d ⊢
  obtain ⟨vs, hv, hl⟩ := d
  exact ⟨vs, hv, q2t (by simpa [SV.noI] using h) hl⟩
 | .tup l, v, h, d => by
  rw [SV.den] at d ⊢
  obtain ⟨vs, hv, hl⟩ := d
  exact ⟨vs, hv, q2t (by simpa [SV.noI] using h) hl⟩
 | .fn f l1 l2, v, h, d => by
  rw [SV.den] at d ⊢
  obtain ⟨v1, v2, hv, h1, h2⟩ := d
  simp [SV.noI] at h
  exact ⟨v1, v2, hv, q2t h.1 h1, q2t h.2 h2⟩
 | .iface T x, v, h, d => by
  rw [SV.den] at d ⊢
  obtain ⟨u, hv, h1⟩ := d
  exact ⟨u, hv, z3x (by simpa [SV.noI] using h) h1⟩
theorem q2t {C : Cx} {I : Nat → Prop} : ∀ {l : List SV} {vs : List Value}, SV.noIL l = true → SV.denL C l vs → SV.denL { C with I := I } l vs
 | [], _, _, h => by rw [SV.denL] at h ⊢; exact h
 | s :: l, _, hc, h => by
  rw [SV.denL] at h ⊢
  obtain ⟨v, us, rfl, h1, h2⟩ := h
  simp [SV.noIL] at hc
  exact ⟨v, us, rfl, z3x hc.1 h1, q2t hc.2 h2⟩
end
def SObj.noI : SObj → Bool
 | .cells _ cs => SV.noIL cs
 | .row t _ => t.flat
 | _ => true
theorem z7W {C : Cx} {I : Nat → Prop} {h : Nat} : ∀ {o : SObj}, o.noI = true → objDen C h o → objDen { C with I := I } h o
 | .dead, _, _ => trivial
 | .mark _, _, _ => trivial
 | .cells T cs, hn, ⟨b, vs, h1, h2, h3⟩ => ⟨b, vs, h1, h2, q2t hn h3⟩
 | .row t xs, hn, d => by
  rcases d with h | ⟨b, arr, T, fz, h1, h2, h3, h4, h5⟩
  · exact .inl h
  exact .inr ⟨b, arr, T, fz, h1, h2, h3, h4, fun i x hx => (h5 i x hx).imp fun us hu => ⟨t.rel_flat _ _ hn hu.1, hu.2⟩⟩
 | .map kk ks vs, _, d => d
theorem q5f {α : Type} {l : List α} {i : Nat} {v : α} (h : l[i]? = some v) : l.set i v = l := by
 apply List.ext_getElem?
 intro j
 by_cases e : i = j
 · subst e; rw [List.getElem?_set_self (List.getElem?_eq_some_iff.1 h).1, h]
 rw [List.getElem?_set_ne e]
theorem q8L {C : Cx} {I : Nat → Prop} {l : List SV} {vs : List Value} {i : Nat} {s s' : SV} {v : Value} (hn : SV.noIL (l.set i .any) = true) (h : SV.denL C (l.set i s) vs) (hi : i < l.length) (hv : vs[i]? = some v) (hs : s'.den { C with I := I } v) : SV.denL { C with I := I } (l.set i s') vs := by
 have hle : SV.denL C (l.set i .any) vs := by
  have := q1J (i := i) (s := .any) (v := v) h (by rw [SV.den]; trivial)
  rw [List.set_set] at this
  rwa [q5f hv] at this
 have := q1J (i := i) (q2t (I := I) hn hle) hs
 rw [List.set_set, q5f hv] at this
 exact this
theorem TabT.flat {C C' : Cx} {H H' : List SObj} (hf : (datList.all fun e => e.2.1.flat) = true) (h : TabT C H) (e : C'.w = C.w) (ho : ∀ b, OwnB C' H' b → OwnB C H b) : TabT C' H' where
 tab := fun x hx => by
  obtain ⟨h1, T, fz, h2⟩ := h.tab x hx
  exact ⟨⟨by rw [e]; exact h1.1, fun y => h1.2 (ho _ y)⟩, T, fz, by rw [e]; exact h2⟩
 dat := fun x hx => by
  obtain ⟨h1, us, h2, h3⟩ := h.dat x hx
  refine ⟨⟨by rw [e]; exact h1.1, fun y => h1.2 (ho _ y)⟩, us, Ty.rel_flat _ _ _ (List.all_eq_true.1 hf x hx) h2, fun j u hu => ?_⟩
  rw [e]; exact h3 j u hu
theorem z0o {k1 k2 : List IT} : ∀ {k : List It}, (∀ x ∈ k1, ∃ c, x = .ic c) → RelT P (k1 ++ k2) k → ∃ (l : List Code) (r : List It), k = l.map .code ++ r ∧ RelT P k1 (l.map .code) ∧ RelT P k2 r := by
 induction k1 with
 | nil => intro k _ h; exact ⟨[], k, rfl, rfl, h⟩
 | cons x k1 ih =>
  intro k hc h
  obtain ⟨c, rfl⟩ := hc x (by simp)
  obtain ⟨c', r, rfl, h1, h2⟩ := h
  obtain ⟨l, r', rfl, h3, h4⟩ := ih (fun x hx => hc x (by simp [hx])) h2
  exact ⟨c' :: l, r', rfl, ⟨c', l.map .code, rfl, h1, h3⟩, h4⟩
theorem q4V {Φ : List SV → List SObj → Prop} : ∀ {k1 : List IT} {l : List It}, RelT P k1 l → (∀ x ∈ k1, ∃ c, x = .ic c) → RelT P (k1 ++ [.stop Φ]) (l ++ [.stop Φ])
 | [], _, h, _ => by cases h; exact ⟨[], rfl, rfl⟩
 | x :: k1, _, h, hc => by
  obtain ⟨c, rfl⟩ := hc x (by simp)
  obtain ⟨c', r, rfl, h1, h2⟩ := h
  exact ⟨c', r ++ [.stop Φ], rfl, h1, q4V h2 fun x hx => hc x (by simp [hx])⟩
theorem q4Q {l : List IC} : ∀ x ∈ (l.map IT.ic), ∃ c, x = .ic c := fun x hx => by
 obtain ⟨c, _, rfl⟩ := List.mem_map.1 hx; exact ⟨c, rfl⟩
theorem q1O : ∀ {a b : List It}, noStop a = true → noStop b = true → noStop (a ++ b) = true
 | [], _, _, h => h
 | .code _ :: k, b, h, h2 => (q1O (a := k) h h2 : noStop (k ++ b) = true)
 | .ops _ _ :: k, b, h, h2 => (q1O (a := k) h h2 : noStop (k ++ b) = true)
 | .blk _ :: k, b, h, h2 => (q1O (a := k) h h2 : noStop (k ++ b) = true)
theorem q6K : ∀ {l : List IC}, noStopI (l.map .ic) = true
 | [] => rfl
 | _ :: l => (q6K (l := l) : noStopI (l.map .ic) = true)
theorem q2u : ∀ {l : List Code}, noStop (l.map .code) = true
 | [] => rfl
 | _ :: l => (q2u (l := l) : noStop (l.map .code) = true)
theorem q2W {G1 G : Ghost} {E1 E : EnD} (hp : ∀ s t H, ¬ AQ (.pan s) t H) (hd : ∀ C t H a, @DenF G1 E1 C t H a → ∃ C', C'.w = C.w ∧ @DenF G E C' t H a) (e : Exit) (a : Act) (w : World) (h : @conc G1 E1 AQ e a w) : @conc G E AQ e a w := by
 cases e with
 | normal => obtain ⟨C, t, H, h1, rfl, h3⟩ := h; obtain ⟨C', e, h4⟩ := hd C t H a h3; exact ⟨C', t, H, h1, e, h4⟩
 | ret => obtain ⟨C, t, H, h1, rfl, h3⟩ := h; obtain ⟨C', e, h4⟩ := hd C t H a h3; exact ⟨C', t, H, h1, e, h4⟩
 | exit id => obtain ⟨C, t, H, h1, rfl, h3⟩ := h; obtain ⟨C', e, h4⟩ := hd C t H a h3; exact ⟨C', t, H, h1, e, h4⟩
 | panic ch => obtain ⟨C, t, H, s, v, h1, _⟩ := h; exact (hp _ _ _ h1).elim
 | goto l => exact h
 | outgrown => exact h
theorem q8A {C C' : Cx} {H : List SObj} (hw0 : Wd C []) (hw : Wd C' H) (hx : Ext ⟨{ C with I := fun _ => False }, []⟩ C' H) {I : Nat → Prop} (hI : ∀ b, C.I b → I b) (hI' : ∀ b, I b → C.I b ∨ C'.I b) :
 (∀ b, OwnB { C' with I := I } H b → ¬ I b ∧ b < C'.w.heap.size) ∧ (∀ b, I b → b < C'.w.heap.size) ∧ Ext ⟨C, []⟩ { C' with I := I } H := by
 have hold : ∀ b, b < C.w.heap.size → C'.w.heap[b]? = C.w.heap[b]? := fun b hb => hx.frame b hb (fun ⟨h, o, ho, _⟩ => by simp at ho)
 have hnew : ∀ b, OwnB C' H b → C.w.heap.size ≤ b := fun b hb => (hx.ownNew b hb).elim id fun ⟨h, o, ho, _⟩ => by simp at ho
 have hsz : C.w.heap.size ≤ C'.w.heap.size := hx.size
 refine ⟨fun b hb => ⟨fun h => ?_, (hw.own b hb).2⟩, fun b hb => ?_, ⟨hx.evo.n, hx.evo.ρ, fun b hb => ⟨hI b hb, hold b (hw0.imm b hb)⟩, hx.evo.sz⟩, hx.size, hx.os, hx.tape, hx.output, fun b hb _ => hold b hb, fun b hb => ?_, hx.ownNew, hx.keep0⟩
 · rcases hI' b h with h1 | h1
   · exact absurd (hw0.imm b h1) (Nat.not_lt.2 (hnew b hb))
   exact (hw.own b hb).1 h1
 · rcases hI' b hb with h1 | h1
   · exact Nat.lt_of_lt_of_le (hw0.imm b h1) hsz
   exact hw.imm b h1
 rcases hI' b hb with h1 | h1
 · exact .inl h1
 rcases hx.immNew b h1 with h2 | h2
 · exact h2.elim
 exact .inr h2
def SoundI0 (G : Ghost) (P : Program) (AQ : Ex → List SV → List SObj → Prop) (td : List IT) (t : List SV) (H : List SObj) : Prop :=
 ∀ td', RelT P td td' → ∀ (E : EnD) (r : Option Nat) (n : Nat) (C : Cx) (a : Act), E.toEn.H = [] → @Fit G E r 0 → @Den G E C t H a → @wpT G (Fw r) n P E (@conc G E AQ) td' a C.w
theorem z4I {ty : Ty} {l : List ty.den} {c1 c2 c3 c4 : List IC} {t0 tA tB tM : List SV} {HA HB HM : List SObj} {i so : Nat} {T0 : TypeId} {p : Prop}
 (hflat : (datList.all fun e => e.2.1.flat) = true) (hx : ∀ id t H, ¬ AQ (.exit id) t H) (hp : ∀ s t H, ¬ AQ (.pan s) t H)
 (hi : t0[i]? = some (.isl ty l)) (h0n : SV.noIL (t0.set i .any) = true) (hAn : SV.noIL (tA.set so .any) = true) (hso : so < tA.length) (hHn : (HA.all SObj.noI) = true)
 (hA : ∀ (q : Nat → Prop) (w0 : World) (v : Value), Sl q w0 ty l v → @SoundI (frzG q w0) P AQ ⟨0, c1.map .ic ++ [.stop fun t H => leM t (tA.set so (.isl ty l)) ∧ H = .cells T0 [.raw v] :: HA ∧ p], t0.set i (.raw v), []⟩)
 (hB : p → ∀ (q : Nat → Prop) (w1 : World) (N : Nat) (v : Value), Sl q w1 ty l v → (∀ b, q b → N ≤ b ∧ Unf w1 b) → @SoundI (frzN q w1 N) P AQ ⟨0, c2.map .ic ++ [.stop fun t H => leM t (tB.set so (.raw v)) ∧ H = HB], tA.set so (.raw v), .cells T0 [.isl ty l] :: HA⟩)
 (hM : p → ∀ (q : Nat → Prop) (w1 : World) (v : Value), Sl q w1 ty l v → @SoundI (scrG q w1) P AQ ⟨0, c3.map .ic ++ [.stop fun t H => leM t tM ∧ H = HM], tB.set so (.raw v), HB⟩)
 (hC : p → SoundI0 (topG noFG []) P AQ (c4.map .ic) tM HM) : @SoundI (topG noFG []) P AQ ⟨0, (c1 ++ (c2 ++ (c3 ++ c4))).map .ic, t0, []⟩ := by
 refine @q0d (topG noFG []) P AQ 0 t0 [] _ (fun td' hr => ?_) (by cases (c1 ++ (c2 ++ (c3 ++ c4))) <;> rfl)
 simp only [List.map_append] at hr
 obtain ⟨a1, r, rfl, q1, hr⟩ := z0o q4Q hr
 obtain ⟨a2, r, rfl, q2, hr⟩ := z0o q4Q hr
 obtain ⟨a3, r, rfl, q3, hr⟩ := z0o q4Q hr
 intro E rr n C a hfit hd
 obtain ⟨v, hv, hdv⟩ := q1o hd.tmps hi
 rw [SV.den] at hdv
 have hn : C.n = 0 := hd.wd.n
 have hr0 : (topG noFG []).rd rr := hfit.2
 let E0 : EnD := ⟨⟨C, []⟩, E.base⟩
 have hr4 : noStop r = true := q1B hr q6K
 refine (@q1R P (topG noFG []) (topG noFG []) (Fw rr) n E E0 (@conc (topG noFG []) E AQ) (@conc (topG noFG []) E0 AQ) (q2W hp fun C' t H a hd' => ⟨C', rfl, ⟨hd'.wd, hd.ext.trans hd'.ext, ?_, hd'.tmps⟩⟩) _ (q1O q2u (q1O q2u (q1O q2u hr4)))).1 a C.w ?_
 · obtain ⟨Ds, e1, _, e3, e4⟩ := hd'.defs
   exact ⟨Ds, e1, ⟨fun _ => False, fun _ h => h⟩, e3, fun D hD => ⟨Nat.le_trans hd.ext.size (e4 D hD).sz, (e4 D hD).imm, (e4 D hD).own, (e4 D hD).at_⟩⟩
 -- the copy
 let C1 : Cx := { C with I := fun _ => False }
 let E1 : EnD := ⟨⟨C1, []⟩, E.base⟩
 have hw1 : Wd C1 [] := ⟨hd.wd.n, fun h o ho => by simp at ho, fun b ⟨h, o, ho, _⟩ => by simp at ho, fun h h' o o' b ho => by simp at ho, fun b hb => hb.elim⟩
 have ht0 : TabT C [] := hd.defs.2.1.tab
 have hden1 : @Den (frzG C.I C.w) E1 C1 (t0.set i (.raw v)) [] a := by
  refine ⟨hw1, Ext.refl _ _, ⟨hd.defs.1, ⟨ht0.flat hflat rfl fun _ h => h, ht0.lt⟩, fun b hb => ⟨hd.wd.imm b hb, fun h => h, fun ⟨h, o, ho, _⟩ => by simp at ho, rfl⟩⟩, ?_⟩
  exact q8L (C := C) (s := .isl ty l) h0n (by rw [q5f hi]; exact hd.tmps) (List.getElem?_eq_some_iff.1 hi).1 hv (by rw [SV.den])
 refine q3J (P := P) (G1 := frzG C.I C.w) (G := topG noFG []) (E1 := E1) (E := E0) (Q1 := @conc (frzG C.I C.w) E1 AQ) (Q := @conc (topG noFG []) E0 AQ) (fun e a w _ h => q2W (G1 := frzG C.I C.w) (G := topG noFG []) (E1 := E1) (E := E0) hp (fun C' t H a hd' => ?_) e a w h) (fun id a w ⟨_, _, _, h, _⟩ => hx _ _ _ h) ?_ a1 a C.w (@q0c (frzG C.I C.w) P AQ _ _ _ _ _ (hA C.I C.w v hdv) (q4V q1 q4Q) E1 rr n C1 a ⟨Nat.le_of_eq hn, trivial⟩ hden1)
 · obtain ⟨g1, g2, g3⟩ := q8A hd.wd hd'.wd hd'.ext (I := fun b => C.I b ∨ C'.I b) (fun _ => .inl) (fun _ h => h)
   have hev : Evo C' { C' with I := fun b => C.I b ∨ C'.I b } := ⟨Nat.le_refl _, fun _ _ => rfl, fun b hb => ⟨.inr hb, rfl⟩, fun _ _ h => h⟩
   exact ⟨{ C' with I := fun b => C.I b ∨ C'.I b }, rfl, ⟨hd'.wd.n, fun h o ho => q0r hev.I h rfl (fun _ _ => rfl) (q0h hev) (hd'.wd.obj h o ho), g1, hd'.wd.inj, g2⟩, g3, ⟨[], hd'.defs.1, ⟨fun _ => False, fun _ h => h⟩, List.nodup_nil, fun _ h => by simp at h⟩, q0h hev hd'.tmps⟩
 rintro a' C2 t H ⟨hle, rfl, hpp⟩ hd2
 replace hd2 : @Den (frzG C.I C.w) E1 C2 (tA.set so (.isl ty l)) (.cells T0 [.raw v] :: HA) a' := ⟨hd2.wd, hd2.ext, hd2.defs, q1x (q1w hle) hd2.tmps⟩
 -- the copy is handed on
 obtain ⟨g1, g2, g3⟩ := q8A hd.wd hd2.wd hd2.ext (I := C.I) (fun _ h => h) (fun _ h => .inl h)
 obtain ⟨vo, hvo, hdo⟩ := q1o hd2.tmps (i := so) (s := .isl ty l) (List.getElem?_set_self hso)
 rw [SV.den] at hdo
 have hqn : ∀ b, C2.I b → C.w.heap.size ≤ b ∧ Unf C2.w b := fun b hb => by
  rcases hd2.ext.immNew b hb with h | ⟨h | ⟨_, _, h, _⟩, h2⟩
  · exact h.elim
  · exact ⟨h, h2⟩
  cases h
 have htab2 : TabT C2 (.cells T0 [.raw v] :: HA) := hd2.defs.2.1.tab
 have hlive : ∀ b, OwnB { C2 with I := C.I } (.cells T0 [.isl ty l] :: HA) b → OwnB C2 (.cells T0 [.raw v] :: HA) b := by
  rintro b ⟨h, o, ho, hl, hb⟩
  cases h with
  | zero => exact ⟨0, _, rfl, rfl, hb⟩
  | succ h => exact ⟨h + 1, o, ho, hl, hb⟩
 let C3 : Cx := { C2 with I := C.I }
 have hw3 : Wd C3 (.cells T0 [.isl ty l] :: HA) := by
  refine ⟨by have := hd2.wd.n; simpa using this, fun h o ho => ?_, fun b hb => ?_, fun h h' o o' b ho ho' hl hl' hb hb' => ?_, g2⟩
  · cases h with
    | zero =>
     cases ho
     obtain ⟨b, vs, h1, h2, h3⟩ := hd2.wd.obj 0 _ rfl
     refine ⟨b, vs, h1, h2, ?_⟩
     obtain ⟨u, us, rfl, h4, h5⟩ := q0b.1 h3
     rw [SV.den] at h4; subst h4
     refine q0b.2 ⟨_, us, rfl, ?_, by rw [q0l] at h5 ⊢; exact h5⟩
     rw [SV.den]
     exact Ty.rel_keep g3.evo.I _ _ _ hdv
    | succ h => exact z7W (List.all_eq_true.1 hHn o (List.mem_of_getElem? ho)) (hd2.wd.obj (h + 1) o ho)
  · exact g1 b (by obtain ⟨h, o, ho, hl, hb⟩ := hlive b hb; exact ⟨h, o, ho, hl, hb⟩)
  have e1 : ∀ {h : Nat} {o : SObj}, (SObj.cells T0 [.isl ty l] :: HA)[h]? = some o → o.live = true → ∃ o', (SObj.cells T0 [.raw v] :: HA)[h]? = some o' ∧ o'.live = true := fun {h o} ho hl => by
   cases h with
   | zero => exact ⟨_, rfl, rfl⟩
   | succ h => exact ⟨o, ho, hl⟩
  obtain ⟨p, p1, p2⟩ := e1 ho hl
  obtain ⟨p', p3, p4⟩ := e1 ho' hl'
  exact hd2.wd.inj h h' p p' b p1 p3 p2 p4 hb hb'
 have hext3 : Ext E0.toEn C3 (.cells T0 [.isl ty l] :: HA) := ⟨g3.evo, g3.size, g3.os, g3.tape, g3.output, g3.frame, g3.immNew, fun b hb => g3.ownNew b (hlive b hb), fun m h0 _ => absurd h0 (by show ¬ 0 < C.n; omega)⟩
 have htmp3 : SV.denL C3 (tA.set so (.raw vo)) a'.tmps.toList := by
  have := q8L (C := C2) (I := C.I) (l := tA) (vs := a'.tmps.toList) (i := so) (s := .isl ty l) (s' := .raw vo) (v := vo) hAn hd2.tmps hso hvo (by rw [SV.den])
  exact this
 have hden3 : @Den (frzN C2.I C2.w C.w.heap.size) E0 C3 (tA.set so (.raw vo)) (.cells T0 [.isl ty l] :: HA) a' := by
  refine ⟨hw3, hext3, ⟨hd2.defs.1, ⟨htab2.flat hflat rfl hlive, ht0.lt⟩, ⟨Nat.le_refl _, ht0.lt⟩, fun b hb => ⟨hd2.wd.imm b hb, fun h => absurd (hd.wd.imm b h) (Nat.not_lt.2 (hqn b hb).1), fun h => (hd2.wd.own b (hlive b h)).1 hb, rfl⟩⟩, htmp3⟩
 refine q3J (P := P) (G1 := frzN C2.I C2.w C.w.heap.size) (G := topG noFG []) (E1 := E0) (E := E0) (Q1 := @conc (frzN C2.I C2.w C.w.heap.size) E0 AQ) (Q := @conc (topG noFG []) E0 AQ) (fun e a w _ h => q2W (G1 := frzN C2.I C2.w C.w.heap.size) (G := topG noFG []) (E1 := E0) (E := E0) hp (fun C' t H a hd' => ⟨C', rfl, hd'.wd, hd'.ext, ⟨[], hd'.defs.1, ⟨fun _ => False, fun _ h => h⟩, List.nodup_nil, fun _ h => by simp at h⟩, hd'.tmps⟩) e a w h) (fun id a w ⟨_, _, _, h, _⟩ => hx _ _ _ h) ?_ a2 a' C2.w
  (@q0c (frzN C2.I C2.w C.w.heap.size) P AQ _ _ _ _ _ (hB hpp C2.I C2.w C.w.heap.size vo hdo hqn) (q4V q2 q4Q) E0 rr n C3 a' ⟨Nat.le_of_eq hn, trivial⟩ hden3)
 rintro a'' C4 t H ⟨hle, e4'⟩ hd4
 subst e4'
 replace hd4 : @Den (frzN C2.I C2.w C.w.heap.size) E0 C4 (tB.set so (.raw vo)) H a'' := ⟨hd4.wd, hd4.ext, hd4.defs, q1x (q1w hle) hd4.tmps⟩
 -- it is written over
 have hz4 : ZInv C2.I C2.w C4 H := hd4.defs.2.2.2
 have hden5 : @Den (scrG C2.I C2.w) E0 C4 (tB.set so (.raw vo)) H a'' := by
  refine ⟨hd4.wd, hd4.ext, ⟨hd4.defs.1, hd4.defs.2.1, fun b hb => ?_⟩, hd4.tmps⟩
  obtain ⟨z1, z2, z3, z4⟩ := hz4 b hb
  exact ⟨⟨.inl (hqn b hb).1, fun h => absurd (ht0.lt b h) (Nat.not_lt.2 (hqn b hb).1)⟩, z1, z2, z3, (hqn b hb).2.keep z4, .inl z4⟩
 refine q3J (P := P) (G1 := scrG C2.I C2.w) (G := topG noFG []) (E1 := E0) (E := E0) (Q1 := @conc (scrG C2.I C2.w) E0 AQ) (Q := @conc (topG noFG []) E0 AQ) (fun e a w _ h => q2W (G1 := scrG C2.I C2.w) (G := topG noFG []) (E1 := E0) (E := E0) hp (fun C' t H a hd' => ⟨C', rfl, hd'.wd, hd'.ext, ⟨[], hd'.defs.1, ⟨fun _ => False, fun _ h => h⟩, List.nodup_nil, fun _ h => by simp at h⟩, hd'.tmps⟩) e a w h) (fun id a w ⟨_, _, _, h, _⟩ => hx _ _ _ h) ?_ a3 a'' C4.w
  (@q0c (scrG C2.I C2.w) P AQ _ _ _ _ _ (hM hpp C2.I C2.w vo hdo) (q4V q3 q4Q) E0 rr n C4 a'' ⟨Nat.le_of_eq hn, trivial⟩ hden5)
 rintro a5 C5 t H ⟨hle, e5⟩ hd5
 subst e5
 replace hd5 : @Den (scrG C2.I C2.w) E0 C5 tM H a5 := ⟨hd5.wd, hd5.ext, hd5.defs, q1x (q1w hle) hd5.tmps⟩
 exact hC hpp r hr E0 rr n C5 a5 rfl ⟨Nat.le_of_eq hn, hr0⟩ ⟨hd5.wd, hd5.ext, ⟨hd5.defs.1, hd5.defs.2.1, ⟨fun _ => False, fun _ h => h⟩, List.nodup_nil, fun _ h => by simp at h⟩, hd5.tmps⟩
theorem callN {q : Nat → Prop} {w0 : World} {N : Nat} {f : FuncId} {args : List SV} {s : SV} {d : Option Tmp} {m : IM} (hp : PCZ q w0 P f args s) (h : @SoundI (frzN q w0 N) P AQ { m with tmps := putT m.tmps d s }) : @CallI (frzN q w0 N) P AQ f args d m := by
 refine ⟨hp.1, fun E C vs hw hg hv => ?_⟩
 refine (hp.2 m.heap (@opK (frzN q w0 N) P AQ m.k0 m.todo m.tmps d) h C vs hw hg.1.tab hg.2.2 hv).mono ?_
 rintro e w' ⟨o, H', C', k, e1, w, x, r⟩
 exact ⟨o, H', C', k, e1, w, @Stp.of (frzN q w0 N) E C C' m.heap H' x, r⟩
theorem z7H {q : Nat → Prop} {w0 : World} {G : List Nat} {f : FuncId} {args : List SV} {s : SV} {d : Option Tmp} {m : IM} (hp : PCZ q w0 P f args s) (h : @SoundI (frzG q w0) P AQ { m with tmps := putT m.tmps d s }) : @CallR (frzG q w0) P AQ G f args d m :=
 ⟨hp.1, (hp.2 _ _ ⟨fun _ => SameG.refl _ _, h⟩).g⟩
theorem z0r {Ds : List Nat} {q : Bool} {G : List Nat} {l B N : Nat} {J : Nat → (Nat → Prop) → World → (Nat → Prop) → Prop} {vw : Nat → Nat → List SV → List SObj → Prop} {i : Nat} {T : List SObj} (T' : List SObj) {args : List SV} {d : Option Tmp} {k : List IT} {t : List SV}
 (hJ : FJ B J) (yg : YG P l B N J vw) (hi : i < N) (hh : ∀ n, ∃ args' new, vw i n args' new ∧ Hand n (.mark i :: T) (.mark i :: T') args args' new)
 (hk : ∀ b : Bool, (q = true → SameG G (.mark i :: T) (.mark (if b then i + 1 else N + 1 + i) :: T')) ∧ @SoundI (topG (yFG hJ) Ds) P AQ ⟨k0, k, putT t d (.raw (.bool b)), .mark (if b then i + 1 else N + 1 + i) :: T'⟩) : @YldR (topG (yFG hJ) Ds) P AQ q G l args d ⟨k0, k, t, .mark i :: T⟩ := z0S hJ yg hi hh hk
theorem Hand.remap {n : Nat} {H H' : List SObj} {args args' args2 args2' : List SV} {new : List SObj} (h : Hand n H H' args args' new) (f : ∀ C vs, SV.denL C args2 vs → ∃ us, SV.denL C args us ∧ ∀ C', SV.denL C' args' us → SV.denL C' args2' vs) : Hand n H H' args2 args2' new := by
 intro C Cc Hc vs hw hv hwc hn hwe hi hsep
 obtain ⟨us, h1, h2⟩ := f C vs hv
 obtain ⟨C2, Cc2, a1, a2, a3, a4, a5, a6, a7, a8, a9, a10, a11⟩ := h C Cc Hc us hw h1 hwc hn hwe hi hsep
 exact ⟨C2, Cc2, a1, a2, a3, a4, a5, a6, a7, a8, a9, h2 _ a10, a11⟩
theorem q5R {n : Nat} {H H' : List SObj} {a b x x' : SV} {new : List SObj} (h : Hand n H H' [.agg (x :: [a, b])] [.agg (x' :: [a, b])] new) : Hand n H H' [a, .agg [b, x]] [a, .agg [b, x']] new := by
 refine h.remap fun C vs hv => ?_
 obtain ⟨va, us, rfl, d1, d2⟩ := q0b.1 hv
 obtain ⟨vg, us, rfl, d3, d4⟩ := q0b.1 d2
 rw [q0l] at d4; subst d4
 rw [SV.den] at d3
 obtain ⟨ws, rfl, d3⟩ := d3
 obtain ⟨vb, us, rfl, d5, d6⟩ := q0b.1 d3
 obtain ⟨vx, us, rfl, d7, d8⟩ := q0b.1 d6
 rw [q0l] at d8; subst d8
 refine ⟨[.agg #[vx, va, vb]], q0b.2 ⟨_, [], rfl, by rw [SV.den]; exact ⟨[vx, va, vb], rfl, q0b.2 ⟨_, _, rfl, d7, q0b.2 ⟨_, _, rfl, d1, q0b.2 ⟨_, _, rfl, d5, q0l.2 rfl⟩⟩⟩⟩, q0l.2 rfl⟩, fun C' h' => ?_⟩
 obtain ⟨vg, us, e0, d3, d4⟩ := q0b.1 h'
 cases e0
 rw [SV.den] at d3
 obtain ⟨ws, e1, d3⟩ := d3
 obtain ⟨w1, us, rfl, k1, d3⟩ := q0b.1 d3
 obtain ⟨w2, us, rfl, k2, d3⟩ := q0b.1 d3
 obtain ⟨w3, us, rfl, k3, d3⟩ := q0b.1 d3
 rw [q0l] at d3; subst d3
 simp only [List.toArray, Value.agg.injEq, Array.mk.injEq, List.cons.injEq, and_true] at e1
 obtain ⟨rfl, rfl, rfl⟩ := e1
 exact q0b.2 ⟨_, _, rfl, k2, q0b.2 ⟨_, _, rfl, by rw [SV.den]; exact ⟨[vb, vx], rfl, q0b.2 ⟨_, _, rfl, k3, q0b.2 ⟨_, _, rfl, k1, q0l.2 rfl⟩⟩⟩, q0l.2 rfl⟩⟩
theorem j0e {q : Nat → Prop} {w0 : World} {f : FuncId} {args : List SV} {s : SV} (ha : SV.cleanL args = true) (hs : s.clean = true) (h : VCZ q w0 P f args [] (PK s)) : PCZ q w0 P f args s :=
 ⟨h.1, fun H K hk C vs hw ht hg hv => q3s hs hw (h.2 { C with n := 0 } vs hw.nil (ht.nil rfl fun _ h => h) hg.nil (q0D (C := C) (C' := { C with n := 0 }) (Keeps.refl _ _) ha hv)) hk⟩
end Go.Sx
/- Timestamps: an iterator over the timestamps of a list is made. -/
namespace Go.Proofs.YtikapabgggphpaaGreatDoor
open Go Go.Sx Go.Proofs
set_option maxRecDepth 100000
set_option maxHeartbeats 4000000
set_option linter.unusedSimpArgs false

theorem z0R (l : List UInt8) (hl : l.length ≤ 140737488355328) : VC Tryz.prog 46 [.isl .u8 l] [] (RowK .u8 l) := by
 refine z3O ?_
 refine rQ fi46 ?_
 intro b hb
 refine ⟨fun h => z5P (hb h), fun h => ⟨⟨by omega, by omega⟩, ?_⟩⟩
 exact z5W (h := 1) rfl (by omega)
def tkp (x : Pre) : Pre := if x.1 = 2 then x else (x.1, [])
def keptT (l : List Pre) : List Pre := l.map tkp
def kpT (l : List Pre) (i : Nat) : List Pre := (l.take i).map tkp ++ List.replicate (l.length - i) PreT.dflt
theorem z7X {l : List Pre} {i : Nat} (hi : i ≤ l.length) : (kpT l i).length = l.length := by simp [kpT]; omega
theorem z9A {l : List Pre} {i : Nat} (hi : i < l.length) : (kpT l i).set i (tkp (l.getD i PreT.dflt)) = kpT l (i + 1) := by
 have hg : l[i]? = some (l.getD i PreT.dflt) := by rw [List.getD_eq_getElem?_getD, List.getElem?_eq_getElem hi]; rfl
 unfold kpT
 rw [List.set_append_right _ _ (by simp; omega)]
 have e1 : i - ((l.take i).map tkp).length = 0 := by simp; omega
 rw [e1, show l.length - i = (l.length - (i + 1)) + 1 by omega, List.replicate_succ, List.set_cons_zero, List.take_add_one, hg]
 simp
theorem z8j (l : List Pre) : kpT l l.length = keptT l := by simp [kpT, keptT]
variable {q : Nat → Prop} {w0 : World}
theorem z8c {x : Pre} {vs : List Value} (h : PreT.rel q w0 x vs) : ∃ A n c, vs = [.int .i64 x.1, .slice A n c] ∧ Sl q w0 .u8 x.2 (.slice A n c) := by
 obtain ⟨v1, v2, rfl, h1, h2⟩ := h
 obtain ⟨A, n, c, rfl, _⟩ := id h2
 have h1 : v1 = [.int .i64 x.1] := h1
 subst h1
 exact ⟨A, n, c, rfl, h2⟩
theorem z7A (l : List Pre) {v : Value} (hv : Sl q w0 PreT l v) (hl : l.length ≤ 1000) (hb : ∀ x ∈ l, x.2.length ≤ 1000) : PCZ q w0 Tryz.prog 21 [.raw v] (.fn 47 [] [.iptr (.slice PreT) (keptT l) 0]) := by
 letI : Ghost := frzG q w0
 have hok : (Ty.slice PreT).ok l := Ty.rel_ok _ _ _ hv
 refine j0e rfl rfl ?_
 obtain ⟨A, c, rfl, hA⟩ := hv.out
 refine z9Y fi21 ?_
 refine uQ 600 _ ?_
 with_reducible refine sxE ?_
 refine ⟨⟨by omega, by omega⟩, ?_⟩
 refine q1a (ι := Nat) (fun i => [(11, rI i)]) (fun i => [.row PreT (kpT l i), .cells 55 [.bld 0 PreT l.length]]) (fun i => l.length - i) (fun i => i ≤ l.length) 0 (Nat.zero_le _) 2 ?_ (by decide) (fun _ => rfl) (fun _ => rfl) (fun _ => rfl) ?_ fun i hi => ?_
 · simp only [kpT, List.take_zero, List.map_nil, List.nil_append, Nat.sub_zero]
 · with_reducible refine sxE ?_; trivial
 have hkl := z7X hi
 have hwr := wsx i (by omega)
 by_cases hlt : i < l.length
 · have f1 : ((i : Int) < (l.length : Int)) = True := eq_true (by omega)
   rcases hA with h0 | ⟨b, o, rfl, hat⟩
   · exfalso; rw [h0] at hlt; exact absurd hlt (by simp)
   have hg : l[i]? = some (l.getD i PreT.dflt) := by rw [List.getD_eq_getElem?_getD, List.getElem?_eq_getElem hlt]; rfl
   have hx := hat i _ hg
   have hset := z9A hlt
   have hm : (l.getD i PreT.dflt) ∈ l := z1c (d := PreT.dflt) hlt
   have hbx := hb _ hm
   generalize l.getD i PreT.dflt = x at *
   refine uQ 600 _ ?_
   simp (maxSteps := 3000000) only [f1, go_sem, ↓zA, ↓reduceIte, ↓reduceDIte] <;> try simp only [zB]
   refine ⟨⟨by omega, hlt⟩, zldF hx fun vs hvs => ?_⟩
   obtain ⟨A', n', c', rfl, hs⟩ := z8c hvs
   refine uQ 600 _ ?_
   with_reducible refine sx1 hkl ?_
   have hd0 : ((kpT l i).getD (0 + i) PreT.dflt).snd = [] := by
    rw [Nat.zero_add, kpT, List.getD_eq_getElem?_getD, List.getElem?_append_right (by simp; omega)]
    simp only [List.length_map, List.length_take, Nat.min_eq_left hi, Nat.sub_self, List.getElem?_replicate]
    rw [if_pos (by omega)]; rfl
   refine ⟨⟨by omega, hlt⟩, by rw [Nat.zero_add]; exact hlt, fun hk2 => ?_, fun hk2 => ?_⟩
   · refine z7H (z6p rfl (z0R x.2 (by omega)) (j0a hs z5q) rfl (by omega)) ?_
     refine uQ 600 _ ?_
     simp (maxSteps := 3000000) only [hkl, List.length_set, hd0, List.set_set, go_sem, ↓zA, ↓reduceIte, ↓reduceDIte] <;> try simp only [zB]
     refine ⟨⟨by omega, hlt⟩, by rw [Nat.zero_add]; exact hlt, i + 1, hlt, by dsimp only; omega, ⟨[.cells 27 [rI x.1, .raw (.slice A' n' c')]], ?_⟩, ?_⟩
     · dsimp only; rw [Nat.zero_add, List.getD_eq_getElem?_getD, List.getElem?_set_self (by omega), ← hset, tkp, if_pos hk2]; rfl
     with_reducible refine sx1 hwr ?_; trivial
   refine ⟨i + 1, hlt, by dsimp only; omega, ⟨[.cells 27 [rI x.1, .raw (.slice A' n' c')]], ?_⟩, ?_⟩
   · dsimp only; rw [hd0, Nat.zero_add, ← hset, tkp, if_neg hk2]; rfl
   with_reducible refine sx1 hwr ?_; trivial
 obtain rfl : i = l.length := by omega
 have f1 : ((l.length : Int) < (l.length : Int)) = False := eq_false (by omega)
 rw [z8j]
 refine uQ 7 _ ?_
 simp (maxSteps := 3000000) only [f1, go_sem, ↓zA, ↓reduceIte, ↓reduceDIte] <;> try simp only [zB]
 have hkk : (keptT l).length = l.length := by rw [keptT, List.length_map]
 refine q1u 0 rfl rfl (by omega) ?_ ?_ ?_
 · simp (maxSteps := 3000000) only [hkk, Nat.le_refl, go_sem, ↓zA, ↓reduceIte, ↓reduceDIte] <;> try simp only [zB]
 · simp (maxSteps := 3000000) only [hkk, Nat.le_refl, go_sem, ↓zA, ↓reduceIte, ↓reduceDIte] <;> try simp only [zB]
 rw [← hkk]
 simp (maxSteps := 3000000) only [List.take_length, go_sem, ↓zA, ↓reduceIte, ↓reduceDIte] <;> try simp only [zB]
 have hkok : (Ty.slice PreT).ok (keptT l) := ⟨by rw [keptT, List.length_map]; omega, fun y hy => by
  obtain ⟨x, hx, rfl⟩ := List.mem_map.1 hy
  have := hok.2 x hx
  unfold tkp
  split
  · exact this
  exact ⟨this.1, Nat.zero_le _, fun _ h => by cases h⟩⟩
 refine q4y 3 1 (ty := .slice PreT) (x := keptT l) rfl hkok rfl rfl ?_
 refine uQ 600 _ ?_
 with_reducible refine sxE ?_; trivial
end Go.Proofs.YtikapabgggphpaaGreatDoor

