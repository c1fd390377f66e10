/- A part of the proof: a symbolic executor over abstract values, and its soundness. -/
import Derived.Test.YtcjehhejgimmdaaGreatDoorP6
set_option linter.all false
set_option linter.unusedSectionVars false
namespace Go.Sx
open Go

structure OpI where
 dst : Option Tmp
 op : IOp
 guard : Option (Nat × Bool)

def isLd : IOp → Bool
 | .ld _ _ => true
 | .ldS _ _ => true
 | _ => false
def needsLd (o : Oper) : Bool := match o.op with
 | .load .. => true
 | _ => false
def gkI : IOp → Bool
 | .st .. | .app .. | .mup .. => false
 | _ => true
def kindChk (o : Oper) (i : IOp) : Bool := isLd i == needsLd o && gkI i == gk o

def compOp' (P : Program) (o : Oper) : Option IOp :=
 match compOp P o.op with
 | some i => if kindChk o i then some i else none
 | none => none
theorem compOp'_ok {P : Program} {o : Oper} {i : IOp} (h : compOp' P o = some i) : compOp P o.op = some i ∧ isLd i = needsLd o ∧ gkI i = gk o := by
 unfold compOp' at h
 split at h
 · split at h
   · rename_i hk
     cases h
     simp only [kindChk, Bool.and_eq_true, beq_iff_eq] at hk
     exact ⟨by assumption, hk⟩
   cases h
 cases h

def compO (P : Program) (all : Array Oper) (o : Oper) : Option OpI :=
 match compOp' P o with
 | none => none
 | some op => match o.guard with
  | none => some ⟨o.dst, op, none⟩
  | some (j, b) => match (all[j]?).bind (·.dst) with
   | some d => some ⟨o.dst, op, some (d, b)⟩
   | none => none

theorem compO_op' {P : Program} {all : Array Oper} {o : Oper} {io : OpI} (h : compO P all o = some io) : compOp' P o = some io.op ∧ io.dst = o.dst := by
 unfold compO at h
 split at h
 · cases h
 split at h
 · cases h; exact ⟨by assumption, rfl⟩
 split at h
 · cases h; exact ⟨by assumption, rfl⟩
 cases h
theorem q1o {P : Program} {all : Array Oper} {o : Oper} {io : OpI} (h : compO P all o = some io) : compOp P o.op = some io.op ∧ io.dst = o.dst :=
 ⟨(compOp'_ok (compO_op' h).1).1, (compO_op' h).2⟩

theorem q0N {P : Program} {all : Array Oper} {o : Oper} {io : OpI} {t : List SV} (h : compO P all o = some io) :
 (io.guard = none → wantedT all t o = some true) ∧ (∀ d b v, io.guard = some (d, b) → t.getD d .any = .raw (.bool v) → wantedT all t o = some (v == b)) ∧ (∀ d b vs, io.guard = some (d, b) → t.getD d .any = .raw (.tuple vs) → wantedT all t o = some false) := by
 unfold compO at h
 split at h
 · cases h
 split at h
 · rename_i hg
   cases h
   refine ⟨(fun _ => by unfold wantedT; rw [hg]), (fun d b v e => by cases e), (fun d b v e => by cases e)⟩
 rename_i hg
 split at h
 · rename_i hd
   cases h
   refine ⟨(fun e => by cases e), fun d b v e hv => ?_, fun d b v e hv => ?_⟩
   · cases e
     unfold wantedT
     rw [hg]
     simp only [hd, hv]
   cases e
   unfold wantedT
   rw [hg]
   simp only [hd, hv]
 cases h

inductive IC where
 | skip
 | reg (l : List OpI)
 | drw (l : List (Bool × OpI))
 | seq (a b : IC)
 | cond (c : Operand) (a b : IC)
 | blk (id : Nat) (c : IC)
 | loop (c : IC)
 | exit (id : Nat)
 | ret
 | rf (g : Operand) (ps : Array Tmp) (asg body : IC)        -- a loop over a function
 | scp (c : IC)
 | lbl (l : Nat)

def isPureOp (P : Program) (o : Oper) : Bool := match o.op with
 | .convert _ d _ => match P.underlying d with
  | some (.slice _) => false
  | _ => true
 | .move _ | .assign _ | .pick .. | .nilCheck _ | .binOp .. | .unOp .. | .fieldAddr .. | .field .. | .indexAddr .. | .index .. | .extract .. | .makeFunc .. | .makeInterface .. | .build .. | .slice .. | .load .. | .lookup .. => true
 | .call { callee := .builtin .len, .. } => true
 | _ => false
def ldChk (all : Array Oper) (listed : Array Bool) (i : Nat) : Bool := match all[i]? with
 | some o => !needsLd o || ldFree all listed i
 | none => false
def ldChkS (all : Array Oper) (listed : Array Bool) (i : Nat) : Bool := match all[i]? with
 | some o => !needsLd o || closedB all listed
 | none => false
def toS : IOp → IOp
 | .ld ag x => .ldS ag x
 | i => i
def isCallOp (o : Oper) : Bool := match o.op with
 | .call { callee := .value _, .. } => true
 | _ => false

def chooseOp (P : Program) (all : Array Oper) (listed : Array Bool) (rd : List Nat) : Option (Nat × Bool) :=
 match rd.find? (fun i => (match all[i]? with | some o => isPureOp P o | none => false) && Region.free .any all listed i && ldChk all listed i) with
 | some i => some (i, true)
 | none => match rd with
  | [i] => some (i, false)
  | _ => match rd.find? (fun i => (match all[i]? with | some o => isCallOp o | none => false) && Region.free .any all listed i) with
   | some i => some (i, true)
   | none => match rd.find? (fun i => (match all[i]? with | some o => isPureOp P o | none => false) && Region.free .any all listed i) with
    | some i => some (i, true)
    | none => none

def planChk (all : Array Oper) (listed : Array Bool) (i : Nat) (fl : Bool) : Bool :=
 if fl then (Region.ready .any all listed).contains i && Region.free .any all listed i && ldChkS all listed i else Region.ready .any all listed == [i]

def planL (P : Program) (all : Array Oper) : Nat → Array Bool → Option (List (Bool × OpI))
 | 0, listed => if (Region.ready .any all listed).isEmpty then some [] else none
 | n + 1, listed => if (Region.ready .any all listed).isEmpty then some [] else
  match chooseOp P all listed (Region.ready .any all listed) with
  | some (i, fl) => match all[i]? with
   | some o => match compO P all o with
    | some io => match planL P all n (listed.setIfInBounds i true) with
     | some l => if planChk all listed i fl then some ((fl, if fl && !ldChk all listed i then { io with op := toS io.op } else io) :: l) else none
     | none => none
    | none => none
   | none => none
  | none => none

def compL (P : Program) (all : Array Oper) : List Oper → Option (List OpI)
 | [] => some []
 | o :: l => match compO P all o, compL P all l with
  | some io, some r => some (io :: r)
  | _, _ => none

def comp (P : Program) : Code → Option IC
 | .skip => some .skip
 | .region _ all false => (compL P all all.toList).map .reg
 | .region _ all true => (planL P all all.size (Array.replicate all.size false)).map .drw
 | .seq a b => match comp P a, comp P b with
  | some x, some y => some (.seq x y)
  | _, _ => none
 | .cond c a b => match comp P a, comp P b with
  | some x, some y => some (.cond c x y)
  | _, _ => none
 | .block id c => (comp P c).map (.blk id)
 | .loop c => (comp P c).map .loop
 | .exit id => some (.exit id)
 | .ret => some .ret
 | .rangeFunc g ps a b => match comp P a, comp P b with
  | some x, some y => some (.rf g ps x y)
  | _, _ => none
 | .scope c => (comp P c).map .scp
 | .label l => some (.lbl l)
 | _ => none

inductive IT where
 | ic (c : IC)
 | ops (l : List OpI)
 | dops (G : List Nat) (l : List (Bool × OpI))
 | blk (id : Nat)
 | stop (Φ : List SV → List SObj → Prop)

structure IM where
 k0 : Nat
 todo : List IT
 tmps : List SV
 heap : List SObj

def RelOps (P : Program) (all : Array Oper) : List Nat → List OpI → Prop
 | [], [] => True
 | i :: idx, io :: l => (∃ o, all[i]? = some o ∧ compO P all o = some io) ∧ RelOps P all idx l
 | _, _ => False

def RelT (P : Program) : List IT → List It → Prop
 | [], k' => k' = []
 | .ic c :: k, k' => ∃ c' r, k' = .code c' :: r ∧ comp P c' = some c ∧ RelT P k r
 | .ops l :: k, k' => ∃ all idx r, k' = .ops all idx :: r ∧ RelOps P all idx l ∧ RelT P k r
 | .dops _ _ :: _, _ => False
 | .blk id :: k, k' => ∃ r, k' = .blk id :: r ∧ RelT P k r
 | .stop Φ :: k, k' => ∃ r, k' = .stop Φ :: r ∧ RelT P k r

def SoundI [Ghost] (P : Program) (AQ : Ex → List SV → List SObj → Prop) (m : IM) : Prop :=
 match m.todo with
 | .dops G l :: k => ∀ all listed fuel k', planL P all fuel listed = some l → RelT P k k' → AnyV P AQ m.k0 k' all G fuel listed m.tmps m.heap
 | td => ∀ td', RelT P td td' → Sound P AQ ⟨m.k0, td', m.tmps, m.heap⟩

variable [Ghost] {P : Program} {AQ : Ex → List SV → List SObj → Prop} {k0 : Nat} {k : List IT} {t : List SV} {H : List SObj}

def plainT : List IT → Bool
 | [] => true
 | .dops _ _ :: _ => false
 | _ :: _ => true

theorem q0i {td : List IT} (h : ∀ td', RelT P td td' → Sound P AQ ⟨k0, td', t, H⟩) (hp : plainT td = true) : SoundI P AQ ⟨k0, td, t, H⟩ := by
 unfold SoundI
 cases td with
 | nil => exact h
 | cons x l => cases x <;> first | exact h | simp [plainT] at hp
theorem q0m {td : List IT} {td' : List It} (h : SoundI P AQ ⟨k0, td, t, H⟩) (hr : RelT P td td') : Sound P AQ ⟨k0, td', t, H⟩ := by
 unfold SoundI at h
 cases td with
 | nil => exact h _ hr
 | cons x l => cases x <;> first | exact h _ hr | (simp only [RelT] at hr)

theorem j2y (h : AQ .normal t H) : SoundI P AQ ⟨k0, [], t, H⟩ := q0i (fun td' hr => by cases hr; exact z5r h) rfl

def CompInv (P : Program) (c : Code) : IC → Prop
 | .skip => c = .skip
 | .reg l => ∃ id all, c = .region id all false ∧ compL P all all.toList = some l
 | .drw l => ∃ id all, c = .region id all true ∧ planL P all all.size (Array.replicate all.size false) = some l
 | .seq x y => ∃ a b, c = .seq a b ∧ comp P a = some x ∧ comp P b = some y
 | .cond e x y => ∃ a b, c = .cond e a b ∧ comp P a = some x ∧ comp P b = some y
 | .blk id x => ∃ a, c = .block id a ∧ comp P a = some x
 | .loop x => ∃ a, c = .loop a ∧ comp P a = some x
 | .exit id => c = .exit id
 | .ret => c = .ret
 | .rf g ps x y => ∃ a b, c = .rangeFunc g ps a b ∧ comp P a = some x ∧ comp P b = some y
 | .scp x => ∃ a, c = .scope a ∧ comp P a = some x
 | .lbl l => c = .label l

theorem q1i {c : Code} {ic : IC} (h : comp P c = some ic) : CompInv P c ic := by
 cases c with
 | skip => cases h; rfl
 | region id all d =>
  cases d with
  | false =>
   simp only [comp, Option.map_eq_some_iff] at h
   obtain ⟨l, hl, rfl⟩ := h
   exact ⟨id, all, rfl, hl⟩
  | true =>
   simp only [comp, Option.map_eq_some_iff] at h
   obtain ⟨l, hl, rfl⟩ := h
   exact ⟨id, all, rfl, hl⟩
 | seq a b =>
  simp only [comp] at h
  split at h
  · cases h; exact ⟨a, b, rfl, by assumption, by assumption⟩
  cases h
 | cond e a b =>
  simp only [comp] at h
  split at h
  · cases h; exact ⟨a, b, rfl, by assumption, by assumption⟩
  cases h
 | block id a =>
  simp only [comp, Option.map_eq_some_iff] at h
  obtain ⟨l, hl, rfl⟩ := h
  exact ⟨a, rfl, hl⟩
 | loop a =>
  simp only [comp, Option.map_eq_some_iff] at h
  obtain ⟨l, hl, rfl⟩ := h
  exact ⟨a, rfl, hl⟩
 | exit id => cases h; rfl
 | ret => cases h; rfl
 | rangeFunc g ps a b =>
  simp only [comp] at h
  split at h
  · cases h; exact ⟨a, b, rfl, by assumption, by assumption⟩
  cases h
 | scope a =>
  simp only [comp, Option.map_eq_some_iff] at h
  obtain ⟨l, hl, rfl⟩ := h
  exact ⟨a, rfl, hl⟩
 | label l => cases h; rfl
 | _ => simp [comp] at h

theorem q6O {all : Array Oper} : ∀ (n : Nat) {os : List Oper} {l : List OpI}, (∀ j, os[j]? = all[n + j]?) → compL P all os = some l → RelOps P all ((List.range os.length).map (n + ·)) l
 | n, [], l, _, h => by cases h; simp [RelOps]
 | n, o :: os, l, ho, h => by
  simp only [compL] at h
  split at h
  · cases h
    rw [List.length_cons, List.range_succ_eq_map, List.map_cons, List.map_map]
    refine ⟨⟨o, by have := ho 0; simpa using this.symm, by assumption⟩, ?_⟩
    have := q6O (n + 1) (os := os) (fun j => by have := ho (j + 1); simp at this; rw [this]; congr 1; omega) (by assumption)
    have e : (fun x => n + x) ∘ Nat.succ = fun x => n + 1 + x := by funext x; simp; omega
    rw [e]
    exact this
  cases h

theorem j1p (h : SoundI P AQ ⟨k0, k, t, H⟩) : SoundI P AQ ⟨k0, .ic .skip :: k, t, H⟩ := q0i (fun td' hr => by
 obtain ⟨c', r, rfl, hc, hr⟩ := hr
 obtain rfl := q1i hc
 exact z3b (q0m h hr)) rfl
theorem j1Z {a b : IC} (h : SoundI P AQ ⟨k0, .ic a :: .ic b :: k, t, H⟩) : SoundI P AQ ⟨k0, .ic (.seq a b) :: k, t, H⟩ := q0i (fun td' hr => by
 obtain ⟨c', r, rfl, hc, hr⟩ := hr
 obtain ⟨x, y, rfl, hx, hy⟩ := q1i hc
 exact z4C (q0m h ⟨x, _, rfl, hx, y, r, rfl, hy, hr⟩)) rfl
theorem j1J {c : IC} (h : SoundI P AQ ⟨k0, .ic c :: k, t, H⟩) : SoundI P AQ ⟨k0, .ic (.scp c) :: k, t, H⟩ := q0i (fun td' hr => by
 obtain ⟨c', r, rfl, hc, hr⟩ := hr
 obtain ⟨x, rfl, hx⟩ := q1i hc
 exact z1m (q0m h ⟨x, _, rfl, hx, hr⟩)) rfl
theorem j1H {l : Nat} (h : SoundI P AQ ⟨k0, k, t, H⟩) : SoundI P AQ ⟨k0, .ic (.lbl l) :: k, t, H⟩ := q0i (fun td' hr => by
 obtain ⟨c', r, rfl, hc, hr⟩ := hr
 obtain rfl := q1i hc
 exact z0E (q0m h hr)) rfl
theorem j2p {id : Nat} {c : IC} (h : SoundI P AQ ⟨k0, .ic c :: .blk id :: k, t, H⟩) : SoundI P AQ ⟨k0, .ic (.blk id c) :: k, t, H⟩ := q0i (fun td' hr => by
 obtain ⟨c', r, rfl, hc, hr⟩ := hr
 obtain ⟨x, rfl, hx⟩ := q1i hc
 exact z0n (q0m h ⟨x, _, rfl, hx, r, rfl, hr⟩)) rfl
theorem z4E {id : Nat} (h : SoundI P AQ ⟨k0, k, t, H⟩) : SoundI P AQ ⟨k0, .blk id :: k, t, H⟩ := q0i (fun td' hr => by
 obtain ⟨r, rfl, hr⟩ := hr
 exact z5y (q0m h hr)) rfl
theorem z9o {Φ : List SV → List SObj → Prop} (h : Φ t H) : SoundI P AQ ⟨k0, .stop Φ :: k, t, H⟩ := q0i (fun td' hr => by
 obtain ⟨r, rfl, hr⟩ := hr
 exact z3h h) rfl
theorem j1K (h : AQ .ret t H) : SoundI P AQ ⟨k0, .ic .ret :: k, t, H⟩ := q0i (fun td' hr => by
 obtain ⟨c', r, rfl, hc, hr⟩ := hr
 obtain rfl := q1i hc
 exact z6l h) rfl
def exitI (id : Nat) : List IT → Option (List IT)
 | [] => none
 | .blk id' :: k => if id' = id then some k else exitI id k
 | _ :: k => exitI id k
theorem q3I {id : Nat} : ∀ {k : List IT} {k' : List IT} {r : List It}, RelT P k r → exitI id k = some k' → ∃ r', exitTo' id r = some r' ∧ RelT P k' r'
 | [], _, _, _, h => by simp [exitI] at h
 | .blk id' :: k, k', r, hr, h => by
  obtain ⟨r1, rfl, hr⟩ := hr
  unfold exitI at h
  unfold exitTo'
  split at h
  · cases h; rw [if_pos (by assumption)]; exact ⟨r1, rfl, hr⟩
  rw [if_neg (by assumption)]; exact q3I hr h
 | .ic _ :: k, k', r, hr, h => by obtain ⟨c', r1, rfl, _, hr⟩ := hr; exact q3I (k := k) (k' := k') (r := r1) hr h
 | .ops _ :: k, k', r, hr, h => by obtain ⟨_, _, r1, rfl, _, hr⟩ := hr; exact q3I (k := k) (k' := k') (r := r1) hr h
 | .stop _ :: k, k', r, hr, h => by obtain ⟨r1, rfl, hr⟩ := hr; exact q3I (k := k) (k' := k') (r := r1) hr h
 | .dops _ _ :: k, _, _, hr, _ => hr.elim
theorem z9J {id : Nat} {k' : List IT} (hk : exitI id k = some k') (h : SoundI P AQ ⟨k0, k', t, H⟩) : SoundI P AQ ⟨k0, .ic (.exit id) :: k, t, H⟩ := q0i (fun td' hr => by
 obtain ⟨c', r, rfl, hc, hr⟩ := hr
 obtain rfl := q1i hc
 obtain ⟨r', h1, h2⟩ := q3I hr hk
 exact z3d h1 (q0m h h2)) rfl
theorem q3a {id : Nat} : ∀ {k : List IT} {r : List It}, RelT P k r → exitI id k = none → exitTo' id r = none
 | [], r, h, _ => by cases h; rfl
 | .blk id' :: k, r, h, hn => by
  obtain ⟨r1, rfl, hr⟩ := h
  unfold exitI at hn
  unfold exitTo'
  split at hn
  · cases hn
  rw [if_neg (by assumption)]; exact q3a hr hn
 | .ic _ :: k, r, h, hn => by obtain ⟨c', r1, rfl, _, hr⟩ := h; exact q3a (k := k) (r := r1) hr hn
 | .ops _ :: k, r, h, hn => by obtain ⟨_, _, r1, rfl, _, hr⟩ := h; exact q3a (k := k) (r := r1) hr hn
 | .stop _ :: k, r, h, hn => by obtain ⟨r1, rfl, hr⟩ := h; exact q3a (k := k) (r := r1) hr hn
theorem z6u {id : Nat} (hn : exitI id k = none) (h : AQ (.exit id) t H) : SoundI P AQ ⟨k0, .ic (.exit id) :: k, t, H⟩ := q0i (fun td' hr E r n C a h0 hd => by
 obtain ⟨c', r, rfl, hc, hr⟩ := hr
 obtain rfl := q1i hc
 simp only [wpT]
 exact wpIn_exit (q2w (q3a hr hn) ⟨C, t, H, h, rfl, Den.fin hd⟩)) rfl
theorem z9D {c : Operand} {a b : IC} {v : Bool} (hc : evT t c = .raw (.bool v)) (h1 : v = true → SoundI P AQ ⟨k0, .ic a :: k, t, H⟩) (h2 : v = false → SoundI P AQ ⟨k0, .ic b :: k, t, H⟩) : SoundI P AQ ⟨k0, .ic (.cond c a b) :: k, t, H⟩ := q0i (fun td' hr => by
 obtain ⟨c', r, rfl, hcc, hr⟩ := hr
 obtain ⟨x, y, rfl, hx, hy⟩ := q1i hcc
 exact z2J hc (fun e => q0m (h1 e) ⟨x, r, rfl, hx, hr⟩) (fun e => q0m (h2 e) ⟨y, r, rfl, hy, hr⟩)) rfl
theorem j1D {l : List OpI} (h : SoundI P AQ ⟨k0, .ops l :: k, t, H⟩) : SoundI P AQ ⟨k0, .ic (.reg l) :: k, t, H⟩ := q0i (fun td' hr => by
 obtain ⟨c', r, rfl, hc, hr⟩ := hr
 obtain ⟨id, all, rfl, hl⟩ := q1i hc
 have := q6O (P := P) (all := all) 0 (os := all.toList) (fun j => by simp) hl
 simp only [Nat.zero_add, List.map_id', Array.length_toList] at this
 exact q9I (q0m h ⟨all, _, r, rfl, this, hr⟩)) rfl
theorem z5p (h : SoundI P AQ ⟨k0, k, t, H⟩) : SoundI P AQ ⟨k0, .ops [] :: k, t, H⟩ := q0i (fun td' hr => by
 obtain ⟨all, idx, r, rfl, ho, hr⟩ := hr
 cases idx with
 | nil => exact q8v (q0m h hr)
 | cons i l => exact ho.elim) rfl
theorem q1F {l : List (Bool × OpI)} (G : List Nat) (hm : P.follows .mixedOrders = true) (h : SoundI P AQ ⟨k0, .dops G l :: k, t, H⟩) : SoundI P AQ ⟨k0, .ic (.drw l) :: k, t, H⟩ := q0i (fun td' hr => by
 obtain ⟨c', r, rfl, hc, hr⟩ := hr
 obtain ⟨id, all, rfl, hl⟩ := q1i hc
 exact z2Z G hm (h all _ _ r hl hr)) rfl

def opK (P : Program) (AQ : Ex → List SV → List SObj → Prop) (k0 : Nat) (td : List IT) (t : List SV) (d : Option Tmp) : Out → List SObj → Prop
 | .ret s, H' => SoundI P AQ ⟨k0, td, putT t d s, H'⟩
 | .pan s, H' => AQ (.pan s) t H'

theorem j2M {io : OpI} {l : List OpI} (hg : io.guard = none) (h : (io.op.ev H (evT t)).to P H (opK P AQ k0 (.ops l :: k) t io.dst)) : SoundI P AQ ⟨k0, .ops (io :: l) :: k, t, H⟩ := q0i (fun td' hr => by
 obtain ⟨all, idx, r, rfl, ho, hr⟩ := hr
 cases idx with
 | nil => exact ho.elim
 | cons i idx =>
  obtain ⟨⟨o, ho1, ho2⟩, ho⟩ := ho
  obtain ⟨hc, hd⟩ := q1o ho2
  refine z1w ho1 ((q0N ho2).1 hg) (OpV.mono (q3g hc h) fun x H' hx => ?_)
  cases x with
  | ret s => simp only [opK, hd] at hx; exact q0m hx ⟨all, idx, r, rfl, ho, hr⟩
  | pan s => exact hx) rfl

theorem q9S {P : Program} {k : List It} (d : Nat) {v b : Bool} (hv : t.getD d .any = .raw (.bool v)) (e : v = b) (h : Sound P AQ ⟨k0, k, t.set d (.raw (.bool b)), H⟩) : Sound P AQ ⟨k0, k, t, H⟩ := by
 subst e
 have : t.set d (.raw (.bool v)) = t := by
  rcases Nat.lt_or_ge d t.length with hl | hl
  · apply List.ext_getElem?
    intro i
    by_cases hi : i = d
    · subst hi
      rw [List.getElem?_set_self hl, ← hv, List.getD_eq_getElem?_getD, List.getElem?_eq_getElem hl]; rfl
    rw [List.getElem?_set_ne (Ne.symm hi)]
  exact List.set_eq_of_length_le hl
 rwa [this] at h
end Go.Sx
set_option linter.unusedSectionVars false
namespace Go.Sx
open Go

variable [Ghost] {P : Program} {AQ : Ex → List SV → List SObj → Prop} {k0 : Nat} {k : List IT} {t : List SV} {H : List SObj}

theorem q1V {d : Nat} {v b : Bool} (hv : t.getD d .any = .raw (.bool v)) : (t.set d (.raw (.bool b))).getD d .any = .raw (.bool b) := by
 rcases Nat.lt_or_ge d t.length with hl | hl
 · rw [List.getD_eq_getElem?_getD, List.getElem?_set_self hl]; rfl
 rw [List.getD_eq_getElem?_getD, List.getElem?_eq_none hl] at hv; simp at hv

theorem z6w {io : OpI} {l : List OpI} {d : Nat} {v b : Bool} (hg : io.guard = some (d, b)) (hv : t.getD d .any = .raw (.bool v))
 (h1 : v = b → (io.op.ev H (evT (t.set d (.raw (.bool b))))).to P H (opK P AQ k0 (.ops l :: k) (t.set d (.raw (.bool b))) io.dst))
 (h2 : v = !b → SoundI P AQ ⟨k0, .ops l :: k, putT (t.set d (.raw (.bool !b))) io.dst (.raw (.tuple #[])), H⟩) : SoundI P AQ ⟨k0, .ops (io :: l) :: k, t, H⟩ := q0i (fun td' hr => by
 obtain ⟨all, idx, r, rfl, ho, hr⟩ := hr
 cases idx with
 | nil => exact ho.elim
 | cons i idx =>
  obtain ⟨⟨o, ho1, ho2⟩, ho⟩ := ho
  obtain ⟨hc, hd⟩ := q1o ho2
  by_cases hb : v = b
  · refine q9S d hv hb ?_
    refine z1w ho1 (by rw [(q0N ho2).2.1 d b b hg (q1V hv)]; simp) (OpV.mono (q3g hc (h1 hb)) fun x H' hx => ?_)
    cases x with
    | ret s => simp only [opK, hd] at hx; exact q0m hx ⟨all, idx, r, rfl, ho, hr⟩
    | pan s => exact hx
  have hb' : v = !b := by cases v <;> cases b <;> simp_all
  refine q9S d hv hb' ?_
  refine q4O ho1 (by rw [(q0N ho2).2.1 d b (!b) hg (q1V hv)]; simp) ?_
  have := h2 hb'
  rw [hd] at this
  exact q0m this ⟨all, idx, r, rfl, ho, hr⟩) rfl

theorem z3F {io : OpI} {l : List OpI} {d : Nat} {b : Bool} {vs : Array Value} (hg : io.guard = some (d, b)) (hv : t.getD d .any = .raw (.tuple vs))
 (h2 : SoundI P AQ ⟨k0, .ops l :: k, putT t io.dst (.raw (.tuple #[])), H⟩) : SoundI P AQ ⟨k0, .ops (io :: l) :: k, t, H⟩ := q0i (fun td' hr => by
 obtain ⟨all, idx, r, rfl, ho, hr⟩ := hr
 cases idx with
 | nil => exact ho.elim
 | cons i idx =>
  obtain ⟨⟨o, ho1, ho2⟩, ho⟩ := ho
  obtain ⟨hc, hd⟩ := q1o ho2
  refine q4O ho1 ((q0N ho2).2.2 d b vs hg hv) ?_
  rw [hd] at h2
  exact q0m h2 ⟨all, idx, r, rfl, ho, hr⟩) rfl

theorem q2u {all : Array Oper} {fuel : Nat} {listed : Array Bool} {fl : Bool} {io : OpI} {l : List (Bool × OpI)} (h : planL P all fuel listed = some ((fl, io) :: l)) :
 ∃ n i o io0, fuel = n + 1 ∧ all[i]? = some o ∧ compO P all o = some io0 ∧ planL P all n (listed.setIfInBounds i true) = some l ∧
  planChk all listed i fl = true ∧ io.dst = io0.dst ∧ io.guard = io0.guard ∧ ((io = io0 ∧ (fl = true → ldChk all listed i = true)) ∨ (fl = true ∧ io.op = toS io0.op)) := by
 cases fuel with
 | zero =>
  simp only [planL] at h
  split at h <;> cases h
 | succ n =>
  simp only [planL] at h
  split at h
  · cases h
  split at h
  · split at h
    · split at h
      · split at h
        · split at h
          · rename_i i fl' _ _ o ho _ io0 hio _ l' hl hc
            simp only [Option.some.injEq, List.cons.injEq, Prod.mk.injEq] at h
            obtain ⟨⟨rfl, rfl⟩, rfl⟩ := h
            refine ⟨n, i, o, io0, rfl, ho, hio, hl, hc, ?_⟩
            cases hq : (fl' && !ldChk all listed i) with
            | true =>
             simp only [if_true, true_and]
             rw [Bool.and_eq_true] at hq
             exact .inr ⟨hq.1, trivial⟩
            | false =>
             simp only [Bool.false_eq_true, if_false, true_and]
             refine .inl fun hf => ?_
             rw [hf] at hq
             simpa using hq
          cases h
        cases h
      cases h
    cases h
  cases h
theorem z9a (i : IOp) (H : List SObj) (ev : Operand → SV) : (toS i).ev H ev = i.ev H ev := by cases i <;> rfl
theorem z6f {all : Array Oper} {fuel : Nat} {listed : Array Bool} (h : planL P all fuel listed = some []) : (Region.ready .any all listed).isEmpty = true := by
 cases fuel with
 | zero =>
  simp only [planL] at h
  split at h
  · assumption
  cases h
 | succ n =>
  simp only [planL] at h
  split at h
  · assumption
  split at h
  · split at h
    · split at h
      · split at h
        · split at h <;> cases h
        cases h
      cases h
    cases h
  cases h

theorem j2k {G : List Nat} (h : SoundI P AQ ⟨k0, k, t, H⟩) : SoundI P AQ ⟨k0, .dops G [] :: k, t, H⟩ := by
 intro all listed fuel k' hp hr
 exact any_nil (z6f hp) (q0m h hr)

def floatOk (G : List Nat) (ev : Operand → SV) : IOp → Bool
 | .mov _ | .pick .. | .nil _ | .bin .. | .eqs .. | .un .. | .toInt .. | .fa .. | .fld .. | .ia .. | .ixs .. | .len .. | .ext .. | .mkf .. | .mki .. | .bld .. | .sl .. | .sl3 .. | .iaa .. | .sla .. => true
 | .toStr _ x => match ev x with
  | .bld .. => false
  | .osl .. => false
  | _ => true
 | .ld _ x => match ev x with
  | .ptr h _ => G.contains h
  | .rptr h _ _ _ => G.contains h
  | _ => true
 | .ldS _ x => strictG G && match ev x with
  | .ptr h _ => G.contains h
  | .rptr h _ _ _ => G.contains h
  | _ => true
 | .mlk _ _ _ m _ => match ev m with
  | .imap .. => true
  | _ => false
 | _ => false
theorem z1S {G : List Nat} {H' : List SObj} {ev : Operand → SV} {b : Bool} {x : Operand} (hf : floatOk G ev (.toStr b x) = true) : (IOp.toStr b x).ev H' ev = (IOp.toStr b x).ev H ev := by
 cases b with
 | false => rfl
 | true =>
  simp only [IOp.ev, floatOk] at *
  generalize ev x = s at *
  cases s with
  | bld h t n => cases hf
  | osl h t off n => cases hf
  | raw v => cases v with
   | slice a n c => cases a <;> cases n <;> cases c <;> rfl
   | _ => rfl
  | isl t xs => cases t <;> rfl
  | _ => rfl
theorem z2p {G : List Nat} {H' : List SObj} {ev : Operand → SV} {kk : Option IntKind} {z : Value} {ok : Bool} {m k : Operand} (hf : floatOk G ev (.mlk kk z ok m k) = true) : (IOp.mlk kk z ok m k).ev H' ev = (IOp.mlk kk z ok m k).ev H ev := by
 simp only [IOp.ev, floatOk] at *
 generalize ev m = s at *
 cases s <;> first | rfl | (simp at hf; done)
theorem z6p {G : List Nat} {H' : List SObj} {i : IOp} {ev : Operand → SV} (hf : floatOk G ev i = true) (hs : SameG G H H') : i.ev H' ev = i.ev H ev := by
 cases i <;> first | rfl | (simp [floatOk] at hf; done) | skip
 case toStr b x => exact z1S hf
 case mlk => exact z2p hf
 case ld ag x =>
  simp only [IOp.ev, floatOk] at *
  generalize ev x = s at *
  cases s <;> first | rfl | skip
  · rename_i v
    cases v <;> try rfl
    rename_i p
    cases p <;> try rfl
    rename_i a
    obtain ⟨b, off, sp⟩ := a
    cases sp <;> rfl
  · simp only at hf
    simp only [evLd]
    rw [hs _ (by simpa using hf)]
  simp only at hf
  simp only [evLd]
  rw [hs _ (by simpa using hf)]
 case ldS ag x =>
  simp only [IOp.ev, floatOk, Bool.and_eq_true] at *
  replace hf := hf.2
  generalize ev x = s at *
  cases s <;> first | rfl | skip
  · rename_i v
    cases v <;> try rfl
    rename_i p
    cases p <;> try rfl
    rename_i a
    obtain ⟨b, off, sp⟩ := a
    cases sp <;> rfl
  · simp only at hf
    simp only [evLd]
    rw [hs _ (by simpa using hf)]
  simp only at hf
  simp only [evLd]
  rw [hs _ (by simpa using hf)]

theorem floatS {G : List Nat} {ev : Operand → SV} {i : IOp} (h : floatOk G ev (toS i) = true) : floatOk G ev i = true ∧ (isLd i = true → strictG G = true) := by
 cases i <;> first | exact ⟨h, fun hl => absurd hl Bool.false_ne_true⟩ | skip
 case ld ag x =>
  simp only [toS, floatOk, Bool.and_eq_true] at h
  exact ⟨by simp only [floatOk]; exact h.2, fun _ => h.1⟩
 case ldS ag x =>
  refine ⟨h, fun _ => ?_⟩
  simp only [toS, floatOk, Bool.and_eq_true] at h
  exact h.1
theorem float0 {G : List Nat} {all : Array Oper} {listed : Array Bool} {i : Nat} {fl : Bool} {ev : Operand → SV} {io io0 : OpI} (hop : (io = io0 ∧ (fl = true → ldChk all listed i = true)) ∨ (fl = true ∧ io.op = toS io0.op)) (hfl : fl = true) (hf : floatOk G ev io.op = true) :
 floatOk G ev io0.op = true ∧ (∀ H, io.op.ev H ev = io0.op.ev H ev) ∧ (isLd io0.op = true → ldChk all listed i = true ∨ strictG G = true) := by
 rcases hop with ⟨rfl, h⟩ | ⟨_, h⟩
 · exact ⟨hf, fun _ => rfl, fun _ => .inl (h hfl)⟩
 rw [h] at hf
 have h1 := floatS hf
 exact ⟨h1.1, fun H => by rw [h, z9a], fun hl => .inr (h1.2 hl)⟩
theorem op0 {all : Array Oper} {listed : Array Bool} {i : Nat} {fl : Bool} {ev : Operand → SV} {io io0 : OpI} (hop : (io = io0 ∧ (fl = true → ldChk all listed i = true)) ∨ (fl = true ∧ io.op = toS io0.op)) (H : List SObj) : io.op.ev H ev = io0.op.ev H ev := by
 rcases hop with ⟨rfl, h⟩ | ⟨_, h⟩
 · rfl
 rw [h, z9a]
theorem z8v {H' : List SObj} {G : List Nat} {i : IOp} {ev : Operand → SV} (hf : floatOk G ev i = true) (hl : isLd i = false) : i.ev H' ev = i.ev H ev := by
 cases i <;> first | rfl | (simp [floatOk] at hf; done) | (simp [isLd] at hl; done) | skip
 case toStr b x => exact z1S hf
 case mlk => exact z2p hf
theorem q9o {all : Array Oper} {o : Oper} {io : OpI} (h : compO P all o = some io) (hl : isLd io.op = true) : needsLd o = true := by
 rw [← (compOp'_ok (compO_op' h).1).2.1]; exact hl
theorem z6F {all : Array Oper} {o : Oper} {io : OpI} (h : compO P all o = some io) : gk o = gkI io.op := (compOp'_ok (compO_op' h).1).2.2.symm

theorem q3w {all : Array Oper} {listed : Array Bool} {i : Nat} (h : planChk all listed i true = true) : ((Region.ready .any all listed).contains i && Region.free .any all listed i) = true ∧ ldChkS all listed i = true := by
 simp only [planChk, if_true] at h
 rw [Bool.and_eq_true] at h
 exact h

theorem z1Z {all : Array Oper} {G : List Nat} {o : Oper} {io : OpI} {p : Prop} {s : SV} {i n : Nat} {listed : Array Bool} {k' : List It} (ho : all[i]? = some o) (hc : compO P all o = some io) (hw : wantedT all t o = some true) (hf : floatOk G (evT t) io.op = true) (he : io.op.ev H (evT t) = .val p s) (hp : p) (hL : isLd io.op = true → ldChk all listed i = true ∨ strictG G = true)
 (hB : planChk all listed i true = true) (h : AnyV P AQ k0 k' all G n (listed.setIfInBounds i true) (putT t o.dst s) H) : AnyV P AQ k0 k' all G (n + 1) listed t H := by
 obtain ⟨h1, h2⟩ := q3w hB
 cases hl : isLd io.op with
 | false => exact q6z h1 ho (.inl ⟨hw, fun H' _ K hk => q3g (q1o hc).1 (by rw [z8v (H := H) hf hl, he]; exact ⟨hp, hk⟩)⟩) h
 | true =>
  rcases hL hl with h3 | h3
  · have hL : ldFree all listed i = true := by
     simp only [ldChk, ho, q9o hc hl] at h3
     simpa using h3
    exact z2P h1 hL ho (.inl ⟨hw, fun H' hs K hk => q3g (q1o hc).1 (by rw [z6p hf hs, he]; exact ⟨hp, hk⟩)⟩) h
  have hL : closedB all listed = true := by
   simp only [ldChkS, ho, q9o hc hl] at h2
   simpa using h2
  exact z3x h3 h1 hL ho (.inl ⟨hw, fun H' hs K hk => q3g (q1o hc).1 (by rw [z6p hf hs, he]; exact ⟨hp, hk⟩)⟩) h

theorem z6P {G : List Nat} {io : OpI} {l : List (Bool × OpI)} {p : Prop} {s : SV} (hg : io.guard = none) (hf : floatOk G (evT t) io.op = true) (he : io.op.ev H (evT t) = .val p s) (hp : p) (h : SoundI P AQ ⟨k0, .dops G l :: k, putT t io.dst s, H⟩) :
 SoundI P AQ ⟨k0, .dops G ((true, io) :: l) :: k, t, H⟩ := by
 intro all listed fuel k' hpl hr
 obtain ⟨n, i, o, io0, rfl, ho, hco, hpl', hB, hdst, hgd, hop⟩ := q2u hpl
 obtain ⟨hf0, he0, hL⟩ := float0 hop rfl hf
 refine z1Z ho hco ((q0N hco).1 (hgd ▸ hg)) hf0 ((he0 H).symm.trans he) hp hL hB ?_
 rw [← (q1o hco).2, ← hdst]
 exact h all _ n k' hpl' hr

theorem z2q {all : Array Oper} {G : List Nat} {fuel : Nat} {listed : Array Bool} {k' : List It} (d : Nat) {v b : Bool} (hv : t.getD d .any = .raw (.bool v)) (e : v = b) (h : AnyV P AQ k0 k' all G fuel listed (t.set d (.raw (.bool b))) H) : AnyV P AQ k0 k' all G fuel listed t H := by
 subst e
 have : t.set d (.raw (.bool v)) = t := by
  rcases Nat.lt_or_ge d t.length with hl | hl
  · apply List.ext_getElem?
    intro i
    by_cases hi : i = d
    · subst hi
      rw [List.getElem?_set_self hl, ← hv, List.getD_eq_getElem?_getD, List.getElem?_eq_getElem hl]; rfl
    rw [List.getElem?_set_ne (Ne.symm hi)]
  exact List.set_eq_of_length_le hl
 rwa [this] at h

theorem z6M {G : List Nat} {fl : Bool} {io : OpI} {l : List (Bool × OpI)} {d : Nat} {v b : Bool} (hg : io.guard = some (d, b)) (hv : t.getD d .any = .raw (.bool v))
 (h1 : v = b → SoundI P AQ ⟨k0, .dops G ((fl, { io with guard := some (d, b) }) :: l) :: k, t.set d (.raw (.bool b)), H⟩)
 (h2 : v = !b → SoundI P AQ ⟨k0, .dops G ((fl, { io with guard := some (d, b) }) :: l) :: k, t.set d (.raw (.bool !b)), H⟩) : SoundI P AQ ⟨k0, .dops G ((fl, io) :: l) :: k, t, H⟩ := by
 have hio : { io with guard := some (d, b) } = io := by cases io; simp at hg; subst hg; rfl
 rw [hio] at h1 h2
 intro all listed fuel k' hpl hr
 by_cases hb : v = b
 · exact z2q d hv hb (h1 hb all listed fuel k' hpl hr)
 have hb' : v = !b := by cases v <;> cases b <;> simp_all
 exact z2q d hv hb' (h2 hb' all listed fuel k' hpl hr)

theorem z2R {G : List Nat} {io : OpI} {l : List (Bool × OpI)} {d : Nat} {b : Bool} {p : Prop} {s : SV} (hg : io.guard = some (d, b)) (hv : t.getD d .any = .raw (.bool b)) (hf : floatOk G (evT t) io.op = true) (he : io.op.ev H (evT t) = .val p s) (hp : p) (h : SoundI P AQ ⟨k0, .dops G l :: k, putT t io.dst s, H⟩) :
 SoundI P AQ ⟨k0, .dops G ((true, io) :: l) :: k, t, H⟩ := by
 intro all listed fuel k' hpl hr
 obtain ⟨n, i, o, io0, rfl, ho, hco, hpl', hB, hdst, hgd, hop⟩ := q2u hpl
 obtain ⟨hf0, he0, hL⟩ := float0 hop rfl hf
 refine z1Z ho hco (by rw [(q0N hco).2.1 d b b (hgd ▸ hg) hv]; simp) hf0 ((he0 H).symm.trans he) hp hL hB ?_
 rw [← (q1o hco).2, ← hdst]
 exact h all _ n k' hpl' hr
theorem z1z {all : Array Oper} {G : List Nat} {fuel i : Nat} {listed : Array Bool} {o : Oper} {k' : List It} (fl : Bool) (hB : planChk all listed i fl = true) (ho : all[i]? = some o) (hw : wantedT all t o = some false)
 (h : AnyV P AQ k0 k' all G fuel (listed.setIfInBounds i true) (putT t o.dst (.raw (.tuple #[]))) H) : AnyV P AQ k0 k' all G (fuel + 1) listed t H := by
 cases fl with
 | true => exact z7K (q3w hB).1 ho hw h
 | false =>
  have hB' : Region.ready .any all listed = [i] := by simpa [planChk] using hB
  refine ⟨fun h0 => (by rw [hB'] at h0; cases h0), fun j hj => ?_⟩
  rw [hB'] at hj
  obtain rfl : j = i := by simpa using hj
  exact ⟨o, ho, .inr ⟨hw, SameG.refl _ _, h⟩⟩
theorem z9C {G : List Nat} {fl : Bool} {io : OpI} {l : List (Bool × OpI)} {d : Nat} {b : Bool} (hg : io.guard = some (d, b)) (hv : t.getD d .any = .raw (.bool !b)) (h : SoundI P AQ ⟨k0, .dops G l :: k, putT t io.dst (.raw (.tuple #[])), H⟩) :
 SoundI P AQ ⟨k0, .dops G ((fl, io) :: l) :: k, t, H⟩ := by
 intro all listed fuel k' hpl hr
 obtain ⟨n, i, o, io0, rfl, ho, hco, hpl', hB, hdst, hgd, hop⟩ := q2u hpl
 refine z1z fl hB ho (by rw [(q0N hco).2.1 d b (!b) (hgd ▸ hg) hv]; simp) ?_
 rw [← (q1o hco).2, ← hdst]
 exact h all _ n k' hpl' hr

theorem z6J {G : List Nat} {fl : Bool} {io : OpI} {l : List (Bool × OpI)} {d : Nat} {b : Bool} {vs : Array Value} (hg : io.guard = some (d, b)) (hv : t.getD d .any = .raw (.tuple vs)) (h : SoundI P AQ ⟨k0, .dops G l :: k, putT t io.dst (.raw (.tuple #[])), H⟩) :
 SoundI P AQ ⟨k0, .dops G ((fl, io) :: l) :: k, t, H⟩ := by
 intro all listed fuel k' hpl hr
 obtain ⟨n, i, o, io0, rfl, ho, hco, hpl', hB, hdst, hgd, hop⟩ := q2u hpl
 refine z1z fl hB ho ((q0N hco).2.2 d b vs (hgd ▸ hg) hv) ?_
 rw [← (q1o hco).2, ← hdst]
 exact h all _ n k' hpl' hr

def opKG (P : Program) (AQ : Ex → List SV → List SObj → Prop) (k0 : Nat) (g : Bool) (G : List Nat) (H : List SObj) (td : List IT) (t : List SV) (d : Option Tmp) : Out → List SObj → Prop
 | .ret s, H' => (g = true → SameG G H H') ∧ SoundI P AQ ⟨k0, td, putT t d s, H'⟩
 | .pan s, H' => AQ (.pan s) [] H'
theorem z8O {G : List Nat} {io : OpI} {l : List (Bool × OpI)} (hg : io.guard = none ∨ ∃ d b, io.guard = some (d, b) ∧ t.getD d .any = .raw (.bool b)) (h : (io.op.ev H (evT t)).to P H (opKG P AQ k0 (gkI io.op || strictG G) G H (.dops G l :: k) t io.dst)) :
 SoundI P AQ ⟨k0, .dops G ((false, io) :: l) :: k, t, H⟩ := by
 intro all listed fuel k' hpl hr
 obtain ⟨n, i, o, io0, rfl, ho, hco, hpl', hB, hdst, hgd, hop⟩ := q2u hpl
 have hw : wantedT all t o = some true := by
  rcases hg with hg | ⟨d, b, hg, hv⟩
  · exact (q0N hco).1 (hgd ▸ hg)
  rw [(q0N hco).2.1 d b b (hgd ▸ hg) hv]; simp
 obtain ⟨rfl, -⟩ : io = io0 ∧ True := by
  rcases hop with h | h
  · exact ⟨h.1, trivial⟩
  cases h.1
 refine j1f hB ho hw (OpV.mono (q3g (q1o hco).1 h) fun x H' hx => ?_)
 cases x with
 | ret s =>
  simp only [opKG, (q1o hco).2] at hx
  refine ⟨?_, hx.2 all _ n k' hpl' hr⟩
  simp only [gsel, ho]
  rw [z6F hco]
  split
  · exact hx.1 (by assumption)
  exact fun _ hh => by cases hh
 | pan s => exact hx

theorem j0b {G : List Nat} {io : OpI} {l : List (Bool × OpI)} {f : FuncId} {args : List SV} {s : SV} (hg : io.guard = none ∨ ∃ d b, io.guard = some (d, b) ∧ t.getD d .any = .raw (.bool b)) (he : ∀ H', io.op.ev H' (evT t) = .call f args) (hf : enters P f = true)
 (hc : ∀ (H' : List SObj) (K : Out → List SObj → Prop), K (.ret s) H' → VCallG P f args H' K) (h : SoundI P AQ ⟨k0, .dops G l :: k, putT t io.dst s, H⟩) :
 SoundI P AQ ⟨k0, .dops G ((true, io) :: l) :: k, t, H⟩ := by
 intro all listed fuel k' hpl hr
 obtain ⟨n, i, o, io0, rfl, ho, hco, hpl', hB, hdst, hgd, hop⟩ := q2u hpl
 have hw : wantedT all t o = some true := by
  rcases hg with hg | ⟨d, b, hg, hv⟩
  · exact (q0N hco).1 (hgd ▸ hg)
  rw [(q0N hco).2.1 d b b (hgd ▸ hg) hv]; simp
 refine q6z (q3w hB).1 ho (.inl ⟨hw, fun H' _ K hk => q3g (q1o hco).1 (by rw [← op0 hop H', he H']; exact ⟨hf, hc H' K hk⟩)⟩) ?_
 rw [← (q1o hco).2, ← hdst]
 exact h all _ n k' hpl' hr
end Go.Sx
set_option linter.unusedSectionVars false
namespace Go.Sx
open Go

variable [Ghost] {P : Program} {AQ : Ex → List SV → List SObj → Prop} {k0 : Nat} {k : List IT} {t : List SV} {H : List SObj}

def VC (P : Program) (f : FuncId) (args : List SV) (H : List SObj) (K : Out → List SObj → Prop) : Prop := enters P f = true ∧ VCall P f args H K
def VCG (P : Program) (f : FuncId) (args : List SV) (H : List SObj) (K : Out → List SObj → Prop) : Prop := enters P f = true ∧ VCallG P f args H K
theorem VC.g {f : FuncId} {args : List SV} {K : Out → List SObj → Prop} (h : VC P f args H K) : VCG P f args H K := ⟨h.1, h.2.g⟩

def CallI (P : Program) (AQ : Ex → List SV → List SObj → Prop) (f : FuncId) (args : List SV) (d : Option Tmp) (m : IM) : Prop :=
 VCG P f args m.heap (opK P AQ m.k0 m.todo m.tmps d)
def CallR (P : Program) (AQ : Ex → List SV → List SObj → Prop) (G : List Nat) (f : FuncId) (args : List SV) (d : Option Tmp) (m : IM) : Prop :=
 VCG P f args m.heap (opKG P AQ m.k0 true G m.heap m.todo m.tmps d)
def CallF (P : Program) (AQ : Ex → List SV → List SObj → Prop) (f : FuncId) (args : List SV) (d : Option Tmp) (m : IM) : Prop :=
 ∃ s, enters P f = true ∧ (∀ (H' : List SObj) (K : Out → List SObj → Prop), K (.ret s) H' → VCallG P f args H' K) ∧ SoundI P AQ { m with tmps := putT m.tmps d s }

def ZldI (P : Program) (AQ : Ex → List SV → List SObj → Prop) (ag : Option Nat) (b off : Nat) (d : Option Tmp) (m : IM) : Prop := (Res.zld ag b off).to P m.heap (opK P AQ m.k0 m.todo m.tmps d)
def ZstI (P : Program) (AQ : Ex → List SV → List SObj → Prop) (n b off : Nat) (y : SV) (d : Option Tmp) (m : IM) : Prop := (Res.zst n b off y).to P m.heap (opK P AQ m.k0 m.todo m.tmps d)
def ZldR (P : Program) (AQ : Ex → List SV → List SObj → Prop) (g : Bool) (G : List Nat) (ag : Option Nat) (b off : Nat) (d : Option Tmp) (m : IM) : Prop := (Res.zld ag b off).to P m.heap (opKG P AQ m.k0 g G m.heap m.todo m.tmps d)
def ZstR (P : Program) (AQ : Ex → List SV → List SObj → Prop) (g : Bool) (G : List Nat) (n b off : Nat) (y : SV) (d : Option Tmp) (m : IM) : Prop := (Res.zst n b off y).to P m.heap (opKG P AQ m.k0 g G m.heap m.todo m.tmps d)
def YldI (P : Program) (AQ : Ex → List SV → List SObj → Prop) (l : Nat) (args : List SV) (d : Option Tmp) (m : IM) : Prop := (Res.yld l args).to P m.heap (opK P AQ m.k0 m.todo m.tmps d)
def YldR (P : Program) (AQ : Ex → List SV → List SObj → Prop) (g : Bool) (G : List Nat) (l : Nat) (args : List SV) (d : Option Tmp) (m : IM) : Prop := (Res.yld l args).to P m.heap (opKG P AQ m.k0 g G m.heap m.todo m.tmps d)

def exec (P : Program) (AQ : Ex → List SV → List SObj → Prop) (rec : IM → Prop) (k0 : Nat) (td : List IT) (t : List SV) (H : List SObj) (d : Option Tmp) : Res → Prop
 | .val p s => p ∧ rec ⟨k0, td, putT t d s, H⟩
 | .amb E s => ∀ b : Bool, (b = true → E) → rec ⟨k0, td, putT t d (s b), H⟩
 | .new p s Hk so => p ∧ rec ⟨k0, td, putT t d s, Hk ++ [so]⟩
 | .set s h so => rec ⟨k0, td, putT t d s, H.set h so⟩
 | .setp p s h so => p ∧ rec ⟨k0, td, putT t d s, H.set h so⟩
 | .call f args => CallI P AQ f args d ⟨k0, td, t, H⟩
 | .zld ag b off => ZldI P AQ ag b off d ⟨k0, td, t, H⟩
 | .zst n b off y => ZstI P AQ n b off y d ⟨k0, td, t, H⟩
 | .yld l args => YldI P AQ l args d ⟨k0, td, t, H⟩
 | .pan s => AQ (.pan s) t H
 | .none => False

def execR (P : Program) (AQ : Ex → List SV → List SObj → Prop) (rec : IM → Prop) (g : Bool) (k0 : Nat) (G : List Nat) (td : List IT) (t : List SV) (H : List SObj) (d : Option Tmp) : Res → Prop
 | .val p s => p ∧ rec ⟨k0, td, putT t d s, H⟩
 | .amb E s => ∀ b : Bool, (b = true → E) → rec ⟨k0, td, putT t d (s b), H⟩
 | .new p s Hk so => p ∧ (g = true → SameG G H (Hk ++ [so])) ∧ rec ⟨k0, td, putT t d s, Hk ++ [so]⟩
 | .set s h so => (g = true → SameG G H (H.set h so)) ∧ rec ⟨k0, td, putT t d s, H.set h so⟩
 | .setp p s h so => p ∧ (g = true → SameG G H (H.set h so)) ∧ rec ⟨k0, td, putT t d s, H.set h so⟩
 | .call f args => g = true ∧ CallR P AQ G f args d ⟨k0, td, t, H⟩
 | .zld ag b off => ZldR P AQ g G ag b off d ⟨k0, td, t, H⟩
 | .zst n b off y => ZstR P AQ g G n b off y d ⟨k0, td, t, H⟩
 | .yld l args => YldR P AQ g G l args d ⟨k0, td, t, H⟩
 | .pan s => AQ (.pan s) [] H
 | .none => False

def execF (P : Program) (AQ : Ex → List SV → List SObj → Prop) (rec : IM → Prop) (c : Bool) (k0 : Nat) (td : List IT) (t : List SV) (H : List SObj) (d : Option Tmp) : Res → Prop
 | .val p s => p ∧ rec ⟨k0, td, putT t d s, H⟩
 | .call f args => c = true ∧ CallF P AQ f args d ⟨k0, td, t, H⟩
 | _ => False

def gOf : Nat → List Nat
 | 0 => []
 | n + 1 => n :: gOf n

def isCallI : IOp → Bool
 | .call _ _ => true
 | _ => false

def bothG (b v : Bool) (A B : Prop) : Prop := (v = b → A) ∧ (v = !b → B)
theorem z7M (A B : Prop) : bothG true true A B = A := by simp [bothG]
theorem z7X (A B : Prop) : bothG true false A B = B := by simp [bothG]
theorem z7T (A B : Prop) : bothG false true A B = B := by simp [bothG]
theorem z7S (A B : Prop) : bothG false false A B = A := by simp [bothG]
theorem j1d (v : Bool) (A B : Prop) : bothG true v A B = ((v = true → A) ∧ (v = false → B)) := rfl
theorem j0i (v : Bool) (A B : Prop) : bothG false v A B = ((v = false → A) ∧ (v = true → B)) := rfl
theorem q0Z {h : Nat} {G : List Nat} {H H' : List SObj} : SameG (h :: G) H H' = (H'[h]? = H[h]? ∧ SameG G H H') := by simp [SameG]
theorem q1l {H H' : List SObj} : SameG [] H H' = True := by simp [SameG]

def run (P : Program) (AQ : Ex → List SV → List SObj → Prop) : Nat → IM → Prop
 | 0, m => SoundI P AQ m
 | n + 1, ⟨k0, td, t, H⟩ => match td with
  | [] => AQ .normal t H
  | .ic c :: k => match c with
   | .skip => run P AQ n ⟨k0, k, t, H⟩
   | .seq a b => run P AQ n ⟨k0, .ic a :: .ic b :: k, t, H⟩
   | .cond c a b => match evT t c with
    | .raw (.bool v) => bothG true v (run P AQ n ⟨k0, .ic a :: k, t, H⟩) (run P AQ n ⟨k0, .ic b :: k, t, H⟩)
    | _ => False
   | .blk id c => run P AQ n ⟨k0, .ic c :: .blk id :: k, t, H⟩
   | .loop c => SoundI P AQ ⟨k0, .ic (.loop c) :: k, t, H⟩
   | .exit id => match exitI id k with
    | some k' => run P AQ n ⟨k0, k', t, H⟩
    | none => AQ (.exit id) t H
   | .ret => AQ .ret t H
   | .rf g ps a b => SoundI P AQ ⟨k0, .ic (.rf g ps a b) :: k, t, H⟩
   | .scp c => run P AQ n ⟨k0, .ic c :: k, t, H⟩
   | .lbl _ => run P AQ n ⟨k0, k, t, H⟩
   | .reg l => run P AQ n ⟨k0, .ops l :: k, t, H⟩
   | .drw l => run P AQ n ⟨k0, .dops (gOf H.length) l :: k, t, H⟩
  | .blk _ :: k => run P AQ n ⟨k0, k, t, H⟩
  | .stop Φ :: _ => Φ t H
  | .ops l :: k => match l with
   | [] => run P AQ n ⟨k0, k, t, H⟩
   | io :: l => match io.guard with
    | none => exec P AQ (run P AQ n) k0 (.ops l :: k) t H io.dst (io.op.ev H (evT t))
    | some (d, b) => match t.getD d .any with
     | .raw (.bool v) => bothG b v (exec P AQ (run P AQ n) k0 (.ops l :: k) (t.set d (.raw (.bool b))) H io.dst (io.op.ev H (evT (t.set d (.raw (.bool b))))))
      (run P AQ n ⟨k0, .ops l :: k, putT (t.set d (.raw (.bool !b))) io.dst (.raw (.tuple #[])), H⟩)
     | .raw (.tuple _) => run P AQ n ⟨k0, .ops l :: k, putT t io.dst (.raw (.tuple #[])), H⟩
     | _ => False
  | .dops G l :: k => match l with
   | [] => run P AQ n ⟨k0, k, t, H⟩
   | (fl, io) :: l => match io.guard with
    | none => match fl with
     | true => (floatOk G (evT t) io.op || isCallI io.op) = true ∧ execF P AQ (run P AQ n) (isCallI io.op) k0 (.dops G l :: k) t H io.dst (io.op.ev H (evT t))
     | false => execR P AQ (run P AQ n) (gkI io.op || strictG G) k0 G (.dops G l :: k) t H io.dst (io.op.ev H (evT t))
    | some (d, b) => match t.getD d .any with
     | .raw (.bool v) => bothG b v (match fl with
      | true => (floatOk G (evT (t.set d (.raw (.bool b)))) io.op || isCallI io.op) = true ∧ execF P AQ (run P AQ n) (isCallI io.op) k0 (.dops G l :: k) (t.set d (.raw (.bool b))) H io.dst (io.op.ev H (evT (t.set d (.raw (.bool b)))))
      | false => execR P AQ (run P AQ n) (gkI io.op || strictG G) k0 G (.dops G l :: k) (t.set d (.raw (.bool b))) H io.dst (io.op.ev H (evT (t.set d (.raw (.bool b))))))
      (run P AQ n ⟨k0, .dops G l :: k, putT (t.set d (.raw (.bool !b))) io.dst (.raw (.tuple #[])), H⟩)
     | .raw (.tuple _) => run P AQ n ⟨k0, .dops G l :: k, putT t io.dst (.raw (.tuple #[])), H⟩
     | _ => False

theorem z5j {rec : IM → Prop} (hrec : ∀ m, rec m → SoundI P AQ m) {td : List IT} {d : Option Tmp} {r : Res} (h : exec P AQ rec k0 td t H d r) : r.to P H (opK P AQ k0 td t d) := by
 cases r with
 | val p s => exact ⟨h.1, hrec _ h.2⟩
 | amb E s => exact fun b hb => hrec _ (h b hb)
 | new p s Hk so => exact ⟨h.1, hrec _ h.2⟩
 | set s x so => exact hrec _ h
 | setp p s x so => exact ⟨h.1, hrec _ h.2⟩
 | call f args => exact h
 | zld ag b off => exact h
 | zst n b off y => exact h
 | yld l args => exact h
 | pan s => exact h
 | none => exact h
theorem z2l {rec : IM → Prop} (hrec : ∀ m, rec m → SoundI P AQ m) {G : List Nat} {td : List IT} {d : Option Tmp} {r : Res} {g : Bool} (h : execR P AQ rec g k0 G td t H d r) : r.to P H (opKG P AQ k0 g G H td t d) := by
 cases r with
 | val p s => exact ⟨h.1, fun _ => SameG.refl _ _, hrec _ h.2⟩
 | amb E s => exact fun b hb => ⟨fun _ => SameG.refl _ _, hrec _ (h b hb)⟩
 | new p s Hk so => exact ⟨h.1, h.2.1, hrec _ h.2.2⟩
 | set s x so => exact ⟨h.1, hrec _ h.2⟩
 | setp p s x so => exact ⟨h.1, h.2.1, hrec _ h.2.2⟩
 | call f args => obtain ⟨rfl, h⟩ := h; exact h
 | zld ag b off => exact h
 | zst n b off y => exact h
 | yld l args => exact h
 | pan s => exact h
 | none => exact h

theorem z9n {i : IOp} {H' : List SObj} {ev : Operand → SV} {f : FuncId} {args : List SV} (key : isCallI i = true) (h : i.ev H ev = .call f args) : i.ev H' ev = .call f args := by
 cases i <;> first | exact h | simp [isCallI] at key

theorem q6T {rec : IM → Prop} (hrec : ∀ m, rec m → SoundI P AQ m) {G : List Nat} {io : OpI} {l : List (Bool × OpI)} (hg : io.guard = none ∨ ∃ d b, io.guard = some (d, b) ∧ t.getD d .any = .raw (.bool b))
 (hf : (floatOk G (evT t) io.op || isCallI io.op) = true) (h : execF P AQ rec (isCallI io.op) k0 (.dops G l :: k) t H io.dst (io.op.ev H (evT t))) : SoundI P AQ ⟨k0, .dops G ((true, io) :: l) :: k, t, H⟩ := by
 generalize hr : io.op.ev H (evT t) = r at h
 cases r with
 | val p s =>
  have hf' : floatOk G (evT t) io.op = true := by
   rcases Bool.or_eq_true_iff.1 hf with h1 | h1
   · exact h1
   exfalso
   cases hop : io.op <;> rw [hop] at h1 <;> simp [isCallI] at h1
   rw [hop] at hr
   simp only [IOp.ev] at hr
   split at hr
   · cases hr
   · split at hr
     · cases hr
     split at hr <;> cases hr
   cases hr
  rcases hg with hg | ⟨d, b, hg, hv⟩
  · exact z6P hg hf' hr h.1 (hrec _ h.2)
  exact z2R hg hv hf' hr h.1 (hrec _ h.2)
 | call f args =>
  obtain ⟨hci, s, h1, h2, h3⟩ := h
  exact j0b hg (fun H' => z9n hci hr) h1 h2 h3
 | amb E s => exact h.elim
 | new p s Hk so => exact h.elim
 | set s x so => exact h.elim
 | setp p s x so => exact h.elim
 | zld ag b off => exact h.elim
 | zst n b off y => exact h.elim
 | yld l args => exact h.elim
 | pan s => exact h.elim
 | none => exact h.elim

theorem q0l (hm : P.follows .mixedOrders = true) : ∀ (n : Nat) (m : IM), run P AQ n m → SoundI P AQ m
 | 0, _, h => h
 | n + 1, ⟨k0, td, t, H⟩, h => by
  have ih := q0l hm n
  unfold run at h
  split at h
  · exact j2y h
  · split at h
    · exact j1p (ih _ h)
    · exact j1Z (ih _ h)
    · split at h
      · exact z9D (by assumption) (fun e => ih _ (h.1 e)) (fun e => ih _ (h.2 e))
      exact h.elim
    · exact j2p (ih _ h)
    · exact h
    · split at h
      · exact z9J (by assumption) (ih _ h)
      exact z6u (by assumption) h
    · exact j1K h
    · exact h
    · exact j1J (ih _ h)
    · exact j1H (ih _ h)
    · exact j1D (ih _ h)
    exact q1F _ hm (ih _ h)
  · exact z4E (ih _ h)
  · exact z9o h
  · split at h
    · exact z5p (ih _ h)
    split at h
    · exact j2M (by assumption) (z5j ih h)
    split at h
    · exact z6w (by assumption) (by assumption) (fun e => z5j ih (h.1 e)) (fun e => ih _ (h.2 e))
    · exact z3F (by assumption) (by assumption) (ih _ h)
    exact h.elim
  split at h
  · exact j2k (ih _ h)
  rename_i fl io l
  split at h
  · rename_i hg
    split at h
    · exact q6T ih (.inl hg) h.1 h.2
    exact z8O (.inl hg) (z2l ih h)
  rename_i d b hg
  split at h
  · rename_i v hv
    have hio : { io with guard := some (d, b) } = io := by cases io; simp at hg; subst hg; rfl
    refine z6M hg hv (fun e => ?_) (fun e => ?_)
    · rw [hio]
      have h1 := h.1 e
      split at h1
      · exact q6T ih (.inr ⟨d, b, hg, q1V hv⟩) h1.1 h1.2
      exact z8O (.inr ⟨d, b, hg, q1V hv⟩) (z2l ih h1)
    rw [hio]
    exact z9C hg (q1V hv) (ih _ (h.2 e))
  · exact z6J hg (by assumption) (ih _ h)
  exact h.elim
end Go.Sx
