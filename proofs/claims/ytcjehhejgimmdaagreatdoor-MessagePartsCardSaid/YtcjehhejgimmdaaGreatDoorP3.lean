/- A part of the proof: a symbolic executor over abstract values, and its soundness. -/
import Derived.Test.YtcjehhejgimmdaaGreatDoorP2
import Derived.Laws.BytesString
set_option linter.all false
set_option linter.unusedSectionVars false
namespace Go.Sx
open Go

variable [Ghost] {P : Program} {o : Oper} {ev : Operand → SV} {H : List SObj} {K : Out → List SObj → Prop}

theorem q7Y (x y : ByteArray) : (x.toList == y.toList) = decide (x = y) := by
 rw [Bool.eq_iff_iff]
 simp only [beq_iff_eq, decide_eq_true_eq, ByteArray.toList_eq]
 constructor
 · intro h
   cases x; cases y
   simp at h
   simp [h]
 rintro rfl; rfl

def binV (op : BinOp) : Value → Value → Option (Value × Prop)
 | .int k a, .int k' b => match op with
  | .shl => some (.int k (k.wrap (a * 2 ^ min b.toNat k.bits)), 0 ≤ b)
  | .shr => some (.int k (a.fdiv (2 ^ min b.toNat k.bits)), 0 ≤ b)
  | .add => if k = k' then some (.int k (k.wrap (a + b)), True) else none
  | .sub => if k = k' then some (.int k (k.wrap (a - b)), True) else none
  | .mul => if k = k' then some (.int k (k.wrap (a * b)), True) else none
  | .quo => if k = k' then some (.int k (k.wrap (a.tdiv b)), b ≠ 0) else none
  | .rem => if k = k' then some (.int k (a.tmod b), b ≠ 0) else none
  | .and => if k = k' then some (.int k (k.wrap (BitVec.ofInt k.bits a &&& BitVec.ofInt k.bits b).toNat), True) else none
  | .or => if k = k' then some (.int k (k.wrap (BitVec.ofInt k.bits a ||| BitVec.ofInt k.bits b).toNat), True) else none
  | .xor => if k = k' then some (.int k (k.wrap (BitVec.ofInt k.bits a ^^^ BitVec.ofInt k.bits b).toNat), True) else none
  | .andNot => if k = k' then some (.int k (k.wrap (BitVec.ofInt k.bits a &&& ~~~(BitVec.ofInt k.bits b)).toNat), True) else none
  | .eql => if k = k' then some (.bool (decide (a = b)), True) else none
  | .neq => if k = k' then some (.bool (!decide (a = b)), True) else none
  | .lss => if k = k' then some (.bool (decide (a < b)), True) else none
  | .leq => if k = k' then some (.bool (decide (a ≤ b)), True) else none
  | .gtr => if k = k' then some (.bool (decide (b < a)), True) else none
  | .geq => if k = k' then some (.bool (decide (b ≤ a)), True) else none
 | .string a, .string b => match op with
  | .eql => some (.bool (decide (a = b)), True)
  | .neq => some (.bool (!decide (a = b)), True)
  | .add => some (.string (a ++ b), a.size + b.size ≤ 9223372036854775807)
  | _ => none
 | _, _ => none

theorem z7l {op : BinOp} {x y v : Value} {p : Prop} {t : TypeId} (h : binV op x y = some (v, p)) (hp : p) (w : World) : (binOp op t x y).run P w = .ok v w := by
 unfold binV at h
 split at h
 · rename_i k a k' b
   have hn : ¬ (k' ≠ k') := fun h => h rfl
   split at h <;> (try split at h) <;> first | (cases h; done) | skip
   all_goals (first | subst_vars | skip)
   all_goals (cases h)
   all_goals (first | (simp [binOp, Op.intArith, Op.intDiv, Op.intBits, Op.intCmp, hp]; done) | (simp [binOp, Op.shift, Int.not_lt.2 hp]; done) | (simp only [binOp]; rw [if_neg hn]; rfl))
 · rename_i a b
   split at h
   · cases h; simp [binOp, Op.stringOp, q7Y]
   · cases h; simp [binOp, Op.stringOp, q7Y]
   · cases h
     have : ¬ (((a.size + b.size : Nat) : Int) > IntKind.i64.max) := by
      have : IntKind.i64.max = 9223372036854775807 := by decide
      rw [this]; omega
     simp only [binOp, Op.stringOp]
     rw [if_neg this]; rfl
   cases h
 cases h

theorem q8k {op : BinOp} {t : TypeId} {x y : Operand} {a b v : Value} {p : Prop} (h : binV op a b = some (v, p)) (w : World) : (eqGuard op t x y a b).run P w = .ok () w := by
 unfold binV at h
 split at h
 · unfold eqGuard; split <;> simp
 · unfold eqGuard; split <;> simp
 cases h

theorem j0u {op : BinOp} {t t' : TypeId} {x y : Operand} {a b v : Value} {p : Prop} (hop : o.op = .binOp op t x y t') (hx : ev x = .raw a) (hy : ev y = .raw b) (h : binV op a b = some (v, p)) (hp : p) (hk : K (.ret (.raw v)) H) : OpV P o ev H K := by
 refine q0x (by rw [hop]; intro c hc; cases hc) (fun C e _ hv => ?_) hk
 have h0 := hv x (by rw [hop]; simp [Op.operands])
 have h1 := hv y (by rw [hop]; simp [Op.operands])
 rw [hx, SV.den] at h0
 rw [hy, SV.den] at h1
 refine ⟨v, ?_, by rw [SV.den]⟩
 simp [execOp, hop, h0, h1, q8k h, z7l h hp, Result.andThen]

def eqV : SV → SV → Option Bool
 | .ptr .., .raw (.pointer none) => some false
 | .iptr .., .raw (.pointer none) => some false
 | .rptr .., .raw (.pointer none) => some false
 | .raw (.pointer none), .raw (.pointer none) => some true
 | .fn .., .raw .nilFunc => some false
 | .raw .nilFunc, .raw .nilFunc => some true
 | .raw (.bool a), .raw (.bool b) => some (decide (a = b))
 | _, _ => none
def kPtr (P : Program) (t : TypeId) : Bool := match P.underlying t with | some (.pointer _) => true | _ => false
def kFunc (P : Program) (t : TypeId) : Bool := match P.underlying t with | some (.func _ _ _) => true | _ => false
def kBool (P : Program) (t : TypeId) : Bool := match P.underlying t with | some .bool => true | _ => false
def eqKind (P : Program) (t : TypeId) : SV → Bool
 | .raw (.pointer none) => kPtr P t
 | .raw .nilFunc => kFunc P t
 | .raw (.bool _) => kBool P t
 | _ => false
theorem q8G {t : TypeId} (h : kPtr P t = true) : ∃ e, P.underlying t = some (.pointer e) := by
 unfold kPtr at h; split at h; exact ⟨_, by assumption⟩; cases h
theorem z2F {t : TypeId} (h : kFunc P t = true) : ∃ a b c, P.underlying t = some (.func a b c) := by
 unfold kFunc at h; split at h; exact ⟨_, _, _, by assumption⟩; cases h
theorem z6B {t : TypeId} (h : kBool P t = true) : P.underlying t = some .bool := by
 unfold kBool at h; split at h; assumption; cases h


theorem j0W {t : TypeId} {s u : SV} {r : Bool} {C : Cx} {x y : Value} (hx : s.den C x) (hy : u.den C y) (h : eqV s u = some r) (ht : eqKind P t u = true) (w : World) (n : Nat) : (Op.equalIn (n + 1) t x y).run P w = .ok r w := by
 have key : ∀ {d : TypeDesc}, P.underlying t = some d → (underlying t).run P w = .ok d w := fun hd => by simp [underlying, hd]
 unfold eqV at h
 split at h <;> cases h <;> simp only [eqKind] at ht <;> simp only [SV.den] at hx hy
 · obtain ⟨_, b, _, rfl⟩ := hx; subst hy; obtain ⟨d, hu⟩ := q8G ht; simp [Op.equalIn, key hu]
 · obtain ⟨b, off, vs, rfl, _⟩ := hx; subst hy; obtain ⟨d, hu⟩ := q8G ht; simp [Op.equalIn, key hu]
 · obtain ⟨_, b, _, rfl⟩ := hx; subst hy; obtain ⟨d, hu⟩ := q8G ht; simp [Op.equalIn, key hu]
 · subst hx hy; obtain ⟨d, hu⟩ := q8G ht; simp [Op.equalIn, key hu]
 · obtain ⟨_, _, rfl, _⟩ := hx; subst hy; obtain ⟨_, _, _, hu⟩ := z2F ht; simp [Op.equalIn, key hu]
 · subst hx hy; obtain ⟨_, _, _, hu⟩ := z2F ht; simp [Op.equalIn, key hu]
 subst hx hy; have hu := z6B ht; simp [Op.equalIn, key hu]; rfl

theorem q6a {op : BinOp} {t : TypeId} {x y : Operand} {s u : SV} {r : Bool} {C : Cx} {a b : Value} (hx : s.den C a) (hy : u.den C b) (h : eqV s u = some r) (w : World) : (eqGuard op t x y a b).run P w = .ok () w := by
 unfold eqV at h
 split at h <;> cases h <;> simp only [SV.den] at hx hy
 · obtain ⟨_, b, _, rfl⟩ := hx; subst hy; unfold eqGuard; split <;> simp
 · obtain ⟨b, off, vs, rfl, _⟩ := hx; subst hy; unfold eqGuard; split <;> simp
 · obtain ⟨_, b, _, rfl⟩ := hx; subst hy; unfold eqGuard; split <;> simp
 · subst hx hy; unfold eqGuard; split <;> simp
 · obtain ⟨_, _, rfl, _⟩ := hx; subst hy; unfold eqGuard; split <;> simp
 · subst hx hy; unfold eqGuard; split <;> simp
 subst hx hy; unfold eqGuard; split <;> simp

theorem q8K {t : TypeId} {s u : SV} {r : Bool} {C : Cx} {x y : Value} (hx : s.den C x) (hy : u.den C y) (h : eqV s u = some r) (ht : eqKind P t u = true) (w : World) :
 (binOp .eql t x y).run P w = .ok (.bool r) w ∧ (binOp .neq t x y).run P w = .ok (.bool !r) w := by
 have hr : (Op.equal t x y).run P w = .ok r w := j0W hx hy h ht w 9999
 unfold eqV at h
 split at h <;> cases h <;> simp only [SV.den] at hx hy
 · obtain ⟨_, b, _, rfl⟩ := hx; subst hy; simp [binOp, hr]
 · obtain ⟨b, off, vs, rfl, _⟩ := hx; subst hy; simp [binOp, hr]
 · obtain ⟨_, b, _, rfl⟩ := hx; subst hy; simp [binOp, hr]
 · subst hx hy; simp [binOp, hr]
 · obtain ⟨_, _, rfl, _⟩ := hx; subst hy; simp [binOp, hr]
 · subst hx hy; simp [binOp, hr]
 subst hx hy; simp [binOp, hr]

theorem z5E {op : BinOp} {t t' : TypeId} {x y : Operand} {r : Bool} (hop : o.op = .binOp op t x y t') (ho : op = .eql ∨ op = .neq) (h : eqV (ev x) (ev y) = some r) (ht : eqKind P t (ev y) = true)
 (hk : K (.ret (.raw (.bool (if op = .eql then r else !r)))) H) : OpV P o ev H K := by
 refine q0x (by rw [hop]; intro c hc; cases hc) (fun C e _ hv => ?_) hk
 have h0 := hv x (by rw [hop]; simp [Op.operands])
 have h1 := hv y (by rw [hop]; simp [Op.operands])
 refine ⟨.bool (if op = .eql then r else !r), ?_, by rw [SV.den]⟩
 obtain ⟨g1, g2⟩ := q8K h0 h1 h ht C.w
 rcases ho with rfl | rfl
 · simp [execOp, hop, q6a h0 h1 h, g1, Result.andThen]
 simp [execOp, hop, q6a h0 h1 h, g2, Result.andThen]

def unV (op : UnOp) : Value → Option Value
 | .bool b => match op with | .not => some (.bool !b) | _ => none
 | .int k n => match op with
  | .neg => some (.int k (k.wrap (0 - n)))
  | .xor => some (.int k (k.wrap (BitVec.ofInt k.bits (if k.signed then -1 else k.max) ^^^ BitVec.ofInt k.bits n).toNat))
  | _ => none
 | _ => none
theorem z9E {op : UnOp} {x v : Value} (h : unV op x = some v) (w : World) : (Op.unary op x).run P w = .ok v w := by
 unfold unV at h
 split at h
 · split at h <;> cases h; simp [Op.unary]
 · split at h <;> cases h
   · simp [Op.unary, Op.intArith]
   simp [Op.unary, Op.intBits]
 cases h
theorem j2z {op : UnOp} {t : TypeId} {x : Operand} {a v : Value} (hop : o.op = .unOp op t x) (hx : ev x = .raw a) (h : unV op a = some v) (hk : K (.ret (.raw v)) H) : OpV P o ev H K := by
 refine q0x (by rw [hop]; intro c hc; cases hc) (fun C e _ hv => ?_) hk
 have h0 := hv x (by rw [hop]; simp [Op.operands])
 rw [hx, SV.den] at h0
 exact ⟨v, by simp [execOp, hop, h0, z9E h, Result.andThen], by rw [SV.den]⟩

theorem run_underlying' {t : TypeId} {d : TypeDesc} (h : P.underlying t = some d) (w : World) : (underlying t).run P w = .ok d w := by simp [underlying, h]

theorem q8V {src dst : TypeId} {x : Operand} {k k' : IntKind} {d : TypeDesc} {n : Int} (hop : o.op = .convert src dst x) (hs : P.underlying src = some d) (ht : P.underlying dst = some (.int k)) (hx : ev x = .raw (.int k' n))
 (hk : K (.ret (.raw (.int k (k.wrap n)))) H) : OpV P o ev H K := by
 refine q0x (by rw [hop]; intro c hc; cases hc) (fun C e _ hv => ?_) hk
 have h0 := hv x (by rw [hop]; simp [Op.operands])
 rw [hx, SV.den] at h0
 exact ⟨.int k (k.wrap n), by simp [execOp, hop, h0, convert, run_underlying' hs, run_underlying' ht, Conv.intToInt, Result.andThen], by rw [SV.den]⟩

theorem q9k {src dst : TypeId} {x : Operand} {d : TypeDesc} {s : ByteArray} (hop : o.op = .convert src dst x) (hs : P.underlying src = some d) (ht : P.underlying dst = some .string) (hx : ev x = .raw (.string s))
 (hk : K (.ret (.raw (.string s))) H) : OpV P o ev H K := by
 refine q0x (by rw [hop]; intro c hc; cases hc) (fun C e _ hv => ?_) hk
 have h0 := hv x (by rw [hop]; simp [Op.operands])
 rw [hx, SV.den] at h0
 exact ⟨.string s, by simp [execOp, hop, h0, convert, run_underlying' hs, run_underlying' ht, Result.andThen], by rw [SV.den]⟩

def strOf (xs : List UInt8) : ByteArray := ⟨xs.toArray⟩

end Go.Sx
set_option linter.unusedSectionVars false
namespace Go.Sx
open Go

variable [Ghost] {P : Program} {o : Oper} {ev : Operand → SV} {H : List SObj} {K : Out → List SObj → Prop}

theorem q7h : ∀ (xs : List UInt8) (acc : ByteArray), (xs.map fun c => (c.toNat : Int)).foldl (fun r n => r.push (UInt8.ofNat n.toNat)) acc = ⟨acc.data ++ xs.toArray⟩
 | [], acc => by cases acc; simp
 | c :: xs, acc => by
  simp only [List.map_cons, List.foldl_cons]
  rw [q7h xs]
  simp [ByteArray.push]

theorem q2b {xs : List UInt8} {C : Cx} {v : Value} (h : (SV.isl .u8 xs).den C v) : (Conv.bytesToString v).run P C.w = .ok (.string (strOf xs)) C.w := by
 rw [SV.den] at h
 obtain ⟨A, n, c, e, rfl, _, _, h⟩ := h
 cases e
 rcases h with rfl | ⟨b, off, rfl, _, h⟩
 · cases A with
   | none => simp [Conv.bytesToString, strOf]; rfl
   | some a => 
    have := run_bytesToString (P := P) C.w a 0 c [] (by simp [loadCells, loadCellsFrom])
    rw [show strOf [] = ByteArray.empty from rfl]
    simpa using this
 have hl : (loadCells ⟨b, off, none⟩ xs.length).run P C.w = .ok ((xs.map fun c => (c.toNat : Int)).map (Value.int .u8)).toArray C.w := by
  have := run_loadCells_list (P := P) C.w ⟨b, off, none⟩ ((xs.map fun c => (c.toNat : Int)).map (Value.int .u8)) (fun j v hj => by
   rw [q1h]
   simp only [List.map_map, List.getElem?_map] at hj
   cases hx : xs[j]? with
   | none => simp [hx] at hj
   | some x =>
    simp [hx] at hj
    obtain ⟨us, hr, hc⟩ := h j x hx
    simp only [Ty.rel] at hr
    subst hr
    have := hc 0 _ rfl
    simp only [Ty.size, Nat.mul_one, Nat.add_zero] at this
    rw [this, hj])
  simpa using this
 rw [run_bytesToString C.w _ _ _ _ hl, q7h]
 simp [strOf]

theorem q7b {src dst : TypeId} {x : Operand} {e' : TypeId} {xs : List UInt8} (hop : o.op = .convert src dst x) (hs : P.underlying src = some (.slice e')) (ht : P.underlying dst = some .string) (he : P.underlying e' = some (.int .u8)) (hx : ev x = .isl .u8 xs)
 (hk : K (.ret (.raw (.string (strOf xs)))) H) : OpV P o ev H K := by
 refine q0x (by rw [hop]; intro c hc; cases hc) (fun C e _ hv => ?_) hk
 have h0 := hv x (by rw [hop]; simp [Op.operands])
 rw [hx] at h0
 have hb := q2b (P := P) h0
 rw [SV.den] at h0
 obtain ⟨A, n, c, e0, _⟩ := h0
 simp only [List.cons.injEq, and_true] at e0
 rw [e0] at hb
 exact ⟨.string (strOf xs), by simp [execOp, hop, e0, convert, run_underlying' hs, run_underlying' ht, run_underlying' he, hb, Result.andThen], by rw [SV.den]⟩

theorem q6k {src dst : TypeId} {x : Operand} {e' : TypeId} (hop : o.op = .convert src dst x) (hs : P.underlying src = some (.slice e')) (ht : P.underlying dst = some .string) (he : P.underlying e' = some (.int .u8)) (hx : ev x = .raw (.slice none 0 0))
 (hk : K (.ret (.raw (.string (strOf [])))) H) : OpV P o ev H K := by
 refine q0x (by rw [hop]; intro c hc; cases hc) (fun C e _ hv => ?_) hk
 have h0 := hv x (by rw [hop]; simp [Op.operands])
 rw [hx, SV.den] at h0
 exact ⟨.string (strOf []), by simp [execOp, hop, h0, convert, run_underlying' hs, run_underlying' ht, run_underlying' he, Conv.bytesToString, Result.andThen]; rfl, by rw [SV.den]⟩

def fieldOf (P : Program) (t : TypeId) (f : Nat) : Option (Nat × TypeId) :=
 match P.underlying t with
 | some (.struct fs) => (fs[f]?).map fun x => (x.offset, x.type)
 | _ => none
theorem q7d {t : TypeId} {f off : Nat} {ft : TypeId} (h : fieldOf P t f = some (off, ft)) : ∃ fs x, P.underlying t = some (.struct fs) ∧ fs[f]? = some x ∧ x.offset = off ∧ x.type = ft := by
 unfold fieldOf at h
 split at h
 · rename_i fs hu
   cases hx : fs[f]? with
   | none => simp [hx] at h
   | some x => simp [hx] at h; exact ⟨fs, x, hu, hx, h.1, h.2⟩
 cases h

def SV.add : SV → Nat → Option SV
 | .ptr h off, n => some (.ptr h (off + n))
 | .iptr t x k, n => some (.iptr t x (k + n))
 | .rptr h t i k, n => some (.rptr h t i (k + n))
 | .raw (.pointer (some ⟨b, o, none⟩)), n => some (.raw (.pointer (some ⟨b, o + n, none⟩)))
 | _, _ => none
theorem q5Y {C : Cx} {s s' : SV} {n : Nat} {v : Value} (h : s.add n = some s') (hd : s.den C v) : ∃ b o, v = .pointer (some ⟨b, o, none⟩) ∧ s'.den C (.pointer (some ⟨b, o + n, none⟩)) := by
 unfold SV.add at h
 split at h <;> cases h <;> rw [SV.den] at hd
 · obtain ⟨hn, b, hb, rfl⟩ := hd; exact ⟨b, _, rfl, by rw [SV.den]; exact ⟨hn, b, hb, rfl⟩⟩
 · obtain ⟨b, off, vs, rfl, h1, h2, h3⟩ := hd; exact ⟨b, _, rfl, by rw [SV.den]; exact ⟨b, off, vs, by rw [Nat.add_assoc], h1, h2, h3⟩⟩
 · obtain ⟨hn, b, hb, rfl⟩ := hd; exact ⟨b, _, rfl, by rw [SV.den]; exact ⟨hn, b, hb, by rw [Nat.add_assoc]⟩⟩
 subst hd; exact ⟨_, _, rfl, by rw [SV.den]⟩

theorem q8i {t : TypeId} {x : Operand} {f off n : Nat} {ft : TypeId} {s : SV} (hop : o.op = .fieldAddr t x f) (hf : fieldOf P t f = some (off, ft)) (hs : (P.info? ft).map (·.size) = some (n + 1)) (ha : (ev x).add off = some s) (hk : K (.ret s) H) : OpV P o ev H K := by
 refine q0x (by rw [hop]; intro c hc; cases hc) (fun C e _ hv => ?_) hk
 obtain ⟨b, p, hx, hd⟩ := q5Y ha (hv x (by rw [hop]; simp [Op.operands]))
 obtain ⟨fs, y, hu, hy, rfl, rfl⟩ := q7d hf
 exact ⟨_, by simp [execOp, hop, hx, Instr.fieldAt, run_underlying' hu, hy, Instr.sureAddr, fieldPlace, q0C hs, q1h, Result.andThen], hd⟩

theorem z6y {t : TypeId} {ag : Option Nat} (ht : aggOf P t = some ag) {C : Cx} {cs : List SV} {vs : List Value} {off : Nat} {s : SV} (hd : SV.denL C cs vs) (hp : pick cs off ag = some s) (w : World) : ∃ v, (part t vs.toArray off).run P w = .ok v w ∧ s.den C v := by
 cases ag with
 | none =>
  simp only [pick] at hp
  obtain ⟨v, hv, hs⟩ := q2L hd hp
  exact ⟨v, by simp [part, q3A ht, hv, Result.andThen], hs⟩
 | some n =>
  simp only [pick] at hp
  split at hp
  · cases hp
    refine ⟨.agg ((vs.drop off).take n).toArray, ?_, by rw [SV.den]; exact ⟨_, rfl, q4l n (q4I off hd)⟩⟩
    simp [part, q3A ht, q0C (q7f ht), Result.andThen, List.take_drop]
  cases hp

theorem z6n {t : TypeId} {x : Operand} {f off : Nat} {ft : TypeId} {ag : Option Nat} {l : List SV} {s : SV} (hop : o.op = .field t x f) (hf : fieldOf P t f = some (off, ft)) (ht : aggOf P ft = some ag) (hx : ev x = .agg l) (hp : pick l off ag = some s) (hk : K (.ret s) H) : OpV P o ev H K := by
 refine q0x (by rw [hop]; intro c hc; cases hc) (s := s) (fun C e _ hv => ?_) hk
 have h0 := hv x (by rw [hop]; simp [Op.operands])
 rw [hx, SV.den] at h0
 obtain ⟨vs, h0, hl⟩ := h0
 obtain ⟨fs, y, hu, hy, rfl, rfl⟩ := q7d hf
 obtain ⟨v, h1, h2⟩ := z6y ht hl hp C.w
 exact ⟨v, by simp [execOp, hop, h0, Instr.field, run_underlying' hu, hy, asAgg, h1, Result.andThen], h2⟩

theorem q8A {t : TypeId} {x i : Operand} {s : ByteArray} {k : IntKind} {n : Int} (hop : o.op = .index t x i) (ht : P.underlying t = some .string) (hx : ev x = .raw (.string s)) (hi : ev i = .raw (.int k n)) (h0 : 0 ≤ n) (hb : n.toNat < s.size)
 (hk : K (.ret (.raw (.int .u8 (s.data.toList.getD n.toNat 0).toNat))) H) : OpV P o ev H K := by
 refine q0x (by rw [hop]; intro c hc; cases hc) (fun C e _ hv => ?_) hk
 have h1 := hv x (by rw [hop]; simp [Op.operands])
 have h2 := hv i (by rw [hop]; simp [Op.operands])
 rw [hx, SV.den] at h1
 rw [hi, SV.den] at h2
 refine ⟨.int .u8 (s.data.toList.getD n.toNat 0).toNat, ?_, by rw [SV.den]⟩
 have hg : s[n.toNat]? = some (s.data.toList.getD n.toNat 0) := by
  rw [getElem?_pos s n.toNat hb]
  have : n.toNat < s.data.size := hb
  simp only [List.getD_eq_getElem?_getD, Array.getElem?_toList, Array.getElem?_eq_getElem this]
  rfl
 simp [execOp, hop, h1, h2, Instr.index, asIntOf, run_underlying' ht, h0, hg, Result.andThen]

theorem q5j {t : TypeId} {x i : Operand} {ty : Ty} {xs : List ty.den} {k : IntKind} {n : Int} {e' : TypeId} (hop : o.op = .indexAddr t x i) (ht : P.underlying t = some (.slice e')) (hs : (P.info? e').map (·.size) = some ty.size) (hx : ev x = .isl ty xs) (hi : ev i = .raw (.int k n))
 (h0 : 0 ≤ n) (hb : n.toNat < xs.length) (hk : ty.ok (xs.getD n.toNat ty.dflt) → K (.ret (.iptr ty (xs.getD n.toNat ty.dflt) 0)) H) : OpV P o ev H K := by
 refine q1I (by rw [hop]; intro c hc; cases hc) fun C e hw hv => ?_
 have h1 := hv x (by rw [hop]; simp [Op.operands])
 have h2 := hv i (by rw [hop]; simp [Op.operands])
 rw [hx, SV.den] at h1
 rw [hi, SV.den] at h2
 obtain ⟨A, m, c, e0, rfl, hc, hm, h1⟩ := h1
 simp only [List.cons.injEq, and_true] at e0
 have hg : xs[n.toNat]? = some (xs.getD n.toNat ty.dflt) := by rw [List.getD_eq_getElem?_getD, List.getElem?_eq_getElem hb]; rfl
 rcases h1 with rfl | ⟨b, off, rfl, hI, h1⟩
 · simp at hb
 obtain ⟨us, hr, hcell⟩ := h1 _ _ hg
 refine ⟨_, .pointer (some ⟨b, off + n.toNat * ty.size, none⟩), H, C, hk (Ty.rel_ok _ _ _ hr), .inl ?_, hw, Ext.refl _ _, ?_⟩
 · have hlt : n < (xs.length : Int) := by omega
   simp [execOp, hop, e0, h2, Instr.indexAt, asIntOf, run_underlying' ht, h0, hlt, q0C hs, q1h, Result.andThen]
 rw [SV.den]
 exact ⟨b, off + n.toNat * ty.size, us, rfl, hI, hr, hcell⟩

theorem q5p {t : TypeId} {x i : Operand} {b off m c sz : Nat} {k : IntKind} {n : Int} {e' : TypeId} (hop : o.op = .indexAddr t x i) (ht : P.underlying t = some (.slice e')) (hs : (P.info? e').map (·.size) = some sz)
 (hx : ev x = .raw (.slice (some ⟨b, off, none⟩) m c)) (hi : ev i = .raw (.int k n)) (h0 : 0 ≤ n) (hb : n.toNat < m) (hk : K (.ret (.raw (.pointer (some ⟨b, off + n.toNat * sz, none⟩)))) H) : OpV P o ev H K := by
 refine q0x (by rw [hop]; intro c hc; cases hc) (fun C e _ hv => ?_) hk
 have h1 := hv x (by rw [hop]; simp [Op.operands])
 have h2 := hv i (by rw [hop]; simp [Op.operands])
 rw [hx, SV.den] at h1
 rw [hi, SV.den] at h2
 refine ⟨.pointer (some ⟨b, off + n.toNat * sz, none⟩), ?_, by rw [SV.den]⟩
 have hlt : n < (m : Int) := by omega
 simp [execOp, hop, h1, h2, Instr.indexAt, asIntOf, run_underlying' ht, h0, hlt, q0C hs, q1h, Result.andThen]

theorem q2W {t : TypeId} {x i : Operand} {ty : Ty} {h off m : Nat} {k : IntKind} {n : Int} {e' : TypeId} (hop : o.op = .indexAddr t x i) (ht : P.underlying t = some (.slice e')) (hs : (P.info? e').map (·.size) = some ty.size)
 (hx : ev x = .osl h ty off m ∨ (ev x = .bld h ty m ∧ off = 0)) (hi : ev i = .raw (.int k n))
 (h0 : 0 ≤ n) (hb : n.toNat < m) (hk : K (.ret (.rptr h ty (off + n.toNat) 0)) H) : OpV P o ev H K := by
 refine q0x (by rw [hop]; intro c hc; cases hc) (fun C e _ hv => ?_) hk
 have h1 := hv x (by rw [hop]; simp [Op.operands])
 have h2 := hv i (by rw [hop]; simp [Op.operands])
 rw [hi, SV.den] at h2
 have h1 : h < C.n ∧ ∃ b c, C.ρ h = some b ∧ e x = .slice (some ⟨b, off * ty.size, none⟩) m c := by
  rcases hx with hx | ⟨hx, rfl⟩ <;> rw [hx, SV.den] at h1
  · obtain ⟨hn, A, c, hv', _, h1⟩ := h1
    rcases h1 with rfl | ⟨b, hb', rfl⟩
    · omega
    exact ⟨hn, b, c, hb', hv'⟩
  obtain ⟨hn, ⟨_, rfl, _⟩ | ⟨b, c, _, hb', hv', _⟩⟩ := h1
  · omega
  exact ⟨hn, b, c, hb', by rw [hv', Nat.zero_mul]⟩
 obtain ⟨hn, b, c, hb', hv'⟩ := h1
 refine ⟨.pointer (some ⟨b, (off + n.toNat) * ty.size + 0, none⟩), ?_, by rw [SV.den]; exact ⟨hn, b, hb', rfl⟩⟩
 have hlt : n < (m : Int) := by omega
 simp [execOp, hop, hv', h2, Instr.indexAt, asIntOf, run_underlying' ht, h0, hlt, q0C hs, q1h, Nat.add_mul, Result.andThen]

def SV.len : SV → Option Int
 | .isl _ xs => some xs.length
 | .bld _ _ n => some n
 | .osl _ _ _ n => some n
 | .csl _ _ n => some n
 | .raw (.slice _ n _) => some n
 | .raw (.string s) => some s.size
 | _ => none
def lenKind (P : Program) (t : TypeId) : SV → Bool
 | .raw (.string _) => match P.underlying t with | some .string => true | _ => false
 | _ => match P.underlying t with | some (.slice _) => true | _ => false
theorem j1c {c : Call} {t : TypeId} {x : Operand} {n : Int} (hop : o.op = .call c) (hc : c.callee = .builtin .len) (ha : c.args = #[x]) (hty : c.argTypes = #[t]) (hl : (ev x).len = some n) (hkd : lenKind P t (ev x) = true)
 (hk : K (.ret (.raw (.int .i64 n))) H) : OpV P o ev H K := by
 refine q0x (by rw [hop]; intro c hc; cases hc) (fun C e _ hv => ?_) hk
 have h0 := hv x (by rw [hop]; simp [Op.operands, Call.operands, hc, ha])
 refine ⟨.int .i64 n, ?_, by rw [SV.den]⟩
 have hrun : (Builtin.len_ #[t] o.type #[e x]).run P C.w = .ok (.int .i64 n) C.w := by
  generalize ev x = s at *
  unfold SV.len at hl
  split at hl <;> cases hl <;> unfold lenKind at hkd <;> simp only at hkd <;> (split at hkd <;> first | (cases hkd; done) | skip) <;> rename_i hu <;> rw [SV.den] at h0
  · obtain ⟨A, m, c, e0, rfl, _⟩ := h0
    simp only [List.cons.injEq, and_true] at e0
    simp [Builtin.len_, e0, run_underlying' hu, goInt, Result.andThen]
  · obtain ⟨_, ⟨_, rfl, e0⟩ | ⟨_, _, _, _, e0, _⟩⟩ := h0 <;> simp [Builtin.len_, e0, run_underlying' hu, goInt, Result.andThen]
  · obtain ⟨_, _, _, e0, _⟩ := h0
    simp [Builtin.len_, e0, run_underlying' hu, goInt, Result.andThen]
  · obtain ⟨_, _, _, _, e0, _⟩ := h0
    simp [Builtin.len_, e0, run_underlying' hu, goInt, Result.andThen]
  · simp [Builtin.len_, h0, run_underlying' hu, goInt, Result.andThen]
  simp [Builtin.len_, h0, run_underlying' hu, goInt, Result.andThen]
 simp [execOp, hop, resolve, hc, ha, hty, invoke, builtin, hrun, Result.andThen]

def enters (P : Program) (f : FuncId) : Bool := match P.funcs[f]? with
 | some fn => !(fn.name == "runtime.NumGoroutine") && fn.body.isSome
 | none => false
theorem q5c {f : FuncId} (h : enters P f = true) (args : Array Value) (w : World) : (callFunc f args).run P w = .ok (.enter f args) w := by
 unfold enters at h
 cases hf : P.funcs[f]? with
 | none => simp [hf] at h
 | some fn =>
  simp [hf] at h
  have hb : fn.body.isNone = false := by simp [h.2]
  have hb' : ¬ fn.body = none := by intro hn; simp [hn] at h
  simp [callFunc, hf, h.1, hb']

theorem z7d {c : Call} {f : FuncId} {g : Operand} {fi ca : List SV} (hop : o.op = .call c) (hc : c.callee = .value g) (hg : ev g = .fn f fi ca) (hf : enters P f = true)
 (h : VCallG P f (fi ++ c.args.toList.map ev ++ ca) H K) : OpV P o ev H K := by
 intro E C r n a next Q hw hgh hv h1 h2
 have h0 := hv g (by rw [hop]; simp [Op.operands, Call.operands, hc])
 rw [hg, SV.den] at h0
 obtain ⟨v1, v2, h0, d1, d2⟩ := h0
 have da : SV.denL C (c.args.toList.map ev) (c.args.toList.map a.eval) := q2l _ fun x hx => hv x (by rw [hop]; simp [Op.operands, Call.operands]; exact .inr (by simpa using hx))
 refine ⟨fun f _ => q6B r f, ?_⟩
 rw [Oper.semAt_eq _ _ _ (by rw [hop]; intro c hc; cases hc)]
 have hrun : (execOp a.eval o).run P C.w = .ok (.enter f (v1 ++ c.args.toList.map a.eval ++ v2).toArray) C.w := by
  simp [execOp, hop, resolve, hc, h0, Deferred.ofValue, invoke, q5c hf]
 rw [hrun]
 refine ⟨(fun hd => by cases hd), q7r ?_⟩
 refine (h E C _ hw hgh (q0M.2 ⟨_, _, rfl, q0M.2 ⟨_, _, rfl, d1, da⟩, d2⟩)).mono ?_
 rintro e w' ⟨out, H', C', hk, rfl, hw', hx, hd⟩
 cases out with
 | ret s =>
  obtain ⟨v, rfl, hs⟩ := hd
  exact h1 s v H' C' hk hw' hx hs
 | pan s =>
  obtain ⟨v, rfl, hs⟩ := hd
  exact h2 s v H' C' hk hw' hx hs

theorem z4L {x : Operand} {T : TypeId} {s : SV} (hop : o.op = .panic x) (hx : ev x = .iface T s) (hk : K (.pan (.iface T s)) H) : OpV P o ev H K := by
 intro E C r n a next Q hw _ hv h1 h2
 have h0 := hv x (by rw [hop]; simp [Op.operands])
 rw [hx] at h0
 have h0' := h0
 rw [SV.den] at h0
 obtain ⟨u, h0, _⟩ := h0
 refine ⟨fun f _ => q6B r f, ?_⟩
 rw [Oper.semAt_eq _ _ _ (by rw [hop]; intro c hc; cases hc)]
 have hrun : (execOp a.eval o).run P C.w = .halt (.panic (.iface T u)) C.w := by
  simp [execOp, hop, h0, Instr.panic, Result.andThen]
 rw [hrun]
 rw [h0] at h0'
 exact h2 _ _ H C hk hw (.of (Ext.refl _ _)) h0'

def mxV (b : Bool) (x y : Int) : Int := if b then (if y > x then y else x) else (if y < x then y else x)
theorem z8S {c : Call} {b : Bool} {x y : Operand} {k : IntKind} {m n : Int} (hop : o.op = .call c) (hc : c.callee = .builtin (if b then .max else .min)) (ha : c.args = #[x, y]) {k' : IntKind} (hx : ev x = .raw (.int k m)) (hy : ev y = .raw (.int k' n))
 (hk : K (.ret (.raw (.int k (mxV b m n)))) H) : OpV P o ev H K := by
 refine q0x (by rw [hop]; intro c hc; cases hc) (fun C e _ hv => ?_) hk
 have h0 := hv x (by rw [hop]; simp [Op.operands, Call.operands, hc, ha])
 have h1 := hv y (by rw [hop]; simp [Op.operands, Call.operands, hc, ha])
 rw [hx, SV.den] at h0
 rw [hy, SV.den] at h1
 refine ⟨.int k (mxV b m n), ?_, by rw [SV.den]⟩
 cases b
 · simp [execOp, hop, resolve, hc, ha, h0, h1, invoke, builtin, Builtin.min_, Builtin.min2, mxV, Result.andThen]
 simp [execOp, hop, resolve, hc, ha, h0, h1, invoke, builtin, Builtin.max_, Builtin.max2, mxV, Result.andThen]

def isYld : Value → Option Nat
 | .func (.yield l) a b => if a.size = 0 ∧ b.size = 0 then some l else none
 | _ => none
theorem z7b {v : Value} {l : Nat} (h : isYld v = some l) : v = .func (.yield l) #[] #[] := by
 unfold isYld at h
 split at h
 · split at h
   · rename_i hs
     cases h
     rw [Array.eq_empty_of_size_eq_zero hs.1, Array.eq_empty_of_size_eq_zero hs.2]
   cases h
 cases h
def VYld (P : Program) (l : Nat) (args : List SV) (H : List SObj) (K : Out → List SObj → Prop) : Prop :=
 ∀ (E : EnD) (C : Cx) (vs : List Value), Wd C H → Ghost.inv E C H → SV.denL C args vs →
  ∃ f tmps assign body, (Instr.yield l vs.toArray).run P C.w = .ok (.round l f tmps assign body) C.w ∧
   ∀ (r : Option Nat) (n : Nat), RoundIn (Fw r) n P l f tmps assign body C.w fun e w' => ∃ s H' C' v, e = .returned v ∧ K (.ret s) H' ∧ C'.w = w' ∧ Wd C' H' ∧ Stp E C H C' H' ∧ s.den C' v
theorem j0j {c : Call} {l : Nat} {g : Operand} {v : Value} (hop : o.op = .call c) (hc : c.callee = .value g) (hg : ev g = .raw v) (hy : isYld v = some l)
 (h : VYld P l (c.args.toList.map ev) H K) : OpV P o ev H K := by
 intro E C r n a next Q hw hgh hv h1 h2
 have h0 := hv g (by rw [hop]; simp [Op.operands, Call.operands, hc])
 rw [hg, SV.den, z7b hy] at h0
 have da : SV.denL C (c.args.toList.map ev) (c.args.toList.map a.eval) := q2l _ fun x hx => hv x (by rw [hop]; simp [Op.operands, Call.operands]; exact .inr (by simpa using hx))
 obtain ⟨f, tmps, assign, body, hrun, hround⟩ := h E C _ hw hgh da
 refine ⟨fun f _ => q6B r f, ?_⟩
 rw [Oper.semAt_eq _ _ _ (by rw [hop]; intro c hc; cases hc)]
 have hrun' : (execOp a.eval o).run P C.w = .ok (.round l f tmps assign body) C.w := by
  have e : (List.map a.eval c.args.toList).toArray = Array.map a.eval c.args := by rw [← Array.toList_map]
  rw [e] at hrun
  simp [execOp, hop, resolve, hc, h0, Deferred.ofValue, invoke]
  exact hrun
 rw [hrun']
 refine ⟨(fun hd => by cases hd), (hround r _).mono ?_⟩
 rintro e w' ⟨s, H', C', v, rfl, hk, rfl, hw', hx, hs⟩
 exact h1 s v H' C' hk hw' hx hs
def isFn : Value → Option (Nat × List Value × List Value)
 | .func (.func f) a b => some (f, a.toList, b.toList)
 | _ => none
theorem z5q {c : Call} {f : FuncId} {g : Operand} {v : Value} {fi ca : List Value} (hop : o.op = .call c) (hc : c.callee = .value g) (hg : ev g = .raw v) (hv : isFn v = some (f, fi, ca)) (hf : enters P f = true)
 (h : VCallG P f (rawL fi ++ c.args.toList.map ev ++ rawL ca) H K) : OpV P o ev H K := by
 obtain rfl : v = .func (.func f) fi.toArray ca.toArray := by
  unfold isFn at hv
  split at hv
  · cases hv; simp
  cases hv
 intro E C r n a next Q hw hgh hv h1 h2
 have h0 := hv g (by rw [hop]; simp [Op.operands, Call.operands, hc])
 rw [hg, SV.den] at h0
 have da : SV.denL C (c.args.toList.map ev) (c.args.toList.map a.eval) := q2l _ fun x hx => hv x (by rw [hop]; simp [Op.operands, Call.operands]; exact .inr (by simpa using hx))
 refine ⟨fun f _ => q6B r f, ?_⟩
 rw [Oper.semAt_eq _ _ _ (by rw [hop]; intro c hc; cases hc)]
 have hrun : (execOp a.eval o).run P C.w = .ok (.enter f (fi ++ c.args.toList.map a.eval ++ ca).toArray) C.w := by
  simp [execOp, hop, resolve, hc, h0, Deferred.ofValue, invoke, q5c hf]
 rw [hrun]
 refine ⟨(fun hd => by cases hd), q7r ?_⟩
 refine (h E C _ hw hgh (q0M.2 ⟨_, _, rfl, q0M.2 ⟨_, _, rfl, q2I fi, da⟩, q2I ca⟩)).mono ?_
 rintro e w' ⟨out, H', C', hk, rfl, hw', hx, hd⟩
 cases out with
 | ret s =>
  obtain ⟨v, rfl, hs⟩ := hd
  exact h1 s v H' C' hk hw' hx hs
 | pan s =>
  obtain ⟨v, rfl, hs⟩ := hd
  exact h2 s v H' C' hk hw' hx hs
attribute [go_sem] isYld isFn
end Go.Sx
set_option linter.unusedSectionVars false
namespace Go.Sx
open Go

variable [Ghost] {P : Program} {AQ : Ex → List SV → List SObj → Prop} {k0 : Nat} {k : List It} {t : List SV} {H : List SObj}

def resV1 (P : Program) (t : List SV) (H : List SObj) : ResultVar → Option SV
 | .tmp i => some (t.getD i .any)
 | .cell i ty => match t.getD i .any, aggOf P ty with
  | .ptr h off, some ag => match H[h]? with
   | some (.cells _ cs) => pick cs off ag
   | _ => none
  | _, _ => none
def resVL (P : Program) (t : List SV) (H : List SObj) : List ResultVar → Option (List SV)
 | [] => some []
 | r :: l => match resV1 P t H r, resVL P t H l with
  | some s, some ss => some (s :: ss)
  | _, _ => none
def resV (P : Program) (t : List SV) (H : List SObj) (rs : List ResultVar) : Option SV :=
 match resVL P t H rs with
 | some [s] => some s
 | some l => some (.tup l)
 | none => none

theorem z3T {C : Cx} {a : Act} {r : ResultVar} {s : SV} (hw : Wd C H) (hd : SV.denL C t a.tmps.toList) (h : resV1 P t H r = some s) :
 ∃ v, (match r with
  | .tmp t => (pure (a.tmps.getD t undef) : Sem Value)
  | .cell b t => do loadVar t (← asAddr (a.tmps.getD b undef))).run P C.w = .ok v C.w ∧ s.den C v := by
 cases r with
 | tmp i =>
  simp only [resV1] at h
  cases h
  exact ⟨a.tmps.getD i undef, rfl, q3o hd (.tmp i)⟩
 | cell i ty =>
  simp only [resV1] at h
  split at h
  · rename_i hh off ag h1 h2
    split at h
    · rename_i T cs hH
      have hx := q3o hd (.tmp i)
      simp only [evT, Act.eval] at hx
      rw [h1, SV.den] at hx
      obtain ⟨_, b, hb, hx⟩ := hx
      obtain ⟨b', vs, hb', hcell, hdd⟩ := hw.obj hh _ hH
      rw [hb] at hb'; cases hb'
      obtain ⟨v, g1, g2⟩ := q2A (P := P) h2 (b := b) (base := 0) (off := off) hdd (fun j u hj => by rw [Nat.zero_add, q0A hcell]; exact hj) h
      rw [Nat.zero_add] at g1
      exact ⟨v, by simp [hx, asAddr, g1], g2⟩
    cases h
  cases h

theorem q9V {C : Cx} {a : Act} (hw : Wd C H) (hd : SV.denL C t a.tmps.toList) : ∀ {rs : List ResultVar} {l : List SV}, resVL P t H rs = some l →
 ∃ vs, (rs.mapM (m := Sem) fun
  | .tmp t => (pure (a.tmps.getD t undef) : Sem Value)
  | .cell b t => do loadVar t (← asAddr (a.tmps.getD b undef))).run P C.w = .ok vs C.w ∧ SV.denL C l vs
 | [], l, h => by
  cases h
  exact ⟨[], by simp, q0F.2 rfl⟩
 | r :: rs, l, h => by
  simp only [resVL] at h
  split at h
  · rename_i s ss h1 h2
    cases h
    obtain ⟨v, g1, g2⟩ := z3T hw hd h1
    obtain ⟨vs, g3, g4⟩ := q9V hw hd h2
    refine ⟨v :: vs, ?_, q0g.2 ⟨v, vs, rfl, g2, g4⟩⟩
    rw [List.mapM_cons]
    simp only [Sem.run_bind]
    erw [g1]
    simp only [Result.andThen]
    erw [g3]
    simp
  cases h

theorem q8h {C : Cx} {a : Act} {fn : Func} {s : SV} (hw : Wd C H) (hd : SV.denL C t a.tmps.toList) (h : resV P t H fn.results.toList = some s) : ∃ v, (results fn a.tmps).run P C.w = .ok v C.w ∧ s.den C v := by
 unfold resV at h
 have key : ∀ {l : List SV}, resVL P t H fn.results.toList = some l → ∃ vs : List Value, (fn.results.mapM (m := Sem) fun
  | .tmp t => (pure (a.tmps.getD t undef) : Sem Value)
  | .cell b t => do loadVar t (← asAddr (a.tmps.getD b undef))).run P C.w = .ok vs.toArray C.w ∧ SV.denL C l vs := by
  intro l hl
  obtain ⟨vs, g1, g2⟩ := q9V hw hd hl
  refine ⟨vs, ?_, g2⟩
  rw [Array.mapM_eq_mapM_toList]
  simp only [Sem.run_map]
  erw [g1]
  rfl
 split at h
 · rename_i s' hl
   cases h
   obtain ⟨vs, g1, g2⟩ := key hl
   obtain ⟨v, us, rfl, hv, hus⟩ := q0g.1 g2
   rw [q0F] at hus
   subst hus
   refine ⟨v, ?_, hv⟩
   unfold results
   simp only [Sem.run_bind]
   erw [g1]
   simp [Result.andThen]
 · rename_i l hne hl
   cases h
   obtain ⟨vs, g1, g2⟩ := key hl
   have hlen := q0K g2
   refine ⟨.tuple vs.toArray, ?_, by rw [SV.den]; exact ⟨vs, rfl, g2⟩⟩
   unfold results
   simp only [Sem.run_bind]
   erw [g1]
   have hn : ¬ vs.length = 1 := by
    intro h1
    rw [hlen] at h1
    match l, h1 with
    | [s'], _ => exact hne s' rfl
   simp [Result.andThen, hn]
 cases h

theorem q5z {w : World} {D : Nat} (h : w.heap[D]? = some (.deferred (some []))) : (Instr.takeDeferred D).run P w = .ok [] { w with heap := w.heap.setIfInBounds D (.deferred none) } := by
 simp [Instr.takeDeferred, getObj, setObj, Sem.run, h]

def dropD (C : Cx) (D : Nat) : Cx := { C with w := { C.w with heap := C.w.heap.setIfInBounds D (.deferred none) } }
theorem q1X {C : Cx} {D b : Nat} (h : b ≠ D) : (dropD C D).w.heap[b]? = C.w.heap[b]? := by
 simp only [dropD]
 rw [Array.getElem?_setIfInBounds_ne (Ne.symm h)]
theorem q6t {C : Cx} {D : Nat} (hi : ¬ C.I D) (hD : C.w.heap[D]? = some (.deferred (some []))) : Evo C (dropD C D) :=
 ⟨Nat.le_refl _, fun _ _ => rfl, fun b hb => ⟨hb, q1X (fun e => hi (e ▸ hb))⟩, fun b m hm => by
  by_cases e : b = D
  · subst e; unfold World.bsize at hm; rw [hD] at hm; simp at hm
  unfold World.bsize at hm ⊢; rw [q1X e]; exact hm⟩
theorem z8h {C : Cx} {D : Nat} (hw : Wd C H) (hi : ¬ C.I D) (ho : ¬ OwnB C H D) (hD : C.w.heap[D]? = some (.deferred (some []))) : Wd (dropD C D) H := by
 have he := q6t hi hD
 refine ⟨hw.n, fun h x hx => ?_, fun b hb => ?_, hw.inj, fun b hb => ?_⟩
 · by_cases hl : x.live = true
   · exact q0P he.I h rfl (fun b hb => q1X (fun e => ho (e ▸ ⟨h, x, hx, hl, hb⟩))) (q0u he) (hw.obj h x hx)
   cases x <;> first | trivial | simp [SObj.live] at hl
 · have := hw.own b hb
   exact ⟨this.1, by simp only [dropD, Array.size_setIfInBounds]; exact this.2⟩
 simp only [dropD, Array.size_setIfInBounds]; exact hw.imm b hb
theorem z3J {E : En} {C : Cx} {D : Nat} (hx : Ext E C H) (hi : ¬ C.I D) (hD : C.w.heap[D]? = some (.deferred (some []))) (hs : E.C.w.heap.size ≤ D) : Ext E (dropD C D) H :=
 ⟨hx.evo.trans (q6t hi hD), by simp only [dropD, Array.size_setIfInBounds]; exact hx.size, hx.os, hx.tape, hx.output, fun b hb ho => (q1X (by omega)).trans (hx.frame b hb ho), fun b hb => orMap (hx.immNew b hb) id fun ⟨x, u⟩ => ⟨x, u.keep (q1X fun e => hi (e ▸ hb))⟩, hx.ownNew, hx.keep0⟩

structure MarkOk (E : En) (C : Cx) (H : List SObj) (D : Nat) : Prop where
 sz : E.C.w.heap.size ≤ D
 imm : ¬ C.I D
 own : ¬ OwnB C H D
 at_ : C.w.heap[D]? = some (.deferred (some []))
theorem q3v {fn : Func} {tmps : Array Value} {R : Ending → World → Prop} {E : En} {u : FrameMode} (hu : u ≠ .run) : ∀ (Ds : List Nat) (C : Cx), Wd C H → Ext E C H → Ds.Nodup →
 (∀ D ∈ Ds, MarkOk E C H D) →
 (Wd (Ds.foldl dropD C) H → Ext E (Ds.foldl dropD C) H → Evo C (Ds.foldl dropD C) → LeavesIn Fence.wide 0 P fn tmps R [] u (Ds.foldl dropD C).w) → LeavesInM Fence.wide 0 P fn tmps R (Ds.map markD) u C.w
 | [], C, hw, hx, _, _, h => h hw hx (Evo.refl _)
 | D :: Ds, C, hw, hx, hnd, hD, h => by
  obtain ⟨g1, g2, g3, g4⟩ := hD D (by simp)
  have he := q6t g2 g4
  refine ⟨hu, .inl ⟨D, _, rfl, q5z g4, ?_⟩⟩
  refine q3v hu Ds (dropD C D) (z8h hw g2 g3 g4) (z3J hx g2 g4 g1) (List.nodup_cons.1 hnd).2 (fun D' hD' => ?_) (fun hw' hx' he' => h hw' hx' (he.trans he'))
  obtain ⟨k1, k2, k3, k4⟩ := hD D' (by simp [hD'])
  have hne : D' ≠ D := fun e => (List.nodup_cons.1 hnd).1 (e ▸ hD')
  exact ⟨k1, k2, k3, (q1X hne).trans k4⟩

def retQ (P : Program) (fn : Func) (K : Out → List SObj → Prop) : Ex → List SV → List SObj → Prop
 | .normal, t, H => ∃ s, resV P t H fn.results.toList = some s ∧ K (.ret s) H
 | .ret, t, H => ∃ s, resV P t H fn.results.toList = some s ∧ K (.ret s) H
 | .pan s, _, H => K (.pan s) H
 | .exit _, _, _ => False

theorem q5w {fn : Func} {a : Act} {R : Ending → World → Prop} {w : World} {v : Value} (hr : (results fn a.tmps).run P w = .ok v w) (h : R (.returned v) w) : LeavesIn Fence.wide 0 P fn a.tmps R [] .returning w := by
 unfold LeavesIn
 exact ⟨v, hr, h⟩

def LeaveOk (E : EnD) (J : Cx → List SObj → Prop) : Prop :=
 ∀ (C : Cx) (H : List SObj) (ds : List Deferred), Wd C H → Ext E C H → Ghost.fin E C H ds → ∃ Ds : List Nat, ds = Ds.map markD ∧ Ds.Nodup ∧ (∀ D ∈ Ds, MarkOk E C H D) ∧ J (Ds.foldl dropD C) H
theorem z0P {f : FuncId} {fn : Func} {c : Code} {args : List SV} {K : Out → List SObj → Prop} {E : EnD} {C : Cx} {vs : List Value} (hf : P.funcs[f]? = some fn) (hb : fn.body = some c) (hE : E.base = []) (hn : E.C.n ≤ H.length) (hw : Wd C H) (hx : Ext E C H) (hg : Ghost.inv E C H)
 (J : Cx → List SObj → Prop) (hJ : LeaveOk E J)
 (hv : SV.denL C args vs) (h : Sound P (retQ P fn K) ⟨H.length, [.code c], args ++ List.replicate (fn.ntmps - args.length) .any, H⟩) :
 Calls P f vs.toArray C.w fun e w' => ∃ o H' C', K o H' ∧ C'.w = w' ∧ Wd C' H' ∧ Ext E C' H' ∧ J C' H' ∧ outDen C' o e := by
 refine (callsIn_wide (n := 0)).1 (callsIn_of_wp_marks hf hb trivial ?_ rfl)
 have hlen := q0K hv
 have hd : Den E C (args ++ List.replicate (fn.ntmps - args.length) .any) H { tmps := vs.toArray ++ Array.replicate (fn.ntmps - vs.toArray.size) undef, defers := [] } := by
  refine ⟨hw, hx, ⟨hE.symm, hg⟩, ?_⟩
  simp only [Array.toList_append, Array.toList_replicate, List.size_toArray, hlen]
  refine q0M.2 ⟨vs, _, rfl, hv, ?_⟩
  generalize fn.ntmps - args.length = m
  induction m with
  | zero => exact q0F.2 rfl
  | succ m ih => exact q0g.2 ⟨_, _, List.replicate_succ, by rw [SV.den]; trivial, ih⟩
 have h1 := h E none 0 C _ ⟨hn, Ghost.rd0⟩ hd
 simp only [wpT] at h1
 refine wpIn_mono h1 fun e a w hq => ?_
 have fin : ∀ {C' : Cx} {t' : List SV} {H' : List SObj}, (∃ s, resV P t' H' fn.results.toList = some s ∧ K (.ret s) H') → C'.w = w → DenF E C' t' H' a →
  LeavesInM Fence.wide 0 P fn a.tmps (fun e w' => ∃ o H' C', K o H' ∧ C'.w = w' ∧ Wd C' H' ∧ Ext E C' H' ∧ J C' H' ∧ outDen C' o e) a.defers .returning w := by
  rintro C' t' H' ⟨s, hs, hk⟩ rfl hd'
  obtain ⟨Ds, e1, hnd, hok, hj⟩ := hJ _ _ _ hd'.wd hd'.ext hd'.defs
  rw [e1]
  refine q3v (by simp) Ds C' hd'.wd hd'.ext hnd hok fun q1 q2 q3 => ?_
  obtain ⟨v, g1, g2⟩ := q8h (P := P) (fn := fn) q1 (q0u q3 hd'.tmps) hs
  exact q5w g1 ⟨.ret s, H', _, hk, rfl, q1, q2, hj, v, rfl, g2⟩
 cases e with
 | normal => obtain ⟨C', t', H', hq, hw', hd'⟩ := hq; exact fin hq hw' hd'
 | ret => obtain ⟨C', t', H', hq, hw', hd'⟩ := hq; exact fin hq hw' hd'
 | panic ch =>
  obtain ⟨C', t', H', s, v, hk, rfl, hs, rfl, hw', hx', hdf, _⟩ := hq
  obtain ⟨Ds, e1, hnd, hok, hj⟩ := hJ _ _ _ hw' hx' hdf
  show LeavesInM _ _ _ _ _ _ _ _ _
  rw [e1]
  exact q3v (by simp) Ds C' hw' hx' hnd hok fun q1 q2 q3 => ⟨.pan s, H', _, hk, rfl, q1, q2, hj, v, rfl, q1x q3 hs⟩
 | exit id => obtain ⟨_, _, _, hq, _⟩ := hq; exact hq.elim
 | goto l => exact hq.elim
 | outgrown => exact hq.elim
theorem z0M {f : FuncId} {fn : Func} {c : Code} {args : List SV} {K : Out → List SObj → Prop} (hf : P.funcs[f]? = some fn) (hb : fn.body = some c)
 (h : @Sound noGhost P (retQ P fn K) ⟨H.length, [.code c], args ++ List.replicate (fn.ntmps - args.length) .any, H⟩) : VCall P f args H K := by
 intro C vs hw ht hv
 refine (@z0P noGhost P H f fn c args K ⟨⟨C, H⟩, []⟩ C vs hf hb rfl (by rw [hw.n]; exact Nat.le_refl _) hw (Ext.refl _ _) ⟨ht, trivial⟩ (fun _ _ => True) (fun _ _ ds _ _ h => ⟨[], h.1, List.nodup_nil, fun _ h => by simp at h, trivial⟩) hv h).mono ?_
 rintro e w' ⟨o, H', C', hk, h1, h2, h3, _, h4⟩
 exact ⟨o, H', C', hk, h1, h2, h3, h4⟩
end Go.Sx
set_option linter.unusedSectionVars false
namespace Go.Sx
open Go

variable [Ghost] {P : Program} {o : Oper} {ev : Operand → SV} {H : List SObj} {K : Out → List SObj → Prop}

theorem q9w : ∀ (cs : List Value) (off j : Nat) (acc : Array Value), off + j + cs.length ≤ acc.size →
 ((cs.zipIdx j).foldl (fun (a : Array Value) (x : Value × Nat) => a.setIfInBounds (off + x.2) x.1) acc).toList = splice acc.toList (off + j) cs
 | [], off, j, acc, _ => by simp [splice]
 | c :: cs, off, j, acc, h => by
  simp only [List.length_cons] at h
  simp only [List.zipIdx_cons, List.foldl_cons]
  rw [q9w cs off (j + 1) _ (by simp; omega), q6A (by simp; omega)]
  simp [Nat.add_assoc]

def fillS (place : Nat → Option (Nat × Nat)) : List SV → List (Nat × SV) → Option (List SV)
 | zs, [] => some zs
 | zs, (i, s) :: rest => match place i, s.flat with
  | some (off, size), some cs => if cs.length = size ∧ off + cs.length ≤ zs.length then fillS place (splice zs off cs) rest else none
  | _, _ => none

theorem q6s {C : Cx} {place : Nat → Option (Nat × Nat)} : ∀ {ps : List (Nat × SV)} {qs : List (Nat × Value)} {zs cs : List SV} {vs : List Value}, SV.denL C zs vs →
 (ps.map (·.1) = qs.map (·.1)) → SV.denL C (ps.map (·.2)) (qs.map (·.2)) → fillS place zs ps = some cs → ∃ us, Instr.fill place vs.toArray qs = some us.toArray ∧ SV.denL C cs us
 | [], [], zs, cs, vs, hz, _, _, h => by cases h; exact ⟨vs, rfl, hz⟩
 | [], _ :: _, _, _, _, _, h, _, _ => by simp at h
 | _ :: _, [], _, _, _, _, h, _, _ => by simp at h
 | (i, s) :: ps, (j, v) :: qs, zs, cs, vs, hz, hi, hd, h => by
  simp only [List.map_cons, List.cons.injEq] at hi
  obtain ⟨rfl, hi⟩ := hi
  simp only [List.map_cons] at hd
  obtain ⟨v', us, e, hv, hd⟩ := q0g.1 hd
  simp only [List.cons.injEq] at e
  obtain ⟨rfl, rfl⟩ := e
  simp only [fillS] at h
  split at h
  · rename_i off size ds hp hf
    split at h
    · rename_i hc
      have hfd := q4j hf hv
      have hl := q0K hfd
      have hzl := q0K hz
      obtain ⟨us, h1, h2⟩ := q6s (q4d hz hfd) hi hd h
      refine ⟨us, ?_, h2⟩
      rw [Instr.fill]
      simp only [hp]
      rw [if_neg (by simp only [List.size_toArray, Bool.or_eq_true, decide_eq_true_eq, not_or]; simp only [Array.length_toList] at hl; omega)]
      have : (v.cells.zipIdx.foldl (fun cs x => cs.setIfInBounds (off + x.2) x.1) vs.toArray) = (splice vs off v.cells.toList).toArray := by
       have := q9w v.cells.toList off 0 vs.toArray (by simp only [List.size_toArray]; omega)
       rw [Nat.add_zero] at this
       rw [← Array.foldl_toList, Array.toList_zipIdx]
       apply Array.ext'
       rw [this]
      rw [← h1, ← this]
    cases h
  cases h

inductive PlaceK where
 | fields (l : List (Nat × Nat))
 | arr (sz : Nat)
def PlaceK.fn : PlaceK → Nat → Option (Nat × Nat)
 | .fields l, i => l[i]?
 | .arr sz, i => some (i * sz, sz)
def placesOf (P : Program) (t : TypeId) : Option PlaceK :=
 match P.underlying t with
 | some (.struct fs) => (fs.toList.mapM fun f => (P.info? f.type).map fun i => (f.offset, i.size)).map .fields
 | some (.array _ e) => (P.info? e).map fun i => .arr i.size
 | _ => none

theorem q6F {w : World} : ∀ {fs : List Field} {l : List (Nat × Nat)}, (fs.mapM (m := Option) fun f => (P.info? f.type).map fun i => (f.offset, i.size)) = some l →
 (fs.mapM (m := Sem) fun f => do pure (f.offset, ← sizeOf f.type)).run P w = .ok l w
 | [], l, h => by
  rw [List.mapM_nil] at h; cases h
  rw [List.mapM_nil]; rfl
 | f :: fs, l, h => by
  rw [List.mapM_cons] at h
  cases hi : P.info? f.type with
  | none => simp [hi] at h
  | some i =>
   cases hr : (fs.mapM (m := Option) fun f => (P.info? f.type).map fun i => (f.offset, i.size)) with
   | none => simp [hi, hr] at h
   | some l' =>
    simp [hi, hr] at h
    have ih := q6F (w := w) hr
    rw [List.mapM_cons]
    simp only [Sem.run_bind]
    have h1 : (sizeOf f.type).run P w = .ok i.size w := q0C (by simp [hi]) w
    simp only [h1, Result.andThen, Sem.run_pure]
    rw [ih]
    simp [← h]

theorem z3Z {t : TypeId} {parts : Array (Nat × Operand)} {zs : List Value} {pl : PlaceK} {cs : List SV} (hop : o.op = .build t parts) (hz : (P.info? t).bind (fun i => i.zero.map (·.cells.toList)) = some zs)
 (hpl : placesOf P t = some pl) (hf : fillS pl.fn (rawL zs) (parts.toList.map fun p => (p.1, ev p.2)) = some cs) (hk : K (.ret (.agg cs)) H) : OpV P o ev H K := by
 refine q0x (by rw [hop]; intro c hc; cases hc) (fun C e _ hv => ?_) hk
 rw [hop] at hv
 simp only [Op.operands] at hv
 have hparts : SV.denL C ((parts.toList.map fun p => (p.1, ev p.2)).map (·.2)) ((parts.toList.map fun p => (p.1, e p.2)).map (·.2)) := by
  simp only [List.map_map]
  have := q2l (C := C) (ev := ev) (e := e) (parts.toList.map (·.2)) (fun x hx => hv x (by simpa using hx))
  simp only [List.map_map] at this
  exact this
 obtain ⟨us, h1, h2⟩ := q6s (C := C) (qs := parts.toList.map fun p => (p.1, e p.2)) (q2I zs) (by simp) hparts hf
 refine ⟨.agg us.toArray, ?_, by rw [SV.den]; exact ⟨us, rfl, h2⟩⟩
 cases hi : P.info? t with
 | none => simp [hi] at hz
 | some i =>
  cases hz0 : i.zero with
  | none => simp [hi, hz0] at hz
  | some z =>
   simp [hi, hz0] at hz
   have hzz : z.cells = zs.toArray := by rw [← hz]
   have hzr : (zeroValue t).run P C.w = .ok z C.w := by simp [zeroValue, typeInfo, hi, hz0]
   unfold placesOf at hpl
   split at hpl
   · rename_i fs hu
     cases hpl' : (fs.toList.mapM (m := Option) fun f => (P.info? f.type).map fun i => (f.offset, i.size)) with
     | none => rw [hpl'] at hpl; cases hpl
     | some l =>
      rw [hpl'] at hpl
      cases hpl
      have hm := q6F (P := P) (w := C.w) hpl'
      have hm' : (fs.mapM (m := Sem) fun f => do pure (f.offset, ← sizeOf f.type)).run P C.w = .ok l.toArray C.w := by
       rw [Array.mapM_eq_mapM_toList]
       simp only [Sem.run_map]
       rw [hm]
       rfl
      have hfill : Instr.fill (l.toArray[·]?) zs.toArray (parts.map fun p => (p.1, e p.2)).toList = some us.toArray := by
       rw [← h1]
       congr 1
       · funext j; simp [PlaceK.fn]
       simp
      simp only [execOp, hop, Sem.run_bind, Instr.build, hzr, Result.andThen, run_underlying' hu]
      erw [hm']
      simp only [hzz]
      erw [hfill]
      rfl
   · rename_i n e' hu
     cases hie : P.info? e' with
     | none => simp [hie] at hpl
     | some ie =>
      simp [hie] at hpl
      subst hpl
      have hse : (sizeOf e').run P C.w = .ok ie.size C.w := q0C (by simp [hie]) C.w
      have hfill : Instr.fill (fun i => some (i * ie.size, ie.size)) zs.toArray (parts.map fun p => (p.1, e p.2)).toList = some us.toArray := by
       rw [← h1]
       congr 1
       simp
      simp only [execOp, hop, Sem.run_bind, Instr.build, hzr, Result.andThen, run_underlying' hu, hse, hzz]
      erw [hfill]
      rfl
   cases hpl
end Go.Sx
