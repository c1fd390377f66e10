/- A part of the proof: a symbolic executor over abstract values, and its soundness. -/
import Derived.Test.YtcjehhejgimmdaaGreatDoorP5
set_option linter.all false
set_option linter.unusedSectionVars false
namespace Go.Sx
open Go

variable [Ghost] {P : Program} {o : Oper} {ev : Operand → SV} {H : List SObj} {K : Out → List SObj → Prop}

theorem z5I {I : Nat → Prop} {w : World} {t : Ty} : ∀ {zs : List Value}, zs.all (fun v => t.isZero [v]) = true → relL I w t (List.replicate zs.length t.dflt) zs
 | [], _ => rfl
 | z :: zs, h => by
  rw [List.all_cons, Bool.and_eq_true] at h
  exact ⟨[z], zs, rfl, Ty.isZero_rel h.1, z5I h.2⟩
theorem j0J {T : TypeId} {t : Ty} {zs : List Value} (hop : o.op = .alloc T) (hz : (P.info? T).bind (fun i => i.zero.map (·.cells.toList)) = some zs) (ht : t.size = 1) (hd : zs.all (fun v => t.isZero [v]) = true)
 (hk : K (.ret (.rptr H.length t 0 0)) (H ++ [.row t (List.replicate zs.length t.dflt)])) : OpV P o ev H K := by
 refine q1I (by rw [hop]; intro c hc; cases hc) fun C e hw _ => ?_
 obtain ⟨g1, g2, _⟩ := q8a (T := T) (rest := []) hw (n := zs.length) (c := zs.length) (z5I hd) (by simp) (Nat.le_refl _) (by rw [ht]; simp)
 rw [List.append_nil] at g1 g2
 refine ⟨_, .pointer (some ⟨C.w.heap.size, 0, none⟩), _, _, hk, .inl ?_, g1, g2, ?_⟩
 · cases hi : P.info? T with
   | none => simp [hi] at hz
   | some i =>
    cases hz0 : i.zero with
    | none => simp [hi, hz0] at hz
    | some z =>
     simp [hi, hz0] at hz
     simp [execOp, hop, Instr.alloc, zeroValue, typeInfo, hi, hz0, Result.andThen, newVar, newRow, Cx.grow, ← hz]
 rw [SV.den]; exact ⟨by simp [Cx.grow, hw.n], C.w.heap.size, by simp [Cx.grow, hw.n], by simp⟩

def addA (sz n : Nat) : SV → Option SV
 | .ptr h off => some (.ptr h (off + n * sz))
 | .iptr t x k => some (.iptr t x (k + n * sz))
 | .rptr h t i k => if k = 0 ∧ sz = t.size then some (.rptr h t (i + n) 0) else some (.rptr h t i (k + n * sz))
 | .raw v => (SV.raw v).add (n * sz)
 | _ => none
theorem z8w {C : Cx} {s s' : SV} {sz n : Nat} {v : Value} (h : addA sz n s = some s') (hd : s.den C v) : ∃ b o, v = .pointer (some ⟨b, o, none⟩) ∧ s'.den C (.pointer (some ⟨b, o + n * sz, none⟩)) := by
 unfold addA at h
 split at h
 · cases h; exact q5Y (s := .ptr _ _) rfl hd
 · cases h; exact q5Y (s := .iptr _ _ _) rfl hd
 · split at h
   · rename_i e
     obtain ⟨rfl, e⟩ := e
     cases h
     rw [SV.den] at hd
     obtain ⟨hn, b, hb, rfl⟩ := hd
     exact ⟨b, _, rfl, by rw [SV.den]; exact ⟨hn, b, hb, by rw [e, Nat.add_mul, Nat.add_zero, Nat.add_zero]⟩⟩
   cases h
   exact q5Y (s := .rptr _ _ _ _) rfl hd
 · exact q5Y h hd
 cases h
theorem opv_indexAddr_arr' {t e' : TypeId} {x i : Operand} {len sz : Nat} {k : IntKind} {n : Int} {s : SV} (hop : o.op = .indexAddr t x i) (ht : P.underlying t = some (.array len e')) (hs : (P.info? e').map (·.size) = some sz) (hi : ev i = .raw (.int k n))
 (ha : addA sz n.toNat (ev x) = some s) (h0 : 0 ≤ n) (hb : n.toNat < len) (hk : K (.ret s) H) : OpV P o ev H K := by
 refine q0x (by rw [hop]; intro c hc; cases hc) (fun C e _ hv => ?_) hk
 have h2 := hv i (by rw [hop]; simp [Op.operands])
 rw [hi, SV.den] at h2
 obtain ⟨b, p, hx, hd⟩ := z8w ha (hv x (by rw [hop]; simp [Op.operands]))
 have hlt : n < (len : Int) := by omega
 exact ⟨_, by simp [execOp, hop, hx, h2, Instr.indexAt, asIntOf, run_underlying' ht, Instr.sureAddr, h0, hlt, q0C hs, q1h, Result.andThen], hd⟩

def slA (sz lo n : Nat) : SV → Option SV
 | .rptr h t i k => if k = 0 ∧ sz = t.size then some (.osl h t (i + lo) n) else none
 | _ => none
theorem z2M {T e' : TypeId} {x : Operand} {lo hi : Option Operand} {a b : Option Int} {m sz : Nat} {s : SV} (hop : o.op = .slice T x lo hi none) (ht : P.underlying T = some (.array m e')) (hsz : (P.info? e').map (·.size) = some sz) (h1 : bndV ev lo = some a) (h2 : bndV ev hi = some b)
 (g0 : 0 ≤ loOf a) (g1 : loOf a ≤ hiOf m b) (g2 : hiOf m b ≤ (m : Int)) (hs : slA sz (loOf a).toNat ((hiOf m b).toNat - (loOf a).toNat) (ev x) = some s) (hk : K (.ret s) H) : OpV P o ev H K := by
 refine q0x (by rw [hop]; intro c hc; cases hc) (s := s) (fun C e _ hv => ?_) hk
 rw [hop] at hv
 have hx := hv x (by simp [Op.operands])
 have hlo : ∀ y ∈ lo, (ev y).den C (e y) := fun y hy => hv y (by simp [Op.operands]; cases hy; simp)
 have hhi : ∀ y ∈ hi, (ev y).den C (e y) := fun y hy => hv y (by simp [Op.operands]; cases hy; simp)
 unfold slA at hs
 split at hs
 · rename_i h t i k he
   split at hs
   · rename_i et
     obtain ⟨rfl, et⟩ := et
     cases hs
     rw [he, SV.den] at hx
     obtain ⟨hn, bb, hbb, hx⟩ := hx
     have hb := q3T (P := P) (C := C) (e := e) (isS := false) (len := m) (cap := m) hlo hhi h1 h2 C.w g0 g1 g2
     refine ⟨.slice (some (if m = (loOf a).toNat then ⟨bb, i * t.size + 0, none⟩ else Addr.add ⟨bb, i * t.size + 0, none⟩ ((loOf a).toNat * sz))) ((hiOf m b).toNat - (loOf a).toNat) (m - (loOf a).toNat), ?_, ?_⟩
     · simp [execOp, hop, Instr.sliceAt, run_underlying' ht, Instr.sureAddr, hx, hb, q0C hsz, Result.andThen]
     rw [SV.den]
     refine ⟨hn, _, _, rfl, by omega, ?_⟩
     by_cases hz : (hiOf m b).toNat - (loOf a).toNat = 0
     · exact .inl hz
     refine .inr ⟨bb, hbb, ?_⟩
     rw [if_neg (by omega), q1h, et, Nat.add_mul, Nat.add_zero]
   cases hs
 cases hs

theorem q6q {src dst : TypeId} {x : Operand} {e' : TypeId} {h off n : Nat} {xs : List UInt8} (hop : o.op = .convert src dst x) (hs : P.underlying src = some (.slice e')) (ht : P.underlying dst = some .string) (he : P.underlying e' = some (.int .u8)) (hx : ev x = .osl h .u8 off n)
 (hH : H[h]? = some (.row .u8 xs)) (hn : off + n ≤ xs.length) (hlen : xs.length ≤ 1125899906842624) (hk : K (.ret (.raw (.string (strOf ((xs.drop off).take n))))) H) : OpV P o ev H K := by
 refine q0x (by rw [hop]; intro c hc; cases hc) (fun C e hw hv => ?_) hk
 have h0 := hv x (by rw [hop]; simp [Op.operands])
 rw [hx] at h0
 have h1 := q8E hw hH hlen hn h0
 have hb := q2b (P := P) h1
 rw [SV.den] at h1
 obtain ⟨A, n', c, e0, _⟩ := h1
 simp only [List.cons.injEq, and_true] at e0
 rw [e0] at hb
 have hb' : (Conv.bytesToString (.slice A n' c)).run P C.w = .ok (.string (strOf ((xs.drop off).take n))) C.w := hb
 exact ⟨.string (strOf ((xs.drop off).take n)), by simp [execOp, hop, e0, convert, run_underlying' hs, run_underlying' ht, run_underlying' he, hb', Result.andThen], by rw [SV.den]⟩
end Go.Sx
namespace Go.Sx
open Go
inductive IOp where
 | mov (x : Operand)
 | pick (c x y : Operand)
 | nil (x : Operand)
 | new (T : TypeId) (zs : List Value)
 | box (T : TypeId) (x : Operand)
 | ld (ag : Option Nat) (x : Operand)
 | st (n : Nat) (x y : Operand)
 | bin (op : BinOp) (k : Nat) (x y : Operand)     -- k: 1 pointers, 2 functions, 3 bools may be compared
 | un (op : UnOp) (x : Operand)
 | toInt (k : IntKind) (x : Operand)
 | toStr (b : Bool) (x : Operand)                 -- b: of bytes, not of a string
 | fa (off : Nat) (x : Operand)
 | fld (off : Nat) (ag : Option Nat) (x : Operand)
 | ia (sz : Nat) (x i : Operand)
 | ixs (x i : Operand)
 | len (k : Bool) (x : Operand)                   -- k: a string
 | ext (i : Nat) (x : Operand)
 | mkf (f : Nat) (fi ca : List Operand)
 | mki (T : TypeId) (x : Operand)
 | bld (zs : List Value) (pl : PlaceK) (ps : List (Nat × Operand))
 | bsl (t : Ty) (n sz : Nat) (zs : List Value) (ps : List (Nat × Operand))
 | app (t : Ty) (by_ : Nat) (x y : Operand)
 | sl (k : Option Nat) (x : Operand) (lo hi : Option Operand)   -- k: none: a string; some n: a slice of elements of n cells
 | call (f : Operand) (args : List Operand)
 | pan (x : Operand)
 | mkm (kk : Option IntKind)
 | mup (kk : Option IntKind) (m k x : Operand)
 | mlk (kk : Option IntKind) (z : Value) (ok : Bool) (m k : Operand)
 | mln (x : Operand)
 | mks (t : Ty) (by_ : Nat) (x y : Operand)
 | toB (x : Operand)
 | eqs (neg : Bool) (ks : List Nat) (x y : Operand)
 | sl3 (k : Nat) (f : Bool) (x : Operand) (lo : Option Operand) (hi mx : Operand)
 | iaa (len sz : Nat) (x i : Operand)
 | ta (T : TypeId) (z : Value) (x : Operand)
 | mxm (b : Bool) (x y : Operand)
 | arr (t : Ty) (m : Nat)                         -- an array of data of one cell
 | sla (m sz : Nat) (x : Operand) (lo hi : Option Operand)   -- a part of an array
 | ldS (ag : Option Nat) (x : Operand)   -- a load that floats over stores to other objects

def tyOf (P : Program) : Nat → TypeId → Option Ty
 | 0, _ => none
 | n + 1, T => match P.underlying T with
  | some .bool => some .bool
  | some (.int .u8) => some .u8
  | some (.int k) => some (.int k)
  | some .string => some .str
  | some (.slice e) => (tyOf P n e).map .slice
  | some (.struct fs) => fs.toList.foldr (fun f acc => match tyOf P n f.type, acc with
   | some a, some (some b) => some (some (.prod a b))
   | some a, some none => some (some a)
   | _, _ => none) (some none) |>.bind id
  | some (.array m e) => (tyOf P n e).bind fun a => match m with
   | 0 => none
   | m + 1 => some ((List.replicate m a).foldr (fun x acc => .prod x acc) a)
  | _ => none

def eqK (P : Program) (t : TypeId) : Nat :=
 if kPtr P t then 1 else if kFunc P t then 2 else if kBool P t then 3 else if kSlice P t then 5 else 0

def mapKey (P : Program) (T : TypeId) : Option (Option IntKind) := match P.underlying T with
 | some (.map kt _) => keyKind P kt
 | _ => none
def mapZero (P : Program) (T : TypeId) : Option Value := match P.underlying T with
 | some (.map _ et) => zeroOf P et
 | _ => none
theorem q9n {P : Program} {T : TypeId} {kk : Option IntKind} (h : mapKey P T = some kk) : ∃ kt et, P.underlying T = some (.map kt et) ∧ keyKind P kt = some kk ∧ mapZero P T = zeroOf P et := by
 unfold mapKey at h
 split at h
 · exact ⟨_, _, by assumption, h, by simp [mapZero, *]⟩
 cases h

def sameOpd : Operand → Operand → Bool
 | .tmp i, .tmp j => i == j
 | .const (.int k a), .const (.int k' b) => k == k' && a == b
 | _, _ => false
theorem z2K {x y : Operand} (h : sameOpd x y = true) : x = y := by
 unfold sameOpd at h
 split at h
 · simpa using h
 · simp only [Bool.and_eq_true, beq_iff_eq] at h; rw [h.1, h.2]
 cases h
def arrOf (P : Program) (T : TypeId) : Option (Ty × Nat) := match P.underlying T with
 | some (.array _ e) => match tyOf P 8 e, (P.info? T).bind fun i => i.zero.map (·.cells.toList) with
  | some .u8, some zs => if Ty.u8.size = 1 ∧ zs.all (fun v => Ty.u8.isZero [v]) = true then some (.u8, zs.length) else none
  | _, _ => none
 | _ => none
theorem z6W {P : Program} {T : TypeId} {t : Ty} {m : Nat} (h : arrOf P T = some (t, m)) : ∃ zs, ((P.info? T).bind fun i => i.zero.map (·.cells.toList)) = some zs ∧ t.size = 1 ∧ zs.all (fun v => t.isZero [v]) = true ∧ m = zs.length := by
 unfold arrOf at h
 split at h
 · split at h
   · split at h
     · rename_i hc
       cases h
       exact ⟨_, by assumption, hc.1, hc.2, rfl⟩
     cases h
   cases h
 cases h
def compOp (P : Program) : Op → Option IOp
 | .move x => some (.mov x)
 | .assign x => some (.mov x)
 | .pick c x y => some (.pick c x y)
 | .nilCheck x => some (.nil x)
 | .alloc T => match arrOf P T with
  | some (t, m) => some (.arr t m)
  | none => ((P.info? T).bind fun i => i.zero.map (·.cells.toList)).map (.new T ·)
 | .box T x => some (.box T x)
 | .load t x => (aggOf P t).map (.ld · x)
 | .store t x y => ((P.info? t).map (·.size)).map (.st · x y)
 | .binOp op t x y _ => match structK P t with
  | some ks => match op with
   | .eql => some (.eqs false ks x y)
   | .neq => some (.eqs true ks x y)
   | _ => none
  | none => some (.bin op (eqK P t) x y)
 | .unOp op _ x => some (.un op x)
 | .convert s d x => match P.underlying s, P.underlying d with
  | some _, some (.int k) => some (.toInt k x)
  | some (.slice e), some .string => match P.underlying e with
   | some (.int .u8) => some (.toStr true x)
   | _ => none
  | some .string, some .string => some (.toStr false x)
  | some .string, some (.slice e) => match P.underlying e with
   | some (.int .u8) => some (.toB x)
   | _ => none
  | _, _ => none
 | .fieldAddr t x f => match fieldOf P t f with
  | some (off, ft) => match (P.info? ft).map (·.size) with
   | some (_ + 1) => some (.fa off x)
   | _ => none
  | none => none
 | .field t x f => match fieldOf P t f with
  | some (off, ft) => (aggOf P ft).map (.fld off · x)
  | none => none
 | .indexAddr t x i => match P.underlying t with
  | some (.slice e) => ((P.info? e).map (·.size)).map (.ia · x i)
  | some (.array len e) => ((P.info? e).map (·.size)).map (.iaa len · x i)
  | _ => none
 | .index t x i => match P.underlying t with
  | some .string => some (.ixs x i)
  | _ => none
 | .extract x i => some (.ext i x)
 | .makeFunc (.func f) fi ca => some (.mkf f fi.toList ca.toList)
 | .makeInterface T x => if notIface P T then some (.mki T x) else none
 | .build t ps => match (P.info? t).bind (fun i => i.zero.map (·.cells.toList)), placesOf P t with
  | some zs, some pl => some (.bld zs pl ps.toList)
  | _, _ => none
 | .buildSlice t n ps => match P.underlying t with
  | some (.slice e) => match tyOf P 8 e, (P.info? e).map (·.size), zerosOf P e n with
   | some ty, some sz, some zs => some (.bsl ty n sz zs ps.toList)
   | _, _, _ => none
  | _ => none
 | .slice t x lo hi none => match P.underlying t with
  | some .string => some (.sl none x lo hi)
  | some (.slice e) => ((P.info? e).map (·.size)).map fun n => .sl (some n) x lo hi
  | some (.array m e) => ((P.info? e).map (·.size)).map fun n => .sla m n x lo hi
  | _ => none
 | .slice t x lo (some hi) (some mx) => match P.underlying t with
  | some (.slice e) => ((P.info? e).map (·.size)).map fun n => .sl3 n (lo.isNone && sameOpd hi mx) x lo hi mx
  | _ => none
 | .makeSlice t x y => match P.underlying t with
  | some (.slice e) => match P.info? e, tyOf P 8 e with
   | some i, some ty => match i.zero with
    | some z => if i.size = ty.size ∧ z.cells.size = ty.size ∧ 0 < ty.size ∧ ty.isZero z.cells.toList = true then some (.mks ty i.bytes x y) else none
    | none => none
   | _, _ => none
  | _ => none
 | .call c => match c.callee with
  | .value f => some (.call f c.args.toList)
  | .builtin .len => match c.args.toList, c.argTypes.toList with
   | [x], [t] => match P.underlying t with
    | some .string => some (.len true x)
    | some (.slice _) => some (.len false x)
    | some (.map _ _) => some (.mln x)
    | _ => none
   | _, _ => none
  | .builtin .append => match c.args.toList, c.argTypes.toList with
   | [x, y], [tS, tX] => match P.underlying tS, srcType P tX with
    | some (.slice e), some _ => match P.info? e, tyOf P 8 e with
     | some i, some ty => match i.zero with
      | some z => if i.size = ty.size ∧ z.cells.size = ty.size then some (.app ty i.bytes x y) else none
      | none => none
     | _, _ => none
    | _, _ => none
   | _, _ => none
  | .builtin .max => match c.args.toList with
   | [x, y] => some (.mxm true x y)
   | _ => none
  | .builtin .min => match c.args.toList with
   | [x, y] => some (.mxm false x y)
   | _ => none
  | _ => none
 | .typeAssert x _ T true => if notIface P T then (zeroOf P T).map (.ta T · x) else none
 | .panic x => some (.pan x)
 | .makeMap T none => (mapKey P T).map .mkm
 | .mapUpdate T m k x => (mapKey P T).map (.mup · m k x)
 | .insert T m k x => (mapKey P T).map (.mup · m k x)
 | .lookup T m k ok => match mapKey P T, mapZero P T with
  | some kk, some z => some (.mlk kk z ok m k)
  | _, _ => none
 | _ => none

inductive Res where
 | val (p : Prop) (s : SV)
 | amb (E : Prop) (s : Bool → SV)                            -- one of two; if true, E
 | new (p : Prop) (s : SV) (Hk : List SObj) (so : SObj)      -- the memory is Hk ++ [so]
 | set (s : SV) (h : Nat) (so : SObj)
 | setp (p : Prop) (s : SV) (h : Nat) (so : SObj)
 | call (f : FuncId) (args : List SV)
 | pan (s : SV)
 | zld (ag : Option Nat) (b off : Nat)                       -- what lies at an address
 | zst (n : Nat) (b off : Nat) (y : SV)
 | yld (l : Nat) (args : List SV)                            -- a round of a loop over a function
 | none

def evLd (H : List SObj) (ag : Option Nat) : SV → Res
 | .ptr h off => match H[h]? with
  | some (.cells _ cs) => match pick cs off ag with
   | some s => .val True s
   | .none => .none
  | _ => .none
 | .iptr t x k => match pick (t.cells x) k ag with
  | some s => .val True s
  | .none => .none
 | .rptr h t i k => match H[h]? with
  | some (.row t' xs) => if t' = t then (match pick (t'.cells (xs.getD i t'.dflt)) k ag with
   | some s => .val (i < xs.length) s
   | .none => .none) else .none
  | _ => .none
 | .raw (.pointer (some ⟨b, off, none⟩)) => .zld ag b off
 | _ => .none

def evSt (H : List SObj) (n : Nat) (y : SV) : SV → Res
 | .ptr h off => match H[h]?, y.flat with
  | some (.cells T cs), some ds => if ds.length = n ∧ off + n ≤ cs.length ∧ ones ds = true then .set .any h (.cells T (splice cs off ds)) else .none
  | _, _ => .none
 | .rptr h t i k => match H[h]?, y.flat with
  | some (.row t' xs), some ds => if t' = t ∧ ds.length = n ∧ k + n ≤ t'.size ∧ ones ds = true then (match t'.rd (splice (t'.cells (xs.getD i t'.dflt)) k ds) with
   | some (d, p) => .setp (i < xs.length ∧ p) .any h (.row t' (xs.set i d))
   | .none => .none) else .none
  | _, _ => .none
 | .raw (.pointer (some ⟨b, off, none⟩)) => .zst n b off y
 | _ => .none

def eqOk (k : Nat) : SV → Bool
 | .raw (.pointer .none) => k == 1
 | .raw .nilFunc => k == 2
 | .raw (.bool _) => k == 3
 | _ => false
def evNil (op : BinOp) (x y : SV) : Res := match y with
 | .raw (.slice none 0 0) => match x with
  | .raw (.slice none 0 0) => (match op with
   | .eql => .val True (.raw (.bool true))
   | .neq => .val True (.raw (.bool false))
   | _ => .none)
  | _ => match x.emp with
   | some E => (match op with
    | .eql => .amb E fun b => .raw (.bool b)
    | .neq => .amb E fun b => .raw (.bool !b)
    | _ => .none)
   | .none => .none
 | _ => .none
def evEq (op : BinOp) (k : Nat) (x y : SV) : Res := if k = 5 then evNil op x y else
 match eqV x y with
 | some r => if eqOk k y then (match op with
  | .eql => .val True (.raw (.bool r))
  | .neq => .val True (.raw (.bool !r))
  | _ => .none) else .none
 | .none => .none
def evBin (op : BinOp) (k : Nat) : SV → SV → Res
 | .raw a, .raw b => match binV op a b with
  | some (v, p) => .val p (.raw v)
  | .none => evEq op k (.raw a) (.raw b)
 | x, y => evEq op k x y
def lenOk (k : Bool) : SV → Bool
 | .raw (.string _) => k
 | _ => !k
def slOk : Option Nat → SV → Bool
 | .none, .raw (.string _) => true
 | some n, .isl t _ => n == t.size
 | some n, .bld _ t _ => n == t.size
 | some n, .osl _ t _ _ => n == t.size
 | some _, .raw (.slice .none 0 0) => true
 | _, _ => false

def IOp.ev (H : List SObj) (ev : Operand → SV) : IOp → Res
 | .mov x => .val True (ev x)
 | .pick c x y => match ev c with
  | .raw (.bool b) => .val True (if b then ev x else ev y)
  | _ => .none
 | .nil x => if (ev x).nonNil then .val True (ev x) else .none
 | .new T zs => .new True (.ptr H.length 0) H (.cells T (rawL zs))
 | .arr t m => .new True (.rptr H.length t 0 0) H (.row t (List.replicate m t.dflt))
 | .sla m sz x lo hi => match bndV ev lo, bndV ev hi with
  | some a, some b => match slA sz (loOf a).toNat ((hiOf m b).toNat - (loOf a).toNat) (ev x) with
   | some s => .val (0 ≤ loOf a ∧ loOf a ≤ hiOf m b ∧ hiOf m b ≤ (m : Int)) s
   | .none => .none
  | _, _ => .none
 | .box T x => match (ev x).flat with
  | some cs => .new True (.ptr H.length 0) H (.cells T cs)
  | .none => .none
 | .ld ag x => evLd H ag (ev x)
 | .ldS ag x => evLd H ag (ev x)
 | .st n x y => evSt H n (ev y) (ev x)
 | .bin op k x y => evBin op k (ev x) (ev y)
 | .eqs neg ks x y => match ev x, ev y with
  | .agg l, .agg l' => match eqRs ks l l' with
   | some r => .val True (.raw (.bool (if neg then !r else r)))
   | .none => .none
  | _, _ => .none
 | .un op x => match ev x with
  | .raw a => match unV op a with
   | some v => .val True (.raw v)
   | .none => .none
  | _ => .none
 | .toInt k x => match ev x with
  | .raw (.int _ n) => .val True (.raw (.int k (k.wrap n)))
  | _ => .none
 | .toStr true x => match ev x with
  | .isl .u8 xs => .val True (.raw (.string (strOf xs)))
  | .raw (.slice Option.none 0 0) => .val True (.raw (.string (strOf [])))
  | .bld h .u8 n => match H[h]? with
   | some (.row .u8 xs) => .val (n ≤ xs.length ∧ xs.length ≤ 1125899906842624) (.raw (.string (strOf (xs.take n))))
   | _ => .none
  | .osl h .u8 off n => match H[h]? with
   | some (.row .u8 xs) => .val (off + n ≤ xs.length ∧ xs.length ≤ 1125899906842624) (.raw (.string (strOf ((xs.drop off).take n))))
   | _ => .none
  | _ => .none
 | .toStr false x => match ev x with
  | .raw (.string s) => .val True (.raw (.string s))
  | _ => .none
 | .fa off x => match (ev x).add off with
  | some s => .val True s
  | .none => .none
 | .fld off ag x => match ev x with
  | .agg l => match Sx.pick l off ag with
   | some s => .val True s
   | .none => .none
  | _ => .none
 | .ia sz x i => match ev i with
  | .raw (.int _ n) => match (ev x).wk with
   | .isl t xs => if sz = t.size then .val (0 ≤ n ∧ n.toNat < xs.length) (.iptr t (xs.getD n.toNat t.dflt) 0) else .none
   | .bld h t m => if sz = t.size then .val (0 ≤ n ∧ n.toNat < m) (.rptr h t (0 + n.toNat) 0) else .none
   | .osl h t off m => if sz = t.size then .val (0 ≤ n ∧ n.toNat < m) (.rptr h t (off + n.toNat) 0) else .none
   | .raw (.slice (some ⟨b, off, none⟩) m _) => .val (0 ≤ n ∧ n.toNat < m) (.raw (.pointer (some ⟨b, off + n.toNat * sz, none⟩)))
   | _ => .none
  | _ => .none
 | .iaa m sz x i => match ev i with
  | .raw (.int _ n) => match addA sz n.toNat (ev x) with
   | some s => .val (0 ≤ n ∧ n.toNat < m) s
   | .none => .none
  | _ => .none
 | .ta T z x => match ev x with
  | .iface T' y => if T' = T then .val True (.tup [y, .raw (.bool true)]) else .val True (.tup [.ofV z, .raw (.bool false)])
  | .raw .nilIface => .val True (.tup [.ofV z, .raw (.bool false)])
  | _ => .none
 | .ixs x i => match ev x, ev i with
  | .raw (.string s), .raw (.int _ n) => .val (0 ≤ n ∧ n.toNat < s.size) (.raw (.int .u8 (s.data.toList.getD n.toNat 0).toNat))
  | _, _ => .none
 | .len k x => match (ev x).wk.len with
  | some n => if lenOk k (ev x).wk then .val True (.raw (.int .i64 n)) else .none
  | .none => .none
 | .ext i x => match ev x with
  | .tup l => match l[i]? with
   | some s => .val True s
   | .none => .none
  | _ => .none
 | .mkf f fi ca => .val True (.fn f (fi.map ev) (ca.map ev))
 | .mki T x => .val True (.iface T (ev x))
 | .bld zs pl ps => match fillS pl.fn (rawL zs) (ps.map fun p => (p.1, ev p.2)) with
  | some cs => .val True (.agg cs)
  | .none => .none
 | .bsl t n sz zs ps => match fillS (PlaceK.arr sz).fn (rawL zs) (ps.map fun p => (p.1, ev p.2)) with
  | some cs => match rdL t n cs with
   | some (xs, p) => .new p (.bld H.length t n) H (.row t xs)
   | .none => .none
  | .none => .none
 | .app t by_ x y => match ev x with
  | .fsl t' xs => match srcS t' H (ev y) with
   | some (ys, p) => if t' = t then .val (p ∧ xs.length + ys.length ≤ 1125899906842624 ∧ (xs.length + ys.length) * by_ ≤ 140737488355328) (.isl t' (xs ++ ys)) else .none
   | _ => .none
  | _ => match dstOf t H (ev x), srcS t H (ev y) with
   | some (Hk, xs, n), some (ys, p) => .new (n = xs.length ∧ p ∧ xs.length + ys.length ≤ 1125899906842624 ∧ (xs.length + ys.length) * by_ ≤ 140737488355328) (.bld H.length t (xs.length + ys.length)) Hk (.row t (xs ++ ys))
   | _, _ => .none
 | .sl k x lo hi => match bndV ev lo, bndV ev hi with
  | some a, some b => match sliceTo (loOf a).toNat (hiOf (lenOfS (ev x)) b).toNat (ev x) with
   | some s => if slOk k (ev x) then .val (0 ≤ loOf a ∧ loOf a ≤ hiOf (lenOfS (ev x)) b ∧ hiOf (lenOfS (ev x)) b ≤ (lenOfS (ev x) : Int)) s else .none
   | .none => .none
  | _, _ => .none
 | .call f args => match ev f with
  | .fn g fi ca => .call g (fi ++ args.map (fun x => (ev x).wk) ++ ca)
  | .raw v => match isYld v with
   | some l => .yld l (args.map (fun x => (ev x).wk))
   | _ => match isFn v with
    | some (g, fi, ca) => .call g (rawL fi ++ args.map (fun x => (ev x).wk) ++ rawL ca)
    | _ => .none
  | _ => .none
 | .mxm b x y => match ev x, ev y with
  | .raw (.int k m), .raw (.int _ n) => .val True (.raw (.int k (mxV b m n)))
  | _, _ => .none
 | .pan x => match ev x with
  | .iface T s => .pan (.iface T s)
  | _ => .none
 | .mkm kk => .new True (.mp H.length) H (.map kk [] [])
 | .mup kk m k x => match ev m, ev k with
  | .mp h, .raw kv => match (ev x).toV, H[h]? with
   | some xv, some (.map kk' ks vs) => if kk' = kk ∧ keyIs kk kv = true then .set .any h (.map kk (mput ks vs kv xv).1 (mput ks vs kv xv).2) else .none
   | _, _ => .none
  | _, _ => .none
 | .mlk kk z ok m k => match mapOf H (ev m), ev k with
  | some (kk', ks, vs), .raw kv => if kk' = kk ∧ keyIs kk kv = true then .val True (mres ok (mget ks vs z kv)) else .none
  | _, _ => .none
 | .mln x => match mapOf H (ev x) with
  | some (_, ks, _) => .val True (.raw (.int .i64 ks.length))
  | .none => .none
 | .mks t by_ x y => match ev x, ev y with
  | .raw (.int _ n), .raw (.int _ c) => .new (0 ≤ n ∧ n ≤ c ∧ c.toNat * by_ ≤ 140737488355328 ∧ c ≤ 1125899906842624) (.bld H.length t n.toNat) H (.row t (List.replicate n.toNat t.dflt))
  | _, _ => .none
 | .toB x => match ev x with
  | .raw (.string s) => .new True (.bld H.length .u8 s.size) H (.row .u8 (bytesOf s))
  | _ => .none
 | .sl3 k f x lo hi mx => match bndV ev lo, bndV ev (some hi), bndV ev (some mx) with
  | some a, some (some b), some (some m) => match sliceTo (loOf a).toNat b.toNat (ev x) with
   | some s => if slOk (some k) (ev x) then .val (0 ≤ loOf a ∧ loOf a ≤ b ∧ b ≤ m ∧ m ≤ (lenOfS (ev x) : Int)) (fullS (decide (b = m)) s) else .none
   | .none => .none
  | _, _, _ => .none
end Go.Sx
set_option linter.unusedSectionVars false
namespace Go.Sx
open Go

variable [Ghost] {P : Program} {o : Oper} {ev : Operand → SV} {H : List SObj} {K : Out → List SObj → Prop}

def Res.to (P : Program) (H : List SObj) (K : Out → List SObj → Prop) : Res → Prop
 | .val p s => p ∧ K (.ret s) H
 | .amb E s => ∀ b : Bool, (b = true → E) → K (.ret (s b)) H
 | .new p s Hk so => p ∧ K (.ret s) (Hk ++ [so])
 | .set s h so => K (.ret s) (H.set h so)
 | .setp p s h so => p ∧ K (.ret s) (H.set h so)
 | .call f args => enters P f = true ∧ VCallG P f args H K
 | .pan s => K (.pan s) H
 | .zld ag b off => ∀ E C, Wd C H → Ghost.inv E C H → ∃ s, ZLd C ag b off s ∧ K (.ret s) H
 | .zst n b off y => ∃ ds, y.flat = some ds ∧ ds.length = n ∧ ones ds = true ∧ (∀ E C us, Wd C H → Ghost.inv E C H → SV.denL C ds us → ZSt E C H b off us) ∧ K (.ret .any) H
 | .yld l args => VYld P l args H K
 | .none => False

theorem z7i {t : TypeId} {x : Operand} {ag : Option Nat} (hop : o.op = .load t x) (ha : aggOf P t = some ag) (h : (evLd H ag (ev x)).to P H K) : OpV P o ev H K := by
 generalize he : ev x = s at h
 unfold evLd at h
 split at h
 · split at h
   · split at h
     · exact q9z hop ha he (by assumption) (by assumption) h.2
     exact h.elim
   exact h.elim
 · split at h
   · exact q8z hop ha he (by assumption) h.2
   exact h.elim
 · split at h
   · split at h
     · rename_i e
       split at h
       · rename_i hp
         subst e
         obtain ⟨h1, h2⟩ := h
         refine q8w hop ha he (by assumption) ?_ hp h2
         rw [List.getD_eq_getElem?_getD, List.getElem?_eq_getElem h1]; rfl
       exact h.elim
     exact h.elim
   exact h.elim
 · exact j0I hop ha he h
 exact h.elim

theorem z6v {t : TypeId} {x y : Operand} {n : Nat} (hop : o.op = .store t x y) (ha : (P.info? t).map (·.size) = some n) (h : (evSt H n (ev y) (ev x)).to P H K) : OpV P o ev H K := by
 generalize he : ev x = s at h
 unfold evSt at h
 split at h
 · split at h
   · split at h
     · rename_i hc
       exact q7L hop ha he (by assumption) (by assumption) hc.1 hc.2.1 hc.2.2 h
     exact h.elim
   exact h.elim
 · split at h
   · split at h
     · rename_i hc
       split at h
       · obtain ⟨rfl, hc1, hc2, hc3⟩ := hc
         exact q6W hop ha he (by assumption) h.1.1 (by assumption) hc1 hc2 hc3 (by assumption) h.1.2 h.2
       exact h.elim
     exact h.elim
   exact h.elim
 · obtain ⟨ds, hf, hn, h1, hz, hk⟩ := h
   exact j0D hop ha he hf hn h1 hz hk
 exact h.elim

theorem z8M {t : TypeId} {s : SV} (h : eqOk (eqK P t) s = true) : eqKind P t s = true := by
 have e1 : eqK P t = 1 → kPtr P t = true := fun e => by unfold eqK at e; split at e; assumption; split at e; cases e; split at e; cases e; split at e <;> cases e
 have e2 : eqK P t = 2 → kFunc P t = true := fun e => by unfold eqK at e; split at e; cases e; split at e; assumption; split at e; cases e; split at e <;> cases e
 have e3 : eqK P t = 3 → kBool P t = true := fun e => by unfold eqK at e; split at e; cases e; split at e; cases e; split at e; assumption; split at e <;> cases e
 unfold eqOk at h
 split at h
 · exact e1 (by simpa using h)
 · exact e2 (by simpa using h)
 · exact e3 (by simpa using h)
 cases h

theorem z1V {op : BinOp} {t t' : TypeId} {x y : Operand} (hop : o.op = .binOp op t x y t') (h : (evEq op (eqK P t) (ev x) (ev y)).to P H K) : OpV P o ev H K := by
 unfold evEq at h
 split at h
 · rename_i hk5
   have hs : kSlice P t = true := by unfold eqK at hk5; split at hk5; cases hk5; split at hk5; cases hk5; split at hk5; cases hk5; split at hk5; assumption; cases hk5
   unfold evNil at h
   split at h
   · rename_i hy
     split at h
     · rename_i hx
       split at h
       · exact q7l hop (.inl rfl) hs hx hy (by simpa using h.2)
       · exact q7l hop (.inr rfl) hs hx hy (by simpa using h.2)
       exact h.elim
     split at h
     · rename_i E hE
       split at h
       · exact z2B hop (.inl rfl) hs hE hy (fun b hb => by simpa using h b hb)
       · exact z2B hop (.inr rfl) hs hE hy (fun b hb => by simpa using h b hb)
       exact h.elim
     exact h.elim
   exact h.elim
 split at h
 · rename_i r hr
   split at h
   · rename_i hk
     split at h
     · exact z5E hop (.inl rfl) hr (z8M hk) (by simpa using h.2)
     · exact z5E hop (.inr rfl) hr (z8M hk) (by simpa using h.2)
     exact h.elim
   exact h.elim
 exact h.elim

theorem z5V {op : BinOp} {t t' : TypeId} {x y : Operand} (hop : o.op = .binOp op t x y t') (h : (evBin op (eqK P t) (ev x) (ev y)).to P H K) : OpV P o ev H K := by
 generalize hx : ev x = sx at h
 generalize hy : ev y = sy at h
 unfold evBin at h
 split at h
 · split at h
   · exact j0u hop hx hy (by assumption) h.1 h.2
   exact z1V hop (by rw [hx, hy]; exact h)
 exact z1V hop (by rw [hx, hy]; exact h)

theorem OpV.wk (h : OpV P o (fun y => (ev y).wk) H K) : OpV P o ev H K :=
 fun E C r n a next Q hw hg hv h1 h2 => h E C r n a next Q hw hg (fun x hx => z6X _ _ _ (hv x hx)) h1 h2
theorem j2A {s : SV} {v : Value} (h : s = .raw v) : s.wk = .raw v := by rw [h]; rfl
theorem q9Z {c : Call} {t : TypeId} {x : Operand} {k : Bool} (hop : o.op = .call c) (hc : c.callee = .builtin .len) (ha : c.args = #[x]) (hty : c.argTypes = #[t]) (hk : (k = true ∧ P.underlying t = some .string) ∨ (k = false ∧ ∃ e, P.underlying t = some (.slice e)))
 (h : ((IOp.len k x).ev H ev).to P H K) : OpV P o ev H K := by
 refine OpV.wk ?_
 simp only [IOp.ev] at h
 split at h
 · rename_i n hn
   split at h
   · rename_i hl
     refine j1c hop hc ha hty hn ?_ h.2
     unfold lenKind
     unfold lenOk at hl
     split at hl
     · rename_i s hs
       rcases hk with ⟨_, hu⟩ | ⟨rfl, _⟩
       · rw [hs]; simp [hu]
       cases hl
     rename_i hs
     rcases hk with ⟨rfl, _⟩ | ⟨_, e, hu⟩
     · cases hl
     split
     · exact absurd (by assumption) (hs _)
     simp [hu]
   exact h.elim
 exact h.elim

theorem z8t {t e : TypeId} {x i : Operand} {sz : Nat} (hop : o.op = .indexAddr t x i) (ht : P.underlying t = some (.slice e)) (hs : (P.info? e).map (·.size) = some sz) (h : ((IOp.ia sz x i).ev H ev).to P H K) : OpV P o ev H K := by
 refine OpV.wk ?_
 simp only [IOp.ev] at h
 split at h
 · rename_i n hi
   have hi := j2A hi
   split at h
   · split at h
     · rename_i hz; subst hz; exact q5j hop ht hs (by assumption) hi h.1.1 h.1.2 (fun _ => h.2)
     exact h.elim
   · split at h
     · rename_i hz; subst hz; exact q2W hop ht hs (.inr ⟨by assumption, rfl⟩) hi h.1.1 h.1.2 h.2
     exact h.elim
   · split at h
     · rename_i hz; subst hz; exact q2W hop ht hs (.inl (by assumption)) hi h.1.1 h.1.2 h.2
     exact h.elim
   · exact q5p hop ht hs (by assumption) hi h.1.1 h.1.2 h.2
   exact h.elim
 exact h.elim

theorem z2x {T : TypeId} {x : Operand} {lo hi : Option Operand} {k : Option Nat} (hop : o.op = .slice T x lo hi none) (hk : (k = none ∧ P.underlying T = some .string) ∨ (∃ n e, k = some n ∧ P.underlying T = some (.slice e) ∧ (P.info? e).map (·.size) = some n))
 (h : ((IOp.sl k x lo hi).ev H ev).to P H K) : OpV P o ev H K := by
 simp only [IOp.ev] at h
 split at h
 · split at h
   · split at h
     · rename_i hs hok
       refine z5U hop ?_ (by assumption) (by assumption) h.1.1 h.1.2.1 h.1.2.2 (by assumption) h.2
       unfold slOk at hok
       unfold sliceKind
       split at hok
       · rename_i e1 e2
         rcases hk with ⟨_, hu⟩ | ⟨n, e, he, _⟩
         · rw [e2]; simp [hu]
         cases he
       · rename_i e2
         rcases hk with ⟨he, _⟩ | ⟨n, e, he, hu, hn⟩
         · cases he
         cases he; rw [e2]; simp only [hu]; rw [beq_iff_eq] at hok ⊢; rw [hn, hok]
       · rename_i e2
         rcases hk with ⟨he, _⟩ | ⟨n, e, he, hu, hn⟩
         · cases he
         cases he; rw [e2]; simp only [hu]; rw [beq_iff_eq] at hok ⊢; rw [hn, hok]
       · rename_i e2
         rcases hk with ⟨he, _⟩ | ⟨n, e, he, hu, hn⟩
         · cases he
         cases he; rw [e2]; simp only [hu]; rw [beq_iff_eq] at hok ⊢; rw [hn, hok]
       · rename_i e2
         rcases hk with ⟨he, _⟩ | ⟨n, e, he, hu, hn⟩
         · cases he
         cases he; rw [e2]; simp only [hu]
         cases hi : P.info? e with
         | none => simp [hi] at hn
         | some i => rfl
       cases hok
     exact h.elim
   exact h.elim
 exact h.elim
theorem z5t {T e : TypeId} {x hi mx : Operand} {lo : Option Operand} {n : Nat} {f : Bool} (hop : o.op = .slice T x lo (some hi) (some mx)) (hu : P.underlying T = some (.slice e)) (hn : (P.info? e).map (·.size) = some n) (_ : f = true → hi = mx)
 (h : ((IOp.sl3 n f x lo hi mx).ev H ev).to P H K) : OpV P o ev H K := by
 simp only [IOp.ev] at h
 split at h
 · rename_i a b m h1 h2 h3
   split at h
   · split at h
     · rename_i hs hok
       have hkind : sliceKind P T (ev x) = true ∧ ∀ str, ev x ≠ .raw (.string str) := by
        unfold slOk at hok
        unfold sliceKind
        split at hok
        · rename_i e1 e2; cases e1
        · rename_i e1 e2; cases e1; rw [e2]; refine ⟨?_, fun _ h => by cases h⟩; simp only [hu]; rw [beq_iff_eq] at hok ⊢; rw [hn, hok]
        · rename_i e1 e2; cases e1; rw [e2]; refine ⟨?_, fun _ h => by cases h⟩; simp only [hu]; rw [beq_iff_eq] at hok ⊢; rw [hn, hok]
        · rename_i e1 e2; cases e1; rw [e2]; refine ⟨?_, fun _ h => by cases h⟩; simp only [hu]; rw [beq_iff_eq] at hok ⊢; rw [hn, hok]
        · rename_i e1 e2; rw [e2]; refine ⟨?_, fun _ h => by cases h⟩; simp only [hu]
          cases hi : P.info? e with
          | none => simp [hi] at hn
          | some i => rfl
        cases hok
       exact z2Y hop hkind.1 h1 h2 h3 h.1.1 h.1.2.1 h.1.2.2.1 h.1.2.2.2 (fun hft => of_decide_eq_true hft) hkind.2 (by assumption) h.2
     exact h.elim
   exact h.elim
 exact h.elim
end Go.Sx
set_option linter.unusedSectionVars false
namespace Go.Sx
open Go

variable [Ghost] {P : Program} {o : Oper} {ev : Operand → SV} {H : List SObj} {K : Out → List SObj → Prop}

theorem q8Y {T : TypeId} {m k x : Operand} {kk : Option IntKind} (hop : o.op = .mapUpdate T m k x ∨ o.op = .insert T m k x) (hkk : mapKey P T = some kk) (h : ((IOp.mup kk m k x).ev H ev).to P H K) : OpV P o ev H K := by
 obtain ⟨kt, et, hT, hkt, _⟩ := q9n hkk
 simp only [IOp.ev] at h
 split at h
 · split at h
   · split at h
     · rename_i hc2
       obtain ⟨rfl, hki⟩ := hc2
       exact q8J hop hT hkt (by assumption) (by assumption) hki (by assumption) (by assumption) h
     exact h.elim
   exact h.elim
 exact h.elim

theorem q3g {i : IOp} (hc : compOp P o.op = some i) (h : (i.ev H ev).to P H K) : OpV P o ev H K := by
 cases hop : o.op with
 | move x => rw [hop] at hc; cases hc; exact z2s (.inl hop) h.2
 | assign x => rw [hop] at hc; cases hc; exact z2s (.inr hop) h.2
 | pick c x y =>
  rw [hop] at hc; cases hc
  simp only [IOp.ev] at h
  split at h
  · exact z8b hop (by assumption) h.2
  exact h.elim
 | nilCheck x =>
  rw [hop] at hc; cases hc
  simp only [IOp.ev] at h
  split at h
  · exact q9W hop (by assumption) h.2
  exact h.elim
 | alloc T =>
  rw [hop] at hc
  simp only [compOp] at hc
  split at hc
  · rename_i t m ha
    cases hc
    obtain ⟨zs, hz, h1, hd, rfl⟩ := z6W ha
    exact j0J hop hz h1 hd h.2
  simp only [Option.map_eq_some_iff] at hc
  obtain ⟨zs, hz, rfl⟩ := hc
  exact z4e hop hz h.2
 | box T x =>
  rw [hop] at hc; cases hc
  simp only [IOp.ev] at h
  split at h
  · exact j1v hop (by assumption) h.2
  exact h.elim
 | load t x =>
  rw [hop] at hc
  simp only [compOp, Option.map_eq_some_iff] at hc
  obtain ⟨ag, ha, rfl⟩ := hc
  exact z7i hop ha h
 | store t x y =>
  rw [hop] at hc
  simp only [compOp, Option.map_eq_some_iff] at hc
  obtain ⟨n, ⟨i, hi, rfl⟩, rfl⟩ := hc
  exact z6v hop (by simp [hi]) h
 | binOp op t x y t' =>
  rw [hop] at hc
  simp only [compOp] at hc
  split at hc
  · rename_i ks hs
    split at hc
    · cases hc
      simp only [IOp.ev] at h
      split at h
      · split at h
        · exact z5J hop (.inl rfl) hs (by assumption) (by assumption) (by assumption) (by simpa using h.2)
        exact h.elim
      exact h.elim
    · cases hc
      simp only [IOp.ev] at h
      split at h
      · split at h
        · exact z5J hop (.inr rfl) hs (by assumption) (by assumption) (by assumption) (by simpa using h.2)
        exact h.elim
      exact h.elim
    cases hc
  cases hc; exact z5V hop h
 | unOp op t x =>
  rw [hop] at hc; cases hc
  simp only [IOp.ev] at h
  split at h
  · split at h
    · exact j2z hop (by assumption) (by assumption) h.2
    exact h.elim
  exact h.elim
 | convert s d x =>
  rw [hop] at hc
  simp only [compOp] at hc
  split at hc
  · cases hc
    simp only [IOp.ev] at h
    split at h
    · exact q8V hop (by assumption) (by assumption) (by assumption) h.2
    exact h.elim
  · split at hc
    · cases hc
      simp only [IOp.ev] at h
      split at h
      · exact q7b hop (by assumption) (by assumption) (by assumption) (by assumption) h.2
      · exact q6k hop (by assumption) (by assumption) (by assumption) (by assumption) h.2
      · split at h
        · exact q6p hop (by assumption) (by assumption) (by assumption) (by assumption) (by assumption) h.1.1 h.1.2 h.2
        exact h.elim
      · split at h
        · exact q6q hop (by assumption) (by assumption) (by assumption) (by assumption) (by assumption) h.1.1 h.1.2 h.2
        exact h.elim
      exact h.elim
    cases hc
  · cases hc
    simp only [IOp.ev] at h
    split at h
    · exact q9k hop (by assumption) (by assumption) (by assumption) h.2
    exact h.elim
  · split at hc
    · cases hc
      simp only [IOp.ev] at h
      split at h
      · exact q9t hop (by assumption) (by assumption) (by assumption) (by assumption) h.2
      exact h.elim
    cases hc
  cases hc
 | fieldAddr t x f =>
  rw [hop] at hc
  simp only [compOp] at hc
  split at hc
  · split at hc
    · cases hc
      simp only [IOp.ev] at h
      split at h
      · exact q8i hop (by assumption) (by assumption) (by assumption) h.2
      exact h.elim
    cases hc
  cases hc
 | field t x f =>
  rw [hop] at hc
  simp only [compOp] at hc
  split at hc
  · simp only [Option.map_eq_some_iff] at hc
    obtain ⟨ag, ha, rfl⟩ := hc
    simp only [IOp.ev] at h
    split at h
    · split at h
      · exact z6n hop (by assumption) ha (by assumption) (by assumption) h.2
      exact h.elim
    exact h.elim
  cases hc
 | indexAddr t x ix =>
  rw [hop] at hc
  simp only [compOp] at hc
  split at hc
  · simp only [Option.map_eq_some_iff] at hc
    obtain ⟨n, ⟨i, hi, rfl⟩, rfl⟩ := hc
    exact z8t hop (by assumption) (by simp [hi]) h
  · simp only [Option.map_eq_some_iff] at hc
    obtain ⟨n, ⟨i, hi, rfl⟩, rfl⟩ := hc
    simp only [IOp.ev] at h
    split at h
    · split at h
      · exact opv_indexAddr_arr' (sz := i.size) hop (by assumption) (by simp [hi]) (by assumption) (by assumption) h.1.1 h.1.2 h.2
      exact h.elim
    exact h.elim
  cases hc
 | typeAssert x xT T ok =>
  rw [hop] at hc
  cases ok with
  | false => simp [compOp] at hc
  | true =>
   simp only [compOp] at hc
   split at hc
   · rename_i hn
     simp only [Option.map_eq_some_iff] at hc
     obtain ⟨z, hz, rfl⟩ := hc
     simp only [IOp.ev] at h
     split at h
     · split at h
       · rename_i T' y hx e; subst e; exact z3f hop hn hx h.2
       rename_i T' y hx e; exact q9J hop hn hz (.inr ⟨T', y, e, hx⟩) h.2
     · rename_i hx; exact q9J hop hn hz (.inl hx) h.2
     exact h.elim
   cases hc
 | index t x ix =>
  rw [hop] at hc
  simp only [compOp] at hc
  split at hc
  · cases hc
    simp only [IOp.ev] at h
    split at h
    · exact q8A hop (by assumption) (by assumption) (by assumption) h.1.1 h.1.2 h.2
    exact h.elim
  cases hc
 | extract x n =>
  rw [hop] at hc; cases hc
  simp only [IOp.ev] at h
  split at h
  · split at h
    · exact z0w hop (by assumption) (by assumption) h.2
    exact h.elim
  exact h.elim
 | makeFunc fn fi ca =>
  rw [hop] at hc
  cases fn with
  | func f => cases hc; exact q9c hop h.2
  | _ => simp [compOp] at hc
 | makeInterface T x =>
  rw [hop] at hc
  simp only [compOp] at hc
  split at hc
  · cases hc; exact q4Z hop (by assumption) h.2
  cases hc
 | build t ps =>
  rw [hop] at hc
  simp only [compOp] at hc
  split at hc
  · cases hc
    simp only [IOp.ev] at h
    split at h
    · exact z3Z hop (by assumption) (by assumption) (by assumption) h.2
    exact h.elim
  cases hc
 | buildSlice t n ps =>
  rw [hop] at hc
  simp only [compOp] at hc
  split at hc
  · split at hc
    · cases hc
      simp only [IOp.ev] at h
      split at h
      · split at h
        · exact q6Z hop (by assumption) (by assumption) (by assumption) (by assumption) (by assumption) h.1 h.2
        exact h.elim
      exact h.elim
    cases hc
  cases hc
 | slice t x lo hi mx =>
  rw [hop] at hc
  cases mx with
  | some m =>
   cases hi with
   | none => simp [compOp] at hc
   | some hi =>
    simp only [compOp] at hc
    split at hc
    · simp only [Option.map_eq_some_iff] at hc
      obtain ⟨n, ⟨i, hi, rfl⟩, rfl⟩ := hc
      exact z5t hop (by assumption) (by simp [hi]) (fun hf => z2K (by simp only [Bool.and_eq_true] at hf; exact hf.2)) h
    cases hc
  | none =>
   simp only [compOp] at hc
   split at hc
   · cases hc; exact z2x hop (.inl ⟨rfl, by assumption⟩) h
   · simp only [Option.map_eq_some_iff] at hc
     obtain ⟨n, ⟨i, hi, rfl⟩, rfl⟩ := hc
     exact z2x hop (.inr ⟨_, _, rfl, by assumption, by simp [hi]⟩) h
   · simp only [Option.map_eq_some_iff] at hc
     obtain ⟨n, ⟨i, hi, rfl⟩, rfl⟩ := hc
     simp only [IOp.ev] at h
     split at h
     · split at h
       · exact z2M (sz := i.size) hop (by assumption) (by simp [hi]) (by assumption) (by assumption) h.1.1 h.1.2.1 h.1.2.2 (by assumption) h.2
       exact h.elim
     exact h.elim
   cases hc
 | panic x =>
  rw [hop] at hc; cases hc
  simp only [IOp.ev] at h
  split at h
  · exact z4L hop (by assumption) h
  exact h.elim
 | call c =>
  rw [hop] at hc
  simp only [compOp] at hc
  split at hc
  · cases hc
    simp only [IOp.ev] at h
    split at h
    · rename_i f args c g fi ca hg
      refine OpV.weaken (ev' := fun x => (ev x).wk) ?_ (fun x => z6X _)
      exact z7d hop (by assumption) (by simp only [hg]; rfl) h.1 h.2
    · rename_i v hg
      split at h
      · rename_i hy
        refine OpV.weaken (ev' := fun x => (ev x).wk) ?_ (fun x => z6X _)
        exact j0j hop (by assumption) (by simp only [hg]; rfl) hy h
      split at h
      · rename_i hy
        refine OpV.weaken (ev' := fun x => (ev x).wk) ?_ (fun x => z6X _)
        exact z5q hop (by assumption) (by simp only [hg]; rfl) hy h.1 h.2
      exact h.elim
    exact h.elim
  · split at hc
    · rename_i x t hargs htys
      have ha : c.args = #[x] := by rw [← Array.toList_inj]; exact hargs
      have hty : c.argTypes = #[t] := by rw [← Array.toList_inj]; exact htys
      split at hc
      · cases hc; exact q9Z hop (by assumption) ha hty (.inl ⟨rfl, by assumption⟩) h
      · cases hc; exact q9Z hop (by assumption) ha hty (.inr ⟨rfl, _, by assumption⟩) h
      · cases hc
        simp only [IOp.ev] at h
        split at h
        · exact z0o hop (by assumption) ha hty (by assumption) (by assumption) h.2
        exact h.elim
      cases hc
    cases hc
  · split at hc
    · rename_i x y tS tX hargs htys
      have ha : c.args = #[x, y] := by rw [← Array.toList_inj]; exact hargs
      have hty : c.argTypes = #[tS, tX] := by rw [← Array.toList_inj]; exact htys
      split at hc
      · split at hc
        · split at hc
          · split at hc
            · rename_i hz hsz
              cases hc
              simp only [IOp.ev] at h
              split at h
              · split at h
                · split at h
                  · rename_i e2
                    subst e2
                    exact q6V hop (by assumption) ha hty (by assumption) (by assumption) (by assumption) hsz.1 (by assumption) (by assumption) (by assumption) h.1.1 h.1.2.1 h.1.2.2 h.2
                  exact h.elim
                exact h.elim
              split at h
              · exact z2V hop (by assumption) ha hty (by assumption) (by assumption) (by assumption) hsz.1 (by assumption) hsz.2 (by assumption) h.1.1 (by assumption) h.1.2.1 h.1.2.2.1 h.1.2.2.2 h.2
              exact h.elim
            cases hc
          cases hc
        cases hc
      cases hc
    cases hc
  · split at hc
    · rename_i x y hargs
      have ha : c.args = #[x, y] := by rw [← Array.toList_inj]; exact hargs
      cases hc
      simp only [IOp.ev] at h
      split at h
      · rename_i hx hy
        exact z8S (b := true) hop (by assumption) ha hx hy h.2
      exact h.elim
    cases hc
  · split at hc
    · rename_i x y hargs
      have ha : c.args = #[x, y] := by rw [← Array.toList_inj]; exact hargs
      cases hc
      simp only [IOp.ev] at h
      split at h
      · rename_i hx hy
        exact z8S (b := false) hop (by assumption) ha hx hy h.2
      exact h.elim
    cases hc
  cases hc
 | makeSlice T x y =>
  rw [hop] at hc
  simp only [compOp] at hc
  split at hc
  · split at hc
    · split at hc
      · split at hc
        · rename_i hz hcond
          cases hc
          simp only [IOp.ev] at h
          split at h
          · exact q8T hop (by assumption) (by assumption) hz hcond.1 hcond.2.1 hcond.2.2.1 (by assumption) (by assumption) h.1.1 h.1.2.1 h.1.2.2.1 h.1.2.2.2 hcond.2.2.2 h.2
          exact h.elim
        cases hc
      cases hc
    cases hc
  cases hc
 | makeMap T r =>
  rw [hop] at hc
  cases r with
  | some r => simp [compOp] at hc
  | none =>
   simp only [compOp, Option.map_eq_some_iff] at hc
   obtain ⟨kk, hkk, rfl⟩ := hc
   exact z0v kk hop h.2
 | mapUpdate T m k x =>
  rw [hop] at hc
  simp only [compOp, Option.map_eq_some_iff] at hc
  obtain ⟨kk, hkk, rfl⟩ := hc
  exact q8Y (.inl hop) hkk h
 | insert T m k x =>
  rw [hop] at hc
  simp only [compOp, Option.map_eq_some_iff] at hc
  obtain ⟨kk, hkk, rfl⟩ := hc
  exact q8Y (.inr hop) hkk h
 | lookup T m k ok =>
  rw [hop] at hc
  simp only [compOp] at hc
  split at hc
  · rename_i kk z hkk hz
    cases hc
    obtain ⟨kt, et, hT, hkt, hzz⟩ := q9n hkk
    simp only [IOp.ev] at h
    split at h
    · split at h
      · rename_i hc2
        obtain ⟨rfl, hki⟩ := hc2
        exact z2U hop hT hkt (hzz ▸ hz) (by assumption) (by assumption) hki h.2
      exact h.elim
    exact h.elim
  cases hc
 | _ => rw [hop] at hc; simp [compOp] at hc
end Go.Sx
