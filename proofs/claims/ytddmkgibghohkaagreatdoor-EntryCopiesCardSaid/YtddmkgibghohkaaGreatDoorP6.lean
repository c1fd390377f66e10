/- A part of the proof: a symbolic executor over abstract values, and its soundness. -/
import Derived.Test.YtddmkgibghohkaaGreatDoorP5
set_option linter.unusedSimpArgs false
set_option linter.unusedVariables false
set_option linter.unusedSectionVars false
namespace Go.Sx
open Go

inductive IOp where
 | mov (x : Operand)
 | pick (c x y : Operand)
 | nil (x : Operand)
 | new (T : TypeId) (zs : List Value)
 | box (T : TypeId) (x : Operand)
 | ld (ag : Option Nat) (x : Operand)
 | st (n : Nat) (x y : Operand)
 | bin (op : BinOp) (k : Nat) (x y : Operand)     -- k: 1 pointers, 2 functions, 3 bools may be compared
 | un (op : UnOp) (x : Operand)
 | toInt (k : IntKind) (x : Operand)
 | toStr (b : Bool) (x : Operand)                 -- b: of bytes, not of a string
 | fa (off : Nat) (x : Operand)
 | fld (off : Nat) (ag : Option Nat) (x : Operand)
 | ia (sz : Nat) (x i : Operand)
 | ixs (x i : Operand)
 | len (k : Bool) (x : Operand)                   -- k: a string
 | ext (i : Nat) (x : Operand)
 | mkf (f : Nat) (fi ca : List Operand)
 | mki (T : TypeId) (x : Operand)
 | bld (zs : List Value) (pl : PlaceK) (ps : List (Nat × Operand))
 | bsl (t : Ty) (n sz : Nat) (zs : List Value) (ps : List (Nat × Operand))
 | app (t : Ty) (by_ : Nat) (x y : Operand)
 | sl (k : Option Nat) (x : Operand) (lo hi : Option Operand)   -- k: none: a string; some n: a slice of elements of n cells
 | call (f : Operand) (args : List Operand)
 | pan (x : Operand)
 | mkm (kk : Option IntKind)
 | mup (kk : Option IntKind) (m k x : Operand)
 | mlk (kk : Option IntKind) (z : Value) (ok : Bool) (m k : Operand)
 | mln (x : Operand)
 | mks (t : Ty) (by_ : Nat) (x y : Operand)
 | toB (x : Operand)
 | eqs (neg : Bool) (ks : List Nat) (x y : Operand)
 | sl3 (k : Nat) (f : Bool) (x : Operand) (lo : Option Operand) (hi mx : Operand)
 | iaa (len sz : Nat) (x i : Operand)
 | ta (T : TypeId) (z : Value) (x : Operand)
 | ldS (ag : Option Nat) (x : Operand)   -- a load that floats over stores to other objects

def tyOf (P : Program) : Nat → TypeId → Option Ty
 | 0, _ => none
 | n + 1, T => match P.underlying T with
  | some .bool => some .bool
  | some (.int .u8) => some .u8
  | some (.int k) => some (.int k)
  | some .string => some .str
  | some (.slice e) => (tyOf P n e).map .slice
  | some (.struct fs) => fs.toList.foldr (fun f acc => match tyOf P n f.type, acc with
   | some a, some (some b) => some (some (.prod a b))
   | some a, some none => some (some a)
   | _, _ => none) (some none) |>.bind id
  | some (.array m e) => (tyOf P n e).bind fun a => match m with
   | 0 => none
   | m + 1 => some ((List.replicate m a).foldr (fun x acc => .prod x acc) a)
  | _ => none

def eqK (P : Program) (t : TypeId) : Nat :=
 if kPtr P t then 1 else if kFunc P t then 2 else if kBool P t then 3 else if kSlice P t then 5 else 0

def mapKey (P : Program) (T : TypeId) : Option (Option IntKind) := match P.underlying T with
 | some (.map kt _) => keyKind P kt
 | _ => none
def mapZero (P : Program) (T : TypeId) : Option Value := match P.underlying T with
 | some (.map _ et) => zeroOf P et
 | _ => none
theorem mapKey_ok {P : Program} {T : TypeId} {kk : Option IntKind} (h : mapKey P T = some kk) : ∃ kt et, P.underlying T = some (.map kt et) ∧ keyKind P kt = some kk ∧ mapZero P T = zeroOf P et := by
 unfold mapKey at h
 split at h
 · exact ⟨_, _, by assumption, h, by simp [mapZero, *]⟩
 · cases h

def sameOpd : Operand → Operand → Bool
 | .tmp i, .tmp j => i == j
 | .const (.int k a), .const (.int k' b) => k == k' && a == b
 | _, _ => false
theorem sameOpd_eq {x y : Operand} (h : sameOpd x y = true) : x = y := by
 unfold sameOpd at h
 split at h
 · simpa using h
 · simp only [Bool.and_eq_true, beq_iff_eq] at h; rw [h.1, h.2]
 · cases h
def compOp (P : Program) : Op → Option IOp
 | .move x => some (.mov x)
 | .assign x => some (.mov x)
 | .pick c x y => some (.pick c x y)
 | .nilCheck x => some (.nil x)
 | .alloc T => ((P.info? T).bind fun i => i.zero.map (·.cells.toList)).map (.new T ·)
 | .box T x => some (.box T x)
 | .load t x => (aggOf P t).map (.ld · x)
 | .store t x y => ((P.info? t).map (·.size)).map (.st · x y)
 | .binOp op t x y _ => match structK P t with
  | some ks => match op with
   | .eql => some (.eqs false ks x y)
   | .neq => some (.eqs true ks x y)
   | _ => none
  | none => some (.bin op (eqK P t) x y)
 | .unOp op _ x => some (.un op x)
 | .convert s d x => match P.underlying s, P.underlying d with
  | some _, some (.int k) => some (.toInt k x)
  | some (.slice e), some .string => match P.underlying e with
   | some (.int .u8) => some (.toStr true x)
   | _ => none
  | some .string, some .string => some (.toStr false x)
  | some .string, some (.slice e) => match P.underlying e with
   | some (.int .u8) => some (.toB x)
   | _ => none
  | _, _ => none
 | .fieldAddr t x f => match fieldOf P t f with
  | some (off, ft) => match (P.info? ft).map (·.size) with
   | some (_ + 1) => some (.fa off x)
   | _ => none
  | none => none
 | .field t x f => match fieldOf P t f with
  | some (off, ft) => (aggOf P ft).map (.fld off · x)
  | none => none
 | .indexAddr t x i => match P.underlying t with
  | some (.slice e) => ((P.info? e).map (·.size)).map (.ia · x i)
  | some (.array len e) => ((P.info? e).map (·.size)).map (.iaa len · x i)
  | _ => none
 | .index t x i => match P.underlying t with
  | some .string => some (.ixs x i)
  | _ => none
 | .extract x i => some (.ext i x)
 | .makeFunc (.func f) fi ca => some (.mkf f fi.toList ca.toList)
 | .makeInterface T x => if notIface P T then some (.mki T x) else none
 | .build t ps => match (P.info? t).bind (fun i => i.zero.map (·.cells.toList)), placesOf P t with
  | some zs, some pl => some (.bld zs pl ps.toList)
  | _, _ => none
 | .buildSlice t n ps => match P.underlying t with
  | some (.slice e) => match tyOf P 8 e, (P.info? e).map (·.size), zerosOf P e n with
   | some ty, some sz, some zs => some (.bsl ty n sz zs ps.toList)
   | _, _, _ => none
  | _ => none
 | .slice t x lo hi none => match P.underlying t with
  | some .string => some (.sl none x lo hi)
  | some (.slice e) => ((P.info? e).map (·.size)).map fun n => .sl (some n) x lo hi
  | _ => none
 | .slice t x lo (some hi) (some mx) => match P.underlying t with
  | some (.slice e) => ((P.info? e).map (·.size)).map fun n => .sl3 n (lo.isNone && sameOpd hi mx) x lo hi mx
  | _ => none
 | .makeSlice t x y => match P.underlying t with
  | some (.slice e) => match P.info? e, tyOf P 8 e with
   | some i, some ty => match i.zero with
    | some z => if i.size = ty.size ∧ z.cells.size = ty.size ∧ 0 < ty.size ∧ ty.isZero z.cells.toList = true then some (.mks ty i.bytes x y) else none
    | none => none
   | _, _ => none
  | _ => none
 | .call c => match c.callee with
  | .value f => some (.call f c.args.toList)
  | .builtin .len => match c.args.toList, c.argTypes.toList with
   | [x], [t] => match P.underlying t with
    | some .string => some (.len true x)
    | some (.slice _) => some (.len false x)
    | some (.map _ _) => some (.mln x)
    | _ => none
   | _, _ => none
  | .builtin .append => match c.args.toList, c.argTypes.toList with
   | [x, y], [tS, tX] => match P.underlying tS, srcType P tX with
    | some (.slice e), some _ => match P.info? e, tyOf P 8 e with
     | some i, some ty => match i.zero with
      | some z => if i.size = ty.size ∧ z.cells.size = ty.size then some (.app ty i.bytes x y) else none
      | none => none
     | _, _ => none
    | _, _ => none
   | _, _ => none
  | _ => none
 | .typeAssert x _ T true => if notIface P T then (zeroOf P T).map (.ta T · x) else none
 | .panic x => some (.pan x)
 | .makeMap T none => (mapKey P T).map .mkm
 | .mapUpdate T m k x => (mapKey P T).map (.mup · m k x)
 | .insert T m k x => (mapKey P T).map (.mup · m k x)
 | .lookup T m k ok => match mapKey P T, mapZero P T with
  | some kk, some z => some (.mlk kk z ok m k)
  | _, _ => none
 | _ => none

inductive Res where
 | val (p : Prop) (s : SV)
 | amb (E : Prop) (s : Bool → SV)                            -- one of two; if true, E
 | new (p : Prop) (s : SV) (Hk : List SObj) (so : SObj)      -- the memory is Hk ++ [so]
 | set (s : SV) (h : Nat) (so : SObj)
 | setp (p : Prop) (s : SV) (h : Nat) (so : SObj)
 | call (f : FuncId) (args : List SV)
 | pan (s : SV)
 | zld (ag : Option Nat) (b off : Nat)                       -- what lies at an address
 | zst (n : Nat) (b off : Nat) (y : SV)
 | none

def evLd (H : List SObj) (ag : Option Nat) : SV → Res
 | .ptr h off => match H[h]? with
  | some (.cells _ cs) => match pick cs off ag with
   | some s => .val True s
   | .none => .none
  | _ => .none
 | .iptr t x k => match pick (t.cells x) k ag with
  | some s => .val True s
  | .none => .none
 | .rptr h t i k => match H[h]? with
  | some (.row t' xs) => if t' = t then (match pick (t'.cells (xs.getD i t'.dflt)) k ag with
   | some s => .val (i < xs.length) s
   | .none => .none) else .none
  | _ => .none
 | .raw (.pointer (some ⟨b, off, none⟩)) => .zld ag b off
 | _ => .none

def evSt (H : List SObj) (n : Nat) (y : SV) : SV → Res
 | .ptr h off => match H[h]?, y.flat with
  | some (.cells T cs), some ds => if ds.length = n ∧ off + n ≤ cs.length ∧ ones ds = true then .set .any h (.cells T (splice cs off ds)) else .none
  | _, _ => .none
 | .rptr h t i k => match H[h]?, y.flat with
  | some (.row t' xs), some ds => if t' = t ∧ ds.length = n ∧ k + n ≤ t'.size ∧ ones ds = true then (match t'.rd (splice (t'.cells (xs.getD i t'.dflt)) k ds) with
   | some (d, p) => .setp (i < xs.length ∧ p) .any h (.row t' (xs.set i d))
   | .none => .none) else .none
  | _, _ => .none
 | .raw (.pointer (some ⟨b, off, none⟩)) => .zst n b off y
 | _ => .none

def eqOk (k : Nat) : SV → Bool
 | .raw (.pointer .none) => k == 1
 | .raw .nilFunc => k == 2
 | .raw (.bool _) => k == 3
 | _ => false
def evNil (op : BinOp) (x y : SV) : Res := match y with
 | .raw (.slice none 0 0) => match x with
  | .raw (.slice none 0 0) => (match op with
   | .eql => .val True (.raw (.bool true))
   | .neq => .val True (.raw (.bool false))
   | _ => .none)
  | _ => match x.emp with
   | some E => (match op with
    | .eql => .amb E fun b => .raw (.bool b)
    | .neq => .amb E fun b => .raw (.bool !b)
    | _ => .none)
   | .none => .none
 | _ => .none
def evEq (op : BinOp) (k : Nat) (x y : SV) : Res := if k = 5 then evNil op x y else
 match eqV x y with
 | some r => if eqOk k y then (match op with
  | .eql => .val True (.raw (.bool r))
  | .neq => .val True (.raw (.bool !r))
  | _ => .none) else .none
 | .none => .none
def evBin (op : BinOp) (k : Nat) : SV → SV → Res
 | .raw a, .raw b => match binV op a b with
  | some (v, p) => .val p (.raw v)
  | .none => evEq op k (.raw a) (.raw b)
 | x, y => evEq op k x y
def lenOk (k : Bool) : SV → Bool
 | .raw (.string _) => k
 | _ => !k
def slOk : Option Nat → SV → Bool
 | .none, .raw (.string _) => true
 | some n, .isl t _ => n == t.size
 | some n, .bld _ t _ => n == t.size
 | some n, .osl _ t _ _ => n == t.size
 | some _, .raw (.slice .none 0 0) => true
 | _, _ => false

def IOp.ev (H : List SObj) (ev : Operand → SV) : IOp → Res
 | .mov x => .val True (ev x)
 | .pick c x y => match ev c with
  | .raw (.bool b) => .val True (if b then ev x else ev y)
  | _ => .none
 | .nil x => if (ev x).nonNil then .val True (ev x) else .none
 | .new T zs => .new True (.ptr H.length 0) H (.cells T (rawL zs))
 | .box T x => match (ev x).flat with
  | some cs => .new True (.ptr H.length 0) H (.cells T cs)
  | .none => .none
 | .ld ag x => evLd H ag (ev x)
 | .ldS ag x => evLd H ag (ev x)
 | .st n x y => evSt H n (ev y) (ev x)
 | .bin op k x y => evBin op k (ev x) (ev y)
 | .eqs neg ks x y => match ev x, ev y with
  | .agg l, .agg l' => match eqRs ks l l' with
   | some r => .val True (.raw (.bool (if neg then !r else r)))
   | .none => .none
  | _, _ => .none
 | .un op x => match ev x with
  | .raw a => match unV op a with
   | some v => .val True (.raw v)
   | .none => .none
  | _ => .none
 | .toInt k x => match ev x with
  | .raw (.int _ n) => .val True (.raw (.int k (k.wrap n)))
  | _ => .none
 | .toStr true x => match ev x with
  | .isl .u8 xs => .val True (.raw (.string (strOf xs)))
  | .raw (.slice Option.none 0 0) => .val True (.raw (.string (strOf [])))
  | .bld h .u8 n => match H[h]? with
   | some (.row .u8 xs) => .val (n ≤ xs.length ∧ xs.length ≤ 1125899906842624) (.raw (.string (strOf (xs.take n))))
   | _ => .none
  | _ => .none
 | .toStr false x => match ev x with
  | .raw (.string s) => .val True (.raw (.string s))
  | _ => .none
 | .fa off x => match (ev x).add off with
  | some s => .val True s
  | .none => .none
 | .fld off ag x => match ev x with
  | .agg l => match Sx.pick l off ag with
   | some s => .val True s
   | .none => .none
  | _ => .none
 | .ia sz x i => match ev i with
  | .raw (.int _ n) => match (ev x).wk with
   | .isl t xs => if sz = t.size then .val (0 ≤ n ∧ n.toNat < xs.length) (.iptr t (xs.getD n.toNat t.dflt) 0) else .none
   | .bld h t m => if sz = t.size then .val (0 ≤ n ∧ n.toNat < m) (.rptr h t (0 + n.toNat) 0) else .none
   | .osl h t off m => if sz = t.size then .val (0 ≤ n ∧ n.toNat < m) (.rptr h t (off + n.toNat) 0) else .none
   | .raw (.slice (some ⟨b, off, none⟩) m _) => .val (0 ≤ n ∧ n.toNat < m) (.raw (.pointer (some ⟨b, off + n.toNat * sz, none⟩)))
   | _ => .none
  | _ => .none
 | .iaa m sz x i => match ev i with
  | .raw (.int _ n) => match (ev x).add (n.toNat * sz) with
   | some s => .val (0 ≤ n ∧ n.toNat < m) s
   | .none => .none
  | _ => .none
 | .ta T z x => match ev x with
  | .iface T' y => if T' = T then .val True (.tup [y, .raw (.bool true)]) else .val True (.tup [.ofV z, .raw (.bool false)])
  | .raw .nilIface => .val True (.tup [.ofV z, .raw (.bool false)])
  | _ => .none
 | .ixs x i => match ev x, ev i with
  | .raw (.string s), .raw (.int _ n) => .val (0 ≤ n ∧ n.toNat < s.size) (.raw (.int .u8 (s.data.toList.getD n.toNat 0).toNat))
  | _, _ => .none
 | .len k x => match (ev x).wk.len with
  | some n => if lenOk k (ev x).wk then .val True (.raw (.int .i64 n)) else .none
  | .none => .none
 | .ext i x => match ev x with
  | .tup l => match l[i]? with
   | some s => .val True s
   | .none => .none
  | _ => .none
 | .mkf f fi ca => .val True (.fn f (fi.map ev) (ca.map ev))
 | .mki T x => .val True (.iface T (ev x))
 | .bld zs pl ps => match fillS pl.fn (rawL zs) (ps.map fun p => (p.1, ev p.2)) with
  | some cs => .val True (.agg cs)
  | .none => .none
 | .bsl t n sz zs ps => match fillS (PlaceK.arr sz).fn (rawL zs) (ps.map fun p => (p.1, ev p.2)) with
  | some cs => match rdL t n cs with
   | some (xs, p) => .new p (.bld H.length t n) H (.row t xs)
   | .none => .none
  | .none => .none
 | .app t by_ x y => match ev x with
  | .fsl t' xs => match srcS t' H (ev y) with
   | some (ys, p) => if t' = t then .val (p ∧ xs.length + ys.length ≤ 1125899906842624 ∧ (xs.length + ys.length) * by_ ≤ 140737488355328) (.isl t' (xs ++ ys)) else .none
   | _ => .none
  | _ => match dstOf t H (ev x), srcS t H (ev y) with
   | some (Hk, xs, n), some (ys, p) => .new (n = xs.length ∧ p ∧ xs.length + ys.length ≤ 1125899906842624 ∧ (xs.length + ys.length) * by_ ≤ 140737488355328) (.bld H.length t (xs.length + ys.length)) Hk (.row t (xs ++ ys))
   | _, _ => .none
 | .sl k x lo hi => match bndV ev lo, bndV ev hi with
  | some a, some b => match sliceTo (loOf a).toNat (hiOf (lenOfS (ev x)) b).toNat (ev x) with
   | some s => if slOk k (ev x) then .val (0 ≤ loOf a ∧ loOf a ≤ hiOf (lenOfS (ev x)) b ∧ hiOf (lenOfS (ev x)) b ≤ (lenOfS (ev x) : Int)) s else .none
   | .none => .none
  | _, _ => .none
 | .call f args => match ev f with
  | .fn g fi ca => .call g (fi ++ args.map (fun x => (ev x).wk) ++ ca)
  | _ => .none
 | .pan x => match ev x with
  | .iface T s => .pan (.iface T s)
  | _ => .none
 | .mkm kk => .new True (.mp H.length) H (.map kk [] [])
 | .mup kk m k x => match ev m, ev k with
  | .mp h, .raw kv => match (ev x).toV, H[h]? with
   | some xv, some (.map kk' ks vs) => if kk' = kk ∧ keyIs kk kv = true then .set .any h (.map kk (mput ks vs kv xv).1 (mput ks vs kv xv).2) else .none
   | _, _ => .none
  | _, _ => .none
 | .mlk kk z ok m k => match mapOf H (ev m), ev k with
  | some (kk', ks, vs), .raw kv => if kk' = kk ∧ keyIs kk kv = true then .val True (mres ok (mget ks vs z kv)) else .none
  | _, _ => .none
 | .mln x => match mapOf H (ev x) with
  | some (_, ks, _) => .val True (.raw (.int .i64 ks.length))
  | .none => .none
 | .mks t by_ x y => match ev x, ev y with
  | .raw (.int _ n), .raw (.int _ c) => .new (0 ≤ n ∧ n ≤ c ∧ c.toNat * by_ ≤ 140737488355328 ∧ c ≤ 1125899906842624) (.bld H.length t n.toNat) H (.row t (List.replicate n.toNat t.dflt))
  | _, _ => .none
 | .toB x => match ev x with
  | .raw (.string s) => .new True (.bld H.length .u8 s.size) H (.row .u8 (bytesOf s))
  | _ => .none
 | .sl3 k f x lo hi mx => match bndV ev lo, bndV ev (some hi), bndV ev (some mx) with
  | some a, some (some b), some (some m) => match sliceTo (loOf a).toNat b.toNat (ev x) with
   | some s => if slOk (some k) (ev x) then .val (0 ≤ loOf a ∧ loOf a ≤ b ∧ b ≤ m ∧ m ≤ (lenOfS (ev x) : Int)) (fullS (decide (b = m)) s) else .none
   | .none => .none
  | _, _, _ => .none
end Go.Sx
set_option linter.unusedSectionVars false
namespace Go.Sx
open Go

variable [Ghost] {P : Program} {o : Oper} {ev : Operand → SV} {H : List SObj} {K : Out → List SObj → Prop}

def Res.to (P : Program) (H : List SObj) (K : Out → List SObj → Prop) : Res → Prop
 | .val p s => p ∧ K (.ret s) H
 | .amb E s => ∀ b : Bool, (b = true → E) → K (.ret (s b)) H
 | .new p s Hk so => p ∧ K (.ret s) (Hk ++ [so])
 | .set s h so => K (.ret s) (H.set h so)
 | .setp p s h so => p ∧ K (.ret s) (H.set h so)
 | .call f args => enters P f = true ∧ VCallG P f args H K
 | .pan s => K (.pan s) H
 | .zld ag b off => ∀ E C, Wd C H → Ghost.inv E C H → ∃ s, ZLd C ag b off s ∧ K (.ret s) H
 | .zst n b off y => ∃ ds, y.flat = some ds ∧ ds.length = n ∧ ones ds = true ∧ (∀ E C us, Wd C H → Ghost.inv E C H → SV.denL C ds us → ZSt E C H b off us) ∧ K (.ret .any) H
 | .none => False

theorem ld_sound {t : TypeId} {x : Operand} {ag : Option Nat} (hop : o.op = .load t x) (ha : aggOf P t = some ag) (h : (evLd H ag (ev x)).to P H K) : OpV P o ev H K := by
 generalize he : ev x = s at h
 unfold evLd at h
 split at h
 · split at h
   · split at h
     · exact opv_load_ptr hop ha he (by assumption) (by assumption) h.2
     · exact h.elim
   · exact h.elim
 · split at h
   · exact opv_load_iptr hop ha he (by assumption) h.2
   · exact h.elim
 · split at h
   · split at h
     · rename_i e
       split at h
       · rename_i hp
         subst e
         obtain ⟨h1, h2⟩ := h
         refine opv_load_rptr hop ha he (by assumption) ?_ hp h2
         rw [List.getD_eq_getElem?_getD, List.getElem?_eq_getElem h1]; rfl
       · exact h.elim
     · exact h.elim
   · exact h.elim
 · exact opv_zld hop ha he h
 · exact h.elim

theorem st_sound {t : TypeId} {x y : Operand} {n : Nat} (hop : o.op = .store t x y) (ha : (P.info? t).map (·.size) = some n) (h : (evSt H n (ev y) (ev x)).to P H K) : OpV P o ev H K := by
 generalize he : ev x = s at h
 unfold evSt at h
 split at h
 · split at h
   · split at h
     · rename_i hc
       exact opv_store_ptr hop ha he (by assumption) (by assumption) hc.1 hc.2.1 hc.2.2 h
     · exact h.elim
   · exact h.elim
 · split at h
   · split at h
     · rename_i hc
       split at h
       · obtain ⟨rfl, hc1, hc2, hc3⟩ := hc
         exact opv_store_rptr hop ha he (by assumption) h.1.1 (by assumption) hc1 hc2 hc3 (by assumption) h.1.2 h.2
       · exact h.elim
     · exact h.elim
   · exact h.elim
 · obtain ⟨ds, hf, hn, h1, hz, hk⟩ := h
   exact opv_zst hop ha he hf hn h1 hz hk
 · exact h.elim

theorem eqK_ok {t : TypeId} {s : SV} (h : eqOk (eqK P t) s = true) : eqKind P t s = true := by
 have e1 : eqK P t = 1 → kPtr P t = true := fun e => by unfold eqK at e; split at e; assumption; split at e; cases e; split at e; cases e; split at e <;> cases e
 have e2 : eqK P t = 2 → kFunc P t = true := fun e => by unfold eqK at e; split at e; cases e; split at e; assumption; split at e; cases e; split at e <;> cases e
 have e3 : eqK P t = 3 → kBool P t = true := fun e => by unfold eqK at e; split at e; cases e; split at e; cases e; split at e; assumption; split at e <;> cases e
 unfold eqOk at h
 split at h
 · exact e1 (by simpa using h)
 · exact e2 (by simpa using h)
 · exact e3 (by simpa using h)
 · cases h

theorem eq_sound {op : BinOp} {t t' : TypeId} {x y : Operand} (hop : o.op = .binOp op t x y t') (h : (evEq op (eqK P t) (ev x) (ev y)).to P H K) : OpV P o ev H K := by
 unfold evEq at h
 split at h
 · rename_i hk5
   have hs : kSlice P t = true := by unfold eqK at hk5; split at hk5; cases hk5; split at hk5; cases hk5; split at hk5; cases hk5; split at hk5; assumption; cases hk5
   unfold evNil at h
   split at h
   · rename_i hy
     split at h
     · rename_i hx
       split at h
       · exact opv_nilnil hop (.inl rfl) hs hx hy (by simpa using h.2)
       · exact opv_nilnil hop (.inr rfl) hs hx hy (by simpa using h.2)
       · exact h.elim
     · split at h
       · rename_i E hE
         split at h
         · exact opv_snil hop (.inl rfl) hs hE hy (fun b hb => by simpa using h b hb)
         · exact opv_snil hop (.inr rfl) hs hE hy (fun b hb => by simpa using h b hb)
         · exact h.elim
       · exact h.elim
   · exact h.elim
 split at h
 · rename_i r hr
   split at h
   · rename_i hk
     split at h
     · exact opv_eql hop (.inl rfl) hr (eqK_ok hk) (by simpa using h.2)
     · exact opv_eql hop (.inr rfl) hr (eqK_ok hk) (by simpa using h.2)
     · exact h.elim
   · exact h.elim
 · exact h.elim

theorem bin_sound {op : BinOp} {t t' : TypeId} {x y : Operand} (hop : o.op = .binOp op t x y t') (h : (evBin op (eqK P t) (ev x) (ev y)).to P H K) : OpV P o ev H K := by
 generalize hx : ev x = sx at h
 generalize hy : ev y = sy at h
 unfold evBin at h
 split at h
 · split at h
   · exact opv_bin hop hx hy (by assumption) h.1 h.2
   · exact eq_sound hop (by rw [hx, hy]; exact h)
 · exact eq_sound hop (by rw [hx, hy]; exact h)

theorem OpV.wk (h : OpV P o (fun y => (ev y).wk) H K) : OpV P o ev H K :=
 fun E C r n a next Q hw hg hv h1 h2 => h E C r n a next Q hw hg (fun x hx => wk_le _ _ _ (hv x hx)) h1 h2
theorem wk_raw {s : SV} {v : Value} (h : s = .raw v) : s.wk = .raw v := by rw [h]; rfl
theorem len_sound {c : Call} {t : TypeId} {x : Operand} {k : Bool} (hop : o.op = .call c) (hc : c.callee = .builtin .len) (ha : c.args = #[x]) (hty : c.argTypes = #[t]) (hk : (k = true ∧ P.underlying t = some .string) ∨ (k = false ∧ ∃ e, P.underlying t = some (.slice e)))
 (h : ((IOp.len k x).ev H ev).to P H K) : OpV P o ev H K := by
 refine OpV.wk ?_
 simp only [IOp.ev] at h
 split at h
 · rename_i n hn
   split at h
   · rename_i hl
     refine opv_len hop hc ha hty hn ?_ h.2
     unfold lenKind
     unfold lenOk at hl
     split at hl
     · rename_i s hs
       rcases hk with ⟨_, hu⟩ | ⟨rfl, _⟩
       · rw [hs]; simp [hu]
       · cases hl
     · rename_i hs
       rcases hk with ⟨rfl, _⟩ | ⟨_, e, hu⟩
       · cases hl
       · split
         · exact absurd (by assumption) (hs _)
         · simp [hu]
   · exact h.elim
 · exact h.elim

theorem ia_sound {t e : TypeId} {x i : Operand} {sz : Nat} (hop : o.op = .indexAddr t x i) (ht : P.underlying t = some (.slice e)) (hs : (P.info? e).map (·.size) = some sz) (h : ((IOp.ia sz x i).ev H ev).to P H K) : OpV P o ev H K := by
 refine OpV.wk ?_
 simp only [IOp.ev] at h
 split at h
 · rename_i n hi
   have hi := wk_raw hi
   split at h
   · split at h
     · rename_i hz; subst hz; exact opv_indexAddr_isl hop ht hs (by assumption) hi h.1.1 h.1.2 (fun _ => h.2)
     · exact h.elim
   · split at h
     · rename_i hz; subst hz; exact opv_indexAddr_own hop ht hs (.inr ⟨by assumption, rfl⟩) hi h.1.1 h.1.2 h.2
     · exact h.elim
   · split at h
     · rename_i hz; subst hz; exact opv_indexAddr_own hop ht hs (.inl (by assumption)) hi h.1.1 h.1.2 h.2
     · exact h.elim
   · exact opv_indexAddr_raw hop ht hs (by assumption) hi h.1.1 h.1.2 h.2
   · exact h.elim
 · exact h.elim

theorem sl_sound {T : TypeId} {x : Operand} {lo hi : Option Operand} {k : Option Nat} (hop : o.op = .slice T x lo hi none) (hk : (k = none ∧ P.underlying T = some .string) ∨ (∃ n e, k = some n ∧ P.underlying T = some (.slice e) ∧ (P.info? e).map (·.size) = some n))
 (h : ((IOp.sl k x lo hi).ev H ev).to P H K) : OpV P o ev H K := by
 simp only [IOp.ev] at h
 split at h
 · split at h
   · split at h
     · rename_i hs hok
       refine opv_slice hop ?_ (by assumption) (by assumption) h.1.1 h.1.2.1 h.1.2.2 (by assumption) h.2
       unfold slOk at hok
       unfold sliceKind
       split at hok
       · rename_i e1 e2
         rcases hk with ⟨_, hu⟩ | ⟨n, e, he, _⟩
         · rw [e2]; simp [hu]
         · cases he
       · rename_i e2
         rcases hk with ⟨he, _⟩ | ⟨n, e, he, hu, hn⟩
         · cases he
         · cases he; rw [e2]; simp only [hu]; rw [beq_iff_eq] at hok ⊢; rw [hn, hok]
       · rename_i e2
         rcases hk with ⟨he, _⟩ | ⟨n, e, he, hu, hn⟩
         · cases he
         · cases he; rw [e2]; simp only [hu]; rw [beq_iff_eq] at hok ⊢; rw [hn, hok]
       · rename_i e2
         rcases hk with ⟨he, _⟩ | ⟨n, e, he, hu, hn⟩
         · cases he
         · cases he; rw [e2]; simp only [hu]; rw [beq_iff_eq] at hok ⊢; rw [hn, hok]
       · rename_i e2
         rcases hk with ⟨he, _⟩ | ⟨n, e, he, hu, hn⟩
         · cases he
         · cases he; rw [e2]; simp only [hu]
           cases hi : P.info? e with
           | none => simp [hi] at hn
           | some i => rfl
       · cases hok
     · exact h.elim
   · exact h.elim
 · exact h.elim
theorem sl3_sound {T e : TypeId} {x hi mx : Operand} {lo : Option Operand} {n : Nat} {f : Bool} (hop : o.op = .slice T x lo (some hi) (some mx)) (hu : P.underlying T = some (.slice e)) (hn : (P.info? e).map (·.size) = some n) (_ : f = true → hi = mx)
 (h : ((IOp.sl3 n f x lo hi mx).ev H ev).to P H K) : OpV P o ev H K := by
 simp only [IOp.ev] at h
 split at h
 · rename_i a b m h1 h2 h3
   split at h
   · split at h
     · rename_i hs hok
       have hkind : sliceKind P T (ev x) = true ∧ ∀ str, ev x ≠ .raw (.string str) := by
        unfold slOk at hok
        unfold sliceKind
        split at hok
        · rename_i e1 e2; cases e1
        · rename_i e1 e2; cases e1; rw [e2]; refine ⟨?_, fun _ h => by cases h⟩; simp only [hu]; rw [beq_iff_eq] at hok ⊢; rw [hn, hok]
        · rename_i e1 e2; cases e1; rw [e2]; refine ⟨?_, fun _ h => by cases h⟩; simp only [hu]; rw [beq_iff_eq] at hok ⊢; rw [hn, hok]
        · rename_i e1 e2; cases e1; rw [e2]; refine ⟨?_, fun _ h => by cases h⟩; simp only [hu]; rw [beq_iff_eq] at hok ⊢; rw [hn, hok]
        · rename_i e1 e2; rw [e2]; refine ⟨?_, fun _ h => by cases h⟩; simp only [hu]
          cases hi : P.info? e with
          | none => simp [hi] at hn
          | some i => rfl
        · cases hok
       exact opv_slice3 hop hkind.1 h1 h2 h3 h.1.1 h.1.2.1 h.1.2.2.1 h.1.2.2.2 (fun hft => of_decide_eq_true hft) hkind.2 (by assumption) h.2
     · exact h.elim
   · exact h.elim
 · exact h.elim
end Go.Sx
set_option linter.unusedSectionVars false
namespace Go.Sx
open Go

variable [Ghost] {P : Program} {o : Oper} {ev : Operand → SV} {H : List SObj} {K : Out → List SObj → Prop}

theorem mup_sound {T : TypeId} {m k x : Operand} {kk : Option IntKind} (hop : o.op = .mapUpdate T m k x ∨ o.op = .insert T m k x) (hkk : mapKey P T = some kk) (h : ((IOp.mup kk m k x).ev H ev).to P H K) : OpV P o ev H K := by
 obtain ⟨kt, et, hT, hkt, _⟩ := mapKey_ok hkk
 simp only [IOp.ev] at h
 split at h
 · split at h
   · split at h
     · rename_i hc2
       obtain ⟨rfl, hki⟩ := hc2
       exact opv_mapUpdate hop hT hkt (by assumption) (by assumption) hki (by assumption) (by assumption) h
     · exact h.elim
   · exact h.elim
 · exact h.elim

theorem ev_sound {i : IOp} (hc : compOp P o.op = some i) (h : (i.ev H ev).to P H K) : OpV P o ev H K := by
 cases hop : o.op with
 | move x => rw [hop] at hc; cases hc; exact opv_move (.inl hop) h.2
 | assign x => rw [hop] at hc; cases hc; exact opv_move (.inr hop) h.2
 | pick c x y =>
  rw [hop] at hc; cases hc
  simp only [IOp.ev] at h
  split at h
  · exact opv_pick hop (by assumption) h.2
  · exact h.elim
 | nilCheck x =>
  rw [hop] at hc; cases hc
  simp only [IOp.ev] at h
  split at h
  · exact opv_nilCheck hop (by assumption) h.2
  · exact h.elim
 | alloc T =>
  rw [hop] at hc
  simp only [compOp, Option.map_eq_some_iff] at hc
  obtain ⟨zs, hz, rfl⟩ := hc
  exact opv_alloc hop hz h.2
 | box T x =>
  rw [hop] at hc; cases hc
  simp only [IOp.ev] at h
  split at h
  · exact opv_box hop (by assumption) h.2
  · exact h.elim
 | load t x =>
  rw [hop] at hc
  simp only [compOp, Option.map_eq_some_iff] at hc
  obtain ⟨ag, ha, rfl⟩ := hc
  exact ld_sound hop ha h
 | store t x y =>
  rw [hop] at hc
  simp only [compOp, Option.map_eq_some_iff] at hc
  obtain ⟨n, ⟨i, hi, rfl⟩, rfl⟩ := hc
  exact st_sound hop (by simp [hi]) h
 | binOp op t x y t' =>
  rw [hop] at hc
  simp only [compOp] at hc
  split at hc
  · rename_i ks hs
    split at hc
    · cases hc
      simp only [IOp.ev] at h
      split at h
      · split at h
        · exact opv_eqs hop (.inl rfl) hs (by assumption) (by assumption) (by assumption) (by simpa using h.2)
        · exact h.elim
      · exact h.elim
    · cases hc
      simp only [IOp.ev] at h
      split at h
      · split at h
        · exact opv_eqs hop (.inr rfl) hs (by assumption) (by assumption) (by assumption) (by simpa using h.2)
        · exact h.elim
      · exact h.elim
    · cases hc
  · cases hc; exact bin_sound hop h
 | unOp op t x =>
  rw [hop] at hc; cases hc
  simp only [IOp.ev] at h
  split at h
  · split at h
    · exact opv_un hop (by assumption) (by assumption) h.2
    · exact h.elim
  · exact h.elim
 | convert s d x =>
  rw [hop] at hc
  simp only [compOp] at hc
  split at hc
  · cases hc
    simp only [IOp.ev] at h
    split at h
    · exact opv_conv_int hop (by assumption) (by assumption) (by assumption) h.2
    · exact h.elim
  · split at hc
    · cases hc
      simp only [IOp.ev] at h
      split at h
      · exact opv_conv_toStr hop (by assumption) (by assumption) (by assumption) (by assumption) h.2
      · exact opv_conv_nilStr hop (by assumption) (by assumption) (by assumption) (by assumption) h.2
      · split at h
        · exact opv_conv_ownStr hop (by assumption) (by assumption) (by assumption) (by assumption) (by assumption) h.1.1 h.1.2 h.2
        · exact h.elim
      · exact h.elim
    · cases hc
  · cases hc
    simp only [IOp.ev] at h
    split at h
    · exact opv_conv_str hop (by assumption) (by assumption) (by assumption) h.2
    · exact h.elim
  · split at hc
    · cases hc
      simp only [IOp.ev] at h
      split at h
      · exact opv_conv_toB hop (by assumption) (by assumption) (by assumption) (by assumption) h.2
      · exact h.elim
    · cases hc
  · cases hc
 | fieldAddr t x f =>
  rw [hop] at hc
  simp only [compOp] at hc
  split at hc
  · split at hc
    · cases hc
      simp only [IOp.ev] at h
      split at h
      · exact opv_fieldAddr hop (by assumption) (by assumption) (by assumption) h.2
      · exact h.elim
    · cases hc
  · cases hc
 | field t x f =>
  rw [hop] at hc
  simp only [compOp] at hc
  split at hc
  · simp only [Option.map_eq_some_iff] at hc
    obtain ⟨ag, ha, rfl⟩ := hc
    simp only [IOp.ev] at h
    split at h
    · split at h
      · exact opv_field hop (by assumption) ha (by assumption) (by assumption) h.2
      · exact h.elim
    · exact h.elim
  · cases hc
 | indexAddr t x ix =>
  rw [hop] at hc
  simp only [compOp] at hc
  split at hc
  · simp only [Option.map_eq_some_iff] at hc
    obtain ⟨n, ⟨i, hi, rfl⟩, rfl⟩ := hc
    exact ia_sound hop (by assumption) (by simp [hi]) h
  · simp only [Option.map_eq_some_iff] at hc
    obtain ⟨n, ⟨i, hi, rfl⟩, rfl⟩ := hc
    simp only [IOp.ev] at h
    split at h
    · split at h
      · exact opv_indexAddr_arr (sz := i.size) hop (by assumption) (by simp [hi]) (by assumption) (by assumption) h.1.1 h.1.2 h.2
      · exact h.elim
    · exact h.elim
  · cases hc
 | typeAssert x xT T ok =>
  rw [hop] at hc
  cases ok with
  | false => simp [compOp] at hc
  | true =>
   simp only [compOp] at hc
   split at hc
   · rename_i hn
     simp only [Option.map_eq_some_iff] at hc
     obtain ⟨z, hz, rfl⟩ := hc
     simp only [IOp.ev] at h
     split at h
     · split at h
       · rename_i T' y hx e; subst e; exact opv_ta_yes hop hn hx h.2
       · rename_i T' y hx e; exact opv_ta_no hop hn hz (.inr ⟨T', y, e, hx⟩) h.2
     · rename_i hx; exact opv_ta_no hop hn hz (.inl hx) h.2
     · exact h.elim
   · cases hc
 | index t x ix =>
  rw [hop] at hc
  simp only [compOp] at hc
  split at hc
  · cases hc
    simp only [IOp.ev] at h
    split at h
    · exact opv_index_str hop (by assumption) (by assumption) (by assumption) h.1.1 h.1.2 h.2
    · exact h.elim
  · cases hc
 | extract x n =>
  rw [hop] at hc; cases hc
  simp only [IOp.ev] at h
  split at h
  · split at h
    · exact opv_extract hop (by assumption) (by assumption) h.2
    · exact h.elim
  · exact h.elim
 | makeFunc fn fi ca =>
  rw [hop] at hc
  cases fn with
  | func f => cases hc; exact opv_makeFunc hop h.2
  | _ => simp [compOp] at hc
 | makeInterface T x =>
  rw [hop] at hc
  simp only [compOp] at hc
  split at hc
  · cases hc; exact opv_makeInterface hop (by assumption) h.2
  · cases hc
 | build t ps =>
  rw [hop] at hc
  simp only [compOp] at hc
  split at hc
  · cases hc
    simp only [IOp.ev] at h
    split at h
    · exact opv_build hop (by assumption) (by assumption) (by assumption) h.2
    · exact h.elim
  · cases hc
 | buildSlice t n ps =>
  rw [hop] at hc
  simp only [compOp] at hc
  split at hc
  · split at hc
    · cases hc
      simp only [IOp.ev] at h
      split at h
      · split at h
        · exact opv_buildSlice hop (by assumption) (by assumption) (by assumption) (by assumption) (by assumption) h.1 h.2
        · exact h.elim
      · exact h.elim
    · cases hc
  · cases hc
 | slice t x lo hi mx =>
  rw [hop] at hc
  cases mx with
  | some m =>
   cases hi with
   | none => simp [compOp] at hc
   | some hi =>
    simp only [compOp] at hc
    split at hc
    · simp only [Option.map_eq_some_iff] at hc
      obtain ⟨n, ⟨i, hi, rfl⟩, rfl⟩ := hc
      exact sl3_sound hop (by assumption) (by simp [hi]) (fun hf => sameOpd_eq (by simp only [Bool.and_eq_true] at hf; exact hf.2)) h
    · cases hc
  | none =>
   simp only [compOp] at hc
   split at hc
   · cases hc; exact sl_sound hop (.inl ⟨rfl, by assumption⟩) h
   · simp only [Option.map_eq_some_iff] at hc
     obtain ⟨n, ⟨i, hi, rfl⟩, rfl⟩ := hc
     exact sl_sound hop (.inr ⟨_, _, rfl, by assumption, by simp [hi]⟩) h
   · cases hc
 | panic x =>
  rw [hop] at hc; cases hc
  simp only [IOp.ev] at h
  split at h
  · exact opv_panic hop (by assumption) h
  · exact h.elim
 | call c =>
  rw [hop] at hc
  simp only [compOp] at hc
  split at hc
  · cases hc
    simp only [IOp.ev] at h
    split at h
    · rename_i f args c g fi ca hg
      refine OpV.weaken (ev' := fun x => (ev x).wk) ?_ (fun x => wk_le _)
      exact opv_call hop (by assumption) (by simp only [hg]; rfl) h.1 h.2
    · exact h.elim
  · split at hc
    · rename_i x t hargs htys
      have ha : c.args = #[x] := by rw [← Array.toList_inj]; exact hargs
      have hty : c.argTypes = #[t] := by rw [← Array.toList_inj]; exact htys
      split at hc
      · cases hc; exact len_sound hop (by assumption) ha hty (.inl ⟨rfl, by assumption⟩) h
      · cases hc; exact len_sound hop (by assumption) ha hty (.inr ⟨rfl, _, by assumption⟩) h
      · cases hc
        simp only [IOp.ev] at h
        split at h
        · exact opv_len_map hop (by assumption) ha hty (by assumption) (by assumption) h.2
        · exact h.elim
      · cases hc
    · cases hc
  · split at hc
    · rename_i x y tS tX hargs htys
      have ha : c.args = #[x, y] := by rw [← Array.toList_inj]; exact hargs
      have hty : c.argTypes = #[tS, tX] := by rw [← Array.toList_inj]; exact htys
      split at hc
      · split at hc
        · split at hc
          · split at hc
            · rename_i hz hsz
              cases hc
              simp only [IOp.ev] at h
              split at h
              · split at h
                · split at h
                  · rename_i e2
                    subst e2
                    exact opv_append_fsl hop (by assumption) ha hty (by assumption) (by assumption) (by assumption) hsz.1 (by assumption) (by assumption) (by assumption) h.1.1 h.1.2.1 h.1.2.2 h.2
                  · exact h.elim
                · exact h.elim
              split at h
              · exact opv_append hop (by assumption) ha hty (by assumption) (by assumption) (by assumption) hsz.1 (by assumption) hsz.2 (by assumption) h.1.1 (by assumption) h.1.2.1 h.1.2.2.1 h.1.2.2.2 h.2
              · exact h.elim
            · cases hc
          · cases hc
        · cases hc
      · cases hc
    · cases hc
  · cases hc
 | makeSlice T x y =>
  rw [hop] at hc
  simp only [compOp] at hc
  split at hc
  · split at hc
    · split at hc
      · split at hc
        · rename_i hz hcond
          cases hc
          simp only [IOp.ev] at h
          split at h
          · exact opv_makeSlice hop (by assumption) (by assumption) hz hcond.1 hcond.2.1 hcond.2.2.1 (by assumption) (by assumption) h.1.1 h.1.2.1 h.1.2.2.1 h.1.2.2.2 hcond.2.2.2 h.2
          · exact h.elim
        · cases hc
      · cases hc
    · cases hc
  · cases hc
 | makeMap T r =>
  rw [hop] at hc
  cases r with
  | some r => simp [compOp] at hc
  | none =>
   simp only [compOp, Option.map_eq_some_iff] at hc
   obtain ⟨kk, hkk, rfl⟩ := hc
   exact opv_makeMap kk hop h.2
 | mapUpdate T m k x =>
  rw [hop] at hc
  simp only [compOp, Option.map_eq_some_iff] at hc
  obtain ⟨kk, hkk, rfl⟩ := hc
  exact mup_sound (.inl hop) hkk h
 | insert T m k x =>
  rw [hop] at hc
  simp only [compOp, Option.map_eq_some_iff] at hc
  obtain ⟨kk, hkk, rfl⟩ := hc
  exact mup_sound (.inr hop) hkk h
 | lookup T m k ok =>
  rw [hop] at hc
  simp only [compOp] at hc
  split at hc
  · rename_i kk z hkk hz
    cases hc
    obtain ⟨kt, et, hT, hkt, hzz⟩ := mapKey_ok hkk
    simp only [IOp.ev] at h
    split at h
    · split at h
      · rename_i hc2
        obtain ⟨rfl, hki⟩ := hc2
        exact opv_lookup hop hT hkt (hzz ▸ hz) (by assumption) (by assumption) hki h.2
      · exact h.elim
    · exact h.elim
  · cases hc
 | _ => rw [hop] at hc; simp [compOp] at hc
end Go.Sx
set_option linter.unusedSectionVars false
namespace Go.Sx
open Go

structure OpI where
 dst : Option Tmp
 op : IOp
 guard : Option (Nat × Bool)

def isLd : IOp → Bool
 | .ld _ _ => true
 | .ldS _ _ => true
 | _ => false
def needsLd (o : Oper) : Bool := match o.op with
 | .load .. => true
 | _ => false
def gkI : IOp → Bool
 | .st .. | .app .. | .mup .. => false
 | _ => true
def kindChk (o : Oper) (i : IOp) : Bool := isLd i == needsLd o && gkI i == gk o

def compOp' (P : Program) (o : Oper) : Option IOp :=
 match compOp P o.op with
 | some i => if kindChk o i then some i else none
 | none => none
theorem compOp'_ok {P : Program} {o : Oper} {i : IOp} (h : compOp' P o = some i) : compOp P o.op = some i ∧ isLd i = needsLd o ∧ gkI i = gk o := by
 unfold compOp' at h
 split at h
 · split at h
   · rename_i hk
     cases h
     simp only [kindChk, Bool.and_eq_true, beq_iff_eq] at hk
     exact ⟨by assumption, hk⟩
   · cases h
 · cases h

def compO (P : Program) (all : Array Oper) (o : Oper) : Option OpI :=
 match compOp' P o with
 | none => none
 | some op => match o.guard with
  | none => some ⟨o.dst, op, none⟩
  | some (j, b) => match (all[j]?).bind (·.dst) with
   | some d => some ⟨o.dst, op, some (d, b)⟩
   | none => none

theorem compO_op' {P : Program} {all : Array Oper} {o : Oper} {io : OpI} (h : compO P all o = some io) : compOp' P o = some io.op ∧ io.dst = o.dst := by
 unfold compO at h
 split at h
 · cases h
 · split at h
   · cases h; exact ⟨by assumption, rfl⟩
   · split at h
     · cases h; exact ⟨by assumption, rfl⟩
     · cases h
theorem compO_op {P : Program} {all : Array Oper} {o : Oper} {io : OpI} (h : compO P all o = some io) : compOp P o.op = some io.op ∧ io.dst = o.dst :=
 ⟨(compOp'_ok (compO_op' h).1).1, (compO_op' h).2⟩

theorem compO_wanted {P : Program} {all : Array Oper} {o : Oper} {io : OpI} {t : List SV} (h : compO P all o = some io) :
 (io.guard = none → wantedT all t o = some true) ∧ (∀ d b v, io.guard = some (d, b) → t.getD d .any = .raw (.bool v) → wantedT all t o = some (v == b)) ∧ (∀ d b vs, io.guard = some (d, b) → t.getD d .any = .raw (.tuple vs) → wantedT all t o = some false) := by
 unfold compO at h
 split at h
 · cases h
 · split at h
   · rename_i hg
     cases h
     refine ⟨(fun _ => by unfold wantedT; rw [hg]), (fun d b v e => by cases e), (fun d b v e => by cases e)⟩
   · rename_i hg
     split at h
     · rename_i hd
       cases h
       refine ⟨(fun e => by cases e), fun d b v e hv => ?_, fun d b v e hv => ?_⟩
       · cases e
         unfold wantedT
         rw [hg]
         simp only [hd, hv]
       · cases e
         unfold wantedT
         rw [hg]
         simp only [hd, hv]
     · cases h

inductive IC where
 | skip
 | reg (l : List OpI)
 | drw (l : List (Bool × OpI))
 | seq (a b : IC)
 | cond (c : Operand) (a b : IC)
 | blk (id : Nat) (c : IC)
 | loop (c : IC)
 | exit (id : Nat)
 | ret

def isPureOp (P : Program) (o : Oper) : Bool := match o.op with
 | .convert _ d _ => match P.underlying d with
  | some (.slice _) => false
  | _ => true
 | .move _ | .assign _ | .pick .. | .nilCheck _ | .binOp .. | .unOp .. | .fieldAddr .. | .field .. | .indexAddr .. | .index .. | .extract .. | .makeFunc .. | .makeInterface .. | .build .. | .slice .. | .load .. | .lookup .. => true
 | .call { callee := .builtin .len, .. } => true
 | _ => false
def ldChk (all : Array Oper) (listed : Array Bool) (i : Nat) : Bool := match all[i]? with
 | some o => !needsLd o || ldFree all listed i
 | none => false
def ldChkS (all : Array Oper) (listed : Array Bool) (i : Nat) : Bool := match all[i]? with
 | some o => !needsLd o || closedB all listed
 | none => false
def toS : IOp → IOp
 | .ld ag x => .ldS ag x
 | i => i
def isCallOp (o : Oper) : Bool := match o.op with
 | .call { callee := .value _, .. } => true
 | _ => false

def chooseOp (P : Program) (all : Array Oper) (listed : Array Bool) (rd : List Nat) : Option (Nat × Bool) :=
 match rd.find? (fun i => (match all[i]? with | some o => isPureOp P o | none => false) && Region.free .any all listed i && ldChk all listed i) with
 | some i => some (i, true)
 | none => match rd with
  | [i] => some (i, false)
  | _ => match rd.find? (fun i => (match all[i]? with | some o => isCallOp o | none => false) && Region.free .any all listed i) with
   | some i => some (i, true)
   | none => match rd.find? (fun i => (match all[i]? with | some o => isPureOp P o | none => false) && Region.free .any all listed i) with
    | some i => some (i, true)
    | none => none

def planChk (all : Array Oper) (listed : Array Bool) (i : Nat) (fl : Bool) : Bool :=
 if fl then (Region.ready .any all listed).contains i && Region.free .any all listed i && ldChkS all listed i else Region.ready .any all listed == [i]

def planL (P : Program) (all : Array Oper) : Nat → Array Bool → Option (List (Bool × OpI))
 | 0, listed => if (Region.ready .any all listed).isEmpty then some [] else none
 | n + 1, listed => if (Region.ready .any all listed).isEmpty then some [] else
  match chooseOp P all listed (Region.ready .any all listed) with
  | some (i, fl) => match all[i]? with
   | some o => match compO P all o with
    | some io => match planL P all n (listed.setIfInBounds i true) with
     | some l => if planChk all listed i fl then some ((fl, if fl && !ldChk all listed i then { io with op := toS io.op } else io) :: l) else none
     | none => none
    | none => none
   | none => none
  | none => none

def compL (P : Program) (all : Array Oper) : List Oper → Option (List OpI)
 | [] => some []
 | o :: l => match compO P all o, compL P all l with
  | some io, some r => some (io :: r)
  | _, _ => none

def comp (P : Program) : Code → Option IC
 | .skip => some .skip
 | .region _ all false => (compL P all all.toList).map .reg
 | .region _ all true => (planL P all all.size (Array.replicate all.size false)).map .drw
 | .seq a b => match comp P a, comp P b with
  | some x, some y => some (.seq x y)
  | _, _ => none
 | .cond c a b => match comp P a, comp P b with
  | some x, some y => some (.cond c x y)
  | _, _ => none
 | .block id c => (comp P c).map (.blk id)
 | .loop c => (comp P c).map .loop
 | .exit id => some (.exit id)
 | .ret => some .ret
 | _ => none

inductive IT where
 | ic (c : IC)
 | ops (l : List OpI)
 | dops (G : List Nat) (l : List (Bool × OpI))
 | blk (id : Nat)
 | stop (Φ : List SV → List SObj → Prop)

structure IM where
 k0 : Nat
 todo : List IT
 tmps : List SV
 heap : List SObj

def RelOps (P : Program) (all : Array Oper) : List Nat → List OpI → Prop
 | [], [] => True
 | i :: idx, io :: l => (∃ o, all[i]? = some o ∧ compO P all o = some io) ∧ RelOps P all idx l
 | _, _ => False

def RelT (P : Program) : List IT → List It → Prop
 | [], k' => k' = []
 | .ic c :: k, k' => ∃ c' r, k' = .code c' :: r ∧ comp P c' = some c ∧ RelT P k r
 | .ops l :: k, k' => ∃ all idx r, k' = .ops all idx :: r ∧ RelOps P all idx l ∧ RelT P k r
 | .dops _ _ :: _, _ => False
 | .blk id :: k, k' => ∃ r, k' = .blk id :: r ∧ RelT P k r
 | .stop Φ :: k, k' => ∃ r, k' = .stop Φ :: r ∧ RelT P k r

def SoundI [Ghost] (P : Program) (AQ : Ex → List SV → List SObj → Prop) (m : IM) : Prop :=
 match m.todo with
 | .dops G l :: k => ∀ all listed fuel k', planL P all fuel listed = some l → RelT P k k' → AnyV P AQ m.k0 k' all G fuel listed m.tmps m.heap
 | td => ∀ td', RelT P td td' → Sound P AQ ⟨m.k0, td', m.tmps, m.heap⟩

variable [Ghost] {P : Program} {AQ : Ex → List SV → List SObj → Prop} {k0 : Nat} {k : List IT} {t : List SV} {H : List SObj}

def plainT : List IT → Bool
 | [] => true
 | .dops _ _ :: _ => false
 | _ :: _ => true

theorem soundI_plain {td : List IT} (h : ∀ td', RelT P td td' → Sound P AQ ⟨k0, td', t, H⟩) (hp : plainT td = true) : SoundI P AQ ⟨k0, td, t, H⟩ := by
 unfold SoundI
 cases td with
 | nil => exact h
 | cons x l => cases x <;> first | exact h | simp [plainT] at hp
theorem soundI_get {td : List IT} {td' : List It} (h : SoundI P AQ ⟨k0, td, t, H⟩) (hr : RelT P td td') : Sound P AQ ⟨k0, td', t, H⟩ := by
 unfold SoundI at h
 cases td with
 | nil => exact h _ hr
 | cons x l => cases x <;> first | exact h _ hr | (simp only [RelT] at hr)

theorem si_end (h : AQ .normal t H) : SoundI P AQ ⟨k0, [], t, H⟩ := soundI_plain (fun td' hr => by cases hr; exact sound_end h) rfl

def CompInv (P : Program) (c : Code) : IC → Prop
 | .skip => c = .skip
 | .reg l => ∃ id all, c = .region id all false ∧ compL P all all.toList = some l
 | .drw l => ∃ id all, c = .region id all true ∧ planL P all all.size (Array.replicate all.size false) = some l
 | .seq x y => ∃ a b, c = .seq a b ∧ comp P a = some x ∧ comp P b = some y
 | .cond e x y => ∃ a b, c = .cond e a b ∧ comp P a = some x ∧ comp P b = some y
 | .blk id x => ∃ a, c = .block id a ∧ comp P a = some x
 | .loop x => ∃ a, c = .loop a ∧ comp P a = some x
 | .exit id => c = .exit id
 | .ret => c = .ret

theorem comp_inv {c : Code} {ic : IC} (h : comp P c = some ic) : CompInv P c ic := by
 cases c with
 | skip => cases h; rfl
 | region id all d =>
  cases d with
  | false =>
   simp only [comp, Option.map_eq_some_iff] at h
   obtain ⟨l, hl, rfl⟩ := h
   exact ⟨id, all, rfl, hl⟩
  | true =>
   simp only [comp, Option.map_eq_some_iff] at h
   obtain ⟨l, hl, rfl⟩ := h
   exact ⟨id, all, rfl, hl⟩
 | seq a b =>
  simp only [comp] at h
  split at h
  · cases h; exact ⟨a, b, rfl, by assumption, by assumption⟩
  · cases h
 | cond e a b =>
  simp only [comp] at h
  split at h
  · cases h; exact ⟨a, b, rfl, by assumption, by assumption⟩
  · cases h
 | block id a =>
  simp only [comp, Option.map_eq_some_iff] at h
  obtain ⟨l, hl, rfl⟩ := h
  exact ⟨a, rfl, hl⟩
 | loop a =>
  simp only [comp, Option.map_eq_some_iff] at h
  obtain ⟨l, hl, rfl⟩ := h
  exact ⟨a, rfl, hl⟩
 | exit id => cases h; rfl
 | ret => cases h; rfl
 | _ => simp [comp] at h

theorem compL_rel {all : Array Oper} : ∀ (n : Nat) {os : List Oper} {l : List OpI}, (∀ j, os[j]? = all[n + j]?) → compL P all os = some l → RelOps P all ((List.range os.length).map (n + ·)) l
 | n, [], l, _, h => by cases h; simp [RelOps]
 | n, o :: os, l, ho, h => by
  simp only [compL] at h
  split at h
  · cases h
    rw [List.length_cons, List.range_succ_eq_map, List.map_cons, List.map_map]
    refine ⟨⟨o, by have := ho 0; simpa using this.symm, by assumption⟩, ?_⟩
    have := compL_rel (n + 1) (os := os) (fun j => by have := ho (j + 1); simp at this; rw [this]; congr 1; omega) (by assumption)
    have e : (fun x => n + x) ∘ Nat.succ = fun x => n + 1 + x := by funext x; simp; omega
    rw [e]
    exact this
  · cases h

theorem si_skip (h : SoundI P AQ ⟨k0, k, t, H⟩) : SoundI P AQ ⟨k0, .ic .skip :: k, t, H⟩ := soundI_plain (fun td' hr => by
 obtain ⟨c', r, rfl, hc, hr⟩ := hr
 obtain rfl := comp_inv hc
 exact sound_skip (soundI_get h hr)) rfl
theorem si_seq {a b : IC} (h : SoundI P AQ ⟨k0, .ic a :: .ic b :: k, t, H⟩) : SoundI P AQ ⟨k0, .ic (.seq a b) :: k, t, H⟩ := soundI_plain (fun td' hr => by
 obtain ⟨c', r, rfl, hc, hr⟩ := hr
 obtain ⟨x, y, rfl, hx, hy⟩ := comp_inv hc
 exact sound_seq (soundI_get h ⟨x, _, rfl, hx, y, r, rfl, hy, hr⟩)) rfl
theorem si_blk {id : Nat} {c : IC} (h : SoundI P AQ ⟨k0, .ic c :: .blk id :: k, t, H⟩) : SoundI P AQ ⟨k0, .ic (.blk id c) :: k, t, H⟩ := soundI_plain (fun td' hr => by
 obtain ⟨c', r, rfl, hc, hr⟩ := hr
 obtain ⟨x, rfl, hx⟩ := comp_inv hc
 exact sound_block (soundI_get h ⟨x, _, rfl, hx, r, rfl, hr⟩)) rfl
theorem si_blkEnd {id : Nat} (h : SoundI P AQ ⟨k0, k, t, H⟩) : SoundI P AQ ⟨k0, .blk id :: k, t, H⟩ := soundI_plain (fun td' hr => by
 obtain ⟨r, rfl, hr⟩ := hr
 exact sound_blk (soundI_get h hr)) rfl
theorem si_stop {Φ : List SV → List SObj → Prop} (h : Φ t H) : SoundI P AQ ⟨k0, .stop Φ :: k, t, H⟩ := soundI_plain (fun td' hr => by
 obtain ⟨r, rfl, hr⟩ := hr
 exact sound_stop h) rfl
theorem si_ret (h : AQ .ret t H) : SoundI P AQ ⟨k0, .ic .ret :: k, t, H⟩ := soundI_plain (fun td' hr => by
 obtain ⟨c', r, rfl, hc, hr⟩ := hr
 obtain rfl := comp_inv hc
 exact sound_ret h) rfl
def exitI (id : Nat) : List IT → Option (List IT)
 | [] => none
 | .blk id' :: k => if id' = id then some k else exitI id k
 | _ :: k => exitI id k
theorem exitI_rel {id : Nat} : ∀ {k : List IT} {k' : List IT} {r : List It}, RelT P k r → exitI id k = some k' → ∃ r', exitTo' id r = some r' ∧ RelT P k' r'
 | [], _, _, _, h => by simp [exitI] at h
 | .blk id' :: k, k', r, hr, h => by
  obtain ⟨r1, rfl, hr⟩ := hr
  unfold exitI at h
  unfold exitTo'
  split at h
  · cases h; rw [if_pos (by assumption)]; exact ⟨r1, rfl, hr⟩
  · rw [if_neg (by assumption)]; exact exitI_rel hr h
 | .ic _ :: k, k', r, hr, h => by obtain ⟨c', r1, rfl, _, hr⟩ := hr; exact exitI_rel (k := k) (k' := k') (r := r1) hr h
 | .ops _ :: k, k', r, hr, h => by obtain ⟨_, _, r1, rfl, _, hr⟩ := hr; exact exitI_rel (k := k) (k' := k') (r := r1) hr h
 | .stop _ :: k, k', r, hr, h => by obtain ⟨r1, rfl, hr⟩ := hr; exact exitI_rel (k := k) (k' := k') (r := r1) hr h
 | .dops _ _ :: k, _, _, hr, _ => hr.elim
theorem si_exit {id : Nat} {k' : List IT} (hk : exitI id k = some k') (h : SoundI P AQ ⟨k0, k', t, H⟩) : SoundI P AQ ⟨k0, .ic (.exit id) :: k, t, H⟩ := soundI_plain (fun td' hr => by
 obtain ⟨c', r, rfl, hc, hr⟩ := hr
 obtain rfl := comp_inv hc
 obtain ⟨r', h1, h2⟩ := exitI_rel hr hk
 exact sound_exit h1 (soundI_get h h2)) rfl
theorem si_cond {c : Operand} {a b : IC} {v : Bool} (hc : evT t c = .raw (.bool v)) (h1 : v = true → SoundI P AQ ⟨k0, .ic a :: k, t, H⟩) (h2 : v = false → SoundI P AQ ⟨k0, .ic b :: k, t, H⟩) : SoundI P AQ ⟨k0, .ic (.cond c a b) :: k, t, H⟩ := soundI_plain (fun td' hr => by
 obtain ⟨c', r, rfl, hcc, hr⟩ := hr
 obtain ⟨x, y, rfl, hx, hy⟩ := comp_inv hcc
 exact sound_cond hc (fun e => soundI_get (h1 e) ⟨x, r, rfl, hx, hr⟩) (fun e => soundI_get (h2 e) ⟨y, r, rfl, hy, hr⟩)) rfl
theorem si_reg {l : List OpI} (h : SoundI P AQ ⟨k0, .ops l :: k, t, H⟩) : SoundI P AQ ⟨k0, .ic (.reg l) :: k, t, H⟩ := soundI_plain (fun td' hr => by
 obtain ⟨c', r, rfl, hc, hr⟩ := hr
 obtain ⟨id, all, rfl, hl⟩ := comp_inv hc
 have := compL_rel (P := P) (all := all) 0 (os := all.toList) (fun j => by simp) hl
 simp only [Nat.zero_add, List.map_id', Array.length_toList] at this
 exact sound_region (soundI_get h ⟨all, _, r, rfl, this, hr⟩)) rfl
theorem si_opsEnd (h : SoundI P AQ ⟨k0, k, t, H⟩) : SoundI P AQ ⟨k0, .ops [] :: k, t, H⟩ := soundI_plain (fun td' hr => by
 obtain ⟨all, idx, r, rfl, ho, hr⟩ := hr
 cases idx with
 | nil => exact sound_ops_nil (soundI_get h hr)
 | cons i l => exact ho.elim) rfl
theorem si_drw {l : List (Bool × OpI)} (G : List Nat) (hm : P.follows .mixedOrders = true) (h : SoundI P AQ ⟨k0, .dops G l :: k, t, H⟩) : SoundI P AQ ⟨k0, .ic (.drw l) :: k, t, H⟩ := soundI_plain (fun td' hr => by
 obtain ⟨c', r, rfl, hc, hr⟩ := hr
 obtain ⟨id, all, rfl, hl⟩ := comp_inv hc
 exact sound_draw G hm (h all _ _ r hl hr)) rfl

def opK (P : Program) (AQ : Ex → List SV → List SObj → Prop) (k0 : Nat) (td : List IT) (t : List SV) (d : Option Tmp) : Out → List SObj → Prop
 | .ret s, H' => SoundI P AQ ⟨k0, td, putT t d s, H'⟩
 | .pan s, H' => AQ (.pan s) t H'

theorem si_op {io : OpI} {l : List OpI} (hg : io.guard = none) (h : (io.op.ev H (evT t)).to P H (opK P AQ k0 (.ops l :: k) t io.dst)) : SoundI P AQ ⟨k0, .ops (io :: l) :: k, t, H⟩ := soundI_plain (fun td' hr => by
 obtain ⟨all, idx, r, rfl, ho, hr⟩ := hr
 cases idx with
 | nil => exact ho.elim
 | cons i idx =>
  obtain ⟨⟨o, ho1, ho2⟩, ho⟩ := ho
  obtain ⟨hc, hd⟩ := compO_op ho2
  refine sound_op ho1 ((compO_wanted ho2).1 hg) (OpV.mono (ev_sound hc h) fun x H' hx => ?_)
  cases x with
  | ret s => simp only [opK, hd] at hx; exact soundI_get hx ⟨all, idx, r, rfl, ho, hr⟩
  | pan s => exact hx) rfl

theorem sound_lit {P : Program} {k : List It} (d : Nat) {v b : Bool} (hv : t.getD d .any = .raw (.bool v)) (e : v = b) (h : Sound P AQ ⟨k0, k, t.set d (.raw (.bool b)), H⟩) : Sound P AQ ⟨k0, k, t, H⟩ := by
 subst e
 have : t.set d (.raw (.bool v)) = t := by
  rcases Nat.lt_or_ge d t.length with hl | hl
  · apply List.ext_getElem?
    intro i
    by_cases hi : i = d
    · subst hi
      rw [List.getElem?_set_self hl, ← hv, List.getD_eq_getElem?_getD, List.getElem?_eq_getElem hl]; rfl
    · rw [List.getElem?_set_ne (Ne.symm hi)]
  · exact List.set_eq_of_length_le hl
 rwa [this] at h
end Go.Sx
