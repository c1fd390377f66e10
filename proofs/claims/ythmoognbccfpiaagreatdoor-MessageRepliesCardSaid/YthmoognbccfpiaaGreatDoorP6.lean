/- A part of the proof: a symbolic executor over abstract values, and its soundness. -/
import Derived.Test.YthmoognbccfpiaaGreatDoorP5
import Derived.Laws.StructEq
set_option linter.unusedSimpArgs false
set_option linter.unusedVariables false
set_option linter.unusedSectionVars false
set_option linter.unusedSectionVars false
namespace Go.Sx
open Go

variable [Ghost] {P : Program} {o : Oper} {ev : Operand → SV} {H : List SObj} {K : Out → List SObj → Prop}

def plainK (P : Program) (t : TypeId) : Option Nat := match P.underlying t with
 | some (.int _) => some 0
 | some .string => some 1
 | some .bool => some 2
 | _ => none
def flatK (P : Program) : List Field → Nat → Option (List Nat)
 | [], _ => some []
 | f :: fs, i => match plainK P f.type, flatK P fs (i + 1) with
  | some k, some ks => if f.name ≠ "_" ∧ f.offset = i ∧ aggOf P f.type = some none then some (k :: ks) else none
  | _, _ => none
def structK (P : Program) (t : TypeId) : Option (List Nat) := match P.underlying t with
 | some (.struct fs) => if P.stoodInHeld t = false ∧ P.eqGuardType P.depth t = false then flatK P fs.toList 0 else none
 | _ => none
def eqR : Nat → SV → SV → Option Bool
 | 0, .raw (.int k a), .raw (.int k' b) => if k = k' then some (decide (a = b)) else none
 | 1, .raw (.string a), .raw (.string b) => some (decide (a = b))
 | 2, .raw (.bool a), .raw (.bool b) => some (decide (a = b))
 | _, _, _ => none
def eqRs : List Nat → List SV → List SV → Option Bool
 | [], [], [] => some true
 | k :: ks, a :: l, b :: l' => match eqR k a b, eqRs ks l l' with
  | some r, some s => some (r && s)
  | _, _ => none
 | _, _, _ => none

theorem eqR_run {C : Cx} {t : TypeId} {k d : Nat} {a b : SV} {u v : Value} {r : Bool} (hk : plainK P t = some k) (h : eqR k a b = some r) (ha : a.den C u) (hb : b.den C v) (w : World) : (Op.equalIn (d + 1) t u v).run P w = .ok r w := by
 unfold plainK at hk
 unfold eqR at h
 split at h
 · rename_i k1 x k2 y
   split at h
   · rename_i e; subst e; cases h
     rw [SV.den] at ha hb; subst ha hb
     split at hk <;> first | (cases hk; done) | skip
     rw [run_equalIn_int w d t _ _ _ _ (by assumption)]; rfl
   · cases h
 · cases h
   rw [SV.den] at ha hb; subst ha hb
   split at hk <;> first | (cases hk; done) | skip
   rw [run_equalIn_string w d t _ _ (by assumption), bytes_eq]
 · cases h
   rw [SV.den] at ha hb; subst ha hb
   split at hk <;> first | (cases hk; done) | skip
   rw [run_equalIn_bool' w d t _ _ (by assumption)]; rfl
 · cases h

theorem run_part_at {t : TypeId} {pre vs : List Value} {v : Value} (h : aggOf P t = some none) (w : World) : (part t (pre ++ v :: vs).toArray pre.length).run P w = .ok v w := by
 simp [part, run_isAgg h]

theorem eqFields_run {C : Cx} {d : Nat} (w : World) : ∀ (fs : List Field) (i : Nat) (ks : List Nat) (l l' : List SV) (vs us pre pre' : List Value) (r : Bool), flatK P fs i = some ks → eqRs ks l l' = some r → SV.denL C l vs → SV.denL C l' us → pre.length = i → pre'.length = i →
 (Op.eqFields (d + 1) (pre ++ vs).toArray (pre' ++ us).toArray fs).run P w = .ok r w
 | [], i, ks, l, l', vs, us, pre, pre', r, hf, he, hl, hl', h1, h2 => by
  cases hf
  cases l with
  | nil =>
   cases l' with
   | nil => cases he; simp [Op.eqFields]
   | cons _ _ => simp [eqRs] at he
  | cons _ _ => cases l' <;> simp [eqRs] at he
 | f :: fs, i, ks, l, l', vs, us, pre, pre', r, hf, he, hl, hl', h1, h2 => by
  unfold flatK at hf
  split at hf
  · rename_i k ks' hk hks
    split at hf
    · rename_i hc
      cases hf
      obtain ⟨hn, ho, ha⟩ := hc
      cases l with
      | nil => cases l' <;> simp [eqRs] at he
      | cons a l =>
       cases l' with
       | nil => simp [eqRs] at he
       | cons b l' =>
        obtain ⟨v, vs, rfl, dv, dl⟩ := denL_cons.1 hl
        obtain ⟨u, us, rfl, du, dl'⟩ := denL_cons.1 hl'
        simp only [eqRs] at he
        split at he
        · rename_i r1 r2 he1 he2
          cases he
          have ih := eqFields_run (d := d) w fs (i + 1) ks' l l' vs us (pre ++ [v]) (pre' ++ [u]) r2 hks he2 dl dl' (by simp [h1]) (by simp [h2])
          rw [List.append_assoc, List.append_assoc, List.singleton_append, List.singleton_append] at ih
          have p1 : (part f.type (pre ++ v :: vs).toArray f.offset).run P w = .ok v w := by rw [ho, ← h1]; exact run_part_at ha w
          have p2 : (part f.type (pre' ++ u :: us).toArray f.offset).run P w = .ok u w := by rw [ho, ← h2]; exact run_part_at ha w
          have p3 := eqR_run (d := d) hk he1 dv du w
          simp only [Op.eqFields]
          rw [if_pos hn]
          simp only [Sem.run_bind, p1, p2, p3, Result.andThen_ok, Sem.run_ite]
          cases r1
          · simp
          · simpa using ih
        · cases he
    · cases hf
  · cases hf

theorem opv_eqs {op : BinOp} {t t' : TypeId} {x y : Operand} {ks : List Nat} {l l' : List SV} {r : Bool} (hop : o.op = .binOp op t x y t') (ho : op = .eql ∨ op = .neq) (hs : structK P t = some ks) (hx : ev x = .agg l) (hy : ev y = .agg l') (h : eqRs ks l l' = some r)
 (hk : K (.ret (.raw (.bool (if op = .eql then r else !r)))) H) : OpV P o ev H K := by
 refine opv_pure (by rw [hop]; intro c hc; cases hc) (fun C e _ hv => ?_) hk
 have h0 := hv x (by rw [hop]; simp [Op.operands])
 have h1 := hv y (by rw [hop]; simp [Op.operands])
 rw [hx, SV.den] at h0
 rw [hy, SV.den] at h1
 obtain ⟨vs, h0, hl⟩ := h0
 obtain ⟨us, h1, hl'⟩ := h1
 refine ⟨.bool (if op = .eql then r else !r), ?_, by rw [SV.den]⟩
 unfold structK at hs
 split at hs
 · rename_i fs hu
   split at hs
   · rename_i hc
     have hfo : P.fieldsOf t = fs := by simp [Program.fieldsOf, hu]
     have hr : (Op.equalIn 10000 t (.agg vs.toArray) (.agg us.toArray)).run P C.w = .ok r C.w := by
      rw [show (10000 : Nat) = 9999 + 1 from rfl, run_equalIn_struct C.w 9999 t _ _ (by rw [hfo]; exact hu) hc.1, hfo]
      exact eqFields_run (d := 9998) C.w fs.toList 0 ks l l' vs us [] [] r hs h hl hl' rfl rfl
     have hg := run_eqGuard_agg C.w op t x y vs.toArray us.toArray hc.2
     rcases ho with rfl | rfl
     · simp [execOp, hop, h0, h1, hg, run_eql_struct, hr, Result.andThen]
     · simp [execOp, hop, h0, h1, hg, run_neq_struct, hr, Result.andThen]
   · cases hs
 · cases hs

def kSlice (P : Program) (t : TypeId) : Bool := match P.underlying t with | some (.slice _) => true | _ => false
theorem kSlice_ok {t : TypeId} (h : kSlice P t = true) : ∃ e, P.underlying t = some (.slice e) := by
 unfold kSlice at h; split at h; exact ⟨_, by assumption⟩; cases h
def SV.emp : SV → Option Prop
 | .isl _ xs => some (xs = [])
 | .bld _ _ n => some (n = 0)
 | .osl _ _ _ n => some (n = 0)
 | _ => none
theorem emp_den {C : Cx} {s : SV} {v : Value} {E : Prop} (h : s.emp = some E) (hd : s.den C v) : ∃ A n c, v = .slice A n c ∧ (A = none → E) := by
 unfold SV.emp at h
 split at h <;> cases h <;> rw [SV.den] at hd
 · obtain ⟨A, n, c, hv, _, _, _, hx⟩ := hd
   cases hv
   refine ⟨A, n, c, rfl, fun ha => ?_⟩
   rcases hx with rfl | ⟨b, off, rfl, _⟩
   · rfl
   · cases ha
 · obtain ⟨_, ⟨_, rfl, rfl⟩ | ⟨b, c, m, _, rfl, _⟩⟩ := hd
   · exact ⟨none, 0, 0, rfl, fun _ => rfl⟩
   · exact ⟨_, _, c, rfl, fun h => by cases h⟩
 · obtain ⟨_, A, c, rfl, _, hx⟩ := hd
   refine ⟨A, _, c, rfl, fun ha => ?_⟩
   rcases hx with rfl | ⟨b, _, rfl⟩
   · rfl
   · cases ha
theorem snil_in {t e : TypeId} (hu : P.underlying t = some (.slice e)) (A : Option Addr) (n c k : Nat) (w : World) : (Op.equalIn (k + 1) t (.slice A n c) (.slice none 0 0)).run P w = .ok A.isNone w := by
 have : (underlying t).run P w = .ok (.slice e) w := by simp [underlying, hu]
 cases A <;> simp [Op.equalIn, this]
theorem snil_run {t : TypeId} (hs : kSlice P t = true) (A : Option Addr) (n c : Nat) (w : World) :
 (binOp .eql t (.slice A n c) (.slice none 0 0)).run P w = .ok (.bool A.isNone) w ∧ (binOp .neq t (.slice A n c) (.slice none 0 0)).run P w = .ok (.bool !A.isNone) w := by
 obtain ⟨e, hu⟩ := kSlice_ok hs
 have hr : (Op.equal t (.slice A n c) (.slice none 0 0)).run P w = .ok A.isNone w := snil_in hu A n c 9999 w
 cases A <;> simp [binOp, hr]
theorem opv_snil {op : BinOp} {t t' : TypeId} {x y : Operand} {E : Prop} (hop : o.op = .binOp op t x y t') (ho : op = .eql ∨ op = .neq) (hs : kSlice P t = true) (hx : (ev x).emp = some E) (hy : ev y = .raw (.slice none 0 0))
 (hk : ∀ b : Bool, (b = true → E) → K (.ret (.raw (.bool (if op = .eql then b else !b)))) H) : OpV P o ev H K := by
 refine opv_eff (by rw [hop]; intro c hc; cases hc) fun C e hw hv => ?_
 have h0 := hv x (by rw [hop]; simp [Op.operands])
 have h1 := hv y (by rw [hop]; simp [Op.operands])
 rw [hy, SV.den] at h1
 obtain ⟨A, n, c, h0, hE⟩ := emp_den hx h0
 obtain ⟨g1, g2⟩ := snil_run hs A n c C.w
 have hgd : (eqGuard op t x y (.slice A n c) (.slice none 0 0)).run P C.w = .ok () C.w := by unfold eqGuard; split <;> simp
 refine ⟨_, .bool (if op = .eql then A.isNone else !A.isNone), H, C, hk A.isNone (fun h => hE (by simpa using h)), .inl ?_, hw, Ext.refl _ _, by rw [SV.den]⟩
 rcases ho with rfl | rfl
 · simp [execOp, hop, h0, h1, hgd, g1, Result.andThen]
 · simp [execOp, hop, h0, h1, hgd, g2, Result.andThen]
theorem opv_nilnil {op : BinOp} {t t' : TypeId} {x y : Operand} (hop : o.op = .binOp op t x y t') (ho : op = .eql ∨ op = .neq) (hs : kSlice P t = true) (hx : ev x = .raw (.slice none 0 0)) (hy : ev y = .raw (.slice none 0 0))
 (hk : K (.ret (.raw (.bool (if op = .eql then true else false)))) H) : OpV P o ev H K := by
 refine opv_pure (by rw [hop]; intro c hc; cases hc) (fun C e _ hv => ?_) hk
 have h0 := hv x (by rw [hop]; simp [Op.operands])
 have h1 := hv y (by rw [hop]; simp [Op.operands])
 rw [hx, SV.den] at h0
 rw [hy, SV.den] at h1
 obtain ⟨g1, g2⟩ := snil_run hs none 0 0 C.w
 have hgd : (eqGuard op t x y (.slice none 0 0) (.slice none 0 0)).run P C.w = .ok () C.w := by unfold eqGuard; split <;> simp
 refine ⟨.bool (if op = .eql then true else false), ?_, by rw [SV.den]⟩
 rcases ho with rfl | rfl
 · simp [execOp, hop, h0, h1, hgd, g1, Result.andThen]
 · simp [execOp, hop, h0, h1, hgd, g2, Result.andThen]
theorem opv_indexAddr_arr {P : Program} {o : Oper} {ev : Operand → SV} {H : List SObj} {K : Out → List SObj → Prop} {t e' : TypeId} {x i : Operand} {len sz : Nat} {k : IntKind} {n : Int} {s : SV} (hop : o.op = .indexAddr t x i) (ht : P.underlying t = some (.array len e')) (hs : (P.info? e').map (·.size) = some sz) (hi : ev i = .raw (.int k n))
 (ha : (ev x).add (n.toNat * sz) = some s) (h0 : 0 ≤ n) (hb : n.toNat < len) (hk : K (.ret s) H) : OpV P o ev H K := by
 refine opv_pure (by rw [hop]; intro c hc; cases hc) (fun C e _ hv => ?_) hk
 have h2 := hv i (by rw [hop]; simp [Op.operands])
 rw [hi, SV.den] at h2
 obtain ⟨b, p, hx, hd⟩ := add_den ha (hv x (by rw [hop]; simp [Op.operands]))
 have hlt : n < (len : Int) := by omega
 exact ⟨_, by simp [execOp, hop, hx, h2, Instr.indexAt, asIntOf, run_underlying' ht, Instr.sureAddr, h0, hlt, run_sizeOf hs, addr_add, Result.andThen], hd⟩

theorem ok_den {C : Cx} {s : SV} {v : Value} {b : Bool} (h : s.den C v) : (SV.tup [s, .raw (.bool b)]).den C (.tuple #[v, .bool b]) := by
 rw [SV.den]
 exact ⟨[v, .bool b], rfl, denL_cons.2 ⟨_, _, rfl, h, denL_cons.2 ⟨_, _, rfl, by rw [SV.den], denL_nil.2 rfl⟩⟩⟩
theorem notIface_ok {P : Program} {T : TypeId} (h : notIface P T = true) : ∃ d, P.underlying T = some d ∧ ∀ ms, d ≠ .interface ms := by
 unfold notIface at h
 split at h
 · cases h
 · rename_i d hne hd; exact ⟨d, hd, fun ms e => hne ms e⟩
 · cases h
theorem opv_ta_yes {P : Program} {o : Oper} {ev : Operand → SV} {H : List SObj} {K : Out → List SObj → Prop} {x : Operand} {xT T : TypeId} {y : SV} (hop : o.op = .typeAssert x xT T true) (hn : notIface P T = true) (hx : ev x = .iface T y) (hk : K (.ret (.tup [y, .raw (.bool true)])) H) : OpV P o ev H K := by
 refine opv_pure (by rw [hop]; intro c hc; cases hc) (fun C e _ hv => ?_) hk
 have h1 := hv x (by rw [hop]; simp [Op.operands])
 rw [hx, SV.den] at h1
 obtain ⟨u, h1, h2⟩ := h1
 refine ⟨.tuple #[u, .bool true], ?_, ok_den h2⟩
 obtain ⟨d, hd, hni⟩ := notIface_ok hn
 cases d <;> first | exact absurd rfl (hni _) | simp [execOp, hop, h1, Instr.typeAssert, run_underlying' hd, Result.andThen]
theorem opv_ta_no {P : Program} {o : Oper} {ev : Operand → SV} {H : List SObj} {K : Out → List SObj → Prop} {x : Operand} {xT T : TypeId} {z : Value} (hop : o.op = .typeAssert x xT T true) (hn : notIface P T = true) (hz : zeroOf P T = some z) (hx : ev x = .raw .nilIface ∨ ∃ T' y, T' ≠ T ∧ ev x = .iface T' y) (hk : K (.ret (.tup [.ofV z, .raw (.bool false)])) H) : OpV P o ev H K := by
 refine opv_pure (by rw [hop]; intro c hc; cases hc) (fun C e _ hv => ?_) hk
 have h1 := hv x (by rw [hop]; simp [Op.operands])
 refine ⟨.tuple #[z, .bool false], ?_, ok_den (ofV_den z)⟩
 have hzr := zeroOf_run hz C.w
 obtain ⟨d, hd, hni⟩ := notIface_ok hn
 rcases hx with hx | ⟨T', y, hne, hx⟩ <;> rw [hx, SV.den] at h1
 · cases d <;> first | exact absurd rfl (hni _) | simp [execOp, hop, h1, Instr.typeAssert, run_underlying' hd, hzr, Result.andThen]
 · obtain ⟨u, h1, _⟩ := h1
   cases d <;> first | exact absurd rfl (hni _) | simp [execOp, hop, h1, Instr.typeAssert, run_underlying' hd, hzr, hne, Result.andThen]
end Go.Sx
namespace Go.Sx
open Go

inductive IOp where
 | mov (x : Operand)
 | pick (c x y : Operand)
 | nil (x : Operand)
 | new (T : TypeId) (zs : List Value)
 | box (T : TypeId) (x : Operand)
 | ld (ag : Option Nat) (x : Operand)
 | st (n : Nat) (x y : Operand)
 | bin (op : BinOp) (k : Nat) (x y : Operand)     -- k: 1 pointers, 2 functions, 3 bools may be compared
 | un (op : UnOp) (x : Operand)
 | toInt (k : IntKind) (x : Operand)
 | toStr (b : Bool) (x : Operand)                 -- b: of bytes, not of a string
 | fa (off : Nat) (x : Operand)
 | fld (off : Nat) (ag : Option Nat) (x : Operand)
 | ia (sz : Nat) (x i : Operand)
 | ixs (x i : Operand)
 | len (k : Bool) (x : Operand)                   -- k: a string
 | ext (i : Nat) (x : Operand)
 | mkf (f : Nat) (fi ca : List Operand)
 | mki (T : TypeId) (x : Operand)
 | bld (zs : List Value) (pl : PlaceK) (ps : List (Nat × Operand))
 | bsl (t : Ty) (n sz : Nat) (zs : List Value) (ps : List (Nat × Operand))
 | app (t : Ty) (by_ : Nat) (x y : Operand)
 | sl (k : Option Nat) (x : Operand) (lo hi : Option Operand)   -- k: none: a string; some n: a slice of elements of n cells
 | call (f : Operand) (args : List Operand)
 | pan (x : Operand)
 | mkm (kk : Option IntKind)
 | mup (kk : Option IntKind) (m k x : Operand)
 | mlk (kk : Option IntKind) (z : Value) (ok : Bool) (m k : Operand)
 | mln (x : Operand)
 | mks (t : Ty) (by_ : Nat) (x y : Operand)
 | toB (x : Operand)
 | eqs (neg : Bool) (ks : List Nat) (x y : Operand)
 | sl3 (k : Nat) (f : Bool) (x : Operand) (lo : Option Operand) (hi mx : Operand)
 | iaa (len sz : Nat) (x i : Operand)
 | ta (T : TypeId) (z : Value) (x : Operand)
 | mxm (b : Bool) (x y : Operand)
 | ldS (ag : Option Nat) (x : Operand)   -- a load that floats over stores to other objects

def tyOf (P : Program) : Nat → TypeId → Option Ty
 | 0, _ => none
 | n + 1, T => match P.underlying T with
  | some .bool => some .bool
  | some (.int .u8) => some .u8
  | some (.int k) => some (.int k)
  | some .string => some .str
  | some (.slice e) => (tyOf P n e).map .slice
  | some (.struct fs) => fs.toList.foldr (fun f acc => match tyOf P n f.type, acc with
   | some a, some (some b) => some (some (.prod a b))
   | some a, some none => some (some a)
   | _, _ => none) (some none) |>.bind id
  | some (.array m e) => (tyOf P n e).bind fun a => match m with
   | 0 => none
   | m + 1 => some ((List.replicate m a).foldr (fun x acc => .prod x acc) a)
  | _ => none

def eqK (P : Program) (t : TypeId) : Nat :=
 if kPtr P t then 1 else if kFunc P t then 2 else if kBool P t then 3 else if kSlice P t then 5 else 0

def mapKey (P : Program) (T : TypeId) : Option (Option IntKind) := match P.underlying T with
 | some (.map kt _) => keyKind P kt
 | _ => none
def mapZero (P : Program) (T : TypeId) : Option Value := match P.underlying T with
 | some (.map _ et) => zeroOf P et
 | _ => none
theorem mapKey_ok {P : Program} {T : TypeId} {kk : Option IntKind} (h : mapKey P T = some kk) : ∃ kt et, P.underlying T = some (.map kt et) ∧ keyKind P kt = some kk ∧ mapZero P T = zeroOf P et := by
 unfold mapKey at h
 split at h
 · exact ⟨_, _, by assumption, h, by simp [mapZero, *]⟩
 · cases h

def sameOpd : Operand → Operand → Bool
 | .tmp i, .tmp j => i == j
 | .const (.int k a), .const (.int k' b) => k == k' && a == b
 | _, _ => false
theorem sameOpd_eq {x y : Operand} (h : sameOpd x y = true) : x = y := by
 unfold sameOpd at h
 split at h
 · simpa using h
 · simp only [Bool.and_eq_true, beq_iff_eq] at h; rw [h.1, h.2]
 · cases h
def compOp (P : Program) : Op → Option IOp
 | .move x => some (.mov x)
 | .assign x => some (.mov x)
 | .pick c x y => some (.pick c x y)
 | .nilCheck x => some (.nil x)
 | .alloc T => ((P.info? T).bind fun i => i.zero.map (·.cells.toList)).map (.new T ·)
 | .box T x => some (.box T x)
 | .load t x => (aggOf P t).map (.ld · x)
 | .store t x y => ((P.info? t).map (·.size)).map (.st · x y)
 | .binOp op t x y _ => match structK P t with
  | some ks => match op with
   | .eql => some (.eqs false ks x y)
   | .neq => some (.eqs true ks x y)
   | _ => none
  | none => some (.bin op (eqK P t) x y)
 | .unOp op _ x => some (.un op x)
 | .convert s d x => match P.underlying s, P.underlying d with
  | some _, some (.int k) => some (.toInt k x)
  | some (.slice e), some .string => match P.underlying e with
   | some (.int .u8) => some (.toStr true x)
   | _ => none
  | some .string, some .string => some (.toStr false x)
  | some .string, some (.slice e) => match P.underlying e with
   | some (.int .u8) => some (.toB x)
   | _ => none
  | _, _ => none
 | .fieldAddr t x f => match fieldOf P t f with
  | some (off, ft) => match (P.info? ft).map (·.size) with
   | some (_ + 1) => some (.fa off x)
   | _ => none
  | none => none
 | .field t x f => match fieldOf P t f with
  | some (off, ft) => (aggOf P ft).map (.fld off · x)
  | none => none
 | .indexAddr t x i => match P.underlying t with
  | some (.slice e) => ((P.info? e).map (·.size)).map (.ia · x i)
  | some (.array len e) => ((P.info? e).map (·.size)).map (.iaa len · x i)
  | _ => none
 | .index t x i => match P.underlying t with
  | some .string => some (.ixs x i)
  | _ => none
 | .extract x i => some (.ext i x)
 | .makeFunc (.func f) fi ca => some (.mkf f fi.toList ca.toList)
 | .makeInterface T x => if notIface P T then some (.mki T x) else none
 | .build t ps => match (P.info? t).bind (fun i => i.zero.map (·.cells.toList)), placesOf P t with
  | some zs, some pl => some (.bld zs pl ps.toList)
  | _, _ => none
 | .buildSlice t n ps => match P.underlying t with
  | some (.slice e) => match tyOf P 8 e, (P.info? e).map (·.size), zerosOf P e n with
   | some ty, some sz, some zs => some (.bsl ty n sz zs ps.toList)
   | _, _, _ => none
  | _ => none
 | .slice t x lo hi none => match P.underlying t with
  | some .string => some (.sl none x lo hi)
  | some (.slice e) => ((P.info? e).map (·.size)).map fun n => .sl (some n) x lo hi
  | _ => none
 | .slice t x lo (some hi) (some mx) => match P.underlying t with
  | some (.slice e) => ((P.info? e).map (·.size)).map fun n => .sl3 n (lo.isNone && sameOpd hi mx) x lo hi mx
  | _ => none
 | .makeSlice t x y => match P.underlying t with
  | some (.slice e) => match P.info? e, tyOf P 8 e with
   | some i, some ty => match i.zero with
    | some z => if i.size = ty.size ∧ z.cells.size = ty.size ∧ 0 < ty.size ∧ ty.isZero z.cells.toList = true then some (.mks ty i.bytes x y) else none
    | none => none
   | _, _ => none
  | _ => none
 | .call c => match c.callee with
  | .value f => some (.call f c.args.toList)
  | .builtin .len => match c.args.toList, c.argTypes.toList with
   | [x], [t] => match P.underlying t with
    | some .string => some (.len true x)
    | some (.slice _) => some (.len false x)
    | some (.map _ _) => some (.mln x)
    | _ => none
   | _, _ => none
  | .builtin .append => match c.args.toList, c.argTypes.toList with
   | [x, y], [tS, tX] => match P.underlying tS, srcType P tX with
    | some (.slice e), some _ => match P.info? e, tyOf P 8 e with
     | some i, some ty => match i.zero with
      | some z => if i.size = ty.size ∧ z.cells.size = ty.size then some (.app ty i.bytes x y) else none
      | none => none
     | _, _ => none
    | _, _ => none
   | _, _ => none
  | .builtin .max => match c.args.toList with
   | [x, y] => some (.mxm true x y)
   | _ => none
  | .builtin .min => match c.args.toList with
   | [x, y] => some (.mxm false x y)
   | _ => none
  | _ => none
 | .typeAssert x _ T true => if notIface P T then (zeroOf P T).map (.ta T · x) else none
 | .panic x => some (.pan x)
 | .makeMap T none => (mapKey P T).map .mkm
 | .mapUpdate T m k x => (mapKey P T).map (.mup · m k x)
 | .insert T m k x => (mapKey P T).map (.mup · m k x)
 | .lookup T m k ok => match mapKey P T, mapZero P T with
  | some kk, some z => some (.mlk kk z ok m k)
  | _, _ => none
 | _ => none

inductive Res where
 | val (p : Prop) (s : SV)
 | amb (E : Prop) (s : Bool → SV)                            -- one of two; if true, E
 | new (p : Prop) (s : SV) (Hk : List SObj) (so : SObj)      -- the memory is Hk ++ [so]
 | set (s : SV) (h : Nat) (so : SObj)
 | setp (p : Prop) (s : SV) (h : Nat) (so : SObj)
 | call (f : FuncId) (args : List SV)
 | pan (s : SV)
 | zld (ag : Option Nat) (b off : Nat)                       -- what lies at an address
 | zst (n : Nat) (b off : Nat) (y : SV)
 | yld (l : Nat) (args : List SV)                            -- a round of a loop over a function
 | none

def evLd (H : List SObj) (ag : Option Nat) : SV → Res
 | .ptr h off => match H[h]? with
  | some (.cells _ cs) => match pick cs off ag with
   | some s => .val True s
   | .none => .none
  | _ => .none
 | .iptr t x k => match pick (t.cells x) k ag with
  | some s => .val True s
  | .none => .none
 | .rptr h t i k => match H[h]? with
  | some (.row t' xs) => if t' = t then (match pick (t'.cells (xs.getD i t'.dflt)) k ag with
   | some s => .val (i < xs.length) s
   | .none => .none) else .none
  | _ => .none
 | .raw (.pointer (some ⟨b, off, none⟩)) => .zld ag b off
 | _ => .none

def evSt (H : List SObj) (n : Nat) (y : SV) : SV → Res
 | .ptr h off => match H[h]?, y.flat with
  | some (.cells T cs), some ds => if ds.length = n ∧ off + n ≤ cs.length ∧ ones ds = true then .set .any h (.cells T (splice cs off ds)) else .none
  | _, _ => .none
 | .rptr h t i k => match H[h]?, y.flat with
  | some (.row t' xs), some ds => if t' = t ∧ ds.length = n ∧ k + n ≤ t'.size ∧ ones ds = true then (match t'.rd (splice (t'.cells (xs.getD i t'.dflt)) k ds) with
   | some (d, p) => .setp (i < xs.length ∧ p) .any h (.row t' (xs.set i d))
   | .none => .none) else .none
  | _, _ => .none
 | .raw (.pointer (some ⟨b, off, none⟩)) => .zst n b off y
 | _ => .none

def eqOk (k : Nat) : SV → Bool
 | .raw (.pointer .none) => k == 1
 | .raw .nilFunc => k == 2
 | .raw (.bool _) => k == 3
 | _ => false
def evNil (op : BinOp) (x y : SV) : Res := match y with
 | .raw (.slice none 0 0) => match x with
  | .raw (.slice none 0 0) => (match op with
   | .eql => .val True (.raw (.bool true))
   | .neq => .val True (.raw (.bool false))
   | _ => .none)
  | _ => match x.emp with
   | some E => (match op with
    | .eql => .amb E fun b => .raw (.bool b)
    | .neq => .amb E fun b => .raw (.bool !b)
    | _ => .none)
   | .none => .none
 | _ => .none
def evEq (op : BinOp) (k : Nat) (x y : SV) : Res := if k = 5 then evNil op x y else
 match eqV x y with
 | some r => if eqOk k y then (match op with
  | .eql => .val True (.raw (.bool r))
  | .neq => .val True (.raw (.bool !r))
  | _ => .none) else .none
 | .none => .none
def evBin (op : BinOp) (k : Nat) : SV → SV → Res
 | .raw a, .raw b => match binV op a b with
  | some (v, p) => .val p (.raw v)
  | .none => evEq op k (.raw a) (.raw b)
 | x, y => evEq op k x y
def lenOk (k : Bool) : SV → Bool
 | .raw (.string _) => k
 | _ => !k
def slOk : Option Nat → SV → Bool
 | .none, .raw (.string _) => true
 | some n, .isl t _ => n == t.size
 | some n, .bld _ t _ => n == t.size
 | some n, .osl _ t _ _ => n == t.size
 | some _, .raw (.slice .none 0 0) => true
 | _, _ => false

def IOp.ev (H : List SObj) (ev : Operand → SV) : IOp → Res
 | .mov x => .val True (ev x)
 | .pick c x y => match ev c with
  | .raw (.bool b) => .val True (if b then ev x else ev y)
  | _ => .none
 | .nil x => if (ev x).nonNil then .val True (ev x) else .none
 | .new T zs => .new True (.ptr H.length 0) H (.cells T (rawL zs))
 | .box T x => match (ev x).flat with
  | some cs => .new True (.ptr H.length 0) H (.cells T cs)
  | .none => .none
 | .ld ag x => evLd H ag (ev x)
 | .ldS ag x => evLd H ag (ev x)
 | .st n x y => evSt H n (ev y) (ev x)
 | .bin op k x y => evBin op k (ev x) (ev y)
 | .eqs neg ks x y => match ev x, ev y with
  | .agg l, .agg l' => match eqRs ks l l' with
   | some r => .val True (.raw (.bool (if neg then !r else r)))
   | .none => .none
  | _, _ => .none
 | .un op x => match ev x with
  | .raw a => match unV op a with
   | some v => .val True (.raw v)
   | .none => .none
  | _ => .none
 | .toInt k x => match ev x with
  | .raw (.int _ n) => .val True (.raw (.int k (k.wrap n)))
  | _ => .none
 | .toStr true x => match ev x with
  | .isl .u8 xs => .val True (.raw (.string (strOf xs)))
  | .raw (.slice Option.none 0 0) => .val True (.raw (.string (strOf [])))
  | .bld h .u8 n => match H[h]? with
   | some (.row .u8 xs) => .val (n ≤ xs.length ∧ xs.length ≤ 1125899906842624) (.raw (.string (strOf (xs.take n))))
   | _ => .none
  | _ => .none
 | .toStr false x => match ev x with
  | .raw (.string s) => .val True (.raw (.string s))
  | _ => .none
 | .fa off x => match (ev x).add off with
  | some s => .val True s
  | .none => .none
 | .fld off ag x => match ev x with
  | .agg l => match Sx.pick l off ag with
   | some s => .val True s
   | .none => .none
  | _ => .none
 | .ia sz x i => match ev i with
  | .raw (.int _ n) => match (ev x).wk with
   | .isl t xs => if sz = t.size then .val (0 ≤ n ∧ n.toNat < xs.length) (.iptr t (xs.getD n.toNat t.dflt) 0) else .none
   | .bld h t m => if sz = t.size then .val (0 ≤ n ∧ n.toNat < m) (.rptr h t (0 + n.toNat) 0) else .none
   | .osl h t off m => if sz = t.size then .val (0 ≤ n ∧ n.toNat < m) (.rptr h t (off + n.toNat) 0) else .none
   | .raw (.slice (some ⟨b, off, none⟩) m _) => .val (0 ≤ n ∧ n.toNat < m) (.raw (.pointer (some ⟨b, off + n.toNat * sz, none⟩)))
   | _ => .none
  | _ => .none
 | .iaa m sz x i => match ev i with
  | .raw (.int _ n) => match (ev x).add (n.toNat * sz) with
   | some s => .val (0 ≤ n ∧ n.toNat < m) s
   | .none => .none
  | _ => .none
 | .ta T z x => match ev x with
  | .iface T' y => if T' = T then .val True (.tup [y, .raw (.bool true)]) else .val True (.tup [.ofV z, .raw (.bool false)])
  | .raw .nilIface => .val True (.tup [.ofV z, .raw (.bool false)])
  | _ => .none
 | .ixs x i => match ev x, ev i with
  | .raw (.string s), .raw (.int _ n) => .val (0 ≤ n ∧ n.toNat < s.size) (.raw (.int .u8 (s.data.toList.getD n.toNat 0).toNat))
  | _, _ => .none
 | .len k x => match (ev x).wk.len with
  | some n => if lenOk k (ev x).wk then .val True (.raw (.int .i64 n)) else .none
  | .none => .none
 | .ext i x => match ev x with
  | .tup l => match l[i]? with
   | some s => .val True s
   | .none => .none
  | _ => .none
 | .mkf f fi ca => .val True (.fn f (fi.map ev) (ca.map ev))
 | .mki T x => .val True (.iface T (ev x))
 | .bld zs pl ps => match fillS pl.fn (rawL zs) (ps.map fun p => (p.1, ev p.2)) with
  | some cs => .val True (.agg cs)
  | .none => .none
 | .bsl t n sz zs ps => match fillS (PlaceK.arr sz).fn (rawL zs) (ps.map fun p => (p.1, ev p.2)) with
  | some cs => match rdL t n cs with
   | some (xs, p) => .new p (.bld H.length t n) H (.row t xs)
   | .none => .none
  | .none => .none
 | .app t by_ x y => match ev x with
  | .fsl t' xs => match srcS t' H (ev y) with
   | some (ys, p) => if t' = t then .val (p ∧ xs.length + ys.length ≤ 1125899906842624 ∧ (xs.length + ys.length) * by_ ≤ 140737488355328) (.isl t' (xs ++ ys)) else .none
   | _ => .none
  | _ => match dstOf t H (ev x), srcS t H (ev y) with
   | some (Hk, xs, n), some (ys, p) => .new (n = xs.length ∧ p ∧ xs.length + ys.length ≤ 1125899906842624 ∧ (xs.length + ys.length) * by_ ≤ 140737488355328) (.bld H.length t (xs.length + ys.length)) Hk (.row t (xs ++ ys))
   | _, _ => .none
 | .sl k x lo hi => match bndV ev lo, bndV ev hi with
  | some a, some b => match sliceTo (loOf a).toNat (hiOf (lenOfS (ev x)) b).toNat (ev x) with
   | some s => if slOk k (ev x) then .val (0 ≤ loOf a ∧ loOf a ≤ hiOf (lenOfS (ev x)) b ∧ hiOf (lenOfS (ev x)) b ≤ (lenOfS (ev x) : Int)) s else .none
   | .none => .none
  | _, _ => .none
 | .call f args => match ev f with
  | .fn g fi ca => .call g (fi ++ args.map (fun x => (ev x).wk) ++ ca)
  | .raw v => match isYld v with
   | some l => .yld l (args.map (fun x => (ev x).wk))
   | _ => match isFn v with
    | some (g, fi, ca) => .call g (rawL fi ++ args.map (fun x => (ev x).wk) ++ rawL ca)
    | _ => .none
  | _ => .none
 | .mxm b x y => match ev x, ev y with
  | .raw (.int k m), .raw (.int _ n) => .val True (.raw (.int k (mxV b m n)))
  | _, _ => .none
 | .pan x => match ev x with
  | .iface T s => .pan (.iface T s)
  | _ => .none
 | .mkm kk => .new True (.mp H.length) H (.map kk [] [])
 | .mup kk m k x => match ev m, ev k with
  | .mp h, .raw kv => match (ev x).toV, H[h]? with
   | some xv, some (.map kk' ks vs) => if kk' = kk ∧ keyIs kk kv = true then .set .any h (.map kk (mput ks vs kv xv).1 (mput ks vs kv xv).2) else .none
   | _, _ => .none
  | _, _ => .none
 | .mlk kk z ok m k => match mapOf H (ev m), ev k with
  | some (kk', ks, vs), .raw kv => if kk' = kk ∧ keyIs kk kv = true then .val True (mres ok (mget ks vs z kv)) else .none
  | _, _ => .none
 | .mln x => match mapOf H (ev x) with
  | some (_, ks, _) => .val True (.raw (.int .i64 ks.length))
  | .none => .none
 | .mks t by_ x y => match ev x, ev y with
  | .raw (.int _ n), .raw (.int _ c) => .new (0 ≤ n ∧ n ≤ c ∧ c.toNat * by_ ≤ 140737488355328 ∧ c ≤ 1125899906842624) (.bld H.length t n.toNat) H (.row t (List.replicate n.toNat t.dflt))
  | _, _ => .none
 | .toB x => match ev x with
  | .raw (.string s) => .new True (.bld H.length .u8 s.size) H (.row .u8 (bytesOf s))
  | _ => .none
 | .sl3 k f x lo hi mx => match bndV ev lo, bndV ev (some hi), bndV ev (some mx) with
  | some a, some (some b), some (some m) => match sliceTo (loOf a).toNat b.toNat (ev x) with
   | some s => if slOk (some k) (ev x) then .val (0 ≤ loOf a ∧ loOf a ≤ b ∧ b ≤ m ∧ m ≤ (lenOfS (ev x) : Int)) (fullS (decide (b = m)) s) else .none
   | .none => .none
  | _, _, _ => .none
end Go.Sx
set_option linter.unusedSectionVars false
namespace Go.Sx
open Go

variable [Ghost] {P : Program} {o : Oper} {ev : Operand → SV} {H : List SObj} {K : Out → List SObj → Prop}

def Res.to (P : Program) (H : List SObj) (K : Out → List SObj → Prop) : Res → Prop
 | .val p s => p ∧ K (.ret s) H
 | .amb E s => ∀ b : Bool, (b = true → E) → K (.ret (s b)) H
 | .new p s Hk so => p ∧ K (.ret s) (Hk ++ [so])
 | .set s h so => K (.ret s) (H.set h so)
 | .setp p s h so => p ∧ K (.ret s) (H.set h so)
 | .call f args => enters P f = true ∧ VCallG P f args H K
 | .pan s => K (.pan s) H
 | .zld ag b off => ∀ E C, Wd C H → Ghost.inv E C H → ∃ s, ZLd C ag b off s ∧ K (.ret s) H
 | .zst n b off y => ∃ ds, y.flat = some ds ∧ ds.length = n ∧ ones ds = true ∧ (∀ E C us, Wd C H → Ghost.inv E C H → SV.denL C ds us → ZSt E C H b off us) ∧ K (.ret .any) H
 | .yld l args => VYld P l args H K
 | .none => False

theorem ld_sound {t : TypeId} {x : Operand} {ag : Option Nat} (hop : o.op = .load t x) (ha : aggOf P t = some ag) (h : (evLd H ag (ev x)).to P H K) : OpV P o ev H K := by
 generalize he : ev x = s at h
 unfold evLd at h
 split at h
 · split at h
   · split at h
     · exact opv_load_ptr hop ha he (by assumption) (by assumption) h.2
     · exact h.elim
   · exact h.elim
 · split at h
   · exact opv_load_iptr hop ha he (by assumption) h.2
   · exact h.elim
 · split at h
   · split at h
     · rename_i e
       split at h
       · rename_i hp
         subst e
         obtain ⟨h1, h2⟩ := h
         refine opv_load_rptr hop ha he (by assumption) ?_ hp h2
         rw [List.getD_eq_getElem?_getD, List.getElem?_eq_getElem h1]; rfl
       · exact h.elim
     · exact h.elim
   · exact h.elim
 · exact opv_zld hop ha he h
 · exact h.elim

theorem st_sound {t : TypeId} {x y : Operand} {n : Nat} (hop : o.op = .store t x y) (ha : (P.info? t).map (·.size) = some n) (h : (evSt H n (ev y) (ev x)).to P H K) : OpV P o ev H K := by
 generalize he : ev x = s at h
 unfold evSt at h
 split at h
 · split at h
   · split at h
     · rename_i hc
       exact opv_store_ptr hop ha he (by assumption) (by assumption) hc.1 hc.2.1 hc.2.2 h
     · exact h.elim
   · exact h.elim
 · split at h
   · split at h
     · rename_i hc
       split at h
       · obtain ⟨rfl, hc1, hc2, hc3⟩ := hc
         exact opv_store_rptr hop ha he (by assumption) h.1.1 (by assumption) hc1 hc2 hc3 (by assumption) h.1.2 h.2
       · exact h.elim
     · exact h.elim
   · exact h.elim
 · obtain ⟨ds, hf, hn, h1, hz, hk⟩ := h
   exact opv_zst hop ha he hf hn h1 hz hk
 · exact h.elim

theorem eqK_ok {t : TypeId} {s : SV} (h : eqOk (eqK P t) s = true) : eqKind P t s = true := by
 have e1 : eqK P t = 1 → kPtr P t = true := fun e => by unfold eqK at e; split at e; assumption; split at e; cases e; split at e; cases e; split at e <;> cases e
 have e2 : eqK P t = 2 → kFunc P t = true := fun e => by unfold eqK at e; split at e; cases e; split at e; assumption; split at e; cases e; split at e <;> cases e
 have e3 : eqK P t = 3 → kBool P t = true := fun e => by unfold eqK at e; split at e; cases e; split at e; cases e; split at e; assumption; split at e <;> cases e
 unfold eqOk at h
 split at h
 · exact e1 (by simpa using h)
 · exact e2 (by simpa using h)
 · exact e3 (by simpa using h)
 · cases h

theorem eq_sound {op : BinOp} {t t' : TypeId} {x y : Operand} (hop : o.op = .binOp op t x y t') (h : (evEq op (eqK P t) (ev x) (ev y)).to P H K) : OpV P o ev H K := by
 unfold evEq at h
 split at h
 · rename_i hk5
   have hs : kSlice P t = true := by unfold eqK at hk5; split at hk5; cases hk5; split at hk5; cases hk5; split at hk5; cases hk5; split at hk5; assumption; cases hk5
   unfold evNil at h
   split at h
   · rename_i hy
     split at h
     · rename_i hx
       split at h
       · exact opv_nilnil hop (.inl rfl) hs hx hy (by simpa using h.2)
       · exact opv_nilnil hop (.inr rfl) hs hx hy (by simpa using h.2)
       · exact h.elim
     · split at h
       · rename_i E hE
         split at h
         · exact opv_snil hop (.inl rfl) hs hE hy (fun b hb => by simpa using h b hb)
         · exact opv_snil hop (.inr rfl) hs hE hy (fun b hb => by simpa using h b hb)
         · exact h.elim
       · exact h.elim
   · exact h.elim
 split at h
 · rename_i r hr
   split at h
   · rename_i hk
     split at h
     · exact opv_eql hop (.inl rfl) hr (eqK_ok hk) (by simpa using h.2)
     · exact opv_eql hop (.inr rfl) hr (eqK_ok hk) (by simpa using h.2)
     · exact h.elim
   · exact h.elim
 · exact h.elim

theorem bin_sound {op : BinOp} {t t' : TypeId} {x y : Operand} (hop : o.op = .binOp op t x y t') (h : (evBin op (eqK P t) (ev x) (ev y)).to P H K) : OpV P o ev H K := by
 generalize hx : ev x = sx at h
 generalize hy : ev y = sy at h
 unfold evBin at h
 split at h
 · split at h
   · exact opv_bin hop hx hy (by assumption) h.1 h.2
   · exact eq_sound hop (by rw [hx, hy]; exact h)
 · exact eq_sound hop (by rw [hx, hy]; exact h)

theorem OpV.wk (h : OpV P o (fun y => (ev y).wk) H K) : OpV P o ev H K :=
 fun E C r n a next Q hw hg hv h1 h2 => h E C r n a next Q hw hg (fun x hx => wk_le _ _ _ (hv x hx)) h1 h2
theorem wk_raw {s : SV} {v : Value} (h : s = .raw v) : s.wk = .raw v := by rw [h]; rfl
theorem len_sound {c : Call} {t : TypeId} {x : Operand} {k : Bool} (hop : o.op = .call c) (hc : c.callee = .builtin .len) (ha : c.args = #[x]) (hty : c.argTypes = #[t]) (hk : (k = true ∧ P.underlying t = some .string) ∨ (k = false ∧ ∃ e, P.underlying t = some (.slice e)))
 (h : ((IOp.len k x).ev H ev).to P H K) : OpV P o ev H K := by
 refine OpV.wk ?_
 simp only [IOp.ev] at h
 split at h
 · rename_i n hn
   split at h
   · rename_i hl
     refine opv_len hop hc ha hty hn ?_ h.2
     unfold lenKind
     unfold lenOk at hl
     split at hl
     · rename_i s hs
       rcases hk with ⟨_, hu⟩ | ⟨rfl, _⟩
       · rw [hs]; simp [hu]
       · cases hl
     · rename_i hs
       rcases hk with ⟨rfl, _⟩ | ⟨_, e, hu⟩
       · cases hl
       · split
         · exact absurd (by assumption) (hs _)
         · simp [hu]
   · exact h.elim
 · exact h.elim

theorem ia_sound {t e : TypeId} {x i : Operand} {sz : Nat} (hop : o.op = .indexAddr t x i) (ht : P.underlying t = some (.slice e)) (hs : (P.info? e).map (·.size) = some sz) (h : ((IOp.ia sz x i).ev H ev).to P H K) : OpV P o ev H K := by
 refine OpV.wk ?_
 simp only [IOp.ev] at h
 split at h
 · rename_i n hi
   have hi := wk_raw hi
   split at h
   · split at h
     · rename_i hz; subst hz; exact opv_indexAddr_isl hop ht hs (by assumption) hi h.1.1 h.1.2 (fun _ => h.2)
     · exact h.elim
   · split at h
     · rename_i hz; subst hz; exact opv_indexAddr_own hop ht hs (.inr ⟨by assumption, rfl⟩) hi h.1.1 h.1.2 h.2
     · exact h.elim
   · split at h
     · rename_i hz; subst hz; exact opv_indexAddr_own hop ht hs (.inl (by assumption)) hi h.1.1 h.1.2 h.2
     · exact h.elim
   · exact opv_indexAddr_raw hop ht hs (by assumption) hi h.1.1 h.1.2 h.2
   · exact h.elim
 · exact h.elim

theorem sl_sound {T : TypeId} {x : Operand} {lo hi : Option Operand} {k : Option Nat} (hop : o.op = .slice T x lo hi none) (hk : (k = none ∧ P.underlying T = some .string) ∨ (∃ n e, k = some n ∧ P.underlying T = some (.slice e) ∧ (P.info? e).map (·.size) = some n))
 (h : ((IOp.sl k x lo hi).ev H ev).to P H K) : OpV P o ev H K := by
 simp only [IOp.ev] at h
 split at h
 · split at h
   · split at h
     · rename_i hs hok
       refine opv_slice hop ?_ (by assumption) (by assumption) h.1.1 h.1.2.1 h.1.2.2 (by assumption) h.2
       unfold slOk at hok
       unfold sliceKind
       split at hok
       · rename_i e1 e2
         rcases hk with ⟨_, hu⟩ | ⟨n, e, he, _⟩
         · rw [e2]; simp [hu]
         · cases he
       · rename_i e2
         rcases hk with ⟨he, _⟩ | ⟨n, e, he, hu, hn⟩
         · cases he
         · cases he; rw [e2]; simp only [hu]; rw [beq_iff_eq] at hok ⊢; rw [hn, hok]
       · rename_i e2
         rcases hk with ⟨he, _⟩ | ⟨n, e, he, hu, hn⟩
         · cases he
         · cases he; rw [e2]; simp only [hu]; rw [beq_iff_eq] at hok ⊢; rw [hn, hok]
       · rename_i e2
         rcases hk with ⟨he, _⟩ | ⟨n, e, he, hu, hn⟩
         · cases he
         · cases he; rw [e2]; simp only [hu]; rw [beq_iff_eq] at hok ⊢; rw [hn, hok]
       · rename_i e2
         rcases hk with ⟨he, _⟩ | ⟨n, e, he, hu, hn⟩
         · cases he
         · cases he; rw [e2]; simp only [hu]
           cases hi : P.info? e with
           | none => simp [hi] at hn
           | some i => rfl
       · cases hok
     · exact h.elim
   · exact h.elim
 · exact h.elim
theorem sl3_sound {T e : TypeId} {x hi mx : Operand} {lo : Option Operand} {n : Nat} {f : Bool} (hop : o.op = .slice T x lo (some hi) (some mx)) (hu : P.underlying T = some (.slice e)) (hn : (P.info? e).map (·.size) = some n) (_ : f = true → hi = mx)
 (h : ((IOp.sl3 n f x lo hi mx).ev H ev).to P H K) : OpV P o ev H K := by
 simp only [IOp.ev] at h
 split at h
 · rename_i a b m h1 h2 h3
   split at h
   · split at h
     · rename_i hs hok
       have hkind : sliceKind P T (ev x) = true ∧ ∀ str, ev x ≠ .raw (.string str) := by
        unfold slOk at hok
        unfold sliceKind
        split at hok
        · rename_i e1 e2; cases e1
        · rename_i e1 e2; cases e1; rw [e2]; refine ⟨?_, fun _ h => by cases h⟩; simp only [hu]; rw [beq_iff_eq] at hok ⊢; rw [hn, hok]
        · rename_i e1 e2; cases e1; rw [e2]; refine ⟨?_, fun _ h => by cases h⟩; simp only [hu]; rw [beq_iff_eq] at hok ⊢; rw [hn, hok]
        · rename_i e1 e2; cases e1; rw [e2]; refine ⟨?_, fun _ h => by cases h⟩; simp only [hu]; rw [beq_iff_eq] at hok ⊢; rw [hn, hok]
        · rename_i e1 e2; rw [e2]; refine ⟨?_, fun _ h => by cases h⟩; simp only [hu]
          cases hi : P.info? e with
          | none => simp [hi] at hn
          | some i => rfl
        · cases hok
       exact opv_slice3 hop hkind.1 h1 h2 h3 h.1.1 h.1.2.1 h.1.2.2.1 h.1.2.2.2 (fun hft => of_decide_eq_true hft) hkind.2 (by assumption) h.2
     · exact h.elim
   · exact h.elim
 · exact h.elim
end Go.Sx
set_option linter.unusedSectionVars false
namespace Go.Sx
open Go

variable [Ghost] {P : Program} {o : Oper} {ev : Operand → SV} {H : List SObj} {K : Out → List SObj → Prop}

theorem mup_sound {T : TypeId} {m k x : Operand} {kk : Option IntKind} (hop : o.op = .mapUpdate T m k x ∨ o.op = .insert T m k x) (hkk : mapKey P T = some kk) (h : ((IOp.mup kk m k x).ev H ev).to P H K) : OpV P o ev H K := by
 obtain ⟨kt, et, hT, hkt, _⟩ := mapKey_ok hkk
 simp only [IOp.ev] at h
 split at h
 · split at h
   · split at h
     · rename_i hc2
       obtain ⟨rfl, hki⟩ := hc2
       exact opv_mapUpdate hop hT hkt (by assumption) (by assumption) hki (by assumption) (by assumption) h
     · exact h.elim
   · exact h.elim
 · exact h.elim

theorem ev_sound {i : IOp} (hc : compOp P o.op = some i) (h : (i.ev H ev).to P H K) : OpV P o ev H K := by
 cases hop : o.op with
 | move x => rw [hop] at hc; cases hc; exact opv_move (.inl hop) h.2
 | assign x => rw [hop] at hc; cases hc; exact opv_move (.inr hop) h.2
 | pick c x y =>
  rw [hop] at hc; cases hc
  simp only [IOp.ev] at h
  split at h
  · exact opv_pick hop (by assumption) h.2
  · exact h.elim
 | nilCheck x =>
  rw [hop] at hc; cases hc
  simp only [IOp.ev] at h
  split at h
  · exact opv_nilCheck hop (by assumption) h.2
  · exact h.elim
 | alloc T =>
  rw [hop] at hc
  simp only [compOp, Option.map_eq_some_iff] at hc
  obtain ⟨zs, hz, rfl⟩ := hc
  exact opv_alloc hop hz h.2
 | box T x =>
  rw [hop] at hc; cases hc
  simp only [IOp.ev] at h
  split at h
  · exact opv_box hop (by assumption) h.2
  · exact h.elim
 | load t x =>
  rw [hop] at hc
  simp only [compOp, Option.map_eq_some_iff] at hc
  obtain ⟨ag, ha, rfl⟩ := hc
  exact ld_sound hop ha h
 | store t x y =>
  rw [hop] at hc
  simp only [compOp, Option.map_eq_some_iff] at hc
  obtain ⟨n, ⟨i, hi, rfl⟩, rfl⟩ := hc
  exact st_sound hop (by simp [hi]) h
 | binOp op t x y t' =>
  rw [hop] at hc
  simp only [compOp] at hc
  split at hc
  · rename_i ks hs
    split at hc
    · cases hc
      simp only [IOp.ev] at h
      split at h
      · split at h
        · exact opv_eqs hop (.inl rfl) hs (by assumption) (by assumption) (by assumption) (by simpa using h.2)
        · exact h.elim
      · exact h.elim
    · cases hc
      simp only [IOp.ev] at h
      split at h
      · split at h
        · exact opv_eqs hop (.inr rfl) hs (by assumption) (by assumption) (by assumption) (by simpa using h.2)
        · exact h.elim
      · exact h.elim
    · cases hc
  · cases hc; exact bin_sound hop h
 | unOp op t x =>
  rw [hop] at hc; cases hc
  simp only [IOp.ev] at h
  split at h
  · split at h
    · exact opv_un hop (by assumption) (by assumption) h.2
    · exact h.elim
  · exact h.elim
 | convert s d x =>
  rw [hop] at hc
  simp only [compOp] at hc
  split at hc
  · cases hc
    simp only [IOp.ev] at h
    split at h
    · exact opv_conv_int hop (by assumption) (by assumption) (by assumption) h.2
    · exact h.elim
  · split at hc
    · cases hc
      simp only [IOp.ev] at h
      split at h
      · exact opv_conv_toStr hop (by assumption) (by assumption) (by assumption) (by assumption) h.2
      · exact opv_conv_nilStr hop (by assumption) (by assumption) (by assumption) (by assumption) h.2
      · split at h
        · exact opv_conv_ownStr hop (by assumption) (by assumption) (by assumption) (by assumption) (by assumption) h.1.1 h.1.2 h.2
        · exact h.elim
      · exact h.elim
    · cases hc
  · cases hc
    simp only [IOp.ev] at h
    split at h
    · exact opv_conv_str hop (by assumption) (by assumption) (by assumption) h.2
    · exact h.elim
  · split at hc
    · cases hc
      simp only [IOp.ev] at h
      split at h
      · exact opv_conv_toB hop (by assumption) (by assumption) (by assumption) (by assumption) h.2
      · exact h.elim
    · cases hc
  · cases hc
 | fieldAddr t x f =>
  rw [hop] at hc
  simp only [compOp] at hc
  split at hc
  · split at hc
    · cases hc
      simp only [IOp.ev] at h
      split at h
      · exact opv_fieldAddr hop (by assumption) (by assumption) (by assumption) h.2
      · exact h.elim
    · cases hc
  · cases hc
 | field t x f =>
  rw [hop] at hc
  simp only [compOp] at hc
  split at hc
  · simp only [Option.map_eq_some_iff] at hc
    obtain ⟨ag, ha, rfl⟩ := hc
    simp only [IOp.ev] at h
    split at h
    · split at h
      · exact opv_field hop (by assumption) ha (by assumption) (by assumption) h.2
      · exact h.elim
    · exact h.elim
  · cases hc
 | indexAddr t x ix =>
  rw [hop] at hc
  simp only [compOp] at hc
  split at hc
  · simp only [Option.map_eq_some_iff] at hc
    obtain ⟨n, ⟨i, hi, rfl⟩, rfl⟩ := hc
    exact ia_sound hop (by assumption) (by simp [hi]) h
  · simp only [Option.map_eq_some_iff] at hc
    obtain ⟨n, ⟨i, hi, rfl⟩, rfl⟩ := hc
    simp only [IOp.ev] at h
    split at h
    · split at h
      · exact opv_indexAddr_arr (sz := i.size) hop (by assumption) (by simp [hi]) (by assumption) (by assumption) h.1.1 h.1.2 h.2
      · exact h.elim
    · exact h.elim
  · cases hc
 | typeAssert x xT T ok =>
  rw [hop] at hc
  cases ok with
  | false => simp [compOp] at hc
  | true =>
   simp only [compOp] at hc
   split at hc
   · rename_i hn
     simp only [Option.map_eq_some_iff] at hc
     obtain ⟨z, hz, rfl⟩ := hc
     simp only [IOp.ev] at h
     split at h
     · split at h
       · rename_i T' y hx e; subst e; exact opv_ta_yes hop hn hx h.2
       · rename_i T' y hx e; exact opv_ta_no hop hn hz (.inr ⟨T', y, e, hx⟩) h.2
     · rename_i hx; exact opv_ta_no hop hn hz (.inl hx) h.2
     · exact h.elim
   · cases hc
 | index t x ix =>
  rw [hop] at hc
  simp only [compOp] at hc
  split at hc
  · cases hc
    simp only [IOp.ev] at h
    split at h
    · exact opv_index_str hop (by assumption) (by assumption) (by assumption) h.1.1 h.1.2 h.2
    · exact h.elim
  · cases hc
 | extract x n =>
  rw [hop] at hc; cases hc
  simp only [IOp.ev] at h
  split at h
  · split at h
    · exact opv_extract hop (by assumption) (by assumption) h.2
    · exact h.elim
  · exact h.elim
 | makeFunc fn fi ca =>
  rw [hop] at hc
  cases fn with
  | func f => cases hc; exact opv_makeFunc hop h.2
  | _ => simp [compOp] at hc
 | makeInterface T x =>
  rw [hop] at hc
  simp only [compOp] at hc
  split at hc
  · cases hc; exact opv_makeInterface hop (by assumption) h.2
  · cases hc
 | build t ps =>
  rw [hop] at hc
  simp only [compOp] at hc
  split at hc
  · cases hc
    simp only [IOp.ev] at h
    split at h
    · exact opv_build hop (by assumption) (by assumption) (by assumption) h.2
    · exact h.elim
  · cases hc
 | buildSlice t n ps =>
  rw [hop] at hc
  simp only [compOp] at hc
  split at hc
  · split at hc
    · cases hc
      simp only [IOp.ev] at h
      split at h
      · split at h
        · exact opv_buildSlice hop (by assumption) (by assumption) (by assumption) (by assumption) (by assumption) h.1 h.2
        · exact h.elim
      · exact h.elim
    · cases hc
  · cases hc
 | slice t x lo hi mx =>
  rw [hop] at hc
  cases mx with
  | some m =>
   cases hi with
   | none => simp [compOp] at hc
   | some hi =>
    simp only [compOp] at hc
    split at hc
    · simp only [Option.map_eq_some_iff] at hc
      obtain ⟨n, ⟨i, hi, rfl⟩, rfl⟩ := hc
      exact sl3_sound hop (by assumption) (by simp [hi]) (fun hf => sameOpd_eq (by simp only [Bool.and_eq_true] at hf; exact hf.2)) h
    · cases hc
  | none =>
   simp only [compOp] at hc
   split at hc
   · cases hc; exact sl_sound hop (.inl ⟨rfl, by assumption⟩) h
   · simp only [Option.map_eq_some_iff] at hc
     obtain ⟨n, ⟨i, hi, rfl⟩, rfl⟩ := hc
     exact sl_sound hop (.inr ⟨_, _, rfl, by assumption, by simp [hi]⟩) h
   · cases hc
 | panic x =>
  rw [hop] at hc; cases hc
  simp only [IOp.ev] at h
  split at h
  · exact opv_panic hop (by assumption) h
  · exact h.elim
 | call c =>
  rw [hop] at hc
  simp only [compOp] at hc
  split at hc
  · cases hc
    simp only [IOp.ev] at h
    split at h
    · rename_i f args c g fi ca hg
      refine OpV.weaken (ev' := fun x => (ev x).wk) ?_ (fun x => wk_le _)
      exact opv_call hop (by assumption) (by simp only [hg]; rfl) h.1 h.2
    · rename_i v hg
      split at h
      · rename_i hy
        refine OpV.weaken (ev' := fun x => (ev x).wk) ?_ (fun x => wk_le _)
        exact opv_yld hop (by assumption) (by simp only [hg]; rfl) hy h
      · split at h
        · rename_i hy
          refine OpV.weaken (ev' := fun x => (ev x).wk) ?_ (fun x => wk_le _)
          exact opv_callF hop (by assumption) (by simp only [hg]; rfl) hy h.1 h.2
        · exact h.elim
    · exact h.elim
  · split at hc
    · rename_i x t hargs htys
      have ha : c.args = #[x] := by rw [← Array.toList_inj]; exact hargs
      have hty : c.argTypes = #[t] := by rw [← Array.toList_inj]; exact htys
      split at hc
      · cases hc; exact len_sound hop (by assumption) ha hty (.inl ⟨rfl, by assumption⟩) h
      · cases hc; exact len_sound hop (by assumption) ha hty (.inr ⟨rfl, _, by assumption⟩) h
      · cases hc
        simp only [IOp.ev] at h
        split at h
        · exact opv_len_map hop (by assumption) ha hty (by assumption) (by assumption) h.2
        · exact h.elim
      · cases hc
    · cases hc
  · split at hc
    · rename_i x y tS tX hargs htys
      have ha : c.args = #[x, y] := by rw [← Array.toList_inj]; exact hargs
      have hty : c.argTypes = #[tS, tX] := by rw [← Array.toList_inj]; exact htys
      split at hc
      · split at hc
        · split at hc
          · split at hc
            · rename_i hz hsz
              cases hc
              simp only [IOp.ev] at h
              split at h
              · split at h
                · split at h
                  · rename_i e2
                    subst e2
                    exact opv_append_fsl hop (by assumption) ha hty (by assumption) (by assumption) (by assumption) hsz.1 (by assumption) (by assumption) (by assumption) h.1.1 h.1.2.1 h.1.2.2 h.2
                  · exact h.elim
                · exact h.elim
              split at h
              · exact opv_append hop (by assumption) ha hty (by assumption) (by assumption) (by assumption) hsz.1 (by assumption) hsz.2 (by assumption) h.1.1 (by assumption) h.1.2.1 h.1.2.2.1 h.1.2.2.2 h.2
              · exact h.elim
            · cases hc
          · cases hc
        · cases hc
      · cases hc
    · cases hc
  · split at hc
    · rename_i x y hargs
      have ha : c.args = #[x, y] := by rw [← Array.toList_inj]; exact hargs
      cases hc
      simp only [IOp.ev] at h
      split at h
      · rename_i hx hy
        exact opv_mx (b := true) hop (by assumption) ha hx hy h.2
      · exact h.elim
    · cases hc
  · split at hc
    · rename_i x y hargs
      have ha : c.args = #[x, y] := by rw [← Array.toList_inj]; exact hargs
      cases hc
      simp only [IOp.ev] at h
      split at h
      · rename_i hx hy
        exact opv_mx (b := false) hop (by assumption) ha hx hy h.2
      · exact h.elim
    · cases hc
  · cases hc
 | makeSlice T x y =>
  rw [hop] at hc
  simp only [compOp] at hc
  split at hc
  · split at hc
    · split at hc
      · split at hc
        · rename_i hz hcond
          cases hc
          simp only [IOp.ev] at h
          split at h
          · exact opv_makeSlice hop (by assumption) (by assumption) hz hcond.1 hcond.2.1 hcond.2.2.1 (by assumption) (by assumption) h.1.1 h.1.2.1 h.1.2.2.1 h.1.2.2.2 hcond.2.2.2 h.2
          · exact h.elim
        · cases hc
      · cases hc
    · cases hc
  · cases hc
 | makeMap T r =>
  rw [hop] at hc
  cases r with
  | some r => simp [compOp] at hc
  | none =>
   simp only [compOp, Option.map_eq_some_iff] at hc
   obtain ⟨kk, hkk, rfl⟩ := hc
   exact opv_makeMap kk hop h.2
 | mapUpdate T m k x =>
  rw [hop] at hc
  simp only [compOp, Option.map_eq_some_iff] at hc
  obtain ⟨kk, hkk, rfl⟩ := hc
  exact mup_sound (.inl hop) hkk h
 | insert T m k x =>
  rw [hop] at hc
  simp only [compOp, Option.map_eq_some_iff] at hc
  obtain ⟨kk, hkk, rfl⟩ := hc
  exact mup_sound (.inr hop) hkk h
 | lookup T m k ok =>
  rw [hop] at hc
  simp only [compOp] at hc
  split at hc
  · rename_i kk z hkk hz
    cases hc
    obtain ⟨kt, et, hT, hkt, hzz⟩ := mapKey_ok hkk
    simp only [IOp.ev] at h
    split at h
    · split at h
      · rename_i hc2
        obtain ⟨rfl, hki⟩ := hc2
        exact opv_lookup hop hT hkt (hzz ▸ hz) (by assumption) (by assumption) hki h.2
      · exact h.elim
    · exact h.elim
  · cases hc
 | _ => rw [hop] at hc; simp [compOp] at hc
end Go.Sx
