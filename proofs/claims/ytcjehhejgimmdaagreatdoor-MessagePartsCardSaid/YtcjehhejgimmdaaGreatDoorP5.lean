/- A part of the proof: a symbolic executor over abstract values, and its soundness. -/
import Derived.Test.YtcjehhejgimmdaaGreatDoorP4
import Derived.MapKept
import Derived.Laws.IdiomStrings
import Derived.Laws.MakeOwn
import Derived.Laws.StructEq
set_option linter.all false
set_option linter.unusedSectionVars false
namespace Go.Sx
set_option linter.unusedSimpArgs false
open Go

variable [Ghost] {P : Program} {o : Oper} {ev : Operand → SV} {H : List SObj} {K : Out → List SObj → Prop}

theorem q6p {src dst : TypeId} {x : Operand} {e' : TypeId} {h n : Nat} {xs : List UInt8} (hop : o.op = .convert src dst x) (hs : P.underlying src = some (.slice e')) (ht : P.underlying dst = some .string) (he : P.underlying e' = some (.int .u8)) (hx : ev x = .bld h .u8 n)
 (hH : H[h]? = some (.row .u8 xs)) (hn : n ≤ xs.length) (hlen : xs.length ≤ 1125899906842624) (hk : K (.ret (.raw (.string (strOf (xs.take n))))) H) : OpV P o ev H K := by
 refine q0x (by rw [hop]; intro c hc; cases hc) (fun C e hw hv => ?_) hk
 have h0 := hv x (by rw [hop]; simp [Op.operands])
 rw [hx] at h0
 have h1 := q8E hw hH hlen (off := 0) (n := n) (by omega) (q6I h0)
 rw [List.drop_zero] at h1
 have hb := q2b (P := P) h1
 rw [SV.den] at h1
 obtain ⟨A, n', c, e0, _⟩ := h1
 simp only [List.cons.injEq, and_true] at e0
 rw [e0] at hb
 have hb' : (Conv.bytesToString (.slice A n' c)).run P C.w = .ok (.string (strOf (xs.take n))) C.w := hb
 exact ⟨.string (strOf (xs.take n)), by simp [execOp, hop, e0, convert, run_underlying' hs, run_underlying' ht, run_underlying' he, hb', Result.andThen], by rw [SV.den]⟩

mutual
def SV.toV : SV → Option Value
 | .raw v => some v
 | .fn f a b => match SV.toVL a, SV.toVL b with
  | some x, some y => some (.func (.func f) x.toArray y.toArray)
  | _, _ => none
 | .agg l => match SV.toVL l with
  | some x => some (.agg x.toArray)
  | none => none
 | _ => none
def SV.toVL : List SV → Option (List Value)
 | [] => some []
 | s :: l => match SV.toV s, SV.toVL l with
  | some v, some vs => some (v :: vs)
  | _, _ => none
end
mutual
theorem z5n {C : Cx} : ∀ {s : SV} {v u : Value}, s.toV = some u → s.den C v → v = u
 | .raw _, v, u, h, d => by rw [SV.toV] at h; cases h; rw [SV.den] at d; exact d
 | .fn f a b, v, u, h, d => by
  rw [SV.toV] at h
  split at h
  · rename_i x y h1 h2
    cases h
    rw [SV.den] at d
    obtain ⟨v1, v2, rfl, d1, d2⟩ := d
    rw [q5G h1 d1, q5G h2 d2]
  cases h
 | .agg l, v, u, h, d => by
  rw [SV.toV] at h
  split at h
  · rename_i x h1
    cases h
    rw [SV.den] at d
    obtain ⟨vs, rfl, d1⟩ := d
    rw [q5G h1 d1]
  cases h
 | .any, _, _, h, _ => by simp [SV.toV] at h
 | .isl .., _, _, h, _ => by simp [SV.toV] at h
 | .fsl .., _, _, h, _ => by simp [SV.toV] at h
 | .iptr .., _, _, h, _ => by simp [SV.toV] at h
 | .ptr .., _, _, h, _ => by simp [SV.toV] at h
 | .rptr .., _, _, h, _ => by simp [SV.toV] at h
 | .bld .., _, _, h, _ => by simp [SV.toV] at h
 | .osl .., _, _, h, _ => by simp [SV.toV] at h
 | .csl .., _, _, h, _ => by simp [SV.toV] at h
 | .tup _, _, _, h, _ => by simp [SV.toV] at h
 | .iface .., _, _, h, _ => by simp [SV.toV] at h
 | .mp _, _, _, h, _ => by simp [SV.toV] at h
 | .imap .., _, _, h, _ => by simp [SV.toV] at h
theorem q5G {C : Cx} : ∀ {l : List SV} {vs us : List Value}, SV.toVL l = some us → SV.denL C l vs → vs = us
 | [], vs, us, h, d => by rw [SV.toVL] at h; cases h; rw [SV.denL] at d; exact d
 | s :: l, vs, us, h, d => by
  rw [SV.toVL] at h
  split at h
  · rename_i v ws h1 h2
    cases h
    rw [SV.denL] at d
    obtain ⟨v', us', rfl, d1, d2⟩ := d
    rw [z5n h1 d1, q5G h2 d2]
  cases h
end
def SV.ofV : Value → SV
 | .agg cs => .agg (rawL cs.toList)
 | v => .raw v
theorem z0c {C : Cx} (v : Value) : (SV.ofV v).den C v := by
 unfold SV.ofV
 split
 · rw [SV.den]; exact ⟨_, by simp, q2I _⟩
 rw [SV.den]

def keyKind (P : Program) (t : TypeId) : Option (Option IntKind) := match P.underlying t with
 | some (.int k) => some (some k)
 | some .string => some none
 | _ => none

theorem q3n {t : TypeId} {kk : Option IntKind} (h : keyKind P t = some kk) : (∃ k, kk = some k ∧ P.underlying t = some (.int k)) ∨ (kk = none ∧ P.underlying t = some .string) := by
 unfold keyKind at h
 split at h <;> cases h
 · exact .inl ⟨_, rfl, by assumption⟩
 exact .inr ⟨rfl, by assumption⟩

theorem z0g {t : TypeId} {kk : Option IntKind} {d : TypeDesc} (h : keyKind P t = some kk) (hd : P.underlying t = some d) {k k' : Value} (h1 : keyIs kk k = true) (h2 : keyIs kk k' = true) : Instr.sameNow d k k' = some (keyEq k k') := by
 rcases q3n h with ⟨q, rfl, hu⟩ | ⟨rfl, hu⟩
 · rw [hu] at hd; cases hd
   cases k <;> simp [keyIs] at h1
   cases k' <;> simp [keyIs] at h2
   subst h1 h2
   simp [Instr.sameNow, keyEq]
   rfl
 rw [hu] at hd; cases hd
 cases k <;> simp [keyIs] at h1
 cases k' <;> simp [keyIs] at h2
 simp only [Instr.sameNow, keyEq, Option.some.injEq]
 rw [Bool.eq_iff_iff, decide_eq_true_eq]; exact MapKept.bytes_beq _ _

theorem q6N {t : TypeId} {kk : Option IntKind} {d : TypeDesc} (h : keyKind P t = some kk) (hd : P.underlying t = some d) {k : Value} (h1 : keyIs kk k = true) : ∀ (es : List MapEntry) (j : Nat), (∀ e ∈ es, keyIs kk e.key = true) →
 Instr.findNow d k es j = some (match findI k (es.map (·.key)) with | some i => some (i + j, (es.map (·.val)).getD i undef) | none => none)
 | [], j, _ => by simp [Instr.findNow, findI]
 | e :: es, j, hk => by
  have h2 := z0g h hd h1 (hk e (by simp))
  have ih := q6N h hd h1 es (j + 1) (fun e' he' => hk e' (by simp [he']))
  simp only [Instr.findNow, h2, List.map_cons, findI]
  cases hq : keyEq k e.key
  · simp only [Bool.false_eq_true, if_false, ih]
    cases hf : findI k (es.map (·.key)) with
    | none => rfl
    | some i => simp; omega
  simp

theorem q5W {t : TypeId} {kk : Option IntKind} (h : keyKind P t = some kk) {k : Value} (h1 : keyIs kk k = true) (es : List MapEntry) (hk : ∀ e ∈ es, keyIs kk e.key = true) (w : World) :
 (Instr.findKey t k es).run P w = .ok (match findI k (es.map (·.key)) with | some i => some (i, (es.map (·.val)).getD i undef) | none => none) w := by
 have : ∃ d, P.underlying t = some d := by rcases q3n h with ⟨q, _, hu⟩ | ⟨_, hu⟩ <;> exact ⟨_, hu⟩
 obtain ⟨d, hd⟩ := this
 have := q6N h hd h1 es 0 hk
 simp only [Instr.findKey, Sem.run_bind, run_underlying' hd, Result.andThen, this]
 cases findI k (es.map (·.key)) <;> simp

theorem z1s {t : TypeId} {kk : Option IntKind} (h : keyKind P t = some kk) {k : Value} (hk : keyIs kk k = true) : ∃ d, P.underlying t = some d ∧ MapKept.IsKey d k := by
 rcases q3n h with ⟨q, rfl, hu⟩ | ⟨rfl, hu⟩
 · exact ⟨_, hu, by cases k <;> simp [keyIs] at hk; simp [MapKept.IsKey, hk]⟩
 exact ⟨_, hu, by cases k <;> simp [keyIs] at hk; simp [MapKept.IsKey]⟩
theorem q2N {t : TypeId} {kk : Option IntKind} (h : keyKind P t = some kk) {b : Bool} {k : Value} (hk : keyIs kk k = true) (w : World) : (Instr.checkKey b 10000 t k).run P w = .ok () w := by
 obtain ⟨d, hd, hi⟩ := z1s h hk
 exact MapKept.run_checkKey hd hi b 9999

theorem q8b : ∀ {k : Value} {ks : List Value} {i : Nat}, findI k ks = some i → i < ks.length ∧ ∃ k', ks[i]? = some k' ∧ keyEq k k' = true
 | k, [], i, h => by simp [findI] at h
 | k, k' :: ks, i, h => by
  simp only [findI] at h
  split at h
  · cases h; exact ⟨by simp, k', rfl, by assumption⟩
  simp only [Option.map_eq_some_iff] at h
  obtain ⟨j, hj, rfl⟩ := h
  obtain ⟨h1, k'', h2, h3⟩ := q8b hj
  exact ⟨by simpa using h1, k'', by simpa using h2, h3⟩
theorem z3e {kk : Option IntKind} {k k' : Value} (h1 : keyIs kk k = true) (h2 : keyIs kk k' = true) (h : keyEq k k' = true) : k' = k := by
 cases kk <;> cases k <;> simp [keyIs] at h1 <;> cases k' <;> simp [keyIs] at h2 <;> simp [keyEq] at h <;> subst_vars <;> rfl

theorem z0v {T : TypeId} (kk : Option IntKind) (hop : o.op = .makeMap T none) (hk : K (.ret (.mp H.length)) (H ++ [.map kk [] []])) : OpV P o ev H K := by
 refine q1I (by rw [hop]; intro c hc; cases hc) fun C e hw _ => ?_
 obtain ⟨g1, g2⟩ := q6D hw (.map #[] 0) (.map kk [] []) ⟨C.w.heap.size, by simp [Cx.grow], #[], 0, q1M _ _, rfl, rfl, by simp⟩
 refine ⟨_, .map (some C.w.heap.size), _, _, hk, .inl ?_, g1, g2, ?_⟩
 · simp [execOp, hop, Instr.makeMap, Cx.grow, Result.andThen]
 rw [SV.den]; exact ⟨by simp [Cx.grow, hw.n], C.w.heap.size, by simp [Cx.grow, hw.n], rfl⟩

def mput (ks vs : List Value) (k v : Value) : List Value × List Value :=
 match findI k ks with
 | some i => (ks, vs.set i v)
 | none => (ks ++ [k], vs ++ [v])

theorem q8J {T kt et : TypeId} {m k x : Operand} {h : Nat} {kk : Option IntKind} {ks vs : List Value} {kv xv : Value} (hop : o.op = .mapUpdate T m k x ∨ o.op = .insert T m k x) (hT : P.underlying T = some (.map kt et)) (hkk : keyKind P kt = some kk)
 (hm : ev m = .mp h) (hkv : ev k = .raw kv) (hki : keyIs kk kv = true) (hx : (ev x).toV = some xv) (hH : H[h]? = some (.map kk ks vs)) (hk : K (.ret .any) (H.set h (.map kk (mput ks vs kv xv).1 (mput ks vs kv xv).2))) : OpV P o ev H K := by
 refine q1I (by rcases hop with h | h <;> (rw [h]; intro c hc; cases hc)) fun C e hw hv => ?_
 have v1 := hv m (by rcases hop with h | h <;> (rw [h]; simp [Op.operands]))
 have v2 := hv k (by rcases hop with h | h <;> (rw [h]; simp [Op.operands]))
 have v3 := z5n hx (hv x (by rcases hop with h | h <;> (rw [h]; simp [Op.operands])))
 rw [hm, SV.den] at v1
 rw [hkv, SV.den] at v2
 obtain ⟨_, b, hb, v1⟩ := v1
 obtain ⟨b', hb', es, clock, hes, hks, hvs, hall⟩ := hw.obj h _ hH
 rw [hb] at hb'; cases hb'
 have hke : ∀ e ∈ es.toList, keyIs kk e.key = true := fun e he => hall _ (by rw [← hks]; exact List.mem_map_of_mem he)
 have hfind := fun w => q5W (P := P) hkk hki es.toList hke w
 have main : ∀ es' clock', (es'.toList.map (·.key), es'.toList.map (·.val)) = mput ks vs kv xv → (Instr.mapUpdate T (e m) (e k) (e x)).run P C.w = .ok () { C.w with heap := C.w.heap.setIfInBounds b (.map es' clock') } →
  ∃ s v H' C', K (.ret s) H' ∧ ((execOp e o).run P C.w = .ok (.value v) C'.w ∨ ((execOp e o).run P C.w = .ok .skip C'.w ∧ v = undef)) ∧ Wd C' H' ∧ Ext ⟨C, H⟩ C' H' ∧ s.den C' v := fun es' clock' hput hrun => by
  have hlt : b < C.w.heap.size := (Array.getElem?_eq_some_iff.1 hes).1
  have hkeys : ∀ k' ∈ (mput ks vs kv xv).1, keyIs kk k' = true := by
   unfold mput
   split
   · exact hall
   intro k' hk'
   rcases List.mem_append.1 hk' with h1 | h1
   · exact hall k' h1
   rw [List.mem_singleton.1 h1]; exact hki
  obtain ⟨g1, g2, g3⟩ := z2w (so' := .map kk (mput ks vs kv xv).1 (mput ks vs kv xv).2) hw hH rfl rfl hb { C.w with heap := C.w.heap.setIfInBounds b (.map es' clock') } (fun b' hb' => by simp [Ne.symm hb']) (by simp)
   (fun m hm => by unfold World.bsize at hm; rw [hes] at hm; cases hm) rfl rfl rfl
   ⟨b, hb, es', clock', by simp [hlt], by rw [← hput], by rw [← hput], hkeys⟩
  refine ⟨_, undef, _, _, hk, .inr ⟨?_, rfl⟩, g1, g2, by rw [SV.den]; trivial⟩
  rcases hop with h | h <;> simp [execOp, h, hrun, Result.andThen]
 cases hf : findI kv ks with
 | none =>
  refine main (es.push { key := kv, val := xv, born := clock }) (clock + 1) (by simp [mput, hf, hks, hvs]) ?_
  simp [Instr.mapUpdate, run_underlying' hT, v1, v2, v3, hes, q2N hkk hki, MapKept.run_getObj_map hes, MapKept.run_setObj_map _ hes, hfind, hks, hf, Result.andThen]
 | some i =>
  obtain ⟨hi, k', hk', hkeq⟩ := q8b hf
  have hkk' : k' = kv := z3e hki (hall k' (List.mem_of_getElem? hk')) hkeq
  subst hkk'
  have hes' : (es[i]?).map (·.key) = some k' := by
   rw [← hks] at hk'
   simpa using hk'
  have hbits : (Instr.keyThatStays k' k').run P C.w = .ok k' C.w := by
   obtain ⟨d, hd, hi⟩ := z1s hkk hki
   exact MapKept.run_keyThatStays hi
  have hlen : es.toList.length = ks.length := by rw [← hks]; simp
  refine main (es.modify i fun e => { e with key := k', val := xv }) clock ?_ ?_
  · simp only [mput, hf, Prod.mk.injEq]
    constructor
    · rw [← hks]
      apply List.ext_getElem?
      intro j
      by_cases hj : j = i
      · subst hj
        simp only [Array.toList_modify, List.getElem?_map, List.getElem?_modify]
        have : (es.toList[j]?).map (·.key) = some k' := by simpa using hes'
        cases he : es.toList[j]? with
        | none => simp
        | some e => simp [he] at this; simp [this]
      simp [Array.toList_modify, List.getElem?_modify, Ne.symm hj]
    rw [← hvs]
    apply List.ext_getElem?
    intro j
    have hil : i < es.toList.length := by omega
    by_cases hj : j = i
    · subst hj
      simp only [Array.toList_modify, List.getElem?_map, List.getElem?_modify, if_true]
      rw [List.getElem?_set_self (by simpa using hil), List.getElem?_eq_getElem hil]
      simp
    rw [List.getElem?_set_ne (Ne.symm hj)]
    simp [Array.toList_modify, List.getElem?_modify, Ne.symm hj]
  simp [Instr.mapUpdate, run_underlying' hT, v1, v2, v3, hes, q2N hkk hki, MapKept.run_getObj_map hes, MapKept.run_setObj_map _ hes, hfind, hks, hf, Result.andThen, hes', hbits]

def mget (ks vs : List Value) (z k : Value) : Value × Bool :=
 match findI k ks with
 | some i => (vs.getD i undef, true)
 | none => (z, false)
def mres (ok : Bool) (p : Value × Bool) : SV := if ok then .tup [.ofV p.1, .raw (.bool p.2)] else .ofV p.1

def zeroOf (P : Program) (t : TypeId) : Option Value := (P.info? t).bind (·.zero)
theorem q7u {t : TypeId} {z : Value} (h : zeroOf P t = some z) (w : World) : (zeroValue t).run P w = .ok z w := by
 unfold zeroOf at h
 cases hi : P.info? t with
 | none => simp [hi] at h
 | some i =>
  simp [hi] at h
  simp [zeroValue, typeInfo, hi, h]

def mapOf (H : List SObj) : SV → Option (Option IntKind × List Value × List Value)
 | .mp h => match H[h]? with
  | some (.map kk ks vs) => some (kk, ks, vs)
  | _ => none
 | .imap kk ks vs => some (kk, ks, vs)
 | _ => none
theorem q9X {C : Cx} {s : SV} {v : Value} {kk : Option IntKind} {ks vs : List Value} (hw : Wd C H) (h : mapOf H s = some (kk, ks, vs)) (d : s.den C v) : ∃ b, v = .map (some b) ∧ mapAt C.w b kk ks vs := by
 unfold mapOf at h
 split at h
 · split at h
   · rename_i hH
     cases h
     rw [SV.den] at d
     obtain ⟨_, b, hb, hv⟩ := d
     obtain ⟨b', hb', hm⟩ := hw.obj _ _ hH
     rw [hb] at hb'; cases hb'
     exact ⟨b, hv, hm⟩
   cases h
 · cases h
   rw [SV.den] at d
   obtain ⟨b, hv, _, hm⟩ := d
   exact ⟨b, hv, hm⟩
 cases h

theorem z2U {T kt et : TypeId} {m k : Operand} {ok : Bool} {kk : Option IntKind} {ks vs : List Value} {kv z : Value} (hop : o.op = .lookup T m k ok) (hT : P.underlying T = some (.map kt et)) (hkk : keyKind P kt = some kk) (hz : zeroOf P et = some z)
 (hm : mapOf H (ev m) = some (kk, ks, vs)) (hkv : ev k = .raw kv) (hki : keyIs kk kv = true) (hk : K (.ret (mres ok (mget ks vs z kv))) H) : OpV P o ev H K := by
 refine q0x (by rw [hop]; intro c hc; cases hc) (s := mres ok (mget ks vs z kv)) (fun C e hw hv => ?_) hk
 have v1 := hv m (by rw [hop]; simp [Op.operands])
 have v2 := hv k (by rw [hop]; simp [Op.operands])
 rw [hkv, SV.den] at v2
 obtain ⟨b, v1, es, clock, hes, hks, hvs, hall⟩ := q9X hw hm v1
 have hke : ∀ e ∈ es.toList, keyIs kk e.key = true := fun e he => hall _ (by rw [← hks]; exact List.mem_map_of_mem he)
 have hfind := q5W (P := P) hkk hki es.toList hke C.w
 refine ⟨if ok then .tuple #[(mget ks vs z kv).1, .bool (mget ks vs z kv).2] else (mget ks vs z kv).1, ?_, ?_⟩
 · unfold mget
   cases hf : findI kv ks with
   | none => simp [execOp, hop, Instr.lookup, run_underlying' hT, v1, v2, hes, q2N hkk hki, MapKept.run_getObj_map hes, MapKept.run_setObj_map _ hes, hfind, hks, hf, Result.andThen, q7u hz]
   | some i => simp [execOp, hop, Instr.lookup, run_underlying' hT, v1, v2, hes, q2N hkk hki, MapKept.run_getObj_map hes, MapKept.run_setObj_map _ hes, hfind, hks, hvs, hf, Result.andThen]
 unfold mres
 cases ok
 · simp only [Bool.false_eq_true, if_false]; exact z0c _
 simp only [if_true]
 rw [SV.den]
 exact ⟨[(mget ks vs z kv).1, .bool (mget ks vs z kv).2], rfl, q0g.2 ⟨_, _, rfl, z0c _, q0g.2 ⟨_, _, rfl, by rw [SV.den], q0F.2 rfl⟩⟩⟩

theorem z0o {c : Call} {t kt et : TypeId} {x : Operand} {kk : Option IntKind} {ks vs : List Value} (hop : o.op = .call c) (hc : c.callee = .builtin .len) (ha : c.args = #[x]) (hty : c.argTypes = #[t]) (hT : P.underlying t = some (.map kt et))
 (hm : mapOf H (ev x) = some (kk, ks, vs)) (hk : K (.ret (.raw (.int .i64 ks.length))) H) : OpV P o ev H K := by
 refine q0x (by rw [hop]; intro c hc; cases hc) (fun C e hw hv => ?_) hk
 have h0 := hv x (by rw [hop]; simp [Op.operands, Call.operands, hc, ha])
 obtain ⟨b, v1, es, clock, hes, hks, hvs, hall⟩ := q9X hw hm h0
 refine ⟨.int .i64 ks.length, ?_, by rw [SV.den]⟩
 have hl : es.size = ks.length := by rw [← hks]; simp
 have hrun : (Builtin.len_ #[t] o.type #[e x]).run P C.w = .ok (.int .i64 ks.length) C.w := by
  simp [Builtin.len_, v1, run_underlying' hT, MapKept.run_getObj_map hes, goInt, Result.andThen, hl]
 simp [execOp, hop, resolve, hc, ha, hty, invoke, builtin, hrun, Result.andThen]
end Go.Sx
set_option linter.unusedSectionVars false
namespace Go.Sx
open Go

variable [Ghost] {P : Program} {o : Oper} {ev : Operand → SV} {H : List SObj} {K : Out → List SObj → Prop} {t : Ty}

theorem OpV.weaken {ev' : Operand → SV} (h : OpV P o ev' H K) (hle : ∀ x, SV.le (ev x) (ev' x)) : OpV P o ev H K :=
 fun E C r n a next Q hw hg hv h1 h2 => h E C r n a next Q hw hg (fun x hx => hle x C _ (hv x hx)) h1 h2

theorem q4P {α : Type} {vs us : List α} {o : Nat} (h : o + us.length ≤ vs.length) (j : Nat) :
 (splice vs o us)[j]? = if j < o then vs[j]? else if j < o + us.length then us[j - o]? else vs[j]? := by
 unfold splice
 rcases Nat.lt_or_ge j o with h1 | h1
 · rw [if_pos h1, List.getElem?_append_left (by simp; omega), List.getElem?_append_left (by simp; omega), List.getElem?_take, if_pos h1]
 rw [if_neg (by omega)]
 rcases Nat.lt_or_ge j (o + us.length) with h2 | h2
 · rw [if_pos h2, List.getElem?_append_left (by simp; omega), List.getElem?_append_right (by simp; omega)]
   congr 1; simp; omega
 rw [if_neg (by omega), List.getElem?_append_right (by simp; omega), List.getElem?_drop]
 congr 1; simp; omega

theorem q6W {ty : TypeId} {x y : Operand} {h i kk n : Nat} {xs : List t.den} {ds : List SV} {d' : t.den} {p : Prop} (hop : o.op = .store ty x y) (hs : (P.info? ty).map (·.size) = some n) (he : ev x = .rptr h t i kk)
 (hH : H[h]? = some (.row t xs)) (hi : i < xs.length) (hf : (ev y).flat = some ds) (hn : ds.length = n) (hb : kk + n ≤ t.size) (h1 : ones ds = true)
 (hr : t.rd (splice (t.cells (xs.getD i t.dflt)) kk ds) = some (d', p)) (hp : p) (hk : K (.ret .any) (H.set h (.row t (xs.set i d')))) : OpV P o ev H K := by
 refine q1I (by rw [hop]; intro c hc; cases hc) fun C e hw hv => ?_
 have hx := hv x (by rw [hop]; simp [Op.operands])
 have hy := q4j hf (hv y (by rw [hop]; simp [Op.operands]))
 rw [he, SV.den] at hx
 obtain ⟨_, b, hbb, hx⟩ := hx
 rcases hw.obj h _ hH with ⟨_, h2⟩ | ⟨b', arr, T, fz, hb', hcell, hfz, hsz, hrow⟩
 · subst h2; simp at hi
 rw [hbb] at hb'; cases hb'
 have hlen : (e y).cells.toList.length = n := by rw [q0K hy, hn]
 have hin : i * t.size + kk + n ≤ arr.toList.length := by
  rw [Array.length_toList]
  have : (i + 1) * t.size ≤ xs.length * t.size := Nat.mul_le_mul_right _ hi
  rw [Nat.add_mul] at this
  omega
 have hcell' : C.w.heap[b]? = some (.cells arr.toList.toArray T fz) := by rw [hcell]
 have hrun : (storeCells ⟨b, i * t.size + kk, none⟩ (e y).cells.toList 0).run P C.w = .ok () (C.w.setCells b (i * t.size + kk + 0) (e y).cells.toList) := run_storeCells_cells b (i * t.size + kk) _ 0 C.w
  (fun j hj => by rw [q0A hcell']; rw [List.getElem?_eq_getElem (by omega)]; rfl)
  (fun j hj => by
   have := hfz (i * t.size + kk + 0 + j) (by rw [Array.length_toList] at hin; omega)
   simp only [World.frozen?, hcell]
   rw [Bool.and_eq_false_iff]
   simp only [decide_eq_false_iff_not]
   omega) (q5K h1 hy)
 rw [Nat.add_zero] at hrun
 have hfit : i * t.size + kk + (e y).cells.toList.length ≤ arr.toList.length := by omega
 have hnew := q2p (e y).cells.toList (i * t.size + kk) C.w arr.toList hcell' hfit
 have hkeep : Keeps C.I C.I C.w (C.w.setCells b (i * t.size + kk) (e y).cells.toList) := fun b' hi' => ⟨hi', q0L (fun (eq : b' = b) => (hw.own b ⟨h, _, hH, rfl, hbb⟩).1 (eq ▸ hi')) _ _ _⟩
 have hbs : ∀ m, World.bsize C.w b = some m → World.bsize (C.w.setCells b (i * t.size + kk) (e y).cells.toList) b = some m := fun m hm => by
  unfold World.bsize at hm ⊢
  rw [hnew]; rw [hcell] at hm
  simp only [List.size_toArray] at hm ⊢
  rw [q0Y hfit, Array.length_toList]; exact hm
 have hev : Evo C { C with w := C.w.setCells b (i * t.size + kk) (e y).cells.toList } := ⟨Nat.le_refl _, fun _ _ => rfl, hkeep, fun b' m hm => by
  by_cases hbb' : b' = b
  · subst hbb'; exact hbs m hm
  unfold World.bsize at hm ⊢; rw [q0L hbb']; exact hm⟩
 obtain ⟨g1, g2, g3⟩ := z2w (so' := .row t (xs.set i d')) hw hH rfl rfl hbb (C.w.setCells b (i * t.size + kk) (e y).cells.toList) (fun b' hb' => q0L hb' _ _ _) (q1Q _ _ _)
  hbs (q2G _ _ _) (q1K _ _ _) (q1B _ _ _)
  (.inr ⟨b, _, T, fz, hbb, hnew, by rw [List.size_toArray, q0Y hfit, Array.length_toList]; exact hfz, by rw [List.length_set]; have := q0Y hfit; rw [Array.length_toList] at this; simp only [List.size_toArray, this]; exact hsz, fun j d hd => by
   by_cases hj : j = i
   · subst hj
     rw [List.getElem?_set_self hi] at hd
     cases hd
     have hold : xs[j]? = some (xs.getD j t.dflt) := by rw [List.getD_eq_getElem?_getD, List.getElem?_eq_getElem hi]; rfl
     obtain ⟨us, r1, r2⟩ := hrow j _ hold
     have hul := Ty.rel_size _ _ _ r1
     refine ⟨splice us kk (e y).cells.toList, ?_, fun k u hu => ?_⟩
     · refine Ty.rd_rel (C := { C with w := C.w.setCells b (j * t.size + kk) (e y).cells.toList }) _ _ _ _ _ hr hp (q0u hev (q4d (Ty.cells_den _ _ _ r1) hy))
     have hlt := (List.getElem?_eq_some_iff.1 hu).1
     rw [q0Y (by omega)] at hlt
     rw [q0A hnew, q4P hfit]
     rw [q4P (by omega)] at hu
     rw [Nat.zero_add]
     have hc := fun u hu => r2 k u hu
     simp only [Nat.zero_add] at hc
     rw [q0A hcell'] at hc
     split at hu
     · rw [if_pos (by omega)]; exact hc u hu
     rw [if_neg (by omega)]
     split at hu
     · rw [if_pos (by omega), ← hu]; congr 1; omega
     rw [if_neg (by omega)]; exact hc u hu
   rw [List.getElem?_set_ne (Ne.symm hj)] at hd
   obtain ⟨us, r1, r2⟩ := hrow j d hd
   have hul := Ty.rel_size _ _ _ r1
   refine ⟨us, Ty.rel_keep hkeep _ _ _ r1, fun k u hu => ?_⟩
   have hlt := (List.getElem?_eq_some_iff.1 hu).1
   have hc := r2 k u hu
   simp only [Nat.zero_add] at hc ⊢
   rw [q0A hcell'] at hc
   rw [q0A hnew, q4P hfit]
   rcases Nat.lt_or_gt_of_ne hj with hj | hj
   · have : (j + 1) * t.size ≤ i * t.size := Nat.mul_le_mul_right _ hj
     rw [Nat.add_mul] at this
     rw [if_pos (by omega)]; exact hc
   have : (i + 1) * t.size ≤ j * t.size := Nat.mul_le_mul_right _ hj
   rw [Nat.add_mul] at this
   rw [if_neg (by omega), if_neg (by omega)]; exact hc⟩)
 refine ⟨_, undef, _, _, hk, .inr ⟨?_, rfl⟩, g1, g2, by rw [SV.den]; trivial⟩
 have hsz' : (e y).cells.size = n := by rw [← Array.length_toList]; exact hlen
 simp [execOp, hop, hx, Instr.storeAt, Instr.sureAddr, Result.andThen, storeVar, q0C hs, hsz', hrun]

theorem q9m {α : Type} (f : Nat → α) (s : Nat) (hf : ∀ j, f (s + j) = f j) : ∀ n, (List.range ((n + 1) * s)).map f = (List.range s).map f ++ (List.range (n * s)).map f := by
 intro n
 rw [Nat.add_mul, Nat.one_mul, Nat.add_comm (n * s) s, List.range_add, List.map_append, List.map_map]
 congr 1
 apply List.map_congr_left
 intro j _
 exact hf j
theorem q7G {I : Nat → Prop} {w : World} {d : t.den} {zl : List Value} (f : Nat → Value) (hz : (List.range t.size).map f = zl) (hf : ∀ j, f (t.size + j) = f j) (hd : t.rel I w d zl) : ∀ n, relL I w t (List.replicate n d) ((List.range (n * t.size)).map f)
 | 0 => by simp [relL]
 | n + 1 => by
  rw [q9m f t.size hf, hz, List.replicate_succ]
  exact ⟨_, _, rfl, hd, q7G f hz hf hd n⟩

def Ty.isZero : Ty → List Value → Bool
 | .u8, [.int .u8 n] => n == 0
 | .int k, [.int k' n] => k == k' && n == 0
 | .bool, [.bool b] => !b
 | .str, [.string s] => s.size == 0
 | .slice _, [.slice none 0 0] => true
 | .prod a b, vs => a.isZero (vs.take a.size) && b.isZero (vs.drop a.size)
 | .unit, [] => true
 | _, _ => false
theorem Ty.isZero_rel {I : Nat → Prop} {w : World} : ∀ {t : Ty} {vs : List Value}, t.isZero vs = true → t.rel I w t.dflt vs
 | .prod a b, vs, h => by
  simp only [Ty.isZero, Bool.and_eq_true] at h
  exact ⟨_, _, (List.take_append_drop a.size vs).symm, isZero_rel h.1, isZero_rel h.2⟩
 | .u8, vs, h => by
  unfold Ty.isZero at h
  split at h <;> first | (cases h; done) | skip
  all_goals simp_all [Ty.rel, Ty.dflt]
 | .int k, vs, h => by
  unfold Ty.isZero at h
  split at h <;> first | (cases h; done) | skip
  all_goals simp_all [Ty.rel, Ty.dflt]
 | .bool, vs, h => by
  unfold Ty.isZero at h
  split at h <;> first | (cases h; done) | skip
  all_goals simp_all [Ty.rel, Ty.dflt]
 | .str, vs, h => by
  unfold Ty.isZero at h
  split at h <;> first | (cases h; done) | skip
  all_goals simp_all [Ty.rel, Ty.dflt]
 | .slice t, vs, h => by
  unfold Ty.isZero at h
  split at h <;> first | (cases h; done) | skip
  all_goals simp_all [Ty.rel, Ty.dflt]
  all_goals exact ⟨_, _, _, ⟨rfl, rfl, rfl⟩, rfl, Nat.le_refl _, by omega⟩
 | .unit, vs, h => by
  unfold Ty.isZero at h
  split at h <;> first | (cases h; done) | skip
  all_goals simp_all [Ty.rel, Ty.dflt]

theorem q8T {T e : TypeId} {x y : Operand} {i : TypeInfo} {z : Value} {k1 k2 : IntKind} {n c : Int} (hop : o.op = .makeSlice T x y) (ht : P.underlying T = some (.slice e)) (hi : P.info? e = some i) (hz : i.zero = some z) (hsz : i.size = t.size) (hzs : z.cells.size = t.size) (hpos : 0 < t.size)
 (hx : ev x = .raw (.int k1 n)) (hy : ev y = .raw (.int k2 c)) (h0 : 0 ≤ n) (hnc : n ≤ c) (hc : c.toNat * i.bytes ≤ 140737488355328) (hc2 : c ≤ 1125899906842624) (hd : t.isZero z.cells.toList = true)
 (hk : K (.ret (.bld H.length t n.toNat)) (H ++ [.row t (List.replicate n.toNat t.dflt)])) : OpV P o ev H K := by
 refine q1I (by rw [hop]; intro c hc; cases hc) fun C e' hw hv => ?_
 have h1 := hv x (by rw [hop]; simp [Op.operands])
 have h2 := hv y (by rw [hop]; simp [Op.operands])
 rw [hx, SV.den] at h1
 rw [hy, SV.den] at h2
 let f : Nat → Value := fun j => z.cells[j % z.cells.size]!
 have hf0 : (List.range t.size).map f = z.cells.toList := by
  apply List.ext_getElem
  · simp [hzs]
  intro j h1 h2
  simp only [List.getElem_map, List.getElem_range, f]
  have hj : j < z.cells.size := by simpa using h2
  rw [Nat.mod_eq_of_lt hj, getElem!_pos z.cells j hj]
  simp
 have hf1 : ∀ j, f (t.size + j) = f j := fun j => by simp only [f, hzs]; rw [Nat.add_mod_left]
 have hsplit : (List.range (c.toNat * t.size)).map f = (List.range (n.toNat * t.size)).map f ++ ((List.range ((c.toNat - n.toNat) * t.size)).map (n.toNat * t.size + ·)).map f := by
  rw [← List.map_append, ← List.range_add, ← Nat.add_mul]
  congr 3; omega
 have hr := q7G (I := C.I) (w := C.w) f hf0 hf1 (Ty.isZero_rel hd) n.toNat
 obtain ⟨q1, q2, q3⟩ := q8a (T := e) (rest := ((List.range ((c.toNat - n.toNat) * t.size)).map (n.toNat * t.size + ·)).map f) hw (n := n.toNat) (c := c.toNat) hr (by simp) (by omega) (by
  simp only [List.length_map, List.length_range, ← Nat.add_mul]
  exact Nat.mul_le_mul_right _ (by omega))
 refine ⟨_, _, _, _, hk, .inl ?_, q1, q2, q3⟩
 have hbig : (i.bytes : Int) * c ≤ 281474976710656 := by
  have : ((c.toNat * i.bytes : Nat) : Int) = (i.bytes : Int) * c := by
   rw [Int.natCast_mul, Int.toNat_of_nonneg (by omega), Int.mul_comm]
  omega
 have harr : madeCells z.cells (c.toNat * i.size) = ((List.range (n.toNat * t.size)).map f ++ ((List.range ((c.toNat - n.toNat) * t.size)).map (n.toNat * t.size + ·)).map f).toArray := by
  rw [← hsplit, hsz]
  apply Array.ext'
  simp [madeCells, f]
 have hrun := run_make C.w T e i z ht hi hz k1 k2 n c h0 hnc hbig (by omega)
 rw [harr] at hrun
 simp only [execOp, hop, Sem.run_bind, h1, h2, hrun, Result.andThen, Sem.run_pure]
 rfl

theorem z7n {C : Cx} (hw : Wd C H) {xs : List t.den} {vs rest : List Value} {T : TypeId} {n c : Nat} {fz : Nat × Nat} (hr : relL C.I C.w t xs vs) (hnc : n ≤ c) (hc : c * t.size ≤ vs.length + rest.length) (hfz : ∀ i, i < (vs ++ rest).length → ¬ (fz.1 ≤ i ∧ i < fz.2)) :
 Wd (C.grow (.cells (vs ++ rest).toArray T fz)) (H ++ [.row t xs]) ∧ Ext ⟨C, H⟩ (C.grow (.cells (vs ++ rest).toArray T fz)) (H ++ [.row t xs]) ∧
  (SV.bld H.length t n).den (C.grow (.cells (vs ++ rest).toArray T fz)) (.slice (some ⟨C.w.heap.size, 0, none⟩) n c) := by
 have he := q5D hw.imm (.cells (vs ++ rest).toArray T fz)
 have hl := q1C hr
 obtain ⟨g1, g2⟩ := q6D hw (.cells (vs ++ rest).toArray T fz) (.row t xs) (by
  refine .inr ⟨C.w.heap.size, (vs ++ rest).toArray, T, fz, by simp [Cx.grow], q1M _ _, by simpa using hfz, by simp [← hl], ?_⟩
  refine q4v (q3D he.I hr) fun j u hu => ?_
  have : (C.grow (.cells (vs ++ rest).toArray T fz)).w.heap[C.w.heap.size]? = some (.cells (vs ++ rest).toArray T fz) := q1M _ _
  rw [Nat.zero_add, q0A this, List.getElem?_append_left (List.getElem?_eq_some_iff.1 hu).1]
  exact hu)
 refine ⟨g1, g2, ?_⟩
 rw [SV.den]
 refine ⟨by simp [Cx.grow, hw.n], .inr ⟨C.w.heap.size, c, (vs ++ rest).length, by simp [Cx.grow, hw.n], rfl, hnc, ?_, by simpa using hc⟩⟩
 unfold World.bsize
 rw [show (C.grow (.cells (vs ++ rest).toArray T fz)).w.heap[C.w.heap.size]? = some (.cells (vs ++ rest).toArray T fz) from q1M _ _]
 simp

theorem q9t {src dst e : TypeId} {x : Operand} {s : ByteArray} (hop : o.op = .convert src dst x) (hs : P.underlying src = some .string) (hd : P.underlying dst = some (.slice e)) (he : P.underlying e = some (.int .u8)) (hx : ev x = .raw (.string s))
 (hk : K (.ret (.bld H.length .u8 s.size)) (H ++ [.row .u8 (bytesOf s)])) : OpV P o ev H K := by
 refine q1I (by rw [hop]; intro c hc; cases hc) fun C e' hw hv => ?_
 have h1 := hv x (by rw [hop]; simp [Op.operands])
 rw [hx, SV.den] at h1
 have hrun := run_bytes_of_string (P := P) C.w src dst e s hs hd he
 have hcap : s.size ≤ grownCap C.w s.size 0 e := by simp [grownCap, Question.cut]
 have harr : bytesRow s (grownCap C.w s.size 0 e) = ((bytesOf s).map (fun b : UInt8 => Value.int .u8 b.toNat) ++ List.replicate (grownCap C.w s.size 0 e - s.size) (Value.int .u8 0)).toArray := by
  apply Array.ext'
  simp [bytesRow, bytesOf]
 have hbl : (bytesOf s).length = s.size := Array.length_toList
 obtain ⟨q1, q2, q3⟩ := z7n (t := .u8) (T := e) (H := H) (fz := ((bytesRow s (grownCap C.w s.size 0 e)).size, (bytesRow s (grownCap C.w s.size 0 e)).size + 1)) (rest := List.replicate (grownCap C.w s.size 0 e - s.size) (Value.int .u8 0)) (q3L hw) (n := s.size) (c := grownCap C.w s.size 0 e)
  (q5n C.drew.I C.drew.w (bytesOf s)) hcap (by simp [Ty.size, hbl]; omega) (by
   intro i hi
   rw [harr]
   simp only [List.size_toArray]
   omega)
 refine ⟨_, _, _, _, hk, .inl ?_, q1, (q2M C H).trans q2, q3⟩
 simp only [execOp, hop, h1, Sem.run_bind, hrun, Result.andThen, Sem.run_pure]
 rw [← harr]
 rfl

theorem j0r {xs : List t.den} : SV.le (.fsl t xs) (.isl t xs) := fun C v h => by simp only [SV.den] at h ⊢; exact h.1
def SV.wk : SV → SV
 | .fsl t xs => .isl t xs
 | s => s
theorem z6X (s : SV) : SV.le s s.wk := by
 cases s <;> first | exact SV.le_refl _ | exact j0r

theorem j0g {C : Cx} (hw : Wd C H) {xs : List t.den} {vs rest : List Value} {T : TypeId} {c : Nat} (hr : relL C.I C.w t xs vs) (hc : xs.length ≤ c) (hlen : xs.length ≤ 1125899906842624) :
 ∃ C', C'.w = C.w.alloc (.cells (vs ++ rest).toArray T) ∧ Wd C' H ∧ Ext ⟨C, H⟩ C' H ∧ (SV.isl t xs).den C' (.slice (some ⟨C.w.heap.size, 0, none⟩) xs.length c) := by
 let D : Cx := { C with I := fun b => C.I b ∨ b = C.w.heap.size, w := C.w.alloc (.cells (vs ++ rest).toArray T) }
 have hsz : D.w.heap.size = C.w.heap.size + 1 := by show (C.w.heap.push _).size = _; simp
 have hk : Keeps C.I D.I C.w D.w := fun b hb => ⟨.inl hb, q2g _ _ (hw.imm b hb)⟩
 have hev : Evo C D := ⟨Nat.le_refl _, fun _ _ => rfl, hk, fun b m hm => by
  have := q8j hm
  unfold World.bsize at hm ⊢
  rw [q2g _ _ this]; exact hm⟩
 have hnew : D.w.heap[C.w.heap.size]? = some (.cells (vs ++ rest).toArray T) := q1M _ _
 refine ⟨D, rfl, ⟨hw.n, fun h o ho => ?_, fun b hb => ?_, hw.inj, ?_⟩, ⟨hev, by rw [hsz]; exact Nat.le_succ _, rfl, rfl, rfl, fun b hb _ => q2g _ _ hb, ?_, fun b hb => .inr hb, fun _ _ h => h⟩, ?_⟩
 · by_cases hl : o.live = true
   · exact q0P (C' := D) hk h rfl (fun b hb => q2g _ _ (hw.own b ⟨h, o, ho, hl, hb⟩).2) (q0u hev) (hw.obj h o ho)
   cases o <;> first | trivial | simp [SObj.live] at hl
 · have := hw.own b hb
   exact ⟨fun hi => hi.elim this.1 (by omega), by omega⟩
 · rintro b (hb | rfl)
   · have := hw.imm b hb; omega
   omega
 · rintro b (hb | rfl)
   · exact .inl hb
   exact .inr ⟨.inl (Nat.le_refl _), fun c T fz hc => by rw [hnew] at hc; cases hc; simp⟩
 rw [SV.den]
 refine ⟨_, _, _, rfl, rfl, hc, hlen, .inr ⟨C.w.heap.size, 0, rfl, .inr rfl, ?_⟩⟩
 refine q4v (q3D hk hr) fun j u hu => ?_
 rw [Nat.zero_add, q0A hnew, List.getElem?_append_left (List.getElem?_eq_some_iff.1 hu).1]
 exact hu

theorem q6o {w : World} {tS tX ty e : TypeId} {i : TypeInfo} {A : Option Addr} {n c : Nat} {xv : Value} (ht : P.underlying tS = some (.slice e)) {bb : Bool} (hx : srcType P tX = some bb) (hi : P.info? e = some i) (hlen : (Builtin.lenOf xv).run P w = .ok 0 w) (hnc : n ≤ c)
 (hfc : (Builtin.firstCells i.size 0 xv).run P w = .ok #[] w) :
 (Builtin.append_ #[tS, tX] ty #[.slice A n c, xv]).run P w = .ok (.slice A n c) w := by
 rcases q2q hx with ⟨e', hd⟩ | hd <;> clear hx <;> have hd := run_underlying' hd
 all_goals cases A <;> simp [Builtin.append_, run_underlying' ht, sizeOf, typeInfo, hi, hd, hlen, hfc, hnc, storeCells]

theorem q6V {c : Call} {x y : Operand} {tS tX e : TypeId} {bb : Bool} {i : TypeInfo} {z : Value} {xs ys : List t.den} {p : Prop} (hop : o.op = .call c) (hc : c.callee = .builtin .append) (ha : c.args = #[x, y]) (hty : c.argTypes = #[tS, tX])
 (ht : P.underlying tS = some (.slice e)) (hx : srcType P tX = some bb) (hi : P.info? e = some i) (hsz : i.size = t.size) (hz : i.zero = some z)
 (hdst : ev x = .fsl t xs) (hsrc : srcS t H (ev y) = some (ys, p)) (hp : p)
 (h63 : xs.length + ys.length ≤ 1125899906842624) (hb : (xs.length + ys.length) * i.bytes ≤ 140737488355328)
 (hk : K (.ret (.isl t (xs ++ ys))) H) : OpV P o ev H K := by
 refine q1I (by rw [hop]; intro c hc; cases hc) fun C e' hw hv => ?_
 have h0 := hv x (by rw [hop]; simp [Op.operands, Call.operands, hc, ha])
 have h1 := hv y (by rw [hop]; simp [Op.operands, Call.operands, hc, ha])
 rw [hdst, SV.den] at h0
 obtain ⟨h0, A, hv0⟩ := h0
 obtain ⟨news, hr, hlen, hfc⟩ := z1o hw h1 hsrc hp
 obtain ⟨news', hr', hlen', hfc'⟩ := z1o (q3L hw) (q1x (q2K C) h1) hsrc hp
 rw [← hsz] at hfc hfc'
 have fin : ∀ r C', (Builtin.append_ #[tS, tX] o.type #[e' x, e' y]).run P C.w = .ok r C'.w → Wd C' H → Ext ⟨C, H⟩ C' H → (SV.isl t (xs ++ ys)).den C' r →
  ∃ s v H' C', K (.ret s) H' ∧ ((execOp e' o).run P C.w = .ok (.value v) C'.w ∨ ((execOp e' o).run P C.w = .ok .skip C'.w ∧ v = undef)) ∧ Wd C' H' ∧ Ext ⟨C, H⟩ C' H' ∧ s.den C' v := fun r C' hrun g1 g2 g3 =>
  ⟨_, r, _, C', hk, .inl (by simp [execOp, hop, resolve, hc, ha, hty, invoke, builtin, hrun, Result.andThen]), g1, g2, g3⟩
 by_cases hy : ys.length = 0
 · obtain rfl : ys = [] := List.eq_nil_of_length_eq_zero hy
   obtain rfl : news = [] := by cases hr; rfl
   refine fin (e' x) C ?_ hw (Ext.refl _ _) ?_
   · rw [hv0]
     exact q6o ht hx hi hlen (Nat.le_refl _) (by simpa using hfc)
   rw [List.append_nil, SV.den]; exact h0
 obtain ⟨vs, v1, v2⟩ : ∃ vs, relL C.drew.I C.drew.w t xs vs ∧ (Builtin.firstCells t.size xs.length (.slice A xs.length xs.length)).run P C.drew.w = .ok vs.toArray C.drew.w := by
  refine q2B (P := P) (C := C.drew) (A := A) (c := xs.length) (ys := xs) ?_
  obtain ⟨A', n, c', e1, hn, _, _, hd⟩ := h0
  rw [hv0] at e1
  simp only [List.cons.injEq, Value.slice.injEq, and_true] at e1
  obtain ⟨rfl, _, _⟩ := e1
  rcases hd with hd | ⟨b, off, rfl, _, hd⟩
  · exact .inl hd
  refine .inr ⟨b, off, rfl, fun j d hj => ?_⟩
  obtain ⟨us, a1, a2⟩ := hd j d hj
  exact ⟨us, Ty.rel_keep (q2K C).I _ _ _ a1, a2⟩
 rw [← hsz] at v2
 obtain ⟨cap, hcap, hrun⟩ := q3u (P := P) (w := C.w) (ty := o.type) ht hx hi hz hlen (sLen := xs.length) (sCap := xs.length) (by omega) (by omega) hb v2 hfc'
 obtain ⟨C', hC', g1, g2, g3⟩ := j0g (T := e) (rest := (Builtin.zeroCells z.cells (cap - (xs.length + ys.length))).toList) (q3L hw) (q3q v1 hr') (c := cap) (by simpa using hcap) (by simpa using h63)
 refine fin _ C' ?_ g1 ((q2M C H).trans g2) g3
 rw [hv0, hrun, hC']
 simp only [List.length_append]
 rfl

theorem q5M {C : Cx} {e : Operand → Value} {lo : Option Operand} {hi mx : Operand} {a : Option Int} {b m : Int} {isS : Bool} {len cap : Nat} (hlo : ∀ x ∈ lo, (ev x).den C (e x)) (hhi : (ev hi).den C (e hi)) (hmx : (ev mx).den C (e mx))
 (h1 : bndV ev lo = some a) (h2 : bndV ev (some hi) = some (some b)) (h3 : bndV ev (some mx) = some (some m)) (w : World) (g0 : 0 ≤ loOf a) (g1 : loOf a ≤ b) (g2 : b ≤ m) (g3 : m ≤ (cap : Int)) :
 (Instr.sliceBounds isS len cap (lo.map e) (some (e hi)) (some (e mx))).run P w = .ok ((loOf a).toNat, b.toNat, m.toNat) w := by
 have hm := q4S (P := P) hmx h3 cap (if isS then .slice3Acap else .slice3Alen) w (by omega) (by omega)
 have hh := q4S (P := P) hhi h2 m.toNat (.slice3B) w (by omega) (by omega)
 cases lo with
 | none =>
  simp only [bndV, Option.some.injEq] at h1
  subst h1
  simp [Instr.sliceBounds, loOf, hm, hh]
 | some x =>
  cases a with
  | none => simp only [bndV] at h1; split at h1 <;> simp at h1
  | some n =>
   simp only [loOf] at *
   have := q4S (P := P) (hlo x rfl) h1 b.toNat (.slice3C) w g0 (by omega)
   simp [Instr.sliceBounds, hm, hh, this]

def fullS (f : Bool) : SV → SV
 | .isl t xs => if f then .fsl t xs else .isl t xs
 | s => s
theorem z2Y {T : TypeId} {x hi mx : Operand} {lo : Option Operand} {a : Option Int} {b m : Int} {s : SV} {f : Bool} (hop : o.op = .slice T x lo (some hi) (some mx)) (hk0 : sliceKind P T (ev x) = true) (h1 : bndV ev lo = some a) (h2 : bndV ev (some hi) = some (some b)) (h3 : bndV ev (some mx) = some (some m))
 (g0 : 0 ≤ loOf a) (g1 : loOf a ≤ b) (g2 : b ≤ m) (g3 : m ≤ (lenOfS (ev x) : Int)) (hf : f = true → b = m) (hne : ∀ str, ev x ≠ .raw (.string str)) (hs : sliceTo (loOf a).toNat b.toNat (ev x) = some s) (hk : K (.ret (fullS f s)) H) : OpV P o ev H K := by
 refine q0x (by rw [hop]; intro c hc; cases hc) (s := fullS f s) (fun C e _ hv => ?_) hk
 rw [hop] at hv
 have hx := hv x (by simp [Op.operands])
 have hlo : ∀ y ∈ lo, (ev y).den C (e y) := fun y hy => hv y (by simp [Op.operands]; cases hy; simp)
 have hhi : (ev hi).den C (e hi) := hv hi (by simp [Op.operands])
 have hmx : (ev mx).den C (e mx) := hv mx (by simp [Op.operands])
 have hexec : ∀ r : Value, (Instr.sliceAt T (e x) (lo.map e) (some (e hi)) (some (e mx))).run P C.w = .ok r C.w → (execOp e o).run P C.w = .ok (.value r) C.w := fun r hr => by
  simp [execOp, hop, hr]
 generalize hsx : ev x = sx at *
 unfold sliceKind at hk0
 split at hk0
 · exact absurd rfl (hne _)
 · rename_i ty xs
   obtain ⟨el, hu, hsz⟩ := q2Z hk0
   simp only [sliceTo, Option.some.injEq] at hs
   subst hs
   simp only [lenOfS] at *
   rw [SV.den] at hx
   obtain ⟨A, n, c, e0, hn, hc, hlim, hd⟩ := hx
   simp only [List.cons.injEq, and_true] at e0
   subst hn
   have hb := q5M (P := P) (C := C) (e := e) (isS := true) (len := xs.length) (cap := c) hlo hhi hmx h1 h2 h3 C.w g0 g1 g2 (by omega)
   have hden : (SV.isl ty ((xs.take b.toNat).drop (loOf a).toNat)).den C (.slice (if m.toNat = (loOf a).toNat then A else A.map (·.add ((loOf a).toNat * ty.size))) (b.toNat - (loOf a).toNat) (m.toNat - (loOf a).toNat)) := by
    rw [SV.den]
    refine ⟨_, _, _, rfl, by simp; omega, by omega, by omega, ?_⟩
    by_cases hz : b.toNat - (loOf a).toNat = 0
    · exact .inl (List.eq_nil_of_length_eq_zero (by simp; omega))
    rcases hd with rfl | ⟨blk, off, rfl, hI, hd⟩
    · simp at g3; omega
    refine .inr ⟨blk, off + (loOf a).toNat * ty.size, ?_, hI, fun i x hx => ?_⟩
    · rw [if_neg (by omega)]; simp [q1h]
    rw [List.getElem?_drop, List.getElem?_take] at hx
    split at hx
    · obtain ⟨us, h1, h2⟩ := hd ((loOf a).toNat + i) x hx
      exact ⟨us, h1, fun k u hu => by rw [← h2 k u hu, Nat.add_mul]; congr 2; omega⟩
    cases hx
   refine ⟨.slice (if m.toNat = (loOf a).toNat then A else A.map (·.add ((loOf a).toNat * ty.size))) (b.toNat - (loOf a).toNat) (m.toNat - (loOf a).toNat), hexec _ (by simp [Instr.sliceAt, run_underlying' hu, Instr.slice, e0, hb, q0C hsz]), ?_⟩
   cases f with
   | false => exact hden
   | true =>
    have hbm := hf rfl
    subst hbm
    simp only [fullS, if_true]
    simp only [SV.den] at hden ⊢
    have hl : ((xs.take b.toNat).drop (loOf a).toNat).length = b.toNat - (loOf a).toNat := by simp; omega
    refine ⟨hden, if b.toNat = (loOf a).toNat then A else A.map (·.add ((loOf a).toNat * ty.size)), ?_⟩
    rw [hl]
 · rename_i h ty n
   obtain ⟨el, hu, hsz⟩ := q2Z hk0
   simp only [sliceTo, Option.some.injEq] at hs
   subst hs
   simp only [lenOfS] at *
   have hx := q6I hx
   rw [SV.den] at hx
   obtain ⟨hn, A, c, e0, hc, hd⟩ := hx
   have hb := q5M (P := P) (C := C) (e := e) (isS := true) (len := n) (cap := c) hlo hhi hmx h1 h2 h3 C.w g0 g1 g2 (by omega)
   refine ⟨.slice (if m.toNat = (loOf a).toNat then A else A.map (·.add ((loOf a).toNat * ty.size))) (b.toNat - (loOf a).toNat) (m.toNat - (loOf a).toNat), hexec _ ?_, ?_⟩
   · simp [Instr.sliceAt, run_underlying' hu, Instr.slice, e0, hb, q0C hsz]
   simp only [fullS]
   rw [SV.den]
   refine ⟨hn, _, _, rfl, by omega, ?_⟩
   by_cases hz : b.toNat - (loOf a).toNat = 0
   · exact .inl hz
   rcases hd with h0 | ⟨blk, hblk, rfl⟩
   · omega
   refine .inr ⟨blk, hblk, ?_⟩
   rw [if_neg (by omega)]
   simp [q1h]
 · rename_i h ty off n
   obtain ⟨el, hu, hsz⟩ := q2Z hk0
   simp only [sliceTo, Option.some.injEq] at hs
   subst hs
   simp only [lenOfS] at *
   rw [SV.den] at hx
   obtain ⟨hn, A, c, e0, hc, hd⟩ := hx
   have hb := q5M (P := P) (C := C) (e := e) (isS := true) (len := n) (cap := c) hlo hhi hmx h1 h2 h3 C.w g0 g1 g2 (by omega)
   refine ⟨.slice (if m.toNat = (loOf a).toNat then A else A.map (·.add ((loOf a).toNat * ty.size))) (b.toNat - (loOf a).toNat) (m.toNat - (loOf a).toNat), hexec _ ?_, ?_⟩
   · simp [Instr.sliceAt, run_underlying' hu, Instr.slice, e0, hb, q0C hsz]
   simp only [fullS]
   rw [SV.den]
   refine ⟨hn, _, _, rfl, by omega, ?_⟩
   by_cases hz : b.toNat - (loOf a).toNat = 0
   · exact .inl hz
   rcases hd with h0 | ⟨blk, hblk, rfl⟩
   · omega
   refine .inr ⟨blk, hblk, ?_⟩
   rw [if_neg (by omega)]
   simp [q1h, Nat.add_mul]
 · split at hk0
   · rename_i el hu
     simp only [sliceTo, Option.some.injEq] at hs
     subst hs
     simp only [lenOfS] at *
     rw [SV.den] at hx
     have hb := q5M (P := P) (C := C) (e := e) (isS := true) (len := 0) (cap := 0) hlo hhi hmx h1 h2 h3 C.w g0 g1 g2 g3
     have e1 : (loOf a).toNat = 0 := by omega
     have e2 : b.toNat = 0 := by omega
     have e3 : m.toNat = 0 := by omega
     rw [e1, e2, e3] at hb
     obtain ⟨i, hi'⟩ := Option.isSome_iff_exists.1 hk0
     refine ⟨_, hexec (.slice none 0 0) ?_, by simp only [fullS]; rw [SV.den]⟩
     simp [Instr.sliceAt, run_underlying' hu, Instr.slice, hx, hb, sizeOf, typeInfo, hi']
   cases hk0
 cases hk0
end Go.Sx
set_option linter.unusedSectionVars false
namespace Go.Sx
open Go

variable [Ghost] {P : Program} {o : Oper} {ev : Operand → SV} {H : List SObj} {K : Out → List SObj → Prop}

def plainK (P : Program) (t : TypeId) : Option Nat := match P.underlying t with
 | some (.int _) => some 0
 | some .string => some 1
 | some .bool => some 2
 | _ => none
def flatK (P : Program) : List Field → Nat → Option (List Nat)
 | [], _ => some []
 | f :: fs, i => match plainK P f.type, flatK P fs (i + 1) with
  | some k, some ks => if f.name ≠ "_" ∧ f.offset = i ∧ aggOf P f.type = some none then some (k :: ks) else none
  | _, _ => none
def structK (P : Program) (t : TypeId) : Option (List Nat) := match P.underlying t with
 | some (.struct fs) => if P.stoodInHeld t = false ∧ P.eqGuardType P.depth t = false then flatK P fs.toList 0 else none
 | _ => none
def eqR : Nat → SV → SV → Option Bool
 | 0, .raw (.int k a), .raw (.int k' b) => if k = k' then some (decide (a = b)) else none
 | 1, .raw (.string a), .raw (.string b) => some (decide (a = b))
 | 2, .raw (.bool a), .raw (.bool b) => some (decide (a = b))
 | _, _, _ => none
def eqRs : List Nat → List SV → List SV → Option Bool
 | [], [], [] => some true
 | k :: ks, a :: l, b :: l' => match eqR k a b, eqRs ks l l' with
  | some r, some s => some (r && s)
  | _, _ => none
 | _, _, _ => none

theorem j1q {C : Cx} {t : TypeId} {k d : Nat} {a b : SV} {u v : Value} {r : Bool} (hk : plainK P t = some k) (h : eqR k a b = some r) (ha : a.den C u) (hb : b.den C v) (w : World) : (Op.equalIn (d + 1) t u v).run P w = .ok r w := by
 unfold plainK at hk
 unfold eqR at h
 split at h
 · rename_i k1 x k2 y
   split at h
   · rename_i e; subst e; cases h
     rw [SV.den] at ha hb; subst ha hb
     split at hk <;> first | (cases hk; done) | skip
     rw [run_equalIn_int w d t _ _ _ _ (by assumption)]; rfl
   cases h
 · cases h
   rw [SV.den] at ha hb; subst ha hb
   split at hk <;> first | (cases hk; done) | skip
   rw [run_equalIn_string w d t _ _ (by assumption), q7Y]
 · cases h
   rw [SV.den] at ha hb; subst ha hb
   split at hk <;> first | (cases hk; done) | skip
   rw [run_equalIn_bool' w d t _ _ (by assumption)]; rfl
 cases h

theorem q5R {t : TypeId} {pre vs : List Value} {v : Value} (h : aggOf P t = some none) (w : World) : (part t (pre ++ v :: vs).toArray pre.length).run P w = .ok v w := by
 simp [part, q3A h]

theorem q5t {C : Cx} {d : Nat} (w : World) : ∀ (fs : List Field) (i : Nat) (ks : List Nat) (l l' : List SV) (vs us pre pre' : List Value) (r : Bool), flatK P fs i = some ks → eqRs ks l l' = some r → SV.denL C l vs → SV.denL C l' us → pre.length = i → pre'.length = i →
 (Op.eqFields (d + 1) (pre ++ vs).toArray (pre' ++ us).toArray fs).run P w = .ok r w
 | [], i, ks, l, l', vs, us, pre, pre', r, hf, he, hl, hl', h1, h2 => by
  cases hf
  cases l with
  | nil =>
   cases l' with
   | nil => cases he; simp [Op.eqFields]
   | cons _ _ => simp [eqRs] at he
  | cons _ _ => cases l' <;> simp [eqRs] at he
 | f :: fs, i, ks, l, l', vs, us, pre, pre', r, hf, he, hl, hl', h1, h2 => by
  unfold flatK at hf
  split at hf
  · rename_i k ks' hk hks
    split at hf
    · rename_i hc
      cases hf
      obtain ⟨hn, ho, ha⟩ := hc
      cases l with
      | nil => cases l' <;> simp [eqRs] at he
      | cons a l =>
       cases l' with
       | nil => simp [eqRs] at he
       | cons b l' =>
        obtain ⟨v, vs, rfl, dv, dl⟩ := q0g.1 hl
        obtain ⟨u, us, rfl, du, dl'⟩ := q0g.1 hl'
        simp only [eqRs] at he
        split at he
        · rename_i r1 r2 he1 he2
          cases he
          have ih := q5t (d := d) w fs (i + 1) ks' l l' vs us (pre ++ [v]) (pre' ++ [u]) r2 hks he2 dl dl' (by simp [h1]) (by simp [h2])
          rw [List.append_assoc, List.append_assoc, List.singleton_append, List.singleton_append] at ih
          have p1 : (part f.type (pre ++ v :: vs).toArray f.offset).run P w = .ok v w := by rw [ho, ← h1]; exact q5R ha w
          have p2 : (part f.type (pre' ++ u :: us).toArray f.offset).run P w = .ok u w := by rw [ho, ← h2]; exact q5R ha w
          have p3 := j1q (d := d) hk he1 dv du w
          simp only [Op.eqFields]
          rw [if_pos hn]
          simp only [Sem.run_bind, p1, p2, p3, Result.andThen_ok, Sem.run_ite]
          cases r1
          · simp
          simpa using ih
        cases he
    cases hf
  cases hf

theorem z5J {op : BinOp} {t t' : TypeId} {x y : Operand} {ks : List Nat} {l l' : List SV} {r : Bool} (hop : o.op = .binOp op t x y t') (ho : op = .eql ∨ op = .neq) (hs : structK P t = some ks) (hx : ev x = .agg l) (hy : ev y = .agg l') (h : eqRs ks l l' = some r)
 (hk : K (.ret (.raw (.bool (if op = .eql then r else !r)))) H) : OpV P o ev H K := by
 refine q0x (by rw [hop]; intro c hc; cases hc) (fun C e _ hv => ?_) hk
 have h0 := hv x (by rw [hop]; simp [Op.operands])
 have h1 := hv y (by rw [hop]; simp [Op.operands])
 rw [hx, SV.den] at h0
 rw [hy, SV.den] at h1
 obtain ⟨vs, h0, hl⟩ := h0
 obtain ⟨us, h1, hl'⟩ := h1
 refine ⟨.bool (if op = .eql then r else !r), ?_, by rw [SV.den]⟩
 unfold structK at hs
 split at hs
 · rename_i fs hu
   split at hs
   · rename_i hc
     have hfo : P.fieldsOf t = fs := by simp [Program.fieldsOf, hu]
     have hr : (Op.equalIn 10000 t (.agg vs.toArray) (.agg us.toArray)).run P C.w = .ok r C.w := by
      rw [show (10000 : Nat) = 9999 + 1 from rfl, run_equalIn_struct C.w 9999 t _ _ (by rw [hfo]; exact hu) hc.1, hfo]
      exact q5t (d := 9998) C.w fs.toList 0 ks l l' vs us [] [] r hs h hl hl' rfl rfl
     have hg := run_eqGuard_agg C.w op t x y vs.toArray us.toArray hc.2
     rcases ho with rfl | rfl
     · simp [execOp, hop, h0, h1, hg, run_eql_struct, hr, Result.andThen]
     simp [execOp, hop, h0, h1, hg, run_neq_struct, hr, Result.andThen]
   cases hs
 cases hs

def kSlice (P : Program) (t : TypeId) : Bool := match P.underlying t with | some (.slice _) => true | _ => false
theorem z5D {t : TypeId} (h : kSlice P t = true) : ∃ e, P.underlying t = some (.slice e) := by
 unfold kSlice at h; split at h; exact ⟨_, by assumption⟩; cases h
def SV.emp : SV → Option Prop
 | .isl _ xs => some (xs = [])
 | .bld _ _ n => some (n = 0)
 | .osl _ _ _ n => some (n = 0)
 | _ => none
theorem j0P {C : Cx} {s : SV} {v : Value} {E : Prop} (h : s.emp = some E) (hd : s.den C v) : ∃ A n c, v = .slice A n c ∧ (A = none → E) := by
 unfold SV.emp at h
 split at h <;> cases h <;> rw [SV.den] at hd
 · obtain ⟨A, n, c, hv, _, _, _, hx⟩ := hd
   cases hv
   refine ⟨A, n, c, rfl, fun ha => ?_⟩
   rcases hx with rfl | ⟨b, off, rfl, _⟩
   · rfl
   cases ha
 · obtain ⟨_, ⟨_, rfl, rfl⟩ | ⟨b, c, m, _, rfl, _⟩⟩ := hd
   · exact ⟨none, 0, 0, rfl, fun _ => rfl⟩
   exact ⟨_, _, c, rfl, fun h => by cases h⟩
 obtain ⟨_, A, c, rfl, _, hx⟩ := hd
 refine ⟨A, _, c, rfl, fun ha => ?_⟩
 rcases hx with rfl | ⟨b, _, rfl⟩
 · rfl
 cases ha
theorem j0c {t e : TypeId} (hu : P.underlying t = some (.slice e)) (A : Option Addr) (n c k : Nat) (w : World) : (Op.equalIn (k + 1) t (.slice A n c) (.slice none 0 0)).run P w = .ok A.isNone w := by
 have : (underlying t).run P w = .ok (.slice e) w := by simp [underlying, hu]
 cases A <;> simp [Op.equalIn, this]
theorem z2c {t : TypeId} (hs : kSlice P t = true) (A : Option Addr) (n c : Nat) (w : World) :
 (binOp .eql t (.slice A n c) (.slice none 0 0)).run P w = .ok (.bool A.isNone) w ∧ (binOp .neq t (.slice A n c) (.slice none 0 0)).run P w = .ok (.bool !A.isNone) w := by
 obtain ⟨e, hu⟩ := z5D hs
 have hr : (Op.equal t (.slice A n c) (.slice none 0 0)).run P w = .ok A.isNone w := j0c hu A n c 9999 w
 cases A <;> simp [binOp, hr]
theorem z2B {op : BinOp} {t t' : TypeId} {x y : Operand} {E : Prop} (hop : o.op = .binOp op t x y t') (ho : op = .eql ∨ op = .neq) (hs : kSlice P t = true) (hx : (ev x).emp = some E) (hy : ev y = .raw (.slice none 0 0))
 (hk : ∀ b : Bool, (b = true → E) → K (.ret (.raw (.bool (if op = .eql then b else !b)))) H) : OpV P o ev H K := by
 refine q1I (by rw [hop]; intro c hc; cases hc) fun C e hw hv => ?_
 have h0 := hv x (by rw [hop]; simp [Op.operands])
 have h1 := hv y (by rw [hop]; simp [Op.operands])
 rw [hy, SV.den] at h1
 obtain ⟨A, n, c, h0, hE⟩ := j0P hx h0
 obtain ⟨g1, g2⟩ := z2c hs A n c C.w
 have hgd : (eqGuard op t x y (.slice A n c) (.slice none 0 0)).run P C.w = .ok () C.w := by unfold eqGuard; split <;> simp
 refine ⟨_, .bool (if op = .eql then A.isNone else !A.isNone), H, C, hk A.isNone (fun h => hE (by simpa using h)), .inl ?_, hw, Ext.refl _ _, by rw [SV.den]⟩
 rcases ho with rfl | rfl
 · simp [execOp, hop, h0, h1, hgd, g1, Result.andThen]
 simp [execOp, hop, h0, h1, hgd, g2, Result.andThen]
theorem q7l {op : BinOp} {t t' : TypeId} {x y : Operand} (hop : o.op = .binOp op t x y t') (ho : op = .eql ∨ op = .neq) (hs : kSlice P t = true) (hx : ev x = .raw (.slice none 0 0)) (hy : ev y = .raw (.slice none 0 0))
 (hk : K (.ret (.raw (.bool (if op = .eql then true else false)))) H) : OpV P o ev H K := by
 refine q0x (by rw [hop]; intro c hc; cases hc) (fun C e _ hv => ?_) hk
 have h0 := hv x (by rw [hop]; simp [Op.operands])
 have h1 := hv y (by rw [hop]; simp [Op.operands])
 rw [hx, SV.den] at h0
 rw [hy, SV.den] at h1
 obtain ⟨g1, g2⟩ := z2c hs none 0 0 C.w
 have hgd : (eqGuard op t x y (.slice none 0 0) (.slice none 0 0)).run P C.w = .ok () C.w := by unfold eqGuard; split <;> simp
 refine ⟨.bool (if op = .eql then true else false), ?_, by rw [SV.den]⟩
 rcases ho with rfl | rfl
 · simp [execOp, hop, h0, h1, hgd, g1, Result.andThen]
 simp [execOp, hop, h0, h1, hgd, g2, Result.andThen]
theorem z8Q {C : Cx} {s : SV} {v : Value} {b : Bool} (h : s.den C v) : (SV.tup [s, .raw (.bool b)]).den C (.tuple #[v, .bool b]) := by
 rw [SV.den]
 exact ⟨[v, .bool b], rfl, q0g.2 ⟨_, _, rfl, h, q0g.2 ⟨_, _, rfl, by rw [SV.den], q0F.2 rfl⟩⟩⟩
theorem q6S {P : Program} {T : TypeId} (h : notIface P T = true) : ∃ d, P.underlying T = some d ∧ ∀ ms, d ≠ .interface ms := by
 unfold notIface at h
 split at h
 · cases h
 · rename_i d hne hd; exact ⟨d, hd, fun ms e => hne ms e⟩
 cases h
theorem z3f {P : Program} {o : Oper} {ev : Operand → SV} {H : List SObj} {K : Out → List SObj → Prop} {x : Operand} {xT T : TypeId} {y : SV} (hop : o.op = .typeAssert x xT T true) (hn : notIface P T = true) (hx : ev x = .iface T y) (hk : K (.ret (.tup [y, .raw (.bool true)])) H) : OpV P o ev H K := by
 refine q0x (by rw [hop]; intro c hc; cases hc) (fun C e _ hv => ?_) hk
 have h1 := hv x (by rw [hop]; simp [Op.operands])
 rw [hx, SV.den] at h1
 obtain ⟨u, h1, h2⟩ := h1
 refine ⟨.tuple #[u, .bool true], ?_, z8Q h2⟩
 obtain ⟨d, hd, hni⟩ := q6S hn
 cases d <;> first | exact absurd rfl (hni _) | simp [execOp, hop, h1, Instr.typeAssert, run_underlying' hd, Result.andThen]
theorem q9J {P : Program} {o : Oper} {ev : Operand → SV} {H : List SObj} {K : Out → List SObj → Prop} {x : Operand} {xT T : TypeId} {z : Value} (hop : o.op = .typeAssert x xT T true) (hn : notIface P T = true) (hz : zeroOf P T = some z) (hx : ev x = .raw .nilIface ∨ ∃ T' y, T' ≠ T ∧ ev x = .iface T' y) (hk : K (.ret (.tup [.ofV z, .raw (.bool false)])) H) : OpV P o ev H K := by
 refine q0x (by rw [hop]; intro c hc; cases hc) (fun C e _ hv => ?_) hk
 have h1 := hv x (by rw [hop]; simp [Op.operands])
 refine ⟨.tuple #[z, .bool false], ?_, z8Q (z0c z)⟩
 have hzr := q7u hz C.w
 obtain ⟨d, hd, hni⟩ := q6S hn
 rcases hx with hx | ⟨T', y, hne, hx⟩ <;> rw [hx, SV.den] at h1
 · cases d <;> first | exact absurd rfl (hni _) | simp [execOp, hop, h1, Instr.typeAssert, run_underlying' hd, hzr, Result.andThen]
 obtain ⟨u, h1, _⟩ := h1
 cases d <;> first | exact absurd rfl (hni _) | simp [execOp, hop, h1, Instr.typeAssert, run_underlying' hd, hzr, hne, Result.andThen]
end Go.Sx
