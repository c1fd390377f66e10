/- A part of the proof: a symbolic executor over abstract values, and its soundness. -/
import Derived.WalkKit
import Derived.CallsIn
import Derived.OrdersIn
import Derived.Deep.LoopGhost
set_option linter.all false
namespace Go.Sx
open Go
theorem orMap{a b c d:Prop}(h:a∨b)(f:a→c)(g:b→d):c∨d:=h.elim (fun x=>.inl (f x)) (fun x=>.inr (g x))
def Aa:= @List.getElem?_eq_some_iff
def Ab:= @List.getElem?_eq_getElem
def Ac:= @Nat.zero_add
def Ad:= @List.getD_eq_getElem?_getD
def Ae:= @Nat.le_refl
def Af:= @List.length_append
def Ag:= @List.getElem?_append_left
def Ah:= @List.take_of_length_le
def Ai:= @List.append_nil
def Aj:= @Bool.and_eq_true
def Ak:= @List.length_drop
def Al:= @Nat.zero_le
def Am:= @Nat.lt_of_lt_of_le
def An:= @Nat.le_trans
def Ao:= @List.getElem?_append_right
def Ap:= @Option.map_eq_some_iff
def Aq:= @List.getElem?_set_ne
def Ar:= @List.getElem?_set_self
def As:= @List.nil_append
def Au:= @List.drop_zero
def Av:= @Array.length_toList
def Aw:= @List.length_take
def Ay:= @List.cons_append
def Az:= @List.take_length
def AA:= @Array.getElem?_eq_some_iff
def AB:= @List.length_cons
def AC:= @Nat.lt_or_ge
def AD:= @List.flatten_cons
def AE:= @Bool.true_and
def AF:= @List.getElem?_drop
def AG:= @Nat.not_lt
def AH:= @List.getElem?_take
def AI:= @BitVec.ofInt_natCast
def AJ:= @List.getElem?_eq_none
def AK:= @Nat.add_zero
def AL:= @Nat.mod_eq_of_lt
def AM:= @Nat.mul_one
def AN:= @List.getElem?_map
def AO:= @List.size_toArray
def AP:= @List.ext_getElem
def AR:= @Bool.false_and
def AS:= @BitVec.toNat_ofNat
def AT:= @List.map_cons
def AU:= @List.getElem_range
def AV:= @List.getElem_of_mem
def AW:= @List.mem_cons_of_mem
def AX:= @Nat.mul_le_mul_right
def AY:= @List.drop_eq_nil_of_le
def AZ:= @List.getElem_map
def A0:= @List.flatten_nil
def A3:= @Array.eq_empty_of_size_eq_zero
def A4:= @List.length_set
def A5:= @List.length_map
def A6:= @Int.fdiv_eq_ediv_of_nonneg
def A7:= @List.eq_nil_of_length_eq_zero
def A8:= @List.take_append_of_le_length
def A9:= @Option.bind_eq_some_iff
def Ba:= @List.all_eq_true
def Bb:= @List.take_append_drop
def Bc:= @List.ext_getElem?
def Bd:= @Bool.false_eq_true
def Be:= @Nat.zero_mul
def Bf:= @Nat.min_eq_left
def Bg:= @Array.toList_inj
def Bh:= @List.getElem_append_left
def Bi:= @List.length_eq_zero_iff
def Bj:= @List.set_cons_zero
def Bk:= @List.set_cons_succ
def Bl:= @List.foldl_cons
def Bm:= @Nat.add_comm
def Bn:= @List.drop_append_of_le_length
def Bo:= @List.length_singleton
def Bp:= @List.drop_drop
def Bq:= @List.length_nil
def Br:= @Nat.pow_le_pow_right
def Bs:= @Array.getD_eq_getD_getElem?
def Bt:= @List.all_cons
def Bu:= @Array.getElem?_eq_none
def Bv:= @List.length_eq_one_iff
def Bw:= @List.nodup_cons
def Bx:= @Array.getElem?_eq_getElem
def By:= @Bool.and_eq_false_iff
def Bz:= @List.mem_cons
def BA:= @Bool.and_true
def BB:= @List.getElem?_take_of_lt
def BC:= @List.mem_of_getElem?
def BD:= @List.drop_take
def BE:= @Bool.and_false
def BF:= @Bool.eq_iff_iff
def BG:= @Nat.not_lt_zero
def BH:= @List.getD_cons_zero
def BI:= @List.getElem_set
def BJ:= @List.mem_singleton
def BK:= @Nat.add_sub_cancel
def BL:= @List.take_zero
def BM:= @List.length_replicate
def BN:= @List.getElem_append_right
def BO:= @List.map_map
def BP:= @Int.toNat_natCast
def BQ:= @Array.getElem?_setIfInBounds_ne
def BR:= @List.getD_cons_succ
def BS:= @List.drop_append
def BT:= @List.range_succ_eq_map
def BU:= @List.mem_map
def BV:= @UInt8.toNat_ofNat'
def BW:= @Bool.or_eq_true
def BX:= @List.mem_append
def BY:= @UInt8.toNat_inj
def BZ:= @List.set_append_right
def B1:= @List.flatMap_cons
def B2:= @List.length_range
def B3:= @Nat.one_mul
def B4:= @Array.toList_setIfInBounds
def B5:= @List.getElem?_modify
def B6:= @UInt8.toNat_lt
def B7:= @List.getElem_mem
def B8:= @Bool.or_true
def B9:= @Array.mapM_eq_mapM_toList
def Ca:= @List.replicate_succ
def Cb:= @Array.toList_modify
def Cd:= @Bool.or_eq_true_iff
def Ce:= @List.drop_succ_cons
def Cf:= @List.take_succ_cons
def Cg:= @Nat.mul_le_mul_left
def Ch:= @Array.size_setIfInBounds
def Ci:= @Option.isSome_iff_exists
def Cj:= @List.find?_range_eq_some
def Ck:= @Nat.lt_irrefl
def Cl:= @BitVec.toNat_or
def Cm:= @List.mem_cons_self
def Cn:= @List.getElem?_cons_zero
def Co:= @Nat.add_sub_cancel_left
def Cp:= @List.set_eq_take_append_cons_drop
def Cq:= @List.mem_range
def Cr:= @Array.toList_replicate
def Cs:= @List.all_nil
def Ct:= @Nat.mul_comm
def Cu:= @List.flatten_singleton
def Cv:= @Array.getElem?_toList
def Cw:= @List.take_append
def Cy:= @Array.toArray_toList
def Cz:= @Nat.shiftLeft_add_eq_or_of_lt
def CA:= @List.replicate_succ'
def CB:= @Array.toList_append
def CC:= @List.map_congr_left
def CD:= @List.toList_toArray
def CE:= @List.map_nil
def CF:= @Nat.pow_succ
def CG:= @Nat.sub_self
def CH:= @Nat.two_pow_add_eq_or_of_lt
def CI:= @Bool.true_or
def CJ:= @List.getElem?_concat_length
def CK:= @Array.foldl_toList
def CL:= @Nat.le_succ
def CM:= @Nat.lt_trichotomy
def CN:= @Nat.mul_add
def CO:= @Nat.pow_add
def CP:= @UInt8.ofNat_toNat
def CQ:= @Option.bind_some
def CR:= @Nat.le_add_right
def CS:= @Nat.le_of_eq
def CT:= @Option.map_some
def CU:= @List.map_append
def CV:= @List.mapM_cons
def CW:= @List.nodup_nil
def CX:= @List.drop_left
def CY:= @List.map_id
def CZ:= @Int.not_lt

inductive Ty where
 |u8|int (k:IntKind) |bool|str|slice (t:Ty) |prod (a b:Ty) |unit|arr (n:Nat) (t:Ty) |ptr (t:Ty) |clo (f:Nat) (t:Ty) |clp (f:Nat) (t:Ty) |mbs (t:Ty)
 deriving DecidableEq

@[reducible] def Ty.den:Ty→Type
 |.u8=>UInt8
 |.int _=>Int
 |.bool=>Bool
 |.str=>ByteArray
 |.slice t=>List t.den
 |.prod a b=>a.den×b.den
 |.unit=>Unit
 |.arr _ t=>List t.den
 |.ptr t=>Option t.den
 |.clo _ t=>t.den
 |.clp _ t=>t.den
 |.mbs t=>Option (List t.den)

def Ty.dflt:(t:Ty)→t.den
 |.u8=>(0:UInt8)
 |.int _=>(0:Int)
 |.bool=>false
 |.str=>ByteArray.empty
 |.slice t=>([]:List t.den)
 |.prod a b=>(a.dflt,b.dflt)
 |.unit=>()
 |.arr n t=>List.replicate n t.dflt
 |.ptr _=>none
 |.clo _ t=>t.dflt
 |.clp _ t=>t.dflt
 |.mbs _=>none

def Ty.size:Ty→Nat
 |.prod a b=>a.size+b.size
 |.unit=>0
 |.arr n t=>n*t.size
 |_=>1

def Ty.ok:(t:Ty)→t.den→Prop
 |.u8,_=>True
 |.int _,_=>True
 |.bool,_=>True
 |.str,s=>s.size≤140737488355328
 |.slice t,xs=>xs.length≤1125899906842624∧∀x∈xs,t.ok x
 |.prod a b,x=>a.ok x.1∧b.ok x.2
 |.unit,_=>True
 |.arr n t,xs=>xs.length=n∧∀x∈xs,t.ok x
 |.ptr t,x=>∀y,x=some y→t.ok y
 |.clo _ t,x=>t.ok x
 |.clp _ t,x=>t.ok x
 |.mbs t,x=>∀xs,x=some xs→xs.length≤1125899906842624∧∀y∈xs,t.ok y

def Ty.plain:Ty→Bool
 |.arr _ _=>false
 |.prod a b=>a.plain&& b.plain
 |_=>true

def Ty.rel(I:Nat→Prop)(w:World):(t:Ty)→t.den→List Value→Prop
 |.u8,c,vs=>vs= [.int .u8 c.toNat]
 |.int k,n,vs=>vs= [.int k n]
 |.bool,b,vs=>vs= [.bool b]
 |.str,s,vs=>vs= [.string s]∧s.size≤140737488355328
 |.slice t,xs,vs=>∃A n c,vs= [.slice A n c]∧n=xs.length∧n≤c∧n≤1125899906842624∧
  (xs= []∨∃b off,A=some ⟨b,off,none⟩∧I b∧∀i x,xs[i]?=some x→∃us,t.rel I w x us∧∀k u,us[k]?=some u→w.cell? ⟨b,off+i*t.size+k,none⟩=some u)
 |.prod a b,x,vs=>∃v1 v2,vs=v1++v2∧a.rel I w x.1 v1∧b.rel I w x.2 v2
 |.unit,_,vs=>vs= []
 |.arr n t,xs,vs=>xs.length=n∧∃vss:List (List Value),vs=vss.flatten∧vss.length=xs.length∧∀ (i:Nat) x us,xs[i]?=some x→vss[i]?=some us→t.rel I w x us
 |.ptr t,x,vs=>(x=none∧vs= [.pointer none])∨∃y b off us,x=some y∧vs= [.pointer (some ⟨b,off,none⟩)]∧I b∧t.rel I w y us∧∀j u,us[j]?=some u→w.cell? ⟨b,off+j,none⟩=some u
 |.clo f t,x,vs=>∃us,vs= [.func (.func f) #[.agg us.toArray] #[]]∧t.rel I w x us
 |.clp f t,x,vs=>∃b off us,vs= [.func (.func f) #[] #[.pointer (some ⟨b,off,none⟩)]]∧I b∧t.rel I w x us∧∀j u,us[j]?=some u→w.cell? ⟨b,off+j,none⟩=some u
 |.mbs t,o,vs=>∃A n c,vs= [.slice A n c]∧∀xs,o=some xs→n=xs.length∧n≤c∧n≤1125899906842624∧
  (xs= []∨∃b off,A=some ⟨b,off,none⟩∧I b∧∀i x,xs[i]?=some x→∃us,t.rel I w x us∧∀k u,us[k]?=some u→w.cell? ⟨b,off+i*t.size+k,none⟩=some u)

theorem Ty.rel_ok{I:Nat→Prop}{w:World}:∀ (t:Ty) (x:t.den) (vs:List Value),t.rel I w x vs→t.ok x
 |.u8,_,_,_=>trivial
 |.int _,_,_,_=>trivial
 |.bool,_,_,_=>trivial
 |.str,_,_,h=>h.2
 |.slice t,xs,vs,h=>by
  obtain ⟨A,n,c,rfl,rfl,_,hn,h⟩:=h;refine ⟨hn,fun x hx=> ?_⟩;rcases h with rfl| ⟨b,off,rfl,_,h⟩
  · cases hx
  obtain ⟨i,hi,rfl⟩:=AV hx;obtain ⟨us,hr,_⟩:=h i xs[i] (Ab hi);exact t.rel_ok _ _ hr
 |.prod a b,x,vs,h=>by
  obtain ⟨v1,v2,rfl,h1,h2⟩:=h;exact ⟨a.rel_ok _ _ h1,b.rel_ok _ _ h2⟩
 |.unit,_,_,_=>trivial
 |.arr n t,xs,vs,h=>by
  obtain ⟨hn,vss,rfl,hl,h⟩:=h;refine ⟨hn,fun x hx=> ?_⟩;obtain ⟨i,hi,rfl⟩:=AV hx;exact t.rel_ok _ _ (h i _ vss[i] (Ab hi) (Ab (by omega)))
 |.ptr t,x,vs,h=>by
  intro y hy;rcases h with ⟨rfl,_⟩ | ⟨z,b,off,us,rfl,_,_,h,_⟩
  · cases hy
  cases hy;exact t.rel_ok _ _ h
 |.clo f t,x,vs,h=>by
  obtain ⟨us,_,hr⟩:=h;exact t.rel_ok _ _ hr
 |.clp f t,x,vs,h=>by
  obtain ⟨b,off,us,_,_,hr,_⟩:=h;exact t.rel_ok _ _ hr
 |.mbs t,o,vs,h=>by
  intro xs hx;obtain ⟨A,n,c,rfl,h⟩:=h;obtain ⟨rfl,_,hn,h⟩:=h xs hx;refine ⟨hn,fun x hx=> ?_⟩;rcases h with rfl| ⟨b,off,rfl,_,h⟩
  · cases hx
  obtain ⟨i,hi,rfl⟩:=AV hx;obtain ⟨us,hr,_⟩:=h i xs[i] (Ab hi);exact t.rel_ok _ _ hr

theorem flat_len{α:Type}{s:Nat}:∀ {vss:List (List α)},(∀us∈vss,us.length=s)→vss.flatten.length=vss.length*s
 | [],_=>by simp
 |us :: vss,h=>by
  rw [AD,Af,h us (Cm ..),flat_len fun x hx=>h x (AW _ hx),AB,Nat.add_mul,B3,Bm]
theorem Ty.rel_size{I:Nat→Prop}{w:World}:∀ (t:Ty) (x:t.den) (vs:List Value),t.rel I w x vs→vs.length=t.size
 |.u8,_,_,h=>by cases h;rfl
 |.int _,_,_,h=>by cases h;rfl
 |.bool,_,_,h=>by cases h;rfl
 |.str,_,_,h=>by cases h.1;rfl
 |.slice t,xs,vs,h=>by obtain ⟨A,n,c,rfl,_⟩:=h;rfl
 |.prod a b,x,vs,h=>by
  obtain ⟨v1,v2,rfl,h1,h2⟩:=h;rw [Af,a.rel_size _ _ h1,b.rel_size _ _ h2];rfl
 |.unit,_,_,h=>by cases h;rfl
 |.arr n t,xs,vs,h=>by
  obtain ⟨hn,vss,rfl,hl,h⟩:=h;rw [flat_len (s:=t.size),hl,hn];rfl;intro us hu;obtain ⟨i,hi,rfl⟩:=AV hu;exact t.rel_size _ _ (h i (xs[i]'(by omega)) _ (Ab _) (Ab hi))
 |.ptr t,x,vs,h=>by rcases h with ⟨_,rfl⟩ | ⟨z,b,off,us,_,rfl,_⟩ <;>rfl
 |.clo f t,x,vs,h=>by obtain ⟨us,rfl,_⟩:=h;rfl
 |.clp f t,x,vs,h=>by obtain ⟨b,off,us,rfl,_⟩:=h;rfl
 |.mbs t,x,vs,h=>by obtain ⟨A,n,c,rfl,_⟩:=h;rfl

def Lies(I:Nat→Prop)(w:World)(b off:Nat)(t:Ty)(x:t.den):Prop:=∃us,t.rel I w x us∧∀j u,us[j]?=some u→w.cell? ⟨b,off+j,none⟩=some u
def Keeps(I I':Nat→Prop)(w w':World):Prop:=∀b,I b→I' b∧w'.heap[b]?=w.heap[b]?
theorem Keeps.refl(I:Nat→Prop)(w:World):Keeps I I w w:=fun _ h=>⟨h,rfl⟩
theorem Keeps.trans{I I' I'':Nat→Prop}{w w' w'':World}(h:Keeps I I' w w')(k:Keeps I' I'' w' w''):Keeps I I'' w w'':=
 fun b hb=>⟨(k b (h b hb).1).1,((k b (h b hb).1).2).trans (h b hb).2⟩

theorem Ty.rel_keep{I I':Nat→Prop}{w w':World}(hk:Keeps I I' w w'):∀ (t:Ty) (x:t.den) (vs:List Value),t.rel I w x vs→t.rel I' w' x vs
 |.u8,_,_,h=>h
 |.int _,_,_,h=>h
 |.bool,_,_,h=>h
 |.str,_,_,h=>h
 |.slice t,xs,vs,h=>by
  obtain ⟨A,n,c,rfl,h1,h2,h3,h⟩:=h;refine ⟨A,n,c,rfl,h1,h2,h3,orMap h id ?_⟩;rintro ⟨b,off,rfl,hI,h⟩;refine ⟨b,off,rfl,(hk b hI).1,fun i x hx=> ?_⟩;obtain ⟨us,hr,hc⟩:=h i x hx;exact ⟨us,t.rel_keep hk _ _ hr,fun k u hu=>by rw [←hc k u hu];exact World.cell?_of_block (hk b hI).2⟩
 |.prod a b,x,vs,h=>by
  obtain ⟨v1,v2,rfl,h1,h2⟩:=h;exact ⟨v1,v2,rfl,a.rel_keep hk _ _ h1,b.rel_keep hk _ _ h2⟩
 |.unit,_,_,h=>h
 |.arr n t,xs,vs,h=>by
  obtain ⟨hn,vss,rfl,hl,h⟩:=h;exact ⟨hn,vss,rfl,hl,fun i x us hx hu=>t.rel_keep hk _ _ (h i x us hx hu)⟩
 |.ptr t,x,vs,h=>by
  rcases h with h| ⟨z,b,off,us,e,rfl,hI,hr,hc⟩
  · exact .inl h
  exact .inr ⟨z,b,off,us,e,rfl,(hk b hI).1,t.rel_keep hk _ _ hr,fun j u hu=>by rw [←hc j u hu];exact World.cell?_of_block (hk b hI).2⟩
 |.clo f t,x,vs,h=>by
  obtain ⟨us,rfl,hr⟩:=h;exact ⟨us,rfl,t.rel_keep hk _ _ hr⟩
 |.clp f t,x,vs,h=>by
  obtain ⟨b,off,us,rfl,hI,hr,hc⟩:=h;exact ⟨b,off,us,rfl,(hk b hI).1,t.rel_keep hk _ _ hr,fun j u hu=>by rw [←hc j u hu];exact World.cell?_of_block (hk b hI).2⟩
 |.mbs t,o,vs,h=>by
  obtain ⟨A,n,c,rfl,h⟩:=h;refine ⟨A,n,c,rfl,fun xs hx=> ?_⟩;obtain ⟨h1,h2,h3,h⟩:=h xs hx;refine ⟨h1,h2,h3,orMap h id ?_⟩;rintro ⟨b,off,rfl,hI,h⟩;refine ⟨b,off,rfl,(hk b hI).1,fun i x hx=> ?_⟩;obtain ⟨us,hr,hc⟩:=h i x hx;exact ⟨us,t.rel_keep hk _ _ hr,fun k u hu=>by rw [←hc k u hu];exact World.cell?_of_block (hk b hI).2⟩
theorem z3u{I:Nat→Prop}{w:World}{t:Ty}{xs:List t.den}{vs:List Value}:(Ty.mbs t).rel I w (some xs) vs ↔ (Ty.slice t).rel I w xs vs:=
 ⟨fun ⟨A,n,c,e,h⟩=>⟨A,n,c,e,(h xs rfl).1,(h xs rfl).2.1,(h xs rfl).2.2.1,(h xs rfl).2.2.2⟩,fun ⟨A,n,c,e,h1,h2,h3,h4⟩=>⟨A,n,c,e,fun ys hy=>by cases hy;exact ⟨h1,h2,h3,h4⟩⟩⟩
inductive SV where
 |any
 |raw (v:Value)
 |isl (t:Ty) (xs:List t.den)
 |fsl (t:Ty) (xs:List t.den)
 |iptr (t:Ty) (x:t.den) (k:Nat)
 |ptr (h off:Nat)
 |rptr (h:Nat) (t:Ty) (i k:Nat)
 |bld (h:Nat) (t:Ty) (n:Nat)
 |osl (h:Nat) (t:Ty) (off n:Nat)
 |csl (h:Nat) (t:Ty) (k i n:Nat)                       -- a part of an array in an own object: from cell k, its i-th datum on
 |dat (t:Ty) (x:t.den)                                   -- a datum of several cells
 |agg (l:List SV)
 |tup (l:List SV)
 |fn (f:Nat) (first caps:List SV)
 |iface (T:TypeId) (x:SV)
 |mp (h:Nat)
 |imap (kk:Option IntKind) (ks vs:List Value)

structure Cx where
 ρ:Nat→Option Nat
 n:Nat
 I:Nat→Prop
 w:World

def World.bsize(w:World)(b:Nat):Option Nat:=
 match w.heap[b]? with
 |some (.cells c _ _)=>some c.size
 |_=>none

def keyIs:Option IntKind→Value→Bool
 |some k,.int k' _=>k==k'
 |none,.string _=>true
 |_,_=>false
def keyEq:Value→Value→Bool
 |.int _ a,.int _ b=>decide (a=b)
 |.string a,.string b=>decide (a=b)
 |_,_=>false
def findI(k:Value):List Value→Option Nat
 | []=>none
 |k' :: l=>if keyEq k k' then some 0 else (findI k l).map (· +1)
def mapAt(w:World)(b:Nat)(kk:Option IntKind)(ks vs:List Value):Prop:=
 ∃es clock,w.heap[b]?=some (.map es clock)∧es.toList.map (·.key)=ks∧es.toList.map (·.val)=vs∧∀k∈ks,keyIs kk k=true
theorem q5f{w w':World}{b:Nat}{kk:Option IntKind}{ks vs:List Value}(h:mapAt w b kk ks vs)(hb:w'.heap[b]?=w.heap[b]?):mapAt w' b kk ks vs:=by
 obtain ⟨es,clock,h1,h2⟩:=h;exact ⟨es,clock,hb.trans h1,h2⟩

mutual
def SV.den(C:Cx):SV→Value→Prop
 |.any,_=>True
 |.raw u,v=>v=u
 |.isl t xs,v=>(Ty.slice t).rel C.I C.w xs [v]
 |.fsl t xs,v=>(Ty.slice t).rel C.I C.w xs [v]∧∃A,v= .slice A xs.length xs.length
 |.iptr t x k,v=>∃b off vs,v= .pointer (some ⟨b,off+k,none⟩)∧C.I b∧t.rel C.I C.w x vs∧∀j u,vs[j]?=some u→C.w.cell? ⟨b,off+j,none⟩=some u
 |.ptr h off,v=>h<C.n∧∃b,C.ρ h=some b∧v= .pointer (some ⟨b,off,none⟩)
 |.rptr h t i k,v=>h<C.n∧∃b,C.ρ h=some b∧v= .pointer (some ⟨b,i*t.size+k,none⟩)
 |.bld h t n,v=>h<C.n∧((C.ρ h=none∧n=0∧v= .slice none 0 0)∨∃b c m,C.ρ h=some b∧v= .slice (some ⟨b,0,none⟩) n c∧n≤c∧World.bsize C.w b=some m∧c*t.size≤m)
 |.osl h t off n,v=>h<C.n∧∃A c,v= .slice A n c∧n≤c∧(n=0∨∃b,C.ρ h=some b∧A=some ⟨b,off*t.size,none⟩)
 |.csl h t k i n,v=>h<C.n∧∃A c,v= .slice A n c∧n≤c∧(n=0∨∃b,C.ρ h=some b∧A=some ⟨b,i*t.size+k,none⟩)
 |.dat t x,v=>∃vs,v= .agg vs.toArray∧t.rel C.I C.w x vs
 |.agg l,v=>∃vs,v= .agg vs.toArray∧SV.denL C l vs
 |.tup l,v=>∃vs,v= .tuple vs.toArray∧SV.denL C l vs
 |.fn f l1 l2,v=>∃v1 v2,v= .func (.func f) v1.toArray v2.toArray∧SV.denL C l1 v1∧SV.denL C l2 v2
 |.iface T x,v=>∃u,v= .iface T u∧SV.den C x u
 |.mp h,v=>h<C.n∧∃b,C.ρ h=some b∧v= .map (some b)
 |.imap kk ks vs,v=>∃b,v= .map (some b)∧C.I b∧mapAt C.w b kk ks vs
def SV.denL(C:Cx):List SV→List Value→Prop
 | [],vs=>vs= []
 |s :: l,vs=>∃v us,vs=v :: us∧SV.den C s v∧SV.denL C l us
end

theorem q0p{C:Cx}{vs:List Value}:SV.denL C [] vs ↔ vs= []:=by rw [SV.denL]
theorem q0c{C:Cx}{s:SV}{l:List SV}{vs:List Value}:SV.denL C (s :: l) vs ↔ ∃v us,vs=v :: us∧SV.den C s v∧SV.denL C l us:=by rw [SV.denL]

theorem q0x{C:Cx}:∀ {l l':List SV} {vs:List Value},SV.denL C (l++l') vs ↔ ∃v1 v2,vs=v1++v2∧SV.denL C l v1∧SV.denL C l' v2
 | [],l',vs=>by
  simp only [As,q0p];exact ⟨fun h=>⟨[],vs,rfl,rfl,h⟩,fun ⟨v1,v2,h1,h2,h3⟩=>by subst h2 h1;exact h3⟩
 |s :: l,l',vs=>by
  simp only [Ay,q0c,q0x];constructor
  · rintro ⟨v,us,rfl,hv,v1,v2,rfl,h1,h2⟩;exact ⟨v :: v1,v2,rfl,⟨v,v1,rfl,hv,h1⟩,h2⟩
  rintro ⟨_,v2,rfl,⟨v,v1,rfl,hv,h1⟩,h2⟩;exact ⟨v,v1++v2,rfl,hv,v1,v2,rfl,h1,h2⟩

theorem q0B{C:Cx}:∀ {l:List SV} {vs:List Value},SV.denL C l vs→vs.length=l.length
 | [],_,h=>by rw [q0p] at h;subst h;rfl
 |s :: l,_,h=>by obtain ⟨v,us,rfl,_,h⟩:=q0c.1 h;simp [q0B h]

theorem q1B{C:Cx}:∀ {l:List SV} {vs:List Value} {i:Nat} {s:SV},SV.denL C l vs→l[i]?=some s→∃v,vs[i]?=some v∧s.den C v
 | [],_,_,_,_,h=>by simp at h
 |x :: l,_,0,s,h,hi=>by
  obtain ⟨v,us,rfl,hv,h⟩:=q0c.1 h;simp at hi;subst hi;exact ⟨v,rfl,hv⟩
 |x :: l,_,i+1,s,h,hi=>by
  obtain ⟨v,us,rfl,hv,h⟩:=q0c.1 h;simp at hi;obtain ⟨u,hu,hs⟩:=q1B h hi;exact ⟨u,by simpa using hu,hs⟩

theorem q2p{C:Cx}:∀ {l:List SV} {vs:List Value} {i:Nat} {s:SV} {v:Value},SV.denL C l vs→s.den C v→SV.denL C (l.set i s) (vs.set i v)
 | [],_,_,_,_,h,_=>by rw [q0p] at h;subst h;simp [q0p]
 |x :: l,_,0,s,v,h,hs=>by
  obtain ⟨u,us,rfl,hv,h⟩:=q0c.1 h;exact q0c.2 ⟨v,us,rfl,hs,h⟩
 |x :: l,_,i+1,s,v,h,hs=>by
  obtain ⟨u,us,rfl,hv,h⟩:=q0c.1 h;exact q0c.2 ⟨u,us.set i v,rfl,hv,q2p h hs⟩

theorem q4V{C:Cx}:∀ {l:List SV} {vs:List Value} (n:Nat),SV.denL C l vs→SV.denL C (l.take n) (vs.take n)
 | [],_,_,h=>by rw [q0p] at h;subst h;simp [q0p]
 |x :: l,_,0,h=>by simp [q0p]
 |x :: l,_,n+1,h=>by
  obtain ⟨u,us,rfl,hv,h⟩:=q0c.1 h;exact q0c.2 ⟨u,us.take n,rfl,hv,q4V n h⟩
theorem q5e{C:Cx}:∀ {l:List SV} {vs:List Value} (n:Nat),SV.denL C l vs→SV.denL C (l.drop n) (vs.drop n)
 | [],_,_,h=>by rw [q0p] at h;subst h;simp [q0p]
 |x :: l,_,0,h=>h
 |x :: l,_,n+1,h=>by
  obtain ⟨u,us,rfl,hv,h⟩:=q0c.1 h;exact q5e n h

def Ty.cells:(t:Ty)→t.den→List SV
 |.u8,c=>[.raw (.int .u8 c.toNat)]
 |.int k,n=>[.raw (.int k n)]
 |.bool,b=>[.raw (.bool b)]
 |.str,s=>[.raw (.string s)]
 |.slice t,xs=>[.isl t xs]
 |.prod a b,x=>a.cells x.1++b.cells x.2
 |.unit,_=>[]
 |.arr n t,xs=>(List.range n).flatMap fun i=>t.cells (xs.getD i t.dflt)
 |.ptr t,x=>match x with
  |some y=>[.iptr t y 0]
  |none=>[.raw (.pointer none)]
 |.clo f t,x=>[.fn f [.agg (t.cells x)] []]
 |.clp f t,x=>[.fn f [] [.iptr t x 0]]
 |.mbs t,x=>match x with
  |some xs=>[.isl t xs]
  |none=>[.any]

theorem Ty.cells_den{C:Cx}:∀ (t:Ty) (x:t.den) (vs:List Value),t.rel C.I C.w x vs→SV.denL C (t.cells x) vs
 |.u8,_,_,h=>by cases h;simp [Ty.cells,SV.denL,SV.den]
 |.int _,_,_,h=>by cases h;simp [Ty.cells,SV.denL,SV.den]
 |.bool,_,_,h=>by cases h;simp [Ty.cells,SV.denL,SV.den]
 |.str,_,_,h=>by cases h.1;simp [Ty.cells,SV.denL,SV.den]
 |.slice t,xs,vs,h=>by
  obtain ⟨A,n,c,rfl,h'⟩:=id h;simp only [Ty.cells,SV.denL,SV.den];exact ⟨_,_,rfl,h,rfl⟩
 |.prod a b,x,vs,h=>by
  obtain ⟨v1,v2,rfl,h1,h2⟩:=h;exact q0x.2 ⟨v1,v2,rfl,a.cells_den _ _ h1,b.cells_den _ _ h2⟩
 |.unit,_,_,h=>by cases h;simp [Ty.cells,SV.denL]
 |.arr n t,xs,vs,h=>by
  obtain ⟨hn,vss,rfl,hl,h⟩:=h;simp only [Ty.cells];rw [←hn];clear hn;induction xs generalizing vss with
  |nil=>cases vss with
   |nil=>simp [SV.denL]
   |cons=>simp at hl
  |cons x xs ih=>cases vss with
   |nil=>simp at hl
   |cons us vss=>
    rw [AB,BT,B1,AD,List.flatMap_map];exact q0x.2 ⟨_,_,rfl,t.cells_den _ _ (h 0 x us rfl rfl),ih vss (by simpa using hl) fun i x us hx hu=>h (i+1) x us (by simpa using hx) (by simpa using hu)⟩
 |.ptr t,x,vs,h=>by
  rcases h with ⟨rfl,rfl⟩ | ⟨z,b,off,us,rfl,rfl,hI,hr,hc⟩
  · simp [Ty.cells,SV.denL,SV.den]
  simp only [Ty.cells,SV.denL,SV.den];exact ⟨_,_,rfl,⟨b,off,us,by rw [AK],hI,hr,hc⟩,rfl⟩
 |.clo f t,x,vs,h=>by
  obtain ⟨us,rfl,hr⟩:=h;simp only [Ty.cells,SV.denL,SV.den];exact ⟨_,_,rfl,⟨[.agg us.toArray],[],rfl,⟨_,_,rfl,⟨us,rfl,t.cells_den _ _ hr⟩,rfl⟩,rfl⟩,rfl⟩
 |.clp f t,x,vs,h=>by
  obtain ⟨b,off,us,rfl,hI,hr,hc⟩:=h;simp only [Ty.cells,SV.denL,SV.den];exact ⟨_,_,rfl,⟨[],[.pointer (some ⟨b,off,none⟩)],rfl,rfl,⟨_,_,rfl,⟨b,off,us,by rw [AK],hI,hr,hc⟩,rfl⟩⟩,rfl⟩
 |.mbs t,o,vs,h=>by
  cases o with
  |none=>
   obtain ⟨A,n,c,rfl,_⟩:=h;simp [Ty.cells,SV.denL,SV.den]
  |some xs=>
   have h':=z3u.1 h;obtain ⟨A,n,c,rfl,_⟩:=id h';simp only [Ty.cells,SV.denL,SV.den];exact ⟨_,_,rfl,h',rfl⟩

def rdU8:List SV→Option (UInt8×Prop)
 | [.raw (.int .u8 n)]=>some (UInt8.ofNat n.toNat,((UInt8.ofNat n.toNat).toNat:Int)=n)
 |_=>none
def rdInt(k:IntKind):List SV→Option (Int×Prop)
 | [.raw (.int k' n)]=>if k=k' then some (n,True) else none
 |_=>none
def rdBool:List SV→Option (Bool×Prop)
 | [.raw (.bool b)]=>some (b,True)
 |_=>none
def rdStr:List SV→Option (ByteArray×Prop)
 | [.raw (.string s)]=>some (s,s.size≤140737488355328)
 |_=>none
def rdSlice(t:Ty):List SV→Option (List t.den×Prop)
 | [.isl t' xs]=>if h:t'=t then some (cast (by rw [h]) xs,True) else none
 | [.fsl t' xs]=>if h:t'=t then some (cast (by rw [h]) xs,True) else none
 | [.raw (.slice none 0 0)]=>some ([],True)
 |_=>none
def rdPtr(t:Ty):List SV→Option (Option t.den×Prop)
 | [.iptr t' x k]=>if h:t'=t∧k=0 then some (some (cast (by rw [h.1]) x),True) else none
 | [.raw (.pointer none)]=>some (none,True)
 |_=>none
def rdUnit:List SV→Option (Unit×Prop)
 | []=>some ((),True)
 |_=>none
def Ty.rd:(t:Ty)→List SV→Option (t.den×Prop)
 |.u8,cs=>rdU8 cs
 |.int k,cs=>rdInt k cs
 |.bool,cs=>rdBool cs
 |.str,cs=>rdStr cs
 |.slice t,cs=>rdSlice t cs
 |.prod a b,cs=>match a.rd (cs.take a.size),b.rd (cs.drop a.size) with
  |some (x,p),some (y,q)=>some ((x,y),p∧q)
  |_,_=>none
 |.unit,cs=>rdUnit cs
 |.arr _ _,_=>none
 |.ptr t,cs=>rdPtr t cs
 |.clo f t,cs=>match cs with
  | [.fn g [.agg l] []]=>if g=f then t.rd l else none
  |_=>none
 |.clp f t,cs=>match cs with
  | [.fn g [] [.iptr t' x k]]=>if h:g=f∧t'=t∧k=0 then some (cast (by rw [h.2.1]) x,True) else none
  |_=>none
 |.mbs t,cs=>match rdSlice t cs with
  |some (xs,p)=>some (some xs,p)
  |none=>none

theorem q6A{C:Cx}{t:Ty}{cs:List SV}{x:List t.den}{p:Prop}{vs:List Value}(h:rdSlice t cs=some (x,p))(hv:SV.denL C cs vs):(Ty.slice t).rel C.I C.w x vs:=by
 unfold rdSlice at h;split at h
 · split at h
   · rename_i ht;subst ht;cases h;simp only [SV.denL,SV.den] at hv;obtain ⟨v,us,rfl,h,rfl⟩:=hv;exact h
   cases h
 · split at h
   · rename_i ht;subst ht;cases h;simp only [SV.denL,SV.den] at hv;obtain ⟨v,us,rfl,h,rfl⟩:=hv;exact h.1
   cases h
 · cases h;simp only [SV.denL,SV.den] at hv;obtain ⟨v,us,rfl,rfl,rfl⟩:=hv;exact ⟨_,_,_,rfl,rfl,Ae _,by simp,.inl rfl⟩
 cases h
theorem Ty.rd_rel{C:Cx}:∀ (t:Ty) (cs:List SV) (x:t.den) (p:Prop) (vs:List Value),t.rd cs=some (x,p)→p→SV.denL C cs vs→t.rel C.I C.w x vs
 |.prod a b,cs,x,p,vs,h,hp,hv=>by
  unfold Ty.rd at h;split at h
  · rename_i x1 p1 y1 q1 h1 h2;cases h;rw [←Bb a.size cs] at hv;obtain ⟨v1,v2,rfl,d1,d2⟩:=q0x.1 hv;exact ⟨v1,v2,rfl,a.rd_rel _ _ _ _ h1 hp.1 d1,b.rd_rel _ _ _ _ h2 hp.2 d2⟩
  cases h
 |.u8,cs,x,p,vs,h,hp,hv=>by
  simp only [Ty.rd] at h;unfold rdU8 at h;split at h<;>cases h
  simp only [SV.denL,SV.den] at hv;obtain ⟨v,us,rfl,rfl,rfl⟩:=hv;simp only [Ty.rel];rw [hp]
 |.int k,cs,x,p,vs,h,hp,hv=>by
  simp only [Ty.rd] at h;unfold rdInt at h;split at h
  · split at h
    · subst k;cases h;simp only [SV.denL,SV.den] at hv;obtain ⟨v,us,rfl,rfl,rfl⟩:=hv;simp [Ty.rel]
    cases h
  cases h
 |.bool,cs,x,p,vs,h,hp,hv=>by
  simp only [Ty.rd] at h;unfold rdBool at h;split at h<;>cases h
  simp only [SV.denL,SV.den] at hv;obtain ⟨v,us,rfl,rfl,rfl⟩:=hv;simp [Ty.rel]
 |.str,cs,x,p,vs,h,hp,hv=>by
  simp only [Ty.rd] at h;unfold rdStr at h;split at h<;>cases h
  simp only [SV.denL,SV.den] at hv;obtain ⟨v,us,rfl,rfl,rfl⟩:=hv;exact ⟨rfl,hp⟩
 |.slice t,cs,x,p,vs,h,hp,hv=>by
  simp only [Ty.rd] at h;exact q6A h hv
 |.unit,cs,x,p,vs,h,hp,hv=>by
  simp only [Ty.rd] at h;unfold rdUnit at h;split at h
  · simp only [SV.denL] at hv;simp [Ty.rel,hv]
  cases h
 |.arr _ _,cs,x,p,vs,h,hp,hv=>by
  simp only [Ty.rd] at h;cases h
 |.ptr t,cs,x,p,vs,h,hp,hv=>by
  simp only [Ty.rd] at h;unfold rdPtr at h;split at h
  · split at h
    · rename_i ht;obtain ⟨rfl,rfl⟩:=ht;cases h;simp only [SV.denL,SV.den] at hv;obtain ⟨v,us,rfl,⟨b,off,ws,rfl,hI,hr,hc⟩,rfl⟩:=hv;exact .inr ⟨_,b,off,ws,rfl,by rw [AK],hI,hr,hc⟩
    cases h
  · cases h;simp only [SV.denL,SV.den] at hv;obtain ⟨v,us,rfl,rfl,rfl⟩:=hv;exact .inl ⟨rfl,rfl⟩
  cases h
 |.clo f t,cs,x,p,vs,h,hp,hv=>by
  simp only [Ty.rd] at h;split at h
  · split at h
    · rename_i hg;subst hg;simp only [SV.denL,SV.den] at hv;obtain ⟨v,us,rfl,⟨v1,v2,rfl,⟨u,ws,rfl,⟨zs,rfl,hz⟩,rfl⟩,rfl⟩,rfl⟩:=hv;exact ⟨zs,rfl,t.rd_rel _ _ _ _ h hp hz⟩
    cases h
  cases h
 |.clp f t,cs,x,p,vs,h,hp,hv=>by
  simp only [Ty.rd] at h;split at h
  · split at h
    · rename_i hg;obtain ⟨rfl,rfl,rfl⟩:=hg;cases h;simp only [SV.denL,SV.den] at hv;obtain ⟨v,us,rfl,⟨v1,v2,rfl,rfl,⟨u,ws,rfl,⟨b,off,zs,rfl,hI,hr,hc⟩,rfl⟩⟩,rfl⟩:=hv;exact ⟨b,off,zs,by rw [AK],hI,hr,hc⟩
    cases h
  cases h
 |.mbs t,cs,x,p,vs,h,hp,hv=>by
  simp only [Ty.rd] at h;split at h
  · rename_i xs q hs;cases h;exact z3u.2 (q6A hs hv)
  cases h
def Ty.known:Ty→Bool
 |.slice t=>t.known
 |.prod a b=>a.known&& b.known
 |.arr _ t=>t.known
 |.ptr t=>t.known
 |.clo _ t=>t.known
 |.clp _ t=>t.known
 |.mbs _=>false
 |_=>true
inductive SObj where
 |dead
 |cells (T:TypeId) (cs:List SV)
 |row (t:Ty) (xs:List t.den)
 |map (kk:Option IntKind) (ks:List Value) (vs:List SV)
 |mark (n:Nat)                                            -- nothing of memory: a number that only a yield changes

structure Evo (C C':Cx):Prop where
 n:C.n≤C'.n
 ρ:∀h,h<C.n→C'.ρ h=C.ρ h
 I:Keeps C.I C'.I C.w C'.w
 sz:∀b m,World.bsize C.w b=some m→World.bsize C'.w b=some m

theorem Evo.refl(C:Cx):Evo C C:=⟨Ae _,fun _ _=>rfl,Keeps.refl _ _,fun _ _ h=>h⟩
theorem Evo.trans{A B C:Cx}(h:Evo A B)(k:Evo B C):Evo A C:=
 ⟨An h.n k.n,fun x hx=>(k.ρ x (Am hx h.n)).trans (h.ρ x hx),h.I.trans k.I,fun b m hm=>k.sz b m (h.sz b m hm)⟩

mutual
theorem q0Z{C C':Cx}(e:Evo C C'):∀ {s:SV} {v:Value},s.den C v→s.den C' v
 |.any,_,_=>by rw [SV.den];trivial
 |.raw u,v,h=>by rw [SV.den] at h⊢;exact h
 |.isl t xs,v,h=>by rw [SV.den] at h⊢;exact Ty.rel_keep e.I _ _ _ h
 |.fsl t xs,v,h=>by rw [SV.den] at h⊢;exact ⟨Ty.rel_keep e.I _ _ _ h.1,h.2⟩
 |.iptr t x k,v,h=>by
  rw [SV.den] at h⊢;obtain ⟨b,off,vs,rfl,hI,hr,hc⟩:=h;exact ⟨b,off,vs,rfl,(e.I b hI).1,Ty.rel_keep e.I _ _ _ hr,fun j u hu=>by rw [←hc j u hu];exact World.cell?_of_block (e.I b hI).2⟩
 |.ptr h off,v,d=>by
  rw [SV.den] at d⊢;obtain ⟨hn,b,hb,hv⟩:=d;exact ⟨Am hn e.n,b,(e.ρ h hn).trans hb,hv⟩
 |.rptr h t i k,v,d=>by
  rw [SV.den] at d⊢;obtain ⟨hn,b,hb,hv⟩:=d;exact ⟨Am hn e.n,b,(e.ρ h hn).trans hb,hv⟩
 |.bld h t n,v,d=>by
  rw [SV.den] at d⊢;obtain ⟨hn,d⟩:=d;refine ⟨Am hn e.n,?_⟩;rcases d with ⟨h1,h2⟩ | ⟨b,c,m,hb,hv,hc,hm,hcm⟩
  · exact .inl ⟨(e.ρ h hn).trans h1,h2⟩
  exact .inr ⟨b,c,m,(e.ρ h hn).trans hb,hv,hc,e.sz b m hm,hcm⟩
 |.osl h t off n,v,d=>by
  rw [SV.den] at d⊢;obtain ⟨hn,A,c,hv,hc,d⟩:=d;exact ⟨Am hn e.n,A,c,hv,hc,orMap d id fun ⟨b,hb,hA⟩=>⟨b,(e.ρ h hn).trans hb,hA⟩⟩
 |.dat t x,v,d=>by
  rw [SV.den] at d⊢;obtain ⟨vs,hv,hr⟩:=d;exact ⟨vs,hv,Ty.rel_keep e.I _ _ _ hr⟩
 |.csl h t k i n,v,d=>by
  rw [SV.den] at d⊢;obtain ⟨hn,A,c,hv,hc,d⟩:=d;exact ⟨Am hn e.n,A,c,hv,hc,orMap d id fun ⟨b,hb,hA⟩=>⟨b,(e.ρ h hn).trans hb,hA⟩⟩
 |.agg l,v,d=>by
  rw [SV.den] at d⊢;obtain ⟨vs,hv,hl⟩:=d;exact ⟨vs,hv,q0f e hl⟩
 |.tup l,v,d=>by
  rw [SV.den] at d⊢;obtain ⟨vs,hv,hl⟩:=d;exact ⟨vs,hv,q0f e hl⟩
 |.fn f l1 l2,v,d=>by
  rw [SV.den] at d⊢;obtain ⟨v1,v2,hv,h1,h2⟩:=d;exact ⟨v1,v2,hv,q0f e h1,q0f e h2⟩
 |.iface T x,v,d=>by
  rw [SV.den] at d⊢;obtain ⟨u,hv,h1⟩:=d;exact ⟨u,hv,q0Z e h1⟩
 |.mp h,v,d=>by
  rw [SV.den] at d⊢;obtain ⟨hn,b,hb,hv⟩:=d;exact ⟨Am hn e.n,b,(e.ρ h hn).trans hb,hv⟩
 |.imap kk ks vs,v,d=>by
  rw [SV.den] at d⊢;obtain ⟨b,hv,hb,hm⟩:=d;exact ⟨b,hv,(e.I b hb).1,q5f hm (e.I b hb).2⟩
theorem q0f{C C':Cx}(e:Evo C C'):∀ {l:List SV} {vs:List Value},SV.denL C l vs→SV.denL C' l vs
 | [],_,h=>by rw [SV.denL] at h⊢;exact h
 |s :: l,_,h=>by
  rw [SV.denL] at h⊢;obtain ⟨v,us,rfl,h1,h2⟩:=h;exact ⟨v,us,rfl,q0Z e h1,q0f e h2⟩
end

def rowAt(I:Nat→Prop)(w:World)(t:Ty)(xs:List t.den)(b off:Nat):Prop:=
 ∀i x,xs[i]?=some x→∃us,t.rel I w x us∧∀k u,us[k]?=some u→w.cell? ⟨b,off+i*t.size+k,none⟩=some u

def objDen(C:Cx)(h:Nat):SObj→Prop
 |.dead=>True
 |.cells T cs=>∃b vs,C.ρ h=some b∧C.w.heap[b]?=some (.cells vs.toArray T (0,0))∧SV.denL C cs vs
 |.row t xs=>(C.ρ h=none∧xs= [])∨∃b arr T fz,C.ρ h=some b∧C.w.heap[b]?=some (.cells arr T fz)∧(∀i,i<arr.size→¬(fz.1≤i∧i<fz.2))∧xs.length*t.size≤arr.size∧rowAt C.I C.w t xs b 0
 |.map kk ks vs=>∃b us,C.ρ h=some b∧mapAt C.w b kk ks us∧SV.denL C vs us
 |.mark _=>True

def SObj.live:SObj→Bool
 |.dead=>false
 |.mark _=>false
 |_=>true

def OwnB(C:Cx)(H:List SObj)(b:Nat):Prop:=∃h o,H[h]?=some o∧o.live=true∧C.ρ h=some b

structure Wd (C:Cx) (H:List SObj):Prop where
 n:C.n=H.length
 obj:∀h o,H[h]?=some o→objDen C h o
 own:∀b,OwnB C H b→¬C.I b∧b<C.w.heap.size
 inj:∀h h' o o' b,H[h]?=some o→H[h']?=some o'→o.live=true→o'.live=true→C.ρ h=some b→C.ρ h'=some b→h=h'
 imm:∀b,C.I b→b<C.w.heap.size

def Unf(w:World)(b:Nat):Prop:=∀c T fz,w.heap[b]?=some (.cells c T fz)→∀i,i<c.size→¬(fz.1≤i∧i<fz.2)
theorem Unf.keep{w w':World}{b:Nat}(h:Unf w b)(e:w'.heap[b]?=w.heap[b]?):Unf w' b:=fun c T fz hc=>h c T fz (e▸hc)
theorem q4v{C:Cx}{H:List SObj}{b:Nat}(hw:Wd C H)(h:OwnB C H b):Unf C.w b:=by
 obtain ⟨i,o,ho,hl,hb⟩:=h;have:=hw.obj i o ho;intro c T fz hc j hj;cases o with
 |dead=>simp [SObj.live] at hl
 |cells T' cs=>
  obtain ⟨b',vs,h1,h2,_⟩:=this;rw [hb] at h1;cases h1;rw [hc] at h2;cases h2;simp
 |row t xs=>
  rcases this with ⟨h1,_⟩ | ⟨b',arr,T',fz',h1,h2,h3,_⟩
  · rw [hb] at h1;cases h1
  rw [hb] at h1;cases h1;rw [hc] at h2;cases h2;exact h3 j hj
 |map kk ks vs=>
  obtain ⟨b',us,h1,⟨es,cl,h2,_⟩,_⟩:=this;rw [hb] at h1;cases h1;rw [hc] at h2;cases h2
 |mark n=>simp [SObj.live] at hl

structure En where
 C:Cx
 H:List SObj

structure Ext (E:En) (C:Cx) (H:List SObj):Prop where
 evo:Evo E.C C
 size:E.C.w.heap.size≤C.w.heap.size
 os:C.w.os=E.C.w.os
 tape:C.w.tape=E.C.w.tape
 output:C.w.output=E.C.w.output
 frame:∀b,b<E.C.w.heap.size→¬OwnB E.C E.H b→C.w.heap[b]?=E.C.w.heap[b]?
 immNew:∀b,C.I b→E.C.I b∨((E.C.w.heap.size≤b∨OwnB E.C E.H b)∧Unf C.w b)
 ownNew:∀b,OwnB C H b→E.C.w.heap.size≤b∨OwnB E.C E.H b
 keep0:∀n,0<E.C.n→E.H[0]?=some (.mark n)→H[0]?=some (.mark n)

theorem Ext.refl(C:Cx)(H:List SObj):Ext ⟨C,H⟩ C H:=
 ⟨Evo.refl _,Ae _,rfl,rfl,rfl,fun _ _ _=>rfl,fun _ h=>.inl h,fun _ h=>.inr h,fun _ _ h=>h⟩
theorem Ext.trans{E:En}{C C':Cx}{H H':List SObj}(h:Ext E C H)(k:Ext ⟨C,H⟩ C' H'):Ext E C' H' where
 evo:=h.evo.trans k.evo
 size:=An h.size k.size
 os:=k.os.trans h.os
 tape:=k.tape.trans h.tape
 output:=k.output.trans h.output
 frame:=fun b hb ho=>(k.frame b (Am hb h.size) (fun hc=>(h.ownNew b hc).elim (fun x=>absurd hb (by omega)) ho)).trans (h.frame b hb ho)
 immNew:=fun b hb=>(k.immNew b hb).elim (fun hb0=>orMap (h.immNew b hb0) id fun ⟨x,u⟩=>⟨x,u.keep (k.evo.I b hb0).2⟩) fun ⟨x,u⟩=>.inr ⟨x.elim (fun y=>.inl (An h.size y)) (h.ownNew b),u⟩
 ownNew:=fun b hb=>(k.ownNew b hb).elim (fun y=>.inl (An h.size y)) (h.ownNew b)
 keep0:=fun n h0 hn=>k.keep0 n (Am h0 h.evo.n) (h.keep0 n h0 hn)
theorem q3r{H L:List SObj}{x:SObj}(h:H[0]?=some x):(H++L)[0]?=some x:=by
 rw [Ag (Aa.1 h).1];exact h
theorem q3P{H:List SObj}{h n:Nat}{o o':SObj}(ho:H[h]?=some o)(hl:o.live=true)(hm:H[0]?=some (.mark n)):(H.set h o')[0]?=some (.mark n):=by
 by_cases e:h=0
 · subst e;rw [hm] at ho;cases ho;simp [SObj.live] at hl
 rw [Aq e];exact hm

inductive Out where
 |ret (v:SV)
 |pan (v:SV)

def outDen(C:Cx):Out→Ending→Prop
 |.ret s,e=>∃v,e= .returned v∧s.den C v
 |.pan s,e=>∃v,e= .panicked [{v,recovered:=false}]∧s.den C v

def tabList:List (Nat×List Value):=[]
def TabB(C:Cx)(H:List SObj)(e:Nat×List Value):Prop:=(e.1<C.w.heap.size∧¬OwnB C H e.1)∧∃ (T:TypeId) (fz:Nat×Nat),C.w.heap[e.1]?=some (.cells e.2.toArray T fz)
def dat_sha_start:List Int:=[1779033703,3144134277,1013904242,2773480762,1359893119,2600822924,528734635,1541459225]
def dat_sha_constants:List Int:=[1116352408,1899447441,3049323471,3921009573,961987163,1508970993,2453635748,2870763221,3624381080,310598401,607225278,1426881987,1925078388,2162078206,2614888103,3248222580,3835390401,4022224774,264347078,604807628,770255983,1249150122,1555081692,1996064986,2554220882,2821834349,2952996808,3210313671,3336571891,3584528711,113926993,338241895,666307205,773529912,1294757372,1396182291,1695183700,1986661051,2177026350,2456956037,2730485921,2820302411,3259730800,3345764771,3516065817,3600352804,4094571909,275423344,430227734,506948616,659060556,883997877,958139571,1322822218,1537002063,1747873779,1955562222,2024104815,2227730452,2361852424,2428436474,2756734187,3204031479,3329325298]
def dat_ref04_constants:List Int:=[1116352408,1899447441,3049323471,3921009573,961987163,1508970993,2453635748,2870763221,3624381080,310598401,607225278,1426881987,1925078388,2162078206,2614888103,3248222580,3835390401,4022224774,264347078,604807628,770255983,1249150122,1555081692,1996064986,2554220882,2821834349,2952996808,3210313671,3336571891,3584528711,113926993,338241895,666307205,773529912,1294757372,1396182291,1695183700,1986661051,2177026350,2456956037,2730485921,2820302411,3259730800,3345764771,3516065817,3600352804,4094571909,275423344,430227734,506948616,659060556,883997877,958139571,1322822218,1537002063,1747873779,1955562222,2024104815,2227730452,2361852424,2428436474,2756734187,3204031479,3329325298]
def datList:List (Nat×Sigma Ty.den):=[(1,⟨.arr 8 (.int .u32),dat_sha_start⟩),(5,⟨.arr 64 (.int .u32),dat_sha_constants⟩)]
def TabD(C:Cx)(H:List SObj)(e:Nat×Sigma Ty.den):Prop:=(e.1<C.w.heap.size∧¬OwnB C H e.1)∧Lies C.I C.w e.1 0 e.2.1 e.2.2
def TBlk(b:Nat):Prop:=(∃e∈tabList,e.1=b)∨∃e∈datList,e.1=b
structure TabT (C:Cx) (H:List SObj):Prop where
 tab:∀e∈tabList,TabB C H e
 dat:∀e∈datList,TabD C H e
theorem TabT.keep{C C':Cx}{H H':List SObj}(h:TabT C H)(hk:Keeps C.I C'.I C.w C'.w)(hn:∀b,TBlk b→b<C.w.heap.size→¬OwnB C H b→b<C'.w.heap.size∧¬OwnB C' H' b∧C'.w.heap[b]?=C.w.heap[b]?):TabT C' H' where
 tab:=fun e he=>by
  obtain ⟨h1,T,fz,h2⟩:=h.tab e he;obtain ⟨g1,g2,g3⟩:=hn _ (.inl ⟨e,he,rfl⟩) h1.1 h1.2;exact ⟨⟨g1,g2⟩,T,fz,g3.trans h2⟩
 dat:=fun e he=>by
  obtain ⟨h1,us,h2,h3⟩:=h.dat e he;obtain ⟨g1,g2,g3⟩:=hn _ (.inr ⟨e,he,rfl⟩) h1.1 h1.2;exact ⟨⟨g1,g2⟩,us,Ty.rel_keep hk _ _ _ h2,fun j u hu=>by rw [←h3 j u hu];exact World.cell?_of_block g3⟩
theorem TabT.next{C C':Cx}{H H':List SObj}(h:TabT C H)(e:Ext ⟨C,H⟩ C' H'):TabT C' H':=
 h.keep e.evo.I fun b _ hb ho=>⟨Am hb e.size,fun x=>(e.ownNew b x).elim (fun g=>absurd hb (AG.2 g)) ho,e.frame b hb ho⟩
theorem TabT.sub{C C':Cx}{H H':List SObj}(h:TabT C H)(e:C'.w=C.w)(hi:∀b,C.I b→C'.I b)(ho:∀b,OwnB C' H' b→OwnB C H b):TabT C' H':=
 h.keep (fun b hb=>⟨hi b hb,by rw [e]⟩) fun b _ hb hb'=>⟨by rw [e];exact hb,fun x=>hb' (ho b x),by rw [e]⟩
theorem q8I{C:Cx}{b:Nat}:¬OwnB C [] b:=fun ⟨h,o,ho,_⟩=>by simp at ho
theorem TabT.nil{C C':Cx}{H:List SObj}(h:TabT C H)(e:C'.w=C.w)(hi:∀b,C.I b→C'.I b):TabT C' []:=h.sub e hi fun _ x=>absurd x q8I
structure TabE (E:En) (C:Cx) (H:List SObj):Prop where
 tab:TabT C H
 old:∀b,TBlk b→b<E.C.w.heap.size
theorem TabT.lt{C:Cx}{H:List SObj}(h:TabT C H)(b:Nat)(hb:TBlk b):b<C.w.heap.size:=by
 rcases hb with ⟨e,he,rfl⟩ | ⟨e,he,rfl⟩
 · exact (h.tab e he).1.1
 exact (h.dat e he).1.1
theorem TabT.own{C:Cx}{H:List SObj}(h:TabT C H)(b:Nat)(hb:TBlk b):¬OwnB C H b:=by
 rcases hb with ⟨e,he,rfl⟩ | ⟨e,he,rfl⟩
 · exact (h.tab e he).1.2
 exact (h.dat e he).1.2
theorem TabT.here{C:Cx}{H:List SObj}(h:TabT C H):TabE ⟨C,H⟩ C H:=⟨h,h.lt⟩
def VCall(P:Program)(f:FuncId)(args:List SV)(H:List SObj)(K:Out→List SObj→Prop):Prop:=
 ∀ (C:Cx) (vs:List Value),Wd C H→TabT C H→SV.denL C args vs→
  Calls P f vs.toArray C.w fun e w'=>∃o H' C',K o H'∧C'.w=w'∧Wd C' H'∧Ext ⟨C,H⟩ C' H'∧outDen C' o e

theorem VCall.mono{P:Program}{f:FuncId}{args:List SV}{H:List SObj}{K K':Out→List SObj→Prop}(h:VCall P f args H K)(hk:∀o H',K o H'→K' o H'):VCall P f args H K':=
 fun C vs hw ht hv=>(h C vs hw ht hv).mono fun _ _ ⟨o,H',C',k,r⟩=>⟨o,H',C',hk _ _ k,r⟩

theorem Wd.nil{C:Cx}{H:List SObj}(h:Wd C H):Wd {C with n:=0} [] where
 n:=rfl
 obj:=fun h o ho=>by simp at ho
 own:=fun b ⟨h,o,ho,_⟩=>by simp at ho
 inj:=fun h h' o o' b ho=>by simp at ho
 imm:=h.imm

/- Values that name no handle. -/
mutual
def SV.clean:SV→Bool
 |.any|.raw _|.isl _ _|.fsl _ _|.iptr _ _ _|.imap _ _ _|.dat _ _=>true
 |.ptr .. |.rptr .. |.bld .. |.osl .. |.csl .. |.mp _=>false
 |.agg l=>SV.cleanL l
 |.tup l=>SV.cleanL l
 |.fn _ a b=>SV.cleanL a&& SV.cleanL b
 |.iface _ x=>SV.clean x
def SV.cleanL:List SV→Bool
 | []=>true
 |s :: l=>SV.clean s&& SV.cleanL l
end

mutual
theorem q0D{C C':Cx}(hI:Keeps C.I C'.I C.w C'.w):∀ {s:SV} {v:Value},s.clean=true→s.den C v→s.den C' v
 |.any,_,_,_=>by rw [SV.den];trivial
 |.raw u,v,_,h=>by rw [SV.den] at h⊢;exact h
 |.isl t xs,v,_,h=>by rw [SV.den] at h⊢;exact Ty.rel_keep hI _ _ _ h
 |.fsl t xs,v,_,h=>by rw [SV.den] at h⊢;exact ⟨Ty.rel_keep hI _ _ _ h.1,h.2⟩
 |.iptr t x k,v,_,h=>by
  rw [SV.den] at h⊢;obtain ⟨b,off,vs,rfl,hb,hr,hc⟩:=h;exact ⟨b,off,vs,rfl,(hI b hb).1,Ty.rel_keep hI _ _ _ hr,fun j u hu=>by rw [←hc j u hu];exact World.cell?_of_block (hI b hb).2⟩
 |.ptr ..,_,h,_=>by simp [SV.clean] at h
 |.rptr ..,_,h,_=>by simp [SV.clean] at h
 |.bld ..,_,h,_=>by simp [SV.clean] at h
 |.osl ..,_,h,_=>by simp [SV.clean] at h
 |.csl ..,_,h,_=>by simp [SV.clean] at h
 |.dat t x,v,_,d=>by
  rw [SV.den] at d⊢;obtain ⟨vs,hv,hr⟩:=d;exact ⟨vs,hv,Ty.rel_keep hI _ _ _ hr⟩
 |.mp _,_,h,_=>by simp [SV.clean] at h
 |.imap kk ks vs,v,_,d=>by
  rw [SV.den] at d⊢;obtain ⟨b,hv,hb,hm⟩:=d;exact ⟨b,hv,(hI b hb).1,q5f hm (hI b hb).2⟩
 |.agg l,v,h,d=>by
  rw [SV.den] at d⊢;obtain ⟨vs,hv,hl⟩:=d;exact ⟨vs,hv,q1n hI (by simpa [SV.clean] using h) hl⟩
 |.tup l,v,h,d=>by
  rw [SV.den] at d⊢;obtain ⟨vs,hv,hl⟩:=d;exact ⟨vs,hv,q1n hI (by simpa [SV.clean] using h) hl⟩
 |.fn f l1 l2,v,h,d=>by
  rw [SV.den] at d⊢;obtain ⟨v1,v2,hv,h1,h2⟩:=d;simp [SV.clean] at h;exact ⟨v1,v2,hv,q1n hI h.1 h1,q1n hI h.2 h2⟩
 |.iface T x,v,h,d=>by
  rw [SV.den] at d⊢;obtain ⟨u,hv,h1⟩:=d;exact ⟨u,hv,q0D hI (by simpa [SV.clean] using h) h1⟩
theorem q1n{C C':Cx}(hI:Keeps C.I C'.I C.w C'.w):∀ {l:List SV} {vs:List Value},SV.cleanL l=true→SV.denL C l vs→SV.denL C' l vs
 | [],_,_,h=>by rw [SV.denL] at h⊢;exact h
 |s :: l,_,hc,h=>by
  rw [SV.denL] at h⊢;obtain ⟨v,us,rfl,h1,h2⟩:=h;simp [SV.cleanL] at hc;exact ⟨v,us,rfl,q0D hI hc.1 h1,q1n hI hc.2 h2⟩
end

theorem q0C{C C':Cx}(hI:Keeps C.I C'.I C.w C'.w)(h:Nat)(hr:C'.ρ h=C.ρ h)(hb:∀b,C.ρ h=some b→C'.w.heap[b]?=C.w.heap[b]?)(e:∀ {l:List SV} {vs:List Value},SV.denL C l vs→SV.denL C' l vs):
 ∀ {o:SObj},objDen C h o→objDen C' h o
 |.dead,_=>trivial
 |.cells T cs,⟨b,vs,h1,h2,h3⟩=>⟨b,vs,hr.trans h1,(hb b h1).trans h2,e h3⟩
 |.row t xs,d=>by
  rcases d with ⟨h1,h2⟩ | ⟨b,arr,T,fz,h1,h2,h3,h4,h5⟩
  · exact .inl ⟨hr.trans h1,h2⟩
  refine .inr ⟨b,arr,T,fz,hr.trans h1,(hb b h1).trans h2,h3,h4,fun i x hx=> ?_⟩;obtain ⟨us,hu,hc⟩:=h5 i x hx;exact ⟨us,Ty.rel_keep hI _ _ _ hu,fun k u hk=>by rw [←hc k u hk];exact World.cell?_of_block (hb b h1)⟩
 |.map kk ks vs,⟨b,us,h1,h2,h3⟩=>⟨b,us,hr.trans h1,q5f h2 (hb b h1),e h3⟩
 |.mark _,_=>trivial

theorem q7e{P:Program}{f:FuncId}{us:Array Value}{r:SV}{C:Cx}{H:List SObj}{K:Out→List SObj→Prop}(hr:r.clean=true)(hw:Wd C H)
 (h:Calls P f us C.w fun e w'=>∃o H' C',o= .ret r∧C'.w=w'∧Wd C' H'∧Ext ⟨{C with n:=0},[]⟩ C' H'∧outDen C' o e)(hk:K (.ret r) H):
 Calls P f us C.w fun e w'=>∃o H' C',K o H'∧C'.w=w'∧Wd C' H'∧Ext ⟨C,H⟩ C' H'∧outDen C' o e:=by
 refine h.mono ?_;rintro e w' ⟨o,H',C',rfl,rfl,hw',hx,v,rfl,hd⟩;have hold:∀b,b<C.w.heap.size→C'.w.heap[b]?=C.w.heap[b]?:=fun b hb=>hx.frame b hb (fun ⟨h,o,ho,_⟩=>by simp at ho)
 have hI:Keeps C.I C'.I C.w C'.w:=hx.evo.I
 let D:Cx:={ρ:=C.ρ,n:=C.n,I:=C'.I,w:=C'.w}
 have hsz:∀b m,World.bsize C.w b=some m→World.bsize C'.w b=some m:=hx.evo.sz;have hev:Evo C D:=⟨Ae _,fun _ _=>rfl,hI,hsz⟩;have hIn:∀b,C'.I b→b<C.w.heap.size→C.I b:=fun b hb hlt=>by
  rcases hx.immNew b hb with h1| ⟨h1| ⟨h,o,ho,_⟩,_⟩
  · exact h1
  · exact absurd hlt (by have:C.w.heap.size≤b:=h1;omega)
  simp at ho
 refine ⟨.ret r,H,D,hk,rfl,?_,?_,v,rfl,q0D (C:=C') (C':=D) (Keeps.refl _ _) hr hd⟩
 · refine ⟨hw.n,fun h o ho=> ?_,fun b hb=> ?_,hw.inj,hw'.imm⟩
   · have:=hw.obj h o ho;by_cases hl:o.live=true
     · exact q0C (C':=D) hI h rfl (fun b hb=>hold b (hw.own b ⟨h,o,ho,hl,hb⟩).2) (q0f hev) this
     cases o<;>first|trivial|simp [SObj.live] at hl
   obtain ⟨h1,h2⟩:=hw.own b hb;exact ⟨fun hi=>h1 (hIn b hi h2),Am h2 hx.size⟩
 refine ⟨hev,hx.size,hx.os,hx.tape,hx.output,fun b hb _=>hold b hb,fun b hb=> ?_,fun b hb=>.inr hb,fun _ _ h=>h⟩;rcases hx.immNew b hb with h1| ⟨h1| ⟨h,o,ho,_⟩,u⟩
 · exact .inl h1
 · exact .inr ⟨.inl h1,u⟩
 simp at ho
theorem VCall.frame{P:Program}{f:FuncId}{args:List SV}{r:SV}(hc:SV.cleanL args=true)(hr:r.clean=true)(h:VCall P f args [] fun o _=>o= .ret r)(H:List SObj)(K:Out→List SObj→Prop)
 (hk:K (.ret r) H):VCall P f args H K:=by
 intro C vs hw ht hv;exact q7e hr hw (h {C with n:=0} vs hw.nil (ht.nil rfl fun _ h=>h) (q1n (C:=C) (C':={C with n:=0}) (Keeps.refl _ _) hc hv)) hk
end Go.Sx
