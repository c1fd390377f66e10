/- A part of the proof: a symbolic executor over abstract values, and its soundness. -/
import Derived.WalkKit
import Derived.CallsIn
import Derived.OrdersIn
import Derived.Deep.LoopGhost
import Derived.RangeFuncLeaves
import Derived.BigFrameIn
set_option linter.all false
namespace Go.Sx
open Go
def orMap{a b c d:Prop}(h:a∨b)(f:a->c)(g:b->d):c∨d:=h.elim (fun x=>.inl (f x)) (fun x=>.inr (g x))
def Aa:= @List.getD_eq_getElem?_getD
def Ab:= @List.length_append
def Ac:= @List.getElem?_eq_getElem
def Ad:= @List.take_of_length_le
def Ae:= @Nat.zero_add
def Af:= @Nat.le_refl
def Ag:= @List.getElem?_eq_some_iff
def Ah:= @List.append_nil
def Ai:= @List.getElem?_append_left
def Aj:= @List.length_drop
def Ak:= @List.length_take
def Al:= @Nat.zero_le
def Am:= @Bool.and_eq_true
def An:= @Nat.lt_of_lt_of_le
def Ao:= @List.getElem?_append_right
def Ap:= @Option.map_eq_some_iff
def Aq:= @List.getElem?_set_ne
def Ar:= @List.getElem?_set_self
def As:= @Nat.le_trans
def Au:= @Array.length_toList
def Av:= @List.drop_zero
def Aw:= @List.ext_getElem
def Ax:= @List.nil_append
def Ay:= @List.getElem_range
def Az:= @Int.toNat_natCast
def AA:= @List.getElem?_drop
def AB:= @Nat.add_zero
def AC:= @List.map_cons
def AD:= @Nat.mul_one
def AE:= @Array.getElem?_eq_some_iff
def AF:= @List.getElem?_map
def AG:= @List.getElem_map
def AH:= @List.cons_append
def AI:= @Nat.lt_or_ge
def AJ:= @List.take_append_drop
def AK:= @List.length_cons
def AL:= @List.take_length
def AM:= @List.mem_cons_of_mem
def AN:= @List.getElem?_take
def AO:= @BitVec.ofInt_natCast
def AP:= @List.getElem_append_left
def AR:= @List.size_toArray
def AS:= @List.take_append_of_le_length
def AT:= @Nat.not_lt
def AU:= @BitVec.toNat_ofNat
def AV:= @Nat.mod_eq_of_lt
def AW:= @List.getElem?_eq_none
def AX:= @List.length_map
def AY:= @Bool.false_eq_true
def AZ:= @UInt8.ofNat_toNat
def A0:= @Array.eq_empty_of_size_eq_zero
def A1:= @Option.getD_some
def A2:= @List.drop_eq_nil_of_le
def A3:= @List.getElem?_take_of_lt
def A4:= @Nat.mul_le_mul_right
def A5:= @List.eq_nil_of_length_eq_zero
def A6:= @List.getElem_append_right
def A7:= @List.flatten_cons
def A8:= @UInt8.toNat_ofNat'
def A9:= @List.getElem_of_mem
def Ba:= @List.map_congr_left
def Bb:= @List.all_eq_true
def Bc:= @Option.bind_eq_some_iff
def Bd:= @List.drop_drop
def Be:= @Int.fdiv_eq_ediv_of_nonneg
def Bf:= @List.ext_getElem?
def Bg:= @List.drop_append_of_le_length
def Bh:= @List.set_cons_zero
def Bi:= @List.set_cons_succ
def Bj:= @Nat.min_eq_left
def Bk:= @List.length_set
def Bl:= @Nat.not_lt_zero
def Bm:= @List.mem_cons
def Bn:= @List.getElem_set
def Bo:= @List.length_range
def Bp:= @List.mem_cons_self
def Bq:= @List.foldl_cons
def Br:= @List.map_append
def Bs:= @Nat.add_comm
def Bt:= @List.length_eq_one_iff
def Bu:= @List.getElem_mem
def Bv:= @List.toList_toArray
def Bw:= @List.getD_cons_succ
def Bx:= @List.length_singleton
def By:= @List.mem_map
def Bz:= @Option.map_some
def BA:= @Nat.pow_le_pow_right
def BB:= @List.length_eq_zero_iff
def BC:= @List.all_cons
def BD:= @Array.getElem?_eq_none
def BE:= @List.mem_range
def BF:= @Nat.zero_mul
def BG:= @Int.tmod_eq_emod_of_nonneg
def BH:= @List.drop_take
def BI:= @UInt8.xor_zero
def BJ:= @List.getD_cons_zero
def BK:= @List.nodup_cons
def BL:= @Array.getElem?_eq_getElem
def BM:= @List.length_replicate
def BN:= @List.mem_of_getElem?
def BO:= @UInt8.zero_xor
def BP:= @UInt8.toNat_inj
def BQ:= @List.flatten_append
def BR:= @Array.getD_eq_getD_getElem?
def BS:= @List.map_map
def BT:= @Nat.add_sub_cancel
def BU:= @Bool.and_eq_false_iff
def BV:= @List.mem_append
def BW:= @UInt8.xor_assoc
def BX:= @List.drop_left'
def BY:= @Array.getElem?_setIfInBounds_ne
def BZ:= @List.drop_append
def B0:= @Nat.mul_div_cancel_left
def B1:= @List.take_left
def B2:= @List.range_succ_eq_map
def B3:= @List.map_nil
def B4:= @Bool.or_eq_true
def B5:= @Bool.eq_iff_iff
def B6:= @List.range_succ
def B7:= @Bool.true_and
def B8:= @Nat.lt_irrefl
def B9:= @List.eq_replicate_iff
def Ca:= @List.getElem_drop
def Cb:= @Nat.one_mul
def Cd:= @Array.toList_setIfInBounds
def Ce:= @List.getElem?_modify
def Cf:= @UInt8.toNat_lt
def Cg:= @List.foldl_nil
def Ch:= @List.take_append
def Ci:= @Array.mapM_eq_mapM_toList
def Cj:= @List.replicate_succ
def Ck:= @Array.toList_modify
def Cl:= @Bool.or_eq_true_iff
def Cm:= @List.getElem?_range
def Cn:= @Array.size_setIfInBounds
def Co:= @Option.isSome_iff_exists
def Cp:= @Bool.and_true
def Cq:= @BitVec.toNat_or
def Cr:= @Nat.eq_zero_or_pos
def Cs:= @Nat.add_sub_cancel_left
def Ct:= @List.getElem?_replicate
def Cu:= @List.flatMap_cons
def Cv:= @Array.toList_replicate
def Cw:= @List.take_zero
def Cy:= @List.all_nil
def Cz:= @List.flatten_singleton
def CA:= @Array.getElem?_toList
def CB:= @Nat.le_add_right
def CC:= @List.not_mem_nil
def CD:= @Bool.not_true
def CE:= @Nat.le_succ
def CF:= @Array.toArray_toList
def CG:= @List.replicate_succ'
def CH:= @Nat.shiftLeft_add_eq_or_of_lt
def CI:= @Nat.le_add_left
def CJ:= @Array.toList_append
def CK:= @Int.toNat_of_nonneg
def CL:= @Nat.two_pow_add_eq_or_of_lt
def CM:= @Nat.sub_zero
def CN:= @List.mem_singleton
def CO:= @Array.foldl_toList
def CP:= @Int.tdiv_eq_ediv_of_nonneg
def CQ:= @UInt8.xor_self
def CR:= @List.take_take
def CS:= @Bool.not_false
def CT:= @Bool.and_false
def CU:= @Bool.false_and
def CV:= @List.mem_or_eq_of_mem_set
def CW:= @Nat.lt_trichotomy
def CX:= @List.take_add_one
def CY:= @Nat.pow_add
def CZ:= @Option.bind_some
def C5:= @Option.getD_none
def C6:= @Nat.shiftLeft_eq
def C7:= @Nat.le_of_lt
def Da:= @Int.not_lt
def Db:= @Nat.le_of_eq
def Dc:= @Nat.mod_lt
def Dd:= @UInt8.toNat_xor
def De:= @List.length_nil
def Df:= @List.take_left'
def Dg:= @List.mapM_cons
def Dh:= @List.nodup_nil
def Di:= @Nat.mul_add
def Dj:= @Int.not_le

inductive Ty where
 |u8|int (k:IntKind) |bool|str|slice (t:Ty) |prod (a b:Ty) |unit|arr (n:Nat) (t:Ty) |ptr (t:Ty) |clo (f:Nat) (t:Ty) |clp (f:Nat) (t:Ty) |mbs (t:Ty)
 deriving DecidableEq

@[reducible] def Ty.den:Ty->Type
 |.u8=>UInt8
 |.int _=>Int
 |.bool=>Bool
 |.str=>ByteArray
 |.slice t=>List t.den
 |.prod a b=>a.den×b.den
 |.unit=>Unit
 |.arr _ t=>List t.den
 |.ptr t=>Option t.den
 |.clo _ t=>t.den
 |.clp _ t=>t.den
 |.mbs t=>Option (List t.den)

def Ty.dflt:(t:Ty)->t.den
 |.u8=>(0:UInt8)
 |.int _=>(0:Int)
 |.bool=>false
 |.str=>ByteArray.empty
 |.slice t=>([]:List t.den)
 |.prod a b=>(a.dflt,b.dflt)
 |.unit=>()
 |.arr n t=>List.replicate n t.dflt
 |.ptr _=>none
 |.clo _ t=>t.dflt
 |.clp _ t=>t.dflt
 |.mbs _=>none

def Ty.size:Ty->Nat
 |.prod a b=>a.size+b.size
 |.unit=>0
 |.arr n t=>n*t.size
 |_=>1

def Ty.ok:(t:Ty)->t.den->Prop
 |.u8,_=>True
 |.int _,_=>True
 |.bool,_=>True
 |.str,s=>s.size<=140737488355328
 |.slice t,xs=>xs.length<=1125899906842624∧∀x∈xs,t.ok x
 |.prod a b,x=>a.ok x.1∧b.ok x.2
 |.unit,_=>True
 |.arr n t,xs=>xs.length=n∧∀x∈xs,t.ok x
 |.ptr t,x=>∀y,x=some y->t.ok y
 |.clo _ t,x=>t.ok x
 |.clp _ t,x=>t.ok x
 |.mbs t,x=>∀xs,x=some xs->xs.length<=1125899906842624∧∀y∈xs,t.ok y

def Ty.plain:Ty->Bool
 |.arr _ _=>false
 |.prod a b=>a.plain&& b.plain
 |_=>true

def Ty.rel(I:Nat->Prop)(w:World):(t:Ty)->t.den->List Value->Prop
 |.u8,c,vs=>vs= [.int .u8 c.toNat]
 |.int k,n,vs=>vs= [.int k n]
 |.bool,b,vs=>vs= [.bool b]
 |.str,s,vs=>vs= [.string s]∧s.size<=140737488355328
 |.slice t,xs,vs=>∃A n c,vs= [.slice A n c]∧n=xs.length∧n<=c∧n<=1125899906842624∧
  (xs= []∨∃b off,A=some ⟨b,off,none⟩∧I b∧∀i x,xs[i]?=some x->∃us,t.rel I w x us∧∀k u,us[k]?=some u->w.cell? ⟨b,off+i*t.size+k,none⟩=some u)
 |.prod a b,x,vs=>∃v1 v2,vs=v1++v2∧a.rel I w x.1 v1∧b.rel I w x.2 v2
 |.unit,_,vs=>vs= []
 |.arr n t,xs,vs=>xs.length=n∧∃vss:List (List Value),vs=vss.flatten∧vss.length=xs.length∧∀ (i:Nat) x us,xs[i]?=some x->vss[i]?=some us->t.rel I w x us
 |.ptr t,x,vs=>(x=none∧vs= [.pointer none])∨∃y b off us,x=some y∧vs= [.pointer (some ⟨b,off,none⟩)]∧I b∧t.rel I w y us∧∀j u,us[j]?=some u->w.cell? ⟨b,off+j,none⟩=some u
 |.clo f t,x,vs=>∃us,vs= [.func (.func f) #[.agg us.toArray] #[]]∧t.rel I w x us
 |.clp f t,x,vs=>∃b off us,vs= [.func (.func f) #[] #[.pointer (some ⟨b,off,none⟩)]]∧I b∧t.rel I w x us∧∀j u,us[j]?=some u->w.cell? ⟨b,off+j,none⟩=some u
 |.mbs t,o,vs=>∃A n c,vs= [.slice A n c]∧∀xs,o=some xs->n=xs.length∧n<=c∧n<=1125899906842624∧
  (xs= []∨∃b off,A=some ⟨b,off,none⟩∧I b∧∀i x,xs[i]?=some x->∃us,t.rel I w x us∧∀k u,us[k]?=some u->w.cell? ⟨b,off+i*t.size+k,none⟩=some u)

def Ty.rel_ok{I:Nat->Prop}{w:World}:∀ (t:Ty) (x:t.den) (vs:List Value),t.rel I w x vs->t.ok x
 |.u8,_,_,_=>trivial
 |.int _,_,_,_=>trivial
 |.bool,_,_,_=>trivial
 |.str,_,_,h=>h.2
 |.slice t,xs,vs,h=>by
  obtain ⟨A,n,c,rfl,rfl,_,hn,h⟩:=h;refine ⟨hn,fun x hx=> ?_⟩;rcases h with rfl| ⟨b,off,rfl,_,h⟩
  . cases hx
  obtain ⟨i,hi,rfl⟩:=A9 hx;obtain ⟨us,hr,_⟩:=h i xs[i] (Ac hi);exact t.rel_ok _ _ hr
 |.prod a b,x,vs,h=>by obtain ⟨v1,v2,rfl,h1,h2⟩:=h;exact ⟨a.rel_ok _ _ h1,b.rel_ok _ _ h2⟩
 |.unit,_,_,_=>trivial
 |.arr n t,xs,vs,h=>by obtain ⟨hn,vss,rfl,hl,h⟩:=h;refine ⟨hn,fun x hx=> ?_⟩;obtain ⟨i,hi,rfl⟩:=A9 hx;exact t.rel_ok _ _ (h i _ vss[i] (Ac hi) (Ac (by omega)))
 |.ptr t,x,vs,h=>by
  intro y hy;rcases h with ⟨rfl,_⟩ | ⟨z,b,off,us,rfl,_,_,h,_⟩
  . cases hy
  cases hy;exact t.rel_ok _ _ h
 |.clo f t,x,vs,h=>by obtain ⟨us,_,hr⟩:=h;exact t.rel_ok _ _ hr
 |.clp f t,x,vs,h=>by obtain ⟨b,off,us,_,_,hr,_⟩:=h;exact t.rel_ok _ _ hr
 |.mbs t,o,vs,h=>by
  intro xs hx;obtain ⟨A,n,c,rfl,h⟩:=h;obtain ⟨rfl,_,hn,h⟩:=h xs hx;refine ⟨hn,fun x hx=> ?_⟩;rcases h with rfl| ⟨b,off,rfl,_,h⟩
  . cases hx
  obtain ⟨i,hi,rfl⟩:=A9 hx;obtain ⟨us,hr,_⟩:=h i xs[i] (Ac hi);exact t.rel_ok _ _ hr

def flat_len{α:Type}{s:Nat}:∀ {vss:List (List α)},(∀us∈vss,us.length=s)->vss.flatten.length=vss.length*s
 | [],_=>by simp
 |us :: vss,h=>by rw [A7,Ab,h us (Bp ..),flat_len fun x hx=>h x (AM _ hx),AK,Nat.add_mul,Cb,Bs]
theorem Ty.rel_size{I:Nat->Prop}{w:World}:∀ (t:Ty) (x:t.den) (vs:List Value),t.rel I w x vs->vs.length=t.size
 |.u8,_,_,h=>by cases h;rfl
 |.int _,_,_,h=>by cases h;rfl
 |.bool,_,_,h=>by cases h;rfl
 |.str,_,_,h=>by cases h.1;rfl
 |.slice t,xs,vs,h=>by obtain ⟨A,n,c,rfl,_⟩:=h;rfl
 |.prod a b,x,vs,h=>by obtain ⟨v1,v2,rfl,h1,h2⟩:=h;rw [Ab,a.rel_size _ _ h1,b.rel_size _ _ h2];rfl
 |.unit,_,_,h=>by cases h;rfl
 |.arr n t,xs,vs,h=>by obtain ⟨hn,vss,rfl,hl,h⟩:=h;rw [flat_len (s:=t.size),hl,hn];rfl;intro us hu;obtain ⟨i,hi,rfl⟩:=A9 hu;exact t.rel_size _ _ (h i (xs[i]'(by omega)) _ (Ac _) (Ac hi))
 |.ptr t,x,vs,h=>by rcases h with ⟨_,rfl⟩ | ⟨z,b,off,us,_,rfl,_⟩ <;>rfl
 |.clo f t,x,vs,h=>by obtain ⟨us,rfl,_⟩:=h;rfl
 |.clp f t,x,vs,h=>by obtain ⟨b,off,us,rfl,_⟩:=h;rfl
 |.mbs t,x,vs,h=>by obtain ⟨A,n,c,rfl,_⟩:=h;rfl

def Lies(I:Nat->Prop)(w:World)(b off:Nat)(t:Ty)(x:t.den):Prop:=∃us,t.rel I w x us∧∀j u,us[j]?=some u->w.cell? ⟨b,off+j,none⟩=some u
def Keeps(I I':Nat->Prop)(w w':World):Prop:=∀b,I b->I' b∧w'.heap[b]?=w.heap[b]?
theorem Keeps.refl(I:Nat->Prop)(w:World):Keeps I I w w:=fun _ h=>⟨h,rfl⟩
def Keeps.trans{I I' I'':Nat->Prop}{w w' w'':World}(h:Keeps I I' w w')(k:Keeps I' I'' w' w''):Keeps I I'' w w'':=
 fun b hb=>⟨(k b (h b hb).1).1,((k b (h b hb).1).2).trans (h b hb).2⟩

def Ty.rel_keep{I I':Nat->Prop}{w w':World}(hk:Keeps I I' w w'):∀ (t:Ty) (x:t.den) (vs:List Value),t.rel I w x vs->t.rel I' w' x vs
 |.u8,_,_,h=>h
 |.int _,_,_,h=>h
 |.bool,_,_,h=>h
 |.str,_,_,h=>h
 |.slice t,xs,vs,h=>by obtain ⟨A,n,c,rfl,h1,h2,h3,h⟩:=h;refine ⟨A,n,c,rfl,h1,h2,h3,orMap h id ?_⟩;rintro ⟨b,off,rfl,hI,h⟩;refine ⟨b,off,rfl,(hk b hI).1,fun i x hx=> ?_⟩;obtain ⟨us,hr,hc⟩:=h i x hx;exact ⟨us,t.rel_keep hk _ _ hr,fun k u hu=>by rw [<-hc k u hu];exact World.cell?_of_block (hk b hI).2⟩
 |.prod a b,x,vs,h=>by obtain ⟨v1,v2,rfl,h1,h2⟩:=h;exact ⟨v1,v2,rfl,a.rel_keep hk _ _ h1,b.rel_keep hk _ _ h2⟩
 |.unit,_,_,h=>h
 |.arr n t,xs,vs,h=>by obtain ⟨hn,vss,rfl,hl,h⟩:=h;exact ⟨hn,vss,rfl,hl,fun i x us hx hu=>t.rel_keep hk _ _ (h i x us hx hu)⟩
 |.ptr t,x,vs,h=>by
  rcases h with h| ⟨z,b,off,us,e,rfl,hI,hr,hc⟩
  . exact .inl h
  exact .inr ⟨z,b,off,us,e,rfl,(hk b hI).1,t.rel_keep hk _ _ hr,fun j u hu=>by rw [<-hc j u hu];exact World.cell?_of_block (hk b hI).2⟩
 |.clo f t,x,vs,h=>by obtain ⟨us,rfl,hr⟩:=h;exact ⟨us,rfl,t.rel_keep hk _ _ hr⟩
 |.clp f t,x,vs,h=>by obtain ⟨b,off,us,rfl,hI,hr,hc⟩:=h;exact ⟨b,off,us,rfl,(hk b hI).1,t.rel_keep hk _ _ hr,fun j u hu=>by rw [<-hc j u hu];exact World.cell?_of_block (hk b hI).2⟩
 |.mbs t,o,vs,h=>by obtain ⟨A,n,c,rfl,h⟩:=h;refine ⟨A,n,c,rfl,fun xs hx=> ?_⟩;obtain ⟨h1,h2,h3,h⟩:=h xs hx;refine ⟨h1,h2,h3,orMap h id ?_⟩;rintro ⟨b,off,rfl,hI,h⟩;refine ⟨b,off,rfl,(hk b hI).1,fun i x hx=> ?_⟩;obtain ⟨us,hr,hc⟩:=h i x hx;exact ⟨us,t.rel_keep hk _ _ hr,fun k u hu=>by rw [<-hc k u hu];exact World.cell?_of_block (hk b hI).2⟩
variable {w:World}{vs:List Value}
def z3Y{I:Nat->Prop}{t:Ty}{xs:List t.den}:(Ty.mbs t).rel I w (some xs) vs ↔ (Ty.slice t).rel I w xs vs:=
 ⟨fun ⟨A,n,c,e,h⟩=>⟨A,n,c,e,(h xs rfl).1,(h xs rfl).2.1,(h xs rfl).2.2.1,(h xs rfl).2.2.2⟩,fun ⟨A,n,c,e,h1,h2,h3,h4⟩=>⟨A,n,c,e,fun ys hy=>by cases hy;exact ⟨h1,h2,h3,h4⟩⟩⟩
inductive SV where
 |any
 |raw (v:Value)
 |isl (t:Ty) (xs:List t.den)
 |fsl (t:Ty) (xs:List t.den)
 |iptr (t:Ty) (x:t.den) (k:Nat)
 |ptr (h off:Nat)
 |rptr (h:Nat) (t:Ty) (i k:Nat)
 |bld (h:Nat) (t:Ty) (n:Nat)
 |osl (h:Nat) (t:Ty) (off n:Nat)
 |csl (h:Nat) (t:Ty) (k i n:Nat)                       -- a part of an array in an own object: from cell k, its i-th datum on
 |dat (t:Ty) (x:t.den)                                   -- a datum of several cells
 |agg (l:List SV)
 |tup (l:List SV)
 |fn (f:Nat) (first caps:List SV)
 |iface (T:TypeId) (x:SV)
 |mp (h:Nat)
 |imap (kk:Option IntKind) (ks vs:List Value)

structure Cx where
 ρ:Nat->Option Nat
 n:Nat
 I:Nat->Prop
 w:World

def World.bsize(w:World)(b:Nat):Option Nat:=
 match w.heap[b]? with
 |some (.cells c _ _)=>some c.size
 |_=>none

def keyIs:Option IntKind->Value->Bool
 |some k,.int k' _=>k==k'
 |none,.string _=>true
 |_,_=>false
def keyEq:Value->Value->Bool
 |.int _ a,.int _ b=>decide (a=b)
 |.string a,.string b=>decide (a=b)
 |_,_=>false
def findI(k:Value):List Value->Option Nat
 | []=>none
 |k' :: l=>if keyEq k k' then some 0 else (findI k l).map (· +1)
def mapAt(w:World)(b:Nat)(kk:Option IntKind)(ks vs:List Value):Prop:=
 ∃es clock,w.heap[b]?=some (.map es clock)∧es.toList.map (·.key)=ks∧es.toList.map (·.val)=vs∧∀k∈ks,keyIs kk k=true
variable {b:Nat}
def q5s{w':World}{kk:Option IntKind}{ks:List Value}(h:mapAt w b kk ks vs)(hb:w'.heap[b]?=w.heap[b]?):mapAt w' b kk ks vs:=by obtain ⟨es,clock,h1,h2⟩:=h;exact ⟨es,clock,hb.trans h1,h2⟩

mutual
def SV.den(C:Cx):SV->Value->Prop
 |.any,_=>True
 |.raw u,v=>v=u
 |.isl t xs,v=>(Ty.slice t).rel C.I C.w xs [v]
 |.fsl t xs,v=>(Ty.slice t).rel C.I C.w xs [v]∧∃A,v= .slice A xs.length xs.length
 |.iptr t x k,v=>∃b off vs,v= .pointer (some ⟨b,off+k,none⟩)∧C.I b∧t.rel C.I C.w x vs∧∀j u,vs[j]?=some u->C.w.cell? ⟨b,off+j,none⟩=some u
 |.ptr h off,v=>h<C.n∧∃b,C.ρ h=some b∧v= .pointer (some ⟨b,off,none⟩)
 |.rptr h t i k,v=>h<C.n∧∃b,C.ρ h=some b∧v= .pointer (some ⟨b,i*t.size+k,none⟩)
 |.bld h t n,v=>h<C.n∧((C.ρ h=none∧n=0∧v= .slice none 0 0)∨∃b c m,C.ρ h=some b∧v= .slice (some ⟨b,0,none⟩) n c∧n<=c∧World.bsize C.w b=some m∧c*t.size<=m)
 |.osl h t off n,v=>h<C.n∧∃A c,v= .slice A n c∧n<=c∧(n=0∨∃b,C.ρ h=some b∧A=some ⟨b,off*t.size,none⟩)
 |.csl h t k i n,v=>h<C.n∧∃A c,v= .slice A n c∧n<=c∧(n=0∨∃b,C.ρ h=some b∧A=some ⟨b,i*t.size+k,none⟩)
 |.dat t x,v=>∃vs,v= .agg vs.toArray∧t.rel C.I C.w x vs
 |.agg l,v=>∃vs,v= .agg vs.toArray∧SV.denL C l vs
 |.tup l,v=>∃vs,v= .tuple vs.toArray∧SV.denL C l vs
 |.fn f l1 l2,v=>∃v1 v2,v= .func (.func f) v1.toArray v2.toArray∧SV.denL C l1 v1∧SV.denL C l2 v2
 |.iface T x,v=>∃u,v= .iface T u∧SV.den C x u
 |.mp h,v=>h<C.n∧∃b,C.ρ h=some b∧v= .map (some b)
 |.imap kk ks vs,v=>∃b,v= .map (some b)∧C.I b∧mapAt C.w b kk ks vs
def SV.denL(C:Cx):List SV->List Value->Prop
 | [],vs=>vs= []
 |s :: l,vs=>∃v us,vs=v :: us∧SV.den C s v∧SV.denL C l us
end

variable {C:Cx}
def q0y:SV.denL C [] vs ↔ vs= []:=by rw [SV.denL]
variable {s:SV}
def q0d{l:List SV}:SV.denL C (s :: l) vs ↔ ∃v us,vs=v :: us∧SV.den C s v∧SV.denL C l us:=by rw [SV.denL]

theorem q0x{C:Cx}:∀ {l l':List SV} {vs:List Value},SV.denL C (l++l') vs ↔ ∃v1 v2,vs=v1++v2∧SV.denL C l v1∧SV.denL C l' v2
 | [],l',vs=>by simp only [Ax,q0y];exact ⟨fun h=>⟨[],vs,rfl,rfl,h⟩,fun ⟨v1,v2,h1,h2,h3⟩=>by subst h2 h1;exact h3⟩
 |s :: l,l',vs=>by
  simp only [AH,q0d,q0x];constructor
  . rintro ⟨v,us,rfl,hv,v1,v2,rfl,h1,h2⟩;exact ⟨v :: v1,v2,rfl,⟨v,v1,rfl,hv,h1⟩,h2⟩
  rintro ⟨_,v2,rfl,⟨v,v1,rfl,hv,h1⟩,h2⟩;exact ⟨v,v1++v2,rfl,hv,v1,v2,rfl,h1,h2⟩

theorem q0A{C:Cx}:∀ {l:List SV} {vs:List Value},SV.denL C l vs->vs.length=l.length
 | [],_,h=>by rw [q0y] at h;subst h;rfl
 |s :: l,_,h=>by obtain ⟨v,us,rfl,_,h⟩:=q0d.1 h;simp [q0A h]

def q1Z{C:Cx}:∀ {l:List SV} {vs:List Value} {i:Nat} {s:SV},SV.denL C l vs->l[i]?=some s->∃v,vs[i]?=some v∧s.den C v
 | [],_,_,_,_,h=>by simp at h
 |x :: l,_,0,s,h,hi=>by obtain ⟨v,us,rfl,hv,h⟩:=q0d.1 h;simp at hi;subst hi;exact ⟨v,rfl,hv⟩
 |x :: l,_,i+1,s,h,hi=>by obtain ⟨v,us,rfl,hv,h⟩:=q0d.1 h;simp at hi;obtain ⟨u,hu,hs⟩:=q1Z h hi;exact ⟨u,by simpa using hu,hs⟩

theorem q2k{C:Cx}:∀ {l:List SV} {vs:List Value} {i:Nat} {s:SV} {v:Value},SV.denL C l vs->s.den C v->SV.denL C (l.set i s) (vs.set i v)
 | [],_,_,_,_,h,_=>by rw [q0y] at h;subst h;simp [q0y]
 |x :: l,_,0,s,v,h,hs=>by obtain ⟨u,us,rfl,hv,h⟩:=q0d.1 h;exact q0d.2 ⟨v,us,rfl,hs,h⟩
 |x :: l,_,i+1,s,v,h,hs=>by obtain ⟨u,us,rfl,hv,h⟩:=q0d.1 h;exact q0d.2 ⟨u,us.set i v,rfl,hv,q2k h hs⟩

theorem q5i{C:Cx}:∀ {l:List SV} {vs:List Value} (n:Nat),SV.denL C l vs->SV.denL C (l.take n) (vs.take n)
 | [],_,_,h=>by rw [q0y] at h;subst h;simp [q0y]
 |x :: l,_,0,h=>by simp [q0y]
 |x :: l,_,n+1,h=>by obtain ⟨u,us,rfl,hv,h⟩:=q0d.1 h;exact q0d.2 ⟨u,us.take n,rfl,hv,q5i n h⟩
theorem q5r{C:Cx}:∀ {l:List SV} {vs:List Value} (n:Nat),SV.denL C l vs->SV.denL C (l.drop n) (vs.drop n)
 | [],_,_,h=>by rw [q0y] at h;subst h;simp [q0y]
 |x :: l,_,0,h=>h
 |x :: l,_,n+1,h=>by obtain ⟨u,us,rfl,hv,h⟩:=q0d.1 h;exact q5r n h

def Ty.cells:(t:Ty)->t.den->List SV
 |.u8,c=>[.raw (.int .u8 c.toNat)]
 |.int k,n=>[.raw (.int k n)]
 |.bool,b=>[.raw (.bool b)]
 |.str,s=>[.raw (.string s)]
 |.slice t,xs=>[.isl t xs]
 |.prod a b,x=>a.cells x.1++b.cells x.2
 |.unit,_=>[]
 |.arr n t,xs=>(List.range n).flatMap fun i=>t.cells (xs.getD i t.dflt)
 |.ptr t,x=>match x with
  |some y=>[.iptr t y 0]
  |none=>[.raw (.pointer none)]
 |.clo f t,x=>[.fn f [.agg (t.cells x)] []]
 |.clp f t,x=>[.fn f [] [.iptr t x 0]]
 |.mbs t,x=>match x with
  |some xs=>[.isl t xs]
  |none=>[.any]

theorem Ty.cells_den{C:Cx}:∀ (t:Ty) (x:t.den) (vs:List Value),t.rel C.I C.w x vs->SV.denL C (t.cells x) vs
 |.u8,_,_,h=>by cases h;simp [Ty.cells,SV.denL,SV.den]
 |.int _,_,_,h=>by cases h;simp [Ty.cells,SV.denL,SV.den]
 |.bool,_,_,h=>by cases h;simp [Ty.cells,SV.denL,SV.den]
 |.str,_,_,h=>by cases h.1;simp [Ty.cells,SV.denL,SV.den]
 |.slice t,xs,vs,h=>by obtain ⟨A,n,c,rfl,h'⟩:=id h;simp only [Ty.cells,SV.denL,SV.den];exact ⟨_,_,rfl,h,rfl⟩
 |.prod a b,x,vs,h=>by obtain ⟨v1,v2,rfl,h1,h2⟩:=h;exact q0x.2 ⟨v1,v2,rfl,a.cells_den _ _ h1,b.cells_den _ _ h2⟩
 |.unit,_,_,h=>by cases h;simp [Ty.cells,SV.denL]
 |.arr n t,xs,vs,h=>by
  obtain ⟨hn,vss,rfl,hl,h⟩:=h;simp only [Ty.cells];rw [<-hn];clear hn;induction xs generalizing vss with
  |nil=>cases vss with
   |nil=>simp [SV.denL]
   |cons=>simp at hl
  |cons x xs ih=>cases vss with
   |nil=>simp at hl
   |cons us vss=>rw [AK,B2,Cu,A7,List.flatMap_map];exact q0x.2 ⟨_,_,rfl,t.cells_den _ _ (h 0 x us rfl rfl),ih vss (by simpa using hl) fun i x us hx hu=>h (i+1) x us (by simpa using hx) (by simpa using hu)⟩
 |.ptr t,x,vs,h=>by
  rcases h with ⟨rfl,rfl⟩ | ⟨z,b,off,us,rfl,rfl,hI,hr,hc⟩
  . simp [Ty.cells,SV.denL,SV.den]
  simp only [Ty.cells,SV.denL,SV.den];exact ⟨_,_,rfl,⟨b,off,us,by rw [AB],hI,hr,hc⟩,rfl⟩
 |.clo f t,x,vs,h=>by obtain ⟨us,rfl,hr⟩:=h;simp only [Ty.cells,SV.denL,SV.den];exact ⟨_,_,rfl,⟨[.agg us.toArray],[],rfl,⟨_,_,rfl,⟨us,rfl,t.cells_den _ _ hr⟩,rfl⟩,rfl⟩,rfl⟩
 |.clp f t,x,vs,h=>by obtain ⟨b,off,us,rfl,hI,hr,hc⟩:=h;simp only [Ty.cells,SV.denL,SV.den];exact ⟨_,_,rfl,⟨[],[.pointer (some ⟨b,off,none⟩)],rfl,rfl,⟨_,_,rfl,⟨b,off,us,by rw [AB],hI,hr,hc⟩,rfl⟩⟩,rfl⟩
 |.mbs t,o,vs,h=>by
  cases o with
  |none=>obtain ⟨A,n,c,rfl,_⟩:=h;simp [Ty.cells,SV.denL,SV.den]
  |some xs=>have h':=z3Y.1 h;obtain ⟨A,n,c,rfl,_⟩:=id h';simp only [Ty.cells,SV.denL,SV.den];exact ⟨_,_,rfl,h',rfl⟩

def rdU8:List SV->Option (UInt8×Prop)
 | [.raw (.int .u8 n)]=>some (UInt8.ofNat n.toNat,((UInt8.ofNat n.toNat).toNat:Int)=n)
 |_=>none
def rdInt(k:IntKind):List SV->Option (Int×Prop)
 | [.raw (.int k' n)]=>if k=k' then some (n,True) else none
 |_=>none
def rdBool:List SV->Option (Bool×Prop)
 | [.raw (.bool b)]=>some (b,True)
 |_=>none
def rdStr:List SV->Option (ByteArray×Prop)
 | [.raw (.string s)]=>some (s,s.size<=140737488355328)
 |_=>none
def rdSlice(t:Ty):List SV->Option (List t.den×Prop)
 | [.isl t' xs]=>if h:t'=t then some (cast (by rw [h]) xs,True) else none
 | [.fsl t' xs]=>if h:t'=t then some (cast (by rw [h]) xs,True) else none
 | [.raw (.slice none 0 0)]=>some ([],True)
 |_=>none
def rdPtr(t:Ty):List SV->Option (Option t.den×Prop)
 | [.iptr t' x k]=>if h:t'=t∧k=0 then some (some (cast (by rw [h.1]) x),True) else none
 | [.raw (.pointer none)]=>some (none,True)
 |_=>none
def rdUnit:List SV->Option (Unit×Prop)
 | []=>some ((),True)
 |_=>none
def Ty.rd:(t:Ty)->List SV->Option (t.den×Prop)
 |.u8,cs=>rdU8 cs
 |.int k,cs=>rdInt k cs
 |.bool,cs=>rdBool cs
 |.str,cs=>rdStr cs
 |.slice t,cs=>rdSlice t cs
 |.prod a b,cs=>match a.rd (cs.take a.size),b.rd (cs.drop a.size) with
  |some (x,p),some (y,q)=>some ((x,y),p∧q)
  |_,_=>none
 |.unit,cs=>rdUnit cs
 |.arr _ _,_=>none
 |.ptr t,cs=>rdPtr t cs
 |.clo f t,cs=>match cs with
  | [.fn g [.agg l] []]=>if g=f then t.rd l else none
  |_=>none
 |.clp f t,cs=>match cs with
  | [.fn g [] [.iptr t' x k]]=>if h:g=f∧t'=t∧k=0 then some (cast (by rw [h.2.1]) x,True) else none
  |_=>none
 |.mbs t,cs=>match rdSlice t cs with
  |some (xs,p)=>some (some xs,p)
  |none=>none

theorem q6P{t:Ty}{cs:List SV}{x:List t.den}{p:Prop}(h:rdSlice t cs=some (x,p))(hv:SV.denL C cs vs):(Ty.slice t).rel C.I C.w x vs:=by
 unfold rdSlice at h;split at h
 . split at h
   . rename_i ht;subst ht;cases h;simp only [SV.denL,SV.den] at hv;obtain ⟨v,us,rfl,h,rfl⟩:=hv;exact h
   cases h
 . split at h
   . rename_i ht;subst ht;cases h;simp only [SV.denL,SV.den] at hv;obtain ⟨v,us,rfl,h,rfl⟩:=hv;exact h.1
   cases h
 . cases h;simp only [SV.denL,SV.den] at hv;obtain ⟨v,us,rfl,rfl,rfl⟩:=hv;exact ⟨_,_,_,rfl,rfl,Af _,by simp,.inl rfl⟩
 cases h
theorem Ty.rd_rel{C:Cx}:∀ (t:Ty) (cs:List SV) (x:t.den) (p:Prop) (vs:List Value),t.rd cs=some (x,p)->p->SV.denL C cs vs->t.rel C.I C.w x vs
 |.prod a b,cs,x,p,vs,h,hp,hv=>by
  unfold Ty.rd at h;split at h
  . rename_i x1 p1 y1 q1 h1 h2;cases h;rw [<-AJ a.size cs] at hv;obtain ⟨v1,v2,rfl,d1,d2⟩:=q0x.1 hv;exact ⟨v1,v2,rfl,a.rd_rel _ _ _ _ h1 hp.1 d1,b.rd_rel _ _ _ _ h2 hp.2 d2⟩
  cases h
 |.u8,cs,x,p,vs,h,hp,hv=>by
  simp only [Ty.rd] at h;unfold rdU8 at h;split at h<;>cases h
  simp only [SV.denL,SV.den] at hv;obtain ⟨v,us,rfl,rfl,rfl⟩:=hv;simp only [Ty.rel];rw [hp]
 |.int k,cs,x,p,vs,h,hp,hv=>by
  simp only [Ty.rd] at h;unfold rdInt at h;split at h
  . split at h
    . subst k;cases h;simp only [SV.denL,SV.den] at hv;obtain ⟨v,us,rfl,rfl,rfl⟩:=hv;simp [Ty.rel]
    cases h
  cases h
 |.bool,cs,x,p,vs,h,hp,hv=>by
  simp only [Ty.rd] at h;unfold rdBool at h;split at h<;>cases h
  simp only [SV.denL,SV.den] at hv;obtain ⟨v,us,rfl,rfl,rfl⟩:=hv;simp [Ty.rel]
 |.str,cs,x,p,vs,h,hp,hv=>by
  simp only [Ty.rd] at h;unfold rdStr at h;split at h<;>cases h
  simp only [SV.denL,SV.den] at hv;obtain ⟨v,us,rfl,rfl,rfl⟩:=hv;exact ⟨rfl,hp⟩
 |.slice t,cs,x,p,vs,h,hp,hv=>by simp only [Ty.rd] at h;exact q6P h hv
 |.unit,cs,x,p,vs,h,hp,hv=>by
  simp only [Ty.rd] at h;unfold rdUnit at h;split at h
  . simp only [SV.denL] at hv;simp [Ty.rel,hv]
  cases h
 |.arr _ _,cs,x,p,vs,h,hp,hv=>by simp only [Ty.rd] at h;cases h
 |.ptr t,cs,x,p,vs,h,hp,hv=>by
  simp only [Ty.rd] at h;unfold rdPtr at h;split at h
  . split at h
    . rename_i ht;obtain ⟨rfl,rfl⟩:=ht;cases h;simp only [SV.denL,SV.den] at hv;obtain ⟨v,us,rfl,⟨b,off,ws,rfl,hI,hr,hc⟩,rfl⟩:=hv;exact .inr ⟨_,b,off,ws,rfl,by rw [AB],hI,hr,hc⟩
    cases h
  . cases h;simp only [SV.denL,SV.den] at hv;obtain ⟨v,us,rfl,rfl,rfl⟩:=hv;exact .inl ⟨rfl,rfl⟩
  cases h
 |.clo f t,cs,x,p,vs,h,hp,hv=>by
  simp only [Ty.rd] at h;split at h
  . split at h
    . rename_i hg;subst hg;simp only [SV.denL,SV.den] at hv;obtain ⟨v,us,rfl,⟨v1,v2,rfl,⟨u,ws,rfl,⟨zs,rfl,hz⟩,rfl⟩,rfl⟩,rfl⟩:=hv;exact ⟨zs,rfl,t.rd_rel _ _ _ _ h hp hz⟩
    cases h
  cases h
 |.clp f t,cs,x,p,vs,h,hp,hv=>by
  simp only [Ty.rd] at h;split at h
  . split at h
    . rename_i hg;obtain ⟨rfl,rfl,rfl⟩:=hg;cases h;simp only [SV.denL,SV.den] at hv;obtain ⟨v,us,rfl,⟨v1,v2,rfl,rfl,⟨u,ws,rfl,⟨b,off,zs,rfl,hI,hr,hc⟩,rfl⟩⟩,rfl⟩:=hv;exact ⟨b,off,zs,by rw [AB],hI,hr,hc⟩
    cases h
  cases h
 |.mbs t,cs,x,p,vs,h,hp,hv=>by
  simp only [Ty.rd] at h;split at h
  . rename_i xs q hs;cases h;exact z3Y.2 (q6P hs hv)
  cases h
def Ty.known:Ty->Bool
 |.slice t=>t.known
 |.prod a b=>a.known&& b.known
 |.arr _ t=>t.known
 |.ptr t=>t.known
 |.clo _ t=>t.known
 |.clp _ t=>t.known
 |.mbs _=>false
 |_=>true
inductive SObj where
 |dead
 |cells (T:TypeId) (cs:List SV)
 |row (t:Ty) (xs:List t.den)
 |map (kk:Option IntKind) (ks:List Value) (vs:List SV)
 |mark (n:Nat)                                            -- nothing of memory: a number that only a yield changes

structure Evo (C C':Cx):Prop where
 n:C.n<=C'.n
 ρ:∀h,h<C.n->C'.ρ h=C.ρ h
 I:Keeps C.I C'.I C.w C'.w
 sz:∀b m,World.bsize C.w b=some m->World.bsize C'.w b=some m

theorem Evo.refl(C:Cx):Evo C C:=⟨Af _,fun _ _=>rfl,Keeps.refl _ _,fun _ _ h=>h⟩
def Evo.trans{A B C:Cx}(h:Evo A B)(k:Evo B C):Evo A C:=
 ⟨As h.n k.n,fun x hx=>(k.ρ x (An hx h.n)).trans (h.ρ x hx),h.I.trans k.I,fun b m hm=>k.sz b m (h.sz b m hm)⟩

mutual
theorem q0Y{C C':Cx}(e:Evo C C'):∀ {s:SV} {v:Value},s.den C v->s.den C' v
 |.any,_,_=>by rw [SV.den];trivial
 |.raw u,v,h=>by rw [SV.den] at h⊢;exact h
 |.isl t xs,v,h=>by rw [SV.den] at h⊢;exact Ty.rel_keep e.I _ _ _ h
 |.fsl t xs,v,h=>by rw [SV.den] at h⊢;exact ⟨Ty.rel_keep e.I _ _ _ h.1,h.2⟩
 |.iptr t x k,v,h=>by rw [SV.den] at h⊢;obtain ⟨b,off,vs,rfl,hI,hr,hc⟩:=h;exact ⟨b,off,vs,rfl,(e.I b hI).1,Ty.rel_keep e.I _ _ _ hr,fun j u hu=>by rw [<-hc j u hu];exact World.cell?_of_block (e.I b hI).2⟩
 |.ptr h off,v,d=>by rw [SV.den] at d⊢;obtain ⟨hn,b,hb,hv⟩:=d;exact ⟨An hn e.n,b,(e.ρ h hn).trans hb,hv⟩
 |.rptr h t i k,v,d=>by rw [SV.den] at d⊢;obtain ⟨hn,b,hb,hv⟩:=d;exact ⟨An hn e.n,b,(e.ρ h hn).trans hb,hv⟩
 |.bld h t n,v,d=>by
  rw [SV.den] at d⊢;obtain ⟨hn,d⟩:=d;refine ⟨An hn e.n,?_⟩;rcases d with ⟨h1,h2⟩ | ⟨b,c,m,hb,hv,hc,hm,hcm⟩
  . exact .inl ⟨(e.ρ h hn).trans h1,h2⟩
  exact .inr ⟨b,c,m,(e.ρ h hn).trans hb,hv,hc,e.sz b m hm,hcm⟩
 |.osl h t off n,v,d=>by rw [SV.den] at d⊢;obtain ⟨hn,A,c,hv,hc,d⟩:=d;exact ⟨An hn e.n,A,c,hv,hc,orMap d id fun ⟨b,hb,hA⟩=>⟨b,(e.ρ h hn).trans hb,hA⟩⟩
 |.dat t x,v,d=>by rw [SV.den] at d⊢;obtain ⟨vs,hv,hr⟩:=d;exact ⟨vs,hv,Ty.rel_keep e.I _ _ _ hr⟩
 |.csl h t k i n,v,d=>by rw [SV.den] at d⊢;obtain ⟨hn,A,c,hv,hc,d⟩:=d;exact ⟨An hn e.n,A,c,hv,hc,orMap d id fun ⟨b,hb,hA⟩=>⟨b,(e.ρ h hn).trans hb,hA⟩⟩
 |.agg l,v,d=>by rw [SV.den] at d⊢;obtain ⟨vs,hv,hl⟩:=d;exact ⟨vs,hv,q0h e hl⟩
 |.tup l,v,d=>by rw [SV.den] at d⊢;obtain ⟨vs,hv,hl⟩:=d;exact ⟨vs,hv,q0h e hl⟩
 |.fn f l1 l2,v,d=>by rw [SV.den] at d⊢;obtain ⟨v1,v2,hv,h1,h2⟩:=d;exact ⟨v1,v2,hv,q0h e h1,q0h e h2⟩
 |.iface T x,v,d=>by rw [SV.den] at d⊢;obtain ⟨u,hv,h1⟩:=d;exact ⟨u,hv,q0Y e h1⟩
 |.mp h,v,d=>by rw [SV.den] at d⊢;obtain ⟨hn,b,hb,hv⟩:=d;exact ⟨An hn e.n,b,(e.ρ h hn).trans hb,hv⟩
 |.imap kk ks vs,v,d=>by rw [SV.den] at d⊢;obtain ⟨b,hv,hb,hm⟩:=d;exact ⟨b,hv,(e.I b hb).1,q5s hm (e.I b hb).2⟩
theorem q0h{C C':Cx}(e:Evo C C'):∀ {l:List SV} {vs:List Value},SV.denL C l vs->SV.denL C' l vs
 | [],_,h=>by rw [SV.denL] at h⊢;exact h
 |s :: l,_,h=>by rw [SV.denL] at h⊢;obtain ⟨v,us,rfl,h1,h2⟩:=h;exact ⟨v,us,rfl,q0Y e h1,q0h e h2⟩
end

def rowAt(I:Nat->Prop)(w:World)(t:Ty)(xs:List t.den)(b off:Nat):Prop:=
 ∀i x,xs[i]?=some x->∃us,t.rel I w x us∧∀k u,us[k]?=some u->w.cell? ⟨b,off+i*t.size+k,none⟩=some u

def objDen(C:Cx)(h:Nat):SObj->Prop
 |.dead=>True
 |.cells T cs=>∃b vs,C.ρ h=some b∧C.w.heap[b]?=some (.cells vs.toArray T (0,0))∧SV.denL C cs vs
 |.row t xs=>(C.ρ h=none∧xs= [])∨∃b arr T fz,C.ρ h=some b∧C.w.heap[b]?=some (.cells arr T fz)∧(∀i,i<arr.size->¬(fz.1<=i∧i<fz.2))∧xs.length*t.size<=arr.size∧rowAt C.I C.w t xs b 0
 |.map kk ks vs=>∃b us,C.ρ h=some b∧mapAt C.w b kk ks us∧SV.denL C vs us
 |.mark _=>True

def SObj.live:SObj->Bool
 |.dead=>false
 |.mark _=>false
 |_=>true

def OwnB(C:Cx)(H:List SObj)(b:Nat):Prop:=∃h o,H[h]?=some o∧o.live=true∧C.ρ h=some b

structure Wd (C:Cx) (H:List SObj):Prop where
 n:C.n=H.length
 obj:∀h o,H[h]?=some o->objDen C h o
 own:∀b,OwnB C H b->¬C.I b∧b<C.w.heap.size
 inj:∀h h' o o' b,H[h]?=some o->H[h']?=some o'->o.live=true->o'.live=true->C.ρ h=some b->C.ρ h'=some b->h=h'
 imm:∀b,C.I b->b<C.w.heap.size

def Unf(w:World)(b:Nat):Prop:=∀c T fz,w.heap[b]?=some (.cells c T fz)->∀i,i<c.size->¬(fz.1<=i∧i<fz.2)
def Unf.keep{w w':World}{b:Nat}(h:Unf w b)(e:w'.heap[b]?=w.heap[b]?):Unf w' b:=fun c T fz hc=>h c T fz (e▸hc)
variable {H:List SObj}
def q4y(hw:Wd C H)(h:OwnB C H b):Unf C.w b:=by
 obtain ⟨i,o,ho,hl,hb⟩:=h;have:=hw.obj i o ho;intro c T fz hc j hj;cases o with
 |dead=>simp [SObj.live] at hl
 |cells T' cs=>obtain ⟨b',vs,h1,h2,_⟩:=this;rw [hb] at h1;cases h1;rw [hc] at h2;cases h2;simp
 |row t xs=>
  rcases this with ⟨h1,_⟩ | ⟨b',arr,T',fz',h1,h2,h3,_⟩
  . rw [hb] at h1;cases h1
  rw [hb] at h1;cases h1;rw [hc] at h2;cases h2;exact h3 j hj
 |map kk ks vs=>obtain ⟨b',us,h1,⟨es,cl,h2,_⟩,_⟩:=this;rw [hb] at h1;cases h1;rw [hc] at h2;cases h2
 |mark n=>simp [SObj.live] at hl

structure En where
 C:Cx
 H:List SObj

structure Ext (E:En) (C:Cx) (H:List SObj):Prop where
 evo:Evo E.C C
 size:E.C.w.heap.size<=C.w.heap.size
 os:C.w.os=E.C.w.os
 tape:C.w.tape=E.C.w.tape
 output:C.w.output=E.C.w.output
 frame:∀b,b<E.C.w.heap.size->¬OwnB E.C E.H b->C.w.heap[b]?=E.C.w.heap[b]?
 immNew:∀b,C.I b->E.C.I b∨((E.C.w.heap.size<=b∨OwnB E.C E.H b)∧Unf C.w b)
 ownNew:∀b,OwnB C H b->E.C.w.heap.size<=b∨OwnB E.C E.H b
 keep0:∀n,0<E.C.n->E.H[0]?=some (.mark n)->H[0]?=some (.mark n)

def Ext.refl(C:Cx)(H:List SObj):Ext ⟨C,H⟩ C H:=
 ⟨Evo.refl _,Af _,rfl,rfl,rfl,fun _ _ _=>rfl,fun _ h=>.inl h,fun _ h=>.inr h,fun _ _ h=>h⟩
def Ext.trans{E:En}{C C':Cx}{H H':List SObj}(h:Ext E C H)(k:Ext ⟨C,H⟩ C' H'):Ext E C' H' where
 evo:=h.evo.trans k.evo
 size:=As h.size k.size
 os:=k.os.trans h.os
 tape:=k.tape.trans h.tape
 output:=k.output.trans h.output
 frame:=fun b hb ho=>(k.frame b (An hb h.size) (fun hc=>(h.ownNew b hc).elim (fun x=>absurd hb (by omega)) ho)).trans (h.frame b hb ho)
 immNew:=fun b hb=>(k.immNew b hb).elim (fun hb0=>orMap (h.immNew b hb0) id fun ⟨x,u⟩=>⟨x,u.keep (k.evo.I b hb0).2⟩) fun ⟨x,u⟩=>.inr ⟨x.elim (fun y=>.inl (As h.size y)) (h.ownNew b),u⟩
 ownNew:=fun b hb=>(k.ownNew b hb).elim (fun y=>.inl (As h.size y)) (h.ownNew b)
 keep0:=fun n h0 hn=>k.keep0 n (An h0 h.evo.n) (h.keep0 n h0 hn)
def q5m{L:List SObj}{x:SObj}(h:H[0]?=some x):(H++L)[0]?=some x:=by rw [Ai (Ag.1 h).1];exact h
variable {n:Nat}
def q3R{h:Nat}{o o':SObj}(ho:H[h]?=some o)(hl:o.live=true)(hm:H[0]?=some (.mark n)):(H.set h o')[0]?=some (.mark n):=by
 by_cases e:h=0
 . subst e;rw [hm] at ho;cases ho;simp [SObj.live] at hl
 rw [Aq e];exact hm

inductive Out where
 |ret (v:SV)
 |pan (v:SV)

def outDen(C:Cx):Out->Ending->Prop
 |.ret s,e=>∃v,e= .returned v∧s.den C v
 |.pan s,e=>∃v,e= .panicked [{v,recovered:=false}]∧s.den C v

def tabList:List (Nat×List Value):=[]
def TabB(C:Cx)(H:List SObj)(e:Nat×List Value):Prop:=(e.1<C.w.heap.size∧¬OwnB C H e.1)∧∃ (T:TypeId) (fz:Nat×Nat),C.w.heap[e.1]?=some (.cells e.2.toArray T fz)
def dat_sha_start:List Int:=[1779033703,3144134277,1013904242,2773480762,1359893119,2600822924,528734635,1541459225]
def dat_sha_constants:List Int:=[1116352408,1899447441,3049323471,3921009573,961987163,1508970993,2453635748,2870763221,3624381080,310598401,607225278,1426881987,1925078388,2162078206,2614888103,3248222580,3835390401,4022224774,264347078,604807628,770255983,1249150122,1555081692,1996064986,2554220882,2821834349,2952996808,3210313671,3336571891,3584528711,113926993,338241895,666307205,773529912,1294757372,1396182291,1695183700,1986661051,2177026350,2456956037,2730485921,2820302411,3259730800,3345764771,3516065817,3600352804,4094571909,275423344,430227734,506948616,659060556,883997877,958139571,1322822218,1537002063,1747873779,1955562222,2024104815,2227730452,2361852424,2428436474,2756734187,3204031479,3329325298]
def dat_ref04_constants:List Int:=[1116352408,1899447441,3049323471,3921009573,961987163,1508970993,2453635748,2870763221,3624381080,310598401,607225278,1426881987,1925078388,2162078206,2614888103,3248222580,3835390401,4022224774,264347078,604807628,770255983,1249150122,1555081692,1996064986,2554220882,2821834349,2952996808,3210313671,3336571891,3584528711,113926993,338241895,666307205,773529912,1294757372,1396182291,1695183700,1986661051,2177026350,2456956037,2730485921,2820302411,3259730800,3345764771,3516065817,3600352804,4094571909,275423344,430227734,506948616,659060556,883997877,958139571,1322822218,1537002063,1747873779,1955562222,2024104815,2227730452,2361852424,2428436474,2756734187,3204031479,3329325298]
def dat_ref06_substitutes:List UInt8:=[99,124,119,123,242,107,111,197,48,1,103,43,254,215,171,118,202,130,201,125,250,89,71,240,173,212,162,175,156,164,114,192,183,253,147,38,54,63,247,204,52,165,229,241,113,216,49,21,4,199,35,195,24,150,5,154,7,18,128,226,235,39,178,117,9,131,44,26,27,110,90,160,82,59,214,179,41,227,47,132,83,209,0,237,32,252,177,91,106,203,190,57,74,76,88,207,208,239,170,251,67,77,51,133,69,249,2,127,80,60,159,168,81,163,64,143,146,157,56,245,188,182,218,33,16,255,243,210,205,12,19,236,95,151,68,23,196,167,126,61,100,93,25,115,96,129,79,220,34,42,144,136,70,238,184,20,222,94,11,219,224,50,58,10,73,6,36,92,194,211,172,98,145,149,228,121,231,200,55,109,141,213,78,169,108,86,244,234,101,122,174,8,186,120,37,46,28,166,180,198,232,221,116,31,75,189,139,138,112,62,181,102,72,3,246,14,97,53,87,185,134,193,29,158,225,248,152,17,105,217,142,148,155,30,135,233,206,85,40,223,140,161,137,13,191,230,66,104,65,153,45,15,176,84,187,22]
def datList:List (Nat×Sigma Ty.den):=[(5,⟨.arr 8 (.int .u32),dat_sha_start⟩),(6,⟨.arr 64 (.int .u32),dat_sha_constants⟩)]
def TabD(C:Cx)(H:List SObj)(e:Nat×Sigma Ty.den):Prop:=(e.1<C.w.heap.size∧¬OwnB C H e.1)∧Lies C.I C.w e.1 0 e.2.1 e.2.2
def TBlk(b:Nat):Prop:=(∃e∈tabList,e.1=b)∨∃e∈datList,e.1=b
structure TabT (C:Cx) (H:List SObj):Prop where
 tab:∀e∈tabList,TabB C H e
 dat:∀e∈datList,TabD C H e
def TabT.keep{C C':Cx}{H H':List SObj}(h:TabT C H)(hk:Keeps C.I C'.I C.w C'.w)(hn:∀b,TBlk b->b<C.w.heap.size->¬OwnB C H b->b<C'.w.heap.size∧¬OwnB C' H' b∧C'.w.heap[b]?=C.w.heap[b]?):TabT C' H' where
 tab:=fun e he=>by obtain ⟨h1,T,fz,h2⟩:=h.tab e he;obtain ⟨g1,g2,g3⟩:=hn _ (.inl ⟨e,he,rfl⟩) h1.1 h1.2;exact ⟨⟨g1,g2⟩,T,fz,g3.trans h2⟩
 dat:=fun e he=>by obtain ⟨h1,us,h2,h3⟩:=h.dat e he;obtain ⟨g1,g2,g3⟩:=hn _ (.inr ⟨e,he,rfl⟩) h1.1 h1.2;exact ⟨⟨g1,g2⟩,us,Ty.rel_keep hk _ _ _ h2,fun j u hu=>by rw [<-h3 j u hu];exact World.cell?_of_block g3⟩
theorem TabT.next{C C':Cx}{H H':List SObj}(h:TabT C H)(e:Ext ⟨C,H⟩ C' H'):TabT C' H':=
 h.keep e.evo.I fun b _ hb ho=>⟨An hb e.size,fun x=>(e.ownNew b x).elim (fun g=>absurd hb (AT.2 g)) ho,e.frame b hb ho⟩
def TabT.sub{C C':Cx}{H H':List SObj}(h:TabT C H)(e:C'.w=C.w)(hi:∀b,C.I b->C'.I b)(ho:∀b,OwnB C' H' b->OwnB C H b):TabT C' H':=
 h.keep (fun b hb=>⟨hi b hb,by rw [e]⟩) fun b _ hb hb'=>⟨by rw [e];exact hb,fun x=>hb' (ho b x),by rw [e]⟩
def q9b:¬OwnB C [] b:=fun ⟨h,o,ho,_⟩=>by simp at ho
def TabT.nil{C C':Cx}{H:List SObj}(h:TabT C H)(e:C'.w=C.w)(hi:∀b,C.I b->C'.I b):TabT C' []:=h.sub e hi fun _ x=>absurd x q9b
structure TabE (E:En) (C:Cx) (H:List SObj):Prop where
 tab:TabT C H
 old:∀b,TBlk b->b<E.C.w.heap.size
def TabT.lt{C:Cx}{H:List SObj}(h:TabT C H)(b:Nat)(hb:TBlk b):b<C.w.heap.size:=by
 rcases hb with ⟨e,he,rfl⟩ | ⟨e,he,rfl⟩
 . exact (h.tab e he).1.1
 exact (h.dat e he).1.1
def TabT.own{C:Cx}{H:List SObj}(h:TabT C H)(b:Nat)(hb:TBlk b):¬OwnB C H b:=by
 rcases hb with ⟨e,he,rfl⟩ | ⟨e,he,rfl⟩
 . exact (h.tab e he).1.2
 exact (h.dat e he).1.2
def TabT.here{C:Cx}{H:List SObj}(h:TabT C H):TabE ⟨C,H⟩ C H:=⟨h,h.lt⟩
def VCall(P:Program)(f:FuncId)(args:List SV)(H:List SObj)(K:Out->List SObj->Prop):Prop:=
 ∀ (C:Cx) (vs:List Value),Wd C H->TabT C H->SV.denL C args vs->
  Calls P f vs.toArray C.w fun e w'=>∃o H' C',K o H'∧C'.w=w'∧Wd C' H'∧Ext ⟨C,H⟩ C' H'∧outDen C' o e

def VCall.mono{P:Program}{f:FuncId}{args:List SV}{H:List SObj}{K K':Out->List SObj->Prop}(h:VCall P f args H K)(hk:∀o H',K o H'->K' o H'):VCall P f args H K':=
 fun C vs hw ht hv=>(h C vs hw ht hv).mono fun _ _ ⟨o,H',C',k,r⟩=>⟨o,H',C',hk _ _ k,r⟩

def Wd.nil{C:Cx}{H:List SObj}(h:Wd C H):Wd {C with n:=0} [] where
 n:=rfl
 obj:=fun h o ho=>by simp at ho
 own:=fun b ⟨h,o,ho,_⟩=>by simp at ho
 inj:=fun h h' o o' b ho=>by simp at ho
 imm:=h.imm

/- Values that name no handle. -/
mutual
def SV.clean:SV->Bool
 |.any|.raw _|.isl _ _|.fsl _ _|.iptr _ _ _|.imap _ _ _|.dat _ _=>true
 |.ptr .. |.rptr .. |.bld .. |.osl .. |.csl .. |.mp _=>false
 |.agg l=>SV.cleanL l
 |.tup l=>SV.cleanL l
 |.fn _ a b=>SV.cleanL a&& SV.cleanL b
 |.iface _ x=>SV.clean x
def SV.cleanL:List SV->Bool
 | []=>true
 |s :: l=>SV.clean s&& SV.cleanL l
end

mutual
theorem q0F{C C':Cx}(hI:Keeps C.I C'.I C.w C'.w):∀ {s:SV} {v:Value},s.clean=true->s.den C v->s.den C' v
 |.any,_,_,_=>by rw [SV.den];trivial
 |.raw u,v,_,h=>by rw [SV.den] at h⊢;exact h
 |.isl t xs,v,_,h=>by rw [SV.den] at h⊢;exact Ty.rel_keep hI _ _ _ h
 |.fsl t xs,v,_,h=>by rw [SV.den] at h⊢;exact ⟨Ty.rel_keep hI _ _ _ h.1,h.2⟩
 |.iptr t x k,v,_,h=>by rw [SV.den] at h⊢;obtain ⟨b,off,vs,rfl,hb,hr,hc⟩:=h;exact ⟨b,off,vs,rfl,(hI b hb).1,Ty.rel_keep hI _ _ _ hr,fun j u hu=>by rw [<-hc j u hu];exact World.cell?_of_block (hI b hb).2⟩
 |.ptr ..,_,h,_=>by simp [SV.clean] at h
 |.rptr ..,_,h,_=>by simp [SV.clean] at h
 |.bld ..,_,h,_=>by simp [SV.clean] at h
 |.osl ..,_,h,_=>by simp [SV.clean] at h
 |.csl ..,_,h,_=>by simp [SV.clean] at h
 |.dat t x,v,_,d=>by rw [SV.den] at d⊢;obtain ⟨vs,hv,hr⟩:=d;exact ⟨vs,hv,Ty.rel_keep hI _ _ _ hr⟩
 |.mp _,_,h,_=>by simp [SV.clean] at h
 |.imap kk ks vs,v,_,d=>by rw [SV.den] at d⊢;obtain ⟨b,hv,hb,hm⟩:=d;exact ⟨b,hv,(hI b hb).1,q5s hm (hI b hb).2⟩
 |.agg l,v,h,d=>by rw [SV.den] at d⊢;obtain ⟨vs,hv,hl⟩:=d;exact ⟨vs,hv,q1p hI (by simpa [SV.clean] using h) hl⟩
 |.tup l,v,h,d=>by rw [SV.den] at d⊢;obtain ⟨vs,hv,hl⟩:=d;exact ⟨vs,hv,q1p hI (by simpa [SV.clean] using h) hl⟩
 |.fn f l1 l2,v,h,d=>by rw [SV.den] at d⊢;obtain ⟨v1,v2,hv,h1,h2⟩:=d;simp [SV.clean] at h;exact ⟨v1,v2,hv,q1p hI h.1 h1,q1p hI h.2 h2⟩
 |.iface T x,v,h,d=>by rw [SV.den] at d⊢;obtain ⟨u,hv,h1⟩:=d;exact ⟨u,hv,q0F hI (by simpa [SV.clean] using h) h1⟩
theorem q1p{C C':Cx}(hI:Keeps C.I C'.I C.w C'.w):∀ {l:List SV} {vs:List Value},SV.cleanL l=true->SV.denL C l vs->SV.denL C' l vs
 | [],_,_,h=>by rw [SV.denL] at h⊢;exact h
 |s :: l,_,hc,h=>by rw [SV.denL] at h⊢;obtain ⟨v,us,rfl,h1,h2⟩:=h;simp [SV.cleanL] at hc;exact ⟨v,us,rfl,q0F hI hc.1 h1,q1p hI hc.2 h2⟩
end

def q0E{C':Cx}(hI:Keeps C.I C'.I C.w C'.w)(h:Nat)(hr:C'.ρ h=C.ρ h)(hb:∀b,C.ρ h=some b->C'.w.heap[b]?=C.w.heap[b]?)(e:∀ {l:List SV} {vs:List Value},SV.denL C l vs->SV.denL C' l vs):
 ∀ {o:SObj},objDen C h o->objDen C' h o
 |.dead,_=>trivial
 |.cells T cs,⟨b,vs,h1,h2,h3⟩=>⟨b,vs,hr.trans h1,(hb b h1).trans h2,e h3⟩
 |.row t xs,d=>by
  rcases d with ⟨h1,h2⟩ | ⟨b,arr,T,fz,h1,h2,h3,h4,h5⟩
  . exact .inl ⟨hr.trans h1,h2⟩
  refine .inr ⟨b,arr,T,fz,hr.trans h1,(hb b h1).trans h2,h3,h4,fun i x hx=> ?_⟩;obtain ⟨us,hu,hc⟩:=h5 i x hx;exact ⟨us,Ty.rel_keep hI _ _ _ hu,fun k u hk=>by rw [<-hc k u hk];exact World.cell?_of_block (hb b h1)⟩
 |.map kk ks vs,⟨b,us,h1,h2,h3⟩=>⟨b,us,hr.trans h1,q5s h2 (hb b h1),e h3⟩
 |.mark _,_=>trivial

variable {P:Program}{f:FuncId}
def z2D{us:Array Value}{r:SV}{K:Out->List SObj->Prop}(hr:r.clean=true)(hw:Wd C H)
 (h:Calls P f us C.w fun e w'=>∃o H' C',o= .ret r∧C'.w=w'∧Wd C' H'∧Ext ⟨{C with n:=0},[]⟩ C' H'∧outDen C' o e)(hk:K (.ret r) H):
 Calls P f us C.w fun e w'=>∃o H' C',K o H'∧C'.w=w'∧Wd C' H'∧Ext ⟨C,H⟩ C' H'∧outDen C' o e:=by
 refine h.mono ?_;rintro e w' ⟨o,H',C',rfl,rfl,hw',hx,v,rfl,hd⟩;have hold:∀b,b<C.w.heap.size->C'.w.heap[b]?=C.w.heap[b]?:=fun b hb=>hx.frame b hb (fun ⟨h,o,ho,_⟩=>by simp at ho);have hI:Keeps C.I C'.I C.w C'.w:=hx.evo.I
 let D:Cx:={ρ:=C.ρ,n:=C.n,I:=C'.I,w:=C'.w}
 have hsz:∀b m,World.bsize C.w b=some m->World.bsize C'.w b=some m:=hx.evo.sz;have hev:Evo C D:=⟨Af _,fun _ _=>rfl,hI,hsz⟩;have hIn:∀b,C'.I b->b<C.w.heap.size->C.I b:=fun b hb hlt=>by
  rcases hx.immNew b hb with h1| ⟨h1| ⟨h,o,ho,_⟩,_⟩
  . exact h1
  . exact absurd hlt (by have:C.w.heap.size<=b:=h1;omega)
  simp at ho
 refine ⟨.ret r,H,D,hk,rfl,?_,?_,v,rfl,q0F (C:=C') (C':=D) (Keeps.refl _ _) hr hd⟩
 . refine ⟨hw.n,fun h o ho=> ?_,fun b hb=> ?_,hw.inj,hw'.imm⟩
   . have:=hw.obj h o ho;by_cases hl:o.live=true
     . exact q0E (C':=D) hI h rfl (fun b hb=>hold b (hw.own b ⟨h,o,ho,hl,hb⟩).2) (q0h hev) this
     cases o<;>first|trivial|simp [SObj.live] at hl
   obtain ⟨h1,h2⟩:=hw.own b hb;exact ⟨fun hi=>h1 (hIn b hi h2),An h2 hx.size⟩
 refine ⟨hev,hx.size,hx.os,hx.tape,hx.output,fun b hb _=>hold b hb,fun b hb=> ?_,fun b hb=>.inr hb,fun _ _ h=>h⟩;rcases hx.immNew b hb with h1| ⟨h1| ⟨h,o,ho,_⟩,u⟩
 . exact .inl h1
 . exact .inr ⟨.inl h1,u⟩
 simp at ho
def VCall.frame{P:Program}{f:FuncId}{args:List SV}{r:SV}(hc:SV.cleanL args=true)(hr:r.clean=true)(h:VCall P f args [] fun o _=>o= .ret r)(H:List SObj)(K:Out->List SObj->Prop)
 (hk:K (.ret r) H):VCall P f args H K:=by
 intro C vs hw ht hv;exact z2D hr hw (h {C with n:=0} vs hw.nil (ht.nil rfl fun _ h=>h) (q1p (C:=C) (C':={C with n:=0}) (Keeps.refl _ _) hc hv)) hk
section

abbrev Fw(r:Option Nat):Fence:={Fence.wide with round:=r}
def q4U(r:Option Nat)(f:FuncId):(Fw r).fn f:=trivial
def q3Q{r:Option Nat}{args:Array Value}{R:Ending->World->Prop}(h:Calls P f args w R):CallsIn (Fw r) n P f args w R:=
 (callsIn_wide (n:=n)).2 h

def evT(tmps:List SV):Operand->SV
 |.tmp t=>tmps.getD t .any
 |.const v=>.raw v
 |.global g=>.raw (.pointer (some ⟨g,0,none⟩))
 |.func f=>.fn f [] []

variable {tmps:List SV}{a:Act}
theorem q2g(h:SV.denL C tmps a.tmps.toList)(x:Operand):(evT tmps x).den C (a.eval x):=by
 cases x with
 |tmp t=>
  simp only [evT,Act.eval];rcases AI t tmps.length with hl|hl
  . obtain ⟨v,hv,hd⟩:=q1Z h (Ac hl);have e:a.tmps[t]?=some v:=by simpa using hv
    rw [Aa,Ac hl,BR,e];exact hd
  rw [Aa,AW hl];simp [SV.den]
 |const v=>simp [evT,Act.eval,SV.den]
 |global g=>simp [evT,Act.eval,SV.den]
 |func f=>simp only [evT,Act.eval,SV.den,SV.denL];exact ⟨[],[],rfl,rfl,rfl⟩

def putT(tmps:List SV):Option Tmp->SV->List SV
 |some d,s=>tmps.set d s
 |none,_=>tmps

variable {v:Value}
def q9l(h:SV.denL C tmps a.tmps.toList)(d:Option Tmp)(hs:s.den C v):SV.denL C (putT tmps d s) (a.put d v).tmps.toList:=by
 cases d with
 |none=>exact h
 |some d=>simp only [putT,Act.put,Cd];exact q2k h hs

structure EnD extends En where
 base:List Deferred
instance:Coe EnD En:=⟨EnD.toEn⟩
class Ghost where
 inv0:EnD->Cx->List SObj->Prop
 fin:EnD->Cx->List SObj->List Deferred->Prop
 toFin0:∀ {E C H},TabE E.toEn C H->inv0 E C H->fin E C H E.base
 next0:∀ {E C C' H H'},Ext ⟨C,H⟩ C' H'->inv0 E C H->inv0 E C' H'
 same0:∀ {E C C' H H'},Wd C H->C'.w=C.w->(∀b,C.I b->C'.I b)->(∀b,C'.I b->C.I b∨OwnB C H b)->(∀b,OwnB C' H' b->OwnB C H b)->(∀n,0<E.C.n->H[0]?=some (.mark n)->H'[0]?=some (.mark n))->E.C.n<=C'.n->inv0 E C H->inv0 E C' H'
 rd:Option Nat->Prop:=fun _=>True
 rd0:rd none:=by trivial
def Ghost.inv[Ghost](E:EnD)(C:Cx)(H:List SObj):Prop:=TabE E.toEn C H∧Ghost.inv0 E C H
def Ghost.toFin[Ghost]{E:EnD}{C:Cx}{H:List SObj}(h:Ghost.inv E C H):Ghost.fin E C H E.base:=Ghost.toFin0 h.1 h.2
theorem Ghost.next[Ghost]{E:EnD}{C C':Cx}{H H':List SObj}(e:Ext ⟨C,H⟩ C' H')(h:Ghost.inv E C H):Ghost.inv E C' H':=⟨⟨h.1.tab.next e,h.1.old⟩,Ghost.next0 e h.2⟩
def Ghost.same[Ghost]{E:EnD}{C C':Cx}{H H':List SObj}(hw:Wd C H)(e:C'.w=C.w)(hi:∀b,C.I b->C'.I b)(hi':∀b,C'.I b->C.I b∨OwnB C H b)(ho:∀b,OwnB C' H' b->OwnB C H b)(hm:∀n,0<E.C.n->H[0]?=some (.mark n)->H'[0]?=some (.mark n))(hn:E.C.n<=C'.n)(h:Ghost.inv E C H):Ghost.inv E C' H':=
 ⟨⟨h.1.tab.sub e hi ho,h.1.old⟩,Ghost.same0 hw e hi hi' ho hm hn h.2⟩
instance (priority:=low) noGhost:Ghost where
 inv0:=fun _ _ _=>True
 fin:=fun E C H ds=>ds=E.base∧TabE E.toEn C H∧True
 toFin0:=fun ht _=>⟨rfl,ht,trivial⟩
 next0:=fun _ _=>trivial
 same0:=fun _ _ _ _ _ _ _ _=>trivial
variable [Ghost]

structure Stp (E:EnD) (C:Cx) (H:List SObj) (C':Cx) (H':List SObj):Prop where
 evo:Evo C C'
 ext:Ext E C H->Ext E C' H'
 inv:Ghost.inv E C H->Ghost.inv E C' H'
theorem Stp.of{E:EnD}{C C':Cx}{H H':List SObj}(h:Ext ⟨C,H⟩ C' H'):Stp E C H C' H':=⟨h.evo,fun k=>k.trans h,Ghost.next h⟩
def Stp.trans{E:EnD}{A B C:Cx}{H H' H'':List SObj}(h:Stp E A H B H')(k:Stp E B H' C H''):Stp E A H C H'':=⟨h.evo.trans k.evo,fun x=>k.ext (h.ext x),fun x=>k.inv (h.inv x)⟩

def OpV(P:Program)(o:Oper)(ev:Operand->SV)(H:List SObj)(K:Out->List SObj->Prop):Prop:=
 ∀ (E:EnD) (C:Cx) (r:Option Nat) (n:Nat) (a:Act) (next:Act->World->Prop) (Q:Exit->Act->World->Prop),
  Wd C H->Ghost.inv E C H->(∀x∈o.op.operands,(ev x).den C (a.eval x))->
  (∀s v H' C',K (.ret s) H'->Wd C' H'->Stp E C H C' H'->s.den C' v->next (a.put o.dst v) C'.w)->
  (∀s v H' C',K (.pan s) H'->Wd C' H'->Stp E C H C' H'->s.den C' v->Q (.panic [{v,recovered:=false}]) a C'.w)->
  o.wpIn (Fw r) n P a C.w next Q

theorem OpV.mono{P:Program}{o:Oper}{ev:Operand->SV}{H:List SObj}{K K':Out->List SObj->Prop}(h:OpV P o ev H K)(hk:∀o H',K o H'->K' o H'):OpV P o ev H K':=
 fun E C r n a next Q hw hg hv h1 h2=>h E C r n a next Q hw hg hv (fun s v H' C' k=>h1 s v H' C' (hk _ _ k)) (fun s v H' C' k=>h2 s v H' C' (hk _ _ k))

theorem OpV.congr{P:Program}{o:Oper}{ev ev':Operand->SV}{H:List SObj}{K:Out->List SObj->Prop}(h:OpV P o ev H K)(he:∀x∈o.op.operands,ev' x=ev x):OpV P o ev' H K:=
 fun E C r n a next Q hw hg hv h1 h2=>h E C r n a next Q hw hg (fun x hx=>he x hx▸hv x hx) h1 h2

def VCallG(P:Program)(f:FuncId)(args:List SV)(H:List SObj)(K:Out->List SObj->Prop):Prop:=
 ∀ (E:EnD) (C:Cx) (vs:List Value),Wd C H->Ghost.inv E C H->SV.denL C args vs->
  Calls P f vs.toArray C.w fun e w'=>∃o H' C',K o H'∧C'.w=w'∧Wd C' H'∧Stp E C H C' H'∧outDen C' o e
def VCall.g{P:Program}{f:FuncId}{args:List SV}{H:List SObj}{K:Out->List SObj->Prop}(h:VCall P f args H K):VCallG P f args H K:=
 fun _ C vs hw hg hv=>(h C vs hw hg.1.tab hv).mono fun _ _ ⟨o,H',C',k,e,w,x,r⟩=>⟨o,H',C',k,e,w,.of x,r⟩
def VCallG.mono{P:Program}{f:FuncId}{args:List SV}{H:List SObj}{K K':Out->List SObj->Prop}(h:VCallG P f args H K)(hk:∀o H',K o H'->K' o H'):VCallG P f args H K':=
 fun E C vs hw hg hv=>(h E C vs hw hg hv).mono fun _ _ ⟨o,H',C',k,r⟩=>⟨o,H',C',hk _ _ k,r⟩

def OpV.dst{P:Program}{o:Oper}{ev:Operand->SV}{H:List SObj}{K:Out->List SObj->Prop}(h:OpV P o ev H K):OpV P o ev H K:=h

inductive It where
 |code (c:Code)
 |ops (all:Array Oper) (l:List Nat)
 |any (all:Array Oper) (listed:Array Bool) (fuel:Nat) (G:List Nat)
 |blk (id:Nat)
 |stop (Φ:List SV->List SObj->Prop)

structure M where
 k0:Nat
 todo:List It
 tmps:List SV
 heap:List SObj

inductive Ex where
 |normal|ret|exit (id:Nat) |pan (v:SV)

def markD(D:Nat):Deferred:={target:=.collected D,args:= #[]}
abbrev DefOk(E:EnD)(C:Cx)(H:List SObj)(ds:List Deferred):Prop:=ds=E.base∧Ghost.inv E C H
theorem DefOk.next{E:EnD}{C C':Cx}{H H':List SObj}{ds:List Deferred}(e:Ext ⟨C,H⟩ C' H')(h:DefOk E C H ds):DefOk E C' H' ds:=⟨h.1,Ghost.next e h.2⟩
def DefOk.stp{E:EnD}{C C':Cx}{H H':List SObj}{ds:List Deferred}(e:Stp E C H C' H')(h:DefOk E C H ds):DefOk E C' H' ds:=⟨h.1,e.inv h.2⟩
abbrev DefFin(E:EnD)(C:Cx)(H:List SObj)(ds:List Deferred):Prop:=Ghost.fin E C H ds
def DefOk.fin{E:EnD}{C:Cx}{H:List SObj}{ds:List Deferred}(h:DefOk E C H ds):DefFin E C H ds:=by rw [h.1];exact Ghost.toFin h.2

structure DenG (g:EnD->Cx->List SObj->List Deferred->Prop) (E:EnD) (C:Cx) (tmps:List SV) (H:List SObj) (a:Act):Prop where
 wd:Wd C H
 ext:Ext E C H
 defs:g E C H a.defers
 tmps:SV.denL C tmps a.tmps.toList
abbrev Den(E:EnD)(C:Cx)(tmps:List SV)(H:List SObj)(a:Act):Prop:=DenG DefOk E C tmps H a
abbrev DenF(E:EnD)(C:Cx)(tmps:List SV)(H:List SObj)(a:Act):Prop:=DenG Ghost.fin E C tmps H a
def Den.fin{E:EnD}{C:Cx}{tmps:List SV}{H:List SObj}{a:Act}(h:Den E C tmps H a):DenF E C tmps H a:=⟨h.wd,h.ext,DefOk.fin h.defs,h.tmps⟩

def conc(E:EnD)(AQ:Ex->List SV->List SObj->Prop):Exit->Act->World->Prop
 |.normal,a,w=>∃C t H,AQ .normal t H∧C.w=w∧DenF E C t H a
 |.ret,a,w=>∃C t H,AQ .ret t H∧C.w=w∧DenF E C t H a
 |.exit id,a,w=>∃C t H,AQ (.exit id) t H∧C.w=w∧DenF E C t H a
 |.panic ch,a,w=>∃C t H s v,AQ (.pan s) t H∧ch= [{v,recovered:=false}]∧s.den C v∧C.w=w∧Wd C H∧Ext E C H∧DefFin E C H a.defers∧(t= []∨SV.denL C t a.tmps.toList)
 |_,_,_=>False

mutual
def wpT(F:Fence)(n:Nat)(P:Program)(E:EnD)(Q:Exit->Act->World->Prop):List It->Act->World->Prop
 | [],a,w=>Q .normal a w
 |.code c :: k,a,w=>c.wpIn F n P (fun e a w=>match e with
  |.normal=>wpT F n P E Q k a w
  |.exit id=>exitT F n P E Q id k a w
  |e=>Q e a w) a w
 |.ops all l :: k,a,w=>wpOpsIn F n P all (fun e a w=>match e with
  |.normal=>wpT F n P E Q k a w
  |.exit id=>exitT F n P E Q id k a w
  |e=>Q e a w) l a w
 |.any all listed fuel _ :: k,a,w=>wpAnyIn F n P .any all (fun e a w=>match e with
  |.normal=>wpT F n P E Q k a w
  |.exit id=>exitT F n P E Q id k a w
  |e=>Q e a w) fuel listed a w
 |.blk _ :: k,a,w=>wpT F n P E Q k a w
 |.stop Φ :: _,a,w=>∃C t H,Φ t H∧C.w=w∧Den E C t H a
def exitT(F:Fence)(n:Nat)(P:Program)(E:EnD)(Q:Exit->Act->World->Prop)(id:Nat):List It->Act->World->Prop
 | [],a,w=>Q (.exit id) a w
 |.blk id' :: k,a,w=>if id'=id then wpT F n P E Q k a w else exitT F n P E Q id k a w
 |.code _ :: k,a,w=>exitT F n P E Q id k a w
 |.ops _ _ :: k,a,w=>exitT F n P E Q id k a w
 |.any _ _ _ _ :: k,a,w=>exitT F n P E Q id k a w
 |.stop _ :: k,a,w=>exitT F n P E Q id k a w
end

abbrev afterT(F:Fence)(n:Nat)(P:Program)(E:EnD)(Q:Exit->Act->World->Prop)(k:List It):Exit->Act->World->Prop:=fun e a w=>match e with
 |.normal=>wpT F n P E Q k a w
 |.exit id=>exitT F n P E Q id k a w
 |e=>Q e a w

def Fit(E:EnD)(r:Option Nat)(k0:Nat):Prop:=E.C.n<=k0∧Ghost.rd r
def Sound(P:Program)(AQ:Ex->List SV->List SObj->Prop)(m:M):Prop:=
 ∀ (E:EnD) (r:Option Nat) (n:Nat) (C:Cx) (a:Act),Fit E r m.k0->Den E C m.tmps m.heap a->wpT (Fw r) n P E (conc E AQ) m.todo a C.w

variable {P:Program} {AQ:Ex->List SV->List SObj->Prop} {k0:Nat} {k:List It} {t:List SV} {H:List SObj}

def z6p{x y:Code}(h:Sound P AQ ⟨k0,.code x :: .code y :: k,t,H⟩):Sound P AQ ⟨k0,.code (.seq x y) :: k,t,H⟩:=by intro E r n C a h0 hd;have h1:=h E r n C a h0 hd;simp only [wpT] at h1⊢;refine wpIn_seq (wpIn_mono h1 fun e a w hq=> ?_);cases e<;>exact hq

def z5i(h:Sound P AQ ⟨k0,k,t,H⟩):Sound P AQ ⟨k0,.code .skip :: k,t,H⟩:=fun E r n C a h0 hd=>by simp only [wpT];exact wpIn_skip (h E r n C a h0 hd)

theorem z6C(h:AQ .ret t H):Sound P AQ ⟨k0,.code .ret :: k,t,H⟩:=fun E r n C a h0 hd=>by simp only [wpT];exact wpIn_ret ⟨C,t,H,h,rfl,Den.fin hd⟩

theorem z6g(h:AQ .normal t H):Sound P AQ ⟨k0,[],t,H⟩:=fun _ _ _ C _ _ hd=>⟨C,t,H,h,rfl,Den.fin hd⟩

theorem z5t{Φ:List SV->List SObj->Prop}(h:Φ t H):Sound P AQ ⟨k0,.stop Φ :: k,t,H⟩:=fun E r n C a h0 hd=>by simp only [wpT];exact ⟨C,t,H,h,rfl,hd⟩

variable {id:Nat}
def z8h(h:Sound P AQ ⟨k0,k,t,H⟩):Sound P AQ ⟨k0,.blk id :: k,t,H⟩:=fun E r n C a h0 hd=>by simp only [wpT];exact h E r n C a h0 hd

variable {c:Code}
def z1G(h:Sound P AQ ⟨k0,.code c :: .blk id :: k,t,H⟩):Sound P AQ ⟨k0,.code (.block id c) :: k,t,H⟩:=fun E r n C a h0 hd=>by
 have h1:=h E r n C a h0 hd;simp only [wpT] at h1⊢;refine wpIn_block (wpIn_mono h1 fun e a w hq=> ?_);cases e with
 |exit id'=>
  simp only [exitT] at hq;simp only [Exit.inBlock];by_cases hi:id=id'
  . subst hi;simpa using hq
  rw [if_neg hi] at hq;have hi':¬id'=id:=fun e=>hi e.symm;simpa [hi',hi] using hq
 |_=>exact hq

variable {b:Frame}{cs:List Frame}
theorem q0J{k:List Item}:step P (lone (b.atR a (.code (.scope c) :: k)) cs w)= .next (lone (b.atR a (.code c :: .inScope c :: k)) cs w):=
 step_lone_go (by simp [stepG,stepG.exec,Frame.atR])
theorem q3k{k:List Item}:step P (lone (b.atR a (.inScope c :: k)) cs w)= .next (lone (b.atR a k) cs w):=
 step_lone_go (by simp [stepG,stepG.exec,Frame.atR])
variable {F:Fence}{Q:Exit->Act->World->Prop}
def z4I(hQ:∀l a w,¬Q (.goto l) a w)(h:c.wpIn F n P Q a w):(Code.scope c).wpIn F n P Q a w:=by
 intro b k cs hro hb hr;have h0:(lone (b.atR a (.code (.scope c) :: k)) cs w).fenced P F:=fenced_calm hb hr rfl;obtain ⟨e,a₁,w₁,hq,harr⟩:=h b (.inScope c :: k) cs hro hb hr;cases e with
 |normal=>exact ⟨.normal,a₁,w₁,hq,.head h0 q0J (StepsIn.trans harr (.one (fenced_calm hb hr rfl) q3k))⟩
 |exit id'=>
  have hx:exitTo id' (.inScope c :: k)=exitTo id' k:=by simp [exitTo]
  exact ⟨.exit id',a₁,w₁,hq,fun k' hk=>.head h0 q0J (harr.1 k' (by rw [hx];exact hk)),
   fun hr' hk=>let ⟨k₁,h1,h2⟩:=harr.2 hr' (by rw [hx];exact hk);⟨k₁,h1,.head h0 q0J h2⟩⟩
 |goto l=>exact (hQ _ _ _ hq).elim
 |ret=>exact ⟨_,a₁,w₁,hq,.of_steps (.one h0 q0J) harr⟩
 |panic ch=>exact ⟨_,a₁,w₁,hq,.of_steps (.one h0 q0J) harr⟩
 |outgrown=>exact ⟨_,a₁,w₁,hq,.of_steps (.one h0 q0J) harr⟩
def z2A(h:Sound P AQ ⟨k0,.code c :: k,t,H⟩):Sound P AQ ⟨k0,.code (.scope c) :: k,t,H⟩:=fun E r n C a h0 hd=>by have h1:=h E r n C a h0 hd;simp only [wpT] at h1⊢;exact z4I (fun l a w hh=>hh.elim) h1
def z2U{l:Nat}(h:Sound P AQ ⟨k0,k,t,H⟩):Sound P AQ ⟨k0,.code (.label l) :: k,t,H⟩:=fun E r n C a h0 hd=>by simp only [wpT];exact wpIn_label (h E r n C a h0 hd)

def exitTo'(id:Nat):List It->Option (List It)
 | []=>none
 |.blk id' :: k=>if id'=id then some k else exitTo' id k
 |_ :: k=>exitTo' id k

theorem q3t{F:Fence}{n:Nat}{E:EnD}{Q:Exit->Act->World->Prop}{id:Nat}{a:Act}{w:World}{k':List It}:∀ {k:List It},exitTo' id k=some k'->wpT F n P E Q k' a w->exitT F n P E Q id k a w
 | [],h,_=>by simp [exitTo'] at h
 |.blk id' :: k,h,hw=>by
  unfold exitTo' at h;rw [exitT];split at h
  . rw [if_pos (by assumption)];cases h;exact hw
  rw [if_neg (by assumption)];exact q3t h hw
 |.code _ :: k,h,hw=>by rw [exitT];exact q3t h hw
 |.ops _ _ :: k,h,hw=>by rw [exitT];exact q3t h hw
 |.any _ _ _ _ :: k,h,hw=>by rw [exitT];exact q3t h hw
 |.stop _ :: k,h,hw=>by rw [exitT];exact q3t h hw

theorem q2s{F:Fence}{n:Nat}{E:EnD}{Q:Exit->Act->World->Prop}{id:Nat}{a:Act}{w:World}:∀ {k:List It},exitTo' id k=none->Q (.exit id) a w->exitT F n P E Q id k a w
 | [],_,h=>h
 |.blk id' :: k,hk,h=>by
  unfold exitTo' at hk;rw [exitT];split at hk
  . cases hk
  rw [if_neg (by assumption)];exact q2s hk h
 |.code _ :: k,hk,h=>by rw [exitT];exact q2s hk h
 |.ops _ _ :: k,hk,h=>by rw [exitT];exact q2s hk h
 |.any _ _ _ _ :: k,hk,h=>by rw [exitT];exact q2s hk h
 |.stop _ :: k,hk,h=>by rw [exitT];exact q2s hk h
def z5r{k':List It}(hk:exitTo' id k=some k')(h:Sound P AQ ⟨k0,k',t,H⟩):Sound P AQ ⟨k0,.code (.exit id) :: k,t,H⟩:=fun E r n C a h0 hd=>by simp only [wpT];exact wpIn_exit (q3t hk (h E r n C a h0 hd))

def z4F{c:Operand}{x y:Code}{b:Bool}(hc:evT t c= .raw (.bool b))(h1:b=true->Sound P AQ ⟨k0,.code x :: k,t,H⟩)(h2:b=false->Sound P AQ ⟨k0,.code y :: k,t,H⟩):
 Sound P AQ ⟨k0,.code (.cond c x y) :: k,t,H⟩:=fun E r n C a h0 hd=>by
 have he:=q2g hd.tmps c;rw [hc,SV.den] at he;have g1:=fun hb=>h1 hb E r n C a h0 hd;have g2:=fun hb=>h2 hb E r n C a h0 hd;simp only [wpT] at g1 g2⊢;exact wpIn_cond_split he g1 g2

def SV.le:SV->SV->Prop:=fun s s'=>∀C v,s.den C v->s'.den C v
def SV.le_refl(s:SV):SV.le s s:=fun _ _ h=>h
def SV.le_any(s:SV):SV.le s .any:=fun _ _ _=>by rw [SV.den];trivial
def leL:List SV->List SV->Prop
 | [],[]=>True
 |s :: l,s' :: l'=>SV.le s s'∧leL l l'
 |_,_=>False
def q2L{C:Cx}:∀ {l l':List SV} {vs:List Value},leL l l'->SV.denL C l vs->SV.denL C l' vs
 | [],[],_,_,h=>h
 |s :: l,s' :: l',_,hl,h=>by obtain ⟨v,us,rfl,h1,h2⟩:=q0d.1 h;exact q0d.2 ⟨v,us,rfl,hl.1 C v h1,q2L hl.2 h2⟩
 | [],_ :: _,_,hl,_=>hl.elim
 |_ :: _,[],_,hl,_=>hl.elim

def q0R(I:Nat->Act->World->Prop)(n₀:Nat)(h₀:I n₀ a w)
 (round:∀m a w,I m a w->c.wpIn F n P (Exit.then (fun a' w'=>∃m',m'<m∧I m' a' w') Q) a w):(Code.loop c).wpIn F n P Q a w:=by
 refine wpIn_loop (fun a w=>∃m,I m a w) (fun a w=>leastOf (fun m=>I m a w)) ⟨n₀,h₀⟩ ?_;intro a w hI;refine wpIn_mono (round _ a w (leastOf_spec hI).1) ?_;intro e a' w' hq;cases e with
 |normal=>obtain ⟨n',hlt,hI'⟩:=hq;exact show (∃n,I n a' w')∧leastOf (fun n=>I n a' w') <leastOf (fun n=>I n a w) from ⟨⟨n',hI'⟩,Nat.lt_of_le_of_lt ((leastOf_spec ⟨n',hI'⟩).2 n' hI') hlt⟩
 |exit id=>exact hq
 |goto l=>exact hq
 |ret=>exact hq
 |panic ch=>exact hq
 |outgrown=>exact hq

variable {all:Array Oper}
def z1w(h:Sound P AQ ⟨k0,.ops all (List.range all.size) :: k,t,H⟩):Sound P AQ ⟨k0,.code (.region id all false) :: k,t,H⟩:=fun E r n C a h0 hd=>by have h1:=h E r n C a h0 hd;simp only [wpT] at h1⊢;exact wpIn_region h1

def z0i(h:Sound P AQ ⟨k0,k,t,H⟩):Sound P AQ ⟨k0,.ops all [] :: k,t,H⟩:=fun E r n C a h0 hd=>by have h1:=h E r n C a h0 hd;simp only [wpT,wpOpsIn];exact h1

def wantedT(all:Array Oper)(t:List SV)(o:Oper):Option Bool:=
 match o.guard with
 |none=>some true
 |some (j,want)=>match (all[j]?).bind (·.dst) with
  |some d=>match t.getD d .any with
   |.raw (.bool b)=>some (b==want)
   |.raw (.tuple _)=>some false
   |_=>none
  |none=>none

variable {o:Oper}
theorem q2r{b:Bool}(h:SV.denL C t a.tmps.toList)(hw:wantedT all t o=some b):Region.wanted o (yielded all a.tmps)=b:=by
 unfold wantedT at hw;unfold Region.wanted;split at hw
 . rename_i hg;rw [hg];cases hw;rfl
 rename_i j want hg;rw [hg];split at hw
 . rename_i d hdst;split at hw
   . rename_i b' hb;cases hw;have hd:=q2g h (.tmp d);simp only [evT] at hd;rw [hb,SV.den] at hd;have hlt:d<t.length:=by
      rcases AI d t.length with h'|h'
      . exact h'
      rw [Aa,AW h'] at hb;simp at hb
     have hlt':d<a.tmps.size:=by have h2:a.tmps.toList.length=t.length:=q0A h;rw [Au] at h2;rw [h2];exact hlt
     have hv:a.tmps[d]?=some (.bool b'):=by simp only [Act.eval] at hd;rw [BR,BL hlt'] at hd;rw [BL hlt'];simpa using hd
     simp only [yielded,hdst,CZ,hv];cases b'<;>cases want<;>rfl
   . rename_i vs hb;cases hw;have hd:=q2g h (.tmp d);simp only [evT] at hd;rw [hb,SV.den] at hd;simp only [Act.eval] at hd;have hv:∀b,a.tmps[d]?≠some (.bool b):=fun b e=>by rw [BR,e] at hd;cases hd
     simp only [yielded,hdst,CZ];cases want<;>rfl
   cases hw
 cases hw

def q3Z{E:EnD}{C':Cx}{H':List SObj}{d:Option Tmp}(hd:Den E C t H a)(hw:Wd C' H')(hx:Stp E C H C' H')(hs:s.den C' v):Den E C' (putT t d s) H' (a.put d v) where
 wd:=hw
 ext:=hx.ext hd.ext
 defs:=by
  have:(a.put d v).defers=a.defers:=by cases d<;>rfl
  rw [this];exact DefOk.stp hx hd.defs
 tmps:=q9l (q0h hx.evo hd.tmps) d hs

variable {l:List Nat}
def q6I{i:Nat}(ho:all[i]?=some o)(hw:wantedT all t o=some true)
 (h:OpV P o (evT t) H fun
  |.ret s,H'=>Sound P AQ ⟨k0,.ops all l :: k,putT t o.dst s,H'⟩
  |.pan s,H'=>AQ (.pan s) t H'):Sound P AQ ⟨k0,.ops all (i :: l) :: k,t,H⟩:=fun E r n C a h0 hd=>by
 simp only [wpT,wpOpsIn,ho];rw [if_pos (q2r hd.tmps hw)];refine h E C r n a _ _ hd.wd hd.defs.2 (fun x _=>q2g hd.tmps x) ?_ ?_
 . intro s v H' C' hk hw' hx hs;have:=hk E r n C' (a.put o.dst v) h0 (q3Z hd hw' hx hs);simp only [wpT] at this;exact this
 intro s v H' C' hk hw' hx hs;exact ⟨C',t,H',s,v,hk,rfl,hs,rfl,hw',hx.ext hd.ext,(DefOk.stp hx hd.defs).fin,.inr (q0h hx.evo hd.tmps)⟩

def q5p{i:Nat}(ho:all[i]?=some o)(hw:wantedT all t o=some false)
 (h:Sound P AQ ⟨k0,.ops all l :: k,putT t o.dst (.raw (.tuple #[])),H⟩):Sound P AQ ⟨k0,.ops all (i :: l) :: k,t,H⟩:=fun E r n C a h0 hd=>by
 simp only [wpT,wpOpsIn,ho];rw [if_neg (by rw [q2r hd.tmps hw];simp)];refine ⟨fun f _=>q4U r f,?_⟩;have:=h E r n C (a.put o.dst undef) h0 (q3Z hd hd.wd (.of (Ext.refl _ _)) (by rw [SV.den];rfl));simp only [wpT] at this;exact this

end
section

def SameG(G:List Nat)(H H':List SObj):Prop:=∀h∈G,H'[h]?=H[h]?
theorem SameG.refl(G:List Nat)(H:List SObj):SameG G H H:=fun _ _=>rfl
def SameG.trans{G:List Nat}{A B C:List SObj}(h:SameG G A B)(k:SameG G B C):SameG G A C:=fun x hx=>(k x hx).trans (h x hx)

variable [Ghost] {P:Program} {AQ:Ex->List SV->List SObj->Prop} {k0:Nat} {k:List It} {t:List SV} {H:List SObj} {all:Array Oper} {G:List Nat}

def OpStep(P:Program)(AQ:Ex->List SV->List SObj->Prop)(all:Array Oper)(i:Nat)(t:List SV)(H:List SObj)(K:List SV->List SObj->Prop):Prop:=
 ∃o,all[i]?=some o∧((wantedT all t o=some true∧OpV P o (evT t) H fun
  |.ret s,H'=>K (putT t o.dst s) H'
  |.pan s,H'=>AQ (.pan s) [] H')∨
  (wantedT all t o=some false∧K (putT t o.dst (.raw (.tuple #[]))) H))

def OpStep.mono{i:Nat}{K K':List SV->List SObj->Prop}(h:OpStep P AQ all i t H K)(hk:∀t H,K t H->K' t H):OpStep P AQ all i t H K':=by
 obtain ⟨o,ho,h⟩:=h;refine ⟨o,ho,orMap h (fun ⟨h1,h2⟩=>⟨h1,h2.mono fun x H' hx=> ?_⟩) (fun ⟨h1,h2⟩=>⟨h1,hk _ _ h2⟩)⟩;cases x with
 |ret s=>exact hk _ _ hx
 |pan s=>exact hx

def gk(o:Oper):Bool:=match o.op with
 |.store .. =>false
 |.call {callee:=.builtin .append,..}=>false
 |.call {callee:=.builtin .copy,..}=>false
 |.mapUpdate .. =>false
 |.insert .. =>false
 |_=>true
def strictP:List Nat->List Nat
 | []=>[]
 |h :: G=>if h==999999 then G else strictP G
def q2x:∀ {G:List Nat} {h:Nat},h∈strictP G->h∈G
 | [],_,hm=>by simp [strictP] at hm
 |h' :: G,h,hm=>by
  unfold strictP at hm;split at hm
  . exact AM _ hm
  exact AM _ (q2x hm)
def SameG.strict{G:List Nat}{H H':List SObj}(h:SameG G H H'):SameG (strictP G) H H':=fun x hx=>h x (q2x hx)
def gsel(all:Array Oper)(i:Nat)(G:List Nat):List Nat:=match all[i]? with
 |some o=>if gk o then G else strictP G
 |none=>G

def AnyV(P:Program)(AQ:Ex->List SV->List SObj->Prop)(k0:Nat)(k:List It)(all:Array Oper)(G:List Nat):Nat->Array Bool->List SV->List SObj->Prop
 |0,listed,t,H=>Region.ready .any all listed= []∧Sound P AQ ⟨k0,k,t,H⟩
 |fuel+1,listed,t,H=>
  (Region.ready .any all listed= []->Sound P AQ ⟨k0,k,t,H⟩)∧
  ∀i∈Region.ready .any all listed,OpStep P AQ all i t H fun t' H'=>SameG (gsel all i G) H H'∧AnyV P AQ k0 k all G fuel (listed.setIfInBounds i true) t' H'

theorem q5U:∀ (fuel:Nat) (listed:Array Bool) (t:List SV) (H:List SObj),AnyV P AQ k0 k all G fuel listed t H->
 ∀ (E:EnD) (r:Option Nat) (n:Nat) (C:Cx) (a:Act),Fit E r k0->Den E C t H a->wpAnyIn (Fw r) n P .any all (afterT (Fw r) n P E (conc E AQ) k) fuel listed a C.w
 |0,_,_,_,h,E,r,n,C,a,h0,hd=>⟨h.1,h.2 E r n C a h0 hd⟩
 |fuel+1,listed,t,H,h,E,r,n,C,a,h0,hd=>by
  refine ⟨fun h9=>h.1 h9 E r n C a h0 hd,fun i hi=> ?_⟩;obtain ⟨o,ho,h1⟩:=h.2 i hi;unfold wpOpIn;simp only [ho];rcases h1 with ⟨hw,hop⟩ | ⟨hw,hk⟩
  . rw [if_pos (q2r hd.tmps hw)];refine hop E C r n a _ _ hd.wd hd.defs.2 (fun x _=>q2g hd.tmps x) ?_ ?_
    . intro s v H' C' hk hw' hx hs;exact q5U fuel _ _ _ hk.2 E r n C' _ h0 (q3Z hd hw' hx hs)
    intro s v H' C' hk hw' hx hs;exact ⟨C',[],H',s,v,hk,rfl,hs,rfl,hw',hx.ext hd.ext,(DefOk.stp hx hd.defs).fin,.inl rfl⟩
  rw [if_neg (by rw [q2r hd.tmps hw];simp)];exact ⟨fun f _=>q4U r f,q5U fuel _ _ _ hk.2 E r n C _ h0 (q3Z hd hd.wd (.of (Ext.refl _ _)) (by rw [SV.den];rfl))⟩

def Cx.drew(C:Cx):Cx:={C with w:={C.w with drawn:=C.w.drawn+1}}
theorem q2m(C:Cx):Evo C C.drew:=⟨Af _,fun _ _=>rfl,fun _ hb=>⟨hb,rfl⟩,fun _ _ h=>h⟩
def q2A(h:Wd C H):Wd C.drew H:=
 ⟨h.n,fun x o ho=>q0E (C:=C) (C':=C.drew) (fun _ hb=>⟨hb,rfl⟩) x rfl (fun _ _=>rfl) (q0h (q2m C)) (h.obj x o ho),h.own,h.inj,h.imm⟩
def q1H(C:Cx)(H:List SObj):Ext ⟨C,H⟩ C.drew H:=⟨q2m C,Af _,rfl,rfl,rfl,fun _ _ _=>rfl,fun _ h=>.inl h,fun _ h=>.inr h,fun _ _ h=>h⟩

theorem z4N{id:Nat}(G:List Nat)(hm:P.follows .mixedOrders=true)(h:AnyV P AQ k0 k all G all.size (Array.replicate all.size false) t H):Sound P AQ ⟨k0,.code (.region id all true) :: k,t,H⟩:=fun E r n C a h0 hd=>by
 simp only [wpT];have hd':Den E C.drew t H a:=⟨q2A hd.wd,hd.ext.trans (q1H C H),DefOk.next (q1H C H) hd.defs,q0h (q2m C) hd.tmps⟩
 exact wpIn_region_any hm (q5U _ _ _ _ h E r n C.drew a h0 hd')

def PureV(P:Program)(all:Array Oper)(G:List Nat)(o:Oper)(t:List SV)(H:List SObj)(s:SV):Prop:=
 (wantedT all t o=some true∧∀H',SameG G H H'->∀K:Out->List SObj->Prop,K (.ret s) H'->OpV P o (evT t) H' K)∨(wantedT all t o=some false∧s=(.raw (.tuple #[])))

variable {d:Option Tmp}
theorem j2n{x:Operand}(h:∀e,d=some e->x≠ .tmp e):evT (putT t d s) x=evT t x:=by
 cases d with
 |none=>rfl
 |some d=>
  cases x with
  |tmp e=>have hne:d≠e:=fun he=>h d rfl (he▸rfl);simp [evT,putT,Aa,Aq hne]
  |_=>rfl

variable {o:Oper}
theorem z3E(h:∀e,d=some e->e ∉ o.looksAt all):∀x∈o.op.operands,evT (putT t d s) x=evT t x:=fun x hx=>
 j2n fun e he hxe=>h e he (by
  subst hxe
  exact List.mem_append_left _ (List.mem_filterMap.2 ⟨.tmp e,by simpa using hx,rfl⟩))

theorem q7L(h:∀e,d=some e->e ∉ o.looksAt all):wantedT all (putT t d s) o=wantedT all t o:=by
 unfold wantedT;cases hg:o.guard with
 |none=>rfl
 |some g=>
  obtain ⟨j,want⟩:=g;simp only;cases hdst:(all[j]?).bind (·.dst) with
  |none=>rfl
  |some e=>
   simp only
   have hne:∀e',d=some e'->e'≠e:=fun e' he' heq=>h e' he' (by
    unfold Oper.looksAt;refine List.mem_append_right _ ?_;rw [hg];simp only [hdst,Option.toList_some,CN]
    exact heq)
   cases d with
   |none=>rfl
   |some d=>have:=hne d rfl;simp [putT,Aa,Aq this]

def z1f{x y:Option Tmp}(v u:SV)(h:∀d,x=some d->y≠some d):putT (putT t x v) y u=putT (putT t y u) x v:=by
 cases x with
 |none=>rfl
 |some d=>
  cases y with
  |none=>rfl
  |some e=>have hne:d≠e:=fun he=>h d rfl (he▸rfl);simp only [putT];exact List.set_comm _ _ hne

theorem PureV.of_put{oi oj:Oper}{s u:SV}{H':List SObj}(hp:PureV P all G oi t H s)(h3:∀d,oj.dst=some d->d ∉ oi.looksAt all)(hs:SameG G H H'):PureV P all G oi (putT t oj.dst u) H' s:=by unfold PureV at*;rw [q7L h3];exact orMap hp (fun ⟨h1,h2⟩=>⟨h1,fun H'' hs' K hk=>(h2 H'' (hs.trans hs') K hk).congr (z3E h3)⟩) id

def PureV.step{oi:Oper}{i:Nat}{s:SV}{K:List SV->List SObj->Prop}(hi:all[i]?=some oi)(hp:PureV P all G oi t H s)(h:K (putT t oi.dst s) H):OpStep P AQ all i t H K:=by
 refine ⟨oi,hi,?_⟩;rcases hp with ⟨hw,hp⟩ | ⟨hw,rfl⟩
 . exact .inl ⟨hw,hp H (SameG.refl _ _) _ h⟩
 exact .inr ⟨hw,h⟩

def OpStep.comm{oi:Oper}{j:Nat}{s:SV}{G':List Nat}(hap:∀oj,all[j]?=some oj->oi.apart all oj=true)(hsub:∀H H',SameG (gsel all j G) H H'->SameG G' H H')(hp:PureV P all G' oi t H s){K:List SV->List SObj->Prop}
 (h:OpStep P AQ all j (putT t oi.dst s) H fun t' H'=>SameG (gsel all j G) H H'∧K t' H'):
 OpStep P AQ all j t H fun t' H'=>SameG (gsel all j G) H H'∧PureV P all G' oi t' H' s∧K (putT t' oi.dst s) H':=by
 obtain ⟨oj,hoj,h⟩:=h;obtain ⟨h1,h2,h3⟩:=Oper.apart_spec (hap oj hoj);refine ⟨oj,hoj,?_⟩;rw [q7L h1] at h;rcases h with ⟨hw,hop⟩ | ⟨hw,hs,hk⟩
 . refine .inl ⟨hw,(hop.congr (fun x hx=>(z3E h1 x hx).symm)).mono fun x H' hx=> ?_⟩;cases x with
   |ret u=>exact ⟨hx.1,hp.of_put h3 (hsub _ _ hx.1),by rw [<-z1f s u h2];exact hx.2⟩
   |pan u=>exact hx
 exact .inr ⟨hw,hs,hp.of_put h3 (hsub _ _ hs),by rw [<-z1f s (.raw (.tuple #[])) h2];exact hk⟩

def reaches(all:Array Oper):Nat->Nat->Nat->Bool
 |0,_,_=>false
 |n+1,j,i=>match all[j]? with
  |some o=>o.after.toList.any fun e=>Region.binds .any e&& (e.on==i||reaches all n e.on i)
  |none=>false
def Closed(all:Array Oper)(listed:Array Bool):Prop:=∀m o,all[m]?=some o->listed.getD m false=true->∀e∈o.after,Region.binds .any e=true->listed.getD e.on false=true
def q8u{listed:Array Bool}{i:Nat}(hc:Closed all listed)(hi:listed.getD i false=false):∀ (n m:Nat),listed.getD m false=true->reaches all n m i=false
 |0,_,_=>rfl
 |n+1,m,hm=>by
  unfold reaches;cases ho:all[m]? with
  |none=>rfl
  |some o=>
   simp only;rw [List.any_eq_false];intro e he hb;simp only [Am,B4,beq_iff_eq] at hb;have hl:=hc m o ho hm e (by simpa using he) hb.1;rcases hb.2 with h1|h1
   . rw [h1,hi] at hl;cases hl
   rw [q8u hc hi n e.on hl] at h1;cases h1
variable {listed:Array Bool}{i:Nat}
def q9B{j:Nat}{oj:Oper}(hc:Closed all listed)(hi:listed.getD i false=false)(hoj:all[j]?=some oj)(hall:∀e∈oj.after,Region.binds .any e=true->listed.getD e.on false=true)(n:Nat):reaches all n j i=false:=by
 cases n with
 |zero=>rfl
 |succ n=>
  unfold reaches;rw [hoj];simp only;rw [List.any_eq_false];intro e he hb;simp only [Am,B4,beq_iff_eq] at hb;have hl:=hall e (by simpa using he) hb.1;rcases hb.2 with h1|h1
  . rw [h1,hi] at hl;cases hl
  rw [q8u hc hi n e.on hl] at h1;cases h1
def Closed.set{listed:Array Bool}{j:Nat}{oj:Oper}(hc:Closed all listed)(hoj:all[j]?=some oj)(hall:∀e∈oj.after,Region.binds .any e=true->listed.getD e.on false=true):Closed all (listed.setIfInBounds j true):=by
 have mono:∀x,listed.getD x false=true->(listed.setIfInBounds j true).getD x false=true:=fun x hx=>by
  by_cases e:j=x
  . subst e;rcases AI j listed.size with h1|h1
    . simp [h1]
    simp [BD h1] at hx
  rw [getD_set_ne false e];exact hx
 intro m o ho hm e he hb;by_cases hmj:j=m
 . subst hmj;rw [hoj] at ho;cases ho;exact mono _ (hall e he hb)
 rw [getD_set_ne false hmj] at hm;exact mono _ (hc m o ho hm e he hb)

variable {oi:Oper}
def q5F{N:Nat}{G':List Nat}(hi:all[i]?=some oi):
 ∀ (fuel:Nat) (listed:Array Bool) (t:List SV) (H:List SObj),
  (∀j oj,all[j]?=some oj->j≠i->listed.getD j true=false->(∀e∈oj.after,Region.binds .any e=true->e.on≠i)->oi.apart all oj=true∧(reaches all N j i=false->∀H H',SameG (gsel all j G) H H'->SameG G' H H'))->(Closed all listed∨G'= [])->
  i∈Region.ready .any all listed->PureV P all G' oi t H s->
  AnyV P AQ k0 k all G fuel (listed.setIfInBounds i true) (putT t oi.dst s) H->AnyV P AQ k0 k all G (fuel+1) listed t H:=by
 intro fuel;induction fuel with
 |zero=>
  intro listed t H _ _ hr hp h;refine ⟨fun h0=>(by rw [h0] at hr;cases hr),fun j hj=> ?_⟩;by_cases hji:j=i
  . subst hji;exact hp.step hi ⟨SameG.refl _ _,h⟩
  have:=ready_mono hj hji;rw [h.1] at this;cases this
 |succ fuel ih=>
  intro listed t H hfree hcl hr hp h;refine ⟨fun h0=>(by rw [h0] at hr;cases hr),fun j hj=> ?_⟩;by_cases hji:j=i
  . subst hji;exact hp.step hi ⟨SameG.refl _ _,h⟩
  have h1:=h.2 j (ready_mono hj hji);obtain ⟨hjun,oj,hoj,hall⟩:=mem_ready.1 hj;have hnot:∀e∈oj.after,Region.binds .any e=true->e.on≠i:=fun e he hb heq=>by
   have h1:=hall e he hb;have h0:=(mem_ready.1 hr).1;rw [heq] at h1;rcases AI i listed.size with h'|h'
   . simp [h'] at h0 h1;rw [h0] at h1;cases h1
   simp [BD h'] at h1
  have hap:∀oj',all[j]?=some oj'->oi.apart all oj'=true:=fun oj' hoj'=>by rw [hoj] at hoj';cases hoj';exact (hfree j oj hoj hji hjun hnot).1
  have hiu:listed.getD i false=false:=by
   have h0:=(mem_ready.1 hr).1;rcases AI i listed.size with h'|h'
   . simp [h'] at h0⊢;exact h0
   simp [BD h']
  have hsub:∀H H',SameG (gsel all j G) H H'->SameG G' H H':=by
   rcases hcl with hcl|rfl
   . exact (hfree j oj hoj hji hjun hnot).2 (q9B hcl hiu hoj (fun e he hb=>by have:=hall e he hb;simpa using this) N)
   exact fun _ _ _ _ hh=>by cases hh
  have h2:=OpStep.comm hap hsub hp h1;have hfree':∀k ok,all[k]?=some ok->k≠i->(listed.setIfInBounds j true).getD k true=false->
   (∀e∈ok.after,Region.binds .any e=true->e.on≠i)->oi.apart all ok=true∧(reaches all N k i=false->∀H H',SameG (gsel all k G) H H'->SameG G' H H'):=fun k ok hk hki hun hno=>by
   refine hfree k ok hk hki ?_ hno;by_cases hjk:j=k
   . subst hjk;exact hjun
   rw [getD_set_ne true hjk] at hun;exact hun
  refine h2.mono fun t' H' h3=>⟨h3.1,ih (listed.setIfInBounds j true) t' H' hfree' (orMap hcl (fun hc=>hc.set hoj (fun e he hb=>by have:=hall e he hb;simpa using this)) id) (ready_mono hr (Ne.symm hji)) h3.2.1 ?_⟩
  rw [Array.setIfInBounds_comm _ _ hji];exact h3.2.2

variable {fuel:Nat}
theorem q3C(hB:((Region.ready .any all listed).contains i&& Region.free .any all listed i)=true)(hi:all[i]?=some oi)
 (hp:PureV P all [] oi t H s)(h:AnyV P AQ k0 k all G fuel (listed.setIfInBounds i true) (putT t oi.dst s) H):AnyV P AQ k0 k all G (fuel+1) listed t H:=by
 rw [Am] at hB;exact q5F (N:=0) (G':=[]) hi fuel listed t H (fun j oj h1 h2 h3 h4=>⟨Region.free_spec hi hB.2 j oj h1 h2 h3 h4,fun _ _ _ _ _ hh=>by cases hh⟩) (.inr rfl) (by simpa using hB.1) hp h

def closedB(all:Array Oper)(listed:Array Bool):Bool:=
 (List.range all.size).all fun m=> !listed.getD m false||match all[m]? with
  |some o=>o.after.toList.all fun e=> !Region.binds .any e||listed.getD e.on false
  |none=>true
def q8n(h:closedB all listed=true):Closed all listed:=by intro m o ho hm e he hb;simp only [closedB,Bb,BE] at h;have h1:=h m (AE.1 ho).1;simp only [hm,CD,Bool.false_or,ho,Bb] at h1;have h2:=h1 e (by simpa using he);simpa [hb] using h2
def ldFree(all:Array Oper)(listed:Array Bool)(i:Nat):Bool:=
 closedB all listed&& (List.range all.size).all fun j=>j==i||listed.getD j true||match all[j]? with
  |some oj=>reaches all all.size j i||gk oj
  |none=>true
def z2h(h:ldFree all listed i=true)(j:Nat)(oj:Oper)(hj:all[j]?=some oj)(hne:j≠i)(hun:listed.getD j true=false)(hno:reaches all all.size j i=false):gsel all j G=G:=by simp only [ldFree,Am,Bb,BE] at h;have h1:=h.2 j (AE.1 hj).1;simp only [hj,B4,beq_iff_eq,hne,false_or,hun,AY,hno] at h1;simp [gsel,hj,h1]

def z4Z(hB:((Region.ready .any all listed).contains i&& Region.free .any all listed i)=true)(hL:ldFree all listed i=true)(hi:all[i]?=some oi)
 (hp:PureV P all G oi t H s)(h:AnyV P AQ k0 k all G fuel (listed.setIfInBounds i true) (putT t oi.dst s) H):AnyV P AQ k0 k all G (fuel+1) listed t H:=by
 rw [Am] at hB;exact q5F (N:=all.size) (G':=G) hi fuel listed t H (fun j oj h1 h2 h3 h4=>⟨Region.free_spec hi hB.2 j oj h1 h2 h3 h4,fun hno _ _ hs=>by rwa [z2h hL j oj h1 h2 h3 hno] at hs⟩) (.inl (q8n (by simp only [ldFree,Am] at hL;exact hL.1))) (by simpa using hB.1) hp h

def q8I(hB:((Region.ready .any all listed).contains i&& Region.free .any all listed i)=true)(hcl:closedB all listed=true)(hi:all[i]?=some oi)
 (hp:PureV P all (strictP G) oi t H s)(h:AnyV P AQ k0 k all G fuel (listed.setIfInBounds i true) (putT t oi.dst s) H):AnyV P AQ k0 k all G (fuel+1) listed t H:=by
 rw [Am] at hB
 exact q5F (N:=0) (G':=strictP G) hi fuel listed t H (fun j oj h1 h2 h3 h4=>⟨Region.free_spec hi hB.2 j oj h1 h2 h3 h4,fun _ _ _ hs=>by
  unfold gsel at hs;rw [h1] at hs;simp only at hs;split at hs
  . exact hs.strict
  exact hs⟩) (.inl (q8n hcl)) (by simpa using hB.1) hp h

def j2M(hB:(Region.ready .any all listed== [i])=true)(ho:all[i]?=some o)(hw:wantedT all t o=some true)
 (h:OpV P o (evT t) H fun
  |.ret s,H'=>SameG (gsel all i G) H H'∧AnyV P AQ k0 k all G fuel (listed.setIfInBounds i true) (putT t o.dst s) H'
  |.pan s,H'=>AQ (.pan s) [] H'):AnyV P AQ k0 k all G (fuel+1) listed t H:=by
 have hB':Region.ready .any all listed= [i]:=by simpa using hB
 refine ⟨fun h0=>(by rw [hB'] at h0;cases h0),fun j hj=> ?_⟩;rw [hB'] at hj;obtain rfl:j=i:=by simpa using hj
 exact ⟨o,ho,.inl ⟨hw,h⟩⟩

theorem j0u(hB:((Region.ready .any all listed).contains i&& Region.free .any all listed i)=true)(ho:all[i]?=some o)(hw:wantedT all t o=some false)
 (h:AnyV P AQ k0 k all G fuel (listed.setIfInBounds i true) (putT t o.dst (.raw (.tuple #[]))) H):AnyV P AQ k0 k all G (fuel+1) listed t H:=
 q3C hB ho (.inr ⟨hw,rfl⟩) h

def any_nil(hB:(Region.ready .any all listed).isEmpty=true)(h:Sound P AQ ⟨k0,k,t,H⟩):AnyV P AQ k0 k all G fuel listed t H:=by
 have hB':Region.ready .any all listed= []:=by simpa using hB
 cases fuel with
 |zero=>exact ⟨hB',h⟩
 |succ fuel=>exact ⟨fun _=>h,fun i hi=>by rw [hB'] at hi;cases hi⟩
end
end Go.Sx