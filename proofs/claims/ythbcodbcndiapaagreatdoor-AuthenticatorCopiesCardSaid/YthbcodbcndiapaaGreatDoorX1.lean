/- A part of the proof: a symbolic executor over abstract values, and its soundness. -/
import Derived.WalkKit
import Derived.CallsIn
import Derived.OrdersIn
import Derived.Deep.LoopGhost
import Derived.RangeFuncLeaves
import Derived.BigFrameIn
import Derived.Laws.IdiomCopy
import Derived.Laws.Cells
import Derived.Laws.BytesString
set_option linter.all false
namespace Go.Sx
open Go
def orMap{a b c d:Prop}(h:a\/b)(f:a->c)(g:b->d):c\/d:=h.elim (λx=>.inl (f x)) (λx=>.inr (g x))
def Aa:= @List.take_of_length_le
def Ab:= @List.length_append
def Ac:= @Nat.le_refl
def Ad:= @List.append_nil
def Ae:= @List.getD_eq_getElem?_getD
def Af:= @List.getElem?_eq_getElem
def Ag:= @Nat.zero_add
def Ah:= @List.length_drop
def Ai:= @Nat.zero_le
def Aj:= @Nat.lt_of_lt_of_le
def Ak:= @Bool.and_eq_true
def Al:= @Option.map_eq_some_iff
def Am:= @List.getElem?_eq_some_iff
def An:= @List.length_take
def Ao:= @Nat.le_trans
def Ap:= @List.drop_zero
def Aq:= @List.ext_getElem
def Ar:= @List.nil_append
def As:= @List.getElem?_append_left
def Au:= @Nat.add_assoc
def Av:= @Int.toNat_natCast
def Aw:= @List.take_length
def Ax:= @Array.getElem?_eq_some_iff
def Ay:= @List.cons_append
def Az:= @List.map_cons
def AA:= @List.take_append_drop
def AB:= @List.length_cons
def AC:= @Nat.not_lt
def AD:= @List.getElem_range
def AE:= @List.ext_getElem?
def AF:= @List.getElem?_map
def AG:= @Nat.add_zero
def AH:= @List.mem_cons_of_mem
def AI:= @List.getElem?_append_right
def AJ:= @List.getElem?_set_ne
def AK:= @BitVec.ofInt_natCast
def AL:= @Option.bind_eq_some_iff
def AM:= @List.getElem_map
def AN:= @UInt8.ofNat_toNat
def AO:= @Nat.mul_one
def AP:= @Nat.mod_eq_of_lt
def AR:= @BitVec.toNat_ofNat
def AS:= @Bool.false_eq_true
def AT:= @List.getElem_of_mem
def AU:= @List.drop_eq_nil_of_le
def AV:= @Array.eq_empty_of_size_eq_zero
def AW:= @List.drop_drop
def AX:= @Nat.mul_le_mul_right
def AY:= @List.set_cons_succ
def AZ:= @UInt8.toNat_ofNat'
def A0:= @List.set_cons_zero
def A3:= @List.length_map
def A4:= @List.getElem_set
def A6:= @List.flatten_cons
def A8:= @Nat.lt_or_ge
def A9:= @List.length_set
def Ba:= @List.mem_cons
def Bb:= @List.foldl_cons
def Bc:= @List.length_eq_one_iff
def Bd:= @List.getElem?_set_self
def Be:= @Array.length_toList
def Bf:= @List.toList_toArray
def Bg:= @List.getD_cons_succ
def Bh:= @List.getElem_append_left
def Bi:= @List.mem_cons_self
def Bj:= @List.all_eq_true
def Bk:= @Nat.pow_le_pow_right
def Bl:= @List.getElem_mem
def Bm:= @List.getD_cons_zero
def Bn:= @List.map_append
def Bo:= @List.getElem_append_right
def Bp:= @List.getElem?_drop
def Bq:= @Option.getD_some
def Br:= @Nat.add_comm
def Bs:= @List.eq_nil_of_length_eq_zero
def Bt:= @List.drop_take
def Bu:= @List.drop_append_of_le_length
def Bv:= @List.take_append_of_le_length
def Bw:= @UInt8.xor_zero
def Bx:= @UInt8.zero_xor
def By:= @List.length_eq_zero_iff
def Bz:= @Bool.eq_iff_iff
def BA:= @List.nodup_cons
def BB:= @UInt8.toNat_inj
def BC:= @List.flatten_append
def BD:= @List.map_map
def BE:= @List.all_cons
def BF:= @Nat.lt_irrefl
def BG:= @List.length_replicate
def BH:= @Array.getElem?_eq_getElem
def BI:= @List.range_succ
def BJ:= @UInt8.xor_assoc
def BK:= @List.drop_left'
def BL:= @List.mem_of_getElem?
def BM:= @List.map_congr_left
def BN:= @List.mem_range
def BO:= @List.drop_append
def BP:= @Nat.mul_div_cancel_left
def BQ:= @List.take_left
def BR:= @List.range_succ_eq_map
def BS:= @List.map_nil
def BT:= @Nat.not_lt_zero
def BU:= @Bool.true_and
def BV:= @List.getElem_drop
def BW:= @UInt8.toNat_lt
def BX:= @List.foldl_nil
def BY:= @Int.tmod_eq_emod_of_nonneg
def BZ:= @List.mem_map
def B0:= @Array.mapM_eq_mapM_toList
def B3:= @Bool.or_eq_true_iff
def B4:= @Option.isSome_iff_exists
def B6:= @List.getElem?_take_of_lt
def B8:= @BitVec.toNat_or
def B9:= @List.getElem?_take
def Ca:= @Nat.add_sub_cancel
def Cb:= @List.set_eq_take_append_cons_drop
def Cd:= @Array.toList_replicate
def Ce:= @List.size_toArray
def Cf:= @List.take_zero
def Cg:= @List.length_range
def Ch:= @List.flatten_singleton
def Ci:= @List.drop_of_length_le
def Cj:= @Array.getElem?_toList
def Ck:= @List.take_append
def Cl:= @List.not_mem_nil
def Cm:= @Array.toArray_toList
def Cn:= @Nat.shiftLeft_add_eq_or_of_lt
def Co:= @List.replicate_succ'
def Cp:= @List.mem_append
def Cq:= @Nat.le_add_left
def Cr:= @Nat.min_eq_left
def Cs:= @Array.toList_append
def Ct:= @Nat.zero_mul
def Cu:= @List.all_nil
def Cv:= @Nat.sub_zero
def Cw:= @Nat.two_pow_add_eq_or_of_lt
def Cy:= @List.nodup_nil
def Cz:= @Nat.eq_zero_or_pos
def CA:= @Int.fdiv_eq_ediv_of_nonneg
def CB:= @UInt8.xor_self
def CC:= @Bool.not_false
def CD:= @List.take_take
def CE:= @Bool.false_and
def CF:= @List.mem_or_eq_of_mem_set
def CG:= @List.take_add_one
def CH:= @Nat.pow_add
def CI:= @Bool.and_true
def CJ:= @Bool.not_true
def CK:= @Option.getD_none
def CL:= @Nat.shiftLeft_eq
def CM:= @Int.not_lt
def CN:= @Nat.le_of_eq
def CO:= @Nat.mod_lt
def CP:= @Bool.or_eq_true
def CQ:= @Array.size_push
def CR:= @List.length_nil
def CS:= @Option.map_some
def CT:= @UInt8.toNat_xor
def CU:= @List.take_left'
def CV:= @Nat.le_succ
def CW:= @Bool.and_false
def CX:= @Int.not_le

inductive Ty where
 |u8|int (k:IntKind) |bool|str|slice (t:Ty) |prod (a b:Ty) |unit|arr (n:Nat) (t:Ty) |ptr (t:Ty) |clo (f:Nat) (t:Ty) |clp (f:Nat) (t:Ty) |mbs (t:Ty)
 deriving DecidableEq

@[reducible] def Ty.den:Ty->Type
 |.u8=>UInt8
 |.int _=>Int
 |.bool=>Bool
 |.str=>ByteArray
 |.slice t=>List t.den
 |.prod a b=>a.den×b.den
 |.unit=>Unit
 |.arr _ t=>List t.den
 |.ptr t=>Option t.den
 |.clo _ t=>t.den
 |.clp _ t=>t.den
 |.mbs t=>Value ⊕ List t.den

def Ty.dflt:(t:Ty)->t.den
 |.u8=>(0:UInt8)
 |.int _=>(0:Int)
 |.bool=>false
 |.str=>ByteArray.empty
 |.slice t=>([]:List t.den)
 |.prod a b=>(a.dflt,b.dflt)
 |.unit=>()
 |.arr n t=>List.replicate n t.dflt
 |.ptr _=>none
 |.clo _ t=>t.dflt
 |.clp _ t=>t.dflt
 |.mbs _=>.inl (.slice none 0 0)

def Ty.size:Ty->Nat
 |.prod a b=>a.size+b.size
 |.unit=>0
 |.arr n t=>n*t.size
 |_=>1

def Ty.ok:(t:Ty)->t.den->Prop
 |.u8,_=>True
 |.int _,_=>True
 |.bool,_=>True
 |.str,s=>s.size<=140737488355328
 |.slice t,xs=>xs.length<=1125899906842624/\∀x∈xs,t.ok x
 |.prod a b,x=>a.ok x.1/\b.ok x.2
 |.unit,_=>True
 |.arr n t,xs=>xs.length=n/\∀x∈xs,t.ok x
 |.ptr t,x=>∀y,x=some y->t.ok y
 |.clo _ t,x=>t.ok x
 |.clp _ t,x=>t.ok x
 |.mbs t,x=>∀xs,x= .inr xs->xs.length<=1125899906842624/\∀y∈xs,t.ok y

def Ty.plain:Ty->Bool
 |.arr _ _=>false
 |.prod a b=>a.plain&& b.plain
 |_=>true

def Ty.rel(I:Nat->Prop)(w:World):(t:Ty)->t.den->List Value->Prop
 |.u8,c,vs=>vs= [.int .u8 c.toNat]
 |.int k,n,vs=>vs= [.int k n]
 |.bool,b,vs=>vs= [.bool b]
 |.str,s,vs=>vs= [.string s]/\s.size<=140737488355328
 |.slice t,xs,vs=>∃A n c,vs= [.slice A n c]/\n=xs.length/\n<=c/\n<=1125899906842624/\
  (xs= []\/∃b off,A=some ⟨b,off,none⟩/\I b/\∀i x,xs[i]?=some x->∃us,t.rel I w x us/\∀k u,us[k]?=some u->w.cell? ⟨b,off+i*t.size+k,none⟩=some u)
 |.prod a b,x,vs=>∃v1 v2,vs=v1++v2/\a.rel I w x.1 v1/\b.rel I w x.2 v2
 |.unit,_,vs=>vs= []
 |.arr n t,xs,vs=>xs.length=n/\∃vss:List (List Value),vs=vss.flatten/\vss.length=xs.length/\∀ (i:Nat) x us,xs[i]?=some x->vss[i]?=some us->t.rel I w x us
 |.ptr t,x,vs=>(x=none/\vs= [.pointer none])\/∃y b off us,x=some y/\vs= [.pointer (some ⟨b,off,none⟩)]/\I b/\t.rel I w y us/\∀j u,us[j]?=some u->w.cell? ⟨b,off+j,none⟩=some u
 |.clo f t,x,vs=>∃us,vs= [.func (.func f) #[.agg us.toArray] #[]]/\t.rel I w x us
 |.clp f t,x,vs=>∃b off us,vs= [.func (.func f) #[] #[.pointer (some ⟨b,off,none⟩)]]/\I b/\t.rel I w x us/\∀j u,us[j]?=some u->w.cell? ⟨b,off+j,none⟩=some u
 |.mbs t,o,vs=>∃A n c,vs= [.slice A n c]/\(∀v,o= .inl v->v= .slice A n c)/\∀xs,o= .inr xs->n=xs.length/\n<=c/\n<=1125899906842624/\
  (xs= []\/∃b off,A=some ⟨b,off,none⟩/\I b/\∀i x,xs[i]?=some x->∃us,t.rel I w x us/\∀k u,us[k]?=some u->w.cell? ⟨b,off+i*t.size+k,none⟩=some u)

def Ty.rel_ok{I:Nat->Prop}{w:World}:∀ (t:Ty) (x:t.den) (vs:List Value),t.rel I w x vs->t.ok x
 |.u8,_,_,_=>trivial
 |.int _,_,_,_=>trivial
 |.bool,_,_,_=>trivial
 |.str,_,_,h=>h.2
 |.slice t,xs,vs,h=>by
  obtain ⟨A,n,c,rfl,rfl,_,q,h⟩:=h;refine ⟨q,λx e=> ?_⟩;rcases h with rfl| ⟨b,off,rfl,_,h⟩
  . cases e
  obtain ⟨i,m,rfl⟩:=AT e;obtain ⟨us,j,_⟩:=h i xs[i] (Af m);exact t.rel_ok _ _ j
 |.prod a b,x,vs,h=>by obtain ⟨v1,v2,rfl,D,B⟩:=h;exact ⟨a.rel_ok _ _ D,b.rel_ok _ _ B⟩
 |.unit,_,_,_=>trivial
 |.arr n t,xs,vs,h=>by obtain ⟨q,vss,rfl,hl,h⟩:=h;refine ⟨q,λx e=> ?_⟩;obtain ⟨i,m,rfl⟩:=AT e;exact t.rel_ok _ _ (h i _ vss[i] (Af m) (Af (by omega)))
 |.ptr t,x,vs,h=>by
  intro y u;rcases h with ⟨rfl,_⟩ | ⟨z,b,off,us,rfl,_,_,h,_⟩
  . cases u
  cases u;exact t.rel_ok _ _ h
 |.clo f t,x,vs,h=>by obtain ⟨us,_,j⟩:=h;exact t.rel_ok _ _ j
 |.clp f t,x,vs,h=>by obtain ⟨b,off,us,_,_,j,_⟩:=h;exact t.rel_ok _ _ j
 |.mbs t,o,vs,h=>by
  intro xs e;obtain ⟨A,n,c,rfl,_,h⟩:=h;obtain ⟨rfl,_,q,h⟩:=h xs e;refine ⟨q,λx e=> ?_⟩;rcases h with rfl| ⟨b,off,rfl,_,h⟩
  . cases e
  obtain ⟨i,m,rfl⟩:=AT e;obtain ⟨us,j,_⟩:=h i xs[i] (Af m);exact t.rel_ok _ _ j

def flat_len{α:Type}{s:Nat}:∀ {vss:List (List α)},(∀us∈vss,us.length=s)->vss.flatten.length=vss.length*s
 | [],_=>by simp
 |us :: vss,h=>by rw [A6,Ab,h us (Bi ..),flat_len λx e=>h x (AH _ e),AB,Nat.add_mul,Nat.one_mul,Br]
theorem Ty.rel_size{I:Nat->Prop}{w:World}:∀ (t:Ty) (x:t.den) (vs:List Value),t.rel I w x vs->vs.length=t.size
 |.u8,_,_,h=>by cases h;rfl
 |.int _,_,_,h=>by cases h;rfl
 |.bool,_,_,h=>by cases h;rfl
 |.str,_,_,h=>by cases h.1;rfl
 |.slice t,xs,vs,h=>by obtain ⟨A,n,c,rfl,_⟩:=h;rfl
 |.prod a b,x,vs,h=>by obtain ⟨v1,v2,rfl,m,j⟩:=h;rw [Ab,a.rel_size _ _ m,b.rel_size _ _ j];rfl
 |.unit,_,_,h=>by cases h;rfl
 |.arr n t,xs,vs,h=>by obtain ⟨y,vss,rfl,e,h⟩:=h;rw [flat_len (s:=t.size),e,y];rfl;intro us q;obtain ⟨i,u,rfl⟩:=AT q;exact t.rel_size _ _ (h i (xs[i]'(by omega)) _ (Af _) (Af u))
 |.ptr t,x,vs,h=>by rcases h with ⟨_,rfl⟩ | ⟨z,b,off,us,_,rfl,_⟩ <;>rfl
 |.clo f t,x,vs,h=>by obtain ⟨us,rfl,_⟩:=h;rfl
 |.clp f t,x,vs,h=>by obtain ⟨b,off,us,rfl,_⟩:=h;rfl
 |.mbs t,x,vs,h=>by obtain ⟨A,n,c,rfl,_⟩:=h;rfl

def Lies(I:Nat->Prop)(w:World)(b off:Nat)(t:Ty)(x:t.den):Prop:=∃us,t.rel I w x us/\∀j u,us[j]?=some u->w.cell? ⟨b,off+j,none⟩=some u
def Keeps(I I':Nat->Prop)(w w':World):Prop:=∀b,I b->I' b/\w'.heap[b]?=w.heap[b]?
theorem Keeps.refl(I:Nat->Prop)(w:World):Keeps I I w w:=λ_ h=>⟨h,rfl⟩
def Keeps.trans{I I' I'':Nat->Prop}{w w' w'':World}(h:Keeps I I' w w')(k:Keeps I' I'' w' w''):Keeps I I'' w w'':=
 λb hb=>⟨(k b (h b hb).1).1,((k b (h b hb).1).2).trans (h b hb).2⟩

theorem Ty.rel_keep{I I':Nat->Prop}{w w':World}(m:Keeps I I' w w'):∀ (t:Ty) (x:t.den) (vs:List Value),t.rel I w x vs->t.rel I' w' x vs
 |.u8,_,_,h=>h
 |.int _,_,_,h=>h
 |.bool,_,_,h=>h
 |.str,_,_,h=>h
 |.slice t,xs,vs,h=>by obtain ⟨A,n,c,rfl,L,J,N,h⟩:=h;refine ⟨A,n,c,rfl,L,J,N,orMap h id ?_⟩;rintro ⟨b,off,rfl,q,h⟩;refine ⟨b,off,rfl,(m b q).1,λi x E=> ?_⟩;obtain ⟨us,y,D⟩:=h i x E;exact ⟨us,t.rel_keep m _ _ y,λk u B=>by rw [<-D k u B];exact World.cell?_of_block (m b q).2⟩
 |.prod a b,x,vs,h=>by obtain ⟨S,R,rfl,L,J⟩:=h;exact ⟨S,R,rfl,a.rel_keep m _ _ L,b.rel_keep m _ _ J⟩
 |.unit,_,_,h=>h
 |.arr n t,xs,vs,h=>by obtain ⟨V,vss,rfl,O,h⟩:=h;exact ⟨V,vss,rfl,O,λi x us E B=>t.rel_keep m _ _ (h i x us E B)⟩
 |.ptr t,x,vs,h=>by
  rcases h with h| ⟨z,b,off,us,e,rfl,q,y,D⟩
  . exact .inl h
  exact .inr ⟨z,b,off,us,e,rfl,(m b q).1,t.rel_keep m _ _ y,λj u B=>by rw [<-D j u B];exact World.cell?_of_block (m b q).2⟩
 |.clo f t,x,vs,h=>by obtain ⟨us,rfl,y⟩:=h;exact ⟨us,rfl,t.rel_keep m _ _ y⟩
 |.clp f t,x,vs,h=>by obtain ⟨b,off,us,rfl,q,y,D⟩:=h;exact ⟨b,off,us,rfl,(m b q).1,t.rel_keep m _ _ y,λj u B=>by rw [<-D j u B];exact World.cell?_of_block (m b q).2⟩
 |.mbs t,o,vs,h=>by obtain ⟨A,n,c,rfl,U,h⟩:=h;refine ⟨A,n,c,rfl,U,λxs E=> ?_⟩;obtain ⟨L,J,N,h⟩:=h xs E;refine ⟨L,J,N,orMap h id ?_⟩;rintro ⟨b,off,rfl,q,h⟩;refine ⟨b,off,rfl,(m b q).1,λi x E=> ?_⟩;obtain ⟨us,y,D⟩:=h i x E;exact ⟨us,t.rel_keep m _ _ y,λk u B=>by rw [<-D k u B];exact World.cell?_of_block (m b q).2⟩
variable {I:Nat->Prop}{w:World}{t:Ty}{xs:List t.den}{vs:List Value}
theorem q9W:(Ty.mbs t).rel I w (.inr xs) vs ↔ (Ty.slice t).rel I w xs vs:=
 ⟨λ⟨A,n,c,e,_,h⟩=>⟨A,n,c,e,(h xs rfl).1,(h xs rfl).2.1,(h xs rfl).2.2.1,(h xs rfl).2.2.2⟩,λ⟨A,n,c,e,h1,h2,h3,h4⟩=>⟨A,n,c,e,(λ_ h=>by cases h),λys hy=>by simp_all⟩⟩
variable {n:Nat}
theorem z4J{A:Option Addr}{c:Nat}:(Ty.mbs t).rel I w (.inl (.slice A n c)) [.slice A n c]:=⟨A,n,c,rfl,(λ_ h=>by cases h;rfl),λ_ h=>by cases h⟩

inductive SV where
 |any
 |raw (v:Value)
 |isl (t:Ty) (xs:List t.den)
 |fsl (t:Ty) (xs:List t.den)
 |iptr (t:Ty) (x:t.den) (k:Nat)
 |ptr (h off:Nat)
 |rptr (h:Nat) (t:Ty) (i k:Nat)
 |bld (h:Nat) (t:Ty) (n:Nat)
 |osl (h:Nat) (t:Ty) (off n:Nat)
 |csl (h:Nat) (t:Ty) (k i n:Nat)                       -- a part of an array in an own object: from cell k, its i-th datum on
 |dat (t:Ty) (x:t.den)                                   -- a datum of several cells
 |agg (l:List SV)
 |tup (l:List SV)
 |fn (f:Nat) (first caps:List SV)
 |iface (T:TypeId) (x:SV)
 |mp (h:Nat)
 |imap (kk:Option IntKind) (ks vs:List Value)

structure Cx where
 ρ:Nat->Option Nat
 n:Nat
 I:Nat->Prop
 w:World

def World.bsize(w:World)(b:Nat):Option Nat:=
 match w.heap[b]? with
 |some (.cells c _ _)=>some c.size
 |_=>none

def keyIs:Option IntKind->Value->Bool
 |some k,.int k' _=>k==k'
 |none,.string _=>true
 |_,_=>false
def keyEq:Value->Value->Bool
 |.int _ a,.int _ b=>decide (a=b)
 |.string a,.string b=>decide (a=b)
 |_,_=>false
def findI(k:Value):List Value->Option Nat
 | []=>none
 |k' :: l=>if keyEq k k' then some 0 else (findI k l).map (· +1)
def mapAt(w:World)(b:Nat)(kk:Option IntKind)(ks vs:List Value):Prop:=
 ∃es clock,w.heap[b]?=some (.map es clock)/\es.toList.map (·.key)=ks/\es.toList.map (·.val)=vs/\∀k∈ks,keyIs kk k=true
variable {b:Nat}
def q5l{w':World}{j:Option IntKind}{m:List Value}(h:mapAt w b j m vs)(z:w'.heap[b]?=w.heap[b]?):mapAt w' b j m vs:=by obtain ⟨y,e,u,q⟩:=h;exact ⟨y,e,z.trans u,q⟩

mutual
def SV.den(C:Cx):SV->Value->Prop
 |.any,_=>True
 |.raw u,v=>v=u
 |.isl t xs,v=>(Ty.slice t).rel C.I C.w xs [v]
 |.fsl t xs,v=>(Ty.slice t).rel C.I C.w xs [v]/\∃A,v= .slice A xs.length xs.length
 |.iptr t x k,v=>∃b off vs,v= .pointer (some ⟨b,off+k,none⟩)/\C.I b/\t.rel C.I C.w x vs/\∀j u,vs[j]?=some u->C.w.cell? ⟨b,off+j,none⟩=some u
 |.ptr h off,v=>h<C.n/\∃b,C.ρ h=some b/\v= .pointer (some ⟨b,off,none⟩)
 |.rptr h t i k,v=>h<C.n/\∃b,C.ρ h=some b/\v= .pointer (some ⟨b,i*t.size+k,none⟩)
 |.bld h t n,v=>h<C.n/\((C.ρ h=none/\n=0/\v= .slice none 0 0)\/∃b c m,C.ρ h=some b/\v= .slice (some ⟨b,0,none⟩) n c/\n<=c/\World.bsize C.w b=some m/\c*t.size<=m)
 |.osl h t off n,v=>h<C.n/\∃A c,v= .slice A n c/\n<=c/\(n=0\/∃b,C.ρ h=some b/\A=some ⟨b,off*t.size,none⟩)
 |.csl h t k i n,v=>h<C.n/\∃A c,v= .slice A n c/\n<=c/\(n=0\/∃b,C.ρ h=some b/\A=some ⟨b,i*t.size+k,none⟩)
 |.dat t x,v=>∃vs,v= .agg vs.toArray/\t.rel C.I C.w x vs
 |.agg l,v=>∃vs,v= .agg vs.toArray/\SV.denL C l vs
 |.tup l,v=>∃vs,v= .tuple vs.toArray/\SV.denL C l vs
 |.fn f l1 l2,v=>∃v1 v2,v= .func (.func f) v1.toArray v2.toArray/\SV.denL C l1 v1/\SV.denL C l2 v2
 |.iface T x,v=>∃u,v= .iface T u/\SV.den C x u
 |.mp h,v=>h<C.n/\∃b,C.ρ h=some b/\v= .map (some b)
 |.imap kk ks vs,v=>∃b,v= .map (some b)/\C.I b/\mapAt C.w b kk ks vs
def SV.denL(C:Cx):List SV->List Value->Prop
 | [],vs=>vs= []
 |s :: l,vs=>∃v us,vs=v :: us/\SV.den C s v/\SV.denL C l us
end

variable {C:Cx}
theorem q0y:SV.denL C [] vs ↔ vs= []:=by rw [SV.denL]
variable {s:SV}{l:List SV}
theorem q0c:SV.denL C (s :: l) vs ↔ ∃v us,vs=v :: us/\SV.den C s v/\SV.denL C l us:=by rw [SV.denL]

theorem q0w{C:Cx}:∀ {l e:List SV} {vs:List Value},SV.denL C (l++e) vs ↔ ∃v1 v2,vs=v1++v2/\SV.denL C l v1/\SV.denL C e v2
 | [],e,vs=>by simp only [Ar,q0y];grind
 |s :: l,e,vs=>by simp only [Ay,q0c,q0w];grind

theorem q0v{C:Cx}:∀ {l:List SV} {vs:List Value},SV.denL C l vs->vs.length=l.length
 | [],_,h=>by grind [q0y]
 |s :: l,_,h=>by obtain ⟨v,us,rfl,_,h⟩:=q0c.1 h;simp [q0v h]

theorem q1v{C:Cx}:∀ {l:List SV} {vs:List Value} {i:Nat} {s:SV},SV.denL C l vs->l[i]?=some s->∃v,vs[i]?=some v/\s.den C v
 | [],_,_,_,_,h=>by simp at h
 |x :: l,_,0,s,h,hi=>by
  obtain ⟨v,us,rfl,j,h⟩:=q0c.1 h
  simp_all
 |x :: l,_,i+1,s,h,hi=>by obtain ⟨v,us,rfl,j,h⟩:=q0c.1 h;simp at hi;obtain ⟨u,m,e⟩:=q1v h hi;exact ⟨u,by simpa using m,e⟩

theorem q1u{C:Cx}:∀ {l:List SV} {vs:List Value} {i:Nat} {s:SV} {v:Value},SV.denL C l vs->s.den C v->SV.denL C (l.set i s) (vs.set i v)
 | [],_,_,_,_,h,_=>by grind [q0y]
 |x :: l,_,0,s,v,h,hs=>by obtain ⟨u,us,rfl,e,h⟩:=q0c.1 h;exact q0c.2 ⟨v,us,rfl,hs,h⟩
 |x :: l,_,i+1,s,v,h,hs=>by obtain ⟨u,us,rfl,e,h⟩:=q0c.1 h;exact q0c.2 ⟨u,us.set i v,rfl,e,q1u h hs⟩

theorem q5e{C:Cx}:∀ {l:List SV} {vs:List Value} (n:Nat),SV.denL C l vs->SV.denL C (l.take n) (vs.take n)
 | [],_,_,h=>by grind [q0y]
 |x :: l,_,0,h=>by rfl
 |x :: l,_,n+1,h=>by obtain ⟨u,us,rfl,e,h⟩:=q0c.1 h;exact q0c.2 ⟨u,us.take n,rfl,e,q5e n h⟩
theorem q5k{C:Cx}:∀ {l:List SV} {vs:List Value} (n:Nat),SV.denL C l vs->SV.denL C (l.drop n) (vs.drop n)
 | [],_,_,h=>by grind [q0y]
 |x :: l,_,0,h=>h
 |x :: l,_,n+1,h=>by obtain ⟨u,us,rfl,hv,h⟩:=q0c.1 h;exact q5k n h

def Ty.cells:(t:Ty)->t.den->List SV
 |.u8,c=>[.raw (.int .u8 c.toNat)]
 |.int k,n=>[.raw (.int k n)]
 |.bool,b=>[.raw (.bool b)]
 |.str,s=>[.raw (.string s)]
 |.slice t,xs=>[.isl t xs]
 |.prod a b,x=>a.cells x.1++b.cells x.2
 |.unit,_=>[]
 |.arr n t,xs=>(List.range n).flatMap λi=>t.cells (xs.getD i t.dflt)
 |.ptr t,x=>match x with
  |some y=>[.iptr t y 0]
  |none=>[.raw (.pointer none)]
 |.clo f t,x=>[.fn f [.agg (t.cells x)] []]
 |.clp f t,x=>[.fn f [] [.iptr t x 0]]
 |.mbs t,x=>match x with
  |.inr xs=>[.isl t xs]
  |.inl v=>[.raw v]

theorem Ty.cells_den{C:Cx}:∀ (t:Ty) (x:t.den) (vs:List Value),t.rel C.I C.w x vs->SV.denL C (t.cells x) vs
 |.u8,_,_,h=>by cases h;simp [Ty.cells,SV.denL,SV.den]
 |.int _,_,_,h=>by cases h;simp [Ty.cells,SV.denL,SV.den]
 |.bool,_,_,h=>by cases h;simp [Ty.cells,SV.denL,SV.den]
 |.str,_,_,h=>by cases h.1;simp [Ty.cells,SV.denL,SV.den]
 |.slice t,xs,vs,h=>by
  obtain ⟨A,n,c,rfl,h'⟩:=id h;simp only [Ty.cells,SV.denL,SV.den]
  simp_all
 |.prod a b,x,vs,h=>by obtain ⟨J,D,rfl,E,B⟩:=h;exact q0w.2 ⟨J,D,rfl,a.cells_den _ _ E,b.cells_den _ _ B⟩
 |.unit,_,_,h=>by cases h;rfl
 |.arr n t,xs,vs,h=>by
  obtain ⟨q,vss,rfl,y,h⟩:=h;simp only [Ty.cells];rw [<-q];clear q;induction xs generalizing vss with
  |nil=>grind [SV.denL]
  |cons x xs u=>cases vss with
   |nil=>simp at y
   |cons us vss=>rw [AB,BR,List.flatMap_cons,A6,List.flatMap_map];exact q0w.2 ⟨_,_,rfl,t.cells_den _ _ (h 0 x us rfl rfl),u vss (by grind) λi x us hx hu=>h (i+1) x us (by grind) (by grind)⟩
 |.ptr t,x,vs,h=>by
  rcases h with ⟨rfl,rfl⟩ | ⟨z,b,off,us,rfl,rfl,j,e,m⟩
  . simp [Ty.cells,SV.denL,SV.den]
  simp only [Ty.cells,SV.denL,SV.den];exact ⟨_,_,rfl,⟨b,off,us,by rfl,j,e,m⟩,rfl⟩
 |.clo f t,x,vs,h=>by obtain ⟨us,rfl,e⟩:=h;simp only [Ty.cells,SV.denL,SV.den];exact ⟨_,_,rfl,⟨[.agg us.toArray],[],rfl,⟨_,_,rfl,⟨us,rfl,t.cells_den _ _ e⟩,rfl⟩,rfl⟩,rfl⟩
 |.clp f t,x,vs,h=>by obtain ⟨b,off,us,rfl,j,e,m⟩:=h;simp only [Ty.cells,SV.denL,SV.den];exact ⟨_,_,rfl,⟨[],[.pointer (some ⟨b,off,none⟩)],rfl,rfl,⟨_,_,rfl,⟨b,off,us,by rfl,j,e,m⟩,rfl⟩⟩,rfl⟩
 |.mbs t,o,vs,h=>by
  cases o with
  |inl v=>obtain ⟨A,n,c,rfl,h,_⟩:=h;simp [Ty.cells,SV.denL,SV.den,h v rfl]
  |inr xs=>
   have h':=q9W.1 h;obtain ⟨A,n,c,rfl,_⟩:=id h';simp only [Ty.cells,SV.denL,SV.den]
   simp_all

theorem Ty.cells_length:∀ (t:Ty) (x:t.den),(t.cells x).length=t.size
 |.u8,_=>rfl
 |.int _,_=>rfl
 |.bool,_=>rfl
 |.str,_=>rfl
 |.slice _,_=>rfl
 |.prod a b,x=>by simp [Ty.cells,Ty.size,a.cells_length,b.cells_length]
 |.unit,_=>rfl
 |.arr n t,xs=>by
  simp only [Ty.cells,Ty.size];generalize e:(λi=>t.cells (xs.getD i t.dflt))=f;have h1:∀i,(f i).length=t.size:=λi=>by rw [<-e];exact t.cells_length _
  clear e xs;induction n with
  |zero=>simp
  |succ n ih=>grind [List.range_succ]
 |.ptr _,x=>by cases x<;>rfl
 |.clo _ _,_=>rfl
 |.clp _ _,_=>rfl
 |.mbs _,x=>by cases x<;>rfl

def rdU8:List SV->Option (UInt8×Prop)
 | [.raw (.int .u8 n)]=>some (UInt8.ofNat n.toNat,((UInt8.ofNat n.toNat).toNat:Int)=n)
 |_=>none
def rdInt(k:IntKind):List SV->Option (Int×Prop)
 | [.raw (.int k' n)]=>if k=k' then some (n,True) else none
 |_=>none
def rdBool:List SV->Option (Bool×Prop)
 | [.raw (.bool b)]=>some (b,True)
 |_=>none
def rdStr:List SV->Option (ByteArray×Prop)
 | [.raw (.string s)]=>some (s,s.size<=140737488355328)
 |_=>none
def rdSlice(t:Ty):List SV->Option (List t.den×Prop)
 | [.isl t' xs]=>if h:t'=t then some (cast (by rw [h]) xs,True) else none
 | [.fsl t' xs]=>if h:t'=t then some (cast (by rw [h]) xs,True) else none
 | [.raw (.slice none 0 0)]=>some ([],True)
 |_=>none
def rdPtr(t:Ty):List SV->Option (Option t.den×Prop)
 | [.iptr t' x k]=>if h:t'=t/\k=0 then some (some (cast (by rw [h.1]) x),True) else none
 | [.raw (.pointer none)]=>some (none,True)
 |_=>none
def rdUnit:List SV->Option (Unit×Prop)
 | []=>some ((),True)
 |_=>none
def Ty.rd:(t:Ty)->List SV->Option (t.den×Prop)
 |.u8,cs=>rdU8 cs
 |.int k,cs=>rdInt k cs
 |.bool,cs=>rdBool cs
 |.str,cs=>rdStr cs
 |.slice t,cs=>rdSlice t cs
 |.prod a b,cs=>match a.rd (cs.take a.size),b.rd (cs.drop a.size) with
  |some (x,p),some (y,q)=>some ((x,y),p/\q)
  |_,_=>none
 |.unit,cs=>rdUnit cs
 |.arr _ _,_=>none
 |.ptr t,cs=>rdPtr t cs
 |.clo f t,cs=>match cs with
  | [.fn g [.agg l] []]=>if g=f then t.rd l else none
  |_=>none
 |.clp f t,cs=>match cs with
  | [.fn g [] [.iptr t' x k]]=>if h:g=f/\t'=t/\k=0 then some (cast (by rw [h.2.1]) x,True) else none
  |_=>none
 |.mbs t,cs=>match rdSlice t cs with
  |some (xs,p)=>some (.inr xs,p)
  |none=>match cs with
   | [.raw (.slice A n c)]=>some (.inl (.slice A n c),True)
   |_=>none

variable {cs:List SV}{p:Prop}
theorem q6O{x:List t.den}(h:rdSlice t cs=some (x,p))(e:SV.denL C cs vs):(Ty.slice t).rel C.I C.w x vs:=by
 unfold rdSlice at h;split at h
 . split at h
   . rename_i j;subst j;cases h;simp only [SV.denL,SV.den] at e;grind
   cases h
 . split at h
   . rename_i j;subst j;cases h;simp only [SV.denL,SV.den] at e;grind
   cases h
 . cases h;simp only [SV.denL,SV.den] at e;obtain ⟨v,us,rfl,rfl,rfl⟩:=e;exact ⟨_,_,_,rfl,rfl,Ac _,by simp,.inl rfl⟩
 cases h
theorem Ty.rd_rel{C:Cx}:∀ (t:Ty) (cs:List SV) (x:t.den) (p:Prop) (vs:List Value),t.rd cs=some (x,p)->p->SV.denL C cs vs->t.rel C.I C.w x vs
 |.prod a b,cs,x,p,vs,h,hp,hv=>by
  unfold Ty.rd at h;split at h
  . rename_i x1 p1 y1 q1 B A;cases h;rw [<-AA a.size cs] at hv;obtain ⟨q,m,rfl,d1,d2⟩:=q0w.1 hv;exact ⟨q,m,rfl,a.rd_rel _ _ _ _ B hp.1 d1,b.rd_rel _ _ _ _ A hp.2 d2⟩
  cases h
 |.u8,cs,x,p,vs,h,hp,hv=>by
  simp only [Ty.rd] at h;unfold rdU8 at h;split at h<;>cases h
  simp only [SV.denL,SV.den] at hv;obtain ⟨v,us,rfl,rfl,rfl⟩:=hv;grind [Ty.rel]
 |.int k,cs,x,p,vs,h,hp,hv=>by
  simp only [Ty.rd] at h;unfold rdInt at h;split at h
  . split at h
    . subst k;cases h;simp only [SV.denL,SV.den] at hv;obtain ⟨v,us,rfl,rfl,rfl⟩:=hv;simp [Ty.rel]
    cases h
  cases h
 |.bool,cs,x,p,vs,h,hp,hv=>by
  simp only [Ty.rd] at h;unfold rdBool at h;split at h<;>cases h
  simp only [SV.denL,SV.den] at hv;obtain ⟨v,us,rfl,rfl,rfl⟩:=hv;simp [Ty.rel]
 |.str,cs,x,p,vs,h,hp,hv=>by
  simp only [Ty.rd] at h;unfold rdStr at h;split at h<;>cases h
  simp only [SV.denL,SV.den] at hv;obtain ⟨v,us,rfl,rfl,rfl⟩:=hv;exact ⟨rfl,hp⟩
 |.slice t,cs,x,p,vs,h,hp,hv=>by grind [Ty.rd,q6O]
 |.unit,cs,x,p,vs,h,hp,hv=>by grind [Ty.rd,rdUnit,SV.denL,Ty.rel]
 |.arr _ _,cs,x,p,vs,h,hp,hv=>by grind [Ty.rd]
 |.ptr t,cs,x,p,vs,h,hp,hv=>by
  simp only [Ty.rd] at h;unfold rdPtr at h;split at h
  . split at h
    . rename_i D;obtain ⟨rfl,rfl⟩:=D;cases h;simp only [SV.denL,SV.den] at hv;obtain ⟨v,us,rfl,⟨b,off,ws,rfl,e,j,z⟩,rfl⟩:=hv;exact .inr ⟨_,b,off,ws,rfl,by rfl,e,j,z⟩
    cases h
  . cases h;simp only [SV.denL,SV.den] at hv;obtain ⟨v,us,rfl,rfl,rfl⟩:=hv;exact .inl ⟨rfl,rfl⟩
  cases h
 |.clo f t,cs,x,p,vs,h,hp,hv=>by
  simp only [Ty.rd] at h;split at h
  . split at h
    . rename_i y;subst y;simp only [SV.denL,SV.den] at hv;obtain ⟨v,us,rfl,⟨q,m,rfl,⟨u,ws,rfl,⟨zs,rfl,E⟩,rfl⟩,rfl⟩,rfl⟩:=hv;exact ⟨zs,rfl,t.rd_rel _ _ _ _ h hp E⟩
    cases h
  cases h
 |.clp f t,cs,x,p,vs,h,hp,hv=>by
  simp only [Ty.rd] at h;split at h
  . split at h
    . rename_i y;obtain ⟨rfl,rfl,rfl⟩:=y;cases h;simp only [SV.denL,SV.den] at hv;obtain ⟨v,us,rfl,⟨q,m,rfl,rfl,⟨u,ws,rfl,⟨b,off,zs,rfl,e,j,z⟩,rfl⟩⟩,rfl⟩:=hv;exact ⟨b,off,zs,by rfl,e,j,z⟩
    cases h
  cases h
 |.mbs t,cs,x,p,vs,h,hp,hv=>by
  simp only [Ty.rd] at h;split at h
  . grind [q9W,q6O]
  split at h
  . cases h;simp only [SV.denL,SV.den] at hv;obtain ⟨v,us,rfl,rfl,rfl⟩:=hv;exact z4J
  cases h
def Ty.known:Ty->Bool
 |.slice t=>t.known
 |.prod a b=>a.known&& b.known
 |.arr _ t=>t.known
 |.ptr t=>t.known
 |.clo _ t=>t.known
 |.clp _ t=>t.known
 |.mbs _=>false
 |_=>true
inductive SObj where
 |dead
 |cells (T:TypeId) (cs:List SV)
 |row (t:Ty) (xs:List t.den)
 |map (kk:Option IntKind) (ks:List Value) (vs:List SV)
 |mark (n:Nat)                                            -- nothing of memory: a number that only a yield changes

structure Evo (C C':Cx):Prop where
 n:C.n<=C'.n
 ρ:∀h,h<C.n->C'.ρ h=C.ρ h
 I:Keeps C.I C'.I C.w C'.w
 sz:∀b m,World.bsize C.w b=some m->World.bsize C'.w b=some m

theorem Evo.refl(C:Cx):Evo C C:=⟨Ac _,λ_ _=>rfl,Keeps.refl _ _,λ_ _ h=>h⟩
def Evo.trans{A B C:Cx}(h:Evo A B)(k:Evo B C):Evo A C:=
 ⟨Ao h.n k.n,λx hx=>(k.ρ x (Aj hx h.n)).trans (h.ρ x hx),h.I.trans k.I,λb m hm=>k.sz b m (h.sz b m hm)⟩

mutual
theorem q0Y{C C':Cx}(e:Evo C C'):∀ {s:SV} {v:Value},s.den C v->s.den C' v
 |.any,_,_=>by rw [SV.den];trivial
 |.raw u,v,h=>by grind [SV.den]
 |.isl t xs,v,h=>by rw [SV.den] at h⊢;exact Ty.rel_keep e.I _ _ _ h
 |.fsl t xs,v,h=>by rw [SV.den] at h⊢;exact ⟨Ty.rel_keep e.I _ _ _ h.1,h.2⟩
 |.iptr t x k,v,h=>by rw [SV.den] at h⊢;obtain ⟨b,off,vs,rfl,S,O,B⟩:=h;exact ⟨b,off,vs,rfl,(e.I b S).1,Ty.rel_keep e.I _ _ _ O,λj u W=>by rw [<-B j u W];exact World.cell?_of_block (e.I b S).2⟩
 |.ptr h off,v,d=>by rw [SV.den] at d⊢;obtain ⟨y,b,z,q⟩:=d;exact ⟨Aj y e.n,b,(e.ρ h y).trans z,q⟩
 |.rptr h t i k,v,d=>by rw [SV.den] at d⊢;obtain ⟨y,b,z,q⟩:=d;exact ⟨Aj y e.n,b,(e.ρ h y).trans z,q⟩
 |.bld h t n,v,d=>by
  rw [SV.den] at d⊢;obtain ⟨y,d⟩:=d;refine ⟨Aj y e.n,?_⟩;rcases d with ⟨D,L⟩ | ⟨b,c,m,z,q,B,E,N⟩
  . exact .inl ⟨(e.ρ h y).trans D,L⟩
  exact .inr ⟨b,c,m,(e.ρ h y).trans z,q,B,e.sz b m E,N⟩
 |.osl h t off n,v,d=>by rw [SV.den] at d⊢;obtain ⟨y,A,c,q,B,d⟩:=d;exact ⟨Aj y e.n,A,c,q,B,orMap d id λ⟨b,z,R⟩=>⟨b,(e.ρ h y).trans z,R⟩⟩
 |.dat t x,v,d=>by rw [SV.den] at d⊢;obtain ⟨vs,q,O⟩:=d;exact ⟨vs,q,Ty.rel_keep e.I _ _ _ O⟩
 |.csl h t k i n,v,d=>by rw [SV.den] at d⊢;obtain ⟨y,A,c,q,B,d⟩:=d;exact ⟨Aj y e.n,A,c,q,B,orMap d id λ⟨b,z,R⟩=>⟨b,(e.ρ h y).trans z,R⟩⟩
 |.agg l,v,d=>by rw [SV.den] at d⊢;obtain ⟨vs,q,J⟩:=d;exact ⟨vs,q,q0f e J⟩
 |.tup l,v,d=>by rw [SV.den] at d⊢;obtain ⟨vs,q,J⟩:=d;exact ⟨vs,q,q0f e J⟩
 |.fn f l1 l2,v,d=>by rw [SV.den] at d⊢;obtain ⟨V,U,q,D,L⟩:=d;exact ⟨V,U,q,q0f e D,q0f e L⟩
 |.iface T x,v,d=>by rw [SV.den] at d⊢;obtain ⟨u,q,D⟩:=d;exact ⟨u,q,q0Y e D⟩
 |.mp h,v,d=>by rw [SV.den] at d⊢;obtain ⟨y,b,z,q⟩:=d;exact ⟨Aj y e.n,b,(e.ρ h y).trans z,q⟩
 |.imap kk ks vs,v,d=>by rw [SV.den] at d⊢;obtain ⟨b,q,z,E⟩:=d;exact ⟨b,q,(e.I b z).1,q5l E (e.I b z).2⟩
theorem q0f{C C':Cx}(e:Evo C C'):∀ {l:List SV} {vs:List Value},SV.denL C l vs->SV.denL C' l vs
 | [],_,h=>by grind [SV.denL]
 |s :: l,_,h=>by rw [SV.denL] at h⊢;obtain ⟨v,us,rfl,j,m⟩:=h;exact ⟨v,us,rfl,q0Y e j,q0f e m⟩
end

def rowAt(I:Nat->Prop)(w:World)(t:Ty)(xs:List t.den)(b off:Nat):Prop:=
 ∀i x,xs[i]?=some x->∃us,t.rel I w x us/\∀k u,us[k]?=some u->w.cell? ⟨b,off+i*t.size+k,none⟩=some u

def objDen(C:Cx)(h:Nat):SObj->Prop
 |.dead=>True
 |.cells T cs=>∃b vs,C.ρ h=some b/\C.w.heap[b]?=some (.cells vs.toArray T (0,0))/\SV.denL C cs vs
 |.row t xs=>(C.ρ h=none/\xs= [])\/∃b arr T fz,C.ρ h=some b/\C.w.heap[b]?=some (.cells arr T fz)/\(∀i,i<arr.size->¬(fz.1<=i/\i<fz.2))/\xs.length*t.size<=arr.size/\rowAt C.I C.w t xs b 0
 |.map kk ks vs=>∃b us,C.ρ h=some b/\mapAt C.w b kk ks us/\SV.denL C vs us
 |.mark _=>True

def SObj.live:SObj->Bool
 |.dead=>false
 |.mark _=>false
 |_=>true

def OwnB(C:Cx)(H:List SObj)(b:Nat):Prop:=∃h o,H[h]?=some o/\o.live=true/\C.ρ h=some b

structure Wd (C:Cx) (H:List SObj):Prop where
 n:C.n=H.length
 obj:∀h o,H[h]?=some o->objDen C h o
 own:∀b,OwnB C H b->¬C.I b/\b<C.w.heap.size
 inj:∀h h' o o' b,H[h]?=some o->H[h']?=some o'->o.live=true->o'.live=true->C.ρ h=some b->C.ρ h'=some b->h=h'
 imm:∀b,C.I b->b<C.w.heap.size

def Unf(w:World)(b:Nat):Prop:=∀c T fz,w.heap[b]?=some (.cells c T fz)->∀i,i<c.size->¬(fz.1<=i/\i<fz.2)
def Unf.keep{w w':World}{b:Nat}(h:Unf w b)(e:w'.heap[b]?=w.heap[b]?):Unf w' b:=λc T fz hc=>h c T fz (e▸hc)
variable {H:List SObj}
theorem q4v(y:Wd C H)(h:OwnB C H b):Unf C.w b:=by
 obtain ⟨i,o,z,m,hb⟩:=h;have:=y.obj i o z;intro c T fz hc j hj;cases o with
 |dead=>simp [SObj.live] at m
 |cells T' cs=>
  obtain ⟨u,vs,e,q,_⟩:=this
  simp_all
 |row t xs=>rcases this with ⟨e,_⟩ | ⟨u,arr,T',fz',e,q,h3,_⟩;all_goals simp_all
 |map kk ks vs=>
  obtain ⟨u,us,e,⟨es,cl,q,_⟩,_⟩:=this
  simp_all
 |mark n=>simp [SObj.live] at m

structure En where
 C:Cx
 H:List SObj

structure Ext (E:En) (C:Cx) (H:List SObj):Prop where
 evo:Evo E.C C
 size:E.C.w.heap.size<=C.w.heap.size
 os:C.w.os=E.C.w.os
 tape:C.w.tape=E.C.w.tape
 output:C.w.output=E.C.w.output
 frame:∀b,b<E.C.w.heap.size->¬OwnB E.C E.H b->C.w.heap[b]?=E.C.w.heap[b]?
 immNew:∀b,C.I b->E.C.I b\/((E.C.w.heap.size<=b\/OwnB E.C E.H b)/\Unf C.w b)
 ownNew:∀b,OwnB C H b->E.C.w.heap.size<=b\/OwnB E.C E.H b
 keep0:∀n,0<E.C.n->E.H[0]?=some (.mark n)->H[0]?=some (.mark n)

theorem Ext.refl(C:Cx)(H:List SObj):Ext ⟨C,H⟩ C H:=
 ⟨Evo.refl _,Ac _,rfl,rfl,rfl,λ_ _ _=>rfl,λ_ h=>.inl h,λ_ h=>.inr h,λ_ _ h=>h⟩
def Ext.trans{E:En}{C C':Cx}{H H':List SObj}(h:Ext E C H)(k:Ext ⟨C,H⟩ C' H'):Ext E C' H' where
 evo:=h.evo.trans k.evo
 size:=Ao h.size k.size
 os:=k.os.trans h.os
 tape:=k.tape.trans h.tape
 output:=k.output.trans h.output
 frame:=λb e m=>(k.frame b (Aj e h.size) (λz=>(h.ownNew b z).elim (λx=>absurd e (by omega)) m)).trans (h.frame b e m)
 immNew:=λb e=>(k.immNew b e).elim (λj=>orMap (h.immNew b j) id λ⟨x,u⟩=>⟨x,u.keep (k.evo.I b j).2⟩) λ⟨x,u⟩=>.inr ⟨x.elim (λy=>.inl (Ao h.size y)) (h.ownNew b),u⟩
 ownNew:=λb e=>(k.ownNew b e).elim (λy=>.inl (Ao h.size y)) (h.ownNew b)
 keep0:=λn q A=>k.keep0 n (Aj q h.evo.n) (h.keep0 n q A)
theorem q2J{L:List SObj}{x:SObj}(h:H[0]?=some x):(H++L)[0]?=some x:=by grind
variable {h:Nat}
theorem q3M{o o':SObj}(ho:H[h]?=some o)(hl:o.live=true)(hm:H[0]?=some (.mark n)):(H.set h o')[0]?=some (.mark n):=by grind [SObj.live]

inductive Out where
 |ret (v:SV)
 |pan (v:SV)

def outDen(C:Cx):Out->Ending->Prop
 |.ret s,e=>∃v,e= .returned v/\s.den C v
 |.pan s,e=>∃v,e= .panicked [{v,recovered:=false}]/\s.den C v

def tabList:List (Nat×List Value):=[]
def TabB(C:Cx)(H:List SObj)(e:Nat×List Value):Prop:=(e.1<C.w.heap.size/\¬OwnB C H e.1)/\∃ (T:TypeId) (fz:Nat×Nat),C.w.heap[e.1]?=some (.cells e.2.toArray T fz)
def dat_sha_start:List Int:=[1779033703,3144134277,1013904242,2773480762,1359893119,2600822924,528734635,1541459225]
def dat_sha_constants:List Int:=[1116352408,1899447441,3049323471,3921009573,961987163,1508970993,2453635748,2870763221,3624381080,310598401,607225278,1426881987,1925078388,2162078206,2614888103,3248222580,3835390401,4022224774,264347078,604807628,770255983,1249150122,1555081692,1996064986,2554220882,2821834349,2952996808,3210313671,3336571891,3584528711,113926993,338241895,666307205,773529912,1294757372,1396182291,1695183700,1986661051,2177026350,2456956037,2730485921,2820302411,3259730800,3345764771,3516065817,3600352804,4094571909,275423344,430227734,506948616,659060556,883997877,958139571,1322822218,1537002063,1747873779,1955562222,2024104815,2227730452,2361852424,2428436474,2756734187,3204031479,3329325298]
def dat_ref04_constants:List Int:=[1116352408,1899447441,3049323471,3921009573,961987163,1508970993,2453635748,2870763221,3624381080,310598401,607225278,1426881987,1925078388,2162078206,2614888103,3248222580,3835390401,4022224774,264347078,604807628,770255983,1249150122,1555081692,1996064986,2554220882,2821834349,2952996808,3210313671,3336571891,3584528711,113926993,338241895,666307205,773529912,1294757372,1396182291,1695183700,1986661051,2177026350,2456956037,2730485921,2820302411,3259730800,3345764771,3516065817,3600352804,4094571909,275423344,430227734,506948616,659060556,883997877,958139571,1322822218,1537002063,1747873779,1955562222,2024104815,2227730452,2361852424,2428436474,2756734187,3204031479,3329325298]
def dat_ref06_substitutes:List UInt8:=[99,124,119,123,242,107,111,197,48,1,103,43,254,215,171,118,202,130,201,125,250,89,71,240,173,212,162,175,156,164,114,192,183,253,147,38,54,63,247,204,52,165,229,241,113,216,49,21,4,199,35,195,24,150,5,154,7,18,128,226,235,39,178,117,9,131,44,26,27,110,90,160,82,59,214,179,41,227,47,132,83,209,0,237,32,252,177,91,106,203,190,57,74,76,88,207,208,239,170,251,67,77,51,133,69,249,2,127,80,60,159,168,81,163,64,143,146,157,56,245,188,182,218,33,16,255,243,210,205,12,19,236,95,151,68,23,196,167,126,61,100,93,25,115,96,129,79,220,34,42,144,136,70,238,184,20,222,94,11,219,224,50,58,10,73,6,36,92,194,211,172,98,145,149,228,121,231,200,55,109,141,213,78,169,108,86,244,234,101,122,174,8,186,120,37,46,28,166,180,198,232,221,116,31,75,189,139,138,112,62,181,102,72,3,246,14,97,53,87,185,134,193,29,158,225,248,152,17,105,217,142,148,155,30,135,233,206,85,40,223,140,161,137,13,191,230,66,104,65,153,45,15,176,84,187,22]
def datList:List (Nat×Sigma Ty.den):=[(5,⟨.arr 8 (.int .u32),dat_sha_start⟩),(6,⟨.arr 64 (.int .u32),dat_sha_constants⟩)]
def TabD(C:Cx)(H:List SObj)(e:Nat×Sigma Ty.den):Prop:=(e.1<C.w.heap.size/\¬OwnB C H e.1)/\Lies C.I C.w e.1 0 e.2.1 e.2.2
def TBlk(b:Nat):Prop:=(∃e∈tabList,e.1=b)\/∃e∈datList,e.1=b
structure TabT (C:Cx) (H:List SObj):Prop where
 tab:∀e∈tabList,TabB C H e
 dat:∀e∈datList,TabD C H e
theorem TabT.keep{C C':Cx}{H H':List SObj}(h:TabT C H)(E:Keeps C.I C'.I C.w C'.w)(B:∀b,TBlk b->b<C.w.heap.size->¬OwnB C H b->b<C'.w.heap.size/\¬OwnB C' H' b/\C'.w.heap[b]?=C.w.heap[b]?):TabT C' H' where
 tab:=λe m=>by obtain ⟨q,T,fz,A⟩:=h.tab e m;obtain ⟨z,y,D⟩:=B _ (.inl ⟨e,m,rfl⟩) q.1 q.2;exact ⟨⟨z,y⟩,T,fz,D.trans A⟩
 dat:=λe m=>by obtain ⟨q,us,A,h3⟩:=h.dat e m;obtain ⟨z,y,D⟩:=B _ (.inr ⟨e,m,rfl⟩) q.1 q.2;exact ⟨⟨z,y⟩,us,Ty.rel_keep E _ _ _ A,λj u hu=>by grind [World.cell?_of_block]⟩
theorem TabT.next{C C':Cx}{H H':List SObj}(h:TabT C H)(e:Ext ⟨C,H⟩ C' H'):TabT C' H':=
 h.keep e.evo.I λb _ hb ho=>⟨Aj hb e.size,λx=>(e.ownNew b x).elim (λg=>absurd hb (AC.2 g)) ho,e.frame b hb ho⟩
theorem TabT.sub{C C':Cx}{H H':List SObj}(h:TabT C H)(e:C'.w=C.w)(u:∀b,C.I b->C'.I b)(q:∀b,OwnB C' H' b->OwnB C H b):TabT C' H':=
 h.keep (λb m=>⟨u b m,by rw [e]⟩) λb _ m j=>⟨by simp_all,λx=>j (q b x),by rw [e]⟩
def q6r:¬OwnB C [] b:=λ⟨h,o,e,_⟩=>by simp at e
def TabT.nil{C C':Cx}{H:List SObj}(h:TabT C H)(e:C'.w=C.w)(hi:∀b,C.I b->C'.I b):TabT C' []:=h.sub e hi λ_ x=>absurd x q6r
structure TabE (E:En) (C:Cx) (H:List SObj):Prop where
 tab:TabT C H
 old:∀b,TBlk b->b<E.C.w.heap.size
def TabT.lt{C:Cx}{H:List SObj}(h:TabT C H)(b:Nat)(m:TBlk b):b<C.w.heap.size:=by
 rcases m with ⟨e,j,rfl⟩ | ⟨e,j,rfl⟩
 . exact (h.tab e j).1.1
 exact (h.dat e j).1.1
def TabT.own{C:Cx}{H:List SObj}(h:TabT C H)(b:Nat)(m:TBlk b):¬OwnB C H b:=by
 rcases m with ⟨e,j,rfl⟩ | ⟨e,j,rfl⟩
 . exact (h.tab e j).1.2
 exact (h.dat e j).1.2
def TabT.here{C:Cx}{H:List SObj}(h:TabT C H):TabE ⟨C,H⟩ C H:=⟨h,h.lt⟩
def VCall(P:Program)(f:FuncId)(args:List SV)(H:List SObj)(K:Out->List SObj->Prop):Prop:=
 ∀ (C:Cx) (vs:List Value),Wd C H->TabT C H->SV.denL C args vs->
  Calls P f vs.toArray C.w λe w'=>∃o H' C',K o H'/\C'.w=w'/\Wd C' H'/\Ext ⟨C,H⟩ C' H'/\outDen C' o e

theorem VCall.mono{P:Program}{f:FuncId}{args:List SV}{H:List SObj}{K K':Out->List SObj->Prop}(h:VCall P f args H K)(hk:∀o H',K o H'->K' o H'):VCall P f args H K':=
 λC vs hw ht hv=>(h C vs hw ht hv).mono λ_ _ ⟨o,H',C',k,r⟩=>⟨o,H',C',hk _ _ k,r⟩

def Wd.nil{C:Cx}{H:List SObj}(h:Wd C H):Wd {C with n:=0} [] where
 n:=rfl
 obj:=λh o e=>by simp at e
 own:=λb ⟨h,o,e,_⟩=>by simp at e
 inj:=λh h' o o' b e=>by simp at e
 imm:=h.imm

/- Values that name no handle. -/
mutual
def SV.clean:SV->Bool
 |.any|.raw _|.isl _ _|.fsl _ _|.iptr _ _ _|.imap _ _ _|.dat _ _=>true
 |.ptr .. |.rptr .. |.bld .. |.osl .. |.csl .. |.mp _=>false
 |.agg l=>SV.cleanL l
 |.tup l=>SV.cleanL l
 |.fn _ a b=>SV.cleanL a&& SV.cleanL b
 |.iface _ x=>SV.clean x
def SV.cleanL:List SV->Bool
 | []=>true
 |s :: l=>SV.clean s&& SV.cleanL l
end

mutual
theorem q0B{C C':Cx}(e:Keeps C.I C'.I C.w C'.w):∀ {s:SV} {v:Value},s.clean=true->s.den C v->s.den C' v
 |.any,_,_,_=>by rw [SV.den];trivial
 |.raw u,v,_,h=>by grind [SV.den]
 |.isl t xs,v,_,h=>by grind [SV.den,Ty.rel_keep]
 |.fsl t xs,v,_,h=>by grind [SV.den,Ty.rel_keep]
 |.iptr t x k,v,_,h=>by rw [SV.den] at h⊢;obtain ⟨b,off,vs,rfl,q,D,N⟩:=h;exact ⟨b,off,vs,rfl,(e b q).1,Ty.rel_keep e _ _ _ D,λj u L=>by rw [<-N j u L];exact World.cell?_of_block (e b q).2⟩
 |.ptr ..,_,h,_=>by simp [SV.clean] at h
 |.rptr ..,_,h,_=>by simp [SV.clean] at h
 |.bld ..,_,h,_=>by simp [SV.clean] at h
 |.osl ..,_,h,_=>by simp [SV.clean] at h
 |.csl ..,_,h,_=>by simp [SV.clean] at h
 |.dat t x,v,_,d=>by grind [SV.den,Ty.rel_keep]
 |.mp _,_,h,_=>by simp [SV.clean] at h
 |.imap kk ks vs,v,_,d=>by rw [SV.den] at d⊢;obtain ⟨b,m,q,A⟩:=d;exact ⟨b,m,(e b q).1,q5l A (e b q).2⟩
 |.agg l,v,h,d=>by rw [SV.den] at d⊢;obtain ⟨vs,m,y⟩:=d;exact ⟨vs,m,q1i e (by simpa [SV.clean] using h) y⟩
 |.tup l,v,h,d=>by rw [SV.den] at d⊢;obtain ⟨vs,m,y⟩:=d;exact ⟨vs,m,q1i e (by simpa [SV.clean] using h) y⟩
 |.fn f l1 l2,v,h,d=>by rw [SV.den] at d⊢;obtain ⟨J,E,m,z,B⟩:=d;simp [SV.clean] at h;exact ⟨J,E,m,q1i e h.1 z,q1i e h.2 B⟩
 |.iface T x,v,h,d=>by rw [SV.den] at d⊢;obtain ⟨u,m,z⟩:=d;exact ⟨u,m,q0B e (by simpa [SV.clean] using h) z⟩
theorem q1i{C C':Cx}(e:Keeps C.I C'.I C.w C'.w):∀ {l:List SV} {vs:List Value},SV.cleanL l=true->SV.denL C l vs->SV.denL C' l vs
 | [],_,_,h=>by grind [SV.denL]
 |s :: l,_,hc,h=>by rw [SV.denL] at h⊢;obtain ⟨v,us,rfl,j,m⟩:=h;simp [SV.cleanL] at hc;exact ⟨v,us,rfl,q0B e hc.1 j,q1i e hc.2 m⟩
end

theorem q0z{C':Cx}(B:Keeps C.I C'.I C.w C'.w)(h:Nat)(y:C'.ρ h=C.ρ h)(z:∀b,C.ρ h=some b->C'.w.heap[b]?=C.w.heap[b]?)(e:∀ {l:List SV} {vs:List Value},SV.denL C l vs->SV.denL C' l vs):
 ∀ {o:SObj},objDen C h o->objDen C' h o
 |.dead,_=>trivial
 |.cells T cs,⟨b,vs,j,m,q⟩=>⟨b,vs,y.trans j,(z b j).trans m,e q⟩
 |.row t xs,d=>by
  rcases d with ⟨j,m⟩ | ⟨b,A,T,fz,j,m,q,D,E⟩
  . exact .inl ⟨y.trans j,m⟩
  refine .inr ⟨b,A,T,fz,y.trans j,(z b j).trans m,q,D,λi x L=> ?_⟩;obtain ⟨us,J,hc⟩:=E i x L;exact ⟨us,Ty.rel_keep B _ _ _ J,λk u hk=>by grind [World.cell?_of_block]⟩
 |.map kk ks vs,⟨b,us,j,m,q⟩=>⟨b,us,y.trans j,q5l m (z b j),e q⟩
 |.mark _,_=>trivial

variable {P:Program}{f:FuncId}
theorem q7C{us:Array Value}{r:SV}{K:Out->List SObj->Prop}(S:r.clean=true)(A:Wd C H)
 (h:Calls P f us C.w λe w'=>∃o H' C',o= .ret r/\C'.w=w'/\Wd C' H'/\Ext ⟨{C with n:=0},[]⟩ C' H'/\outDen C' o e)(hk:K (.ret r) H):
 Calls P f us C.w λe w'=>∃o H' C',K o H'/\C'.w=w'/\Wd C' H'/\Ext ⟨C,H⟩ C' H'/\outDen C' o e:=by
 refine h.mono ?_;rintro e w' ⟨o,H',C',rfl,rfl,J,q,v,rfl,R⟩;have y:∀b,b<C.w.heap.size->C'.w.heap[b]?=C.w.heap[b]?:=λb j=>q.frame b j (λ⟨h,o,z,_⟩=>by simp at z);have N:Keeps C.I C'.I C.w C'.w:=q.evo.I
 let D:Cx:={ρ:=C.ρ,n:=C.n,I:=C'.I,w:=C'.w}
 have L:∀b m,World.bsize C.w b=some m->World.bsize C'.w b=some m:=q.evo.sz;have B:Evo C D:=⟨Ac _,λ_ _=>rfl,N,L⟩;have hIn:∀b,C'.I b->b<C.w.heap.size->C.I b:=λb j hlt=>by rcases q.immNew b j with E| ⟨E| ⟨h,o,z,_⟩,_⟩;all_goals grind
 refine ⟨.ret r,H,D,hk,rfl,?_,?_,v,rfl,q0B (C:=C') (C':=D) (Keeps.refl _ _) S R⟩
 . refine ⟨A.n,λh o z=> ?_,λb j=> ?_,A.inj,J.imm⟩
   . have:=A.obj h o z;by_cases O:o.live=true
     . exact q0z (C':=D) N h rfl (λb j=>y b (A.own b ⟨h,o,z,O,j⟩).2) (q0f B) this
     cases o<;>first|trivial|simp [SObj.live] at O
   obtain ⟨E,h2⟩:=A.own b j;grind
 refine ⟨B,q.size,q.os,q.tape,q.output,λb j _=>y b j,λb j=> ?_,λb j=>.inr j,λ_ _ h=>h⟩;rcases q.immNew b j with E| ⟨E| ⟨h,o,z,_⟩,u⟩;all_goals grind
def VCall.frame{P:Program}{f:FuncId}{args:List SV}{r:SV}(y:SV.cleanL args=true)(q:r.clean=true)(h:VCall P f args [] λo _=>o= .ret r)(H:List SObj)(K:Out->List SObj->Prop)
 (j:K (.ret r) H):VCall P f args H K:=by
 intro C vs e u m;exact q7C q e (h {C with n:=0} vs e.nil (u.nil rfl λ_ h=>h) (q1i (C:=C) (C':={C with n:=0}) (Keeps.refl _ _) y m)) j
section

abbrev Fw(r:Option Nat):Fence:={Fence.wide with round:=r}
def q4g(r:Option Nat)(f:FuncId):(Fw r).fn f:=trivial
def q2S{r:Option Nat}{args:Array Value}{R:Ending->World->Prop}(h:Calls P f args w R):CallsIn (Fw r) n P f args w R:=
 (callsIn_wide (n:=n)).2 h

def evT(tmps:List SV):Operand->SV
 |.tmp t=>tmps.getD t .any
 |.const v=>.raw v
 |.global g=>.raw (.pointer (some ⟨g,0,none⟩))
 |.func f=>.fn f [] []

variable {tmps:List SV}{a:Act}
theorem q2f(h:SV.denL C tmps a.tmps.toList)(x:Operand):(evT tmps x).den C (a.eval x):=by
 cases x with
 |tmp t=>
  simp only [evT,Act.eval];rcases A8 t tmps.length with e|e
  . obtain ⟨v,hv,hd⟩:=q1v h (Af e)
    simp_all
  grind [SV.den]
 |const v=>rfl
 |global g=>rfl
 |func f=>simp only [evT,Act.eval,SV.den,SV.denL];simp_all

def putT(tmps:List SV):Option Tmp->SV->List SV
 |some d,s=>tmps.set d s
 |none,_=>tmps

variable {v:Value}
theorem q9t(h:SV.denL C tmps a.tmps.toList)(d:Option Tmp)(hs:s.den C v):SV.denL C (putT tmps d s) (a.put d v).tmps.toList:=by
 cases d with
 |none=>exact h
 |some d=>grind [putT,Act.put,q1u]

structure EnD extends En where
 base:List Deferred
instance:Coe EnD En:=⟨EnD.toEn⟩
class Ghost where
 inv0:EnD->Cx->List SObj->Prop
 fin:EnD->Cx->List SObj->List Deferred->Prop
 toFin0:∀ {E C H},TabE E.toEn C H->inv0 E C H->fin E C H E.base
 next0:∀ {E C C' H H'},Ext ⟨C,H⟩ C' H'->inv0 E C H->inv0 E C' H'
 same0:∀ {E C C' H H'},Wd C H->C'.w=C.w->(∀b,C.I b->C'.I b)->(∀b,C'.I b->C.I b\/OwnB C H b)->(∀b,OwnB C' H' b->OwnB C H b)->(∀n,0<E.C.n->H[0]?=some (.mark n)->H'[0]?=some (.mark n))->E.C.n<=C'.n->inv0 E C H->inv0 E C' H'
 rd:Option Nat->Prop:=λ_=>True
 rd0:rd none:=by trivial
def Ghost.inv[Ghost](E:EnD)(C:Cx)(H:List SObj):Prop:=TabE E.toEn C H/\Ghost.inv0 E C H
theorem Ghost.toFin[Ghost]{E:EnD}{C:Cx}{H:List SObj}(h:Ghost.inv E C H):Ghost.fin E C H E.base:=Ghost.toFin0 h.1 h.2
theorem Ghost.next[Ghost]{E:EnD}{C C':Cx}{H H':List SObj}(e:Ext ⟨C,H⟩ C' H')(h:Ghost.inv E C H):Ghost.inv E C' H':=⟨⟨h.1.tab.next e,h.1.old⟩,Ghost.next0 e h.2⟩
def Ghost.same[Ghost]{E:EnD}{C C':Cx}{H H':List SObj}(hw:Wd C H)(e:C'.w=C.w)(hi:∀b,C.I b->C'.I b)(hi':∀b,C'.I b->C.I b\/OwnB C H b)(ho:∀b,OwnB C' H' b->OwnB C H b)(hm:∀n,0<E.C.n->H[0]?=some (.mark n)->H'[0]?=some (.mark n))(hn:E.C.n<=C'.n)(h:Ghost.inv E C H):Ghost.inv E C' H':=
 ⟨⟨h.1.tab.sub e hi ho,h.1.old⟩,Ghost.same0 hw e hi hi' ho hm hn h.2⟩
instance (priority:=low) noGhost:Ghost where
 inv0:=λ_ _ _=>True
 fin:=λE C H ds=>ds=E.base/\TabE E.toEn C H/\True
 toFin0:=λht _=>⟨rfl,ht,trivial⟩
 next0:=λ_ _=>trivial
 same0:=λ_ _ _ _ _ _ _ _=>trivial
variable [Ghost]

structure Stp (E:EnD) (C:Cx) (H:List SObj) (C':Cx) (H':List SObj):Prop where
 evo:Evo C C'
 ext:Ext E C H->Ext E C' H'
 inv:Ghost.inv E C H->Ghost.inv E C' H'
theorem Stp.of{E:EnD}{C C':Cx}{H H':List SObj}(h:Ext ⟨C,H⟩ C' H'):Stp E C H C' H':=⟨h.evo,λk=>k.trans h,Ghost.next h⟩
def Stp.trans{E:EnD}{A B C:Cx}{H H' H'':List SObj}(h:Stp E A H B H')(k:Stp E B H' C H''):Stp E A H C H'':=⟨h.evo.trans k.evo,λx=>k.ext (h.ext x),λx=>k.inv (h.inv x)⟩

def OpV(P:Program)(o:Oper)(ev:Operand->SV)(H:List SObj)(K:Out->List SObj->Prop):Prop:=
 ∀ (E:EnD) (C:Cx) (r:Option Nat) (n:Nat) (a:Act) (next:Act->World->Prop) (Q:Exit->Act->World->Prop),
  Wd C H->Ghost.inv E C H->(∀x∈o.op.operands,(ev x).den C (a.eval x))->
  (∀s v H' C',K (.ret s) H'->Wd C' H'->Stp E C H C' H'->s.den C' v->next (a.put o.dst v) C'.w)->
  (∀s v H' C',K (.pan s) H'->Wd C' H'->Stp E C H C' H'->s.den C' v->Q (.panic [{v,recovered:=false}]) a C'.w)->
  o.wpIn (Fw r) n P a C.w next Q

theorem OpV.mono{P:Program}{o:Oper}{ev:Operand->SV}{H:List SObj}{K K':Out->List SObj->Prop}(h:OpV P o ev H K)(hk:∀o H',K o H'->K' o H'):OpV P o ev H K':=
 λE C r n a next Q hw hg hv h1 h2=>h E C r n a next Q hw hg hv (λs v H' C' k=>h1 s v H' C' (hk _ _ k)) (λs v H' C' k=>h2 s v H' C' (hk _ _ k))

theorem OpV.congr{P:Program}{o:Oper}{ev ev':Operand->SV}{H:List SObj}{K:Out->List SObj->Prop}(h:OpV P o ev H K)(he:∀x∈o.op.operands,ev' x=ev x):OpV P o ev' H K:=
 λE C r n a next Q hw hg hv h1 h2=>h E C r n a next Q hw hg (λx hx=>he x hx▸hv x hx) h1 h2

def VCallG(P:Program)(f:FuncId)(args:List SV)(H:List SObj)(K:Out->List SObj->Prop):Prop:=
 ∀ (E:EnD) (C:Cx) (vs:List Value),Wd C H->Ghost.inv E C H->SV.denL C args vs->
  Calls P f vs.toArray C.w λe w'=>∃o H' C',K o H'/\C'.w=w'/\Wd C' H'/\Stp E C H C' H'/\outDen C' o e
def VCall.g{P:Program}{f:FuncId}{args:List SV}{H:List SObj}{K:Out->List SObj->Prop}(h:VCall P f args H K):VCallG P f args H K:=
 λ_ C vs hw hg hv=>(h C vs hw hg.1.tab hv).mono λ_ _ ⟨o,H',C',k,e,w,x,r⟩=>⟨o,H',C',k,e,w,.of x,r⟩
theorem VCallG.mono{P:Program}{f:FuncId}{args:List SV}{H:List SObj}{K K':Out->List SObj->Prop}(h:VCallG P f args H K)(hk:∀o H',K o H'->K' o H'):VCallG P f args H K':=
 λE C vs hw hg hv=>(h E C vs hw hg hv).mono λ_ _ ⟨o,H',C',k,r⟩=>⟨o,H',C',hk _ _ k,r⟩

def OpV.dst{P:Program}{o:Oper}{ev:Operand->SV}{H:List SObj}{K:Out->List SObj->Prop}(h:OpV P o ev H K):OpV P o ev H K:=h

inductive It where
 |code (c:Code)
 |ops (all:Array Oper) (l:List Nat)
 |any (all:Array Oper) (listed:Array Bool) (fuel:Nat) (G:List Nat)
 |blk (id:Nat)
 |stop (Φ:List SV->List SObj->Prop)

structure M where
 k0:Nat
 todo:List It
 tmps:List SV
 heap:List SObj

inductive Ex where
 |normal|ret|exit (id:Nat) |pan (v:SV)

def markD(D:Nat):Deferred:={target:=.collected D,args:= #[]}
abbrev DefOk(E:EnD)(C:Cx)(H:List SObj)(ds:List Deferred):Prop:=ds=E.base/\Ghost.inv E C H
theorem DefOk.next{E:EnD}{C C':Cx}{H H':List SObj}{ds:List Deferred}(e:Ext ⟨C,H⟩ C' H')(h:DefOk E C H ds):DefOk E C' H' ds:=⟨h.1,Ghost.next e h.2⟩
def DefOk.stp{E:EnD}{C C':Cx}{H H':List SObj}{ds:List Deferred}(e:Stp E C H C' H')(h:DefOk E C H ds):DefOk E C' H' ds:=⟨h.1,e.inv h.2⟩
abbrev DefFin(E:EnD)(C:Cx)(H:List SObj)(ds:List Deferred):Prop:=Ghost.fin E C H ds
theorem DefOk.fin{E:EnD}{C:Cx}{H:List SObj}{e:List Deferred}(h:DefOk E C H e):DefFin E C H e:=by grind [Ghost.toFin]

structure DenG (g:EnD->Cx->List SObj->List Deferred->Prop) (E:EnD) (C:Cx) (tmps:List SV) (H:List SObj) (a:Act):Prop where
 wd:Wd C H
 ext:Ext E C H
 defs:g E C H a.defers
 tmps:SV.denL C tmps a.tmps.toList
abbrev Den(E:EnD)(C:Cx)(tmps:List SV)(H:List SObj)(a:Act):Prop:=DenG DefOk E C tmps H a
abbrev DenF(E:EnD)(C:Cx)(tmps:List SV)(H:List SObj)(a:Act):Prop:=DenG Ghost.fin E C tmps H a
def Den.fin{E:EnD}{C:Cx}{tmps:List SV}{H:List SObj}{a:Act}(h:Den E C tmps H a):DenF E C tmps H a:=⟨h.wd,h.ext,DefOk.fin h.defs,h.tmps⟩

def conc(E:EnD)(AQ:Ex->List SV->List SObj->Prop):Exit->Act->World->Prop
 |.normal,a,w=>∃C t H,AQ .normal t H/\C.w=w/\DenF E C t H a
 |.ret,a,w=>∃C t H,AQ .ret t H/\C.w=w/\DenF E C t H a
 |.exit id,a,w=>∃C t H,AQ (.exit id) t H/\C.w=w/\DenF E C t H a
 |.panic ch,a,w=>∃C t H s v,AQ (.pan s) t H/\ch= [{v,recovered:=false}]/\s.den C v/\C.w=w/\Wd C H/\Ext E C H/\DefFin E C H a.defers/\(t= []\/SV.denL C t a.tmps.toList)
 |_,_,_=>False

mutual
def wpT(F:Fence)(n:Nat)(P:Program)(E:EnD)(Q:Exit->Act->World->Prop):List It->Act->World->Prop
 | [],a,w=>Q .normal a w
 |.code c :: k,a,w=>c.wpIn F n P (λe a w=>match e with
  |.normal=>wpT F n P E Q k a w
  |.exit id=>exitT F n P E Q id k a w
  |e=>Q e a w) a w
 |.ops all l :: k,a,w=>wpOpsIn F n P all (λe a w=>match e with
  |.normal=>wpT F n P E Q k a w
  |.exit id=>exitT F n P E Q id k a w
  |e=>Q e a w) l a w
 |.any all listed fuel _ :: k,a,w=>wpAnyIn F n P .any all (λe a w=>match e with
  |.normal=>wpT F n P E Q k a w
  |.exit id=>exitT F n P E Q id k a w
  |e=>Q e a w) fuel listed a w
 |.blk _ :: k,a,w=>wpT F n P E Q k a w
 |.stop Φ :: _,a,w=>∃C t H,Φ t H/\C.w=w/\Den E C t H a
def exitT(F:Fence)(n:Nat)(P:Program)(E:EnD)(Q:Exit->Act->World->Prop)(id:Nat):List It->Act->World->Prop
 | [],a,w=>Q (.exit id) a w
 |.blk id' :: k,a,w=>if id'=id then wpT F n P E Q k a w else exitT F n P E Q id k a w
 |.code _ :: k,a,w=>exitT F n P E Q id k a w
 |.ops _ _ :: k,a,w=>exitT F n P E Q id k a w
 |.any _ _ _ _ :: k,a,w=>exitT F n P E Q id k a w
 |.stop _ :: k,a,w=>exitT F n P E Q id k a w
end

abbrev afterT(F:Fence)(n:Nat)(P:Program)(E:EnD)(Q:Exit->Act->World->Prop)(k:List It):Exit->Act->World->Prop:=λe a w=>match e with
 |.normal=>wpT F n P E Q k a w
 |.exit id=>exitT F n P E Q id k a w
 |e=>Q e a w

def Fit(E:EnD)(r:Option Nat)(k0:Nat):Prop:=E.C.n<=k0/\Ghost.rd r
def Sound(P:Program)(AQ:Ex->List SV->List SObj->Prop)(m:M):Prop:=
 ∀ (E:EnD) (r:Option Nat) (n:Nat) (C:Cx) (a:Act),Fit E r m.k0->Den E C m.tmps m.heap a->wpT (Fw r) n P E (conc E AQ) m.todo a C.w

variable {P:Program} {AQ:Ex->List SV->List SObj->Prop} {k0:Nat} {k:List It} {t:List SV} {H:List SObj}

def z6R{x y:Code}(h:Sound P AQ ⟨k0,.code x :: .code y :: k,t,H⟩):Sound P AQ ⟨k0,.code (.seq x y) :: k,t,H⟩:=by intro E r n C a u m;have j:=h E r n C a u m;simp only [wpT] at j⊢;refine wpIn_seq (wpIn_mono j λe a w q=> ?_);cases e<;>exact q

def z5G(h:Sound P AQ ⟨k0,k,t,H⟩):Sound P AQ ⟨k0,.code .skip :: k,t,H⟩:=λE r n C a j e=>by simp only [wpT];exact wpIn_skip (h E r n C a j e)

theorem z7f(h:AQ .ret t H):Sound P AQ ⟨k0,.code .ret :: k,t,H⟩:=λE r n C a h0 e=>by simp only [wpT];exact wpIn_ret ⟨C,t,H,h,rfl,Den.fin e⟩

theorem z6H(h:AQ .normal t H):Sound P AQ ⟨k0,[],t,H⟩:=λ_ _ _ C _ _ hd=>⟨C,t,H,h,rfl,Den.fin hd⟩

theorem z5Q{Φ:List SV->List SObj->Prop}(h:Φ t H):Sound P AQ ⟨k0,.stop Φ :: k,t,H⟩:=λE r n C a h0 hd=>by simp only [wpT];grind

variable {id:Nat}
def z8K(h:Sound P AQ ⟨k0,k,t,H⟩):Sound P AQ ⟨k0,.blk id :: k,t,H⟩:=λE r n C a j e=>by simp only [wpT];exact h E r n C a j e

variable {c:Code}
theorem z2a(h:Sound P AQ ⟨k0,.code c :: .blk id :: k,t,H⟩):Sound P AQ ⟨k0,.code (.block id c) :: k,t,H⟩:=λE r n C a u q=>by
 have j:=h E r n C a u q;simp only [wpT] at j⊢;refine wpIn_block (wpIn_mono j λe a w m=> ?_);cases e with
 |exit id'=>simp only [exitT] at m;simp only [Exit.inBlock];grind
 |_=>exact m

variable {b:Frame}{cs:List Frame}
theorem q0I{k:List Item}:step P (lone (b.atR a (.code (.scope c) :: k)) cs w)= .next (lone (b.atR a (.code c :: .inScope c :: k)) cs w):=
 step_lone_go (by rfl)
theorem q3h{k:List Item}:step P (lone (b.atR a (.inScope c :: k)) cs w)= .next (lone (b.atR a k) cs w):=
 step_lone_go (by rfl)
variable {F:Fence}{Q:Exit->Act->World->Prop}
theorem z5j(hQ:∀l a w,¬Q (.goto l) a w)(h:c.wpIn F n P Q a w):(Code.scope c).wpIn F n P Q a w:=by
 intro b k cs D B A;have m:(lone (b.atR a (.code (.scope c) :: k)) cs w).fenced P F:=fenced_calm B A rfl;obtain ⟨e,y,u,q,j⟩:=h b (.inScope c :: k) cs D B A;cases e with
 |normal=>exact ⟨.normal,y,u,q,.head m q0I (StepsIn.trans j (.one (fenced_calm B A rfl) q3h))⟩
 |exit id'=>
  have hx:exitTo id' (.inScope c :: k)=exitTo id' k:=by simp [exitTo]
  exact ⟨.exit id',y,u,q,λk' E=>.head m q0I (j.1 k' (by simp_all)),
   λz E=>let ⟨k₁,h1,h2⟩:=j.2 z (by simp_all);⟨k₁,h1,.head m q0I h2⟩⟩
 |goto l=>simp_all
 |ret=>exact ⟨_,y,u,q,.of_steps (.one m q0I) j⟩
 |panic ch=>exact ⟨_,y,u,q,.of_steps (.one m q0I) j⟩
 |outgrown=>exact ⟨_,y,u,q,.of_steps (.one m q0I) j⟩
def z2R(h:Sound P AQ ⟨k0,.code c :: k,t,H⟩):Sound P AQ ⟨k0,.code (.scope c) :: k,t,H⟩:=λE r n C a q j=>by have e:=h E r n C a q j;simp only [wpT] at e⊢;exact z5j (λl a w m=>m.elim) e
def z3n{l:Nat}(h:Sound P AQ ⟨k0,k,t,H⟩):Sound P AQ ⟨k0,.code (.label l) :: k,t,H⟩:=λE r n C a j e=>by simp only [wpT];exact wpIn_label (h E r n C a j e)

def exitTo'(id:Nat):List It->Option (List It)
 | []=>none
 |.blk id' :: k=>if id'=id then some k else exitTo' id k
 |_ :: k=>exitTo' id k

theorem q3p{F:Fence}{n:Nat}{E:EnD}{Q:Exit->Act->World->Prop}{id:Nat}{a:Act}{w:World}{k':List It}:∀ {k:List It},exitTo' id k=some k'->wpT F n P E Q k' a w->exitT F n P E Q id k a w
 | [],h,_=>by simp [exitTo'] at h
 |.blk id' :: k,h,hw=>by unfold exitTo' at h;rw [exitT];split at h;all_goals simp_all [q3p]
 |.code _ :: k,h,hw=>by rw [exitT];exact q3p h hw
 |.ops _ _ :: k,h,hw=>by rw [exitT];exact q3p h hw
 |.any _ _ _ _ :: k,h,hw=>by rw [exitT];exact q3p h hw
 |.stop _ :: k,h,hw=>by rw [exitT];exact q3p h hw

theorem q2m{F:Fence}{n:Nat}{E:EnD}{Q:Exit->Act->World->Prop}{id:Nat}{a:Act}{w:World}:∀ {k:List It},exitTo' id k=none->Q (.exit id) a w->exitT F n P E Q id k a w
 | [],_,h=>h
 |.blk id' :: k,hk,h=>by unfold exitTo' at hk;rw [exitT];split at hk;all_goals simp_all [q2m]
 |.code _ :: k,hk,h=>by rw [exitT];exact q2m hk h
 |.ops _ _ :: k,hk,h=>by rw [exitT];exact q2m hk h
 |.any _ _ _ _ :: k,hk,h=>by rw [exitT];exact q2m hk h
 |.stop _ :: k,hk,h=>by rw [exitT];exact q2m hk h
theorem z5N{k':List It}(j:exitTo' id k=some k')(h:Sound P AQ ⟨k0,k',t,H⟩):Sound P AQ ⟨k0,.code (.exit id) :: k,t,H⟩:=λE r n C a m e=>by simp only [wpT];exact wpIn_exit (q3p j (h E r n C a m e))

theorem z5g{c:Operand}{x y:Code}{b:Bool}(A:evT t c= .raw (.bool b))(z:b=true->Sound P AQ ⟨k0,.code x :: k,t,H⟩)(u:b=false->Sound P AQ ⟨k0,.code y :: k,t,H⟩):
 Sound P AQ ⟨k0,.code (.cond c x y) :: k,t,H⟩:=λE r n C a m e=>by
 have q:=q2f e.tmps c;rw [A,SV.den] at q;have g1:=λj=>z j E r n C a m e;have g2:=λj=>u j E r n C a m e;grind [wpT,wpIn_cond_split]

def SV.le:SV->SV->Prop:=λs s'=>∀C v,s.den C v->s'.den C v
theorem SV.le_refl(s:SV):SV.le s s:=λ_ _ h=>h
theorem SV.le_any(s:SV):SV.le s .any:=λ_ _ _=>by rw [SV.den];trivial
def leL:List SV->List SV->Prop
 | [],[]=>True
 |s :: l,s' :: l'=>SV.le s s'/\leL l l'
 |_,_=>False
def q2p{C:Cx}:∀ {l e:List SV} {vs:List Value},leL l e->SV.denL C l vs->SV.denL C e vs
 | [],[],_,_,h=>h
 |s :: l,s' :: e,_,hl,h=>by obtain ⟨v,us,rfl,j,m⟩:=q0c.1 h;exact q0c.2 ⟨v,us,rfl,hl.1 C v j,q2p hl.2 m⟩
 | [],_ :: _,_,hl,_=>hl.elim
 |_ :: _,[],_,hl,_=>hl.elim

def q0O(I:Nat->Act->World->Prop)(A:Nat)(D:I A a w)
 (round:∀m a w,I m a w->c.wpIn F n P (Exit.then (λu w'=>∃m',m'<m/\I m' u w') Q) a w):(Code.loop c).wpIn F n P Q a w:=by
 refine wpIn_loop (λa w=>∃m,I m a w) (λa w=>leastOf (λm=>I m a w)) ⟨A,D⟩ ?_;intro a w B;refine wpIn_mono (round _ a w (leastOf_spec B).1) ?_;intro e u w' q;cases e with
 |normal=>obtain ⟨y,z,j⟩:=q;exact show (∃n,I n u w')/\leastOf (λn=>I n u w') <leastOf (λn=>I n a w) from ⟨⟨y,j⟩,Nat.lt_of_le_of_lt ((leastOf_spec ⟨y,j⟩).2 y j) z⟩
 |exit id=>exact q
 |goto l=>exact q
 |ret=>exact q
 |panic ch=>exact q
 |outgrown=>exact q

variable {all:Array Oper}
theorem z1P(h:Sound P AQ ⟨k0,.ops all (List.range all.size) :: k,t,H⟩):Sound P AQ ⟨k0,.code (.region id all false) :: k,t,H⟩:=λE r n C a j e=>by have h1:=h E r n C a j e;grind [wpT,wpIn_region]

theorem z0w(h:Sound P AQ ⟨k0,k,t,H⟩):Sound P AQ ⟨k0,.ops all [] :: k,t,H⟩:=λE r n C a j e=>by have h1:=h E r n C a j e;grind [wpT,wpOpsIn]

def wantedT(all:Array Oper)(t:List SV)(o:Oper):Option Bool:=
 match o.guard with
 |none=>some true
 |some (j,want)=>match (all[j]?).bind (·.dst) with
  |some d=>match t.getD d .any with
   |.raw (.bool b)=>some (b==want)
   |.raw (.tuple _)=>some false
   |_=>none
  |none=>none

theorem q2l{o:Oper}{b:Bool}(h:SV.denL C t a.tmps.toList)(m:wantedT all t o=some b):Region.wanted o (yielded all a.tmps)=b:=by
 unfold wantedT at m;unfold Region.wanted;split at m
 . simp_all
 rename_i j want y;rw [y];split at m
 . rename_i d hdst;split at m
   . rename_i b' u;cases m;have q:=q2f h (.tmp d);simp only [evT] at q;rw [u,SV.den] at q;have hlt:d<t.length:=by grind
     have hlt':d<a.tmps.size:=by grind [q0v,Array.length_toList]
     simp_all [Act.eval,yielded]
   . rename_i vs u;cases m;have q:=q2f h (.tmp d);simp only [evT] at q;rw [u,SV.den] at q;simp only [Act.eval] at q;have hv:∀b,a.tmps[d]?≠some (.bool b):=λb e=>by simp_all
     grind [yielded]
   cases m
 cases m

def q3V{E:EnD}{C':Cx}{H':List SObj}{d:Option Tmp}(e:Den E C t H a)(m:Wd C' H')(j:Stp E C H C' H')(q:s.den C' v):Den E C' (putT t d s) H' (a.put d v) where
 wd:=m
 ext:=j.ext e.ext
 defs:=by
  have:(a.put d v).defers=a.defers:=by cases d<;>rfl
  rw [this];exact DefOk.stp j e.defs
 tmps:=q9t (q0f j.evo e.tmps) d q

theorem q4X{all:Array Oper}{i:Nat}{l:List Nat}{o:Oper}(z:all[i]?=some o)(y:wantedT all t o=some true)
 (h:OpV P o (evT t) H λ
  |.ret s,H'=>Sound P AQ ⟨k0,.ops all l :: k,putT t o.dst s,H'⟩
  |.pan s,H'=>AQ (.pan s) t H'):Sound P AQ ⟨k0,.ops all (i :: l) :: k,t,H⟩:=λE r n C a A e=>by
 simp only [wpT,wpOpsIn,z];rw [if_pos (q2l e.tmps y)];refine h E C r n a _ _ e.wd e.defs.2 (λx _=>q2f e.tmps x) ?_ ?_
 . intro s v H' C' q j m u;have:=q E r n C' (a.put o.dst v) A (q3V e j m u);grind [wpT]
 intro s v H' C' q j m u;exact ⟨C',t,H',s,v,q,rfl,u,rfl,j,m.ext e.ext,(DefOk.stp m e.defs).fin,.inr (q0f m.evo e.tmps)⟩

theorem q5j{i:Nat}{l:List Nat}{o:Oper}(m:all[i]?=some o)(j:wantedT all t o=some false)
 (h:Sound P AQ ⟨k0,.ops all l :: k,putT t o.dst (.raw (.tuple #[])),H⟩):Sound P AQ ⟨k0,.ops all (i :: l) :: k,t,H⟩:=λE r n C a q e=>by
 simp only [wpT,wpOpsIn,m];rw [if_neg (by rw [q2l e.tmps j];simp)];refine ⟨λf _=>q4g r f,?_⟩;have:=h E r n C (a.put o.dst undef) q (q3V e e.wd (.of (Ext.refl _ _)) (by rfl));grind [wpT]

end
section

def SameG(G:List Nat)(H H':List SObj):Prop:=∀h∈G,H'[h]?=H[h]?
theorem SameG.refl(G:List Nat)(H:List SObj):SameG G H H:=λ_ _=>rfl
def SameG.trans{G:List Nat}{A B C:List SObj}(h:SameG G A B)(k:SameG G B C):SameG G A C:=λx hx=>(k x hx).trans (h x hx)

variable [Ghost] {P:Program} {AQ:Ex->List SV->List SObj->Prop} {k0:Nat} {k:List It} {t:List SV} {H:List SObj} {all:Array Oper} {G:List Nat}

def OpStep(P:Program)(AQ:Ex->List SV->List SObj->Prop)(all:Array Oper)(i:Nat)(t:List SV)(H:List SObj)(K:List SV->List SObj->Prop):Prop:=
 ∃o,all[i]?=some o/\((wantedT all t o=some true/\OpV P o (evT t) H λ
  |.ret s,H'=>K (putT t o.dst s) H'
  |.pan s,H'=>AQ (.pan s) [] H')\/
  (wantedT all t o=some false/\K (putT t o.dst (.raw (.tuple #[]))) H))

theorem OpStep.mono{i:Nat}{K m:List SV->List SObj->Prop}(h:OpStep P AQ all i t H K)(q:∀t H,K t H->m t H):OpStep P AQ all i t H m:=by obtain ⟨o,u,h⟩:=h;refine ⟨o,u,orMap h (λ⟨j,e⟩=>⟨j,e.mono λx H' hx=> ?_⟩) (λ⟨j,e⟩=>⟨j,q _ _ e⟩)⟩;grind

def gk(o:Oper):Bool:=match o.op with
 |.store .. =>false
 |.call {callee:=.builtin .append,..}=>false
 |.call {callee:=.builtin .copy,..}=>false
 |.mapUpdate .. =>false
 |.insert .. =>false
 |_=>true
def strictP:List Nat->List Nat
 | []=>[]
 |h :: G=>if h==999999 then G else strictP G
theorem q2t:∀ {G:List Nat} {h:Nat},h∈strictP G->h∈G
 | [],_,hm=>by simp [strictP] at hm
 |h' :: G,h,hm=>by
  unfold strictP at hm;split at hm
  . exact AH _ hm
  exact AH _ (q2t hm)
def SameG.strict{G:List Nat}{H H':List SObj}(h:SameG G H H'):SameG (strictP G) H H':=λx hx=>h x (q2t hx)
def gsel(all:Array Oper)(i:Nat)(G:List Nat):List Nat:=match all[i]? with
 |some o=>if gk o then G else strictP G
 |none=>G

def AnyV(P:Program)(AQ:Ex->List SV->List SObj->Prop)(k0:Nat)(k:List It)(all:Array Oper)(G:List Nat):Nat->Array Bool->List SV->List SObj->Prop
 |0,listed,t,H=>Region.ready .any all listed= []/\Sound P AQ ⟨k0,k,t,H⟩
 |fuel+1,listed,t,H=>
  (Region.ready .any all listed= []->Sound P AQ ⟨k0,k,t,H⟩)/\
  ∀i∈Region.ready .any all listed,OpStep P AQ all i t H λt' H'=>SameG (gsel all i G) H H'/\AnyV P AQ k0 k all G fuel (listed.setIfInBounds i true) t' H'

theorem q5M:∀ (fuel:Nat) (listed:Array Bool) (t:List SV) (H:List SObj),AnyV P AQ k0 k all G fuel listed t H->
 ∀ (E:EnD) (r:Option Nat) (n:Nat) (C:Cx) (a:Act),Fit E r k0->Den E C t H a->wpAnyIn (Fw r) n P .any all (afterT (Fw r) n P E (conc E AQ) k) fuel listed a C.w
 |0,_,_,_,h,E,r,n,C,a,h0,hd=>⟨h.1,h.2 E r n C a h0 hd⟩
 |fuel+1,listed,t,H,h,E,r,n,C,a,h0,hd=>by
  refine ⟨λA=>h.1 A E r n C a h0 hd,λi D=> ?_⟩;obtain ⟨o,z,B⟩:=h.2 i D;unfold wpOpIn;simp only [z];rcases B with ⟨q,y⟩ | ⟨q,j⟩
  . rw [if_pos (q2l hd.tmps q)];refine y E C r n a _ _ hd.wd hd.defs.2 (λx _=>q2f hd.tmps x) ?_ ?_
    . intro s v H' C' j e m u;exact q5M fuel _ _ _ j.2 E r n C' _ h0 (q3V hd e m u)
    intro s v H' C' j e m u;exact ⟨C',[],H',s,v,j,rfl,u,rfl,e,m.ext hd.ext,(DefOk.stp m hd.defs).fin,.inl rfl⟩
  rw [if_neg (by rw [q2l hd.tmps q];simp)];exact ⟨λf _=>q4g r f,q5M fuel _ _ _ j.2 E r n C _ h0 (q3V hd hd.wd (.of (Ext.refl _ _)) (by rfl))⟩

def Cx.drew(C:Cx):Cx:={C with w:={C.w with drawn:=C.w.drawn+1}}
theorem q1U(C:Cx):Evo C C.drew:=⟨Ac _,λ_ _=>rfl,λ_ hb=>⟨hb,rfl⟩,λ_ _ h=>h⟩
def q2e(h:Wd C H):Wd C.drew H:=
 ⟨h.n,λx o ho=>q0z (C:=C) (C':=C.drew) (λ_ hb=>⟨hb,rfl⟩) x rfl (λ_ _=>rfl) (q0f (q1U C)) (h.obj x o ho),h.own,h.inj,h.imm⟩
def q1r(C:Cx)(H:List SObj):Ext ⟨C,H⟩ C.drew H:=⟨q1U C,Ac _,rfl,rfl,rfl,λ_ _ _=>rfl,λ_ h=>.inl h,λ_ h=>.inr h,λ_ _ h=>h⟩

theorem z5n{id:Nat}(G:List Nat)(m:P.follows .mixedOrders=true)(h:AnyV P AQ k0 k all G all.size (Array.replicate all.size false) t H):Sound P AQ ⟨k0,.code (.region id all true) :: k,t,H⟩:=λE r n C a q e=>by
 simp only [wpT];have j:Den E C.drew t H a:=⟨q2e e.wd,e.ext.trans (q1r C H),DefOk.next (q1r C H) e.defs,q0f (q1U C) e.tmps⟩
 exact wpIn_region_any m (q5M _ _ _ _ h E r n C.drew a q j)

def PureV(P:Program)(all:Array Oper)(G:List Nat)(o:Oper)(t:List SV)(H:List SObj)(s:SV):Prop:=
 (wantedT all t o=some true/\∀H',SameG G H H'->∀K:Out->List SObj->Prop,K (.ret s) H'->OpV P o (evT t) H' K)\/(wantedT all t o=some false/\s=(.raw (.tuple #[])))

variable {d:Option Tmp}
theorem j3j{x:Operand}(h:∀e,d=some e->x≠ .tmp e):evT (putT t d s) x=evT t x:=by
 cases d with
 |none=>rfl
 |some d=>
  cases x with
  |tmp e=>have hne:d≠e:=λj=>h d rfl (j▸rfl);grind [evT,putT]
  |_=>rfl

variable {o:Oper}
theorem z4a(h:∀e,d=some e->e ∉ o.looksAt all):∀x∈o.op.operands,evT (putT t d s) x=evT t x:=λx hx=>
 j3j λe m j=>h e m (by
  subst j
  exact List.mem_append_left _ (List.mem_filterMap.2 ⟨.tmp e,by grind,rfl⟩))

theorem q7O(h:∀e,d=some e->e ∉ o.looksAt all):wantedT all (putT t d s) o=wantedT all t o:=by
 unfold wantedT;cases hg:o.guard with
 |none=>rfl
 |some g=>
  obtain ⟨j,want⟩:=g;simp only;cases hdst:(all[j]?).bind (·.dst) with
  |none=>rfl
  |some e=>
   simp only
   have m:∀e',d=some e'->e'≠e:=λe' q heq=>h e' q (by
    grind [Oper.looksAt])
   cases d with
   |none=>rfl
   |some d=>have:=m d rfl;grind [putT]

theorem z1v{x y:Option Tmp}(v u:SV)(h:∀d,x=some d->y≠some d):putT (putT t x v) y u=putT (putT t y u) x v:=by
 cases x with
 |none=>rfl
 |some d=>
  cases y with
  |none=>rfl
  |some e=>have hne:d≠e:=λj=>h d rfl (j▸rfl);grind [putT,List.set_comm]

theorem PureV.of_put{oi q:Oper}{s u:SV}{H':List SObj}(y:PureV P all G oi t H s)(m:∀d,q.dst=some d->d ∉ oi.looksAt all)(D:SameG G H H'):PureV P all G oi (putT t q.dst u) H' s:=by unfold PureV at*;rw [q7O m];exact orMap y (λ⟨B,A⟩=>⟨B,λj e K z=>(A j (D.trans e) K z).congr (z4a m)⟩) id

theorem PureV.step{oi:Oper}{i:Nat}{s:SV}{K:List SV->List SObj->Prop}(m:all[i]?=some oi)(e:PureV P all G oi t H s)(h:K (putT t oi.dst s) H):OpStep P AQ all i t H K:=by refine ⟨oi,m,?_⟩;rcases e with ⟨j,e⟩ | ⟨j,rfl⟩;all_goals grind [SameG.refl]

theorem OpStep.comm{oi:Oper}{j:Nat}{s:SV}{G':List Nat}(A:∀q,all[j]?=some q->oi.apart all q=true)(e:∀H H',SameG (gsel all j G) H H'->SameG G' H H')(D:PureV P all G' oi t H s){K:List SV->List SObj->Prop}
 (h:OpStep P AQ all j (putT t oi.dst s) H λt' H'=>SameG (gsel all j G) H H'/\K t' H'):
 OpStep P AQ all j t H λt' H'=>SameG (gsel all j G) H H'/\PureV P all G' oi t' H' s/\K (putT t' oi.dst s) H':=by
 obtain ⟨q,m,h⟩:=h;obtain ⟨E,h2,J⟩:=Oper.apart_spec (A q m);refine ⟨q,m,?_⟩;rw [q7O E] at h;rcases h with ⟨z,B⟩ | ⟨z,L,hk⟩
 . refine .inl ⟨z,(B.congr (λx y=>(z4a E x y).symm)).mono λx H' y=> ?_⟩;cases x with
   |ret u=>exact ⟨y.1,D.of_put J (e _ _ y.1),by grind [z1v]⟩
   |pan u=>exact y
 exact .inr ⟨z,L,D.of_put J (e _ _ L),by grind [z1v]⟩

def reaches(all:Array Oper):Nat->Nat->Nat->Bool
 |0,_,_=>false
 |n+1,j,i=>match all[j]? with
  |some o=>o.after.toList.any λe=>Region.binds .any e&& (e.on==i||reaches all n e.on i)
  |none=>false
def Closed(all:Array Oper)(listed:Array Bool):Prop:=∀m o,all[m]?=some o->listed.getD m false=true->∀e∈o.after,Region.binds .any e=true->listed.getD e.on false=true
theorem q8z{listed:Array Bool}{i:Nat}(y:Closed all listed)(z:listed.getD i false=false):∀ (n m:Nat),listed.getD m false=true->reaches all n m i=false
 |0,_,_=>rfl
 |n+1,m,hm=>by
  unfold reaches;cases A:all[m]? with
  |none=>rfl
  |some o=>
   simp only;rw [List.any_eq_false];intro e he u;simp only [Ak,CP,beq_iff_eq] at u;have q:=y m o A hm e (by grind) u.1;rcases u.2 with j|j
   . rw [j,z] at q;cases q
   rw [q8z y z n e.on q] at j;cases j
variable {listed:Array Bool}{i:Nat}
theorem q9L{j:Nat}{q:Oper}(hc:Closed all listed)(hi:listed.getD i false=false)(m:all[j]?=some q)(hall:∀e∈q.after,Region.binds .any e=true->listed.getD e.on false=true)(n:Nat):reaches all n j i=false:=by
 cases n with
 |zero=>rfl
 |succ n=>unfold reaches;rw [m];simp only;rw [List.any_eq_false];intro e he u;simp only [Ak,CP,beq_iff_eq] at u;grind [q8z]
theorem Closed.set{listed:Array Bool}{j:Nat}{y:Oper}(E:Closed all listed)(hoj:all[j]?=some y)(hall:∀e∈y.after,Region.binds .any e=true->listed.getD e.on false=true):Closed all (listed.setIfInBounds j true):=by
 have mono:∀x,listed.getD x false=true->(listed.setIfInBounds j true).getD x false=true:=λx hx=>by
  by_cases e:j=x
  . subst e;rcases A8 j listed.size with B|B;all_goals simp_all
  simp_all
 intro m o z u e A D;by_cases q:j=m
 . simp_all
 rw [getD_set_ne false q] at u;exact mono _ (E m o z u e A D)

variable {oi:Oper}
theorem q5y{N:Nat}{G':List Nat}(V:all[i]?=some oi):
 ∀ (fuel:Nat) (listed:Array Bool) (t:List SV) (H:List SObj),
  (∀j B,all[j]?=some B->j≠i->listed.getD j true=false->(∀e∈B.after,Region.binds .any e=true->e.on≠i)->oi.apart all B=true/\(reaches all N j i=false->∀H H',SameG (gsel all j G) H H'->SameG G' H H'))->(Closed all listed\/G'= [])->
  i∈Region.ready .any all listed->PureV P all G' oi t H s->
  AnyV P AQ k0 k all G fuel (listed.setIfInBounds i true) (putT t oi.dst s) H->AnyV P AQ k0 k all G (fuel+1) listed t H:=by
 intro fuel;induction fuel with
 |zero=>
  intro listed t H _ _ S D h;refine ⟨λX=>(by simp_all),λj E=> ?_⟩;by_cases m:j=i
  . subst m;exact D.step V ⟨SameG.refl _ _,h⟩
  have:=ready_mono E m;rw [h.1] at this;cases this
 |succ fuel ih=>
  intro listed t H u z S D h;refine ⟨λX=>(by simp_all),λj E=> ?_⟩;by_cases m:j=i
  . subst m;exact D.step V ⟨SameG.refl _ _,h⟩
  have h1:=h.2 j (ready_mono E m);obtain ⟨hjun,B,O,hall⟩:=mem_ready.1 E;have hnot:∀e∈B.after,Region.binds .any e=true->e.on≠i:=λe he Y heq=>by grind [mem_ready]
  have R:∀y,all[j]?=some y->oi.apart all y=true:=λy hoj'=>by grind
  have hiu:listed.getD i false=false:=by grind [mem_ready]
  have A:∀H H',SameG (gsel all j G) H H'->SameG G' H H':=by
   rcases z with z|rfl
   . grind [q9L]
   exact λ_ _ _ _ hh=>by cases hh
  have W:=OpStep.comm R A D h1;have q:∀k ok,all[k]?=some ok->k≠i->(listed.setIfInBounds j true).getD k true=false->
   (∀e∈ok.after,Region.binds .any e=true->e.on≠i)->oi.apart all ok=true/\(reaches all N k i=false->∀H H',SameG (gsel all k G) H H'->SameG G' H H'):=λk ok Z L hun J=>by
   refine u k ok Z L ?_ J;by_cases hjk:j=k;all_goals simp_all
  refine W.mono λt' H' U=>⟨U.1,ih (listed.setIfInBounds j true) t' H' q (orMap z (λhc=>hc.set O (λe he Y=>by simp_all)) id) (ready_mono S (Ne.symm m)) U.2.1 ?_⟩
  grind [Array.setIfInBounds_comm]

variable {fuel:Nat}
theorem q3x(e:((Region.ready .any all listed).contains i&& Region.free .any all listed i)=true)(m:all[i]?=some oi)
 (q:PureV P all [] oi t H s)(h:AnyV P AQ k0 k all G fuel (listed.setIfInBounds i true) (putT t oi.dst s) H):AnyV P AQ k0 k all G (fuel+1) listed t H:=by
 rw [Ak] at e;exact q5y (N:=0) (G':=[]) m fuel listed t H (λj D A u B z=>⟨Region.free_spec m e.2 j D A u B z,λ_ _ _ _ _ y=>by cases y⟩) (.inr rfl) (by simp_all) q h

def closedB(all:Array Oper)(listed:Array Bool):Bool:=
 (List.range all.size).all λm=> !listed.getD m false||match all[m]? with
  |some o=>o.after.toList.all λe=> !Region.binds .any e||listed.getD e.on false
  |none=>true
theorem q8r(h:closedB all listed=true):Closed all listed:=by intro m o ho hm e he hb;simp only [closedB,Bj,BN] at h;grind
def ldFree(all:Array Oper)(listed:Array Bool)(i:Nat):Bool:=
 closedB all listed&& (List.range all.size).all λj=>j==i||listed.getD j true||match all[j]? with
  |some oj=>reaches all all.size j i||gk oj
  |none=>true
theorem z2y(h:ldFree all listed i=true)(j:Nat)(m:Oper)(e:all[j]?=some m)(hne:j≠i)(hun:listed.getD j true=false)(hno:reaches all all.size j i=false):gsel all j G=G:=by
 simp only [ldFree,Ak,Bj,BN] at h;have h1:=h.2 j (Ax.1 e).1
 simp_all [gsel]

theorem z5y(e:((Region.ready .any all listed).contains i&& Region.free .any all listed i)=true)(hL:ldFree all listed i=true)(m:all[i]?=some oi)
 (q:PureV P all G oi t H s)(h:AnyV P AQ k0 k all G fuel (listed.setIfInBounds i true) (putT t oi.dst s) H):AnyV P AQ k0 k all G (fuel+1) listed t H:=by
 rw [Ak] at e;exact q5y (N:=all.size) (G':=G) m fuel listed t H (λj B z u A y=>⟨Region.free_spec m e.2 j B z u A y,λhno _ _ hs=>by grind [z2y]⟩) (.inl (q8r (by simp_all [ldFree]))) (by simp_all) q h

theorem q8O(u:((Region.ready .any all listed).contains i&& Region.free .any all listed i)=true)(m:closedB all listed=true)(y:all[i]?=some oi)
 (z:PureV P all (strictP G) oi t H s)(h:AnyV P AQ k0 k all G fuel (listed.setIfInBounds i true) (putT t oi.dst s) H):AnyV P AQ k0 k all G (fuel+1) listed t H:=by
 rw [Ak] at u
 exact q5y (N:=0) (G':=strictP G) y fuel listed t H (λj E q A D B=>⟨Region.free_spec y u.2 j E q A D B,λ_ _ _ e=>by
  unfold gsel at e;rw [q] at e;simp only at e;split at e
  . exact e.strict
  exact e⟩) (.inl (q8r m)) (by simp_all) z h

theorem j3N(hB:(Region.ready .any all listed== [i])=true)(q:all[i]?=some o)(m:wantedT all t o=some true)
 (h:OpV P o (evT t) H λ
  |.ret s,H'=>SameG (gsel all i G) H H'/\AnyV P AQ k0 k all G fuel (listed.setIfInBounds i true) (putT t o.dst s) H'
  |.pan s,H'=>AQ (.pan s) [] H'):AnyV P AQ k0 k all G (fuel+1) listed t H:=by
 have e:Region.ready .any all listed= [i]:=by grind
 refine ⟨λh0=>(by simp_all),λj u=> ?_⟩;rw [e] at u;obtain rfl:j=i:=by grind
 exact ⟨o,q,.inl ⟨m,h⟩⟩

theorem j1c(hB:((Region.ready .any all listed).contains i&& Region.free .any all listed i)=true)(ho:all[i]?=some o)(hw:wantedT all t o=some false)
 (h:AnyV P AQ k0 k all G fuel (listed.setIfInBounds i true) (putT t o.dst (.raw (.tuple #[]))) H):AnyV P AQ k0 k all G (fuel+1) listed t H:=
 q3x hB ho (.inr ⟨hw,rfl⟩) h

theorem any_nil(hB:(Region.ready .any all listed).isEmpty=true)(h:Sound P AQ ⟨k0,k,t,H⟩):AnyV P AQ k0 k all G fuel listed t H:=by
 have e:Region.ready .any all listed= []:=by grind
 cases fuel with
 |zero=>exact ⟨e,h⟩
 |succ fuel=>exact ⟨λ_=>h,λi hi=>by simp_all⟩
end
section

variable [Ghost] {P:Program} {o:Oper} {ev:Operand->SV} {H:List SObj} {K:Out->List SObj->Prop}

theorem z3R(q:∀c,o.op≠ .defer c)
 (h:∀ (E:EnD) (C:Cx) (e:Operand->Value),Wd C H->Ghost.inv E C H->(∀x∈o.op.operands,(ev x).den C (e x))->∃s v H' C',K (.ret s) H'/\((execOp e o).run P C.w= .ok (.value v) C'.w\/((execOp e o).run P C.w= .ok .skip C'.w/\v=undef))/\Wd C' H'/\Stp E C H C' H'/\s.den C' v):
 OpV P o ev H K:=by
 intro E C r n a next Q B J D y _
 obtain ⟨s,v,H',C',u,j,m,A,z⟩:=h E C a.eval B J D;refine ⟨λf _=>q4g r f,?_⟩;rw [Oper.semAt_eq _ _ _ q];rcases j with j| ⟨j,rfl⟩
 . rw [j];exact y s v H' C' u m A z
 rw [j];exact y s _ H' C' u m A z
theorem q0L(q:∀c,o.op≠ .defer c)
 (h:∀ (C:Cx) (e:Operand->Value),Wd C H->(∀x∈o.op.operands,(ev x).den C (e x))->∃s v H' C',K (.ret s) H'/\((execOp e o).run P C.w= .ok (.value v) C'.w\/((execOp e o).run P C.w= .ok .skip C'.w/\v=undef))/\Wd C' H'/\Ext ⟨C,H⟩ C' H'/\s.den C' v):
 OpV P o ev H K:=by
 intro E C r n a next Q B _ D y _
 obtain ⟨s,v,H',C',u,j,m,A,z⟩:=h C a.eval B D;refine ⟨λf _=>q4g r f,?_⟩;rw [Oper.semAt_eq _ _ _ q];rcases j with j| ⟨j,rfl⟩
 . rw [j];exact y s v H' C' u m (.of A) z
 rw [j];exact y s _ H' C' u m (.of A) z

theorem q0m(j:∀c,o.op≠ .defer c)
 (h:∀ (C:Cx) (e:Operand->Value),Wd C H->(∀x∈o.op.operands,(ev x).den C (e x))->∃v,(execOp e o).run P C.w= .ok (.value v) C.w/\s.den C v)(hk:K (.ret s) H):
 OpV P o ev H K:=
 q0L j λC e m q=>by obtain ⟨v,h1,h2⟩:=h C e m q;grind [Ext.refl]

def Cx.grow(C:Cx)(o:Obj):Cx:={ρ:=λh=>if h=C.n then some C.w.heap.size else C.ρ h,n:=C.n+1,I:=C.I,w:=C.w.alloc o}

theorem q1p(w:World)(o:Obj)(h:b<w.heap.size):(w.alloc o).heap[b]?=w.heap[b]?:=by show (w.heap.push o)[b]?=_;grind
theorem q1q(w:World)(o:Obj):(w.alloc o).heap[w.heap.size]?=some o:=by
 show (w.heap.push o)[w.heap.size]?=_
 simp_all
theorem q6w(j:∀b,C.I b->b<C.w.heap.size)(o:Obj):Evo C (C.grow o) where
 n:=CV _
 ρ:=λh hh=>by simp only [Cx.grow];grind
 I:=λb e=>⟨e,q1p _ _ (j b e)⟩
 sz:=λb m hm=>by grind [World.bsize,Cx.grow,q1p]

theorem q0j{α:Type}{H:List α}{x y:α}(hh:(H++ [x])[h]?=some y):(h<H.length/\H[h]?=some y)\/(h=H.length/\y=x):=by grind

theorem q5A(j:Wd C H)(o:Obj)(so:SObj)(O:objDen (C.grow o) C.n so):Wd (C.grow o) (H++ [so])/\Ext ⟨C,H⟩ (C.grow o) (H++ [so]):=by
 have z:=q6w j.imm o;have D:∀b,OwnB (C.grow o) (H++ [so]) b->OwnB C H b\/b=C.w.heap.size:=by
  rintro b ⟨h,x,J,B,e⟩;rcases q0j J with ⟨m,q⟩ | ⟨m,q⟩
  . refine .inl ⟨h,x,q,B,?_⟩;simp only [Cx.grow] at e;rwa [if_neg (by rw [j.n];omega)] at e
  subst m;simp only [Cx.grow] at e;rw [if_pos j.n.symm] at e
  simp_all
 have hgs:(C.grow o).w.heap.size=C.w.heap.size+1:=CQ _;refine ⟨⟨?_,?_,?_,?_,?_⟩,⟨z,by simp_all,rfl,rfl,rfl,λb e _=>q1p _ _ e,λb e=>.inl e,λb e=> ?_,λ_ _ S=>q2J S⟩⟩
 . simp [Cx.grow,j.n]
 . intro h x J;rcases q0j J with ⟨m,q⟩ | ⟨m,q⟩
   . by_cases B:x.live=true
     . refine q0z z.I h (z.ρ h (by rw [j.n];exact m)) (λb e=>q1p _ _ (j.own b ⟨h,x,q,B,e⟩).2) (q0f z) (j.obj h x q)
     cases x<;>first|trivial|simp [SObj.live] at B
   subst q;rw [m,<-j.n];exact O
 . intro b e;rcases D b e with m|rfl
   . have:=j.own b m;exact ⟨this.1,by omega⟩
   refine ⟨λR=>absurd (j.imm _ R) (by omega),by omega⟩
 . intro h L x x' b J N B E e u;rcases q0j J with ⟨m,q⟩ | ⟨m,q⟩ <;>rcases q0j N with ⟨y,A⟩ | ⟨y,A⟩
   . rw [z.ρ h (by rw [j.n];exact m)] at e;rw [z.ρ L (by rw [j.n];exact y)] at u;exact j.inj h L x x' b q A B E e u
   . exfalso;rw [z.ρ h (by rw [j.n];exact m)] at e;have:=(j.own b ⟨h,x,q,B,e⟩).2;simp only [Cx.grow,y,<-j.n,if_true] at u
     simp_all
   . exfalso;rw [z.ρ L (by rw [j.n];exact y)] at u;have:=(j.own b ⟨L,x',A,E,u⟩).2;simp only [Cx.grow,m,<-j.n,if_true] at e
     simp_all
   omega
 . intro b e;have:=j.imm b e;omega
 grind

theorem z1x(L:Wd C H){so so':SObj}(R:H[h]?=some so)(Y:so.live=true)(hl':so'.live=true)(hb:C.ρ h=some b)(w':World)
 (u:∀j,j≠b->w'.heap[j]?=C.w.heap[j]?)(hsz:w'.heap.size=C.w.heap.size)(hbs:∀m,World.bsize C.w b=some m->World.bsize w' b=some m)
 (ab:w'.os=C.w.os)(aa:w'.tape=C.w.tape)(W:w'.output=C.w.output)(hs:objDen {C with w:=w'} h so'):
 Wd {C with w:=w'} (H.set h so')/\Ext ⟨C,H⟩ {C with w:=w'} (H.set h so')/\Evo C {C with w:=w'}:=by
 have N:OwnB C H b:=⟨h,so,R,Y,hb⟩;have V:∀j,C.I j->j≠b:=λj D e=>(L.own b N).1 (e▸D)
 have U:Evo C {C with w:=w'}:=⟨Ac _,λ_ _=>rfl,λj D=>⟨D,u j (V j D)⟩,λj m hm=>by
  grind [World.bsize]⟩
 have hlt:h<H.length:=(Am.1 R).1;have E:∀ {A x},(H.set h so')[A]?=some x->(A=h/\x=so')\/(A≠h/\H[A]?=some x):=by grind
 have B:∀j,OwnB {C with w:=w'} (H.set h so') j->OwnB C H j:=by
  rintro j ⟨A,x,S,q,X⟩;rcases E S with ⟨rfl,rfl⟩ | ⟨O,J⟩
  . simp_all
  exact ⟨A,x,J,q,X⟩
 refine ⟨⟨?_,?_,?_,?_,?_⟩,⟨U,by simp_all,ab,aa,W,λj _ hn=>u j (λe=>hn (e▸N)),λj D=>.inl D,λj z=>.inr (B j z),λ_ _ hn=>q3M R Y hn⟩,U⟩
 . simp [L.n]
 . intro A x S;rcases E S with ⟨rfl,rfl⟩ | ⟨O,J⟩
   . exact hs
   by_cases q:x.live=true
   . exact q0z U.I A rfl (λj z=>u j (λe=>O (L.inj A h x so b J R q Y (e▸z) hb))) (q0f U) (L.obj A x J)
   cases x<;>first|trivial|simp [SObj.live] at q
 . intro j z;have:=L.own j (B j z)
   simp_all
 . intro O J x x' j S hx' q hlx' ac Z;have g1:∃y,H[O]?=some y/\y.live=true:=by grind
   have g2:∃y,H[J]?=some y/\y.live=true:=by grind
   obtain ⟨y1,e1,l1⟩:=g1;obtain ⟨y2,e2,l2⟩:=g2;exact L.inj O J y1 y2 j e1 e2 l1 l2 ac Z
 intro j D;have:=L.imm j D
 simp_all

def aggOf(P:Program)(t:TypeId):Option (Option Nat):=
 match P.underlying t,P.info? t with
 |some (.struct _),some i=>some (some i.size)
 |some (.array _ _),some i=>some (some i.size)
 |some _,some _=>some none
 |_,_=>none

variable {t:TypeId}{x:Option Nat}
theorem q2x(h:aggOf P t=some x)(w:World):(isAgg t).run P w= .ok x.isSome w:=by
 unfold aggOf at h;simp only [isAgg,underlying,Sem.run_bind,run_program,Result.andThen];cases e:P.underlying t with
 |none=>simp_all
 |some d=>
  rw [e] at h;cases j:P.info? t with
  |none=>simp_all
  |some i=>cases d<;>simp [j] at h<;>subst h<;>simp
theorem q0k(h:(P.info? t).map (·.size)=some n)(w:World):(sizeOf t).run P w= .ok n w:=by
 cases hi:P.info? t with
 |none=>grind
 |some i=>simp_all [sizeOf,typeInfo]
theorem q5t(h:aggOf P t=some (some n)):(P.info? t).map (·.size)=some n:=by grind [aggOf]

def pick(cs:List SV)(off:Nat):Option Nat->Option SV
 |none=>cs[off]?
 |some n=>if off+n<=cs.length then some (.agg ((cs.drop off).take n)) else none

theorem q0H(b off i:Nat):(⟨b,off,none⟩:Addr).add i=⟨b,off+i,none⟩:=by grind [Addr.add]

theorem q1b(ht:aggOf P t=some x){base off:Nat}(m:SV.denL C cs vs)
 (hc:∀j u,vs[j]?=some u->w.cell? ⟨b,base+j,none⟩=some u)(e:pick cs off x=some s):∃v,(loadVar t ⟨b,base+off,none⟩).run P w= .ok v w/\s.den C v:=by
 cases x with
 |none=>
  simp only [pick] at e;obtain ⟨v,hv,hs⟩:=q1v m e
  simp_all [loadVar,q2x]
 |some n=>
  simp only [pick] at e;split at e
  . rename_i hle;cases e;have hlen:((vs.drop off).take n).length=n:=by grind [q0v]
    refine ⟨.agg ((vs.drop off).take n).toArray,?_,?_⟩
    . have hl:=run_loadCells_list (P:=P) w ⟨b,base+off,none⟩ ((vs.drop off).take n) (λj v hj=>by
       grind [q0H])
      simp_all [loadVar,q2x,q0k,q5t]
    rw [SV.den];exact ⟨_,rfl,q5e n (q5k off m)⟩
  cases e

theorem q0h{T:TypeId}{fz:Nat×Nat}(h:w.heap[b]?=some (.cells vs.toArray T fz))(j:Nat):w.cell? ⟨b,j,none⟩=vs[j]?:=by simp [World.cell?,h]

def rawL(vs:List Value):List SV:=vs.map .raw
theorem q1a{C:Cx}:∀ (vs:List Value),SV.denL C (rawL vs) vs
 | []=>by rfl
 |v :: vs=>by simp only [rawL,Az];exact q0c.2 ⟨v,vs,rfl,by rw [SV.den],q1a vs⟩
theorem q1d{C:Cx}:∀ {vs us:List Value},SV.denL C (rawL vs) us->us=vs
 | [],us,h=>by grind [rawL,SV.denL]
 |v :: vs,us,h=>by simp only [rawL,Az] at h;obtain ⟨u,us',rfl,e,j⟩:=q0c.1 h;rw [SV.den] at e;subst e;rw [q1d j]

def SV.ofT(ag:Option Nat)(t:Ty)(x:t.den):Option SV:=match ag with
 |none=>match t.cells x with
  | [s]=>some s
  |_=>none
 |some _=>if t.plain then some (.agg (t.cells x)) else some (.dat t x)
variable {ag:Option Nat}
theorem q5c{off:Nat}{T:TypeId}{t:Ty}{x:t.den}(y:aggOf P T=some ag)(B:Lies C.I C.w b off t x)(e:SV.ofT ag t x=some s)(hm:ag=none\/ag=some t.size):
 ∃v,(loadVar T ⟨b,off,none⟩).run P C.w= .ok v C.w/\s.den C v:=by
 obtain ⟨us,u,z⟩:=B;have hlen:=t.rel_size _ _ u;have A:=t.cells_den _ _ u;cases ag with
 |none=>
  unfold SV.ofT at e;simp only at e;split at e
  . rename_i s' q;cases e;obtain ⟨v,m,j⟩:=q1b (P:=P) (off:=0) y A z (s:=s) (by rw [q];rfl)
    simp_all
  cases e
 |some n=>
  obtain rfl:n=t.size:=by simp_all
  obtain ⟨v,m,j⟩:=q1b (P:=P) (C:=C) (off:=0) (s:=.agg (rawL us)) y (q1a us) z (by grind [pick,rawL]);rw [AG] at m;rw [SV.den] at j;obtain ⟨vs,rfl,j⟩:=j;rw [q1d j] at m;refine ⟨_,m,?_⟩;unfold SV.ofT at e;simp only at e;split at e
  . cases e;rw [SV.den];simp_all
  cases e;rw [SV.den];simp_all
def ZLd(C:Cx)(ag:Option Nat)(b off:Nat)(s:SV):Prop:=(∃cs vs,SV.denL C cs vs/\(∀j u,vs[j]?=some u->C.w.cell? ⟨b,off+j,none⟩=some u)/\pick cs 0 ag=some s)\/
 ∃t x,Lies C.I C.w b off t x/\SV.ofT ag t x=some s/\(ag=none\/ag=some t.size)
variable {x:Operand}
theorem j5j{off:Nat}(hop:o.op= .load t x)(z:aggOf P t=some ag)(R:ev x= .raw (.pointer (some ⟨b,off,none⟩)))
 (h:∀E C,Wd C H->Ghost.inv E C H->∃s,ZLd C ag b off s/\K (.ret s) H):OpV P o ev H K:=by
 refine z3R (by simp_all) λE C e q A O=> ?_;have N:=O x (by grind [Op.operands]);rw [R,SV.den] at N;obtain ⟨s,J,B⟩:=h E C q A;have j:∃v,(loadVar t ⟨b,off,none⟩).run P C.w= .ok v C.w/\s.den C v:=by
  rcases J with ⟨cs,vs,u,S,L⟩ | ⟨ty,y,hl,hs,hm⟩
  . obtain ⟨v,D,m⟩:=q1b (P:=P) z (b:=b) (base:=off) (off:=0) u S L
    simp_all
  grind [q5c]
 obtain ⟨v,D,m⟩:=j;exact ⟨s,v,H,C,B,.inl (by simp_all [execOp,Instr.loadAt,Instr.sureAddr]),q,.of (Ext.refl _ _),m⟩

theorem z1B{off:Nat}{T:TypeId}(hop:o.op= .load t x)(A:aggOf P t=some ag)(R:ev x= .ptr h off)
 (L:H[h]?=some (.cells T cs))(J:pick cs off ag=some s)(D:K (.ret s) H):OpV P o ev H K:=by
 refine q0m (by simp_all) (s:=s) (λC e E N=> ?_) D;have y:=N x (by grind [Op.operands]);rw [R,SV.den] at y;obtain ⟨_,b,B,hv'⟩:=y;obtain ⟨b',vs,q,m,z⟩:=E.obj h _ L;rw [B] at q;cases q;obtain ⟨v,h1,h2⟩:=q1b A (b:=b) (base:=0) (off:=off) z (λj u O=>by rw [Ag,q0h m];exact O) J
 simp_all [execOp,Instr.loadAt,Instr.sureAddr]

theorem q9Z{ty:Ty}{d:ty.den}{j:Nat}(hop:o.op= .load t x)(B:aggOf P t=some ag)(z:ev x= .iptr ty d j)
 (q:pick (ty.cells d) j ag=some s)(u:K (.ret s) H):OpV P o ev H K:=by
 refine q0m (by simp_all) (s:=s) (λC e hw y=> ?_) u;have m:=y x (by grind [Op.operands]);rw [z,SV.den] at m;obtain ⟨b,off,vs,hv',_,A,D⟩:=m;obtain ⟨v,h1,h2⟩:=q1b B (b:=b) (base:=off) (off:=j) (Ty.cells_den _ _ _ A) D q
 simp_all [execOp,Instr.loadAt,Instr.sureAddr]

theorem z0l{i y:Nat}{ty:Ty}{xs:List ty.den}{d:ty.den}(hop:o.op= .load t x)(B:aggOf P t=some ag)(W:ev x= .rptr h ty i y)
 (O:H[h]?=some (.row ty xs))(S:xs[i]?=some d)(N:pick (ty.cells d) y ag=some s)(E:K (.ret s) H):OpV P o ev H K:=by
 refine q0m (by simp_all) (s:=s) (λC e L U=> ?_) E;have z:=U x (by grind [Op.operands]);rw [W,SV.den] at z;obtain ⟨_,b,D,hv'⟩:=z;rcases L.obj h _ O with ⟨J,A⟩ | ⟨b',arr,T,fz,m,hcell,hfz,hsz,q⟩
 . simp_all
 rw [D] at m;cases m;obtain ⟨us,R,X⟩:=q i d S;obtain ⟨v,J,A⟩:=q1b B (b:=b) (base:=i*ty.size) (off:=y) (Ty.cells_den _ _ _ R) (λj u V=>by have:=X j u V;rwa [Ag] at this) N
 simp_all [execOp,Instr.loadAt,Instr.sureAddr]
end

variable {H:List SObj}
variable {I:Nat->Prop} {w:World} {b off:Nat}
theorem Lies.fst{a c:Ty}{x:(Ty.prod a c).den}(h:Lies I w b off (.prod a c) x):Lies I w b off a x.1:=by obtain ⟨us,⟨m,v2,rfl,e,_⟩,q⟩:=h;exact ⟨m,e,λj u hu=>q j u (by grind)⟩
theorem Lies.snd{a c:Ty}{x:(Ty.prod a c).den}(h:Lies I w b off (.prod a c) x):Lies I w b (off+a.size) c x.2:=by
 obtain ⟨us,⟨v1,q,rfl,m,e⟩,hc⟩:=h;have hl:=a.rel_size _ _ m;refine ⟨q,e,λj u hu=> ?_⟩
 simp_all [Au,AI]

def q7z{α:Type}:∀ {vss:List (List α)},(∀us∈vss,us.length=1)->∀i:Nat,vss.flatten[i]?=(vss[i]?).bind λ(l:List α)=>l[0]?
 | [],_,i=>by simp
 |us :: vss,h,i=>by
  obtain ⟨u,rfl⟩:=Bc.1 (h us (Bi ..));cases i with
  |zero=>simp
  |succ i=>have:=q7z (vss:=vss) (λx e=>h x (AH _ e)) i;simpa using this
theorem q0V{e:Ty}{ys:List e.den}{us:List Value}(E:e.size=1):(Ty.arr n e).rel I w ys us ↔ ys.length=n/\us.length=n/\∀ (i:Nat) y u,ys[i]?=some y->us[i]?=some u->e.rel I w y [u]:=by
 constructor
 . rintro ⟨m,vss,rfl,q,h⟩;have z:∀us∈vss,us.length=1:=λus j=>by obtain ⟨i,J,rfl⟩:=AT j;rw [<-E];exact e.rel_size _ _ (h i (ys[i]'(by omega)) _ (Af _) (Af J))
   refine ⟨m,by rw [flat_len z,q,m,AO],λi y u D j=> ?_⟩;rw [q7z z] at j;cases A:vss[i]? with
   |none=>simp_all
   |some us=>have B:=z us (BL A);obtain ⟨u',rfl⟩:=Bc.1 B;grind
 rintro ⟨m,q,h⟩;refine ⟨m,us.map λu=>[u],?_,by simp;omega,λi y u D j=> ?_⟩
 . clear h q;induction us with
   |nil=>rfl
   |cons u us ih=>grind
 grind
theorem q4b{e:Ty}{ys:List e.den}(q:e.size=1):Lies I w b off (.arr n e) ys ↔ ys.length=n/\∀ (i:Nat) y,ys[i]?=some y->Lies I w b (off+i) e y:=by
 constructor
 . rintro ⟨us,O,hc⟩;obtain ⟨z,hl,h⟩:=(q0V q).1 O;refine ⟨z,λi y m=> ?_⟩;have R:i<us.length:=by grind
   have D:us[i]?=some us[i]:=Af R;refine ⟨[us[i]],h i y _ m D,λj u L=> ?_⟩;grind
 rintro ⟨z,h⟩;have key:∀ (ys:List e.den) (off:Nat),(∀ (i:Nat) y,ys[i]?=some y->Lies I w b (off+i) e y)->∃us:List Value,us.length=ys.length/\(∀ (i:Nat) y u,ys[i]?=some y->us[i]?=some u->e.rel I w y [u])/\∀j u,us[j]?=some u->w.cell? ⟨b,off+j,none⟩=some u:=by
  intro ys;induction ys with
  |nil=>simp_all
  |cons y ys N=>
   intro off h;obtain ⟨us,B,A,E⟩:=N (off+1) λi y m=>by rw [Au,Br 1 i];simp_all
   obtain ⟨vs,J,g2⟩:=h 0 y rfl;have:=e.rel_size _ _ J;rw [q] at this;obtain ⟨v,rfl⟩:=Bc.1 this;refine ⟨v :: us,by simp [B],λi y' u m D=> ?_,λj u L=> ?_⟩;all_goals grind
 obtain ⟨us,B,A,E⟩:=key ys off h;exact ⟨us,(q0V q).2 ⟨z,by omega,A⟩,E⟩
theorem Lies.elem{n i:Nat}{e:Ty}{ys:List e.den}(he:e.size=1)(h:Lies I w b off (.arr n e) ys)(hi:i<n):Lies I w b (off+i) e (ys.getD i e.dflt):=by grind [q4b]
theorem Lies.part{n i m:Nat}{e:Ty}{ys:List e.den}(he:e.size=1)(h:Lies I w b off (.arr n e) ys)(hi:i+m<=n):Lies I w b (off+i) (.arr m e) ((ys.drop i).take m):=by grind [q4b]

theorem q1O{i:Nat}{x:t.den}(y:Wd C H)(A:H[h]?=some (.row t xs))(D:xs[i]?=some x):∃b,C.ρ h=some b/\Lies C.I C.w b (i*t.size) t x:=by
 rcases y.obj h _ A with ⟨q,z⟩ | ⟨B,arr,T,fz,m,hcell,hfz,hsz,e⟩
 . simp_all
 obtain ⟨us,q,z⟩:=e i x D;exact ⟨B,m,us,q,λj u hj=>by simp_all⟩
theorem q9m{i m:Nat}(q:Wd C H)(u:H[h]?=some (.row t xs))(B:t.size=1)(hi:i+m<=xs.length)(hm:0<m):∃b,C.ρ h=some b/\Lies C.I C.w b i (.arr m t) ((xs.drop i).take m):=by
 have z:xs[i]?=some xs[i]:=Af (by omega);obtain ⟨b,A,_⟩:=q1O q u z;refine ⟨b,A,(q4b B).2 ⟨by simp;omega,λj y e=> ?_⟩⟩;rw [B9] at e;split at e
 . rw [Bp] at e;obtain ⟨b',hb',hl⟩:=q1O q u e
   simp_all
 cases e
section

variable [Ghost] {P:Program} {o:Oper} {ev:Operand->SV} {H:List SObj} {K:Out->List SObj->Prop}

variable {α:Type}
def splice(vs:List α)(o:Nat)(us:List α):List α:=vs.take o++us++vs.drop (o+us.length)
theorem q0r{vs us:List α}{o:Nat}(h:o+us.length<=vs.length):(splice vs o us).length=vs.length:=by simp [splice];omega
theorem q4o{e:List SV}{us:List Value}{o:Nat}(h:SV.denL C cs vs)(k:SV.denL C e us):SV.denL C (splice cs o e) (splice vs o us):=by unfold splice;rw [q0v k];exact q0w.2 ⟨_,_,rfl,q0w.2 ⟨_,_,rfl,q5e o h,k⟩,q5k _ h⟩
theorem q7j{vs:List α}{o:Nat}{u:α}{us:List α}(h:o<vs.length):splice vs o (u :: us)=splice (vs.set o u) (o+1) us:=by unfold splice;apply AE;grind

theorem z0W{o:Nat}{T:TypeId}{fz:Nat×Nat}(h:w.heap[b]?=some (.cells vs.toArray T fz))(u:Value):(w.setCell ⟨b,o,none⟩ u).heap[b]?=some (.cells (vs.set o u).toArray T fz):=by
 have:((w.heap.modify b λ|.cells c elem frozen=>.cells (if (none:Option Nat).isSome then c else c.setIfInBounds o u) elem frozen|o=>o))[b]?=some (.cells (vs.set o u).toArray T fz):=by grind
 exact this
theorem q9I{o e:Nat}(u:Value)(h:e≠b):(w.setCell ⟨b,o,none⟩ u).heap[e]?=w.heap[e]?:=by unfold World.setCell;grind

theorem q1c{b:Nat}{T:TypeId}{fz:Nat×Nat}:∀ (us:List Value) (o:Nat) (w:World) (vs:List Value),w.heap[b]?=some (.cells vs.toArray T fz)->o+us.length<=vs.length->
 (w.setCells b o us).heap[b]?=some (.cells (splice vs o us).toArray T fz)
 | [],o,w,vs,h,_=>by simp_all [World.setCells,splice]
 |u :: us,o,w,vs,h,hl=>by simp only [AB] at hl;simp only [World.setCells];rw [q1c us (o+1) _ (vs.set o u) (z0W h u) (by rw [A9];omega),q7j (by omega)]
theorem q0t{b e:Nat}(h:e≠b):∀ (us:List Value) (o:Nat) (w:World),(w.setCells b o us).heap[e]?=w.heap[e]?
 | [],_,_=>rfl
 |u :: us,o,w=>by simp only [World.setCells];rw [q0t h us (o+1),q9I u h]
def q0R{b:Nat}:∀ (us:List Value) (o:Nat) (w:World),(w.setCells b o us).heap.size=w.heap.size
 | [],_,_=>rfl
 |u :: us,o,w=>by simp only [World.setCells];rw [q0R us (o+1)];simp
theorem q1m{b:Nat}:∀ (us:List Value) (o:Nat) (w:World),(w.setCells b o us).os=w.os
 | [],_,_=>rfl
 |u :: us,o,w=>by simp only [World.setCells];rw [q1m us (o+1)];rfl
theorem q0T{b:Nat}:∀ (us:List Value) (o:Nat) (w:World),(w.setCells b o us).tape=w.tape
 | [],_,_=>rfl
 |u :: us,o,w=>by simp only [World.setCells];rw [q0T us (o+1)];rfl
theorem q0J{b:Nat}:∀ (us:List Value) (o:Nat) (w:World),(w.setCells b o us).output=w.output
 | [],_,_=>rfl
 |u :: us,o,w=>by simp only [World.setCells];rw [q0J us (o+1)];rfl

def SV.one:SV->Bool
 |.any|.agg _|.tup _|.dat _ _=>false
 |.raw v=>v.oneCell'
 |_=>true
theorem z9q:∀ {s:SV} {v:Value},s.one=true->s.den C v->v.oneCell'=true
 |.any,_,h,_=>by simp [SV.one] at h
 |.agg _,_,h,_=>by simp [SV.one] at h
 |.tup _,_,h,_=>by simp [SV.one] at h
 |.dat _ _,_,h,_=>by simp [SV.one] at h
 |.raw u,v,h,d=>by grind [SV.den,SV.one]
 |.isl t xs,v,_,d=>by rw [SV.den] at d;obtain ⟨A,n,c,e,_⟩:=d;cases e;rfl
 |.fsl t xs,v,_,d=>by rw [SV.den] at d;obtain ⟨_,A,rfl⟩:=d;rfl
 |.iptr ..,v,_,d=>by rw [SV.den] at d;obtain ⟨_,_,_,rfl,_⟩:=d;rfl
 |.ptr ..,v,_,d=>by rw [SV.den] at d;obtain ⟨_,_,_,rfl⟩:=d;rfl
 |.rptr ..,v,_,d=>by rw [SV.den] at d;obtain ⟨_,_,_,rfl⟩:=d;rfl
 |.bld ..,v,_,d=>by rw [SV.den] at d;obtain ⟨_,⟨_,_,rfl⟩ | ⟨_,_,_,_,rfl,_⟩⟩:=d<;>rfl
 |.osl ..,v,_,d=>by rw [SV.den] at d;obtain ⟨_,_,_,rfl,_⟩:=d;rfl
 |.csl ..,v,_,d=>by rw [SV.den] at d;obtain ⟨_,_,_,rfl,_⟩:=d;rfl
 |.fn ..,v,_,d=>by rw [SV.den] at d;obtain ⟨_,_,rfl,_⟩:=d;rfl
 |.iface ..,v,_,d=>by rw [SV.den] at d;obtain ⟨_,rfl,_⟩:=d;rfl
 |.mp _,v,_,d=>by rw [SV.den] at d;obtain ⟨_,_,_,rfl⟩:=d;rfl
 |.imap ..,v,_,d=>by rw [SV.den] at d;obtain ⟨_,rfl,_⟩:=d;rfl

def ones:List SV->Bool
 | []=>true
 |s :: l=>s.one&& ones l
theorem q4N{C:Cx}:∀ {l:List SV} {vs:List Value},ones l=true->SV.denL C l vs->∀v∈vs,v.oneCell'=true
 | [],_,_,h,v,e=>by grind [q0y]
 |s :: l,_,ho,h,v,e=>by
  obtain ⟨u,us,rfl,m,j⟩:=q0c.1 h;simp [ones] at ho;rcases Ba.1 e with rfl|e
  . exact z9q ho.1 m
  exact q4N ho.2 j v e

def SV.flat:SV->Option (List SV)
 |.any|.tup _=>none
 |.agg l=>some l
 |.raw v=>some (rawL v.cells.toList)
 |.dat t x=>some (t.cells x)
 |s=>some [s]
theorem q3n{v:Value}(e:s.flat=some cs)(h:s.den C v):SV.denL C cs v.cells.toList:=by
 have one:∀ (s:SV),s.one=true->s.flat=some [s]->s.den C v->SV.denL C [s] v.cells.toList:=λs q h2 j=>by
  have:=z9q q j;have y:v.cells= #[v]:=by cases v<;>first|rfl|grind [Value.oneCell']
  rw [y];exact q0c.2 ⟨v,[],rfl,j,q0y.2 rfl⟩
 cases s with
 |any=>simp [SV.flat] at e
 |tup l=>simp [SV.flat] at e
 |agg l=>cases e;rw [SV.den] at h;obtain ⟨vs,rfl,hl⟩:=h;grind [Value.cells]
 |raw u=>cases e;grind [SV.den,q1a]
 |dat t x=>cases e;rw [SV.den] at h;obtain ⟨vs,rfl,m⟩:=h;simpa [Value.cells] using t.cells_den _ _ m
 |_=>cases e;exact one _ rfl rfl h

variable {x:Operand}
theorem z3X(j:o.op= .move x\/o.op= .assign x)(m:K (.ret (ev x)) H):OpV P o ev H K:=by refine q0m (by grind) (s:=ev x) (λC e _ q=> ?_) m;have u:=q x (by grind [Op.operands]);exact ⟨e x,by rcases j with h|h<;>simp [execOp,h],u⟩

theorem j0o{c y:Operand}{b:Bool}(m:o.op= .pick c x y)(z:ev c= .raw (.bool b))(u:K (.ret (if b then ev x else ev y)) H):OpV P o ev H K:=by refine q0m (by simp_all) (λC e _ j=> ?_) u;have q:=j c (by grind [Op.operands]);have h1:=j x (by grind [Op.operands]);have h2:=j y (by grind [Op.operands]);rw [z,SV.den] at q;refine ⟨if b then e x else e y,by simp [execOp,m,q,asBool],?_⟩;grind

def SV.nonNil:SV->Bool
 |.ptr .. |.iptr .. |.rptr .. |.fn .. =>true
 |.raw (.pointer (some _))=>true
 |_=>false
theorem z1t(m:o.op= .nilCheck x)(u:(ev x).nonNil=true)(y:K (.ret (ev x)) H):OpV P o ev H K:=by
 refine q0m (by simp_all) (s:=ev x) (λC e _ j=> ?_) y;have q:=j x (by grind [Op.operands]);refine ⟨e x,?_,q⟩;generalize hs:ev x=s at q u;unfold SV.nonNil at u;split at u<;>first| (cases u;done) |rw [SV.den] at q
 . obtain ⟨_,_,_,j⟩:=q;simp [execOp,m,j]
 . obtain ⟨_,_,_,j,_⟩:=q;simp [execOp,m,j]
 . obtain ⟨_,_,_,j⟩:=q;simp [execOp,m,j]
 . obtain ⟨_,_,j,_⟩:=q;simp [execOp,m,j]
 simp_all [execOp]

theorem z2V{i:Nat}(hop:o.op= .extract x i)(z:ev x= .tup l)(y:l[i]?=some s)(m:K (.ret s) H):OpV P o ev H K:=by
 refine q0m (by simp_all) (s:=s) (λC e _ q=> ?_) m;have j:=q x (by grind [Op.operands]);rw [z,SV.den] at j;obtain ⟨vs,j,u⟩:=j;obtain ⟨v,h1,h2⟩:=q1v u y
 simp_all [execOp,Instr.extract]

theorem q1V{C:Cx}{ev:Operand->SV}{e:Operand->Value}:∀ (xs:List Operand),(∀x∈xs,(ev x).den C (e x))->SV.denL C (xs.map ev) (xs.map e)
 | [],_=>by rfl
 |x :: xs,h=>by simp only [Az];exact q0c.2 ⟨_,_,rfl,h x (by simp),q1V xs λy j=>h y (by simp [j])⟩

theorem z0F{T:TypeId}{j:String}{q m:Array Operand}(hop:o.op= .makeFunc (.methodOf T j) q m)(z:q.size=0)(y:m.size=0)(u:K (.ret (.raw (.func (.methodOf T j) #[] #[]))) H):OpV P o ev H K:=by
 obtain rfl:=AV z;obtain rfl:=AV y;refine q0m (by simp_all) (λC e _ hv=> ?_) u
 simp_all [execOp,Instr.makeFunc,SV.den]
theorem z1c{f:Nat}{q m:Array Operand}(j:o.op= .makeFunc (.func f) q m)(y:K (.ret (.fn f (q.toList.map ev) (m.toList.map ev))) H):OpV P o ev H K:=by refine q0m (by simp_all) (λC e _ u=> ?_) y;rw [j] at u;simp only [Op.operands,Array.mem_append] at u;refine ⟨.func (.func f) (q.map e) (m.map e),by simp [execOp,j,Instr.makeFunc],?_⟩;grind [SV.den,Array.toList_map,q1V]

def notIface(P:Program)(t:TypeId):Bool:=match P.underlying t with
 |some (.interface _)=>false
 |some _=>true
 |none=>false
theorem q5P{T:TypeId}(j:o.op= .makeInterface T x)(q:notIface P T=true)(u:K (.ret (.iface T (ev x))) H):OpV P o ev H K:=by
 refine q0m (by simp_all) (λC e _ y=> ?_) u;have h0:=y x (by grind [Op.operands]);refine ⟨.iface T (e x),?_,by rw [SV.den];simp_all⟩;unfold notIface at q;cases m:P.underlying T with
 |none=>simp_all
 |some d=>cases d<;>simp [m] at q<;>simp [execOp,j,Instr.makeInterface,underlying,Result.andThen,m]

def q5L(e:∀b,C.I b->b<C.w.heap.size)(T:TypeId)(h:SV.denL C cs vs):objDen (C.grow (.cells vs.toArray T)) C.n (.cells T cs):=
 ⟨C.w.heap.size,vs,by simp [Cx.grow],q1q _ _,q0f (q6w e _) h⟩

theorem z7K{T:TypeId}{zs:List Value}(m:o.op= .alloc T)(u:(P.info? T).bind (λi=>i.zero.map (·.cells.toList))=some zs)(A:K (.ret (.ptr H.length 0)) (H++ [.cells T (rawL zs)])):OpV P o ev H K:=by
 refine q0L (by simp_all) λC e j _=> ?_;obtain ⟨B,y⟩:=q5A j (.cells zs.toArray T) (.cells T (rawL zs)) (q5L j.imm T (q1a zs));refine ⟨_,.pointer (some ⟨C.w.heap.size,0,none⟩),_,_,A,.inl ?_,B,y,?_⟩
 . cases q:P.info? T with
   |none=>simp_all
   |some i=>
    cases hz0:i.zero with
    |none=>simp_all
    |some z=>simp [q,hz0] at u;simp [execOp,m,Instr.alloc,zeroValue,typeInfo,q,hz0,Result.andThen,newVar,newRow,Cx.grow,<-u]
 rw [SV.den];exact ⟨by simp [Cx.grow,j.n],C.w.heap.size,by simp [Cx.grow,j.n],rfl⟩

theorem j5z{T:TypeId}(hop:o.op= .box T x)(y:(ev x).flat=some cs)(u:K (.ret (.ptr H.length 0)) (H++ [.cells T cs])):OpV P o ev H K:=by
 refine q0L (by simp_all) λC e j A=> ?_;have m:=q3n y (A x (by grind [Op.operands]));obtain ⟨z,q⟩:=q5A j (.cells (e x).cells T) (.cells T cs) (by have:=q5L j.imm T m;omega);refine ⟨_,.pointer (some ⟨C.w.heap.size,0,none⟩),_,_,u,.inl ?_,z,q,?_⟩
 . simp_all [execOp,Instr.box,newVar,newRow,Cx.grow]
 rw [SV.den];exact ⟨by simp [Cx.grow,j.n],C.w.heap.size,by simp [Cx.grow,j.n],rfl⟩

theorem q9y{T ty:TypeId}{y:Operand}{B:List SV}(L:o.op= .store ty x y)(hs:(P.info? ty).map (·.size)=some n)(V:ev x= .ptr h off)(R:H[h]?=some (.cells T cs))
 (hf:(ev y).flat=some B)(hn:B.length=n)(hb:off+n<=cs.length)(h1:ones B=true)(Z:K (.ret .any) (H.set h (.cells T (splice cs off B)))):OpV P o ev H K:=by
 refine q0L (by simp_all) λC e O W=> ?_;have J:=W x (by grind [Op.operands]);have S:=q3n hf (W y (by grind [Op.operands]));rw [V,SV.den] at J;obtain ⟨_,b,u,J⟩:=J;obtain ⟨E,vs,z,q,X⟩:=O.obj h _ R;rw [u] at z;cases z;have hlen:(e y).cells.toList.length=n:=by rw [q0v S,hn]
 have hvl:vs.length=cs.length:=q0v X;have A:(storeCells ⟨b,off,none⟩ (e y).cells.toList 0).run P C.w= .ok () (C.w.setCells b (off+0) (e y).cells.toList):=run_storeCells_cells b off _ 0 C.w
  (λj hj=>by rw [q0h q];grind)
  (λj _=>by simp [World.frozen?,q]) (q4N h1 S)
 rw [AG] at A;have D:=q1c (e y).cells.toList off C.w vs q (by omega);obtain ⟨g1,Y,g3⟩:=z1x (so':=.cells T (splice cs off B)) O R rfl rfl u (C.w.setCells b off (e y).cells.toList) (λE z=>q0t z _ _ _) (q0R _ _ _)
  (λm hm=>by
   grind [World.bsize,q0r])
  (q1m _ _ _) (q0T _ _ _) (q0J _ _ _)
  ⟨b,_,u,D,by
   have V:Evo C {C with w:=C.w.setCells b off (e y).cells.toList}:=⟨Ac _,λ_ _=>rfl,λE U=>⟨U,q0t (λ(eq:E=b)=>(O.own b ⟨h,_,R,rfl,u⟩).1 (eq▸U)) _ _ _⟩,λE m hm=>by
    grind [World.bsize,q0r,q0t]⟩
   grind [q0f,q4o]⟩
 refine ⟨_,undef,_,_,Z,.inr ⟨?_,rfl⟩,g1,Y,by rw [SV.den];trivial⟩;have N:(e y).cells.size=n:=by omega
 simp [execOp,L,J,Instr.storeAt,Instr.sureAddr,Result.andThen,storeVar,q0k hs,N,A]
def ZSt(E:EnD)(C:Cx)(H:List SObj)(b off:Nat)(us:List Value):Prop:=∃ (vs:List Value) (T:TypeId) (fz:Nat×Nat),C.w.heap[b]?=some (.cells vs.toArray T fz)/\off+us.length<=vs.length/\(∀j,j<us.length->¬(fz.1<=off+j/\off+j<fz.2))/\
 Wd {C with w:=C.w.setCells b off us} H/\Stp E C H {C with w:=C.w.setCells b off us} H
theorem j6f{ty:TypeId}{y:Operand}{u:List SV}(z:o.op= .store ty x y)(W:(P.info? ty).map (·.size)=some n)(Z:ev x= .raw (.pointer (some ⟨b,off,none⟩)))
 (U:(ev y).flat=some u)(X:u.length=n)(R:ones u=true)(h:∀E C us,Wd C H->Ghost.inv E C H->SV.denL C u us->ZSt E C H b off us)(O:K (.ret .any) H):OpV P o ev H K:=by
 refine z3R (by simp_all) λE C e S L J=> ?_;have D:=J x (by grind [Op.operands]);have B:=q3n U (J y (by grind [Op.operands]));rw [Z,SV.den] at D;have hlen:(e y).cells.toList.length=n:=by rw [q0v B,X]
 obtain ⟨vs,T,fz,q,hfit,hfz,V,N⟩:=h E C _ S L B;have m:(storeCells ⟨b,off,none⟩ (e y).cells.toList 0).run P C.w= .ok () (C.w.setCells b (off+0) (e y).cells.toList):=run_storeCells_cells b off _ 0 C.w
  (λj Y=>by rw [q0h q];grind)
  (λj Y=>by
   grind [World.frozen?]) (q4N R B)
 rw [AG] at m;refine ⟨.any,undef,H,_,O,.inr ⟨?_,rfl⟩,V,N,by rw [SV.den];trivial⟩;have A:(e y).cells.size=n:=by omega
 simp [execOp,z,D,Instr.storeAt,Instr.sureAddr,Result.andThen,storeVar,q0k W,A,m]
end
section

variable [Ghost] {P:Program} {o:Oper} {ev:Operand->SV} {H:List SObj} {K:Out->List SObj->Prop}

theorem q9p(x y:ByteArray):(x.toList==y.toList)=decide (x=y):=by
 rw [Bz];simp only [beq_iff_eq,decide_eq_true_eq,ByteArray.toList_eq];constructor
 . intro h;cases x;simp_all
 simp_all

def xorK(k:IntKind)(a b:Int):Int:=k.wrap ((BitVec.ofInt k.bits a^^^ BitVec.ofInt k.bits b).toNat:Int)
def orK(k:IntKind)(a b:Int):Int:=k.wrap ((BitVec.ofInt k.bits a|||BitVec.ofInt k.bits b).toNat:Int)
def andK(k:IntKind)(a b:Int):Int:=k.wrap ((BitVec.ofInt k.bits a&&& BitVec.ofInt k.bits b).toNat:Int)
def binV(op:BinOp):Value->Value->Option (Value×Prop)
 |.int k a,.int k' b=>match op with
  |.shl=>some (.int k (k.wrap (a*2^ min b.toNat k.bits)),0<=b)
  |.shr=>some (.int k (a.fdiv (2^ min b.toNat k.bits)),0<=b)
  |.add=>if k=k' then some (.int k (k.wrap (a+b)),True) else none
  |.sub=>if k=k' then some (.int k (k.wrap (a-b)),True) else none
  |.mul=>if k=k' then some (.int k (k.wrap (a*b)),True) else none
  |.quo=>if k=k' then some (.int k (k.wrap (a.tdiv b)),b≠0) else none
  |.rem=>if k=k' then some (.int k (a.tmod b),b≠0) else none
  |.and=>if k=k' then some (.int k (andK k a b),True) else none
  |.or=>if k=k' then some (.int k (orK k a b),True) else none
  |.xor=>if k=k' then some (.int k (xorK k a b),True) else none
  |.andNot=>if k=k' then some (.int k (k.wrap (BitVec.ofInt k.bits a&&& ~~~(BitVec.ofInt k.bits b)).toNat),True) else none
  |.eql=>if k=k' then some (.bool (decide (a=b)),True) else none
  |.neq=>if k=k' then some (.bool (!decide (a=b)),True) else none
  |.lss=>if k=k' then some (.bool (decide (a<b)),True) else none
  |.leq=>if k=k' then some (.bool (decide (a<=b)),True) else none
  |.gtr=>if k=k' then some (.bool (decide (b<a)),True) else none
  |.geq=>if k=k' then some (.bool (decide (b<=a)),True) else none
 |.string a,.string b=>match op with
  |.eql=>some (.bool (decide (a=b)),True)
  |.neq=>some (.bool (!decide (a=b)),True)
  |.add=>some (.string (a++b),a.size+b.size<=9223372036854775807)
  |_=>none
 |_,_=>none

variable {op:BinOp}{t:TypeId}
theorem z9H{x y v:Value}(h:binV op x y=some (v,p))(e:p)(w:World):(binOp op t x y).run P w= .ok v w:=by
 unfold binV at h;split at h
 . rename_i k a k' b;have j:¬(k'≠k'):=λh=>h rfl;split at h<;> (try split at h) <;>first| (cases h;done) |skip
   all_goals (first|subst_vars|skip)
   all_goals (cases h)
   all_goals (first| (simp [binOp,Op.intArith,Op.intDiv,Op.intBits,Op.intCmp,xorK,andK,orK,e];done) | (simp [binOp,Op.shift,CM.2 e];done) | (simp only [binOp];rw [if_neg j];rfl))
 . rename_i a b;split at h
   . cases h;simp [binOp,Op.stringOp,q9p]
   . cases h;simp [binOp,Op.stringOp,q9p]
   . cases h;have:¬(((a.size+b.size:Nat):Int) >IntKind.i64.max):=by
      have:IntKind.i64.max=9223372036854775807:=by decide
      omega
     simp_all [binOp,Op.stringOp]
   cases h
 cases h

variable {x:Operand}
theorem q9F{y:Operand}{a b v:Value}(h:binV op a b=some (v,p))(w:World):(eqGuard op t x y a b).run P w= .ok () w:=by unfold binV at h;split at h;all_goals simp_all [eqGuard]

theorem j5V{t':TypeId}{y:Operand}{a b v:Value}(j:o.op= .binOp op t x y t')(D:ev x= .raw a)(B:ev y= .raw b)(h:binV op a b=some (v,p))(z:p)(A:K (.ret (.raw v)) H):OpV P o ev H K:=by refine q0m (by simp_all) (λC e _ m=> ?_) A;have u:=m x (by grind [Op.operands]);have q:=m y (by grind [Op.operands]);rw [D,SV.den] at u;rw [B,SV.den] at q;refine ⟨v,?_,by rw [SV.den]⟩;simp [execOp,j,u,q,q9F h,z9H h z,Result.andThen]

def eqV:SV->SV->Option Bool
 |.ptr ..,.raw (.pointer none)=>some false
 |.iptr ..,.raw (.pointer none)=>some false
 |.rptr ..,.raw (.pointer none)=>some false
 |.raw (.pointer none),.raw (.pointer none)=>some true
 |.fn ..,.raw .nilFunc=>some false
 |.raw .nilFunc,.raw .nilFunc=>some true
 |.raw (.bool a),.raw (.bool b)=>some (decide (a=b))
 |_,_=>none
def kPtr(P:Program)(t:TypeId):Bool:=match P.underlying t with|some (.pointer _)=>true|_=>false
def kFunc(P:Program)(t:TypeId):Bool:=match P.underlying t with|some (.func _ _ _)=>true|_=>false
def kBool(P:Program)(t:TypeId):Bool:=match P.underlying t with|some .bool=>true|_=>false
def eqKind(P:Program)(t:TypeId):SV->Bool
 |.raw (.pointer none)=>kPtr P t
 |.raw .nilFunc=>kFunc P t
 |.raw (.bool _)=>kBool P t
 |_=>false
theorem q9V(h:kPtr P t=true):∃e,P.underlying t=some (.pointer e):=by grind [kPtr]
theorem z3w(h:kFunc P t=true):∃a b c,P.underlying t=some (.func a b c):=by grind [kFunc]
theorem z9J(h:kBool P t=true):P.underlying t=some .bool:=by grind [kBool]


variable {r:Bool}
theorem j5v{u:SV}{x y:Value}(q:s.den C x)(j:u.den C y)(h:eqV s u=some r)(m:eqKind P t u=true)(w:World)(n:Nat):(Op.equalIn (n+1) t x y).run P w= .ok r w:=by
 have key:∀ {d:TypeDesc},P.underlying t=some d->(underlying t).run P w= .ok d w:=λz=>by simp [underlying,z]
 unfold eqV at h;split at h<;>cases h<;>simp only [eqKind] at m<;>simp only [SV.den] at q j
 . obtain ⟨_,b,_,rfl⟩:=q;subst j;obtain ⟨d,e⟩:=q9V m;simp [Op.equalIn,key e]
 . obtain ⟨b,off,vs,rfl,_⟩:=q;subst j;obtain ⟨d,e⟩:=q9V m;simp [Op.equalIn,key e]
 . obtain ⟨_,b,_,rfl⟩:=q;subst j;obtain ⟨d,e⟩:=q9V m;simp [Op.equalIn,key e]
 . subst q j;obtain ⟨d,e⟩:=q9V m;simp [Op.equalIn,key e]
 . obtain ⟨_,_,rfl,_⟩:=q;subst j;obtain ⟨_,_,_,e⟩:=z3w m;simp [Op.equalIn,key e]
 . subst q j;obtain ⟨_,_,_,e⟩:=z3w m;simp [Op.equalIn,key e]
 subst q j;have e:=z9J m;simp [Op.equalIn,key e];rfl

theorem q7W{y:Operand}{u:SV}{a b:Value}(e:s.den C a)(j:u.den C b)(h:eqV s u=some r)(w:World):(eqGuard op t x y a b).run P w= .ok () w:=by
 unfold eqV at h;split at h<;>cases h<;>simp only [SV.den] at e j
 . obtain ⟨_,b,_,rfl⟩:=e;simp_all [eqGuard]
 . obtain ⟨b,off,vs,rfl,_⟩:=e;simp_all [eqGuard]
 . obtain ⟨_,b,_,rfl⟩:=e;simp_all [eqGuard]
 . simp_all [eqGuard]
 . obtain ⟨_,_,rfl,_⟩:=e;simp_all [eqGuard]
 all_goals simp_all [eqGuard]

theorem z0e{u:SV}{x y:Value}(e:s.den C x)(j:u.den C y)(h:eqV s u=some r)(m:eqKind P t u=true)(w:World):
 (binOp .eql t x y).run P w= .ok (.bool r) w/\(binOp .neq t x y).run P w= .ok (.bool !r) w:=by
 have hr:(Op.equal t x y).run P w= .ok r w:=j5v e j h m w 9999;unfold eqV at h;split at h<;>cases h<;>simp only [SV.den] at e j
 . obtain ⟨_,b,_,rfl⟩:=e;simp_all [binOp]
 . obtain ⟨b,off,vs,rfl,_⟩:=e;simp_all [binOp]
 . obtain ⟨_,b,_,rfl⟩:=e;simp_all [binOp]
 . simp_all [binOp]
 . obtain ⟨_,_,rfl,_⟩:=e;simp_all [binOp]
 all_goals simp_all [binOp]

theorem z7I{t':TypeId}{y:Operand}(j:o.op= .binOp op t x y t')(B:op= .eql\/op= .neq)(h:eqV (ev x) (ev y)=some r)(E:eqKind P t (ev y)=true)
 (A:K (.ret (.raw (.bool (if op= .eql then r else !r)))) H):OpV P o ev H K:=by
 refine q0m (by simp_all) (λC e _ u=> ?_) A;have q:=u x (by grind [Op.operands]);have m:=u y (by grind [Op.operands]);refine ⟨.bool (if op= .eql then r else !r),?_,by rw [SV.den]⟩;obtain ⟨D,z⟩:=z0e q m h E C.w;rcases B with rfl|rfl
 . simp [execOp,j,q7W q m h,D,Result.andThen]
 simp [execOp,j,q7W q m h,z,Result.andThen]

def unV(op:UnOp):Value->Option Value
 |.bool b=>match op with|.not=>some (.bool !b) |_=>none
 |.int k n=>match op with
  |.neg=>some (.int k (k.wrap (0-n)))
  |.xor=>some (.int k (k.wrap (BitVec.ofInt k.bits (if k.signed then -1 else k.max) ^^^ BitVec.ofInt k.bits n).toNat))
  |_=>none
 |_=>none
variable {op:UnOp}
theorem j4L{x v:Value}(h:unV op x=some v)(w:World):(Op.unary op x).run P w= .ok v w:=by
 unfold unV at h;split at h
 . split at h<;>cases h;rfl
 . split at h<;>cases h
   all_goals rfl
 cases h
theorem j8j{a v:Value}(hop:o.op= .unOp op t x)(hx:ev x= .raw a)(h:unV op a=some v)(j:K (.ret (.raw v)) H):OpV P o ev H K:=by
 refine q0m (by simp_all) (λC e _ hv=> ?_) j
 simp_all [Op.operands,SV.den,execOp,j4L]

variable {d:TypeDesc}
def run_underlying'(h:P.underlying t=some d)(w:World):(underlying t).run P w= .ok d w:=by simp [underlying,h]

theorem z1e{j dst:TypeId}{k k':IntKind}{n:Int}(hop:o.op= .convert j dst x)(hs:P.underlying j=some d)(ht:P.underlying dst=some (.int k))(hx:ev x= .raw (.int k' n))
 (m:K (.ret (.raw (.int k (k.wrap n)))) H):OpV P o ev H K:=by
 refine q0m (by simp_all) (λC e _ hv=> ?_) m
 simp_all [Op.operands,SV.den,execOp,convert,run_underlying',Conv.intToInt]

theorem z1u{j dst:TypeId}{s:ByteArray}(hop:o.op= .convert j dst x)(hs:P.underlying j=some d)(ht:P.underlying dst=some .string)(hx:ev x= .raw (.string s))
 (m:K (.ret (.raw (.string s))) H):OpV P o ev H K:=by
 refine q0m (by simp_all) (λC e _ hv=> ?_) m
 simp_all [Op.operands,SV.den,execOp,convert,run_underlying']

def strOf(xs:List UInt8):ByteArray:=⟨xs.toArray⟩

end
section

variable [Ghost] {P:Program} {o:Oper} {ev:Operand->SV} {H:List SObj} {K:Out->List SObj->Prop}

def q8u:∀ (xs:List UInt8) (e:ByteArray),(xs.map λc=>(c.toNat:Int)).foldl (λr n=>r.push (UInt8.ofNat n.toNat)) e=⟨e.data++xs.toArray⟩
 | [],e=>by rfl
 |c :: xs,e=>by simp only [Az,Bb];rw [q8u xs];simp [ByteArray.push]

variable {xs:List UInt8}{v:Value}
theorem q1S(h:(SV.isl .u8 xs).den C v):(Conv.bytesToString v).run P C.w= .ok (.string (strOf xs)) C.w:=by
 rw [SV.den] at h;obtain ⟨A,n,c,e,rfl,_,_,h⟩:=h;cases e;rcases h with rfl| ⟨b,off,rfl,_,h⟩
 . cases A with
   |none=>rfl
   |some a=>rfl
 have y:(loadCells ⟨b,off,none⟩ xs.length).run P C.w= .ok ((xs.map λc=>(c.toNat:Int)).map (Value.int .u8)).toArray C.w:=by
  have:=run_loadCells_list (P:=P) C.w ⟨b,off,none⟩ ((xs.map λc=>(c.toNat:Int)).map (Value.int .u8)) (λj v m=>by
   rw [q0H];simp only [BD,AF] at m;cases u:xs[j]? with
   |none=>simp_all
   |some x=>
    simp [u] at m;obtain ⟨us,q,z⟩:=h j x u;simp only [Ty.rel] at q;subst q;have:=z 0 _ rfl
    simp_all [Ty.size])
  simp_all
 rw [run_bytesToString C.w _ _ _ _ y,q8u];simp [strOf]

variable {x:Operand}{e':TypeId}
theorem q8m{j dst:TypeId}(hop:o.op= .convert j dst x)(hs:P.underlying j=some (.slice e'))(ht:P.underlying dst=some .string)(he:P.underlying e'=some (.int .u8))(y:ev x= .isl .u8 xs)
 (q:K (.ret (.raw (.string (strOf xs)))) H):OpV P o ev H K:=by
 refine q0m (by simp_all) (λC e _ u=> ?_) q;have m:=u x (by grind [Op.operands]);rw [y] at m;have hb:=q1S (P:=P) m;rw [SV.den] at m;obtain ⟨A,n,c,e0,_⟩:=m
 simp_all [execOp,convert,run_underlying',SV.den]

theorem q7h{j dst:TypeId}(m:o.op= .convert j dst x)(B:P.underlying j=some (.slice e'))(A:P.underlying dst=some .string)(z:P.underlying e'=some (.int .u8))(D:ev x= .raw (.slice none 0 0))
 (u:K (.ret (.raw (.string (strOf [])))) H):OpV P o ev H K:=by
 refine q0m (by simp_all) (λC e _ y=> ?_) u;have q:=y x (by grind [Op.operands]);rw [D,SV.den] at q;exact ⟨.string (strOf []),by simp [execOp,m,q,convert,run_underlying' B,run_underlying' A,run_underlying' z,Conv.bytesToString,Result.andThen];rfl,by rw [SV.den]⟩

def fieldOf(P:Program)(t:TypeId)(f:Nat):Option (Nat×TypeId):=
 match P.underlying t with
 |some (.struct fs)=>(fs[f]?).map λx=>(x.offset,x.type)
 |_=>none
variable {t:TypeId}
theorem q5H{f:Nat}{ft:TypeId}(h:fieldOf P t f=some (off,ft)):∃fs x,P.underlying t=some (.struct fs)/\fs[f]?=some x/\x.offset=off/\x.type=ft:=by grind [fieldOf]

def SV.add:SV->Nat->Option SV
 |.ptr h off,n=>some (.ptr h (off+n))
 |.iptr t x k,n=>some (.iptr t x (k+n))
 |.rptr h t i k,n=>some (.rptr h t i (k+n))
 |.raw (.pointer (some ⟨b,o,none⟩)),n=>some (.raw (.pointer (some ⟨b,o+n,none⟩)))
 |_,_=>none
theorem q6Z{j:SV}(h:s.add n=some j)(e:s.den C v):∃b o,v= .pointer (some ⟨b,o,none⟩)/\j.den C (.pointer (some ⟨b,o+n,none⟩)):=by
 unfold SV.add at h;split at h<;>cases h<;>rw [SV.den] at e
 . obtain ⟨q,b,m,rfl⟩:=e;exact ⟨b,_,rfl,by rw [SV.den];simp_all⟩
 . obtain ⟨b,off,vs,rfl,h1,h2,h3⟩:=e;exact ⟨b,_,rfl,by grind [SV.den]⟩
 . obtain ⟨q,b,m,rfl⟩:=e;exact ⟨b,_,rfl,by grind [SV.den]⟩
 subst e;exact ⟨_,_,rfl,by rw [SV.den]⟩

theorem q8Z{f:Nat}{ft:TypeId}(j:o.op= .fieldAddr t x f)(q:fieldOf P t f=some (off,ft))(E:(P.info? ft).map (·.size)=some (n+1))(A:(ev x).add off=some s)(u:K (.ret s) H):OpV P o ev H K:=by refine q0m (by simp_all) (λC e _ z=> ?_) u;obtain ⟨b,p,J,m⟩:=q6Z A (z x (by grind [Op.operands]));obtain ⟨fs,y,D,B,rfl,rfl⟩:=q5H q;exact ⟨_,by simp [execOp,j,J,Instr.fieldAt,run_underlying' D,B,Instr.sureAddr,fieldPlace,q0k E,q0H,Result.andThen],m⟩

variable {ag:Option Nat}
theorem q4O(ht:aggOf P t=some ag)(j:SV.denL C cs vs)(e:pick cs off ag=some s)(w:World):∃v,(part t vs.toArray off).run P w= .ok v w/\s.den C v:=by
 cases ag with
 |none=>
  simp only [pick] at e;obtain ⟨v,hv,hs⟩:=q1v j e
  simp_all [part,q2x]
 |some n=>
  simp only [pick] at e;split at e
  . cases e;refine ⟨.agg ((vs.drop off).take n).toArray,?_,by rw [SV.den];exact ⟨_,rfl,q5e n (q5k off j)⟩⟩
    simp_all [part,q2x,q0k,q5t]
  cases e

theorem z9b{f:Nat}{ft:TypeId}(hop:o.op= .field t x f)(q:fieldOf P t f=some (off,ft))(B:aggOf P ft=some ag)(D:ev x= .agg l)(m:pick l off ag=some s)(u:K (.ret s) H):OpV P o ev H K:=by
 refine q0m (by simp_all) (s:=s) (λC e _ z=> ?_) u;have j:=z x (by grind [Op.operands]);rw [D,SV.den] at j;obtain ⟨vs,j,A⟩:=j;obtain ⟨fs,y,hu,hy,rfl,rfl⟩:=q5H q;obtain ⟨v,h1,h2⟩:=q4O B A m C.w
 simp_all [execOp,Instr.field,run_underlying',asAgg]

variable {k:IntKind}{n:Int}
theorem z0c{i:Operand}{s:ByteArray}(hop:o.op= .index t x i)(ht:P.underlying t=some .string)(A:ev x= .raw (.string s))(z:ev i= .raw (.int k n))(h0:0<=n)(m:n.toNat<s.size)
 (q:K (.ret (.raw (.int .u8 (s.data.toList.getD n.toNat 0).toNat))) H):OpV P o ev H K:=by
 refine q0m (by simp_all) (λC e _ j=> ?_) q;have y:=j x (by grind [Op.operands]);have u:=j i (by grind [Op.operands]);rw [A,SV.den] at y;rw [z,SV.den] at u;refine ⟨.int .u8 (s.data.toList.getD n.toNat 0).toNat,?_,by rw [SV.den]⟩;have hg:s[n.toNat]?=some (s.data.toList.getD n.toNat 0):=by rw [getElem?_pos s n.toNat m];have:n.toNat<s.data.size:=m;simp only [Ae,Cj,BH this];rfl
 simp_all [execOp,Instr.index,asIntOf,run_underlying']

theorem q5w{i:Operand}{ty:Ty}{xs:List ty.den}(u:o.op= .indexAddr t x i)(E:P.underlying t=some (.slice e'))(S:(P.info? e').map (·.size)=some ty.size)(V:ev x= .isl ty xs)(U:ev i= .raw (.int k n))
 (D:0<=n)(J:n.toNat<xs.length)(N:ty.ok (xs.getD n.toNat ty.dflt)->K (.ret (.iptr ty (xs.getD n.toNat ty.dflt) 0)) H):OpV P o ev H K:=by
 refine q0L (by simp_all) λC e O B=> ?_;have j:=B x (by grind [Op.operands]);have z:=B i (by grind [Op.operands]);rw [V,SV.den] at j;rw [U,SV.den] at z;obtain ⟨A,m,c,y,rfl,hc,hm,j⟩:=j;simp only [List.cons.injEq,and_true] at y;have L:xs[n.toNat]?=some (xs.getD n.toNat ty.dflt):=by simp_all
 rcases j with rfl| ⟨b,off,rfl,hI,j⟩
 . simp at J
 obtain ⟨us,R,hcell⟩:=j _ _ L;refine ⟨_,.pointer (some ⟨b,off+n.toNat*ty.size,none⟩),H,C,N (Ty.rel_ok _ _ _ R),.inl ?_,O,Ext.refl _ _,?_⟩
 . have q:n< (xs.length:Int):=by omega
   simp [execOp,u,y,z,Instr.indexAt,asIntOf,run_underlying' E,D,q,q0k S,q0H,Result.andThen]
 rw [SV.den];grind

theorem q5K{i:Operand}{m c sz:Nat}(q:o.op= .indexAddr t x i)(D:P.underlying t=some (.slice e'))(E:(P.info? e').map (·.size)=some sz)
 (L:ev x= .raw (.slice (some ⟨b,off,none⟩) m c))(J:ev i= .raw (.int k n))(B:0<=n)(hb:n.toNat<m)(A:K (.ret (.raw (.pointer (some ⟨b,off+n.toNat*sz,none⟩)))) H):OpV P o ev H K:=by
 refine q0m (by simp_all) (λC e _ u=> ?_) A;have z:=u x (by grind [Op.operands]);have y:=u i (by grind [Op.operands]);rw [L,SV.den] at z;rw [J,SV.den] at y;refine ⟨.pointer (some ⟨b,off+n.toNat*sz,none⟩),?_,by rw [SV.den]⟩;have j:n< (m:Int):=by omega
 simp [execOp,q,z,y,Instr.indexAt,asIntOf,run_underlying' D,B,j,q0k E,q0H,Result.andThen]

theorem q3a{i:Operand}{ty:Ty}{m:Nat}(z:o.op= .indexAddr t x i)(J:P.underlying t=some (.slice e'))(L:(P.info? e').map (·.size)=some ty.size)
 (j:ev x= .osl h ty off m\/(ev x= .bld h ty m/\off=0))(N:ev i= .raw (.int k n))
 (E:0<=n)(hb:n.toNat<m)(D:K (.ret (.rptr h ty (off+n.toNat) 0)) H):OpV P o ev H K:=by
 refine q0m (by simp_all) (λC e _ A=> ?_) D;have y:=A x (by grind [Op.operands]);have B:=A i (by grind [Op.operands]);rw [N,SV.den] at B;have y:h<C.n/\∃b c,C.ρ h=some b/\e x= .slice (some ⟨b,off*ty.size,none⟩) m c:=by
  rcases j with j| ⟨j,rfl⟩ <;>rw [j,SV.den] at y
  all_goals grind
 obtain ⟨hn,b,c,hb',q⟩:=y;refine ⟨.pointer (some ⟨b,(off+n.toNat)*ty.size+0,none⟩),?_,by rw [SV.den];simp_all⟩;have u:n< (m:Int):=by omega
 simp [execOp,z,q,B,Instr.indexAt,asIntOf,run_underlying' J,E,u,q0k L,q0H,Nat.add_mul,Result.andThen]

def SV.len:SV->Option Int
 |.isl _ xs=>some xs.length
 |.bld _ _ n=>some n
 |.osl _ _ _ n=>some n
 |.csl _ _ _ _ n=>some n
 |.raw (.slice _ n _)=>some n
 |.raw (.string s)=>some s.size
 |_=>none
def lenKind(P:Program)(t:TypeId):SV->Bool
 |.raw (.string _)=>match P.underlying t with|some .string=>true|_=>false
 |_=>match P.underlying t with|some (.slice _)=>true|_=>false
variable {c:Call}
theorem j3W(hop:o.op= .call c)(hc:c.callee= .builtin .len)(ha:c.args= #[x])(hty:c.argTypes= #[t])(y:(ev x).len=some n)(j:lenKind P t (ev x)=true)
 (z:K (.ret (.raw (.int .i64 n))) H):OpV P o ev H K:=by
 refine q0m (by simp_all) (λC e _ B=> ?_) z;have u:=B x (by grind [Op.operands,Call.operands]);refine ⟨.int .i64 n,?_,by rw [SV.den]⟩;have hrun:(Builtin.len_ #[t] o.type #[e x]).run P C.w= .ok (.int .i64 n) C.w:=by
  generalize ev x=s at*;unfold SV.len at y;split at y<;>cases y<;>unfold lenKind at j<;>simp only at j<;> (split at j<;>first| (cases j;done) |skip) <;>rename_i D<;>rw [SV.den] at u
  . obtain ⟨A,m,c,q,rfl,_⟩:=u
    simp_all [Builtin.len_,run_underlying',goInt]
  . obtain ⟨_,⟨_,rfl,q⟩ | ⟨_,_,_,_,q,_⟩⟩:=u<;>simp [Builtin.len_,q,run_underlying' D,goInt,Result.andThen]
  . obtain ⟨_,_,_,q,_⟩:=u
    simp_all [Builtin.len_,run_underlying',goInt]
  . obtain ⟨_,_,_,q,_⟩:=u
    simp_all [Builtin.len_,run_underlying',goInt]
  all_goals simp_all [Builtin.len_,run_underlying',goInt]
 simp_all [execOp,resolve,invoke,builtin]

def enters(P:Program)(f:FuncId):Bool:=match P.funcs[f]? with
 |some fn=> !(fn.name== "runtime.NumGoroutine") && fn.body.isSome
 |none=>false
theorem q2n(h:enters P f=true)(args:Array Value)(w:World):(callFunc f args).run P w= .ok (.enter f args) w:=by
 unfold enters at h;cases e:P.funcs[f]? with
 |none=>grind
 |some fn=>
  simp [e] at h;have hb:fn.body.isNone=false:=by simp [h.2]
  have hb':¬fn.body=none:=by grind
  simp_all [callFunc]

variable {g:Operand}
theorem j2u{A y:List SV}(hop:o.op= .call c)(hc:c.callee= .value g)(B:ev g= .fn f A y)(hf:enters P f=true)
 (h:VCallG P f (A++c.args.toList.map ev++y) H K):OpV P o ev H K:=by
 intro E C r n a next Q L u z h1 h2
 have q:=z g (by grind [Op.operands,Call.operands]);rw [B,SV.den] at q;obtain ⟨J,N,q,d1,d2⟩:=q;have D:SV.denL C (c.args.toList.map ev) (c.args.toList.map a.eval):=q1V _ λx R=>z x (by grind [Op.operands,Call.operands]);refine ⟨λf _=>q4g r f,?_⟩;rw [Oper.semAt_eq _ _ _ (by simp_all)];have j:(execOp a.eval o).run P C.w= .ok (.enter f (J++c.args.toList.map a.eval++N).toArray) C.w:=by simp_all [execOp,resolve,Deferred.ofValue,invoke,q2n]
 rw [j];refine ⟨(λm=>by cases m),q2S ?_⟩;refine (h E C _ L u (q0w.2 ⟨_,_,rfl,q0w.2 ⟨_,_,rfl,d1,D⟩,d2⟩)).mono ?_;rintro e w' ⟨out,H',C',hk,rfl,hw',R,m⟩;cases out with
 |ret s=>obtain ⟨v,rfl,O⟩:=m;grind
 |pan s=>obtain ⟨v,rfl,O⟩:=m;grind

theorem z7h{T:TypeId}(hop:o.op= .panic x)(A:ev x= .iface T s)(q:K (.pan (.iface T s)) H):OpV P o ev H K:=by
 intro E C r n a next Q m _ y h1 z
 have e:=y x (by grind [Op.operands]);rw [A] at e;have h0':=e;rw [SV.den] at e;obtain ⟨u,e,_⟩:=e;refine ⟨λf _=>q4g r f,?_⟩;rw [Oper.semAt_eq _ _ _ (by simp_all)];have j:(execOp a.eval o).run P C.w= .halt (.panic (.iface T u)) C.w:=by simp_all [execOp,Instr.panic]
 rw [j];rw [e] at h0';exact z _ _ H C q m (.of (Ext.refl _ _)) h0'

def mxV(b:Bool)(x y:Int):Int:=if b then (if y>x then y else x) else (if y<x then y else x)
theorem j2Z{b:Bool}{y:Operand}{m:Int}(hop:o.op= .call c)(hc:c.callee= .builtin (if b then .max else .min))(ha:c.args= #[x,y]){k':IntKind}(B:ev x= .raw (.int k m))(u:ev y= .raw (.int k' n))
 (q:K (.ret (.raw (.int k (mxV b m n)))) H):OpV P o ev H K:=by
 refine q0m (by simp_all) (λC e _ j=> ?_) q;have A:=j x (by grind [Op.operands,Call.operands]);have z:=j y (by grind [Op.operands,Call.operands]);rw [B,SV.den] at A;rw [u,SV.den] at z;refine ⟨.int k (mxV b m n),?_,by rw [SV.den]⟩;cases b
 . simp_all [execOp,resolve,invoke,builtin,Builtin.min_,Builtin.min2,mxV]
 simp_all [execOp,resolve,invoke,builtin,Builtin.max_,Builtin.max2,mxV]

def isYld:Value->Option Nat
 |.func (.yield l) a b=>if a.size=0/\b.size=0 then some l else none
 |_=>none
theorem j0z{l:Nat}(h:isYld v=some l):v= .func (.yield l) #[] #[]:=by unfold isYld at h;grind
def VYld(P:Program)(l:Nat)(args:List SV)(H:List SObj)(K:Out->List SObj->Prop):Prop:=
 ∀ (E:EnD) (C:Cx) (vs:List Value),Wd C H->Ghost.inv E C H->SV.denL C args vs->
  ∃f tmps assign body,(Instr.yield l vs.toArray).run P C.w= .ok (.round l f tmps assign body) C.w/\
   ∀ (r:Option Nat) (n:Nat),RoundIn (Fw r) n P l f tmps assign body C.w λe w'=>∃s H' C' v,e= .returned v/\K (.ret s) H'/\C'.w=w'/\Wd C' H'/\Stp E C H C' H'/\s.den C' v
theorem j4t{l:Nat}(hop:o.op= .call c)(hc:c.callee= .value g)(D:ev g= .raw v)(N:isYld v=some l)
 (h:VYld P l (c.args.toList.map ev) H K):OpV P o ev H K:=by
 intro E C r n a next Q L y z h1 h2
 have B:=z g (by grind [Op.operands,Call.operands]);rw [D,SV.den,j0z N] at B;have J:SV.denL C (c.args.toList.map ev) (c.args.toList.map a.eval):=q1V _ λx hx=>z x (by grind [Op.operands,Call.operands]);obtain ⟨f,tmps,j,u,hrun,m⟩:=h E C _ L y J;refine ⟨λf _=>q4g r f,?_⟩;rw [Oper.semAt_eq _ _ _ (by simp_all)];have q:(execOp a.eval o).run P C.w= .ok (.round l f tmps j u) C.w:=by
  have e:(List.map a.eval c.args.toList).toArray=Array.map a.eval c.args:=by grind
  grind [execOp,resolve,Deferred.ofValue,invoke]
 rw [q];refine ⟨(λA=>by cases A),(m r _).mono ?_⟩;grind
def isFn:Value->Option (Nat×List Value×List Value)
 |.func (.func f) a b=>some (f,a.toList,b.toList)
 |_=>none
theorem z7p{u m:List Value}(hop:o.op= .call c)(hc:c.callee= .value g)(B:ev g= .raw v)(j:isFn v=some (f,u,m))(hf:enters P f=true)
 (h:VCallG P f (rawL u++c.args.toList.map ev++rawL m) H K):OpV P o ev H K:=by
 obtain rfl:v= .func (.func f) u.toArray m.toArray:=by
  unfold isFn at j;split at j
  . cases j;simp
  cases j
 intro E C r n a next Q J z j h1 h2
 have A:=j g (by grind [Op.operands,Call.operands]);rw [B,SV.den] at A;have D:SV.denL C (c.args.toList.map ev) (c.args.toList.map a.eval):=q1V _ λx N=>j x (by grind [Op.operands,Call.operands]);refine ⟨λf _=>q4g r f,?_⟩;rw [Oper.semAt_eq _ _ _ (by simp_all)];have q:(execOp a.eval o).run P C.w= .ok (.enter f (u++c.args.toList.map a.eval++m).toArray) C.w:=by simp_all [execOp,resolve,Deferred.ofValue,invoke,q2n]
 rw [q];refine ⟨(λy=>by cases y),q2S ?_⟩;refine (h E C _ J z (q0w.2 ⟨_,_,rfl,q0w.2 ⟨_,_,rfl,q1a u,D⟩,q1a m⟩)).mono ?_;rintro e w' ⟨out,H',C',hk,rfl,hw',N,y⟩;cases out with
 |ret s=>obtain ⟨v,rfl,L⟩:=y;grind
 |pan s=>obtain ⟨v,rfl,L⟩:=y;grind
attribute [go_sem] isYld isFn
end
end Go.Sx