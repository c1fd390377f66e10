/- A part of the proof: a symbolic executor over abstract values, and its soundness. -/
import Derived.Test.YthbcodbcndiapaaGreatDoorP6
import Derived.RangeFuncRecord
set_option linter.all false
namespace Go.Sx
open Go

variable {P:Program} {AQ:Ex->List SV->List SObj->Prop} {k0:Nat} {k:List It} {t:List SV} {H:List SObj}

def far:Obj->Prop
 |.loop _=>True
 |.deferred _=>True
 |_=>False
def FarAt(w:World)(b:Nat):Prop:=∃o,w.heap[b]?=some o/\far o
def Perm(E:En)(b:Nat):Prop:=E.C.w.heap.size<=b\/OwnB E.C E.H b
variable {C:Cx}{b:Nat}
theorem z6S(s:Wd C H)(h:OwnB C H b):¬FarAt C.w b:=by
 obtain ⟨i,o,u,q,m⟩:=h;have:=s.obj i o u;rintro ⟨x,p,e⟩;cases o with
 |dead=>simp [SObj.live] at q
 |mark n=>simp [SObj.live] at q
 |cells T cs=>obtain ⟨r,vs,a,d,_⟩:=this;rw [m] at a;cases a;rw [p] at d;cases d;exact e
 |row t xs=>
  rcases this with ⟨a,_⟩ | ⟨r,arr,T',fz',a,d,h3,_⟩
  . simp_all
  rw [m] at a;cases a;rw [p] at d;cases d;exact e
 |map kk ks vs=>obtain ⟨r,us,a,⟨es,cl,d,_⟩,_⟩:=this;rw [m] at a;cases a;rw [p] at d;cases d;exact e
variable {w:World}
theorem z9K(h:FarAt w b):World.bsize w b=none:=by obtain ⟨o,d,a⟩:=h;unfold World.bsize;rw [d];cases o<;>first|rfl|exact a.elim

def unmk:SObj->SObj
 |.mark _=>.dead
 |o=>o
def z7Y{o:SObj}:(unmk o).live=true ↔ o.live=true:=by cases o<;>simp [unmk,SObj.live]
theorem j7g{o:SObj}(h:o.live=true):unmk o=o:=by cases o<;>first|rfl|simp [SObj.live] at h
open Classical in
noncomputable def rowOf(S:Nat->Prop)(b:Nat):Option Nat:=if S b then some b else none
noncomputable def startE(um:Bool)(S:Nat->Prop)(C:Cx)(H:List SObj):EnD:=
 {C:={C with ρ:=λh=>if h<C.n then C.ρ h else rowOf S (h-C.n)},H:=(if um then H.map unmk else H)++List.replicate C.w.heap.size (.row .u8 []),base:=[]}
variable {um:Bool}{S:Nat->Prop}
theorem q0O(hn:C.n=H.length):OwnB (startE um S C H).C (startE um S C H).H b ↔ OwnB C H b\/(S b/\b<C.w.heap.size):=by
 have e:(if um then H.map unmk else H).length=H.length:=by grind
 constructor
 . rintro ⟨h,o,a,m,d⟩;simp only [startE] at a d;rcases AL h H.length with q|q
   . rw [Az (by omega)] at a;rw [if_pos (by omega)] at d;cases um
     . exact .inl ⟨h,o,a,m,d⟩
     simp only [if_true,AR,An] at a;obtain ⟨o',p,rfl⟩:=a;exact .inl ⟨h,o',p,z7Y.1 m,d⟩
   rw [AW (by omega),e] at a;rw [if_neg (by omega)] at d;grind [rowOf]
 rintro (⟨h,o,a,m,d⟩ | ⟨hS,d⟩)
 . have q:=(Au.1 a).1;refine ⟨h,o,?_,m,?_⟩
   . simp only [startE];rw [Az (by omega)];cases um;all_goals simp_all [j7g]
   simp_all [startE]
 refine ⟨H.length+b,.row .u8 [],?_,rfl,?_⟩;all_goals simp_all [startE,if_neg,rowOf]
theorem q5f{m:Nat}(h0:0<H.length)(h:(startE um S C H).H[0]?=some (.mark m)):um=false/\H[0]?=some (.mark m):=by
 simp only [startE] at h;rw [Az (by grind)] at h;cases um
 . simp_all
 simp only [if_true,AR,An] at h;obtain ⟨o,_,a⟩:=h;cases o<;>simp [unmk] at a
def q4x(q:C.n=H.length):Ext (startE um S C H) C H:=
 ⟨⟨Ad _,λh d=>(if_pos (show h<C.n from d)).symm,Keeps.refl _ _,λ_ _ h=>h⟩,Ad _,rfl,rfl,rfl,λ_ _ _=>rfl,λ_ h=>.inl h,λb p=>.inr ((q0O q).2 (.inl p)),
  λm e a=>(q5f (show 0<H.length by have:0<C.n:=e;omega) a).2⟩
theorem q6l(hn:C.n=H.length)(h:TabT C H)(hS:∀b,S b->¬TBlk b):TabT (startE um S C H).C (startE um S C H).H:=
 h.keep (Keeps.refl _ _) λb hT hb ho=>⟨hb,λx=>((q0O hn).1 x).elim ho λy=>hS b y.1 hT,rfl⟩
variable {C':Cx}
def q3E(h:Evo (startE um S C H).C C'):Evo C C':=
 ⟨h.n,λx hx=>(h.ρ x hx).trans (if_pos hx),h.I,h.sz⟩
variable {E:En}{H':List SObj}
theorem q8M(r:Wd C H)(a:Ext E C H)(A:∀b,S b->Perm E b)(hu:um=true->∀n,E.H[0]?≠some (.mark n))(k:Ext (startE um S C H) C' H'):Ext E C' H':=by
 have d:∀b,OwnB (startE um S C H).C (startE um S C H).H b->Perm E b:=λb e=>((q0O r.n).1 e).elim (a.ownNew b) λh=>A b h.1;refine ⟨a.evo.trans (q3E k.evo),Ao a.size k.size,k.os.trans a.os,k.tape.trans a.tape,k.output.trans a.output,λb p s=> ?_,λb e=> ?_,λb e=> ?_,λm v y=> ?_⟩
 . exact (k.frame b (Al p a.size) λz=>(d b z).elim (λx=>absurd p (AN.2 x)) s).trans (a.frame b p s)
 . rcases k.immNew b e with g| ⟨g,u⟩
   . exact orMap (a.immNew b g) id λ⟨x,u⟩=>⟨x,u.keep (k.evo.I b g).2⟩
   exact .inr ⟨g.elim (λx=>.inl (Ao a.size x)) (d b),u⟩
 . exact (k.ownNew b e).elim (λx=>.inl (Ao a.size x)) (d b)
 have p:=a.keep0 m v y;have hn:=r.n;have q:0<C.n:=Al v a.evo.n;cases um with
 |true=>simp_all
 |false=>refine k.keep0 m q ?_;grind [startE]

structure FG where
 um:Bool
 core:EnD->Cx->List SObj->(Nat->Prop)->Prop
 next:∀ {E C C' H H' S},Ext ⟨C,H⟩ C' H'->core E C H S->core E C' H' S
 own:∀ {E C C' H H' S},Wd C H->C'.w=C.w->(∀b,C.I b->C'.I b)->(∀b,C'.I b->C.I b\/OwnB C H b)->(∀b,OwnB C' H' b->OwnB C H b\/(E.C.w.heap.size<=b/\¬S b))->(∀n,0<E.C.n->H[0]?=some (.mark n)->H'[0]?=some (.mark n))->E.C.n<=C'.n->core E C H S->core E C' H' S
 perm:∀ {E C H S b},core E C H S->S b->Perm E.toEn b/\¬C.I b/\¬OwnB C H b/\b<C.w.heap.size
 abide:∀ {E C H S w' I'},core E C H S->C.w.heap.size<=w'.heap.size->(∀b,b<C.w.heap.size->(b<E.C.w.heap.size\/S b\/C.I b\/OwnB C H b)->w'.heap[b]?=C.w.heap[b]?)->(∀b,C.I b->w'.heap[b]?=C.w.heap[b]?)->w'.os=C.w.os->w'.tape=C.w.tape->w'.output=C.w.output->
  (∀b m,World.bsize C.w b=some m->World.bsize w' b=some m)->(∀b,C.I b->I' b)->(∀b,I' b->C.I b\/(E.C.w.heap.size<=b/\¬S b/\¬OwnB C H b/\Unf w' b))->core E {C with w:=w',I:=I'} H S
 lo:∀ {E C H S b},core E C H S->S b->FarAt C.w b->b<E.C.w.heap.size
 start:∀ {E C H S},Wd C H->core E C H S->core (startE um S C H) C H S
 back:∀ {E C H S C' H' S'},Wd C H->core E C H S->Ext (startE um S C H) C' H'->core (startE um S C H) C' H' S'->core E C' H' S'
 unm:∀ {E C H S},um=true->core E C H S->∀n,E.H[0]?≠some (.mark n)
 base:∀ {E C H S} (ds:List Deferred),core E C H S->core {E with base:=ds} C H S
 nt:∀ {E C H S b},core E C H S->S b->¬TBlk b

def noFG:FG where
 um:=false
 core:=λ_ _ _ S=>∀b,¬S b
 next:=λ_ h=>h
 own:=λ_ _ _ _ _ _ _ h=>h
 perm:=λh a=>absurd a (h _)
 abide:=λh _ _ _ _ _ _ _ _ _=>h
 lo:=λh a=>absurd a (h _)
 start:=λ_ h=>h
 back:=λ_ _ _ h=>h
 unm:=λh=>by cases h
 base:=λ_ h=>h
 nt:=λh a=>absurd a (h _)

def chgC(C:Cx)(b:Nat)(o:Obj):Cx:={C with w:={C.w with heap:=C.w.heap.setIfInBounds b o}}
variable {D:Nat}{o:Obj}
theorem q1r(h:b≠D):(chgC C D o).w.heap[b]?=C.w.heap[b]?:=by simp_all [chgC,Ne.symm]
theorem j6u{x:Obj}(h:C.w.heap[D]?=some x):(chgC C D o).w.heap[D]?=some o:=by grind [chgC]
theorem q4a:(chgC C D o).w.heap.size=C.w.heap.size:=by simp [chgC]
theorem z0O(h:FarAt C.w D)(b m:Nat)(hm:World.bsize C.w b=some m):World.bsize (chgC C D o).w b=some m:=by grind [z9K,World.bsize,q1r]
theorem FG.chg(g:FG){E:EnD}{C:Cx}{S:Nat->Prop}{D:Nat}{o:Obj}(m:g.core E C H S)(p:E.C.w.heap.size<=D)(n:¬C.I D)(h3:¬OwnB C H D)(d:FarAt C.w D):g.core E (chgC C D o) H S:=by
 refine g.abide (w':=(chgC C D o).w) (I':=C.I) m (by simp_all [q4a]) (λb _ a=>q1r λe=> ?_) (λb a=>q1r λe=>n (e▸a)) rfl rfl rfl (z0O d) (λ_ h=>h) (λ_ h=>.inl h);subst e;rcases a with a|a|a|a
 . omega
 . exact absurd (g.lo m a d) (AN.2 p)
 all_goals simp_all

def MarkOk.far{E:En}{C:Cx}{D:Nat}(h:MarkOk E C H D):FarAt C.w D:=⟨_,h.at_,trivial⟩
theorem MarkOk.next{E:En}{C C':Cx}{H':List SObj}{D:Nat}(d:Ext ⟨C,H⟩ C' H')(h:MarkOk E C H D):MarkOk E C' H' D:=by
 have a:D<C.w.heap.size:=(AC.1 h.at_).1;refine ⟨h.sz,λm=> ?_,λe=> ?_,(d.frame D a h.own).trans h.at_⟩
 . exact (d.immNew D m).elim h.imm λ⟨x,_⟩=>x.elim (λx=>absurd a (AN.2 x)) h.own
 exact (d.ownNew D e).elim (λx=>absurd a (AN.2 x)) h.own
def MarkOk.same{E:En}{C C':Cx}{H':List SObj}{D:Nat}(e:C'.w=C.w)(a:∀b,C'.I b->C.I b\/OwnB C H b)(d:∀b,OwnB C' H' b->OwnB C H b)(h:MarkOk E C H D):MarkOk E C' H' D:=
 ⟨h.sz,λx=>(a D x).elim h.imm h.own,λx=>h.own (d D x),by rw [e];exact h.at_⟩

@[reducible] def fgG(g:FG):Ghost where
 inv0:=λE C H=>∃S,g.core E C H S
 fin:=λE C H ds=>ds=E.base/\∃S,g.core E C H S
 toFin0:=λ_ h=>⟨rfl,h⟩
 next0:=λhx ⟨S,h⟩=>⟨S,g.next hx h⟩
 same0:=λhw e hk hi ho hm hl ⟨S,h⟩=>⟨S,g.own hw e hk hi (λb hb=>.inl (ho b hb)) hm hl h⟩

variable {P:Program} {AQ:Ex->List SV->List SObj->Prop} {k0:Nat} {k:List It} {t:List SV} {H:List SObj}

@[reducible] def topG(g:FG)(Ds:List Nat):Ghost where
 inv0:=λE C H=>(∃S,g.core E C H S)/\Ds.Nodup/\∀D∈Ds,MarkOk E.toEn C H D
 fin:=λE C H ds=>∃Ds':List Nat,ds=Ds'.map markD++E.base/\(∃S,g.core E C H S)/\(Ds'++Ds).Nodup/\∀D∈Ds'++Ds,MarkOk E.toEn C H D
 toFin0:=λ_ h=>⟨[],rfl,h.1,by simp_all,by simp_all⟩
 next0:=λhx h=>⟨(fgG g).next0 hx h.1,h.2.1,λD hD=>(h.2.2 D hD).next hx⟩
 same0:=λhw e hk hi ho hm hl h=>⟨(fgG g).same0 hw e hk hi ho hm hl h.1,h.2.1,λD hD=>(h.2.2 D hD).same e hi ho⟩
 rd:=λr=>r=none
 rd0:=rfl

def Pins(L:List (Nat×Obj))(C:Cx)(H:List SObj)(S:Nat->Prop):Prop:=∀x∈L,¬C.I x.1/\¬OwnB C H x.1/\¬S x.1/\C.w.heap[x.1]?=some x.2/\far x.2
theorem Pins.next{L:List (Nat×Obj)}{S:Nat->Prop}{C C':Cx}{H':List SObj}(m:Ext ⟨C,H⟩ C' H')(h:Pins L C H S):Pins L C' H' S:=λx e=>by
 obtain ⟨s,d,r,n,q⟩:=h x e;have a:x.1<C.w.heap.size:=(AC.1 n).1;refine ⟨λu=> ?_,λp=> ?_,r,(m.frame _ a d).trans n,q⟩
 . exact (m.immNew _ u).elim s λ⟨y,_⟩=>y.elim (λy=>absurd a (AN.2 y)) d
 exact (m.ownNew _ p).elim (λy=>absurd a (AN.2 y)) d
theorem Pins.same{L:List (Nat×Obj)}{S:Nat->Prop}{C C':Cx}{H':List SObj}(e:C'.w=C.w)(hi:∀b,C'.I b->C.I b\/OwnB C H b)(ho:∀b,OwnB C' H' b->OwnB C H b)(h:Pins L C H S):Pins L C' H' S:=λx a=>by obtain ⟨h1,h2,hS,h3,h4⟩:=h x a;grind
@[reducible] def pinG(g:FG)(L:List (Nat×Obj)):Ghost where
 inv0:=λE C H=>∃S,g.core E C H S/\Pins L C H S
 fin:=λE C H ds=>ds=E.base/\∃S,g.core E C H S/\Pins L C H S
 toFin0:=λ_ h=>⟨rfl,h⟩
 next0:=λhx ⟨S,h⟩=>⟨S,g.next hx h.1,h.2.next hx⟩
 same0:=λhw e hk hi ho hm hl ⟨S,h⟩=>⟨S,g.own hw e hk hi (λb hb=>.inl (ho b hb)) hm hl h.1,h.2.same e hi ho⟩

def z4d{D':Nat}(h:MarkOk E C H D')(hne:D'≠D):MarkOk E (dropD C D) H D':=⟨h.sz,h.imm,h.own,(q1X hne).trans h.at_⟩
def q9K(g:FG){E:EnD}{S:Nat->Prop}:∀ (Ds:List Nat) {C:Cx},g.core E C H S->Ds.Nodup->(∀D∈Ds,MarkOk E.toEn C H D)->g.core E (Ds.foldl dropD C) H S
 | [],_,h,_,_=>h
 |D :: Ds,C,h,hnd,hok=>by have d:=hok D (by simp);exact q9K g Ds (C:=dropD C D) (g.chg (o:=.deferred none) h d.sz d.imm d.own d.far) (BZ.1 hnd).2 λm a=>z4d (hok m (by simp [a])) λe=>(BZ.1 hnd).1 (e▸a)

theorem z8c(g:FG){f:FuncId}{fn:Func}{c:Code}{args:List SV}{K:Out->List SObj->Prop}(A:P.funcs[f]?=some fn)(p:fn.body=some c)
 (h: @Sound (topG g []) P (retQ P fn K) ⟨H.length,[.code c],args++List.replicate (fn.ntmps-args.length) .any,H⟩): @VCallG (fgG g) P f args H K:=by
 rintro E C vs a ⟨v,S,r⟩ O
 refine (@q5a (topG g []) P H f fn c args K (startE g.um S C H) C vs A p rfl (by show C.n<=_;rw [a.n];omega) a (q4x a.n) ⟨⟨v.tab,v.tab.lt⟩,⟨S,g.start a r⟩,CW,λ_ h=>by simp at h⟩
  (λC' H'=>∃S',g.core (startE g.um S C H) C' H' S') ?_ O h).mono ?_
 . rintro C' H' ds hw' hx' ⟨Ds',e,⟨S',u⟩,d,m⟩;rw [Ac] at d m;exact ⟨Ds',by rw [e];exact Ac _,d,m,S',q9K g Ds' u d m⟩
 rintro e w' ⟨o,H',C',x,L,y,s,⟨S',z⟩,F⟩;exact ⟨o,H',C',x,L,y, @Stp.mk (fgG g) E C H C' H' (q3E s.evo) (λk=>q8M a k (λb p=>(g.perm r p).1) (λI=>g.unm I r) s) (λq=>⟨⟨(q6l a.n q.1.tab λb p=>g.nt r p).next s,q.1.old⟩,S',g.back a r s z⟩),F⟩
variable {f:FuncId}{args:List SV}{K:Out->List SObj->Prop}
theorem q1V(g:FG){a:FI}(h:finfo P f=some a)
 (s: @SoundI (topG g []) P (retF P a.results K) ⟨H.length,[.ic a.code],args++List.replicate (a.ntmps-args.length) .any,H⟩): @VCG (fgG g) P f args H K:=by
 obtain ⟨fn,c,m,r,u,q,p,d⟩:=j4Y h;have n:retQ P fn K=retF P a.results K:=by rw [<-p];funext e t H;rfl
 refine ⟨d, @z8c P H g f fn c args K m r ?_⟩;rw [n,q];exact @q0f (topG g []) P (retF P a.results K) _ _ _ _ _ s ⟨c,[],rfl,u,rfl⟩
def q4o(h: @VCG (fgG noFG) P f args H K):VC P f args H K:=
 ⟨h.1,λC vs hw ht hv=>(h.2 ⟨⟨C,H⟩,[]⟩ C vs hw ⟨ht.here,λ_=>False,λ_ h=>h⟩ hv).mono λ_ _ ⟨o,H',C',k1,k2,k3,k4,k5⟩=>⟨o,H',C',k1,k2,k3, @Stp.ext (fgG noFG) _ _ _ _ _ k4 (Ext.refl _ _),k5⟩⟩

structure FJ (B:Nat) (J:Nat->(Nat->Prop)->World->(Nat->Prop)->Prop):Prop where
 abide:∀ {m S w I w' I'},J m S w I->w.heap.size<=w'.heap.size->(∀b,b<w.heap.size->(b<B\/S b\/I b)->w'.heap[b]?=w.heap[b]?)->(∀b,I b->w'.heap[b]?=w.heap[b]?)->w'.os=w.os->w'.tape=w.tape->w'.output=w.output->
  (∀b m,World.bsize w b=some m->World.bsize w' b=some m)->(∀b,I b->I' b)->(∀b,I' b->I b\/(B<=b/\¬S b/\Unf w' b))->J m S w' I'
 fp:∀ {m S w I b},J m S w I->S b->¬I b/\b<w.heap.size
 nt:∀ {m S w I b},J m S w I->S b->¬TBlk b
structure YCore (B:Nat) (J:Nat->(Nat->Prop)->World->(Nat->Prop)->Prop) (E:EnD) (C:Cx) (H:List SObj) (S:Nat->Prop):Prop where
 pos:0<E.C.n
 n:E.C.n<=C.n
 unm:∀n,E.H[0]?≠some (.mark n)
 lo:B<=E.C.w.heap.size
 sz:E.C.w.heap.size<=C.w.heap.size
 own:∀b,OwnB C H b->Perm E.toEn b/\B<=b
 st:∃m,H[0]?=some (.mark m)/\J m S C.w C.I
 fp:∀b,S b->Perm E.toEn b/\¬OwnB C H b
 far:∀ {m S w I b},J m S w I->S b->FarAt w b->b<E.C.w.heap.size
variable {B:Nat}{J:Nat->(Nat->Prop)->World->(Nat->Prop)->Prop}
def yFG(v:FJ B J):FG where
 um:=true
 core:=YCore B J
 next:=λ{E C C' H H' S} hx h=>by
  obtain ⟨m,A,d⟩:=h.st;have q:∀b,S b->¬C.I b/\b<C.w.heap.size:=λb a=>v.fp d a;refine ⟨h.pos,Ao h.n hx.evo.n,h.unm,h.lo,Ao h.sz hx.size,λb a=> ?_,⟨m,hx.keep0 m (Al h.pos h.n) A,?_⟩,λb a=>⟨(h.fp b a).1,λr=> ?_⟩,h.far⟩
  . rcases hx.ownNew b a with x|x
    . exact ⟨.inl (Ao h.sz x),Ao h.lo (Ao h.sz x)⟩
    exact h.own b x
  . refine v.abide d hx.size (λb a p=> ?_) (λb a=>(hx.evo.I b a).2) hx.os hx.tape hx.output hx.evo.sz (λb a=>(hx.evo.I b a).1) λb a=> ?_
    . rcases p with p|p|p
      . exact hx.frame b a λr=>absurd p (AN.2 (h.own b r).2)
      . exact hx.frame b a λr=>(h.fp b p).2 r
      exact (hx.evo.I b p).2
    rcases hx.immNew b a with x| ⟨x|x,u⟩
    . exact .inl x
    . exact .inr ⟨Ao h.lo (Ao h.sz x),λz=>absurd (q b z).2 (AN.2 x),u⟩
    exact .inr ⟨(h.own b x).2,λz=>(h.fp b z).2 x,u⟩
  rcases hx.ownNew b r with x|x
  . grind
  exact (h.fp b a).2 x
 own:=λ{E C C' H H' S} hw e hk hi r hm hl h=>by
  obtain ⟨m,A,d⟩:=h.st;refine ⟨h.pos,hl,h.unm,h.lo,by rw [e];exact h.sz,λb a=> ?_,⟨m,hm m h.pos A,?_⟩,λb a=>⟨(h.fp b a).1,λp=> ?_⟩,h.far⟩
  . rcases r b a with x| ⟨x,_⟩
    . exact h.own b x
    exact ⟨.inl x,Ao h.lo x⟩
  . rw [e];refine v.abide d (Ad _) (λ_ _ _=>rfl) (λ_ _=>rfl) rfl rfl rfl (λ_ _ h=>h) hk λb a=>orMap (hi b a) id λx=>⟨(h.own b x).2,λz=>(h.fp b z).2 x,q5b hw x⟩
  exact (r b p).elim (h.fp b a).2 λx=>x.2 a
 perm:=λ{E C H S b} h q=>by obtain ⟨m,A,d⟩:=h.st;exact ⟨(h.fp b q).1,(v.fp d q).1,(h.fp b q).2,(v.fp d q).2⟩
 abide:=λ{E C H S w' I'} h z hf hkI A d p hz hI hI'=>by
  obtain ⟨m,L,F⟩:=h.st;refine ⟨h.pos,h.n,h.unm,h.lo,Ao h.sz z,h.own,⟨m,L,?_⟩,h.fp,h.far⟩;refine v.abide F z (λb a O=>hf b a ?_) hkI A d p hz hI λb a=>orMap (hI' b a) id λ⟨x,y,_,u⟩=>⟨Ao h.lo x,y,u⟩;rcases O with O|O|O
  . exact .inl (Al O h.lo)
  all_goals simp_all
 lo:=λ{E C H S b} h q hf=>by obtain ⟨m,L,F⟩:=h.st;exact h.far F q hf
 start:=λ{E C H S} hw h=>by obtain ⟨m,L,F⟩:=h.st;have Q:0<H.length:=(Au.1 L).1;refine ⟨by show 0<C.n;rw [hw.n];exact Q,Ad _,λn hn=>(by grind [q5f]),Ao h.lo h.sz,Ad _,λb a=>⟨.inr ((q0O hw.n).2 (.inl a)),(h.own b a).2⟩,⟨m,L,F⟩,λb a=>⟨.inr ((q0O hw.n).2 (.inr ⟨a,(v.fp F a).2⟩)),(h.fp b a).2⟩,λj s f=>Al (h.far j s f) h.sz⟩
 back:=λ{E C H S C' H' S'} hw h hx k=>by
  have R:∀b,Perm (startE true S C H).toEn b->Perm E.toEn b:=λb a=>by
   rcases a with a|a
   . exact .inl (Ao h.sz a)
   exact ((q0O hw.n).1 a).elim (λx=>(h.own b x).1) λx=>(h.fp b x.1).1
  exact ⟨h.pos,Ao h.n (q3E hx.evo).n,h.unm,h.lo,Ao h.sz hx.size,λb a=>⟨R b (k.own b a).1,(k.own b a).2⟩,k.st,λb a=>⟨R b (k.fp b a).1,(k.fp b a).2⟩,h.far⟩
 unm:=λ_ h=>h.unm
 nt:=λ{E C H S b} h q=>by obtain ⟨m,A,d⟩:=h.st;exact v.nt d q
 base:=λ_ h=>⟨h.pos,h.n,h.unm,h.lo,h.sz,h.own,h.st,h.fp,h.far⟩

variable {P:Program} {AQ:Ex->List SV->List SObj->Prop} {k0:Nat} {k:List It} {t:List SV} {H:List SObj}

structure Fr (Q:Nat->Prop) (C C':Cx):Prop where
 size:C.w.heap.size<=C'.w.heap.size
 os:C'.w.os=C.w.os
 tape:C'.w.tape=C.w.tape
 output:C'.w.output=C.w.output
 keep:Keeps C.I C'.I C.w C'.w
 sz:∀b m,World.bsize C.w b=some m->World.bsize C'.w b=some m
 frame:∀b,b<C.w.heap.size->¬Q b->C'.w.heap[b]?=C.w.heap[b]?
 imm:∀b,C'.I b->C.I b\/((C.w.heap.size<=b\/Q b)/\Unf C'.w b)
def Fr.trans{Q e:Nat->Prop}{C C' d:Cx}(h:Fr Q C C')(k:Fr e C' d)(n:∀b,e b->C.w.heap.size<=b\/Q b):Fr Q C d where
 size:=Ao h.size k.size
 os:=k.os.trans h.os
 tape:=k.tape.trans h.tape
 output:=k.output.trans h.output
 keep:=h.keep.trans k.keep
 sz:=λb m q=>k.sz b m (h.sz b m q)
 frame:=λb a p=>(k.frame b (Al a h.size) λr=>(n b r).elim (λx=>absurd a (AN.2 x)) p).trans (h.frame b a p)
 imm:=λb a=>by
  rcases k.imm b a with x| ⟨x,u⟩
  . exact orMap (h.imm b x) id λ⟨y,u⟩=>⟨y,u.keep (k.keep b x).2⟩
  exact .inr ⟨x.elim (λy=>.inl (Ao h.size y)) (n b),u⟩
theorem Fr.mono{Q Q':Nat->Prop}{C C':Cx}(h:Fr Q C C')(hq:∀b,Q b->Q' b):Fr Q' C C' where
 size:=h.size
 os:=h.os
 tape:=h.tape
 output:=h.output
 keep:=h.keep
 sz:=h.sz
 frame:=λb hb hn=>h.frame b hb λx=>hn (hq b x)
 imm:=λb hb=>orMap (h.imm b hb) id λ⟨y,u⟩=>⟨orMap y id (hq b),u⟩
def z6t(hn:C.n=H.length)(k:Ext (startE um S C H) C' H'):Fr (λb=>OwnB C H b\/S b) C C' where
 size:=k.size
 os:=k.os
 tape:=k.tape
 output:=k.output
 keep:=k.evo.I
 sz:=k.evo.sz
 frame:=λb hb hq=>k.frame b hb λho=>hq (orMap ((q0O hn).1 ho) id λx=>x.1)
 imm:=λb hb=>orMap (k.immNew b hb) id λ⟨y,u⟩=>⟨orMap y id λho=>orMap ((q0O hn).1 ho) id λx=>x.1,u⟩
def z1T(hn:C.n=H.length)(k:Ext (startE um S C H) C' H')(hb:OwnB C' H' b):C.w.heap.size<=b\/OwnB C H b\/S b:=
 orMap (k.ownNew b hb) id λho=>orMap ((q0O hn).1 ho) id λx=>x.1
def q8o(hi:¬C.I D)(hf:FarAt C.w D):Evo C (chgC C D o):=⟨Ad _,λ_ _=>rfl,λb hb=>⟨hb,q1r λe=>hi (e▸hb)⟩,z0O hf⟩
theorem j4R(e:¬C.I D)(a:FarAt C.w D):Fr (λb=>b=D) C (chgC C D o) where
 size:=by simp_all [q4a]
 os:=rfl
 tape:=rfl
 output:=rfl
 keep:=(q8o e a).I
 sz:=z0O a
 frame:=λb _ h=>q1r h
 imm:=λb d=>.inl d
def j9v(hw:Wd C H)(hi:¬C.I D)(ho:¬OwnB C H D)(hf:FarAt C.w D):Wd (chgC C D o) H:=
 (k0S (w':=(chgC C D o).w) hw q4a (λb hb=>q1r λe=>hb.elim (e▸hi) (e▸ho)) (z0O hf)).1
def j8v(a:Ext E C H)(h:¬C.I D)(m:FarAt C.w D)(hs:E.C.w.heap.size<=D):Ext E (chgC C D o) H:=
 ⟨a.evo.trans (q8o h m),by rw [q4a];exact a.size,a.os,a.tape,a.output,λb d n=>(q1r (by omega)).trans (a.frame b d n),λb d=>orMap (a.immNew b d) id λ⟨x,u⟩=>⟨x,u.keep (q1r λe=>h (e▸d))⟩,a.ownNew,a.keep0⟩
structure Rnd (S:Nat->Prop) (C C':Cx) (H H':List SObj) (S':Nat->Prop):Prop where
 evo:Evo C C'
 fr:Fr (λb=>S b\/OwnB C H b) C C'
 own:∀b,OwnB C' H' b->OwnB C H b
 fp:∀b,S' b->(C.w.heap.size<=b\/S b\/OwnB C H b)/\¬OwnB C' H' b

theorem j2N{E:EnD}{S':Nat->Prop}(h:YCore B J E C H S)(r:Rnd S C C' H H' S')(e:∃m,H'[0]?=some (.mark m)/\J m S' C'.w C'.I):
 (Ext E.toEn C H->Ext E.toEn C' H')/\YCore B J E C' H' S':=by
 have q:∀b,S b\/OwnB C H b->Perm E.toEn b:=λb a=>a.elim (λx=>(h.fp b x).1) λx=>(h.own b x).1
 refine ⟨λd=>⟨d.evo.trans r.evo,Ao d.size r.fr.size,r.fr.os.trans d.os,r.fr.tape.trans d.tape,r.fr.output.trans d.output,λb p s=> ?_,λb a=> ?_,λb a=>d.ownNew b (r.own b a),λm _ e=>absurd e (h.unm m)⟩,
  ⟨h.pos,Ao h.n r.evo.n,h.unm,h.lo,Ao h.sz r.fr.size,λb a=>h.own b (r.own b a),e,λb a=>⟨?_,(r.fp b a).2⟩,h.far⟩⟩
 . exact (r.fr.frame b (Al p d.size) λv=>(q b v).elim (λx=>absurd p (AN.2 x)) s).trans (d.frame b p s)
 . rcases r.fr.imm b a with x| ⟨x,u⟩
   . exact orMap (d.immNew b x) id λ⟨y,u⟩=>⟨y,u.keep (r.fr.keep b x).2⟩
   exact .inr ⟨x.elim (λy=>.inl (Ao d.size y)) (q b),u⟩
 rcases (r.fp b a).1 with x|x
 . exact .inl (Ao h.sz x)
 simp_all

def j7e{S':Nat->Prop}(r:Rnd S C C' H H' S')(h:TabT C H)(hS:∀b,S b->¬TBlk b):TabT C' H':=
 h.keep r.evo.I λb hT hb ho=>⟨Al hb r.fr.size,λx=>ho (r.own b x),r.fr.frame b hb λy=>y.elim (λz=>hS b z hT) ho⟩
def Hand(n:Nat)(H H':List SObj)(args args':List SV)(new:List SObj):Prop:=
 ∀ (C Cc:Cx) (Hc:List SObj) (vs:List Value),Wd C H->SV.denL C args vs->Wd Cc Hc->Hc.length=n->Cc.w=C.w->(∀b,Cc.I b ↔ C.I b)->(∀b,OwnB C H b->¬OwnB Cc Hc b)->
  ∃C2 Cc2:Cx,C2.w=C.w/\C2.I=C.I/\Wd C2 H'/\Evo C C2/\(∀b,OwnB C2 H' b->OwnB C H b)/\Cc2.w=C.w/\Cc2.I=Cc.I/\Wd Cc2 (Hc++new)/\Evo Cc Cc2/\SV.denL Cc2 args' vs/\(∀b,OwnB Cc2 (Hc++new) b->OwnB Cc Hc b\/(OwnB C H b/\¬OwnB C2 H' b))
theorem q0R{n:Nat}(p:SV.cleanL args=true):Hand n H H args args []:=λC Cc Hc vs d m hwc _ e q _=>⟨C,Cc,rfl,rfl,d,Evo.refl _,λ_ h=>h,e,rfl,by simp_all,Evo.refl _,q1E (C:=C) (C':=Cc) (λb a=>⟨(q b).2 a,by rw [e]⟩) p m,λb a=>.inl (by simp_all)⟩

def YG(P:Program)(l B N:Nat)(J:Nat->(Nat->Prop)->World->(Nat->Prop)->Prop)(vw:Nat->Nat->List SV->List SObj->Prop):Prop:=
 ∀ (i:Nat) (T T':List SObj) (args:List SV) (C:Cx) (S:Nat->Prop) (vs:List Value),i<N->Wd C (.mark i :: T)->J i S C.w C.I->(∀b,OwnB C (.mark i :: T) b->B<=b/\¬S b)->SV.denL C args vs->
  (∀n,∃args' new,vw i n args' new/\Hand n (.mark i :: T) (.mark i :: T') args args' new)->
  ∃f tmps assign body,(Instr.yield l vs.toArray).run P C.w= .ok (.round l f tmps assign body) C.w/\
   ∀ (r:Option Nat) (n:Nat),RoundIn (Fw r) n P l f tmps assign body C.w λe w'=>∃ (b:Bool) (C':Cx) (S':Nat->Prop),e= .returned (.bool b)/\C'.w=w'/\
    Wd C' (.mark (if b then i+1 else N+1+i) :: T')/\J (if b then i+1 else N+1+i) S' C'.w C'.I/\Rnd S C C' (.mark i :: T) (.mark (if b then i+1 else N+1+i) :: T') S'

theorem vyld{G:Ghost}{l B N:Nat}{J:Nat->(Nat->Prop)->World->(Nat->Prop)->Prop}{vw:Nat->Nat->List SV->List SObj->Prop}{i:Nat}{T v:List SObj}{args:List SV}{K:Out->List SObj->Prop}
 (V:∀ {E C},G.inv E C (.mark i :: T)->∃S,YCore B J E C (.mark i :: T) S/\∀ (C':Cx) (H':List SObj) (S':Nat->Prop),YCore B J E C' H' S'->Rnd S C C' (.mark i :: T) H' S'->G.inv E C' H')
 (hJ:FJ B J)(O:YG P l B N J vw)(R:i<N)(L:∀n,∃args' new,vw i n args' new/\Hand n (.mark i :: T) (.mark i :: v) args args' new)
 (F:∀b:Bool,K (.ret (.raw (.bool b))) (.mark (if b then i+1 else N+1+i) :: v)): @VYld G P l args (.mark i :: T) K:=by
 intro E C vs I A Y;obtain ⟨S,s,h⟩:=V A;obtain ⟨m,h1,z⟩:=s.st;have e:m=i:=by simp_all
 subst e;obtain ⟨f,tmps,a,p,q,d⟩:=O m T v args C S vs R I z (λb x=>⟨(s.own b x).2,λQ=>(s.fp b Q).2 x⟩) Y L;refine ⟨f,tmps,a,p,q,λr n=>(d r n).mono ?_⟩;rintro e w' ⟨b,C',S',rfl,rfl,y,W,u⟩;obtain ⟨Z,U⟩:=j2N s u ⟨_,rfl,W⟩;exact ⟨.raw (.bool b),_,C',.bool b,rfl,F b,rfl,y, @Stp.mk G E C _ C' _ u.evo Z λ_=>h C' _ S' U u,by rw [SV.den]⟩
variable {vw:Nat->Nat->List SV->List SObj->Prop}
def z5v{Ds:List Nat}{l N:Nat}{i:Nat}{T s:List SObj}
 (d:FJ B J)(Q:YG P l B N J vw)(q:i<N)(O:∀n,∃args' new,vw i n args' new/\Hand n (.mark i :: T) (.mark i :: s) args args' new)
 (F:∀b:Bool,K (.ret (.raw (.bool b))) (.mark (if b then i+1 else N+1+i) :: s)): @VYld (topG (yFG d) Ds) P l args (.mark i :: T) K:=by
 refine @vyld P (topG (yFG d) Ds) l B N J vw i T s args K (λ{E C} hg=> ?_) d Q q O F;obtain ⟨v,⟨S,u⟩,p,r⟩:=hg;refine ⟨S,u,λC' H' S' h e=>⟨⟨j7e e v.tab λb z=>(yFG d).nt u z,v.old⟩,⟨S',h⟩,p,λD A=> ?_⟩⟩;have m:=r D A;have a:D<C.w.heap.size:=(AC.1 m.at_).1;have x:¬S D:=λR=>absurd ((yFG d).lo u R m.far) (AN.2 m.sz);refine ⟨m.sz,λq=> ?_,λL=>m.own (e.own _ L),(e.fr.frame _ a λI=>I.elim x m.own).trans m.at_⟩;exact (e.fr.imm _ q).elim m.imm λ⟨y,_⟩=>y.elim (λy=>absurd a (AN.2 y)) λy=>y.elim x m.own

def Iter(P:Program)(f:FuncId)(fi ca:List SV)(N:Nat)(vw:Nat->Nat->List SV->List SObj->Prop):Prop:=
 enters P f=true/\∀ (l B:Nat) (J:Nat->(Nat->Prop)->World->(Nat->Prop)->Prop) (hJ:FJ B J),YG P l B N J vw->
  @VCallG (fgG (yFG hJ)) P f (fi++ [.raw (.func (.yield l) #[] #[])]++ca) [.mark 0] λo H'=>∃s m,o= .ret s/\H'[0]?=some (.mark m)/\N<=m
def IterO(inf:Prop)(P:Program)(f:FuncId)(fi ca:List SV)(ob:List SObj)(N:Nat)(vw:Nat->Nat->List SV->List SObj->Prop):Prop:=
 enters P f=true/\∀ (l B:Nat) (J:Nat->(Nat->Prop)->World->(Nat->Prop)->Prop) (hJ:FJ B J),YG P l B N J vw->(inf->∀S w I,¬J N S w I)->
  @VCallG (fgG (yFG hJ)) P f (fi++ [.raw (.func (.yield l) #[] #[])]++ca) (.mark 0 :: ob) λo H'=>∃s m,o= .ret s/\H'[0]?=some (.mark m)/\N<=m
abbrev IterI(inf:Prop)(P:Program)(f:FuncId)(fi ca:List SV)(N:Nat)(vw:Nat->Nat->List SV->List SObj->Prop):Prop:=IterO inf P f fi ca [] N vw
def Iter.toI{inf:Prop}{f:FuncId}{fi ca:List SV}{N:Nat}{vw:Nat->Nat->List SV->List SObj->Prop}(h:Iter P f fi ca N vw):IterI inf P f fi ca N vw:=⟨h.1,λl B J hJ yg _=>h.2 l B J hJ yg⟩

variable {P:Program} {AQ:Ex->List SV->List SObj->Prop} {k0:Nat} {k:List It} {t:List SV} {H:List SObj}

def putL:List Tmp->List SV->List SV->List SV
 |p :: ps,s :: l,t=>putL ps l (t.set p s)
 |_,_,t=>t
theorem z1X{C:Cx}:∀ (ps:List Tmp) (l:List SV) (vs:List Value) (t:List SV) (us:Array Value),SV.denL C l vs->SV.denL C t us.toList->SV.denL C (putL ps l t) ((ps.zip vs).foldl (λe x=>e.setIfInBounds x.1 x.2) us).toList
 | [],_,_,_,_,_,ht=>by simpa [putL] using ht
 |p :: ps,[],vs,t,us,hl,ht=>by simp_all [q0I,putL]
 |p :: ps,s :: l,vs,t,us,hl,ht=>by obtain ⟨v,a,rfl,h1,d⟩:=q0c.1 hl;simp only [putL,List.zip_cons_cons,AV];exact z1X ps l a _ _ d (by grind [q2G])
variable {ps:Array Tmp}{us:Array Value}
theorem j4B{l:List SV}{vs:List Value}(a:SV.denL C l vs)(d:SV.denL C t us.toList):SV.denL C (putL ps.toList l t) ((ps.zip vs.toArray).foldl (λtm (p,v)=>tm.setIfInBounds p v) us).toList:=by have:=z1X ps.toList l vs t us a d;grind [Array.toList_zip]

def Fr.congr{Q:Nat->Prop}{A A' B B':Cx}(h:Fr Q A B)(a:A'.w=A.w)(m:∀b,A'.I b ↔ A.I b)(d:B'.w=B.w)(n:∀b,B'.I b ↔ B.I b):Fr Q A' B' where
 size:=by rw [a,d];exact h.size
 os:=by rw [a,d];exact h.os
 tape:=by rw [a,d];exact h.tape
 output:=by rw [a,d];exact h.output
 keep:=λb e=>⟨(n b).2 (h.keep b ((m b).1 e)).1,by rw [a,d];exact (h.keep b ((m b).1 e)).2⟩
 sz:=by rw [a,d];exact h.sz
 frame:=by rw [a,d];exact h.frame
 imm:=λb e=>by rw [a,d];exact (h.imm b ((n b).1 e)).imp (m b).2 id
theorem k1a{Q:Nat->Prop}(m:Wd C H)(p:Fr Q C C')(z:∀b,OwnB C H b->¬Q b)(A:C'.ρ=C.ρ)(R:C'.n=C.n)(u:∀b,C'.I b->b<C'.w.heap.size):Wd C' H/\Evo C C':=by
 have v:Evo C C':=⟨by omega,λh _=>by rw [A],p.keep,p.sz⟩
 have a:∀b,OwnB C' H b->OwnB C H b:=λb ⟨h,o,q,r,e⟩=>⟨h,o,q,r,by simp_all⟩
 refine ⟨⟨by rw [R];exact m.n,λh o q=> ?_,λb e=> ?_,λh F o o' b s d O L h5 h6=>m.inj h F o o' b s d O L (by simp_all) (by simp_all),u⟩,v⟩
 . by_cases r:o.live=true
   . exact q0G v.I h (by rw [A]) (λb e=>p.frame b (m.own b ⟨h,o,q,r,e⟩).2 (z b ⟨h,o,q,r,e⟩)) (q0h v) (m.obj h o q)
   cases o<;>first|trivial|simp [SObj.live] at r
 have s:=a b e;have d:=m.own b s;exact ⟨λu=>(p.imm b u).elim d.1 λ⟨x,_⟩=>x.elim (λy=>absurd d.2 (AN.2 y)) (z b s),Al d.2 p.size⟩
theorem z6u{i j:Nat}{T:List SObj}(h:OwnB C (.mark i :: T) b):OwnB C (.mark j :: T) b:=by
 obtain ⟨x,o,ho,a,d⟩:=h;cases x with
 |zero=>grind [SObj.live]
 |succ x=>exact ⟨x+1,o,by grind,a,d⟩
theorem j6V{i j:Nat}{T:List SObj}(h:Wd C (.mark i :: T)):Wd C (.mark j :: T):=by
 have a:∀ {x:Nat} {o:SObj},(SObj.mark j :: T)[x]?=some o->o.live=true->(SObj.mark i :: T)[x]?=some o:=λ{x o} e d=>by grind [SObj.live]
 refine ⟨h.n,λx o e=> ?_,λb s=>h.own b (z6u s),λx x' o o' b r q p m=>h.inj x x' o o' b (a r p) (a q m) p m,h.imm⟩;by_cases d:o.live=true
 . exact h.obj x o (a e d)
 cases o<;>first|trivial|simp [SObj.live] at d

structure Cal (g:FG) (E:EnD) (Ds:List Nat) (t:List SV) (tms:List Value) (l:Nat) (o:Obj) (C:Cx) (H:List SObj) (S:Nat->Prop):Prop where
 wd:Wd C H
 ext:Ext E.toEn C H
 core:g.core E C H S
 tmps:SV.denL C t tms
 marks:∀D∈Ds,MarkOk E.toEn C H D
 lne:l ∉ Ds
 lsz:E.C.w.heap.size<=l
 limm:¬C.I l
 lown:¬OwnB C H l
 lat:C.w.heap[l]?=some o
 lfar:far o
 tab:TabE E.toEn C H
def calS(Ds:List Nat)(l:Nat)(C:Cx)(H:List SObj)(S:Nat->Prop)(b:Nat):Prop:=OwnB C H b\/S b\/b=l\/b∈Ds
variable {g:FG} {E:EnD} {Ds:List Nat} {tms:List Value} {l:Nat} {o:Obj} {C:Cx} {S:Nat->Prop}

def Cal.fp(h:Cal g E Ds t tms l o C H S){b:Nat}(a:calS Ds l C H S b):¬C.I b/\b<C.w.heap.size:=by
 rcases a with x|x|x|x
 . exact h.wd.own b x
 . exact ⟨(g.perm h.core x).2.1,(g.perm h.core x).2.2.2⟩
 . subst x;exact ⟨h.limm,(AC.1 h.lat).1⟩
 exact ⟨(h.marks b x).imm,(AC.1 (h.marks b x).at_).1⟩
theorem Cal.abide{B:Nat}{w':World}{I':Nat->Prop}(h:Cal g E Ds t tms l o C H S)(L:E.C.w.heap.size<=B)(s:C.w.heap.size<=w'.heap.size)(e:∀b,b<C.w.heap.size->(b<B\/calS Ds l C H S b\/C.I b)->w'.heap[b]?=C.w.heap[b]?)
 (Q:w'.os=C.w.os)(O:w'.tape=C.w.tape)(V:w'.output=C.w.output)(R:∀b m,World.bsize C.w b=some m->World.bsize w' b=some m)(U:∀b,C.I b->I' b)(d:∀b,I' b->C.I b\/(B<=b/\¬calS Ds l C H S b/\Unf w' b))(v:∀b,I' b->b<w'.heap.size):
 Cal g E Ds t tms l o {C with w:=w',I:=I'} H S:=by
 have p:Keeps C.I I' C.w w':=λb a=>⟨U b a,e b (h.wd.imm b a) (.inr (.inr a))⟩;have F:Evo C {C with w:=w',I:=I'}:=⟨Ad _,λ_ _=>rfl,p,R⟩
 refine ⟨⟨h.wd.n,λx o q=> ?_,λb a=> ?_,h.wd.inj,v⟩,⟨h.ext.evo.trans F,Ao h.ext.size s,Q.trans h.ext.os,O.trans h.ext.tape,V.trans h.ext.output,λb a Y=> ?_,λb a=> ?_,h.ext.ownNew,h.ext.keep0⟩,?_,q0h F h.tmps,λD z=> ?_,h.lne,h.lsz,?_,h.lown,?_,h.lfar,⟨h.tab.tab.keep p λb W a q=>⟨Al a s,q,e b a (.inl (Al (h.tab.old b W) L))⟩,h.tab.old⟩⟩
 . by_cases A:o.live=true
   . exact q0G (C':={C with w:=w',I:=I'}) p x rfl (λb a=>e b (h.wd.own b ⟨x,o,q,A,a⟩).2 (.inr (.inl (.inl ⟨x,o,q,A,a⟩)))) (q0h F) (h.wd.obj x o q)
   cases o<;>first|trivial|simp [SObj.live] at A
 . have:=h.wd.own b a;exact ⟨λr=>(d b r).elim this.1 λy=>y.2.1 (.inl a),Al this.2 s⟩
 . exact (e b (Al a h.ext.size) (.inl (Al a L))).trans (h.ext.frame b a Y)
 . rcases d b a with x|x
   . exact orMap (h.ext.immNew b x) id λ⟨y,u⟩=>⟨y,u.keep (p b x).2⟩
   grind
 . refine g.abide h.core s (λb a Z=>e b a ?_) (λb a=>(p b a).2) Q O V R U λb a=>orMap (d b a) id λx=>⟨Ao L x.1,λy=>x.2.1 (.inr (.inl y)),λy=>x.2.1 (.inl y),x.2.2⟩;rcases Z with x|x|x|x
   . omega
   . exact .inr (.inl (.inr (.inl x)))
   . simp_all
   exact .inr (.inl (.inl x))
 . have m:=h.marks D z;exact ⟨m.sz,λr=>(d D r).elim m.imm λy=>y.2.1 (.inr (.inr (.inr z))),m.own,(e D (AC.1 m.at_).1 (.inr (.inl (.inr (.inr (.inr z)))))).trans m.at_⟩
 . exact λr=>(d l r).elim h.limm λy=>y.2.1 (.inr (.inr (.inl rfl)))
 exact (e l (AC.1 h.lat).1 (.inr (.inl (.inr (.inr (.inl rfl)))))).trans h.lat
theorem Cal.chg(h:Cal g E Ds t tms l o C H S){o':Obj}(d:far o'):Cal g E Ds t tms l o' (chgC C l o') H S:=by have a:FarAt C.w l:=⟨o,h.lat,h.lfar⟩;refine ⟨j9v h.wd h.limm h.lown a,j8v h.ext h.limm a h.lsz,g.chg h.core h.lsz h.limm h.lown a,q0h (q8o h.limm a) h.tmps,λD n=> ?_,h.lne,h.lsz,h.limm,h.lown,j6u h.lat,d,⟨h.tab.tab.keep (q8o h.limm a).I λb p hb d=>⟨by grind [q4a],d,q1r λe=>absurd (h.tab.old b p) (AN.2 (e▸h.lsz))⟩,h.tab.old⟩⟩;have m:=h.marks D n;exact ⟨m.sz,m.imm,m.own,(q1r (D:=l) λe=>h.lne (e▸n)).trans m.at_⟩

def exC:Ex->Option Code
 |.ret=>some .ret
 |.exit id=>some (.exit id)
 |_=>none
def rfAt(N:Nat)(Hs:Nat->List SObj->Prop)(X:Nat->Ex->List SObj->Prop)(rec:LoopState->Option Code->Loop)(m:Nat)(H:List SObj)(o:Obj):Prop:=
 (m<=N/\Hs m H/\o= .loop (rec .ready none))\/∃i ex c,m=N+1+i/\i<N/\X i ex H/\exC ex=some c/\o= .loop (rec .done (some c))
def rfJ(g:FG)(E:EnD)(Ds:List Nat)(t:List SV)(tms:List Value)(l N:Nat)(Hs:Nat->List SObj->Prop)(X:Nat->Ex->List SObj->Prop)(rec:LoopState->Option Code->Loop)(m:Nat)(S:Nat->Prop)(w:World)(I:Nat->Prop):Prop:=
 ∃ (C:Cx) (S0:Nat->Prop) (H:List SObj) (o:Obj),C.w=w/\(∀b,C.I b ↔ I b/\b<w.heap.size)/\Cal g E Ds t tms l o C H S0/\(∀b,S b ↔ calS Ds l C H S0 b)/\rfAt N Hs X rec m H o
variable {Hs:Nat->List SObj->Prop}{X:Nat->Ex->List SObj->Prop}{rec:LoopState->Option Code->Loop}
theorem j9I{N:Nat}(y:E.C.w.heap.size<=B):FJ B (rfJ g E Ds t tms l N Hs X rec) where
 abide:=by rintro m S w I w' I' ⟨C,q,H,o,rfl,n,d,h,e⟩ r s hkI v u z F A hi';refine ⟨{C with w:=w',I:=λb=>I' b/\b<w'.heap.size},q,H,o,rfl,λb=>Iff.rfl,d.abide y r (λb a hx=>s b a ?_) v u z F (λb a=>⟨A b ((n b).1 a).1,Al ((n b).1 a).2 r⟩) (λb a=> ?_) (λb a=>a.2),h,e⟩;all_goals grind
 fp:=by rintro m S w I b ⟨C,q,H,o,rfl,n,d,h,e⟩ a;have:=d.fp ((h b).1 a);grind
 nt:=by
  rintro m S w I b ⟨C,q,H,o,rfl,n,d,h,e⟩ a p;rcases (h b).1 a with x|x|x|x
  . exact d.tab.tab.own b p x
  . exact g.nt d.core x p
  . exact absurd (d.tab.old b p) (AN.2 (x▸d.lsz))
  exact absurd (d.tab.old b p) (AN.2 (d.marks b x).sz)
theorem j5Z{N m:Nat}{I:Nat->Prop}(n:E.C.w.heap.size<=B)(hl:l<B)(hD:∀D∈Ds,D<B)
 (h:rfJ g E Ds t tms l N Hs X rec m S w I)(p:S b)(a:FarAt w b):b<B:=by
 obtain ⟨C,S0,H,o,rfl,hI,d,e,hat⟩:=h;rcases (e b).1 p with x|x|x|x
 . exact absurd a (z6S d.wd x)
 . exact Al (g.lo d.core x a) n
 all_goals simp_all

variable {P:Program} {AQ:Ex->List SV->List SObj->Prop} {k0:Nat} {k:List It} {t:List SV} {H:List SObj}
variable {g:FG} {E:EnD} {Ds:List Nat} {tms:List Value} {l:Nat} {o:Obj} {C C':Cx} {H':List SObj} {S S':Nat->Prop}

def calL(Ds:List Nat)(l:Nat)(o:Obj):List (Nat×Obj):=(l,o) :: Ds.map λD=>(D,.deferred (some []))
def Cal.pins(h:Cal g E Ds t tms l o C H S):Pins (calL Ds l o) C H S:=by
 intro x d;rcases Bb.1 d with rfl|d
 . exact ⟨h.limm,h.lown,λa=>absurd (g.lo h.core a ⟨o,h.lat,h.lfar⟩) (AN.2 h.lsz),h.lat,h.lfar⟩
 obtain ⟨D,e,rfl⟩:=Br.1 d;have m:=h.marks D e;exact ⟨m.imm,m.own,λa=>absurd (g.lo h.core a m.far) (AN.2 m.sz),m.at_,trivial⟩
theorem Cal.run(h:Cal g E Ds t tms l o C H S)(d:Ext (startE g.um S C H).toEn C' H')(p:Wd C' H')(a:g.core (startE g.um S C H) C' H' S')(m:Pins (calL Ds l o) C' H' S'):Cal g E Ds t tms l o C' H' S':=by obtain ⟨v,z,q3,s,A⟩:=m (l,o) (by simp [calL]);refine ⟨p,q8M h.wd h.ext (λb e=>(g.perm h.core e).1) (λy=>g.unm y h.core) d,g.back h.wd h.core d a,q0h (q3E d.evo) h.tmps,λD x=> ?_,h.lne,h.lsz,v,z,s,A,⟨(q6l h.wd.n h.tab.tab λb e=>g.nt h.core e).next d,h.tab.old⟩⟩;obtain ⟨r,u,p3,q,p5⟩:=m (D,.deferred (some [])) (by grind [calL]);exact ⟨(h.marks D x).sz,r,u,q⟩

def RQ(Hs:Nat->List SObj->Prop)(X:Nat->Ex->List SObj->Prop)(i:Nat):Ex->List SV->List SObj->Prop
 |.normal,_,H'=>Hs (i+1) H'
 |.ret,_,H'=>X i .ret H'
 |.exit id,_,H'=>X i (.exit id) H'
 |.pan _,_,_=>False
structure RfOk (P:Program) (g:FG) (ps:Array Tmp) (assign body:Code) (t:List SV) (N:Nat) (vw:Nat->Nat->List SV->List SObj->Prop) (Hs:Nat->List SObj->Prop) (X:Nat->Ex->List SObj->Prop):Prop where
 len:∀i n args' new,vw i n args' new->args'.length=ps.size
 round:∀i Hi args' new,i<N->Hs i Hi->vw i Hi.length args' new->∀L1 L2,∃Φ,(∀t' H',Φ t' H'-> @Sound (pinG g L2) P (RQ Hs X i) ⟨H'.length,[.code body],t',H'⟩)/\
  @Sound (pinG g L1) P (λ_ _ _=>False) ⟨(Hi++new).length,[.code assign,.stop Φ],putL ps.toList args' t,Hi++new⟩
@[reducible] def rfRec(fn:FuncId)(us:Array Value)(ps:Array Tmp)(assign body:Code)(D:Nat)(st:LoopState)(pe:Option Code):Loop:={state:=st,pending:=pe,fn,tmps:=us,params:=ps,assign,body,defers:=D}

theorem z7H{d q:Code}{N:Nat}{fn:FuncId}
 (hr:RfOk P g ps d q t N vw Hs X)(hB:E.C.w.heap.size<=B):YG P l B N (rfJ g E Ds t us.toList l N Hs X (rfRec fn us ps d q D)) vw:=by
 rintro i T T' args C S vs hi hw ⟨Cc,S0,Hm,o,e1,hI,Q,hS,aw⟩ ah hv hh;obtain ⟨aC,rfl⟩:Hs i Hm/\o= .loop (rfRec fn us ps d q D .ready none):=by rcases aw with ⟨_,h1,h2⟩ | ⟨i',_,_,h,_⟩;all_goals grind
 have aD:∀b,Cc.I b ↔ C.I b:=λb=>(hI b).trans ⟨λh=>h.1,λh=>⟨h,hw.imm b h⟩⟩;obtain ⟨ad,F,am,ak⟩:=hh Hm.length;have O:∀b,OwnB C (.mark i :: T) b->¬calS Ds l Cc Hm S0 b:=λb A h=>(ah b A).2 ((hS b).2 h);obtain ⟨C2,Cc2,a1,a2,a3,a4,a5,b1,b2,b3,b4,b5,b6⟩:=ak C Cc Hm vs hw hv Q.wd rfl e1 aD (λb A aE=>O b A (.inl aE));have e2:Cc2.w=Cc.w:=b1.trans e1.symm;have U:∀b,OwnB Cc2 (Hm++F) b->OwnB Cc Hm b\/(E.C.w.heap.size<=b/\OwnB C (.mark i :: T) b/\¬OwnB C2 (.mark i :: T') b):=λb A=>orMap (b6 b A) id λh=>⟨Ao hB (ah b h.1).1,h⟩;have ac:Cal g E Ds t us.toList l (.loop (rfRec fn us ps d q D .ready none)) Cc2 (Hm++F) S0:=by
  refine ⟨b3,⟨Q.ext.evo.trans b4,by rw [e2];exact Q.ext.size,by rw [e2];exact Q.ext.os,by rw [e2];exact Q.ext.tape,by rw [e2];exact Q.ext.output,λb h1 h2=>by rw [e2];exact Q.ext.frame b h1 h2,λb A=> ?_,λb A=> ?_,λm h0 hm=>q5X (Q.ext.keep0 m h0 hm)⟩,?_,q0h b4 Q.tmps,λD' hD=> ?_,Q.lne,Q.lsz,by rw [b2];exact Q.limm,λho=> ?_,by rw [e2];exact Q.lat,Q.lfar,⟨Q.tab.tab.keep b4.I λb hT A ho=>⟨by simp_all,λx=>(U b x).elim ho λy=>absurd (Q.tab.old b hT) (AN.2 y.1),by rw [e2]⟩,Q.tab.old⟩⟩
  . rw [b2] at A;rw [e2];exact Q.ext.immNew b A
  . exact (U b A).elim (Q.ext.ownNew b) λx=>.inl x.1
  . exact g.own Q.wd e2 (λb h=>by simp_all) (λb h=>by simp_all) (λb A=>orMap (U b A) id λx=>⟨x.1,λh=>O b x.2.1 (.inr (.inl h))⟩) (λm _ hm=>q5X hm) (Ao Q.ext.evo.n b4.n) Q.core
  . have m:=Q.marks D' hD;exact ⟨m.sz,by rw [b2];exact m.imm,λho=>(U D' ho).elim m.own λx=>O D' x.2.1 (.inr (.inr (.inr hD))),by rw [e2];exact m.at_⟩
  exact (U l ho).elim Q.lown λx=>O l x.2.1 (.inr (.inr (.inl rfl)))
 have ag:Cc2.n=(Hm++F).length:=b3.n;have ay:C.w.heap[l]?=some (.loop (rfRec fn us ps d q D .ready none)):=by rw [<-e1];exact Q.lat
 have aG:vs.toArray.size=ps.size:=by have:=q0B b5;rw [Ch,this,hr.len _ _ _ _ am]
 refine ⟨fn,_,d,q,run_yield (P:=P) ay aG,λr n=>roundIn_of_wpIn (q5G r fn) ?_⟩;have aB: @Den (pinG g (calL Ds l (.loop (rfRec fn us ps d q D .ready none)))) (startE g.um S0 Cc2 (Hm++F)) Cc2 (putL ps.toList ad t) (Hm++F) {tmps:=(ps.zip vs.toArray).foldl (λtm (p,v)=>tm.setIfInBounds p v) us,defers:=[]}:=
  ⟨b3,q4x ag,⟨rfl,⟨ac.tab.tab,ac.tab.tab.lt⟩,S0,g.start b3 ac.core,ac.pins⟩,j4B b5 ac.tmps⟩
 obtain ⟨Φ,aj,aq⟩:=hr.round i Hm ad F hi aC am (calL Ds l (.loop (rfRec fn us ps d q D .ready none))) (calL Ds l (.loop (rfRec fn us ps d q D .busy none)));have h1:=aq (startE g.um S0 Cc2 (Hm++F)) (some l) n Cc2 _ ⟨CR ag,trivial⟩ aB;simp only [wpT] at h1;refine wpIn_mono (by rw [<-b1];exact h1) λe a w hq=> ?_;clear h1;cases e with
 |exit id=>simp only [exitT] at hq;obtain ⟨_,_,_,h,_⟩:=hq;exact h.elim
 |ret=>obtain ⟨_,_,_,h,_⟩:=hq;exact h.elim
 |panic ch=>obtain ⟨_,_,_,_,_,h,_⟩:=hq;exact h.elim
 |goto _=>exact hq.elim
 |outgrown=>exact hq.elim
 |normal=>
  obtain ⟨C',t',H',hΦ,rfl,hd⟩:=hq;obtain ⟨ax,_,S1,ab,aF⟩:=hd.defs;have L:=ac.run hd.ext hd.wd ab aF;have ae:FarAt C'.w l:=⟨_,L.lat,L.lfar⟩;have s:=L.chg (o':=.loop (rfRec fn us ps d q D .busy none)) trivial;refine ⟨_,run_beginRound L.lat rfl,?_⟩;have aA: @Den (pinG g (calL Ds l (.loop (rfRec fn us ps d q D .busy none)))) (startE g.um S1 (chgC C' l (.loop (rfRec fn us ps d q D .busy none))) H') (chgC C' l (.loop (rfRec fn us ps d q D .busy none))) t' H' a:=
   ⟨s.wd,q4x s.wd.n,⟨ax,⟨s.tab.tab,s.tab.tab.lt⟩,S1,g.start s.wd s.core,s.pins⟩,q0h (q8o L.limm ae) hd.tmps⟩
  have h2:=aj _ _ hΦ _ (some l) n _ a ⟨CR s.wd.n,trivial⟩ aA;simp only [wpT] at h2;refine wpIn_mono h2 λe3 a9 w3 Y=> ?_;clear h2;have fin:∀ {W:Cx} {t3:List SV} {H3:List SObj} (u:Option Code), @DenF (pinG g (calL Ds l (.loop (rfRec fn us ps d q D .busy none)))) (startE g.um S1 (chgC C' l (.loop (rfRec fn us ps d q D .busy none))) H') W t3 H3 a9->
   rfAt N Hs X (rfRec fn us ps d q D) (if u.isNone then i+1 else N+1+i) H3 (.loop (rfRec fn us ps d q D (if u.isNone then .ready else .done) u))->
   ∃v w',(Instr.endRound l u).run P W.w= .ok v w'/\∃ (b:Bool) (C':Cx) (S':Nat->Prop),Ending.returned v= .returned (.bool b)/\C'.w=w'/\
   Wd C' (.mark (if b then i+1 else N+1+i) :: T')/\rfJ g E Ds t us.toList l N Hs X (rfRec fn us ps d q D) (if b then i+1 else N+1+i) S' C'.w C'.I/\Rnd S C C' (.mark i :: T) (.mark (if b then i+1 else N+1+i) :: T') S':=by
   intro W t3 H3 u R aH;obtain ⟨_,S3,aa,au⟩:=R.defs;have V:=s.run R.ext R.wd aa au;have al:FarAt W.w l:=⟨_,V.lat,V.lfar⟩;have Z:=V.chg (o':=.loop (rfRec fn us ps d q D (if u.isNone then .ready else .done) u)) trivial;have ao:=run_endRound (P:=P) u V.lat;refine ⟨_,_,ao,u.isNone,⟨C2.ρ,C2.n,W.I,(chgC W l (.loop (rfRec fn us ps d q D (if u.isNone then .ready else .done) u))).w⟩,calS Ds l W H3 S3,rfl,rfl,?_⟩;generalize ar:chgC W l (.loop (rfRec fn us ps d q D (if u.isNone then .ready else .done) u))=C4 at*;have e4:C4.I=W.I/\C4.ρ=W.ρ:=by rw [<-ar];exact ⟨rfl,rfl⟩
   have f1:Fr (λb=>OwnB Cc2 (Hm++F) b\/S0 b\/b=l) Cc2 C':=(z6t ag hd.ext).mono λb A=>orMap A id .inl;have f2:=j4R (o:=.loop (rfRec fn us ps d q D .busy none)) L.limm ae;have f3:=z6t s.wd.n R.ext;have f4:Fr (λb=>b=l) W C4:=by rw [<-ar];exact j4R V.limm al
   have z1:∀b,OwnB C' H' b\/S1 b->Cc2.w.heap.size<=b\/OwnB Cc2 (Hm++F) b\/S0 b\/b=l:=λb A=>by
    rcases A with x|x
    . exact orMap (z1T ag hd.ext x) id λy=>orMap y id .inl
    exact (g.perm ab x).1.imp id λy=>orMap ((q0O ag).1 y) id λz=>.inl z.1
   have ai:=f1.trans f2 λb A=>.inr (.inr (.inr A));have ap:=ai.trans f3 λb A=>z1 b A;have hf:=ap.trans f4 λb A=>.inr (.inr (.inr A));have z3:∀b,OwnB W H3 b\/S3 b->Cc2.w.heap.size<=b\/OwnB Cc2 (Hm++F) b\/S0 b\/b=l:=λb A=>by
    rcases A with x|x
    . exact (z1T s.wd.n R.ext x).elim (λy=>.inl (Ao ai.size y)) λy=>z1 b y
    exact (g.perm aa x).1.elim (λy=>.inl (Ao ai.size y)) λy=>z1 b (orMap ((q0O s.wd.n).1 y) id λz=>z.1)
   have az:∀b,OwnB C2 (.mark i :: T') b->¬(OwnB Cc2 (Hm++F) b\/S0 b\/b=l):=λb A hq=>by
    have ho:=a5 b A;rcases hq with x|x|x
    . exact (b6 b x).elim (λy=>O b ho (.inl y)) λy=>y.2 A
    . exact O b ho (.inr (.inl x))
    exact O b ho (.inr (.inr (.inl x)))
   have av:Fr (λb=>OwnB Cc2 (Hm++F) b\/S0 b\/b=l) C2 ⟨C2.ρ,C2.n,W.I,C4.w⟩:=hf.congr (a1.trans b1.symm) (λb=>by simp_all) rfl (λb=>by rw [e4.1]);obtain ⟨w1,w2⟩:=k1a a3 av az rfl rfl (by have:=Z.wd.imm;simp_all);have af:∀ {b:Nat} {j:Nat},OwnB ⟨C2.ρ,C2.n,W.I,C4.w⟩ (.mark j :: T') b->OwnB C2 (.mark i :: T') b:=λ{b j} A=>by obtain ⟨x,y,z⟩:=z6u (j:=i) A;exact ⟨x,y,z⟩
   refine ⟨j6V w1,⟨C4,S3,H3,_,rfl,λb=> ?_,Z,λb=> ?_,aH⟩,a4.trans w2,(hf.congr (A':=C) (B':=⟨C2.ρ,C2.n,W.I,C4.w⟩) b1.symm (λb=>by simp_all) rfl (λb=>by rw [e4.1])).mono λb hq=> ?_,λb A=>a5 b (af A),λb A=> ?_⟩
   . rw [e4.1];exact ⟨λh=>⟨h,Z.wd.imm b (by simp_all)⟩,And.left⟩
   . grind [calS,OwnB]
   . rcases hq with x|x|x
     . exact orMap (b6 b x) (λy=>(hS b).2 (.inl y)) λy=>y.1
     . exact .inl ((hS b).2 (.inr (.inl x)))
     exact .inl ((hS b).2 (.inr (.inr (.inl x))))
   have hz:Cc2.w.heap.size<=b\/(OwnB Cc2 (Hm++F) b\/S0 b\/b=l)\/b∈Ds:=by
    rcases A with x|x|x|x
    . grind
    all_goals grind
   refine ⟨?_,λho=> ?_⟩
   . rcases hz with x| (x|x|x) |x
     . simp_all
     . exact .inr (orMap (b6 b x) (λy=>(hS b).2 (.inl y)) λy=>y.1)
     . exact .inr (.inl ((hS b).2 (.inr (.inl x))))
     . exact .inr (.inl ((hS b).2 (.inr (.inr (.inl x)))))
     exact .inr (.inl ((hS b).2 (.inr (.inr (.inr x)))))
   have an:=af ho;rcases hz with x|x|x
   . have:=(a3.own b an).2;grind
   . simp_all
   exact O b (a5 b an) (.inr (.inr (.inr x)))
  cases e3 with
  |normal=>obtain ⟨W,t3,H3,hK,rfl,R⟩:=Y;exact fin none R (.inl ⟨hi,hK,rfl⟩)
  |ret=>obtain ⟨W,t3,H3,hK,rfl,R⟩:=Y;exact fin (some .ret) R (.inr ⟨i,.ret,.ret,rfl,hi,hK,rfl,rfl⟩)
  |exit id=>simp only [exitT] at Y;obtain ⟨W,t3,H3,hK,rfl,R⟩:=Y;exact fin (some (.exit id)) R (.inr ⟨i,.exit id,.exit id,rfl,hi,hK,rfl,rfl⟩)
  |panic ch=>obtain ⟨_,_,_,_,_,h,_⟩:=Y;exact h.elim
  |goto _=>exact Y.elim
  |outgrown=>exact Y.elim
end Go.Sx
set_option maxHeartbeats 4000000
namespace Go.Sx
open Go

variable {P:Program} {AQ:Ex->List SV->List SObj->Prop} {k0:Nat} {k:List It} {t:List SV} {H:List SObj}
variable {g:FG} {Ds:List Nat}

def z3q{E:EnD}{D:Nat}{C:Cx}{m:List Deferred}(h:(topG g (D :: Ds)).fin {E with base:=markD D :: E.base} C H m):(topG g Ds).fin E C H m:=by obtain ⟨Ds',e,⟨S,n⟩,d,a⟩:=h;exact ⟨Ds'++ [D],by rw [e];simp,⟨S,g.base (E:={E with base:=markD D :: E.base}) E.base n⟩,by simpa using d,by simpa using a⟩
def z0j{q r:Ghost}{E:EnD}{u:List Deferred}(p:∀ {C H ds},q.fin {E with base:=u} C H ds->r.fin E C H ds)(e:Exit)(a:Act)(w:World)(h: @conc q {E with base:=u} AQ e a w): @conc r E AQ e a w:=by
 cases e with
 |normal=>obtain ⟨C,t,H,n,m,d⟩:=h;exact ⟨C,t,H,n,m,⟨d.wd,d.ext,p d.defs,d.tmps⟩⟩
 |ret=>obtain ⟨C,t,H,n,m,d⟩:=h;exact ⟨C,t,H,n,m,⟨d.wd,d.ext,p d.defs,d.tmps⟩⟩
 |exit id=>obtain ⟨C,t,H,n,m,d⟩:=h;exact ⟨C,t,H,n,m,⟨d.wd,d.ext,p d.defs,d.tmps⟩⟩
 |panic ch=>obtain ⟨C,t,H,s,v,n,m,d,z,F,x,A,y⟩:=h;exact ⟨C,t,H,s,v,n,m,d,z,F,x,p A,y⟩
 |goto l=>exact h
 |outgrown=>exact h

def q6J{w:World}{o:Obj}{b:Nat}(h:b<w.heap.size):(w.alloc o).heap[b]?=w.heap[b]?:=by show (w.heap.push o)[b]?=_;rw [Array.getElem?_push_lt h,CL h]

def RfStop(g:FG)(P:Program)(AQ:Ex->List SV->List SObj->Prop)(k0:Nat)(k:List It)(t:List SV)(Ds:List Nat):Ex->List SObj->Prop
 |.exit id,H=>∃k',exitTo' id k=some k'/\ @Sound (topG g Ds) P AQ ⟨k0,k',t,H⟩
 |.ret,H=>AQ .ret t H
 |_,_=>False
@[reducible] def freG(g:FG)(Ds:List Nat):Ghost where
 inv0:=λE C H=>(topG g Ds).inv0 E C H/\∀b,¬OwnB E.C E.H b
 fin:=(topG g Ds).fin
 toFin0:=λht h=>(topG g Ds).toFin0 ht h.1
 next0:=λhx h=>⟨(topG g Ds).next0 hx h.1,h.2⟩
 same0:=λhw e hk hi ho hm hl h=>⟨(topG g Ds).same0 hw e hk hi ho hm hl h.1,h.2⟩
 rd:=λr=>r=none
 rd0:=rfl
variable {G0:Ghost}{inf:Prop}{gop:Operand}{ps:Array Tmp}{f:FuncId}{N:Nat}{vw:Nat->Nat->List SV->List SObj->Prop}
theorem j1B{d u:Code}{fi ca aC:List SV}{ob H1:List SObj}{Hs:Nat->List SObj->Prop}{X:Nat->Ex->List SObj->Prop}
 (hG:∀ {E C},G0.inv0 E C H->(topG g Ds).inv0 E C H/\(ob= []\/∀b,¬OwnB E.C E.H b))(hF:∀ {E C H ds},(topG g Ds).fin E C H ds->G0.fin E C H ds)(aW:∀r,G0.rd r->r=none)
 (aG:evT t gop= .fn f fi ca)(aY:SV.cleanL fi=true)(aJ:Hand 1 H H1 ca aC ob)(ax:∀n,H[0]?=some (.mark n)->H1[0]?=some (.mark n))(av:IterO inf P f fi aC ob N vw)(aA:inf->∀Hn,¬Hs N Hn)(hr:RfOk P g ps d u t N vw Hs X)(h0:Hs 0 H1)(aE:noStop k=true)
 (ai:∀D Hn,Hs N Hn-> @Sound (topG g (D :: Ds)) P AQ ⟨k0,k,t,Hn⟩)(ao:∀D i ex Hn,i<N->X i ex Hn->RfStop g P AQ k0 k t (D :: Ds) ex Hn):
 @Sound G0 P AQ ⟨k0,.code (.rangeFunc gop ps d u) :: k,t,H⟩:=by
 intro E r n C a aB A;obtain ⟨ay,aR⟩:E.C.n<=k0/\G0.rd r:=aB;obtain rfl:=aW r aR;simp only [wpT];obtain ⟨aN,Z,aL⟩:=A.defs;obtain ⟨⟨⟨S0,aa⟩,bb,ag⟩,aw⟩:=hG aL;have af:=q2B A.tmps gop;rw [aG,SV.den] at af;obtain ⟨v1,v2,af,d1,d2⟩:=af;refine wpIn_rangeFunc λfn _=> ?_;have ap:∀b,¬OwnB ⟨λ_=>none,1,C.I,C.w⟩ [.mark 0] b:=λb ⟨x,o,_,_,p⟩=>by cases p
 have aV:Wd ⟨λ_=>none,1,C.I,C.w⟩ [.mark 0]:=by
  refine ⟨rfl,λx o Y=> ?_,λb p=>absurd p (ap b),λx x' o o' b _ _ _ _ h=>(by cases h),A.wd.imm⟩;cases x with
  |zero=>simp at Y;subst Y;trivial
  |succ x=>simp at Y
 obtain ⟨O,W,Q,a2,a3,a4,a5,b1,b2,b3,b4,b5,b6⟩:=aJ C _ [.mark 0] v2 A.wd d2 aV rfl rfl (λ_=>Iff.rfl) λb _ h=>ap b h;have h6:∀b,OwnB W (.mark 0 :: ob) b->OwnB C H b/\¬OwnB O H1 b:=λb p=>(b6 b p).elim (λh=>absurd h (ap b)) id;have aO:Wd O H1/\Ext E.toEn O H1/\g.core E O H1 S0/\SV.denL O t a.tmps.toList/\(∀D∈Ds,MarkOk E.toEn O H1 D)/\TabT O H1:=by
  refine ⟨a3,⟨A.ext.evo.trans a4,by rw [Q];exact A.ext.size,by rw [Q];exact A.ext.os,by rw [Q];exact A.ext.tape,by rw [Q];exact A.ext.output,λb h1 h2=>by rw [Q];exact A.ext.frame b h1 h2,λb p=> ?_,λb p=>A.ext.ownNew b (a5 b p),λm h0 hm=>ax m (A.ext.keep0 m h0 hm)⟩,?_,q0h a4 A.tmps,λD hD=>(ag D hD).same Q (λb p=>.inl (by rw [a2] at p;exact p)) a5,Z.tab.sub Q (λb p=>by rw [a2];exact p) a5⟩
  . rw [a2] at p;rw [Q];exact A.ext.immNew b p
  exact g.own A.wd Q (λb h=>by rw [a2];exact h) (λb h=>by rw [a2] at h;exact .inl h) (λb p=>.inl (a5 b p)) (λm _ hm=>ax m hm) (Ao A.ext.evo.n a4.n) aa
 obtain ⟨aj,az,ad,aX,ar,al⟩:=aO;obtain ⟨y,R⟩:∃y,y=(C.w.alloc (.deferred (some []))).alloc (.loop (rfRec fn a.tmps ps d u C.w.heap.size .ready none)):=⟨_,rfl⟩;have hsz:y.heap.size=C.w.heap.size+2:=by rw [R];simp
 have L:∀b,b<C.w.heap.size->y.heap[b]?=C.w.heap[b]?:=λb p=>by rw [R,q6J (by simp;omega),q6J p]
 have aS:y.heap[C.w.heap.size]?=some (.deferred (some [])):=by rw [R,q6J (by simp),World.alloc_heap_new]
 have aH:y.heap[C.w.heap.size+1]?=some (.loop (rfRec fn a.tmps ps d u C.w.heap.size .ready none)):=by rw [R];have:=World.alloc_heap_new (C.w.alloc (.deferred (some []))) (.loop (rfRec fn a.tmps ps d u C.w.heap.size .ready none));rwa [World.size_alloc] at this
 have ae:(Instr.enterLoop fn a.tmps ps d u (Fw none).round).run P C.w= .ok (C.w.heap.size+1,[markD C.w.heap.size]) y:=by rw [R];exact run_enterLoop_outer _ _ _ _ _
 have V:World.os y=C.w.os/\y.tape=C.w.tape/\y.output=C.w.output:=by rw [R];exact ⟨rfl,rfl,rfl⟩
 clear R;obtain ⟨g1,g2⟩:=j2W (w':=y) aj (by rw [Q];omega) (by rw [Q];exact L) (by rw [Q];exact V.1) (by rw [Q];exact V.2.1) (by rw [Q];exact V.2.2);obtain ⟨w9,x9⟩:=j2W (w':=y) b3 (by rw [b1];show C.w.heap.size<=_;omega) (by rw [b1];exact L) (by rw [b1];exact V.1) (by rw [b1];exact V.2.1) (by rw [b1];exact V.2.2);have ab:∀D∈Ds,D<C.w.heap.size:=λD hD=>(AC.1 (ag D hD).at_).1;have U:∀b,C.w.heap.size<=b->¬O.I b/\¬OwnB O H1 b:=λb p=>⟨λh=>absurd (aj.imm b h) (by rw [Q];omega),λh=>absurd (aj.own b h).2 (by rw [Q];omega)⟩
 have aZ:E.C.w.heap.size<=C.w.heap.size:=A.ext.size;have aD:Cal g E (C.w.heap.size :: Ds) t a.tmps.toList (C.w.heap.size+1) (.loop (rfRec fn a.tmps ps d u C.w.heap.size .ready none)) {O with w:=y} H1 S0:=by
  refine ⟨g1,az.trans g2,g.next g2 ad,q0h g2.evo aX,λD hD=> ?_,λhm=> ?_,by omega,(U _ (by omega)).1,(U _ (by omega)).2,aH,trivial,⟨al.next g2,Z.old⟩⟩
  . rcases Bb.1 hD with rfl|hD
    . exact ⟨aZ,(U _ (Ad _)).1,(U _ (Ad _)).2,aS⟩
    exact (ar D hD).next g2
  rcases Bb.1 hm with h|h
  . omega
  have:=ab _ h;omega
 have hJ:=j9I (g:=g) (E:=E) (Ds:=C.w.heap.size :: Ds) (t:=t) (tms:=a.tmps.toList) (l:=C.w.heap.size+1) (N:=N) (Hs:=Hs) (X:=X) (rec:=rfRec fn a.tmps ps d u C.w.heap.size) (Ad _);have yg:=z7H (E:=E) (Ds:=C.w.heap.size :: Ds) (l:=C.w.heap.size+1) (fn:=fn) (us:=a.tmps) (D:=C.w.heap.size) hr (Ad _);have aq:rfJ g E (C.w.heap.size :: Ds) t a.tmps.toList (C.w.heap.size+1) N Hs X (rfRec fn a.tmps ps d u C.w.heap.size) 0 (calS (C.w.heap.size :: Ds) (C.w.heap.size+1) {O with w:=y} H1 S0) y W.I:=
  ⟨{O with w:=y},S0,H1,_,rfl,λb=>by rw [b2,show ({O with w:=y}:Cx).I=C.I from a2];exact ⟨λh=>⟨h,by have:=A.wd.imm b h;omega⟩,And.left⟩,aD,λ_=>Iff.rfl,.inl ⟨Aj _,h0,rfl⟩⟩
 have aM:∀b,OwnB W (.mark 0 :: ob) b->b<C.w.heap.size:=λb p=>(A.wd.own b (h6 b p).1).2;have hy:=YCore.mk (B:=E.C.w.heap.size) (E:=startE true (calS (C.w.heap.size :: Ds) (C.w.heap.size+1) {O with w:=y} H1 S0) {W with w:=y} (.mark 0 :: ob)) (C:={W with w:=y}) (H:=.mark 0 :: ob) (S:=calS (C.w.heap.size :: Ds) (C.w.heap.size+1) {O with w:=y} H1 S0)
  (by show 0<W.n;rw [b3.n];simp) (Ad _) (λn hn=>by cases (q5f (by simp) hn).1) (by show _<=y.heap.size;omega) (Ad _) (λb p=>⟨.inr ((q0O w9.n).2 (.inl p)),by
   rcases aw with h|h
   . subst h;obtain ⟨x,o,Y,hl,_⟩:=p;cases x with
     |zero=>simp at Y;subst Y;simp [SObj.live] at hl
     |succ x=>simp at Y
   . exact (A.ext.ownNew b (h6 b p).1).elim id λx=>absurd x (h b)⟩) ⟨0,rfl,aq⟩ (λb p=>⟨.inr ((q0O w9.n).2 (.inr ⟨p,(hJ.fp aq p).2⟩)),λY=>by
   have q:=h6 b Y;have q2:=aM b Y;rcases p with x|x|x|x
   . exact q.2 x
   . exact (g.perm aa x).2.2.1 q.1
   . omega
   . rcases Bb.1 x with rfl|x
     . omega
     exact (ag b x).own q.1⟩) (λj s f=>j5Z (B:=C.w.heap.size+2) (by omega) (by omega) (λD hD=>by
   rcases Bb.1 hD with rfl|hD
   . omega
   have:=ab _ hD;omega) j s f|>λh=>by show _<y.heap.size;omega)
 have F:TabT {W with w:=y} (.mark 0 :: ob):=Z.tab.keep (C':={W with w:=y}) (λb p=>⟨by show W.I b;rw [b2];exact p,L b (A.wd.imm b p)⟩) λb _ p Y=>⟨by show b<y.heap.size;omega,λx=>Y (h6 b x).1,L b p⟩
 have ah:=av.2 (C.w.heap.size+1) E.C.w.heap.size _ hJ yg (λhi S w I ⟨_,_,Hn,_,_,_,_,_,am⟩=>by
  rcases am with ⟨_,h1,_⟩ | ⟨i,_,_,h1,h2,_⟩
  . exact aA hi Hn h1
  . omega) (startE true (calS (C.w.heap.size :: Ds) (C.w.heap.size+1) {O with w:=y} H1 S0) {W with w:=y} (.mark 0 :: ob)) {W with w:=y} (v1++ [Value.func (.yield (C.w.heap.size+1)) #[] #[]]++v2) w9 ⟨⟨F,F.lt⟩,_,hy⟩
  (q0z.2 ⟨_,_,rfl,q0z.2 ⟨_,_,rfl,q1E (C:=C) (C':={W with w:=y}) (λb p=>⟨by show W.I b;rw [b2];exact p,L b (A.wd.imm b p)⟩) aY d1,q0c.2 ⟨_,[],rfl,by rw [SV.den],q0I.2 rfl⟩⟩,q0h x9.evo b5⟩)
 refine ⟨C.w.heap.size+1,[markD C.w.heap.size],y,{target:=.fn (.func f) v2.toArray,args:=v1.toArray++ #[.func (.yield (C.w.heap.size+1)) #[] #[]]},y,f,(v1++ [Value.func (.yield (C.w.heap.size+1)) #[] #[]]++v2).toArray,y,ae,?_,λf' _=>q5G none f',?_,λh=>(by cases h),q4s (ah.mono ?_)⟩
 . simp [resolve,af,Deferred.ofValue];rfl
 . simp [invoke,q3C av.1]
 rintro e w' ⟨o,H',C',⟨s,m,rfl,hm,hN⟩,rfl,hw',aP,v,rfl,hv⟩;obtain ⟨_,S',bc⟩:= @Stp.inv (fgG (yFG hJ)) _ _ _ _ _ aP ⟨⟨F,F.lt⟩,_,hy⟩;obtain ⟨m',au,C3,S3,H3,o3,e3,hI3,ak,hS3,am⟩:=bc.st;have ba:m'=m:=by rw [hm] at au;simpa using au.symm
 subst ba;have ac:∀ (pe:Option Code), @Den (topG g (C.w.heap.size :: Ds)) {E with base:=markD C.w.heap.size :: E.base} (chgC C3 (C.w.heap.size+1) (.loop (rfRec fn a.tmps ps d u C.w.heap.size .exhausted pe))) t H3 {a with defers:=[markD C.w.heap.size]++a.defers}:=λpe=>by have z:=ak.chg (o':=.loop (rfRec fn a.tmps ps d u C.w.heap.size .exhausted pe)) trivial;exact ⟨z.wd,z.ext,⟨by rw [aN];rfl,z.tab,⟨S3,g.base _ z.core⟩,BZ.2 ⟨λh=>absurd (ab _ h) (B0 _),bb⟩,z.marks⟩,z.tmps⟩
 rcases am with ⟨an,aT,rfl⟩ | ⟨i,ex,c,rfl,hi,hX,aF,rfl⟩
 . have an:m'=N:=Nat.le_antisymm an hN;subst an;refine ⟨none,_,by rw [<-e3];exact run_endLoop ak.lat (by simp),?_⟩;exact (q3x (G:=G0) (λe a w hh=>z0j (λh=>hF (z3q h)) e a w hh) k aE).1 _ _ (ai C.w.heap.size H3 aT {E with base:=markD C.w.heap.size :: E.base} none n _ _ ⟨ay,rfl⟩ (ac none))
 have hs:=ao C.w.heap.size i ex H3 hi hX;refine ⟨some c,_,by rw [<-e3];exact run_endLoop ak.lat (by simp),?_⟩;cases ex with
 |normal=>exact hs.elim
 |pan s=>exact hs.elim
 |ret=>cases aF;exact wpIn_ret (z0j (λh=>hF (z3q h)) .ret _ _ ⟨_,t,H3,hs,rfl, @Den.fin (topG g (C.w.heap.size :: Ds)) _ _ _ _ _ (ac (some .ret))⟩)
 |exit id=>cases aF;obtain ⟨k',aK,hs⟩:=hs;have h9:=hs {E with base:=markD C.w.heap.size :: E.base} none n _ _ ⟨ay,rfl⟩ (ac (some (.exit id)));have h8:= @q3T (topG g (C.w.heap.size :: Ds)) P (Fw none) n _ _ id _ _ k' k aK h9;exact wpIn_exit ((q3x (G:=G0) (λe a w hh=>z0j (λh=>hF (z3q h)) e a w hh) k aE).2 id _ _ h8)

variable {P:Program} {AQ:Ex->List SV->List SObj->Prop} {k0:Nat} {k:List IT} {t:List SV} {H:List SObj}
variable {g:FG} {Ds:List Nat}

theorem z8C:(#[]:Array Value).size=0:=rfl
attribute [go_sem] z8C
def RfStopI(g:FG)(P:Program)(AQ:Ex->List SV->List SObj->Prop)(k0:Nat)(k:List IT)(t:List SV)(Ds:List Nat):Ex->List SObj->Prop
 |.exit id,H=>∃k',exitI id k=some k'/\ @SoundI (topG g Ds) P AQ ⟨k0,k',t,H⟩
 |.ret,H=>AQ .ret t H
 |_,_=>False
theorem j5r{x p:IC}{fi ca y:List SV}{W H1:List SObj}(Hs:Nat->List SObj->Prop)(X:Nat->Ex->List SObj->Prop)
 (hG:∀ {E C},G0.inv0 E C H->(topG g Ds).inv0 E C H/\(W= []\/∀b,¬OwnB E.C E.H b))(hF:∀ {E C H ds},(topG g Ds).fin E C H ds->G0.fin E C H ds)(aa:∀r,G0.rd r->r=none)
 (I:evT t gop= .fn f fi ca)(ab:SV.cleanL fi=true)(R:Hand 1 H H1 ca y W)(Z:∀n,H[0]?=some (.mark n)->H1[0]?=some (.mark n))(V:IterO inf P f fi y W N vw)(v:inf->∀Hn,¬Hs N Hn)(z:∀i n d e,vw i n d e->d.length=ps.size)(h0:Hs 0 H1)(Y:noStopI k=true)
 (m:∀i Hi d e,i<N->Hs i Hi->vw i Hi.length d e->∀O L, @SoundI (pinG g O) P (λ_ _ _=>False)
  ⟨(Hi++e).length,[.ic x,.stop λt' H'=> @SoundI (pinG g L) P (RQ Hs X i) ⟨H'.length,[.ic p],t',H'⟩],putL ps.toList d t,Hi++e⟩)
 (q:∀D Hn,Hs N Hn-> @SoundI (topG g (D :: Ds)) P AQ ⟨k0,k,t,Hn⟩)(u:∀D i ex Hn,i<N->X i ex Hn->RfStopI g P AQ k0 k t (D :: Ds) ex Hn):
 @SoundI G0 P AQ ⟨k0,.ic (.rf gop ps x p) :: k,t,H⟩:= @q0e G0 P AQ k0 t H _ (λtd' F=>by
 obtain ⟨c',r,rfl,hc,F⟩:=F;obtain ⟨a,b,rfl,ha,hb⟩:=q0N hc;refine j1B (Hs:=Hs) (X:=X) hG hF aa I ab R Z V v ⟨z,λi Hi d e hi hH hv O L=>⟨_,λt' H' hΦ=> ?_, @q0f (pinG g O) _ _ _ _ _ _ _ (m i Hi d e hi hH hv O L) ⟨a,_,rfl,ha,[],rfl,rfl⟩⟩⟩ h0 (q3Q F Y) (λD Hn h=> @q0f (topG g (D :: Ds)) _ _ _ _ _ _ _ (q D Hn h) F) λD i ex Hn hi hX=> ?_
 . exact @q0f (pinG g L) _ _ _ _ _ _ _ hΦ ⟨b,[],rfl,hb,rfl⟩
 have h:=u D i ex Hn hi hX;cases ex with
 |normal=>exact h.elim
 |pan s=>exact h.elim
 |ret=>exact h
 |exit id=>
  obtain ⟨k',U,hs⟩:=h;obtain ⟨r',Q,A⟩:=q3r F U
  exact ⟨r',Q, @q0f (topG g (D :: Ds)) _ _ _ _ _ _ _ hs A⟩) rfl
def j4F{asg body:IC}{fi ca:List SV}(Hs:Nat->List SObj->Prop)(X:Nat->Ex->List SObj->Prop)
 (hgop:evT t gop= .fn f fi ca)(hfi:SV.cleanL fi=true)(hca:SV.cleanL ca=true)(hit:IterI inf P f fi ca N vw)(hinf:inf->∀Hn,¬Hs N Hn)(hlen:∀i n args' new,vw i n args' new->args'.length=ps.size)(h0:Hs 0 H)(hns:noStopI k=true)
 (hround:∀i Hi args' new,i<N->Hs i Hi->vw i Hi.length args' new->∀L1 L2, @SoundI (pinG g L1) P (λ_ _ _=>False)
  ⟨(Hi++new).length,[.ic asg,.stop λt' H'=> @SoundI (pinG g L2) P (RQ Hs X i) ⟨H'.length,[.ic body],t',H'⟩],putL ps.toList args' t,Hi++new⟩)
 (hdone:∀D Hn,Hs N Hn-> @SoundI (topG g (D :: Ds)) P AQ ⟨k0,k,t,Hn⟩)(hstop:∀D i ex Hn,i<N->X i ex Hn->RfStopI g P AQ k0 k t (D :: Ds) ex Hn):
 @SoundI (topG g Ds) P AQ ⟨k0,.ic (.rf gop ps asg body) :: k,t,H⟩:=
 j5r (G0:=topG g Ds) Hs X (λh=>⟨h,.inl rfl⟩) (λh=>h) (λ_ h=>h) hgop hfi (q0R hca) (λ_ h=>h) hit hinf hlen h0 hns hround hdone hstop
def z7z{asg body:IC}{fi ca:List SV}(Hs:Nat->List SObj->Prop)(X:Nat->Ex->List SObj->Prop)
 (hgop:evT t gop= .fn f fi ca)(hfi:SV.cleanL fi=true)(hca:SV.cleanL ca=true)(hit:Iter P f fi ca N vw)(hlen:∀i n args' new,vw i n args' new->args'.length=ps.size)(h0:Hs 0 H)(hns:noStopI k=true)
 (hround:∀i Hi args' new,i<N->Hs i Hi->vw i Hi.length args' new->∀L1 L2, @SoundI (pinG g L1) P (λ_ _ _=>False)
  ⟨(Hi++new).length,[.ic asg,.stop λt' H'=> @SoundI (pinG g L2) P (RQ Hs X i) ⟨H'.length,[.ic body],t',H'⟩],putL ps.toList args' t,Hi++new⟩)
 (hdone:∀D Hn,Hs N Hn-> @SoundI (topG g (D :: Ds)) P AQ ⟨k0,k,t,Hn⟩)(hstop:∀D i ex Hn,i<N->X i ex Hn->RfStopI g P AQ k0 k t (D :: Ds) ex Hn):
 @SoundI (topG g Ds) P AQ ⟨k0,.ic (.rf gop ps asg body) :: k,t,H⟩:=
 j4F (inf:=False) Hs X hgop hfi hca hit.toI (λh=>h.elim) hlen h0 hns hround hdone hstop
variable {J:Nat->(Nat->Prop)->World->(Nat->Prop)->Prop}{c:IC}
theorem j4g{B:Nat}{T:List SObj}(d:FJ B J)(hno:∀S w I,¬J N S w I): @SoundI (topG (yFG d) Ds) P AQ ⟨k0,.ic c :: k,t,.mark N :: T⟩:= @q0e (topG (yFG d) Ds) P AQ k0 t _ _ (λtd' _ E r n C a h0 e=>by
 obtain ⟨_,_,⟨S0,h⟩,_⟩:=e.defs;obtain ⟨m,h1,h2⟩:=h.st
 simp_all) rfl

def q2f{l B:Nat}{i:Nat}{T:List SObj}(T':List SObj){args:List SV}{d:Option Tmp}
 (hJ:FJ B J)(yg:YG P l B N J vw)(hi:i<N)(hh:∀n,∃args' new,vw i n args' new/\Hand n (.mark i :: T) (.mark i :: T') args args' new)
 (hk:∀b:Bool, @SoundI (topG (yFG hJ) Ds) P AQ ⟨k0,k,putT t d (.raw (.bool b)),.mark (if b then i+1 else N+1+i) :: T'⟩): @YldI (topG (yFG hJ) Ds) P AQ l args d ⟨k0,k,t,.mark i :: T⟩:=z5v hJ yg hi hh hk
def RoundM(T:List SObj)(f:Nat->Nat)(S:Nat->List SV)(n:Nat)(p:Nat->Prop)(i:Nat):List SV->List SObj->Prop:=
 λt' H'=>i<n/\p (i+1)/\(∃G,H'= .mark (f (i+1)) :: T++G)/\leM t' (S (i+1))
theorem z4h[Ghost]{k:List It}(c:Code)(T:List SObj)(f:Nat->Nat)(S:Nat->List SV)(n:Nat)(p:Nat->Prop)(U:p 0)(Q:leM t (S 0))(L:k0<=T.length+1)(I:SV.belL (T.length+1) t=true->∀i,SV.belL (T.length+1) (S i)=true)
 (round:∀i,i<=n->p i->Sound P AQ ⟨k0,.code c :: .stop (RoundM T f S n p i) :: k,S i,.mark (f i) :: T⟩):Sound P AQ ⟨k0,.code (.loop c) :: k,t,.mark (f 0) :: T⟩:=λE r m C a y d=>by
 have v:∀i,SV.belL (T.length+1) (S i)=true:=I (by have:=q1T d.tmps;rwa [d.wd.n] at this);have u:belH (T.length+1) T=true:=q5h λh o O=>by have:=q6t (d.wd.obj (h+1) o (by grind));rwa [d.wd.n] at this
 simp only [wpT];refine q0V (λm a w=>∃i,i<=n/\p i/\n-i=m/\∃C,C.w=w/\Den E C (S i) (.mark (f i) :: T) a) n ⟨0,Aj _,U,rfl,C,rfl,d.wd,d.ext,d.defs,q3k (q3G Q) d.tmps⟩ ?_;rintro m' a w ⟨i,R,F,rfl,C,rfl,d⟩;have A:=round i R F E r m C a y d;simp only [wpT] at A;refine wpIn_mono A λe a w z=> ?_;cases e with
 |normal=>obtain ⟨C',t',H',⟨q,s,⟨G,rfl⟩,V⟩,rfl,x⟩:=z;refine ⟨n- (i+1),by omega,i+1,q,s,rfl,C'.ren (λh=>h) (T.length+1),rfl,?_⟩;exact q8v (H':=.mark (f (i+1)) :: T) y.1 x (q7T V) (v _) (λh o O _=>by grind [q2e]) (by simp only [belH,Ai];exact ⟨rfl,u⟩) (λ_ _ _ _ _ _ _ _ e=>e) (λ_ _=>rfl) L (λ_ F hn=>by simp_all)
 |exit id=>grind [Exit.then,exitT]
 |_=>exact z
theorem z0Y[Ghost](T:List SObj)(f:Nat->Nat)(upd:Nat->List (Nat×SV))(n:Nat)(p:Nat->Prop)(h:p 0)(m:H= .mark (f 0) :: T)(e:k0<=T.length+1)(q:∀i,((upd i).all λx=>x.2.bel (T.length+1))=true)(u:leM t (setMany (maskT c.wr t) (upd 0)))
 (round:∀i,i<=n->p i->SoundI P AQ ⟨k0,.ic c :: .stop (RoundM T f (λi=>setMany (maskT c.wr t) (upd i)) n p i) :: k,setMany (maskT c.wr t) (upd i),.mark (f i) :: T⟩):
 SoundI P AQ ⟨k0,.ic (.loop c) :: k,t,H⟩:=q0e (λtd' a=>by
 subst m;obtain ⟨c',r,rfl,v,a⟩:=a;obtain ⟨x,rfl,z⟩:=q0N v
 exact z4h x T f _ n _ h u e (λs i=>q3s _ (q i) (q3t _ s)) (λi y d=>q0f (round i y d) ⟨x,_,rfl,z,r,rfl,a⟩)) rfl

section

variable [Ghost] {P:Program} {AQ:Ex->List SV->List SObj->Prop} {k0:Nat} {k:List IT} {k':List It} {t:List SV} {H:List SObj}
variable {all:Array Oper} {G:List Nat} {o:Oper} {ev:Operand->SV} {K:Out->List SObj->Prop}

end
section

variable [Ghost] {P:Program} {AQ:Ex->List SV->List SObj->Prop} {k0:Nat} {k:List IT} {k':List It} {t:List SV} {H:List SObj}
variable {all:Array Oper} {G:List Nat} {o:Oper}

end
section

variable [Ghost] {P:Program} {AQ:Ex->List SV->List SObj->Prop} {k0:Nat} {k:List IT} {t:List SV} {H:List SObj}

def z5A{ι:Type}(ws:List Nat)(upd:ι->List (Nat×SV))(Hf:ι->List SObj)(μ:ι->Nat)(p:ι->Prop)(i₀:ι)(h₀:p i₀)(hs:∃σ,Le σ k0 t H (setMany (maskT ws (maskT c.wr t)) (upd i₀)) (Hf i₀))
 (round:∀i,p i->SoundI P AQ ⟨k0,.ic c :: .stop (RoundK k0 (λi=>(setMany (maskT ws (maskT c.wr t)) (upd i),Hf i)) μ p i) :: k,setMany (maskT ws (maskT c.wr t)) (upd i),Hf i⟩):SoundI P AQ ⟨k0,.ic (.loop c) :: k,t,H⟩:=
 j8h (λi=>(setMany (maskT ws (maskT c.wr t)) (upd i),Hf i)) μ p i₀ h₀ hs round
end
end Go.Sx
/- AES: the reference's round keys. -/
namespace Go.Proofs.YthbcodbcndiapaaGreatDoor
open Go Go.Sx Go.Proofs
set_option maxRecDepth 100000
set_option maxHeartbeats 40000000

def subS(b:UInt8):UInt8:=(dat_ref06_substitutes:List UInt8).getD b.toNat 0
def lastS(w:List UInt8)(p:UInt8)(i:Nat):List UInt8:=
 if i%4=0 then [subS (w.getD (4*i-3) 0) ^^^ p,subS (w.getD (4*i-2) 0),subS (w.getD (4*i-1) 0),subS (w.getD (4*i-4) 0)]
 else [w.getD (4*i-4) 0,w.getD (4*i-3) 0,w.getD (4*i-2) 0,w.getD (4*i-1) 0]
def addL(w l:List UInt8)(i k:Nat):List UInt8:=w++(List.range k).map λk=>w.getD (4*i-16+k) 0^^^ l.getD k 0
def wkS(key:List UInt8):Nat->List UInt8×UInt8
 |0=>(key,1)
 |n+1=>(addL (wkS key n).1 (lastS (wkS key n).1 (wkS key n).2 (n+4)) (n+4) 4,if (n+4)%4=0 then dblS (wkS key n).2 else (wkS key n).2)
def wordsS(key:List UInt8):List UInt8:=(wkS key 40).1
theorem z4n(key:List UInt8)(hk:key.length=16)(n:Nat):(wkS key n).1.length=16+4*n:=by induction n<;>grind [wkS,addL]
theorem q4G(key:List UInt8)(hk:key.length=16):(wordsS key).length=176:=z4n key hk 40
section
variable {AQ:Ex->List SV->List SObj->Prop}
end
end Go.Proofs.YthbcodbcndiapaaGreatDoor

/- AES: the reference's encryption of a block. -/
namespace Go.Proofs.YthbcodbcndiapaaGreatDoor
open Go Go.Sx Go.Proofs
set_option maxRecDepth 100000
set_option maxHeartbeats 40000000

def shfS(b:List UInt8):List UInt8:=fS λi=>subS (b.getD (4* ((i / 4+i%4)%4)+i%4) 0)
def rndE(w:List UInt8)(r:Nat)(b:List UInt8):List UInt8:=addS (if r<10 then mixS (shfS b) [2,3,1,1] else shfS b) w r
def encA(w b:List UInt8):Nat->List UInt8
 |0=>addS b w 0
 |n+1=>rndE w (n+1) (encA w b n)
def encS(w b:List UInt8):List UInt8:=encA w b 10
def z5c(b w:List UInt8)(r:Nat):(addS b w r).length=16:=q2z _
def j2l(b f:List UInt8):(mixS b f).length=16:=q2z _
def j2y(b:List UInt8):(shfS b).length=16:=q2z _
def q7D(w b:List UInt8)(n:Nat):(encA w b n).length=16:=by cases n<;>exact z5c _ _ _
theorem q5O(w b:List UInt8):(encS w b).length=16:=q7D _ _ _
section
variable {AQ:Ex->List SV->List SObj->Prop}
end
end Go.Proofs.YthbcodbcndiapaaGreatDoor

/- AES: the reference's decryption of a block. -/
namespace Go.Proofs.YthbcodbcndiapaaGreatDoor
open Go Go.Sx Go.Proofs
set_option maxRecDepth 100000
set_option maxHeartbeats 40000000

def invP:Nat->List UInt8
 |0=>List.replicate 256 0
 |n+1=>(invP n).set (subS (UInt8.ofNat n)).toNat (UInt8.ofNat n)
def invS(c:UInt8):UInt8:=(invP 256).getD c.toNat 0
theorem z4Z(n:Nat):(invP n).length=256:=by induction n<;>simp_all [invP]
def srcU(j:Nat):Nat:=4* ((j / 4+4-j%4)%4)+j%4
def unsS(b:List UInt8):List UInt8:=fS λj=>invS (b.getD (srcU j) 0)
def mixD(r:Nat)(b:List UInt8):List UInt8:=if r<10 then mixS b [14,11,13,9] else b
def rndD(w:List UInt8)(r:Nat)(b:List UInt8):List UInt8:=unsS (mixD r (addS b w r))
def decA(w b:List UInt8):Nat->List UInt8
 |0=>b
 |n+1=>rndD w (10-n) (decA w b n)
def decS(w b:List UInt8):List UInt8:=addS (decA w b 10) w 0
theorem j4r(w b:List UInt8)(a:b.length=16)(n:Nat):(decA w b n).length=16:=by
 cases n with
 |zero=>exact a
 |succ n=>rfl
theorem q5Q(w b:List UInt8):(decS w b).length=16:=z5c _ _ _
section
variable {AQ:Ex->List SV->List SObj->Prop}
end
def shI(j:Nat):Nat:=(4* (j / 4+j%4)+j%4)%16
theorem j3S(c:Option CipT.den)(b k:List UInt8)(h:b.length=16):PE Tryz.prog 285 [.rptr 0 PasT 0 0] [.row PasT [(c,(b,k))]] (.ret (.tup [])) [.row PasT [(c,(fS λj=>b.getD (shI j) 0,k))]]:=by
 refine q0b (Ad _) ?_;refine rQ fi285 ?_;simp (maxSteps:=3000000) only [BM,h,Ag,Ac,go_sem,↓zA,↓reduceIte,↓reduceDIte] <;>try simp only [zB]
 refine q0m (ι:=Nat) (λi=>[(8,rI i)]) (λi=>[.row PasT [(c,(gP b (λj=>b.getD (shI j) 0) i,k))],.row .u8 b]) (λi=>16-i) (λi=>i<=16) 0 (Aj _) (by rw [q6B _ h]) ?_ λi hi=> ?_
 . with_reducible refine sxE ?_;trivial
 have e:=wsx i (by omega);have m:=q8R b (λj=>b.getD (shI j) 0) i;by_cases a:i<16
 . have d:((i:Int) <16)=True:=eq_true (by omega);refine gy1 d ?_;have n:shI i<16:=CS _ (by decide);refine q0d (q9U i a) ?_;rw [show (4* (i / 4+i%4)+i%4)%16=shI i from rfl];refine uQ 600 _ ?_;simp (maxSteps:=3000000) only [h,m,AO,Ag,AS,go_sem,↓zA,↓reduceIte,↓reduceDIte] <;>try simp only [zB]
   refine ⟨⟨by omega,n⟩,n,⟨by omega,a⟩,a,i+1,a,by grind,?_,?_⟩
   . grind [z0a]
   with_reducible refine sx1 e ?_;trivial
 obtain rfl:i=16:=by omega
 rw [q9O];refine uQ 600 _ ?_;have d:(((16:Nat):Int) <16)=False:=eq_false (by omega);simp (maxSteps:=3000000) only [d,go_sem,↓zA,↓reduceIte,↓reduceDIte] <;>try simp only [zB]
def hP(b:List UInt8)(n:Nat):List UInt8:=(List.range 16).map λj=>if srcU j<n then b.getD (srcU j) 0 else b.getD j 0
theorem z8y(b:List UInt8)(n:Nat):(hP b n).length=16:=by simp [hP]
theorem j5W{b:List UInt8}(hb:b.length=16):hP b 0=b:=by grind [List.ext_getElem,z8y,hP]
def z7R:∀j:Fin 16,srcU (shI j.val)=j.val/\shI (srcU j.val)=j.val:=by decide
theorem j9m(b:List UInt8):hP b 16=fS λj=>b.getD (srcU j) 0:=by rfl
variable {i:Nat}
theorem j9L(b:List UInt8)(h:i<16):(hP b i).set (shI i) (b.getD i 0)=hP b (i+1):=by
 have h1:srcU (shI i)=i:=(z7R ⟨i,h⟩).1;apply Av
 . simp [hP]
 intro j hj1 hj2;have d:j<16:=by grind [z8y]
 rw [Bf];simp only [hP,AJ,AG];split
 . simp_all
 rename_i a;have hne2:srcU j≠i:=λe=>a (by rw [<-e];exact (z7R ⟨j,d⟩).2);grind
theorem q9W(c:Option CipT.den)(b k:List UInt8)(d:b.length=16):PE Tryz.prog 270 [.rptr 0 PasT 0 0] [.row PasT [(c,(b,k))]] (.ret (.tup [])) [.row PasT [(c,(fS λj=>b.getD (srcU j) 0,k))]]:=by
 refine q0b (Ad _) ?_;refine rQ fi270 ?_;simp (maxSteps:=3000000) only [BM,d,Ag,Ac,go_sem,↓zA,↓reduceIte,↓reduceDIte] <;>try simp only [zB]
 refine q0m (ι:=Nat) (λi=>[(8,rI i)]) (λi=>[.row PasT [(c,(hP b i,k))],.row .u8 b]) (λi=>16-i) (λi=>i<=16) 0 (Aj _) (by rw [j5W d]) ?_ λi hi=> ?_
 . with_reducible refine sxE ?_;trivial
 have h:=wsx i (by omega);have m:=z8y b i;by_cases a:i<16
 . have e:((i:Int) <16)=True:=eq_true (by omega);have n:shI i<16:=CS _ (by decide);refine gy3 e d Ag ?_;refine ⟨⟨by omega,a⟩,a,q0d (q9U i a) ?_⟩;rw [show (4* (i / 4+i%4)+i%4)%16=shI i from rfl];refine uQ 600 _ ?_;simp (maxSteps:=3000000) only [d,m,AO,Ag,AS,go_sem,↓zA,↓reduceIte,↓reduceDIte] <;>try simp only [zB]
   refine ⟨⟨by omega,n⟩,n,i+1,a,by grind,?_,?_⟩
   . grind [j9L]
   with_reducible refine sx1 h ?_;trivial
 obtain rfl:i=16:=by omega
 rw [j9m];refine uQ 600 _ ?_;have e:(((16:Nat):Int) <16)=False:=eq_false (by omega);simp (maxSteps:=3000000) only [e,go_sem,↓zA,↓reduceIte,↓reduceDIte] <;>try simp only [zB]
def mixB(b f:List UInt8)(c r:Nat):Nat->UInt8
 |0=>0
 |n+1=>mixB b f c r n^^^ mulS (f.getD n 0) (b.getD (4*c+ (r+n)%4) 0)
def j9E(b f:List UInt8)(c:Nat){r:Nat}(hr:r<4):mixB b f c r 4=mixA b f c r 4:=by rcases (show r=0\/r=1\/r=2\/r=3 by omega) with rfl|rfl|rfl|rfl<;>simp only [mixA,mixB,Nat.reduceAdd,Nat.reduceSub,Nat.reduceMod,AF,Ag] <;>ac_rfl
def j6l(f b:List UInt8)(c r:Nat)(h:f.length=4)(s:b.length=16)(hc:c<4)(q:r<4):PE Tryz.prog 296 [rI c,rI r,.rptr 0 .u8 0 0,.rptr 1 .u8 0 0] [.row .u8 f,.row .u8 b] (.ret (.raw (.int .u8 (mixA b f c r 4).toNat))) [.row .u8 f,.row .u8 b]:=by
 refine q0b (Ad _) ?_;refine rQ fi296 ?_;simp (maxSteps:=3000000) only [BM,h,Ag,Ac,go_sem,↓zA,↓reduceIte,↓reduceDIte] <;>try simp only [zB]
 rw [Aa (by omega)];refine q0m (ι:=Nat) (λi=>[(10,rI i),(6,.raw (.int .u8 (mixB b f c r i).toNat))]) (λ_=>[.row .u8 f,.row .u8 b]) (λi=>4-i) (λi=>i<=4) 0 (Aj _) rfl ?_ λi hi=> ?_
 . with_reducible refine sxE ?_
   rfl
 have e:=wsx i (by omega);by_cases a:i<4
 . have d:((i:Int) <4)=True:=eq_true (by omega);have m:IntKind.i64.wrap (4* (c:Int))=((4*c:Nat):Int):=by rw [wrapi (by omega)];omega
   have u:IntKind.i64.wrap ((r:Int)+ (i:Int))=((r+i:Nat):Int):=by rw [wrapi (by omega)];omega
   have n:(((r+i:Nat):Int)).tmod 4=(((r+i)%4:Nat):Int):=by rw [Bv (by omega)];omega
   have p:IntKind.i64.wrap (((4*c:Nat):Int)+ (((r+i)%4:Nat):Int))=((4*c+ (r+i)%4:Nat):Int):=by rw [wrapi (by omega)];omega
   refine gy8 d m u n p s h Ag ?_;refine ⟨⟨by omega,a⟩,by decide,⟨by omega,by omega⟩,by omega,q0a (j3c _ _) ?_⟩;refine gQ ?_;refine ⟨i+1,a,by show 4- (i+1) <4-i;omega,rfl,?_⟩;simp (maxSteps:=3000000) only [e,xor8,go_sem,↓zA,↓reduceIte,↓reduceDIte] <;>try simp only [zB]
   rfl
 obtain rfl:i=4:=by omega
 rw [j9E _ _ _ q];refine uQ 600 _ ?_;have d:(((4:Nat):Int) <4)=False:=eq_false (by omega);simp (maxSteps:=3000000) only [d,go_sem,↓zA,↓reduceIte,↓reduceDIte] <;>try simp only [zB]
theorem q8l(c:Option CipT.den)(b k f:List UInt8)(h:b.length=16)(n:f.length=4):PE Tryz.prog 287 [.rptr 0 PasT 0 0,.dat (.arr 4 .u8) f] [.row PasT [(c,(b,k))]] (.ret (.tup [])) [.row PasT [(c,(mixS b f,k))]]:=by
 refine q0b (Ad _) ?_;refine rQ fi287 ?_;simp (maxSteps:=3000000) only [BM,h,n,Ag,Ac,go_sem,↓zA,↓reduceIte,↓reduceDIte] <;>try simp only [zB]
 obtain ⟨g,p⟩:∃g:Nat->UInt8,g=λi=>mixA b f (i / 4) (i%4) 4:=⟨_,rfl⟩;refine q0m (ι:=Nat) (λi=>[(12,rI i)]) (λi=>[.row PasT [(c,(gP b g i,k))],.row .u8 f,.row .u8 b]) (λi=>16-i) (λi=>i<=16) 0 (Aj _) (by rw [q6B _ h]) ?_ λi hi=> ?_
 . with_reducible refine sxE ?_;trivial
 have e:=wsx i (by omega);have m:=q8R b g i;by_cases a:i<16
 . have d:((i:Int) <16)=True:=eq_true (by omega);have q:IntKind.i64.wrap ((i:Int).tdiv 4)=((i / 4:Nat):Int):=by rw [CF (by omega),wrapi (by omega)];omega
   have r:(i:Int).tmod 4=((i%4:Nat):Int):=by rw [Bv (by omega)];omega
   refine gy3 d q r ?_;refine ⟨by decide,by decide,q0t [1,2] (j6l f b (i / 4) (i%4) n h (by omega) (by omega)) rfl (by decide) (by repeat first|exact trivial|exact rfl|refine And.intro ?_ ?_) rfl rfl ?_ ?_⟩
   . simp only [mgA,sig,SObj.ren,SV.renL,List.set,List.map,Ac];with_reducible refine sxE ?_;trivial
   simp only [afterR,Out.ren,SV.ren,mgA,sig,SObj.ren,SV.renL,List.set,List.map,Ac];refine uQ 600 _ ?_;simp (maxSteps:=3000000) only [m,AO,AA,AS,go_sem,↓zA,↓reduceIte,↓reduceDIte] <;>try simp only [zB]
   refine ⟨⟨by omega,a⟩,a,i+1,a,by show 16- (i+1) <16-i;omega,?_,?_⟩
   . dsimp only;rw [<-z0a b g a,p]
   with_reducible refine sx1 e ?_;trivial
 obtain rfl:i=16:=by omega
 rw [q9O,p];refine uQ 600 _ ?_;have d:(((16:Nat):Int) <16)=False:=eq_false (by omega);simp (maxSteps:=3000000) only [d,go_sem,↓zA,↓reduceIte,↓reduceDIte] <;>try simp only [zB]
 rfl
variable {P:Program}
theorem z9I{f:FuncId}{a:SV}{t:Ty}{x:t.den}{H0 H1:List SObj}{o:Out}(h:PE P f [a,.dat t x] H0 o H1)(p:t.ok x)(d:t.known=true:=by rfl):PE P f [a,.agg (t.cells x)] H0 o H1:=
 ⟨h.1,λC vs n z q=>h.2 C vs n z (by
  obtain ⟨v,vs',rfl,y,r⟩:=q0c.1 q;obtain ⟨u,vs2,rfl,e,s⟩:=q0c.1 r;refine q0c.2 ⟨v,_,rfl,y,q0c.2 ⟨u,_,rfl,?_,s⟩⟩;simp only [SV.den] at e⊢;obtain ⟨us,rfl,m⟩:=e
  exact ⟨us,rfl,t.cells_rel _ _ d p m⟩)⟩
def j9S(c:Option CipT.den)(b k:List UInt8)(a:b.length=16):PE Tryz.prog 286 [.rptr 0 PasT 0 0] [.row PasT [(c,(b,k))]] (.ret (.tup [])) [.row PasT [(c,(mixS b [2,3,1,1],k))]]:=by refine q0b (Ad _) ?_;refine rQ fi286 ?_;refine q0j [0] (z9I (t:=.arr 4 .u8) (x:=[2,3,1,1]) (q8l c b k [2,3,1,1] a rfl) ⟨rfl,λ_ _=>trivial⟩) rfl (by decide) (by repeat first|exact trivial|exact rfl|refine And.intro ?_ ?_) rfl rfl ?_;simp only [afterO,Out.ren,SV.ren,mgA,sig,SObj.ren,SV.renL,List.set,List.map,Ac];refine gQ ?_;trivial
def j1V(c:Option CipT.den)(b k:List UInt8)(a:b.length=16):PE Tryz.prog 269 [.rptr 0 PasT 0 0] [.row PasT [(c,(b,k))]] (.ret (.tup [])) [.row PasT [(c,(mixS b [14,11,13,9],k))]]:=by refine q0b (Ad _) ?_;refine rQ fi269 ?_;refine q0j [0] (z9I (t:=.arr 4 .u8) (x:=[14,11,13,9]) (q8l c b k [14,11,13,9] a rfl) ⟨rfl,λ_ _=>trivial⟩) rfl (by decide) (by repeat first|exact trivial|exact rfl|refine And.intro ?_ ?_) rfl rfl ?_;simp only [afterO,Out.ren,SV.ren,mgA,sig,SObj.ren,SV.renL,List.set,List.map,Ac];refine gQ ?_;trivial
abbrev OpE(f:FuncId)(x y:PasT.den):Prop:=PE Tryz.prog f [.rptr 0 PasT 0 0] [.row PasT [x]] (.ret (.tup [])) [.row PasT [y]]
def opF(f:FuncId):SV:=.fn f [.rptr 0 PasT 0 0] []
def z9x(a:FuncId)(d m:PasT.den)(n:OpE a d m):PE Tryz.prog 273 [.rptr 0 PasT 0 0,.csl 1 .u8 0 0 1] [.row PasT [d],.cells 1 [opF a]] (.ret (.tup [])) [.row PasT [m],.cells 1 [opF a]]:=by
 refine q0b (Ad _) ?_;unfold opF;refine rQ fi273 ?_;refine q0m (ι:=Nat) (λi=>[(8,rI i)]) (λi=>[.row PasT [if i=0 then d else m],.cells 1 [opF a]]) (λi=>1-i) (λi=>i<=1) 0 (Aj _) rfl ?_ λi hi=> ?_
 . with_reducible refine sxE ?_;trivial
 unfold opF;rcases (show i=0\/i=1 by omega) with rfl|rfl
 . have h:((0:Int) < ((1:Nat):Int))=True:=eq_true (by decide);have e:(((0:Nat):Int) < ((1:Nat):Int))=True:=eq_true (by decide);refine gy2 h e ?_;refine q0j [0] n rfl (by decide) ?_ rfl rfl ?_
   . repeat first|exact trivial|exact rfl|refine And.intro ?_ ?_
   simp only [afterO,Out.ren,SV.ren,mgA,sig,SObj.ren,SV.renL,List.set,List.map,Ac];refine gQ ?_;refine ⟨1,by decide,by decide,rfl,?_⟩;with_reducible refine sxE ?_
   rfl
 have h:((1:Int) < ((1:Nat):Int))=False:=eq_false (by decide);have e:(((1:Nat):Int) < ((1:Nat):Int))=False:=eq_false (by decide);refine gy2 h e ?_;trivial
def z8P(h e m:FuncId)(n q p r:PasT.den)(u:OpE h n q)(s:OpE e q p)(v:OpE m p r):PE Tryz.prog 273 [.rptr 0 PasT 0 0,.csl 1 .u8 0 0 3] [.row PasT [n],.cells 1 [opF h,opF e,opF m]] (.ret (.tup [])) [.row PasT [r],.cells 1 [opF h,opF e,opF m]]:=by
 refine q0b (Ad _) ?_;unfold opF;refine rQ fi273 ?_;refine q0m (ι:=Nat) (λi=>[(8,rI i)]) (λi=>[.row PasT [if i=0 then n else (if i=1 then q else (if i=2 then p else r))],.cells 1 [opF h,opF e,opF m]]) (λi=>3-i) (λi=>i<=3) 0 (Aj _) rfl ?_ λi hi=> ?_
 . with_reducible refine sxE ?_;trivial
 unfold opF;rcases (show i=0\/i=1\/i=2\/i=3 by omega) with rfl|rfl|rfl|rfl
 . have d:((0:Int) < ((3:Nat):Int))=True:=eq_true (by decide);have a:(((0:Nat):Int) < ((3:Nat):Int))=True:=eq_true (by decide);refine gy2 d a ?_;refine q0j [0] u rfl (by decide) ?_ rfl rfl ?_
   . repeat first|exact trivial|exact rfl|refine And.intro ?_ ?_
   simp only [afterO,Out.ren,SV.ren,mgA,sig,SObj.ren,SV.renL,List.set,List.map,Ac];refine gQ ?_;refine ⟨1,by decide,by decide,rfl,?_⟩;with_reducible refine sxE ?_
   rfl
 . have d:((1:Int) < ((3:Nat):Int))=True:=eq_true (by decide);have a:(((1:Nat):Int) < ((3:Nat):Int))=True:=eq_true (by decide);refine gy2 d a ?_;refine ⟨by decide,q0j [0] s rfl (by decide) ?_ rfl rfl ?_⟩
   . repeat first|exact trivial|exact rfl|refine And.intro ?_ ?_
   simp only [afterO,Out.ren,SV.ren,mgA,sig,SObj.ren,SV.renL,List.set,List.map,Ac];refine gQ ?_;refine ⟨2,by decide,by decide,rfl,?_⟩;with_reducible refine sxE ?_
   rfl
 . have d:((2:Int) < ((3:Nat):Int))=True:=eq_true (by decide);have a:(((2:Nat):Int) < ((3:Nat):Int))=True:=eq_true (by decide);refine gy2 d a ?_;refine ⟨by decide,q0j [0] v rfl (by decide) ?_ rfl rfl ?_⟩
   . repeat first|exact trivial|exact rfl|refine And.intro ?_ ?_
   simp only [afterO,Out.ren,SV.ren,mgA,sig,SObj.ren,SV.renL,List.set,List.map,Ac];refine gQ ?_;refine ⟨3,by decide,by decide,rfl,?_⟩;with_reducible refine sxE ?_
   rfl
 have d:((3:Int) < ((3:Nat):Int))=False:=eq_false (by decide);have a:(((3:Nat):Int) < ((3:Nat):Int))=False:=eq_false (by decide);refine gy2 d a ?_;trivial
def z8O(m e n h:FuncId)(p r u s q:PasT.den)(y:OpE m p r)(v:OpE e r u)(z:OpE n u s)(x:OpE h s q):PE Tryz.prog 273 [.rptr 0 PasT 0 0,.csl 1 .u8 0 0 4] [.row PasT [p],.cells 1 [opF m,opF e,opF n,opF h]] (.ret (.tup [])) [.row PasT [q],.cells 1 [opF m,opF e,opF n,opF h]]:=by
 refine q0b (Ad _) ?_;unfold opF;refine rQ fi273 ?_;refine q0m (ι:=Nat) (λi=>[(8,rI i)]) (λi=>[.row PasT [if i=0 then p else (if i=1 then r else (if i=2 then u else (if i=3 then s else q)))],.cells 1 [opF m,opF e,opF n,opF h]]) (λi=>4-i) (λi=>i<=4) 0 (Aj _) rfl ?_ λi hi=> ?_
 . with_reducible refine sxE ?_;trivial
 unfold opF;rcases (show i=0\/i=1\/i=2\/i=3\/i=4 by omega) with rfl|rfl|rfl|rfl|rfl
 . have d:((0:Int) < ((4:Nat):Int))=True:=eq_true (by decide);have a:(((0:Nat):Int) < ((4:Nat):Int))=True:=eq_true (by decide);refine gy2 d a ?_;refine q0j [0] y rfl (by decide) ?_ rfl rfl ?_
   . repeat first|exact trivial|exact rfl|refine And.intro ?_ ?_
   simp only [afterO,Out.ren,SV.ren,mgA,sig,SObj.ren,SV.renL,List.set,List.map,Ac];refine gQ ?_;refine ⟨1,by decide,by decide,rfl,?_⟩;with_reducible refine sxE ?_
   rfl
 . have d:((1:Int) < ((4:Nat):Int))=True:=eq_true (by decide);have a:(((1:Nat):Int) < ((4:Nat):Int))=True:=eq_true (by decide);refine gy2 d a ?_;refine ⟨by decide,q0j [0] v rfl (by decide) ?_ rfl rfl ?_⟩
   . repeat first|exact trivial|exact rfl|refine And.intro ?_ ?_
   simp only [afterO,Out.ren,SV.ren,mgA,sig,SObj.ren,SV.renL,List.set,List.map,Ac];refine gQ ?_;refine ⟨2,by decide,by decide,rfl,?_⟩;with_reducible refine sxE ?_
   rfl
 . have d:((2:Int) < ((4:Nat):Int))=True:=eq_true (by decide);have a:(((2:Nat):Int) < ((4:Nat):Int))=True:=eq_true (by decide);refine gy2 d a ?_;refine ⟨by decide,q0j [0] z rfl (by decide) ?_ rfl rfl ?_⟩
   . repeat first|exact trivial|exact rfl|refine And.intro ?_ ?_
   simp only [afterO,Out.ren,SV.ren,mgA,sig,SObj.ren,SV.renL,List.set,List.map,Ac];refine gQ ?_;refine ⟨3,by decide,by decide,rfl,?_⟩;with_reducible refine sxE ?_
   rfl
 . have d:((3:Int) < ((4:Nat):Int))=True:=eq_true (by decide);have a:(((3:Nat):Int) < ((4:Nat):Int))=True:=eq_true (by decide);refine gy2 d a ?_;refine ⟨by decide,q0j [0] x rfl (by decide) ?_ rfl rfl ?_⟩
   . repeat first|exact trivial|exact rfl|refine And.intro ?_ ?_
   simp only [afterO,Out.ren,SV.ren,mgA,sig,SObj.ren,SV.renL,List.set,List.map,Ac];refine gQ ?_;refine ⟨4,by decide,by decide,rfl,?_⟩;with_reducible refine sxE ?_
   rfl
 have d:((4:Int) < ((4:Nat):Int))=False:=eq_false (by decide);have a:(((4:Nat):Int) < ((4:Nat):Int))=False:=eq_false (by decide);refine gy2 d a ?_;trivial
def tP(g:Nat->UInt8)(n:Nat):List UInt8:=(List.range 256).map λj=>if j<n then g j else 0
def fwS:List UInt8:=(List.range 256).map λj=>subS (UInt8.ofNat j)
def k0C(g:Nat->UInt8)(n:Nat):(tP g n).length=256:=by simp [tP]
theorem j7T(g:Nat->UInt8):tP g 0=List.replicate 256 0:=by rfl
theorem j9O(g:Nat->UInt8):tP g 256=(List.range 256).map g:=by rfl
theorem j9H(g:Nat->UInt8)(_hi:i<256):(tP g i).set i (g i)=tP g (i+1):=by
 apply Av
 . simp [tP]
 intro j h1 h2;rw [Bf];simp only [tP,AJ,AG];grind
theorem j8u(r:List UInt8×Bool):PE Tryz.prog 282 [.rptr 0 CipT 0 0] [.row CipT [((List.replicate 256 0,List.replicate 256 0),r)]] (.ret (.tup [])) [.row CipT [((fwS,invP 256),r)]]:=by
 refine q0b (Ad _) ?_;refine rQ fi282 ?_;obtain ⟨g,v⟩:∃g:Nat->UInt8,g=λj=>subS (UInt8.ofNat j):=⟨_,rfl⟩;obtain ⟨R,p⟩:∃R:List UInt8,R=fwS:=⟨_,rfl⟩;obtain ⟨V,u⟩:∃V:List UInt8,V=invP 256:=⟨_,rfl⟩;rw [<-p,<-u];refine q0m (ι:=Nat) (λi=>[(3,rI i)]) (λi=>[.row CipT [((tP g i,invP i),r)]]) (λi=>256-i) (λi=>i<=256) 0 (Aj _) (by rw [j7T];rfl) ?_ λi hi=> ?_
 . with_reducible refine sxE ?_;trivial
 have n:=wsx i (by omega);have m:=k0C g i;have e:=z4Z i;by_cases d:i<256
 . have h:((i:Int) <256)=True:=eq_true (by omega);refine uQ 600 _ ?_;have x:(UInt8.ofNat i).toNat=i:=by simp_all
   have q:IntKind.u8.wrap (i:Int)=(i:Int):=by rw [u8wrapR];omega
   have key:∀M:List UInt8,M=dat_ref06_substitutes->M.getD i 0=g i:=λM hM=>by grind [subS]
   with_reducible refine sy6 h m e AO q q ?_
   rw [key]
   case a=>rfl
   have s:=(g i).toNat_lt;refine ⟨⟨by omega,d⟩,⟨by omega,d⟩,⟨by simp_all,d⟩,⟨by omega,d⟩,⟨by omega,s⟩,⟨by rw [x],s⟩,i+1,d,by grind,?_,?_⟩
   . grind [j9H,UInt8.ofNat_toNat,invP]
   with_reducible refine sx1 n ?_;trivial
 obtain rfl:i=256:=by omega
 refine uQ 600 _ ?_;have h:(((256:Nat):Int) <256)=False:=eq_false (by omega);simp (maxSteps:=3000000) only [h,go_sem,↓zA,↓reduceIte,↓reduceDIte] <;>try simp only [zB]
 rw [j9O,p,u,v];rfl
def wZ(w:List UInt8)(i:Nat):List UInt8:=(List.range 176).map λj=>if j<i then w.getD j 0 else 0
theorem q7U(w:List UInt8)(i:Nat):(wZ w i).length=176:=by simp [wZ]
theorem j8W(w:List UInt8):wZ w 0=List.replicate 176 0:=by rfl
variable {w:List UInt8}
theorem j9N(hw:w.length=176):wZ w 176=w:=by apply Av;all_goals simp_all [wZ]
variable {j:Nat}
theorem z7N(w:List UInt8)(hj:j<i)(hi:i<=176):(wZ w i).getD j 0=w.getD j 0:=by simp only [wZ,Ae,AR];grind
theorem j4O(w:List UInt8)(_hi:i<176):(wZ w i).set i (w.getD i 0)=wZ w (i+1):=by
 apply Av
 . simp [wZ]
 intro j h1 h2;rw [Bf];simp only [wZ,AJ,AG];grind
theorem j0u(key:List UInt8)(hk:key.length=16){n m:Nat}(h:n<=m)(hj:j<16+4*n):(wkS key m).1.getD j 0=(wkS key n).1.getD j 0:=by obtain ⟨d,rfl⟩:=Nat.le.dest h;induction d<;>grind [wkS,addL,z4n]
def facS(key:List UInt8)(i:Nat):UInt8:=(wkS key (i-4)).2
theorem q4u(key:List UInt8)(a:4<=i):facS key (i+1)=if i%4=0 then dblS (facS key i) else facS key i:=by unfold facS;obtain ⟨n,rfl⟩:=Nat.le.dest a;grind [wkS]
theorem z9s(key:List UInt8)(hi:i<=4):facS key i=1:=by simp_all [facS,wkS]
theorem z2y(key:List UInt8)(hk:key.length=16)(hj:j<16):(wordsS key).getD j 0=key.getD j 0:=
 j0u key hk (Aj 40) hj
theorem q9i(key:List UInt8)(a:key.length=16)(e:4<=i)(hi:i<44)(hj:j<4):
 (wordsS key).getD (4*i+j) 0=(wordsS key).getD (4* (i-4)+j) 0^^^ (lastS (wordsS key) (facS key i) i).getD j 0:=by
 obtain ⟨n,rfl⟩:=Nat.le.dest e;have hl:=z4n key a n;have g:∀k,k<16+4*n->(wordsS key).getD k 0=(wkS key n).1.getD k 0:=λk h=>j0u key a (show n<=40 by omega) h;have d:lastS (wordsS key) (facS key (4+n)) (4+n)=lastS (wkS key n).1 (wkS key n).2 (n+4):=by grind [lastS,facS]
 rw [d,g (4* (4+n-4)+j) (by omega)];unfold wordsS;rw [j0u key a (show n+1<=40 by omega) (show 4* (4+n)+j<16+4* (n+1) by omega),wkS];simp only [addL,Ae];grind
variable {k0:Nat}
def leK{σ:Nat->Nat}{t t':List SV}{H H':List SObj}(hf:fixK σ k0=true)(hl:k0<=H'.length)(hm:∀n,H[0]?≠some (.mark n))(h1:leT σ t t')(h2:leH σ H 0 H')(h3:SV.belL H'.length t'=true)(h4:belH H'.length H'=true)(h5:injH σ 0 H' []=true):∃σ,Le σ k0 t H t' H':=
 ⟨σ,h1,h2,h3,h4,h5,hf,hl,λn _ h=>absurd h (hm n)⟩
def rndK{ι:Type}{S:ι->List SV×List SObj}{μ:ι->Nat}{p:ι->Prop}{i:ι}{t':List SV}{H':List SObj}(σ:Nat->Nat)(j:ι)(hj:p j)(hf:fixK σ k0=true)(hl':k0<=(S j).2.length)(hm:∀n,H'[0]?≠some (.mark n))(hl:μ j<μ i)(h1:leT σ t' (S j).1)(h2:leH σ H' 0 (S j).2)(h3:SV.belL (S j).2.length (S j).1=true)(h4:belH (S j).2.length (S j).2=true)(h5:injH σ 0 (S j).2 []=true):RoundK k0 S μ p i t' H':=
 ⟨j,hj,hl,σ,h1,h2,h3,h4,h5,hf,hl',λn _ h=>absurd h (hm n)⟩
theorem z4W{C:Cx}{ty:Ty}{xs:List ty.den}:∀ {t:List SV} {vs:List Value} {a:Nat},t[a]?=some (.fsl ty xs)->SV.denL C t vs->SV.denL C (t.set a (.isl ty xs)) vs
 | [],_,_,h,_=>by cases h
 |s :: l,_,0,h,d=>by obtain ⟨v,us,rfl,e,m⟩:=q0c.1 d;obtain rfl:s= .fsl ty xs:=Option.some.inj h;rw [SV.den] at e;refine q0c.2 ⟨v,us,rfl,?_,m⟩;grind [SV.den]
 |s :: l,_,n+1,h,d=>by obtain ⟨v,us,rfl,e,m⟩:=q0c.1 d;exact q0c.2 ⟨v,us,rfl,e,z4W h m⟩
def z2m[Ghost]{AQ:Ex->List SV->List SObj->Prop}{td:List IT}{t:List SV}{H:List SObj}{ty:Ty}{xs:List ty.den}(slot:Nat)(hp:plainT td=true)(ht:t[slot]?=some (.fsl ty xs))(hs:SoundI P AQ ⟨k0,td,t.set slot (.isl ty xs),H⟩):SoundI P AQ ⟨k0,td,t,H⟩:=
 q0e (λ_ hr E r n C a h0 hd=>q0f hs hr E r n C a h0 ⟨hd.wd,hd.ext,hd.defs,z4W ht hd.tmps⟩) hp
def kpS(w z:List UInt8)(n:Nat):List UInt8:=(List.range 176).map λj=>if j<n then w.getD j 0 else z.getD j 0
theorem z1r(w z:List UInt8)(n:Nat):(kpS w z n).length=176:=by simp [kpS]
theorem j2p(w:List UInt8){z:List UInt8}(a:z.length=176):kpS w z 0=z:=by
 apply Av
 . rw [z1r,a]
 simp_all [kpS]
theorem j5u(z:List UInt8)(hw:w.length=176):kpS w z 176=w:=by apply Av;all_goals simp_all [kpS]
theorem z3x(c:CipT.den)(x:UInt8)(_hl:(c.1.1:List UInt8).length=256):PE Tryz.prog 294 [.rptr 0 CipT 0 0,.raw (.int .u8 x.toNat)] [.row CipT [c]] (.ret (.raw (.int .u8 ((c.1.1:List UInt8).getD x.toNat 0).toNat))) [.row CipT [c]]:=by
 refine q0b (Ad _) ?_;refine rQ fi294 ?_;have hx:=x.toNat_lt
 simp_all
theorem j9R{q:List UInt8}(hi:i<44)(a:q.length=4)(h:∀j,j<4->q.getD j 0=w.getD (4*i+j) 0):(wZ w (4*i)).take (0+i*4)++q++(wZ w (4*i)).drop (0+i*4+q.length)=wZ w (4* (i+1)):=by
 have hl:=q7U w (4*i);apply Av
 . grind [q7U]
 intro j h1 h2;have h2':j<176:=by grind
 have d:(wZ w (4* (i+1)))[j]=if j<4* (i+1) then w.getD j 0 else 0:=by simp [wZ]
 refine Eq.trans ?_ d.symm;by_cases c1:j<4*i
 . rw [Bq (by grind),Bq (by grind),List.getElem_take,if_pos (by omega)]
   simp_all [wZ]
 by_cases c2:j<4* (i+1)
 . rw [Bq (by grind),Bz (by grind),if_pos c2];have hjj:=h (j-4*i) (by omega);grind
 rw [Bz (by grind),B1,if_neg c2];simp only [wZ,AJ,AG,Ab,Am,AY,Ci,a];grind
theorem j7G{z q:List UInt8}(hi:i<44)(a:q.length=4)(h:∀j,j<4->q.getD j 0=w.getD (4*i+j) 0):(kpS w z (4*i)).take (4*i)++q++(kpS w z (4*i)).drop (4*i+4)=kpS w z (4* (i+1)):=by
 have hl:=z1r w z (4*i);apply Av
 . grind [z1r]
 intro j h1 h2;have h2':j<176:=by grind
 have d:(kpS w z (4* (i+1)))[j]=if j<4* (i+1) then w.getD j 0 else z.getD j 0:=by simp [kpS]
 refine Eq.trans ?_ d.symm;by_cases c1:j<4*i
 . rw [Bq (by grind),Bq (by grind),List.getElem_take,if_pos (by omega)]
   simp_all [kpS]
 by_cases c2:j<4* (i+1)
 . rw [Bq (by grind),Bz (by grind),if_pos c2];have hjj:=h (j-4*i) (by omega);grind
 rw [Bz (by grind),B1,if_neg c2];simp only [kpS,AJ,AG,Ab,Am,AY,Ci,a];grind
theorem j0i(hi:i<44)(h4:4<=i):List.take 4 (List.drop (0+ (i-1)*4) (wZ w (4*i)))= [w.getD (4*i-4) 0,w.getD (4*i-3) 0,w.getD (4*i-2) 0,w.getD (4*i-1) 0]:=by
 have a:(List.take 4 (List.drop (0+ (i-1)*4) (wZ w (4*i)))).length=4:=by grind [q7U]
 have m:∀j,j<4->(List.take 4 (List.drop (0+ (i-1)*4) (wZ w (4*i)))).getD j 0=w.getD (4*i-4+j) 0:=λj h=>by
  simp only [Ae];rw [B9 h,Bt,show 0+ (i-1)*4+j=4*i-4+j by omega];have:=z7N w (i:=4*i) (j:=4*i-4+j) (by omega) (by omega)
  simp_all
 apply Av
 . rw [a];rfl
 intro j d h2;rw [a] at d;have e:=m j d;rw [Ae,Af (by omega),BM] at e;rw [e];rcases (show j=0\/j=1\/j=2\/j=3 by omega) with rfl|rfl|rfl|rfl
 . rfl
 all_goals grind
theorem z9c(key p inv z:List UInt8)(b:Bool)(U:key.length=16)(hf:∀c:UInt8,p.getD c.toNat 0=subS c)(ah:p.length=256)(hz:z.length=176):PE Tryz.prog 283 [.rptr 0 CipT 0 0,.isl .u8 key] [.row CipT [((p,inv),(z,b))]] (.ret (.tup [])) [.row CipT [((p,inv),(wordsS key,b))]]:=by
 obtain ⟨w,hw⟩:∃w,w=wordsS key:=⟨_,rfl⟩;rw [<-hw];have A:w.length=176:=by grind [q4G]
 have hR:List.replicate 176 Ty.u8.dflt=wZ w 0:=(j8W w).symm;refine q0b (Ad _) ?_;refine q2g fi283 (q0p mixed 600 _ ?_);simp (maxSteps:=3000000) only [ir283,↓hR,go_sem,↓zA,↓reduceIte,↓reduceDIte] <;>try simp only [zB]
 have hl0:=q7U w 0;refine ⟨by omega,?_⟩;refine z5A (ι:=Nat) [] (λi=>[(12,rI i),(5,.raw (.int .u8 (facS key i).toNat))]) (λi=>[.row CipT [((p,inv),(z,b))],.row .u8 (wZ w (4*i))]) (λi=>44-i) (λi=>i<=44) 0 (Aj _) (leK (σ:=λh=>h) rfl (Cw 1 _) (λn h=>by cases h) ?_ ?_ ?_ ?_ ?_) ?_
 . with_reducible refine sxE ?_
   rfl
 . refine ⟨rfl,congrArg (λx=>some (SObj.row .u8 x)) ?_,trivial⟩;rfl
 . kernel_rfl
 . kernel_rfl
 . kernel_rfl
 intro i hi;have hl:=q7U w (4*i);have s:=wsx i (by omega);have e1:IntKind.i64.wrap (4* (i:Int))=((4*i:Nat):Int):=by grind [wrapi]
 by_cases a:i<44
 . have W:((i:Int) <44)=True:=eq_true (by omega);by_cases h4:i<4
   . have v:((i:Int) <4)=True:=eq_true (by omega);have e2:IntKind.i64.wrap (((4*i:Nat):Int)+4)=((4*i+4:Nat):Int):=by grind [wrapi]
     refine uQ 34 _ ?_;with_reducible refine sy6 W v hl U e1 e2 ?_
     refine ⟨by omega,z2m 27 rfl rfl ?_⟩;have am:(List.take 4 (List.drop (4*i) (List.take (4*i+4) key))).length=4:=by grind
     refine gy2 U hl ?_;refine ⟨by grind,⟨by omega,a⟩,by omega,?_⟩;refine rndK (λh=>h) (i+1) (by omega) rfl (Cw 1 _) (λn h=>by cases h) (by omega) ?_ ?_ ?_ ?_ ?_
     . with_reducible refine sx1 s ?_
       grind [z9s]
     . refine ⟨rfl,congrArg (λx=>some (SObj.row .u8 x)) (j9R a am λj Q=> ?_),trivial⟩;grind [z2y]
     all_goals rfl
   have v:((i:Int) <4)=False:=eq_false (by omega);have m:4<=i:=by omega
   have e3:IntKind.i64.wrap ((i:Int) -1)=((i-1:Nat):Int):=by grind [wrapi]
   have e4:(i:Int).tmod 4=((i%4:Nat):Int):=by rfl
   have e5:IntKind.i64.wrap ((i%4:Nat):Int)=((i%4:Nat):Int):=wrapi (by omega);by_cases h0:i%4=0
   . have f3:(((i%4:Nat):Int)=0)=True:=eq_true (by omega);have V:=j0i (w:=w) a m;refine uQ 40 _ ?_;simp (maxSteps:=3000000) only [W,v,f3,hl,U,e1,e3,e4,e5,V,go_sem,↓zA,↓reduceIte,↓reduceDIte] <;>try simp only [zB]
     refine ⟨⟨by omega,by omega⟩,by omega,by decide,?_⟩;obtain ⟨x0,ai⟩:∃x,x=w.getD (4*i-4) 0:=⟨_,rfl⟩;obtain ⟨x1,ag⟩:∃x,x=w.getD (4*i-3) 0:=⟨_,rfl⟩;obtain ⟨x2,ae⟩:∃x,x=w.getD (4*i-2) 0:=⟨_,rfl⟩;obtain ⟨x3,ad⟩:∃x,x=w.getD (4*i-1) 0:=⟨_,rfl⟩;rw [<-ai,<-ag,<-ae,<-ad];have u:∀x:UInt8,PE Tryz.prog 294 [.rptr 0 CipT 0 0,.raw (.int .u8 x.toNat)] [.row CipT [((p,inv),(z,b))]] (.ret (.raw (.int .u8 (subS x).toNat))) [.row CipT [((p,inv),(z,b))]]:=λx=>by
      have h:=z3x ((p,inv),(z,b)) x ah
      simp_all
     refine gQ ?_;refine q0t [0] (u x1) rfl (by decide) (by repeat first|exact trivial|exact rfl|refine And.intro ?_ ?_) rfl rfl ?_ ?_
     . simp (maxSteps:=3000000) only [mgA,sig,q0y,q0E,SObj.ren,go_sem,↓zA,↓reduceIte,↓reduceDIte] <;>try simp only [zB]
     refine rnE ?_;refine uQ 600 _ ?_;simp (maxSteps:=3000000) only [xor8,go_sem,↓zA,↓reduceIte,↓reduceDIte] <;>try simp only [zB]
     refine q0t [0] (u x2) rfl (by decide) (by repeat first|exact trivial|exact rfl|refine And.intro ?_ ?_) rfl rfl ?_ ?_
     . simp (maxSteps:=3000000) only [mgA,sig,q0y,q0E,SObj.ren,go_sem,↓zA,↓reduceIte,↓reduceDIte] <;>try simp only [zB]
     refine rnE ?_;refine gQ ?_;refine q0t [0] (u x3) rfl (by decide) (by repeat first|exact trivial|exact rfl|refine And.intro ?_ ?_) rfl rfl ?_ ?_
     . simp (maxSteps:=3000000) only [mgA,sig,q0y,q0E,SObj.ren,go_sem,↓zA,↓reduceIte,↓reduceDIte] <;>try simp only [zB]
     refine rnE ?_;refine gQ ?_;refine q0t [0] (u x0) rfl (by decide) (by repeat first|exact trivial|exact rfl|refine And.intro ?_ ?_) rfl rfl ?_ ?_
     . simp (maxSteps:=3000000) only [mgA,sig,q0y,q0E,SObj.ren,go_sem,↓zA,↓reduceIte,↓reduceDIte] <;>try simp only [zB]
     refine rnE ?_;refine uQ 600 _ ?_;simp (maxSteps:=3000000) only [AS,go_sem,↓zA,↓reduceIte,↓reduceDIte] <;>try simp only [zB]
     have Y:IntKind.i64.wrap ((i:Int) -4)=((i-4:Nat):Int):=by grind [wrapi]
     have r:=q4u key m;rw [if_pos h0] at r;have hL:lastS w (facS key i) i= [subS x1^^^ facS key i,subS x2,subS x3,subS x0]:=by simp_all [lastS]
     have e:=λj Q=>q9i key U m a (j:=j) Q;rw [<-hw] at e;have y:(lastS w (facS key i) i).length=4:=by rw [hL];rfl
     rw [<-hL];generalize lastS w (facS key i) i=L at*;refine q0a (q8S (facS key i)) ?_;rw [<-r];refine gQ ?_;refine q0m (ι:=Nat) (λj=>[(67,rI j)]) (λj=>[.row CipT [((p,inv),(z,b))],.row .u8 (wZ w (4*i+j)),.row .u8 L]) (λj=>4-j) (λj=>j<=4) 0 (Aj _) rfl ?_ λj Q=> ?_
     . with_reducible refine sxE ?_;trivial
     have R:=q7U w (4*i+j);have I:=wsx j (by omega);by_cases d:j<4
     . have O:(wZ w (4*i+j)).getD (0+ (i-4)*4+j) Ty.u8.dflt=w.getD (4* (i-4)+j) 0:=by rw [show 0+ (i-4)*4+j=4* (i-4)+j by omega];exact z7N w (by omega) (by omega)
       have F:((j:Int) <4)=True:=eq_true (by omega);refine uQ 600 _ ?_;simp (maxSteps:=3000000) only [F,Y,R,y,O,xor8,AS,AA,go_sem,↓zA,↓reduceIte,↓reduceDIte] <;>try simp only [zB]
       refine ⟨⟨by omega,by omega⟩,⟨by omega,d⟩,by omega,⟨by omega,d⟩,by omega,⟨by omega,a⟩,⟨by omega,d⟩,by omega,j+1,d,by grind,?_,?_⟩
       . show _= [_,SObj.row .u8 (wZ w (4*i+j+1)),_];rw [<-j4O w (show 4*i+j<176 by omega),e j d,show 0+i*4+j=4*i+j by omega,Ag];rfl
       with_reducible refine sx1 I ?_;trivial
     obtain rfl:j=4:=by omega
     have F:(((4:Nat):Int) <4)=False:=by decide
     refine gy1 F ?_;refine rndK (λh=>h) (i+1) (by omega) rfl (Cw 1 _) (λn h=>by cases h) (by omega) ?_ ?_ ?_ ?_ ?_
     . with_reducible refine sx1 s ?_;trivial
     . exact ⟨rfl,rfl,trivial⟩
     all_goals rfl
   have f3:(((i%4:Nat):Int)=0)=False:=eq_false (by omega);have Y:IntKind.i64.wrap ((i:Int) -4)=((i-4:Nat):Int):=by grind [wrapi]
   have r:=q4u key m;rw [if_neg h0] at r;have V:=j0i (w:=w) a m;have hL:lastS w (facS key i) i= [w.getD (4*i-4) 0,w.getD (4*i-3) 0,w.getD (4*i-2) 0,w.getD (4*i-1) 0]:=by simp_all [lastS]
   have e:=λj Q=>q9i key U m a (j:=j) Q;rw [<-hw] at e;refine uQ 600 _ ?_;simp (maxSteps:=3000000) only [W,v,f3,hl,U,e1,e3,e4,e5,V,go_sem,↓zA,↓reduceIte,↓reduceDIte] <;>try simp only [zB]
   refine ⟨⟨by omega,by omega⟩,by omega,by decide,?_⟩;have y:(lastS w (facS key i) i).length=4:=by rw [hL];rfl
   rw [<-hL];generalize lastS w (facS key i) i=L at*;refine q0m (ι:=Nat) (λj=>[(67,rI j)]) (λj=>[.row CipT [((p,inv),(z,b))],.row .u8 (wZ w (4*i+j)),.row .u8 L]) (λj=>4-j) (λj=>j<=4) 0 (Aj _) rfl ?_ λj Q=> ?_
   . with_reducible refine sxE ?_;trivial
   have R:=q7U w (4*i+j);have I:=wsx j (by omega);by_cases d:j<4
   . have O:(wZ w (4*i+j)).getD (0+ (i-4)*4+j) Ty.u8.dflt=w.getD (4* (i-4)+j) 0:=by rw [show 0+ (i-4)*4+j=4* (i-4)+j by omega];exact z7N w (by omega) (by omega)
     have F:((j:Int) <4)=True:=eq_true (by omega);refine uQ 600 _ ?_;simp (maxSteps:=3000000) only [F,Y,R,y,O,xor8,AS,AA,go_sem,↓zA,↓reduceIte,↓reduceDIte] <;>try simp only [zB]
     refine ⟨⟨by omega,by omega⟩,⟨by omega,d⟩,by omega,⟨by omega,d⟩,by omega,⟨by omega,a⟩,⟨by omega,d⟩,by omega,j+1,d,by grind,?_,?_⟩
     . show _= [_,SObj.row .u8 (wZ w (4*i+j+1)),_];rw [<-j4O w (show 4*i+j<176 by omega),e j d,show 0+i*4+j=4*i+j by omega,Ag];rfl
     with_reducible refine sx1 I ?_;trivial
   obtain rfl:j=4:=by omega
   have F:(((4:Nat):Int) <4)=False:=by decide
   refine gy1 F ?_;refine rndK (λh=>h) (i+1) (by omega) rfl (Cw 1 _) (λn h=>by cases h) (by omega) ?_ ?_ ?_ ?_ ?_
   . with_reducible refine sy2 s r ?_;trivial
   . exact ⟨rfl,rfl,trivial⟩
   all_goals rfl
 obtain rfl:i=44:=by omega
 have W:(((44:Nat):Int) <44)=False:=eq_false (by omega);have ak:wZ w (4*44)=w:=j9N A;refine gy1 W ?_;rw [ak];refine ⟨by omega,?_⟩;refine z5A (ι:=Nat) [4] (λi=>[(87,rI i)]) (λi=>[.row CipT [((p,inv),(kpS w z (4*i),b))]]) (λi=>44-i) (λi=>i<=44) 0 (Aj _) (leK (σ:=λh=>h) rfl (Ad _) (λn h=>by cases h) ?_ ?_ ?_ ?_ ?_) ?_
 . with_reducible refine sxE ?_;trivial
 . exact ⟨congrArg (λx=>some (SObj.row CipT [((p,inv),(x,b))])) (j2p w hz).symm,trivial⟩
 . kernel_rfl
 . kernel_rfl
 . kernel_rfl
 intro i hi;have af:=z1r w z (4*i);have s:=wsx i (by omega);by_cases a:i<44
 . have v:((i:Int) <44)=True:=eq_true (by omega);have e1:(i:Int).tdiv 4=((i / 4:Nat):Int):=by rfl
   have e2:IntKind.i64.wrap ((i / 4:Nat):Int)=((i / 4:Nat):Int):=wrapi (by omega);have e4:(i:Int).tmod 4=((i%4:Nat):Int):=by rfl
   have e5:IntKind.i64.wrap ((i%4:Nat):Int)=((i%4:Nat):Int):=wrapi (by omega);have Y:IntKind.i64.wrap (((i%4:Nat):Int)*4)=((i%4*4:Nat):Int):=by grind [wrapi]
   have aa:List.take 176 w=w:=Aa (by omega);obtain ⟨q,V⟩:∃q,q=List.take 4 (List.drop (i*4) w):=⟨_,rfl⟩;have ac:q.length=4:=by grind
   have aj:List.take 4 q=q:=Aa (by omega);have Z:min 4 (16-i%4*4)=4:=by omega
   have ab:=j7G (w:=w) (z:=z) (q:=q) a ac λj Q=>by grind
   have al:i / 4*16+i%4*4=4*i:=by omega
   refine uQ 600 _ ?_;simp (maxSteps:=3000000) only [v,e1,e2,e4,e5,Y,A,aa,<-V,ac,aj,Z,al,Ab,af,go_sem,↓zA,↓reduceIte,↓reduceDIte] <;>try simp only [zB]
   refine ⟨⟨by omega,a⟩,by decide,⟨by omega,by omega⟩,by decide,⟨by omega,by omega,by omega⟩,by decide,by omega,?_⟩;refine rndK (λh=>h) (i+1) (by omega) rfl (Ad _) (λn h=>by cases h) (by omega) ?_ ?_ ?_ ?_ ?_
   . with_reducible refine sx1 s ?_;trivial
   . exact ⟨congrArg (λx=>some (SObj.row CipT [((p,inv),(x,b))])) ab,trivial⟩
   all_goals rfl
 obtain rfl:i=44:=by omega
 have v:(((44:Nat):Int) <44)=False:=by decide
 refine gy1 v ?_;rw [j5u z A]
def cipS(key:List UInt8):CipT.den:=((fwS,invP 256),(wordsS key,true))
theorem z9U(c:UInt8):fwS.getD c.toNat 0=subS c:=by rfl
theorem k0y(key:List UInt8)(e:key.length=16):PC Tryz.prog 261 [.isl .u8 key] (.tup [.iptr CipT (cipS key) 0,rI 0]):=by
 have h:(((key.length:Nat):Int)=16)=True:=eq_true (by omega);have d:=j8u (List.replicate 176 0,true);have a:=z9c key fwS (invP 256) (List.replicate 176 0) true e z9U (by simp [fwS]) (by simp);have m:cipS key=((fwS,invP 256),(wordsS key,true)):=rfl;rw [m];generalize fwS=fw at*;generalize invP 256=iv at*;generalize wordsS key=w at*;refine q0g rfl rfl ?_;refine ry1 fi261 h ?_;refine q0j [0] d rfl (by decide) (by repeat first|exact trivial|exact rfl|refine And.intro ?_ ?_) rfl rfl ?_;simp only [afterO,Out.ren,SV.ren,mgA,sig,SObj.ren,SV.renL,List.set,List.map,Ac];refine gQ ?_;refine q0j [0] a rfl (by decide) (by repeat first|exact trivial|exact rfl|refine And.intro ?_ ?_) rfl rfl ?_;simp only [afterO,Out.ren,SV.ren,mgA,sig,SObj.ren,SV.renL,List.set,List.map,Ac];refine uQ 3 _ ?_;with_reducible refine sxE ?_
 refine z4g (ty:=CipT) 4 0 0 0 rfl rfl rfl (Nat.succ_pos _) (show 1<=1125899906842624 by decide) ?_ ?_ ?_
 . with_reducible refine sxE ?_;trivial
 . with_reducible refine sxE ?_;trivial
 with_reducible refine sxE ?_
 refine gQ ?_;simp [SV.leV]
theorem z2j(key b:List UInt8)(hb:b.length=16):PC Tryz.prog 267 [.iptr CipT (cipS key) 0,.isl .u8 b] (rI 0):=by have a:(((b.length:Nat):Int)=16)=True:=eq_true (by omega);unfold cipS;refine q0s rfl rfl ?_;refine ry1 fi267 a ?_;trivial
def rotS:∀n:Nat,n<32->1<=n->andK .u64 (IntKind.u64.wrap (-(n:Int))) 31=((32-n:Nat):Int):=by decide
def rotU:∀n:Nat,n<32->1<=n->IntKind.u64.wrap (32- ((32-n:Nat):Int))=(n:Int):=by decide
theorem j9i(m n:Nat)(h1:1<=n)(h2:n<=31)(e:m<4294967296):((BitVec.ofInt 32 (IntKind.u32.wrap ((m:Int)*2^ (32-n))) |||BitVec.ofInt 32 ((m:Int).fdiv (2^ n))).toNat:Int)=rotW n m:=by
 have p:IntKind.u32.wrap ((m:Int)*2^ (32-n))=((m*2^ (32-n)%4294967296:Nat):Int):=by rfl
 have u:((m:Int).fdiv (2^ n))=((m / 2^ n:Nat):Int):=by grind
 have q:m*2^ (32-n)%4294967296=2^ (32-n)* (m%2^ n):=by
  have:(4294967296:Nat)=2^ n*2^ (32-n):=by rw [<-Cs,show n+ (32-n)=32 by omega]
  grind [Nat.mul_mod_mul_right]
 have d:m<2^ n*2^ (32-n):=by rw [<-Cs,show n+ (32-n)=32 by omega];omega
 have s:m / 2^ n<2^ (32-n):=Nat.div_lt_of_lt_mul d;have r:m / 2^ n<=m:=Nat.div_le_self _ _;have h:m*2^ (32-n)%4294967296<4294967296:=CS _ (by decide);rw [p,u,Cb,AP,AP,AX,AX,AI (a:=m*2^ (32-n)%4294967296) (b:=2^ 32) h,AI (a:=m / 2^ n) (b:=2^ 32) (Nat.lt_of_le_of_lt r e),q,<-CB s];grind [rotW]
def j8Z(x:Int)(n:Nat)(a:1<=n)(d:n<=31)(r:inW x):PC Tryz.prog 302 [.raw (.int .u32 x),.raw (.int .i64 (-(n:Int)))] (.raw (.int .u32 (rotW n x))):=by
 have p:=rotS n (by omega) a;have q:=rotU n (by omega) a;refine q0s rfl rfl ?_;refine rQ fi302 ?_;unfold orK;rw [p,q,AA,AA,Cy (by omega),Cy (by omega)];obtain ⟨m,rfl⟩:∃m:Nat,x=m:=⟨x.toNat,by omega⟩
 refine ⟨by omega,?_⟩;have h:=j9i m n a d (by omega);have e:=q3M a d r;refine congrArg (Value.int .u32) ?_;refine (congrArg IntKind.u32.wrap h).trans (w32 e)
def turnS(x:Int)(ns:List Nat):Nat->Int
 |0=>0
 |i+1=>xorW (turnS x ns i) (rotW (ns.getD i 1) x)
theorem z4V{x:Int}{a:List Nat}(d:inW x)(e:∀n∈a,1<=n/\n<=31):∀i,inW (turnS x a i)
 |0=>by simp [turnS,inW]
 |i+1=>by
  have h:1<=a.getD i 1/\a.getD i 1<=31:=by grind [List.getElem_mem]
  exact q8Q (z4V d e i) (q3M h.1 h.2 d)
def q7k(x:Int)(a:List Nat)(s:inW x)(u:∀n∈a,1<=n/\n<=31)(hl:a.length<=64):PC Tryz.prog 299 [.raw (.int .u32 x),.isl (.int .i64) (a.map λ(n:Nat)=>(n:Int))] (.raw (.int .u32 (turnS x a a.length))):=by
 refine q0s rfl rfl ?_;have d:(a.map λ(n:Nat)=>(n:Int)).length=a.length:=AY ..;refine rQ fi299 ?_;refine q0m (ι:=Nat) (λi=>[(4,.raw (.int .u32 (turnS x a i))),(9,rI i)]) (λi=>[]) (λi=>a.length-i) (λi=>i<=a.length) 0 (Aj _) rfl ?_ ?_
 . with_reducible refine sxE ?_
   rfl
 intro i hi;have r:=wsx i (by omega);by_cases h:i<a.length
 . have y:(a.map λ(n:Nat)=>(n:Int)).getD i 0=((a.getD i 1:Nat):Int):=by rw [Ae,Af (by omega),Ae,Af h];simp
   have m:1<=a.getD i 1/\a.getD i 1<=31:=by rw [Ae,Af h];exact u _ (Bl _)
   have e:IntKind.i64.wrap (0- ((a.getD i 1:Nat):Int))= -((a.getD i 1:Nat):Int):=by rw [IntWalk.i64_in _ (by omega)];omega
   refine gyd4 d y e Ag ?_;refine ⟨λ_=>⟨⟨by omega,h⟩,q0a (j8Z _ _ m.1 m.2 s) ?_⟩,λv=>absurd h v⟩;have q:=z4V s u i;have p:=xor32 q (q3M m.1 m.2 s);refine gy1 p ?_;refine ⟨i+1,h,by dsimp only;omega,rfl,?_⟩;with_reducible refine sx1 r ?_
   rfl
 obtain rfl:i=a.length:=by omega
 refine gy1 d ?_;exact ⟨λh=>absurd h (by omega),λ_=>trivial⟩
theorem byteU(x:Int)(m:Nat)(hx:inW x)(hm:m<=32):UInt8.ofNat (IntKind.u8.wrap (x.fdiv (2^ min m 32))).toNat=UInt8.ofNat (x.toNat / 2^ m%256):=by
 obtain ⟨n,rfl⟩:∃n:Nat,x=n:=⟨x.toNat,by omega⟩
 have e:((n:Int).fdiv (2^ m))=((n / 2^ m:Nat):Int):=by grind
 grind [u8wrapR]
theorem byteU0(x:Int)(hx:inW x):UInt8.ofNat (IntKind.u8.wrap x).toNat=UInt8.ofNat (x.toNat / 2^ 0%256):=by rw [u8wrapR];grind
theorem wordB4(h:List Int)(i j:Nat)(hj:j<4):wordB h (4*i+j)=UInt8.ofNat ((h.getD i 0).toNat / 2^ (24-8*j)%256):=by grind [wordB]
theorem bytesP4(h:List Int)(hi:i<8):((((bytesP h (4*i)).set (4*i) (UInt8.ofNat ((h.getD i 0).toNat / 2^ 24%256))).set (4*i+1) (UInt8.ofNat ((h.getD i 0).toNat / 2^ 16%256))).set (4*i+2) (UInt8.ofNat ((h.getD i 0).toNat / 2^ 8%256))).set (4*i+3) (UInt8.ofNat ((h.getD i 0).toNat / 2^ 0%256))=bytesP h (4* (i+1)):=by
 rw [show UInt8.ofNat ((h.getD i 0).toNat / 2^ 24%256)=wordB h (4*i) from (wordB4 h i 0 (by decide)).symm,q4E h (by omega),
  show UInt8.ofNat ((h.getD i 0).toNat / 2^ 16%256)=wordB h (4*i+1) from (wordB4 h i 1 (by decide)).symm,q4E h (by omega),
  show UInt8.ofNat ((h.getD i 0).toNat / 2^ 8%256)=wordB h (4*i+2) from (wordB4 h i 2 (by decide)).symm,q4E h (by omega),
  show UInt8.ofNat ((h.getD i 0).toNat / 2^ 0%256)=wordB h (4*i+3) from (wordB4 h i 3 (by decide)).symm,q4E h (by omega)]
 rfl
theorem z9C(h:List Int)(q:inWs h):PC Tryz.prog 293 [.dat (.arr 8 (.int .u32)) h] (.dat (.arr 32 .u8) (bytesS h)):=by
 refine q0s rfl rfl ?_;refine rQ fi293 ?_;have p:=q.1;have d:List.take 8 h=h:=Aa (by omega);refine ⟨by omega,?_⟩;rw [d];refine q0m (ι:=Nat) (λi=>[(6,rI i)]) (λi=>[.row (.int .u32) h,.row .u8 (bytesP h (4*i))]) (λi=>8-i) (λi=>i<=8) 0 (Aj _) rfl ?_ ?_
 . with_reducible refine sxE ?_;trivial
 intro i hi;have m:=wsx i (by omega);have a:=z7f h (4*i);by_cases n:i<8
 . have hx:=q1a q i n;have u:IntKind.i64.wrap (4* (i:Int))=((4*i:Nat):Int):=by grind [wrapi]
   have r:IntKind.i64.wrap (((4*i:Nat):Int)+1)=((4*i+1:Nat):Int):=q1M (by omega);have v:IntKind.i64.wrap (((4*i:Nat):Int)+2)=((4*i+2:Nat):Int):=by grind [wrapi]
   have s:IntKind.i64.wrap (((4*i:Nat):Int)+3)=((4*i+3:Nat):Int):=by grind [wrapi]
   refine uQ 600 _ ?_;simp (maxSteps:=3000000) only [p,a,u,r,v,s,BG,Ag,Ty.dflt,go_sem,↓zA,↓reduceIte,↓reduceDIte] <;>try simp only [zB]
   refine ⟨λ_=>⟨⟨by omega,by omega⟩,⟨by omega,by omega⟩,⟨by omega,q3j _⟩,⟨by omega,by omega⟩,⟨by omega,q3j _⟩,⟨by omega,by omega⟩,⟨by omega,q3j _⟩,⟨by omega,by omega⟩,⟨by omega,q3j _⟩,i+1,n,by grind,?_,?_⟩,λh=>absurd h (by omega)⟩
   . grind [byteU,byteU0,bytesP4]
   with_reducible refine sx1 m ?_;trivial
 obtain rfl:i=8:=by omega
 refine gy3 p a Ag ?_;refine ⟨λh=>absurd h (by omega),λ_=> ?_⟩;have e:List.take 32 (bytesP h 32)++List.drop (List.take 32 (bytesP h 32)).length (bytesP h 32)=bytesS h:=by rfl
 simp_all
end Go.Proofs.YthbcodbcndiapaaGreatDoor