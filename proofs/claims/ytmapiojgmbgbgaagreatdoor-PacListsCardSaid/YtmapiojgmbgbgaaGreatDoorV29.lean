/- Signed data in lists: Put: what it gives; the reference's. -/
import Derived.Test.YtmapiojgmbgbgaaGreatDoorV28
set_option linter.all false
namespace Go.Proofs.YtmapiojgmbgbgaaGreatDoor
open Go Go.Sx Go.Proofs
set_option maxRecDepth 100000
set_option maxHeartbeats 40000000
def putD(l:List Pre)(b:List UInt8):List Pre×Int:=if 4096<b.length then ([],2) else match firstN l.length (is128 l) with
 |some i=>(l.set i ((l.getD i PreT.dflt).1,b),0)
 |none=>if 16≤l.length then ([],7) else (l++ [((128:Int),b)],0)
theorem q6F{n i:Nat}{q:Nat→Bool}(h:firstN n q=some i):i<n∧q i=true:=by
 unfold firstN at h;rw [Cj] at h;exact ⟨by simpa using h.2.1,h.1⟩
theorem j3f(l:List Pre)(b:List UInt8)(ho:(Ty.slice PreT).ok l)(hl:l.length≤1000)(hb:b.length≤1048576):PC Tryz.prog 31 [.isl PreT l,.isl .u8 b] (.tup [.isl PreT (putD l b).1,rI (putD l b).2]):=by
 have ca:=j3E l ho;unfold putD;unfold atD at ca;by_cases h1:4096<b.length
 · rw [if_pos h1];have f1:(4096< (b.length:Int))=True:=eq_true (by omega)
   refine q0u rfl rfl ?_;refine ry1 fi31 f1 ?_;trivial
 rw [if_neg h1];have f1:(4096< (b.length:Int))=False:=eq_false (by omega)
 cases hf:firstN l.length (is128 l) with
 |some i=>
  rw [hf] at ca;dsimp only at ca⊢;obtain ⟨hlt,_⟩:=q6F hf;have f2:((0:Int)≤(i:Int))=True:=eq_true (by omega)
  refine q0u rfl rfl ?_;refine ry1 fi31 f1 ?_;refine ⟨⟨by omega,by omega⟩,q0a ca ?_⟩
  refine gy1 f2 ?_;refine ⟨by omega,by omega,⟨by rw [A4];omega,by rw [A4];omega⟩,?_⟩
  rw [Ac,Ac,Ah (by rw [A4];exact Ae _)]
 |none=>
  rw [hf] at ca;dsimp only at ca⊢;by_cases h16:16≤l.length
  · rw [if_pos h16];have f2:(16≤(l.length:Int))=True:=eq_true (by omega)
    refine q0u rfl rfl ?_;refine ry1 fi31 f1 ?_;refine ⟨⟨by omega,by omega⟩,q0a ca ?_⟩
    refine gy1 f2 ?_;trivial
  rw [if_neg h16];have f2:(16≤(l.length:Int))=False:=eq_false (by omega)
  refine q0u rfl rfl ?_;refine ry1 fi31 f1 ?_;refine ⟨⟨by omega,by omega⟩,q0a ca ?_⟩
  refine gy1 f2 ?_;exact ⟨⟨by omega,by omega,by omega⟩,⟨Ae _,by omega⟩,Ah (by simp)⟩
end Go.Proofs.YtmapiojgmbgbgaaGreatDoor
/- Contracts: copies in new memory, of what lies as it lay. -/
namespace Go.Proofs.YtmapiojgmbgbgaaGreatDoor
open Go Go.Sx Go.Proofs
set_option maxRecDepth 100000
set_option maxHeartbeats 4000000

variable {q:Nat→Prop} {w0:World}
theorem j1K{k:IntKind}{x:(Ty.int k).den}{vs:List Value}(h:(Ty.int k).rel q w0 x vs):vs= [.int k x]:=h
theorem j3h{t:Ty}{xs:List t.den}{vs:List Value}(h:(Ty.slice t).rel q w0 xs vs):∃A n c,vs= [.slice A n c]∧Sl q w0 t xs (.slice A n c):=by
 obtain ⟨A,n,c,rfl,_⟩:=id h;exact ⟨A,n,c,rfl,h⟩
theorem j3K{s t:Ty}{x:(Ty.prod s t).den}{vs:List Value}(h:(Ty.prod s t).rel q w0 x vs):∃v1 v2,vs=v1++v2∧s.rel q w0 x.1 v1∧t.rel q w0 x.2 v2:=h

end Go.Proofs.YtmapiojgmbgbgaaGreatDoor

namespace Go.Sx
open Go

variable [Ghost] {P:Program} {AQ:Ex→List SV→List SObj→Prop} {k0:Nat} {k:List IT} {k':List It} {t:List SV} {H:List SObj}
variable {all:Array Oper} {G:List Nat} {o:Oper} {ev:Operand→SV} {K:Out→List SObj→Prop}

end Go.Sx
namespace Go.Sx
open Go

variable [Ghost] {P:Program} {AQ:Ex→List SV→List SObj→Prop} {k0:Nat} {k:List IT} {k':List It} {t:List SV} {H:List SObj}
variable {all:Array Oper} {G:List Nat} {o:Oper}

end Go.Sx
namespace Go.Sx
open Go

variable {P:Program} {AQ:Ex→List SV→List SObj→Prop} {k0:Nat} {k:List It} {t:List SV} {H:List SObj}

def flatC:Code→List Code
 |.seq a b=>flatC a++flatC b
 |c=>[c]
structure XI where
 ntmps:Nat
 results:List ResultVar
 pre:List IC
 reg:Array Oper
 post:List IC
end Go.Sx
namespace Go.Sx
open Go

variable {P:Program} {AQ:Ex→List SV→List SObj→Prop} {k0:Nat}

/- Values that hold nothing immutable. -/
mutual
def SV.noI:SV→Bool
 |.any|.raw _|.ptr .. |.rptr .. |.bld .. |.osl .. |.csl .. |.mp _=>true
 |.agg l=>SV.noIL l
 |.tup l=>SV.noIL l
 |.fn _ a b=>SV.noIL a&& SV.noIL b
 |.iface _ x=>SV.noI x
 |_=>false
def SV.noIL:List SV→Bool
 | []=>true
 |s :: l=>SV.noI s&& SV.noIL l
end
mutual
theorem z7l{C:Cx}{I:Nat→Prop}:∀ {s:SV} {v:Value},s.noI=true→s.den C v→s.den {C with I:=I} v
 |.any,_,_,_=>by rw [SV.den];trivial
 |.raw u,v,_,h=>by rw [SV.den] at h⊢;exact h
 |.isl ..,_,h,_=>by simp [SV.noI] at h
 |.fsl ..,_,h,_=>by simp [SV.noI] at h
 |.iptr ..,_,h,_=>by simp [SV.noI] at h
 |.dat ..,_,h,_=>by simp [SV.noI] at h
 |.imap ..,_,h,_=>by simp [SV.noI] at h
 |.ptr h off,v,_,d=>by rw [SV.den] at d⊢;exact d
 |.rptr h t i k,v,_,d=>by rw [SV.den] at d⊢;exact d
 |.bld h t n,v,_,d=>by rw [SV.den] at d⊢;exact d
 |.osl h t off n,v,_,d=>by rw [SV.den] at d⊢;exact d
 |.csl h t k i n,v,_,d=>by rw [SV.den] at d⊢;exact d
 |.mp h,v,_,d=>by rw [SV.den] at d⊢;exact d
 |.agg l,v,h,d=>by
  rw [SV.den] at d⊢;obtain ⟨vs,hv,hl⟩:=d;exact ⟨vs,hv,q4F (by simpa [SV.noI] using h) hl⟩
 |.tup l,v,h,d=>by
  rw [SV.den] at d⊢;obtain ⟨vs,hv,hl⟩:=d;exact ⟨vs,hv,q4F (by simpa [SV.noI] using h) hl⟩
 |.fn f l1 l2,v,h,d=>by
  rw [SV.den] at d⊢;obtain ⟨v1,v2,hv,h1,h2⟩:=d;simp [SV.noI] at h;exact ⟨v1,v2,hv,q4F h.1 h1,q4F h.2 h2⟩
 |.iface T x,v,h,d=>by
  rw [SV.den] at d⊢;obtain ⟨u,hv,h1⟩:=d;exact ⟨u,hv,z7l (by simpa [SV.noI] using h) h1⟩
theorem q4F{C:Cx}{I:Nat→Prop}:∀ {l:List SV} {vs:List Value},SV.noIL l=true→SV.denL C l vs→SV.denL {C with I:=I} l vs
 | [],_,_,h=>by rw [SV.denL] at h⊢;exact h
 |s :: l,_,hc,h=>by
  rw [SV.denL] at h⊢;obtain ⟨v,us,rfl,h1,h2⟩:=h;simp [SV.noIL] at hc;exact ⟨v,us,rfl,z7l hc.1 h1,q4F hc.2 h2⟩
end
def SObj.noI:SObj→Bool
 |.cells _ cs=>SV.noIL cs
 |.row t _=>t.flat
 |.map _ _ vs=>SV.noIL vs
 |_=>true
theorem TabT.flat{C C':Cx}{H H':List SObj}(hf:(datList.all fun e=>e.2.1.flat)=true)(h:TabT C H)(e:C'.w=C.w)(ho:∀b,OwnB C' H' b→OwnB C H b):TabT C' H' where
 tab:=fun x hx=>by
  obtain ⟨h1,T,fz,h2⟩:=h.tab x hx;exact ⟨⟨by rw [e];exact h1.1,fun y=>h1.2 (ho _ y)⟩,T,fz,by rw [e];exact h2⟩
 dat:=fun x hx=>by
  obtain ⟨h1,us,h2,h3⟩:=h.dat x hx;refine ⟨⟨by rw [e];exact h1.1,fun y=>h1.2 (ho _ y)⟩,us,Ty.rel_flat _ _ _ (Ba.1 hf x hx) h2,fun j u hu=> ?_⟩
  rw [e];exact h3 j u hu
theorem j3v{l:List IC}:∀x∈(l.map IT.ic),∃c,x= .ic c:=fun x hx=>by
 obtain ⟨c,_,rfl⟩:=BU.1 hx;exact ⟨c,rfl⟩
end Go.Sx
namespace Go.Sx
open Go

variable {P:Program} {AQ:Ex→List SV→List SObj→Prop} {k0:Nat}

theorem z5W{op:Op}{t:Ty}{by_:Nat}{x y:Operand}(h:compOp P op=some (.app t by_ x y)):∃ (c:Call) (tS tX e:TypeId) (i:TypeInfo) (z:Value) (bb:Bool),op= .call c∧c.callee= .builtin .append∧c.args= #[x,y]∧c.argTypes= #[tS,tX]∧
 P.underlying tS=some (.slice e)∧srcType P tX=some bb∧P.info? e=some i∧by_=i.bytes∧i.size=t.size∧i.zero=some z∧z.cells.size=t.size:=by
 unfold compOp at h;repeat' split at h
 all_goals first
  |contradiction
  | (simp only [Option.some.injEq,IOp.app.injEq] at h;obtain ⟨rfl,rfl,rfl,rfl⟩:=h;rename_i hsz;exact ⟨_,_,_,_,_,_,_,rfl,by assumption,Bg.1 (by assumption),Bg.1 (by assumption),by assumption,by assumption,by assumption,rfl,hsz.1,by assumption,hsz.2⟩)
  | (simp only [A9,Ap,Option.some.injEq,reduceCtorEq,and_false,exists_false] at h;done)
  | (simp [A9] at h;done)

def flatI:IC→List IC
 |.seq a b=>flatI a++flatI b
 |c=>[c]
theorem q8b:∀ {k1 k2:List IT} {l1 l2:List It},(∀x∈k1,∃c,x= .ic c)→RelT P k1 l1→RelT P k2 l2→RelT P (k1++k2) (l1++l2)
 | [],_,_,_,_,h,h2=>by cases h;exact h2
 |x :: k1,k2,l1,l2,hc,h,h2=>by
  obtain ⟨c,rfl⟩:=hc x (by simp)
  obtain ⟨c',r,rfl,h3,h4⟩:=h;exact ⟨c',r++l2,rfl,h3,q8b (fun x hx=>hc x (by simp [hx])) h4 h2⟩
theorem rel_flat:∀ (ic:IC) {c:Code},comp P c=some ic→RelT P ((flatI ic).map .ic) ((flatC c).map .code):=by
 intro ic;induction ic with
 |seq x y ihx ihy=>
  intro c h;obtain ⟨a,b,rfl,h1,h2⟩:=q0N h;simp only [flatI,flatC,CU];exact q8b j3v (ihx h1) (ihy h2)
 |_=>
  intro c h;have hc:flatC c= [c]:=by
   cases c with
   |seq a b=>simp only [comp] at h;split at h<;>cases h
   |_=>rfl
  rw [hc];exact ⟨c,[],rfl,h,rfl⟩
end Go.Sx
namespace Go.Sx
open Go

variable {P:Program} {AQ:Ex→List SV→List SObj→Prop} {k0:Nat} {k:List It} {t:List SV} {H:List SObj}

end Go.Sx
namespace Go.Sx
open Go

variable {P:Program} {AQ:Ex→List SV→List SObj→Prop} {k0:Nat} {k:List It} {t:List SV} {H:List SObj}

structure C2P where
 f:FuncId
 p:Nat
 d0:Nat
 d1:Nat
 d2:Nat
 d3:Nat
 d4:Nat
 d5:Nat
 T:TypeId
 m:Nat
 zs:List Value
 ty:Ty
 x:ty.den

def needs(o:Oper)(j:Nat):Prop:=∃e∈o.after,Region.binds .any e=true∧e.on=j
structure IsC2 (P:Program) (all:Array Oper) (c:C2P):Prop where
 size:all.size=8
 top:∀ (i:Nat) (o:Oper),all[i]?=some o→∀e∈o.after,e.on<i
 o0:∃o,all[0]?=some o∧o.op= .load c.T (.tmp c.p)∧o.dst=some c.d0∧o.guard=none
 o1:∃o cl,all[1]?=some o∧o.op= .call cl∧cl.callee= .value (.func c.f)∧cl.args= #[.tmp c.d0]∧o.dst=some c.d1∧o.guard=none∧needs o 0
 o2:∃o,all[2]?=some o∧o.op= .load c.T (.tmp c.p)∧o.dst=some c.d2∧o.guard=none
 o3:∃o cl,all[3]?=some o∧o.op= .call cl∧cl.callee= .value (.func c.f)∧cl.args= #[.tmp c.d2]∧o.dst=some c.d3∧o.guard=none∧needs o 2
 o4:∃o,all[4]?=some o∧o.op= .alloc c.T∧o.dst=some c.d4∧o.guard=none
 o5:∃o,all[5]?=some o∧o.op= .alloc c.T∧o.dst=some c.d5∧o.guard=none
 o6:∃o,all[6]?=some o∧o.op= .store c.T (.tmp c.d4) (.tmp c.d1)∧o.dst=none∧o.guard=none∧needs o 4∧needs o 1
 o7:∃o,all[7]?=some o∧o.op= .store c.T (.tmp c.d5) (.tmp c.d3)∧o.dst=none∧o.guard=none∧needs o 5∧needs o 3
 ag:aggOf P c.T=some (some c.m)
 zero:(P.info? c.T).bind (fun i=>i.zero.map (·.cells.toList))=some c.zs
 zlen:c.zs.length=c.m
 tsz:c.ty.size=c.m
 en:enters P c.f=true
 nd:[c.p,c.d0,c.d1,c.d2,c.d3,c.d4,c.d5].Nodup

def Far(E:EnD)(C:Cx)(H:List SObj)(b:Nat):Prop:=E.C.w.heap.size≤b∧b<C.w.heap.size∧¬C.I b∧¬OwnB C H b∧Unf C.w b
theorem Far.ext{E:EnD}{C C':Cx}{b:Nat}(h:Far E C H b)(hx:Ext ⟨C,H⟩ C' H):Far E C' H b∧C'.w.heap[b]?=C.w.heap[b]?:=by
 obtain ⟨h0,h1,h2,h3,h4⟩:=h;obtain ⟨g1,g2,g3,g4⟩:=z1D hx h1 h2 h3;exact ⟨⟨h0,g1,g2,g3,h4.keep g4⟩,g4⟩

def upd(β:Nat→Bool)(i:Nat):Nat→Bool:=fun j=>if j=i then true else β j
structure R2 (c:C2P) (E:EnD) (tm:List SV) (H:List SObj) (β:Nat→Bool) (vs:List Value) (q:Nat→Prop) (b4 b5:Nat) (C:Cx) (a:Act):Prop where
 den: @Den noGhost E C tm H a
 f0:β 0=true→∃ws:List Value,a.tmps[c.d0]?=some (.agg ws.toArray)∧SV.denL C (c.ty.cells c.x) ws
 f1:β 1=true→a.tmps[c.d1]?=some (.agg vs.toArray)∧c.ty.rel q C.w c.x vs∧∀b,q b→Far E C H b
 f2:β 2=true→∃ws:List Value,a.tmps[c.d2]?=some (.agg ws.toArray)∧SV.denL C (c.ty.cells c.x) ws
 f3:β 3=true→∃ws:List Value,a.tmps[c.d3]?=some (.agg ws.toArray)∧SV.denL C (c.ty.cells c.x) ws
 f4:β 4=true→a.tmps[c.d4]?=some (.pointer (some ⟨b4,0,none⟩))∧Far E C H b4∧(β 1=true→¬q b4)∧C.w.heap[b4]?=some (.cells (if β 6=true then vs else c.zs).toArray c.T (0,0))
 f5:β 5=true→a.tmps[c.d5]?=some (.pointer (some ⟨b5,0,none⟩))∧Far E C H b5∧(β 1=true→¬q b5)∧(β 4=true→b5≠b4)∧∃us:List Value,C.w.heap[b5]?=some (.cells us.toArray c.T (0,0))∧us.length=c.m∧(β 7=true→SV.denL C (c.ty.cells c.x) us)
 i6:β 6=true→β 4=true∧β 1=true
 i7:β 7=true→β 5=true∧β 3=true

variable {c:C2P} {E:EnD} {tm:List SV} {β:Nat→Bool} {vs:List Value} {q:Nat→Prop} {b4 b5:Nat} {C C':Cx} {a:Act}

theorem R2.ext(r:R2 c E tm H β vs q b4 b5 C a)(hw:Wd C' H)(hx:Ext ⟨C,H⟩ C' H):R2 c E tm H β vs q b4 b5 C' a where
 den:=⟨hw,r.den.ext.trans hx,⟨r.den.defs.1,⟨r.den.defs.2.1.tab.next hx,r.den.defs.2.1.old⟩,trivial⟩,q0f hx.evo r.den.tmps⟩
 f0:=fun h=>by obtain ⟨ws,h1,h2⟩:=r.f0 h;exact ⟨ws,h1,q0f hx.evo h2⟩
 f1:=fun h=>by
  obtain ⟨h1,h2,h3⟩:=r.f1 h;exact ⟨h1,Ty.rel_keep (fun b hb=>⟨hb,((h3 b hb).ext hx).2⟩) _ _ _ h2,fun b hb=>((h3 b hb).ext hx).1⟩
 f2:=fun h=>by obtain ⟨ws,h1,h2⟩:=r.f2 h;exact ⟨ws,h1,q0f hx.evo h2⟩
 f3:=fun h=>by obtain ⟨ws,h1,h2⟩:=r.f3 h;exact ⟨ws,h1,q0f hx.evo h2⟩
 f4:=fun h=>by
  obtain ⟨h1,h2,h3,h4⟩:=r.f4 h;exact ⟨h1,(h2.ext hx).1,h3,(h2.ext hx).2.trans h4⟩
 f5:=fun h=>by
  obtain ⟨h1,h2,h3,h4,us,h5,h6,h7⟩:=r.f5 h;exact ⟨h1,(h2.ext hx).1,h3,h4,us,(h2.ext hx).2.trans h5,h6,fun h=>q0f hx.evo (h7 h)⟩
 i6:=r.i6
 i7:=r.i7

theorem j1r{d:Nat}{v:Value}(h: @Den noGhost E C tm H a)(hd:tm[d]?=some .any): @Den noGhost E C tm H (a.put (some d) v):=by
 refine ⟨h.wd,h.ext,⟨h.defs.1,h.defs.2.1,trivial⟩,?_⟩;simp only [Act.put,B4];have h1:=q2p (i:=d) (s:=.any) (v:=v) h.tmps (by rw [SV.den];trivial)
 have h2:tm.set d .any=tm:=by
  apply Bc;intro i;by_cases e:d=i
  · subst e;rw [Ar (Aa.1 hd).1,hd]
  rw [Aq e]
 rwa [h2] at h1
theorem j3M{d e:Nat}{v:Value}(h:d≠e):(a.put (some d) v).tmps[e]?=a.tmps[e]?:=by
 simp only [Act.put];exact BQ h

theorem R2.put{i d:Nat}{v:Value}(r:R2 c E tm H β vs q b4 b5 C a)(hnd:[c.p,c.d0,c.d1,c.d2,c.d3,c.d4,c.d5].Nodup)(hi:β i=false)(hd:[c.d0,c.d1,c.d2,c.d3,c.d4,c.d5][i]?=some d)(ht:tm[d]?=some .any):R2 c E tm H β vs q b4 b5 C (a.put (some d) v):=by
 have key:∀ (j e:Nat),[c.d0,c.d1,c.d2,c.d3,c.d4,c.d5][j]?=some e→β j=true→(a.put (some d) v).tmps[e]?=a.tmps[e]?:=fun j e he hj=>j3M fun h=>by
  subst h;have hnd':[c.d0,c.d1,c.d2,c.d3,c.d4,c.d5].Nodup:=(Bw.1 hnd).2;have h1:=(Aa.1 hd).1;have:i=j:=(List.getElem?_inj h1 hnd').1 (hd.trans he.symm);subst this;rw [hi] at hj;cases hj
 refine ⟨j1r r.den ht,fun h=> ?_,fun h=> ?_,fun h=> ?_,fun h=> ?_,fun h=> ?_,fun h=> ?_,r.i6,r.i7⟩
 · obtain ⟨ws,h1,h2⟩:=r.f0 h;exact ⟨ws,(key 0 _ rfl h).trans h1,h2⟩
 · obtain ⟨h1,h2⟩:=r.f1 h;exact ⟨(key 1 _ rfl h).trans h1,h2⟩
 · obtain ⟨ws,h1,h2⟩:=r.f2 h;exact ⟨ws,(key 2 _ rfl h).trans h1,h2⟩
 · obtain ⟨ws,h1,h2⟩:=r.f3 h;exact ⟨ws,(key 3 _ rfl h).trans h1,h2⟩
 · obtain ⟨h1,h2⟩:=r.f4 h;exact ⟨(key 4 _ rfl h).trans h1,h2⟩
 obtain ⟨h1,h2⟩:=r.f5 h;exact ⟨(key 5 _ rfl h).trans h1,h2⟩

theorem z3J{d:Nat}{v:Value}(h:a.tmps[d]?=some v):a.eval (.tmp d)=v:=by
 simp only [Act.eval];rw [Bs,h];rfl

end Go.Sx
namespace Go.Sx
open Go

variable {P:Program} {AQ:Ex→List SV→List SObj→Prop} {k0:Nat} {k:List It} {t:List SV} {H:List SObj}
variable {c:C2P} {E:EnD} {tm:List SV} {β:Nat→Bool} {vs:List Value} {q:Nat→Prop} {b4 b5:Nat} {C C':Cx} {a:Act}

end Go.Sx
namespace Go.Sx
open Go

variable {P:Program} {AQ:Ex→List SV→List SObj→Prop} {k0:Nat} {k:List It} {t:List SV} {H:List SObj}
variable {c:C2P}

end Go.Sx
namespace Go.Sx
open Go

variable {P:Program} {AQ:Ex→List SV→List SObj→Prop} {k0:Nat} {k:List It} {t:List SV} {H:List SObj}

end Go.Sx
namespace Go.Sx
open Go

variable {P:Program} {AQ:Ex→List SV→List SObj→Prop} {k0:Nat} {td:List IT} {t:List SV} {H:List SObj}

theorem z8u{q:Nat→Prop}{w1:World}{N:Nat}{E:EnD}{C:Cx}{a:Act}(hd: @Den (frzN q w1 N) E C t H a)(hq:∀b,q b→N≤b∧Unf w1 b):
 SInv q C.w E.toEn C H∧∀ (ty:Ty) (x:ty.den) (vs:List Value),ty.rel q w1 x vs→ty.rel q C.w x vs:=by
 have hz:ZInv q w1 C H:=hd.defs.2.2.2;have hN:E.C.w.heap.size≤N:=hd.defs.2.2.1.1;refine ⟨fun b hb=> ?_,fun ty x vs h=>Ty.rel_keep (fun b hb=>⟨hb,(hz b hb).2.2.2⟩) _ _ _ h⟩;obtain ⟨g1,g2,g3,g4⟩:=hz b hb;exact ⟨⟨.inl (An hN (hq b hb).1),fun h=>absurd (hd.defs.2.2.1.2 b h) (AG.2 (hq b hb).1)⟩,g1,g2,g3,(hq b hb).2.keep g4,.inl rfl⟩
theorem j3k{q:Nat→Prop}{w1:World}{N:Nat}(hq:∀b,q b→N≤b∧Unf w1 b)(hp:plainT td=true)(hns:noStopI td=true)
 (hk:∀ (w':World),(∀ (ty:Ty) (x:ty.den) (vs:List Value),ty.rel q w1 x vs→ty.rel q w' x vs)→ @SoundI (scrG q w') P AQ ⟨k0,td,t,H⟩): @SoundI (frzN q w1 N) P AQ ⟨k0,td,t,H⟩:= @q0d (frzN q w1 N) P AQ k0 t H _ (fun td' hr'=>by
 intro E rr n C a h0 hd;obtain ⟨s1,s2⟩:=z8u hd hq;have hd2: @Den (scrG q C.w) E C t H a:=⟨hd.wd,hd.ext,⟨hd.defs.1,hd.defs.2.1,s1⟩,hd.tmps⟩;have h5:= @q0e (scrG q C.w) P AQ k0 _ H _ td' (hk C.w s2) hr' E rr n _ _ h0 hd2
 exact (@q2A P (frzN q w1 N) (scrG q C.w) (Fw rr) n E E (@conc (frzN q w1 N) E AQ) (@conc (scrG q C.w) E AQ)
  (fun ex a w hh=> @q7T AQ (frzN q w1 N) (scrG q C.w) E (fun _ _ _ _ h=>⟨h.1,h.2.1,trivial⟩) ex a w hh) td' (q1W hr' hns)).1 _ _ h5) hp
theorem z4J{q:Nat→Prop}{w0:World}{N:Nat}{f:FuncId}{args args':List SV}{v:Value}{d:Option Tmp}{m:IM}(hp:PC P f args' (.raw v))(hl:LendA q w0 args args')(h: @SoundI (frzN q w0 N) P AQ {m with tmps:=putT m.tmps d (.raw v)}):
 @CallI (frzN q w0 N) P AQ f args d m:=by
 refine ⟨hp.1,fun E C vs hw hg hv=> ?_⟩;refine (hp.2 [] (PK (.raw v)) rfl (C.lend q) vs (j2H hw hg.2.2) (hg.1.tab.nil rfl fun b hb=>.inl hb) (hl C _ vs hg.2.2 hv)).mono ?_;rintro e w' ⟨o,H',C',rfl,rfl,hw',hx,u,rfl,hd⟩;rw [SV.den] at hd;subst hd;obtain ⟨g1,g2⟩:=z9Y (q:=q) (w0:=w0) hw hx;exact ⟨.ret (.raw u),m.heap,{C with w:=C'.w},h,rfl,g1, @Stp.of (frzN q w0 N) E C {C with w:=C'.w} m.heap m.heap g2,u,rfl,by rw [SV.den]⟩
end Go.Sx
namespace Go.Sx
open Go
variable {P:Program} {AQ:Ex→List SV→List SObj→Prop} {k0:Nat}

theorem z3N{q:Nat→Prop}{w0:World}{t t':Ty}{by_ d:Nat}{l:List OpI}{td:List IT}{x y:Operand}{tm:List SV}{H:List SObj}{xs:List t.den}{v:Value}(f:t.den→t'.den)(hsz:t'.size=t.size)
 (hf:∀ (z:t.den) us,t.rel q w0 z us→∀I w,t'.rel I w (f z) us)(hx:evT tm x= .raw (.slice none 0 0))(hy:evT tm y= .raw v)(hv:Sl q w0 t xs v)(hb:xs.length*by_≤140737488355328)
 (hk: @SoundI (frzG q w0) P AQ ⟨k0,.ops l :: td,putT tm (some d) (.bld (H.length+1) t' xs.length),H++ [.dead]++ [.row t' (xs.map f)]⟩): @SoundI (frzG q w0) P AQ ⟨k0,.ops (⟨some d,.app t by_ x y,none⟩ :: l) :: td,tm,H⟩:= @q0d (frzG q w0) P AQ k0 tm H _ (fun td' hr=>by
 obtain ⟨all,idx,r,rfl,ho,hr⟩:=hr;cases idx with
 |nil=>exact ho.elim
 |cons i idx=>
  obtain ⟨⟨o,ho1,ho2⟩,ho⟩:=ho;obtain ⟨hc,hd⟩:=q0E ho2;simp only at hc hd;obtain ⟨c,tS,tX,e,ti,z,bb,hop,hcal,ha,hty,ht,hsx,hi,rfl,h1,h2,h3⟩:=z5W hc;refine @q9u (frzG q w0) P AQ k0 r tm H all i idx o ho1 ((q0m ho2).1 rfl) ?_;intro E C rr n a next Q hw hg hvs hret hpan
  have hz:ZInv q w0 C H:=hg.2;have hvx:=hvs x (by rw [hop];simp [Op.operands,Call.operands,hcal,ha])
  have hvy:=hvs y (by rw [hop];simp [Op.operands,Call.operands,hcal,ha])
  rw [hx,SV.den] at hvx;rw [hy,SV.den] at hvy
  let C1:Cx:={C with ρ:=(fun h=>if h=C.n then none else C.ρ h),n:=C.n+1}
  have hn:=hw.n;obtain ⟨hw1,hev,hown⟩:=q9K hw none (.row t' []) (fun b h=>by cases h) C1 rfl (.inl ⟨if_pos rfl,rfl⟩)
  have hx1:Ext ⟨C,H⟩ C1 (H++ [.row t' []]):=⟨hev,Ae _,rfl,rfl,rfl,fun _ _ _=>rfl,fun _ h=>.inl h,fun b hbb=>.inr ((hown b hbb).elim id fun e=>by cases e),fun m h0 hm=>q3r hm⟩
  have hvx':(SV.bld H.length t' 0).den C1 (a.eval x):=by
   rw [hvx,SV.den];exact ⟨by show H.length<C.n+1;omega,.inl ⟨if_pos (by omega),rfl,rfl⟩⟩
  obtain ⟨A,cp,rfl,hA⟩:=hv.out;have hrow:∀ (I:Nat→Prop) (w:World),(∀b,q b→w.heap[b]?=w0.heap[b]?)→(xs.map f= []∨∃b off,A=some ⟨b,off,none⟩∧rowAt I w t' (xs.map f) b off):=fun I w hq=>by
   rcases hA with rfl| ⟨b,off,rfl,hA⟩
   · exact .inl rfl
   refine .inr ⟨b,off,rfl,fun j y hj=> ?_⟩;rw [AN] at hj;cases hxj:xs[j]? with
   |none=>rw [hxj] at hj;cases hj
   |some u=>
    rw [hxj] at hj;cases hj;obtain ⟨hqb,vs,g1,g2⟩:=hA j u hxj;exact ⟨vs,hf u vs g1 I w,fun k u' hu=>by rw [hsz,World.cell?_of_block (a:=⟨b,off+j*t.size+k,none⟩) (hq b hqb)];exact g2 k u' hu⟩
  have hlen:(xs.map f).length=xs.length:=A5 ..;have src:∀C0:Cx,(∀b,q b→C0.w.heap[b]?=w0.heap[b]?)→Src P t' C0 (.slice A xs.length cp) (xs.map f):=fun C0 hq=>by
   obtain ⟨news,g1,g2⟩:=q1g (P:=P) (C:=C0) (A:=A) (c:=cp) (hrow C0.I C0.w hq);rw [hlen] at g2;exact ⟨news,g1,by simp [Builtin.lenOf],by rw [hlen];exact g2⟩
  have hxl:xs.length≤1125899906842624:=(Ty.rel_ok _ _ _ hv).1
  obtain ⟨rv,C',hrun,w1,w2,w3⟩:=q5y (P:=P) (ty:=o.type) (tS:=tS) (tX:=tX) (Hk:=(H++ [SObj.row t' []]).set H.length .dead) (xs:=([]:List t'.den)) (n:=0) hw1 hvx' (by
   unfold dstOf
   simp only [CJ,and_self,dite_true,cast_eq]) rfl (src C1 fun b hb=>(hz b hb).2.2.2) (src C1.drew fun b hb=>(hz b hb).2.2.2) ht hsx hi (h1.trans hsz.symm) h2 (h3.trans hsz.symm) (by simpa using hxl) (by simpa using hb)
  have hset:(H++ [SObj.row t' []]).set H.length .dead=H++ [.dead]:=by rw [BZ _ _ (Ae _),CG];rfl
  rw [hset,As] at w1 w2;simp only [Bq,Ac,A5,A4,Af,AB] at w3;have hk':= @q0e (frzG q w0) P AQ _ _ _ _ _ hk ⟨all,idx,r,rfl,ho,hr⟩;refine j0g (w':=C'.w) (v:=rv) (by rw [hop];intro c hc;cases hc) (.inl ?_) (hret (.bld (H.length+1) t' xs.length) rv _ C' (by rw [←hd];exact hk') w1 (@Stp.of (frzG q w0) E C C' H _ (hx1.trans w2)) w3)
  change Sem.run P _ C.w=_ at hrun;rw [←hvy] at hrun
  simp [execOp,hop,resolve,hcal,ha,hty,invoke,builtin,hrun,Result.andThen]) rfl
end Go.Sx
namespace Go.Sx
open Go
variable {P:Program} {AQ:Ex→List SV→List SObj→Prop} {k0:Nat} {k:List IT}

theorem z5D{q:Nat→Prop}{w0:World}{t t':Ty}{by_:Nat}{o:Oper}{ev:Operand→SV}{K:Out→List SObj→Prop}{x y:Operand}{H:List SObj}{xs:List t.den}{v:Value}(f:t.den→t'.den)(hsz:t'.size=t.size)(hc:compOp P o.op=some (.app t by_ x y))
 (hf:∀ (z:t.den) us,t.rel q w0 z us→∀I w,t'.rel I w (f z) us)(hx:ev x= .raw (.slice none 0 0))(hy:ev y= .raw v)(hv:Sl q w0 t xs v)(hb:xs.length*by_≤140737488355328)
 (hk:K (.ret (.isl t' (xs.map f))) (H++ [.dead]++ [.dead])): @OpV (frzG q w0) P o ev H K:=by
 obtain ⟨c,tS,tX,e,ti,z,bb,hop,hcal,ha,hty,ht,hsx,hi,rfl,h1,h2,h3⟩:=z5W hc;intro E C rr n a next Q hw hg hvs hret hpan
 have hz:ZInv q w0 C H:=hg.2;have hvx:=hvs x (by rw [hop];simp [Op.operands,Call.operands,hcal,ha])
 have hvy:=hvs y (by rw [hop];simp [Op.operands,Call.operands,hcal,ha])
 rw [hx,SV.den] at hvx;rw [hy,SV.den] at hvy
 let C1:Cx:={C with ρ:=(fun h=>if h=C.n then none else C.ρ h),n:=C.n+1}
 have hn:=hw.n;obtain ⟨hw1,hev,hown⟩:=q9K hw none (.row t' []) (fun b h=>by cases h) C1 rfl (.inl ⟨if_pos rfl,rfl⟩)
 have hx1:Ext ⟨C,H⟩ C1 (H++ [.row t' []]):=⟨hev,Ae _,rfl,rfl,rfl,fun _ _ _=>rfl,fun _ h=>.inl h,fun b hbb=>.inr ((hown b hbb).elim id fun e=>by cases e),fun m h0 hm=>q3r hm⟩
 have hvx':(SV.bld H.length t' 0).den C1 (a.eval x):=by
  rw [hvx,SV.den];exact ⟨by show H.length<C.n+1;omega,.inl ⟨if_pos (by omega),rfl,rfl⟩⟩
 obtain ⟨A,cp,rfl,hA⟩:=hv.out;have hrow:∀ (I:Nat→Prop) (w:World),(∀b,q b→w.heap[b]?=w0.heap[b]?)→(xs.map f= []∨∃b off,A=some ⟨b,off,none⟩∧rowAt I w t' (xs.map f) b off):=fun I w hq=>by
  rcases hA with rfl| ⟨b,off,rfl,hA⟩
  · exact .inl rfl
  refine .inr ⟨b,off,rfl,fun j y hj=> ?_⟩;rw [AN] at hj;cases hxj:xs[j]? with
  |none=>rw [hxj] at hj;cases hj
  |some u=>
   rw [hxj] at hj;cases hj;obtain ⟨hqb,vs,g1,g2⟩:=hA j u hxj;exact ⟨vs,hf u vs g1 I w,fun k u' hu=>by rw [hsz,World.cell?_of_block (a:=⟨b,off+j*t.size+k,none⟩) (hq b hqb)];exact g2 k u' hu⟩
 have hlen:(xs.map f).length=xs.length:=A5 ..;have src:∀C0:Cx,(∀b,q b→C0.w.heap[b]?=w0.heap[b]?)→Src P t' C0 (.slice A xs.length cp) (xs.map f):=fun C0 hq=>by
  obtain ⟨news,g1,g2⟩:=q1g (P:=P) (C:=C0) (A:=A) (c:=cp) (hrow C0.I C0.w hq);rw [hlen] at g2;exact ⟨news,g1,by simp [Builtin.lenOf],by rw [hlen];exact g2⟩
 have hxl:xs.length≤1125899906842624:=(Ty.rel_ok _ _ _ hv).1
 obtain ⟨rv,C',hrun,w1,w2,w3⟩:=q5y (P:=P) (ty:=o.type) (tS:=tS) (tX:=tX) (Hk:=(H++ [SObj.row t' []]).set H.length .dead) (xs:=([]:List t'.den)) (n:=0) hw1 hvx' (by
  unfold dstOf
  simp only [CJ,and_self,dite_true,cast_eq]) rfl (src C1 fun b hb=>(hz b hb).2.2.2) (src C1.drew fun b hb=>(hz b hb).2.2.2) ht hsx hi (h1.trans hsz.symm) h2 (h3.trans hsz.symm) (by simpa using hxl) (by simpa using hb)
 have hset:(H++ [SObj.row t' []]).set H.length .dead=H++ [.dead]:=by rw [BZ _ _ (Ae _),CG];rfl
 rw [hset,As] at w1 w2;simp only [Bq,Ac,A5,A4,Af,AB] at w3;have hH:(H++ [SObj.dead]++ [SObj.row t' (xs.map f)])[H.length+1]?=some (.row t' (xs.map f)):=by
  rw [Ao (by simp)]
  simp
 obtain ⟨g1,g2⟩:=z1q w1 hH;have hs2:(H++ [SObj.dead]++ [SObj.row t' (xs.map f)]).set (H.length+1) .dead=H++ [.dead]++ [.dead]:=by
  rw [BZ _ _ (by simp)]
  simp
 rw [hs2] at g1 g2;have hd3:(SV.isl t' (xs.map f)).den (C'.frz (H.length+1)) rv:=by
  have h3:=q2r (l:=[.bld (H.length+1) t' xs.length]) w1 hH (by rw [hlen];exact hxl) (by simp [SV.frzObL,SV.frzOb]) (q0c.2 ⟨rv,[],rfl,w3,q0p.2 rfl⟩)
  obtain ⟨v',us,e,d,_⟩:=q0c.1 h3;cases e;simpa [SV.frz,Ah] using d
 refine j0g (w':=C'.w) (v:=rv) (by rw [hop];intro c hc;cases hc) (.inl ?_) (hret (.isl t' (xs.map f)) rv _ (C'.frz (H.length+1)) hk g1 (@Stp.of (frzG q w0) E C (C'.frz (H.length+1)) H _ (hx1.trans (w2.trans g2))) hd3)
 change Sem.run P _ C.w=_ at hrun;rw [←hvy] at hrun;simp [execOp,hop,resolve,hcal,ha,hty,invoke,builtin,hrun,Result.andThen]
theorem z2z{q:Nat→Prop}{w0:World}{t t':Ty}{by_ d:Nat}{G:List Nat}{l:List (Bool×OpI)}{x y:Operand}{tm:List SV}{H:List SObj}{xs:List t.den}{v:Value}(f:t.den→t'.den)(hsz:t'.size=t.size)
 (hf:∀ (z:t.den) us,t.rel q w0 z us→∀I w,t'.rel I w (f z) us)(hx:evT tm x= .raw (.slice none 0 0))(hy:evT tm y= .raw v)(hv:Sl q w0 t xs v)(hb:xs.length*by_≤140737488355328)
 (hG:∀h∈strictP G,h<H.length∨H.length+2≤h)
 (hk: @SoundI (frzG q w0) P AQ ⟨k0,.dops G l :: k,putT tm (some d) (.isl t' (xs.map f)),H++ [.dead]++ [.dead]⟩):
 @SoundI (frzG q w0) P AQ ⟨k0,.dops G ((false,⟨some d,.app t by_ x y,none⟩) :: l) :: k,tm,H⟩:=by
 intro all listed fuel k' hpl hr;obtain ⟨n,i,o,io0,rfl,ho,hco,hpl',hB,hdst,hgd,hop⟩:=q1b hpl;have hw:wantedT all tm o=some true:=(q0m hco).1 (hgd▸rfl);have hio:io0=⟨some d,.app t by_ x y,none⟩:=by
  rcases hop with h|h
  · exact h.1.symm
  cases h.1
 subst hio;obtain ⟨hc,hd⟩:=q0E hco;refine @z1u (frzG q w0) P AQ k0 k' tm H all G i o n listed hB ho hw ?_;refine z5D f hsz hc hf hx hy hv hb ⟨fun h hh=> ?_,?_⟩
 · have hh':h∈strictP G:=by
    simp only [gsel,ho] at hh;rw [q9x hco] at hh;exact hh
   rcases hG h hh' with h1|h1
   · rw [List.append_assoc,Ag h1]
   rw [AJ (by simp;omega),AJ (by omega)]
 rw [←hd];exact hk all _ n k' hpl' hr
end Go.Sx
/- Signed data in lists: the program's Put over a zone: what it gives lies in new memory. -/
namespace Go.Proofs.YtmapiojgmbgbgaaGreatDoor
open Go Go.Sx Go.Proofs
set_option maxRecDepth 100000
set_option maxHeartbeats 40000000

variable {q:Nat→Prop} {w0:World}
theorem q8Y{p:Pre}{vs:List Value}(h:PreT.rel q w0 p vs):∃A n c,vs= [.int .i64 p.1,.slice A n c]∧Sl q w0 .u8 p.2 (.slice A n c):=by
 obtain ⟨v1,v2,rfl,h1,h2⟩:=j3K h;obtain rfl:=j1K h1;obtain ⟨A,n,c,rfl,h3⟩:=j3h h2;exact ⟨A,n,c,rfl,h3⟩
theorem j3Z(p:Pre){vs:List Value}(hv:PreT.rel q w0 p vs):PCZ q w0 Tryz.prog 77 [.agg (rawL vs)] (rB (decide (p.1=(128:Int)))):=by
 letI:Ghost:=frzG q w0
 obtain ⟨A,n,c,rfl,h1⟩:=q8Y hv;obtain ⟨k,b⟩:=p;refine q3d rfl rfl ?_;refine runZ mixed fi77 ?_<;>try with_reducible exact True.intro
theorem j3P(l:List Pre){v:Value}(hv:Sl q w0 PreT l v)(hl:l.length≤1000):PCZ q w0 Tryz.prog 76 [.raw v,.fn 77 [] []] (rI (match firstN l.length (is128 l) with|some i=>(i:Int) |none=> -1)):=by
 letI:Ghost:=frzG q w0
 generalize hR:(match firstN l.length (is128 l) with|some i=>(i:Int) |none=> -1)=R
 obtain ⟨A,c,rfl,hA⟩:=hv.out;rcases hA with h0| ⟨b,o,rfl,hat⟩
 · subst h0;have hn:R= -1:=by rw [←hR];rfl
   subst hn;rcases A with _| ⟨b,o,_|_⟩
   all_goals
    refine q3d rfl rfl ?_;refine runZ mixed fi76 ?_<;>try with_reducible exact True.intro
    refine q5Y 8 0 (fun _=>True) ?_ fun i hi _=> ?_
    · with_reducible refine sxE ?_;trivial
    obtain rfl:i=0:=by omega
    refine uQ 600 _ ?_;simp (maxSteps:=3000000) [go_sem,bothG]
 refine q3d rfl rfl ?_;refine runZ mixed fi76 ?_<;>try with_reducible exact True.intro
 refine q0Q (fun i=>[(8,.raw (.int .i64 ((i:Nat):Int)))]) (l.length) (fun j=>(fun j=> !is128 l j) j=true) (by first|decide|simp) (fun i=>rfl) ?_ fun i hi hall=> ?_
 · (with_reducible refine sxE ?_<;>try exact True.intro)
   all_goals (try rfl)
 have hwr:=wsx i (by omega)
 refine gQ ?_;have bad:i< (l.length)→(fun j=> !is128 l j) i=false→allN (l.length) (fun j=> !is128 l j)=false:=fun hlt hv=>q0l hlt hv;have fin:¬i< (l.length)→allN (l.length) (fun j=> !is128 l j)=true:=fun h=>q0q fun j hj=>hall j (by omega)
 try dsimp only at bad fin hall
 have hall':∀j,j<i→is128 l j=false:=fun j hj=>by simpa using hall j hj
 refine ⟨fun hlt=>⟨⟨by omega,hlt⟩,zldF (hat i (l.getD i PreT.dflt) (by rw [Ad,Ab hlt];rfl)) fun vs hvs=> ?_⟩,fun hge=> ?_⟩
 · obtain ⟨A',n',c',rfl,h1'⟩:=q8Y hvs;have hq:is128 l i=decide ((l.getD i PreT.dflt).1=(128:Int)):=rfl;have hz:=j3Z (l.getD i PreT.dflt) hvs;rw [←hq] at hz;refine gQ ?_;refine callZ hz ?_;cases hq':is128 l i with
   |true=>
    refine gQ ?_;rw [←hR,q1Z hlt hq' hall']
   |false=>
    refine gQ ?_;refine ⟨hlt,q0I hall' hq',⟨[],rfl⟩,?_⟩;with_reducible refine sx1 hwr ?_;trivial
 rw [←hR,q2x (fun j hj=>hall' j (by omega))]
theorem j2X(l:List Pre)(b:List UInt8){v1 v2:Value}(h1:Sl q w0 PreT l v1)(h2:Sl q w0 .u8 b v2)(hl:l.length≤1000)(hx:∀x∈l,x.2.length≤1048576)(hb:b.length≤1048576):PCZ q w0 Tryz.prog 24 [.raw v1,.raw v2] (.tup [.isl PreT (putD l b).1,rI (putD l b).2]):=by
 letI:Ghost:=frzG q w0
 have cix:=j3P l h1 hl;unfold putD;obtain ⟨A1,c1,rfl,hA1⟩:=h1.out;obtain ⟨A2,c2,rfl,hA2⟩:=h2.out;by_cases hb4:4096<b.length
 · rw [if_pos hb4];have f1:(4096< (b.length:Int))=True:=eq_true (by omega)
   refine q3d rfl rfl ?_;refine z0B fi24 (q0r mixed 600 _ ?_);simp (maxSteps:=3000000) only [ir24,f1,go_sem,↓zA,↓reduceIte,↓reduceDIte] <;>try simp only [zB]
 rw [if_neg hb4];have f1:(4096< (b.length:Int))=False:=eq_false (by omega)
 cases hf:firstN l.length (is128 l) with
 |none=>
  rw [hf] at cix;dsimp only at cix⊢;by_cases h16:16≤l.length
  · rw [if_pos h16];have f2:(16≤(l.length:Int))=True:=eq_true (by omega)
    refine q3d rfl rfl ?_;refine z0B fi24 (q0r mixed 600 _ ?_);simp (maxSteps:=3000000) only [ir24,f1,go_sem,↓zA,↓reduceIte,↓reduceDIte] <;>try simp only [zB]
    refine callZ cix ?_;refine gy1 f2 ?_;trivial
  rw [if_neg h16];have f2:(16≤(l.length:Int))=False:=eq_false (by omega)
  refine q3d rfl rfl ?_;refine z0B fi24 (q0r mixed 600 _ ?_);simp (maxSteps:=3000000) only [ir24,f1,go_sem,↓zA,↓reduceIte,↓reduceDIte] <;>try simp only [zB]
  refine callZ cix ?_;refine gy1 f2 ?_;refine q3o 7 PreT (fun i=>List.take i l) (fun i=>[(25,rI i)]) l.length (fun _=>True) rfl (by simp) (by simp) rfl (fun i=>rfl) ?_ fun i hi _=> ?_
  · with_reducible refine sxE ?_;trivial
  have hwr:=wsx i (by omega)
  refine uQ 7 _ ?_;with_reducible refine sxE ?_
  refine ⟨fun hlt=> ?_,fun hge=> ?_⟩
  · rcases hA1 with h0| ⟨b1,o1,rfl,hat⟩
    · exfalso;rw [h0] at hlt;simp at hlt
    refine gQ ?_;refine ⟨⟨by omega,hlt⟩,zldF (hat i (l.getD i PreT.dflt) (by rw [Ad,Ab hlt];rfl)) fun vs hvs=> ?_⟩
    obtain ⟨A',n',c',rfl,h1'⟩:=q8Y hvs;have hxl:=hx _ (q0O (d:=PreT.dflt) hlt);refine uQ 3 _ ?_;with_reducible refine sxE ?_
    refine q1T [999999,1] mixed ?_;refine uQ 5 _ ?_;with_reducible refine sxE ?_
    have hst:l.take (i+1)=l.take i++ [l.getD i PreT.dflt]:=q0Y hlt;have hlen:(l.take i).length=i:=by simp;omega
    refine z2z (t':=.u8) id rfl (fun z us h I w=>h) rfl rfl h1' (by omega) (fun h hh=>by rw [BJ.1 (show h∈ [1] from hh)];exact .inl (show 1<2 by decide)) ?_
    rw [CY];refine gQ ?_;refine ⟨rfl,⟨by omega,by omega⟩,q2a [_,_,_,_,_] [] hlt trivial (by rw [hst];rfl) ?_⟩
    with_reducible refine sx3 hwr hst ?_;trivial
  obtain rfl:i=l.length:=by omega
  refine uQ 3 _ ?_;with_reducible refine sxE ?_
  refine z3N (t':=.u8) id rfl (fun z us h I w=>h) rfl rfl h2 (by omega) ?_
  rw [CY];with_reducible refine sxE ?_
  refine q1i 2 rfl rfl (by omega) ?_ ?_ ?_
  · (with_reducible refine sxE ?_<;>try exact True.intro)
    all_goals exact Ae _
  · (with_reducible refine sxE ?_<;>try exact True.intro)
    all_goals exact Ae _
  with_reducible refine sxE ?_
  rw [Az];refine gQ ?_;rw [Az,Ah (by simp)]
  exact ⟨⟨by omega,by omega⟩,⟨Ae _,by omega⟩,rfl⟩
 |some i=>
  rw [hf] at cix;dsimp only at cix⊢;obtain ⟨hlti,_⟩:=q6F hf;have f2:((i:Int) <0)=False:=eq_false (by omega)
  have f3:=f2;refine q3d rfl rfl ?_;refine z0B fi24 (q0r mixed 600 _ ?_);simp (maxSteps:=3000000) only [ir24,f1,go_sem,↓zA,↓reduceIte,↓reduceDIte] <;>try simp only [zB]
  refine callZ cix ?_;refine gy1 f2 ?_;refine q3o 7 PreT (fun m=>List.take m l) (fun m=>[(25,rI m)]) l.length (fun _=>True) rfl (by simp) (by simp) rfl (fun m=>rfl) ?_ fun m hi _=> ?_
  · with_reducible refine sxE ?_;trivial
  have hwr:=wsx m (by omega)
  refine uQ 7 _ ?_;with_reducible refine sxE ?_
  refine ⟨fun hlt=> ?_,fun hge=> ?_⟩
  · rcases hA1 with h0| ⟨b1,o1,rfl,hat⟩
    · exfalso;rw [h0] at hlt;simp at hlt
    refine gQ ?_;refine ⟨⟨by omega,hlt⟩,zldF (hat m (l.getD m PreT.dflt) (by rw [Ad,Ab hlt];rfl)) fun vs hvs=> ?_⟩
    obtain ⟨A',n',c',rfl,h1'⟩:=q8Y hvs;have hxl:=hx _ (q0O (d:=PreT.dflt) hlt);refine uQ 3 _ ?_;with_reducible refine sxE ?_
    refine q1T [999999,1] mixed ?_;refine uQ 5 _ ?_;with_reducible refine sxE ?_
    have hst:l.take (m+1)=l.take m++ [l.getD m PreT.dflt]:=q0Y hlt;have hlen:(l.take m).length=m:=by simp;omega
    refine z2z (t':=.u8) id rfl (fun z us h I w=>h) rfl rfl h1' (by omega) (fun h hh=>by rw [BJ.1 (show h∈ [1] from hh)];exact .inl (show 1<2 by decide)) ?_
    rw [CY];refine gQ ?_;refine ⟨rfl,⟨by omega,by omega⟩,q2a [_,_,_,_,_] [] hlt trivial (by rw [hst];rfl) ?_⟩
    with_reducible refine sx3 hwr hst ?_;trivial
  obtain rfl:m=l.length:=by omega
  refine uQ 3 _ ?_;with_reducible refine sxE ?_
  refine z3N (t':=.u8) id rfl (fun z us h I w=>h) rfl rfl h2 (by omega) ?_
  rw [CY];with_reducible refine sxE ?_
  refine q1i 2 rfl rfl (by omega) ?_ ?_ ?_
  · (with_reducible refine sxE ?_<;>try exact True.intro)
    all_goals exact Ae _
  · (with_reducible refine sxE ?_<;>try exact True.intro)
    all_goals exact Ae _
  with_reducible refine sxE ?_
  rw [Az];refine gy1 f3 ?_;rw [Ac,Az];refine ⟨⟨by omega,hlti⟩,hlti,⟨by rw [A4];exact Ae _,by rw [A4];omega⟩,?_⟩
  rw [Ah (by rw [A4];exact Ae _)]
end Go.Proofs.YtmapiojgmbgbgaaGreatDoor

namespace Go.Proofs.YtmapiojgmbgbgaaGreatDoor
open Go Go.Sx Go.Proofs
set_option maxRecDepth 100000
set_option maxHeartbeats 40000000
theorem j2v(l:List Pre)(ho:(Ty.slice PreT).ok l)(hs:∀x∈l,x.2.length≤1048576):VC Tryz.prog 29 [.isl PreT l] [] (RowT .u8 (findD l).1 (.bool (findD l).2)):=by
 have hl:=ho.1;generalize hR:findD l=R;refine z6r ?_;refine rQ fi29 ?_;refine q0Q (fun i=>[(8,.raw (.int .i64 ((i:Nat):Int)))]) (l.length) (fun j=>(fun j=> !is128 l j) j=true) (by first|decide|simp) (fun i=>rfl) ?_ fun i hi hall=> ?_
 · (with_reducible refine sxE ?_<;>try exact True.intro)
   all_goals (try rfl)
 have hwr:=wsx i (by omega)
 refine gQ ?_;have bad:i< (l.length)→(fun j=> !is128 l j) i=false→allN (l.length) (fun j=> !is128 l j)=false:=fun hlt hv=>q0l hlt hv;have fin:¬i< (l.length)→allN (l.length) (fun j=> !is128 l j)=true:=fun h=>q0q fun j hj=>hall j (by omega)
 try dsimp only at bad fin hall
 have hall':∀j,j<i→is128 l j=false:=fun j hj=>by simpa using hall j hj
 refine ⟨fun hlt=>⟨⟨by omega,hlt⟩,fun h=> ?_,fun h=>⟨hlt,q0I hall' (by simpa [is128] using h),⟨[_],rfl⟩,?_⟩⟩,fun hge=> ?_⟩
 · have hle:=hs _ (q0O (d:=PreT.dflt) hlt);have hR':R=((l.getD i PreT.dflt).2,true):=by
    rw [←hR];unfold findD;rw [q1Z hlt (by simpa [is128] using h) hall']
   subst hR';refine ⟨⟨by omega,by omega⟩,?_⟩
   exact z9J (h:=1) rfl (by simp)
 · with_reducible refine sx1 hwr ?_;trivial
 have hR':R=([],false):=by
  rw [←hR];unfold findD;rw [q2x (fun j hj=>hall' j (by omega))]
 subst hR';exact z9U rfl
theorem q3u(e:Int):PC Tryz.prog 17 [rI e] (rI e):=by
 refine q0w rfl rfl ?_;refine rQ fi17 ?_;trivial
theorem j0p(c:UInt8)(n:Nat)(hn:n≤1048576):PC Tryz.prog 25 [.raw (.int .u8 c.toNat),rI n] (.isl .u8 (List.replicate n c)):=by
 refine q0u rfl rfl ?_;refine rQ fi25 ?_;refine q3o 5 .u8 (fun i=>List.replicate i c) (fun i=>[(6,rI i)]) n (fun _=>True) rfl (by simp) (by simp) rfl (fun i=>rfl) ?_ fun i hi _=> ?_
 · with_reducible refine sxE ?_;trivial
 have hwr:=wsx i (by omega)
 have hl:(List.replicate i c).length=i:=BM;refine gy1 hl ?_;refine ⟨fun hlt=> ?_,fun hge=> ?_⟩
 · have hst:List.replicate (i+1) c=List.replicate i c++ [c]:=CA;refine ⟨by rw [CP],⟨by omega,by omega⟩,q2a [_,_] [] hlt trivial (by rw [hst,CP];rfl) ?_⟩
   simp (maxSteps:=3000000) only [hwr,hl,BM,go_sem,↓zA,↓reduceIte,↓reduceDIte] <;>try simp only [zB]
 obtain rfl:i=n:=by omega
 refine ⟨⟨Ae _,by omega⟩,Ah (by omega)⟩
def strAt(l:List ByteArray)(j:Nat):Bool:=decide ((l.getD j ByteArray.empty).size≤40)
def shortB(p:Prin):Bool:=allN p.1.length (strAt p.1) && (decide ((p.1.length:Int)≤6) && decide ((p.2.size:Int)≤40))
theorem q9g(p:Prin)(ho:PrinT.ok p):PC Tryz.prog 26 [.agg (PrinT.cells p)] (rB (shortB p)):=by
 obtain ⟨l,r⟩:=p;have hl:l.length≤1125899906842624:=ho.1.1;have hd:shortB (l,r)=(allN l.length (strAt l) && (decide ((l.length:Int)≤6) && decide ((r.size:Int)≤40))):=rfl;rw [hd];refine q0w rfl rfl ?_;refine rQ fi26 ?_;refine q0Q (fun i=>[(3,.raw (.int .i64 ((i:Nat):Int)))]) (l.length) (fun j=>(strAt l) j=true) (by first|decide|simp) (fun i=>rfl) ?_ fun i hi hall=> ?_
 · (with_reducible refine sxE ?_<;>try exact True.intro)
   all_goals (try rfl)
 have hwr:=wsx i (by omega)
 refine gQ ?_;have bad:i< (l.length)→(strAt l) i=false→allN (l.length) (strAt l)=false:=fun hlt hv=>q0l hlt hv;have fin:¬i< (l.length)→allN (l.length) (strAt l)=true:=fun h=>q0q fun j hj=>hall j (by omega)
 try dsimp only at bad fin hall
 have hsd:strAt l i=decide ((l.getD i ByteArray.empty).size≤40):=rfl;refine ⟨fun hlt=>⟨⟨by omega,hlt⟩,fun h=> ?_,fun h=>⟨hlt,q0I hall ?_,⟨[],rfl⟩,?_⟩⟩,fun hge=> ?_⟩
 · rw [bad hlt (by rw [hsd];exact decide_eq_false (show ¬(l.getD i ByteArray.empty).size≤40 from fun h2=>by have h:40< (((l.getD i ByteArray.empty).size:Nat):Int):=h;omega)),AR]
 · rw [hsd];exact decide_eq_true (show (l.getD i ByteArray.empty).size≤40 from Nat.le_of_not_lt fun h2=>h (show (40:Int) < (((l.getD i ByteArray.empty).size:Nat):Int) by omega))
 · with_reducible refine sx1 hwr ?_;trivial
 rw [fin hge,AE];exact ⟨fun h=>by rw [decide_eq_true h,AE],fun h=>by rw [decide_eq_false h,AR]⟩
def viaAt(l:List Prin)(j:Nat):Bool:=shortB (l.getD j PrinT.dflt)
def smallP(p:Pac):Bool:=allN p.2.2.2.2.length (viaAt p.2.2.2.2) && (shortB p.1&& (decide ((p.2.2.2.1.length:Int)≤70) && decide ((p.2.2.2.2.length:Int)≤20)))
theorem z8i(p:Pac)(ho:PacT.ok p):PC Tryz.prog 9 [.agg (PacT.cells p)] (rB (smallP p)):=by
 obtain ⟨c,a,u,g,w⟩:=p;obtain ⟨o1,_,_,o4,o5⟩:=ho;have hd:smallP (c,a,u,g,w)=(allN w.length (viaAt w) && (shortB c&& (decide ((g.length:Int)≤70) && decide ((w.length:Int)≤20)))):=rfl;rw [hd];have hwl:List.length w≤1125899906842624:=o5.1;refine q0w rfl rfl ?_;refine rQ fi9 ?_;refine q0Q (fun i=>[(3,.raw (.int .i64 ((i:Nat):Int)))]) (List.length w) (fun j=>(viaAt w) j=true) (by first|decide|simp) (fun i=>rfl) ?_ fun i hi hall=> ?_
 · (with_reducible refine sxE ?_<;>try exact True.intro)
   all_goals (try rfl)
 have hwr:=wsx i (by omega)
 refine gQ ?_;have bad:i< (List.length w)→(viaAt w) i=false→allN (List.length w) (viaAt w)=false:=fun hlt hv=>q0l hlt hv;have fin:¬i< (List.length w)→allN (List.length w) (viaAt w)=true:=fun h=>q0q fun j hj=>hall j (by omega)
 try dsimp only at bad fin hall
 have hsd:viaAt w i=shortB (w.getD i PrinT.dflt):=rfl;refine ⟨fun hlt=>⟨⟨by omega,hlt⟩,q0a (q9g (w.getD i PrinT.dflt) (o5.2 _ (q0O hlt))) ?_⟩,fun hge=> ?_⟩
 · cases hk:shortB (w.getD i PrinT.dflt) with
   |true=>
    refine gQ ?_;refine ⟨hlt,q0I hall (hsd.trans hk),⟨[],rfl⟩,?_⟩;with_reducible refine sx1 hwr ?_;trivial
   |false=>
    refine gQ ?_;rw [bad hlt (hsd.trans hk),AR]
 rw [fin hge,AE];refine q0a (q9g c o1) ?_;cases shortB c with
 |true=>
  refine gQ ?_;exact ⟨fun h=>by rw [decide_eq_true h,AE],fun h=>by rw [decide_eq_false h,AR]⟩
 |false=>
  refine gQ ?_;trivial
theorem z9A(k:Key)(u:Nat)(x:List UInt8):fitK k (sigK k u x)=true:=by simp [fitK,sigK]
theorem q5P(k:Key)(u:Nat)(x:List UInt8):rightB k u x (sigK k u x)=true:=by
 unfold rightB;rw [z9A];simp [sigK]
theorem q8k{k:Key}(u:Nat)(x:List UInt8)(s:Key)(h:noK k=true):rightB k u x s=true:=by
 unfold rightB;rw [h,CI]
theorem q9A{p:Pac}{s r s' r':Key}(hv:vPac p=true)(hs:vKey s=true)(hr:vKey r=true)(h1:s'=s∨noK s'=true)(h2:r'=r∨noK r'=true):vfyS (sgnS (signX p s r)) s' r'=(p,0):=by
 have a1:argK s'=true:=by
  unfold argK;rcases h1 with rfl|h
  · rw [hs,B8]
  rw [h,CI]
 have a2:argK r'=true:=by
  unfold argK;rcases h2 with rfl|h
  · rw [hr,B8]
  rw [h,CI]
 have hX:signX p s r=(p,sigK s 17 (pacS p),sigK r 18 (smS s 17 (pacS p))):=rfl;unfold vfyS;rw [a1,a2,BA,if_pos rfl,z3w (z2r hv hs hr),hX];dsimp only;have e1:rightB s' 17 (pacS p) (sigK s 17 (pacS p))=true:=by
  rcases h1 with rfl|h
  · exact q5P _ _ _
  exact q8k _ _ _ h
 have e2:rightB r' 18 (sigK s 17 (pacS p)).2.2 (sigK r 18 (smS s 17 (pacS p)))=true:=by
  rcases h2 with rfl|h
  · exact q5P _ _ _
  exact q8k _ _ _ h
 rw [e1,if_pos rfl,e2,if_pos rfl]
def cliK:Prin:=([⟨#[97]⟩],⟨#[82]⟩)
def pK:Pac:=(cliK,10,1000,[5,7],[])
def r16(c:UInt8):List UInt8:=List.replicate 16 c
def sK:Key:=(1,1,r16 1)
def rK:Key:=(1,4,r16 2)
theorem vpK:vPac pK=true:=by kernel_rfl
theorem vsK:vKey sK=true:=by decide
theorem vrK:vKey rK=true:=by decide
theorem lpK:(pacS pK).length=44:=by kernel_rfl
def m16(f:Nat→UInt8):List UInt8:=(List.range 16).map f
theorem z6H{l:List UInt8}(h:l.length=16):l=m16 (fun i=>l.getD i 0):=by
 unfold m16;apply AP
 · simp [h]
 intro i h1 h2;simp [Ab h1]
theorem lsgn(f g:Nat→UInt8):(sgnS (pK,(1,1,m16 f),(1,4,m16 g))).length=116:=by kernel_rfl
def cK:List UInt8:=sgnS (signX pK sK rK)
theorem lcK:cK.length=116:=by
 have h1:=q5J sK 17 (pacS pK) (by decide)
 have h2:=q5J rK 18 (smS sK 17 (pacS pK)) (by decide)
 have e:signX pK sK rK=(pK,(1,1,smS sK 17 (pacS pK)),(1,4,smS rK 18 (smS sK 17 (pacS pK)))):=rfl;unfold cK;rw [e,z6H (l:=smS sK 17 (pacS pK)) h1];rw [z6H (l:=smS rK 18 _) (by rw [z6H (l:=smS sK 17 (pacS pK)) h1] at h2;exact h2)]
 exact lsgn _ _
theorem sgK:signS pK sK rK=(cK,0):=by
 have h:=lcK;unfold signS;rw [vpK,vsK,vrK,BA,BA,if_pos rfl,if_neg (by rw [show (sgnS (signX pK sK rK)).length=116 from h];decide)]
 rfl
theorem vf1:vfyS cK sK rK=(pK,0):=q9A vpK vsK vrK (.inl rfl) (.inl rfl)
theorem vf2:vfyS cK sK KeyT.dflt=(pK,0):=q9A vpK vsK vrK (.inl rfl) (.inr rfl)
theorem vf3:vfyS cK KeyT.dflt rK=(pK,0):=q9A vpK vsK vrK (.inr rfl) (.inl rfl)
theorem z0e{p:Pac}{s r s' r':Key}{e:Int}(hv:vPac p=true)(hs:vKey s=true)(hr:vKey r=true)(h1:vKey s'=true)(h2:vKey r'=true)(n1:noK s'=false)(n2:noK r'=false)
 (hw:(e=230∧fitK s' (sigK s 17 (pacS p))=false)∨(e=231∧s'=s∧fitK r' (sigK r 18 (smS s 17 (pacS p)))=false)):vfyS (sgnS (signX p s r)) s' r'=(PacT.dflt,e):=by
 have hX:signX p s r=(p,sigK s 17 (pacS p),sigK r 18 (smS s 17 (pacS p))):=rfl;have a1:argK s'=true:=by unfold argK;rw [h1,B8]
 have a2:argK r'=true:=by unfold argK;rw [h2,B8]
 unfold vfyS;rw [a1,a2,BA,if_pos rfl,z3w (z2r hv hs hr),hX];dsimp only;rcases hw with ⟨rfl,h⟩ | ⟨rfl,rfl,h⟩
 · rw [show rightB s' 17 (pacS p) (sigK s 17 (pacS p))=false by unfold rightB;rw [n1,h];rfl,if_neg (by decide)]
 rw [q5P,if_pos rfl,show rightB r' 18 (sigK s' 17 (pacS p)).2.2 (sigK r 18 (smS s' 17 (pacS p)))=false by unfold rightB;rw [n2,h];rfl,if_neg (by decide)]
theorem vf4:vfyS cK rK rK=(PacT.dflt,230):=z0e vpK vsK vrK vrK vrK (by decide) (by decide) (.inl ⟨rfl,rfl⟩)
theorem vf5:vfyS cK sK sK=(PacT.dflt,231):=z0e vpK vsK vrK vsK vsK (by decide) (by decide) (.inr ⟨rfl,rfl,rfl⟩)
theorem vf6:vfyS [48,0] sK rK=(PacT.dflt,6):=by
 have h:decSg [48,0]=none:=by kernel_rfl
 unfold vfyS;rw [show argK sK=true by decide,show argK rK=true by decide,BA,if_pos rfl,h]
theorem okpK:PacT.ok pK:=by
 refine ⟨⟨⟨by decide,fun s hs=> ?_⟩,show (1:Nat)≤_ by decide⟩,trivial,trivial,⟨by decide,fun _ _=>trivial⟩,z2K⟩
 rw [BJ.1 hs];show (1:Nat)≤_;decide
theorem okK16(v:Int)(c:UInt8):KeyT.ok ((1,v,r16 c):Key):=⟨trivial,trivial,⟨by show (List.replicate 16 c).length≤_;simp,fun _ _=>trivial⟩⟩
theorem okK0:KeyT.ok KeyT.dflt:=⟨trivial,trivial,z2K⟩
theorem z8f:PC Tryz.prog 12 [] (rB true):=by
 have ce:=z8Q pK okpK;rw [vpK,if_pos rfl,if_pos rfl] at ce;have cs:=z7R pK sK rK okpK (okK16 1 1) (okK16 4 2);rw [sgK] at cs;have v1:=q4d cK sK rK (by rw [lcK];decide) (okK16 1 1) (okK16 4 2)
 rw [vf1] at v1;have v2:=q4d cK sK KeyT.dflt (by rw [lcK];decide) (okK16 1 1) okK0
 rw [vf2] at v2;have v3:=q4d cK KeyT.dflt rK (by rw [lcK];decide) okK0 (okK16 4 2)
 rw [vf3] at v3;have v4:=q4d cK rK rK (by rw [lcK];decide) (okK16 4 2) (okK16 4 2)
 rw [vf4] at v4;have v5:=q4d cK sK sK (by rw [lcK];decide) (okK16 1 1) (okK16 1 1)
 rw [vf5] at v5;have v6:=q4d [48,0] sK rK (by decide) (okK16 1 1) (okK16 4 2)
 rw [vf6] at v6;have b1:=q6R pK cliK 10 okpK okpK.1;have b2:=q6R pK cliK 11 okpK okpK.1;rw [show bindS pK cliK 10=0 by kernel_rfl] at b1
 rw [show bindS pK cliK 11=232 by kernel_rfl] at b2
 have m7:=z3m pK 7 okpK;have m6:=z3m pK 6 okpK;rw [show (decide ((7:Int)∈pK.2.2.2.1))=true from by decide] at m7
 rw [show (decide ((6:Int)∈pK.2.2.2.1))=false from by decide] at m6
 have hs:=z4o pK pK okpK;rw [decide_eq_true rfl] at hs;have l1:=lpK;have l2:=lcK;have l1i:((pacS pK).length:Int)=44:=by omega
 have l2i:(cK.length:Int)=116:=by omega
 generalize pacS pK=bb at*;generalize cK=cc at*;refine q0w rfl rfl ?_;refine q4s fi12 ?_;refine gQ ?_;refine ⟨by decide,q0a (j0p 1 16 (by decide)) ?_⟩
 with_reducible refine sxE ?_
 refine q1i 2 rfl rfl (by simp) ?_ ?_ ?_
 · with_reducible refine sxE ?_;trivial
 · with_reducible refine sxE ?_;trivial
 with_reducible refine sxE ?_
 refine q1i 0 rfl rfl (by simp) ?_ ?_ ?_
 · with_reducible refine sxE ?_;trivial
 · with_reducible refine sxE ?_;trivial
 with_reducible refine sxE ?_
 refine gQ ?_;refine cQ (j0p 2 16 (by decide)) ?_
 refine q0a (ce.arg ?_) ?_
 · simp (maxSteps:=3000000) only [pK,cliK,go_sem,↓zA,↓reduceIte,↓reduceDIte] <;>try simp only [zB]
 refine gQ ?_;refine q0a (cs.arg ?_) ?_
 · simp (maxSteps:=3000000) only [pK,cliK,sK,rK,r16,go_sem,↓zA,↓reduceIte,↓reduceDIte] <;>try simp only [zB]
 refine gQ ?_;refine q0a (v1.arg ?_) ?_
 · simp (maxSteps:=3000000) only [sK,rK,r16,go_sem,↓zA,↓reduceIte,↓reduceDIte] <;>try simp only [zB]
 refine gQ ?_;refine q0a (v2.arg ?_) ?_
 · simp (maxSteps:=3000000) only [sK,rK,r16,go_sem,↓zA,↓reduceIte,↓reduceDIte] <;>try simp only [zB]
   exact ⟨rfl,rfl,rfl⟩
 refine gQ ?_;refine q0a (v3.arg ?_) ?_
 · simp (maxSteps:=3000000) only [sK,rK,r16,go_sem,↓zA,↓reduceIte,↓reduceDIte] <;>try simp only [zB]
   exact ⟨rfl,rfl,rfl⟩
 refine gQ ?_;refine q0a (v4.arg ?_) ?_
 · simp (maxSteps:=3000000) only [sK,rK,r16,go_sem,↓zA,↓reduceIte,↓reduceDIte] <;>try simp only [zB]
 refine gQ ?_;refine q0a (v5.arg ?_) ?_
 · simp (maxSteps:=3000000) only [sK,rK,r16,go_sem,↓zA,↓reduceIte,↓reduceDIte] <;>try simp only [zB]
 refine gQ ?_;refine ⟨⟨rfl,rfl⟩,q0A 12 ?_⟩;with_reducible refine sxE ?_
 refine q0a (v6.arg ?_) ?_
 · simp (maxSteps:=3000000) only [sK,rK,r16,go_sem,↓zA,↓reduceIte,↓reduceDIte] <;>try simp only [zB]
   rfl
 have hw00:IntKind.i64.wrap (0+0)=0:=by decide
 refine gQ ?_;refine cQ (q3u _) ?_;refine cy1 (q3u _) hw00 ?_;refine cy1 (q3u _) hw00 ?_;refine cy1 (q3u _) hw00 ?_;refine q0a (q3u _) ?_;refine gy3 hw00 l1i l2i ?_;refine cQ (q3u _) ?_;refine cQ (q3u _) ?_;refine cQ (q3u _) ?_;refine q0a (hs.arg ?_) ?_
 · simp (maxSteps:=3000000) only [pK,cliK,go_sem,↓zA,↓reduceIte,↓reduceDIte] <;>try simp only [zB]
 refine gQ ?_;refine q0a (hs.arg ?_) ?_
 · simp (maxSteps:=3000000) only [pK,cliK,go_sem,↓zA,↓reduceIte,↓reduceDIte] <;>try simp only [zB]
 refine gQ ?_;refine q0a (hs.arg ?_) ?_
 · simp (maxSteps:=3000000) only [pK,cliK,go_sem,↓zA,↓reduceIte,↓reduceDIte] <;>try simp only [zB]
 refine gQ ?_;refine q0a (b1.arg ?_) ?_
 · simp (maxSteps:=3000000) only [pK,cliK,go_sem,↓zA,↓reduceIte,↓reduceDIte] <;>try simp only [zB]
 refine gQ ?_;refine cQ (q3u _) ?_;refine q0a (b2.arg ?_) ?_
 · simp (maxSteps:=3000000) only [pK,cliK,go_sem,↓zA,↓reduceIte,↓reduceDIte] <;>try simp only [zB]
 refine gQ ?_;refine cQ (q3u _) ?_;refine q0a (m7.arg ?_) ?_
 · simp (maxSteps:=3000000) only [pK,cliK,go_sem,↓zA,↓reduceIte,↓reduceDIte] <;>try simp only [zB]
 refine gQ ?_;refine q0a (m6.arg ?_) ?_
 · simp (maxSteps:=3000000) only [pK,cliK,go_sem,↓zA,↓reduceIte,↓reduceDIte] <;>try simp only [zB]
 refine gQ ?_;trivial
end Go.Proofs.YtmapiojgmbgbgaaGreatDoor
namespace Go.Sx
open Go
variable {P:Program} {AQ:Ex→List SV→List SObj→Prop} {k0:Nat} {H:List SObj}

theorem z1b{C:Cx}{f:FuncId}{t1 t2 ty:Ty}{xs:List t1.den}{ys:List t2.den}{zs:List ty.den}{e:Int}{v1 v2:Value}(hflat:(datList.all fun e=>e.2.1.flat)=true)(htab:TabT C H)(hw:Wd C H)(h1:Sl C.I C.w t1 xs v1)(h2:Sl C.I C.w t2 ys v2)
 (hp:∀ (q:Nat→Prop) (w0:World) (u1 u2:Value),Sl q w0 t1 xs u1→Sl q w0 t2 ys u2→PCZ q w0 P f [.raw u1,.raw u2] (.tup [.isl ty zs,.raw (.int .i64 e)])):
 Calls P f #[v1,v2] C.w fun ex w'=>∃ (q:Nat→Prop) (v:Value),ex= .returned (.tuple #[v,.int .i64 e])∧Sl q w' ty zs v∧(∀b,q b→C.w.heap.size≤b∧b<w'.heap.size∧Unf w' b)∧Wd {C with w:=w'} H∧Ext ⟨C,H⟩ {C with w:=w'} H:=by
 let C0:Cx:={C with I:=fun _=>False,n:=0}
 have hw0:Wd C0 []:=⟨rfl,fun h o ho=>by simp at ho,fun b ⟨h,o,ho,_⟩=>by simp at ho,fun h h' o o' b ho=>by simp at ho,fun b hb=>hb.elim⟩
 have hz:ZInv C.I C.w C0 []:=fun b hb=>⟨hw.imm b hb,fun h=>h,fun ⟨h,o,ho,_⟩=>by simp at ho,rfl⟩
 have h3:=(hp C.I C.w v1 v2 h1 h2).2 [] (fun o H'=>o= .ret (.tup [.isl ty zs,.raw (.int .i64 e)])∧H'= []) ⟨rfl,rfl⟩ C0 [v1,v2] hw0 (htab.flat hflat rfl fun b x=>absurd x q8I) hz (q0c.2 ⟨_,_,rfl,by rw [SV.den],q0c.2 ⟨_,[],rfl,by rw [SV.den],q0p.2 rfl⟩⟩)
 refine h3.mono ?_;rintro ex w' ⟨o,H',C',⟨rfl,rfl⟩,rfl,hw',hx,v,rfl,hd⟩;rw [SV.den] at hd;obtain ⟨vs,rfl,hd⟩:=hd;obtain ⟨a,us,rfl,d1,hd⟩:=q0c.1 hd;obtain ⟨b,us',rfl,d2,hd⟩:=q0c.1 hd;rw [q0p] at hd;subst hd;simp only [SV.den] at d1 d2;subst d2;have hold:∀b,b<C.w.heap.size→C'.w.heap[b]?=C.w.heap[b]?:=fun b hb=>hx.frame b hb (fun ⟨h,o,ho,_⟩=>by simp at ho)
 obtain ⟨g1,g2⟩:=z6f hw hx.size hold hx.os hx.tape hx.output;refine ⟨C'.I,a,rfl,d1,fun b hb=> ?_,g1,g2⟩;rcases hx.immNew b hb with h2| ⟨h2| ⟨h,o,ho,_⟩,h3⟩
 · exact h2.elim
 · exact ⟨h2,hw'.imm b hb,h3⟩
 simp at ho
end Go.Sx
