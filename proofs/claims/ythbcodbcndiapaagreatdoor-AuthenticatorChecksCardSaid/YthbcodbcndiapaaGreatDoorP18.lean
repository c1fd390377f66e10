/- Authenticators: what is valid, their check, their order. -/
import Derived.Test.YthbcodbcndiapaaGreatDoorP17
set_option linter.all false
namespace Go.Proofs.YthbcodbcndiapaaGreatDoor
open Go Go.Sx Go.Proofs
set_option maxRecDepth 100000
set_option maxHeartbeats 40000000
abbrev AutT:Ty:=.prod PrinT (.prod (.slice .u8) (.prod I64 (.prod I64 (.prod KeyT (.prod I64 (.slice PreT))))))
abbrev Aut:=AutT.den
def z0G(v:Int):PC Tryz.prog 44 [rI v] (rB (vTime v)):=by refine q0q rfl rfl ?_;refine rQ fi44 ?_;grind [vTime,mIn]
def nKey:Key:=((0:Int),(0:Int),[])
def j4z(k:Key):PC Tryz.prog 45 [.agg (KeyT.cells k)] (rB (decide (k=nKey))):=by
 have h:=j0Y k nKey;refine q0q rfl rfl ?_;refine rQ fi45 ?_;refine q0a (h.arg ?_) ?_
 . simp (maxSteps:=3000000) only [nKey,go_sem,↓zA,↓reduceIte,↓reduceDIte] <;>try simp only [zB]
 refine gQ ?_;trivial
def datAt(l:List Pre)(j:Nat):Bool:=mIn 0 2147483647 (l.getD j PreT.dflt).1&& decide (((l.getD j PreT.dflt).2.length:Int)<=4096)
def vDat(l:List Pre):Bool:=allN l.length (datAt l) && decide ((l.length:Int)<=16)
theorem j0i(l:List Pre)(ho:(Ty.slice PreT).ok l):PC Tryz.prog 47 [.isl PreT l] (rB (vDat l)):=by
 have hl:=ho.1;refine q0q rfl rfl ?_;refine rQ fi47 ?_;refine q1u (fun i=>[(7,.raw (.int .i64 ((i:Nat):Int)))]) (l.length) (fun j=>(datAt l) j=true) (by first|decide|simp) (fun i=>rfl) ?_ fun i hi hall=> ?_
 . (with_reducible refine sxE ?_<;>try exact True.intro)
   all_goals (try rfl)
 have hwr:=wsx i (by omega);refine gQ ?_;have bad:i< (l.length)->(datAt l) i=false->allN (l.length) (datAt l)=false:=fun hlt hv=>q0v hlt hv;have fin:¬i< (l.length)->allN (l.length) (datAt l)=true:=fun h=>q0C fun j hj=>hall j (by omega);try dsimp only at bad fin hall
 have hd:datAt l i=(mIn 0 2147483647 (l.getD i PreT.dflt).1&& decide (((l.getD i PreT.dflt).2.length:Int)<=4096)):=rfl;have hv:i<l.length->datAt l i=false->false=vDat l:=fun hlt h=>by unfold vDat;rw [bad hlt h];rfl
 refine ⟨fun hlt=>⟨⟨by omega,hlt⟩,⟨fun h1=>⟨fun h2=>⟨fun h3=> ?_,fun h3=>⟨hlt,q1i hall ?_,⟨[_],rfl⟩,?_⟩⟩,fun h2=> ?_⟩,fun h1=> ?_⟩⟩,fun hge=> ?_⟩
 . exact hv hlt (by rw [hd,decide_eq_false (by omega),CT])
 . rw [hd,decide_eq_true (by omega),Cp];unfold mIn;rw [decide_eq_true (by omega),decide_eq_true (by omega)];rfl
 . with_reducible refine sx1 hwr ?_;trivial
 . exact hv hlt (by rw [hd];unfold mIn;rw [decide_eq_false (Dj.2 h2)];simp)
 . exact hv hlt (by rw [hd];unfold mIn;rw [decide_eq_false (Dj.2 h1)];simp)
 unfold vDat;rw [fin hge];rfl
def vSub(k:Key):Bool:=decide (k=nKey) || (vKey k&& decide (k.2.1=0))
def vAut(a:Aut):Bool:=vPrin a.1&& (decide ((a.2.1.length:Int)<=64) && (vTime a.2.2.1&& (mIn 0 999999 a.2.2.2.1&& (vSub a.2.2.2.2.1&& (mIn 0 4294967295 a.2.2.2.2.2.1&& vDat a.2.2.2.2.2.2)))))
theorem q9n(a:Aut)(ho:AutT.ok a):PC Tryz.prog 11 [.agg (AutT.cells a)] (rB (vAut a)):=by
 obtain ⟨c,s,t,m,k,q,d⟩:=a;have c1:=q6M c ho.1;have c2:=z0G t;have c3:=j4z k;have c4:=j1B k;have c5:=j0i d ho.2.2.2.2.2.2;have hk:vSub k=(decide (k=nKey) || (vKey k&& decide (k.2.1=0))):=rfl;unfold vAut;dsimp only;rw [hk];clear hk;generalize vPrin c=x1 at*;generalize vTime t=x2 at*;generalize decide (k=nKey)=x3 at*;generalize vKey k=x4 at*;generalize vDat d=x5 at*;refine q0q rfl rfl ?_;refine rQ fi11 ?_<;>try with_reducible exact True.intro
 repeat' (first
  | (refine q0a (c1) ?_;refine uQ 600 _ ?_;simp (maxSteps:=3000000) only [go_sem,↓zA,↓reduceIte,↓reduceDIte] <;>try simp only [zB])
  | (refine q0c (c1) ?_;refine uQ 600 _ ?_;simp (maxSteps:=3000000) only [go_sem,↓zA,↓reduceIte,↓reduceDIte] <;>try simp only [zB])
  | (refine q0e (c1) ?_;refine uQ 600 _ ?_;simp (maxSteps:=3000000) only [go_sem,↓zA,↓reduceIte,↓reduceDIte] <;>try simp only [zB])
  | (refine q0a (c2) ?_;refine uQ 600 _ ?_;simp (maxSteps:=3000000) only [go_sem,↓zA,↓reduceIte,↓reduceDIte] <;>try simp only [zB])
  | (refine q0c (c2) ?_;refine uQ 600 _ ?_;simp (maxSteps:=3000000) only [go_sem,↓zA,↓reduceIte,↓reduceDIte] <;>try simp only [zB])
  | (refine q0e (c2) ?_;refine uQ 600 _ ?_;simp (maxSteps:=3000000) only [go_sem,↓zA,↓reduceIte,↓reduceDIte] <;>try simp only [zB])
  | (refine q0a (c3) ?_;refine uQ 600 _ ?_;simp (maxSteps:=3000000) only [go_sem,↓zA,↓reduceIte,↓reduceDIte] <;>try simp only [zB])
  | (refine q0c (c3) ?_;refine uQ 600 _ ?_;simp (maxSteps:=3000000) only [go_sem,↓zA,↓reduceIte,↓reduceDIte] <;>try simp only [zB])
  | (refine q0e (c3) ?_;refine uQ 600 _ ?_;simp (maxSteps:=3000000) only [go_sem,↓zA,↓reduceIte,↓reduceDIte] <;>try simp only [zB])
  | (refine q0a (c4) ?_;refine uQ 600 _ ?_;simp (maxSteps:=3000000) only [go_sem,↓zA,↓reduceIte,↓reduceDIte] <;>try simp only [zB])
  | (refine q0c (c4) ?_;refine uQ 600 _ ?_;simp (maxSteps:=3000000) only [go_sem,↓zA,↓reduceIte,↓reduceDIte] <;>try simp only [zB])
  | (refine q0e (c4) ?_;refine uQ 600 _ ?_;simp (maxSteps:=3000000) only [go_sem,↓zA,↓reduceIte,↓reduceDIte] <;>try simp only [zB])
  | (refine q0a (c5) ?_;refine uQ 600 _ ?_;simp (maxSteps:=3000000) only [go_sem,↓zA,↓reduceIte,↓reduceDIte] <;>try simp only [zB])
  | (refine q0c (c5) ?_;refine uQ 600 _ ?_;simp (maxSteps:=3000000) only [go_sem,↓zA,↓reduceIte,↓reduceDIte] <;>try simp only [zB])
  | (refine q0e (c5) ?_;refine uQ 600 _ ?_;simp (maxSteps:=3000000) only [go_sem,↓zA,↓reduceIte,↓reduceDIte] <;>try simp only [zB])
  | (with_reducible refine And.intro ?_ ?_)
  | (with_reducible intro _))
 all_goals (grind [mIn])
def chkS(a:Aut)(c:Prin)(now skew:Int):Int:=
 if vAut a=true∧vPrin c=true∧vTime now=true∧(0<=skew∧skew<=86400) then
  if a.1=c then if -skew<=a.2.2.1-now∧a.2.2.1-now<=skew then 0 else 181 else 180
 else 2
theorem z3D(a:Aut)(ho:AutT.ok a)(c:Prin)(hc:PrinT.ok c)(now skew:Int):PC Tryz.prog 23 [.agg (AutT.cells a),.agg (PrinT.cells c),rI now,rI skew] (rI (chkS a c now skew)):=by
 have c1:=q9n a ho;have c2:=q6M c hc;have c3:=z0G now;have c4:=z9o a.1 c ho.1;have c5:=j5D a.2.2.1 now skew;have ht:vAut a=true->vTime a.2.2.1=true:=fun h=>by unfold vAut at h;simp only [Am] at h;exact h.2.2.1
 have hw:vAut a=true->vTime now=true->0<=skew->skew<=86400->witB a.2.2.1 now skew=(decide (-skew<=a.2.2.1-now) && decide (a.2.2.1-now<=skew)):=fun h1 h2 h3 h4=>by unfold witB;rw [ht h1,h2];unfold mIn;rw [decide_eq_true h3,decide_eq_true h4];rfl
 unfold chkS;clear ht;generalize vAut a=x1 at*;generalize vPrin c=x2 at*;generalize vTime now=x3 at*;generalize witB a.2.2.1 now skew=x4 at*;obtain ⟨n,s,t,m,k,q,d⟩:=a;dsimp only at*;refine q0q rfl rfl ?_;refine rQ fi23 ?_<;>try with_reducible exact True.intro
 repeat' (first
  | (refine q0a (c1) ?_;refine uQ 600 _ ?_;simp (maxSteps:=3000000) only [go_sem,↓zA,↓reduceIte,↓reduceDIte] <;>try simp only [zB])
  | (refine q0c (c1) ?_;refine uQ 600 _ ?_;simp (maxSteps:=3000000) only [go_sem,↓zA,↓reduceIte,↓reduceDIte] <;>try simp only [zB])
  | (refine q0e (c1) ?_;refine uQ 600 _ ?_;simp (maxSteps:=3000000) only [go_sem,↓zA,↓reduceIte,↓reduceDIte] <;>try simp only [zB])
  | (refine q0a (c2) ?_;refine uQ 600 _ ?_;simp (maxSteps:=3000000) only [go_sem,↓zA,↓reduceIte,↓reduceDIte] <;>try simp only [zB])
  | (refine q0c (c2) ?_;refine uQ 600 _ ?_;simp (maxSteps:=3000000) only [go_sem,↓zA,↓reduceIte,↓reduceDIte] <;>try simp only [zB])
  | (refine q0e (c2) ?_;refine uQ 600 _ ?_;simp (maxSteps:=3000000) only [go_sem,↓zA,↓reduceIte,↓reduceDIte] <;>try simp only [zB])
  | (refine q0a (c3) ?_;refine uQ 600 _ ?_;simp (maxSteps:=3000000) only [go_sem,↓zA,↓reduceIte,↓reduceDIte] <;>try simp only [zB])
  | (refine q0c (c3) ?_;refine uQ 600 _ ?_;simp (maxSteps:=3000000) only [go_sem,↓zA,↓reduceIte,↓reduceDIte] <;>try simp only [zB])
  | (refine q0e (c3) ?_;refine uQ 600 _ ?_;simp (maxSteps:=3000000) only [go_sem,↓zA,↓reduceIte,↓reduceDIte] <;>try simp only [zB])
  | (refine q0a (c4) ?_;refine uQ 600 _ ?_;simp (maxSteps:=3000000) only [go_sem,↓zA,↓reduceIte,↓reduceDIte] <;>try simp only [zB])
  | (refine q0c (c4) ?_;refine uQ 600 _ ?_;simp (maxSteps:=3000000) only [go_sem,↓zA,↓reduceIte,↓reduceDIte] <;>try simp only [zB])
  | (refine q0e (c4) ?_;refine uQ 600 _ ?_;simp (maxSteps:=3000000) only [go_sem,↓zA,↓reduceIte,↓reduceDIte] <;>try simp only [zB])
  | (refine q0a (c5) ?_;refine uQ 600 _ ?_;simp (maxSteps:=3000000) only [go_sem,↓zA,↓reduceIte,↓reduceDIte] <;>try simp only [zB])
  | (refine q0c (c5) ?_;refine uQ 600 _ ?_;simp (maxSteps:=3000000) only [go_sem,↓zA,↓reduceIte,↓reduceDIte] <;>try simp only [zB])
  | (refine q0e (c5) ?_;refine uQ 600 _ ?_;simp (maxSteps:=3000000) only [go_sem,↓zA,↓reduceIte,↓reduceDIte] <;>try simp only [zB])
  | (with_reducible refine And.intro ?_ ?_)
  | (with_reducible intro _))
 all_goals (grind)
theorem j6i(x:Int):PC Tryz.prog 203 [rI x] (rB false):=by refine q0q rfl rfl ?_;refine rQ fi203 ?_;trivial
def cmpI(x y:Int):Int:=if x<y then -1 else if y<x then 1 else 0
def j1J(x y:Int):PC Tryz.prog 175 [rI x,rI y] (rI (cmpI x y)):=by
 have c1:=j6i x;have c2:=j6i y;refine q0q rfl rfl ?_;refine rQ fi175 ?_<;>try with_reducible exact True.intro
 repeat' (first
  | (refine q0a (c1) ?_;refine uQ 600 _ ?_;simp (maxSteps:=3000000) only [go_sem,↓zA,↓reduceIte,↓reduceDIte] <;>try simp only [zB])
  | (refine q0c (c1) ?_;refine uQ 600 _ ?_;simp (maxSteps:=3000000) only [go_sem,↓zA,↓reduceIte,↓reduceDIte] <;>try simp only [zB])
  | (refine q0e (c1) ?_;refine uQ 600 _ ?_;simp (maxSteps:=3000000) only [go_sem,↓zA,↓reduceIte,↓reduceDIte] <;>try simp only [zB])
  | (refine q0a (c2) ?_;refine uQ 600 _ ?_;simp (maxSteps:=3000000) only [go_sem,↓zA,↓reduceIte,↓reduceDIte] <;>try simp only [zB])
  | (refine q0c (c2) ?_;refine uQ 600 _ ?_;simp (maxSteps:=3000000) only [go_sem,↓zA,↓reduceIte,↓reduceDIte] <;>try simp only [zB])
  | (refine q0e (c2) ?_;refine uQ 600 _ ?_;simp (maxSteps:=3000000) only [go_sem,↓zA,↓reduceIte,↓reduceDIte] <;>try simp only [zB])
  | (with_reducible refine And.intro ?_ ?_)
  | (with_reducible intro _))
 all_goals (grind [cmpI])
theorem z6f(a:Aut):PC Tryz.prog 98 [.agg (AutT.cells a)] (rI a.2.2.1):=by obtain ⟨n,s,t,m,k,q,d⟩:=a;refine q0q rfl rfl ?_;refine rQ fi98 ?_;trivial
theorem z7u(a:Aut):PC Tryz.prog 99 [.agg (AutT.cells a)] (rI a.2.2.2.1):=by obtain ⟨n,s,t,m,k,q,d⟩:=a;refine q0q rfl rfl ?_;refine rQ fi99 ?_;trivial
end Go.Proofs.YthbcodbcndiapaaGreatDoor
namespace Go.Sx
open Go

variable {P:Program} {AQ:Ex->List SV->List SObj->Prop} {k0:Nat} {k:List It} {t:List SV} {H:List SObj}


variable {P:Program} {AQ:Ex->List SV->List SObj->Prop} {k0:Nat} {k:List It} {t:List SV} {H:List SObj}

structure C2P where
 f:FuncId
 p:Nat
 d0:Nat
 d1:Nat
 d2:Nat
 d3:Nat
 d4:Nat
 d5:Nat
 T:TypeId
 m:Nat
 zs:List Value
 ty:Ty
 x:ty.den

def needs(o:Oper)(j:Nat):Prop:=∃e∈o.after,Region.binds .any e=true∧e.on=j
structure IsC2 (P:Program) (all:Array Oper) (c:C2P):Prop where
 size:all.size=8
 top:∀ (i:Nat) (o:Oper),all[i]?=some o->∀e∈o.after,e.on<i
 o0:∃o,all[0]?=some o∧o.op= .load c.T (.tmp c.p)∧o.dst=some c.d0∧o.guard=none
 o1:∃o cl,all[1]?=some o∧o.op= .call cl∧cl.callee= .value (.func c.f)∧cl.args= #[.tmp c.d0]∧o.dst=some c.d1∧o.guard=none∧needs o 0
 o2:∃o,all[2]?=some o∧o.op= .load c.T (.tmp c.p)∧o.dst=some c.d2∧o.guard=none
 o3:∃o cl,all[3]?=some o∧o.op= .call cl∧cl.callee= .value (.func c.f)∧cl.args= #[.tmp c.d2]∧o.dst=some c.d3∧o.guard=none∧needs o 2
 o4:∃o,all[4]?=some o∧o.op= .alloc c.T∧o.dst=some c.d4∧o.guard=none
 o5:∃o,all[5]?=some o∧o.op= .alloc c.T∧o.dst=some c.d5∧o.guard=none
 o6:∃o,all[6]?=some o∧o.op= .store c.T (.tmp c.d4) (.tmp c.d1)∧o.dst=none∧o.guard=none∧needs o 4∧needs o 1
 o7:∃o,all[7]?=some o∧o.op= .store c.T (.tmp c.d5) (.tmp c.d3)∧o.dst=none∧o.guard=none∧needs o 5∧needs o 3
 ag:aggOf P c.T=some (some c.m)
 zero:(P.info? c.T).bind (fun i=>i.zero.map (·.cells.toList))=some c.zs
 zlen:c.zs.length=c.m
 tsz:c.ty.size=c.m
 en:enters P c.f=true
 nd:[c.p,c.d0,c.d1,c.d2,c.d3,c.d4,c.d5].Nodup

def Far(E:EnD)(C:Cx)(H:List SObj)(b:Nat):Prop:=E.C.w.heap.size<=b∧b<C.w.heap.size∧¬C.I b∧¬OwnB C H b∧Unf C.w b
def Far.ext{E:EnD}{C C':Cx}{b:Nat}(h:Far E C H b)(hx:Ext ⟨C,H⟩ C' H):Far E C' H b∧C'.w.heap[b]?=C.w.heap[b]?:=by obtain ⟨h0,h1,h2,h3,h4⟩:=h;obtain ⟨g1,g2,g3,g4⟩:=z1Y hx h1 h2 h3;exact ⟨⟨h0,g1,g2,g3,h4.keep g4⟩,g4⟩

def upd(β:Nat->Bool)(i:Nat):Nat->Bool:=fun j=>if j=i then true else β j
structure R2 (c:C2P) (E:EnD) (tm:List SV) (H:List SObj) (β:Nat->Bool) (vs:List Value) (q:Nat->Prop) (b4 b5:Nat) (C:Cx) (a:Act):Prop where
 den: @Den noGhost E C tm H a
 f0:β 0=true->∃ws:List Value,a.tmps[c.d0]?=some (.agg ws.toArray)∧SV.denL C (c.ty.cells c.x) ws
 f1:β 1=true->a.tmps[c.d1]?=some (.agg vs.toArray)∧c.ty.rel q C.w c.x vs∧∀b,q b->Far E C H b
 f2:β 2=true->∃ws:List Value,a.tmps[c.d2]?=some (.agg ws.toArray)∧SV.denL C (c.ty.cells c.x) ws
 f3:β 3=true->∃ws:List Value,a.tmps[c.d3]?=some (.agg ws.toArray)∧SV.denL C (c.ty.cells c.x) ws
 f4:β 4=true->a.tmps[c.d4]?=some (.pointer (some ⟨b4,0,none⟩))∧Far E C H b4∧(β 1=true->¬q b4)∧C.w.heap[b4]?=some (.cells (if β 6=true then vs else c.zs).toArray c.T (0,0))
 f5:β 5=true->a.tmps[c.d5]?=some (.pointer (some ⟨b5,0,none⟩))∧Far E C H b5∧(β 1=true->¬q b5)∧(β 4=true->b5≠b4)∧∃us:List Value,C.w.heap[b5]?=some (.cells us.toArray c.T (0,0))∧us.length=c.m∧(β 7=true->SV.denL C (c.ty.cells c.x) us)
 i6:β 6=true->β 4=true∧β 1=true
 i7:β 7=true->β 5=true∧β 3=true

variable {c:C2P} {E:EnD} {tm:List SV} {β:Nat->Bool} {vs:List Value} {q:Nat->Prop} {b4 b5:Nat} {C C':Cx} {a:Act}

theorem R2.ext(r:R2 c E tm H β vs q b4 b5 C a)(hw:Wd C' H)(hx:Ext ⟨C,H⟩ C' H):R2 c E tm H β vs q b4 b5 C' a where
 den:=⟨hw,r.den.ext.trans hx,⟨r.den.defs.1,⟨r.den.defs.2.1.tab.next hx,r.den.defs.2.1.old⟩,trivial⟩,q0h hx.evo r.den.tmps⟩
 f0:=fun h=>by obtain ⟨ws,h1,h2⟩:=r.f0 h;exact ⟨ws,h1,q0h hx.evo h2⟩
 f1:=fun h=>by obtain ⟨h1,h2,h3⟩:=r.f1 h;exact ⟨h1,Ty.rel_keep (fun b hb=>⟨hb,((h3 b hb).ext hx).2⟩) _ _ _ h2,fun b hb=>((h3 b hb).ext hx).1⟩
 f2:=fun h=>by obtain ⟨ws,h1,h2⟩:=r.f2 h;exact ⟨ws,h1,q0h hx.evo h2⟩
 f3:=fun h=>by obtain ⟨ws,h1,h2⟩:=r.f3 h;exact ⟨ws,h1,q0h hx.evo h2⟩
 f4:=fun h=>by obtain ⟨h1,h2,h3,h4⟩:=r.f4 h;exact ⟨h1,(h2.ext hx).1,h3,(h2.ext hx).2.trans h4⟩
 f5:=fun h=>by obtain ⟨h1,h2,h3,h4,us,h5,h6,h7⟩:=r.f5 h;exact ⟨h1,(h2.ext hx).1,h3,h4,us,(h2.ext hx).2.trans h5,h6,fun h=>q0h hx.evo (h7 h)⟩
 i6:=r.i6
 i7:=r.i7

variable {v:Value}
def j3m{d:Nat}(h: @Den noGhost E C tm H a)(hd:tm[d]?=some .any): @Den noGhost E C tm H (a.put (some d) v):=by
 refine ⟨h.wd,h.ext,⟨h.defs.1,h.defs.2.1,trivial⟩,?_⟩;simp only [Act.put,Cd];have h1:=q2k (i:=d) (s:=.any) (v:=v) h.tmps (by rw [SV.den];trivial);have h2:tm.set d .any=tm:=by
  apply Bf;intro i;by_cases e:d=i
  . subst e;rw [Ar (Ag.1 hd).1,hd]
  rw [Aq e]
 rwa [h2] at h1
def j6B{d e:Nat}(h:d≠e):(a.put (some d) v).tmps[e]?=a.tmps[e]?:=by simp only [Act.put];exact BY h

theorem R2.put{i d:Nat}{v:Value}(r:R2 c E tm H β vs q b4 b5 C a)(hnd:[c.p,c.d0,c.d1,c.d2,c.d3,c.d4,c.d5].Nodup)(hi:β i=false)(hd:[c.d0,c.d1,c.d2,c.d3,c.d4,c.d5][i]?=some d)(ht:tm[d]?=some .any):R2 c E tm H β vs q b4 b5 C (a.put (some d) v):=by
 have key:∀ (j e:Nat),[c.d0,c.d1,c.d2,c.d3,c.d4,c.d5][j]?=some e->β j=true->(a.put (some d) v).tmps[e]?=a.tmps[e]?:=fun j e he hj=>j6B fun h=>by subst h;have hnd':[c.d0,c.d1,c.d2,c.d3,c.d4,c.d5].Nodup:=(BK.1 hnd).2;have h1:=(Ag.1 hd).1;have:i=j:=(List.getElem?_inj h1 hnd').1 (hd.trans he.symm);subst this;rw [hi] at hj;cases hj
 refine ⟨j3m r.den ht,fun h=> ?_,fun h=> ?_,fun h=> ?_,fun h=> ?_,fun h=> ?_,fun h=> ?_,r.i6,r.i7⟩
 . obtain ⟨ws,h1,h2⟩:=r.f0 h;exact ⟨ws,(key 0 _ rfl h).trans h1,h2⟩
 . obtain ⟨h1,h2⟩:=r.f1 h;exact ⟨(key 1 _ rfl h).trans h1,h2⟩
 . obtain ⟨ws,h1,h2⟩:=r.f2 h;exact ⟨ws,(key 2 _ rfl h).trans h1,h2⟩
 . obtain ⟨ws,h1,h2⟩:=r.f3 h;exact ⟨ws,(key 3 _ rfl h).trans h1,h2⟩
 . obtain ⟨h1,h2⟩:=r.f4 h;exact ⟨(key 4 _ rfl h).trans h1,h2⟩
 obtain ⟨h1,h2⟩:=r.f5 h;exact ⟨(key 5 _ rfl h).trans h1,h2⟩


variable {P:Program} {AQ:Ex->List SV->List SObj->Prop} {k0:Nat} {k:List It} {t:List SV} {H:List SObj}
variable {c:C2P} {E:EnD} {tm:List SV} {β:Nat->Bool} {vs:List Value} {q:Nat->Prop} {b4 b5:Nat} {C C':Cx} {a:Act}


variable {P:Program} {AQ:Ex->List SV->List SObj->Prop} {k0:Nat} {k:List It} {t:List SV} {H:List SObj}
variable {c:C2P}


variable {P:Program} {AQ:Ex->List SV->List SObj->Prop} {k0:Nat} {k:List It} {t:List SV} {H:List SObj}


variable {P:Program} {AQ:Ex->List SV->List SObj->Prop} {k0:Nat} {td:List IT} {t:List SV} {H:List SObj}

variable {P:Program} {AQ:Ex->List SV->List SObj->Prop} {k0:Nat}

variable {P:Program} {AQ:Ex->List SV->List SObj->Prop} {k0:Nat} {k:List IT}

variable {P:Program} {AQ:Ex->List SV->List SObj->Prop} {k0:Nat} {H:List SObj}

variable {P:Program} {AQ:Ex->List SV->List SObj->Prop} {k0:Nat} {H:List SObj}

section
variable [Ghost] {P:Program} {AQ:Ex->List SV->List SObj->Prop} {k0:Nat} {k:List IT} {t:List SV} {H:List SObj}

def q9m{G X a b:Prop}(h:a∨b)(h1:a->X->G)(h2:b->X->G)(hx:X):G:=h.elim (fun k=>h1 k hx) (fun k=>h2 k hx)
def cvI:IOp->Bool
 |.toStr .. =>true
 |.mlk .. =>true
 |_=>false
theorem j5s{o:Oper}{i:IOp}(h:compOp P o.op=some i)(hi:cvI i=true):isCv o=true:=by
 unfold isCv;generalize o.op=op at h⊢;cases op with
 |convert=>rfl
 |lookup=>rfl
 |_=>
  exfalso;unfold compOp at h;repeat' split at h
  all_goals first
   |contradiction
   | (cases h;cases hi;done)
   | (simp only [Bc,Ap,Option.some.injEq] at h;obtain ⟨_,_,rfl⟩:=h;cases hi;done)
   | (simp only [Bc,Ap,Option.some.injEq] at h;obtain ⟨_,_,_,_,rfl⟩:=h;cases hi;done)
def j5I{G:List Nat}{l:List (Bool×OpI)}{io:OpI}{p:Prop}{s:SV}(hcv:cvI io.op=true)(hg:io.guard=none∨∃d b,io.guard=some (d,b)∧t.getD d .any= .raw (.bool b))(he:∀H',SameG (strictP G) H H'->io.op.ev H' (evT t)= .val p s)(hp:p)
 (hk:SoundI P AQ ⟨k0,.dops G l :: k,putT t io.dst s,H⟩):SoundI P AQ ⟨k0,.dops G ((true,io) :: l) :: k,t,H⟩:=by
 intro all listed fuel k' hpl hr;obtain ⟨n',i,o,io0,rfl,ho,hco,hpl',hB,hdst,hgd,hop⟩:=q1q hpl;have hio:io0=io:=by
  rcases hop with h|h
  . exact h.1.symm
  obtain ⟨d0,op0,g0⟩:=io0;obtain ⟨d1,op1,g1⟩:=io;simp only at hdst hgd h hcv⊢;have h2:=h.2;cases op0<;>simp only [toS] at h2<;>first| (subst h2;cases hcv;done) | (subst hdst;subst hgd;rw [h2])
 subst hio;obtain ⟨hc,hd⟩:=q0H hco;have hw:wantedT all t o=some true:=by
  rcases hg with hg| ⟨d,b,hg,hv⟩
  . exact (q0t hco).1 hg
  rw [(q0t hco).2.1 d b b hg hv];simp
 obtain ⟨h1,h2⟩:=q1G hB;have hcl:closedB all listed=true:=by have h3:isCv o=true:=j5s hc hcv;simp only [ldChkS,ho,h3] at h2;simpa using h2
 refine q8I (s:=s) h1 hcl ho (.inl ⟨hw,fun H' hs K hk=>q2h hc ?_⟩) ?_
 . rw [he H' hs];exact ⟨hp,hk⟩
 rw [<-hd];exact hk all _ n' k' hpl' hr
end

variable {P:Program} {AQ:Ex->List SV->List SObj->Prop} {k0:Nat}

def z7c[Ghost]{G:List Nat}{l:List (Bool×OpI)}{d:Option Tmp}{kk:Option IntKind}{z:Value}{ok:Bool}{m x:Operand}{h:Nat}{kv:Value}{ks:List Value}{vs:List SV}{s:SV}(hm:evT t m= .mp h)(hx:evT t x= .raw kv)(hG:(strictP G).contains h=true)(hH:H[h]?=some (.map kk ks vs))(hkey:keyIs kk kv=true)(hs:mres ok (mget ks vs z kv)=s)
 (hk:SoundI P AQ ⟨k0,.dops G l :: k,putT t d s,H⟩):SoundI P AQ ⟨k0,.dops G ((true,⟨d,.mlk kk z ok m x,none⟩) :: l) :: k,t,H⟩:=by
 refine j5I rfl (.inl rfl) (p:=True) (s:=s) (fun H' hs'=> ?_) trivial hk;have hH':H'[h]?=some (.map kk ks vs):=by rw [hs' h (by simpa using hG)];exact hH
 simp only [IOp.ev,hm,hx,mapOf,hH',true_and,hkey,if_true,hs]
variable {n:Nat}
theorem q5P{ty:Ty}{xs:List ty.den}{H':List SObj}{h m:Nat}(hH:H'[h]?=some (.row ty xs))(hn:n=m)(hm:∀n,H'[0]?≠some (.mark n)):Weak 1 (fun o' H''=>o'= .ret (.bld 1 ty m)∧H''= [.dead,.row ty xs]) (.ret (.bld h ty n)) H':=by subst hn;exact ⟨fun i=>if i=0 then 0 else h,.bld 1 ty n,.bld 1 ty n,[.dead,.row ty xs],⟨⟨rfl,trivial⟩,⟨hH,trivial⟩,rfl,rfl,rfl,rfl,CE 1,fun n _ h0=>absurd h0 (hm n)⟩,.inl (.inl rfl),⟨rfl,rfl⟩⟩

section
variable [Ghost]
def z0f{F:Fence}{Q:Exit->Act->World->Prop}{w:World}{c rest:Code}{l:Nat}(hQ:∀l a w,¬Q (.goto l) a w)(hf:findLabel c l=some rest)
 (h:c.wpIn F n P (fun e a w=>match e with|.goto l'=>l'=l∧rest.wpIn F n P Q a w|e=>Q e a w) a w):(Code.scope c).wpIn F n P Q a w:=by
 intro b k cs hro hb hr;have h0:(lone (b.atR a (.code (.scope c) :: k)) cs w).fenced P F:=fenced_calm hb hr rfl;have hg:gotoIn l (.inScope c :: k)=some (.code rest :: .inScope c :: k):=by simp [gotoIn,hf]
 obtain ⟨e,a₁,w₁,hq,harr⟩:=h b (.inScope c :: k) cs hro hb hr;cases e with
 |normal=>exact ⟨.normal,a₁,w₁,hq,.head h0 q0J (StepsIn.trans harr (.one (fenced_calm hb hr rfl) q3k))⟩
 |exit id'=>
  have hx:exitTo id' (.inScope c :: k)=exitTo id' k:=by simp [exitTo]
  exact ⟨.exit id',a₁,w₁,hq,fun k' hk=>.head h0 q0J (harr.1 k' (by rw [hx];exact hk)),
   fun hr' hk=>let ⟨k₁,h1,h2⟩:=harr.2 hr' (by rw [hx];exact hk);⟨k₁,h1,.head h0 q0J h2⟩⟩
 |goto l'=>
  obtain ⟨rfl,hq⟩:=hq;have hj:=StepsIn.trans (.one h0 q0J) (harr.1 _ hg);obtain ⟨e,a₂,w₂,hq₂,harr₂⟩:=hq b (.inScope c :: k) cs hro hb hr;cases e with
  |normal=>exact ⟨.normal,a₂,w₂,hq₂,StepsIn.trans hj (StepsIn.trans harr₂ (.one (fenced_calm hb hr rfl) q3k))⟩
  |exit id'=>
   have hx:exitTo id' (.inScope c :: k)=exitTo id' k:=by simp [exitTo]
   exact ⟨.exit id',a₂,w₂,hq₂,fun k' hk=>StepsIn.trans hj (harr₂.1 k' (by rw [hx];exact hk)),
    fun hr' hk=>let ⟨k₁,h1,h2⟩:=harr₂.2 hr' (by rw [hx];exact hk);⟨k₁,h1,StepsIn.trans hj h2⟩⟩
  |goto l=>exact (hQ _ _ _ hq₂).elim
  |ret=>exact ⟨_,a₂,w₂,hq₂,.of_steps hj harr₂⟩
  |panic ch=>exact ⟨_,a₂,w₂,hq₂,.of_steps hj harr₂⟩
  |outgrown=>exact ⟨_,a₂,w₂,hq₂,.of_steps hj harr₂⟩
 |ret=>exact ⟨_,a₁,w₁,hq,.of_steps (.one h0 q0J) harr⟩
 |panic ch=>exact ⟨_,a₁,w₁,hq,.of_steps (.one h0 q0J) harr⟩
 |outgrown=>exact ⟨_,a₁,w₁,hq,.of_steps (.one h0 q0J) harr⟩
end

inductive GS where
 |ic (c:IC)
 |gc (c:Operand)
def stepsG(P:Program)(l:Nat):List Code->Option (List GS×List IC)
 | []=>none
 |.label l' :: cs=>if l'=l then (compAll P cs).map fun b=>([],b) else none
 |.cond c (.goto l') .skip :: cs=>if l'=l then (stepsG P l cs).map fun x=>(.gc c :: x.1,x.2) else none
 |c :: cs=>match comp P c with
  |some x=>(stepsG P l cs).map fun y=>(.ic x :: y.1,y.2)
  |none=>none
def labelG:List Code->Option Nat
 | []=>none
 |.label l :: _=>some l
 |_ :: cs=>labelG cs
structure GI where
 ntmps:Nat
 results:List ResultVar
 pre:List IC
 steps:List GS
 fall:List IC
 jump:List IC
def scopeG(P:Program)(fn:Func):List Code->Option GI
 | [.scope c]=>match labelG (flatC c) with
  |some l=>match stepsG P l (flatC c),findLabel c l with
   |some (s,b),some rest=>match compAll P (flatC rest) with
    |some j=>some ⟨fn.ntmps,fn.results.toList,[],s,b,j⟩
    |none=>none
   |_,_=>none
  |none=>none
 |x :: cs=>match comp P x,scopeG P fn cs with
  |some i,some g=>some {g with pre:=i :: g.pre}
  |_,_=>none
 | []=>none
def ginfo(P:Program)(f:FuncId):Option GI:=
 match P.funcs[f]? with
 |some fn=>match fn.body with
  |some c=>if fn.name== "runtime.NumGoroutine" then none else scopeG P fn (flatC c)
  |none=>none
 |none=>none

def GoI[Ghost](P:Program)(AQ:Ex->List SV->List SObj->Prop)(k0:Nat)(fall jump:List IC):List GS->List SV->List SObj->Prop
 | [],t,H=>SoundI P AQ ⟨k0,fall.map .ic,t,H⟩
 |.ic c :: s,t,H=>SoundI P AQ ⟨k0,[.ic c,.stop fun t' H'=>GoI P AQ k0 fall jump s t' H'],t,H⟩
 |.gc c :: s,t,H=>∃b,evT t c= .raw (.bool b)∧(b=true->SoundI P AQ ⟨k0,jump.map .ic,t,H⟩)∧(b=false->GoI P AQ k0 fall jump s t H)

def goQ[Ghost](P:Program)(AQ:Ex->List SV->List SObj->Prop)(E:EnD)(r:Option Nat)(n l:Nat)(rest:Code):Exit->Act->World->Prop
 |.goto l',a,w=>l'=l∧rest.wpIn (Fw r) n P (conc E AQ) a w
 |e,a,w=>conc E AQ e a w
theorem j0l[Ghost]{l:Nat}{rest:Code}{fall jump:List IC}(hj:compAll P (flatC rest)=some jump){r:Option Nat}(h0:Fit E r k0):
 ∀ (cs:List Code) (s:List GS) (t:List SV) (H:List SObj) (C:Cx) (a:Act),stepsG P l cs=some (s,fall)->GoI P AQ k0 fall jump s t H->Den E C t H a->
  wpT (Fw r) n P E (goQ P AQ E r n l rest) (cs.map .code) a C.w:=by
 have hmono:∀ (e:Exit) (a:Act) (w:World),conc E AQ e a w->goQ P AQ E r n l rest e a w:=fun e a w h=>by cases e<;>first|exact h|exact h.elim
 have hcodes:∀ (cs:List Code) (b:List IC) (t:List SV) (H:List SObj) (C:Cx) (a:Act),compAll P cs=some b->SoundI P AQ ⟨k0,b.map .ic,t,H⟩->Den E C t H a->wpT (Fw r) n P E (conc E AQ) (cs.map .code) a C.w:=fun cs b t H C a hc hs hd=>q0g hs (rel_codes' (q8Q hc)) E r n C a h0 hd;intro cs;induction cs with
 |nil=>intro s t H C a hs;cases hs
 |cons c cs ih=>
  intro s t H C a hs hg hd
  have gen:(match comp P c with
   |some x=>(stepsG P l cs).map fun y=>(.ic x :: y.1,y.2)
   |none=>none)=some (s,fall)->wpT (Fw r) n P E (goQ P AQ E r n l rest) ((c :: cs).map .code) a C.w:=fun hs=>by
   split at hs
   . rename_i x hx;cases hr:stepsG P l cs with
     |none=>rw [hr] at hs;cases hs
     |some y=>
      rw [hr] at hs;obtain ⟨y1,y2⟩:=y;simp only [Bz,Option.some.injEq,Prod.mk.injEq] at hs;obtain ⟨rfl,rfl⟩:=hs;have h1:=q0g hg ⟨c,_,rfl,hx,_,rfl,rfl⟩ E r n C a h0 hd;simp only [AC,wpT] at h1⊢;refine wpIn_mono h1 fun e a w hq=> ?_;cases e with
      |normal=>obtain ⟨C',t',H',h2,rfl,h3⟩:=hq;exact ih _ _ _ _ _ hr h2 h3
      |exit id=>have:=(q4C (F:=Fw r) (n:=n) (P:=P) (E:=E) (Q:=goQ P AQ E r n l rest) (id:=id) (a:=a) (w:=w) (k:=[]) cs).2;rw [Ah] at this;exact this hq
      |ret=>exact hq
      |panic ch=>exact hq
      |goto l=>exact hq.elim
      |outgrown=>exact hq
   cases hs
  cases c with
  |label l'=>
   unfold stepsG at hs;split at hs
   . cases hb:compAll P cs with
     |none=>rw [hb] at hs;cases hs
     |some b=>rw [hb] at hs;simp only [Bz,Option.some.injEq,Prod.mk.injEq] at hs;obtain ⟨rfl,rfl⟩:=hs;have h1:=hcodes cs _ t H C a hb hg hd;have h2:wpT (Fw r) n P E (goQ P AQ E r n l rest) (cs.map .code) a C.w:=(q2Z (F:=Fw r) (n:=n) (E:=E) (E':=E) hmono (cs.map .code) (q6o cs)).1 a C.w h1;simp only [AC,wpT];exact wpIn_label h2
   cases hs
  |cond e x y=>
   cases x with
   |goto l'=>
    cases y with
    |skip=>
     unfold stepsG at hs;split at hs
     . rename_i hl;cases hr:stepsG P l cs with
       |none=>rw [hr] at hs;cases hs
       |some y=>
        rw [hr] at hs;obtain ⟨y1,y2⟩:=y;simp only [Bz,Option.some.injEq,Prod.mk.injEq] at hs;obtain ⟨rfl,rfl⟩:=hs;obtain ⟨b,hb,g1,g2⟩:=hg;have he:=q2g hd.tmps e;rw [hb,SV.den] at he;simp only [AC,wpT];refine wpIn_cond_split he (fun hb=> ?_) (fun hb=> ?_)
        . refine wpIn_goto ⟨hl,?_⟩;have h1:=hcodes _ _ t H C a hj (g1 hb) hd;have h2:=q5q rest [] a C.w (by rw [Ah];exact h1);simp only [wpT] at h2;refine wpIn_mono h2 fun e a w hq=> ?_;cases e<;>first|exact hq| (simp only [exitT] at hq;exact hq)
        exact wpIn_skip (ih _ _ _ _ _ hr (g2 hb) hd)
     cases hs
    |_=>exact gen (by simpa only [stepsG] using hs)
   |_=>exact gen (by simpa only [stepsG] using hs)
  |_=>exact gen (by simpa only [stepsG] using hs)

theorem z6m{fn:Func}:∀ {cs:List Code} {g:GI},scopeG P fn cs=some g->g.ntmps=fn.ntmps∧g.results=fn.results.toList∧∃ (cs1:List Code) (c:Code) (l:Nat) (rest:Code),cs=cs1++ [.scope c]∧cs1.map (comp P)=g.pre.map some∧stepsG P l (flatC c)=some (g.steps,g.fall)∧findLabel c l=some rest∧compAll P (flatC rest)=some g.jump:=by
 intro cs;have gen:∀ (x:Code) (cs:List Code) (g:GI),(∀ {g:GI},scopeG P fn cs=some g->g.ntmps=fn.ntmps∧g.results=fn.results.toList∧∃ (cs1:List Code) (c:Code) (l:Nat) (rest:Code),cs=cs1++ [.scope c]∧cs1.map (comp P)=g.pre.map some∧stepsG P l (flatC c)=some (g.steps,g.fall)∧findLabel c l=some rest∧compAll P (flatC rest)=some g.jump)->
  (match comp P x,scopeG P fn cs with
   |some i,some g=>some {g with pre:=i :: g.pre}
   |_,_=>none)=some g->g.ntmps=fn.ntmps∧g.results=fn.results.toList∧∃ (cs1:List Code) (c:Code) (l:Nat) (rest:Code),x :: cs=cs1++ [.scope c]∧cs1.map (comp P)=g.pre.map some∧stepsG P l (flatC c)=some (g.steps,g.fall)∧findLabel c l=some rest∧compAll P (flatC rest)=some g.jump:=fun x cs g ih h=>by
  split at h
  . rename_i i g' hx hg;cases h;obtain ⟨h1,h2,cs1,c,l,rest,rfl,h4,h5,h6,h7⟩:=ih hg;exact ⟨h1,h2,x :: cs1,c,l,rest,rfl,by simp only [AC,hx,h4],h5,h6,h7⟩
  cases h
 induction cs with
 |nil=>intro g h;cases h
 |cons x cs ih=>
  intro g h;cases cs with
  |cons y cs=>exact gen x (y :: cs) g ih (by
   cases x<;>simpa only [scopeG] using h)
  |nil=>
   cases x with
   |scope c=>
    unfold scopeG at h;split at h
    . rename_i l hl;split at h
      . rename_i s b rest hs hr;split at h
        . rename_i j hj;cases h;exact ⟨rfl,rfl,[],c,l,rest,rfl,rfl,hs,hr,hj⟩
        cases h
      cases h
    cases h
   |_=>exact gen _ [] g ih (by simpa only [scopeG] using h)

theorem z4W{f:FuncId}{gi:GI}{args:List SV}{K:Out->List SObj->Prop}(h:ginfo P f=some gi)
 (hs: @SoundI noGhost P (retF P gi.results K) ⟨H.length,gi.pre.map .ic++ [.stop fun t H'=> @GoI noGhost P (retF P gi.results K) H.length gi.fall gi.jump gi.steps t H'],args++List.replicate (gi.ntmps-args.length) .any,H⟩):VC P f args H K:=by
 unfold ginfo at h;split at h
 . rename_i fn hf;split at h
   . rename_i c hb;split at h
     . cases h
     rename_i hn;obtain ⟨e1,e2,cs1,sc,l,rest,hcs,g1,g2,g3,g4⟩:=z6m h;refine ⟨by simp [enters,hf,hb];simpa using hn,?_⟩;rw [e1,e2] at hs;have hq:retQ P fn K=retF P fn.results.toList K:=by funext e t H;cases e<;>rfl
     refine q7s hf hb ?_;rw [hq];intro E r n C a h0 hd;refine q5q c [] a C.w ?_;rw [Ah,hcs,Br];have h1:=q0g hs (q6V g1) E r n C a h0 hd;refine q5S (Q1:=conc E (retF P fn.results.toList K)) (fun e a w _ h=>h) (fun id a w ⟨_,_,_,hq,_⟩=>hq) (fun a C t H hΦ hd=> ?_) cs1 a C.w h1;have h2:=j0l (n:=n) g4 h0 (flatC sc) gi.steps t H C a g2 hΦ hd;rw [<-Ah ((flatC sc).map It.code)] at h2;have h3:=q5q sc [] a C.w h2;simp only [AC,B3,wpT] at h3⊢;refine z0f (l:=l) (rest:=rest) ?_ g3 ?_
     . rintro l' a w hh;exact hh.elim
     refine wpIn_mono h3 fun e a w hq=> ?_;cases e with
     |goto l'=>refine ⟨hq.1,wpIn_mono hq.2 fun e a w hq=> ?_⟩;cases e<;>first|exact hq| (simp only [exitT];exact hq)
     |exit id=>simp only [exitT] at hq⊢;exact hq
     |_=>exact hq
   cases h
 cases h
end Go.Sx
namespace Go.Proofs.YthbcodbcndiapaaGreatDoor
open Go Go.Sx Go.Proofs
set_option maxRecDepth 100000
set_option maxHeartbeats 40000000
def sumE(a:Aut):List (List UInt8):=if a.2.1.length=0 then [] else [wrapS 160 2 (elemS 4 [a.2.1])]
def subE(a:Aut):List (List UInt8):=if a.2.2.2.2.1.1=0 then [] else [wrapS 160 5 (keyS a.2.2.2.2.1)]
def datE(a:Aut):List (List UInt8):=if a.2.2.2.2.2.2.length=0 then [] else [wrapS 160 7 (dataS a.2.2.2.2.2.2)]
theorem j6z(a:Aut)(xs:List (List UInt8))(hl:xs.length<=100):PE Tryz.prog 32 [.bld 0 (.slice .u8) xs.length,.iptr AutT a 0] [.row (.slice .u8) xs] (.ret (.bld 1 (.slice .u8) (xs++sumE a).length)) [.dead,.row (.slice .u8) (xs++sumE a)]:=by
 have c1:=z0e a.2.1;have c2:=q1I 2 (elemS 4 [a.2.1]);unfold sumE;obtain ⟨c,s,t,m,k,q,d⟩:=a;dsimp only at*;refine z9h ?_;refine rQ fi32 ?_;refine ⟨fun h=> ?_,fun h=>q0a c1 ?_⟩
 . rw [if_pos (by omega),Ah];exact q5P (h:=0) rfl rfl (by simp)
 rw [if_neg (by omega)];refine gQ ?_;refine cQ c2 ?_;refine ⟨⟨by omega,by omega⟩,?_⟩;exact q5P rfl (by simp) (by simp)
theorem j6h(a:Aut)(xs:List (List UInt8))(hl:xs.length<=100):PE Tryz.prog 35 [.bld 0 (.slice .u8) xs.length,.iptr AutT a 0] [.row (.slice .u8) xs] (.ret (.bld 1 (.slice .u8) (xs++subE a).length)) [.dead,.row (.slice .u8) (xs++subE a)]:=by
 have c1:=j5H a.2.2.2.2.1;have c2:=q1I 5 (keyS a.2.2.2.2.1);unfold subE;obtain ⟨c,s,t,m,k,q,d⟩:=a;dsimp only at*;refine z9h ?_;refine rQ fi35 ?_;refine ⟨fun h=> ?_,fun h=>q0a c1 ?_⟩
 . rw [if_pos (by omega),Ah];exact q5P (h:=0) rfl rfl (by simp)
 rw [if_neg (by omega)];refine gQ ?_;refine cQ c2 ?_;refine ⟨⟨by omega,by omega⟩,?_⟩;exact q5P rfl (by simp) (by simp)
theorem j6q(a:Aut)(xs:List (List UInt8))(hl:xs.length<=100):PE Tryz.prog 37 [.bld 0 (.slice .u8) xs.length,.iptr AutT a 0] [.row (.slice .u8) xs] (.ret (.bld 1 (.slice .u8) (xs++datE a).length)) [.dead,.row (.slice .u8) (xs++datE a)]:=by
 have c1:=j6t a.2.2.2.2.2.2;have c2:=q1I 7 (dataS a.2.2.2.2.2.2);unfold datE;obtain ⟨c,s,t,m,k,q,d⟩:=a;dsimp only at*;refine z9h ?_;refine rQ fi37 ?_;refine ⟨fun h=> ?_,fun h=>q0a c1 ?_⟩
 . rw [if_pos (by omega),Ah];exact q5P (h:=0) rfl rfl (by simp)
 rw [if_neg (by omega)];refine gQ ?_;refine cQ c2 ?_;refine ⟨⟨by omega,by omega⟩,?_⟩;exact q5P rfl (by simp) (by simp)
def encL(a:Aut):List (List UInt8):=((([wrapS 160 0 (intS 5),wrapS 160 1 (prinS a.1)]++sumE a)++ [wrapS 160 3 (intS a.2.2.2.1),wrapS 160 4 (timeS a.2.2.1)]++subE a)++ [wrapS 160 6 (intS a.2.2.2.2.2.1)])++datE a
def autS(a:Aut):List UInt8:=wrapS 96 2 (elemS 48 (encL a))
theorem z1g(a:Aut)(ho:AutT.ok a):PC Tryz.prog 10 [.agg (AutT.cells a)] (.tup [.isl .u8 (if vAut a then autS a else []),rI (if vAut a then 0 else 2)]):=by
 have c1:=q9n a ho;have c2:=z7E a.1 ho.1;have hvp:vAut a=true->vPrin a.1=true:=fun h=>by unfold vAut at h;simp only [Am] at h;exact h.1
 cases hv:vAut a with
 |false=>rw [hv] at c1;obtain ⟨c,s,t,m,k,q,d⟩:=a;refine q0n rfl rfl ?_;refine rQ fi10 ?_;refine cQ c1 ?_;trivial
 |true=>
  rw [hvp hv] at c2;rw [hv] at c1;simp only [if_true] at c2⊢;have e1:=j6z a;have e2:=j6h a;have e3:=j6q a;have hL:encL a=((([wrapS 160 0 (intS 5),wrapS 160 1 (prinS a.1)]++sumE a)++ [wrapS 160 3 (intS a.2.2.2.1),wrapS 160 4 (timeS a.2.2.1)]++subE a)++ [wrapS 160 6 (intS a.2.2.2.2.2.1)])++datE a:=rfl;have l1:(sumE a).length<=1:=by unfold sumE;split<;>simp
  have l2:(subE a).length<=1:=by unfold subE;split<;>simp
  have l3:(datE a).length<=1:=by unfold datE;split<;>simp
  refine q0n rfl rfl ?_;refine rQ fi10 ?_;refine cQ c1 ?_;refine q0a c2 ?_;refine q1P 1 0 (ty:=AutT) (x:=a) rfl ho rfl rfl ?_;refine uQ 19 _ ?_;with_reducible refine sxE ?_
  refine q1r [999999,1] mixed ?_;refine uQ 1 _ ?_;with_reducible refine sxE ?_
  refine z7c rfl rfl rfl rfl rfl rfl ?_;refine gQ ?_;refine cR (q2E 5) ?_;refine cR (q1I 0 (intS 5)) ?_;refine cR (q1I 1 (prinS a.1)) ?_;refine ⟨rfl,?_⟩;have e1':=e1 [wrapS 160 0 (intS 5),wrapS 160 1 (prinS a.1)] (by simp);have hX1:([wrapS 160 0 (intS 5),wrapS 160 1 (prinS a.1)]++sumE a).length<=3:=by rw [Ab];show 2+_<=3;omega
  generalize [wrapS 160 0 (intS 5),wrapS 160 1 (prinS a.1)]++sumE a=X1 at e1' hX1 hL;refine q0s [2] e1' rfl (by decide) ⟨rfl,rfl,trivial⟩ rfl rfl ?_ ?_
  . simp (maxSteps:=3000000) only [mgA,sig,q0w,q0D,List.append_assoc,getA,getA0,setA,setA0,Ab,Nat.add_assoc,go_sem,↓zA,↓reduceIte,↓reduceDIte] <;>try simp only [zB]
    rfl
  refine rnE ?_;refine uQ 3 _ ?_;with_reducible refine sxE ?_
  refine q1r [999999] mixed ?_;refine gQ ?_;refine cR (q2E _) ?_;refine cR (q1I _ _) ?_;refine cR (j6y _) ?_;refine q0c (q1I _ _) ?_;refine uQ 5 _ ?_;with_reducible refine sxE ?_
  refine ⟨rfl,⟨by omega,by omega⟩,?_⟩;refine q1r [999999,1] mixed ?_;refine uQ 1 _ ?_;with_reducible refine sxE ?_
  refine z7c rfl rfl rfl rfl rfl rfl ?_;refine gQ ?_;have e2':=e2 (X1++ [wrapS 160 3 (intS a.2.2.2.1),wrapS 160 4 (timeS a.2.2.1)]) (by rw [Ab];show _+2<=100;omega);have hX2:(X1++ [wrapS 160 3 (intS a.2.2.2.1),wrapS 160 4 (timeS a.2.2.1)]++subE a).length<=6:=by rw [Ab,Ab];show _+2+_<=6;omega
  generalize X1++ [wrapS 160 3 (intS a.2.2.2.1),wrapS 160 4 (timeS a.2.2.1)]++subE a=X2 at e2' hX2 hL;refine q0s [5] e2' (by simp [sig,SV.renL,SV.ren]) (by decide) ⟨rfl,rfl,trivial⟩ rfl rfl ?_ ?_
  . simp (maxSteps:=3000000) only [mgA,sig,q0w,q0D,List.append_assoc,getA,getA0,setA,setA0,Ab,Nat.add_assoc,go_sem,↓zA,↓reduceIte,↓reduceDIte] <;>try simp only [zB]
    rfl
  refine rnE ?_;refine gQ ?_;refine cR (q2E _) ?_;refine cR (q1I _ _) ?_;refine ⟨rfl,⟨by omega,by omega⟩,?_⟩;have e3':=e3 (X2++ [wrapS 160 6 (intS a.2.2.2.2.2.1)]) (by rw [Ab];show _+1<=100;omega);have hX3:(X2++ [wrapS 160 6 (intS a.2.2.2.2.2.1)]++datE a).length<=8:=by rw [Ab,Ab];show _+1+_<=8;omega
  rw [<-hL] at e3' hX3;refine q0i [8] e3' (by simp [sig,SV.renL,SV.ren]) (by decide) ⟨rfl,rfl,trivial⟩ rfl rfl ?_;simp only [afterO,Out.ren,SV.ren,mgA,sig,SObj.ren,SV.renL,AH,Ax,List.append_assoc,Bh,Bi,List.set,List.map,Ah];refine gQ ?_;have c5:=q4g (encL a) (by omega);refine q0z 9 ?_;with_reducible refine sxE ?_
  refine ⟨by omega,Af _,?_⟩;rw [Ad (Af _)];refine cQ c5 ?_;refine cQ (j5L 2 _) ?_;rfl
set_option maxHeartbeats 4000000
def q3x(b:List UInt8)(n:Nat):PE Tryz.prog 68 [.agg [.ptr 0 0],rB true] [rdr b n] (.ret (.tup [])) [rdr b n]:=by refine q0b (by simp) ?_;refine rQ fi68 ?_;trivial
def q5o(b:List UInt8)(n:Nat):PE Tryz.prog 68 [.agg [.ptr 0 0],rB false] [rdr b n] (.pan (errV 6)) [.dead]:=by refine q0b (by simp) ?_;refine rQ fi68 ?_;trivial
def q4p(b:List UInt8)(n:Nat)(hn:n=b.length):PE Tryz.prog 67 [.agg [.ptr 0 0]] [rdr b n] (.ret (.tup [])) [rdr b n]:=by
 have he:=q2F b n (by omega);have hc:=q3x b n;have e0:(((b.length-n:Nat):Int)=0)=True:=eq_true (by omega);refine q0b (by simp) ?_;refine rQ fi67 ?_;refine q0s [0] he rfl (by decide) ⟨rfl,rfl,trivial⟩ rfl rfl ?_ ?_
 . simp (maxSteps:=3000000) only [mgA,sig,q0w,q0D,SObj.ren,SV.ren,SV.renL,List.append_assoc,getA,getA0,setA,setA0,Ab,Nat.add_assoc,go_sem,↓zA,↓reduceIte,↓reduceDIte] <;>try simp only [zB]
 refine rnE ?_;refine gy1 e0 ?_;refine q0s [0] hc rfl (by decide) ⟨rfl,rfl,trivial⟩ rfl rfl ?_ ?_
 . simp (maxSteps:=3000000) only [mgA,sig,q0w,q0D,SObj.ren,SV.ren,SV.renL,List.append_assoc,getA,getA0,setA,setA0,Ab,Nat.add_assoc,go_sem,↓zA,↓reduceIte,↓reduceDIte] <;>try simp only [zB]
 refine rnE ?_;refine gQ ?_;trivial
def q4L(b:List UInt8)(n:Nat)(hn:n<b.length):PE Tryz.prog 67 [.agg [.ptr 0 0]] [rdr b n] (.pan (errV 6)) [.dead]:=by
 have he:=q2F b n (by omega);have hc:=q5o b n;have e0:(((b.length-n:Nat):Int)=0)=False:=eq_false (by omega);refine q0b (by simp) ?_;refine q1T fi67 (q0r mixed 4 _ ?_);simp (maxSteps:=3000000) only [ir67,go_sem,↓zA,↓reduceIte,↓reduceDIte] <;>try simp only [zB]
 refine q1r [1,999999] mixed ?_;refine gQ ?_;refine q0s [0] he rfl (by decide) ⟨rfl,rfl,trivial⟩ rfl rfl ?_ ?_
 . simp (maxSteps:=3000000) only [mgA,sig,q0w,q0D,SObj.ren,SV.ren,SV.renL,List.append_assoc,getA,getA0,setA,setA0,Ab,Nat.add_assoc,go_sem,↓zA,↓reduceIte,↓reduceDIte] <;>try simp only [zB]
 refine rnE ?_;refine gy1 e0 ?_;refine q0s [0] hc rfl (by decide) ⟨rfl,rfl,trivial⟩ rfl rfl ?_ ?_
 . simp (maxSteps:=3000000) only [mgA,sig,q0w,q0D,SObj.ren,SV.ren,SV.renL,List.append_assoc,getA,getA0,setA,setA0,Ab,Nat.add_assoc,go_sem,↓zA,↓reduceIte,↓reduceDIte] <;>try simp only [zB]
 refine rnE ?_;with_reducible refine sxE ?_;trivial
theorem q5a(v:Value):PC Tryz.prog 184 [.raw v,rI 0] (.raw v):=by refine q0n rfl rfl ?_;refine rQ fi184 ?_;trivial
def q6h(v:Value)(e:Nat)(he:e≠0):PE Tryz.prog 184 [.raw v,rI e] [] (.pan (errV e)) []:=by refine q0b (by simp) ?_;refine rQ fi184 ?_;exact ⟨fun _=>trivial,fun h=>absurd (by omega) he⟩
theorem q7J(v:List UInt8):PC Tryz.prog 141 [.isl .u8 v,rI 0] (.isl .u8 v):=by refine q0n rfl rfl ?_;refine rQ fi141 ?_;trivial
def q8e(v:List UInt8)(e:Nat)(he:e≠0):PE Tryz.prog 141 [.isl .u8 v,rI e] [] (.pan (errV e)) []:=by refine q0b (by simp) ?_;refine rQ fi141 ?_;exact ⟨fun _=>trivial,fun h=>absurd (by omega) he⟩
theorem q8y(v:Prin):PC Tryz.prog 185 [.agg (PrinT.cells v),rI 0] (.agg (PrinT.cells v)):=by refine q0n rfl rfl ?_;refine rQ fi185 ?_;trivial
def q9t(v:Prin)(e:Nat)(he:e≠0):PE Tryz.prog 185 [.agg (PrinT.cells v),rI e] [] (.pan (errV e)) []:=by refine q0b (by simp) ?_;refine rQ fi185 ?_;exact ⟨fun _=>trivial,fun h=>absurd (by omega) he⟩
theorem z1x(v:Key):PC Tryz.prog 146 [.agg (KeyT.cells v),rI 0] (.agg (KeyT.cells v)):=by refine q0n rfl rfl ?_;refine rQ fi146 ?_;trivial
def z0s(v:Key)(e:Nat)(he:e≠0):PE Tryz.prog 146 [.agg (KeyT.cells v),rI e] [] (.pan (errV e)) []:=by refine q0b (by simp) ?_;refine rQ fi146 ?_;exact ⟨fun _=>trivial,fun h=>absurd (by omega) he⟩
theorem q8x(v:List Pre):PC Tryz.prog 150 [.isl PreT v,rI 0] (.isl PreT v):=by refine q0n rfl rfl ?_;refine rQ fi150 ?_;trivial
def q9G(v:List Pre)(e:Nat)(he:e≠0):PE Tryz.prog 150 [.isl PreT v,rI e] [] (.pan (errV e)) []:=by refine q0b (by simp) ?_;refine rQ fi150 ?_;exact ⟨fun _=>trivial,fun h=>absurd (by omega) he⟩
def q2w(b:List UInt8)(n:Nat):PE Tryz.prog 64 [.ptr 0 0,rI 0] [rdr b n] (.ret (.ptr 0 0)) [rdr b n]:=by refine q0b (by simp) ?_;refine rQ fi64 ?_;trivial
def q6i(e:Nat)(he:e≠0):PE Tryz.prog 64 [.raw (.pointer none),rI e] [] (.pan (errV e)) []:=by refine q0b (by simp) ?_;refine rQ fi64 ?_;exact ⟨fun _=>trivial,fun h=>absurd (by omega) he⟩
variable {α:Type}
def moR(res:α->SV)(z:SV):Option α->SV
 |some v=>.tup [res v,rB true]
 |none=>.tup [z,rB false]
def j6Q(c:List UInt8)(hc:c.length<=1099511627776):EffR Tryz.prog 70 [.ptr 0 0] c 0 (fun v:Int=>rI v) (rI 0) (intP c):=by
 cases hx:intP c with
 |error e=>exact z5I c 0 (Al _) hc hx
 |ok x=>obtain ⟨v,k⟩:=x;exact z7m c 0 (Al _) hc hx
def j3h(c:List UInt8)(hc:c.length<=1099511627776):EffR Tryz.prog 75 [.ptr 0 0] c 0 (fun v:Nat=>rI (v:Nat)) (rI 0) (timeP c):=by
 cases hx:timeP c with
 |error e=>exact j0P c 0 (Al _) hc hx
 |ok x=>obtain ⟨v,k⟩:=x;exact z9m c 0 (Al _) hc hx
def j6M(c:List UInt8)(hc:c.length<=1099511627776):EffR Tryz.prog 74 [.ptr 0 0] c 0 (fun v:List UInt8=>.isl .u8 v) (.isl .u8 []) (octP c):=by
 cases hx:octP c with
 |error e=>exact z6A c 0 (Al _) hc hx
 |ok x=>obtain ⟨v,k⟩:=x;exact z7b c 0 (Al _) hc hx
def j3I(c:List UInt8)(hc:c.length<=1099511627776):EffR Tryz.prog 72 [.ptr 0 0] c 0 (fun v:Prin=>.agg (PrinT.cells v)) zPrin (nameP c):=j6c c 0 (Al _) hc
def j6T(c:List UInt8)(hc:c.length<=1099511627776):EffR Tryz.prog 77 [.ptr 0 0] c 0 (fun v:Key=>.agg (KeyT.cells v)) zKey (keyP c):=j4C c 0 (Al _) hc
def j4Q(c:List UInt8)(hc:c.length<=1099511627776):EffR Tryz.prog 79 [.ptr 0 0] c 0 (fun v:List Pre=>.isl PreT v) zDat (dataP c):=j0F c 0 (Al _) hc
attribute [go_sem] moR
def someP:Except Nat (α×Nat)->Except Nat (Option α×Nat)
 |.ok (v,k)=>.ok (some v,k)
 |.error e=>.error e
variable {i:Nat}{p:PR α}{r:List UInt8}
theorem q2B(h:nextB i r=false):mayP i p r= .ok (none,0):=by unfold mayP;rw [h];rfl
theorem q2u(h:nextB i r=true):mayP i p r=someP (inP (tagB i) p r):=by
 unfold mayP;rw [if_pos h];cases inP (tagB i) p r with
 |error e=>rfl
 |ok x=>obtain ⟨v,k⟩:=x;rfl
theorem j6O(i:Nat)(hi:i<=30)(b:List UInt8)(n:Nat)(hn:n<=b.length)(hb:b.length<=1099511627776):EffX Tryz.prog 129 [.agg [.ptr 0 0],rI i,.fn 70 [] []] b n (moR (fun v:Int=>rI v) (rI 0)) (mayP i intP (b.drop n)):=by
 cases h:nextB i (b.drop n) with
 |false=>rw [q2B h];have hs:=q2R i hi b n hn h;refine q0b (by simp) ?_;refine rQ fi129 ?_;refine eQ [0] (hs) ?_;try rfl
 |true=>
  rw [q2u h];by_cases h1:takeE (tagB i) (b.drop n)=0
  . have hs:=q2M i hi b n hn hb h h1;have hc:=q1s (n:=n) hb;rw [q2Q h1];generalize takeC (b.drop n)=c at*;generalize takeN (b.drop n)=N at*;have hr:=j6Q c hc;cases hx:intP c with
    |error e=>rw [hx] at hr;have he:e≠0:=(fun _ _ h=>q6t h) _ _ hx;have hr':=q3I hr rfl;refine q0b (by simp) ?_;refine rQ fi129 ?_;refine eQ [0] (hs) ?_;refine eQ [2] (hr') ?_;refine effP [] (q6h (.int .i64 0) e he) ?_;trivial
    |ok x=>
     obtain ⟨v,m⟩:=x;rw [hx] at hr;have hr':=q3K hr rfl;rw [Ae] at hr';have hm:=(q4h) _ _ _ hx;simp only [closeP];by_cases hml:m<c.length
     . rw [if_pos hml];refine q0b (by simp) ?_;refine rQ fi129 ?_;refine eQ [0] (hs) ?_;refine eQ [2] (hr') ?_;refine cQ (q5a _) ?_;refine effP [2] (q4L c m hml) ?_;try rfl
     rw [if_neg hml];refine q0b (by simp) ?_;refine rQ fi129 ?_;refine eQ [0] (hs) ?_;refine eQ [2] (hr') ?_;refine cQ (q5a _) ?_;refine eQ [2] (q4p c m (by omega)) ?_;trivial
  rw [q3y h1];have hs:=q2P i hi b n hn hb h h1;generalize takeE (tagB i) (b.drop n)=e at*;refine q0b (by simp) ?_;refine rQ fi129 ?_;refine eQ [0] (hs) ?_;exact ⟨fun _=>trivial,fun q=>absurd (by omega) h1⟩
theorem j2B(i:Nat)(hi:i<=30)(b:List UInt8)(n:Nat)(hn:n<=b.length)(hb:b.length<=1099511627776):EffX Tryz.prog 129 [.agg [.ptr 0 0],rI i,.fn 75 [] []] b n (moR (fun v:Nat=>rI (v:Nat)) (rI 0)) (mayP i timeP (b.drop n)):=by
 cases h:nextB i (b.drop n) with
 |false=>rw [q2B h];have hs:=q2R i hi b n hn h;refine q0b (by simp) ?_;refine rQ fi129 ?_;refine eQ [0] (hs) ?_;try rfl
 |true=>
  rw [q2u h];by_cases h1:takeE (tagB i) (b.drop n)=0
  . have hs:=q2M i hi b n hn hb h h1;have hc:=q1s (n:=n) hb;rw [q2Q h1];generalize takeC (b.drop n)=c at*;generalize takeN (b.drop n)=N at*;have hr:=j3h c hc;cases hx:timeP c with
    |error e=>rw [hx] at hr;have he:e≠0:=(fun _ _ h=>q6t h) _ _ hx;have hr':=q3I hr rfl;refine q0b (by simp) ?_;refine rQ fi129 ?_;refine eQ [0] (hs) ?_;refine eQ [2] (hr') ?_;refine effP [] (q6h (.int .i64 0) e he) ?_;trivial
    |ok x=>
     obtain ⟨v,m⟩:=x;rw [hx] at hr;have hr':=q3K hr rfl;rw [Ae] at hr';have hm:=(q4h) _ _ _ hx;simp only [closeP];by_cases hml:m<c.length
     . rw [if_pos hml];refine q0b (by simp) ?_;refine rQ fi129 ?_;refine eQ [0] (hs) ?_;refine eQ [2] (hr') ?_;refine cQ (q5a _) ?_;refine effP [2] (q4L c m hml) ?_;try rfl
     rw [if_neg hml];refine q0b (by simp) ?_;refine rQ fi129 ?_;refine eQ [0] (hs) ?_;refine eQ [2] (hr') ?_;refine cQ (q5a _) ?_;refine eQ [2] (q4p c m (by omega)) ?_;trivial
  rw [q3y h1];have hs:=q2P i hi b n hn hb h h1;generalize takeE (tagB i) (b.drop n)=e at*;refine q0b (by simp) ?_;refine rQ fi129 ?_;refine eQ [0] (hs) ?_;exact ⟨fun _=>trivial,fun q=>absurd (by omega) h1⟩
theorem j5P(i:Nat)(hi:i<=30)(b:List UInt8)(n:Nat)(hn:n<=b.length)(hb:b.length<=1099511627776):EffX Tryz.prog 73 [.agg [.ptr 0 0],rI i,.fn 74 [] []] b n (moR (fun v:List UInt8=>.isl .u8 v) (.isl .u8 [])) (mayP i octP (b.drop n)):=by
 cases h:nextB i (b.drop n) with
 |false=>rw [q2B h];have hs:=q2R i hi b n hn h;refine q0b (by simp) ?_;refine rQ fi73 ?_;refine eQ [0] (hs) ?_;try rfl
 |true=>
  rw [q2u h];by_cases h1:takeE (tagB i) (b.drop n)=0
  . have hs:=q2M i hi b n hn hb h h1;have hc:=q1s (n:=n) hb;rw [q2Q h1];generalize takeC (b.drop n)=c at*;generalize takeN (b.drop n)=N at*;have hr:=j6M c hc;cases hx:octP c with
    |error e=>rw [hx] at hr;have he:e≠0:=(fun _ _ h=>q6t h) _ _ hx;have hr':=q3I hr rfl;refine q0b (by simp) ?_;refine rQ fi73 ?_;refine eQ [0] (hs) ?_;refine eQ [2] (hr') ?_;refine effP [] (q8e [] e he) ?_;trivial
    |ok x=>
     obtain ⟨v,m⟩:=x;rw [hx] at hr;have hr':=q3K hr rfl;rw [Ae] at hr';have hm:=(q4h) _ _ _ hx;simp only [closeP];by_cases hml:m<c.length
     . rw [if_pos hml];refine q0b (by simp) ?_;refine rQ fi73 ?_;refine eQ [0] (hs) ?_;refine eQ [2] (hr') ?_;refine cQ (q7J _) ?_;refine effP [2] (q4L c m hml) ?_;try rfl
     rw [if_neg hml];refine q0b (by simp) ?_;refine rQ fi73 ?_;refine eQ [0] (hs) ?_;refine eQ [2] (hr') ?_;refine cQ (q7J _) ?_;refine eQ [2] (q4p c m (by omega)) ?_;trivial
  rw [q3y h1];have hs:=q2P i hi b n hn hb h h1;generalize takeE (tagB i) (b.drop n)=e at*;refine q0b (by simp) ?_;refine rQ fi73 ?_;refine eQ [0] (hs) ?_;exact ⟨fun _=>trivial,fun q=>absurd (by omega) h1⟩
theorem j4O(i:Nat)(hi:i<=30)(b:List UInt8)(n:Nat)(hn:n<=b.length)(hb:b.length<=1099511627776):EffX Tryz.prog 132 [.agg [.ptr 0 0],rI i,.fn 72 [] []] b n (moR (fun v:Prin=>.agg (PrinT.cells v)) (zPrin)) (mayP i nameP (b.drop n)):=by
 cases h:nextB i (b.drop n) with
 |false=>rw [q2B h];have hs:=q2R i hi b n hn h;refine q0b (by simp) ?_;refine rQ fi132 ?_;refine eQ [0] (hs) ?_;try rfl
 |true=>
  rw [q2u h];by_cases h1:takeE (tagB i) (b.drop n)=0
  . have hs:=q2M i hi b n hn hb h h1;have hc:=q1s (n:=n) hb;rw [q2Q h1];generalize takeC (b.drop n)=c at*;generalize takeN (b.drop n)=N at*;have hr:=j3I c hc;cases hx:nameP c with
    |error e=>rw [hx] at hr;have he:e≠0:=(j0r) _ _ hx;have hr':=q3I hr rfl;refine q0b (by simp) ?_;refine rQ fi132 ?_;refine eQ [0] (hs) ?_;refine eQ [3] (hr') ?_;refine effP [] (q9t ([],⟨#[]⟩) e he) ?_;trivial
    |ok x=>
     obtain ⟨v,m⟩:=x;rw [hx] at hr;have hr':=q3K hr rfl;rw [Ae] at hr';have hm:=(z4K) _ _ _ hx;simp only [closeP];by_cases hml:m<c.length
     . rw [if_pos hml];refine q0b (by simp) ?_;refine rQ fi132 ?_;refine eQ [0] (hs) ?_;refine eQ [3] (hr') ?_;refine cQ (q8y _) ?_;refine effP [3] (q4L c m hml) ?_;try rfl
     rw [if_neg hml];refine q0b (by simp) ?_;refine rQ fi132 ?_;refine eQ [0] (hs) ?_;refine eQ [3] (hr') ?_;refine cQ (q8y _) ?_;refine eQ [3] (q4p c m (by omega)) ?_;trivial
  rw [q3y h1];have hs:=q2P i hi b n hn hb h h1;generalize takeE (tagB i) (b.drop n)=e at*;refine q0b (by simp) ?_;refine rQ fi132 ?_;refine eQ [0] (hs) ?_;exact ⟨fun _=>trivial,fun q=>absurd (by omega) h1⟩
theorem j5i(i:Nat)(hi:i<=30)(b:List UInt8)(n:Nat)(hn:n<=b.length)(hb:b.length<=1099511627776):EffX Tryz.prog 76 [.agg [.ptr 0 0],rI i,.fn 77 [] []] b n (moR (fun v:Key=>.agg (KeyT.cells v)) (zKey)) (mayP i keyP (b.drop n)):=by
 cases h:nextB i (b.drop n) with
 |false=>rw [q2B h];have hs:=q2R i hi b n hn h;refine q0b (by simp) ?_;refine rQ fi76 ?_;refine eQ [0] (hs) ?_;try rfl
 |true=>
  rw [q2u h];by_cases h1:takeE (tagB i) (b.drop n)=0
  . have hs:=q2M i hi b n hn hb h h1;have hc:=q1s (n:=n) hb;rw [q2Q h1];generalize takeC (b.drop n)=c at*;generalize takeN (b.drop n)=N at*;have hr:=j6T c hc;cases hx:keyP c with
    |error e=>rw [hx] at hr;have he:e≠0:=(j4N) _ _ hx;have hr':=q3I hr rfl;refine q0b (by simp) ?_;refine rQ fi76 ?_;refine eQ [0] (hs) ?_;refine eQ [3] (hr') ?_;refine effP [] (z0s nKey e he) ?_;trivial
    |ok x=>
     obtain ⟨v,m⟩:=x;rw [hx] at hr;have hr':=q3K hr rfl;rw [Ae] at hr';have hm:=(q5c) _ _ _ hx;simp only [closeP];by_cases hml:m<c.length
     . rw [if_pos hml];refine q0b (by simp) ?_;refine rQ fi76 ?_;refine eQ [0] (hs) ?_;refine eQ [3] (hr') ?_;refine cQ (z1x _) ?_;refine effP [3] (q4L c m hml) ?_;try rfl
     rw [if_neg hml];refine q0b (by simp) ?_;refine rQ fi76 ?_;refine eQ [0] (hs) ?_;refine eQ [3] (hr') ?_;refine cQ (z1x _) ?_;refine eQ [3] (q4p c m (by omega)) ?_;trivial
  rw [q3y h1];have hs:=q2P i hi b n hn hb h h1;generalize takeE (tagB i) (b.drop n)=e at*;refine q0b (by simp) ?_;refine rQ fi76 ?_;refine eQ [0] (hs) ?_;exact ⟨fun _=>trivial,fun q=>absurd (by omega) h1⟩
theorem j2S(i:Nat)(hi:i<=30)(b:List UInt8)(n:Nat)(hn:n<=b.length)(hb:b.length<=1099511627776):EffX Tryz.prog 78 [.agg [.ptr 0 0],rI i,.fn 79 [] []] b n (moR (fun v:List Pre=>.isl PreT v) (zDat)) (mayP i dataP (b.drop n)):=by
 cases h:nextB i (b.drop n) with
 |false=>rw [q2B h];have hs:=q2R i hi b n hn h;refine q0b (by simp) ?_;refine rQ fi78 ?_;refine eQ [0] (hs) ?_;try rfl
 |true=>
  rw [q2u h];by_cases h1:takeE (tagB i) (b.drop n)=0
  . have hs:=q2M i hi b n hn hb h h1;have hc:=q1s (n:=n) hb;rw [q2Q h1];generalize takeC (b.drop n)=c at*;generalize takeN (b.drop n)=N at*;have hr:=j4Q c hc;cases hx:dataP c with
    |error e=>rw [hx] at hr;have he:e≠0:=(z9C) _ _ hx;have hr':=q3I hr rfl;refine q0b (by simp) ?_;refine rQ fi78 ?_;refine eQ [0] (hs) ?_;refine eQ [2] (hr') ?_;refine effP [] (q9G [] e he) ?_;trivial
    |ok x=>
     obtain ⟨v,m⟩:=x;rw [hx] at hr;have hr':=q3K hr rfl;rw [Ae] at hr';have hm:=(q5c) _ _ _ hx;simp only [closeP];by_cases hml:m<c.length
     . rw [if_pos hml];refine q0b (by simp) ?_;refine rQ fi78 ?_;refine eQ [0] (hs) ?_;refine eQ [2] (hr') ?_;refine cQ (q8x _) ?_;refine effP [2] (q4L c m hml) ?_;try rfl
     rw [if_neg hml];refine q0b (by simp) ?_;refine rQ fi78 ?_;refine eQ [0] (hs) ?_;refine eQ [2] (hr') ?_;refine cQ (q8x _) ?_;refine eQ [2] (q4p c m (by omega)) ?_;trivial
  rw [q3y h1];have hs:=q2P i hi b n hn hb h h1;generalize takeE (tagB i) (b.drop n)=e at*;refine q0b (by simp) ?_;refine rQ fi78 ?_;refine eQ [0] (hs) ?_;exact ⟨fun _=>trivial,fun q=>absurd (by omega) h1⟩
def z2k(i:Nat)(hi:i<=30)(b:List UInt8)(n:Nat)(hn:n<=b.length)(hb:b.length<=1099511627776):EffY Tryz.prog 69 [.agg [.ptr 0 0],rI i,.fn 70 [] []] b n (fun v=>rI v) (needP i intP (b.drop n)):=by
 have ho:=j6O i hi b n hn hb;cases h:nextB i (b.drop n) with
 |false=>rw [q1X h];have ho':=q0W ho (q2B h);refine ⟨6,?_⟩;refine q0b (by simp) ?_;refine rQ fi69 ?_;refine eQ [0] (ho') ?_;refine effP [0] (q5o b (n+0)) ?_;try rfl
 |true=>
  rw [q2b h];have hm:=q2u (p:=intP) h;cases hx:inP (tagB i) intP (b.drop n) with
  |error e=>rw [hx] at hm;have ho':=q2f ho hm;refine ⟨e,?_⟩;refine q0b (by simp) ?_;refine rQ fi69 ?_;refine effP [0] (ho') ?_;trivial
  |ok x=>obtain ⟨v,k⟩:=x;rw [hx] at hm;have ho':=q0W ho hm;refine q0b (by simp) ?_;refine rQ fi69 ?_;refine eQ [0] (ho') ?_;refine eQ [0] (q3x b (n+k)) ?_;trivial
def z9K(i:Nat)(hi:i<=30)(b:List UInt8)(n:Nat)(hn:n<=b.length)(hb:b.length<=1099511627776):EffY Tryz.prog 69 [.agg [.ptr 0 0],rI i,.fn 75 [] []] b n (fun v=>rI (v:Nat)) (needP i timeP (b.drop n)):=by
 have ho:=j2B i hi b n hn hb;cases h:nextB i (b.drop n) with
 |false=>rw [q1X h];have ho':=q0W ho (q2B h);refine ⟨6,?_⟩;refine q0b (by simp) ?_;refine rQ fi69 ?_;refine eQ [0] (ho') ?_;refine effP [0] (q5o b (n+0)) ?_;try rfl
 |true=>
  rw [q2b h];have hm:=q2u (p:=timeP) h;cases hx:inP (tagB i) timeP (b.drop n) with
  |error e=>rw [hx] at hm;have ho':=q2f ho hm;refine ⟨e,?_⟩;refine q0b (by simp) ?_;refine rQ fi69 ?_;refine effP [0] (ho') ?_;trivial
  |ok x=>obtain ⟨v,k⟩:=x;rw [hx] at hm;have ho':=q0W ho hm;refine q0b (by simp) ?_;refine rQ fi69 ?_;refine eQ [0] (ho') ?_;refine eQ [0] (q3x b (n+k)) ?_;trivial
def j0c(i:Nat)(hi:i<=30)(b:List UInt8)(n:Nat)(hn:n<=b.length)(hb:b.length<=1099511627776):EffY Tryz.prog 71 [.agg [.ptr 0 0],rI i,.fn 72 [] []] b n (fun v=>.agg (PrinT.cells v)) (needP i nameP (b.drop n)):=by
 have ho:=j4O i hi b n hn hb;cases h:nextB i (b.drop n) with
 |false=>rw [q1X h];have ho':=q0W ho (q2B h);refine ⟨6,?_⟩;refine q0b (by simp) ?_;refine rQ fi71 ?_;refine eQ [0] (ho') ?_;refine effP [0] (q5o b (n+0)) ?_;try rfl
 |true=>
  rw [q2b h];have hm:=q2u (p:=nameP) h;cases hx:inP (tagB i) nameP (b.drop n) with
  |error e=>rw [hx] at hm;have ho':=q2f ho hm;refine ⟨e,?_⟩;refine q0b (by simp) ?_;refine rQ fi71 ?_;refine effP [0] (ho') ?_;trivial
  |ok x=>obtain ⟨v,k⟩:=x;rw [hx] at hm;have ho':=q0W ho hm;refine q0b (by simp) ?_;refine rQ fi71 ?_;refine eQ [0] (ho') ?_;refine eQ [0] (q3x b (n+k)) ?_;trivial
set_option maxHeartbeats 40000000
abbrev zAut:SV:=.agg [.isl .str [],rS ⟨#[]⟩,.isl .u8 [],rI 0,rI 0,rI 0,rI 0,.isl .u8 [],rI 0,.isl PreT []]
@[go_sem] abbrev zAutC:List SV:=[.raw (.slice none 0 0),rS ⟨#[]⟩,.raw (.slice none 0 0),rI 0,rI 0,rI 0,rI 0,.raw (.slice none 0 0),rI 0,.raw (.slice none 0 0)]
def q1g(e:Int)(c0 c1 c2 c3 c4 c5 c6 c7 c8 c9 y:SV)(G:List SObj)(K:List SObj->Prop)(h:∀G',K (.cells 30 zAutC :: .cells 33 [rI 6] :: G++G')):
 DCall Tryz.prog 62 [.ptr 0 0,.ptr 1 0] (some (errV e)) (.cells 30 [c0,c1,c2,c3,c4,c5,c6,c7,c8,c9] :: .cells 33 [y] :: G) K:=by
 refine recE mixed fi62 ?_;simpa using h []
def j3P(H:List SObj)(K:List SObj->Prop)(h:∀G,K (H++G)):DCall Tryz.prog 62 [.ptr 0 0,.ptr 1 0] none H K:=by refine recE mixed fi62 ?_;simpa using h []
def optQ(i:Nat)(p:PR α)(d:α)(fit:α->Bool):PR α:=fun r=>match mayP i p r with
 |.ok (some v,k)=>if fit v then .ok (v,k) else .error 6
 |.ok (none,k)=>.ok (d,k)
 |.error e=>.error e
variable {d:α}{fit:α->Bool}
theorem q7t{v:α}{k:Nat}(h:optQ i p d fit r= .ok (v,k)):(mayP i p r= .ok (some v,k)∧fit v=true)∨(mayP i p r= .ok (none,k)∧v=d):=by
 unfold optQ at h;split at h
 . split at h
   . cases h;exact .inl ⟨by assumption,by assumption⟩
   cases h
 . cases h;exact .inr ⟨by assumption,rfl⟩
 cases h
theorem z2o{e:Nat}(h:optQ i p d fit r= .error e):(∃e',mayP i p r= .error e')∨∃v k,mayP i p r= .ok (some v,k)∧fit v=false:=by
 unfold optQ at h;split at h
 . split at h
   . cases h
   rename_i h1 h2;exact .inr ⟨_,_,h1,by simpa using h2⟩
 . cases h
 exact .inl ⟨_,by assumption⟩
def z6z:FitsP (mayP i p):=fun r v k h=>by
 cases hb:nextB i r with
 |false=>rw [q2B hb] at h;cases h;exact Al _
 |true=>
  rw [q2u hb] at h;cases hx:inP (tagB i) p r with
  |error e=>rw [hx] at h;cases h
  |ok x=>obtain ⟨u,m⟩:=x;rw [hx] at h;cases h;exact q5c r _ _ hx
def q7S:FitsP (optQ i p d fit):=fun r v k h=>by rcases q7t h with ⟨h1,_⟩ | ⟨h1,_⟩ <;>exact z6z r _ k h1
def q7c{v:Int}:needP i (cstP v) r=match needP i intP r with
 |.ok (w,k)=>if w=v then .ok ((),k) else .error 6
 |.error e=>.error e:=by
 cases h:nextB i r with
 |false=>rw [q1X h,q1X h]
 |true=>
  rw [q2b h,q2b h];by_cases h1:takeE (tagB i) r=0
  . rw [q2Q h1,q2Q h1];unfold cstP;cases hx:intP (takeC r) with
    |error e=>rfl
    |ok y=>
     obtain ⟨w,k⟩:=y;simp only;by_cases hw:w=v
     . rw [if_pos hw];simp only [closeP];by_cases hm:k< (takeC r).length
       . rw [if_pos hm,if_pos hm]
       rw [if_neg hm,if_neg hm];simp only;rw [if_pos hw]
     rw [if_neg hw];simp only [closeP];by_cases hm:k< (takeC r).length
     . rw [if_pos hm]
     rw [if_neg hm];simp only;rw [if_neg hw]
  rw [q3y h1,q3y h1]
def z2O{Q:α->Prop}(hd:Q d)(hp:OkP p Q):OkP (optQ i p d fit) Q:=fun r v m hr h=>by
 rcases q7t h with ⟨h1,_⟩ | ⟨_,rfl⟩
 . cases hb:nextB i r with
   |false=>rw [q2B hb] at h1;cases h1
   |true=>
    rw [q2u hb] at h1;cases hx:inP (tagB i) p r with
    |error e=>rw [hx] at h1;cases h1
    |ok x=>obtain ⟨u,n⟩:=x;rw [hx] at h1;cases h1;exact z1y hp r _ _ hr hx
 exact hd
def j1i:OkP datP PreT.ok:=z1y (q5h (Q1:=fun _=>True) q9Z fun _ _=>q5h (q4Q z2W) fun _ hc=>z7x ⟨trivial,hc⟩)
def z6D:OkP dataP (Ty.slice PreT).ok:=j7f (t:=PreT) 16 (by omega) j1i
def autIn:PR Aut:=bindP (needP 0 (cstP 5)) fun _=>bindP (needP 1 nameP) fun c=>bindP (optQ 2 octP [] fun s=>decide (0< (s.length:Int))) fun s=>bindP (needP 3 intP) fun m=>bindP (needP 4 timeP) fun t=>bindP (optQ 5 keyP nKey fun k=> !decide (k.1=0)) fun k=>bindP (needP 6 intP) fun q=>bindP (optQ 7 dataP [] fun d=>decide (0< (d.length:Int))) fun d=>retP ((c,s,(t:Int),m,k,q,d):Aut)
def autP:PR Aut:=inP (appB 2) (inP 48 autIn)
def autD(b:List UInt8):Option Aut:=match allP autP b with
 |.ok a=>if vAut a=true then some a else none
 |.error _=>none
def autDS(x:Option Aut):SV:=match x with
 |some a=>.tup [.agg (AutT.cells a),rI 0]
 |none=>.tup [zAut,rI 6]
def finA(c:List UInt8):Except Nat (Aut×Nat)->Option Aut
 |.ok (a,m)=>if m<c.length then none else if vAut a=true then some a else none
 |.error _=>none
variable {b:List UInt8}
def j3j(t1:takeE (appB 2) b=0)(t2:takeE 48 (takeC b)=0)(h1:¬takeN b<b.length)(h2:¬takeN (takeC b) < (takeC b).length):autD b=finA (takeC (takeC b)) (autIn (takeC (takeC b))):=by
 unfold autD allP autP;rw [q2Q t1,q2Q t2];cases autIn (takeC (takeC b)) with
 |error e=>rfl
 |ok x=>
  obtain ⟨a,m⟩:=x;simp only [closeP,finA];by_cases hm:m< (takeC (takeC b)).length
  . rw [if_pos hm,if_pos hm]
  rw [if_neg hm,if_neg hm];simp only [];rw [if_neg h2];simp only [];rw [if_neg h1]
def z9s(t1:takeE (appB 2) b=0)(t2:takeE 48 (takeC b)=0)(h:takeN b<b.length∨takeN (takeC b) < (takeC b).length):autD b=none:=by
 unfold autD allP autP;rw [q2Q t1,q2Q t2];cases autIn (takeC (takeC b)) with
 |error e=>rfl
 |ok x=>
  obtain ⟨a,m⟩:=x;simp only [closeP];by_cases hm:m< (takeC (takeC b)).length
  . rw [if_pos hm]
  rw [if_neg hm];simp only [];by_cases h2:takeN (takeC b) < (takeC b).length
  . rw [if_pos h2]
  rw [if_neg h2];simp only [];rw [if_pos (h.resolve_right h2)]
theorem z2c(x:Option Aut):(autDS x).clean=true:=by cases x<;>rfl
theorem q1b:autDS none= .tup [zAut,rI 6]:=rfl
theorem j1w(a:Aut):autDS (some a)= .tup [.agg (AutT.cells a),rI 0]:=rfl
theorem z0t(b:List UInt8)(hb:b.length<=1099511627776):PC Tryz.prog 15 [.isl .u8 b] (autDS (autD b)):=by
 have hnew:=j7e b (by omega);by_cases t1:takeE (appB 2) b=0;rotate_left
 . have hap:=j2O 2 (by decide) b 0 (Al _) hb t1;rw [Av] at hap;have hd:autD b=none:=by unfold autD allP autP;rw [q3y t1]
   rw [hd,q1b];refine q0n rfl rfl ?_;refine defE mixed fi15 ?_;refine gQ ?_;refine eQ [] (hnew) ?_;refine eQ [2] (hap) ?_;refine effP [] (q6i _ t1) ?_;refine ⟨by simp,q1g _ _ _ _ _ _ _ _ _ _ _ _ _ _ fun G=> ?_⟩;with_reducible refine sxE ?_;trivial
 have hap:=j4l 2 (by decide) b 0 (Al _) hb t1;rw [Av,Ae] at hap;have hc1:=q1s (n:=0) hb;have hn1:=q3i t1;rw [Av] at hc1;by_cases t2:takeE 48 (takeC b)=0;rotate_left
 . have hsq:=q5Z (takeC b) 0 (Al _) hc1 t2;rw [Av] at hsq;have hd:autD b=none:=by unfold autD allP autP;rw [q2Q t1,q3y t2];rfl
   rw [hd,q1b];refine q0n rfl rfl ?_;refine defE mixed fi15 ?_;refine gQ ?_;refine eQ [] (hnew) ?_;refine eQ [2] (hap) ?_;refine eQ [4] (q2w (takeC b) 0) ?_;refine eQ [4] (hsq) ?_;refine effP [] (q6i _ t2) ?_;refine ⟨by simp,q1g _ _ _ _ _ _ _ _ _ _ _ _ _ _ fun G=> ?_⟩;with_reducible refine sxE ?_;trivial
 have hsq:=q5z (takeC b) 0 (Al _) hc1 t2;rw [Av,Ae] at hsq;have hc2:=q1s (n:=0) hc1;have hn2:=q3i t2;rw [Av] at hc2;have hdi:=j3j t1 t2;have hdo:=z9s t1 t2;generalize takeC (takeC b)=c at*;generalize takeC b=c1 at*;generalize takeN c1=N2 at*;generalize takeN b=N1 at*;by_cases h2:N2<c1.length
 . rw [hdo (.inr h2),q1b];refine q0n rfl rfl ?_;refine defE mixed fi15 ?_;refine gQ ?_;refine eQ [] (hnew) ?_;refine eQ [2] (hap) ?_;refine eQ [4] (q2w c1 0) ?_;refine eQ [4] (hsq) ?_;refine eQ [6] (q2w c 0) ?_;refine effP [4] (q4L c1 N2 h2) ?_;refine ⟨by simp,q1g _ _ _ _ _ _ _ _ _ _ _ _ _ _ fun G=> ?_⟩;with_reducible refine sxE ?_;trivial
 by_cases h1:N1<b.length
 . rw [hdo (.inl h1),q1b];refine q0n rfl rfl ?_;refine defE mixed fi15 ?_;refine gQ ?_;refine eQ [] (hnew) ?_;refine eQ [2] (hap) ?_;refine eQ [4] (q2w c1 0) ?_;refine eQ [4] (hsq) ?_;refine eQ [6] (q2w c 0) ?_;refine eQ [4] (q4p c1 N2 (by omega)) ?_;refine effP [2] (q4L b N1 h1) ?_;refine ⟨by simp,q1g _ _ _ _ _ _ _ _ _ _ _ _ _ _ fun G=> ?_⟩;with_reducible refine sxE ?_;trivial
 rw [hdi h1 h2];clear hdi hdo;have hend2:=q4p c1 N2 (by omega);have hend1:=q4p b N1 (by omega);clear hn1 hn2 h1 h2 hb hc1;refine q0n rfl (z2c _) ?_;refine defE mixed fi15 ?_;refine gQ ?_;refine eQ [] (hnew) ?_;refine eQ [2] (hap) ?_;refine eQ [4] (q2w c1 0) ?_;refine eQ [4] (hsq) ?_;refine eQ [6] (q2w c 0) ?_;refine eQ [4] (hend2) ?_;refine q0i [2] hend1 rfl (by decide) (by repeat first|exact trivial|exact rfl|refine And.intro ?_ ?_) rfl rfl ?_;simp only [afterO,Out.ren,SV.ren,mgA,sig,SObj.ren,SV.renL,List.set,List.map,Ah];refine uQ 2 _ ?_;with_reducible refine sxE ?_
 clear hnew hap hsq hend1 hend2 t1 t2;refine z2N [7] mixed ?_;refine gQ ?_;have y0:=z2k 0 (by decide) c 0 (Al _) hc2;rw [Av] at y0;cases x0:needP 0 intP c with
 |error e=>
  obtain ⟨e',y0'⟩:=q7F y0 x0;have hx:needP 0 (cstP 5) c= .error e:=by rw [q7c,x0]
  rw [show autIn c= .error e from q0X hx];simp only [shiftP,finA];rw [q1b];refine q0s [6] (y0') rfl (by decide) ⟨rfl,rfl,trivial⟩ rfl rfl ?_ ?_
  . simp (maxSteps:=3000000) only [mgA,sig,q0w,q0D,SObj.ren,SV.ren,SV.renL,go_sem,↓zA,↓reduceIte,↓reduceDIte] <;>try simp only [zB]
  refine rnE ?_;refine z3H ?_;with_reducible refine sxE ?_
  refine ⟨by simp,q1g _ _ _ _ _ _ _ _ _ _ _ _ _ _ fun G=> ?_⟩;with_reducible refine sxE ?_;trivial
 |ok x=>
 obtain ⟨v0,k0⟩:=x;have y0':=q7Q y0 x0;rw [Ae] at y0';have f0:=q0T _ _ _ x0;by_cases hv:v0=5;rotate_left
 . have hx:needP 0 (cstP 5) c= .error 6:=by rw [q7c,x0];simp only;rw [if_neg hv]
   rw [show autIn c= .error 6 from q0X hx];simp only [shiftP,finA];rw [q1b];refine q0s [6] (y0') rfl (by decide) ⟨rfl,rfl,trivial⟩ rfl rfl ?_ ?_
   . simp (maxSteps:=3000000) only [mgA,sig,q0w,q0D,SObj.ren,SV.ren,SV.renL,go_sem,↓zA,↓reduceIte,↓reduceDIte] <;>try simp only [zB]
   refine rnE ?_;refine gQ ?_;rw [decide_eq_false hv];refine q0s [6] (q5o c k0) rfl (by decide) ⟨rfl,rfl,trivial⟩ rfl rfl ?_ ?_
   . simp (maxSteps:=3000000) only [mgA,sig,q0w,q0D,SObj.ren,SV.ren,SV.renL,go_sem,↓zA,↓reduceIte,↓reduceDIte] <;>try simp only [zB]
   refine rnE ?_;refine z3H ?_;with_reducible refine sxE ?_
   refine ⟨by simp,q1g _ _ _ _ _ _ _ _ _ _ _ _ _ _ fun G=> ?_⟩;with_reducible refine sxE ?_;trivial
 have hx:needP 0 (cstP 5) c= .ok ((),k0):=by rw [q7c,x0];simp only;rw [if_pos hv]
 rw [show autIn c=_ from q6G hx];refine q0s [6] (y0') rfl (by decide) ⟨rfl,rfl,trivial⟩ rfl rfl ?_ ?_
 . simp (maxSteps:=3000000) only [mgA,sig,q0w,q0D,SObj.ren,SV.ren,SV.renL,go_sem,↓zA,↓reduceIte,↓reduceDIte] <;>try simp only [zB]
 refine rnE ?_;refine gQ ?_;rw [decide_eq_true hv];refine q0s [6] (q3x c k0) rfl (by decide) ⟨rfl,rfl,trivial⟩ rfl rfl ?_ ?_
 . simp (maxSteps:=3000000) only [mgA,sig,q0w,q0D,SObj.ren,SV.ren,SV.renL,go_sem,↓zA,↓reduceIte,↓reduceDIte] <;>try simp only [zB]
 refine rnE ?_;refine gQ ?_;refine z8y ?_;refine gQ ?_;clear y0 y0' x0 hx hv

 have y1:=j0c 1 (by decide) c k0 f0 hc2;cases x1:needP 1 nameP (c.drop k0) with
 |error e=>obtain ⟨e',y'⟩:=q7F y1 x1;rw [q0X x1];simp only [shiftP,finA];rw [q1b];refine effP [6] (y') ?_;refine ⟨by simp,q1g _ _ _ _ _ _ _ _ _ _ _ _ _ _ fun G=> ?_⟩;with_reducible refine sxE ?_;trivial
 |ok x=>
 obtain ⟨v1,k1⟩:=x;have y':=q7Q y1 x1;rw [q1z x1];have f1:=q2y q0T f0 x1;have q1:=q4Q j0b _ _ _ (by rw [Aj];omega) x1;refine eQ [6] (y') ?_;clear y1 y' x1;have y2:=j5P 2 (by decide) c (k0+k1) f1 hc2;cases x2:optQ 2 octP [] (fun s=>decide (0< (s.length:Int))) (c.drop (k0+k1)) with
 |error e=>
  rw [q0X x2];simp only [shiftP,finA];rw [q1b];rcases z2o x2 with ⟨e',hm⟩ | ⟨v,k,hm,hf⟩
  . have y':=q2f y2 hm;refine effP [6] (y') ?_;refine ⟨by simp,q1g _ _ _ _ _ _ _ _ _ _ _ _ _ _ fun G=> ?_⟩;with_reducible refine sxE ?_;trivial
  have y':=q0W y2 hm;simp only [moR] at y';refine eQ [6] (y') ?_;rw [show decide (0< (v.length:Int))=false from hf];refine effP [6] (q5o c ((k0+k1)+k)) ?_;refine ⟨by simp,q1g _ _ _ _ _ _ _ _ _ _ _ _ _ _ fun G=> ?_⟩;with_reducible refine sxE ?_;trivial
 |ok x=>
 obtain ⟨v2,k2⟩:=x;rw [q1z x2];have f2:=q2y q7S f1 x2;have q2:=z2O (Q:=(Ty.slice .u8).ok) ⟨Al _,fun _ h=>by cases h⟩ z2W _ _ _ (by rw [Aj];omega) x2;apply q9m (q7t x2)
 . intro hm tail;obtain ⟨hm,hf⟩:=hm;have y':=q0W y2 hm;simp only [moR] at y';refine eQ [6] (y') ?_;rw [show decide (0< (v2.length:Int))=true from hf];refine q0i [6] (q3x c ((k0+k1)+k2)) rfl (by decide) (by repeat first|exact trivial|exact rfl|refine And.intro ?_ ?_) rfl rfl ?_;simp only [afterO,Out.ren,SV.ren,mgA,sig,SObj.ren,SV.renL,List.set,List.map,Ah];refine q2X [7,38,39,40,41,42,43,44,45,46,47,48,49,50,51,52,53] rfl ?_;simp only [maskT,putT,Bq,Cg,Bh,Bi];exact tail
 . intro hm tail;obtain ⟨hm,hs⟩:=hm;have y':PE Tryz.prog 73 [.agg [.ptr 0 0],rI ((2:Nat):Int),.fn 74 [] []] [rdr c (k0+k1)] (.ret (.tup [.isl .u8 v2,rB false])) [rdr c ((k0+k1)+k2)]:=by have q':=q0W y2 hm;simp only [moR] at q';rw [hs];exact q'
   refine eQ [6] (y') ?_;refine q0i [6] (q3x c ((k0+k1)+k2)) rfl (by decide) (by repeat first|exact trivial|exact rfl|refine And.intro ?_ ?_) rfl rfl ?_;simp only [afterO,Out.ren,SV.ren,mgA,sig,SObj.ren,SV.renL,List.set,List.map,Ah];refine q2X [7,38,39,40,41,42,43,44,45,46,47,48,49,50,51,52,53] rfl ?_;simp only [maskT,putT,Bq,Cg,Bh,Bi];exact tail
 refine gQ ?_;have y3:=z2k 3 (by decide) c (k0+k1+k2) f2 hc2;cases x3:needP 3 intP (c.drop (k0+k1+k2)) with
 |error e=>obtain ⟨e',y'⟩:=q7F y3 x3;rw [q0X x3];simp only [shiftP,finA];rw [q1b];refine effP [6] (y') ?_;refine ⟨by simp,q1g _ _ _ _ _ _ _ _ _ _ _ _ _ _ fun G=> ?_⟩;with_reducible refine sxE ?_;trivial
 |ok x=>
 obtain ⟨v3,k3⟩:=x;have y':=q7Q y3 x3;rw [q1z x3];have f3:=q2y q0T f2 x3;refine eQ [6] (y') ?_;clear y3 y' x3;have y4:=z9K 4 (by decide) c (k0+k1+k2+k3) f3 hc2;cases x4:needP 4 timeP (c.drop (k0+k1+k2+k3)) with
 |error e=>obtain ⟨e',y'⟩:=q7F y4 x4;rw [q0X x4];simp only [shiftP,finA];rw [q1b];refine effP [6] (y') ?_;refine ⟨by simp,q1g _ _ _ _ _ _ _ _ _ _ _ _ _ _ fun G=> ?_⟩;with_reducible refine sxE ?_;trivial
 |ok x=>
 obtain ⟨v4,k4⟩:=x;have y':=q7Q y4 x4;rw [q1z x4];have f4:=q2y q0T f3 x4;refine eQ [6] (y') ?_;clear y4 y' x4;have y5:=j5i 5 (by decide) c (k0+k1+k2+k3+k4) f4 hc2;cases x5:optQ 5 keyP nKey (fun k=> !decide (k.1=0)) (c.drop (k0+k1+k2+k3+k4)) with
 |error e=>
  rw [q0X x5];simp only [shiftP,finA];rw [q1b];rcases z2o x5 with ⟨e',hm⟩ | ⟨v,k,hm,hf⟩
  . have y':=q2f y5 hm;refine effP [6] (y') ?_;refine ⟨by simp,q1g _ _ _ _ _ _ _ _ _ _ _ _ _ _ fun G=> ?_⟩;with_reducible refine sxE ?_;trivial
  have y':=q0W y5 hm;simp only [moR] at y';refine eQ [6] (y') ?_;rw [show (!decide (v.1=0))=false from hf];refine effP [6] (q5o c ((k0+k1+k2+k3+k4)+k)) ?_;refine ⟨by simp,q1g _ _ _ _ _ _ _ _ _ _ _ _ _ _ fun G=> ?_⟩;with_reducible refine sxE ?_;trivial
 |ok x=>
 obtain ⟨v5,k5⟩:=x;rw [q1z x5];have f5:=q2y q7S f4 x5;have q5:=z2O (Q:=KeyT.ok) ⟨trivial,trivial,Al _,fun _ h=>by cases h⟩ j3Y _ _ _ (by rw [Aj];omega) x5;apply q9m (q7t x5)
 . intro hm tail;obtain ⟨hm,hf⟩:=hm;have y':=q0W y5 hm;simp only [moR] at y';refine eQ [6] (y') ?_;rw [show (!decide (v5.1=0))=true from hf];refine q0i [6] (q3x c ((k0+k1+k2+k3+k4)+k5)) rfl (by decide) (by repeat first|exact trivial|exact rfl|refine And.intro ?_ ?_) rfl rfl ?_;simp only [afterO,Out.ren,SV.ren,mgA,sig,SObj.ren,SV.renL,List.set,List.map,Ah];refine q2X [7,60,61,62,63,64,65,66,67,68,69,70,71,72,73,74,75] rfl ?_;simp only [maskT,putT,Bq,Cg,Bh,Bi];exact tail
 . intro hm tail;obtain ⟨hm,hs⟩:=hm;have y':PE Tryz.prog 76 [.agg [.ptr 0 0],rI ((5:Nat):Int),.fn 77 [] []] [rdr c (k0+k1+k2+k3+k4)] (.ret (.tup [.agg (KeyT.cells v5),rB false])) [rdr c ((k0+k1+k2+k3+k4)+k5)]:=by have q':=q0W y5 hm;simp only [moR] at q';rw [hs];exact q'
   refine eQ [6] (y') ?_;refine q0i [6] (q3x c ((k0+k1+k2+k3+k4)+k5)) rfl (by decide) (by repeat first|exact trivial|exact rfl|refine And.intro ?_ ?_) rfl rfl ?_;simp only [afterO,Out.ren,SV.ren,mgA,sig,SObj.ren,SV.renL,List.set,List.map,Ah];refine q2X [7,60,61,62,63,64,65,66,67,68,69,70,71,72,73,74,75] rfl ?_;simp only [maskT,putT,Bq,Cg,Bh,Bi];exact tail
 refine gQ ?_;have y6:=z2k 6 (by decide) c (k0+k1+k2+k3+k4+k5) f5 hc2;cases x6:needP 6 intP (c.drop (k0+k1+k2+k3+k4+k5)) with
 |error e=>obtain ⟨e',y'⟩:=q7F y6 x6;rw [q0X x6];simp only [shiftP,finA];rw [q1b];refine effP [6] (y') ?_;refine ⟨by simp,q1g _ _ _ _ _ _ _ _ _ _ _ _ _ _ fun G=> ?_⟩;with_reducible refine sxE ?_;trivial
 |ok x=>
 obtain ⟨v6,k6⟩:=x;have y':=q7Q y6 x6;rw [q1z x6];have f6:=q2y q0T f5 x6;refine eQ [6] (y') ?_;clear y6 y' x6;have y7:=j2S 7 (by decide) c (k0+k1+k2+k3+k4+k5+k6) f6 hc2;cases x7:optQ 7 dataP [] (fun d=>decide (0< (d.length:Int))) (c.drop (k0+k1+k2+k3+k4+k5+k6)) with
 |error e=>
  rw [q0X x7];simp only [shiftP,finA];rw [q1b];rcases z2o x7 with ⟨e',hm⟩ | ⟨v,k,hm,hf⟩
  . have y':=q2f y7 hm;refine effP [6] (y') ?_;refine ⟨by simp,q1g _ _ _ _ _ _ _ _ _ _ _ _ _ _ fun G=> ?_⟩;with_reducible refine sxE ?_;trivial
  have y':=q0W y7 hm;simp only [moR] at y';refine eQ [6] (y') ?_;rw [show decide (0< (v.length:Int))=false from hf];refine effP [6] (q5o c ((k0+k1+k2+k3+k4+k5+k6)+k)) ?_;refine ⟨by simp,q1g _ _ _ _ _ _ _ _ _ _ _ _ _ _ fun G=> ?_⟩;with_reducible refine sxE ?_;trivial
 |ok x=>
 obtain ⟨v7,k7⟩:=x;rw [q1z x7];have f7:=q2y q7S f6 x7;have q7:=z2O (Q:=(Ty.slice PreT).ok) ⟨Al _,fun _ h=>by cases h⟩ z6D _ _ _ (by rw [Aj];omega) x7;apply q9m (q7t x7)
 . intro hm tail;obtain ⟨hm,hf⟩:=hm;have y':=q0W y7 hm;simp only [moR] at y';refine eQ [6] (y') ?_;rw [show decide (0< (v7.length:Int))=true from hf];refine q0i [6] (q3x c ((k0+k1+k2+k3+k4+k5+k6)+k7)) rfl (by decide) (by repeat first|exact trivial|exact rfl|refine And.intro ?_ ?_) rfl rfl ?_;simp only [afterO,Out.ren,SV.ren,mgA,sig,SObj.ren,SV.renL,List.set,List.map,Ah];refine q2X [7,79,80,81,82,83,84,85,86,87,88,89,90,91,92,93,94] rfl ?_;simp only [maskT,putT,Bq,Cg,Bh,Bi];exact tail
 . intro hm tail;obtain ⟨hm,hs⟩:=hm;have y':PE Tryz.prog 78 [.agg [.ptr 0 0],rI ((7:Nat):Int),.fn 79 [] []] [rdr c (k0+k1+k2+k3+k4+k5+k6)] (.ret (.tup [.isl PreT v7,rB false])) [rdr c ((k0+k1+k2+k3+k4+k5+k6)+k7)]:=by have q':=q0W y7 hm;simp only [moR] at q';rw [hs];exact q'
   refine eQ [6] (y') ?_;refine q0i [6] (q3x c ((k0+k1+k2+k3+k4+k5+k6)+k7)) rfl (by decide) (by repeat first|exact trivial|exact rfl|refine And.intro ?_ ?_) rfl rfl ?_;simp only [afterO,Out.ren,SV.ren,mgA,sig,SObj.ren,SV.renL,List.set,List.map,Ah];refine q2X [7,79,80,81,82,83,84,85,86,87,88,89,90,91,92,93,94] rfl ?_;simp only [maskT,putT,Bq,Cg,Bh,Bi];exact tail
 refine gQ ?_;simp only [shiftP,retP,finA];by_cases hm:(k0+k1+k2+k3+k4+k5+k6+k7) <c.length
 . rw [if_pos (by omega),q1b];refine effP [6] (q4L c (k0+k1+k2+k3+k4+k5+k6+k7) hm) ?_;refine ⟨by simp,q1g _ _ _ _ _ _ _ _ _ _ _ _ _ _ fun G=> ?_⟩;with_reducible refine sxE ?_;trivial
 rw [if_neg (by omega)];refine q0i [6] (q4p c (k0+k1+k2+k3+k4+k5+k6+k7) (by omega)) rfl (by decide) (by repeat first|exact trivial|exact rfl|refine And.intro ?_ ?_) rfl rfl ?_;simp only [afterO,Out.ren,SV.ren,mgA,sig,SObj.ren,SV.renL,List.set,List.map,Ah];have hva:=q9n (v1,v2,(v4:Int),v3,v5,v6,v7) ⟨q1,q2,trivial,trivial,q5,trivial,q7⟩;refine uQ 2 _ ?_;with_reducible refine sxE ?_
 refine z2N [7,0] mixed ?_;refine gQ ?_;cases hx:vAut (v1,v2,(v4:Int),v3,v5,v6,v7) with
 |false=>
  rw [hx] at hva;rw [if_neg (by decide),q1b];refine cR hva ?_;refine q0s [6] (q5o c (k0+k1+k2+k3+k4+k5+k6+k7)) rfl (by decide) ⟨rfl,rfl,trivial⟩ rfl rfl ?_ ?_
  . simp (maxSteps:=3000000) only [mgA,sig,q0w,q0D,SObj.ren,SV.ren,SV.renL,go_sem,↓zA,↓reduceIte,↓reduceDIte] <;>try simp only [zB]
  refine rnE ?_;refine z3H ?_;with_reducible refine sxE ?_
  refine ⟨by simp,q1g _ _ _ _ _ _ _ _ _ _ _ _ _ _ fun G=> ?_⟩;with_reducible refine sxE ?_;trivial
 |true=>
  rw [hx] at hva;rw [if_pos rfl,j1w];refine cR hva ?_;refine q0s [6] (q3x c (k0+k1+k2+k3+k4+k5+k6+k7)) rfl (by decide) ⟨rfl,rfl,trivial⟩ rfl rfl ?_ ?_
  . simp (maxSteps:=3000000) only [mgA,sig,q0w,q0D,SObj.ren,SV.ren,SV.renL,go_sem,↓zA,↓reduceIte,↓reduceDIte] <;>try simp only [zB]
  refine rnE ?_;refine gQ ?_;refine z8y ?_;refine gQ ?_;refine j3P _ _ fun G=> ?_;with_reducible refine sxE ?_;trivial
def irg18:GI:=⟨33,[.cell 8 44,.tmp 9],[(.reg [o1 4 (.box 27 (.tmp 0)),o1 6 (.box 30 (.tmp 2)),o1 8 (.new 44 [(.int .i64 0),(.int .i64 0),(.slice none 0 0)]),o1 9 (.mov (ci 0))])],[.ic (.reg [o1 10 (.new 44 [(.int .i64 0),(.int .i64 0),(.slice none 0 0)])]),.ic (.reg [o1 14 (.ld (some 10) (.tmp 6)),o1 15 (.call (.func 10) [(.tmp 14)]),mv 13 15,ex 16 0 13,ex 17 1 13,mv 11 16,mv 12 17]),.ic (.reg [mv 18 12,o1 19 (.bin .neq 0 (.tmp 18) (ci 0))]),.gc (.tmp 19),.ic (.reg [o1 21 (.ld (some 3) (.tmp 4)),mv 22 1,mv 23 3,mv 24 11,o1 25 (.call (.func 90) [(.tmp 21),(.tmp 22),(.tmp 23),(.tmp 24)]),mv 20 25,ex 26 0 20,ex 27 1 20,o0 (.st 3 (.tmp 10) (.tmp 26)),mv 12 27]),.ic (.reg [mv 28 12,o1 29 (.bin .neq 0 (.tmp 28) (ci 0))]),.gc (.tmp 29),.ic (.reg [o1 30 (.ld (some 3) (.tmp 10)),o0 (.st 3 (.tmp 8) (.tmp 30)),o1 9 (.mov (ci 0))]),.ic .ret],[(.reg [o1 31 (.bld [(.int .i64 0),(.int .i64 0),(.slice none 0 0)] (.fields [(0,1),(1,1),(2,1)]) []),mv 32 12,o0 (.st 3 (.tmp 8) (.tmp 31)),mv 9 32]),.ret],[.skip,(.reg [o1 31 (.bld [(.int .i64 0),(.int .i64 0),(.slice none 0 0)] (.fields [(0,1),(1,1),(2,1)]) []),mv 32 12,o0 (.st 3 (.tmp 8) (.tmp 31)),mv 9 32]),.ret]⟩
def fig18:ginfo Tryz.prog 18=some irg18:=by kernel_rfl
attribute [go_sem] irg18
def irg20:GI:=⟨30,[.cell 6 30,.tmp 7],[(.reg [o1 3 (.box 27 (.tmp 0)),o1 5 (.box 44 (.tmp 2)),o1 6 (.new 30 [(.slice none 0 0),(.string ⟨#[]⟩),(.slice none 0 0),(.int .i64 0),(.int .i64 0),(.int .i64 0),(.int .i64 0),(.slice none 0 0),(.int .i64 0),(.slice none 0 0)]),o1 7 (.mov (ci 0))])],[.ic (.reg [o1 8 (.new 30 [(.slice none 0 0),(.string ⟨#[]⟩),(.slice none 0 0),(.int .i64 0),(.int .i64 0),(.int .i64 0),(.int .i64 0),(.slice none 0 0),(.int .i64 0),(.slice none 0 0)])]),.ic (.reg [o1 12 (.ld (some 3) (.tmp 3)),mv 13 1,o1 14 (.ld (some 3) (.tmp 5)),o1 15 (.call (.func 92) [(.tmp 12),(.tmp 13),(.tmp 14)]),mv 11 15,ex 16 0 11,ex 17 1 11,mv 9 16,mv 10 17]),.ic (.reg [mv 18 10,o1 19 (.bin .neq 0 (.tmp 18) (ci 0))]),.gc (.tmp 19),.ic (.reg [mv 21 9,o1 22 (.call (.func 15) [(.tmp 21)]),mv 20 22,ex 23 0 20,ex 24 1 20,o0 (.st 10 (.tmp 8) (.tmp 23)),mv 10 24]),.ic (.reg [mv 25 10,o1 26 (.bin .neq 0 (.tmp 25) (ci 0))]),.gc (.tmp 26),.ic (.reg [o1 27 (.ld (some 10) (.tmp 8)),o0 (.st 10 (.tmp 6) (.tmp 27)),o1 7 (.mov (ci 0))]),.ic .ret],[(.reg [o1 28 (.bld [(.slice none 0 0),(.string ⟨#[]⟩),(.slice none 0 0),(.int .i64 0),(.int .i64 0),(.int .i64 0),(.int .i64 0),(.slice none 0 0),(.int .i64 0),(.slice none 0 0)] (.fields [(0,2),(2,1),(3,1),(4,1),(5,3),(8,1),(9,1)]) []),mv 29 10,o0 (.st 10 (.tmp 6) (.tmp 28)),mv 7 29]),.ret],[.skip,(.reg [o1 28 (.bld [(.slice none 0 0),(.string ⟨#[]⟩),(.slice none 0 0),(.int .i64 0),(.int .i64 0),(.int .i64 0),(.int .i64 0),(.slice none 0 0),(.int .i64 0),(.slice none 0 0)] (.fields [(0,2),(2,1),(3,1),(4,1),(5,3),(8,1),(9,1)]) []),mv 29 10,o0 (.st 10 (.tmp 6) (.tmp 28)),mv 7 29]),.ret]⟩
def fig20:ginfo Tryz.prog 20=some irg20:=by kernel_rfl
attribute [go_sem] irg20
def j3t(k:Key)(a:Aut)(ho:AutT.ok a)(u:Int)(conf:List UInt8)(sp sv:Int)(sb:List UInt8)(e:Int)(hs:vAut a=true->PC Tryz.prog 90 [.agg (KeyT.cells k),rI u,.isl .u8 conf,.isl .u8 (autS a)] (.tup [.agg [rI sp,rI sv,.isl .u8 sb],rI e])):
 PC Tryz.prog 18 [.agg (KeyT.cells k),rI u,.agg (AutT.cells a),.isl .u8 conf] (if vAut a=true then if e=0 then .tup [.agg [rI sp,rI sv,.isl .u8 sb],rI 0] else .tup [.agg [rI 0,rI 0,.isl .u8 []],rI e] else .tup [.agg [rI 0,rI 0,.isl .u8 []],rI 2]):=by
 have c1:=z1g a ho;cases hv:vAut a with
 |false=>
  rw [hv] at c1;simp only [if_false,AY,if_true] at c1⊢;obtain ⟨k1,k2,k3⟩:=k;obtain ⟨c,s,t,m,x,q,d⟩:=a;refine q0n rfl rfl ?_;refine z4W fig18 (q0r mixed 600 _ ?_);simp (maxSteps:=3000000) only [irg18,go_sem,↓zA,↓reduceIte,↓reduceDIte] <;>try simp only [zB]
  simp only [GoI];refine gQ ?_;refine gQ ?_;refine cQ c1 ?_;refine gQ ?_;refine gQ ?_;trivial
 |true=>
  rw [hv] at c1;simp only [if_true,reduceIte] at c1⊢;replace hs:=hs hv;obtain ⟨k1,k2,k3⟩:=k;obtain ⟨c,s,t,m,x,q,d⟩:=a;by_cases he:e=0
  . subst he;simp only [if_true,reduceIte];refine q0n rfl rfl ?_;refine z4W fig18 (q0r mixed 600 _ ?_);simp (maxSteps:=3000000) only [irg18,go_sem,↓zA,↓reduceIte,↓reduceDIte] <;>try simp only [zB]
    simp only [GoI];refine gQ ?_;refine gQ ?_;refine cQ c1 ?_;refine gQ ?_;refine gQ ?_;refine cQ hs ?_;refine gQ ?_;refine gQ ?_;refine gQ ?_;trivial
  rw [if_neg he];refine q0n rfl rfl ?_;refine z4W fig18 (q0r mixed 600 _ ?_);simp (maxSteps:=3000000) only [irg18,go_sem,↓zA,↓reduceIte,↓reduceDIte] <;>try simp only [zB]
  simp only [GoI];refine gQ ?_;refine gQ ?_;refine cQ c1 ?_;refine gQ ?_;refine gQ ?_;refine cQ hs ?_;refine gQ ?_;refine ⟨fun _=> ?_,fun h=>absurd h he⟩;refine gQ ?_;trivial
def j5d(k:Key)(u:Int)(sp sv:Int)(sb:List UInt8)(e:Int)(he:e≠0)(pl:List UInt8)(hs:PC Tryz.prog 92 [.agg (KeyT.cells k),rI u,.agg [rI sp,rI sv,.isl .u8 sb]] (.tup [.isl .u8 pl,rI e])):
 PC Tryz.prog 20 [.agg (KeyT.cells k),rI u,.agg [rI sp,rI sv,.isl .u8 sb]] (.tup [zAut,rI e]):=by
 obtain ⟨k1,k2,k3⟩:=k;unfold zAut;refine q0n rfl rfl ?_;refine z4W fig20 (q0r mixed 600 _ ?_);simp (maxSteps:=3000000) only [irg20,go_sem,↓zA,↓reduceIte,↓reduceDIte] <;>try simp only [zB]
 simp only [GoI];refine gQ ?_;refine gQ ?_;refine cQ hs ?_;refine gQ ?_;refine ⟨fun _=> ?_,fun h=>absurd h he⟩;refine gQ ?_;trivial
def j4B(k:Key)(u:Int)(sp sv:Int)(sb:List UInt8)(pl:List UInt8)(hl:pl.length<=1099511627776)(hs:PC Tryz.prog 92 [.agg (KeyT.cells k),rI u,.agg [rI sp,rI sv,.isl .u8 sb]] (.tup [.isl .u8 pl,rI 0])):
 PC Tryz.prog 20 [.agg (KeyT.cells k),rI u,.agg [rI sp,rI sv,.isl .u8 sb]] (autDS (autD pl)):=by
 have hd:=z0t pl hl;obtain ⟨k1,k2,k3⟩:=k;cases hx:autD pl with
 |some a=>
  rw [hx] at hd;obtain ⟨c,s,t,m,x,q,d⟩:=a;unfold autDS at hd⊢;refine q0n rfl rfl ?_;refine z4W fig20 (q0r mixed 600 _ ?_);simp (maxSteps:=3000000) only [irg20,go_sem,↓zA,↓reduceIte,↓reduceDIte] <;>try simp only [zB]
  simp only [GoI];refine gQ ?_;refine gQ ?_;refine cQ hs ?_;refine gQ ?_;refine gQ ?_;refine cQ hd ?_;refine gQ ?_;refine gQ ?_;refine gQ ?_;trivial
 |none=>
  rw [hx] at hd;unfold autDS zAut at hd⊢;refine q0n rfl rfl ?_;refine z4W fig20 (q0r mixed 600 _ ?_);simp (maxSteps:=3000000) only [irg20,go_sem,↓zA,↓reduceIte,↓reduceDIte] <;>try simp only [zB]
  simp only [GoI];refine gQ ?_;refine gQ ?_;refine cQ hs ?_;refine gQ ?_;refine gQ ?_;refine cQ hd ?_;refine gQ ?_;refine gQ ?_;trivial
end Go.Proofs.YthbcodbcndiapaaGreatDoor