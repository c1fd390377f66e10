/- A part of the proof: a symbolic executor over abstract values, and its soundness. -/
import Derived.Test.YthbcodbcndiapaaGreatDoorX8
set_option linter.all false
namespace Go.Sx
open Go

variable {P:Program} {AQ:Ex->List SV->List SObj->Prop} {k0:Nat} {k:List It} {t:List SV} {H:List SObj}

structure C2P where
 f:FuncId
 p:Nat
 d0:Nat
 d1:Nat
 d2:Nat
 d3:Nat
 d4:Nat
 d5:Nat
 T:TypeId
 m:Nat
 zs:List Value
 ty:Ty
 x:ty.den

def needs(o:Oper)(j:Nat):Prop:=∃e∈o.after,Region.binds .any e=true/\e.on=j
structure IsC2 (P:Program) (all:Array Oper) (c:C2P):Prop where
 size:all.size=8
 top:∀ (i:Nat) (o:Oper),all[i]?=some o->∀e∈o.after,e.on<i
 o0:∃o,all[0]?=some o/\o.op= .load c.T (.tmp c.p)/\o.dst=some c.d0/\o.guard=none
 o1:∃o cl,all[1]?=some o/\o.op= .call cl/\cl.callee= .value (.func c.f)/\cl.args= #[.tmp c.d0]/\o.dst=some c.d1/\o.guard=none/\needs o 0
 o2:∃o,all[2]?=some o/\o.op= .load c.T (.tmp c.p)/\o.dst=some c.d2/\o.guard=none
 o3:∃o cl,all[3]?=some o/\o.op= .call cl/\cl.callee= .value (.func c.f)/\cl.args= #[.tmp c.d2]/\o.dst=some c.d3/\o.guard=none/\needs o 2
 o4:∃o,all[4]?=some o/\o.op= .alloc c.T/\o.dst=some c.d4/\o.guard=none
 o5:∃o,all[5]?=some o/\o.op= .alloc c.T/\o.dst=some c.d5/\o.guard=none
 o6:∃o,all[6]?=some o/\o.op= .store c.T (.tmp c.d4) (.tmp c.d1)/\o.dst=none/\o.guard=none/\needs o 4/\needs o 1
 o7:∃o,all[7]?=some o/\o.op= .store c.T (.tmp c.d5) (.tmp c.d3)/\o.dst=none/\o.guard=none/\needs o 5/\needs o 3
 ag:aggOf P c.T=some (some c.m)
 zero:(P.info? c.T).bind (λi=>i.zero.map (·.cells.toList))=some c.zs
 zlen:c.zs.length=c.m
 tsz:c.ty.size=c.m
 en:enters P c.f=true
 nd:[c.p,c.d0,c.d1,c.d2,c.d3,c.d4,c.d5].Nodup

def Far(E:EnD)(C:Cx)(H:List SObj)(b:Nat):Prop:=E.C.w.heap.size<=b/\b<C.w.heap.size/\¬C.I b/\¬OwnB C H b/\Unf C.w b
def Far.ext{E:EnD}{C C':Cx}{b:Nat}(h:Far E C H b)(z:Ext ⟨C,H⟩ C' H):Far E C' H b/\C'.w.heap[b]?=C.w.heap[b]?:=by obtain ⟨x,u,m,y,s⟩:=h;obtain ⟨l,j,A,e⟩:=z2q z u m y;exact ⟨⟨x,l,j,A,s.keep e⟩,e⟩

def upd(β:Nat->Bool)(i:Nat):Nat->Bool:=λj=>if j=i then true else β j
structure R2 (c:C2P) (E:EnD) (tm:List SV) (H:List SObj) (β:Nat->Bool) (vs:List Value) (q:Nat->Prop) (b4 b5:Nat) (C:Cx) (a:Act):Prop where
 den: @Den noGhost E C tm H a
 f0:β 0=true->∃ws:List Value,a.tmps[c.d0]?=some (.agg ws.toArray)/\SV.denL C (c.ty.cells c.x) ws
 f1:β 1=true->a.tmps[c.d1]?=some (.agg vs.toArray)/\c.ty.rel q C.w c.x vs/\∀b,q b->Far E C H b
 f2:β 2=true->∃ws:List Value,a.tmps[c.d2]?=some (.agg ws.toArray)/\SV.denL C (c.ty.cells c.x) ws
 f3:β 3=true->∃ws:List Value,a.tmps[c.d3]?=some (.agg ws.toArray)/\SV.denL C (c.ty.cells c.x) ws
 f4:β 4=true->a.tmps[c.d4]?=some (.pointer (some ⟨b4,0,none⟩))/\Far E C H b4/\(β 1=true->¬q b4)/\C.w.heap[b4]?=some (.cells (if β 6=true then vs else c.zs).toArray c.T (0,0))
 f5:β 5=true->a.tmps[c.d5]?=some (.pointer (some ⟨b5,0,none⟩))/\Far E C H b5/\(β 1=true->¬q b5)/\(β 4=true->b5≠b4)/\∃us:List Value,C.w.heap[b5]?=some (.cells us.toArray c.T (0,0))/\us.length=c.m/\(β 7=true->SV.denL C (c.ty.cells c.x) us)
 i6:β 6=true->β 4=true/\β 1=true
 i7:β 7=true->β 5=true/\β 3=true

variable {c:C2P} {E:EnD} {tm:List SV} {β:Nat->Bool} {vs:List Value} {q:Nat->Prop} {b4 b5:Nat} {C C':Cx} {a:Act}

theorem R2.ext(r:R2 c E tm H β vs q b4 b5 C a)(x:Wd C' H)(j:Ext ⟨C,H⟩ C' H):R2 c E tm H β vs q b4 b5 C' a where
 den:=⟨x,r.den.ext.trans j,⟨r.den.defs.1,⟨r.den.defs.2.1.tab.next j,r.den.defs.2.1.old⟩,trivial⟩,q0f j.evo r.den.tmps⟩
 f0:=λh=>by obtain ⟨ws,l,e⟩:=r.f0 h;exact ⟨ws,l,q0f j.evo e⟩
 f1:=λh=>by obtain ⟨l,e,m⟩:=r.f1 h;exact ⟨l,Ty.rel_keep (λb s=>⟨s,((m b s).ext j).2⟩) _ _ _ e,λb s=>((m b s).ext j).1⟩
 f2:=λh=>by obtain ⟨ws,l,e⟩:=r.f2 h;exact ⟨ws,l,q0f j.evo e⟩
 f3:=λh=>by obtain ⟨ws,l,e⟩:=r.f3 h;exact ⟨ws,l,q0f j.evo e⟩
 f4:=λh=>by obtain ⟨l,e,m,u⟩:=r.f4 h;exact ⟨l,(e.ext j).1,m,(e.ext j).2.trans u⟩
 f5:=λh=>by obtain ⟨l,e,m,u,us,A,y,z⟩:=r.f5 h;exact ⟨l,(e.ext j).1,m,u,us,(e.ext j).2.trans A,y,λh=>q0f j.evo (z h)⟩
 i6:=r.i6
 i7:=r.i7

variable {d:Nat}{v:Value}
theorem j4s(h: @Den noGhost E C tm H a)(hd:tm[d]?=some .any): @Den noGhost E C tm H (a.put (some d) v):=by
 refine ⟨h.wd,h.ext,⟨h.defs.1,h.defs.2.1,trivial⟩,?_⟩;simp only [Act.put,Array.toList_setIfInBounds];have h1:=q1u (i:=d) (s:=.any) (v:=v) h.tmps (by rw [SV.den];trivial);have h2:tm.set d .any=tm:=by apply AE;grind
 grind
theorem q5B(h: @Den noGhost E C tm H a)(hd:tm[d]?=some .any):(a.put (some d) v).tmps[d]?=some v:=by
 have e:d<a.tmps.size:=by have:=q0v h.tmps;grind
 simp [Act.put,e]
theorem j7R{e:Nat}(h:d≠e):(a.put (some d) v).tmps[e]?=a.tmps[e]?:=by grind [Act.put]

theorem R2.put{i d:Nat}{v:Value}(r:R2 c E tm H β vs q b4 b5 C a)(hnd:[c.p,c.d0,c.d1,c.d2,c.d3,c.d4,c.d5].Nodup)(hi:β i=false)(hd:[c.d0,c.d1,c.d2,c.d3,c.d4,c.d5][i]?=some d)(s:tm[d]?=some .any):R2 c E tm H β vs q b4 b5 C (a.put (some d) v):=by
 have key:∀ (j e:Nat),[c.d0,c.d1,c.d2,c.d3,c.d4,c.d5][j]?=some e->β j=true->(a.put (some d) v).tmps[e]?=a.tmps[e]?:=λj e he hj=>j7R λh=>by grind [List.getElem?_inj]
 refine ⟨j4s r.den s,λh=> ?_,λh=> ?_,λh=> ?_,λh=> ?_,λh=> ?_,λh=> ?_,r.i6,r.i7⟩
 . obtain ⟨ws,m,l⟩:=r.f0 h;grind
 . obtain ⟨m,l⟩:=r.f1 h;grind
 . obtain ⟨ws,m,l⟩:=r.f2 h;grind
 . obtain ⟨ws,m,l⟩:=r.f3 h;grind
 . obtain ⟨m,l⟩:=r.f4 h;grind
 obtain ⟨m,l⟩:=r.f5 h;grind

theorem q6G(h:a.tmps[d]?=some v):a.eval (.tmp d)=v:=by simp_all [Act.eval]

variable {o:Oper}{h:Nat}{T':TypeId}
theorem j7I{p:Nat}(hop:o.op= .load c.T (.tmp p))(A:aggOf P c.T=some (some c.m))(K:c.ty.size=c.m)(B: @Den noGhost E C tm H a)(G:tm[p]?=some (.ptr h 0))(J:H[h]?=some (.cells T' (c.ty.cells c.x))):
 ∃ws:List Value,(execOp a.eval o).run P C.w= .ok (.value (.agg ws.toArray)) C.w/\SV.denL C (c.ty.cells c.x) ws:=by
 obtain ⟨v,hv,D⟩:=q1v B.tmps G;rw [SV.den] at D;obtain ⟨_,b,F,rfl⟩:=D;obtain ⟨b',us,l,e,y⟩:=B.wd.obj h _ J;rw [F] at l;cases l;have hv':a.eval (.tmp p)= .pointer (some ⟨b,0,none⟩):=q6G (by grind);have I:(c.ty.cells c.x).length=c.m:=by rw [Ty.cells_length,K]
 obtain ⟨v,h1,z⟩:=q1b (P:=P) A (b:=b) (base:=0) (off:=0) (s:=.agg (c.ty.cells c.x)) y (λj u O=>by rw [Ag,q0h e];exact O) (by
  simp only [pick,Ag,I,Ac,if_true,Ap,Option.some.injEq,SV.agg.injEq]
  grind)
 rw [SV.den] at z;obtain ⟨ws,rfl,z⟩:=z
 simp_all [execOp,Instr.loadAt,Instr.sureAddr]

variable {f:FuncId}{w:World}{r:Option Nat}{n:Nat}{Q:Exit->Act->World->Prop}
theorem z6z{cl:Call}{R:Ending->World->Prop}{next:Act->World->Prop}(hop:o.op= .call cl)(hc:cl.callee= .value (.func f))(ha:cl.args= #[.tmp d])(hen:enters P f=true)
 (s:a.tmps[d]?=some v)(j:Calls P f #[v] w R)(hR:∀e w',R e w'->∃u,e= .returned u/\next (a.put o.dst u) w'):o.wpIn (Fw r) n P a w next Q:=by
 refine ⟨λf _=>q4g r f,?_⟩;rw [Oper.semAt_eq _ _ _ (by simp_all)];have he:=q6G s;have l:(execOp a.eval o).run P w= .ok (.enter f #[v]) w:=by have hf:a.eval (.func f)= .func (.func f) #[] #[]:=rfl;grind [execOp,resolve,Deferred.ofValue,invoke,q2n]
 rw [l];refine ⟨(λm=>by cases m),q2S (j.mono λe w' h=> ?_)⟩;grind

theorem z4s{T:TypeId}{zs:List Value}(e:o.op= .alloc T)(l:(P.info? T).bind (λi=>i.zero.map (·.cells.toList))=some zs)(w:World):
 (execOp a.eval o).run P w= .ok (.value (.pointer (some ⟨w.heap.size,0,none⟩))) (w.alloc (.cells zs.toArray T)):=by
 cases j:P.info? T with
 |none=>simp_all
 |some i=>
  cases hz0:i.zero with
  |none=>simp_all
  |some z=>simp [j,hz0] at l;simp [execOp,e,Instr.alloc,zeroValue,typeInfo,j,hz0,Result.andThen,newVar,newRow,<-l]

theorem z1a{T:TypeId}{zs:List Value}(j: @Den noGhost E C tm H a):
 Wd {C with w:=C.w.alloc (.cells zs.toArray T)} H/\Ext ⟨C,H⟩ {C with w:=C.w.alloc (.cells zs.toArray T)} H/\Far E {C with w:=C.w.alloc (.cells zs.toArray T)} H C.w.heap.size/\(C.w.alloc (.cells zs.toArray T)).heap[C.w.heap.size]?=some (.cells zs.toArray T (0,0)):=by
 have hsz:(C.w.alloc (.cells zs.toArray T)).heap.size=C.w.heap.size+1:=CQ _;obtain ⟨s,l⟩:=z2J (w':=C.w.alloc (.cells zs.toArray T)) j.wd (by omega) (λb u=>q1p _ _ u) rfl rfl rfl;have e:(C.w.alloc (.cells zs.toArray T)).heap[C.w.heap.size]?=some (.cells zs.toArray T (0,0)):=q1q _ _;refine ⟨s,l,⟨j.ext.size,by simp_all,λx=>absurd (j.wd.imm _ x) (BF _),λm=>absurd (j.wd.own _ m).2 (BF _),λc T fz hc=> ?_⟩,e⟩;grind

theorem z1f{b:Nat}{T:TypeId}{zs us:List Value}(z: @Den noGhost E C tm H a)(Y:Far E C H b)(A:C.w.heap[b]?=some (.cells zs.toArray T (0,0)))(hl:us.length=zs.length):
 let w':=C.w.setCells b 0 us
 w'.heap[b]?=some (.cells us.toArray T (0,0))/\(∀j,j≠b->w'.heap[j]?=C.w.heap[j]?)/\ @Den noGhost E {C with w:=w'} tm H a/\Evo C {C with w:=w'}/\Far E {C with w:=w'} H b/\∀j,j≠b->Far E C H j->Far E {C with w:=w'} H j:=by
 intro w';obtain ⟨R,h1,U,Z,h4⟩:=Y;have D:w'.heap[b]?=some (.cells us.toArray T (0,0)):=by have:=q1c us 0 C.w zs A (by omega);grind [splice]
 have l:∀j,j≠b->w'.heap[j]?=C.w.heap[j]?:=λj e=>q0t e _ _ _;have J:w'.heap.size=C.w.heap.size:=q0R _ _ _;have s:∀j,C.I j\/OwnB C H j->j≠b:=λj h e=>by simp_all
 have G:∀j m,World.bsize C.w j=some m->World.bsize w' j=some m:=λj m hm=>by grind [World.bsize]
 obtain ⟨S,O⟩:=z9m z.wd J (λj h=>l j (s j h)) G;have u:=z.ext
 refine ⟨D,l,⟨S,⟨u.evo.trans O,by grind,(q1m _ _ _).trans u.os,(q0T _ _ _).trans u.tape,(q0J _ _ _).trans u.output,
  λj K B=>(l j (by omega)).trans (u.frame j K B),λj F=>orMap (u.immNew j F) id λ⟨x,y⟩=>⟨x,y.keep (l j (s j (.inl F)))⟩,u.ownNew,u.keep0⟩,⟨z.defs.1,⟨z.defs.2.1.tab.keep (λj h=>⟨h,l j (s j (.inl h))⟩) (λj V K B=>⟨by simp_all,B,l j (λe=>by subst e;exact absurd (z.defs.2.1.old _ V) (AC.2 R))⟩),z.defs.2.1.old⟩,trivial⟩,q0f O z.tmps⟩,O,⟨R,by simp_all,U,Z,λc T fz hc=> ?_⟩,λj e ⟨W,K,B,g3,X⟩=>⟨W,by simp_all,B,g3,X.keep (l j e)⟩⟩
 grind

theorem z4I{T:TypeId}{e b m:Nat}{zs us:List Value}(x:o.op= .store T (.tmp d) (.tmp e))(F:(P.info? T).map (·.size)=some m)(y:a.tmps[d]?=some (.pointer (some ⟨b,0,none⟩)))(D:a.tmps[e]?=some (.agg us.toArray))
 (l:w.heap[b]?=some (.cells zs.toArray T (0,0)))(hz:zs.length=m)(B:us.length=m)(u:∀v∈us,v.oneCell'=true):(execOp a.eval o).run P w= .ok .skip (w.setCells b 0 us):=by
 have z:=q6G y;have G:=q6G D;have s:(storeCells ⟨b,0,none⟩ us 0).run P w= .ok () (w.setCells b (0+0) us):=run_storeCells_cells b 0 _ 0 w
  (λj A=>by rw [q0h l];simp_all)
  (λj A=>by simp [World.frozen?,l]) u
 simp [execOp,x,z,G,Instr.storeAt,Instr.sureAddr,Result.andThen,storeVar,q0k F,Value.cells,B,s]

variable {P:Program} {AQ:Ex->List SV->List SObj->Prop} {k0:Nat} {k:List It} {t:List SV} {H:List SObj}
variable {c:C2P} {E:EnD} {tm:List SV} {β:Nat->Bool} {vs:List Value} {q:Nat->Prop} {b4 b5:Nat} {C C':Cx} {a:Act}

variable {L:Array Bool}{i:Nat}
theorem j3s(h:i<L.size):(λj=>(L.setIfInBounds i true).getD j false)=upd (λj=>L.getD j false) i:=by funext j;unfold upd;by_cases e:j=i;all_goals simp_all [Ne.symm]

def C2Inv(c:C2P)(E:EnD)(tm:List SV)(H:List SObj)(L:Array Bool)(a:Act)(w:World):Prop:=
 ∃ (C:Cx) (vs:List Value) (q:Nat->Prop) (b4 b5:Nat),C.w=w/\L.size=8/\R2 c E tm H (λj=>L.getD j false) vs q b4 b5 C a

def q5b{I:Nat->Prop}(t:Ty)(x:t.den)(vs:List Value)(h:t.rel I w x vs):∀v∈vs,v.oneCell'=true:=q4r t x vs h

variable {all:Array Oper}
theorem j5B{ro:Option Nat}(z:IsC2 P all c)(ak:(datList.all λe=>e.2.1.flat)=true)(ab:c.ty.known=true)(ad:c.ty.ok c.x)(hp:tm[c.p]?=some (.ptr h 0))(hH:H[h]?=some (.cells T' (c.ty.cells c.x)))
 (y:∀d∈ [c.d0,c.d1,c.d2,c.d3,c.d4,c.d5],tm[d]?=some .any)
 (aa:∀ (q:Nat->Prop) (w0:World) (vs:List Value),c.ty.rel q w0 c.x vs->PCZ q w0 P c.f [.agg (rawL vs)] (.agg (c.ty.cells c.x)))(ax:PC P c.f [.agg (c.ty.cells c.x)] (.agg (c.ty.cells c.x)))
 (L:Array Bool)(a:Act)(w:World)(i:Nat)(hi:C2Inv c E tm H L a w)(hr:i∈Region.ready .any all L):wpOpIn (Fw ro) n P all Q i (C2Inv c E tm H (L.setIfInBounds i true)) a w:=by
 obtain ⟨C,vs,q,b4,b5,rfl,hL,R⟩:=hi;obtain ⟨hun,oi,K,ap⟩:=mem_ready.1 hr;have aA:i<8:=by grind
 have S:L.getD i false=false:=by simp_all
 have l:∀j,needs oi j->L.getD j false=true:=λj ⟨e,he,I,hj⟩=>hj▸ap e he I;have B:∀ (o:Oper),all[i]?=some o->o.guard=none->o.wpIn (Fw ro) n P a C.w (C2Inv c E tm H (L.setIfInBounds i true)) Q->wpOpIn (Fw ro) n P all Q i (C2Inv c E tm H (L.setIfInBounds i true)) a C.w:=λo G O hw=>by simp_all [wpOpIn,Region.wanted]
 have D:∀ (a':Act) (C':Cx) (V:List Value) (q':Nat->Prop) (ah aj:Nat),R2 c E tm H (upd (λj=>L.getD j false) i) V q' ah aj C' a'->C2Inv c E tm H (L.setIfInBounds i true) a' C'.w:=λa' C' V q' ah aj R'=>⟨C',V,q',ah,aj,rfl,by grind,by grind [j3s]⟩
 have an:(P.info? c.T).map (·.size)=some c.m:=q5t z.ag;have X:=z.nd;match i,aA with
 |0,_=>obtain ⟨o,G,A,u,O⟩:=z.o0;refine B o G O ?_;obtain ⟨ws,F,W⟩:=j7I (P:=P) A z.ag z.tsz R.den hp hH;refine q6T (by simp_all) (.inl F) ?_;rw [u];have s:=R.put (v:=.agg ws.toArray) (i:=0) X S rfl (y _ (by simp));refine D _ C vs q b4 b5 ⟨s.den,λ_=>⟨ws,q5B R.den (y _ (by simp)),W⟩,s.f1,s.f2,s.f3,s.f4,s.f5,s.i6,s.i7⟩
 |2,_=>obtain ⟨o,G,A,u,O⟩:=z.o2;refine B o G O ?_;obtain ⟨ws,F,W⟩:=j7I (P:=P) A z.ag z.tsz R.den hp hH;refine q6T (by simp_all) (.inl F) ?_;rw [u];have s:=R.put (v:=.agg ws.toArray) (i:=2) X S rfl (y _ (by simp));refine D _ C vs q b4 b5 ⟨s.den,s.f0,s.f1,λ_=>⟨ws,q5B R.den (y _ (by simp)),W⟩,s.f3,s.f4,s.f5,s.i6,s.i7⟩
 |1,_=>
  obtain ⟨o,cl,G,A,hc,ha,u,O,ai⟩:=z.o1;refine B o G O ?_;rw [G] at K;cases K;obtain ⟨ws,hv,W⟩:=R.f0 (l 0 ai);refine z6z A hc ha z.en hv (z2Z ak R.den.defs.2.1.tab ab R.den.wd ad (c.ty.cells_rel _ _ ab ad W) aa) ?_;rintro e w' ⟨q',V,rfl,au,hq,g1,Z⟩;refine ⟨_,rfl,?_⟩;rw [u];have s:=(R.ext g1 Z).put (v:=.agg V.toArray) (i:=1) X S rfl (y _ (by simp));have aw:L.getD 6 false=false:=by
   cases h6:L.getD 6 false with
   |false=>rfl
   |true=>have:=(R.i6 h6).2;simp_all
  refine D _ {C with w:=w'} V q' b4 b5 ⟨s.den,s.f0,λ_=>⟨q5B (R.ext g1 Z).den (y _ (by simp)),au,λb I=> ?_⟩,s.f2,s.f3,λh4=> ?_,λh5=> ?_,λh6=> ?_,s.i7⟩
  . obtain ⟨q1,q2,q3⟩:=hq b I;exact ⟨Ao R.den.ext.size q1,q2,λhI=>absurd (R.den.wd.imm b hI) (AC.2 q1),λhO=>absurd (R.den.wd.own b hO).2 (AC.2 q1),q3⟩
  . obtain ⟨k1,k2,_,k4⟩:=s.f4 h4;have ae:=(R.f4 h4).2.1.2.1;grind [upd]
  . obtain ⟨k1,k2,_,k4,k5⟩:=s.f5 h5;have ae:=(R.f5 h5).2.1.2.1;exact ⟨k1,k2,λ_ J=>absurd (hq _ J).1 (Nat.not_le.2 ae),k4,k5⟩
  have az:L.getD 6 false=true:=h6
  simp_all
 |3,_=>
  obtain ⟨o,cl,G,A,hc,ha,u,O,ai⟩:=z.o3;refine B o G O ?_;rw [G] at K;cases K;obtain ⟨ws,hv,W⟩:=R.f2 (l 2 ai);refine z6z A hc ha z.en hv (ax.2 H (λo H'=>o= .ret (.agg (c.ty.cells c.x))/\H'=H) ⟨rfl,rfl⟩ C [.agg ws.toArray] R.den.wd R.den.defs.2.1.tab (q0c.2 ⟨_,[],rfl,by rw [SV.den];simp_all,q0y.2 rfl⟩)) ?_;rintro e w' ⟨o',H',C',⟨rfl,rfl⟩,rfl,g1,Z,v,rfl,hd⟩;rw [SV.den] at hd;obtain ⟨us,rfl,ay⟩:=hd;refine ⟨_,rfl,?_⟩;rw [u];have s:=(R.ext g1 Z).put (v:=.agg us.toArray) (i:=3) X S rfl (y _ (by simp))
  exact D _ C' vs q b4 b5 ⟨s.den,s.f0,s.f1,s.f2,λ_=>⟨us,q5B (R.ext g1 Z).den (y _ (by simp)),ay⟩,s.f4,s.f5,s.i6,λh7=>by
   have af:L.getD 7 false=true:=h7
   exact ⟨(s.i7 af).1,rfl⟩⟩
 |4,_=>
  obtain ⟨o,G,A,u,O⟩:=z.o4;refine B o G O ?_;refine q6T (by simp_all) (.inl (z4s A z.zero C.w)) ?_;rw [u];obtain ⟨g1,Z,g3,g4⟩:=z1a (T:=c.T) (zs:=c.zs) R.den;have s:=(R.ext g1 Z).put (v:=.pointer (some ⟨C.w.heap.size,0,none⟩)) (i:=4) X S rfl (y _ (by simp));have aw:L.getD 6 false=false:=by
   cases h6:L.getD 6 false with
   |false=>rfl
   |true=>have:=(R.i6 h6).1;simp_all
  refine D _ {C with w:=C.w.alloc (.cells c.zs.toArray c.T)} vs q C.w.heap.size b5 ⟨s.den,s.f0,s.f1,s.f2,s.f3,λ_=>⟨q5B (R.ext g1 Z).den (y _ (by simp)),g3,λU J=> ?_,?_⟩,λh5=> ?_,λh6=> ?_,s.i7⟩
  . have:=((R.f1 U).2.2 _ J).2.1;omega
  . grind [upd]
  . obtain ⟨k1,k2,k3,_,k5⟩:=s.f5 h5;have ae:=(R.f5 h5).2.1.2.1;exact ⟨k1,k2,k3,λ_ e=>by omega,k5⟩
  have az:L.getD 6 false=true:=h6
  simp_all
 |5,_=>
  obtain ⟨o,G,A,u,O⟩:=z.o5;refine B o G O ?_;refine q6T (by simp_all) (.inl (z4s A z.zero C.w)) ?_;rw [u];obtain ⟨g1,Z,g3,g4⟩:=z1a (T:=c.T) (zs:=c.zs) R.den;have s:=(R.ext g1 Z).put (v:=.pointer (some ⟨C.w.heap.size,0,none⟩)) (i:=5) X S rfl (y _ (by simp));have hb7:L.getD 7 false=false:=by
   cases h7:L.getD 7 false with
   |false=>rfl
   |true=>have:=(R.i7 h7).1;simp_all
  refine D _ {C with w:=C.w.alloc (.cells c.zs.toArray c.T)} vs q b4 C.w.heap.size ⟨s.den,s.f0,s.f1,s.f2,s.f3,s.f4,λ_=>⟨q5B (R.ext g1 Z).den (y _ (by simp)),g3,λU J=> ?_,λh4 e=> ?_,c.zs,g4,z.zlen,λh7=> ?_⟩,s.i6,λh7=> ?_⟩
  . have:=((R.f1 U).2.2 _ J).2.1;omega
  . have:=(R.f4 h4).2.1.2.1;omega
  . have af:L.getD 7 false=true:=h7
    simp_all
  have af:L.getD 7 false=true:=h7
  simp_all
 |6,_=>
  obtain ⟨o,G,A,u,O,al,ac⟩:=z.o6;refine B o G O ?_;rw [G] at K;cases K;obtain ⟨k1,k2,k3,k4⟩:=R.f4 (l 4 al);obtain ⟨l1,l2,l3⟩:=R.f1 (l 1 ac);simp only [S,AS,if_false] at k4;have ar:vs.length=c.m:=by rw [c.ty.rel_size _ _ l2,z.tsz]
  have F:=z4I (P:=P) A an k1 l1 k4 z.zlen ar (q5b _ _ _ l2);refine q6T (by simp_all) (.inr ⟨F,rfl⟩) ?_;rw [u];obtain ⟨m1,m2,m3,m4,m5,m6⟩:=z1f R.den k2 k4 (ar.trans z.zlen.symm);have J:∀b,q b->b≠b4:=λb I e=>k3 (l 1 ac) (e▸I);refine D _ {C with w:=C.w.setCells b4 0 vs} vs q b4 b5 ⟨m3,λh=> ?_,λh=> ?_,λh=> ?_,λh=> ?_,λh=>⟨k1,m5,k3,m1⟩,λh5=> ?_,λ_=>⟨l 4 al,l 1 ac⟩,R.i7⟩
  . obtain ⟨ws,U,z⟩:=R.f0 h;exact ⟨ws,U,q0f m4 z⟩
  . exact ⟨l1,Ty.rel_keep (λb I=>⟨I,m2 b (J b I)⟩) _ _ _ l2,λb I=>m6 b (J b I) (l3 b I)⟩
  . obtain ⟨ws,U,z⟩:=R.f2 h;exact ⟨ws,U,q0f m4 z⟩
  . obtain ⟨ws,U,z⟩:=R.f3 h;exact ⟨ws,U,q0f m4 z⟩
  obtain ⟨n1,n2,n3,n4,us,n5,n6,n7⟩:=R.f5 h5;have Y:=n4 (l 4 al);exact ⟨n1,m6 b5 Y n2,n3,n4,us,(m2 b5 Y).trans n5,n6,λh7=>q0f m4 (n7 h7)⟩
 |7,_=>
  obtain ⟨o,G,A,u,O,aq,ao⟩:=z.o7;refine B o G O ?_;rw [G] at K;cases K;obtain ⟨n1,n2,n3,n4,us,n5,n6,n7⟩:=R.f5 (l 5 aq);obtain ⟨ws,l1,l2⟩:=R.f3 (l 3 ao);have am:ws.length=c.m:=by rw [q0v l2,Ty.cells_length,z.tsz]
  have F:=z4I (P:=P) A an n1 l1 n5 n6 am (q5b _ _ _ (c.ty.cells_rel _ _ ab ad l2));refine q6T (by simp_all) (.inr ⟨F,rfl⟩) ?_;rw [u];obtain ⟨m1,m2,m3,m4,m5,m6⟩:=z1f R.den n2 n5 (am.trans n6.symm);refine D _ {C with w:=C.w.setCells b5 0 ws} vs q b4 b5 ⟨m3,λh=> ?_,λh=> ?_,λh=> ?_,λh=> ?_,λh4=> ?_,λ_=>⟨n1,m5,n3,n4,ws,m1,am,λ_=>q0f m4 l2⟩,R.i6,λ_=>⟨l 5 aq,l 3 ao⟩⟩
  . obtain ⟨ws,U,z⟩:=R.f0 h;exact ⟨ws,U,q0f m4 z⟩
  . obtain ⟨p1,p2,p3⟩:=R.f1 h;have av:∀b,q b->b≠b5:=λb I e=>n3 h (e▸I);exact ⟨p1,Ty.rel_keep (λb I=>⟨I,m2 b (av b I)⟩) _ _ _ p2,λb I=>m6 b (av b I) (p3 b I)⟩
  . obtain ⟨ws,U,z⟩:=R.f2 h;exact ⟨ws,U,q0f m4 z⟩
  . obtain ⟨ws,U,z⟩:=R.f3 h;exact ⟨ws,U,q0f m4 z⟩
  obtain ⟨p1,p2,p3,p4⟩:=R.f4 h4;have Y:=(n4 h4).symm;exact ⟨p1,m6 b4 Y p2,p3,(m2 b4 Y).trans p4⟩

variable {P:Program} {AQ:Ex->List SV->List SObj->Prop} {k0:Nat} {k:List It} {t:List SV} {H:List SObj}
variable {c:C2P}

theorem q7J:∀ (ws:List Nat) (t:List SV) (i:Nat),i ∉ ws->(maskT ws t)[i]?=t[i]?
 | [],_,_,_=>rfl
 |d :: ws,t,i,h=>by show (maskT ws (t.set d .any))[i]?=_;rw [q7J ws _ i (λe=>h (AH _ e))];grind
theorem z1n:∀ (ws:List Nat) (t:List SV) (i:Nat),i∈ws->i<t.length->(maskT ws t)[i]?=some .any
 |d :: ws,t,i,h,hl=>by
  show (maskT ws (t.set d .any))[i]?=_;by_cases e:i∈ws
  . exact z1n ws _ i e (by grind)
  rw [q7J ws _ i e]
  simp_all
theorem j0w(ws:List Nat)(t:List SV):leL t (maskT ws t):=z3l (q6W ws t).symm λi s j hs e=>by rcases q9w ws t i j e with rfl| ⟨_,h2⟩;all_goals simp_all

theorem j8i(l:IsC2 P all c)(hL:L.size=8)(hr:Region.ready .any all L= []):∀i,i<8->L.getD i false=true:=by
 intro i;induction i using Nat.strongRecOn with
 |_ i ih=>
  intro s;cases hb:L.getD i false with
  |true=>rfl
  |false=>
   have j:i<all.size:=by rw [l.size];exact s
   have:i∈Region.ready .any all L:=mem_ready.2 ⟨by
    simp_all,all[i],BH j,λe m _=>by
    have:=l.top i _ (BH j) e m
    grind⟩
   simp_all

theorem j1u{id:Nat}(hm:P.follows .mixedOrders=true)(U:IsC2 P all c)(S:(datList.all λe=>e.2.1.flat)=true)(ac:c.ty.known=true)(ai:c.ty.ok c.x)(hp:t[c.p]?=some (.ptr h 0))(hH:H[h]?=some (.cells T' (c.ty.cells c.x)))
 (W:∀d∈ [c.d0,c.d1,c.d2,c.d3,c.d4,c.d5],d<t.length)(af:noStop k=true)
 (F:∀ (q:Nat->Prop) (w0:World) (vs:List Value),c.ty.rel q w0 c.x vs->PCZ q w0 P c.f [.agg (rawL vs)] (.agg (c.ty.cells c.x)))(ah:PC P c.f [.agg (c.ty.cells c.x)] (.agg (c.ty.cells c.x)))
 (hk:∀ (q:Nat->Prop) (w1:World) (N:Nat) (vs:List Value),c.ty.rel q w1 c.x vs->(∀b,q b->N<=b/\Unf w1 b)->
  @Sound (frzN q w1 N) P AQ ⟨k0,k,((maskT [c.d0,c.d1,c.d2,c.d3,c.d4,c.d5] t).set c.d4 (.ptr H.length 0)).set c.d5 (.ptr (H.length+1) 0),H++ [.cells c.T (rawL vs),.cells c.T (c.ty.cells c.x)]⟩):
 @Sound noGhost P AQ ⟨k0,.code (.region id all true) :: k,t,H⟩:=by
 intro E r n C a h0 D;simp only [wpT];have hds:[c.d0,c.d1,c.d2,c.d3,c.d4,c.d5].Nodup:=(BA.1 U.nd).2;have aj:c.p ∉ [c.d0,c.d1,c.d2,c.d3,c.d4,c.d5]:=(BA.1 U.nd).1
 let tm:=maskT [c.d0,c.d1,c.d2,c.d3,c.d4,c.d5] t
 have B:∀d∈ [c.d0,c.d1,c.d2,c.d3,c.d4,c.d5],tm[d]?=some .any:=λd D=>z1n _ _ _ D (W d D);have ad:tm[c.p]?=some (.ptr h 0):=(q7J _ _ _ aj).trans hp;have ak: @Den noGhost E C.drew tm H a:=⟨q2e D.wd,D.ext.trans (q1r C H),⟨D.defs.1,⟨D.defs.2.1.tab.next (q1r C H),D.defs.2.1.old⟩,trivial⟩,q2p (j0w _ _) (q0f (q1U C) D.tmps)⟩
 have y:∀j,(Array.replicate all.size false).getD j false=true->False:=λj hj=>by rcases A8 j all.size with q|q;all_goals simp_all
 have ae:C2Inv c E tm H (Array.replicate all.size false) a C.drew.w:=⟨C.drew,[],λ_=>False,0,0,rfl,by simp [U.size],ak,λh=>(y _ h).elim,λh=>(y _ h).elim,λh=>(y _ h).elim,λh=>(y _ h).elim,λh=>(y _ h).elim,λh=>(y _ h).elim,λh=>(y _ h).elim,λh=>(y _ h).elim⟩
 refine wpIn_region_any hm (z1y (C2Inv c E tm H) ?_ (λL a w i hi hr=>j5B U S ac ai ad hH B F ah L a w i hi hr) _ _ _ _ ae ?_)
 . rintro L a w ⟨C,vs,q,b4,b5,rfl,hL,R⟩ hr;have u:=j8i U hL hr;obtain ⟨p1,p2,p3⟩:=R.f1 (u 1 (by omega));obtain ⟨k1,Y,k3,k4⟩:=R.f4 (u 4 (by omega));obtain ⟨n1,V,n3,n4,us,n5,n6,n7⟩:=R.f5 (u 5 (by omega));have k3:=k3 (u 1 (by omega));have n3:=n3 (u 1 (by omega));have n4:=n4 (u 4 (by omega));have n7:=n7 (u 7 (by omega));have e6:=u 6 (by omega);simp only [e6,if_true] at k4
   let O:Cx:={C with ρ:=(λh=>if h=C.n then some b4 else C.ρ h),n:=C.n+1}
   obtain ⟨g1,g2,g3⟩:=q8e R.den.wd (some b4) (.cells c.T (rawL vs)) (λb A=>by cases A;exact ⟨Y.2.2.1,Y.2.1,Y.2.2.2.1⟩) O rfl ⟨b4,vs,by simp [O],k4,q1a vs⟩;have al:¬OwnB O (H++ [.cells c.T (rawL vs)]) b5:=λho=>(g3 b5 ho).elim V.2.2.2.1 λe=>n4 (Option.some.inj e).symm
   let J:Cx:={O with ρ:=(λh=>if h=O.n then some b5 else O.ρ h),n:=O.n+1}
   obtain ⟨m1,m2,m3⟩:=q8e g1 (some b5) (.cells c.T (c.ty.cells c.x)) (λb A=>by cases A;exact ⟨V.2.2.1,V.2.1,al⟩) J rfl ⟨b5,us,by simp [J],n5,q0f (C:=C) (C':=J) ⟨by grind,λh hh=>by
    grind,Keeps.refl _ _,λ_ _ h=>h⟩ n7⟩
   have K:=g2.trans m2;have I:∀b,OwnB J (H++ [.cells c.T (rawL vs)]++ [.cells c.T (c.ty.cells c.x)]) b->OwnB C H b\/b=b4\/b=b5:=λb A=>(m3 b A).elim (λh=>orMap (g3 b h) (λh=>h) λe=>.inl (Option.some.inj e).symm) λe=>.inr (.inr (Option.some.inj e).symm);have hn:=R.den.wd.n;have ab:Ext E J (H++ [.cells c.T (rawL vs)]++ [.cells c.T (c.ty.cells c.x)]):=
    ⟨R.den.ext.evo.trans K,R.den.ext.size,R.den.ext.os,R.den.ext.tape,R.den.ext.output,R.den.ext.frame,R.den.ext.immNew,λb A=>(I b A).elim (R.den.ext.ownNew b) λe=>e.elim (λe=>.inl (e▸Y.1)) λe=>.inl (e▸V.1),λm h0 hm=>q2J (q2J (R.den.ext.keep0 m h0 hm))⟩
   have hlt4:=B c.d4 (by simp);have hlt5:=B c.d5 (by simp);have z:∀ (l:List Value) (i:Nat) (v:Value),l[i]?=some v->l.set i v=l:=λl i v hv=>by apply AE;grind
   have ag:=q0f K R.den.tmps
   have X:=q1u (i:=c.d4) (s:=.ptr H.length 0) (v:=.pointer (some ⟨b4,0,none⟩)) ag (by
    rw [SV.den];grind)
   rw [z _ _ _ (by grind)] at X
   have Z:=q1u (i:=c.d5) (s:=.ptr (H.length+1) 0) (v:=.pointer (some ⟨b5,0,none⟩)) X (by
    rw [SV.den];grind)
   rw [z _ _ _ (by grind)] at Z;have hz:ZInv q C.w J (H++ [.cells c.T (rawL vs)]++ [.cells c.T (c.ty.cells c.x)]):=λb A=>by obtain ⟨f0,f1,f2,f3,f4⟩:=p3 b A;grind
   have aa: @Den (frzN q C.w E.C.w.heap.size) E J ((tm.set c.d4 (.ptr H.length 0)).set c.d5 (.ptr (H.length+1) 0)) (H++ [.cells c.T (rawL vs),.cells c.T (c.ty.cells c.x)]) a:=by
    have e:H++ [SObj.cells c.T (rawL vs),.cells c.T (c.ty.cells c.x)]=H++ [.cells c.T (rawL vs)]++ [.cells c.T (c.ty.cells c.x)]:=by simp
    rw [e];exact ⟨m1,ab,⟨R.den.defs.1,⟨R.den.defs.2.1.tab.keep (Keeps.refl _ _) (λb A g1 g2=>⟨g1,λho=>(I b ho).elim g2 λe=>e.elim (λe=>absurd (R.den.defs.2.1.old b A) (AC.2 (e▸Y.1))) λe=>absurd (R.den.defs.2.1.old b A) (AC.2 (e▸V.1)),rfl⟩),R.den.defs.2.1.old⟩,⟨Ac _,R.den.defs.2.1.old⟩,hz⟩,Z⟩
   have hs:=hk q C.w E.C.w.heap.size vs p2 (λb A=>⟨(p3 b A).1,(p3 b A).2.2.2.2⟩) E r n J a h0 aa;exact (q2a (λe a w hh=>q8v (G:=noGhost) (G':=frzN q C.w E.C.w.heap.size) (λ_ _ _ _ h=>⟨h.1,h.2.1,trivial⟩) e a w hh) k af).1 a C.w hs
 grind [unl]

variable {P:Program} {AQ:Ex->List SV->List SObj->Prop} {k0:Nat} {k:List It} {t:List SV} {H:List SObj}

def ckOp(all:Array Oper)(i:Nat)(d:Option Nat)(p:Op->Bool):Bool:=match all[i]? with
 |some o=>p o.op&& decide (o.dst=d) && o.guard.isNone
 |none=>false
theorem q3u{d:Option Nat}{p:Op->Bool}(h:ckOp all i d p=true):∃o,all[i]?=some o/\p o.op=true/\o.dst=d/\o.guard=none:=by unfold ckOp at h;split at h;all_goals simp_all
def ckNeed(all:Array Oper)(i j:Nat):Bool:=match all[i]? with
 |some o=>o.after.toList.any λe=>Region.binds .any e&& decide (e.on=j)
 |none=>false
theorem q2V{j:Nat}(s:all[i]?=some o)(h:ckNeed all i j=true):needs o j:=by unfold ckNeed at h;rw [s] at h;simp only [List.any_eq_true,Ak,decide_eq_true_eq] at h;obtain ⟨e,he,l,m⟩:=h;exact ⟨e,by grind,l,m⟩
def isLoad(T p:Nat):Op->Bool
 |.load T' (.tmp p')=>decide (T'=T) && decide (p'=p)
 |_=>false
variable {o:Op}
theorem z1C{T p:Nat}(h:isLoad T p o=true):o= .load T (.tmp p):=by unfold isLoad at h;grind
def isAlloc(T:Nat):Op->Bool
 |.alloc T'=>decide (T'=T)
 |_=>false
theorem q8H{T:Nat}(h:isAlloc T o=true):o= .alloc T:=by unfold isAlloc at h;grind
def isStore(T p v:Nat):Op->Bool
 |.store T' (.tmp p') (.tmp v')=>decide (T'=T) && decide (p'=p) && decide (v'=v)
 |_=>false
theorem q8x{T p v:Nat}(h:isStore T p v o=true):o= .store T (.tmp p) (.tmp v):=by unfold isStore at h;grind
def isCall1(f d:Nat):Op->Bool
 |.call cl=>match cl.callee,cl.args.toList with
  |.value (.func f'),[.tmp d']=>decide (f'=f) && decide (d'=d)
  |_,_=>false
 |_=>false
theorem q8Y{f:Nat}(h:isCall1 f d o=true):∃cl,o= .call cl/\cl.callee= .value (.func f)/\cl.args= #[.tmp d]:=by unfold isCall1 at h;grind
def isC2B(P:Program)(all:Array Oper)(c:C2P):Bool:=
 decide (all.size=8) && ((List.range all.size).all λi=>match all[i]? with
  |some o=>o.after.toList.all λe=>decide (e.on<i)
  |none=>true) &&
 (ckOp all 0 (some c.d0) (isLoad c.T c.p) && ckOp all 1 (some c.d1) (isCall1 c.f c.d0) && ckOp all 2 (some c.d2) (isLoad c.T c.p) && ckOp all 3 (some c.d3) (isCall1 c.f c.d2) && ckOp all 4 (some c.d4) (isAlloc c.T) && ckOp all 5 (some c.d5) (isAlloc c.T) && ckOp all 6 none (isStore c.T c.d4 c.d1) && ckOp all 7 none (isStore c.T c.d5 c.d3)) &&
 (ckNeed all 1 0&& ckNeed all 3 2&& ckNeed all 6 4&& ckNeed all 6 1&& ckNeed all 7 5&& ckNeed all 7 3) && enters P c.f&& decide ([c.p,c.d0,c.d1,c.d2,c.d3,c.d4,c.d5].Nodup)
theorem j3x(h:isC2B P all c=true)(ag:aggOf P c.T=some (some c.m))(zero:(P.info? c.T).bind (λi=>i.zero.map (·.cells.toList))=some c.zs)(j:c.zs.length=c.m)(A:c.ty.size=c.m):IsC2 P all c:=by
 unfold isC2B at h;simp only [Ak,decide_eq_true_eq] at h;obtain ⟨⟨⟨⟨⟨hs,ht⟩,⟨⟨⟨⟨⟨⟨⟨k0,J⟩,k2⟩,Z⟩,k4⟩,k5⟩,k6⟩,X⟩⟩,⟨⟨⟨⟨⟨n1,V⟩,y⟩,l⟩,s⟩,x⟩⟩,G⟩,hn⟩:=h;obtain ⟨o0,a0,b0,c0,g0⟩:=q3u k0;obtain ⟨o1,I,R,c1,g1⟩:=q3u J;obtain ⟨o2,a2,b2,c2,Y⟩:=q3u k2;obtain ⟨o3,F,W,c3,g3⟩:=q3u Z;obtain ⟨o4,a4,b4,c4,g4⟩:=q3u k4;obtain ⟨o5,a5,b5,c5,g5⟩:=q3u k5;obtain ⟨S,B,U,c6,K⟩:=q3u k6;obtain ⟨o7,u,b7,c7,g7⟩:=q3u X;obtain ⟨z,e1,e2,e3⟩:=q8Y R;obtain ⟨D,e4,O,e6⟩:=q8Y W
 refine ⟨hs,λi o ho e G=> ?_,⟨o0,a0,z1C b0,c0,g0⟩,⟨o1,z,I,e1,e2,e3,c1,g1,q2V I n1⟩,⟨o2,a2,z1C b2,c2,Y⟩,⟨o3,D,F,e4,O,e6,c3,g3,q2V F V⟩,⟨o4,a4,q8H b4,c4,g4⟩,⟨o5,a5,q8H b5,c5,g5⟩,
  ⟨S,B,q8x U,c6,K,q2V B y,q2V B l⟩,⟨o7,u,q8x b7,c7,g7,q2V u s,q2V u x⟩,ag,zero,j,A,G,hn⟩
 grind

variable {P:Program} {AQ:Ex->List SV->List SObj->Prop} {k0:Nat} {td:List IT} {t:List SV} {H:List SObj}

variable {w1:World}{N:Nat}
theorem j0h(j: @Den (frzN q w1 N) E C t H a)(l:∀b,q b->N<=b/\Unf w1 b):
 SInv q C.w E.toEn C H/\∀ (ty:Ty) (x:ty.den) (vs:List Value),ty.rel q w1 x vs->ty.rel q C.w x vs:=by
 have m:ZInv q w1 C H:=j.defs.2.2.2;have z:E.C.w.heap.size<=N:=j.defs.2.2.1.1;refine ⟨λb e=> ?_,λty x vs h=>Ty.rel_keep (λb e=>⟨e,(m b e).2.2.2⟩) _ _ _ h⟩;obtain ⟨y,u,A,s⟩:=m b e;exact ⟨⟨.inl (Ao z (l b e).1),λh=>absurd (j.defs.2.2.1.2 b h) (AC.2 (l b e).1)⟩,y,u,A,(l b e).2.keep s,.inl rfl⟩
def j7h(z:∀b,q b->N<=b/\Unf w1 b)(u:plainT td=true)(m:noStopI td=true)
 (y:∀ (w':World),(∀ (ty:Ty) (x:ty.den) (vs:List Value),ty.rel q w1 x vs->ty.rel q w' x vs)-> @SoundI (scrG q w') P AQ ⟨k0,td,t,H⟩): @SoundI (frzN q w1 N) P AQ ⟨k0,td,t,H⟩:= @q0d (frzN q w1 N) P AQ k0 t H _ (λtd' j=>by
 intro E s n C a F e;obtain ⟨G,A⟩:=j0h e z;have l: @Den (scrG q C.w) E C t H a:=⟨e.wd,e.ext,⟨e.defs.1,e.defs.2.1,G⟩,e.tmps⟩;have D:= @q0e (scrG q C.w) P AQ k0 _ H _ td' (y C.w A) j E s n _ _ F l
 exact (@q2a P (frzN q w1 N) (scrG q C.w) (Fw s) n E E (@conc (frzN q w1 N) E AQ) (@conc (scrG q C.w) E AQ)
  (λex a w B=> @q8v AQ (frzN q w1 N) (scrG q C.w) E (λ_ _ _ _ h=>⟨h.1,h.2.1,trivial⟩) ex a w B) td' (q2v j m)).1 _ _ D) u
variable {d:Option Tmp}
theorem z5O{l:World}{args j:List SV}{m:IM}(z:PC P f j (.raw v))(F:LendA q l args j)(h: @SoundI (frzN q l N) P AQ {m with tmps:=putT m.tmps d (.raw v)}):
 @CallI (frzN q l N) P AQ f args d m:=by
 refine ⟨z.1,λE C vs y s D=> ?_⟩;refine (z.2 [] (PK (.raw v)) rfl (C.lend q) vs (z3q y s.2.2) (s.1.tab.nil rfl λb G=>.inl G) (F C _ vs s.2.2 D)).mono ?_;rintro e w' ⟨o,H',C',rfl,rfl,hw',I,u,rfl,x⟩;rw [SV.den] at x;subst x;obtain ⟨B,A⟩:=q6M (q:=q) y I;exact ⟨.ret (.raw u),m.heap,{C with w:=C'.w},h,rfl,B, @Stp.of (frzN q l N) E C {C with w:=C'.w} m.heap m.heap A,u,rfl,by rw [SV.den]⟩
variable {P:Program} {AQ:Ex->List SV->List SObj->Prop} {k0:Nat}

variable {P:Program} {AQ:Ex->List SV->List SObj->Prop} {k0:Nat} {k:List IT}

variable {P:Program} {AQ:Ex->List SV->List SObj->Prop} {k0:Nat} {H:List SObj}

variable {P:Program} {AQ:Ex->List SV->List SObj->Prop} {k0:Nat} {H:List SObj}

section
variable [Ghost] {P:Program} {AQ:Ex->List SV->List SObj->Prop} {k0:Nat} {k:List IT} {t:List SV} {H:List SObj}

def q9u{G X a b:Prop}(h:a\/b)(h1:a->X->G)(h2:b->X->G)(hx:X):G:=h.elim (λk=>h1 k hx) (λk=>h2 k hx)
def cvI:IOp->Bool
 |.toStr .. =>true
 |.mlk .. =>true
 |_=>false
theorem j6K{o:Oper}{i:IOp}(h:compOp P o.op=some i)(e:cvI i=true):isCv o=true:=by
 unfold isCv;generalize o.op=op at h⊢;cases op with
 |convert=>rfl
 |lookup=>rfl
 |_=>
  exfalso;unfold compOp at h;repeat' split at h
  all_goals first
   |contradiction
   | (cases h;cases e;done)
   | (simp only [AL,Al,Option.some.injEq] at h;obtain ⟨_,_,rfl⟩:=h;cases e;done)
   | (simp only [AL,Al,Option.some.injEq] at h;obtain ⟨_,_,_,_,rfl⟩:=h;cases e;done)
theorem j7a{G:List Nat}{l:List (Bool×OpI)}{m:OpI}{p:Prop}{s:SV}(z:cvI m.op=true)(hg:m.guard=none\/∃d b,m.guard=some (d,b)/\t.getD d .any= .raw (.bool b))(he:∀H',SameG (strictP G) H H'->m.op.ev H' (evT t)= .val p s)(W:p)
 (F:SoundI P AQ ⟨k0,.dops G l :: k,putT t m.dst s,H⟩):SoundI P AQ ⟨k0,.dops G ((true,m) :: l) :: k,t,H⟩:=by
 intro all e fuel k' B Y;obtain ⟨S,i,o,x,rfl,X,I,y,hB,j,u,D⟩:=q1w B;have O:x=m:=by
  rcases D with h|h
  . grind
  obtain ⟨d0,op0,g0⟩:=x;obtain ⟨d1,op1,g1⟩:=m;simp only at j u h z⊢;have A:=h.2;cases op0<;>simp only [toS] at A<;>first| (subst A;cases z;done) | (subst j;subst u;rw [A])
 subst O;obtain ⟨hc,R⟩:=q0D I;have V:wantedT all t o=some true:=by grind [q0x]
 obtain ⟨U,A⟩:=q1H hB;have J:closedB all e=true:=by grind [j6K,ldChkS]
 refine q8O (s:=s) U J X (.inl ⟨V,λH' Z K F=>q2g hc ?_⟩) ?_
 . rw [he H' Z];exact ⟨W,F⟩
 rw [<-R];exact F all _ S k' y Y
end

variable {P:Program} {AQ:Ex->List SV->List SObj->Prop} {k0:Nat}

theorem z7H[Ghost]{G:List Nat}{l:List (Bool×OpI)}{e:Option IntKind}{z:Value}{ok:Bool}{m x:Operand}{y:Value}{u:List Value}{vs:List SV}{s:SV}(hm:evT t m= .mp h)(hx:evT t x= .raw y)(hG:(strictP G).contains h=true)(B:H[h]?=some (.map e u vs))(hkey:keyIs e y=true)(hs:mres ok (mget u vs z y)=s)
 (A:SoundI P AQ ⟨k0,.dops G l :: k,putT t d s,H⟩):SoundI P AQ ⟨k0,.dops G ((true,⟨d,.mlk e z ok m x,none⟩) :: l) :: k,t,H⟩:=by
 refine j7a rfl (.inl rfl) (p:=True) (s:=s) (λH' j=> ?_) trivial A;have hH':H'[h]?=some (.map e u vs):=by rw [j h (by grind)];exact B
 simp_all [IOp.ev,mapOf]
theorem q5I{ty:Ty}{xs:List ty.den}{H':List SObj}{m:Nat}(l:H'[h]?=some (.row ty xs))(u:n=m)(j:∀n,H'[0]?≠some (.mark n)):Weak 1 (λo' e=>o'= .ret (.bld 1 ty m)/\e= [.dead,.row ty xs]) (.ret (.bld h ty n)) H':=by subst u;exact ⟨λi=>if i=0 then 0 else h,.bld 1 ty n,.bld 1 ty n,[.dead,.row ty xs],⟨⟨rfl,trivial⟩,⟨l,trivial⟩,rfl,rfl,rfl,rfl,CV 1,λn _ s=>absurd s (j n)⟩,.inl (.inl rfl),⟨rfl,rfl⟩⟩

section
variable [Ghost]
theorem z0t{F:Fence}{c rest:Code}{l:Nat}(hQ:∀l a w,¬Q (.goto l) a w)(S:findLabel c l=some rest)
 (h:c.wpIn F n P (λe a w=>match e with|.goto l'=>l'=l/\rest.wpIn F n P Q a w|e=>Q e a w) a w):(Code.scope c).wpIn F n P Q a w:=by
 intro b k cs D A G;have y:(lone (b.atR a (.code (.scope c) :: k)) cs w).fenced P F:=fenced_calm A G rfl;have R:gotoIn l (.inScope c :: k)=some (.code rest :: .inScope c :: k):=by simp [gotoIn,S]
 obtain ⟨e,K,B,u,m⟩:=h b (.inScope c :: k) cs D A G;cases e with
 |normal=>exact ⟨.normal,K,B,u,.head y q0I (StepsIn.trans m (.one (fenced_calm A G rfl) q3h))⟩
 |exit id'=>
  have U:exitTo id' (.inScope c :: k)=exitTo id' k:=by simp [exitTo]
  exact ⟨.exit id',K,B,u,λk' O=>.head y q0I (m.1 k' (by simp_all)),
   λx O=>let ⟨k₁,h1,h2⟩:=m.2 x (by simp_all);⟨k₁,h1,.head y q0I h2⟩⟩
 |goto l'=>
  obtain ⟨rfl,u⟩:=u;have z:=StepsIn.trans (.one y q0I) (m.1 _ R);obtain ⟨e,I,J,s,j⟩:=u b (.inScope c :: k) cs D A G;cases e with
  |normal=>exact ⟨.normal,I,J,s,StepsIn.trans z (StepsIn.trans j (.one (fenced_calm A G rfl) q3h))⟩
  |exit id'=>
   have U:exitTo id' (.inScope c :: k)=exitTo id' k:=by simp [exitTo]
   exact ⟨.exit id',I,J,s,λk' O=>StepsIn.trans z (j.1 k' (by simp_all)),
    λx O=>let ⟨k₁,h1,h2⟩:=j.2 x (by simp_all);⟨k₁,h1,StepsIn.trans z h2⟩⟩
  |goto l=>simp_all
  |ret=>exact ⟨_,I,J,s,.of_steps z j⟩
  |panic ch=>exact ⟨_,I,J,s,.of_steps z j⟩
  |outgrown=>exact ⟨_,I,J,s,.of_steps z j⟩
 |ret=>exact ⟨_,K,B,u,.of_steps (.one y q0I) m⟩
 |panic ch=>exact ⟨_,K,B,u,.of_steps (.one y q0I) m⟩
 |outgrown=>exact ⟨_,K,B,u,.of_steps (.one y q0I) m⟩
end

inductive GS where
 |ic (c:IC)
 |gc (c:Operand)
def stepsG(P:Program)(l:Nat):List Code->Option (List GS×List IC)
 | []=>none
 |.label l' :: cs=>if l'=l then (compAll P cs).map λb=>([],b) else none
 |.cond c (.goto l') .skip :: cs=>if l'=l then (stepsG P l cs).map λx=>(.gc c :: x.1,x.2) else none
 |c :: cs=>match comp P c with
  |some x=>(stepsG P l cs).map λy=>(.ic x :: y.1,y.2)
  |none=>none
def labelG:List Code->Option Nat
 | []=>none
 |.label l :: _=>some l
 |_ :: cs=>labelG cs
structure GI where
 ntmps:Nat
 results:List ResultVar
 pre:List IC
 steps:List GS
 fall:List IC
 jump:List IC
def scopeG(P:Program)(fn:Func):List Code->Option GI
 | [.scope c]=>match labelG (flatC c) with
  |some l=>match stepsG P l (flatC c),findLabel c l with
   |some (s,b),some rest=>match compAll P (flatC rest) with
    |some j=>some ⟨fn.ntmps,fn.results.toList,[],s,b,j⟩
    |none=>none
   |_,_=>none
  |none=>none
 |x :: cs=>match comp P x,scopeG P fn cs with
  |some i,some g=>some {g with pre:=i :: g.pre}
  |_,_=>none
 | []=>none
def ginfo(P:Program)(f:FuncId):Option GI:=
 match P.funcs[f]? with
 |some fn=>match fn.body with
  |some c=>if fn.name== "runtime.NumGoroutine" then none else scopeG P fn (flatC c)
  |none=>none
 |none=>none

def GoI[Ghost](P:Program)(AQ:Ex->List SV->List SObj->Prop)(k0:Nat)(fall jump:List IC):List GS->List SV->List SObj->Prop
 | [],t,H=>SoundI P AQ ⟨k0,fall.map .ic,t,H⟩
 |.ic c :: s,t,H=>SoundI P AQ ⟨k0,[.ic c,.stop λt' H'=>GoI P AQ k0 fall jump s t' H'],t,H⟩
 |.gc c :: s,t,H=>∃b,evT t c= .raw (.bool b)/\(b=true->SoundI P AQ ⟨k0,jump.map .ic,t,H⟩)/\(b=false->GoI P AQ k0 fall jump s t H)

def goQ[Ghost](P:Program)(AQ:Ex->List SV->List SObj->Prop)(E:EnD)(r:Option Nat)(n l:Nat)(rest:Code):Exit->Act->World->Prop
 |.goto l',a,w=>l'=l/\rest.wpIn (Fw r) n P (conc E AQ) a w
 |e,a,w=>conc E AQ e a w
theorem j0T[Ghost]{l:Nat}{rest:Code}{u z:List IC}(Z:compAll P (flatC rest)=some z)(R:Fit E r k0):
 ∀ (cs:List Code) (s:List GS) (t:List SV) (H:List SObj) (C:Cx) (a:Act),stepsG P l cs=some (s,u)->GoI P AQ k0 u z s t H->Den E C t H a->
  wpT (Fw r) n P E (goQ P AQ E r n l rest) (cs.map .code) a C.w:=by
 have D:∀ (e:Exit) (a:Act) (w:World),conc E AQ e a w->goQ P AQ E r n l rest e a w:=λe a w h=>by cases e<;>first|exact h|exact h.elim
 have m:∀ (cs:List Code) (b:List IC) (t:List SV) (H:List SObj) (C:Cx) (a:Act),compAll P cs=some b->SoundI P AQ ⟨k0,b.map .ic,t,H⟩->Den E C t H a->wpT (Fw r) n P E (conc E AQ) (cs.map .code) a C.w:=λcs b t H C a hc j G=>q0e j (rel_codes' (q5T hc)) E r n C a R G;intro cs;induction cs with
 |nil=>intro s t H C a j;cases j
 |cons c cs ih=>
  intro s t H C a j K G
  have B:(match comp P c with
   |some x=>(stepsG P l cs).map λy=>(.ic x :: y.1,y.2)
   |none=>none)=some (s,u)->wpT (Fw r) n P E (goQ P AQ E r n l rest) ((c :: cs).map .code) a C.w:=λj=>by
   split at j
   . rename_i x Y;cases O:stepsG P l cs with
     |none=>simp_all
     |some y=>
      rw [O] at j;obtain ⟨V,y2⟩:=y;simp only [CS,Option.some.injEq,Prod.mk.injEq] at j;obtain ⟨rfl,rfl⟩:=j;have I:=q0e K ⟨c,_,rfl,Y,_,rfl,rfl⟩ E r n C a R G;simp only [Az,wpT] at I⊢;refine wpIn_mono I λe a w J=> ?_;cases e with
      |normal=>grind
      |exit id=>have:=(q4z (F:=Fw r) (n:=n) (P:=P) (E:=E) (Q:=goQ P AQ E r n l rest) (id:=id) (a:=a) (w:=w) (k:=[]) cs).2;rw [Ad] at this;exact this J
      |ret=>exact J
      |panic ch=>exact J
      |goto l=>exact J.elim
      |outgrown=>exact J
   cases j
  cases c with
  |label l'=>
   unfold stepsG at j;split at j
   . cases A:compAll P cs with
     |none=>simp_all
     |some b=>rw [A] at j;simp only [CS,Option.some.injEq,Prod.mk.injEq] at j;obtain ⟨rfl,rfl⟩:=j;have I:=m cs _ t H C a A K G;have U:wpT (Fw r) n P E (goQ P AQ E r n l rest) (cs.map .code) a C.w:=(q2a (F:=Fw r) (n:=n) (E:=E) (E':=E) D (cs.map .code) (q3F cs)).1 a C.w I;grind [wpT,wpIn_label]
   cases j
  |cond e x y=>
   cases x with
   |goto l'=>
    cases y with
    |skip=>
     unfold stepsG at j;split at j
     . rename_i X;cases O:stepsG P l cs with
       |none=>simp_all
       |some y=>
        rw [O] at j;obtain ⟨V,y2⟩:=y;simp only [CS,Option.some.injEq,Prod.mk.injEq] at j;obtain ⟨rfl,rfl⟩:=j;obtain ⟨b,A,W,g2⟩:=K;have S:=q2f G.tmps e;rw [A,SV.den] at S;simp only [Az,wpT];refine wpIn_cond_split S (λA=> ?_) (λA=> ?_)
        . refine wpIn_goto ⟨X,?_⟩;have I:=m _ _ t H C a Z (W A) G;have U:=q4f rest [] a C.w (by rw [Ad];exact I);grind [wpT,wpIn_mono,exitT]
        grind [wpIn_skip]
     cases j
    |_=>exact B (by simpa only [stepsG] using j)
   |_=>exact B (by simpa only [stepsG] using j)
  |_=>exact B (by simpa only [stepsG] using j)

theorem z6O{fn:Func}:∀ {cs:List Code} {g:GI},scopeG P fn cs=some g->g.ntmps=fn.ntmps/\g.results=fn.results.toList/\∃ (e:List Code) (c:Code) (l:Nat) (rest:Code),cs=e++ [.scope c]/\e.map (comp P)=g.pre.map some/\stepsG P l (flatC c)=some (g.steps,g.fall)/\findLabel c l=some rest/\compAll P (flatC rest)=some g.jump:=by
 intro cs;have m:∀ (x:Code) (cs:List Code) (g:GI),(∀ {g:GI},scopeG P fn cs=some g->g.ntmps=fn.ntmps/\g.results=fn.results.toList/\∃ (e:List Code) (c:Code) (l:Nat) (rest:Code),cs=e++ [.scope c]/\e.map (comp P)=g.pre.map some/\stepsG P l (flatC c)=some (g.steps,g.fall)/\findLabel c l=some rest/\compAll P (flatC rest)=some g.jump)->
  (match comp P x,scopeG P fn cs with
   |some i,some g=>some {g with pre:=i :: g.pre}
   |_,_=>none)=some g->g.ntmps=fn.ntmps/\g.results=fn.results.toList/\∃ (e:List Code) (c:Code) (l:Nat) (rest:Code),x :: cs=e++ [.scope c]/\e.map (comp P)=g.pre.map some/\stepsG P l (flatC c)=some (g.steps,g.fall)/\findLabel c l=some rest/\compAll P (flatC rest)=some g.jump:=λx cs g u h=>by
  grind
 induction cs with
 |nil=>intro g h;cases h
 |cons x cs u=>
  intro g h;cases cs with
  |cons y cs=>grind [scopeG]
  |nil=>
   cases x with
   |scope c=>
    unfold scopeG at h;split at h
    . rename_i l hl;split at h
      . rename_i s b rest B A;split at h
        . rename_i j z;cases h;exact ⟨rfl,rfl,[],c,l,rest,rfl,rfl,B,A,z⟩
        cases h
      cases h
    cases h
   |_=>exact m _ [] g u (by simpa only [scopeG] using h)

theorem z5v{m:GI}{args:List SV}{K:Out->List SObj->Prop}(h:ginfo P f=some m)
 (D: @SoundI noGhost P (retF P m.results K) ⟨H.length,m.pre.map .ic++ [.stop λt H'=> @GoI noGhost P (retF P m.results K) H.length m.fall m.jump m.steps t H'],args++List.replicate (m.ntmps-args.length) .any,H⟩):VC P f args H K:=by
 unfold ginfo at h;split at h
 . rename_i fn R;split at h
   . rename_i c F;split at h
     . cases h
     rename_i hn;obtain ⟨W,J,u,y,l,rest,x,S,G,Y,O⟩:=z6O h;refine ⟨by grind [enters],?_⟩;rw [W,J] at D;have j:retQ P fn K=retF P fn.results.toList K:=by funext e t H;rfl
     refine q4t R F ?_;rw [j];intro E r n C a A s;refine q4f c [] a C.w ?_;rw [Ad,x,Bn];have I:=q0e D (q4E S) E r n C a A s;refine q3U (Q1:=conc E (retF P fn.results.toList K)) (λe a w _ h=>h) (λid a w ⟨_,_,_,j,_⟩=>j) (λa C t H U s=> ?_) u a C.w I;have z:=j0T (n:=n) O A (flatC y) m.steps t H C a G U s;rw [<-Ad ((flatC y).map It.code)] at z;have B:=q4f y [] a C.w z;simp only [Az,BS,wpT] at B⊢;refine z0t (l:=l) (rest:=rest) ?_ Y ?_
     . rintro X a w V;exact V.elim
     refine wpIn_mono B λe a w j=> ?_;cases e with
     |goto X=>refine ⟨j.1,wpIn_mono j.2 λe a w j=> ?_⟩;grind [exitT]
     |exit id=>simp only [exitT] at j⊢;exact j
     |_=>exact j
   cases h
 cases h
end Go.Sx
namespace Go.Proofs.YthbcodbcndiapaaGreatDoor
open Go Go.Sx Go.Proofs
set_option maxRecDepth 100000
set_option maxHeartbeats 40000000
def sumE(a:Aut):List (List UInt8):=if a.2.1.length=0 then [] else [wrapS 160 2 (elemS 4 [a.2.1])]
def subE(a:Aut):List (List UInt8):=if a.2.2.2.2.1.1=0 then [] else [wrapS 160 5 (keyS a.2.2.2.2.1)]
def datE(a:Aut):List (List UInt8):=if a.2.2.2.2.2.2.length=0 then [] else [wrapS 160 7 (dataS a.2.2.2.2.2.2)]
theorem j7P(a:Aut)(xs:List (List UInt8))(hl:xs.length<=100):PE Tryz.prog 32 [.bld 0 (.slice .u8) xs.length,.iptr AutT a 0] [.row (.slice .u8) xs] (.ret (.bld 1 (.slice .u8) (xs++sumE a).length)) [.dead,.row (.slice .u8) (xs++sumE a)]:=by
 have c1:=z0s a.2.1;have c2:=q1I 2 (elemS 4 [a.2.1]);unfold sumE;obtain ⟨c,s,t,m,k,q,d⟩:=a;dsimp only at*;refine z9M ?_;refine rQ fi32 ?_;refine ⟨λh=> ?_,λh=>q0b c1 ?_⟩
 . rw [if_pos (by omega),Ad];exact q5I (h:=0) rfl rfl (by simp)
 rw [if_neg (by omega)];refine gQ ?_;refine cQ c2 ?_;refine ⟨⟨by omega,by omega⟩,?_⟩;exact q5I rfl (by simp) (by simp)
theorem j7y(a:Aut)(xs:List (List UInt8))(hl:xs.length<=100):PE Tryz.prog 35 [.bld 0 (.slice .u8) xs.length,.iptr AutT a 0] [.row (.slice .u8) xs] (.ret (.bld 1 (.slice .u8) (xs++subE a).length)) [.dead,.row (.slice .u8) (xs++subE a)]:=by
 have c1:=j6Z a.2.2.2.2.1;have c2:=q1I 5 (keyS a.2.2.2.2.1);unfold subE;obtain ⟨c,s,t,m,k,q,d⟩:=a;dsimp only at*;refine z9M ?_;refine rQ fi35 ?_;refine ⟨λh=> ?_,λh=>q0b c1 ?_⟩
 . rw [if_pos (by omega),Ad];exact q5I (h:=0) rfl rfl (by simp)
 rw [if_neg (by omega)];refine gQ ?_;refine cQ c2 ?_;refine ⟨⟨by omega,by omega⟩,?_⟩;exact q5I rfl (by simp) (by simp)
theorem j7H(a:Aut)(xs:List (List UInt8))(hl:xs.length<=100):PE Tryz.prog 37 [.bld 0 (.slice .u8) xs.length,.iptr AutT a 0] [.row (.slice .u8) xs] (.ret (.bld 1 (.slice .u8) (xs++datE a).length)) [.dead,.row (.slice .u8) (xs++datE a)]:=by
 have c1:=j7L a.2.2.2.2.2.2;have c2:=q1I 7 (dataS a.2.2.2.2.2.2);unfold datE;obtain ⟨c,s,t,m,k,q,d⟩:=a;dsimp only at*;refine z9M ?_;refine rQ fi37 ?_;refine ⟨λh=> ?_,λh=>q0b c1 ?_⟩
 . rw [if_pos (by omega),Ad];exact q5I (h:=0) rfl rfl (by simp)
 rw [if_neg (by omega)];refine gQ ?_;refine cQ c2 ?_;refine ⟨⟨by omega,by omega⟩,?_⟩;exact q5I rfl (by simp) (by simp)
def encL(a:Aut):List (List UInt8):=((([wrapS 160 0 (intS 5),wrapS 160 1 (prinS a.1)]++sumE a)++ [wrapS 160 3 (intS a.2.2.2.1),wrapS 160 4 (timeS a.2.2.1)]++subE a)++ [wrapS 160 6 (intS a.2.2.2.2.2.1)])++datE a
def autS(a:Aut):List UInt8:=wrapS 96 2 (elemS 48 (encL a))
theorem z1w(a:Aut)(u:AutT.ok a):PC Tryz.prog 10 [.agg (AutT.cells a)] (.tup [.isl .u8 (if vAut a then autS a else []),rI (if vAut a then 0 else 2)]):=by
 have c1:=q9v a u;have c2:=z8h a.1 u.1;have A:vAut a=true->vPrin a.1=true:=λh=>by unfold vAut at h;simp only [Ak] at h;exact h.1
 cases z:vAut a with
 |false=>rw [z] at c1;obtain ⟨c,s,t,m,k,q,d⟩:=a;refine q0l rfl rfl ?_;refine rQ fi10 ?_;refine cQ c1 ?_;trivial
 |true=>
  rw [A z] at c2;rw [z] at c1;simp only [if_true] at c2⊢;have I:=j7P a;have F:=j7y a;have J:=j7H a;have l:encL a=((([wrapS 160 0 (intS 5),wrapS 160 1 (prinS a.1)]++sumE a)++ [wrapS 160 3 (intS a.2.2.2.1),wrapS 160 4 (timeS a.2.2.1)]++subE a)++ [wrapS 160 6 (intS a.2.2.2.2.2.1)])++datE a:=rfl;have l1:(sumE a).length<=1:=by unfold sumE;split<;>simp
  have l2:(subE a).length<=1:=by unfold subE;split<;>simp
  have l3:(datE a).length<=1:=by unfold datE;split<;>simp
  refine q0l rfl rfl ?_;refine rQ fi10 ?_;refine cQ c1 ?_;refine q0b c2 ?_;refine q1N 1 0 (ty:=AutT) (x:=a) rfl u rfl rfl ?_;refine uQ 19 _ ?_;with_reducible refine sxE ?_
  refine q1l [999999,1] mixed ?_;refine uQ 1 _ ?_;with_reducible refine sxE ?_
  refine z7H rfl rfl rfl rfl rfl rfl ?_;refine gQ ?_;refine cR (q2B 5) ?_;refine cR (q1I 0 (intS 5)) ?_;refine cR (q1I 1 (prinS a.1)) ?_;refine ⟨rfl,?_⟩;have e1':=I [wrapS 160 0 (intS 5),wrapS 160 1 (prinS a.1)] (by simp);have e:([wrapS 160 0 (intS 5),wrapS 160 1 (prinS a.1)]++sumE a).length<=3:=by rw [Ab];show 2+_<=3;omega
  generalize [wrapS 160 0 (intS 5),wrapS 160 1 (prinS a.1)]++sumE a=B at e1' e l;refine q0q [2] e1' rfl (by decide) ⟨rfl,rfl,trivial⟩ rfl rfl ?_ ?_
  . simp (maxSteps:=3000000) only [mgA,sig,q0u,q0A,List.append_assoc,getA,getA0,setA,setA0,Ab,Au,go_sem,↓zA,↓reduceIte,↓reduceDIte] <;>try simp only [zB]
    rfl
  refine rnE ?_;refine uQ 3 _ ?_;with_reducible refine sxE ?_
  refine q1l [999999] mixed ?_;refine gQ ?_;refine cR (q2B _) ?_;refine cR (q1I _ _) ?_;refine cR (j7Q _) ?_;refine q0g (q1I _ _) ?_;refine uQ 5 _ ?_;with_reducible refine sxE ?_
  refine ⟨rfl,⟨by omega,by omega⟩,?_⟩;refine q1l [999999,1] mixed ?_;refine uQ 1 _ ?_;with_reducible refine sxE ?_
  refine z7H rfl rfl rfl rfl rfl rfl ?_;refine gQ ?_;have e2':=F (B++ [wrapS 160 3 (intS a.2.2.2.1),wrapS 160 4 (timeS a.2.2.1)]) (by rw [Ab];show _+2<=100;omega);have j:(B++ [wrapS 160 3 (intS a.2.2.2.1),wrapS 160 4 (timeS a.2.2.1)]++subE a).length<=6:=by rw [Ab,Ab];show _+2+_<=6;omega
  generalize B++ [wrapS 160 3 (intS a.2.2.2.1),wrapS 160 4 (timeS a.2.2.1)]++subE a=D at e2' j l;refine q0q [5] e2' (by simp [sig,SV.renL,SV.ren]) (by decide) ⟨rfl,rfl,trivial⟩ rfl rfl ?_ ?_
  . simp (maxSteps:=3000000) only [mgA,sig,q0u,q0A,List.append_assoc,getA,getA0,setA,setA0,Ab,Au,go_sem,↓zA,↓reduceIte,↓reduceDIte] <;>try simp only [zB]
    rfl
  refine rnE ?_;refine gQ ?_;refine cR (q2B _) ?_;refine cR (q1I _ _) ?_;refine ⟨rfl,⟨by omega,by omega⟩,?_⟩;have e3':=J (D++ [wrapS 160 6 (intS a.2.2.2.2.2.1)]) (by rw [Ab];show _+1<=100;omega);have y:(D++ [wrapS 160 6 (intS a.2.2.2.2.2.1)]++datE a).length<=8:=by rw [Ab,Ab];show _+1+_<=8;omega
  rw [<-l] at e3' y;refine q0i [8] e3' (by simp [sig,SV.renL,SV.ren]) (by decide) ⟨rfl,rfl,trivial⟩ rfl rfl ?_;simp only [afterO,Out.ren,SV.ren,mgA,sig,SObj.ren,SV.renL,Ay,Ar,List.append_assoc,A0,AY,List.set,List.map,Ad];refine gQ ?_;have G:=q4c (encL a) (by omega);refine q0F 9 ?_;with_reducible refine sxE ?_
  refine ⟨by omega,Ac _,?_⟩;rw [Aa (Ac _)];refine cQ G ?_;refine cQ (j7d 2 _) ?_;rfl
set_option maxHeartbeats 4000000
def q3s(b:List UInt8)(n:Nat):PE Tryz.prog 68 [.agg [.ptr 0 0],rB true] [rdr b n] (.ret (.tup [])) [rdr b n]:=by refine q0a (by simp) ?_;refine rQ fi68 ?_;trivial
def q5i(b:List UInt8)(n:Nat):PE Tryz.prog 68 [.agg [.ptr 0 0],rB false] [rdr b n] (.pan (errV 6)) [.dead]:=by refine q0a (by simp) ?_;refine rQ fi68 ?_;trivial
def q4l(b:List UInt8)(n:Nat)(hn:n=b.length):PE Tryz.prog 67 [.agg [.ptr 0 0]] [rdr b n] (.ret (.tup [])) [rdr b n]:=by
 have e:=q2C b n (by omega);have j:=q3s b n;have l:(((b.length-n:Nat):Int)=0)=True:=eq_true (by omega);refine q0a (by simp) ?_;refine rQ fi67 ?_;refine q0q [0] e rfl (by decide) ⟨rfl,rfl,trivial⟩ rfl rfl ?_ ?_
 . simp (maxSteps:=3000000) only [mgA,sig,q0u,q0A,SObj.ren,SV.ren,SV.renL,List.append_assoc,getA,getA0,setA,setA0,Ab,Au,go_sem,↓zA,↓reduceIte,↓reduceDIte] <;>try simp only [zB]
 refine rnE ?_;refine gy1 l ?_;refine q0q [0] j rfl (by decide) ⟨rfl,rfl,trivial⟩ rfl rfl ?_ ?_
 . simp (maxSteps:=3000000) only [mgA,sig,q0u,q0A,SObj.ren,SV.ren,SV.renL,List.append_assoc,getA,getA0,setA,setA0,Ab,Au,go_sem,↓zA,↓reduceIte,↓reduceDIte] <;>try simp only [zB]
 refine rnE ?_;refine gQ ?_;trivial
def q4I(b:List UInt8)(n:Nat)(hn:n<b.length):PE Tryz.prog 67 [.agg [.ptr 0 0]] [rdr b n] (.pan (errV 6)) [.dead]:=by
 have e:=q2C b n (by omega);have j:=q5i b n;have l:(((b.length-n:Nat):Int)=0)=False:=eq_false (by omega);refine q0a (by simp) ?_;refine q1Q fi67 (q0o mixed 4 _ ?_);simp (maxSteps:=3000000) only [ir67,go_sem,↓zA,↓reduceIte,↓reduceDIte] <;>try simp only [zB]
 refine q1l [1,999999] mixed ?_;refine gQ ?_;refine q0q [0] e rfl (by decide) ⟨rfl,rfl,trivial⟩ rfl rfl ?_ ?_
 . simp (maxSteps:=3000000) only [mgA,sig,q0u,q0A,SObj.ren,SV.ren,SV.renL,List.append_assoc,getA,getA0,setA,setA0,Ab,Au,go_sem,↓zA,↓reduceIte,↓reduceDIte] <;>try simp only [zB]
 refine rnE ?_;refine gy1 l ?_;refine q0q [0] j rfl (by decide) ⟨rfl,rfl,trivial⟩ rfl rfl ?_ ?_
 . simp (maxSteps:=3000000) only [mgA,sig,q0u,q0A,SObj.ren,SV.ren,SV.renL,List.append_assoc,getA,getA0,setA,setA0,Ab,Au,go_sem,↓zA,↓reduceIte,↓reduceDIte] <;>try simp only [zB]
 refine rnE ?_;with_reducible refine sxE ?_;trivial
theorem q4U(v:Value):PC Tryz.prog 184 [.raw v,rI 0] (.raw v):=by refine q0l rfl rfl ?_;refine rQ fi184 ?_;trivial
def q5Z(v:Value)(e:Nat)(j:e≠0):PE Tryz.prog 184 [.raw v,rI e] [] (.pan (errV e)) []:=by refine q0a (by simp) ?_;refine rQ fi184 ?_;exact ⟨λ_=>trivial,λh=>absurd (by omega) j⟩
theorem q7M(v:List UInt8):PC Tryz.prog 141 [.isl .u8 v,rI 0] (.isl .u8 v):=by refine q0l rfl rfl ?_;refine rQ fi141 ?_;trivial
def q8i(v:List UInt8)(e:Nat)(j:e≠0):PE Tryz.prog 141 [.isl .u8 v,rI e] [] (.pan (errV e)) []:=by refine q0a (by simp) ?_;refine rQ fi141 ?_;exact ⟨λ_=>trivial,λh=>absurd (by omega) j⟩
theorem q8F(v:Prin):PC Tryz.prog 185 [.agg (PrinT.cells v),rI 0] (.agg (PrinT.cells v)):=by refine q0l rfl rfl ?_;refine rQ fi185 ?_;trivial
def q9C(v:Prin)(e:Nat)(j:e≠0):PE Tryz.prog 185 [.agg (PrinT.cells v),rI e] [] (.pan (errV e)) []:=by refine q0a (by simp) ?_;refine rQ fi185 ?_;exact ⟨λ_=>trivial,λh=>absurd (by omega) j⟩
theorem z1Q(v:Key):PC Tryz.prog 146 [.agg (KeyT.cells v),rI 0] (.agg (KeyT.cells v)):=by refine q0l rfl rfl ?_;refine rQ fi146 ?_;trivial
def z0G(v:Key)(e:Nat)(j:e≠0):PE Tryz.prog 146 [.agg (KeyT.cells v),rI e] [] (.pan (errV e)) []:=by refine q0a (by simp) ?_;refine rQ fi146 ?_;exact ⟨λ_=>trivial,λh=>absurd (by omega) j⟩
theorem q8D(v:List Pre):PC Tryz.prog 150 [.isl PreT v,rI 0] (.isl PreT v):=by refine q0l rfl rfl ?_;refine rQ fi150 ?_;trivial
def q9S(v:List Pre)(e:Nat)(j:e≠0):PE Tryz.prog 150 [.isl PreT v,rI e] [] (.pan (errV e)) []:=by refine q0a (by simp) ?_;refine rQ fi150 ?_;exact ⟨λ_=>trivial,λh=>absurd (by omega) j⟩
def q2s(b:List UInt8)(n:Nat):PE Tryz.prog 64 [.ptr 0 0,rI 0] [rdr b n] (.ret (.ptr 0 0)) [rdr b n]:=by refine q0a (by simp) ?_;refine rQ fi64 ?_;trivial
def q6a(e:Nat)(j:e≠0):PE Tryz.prog 64 [.raw (.pointer none),rI e] [] (.pan (errV e)) []:=by refine q0a (by simp) ?_;refine rQ fi64 ?_;exact ⟨λ_=>trivial,λh=>absurd (by omega) j⟩
variable {α:Type}
def moR(res:α->SV)(z:SV):Option α->SV
 |some v=>.tup [res v,rB true]
 |none=>.tup [z,rB false]
def j8d(c:List UInt8)(j:c.length<=1099511627776):EffR Tryz.prog 70 [.ptr 0 0] c 0 (λv:Int=>rI v) (rI 0) (intP c):=by
 cases l:intP c with
 |error e=>exact z6g c 0 (Ai _) j l
 |ok x=>obtain ⟨v,k⟩:=x;exact z7S c 0 (Ai _) j l
def j4m(c:List UInt8)(j:c.length<=1099511627776):EffR Tryz.prog 75 [.ptr 0 0] c 0 (λv:Nat=>rI (v:Nat)) (rI 0) (timeP c):=by
 cases l:timeP c with
 |error e=>exact j1E c 0 (Ai _) j l
 |ok x=>obtain ⟨v,k⟩:=x;exact z9R c 0 (Ai _) j l
def j7Z(c:List UInt8)(j:c.length<=1099511627776):EffR Tryz.prog 74 [.ptr 0 0] c 0 (λv:List UInt8=>.isl .u8 v) (.isl .u8 []) (octP c):=by
 cases l:octP c with
 |error e=>exact z7d c 0 (Ai _) j l
 |ok x=>obtain ⟨v,k⟩:=x;exact z7G c 0 (Ai _) j l
def j4V(c:List UInt8)(hc:c.length<=1099511627776):EffR Tryz.prog 72 [.ptr 0 0] c 0 (λv:Prin=>.agg (PrinT.cells v)) zPrin (nameP c):=j7v c 0 (Ai _) hc
def j8g(c:List UInt8)(hc:c.length<=1099511627776):EffR Tryz.prog 77 [.ptr 0 0] c 0 (λv:Key=>.agg (KeyT.cells v)) zKey (keyP c):=j5Q c 0 (Ai _) hc
def j6e(c:List UInt8)(hc:c.length<=1099511627776):EffR Tryz.prog 79 [.ptr 0 0] c 0 (λv:List Pre=>.isl PreT v) zDat (dataP c):=j1s c 0 (Ai _) hc
attribute [go_sem] moR
def someP:Except Nat (α×Nat)->Except Nat (Option α×Nat)
 |.ok (v,k)=>.ok (some v,k)
 |.error e=>.error e
variable {i:Nat}{p:PR α}{r:List UInt8}
theorem q2y(h:nextB i r=false):mayP i p r= .ok (none,0):=by unfold mayP;rw [h];rfl
theorem q2q(h:nextB i r=true):mayP i p r=someP (inP (tagB i) p r):=by
 unfold mayP;rw [if_pos h];cases inP (tagB i) p r with
 |error e=>rfl
 |ok x=>obtain ⟨v,k⟩:=x;rfl
theorem j8b(i:Nat)(A:i<=30)(b:List UInt8)(n:Nat)(B:n<=b.length)(z:b.length<=1099511627776):EffX Tryz.prog 129 [.agg [.ptr 0 0],rI i,.fn 70 [] []] b n (moR (λv:Int=>rI v) (rI 0)) (mayP i intP (b.drop n)):=by
 cases h:nextB i (b.drop n) with
 |false=>rw [q2y h];have l:=q2O i A b n B h;refine q0a (by simp) ?_;refine rQ fi129 ?_;refine eQ [0] (l) ?_;try rfl
 |true=>
  rw [q2q h];by_cases s:takeE (tagB i) (b.drop n)=0
  . have l:=q2K i A b n B z h s;have F:=q1y (n:=n) z;rw [q2N s];generalize takeC (b.drop n)=c at*;generalize takeN (b.drop n)=N at*;have u:=j8d c F;cases y:intP c with
    |error e=>rw [y] at u;have D:e≠0:=(λ_ _ h=>q6k h) _ _ y;have hr':=q3D u rfl;refine q0a (by simp) ?_;refine rQ fi129 ?_;refine eQ [0] (l) ?_;refine eQ [2] (hr') ?_;refine effP [] (q5Z (.int .i64 0) e D) ?_;trivial
    |ok x=>
     obtain ⟨v,m⟩:=x;rw [y] at u;have hr':=q3G u rfl;rw [Ag] at hr';have hm:=(q4d) _ _ _ y;simp only [closeP];by_cases j:m<c.length
     . rw [if_pos j];refine q0a (by simp) ?_;refine rQ fi129 ?_;refine eQ [0] (l) ?_;refine eQ [2] (hr') ?_;refine cQ (q4U _) ?_;refine effP [2] (q4I c m j) ?_;try rfl
     rw [if_neg j];refine q0a (by simp) ?_;refine rQ fi129 ?_;refine eQ [0] (l) ?_;refine eQ [2] (hr') ?_;refine cQ (q4U _) ?_;refine eQ [2] (q4l c m (by omega)) ?_;trivial
  rw [q3t s];have l:=q2M i A b n B z h s;generalize takeE (tagB i) (b.drop n)=e at*;refine q0a (by simp) ?_;refine rQ fi129 ?_;refine eQ [0] (l) ?_;exact ⟨λ_=>trivial,λq=>absurd (by omega) s⟩
theorem j3C(i:Nat)(A:i<=30)(b:List UInt8)(n:Nat)(B:n<=b.length)(z:b.length<=1099511627776):EffX Tryz.prog 129 [.agg [.ptr 0 0],rI i,.fn 75 [] []] b n (moR (λv:Nat=>rI (v:Nat)) (rI 0)) (mayP i timeP (b.drop n)):=by
 cases h:nextB i (b.drop n) with
 |false=>rw [q2y h];have l:=q2O i A b n B h;refine q0a (by simp) ?_;refine rQ fi129 ?_;refine eQ [0] (l) ?_;try rfl
 |true=>
  rw [q2q h];by_cases s:takeE (tagB i) (b.drop n)=0
  . have l:=q2K i A b n B z h s;have F:=q1y (n:=n) z;rw [q2N s];generalize takeC (b.drop n)=c at*;generalize takeN (b.drop n)=N at*;have u:=j4m c F;cases y:timeP c with
    |error e=>rw [y] at u;have D:e≠0:=(λ_ _ h=>q6k h) _ _ y;have hr':=q3D u rfl;refine q0a (by simp) ?_;refine rQ fi129 ?_;refine eQ [0] (l) ?_;refine eQ [2] (hr') ?_;refine effP [] (q5Z (.int .i64 0) e D) ?_;trivial
    |ok x=>
     obtain ⟨v,m⟩:=x;rw [y] at u;have hr':=q3G u rfl;rw [Ag] at hr';have hm:=(q4d) _ _ _ y;simp only [closeP];by_cases j:m<c.length
     . rw [if_pos j];refine q0a (by simp) ?_;refine rQ fi129 ?_;refine eQ [0] (l) ?_;refine eQ [2] (hr') ?_;refine cQ (q4U _) ?_;refine effP [2] (q4I c m j) ?_;try rfl
     rw [if_neg j];refine q0a (by simp) ?_;refine rQ fi129 ?_;refine eQ [0] (l) ?_;refine eQ [2] (hr') ?_;refine cQ (q4U _) ?_;refine eQ [2] (q4l c m (by omega)) ?_;trivial
  rw [q3t s];have l:=q2M i A b n B z h s;generalize takeE (tagB i) (b.drop n)=e at*;refine q0a (by simp) ?_;refine rQ fi129 ?_;refine eQ [0] (l) ?_;exact ⟨λ_=>trivial,λq=>absurd (by omega) s⟩
theorem j7i(i:Nat)(A:i<=30)(b:List UInt8)(n:Nat)(B:n<=b.length)(z:b.length<=1099511627776):EffX Tryz.prog 73 [.agg [.ptr 0 0],rI i,.fn 74 [] []] b n (moR (λv:List UInt8=>.isl .u8 v) (.isl .u8 [])) (mayP i octP (b.drop n)):=by
 cases h:nextB i (b.drop n) with
 |false=>rw [q2y h];have l:=q2O i A b n B h;refine q0a (by simp) ?_;refine rQ fi73 ?_;refine eQ [0] (l) ?_;try rfl
 |true=>
  rw [q2q h];by_cases s:takeE (tagB i) (b.drop n)=0
  . have l:=q2K i A b n B z h s;have F:=q1y (n:=n) z;rw [q2N s];generalize takeC (b.drop n)=c at*;generalize takeN (b.drop n)=N at*;have u:=j7Z c F;cases y:octP c with
    |error e=>rw [y] at u;have D:e≠0:=(λ_ _ h=>q6k h) _ _ y;have hr':=q3D u rfl;refine q0a (by simp) ?_;refine rQ fi73 ?_;refine eQ [0] (l) ?_;refine eQ [2] (hr') ?_;refine effP [] (q8i [] e D) ?_;trivial
    |ok x=>
     obtain ⟨v,m⟩:=x;rw [y] at u;have hr':=q3G u rfl;rw [Ag] at hr';have hm:=(q4d) _ _ _ y;simp only [closeP];by_cases j:m<c.length
     . rw [if_pos j];refine q0a (by simp) ?_;refine rQ fi73 ?_;refine eQ [0] (l) ?_;refine eQ [2] (hr') ?_;refine cQ (q7M _) ?_;refine effP [2] (q4I c m j) ?_;try rfl
     rw [if_neg j];refine q0a (by simp) ?_;refine rQ fi73 ?_;refine eQ [0] (l) ?_;refine eQ [2] (hr') ?_;refine cQ (q7M _) ?_;refine eQ [2] (q4l c m (by omega)) ?_;trivial
  rw [q3t s];have l:=q2M i A b n B z h s;generalize takeE (tagB i) (b.drop n)=e at*;refine q0a (by simp) ?_;refine rQ fi73 ?_;refine eQ [0] (l) ?_;exact ⟨λ_=>trivial,λq=>absurd (by omega) s⟩
theorem j6c(i:Nat)(A:i<=30)(b:List UInt8)(n:Nat)(B:n<=b.length)(z:b.length<=1099511627776):EffX Tryz.prog 132 [.agg [.ptr 0 0],rI i,.fn 72 [] []] b n (moR (λv:Prin=>.agg (PrinT.cells v)) (zPrin)) (mayP i nameP (b.drop n)):=by
 cases h:nextB i (b.drop n) with
 |false=>rw [q2y h];have l:=q2O i A b n B h;refine q0a (by simp) ?_;refine rQ fi132 ?_;refine eQ [0] (l) ?_;try rfl
 |true=>
  rw [q2q h];by_cases s:takeE (tagB i) (b.drop n)=0
  . have l:=q2K i A b n B z h s;have F:=q1y (n:=n) z;rw [q2N s];generalize takeC (b.drop n)=c at*;generalize takeN (b.drop n)=N at*;have u:=j4V c F;cases y:nameP c with
    |error e=>rw [y] at u;have D:e≠0:=(j0Z) _ _ y;have hr':=q3D u rfl;refine q0a (by simp) ?_;refine rQ fi132 ?_;refine eQ [0] (l) ?_;refine eQ [3] (hr') ?_;refine effP [] (q9C ([],⟨#[]⟩) e D) ?_;trivial
    |ok x=>
     obtain ⟨v,m⟩:=x;rw [y] at u;have hr':=q3G u rfl;rw [Ag] at hr';have hm:=(z5l) _ _ _ y;simp only [closeP];by_cases j:m<c.length
     . rw [if_pos j];refine q0a (by simp) ?_;refine rQ fi132 ?_;refine eQ [0] (l) ?_;refine eQ [3] (hr') ?_;refine cQ (q8F _) ?_;refine effP [3] (q4I c m j) ?_;try rfl
     rw [if_neg j];refine q0a (by simp) ?_;refine rQ fi132 ?_;refine eQ [0] (l) ?_;refine eQ [3] (hr') ?_;refine cQ (q8F _) ?_;refine eQ [3] (q4l c m (by omega)) ?_;trivial
  rw [q3t s];have l:=q2M i A b n B z h s;generalize takeE (tagB i) (b.drop n)=e at*;refine q0a (by simp) ?_;refine rQ fi132 ?_;refine eQ [0] (l) ?_;exact ⟨λ_=>trivial,λq=>absurd (by omega) s⟩
theorem j6A(i:Nat)(A:i<=30)(b:List UInt8)(n:Nat)(B:n<=b.length)(z:b.length<=1099511627776):EffX Tryz.prog 76 [.agg [.ptr 0 0],rI i,.fn 77 [] []] b n (moR (λv:Key=>.agg (KeyT.cells v)) (zKey)) (mayP i keyP (b.drop n)):=by
 cases h:nextB i (b.drop n) with
 |false=>rw [q2y h];have l:=q2O i A b n B h;refine q0a (by simp) ?_;refine rQ fi76 ?_;refine eQ [0] (l) ?_;try rfl
 |true=>
  rw [q2q h];by_cases s:takeE (tagB i) (b.drop n)=0
  . have l:=q2K i A b n B z h s;have F:=q1y (n:=n) z;rw [q2N s];generalize takeC (b.drop n)=c at*;generalize takeN (b.drop n)=N at*;have u:=j8g c F;cases y:keyP c with
    |error e=>rw [y] at u;have D:e≠0:=(j6b) _ _ y;have hr':=q3D u rfl;refine q0a (by simp) ?_;refine rQ fi76 ?_;refine eQ [0] (l) ?_;refine eQ [3] (hr') ?_;refine effP [] (z0G nKey e D) ?_;trivial
    |ok x=>
     obtain ⟨v,m⟩:=x;rw [y] at u;have hr':=q3G u rfl;rw [Ag] at hr';have hm:=(q4V) _ _ _ y;simp only [closeP];by_cases j:m<c.length
     . rw [if_pos j];refine q0a (by simp) ?_;refine rQ fi76 ?_;refine eQ [0] (l) ?_;refine eQ [3] (hr') ?_;refine cQ (z1Q _) ?_;refine effP [3] (q4I c m j) ?_;try rfl
     rw [if_neg j];refine q0a (by simp) ?_;refine rQ fi76 ?_;refine eQ [0] (l) ?_;refine eQ [3] (hr') ?_;refine cQ (z1Q _) ?_;refine eQ [3] (q4l c m (by omega)) ?_;trivial
  rw [q3t s];have l:=q2M i A b n B z h s;generalize takeE (tagB i) (b.drop n)=e at*;refine q0a (by simp) ?_;refine rQ fi76 ?_;refine eQ [0] (l) ?_;exact ⟨λ_=>trivial,λq=>absurd (by omega) s⟩
theorem j3T(i:Nat)(A:i<=30)(b:List UInt8)(n:Nat)(B:n<=b.length)(z:b.length<=1099511627776):EffX Tryz.prog 78 [.agg [.ptr 0 0],rI i,.fn 79 [] []] b n (moR (λv:List Pre=>.isl PreT v) (zDat)) (mayP i dataP (b.drop n)):=by
 cases h:nextB i (b.drop n) with
 |false=>rw [q2y h];have l:=q2O i A b n B h;refine q0a (by simp) ?_;refine rQ fi78 ?_;refine eQ [0] (l) ?_;try rfl
 |true=>
  rw [q2q h];by_cases s:takeE (tagB i) (b.drop n)=0
  . have l:=q2K i A b n B z h s;have F:=q1y (n:=n) z;rw [q2N s];generalize takeC (b.drop n)=c at*;generalize takeN (b.drop n)=N at*;have u:=j6e c F;cases y:dataP c with
    |error e=>rw [y] at u;have D:e≠0:=(j0i) _ _ y;have hr':=q3D u rfl;refine q0a (by simp) ?_;refine rQ fi78 ?_;refine eQ [0] (l) ?_;refine eQ [2] (hr') ?_;refine effP [] (q9S [] e D) ?_;trivial
    |ok x=>
     obtain ⟨v,m⟩:=x;rw [y] at u;have hr':=q3G u rfl;rw [Ag] at hr';have hm:=(q4V) _ _ _ y;simp only [closeP];by_cases j:m<c.length
     . rw [if_pos j];refine q0a (by simp) ?_;refine rQ fi78 ?_;refine eQ [0] (l) ?_;refine eQ [2] (hr') ?_;refine cQ (q8D _) ?_;refine effP [2] (q4I c m j) ?_;try rfl
     rw [if_neg j];refine q0a (by simp) ?_;refine rQ fi78 ?_;refine eQ [0] (l) ?_;refine eQ [2] (hr') ?_;refine cQ (q8D _) ?_;refine eQ [2] (q4l c m (by omega)) ?_;trivial
  rw [q3t s];have l:=q2M i A b n B z h s;generalize takeE (tagB i) (b.drop n)=e at*;refine q0a (by simp) ?_;refine rQ fi78 ?_;refine eQ [0] (l) ?_;exact ⟨λ_=>trivial,λq=>absurd (by omega) s⟩
def z2B(i:Nat)(u:i<=30)(b:List UInt8)(n:Nat)(y:n<=b.length)(s:b.length<=1099511627776):EffY Tryz.prog 69 [.agg [.ptr 0 0],rI i,.fn 70 [] []] b n (λv=>rI v) (needP i intP (b.drop n)):=by
 have l:=j8b i u b n y s;cases h:nextB i (b.drop n) with
 |false=>rw [q1T h];have ho':=q0W l (q2y h);refine ⟨6,?_⟩;refine q0a (by simp) ?_;refine rQ fi69 ?_;refine eQ [0] (ho') ?_;refine effP [0] (q5i b (n+0)) ?_;try rfl
 |true=>
  rw [q1X h];have j:=q2q (p:=intP) h;cases m:inP (tagB i) intP (b.drop n) with
  |error e=>rw [m] at j;have ho':=q2d l j;refine ⟨e,?_⟩;refine q0a (by simp) ?_;refine rQ fi69 ?_;refine effP [0] (ho') ?_;trivial
  |ok x=>obtain ⟨v,k⟩:=x;rw [m] at j;have ho':=q0W l j;refine q0a (by simp) ?_;refine rQ fi69 ?_;refine eQ [0] (ho') ?_;refine eQ [0] (q3s b (n+k)) ?_;trivial
def j0s(i:Nat)(u:i<=30)(b:List UInt8)(n:Nat)(y:n<=b.length)(s:b.length<=1099511627776):EffY Tryz.prog 69 [.agg [.ptr 0 0],rI i,.fn 75 [] []] b n (λv=>rI (v:Nat)) (needP i timeP (b.drop n)):=by
 have l:=j3C i u b n y s;cases h:nextB i (b.drop n) with
 |false=>rw [q1T h];have ho':=q0W l (q2y h);refine ⟨6,?_⟩;refine q0a (by simp) ?_;refine rQ fi69 ?_;refine eQ [0] (ho') ?_;refine effP [0] (q5i b (n+0)) ?_;try rfl
 |true=>
  rw [q1X h];have j:=q2q (p:=timeP) h;cases m:inP (tagB i) timeP (b.drop n) with
  |error e=>rw [m] at j;have ho':=q2d l j;refine ⟨e,?_⟩;refine q0a (by simp) ?_;refine rQ fi69 ?_;refine effP [0] (ho') ?_;trivial
  |ok x=>obtain ⟨v,k⟩:=x;rw [m] at j;have ho':=q0W l j;refine q0a (by simp) ?_;refine rQ fi69 ?_;refine eQ [0] (ho') ?_;refine eQ [0] (q3s b (n+k)) ?_;trivial
def j0L(i:Nat)(u:i<=30)(b:List UInt8)(n:Nat)(y:n<=b.length)(s:b.length<=1099511627776):EffY Tryz.prog 71 [.agg [.ptr 0 0],rI i,.fn 72 [] []] b n (λv=>.agg (PrinT.cells v)) (needP i nameP (b.drop n)):=by
 have l:=j6c i u b n y s;cases h:nextB i (b.drop n) with
 |false=>rw [q1T h];have ho':=q0W l (q2y h);refine ⟨6,?_⟩;refine q0a (by simp) ?_;refine rQ fi71 ?_;refine eQ [0] (ho') ?_;refine effP [0] (q5i b (n+0)) ?_;try rfl
 |true=>
  rw [q1X h];have j:=q2q (p:=nameP) h;cases m:inP (tagB i) nameP (b.drop n) with
  |error e=>rw [m] at j;have ho':=q2d l j;refine ⟨e,?_⟩;refine q0a (by simp) ?_;refine rQ fi71 ?_;refine effP [0] (ho') ?_;trivial
  |ok x=>obtain ⟨v,k⟩:=x;rw [m] at j;have ho':=q0W l j;refine q0a (by simp) ?_;refine rQ fi71 ?_;refine eQ [0] (ho') ?_;refine eQ [0] (q3s b (n+k)) ?_;trivial
set_option maxHeartbeats 40000000
abbrev zAut:SV:=.agg [.isl .str [],rS ⟨#[]⟩,.isl .u8 [],rI 0,rI 0,rI 0,rI 0,.isl .u8 [],rI 0,.isl PreT []]
@[go_sem] abbrev zAutC:List SV:=[.raw (.slice none 0 0),rS ⟨#[]⟩,.raw (.slice none 0 0),rI 0,rI 0,rI 0,rI 0,.raw (.slice none 0 0),rI 0,.raw (.slice none 0 0)]
def q1j(e:Int)(c0 c1 c2 c3 x s u l m j y:SV)(G:List SObj)(K:List SObj->Prop)(h:∀G',K (.cells 30 zAutC :: .cells 33 [rI 6] :: G++G')):
 DCall Tryz.prog 62 [.ptr 0 0,.ptr 1 0] (some (errV e)) (.cells 30 [c0,c1,c2,c3,x,s,u,l,m,j] :: .cells 33 [y] :: G) K:=by
 refine recE mixed fi62 ?_;simpa using h []
def j5b(H:List SObj)(K:List SObj->Prop)(h:∀G,K (H++G)):DCall Tryz.prog 62 [.ptr 0 0,.ptr 1 0] none H K:=by refine recE mixed fi62 ?_;simpa using h []
def optQ(i:Nat)(p:PR α)(d:α)(fit:α->Bool):PR α:=λr=>match mayP i p r with
 |.ok (some v,k)=>if fit v then .ok (v,k) else .error 6
 |.ok (none,k)=>.ok (d,k)
 |.error e=>.error e
variable {d:α}{fit:α->Bool}
theorem q7u{v:α}{k:Nat}(h:optQ i p d fit r= .ok (v,k)):(mayP i p r= .ok (some v,k)/\fit v=true)\/(mayP i p r= .ok (none,k)/\v=d):=by
 unfold optQ at h;split at h
 . split at h
   . cases h;exact .inl ⟨by assumption,by assumption⟩
   cases h
 . cases h;exact .inr ⟨by assumption,rfl⟩
 cases h
theorem z2G{e:Nat}(h:optQ i p d fit r= .error e):(∃e',mayP i p r= .error e')\/∃v k,mayP i p r= .ok (some v,k)/\fit v=false:=by
 unfold optQ at h;split at h
 . split at h
   . cases h
   rename_i j l;exact .inr ⟨_,_,j,by simpa using l⟩
 . cases h
 exact .inl ⟨_,by assumption⟩
def z7b:FitsP (mayP i p):=λr v k h=>by
 cases l:nextB i r with
 |false=>rw [q2y l] at h;cases h;exact Ai _
 |true=>
  rw [q2q l] at h;cases j:inP (tagB i) p r with
  |error e=>rw [j] at h;cases h
  |ok x=>obtain ⟨u,m⟩:=x;rw [j] at h;cases h;exact q4V r _ _ j
def q7V:FitsP (optQ i p d fit):=λr v k h=>by rcases q7u h with ⟨e,_⟩ | ⟨e,_⟩ <;>exact z7b r _ k e
def q7d{v:Int}:needP i (cstP v) r=match needP i intP r with
 |.ok (w,k)=>if w=v then .ok ((),k) else .error 6
 |.error e=>.error e:=by
 cases h:nextB i r with
 |false=>rw [q1T h,q1T h]
 |true=>
  rw [q1X h,q1X h];by_cases l:takeE (tagB i) r=0
  . rw [q2N l,q2N l];unfold cstP;cases hx:intP (takeC r) with
    |error e=>rfl
    |ok y=>
     obtain ⟨w,k⟩:=y;simp only;by_cases m:w=v
     . rw [if_pos m];simp only [closeP];by_cases j:k< (takeC r).length
       . rw [if_pos j,if_pos j]
       rw [if_neg j,if_neg j];simp only;rw [if_pos m]
     rw [if_neg m];simp only [closeP];by_cases j:k< (takeC r).length
     . rw [if_pos j]
     rw [if_neg j];simp only;rw [if_neg m]
  rw [q3t l,q3t l]
def z3g{Q:α->Prop}(y:Q d)(z:OkP p Q):OkP (optQ i p d fit) Q:=λr v m A h=>by
 rcases q7u h with ⟨j,_⟩ | ⟨_,rfl⟩
 . cases s:nextB i r with
   |false=>rw [q2y s] at j;cases j
   |true=>
    rw [q2q s] at j;cases l:inP (tagB i) p r with
    |error e=>rw [l] at j;cases j
    |ok x=>obtain ⟨u,n⟩:=x;rw [l] at j;cases j;exact z1R z r _ _ A l
 exact y
def j1Y:OkP datP PreT.ok:=z1R (q5d (Q1:=λ_=>True) z0o λ_ _=>q5d (q4L z3p) λ_ hc=>z8b ⟨trivial,hc⟩)
def z7g:OkP dataP (Ty.slice PreT).ok:=j8s (t:=PreT) 16 (by omega) j1Y
def autIn:PR Aut:=bindP (needP 0 (cstP 5)) λ_=>bindP (needP 1 nameP) λc=>bindP (optQ 2 octP [] λs=>decide (0< (s.length:Int))) λs=>bindP (needP 3 intP) λm=>bindP (needP 4 timeP) λt=>bindP (optQ 5 keyP nKey λk=> !decide (k.1=0)) λk=>bindP (needP 6 intP) λq=>bindP (optQ 7 dataP [] λd=>decide (0< (d.length:Int))) λd=>retP ((c,s,(t:Int),m,k,q,d):Aut)
def autP:PR Aut:=inP (appB 2) (inP 48 autIn)
def autD(b:List UInt8):Option Aut:=match allP autP b with
 |.ok a=>if vAut a=true then some a else none
 |.error _=>none
def autDS(x:Option Aut):SV:=match x with
 |some a=>.tup [.agg (AutT.cells a),rI 0]
 |none=>.tup [zAut,rI 6]
def finA(c:List UInt8):Except Nat (Aut×Nat)->Option Aut
 |.ok (a,m)=>if m<c.length then none else if vAut a=true then some a else none
 |.error _=>none
variable {b:List UInt8}
def j4p(s:takeE (appB 2) b=0)(l:takeE 48 (takeC b)=0)(y:¬takeN b<b.length)(u:¬takeN (takeC b) < (takeC b).length):autD b=finA (takeC (takeC b)) (autIn (takeC (takeC b))):=by
 unfold autD allP autP;rw [q2N s,q2N l];cases autIn (takeC (takeC b)) with
 |error e=>rfl
 |ok x=>
  obtain ⟨a,m⟩:=x;simp only [closeP,finA];by_cases j:m< (takeC (takeC b)).length
  . rw [if_pos j,if_pos j]
  rw [if_neg j,if_neg j];simp only [];rw [if_neg u];simp only [];rw [if_neg y]
def z9W(u:takeE (appB 2) b=0)(s:takeE 48 (takeC b)=0)(h:takeN b<b.length\/takeN (takeC b) < (takeC b).length):autD b=none:=by
 unfold autD allP autP;rw [q2N u,q2N s];cases autIn (takeC (takeC b)) with
 |error e=>rfl
 |ok x=>
  obtain ⟨a,m⟩:=x;simp only [closeP];by_cases l:m< (takeC (takeC b)).length
  . rw [if_pos l]
  rw [if_neg l];simp only [];by_cases j:takeN (takeC b) < (takeC b).length
  . rw [if_pos j]
  rw [if_neg j];simp only [];rw [if_pos (h.resolve_right j)]
theorem z2t(x:Option Aut):(autDS x).clean=true:=by cases x<;>rfl
theorem q1e:autDS none= .tup [zAut,rI 6]:=rfl
theorem j2q(a:Aut):autDS (some a)= .tup [.agg (AutT.cells a),rI 0]:=rfl
theorem z0H(b:List UInt8)(hb:b.length<=1099511627776):PC Tryz.prog 15 [.isl .u8 b] (autDS (autD b)):=by
 have z:=j8r b (by omega);by_cases U:takeE (appB 2) b=0;rotate_left
 . have A:=j3P 2 (by decide) b 0 (Ai _) hb U;rw [Ap] at A;have hd:autD b=none:=by unfold autD allP autP;rw [q3t U]
   rw [hd,q1e];refine q0l rfl rfl ?_;refine defE mixed fi15 ?_;refine gQ ?_;refine eQ [] (z) ?_;refine eQ [2] (A) ?_;refine effP [] (q6a _ U) ?_;refine ⟨by simp,q1j _ _ _ _ _ _ _ _ _ _ _ _ _ _ λG=> ?_⟩;with_reducible refine sxE ?_;trivial
 have A:=j5y 2 (by decide) b 0 (Ai _) hb U;rw [Ap,Ag] at A;have R:=q1y (n:=0) hb;have ab:=q3f U;rw [Ap] at R;by_cases W:takeE 48 (takeC b)=0;rotate_left
 . have D:=q5Q (takeC b) 0 (Ai _) R W;rw [Ap] at D;have hd:autD b=none:=by unfold autD allP autP;rw [q2N U,q3t W];rfl
   rw [hd,q1e];refine q0l rfl rfl ?_;refine defE mixed fi15 ?_;refine gQ ?_;refine eQ [] (z) ?_;refine eQ [2] (A) ?_;refine eQ [4] (q2s (takeC b) 0) ?_;refine eQ [4] (D) ?_;refine effP [] (q6a _ W) ?_;refine ⟨by simp,q1j _ _ _ _ _ _ _ _ _ _ _ _ _ _ λG=> ?_⟩;with_reducible refine sxE ?_;trivial
 have D:=q5s (takeC b) 0 (Ai _) R W;rw [Ap,Ag] at D;have B:=q1y (n:=0) R;have ac:=q3f W;rw [Ap] at B;have aa:=j4p U W;have Z:=z9W U W;generalize takeC (takeC b)=c at*;generalize takeC b=c1 at*;generalize takeN c1=N2 at*;generalize takeN b=N1 at*;by_cases h2:N2<c1.length
 . rw [Z (.inr h2),q1e];refine q0l rfl rfl ?_;refine defE mixed fi15 ?_;refine gQ ?_;refine eQ [] (z) ?_;refine eQ [2] (A) ?_;refine eQ [4] (q2s c1 0) ?_;refine eQ [4] (D) ?_;refine eQ [6] (q2s c 0) ?_;refine effP [4] (q4I c1 N2 h2) ?_;refine ⟨by simp,q1j _ _ _ _ _ _ _ _ _ _ _ _ _ _ λG=> ?_⟩;with_reducible refine sxE ?_;trivial
 by_cases h1:N1<b.length
 . rw [Z (.inl h1),q1e];refine q0l rfl rfl ?_;refine defE mixed fi15 ?_;refine gQ ?_;refine eQ [] (z) ?_;refine eQ [2] (A) ?_;refine eQ [4] (q2s c1 0) ?_;refine eQ [4] (D) ?_;refine eQ [6] (q2s c 0) ?_;refine eQ [4] (q4l c1 N2 (by omega)) ?_;refine effP [2] (q4I b N1 h1) ?_;refine ⟨by simp,q1j _ _ _ _ _ _ _ _ _ _ _ _ _ _ λG=> ?_⟩;with_reducible refine sxE ?_;trivial
 rw [aa h1 h2];clear aa Z;have J:=q4l c1 N2 (by omega);have K:=q4l b N1 (by omega);clear ab ac h1 h2 hb R;refine q0l rfl (z2t _) ?_;refine defE mixed fi15 ?_;refine gQ ?_;refine eQ [] (z) ?_;refine eQ [2] (A) ?_;refine eQ [4] (q2s c1 0) ?_;refine eQ [4] (D) ?_;refine eQ [6] (q2s c 0) ?_;refine eQ [4] (J) ?_;refine q0i [2] K rfl (by decide) (by repeat first|exact trivial|exact rfl|refine And.intro ?_ ?_) rfl rfl ?_;simp only [afterO,Out.ren,SV.ren,mgA,sig,SObj.ren,SV.renL,List.set,List.map,Ad];refine uQ 2 _ ?_;with_reducible refine sxE ?_
 clear z A D K J U W;refine z3f [7] mixed ?_;refine gQ ?_;have y0:=z2B 0 (by decide) c 0 (Ai _) B;rw [Ap] at y0;cases Y:needP 0 intP c with
 |error e=>
  obtain ⟨e',y0'⟩:=q7I y0 Y;have V:needP 0 (cstP 5) c= .error e:=by rw [q7d,Y]
  rw [show autIn c= .error e from q0X V];simp only [shiftP,finA];rw [q1e];refine q0q [6] (y0') rfl (by decide) ⟨rfl,rfl,trivial⟩ rfl rfl ?_ ?_
  . simp (maxSteps:=3000000) only [mgA,sig,q0u,q0A,SObj.ren,SV.ren,SV.renL,go_sem,↓zA,↓reduceIte,↓reduceDIte] <;>try simp only [zB]
  refine rnE ?_;refine z4e ?_;with_reducible refine sxE ?_
  refine ⟨by simp,q1j _ _ _ _ _ _ _ _ _ _ _ _ _ _ λG=> ?_⟩;with_reducible refine sxE ?_;trivial
 |ok x=>
 obtain ⟨v0,k0⟩:=x;have y0':=q7T y0 Y;rw [Ag] at y0';have f0:=q0Q _ _ _ Y;by_cases hv:v0=5;rotate_left
 . have V:needP 0 (cstP 5) c= .error 6:=by rw [q7d,Y];simp only;rw [if_neg hv]
   rw [show autIn c= .error 6 from q0X V];simp only [shiftP,finA];rw [q1e];refine q0q [6] (y0') rfl (by decide) ⟨rfl,rfl,trivial⟩ rfl rfl ?_ ?_
   . simp (maxSteps:=3000000) only [mgA,sig,q0u,q0A,SObj.ren,SV.ren,SV.renL,go_sem,↓zA,↓reduceIte,↓reduceDIte] <;>try simp only [zB]
   refine rnE ?_;refine gQ ?_;rw [decide_eq_false hv];refine q0q [6] (q5i c k0) rfl (by decide) ⟨rfl,rfl,trivial⟩ rfl rfl ?_ ?_
   . simp (maxSteps:=3000000) only [mgA,sig,q0u,q0A,SObj.ren,SV.ren,SV.renL,go_sem,↓zA,↓reduceIte,↓reduceDIte] <;>try simp only [zB]
   refine rnE ?_;refine z4e ?_;with_reducible refine sxE ?_
   refine ⟨by simp,q1j _ _ _ _ _ _ _ _ _ _ _ _ _ _ λG=> ?_⟩;with_reducible refine sxE ?_;trivial
 have V:needP 0 (cstP 5) c= .ok ((),k0):=by rw [q7d,Y];simp only;rw [if_pos hv]
 rw [show autIn c=_ from q6D V];refine q0q [6] (y0') rfl (by decide) ⟨rfl,rfl,trivial⟩ rfl rfl ?_ ?_
 . simp (maxSteps:=3000000) only [mgA,sig,q0u,q0A,SObj.ren,SV.ren,SV.renL,go_sem,↓zA,↓reduceIte,↓reduceDIte] <;>try simp only [zB]
 refine rnE ?_;refine gQ ?_;rw [decide_eq_true hv];refine q0q [6] (q3s c k0) rfl (by decide) ⟨rfl,rfl,trivial⟩ rfl rfl ?_ ?_
 . simp (maxSteps:=3000000) only [mgA,sig,q0u,q0A,SObj.ren,SV.ren,SV.renL,go_sem,↓zA,↓reduceIte,↓reduceDIte] <;>try simp only [zB]
 refine rnE ?_;refine gQ ?_;refine z9d ?_;refine gQ ?_;clear y0 y0' Y V hv

 have y1:=j0L 1 (by decide) c k0 f0 B;cases x1:needP 1 nameP (c.drop k0) with
 |error e=>obtain ⟨e',y'⟩:=q7I y1 x1;rw [q0X x1];simp only [shiftP,finA];rw [q1e];refine effP [6] (y') ?_;refine ⟨by simp,q1j _ _ _ _ _ _ _ _ _ _ _ _ _ _ λG=> ?_⟩;with_reducible refine sxE ?_;trivial
 |ok x=>
 obtain ⟨v1,l⟩:=x;have y':=q7T y1 x1;rw [q1A x1];have f1:=q2u q0Q f0 x1;have q1:=q4L j0K _ _ _ (by rw [Ah];omega) x1;refine eQ [6] (y') ?_;clear y1 y' x1;have y2:=j7i 2 (by decide) c (k0+l) f1 B;cases x2:optQ 2 octP [] (λs=>decide (0< (s.length:Int))) (c.drop (k0+l)) with
 |error e=>
  rw [q0X x2];simp only [shiftP,finA];rw [q1e];rcases z2G x2 with ⟨e',j⟩ | ⟨v,k,j,O⟩
  . have y':=q2d y2 j;refine effP [6] (y') ?_;refine ⟨by simp,q1j _ _ _ _ _ _ _ _ _ _ _ _ _ _ λG=> ?_⟩;with_reducible refine sxE ?_;trivial
  have y':=q0W y2 j;simp only [moR] at y';refine eQ [6] (y') ?_;rw [show decide (0< (v.length:Int))=false from O];refine effP [6] (q5i c ((k0+l)+k)) ?_;refine ⟨by simp,q1j _ _ _ _ _ _ _ _ _ _ _ _ _ _ λG=> ?_⟩;with_reducible refine sxE ?_;trivial
 |ok x=>
 obtain ⟨v2,m⟩:=x;rw [q1A x2];have f2:=q2u q7V f1 x2;have q2:=z3g (Q:=(Ty.slice .u8).ok) ⟨Ai _,λ_ h=>by cases h⟩ z3p _ _ _ (by rw [Ah];omega) x2;apply q9u (q7u x2)
 . intro j tail;obtain ⟨j,O⟩:=j;have y':=q0W y2 j;simp only [moR] at y';refine eQ [6] (y') ?_;rw [show decide (0< (v2.length:Int))=true from O];refine q0i [6] (q3s c ((k0+l)+m)) rfl (by decide) (by repeat first|exact trivial|exact rfl|refine And.intro ?_ ?_) rfl rfl ?_;simp only [afterO,Out.ren,SV.ren,mgA,sig,SObj.ren,SV.renL,List.set,List.map,Ad];refine q2W [7,38,39,40,41,42,43,44,45,46,47,48,49,50,51,52,53] rfl ?_;simp only [maskT,putT,Bb,BX,A0,AY];exact tail
 . intro j tail;obtain ⟨j,hs⟩:=j;have y':PE Tryz.prog 73 [.agg [.ptr 0 0],rI ((2:Nat):Int),.fn 74 [] []] [rdr c (k0+l)] (.ret (.tup [.isl .u8 v2,rB false])) [rdr c ((k0+l)+m)]:=by have q':=q0W y2 j;simp only [moR] at q';rw [hs];exact q'
   refine eQ [6] (y') ?_;refine q0i [6] (q3s c ((k0+l)+m)) rfl (by decide) (by repeat first|exact trivial|exact rfl|refine And.intro ?_ ?_) rfl rfl ?_;simp only [afterO,Out.ren,SV.ren,mgA,sig,SObj.ren,SV.renL,List.set,List.map,Ad];refine q2W [7,38,39,40,41,42,43,44,45,46,47,48,49,50,51,52,53] rfl ?_;simp only [maskT,putT,Bb,BX,A0,AY];exact tail
 refine gQ ?_;have y3:=z2B 3 (by decide) c (k0+l+m) f2 B;cases x3:needP 3 intP (c.drop (k0+l+m)) with
 |error e=>obtain ⟨e',y'⟩:=q7I y3 x3;rw [q0X x3];simp only [shiftP,finA];rw [q1e];refine effP [6] (y') ?_;refine ⟨by simp,q1j _ _ _ _ _ _ _ _ _ _ _ _ _ _ λG=> ?_⟩;with_reducible refine sxE ?_;trivial
 |ok x=>
 obtain ⟨v3,u⟩:=x;have y':=q7T y3 x3;rw [q1A x3];have f3:=q2u q0Q f2 x3;refine eQ [6] (y') ?_;clear y3 y' x3;have y4:=j0s 4 (by decide) c (k0+l+m+u) f3 B;cases x4:needP 4 timeP (c.drop (k0+l+m+u)) with
 |error e=>obtain ⟨e',y'⟩:=q7I y4 x4;rw [q0X x4];simp only [shiftP,finA];rw [q1e];refine effP [6] (y') ?_;refine ⟨by simp,q1j _ _ _ _ _ _ _ _ _ _ _ _ _ _ λG=> ?_⟩;with_reducible refine sxE ?_;trivial
 |ok x=>
 obtain ⟨v4,y⟩:=x;have y':=q7T y4 x4;rw [q1A x4];have f4:=q2u q0Q f3 x4;refine eQ [6] (y') ?_;clear y4 y' x4;have y5:=j6A 5 (by decide) c (k0+l+m+u+y) f4 B;cases x5:optQ 5 keyP nKey (λk=> !decide (k.1=0)) (c.drop (k0+l+m+u+y)) with
 |error e=>
  rw [q0X x5];simp only [shiftP,finA];rw [q1e];rcases z2G x5 with ⟨e',j⟩ | ⟨v,k,j,O⟩
  . have y':=q2d y5 j;refine effP [6] (y') ?_;refine ⟨by simp,q1j _ _ _ _ _ _ _ _ _ _ _ _ _ _ λG=> ?_⟩;with_reducible refine sxE ?_;trivial
  have y':=q0W y5 j;simp only [moR] at y';refine eQ [6] (y') ?_;rw [show (!decide (v.1=0))=false from O];refine effP [6] (q5i c ((k0+l+m+u+y)+k)) ?_;refine ⟨by simp,q1j _ _ _ _ _ _ _ _ _ _ _ _ _ _ λG=> ?_⟩;with_reducible refine sxE ?_;trivial
 |ok x=>
 obtain ⟨v5,F⟩:=x;rw [q1A x5];have f5:=q2u q7V f4 x5;have q5:=z3g (Q:=KeyT.ok) ⟨trivial,trivial,Ai _,λ_ h=>by cases h⟩ j5m _ _ _ (by rw [Ah];omega) x5;apply q9u (q7u x5)
 . intro j tail;obtain ⟨j,O⟩:=j;have y':=q0W y5 j;simp only [moR] at y';refine eQ [6] (y') ?_;rw [show (!decide (v5.1=0))=true from O];refine q0i [6] (q3s c ((k0+l+m+u+y)+F)) rfl (by decide) (by repeat first|exact trivial|exact rfl|refine And.intro ?_ ?_) rfl rfl ?_;simp only [afterO,Out.ren,SV.ren,mgA,sig,SObj.ren,SV.renL,List.set,List.map,Ad];refine q2W [7,60,61,62,63,64,65,66,67,68,69,70,71,72,73,74,75] rfl ?_;simp only [maskT,putT,Bb,BX,A0,AY];exact tail
 . intro j tail;obtain ⟨j,hs⟩:=j;have y':PE Tryz.prog 76 [.agg [.ptr 0 0],rI ((5:Nat):Int),.fn 77 [] []] [rdr c (k0+l+m+u+y)] (.ret (.tup [.agg (KeyT.cells v5),rB false])) [rdr c ((k0+l+m+u+y)+F)]:=by have q':=q0W y5 j;simp only [moR] at q';rw [hs];exact q'
   refine eQ [6] (y') ?_;refine q0i [6] (q3s c ((k0+l+m+u+y)+F)) rfl (by decide) (by repeat first|exact trivial|exact rfl|refine And.intro ?_ ?_) rfl rfl ?_;simp only [afterO,Out.ren,SV.ren,mgA,sig,SObj.ren,SV.renL,List.set,List.map,Ad];refine q2W [7,60,61,62,63,64,65,66,67,68,69,70,71,72,73,74,75] rfl ?_;simp only [maskT,putT,Bb,BX,A0,AY];exact tail
 refine gQ ?_;have y6:=z2B 6 (by decide) c (k0+l+m+u+y+F) f5 B;cases x6:needP 6 intP (c.drop (k0+l+m+u+y+F)) with
 |error e=>obtain ⟨e',y'⟩:=q7I y6 x6;rw [q0X x6];simp only [shiftP,finA];rw [q1e];refine effP [6] (y') ?_;refine ⟨by simp,q1j _ _ _ _ _ _ _ _ _ _ _ _ _ _ λG=> ?_⟩;with_reducible refine sxE ?_;trivial
 |ok x=>
 obtain ⟨v6,I⟩:=x;have y':=q7T y6 x6;rw [q1A x6];have f6:=q2u q0Q f5 x6;refine eQ [6] (y') ?_;clear y6 y' x6;have y7:=j3T 7 (by decide) c (k0+l+m+u+y+F+I) f6 B;cases x7:optQ 7 dataP [] (λd=>decide (0< (d.length:Int))) (c.drop (k0+l+m+u+y+F+I)) with
 |error e=>
  rw [q0X x7];simp only [shiftP,finA];rw [q1e];rcases z2G x7 with ⟨e',j⟩ | ⟨v,k,j,O⟩
  . have y':=q2d y7 j;refine effP [6] (y') ?_;refine ⟨by simp,q1j _ _ _ _ _ _ _ _ _ _ _ _ _ _ λG=> ?_⟩;with_reducible refine sxE ?_;trivial
  have y':=q0W y7 j;simp only [moR] at y';refine eQ [6] (y') ?_;rw [show decide (0< (v.length:Int))=false from O];refine effP [6] (q5i c ((k0+l+m+u+y+F+I)+k)) ?_;refine ⟨by simp,q1j _ _ _ _ _ _ _ _ _ _ _ _ _ _ λG=> ?_⟩;with_reducible refine sxE ?_;trivial
 |ok x=>
 obtain ⟨v7,X⟩:=x;rw [q1A x7];have f7:=q2u q7V f6 x7;have q7:=z3g (Q:=(Ty.slice PreT).ok) ⟨Ai _,λ_ h=>by cases h⟩ z7g _ _ _ (by rw [Ah];omega) x7;apply q9u (q7u x7)
 . intro j tail;obtain ⟨j,O⟩:=j;have y':=q0W y7 j;simp only [moR] at y';refine eQ [6] (y') ?_;rw [show decide (0< (v7.length:Int))=true from O];refine q0i [6] (q3s c ((k0+l+m+u+y+F+I)+X)) rfl (by decide) (by repeat first|exact trivial|exact rfl|refine And.intro ?_ ?_) rfl rfl ?_;simp only [afterO,Out.ren,SV.ren,mgA,sig,SObj.ren,SV.renL,List.set,List.map,Ad];refine q2W [7,79,80,81,82,83,84,85,86,87,88,89,90,91,92,93,94] rfl ?_;simp only [maskT,putT,Bb,BX,A0,AY];exact tail
 . intro j tail;obtain ⟨j,hs⟩:=j;have y':PE Tryz.prog 78 [.agg [.ptr 0 0],rI ((7:Nat):Int),.fn 79 [] []] [rdr c (k0+l+m+u+y+F+I)] (.ret (.tup [.isl PreT v7,rB false])) [rdr c ((k0+l+m+u+y+F+I)+X)]:=by have q':=q0W y7 j;simp only [moR] at q';rw [hs];exact q'
   refine eQ [6] (y') ?_;refine q0i [6] (q3s c ((k0+l+m+u+y+F+I)+X)) rfl (by decide) (by repeat first|exact trivial|exact rfl|refine And.intro ?_ ?_) rfl rfl ?_;simp only [afterO,Out.ren,SV.ren,mgA,sig,SObj.ren,SV.renL,List.set,List.map,Ad];refine q2W [7,79,80,81,82,83,84,85,86,87,88,89,90,91,92,93,94] rfl ?_;simp only [maskT,putT,Bb,BX,A0,AY];exact tail
 refine gQ ?_;simp only [shiftP,retP,finA];by_cases j:(k0+l+m+u+y+F+I+X) <c.length
 . rw [if_pos (by omega),q1e];refine effP [6] (q4I c (k0+l+m+u+y+F+I+X) j) ?_;refine ⟨by simp,q1j _ _ _ _ _ _ _ _ _ _ _ _ _ _ λG=> ?_⟩;with_reducible refine sxE ?_;trivial
 rw [if_neg (by omega)];refine q0i [6] (q4l c (k0+l+m+u+y+F+I+X) (by omega)) rfl (by decide) (by repeat first|exact trivial|exact rfl|refine And.intro ?_ ?_) rfl rfl ?_;simp only [afterO,Out.ren,SV.ren,mgA,sig,SObj.ren,SV.renL,List.set,List.map,Ad];have S:=q9v (v1,v2,(v4:Int),v3,v5,v6,v7) ⟨q1,q2,trivial,trivial,q5,trivial,q7⟩;refine uQ 2 _ ?_;with_reducible refine sxE ?_
 refine z3f [7,0] mixed ?_;refine gQ ?_;cases V:vAut (v1,v2,(v4:Int),v3,v5,v6,v7) with
 |false=>
  rw [V] at S;rw [if_neg (by decide),q1e];refine cR S ?_;refine q0q [6] (q5i c (k0+l+m+u+y+F+I+X)) rfl (by decide) ⟨rfl,rfl,trivial⟩ rfl rfl ?_ ?_
  . simp (maxSteps:=3000000) only [mgA,sig,q0u,q0A,SObj.ren,SV.ren,SV.renL,go_sem,↓zA,↓reduceIte,↓reduceDIte] <;>try simp only [zB]
  refine rnE ?_;refine z4e ?_;with_reducible refine sxE ?_
  refine ⟨by simp,q1j _ _ _ _ _ _ _ _ _ _ _ _ _ _ λG=> ?_⟩;with_reducible refine sxE ?_;trivial
 |true=>
  rw [V] at S;rw [if_pos rfl,j2q];refine cR S ?_;refine q0q [6] (q3s c (k0+l+m+u+y+F+I+X)) rfl (by decide) ⟨rfl,rfl,trivial⟩ rfl rfl ?_ ?_
  . simp (maxSteps:=3000000) only [mgA,sig,q0u,q0A,SObj.ren,SV.ren,SV.renL,go_sem,↓zA,↓reduceIte,↓reduceDIte] <;>try simp only [zB]
  refine rnE ?_;refine gQ ?_;refine z9d ?_;refine gQ ?_;refine j5b _ _ λG=> ?_;with_reducible refine sxE ?_;trivial
set_option maxHeartbeats 4000000
abbrev inW(x:Int):Prop:=0<=x/\x<4294967296
def xorW(a b:Int):Int:=((a.toNat^^^ b.toNat:Nat):Int)
def andW(a b:Int):Int:=((a.toNat&&& b.toNat:Nat):Int)
def rotW(n:Nat)(x:Int):Int:=x / 2^ n+x*2^ (32-n)%4294967296
def chW(e f g:Int):Int:=xorW (andW e f) (andW (4294967295-e) g)
def majW(a b c:Int):Int:=xorW (xorW (andW a b) (andW a c)) (andW b c)
variable {a:Int}
theorem q7Q{b:Int}(ha:inW a)(hb:inW b):inW (xorW a b):=by have:a.toNat^^^ b.toNat<2^ 32:=Nat.xor_lt_two_pow (by omega) (by omega);grind [xorW]
theorem q3L{b:Int}(ha:inW a)(_:inW b):inW (andW a b):=by grind [Nat.and_le_left,andW]
theorem q3j{n:Nat}{x:Int}(h1:1<=n)(h2:n<=31)(hx:inW x):inW (rotW n x):=by
 obtain ⟨x,rfl⟩:∃m:Nat,x=m:=⟨x.toNat,by omega⟩
 unfold rotW;have e:x<2^ n*2^ (32-n):=by rw [<-CH,show n+ (32-n)=32 by omega];omega
 have l:((x:Int) / 2^ n)=((x / 2^ n:Nat):Int):=by simp
 have u:((x:Int)*2^ (32-n)%4294967296)=((x*2^ (32-n)%4294967296:Nat):Int):=by simp
 rw [l,u];have h3:x / 2^ n<2^ (32-n):=Nat.div_lt_of_lt_mul e;have h4:x*2^ (32-n)%4294967296=(x%2^ n)*2^ (32-n):=by
  have:(4294967296:Nat)=2^ n*2^ (32-n):=by rw [<-CH,show n+ (32-n)=32 by omega]
  rw [this,Nat.mul_mod_mul_right]
 have s:x%2^ n<2^ n:=CO _ (Nat.two_pow_pos n);have j:(x%2^ n+1)*2^ (32-n)<=2^ n*2^ (32-n):=AX _ s;rw [<-CH,show n+ (32-n)=32 by omega,Nat.add_mul] at j;grind
variable {k:IntKind}
theorem j0D{b:Int}(e:32<=k.bits)(ha:inW a)(hb:inW b):((BitVec.ofInt k.bits a^^^ BitVec.ofInt k.bits b).toNat:Int)=xorW a b:=by
 obtain ⟨a,rfl⟩:∃m:Nat,a=m:=⟨a.toNat,by omega⟩
 obtain ⟨b,rfl⟩:∃m:Nat,b=m:=⟨b.toNat,by omega⟩
 have hp:2^ 32<=2^ k.bits:=Bk (by decide) e;grind [xorW]
theorem j2m{b:Int}(e:32<=k.bits)(ha:inW a)(hb:inW b):((BitVec.ofInt k.bits a&&& BitVec.ofInt k.bits b).toNat:Int)=andW a b:=by
 obtain ⟨a,rfl⟩:∃m:Nat,a=m:=⟨a.toNat,by omega⟩
 obtain ⟨b,rfl⟩:∃m:Nat,b=m:=⟨b.toNat,by omega⟩
 have hp:2^ 32<=2^ k.bits:=Bk (by decide) e;grind [andW]
theorem w32(ha:inW a):IntKind.u32.wrap a=a:=by have h:IntKind.u32.wrap a=a%4294967296:=rfl;rw [h];omega
def xor32{b:Int}(e:inW a)(j:inW b):xorK .u32 a b=xorW a b:=by unfold xorK;rw [j0D (by decide) e j,w32 (q7Q e j)]
def and32{b:Int}(e:inW a)(j:inW b):andK .u32 a b=andW a b:=by unfold andK;rw [j2m (by decide) e j,w32 (q3L e j)]

abbrev W32:Int:=4294967296
def byI(b:List UInt8)(j:Nat):Int:=((b.getD j 0).toNat:Int)
def j7x(b:List UInt8)(j:Nat):0<=byI b j/\byI b j<256:=by have:=(b.getD j 0).toNat_lt;unfold byI;omega
def wdP(b:List UInt8)(t:Nat):Nat->Int
 |0=>0
 |i+1=>256*wdP b t i+byI b (4*t+i)
theorem j2L(b:List UInt8)(t:Nat):∀i,i<=4->inW (wdP b t i)/\wdP b t i<256^ i
 |0,_=>by simp [wdP,inW]
 |i+1,hi=>by
  have:=j2L b t i (by omega);have hb:=j7x b (4*t+i);have e:i=0\/i=1\/i=2\/i=3:=by omega
  rcases e with rfl|rfl|rfl|rfl<;> (simp only [wdP] at*;simp at*;omega)
def sg0(x:Int):Int:=xorW (xorW (rotW 7 x) (rotW 18 x)) (x / 8)
def sg1(y:Int):Int:=xorW (xorW (rotW 17 y) (rotW 19 y)) (y / 1024)
def wS(b:List UInt8)(t:Nat):Int:=if h:t<16 then wdP b t 4 else (sg1 (wS b (t-2))+wS b (t-7)+sg0 (wS b (t-15))+wS b (t-16))%W32
termination_by t
variable {t:Nat}
def j3B(h:t<16):wS b t=wdP b t 4:=by rw [wS,dif_pos h]
def j4k(h:16<=t):wS b t=(sg1 (wS b (t-2))+wS b (t-7)+sg0 (wS b (t-15))+wS b (t-16))%W32:=by rw [wS,dif_neg (by omega)]
theorem z6I(b:List UInt8)(t:Nat):inW (wS b t):=by
 rcases A8 t 16 with h|h
 . rw [j3B h];exact (j2L b t 4 (Ac _)).1
 rw [j4k h];grind
def wL(b:List UInt8)(t:Nat):List Int:=(List.range 64).map λj=>if j<t then wS b j else 0
def j2O(b:List UInt8)(t:Nat):(wL b t).length=64:=by simp [wL]
theorem z1I(b:List UInt8){j:Nat}(h:j<t)(h2:j<64):(wL b t).getD j 0=wS b j:=by grind [wL]
theorem j2S(b:List UInt8)(h:t<64):(wL b t).set t (wS b t)=wL b (t+1):=by
 apply Aq
 . simp [wL]
 intro j e l;simp [wL] at e l;rw [A4];simp only [wL,AM,AD];grind
theorem j4i(b:List UInt8):wL b 0=List.replicate 64 0:=by rfl
def kS(t:Nat):Int:=dat_ref04_constants.getD t 0
def bs1(e:Int):Int:=xorW (xorW (rotW 6 e) (rotW 11 e)) (rotW 25 e)
def bs0(a:Int):Int:=xorW (xorW (rotW 2 a) (rotW 13 a)) (rotW 22 a)
def t1S(k w:Int)(v:List Int):Int:=v.getD 7 0+bs1 (v.getD 4 0)+chW (v.getD 4 0) (v.getD 5 0) (v.getD 6 0)+k+w
def t2S(v:List Int):Int:=bs0 (v.getD 0 0)+majW (v.getD 0 0) (v.getD 1 0) (v.getD 2 0)
def rnd(k w:Int)(v:List Int):List Int:=
 [(t1S k w v+t2S v)%W32,v.getD 0 0,v.getD 1 0,v.getD 2 0,(v.getD 3 0+t1S k w v)%W32,v.getD 4 0,v.getD 5 0,v.getD 6 0]
def rnds(b:List UInt8)(h:List Int):Nat->List Int
 |0=>h
 |t+1=>rnd (kS t) (wS b t) (rnds b h t)
abbrev inWs(v:List Int):Prop:=v.length=8/\∀x∈v,inW x
variable {v:List Int}
theorem q0U(h:inWs v)(i:Nat)(hi:i<8):inW (v.getD i 0):=by grind [List.getElem_mem]
theorem j7S{k w:Int}(h:inWs v):inWs (rnd k w v):=by
 refine ⟨rfl,λx j=> ?_⟩;have e:∀y:Int,inW (y%W32):=λy=>by grind
 simp only [rnd,Ba,Cl,or_false] at j;rcases j with rfl|rfl|rfl|rfl|rfl|rfl|rfl|rfl
 . exact e _
 . exact q0U h 0 (by decide)
 . exact q0U h 1 (by decide)
 . exact q0U h 2 (by decide)
 . exact e _
 . exact q0U h 4 (by decide)
 . exact q0U h 5 (by decide)
 exact q0U h 6 (by decide)
def q9K{b:List UInt8}{h:List Int}(hh:inWs h):∀t,inWs (rnds b h t)
 |0=>hh
 |t+1=>j7S (q9K hh t)
def j8K:∀t,t<64->inW (kS t):=by decide
def blkS(b:List UInt8)(h:List Int):List Int:=(List.range 8).map λi=>(h.getD i 0+ (rnds b h 64).getD i 0)%W32
def blkP(b:List UInt8)(h:List Int)(n:Nat):List Int:=(List.range 8).map λi=>if i<n then (h.getD i 0+ (rnds b h 64).getD i 0)%W32 else h.getD i 0
set_option maxHeartbeats 40000000
def fdivW(x:Int)(n:Nat)(hn:0<n):x.fdiv (n:Int)=x / (n:Int):=CA _ (by omega)
def j1z(b:List UInt8)(h:List Int)(n:Nat):(blkP b h n).length=8:=by simp [blkP]
theorem j1b(b:List UInt8)(h:List Int)(hi:i<8):(blkP b h i).getD i 0=h.getD i 0:=by grind [blkP]
theorem j2k(b:List UInt8)(h:List Int)(hi:i<8):(blkP b h i).set i ((h.getD i 0+ (rnds b h 64).getD i 0)%W32)=blkP b h (i+1):=by
 apply Aq
 . simp [blkP]
 intro j h1 h2;rw [A4];simp only [blkP,AM,AD];grind
variable {h:List Int}
theorem q3z(b:List UInt8)(hl:h.length=8):blkP b h 0=h:=by apply Aq;all_goals simp_all [blkP]
theorem j0e(b:List UInt8)(h:List Int):blkP b h 8=blkS b h:=by rfl
theorem u8wrapR(x:Int):IntKind.u8.wrap x=x%256:=by rfl
theorem q2H(x:Int):((UInt8.ofNat (IntKind.u8.wrap x).toNat).toNat:Int)=IntKind.u8.wrap x:=by grind [u8wrapR,UInt8.toNat_ofNat']
def padZ(b:List UInt8)(k:Nat):List UInt8:=b++ [128]++List.replicate k 0
def padN(n:Nat):Nat:=(119-n%64)%64
theorem j1e(b:List UInt8)(k:Nat):(padZ b k).length=b.length+1+k:=by simp [padZ];omega
def lnB8(n:Nat)(j:Nat):List UInt8:=(List.range j).map λi=>UInt8.ofNat (n / 2^ (8* (7-i))%256)
theorem j0x(n j:Nat):(lnB8 n j).length=j:=by simp [lnB8]
def padS(b:List UInt8):List UInt8:=padZ b (padN b.length)++lnB8 (8*b.length) 8
def hS0:List Int:=[0x6a09e667,0xbb67ae85,0x3c6ef372,0xa54ff53a,0x510e527f,0x9b05688c,0x1f83d9ab,0x5be0cd19]
def hashS(p:List UInt8):Nat->List Int
 |0=>hS0
 |k+1=>blkS ((p.take (64*k+64)).drop (64*k)) (hashS p k)
theorem z2g:inWs (blkS b h):=by refine ⟨by simp [blkS],λx e=> ?_⟩;obtain ⟨i,_,rfl⟩:=BZ.1 e;grind
def q6g:inWs hS0:=by decide
def wordB(h:List Int)(i:Nat):UInt8:=UInt8.ofNat ((h.getD (i / 4) 0).toNat / 2^ (24-8* (i%4))%256)
def bytesP(h:List Int)(n:Nat):List UInt8:=(List.range 32).map λi=>if i<n then wordB h i else 0
def bytesS(h:List Int):List UInt8:=(List.range 32).map (wordB h)
def z5E(h:List Int)(n:Nat):(bytesP h n).length=32:=by simp [bytesP]
def q1x(h:List Int):(bytesS h).length=32:=by simp [bytesS]
theorem q3W(h:List Int)(hi:i<32):(bytesP h i).set i (wordB h i)=bytesP h (i+1):=by
 apply Aq
 . simp [bytesP]
 intro j h1 h2;rw [A4];simp only [bytesP,AM,AD];grind
def blksN(b:List UInt8):Nat:=(b.length+72) / 64
def shaS(b:List UInt8):List UInt8:=bytesS (hashS (padS b) (blksN b))
theorem xor8(a b:UInt8):xorK .u8 (a.toNat:Int) (b.toNat:Int)=((a^^^ b).toNat:Int):=by
 unfold xorK;have j:=a.toNat_lt;have l:=b.toNat_lt;have hx:a.toNat^^^ b.toNat<2^ 8:=Nat.xor_lt_two_pow j l;have e:(BitVec.ofInt IntKind.u8.bits (a.toNat:Int) ^^^ BitVec.ofInt IntKind.u8.bits (b.toNat:Int)).toNat=a.toNat^^^ b.toNat:=by rw [BitVec.toNat_xor,AK,AK,AR,AR];rw [show 2^ IntKind.u8.bits=256 from rfl,AP j,AP l]
 grind [u8wrapR,UInt8.toNat_xor]
def hkP(k:List UInt8)(c:UInt8)(n:Nat):List UInt8:=(List.range 64).map λi=>if i<n then k.getD i 0^^^ c else 0
def hkC(k:List UInt8):List UInt8:=if 64<k.length then shaS k else k
def hkS(k:List UInt8)(c:UInt8):List UInt8:=hkP (hkC k) c 64
def z0p(k:List UInt8)(c:UInt8)(n:Nat):(hkP k c n).length=64:=by simp [hkP]
theorem j4Z(k:List UInt8)(c:UInt8)(hi:i<64):(hkP k c i).set i (k.getD i 0^^^ c)=hkP k c (i+1):=by
 apply Aq
 . simp [hkP]
 intro j h1 h2;rw [A4];simp only [hkP,AM,AD];grind
theorem j0G(k:List UInt8)(c:UInt8):hkP k c 0=List.replicate 64 0:=by rfl
def dblS(b:UInt8):UInt8:=if 128<=b.toNat then (b<<<1) ^^^ 27 else b<<<1
theorem z8Q{p:UInt8->Prop}(h:∀n:Fin 256,p (UInt8.ofNat n.val))(b:UInt8):p b:=by
 have:=h ⟨b.toNat,b.toNat_lt⟩
 simp_all
theorem shl8(b:UInt8):IntKind.u8.wrap ((b.toNat:Int)*2^ min 1 8)=((b<<<1).toNat:Int):=by rw [u8wrapR,UInt8.toNat_shiftLeft,CL];rfl
def xor27(b:UInt8):xorK .u8 (b.toNat:Int) 27=((b^^^ 27).toNat:Int):=xor8 b 27
def mulA:Nat->Nat->UInt8->UInt8->UInt8
 |0,_,_,p=>p
 |n+1,a,b,p=>if a=0 then p else mulA n (a / 2) (dblS b) (if a%2=1 then p^^^ b else p)
def mulS(a b:UInt8):UInt8:=mulA 8 a.toNat b 0
theorem z8i(n:Nat)(b p:UInt8):mulA n 0 b p=p:=by
 cases n with
 |zero=>rfl
 |succ n=>rfl
def z9x{n a:Nat}(b p:UInt8)(e:a≠0)(h:a<2^ n):∃m,a / 2<2^ m/\mulA n a b p=mulA m (a / 2) (dblS b) (if a%2=1 then p^^^ b else p):=by
 cases n with
 |zero=>omega
 |succ n=>exact ⟨n,by omega,if_neg e⟩
def fS(g:Nat->UInt8):List UInt8:=(List.range 16).map g
def q2c(g:Nat->UInt8):(fS g).length=16:=by simp [fS]
theorem q7H(g:Nat->UInt8)(hi:i<16):(fS g).getD i 0=g i:=by grind [fS]
def addS(b w:List UInt8)(r:Nat):List UInt8:=fS λi=>b.getD i 0^^^ w.getD (16*r+i) 0
def mixA(b f:List UInt8)(c r:Nat):Nat->UInt8
 |0=>0
 |k+1=>mixA b f c r k^^^ mulS (f.getD ((k+4-r)%4) 0) (b.getD (4*c+k) 0)
def mixS(b f:List UInt8):List UInt8:=fS λi=>mixA b f (i / 4) (i%4) 4
theorem q7S(b:UInt8):PC Tryz.prog 295 [.raw (.int .u8 b.toNat)] (.raw (.int .u8 (dblS b).toNat)):=by refine q0s rfl rfl ?_;refine rQ fi295 ?_;rw [shl8,xor27];unfold dblS;grind
def and1{x:Nat}(e:x<256):andK .u8 (x:Int) 1=((x%2:Nat):Int):=by
 have h:∀n:Fin 256,andK .u8 (n.val:Int) 1=((n.val%2:Nat):Int):=by decide
 exact h ⟨x,e⟩
theorem j0X(a b:UInt8):PC Tryz.prog 297 [.raw (.int .u8 a.toNat),.raw (.int .u8 b.toNat)] (.raw (.int .u8 (mulS a b).toNat)):=by
 refine q0s rfl rfl ?_;refine rQ fi297 ?_;have z:=a.toNat_lt;obtain ⟨R,A⟩:∃R,R=mulS a b:=⟨_,rfl⟩;rw [<-A];refine q0p (ι:=Nat×UInt8×UInt8) (λs=>[(0,.raw (.int .u8 s.1)),(1,.raw (.int .u8 s.2.1.toNat)),(4,.raw (.int .u8 s.2.2.toNat))]) (λ_=>[]) (λs=>s.1) (λs=>s.1<256/\∃n,s.1<2^ n/\R=mulA n s.1 s.2.1 s.2.2) (a.toNat,b,0) ⟨z,8,z,A⟩ rfl ?_ ?_
 . with_reducible refine sxE ?_
   rfl
 rintro ⟨x,y,p⟩ ⟨G,n,I,e⟩;dsimp only at*;by_cases B:x=0
 . subst B;rw [z8i] at e;subst e;refine gQ ?_;trivial
 have D:((x:Int)=0)=False:=eq_false (by omega);obtain ⟨m,l,j⟩:=z9x y p B I;rw [j] at e;refine gy1 D ?_;have u:(x:Int).fdiv (2^ min 1 8)=((x / 2:Nat):Int):=by grind
 rw [and1 G];refine ⟨λF=>q0b (q7S y) ?_,λF=>q0b (q7S y) ?_⟩
 . rw [if_pos (by omega)] at e;refine gy1 u ?_;refine ⟨(x / 2,dblS y,p^^^ y),⟨by omega,m,l,e⟩,by grind,rfl,?_⟩;simp (maxSteps:=3000000) only [xor8,go_sem,↓zA,↓reduceIte,↓reduceDIte] <;>try simp only [zB]
 rw [if_neg (by omega)] at e;refine gy1 u ?_;refine ⟨(x / 2,dblS y,p),⟨by omega,m,l,e⟩,by grind,rfl,?_⟩;with_reducible refine sxE ?_;trivial
def q8Q(i:Nat)(e:i<16):PC Tryz.prog 288 [rI i] (rI ((4* (i / 4+i%4)+i%4)%16:Nat)):=by
 refine q0s rfl rfl ?_;refine rQ fi288 ?_;have h:∀n:Fin 16,((IntKind.i64.wrap (IntKind.i64.wrap (4*IntKind.i64.wrap (IntKind.i64.wrap (((n.val:Nat):Int).tdiv 4)+ ((n.val:Nat):Int).tmod 4))+ ((n.val:Nat):Int).tmod 4)).tmod 16)=(((4* (n.val / 4+n.val%4)+n.val%4)%16:Nat):Int):=by decide
 exact ⟨by decide,by decide,by decide,by decide,congrArg _ (h ⟨i,e⟩)⟩
abbrev CipT:Ty:=.prod (.prod (.arr 256 .u8) (.arr 256 .u8)) (.prod (.arr 176 .u8) .bool)
abbrev PasT:Ty:=.prod (.ptr CipT) (.prod (.arr 16 .u8) (.arr 16 .u8))
def gP(b:List UInt8)(g:Nat->UInt8)(n:Nat):List UInt8:=(List.range 16).map λj=>if j<n then g j else b.getD j 0
theorem q7R(b:List UInt8)(g:Nat->UInt8)(n:Nat):(gP b g n).length=16:=by simp [gP]
theorem q5F(g:Nat->UInt8)(hb:b.length=16):gP b g 0=b:=by grind [List.ext_getElem,q7R,gP]
theorem q8L(b:List UInt8)(g:Nat->UInt8):gP b g 16=fS g:=by rfl
theorem z4H(b:List UInt8)(g:Nat->UInt8){n:Nat}(hi:i<16)(hn:n<=i):(gP b g n).getD i 0=b.getD i 0:=by simp_all [gP,if_neg]
theorem q8W(b:List UInt8)(g:Nat->UInt8)(hi:i<16):(gP b g i).set i (g i)=gP b g (i+1):=by
 apply Aq
 . simp [gP]
 intro j h1 h2;rw [A4];simp only [gP,AM,AD];grind
def z4q(c:Option CipT.den)(b k:List UInt8)(z:b.length=16)(y:k.length=16):PE Tryz.prog 268 [.rptr 0 PasT 0 0] [.row PasT [(c,(b,k))]] (.ret (.tup [])) [.row PasT [(c,(addS b k 0,k))]]:=by
 refine q0a (Ac _) ?_;refine rQ fi268 ?_;refine q0p (ι:=Nat) (λi=>[(3,rI i)]) (λi=>[.row PasT [(c,(gP b (λj=>b.getD j 0^^^ k.getD j 0) i,k))]]) (λi=>16-i) (λi=>i<=16) 0 (Ai _) (by rw [q5F _ z]) ?_ λi hi=> ?_
 . with_reducible refine sxE ?_;trivial
 have m:=wsx i (by omega);have u:=q7R b (λj=>b.getD j 0^^^ k.getD j 0) i;by_cases e:i<16
 . have l:((i:Int) <16)=True:=eq_true (by omega);refine uQ 600 _ ?_;have s:(gP b (λj=>b.getD j 0^^^ k.getD j 0) i).getD i Ty.u8.dflt=b.getD i 0:=z4H _ _ e (Ac _);have x:k.getD i Ty.u8.dflt=k.getD i 0:=rfl;simp (maxSteps:=3000000) only [l,u,y,AO,s,x,xor8,Av,AN,go_sem,↓zA,↓reduceIte,↓reduceDIte] <;>try simp only [zB]
   refine ⟨⟨by omega,e⟩,e,⟨by omega,e⟩,e,⟨by omega,e⟩,e,i+1,e,by show 16- (i+1) <16-i;omega,?_,?_⟩
   . dsimp only;rw [<-q8W b (λj=>b.getD j 0^^^ k.getD j 0) e]
   with_reducible refine sx1 m ?_;trivial
 obtain rfl:i=16:=by omega
 rw [q8L];refine uQ 600 _ ?_;have l:(((16:Nat):Int) <16)=False:=eq_false (by omega);simp (maxSteps:=3000000) only [l,go_sem,↓zA,↓reduceIte,↓reduceDIte] <;>try simp only [zB]
 simp only [addS,Nat.mul_zero,Ag]
theorem z5r(c:CipT.den)(x:UInt8):PC Tryz.prog 294 [.iptr CipT c 0,.raw (.int .u8 x.toNat)] (.raw (.int .u8 ((c.1.1:List UInt8).getD x.toNat 0).toNat)):=by refine q0s rfl rfl ?_;refine rQ fi294 ?_;have e:=x.toNat_lt;exact ⟨⟨by omega,e⟩,rfl⟩
theorem q9N(c:CipT.den)(b k:List UInt8)(x:b.length=16):PE Tryz.prog 284 [.rptr 0 PasT 0 0] [.row PasT [(some c,(b,k))]] (.ret (.tup [])) [.row PasT [(some c,(fS λj=>(c.1.1:List UInt8).getD (b.getD j 0).toNat 0,k))]]:=by
 refine q0a (Ac _) ?_;refine rQ fi284 ?_;refine q0p (ι:=Nat) (λi=>[(3,rI i)]) (λi=>[.row PasT [(some c,(gP b (λj=>(c.1.1:List UInt8).getD (b.getD j 0).toNat 0) i,k))]]) (λi=>16-i) (λi=>i<=16) 0 (Ai _) (by rw [q5F _ x]) ?_ λi hi=> ?_
 . with_reducible refine sxE ?_;trivial
 have s:=wsx i (by omega);have l:=q7R b (λj=>(c.1.1:List UInt8).getD (b.getD j 0).toNat 0) i;by_cases e:i<16
 . have m:((i:Int) <16)=True:=eq_true (by omega);have u:(gP b (λj=>(c.1.1:List UInt8).getD (b.getD j 0).toNat 0) i).getD i Ty.u8.dflt=b.getD i 0:=z4H _ _ e (Ac _);refine uQ 600 _ ?_;simp (maxSteps:=3000000) only [m,l,AO,u,CK,Ty.cells,go_sem,↓zA,↓reduceIte,↓reduceDIte] <;>try simp only [zB]
   refine ⟨⟨by omega,e⟩,e,q0g (z5r c (b.getD i 0)) ?_⟩;refine uQ 600 _ ?_;simp (maxSteps:=3000000) only [l,AO,Av,AN,go_sem,↓zA,↓reduceIte,↓reduceDIte] <;>try simp only [zB]
   refine ⟨⟨by omega,e⟩,e,i+1,e,by grind,?_,?_⟩
   . grind [q8W]
   with_reducible refine sx1 s ?_;trivial
 obtain rfl:i=16:=by omega
 rw [q8L];refine uQ 600 _ ?_;have m:(((16:Nat):Int) <16)=False:=eq_false (by omega);simp (maxSteps:=3000000) only [m,go_sem,↓zA,↓reduceIte,↓reduceDIte] <;>try simp only [zB]
theorem z7D(c:CipT.den)(x:UInt8):PC Tryz.prog 289 [.iptr CipT c 0,.raw (.int .u8 x.toNat)] (.raw (.int .u8 ((c.1.2:List UInt8).getD x.toNat 0).toNat)):=by refine q0s rfl rfl ?_;refine rQ fi289 ?_;have e:=x.toNat_lt;exact ⟨⟨by omega,e⟩,rfl⟩
theorem z5L(c:CipT.den)(b k:List UInt8)(x:b.length=16):PE Tryz.prog 271 [.rptr 0 PasT 0 0] [.row PasT [(some c,(b,k))]] (.ret (.tup [])) [.row PasT [(some c,(fS λj=>(c.1.2:List UInt8).getD (b.getD j 0).toNat 0,k))]]:=by
 refine q0a (Ac _) ?_;refine rQ fi271 ?_;refine q0p (ι:=Nat) (λi=>[(3,rI i)]) (λi=>[.row PasT [(some c,(gP b (λj=>(c.1.2:List UInt8).getD (b.getD j 0).toNat 0) i,k))]]) (λi=>16-i) (λi=>i<=16) 0 (Ai _) (by rw [q5F _ x]) ?_ λi hi=> ?_
 . with_reducible refine sxE ?_;trivial
 have s:=wsx i (by omega);have l:=q7R b (λj=>(c.1.2:List UInt8).getD (b.getD j 0).toNat 0) i;by_cases e:i<16
 . have m:((i:Int) <16)=True:=eq_true (by omega);have u:(gP b (λj=>(c.1.2:List UInt8).getD (b.getD j 0).toNat 0) i).getD i Ty.u8.dflt=b.getD i 0:=z4H _ _ e (Ac _);refine uQ 600 _ ?_;simp (maxSteps:=3000000) only [m,l,AO,u,CK,Ty.cells,go_sem,↓zA,↓reduceIte,↓reduceDIte] <;>try simp only [zB]
   refine ⟨⟨by omega,e⟩,e,q0g (z7D c (b.getD i 0)) ?_⟩;refine uQ 600 _ ?_;simp (maxSteps:=3000000) only [l,AO,Av,AN,go_sem,↓zA,↓reduceIte,↓reduceDIte] <;>try simp only [zB]
   refine ⟨⟨by omega,e⟩,e,i+1,e,by grind,?_,?_⟩
   . grind [q8W]
   with_reducible refine sx1 s ?_;trivial
 obtain rfl:i=16:=by omega
 rw [q8L];refine uQ 600 _ ?_;have m:(((16:Nat):Int) <16)=False:=eq_false (by omega);simp (maxSteps:=3000000) only [m,go_sem,↓zA,↓reduceIte,↓reduceDIte] <;>try simp only [zB]
end Go.Proofs.YthbcodbcndiapaaGreatDoor
namespace Go.Sx
section
open Go

variable [Ghost] {P:Program} {AQ:Ex->List SV->List SObj->Prop} {k0:Nat} {k:List IT} {t:List SV} {H:List SObj}

def z4h{ι:Type}{c:IC}(ws:List Nat)(upd:ι->List (Nat×SV))(Hf:ι->List SObj)(μ:ι->Nat)(p:ι->Prop)(i₀:ι)(h₀:p i₀)(hs:∃σ,Le σ k0 t H (setMany (maskT ws (maskT c.wr t)) (upd i₀)) (Hf i₀))
 (round:∀i,p i->SoundI P AQ ⟨k0,.ic c :: .stop (RoundK k0 (λi=>(setMany (maskT ws (maskT c.wr t)) (upd i),Hf i)) μ p i) :: k,setMany (maskT ws (maskT c.wr t)) (upd i),Hf i⟩):SoundI P AQ ⟨k0,.ic (.loop c) :: k,t,H⟩:=
 j5L (λi=>(setMany (maskT ws (maskT c.wr t)) (upd i),Hf i)) μ p i₀ h₀ hs round
end
end Go.Sx
/- AES: the reference's round keys. -/
namespace Go.Proofs.YthbcodbcndiapaaGreatDoor
open Go Go.Sx Go.Proofs
set_option maxRecDepth 100000
set_option maxHeartbeats 40000000

def subS(b:UInt8):UInt8:=(dat_ref06_substitutes:List UInt8).getD b.toNat 0
def lastS(w:List UInt8)(p:UInt8)(i:Nat):List UInt8:=
 if i%4=0 then [subS (w.getD (4*i-3) 0) ^^^ p,subS (w.getD (4*i-2) 0),subS (w.getD (4*i-1) 0),subS (w.getD (4*i-4) 0)]
 else [w.getD (4*i-4) 0,w.getD (4*i-3) 0,w.getD (4*i-2) 0,w.getD (4*i-1) 0]
def addL(w l:List UInt8)(i k:Nat):List UInt8:=w++(List.range k).map λk=>w.getD (4*i-16+k) 0^^^ l.getD k 0
def wkS(key:List UInt8):Nat->List UInt8×UInt8
 |0=>(key,1)
 |n+1=>(addL (wkS key n).1 (lastS (wkS key n).1 (wkS key n).2 (n+4)) (n+4) 4,if (n+4)%4=0 then dblS (wkS key n).2 else (wkS key n).2)
def wordsS(key:List UInt8):List UInt8:=(wkS key 40).1
theorem z2X(key:List UInt8)(hk:key.length=16)(n:Nat):(wkS key n).1.length=16+4*n:=by induction n<;>grind [wkS,addL]
theorem q3Y(key:List UInt8)(hk:key.length=16):(wordsS key).length=176:=z2X key hk 40
section
variable {AQ:Ex->List SV->List SObj->Prop}
end
end Go.Proofs.YthbcodbcndiapaaGreatDoor

/- AES: the reference's encryption of a block. -/
namespace Go.Proofs.YthbcodbcndiapaaGreatDoor
open Go Go.Sx Go.Proofs
set_option maxRecDepth 100000
set_option maxHeartbeats 40000000

def shfS(b:List UInt8):List UInt8:=fS λi=>subS (b.getD (4* ((i / 4+i%4)%4)+i%4) 0)
def rndE(w:List UInt8)(r:Nat)(b:List UInt8):List UInt8:=addS (if r<10 then mixS (shfS b) [2,3,1,1] else shfS b) w r
def encA(w b:List UInt8):Nat->List UInt8
 |0=>addS b w 0
 |n+1=>rndE w (n+1) (encA w b n)
def encS(w b:List UInt8):List UInt8:=encA w b 10
def z3K(b w:List UInt8)(r:Nat):(addS b w r).length=16:=q2c _
def j0k(b f:List UInt8):(mixS b f).length=16:=q2c _
def j0y(b:List UInt8):(shfS b).length=16:=q2c _
def q6L(w b:List UInt8)(n:Nat):(encA w b n).length=16:=by cases n<;>exact z3K _ _ _
theorem q4Y(w b:List UInt8):(encS w b).length=16:=q6L _ _ _
section
variable {AQ:Ex->List SV->List SObj->Prop}
end
end Go.Proofs.YthbcodbcndiapaaGreatDoor

/- AES: the reference's decryption of a block. -/
namespace Go.Proofs.YthbcodbcndiapaaGreatDoor
open Go Go.Sx Go.Proofs
set_option maxRecDepth 100000
set_option maxHeartbeats 40000000

def invP:Nat->List UInt8
 |0=>List.replicate 256 0
 |n+1=>(invP n).set (subS (UInt8.ofNat n)).toNat (UInt8.ofNat n)
def invS(c:UInt8):UInt8:=(invP 256).getD c.toNat 0
theorem z3H(n:Nat):(invP n).length=256:=by induction n<;>simp_all [invP]
def srcU(j:Nat):Nat:=4* ((j / 4+4-j%4)%4)+j%4
def unsS(b:List UInt8):List UInt8:=fS λj=>invS (b.getD (srcU j) 0)
def mixD(r:Nat)(b:List UInt8):List UInt8:=if r<10 then mixS b [14,11,13,9] else b
def rndD(w:List UInt8)(r:Nat)(b:List UInt8):List UInt8:=unsS (mixD r (addS b w r))
def decA(w b:List UInt8):Nat->List UInt8
 |0=>b
 |n+1=>rndD w (10-n) (decA w b n)
def decS(w b:List UInt8):List UInt8:=addS (decA w b 10) w 0
theorem j2h(w b:List UInt8)(e:b.length=16)(n:Nat):(decA w b n).length=16:=by
 cases n with
 |zero=>exact e
 |succ n=>rfl
theorem q5a(w b:List UInt8):(decS w b).length=16:=z3K _ _ _
section
variable {AQ:Ex->List SV->List SObj->Prop}
end
def shI(j:Nat):Nat:=(4* (j / 4+j%4)+j%4)%16
theorem j1M(c:Option CipT.den)(b k:List UInt8)(s:b.length=16):PE Tryz.prog 285 [.rptr 0 PasT 0 0] [.row PasT [(c,(b,k))]] (.ret (.tup [])) [.row PasT [(c,(fS λj=>b.getD (shI j) 0,k))]]:=by
 refine q0a (Ac _) ?_;refine rQ fi285 ?_;simp (maxSteps:=3000000) only [Bq,s,Ag,Ad,go_sem,↓zA,↓reduceIte,↓reduceDIte] <;>try simp only [zB]
 refine q0p (ι:=Nat) (λi=>[(8,rI i)]) (λi=>[.row PasT [(c,(gP b (λj=>b.getD (shI j) 0) i,k))],.row .u8 b]) (λi=>16-i) (λi=>i<=16) 0 (Ai _) (by rw [q5F _ s]) ?_ λi hi=> ?_
 . with_reducible refine sxE ?_;trivial
 have m:=wsx i (by omega);have u:=q7R b (λj=>b.getD (shI j) 0) i;by_cases e:i<16
 . have l:((i:Int) <16)=True:=eq_true (by omega);refine gy1 l ?_;have x:shI i<16:=CO _ (by decide);refine q0g (q8Q i e) ?_;rw [show (4* (i / 4+i%4)+i%4)%16=shI i from rfl];refine uQ 600 _ ?_;simp (maxSteps:=3000000) only [s,u,AO,Ag,AN,go_sem,↓zA,↓reduceIte,↓reduceDIte] <;>try simp only [zB]
   refine ⟨⟨by omega,x⟩,x,⟨by omega,e⟩,e,i+1,e,by grind,?_,?_⟩
   . grind [q8W]
   with_reducible refine sx1 m ?_;trivial
 obtain rfl:i=16:=by omega
 rw [q8L];refine uQ 600 _ ?_;have l:(((16:Nat):Int) <16)=False:=eq_false (by omega);simp (maxSteps:=3000000) only [l,go_sem,↓zA,↓reduceIte,↓reduceDIte] <;>try simp only [zB]
def hP(b:List UInt8)(n:Nat):List UInt8:=(List.range 16).map λj=>if srcU j<n then b.getD (srcU j) 0 else b.getD j 0
theorem z6W(b:List UInt8)(n:Nat):(hP b n).length=16:=by simp [hP]
theorem j3H{b:List UInt8}(hb:b.length=16):hP b 0=b:=by grind [List.ext_getElem,z6W,hP]
def z6r:∀j:Fin 16,srcU (shI j.val)=j.val/\shI (srcU j.val)=j.val:=by decide
theorem j6N(b:List UInt8):hP b 16=fS λj=>b.getD (srcU j) 0:=by rfl
theorem j7k(b:List UInt8){i:Nat}(s:i<16):(hP b i).set (shI i) (b.getD i 0)=hP b (i+1):=by
 have h1:srcU (shI i)=i:=(z6r ⟨i,s⟩).1;apply Aq
 . simp [hP]
 intro j hj1 hj2;have m:j<16:=by grind [z6W]
 rw [A4];simp only [hP,AM,AD];split
 . simp_all
 rename_i l;have hne2:srcU j≠i:=λe=>l (by rw [<-e];exact (z6r ⟨j,m⟩).2);grind
theorem q8S(c:Option CipT.den)(b k:List UInt8)(l:b.length=16):PE Tryz.prog 270 [.rptr 0 PasT 0 0] [.row PasT [(c,(b,k))]] (.ret (.tup [])) [.row PasT [(c,(fS λj=>b.getD (srcU j) 0,k))]]:=by
 refine q0a (Ac _) ?_;refine rQ fi270 ?_;simp (maxSteps:=3000000) only [Bq,l,Ag,Ad,go_sem,↓zA,↓reduceIte,↓reduceDIte] <;>try simp only [zB]
 refine q0p (ι:=Nat) (λi=>[(8,rI i)]) (λi=>[.row PasT [(c,(hP b i,k))],.row .u8 b]) (λi=>16-i) (λi=>i<=16) 0 (Ai _) (by rw [j3H l]) ?_ λi hi=> ?_
 . with_reducible refine sxE ?_;trivial
 have s:=wsx i (by omega);have u:=z6W b i;by_cases e:i<16
 . have m:((i:Int) <16)=True:=eq_true (by omega);have x:shI i<16:=CO _ (by decide);refine gy3 m l Ag ?_;refine ⟨⟨by omega,e⟩,e,q0g (q8Q i e) ?_⟩;rw [show (4* (i / 4+i%4)+i%4)%16=shI i from rfl];refine uQ 600 _ ?_;simp (maxSteps:=3000000) only [l,u,AO,Ag,AN,go_sem,↓zA,↓reduceIte,↓reduceDIte] <;>try simp only [zB]
   refine ⟨⟨by omega,x⟩,x,i+1,e,by grind,?_,?_⟩
   . grind [j7k]
   with_reducible refine sx1 s ?_;trivial
 obtain rfl:i=16:=by omega
 rw [j6N];refine uQ 600 _ ?_;have m:(((16:Nat):Int) <16)=False:=eq_false (by omega);simp (maxSteps:=3000000) only [m,go_sem,↓zA,↓reduceIte,↓reduceDIte] <;>try simp only [zB]
def mixB(b f:List UInt8)(c r:Nat):Nat->UInt8
 |0=>0
 |n+1=>mixB b f c r n^^^ mulS (f.getD n 0) (b.getD (4*c+ (r+n)%4) 0)
def j7c(b f:List UInt8)(c:Nat){r:Nat}(hr:r<4):mixB b f c r 4=mixA b f c r 4:=by rcases (show r=0\/r=1\/r=2\/r=3 by omega) with rfl|rfl|rfl|rfl<;>simp only [mixA,mixB,Nat.reduceAdd,Nat.reduceSub,Nat.reduceMod,AG,Ag] <;>ac_rfl
def j3U(f b:List UInt8)(c r:Nat)(m:f.length=4)(z:b.length=16)(hc:c<4)(y:r<4):PE Tryz.prog 296 [rI c,rI r,.rptr 0 .u8 0 0,.rptr 1 .u8 0 0] [.row .u8 f,.row .u8 b] (.ret (.raw (.int .u8 (mixA b f c r 4).toNat))) [.row .u8 f,.row .u8 b]:=by
 refine q0a (Ac _) ?_;refine rQ fi296 ?_;simp (maxSteps:=3000000) only [Bq,m,Ag,Ad,go_sem,↓zA,↓reduceIte,↓reduceDIte] <;>try simp only [zB]
 rw [Aa (by omega)];refine q0p (ι:=Nat) (λi=>[(10,rI i),(6,.raw (.int .u8 (mixB b f c r i).toNat))]) (λ_=>[.row .u8 f,.row .u8 b]) (λi=>4-i) (λi=>i<=4) 0 (Ai _) rfl ?_ λi hi=> ?_
 . with_reducible refine sxE ?_
   rfl
 have l:=wsx i (by omega);by_cases e:i<4
 . have j:((i:Int) <4)=True:=eq_true (by omega);have s:IntKind.i64.wrap (4* (c:Int))=((4*c:Nat):Int):=by rw [wrapi (by omega)];omega
   have A:IntKind.i64.wrap ((r:Int)+ (i:Int))=((r+i:Nat):Int):=by rw [wrapi (by omega)];omega
   have u:(((r+i:Nat):Int)).tmod 4=(((r+i)%4:Nat):Int):=by rw [BY (by omega)];omega
   have x:IntKind.i64.wrap (((4*c:Nat):Int)+ (((r+i)%4:Nat):Int))=((4*c+ (r+i)%4:Nat):Int):=by rw [wrapi (by omega)];omega
   refine gy8 j s A u x z m Ag ?_;refine ⟨⟨by omega,e⟩,by decide,⟨by omega,by omega⟩,by omega,q0b (j0X _ _) ?_⟩;refine gQ ?_;refine ⟨i+1,e,by show 4- (i+1) <4-i;omega,rfl,?_⟩;simp (maxSteps:=3000000) only [l,xor8,go_sem,↓zA,↓reduceIte,↓reduceDIte] <;>try simp only [zB]
   rfl
 obtain rfl:i=4:=by omega
 rw [j7c _ _ _ y];refine uQ 600 _ ?_;have j:(((4:Nat):Int) <4)=False:=eq_false (by omega);simp (maxSteps:=3000000) only [j,go_sem,↓zA,↓reduceIte,↓reduceDIte] <;>try simp only [zB]
theorem q7o(c:Option CipT.den)(b k f:List UInt8)(m:b.length=16)(u:f.length=4):PE Tryz.prog 287 [.rptr 0 PasT 0 0,.dat (.arr 4 .u8) f] [.row PasT [(c,(b,k))]] (.ret (.tup [])) [.row PasT [(c,(mixS b f,k))]]:=by
 refine q0a (Ac _) ?_;refine rQ fi287 ?_;simp (maxSteps:=3000000) only [Bq,m,u,Ag,Ad,go_sem,↓zA,↓reduceIte,↓reduceDIte] <;>try simp only [zB]
 obtain ⟨g,x⟩:∃g:Nat->UInt8,g=λi=>mixA b f (i / 4) (i%4) 4:=⟨_,rfl⟩;refine q0p (ι:=Nat) (λi=>[(12,rI i)]) (λi=>[.row PasT [(c,(gP b g i,k))],.row .u8 f,.row .u8 b]) (λi=>16-i) (λi=>i<=16) 0 (Ai _) (by rw [q5F _ m]) ?_ λi hi=> ?_
 . with_reducible refine sxE ?_;trivial
 have l:=wsx i (by omega);have s:=q7R b g i;by_cases e:i<16
 . have j:((i:Int) <16)=True:=eq_true (by omega);have y:IntKind.i64.wrap ((i:Int).tdiv 4)=((i / 4:Nat):Int):=by rw [Int.tdiv_eq_ediv_of_nonneg (by omega),wrapi (by omega)];omega
   have z:(i:Int).tmod 4=((i%4:Nat):Int):=by rw [BY (by omega)];omega
   refine gy3 j y z ?_;refine ⟨by decide,by decide,q0q [1,2] (j3U f b (i / 4) (i%4) u m (by omega) (by omega)) rfl (by decide) (by repeat first|exact trivial|exact rfl|refine And.intro ?_ ?_) rfl rfl ?_ ?_⟩
   . simp only [mgA,sig,SObj.ren,SV.renL,List.set,List.map,Ad];with_reducible refine sxE ?_;trivial
   simp only [afterR,Out.ren,SV.ren,mgA,sig,SObj.ren,SV.renL,List.set,List.map,Ad];refine uQ 600 _ ?_;simp (maxSteps:=3000000) only [s,AO,Av,AN,go_sem,↓zA,↓reduceIte,↓reduceDIte] <;>try simp only [zB]
   refine ⟨⟨by omega,e⟩,e,i+1,e,by show 16- (i+1) <16-i;omega,?_,?_⟩
   . dsimp only;rw [<-q8W b g e,x]
   with_reducible refine sx1 l ?_;trivial
 obtain rfl:i=16:=by omega
 rw [q8L,x];refine uQ 600 _ ?_;have j:(((16:Nat):Int) <16)=False:=eq_false (by omega);simp (maxSteps:=3000000) only [j,go_sem,↓zA,↓reduceIte,↓reduceDIte] <;>try simp only [zB]
 rfl
theorem z8a{P:Program}{f:FuncId}{a:SV}{t:Ty}{x:t.den}{H0 H1:List SObj}{o:Out}(h:PE P f [a,.dat t x] H0 o H1)(s:t.ok x)(e:t.known=true:=by rfl):PE P f [a,.agg (t.cells x)] H0 o H1:=
 ⟨h.1,λC vs m D u=>h.2 C vs m D (by
  obtain ⟨v,vs',rfl,B,y⟩:=q0c.1 u;obtain ⟨A,vs2,rfl,j,z⟩:=q0c.1 y;refine q0c.2 ⟨v,_,rfl,B,q0c.2 ⟨A,_,rfl,?_,z⟩⟩;simp only [SV.den] at j⊢;obtain ⟨us,rfl,l⟩:=j
  exact ⟨us,rfl,t.cells_rel _ _ e s l⟩)⟩
def j7r(c:Option CipT.den)(b k:List UInt8)(e:b.length=16):PE Tryz.prog 286 [.rptr 0 PasT 0 0] [.row PasT [(c,(b,k))]] (.ret (.tup [])) [.row PasT [(c,(mixS b [2,3,1,1],k))]]:=by refine q0a (Ac _) ?_;refine rQ fi286 ?_;refine q0i [0] (z8a (t:=.arr 4 .u8) (x:=[2,3,1,1]) (q7o c b k [2,3,1,1] e rfl) ⟨rfl,λ_ _=>trivial⟩) rfl (by decide) (by repeat first|exact trivial|exact rfl|refine And.intro ?_ ?_) rfl rfl ?_;simp only [afterO,Out.ren,SV.ren,mgA,sig,SObj.ren,SV.renL,List.set,List.map,Ad];refine gQ ?_;trivial
def z9Z(c:Option CipT.den)(b k:List UInt8)(e:b.length=16):PE Tryz.prog 269 [.rptr 0 PasT 0 0] [.row PasT [(c,(b,k))]] (.ret (.tup [])) [.row PasT [(c,(mixS b [14,11,13,9],k))]]:=by refine q0a (Ac _) ?_;refine rQ fi269 ?_;refine q0i [0] (z8a (t:=.arr 4 .u8) (x:=[14,11,13,9]) (q7o c b k [14,11,13,9] e rfl) ⟨rfl,λ_ _=>trivial⟩) rfl (by decide) (by repeat first|exact trivial|exact rfl|refine And.intro ?_ ?_) rfl rfl ?_;simp only [afterO,Out.ren,SV.ren,mgA,sig,SObj.ren,SV.renL,List.set,List.map,Ad];refine gQ ?_;trivial
end Go.Proofs.YthbcodbcndiapaaGreatDoor