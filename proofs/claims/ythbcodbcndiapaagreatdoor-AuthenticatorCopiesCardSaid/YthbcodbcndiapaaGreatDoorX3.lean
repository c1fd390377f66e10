/- A part of the proof: a symbolic executor over abstract values, and its soundness. -/
import Derived.Test.YthbcodbcndiapaaGreatDoorX2
set_option linter.all false
namespace Go.Sx
section
open Go

variable [Ghost] {P:Program} {o:Oper} {ev:Operand->SV} {H:List SObj} {K:Out->List SObj->Prop}

variable {I:Nat->Prop} {w:World} {b off:Nat}
def get1(t:Ty)(x:t.den)(k m:Nat):Option (Sigma Ty.den):=if k=0/\m=t.size then some ⟨t,x⟩ else none
def Ty.get:(t:Ty)->t.den->(k m:Nat)->Option (Sigma Ty.den)
 |.prod a c,x,k,m=>if k=0/\m=a.size+c.size then some ⟨.prod a c,x⟩ else if k<a.size then a.get x.1 k m else c.get x.2 (k-a.size) m
 |.arr n e,x,k,m=>get1 (.arr n e) x k m
 |.u8,x,k,m=>get1 .u8 x k m
 |.int ik,x,k,m=>get1 (.int ik) x k m
 |.bool,x,k,m=>get1 .bool x k m
 |.str,x,k,m=>get1 .str x k m
 |.slice e,x,k,m=>get1 (.slice e) x k m
 |.unit,x,k,m=>get1 .unit x k m
 |.ptr e,x,k,m=>get1 (.ptr e) x k m
 |.clo f e,x,k,m=>get1 (.clo f e) x k m
 |.clp f e,x,k,m=>get1 (.clp f e) x k m
 |.mbs e,x,k,m=>get1 (.mbs e) x k m
variable {t:Ty}{x:t.den}{k:Nat}
theorem q2A{m:Nat}{r:Sigma Ty.den}(h:get1 t x k m=some r)(hl:Lies I w b off t x):Lies I w b (off+k) r.1 r.2/\r.1.size=m:=by unfold get1 at h;grind
theorem z0Y:∀ (t:Ty) {x:t.den} {k m off:Nat} {r:Sigma Ty.den},t.get x k m=some r->Lies I w b off t x->Lies I w b (off+k) r.1 r.2/\r.1.size=m
 |.prod a c,x,k,m,off,r,h,hl=>by
  simp only [Ty.get] at h;split at h
  . rename_i d;obtain ⟨rfl,rfl⟩:=d;cases h;exact ⟨hl,rfl⟩
  split at h
  . exact z0Y a h hl.fst
  have:=z0Y c h hl.snd;grind
 |.arr n e,x,k,m,off,r,h,hl=>q2A h hl
 |.u8,x,k,m,off,r,h,hl=>q2A h hl
 |.int ik,x,k,m,off,r,h,hl=>q2A h hl
 |.bool,x,k,m,off,r,h,hl=>q2A h hl
 |.str,x,k,m,off,r,h,hl=>q2A h hl
 |.slice e,x,k,m,off,r,h,hl=>q2A h hl
 |.unit,x,k,m,off,r,h,hl=>q2A h hl
 |.ptr e,x,k,m,off,r,h,hl=>q2A h hl
 |.clo _ e,x,k,m,off,r,h,hl=>q2A h hl
 |.clp _ e,x,k,m,off,r,h,hl=>q2A h hl
 |.mbs e,x,k,m,off,r,h,hl=>q2A h hl

structure Arr where
 e:Ty
 n:Nat
 ys:List e.den
def Ty.arrAt:(t:Ty)->t.den->Nat->Option Arr
 |.prod a c,x,k=>if k<a.size then a.arrAt x.1 k else c.arrAt x.2 (k-a.size)
 |.arr n e,xs,k=>if k=0/\e.size=1 then some ⟨e,n,xs⟩ else none
 |.u8,_,_=>none
 |.int _,_,_=>none
 |.bool,_,_=>none
 |.str,_,_=>none
 |.slice _,_,_=>none
 |.unit,_,_=>none
 |.ptr _,_,_=>none
 |.clo _ _,_,_=>none
 |.clp _ _,_,_=>none
 |.mbs _,_,_=>none
theorem q3P:∀ (t:Ty) {x:t.den} {k off:Nat} {r:Arr},t.arrAt x k=some r->Lies I w b off t x->Lies I w b (off+k) (.arr r.n r.e) r.ys/\r.e.size=1
 |.prod a c,x,k,off,r,h,hl=>by
  simp only [Ty.arrAt] at h;split at h
  . exact q3P a h hl.fst
  have:=q3P c h hl.snd;grind
 |.arr n e,x,k,off,r,h,hl=>by simp only [Ty.arrAt] at h;grind
 |.u8,_,_,_,_,h,_=>by cases h
 |.int _,_,_,_,_,h,_=>by cases h
 |.bool,_,_,_,_,h,_=>by cases h
 |.str,_,_,_,_,h,_=>by cases h
 |.slice _,_,_,_,_,h,_=>by cases h
 |.unit,_,_,_,_,h,_=>by cases h
 |.ptr _,_,_,_,_,h,_=>by cases h
 |.clo _ _,_,_,_,_,h,_=>by cases h
 |.clp _ _,_,_,_,_,h,_=>by cases h
 |.mbs _,_,_,_,_,h,_=>by cases h
def Ty.cellAt:Ty->Nat->Option Ty
 |.prod a c,k=>if k<a.size then a.cellAt k else c.cellAt (k-a.size)
 |.arr _ e,k=>if k=0/\e.size=1 then some e else none
 |_,_=>none
theorem q3S:∀ {t:Ty} {k:Nat} {e:Ty},t.cellAt k=some e->e.size=1
 |.prod a c,k,e,h=>by
  simp only [Ty.cellAt] at h;split at h
  . exact q3S h
  exact q3S h
 |.arr n e',k,e,h=>by grind [Ty.cellAt]
 |.u8,_,_,h=>by cases h
 |.int _,_,_,h=>by cases h
 |.bool,_,_,h=>by cases h
 |.str,_,_,h=>by cases h
 |.slice _,_,_,h=>by cases h
 |.unit,_,_,h=>by cases h
 |.ptr _,_,_,h=>by cases h
 |.clo _ _,_,_,h=>by cases h
 |.clp _ _,_,_,h=>by cases h
 |.mbs _,_,_,h=>by cases h

variable {s:SV}
theorem q4G{T:TypeId}{x:Operand}{ag:Option Nat}(hop:o.op= .load T x)(u:aggOf P T=some ag)
 (f:∀C v,Wd C H->(ev x).den C v->∃b off t y,v= .pointer (some ⟨b,off,none⟩)/\Lies C.I C.w b off t y/\SV.ofT ag t y=some s/\(ag=none\/ag=some t.size))(c:K (.ret s) H):OpV P o ev H K:=by
 refine q0m (by simp_all) (s:=s) (λC e a d=> ?_) c;obtain ⟨b,off,t,y,hx,r,q,A⟩:=f C _ a (d x (by grind [Op.operands]));obtain ⟨v,g1,g2⟩:=q5c (P:=P) u r q A
 simp_all [execOp,Instr.loadAt,Instr.sureAddr]
def SV.dflat(t:Ty)(s:SV):Option (t.den×Prop):=match s.flat with
 |some ds=>if ones ds=true then t.rd ds else none
 |none=>none
def SV.datum(t:Ty):SV->Option (t.den×Prop)
 |.dat t' y=>if h:t'=t then some (cast (by rw [h]) y,True) else none
 |s=>s.dflat t
variable {C:Cx}{v:Value}{y:t.den}{p:Prop}
theorem z5q(h:s.dflat t=some (y,p))(d:p)(a:s.den C v):t.rel C.I C.w y v.cells.toList/\∀u∈v.cells.toList,u.oneCell'=true:=by
 unfold SV.dflat at h;split at h
 . rename_i ds c;split at h
   . rename_i e;exact ⟨t.rd_rel _ _ _ _ h d (q3n c a),q4N e (q3n c a)⟩
   cases h
 cases h
theorem q4R(h:s.datum t=some (y,p))(c:p)(a:s.den C v):t.rel C.I C.w y v.cells.toList/\∀u∈v.cells.toList,u.oneCell'=true:=by
 cases s with
 |dat t' y'=>
  simp only [SV.datum] at h;split at h
  . rename_i e;subst e;cases h;rw [SV.den] at a;obtain ⟨vs,rfl,hr⟩:=a;grind [Value.cells,q4r]
  cases h
 |_=>simp only [SV.datum] at h;exact z5q h c a

variable {α:Type}
def q8N{vs us:List α}(h:vs.length=us.length):splice vs 0 us=us:=by simp [splice,h]
theorem q4m{a c us:List α}(h:k+us.length<=a.length):splice (a++c) k us=splice a k us++c:=by grind [splice]
def q3I{a c us:List α}(h:a.length<=k):splice (a++c) k us=a++splice c (k-a.length) us:=by unfold splice;rw [Ck,BO,Aa h,AU (by omega),Ar,List.append_assoc,List.append_assoc,List.append_assoc,show k+us.length-a.length=k-a.length+us.length by omega]
def Ty.modR:(t:Ty)->t.den->(k i:Nat)->(e:Ty)->List e.den->Option (t.den×Prop)
 |.prod a c,x,k,i,e,ys=>if k<a.size then (match a.modR x.1 k i e ys with
  |some (y,p)=>some ((y,x.2),p)
  |none=>none) else (match c.modR x.2 (k-a.size) i e ys with
  |some (y,p)=>some ((x.1,y),p)
  |none=>none)
 |.arr n e',xs,k,i,e,ys=>if h:k=0/\e=e'/\e'.size=1 then some (splice xs i (cast (by rw [h.2.1]) ys),i+ys.length<=n) else none
 |.u8,_,_,_,_,_=>none
 |.int _,_,_,_,_,_=>none
 |.bool,_,_,_,_,_=>none
 |.str,_,_,_,_,_=>none
 |.slice _,_,_,_,_,_=>none
 |.unit,_,_,_,_,_=>none
 |.ptr _,_,_,_,_,_=>none
 |.clo _ _,_,_,_,_,_=>none
 |.clp _ _,_,_,_,_,_=>none
 |.mbs _,_,_,_,_,_=>none
theorem q4e{C:Cx}{e:Ty}:∀ (t:Ty) {x x':t.den} {k i:Nat} {ys:List e.den} {p:Prop} {us ws:List Value},t.modR x k i e ys=some (x',p)->p->(Ty.arr ys.length e).rel C.I C.w ys ws->t.rel C.I C.w x us->
 t.rel C.I C.w x' (splice us (k+i) ws)/\k+i+ys.length<=t.size/\ws.length=ys.length
 |.prod a c,x,x',k,i,ys,p,us,ws,h,hp,hd,hr=>by
  simp only [Ty.modR] at h;obtain ⟨v1,v2,rfl,f,E⟩:=hr;have B:=a.rel_size _ _ f;split at h
  . split at h
    . rename_i d;cases h;obtain ⟨q,F,D⟩:=q4e a d hp hd f;rw [q4m (by omega)];exact ⟨⟨_,_,rfl,q,E⟩,by grind [Ty.size],D⟩
    cases h
  split at h
  . rename_i hlt _ _ _ d;cases h;obtain ⟨q,F,D⟩:=q4e c d hp hd E;rw [q3I (by omega),B,show k+i-a.size=k-a.size+i by omega];exact ⟨⟨_,_,rfl,f,q⟩,by grind [Ty.size],D⟩
  cases h
 |.arr n e',xs,x',k,i,ys,p,us,ws,h,hp,hd,hr=>by
  simp only [Ty.modR] at h;split at h
  . rename_i J;obtain ⟨rfl,rfl,A⟩:=J;cases h;obtain ⟨hn,hl,h⟩:=(q0V A).1 hr;obtain ⟨hn',r,h'⟩:=(q0V A).1 hd;simp only [cast_eq,Ag];refine ⟨(q0V A).2 ⟨by grind [q0r],by grind [q0r],λj y u d G=> ?_⟩,by grind [Ty.size],r⟩;rw [q2o (by omega)] at d G;grind
  cases h
 |.u8,_,_,_,_,_,_,_,_,h,_,_,_=>by cases h
 |.int _,_,_,_,_,_,_,_,_,h,_,_,_=>by cases h
 |.bool,_,_,_,_,_,_,_,_,h,_,_,_=>by cases h
 |.str,_,_,_,_,_,_,_,_,h,_,_,_=>by cases h
 |.slice _,_,_,_,_,_,_,_,_,h,_,_,_=>by cases h
 |.unit,_,_,_,_,_,_,_,_,h,_,_,_=>by cases h
 |.ptr _,_,_,_,_,_,_,_,_,h,_,_,_=>by cases h
 |.clo _ _,_,_,_,_,_,_,_,_,h,_,_,_=>by cases h
 |.clp _ _,_,_,_,_,_,_,_,_,h,_,_,_=>by cases h
 |.mbs _,_,_,_,_,_,_,_,_,h,_,_,_=>by cases h

def put1(t:Ty)(k n:Nat)(s:SV):Option (t.den×Prop):=if k=0/\n=t.size then s.datum t else none
def Ty.putV:(t:Ty)->t.den->(k n:Nat)->SV->Option (t.den×Prop)
 |.prod a c,x,k,n,s=>if k=0/\n=a.size+c.size then s.datum (.prod a c) else if k<a.size then (match a.putV x.1 k n s with
  |some (y,p)=>some ((y,x.2),p)
  |none=>none) else (match c.putV x.2 (k-a.size) n s with
  |some (y,p)=>some ((x.1,y),p)
  |none=>none)
 |.arr m e,x,k,n,s=>if k=0/\n=(Ty.arr m e).size then s.datum (.arr m e) else if e.size=1/\n=1 then (match s.datum e with
  |some (y,p)=>some (splice x k [y],p/\k+1<=m)
  |none=>none) else none
 |.u8,_,k,n,s=>put1 .u8 k n s
 |.int ik,_,k,n,s=>put1 (.int ik) k n s
 |.bool,_,k,n,s=>put1 .bool k n s
 |.str,_,k,n,s=>put1 .str k n s
 |.slice e,_,k,n,s=>put1 (.slice e) k n s
 |.unit,_,k,n,s=>put1 .unit k n s
 |.ptr e,_,k,n,s=>put1 (.ptr e) k n s
 |.clo f e,_,k,n,s=>put1 (.clo f e) k n s
 |.clp f e,_,k,n,s=>put1 (.clp f e) k n s
 |.mbs e,_,k,n,s=>put1 (.mbs e) k n s
variable {us:List Value}
theorem q1L{n:Nat}{x':t.den}(h:put1 t k n s=some (x',p))(c:p)(a:s.den C v)(e:t.rel C.I C.w x us):
 t.rel C.I C.w x' (splice us k v.cells.toList)/\(∀u∈v.cells.toList,u.oneCell'=true)/\v.cells.toList.length=n/\k+n<=t.size:=by
 unfold put1 at h;split at h
 . rename_i q;obtain ⟨rfl,rfl⟩:=q;obtain ⟨f,h2⟩:=q4R h c a;have d:=t.rel_size _ _ f;rw [q8N (by rw [t.rel_size _ _ e,d])]
   simp_all
 cases h
theorem q4B{C:Cx}:∀ (t:Ty) {x x':t.den} {k n:Nat} {s:SV} {v:Value} {p:Prop} {us:List Value},t.putV x k n s=some (x',p)->p->s.den C v->t.rel C.I C.w x us->
 t.rel C.I C.w x' (splice us k v.cells.toList)/\(∀u∈v.cells.toList,u.oneCell'=true)/\v.cells.toList.length=n/\k+n<=t.size
 |.prod a c,x,x',k,n,s,v,p,us,h,hp,hd,hr=>by
  simp only [Ty.putV] at h;split at h
  . rename_i L;obtain ⟨rfl,rfl⟩:=L;obtain ⟨D,N⟩:=q4R h hp hd;have r:=(Ty.prod a c).rel_size _ _ D;rw [q8N (by rw [(Ty.prod a c).rel_size _ _ hr,r])];grind [Ty.size]
  obtain ⟨v1,v2,rfl,A,J⟩:=hr;have F:=a.rel_size _ _ A;split at h
  . split at h
    . rename_i d;cases h;obtain ⟨E,B,G,Q⟩:=q4B a d hp hd A;rw [q4m (by omega)];exact ⟨⟨_,_,rfl,E,J⟩,B,G,by grind [Ty.size]⟩
    cases h
  split at h
  . rename_i hlt _ _ _ d;cases h;obtain ⟨E,B,G,Q⟩:=q4B c d hp hd J;rw [q3I (by omega),F];exact ⟨⟨_,_,rfl,A,E⟩,B,G,by grind [Ty.size]⟩
  cases h
 |.arr m e,x,x',k,n,s,v,p,us,h,hp,hd,hr=>by
  simp only [Ty.putV] at h;split at h
  . rename_i L;exact q1L (t:=.arr m e) (by simp_all [put1]) hp hd hr
  split at h
  . rename_i f;obtain ⟨f,rfl⟩:=f;split at h
    . rename_i y q d;cases h;obtain ⟨D,N⟩:=q4R d hp.1 hd;have r:=e.rel_size _ _ D;rw [f] at r;have R:(Ty.arr [y].length e).rel C.I C.w [y] v.cells.toList:=by refine (q0V f).2 ⟨rfl,r,λi y' u O h5=> ?_⟩;grind [List.length_eq_one_iff]
      have O:=q4e (.arr m e) (x:=x) (x':=splice x k [y]) (k:=0) (i:=k) (p:=k+1<=m) (by simp [Ty.modR,f]) hp.2 R hr
      simp_all
    cases h
  cases h
 |.u8,_,_,_,_,_,_,_,_,h,hp,hd,hr=>q1L h hp hd hr
 |.int ik,_,_,_,_,_,_,_,_,h,hp,hd,hr=>q1L h hp hd hr
 |.bool,_,_,_,_,_,_,_,_,h,hp,hd,hr=>q1L h hp hd hr
 |.str,_,_,_,_,_,_,_,_,h,hp,hd,hr=>q1L h hp hd hr
 |.slice e,_,_,_,_,_,_,_,_,h,hp,hd,hr=>q1L h hp hd hr
 |.unit,_,_,_,_,_,_,_,_,h,hp,hd,hr=>q1L h hp hd hr
 |.ptr e,_,_,_,_,_,_,_,_,h,hp,hd,hr=>q1L h hp hd hr
 |.clo _ e,_,_,_,_,_,_,_,_,h,hp,hd,hr=>q1L h hp hd hr
 |.clp _ e,_,_,_,_,_,_,_,_,h,hp,hd,hr=>q1L h hp hd hr
 |.mbs e,_,_,_,_,_,_,_,_,h,hp,hd,hr=>q1L h hp hd hr

theorem q5f{h a:Nat}{xs xs':List t.den}{ws:List Value}(S:Wd C H)(U:H[h]?=some (.row t xs))(d:C.ρ h=some b)(hx:xs≠ [])(hlen:xs'.length=xs.length)(ha:a+ws.length<=xs.length*t.size)(X:∀u∈ws,u.oneCell'=true)
 (Y:∀us,relL C.I C.w t xs us->relL C.I C.w t xs' (splice us a ws)):
 ∃C',(storeCells ⟨b,a,none⟩ ws 0).run P C.w= .ok () C'.w/\Wd C' (H.set h (.row t xs'))/\Ext ⟨C,H⟩ C' (H.set h (.row t xs'))/\Evo C C':=by
 rcases S.obj h _ U with ⟨_,h2⟩ | ⟨Q,D,T,fz,e,A,V,hsz,L⟩
 . simp_all
 rw [d] at e;cases e;have G:a+ws.length<=D.toList.length:=by grind
 have c:C.w.heap[b]?=some (.cells D.toList.toArray T fz):=by rw [A]
 have J:(storeCells ⟨b,a,none⟩ ws 0).run P C.w= .ok () (C.w.setCells b (a+0) ws):=run_storeCells_cells b a _ 0 C.w
  (λj q=>by have q:j<ws.length:=q;rw [q0h c];grind)
  (λj q=>by
   have q:j<ws.length:=q;have:=V (a+0+j) (by omega)
   grind [World.frozen?]) X
 rw [AG] at J;have f:=q1c ws a C.w D.toList c G;have B:Keeps C.I C.I C.w (C.w.setCells b a ws):=λQ F=>⟨F,q0t (λ(eq:Q=b)=>(S.own b ⟨h,_,U,rfl,d⟩).1 (eq▸F)) _ _ _⟩;have O:∀m,World.bsize C.w b=some m->World.bsize (C.w.setCells b a ws) b=some m:=λm hm=>by grind [World.bsize,q0r]
 obtain ⟨us,E,R⟩:=q8g L;have hul:=q0N E;have r:=Y us E;obtain ⟨g1,g2,g3⟩:=z1x (so':=.row t xs') S U rfl rfl d (C.w.setCells b a ws) (λQ e=>q0t e _ _ _) (q0R _ _ _)
  O (q1m _ _ _) (q0T _ _ _) (q0J _ _ _)
  (.inr ⟨b,_,T,fz,d,f,by grind [q0r],by grind [q0r],
   q3R (q2Z B r) λj u q=>by
    have N:=(Am.1 q).1;rw [q0r (by omega)] at N;rw [q0h f,q2o G];rw [q2o (by omega)] at q;rw [Ag];have W:=λu Z=>R j u Z;simp only [Ag] at W;rw [q0h c] at W
    simp_all⟩)
 grind
theorem q8y{ty:TypeId}{x y:Operand}{h n a:Nat}{xs xs':List t.den}(r:o.op= .store ty x y)(Q:(P.info? ty).map (·.size)=some n)
 (O:H[h]?=some (.row t xs))(R:xs≠ [])(d:xs'.length=xs.length)(J:∀C v,(ev x).den C v->∃b,C.ρ h=some b/\v= .pointer (some ⟨b,a,none⟩))(ha:a+n<=xs.length*t.size)
 (N:∀C v,Wd C H->(ev y).den C v->v.cells.toList.length=n/\(∀u∈v.cells.toList,u.oneCell'=true)/\∀us,relL C.I C.w t xs us->relL C.I C.w t xs' (splice us a v.cells.toList))
 (F:K (.ret .any) (H.set h (.row t xs'))):OpV P o ev H K:=by
 refine q0L (by simp_all) λC e B D=> ?_;obtain ⟨b,A,q⟩:=J C _ (D x (by grind [Op.operands]));obtain ⟨y1,S,G⟩:=N C _ B (D y (by grind [Op.operands]));obtain ⟨C',f,L,E,g3⟩:=q5f (P:=P) B O A R d (by omega) S G;refine ⟨_,undef,_,C',F,.inr ⟨?_,rfl⟩,L,E,by rw [SV.den];trivial⟩;have c:(e y).cells.size=n:=by omega
 simp [execOp,r,q,Instr.storeAt,Instr.sureAddr,Result.andThen,storeVar,q0k Q,c,f]
theorem q3c:relL I w t [x] us ↔ t.rel I w x us:=by
 constructor
 . rintro ⟨u1,u2,rfl,h1,a⟩;cases a;grind
 intro h;exact ⟨us,[],by simp,h,rfl⟩
theorem q3r{I:Nat->Prop}{w:World}{t:Ty}(a:t.size=1):∀ {xs:List t.den} {us:List Value},relL I w t xs us ↔ (Ty.arr xs.length t).rel I w xs us
 | [],us=>by
  rw [q0V a];constructor
  . intro h;cases h;simp_all
  rintro ⟨_,h,_⟩;exact Bs h
 |x :: xs,us=>by
  rw [q0V a];constructor
  . rintro ⟨u1,u2,rfl,e,c⟩;have:=t.rel_size _ _ e;rw [a] at this;obtain ⟨u,rfl⟩:=Bc.1 this;obtain ⟨_,g2,g3⟩:=(q0V a).1 ((q3r a).1 c);grind
  rintro ⟨_,c,d⟩;cases us with
  |nil=>simp at c
  |cons u us=>exact ⟨[u],us,rfl,d 0 x u rfl rfl,(q3r a).2 ((q0V a).2 ⟨rfl,by grind,λi y v hy hv=>d (i+1) y v (by grind) (by grind)⟩)⟩
end
section
open Go

variable [Ghost] {P:Program} {o:Oper} {ev:Operand->SV} {H:List SObj} {K:Out->List SObj->Prop}

def View(C:Cx)(t:Ty)(v:Value)(ys:List t.den):Prop:=
 ∃A c,v= .slice A ys.length c/\ys.length<=c/\(ys= []\/∃b off,A=some ⟨b,off,none⟩/\∀ (i:Nat) y,ys[i]?=some y->Lies C.I C.w b (off+i*t.size) t y)
theorem View.take{C:Cx}{t:Ty}{v:Value}{ys:List t.den}(h:View C t v ys)(n:Nat):∃A c,v= .slice A ys.length c/\ys.length<=c/\(ys.take n= []\/∃b off,A=some ⟨b,off,none⟩/\∀ (i:Nat) y,(ys.take n)[i]?=some y->Lies C.I C.w b (off+i*t.size) t y):=by obtain ⟨A,c,rfl,hc,h⟩:=h;grind
def ownPart(t:Ty)(k i n:Nat):SObj->Option (List t.den×Prop)
 |.row t' xs=>if h:t'=t then (if k=0 then some (cast (by rw [h]) ((xs.drop i).take n),i+n<=xs.length) else none)
  else match xs with
   | [x]=>match t'.arrAt x k with
    |some ⟨e,N,ys⟩=>if h:e=t then some (cast (by rw [h]) ((ys.drop i).take n),i+n<=N) else none
    |none=>none
   |_=>none
 |_=>none
def viewOf(t:Ty)(H:List SObj):SV->Option (List t.den×Prop)
 |.isl t' xs=>if h:t'=t then some (cast (by rw [h]) xs,True) else none
 |.fsl t' xs=>if h:t'=t then some (cast (by rw [h]) xs,True) else none
 |.raw (.slice none 0 0)=>some ([],True)
 |.bld h t' n=>if t'=t then (match H[h]? with
  |some o=>ownPart t 0 0 n o
  |none=>none) else none
 |.osl h t' off n=>if t'=t then (match H[h]? with
  |some o=>ownPart t 0 off n o
  |none=>none) else none
 |.csl h t' k i n=>if t'=t then (match H[h]? with
  |some o=>ownPart t k i n o
  |none=>none) else none
 |_=>none
variable {C:Cx}{t:Ty}{ys:List t.den}{p:Prop}
theorem q8R{h k i n:Nat}{o:SObj}(d:Wd C H)(q:H[h]?=some o)(a:ownPart t k i n o=some (ys,p))(hp:p):
 ys.length=n/\∀b,C.ρ h=some b->∀ (j:Nat) y,ys[j]?=some y->Lies C.I C.w b (i*t.size+k+j*t.size) t y:=by
 unfold ownPart at a;split at a
 . rename_i t' xs;split at a
   . rename_i e;subst e;split at a
     . rename_i r;subst r;cases a;simp only [cast_eq];refine ⟨by simp;omega,λb hb j y c=> ?_⟩;rw [B9] at c;split at c
       . rw [Bp] at c;obtain ⟨b',hb',f⟩:=q1O d q c;grind
       cases c
     cases a
   split at a
   . rename_i x;split at a
     . rename_i e N zs D;split at a
       . rename_i B;subst B;cases a;simp only [cast_eq];obtain ⟨b0,hb0,f⟩:=q1O d q (i:=0) (x:=x) rfl;obtain ⟨A,u⟩:=q3P t' D f;obtain ⟨g3,g4⟩:=(q4b u).1 A;grind
       cases a
     cases a
   cases a
 cases a
variable {s:SV}{v:Value}
theorem j5d(r:Wd C H)(a:viewOf t H s=some (ys,p))(u:p)(f:s.den C v):View C t v ys:=by
 unfold viewOf at a;have isl:∀ {xs:List t.den},(Ty.slice t).rel C.I C.w xs [v]->View C t v xs:=by
  rintro xs ⟨A,n,c,e,rfl,q,_,h⟩;cases e;refine ⟨A,c,rfl,q,?_⟩;rcases h with rfl| ⟨b,off,rfl,_,h⟩
  . grind
  exact .inr ⟨b,off,rfl,λi y E=>h i y E⟩
 have own:∀ {h k i n:Nat} {o:SObj},H[h]?=some o->ownPart t k i n o=some (ys,p)->(∃A c,v= .slice A n c/\n<=c/\(n=0\/∃b,C.ρ h=some b/\A=some ⟨b,i*t.size+k,none⟩))->View C t v ys:=by rintro h k i n o d B ⟨A,c,rfl,q,h1⟩;obtain ⟨D,h2⟩:=q8R r d B u;refine ⟨A,c,by rw [D],by omega,?_⟩;grind
 split at a
 . grind [SV.den]
 . grind [SV.den]
 . cases a;rw [SV.den] at f;subst f;exact ⟨none,0,rfl,Ac _,.inl rfl⟩
 . split at a
   . rename_i e;subst e;split at a
     . rename_i d;refine own d a ?_;rw [SV.den] at f;grind
     cases a
   cases a
 . split at a
   . rename_i e;subst e;split at a
     . rename_i d;refine own d a ?_;rw [SV.den] at f
       simp_all
     cases a
   cases a
 . split at a
   . rename_i e;subst e;split at a
     . rename_i d;refine own d a ?_;rw [SV.den] at f
       simp_all
     cases a
   cases a
 cases a
def z5c(h:View C t v ys)(n:Nat)(hn:n<=ys.length):∃a,relL C.I C.w t (ys.take n) a/\(Builtin.firstCells t.size n v).run P C.w= .ok a.toArray C.w:=by
 obtain ⟨A,c,rfl,_,d⟩:=h.take n;have q:(ys.take n).length=n:=by simp;omega
 obtain ⟨a,f,e⟩:=q1n (P:=P) (C:=C) (A:=A) (c:=c) (ys:=ys.take n) (by
  rcases d with d| ⟨b,off,rfl,d⟩
  . exact .inl d
  exact .inr ⟨b,off,rfl,λi y r=>d i y r⟩)
 refine ⟨a,f,?_⟩;rw [q] at e;cases A<;>exact e

def putPart(t:Ty)(k i:Nat)(ys:List t.den):SObj->Option (SObj×Prop)
 |.row t' xs=>if h:t'=t then (if k=0 then some (.row t' (splice xs i (cast (by rw [h]) ys)),i+ys.length<=xs.length/\0<xs.length) else none)
  else match xs with
   | [x]=>match t'.modR x k i t ys with
    |some (y,p)=>some (.row t' [y],p)
    |none=>none
   |_=>none
 |_=>none
theorem z0q{e:Ty}:∀ (t:Ty) {x:t.den} {k i:Nat} {ys:List e.den} {r:t.den×Prop},t.modR x k i e ys=some r->e.size=1
 |.prod a c,x,k,i,ys,r,h=>by
  simp only [Ty.modR] at h;split at h
  . split at h
    . exact z0q a (by assumption)
    cases h
  split at h
  . exact z0q c (by assumption)
  cases h
 |.arr n e',_,_,_,_,_,h=>by grind [Ty.modR]
 |.u8,_,_,_,_,_,h=>by cases h
 |.int _,_,_,_,_,_,h=>by cases h
 |.bool,_,_,_,_,_,h=>by cases h
 |.str,_,_,_,_,_,h=>by cases h
 |.slice _,_,_,_,_,_,h=>by cases h
 |.unit,_,_,_,_,_,h=>by cases h
 |.ptr _,_,_,_,_,_,h=>by cases h
 |.clo _ _,_,_,_,_,_,h=>by cases h
 |.clp _ _,_,_,_,_,_,h=>by cases h
 |.mbs _,_,_,_,_,_,h=>by cases h
theorem q8f{I:Nat->Prop}{w:World}:∀ {xs ys:List t.den} {us ws:List Value} {i:Nat},relL I w t xs us->relL I w t ys ws->i+ys.length<=xs.length->relL I w t (splice xs i ys) (splice us (i*t.size) ws):=by
 intro xs ys us ws i E hy hi;have key:∀ (n:Nat) {xs:List t.den} {us:List Value},relL I w t xs us->n<=xs.length->relL I w t (xs.take n) (us.take (n*t.size))/\relL I w t (xs.drop n) (us.drop (n*t.size)):=by
  intro n;induction n with
  |zero=>intro xs us h _;simp only [Ct,Cf,Ap];exact ⟨rfl,h⟩
  |succ n A=>
   intro xs us h D;cases xs with
   |nil=>simp at D
   |cons x xs=>
    obtain ⟨a,c,rfl,d,B⟩:=h;have hl:=t.rel_size _ _ d;obtain ⟨u,q⟩:=A B (by grind);have e:(n+1)*t.size=a.length+n*t.size:=by grind
    have r:(a++c).take ((n+1)*t.size)=a++c.take (n*t.size):=by grind
    have f:(a++c).drop ((n+1)*t.size)=c.drop (n*t.size):=by grind [List.drop_append]
    rw [r,f];exact ⟨⟨a,_,rfl,d,u⟩,q⟩
 obtain ⟨k1,_⟩:=key i E (by omega);grind [q0N,splice,q1R]
theorem j1D{c:Call}{T T' e':TypeId}{x y:Operand}{h k i n m:Nat}{ob f:SObj}{q:Prop}(hop:o.op= .call c)(hc:c.callee= .builtin .copy)(ha:c.args= #[x,y])(hty:c.argTypes= #[T,T'])
 (hT:P.underlying T=some (.slice e'))(V:(P.info? e').map (·.size)=some t.size)
 (hx:∀C v,(ev x).den C v->∃b c,C.ρ h=some b/\v= .slice (some ⟨b,i*t.size+k,none⟩) n c)(hy:viewOf t H (ev y)=some (ys,p))(hp:p)(hm:m=min ys.length n)(Z:H[h]?=some ob)(a:putPart t k i (ys.take m) ob=some (f,q))(S:q)
 (hk:K (.ret (.raw (.int .i64 m))) (H.set h f)):OpV P o ev H K:=by
 refine q0L (by simp_all) λC e N hv=> ?_;obtain ⟨b,cc,hb,h1⟩:=hx C _ (hv x (by grind [Op.operands,Call.operands]));have D:=j5d N hy hp (hv y (by grind [Op.operands,Call.operands]));have R:m<=ys.length:=by omega
 obtain ⟨r,Q,n2⟩:=z5c (P:=P) D m R;have A:(ys.take m).length=m:=by simp;omega
 have Y:=q0N Q;rw [A] at Y;obtain ⟨A',c',F,_,_⟩:=D;have J:∀u∈r,u.oneCell'=true:=q9e Q;have E:∃C',(storeCells ⟨b,i*t.size+k,none⟩ r 0).run P C.w= .ok () C'.w/\Wd C' (H.set h f)/\Ext ⟨C,H⟩ C' (H.set h f)/\Evo C C':=by
  unfold putPart at a;split at a
  . rename_i t' xs;split at a
    . rename_i et;subst et;split at a
      . rename_i U;subst U;cases a;simp only [cast_eq,AG];obtain ⟨q1,q2⟩:=S;rw [A] at q1;have:(i+m)*t'.size<=xs.length*t'.size:=AX _ q1;rw [Nat.add_mul] at this;exact q5f (P:=P) N Z hb (by grind) (q0r (by omega)) (by omega) J (λus O=>q8f O Q (by omega))
      cases a
    split at a
    . rename_i hne x0;split at a
      . rename_i y0 p0 d;cases a;have X:=z0q t' d;have B:=(q3r X).1 Q;obtain ⟨b0,hb0,us0,W,_⟩:=q1O N Z (i:=0) (x:=x0) rfl;have G:=(q4e t' d S B W).2.1;rw [A] at G;refine q5f (P:=P) N Z hb (by simp) rfl (by grind) J λus O=> ?_;rw [q3c] at O⊢;have:=(q4e t' d S B O).1;grind
      cases a
    cases a
  cases a
 obtain ⟨C',L,g1,g2,g3⟩:=E;refine ⟨_,.int .i64 m,_,C',hk,.inl ?_,g1,g2,by rw [SV.den]⟩;have e1:Nat.min ys.length n=m:=hm.symm;have hcp:(Builtin.copy_ #[T,T'] o.type #[e x,e y]).run P C.w= .ok (.int .i64 m) C'.w:=by rw [F] at n2;simp [Builtin.copy_,h1,F,run_underlying' hT,Builtin.lenOf,Result.andThen,q0k V,e1,n2,L,goInt]
 simp_all [execOp,resolve,invoke,builtin]

variable {k:IntKind}{j:Int}
theorem z5W{T e':TypeId}{x i:Operand}{e:Ty}{n:Nat}{xs:List e.den}(r:o.op= .index T x i)(F:P.underlying T=some (.array n e'))(q:aggOf P e'=some none)(A:(P.info? e').map (·.size)=some 1)(S:e.size=1)
 (R:ev x= .dat (.arr n e) xs)(Q:ev i= .raw (.int k j))(G:0<=j)(hb:j.toNat<n)(O:e.cells (xs.getD j.toNat e.dflt)= [s])(J:K (.ret s) H):OpV P o ev H K:=by
 refine q0m (by simp_all) (s:=s) (λC ee hw E=> ?_) J;have d:=E x (by grind [Op.operands]);have D:=E i (by grind [Op.operands]);rw [R,SV.den] at d;rw [Q,SV.den] at D;obtain ⟨vs,d,B⟩:=d;obtain ⟨hn,hl,B⟩:=(q0V S).1 B;have L:xs[j.toNat]?=some (xs.getD j.toNat e.dflt):=by simp_all
 have N:vs[j.toNat]?=some (vs[j.toNat]'(by omega)):=Af (by omega);have c:=e.cells_den _ _ (B _ _ _ L N);rw [O] at c;obtain ⟨v,us,a,c,_⟩:=q0c.1 c;simp only [List.cons.injEq] at a;refine ⟨vs[j.toNat]'(by omega),?_,a.1▸c⟩;have f:j< (n:Int):=by omega
 have hu':vs.toArray[j.toNat]?=some (vs[j.toNat]'(by omega)):=by grind
 have u:j.toNat<vs.length:=by omega
 simp [execOp,r,d,D,Instr.index,asIntOf,run_underlying' F,G,f,q0k A,part,q2x q,u,Result.andThen]

theorem q8U{T e':TypeId}{x i:Operand}{n m:Nat}{ag:Option Nat}{l:List SV}(e:o.op= .index T x i)(A:P.underlying T=some (.array n e'))(d:aggOf P e'=some ag)(f:(P.info? e').map (·.size)=some m)
 (L:ev x= .agg l)(J:ev i= .raw (.int k j))(u:0<=j)(hb:j.toNat<n)(E:pick l (j.toNat*m) ag=some s)(D:K (.ret s) H):OpV P o ev H K:=by
 refine q0m (by simp_all) (s:=s) (λC ee hw r=> ?_) D;have a:=r x (by grind [Op.operands]);have q:=r i (by grind [Op.operands]);rw [L,SV.den] at a;rw [J,SV.den] at q;obtain ⟨vs,a,G⟩:=a;have c:j< (n:Int):=by omega
 obtain ⟨v,F,B⟩:=q4O d G E C.w;exact ⟨v,by simp [execOp,e,a,q,Instr.index,asIntOf,run_underlying' A,u,c,q0k f,F,Result.andThen],B⟩

theorem z5i{T e':TypeId}{x i:Operand}{e:Ty}{n m:Nat}{xs:List e.den}(q:o.op= .index T x i)(G:P.underlying T=some (.array n e'))(f:aggOf P e'=some (some m))(r:(P.info? e').map (·.size)=some m)(E:e.size=1)
 (O:ev x= .dat (.arr (n*m) e) xs)(N:ev i= .raw (.int k j))(F:0<=j)(J:j.toNat<n)(L:K (.ret (.dat (.arr m e) ((xs.drop (j.toNat*m)).take m))) H):OpV P o ev H K:=by
 refine q0m (by simp_all) (s:=.dat (.arr m e) ((xs.drop (j.toNat*m)).take m)) (λC ee hw D=> ?_) L;have c:=D x (by grind [Op.operands]);have A:=D i (by grind [Op.operands]);rw [O,SV.den] at c;rw [N,SV.den] at A;obtain ⟨vs,c,B⟩:=c;obtain ⟨hn,hl,B⟩:=(q0V E).1 B;have d:j< (n:Int):=by omega
 have hle:j.toNat*m+m<=n*m:=by have:=AX m (Nat.succ_le_of_lt J);grind
 refine ⟨.agg ((vs.drop (j.toNat*m)).take m).toArray,?_,?_⟩
 . simp [execOp,q,c,A,Instr.index,asIntOf,run_underlying' G,F,d,q0k r,part,q2x f,Result.andThen]
 rw [SV.den];refine ⟨_,rfl,(q0V E).2 ⟨?_,?_,λa y u hy hu=> ?_⟩⟩;all_goals grind

def putAll(t:Ty)(pl:Nat->Option (Nat×Nat)):t.den->Prop->List (Nat×SV)->Option (t.den×Prop)
 |x,p,[]=>some (x,p)
 |x,p,(i,s) :: rest=>match pl i with
  |some (off,n)=>match t.putV x off n s with
   |some (y,q)=>putAll t pl y (p/\q) rest
   |none=>none
  |none=>none
def z4W{t:Ty}{c:Nat->Option (Nat×Nat)}:∀ {ps:List (Nat×SV)} {x x':t.den} {p a:Prop},putAll t c x p ps=some (x',a)->a->p
 | [],_,_,_,_,h,hp=>by cases h;exact hp
 | (i,s) :: rest,x,x',p,a,h,hp=>by
  simp only [putAll] at h;split at h
  . split at h
    . exact (z4W h hp).1
    cases h
  cases h
theorem q8t{C:Cx}{t:Ty}{r:Nat->Option (Nat×Nat)}:∀ {ps:List (Nat×SV)} {qs:List (Nat×Value)} {x x':t.den} {p c:Prop} {vs:List Value},t.rel C.I C.w x vs->
 (ps.map (·.1)=qs.map (·.1))->SV.denL C (ps.map (·.2)) (qs.map (·.2))->putAll t r x p ps=some (x',c)->c->∃us,Instr.fill r vs.toArray qs=some us.toArray/\t.rel C.I C.w x' us
 | [],[],x,x',p,c,vs,hz,_,_,h,_=>by cases h;exact ⟨vs,rfl,hz⟩
 | [],_ :: _,_,_,_,_,_,_,h,_,_,_=>by simp at h
 |_ :: _,[],_,_,_,_,_,_,h,_,_,_=>by simp at h
 | (i,s) :: ps,(j,v) :: qs,x,x',p,c,vs,hz,d,a,h,hp=>by
  simp only [Az,List.cons.injEq] at d;obtain ⟨rfl,d⟩:=d;simp only [Az] at a;obtain ⟨v',us,e,A,a⟩:=q0c.1 a;simp only [List.cons.injEq] at e;obtain ⟨rfl,rfl⟩:=e;simp only [putAll] at h;split at h
  . rename_i off n f;split at h
    . rename_i y q B;obtain ⟨u,g2,g3,g4⟩:=q4B t B (z4W h hp).2 A hz;obtain ⟨us,h1,D⟩:=q8t u d a h hp;refine ⟨us,?_,D⟩;have hsz:=t.rel_size _ _ hz;rw [Instr.fill];simp only [f];rw [if_neg (by simp_all)];have:(v.cells.zipIdx.foldl (λcs x=>cs.setIfInBounds (off+x.2) x.1) vs.toArray)=(splice vs off v.cells.toList).toArray:=by have:=q7m v.cells.toList off 0 vs.toArray (by simp_all);rw [AG] at this;grind [Array.toList_zipIdx]
      simp_all
    cases h
  cases h
theorem z5z{t:TypeId}{ty:Ty}{parts:Array (Nat×Operand)}{zs:List Value}{G:PlaceK}{x:ty.den}(u:o.op= .build t parts)(F:(P.info? t).bind (λi=>i.zero.map (·.cells.toList))=some zs)(B:ty.isZero zs=true)
 (a:placesOf P t=some G)(Q:putAll ty G.fn ty.dflt True (parts.toList.map λp=>(p.1,ev p.2))=some (x,p))(O:p)(N:K (.ret (.dat ty x)) H):OpV P o ev H K:=by
 refine q0m (by simp_all) (λC e _ D=> ?_) N;rw [u] at D;simp only [Op.operands] at D;have c:SV.denL C ((parts.toList.map λp=>(p.1,ev p.2)).map (·.2)) ((parts.toList.map λp=>(p.1,e p.2)).map (·.2)):=by simp only [BD];have:=q1V (C:=C) (ev:=ev) (e:=e) (parts.toList.map (·.2)) (λx hx=>D x (by grind));simp only [BD] at this;exact this
 obtain ⟨us,E,h2⟩:=q8t (C:=C) (qs:=parts.toList.map λp=>(p.1,e p.2)) (Ty.isZero_rel B) (by simp) c Q O;refine ⟨.agg us.toArray,?_,by rw [SV.den];simp_all⟩;cases L:P.info? t with
 |none=>simp_all
 |some i=>
  cases hz0:i.zero with
  |none=>simp_all
  |some z=>
   simp [L,hz0] at F;have hzz:z.cells=zs.toArray:=by rw [<-F]
   have hzr:(zeroValue t).run P C.w= .ok z C.w:=by simp [zeroValue,typeInfo,L,hz0]
   unfold placesOf at a;split at a
   . rename_i J R;cases d:(J.toList.mapM (m:=Option) λf=>(P.info? f.type).map λi=>(f.offset,i.size)) with
     |none=>simp_all
     |some l=>
      rw [d] at a;cases a;have hm:=q4u (P:=P) (w:=C.w) d;have hm':(J.mapM (m:=Sem) λf=>do pure (f.offset,<-sizeOf f.type)).run P C.w= .ok l.toArray C.w:=by simp_all [B0]
      have q:Instr.fill (l.toArray[·]?) zs.toArray (parts.map λp=>(p.1,e p.2)).toList=some us.toArray:=by
       rw [<-E];congr 1
       . grind [PlaceK.fn]
       simp
      simp_all [execOp,Instr.build,run_underlying']
   . rename_i n e' R;cases r:P.info? e' with
     |none=>simp_all
     |some A=>
      simp [r] at a;subst a;have hse:(sizeOf e').run P C.w= .ok A.size C.w:=q0k (by simp [r]) C.w;have q:Instr.fill (λi=>some (i*A.size,A.size)) zs.toArray (parts.map λp=>(p.1,e p.2)).toList=some us.toArray:=by rw [<-E];congr 1;simp
      simp_all [execOp,Instr.build,run_underlying']
   cases a
end
section
open Go

variable [Ghost] {P:Program} {o:Oper} {ev:Operand->SV} {H:List SObj} {K:Out->List SObj->Prop}

def addB(m sz n:Nat):SV->Option SV
 |.ptr h off=>some (.ptr h (off+n*sz))
 |.iptr t x k=>if t.plain then some (.iptr t x (k+n*sz)) else match t.arrAt x k with
  |some ⟨e,N,ys⟩=>if m*sz=N then (if sz=1 then some (.iptr e (ys.getD n e.dflt) 0) else some (.iptr (.arr sz e) ((ys.drop (n*sz)).take sz) 0)) else none
  |none=>none
 |.rptr h t i k=>if t.plain then (if k=0/\sz=t.size then some (.rptr h t (i+n) 0) else if t.size=1 then some (.rptr h t (i+n*sz) k) else some (.rptr h t i (k+n*sz)))
  else if i=0 then (match t.cellAt k with
   |some e=>some (.rptr h e (n*sz) k)
   |none=>none) else none
 |.raw v=>(SV.raw v).add (n*sz)
 |_=>none
variable {C:Cx}{t:Ty}{y:t.den}
theorem z2v{b a:Nat}(e:C.I b)(h:Lies C.I C.w b a t y):(SV.iptr t y 0).den C (.pointer (some ⟨b,a,none⟩)):=by obtain ⟨us,c,d⟩:=h;rw [SV.den];exact ⟨b,a,us,by rfl,e,c,d⟩
variable {s:SV}{m:Nat}{v:Value}
theorem j2i{q:SV}{sz n:Nat}(c:n<m)(h:addB m sz n s=some q)(a:s.den C v):∃b o,v= .pointer (some ⟨b,o,none⟩)/\q.den C (.pointer (some ⟨b,o+n*sz,none⟩)):=by
 unfold addB at h;split at h
 . cases h;exact q6Z (s:=.ptr _ _) rfl a
 . split at h
   . cases h;exact q6Z (s:=.iptr _ _ _) rfl a
   split at h
   . rename_i e N ys F;split at h
     . rename_i hN;rw [SV.den] at a;obtain ⟨b,off,vs,rfl,r,A,E⟩:=a;obtain ⟨f,d⟩:=q3P _ F ⟨vs,A,E⟩;simp only at f d;refine ⟨b,_,rfl,?_⟩;split at h
       . rename_i B;cases h;refine z2v r ?_;rw [B,AO];exact f.elem d (by simp_all)
       cases h;have:(n+1)*sz<=m*sz:=AX _ c;rw [Nat.add_mul] at this;exact z2v r (f.part d (by omega))
     cases h
   cases h
 . split at h
   . split at h
     . rename_i e;obtain ⟨rfl,e⟩:=e;cases h;rw [SV.den] at a;obtain ⟨c,b,u,rfl⟩:=a;exact ⟨b,_,rfl,by simp_all [SV.den,Nat.add_mul]⟩
     split at h
     . rename_i e;cases h;rw [SV.den] at a;obtain ⟨c,b,u,rfl⟩:=a;refine ⟨b,_,rfl,?_⟩;rw [SV.den];grind
     cases h;exact q6Z (s:=.rptr _ _ _ _) rfl a
   split at h
   . rename_i D;subst D;split at h
     . rename_i e he;cases h;rw [SV.den] at a;obtain ⟨c,b,u,rfl⟩:=a;refine ⟨b,_,rfl,?_⟩;grind [SV.den,q3S]
     cases h
   cases h
 all_goals grind [q6Z]
variable {e':TypeId}{x:Operand}{k:IntKind}
theorem q4M{t:TypeId}{i:Operand}{len sz:Nat}{n:Int}(c:o.op= .indexAddr t x i)(B:P.underlying t=some (.array len e'))(E:(P.info? e').map (·.size)=some sz)(F:ev i= .raw (.int k n))
 (u:addB len sz n.toNat (ev x)=some s)(A:0<=n)(D:n.toNat<len)(r:K (.ret s) H):OpV P o ev H K:=by
 refine q0m (by simp_all) (λC e _ d=> ?_) r;have f:=d i (by grind [Op.operands]);rw [F,SV.den] at f;obtain ⟨b,p,G,q⟩:=j2i D u (d x (by grind [Op.operands]));have a:n< (len:Int):=by omega
 exact ⟨_,by simp [execOp,c,G,f,Instr.indexAt,asIntOf,run_underlying' B,Instr.sureAddr,A,a,q0k E,q0H,Result.andThen],q⟩

def slB(m sz lo n:Nat):SV->Option SV
 |.rptr h t i k=>if t.plain then (if k=0/\sz=t.size then some (.osl h t (i+lo) n) else if t.size=1/\sz=1 then some (.csl h t k (i+lo) n) else none)
  else if i=0/\sz=1 then (match t.cellAt k with
   |some e=>some (.csl h e k lo n)
   |none=>none) else none
 |.iptr t x k=>match t.arrAt x k with
  |some ⟨e,N,ys⟩=>if m=N/\sz=1/\N<=1125899906842624 then some (.isl e ((ys.drop lo).take n)) else none
  |none=>none
 |_=>none
theorem z9w{G:SV}{sz D n c:Nat}(h:slB m sz D n s=some G)(hln:D+n<=m)(r:n<=c)(d:s.den C v):
 ∃a,v= .pointer (some a)/\∀A,(n≠0->A=some (a.add (D*sz)))->G.den C (.slice A n c):=by
 unfold slB at h;split at h
 . split at h
   . split at h
     . rename_i e;obtain ⟨rfl,e⟩:=e;cases h;rw [SV.den] at d;obtain ⟨q,b,J,rfl⟩:=d;refine ⟨_,rfl,λA u=> ?_⟩;rw [SV.den];refine ⟨q,A,c,rfl,r,?_⟩;by_cases B:n=0;all_goals simp_all [q0H,Nat.add_mul]
     split at h
     . rename_i e;obtain ⟨e,rfl⟩:=e;cases h;rw [SV.den] at d;obtain ⟨q,b,J,rfl⟩:=d;refine ⟨_,rfl,λA u=> ?_⟩;rw [SV.den];refine ⟨q,A,c,rfl,r,?_⟩;grind [q0H]
     cases h
   split at h
   . rename_i e;obtain ⟨rfl,rfl⟩:=e;split at h
     . rename_i e he;cases h;rw [SV.den] at d;obtain ⟨q,b,J,rfl⟩:=d;refine ⟨_,rfl,λA u=> ?_⟩;rw [SV.den];refine ⟨q,A,c,rfl,r,?_⟩;grind [q0H,q3S]
     cases h
   cases h
 . split at h
   . rename_i e N ys B;split at h
     . rename_i U;obtain ⟨rfl,rfl,hlim⟩:=U;cases h;rw [SV.den] at d;obtain ⟨b,off,vs,rfl,Q,S,E⟩:=d;obtain ⟨L,F⟩:=q3P _ B ⟨vs,S,E⟩;simp only at L F;obtain ⟨g3,O⟩:=(q4b F).1 L;have R:((ys.drop D).take n).length=n:=by simp;omega
       refine ⟨_,rfl,λA u=> ?_⟩;rw [SV.den];refine ⟨A,n,c,rfl,R.symm,r,by omega,?_⟩;by_cases B:n=0
       . simp_all
       refine .inr ⟨b,_,by rw [u B,q0H],Q,λi x f=> ?_⟩;rw [B9] at f;split at f
       . rw [Bp] at f;have:=O _ _ f;rw [<-Au] at this;rw [F,AO,AO];exact this
       cases f
     cases h
   cases h
 cases h
theorem z5p{T:TypeId}{E B:Option Operand}{a b:Option Int}{sz:Nat}(d:o.op= .slice T x E B none)(J:P.underlying T=some (.array m e'))(u:(P.info? e').map (·.size)=some sz)(R:bndV ev E=some a)(G:bndV ev B=some b)
 (Q:0<=loOf a)(S:loOf a<=hiOf m b)(N:hiOf m b<=(m:Int))(V:slB m sz (loOf a).toNat ((hiOf m b).toNat- (loOf a).toNat) (ev x)=some s)(O:K (.ret s) H):OpV P o ev H K:=by
 refine q0m (by simp_all) (s:=s) (λC e _ q=> ?_) O;rw [d] at q;have W:=q x (by simp [Op.operands]);have D:∀y∈E,(ev y).den C (e y):=λy U=>q y (by simp_all [Op.operands]);have r:∀y∈B,(ev y).den C (e y):=λy U=>q y (by simp_all [Op.operands]);obtain ⟨F,A,f⟩:=z9w (c:=m- (loOf a).toNat) V (by omega) (by omega) W;have L:=q3m (P:=P) (C:=C) (e:=e) (isS:=false) (len:=m) (cap:=m) D r R G C.w Q S N;refine ⟨.slice (some (if m=(loOf a).toNat then F else F.add ((loOf a).toNat*sz))) ((hiOf m b).toNat- (loOf a).toNat) (m- (loOf a).toNat),?_,f _ λhne=>by grind⟩;simp [execOp,d,Instr.sliceAt,run_underlying' J,Instr.sureAddr,A,L,q0k u,Result.andThen]
theorem z3r{T:TypeId}{q f:Operand}{G:Option Operand}{a:Option Int}{b c:Int}{sz:Nat}(d:o.op= .slice T x G (some q) (some f))(N:P.underlying T=some (.array m e'))(D:(P.info? e').map (·.size)=some sz)(U:bndV ev G=some a)(L:bndV ev (some q)=some (some b))(W:bndV ev (some f)=some (some c))
 (S:0<=loOf a)(V:loOf a<=b)(Q:b<=c)(Z:c<=(m:Int))(X:slB m sz (loOf a).toNat (b.toNat- (loOf a).toNat) (ev x)=some s)(R:K (.ret s) H):OpV P o ev H K:=by
 refine q0m (by simp_all) (s:=s) (λC e _ r=> ?_) R;rw [d] at r;have Y:=r x (by simp [Op.operands]);have F:∀y∈G,(ev y).den C (e y):=λy hy=>r y (by simp_all [Op.operands]);have B:(ev q).den C (e q):=r q (by simp [Op.operands]);have A:(ev f).den C (e f):=r f (by simp [Op.operands]);obtain ⟨J,E,u⟩:=z9w (c:=c.toNat- (loOf a).toNat) X (by omega) (by omega) Y;have O:=q3O (P:=P) (C:=C) (e:=e) (isS:=false) (len:=m) (cap:=m) F B A U L W C.w S V Q Z;refine ⟨.slice (some (if c.toNat=(loOf a).toNat then J else J.add ((loOf a).toNat*sz))) (b.toNat- (loOf a).toNat) (c.toNat- (loOf a).toNat),?_,u _ λhne=>by grind⟩;simp [execOp,d,Instr.sliceAt,run_underlying' N,Instr.sureAddr,E,O,q0k D,Result.andThen]

variable {xs:List t.den}
theorem z8H{T:TypeId}(f:o.op= .sliceToArrayPointer T x)(J:P.underlying T=some (.array m e'))(L:∀C v,(ev x).den C v->(SV.isl t xs).den C v)(u:t.size=1)(B:m<=xs.length)(h0:0<m)
 (D:K (.ret (.iptr (.arr m t) (xs.take m) 0)) H):OpV P o ev H K:=by
 refine q0m (by simp_all) (λC e _ G=> ?_) D;have a:=L _ _ (G x (by grind [Op.operands]));rw [SV.den] at a;obtain ⟨A,n,c,q,rfl,hc,_,a⟩:=a;simp only [List.cons.injEq,and_true] at q;rcases a with rfl| ⟨b,off,rfl,E,a⟩
 . simp_all
 refine ⟨.pointer (some ⟨b,off,none⟩),by simp [execOp,f,q,Instr.arrayAt,run_underlying' J,Result.andThen,AC.2 B],z2v E ((q4b u).2 ⟨by simp;omega,λi y d=> ?_⟩)⟩;rw [B9] at d;split at d
 . obtain ⟨us,F,r⟩:=a i y d;rw [u,AO] at r;exact ⟨us,F,r⟩
 cases d

theorem j1v{T:TypeId}(hop:o.op= .box T x)(D:ev x= .dat t y)(u:K (.ret (.rptr H.length t 0 0)) (H++ [.row t [y]])):OpV P o ev H K:=by
 refine q0L (by simp_all) λC e r A=> ?_;have a:=A x (by grind [Op.operands]);rw [D,SV.den] at a;obtain ⟨vs,a,q⟩:=a;have B:=t.rel_size _ _ q;obtain ⟨f,d,_⟩:=q3E (T:=T) (rest:=[]) (t:=t) (xs:=[y]) (vs:=vs) r (n:=1) (c:=1) (q3c.2 q) (by simp) (Ac _) (by simp [B]);rw [Ad] at f d;refine ⟨_,.pointer (some ⟨C.w.heap.size,0,none⟩),_,_,u,.inl ?_,f,d,?_⟩
 . simp_all [execOp,Instr.box,newVar,newRow,Cx.grow,Value.cells]
 grind [SV.den]
theorem j0U{T:TypeId}{n:Nat}{ys:List t.den}(hop:o.op= .box T x)(F:ev x= .dat (.arr n t) ys)(f:t.size=1)(B:K (.ret (.rptr H.length t 0 0)) (H++ [.row t ys])):OpV P o ev H K:=by
 refine q0L (by simp_all) λC e A D=> ?_;have d:=D x (by grind [Op.operands]);rw [F,SV.den] at d;obtain ⟨vs,d,a⟩:=d;have E:=a.1;have u:=(Ty.arr n t).rel_size _ _ a;simp only [Ty.size,f,AO] at u;subst E;obtain ⟨r,q,_⟩:=q3E (T:=T) (rest:=[]) (t:=t) (xs:=ys) (vs:=vs) A (n:=ys.length) (c:=ys.length) ((q3r f).2 a) (by simp) (Ac _) (by simp [u,f]);rw [Ad] at r q;refine ⟨_,.pointer (some ⟨C.w.heap.size,0,none⟩),_,_,B,.inl ?_,r,q,?_⟩
 . simp_all [execOp,Instr.box,newVar,newRow,Cx.grow,Value.cells]
 grind [SV.den]
theorem z5A{T:TypeId}{zs:List Value}(a:o.op= .alloc T)(u:(P.info? T).bind (λi=>i.zero.map (·.cells.toList))=some zs)(A:t.isZero zs=true)
 (D:K (.ret (.rptr H.length t 0 0)) (H++ [.row t [t.dflt]])):OpV P o ev H K:=by
 refine q0L (by simp_all) λC e B _=> ?_;have q:=Ty.isZero_rel (I:=C.I) (w:=C.w) A;have E:=t.rel_size _ _ q;obtain ⟨f,d,_⟩:=q3E (T:=T) (rest:=[]) (t:=t) (xs:=[t.dflt]) (vs:=zs) B (n:=1) (c:=1) (q3c.2 q) (by simp) (Ac _) (by simp [E]);rw [Ad] at f d;refine ⟨_,.pointer (some ⟨C.w.heap.size,0,none⟩),_,_,D,.inl ?_,f,d,?_⟩
 . cases r:P.info? T with
   |none=>simp_all
   |some i=>
    cases hz0:i.zero with
    |none=>simp_all
    |some z=>simp [r,hz0] at u;simp [execOp,a,Instr.alloc,zeroValue,typeInfo,r,hz0,Result.andThen,newVar,newRow,Cx.grow,<-u]
 grind [SV.den]

def Ty.modS:(t:Ty)->t.den->(k i:Nat)->(e:Ty)->e.den->Option (t.den×Prop)
 |.prod a c,x,k,i,e,d=>if k<a.size then (match a.modS x.1 k i e d with
  |some (y,p)=>some ((y,x.2),p)
  |none=>none) else (match c.modS x.2 (k-a.size) i e d with
  |some (y,p)=>some ((x.1,y),p)
  |none=>none)
 |.arr n e',xs,k,i,e,d=>if h:k=0/\e=e'/\e'.size=1 then some (List.set (α:=e'.den) xs i (cast (by rw [h.2.1]) d),i<n) else none
 |.u8,_,_,_,_,_=>none
 |.int _,_,_,_,_,_=>none
 |.bool,_,_,_,_,_=>none
 |.str,_,_,_,_,_=>none
 |.slice _,_,_,_,_,_=>none
 |.unit,_,_,_,_,_=>none
 |.ptr _,_,_,_,_,_=>none
 |.clo _ _,_,_,_,_,_=>none
 |.clp _ _,_,_,_,_,_=>none
 |.mbs _,_,_,_,_,_=>none
variable {i:Nat}
theorem z5S{α:Type}{xs:List α}{d:α}(h:i<xs.length):splice xs i [d]=xs.set i d:=by simp_all [splice,Cb]
theorem q6x{C:Cx}{e:Ty}:∀ (t:Ty) {x x':t.den} {k i:Nat} {d:e.den} {p:Prop} {us ws:List Value},t.modS x k i e d=some (x',p)->p->e.rel C.I C.w d ws->t.rel C.I C.w x us->
 t.rel C.I C.w x' (splice us (k+i) ws)/\k+i+1<=t.size/\ws.length=1
 |.prod a c,x,x',k,i,d,p,us,ws,h,hp,hd,hr=>by
  simp only [Ty.modS] at h;obtain ⟨v1,v2,rfl,D,G⟩:=hr;have A:=a.rel_size _ _ D;split at h
  . split at h
    . rename_i B;cases h;obtain ⟨r,J,F⟩:=q6x a B hp hd D;rw [q4m (by omega)];exact ⟨⟨_,_,rfl,r,G⟩,by grind [Ty.size],F⟩
    cases h
  split at h
  . rename_i q _ _ _ B;cases h;obtain ⟨r,J,F⟩:=q6x c B hp hd G;rw [q3I (by omega),A,show k+i-a.size=k-a.size+i by omega];exact ⟨⟨_,_,rfl,D,r⟩,by grind [Ty.size],F⟩
  cases h
 |.arr n e',xs,x',k,i,d,p,us,ws,h,hp,hd,hr=>by
  simp only [Ty.modS] at h;split at h
  . rename_i L;obtain ⟨rfl,rfl,u⟩:=L;cases h;have E:=e.rel_size _ _ hd;rw [u] at E;have hn:=hr.1;have q:i<List.length (α:=e.den) xs:=by omega
    have f:(Ty.arr [d].length e).rel C.I C.w [d] ws:=(q3r u).1 (q3c.2 hd);have:=q4e (C:=C) (e:=e) (.arr n e) (x:=xs) (k:=0) (i:=i) (ys:=[d]) (us:=us) (ws:=ws) (x':=splice (α:=e.den) xs i [d]) (p:=i+1<=n) (by simp [Ty.modR,u]) (by omega) f hr;grind [z5S]
  cases h
 |.u8,_,_,_,_,_,_,_,_,h,_,_,_=>by cases h
 |.int _,_,_,_,_,_,_,_,_,h,_,_,_=>by cases h
 |.bool,_,_,_,_,_,_,_,_,h,_,_,_=>by cases h
 |.str,_,_,_,_,_,_,_,_,h,_,_,_=>by cases h
 |.slice _,_,_,_,_,_,_,_,_,h,_,_,_=>by cases h
 |.unit,_,_,_,_,_,_,_,_,h,_,_,_=>by cases h
 |.ptr _,_,_,_,_,_,_,_,_,h,_,_,_=>by cases h
 |.clo _ _,_,_,_,_,_,_,_,_,h,_,_,_=>by cases h
 |.clp _ _,_,_,_,_,_,_,_,_,h,_,_,_=>by cases h
 |.mbs _,_,_,_,_,_,_,_,_,h,_,_,_=>by cases h

variable {h k:Nat}
theorem q3B(hd:(SV.rptr h t i k).den C v):∃b,C.ρ h=some b/\v= .pointer (some ⟨b,i*t.size+k,none⟩):=by grind [SV.den]
theorem q9r{T:TypeId}(d:o.op= .load T x)(D:aggOf P T=some (some m))(A:ev x= .rptr h t i 0)(B:H[h]?=some (.row t xs))(c:t.size=1)(q:0<m)(F:i+m<=xs.length)
 (r:K (.ret (.dat (.arr m t) ((xs.drop i).take m))) H):OpV P o ev H K:=
 q4G d D (λC v f e=>by
  rw [A] at e;obtain ⟨b,E,rfl⟩:=q3B e;obtain ⟨b',a,u⟩:=q9m f B c F q;rw [E] at a;cases a
  exact ⟨b,_,_,_,rfl,by rw [c,AO];exact u,by rfl,.inr (by simp [Ty.size,c])⟩) r
variable {ag:Option Nat}
theorem z1H{T:TypeId}{c:Ty}{y:c.den}(d:o.op= .load T x)(D:aggOf P T=some ag)(A:ev x= .rptr h t i k)(B:H[h]?=some (.row t xs))(J:i<xs.length)(G:t.get (xs.getD i t.dflt) k (ag.getD 1)=some ⟨c,y⟩)(F:SV.ofT ag c y=some s)
 (q:K (.ret s) H):OpV P o ev H K:=
 q4G d D (λC v f e=>by
  rw [A] at e;obtain ⟨b,E,rfl⟩:=q3B e;obtain ⟨b',a,u⟩:=q1O f B (x:=xs.getD i t.dflt) (by rw [Ae,Af J];rfl);rw [E] at a;cases a;obtain ⟨r,g2⟩:=z0Y t G u;refine ⟨b,_,c,y,rfl,r,F,?_⟩;cases ag with
  |none=>grind
  |some m=>simp_all) q
variable {z:t.den}
theorem q9T{T:TypeId}{a:Ty}{y:a.den}(c:o.op= .load T x)(u:aggOf P T=some ag)(q:ev x= .iptr t z k)(B:t.get z k (ag.getD 1)=some ⟨a,y⟩)(A:SV.ofT ag a y=some s)
 (e:K (.ret s) H):OpV P o ev H K:=
 q4G c u (λC v hw d=>by
  rw [q,SV.den] at d;obtain ⟨b,off,us,rfl,hI,r,D⟩:=d;obtain ⟨f,g2⟩:=z0Y t B ⟨us,r,D⟩;refine ⟨b,_,a,y,rfl,f,A,?_⟩;cases ag with
  |none=>grind
  |some m=>simp_all) e
theorem q5V{T:TypeId}{N:Nat}{t' e:Ty}{z:t'.den}{ys:List e.den}(f:o.op= .load T x)(A:aggOf P T=some ag)(L:ev x= .rptr h t i k)(r:t.size=1)(G:H[h]?=some (.row t' [z]))(O:t'.arrAt z k=some ⟨e,N,ys⟩)
 (J:(ag=none/\i<N/\e.cells (ys.getD i e.dflt)= [s])\/∃m,ag=some m/\0<m/\i+m<=N/\s= .dat (.arr m e) ((ys.drop i).take m))(D:K (.ret s) H):OpV P o ev H K:=
 q4G f A (λC v E u=>by
  rw [L] at u;obtain ⟨b,B,rfl⟩:=q3B u;obtain ⟨b',a,F⟩:=q1O E G (i:=0) (x:=z) rfl;rw [B] at a;cases a;obtain ⟨d,c⟩:=q3P t' O F;simp only at d c;rw [Ct,Ag] at d;rcases J with ⟨rfl,q,hcs⟩ | ⟨m,rfl,hm,q,rfl⟩
  . exact ⟨b,_,e,_,rfl,by rw [r,AO,Br];exact d.elem c q,by grind [SV.ofT],.inl rfl⟩
  exact ⟨b,_,_,_,rfl,by rw [r,AO,Br];exact d.part c q,by rfl,.inr (by simp [Ty.size,c])⟩) D
theorem q8l{T T':TypeId}{cs:List SV}(hop:o.op= .load T x)(q:aggOf P T=some ag)(J:ev x= .rptr h t i k)(E:H[h]?=some (.cells T' cs))(D:pick cs (i*t.size+k) ag=some s)(A:K (.ret s) H):OpV P o ev H K:=by
 refine q0m (by simp_all) (s:=s) (λC e B F=> ?_) A;have d:=F x (by grind [Op.operands]);rw [J] at d;obtain ⟨b,r,hv'⟩:=q3B d;obtain ⟨b',vs,c,a,f⟩:=B.obj h _ E;rw [r] at c;cases c;obtain ⟨v,h1,h2⟩:=q1b q (b:=b) (base:=0) (off:=i*t.size+k) f (λj u G=>by rw [Ag,q0h a];exact G) D
 simp_all [execOp,Instr.loadAt,Instr.sureAddr]
theorem q4i{T:TypeId}{y:Operand}{ys:List t.den}(q:o.op= .store T x y)(S:(P.info? T).map (·.size)=some m)(U:ev x= .rptr h t i 0)(D:∀C v,(ev y).den C v->(SV.dat (.arr m t) ys).den C v)(O:H[h]?=some (.row t xs))(A:t.size=1)(hm:0<m)(hi:i+m<=xs.length)
 (L:ys.length=m->K (.ret .any) (H.set h (.row t (splice xs i ys)))):OpV P o ev H K:=by
 intro E C r n a next Q B J c G R
 have d:ys.length=m:=by have:=D _ _ (c y (by grind [Op.operands]));rw [SV.den] at this;obtain ⟨vs,_,f⟩:=this;exact f.1
 have e:OpV P o ev H K:=q8y (n:=m) (a:=i) q S O (by grind) (q0r (by omega)) (λC v c=>by
  rw [U] at c;obtain ⟨b,hb,rfl⟩:=q3B c
  simp_all) (by simp_all) (λC v B c=>by
  have c:=D _ _ c;rw [SV.den] at c;obtain ⟨vs,rfl,f⟩:=c;have N:=(Ty.arr m t).rel_size _ _ f;simp only [Ty.size,A,AO] at N;refine ⟨by grind [Value.cells],λu F=>q4r _ _ _ f u (by grind [Value.cells]),λus F=> ?_⟩;have:=q8f (i:=i) F ((q3r A).2 (d▸f)) (by omega)
  simp_all [Value.cells]) (L d)
 exact e E C r n a next Q B J c G R
theorem z0d{T:TypeId}{y:Operand}{n:Nat}{q:t.den}{p:Prop}(f:o.op= .store T x y)(E:(P.info? T).map (·.size)=some n)(D:ev x= .rptr h t 0 k)(r:H[h]?=some (.row t [z]))(c:t.putV z k n (ev y)=some (q,p))(B:p)(hkn:k+n<=t.size)
 (A:K (.ret .any) (H.set h (.row t [q]))):OpV P o ev H K:=
 q8y (n:=n) (a:=k) (xs':=[q]) f E r (by simp) rfl (λC v d=>by
  rw [D] at d;obtain ⟨b,hb,rfl⟩:=q3B d
  simp_all) (by simp_all) (λC v u d=>by
  obtain ⟨b,_,us0,e,_⟩:=q1O u r (i:=0) (x:=z) rfl;obtain ⟨_,g2,g3,_⟩:=q4B t c B d e
  grind [q3c,q4B]) A
theorem q9f{T:TypeId}{y:Operand}{t' e:Ty}{z u:t'.den}{d:e.den}{p q:Prop}(A:o.op= .store T x y)(Y:(P.info? T).map (·.size)=some 1)(he:ev x= .rptr h t i k)(V:t.size=1)(J:H[h]?=some (.row t' [z]))(S:(ev y).datum e=some (d,p))(X:p)(O:t'.modS z k i e d=some (u,q))(F:q)
 (U:K (.ret .any) (H.set h (.row t' [u]))):OpV P o ev H K:=by
 refine q0L (by simp_all) λC W G Q=> ?_;have N:=Q x (by grind [Op.operands]);rw [he] at N;obtain ⟨b,B,c⟩:=q3B N;obtain ⟨E,y2⟩:=q4R S X (Q y (by grind [Op.operands]));obtain ⟨b',hb',us0,D,_⟩:=q1O G J (i:=0) (x:=z) rfl;obtain ⟨_,g2,g3⟩:=q6x t' O F E D;rw [V,AO] at c
 obtain ⟨C',r,R,Z,k3⟩:=q5f (P:=P) (a:=i+k) (xs':=[u]) G J B (by simp) rfl (by grind) y2 (λus L=>by
  rw [q3c] at L⊢;rw [Br]
  exact (q6x t' O F E L).1)
 refine ⟨_,undef,_,C',U,.inr ⟨?_,rfl⟩,R,Z,by rw [SV.den];trivial⟩;have f:(W y).cells.size=1:=by omega
 simp [execOp,A,c,Instr.storeAt,Instr.sureAddr,Result.andThen,storeVar,q0k Y,f,r]
theorem q5u{t:TypeId}{i:Operand}{ty:Ty}{kk off:Nat}{k:IntKind}{n:Int}(q:o.op= .indexAddr t x i)(F:P.underlying t=some (.slice e'))(G:(P.info? e').map (·.size)=some ty.size)
 (L:ev x= .csl h ty kk off m)(J:ev i= .raw (.int k n))(E:0<=n)(hb:n.toNat<m)(B:K (.ret (.rptr h ty (off+n.toNat) kk)) H):OpV P o ev H K:=by
 refine q0m (by simp_all) (λC e _ r=> ?_) B;have a:=r x (by grind [Op.operands]);have u:=r i (by grind [Op.operands]);rw [J,SV.den] at u;rw [L,SV.den] at a;obtain ⟨hn,A,c,d,_,a⟩:=a;rcases a with rfl| ⟨b,hb',rfl⟩
 . omega
 refine ⟨.pointer (some ⟨b,(off+n.toNat)*ty.size+kk,none⟩),?_,by rw [SV.den];simp_all⟩;have f:n< (m:Int):=by omega
 have D:(off+n.toNat)*ty.size+kk=off*ty.size+kk+n.toNat*ty.size:=by grind
 rw [D];simp [execOp,q,d,u,Instr.indexAt,asIntOf,run_underlying' F,E,f,q0k G,q0H,Result.andThen]
theorem q1M{I:Nat->Prop}{w:World}{x:t.den}{r:Sigma Ty.den}{vs:List Value}(h:get1 t x k m=some r)(a:t.rel I w x vs):∃us,r.1.rel I w r.2 us/\us.length=m/\∀j u,us[j]?=some u->vs[k+j]?=some u:=by
 unfold get1 at h;split at h
 . rename_i c;obtain ⟨rfl,rfl⟩:=c;cases h;exact ⟨vs,a,t.rel_size _ _ a,λj u hu=>by simp_all⟩
 cases h
theorem z2m{I:Nat->Prop}{w:World}:∀ (t:Ty) {x:t.den} {k m:Nat} {r:Sigma Ty.den} {vs:List Value},t.get x k m=some r->t.rel I w x vs->∃us,r.1.rel I w r.2 us/\us.length=m/\∀j u,us[j]?=some u->vs[k+j]?=some u
 |.prod a c,x,k,m,r,vs,h,hr=>by
  simp only [Ty.get] at h;split at h
  . rename_i B;obtain ⟨rfl,rfl⟩:=B;cases h;exact ⟨vs,hr,(Ty.prod a c).rel_size _ _ hr,λj u hu=>by simp_all⟩
  obtain ⟨v1,v2,rfl,d,f⟩:=hr;have hl1:=a.rel_size _ _ d;split at h
  . obtain ⟨us,A,q,D⟩:=z2m a h d;grind
  obtain ⟨us,A,q,D⟩:=z2m c h f;grind
 |.arr n e,_,_,_,_,_,h,hr=>q1M h hr
 |.u8,_,_,_,_,_,h,hr=>q1M h hr
 |.int ik,_,_,_,_,_,h,hr=>q1M h hr
 |.bool,_,_,_,_,_,h,hr=>q1M h hr
 |.str,_,_,_,_,_,h,hr=>q1M h hr
 |.slice e,_,_,_,_,_,h,hr=>q1M h hr
 |.unit,_,_,_,_,_,h,hr=>q1M h hr
 |.ptr e,_,_,_,_,_,h,hr=>q1M h hr
 |.clo _ e,_,_,_,_,_,h,hr=>q1M h hr
 |.clp _ e,_,_,_,_,_,h,hr=>q1M h hr
 |.mbs e,_,_,_,_,_,h,hr=>q1M h hr
theorem z5P{T ft:TypeId}{f off:Nat}{B:Ty}{y:B.den}(hop:o.op= .field T x f)(Y:fieldOf P T f=some (off,ft))(S:aggOf P ft=some ag)(hx:ev x= .dat t z)(Q:t.get z off (ag.getD 1)=some ⟨B,y⟩)(d:SV.ofT ag B y=some s)
 (W:K (.ret s) H):OpV P o ev H K:=by
 refine q0m (by simp_all) (s:=s) (λC e _ hv=> ?_) W;have E:=hv x (by grind [Op.operands]);rw [hx,SV.den] at E;obtain ⟨vs,E,R⟩:=E;obtain ⟨fs,A,hu,hy,rfl,rfl⟩:=q5H Y;obtain ⟨us,Z,G,U⟩:=z2m t Q R;have O:=B.cells_den _ _ Z;have fin:∀v,(part A.type vs.toArray A.offset).run P C.w= .ok v C.w->(execOp e o).run P C.w= .ok (.value v) C.w:=λv J=>by simp_all [execOp,Instr.field,run_underlying',asAgg]
 cases ag with
 |none=>
  simp only [CK] at G;obtain ⟨u,rfl⟩:=Bc.1 G;have N:=U 0 u rfl;rw [AG] at N;unfold SV.ofT at d;simp only at d;split at d
  . rename_i s' L;cases d;rw [L] at O;obtain ⟨v,us',D,hd',_⟩:=q0c.1 O;simp only [List.cons.injEq] at D;obtain ⟨rfl,_⟩:=D;obtain ⟨V,J,q⟩:=q4O (C:=C) (off:=A.offset) (s:=.raw u) S (q1a vs) (by grind [pick,rawL]) C.w;grind [SV.den]
  cases d
 |some m=>
  simp only [Bq] at G;have F:A.offset+m<=vs.length:=by
   rcases Cz m with h|h
   . subst h;have X:∀ (t:Ty) {x:t.den} {k:Nat} {r:Sigma Ty.den},t.get x k 0=some r->k<=t.size:=by
      intro t;induction t with
      |prod a c iha ihc=>grind [Ty.get,Ty.size]
      |_=>intro x k r h;simp only [Ty.get,get1] at h;split at h<;>first| (cases h;done) | (rename_i hc;omega)
     have:=X t Q;rw [t.rel_size _ _ R];omega
   have:=U (m-1) (us[m-1]'(by omega)) (Af _);grind
  have D:(vs.drop A.offset).take m=us:=by apply AE;grind
  obtain ⟨V,J,q⟩:=q4O (C:=C) (s:=.agg (rawL us)) S (q1a vs) (by
   simp only [pick,rawL,A3]
   rw [if_pos F,<-List.map_drop,<-List.map_take,D]) C.w
  rw [SV.den] at q;obtain ⟨ws,rfl,q⟩:=q;have:=q1d q;subst this;refine ⟨_,fin _ J,?_⟩;unfold SV.ofT at d;simp only at d;split at d
  . cases d;rw [SV.den];simp_all
  cases d;rw [SV.den];simp_all
end
open Go
inductive IOp where
 |mov (x:Operand)
 |pick (c x y:Operand)
 |nil (x:Operand)
 |new (T:TypeId) (zs:List Value)
 |box (T:TypeId) (x:Operand)
 |ld (ag:Option Nat) (x:Operand)
 |st (n:Nat) (x y:Operand)
 |bin (op:BinOp) (k:Nat) (x y:Operand)     -- k: 1 pointers, 2 functions, 3 bools may be compared
 |un (op:UnOp) (x:Operand)
 |toInt (k:IntKind) (x:Operand)
 |toStr (b:Bool) (x:Operand)                 -- b: of bytes, not of a string
 |fa (off:Nat) (x:Operand)
 |fld (off:Nat) (ag:Option Nat) (x:Operand)
 |ia (sz:Nat) (x i:Operand)
 |ixs (x i:Operand)
 |len (k:Bool) (x:Operand)                   -- k: a string
 |ext (i:Nat) (x:Operand)
 |mkf (f:Nat) (fi ca:List Operand)
 |mki (T:TypeId) (x:Operand)
 |bld (zs:List Value) (pl:PlaceK) (ps:List (Nat×Operand))
 |bsl (t:Ty) (n sz:Nat) (zs:List Value) (ps:List (Nat×Operand))
 |app (t:Ty) (by_:Nat) (x y:Operand)
 |sl (k:Option Nat) (x:Operand) (lo hi:Option Operand)   -- k: none: a string; some n: a slice of elements of n cells
 |call (f:Operand) (args:List Operand)
 |pan (x:Operand)
 |mkm (kk:Option IntKind)
 |mup (kk:Option IntKind) (m k x:Operand)
 |mlk (kk:Option IntKind) (z:Value) (ok:Bool) (m k:Operand)
 |mln (x:Operand)
 |mks (t:Ty) (by_:Nat) (x y:Operand)
 |toB (x:Operand)
 |eqs (neg:Bool) (ks:List Nat) (x y:Operand)
 |sl3 (k:Nat) (f:Bool) (x:Operand) (lo:Option Operand) (hi mx:Operand)
 |iaa (len sz:Nat) (x i:Operand)
 |ta (T:TypeId) (z:Value) (x:Operand)
 |mxm (b:Bool) (x y:Operand)
 |arr (t:Ty) (m:Nat)                         -- an array of data of one cell
 |sla (m sz:Nat) (x:Operand) (lo hi:Option Operand)   -- a part of an array
 |ldS (ag:Option Nat) (x:Operand)   -- a load that floats over stores to other objects
 |sgl (t:Ty)                                   -- a variable of a struct's type that holds arrays
 |ixd (n:Nat) (x i:Operand)                  -- an element of an array's value
 |s2a (m:Nat) (x:Operand)                    -- an array out of a slice
 |bdd (t:Ty) (pl:PlaceK) (ps:List (Nat×Operand))   -- a literal of a type that holds arrays
 |cpy (sz:Nat) (x y:Operand)
 |sla3 (m sz:Nat) (x:Operand) (lo:Option Operand) (hi mx:Operand)
 |bsf (T:TypeId) (sz n:Nat) (zs:List Value) (ps:List (Nat×Operand))    -- a literal slice of functions
 |ixr (n m:Nat) (x i:Operand)               -- an element of an array of arrays
 |apz (t:Ty) (by_:Nat) (x y:Operand)      -- append(x, make([]T, y)...)
 |mke (T:TypeId) (nm:String)                -- a method expression

def tyOf(P:Program):Nat->TypeId->Option Ty
 |0,_=>none
 |n+1,T=>match P.underlying T with
  |some .bool=>some .bool
  |some (.int .u8)=>some .u8
  |some (.int k)=>some (.int k)
  |some .string=>some .str
  |some (.slice e)=>(tyOf P n e).map .slice
  |some (.struct fs)=>fs.toList.foldr (λf acc=>match tyOf P n f.type,acc with
   |some a,some (some b)=>some (some (.prod a b))
   |some a,some none=>some (some a)
   |_,_=>none) (some none) |>.bind id
  |some (.array m e)=>(tyOf P n e).bind λa=>match a with
   |.arr k c=>some (.arr (m*k) c)
   |a=>if a.size=1 then some (.arr m a) else none
  |some (.pointer e)=>(tyOf P n e).bind λa=>if a.plain=true then none else some (.ptr a)
  |_=>none

def eqK(P:Program)(t:TypeId):Nat:=
 if kPtr P t then 1 else if kFunc P t then 2 else if kBool P t then 3 else if kSlice P t then 5 else 0

def mapKey(P:Program)(T:TypeId):Option (Option IntKind):=match P.underlying T with
 |some (.map kt _)=>keyKind P kt
 |_=>none
def mapZero(P:Program)(T:TypeId):Option Value:=match P.underlying T with
 |some (.map _ et)=>zeroOf P et
 |_=>none
variable {P:Program}{kk:Option IntKind}
theorem z1F{T:TypeId}(h:mapKey P T=some kk):∃kt et,P.underlying T=some (.map kt et)/\keyKind P kt=some kk/\mapZero P T=zeroOf P et:=by grind [mapKey,mapZero]

def sameOpd:Operand->Operand->Bool
 |.tmp i,.tmp j=>i==j
 |.const (.int k a),.const (.int k' b)=>k==k'&& a==b
 |_,_=>false
variable {x:Operand}
theorem z5a{y:Operand}(h:sameOpd x y=true):x=y:=by unfold sameOpd at h;grind
def arrOf(P:Program)(T:TypeId):Option (Ty×Nat):=match P.underlying T with
 |some (.array _ _)=>match tyOf P 8 T,(P.info? T).bind λi=>i.zero.map (·.cells.toList) with
  |some (.arr _ c),some zs=>if c.size=1/\zs.all (λv=>c.isZero [v])=true/\(c= .u8\/5<=zs.length) then some (c,zs.length) else none
  |_,_=>none
 |_=>none
variable {t:Ty}
theorem j1S{T:TypeId}{m:Nat}(h:arrOf P T=some (t,m)):∃zs,((P.info? T).bind λi=>i.zero.map (·.cells.toList))=some zs/\t.size=1/\zs.all (λv=>t.isZero [v])=true/\m=zs.length:=by unfold arrOf at h;grind
def stOf(P:Program)(T:TypeId):Option Ty:=match P.underlying T with
 |some (.struct _)=>match tyOf P 8 T,(P.info? T).bind λi=>i.zero.map (·.cells.toList) with
  |some t,some zs=>if t.plain=false/\t.isZero zs=true then some t else none
  |_,_=>none
 |_=>none
theorem j5C{T:TypeId}(h:stOf P T=some t):∃zs,((P.info? T).bind λi=>i.zero.map (·.cells.toList))=some zs/\t.isZero zs=true:=by grind [stOf]
def ltOf(P:Program)(T:TypeId):Option Ty:=match tyOf P 8 T,(P.info? T).bind λi=>i.zero.map (·.cells.toList) with
 |some t,some zs=>if t.plain=false/\t.isZero zs=true/\5<=zs.length then some t else none
 |_,_=>none
theorem j3k{T:TypeId}(h:ltOf P T=some t):∃zs,((P.info? T).bind λi=>i.zero.map (·.cells.toList))=some zs/\t.isZero zs=true:=by grind [ltOf]
def compOp(P:Program):Op->Option IOp
 |.move x=>some (.mov x)
 |.assign x=>some (.mov x)
 |.pick c x y=>some (.pick c x y)
 |.nilCheck x=>some (.nil x)
 |.alloc T=>match arrOf P T with
  |some (t,m)=>some (.arr t m)
  |none=>match stOf P T with
   |some t=>some (.sgl t)
   |none=>((P.info? T).bind λi=>i.zero.map (·.cells.toList)).map (.new T ·)
 |.box T x=>some (.box T x)
 |.load t x=>(aggOf P t).map (.ld · x)
 |.store t x y=>((P.info? t).map (·.size)).map (.st · x y)
 |.binOp op t x y _=>match structK P t with
  |some ks=>match op with
   |.eql=>some (.eqs false ks x y)
   |.neq=>some (.eqs true ks x y)
   |_=>none
  |none=>some (.bin op (eqK P t) x y)
 |.unOp op _ x=>some (.un op x)
 |.convert s d x=>match P.underlying s,P.underlying d with
  |some _,some (.int k)=>some (.toInt k x)
  |some (.slice e),some .string=>match P.underlying e with
   |some (.int .u8)=>some (.toStr true x)
   |_=>none
  |some .string,some .string=>some (.toStr false x)
  |some .string,some (.slice e)=>match P.underlying e with
   |some (.int .u8)=>some (.toB x)
   |_=>none
  |_,_=>none
 |.fieldAddr t x f=>match fieldOf P t f with
  |some (off,ft)=>match (P.info? ft).map (·.size) with
   |some (_+1)=>some (.fa off x)
   |_=>none
  |none=>none
 |.field t x f=>match fieldOf P t f with
  |some (off,ft)=>(aggOf P ft).map (.fld off · x)
  |none=>none
 |.indexAddr t x i=>match P.underlying t with
  |some (.slice e)=>((P.info? e).map (·.size)).map (.ia · x i)
  |some (.array len e)=>((P.info? e).map (·.size)).map (.iaa len · x i)
  |_=>none
 |.index t x i=>match P.underlying t with
  |some .string=>some (.ixs x i)
  |some (.array n e)=>match aggOf P e,(P.info? e).map (·.size) with
   |some none,some 1=>some (.ixd n x i)
   |some (some m),some m'=>if m=m' then some (.ixr n m x i) else none
   |_,_=>none
  |_=>none
 |.extract x i=>some (.ext i x)
 |.makeFunc (.func f) fi ca=>some (.mkf f fi.toList ca.toList)
 |.makeFunc (.methodOf T nm) fi ca=>if fi.size=0/\ca.size=0 then some (.mke T nm) else none
 |.makeInterface T x=>if notIface P T then some (.mki T x) else none
 |.sliceToArrayPointer T x=>match P.underlying T with
  |some (.array m _)=>some (.s2a m x)
  |_=>none
 |.build t ps=>match ltOf P t with
  |some ty=>(placesOf P t).map λpl=>.bdd ty pl ps.toList
  |none=>match (P.info? t).bind (λi=>i.zero.map (·.cells.toList)),placesOf P t with
   |some zs,some pl=>some (.bld zs pl ps.toList)
   |_,_=>none
 |.buildSlice t n ps=>match P.underlying t with
  |some (.slice e)=>match tyOf P 8 e,(P.info? e).map (·.size),zerosOf P e n with
   |some ty,some sz,some zs=>some (.bsl ty n sz zs ps.toList)
   |none,some sz,some zs=>some (.bsf e sz n zs ps.toList)
   |_,_,_=>none
  |_=>none
 |.slice t x lo hi none=>match P.underlying t with
  |some .string=>some (.sl none x lo hi)
  |some (.slice e)=>((P.info? e).map (·.size)).map λn=>.sl (some n) x lo hi
  |some (.array m e)=>((P.info? e).map (·.size)).map λn=>.sla m n x lo hi
  |_=>none
 |.slice t x lo (some hi) (some mx)=>match P.underlying t with
  |some (.slice e)=>((P.info? e).map (·.size)).map λn=>.sl3 n (lo.isNone&& sameOpd hi mx) x lo hi mx
  |some (.array m e)=>((P.info? e).map (·.size)).map λn=>.sla3 m n x lo hi mx
  |_=>none
 |.makeSlice t x y=>match P.underlying t with
  |some (.slice e)=>match P.info? e,tyOf P 8 e with
   |some i,some ty=>match i.zero with
    |some z=>if i.size=ty.size/\z.cells.size=ty.size/\0<ty.size/\ty.isZero z.cells.toList=true then some (.mks ty i.bytes x y) else none
    |none=>none
   |_,_=>none
  |_=>none
 |.call c=>match c.callee with
  |.value f=>some (.call f c.args.toList)
  |.builtin .len=>match c.args.toList,c.argTypes.toList with
   | [x],[t]=>match P.underlying t with
    |some .string=>some (.len true x)
    |some (.slice _)=>some (.len false x)
    |some (.map _ _)=>some (.mln x)
    |_=>none
   |_,_=>none
  |.builtin .append=>match c.args.toList,c.argTypes.toList with
   | [x,y],[tS,tX]=>match P.underlying tS,srcType P tX with
    |some (.slice e),some _=>match P.info? e,tyOf P 8 e with
     |some i,some ty=>match i.zero with
      |some z=>if i.size=ty.size/\z.cells.size=ty.size then some (.app ty i.bytes x y) else none
      |none=>none
     |_,_=>none
    |some (.slice e),none=>match P.underlying tX,P.info? e,tyOf P 8 e with
     |some (.int _),some i,some ty=>match i.zero with
      |some z=>if i.size=ty.size/\z.cells.size=ty.size/\0<ty.size/\ty.isZero z.cells.toList=true then some (.apz ty i.bytes x y) else none
      |none=>none
     |_,_,_=>none
    |_,_=>none
   |_,_=>none
  |.builtin .copy=>match c.args.toList,c.argTypes.toList with
   | [x,y],[tS,_]=>match P.underlying tS with
    |some (.slice e)=>((P.info? e).map (·.size)).map λn=>.cpy n x y
    |_=>none
   |_,_=>none
  |.builtin .max=>match c.args.toList with
   | [x,y]=>some (.mxm true x y)
   |_=>none
  |.builtin .min=>match c.args.toList with
   | [x,y]=>some (.mxm false x y)
   |_=>none
  |_=>none
 |.typeAssert x _ T true=>if notIface P T then (zeroOf P T).map (.ta T · x) else none
 |.panic x=>some (.pan x)
 |.makeMap T none=>(mapKey P T).map .mkm
 |.mapUpdate T m k x=>(mapKey P T).map (.mup · m k x)
 |.insert T m k x=>(mapKey P T).map (.mup · m k x)
 |.lookup T m k ok=>match mapKey P T,mapZero P T with
  |some kk,some z=>some (.mlk kk z ok m k)
  |_,_=>none
 |_=>none

inductive Res where
 |val (p:Prop) (s:SV)
 |amb (E:Prop) (s:Bool->SV)                            -- one of two; if true, E
 |new (p:Prop) (s:SV) (Hk:List SObj) (so:SObj)      -- the memory is Hk ++ [so]
 |set (s:SV) (h:Nat) (so:SObj)
 |setp (p:Prop) (s:SV) (h:Nat) (so:SObj)
 |call (f:FuncId) (args:List SV)
 |pan (s:SV)
 |zld (ag:Option Nat) (b off:Nat)                       -- what lies at an address
 |zst (n:Nat) (b off:Nat) (y:SV)
 |yld (l:Nat) (args:List SV)                            -- a round of a loop over a function
 |none

def ldRow(t':Ty)(xs:List t'.den)(t:Ty)(i k:Nat)(ag:Option Nat):Res:=
 if t'=t then
  (if t'.plain=true then (match pick (t'.cells (xs.getD i t'.dflt)) k ag with
   |some s=>.val (i<xs.length) s
   |.none=>(match ag with
    |some m=>if t'.size=1/\k=0/\0<m then .val (i+m<=xs.length) (.dat (.arr m t') ((xs.drop i).take m)) else .none
    |.none=>.none))
   else (match t'.get (xs.getD i t'.dflt) k (ag.getD 1) with
    |some ⟨t2,y⟩=>(match SV.ofT ag t2 y with
     |some s=>.val (i<xs.length) s
     |.none=>.none)
    |.none=>.none))
 else (match xs with
  | [x]=>(match t'.arrAt x k with
   |some ⟨e,N,ys⟩=>if t.size=1 then (match ag with
    |.none=>(match e.cells (ys.getD i e.dflt) with
     | [s]=>.val (i<N) s
     |_=>.none)
    |some m=>if 0<m then .val (i+m<=N) (.dat (.arr m e) ((ys.drop i).take m)) else .none) else .none
   |.none=>.none)
  |_=>.none)
def evLd(H:List SObj)(ag:Option Nat):SV->Res
 |.ptr h off=>match H[h]? with
  |some (.cells _ cs)=>match pick cs off ag with
   |some s=>.val True s
   |.none=>.none
  |_=>.none
 |.iptr t x k=>if t.plain=true then (match pick (t.cells x) k ag with
  |some s=>.val True s
  |.none=>.none) else (match t.get x k (ag.getD 1) with
  |some ⟨t2,y⟩=>(match SV.ofT ag t2 y with
   |some s=>.val True s
   |.none=>.none)
  |.none=>.none)
 |.rptr h t i k=>match H[h]? with
  |some (.row t' xs)=>ldRow t' xs t i k ag
  |some (.cells _ cs)=>(match pick cs (i*t.size+k) ag with
   |some s=>.val True s
   |.none=>.none)
  |_=>.none
 |.raw (.pointer (some ⟨b,off,none⟩))=>.zld ag b off
 |_=>.none

def stRow(h:Nat)(t':Ty)(xs:List t'.den)(t:Ty)(i k n:Nat)(y:SV):Res:=
 if t'=t then
  (if t'.plain=true then (match y with
   |.dat (.arr m e) ys=>if he:e=t'/\k=0/\t'.size=1/\m=n/\0<n then .setp (i+n<=xs.length) .any h (.row t' (splice xs i (cast (by rw [he.1]) ys))) else .none
   |.agg l=>(match rdL t' n l with
    |some (ys,p)=>if k=0/\t'.size=1/\0<n then .setp (p/\i+n<=xs.length) .any h (.row t' (splice xs i ys)) else .none
    |.none=>.none)
   |_=>.none)
   else (match xs with
    | [x]=>if i=0/\k+n<=t'.size then (match t'.putV x k n y with
     |some (x',p)=>.setp p .any h (.row t' [x'])
     |.none=>.none) else .none
    |_=>.none))
 else (match xs with
  | [x]=>(match t'.arrAt x k with
   |some ⟨e,_,_⟩=>if t.size=1/\n=1 then (match y.datum e with
    |some (d,p)=>(match t'.modS x k i e d with
     |some (x',q)=>.setp (p/\q) .any h (.row t' [x'])
     |.none=>.none)
    |.none=>.none) else .none
   |.none=>.none)
  |_=>.none)
def evSt(H:List SObj)(n:Nat)(y:SV):SV->Res
 |.ptr h off=>match H[h]?,y.flat with
  |some (.cells T cs),some ds=>if ds.length=n/\off+n<=cs.length/\ones ds=true then .set .any h (.cells T (splice cs off ds)) else .none
  |_,_=>.none
 |.rptr h t i k=>match H[h]? with
  |some (.row t' xs)=>(match y with
   |.dat t2 z=>stRow h t' xs t i k n (.dat t2 z)
   |y=>if t'=t/\t'.plain=true then (match y.flat with
    |some ds=>if ds.length=n/\k+n<=t'.size/\ones ds=true then (match t'.rd (splice (t'.cells (xs.getD i t'.dflt)) k ds) with
     |some (d,p)=>.setp (i<xs.length/\p) .any h (.row t' (xs.set i d))
     |.none=>.none) else stRow h t' xs t i k n y
    |.none=>.none) else stRow h t' xs t i k n y)
  |_=>.none
 |.raw (.pointer (some ⟨b,off,none⟩))=>.zst n b off y
 |_=>.none

def eqOk(k:Nat):SV->Bool
 |.raw (.pointer .none)=>k==1
 |.raw .nilFunc=>k==2
 |.raw (.bool _)=>k==3
 |_=>false
def evNil(op:BinOp)(x y:SV):Res:=match y with
 |.raw (.slice none 0 0)=>match x with
  |.raw (.slice none 0 0)=>(match op with
   |.eql=>.val True (.raw (.bool true))
   |.neq=>.val True (.raw (.bool false))
   |_=>.none)
  |_=>match x.emp with
   |some E=>(match op with
    |.eql=>.amb E λb=>.raw (.bool b)
    |.neq=>.amb E λb=>.raw (.bool !b)
    |_=>.none)
   |.none=>.none
 |_=>.none
def evEq(op:BinOp)(k:Nat)(x y:SV):Res:=if k=5 then evNil op x y else
 match eqV x y with
 |some r=>if eqOk k y then (match op with
  |.eql=>.val True (.raw (.bool r))
  |.neq=>.val True (.raw (.bool !r))
  |_=>.none) else .none
 |.none=>.none
def evBin(op:BinOp)(k:Nat):SV->SV->Res
 |.raw a,.raw b=>match binV op a b with
  |some (v,p)=>.val p (.raw v)
  |.none=>evEq op k (.raw a) (.raw b)
 |x,y=>evEq op k x y
def lenOk(k:Bool):SV->Bool
 |.raw (.string _)=>k
 |_=> !k
structure Dst where
 h:Nat
 t:Ty
 k:Nat
 i:Nat
 n:Nat
def dstAt:SV->Option Dst
 |.bld h t n=>some ⟨h,t,0,0,n⟩
 |.osl h t off n=>some ⟨h,t,0,off,n⟩
 |.csl h t k i n=>some ⟨h,t,k,i,n⟩
 |_=>none
def slOk:Option Nat->SV->Bool
 |.none,.raw (.string _)=>true
 |some n,.isl t _=>n==t.size
 |some n,.bld _ t _=>n==t.size
 |some n,.osl _ t _ _=>n==t.size
 |some n,.csl _ t _ _ _=>n==t.size
 |some _,.raw (.slice .none 0 0)=>true
 |_,_=>false

def IOp.ev(H:List SObj)(ev:Operand->SV):IOp->Res
 |.mov x=>.val True (ev x)
 |.pick c x y=>match ev c with
  |.raw (.bool b)=>.val True (if b then ev x else ev y)
  |_=>.none
 |.nil x=>if (ev x).nonNil then .val True (ev x) else .none
 |.new T zs=>.new True (.ptr H.length 0) H (.cells T (rawL zs))
 |.arr t m=>.new True (.rptr H.length t 0 0) H (.row t (List.replicate m t.dflt))
 |.sgl t=>.new True (.rptr H.length t 0 0) H (.row t [t.dflt])
 |.ixd n x i=>match ev x,ev i with
  |.dat (.arr m e) xs,.raw (.int _ j)=>if m=n/\e.size=1 then (match e.cells (xs.getD j.toNat e.dflt) with
   | [s]=>.val (0<=j/\j.toNat<n) s
   |_=>.none) else .none
  |.agg l,.raw (.int _ j)=>match Go.Sx.pick l j.toNat Option.none with
   |.some s=>.val (0<=j/\j.toNat<n) s
   |.none=>.none
  |_,_=>.none
 |.s2a m x=>match ev x with
  |.isl t xs=>if t.size=1/\0<m then .val (m<=xs.length) (.iptr (.arr m t) (xs.take m) 0) else .none
  |.fsl t xs=>if t.size=1/\0<m then .val (m<=xs.length) (.iptr (.arr m t) (xs.take m) 0) else .none
  |_=>.none
 |.bdd t pl ps=>match putAll t pl.fn t.dflt True (ps.map λp=>(p.1,ev p.2)) with
  |some (x,p)=>.val p (.dat t x)
  |.none=>.none
 |.cpy sz x y=>match dstAt (ev x) with
  |some ⟨h,t,k,i,n⟩=>if sz=t.size then (match viewOf t H (ev y),H[h]? with
   |some (ys,p),some ob=>(match putPart t k i (ys.take (min ys.length n)) ob with
    |some (ob',q)=>.setp (p/\q/\0<n) (.raw (.int .i64 (min ys.length n:Nat))) h ob'
    |.none=>.none)
   |_,_=>.none) else .none
  |.none=>.none
 |.sla3 m sz x lo hi mx=>match bndV ev lo,bndV ev (some hi),bndV ev (some mx) with
  |some a,some (some b),some (some c)=>match slB m sz (loOf a).toNat (b.toNat- (loOf a).toNat) (ev x) with
   |some s=>.val (0<=loOf a/\loOf a<=b/\b<=c/\c<=(m:Int)) s
   |.none=>.none
  |_,_,_=>.none
 |.bsf T sz n zs ps=>match fillS (PlaceK.arr sz).fn (rawL zs) (ps.map λp=>(p.1,ev p.2)) with
  |some cs=>.new True (.csl H.length (if sz=1 then .u8 else .arr sz .u8) 0 0 n) H (.cells T cs)
  |.none=>.none
 |.ixr n m x i=>match ev x,ev i with
  |.dat (.arr k e) xs,.raw (.int _ j)=>if k=n*m/\e.size=1/\0<m then .val (0<=j/\j.toNat<n) (.dat (.arr m e) ((xs.drop (j.toNat*m)).take m)) else .none
  |.agg l,.raw (.int _ j)=>match Go.Sx.pick l (j.toNat*m) (Option.some m) with
   |.some s=>.val (0<=j/\j.toNat<n) s
   |.none=>.none
  |_,_=>.none
 |.sla m sz x lo hi=>match bndV ev lo,bndV ev hi with
  |some a,some b=>match slB m sz (loOf a).toNat ((hiOf m b).toNat- (loOf a).toNat) (ev x) with
   |some s=>.val (0<=loOf a/\loOf a<=hiOf m b/\hiOf m b<=(m:Int)) s
   |.none=>.none
  |_,_=>.none
 |.box T x=>match ev x with
  |.dat (.arr _ t) ys=>if t.size=1 then .new True (.rptr H.length t 0 0) H (.row t ys) else .none
  |.dat (.prod a b) y=>.new True (.rptr H.length (.prod a b) 0 0) H (.row (.prod a b) [y])
  |s=>match s.flat with
   |some cs=>.new True (.ptr H.length 0) H (.cells T cs)
   |.none=>.none
 |.ld ag x=>evLd H ag (ev x)
 |.ldS ag x=>evLd H ag (ev x)
 |.st n x y=>evSt H n (ev y) (ev x)
 |.bin op k x y=>evBin op k (ev x) (ev y)
 |.eqs neg ks x y=>match ev x,ev y with
  |.agg l,.agg l'=>match eqRs ks l l' with
   |some r=>.val True (.raw (.bool (if neg then !r else r)))
   |.none=>.none
  |_,_=>.none
 |.un op x=>match ev x with
  |.raw a=>match unV op a with
   |some v=>.val True (.raw v)
   |.none=>.none
  |_=>.none
 |.toInt k x=>match ev x with
  |.raw (.int _ n)=>.val True (.raw (.int k (k.wrap n)))
  |_=>.none
 |.toStr true x=>match ev x with
  |.isl .u8 xs=>.val True (.raw (.string (strOf xs)))
  |.raw (.slice Option.none 0 0)=>.val True (.raw (.string (strOf [])))
  |.bld h .u8 n=>match H[h]? with
   |some (.row .u8 xs)=>.val (n<=xs.length/\xs.length<=1125899906842624) (.raw (.string (strOf (xs.take n))))
   |_=>.none
  |.osl h .u8 off n=>match H[h]? with
   |some (.row .u8 xs)=>.val (off+n<=xs.length/\xs.length<=1125899906842624) (.raw (.string (strOf ((xs.drop off).take n))))
   |_=>.none
  |_=>.none
 |.toStr false x=>match ev x with
  |.raw (.string s)=>.val True (.raw (.string s))
  |_=>.none
 |.fa off x=>match (ev x).add off with
  |some s=>.val True s
  |.none=>.none
 |.fld off ag x=>match ev x with
  |.agg l=>match Sx.pick l off ag with
   |some s=>.val True s
   |.none=>.none
  |.dat t z=>match t.get z off (ag.getD 1) with
   |some ⟨t2,y⟩=>(match SV.ofT ag t2 y with
    |some s=>.val True s
    |.none=>.none)
   |.none=>.none
  |_=>.none
 |.ia sz x i=>match ev i with
  |.raw (.int _ n)=>match (ev x).wk with
   |.isl t xs=>if sz=t.size then .val (0<=n/\n.toNat<xs.length) (.iptr t (xs.getD n.toNat t.dflt) 0) else .none
   |.bld h t m=>if sz=t.size then .val (0<=n/\n.toNat<m) (.rptr h t (0+n.toNat) 0) else .none
   |.osl h t off m=>if sz=t.size then .val (0<=n/\n.toNat<m) (.rptr h t (off+n.toNat) 0) else .none
   |.csl h t k off m=>if sz=t.size then .val (0<=n/\n.toNat<m) (.rptr h t (off+n.toNat) k) else .none
   |.raw (.slice (some ⟨b,off,none⟩) m _)=>.val (0<=n/\n.toNat<m) (.raw (.pointer (some ⟨b,off+n.toNat*sz,none⟩)))
   |_=>.none
  |_=>.none
 |.iaa m sz x i=>match ev i with
  |.raw (.int _ n)=>match addB m sz n.toNat (ev x) with
   |some s=>.val (0<=n/\n.toNat<m) s
   |.none=>.none
  |_=>.none
 |.ta T z x=>match ev x with
  |.iface T' y=>if T'=T then .val True (.tup [y,.raw (.bool true)]) else .val True (.tup [.ofV z,.raw (.bool false)])
  |.raw .nilIface=>.val True (.tup [.ofV z,.raw (.bool false)])
  |_=>.none
 |.ixs x i=>match ev x,ev i with
  |.raw (.string s),.raw (.int _ n)=>.val (0<=n/\n.toNat<s.size) (.raw (.int .u8 (s.data.toList.getD n.toNat 0).toNat))
  |_,_=>.none
 |.len k x=>match (ev x).wk.len with
  |some n=>if lenOk k (ev x).wk then .val True (.raw (.int .i64 n)) else .none
  |.none=>.none
 |.ext i x=>match ev x with
  |.tup l=>match l[i]? with
   |some s=>.val True s
   |.none=>.none
  |_=>.none
 |.mkf f fi ca=>.val True (.fn f (fi.map ev) (ca.map ev))
 |.mke T nm=>.val True (.raw (.func (.methodOf T nm) #[] #[]))
 |.apz t by_ x y=>match ev x,ev y with
  |.fsl t' xs,.raw (.int .i64 m)=>if t'=t then .val (0<=m/\xs.length+m.toNat<=1125899906842624/\(xs.length+m.toNat)*by_<=140737488355328) (.isl t' (xs++List.replicate m.toNat t'.dflt)) else .none
  |_,_=>.none
 |.mki T x=>.val True (.iface T (ev x))
 |.bld zs pl ps=>match fillS pl.fn (rawL zs) (ps.map λp=>(p.1,ev p.2)) with
  |some cs=>.val True (.agg cs)
  |.none=>.none
 |.bsl t n sz zs ps=>match fillS (PlaceK.arr sz).fn (rawL zs) (ps.map λp=>(p.1,ev p.2)) with
  |some cs=>match rdL t n cs with
   |some (xs,p)=>.new p (.bld H.length t n) H (.row t xs)
   |.none=>.none
  |.none=>.none
 |.app t by_ x y=>match ev x with
  |.fsl t' xs=>match srcS t' H (ev y) with
   |some (ys,p)=>if t'=t then .val (p/\xs.length+ys.length<=1125899906842624/\(xs.length+ys.length)*by_<=140737488355328) (.isl t' (xs++ys)) else .none
   |_=>.none
  |_=>match dstOf t H (ev x),srcS t H (ev y) with
   |some (Hk,xs,n),some (ys,p)=>.new (n=xs.length/\p/\xs.length+ys.length<=1125899906842624/\(xs.length+ys.length)*by_<=140737488355328) (.bld H.length t (xs.length+ys.length)) Hk (.row t (xs++ys))
   |_,_=>.none
 |.sl k x lo hi=>match bndV ev lo,bndV ev hi with
  |some a,some b=>match sliceTo (loOf a).toNat (hiOf (lenOfS (ev x)) b).toNat (ev x) with
   |some s=>if slOk k (ev x) then .val (0<=loOf a/\loOf a<=hiOf (lenOfS (ev x)) b/\hiOf (lenOfS (ev x)) b<=(lenOfS (ev x):Int)) s else .none
   |.none=>.none
  |_,_=>.none
 |.call f args=>match ev f with
  |.fn g fi ca=>.call g (fi++args.map (λx=>(ev x).wk)++ca)
  |.raw v=>match isYld v with
   |some l=>.yld l (args.map (λx=>(ev x).wk))
   |_=>match isFn v with
    |some (g,fi,ca)=>.call g (rawL fi++args.map (λx=>(ev x).wk)++rawL ca)
    |_=>.none
  |_=>.none
 |.mxm b x y=>match ev x,ev y with
  |.raw (.int k m),.raw (.int _ n)=>.val True (.raw (.int k (mxV b m n)))
  |_,_=>.none
 |.pan x=>match ev x with
  |.iface T s=>.pan (.iface T s)
  |_=>.none
 |.mkm kk=>.new True (.mp H.length) H (.map kk [] [])
 |.mup kk m k x=>match ev m,ev k with
  |.mp h,.raw kv=>match H[h]? with
   |some (.map kk' ks vs)=>if kk'=kk/\keyIs kk kv=true then .set .any h (.map kk (mput ks vs kv (ev x).norm).1 (mput ks vs kv (ev x).norm).2) else .none
   |_=>.none
  |_,_=>.none
 |.mlk kk z ok m k=>match mapOf H (ev m),ev k with
  |some (kk',ks,vs),.raw kv=>if kk'=kk/\keyIs kk kv=true then .val True (mres ok (mget ks vs z kv)) else .none
  |_,_=>.none
 |.mln x=>match mapOf H (ev x) with
  |some (_,ks,_)=>.val True (.raw (.int .i64 ks.length))
  |.none=>.none
 |.mks t by_ x y=>match ev x,ev y with
  |.raw (.int _ n),.raw (.int _ c)=>.new (0<=n/\n<=c/\c.toNat*by_<=140737488355328/\c<=1125899906842624) (.bld H.length t n.toNat) H (.row t (List.replicate n.toNat t.dflt))
  |_,_=>.none
 |.toB x=>match ev x with
  |.raw (.string s)=>.new True (.bld H.length .u8 s.size) H (.row .u8 (bytesOf s))
  |_=>.none
 |.sl3 k f x lo hi mx=>match bndV ev lo,bndV ev (some hi),bndV ev (some mx) with
  |some a,some (some b),some (some m)=>match sliceTo (loOf a).toNat b.toNat (ev x) with
   |some s=>if slOk (some k) (ev x) then .val (0<=loOf a/\loOf a<=b/\b<=m/\m<=(lenOfS (ev x):Int)) (fullS (decide (b=m)) s) else .none
   |.none=>.none
  |_,_,_=>.none
section

variable [Ghost] {P:Program} {o:Oper} {ev:Operand->SV} {H:List SObj} {K:Out->List SObj->Prop}

def Res.to(P:Program)(H:List SObj)(K:Out->List SObj->Prop):Res->Prop
 |.val p s=>p/\K (.ret s) H
 |.amb E s=>∀b:Bool,(b=true->E)->K (.ret (s b)) H
 |.new p s Hk so=>p/\K (.ret s) (Hk++ [so])
 |.set s h so=>K (.ret s) (H.set h so)
 |.setp p s h so=>p/\K (.ret s) (H.set h so)
 |.call f args=>enters P f=true/\VCallG P f args H K
 |.pan s=>K (.pan s) H
 |.zld ag b off=>∀E C,Wd C H->Ghost.inv E C H->∃s,ZLd C ag b off s/\K (.ret s) H
 |.zst n b off y=>∃ds,y.flat=some ds/\ds.length=n/\ones ds=true/\(∀E C us,Wd C H->Ghost.inv E C H->SV.denL C ds us->ZSt E C H b off us)/\K (.ret .any) H
 |.yld l args=>VYld P l args H K
 |.none=>False

variable {ag:Option Nat}
theorem z2M{T:TypeId}{h i k:Nat}{t':Ty}{xs:List t'.den}(c:o.op= .load T x)(q:aggOf P T=some ag)(f:ev x= .rptr h t i k)(r:H[h]?=some (.row t' xs))(a:(ldRow t' xs t i k ag).to P H K):OpV P o ev H K:=by
 unfold ldRow at a;split at a
 . rename_i e;subst e;split at a
   . split at a
     . rename_i hp;obtain ⟨d,h2⟩:=a;grind [z0l]
     split at a
     . split at a
       . rename_i A;obtain ⟨d,rfl,u⟩:=A;exact q9r c q f r d u a.1 a.2
       exact a.elim
     exact a.elim
   split at a
   . split at a
     . exact z1H c q f r a.1 (by assumption) (by assumption) a.2
     exact a.elim
   exact a.elim
 split at a
 . split at a
   . split at a
     . rename_i d;split at a
       . split at a
         . exact q5V c q f d r (by assumption) (.inl ⟨rfl,a.1,by assumption⟩) a.2
         exact a.elim
       split at a
       . exact q5V c q f d r (by assumption) (.inr ⟨_,rfl,by assumption,a.1,rfl⟩) a.2
       exact a.elim
     exact a.elim
   exact a.elim
 exact a.elim
variable {t:TypeId}
theorem z9N(a:o.op= .load t x)(d:aggOf P t=some ag)(h:(evLd H ag (ev x)).to P H K):OpV P o ev H K:=by
 generalize c:ev x=s at h;unfold evLd at h;split at h
 . split at h
   . split at h
     . exact z1B a d c (by assumption) (by assumption) h.2
     exact h.elim
   exact h.elim
 . split at h
   . split at h
     . exact q9Z a d c (by assumption) h.2
     exact h.elim
   split at h
   . split at h
     . exact q9T a d c (by assumption) (by assumption) h.2
     exact h.elim
   exact h.elim
 . split at h
   . grind [z2M]
   . split at h
     . exact q8l a d c (by assumption) (by assumption) h.2
     exact h.elim
   exact h.elim
 . exact j5j a d c h
 exact h.elim

variable {n:Nat}
theorem q4q{T:TypeId}{y:Operand}{h i k:Nat}{t t':Ty}{xs:List t'.den}(c:o.op= .store T x y)(A:(P.info? T).map (·.size)=some n)(u:ev x= .rptr h t i k)(D:H[h]?=some (.row t' xs))(a:(stRow h t' xs t i k n (ev y)).to P H K):OpV P o ev H K:=by
 generalize B:ev y=sy at a;unfold stRow at a;split at a
 . rename_i e;subst e;split at a
   . split at a
     . split at a
       . rename_i q;obtain ⟨rfl,rfl,f,rfl,E⟩:=q;exact q4i c A u (λ_ _ h=>by rw [B] at h;exact h) D f E a.1 (λ_=>by simpa using a.2)
       exact a.elim
     . split at a
       . rename_i F;split at a
         . rename_i q;obtain ⟨rfl,f,E⟩:=q
           exact q4i c A u (λC v h=>by
            rw [B,SV.den] at h;obtain ⟨us,rfl,r⟩:=h;obtain ⟨g1,g2⟩:=q9X _ _ _ _ _ F a.1.1 r;rw [SV.den];refine ⟨us,rfl,?_⟩
            grind [q3r]) D f E a.1.2 (λ_=>a.2)
         exact a.elim
       exact a.elim
     exact a.elim
   split at a
   . split at a
     . rename_i q;obtain ⟨rfl,q⟩:=q;split at a
       . rename_i d;rw [<-B] at d;exact z0d c A u D d a.1 q a.2
       exact a.elim
     exact a.elim
   exact a.elim
 split at a
 . split at a
   . split at a
     . rename_i f;obtain ⟨f,rfl⟩:=f;split at a
       . rename_i r;rw [<-B] at r;split at a
         . exact q9f c A u f D r a.1.1 (by assumption) a.1.2 a.2
         exact a.elim
       exact a.elim
     exact a.elim
   exact a.elim
 exact a.elim
theorem z9C{y:Operand}(a:o.op= .store t x y)(A:(P.info? t).map (·.size)=some n)(h:(evSt H n (ev y) (ev x)).to P H K):OpV P o ev H K:=by
 generalize u:ev x=s at h;unfold evSt at h;split at h
 . split at h
   . split at h
     . rename_i c;exact q9y a A u (by assumption) (by assumption) c.1 c.2.1 c.2.2 h
     exact h.elim
   exact h.elim
 . split at h
   . rename_i B;split at h
     . grind [q4q]
     rename_i hy;split at h
     . rename_i d;obtain ⟨rfl,_⟩:=d;split at h
       . rename_i r;split at h
         . rename_i c;obtain ⟨q,e,f⟩:=c;split at h
           . exact q8j a A u B h.1.1 r q e f (by assumption) h.1.2 h.2
           exact h.elim
         grind [q4q]
       exact h.elim
     grind [q4q]
   exact h.elim
 . obtain ⟨ds,r,hn,h1,hz,hk⟩:=h;grind [j6f]
 exact h.elim

theorem j2R{s:SV}(h:eqOk (eqK P t) s=true):eqKind P t s=true:=by
 have d:eqK P t=1->kPtr P t=true:=λe=>by grind [eqK]
 have c:eqK P t=2->kFunc P t=true:=λe=>by grind [eqK]
 have a:eqK P t=3->kBool P t=true:=λe=>by grind [eqK]
 unfold eqOk at h;split at h
 . exact d (by simpa using h)
 . exact c (by simpa using h)
 . exact a (by simpa using h)
 cases h

variable {op:BinOp}
theorem z4O{t':TypeId}{y:Operand}(a:o.op= .binOp op t x y t')(h:(evEq op (eqK P t) (ev x) (ev y)).to P H K):OpV P o ev H K:=by
 unfold evEq at h;split at h
 . rename_i hk5;have d:kSlice P t=true:=by grind [eqK]
   unfold evNil at h;split at h
   . rename_i c;split at h
     . rename_i A;split at h
       . exact q8J a (.inl rfl) d A c (by simpa using h.2)
       . exact q8J a (.inr rfl) d A c (by simpa using h.2)
       exact h.elim
     split at h
     . rename_i E f;split at h
       . exact z4E a (.inl rfl) d f c (λb e=>by simpa using h b e)
       . exact z4E a (.inr rfl) d f c (λb e=>by simpa using h b e)
       exact h.elim
     exact h.elim
   exact h.elim
 split at h
 . rename_i r u;split at h
   . rename_i q;split at h
     . exact z7I a (.inl rfl) u (j2R q) (by simpa using h.2)
     . exact z7I a (.inr rfl) u (j2R q) (by simpa using h.2)
     exact h.elim
   exact h.elim
 exact h.elim

theorem z8L{t':TypeId}{y:Operand}(a:o.op= .binOp op t x y t')(h:(evBin op (eqK P t) (ev x) (ev y)).to P H K):OpV P o ev H K:=by
 generalize d:ev x=sx at h;generalize c:ev y=sy at h;unfold evBin at h;split at h
 . split at h
   . exact j5V a d c (by assumption) h.1 h.2
   grind [z4O]
 grind [z4O]

theorem OpV.wk(h:OpV P o (λy=>(ev y).wk) H K):OpV P o ev H K:=
 λE C r n a next Q hw hg hv h1 h2=>h E C r n a next Q hw hg (λx hx=>j0J _ _ _ (hv x hx)) h1 h2
theorem j6D{s:SV}{v:Value}(h:s= .raw v):s.wk= .raw v:=by rw [h];rfl
theorem z1l{c:Call}{k:Bool}(d:o.op= .call c)(r:c.callee= .builtin .len)(q:c.args= #[x])(a:c.argTypes= #[t])(hk:(k=true/\P.underlying t=some .string)\/(k=false/\∃e,P.underlying t=some (.slice e)))
 (h:((IOp.len k x).ev H ev).to P H K):OpV P o ev H K:=by
 refine OpV.wk ?_;simp only [IOp.ev] at h;split at h
 . rename_i n u;split at h
   . rename_i f;refine j3W d r q a u ?_ h.2;unfold lenKind;unfold lenOk at f;grind
   exact h.elim
 exact h.elim

theorem j0j{e:TypeId}{i:Operand}{sz:Nat}(a:o.op= .indexAddr t x i)(f:P.underlying t=some (.slice e))(q:(P.info? e).map (·.size)=some sz)(h:((IOp.ia sz x i).ev H ev).to P H K):OpV P o ev H K:=by
 refine OpV.wk ?_;simp only [IOp.ev] at h;split at h
 . rename_i n c;have c:=j6D c;split at h
   . split at h
     . rename_i d;subst d;exact q5w a f q (by assumption) c h.1.1 h.1.2 (λ_=>h.2)
     exact h.elim
   . split at h
     . rename_i d;subst d;exact q3a a f q (.inr ⟨by assumption,rfl⟩) c h.1.1 h.1.2 h.2
     exact h.elim
   . split at h
     . rename_i d;subst d;exact q3a a f q (.inl (by assumption)) c h.1.1 h.1.2 h.2
     exact h.elim
   . split at h
     . rename_i d;subst d;exact q5u a f q (by assumption) c h.1.1 h.1.2 h.2
     exact h.elim
   . exact q5K a f q (by assumption) c h.1.1 h.1.2 h.2
   exact h.elim
 exact h.elim

theorem z3P{T:TypeId}{q d:Option Operand}{k:Option Nat}(f:o.op= .slice T x q d none)(r:(k=none/\P.underlying T=some .string)\/(∃n e,k=some n/\P.underlying T=some (.slice e)/\(P.info? e).map (·.size)=some n))
 (h:((IOp.sl k x q d).ev H ev).to P H K):OpV P o ev H K:=by
 simp only [IOp.ev] at h;split at h
 . split at h
   . split at h
     . rename_i hs a;refine z8M f ?_ (by assumption) (by assumption) h.1.1 h.1.2.1 h.1.2.2 (by assumption) h.2;unfold slOk at a;unfold sliceKind;split at a
       . simp_all
       . grind
       . grind
       . grind
       . grind
       . rename_i A;rcases r with ⟨c,_⟩ | ⟨n,e,c,u,hn⟩
         . cases c
         cases c;rw [A];simp only [u];cases d:P.info? e with
         |none=>simp_all
         |some i=>rfl
       cases a
     exact h.elim
   exact h.elim
 exact h.elim
theorem z8x{T e:TypeId}{q u:Operand}{B:Option Operand}{f:Bool}(A:o.op= .slice T x B (some q) (some u))(F:P.underlying T=some (.slice e))(hn:(P.info? e).map (·.size)=some n)(_:f=true->q=u)
 (h:((IOp.sl3 n f x B q u).ev H ev).to P H K):OpV P o ev H K:=by
 simp only [IOp.ev] at h;split at h
 . rename_i a b m E D G;split at h
   . split at h
     . rename_i hs d;have c:sliceKind P T (ev x)=true/\∀str,ev x≠ .raw (.string str):=by
        unfold slOk at d;unfold sliceKind;split at d
        . simp_all
        . simp_all
        . simp_all
        . simp_all
        . simp_all
        . rename_i e1 J;rw [J];refine ⟨?_,λ_ h=>by cases h⟩;simp only [F];cases q:P.info? e with
          |none=>simp_all
          |some i=>rfl
        cases d
       exact z5D A c.1 E D G h.1.1 h.1.2.1 h.1.2.2.1 h.1.2.2.2 (λr=>of_decide_eq_true r) c.2 (by assumption) h.2
     exact h.elim
   exact h.elim
 exact h.elim
end
section

variable [Ghost] {P:Program} {o:Oper} {ev:Operand->SV} {H:List SObj} {K:Out->List SObj->Prop}

theorem z1J{T:TypeId}{m k:Operand}(a:o.op= .mapUpdate T m k x\/o.op= .insert T m k x)(f:mapKey P T=some kk)(h:((IOp.mup kk m k x).ev H ev).to P H K):OpV P o ev H K:=by
 obtain ⟨kt,et,q,e,_⟩:=z1F f;simp only [IOp.ev] at h;split at h
 . split at h
   . split at h
     . rename_i d;obtain ⟨rfl,c⟩:=d;exact q9z a q e (by assumption) (by assumption) c (by assumption) h
     exact h.elim
   exact h.elim
 exact h.elim

theorem z9l{s:SV}{h k i n:Nat}(a:dstAt s=some ⟨h,t,k,i,n⟩)(h0:0<n):∀ (C:Cx) (v:Value),s.den C v->∃b c,C.ρ h=some b/\v= .slice (some ⟨b,i*t.size+k,none⟩) n c:=by
 intro C v d;unfold dstAt at a;split at a<;>cases a<;>rw [SV.den] at d
 all_goals grind
theorem q2g{i:IOp}(a:compOp P o.op=some i)(h:(i.ev H ev).to P H K):OpV P o ev H K:=by
 cases q:o.op with
 |move x=>rw [q] at a;cases a;exact z3X (.inl q) h.2
 |assign x=>rw [q] at a;cases a;exact z3X (.inr q) h.2
 |pick c x y=>
  rw [q] at a;cases a;simp only [IOp.ev] at h;split at h
  . exact j0o q (by assumption) h.2
  exact h.elim
 |nilCheck x=>
  rw [q] at a;cases a;simp only [IOp.ev] at h;split at h
  . exact z1t q (by assumption) h.2
  exact h.elim
 |alloc T=>
  rw [q] at a;simp only [compOp] at a;split at a
  . rename_i t m B;cases a;obtain ⟨zs,G,h1,U,rfl⟩:=j1S B;exact j4x q G h1 U h.2
  split at a
  . rename_i J;cases a;obtain ⟨zs,G,U⟩:=j5C J;exact z5A q G U h.2
  simp only [Al] at a;obtain ⟨zs,G,rfl⟩:=a;exact z7K q G h.2
 |box T x=>
  rw [q] at a;cases a;simp only [IOp.ev] at h;split at h
  . split at h
    . exact j0U q (by assumption) (by assumption) h.2
    exact h.elim
  . exact j1v q (by assumption) h.2
  split at h
  . exact j5z q (by assumption) h.2
  exact h.elim
 |load t x=>rw [q] at a;simp only [compOp,Al] at a;obtain ⟨ag,B,rfl⟩:=a;exact z9N q B h
 |store t x y=>rw [q] at a;simp only [compOp,Al] at a;obtain ⟨n,⟨i,F,rfl⟩,rfl⟩:=a;exact z9C q (by simp [F]) h
 |binOp op t x y t'=>
  rw [q] at a;simp only [compOp] at a;split at a
  . rename_i ks J;split at a
    . cases a;simp only [IOp.ev] at h;split at h
      . split at h
        . exact z7O q (.inl rfl) J (by assumption) (by assumption) (by assumption) (by simpa using h.2)
        exact h.elim
      exact h.elim
    . cases a;simp only [IOp.ev] at h;split at h
      . split at h
        . exact z7O q (.inr rfl) J (by assumption) (by assumption) (by assumption) (by simpa using h.2)
        exact h.elim
      exact h.elim
    cases a
  cases a;exact z8L q h
 |unOp op t x=>
  rw [q] at a;cases a;simp only [IOp.ev] at h;split at h
  . split at h
    . exact j8j q (by assumption) (by assumption) h.2
    exact h.elim
  exact h.elim
 |convert s d x=>
  rw [q] at a;simp only [compOp] at a;split at a
  . cases a;simp only [IOp.ev] at h;split at h
    . exact z1e q (by assumption) (by assumption) (by assumption) h.2
    exact h.elim
  . split at a
    . cases a;simp only [IOp.ev] at h;split at h
      . exact q8m q (by assumption) (by assumption) (by assumption) (by assumption) h.2
      . exact q7h q (by assumption) (by assumption) (by assumption) (by assumption) h.2
      . split at h
        . exact q7G q (by assumption) (by assumption) (by assumption) (by assumption) (by assumption) h.1.1 h.1.2 h.2
        exact h.elim
      . split at h
        . exact q6R q (by assumption) (by assumption) (by assumption) (by assumption) (by assumption) h.1.1 h.1.2 h.2
        exact h.elim
      exact h.elim
    cases a
  . cases a;simp only [IOp.ev] at h;split at h
    . exact z1u q (by assumption) (by assumption) (by assumption) h.2
    exact h.elim
  . split at a
    . cases a;simp only [IOp.ev] at h;split at h
      . exact z1S q (by assumption) (by assumption) (by assumption) (by assumption) h.2
      exact h.elim
    cases a
  cases a
 |fieldAddr t x f=>
  rw [q] at a;simp only [compOp] at a;split at a
  . split at a
    . cases a;simp only [IOp.ev] at h;split at h
      . exact q8Z q (by assumption) (by assumption) (by assumption) h.2
      exact h.elim
    cases a
  cases a
 |field t x f=>
  rw [q] at a;simp only [compOp] at a;split at a
  . simp only [Al] at a;obtain ⟨ag,B,rfl⟩:=a;simp only [IOp.ev] at h;split at h
    . split at h
      . exact z9b q (by assumption) B (by assumption) (by assumption) h.2
      exact h.elim
    . split at h
      . split at h
        . exact z5P q (by assumption) B (by assumption) (by assumption) (by assumption) h.2
        exact h.elim
      exact h.elim
    exact h.elim
  cases a
 |indexAddr t x ix=>
  rw [q] at a;simp only [compOp] at a;split at a
  . simp only [Al] at a;obtain ⟨n,⟨i,F,rfl⟩,rfl⟩:=a;exact j0j q (by assumption) (by simp [F]) h
  . simp only [Al] at a;obtain ⟨n,⟨i,F,rfl⟩,rfl⟩:=a;simp only [IOp.ev] at h;split at h
    . split at h
      . exact q4M (sz:=i.size) q (by assumption) (by simp [F]) (by assumption) (by assumption) h.1.1 h.1.2 h.2
      exact h.elim
    exact h.elim
  cases a
 |typeAssert x xT T ok=>
  rw [q] at a;cases ok with
  |false=>simp [compOp] at a
  |true=>
   simp only [compOp] at a;split at a
   . rename_i S;simp only [Al] at a;obtain ⟨z,G,rfl⟩:=a;simp only [IOp.ev] at h;split at h
     . split at h
       . rename_i T' y O e;subst e;exact z5K q S O h.2
       rename_i T' y O e;exact z1M q S G (.inr ⟨T',y,e,O⟩) h.2
     . rename_i O;exact z1M q S G (.inl O) h.2
     exact h.elim
   cases a
 |index t x ix=>
  rw [q] at a;simp only [compOp] at a;split at a
  . cases a;simp only [IOp.ev] at h;split at h
    . exact z0c q (by assumption) (by assumption) (by assumption) h.1.1 h.1.2 h.2
    exact h.elim
  . split at a
    . rename_i L A;cases a;simp only [IOp.ev] at h;split at h
      . split at h
        . rename_i S;obtain ⟨rfl,he⟩:=S;split at h
          . exact z5W q (by assumption) L A he (by assumption) (by assumption) h.1.1 h.1.2 (by assumption) h.2
          exact h.elim
        exact h.elim
      . split at h
        . exact q8U q (by assumption) L A (by assumption) (by assumption) h.1.1 h.1.2 (by simp_all) h.2
        exact h.elim
      exact h.elim
    . split at a
      . rename_i L A hm;subst hm;cases a;simp only [IOp.ev] at h;split at h
        . split at h
          . rename_i S;obtain ⟨rfl,he,_⟩:=S;exact z5i q (by assumption) L A he (by assumption) (by assumption) h.1.1 h.1.2 h.2
          exact h.elim
        . split at h
          . exact q8U q (by assumption) L A (by assumption) (by assumption) h.1.1 h.1.2 (by assumption) h.2
          exact h.elim
        exact h.elim
      cases a
    cases a
  cases a
 |sliceToArrayPointer T x=>
  rw [q] at a;simp only [compOp] at a;split at a
  . cases a;simp only [IOp.ev] at h;split at h
    . rename_i Z;split at h
      . rename_i J;exact z8H q (by assumption) (λ_ _ g=>by simp_all) J.1 h.1 J.2 h.2
      exact h.elim
    . rename_i Z;split at h
      . rename_i J;exact z8H q (by assumption) (λ_ _ g=>by grind [SV.den]) J.1 h.1 J.2 h.2
      exact h.elim
    exact h.elim
  cases a
 |extract x n=>
  rw [q] at a;cases a;simp only [IOp.ev] at h;split at h
  . split at h
    . exact z2V q (by assumption) (by assumption) h.2
    exact h.elim
  exact h.elim
 |makeFunc fn fi ca=>
  rw [q] at a;cases fn with
  |func f=>cases a;exact z1c q h.2
  |methodOf T nm=>
   simp only [compOp] at a;split at a
   . rename_i u;cases a;exact z0F q u.1 u.2 h.2
   cases a
  |_=>simp [compOp] at a
 |makeInterface T x=>
  rw [q] at a;simp only [compOp] at a;split at a
  . cases a;exact q5P q (by assumption) h.2
  cases a
 |build t ps=>
  rw [q] at a;simp only [compOp] at a;split at a
  . rename_i J;simp only [Al] at a;obtain ⟨pl,Y,rfl⟩:=a;obtain ⟨zs,G,U⟩:=j3k J;simp only [IOp.ev] at h;split at h
    . exact z5z q G U Y (by assumption) h.1 h.2
    exact h.elim
  split at a
  . cases a;simp only [IOp.ev] at h;split at h
    . exact z6N q (by assumption) (by assumption) (by assumption) h.2
    exact h.elim
  cases a
 |buildSlice t n ps=>
  rw [q] at a;simp only [compOp] at a;split at a
  . split at a
    . cases a;simp only [IOp.ev] at h;split at h
      . split at h
        . exact q8n q (by assumption) (by assumption) (by assumption) (by assumption) (by assumption) h.1 h.2
        exact h.elim
      exact h.elim
    . cases a;simp only [IOp.ev] at h;split at h
      . exact j4r q (by assumption) (by assumption) (by assumption) (by assumption) h.2
      exact h.elim
    cases a
  cases a
 |slice t x lo F mx=>
  rw [q] at a;cases mx with
  |some m=>
   cases F with
   |none=>simp [compOp] at a
   |some F=>
    simp only [compOp] at a;split at a
    . simp only [Al] at a;obtain ⟨n,⟨i,F,rfl⟩,rfl⟩:=a;exact z8x q (by assumption) (by simp [F]) (λhf=>z5a (by simp_all)) h
    . simp only [Al] at a;obtain ⟨n,⟨i,F,rfl⟩,rfl⟩:=a;simp only [IOp.ev] at h;split at h
      . split at h
        . exact z3r (sz:=i.size) q (by assumption) (by simp [F]) (by assumption) (by assumption) (by assumption) h.1.1 h.1.2.1 h.1.2.2.1 h.1.2.2.2 (by assumption) h.2
        exact h.elim
      exact h.elim
    cases a
  |none=>
   simp only [compOp] at a;split at a
   . cases a;exact z3P q (.inl ⟨rfl,by assumption⟩) h
   . simp only [Al] at a;obtain ⟨n,⟨i,F,rfl⟩,rfl⟩:=a;exact z3P q (.inr ⟨_,_,rfl,by assumption,by simp [F]⟩) h
   . simp only [Al] at a;obtain ⟨n,⟨i,F,rfl⟩,rfl⟩:=a;simp only [IOp.ev] at h;split at h
     . split at h
       . exact z5p (sz:=i.size) q (by assumption) (by simp [F]) (by assumption) (by assumption) h.1.1 h.1.2.1 h.1.2.2 (by assumption) h.2
       exact h.elim
     exact h.elim
   cases a
 |panic x=>
  rw [q] at a;cases a;simp only [IOp.ev] at h;split at h
  . exact z7h q (by assumption) h
  exact h.elim
 |call c=>
  rw [q] at a;simp only [compOp] at a;split at a
  . cases a;simp only [IOp.ev] at h;split at h
    . rename_i f args c g fi ca W;refine OpV.weaken (ev':=λx=>(ev x).wk) ?_ (λx=>j0J _);exact j2u q (by assumption) (by simp only [W];rfl) h.1 h.2
    . rename_i v W;split at h
      . rename_i R;refine OpV.weaken (ev':=λx=>(ev x).wk) ?_ (λx=>j0J _);exact j4t q (by assumption) (by simp only [W];rfl) R h
      split at h
      . rename_i R;refine OpV.weaken (ev':=λx=>(ev x).wk) ?_ (λx=>j0J _);exact z7p q (by assumption) (by simp only [W];rfl) R h.1 h.2
      exact h.elim
    exact h.elim
  . split at a
    . rename_i x t D Q;have B:c.args= #[x]:=by grind
      have E:c.argTypes= #[t]:=by grind
      split at a
      . cases a;exact z1l q (by assumption) B E (.inl ⟨rfl,by assumption⟩) h
      . cases a;exact z1l q (by assumption) B E (.inr ⟨rfl,_,by assumption⟩) h
      . cases a;simp only [IOp.ev] at h;split at h
        . exact z2k q (by assumption) B E (by assumption) (by assumption) h.2
        exact h.elim
      cases a
    cases a
  . split at a
    . rename_i x y tS tX D Q;have B:c.args= #[x,y]:=by grind
      have E:c.argTypes= #[tS,tX]:=by grind
      split at a
      . split at a
        . split at a
          . split at a
            . rename_i G A;cases a;simp only [IOp.ev] at h;split at h
              . split at h
                . split at h
                  . rename_i e2;subst e2;exact q8k q (by assumption) B E (by assumption) (by assumption) (by assumption) A.1 (by assumption) (by assumption) (by assumption) h.1.1 h.1.2.1 h.1.2.2 h.2
                  exact h.elim
                exact h.elim
              split at h
              . exact z5U q (by assumption) B E (by assumption) (by assumption) (by assumption) A.1 (by assumption) A.2 (by assumption) h.1.1 (by assumption) h.1.2.1 h.1.2.2.1 h.1.2.2.2 h.2
              exact h.elim
            cases a
          cases a
        cases a
      . split at a
        . split at a
          . split at a
            . rename_i G u;cases a;simp only [IOp.ev] at h;split at h
              . split at h
                . rename_i e2;subst e2;exact j1R q (by assumption) B E (by assumption) (by assumption) (by assumption) u.1 (by assumption) u.2.1 u.2.2.1 u.2.2.2 (by assumption) (by assumption) h.1.1 h.1.2.1 h.1.2.2 h.2
                exact h.elim
              exact h.elim
            cases a
          cases a
        cases a
      cases a
    cases a
  . split at a
    . rename_i x y tS tX D Q;have B:c.args= #[x,y]:=by grind
      have E:c.argTypes= #[tS,tX]:=by grind
      split at a
      . simp only [Al] at a;obtain ⟨n,⟨i,F,rfl⟩,rfl⟩:=a;simp only [IOp.ev] at h;split at h
        . rename_i V;split at h
          . rename_i A;split at h
            . split at h
              . obtain ⟨⟨hp,hq,h0⟩,hk⟩:=h;exact j1D q (by assumption) B E (by assumption) (by grind) (z9l V h0) (by assumption) hp rfl (by assumption) (by assumption) hq hk
              exact h.elim
            exact h.elim
          exact h.elim
        exact h.elim
      cases a
    cases a
  . split at a
    . rename_i x y D;have B:c.args= #[x,y]:=by grind
      cases a;simp only [IOp.ev] at h;split at h
      . rename_i O R;exact j2Z (b:=true) q (by assumption) B O R h.2
      exact h.elim
    cases a
  . split at a
    . rename_i x y D;have B:c.args= #[x,y]:=by grind
      cases a;simp only [IOp.ev] at h;split at h
      . rename_i O R;exact j2Z (b:=false) q (by assumption) B O R h.2
      exact h.elim
    cases a
  cases a
 |makeSlice T x y=>
  rw [q] at a;simp only [compOp] at a;split at a
  . split at a
    . split at a
      . split at a
        . rename_i G u;cases a;simp only [IOp.ev] at h;split at h
          . exact q9o q (by assumption) (by assumption) G u.1 u.2.1 u.2.2.1 (by assumption) (by assumption) h.1.1 h.1.2.1 h.1.2.2.1 h.1.2.2.2 u.2.2.2 h.2
          exact h.elim
        cases a
      cases a
    cases a
  cases a
 |makeMap T r=>
  rw [q] at a;cases r with
  |some r=>simp [compOp] at a
  |none=>simp only [compOp,Al] at a;obtain ⟨kk,N,rfl⟩:=a;exact z2d kk q h.2
 |mapUpdate T m k x=>rw [q] at a;simp only [compOp,Al] at a;obtain ⟨kk,N,rfl⟩:=a;grind [z1J]
 |insert T m k x=>rw [q] at a;simp only [compOp,Al] at a;obtain ⟨kk,N,rfl⟩:=a;exact z1J (.inr q) N h
 |lookup T m k ok=>
  rw [q] at a;simp only [compOp] at a;split at a
  . rename_i kk z N G;cases a;obtain ⟨kt,et,hT,aa,ac⟩:=z1F N;simp only [IOp.ev] at h;split at h
    . split at h
      . rename_i ab;obtain ⟨rfl,X⟩:=ab;exact z5k q hT aa (ac▸G) (by assumption) (by assumption) X h.2
      exact h.elim
    exact h.elim
  cases a
 |_=>rw [q] at a;simp [compOp] at a
end
section

structure OpI where
 dst:Option Tmp
 op:IOp
 guard:Option (Nat×Bool)

def isLd:IOp->Bool
 |.ld _ _=>true
 |.ldS _ _=>true
 |_=>false
def needsLd(o:Oper):Bool:=match o.op with
 |.load .. =>true
 |_=>false
def gkI:IOp->Bool
 |.st .. |.app .. |.apz .. |.mup .. |.cpy .. =>false
 |_=>true
def kindChk(o:Oper)(i:IOp):Bool:=isLd i==needsLd o&& gkI i==gk o

def compOp'(P:Program)(o:Oper):Option IOp:=
 match compOp P o.op with
 |some i=>if kindChk o i then some i else none
 |none=>none
variable {o:Oper}
theorem compOp'_ok{i:IOp}(h:compOp' P o=some i):compOp P o.op=some i/\isLd i=needsLd o/\gkI i=gk o:=by
 unfold compOp' at h;split at h
 . split at h;all_goals simp_all [kindChk]
 cases h

def compO(P:Program)(all:Array Oper)(o:Oper):Option OpI:=
 match compOp' P o with
 |none=>none
 |some op=>match o.guard with
  |none=>some ⟨o.dst,op,none⟩
  |some (j,b)=>match (all[j]?).bind (·.dst) with
   |some d=>some ⟨o.dst,op,some (d,b)⟩
   |none=>none

variable {all:Array Oper}{io:OpI}
theorem compO_op'(h:compO P all o=some io):compOp' P o=some io.op/\io.dst=o.dst:=by unfold compO at h;grind
def q0D(h:compO P all o=some io):compOp P o.op=some io.op/\io.dst=o.dst:=
 ⟨(compOp'_ok (compO_op' h).1).1,(compO_op' h).2⟩

theorem q0x{t:List SV}(h:compO P all o=some io):
 (io.guard=none->wantedT all t o=some true)/\(∀d b v,io.guard=some (d,b)->t.getD d .any= .raw (.bool v)->wantedT all t o=some (v==b))/\(∀d b vs,io.guard=some (d,b)->t.getD d .any= .raw (.tuple vs)->wantedT all t o=some false):=by
 grind [compO,wantedT]

inductive IC where
 |skip
 |reg (l:List OpI)
 |drw (l:List (Bool×OpI))
 |seq (a b:IC)
 |cond (c:Operand) (a b:IC)
 |blk (id:Nat) (c:IC)
 |loop (c:IC)
 |exit (id:Nat)
 |ret
 |rf (g:Operand) (ps:Array Tmp) (asg body:IC)        -- a loop over a function
 |scp (c:IC)
 |lbl (l:Nat)
 |hnd (all:Array Oper)        -- a region that is walked by hand

def isPureOp(P:Program)(o:Oper):Bool:=match o.op with
 |.convert _ d _=>match P.underlying d with
  |some (.slice _)=>false
  |_=>true
 |.move _|.assign _|.pick .. |.nilCheck _|.binOp .. |.unOp .. |.fieldAddr .. |.field .. |.indexAddr .. |.index .. |.extract .. |.makeFunc .. |.makeInterface .. |.build .. |.slice .. |.load .. |.lookup .. |.sliceToArrayPointer .. =>true
 |.call {callee:=.builtin .len,..}=>true
 |_=>false
def ldChk(all:Array Oper)(listed:Array Bool)(i:Nat):Bool:=match all[i]? with
 |some o=> !needsLd o||ldFree all listed i
 |none=>false
def isCv(o:Oper):Bool:=match o.op with
 |.convert .. =>true
 |.lookup .. =>true
 |_=>false
def ldChkS(all:Array Oper)(listed:Array Bool)(i:Nat):Bool:=match all[i]? with
 |some o=> !(needsLd o||isCv o) ||closedB all listed
 |none=>false
def toS:IOp->IOp
 |.ld ag x=>.ldS ag x
 |i=>i
def isCallOp(o:Oper):Bool:=match o.op with
 |.call {callee:=.value _,..}=>true
 |_=>false

def isBslOp(o:Oper):Bool:=match o.op with
 |.buildSlice .. =>true
 |_=>false

def nestB(all:Array Oper)(i:Nat):Bool:=match all[i]? with
 |some o=>match o.op,o.dst with
  |.buildSlice ..,some d=>all.toList.any λo'=>match o'.op with
   |.buildSlice _ _ parts=>parts.toList.any λp=>match p.2 with
    |.tmp d'=>d'==d
    |_=>false
   |_=>false
  |_,_=>false
 |none=>false
def chooseOp(P:Program)(all:Array Oper)(listed:Array Bool)(rd:List Nat):Option (Nat×Bool):=
 match rd.find? (λi=>(match all[i]? with|some o=>isPureOp P o|none=>false) && Region.free .any all listed i&& ldChk all listed i) with
 |some i=>some (i,true)
 |none=>match rd with
  | [i]=>some (i,nestB all i&& Region.free .any all listed i)
  |_=>match rd.find? (λi=>(match all[i]? with|some o=>isCallOp o|none=>false) && Region.free .any all listed i) with
   |some i=>some (i,true)
   |none=>match rd.find? (λi=>(match all[i]? with|some o=>isPureOp P o|none=>false) && Region.free .any all listed i) with
    |some i=>some (i,true)
    |none=>match rd.find? (λi=>(match all[i]? with|some o=>isBslOp o|none=>false) && Region.free .any all listed i) with
     |some i=>some (i,true)
     |none=>none

def planChk(all:Array Oper)(listed:Array Bool)(i:Nat)(fl:Bool):Bool:=
 if fl then (Region.ready .any all listed).contains i&& Region.free .any all listed i&& ldChkS all listed i else Region.ready .any all listed== [i]

def planL(P:Program)(all:Array Oper):Nat->Array Bool->Option (List (Bool×OpI))
 |0,listed=>if (Region.ready .any all listed).isEmpty then some [] else none
 |n+1,listed=>if (Region.ready .any all listed).isEmpty then some [] else
  match chooseOp P all listed (Region.ready .any all listed) with
  |some (i,fl)=>match all[i]? with
   |some o=>match compO P all o with
    |some io=>match planL P all n (listed.setIfInBounds i true) with
     |some l=>if planChk all listed i fl then some ((fl,if fl&& !ldChk all listed i then {io with op:=toS io.op} else io) :: l) else none
     |none=>none
    |none=>none
   |none=>none
  |none=>none

def compL(P:Program)(all:Array Oper):List Oper->Option (List OpI)
 | []=>some []
 |o :: l=>match compO P all o,compL P all l with
  |some io,some r=>some (io :: r)
  |_,_=>none

def comp(P:Program):Code->Option IC
 |.skip=>some .skip
 |.region _ all false=>(compL P all all.toList).map .reg
 |.region _ all true=>match planL P all all.size (Array.replicate all.size false) with
  |some l=>some (.drw l)
  |none=>some (.hnd all)
 |.seq a b=>match comp P a,comp P b with
  |some x,some y=>some (.seq x y)
  |_,_=>none
 |.cond c a b=>match comp P a,comp P b with
  |some x,some y=>some (.cond c x y)
  |_,_=>none
 |.block id c=>(comp P c).map (.blk id)
 |.loop c=>(comp P c).map .loop
 |.exit id=>some (.exit id)
 |.ret=>some .ret
 |.rangeFunc g ps a b=>match comp P a,comp P b with
  |some x,some y=>some (.rf g ps x y)
  |_,_=>none
 |.scope c=>(comp P c).map .scp
 |.label l=>some (.lbl l)
 |_=>none

inductive IT where
 |ic (c:IC)
 |ops (l:List OpI)
 |dops (G:List Nat) (l:List (Bool×OpI))
 |blk (id:Nat)
 |stop (Φ:List SV->List SObj->Prop)

structure IM where
 k0:Nat
 todo:List IT
 tmps:List SV
 heap:List SObj

def RelOps(P:Program)(all:Array Oper):List Nat->List OpI->Prop
 | [],[]=>True
 |i :: idx,io :: l=>(∃o,all[i]?=some o/\compO P all o=some io)/\RelOps P all idx l
 |_,_=>False

def RelT(P:Program):List IT->List It->Prop
 | [],k'=>k'= []
 |.ic c :: k,k'=>∃c' r,k'= .code c' :: r/\comp P c'=some c/\RelT P k r
 |.ops l :: k,k'=>∃all idx r,k'= .ops all idx :: r/\RelOps P all idx l/\RelT P k r
 |.dops _ _ :: _,_=>False
 |.blk id :: k,k'=>∃r,k'= .blk id :: r/\RelT P k r
 |.stop Φ :: k,k'=>∃r,k'= .stop Φ :: r/\RelT P k r

def SoundI[Ghost](P:Program)(AQ:Ex->List SV->List SObj->Prop)(m:IM):Prop:=
 match m.todo with
 |.dops G l :: k=>∀all listed fuel k',planL P all fuel listed=some l->RelT P k k'->AnyV P AQ m.k0 k' all G fuel listed m.tmps m.heap
 |td=>∀td',RelT P td td'->Sound P AQ ⟨m.k0,td',m.tmps,m.heap⟩

variable [Ghost] {P:Program} {AQ:Ex->List SV->List SObj->Prop} {k0:Nat} {k:List IT} {t:List SV} {H:List SObj}

def plainT:List IT->Bool
 | []=>true
 |.dops _ _ :: _=>false
 |_ :: _=>true

theorem q0d{td:List IT}(h:∀td',RelT P td td'->Sound P AQ ⟨k0,td',t,H⟩)(hp:plainT td=true):SoundI P AQ ⟨k0,td,t,H⟩:=by grind [SoundI,plainT]
theorem q0e{td:List IT}{td':List It}(h:SoundI P AQ ⟨k0,td,t,H⟩)(hr:RelT P td td'):Sound P AQ ⟨k0,td',t,H⟩:=by grind [SoundI,RelT]

theorem j6B(h:AQ .normal t H):SoundI P AQ ⟨k0,[],t,H⟩:=q0d (λtd' a=>by cases a;exact z6H h) rfl

def CompInv(P:Program)(c:Code):IC->Prop
 |.skip=>c= .skip
 |.reg l=>∃id all,c= .region id all false/\compL P all all.toList=some l
 |.drw l=>∃id all,c= .region id all true/\planL P all all.size (Array.replicate all.size false)=some l
 |.seq x y=>∃a b,c= .seq a b/\comp P a=some x/\comp P b=some y
 |.cond e x y=>∃a b,c= .cond e a b/\comp P a=some x/\comp P b=some y
 |.blk id x=>∃a,c= .block id a/\comp P a=some x
 |.loop x=>∃a,c= .loop a/\comp P a=some x
 |.exit id=>c= .exit id
 |.ret=>c= .ret
 |.rf g ps x y=>∃a b,c= .rangeFunc g ps a b/\comp P a=some x/\comp P b=some y
 |.scp x=>∃a,c= .scope a/\comp P a=some x
 |.lbl l=>c= .label l
 |.hnd all=>∃id,c= .region id all true

theorem q0G{c:Code}{q:IC}(h:comp P c=some q):CompInv P c q:=by
 cases c with
 |skip=>cases h;rfl
 |region id all d=>
  cases d with
  |false=>simp only [comp,Al] at h;obtain ⟨l,f,rfl⟩:=h;exact ⟨id,all,rfl,f⟩
  |true=>
   simp only [comp] at h;split at h
   . cases h;exact ⟨id,all,rfl,by assumption⟩
   cases h;exact ⟨id,rfl⟩
 |seq a b=>
  simp only [comp] at h;split at h
  . cases h;exact ⟨a,b,rfl,by assumption,by assumption⟩
  cases h
 |cond e a b=>
  simp only [comp] at h;split at h
  . cases h;exact ⟨a,b,rfl,by assumption,by assumption⟩
  cases h
 |block id a=>simp only [comp,Al] at h;obtain ⟨l,f,rfl⟩:=h;exact ⟨a,rfl,f⟩
 |loop a=>simp only [comp,Al] at h;obtain ⟨l,f,rfl⟩:=h;exact ⟨a,rfl,f⟩
 |exit id=>cases h;rfl
 |ret=>cases h;rfl
 |rangeFunc g ps a b=>
  simp only [comp] at h;split at h
  . cases h;exact ⟨a,b,rfl,by assumption,by assumption⟩
  cases h
 |scope a=>simp only [comp,Al] at h;obtain ⟨l,f,rfl⟩:=h;exact ⟨a,rfl,f⟩
 |label l=>cases h;rfl
 |_=>simp [comp] at h

theorem q7B{all:Array Oper}:∀ (n:Nat) {os:List Oper} {l:List OpI},(∀j,os[j]?=all[n+j]?)->compL P all os=some l->RelOps P all ((List.range os.length).map (n+ ·)) l
 |n,[],l,_,h=>by cases h;simp [RelOps]
 |n,o :: os,l,ho,h=>by
  simp only [compL] at h;split at h
  . cases h;rw [AB,BR,Az,BD];refine ⟨⟨o,by have:=ho 0;simp_all,by assumption⟩,?_⟩;have:=q7B (n+1) (os:=os) (λj=>by have:=ho (j+1);simp at this;rw [this];congr 1;omega) (by assumption);have e:(λx=>n+x) ∘Nat.succ=λx=>n+1+x:=by grind
    simp_all
  cases h

theorem j5h(h:SoundI P AQ ⟨k0,k,t,H⟩):SoundI P AQ ⟨k0,.ic .skip :: k,t,H⟩:=q0d (λtd' a=>by
 obtain ⟨c',r,rfl,c,a⟩:=a;obtain rfl:=q0G c
 exact z5G (q0e h a)) rfl
theorem j7j{a b:IC}(h:SoundI P AQ ⟨k0,.ic a :: .ic b :: k,t,H⟩):SoundI P AQ ⟨k0,.ic (.seq a b) :: k,t,H⟩:=q0d (λtd' c=>by
 obtain ⟨c',r,rfl,e,c⟩:=c;obtain ⟨x,y,rfl,f,d⟩:=q0G e
 exact z6R (q0e h ⟨x,_,rfl,f,y,r,rfl,d,c⟩)) rfl
theorem j7Y{c:IC}(h:SoundI P AQ ⟨k0,.ic c :: k,t,H⟩):SoundI P AQ ⟨k0,.ic (.scp c) :: k,t,H⟩:=q0d (λtd' a=>by
 obtain ⟨c',r,rfl,e,a⟩:=a;obtain ⟨x,rfl,d⟩:=q0G e
 exact z2R (q0e h ⟨x,_,rfl,d,a⟩)) rfl
theorem j7C{l:Nat}(h:SoundI P AQ ⟨k0,k,t,H⟩):SoundI P AQ ⟨k0,.ic (.lbl l) :: k,t,H⟩:=q0d (λtd' a=>by
 obtain ⟨c',r,rfl,c,a⟩:=a;obtain rfl:=q0G c
 exact z3n (q0e h a)) rfl
variable {id:Nat}
theorem j8a{c:IC}(h:SoundI P AQ ⟨k0,.ic c :: .blk id :: k,t,H⟩):SoundI P AQ ⟨k0,.ic (.blk id c) :: k,t,H⟩:=q0d (λtd' a=>by
 obtain ⟨c',r,rfl,e,a⟩:=a;obtain ⟨x,rfl,d⟩:=q0G e
 exact z2a (q0e h ⟨x,_,rfl,d,r,rfl,a⟩)) rfl
theorem z8v(h:SoundI P AQ ⟨k0,k,t,H⟩):SoundI P AQ ⟨k0,.blk id :: k,t,H⟩:=q0d (λtd' a=>by
 obtain ⟨r,rfl,a⟩:=a
 exact z8K (q0e h a)) rfl
theorem j4X{Φ:List SV->List SObj->Prop}(h:Φ t H):SoundI P AQ ⟨k0,.stop Φ :: k,t,H⟩:=q0d (λtd' a=>by
 obtain ⟨r,rfl,a⟩:=a
 exact z5Q h) rfl
theorem j6R(h:AQ .ret t H):SoundI P AQ ⟨k0,.ic .ret :: k,t,H⟩:=q0d (λtd' a=>by
 obtain ⟨c',r,rfl,c,a⟩:=a;obtain rfl:=q0G c
 exact z7f h) rfl
def exitI(id:Nat):List IT->Option (List IT)
 | []=>none
 |.blk id' :: k=>if id'=id then some k else exitI id k
 |_ :: k=>exitI id k
theorem q2Q{id:Nat}:∀ {k:List IT} {k':List IT} {r:List It},RelT P k r->exitI id k=some k'->∃r',exitTo' id r=some r'/\RelT P k' r'
 | [],_,_,_,h=>by simp [exitI] at h
 |.blk id' :: k,k',r,a,h=>by
  obtain ⟨c,rfl,a⟩:=a;unfold exitI at h;unfold exitTo';split at h
  . simp_all
  rw [if_neg (by assumption)];exact q2Q a h
 |.ic _ :: k,k',r,a,h=>by obtain ⟨c',c,rfl,_,a⟩:=a;exact q2Q (k:=k) (k':=k') (r:=c) a h
 |.ops _ :: k,k',r,a,h=>by obtain ⟨_,_,c,rfl,_,a⟩:=a;exact q2Q (k:=k) (k':=k') (r:=c) a h
 |.stop _ :: k,k',r,a,h=>by obtain ⟨c,rfl,a⟩:=a;exact q2Q (k:=k) (k':=k') (r:=c) a h
 |.dops _ _ :: k,_,_,a,_=>a.elim
theorem j6h{k':List IT}(hk:exitI id k=some k')(h:SoundI P AQ ⟨k0,k',t,H⟩):SoundI P AQ ⟨k0,.ic (.exit id) :: k,t,H⟩:=q0d (λtd' a=>by
 obtain ⟨c',r,rfl,c,a⟩:=a;obtain rfl:=q0G c
 grind [q2Q,z5N,q0e]) rfl
theorem q2U{id:Nat}:∀ {k:List IT} {r:List It},RelT P k r->exitI id k=none->exitTo' id r=none
 | [],r,h,_=>by cases h;rfl
 |.blk id' :: k,r,h,hn=>by
  obtain ⟨c,rfl,a⟩:=h;unfold exitI at hn;unfold exitTo';split at hn
  . cases hn
  rw [if_neg (by assumption)];exact q2U a hn
 |.ic _ :: k,r,h,hn=>by obtain ⟨c',c,rfl,_,a⟩:=h;exact q2U (k:=k) (r:=c) a hn
 |.ops _ :: k,r,h,hn=>by obtain ⟨_,_,c,rfl,_,a⟩:=h;exact q2U (k:=k) (r:=c) a hn
 |.stop _ :: k,r,h,hn=>by obtain ⟨c,rfl,a⟩:=h;exact q2U (k:=k) (r:=c) a hn
theorem j0P(f:exitI id k=none)(h:AQ (.exit id) t H):SoundI P AQ ⟨k0,.ic (.exit id) :: k,t,H⟩:=q0d (λtd' c E r n C a h0 d=>by
 obtain ⟨c',r,rfl,e,c⟩:=c;obtain rfl:=q0G e;simp only [wpT]
 exact wpIn_exit (q2m (q2U c f) ⟨C,t,H,h,rfl,Den.fin d⟩)) rfl
theorem j3Q{c:Operand}{a b:IC}{v:Bool}(B:evT t c= .raw (.bool v))(A:v=true->SoundI P AQ ⟨k0,.ic a :: k,t,H⟩)(q:v=false->SoundI P AQ ⟨k0,.ic b :: k,t,H⟩):SoundI P AQ ⟨k0,.ic (.cond c a b) :: k,t,H⟩:=q0d (λtd' d=>by
 obtain ⟨c',r,rfl,f,d⟩:=d;obtain ⟨x,y,rfl,D,u⟩:=q0G f
 exact z5g B (λe=>q0e (A e) ⟨x,r,rfl,D,d⟩) (λe=>q0e (q e) ⟨y,r,rfl,u,d⟩)) rfl
variable {l:List OpI}
theorem j8p(h:SoundI P AQ ⟨k0,.ops l :: k,t,H⟩):SoundI P AQ ⟨k0,.ic (.reg l) :: k,t,H⟩:=q0d (λtd' a=>by
 obtain ⟨c',r,rfl,d,a⟩:=a;obtain ⟨id,all,rfl,c⟩:=q0G d;have:=q7B (P:=P) (all:=all) 0 (os:=all.toList) (λj=>by simp) c;simp only [Ag,List.map_id',Be] at this
 exact z1P (q0e h ⟨all,_,r,rfl,this,a⟩)) rfl
theorem z9f(h:SoundI P AQ ⟨k0,k,t,H⟩):SoundI P AQ ⟨k0,.ops [] :: k,t,H⟩:=q0d (λtd' c=>by
 obtain ⟨all,a,r,rfl,d,c⟩:=c;cases a with
 |nil=>exact z0w (q0e h c)
 |cons i l=>exact d.elim) rfl
theorem q1l{l:List (Bool×OpI)}(G:List Nat)(c:P.follows .mixedOrders=true)(h:SoundI P AQ ⟨k0,.dops G l :: k,t,H⟩):SoundI P AQ ⟨k0,.ic (.drw l) :: k,t,H⟩:=q0d (λtd' a=>by
 obtain ⟨c',r,rfl,e,a⟩:=a;obtain ⟨id,all,rfl,d⟩:=q0G e
 exact z5n G c (h all _ _ r d a)) rfl

def opK(P:Program)(AQ:Ex->List SV->List SObj->Prop)(k0:Nat)(td:List IT)(t:List SV)(d:Option Tmp):Out->List SObj->Prop
 |.ret s,H'=>SoundI P AQ ⟨k0,td,putT t d s,H'⟩
 |.pan s,H'=>AQ (.pan s) t H'

theorem j8E(A:io.guard=none)(h:(io.op.ev H (evT t)).to P H (opK P AQ k0 (.ops l :: k) t io.dst)):SoundI P AQ ⟨k0,.ops (io :: l) :: k,t,H⟩:=q0d (λtd' f=>by
 obtain ⟨all,a,r,rfl,d,f⟩:=f;cases a with
 |nil=>exact d.elim
 |cons i a=>
  obtain ⟨⟨o,e,c⟩,d⟩:=d;obtain ⟨B,u⟩:=q0D c;refine q4X e ((q0x c).1 A) (OpV.mono (q2g B h) λx H' q=> ?_);cases x with
  |ret s=>simp only [opK,u] at q;exact q0e q ⟨all,a,r,rfl,d,f⟩
  |pan s=>exact q) rfl

theorem z1W{k:List It}(d:Nat){v b:Bool}(hv:t.getD d .any= .raw (.bool v))(e:v=b)(h:Sound P AQ ⟨k0,k,t.set d (.raw (.bool b)),H⟩):Sound P AQ ⟨k0,k,t,H⟩:=by
 subst e;have:t.set d (.raw (.bool v))=t:=by
  rcases A8 d t.length with a|a
  . apply AE;grind
  simp_all
 simp_all
end
end Go.Sx