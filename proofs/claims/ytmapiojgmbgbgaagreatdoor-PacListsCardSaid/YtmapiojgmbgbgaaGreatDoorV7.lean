/- A part of the proof: a symbolic executor over abstract values, and its soundness. -/
import Derived.Test.YtmapiojgmbgbgaaGreatDoorV6
set_option linter.all false
namespace Go.Sx
open Go

variable [Ghost] {P:Program} {o:Oper} {ev:Operand→SV} {H:List SObj} {K:Out→List SObj→Prop}

variable {I:Nat→Prop} {w:World} {b off:Nat}
def get1(t:Ty)(x:t.den)(k m:Nat):Option (Sigma Ty.den):=if k=0∧m=t.size then some ⟨t,x⟩ else none
def Ty.get:(t:Ty)→t.den→(k m:Nat)→Option (Sigma Ty.den)
 |.prod a c,x,k,m=>if k=0∧m=a.size+c.size then some ⟨.prod a c,x⟩ else if k<a.size then a.get x.1 k m else c.get x.2 (k-a.size) m
 |.arr n e,x,k,m=>get1 (.arr n e) x k m
 |.u8,x,k,m=>get1 .u8 x k m
 |.int ik,x,k,m=>get1 (.int ik) x k m
 |.bool,x,k,m=>get1 .bool x k m
 |.str,x,k,m=>get1 .str x k m
 |.slice e,x,k,m=>get1 (.slice e) x k m
 |.unit,x,k,m=>get1 .unit x k m
 |.ptr e,x,k,m=>get1 (.ptr e) x k m
 |.clo f e,x,k,m=>get1 (.clo f e) x k m
 |.clp f e,x,k,m=>get1 (.clp f e) x k m
 |.mbs e,x,k,m=>get1 (.mbs e) x k m
theorem q2F{t:Ty}{x:t.den}{k m:Nat}{r:Sigma Ty.den}(h:get1 t x k m=some r)(hl:Lies I w b off t x):Lies I w b (off+k) r.1 r.2∧r.1.size=m:=by
 unfold get1 at h;split at h
 · rename_i hc;obtain ⟨rfl,rfl⟩:=hc;cases h;exact ⟨hl,rfl⟩
 cases h
theorem z0s:∀ (t:Ty) {x:t.den} {k m off:Nat} {r:Sigma Ty.den},t.get x k m=some r→Lies I w b off t x→Lies I w b (off+k) r.1 r.2∧r.1.size=m
 |.prod a c,x,k,m,off,r,h,hl=>by
  simp only [Ty.get] at h;split at h
  · rename_i hc;obtain ⟨rfl,rfl⟩:=hc;cases h;exact ⟨hl,rfl⟩
  split at h
  · exact z0s a h hl.fst
  have:=z0s c h hl.snd;rwa [show off+a.size+ (k-a.size)=off+k by omega] at this
 |.arr n e,x,k,m,off,r,h,hl=>q2F h hl
 |.u8,x,k,m,off,r,h,hl=>q2F h hl
 |.int ik,x,k,m,off,r,h,hl=>q2F h hl
 |.bool,x,k,m,off,r,h,hl=>q2F h hl
 |.str,x,k,m,off,r,h,hl=>q2F h hl
 |.slice e,x,k,m,off,r,h,hl=>q2F h hl
 |.unit,x,k,m,off,r,h,hl=>q2F h hl
 |.ptr e,x,k,m,off,r,h,hl=>q2F h hl
 |.clo _ e,x,k,m,off,r,h,hl=>q2F h hl
 |.clp _ e,x,k,m,off,r,h,hl=>q2F h hl
 |.mbs e,x,k,m,off,r,h,hl=>q2F h hl

structure Arr where
 e:Ty
 n:Nat
 ys:List e.den
def Ty.arrAt:(t:Ty)→t.den→Nat→Option Arr
 |.prod a c,x,k=>if k<a.size then a.arrAt x.1 k else c.arrAt x.2 (k-a.size)
 |.arr n e,xs,k=>if k=0∧e.size=1 then some ⟨e,n,xs⟩ else none
 |.u8,_,_=>none
 |.int _,_,_=>none
 |.bool,_,_=>none
 |.str,_,_=>none
 |.slice _,_,_=>none
 |.unit,_,_=>none
 |.ptr _,_,_=>none
 |.clo _ _,_,_=>none
 |.clp _ _,_,_=>none
 |.mbs _,_,_=>none
theorem q3T:∀ (t:Ty) {x:t.den} {k off:Nat} {r:Arr},t.arrAt x k=some r→Lies I w b off t x→Lies I w b (off+k) (.arr r.n r.e) r.ys∧r.e.size=1
 |.prod a c,x,k,off,r,h,hl=>by
  simp only [Ty.arrAt] at h;split at h
  · exact q3T a h hl.fst
  have:=q3T c h hl.snd;rwa [show off+a.size+ (k-a.size)=off+k by omega] at this
 |.arr n e,x,k,off,r,h,hl=>by
  simp only [Ty.arrAt] at h;split at h
  · rename_i hc;obtain ⟨rfl,he⟩:=hc;cases h;exact ⟨hl,he⟩
  cases h
 |.u8,_,_,_,_,h,_=>by cases h
 |.int _,_,_,_,_,h,_=>by cases h
 |.bool,_,_,_,_,h,_=>by cases h
 |.str,_,_,_,_,h,_=>by cases h
 |.slice _,_,_,_,_,h,_=>by cases h
 |.unit,_,_,_,_,h,_=>by cases h
 |.ptr _,_,_,_,_,h,_=>by cases h
 |.clo _ _,_,_,_,_,h,_=>by cases h
 |.clp _ _,_,_,_,_,h,_=>by cases h
 |.mbs _,_,_,_,_,h,_=>by cases h
def Ty.cellAt:Ty→Nat→Option Ty
 |.prod a c,k=>if k<a.size then a.cellAt k else c.cellAt (k-a.size)
 |.arr _ e,k=>if k=0∧e.size=1 then some e else none
 |_,_=>none
theorem q3V:∀ {t:Ty} {k:Nat} {e:Ty},t.cellAt k=some e→e.size=1
 |.prod a c,k,e,h=>by
  simp only [Ty.cellAt] at h;split at h
  · exact q3V h
  exact q3V h
 |.arr n e',k,e,h=>by
  simp only [Ty.cellAt] at h;split at h
  · rename_i hc;cases h;exact hc.2
  cases h
 |.u8,_,_,h=>by cases h
 |.int _,_,_,h=>by cases h
 |.bool,_,_,h=>by cases h
 |.str,_,_,h=>by cases h
 |.slice _,_,_,h=>by cases h
 |.unit,_,_,h=>by cases h
 |.ptr _,_,_,h=>by cases h
 |.clo _ _,_,_,h=>by cases h
 |.clp _ _,_,_,h=>by cases h
 |.mbs _,_,_,h=>by cases h

theorem q4G{T:TypeId}{x:Operand}{ag:Option Nat}{s:SV}(hop:o.op= .load T x)(ht:aggOf P T=some ag)
 (hl:∀C v,Wd C H→(ev x).den C v→∃b off t y,v= .pointer (some ⟨b,off,none⟩)∧Lies C.I C.w b off t y∧SV.ofT ag t y=some s∧(ag=none∨ag=some t.size))(hk:K (.ret s) H):OpV P o ev H K:=by
 refine q0i (by rw [hop];intro c hc;cases hc) (s:=s) (fun C e hw hv=> ?_) hk
 obtain ⟨b,off,t,y,hx,h1,h2,h3⟩:=hl C _ hw (hv x (by rw [hop];simp [Op.operands]))
 obtain ⟨v,g1,g2⟩:=q4U (P:=P) ht h1 h2 h3;exact ⟨v,by simp [execOp,hop,hx,Instr.loadAt,Instr.sureAddr,Result.andThen,g1],g2⟩
def SV.dflat(t:Ty)(s:SV):Option (t.den×Prop):=match s.flat with
 |some ds=>if ones ds=true then t.rd ds else none
 |none=>none
def SV.datum(t:Ty):SV→Option (t.den×Prop)
 |.dat t' y=>if h:t'=t then some (cast (by rw [h]) y,True) else none
 |s=>s.dflat t
theorem z4n{C:Cx}{t:Ty}{s:SV}{v:Value}{y:t.den}{p:Prop}(h:s.dflat t=some (y,p))(hp:p)(hd:s.den C v):t.rel C.I C.w y v.cells.toList∧∀u∈v.cells.toList,u.oneCell'=true:=by
 unfold SV.dflat at h;split at h
 · rename_i ds hf;split at h
   · rename_i h1;exact ⟨t.rd_rel _ _ _ _ h hp (q3l hf hd),q4N h1 (q3l hf hd)⟩
   cases h
 cases h
theorem q4Q{C:Cx}{t:Ty}{s:SV}{v:Value}{y:t.den}{p:Prop}(h:s.datum t=some (y,p))(hp:p)(hd:s.den C v):t.rel C.I C.w y v.cells.toList∧∀u∈v.cells.toList,u.oneCell'=true:=by
 cases s with
 |dat t' y'=>
  simp only [SV.datum] at h;split at h
  · rename_i e;subst e;cases h;rw [SV.den] at hd;obtain ⟨vs,rfl,hr⟩:=hd;simp only [Value.cells,cast_eq];exact ⟨hr,fun u hu=>q5v _ _ _ hr u hu⟩
  cases h
 |_=>simp only [SV.datum] at h;exact z4n h hp hd

theorem q8m{α:Type}{vs us:List α}(h:vs.length=us.length):splice vs 0 us=us:=by simp [splice,h]
theorem q4k{α:Type}{v1 v2 us:List α}{k:Nat}(h:k+us.length≤v1.length):splice (v1++v2) k us=splice v1 k us++v2:=by
 unfold splice;rw [A8 (by omega),Bn (by omega),List.append_assoc,List.append_assoc,List.append_assoc]
theorem q3H{α:Type}{v1 v2 us:List α}{k:Nat}(h:v1.length≤k):splice (v1++v2) k us=v1++splice v2 (k-v1.length) us:=by
 unfold splice;rw [Cw,BS,Ah h,AY (by omega),As,List.append_assoc,List.append_assoc,List.append_assoc,show k+us.length-v1.length=k-v1.length+us.length by omega]
def Ty.modR:(t:Ty)→t.den→(k i:Nat)→(e:Ty)→List e.den→Option (t.den×Prop)
 |.prod a c,x,k,i,e,ys=>if k<a.size then (match a.modR x.1 k i e ys with
  |some (y,p)=>some ((y,x.2),p)
  |none=>none) else (match c.modR x.2 (k-a.size) i e ys with
  |some (y,p)=>some ((x.1,y),p)
  |none=>none)
 |.arr n e',xs,k,i,e,ys=>if h:k=0∧e=e'∧e'.size=1 then some (splice xs i (cast (by rw [h.2.1]) ys),i+ys.length≤n) else none
 |.u8,_,_,_,_,_=>none
 |.int _,_,_,_,_,_=>none
 |.bool,_,_,_,_,_=>none
 |.str,_,_,_,_,_=>none
 |.slice _,_,_,_,_,_=>none
 |.unit,_,_,_,_,_=>none
 |.ptr _,_,_,_,_,_=>none
 |.clo _ _,_,_,_,_,_=>none
 |.clp _ _,_,_,_,_,_=>none
 |.mbs _,_,_,_,_,_=>none
theorem q4f{C:Cx}{e:Ty}:∀ (t:Ty) {x x':t.den} {k i:Nat} {ys:List e.den} {p:Prop} {us ws:List Value},t.modR x k i e ys=some (x',p)→p→(Ty.arr ys.length e).rel C.I C.w ys ws→t.rel C.I C.w x us→
 t.rel C.I C.w x' (splice us (k+i) ws)∧k+i+ys.length≤t.size∧ws.length=ys.length
 |.prod a c,x,x',k,i,ys,p,us,ws,h,hp,hd,hr=>by
  simp only [Ty.modR] at h;obtain ⟨v1,v2,rfl,r1,r2⟩:=hr;have hl1:=a.rel_size _ _ r1;split at h
  · split at h
    · rename_i hy;cases h;obtain ⟨g1,g2,g3⟩:=q4f a hy hp hd r1;rw [q4k (by omega)]
      exact ⟨⟨_,_,rfl,g1,r2⟩,by simp only [Ty.size];omega,g3⟩
    cases h
  split at h
  · rename_i hlt _ _ _ hy;cases h;obtain ⟨g1,g2,g3⟩:=q4f c hy hp hd r2;rw [q3H (by omega),hl1,show k+i-a.size=k-a.size+i by omega]
    exact ⟨⟨_,_,rfl,r1,g1⟩,by simp only [Ty.size];omega,g3⟩
  cases h
 |.arr n e',xs,x',k,i,ys,p,us,ws,h,hp,hd,hr=>by
  simp only [Ty.modR] at h;split at h
  · rename_i hc;obtain ⟨rfl,rfl,he⟩:=hc;cases h;obtain ⟨hn,hl,h⟩:=(q0W he).1 hr;obtain ⟨hn',hl',h'⟩:=(q0W he).1 hd;simp only [cast_eq,Ac];refine ⟨(q0W he).2 ⟨by rw [q0s (by omega)];exact hn,by rw [q0s (by omega)];exact hl,fun j y u hy hu=> ?_⟩,by simp only [Ty.size,he];omega,hl'⟩
    rw [q2w (by omega)] at hy hu
    split at hy
    · rw [if_pos (by assumption)] at hu
      exact h j y u hy hu
    rw [if_neg (by assumption)] at hu
    split at hy
    · rw [if_pos (by omega)] at hu
      exact h' _ y u hy hu
    rw [if_neg (by omega)] at hu
    exact h j y u hy hu
  cases h
 |.u8,_,_,_,_,_,_,_,_,h,_,_,_=>by cases h
 |.int _,_,_,_,_,_,_,_,_,h,_,_,_=>by cases h
 |.bool,_,_,_,_,_,_,_,_,h,_,_,_=>by cases h
 |.str,_,_,_,_,_,_,_,_,h,_,_,_=>by cases h
 |.slice _,_,_,_,_,_,_,_,_,h,_,_,_=>by cases h
 |.unit,_,_,_,_,_,_,_,_,h,_,_,_=>by cases h
 |.ptr _,_,_,_,_,_,_,_,_,h,_,_,_=>by cases h
 |.clo _ _,_,_,_,_,_,_,_,_,h,_,_,_=>by cases h
 |.clp _ _,_,_,_,_,_,_,_,_,h,_,_,_=>by cases h
 |.mbs _,_,_,_,_,_,_,_,_,h,_,_,_=>by cases h

def put1(t:Ty)(k n:Nat)(s:SV):Option (t.den×Prop):=if k=0∧n=t.size then s.datum t else none
def Ty.putV:(t:Ty)→t.den→(k n:Nat)→SV→Option (t.den×Prop)
 |.prod a c,x,k,n,s=>if k=0∧n=a.size+c.size then s.datum (.prod a c) else if k<a.size then (match a.putV x.1 k n s with
  |some (y,p)=>some ((y,x.2),p)
  |none=>none) else (match c.putV x.2 (k-a.size) n s with
  |some (y,p)=>some ((x.1,y),p)
  |none=>none)
 |.arr m e,x,k,n,s=>if k=0∧n=(Ty.arr m e).size then s.datum (.arr m e) else if e.size=1∧n=1 then (match s.datum e with
  |some (y,p)=>some (splice x k [y],p∧k+1≤m)
  |none=>none) else none
 |.u8,_,k,n,s=>put1 .u8 k n s
 |.int ik,_,k,n,s=>put1 (.int ik) k n s
 |.bool,_,k,n,s=>put1 .bool k n s
 |.str,_,k,n,s=>put1 .str k n s
 |.slice e,_,k,n,s=>put1 (.slice e) k n s
 |.unit,_,k,n,s=>put1 .unit k n s
 |.ptr e,_,k,n,s=>put1 (.ptr e) k n s
 |.clo f e,_,k,n,s=>put1 (.clo f e) k n s
 |.clp f e,_,k,n,s=>put1 (.clp f e) k n s
 |.mbs e,_,k,n,s=>put1 (.mbs e) k n s
theorem q1N{C:Cx}{t:Ty}{k n:Nat}{s:SV}{v:Value}{x x':t.den}{p:Prop}{us:List Value}(h:put1 t k n s=some (x',p))(hp:p)(hd:s.den C v)(hr:t.rel C.I C.w x us):
 t.rel C.I C.w x' (splice us k v.cells.toList)∧(∀u∈v.cells.toList,u.oneCell'=true)∧v.cells.toList.length=n∧k+n≤t.size:=by
 unfold put1 at h;split at h
 · rename_i hc;obtain ⟨rfl,rfl⟩:=hc;obtain ⟨h1,h2⟩:=q4Q h hp hd;have hl:=t.rel_size _ _ h1;rw [q8m (by rw [t.rel_size _ _ hr,hl])]
   exact ⟨h1,h2,hl,by omega⟩
 cases h
theorem q4B{C:Cx}:∀ (t:Ty) {x x':t.den} {k n:Nat} {s:SV} {v:Value} {p:Prop} {us:List Value},t.putV x k n s=some (x',p)→p→s.den C v→t.rel C.I C.w x us→
 t.rel C.I C.w x' (splice us k v.cells.toList)∧(∀u∈v.cells.toList,u.oneCell'=true)∧v.cells.toList.length=n∧k+n≤t.size
 |.prod a c,x,x',k,n,s,v,p,us,h,hp,hd,hr=>by
  simp only [Ty.putV] at h;split at h
  · rename_i hc;obtain ⟨rfl,rfl⟩:=hc;obtain ⟨h1,h2⟩:=q4Q h hp hd;have hl:=(Ty.prod a c).rel_size _ _ h1;rw [q8m (by rw [(Ty.prod a c).rel_size _ _ hr,hl])]
    exact ⟨h1,h2,hl,by simp only [Ty.size];omega⟩
  obtain ⟨v1,v2,rfl,r1,r2⟩:=hr;have hl1:=a.rel_size _ _ r1;split at h
  · split at h
    · rename_i hy;cases h;obtain ⟨g1,g2,g3,g4⟩:=q4B a hy hp hd r1;rw [q4k (by omega)]
      exact ⟨⟨_,_,rfl,g1,r2⟩,g2,g3,by simp only [Ty.size];omega⟩
    cases h
  split at h
  · rename_i hlt _ _ _ hy;cases h;obtain ⟨g1,g2,g3,g4⟩:=q4B c hy hp hd r2;rw [q3H (by omega),hl1]
    exact ⟨⟨_,_,rfl,r1,g1⟩,g2,g3,by simp only [Ty.size];omega⟩
  cases h
 |.arr m e,x,x',k,n,s,v,p,us,h,hp,hd,hr=>by
  simp only [Ty.putV] at h;split at h
  · rename_i hc;exact q1N (t:=.arr m e) (by unfold put1;rw [if_pos hc];exact h) hp hd hr
  split at h
  · rename_i he;obtain ⟨he,rfl⟩:=he;split at h
    · rename_i y q hy;cases h;obtain ⟨h1,h2⟩:=q4Q hy hp.1 hd;have hl:=e.rel_size _ _ h1;rw [he] at hl;have h3:(Ty.arr [y].length e).rel C.I C.w [y] v.cells.toList:=by
       refine (q0W he).2 ⟨rfl,hl,fun i y' u h4 h5=> ?_⟩;obtain ⟨u',hu⟩:=Bv.1 hl;rw [hu] at h1 h5;cases i with
       |zero=>simp at h4 h5;subst h4 h5;exact h1
       |succ i=>simp at h4
      have h4:=q4f (.arr m e) (x:=x) (x':=splice x k [y]) (k:=0) (i:=k) (p:=k+1≤m) (by simp [Ty.modR,he]) hp.2 h3 hr
      rw [Ac] at h4;exact ⟨h4.1,h2,hl,h4.2.1⟩
    cases h
  cases h
 |.u8,_,_,_,_,_,_,_,_,h,hp,hd,hr=>q1N h hp hd hr
 |.int ik,_,_,_,_,_,_,_,_,h,hp,hd,hr=>q1N h hp hd hr
 |.bool,_,_,_,_,_,_,_,_,h,hp,hd,hr=>q1N h hp hd hr
 |.str,_,_,_,_,_,_,_,_,h,hp,hd,hr=>q1N h hp hd hr
 |.slice e,_,_,_,_,_,_,_,_,h,hp,hd,hr=>q1N h hp hd hr
 |.unit,_,_,_,_,_,_,_,_,h,hp,hd,hr=>q1N h hp hd hr
 |.ptr e,_,_,_,_,_,_,_,_,h,hp,hd,hr=>q1N h hp hd hr
 |.clo _ e,_,_,_,_,_,_,_,_,h,hp,hd,hr=>q1N h hp hd hr
 |.clp _ e,_,_,_,_,_,_,_,_,h,hp,hd,hr=>q1N h hp hd hr
 |.mbs e,_,_,_,_,_,_,_,_,h,hp,hd,hr=>q1N h hp hd hr

theorem q4W{C:Cx}{h b a:Nat}{t:Ty}{xs xs':List t.den}{ws:List Value}(hw:Wd C H)(hH:H[h]?=some (.row t xs))(hbb:C.ρ h=some b)(hx:xs≠ [])(hlen:xs'.length=xs.length)(ha:a+ws.length≤xs.length*t.size)(h1:∀u∈ws,u.oneCell'=true)
 (hr:∀us,relL C.I C.w t xs us→relL C.I C.w t xs' (splice us a ws)):
 ∃C',(storeCells ⟨b,a,none⟩ ws 0).run P C.w= .ok () C'.w∧Wd C' (H.set h (.row t xs'))∧Ext ⟨C,H⟩ C' (H.set h (.row t xs'))∧Evo C C':=by
 rcases hw.obj h _ hH with ⟨_,h2⟩ | ⟨b',arr,T,fz,hb',hcell,hfz,hsz,hrow⟩
 · exact absurd h2 hx
 rw [hbb] at hb';cases hb';have hin:a+ws.length≤arr.toList.length:=by have:arr.toList.length=arr.size:=Av;omega
 have hcell':C.w.heap[b]?=some (.cells arr.toList.toArray T fz):=by rw [hcell]
 have hrun:(storeCells ⟨b,a,none⟩ ws 0).run P C.w= .ok () (C.w.setCells b (a+0) ws):=run_storeCells_cells b a _ 0 C.w
  (fun j hj=>by have hj:j<ws.length:=hj;rw [q0g hcell'];rw [Ab (by omega)];rfl)
  (fun j hj=>by
   have hj:j<ws.length:=hj;have:=hfz (a+0+j) (by rw [Av] at hin;omega)
   simp only [World.frozen?,hcell];rw [By];simp only [decide_eq_false_iff_not]
   omega) h1
 rw [AK] at hrun;have hnew:=q1u ws a C.w arr.toList hcell' hin;have hkeep:Keeps C.I C.I C.w (C.w.setCells b a ws):=fun b' hi'=>⟨hi',q0z (fun (eq:b'=b)=>(hw.own b ⟨h,_,hH,rfl,hbb⟩).1 (eq▸hi')) _ _ _⟩;have hbs:∀m,World.bsize C.w b=some m→World.bsize (C.w.setCells b a ws) b=some m:=fun m hm=>by
  unfold World.bsize at hm⊢;rw [hnew];rw [hcell] at hm;simp only [AO] at hm⊢;rw [q0s hin,Av];exact hm
 obtain ⟨us,hu1,hu2⟩:=q7F hrow;have hul:=q0S hu1;have hnewL:=hr us hu1;obtain ⟨g1,g2,g3⟩:=z0P (so':=.row t xs') hw hH rfl rfl hbb (C.w.setCells b a ws) (fun b' hb'=>q0z hb' _ _ _) (q1c _ _ _)
  hbs (q1D _ _ _) (q1f _ _ _) (q0T _ _ _)
  (.inr ⟨b,_,T,fz,hbb,hnew,by rw [AO,q0s hin,Av];exact hfz,by rw [hlen,AO,q0s hin,Av];exact hsz,
   q3U (q2S hkeep hnewL) fun j u hj=>by
    have hlt:=(Aa.1 hj).1;rw [q0s (by omega)] at hlt
    rw [q0g hnew,q2w hin];rw [q2w (by omega)] at hj
    rw [Ac];have hc:=fun u hu=>hu2 j u hu;simp only [Ac] at hc;rw [q0g hcell'] at hc;split at hj
    · rw [if_pos (by omega)];exact hc u hj
    rw [if_neg (by omega)]
    split at hj
    · rw [if_pos (by omega),←hj]
    rw [if_neg (by omega)];exact hc u hj⟩)
 exact ⟨_,hrun,g1,g2,g3⟩
theorem q7W{ty:TypeId}{x y:Operand}{h n a:Nat}{t:Ty}{xs xs':List t.den}(hop:o.op= .store ty x y)(hs:(P.info? ty).map (·.size)=some n)
 (hH:H[h]?=some (.row t xs))(hx:xs≠ [])(hlen:xs'.length=xs.length)(hp:∀C v,(ev x).den C v→∃b,C.ρ h=some b∧v= .pointer (some ⟨b,a,none⟩))(ha:a+n≤xs.length*t.size)
 (hy:∀C v,Wd C H→(ev y).den C v→v.cells.toList.length=n∧(∀u∈v.cells.toList,u.oneCell'=true)∧∀us,relL C.I C.w t xs us→relL C.I C.w t xs' (splice us a v.cells.toList))
 (hk:K (.ret .any) (H.set h (.row t xs'))):OpV P o ev H K:=by
 refine q0R (by rw [hop];intro c hc;cases hc) fun C e hw hv=> ?_
 obtain ⟨b,hbb,hpx⟩:=hp C _ (hv x (by rw [hop];simp [Op.operands]))
 obtain ⟨y1,y2,y3⟩:=hy C _ hw (hv y (by rw [hop];simp [Op.operands]))
 obtain ⟨C',hrun,g1,g2,g3⟩:=q4W (P:=P) hw hH hbb hx hlen (by omega) y2 y3
 refine ⟨_,undef,_,C',hk,.inr ⟨?_,rfl⟩,g1,g2,by rw [SV.den];trivial⟩
 have hsz':(e y).cells.size=n:=by rw [←Av];exact y1
 simp [execOp,hop,hpx,Instr.storeAt,Instr.sureAddr,Result.andThen,storeVar,q0j hs,hsz',hrun]
theorem q2Y{I:Nat→Prop}{w:World}{t:Ty}{x:t.den}{us:List Value}:relL I w t [x] us ↔ t.rel I w x us:=by
 constructor
 · rintro ⟨u1,u2,rfl,h1,h2⟩;cases h2;simpa using h1
 intro h;exact ⟨us,[],by simp,h,rfl⟩
theorem q3s{I:Nat→Prop}{w:World}{t:Ty}(ht:t.size=1):∀ {xs:List t.den} {us:List Value},relL I w t xs us ↔ (Ty.arr xs.length t).rel I w xs us
 | [],us=>by
  rw [q0W ht];constructor
  · intro h;cases h;exact ⟨rfl,rfl,fun i y u h=>by simp at h⟩
  rintro ⟨_,h,_⟩;exact A7 h
 |x :: xs,us=>by
  rw [q0W ht];constructor
  · rintro ⟨u1,u2,rfl,h1,h2⟩;have:=t.rel_size _ _ h1;rw [ht] at this;obtain ⟨u,rfl⟩:=Bv.1 this;obtain ⟨_,g2,g3⟩:=(q0W ht).1 ((q3s ht).1 h2);refine ⟨rfl,by simp [g2],fun i y v hy hv=> ?_⟩
    cases i with
    |zero=>simp at hy hv;subst hy hv;exact h1
    |succ i=>exact g3 i y v (by simpa using hy) (by simpa using hv)
  rintro ⟨_,h2,h3⟩;cases us with
  |nil=>simp at h2
  |cons u us=>exact ⟨[u],us,rfl,h3 0 x u rfl rfl,(q3s ht).2 ((q0W ht).2 ⟨rfl,by simpa using h2,fun i y v hy hv=>h3 (i+1) y v (by simpa using hy) (by simpa using hv)⟩)⟩
end Go.Sx
namespace Go.Sx
open Go

variable [Ghost] {P:Program} {o:Oper} {ev:Operand→SV} {H:List SObj} {K:Out→List SObj→Prop}

def View(C:Cx)(t:Ty)(v:Value)(ys:List t.den):Prop:=
 ∃A c,v= .slice A ys.length c∧ys.length≤c∧(ys= []∨∃b off,A=some ⟨b,off,none⟩∧∀ (i:Nat) y,ys[i]?=some y→Lies C.I C.w b (off+i*t.size) t y)
theorem View.take{C:Cx}{t:Ty}{v:Value}{ys:List t.den}(h:View C t v ys)(n:Nat):∃A c,v= .slice A ys.length c∧ys.length≤c∧(ys.take n= []∨∃b off,A=some ⟨b,off,none⟩∧∀ (i:Nat) y,(ys.take n)[i]?=some y→Lies C.I C.w b (off+i*t.size) t y):=by
 obtain ⟨A,c,rfl,hc,h⟩:=h;refine ⟨A,c,rfl,hc,?_⟩;rcases h with rfl| ⟨b,off,rfl,h⟩
 · exact .inl (by simp)
 exact .inr ⟨b,off,rfl,fun i y hy=>h i y (by rw [AH] at hy;split at hy;exact hy;cases hy)⟩
def ownPart(t:Ty)(k i n:Nat):SObj→Option (List t.den×Prop)
 |.row t' xs=>if h:t'=t then (if k=0 then some (cast (by rw [h]) ((xs.drop i).take n),i+n≤xs.length) else none)
  else match xs with
   | [x]=>match t'.arrAt x k with
    |some ⟨e,N,ys⟩=>if h:e=t then some (cast (by rw [h]) ((ys.drop i).take n),i+n≤N) else none
    |none=>none
   |_=>none
 |_=>none
def viewOf(t:Ty)(H:List SObj):SV→Option (List t.den×Prop)
 |.isl t' xs=>if h:t'=t then some (cast (by rw [h]) xs,True) else none
 |.fsl t' xs=>if h:t'=t then some (cast (by rw [h]) xs,True) else none
 |.raw (.slice none 0 0)=>some ([],True)
 |.bld h t' n=>if t'=t then (match H[h]? with
  |some o=>ownPart t 0 0 n o
  |none=>none) else none
 |.osl h t' off n=>if t'=t then (match H[h]? with
  |some o=>ownPart t 0 off n o
  |none=>none) else none
 |.csl h t' k i n=>if t'=t then (match H[h]? with
  |some o=>ownPart t k i n o
  |none=>none) else none
 |_=>none
theorem q8p{C:Cx}{t:Ty}{h k i n:Nat}{o:SObj}{ys:List t.den}{p:Prop}(hw:Wd C H)(hH:H[h]?=some o)(ho:ownPart t k i n o=some (ys,p))(hp:p):
 ys.length=n∧∀b,C.ρ h=some b→∀ (j:Nat) y,ys[j]?=some y→Lies C.I C.w b (i*t.size+k+j*t.size) t y:=by
 unfold ownPart at ho;split at ho
 · rename_i t' xs;split at ho
   · rename_i e;subst e;split at ho
     · rename_i hk;subst hk;cases ho;simp only [cast_eq];refine ⟨by simp;omega,fun b hb j y hy=> ?_⟩
       rw [AH] at hy;split at hy
       · rw [AF] at hy;obtain ⟨b',hb',hl⟩:=q1Q hw hH hy;rw [hb] at hb';cases hb';rwa [AK,←Nat.add_mul]
       cases hy
     cases ho
   split at ho
   · rename_i x;split at ho
     · rename_i e N zs hz;split at ho
       · rename_i he;subst he;cases ho;simp only [cast_eq];obtain ⟨b0,hb0,hl⟩:=q1Q hw hH (i:=0) (x:=x) rfl;obtain ⟨g1,g2⟩:=q3T t' hz hl;obtain ⟨g3,g4⟩:=(q3q g2).1 g1;simp only at g2 g3 g4;refine ⟨by simp;omega,fun b hb j y hy=> ?_⟩
         rw [hb] at hb0;cases hb0;rw [AH] at hy;split at hy
         · rw [AF] at hy;have:=g4 _ _ hy;rw [g2,AM,AM,show i+k+j=0*t'.size+k+ (i+j) by omega]
           exact this
         cases hy
       cases ho
     cases ho
   cases ho
 cases ho
theorem j1R{C:Cx}{t:Ty}{s:SV}{v:Value}{ys:List t.den}{p:Prop}(hw:Wd C H)(hs:viewOf t H s=some (ys,p))(hp:p)(hd:s.den C v):View C t v ys:=by
 unfold viewOf at hs;have isl:∀ {xs:List t.den},(Ty.slice t).rel C.I C.w xs [v]→View C t v xs:=by
  rintro xs ⟨A,n,c,e,rfl,hc,_,h⟩;cases e;refine ⟨A,c,rfl,hc,?_⟩;rcases h with rfl| ⟨b,off,rfl,_,h⟩
  · exact .inl rfl
  exact .inr ⟨b,off,rfl,fun i y hy=>h i y hy⟩
 have own:∀ {h k i n:Nat} {o:SObj},H[h]?=some o→ownPart t k i n o=some (ys,p)→(∃A c,v= .slice A n c∧n≤c∧(n=0∨∃b,C.ρ h=some b∧A=some ⟨b,i*t.size+k,none⟩))→View C t v ys:=by
  rintro h k i n o hH ho ⟨A,c,rfl,hc,h1⟩;obtain ⟨hl,h2⟩:=q8p hw hH ho hp;refine ⟨A,c,by rw [hl],by omega,?_⟩
  rcases h1 with rfl| ⟨b,hb,rfl⟩
  · exact .inl (A7 hl)
  exact .inr ⟨b,_,rfl,fun j y hy=>h2 b hb j y hy⟩
 split at hs
 · split at hs
   · rename_i e;subst e;cases hs;rw [SV.den] at hd;exact isl hd
   cases hs
 · split at hs
   · rename_i e;subst e;cases hs;rw [SV.den] at hd;exact isl hd.1
   cases hs
 · cases hs;rw [SV.den] at hd;subst hd;exact ⟨none,0,rfl,Ae _,.inl rfl⟩
 · split at hs
   · rename_i e;subst e;split at hs
     · rename_i hH;refine own hH hs ?_;rw [SV.den] at hd;obtain ⟨_,⟨_,rfl,rfl⟩ | ⟨b,c,m,hb,rfl,hc,_⟩⟩:=hd
       · exact ⟨_,_,rfl,Ae _,.inl rfl⟩
       exact ⟨_,_,rfl,hc,.inr ⟨b,hb,by rw [Be]⟩⟩
     cases hs
   cases hs
 · split at hs
   · rename_i e;subst e;split at hs
     · rename_i hH;refine own hH hs ?_;rw [SV.den] at hd;obtain ⟨_,A,c,rfl,hc,h⟩:=hd;exact ⟨A,c,rfl,hc,orMap h id fun ⟨b,hb,hA⟩=>⟨b,hb,hA⟩⟩
     cases hs
   cases hs
 · split at hs
   · rename_i e;subst e;split at hs
     · rename_i hH;refine own hH hs ?_;rw [SV.den] at hd;obtain ⟨_,A,c,rfl,hc,h⟩:=hd;exact ⟨A,c,rfl,hc,h⟩
     cases hs
   cases hs
 cases hs
theorem z3Y{C:Cx}{t:Ty}{v:Value}{ys:List t.den}(h:View C t v ys)(n:Nat)(hn:n≤ys.length):∃news,relL C.I C.w t (ys.take n) news∧(Builtin.firstCells t.size n v).run P C.w= .ok news.toArray C.w:=by
 obtain ⟨A,c,rfl,_,hh⟩:=h.take n;have hl:(ys.take n).length=n:=by simp;omega
 obtain ⟨news,g1,g2⟩:=q1g (P:=P) (C:=C) (A:=A) (c:=c) (ys:=ys.take n) (by
  rcases hh with hh| ⟨b,off,rfl,hh⟩
  · exact .inl hh
  exact .inr ⟨b,off,rfl,fun i y hy=>hh i y hy⟩)
 refine ⟨news,g1,?_⟩;rw [hl] at g2;cases A<;>exact g2

def putPart(t:Ty)(k i:Nat)(ys:List t.den):SObj→Option (SObj×Prop)
 |.row t' xs=>if h:t'=t then (if k=0 then some (.row t' (splice xs i (cast (by rw [h]) ys)),i+ys.length≤xs.length∧0<xs.length) else none)
  else match xs with
   | [x]=>match t'.modR x k i t ys with
    |some (y,p)=>some (.row t' [y],p)
    |none=>none
   |_=>none
 |_=>none
theorem q9H{e:Ty}:∀ (t:Ty) {x:t.den} {k i:Nat} {ys:List e.den} {r:t.den×Prop},t.modR x k i e ys=some r→e.size=1
 |.prod a c,x,k,i,ys,r,h=>by
  simp only [Ty.modR] at h;split at h
  · split at h
    · exact q9H a (by assumption)
    cases h
  split at h
  · exact q9H c (by assumption)
  cases h
 |.arr n e',_,_,_,_,_,h=>by
  simp only [Ty.modR] at h;split at h
  · rename_i hc;rw [hc.2.1];exact hc.2.2
  cases h
 |.u8,_,_,_,_,_,h=>by cases h
 |.int _,_,_,_,_,_,h=>by cases h
 |.bool,_,_,_,_,_,h=>by cases h
 |.str,_,_,_,_,_,h=>by cases h
 |.slice _,_,_,_,_,_,h=>by cases h
 |.unit,_,_,_,_,_,h=>by cases h
 |.ptr _,_,_,_,_,_,h=>by cases h
 |.clo _ _,_,_,_,_,_,h=>by cases h
 |.clp _ _,_,_,_,_,_,h=>by cases h
 |.mbs _,_,_,_,_,_,h=>by cases h
theorem q7E{I:Nat→Prop}{w:World}{t:Ty}:∀ {xs ys:List t.den} {us ws:List Value} {i:Nat},relL I w t xs us→relL I w t ys ws→i+ys.length≤xs.length→relL I w t (splice xs i ys) (splice us (i*t.size) ws):=by
 intro xs ys us ws i hx hy hi;have key:∀ (n:Nat) {xs:List t.den} {us:List Value},relL I w t xs us→n≤xs.length→relL I w t (xs.take n) (us.take (n*t.size))∧relL I w t (xs.drop n) (us.drop (n*t.size)):=by
  intro n;induction n with
  |zero=>intro xs us h _;simp only [Be,BL,Au];exact ⟨rfl,h⟩
  |succ n ih=>
   intro xs us h hn;cases xs with
   |nil=>simp at hn
   |cons x xs=>
    obtain ⟨u1,u2,rfl,h1,h2⟩:=h;have hl:=t.rel_size _ _ h1;obtain ⟨g1,g2⟩:=ih h2 (by simpa using hn)
    have e:(n+1)*t.size=u1.length+n*t.size:=by rw [Nat.add_mul,B3,hl,Bm]
    have t1:(u1++u2).take ((n+1)*t.size)=u1++u2.take (n*t.size):=by
     rw [e,Cw,Ah (l:=u1) (by omega)];congr 2;omega
    have t2:(u1++u2).drop ((n+1)*t.size)=u2.drop (n*t.size):=by
     rw [e,BS,AY (as:=u1) (by omega),As];congr 1;omega
    rw [t1,t2];exact ⟨⟨u1,_,rfl,h1,g1⟩,g2⟩
 obtain ⟨k1,_⟩:=key i hx (by omega)
 obtain ⟨_,k2⟩:=key (i+ys.length) hx hi;have hl:=q0S hy;unfold splice;rw [hl,←Nat.add_mul];exact q1C (q1C k1 hy) k2
theorem z9j{c:Call}{T T' e':TypeId}{x y:Operand}{t:Ty}{h k i n m:Nat}{ob ob':SObj}{ys:List t.den}{p q:Prop}(hop:o.op= .call c)(hc:c.callee= .builtin .copy)(ha:c.args= #[x,y])(hty:c.argTypes= #[T,T'])
 (hT:P.underlying T=some (.slice e'))(hsz:(P.info? e').map (·.size)=some t.size)
 (hx:∀C v,(ev x).den C v→∃b c,C.ρ h=some b∧v= .slice (some ⟨b,i*t.size+k,none⟩) n c)(hy:viewOf t H (ev y)=some (ys,p))(hp:p)(hm:m=min ys.length n)(hH:H[h]?=some ob)(ho:putPart t k i (ys.take m) ob=some (ob',q))(hq:q)
 (hk:K (.ret (.raw (.int .i64 m))) (H.set h ob')):OpV P o ev H K:=by
 refine q0R (by rw [hop];intro c hc;cases hc) fun C e hw hv=> ?_
 obtain ⟨b,cc,hb,h1⟩:=hx C _ (hv x (by rw [hop];simp [Op.operands,Call.operands,hc,ha]))
 have hvw:=j1R hw hy hp (hv y (by rw [hop];simp [Op.operands,Call.operands,hc,ha]))
 have hm':m≤ys.length:=by rw [hm];exact Nat.min_le_left _ _
 obtain ⟨news,n1,n2⟩:=z3Y (P:=P) hvw m hm';have htl:(ys.take m).length=m:=by simp;omega
 have hnl:=q0S n1;rw [htl] at hnl;obtain ⟨A',c',hyv,_,_⟩:=hvw;have h1c:∀u∈news,u.oneCell'=true:=q8w n1;have main:∃C',(storeCells ⟨b,i*t.size+k,none⟩ news 0).run P C.w= .ok () C'.w∧Wd C' (H.set h ob')∧Ext ⟨C,H⟩ C' (H.set h ob')∧Evo C C':=by
  unfold putPart at ho;split at ho
  · rename_i t' xs;split at ho
    · rename_i et;subst et;split at ho
      · rename_i hk0;subst hk0;cases ho;simp only [cast_eq,AK];obtain ⟨q1,q2⟩:=hq;rw [htl] at q1;have:(i+m)*t'.size≤xs.length*t'.size:=AX _ q1;rw [Nat.add_mul] at this;exact q4W (P:=P) hw hH hb (by intro h;simp [h] at q2) (q0s (by rw [htl];exact q1)) (by rw [hnl];exact this) h1c (fun us hu=>q7E hu n1 (by rw [htl];exact q1))
      cases ho
    split at ho
    · rename_i hne x0;split at ho
      · rename_i y0 p0 hmod;cases ho;have ht1:=q9H t' hmod;have hws:=(q3s ht1).1 n1;obtain ⟨b0,hb0,us0,hr0,_⟩:=q1Q hw hH (i:=0) (x:=x0) rfl;have hcap:=(q4f t' hmod hq hws hr0).2.1;rw [htl] at hcap;refine q4W (P:=P) hw hH hb (by simp) rfl (by simp only [Bo,B3,ht1,AM,hnl];omega) h1c fun us hu=> ?_
        rw [q2Y] at hu⊢;have:=(q4f t' hmod hq hws hu).1;rwa [ht1,AM,Bm]
      cases ho
    cases ho
  cases ho
 obtain ⟨C',hrun,g1,g2,g3⟩:=main;refine ⟨_,.int .i64 m,_,C',hk,.inl ?_,g1,g2,by rw [SV.den]⟩
 have e1:Nat.min ys.length n=m:=hm.symm;have hcp:(Builtin.copy_ #[T,T'] o.type #[e x,e y]).run P C.w= .ok (.int .i64 m) C'.w:=by
  rw [hyv] at n2;simp [Builtin.copy_,h1,hyv,run_underlying' hT,Builtin.lenOf,Result.andThen,q0j hsz,e1,n2,hrun,goInt]
 simp [execOp,hop,resolve,hc,ha,hty,invoke,builtin,hcp,Result.andThen]

theorem z4R{T e':TypeId}{x i:Operand}{e:Ty}{n:Nat}{xs:List e.den}{k:IntKind}{j:Int}{s:SV}(hop:o.op= .index T x i)(ht:P.underlying T=some (.array n e'))(hag:aggOf P e'=some none)(hsz:(P.info? e').map (·.size)=some 1)(he:e.size=1)
 (hx:ev x= .dat (.arr n e) xs)(hi:ev i= .raw (.int k j))(h0:0≤j)(hb:j.toNat<n)(hs:e.cells (xs.getD j.toNat e.dflt)= [s])(hk:K (.ret s) H):OpV P o ev H K:=by
 refine q0i (by rw [hop];intro c hc;cases hc) (s:=s) (fun C ee hw hv=> ?_) hk
 have h1:=hv x (by rw [hop];simp [Op.operands])
 have h2:=hv i (by rw [hop];simp [Op.operands])
 rw [hx,SV.den] at h1;rw [hi,SV.den] at h2;obtain ⟨vs,h1,hr⟩:=h1;obtain ⟨hn,hl,hr⟩:=(q0W he).1 hr;have hy:xs[j.toNat]?=some (xs.getD j.toNat e.dflt):=by rw [Ad,Ab (by omega)];rfl
 have hu:vs[j.toNat]?=some (vs[j.toNat]'(by omega)):=Ab (by omega)
 have hd:=e.cells_den _ _ (hr _ _ _ hy hu);rw [hs] at hd;obtain ⟨v,us,hv1,hd,_⟩:=q0c.1 hd;simp only [List.cons.injEq] at hv1;refine ⟨vs[j.toNat]'(by omega),?_,hv1.1▸hd⟩
 have hlt:j< (n:Int):=by omega
 have hu':vs.toArray[j.toNat]?=some (vs[j.toNat]'(by omega)):=by simpa using hu
 have hjl:j.toNat<vs.length:=by omega
 simp [execOp,hop,h1,h2,Instr.index,asIntOf,run_underlying' ht,h0,hlt,q0j hsz,part,q2C hag,hjl,Result.andThen]

theorem q8r{T e':TypeId}{x i:Operand}{n m:Nat}{ag:Option Nat}{l:List SV}{k:IntKind}{j:Int}{s:SV}(hop:o.op= .index T x i)(ht:P.underlying T=some (.array n e'))(hag:aggOf P e'=some ag)(hsz:(P.info? e').map (·.size)=some m)
 (hx:ev x= .agg l)(hi:ev i= .raw (.int k j))(h0:0≤j)(hb:j.toNat<n)(hp:pick l (j.toNat*m) ag=some s)(hk:K (.ret s) H):OpV P o ev H K:=by
 refine q0i (by rw [hop];intro c hc;cases hc) (s:=s) (fun C ee hw hv=> ?_) hk
 have h1:=hv x (by rw [hop];simp [Op.operands])
 have h2:=hv i (by rw [hop];simp [Op.operands])
 rw [hx,SV.den] at h1;rw [hi,SV.den] at h2;obtain ⟨vs,h1,hl⟩:=h1;have hlt:j< (n:Int):=by omega
 obtain ⟨v,g1,g2⟩:=q6t hag hl hp C.w;exact ⟨v,by simp [execOp,hop,h1,h2,Instr.index,asIntOf,run_underlying' ht,h0,hlt,q0j hsz,g1,Result.andThen],g2⟩

theorem z4f{T e':TypeId}{x i:Operand}{e:Ty}{n m:Nat}{xs:List e.den}{k:IntKind}{j:Int}(hop:o.op= .index T x i)(ht:P.underlying T=some (.array n e'))(hag:aggOf P e'=some (some m))(hsz:(P.info? e').map (·.size)=some m)(he:e.size=1)
 (hx:ev x= .dat (.arr (n*m) e) xs)(hi:ev i= .raw (.int k j))(h0:0≤j)(hb:j.toNat<n)(hk:K (.ret (.dat (.arr m e) ((xs.drop (j.toNat*m)).take m))) H):OpV P o ev H K:=by
 refine q0i (by rw [hop];intro c hc;cases hc) (s:=.dat (.arr m e) ((xs.drop (j.toNat*m)).take m)) (fun C ee hw hv=> ?_) hk
 have h1:=hv x (by rw [hop];simp [Op.operands])
 have h2:=hv i (by rw [hop];simp [Op.operands])
 rw [hx,SV.den] at h1;rw [hi,SV.den] at h2;obtain ⟨vs,h1,hr⟩:=h1;obtain ⟨hn,hl,hr⟩:=(q0W he).1 hr;have hlt:j< (n:Int):=by omega
 have hle:j.toNat*m+m≤n*m:=by
  have:=AX m (Nat.succ_le_of_lt hb);rwa [Nat.succ_mul] at this
 refine ⟨.agg ((vs.drop (j.toNat*m)).take m).toArray,?_,?_⟩
 · simp [execOp,hop,h1,h2,Instr.index,asIntOf,run_underlying' ht,h0,hlt,q0j hsz,part,q2C hag,Result.andThen]
 rw [SV.den];refine ⟨_,rfl,(q0W he).2 ⟨?_,?_,fun a y u hy hu=> ?_⟩⟩
 · rw [Aw,Ak];omega
 · rw [Aw,Ak];omega
 rw [AH] at hy hu;split at hy
 · rename_i ha;rw [if_pos ha] at hu;rw [AF] at hy hu;exact hr _ _ _ hy hu
 cases hy

def putAll(t:Ty)(pl:Nat→Option (Nat×Nat)):t.den→Prop→List (Nat×SV)→Option (t.den×Prop)
 |x,p,[]=>some (x,p)
 |x,p,(i,s) :: rest=>match pl i with
  |some (off,n)=>match t.putV x off n s with
   |some (y,q)=>putAll t pl y (p∧q) rest
   |none=>none
  |none=>none
theorem z3S{t:Ty}{pl:Nat→Option (Nat×Nat)}:∀ {ps:List (Nat×SV)} {x x':t.den} {p p':Prop},putAll t pl x p ps=some (x',p')→p'→p
 | [],_,_,_,_,h,hp=>by cases h;exact hp
 | (i,s) :: rest,x,x',p,p',h,hp=>by
  simp only [putAll] at h;split at h
  · split at h
    · exact (z3S h hp).1
    cases h
  cases h
theorem q7R{C:Cx}{t:Ty}{pl:Nat→Option (Nat×Nat)}:∀ {ps:List (Nat×SV)} {qs:List (Nat×Value)} {x x':t.den} {p p':Prop} {vs:List Value},t.rel C.I C.w x vs→
 (ps.map (·.1)=qs.map (·.1))→SV.denL C (ps.map (·.2)) (qs.map (·.2))→putAll t pl x p ps=some (x',p')→p'→∃us,Instr.fill pl vs.toArray qs=some us.toArray∧t.rel C.I C.w x' us
 | [],[],x,x',p,p',vs,hz,_,_,h,_=>by cases h;exact ⟨vs,rfl,hz⟩
 | [],_ :: _,_,_,_,_,_,_,h,_,_,_=>by simp at h
 |_ :: _,[],_,_,_,_,_,_,h,_,_,_=>by simp at h
 | (i,s) :: ps,(j,v) :: qs,x,x',p,p',vs,hz,hi,hd,h,hp=>by
  simp only [AT,List.cons.injEq] at hi;obtain ⟨rfl,hi⟩:=hi;simp only [AT] at hd;obtain ⟨v',us,e,hv,hd⟩:=q0c.1 hd;simp only [List.cons.injEq] at e;obtain ⟨rfl,rfl⟩:=e;simp only [putAll] at h;split at h
  · rename_i off n hpl;split at h
    · rename_i y q hy;obtain ⟨g1,g2,g3,g4⟩:=q4B t hy (z3S h hp).2 hv hz;obtain ⟨us,h1,h2⟩:=q7R g1 hi hd h hp;refine ⟨us,?_,h2⟩;have hsz:=t.rel_size _ _ hz;rw [Instr.fill];simp only [hpl];rw [if_neg (by simp only [AO,BW,decide_eq_true_eq,not_or];simp only [Av] at g3;omega)]
      have:(v.cells.zipIdx.foldl (fun cs x=>cs.setIfInBounds (off+x.2) x.1) vs.toArray)=(splice vs off v.cells.toList).toArray:=by
       have:=q6V v.cells.toList off 0 vs.toArray (by simp only [AO];simp only [Av] at g3⊢;omega)
       rw [AK] at this;rw [←CK,Array.toList_zipIdx];apply Array.ext';rw [this]
      rw [←h1,←this]
    cases h
  cases h
theorem z4w{t:TypeId}{ty:Ty}{parts:Array (Nat×Operand)}{zs:List Value}{pl:PlaceK}{x:ty.den}{p:Prop}(hop:o.op= .build t parts)(hz:(P.info? t).bind (fun i=>i.zero.map (·.cells.toList))=some zs)(hzt:ty.isZero zs=true)
 (hpl:placesOf P t=some pl)(hf:putAll ty pl.fn ty.dflt True (parts.toList.map fun p=>(p.1,ev p.2))=some (x,p))(hp:p)(hk:K (.ret (.dat ty x)) H):OpV P o ev H K:=by
 refine q0i (by rw [hop];intro c hc;cases hc) (fun C e _ hv=> ?_) hk
 rw [hop] at hv;simp only [Op.operands] at hv;have hparts:SV.denL C ((parts.toList.map fun p=>(p.1,ev p.2)).map (·.2)) ((parts.toList.map fun p=>(p.1,e p.2)).map (·.2)):=by
  simp only [BO];have:=q2f (C:=C) (ev:=ev) (e:=e) (parts.toList.map (·.2)) (fun x hx=>hv x (by simpa using hx))
  simp only [BO] at this;exact this
 obtain ⟨us,h1,h2⟩:=q7R (C:=C) (qs:=parts.toList.map fun p=>(p.1,e p.2)) (Ty.isZero_rel hzt) (by simp) hparts hf hp
 refine ⟨.agg us.toArray,?_,by rw [SV.den];exact ⟨us,rfl,h2⟩⟩
 cases hi:P.info? t with
 |none=>simp [hi] at hz
 |some i=>
  cases hz0:i.zero with
  |none=>simp [hi,hz0] at hz
  |some z=>
   simp [hi,hz0] at hz;have hzz:z.cells=zs.toArray:=by rw [←hz]
   have hzr:(zeroValue t).run P C.w= .ok z C.w:=by simp [zeroValue,typeInfo,hi,hz0]
   unfold placesOf at hpl;split at hpl
   · rename_i fs hu;cases hpl':(fs.toList.mapM (m:=Option) fun f=>(P.info? f.type).map fun i=>(f.offset,i.size)) with
     |none=>rw [hpl'] at hpl;cases hpl
     |some l=>
      rw [hpl'] at hpl;cases hpl;have hm:=q4t (P:=P) (w:=C.w) hpl';have hm':(fs.mapM (m:=Sem) fun f=>do pure (f.offset,←sizeOf f.type)).run P C.w= .ok l.toArray C.w:=by
       rw [B9];simp only [Sem.run_map];rw [hm];rfl
      have hfill:Instr.fill (l.toArray[·]?) zs.toArray (parts.map fun p=>(p.1,e p.2)).toList=some us.toArray:=by
       rw [←h1];congr 1
       · funext j;simp [PlaceK.fn]
       simp
      simp only [execOp,hop,Sem.run_bind,Instr.build,hzr,Result.andThen,run_underlying' hu]
      erw [hm']
      simp only [hzz]
      erw [hfill]
      rfl
   · rename_i n e' hu;cases hie:P.info? e' with
     |none=>simp [hie] at hpl
     |some ie=>
      simp [hie] at hpl;subst hpl;have hse:(sizeOf e').run P C.w= .ok ie.size C.w:=q0j (by simp [hie]) C.w
      have hfill:Instr.fill (fun i=>some (i*ie.size,ie.size)) zs.toArray (parts.map fun p=>(p.1,e p.2)).toList=some us.toArray:=by
       rw [←h1];congr 1;simp
      simp only [execOp,hop,Sem.run_bind,Instr.build,hzr,Result.andThen,run_underlying' hu,hse,hzz]
      erw [hfill]
      rfl
   cases hpl
end Go.Sx
