/- A part of the proof: a symbolic executor over abstract values, and its soundness. -/
import Derived.Test.YthbcodbcndiapaaGreatDoorP4
set_option linter.all false
namespace Go.Sx
section
open Go

variable [Ghost] {P:Program} {o:Oper} {ev:Operand->SV} {H:List SObj} {K:Out->List SObj->Prop}

def addB(m sz n:Nat):SV->Option SV
 |.ptr h off=>some (.ptr h (off+n*sz))
 |.iptr t x k=>if t.plain then some (.iptr t x (k+n*sz)) else match t.arrAt x k with
  |some ⟨e,N,ys⟩=>if m*sz=N then (if sz=1 then some (.iptr e (ys.getD n e.dflt) 0) else some (.iptr (.arr sz e) ((ys.drop (n*sz)).take sz) 0)) else none
  |none=>none
 |.rptr h t i k=>if t.plain then (if k=0∧sz=t.size then some (.rptr h t (i+n) 0) else if t.size=1 then some (.rptr h t (i+n*sz) k) else some (.rptr h t i (k+n*sz)))
  else if i=0 then (match t.cellAt k with
   |some e=>some (.rptr h e (n*sz) k)
   |none=>none) else none
 |.raw v=>(SV.raw v).add (n*sz)
 |_=>none
variable {C:Cx}{t:Ty}{y:t.den}
def z2e{b a:Nat}(hI:C.I b)(h:Lies C.I C.w b a t y):(SV.iptr t y 0).den C (.pointer (some ⟨b,a,none⟩)):=by obtain ⟨us,h1,h2⟩:=h;rw [SV.den];exact ⟨b,a,us,by rw [AB],hI,h1,h2⟩
variable {s:SV}{m:Nat}{v:Value}
theorem j1r{s':SV}{sz n:Nat}(hn:n<m)(h:addB m sz n s=some s')(hd:s.den C v):∃b o,v= .pointer (some ⟨b,o,none⟩)∧s'.den C (.pointer (some ⟨b,o+n*sz,none⟩)):=by
 unfold addB at h;split at h
 . cases h;exact q6Z (s:=.ptr _ _) rfl hd
 . split at h
   . cases h;exact q6Z (s:=.iptr _ _ _) rfl hd
   split at h
   . rename_i e N ys hz;split at h
     . rename_i hN;rw [SV.den] at hd;obtain ⟨b,off,vs,rfl,hI,hr,hc⟩:=hd;obtain ⟨g1,g2⟩:=q3U _ hz ⟨vs,hr,hc⟩;simp only at g1 g2;refine ⟨b,_,rfl,?_⟩;split at h
       . rename_i h1;cases h;refine z2e hI ?_;rw [h1,AD];exact g1.elem g2 (by rw [h1,AD] at hN;omega)
       cases h;have:(n+1)*sz<=m*sz:=A4 _ hn;rw [Nat.add_mul] at this;exact z2e hI (g1.part g2 (by omega))
     cases h
   cases h
 . split at h
   . split at h
     . rename_i e;obtain ⟨rfl,e⟩:=e;cases h;rw [SV.den] at hd;obtain ⟨hn,b,hb,rfl⟩:=hd;exact ⟨b,_,rfl,by rw [SV.den];exact ⟨hn,b,hb,by rw [e,Nat.add_mul,AB,AB]⟩⟩
     split at h
     . rename_i e;cases h;rw [SV.den] at hd;obtain ⟨hn,b,hb,rfl⟩:=hd;refine ⟨b,_,rfl,?_⟩;rw [SV.den];exact ⟨hn,b,hb,by rw [e,AD,AD];congr 3;omega⟩
     cases h;exact q6Z (s:=.rptr _ _ _ _) rfl hd
   split at h
   . rename_i h0;subst h0;split at h
     . rename_i e he;cases h;rw [SV.den] at hd;obtain ⟨hn,b,hb,rfl⟩:=hd;refine ⟨b,_,rfl,?_⟩;rw [SV.den];exact ⟨hn,b,hb,by rw [q3X he];congr 3;omega⟩
     cases h
   cases h
 . exact q6Z h hd
 cases h
variable {e':TypeId}{x:Operand}{k:IntKind}
def q4R{t:TypeId}{i:Operand}{len sz:Nat}{n:Int}(hop:o.op= .indexAddr t x i)(ht:P.underlying t=some (.array len e'))(hs:(P.info? e').map (·.size)=some sz)(hi:ev i= .raw (.int k n))
 (ha:addB len sz n.toNat (ev x)=some s)(h0:0<=n)(hb:n.toNat<len)(hk:K (.ret s) H):OpV P o ev H K:=by
 refine q0l (by rw [hop];intro c hc;cases hc) (fun C e _ hv=> ?_) hk;have h2:=hv i (by rw [hop];simp [Op.operands]);rw [hi,SV.den] at h2;obtain ⟨b,p,hx,hd⟩:=j1r hb ha (hv x (by rw [hop];simp [Op.operands]));have hlt:n< (len:Int):=by omega
 exact ⟨_,by simp [execOp,hop,hx,h2,Instr.indexAt,asIntOf,run_underlying' ht,Instr.sureAddr,h0,hlt,q0m hs,q0I,Result.andThen],hd⟩

def slB(m sz lo n:Nat):SV->Option SV
 |.rptr h t i k=>if t.plain then (if k=0∧sz=t.size then some (.osl h t (i+lo) n) else if t.size=1∧sz=1 then some (.csl h t k (i+lo) n) else none)
  else if i=0∧sz=1 then (match t.cellAt k with
   |some e=>some (.csl h e k lo n)
   |none=>none) else none
 |.iptr t x k=>match t.arrAt x k with
  |some ⟨e,N,ys⟩=>if m=N∧sz=1∧N<=1125899906842624 then some (.isl e ((ys.drop lo).take n)) else none
  |none=>none
 |_=>none
theorem z8R{s':SV}{sz lo n c:Nat}(h:slB m sz lo n s=some s')(hln:lo+n<=m)(hc:n<=c)(hd:s.den C v):
 ∃a,v= .pointer (some a)∧∀A,(n≠0->A=some (a.add (lo*sz)))->s'.den C (.slice A n c):=by
 unfold slB at h;split at h
 . split at h
   . split at h
     . rename_i e;obtain ⟨rfl,e⟩:=e;cases h;rw [SV.den] at hd;obtain ⟨hn,b,hb,rfl⟩:=hd;refine ⟨_,rfl,fun A hA=> ?_⟩;rw [SV.den];refine ⟨hn,A,c,rfl,hc,?_⟩;by_cases hz:n=0
       . exact .inl hz
       exact .inr ⟨b,hb,by rw [hA hz,q0I,e,Nat.add_mul,AB]⟩
     split at h
     . rename_i e;obtain ⟨e,rfl⟩:=e;cases h;rw [SV.den] at hd;obtain ⟨hn,b,hb,rfl⟩:=hd;refine ⟨_,rfl,fun A hA=> ?_⟩;rw [SV.den];refine ⟨hn,A,c,rfl,hc,?_⟩;by_cases hz:n=0
       . exact .inl hz
       exact .inr ⟨b,hb,by rw [hA hz,q0I,e];congr 2;omega⟩
     cases h
   split at h
   . rename_i e;obtain ⟨rfl,rfl⟩:=e;split at h
     . rename_i e he;cases h;rw [SV.den] at hd;obtain ⟨hn,b,hb,rfl⟩:=hd;refine ⟨_,rfl,fun A hA=> ?_⟩;rw [SV.den];refine ⟨hn,A,c,rfl,hc,?_⟩;by_cases hz:n=0
       . exact .inl hz
       exact .inr ⟨b,hb,by rw [hA hz,q0I,q3X he];congr 2;omega⟩
     cases h
   cases h
 . split at h
   . rename_i e N ys hz;split at h
     . rename_i hm;obtain ⟨rfl,rfl,hlim⟩:=hm;cases h;rw [SV.den] at hd;obtain ⟨b,off,vs,rfl,hI,hr,hcc⟩:=hd;obtain ⟨g1,g2⟩:=q3U _ hz ⟨vs,hr,hcc⟩;simp only at g1 g2;obtain ⟨g3,g4⟩:=(q3v g2).1 g1;have hl:((ys.drop lo).take n).length=n:=by simp;omega
       refine ⟨_,rfl,fun A hA=> ?_⟩;rw [SV.den];refine ⟨A,n,c,rfl,hl.symm,hc,by omega,?_⟩;by_cases hz:n=0
       . exact .inl (A5 (by omega))
       refine .inr ⟨b,_,by rw [hA hz,q0I],hI,fun i x hx=> ?_⟩;rw [AN] at hx;split at hx
       . rw [AA] at hx;have:=g4 _ _ hx;rw [<-Nat.add_assoc] at this;rw [g2,AD,AD];exact this
       cases hx
     cases h
   cases h
 cases h
def z4P{T:TypeId}{lo hi:Option Operand}{a b:Option Int}{sz:Nat}(hop:o.op= .slice T x lo hi none)(ht:P.underlying T=some (.array m e'))(hsz:(P.info? e').map (·.size)=some sz)(h1:bndV ev lo=some a)(h2:bndV ev hi=some b)
 (g0:0<=loOf a)(g1:loOf a<=hiOf m b)(g2:hiOf m b<=(m:Int))(hs:slB m sz (loOf a).toNat ((hiOf m b).toNat- (loOf a).toNat) (ev x)=some s)(hk:K (.ret s) H):OpV P o ev H K:=by
 refine q0l (by rw [hop];intro c hc;cases hc) (s:=s) (fun C e _ hv=> ?_) hk;rw [hop] at hv;have hx:=hv x (by simp [Op.operands]);have hlo:∀y∈lo,(ev y).den C (e y):=fun y hy=>hv y (by simp [Op.operands];cases hy;simp);have hhi:∀y∈hi,(ev y).den C (e y):=fun y hy=>hv y (by simp [Op.operands];cases hy;simp);obtain ⟨ad,hxv,hden⟩:=z8R (c:=m- (loOf a).toNat) hs (by omega) (by omega) hx;have hb:=q3q (P:=P) (C:=C) (e:=e) (isS:=false) (len:=m) (cap:=m) hlo hhi h1 h2 C.w g0 g1 g2;refine ⟨.slice (some (if m=(loOf a).toNat then ad else ad.add ((loOf a).toNat*sz))) ((hiOf m b).toNat- (loOf a).toNat) (m- (loOf a).toNat),?_,hden _ fun hne=>by rw [if_neg (by omega)]⟩;simp [execOp,hop,Instr.sliceAt,run_underlying' ht,Instr.sureAddr,hxv,hb,q0m hsz,Result.andThen]
def z2Y{T:TypeId}{hi mx:Operand}{lo:Option Operand}{a:Option Int}{b c:Int}{sz:Nat}(hop:o.op= .slice T x lo (some hi) (some mx))(ht:P.underlying T=some (.array m e'))(hsz:(P.info? e').map (·.size)=some sz)(h1:bndV ev lo=some a)(h2:bndV ev (some hi)=some (some b))(h3:bndV ev (some mx)=some (some c))
 (g0:0<=loOf a)(g1:loOf a<=b)(g2:b<=c)(g3:c<=(m:Int))(hs:slB m sz (loOf a).toNat (b.toNat- (loOf a).toNat) (ev x)=some s)(hk:K (.ret s) H):OpV P o ev H K:=by
 refine q0l (by rw [hop];intro c hc;cases hc) (s:=s) (fun C e _ hv=> ?_) hk;rw [hop] at hv;have hx:=hv x (by simp [Op.operands]);have hlo:∀y∈lo,(ev y).den C (e y):=fun y hy=>hv y (by simp [Op.operands];cases hy;simp);have hhi:(ev hi).den C (e hi):=hv hi (by simp [Op.operands]);have hmx:(ev mx).den C (e mx):=hv mx (by simp [Op.operands]);obtain ⟨ad,hxv,hden⟩:=z8R (c:=c.toNat- (loOf a).toNat) hs (by omega) (by omega) hx;have hb:=q3T (P:=P) (C:=C) (e:=e) (isS:=false) (len:=m) (cap:=m) hlo hhi hmx h1 h2 h3 C.w g0 g1 g2 g3;refine ⟨.slice (some (if c.toNat=(loOf a).toNat then ad else ad.add ((loOf a).toNat*sz))) (b.toNat- (loOf a).toNat) (c.toNat- (loOf a).toNat),?_,hden _ fun hne=>by rw [if_neg (by omega)]⟩;simp [execOp,hop,Instr.sliceAt,run_underlying' ht,Instr.sureAddr,hxv,hb,q0m hsz,Result.andThen]

variable {xs:List t.den}
def z8e{T:TypeId}(hop:o.op= .sliceToArrayPointer T x)(hT:P.underlying T=some (.array m e'))(hx:∀C v,(ev x).den C v->(SV.isl t xs).den C v)(ht:t.size=1)(hm:m<=xs.length)(h0:0<m)
 (hk:K (.ret (.iptr (.arr m t) (xs.take m) 0)) H):OpV P o ev H K:=by
 refine q0l (by rw [hop];intro c hc;cases hc) (fun C e _ hv=> ?_) hk;have h1:=hx _ _ (hv x (by rw [hop];simp [Op.operands]));rw [SV.den] at h1;obtain ⟨A,n,c,e0,rfl,hc,_,h1⟩:=h1;simp only [List.cons.injEq,and_true] at e0;rcases h1 with rfl| ⟨b,off,rfl,hI,h1⟩
 . simp at hm;omega
 refine ⟨.pointer (some ⟨b,off,none⟩),by simp [execOp,hop,e0,Instr.arrayAt,run_underlying' hT,Result.andThen,AT.2 hm],z2e hI ((q3v ht).2 ⟨by simp;omega,fun i y hy=> ?_⟩)⟩;rw [AN] at hy;split at hy
 . obtain ⟨us,g1,g2⟩:=h1 i y hy;rw [ht,AD] at g2;exact ⟨us,g1,g2⟩
 cases hy

def j0H{T:TypeId}(hop:o.op= .box T x)(hx:ev x= .dat t y)(hk:K (.ret (.rptr H.length t 0 0)) (H++ [.row t [y]])):OpV P o ev H K:=by
 refine q0O (by rw [hop];intro c hc;cases hc) fun C e hw hv=> ?_;have h0:=hv x (by rw [hop];simp [Op.operands]);rw [hx,SV.den] at h0;obtain ⟨vs,h0,hr⟩:=h0;have hl:=t.rel_size _ _ hr;obtain ⟨g1,g2,_⟩:=q3J (T:=T) (rest:=[]) (t:=t) (xs:=[y]) (vs:=vs) hw (n:=1) (c:=1) (q3g.2 hr) (by simp) (Af _) (by simp [hl]);rw [Ah] at g1 g2;refine ⟨_,.pointer (some ⟨C.w.heap.size,0,none⟩),_,_,hk,.inl ?_,g1,g2,?_⟩
 . simp [execOp,hop,h0,Instr.box,Result.andThen,newVar,newRow,Cx.grow,Value.cells]
 rw [SV.den];exact ⟨by simp [Cx.grow,hw.n],C.w.heap.size,by simp [Cx.grow,hw.n],by simp⟩
def j0m{T:TypeId}{n:Nat}{ys:List t.den}(hop:o.op= .box T x)(hx:ev x= .dat (.arr n t) ys)(ht:t.size=1)(hk:K (.ret (.rptr H.length t 0 0)) (H++ [.row t ys])):OpV P o ev H K:=by
 refine q0O (by rw [hop];intro c hc;cases hc) fun C e hw hv=> ?_;have h0:=hv x (by rw [hop];simp [Op.operands]);rw [hx,SV.den] at h0;obtain ⟨vs,h0,hr⟩:=h0;have hn:=hr.1;have hl:=(Ty.arr n t).rel_size _ _ hr;simp only [Ty.size,ht,AD] at hl;subst hn;obtain ⟨g1,g2,_⟩:=q3J (T:=T) (rest:=[]) (t:=t) (xs:=ys) (vs:=vs) hw (n:=ys.length) (c:=ys.length) ((q3w ht).2 hr) (by simp) (Af _) (by simp [hl,ht]);rw [Ah] at g1 g2;refine ⟨_,.pointer (some ⟨C.w.heap.size,0,none⟩),_,_,hk,.inl ?_,g1,g2,?_⟩
 . simp [execOp,hop,h0,Instr.box,Result.andThen,newVar,newRow,Cx.grow,Value.cells]
 rw [SV.den];exact ⟨by simp [Cx.grow,hw.n],C.w.heap.size,by simp [Cx.grow,hw.n],by simp⟩
def z5b{T:TypeId}{zs:List Value}(hop:o.op= .alloc T)(hz:(P.info? T).bind (fun i=>i.zero.map (·.cells.toList))=some zs)(hd:t.isZero zs=true)
 (hk:K (.ret (.rptr H.length t 0 0)) (H++ [.row t [t.dflt]])):OpV P o ev H K:=by
 refine q0O (by rw [hop];intro c hc;cases hc) fun C e hw _=> ?_;have hr:=Ty.isZero_rel (I:=C.I) (w:=C.w) hd;have hl:=t.rel_size _ _ hr;obtain ⟨g1,g2,_⟩:=q3J (T:=T) (rest:=[]) (t:=t) (xs:=[t.dflt]) (vs:=zs) hw (n:=1) (c:=1) (q3g.2 hr) (by simp) (Af _) (by simp [hl]);rw [Ah] at g1 g2;refine ⟨_,.pointer (some ⟨C.w.heap.size,0,none⟩),_,_,hk,.inl ?_,g1,g2,?_⟩
 . cases hi:P.info? T with
   |none=>simp [hi] at hz
   |some i=>
    cases hz0:i.zero with
    |none=>simp [hi,hz0] at hz
    |some z=>simp [hi,hz0] at hz;simp [execOp,hop,Instr.alloc,zeroValue,typeInfo,hi,hz0,Result.andThen,newVar,newRow,Cx.grow,<-hz]
 rw [SV.den];exact ⟨by simp [Cx.grow,hw.n],C.w.heap.size,by simp [Cx.grow,hw.n],by simp⟩

def Ty.modS:(t:Ty)->t.den->(k i:Nat)->(e:Ty)->e.den->Option (t.den×Prop)
 |.prod a c,x,k,i,e,d=>if k<a.size then (match a.modS x.1 k i e d with
  |some (y,p)=>some ((y,x.2),p)
  |none=>none) else (match c.modS x.2 (k-a.size) i e d with
  |some (y,p)=>some ((x.1,y),p)
  |none=>none)
 |.arr n e',xs,k,i,e,d=>if h:k=0∧e=e'∧e'.size=1 then some (List.set (α:=e'.den) xs i (cast (by rw [h.2.1]) d),i<n) else none
 |.u8,_,_,_,_,_=>none
 |.int _,_,_,_,_,_=>none
 |.bool,_,_,_,_,_=>none
 |.str,_,_,_,_,_=>none
 |.slice _,_,_,_,_,_=>none
 |.unit,_,_,_,_,_=>none
 |.ptr _,_,_,_,_,_=>none
 |.clo _ _,_,_,_,_,_=>none
 |.clp _ _,_,_,_,_,_=>none
 |.mbs _,_,_,_,_,_=>none
variable {i:Nat}
def z5v{α:Type}{xs:List α}{d:α}(h:i<xs.length):splice xs i [d]=xs.set i d:=by unfold splice;rw [List.set_eq_take_append_cons_drop,if_pos h];simp
theorem q6D{C:Cx}{e:Ty}:∀ (t:Ty) {x x':t.den} {k i:Nat} {d:e.den} {p:Prop} {us ws:List Value},t.modS x k i e d=some (x',p)->p->e.rel C.I C.w d ws->t.rel C.I C.w x us->
 t.rel C.I C.w x' (splice us (k+i) ws)∧k+i+1<=t.size∧ws.length=1
 |.prod a c,x,x',k,i,d,p,us,ws,h,hp,hd,hr=>by
  simp only [Ty.modS] at h;obtain ⟨v1,v2,rfl,r1,r2⟩:=hr;have hl1:=a.rel_size _ _ r1;split at h
  . split at h
    . rename_i hy;cases h;obtain ⟨g1,g2,g3⟩:=q6D a hy hp hd r1;rw [q4q (by omega)];exact ⟨⟨_,_,rfl,g1,r2⟩,by simp only [Ty.size];omega,g3⟩
    cases h
  split at h
  . rename_i hlt _ _ _ hy;cases h;obtain ⟨g1,g2,g3⟩:=q6D c hy hp hd r2;rw [q3M (by omega),hl1,show k+i-a.size=k-a.size+i by omega];exact ⟨⟨_,_,rfl,r1,g1⟩,by simp only [Ty.size];omega,g3⟩
  cases h
 |.arr n e',xs,x',k,i,d,p,us,ws,h,hp,hd,hr=>by
  simp only [Ty.modS] at h;split at h
  . rename_i hc;obtain ⟨rfl,rfl,he⟩:=hc;cases h;have hwl:=e.rel_size _ _ hd;rw [he] at hwl;have hn:=hr.1;have hlt:i<List.length (α:=e.den) xs:=by omega
    have hws:(Ty.arr [d].length e).rel C.I C.w [d] ws:=(q3w he).1 (q3g.2 hd);have:=q4i (C:=C) (e:=e) (.arr n e) (x:=xs) (k:=0) (i:=i) (ys:=[d]) (us:=us) (ws:=ws) (x':=splice (α:=e.den) xs i [d]) (p:=i+1<=n) (by simp [Ty.modR,he]) (by omega) hws hr;obtain ⟨g1,g2,g3⟩:=this;rw [z5v hlt] at g1;exact ⟨g1,g2,hwl⟩
  cases h
 |.u8,_,_,_,_,_,_,_,_,h,_,_,_=>by cases h
 |.int _,_,_,_,_,_,_,_,_,h,_,_,_=>by cases h
 |.bool,_,_,_,_,_,_,_,_,h,_,_,_=>by cases h
 |.str,_,_,_,_,_,_,_,_,h,_,_,_=>by cases h
 |.slice _,_,_,_,_,_,_,_,_,h,_,_,_=>by cases h
 |.unit,_,_,_,_,_,_,_,_,h,_,_,_=>by cases h
 |.ptr _,_,_,_,_,_,_,_,_,h,_,_,_=>by cases h
 |.clo _ _,_,_,_,_,_,_,_,_,h,_,_,_=>by cases h
 |.clp _ _,_,_,_,_,_,_,_,_,h,_,_,_=>by cases h
 |.mbs _,_,_,_,_,_,_,_,_,h,_,_,_=>by cases h

variable {h k:Nat}
def q3G(hd:(SV.rptr h t i k).den C v):∃b,C.ρ h=some b∧v= .pointer (some ⟨b,i*t.size+k,none⟩):=by rw [SV.den] at hd;exact hd.2
def q9j{T:TypeId}(hop:o.op= .load T x)(ht:aggOf P T=some (some m))(he:ev x= .rptr h t i 0)(hH:H[h]?=some (.row t xs))(h1:t.size=1)(hm:0<m)(hi:i+m<=xs.length)
 (hk:K (.ret (.dat (.arr m t) ((xs.drop i).take m))) H):OpV P o ev H K:=
 q4I hop ht (fun C v hw hv=>by
  rw [he] at hv;obtain ⟨b,hb,rfl⟩:=q3G hv;obtain ⟨b',hb',hl⟩:=q9e hw hH h1 hi hm;rw [hb] at hb';cases hb'
  exact ⟨b,_,_,_,rfl,by rw [h1,AD];exact hl,by simp [SV.ofT,Ty.plain],.inr (by simp [Ty.size,h1])⟩) hk
variable {ag:Option Nat}
def z1q{T:TypeId}{t2:Ty}{y:t2.den}(hop:o.op= .load T x)(ht:aggOf P T=some ag)(he:ev x= .rptr h t i k)(hH:H[h]?=some (.row t xs))(hi:i<xs.length)(hg:t.get (xs.getD i t.dflt) k (ag.getD 1)=some ⟨t2,y⟩)(hs:SV.ofT ag t2 y=some s)
 (hk:K (.ret s) H):OpV P o ev H K:=
 q4I hop ht (fun C v hw hv=>by
  rw [he] at hv;obtain ⟨b,hb,rfl⟩:=q3G hv;obtain ⟨b',hb',hl⟩:=q1Q hw hH (x:=xs.getD i t.dflt) (by rw [Aa,Ac hi];rfl);rw [hb] at hb';cases hb';obtain ⟨g1,g2⟩:=z0L t hg hl;refine ⟨b,_,t2,y,rfl,g1,hs,?_⟩;cases ag with
  |none=>exact .inl rfl
  |some m=>exact .inr (by simp at g2;rw [g2])) hk
variable {z:t.den}
def q9H{T:TypeId}{t2:Ty}{y:t2.den}(hop:o.op= .load T x)(ht:aggOf P T=some ag)(he:ev x= .iptr t z k)(hg:t.get z k (ag.getD 1)=some ⟨t2,y⟩)(hs:SV.ofT ag t2 y=some s)
 (hk:K (.ret s) H):OpV P o ev H K:=
 q4I hop ht (fun C v hw hv=>by
  rw [he,SV.den] at hv;obtain ⟨b,off,us,rfl,hI,hr,hc⟩:=hv;obtain ⟨g1,g2⟩:=z0L t hg ⟨us,hr,hc⟩;refine ⟨b,_,t2,y,rfl,g1,hs,?_⟩;cases ag with
  |none=>exact .inl rfl
  |some m=>exact .inr (by simp at g2;rw [g2])) hk
def q6d{T:TypeId}{N:Nat}{t' e:Ty}{z:t'.den}{ys:List e.den}(hop:o.op= .load T x)(ht:aggOf P T=some ag)(he:ev x= .rptr h t i k)(h1:t.size=1)(hH:H[h]?=some (.row t' [z]))(ha:t'.arrAt z k=some ⟨e,N,ys⟩)
 (hs:(ag=none∧i<N∧e.cells (ys.getD i e.dflt)= [s])∨∃m,ag=some m∧0<m∧i+m<=N∧s= .dat (.arr m e) ((ys.drop i).take m))(hk:K (.ret s) H):OpV P o ev H K:=
 q4I hop ht (fun C v hw hv=>by
  rw [he] at hv;obtain ⟨b,hb,rfl⟩:=q3G hv;obtain ⟨b',hb',hl⟩:=q1Q hw hH (i:=0) (x:=z) rfl;rw [hb] at hb';cases hb';obtain ⟨g1,g2⟩:=q3U t' ha hl;simp only at g1 g2;rw [BF,Ae] at g1;rcases hs with ⟨rfl,hi,hcs⟩ | ⟨m,rfl,hm,hi,rfl⟩
  . exact ⟨b,_,e,_,rfl,by rw [h1,AD,Bs];exact g1.elem g2 hi,by simp only [SV.ofT];rw [hcs],.inl rfl⟩
  exact ⟨b,_,_,_,rfl,by rw [h1,AD,Bs];exact g1.part g2 hi,by simp [SV.ofT,Ty.plain],.inr (by simp [Ty.size,g2])⟩) hk
def q8h{T T':TypeId}{cs:List SV}(hop:o.op= .load T x)(ht:aggOf P T=some ag)(he:ev x= .rptr h t i k)(hH:H[h]?=some (.cells T' cs))(hp:pick cs (i*t.size+k) ag=some s)(hk:K (.ret s) H):OpV P o ev H K:=by refine q0l (by rw [hop];intro c hc;cases hc) (s:=s) (fun C e hw hv=> ?_) hk;have hx:=hv x (by rw [hop];simp [Op.operands]);rw [he] at hx;obtain ⟨b,hb,hv'⟩:=q3G hx;obtain ⟨b',vs,hb',hcell,hd⟩:=hw.obj h _ hH;rw [hb] at hb';cases hb';obtain ⟨v,h1,h2⟩:=q1k ht (b:=b) (base:=0) (off:=i*t.size+k) hd (fun j u hj=>by rw [Ae,q0o hcell];exact hj) hp;rw [Ae] at h1;exact ⟨v,by simp [execOp,hop,hv',Instr.loadAt,Instr.sureAddr,Result.andThen,h1],h2⟩
theorem q4l{T:TypeId}{y:Operand}{ys:List t.den}(hop:o.op= .store T x y)(hs:(P.info? T).map (·.size)=some m)(he:ev x= .rptr h t i 0)(hy:∀C v,(ev y).den C v->(SV.dat (.arr m t) ys).den C v)(hH:H[h]?=some (.row t xs))(h1:t.size=1)(hm:0<m)(hi:i+m<=xs.length)
 (hk:ys.length=m->K (.ret .any) (H.set h (.row t (splice xs i ys)))):OpV P o ev H K:=by
 intro E C r n a next Q hw hg hv h2 h3
 have hlen:ys.length=m:=by have:=hy _ _ (hv y (by rw [hop];simp [Op.operands]));rw [SV.den] at this;obtain ⟨vs,_,hr⟩:=this;exact hr.1
 have main:OpV P o ev H K:=q8t (n:=m) (a:=i) hop hs hH (by intro h;simp [h] at hi;omega) (q0u (by omega)) (fun C v hv=>by
  rw [he] at hv;obtain ⟨b,hb,rfl⟩:=q3G hv;exact ⟨b,hb,by rw [h1,AD,AB]⟩) (by rw [h1,AD];exact hi) (fun C v hw hv=>by
  have hv:=hy _ _ hv;rw [SV.den] at hv;obtain ⟨vs,rfl,hr⟩:=hv;have hl:=(Ty.arr m t).rel_size _ _ hr;simp only [Ty.size,h1,AD] at hl;refine ⟨by simpa [Value.cells] using hl,fun u hu=>q5I _ _ _ hr u (by simpa [Value.cells] using hu),fun us hu=> ?_⟩;have:=q8b (i:=i) hu ((q3w h1).2 (hlen▸hr)) (by omega);rw [h1,AD] at this
  simpa [Value.cells] using this) (hk hlen)
 exact main E C r n a next Q hw hg hv h2 h3
def q9Q{T:TypeId}{y:Operand}{n:Nat}{z':t.den}{p:Prop}(hop:o.op= .store T x y)(hs:(P.info? T).map (·.size)=some n)(he:ev x= .rptr h t 0 k)(hH:H[h]?=some (.row t [z]))(hput:t.putV z k n (ev y)=some (z',p))(hp:p)(hkn:k+n<=t.size)
 (hk:K (.ret .any) (H.set h (.row t [z']))):OpV P o ev H K:=
 q8t (n:=n) (a:=k) (xs':=[z']) hop hs hH (by simp) rfl (fun C v hv=>by
  rw [he] at hv;obtain ⟨b,hb,rfl⟩:=q3G hv;exact ⟨b,hb,by rw [BF,Ae]⟩) (by simpa using hkn) (fun C v hw hv=>by
  obtain ⟨b,_,us0,hr0,_⟩:=q1Q hw hH (i:=0) (x:=z) rfl;obtain ⟨_,g2,g3,_⟩:=q4E t hput hp hv hr0;refine ⟨g3,g2,fun us hu=> ?_⟩;rw [q3g] at hu⊢
  exact (q4E t hput hp hv hu).1) hk
def q8X{T:TypeId}{y:Operand}{t' e:Ty}{z z':t'.den}{d:e.den}{p q:Prop}(hop:o.op= .store T x y)(hs:(P.info? T).map (·.size)=some 1)(he:ev x= .rptr h t i k)(h1:t.size=1)(hH:H[h]?=some (.row t' [z]))(hd:(ev y).datum e=some (d,p))(hp:p)(hm:t'.modS z k i e d=some (z',q))(hq:q)
 (hk:K (.ret .any) (H.set h (.row t' [z']))):OpV P o ev H K:=by
 refine q0O (by rw [hop];intro c hc;cases hc) fun C ee hw hv=> ?_;have hx:=hv x (by rw [hop];simp [Op.operands]);rw [he] at hx;obtain ⟨b,hbb,hpx⟩:=q3G hx;obtain ⟨y1,y2⟩:=q4Y hd hp (hv y (by rw [hop];simp [Op.operands]));obtain ⟨b',hb',us0,hr0,_⟩:=q1Q hw hH (i:=0) (x:=z) rfl;obtain ⟨_,g2,g3⟩:=q6D t' hm hq y1 hr0;rw [h1,AD] at hpx
 obtain ⟨C',hrun,k1,k2,k3⟩:=q5j (P:=P) (a:=i+k) (xs':=[z']) hw hH hbb (by simp) rfl (by simp only [Bx,Cb];omega) y2 (fun us hu=>by
  rw [q3g] at hu⊢;rw [Bs]
  exact (q6D t' hm hq y1 hu).1)
 refine ⟨_,undef,_,C',hk,.inr ⟨?_,rfl⟩,k1,k2,by rw [SV.den];trivial⟩;have hsz':(ee y).cells.size=1:=by rw [<-Au];exact g3
 simp [execOp,hop,hpx,Instr.storeAt,Instr.sureAddr,Result.andThen,storeVar,q0m hs,hsz',hrun]
def q5A{t:TypeId}{i:Operand}{ty:Ty}{kk off:Nat}{k:IntKind}{n:Int}(hop:o.op= .indexAddr t x i)(ht:P.underlying t=some (.slice e'))(hs:(P.info? e').map (·.size)=some ty.size)
 (hx:ev x= .csl h ty kk off m)(hi:ev i= .raw (.int k n))(h0:0<=n)(hb:n.toNat<m)(hk:K (.ret (.rptr h ty (off+n.toNat) kk)) H):OpV P o ev H K:=by
 refine q0l (by rw [hop];intro c hc;cases hc) (fun C e _ hv=> ?_) hk;have h1:=hv x (by rw [hop];simp [Op.operands]);have h2:=hv i (by rw [hop];simp [Op.operands]);rw [hi,SV.den] at h2;rw [hx,SV.den] at h1;obtain ⟨hn,A,c,hv',_,h1⟩:=h1;rcases h1 with rfl| ⟨b,hb',rfl⟩
 . omega
 refine ⟨.pointer (some ⟨b,(off+n.toNat)*ty.size+kk,none⟩),?_,by rw [SV.den];exact ⟨hn,b,hb',rfl⟩⟩;have hlt:n< (m:Int):=by omega
 have e1:(off+n.toNat)*ty.size+kk=off*ty.size+kk+n.toNat*ty.size:=by rw [Nat.add_mul];omega
 rw [e1];simp [execOp,hop,hv',h2,Instr.indexAt,asIntOf,run_underlying' ht,h0,hlt,q0m hs,q0I,Result.andThen]
theorem q1N{I:Nat->Prop}{w:World}{x:t.den}{r:Sigma Ty.den}{vs:List Value}(h:get1 t x k m=some r)(hr:t.rel I w x vs):∃us,r.1.rel I w r.2 us∧us.length=m∧∀j u,us[j]?=some u->vs[k+j]?=some u:=by
 unfold get1 at h;split at h
 . rename_i hc;obtain ⟨rfl,rfl⟩:=hc;cases h;exact ⟨vs,hr,t.rel_size _ _ hr,fun j u hu=>by rw [Ae];exact hu⟩
 cases h
theorem z1U{I:Nat->Prop}{w:World}:∀ (t:Ty) {x:t.den} {k m:Nat} {r:Sigma Ty.den} {vs:List Value},t.get x k m=some r->t.rel I w x vs->∃us,r.1.rel I w r.2 us∧us.length=m∧∀j u,us[j]?=some u->vs[k+j]?=some u
 |.prod a c,x,k,m,r,vs,h,hr=>by
  simp only [Ty.get] at h;split at h
  . rename_i hc;obtain ⟨rfl,rfl⟩:=hc;cases h;exact ⟨vs,hr,(Ty.prod a c).rel_size _ _ hr,fun j u hu=>by rw [Ae];exact hu⟩
  obtain ⟨v1,v2,rfl,r1,r2⟩:=hr;have hl1:=a.rel_size _ _ r1;split at h
  . obtain ⟨us,g1,g2,g3⟩:=z1U a h r1;exact ⟨us,g1,g2,fun j u hu=>by have:=g3 j u hu;rw [Ai (Ag.1 this).1];exact this⟩
  obtain ⟨us,g1,g2,g3⟩:=z1U c h r2;refine ⟨us,g1,g2,fun j u hu=> ?_⟩;rw [Ao (by omega),<-g3 j u hu];congr 1;omega
 |.arr n e,_,_,_,_,_,h,hr=>q1N h hr
 |.u8,_,_,_,_,_,h,hr=>q1N h hr
 |.int ik,_,_,_,_,_,h,hr=>q1N h hr
 |.bool,_,_,_,_,_,h,hr=>q1N h hr
 |.str,_,_,_,_,_,h,hr=>q1N h hr
 |.slice e,_,_,_,_,_,h,hr=>q1N h hr
 |.unit,_,_,_,_,_,h,hr=>q1N h hr
 |.ptr e,_,_,_,_,_,h,hr=>q1N h hr
 |.clo _ e,_,_,_,_,_,h,hr=>q1N h hr
 |.clp _ e,_,_,_,_,_,h,hr=>q1N h hr
 |.mbs e,_,_,_,_,_,h,hr=>q1N h hr
theorem z5s{T ft:TypeId}{f off:Nat}{t2:Ty}{y:t2.den}(hop:o.op= .field T x f)(hf:fieldOf P T f=some (off,ft))(ha:aggOf P ft=some ag)(hx:ev x= .dat t z)(hg:t.get z off (ag.getD 1)=some ⟨t2,y⟩)(hs:SV.ofT ag t2 y=some s)
 (hk:K (.ret s) H):OpV P o ev H K:=by
 refine q0l (by rw [hop];intro c hc;cases hc) (s:=s) (fun C e _ hv=> ?_) hk;have h0:=hv x (by rw [hop];simp [Op.operands]);rw [hx,SV.den] at h0;obtain ⟨vs,h0,hr⟩:=h0;obtain ⟨fs,fy,hu,hy,rfl,rfl⟩:=q5O hf;obtain ⟨us,g1,g2,g3⟩:=z1U t hg hr;have hd:=t2.cells_den _ _ g1;have fin:∀v,(part fy.type vs.toArray fy.offset).run P C.w= .ok v C.w->(execOp e o).run P C.w= .ok (.value v) C.w:=fun v h1=>by simp [execOp,hop,h0,Instr.field,run_underlying' hu,hy,asAgg,h1,Result.andThen]
 cases ag with
 |none=>
  simp only [C5] at g2;obtain ⟨u,rfl⟩:=Bt.1 g2;have hu0:=g3 0 u rfl;rw [AB] at hu0;unfold SV.ofT at hs;simp only at hs;split at hs
  . rename_i s' hcs;cases hs;rw [hcs] at hd;obtain ⟨v,us',e1,hd',_⟩:=q0d.1 hd;simp only [List.cons.injEq] at e1;obtain ⟨rfl,_⟩:=e1;obtain ⟨v',h1,h2⟩:=q4T (C:=C) (off:=fy.offset) (s:=.raw u) ha (q1n vs) (by simp only [pick,rawL,AF,hu0];rfl) C.w;rw [SV.den] at h2;subst h2;exact ⟨_,fin _ h1,hd'⟩
  cases hs
 |some m=>
  simp only [A1] at g2;have hvl:fy.offset+m<=vs.length:=by
   rcases Cr m with h|h
   . subst h;have hz:∀ (t:Ty) {x:t.den} {k:Nat} {r:Sigma Ty.den},t.get x k 0=some r->k<=t.size:=by
      intro t;induction t with
      |prod a c iha ihc=>
       intro x k r h;simp only [Ty.get] at h;split at h
       . rename_i hc;omega
       split at h
       . simp only [Ty.size];omega
       have:=ihc h;simp only [Ty.size];omega
      |_=>intro x k r h;simp only [Ty.get,get1] at h;split at h<;>first| (cases h;done) | (rename_i hc;omega)
     have:=hz t hg;rw [t.rel_size _ _ hr];omega
   have:=g3 (m-1) (us[m-1]'(by omega)) (Ac _);have:=(Ag.1 this).1;omega
  have e1:(vs.drop fy.offset).take m=us:=by
   apply Bf;intro j;rcases AI j m with hj|hj
   . rw [AN,if_pos hj,AA];have:=g3 j (us[j]'(by omega)) (Ac _);rw [this,Ac]
   rw [AW (by simp;omega),AW (by omega)]
  obtain ⟨v',h1,h2⟩:=q4T (C:=C) (s:=.agg (rawL us)) ha (q1n vs) (by
   simp only [pick,rawL,AX]
   rw [if_pos hvl,<-List.map_drop,<-List.map_take,e1]) C.w
  rw [SV.den] at h2;obtain ⟨ws,rfl,h2⟩:=h2;have:=q1l h2;subst this;refine ⟨_,fin _ h1,?_⟩;unfold SV.ofT at hs;simp only at hs;split at hs
  . cases hs;rw [SV.den];exact ⟨_,rfl,hd⟩
  cases hs;rw [SV.den];exact ⟨_,rfl,g1⟩
end
open Go
inductive IOp where
 |mov (x:Operand)
 |pick (c x y:Operand)
 |nil (x:Operand)
 |new (T:TypeId) (zs:List Value)
 |box (T:TypeId) (x:Operand)
 |ld (ag:Option Nat) (x:Operand)
 |st (n:Nat) (x y:Operand)
 |bin (op:BinOp) (k:Nat) (x y:Operand)     -- k: 1 pointers, 2 functions, 3 bools may be compared
 |un (op:UnOp) (x:Operand)
 |toInt (k:IntKind) (x:Operand)
 |toStr (b:Bool) (x:Operand)                 -- b: of bytes, not of a string
 |fa (off:Nat) (x:Operand)
 |fld (off:Nat) (ag:Option Nat) (x:Operand)
 |ia (sz:Nat) (x i:Operand)
 |ixs (x i:Operand)
 |len (k:Bool) (x:Operand)                   -- k: a string
 |ext (i:Nat) (x:Operand)
 |mkf (f:Nat) (fi ca:List Operand)
 |mki (T:TypeId) (x:Operand)
 |bld (zs:List Value) (pl:PlaceK) (ps:List (Nat×Operand))
 |bsl (t:Ty) (n sz:Nat) (zs:List Value) (ps:List (Nat×Operand))
 |app (t:Ty) (by_:Nat) (x y:Operand)
 |sl (k:Option Nat) (x:Operand) (lo hi:Option Operand)   -- k: none: a string; some n: a slice of elements of n cells
 |call (f:Operand) (args:List Operand)
 |pan (x:Operand)
 |mkm (kk:Option IntKind)
 |mup (kk:Option IntKind) (m k x:Operand)
 |mlk (kk:Option IntKind) (z:Value) (ok:Bool) (m k:Operand)
 |mln (x:Operand)
 |mks (t:Ty) (by_:Nat) (x y:Operand)
 |toB (x:Operand)
 |eqs (neg:Bool) (ks:List Nat) (x y:Operand)
 |sl3 (k:Nat) (f:Bool) (x:Operand) (lo:Option Operand) (hi mx:Operand)
 |iaa (len sz:Nat) (x i:Operand)
 |ta (T:TypeId) (z:Value) (x:Operand)
 |mxm (b:Bool) (x y:Operand)
 |arr (t:Ty) (m:Nat)                         -- an array of data of one cell
 |sla (m sz:Nat) (x:Operand) (lo hi:Option Operand)   -- a part of an array
 |ldS (ag:Option Nat) (x:Operand)   -- a load that floats over stores to other objects
 |sgl (t:Ty)                                   -- a variable of a struct's type that holds arrays
 |ixd (n:Nat) (x i:Operand)                  -- an element of an array's value
 |s2a (m:Nat) (x:Operand)                    -- an array out of a slice
 |bdd (t:Ty) (pl:PlaceK) (ps:List (Nat×Operand))   -- a literal of a type that holds arrays
 |cpy (sz:Nat) (x y:Operand)
 |sla3 (m sz:Nat) (x:Operand) (lo:Option Operand) (hi mx:Operand)
 |bsf (T:TypeId) (n:Nat) (zs:List Value) (ps:List (Nat×Operand))    -- a literal slice of functions
 |ixr (n m:Nat) (x i:Operand)               -- an element of an array of arrays
 |apz (t:Ty) (by_:Nat) (x y:Operand)      -- append(x, make([]T, y)...)
 |mke (T:TypeId) (nm:String)                -- a method expression

def tyOf(P:Program):Nat->TypeId->Option Ty
 |0,_=>none
 |n+1,T=>match P.underlying T with
  |some .bool=>some .bool
  |some (.int .u8)=>some .u8
  |some (.int k)=>some (.int k)
  |some .string=>some .str
  |some (.slice e)=>(tyOf P n e).map .slice
  |some (.struct fs)=>fs.toList.foldr (fun f acc=>match tyOf P n f.type,acc with
   |some a,some (some b)=>some (some (.prod a b))
   |some a,some none=>some (some a)
   |_,_=>none) (some none) |>.bind id
  |some (.array m e)=>(tyOf P n e).bind fun a=>match a with
   |.arr k c=>some (.arr (m*k) c)
   |a=>if a.size=1 then some (.arr m a) else none
  |some (.pointer e)=>(tyOf P n e).bind fun a=>if a.plain=true then none else some (.ptr a)
  |_=>none

def eqK(P:Program)(t:TypeId):Nat:=
 if kPtr P t then 1 else if kFunc P t then 2 else if kBool P t then 3 else if kSlice P t then 5 else 0

def mapKey(P:Program)(T:TypeId):Option (Option IntKind):=match P.underlying T with
 |some (.map kt _)=>keyKind P kt
 |_=>none
def mapZero(P:Program)(T:TypeId):Option Value:=match P.underlying T with
 |some (.map _ et)=>zeroOf P et
 |_=>none
variable {P:Program}{kk:Option IntKind}
theorem z1o{T:TypeId}(h:mapKey P T=some kk):∃kt et,P.underlying T=some (.map kt et)∧keyKind P kt=some kk∧mapZero P T=zeroOf P et:=by
 unfold mapKey at h;split at h
 . exact ⟨_,_,by assumption,h,by simp [mapZero, *]⟩
 cases h

def sameOpd:Operand->Operand->Bool
 |.tmp i,.tmp j=>i==j
 |.const (.int k a),.const (.int k' b)=>k==k'&& a==b
 |_,_=>false
variable {x:Operand}
def z4z{y:Operand}(h:sameOpd x y=true):x=y:=by
 unfold sameOpd at h;split at h
 . simpa using h
 . simp only [Am,beq_iff_eq] at h;rw [h.1,h.2]
 cases h
def arrOf(P:Program)(T:TypeId):Option (Ty×Nat):=match P.underlying T with
 |some (.array _ _)=>match tyOf P 8 T,(P.info? T).bind fun i=>i.zero.map (·.cells.toList) with
  |some (.arr _ c),some zs=>if c.size=1∧zs.all (fun v=>c.isZero [v])=true∧(c= .u8∨5<=zs.length) then some (c,zs.length) else none
  |_,_=>none
 |_=>none
variable {t:Ty}
theorem j1c{T:TypeId}{m:Nat}(h:arrOf P T=some (t,m)):∃zs,((P.info? T).bind fun i=>i.zero.map (·.cells.toList))=some zs∧t.size=1∧zs.all (fun v=>t.isZero [v])=true∧m=zs.length:=by
 unfold arrOf at h;split at h
 . split at h
   . split at h
     . rename_i hc;cases h;exact ⟨_,by assumption,hc.1,hc.2.1,rfl⟩
     cases h
   cases h
 cases h
def stOf(P:Program)(T:TypeId):Option Ty:=match P.underlying T with
 |some (.struct _)=>match tyOf P 8 T,(P.info? T).bind fun i=>i.zero.map (·.cells.toList) with
  |some t,some zs=>if t.plain=false∧t.isZero zs=true then some t else none
  |_,_=>none
 |_=>none
theorem j4o{T:TypeId}(h:stOf P T=some t):∃zs,((P.info? T).bind fun i=>i.zero.map (·.cells.toList))=some zs∧t.isZero zs=true:=by
 unfold stOf at h;split at h
 . split at h
   . split at h
     . rename_i hc;cases h;exact ⟨_,by assumption,hc.2⟩
     cases h
   cases h
 cases h
def ltOf(P:Program)(T:TypeId):Option Ty:=match tyOf P 8 T,(P.info? T).bind fun i=>i.zero.map (·.cells.toList) with
 |some t,some zs=>if t.plain=false∧t.isZero zs=true∧5<=zs.length then some t else none
 |_,_=>none
theorem j2o{T:TypeId}(h:ltOf P T=some t):∃zs,((P.info? T).bind fun i=>i.zero.map (·.cells.toList))=some zs∧t.isZero zs=true:=by
 unfold ltOf at h;split at h
 . split at h
   . rename_i hc;cases h;exact ⟨_,by assumption,hc.2.1⟩
   cases h
 cases h
def compOp(P:Program):Op->Option IOp
 |.move x=>some (.mov x)
 |.assign x=>some (.mov x)
 |.pick c x y=>some (.pick c x y)
 |.nilCheck x=>some (.nil x)
 |.alloc T=>match arrOf P T with
  |some (t,m)=>some (.arr t m)
  |none=>match stOf P T with
   |some t=>some (.sgl t)
   |none=>((P.info? T).bind fun i=>i.zero.map (·.cells.toList)).map (.new T ·)
 |.box T x=>some (.box T x)
 |.load t x=>(aggOf P t).map (.ld · x)
 |.store t x y=>((P.info? t).map (·.size)).map (.st · x y)
 |.binOp op t x y _=>match structK P t with
  |some ks=>match op with
   |.eql=>some (.eqs false ks x y)
   |.neq=>some (.eqs true ks x y)
   |_=>none
  |none=>some (.bin op (eqK P t) x y)
 |.unOp op _ x=>some (.un op x)
 |.convert s d x=>match P.underlying s,P.underlying d with
  |some _,some (.int k)=>some (.toInt k x)
  |some (.slice e),some .string=>match P.underlying e with
   |some (.int .u8)=>some (.toStr true x)
   |_=>none
  |some .string,some .string=>some (.toStr false x)
  |some .string,some (.slice e)=>match P.underlying e with
   |some (.int .u8)=>some (.toB x)
   |_=>none
  |_,_=>none
 |.fieldAddr t x f=>match fieldOf P t f with
  |some (off,ft)=>match (P.info? ft).map (·.size) with
   |some (_+1)=>some (.fa off x)
   |_=>none
  |none=>none
 |.field t x f=>match fieldOf P t f with
  |some (off,ft)=>(aggOf P ft).map (.fld off · x)
  |none=>none
 |.indexAddr t x i=>match P.underlying t with
  |some (.slice e)=>((P.info? e).map (·.size)).map (.ia · x i)
  |some (.array len e)=>((P.info? e).map (·.size)).map (.iaa len · x i)
  |_=>none
 |.index t x i=>match P.underlying t with
  |some .string=>some (.ixs x i)
  |some (.array n e)=>match aggOf P e,(P.info? e).map (·.size) with
   |some none,some 1=>some (.ixd n x i)
   |some (some m),some m'=>if m=m' then some (.ixr n m x i) else none
   |_,_=>none
  |_=>none
 |.extract x i=>some (.ext i x)
 |.makeFunc (.func f) fi ca=>some (.mkf f fi.toList ca.toList)
 |.makeFunc (.methodOf T nm) fi ca=>if fi.size=0∧ca.size=0 then some (.mke T nm) else none
 |.makeInterface T x=>if notIface P T then some (.mki T x) else none
 |.sliceToArrayPointer T x=>match P.underlying T with
  |some (.array m _)=>some (.s2a m x)
  |_=>none
 |.build t ps=>match ltOf P t with
  |some ty=>(placesOf P t).map fun pl=>.bdd ty pl ps.toList
  |none=>match (P.info? t).bind (fun i=>i.zero.map (·.cells.toList)),placesOf P t with
   |some zs,some pl=>some (.bld zs pl ps.toList)
   |_,_=>none
 |.buildSlice t n ps=>match P.underlying t with
  |some (.slice e)=>match tyOf P 8 e,(P.info? e).map (·.size),zerosOf P e n with
   |some ty,some sz,some zs=>some (.bsl ty n sz zs ps.toList)
   |none,some 1,some zs=>some (.bsf e n zs ps.toList)
   |_,_,_=>none
  |_=>none
 |.slice t x lo hi none=>match P.underlying t with
  |some .string=>some (.sl none x lo hi)
  |some (.slice e)=>((P.info? e).map (·.size)).map fun n=>.sl (some n) x lo hi
  |some (.array m e)=>((P.info? e).map (·.size)).map fun n=>.sla m n x lo hi
  |_=>none
 |.slice t x lo (some hi) (some mx)=>match P.underlying t with
  |some (.slice e)=>((P.info? e).map (·.size)).map fun n=>.sl3 n (lo.isNone&& sameOpd hi mx) x lo hi mx
  |some (.array m e)=>((P.info? e).map (·.size)).map fun n=>.sla3 m n x lo hi mx
  |_=>none
 |.makeSlice t x y=>match P.underlying t with
  |some (.slice e)=>match P.info? e,tyOf P 8 e with
   |some i,some ty=>match i.zero with
    |some z=>if i.size=ty.size∧z.cells.size=ty.size∧0<ty.size∧ty.isZero z.cells.toList=true then some (.mks ty i.bytes x y) else none
    |none=>none
   |_,_=>none
  |_=>none
 |.call c=>match c.callee with
  |.value f=>some (.call f c.args.toList)
  |.builtin .len=>match c.args.toList,c.argTypes.toList with
   | [x],[t]=>match P.underlying t with
    |some .string=>some (.len true x)
    |some (.slice _)=>some (.len false x)
    |some (.map _ _)=>some (.mln x)
    |_=>none
   |_,_=>none
  |.builtin .append=>match c.args.toList,c.argTypes.toList with
   | [x,y],[tS,tX]=>match P.underlying tS,srcType P tX with
    |some (.slice e),some _=>match P.info? e,tyOf P 8 e with
     |some i,some ty=>match i.zero with
      |some z=>if i.size=ty.size∧z.cells.size=ty.size then some (.app ty i.bytes x y) else none
      |none=>none
     |_,_=>none
    |some (.slice e),none=>match P.underlying tX,P.info? e,tyOf P 8 e with
     |some (.int _),some i,some ty=>match i.zero with
      |some z=>if i.size=ty.size∧z.cells.size=ty.size∧0<ty.size∧ty.isZero z.cells.toList=true then some (.apz ty i.bytes x y) else none
      |none=>none
     |_,_,_=>none
    |_,_=>none
   |_,_=>none
  |.builtin .copy=>match c.args.toList,c.argTypes.toList with
   | [x,y],[tS,_]=>match P.underlying tS with
    |some (.slice e)=>((P.info? e).map (·.size)).map fun n=>.cpy n x y
    |_=>none
   |_,_=>none
  |.builtin .max=>match c.args.toList with
   | [x,y]=>some (.mxm true x y)
   |_=>none
  |.builtin .min=>match c.args.toList with
   | [x,y]=>some (.mxm false x y)
   |_=>none
  |_=>none
 |.typeAssert x _ T true=>if notIface P T then (zeroOf P T).map (.ta T · x) else none
 |.panic x=>some (.pan x)
 |.makeMap T none=>(mapKey P T).map .mkm
 |.mapUpdate T m k x=>(mapKey P T).map (.mup · m k x)
 |.insert T m k x=>(mapKey P T).map (.mup · m k x)
 |.lookup T m k ok=>match mapKey P T,mapZero P T with
  |some kk,some z=>some (.mlk kk z ok m k)
  |_,_=>none
 |_=>none

inductive Res where
 |val (p:Prop) (s:SV)
 |amb (E:Prop) (s:Bool->SV)                            -- one of two; if true, E
 |new (p:Prop) (s:SV) (Hk:List SObj) (so:SObj)      -- the memory is Hk ++ [so]
 |set (s:SV) (h:Nat) (so:SObj)
 |setp (p:Prop) (s:SV) (h:Nat) (so:SObj)
 |call (f:FuncId) (args:List SV)
 |pan (s:SV)
 |zld (ag:Option Nat) (b off:Nat)                       -- what lies at an address
 |zst (n:Nat) (b off:Nat) (y:SV)
 |yld (l:Nat) (args:List SV)                            -- a round of a loop over a function
 |none

def ldRow(t':Ty)(xs:List t'.den)(t:Ty)(i k:Nat)(ag:Option Nat):Res:=
 if t'=t then
  (if t'.plain=true then (match pick (t'.cells (xs.getD i t'.dflt)) k ag with
   |some s=>.val (i<xs.length) s
   |.none=>(match ag with
    |some m=>if t'.size=1∧k=0∧0<m then .val (i+m<=xs.length) (.dat (.arr m t') ((xs.drop i).take m)) else .none
    |.none=>.none))
   else (match t'.get (xs.getD i t'.dflt) k (ag.getD 1) with
    |some ⟨t2,y⟩=>(match SV.ofT ag t2 y with
     |some s=>.val (i<xs.length) s
     |.none=>.none)
    |.none=>.none))
 else (match xs with
  | [x]=>(match t'.arrAt x k with
   |some ⟨e,N,ys⟩=>if t.size=1 then (match ag with
    |.none=>(match e.cells (ys.getD i e.dflt) with
     | [s]=>.val (i<N) s
     |_=>.none)
    |some m=>if 0<m then .val (i+m<=N) (.dat (.arr m e) ((ys.drop i).take m)) else .none) else .none
   |.none=>.none)
  |_=>.none)
def evLd(H:List SObj)(ag:Option Nat):SV->Res
 |.ptr h off=>match H[h]? with
  |some (.cells _ cs)=>match pick cs off ag with
   |some s=>.val True s
   |.none=>.none
  |_=>.none
 |.iptr t x k=>if t.plain=true then (match pick (t.cells x) k ag with
  |some s=>.val True s
  |.none=>.none) else (match t.get x k (ag.getD 1) with
  |some ⟨t2,y⟩=>(match SV.ofT ag t2 y with
   |some s=>.val True s
   |.none=>.none)
  |.none=>.none)
 |.rptr h t i k=>match H[h]? with
  |some (.row t' xs)=>ldRow t' xs t i k ag
  |some (.cells _ cs)=>(match pick cs (i*t.size+k) ag with
   |some s=>.val True s
   |.none=>.none)
  |_=>.none
 |.raw (.pointer (some ⟨b,off,none⟩))=>.zld ag b off
 |_=>.none

def stRow(h:Nat)(t':Ty)(xs:List t'.den)(t:Ty)(i k n:Nat)(y:SV):Res:=
 if t'=t then
  (if t'.plain=true then (match y with
   |.dat (.arr m e) ys=>if he:e=t'∧k=0∧t'.size=1∧m=n∧0<n then .setp (i+n<=xs.length) .any h (.row t' (splice xs i (cast (by rw [he.1]) ys))) else .none
   |.agg l=>(match rdL t' n l with
    |some (ys,p)=>if k=0∧t'.size=1∧0<n then .setp (p∧i+n<=xs.length) .any h (.row t' (splice xs i ys)) else .none
    |.none=>.none)
   |_=>.none)
   else (match xs with
    | [x]=>if i=0∧k+n<=t'.size then (match t'.putV x k n y with
     |some (x',p)=>.setp p .any h (.row t' [x'])
     |.none=>.none) else .none
    |_=>.none))
 else (match xs with
  | [x]=>(match t'.arrAt x k with
   |some ⟨e,_,_⟩=>if t.size=1∧n=1 then (match y.datum e with
    |some (d,p)=>(match t'.modS x k i e d with
     |some (x',q)=>.setp (p∧q) .any h (.row t' [x'])
     |.none=>.none)
    |.none=>.none) else .none
   |.none=>.none)
  |_=>.none)
def evSt(H:List SObj)(n:Nat)(y:SV):SV->Res
 |.ptr h off=>match H[h]?,y.flat with
  |some (.cells T cs),some ds=>if ds.length=n∧off+n<=cs.length∧ones ds=true then .set .any h (.cells T (splice cs off ds)) else .none
  |_,_=>.none
 |.rptr h t i k=>match H[h]? with
  |some (.row t' xs)=>(match y with
   |.dat t2 z=>stRow h t' xs t i k n (.dat t2 z)
   |y=>if t'=t∧t'.plain=true then (match y.flat with
    |some ds=>if ds.length=n∧k+n<=t'.size∧ones ds=true then (match t'.rd (splice (t'.cells (xs.getD i t'.dflt)) k ds) with
     |some (d,p)=>.setp (i<xs.length∧p) .any h (.row t' (xs.set i d))
     |.none=>.none) else stRow h t' xs t i k n y
    |.none=>.none) else stRow h t' xs t i k n y)
  |_=>.none
 |.raw (.pointer (some ⟨b,off,none⟩))=>.zst n b off y
 |_=>.none

def eqOk(k:Nat):SV->Bool
 |.raw (.pointer .none)=>k==1
 |.raw .nilFunc=>k==2
 |.raw (.bool _)=>k==3
 |_=>false
def evNil(op:BinOp)(x y:SV):Res:=match y with
 |.raw (.slice none 0 0)=>match x with
  |.raw (.slice none 0 0)=>(match op with
   |.eql=>.val True (.raw (.bool true))
   |.neq=>.val True (.raw (.bool false))
   |_=>.none)
  |_=>match x.emp with
   |some E=>(match op with
    |.eql=>.amb E fun b=>.raw (.bool b)
    |.neq=>.amb E fun b=>.raw (.bool !b)
    |_=>.none)
   |.none=>.none
 |_=>.none
def evEq(op:BinOp)(k:Nat)(x y:SV):Res:=if k=5 then evNil op x y else
 match eqV x y with
 |some r=>if eqOk k y then (match op with
  |.eql=>.val True (.raw (.bool r))
  |.neq=>.val True (.raw (.bool !r))
  |_=>.none) else .none
 |.none=>.none
def evBin(op:BinOp)(k:Nat):SV->SV->Res
 |.raw a,.raw b=>match binV op a b with
  |some (v,p)=>.val p (.raw v)
  |.none=>evEq op k (.raw a) (.raw b)
 |x,y=>evEq op k x y
def lenOk(k:Bool):SV->Bool
 |.raw (.string _)=>k
 |_=> !k
structure Dst where
 h:Nat
 t:Ty
 k:Nat
 i:Nat
 n:Nat
def dstAt:SV->Option Dst
 |.bld h t n=>some ⟨h,t,0,0,n⟩
 |.osl h t off n=>some ⟨h,t,0,off,n⟩
 |.csl h t k i n=>some ⟨h,t,k,i,n⟩
 |_=>none
def slOk:Option Nat->SV->Bool
 |.none,.raw (.string _)=>true
 |some n,.isl t _=>n==t.size
 |some n,.bld _ t _=>n==t.size
 |some n,.osl _ t _ _=>n==t.size
 |some n,.csl _ t _ _ _=>n==t.size
 |some _,.raw (.slice .none 0 0)=>true
 |_,_=>false

def IOp.ev(H:List SObj)(ev:Operand->SV):IOp->Res
 |.mov x=>.val True (ev x)
 |.pick c x y=>match ev c with
  |.raw (.bool b)=>.val True (if b then ev x else ev y)
  |_=>.none
 |.nil x=>if (ev x).nonNil then .val True (ev x) else .none
 |.new T zs=>.new True (.ptr H.length 0) H (.cells T (rawL zs))
 |.arr t m=>.new True (.rptr H.length t 0 0) H (.row t (List.replicate m t.dflt))
 |.sgl t=>.new True (.rptr H.length t 0 0) H (.row t [t.dflt])
 |.ixd n x i=>match ev x,ev i with
  |.dat (.arr m e) xs,.raw (.int _ j)=>if m=n∧e.size=1 then (match e.cells (xs.getD j.toNat e.dflt) with
   | [s]=>.val (0<=j∧j.toNat<n) s
   |_=>.none) else .none
  |.agg l,.raw (.int _ j)=>match Go.Sx.pick l j.toNat Option.none with
   |.some s=>.val (0<=j∧j.toNat<n) s
   |.none=>.none
  |_,_=>.none
 |.s2a m x=>match ev x with
  |.isl t xs=>if t.size=1∧0<m then .val (m<=xs.length) (.iptr (.arr m t) (xs.take m) 0) else .none
  |.fsl t xs=>if t.size=1∧0<m then .val (m<=xs.length) (.iptr (.arr m t) (xs.take m) 0) else .none
  |_=>.none
 |.bdd t pl ps=>match putAll t pl.fn t.dflt True (ps.map fun p=>(p.1,ev p.2)) with
  |some (x,p)=>.val p (.dat t x)
  |.none=>.none
 |.cpy sz x y=>match dstAt (ev x) with
  |some ⟨h,t,k,i,n⟩=>if sz=t.size then (match viewOf t H (ev y),H[h]? with
   |some (ys,p),some ob=>(match putPart t k i (ys.take (min ys.length n)) ob with
    |some (ob',q)=>.setp (p∧q∧0<n) (.raw (.int .i64 (min ys.length n:Nat))) h ob'
    |.none=>.none)
   |_,_=>.none) else .none
  |.none=>.none
 |.sla3 m sz x lo hi mx=>match bndV ev lo,bndV ev (some hi),bndV ev (some mx) with
  |some a,some (some b),some (some c)=>match slB m sz (loOf a).toNat (b.toNat- (loOf a).toNat) (ev x) with
   |some s=>.val (0<=loOf a∧loOf a<=b∧b<=c∧c<=(m:Int)) s
   |.none=>.none
  |_,_,_=>.none
 |.bsf T n zs ps=>match fillS (PlaceK.arr 1).fn (rawL zs) (ps.map fun p=>(p.1,ev p.2)) with
  |some cs=>.new True (.csl H.length .u8 0 0 n) H (.cells T cs)
  |.none=>.none
 |.ixr n m x i=>match ev x,ev i with
  |.dat (.arr k e) xs,.raw (.int _ j)=>if k=n*m∧e.size=1∧0<m then .val (0<=j∧j.toNat<n) (.dat (.arr m e) ((xs.drop (j.toNat*m)).take m)) else .none
  |.agg l,.raw (.int _ j)=>match Go.Sx.pick l (j.toNat*m) (Option.some m) with
   |.some s=>.val (0<=j∧j.toNat<n) s
   |.none=>.none
  |_,_=>.none
 |.sla m sz x lo hi=>match bndV ev lo,bndV ev hi with
  |some a,some b=>match slB m sz (loOf a).toNat ((hiOf m b).toNat- (loOf a).toNat) (ev x) with
   |some s=>.val (0<=loOf a∧loOf a<=hiOf m b∧hiOf m b<=(m:Int)) s
   |.none=>.none
  |_,_=>.none
 |.box T x=>match ev x with
  |.dat (.arr _ t) ys=>if t.size=1 then .new True (.rptr H.length t 0 0) H (.row t ys) else .none
  |.dat (.prod a b) y=>.new True (.rptr H.length (.prod a b) 0 0) H (.row (.prod a b) [y])
  |s=>match s.flat with
   |some cs=>.new True (.ptr H.length 0) H (.cells T cs)
   |.none=>.none
 |.ld ag x=>evLd H ag (ev x)
 |.ldS ag x=>evLd H ag (ev x)
 |.st n x y=>evSt H n (ev y) (ev x)
 |.bin op k x y=>evBin op k (ev x) (ev y)
 |.eqs neg ks x y=>match ev x,ev y with
  |.agg l,.agg l'=>match eqRs ks l l' with
   |some r=>.val True (.raw (.bool (if neg then !r else r)))
   |.none=>.none
  |_,_=>.none
 |.un op x=>match ev x with
  |.raw a=>match unV op a with
   |some v=>.val True (.raw v)
   |.none=>.none
  |_=>.none
 |.toInt k x=>match ev x with
  |.raw (.int _ n)=>.val True (.raw (.int k (k.wrap n)))
  |_=>.none
 |.toStr true x=>match ev x with
  |.isl .u8 xs=>.val True (.raw (.string (strOf xs)))
  |.raw (.slice Option.none 0 0)=>.val True (.raw (.string (strOf [])))
  |.bld h .u8 n=>match H[h]? with
   |some (.row .u8 xs)=>.val (n<=xs.length∧xs.length<=1125899906842624) (.raw (.string (strOf (xs.take n))))
   |_=>.none
  |.osl h .u8 off n=>match H[h]? with
   |some (.row .u8 xs)=>.val (off+n<=xs.length∧xs.length<=1125899906842624) (.raw (.string (strOf ((xs.drop off).take n))))
   |_=>.none
  |_=>.none
 |.toStr false x=>match ev x with
  |.raw (.string s)=>.val True (.raw (.string s))
  |_=>.none
 |.fa off x=>match (ev x).add off with
  |some s=>.val True s
  |.none=>.none
 |.fld off ag x=>match ev x with
  |.agg l=>match Sx.pick l off ag with
   |some s=>.val True s
   |.none=>.none
  |.dat t z=>match t.get z off (ag.getD 1) with
   |some ⟨t2,y⟩=>(match SV.ofT ag t2 y with
    |some s=>.val True s
    |.none=>.none)
   |.none=>.none
  |_=>.none
 |.ia sz x i=>match ev i with
  |.raw (.int _ n)=>match (ev x).wk with
   |.isl t xs=>if sz=t.size then .val (0<=n∧n.toNat<xs.length) (.iptr t (xs.getD n.toNat t.dflt) 0) else .none
   |.bld h t m=>if sz=t.size then .val (0<=n∧n.toNat<m) (.rptr h t (0+n.toNat) 0) else .none
   |.osl h t off m=>if sz=t.size then .val (0<=n∧n.toNat<m) (.rptr h t (off+n.toNat) 0) else .none
   |.csl h t k off m=>if sz=t.size then .val (0<=n∧n.toNat<m) (.rptr h t (off+n.toNat) k) else .none
   |.raw (.slice (some ⟨b,off,none⟩) m _)=>.val (0<=n∧n.toNat<m) (.raw (.pointer (some ⟨b,off+n.toNat*sz,none⟩)))
   |_=>.none
  |_=>.none
 |.iaa m sz x i=>match ev i with
  |.raw (.int _ n)=>match addB m sz n.toNat (ev x) with
   |some s=>.val (0<=n∧n.toNat<m) s
   |.none=>.none
  |_=>.none
 |.ta T z x=>match ev x with
  |.iface T' y=>if T'=T then .val True (.tup [y,.raw (.bool true)]) else .val True (.tup [.ofV z,.raw (.bool false)])
  |.raw .nilIface=>.val True (.tup [.ofV z,.raw (.bool false)])
  |_=>.none
 |.ixs x i=>match ev x,ev i with
  |.raw (.string s),.raw (.int _ n)=>.val (0<=n∧n.toNat<s.size) (.raw (.int .u8 (s.data.toList.getD n.toNat 0).toNat))
  |_,_=>.none
 |.len k x=>match (ev x).wk.len with
  |some n=>if lenOk k (ev x).wk then .val True (.raw (.int .i64 n)) else .none
  |.none=>.none
 |.ext i x=>match ev x with
  |.tup l=>match l[i]? with
   |some s=>.val True s
   |.none=>.none
  |_=>.none
 |.mkf f fi ca=>.val True (.fn f (fi.map ev) (ca.map ev))
 |.mke T nm=>.val True (.raw (.func (.methodOf T nm) #[] #[]))
 |.apz t by_ x y=>match ev x,ev y with
  |.fsl t' xs,.raw (.int .i64 m)=>if t'=t then .val (0<=m∧xs.length+m.toNat<=1125899906842624∧(xs.length+m.toNat)*by_<=140737488355328) (.isl t' (xs++List.replicate m.toNat t'.dflt)) else .none
  |_,_=>.none
 |.mki T x=>.val True (.iface T (ev x))
 |.bld zs pl ps=>match fillS pl.fn (rawL zs) (ps.map fun p=>(p.1,ev p.2)) with
  |some cs=>.val True (.agg cs)
  |.none=>.none
 |.bsl t n sz zs ps=>match fillS (PlaceK.arr sz).fn (rawL zs) (ps.map fun p=>(p.1,ev p.2)) with
  |some cs=>match rdL t n cs with
   |some (xs,p)=>.new p (.bld H.length t n) H (.row t xs)
   |.none=>.none
  |.none=>.none
 |.app t by_ x y=>match ev x with
  |.fsl t' xs=>match srcS t' H (ev y) with
   |some (ys,p)=>if t'=t then .val (p∧xs.length+ys.length<=1125899906842624∧(xs.length+ys.length)*by_<=140737488355328) (.isl t' (xs++ys)) else .none
   |_=>.none
  |_=>match dstOf t H (ev x),srcS t H (ev y) with
   |some (Hk,xs,n),some (ys,p)=>.new (n=xs.length∧p∧xs.length+ys.length<=1125899906842624∧(xs.length+ys.length)*by_<=140737488355328) (.bld H.length t (xs.length+ys.length)) Hk (.row t (xs++ys))
   |_,_=>.none
 |.sl k x lo hi=>match bndV ev lo,bndV ev hi with
  |some a,some b=>match sliceTo (loOf a).toNat (hiOf (lenOfS (ev x)) b).toNat (ev x) with
   |some s=>if slOk k (ev x) then .val (0<=loOf a∧loOf a<=hiOf (lenOfS (ev x)) b∧hiOf (lenOfS (ev x)) b<=(lenOfS (ev x):Int)) s else .none
   |.none=>.none
  |_,_=>.none
 |.call f args=>match ev f with
  |.fn g fi ca=>.call g (fi++args.map (fun x=>(ev x).wk)++ca)
  |.raw v=>match isYld v with
   |some l=>.yld l (args.map (fun x=>(ev x).wk))
   |_=>match isFn v with
    |some (g,fi,ca)=>.call g (rawL fi++args.map (fun x=>(ev x).wk)++rawL ca)
    |_=>.none
  |_=>.none
 |.mxm b x y=>match ev x,ev y with
  |.raw (.int k m),.raw (.int _ n)=>.val True (.raw (.int k (mxV b m n)))
  |_,_=>.none
 |.pan x=>match ev x with
  |.iface T s=>.pan (.iface T s)
  |_=>.none
 |.mkm kk=>.new True (.mp H.length) H (.map kk [] [])
 |.mup kk m k x=>match ev m,ev k with
  |.mp h,.raw kv=>match H[h]? with
   |some (.map kk' ks vs)=>if kk'=kk∧keyIs kk kv=true then .set .any h (.map kk (mput ks vs kv (ev x).norm).1 (mput ks vs kv (ev x).norm).2) else .none
   |_=>.none
  |_,_=>.none
 |.mlk kk z ok m k=>match mapOf H (ev m),ev k with
  |some (kk',ks,vs),.raw kv=>if kk'=kk∧keyIs kk kv=true then .val True (mres ok (mget ks vs z kv)) else .none
  |_,_=>.none
 |.mln x=>match mapOf H (ev x) with
  |some (_,ks,_)=>.val True (.raw (.int .i64 ks.length))
  |.none=>.none
 |.mks t by_ x y=>match ev x,ev y with
  |.raw (.int _ n),.raw (.int _ c)=>.new (0<=n∧n<=c∧c.toNat*by_<=140737488355328∧c<=1125899906842624) (.bld H.length t n.toNat) H (.row t (List.replicate n.toNat t.dflt))
  |_,_=>.none
 |.toB x=>match ev x with
  |.raw (.string s)=>.new True (.bld H.length .u8 s.size) H (.row .u8 (bytesOf s))
  |_=>.none
 |.sl3 k f x lo hi mx=>match bndV ev lo,bndV ev (some hi),bndV ev (some mx) with
  |some a,some (some b),some (some m)=>match sliceTo (loOf a).toNat b.toNat (ev x) with
   |some s=>if slOk (some k) (ev x) then .val (0<=loOf a∧loOf a<=b∧b<=m∧m<=(lenOfS (ev x):Int)) (fullS (decide (b=m)) s) else .none
   |.none=>.none
  |_,_,_=>.none
section

variable [Ghost] {P:Program} {o:Oper} {ev:Operand->SV} {H:List SObj} {K:Out->List SObj->Prop}

def Res.to(P:Program)(H:List SObj)(K:Out->List SObj->Prop):Res->Prop
 |.val p s=>p∧K (.ret s) H
 |.amb E s=>∀b:Bool,(b=true->E)->K (.ret (s b)) H
 |.new p s Hk so=>p∧K (.ret s) (Hk++ [so])
 |.set s h so=>K (.ret s) (H.set h so)
 |.setp p s h so=>p∧K (.ret s) (H.set h so)
 |.call f args=>enters P f=true∧VCallG P f args H K
 |.pan s=>K (.pan s) H
 |.zld ag b off=>∀E C,Wd C H->Ghost.inv E C H->∃s,ZLd C ag b off s∧K (.ret s) H
 |.zst n b off y=>∃ds,y.flat=some ds∧ds.length=n∧ones ds=true∧(∀E C us,Wd C H->Ghost.inv E C H->SV.denL C ds us->ZSt E C H b off us)∧K (.ret .any) H
 |.yld l args=>VYld P l args H K
 |.none=>False

variable {ag:Option Nat}
theorem z2u{T:TypeId}{h i k:Nat}{t':Ty}{xs:List t'.den}(hop:o.op= .load T x)(ha:aggOf P T=some ag)(he:ev x= .rptr h t i k)(hH:H[h]?=some (.row t' xs))(hr:(ldRow t' xs t i k ag).to P H K):OpV P o ev H K:=by
 unfold ldRow at hr;split at hr
 . rename_i e;subst e;split at hr
   . split at hr
     . rename_i hp;obtain ⟨h1,h2⟩:=hr;refine q9X hop ha he hH ?_ hp h2;rw [Aa,Ac h1];rfl
     split at hr
     . split at hr
       . rename_i hc;obtain ⟨h1,rfl,h3⟩:=hc;exact q9j hop ha he hH h1 h3 hr.1 hr.2
       exact hr.elim
     exact hr.elim
   split at hr
   . split at hr
     . exact z1q hop ha he hH hr.1 (by assumption) (by assumption) hr.2
     exact hr.elim
   exact hr.elim
 split at hr
 . split at hr
   . split at hr
     . rename_i h1;split at hr
       . split at hr
         . exact q6d hop ha he h1 hH (by assumption) (.inl ⟨rfl,hr.1,by assumption⟩) hr.2
         exact hr.elim
       split at hr
       . exact q6d hop ha he h1 hH (by assumption) (.inr ⟨_,rfl,by assumption,hr.1,rfl⟩) hr.2
       exact hr.elim
     exact hr.elim
   exact hr.elim
 exact hr.elim
variable {t:TypeId}
theorem z9i(hop:o.op= .load t x)(ha:aggOf P t=some ag)(h:(evLd H ag (ev x)).to P H K):OpV P o ev H K:=by
 generalize he:ev x=s at h;unfold evLd at h;split at h
 . split at h
   . split at h
     . exact z1l hop ha he (by assumption) (by assumption) h.2
     exact h.elim
   exact h.elim
 . split at h
   . split at h
     . exact q9L hop ha he (by assumption) h.2
     exact h.elim
   split at h
   . split at h
     . exact q9H hop ha he (by assumption) (by assumption) h.2
     exact h.elim
   exact h.elim
 . split at h
   . exact z2u hop ha he (by assumption) h
   . split at h
     . exact q8h hop ha he (by assumption) (by assumption) h.2
     exact h.elim
   exact h.elim
 . exact j3W hop ha he h
 exact h.elim

variable {n:Nat}
theorem q4u{T:TypeId}{y:Operand}{h i k:Nat}{t t':Ty}{xs:List t'.den}(hop:o.op= .store T x y)(ha:(P.info? T).map (·.size)=some n)(he:ev x= .rptr h t i k)(hH:H[h]?=some (.row t' xs))(hr:(stRow h t' xs t i k n (ev y)).to P H K):OpV P o ev H K:=by
 generalize hy:ev y=sy at hr;unfold stRow at hr;split at hr
 . rename_i e;subst e;split at hr
   . split at hr
     . split at hr
       . rename_i hc;obtain ⟨rfl,rfl,h1,rfl,h0⟩:=hc;exact q4l hop ha he (fun _ _ h=>by rw [hy] at h;exact h) hH h1 h0 hr.1 (fun _=>by simpa using hr.2)
       exact hr.elim
     . split at hr
       . rename_i hrd;split at hr
         . rename_i hc;obtain ⟨rfl,h1,h0⟩:=hc
           exact q4l hop ha he (fun C v h=>by
            rw [hy,SV.den] at h;obtain ⟨us,rfl,hd⟩:=h;obtain ⟨g1,g2⟩:=q9K _ _ _ _ _ hrd hr.1.1 hd;rw [SV.den];refine ⟨us,rfl,?_⟩;have:=(q3w h1).1 g1
            rwa [g2] at this) hH h1 h0 hr.1.2 (fun _=>hr.2)
         exact hr.elim
       exact hr.elim
     exact hr.elim
   split at hr
   . split at hr
     . rename_i hc;obtain ⟨rfl,hc⟩:=hc;split at hr
       . rename_i hput;rw [<-hy] at hput;exact q9Q hop ha he hH hput hr.1 hc hr.2
       exact hr.elim
     exact hr.elim
   exact hr.elim
 split at hr
 . split at hr
   . split at hr
     . rename_i h1;obtain ⟨h1,rfl⟩:=h1;split at hr
       . rename_i hd;rw [<-hy] at hd;split at hr
         . exact q8X hop ha he h1 hH hd hr.1.1 (by assumption) hr.1.2 hr.2
         exact hr.elim
       exact hr.elim
     exact hr.elim
   exact hr.elim
 exact hr.elim
theorem z8Y{y:Operand}(hop:o.op= .store t x y)(ha:(P.info? t).map (·.size)=some n)(h:(evSt H n (ev y) (ev x)).to P H K):OpV P o ev H K:=by
 generalize he:ev x=s at h;unfold evSt at h;split at h
 . split at h
   . split at h
     . rename_i hc;exact q9o hop ha he (by assumption) (by assumption) hc.1 hc.2.1 hc.2.2 h
     exact h.elim
   exact h.elim
 . split at h
   . rename_i hH;split at h
     . rename_i hy;rw [<-hy] at h;exact q4u hop ha he hH h
     rename_i hy;split at h
     . rename_i hc0;obtain ⟨rfl,_⟩:=hc0;split at h
       . rename_i hf;split at h
         . rename_i hc;obtain ⟨hc1,hc2,hc3⟩:=hc;split at h
           . exact q8f hop ha he hH h.1.1 hf hc1 hc2 hc3 (by assumption) h.1.2 h.2
           exact h.elim
         exact q4u hop ha he hH h
       exact h.elim
     exact q4u hop ha he hH h
   exact h.elim
 . obtain ⟨ds,hf,hn,h1,hz,hk⟩:=h;exact j4R hop ha he hf hn h1 hz hk
 exact h.elim

theorem j1W{s:SV}(h:eqOk (eqK P t) s=true):eqKind P t s=true:=by
 have e1:eqK P t=1->kPtr P t=true:=fun e=>by unfold eqK at e;split at e;assumption;split at e;cases e;split at e;cases e;split at e<;>cases e
 have e2:eqK P t=2->kFunc P t=true:=fun e=>by unfold eqK at e;split at e;cases e;split at e;assumption;split at e;cases e;split at e<;>cases e
 have e3:eqK P t=3->kBool P t=true:=fun e=>by unfold eqK at e;split at e;cases e;split at e;cases e;split at e;assumption;split at e<;>cases e
 unfold eqOk at h;split at h
 . exact e1 (by simpa using h)
 . exact e2 (by simpa using h)
 . exact e3 (by simpa using h)
 cases h

variable {op:BinOp}
theorem z4n{t':TypeId}{y:Operand}(hop:o.op= .binOp op t x y t')(h:(evEq op (eqK P t) (ev x) (ev y)).to P H K):OpV P o ev H K:=by
 unfold evEq at h;split at h
 . rename_i hk5;have hs:kSlice P t=true:=by unfold eqK at hk5;split at hk5;cases hk5;split at hk5;cases hk5;split at hk5;cases hk5;split at hk5;assumption;cases hk5
   unfold evNil at h;split at h
   . rename_i hy;split at h
     . rename_i hx;split at h
       . exact q8B hop (.inl rfl) hs hx hy (by simpa using h.2)
       . exact q8B hop (.inr rfl) hs hx hy (by simpa using h.2)
       exact h.elim
     split at h
     . rename_i E hE;split at h
       . exact z4f hop (.inl rfl) hs hE hy (fun b hb=>by simpa using h b hb)
       . exact z4f hop (.inr rfl) hs hE hy (fun b hb=>by simpa using h b hb)
       exact h.elim
     exact h.elim
   exact h.elim
 split at h
 . rename_i r hr;split at h
   . rename_i hk;split at h
     . exact z7d hop (.inl rfl) hr (j1W hk) (by simpa using h.2)
     . exact z7d hop (.inr rfl) hr (j1W hk) (by simpa using h.2)
     exact h.elim
   exact h.elim
 exact h.elim

theorem z8i{t':TypeId}{y:Operand}(hop:o.op= .binOp op t x y t')(h:(evBin op (eqK P t) (ev x) (ev y)).to P H K):OpV P o ev H K:=by
 generalize hx:ev x=sx at h;generalize hy:ev y=sy at h;unfold evBin at h;split at h
 . split at h
   . exact j4H hop hx hy (by assumption) h.1 h.2
   exact z4n hop (by rw [hx,hy];exact h)
 exact z4n hop (by rw [hx,hy];exact h)

theorem OpV.wk(h:OpV P o (fun y=>(ev y).wk) H K):OpV P o ev H K:=
 fun E C r n a next Q hw hg hv h1 h2=>h E C r n a next Q hw hg (fun x hx=>j0a _ _ _ (hv x hx)) h1 h2
theorem j5l{s:SV}{v:Value}(h:s= .raw v):s.wk= .raw v:=by rw [h];rfl
theorem z0W{c:Call}{k:Bool}(hop:o.op= .call c)(hc:c.callee= .builtin .len)(ha:c.args= #[x])(hty:c.argTypes= #[t])(hk:(k=true∧P.underlying t=some .string)∨(k=false∧∃e,P.underlying t=some (.slice e)))
 (h:((IOp.len k x).ev H ev).to P H K):OpV P o ev H K:=by
 refine OpV.wk ?_;simp only [IOp.ev] at h;split at h
 . rename_i n hn;split at h
   . rename_i hl;refine j2V hop hc ha hty hn ?_ h.2;unfold lenKind;unfold lenOk at hl;split at hl
     . rename_i s hs;rcases hk with ⟨_,hu⟩ | ⟨rfl,_⟩
       . rw [hs];simp [hu]
       cases hl
     rename_i hs;rcases hk with ⟨rfl,_⟩ | ⟨_,e,hu⟩
     . cases hl
     split
     . exact absurd (by assumption) (hs _)
     simp [hu]
   exact h.elim
 exact h.elim

theorem z9D{e:TypeId}{i:Operand}{sz:Nat}(hop:o.op= .indexAddr t x i)(ht:P.underlying t=some (.slice e))(hs:(P.info? e).map (·.size)=some sz)(h:((IOp.ia sz x i).ev H ev).to P H K):OpV P o ev H K:=by
 refine OpV.wk ?_;simp only [IOp.ev] at h;split at h
 . rename_i n hi;have hi:=j5l hi;split at h
   . split at h
     . rename_i hz;subst hz;exact q5C hop ht hs (by assumption) hi h.1.1 h.1.2 (fun _=>h.2)
     exact h.elim
   . split at h
     . rename_i hz;subst hz;exact q3c hop ht hs (.inr ⟨by assumption,rfl⟩) hi h.1.1 h.1.2 h.2
     exact h.elim
   . split at h
     . rename_i hz;subst hz;exact q3c hop ht hs (.inl (by assumption)) hi h.1.1 h.1.2 h.2
     exact h.elim
   . split at h
     . rename_i hz;subst hz;exact q5A hop ht hs (by assumption) hi h.1.1 h.1.2 h.2
     exact h.elim
   . exact q5R hop ht hs (by assumption) hi h.1.1 h.1.2 h.2
   exact h.elim
 exact h.elim

theorem z3t{T:TypeId}{lo hi:Option Operand}{k:Option Nat}(hop:o.op= .slice T x lo hi none)(hk:(k=none∧P.underlying T=some .string)∨(∃n e,k=some n∧P.underlying T=some (.slice e)∧(P.info? e).map (·.size)=some n))
 (h:((IOp.sl k x lo hi).ev H ev).to P H K):OpV P o ev H K:=by
 simp only [IOp.ev] at h;split at h
 . split at h
   . split at h
     . rename_i hs hok;refine z8j hop ?_ (by assumption) (by assumption) h.1.1 h.1.2.1 h.1.2.2 (by assumption) h.2;unfold slOk at hok;unfold sliceKind;split at hok
       . rename_i e1 e2;rcases hk with ⟨_,hu⟩ | ⟨n,e,he,_⟩
         . rw [e2];simp [hu]
         cases he
       . rename_i e2;rcases hk with ⟨he,_⟩ | ⟨n,e,he,hu,hn⟩
         . cases he
         cases he;rw [e2];simp only [hu];rw [beq_iff_eq] at hok⊢;rw [hn,hok]
       . rename_i e2;rcases hk with ⟨he,_⟩ | ⟨n,e,he,hu,hn⟩
         . cases he
         cases he;rw [e2];simp only [hu];rw [beq_iff_eq] at hok⊢;rw [hn,hok]
       . rename_i e2;rcases hk with ⟨he,_⟩ | ⟨n,e,he,hu,hn⟩
         . cases he
         cases he;rw [e2];simp only [hu];rw [beq_iff_eq] at hok⊢;rw [hn,hok]
       . rename_i e2;rcases hk with ⟨he,_⟩ | ⟨n,e,he,hu,hn⟩
         . cases he
         cases he;rw [e2];simp only [hu];rw [beq_iff_eq] at hok⊢;rw [hn,hok]
       . rename_i e2;rcases hk with ⟨he,_⟩ | ⟨n,e,he,hu,hn⟩
         . cases he
         cases he;rw [e2];simp only [hu];cases hi:P.info? e with
         |none=>simp [hi] at hn
         |some i=>rfl
       cases hok
     exact h.elim
   exact h.elim
 exact h.elim
theorem z7W{T e:TypeId}{hi mx:Operand}{lo:Option Operand}{f:Bool}(hop:o.op= .slice T x lo (some hi) (some mx))(hu:P.underlying T=some (.slice e))(hn:(P.info? e).map (·.size)=some n)(_:f=true->hi=mx)
 (h:((IOp.sl3 n f x lo hi mx).ev H ev).to P H K):OpV P o ev H K:=by
 simp only [IOp.ev] at h;split at h
 . rename_i a b m h1 h2 h3;split at h
   . split at h
     . rename_i hs hok;have hkind:sliceKind P T (ev x)=true∧∀str,ev x≠ .raw (.string str):=by
        unfold slOk at hok;unfold sliceKind;split at hok
        . rename_i e1 e2;cases e1
        . rename_i e1 e2;cases e1;rw [e2];refine ⟨?_,fun _ h=>by cases h⟩;simp only [hu];rw [beq_iff_eq] at hok⊢;rw [hn,hok]
        . rename_i e1 e2;cases e1;rw [e2];refine ⟨?_,fun _ h=>by cases h⟩;simp only [hu];rw [beq_iff_eq] at hok⊢;rw [hn,hok]
        . rename_i e1 e2;cases e1;rw [e2];refine ⟨?_,fun _ h=>by cases h⟩;simp only [hu];rw [beq_iff_eq] at hok⊢;rw [hn,hok]
        . rename_i e1 e2;cases e1;rw [e2];refine ⟨?_,fun _ h=>by cases h⟩;simp only [hu];rw [beq_iff_eq] at hok⊢;rw [hn,hok]
        . rename_i e1 e2;rw [e2];refine ⟨?_,fun _ h=>by cases h⟩;simp only [hu];cases hi:P.info? e with
          |none=>simp [hi] at hn
          |some i=>rfl
        cases hok
       exact z5e hop hkind.1 h1 h2 h3 h.1.1 h.1.2.1 h.1.2.2.1 h.1.2.2.2 (fun hft=>of_decide_eq_true hft) hkind.2 (by assumption) h.2
     exact h.elim
   exact h.elim
 exact h.elim
end
section

variable [Ghost] {P:Program} {o:Oper} {ev:Operand->SV} {H:List SObj} {K:Out->List SObj->Prop}

theorem z1r{T:TypeId}{m k:Operand}(hop:o.op= .mapUpdate T m k x∨o.op= .insert T m k x)(hkk:mapKey P T=some kk)(h:((IOp.mup kk m k x).ev H ev).to P H K):OpV P o ev H K:=by
 obtain ⟨kt,et,hT,hkt,_⟩:=z1o hkk;simp only [IOp.ev] at h;split at h
 . split at h
   . split at h
     . rename_i hc2;obtain ⟨rfl,hki⟩:=hc2;exact q9p hop hT hkt (by assumption) (by assumption) hki (by assumption) h
     exact h.elim
   exact h.elim
 exact h.elim

theorem z8G{s:SV}{h k i n:Nat}(hd:dstAt s=some ⟨h,t,k,i,n⟩)(h0:0<n):∀ (C:Cx) (v:Value),s.den C v->∃b c,C.ρ h=some b∧v= .slice (some ⟨b,i*t.size+k,none⟩) n c:=by
 intro C v hv;unfold dstAt at hd;split at hd<;>cases hd<;>rw [SV.den] at hv
 . obtain ⟨_,⟨_,rfl,_⟩ | ⟨b,c,m,hb,rfl,_⟩⟩:=hv
   . omega
   exact ⟨b,c,hb,by rw [BF]⟩
 . obtain ⟨_,A,c,rfl,_,h1⟩:=hv;rcases h1 with h1| ⟨b,hb,rfl⟩
   . omega
   exact ⟨b,c,hb,rfl⟩
 obtain ⟨_,A,c,rfl,_,h1⟩:=hv;rcases h1 with h1| ⟨b,hb,rfl⟩
 . omega
 exact ⟨b,c,hb,rfl⟩
theorem q2h{i:IOp}(hc:compOp P o.op=some i)(h:(i.ev H ev).to P H K):OpV P o ev H K:=by
 cases hop:o.op with
 |move x=>rw [hop] at hc;cases hc;exact z3B (.inl hop) h.2
 |assign x=>rw [hop] at hc;cases hc;exact z3B (.inr hop) h.2
 |pick c x y=>
  rw [hop] at hc;cases hc;simp only [IOp.ev] at h;split at h
  . exact z9G hop (by assumption) h.2
  exact h.elim
 |nilCheck x=>
  rw [hop] at hc;cases hc;simp only [IOp.ev] at h;split at h
  . exact z1d hop (by assumption) h.2
  exact h.elim
 |alloc T=>
  rw [hop] at hc;simp only [compOp] at hc;split at hc
  . rename_i t m ha;cases hc;obtain ⟨zs,hz,h1,hd,rfl⟩:=j1c ha;exact j3q hop hz h1 hd h.2
  split at hc
  . rename_i hs;cases hc;obtain ⟨zs,hz,hd⟩:=j4o hs;exact z5b hop hz hd h.2
  simp only [Ap] at hc;obtain ⟨zs,hz,rfl⟩:=hc;exact z7f hop hz h.2
 |box T x=>
  rw [hop] at hc;cases hc;simp only [IOp.ev] at h;split at h
  . split at h
    . exact j0m hop (by assumption) (by assumption) h.2
    exact h.elim
  . exact j0H hop (by assumption) h.2
  split at h
  . exact j4m hop (by assumption) h.2
  exact h.elim
 |load t x=>rw [hop] at hc;simp only [compOp,Ap] at hc;obtain ⟨ag,ha,rfl⟩:=hc;exact z9i hop ha h
 |store t x y=>rw [hop] at hc;simp only [compOp,Ap] at hc;obtain ⟨n,⟨i,hi,rfl⟩,rfl⟩:=hc;exact z8Y hop (by simp [hi]) h
 |binOp op t x y t'=>
  rw [hop] at hc;simp only [compOp] at hc;split at hc
  . rename_i ks hs;split at hc
    . cases hc;simp only [IOp.ev] at h;split at h
      . split at h
        . exact z7i hop (.inl rfl) hs (by assumption) (by assumption) (by assumption) (by simpa using h.2)
        exact h.elim
      exact h.elim
    . cases hc;simp only [IOp.ev] at h;split at h
      . split at h
        . exact z7i hop (.inr rfl) hs (by assumption) (by assumption) (by assumption) (by simpa using h.2)
        exact h.elim
      exact h.elim
    cases hc
  cases hc;exact z8i hop h
 |unOp op t x=>
  rw [hop] at hc;cases hc;simp only [IOp.ev] at h;split at h
  . split at h
    . exact j6V hop (by assumption) (by assumption) h.2
    exact h.elim
  exact h.elim
 |convert s d x=>
  rw [hop] at hc;simp only [compOp] at hc;split at hc
  . cases hc;simp only [IOp.ev] at h;split at h
    . exact z0Q hop (by assumption) (by assumption) (by assumption) h.2
    exact h.elim
  . split at hc
    . cases hc;simp only [IOp.ev] at h;split at h
      . exact q8i hop (by assumption) (by assumption) (by assumption) (by assumption) h.2
      . exact q7h hop (by assumption) (by assumption) (by assumption) (by assumption) h.2
      . split at h
        . exact q7D hop (by assumption) (by assumption) (by assumption) (by assumption) (by assumption) h.1.1 h.1.2 h.2
        exact h.elim
      . split at h
        . exact q6S hop (by assumption) (by assumption) (by assumption) (by assumption) (by assumption) h.1.1 h.1.2 h.2
        exact h.elim
      exact h.elim
    cases hc
  . cases hc;simp only [IOp.ev] at h;split at h
    . exact z1e hop (by assumption) (by assumption) (by assumption) h.2
    exact h.elim
  . split at hc
    . cases hc;simp only [IOp.ev] at h;split at h
      . exact z1z hop (by assumption) (by assumption) (by assumption) (by assumption) h.2
      exact h.elim
    cases hc
  cases hc
 |fieldAddr t x f=>
  rw [hop] at hc;simp only [compOp] at hc;split at hc
  . split at hc
    . cases hc;simp only [IOp.ev] at h;split at h
      . exact q8R hop (by assumption) (by assumption) (by assumption) h.2
      exact h.elim
    cases hc
  cases hc
 |field t x f=>
  rw [hop] at hc;simp only [compOp] at hc;split at hc
  . simp only [Ap] at hc;obtain ⟨ag,ha,rfl⟩:=hc;simp only [IOp.ev] at h;split at h
    . split at h
      . exact z8x hop (by assumption) ha (by assumption) (by assumption) h.2
      exact h.elim
    . split at h
      . split at h
        . exact z5s hop (by assumption) ha (by assumption) (by assumption) (by assumption) h.2
        exact h.elim
      exact h.elim
    exact h.elim
  cases hc
 |indexAddr t x ix=>
  rw [hop] at hc;simp only [compOp] at hc;split at hc
  . simp only [Ap] at hc;obtain ⟨n,⟨i,hi,rfl⟩,rfl⟩:=hc;exact z9D hop (by assumption) (by simp [hi]) h
  . simp only [Ap] at hc;obtain ⟨n,⟨i,hi,rfl⟩,rfl⟩:=hc;simp only [IOp.ev] at h;split at h
    . split at h
      . exact q4R (sz:=i.size) hop (by assumption) (by simp [hi]) (by assumption) (by assumption) h.1.1 h.1.2 h.2
      exact h.elim
    exact h.elim
  cases hc
 |typeAssert x xT T ok=>
  rw [hop] at hc;cases ok with
  |false=>simp [compOp] at hc
  |true=>
   simp only [compOp] at hc;split at hc
   . rename_i hn;simp only [Ap] at hc;obtain ⟨z,hz,rfl⟩:=hc;simp only [IOp.ev] at h;split at h
     . split at h
       . rename_i T' y hx e;subst e;exact z5n hop hn hx h.2
       rename_i T' y hx e;exact z1t hop hn hz (.inr ⟨T',y,e,hx⟩) h.2
     . rename_i hx;exact z1t hop hn hz (.inl hx) h.2
     exact h.elim
   cases hc
 |index t x ix=>
  rw [hop] at hc;simp only [compOp] at hc;split at hc
  . cases hc;simp only [IOp.ev] at h;split at h
    . exact q9O hop (by assumption) (by assumption) (by assumption) h.1.1 h.1.2 h.2
    exact h.elim
  . split at hc
    . rename_i hag hsz;cases hc;simp only [IOp.ev] at h;split at h
      . split at h
        . rename_i hn;obtain ⟨rfl,he⟩:=hn;split at h
          . exact z5y hop (by assumption) hag hsz he (by assumption) (by assumption) h.1.1 h.1.2 (by assumption) h.2
          exact h.elim
        exact h.elim
      . split at h
        . exact q8O hop (by assumption) hag hsz (by assumption) (by assumption) h.1.1 h.1.2 (by rw [AD];assumption) h.2
        exact h.elim
      exact h.elim
    . split at hc
      . rename_i hag hsz hm;subst hm;cases hc;simp only [IOp.ev] at h;split at h
        . split at h
          . rename_i hn;obtain ⟨rfl,he,_⟩:=hn;exact z4H hop (by assumption) hag hsz he (by assumption) (by assumption) h.1.1 h.1.2 h.2
          exact h.elim
        . split at h
          . exact q8O hop (by assumption) hag hsz (by assumption) (by assumption) h.1.1 h.1.2 (by assumption) h.2
          exact h.elim
        exact h.elim
      cases hc
    cases hc
  cases hc
 |sliceToArrayPointer T x=>
  rw [hop] at hc;simp only [compOp] at hc;split at hc
  . cases hc;simp only [IOp.ev] at h;split at h
    . rename_i hev;split at h
      . rename_i hs;exact z8e hop (by assumption) (fun _ _ g=>by rw [hev] at g;exact g) hs.1 h.1 hs.2 h.2
      exact h.elim
    . rename_i hev;split at h
      . rename_i hs;exact z8e hop (by assumption) (fun _ _ g=>by rw [hev,SV.den] at g;rw [SV.den];exact g.1) hs.1 h.1 hs.2 h.2
      exact h.elim
    exact h.elim
  cases hc
 |extract x n=>
  rw [hop] at hc;cases hc;simp only [IOp.ev] at h;split at h
  . split at h
    . exact z2F hop (by assumption) (by assumption) h.2
    exact h.elim
  exact h.elim
 |makeFunc fn fi ca=>
  rw [hop] at hc;cases fn with
  |func f=>cases hc;exact z0O hop h.2
  |methodOf T nm=>
   simp only [compOp] at hc;split at hc
   . rename_i hcond;cases hc;exact z0r hop hcond.1 hcond.2 h.2
   cases hc
  |_=>simp [compOp] at hc
 |makeInterface T x=>
  rw [hop] at hc;simp only [compOp] at hc;split at hc
  . cases hc;exact q5Y hop (by assumption) h.2
  cases hc
 |build t ps=>
  rw [hop] at hc;simp only [compOp] at hc;split at hc
  . rename_i hs;simp only [Ap] at hc;obtain ⟨pl,hpl,rfl⟩:=hc;obtain ⟨zs,hz,hd⟩:=j2o hs;simp only [IOp.ev] at h;split at h
    . exact z5a hop hz hd hpl (by assumption) h.1 h.2
    exact h.elim
  split at hc
  . cases hc;simp only [IOp.ev] at h;split at h
    . exact z6l hop (by assumption) (by assumption) (by assumption) h.2
    exact h.elim
  cases hc
 |buildSlice t n ps=>
  rw [hop] at hc;simp only [compOp] at hc;split at hc
  . split at hc
    . cases hc;simp only [IOp.ev] at h;split at h
      . split at h
        . exact q8j hop (by assumption) (by assumption) (by assumption) (by assumption) (by assumption) h.1 h.2
        exact h.elim
      exact h.elim
    . cases hc;simp only [IOp.ev] at h;split at h
      . exact j3l hop (by assumption) (by assumption) (by assumption) (by assumption) h.2
      exact h.elim
    cases hc
  cases hc
 |slice t x lo hi mx=>
  rw [hop] at hc;cases mx with
  |some m=>
   cases hi with
   |none=>simp [compOp] at hc
   |some hi=>
    simp only [compOp] at hc;split at hc
    . simp only [Ap] at hc;obtain ⟨n,⟨i,hi,rfl⟩,rfl⟩:=hc;exact z7W hop (by assumption) (by simp [hi]) (fun hf=>z4z (by simp only [Am] at hf;exact hf.2)) h
    . simp only [Ap] at hc;obtain ⟨n,⟨i,hi,rfl⟩,rfl⟩:=hc;simp only [IOp.ev] at h;split at h
      . split at h
        . exact z2Y (sz:=i.size) hop (by assumption) (by simp [hi]) (by assumption) (by assumption) (by assumption) h.1.1 h.1.2.1 h.1.2.2.1 h.1.2.2.2 (by assumption) h.2
        exact h.elim
      exact h.elim
    cases hc
  |none=>
   simp only [compOp] at hc;split at hc
   . cases hc;exact z3t hop (.inl ⟨rfl,by assumption⟩) h
   . simp only [Ap] at hc;obtain ⟨n,⟨i,hi,rfl⟩,rfl⟩:=hc;exact z3t hop (.inr ⟨_,_,rfl,by assumption,by simp [hi]⟩) h
   . simp only [Ap] at hc;obtain ⟨n,⟨i,hi,rfl⟩,rfl⟩:=hc;simp only [IOp.ev] at h;split at h
     . split at h
       . exact z4P (sz:=i.size) hop (by assumption) (by simp [hi]) (by assumption) (by assumption) h.1.1 h.1.2.1 h.1.2.2 (by assumption) h.2
       exact h.elim
     exact h.elim
   cases hc
 |panic x=>
  rw [hop] at hc;cases hc;simp only [IOp.ev] at h;split at h
  . exact z6E hop (by assumption) h
  exact h.elim
 |call c=>
  rw [hop] at hc;simp only [compOp] at hc;split at hc
  . cases hc;simp only [IOp.ev] at h;split at h
    . rename_i f args c g fi ca hg;refine OpV.weaken (ev':=fun x=>(ev x).wk) ?_ (fun x=>j0a _);exact j1A hop (by assumption) (by simp only [hg];rfl) h.1 h.2
    . rename_i v hg;split at h
      . rename_i hy;refine OpV.weaken (ev':=fun x=>(ev x).wk) ?_ (fun x=>j0a _);exact j3n hop (by assumption) (by simp only [hg];rfl) hy h
      split at h
      . rename_i hy;refine OpV.weaken (ev':=fun x=>(ev x).wk) ?_ (fun x=>j0a _);exact z6K hop (by assumption) (by simp only [hg];rfl) hy h.1 h.2
      exact h.elim
    exact h.elim
  . split at hc
    . rename_i x t hargs htys;have ha:c.args= #[x]:=by rw [<-Array.toList_inj];exact hargs
      have hty:c.argTypes= #[t]:=by rw [<-Array.toList_inj];exact htys
      split at hc
      . cases hc;exact z0W hop (by assumption) ha hty (.inl ⟨rfl,by assumption⟩) h
      . cases hc;exact z0W hop (by assumption) ha hty (.inr ⟨rfl,_,by assumption⟩) h
      . cases hc;simp only [IOp.ev] at h;split at h
        . exact z1S hop (by assumption) ha hty (by assumption) (by assumption) h.2
        exact h.elim
      cases hc
    cases hc
  . split at hc
    . rename_i x y tS tX hargs htys;have ha:c.args= #[x,y]:=by rw [<-Array.toList_inj];exact hargs
      have hty:c.argTypes= #[tS,tX]:=by rw [<-Array.toList_inj];exact htys
      split at hc
      . split at hc
        . split at hc
          . split at hc
            . rename_i hz hsz;cases hc;simp only [IOp.ev] at h;split at h
              . split at h
                . split at h
                  . rename_i e2;subst e2;exact q8g hop (by assumption) ha hty (by assumption) (by assumption) (by assumption) hsz.1 (by assumption) (by assumption) (by assumption) h.1.1 h.1.2.1 h.1.2.2 h.2
                  exact h.elim
                exact h.elim
              split at h
              . exact z5w hop (by assumption) ha hty (by assumption) (by assumption) (by assumption) hsz.1 (by assumption) hsz.2 (by assumption) h.1.1 (by assumption) h.1.2.1 h.1.2.2.1 h.1.2.2.2 h.2
              exact h.elim
            cases hc
          cases hc
        cases hc
      . split at hc
        . split at hc
          . split at hc
            . rename_i hz hcond;cases hc;simp only [IOp.ev] at h;split at h
              . split at h
                . rename_i e2;subst e2;exact j1b hop (by assumption) ha hty (by assumption) (by assumption) (by assumption) hcond.1 (by assumption) hcond.2.1 hcond.2.2.1 hcond.2.2.2 (by assumption) (by assumption) h.1.1 h.1.2.1 h.1.2.2 h.2
                exact h.elim
              exact h.elim
            cases hc
          cases hc
        cases hc
      cases hc
    cases hc
  . split at hc
    . rename_i x y tS tX hargs htys;have ha:c.args= #[x,y]:=by rw [<-Array.toList_inj];exact hargs
      have hty:c.argTypes= #[tS,tX]:=by rw [<-Array.toList_inj];exact htys
      split at hc
      . simp only [Ap] at hc;obtain ⟨n,⟨i,hi,rfl⟩,rfl⟩:=hc;simp only [IOp.ev] at h;split at h
        . rename_i hdst;split at h
          . rename_i hsz;split at h
            . split at h
              . obtain ⟨⟨hp,hq,h0⟩,hk⟩:=h;exact j0O hop (by assumption) ha hty (by assumption) (by simp [hi,hsz]) (z8G hdst h0) (by assumption) hp rfl (by assumption) (by assumption) hq hk
              exact h.elim
            exact h.elim
          exact h.elim
        exact h.elim
      cases hc
    cases hc
  . split at hc
    . rename_i x y hargs;have ha:c.args= #[x,y]:=by rw [<-Array.toList_inj];exact hargs
      cases hc;simp only [IOp.ev] at h;split at h
      . rename_i hx hy;exact j2d (b:=true) hop (by assumption) ha hx hy h.2
      exact h.elim
    cases hc
  . split at hc
    . rename_i x y hargs;have ha:c.args= #[x,y]:=by rw [<-Array.toList_inj];exact hargs
      cases hc;simp only [IOp.ev] at h;split at h
      . rename_i hx hy;exact j2d (b:=false) hop (by assumption) ha hx hy h.2
      exact h.elim
    cases hc
  cases hc
 |makeSlice T x y=>
  rw [hop] at hc;simp only [compOp] at hc;split at hc
  . split at hc
    . split at hc
      . split at hc
        . rename_i hz hcond;cases hc;simp only [IOp.ev] at h;split at h
          . exact q9g hop (by assumption) (by assumption) hz hcond.1 hcond.2.1 hcond.2.2.1 (by assumption) (by assumption) h.1.1 h.1.2.1 h.1.2.2.1 h.1.2.2.2 hcond.2.2.2 h.2
          exact h.elim
        cases hc
      cases hc
    cases hc
  cases hc
 |makeMap T r=>
  rw [hop] at hc;cases r with
  |some r=>simp [compOp] at hc
  |none=>simp only [compOp,Ap] at hc;obtain ⟨kk,hkk,rfl⟩:=hc;exact z1J kk hop h.2
 |mapUpdate T m k x=>rw [hop] at hc;simp only [compOp,Ap] at hc;obtain ⟨kk,hkk,rfl⟩:=hc;exact z1r (.inl hop) hkk h
 |insert T m k x=>rw [hop] at hc;simp only [compOp,Ap] at hc;obtain ⟨kk,hkk,rfl⟩:=hc;exact z1r (.inr hop) hkk h
 |lookup T m k ok=>
  rw [hop] at hc;simp only [compOp] at hc;split at hc
  . rename_i kk z hkk hz;cases hc;obtain ⟨kt,et,hT,hkt,hzz⟩:=z1o hkk;simp only [IOp.ev] at h;split at h
    . split at h
      . rename_i hc2;obtain ⟨rfl,hki⟩:=hc2;exact z4J hop hT hkt (hzz▸hz) (by assumption) (by assumption) hki h.2
      exact h.elim
    exact h.elim
  cases hc
 |_=>rw [hop] at hc;simp [compOp] at hc
end
end Go.Sx