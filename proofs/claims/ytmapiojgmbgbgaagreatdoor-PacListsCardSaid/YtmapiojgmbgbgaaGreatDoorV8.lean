/- A part of the proof: a symbolic executor over abstract values, and its soundness. -/
import Derived.Test.YtmapiojgmbgbgaaGreatDoorV7
set_option linter.all false
namespace Go.Sx
open Go

variable [Ghost] {P:Program} {o:Oper} {ev:Operand→SV} {H:List SObj} {K:Out→List SObj→Prop}

def addB(m sz n:Nat):SV→Option SV
 |.ptr h off=>some (.ptr h (off+n*sz))
 |.iptr t x k=>if t.plain then some (.iptr t x (k+n*sz)) else match t.arrAt x k with
  |some ⟨e,N,ys⟩=>if m*sz=N then (if sz=1 then some (.iptr e (ys.getD n e.dflt) 0) else some (.iptr (.arr sz e) ((ys.drop (n*sz)).take sz) 0)) else none
  |none=>none
 |.rptr h t i k=>if t.plain then (if k=0∧sz=t.size then some (.rptr h t (i+n) 0) else if t.size=1 then some (.rptr h t (i+n*sz) k) else some (.rptr h t i (k+n*sz)))
  else if i=0 then (match t.cellAt k with
   |some e=>some (.rptr h e (n*sz) k)
   |none=>none) else none
 |.raw v=>(SV.raw v).add (n*sz)
 |_=>none
theorem z1H{C:Cx}{t:Ty}{y:t.den}{b a:Nat}(hI:C.I b)(h:Lies C.I C.w b a t y):(SV.iptr t y 0).den C (.pointer (some ⟨b,a,none⟩)):=by
 obtain ⟨us,h1,h2⟩:=h;rw [SV.den];exact ⟨b,a,us,by rw [AK],hI,h1,h2⟩
theorem z9O{C:Cx}{s s':SV}{m sz n:Nat}{v:Value}(hn:n<m)(h:addB m sz n s=some s')(hd:s.den C v):∃b o,v= .pointer (some ⟨b,o,none⟩)∧s'.den C (.pointer (some ⟨b,o+n*sz,none⟩)):=by
 unfold addB at h;split at h
 · cases h;exact q6J (s:=.ptr _ _) rfl hd
 · split at h
   · cases h;exact q6J (s:=.iptr _ _ _) rfl hd
   split at h
   · rename_i e N ys hz;split at h
     · rename_i hN;rw [SV.den] at hd;obtain ⟨b,off,vs,rfl,hI,hr,hc⟩:=hd;obtain ⟨g1,g2⟩:=q3T _ hz ⟨vs,hr,hc⟩;simp only at g1 g2;refine ⟨b,_,rfl,?_⟩;split at h
       · rename_i h1;cases h;refine z1H hI ?_;rw [h1,AM];exact g1.elem g2 (by rw [h1,AM] at hN;omega)
       cases h;have:(n+1)*sz≤m*sz:=AX _ hn;rw [Nat.add_mul] at this;exact z1H hI (g1.part g2 (by omega))
     cases h
   cases h
 · split at h
   · split at h
     · rename_i e;obtain ⟨rfl,e⟩:=e;cases h;rw [SV.den] at hd;obtain ⟨hn,b,hb,rfl⟩:=hd;exact ⟨b,_,rfl,by rw [SV.den];exact ⟨hn,b,hb,by rw [e,Nat.add_mul,AK,AK]⟩⟩
     split at h
     · rename_i e;cases h;rw [SV.den] at hd;obtain ⟨hn,b,hb,rfl⟩:=hd;refine ⟨b,_,rfl,?_⟩;rw [SV.den];exact ⟨hn,b,hb,by rw [e,AM,AM];congr 3;omega⟩
     cases h;exact q6J (s:=.rptr _ _ _ _) rfl hd
   split at h
   · rename_i h0;subst h0;split at h
     · rename_i e he;cases h;rw [SV.den] at hd;obtain ⟨hn,b,hb,rfl⟩:=hd;refine ⟨b,_,rfl,?_⟩;rw [SV.den];exact ⟨hn,b,hb,by rw [q3V he];congr 3;omega⟩
     cases h
   cases h
 · exact q6J h hd
 cases h
theorem q4L{t e':TypeId}{x i:Operand}{len sz:Nat}{k:IntKind}{n:Int}{s:SV}(hop:o.op= .indexAddr t x i)(ht:P.underlying t=some (.array len e'))(hs:(P.info? e').map (·.size)=some sz)(hi:ev i= .raw (.int k n))
 (ha:addB len sz n.toNat (ev x)=some s)(h0:0≤n)(hb:n.toNat<len)(hk:K (.ret s) H):OpV P o ev H K:=by
 refine q0i (by rw [hop];intro c hc;cases hc) (fun C e _ hv=> ?_) hk
 have h2:=hv i (by rw [hop];simp [Op.operands])
 rw [hi,SV.den] at h2;obtain ⟨b,p,hx,hd⟩:=z9O hb ha (hv x (by rw [hop];simp [Op.operands]))
 have hlt:n< (len:Int):=by omega
 exact ⟨_,by simp [execOp,hop,hx,h2,Instr.indexAt,asIntOf,run_underlying' ht,Instr.sureAddr,h0,hlt,q0j hs,q0J,Result.andThen],hd⟩

def slB(m sz lo n:Nat):SV→Option SV
 |.rptr h t i k=>if t.plain then (if k=0∧sz=t.size then some (.osl h t (i+lo) n) else if t.size=1∧sz=1 then some (.csl h t k (i+lo) n) else none)
  else if i=0∧sz=1 then (match t.cellAt k with
   |some e=>some (.csl h e k lo n)
   |none=>none) else none
 |.iptr t x k=>match t.arrAt x k with
  |some ⟨e,N,ys⟩=>if m=N∧sz=1∧N≤1125899906842624 then some (.isl e ((ys.drop lo).take n)) else none
  |none=>none
 |_=>none
theorem z7O{C:Cx}{s s':SV}{m sz lo n c:Nat}{v:Value}(h:slB m sz lo n s=some s')(hln:lo+n≤m)(hc:n≤c)(hd:s.den C v):
 ∃a,v= .pointer (some a)∧∀A,(n≠0→A=some (a.add (lo*sz)))→s'.den C (.slice A n c):=by
 unfold slB at h;split at h
 · split at h
   · split at h
     · rename_i e;obtain ⟨rfl,e⟩:=e;cases h;rw [SV.den] at hd;obtain ⟨hn,b,hb,rfl⟩:=hd;refine ⟨_,rfl,fun A hA=> ?_⟩;rw [SV.den];refine ⟨hn,A,c,rfl,hc,?_⟩;by_cases hz:n=0
       · exact .inl hz
       exact .inr ⟨b,hb,by rw [hA hz,q0J,e,Nat.add_mul,AK]⟩
     split at h
     · rename_i e;obtain ⟨e,rfl⟩:=e;cases h;rw [SV.den] at hd;obtain ⟨hn,b,hb,rfl⟩:=hd;refine ⟨_,rfl,fun A hA=> ?_⟩;rw [SV.den];refine ⟨hn,A,c,rfl,hc,?_⟩;by_cases hz:n=0
       · exact .inl hz
       exact .inr ⟨b,hb,by rw [hA hz,q0J,e];congr 2;omega⟩
     cases h
   split at h
   · rename_i e;obtain ⟨rfl,rfl⟩:=e;split at h
     · rename_i e he;cases h;rw [SV.den] at hd;obtain ⟨hn,b,hb,rfl⟩:=hd;refine ⟨_,rfl,fun A hA=> ?_⟩;rw [SV.den];refine ⟨hn,A,c,rfl,hc,?_⟩;by_cases hz:n=0
       · exact .inl hz
       exact .inr ⟨b,hb,by rw [hA hz,q0J,q3V he];congr 2;omega⟩
     cases h
   cases h
 · split at h
   · rename_i e N ys hz;split at h
     · rename_i hm;obtain ⟨rfl,rfl,hlim⟩:=hm;cases h;rw [SV.den] at hd;obtain ⟨b,off,vs,rfl,hI,hr,hcc⟩:=hd;obtain ⟨g1,g2⟩:=q3T _ hz ⟨vs,hr,hcc⟩;simp only at g1 g2;obtain ⟨g3,g4⟩:=(q3q g2).1 g1;have hl:((ys.drop lo).take n).length=n:=by simp;omega
       refine ⟨_,rfl,fun A hA=> ?_⟩;rw [SV.den];refine ⟨A,n,c,rfl,hl.symm,hc,by omega,?_⟩
       by_cases hz:n=0
       · exact .inl (A7 (by omega))
       refine .inr ⟨b,_,by rw [hA hz,q0J],hI,fun i x hx=> ?_⟩
       rw [AH] at hx;split at hx
       · rw [AF] at hx;have:=g4 _ _ hx;rw [←Nat.add_assoc] at this;rw [g2,AM,AM];exact this
       cases hx
     cases h
   cases h
 cases h
theorem z4m{T e':TypeId}{x:Operand}{lo hi:Option Operand}{a b:Option Int}{m sz:Nat}{s:SV}(hop:o.op= .slice T x lo hi none)(ht:P.underlying T=some (.array m e'))(hsz:(P.info? e').map (·.size)=some sz)(h1:bndV ev lo=some a)(h2:bndV ev hi=some b)
 (g0:0≤loOf a)(g1:loOf a≤hiOf m b)(g2:hiOf m b≤(m:Int))(hs:slB m sz (loOf a).toNat ((hiOf m b).toNat- (loOf a).toNat) (ev x)=some s)(hk:K (.ret s) H):OpV P o ev H K:=by
 refine q0i (by rw [hop];intro c hc;cases hc) (s:=s) (fun C e _ hv=> ?_) hk
 rw [hop] at hv;have hx:=hv x (by simp [Op.operands])
 have hlo:∀y∈lo,(ev y).den C (e y):=fun y hy=>hv y (by simp [Op.operands];cases hy;simp)
 have hhi:∀y∈hi,(ev y).den C (e y):=fun y hy=>hv y (by simp [Op.operands];cases hy;simp)
 obtain ⟨ad,hxv,hden⟩:=z7O (c:=m- (loOf a).toNat) hs (by omega) (by omega) hx
 have hb:=q3k (P:=P) (C:=C) (e:=e) (isS:=false) (len:=m) (cap:=m) hlo hhi h1 h2 C.w g0 g1 g2;refine ⟨.slice (some (if m=(loOf a).toNat then ad else ad.add ((loOf a).toNat*sz))) ((hiOf m b).toNat- (loOf a).toNat) (m- (loOf a).toNat),?_,hden _ fun hne=>by rw [if_neg (by omega)]⟩
 simp [execOp,hop,Instr.sliceAt,run_underlying' ht,Instr.sureAddr,hxv,hb,q0j hsz,Result.andThen]
theorem z2s{T e':TypeId}{x hi mx:Operand}{lo:Option Operand}{a:Option Int}{b c:Int}{m sz:Nat}{s:SV}(hop:o.op= .slice T x lo (some hi) (some mx))(ht:P.underlying T=some (.array m e'))(hsz:(P.info? e').map (·.size)=some sz)(h1:bndV ev lo=some a)(h2:bndV ev (some hi)=some (some b))(h3:bndV ev (some mx)=some (some c))
 (g0:0≤loOf a)(g1:loOf a≤b)(g2:b≤c)(g3:c≤(m:Int))(hs:slB m sz (loOf a).toNat (b.toNat- (loOf a).toNat) (ev x)=some s)(hk:K (.ret s) H):OpV P o ev H K:=by
 refine q0i (by rw [hop];intro c hc;cases hc) (s:=s) (fun C e _ hv=> ?_) hk
 rw [hop] at hv;have hx:=hv x (by simp [Op.operands])
 have hlo:∀y∈lo,(ev y).den C (e y):=fun y hy=>hv y (by simp [Op.operands];cases hy;simp)
 have hhi:(ev hi).den C (e hi):=hv hi (by simp [Op.operands])
 have hmx:(ev mx).den C (e mx):=hv mx (by simp [Op.operands])
 obtain ⟨ad,hxv,hden⟩:=z7O (c:=c.toNat- (loOf a).toNat) hs (by omega) (by omega) hx
 have hb:=q3R (P:=P) (C:=C) (e:=e) (isS:=false) (len:=m) (cap:=m) hlo hhi hmx h1 h2 h3 C.w g0 g1 g2 g3;refine ⟨.slice (some (if c.toNat=(loOf a).toNat then ad else ad.add ((loOf a).toNat*sz))) (b.toNat- (loOf a).toNat) (c.toNat- (loOf a).toNat),?_,hden _ fun hne=>by rw [if_neg (by omega)]⟩
 simp [execOp,hop,Instr.sliceAt,run_underlying' ht,Instr.sureAddr,hxv,hb,q0j hsz,Result.andThen]

theorem z6V{T e':TypeId}{x:Operand}{t:Ty}{m:Nat}{xs:List t.den}(hop:o.op= .sliceToArrayPointer T x)(hT:P.underlying T=some (.array m e'))(hx:∀C v,(ev x).den C v→(SV.isl t xs).den C v)(ht:t.size=1)(hm:m≤xs.length)(h0:0<m)
 (hk:K (.ret (.iptr (.arr m t) (xs.take m) 0)) H):OpV P o ev H K:=by
 refine q0i (by rw [hop];intro c hc;cases hc) (fun C e _ hv=> ?_) hk
 have h1:=hx _ _ (hv x (by rw [hop];simp [Op.operands]))
 rw [SV.den] at h1;obtain ⟨A,n,c,e0,rfl,hc,_,h1⟩:=h1;simp only [List.cons.injEq,and_true] at e0;rcases h1 with rfl| ⟨b,off,rfl,hI,h1⟩
 · simp at hm;omega
 refine ⟨.pointer (some ⟨b,off,none⟩),by simp [execOp,hop,e0,Instr.arrayAt,run_underlying' hT,Result.andThen,AG.2 hm],z1H hI ((q3q ht).2 ⟨by simp;omega,fun i y hy=> ?_⟩)⟩
 rw [AH] at hy;split at hy
 · obtain ⟨us,g1,g2⟩:=h1 i y hy;rw [ht,AM] at g2;exact ⟨us,g1,g2⟩
 cases hy

theorem z9d{T:TypeId}{x:Operand}{t:Ty}{y:t.den}(hop:o.op= .box T x)(hx:ev x= .dat t y)(hk:K (.ret (.rptr H.length t 0 0)) (H++ [.row t [y]])):OpV P o ev H K:=by
 refine q0R (by rw [hop];intro c hc;cases hc) fun C e hw hv=> ?_
 have h0:=hv x (by rw [hop];simp [Op.operands])
 rw [hx,SV.den] at h0;obtain ⟨vs,h0,hr⟩:=h0;have hl:=t.rel_size _ _ hr;obtain ⟨g1,g2,_⟩:=q4q (T:=T) (rest:=[]) (t:=t) (xs:=[y]) (vs:=vs) hw (n:=1) (c:=1) (q2Y.2 hr) (by simp) (Ae _) (by simp [hl])
 rw [Ai] at g1 g2;refine ⟨_,.pointer (some ⟨C.w.heap.size,0,none⟩),_,_,hk,.inl ?_,g1,g2,?_⟩
 · simp [execOp,hop,h0,Instr.box,Result.andThen,newVar,newRow,Cx.grow,Value.cells]
 rw [SV.den];exact ⟨by simp [Cx.grow,hw.n],C.w.heap.size,by simp [Cx.grow,hw.n],by simp⟩
theorem z8R{T:TypeId}{x:Operand}{t:Ty}{n:Nat}{ys:List t.den}(hop:o.op= .box T x)(hx:ev x= .dat (.arr n t) ys)(ht:t.size=1)(hk:K (.ret (.rptr H.length t 0 0)) (H++ [.row t ys])):OpV P o ev H K:=by
 refine q0R (by rw [hop];intro c hc;cases hc) fun C e hw hv=> ?_
 have h0:=hv x (by rw [hop];simp [Op.operands])
 rw [hx,SV.den] at h0;obtain ⟨vs,h0,hr⟩:=h0;have hn:=hr.1;have hl:=(Ty.arr n t).rel_size _ _ hr;simp only [Ty.size,ht,AM] at hl;subst hn;obtain ⟨g1,g2,_⟩:=q4q (T:=T) (rest:=[]) (t:=t) (xs:=ys) (vs:=vs) hw (n:=ys.length) (c:=ys.length) ((q3s ht).2 hr) (by simp) (Ae _) (by simp [hl,ht])
 rw [Ai] at g1 g2;refine ⟨_,.pointer (some ⟨C.w.heap.size,0,none⟩),_,_,hk,.inl ?_,g1,g2,?_⟩
 · simp [execOp,hop,h0,Instr.box,Result.andThen,newVar,newRow,Cx.grow,Value.cells]
 rw [SV.den];exact ⟨by simp [Cx.grow,hw.n],C.w.heap.size,by simp [Cx.grow,hw.n],by simp⟩
theorem z4x{T:TypeId}{t:Ty}{zs:List Value}(hop:o.op= .alloc T)(hz:(P.info? T).bind (fun i=>i.zero.map (·.cells.toList))=some zs)(hd:t.isZero zs=true)
 (hk:K (.ret (.rptr H.length t 0 0)) (H++ [.row t [t.dflt]])):OpV P o ev H K:=by
 refine q0R (by rw [hop];intro c hc;cases hc) fun C e hw _=> ?_
 have hr:=Ty.isZero_rel (I:=C.I) (w:=C.w) hd;have hl:=t.rel_size _ _ hr;obtain ⟨g1,g2,_⟩:=q4q (T:=T) (rest:=[]) (t:=t) (xs:=[t.dflt]) (vs:=zs) hw (n:=1) (c:=1) (q2Y.2 hr) (by simp) (Ae _) (by simp [hl])
 rw [Ai] at g1 g2;refine ⟨_,.pointer (some ⟨C.w.heap.size,0,none⟩),_,_,hk,.inl ?_,g1,g2,?_⟩
 · cases hi:P.info? T with
   |none=>simp [hi] at hz
   |some i=>
    cases hz0:i.zero with
    |none=>simp [hi,hz0] at hz
    |some z=>
     simp [hi,hz0] at hz;simp [execOp,hop,Instr.alloc,zeroValue,typeInfo,hi,hz0,Result.andThen,newVar,newRow,Cx.grow,←hz]
 rw [SV.den];exact ⟨by simp [Cx.grow,hw.n],C.w.heap.size,by simp [Cx.grow,hw.n],by simp⟩

def Ty.modS:(t:Ty)→t.den→(k i:Nat)→(e:Ty)→e.den→Option (t.den×Prop)
 |.prod a c,x,k,i,e,d=>if k<a.size then (match a.modS x.1 k i e d with
  |some (y,p)=>some ((y,x.2),p)
  |none=>none) else (match c.modS x.2 (k-a.size) i e d with
  |some (y,p)=>some ((x.1,y),p)
  |none=>none)
 |.arr n e',xs,k,i,e,d=>if h:k=0∧e=e'∧e'.size=1 then some (List.set (α:=e'.den) xs i (cast (by rw [h.2.1]) d),i<n) else none
 |.u8,_,_,_,_,_=>none
 |.int _,_,_,_,_,_=>none
 |.bool,_,_,_,_,_=>none
 |.str,_,_,_,_,_=>none
 |.slice _,_,_,_,_,_=>none
 |.unit,_,_,_,_,_=>none
 |.ptr _,_,_,_,_,_=>none
 |.clo _ _,_,_,_,_,_=>none
 |.clp _ _,_,_,_,_,_=>none
 |.mbs _,_,_,_,_,_=>none
theorem z4O{α:Type}{xs:List α}{i:Nat}{d:α}(h:i<xs.length):splice xs i [d]=xs.set i d:=by
 unfold splice;rw [Cp,if_pos h];simp
theorem q6r{C:Cx}{e:Ty}:∀ (t:Ty) {x x':t.den} {k i:Nat} {d:e.den} {p:Prop} {us ws:List Value},t.modS x k i e d=some (x',p)→p→e.rel C.I C.w d ws→t.rel C.I C.w x us→
 t.rel C.I C.w x' (splice us (k+i) ws)∧k+i+1≤t.size∧ws.length=1
 |.prod a c,x,x',k,i,d,p,us,ws,h,hp,hd,hr=>by
  simp only [Ty.modS] at h;obtain ⟨v1,v2,rfl,r1,r2⟩:=hr;have hl1:=a.rel_size _ _ r1;split at h
  · split at h
    · rename_i hy;cases h;obtain ⟨g1,g2,g3⟩:=q6r a hy hp hd r1;rw [q4k (by omega)]
      exact ⟨⟨_,_,rfl,g1,r2⟩,by simp only [Ty.size];omega,g3⟩
    cases h
  split at h
  · rename_i hlt _ _ _ hy;cases h;obtain ⟨g1,g2,g3⟩:=q6r c hy hp hd r2;rw [q3H (by omega),hl1,show k+i-a.size=k-a.size+i by omega]
    exact ⟨⟨_,_,rfl,r1,g1⟩,by simp only [Ty.size];omega,g3⟩
  cases h
 |.arr n e',xs,x',k,i,d,p,us,ws,h,hp,hd,hr=>by
  simp only [Ty.modS] at h;split at h
  · rename_i hc;obtain ⟨rfl,rfl,he⟩:=hc;cases h;have hwl:=e.rel_size _ _ hd;rw [he] at hwl;have hn:=hr.1;have hlt:i<List.length (α:=e.den) xs:=by omega
    have hws:(Ty.arr [d].length e).rel C.I C.w [d] ws:=(q3s he).1 (q2Y.2 hd);have:=q4f (C:=C) (e:=e) (.arr n e) (x:=xs) (k:=0) (i:=i) (ys:=[d]) (us:=us) (ws:=ws) (x':=splice (α:=e.den) xs i [d]) (p:=i+1≤n) (by simp [Ty.modR,he]) (by omega) hws hr
    obtain ⟨g1,g2,g3⟩:=this;rw [z4O hlt] at g1;exact ⟨g1,g2,hwl⟩
  cases h
 |.u8,_,_,_,_,_,_,_,_,h,_,_,_=>by cases h
 |.int _,_,_,_,_,_,_,_,_,h,_,_,_=>by cases h
 |.bool,_,_,_,_,_,_,_,_,h,_,_,_=>by cases h
 |.str,_,_,_,_,_,_,_,_,h,_,_,_=>by cases h
 |.slice _,_,_,_,_,_,_,_,_,h,_,_,_=>by cases h
 |.unit,_,_,_,_,_,_,_,_,h,_,_,_=>by cases h
 |.ptr _,_,_,_,_,_,_,_,_,h,_,_,_=>by cases h
 |.clo _ _,_,_,_,_,_,_,_,_,h,_,_,_=>by cases h
 |.clp _ _,_,_,_,_,_,_,_,_,h,_,_,_=>by cases h
 |.mbs _,_,_,_,_,_,_,_,_,h,_,_,_=>by cases h

theorem q3A{C:Cx}{h i k:Nat}{t:Ty}{v:Value}(hd:(SV.rptr h t i k).den C v):∃b,C.ρ h=some b∧v= .pointer (some ⟨b,i*t.size+k,none⟩):=by
 rw [SV.den] at hd;exact hd.2
theorem q8R{T:TypeId}{x:Operand}{h i m:Nat}{t:Ty}{xs:List t.den}(hop:o.op= .load T x)(ht:aggOf P T=some (some m))(he:ev x= .rptr h t i 0)(hH:H[h]?=some (.row t xs))(h1:t.size=1)(hm:0<m)(hi:i+m≤xs.length)
 (hk:K (.ret (.dat (.arr m t) ((xs.drop i).take m))) H):OpV P o ev H K:=
 q4G hop ht (fun C v hw hv=>by
  rw [he] at hv;obtain ⟨b,hb,rfl⟩:=q3A hv;obtain ⟨b',hb',hl⟩:=q8L hw hH h1 hi hm;rw [hb] at hb';cases hb'
  exact ⟨b,_,_,_,rfl,by rw [h1,AM];exact hl,by simp [SV.ofT,Ty.plain],.inr (by simp [Ty.size,h1])⟩) hk
theorem z1a{T:TypeId}{x:Operand}{ag:Option Nat}{h i k:Nat}{t t2:Ty}{xs:List t.den}{y:t2.den}{s:SV}(hop:o.op= .load T x)(ht:aggOf P T=some ag)(he:ev x= .rptr h t i k)(hH:H[h]?=some (.row t xs))(hi:i<xs.length)(hg:t.get (xs.getD i t.dflt) k (ag.getD 1)=some ⟨t2,y⟩)(hs:SV.ofT ag t2 y=some s)
 (hk:K (.ret s) H):OpV P o ev H K:=
 q4G hop ht (fun C v hw hv=>by
  rw [he] at hv;obtain ⟨b,hb,rfl⟩:=q3A hv;obtain ⟨b',hb',hl⟩:=q1Q hw hH (x:=xs.getD i t.dflt) (by rw [Ad,Ab hi];rfl)
  rw [hb] at hb';cases hb';obtain ⟨g1,g2⟩:=z0s t hg hl;refine ⟨b,_,t2,y,rfl,g1,hs,?_⟩;cases ag with
  |none=>exact .inl rfl
  |some m=>exact .inr (by simp at g2;rw [g2])) hk
theorem q9h{T:TypeId}{x:Operand}{ag:Option Nat}{k:Nat}{t t2:Ty}{z:t.den}{y:t2.den}{s:SV}(hop:o.op= .load T x)(ht:aggOf P T=some ag)(he:ev x= .iptr t z k)(hg:t.get z k (ag.getD 1)=some ⟨t2,y⟩)(hs:SV.ofT ag t2 y=some s)
 (hk:K (.ret s) H):OpV P o ev H K:=
 q4G hop ht (fun C v hw hv=>by
  rw [he,SV.den] at hv;obtain ⟨b,off,us,rfl,hI,hr,hc⟩:=hv;obtain ⟨g1,g2⟩:=z0s t hg ⟨us,hr,hc⟩;refine ⟨b,_,t2,y,rfl,g1,hs,?_⟩;cases ag with
  |none=>exact .inl rfl
  |some m=>exact .inr (by simp at g2;rw [g2])) hk
theorem q5Q{T:TypeId}{x:Operand}{ag:Option Nat}{h i k N:Nat}{t t' e:Ty}{z:t'.den}{ys:List e.den}{s:SV}(hop:o.op= .load T x)(ht:aggOf P T=some ag)(he:ev x= .rptr h t i k)(h1:t.size=1)(hH:H[h]?=some (.row t' [z]))(ha:t'.arrAt z k=some ⟨e,N,ys⟩)
 (hs:(ag=none∧i<N∧e.cells (ys.getD i e.dflt)= [s])∨∃m,ag=some m∧0<m∧i+m≤N∧s= .dat (.arr m e) ((ys.drop i).take m))(hk:K (.ret s) H):OpV P o ev H K:=
 q4G hop ht (fun C v hw hv=>by
  rw [he] at hv;obtain ⟨b,hb,rfl⟩:=q3A hv;obtain ⟨b',hb',hl⟩:=q1Q hw hH (i:=0) (x:=z) rfl;rw [hb] at hb';cases hb';obtain ⟨g1,g2⟩:=q3T t' ha hl;simp only at g1 g2;rw [Be,Ac] at g1;rcases hs with ⟨rfl,hi,hcs⟩ | ⟨m,rfl,hm,hi,rfl⟩
  · exact ⟨b,_,e,_,rfl,by rw [h1,AM,Bm];exact g1.elem g2 hi,by simp only [SV.ofT];rw [hcs],.inl rfl⟩
  exact ⟨b,_,_,_,rfl,by rw [h1,AM,Bm];exact g1.part g2 hi,by simp [SV.ofT,Ty.plain],.inr (by simp [Ty.size,g2])⟩) hk
theorem q7I{T T':TypeId}{x:Operand}{ag:Option Nat}{h i k:Nat}{t:Ty}{cs:List SV}{s:SV}(hop:o.op= .load T x)(ht:aggOf P T=some ag)(he:ev x= .rptr h t i k)(hH:H[h]?=some (.cells T' cs))(hp:pick cs (i*t.size+k) ag=some s)(hk:K (.ret s) H):OpV P o ev H K:=by
 refine q0i (by rw [hop];intro c hc;cases hc) (s:=s) (fun C e hw hv=> ?_) hk
 have hx:=hv x (by rw [hop];simp [Op.operands])
 rw [he] at hx;obtain ⟨b,hb,hv'⟩:=q3A hx;obtain ⟨b',vs,hb',hcell,hd⟩:=hw.obj h _ hH;rw [hb] at hb';cases hb';obtain ⟨v,h1,h2⟩:=q1s ht (b:=b) (base:=0) (off:=i*t.size+k) hd (fun j u hj=>by rw [Ac,q0g hcell];exact hj) hp
 rw [Ac] at h1;exact ⟨v,by simp [execOp,hop,hv',Instr.loadAt,Instr.sureAddr,Result.andThen,h1],h2⟩
theorem q4g{T:TypeId}{x y:Operand}{h i m:Nat}{t:Ty}{xs ys:List t.den}(hop:o.op= .store T x y)(hs:(P.info? T).map (·.size)=some m)(he:ev x= .rptr h t i 0)(hy:∀C v,(ev y).den C v→(SV.dat (.arr m t) ys).den C v)(hH:H[h]?=some (.row t xs))(h1:t.size=1)(hm:0<m)(hi:i+m≤xs.length)
 (hk:ys.length=m→K (.ret .any) (H.set h (.row t (splice xs i ys)))):OpV P o ev H K:=by
 intro E C r n a next Q hw hg hv h2 h3
 have hlen:ys.length=m:=by
  have:=hy _ _ (hv y (by rw [hop];simp [Op.operands]))
  rw [SV.den] at this;obtain ⟨vs,_,hr⟩:=this;exact hr.1
 have main:OpV P o ev H K:=q7W (n:=m) (a:=i) hop hs hH (by intro h;simp [h] at hi;omega) (q0s (by omega)) (fun C v hv=>by
  rw [he] at hv;obtain ⟨b,hb,rfl⟩:=q3A hv;exact ⟨b,hb,by rw [h1,AM,AK]⟩) (by rw [h1,AM];exact hi) (fun C v hw hv=>by
  have hv:=hy _ _ hv;rw [SV.den] at hv;obtain ⟨vs,rfl,hr⟩:=hv;have hl:=(Ty.arr m t).rel_size _ _ hr;simp only [Ty.size,h1,AM] at hl;refine ⟨by simpa [Value.cells] using hl,fun u hu=>q5v _ _ _ hr u (by simpa [Value.cells] using hu),fun us hu=> ?_⟩
  have:=q7E (i:=i) hu ((q3s h1).2 (hlen▸hr)) (by omega)
  rw [h1,AM] at this
  simpa [Value.cells] using this) (hk hlen)
 exact main E C r n a next Q hw hg hv h2 h3
theorem q9v{T:TypeId}{x y:Operand}{h k n:Nat}{t:Ty}{z z':t.den}{p:Prop}(hop:o.op= .store T x y)(hs:(P.info? T).map (·.size)=some n)(he:ev x= .rptr h t 0 k)(hH:H[h]?=some (.row t [z]))(hput:t.putV z k n (ev y)=some (z',p))(hp:p)(hkn:k+n≤t.size)
 (hk:K (.ret .any) (H.set h (.row t [z']))):OpV P o ev H K:=
 q7W (n:=n) (a:=k) (xs':=[z']) hop hs hH (by simp) rfl (fun C v hv=>by
  rw [he] at hv;obtain ⟨b,hb,rfl⟩:=q3A hv;exact ⟨b,hb,by rw [Be,Ac]⟩) (by simpa using hkn) (fun C v hw hv=>by
  obtain ⟨b,_,us0,hr0,_⟩:=q1Q hw hH (i:=0) (x:=z) rfl;obtain ⟨_,g2,g3,_⟩:=q4B t hput hp hv hr0;refine ⟨g3,g2,fun us hu=> ?_⟩;rw [q2Y] at hu⊢
  exact (q4B t hput hp hv hu).1) hk
theorem q8z{T:TypeId}{x y:Operand}{h i k:Nat}{t t' e:Ty}{z z':t'.den}{d:e.den}{p q:Prop}(hop:o.op= .store T x y)(hs:(P.info? T).map (·.size)=some 1)(he:ev x= .rptr h t i k)(h1:t.size=1)(hH:H[h]?=some (.row t' [z]))(hd:(ev y).datum e=some (d,p))(hp:p)(hm:t'.modS z k i e d=some (z',q))(hq:q)
 (hk:K (.ret .any) (H.set h (.row t' [z']))):OpV P o ev H K:=by
 refine q0R (by rw [hop];intro c hc;cases hc) fun C ee hw hv=> ?_
 have hx:=hv x (by rw [hop];simp [Op.operands])
 rw [he] at hx;obtain ⟨b,hbb,hpx⟩:=q3A hx;obtain ⟨y1,y2⟩:=q4Q hd hp (hv y (by rw [hop];simp [Op.operands]))
 obtain ⟨b',hb',us0,hr0,_⟩:=q1Q hw hH (i:=0) (x:=z) rfl;obtain ⟨_,g2,g3⟩:=q6r t' hm hq y1 hr0;rw [h1,AM] at hpx
 obtain ⟨C',hrun,k1,k2,k3⟩:=q4W (P:=P) (a:=i+k) (xs':=[z']) hw hH hbb (by simp) rfl (by simp only [Bo,B3];omega) y2 (fun us hu=>by
  rw [q2Y] at hu⊢;rw [Bm]
  exact (q6r t' hm hq y1 hu).1)
 refine ⟨_,undef,_,C',hk,.inr ⟨?_,rfl⟩,k1,k2,by rw [SV.den];trivial⟩
 have hsz':(ee y).cells.size=1:=by rw [←Av];exact g3
 simp [execOp,hop,hpx,Instr.storeAt,Instr.sureAddr,Result.andThen,storeVar,q0j hs,hsz',hrun]
theorem q5o{t:TypeId}{x i:Operand}{ty:Ty}{h kk off m:Nat}{k:IntKind}{n:Int}{e':TypeId}(hop:o.op= .indexAddr t x i)(ht:P.underlying t=some (.slice e'))(hs:(P.info? e').map (·.size)=some ty.size)
 (hx:ev x= .csl h ty kk off m)(hi:ev i= .raw (.int k n))(h0:0≤n)(hb:n.toNat<m)(hk:K (.ret (.rptr h ty (off+n.toNat) kk)) H):OpV P o ev H K:=by
 refine q0i (by rw [hop];intro c hc;cases hc) (fun C e _ hv=> ?_) hk
 have h1:=hv x (by rw [hop];simp [Op.operands])
 have h2:=hv i (by rw [hop];simp [Op.operands])
 rw [hi,SV.den] at h2;rw [hx,SV.den] at h1;obtain ⟨hn,A,c,hv',_,h1⟩:=h1;rcases h1 with rfl| ⟨b,hb',rfl⟩
 · omega
 refine ⟨.pointer (some ⟨b,(off+n.toNat)*ty.size+kk,none⟩),?_,by rw [SV.den];exact ⟨hn,b,hb',rfl⟩⟩
 have hlt:n< (m:Int):=by omega
 have e1:(off+n.toNat)*ty.size+kk=off*ty.size+kk+n.toNat*ty.size:=by rw [Nat.add_mul];omega
 rw [e1];simp [execOp,hop,hv',h2,Instr.indexAt,asIntOf,run_underlying' ht,h0,hlt,q0j hs,q0J,Result.andThen]
theorem q1O{I:Nat→Prop}{w:World}{t:Ty}{x:t.den}{k m:Nat}{r:Sigma Ty.den}{vs:List Value}(h:get1 t x k m=some r)(hr:t.rel I w x vs):∃us,r.1.rel I w r.2 us∧us.length=m∧∀j u,us[j]?=some u→vs[k+j]?=some u:=by
 unfold get1 at h;split at h
 · rename_i hc;obtain ⟨rfl,rfl⟩:=hc;cases h;exact ⟨vs,hr,t.rel_size _ _ hr,fun j u hu=>by rw [Ac];exact hu⟩
 cases h
theorem z1A{I:Nat→Prop}{w:World}:∀ (t:Ty) {x:t.den} {k m:Nat} {r:Sigma Ty.den} {vs:List Value},t.get x k m=some r→t.rel I w x vs→∃us,r.1.rel I w r.2 us∧us.length=m∧∀j u,us[j]?=some u→vs[k+j]?=some u
 |.prod a c,x,k,m,r,vs,h,hr=>by
  simp only [Ty.get] at h;split at h
  · rename_i hc;obtain ⟨rfl,rfl⟩:=hc;cases h;exact ⟨vs,hr,(Ty.prod a c).rel_size _ _ hr,fun j u hu=>by rw [Ac];exact hu⟩
  obtain ⟨v1,v2,rfl,r1,r2⟩:=hr;have hl1:=a.rel_size _ _ r1;split at h
  · obtain ⟨us,g1,g2,g3⟩:=z1A a h r1;exact ⟨us,g1,g2,fun j u hu=>by have:=g3 j u hu;rw [Ag (Aa.1 this).1];exact this⟩
  obtain ⟨us,g1,g2,g3⟩:=z1A c h r2;refine ⟨us,g1,g2,fun j u hu=> ?_⟩;rw [Ao (by omega),←g3 j u hu]
  congr 1;omega
 |.arr n e,_,_,_,_,_,h,hr=>q1O h hr
 |.u8,_,_,_,_,_,h,hr=>q1O h hr
 |.int ik,_,_,_,_,_,h,hr=>q1O h hr
 |.bool,_,_,_,_,_,h,hr=>q1O h hr
 |.str,_,_,_,_,_,h,hr=>q1O h hr
 |.slice e,_,_,_,_,_,h,hr=>q1O h hr
 |.unit,_,_,_,_,_,h,hr=>q1O h hr
 |.ptr e,_,_,_,_,_,h,hr=>q1O h hr
 |.clo _ e,_,_,_,_,_,h,hr=>q1O h hr
 |.clp _ e,_,_,_,_,_,h,hr=>q1O h hr
 |.mbs e,_,_,_,_,_,h,hr=>q1O h hr
theorem z4K{T ft:TypeId}{x:Operand}{f off:Nat}{ag:Option Nat}{t t2:Ty}{z:t.den}{y:t2.den}{s:SV}(hop:o.op= .field T x f)(hf:fieldOf P T f=some (off,ft))(ha:aggOf P ft=some ag)(hx:ev x= .dat t z)(hg:t.get z off (ag.getD 1)=some ⟨t2,y⟩)(hs:SV.ofT ag t2 y=some s)
 (hk:K (.ret s) H):OpV P o ev H K:=by
 refine q0i (by rw [hop];intro c hc;cases hc) (s:=s) (fun C e _ hv=> ?_) hk
 have h0:=hv x (by rw [hop];simp [Op.operands])
 rw [hx,SV.den] at h0;obtain ⟨vs,h0,hr⟩:=h0;obtain ⟨fs,fy,hu,hy,rfl,rfl⟩:=q5C hf;obtain ⟨us,g1,g2,g3⟩:=z1A t hg hr;have hd:=t2.cells_den _ _ g1;have fin:∀v,(part fy.type vs.toArray fy.offset).run P C.w= .ok v C.w→(execOp e o).run P C.w= .ok (.value v) C.w:=fun v h1=>by
  simp [execOp,hop,h0,Instr.field,run_underlying' hu,hy,asAgg,h1,Result.andThen]
 cases ag with
 |none=>
  simp only [Option.getD_none] at g2;obtain ⟨u,rfl⟩:=Bv.1 g2;have hu0:=g3 0 u rfl;rw [AK] at hu0;unfold SV.ofT at hs;simp only at hs;split at hs
  · rename_i s' hcs;cases hs;rw [hcs] at hd;obtain ⟨v,us',e1,hd',_⟩:=q0c.1 hd;simp only [List.cons.injEq] at e1;obtain ⟨rfl,_⟩:=e1;obtain ⟨v',h1,h2⟩:=q6t (C:=C) (off:=fy.offset) (s:=.raw u) ha (q1e vs) (by simp only [pick,rawL,AN,hu0];rfl) C.w
    rw [SV.den] at h2;subst h2;exact ⟨_,fin _ h1,hd'⟩
  cases hs
 |some m=>
  simp only [Option.getD_some] at g2;have hvl:fy.offset+m≤vs.length:=by
   rcases Nat.eq_zero_or_pos m with h|h
   · subst h;have hz:∀ (t:Ty) {x:t.den} {k:Nat} {r:Sigma Ty.den},t.get x k 0=some r→k≤t.size:=by
      intro t;induction t with
      |prod a c iha ihc=>
       intro x k r h;simp only [Ty.get] at h;split at h
       · rename_i hc;omega
       split at h
       · simp only [Ty.size];omega
       have:=ihc h;simp only [Ty.size];omega
      |_=>intro x k r h;simp only [Ty.get,get1] at h;split at h<;>first| (cases h;done) | (rename_i hc;omega)
     have:=hz t hg;rw [t.rel_size _ _ hr];omega
   have:=g3 (m-1) (us[m-1]'(by omega)) (Ab _)
   have:=(Aa.1 this).1;omega
  have e1:(vs.drop fy.offset).take m=us:=by
   apply Bc;intro j;rcases AC j m with hj|hj
   · rw [AH,if_pos hj,AF];have:=g3 j (us[j]'(by omega)) (Ab _)
     rw [this,Ab]
   rw [AJ (by simp;omega),AJ (by omega)]
  obtain ⟨v',h1,h2⟩:=q6t (C:=C) (s:=.agg (rawL us)) ha (q1e vs) (by
   simp only [pick,rawL,A5]
   rw [if_pos hvl,←List.map_drop,←List.map_take,e1]) C.w
  rw [SV.den] at h2;obtain ⟨ws,rfl,h2⟩:=h2;have:=q1t h2;subst this;refine ⟨_,fin _ h1,?_⟩;unfold SV.ofT at hs;simp only at hs;split at hs
  · cases hs;rw [SV.den];exact ⟨_,rfl,hd⟩
  cases hs;rw [SV.den];exact ⟨_,rfl,g1⟩
end Go.Sx
namespace Go.Sx
open Go
inductive IOp where
 |mov (x:Operand)
 |pick (c x y:Operand)
 |nil (x:Operand)
 |new (T:TypeId) (zs:List Value)
 |box (T:TypeId) (x:Operand)
 |ld (ag:Option Nat) (x:Operand)
 |st (n:Nat) (x y:Operand)
 |bin (op:BinOp) (k:Nat) (x y:Operand)     -- k: 1 pointers, 2 functions, 3 bools may be compared
 |un (op:UnOp) (x:Operand)
 |toInt (k:IntKind) (x:Operand)
 |toStr (b:Bool) (x:Operand)                 -- b: of bytes, not of a string
 |fa (off:Nat) (x:Operand)
 |fld (off:Nat) (ag:Option Nat) (x:Operand)
 |ia (sz:Nat) (x i:Operand)
 |ixs (x i:Operand)
 |len (k:Bool) (x:Operand)                   -- k: a string
 |ext (i:Nat) (x:Operand)
 |mkf (f:Nat) (fi ca:List Operand)
 |mki (T:TypeId) (x:Operand)
 |bld (zs:List Value) (pl:PlaceK) (ps:List (Nat×Operand))
 |bsl (t:Ty) (n sz:Nat) (zs:List Value) (ps:List (Nat×Operand))
 |app (t:Ty) (by_:Nat) (x y:Operand)
 |sl (k:Option Nat) (x:Operand) (lo hi:Option Operand)   -- k: none: a string; some n: a slice of elements of n cells
 |call (f:Operand) (args:List Operand)
 |pan (x:Operand)
 |mkm (kk:Option IntKind)
 |mup (kk:Option IntKind) (m k x:Operand)
 |mlk (kk:Option IntKind) (z:Value) (ok:Bool) (m k:Operand)
 |mln (x:Operand)
 |mks (t:Ty) (by_:Nat) (x y:Operand)
 |toB (x:Operand)
 |eqs (neg:Bool) (ks:List Nat) (x y:Operand)
 |sl3 (k:Nat) (f:Bool) (x:Operand) (lo:Option Operand) (hi mx:Operand)
 |iaa (len sz:Nat) (x i:Operand)
 |ta (T:TypeId) (z:Value) (x:Operand)
 |mxm (b:Bool) (x y:Operand)
 |arr (t:Ty) (m:Nat)                         -- an array of data of one cell
 |sla (m sz:Nat) (x:Operand) (lo hi:Option Operand)   -- a part of an array
 |ldS (ag:Option Nat) (x:Operand)   -- a load that floats over stores to other objects
 |sgl (t:Ty)                                   -- a variable of a struct's type that holds arrays
 |ixd (n:Nat) (x i:Operand)                  -- an element of an array's value
 |s2a (m:Nat) (x:Operand)                    -- an array out of a slice
 |bdd (t:Ty) (pl:PlaceK) (ps:List (Nat×Operand))   -- a literal of a type that holds arrays
 |cpy (sz:Nat) (x y:Operand)
 |sla3 (m sz:Nat) (x:Operand) (lo:Option Operand) (hi mx:Operand)
 |bsf (T:TypeId) (n:Nat) (zs:List Value) (ps:List (Nat×Operand))    -- a literal slice of functions
 |ixr (n m:Nat) (x i:Operand)               -- an element of an array of arrays
 |apz (t:Ty) (by_:Nat) (x y:Operand)      -- append(x, make([]T, y)...)
 |mke (T:TypeId) (nm:String)                -- a method expression

def tyOf(P:Program):Nat→TypeId→Option Ty
 |0,_=>none
 |n+1,T=>match P.underlying T with
  |some .bool=>some .bool
  |some (.int .u8)=>some .u8
  |some (.int k)=>some (.int k)
  |some .string=>some .str
  |some (.slice e)=>(tyOf P n e).map .slice
  |some (.struct fs)=>fs.toList.foldr (fun f acc=>match tyOf P n f.type,acc with
   |some a,some (some b)=>some (some (.prod a b))
   |some a,some none=>some (some a)
   |_,_=>none) (some none) |>.bind id
  |some (.array m e)=>(tyOf P n e).bind fun a=>match a with
   |.arr k c=>some (.arr (m*k) c)
   |a=>if a.size=1 then some (.arr m a) else none
  |some (.pointer e)=>(tyOf P n e).bind fun a=>if a.plain=true then none else some (.ptr a)
  |_=>none

def eqK(P:Program)(t:TypeId):Nat:=
 if kPtr P t then 1 else if kFunc P t then 2 else if kBool P t then 3 else if kSlice P t then 5 else 0

def mapKey(P:Program)(T:TypeId):Option (Option IntKind):=match P.underlying T with
 |some (.map kt _)=>keyKind P kt
 |_=>none
def mapZero(P:Program)(T:TypeId):Option Value:=match P.underlying T with
 |some (.map _ et)=>zeroOf P et
 |_=>none
theorem z0Y{P:Program}{T:TypeId}{kk:Option IntKind}(h:mapKey P T=some kk):∃kt et,P.underlying T=some (.map kt et)∧keyKind P kt=some kk∧mapZero P T=zeroOf P et:=by
 unfold mapKey at h;split at h
 · exact ⟨_,_,by assumption,h,by simp [mapZero, *]⟩
 cases h

def sameOpd:Operand→Operand→Bool
 |.tmp i,.tmp j=>i==j
 |.const (.int k a),.const (.int k' b)=>k==k'&& a==b
 |_,_=>false
theorem z3X{x y:Operand}(h:sameOpd x y=true):x=y:=by
 unfold sameOpd at h;split at h
 · simpa using h
 · simp only [Aj,beq_iff_eq] at h;rw [h.1,h.2]
 cases h
def arrOf(P:Program)(T:TypeId):Option (Ty×Nat):=match P.underlying T with
 |some (.array _ _)=>match tyOf P 8 T,(P.info? T).bind fun i=>i.zero.map (·.cells.toList) with
  |some (.arr _ c),some zs=>if c.size=1∧zs.all (fun v=>c.isZero [v])=true∧(c= .u8∨5≤zs.length) then some (c,zs.length) else none
  |_,_=>none
 |_=>none
theorem z9w{P:Program}{T:TypeId}{t:Ty}{m:Nat}(h:arrOf P T=some (t,m)):∃zs,((P.info? T).bind fun i=>i.zero.map (·.cells.toList))=some zs∧t.size=1∧zs.all (fun v=>t.isZero [v])=true∧m=zs.length:=by
 unfold arrOf at h;split at h
 · split at h
   · split at h
     · rename_i hc;cases h;exact ⟨_,by assumption,hc.1,hc.2.1,rfl⟩
     cases h
   cases h
 cases h
def stOf(P:Program)(T:TypeId):Option Ty:=match P.underlying T with
 |some (.struct _)=>match tyOf P 8 T,(P.info? T).bind fun i=>i.zero.map (·.cells.toList) with
  |some t,some zs=>if t.plain=false∧t.isZero zs=true then some t else none
  |_,_=>none
 |_=>none
theorem j2g{P:Program}{T:TypeId}{t:Ty}(h:stOf P T=some t):∃zs,((P.info? T).bind fun i=>i.zero.map (·.cells.toList))=some zs∧t.isZero zs=true:=by
 unfold stOf at h;split at h
 · split at h
   · split at h
     · rename_i hc;cases h;exact ⟨_,by assumption,hc.2⟩
     cases h
   cases h
 cases h
def ltOf(P:Program)(T:TypeId):Option Ty:=match tyOf P 8 T,(P.info? T).bind fun i=>i.zero.map (·.cells.toList) with
 |some t,some zs=>if t.plain=false∧t.isZero zs=true∧5≤zs.length then some t else none
 |_,_=>none
theorem j0L{P:Program}{T:TypeId}{t:Ty}(h:ltOf P T=some t):∃zs,((P.info? T).bind fun i=>i.zero.map (·.cells.toList))=some zs∧t.isZero zs=true:=by
 unfold ltOf at h;split at h
 · split at h
   · rename_i hc;cases h;exact ⟨_,by assumption,hc.2.1⟩
   cases h
 cases h
def compOp(P:Program):Op→Option IOp
 |.move x=>some (.mov x)
 |.assign x=>some (.mov x)
 |.pick c x y=>some (.pick c x y)
 |.nilCheck x=>some (.nil x)
 |.alloc T=>match arrOf P T with
  |some (t,m)=>some (.arr t m)
  |none=>match stOf P T with
   |some t=>some (.sgl t)
   |none=>((P.info? T).bind fun i=>i.zero.map (·.cells.toList)).map (.new T ·)
 |.box T x=>some (.box T x)
 |.load t x=>(aggOf P t).map (.ld · x)
 |.store t x y=>((P.info? t).map (·.size)).map (.st · x y)
 |.binOp op t x y _=>match structK P t with
  |some ks=>match op with
   |.eql=>some (.eqs false ks x y)
   |.neq=>some (.eqs true ks x y)
   |_=>none
  |none=>some (.bin op (eqK P t) x y)
 |.unOp op _ x=>some (.un op x)
 |.convert s d x=>match P.underlying s,P.underlying d with
  |some _,some (.int k)=>some (.toInt k x)
  |some (.slice e),some .string=>match P.underlying e with
   |some (.int .u8)=>some (.toStr true x)
   |_=>none
  |some .string,some .string=>some (.toStr false x)
  |some .string,some (.slice e)=>match P.underlying e with
   |some (.int .u8)=>some (.toB x)
   |_=>none
  |_,_=>none
 |.fieldAddr t x f=>match fieldOf P t f with
  |some (off,ft)=>match (P.info? ft).map (·.size) with
   |some (_+1)=>some (.fa off x)
   |_=>none
  |none=>none
 |.field t x f=>match fieldOf P t f with
  |some (off,ft)=>(aggOf P ft).map (.fld off · x)
  |none=>none
 |.indexAddr t x i=>match P.underlying t with
  |some (.slice e)=>((P.info? e).map (·.size)).map (.ia · x i)
  |some (.array len e)=>((P.info? e).map (·.size)).map (.iaa len · x i)
  |_=>none
 |.index t x i=>match P.underlying t with
  |some .string=>some (.ixs x i)
  |some (.array n e)=>match aggOf P e,(P.info? e).map (·.size) with
   |some none,some 1=>some (.ixd n x i)
   |some (some m),some m'=>if m=m' then some (.ixr n m x i) else none
   |_,_=>none
  |_=>none
 |.extract x i=>some (.ext i x)
 |.makeFunc (.func f) fi ca=>some (.mkf f fi.toList ca.toList)
 |.makeFunc (.methodOf T nm) fi ca=>if fi.size=0∧ca.size=0 then some (.mke T nm) else none
 |.makeInterface T x=>if notIface P T then some (.mki T x) else none
 |.sliceToArrayPointer T x=>match P.underlying T with
  |some (.array m _)=>some (.s2a m x)
  |_=>none
 |.build t ps=>match ltOf P t with
  |some ty=>(placesOf P t).map fun pl=>.bdd ty pl ps.toList
  |none=>match (P.info? t).bind (fun i=>i.zero.map (·.cells.toList)),placesOf P t with
   |some zs,some pl=>some (.bld zs pl ps.toList)
   |_,_=>none
 |.buildSlice t n ps=>match P.underlying t with
  |some (.slice e)=>match tyOf P 8 e,(P.info? e).map (·.size),zerosOf P e n with
   |some ty,some sz,some zs=>some (.bsl ty n sz zs ps.toList)
   |none,some 1,some zs=>some (.bsf e n zs ps.toList)
   |_,_,_=>none
  |_=>none
 |.slice t x lo hi none=>match P.underlying t with
  |some .string=>some (.sl none x lo hi)
  |some (.slice e)=>((P.info? e).map (·.size)).map fun n=>.sl (some n) x lo hi
  |some (.array m e)=>((P.info? e).map (·.size)).map fun n=>.sla m n x lo hi
  |_=>none
 |.slice t x lo (some hi) (some mx)=>match P.underlying t with
  |some (.slice e)=>((P.info? e).map (·.size)).map fun n=>.sl3 n (lo.isNone&& sameOpd hi mx) x lo hi mx
  |some (.array m e)=>((P.info? e).map (·.size)).map fun n=>.sla3 m n x lo hi mx
  |_=>none
 |.makeSlice t x y=>match P.underlying t with
  |some (.slice e)=>match P.info? e,tyOf P 8 e with
   |some i,some ty=>match i.zero with
    |some z=>if i.size=ty.size∧z.cells.size=ty.size∧0<ty.size∧ty.isZero z.cells.toList=true then some (.mks ty i.bytes x y) else none
    |none=>none
   |_,_=>none
  |_=>none
 |.call c=>match c.callee with
  |.value f=>some (.call f c.args.toList)
  |.builtin .len=>match c.args.toList,c.argTypes.toList with
   | [x],[t]=>match P.underlying t with
    |some .string=>some (.len true x)
    |some (.slice _)=>some (.len false x)
    |some (.map _ _)=>some (.mln x)
    |_=>none
   |_,_=>none
  |.builtin .append=>match c.args.toList,c.argTypes.toList with
   | [x,y],[tS,tX]=>match P.underlying tS,srcType P tX with
    |some (.slice e),some _=>match P.info? e,tyOf P 8 e with
     |some i,some ty=>match i.zero with
      |some z=>if i.size=ty.size∧z.cells.size=ty.size then some (.app ty i.bytes x y) else none
      |none=>none
     |_,_=>none
    |some (.slice e),none=>match P.underlying tX,P.info? e,tyOf P 8 e with
     |some (.int _),some i,some ty=>match i.zero with
      |some z=>if i.size=ty.size∧z.cells.size=ty.size∧0<ty.size∧ty.isZero z.cells.toList=true then some (.apz ty i.bytes x y) else none
      |none=>none
     |_,_,_=>none
    |_,_=>none
   |_,_=>none
  |.builtin .copy=>match c.args.toList,c.argTypes.toList with
   | [x,y],[tS,_]=>match P.underlying tS with
    |some (.slice e)=>((P.info? e).map (·.size)).map fun n=>.cpy n x y
    |_=>none
   |_,_=>none
  |.builtin .max=>match c.args.toList with
   | [x,y]=>some (.mxm true x y)
   |_=>none
  |.builtin .min=>match c.args.toList with
   | [x,y]=>some (.mxm false x y)
   |_=>none
  |_=>none
 |.typeAssert x _ T true=>if notIface P T then (zeroOf P T).map (.ta T · x) else none
 |.panic x=>some (.pan x)
 |.makeMap T none=>(mapKey P T).map .mkm
 |.mapUpdate T m k x=>(mapKey P T).map (.mup · m k x)
 |.insert T m k x=>(mapKey P T).map (.mup · m k x)
 |.lookup T m k ok=>match mapKey P T,mapZero P T with
  |some kk,some z=>some (.mlk kk z ok m k)
  |_,_=>none
 |_=>none

inductive Res where
 |val (p:Prop) (s:SV)
 |amb (E:Prop) (s:Bool→SV)                            -- one of two; if true, E
 |new (p:Prop) (s:SV) (Hk:List SObj) (so:SObj)      -- the memory is Hk ++ [so]
 |set (s:SV) (h:Nat) (so:SObj)
 |setp (p:Prop) (s:SV) (h:Nat) (so:SObj)
 |call (f:FuncId) (args:List SV)
 |pan (s:SV)
 |zld (ag:Option Nat) (b off:Nat)                       -- what lies at an address
 |zst (n:Nat) (b off:Nat) (y:SV)
 |yld (l:Nat) (args:List SV)                            -- a round of a loop over a function
 |none

def ldRow(t':Ty)(xs:List t'.den)(t:Ty)(i k:Nat)(ag:Option Nat):Res:=
 if t'=t then
  (if t'.plain=true then (match pick (t'.cells (xs.getD i t'.dflt)) k ag with
   |some s=>.val (i<xs.length) s
   |.none=>(match ag with
    |some m=>if t'.size=1∧k=0∧0<m then .val (i+m≤xs.length) (.dat (.arr m t') ((xs.drop i).take m)) else .none
    |.none=>.none))
   else (match t'.get (xs.getD i t'.dflt) k (ag.getD 1) with
    |some ⟨t2,y⟩=>(match SV.ofT ag t2 y with
     |some s=>.val (i<xs.length) s
     |.none=>.none)
    |.none=>.none))
 else (match xs with
  | [x]=>(match t'.arrAt x k with
   |some ⟨e,N,ys⟩=>if t.size=1 then (match ag with
    |.none=>(match e.cells (ys.getD i e.dflt) with
     | [s]=>.val (i<N) s
     |_=>.none)
    |some m=>if 0<m then .val (i+m≤N) (.dat (.arr m e) ((ys.drop i).take m)) else .none) else .none
   |.none=>.none)
  |_=>.none)
def evLd(H:List SObj)(ag:Option Nat):SV→Res
 |.ptr h off=>match H[h]? with
  |some (.cells _ cs)=>match pick cs off ag with
   |some s=>.val True s
   |.none=>.none
  |_=>.none
 |.iptr t x k=>if t.plain=true then (match pick (t.cells x) k ag with
  |some s=>.val True s
  |.none=>.none) else (match t.get x k (ag.getD 1) with
  |some ⟨t2,y⟩=>(match SV.ofT ag t2 y with
   |some s=>.val True s
   |.none=>.none)
  |.none=>.none)
 |.rptr h t i k=>match H[h]? with
  |some (.row t' xs)=>ldRow t' xs t i k ag
  |some (.cells _ cs)=>(match pick cs (i*t.size+k) ag with
   |some s=>.val True s
   |.none=>.none)
  |_=>.none
 |.raw (.pointer (some ⟨b,off,none⟩))=>.zld ag b off
 |_=>.none

def stRow(h:Nat)(t':Ty)(xs:List t'.den)(t:Ty)(i k n:Nat)(y:SV):Res:=
 if t'=t then
  (if t'.plain=true then (match y with
   |.dat (.arr m e) ys=>if he:e=t'∧k=0∧t'.size=1∧m=n∧0<n then .setp (i+n≤xs.length) .any h (.row t' (splice xs i (cast (by rw [he.1]) ys))) else .none
   |.agg l=>(match rdL t' n l with
    |some (ys,p)=>if k=0∧t'.size=1∧0<n then .setp (p∧i+n≤xs.length) .any h (.row t' (splice xs i ys)) else .none
    |.none=>.none)
   |_=>.none)
   else (match xs with
    | [x]=>if i=0∧k+n≤t'.size then (match t'.putV x k n y with
     |some (x',p)=>.setp p .any h (.row t' [x'])
     |.none=>.none) else .none
    |_=>.none))
 else (match xs with
  | [x]=>(match t'.arrAt x k with
   |some ⟨e,_,_⟩=>if t.size=1∧n=1 then (match y.datum e with
    |some (d,p)=>(match t'.modS x k i e d with
     |some (x',q)=>.setp (p∧q) .any h (.row t' [x'])
     |.none=>.none)
    |.none=>.none) else .none
   |.none=>.none)
  |_=>.none)
def evSt(H:List SObj)(n:Nat)(y:SV):SV→Res
 |.ptr h off=>match H[h]?,y.flat with
  |some (.cells T cs),some ds=>if ds.length=n∧off+n≤cs.length∧ones ds=true then .set .any h (.cells T (splice cs off ds)) else .none
  |_,_=>.none
 |.rptr h t i k=>match H[h]? with
  |some (.row t' xs)=>(match y with
   |.dat t2 z=>stRow h t' xs t i k n (.dat t2 z)
   |y=>if t'=t∧t'.plain=true then (match y.flat with
    |some ds=>if ds.length=n∧k+n≤t'.size∧ones ds=true then (match t'.rd (splice (t'.cells (xs.getD i t'.dflt)) k ds) with
     |some (d,p)=>.setp (i<xs.length∧p) .any h (.row t' (xs.set i d))
     |.none=>.none) else stRow h t' xs t i k n y
    |.none=>.none) else stRow h t' xs t i k n y)
  |_=>.none
 |.raw (.pointer (some ⟨b,off,none⟩))=>.zst n b off y
 |_=>.none

def eqOk(k:Nat):SV→Bool
 |.raw (.pointer .none)=>k==1
 |.raw .nilFunc=>k==2
 |.raw (.bool _)=>k==3
 |_=>false
def evNil(op:BinOp)(x y:SV):Res:=match y with
 |.raw (.slice none 0 0)=>match x with
  |.raw (.slice none 0 0)=>(match op with
   |.eql=>.val True (.raw (.bool true))
   |.neq=>.val True (.raw (.bool false))
   |_=>.none)
  |_=>match x.emp with
   |some E=>(match op with
    |.eql=>.amb E fun b=>.raw (.bool b)
    |.neq=>.amb E fun b=>.raw (.bool !b)
    |_=>.none)
   |.none=>.none
 |_=>.none
def evEq(op:BinOp)(k:Nat)(x y:SV):Res:=if k=5 then evNil op x y else
 match eqV x y with
 |some r=>if eqOk k y then (match op with
  |.eql=>.val True (.raw (.bool r))
  |.neq=>.val True (.raw (.bool !r))
  |_=>.none) else .none
 |.none=>.none
def evBin(op:BinOp)(k:Nat):SV→SV→Res
 |.raw a,.raw b=>match binV op a b with
  |some (v,p)=>.val p (.raw v)
  |.none=>evEq op k (.raw a) (.raw b)
 |x,y=>evEq op k x y
def lenOk(k:Bool):SV→Bool
 |.raw (.string _)=>k
 |_=> !k
structure Dst where
 h:Nat
 t:Ty
 k:Nat
 i:Nat
 n:Nat
def dstAt:SV→Option Dst
 |.bld h t n=>some ⟨h,t,0,0,n⟩
 |.osl h t off n=>some ⟨h,t,0,off,n⟩
 |.csl h t k i n=>some ⟨h,t,k,i,n⟩
 |_=>none
def slOk:Option Nat→SV→Bool
 |.none,.raw (.string _)=>true
 |some n,.isl t _=>n==t.size
 |some n,.bld _ t _=>n==t.size
 |some n,.osl _ t _ _=>n==t.size
 |some n,.csl _ t _ _ _=>n==t.size
 |some _,.raw (.slice .none 0 0)=>true
 |_,_=>false

def IOp.ev(H:List SObj)(ev:Operand→SV):IOp→Res
 |.mov x=>.val True (ev x)
 |.pick c x y=>match ev c with
  |.raw (.bool b)=>.val True (if b then ev x else ev y)
  |_=>.none
 |.nil x=>if (ev x).nonNil then .val True (ev x) else .none
 |.new T zs=>.new True (.ptr H.length 0) H (.cells T (rawL zs))
 |.arr t m=>.new True (.rptr H.length t 0 0) H (.row t (List.replicate m t.dflt))
 |.sgl t=>.new True (.rptr H.length t 0 0) H (.row t [t.dflt])
 |.ixd n x i=>match ev x,ev i with
  |.dat (.arr m e) xs,.raw (.int _ j)=>if m=n∧e.size=1 then (match e.cells (xs.getD j.toNat e.dflt) with
   | [s]=>.val (0≤j∧j.toNat<n) s
   |_=>.none) else .none
  |.agg l,.raw (.int _ j)=>match Go.Sx.pick l j.toNat Option.none with
   |.some s=>.val (0≤j∧j.toNat<n) s
   |.none=>.none
  |_,_=>.none
 |.s2a m x=>match ev x with
  |.isl t xs=>if t.size=1∧0<m then .val (m≤xs.length) (.iptr (.arr m t) (xs.take m) 0) else .none
  |.fsl t xs=>if t.size=1∧0<m then .val (m≤xs.length) (.iptr (.arr m t) (xs.take m) 0) else .none
  |_=>.none
 |.bdd t pl ps=>match putAll t pl.fn t.dflt True (ps.map fun p=>(p.1,ev p.2)) with
  |some (x,p)=>.val p (.dat t x)
  |.none=>.none
 |.cpy sz x y=>match dstAt (ev x) with
  |some ⟨h,t,k,i,n⟩=>if sz=t.size then (match viewOf t H (ev y),H[h]? with
   |some (ys,p),some ob=>(match putPart t k i (ys.take (min ys.length n)) ob with
    |some (ob',q)=>.setp (p∧q∧0<n) (.raw (.int .i64 (min ys.length n:Nat))) h ob'
    |.none=>.none)
   |_,_=>.none) else .none
  |.none=>.none
 |.sla3 m sz x lo hi mx=>match bndV ev lo,bndV ev (some hi),bndV ev (some mx) with
  |some a,some (some b),some (some c)=>match slB m sz (loOf a).toNat (b.toNat- (loOf a).toNat) (ev x) with
   |some s=>.val (0≤loOf a∧loOf a≤b∧b≤c∧c≤(m:Int)) s
   |.none=>.none
  |_,_,_=>.none
 |.bsf T n zs ps=>match fillS (PlaceK.arr 1).fn (rawL zs) (ps.map fun p=>(p.1,ev p.2)) with
  |some cs=>.new True (.csl H.length .u8 0 0 n) H (.cells T cs)
  |.none=>.none
 |.ixr n m x i=>match ev x,ev i with
  |.dat (.arr k e) xs,.raw (.int _ j)=>if k=n*m∧e.size=1∧0<m then .val (0≤j∧j.toNat<n) (.dat (.arr m e) ((xs.drop (j.toNat*m)).take m)) else .none
  |.agg l,.raw (.int _ j)=>match Go.Sx.pick l (j.toNat*m) (Option.some m) with
   |.some s=>.val (0≤j∧j.toNat<n) s
   |.none=>.none
  |_,_=>.none
 |.sla m sz x lo hi=>match bndV ev lo,bndV ev hi with
  |some a,some b=>match slB m sz (loOf a).toNat ((hiOf m b).toNat- (loOf a).toNat) (ev x) with
   |some s=>.val (0≤loOf a∧loOf a≤hiOf m b∧hiOf m b≤(m:Int)) s
   |.none=>.none
  |_,_=>.none
 |.box T x=>match ev x with
  |.dat (.arr _ t) ys=>if t.size=1 then .new True (.rptr H.length t 0 0) H (.row t ys) else .none
  |.dat (.prod a b) y=>.new True (.rptr H.length (.prod a b) 0 0) H (.row (.prod a b) [y])
  |s=>match s.flat with
   |some cs=>.new True (.ptr H.length 0) H (.cells T cs)
   |.none=>.none
 |.ld ag x=>evLd H ag (ev x)
 |.ldS ag x=>evLd H ag (ev x)
 |.st n x y=>evSt H n (ev y) (ev x)
 |.bin op k x y=>evBin op k (ev x) (ev y)
 |.eqs neg ks x y=>match ev x,ev y with
  |.agg l,.agg l'=>match eqRs ks l l' with
   |some r=>.val True (.raw (.bool (if neg then !r else r)))
   |.none=>.none
  |_,_=>.none
 |.un op x=>match ev x with
  |.raw a=>match unV op a with
   |some v=>.val True (.raw v)
   |.none=>.none
  |_=>.none
 |.toInt k x=>match ev x with
  |.raw (.int _ n)=>.val True (.raw (.int k (k.wrap n)))
  |_=>.none
 |.toStr true x=>match ev x with
  |.isl .u8 xs=>.val True (.raw (.string (strOf xs)))
  |.raw (.slice Option.none 0 0)=>.val True (.raw (.string (strOf [])))
  |.bld h .u8 n=>match H[h]? with
   |some (.row .u8 xs)=>.val (n≤xs.length∧xs.length≤1125899906842624) (.raw (.string (strOf (xs.take n))))
   |_=>.none
  |.osl h .u8 off n=>match H[h]? with
   |some (.row .u8 xs)=>.val (off+n≤xs.length∧xs.length≤1125899906842624) (.raw (.string (strOf ((xs.drop off).take n))))
   |_=>.none
  |_=>.none
 |.toStr false x=>match ev x with
  |.raw (.string s)=>.val True (.raw (.string s))
  |_=>.none
 |.fa off x=>match (ev x).add off with
  |some s=>.val True s
  |.none=>.none
 |.fld off ag x=>match ev x with
  |.agg l=>match Sx.pick l off ag with
   |some s=>.val True s
   |.none=>.none
  |.dat t z=>match t.get z off (ag.getD 1) with
   |some ⟨t2,y⟩=>(match SV.ofT ag t2 y with
    |some s=>.val True s
    |.none=>.none)
   |.none=>.none
  |_=>.none
 |.ia sz x i=>match ev i with
  |.raw (.int _ n)=>match (ev x).wk with
   |.isl t xs=>if sz=t.size then .val (0≤n∧n.toNat<xs.length) (.iptr t (xs.getD n.toNat t.dflt) 0) else .none
   |.bld h t m=>if sz=t.size then .val (0≤n∧n.toNat<m) (.rptr h t (0+n.toNat) 0) else .none
   |.osl h t off m=>if sz=t.size then .val (0≤n∧n.toNat<m) (.rptr h t (off+n.toNat) 0) else .none
   |.csl h t k off m=>if sz=t.size then .val (0≤n∧n.toNat<m) (.rptr h t (off+n.toNat) k) else .none
   |.raw (.slice (some ⟨b,off,none⟩) m _)=>.val (0≤n∧n.toNat<m) (.raw (.pointer (some ⟨b,off+n.toNat*sz,none⟩)))
   |_=>.none
  |_=>.none
 |.iaa m sz x i=>match ev i with
  |.raw (.int _ n)=>match addB m sz n.toNat (ev x) with
   |some s=>.val (0≤n∧n.toNat<m) s
   |.none=>.none
  |_=>.none
 |.ta T z x=>match ev x with
  |.iface T' y=>if T'=T then .val True (.tup [y,.raw (.bool true)]) else .val True (.tup [.ofV z,.raw (.bool false)])
  |.raw .nilIface=>.val True (.tup [.ofV z,.raw (.bool false)])
  |_=>.none
 |.ixs x i=>match ev x,ev i with
  |.raw (.string s),.raw (.int _ n)=>.val (0≤n∧n.toNat<s.size) (.raw (.int .u8 (s.data.toList.getD n.toNat 0).toNat))
  |_,_=>.none
 |.len k x=>match (ev x).wk.len with
  |some n=>if lenOk k (ev x).wk then .val True (.raw (.int .i64 n)) else .none
  |.none=>.none
 |.ext i x=>match ev x with
  |.tup l=>match l[i]? with
   |some s=>.val True s
   |.none=>.none
  |_=>.none
 |.mkf f fi ca=>.val True (.fn f (fi.map ev) (ca.map ev))
 |.mke T nm=>.val True (.raw (.func (.methodOf T nm) #[] #[]))
 |.apz t by_ x y=>match ev x,ev y with
  |.fsl t' xs,.raw (.int .i64 m)=>if t'=t then .val (0≤m∧xs.length+m.toNat≤1125899906842624∧(xs.length+m.toNat)*by_≤140737488355328) (.isl t' (xs++List.replicate m.toNat t'.dflt)) else .none
  |_,_=>.none
 |.mki T x=>.val True (.iface T (ev x))
 |.bld zs pl ps=>match fillS pl.fn (rawL zs) (ps.map fun p=>(p.1,ev p.2)) with
  |some cs=>.val True (.agg cs)
  |.none=>.none
 |.bsl t n sz zs ps=>match fillS (PlaceK.arr sz).fn (rawL zs) (ps.map fun p=>(p.1,ev p.2)) with
  |some cs=>match rdL t n cs with
   |some (xs,p)=>.new p (.bld H.length t n) H (.row t xs)
   |.none=>.none
  |.none=>.none
 |.app t by_ x y=>match ev x with
  |.fsl t' xs=>match srcS t' H (ev y) with
   |some (ys,p)=>if t'=t then .val (p∧xs.length+ys.length≤1125899906842624∧(xs.length+ys.length)*by_≤140737488355328) (.isl t' (xs++ys)) else .none
   |_=>.none
  |_=>match dstOf t H (ev x),srcS t H (ev y) with
   |some (Hk,xs,n),some (ys,p)=>.new (n=xs.length∧p∧xs.length+ys.length≤1125899906842624∧(xs.length+ys.length)*by_≤140737488355328) (.bld H.length t (xs.length+ys.length)) Hk (.row t (xs++ys))
   |_,_=>.none
 |.sl k x lo hi=>match bndV ev lo,bndV ev hi with
  |some a,some b=>match sliceTo (loOf a).toNat (hiOf (lenOfS (ev x)) b).toNat (ev x) with
   |some s=>if slOk k (ev x) then .val (0≤loOf a∧loOf a≤hiOf (lenOfS (ev x)) b∧hiOf (lenOfS (ev x)) b≤(lenOfS (ev x):Int)) s else .none
   |.none=>.none
  |_,_=>.none
 |.call f args=>match ev f with
  |.fn g fi ca=>.call g (fi++args.map (fun x=>(ev x).wk)++ca)
  |.raw v=>match isYld v with
   |some l=>.yld l (args.map (fun x=>(ev x).wk))
   |_=>match isFn v with
    |some (g,fi,ca)=>.call g (rawL fi++args.map (fun x=>(ev x).wk)++rawL ca)
    |_=>.none
  |_=>.none
 |.mxm b x y=>match ev x,ev y with
  |.raw (.int k m),.raw (.int _ n)=>.val True (.raw (.int k (mxV b m n)))
  |_,_=>.none
 |.pan x=>match ev x with
  |.iface T s=>.pan (.iface T s)
  |_=>.none
 |.mkm kk=>.new True (.mp H.length) H (.map kk [] [])
 |.mup kk m k x=>match ev m,ev k with
  |.mp h,.raw kv=>match H[h]? with
   |some (.map kk' ks vs)=>if kk'=kk∧keyIs kk kv=true then .set .any h (.map kk (mput ks vs kv (ev x).norm).1 (mput ks vs kv (ev x).norm).2) else .none
   |_=>.none
  |_,_=>.none
 |.mlk kk z ok m k=>match mapOf H (ev m),ev k with
  |some (kk',ks,vs),.raw kv=>if kk'=kk∧keyIs kk kv=true then .val True (mres ok (mget ks vs z kv)) else .none
  |_,_=>.none
 |.mln x=>match mapOf H (ev x) with
  |some (_,ks,_)=>.val True (.raw (.int .i64 ks.length))
  |.none=>.none
 |.mks t by_ x y=>match ev x,ev y with
  |.raw (.int _ n),.raw (.int _ c)=>.new (0≤n∧n≤c∧c.toNat*by_≤140737488355328∧c≤1125899906842624) (.bld H.length t n.toNat) H (.row t (List.replicate n.toNat t.dflt))
  |_,_=>.none
 |.toB x=>match ev x with
  |.raw (.string s)=>.new True (.bld H.length .u8 s.size) H (.row .u8 (bytesOf s))
  |_=>.none
 |.sl3 k f x lo hi mx=>match bndV ev lo,bndV ev (some hi),bndV ev (some mx) with
  |some a,some (some b),some (some m)=>match sliceTo (loOf a).toNat b.toNat (ev x) with
   |some s=>if slOk (some k) (ev x) then .val (0≤loOf a∧loOf a≤b∧b≤m∧m≤(lenOfS (ev x):Int)) (fullS (decide (b=m)) s) else .none
   |.none=>.none
  |_,_,_=>.none
end Go.Sx
