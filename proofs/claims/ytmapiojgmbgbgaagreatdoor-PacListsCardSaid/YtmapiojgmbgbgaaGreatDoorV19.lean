/- Contracts: the encoding of entries and offers. -/
import Derived.Test.YtmapiojgmbgbgaaGreatDoorV18
set_option linter.all false
namespace Go.Proofs.YtmapiojgmbgbgaaGreatDoor
open Go Go.Sx Go.Proofs
set_option maxRecDepth 100000
set_option maxHeartbeats 4000000
def tagS(l:List (List UInt8)):List UInt8:=elemS 48 (tagN l l.length)
def strsN(l:List ByteArray)(i:Nat):List (List UInt8):=(l.take i).map fun s=>elemS 27 [s.data.toList]
theorem z4r{l:List ByteArray}{i:Nat}(h:i<l.length):strsN l (i+1)=strsN l i++ [elemS 27 [(l.getD i Ty.str.dflt).data.toList]]:=by unfold strsN;rw [q0Y (d:=Ty.str.dflt) h];simp
theorem z7q{l:List ByteArray}{i:Nat}(h:i≤l.length):(strsN l i).length=i:=by simp [strsN];omega
def prinS(p:Prin):List UInt8:=elemS 48 [wrapS 160 0 (elemS 48 (strsN p.1 p.1.length)),wrapS 160 1 (elemS 27 [p.2.data.toList])]
theorem z6u(p:Prin)(hp:PrinT.ok p):PC Tryz.prog 151 [.agg (PrinT.cells p)] (.tup [.isl .u8 (if vPrin p then prinS p else []),rI (if vPrin p then 0 else 2)]):=by
 obtain ⟨l,r⟩:=p;have hps:prinS (l,r)=elemS 48 [wrapS 160 0 (elemS 48 (strsN l l.length)),wrapS 160 1 (elemS 27 [r.data.toList])]:=rfl;have hok:∀ {i},i<l.length→(l.getD i Ty.str.dflt).size≤140737488355328:=fun h=>hp.1.2 _ (q0O h);have hr:r.size≤140737488355328:=hp.2;have hv:=q4Y (l,r) hp;have hv4:vPrin (l,r)=true→l.length≤4:=fun h=>by simp [vPrin] at h;omega
 clear hp;generalize vPrin (l,r)=vb at*;generalize prinS (l,r)=ps at*;change List ByteArray at l;refine q0u rfl rfl ?_;refine rQ fi151 ?_;refine cQ hv ?_;refine ⟨fun h=> ?_,fun h=> ?_⟩
 · rw [h];exact ⟨rfl,rfl⟩
 have hl4:l.length≤4:=hv4 h;subst h;refine q3o 4 (.slice .u8) (strsN l) (fun i=>[(13,rI i)]) l.length (fun _=>True) rfl (by simp) (by simp [strsN]) rfl (fun i=>rfl) ?_ fun i hi _=> ?_
 · with_reducible refine sxE ?_;trivial
 have hwr:=wsx i (by omega)
 have hln:=z7q hi;by_cases hlt:i<l.length
 · refine gQ ?_;refine ⟨fun _=>⟨⟨by omega,hlt⟩,q0a (z0w _ (hok hlt)) ?_⟩,fun h=>absurd hlt h⟩
   refine gQ ?_;have hst:=z4r hlt;refine ⟨⟨by omega,by omega⟩,q2a [_,_] [] hlt trivial (by rw [hst];rfl) ?_⟩
   with_reducible refine sx3 hwr hst ?_;trivial
 obtain rfl:i=l.length:=by omega
 refine q1i 1 rfl rfl (by omega) ?_ ?_ ?_
 · with_reducible refine sxE ?_;trivial
 · with_reducible refine sxE ?_
   exact Ae _
 with_reducible refine sxE ?_
 rw [Ah (Ae _)];refine gQ ?_;refine ⟨fun h=>absurd h hlt,fun _=>q0k (q1Y _ (by omega)) ?_⟩
 refine gQ ?_;refine cR (q1K _ _) ?_;refine cR (z0w r hr) ?_;refine cR (q1K _ _) ?_;refine q0L 2 (by decide) ?_
 with_reducible refine sxE ?_
 refine cR (q1Y _ (by simp)) ?_
 exact hps.symm
def mapN{t:Ty}(w:t.den→List UInt8)(l:List t.den)(i:Nat):List (List UInt8):=(l.take i).map w
theorem z0W{t:Ty}{w:t.den→List UInt8}{l:List t.den}{i:Nat}(h:i<l.length):mapN w l (i+1)=mapN w l i++ [w (l.getD i t.dflt)]:=by unfold mapN;rw [q0Y (d:=t.dflt) h];simp
theorem z2P{t:Ty}{w:t.den→List UInt8}{l:List t.den}{i:Nat}(h:i≤l.length):(mapN w l i).length=i:=by simp [mapN];omega
def listS{t:Ty}(w:t.den→List UInt8)(l:List t.den):List UInt8:=if l.length=0 then [] else elemS 48 (mapN w l l.length)
def prinE(p:Prin):List UInt8:=if vPrin p then prinS p else []
theorem q1m(n:Nat):(byteOf (n:Int)).toNat=n%256:=by
 have h:=q5B (n:Int);have:IntKind.u8.wrap (n:Int)=((n%256:Nat):Int):=by simp [IntKind.wrap,IntKind.bits,IntKind.signed]
 rw [this] at h;unfold byteOf;rw [this]
 exact_mod_cast h
theorem beN1(a:UInt8):beN [a]=a.toNat:=by simp [beN]
theorem beN2(a b:UInt8):beN [a,b]=a.toNat*256+b.toNat:=by simp [beN]
theorem beN3(a b c:UInt8):beN [a,b,c]=(a.toNat*256+b.toNat)*256+c.toNat:=by simp [beN]
theorem z3a(n k:Nat):(n:Int).fdiv (k:Int)=((n / k:Nat):Int):=by rw [A6 _ (by omega)];rfl
theorem q8U(t:UInt8)(c r:List UInt8)(h:c.length≤16777215):meas (tlv t c++r)=(1+ (lenS c.length).length,1+ (lenS c.length).length+c.length,0):=by
 have e1:((c.length:Nat):Int).fdiv 256=((c.length / 256:Nat):Int):=z3a _ 256;have e2:((c.length:Nat):Int).fdiv 65536=((c.length / 65536:Nat):Int):=z3a _ 65536;unfold tlv;rcases AC c.length 128 with h1|h1
 · have hL:lenS c.length= [byteOf c.length]:=by unfold lenS;rw [if_pos h1]
   have hb:(byteOf (c.length:Int)).toNat=c.length:=by rw [q1m];omega
   rw [hL];unfold meas measE;simp only [Ay,As,AB,Af,BR,BH,hb,Bq];rw [if_neg (by omega),if_pos h1,if_neg (by omega)]
 rcases AC c.length 256 with h2|h2
 · have hL:lenS c.length= [129,byteOf c.length]:=by unfold lenS;rw [if_neg (by omega),if_pos h2]
   have hb:(byteOf (c.length:Int)).toNat=c.length:=by rw [q1m];omega
   have h129:(129:UInt8).toNat=129:=rfl;rw [hL];unfold meas measE;simp only [Ay,As,AB,Af,BR,BH,h129,Bq,Ce,Au,Nat.reduceSub,Cf,BL,beN1,hb,minLen];rw [if_neg (by omega),if_neg (by omega),if_neg (by omega),if_neg (by omega),if_neg (by omega),if_neg (by omega)]
 rcases AC c.length 65536 with h3|h3
 · have hL:lenS c.length= [130,byteOf ((c.length:Int).fdiv 256),byteOf c.length]:=by unfold lenS;rw [if_neg (by omega),if_neg (by omega),if_pos h3]
   have hb:(byteOf (c.length:Int)).toNat=c.length%256:=q1m _;have hb2:(byteOf ((c.length:Int).fdiv 256)).toNat=c.length / 256:=by rw [e1,q1m];omega
   have h130:(130:UInt8).toNat=130:=rfl;have hv:c.length / 256*256+c.length%256=c.length:=by omega
   rw [hL];unfold meas measE;simp only [Ay,As,AB,Af,BR,BH,h130,Bq,Ce,Au,Nat.reduceSub,Cf,BL,beN2,hb,hb2,hv,minLen];rw [if_neg (by omega),if_neg (by omega),if_neg (by omega),if_neg (by omega),if_neg (by omega),if_neg (by omega)]
 have hL:lenS c.length= [131,byteOf ((c.length:Int).fdiv 65536),byteOf ((c.length:Int).fdiv 256),byteOf c.length]:=by unfold lenS;rw [if_neg (by omega),if_neg (by omega),if_neg (by omega)]
 have hb:(byteOf (c.length:Int)).toNat=c.length%256:=q1m _;have hb2:(byteOf ((c.length:Int).fdiv 256)).toNat=c.length / 256%256:=by rw [e1,q1m]
 have hb3:(byteOf ((c.length:Int).fdiv 65536)).toNat=c.length / 65536:=by rw [e2,q1m];omega
 have h131:(131:UInt8).toNat=131:=rfl;have hv:(c.length / 65536*256+c.length / 256%256)*256+c.length%256=c.length:=by omega
 rw [hL];unfold meas measE;simp only [Ay,As,AB,Af,BR,BH,h131,Bq,Ce,Au,Nat.reduceSub,Cf,BL,beN3,hb,hb2,hb3,hv,minLen];rw [if_neg (by omega),if_neg (by omega),if_neg (by omega),if_neg (by omega),if_neg (by omega),if_neg (by omega)]

def takeE(tag:UInt8)(r:List UInt8):Nat:=if r.length=0 then 4 else if r.getD 0 0≠tag then 6 else (meas r).2.2
def takeC(r:List UInt8):List UInt8:=(r.take (meas r).2.1).drop (meas r).1
def takeN(r:List UInt8):Nat:=(meas r).2.1
theorem q2v(t:UInt8)(c:List UInt8):(tlv t c).length=1+ (lenS c.length).length+c.length:=by simp [tlv];omega
theorem z0N(t:UInt8)(c r:List UInt8)(h:c.length≤16777215):takeE t (tlv t c++r)=0:=by
 unfold takeE;rw [q8U t c r h,if_neg (by simp [tlv]),if_neg (by simp [tlv])]
theorem z0t(t:UInt8)(c r:List UInt8)(h:c.length≤16777215):takeC (tlv t c++r)=c:=by
 unfold takeC;rw [q8U t c r h,A8 (by rw [q2v];exact Ae _),Ah (by rw [q2v];exact Ae _)]
 have:tlv t c=(t :: lenS c.length)++c:=rfl;rw [this,Bn (by simp;omega),List.drop_of_length_le (by simp;omega),As]
theorem z1i(t:UInt8)(c r:List UInt8)(h:c.length≤16777215):takeN (tlv t c++r)=(tlv t c).length:=by
 unfold takeN;rw [q8U t c r h,q2v]
theorem z1C{r:List UInt8}(h:(meas r).2.2=0):2≤(meas r).1∧(meas r).1≤(meas r).2.1∧(meas r).2.1≤r.length:=by
 have key:∀a n,(measE r a n).2.2=0→2≤a→a≤r.length→2≤(measE r a n).1∧(measE r a n).1≤(measE r a n).2.1∧(measE r a n).2.1≤r.length:=by
  intro a n h1 h2 h3;unfold measE at h1⊢;split at h1
  · cases h1
  rename_i hh;rw [if_neg hh];simp only;omega
 unfold meas at h⊢;repeat' split at h
 all_goals first| (cases h;done) |skip
 · rename_i g1 g2;rw [if_neg g1,if_pos g2];exact key _ _ h (by omega) (by omega)
 rename_i g1 g2 g3 g4 g5;rw [if_neg g1,if_neg g2,if_neg g3,if_neg g4,if_neg g5];exact key _ _ h (by omega) (by omega)
theorem z2u{t:UInt8}{r:List UInt8}(h:takeE t r=0):(meas r).2.2=0:=by
 unfold takeE at h;split at h
 · cases h
 split at h
 · cases h
 exact h
theorem q6h{t:UInt8}{r:List UInt8}(h:takeE t r=0):takeN r≤r.length:=(z1C (z2u h)).2.2
theorem z5a{t:UInt8}{r:List UInt8}(h:takeE t r=0):2≤takeN r:=by have:=z1C (z2u h);unfold takeN;omega
theorem q7f(r:List UInt8):(takeC r).length≤r.length:=by unfold takeC;rw [Ak,Aw];omega

abbrev PR(α:Type):=List UInt8→Except Nat (α×Nat)
def rdP{α:Type}(tag:UInt8)(dec:List UInt8→Option α):PR α:=fun r=>
 if takeE tag r=0 then match dec (takeC r) with
  |some v=>.ok (v,takeN r)
  |none=>.error 6
 else .error (takeE tag r)
def allP{α:Type}(p:PR α)(c:List UInt8):Except Nat α:=match p c with
 |.error e=>.error e
 |.ok (v,m)=>if m<c.length then .error 6 else .ok v
def inP{α:Type}(tag:UInt8)(p:PR α):PR α:=fun r=>
 if takeE tag r=0 then match allP p (takeC r) with
  |.ok v=>.ok (v,takeN r)
  |.error e=>.error e
 else .error (takeE tag r)
def tagB(n:Nat):UInt8:=byteOf (160+n)
def nextB(n:Nat)(r:List UInt8):Bool:=decide (r.length≠0) && decide (r.getD 0 0=tagB n)
def mayP{α:Type}(n:Nat)(p:PR α):PR (Option α):=fun r=>
 if nextB n r then match inP (tagB n) p r with
  |.ok (v,k)=>.ok (some v,k)
  |.error e=>.error e
 else .ok (none,0)
def needP{α:Type}(n:Nat)(p:PR α):PR α:=fun r=>
 if nextB n r then inP (tagB n) p r else .error (if r.length=0 then 4 else 6)
def dfltP{α:Type}(d:α)(n:Nat)(p:PR α):PR α:=fun r=>match mayP n p r with
 |.ok (some v,k)=>.ok (v,k)
 |.ok (none,k)=>.ok (d,k)
 |.error e=>.error e
def bindP{α β:Type}(p:PR α)(f:α→PR β):PR β:=fun r=>match p r with
 |.error e=>.error e
 |.ok (v,k)=>match f v (r.drop k) with
  |.error e=>.error e
  |.ok (u,m)=>.ok (u,k+m)
def retP{α:Type}(v:α):PR α:=fun _=>.ok (v,0)
def listP{α:Type}(p:PR α):Nat→PR (List α)
 |0,r=>if r.length=0 then .ok ([],0) else .error 6
 |n+1,r=>if r.length=0 then .ok ([],0) else match p r with
  |.error e=>.error e
  |.ok (v,k)=>match listP p n (r.drop k) with
   |.error e=>.error e
   |.ok (l,m)=>.ok (v :: l,k+m)

theorem q7c{α:Type}{t:UInt8}{dec:List UInt8→Option α}{c:List UInt8}{v:α}(h:c.length≤16777215)(hd:dec c=some v)(r:List UInt8):rdP t dec (tlv t c++r)= .ok (v,(tlv t c).length):=by
 unfold rdP;rw [z0N t c r h,z0t t c r h,z1i t c r h,hd];rfl
theorem q4p{α:Type}{t:UInt8}{p:PR α}{c:List UInt8}{v:α}(h:c.length≤16777215)(hp:p c= .ok (v,c.length))(r:List UInt8):inP t p (tlv t c++r)= .ok (v,(tlv t c).length):=by
 unfold inP allP;rw [z0N t c r h,z0t t c r h,z1i t c r h,hp];simp
theorem q9Q(n:Nat)(c r:List UInt8):nextB n (tlv (tagB n) c++r)=true:=by simp [nextB,tlv]
theorem z7B{α:Type}{n:Nat}{p:PR α}{c:List UInt8}{v:α}(h:c.length≤16777215)(hp:p c= .ok (v,c.length))(r:List UInt8):needP n p (tlv (tagB n) c++r)= .ok (v,(tlv (tagB n) c).length):=by
 unfold needP;rw [if_pos (q9Q n c r),q4p h hp]
theorem z7h{α:Type}{d:α}{n:Nat}{p:PR α}{c:List UInt8}{v:α}(h:c.length≤16777215)(hp:p c= .ok (v,c.length))(r:List UInt8):dfltP d n p (tlv (tagB n) c++r)= .ok (v,(tlv (tagB n) c).length):=by
 unfold dfltP mayP;rw [if_pos (q9Q n c r),q4p h hp]
theorem q7N{α:Type}{d:α}{n:Nat}{p:PR α}{r:List UInt8}(h:nextB n r=false):dfltP d n p r= .ok (d,0):=by
 unfold dfltP mayP;rw [h];rfl
theorem q2m{t:UInt8}{c:List UInt8}(h:c.length≤16777215):elemS t [c]=tlv t c:=by
 unfold elemS;simp only [AD,A0,Ai];rw [if_pos h]
theorem q2Z{t:UInt8}{l:List (List UInt8)}(h:l.flatten.length≤16777215):elemS t l=tlv t l.flatten:=by unfold elemS;rw [if_pos h]
theorem z2R(n:Nat)(h:n≤30):(tagB n).toNat=160+n:=by
 unfold tagB;have:(160+ (n:Int))=((160+n:Nat):Int):=by omega
 rw [this,q1m];omega
theorem z8r{n m:Nat}(hn:n≤30)(hm:m≤30)(h:tagB n=tagB m):n=m:=by
 have:=congrArg UInt8.toNat h;rw [z2R n hn,z2R m hm] at this;omega
theorem q6i{n:Nat}{b:List UInt8}(hn:n≤30)(h:b.length≤16777215):wrapS 160 n b=if b= [] then [] else tlv (tagB n) b:=by
 unfold wrapS;by_cases hb:b= []
 · rw [if_neg (fun q=>q.2.2 hb),if_pos hb]
 rw [if_pos ⟨by omega,by omega,hb⟩,if_neg hb,q2m h];rfl
def sufS(l:List (List UInt8))(n k:Nat):List UInt8:=((List.range' n k).map fun j=>wrapS 160 (j:Nat) (l.getD j [])).flatten
theorem q1h(l:List (List UInt8))(n k:Nat):sufS l n (k+1)=wrapS 160 (n:Nat) (l.getD n [])++sufS l (n+1) k:=by simp [sufS,List.range'_succ]
theorem q8v(l:List (List UInt8)):(tagN l l.length).flatten=sufS l 0 l.length:=by
 unfold tagN sufS;rw [List.range_eq_range'];rfl
theorem z3p(l:List (List UInt8))(hl:∀j,(l.getD j []).length≤16777215):∀ (k n:Nat),n+k≤31→∀i,i<n→nextB i (sufS l n k)=false
 |0,n,_,i,_=>by simp [sufS,nextB]
 |k+1,n,hn,i,hi=>by
  rw [q1h,q6i (by omega) (hl n)]
  split
  · rw [As];exact z3p l hl k (n+1) (by omega) i (by omega)
  simp only [tlv,Ay,nextB,AB,BH,By,decide_eq_false_iff_not];exact .inr fun e=>by have:=z8r (by omega) (by omega) e;omega
theorem q1J{α:Type}{l:List (List UInt8)}{p:PR α}{v:α}{n k:Nat}(hl:∀j,(l.getD j []).length≤16777215)(hn:n≤30)(h0:l.getD n []≠ [])(hp:p (l.getD n [])= .ok (v,(l.getD n []).length)):
 needP n p (sufS l n (k+1))= .ok (v,(wrapS 160 (n:Nat) (l.getD n [])).length)∧(sufS l n (k+1)).drop (wrapS 160 (n:Nat) (l.getD n [])).length=sufS l (n+1) k:=by
 rw [q1h,CX];refine ⟨?_,rfl⟩;rw [q6i hn (hl n),if_neg h0];exact z7B (hl n) hp _
theorem z3R{α:Type}{l:List (List UInt8)}{p:PR α}{d v:α}{n k:Nat}(hl:∀j,(l.getD j []).length≤16777215)(hn:n+k≤30)(hp:if l.getD n []= [] then v=d else p (l.getD n [])= .ok (v,(l.getD n []).length)):
 dfltP d n p (sufS l n (k+1))= .ok (v,(wrapS 160 (n:Nat) (l.getD n [])).length)∧(sufS l n (k+1)).drop (wrapS 160 (n:Nat) (l.getD n [])).length=sufS l (n+1) k:=by
 rw [q1h,CX];refine ⟨?_,rfl⟩;rw [q6i (by omega) (hl n)]
 split
 · rename_i h0;rw [if_pos h0] at hp;rw [As,q7N (z3p l hl k (n+1) (by omega) n (by omega)),hp];rfl
 rename_i h0;rw [if_neg h0] at hp;exact z7h (hl n) hp _
theorem q3c{α β:Type}{p:PR α}{f:α→PR β}{r r':List UInt8}{v:α}{k:Nat}{u:β}{m:Nat}(h:p r= .ok (v,k)∧r.drop k=r')(h2:f v r'= .ok (u,m)):bindP p f r= .ok (u,k+m):=by
 unfold bindP;rw [h.1];simp only;rw [h.2,h2]
theorem q8D{α:Type}{p:PR α}{enc:α→List UInt8}:∀ (l:List α) (n:Nat),l.length≤n→(∀x∈l,enc x≠ []∧∀r,p (enc x++r)= .ok (x,(enc x).length))→listP p n (l.map enc).flatten= .ok (l,(l.map enc).flatten.length)
 | [],0,_,_=>rfl
 | [],n+1,_,_=>rfl
 |x :: l,0,h,_=>absurd h (by simp)
 |x :: l,n+1,h,hx=>by
  obtain ⟨h0,h1⟩:=hx x (by simp)
  have h2:=q8D l n (by simpa using h) (fun y hy=>hx y (by simp [hy]))
  simp only [AT,AD,listP];rw [if_neg (by simp;intro e;exact absurd e h0),h1]
  simp only [CX];rw [h2];simp
@[go_sem] abbrev rdr(b:List UInt8)(n:Nat):SObj:=.cells 203 [.isl .u8 b,rI n,.raw (.bool true)]
theorem z1e(b:List UInt8)(n:Nat)(hn:n≤b.length):PE Tryz.prog 189 [.ptr 0 0] [rdr b n] (.ret (.isl .u8 (b.drop n))) [rdr b n]:=by
 refine q0b (Ae _) ?_;refine rQ fi189 ?_;refine ⟨⟨by omega,hn,Ae _⟩,?_⟩
 rw [Az]
theorem q2G(b:List UInt8)(n:Nat)(hn:n≤b.length):PE Tryz.prog 137 [.ptr 0 0] [rdr b n] (.ret (rI ((b.length-n:Nat):Int))) [rdr b n]:=by
 refine q0b (Ae _) ?_;refine rQ fi137 ?_;refine eQ [0] (z1e b n hn) ?_;rw [Ak]
theorem j3U(b:List UInt8)(n:Nat)(hn:n≤b.length):PE Tryz.prog 161 [.ptr 0 0] [rdr b n] (.ret (rI (if n<b.length then 5 else 0))) [rdr b n]:=by
 refine q0b (Ae _) ?_;refine rQ fi161 ?_;refine eQ [0] (q2G b n hn) ?_;refine ⟨fun h=> ?_,fun h=> ?_⟩
 · rw [if_pos (by omega)]
 rw [if_neg (by omega)]
theorem z7S(b:List UInt8):PE Tryz.prog 159 [.isl .u8 b] [] (.ret (.ptr 0 0)) [rdr b 0]:=by
 refine q0b (Al _) ?_;refine rQ fi159 ?_;trivial
theorem z2l(b:List UInt8):PE Tryz.prog 209 [.isl .u8 b] [] (.ret (.tup [.ptr 0 0,rB true])) [rdr b 0]:=by
 refine q0b (Al _) ?_;refine rQ fi209 ?_;refine eQ [] (z7S b) ?_;trivial
theorem z0z(tag:UInt8)(b:List UInt8)(n:Nat)(hn:n≤b.length)(hb:b.length≤1099511627776):
 PE Tryz.prog 221 [.ptr 0 0,.raw (.int .u8 tag.toNat)] [rdr b n] (.ret (.tup [.isl .u8 (if takeE tag (b.drop n)=0 then takeC (b.drop n) else []),rI (takeE tag (b.drop n))])) [rdr b (if takeE tag (b.drop n)=0 then n+takeN (b.drop n) else n)]:=by
 have hr:=z1e b n hn;have hlr:(b.drop n).length=b.length-n:=Ak;have hm:=z6n (b.drop n) (by omega)
 have hok:= @q6h tag (b.drop n);generalize hR:b.drop n=r at*;have hE:takeE tag r=if r.length=0 then 4 else if r.getD 0 0≠tag then 6 else (meas r).2.2:=rfl;refine q0b (Ae _) ?_;refine rQ fi221 ?_;refine eQ [0] (hr) ?_;refine ⟨fun h=> ?_,fun h=> ?_⟩
 · rw [if_pos (by omega)] at hE
   rw [hE];exact ⟨⟨rfl,rfl⟩,rfl⟩
 rw [if_neg (by omega)] at hE
 refine ⟨by omega,fun h2=> ?_,fun h2=> ?_⟩
 · rw [if_pos (fun e=>h2 (by subst e;rfl))] at hE
   rw [hE];exact ⟨⟨rfl,rfl⟩,rfl⟩
 have:r.getD 0 0=tag:=by
  apply BY.1;have:((r.getD 0 Ty.u8.dflt).toNat:Int)=tag.toNat:=h2
  exact_mod_cast this
 rw [if_neg (by simpa using this)] at hE
 refine q0a hm ?_;unfold measV;refine gQ ?_;refine ⟨fun h3=> ?_,fun h3=> ?_⟩
 · have h3':¬(meas r).2.2=0:=by omega
   rw [hE,if_neg h3',if_neg h3'];exact ⟨⟨rfl,rfl⟩,rfl⟩
 have h3':(meas r).2.2=0:=by omega
 have hk:=z1C h3';rw [hE,if_pos h3',if_pos h3',wrapi (by omega),h3']
 exact ⟨⟨by omega,hk.2.1,Ae _,hk.2.2⟩,⟨rfl,rfl⟩,congrArg (Value.int .i64) (by unfold takeN;omega)⟩
theorem q6j(g:Nat)(tag:UInt8)(b:List UInt8)(n:Nat)(hn:n≤b.length)(hb:b.length≤1099511627776)(v:SV)(right:Bool)(hg:PC Tryz.prog g [.isl .u8 (takeC (b.drop n))] (.tup [v,rB right]))(hv:∃u,(v= .raw u)∨∃xs,v= .isl .u8 xs):
 PE Tryz.prog 184 [.ptr 0 0,.raw (.int .u8 tag.toNat),.fn g [] []] [rdr b n] (.ret (if takeE tag (b.drop n)=0 then (if right then .tup [v,rI 0] else .tup [.raw (.int .i64 0),rI 6]) else .tup [.raw (.int .i64 0),rI (takeE tag (b.drop n))])) [rdr b (if takeE tag (b.drop n)=0∧right=true then n+takeN (b.drop n) else n)]:=by
 have ht:=z0z tag b n hn hb;generalize takeE tag (b.drop n)=e at*;generalize takeC (b.drop n)=c at*;generalize takeN (b.drop n)=k at*;refine q0b (Ae _) ?_;refine rQ fi184 ?_;refine eQ [0] (ht) ?_;refine ⟨fun h=> ?_,fun h=> ?_⟩
 · have h':¬e=0:=by omega
   simp only [if_neg h',h',false_and,if_false];with_reducible refine sxE ?_;trivial
 obtain rfl:e=0:=by omega
 simp only [true_and,if_true];refine q0a hg ?_;obtain ⟨u,rfl| ⟨xs,rfl⟩⟩:=hv
 · cases right
   · refine uQ 600 _ ?_;simp (maxSteps:=3000000) only [Bd,if_false,go_sem,↓zA,↓reduceIte,↓reduceDIte] <;>try simp only [zB]
   refine gQ ?_;trivial
 cases right
 · refine uQ 600 _ ?_;simp (maxSteps:=3000000) only [Bd,if_false,go_sem,↓zA,↓reduceIte,↓reduceDIte] <;>try simp only [zB]
 refine gQ ?_;trivial
theorem z2O(g:Nat)(tag:UInt8)(b:List UInt8)(n:Nat)(hn:n≤b.length)(hb:b.length≤1099511627776)(v:SV)(right:Bool)(hg:PC Tryz.prog g [.isl .u8 (takeC (b.drop n))] (.tup [v,rB right]))(hv:∃u,(v= .raw u)∨∃xs,v= .isl .u8 xs):
 PE Tryz.prog 219 [.ptr 0 0,.raw (.int .u8 tag.toNat),.fn g [] []] [rdr b n] (.ret (if takeE tag (b.drop n)=0 then (if right then .tup [v,rI 0] else .tup [.raw (.string ⟨#[]⟩),rI 6]) else .tup [.raw (.string ⟨#[]⟩),rI (takeE tag (b.drop n))])) [rdr b (if takeE tag (b.drop n)=0∧right=true then n+takeN (b.drop n) else n)]:=by
 have ht:=z0z tag b n hn hb;generalize takeE tag (b.drop n)=e at*;generalize takeC (b.drop n)=c at*;generalize takeN (b.drop n)=k at*;refine q0b (Ae _) ?_;refine rQ fi219 ?_;refine eQ [0] (ht) ?_;refine ⟨fun h=> ?_,fun h=> ?_⟩
 · have h':¬e=0:=by omega
   simp only [if_neg h',h',false_and,if_false];with_reducible refine sxE ?_;trivial
 obtain rfl:e=0:=by omega
 simp only [true_and,if_true];refine q0a hg ?_;obtain ⟨u,rfl| ⟨xs,rfl⟩⟩:=hv
 · cases right
   · refine uQ 600 _ ?_;simp (maxSteps:=3000000) only [Bd,if_false,go_sem,↓zA,↓reduceIte,↓reduceDIte] <;>try simp only [zB]
   refine gQ ?_;trivial
 cases right
 · refine uQ 600 _ ?_;simp (maxSteps:=3000000) only [Bd,if_false,go_sem,↓zA,↓reduceIte,↓reduceDIte] <;>try simp only [zB]
 refine gQ ?_;trivial
theorem q7Z(g:Nat)(tag:UInt8)(b:List UInt8)(n:Nat)(hn:n≤b.length)(hb:b.length≤1099511627776)(v:SV)(right:Bool)(hg:PC Tryz.prog g [.isl .u8 (takeC (b.drop n))] (.tup [v,rB right]))(hv:∃u,(v= .raw u)∨∃xs,v= .isl .u8 xs):
 PE Tryz.prog 238 [.ptr 0 0,.raw (.int .u8 tag.toNat),.fn g [] []] [rdr b n] (.ret (if takeE tag (b.drop n)=0 then (if right then .tup [v,rI 0] else .tup [.isl .u8 [],rI 6]) else .tup [.isl .u8 [],rI (takeE tag (b.drop n))])) [rdr b (if takeE tag (b.drop n)=0∧right=true then n+takeN (b.drop n) else n)]:=by
 have ht:=z0z tag b n hn hb;generalize takeE tag (b.drop n)=e at*;generalize takeC (b.drop n)=c at*;generalize takeN (b.drop n)=k at*;refine q0b (Ae _) ?_;refine rQ fi238 ?_;refine eQ [0] (ht) ?_;refine ⟨fun h=> ?_,fun h=> ?_⟩
 · have h':¬e=0:=by omega
   simp only [if_neg h',h',false_and,if_false];with_reducible refine sxE ?_;trivial
 obtain rfl:e=0:=by omega
 simp only [true_and,if_true];refine q0a hg ?_;obtain ⟨u,rfl| ⟨xs,rfl⟩⟩:=hv
 · cases right
   · refine uQ 600 _ ?_;simp (maxSteps:=3000000) only [Bd,if_false,go_sem,↓zA,↓reduceIte,↓reduceDIte] <;>try simp only [zB]
   refine gQ ?_;trivial
 cases right
 · refine uQ 600 _ ?_;simp (maxSteps:=3000000) only [Bd,if_false,go_sem,↓zA,↓reduceIte,↓reduceDIte] <;>try simp only [zB]
 refine gQ ?_;trivial
theorem j4d(n:Nat)(k:Nat):(n:Int).fdiv k=((n / k:Nat):Int):=by
 rw [A6 _ (by omega)];rfl
def qN(n k:Nat):Nat:=n / 256^ k
theorem j1d(n k:Nat):qN n (k+1)=qN n k / 256:=by unfold qN;rw [CF,Nat.div_div_eq_div_mul]
theorem q7t(n k:Nat):restN (n:Int) k=(qN n k:Int):=by
 induction k with
 |zero=>simp [restN,qN]
 |succ k ih=>rw [restN,ih,show (256:Int)=((256:Nat):Int) from rfl,j4d,j1d]
theorem pow28(k:Nat):(2:Int) ^ (8*k)=((256^ k:Nat):Int):=by
 rw [show (256:Nat)=2^ 8 from rfl,←Nat.pow_mul];push_cast;rfl
theorem q8l(n k:Nat)(hk:k≤8):byteAt (n:Int) k=byteOf (qN n k:Int):=by
 unfold byteAt;rw [Bf (by omega),pow28,j4d];rfl
theorem q7o(v:Int)(m:Nat):numS v (m+1)=byteAt v m :: numS v m:=by
 apply AP
 · simp [numS]
 intro j h1 h2;cases j with
 |zero=>simp [numS]
 |succ j=>
  simp only [numS,AZ,AU,List.getElem_cons_succ];congr 1;omega
def inR(v lo hi:Int):Bool:=decide (lo≤v) && decide (v≤hi)
theorem z8s(v lo hi:Int):PC Tryz.prog 69 [rI v,rI lo,rI hi] (rB (inR v lo hi)):=by
 refine q0w rfl rfl ?_;refine rQ fi69 ?_<;>try with_reducible exact True.intro
 repeat' (first
  | (with_reducible refine And.intro ?_ ?_)
  | (with_reducible intro _))
 all_goals (grind [inR])
theorem z6o{xs ys:List UInt8}:strOf xs=strOf ys ↔ xs=ys:=by
 constructor
 · intro h;have:=congrArg (fun s:ByteArray=>s.data.toList) h;simpa [strOf] using this
 rintro rfl;rfl
def partAt(l:List ByteArray)(j:Nat):Bool:=vPart (l.getD j ByteArray.empty)
theorem j2m(p:Prin)(hp:PrinT.ok p):PC Tryz.prog 68 [.agg (PrinT.cells p)] (rB (vPrin p)):=by
 obtain ⟨l,r⟩:=p;have hl:l.length≤1125899906842624:=hp.1.1;have hd:vPrin (l,r)=((decide (1≤(l.length:Int)) && (decide ((l.length:Int)≤4) && realmB r)) && allN l.length (partAt l)):=rfl;refine q0w rfl rfl ?_;refine rQ fi68 ?_;refine q0Q (fun i=>[(3,.raw (.int .i64 ((i:Nat):Int)))]) (l.length) (fun j=>(partAt l) j=true) (by first|decide|simp) (fun i=>rfl) ?_ fun i hi hall=> ?_
 · (with_reducible refine sxE ?_<;>try exact True.intro)
   all_goals (try rfl)
 have hwr:=wsx i (by omega)
 refine gQ ?_;have bad:i< (l.length)→(partAt l) i=false→allN (l.length) (partAt l)=false:=fun hlt hv=>q0l hlt hv;have fin:¬i< (l.length)→allN (l.length) (partAt l)=true:=fun h=>q0q fun j hj=>hall j (by omega)
 try dsimp only at bad fin hall
 repeat' (first
  | (refine q0a (z7Q _ (hp.1.2 _ (q0O ‹_›))) ?_;refine uQ 600 _ ?_;simp (maxSteps:=3000000) only [go_sem,↓zA,↓reduceIte,↓reduceDIte] <;>try simp only [zB])
  | (refine q0k (z7Q _ (hp.1.2 _ (q0O ‹_›))) ?_;refine uQ 600 _ ?_;simp (maxSteps:=3000000) only [go_sem,↓zA,↓reduceIte,↓reduceDIte] <;>try simp only [zB])
  | (refine q0H (z7Q _ (hp.1.2 _ (q0O ‹_›))) ?_;refine uQ 600 _ ?_;simp (maxSteps:=3000000) only [go_sem,↓zA,↓reduceIte,↓reduceDIte] <;>try simp only [zB])
  | (refine q0a (q9L _ hp.2) ?_;refine uQ 600 _ ?_;simp (maxSteps:=3000000) only [go_sem,↓zA,↓reduceIte,↓reduceDIte] <;>try simp only [zB])
  | (refine q0k (q9L _ hp.2) ?_;refine uQ 600 _ ?_;simp (maxSteps:=3000000) only [go_sem,↓zA,↓reduceIte,↓reduceDIte] <;>try simp only [zB])
  | (refine q0H (q9L _ hp.2) ?_;refine uQ 600 _ ?_;simp (maxSteps:=3000000) only [go_sem,↓zA,↓reduceIte,↓reduceDIte] <;>try simp only [zB])
  | (with_reducible refine And.intro ?_ ?_)
  | (with_reducible intro _))
 all_goals (first| (with_reducible (refine (id ?_:SoundI _ _ _))) | ((try simp only [Ty.dflt] at*);first|omega| (refine ⟨by omega,q0I hall (by grind [partAt,vPart,szB]),⟨_,by first|rfl|exact List.append_assoc _ _ _| (simp only [List.append_assoc,Ay,As];rfl)⟩,?_⟩;simp only [hwr,go_sem,↓zA,↓reduceIte,↓reduceDIte] <;> (first|rfl| (grind [partAt,vPart,szB]))) | (refine ⟨_,rfl⟩) | (refine ⟨_,List.append_assoc _ _ _⟩) | (grind [partAt,vPart,szB])))
def eqAt{α:Type}[DecidableEq α](l l':List α)(d:α)(j:Nat):Bool:=decide (l.getD j d=l'.getD j d)
theorem sameN{α:Type}[DecidableEq α](l l':List α)(d:α):(l=l') ↔ (l.length=l'.length∧allN l.length (eqAt l l' d)=true):=by
 constructor
 · rintro rfl;exact ⟨rfl,q0q fun j _=>by simp [eqAt]⟩
 rintro ⟨h1,h2⟩;apply AP h1;intro j g1 g2;have:=q2e.1 h2 j g1;simp only [eqAt,decide_eq_true_eq,Ad,Ab g1,Ab g2,Option.getD_some] at this;exact this
theorem j2r(a b:Prin)(ha:PrinT.ok a):PC Tryz.prog 62 [.agg (PrinT.cells a),.agg (PrinT.cells b)] (rB (decide (a=b))):=by
 obtain ⟨l,r⟩:=a;obtain ⟨l',r'⟩:=b;have hl:l.length≤1125899906842624:=ha.1.1;refine q0w rfl rfl ?_;refine rQ fi62 ?_<;>try with_reducible exact True.intro
 repeat' (first
  | (with_reducible refine And.intro ?_ ?_)
  | (with_reducible intro _))
 all_goals (skip)
 · grind
 · refine q0Q (fun i=>[(5,.raw (.int .i64 ((i:Nat):Int)))]) (l.length) (fun j=>(eqAt l l' ByteArray.empty) j=true) (by first|decide|simp) (fun i=>rfl) ?_ fun i hi hall=> ?_
   · (with_reducible refine sxE ?_<;>try exact True.intro)
     all_goals (try rfl)
   have hwr:=wsx i (by omega)
   refine gQ ?_;have bad:i< (l.length)→(eqAt l l' ByteArray.empty) i=false→allN (l.length) (eqAt l l' ByteArray.empty)=false:=fun hlt hv=>q0l hlt hv;have fin:¬i< (l.length)→allN (l.length) (eqAt l l' ByteArray.empty)=true:=fun h=>q0q fun j hj=>hall j (by omega)
   try dsimp only at bad fin hall
   have key:=sameN l l' ByteArray.empty
   repeat' (first
    | (with_reducible refine And.intro ?_ ?_)
    | (with_reducible intro _))
   all_goals (first| (with_reducible (refine (id ?_:SoundI _ _ _))) | ((try simp only [Ty.dflt] at*);first|omega| (refine ⟨by omega,q0I hall (by grind [eqAt]),⟨_,by first|rfl|exact List.append_assoc _ _ _| (simp only [List.append_assoc,Ay,As];rfl)⟩,?_⟩;simp only [hwr,go_sem,↓zA,↓reduceIte,↓reduceDIte] <;> (first|rfl| (grind [eqAt]))) | (refine ⟨_,rfl⟩) | (refine ⟨_,List.append_assoc _ _ _⟩) | (grind [eqAt])))
 grind

end Go.Proofs.YtmapiojgmbgbgaaGreatDoor
