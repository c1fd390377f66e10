/- The plain law of reading: what is read is the encoding of its value. -/
import Derived.Test.YthbcodbcndiapaaGreatDoorP12
set_option linter.all false
namespace Go.Proofs.YthbcodbcndiapaaGreatDoor
open Go Go.Sx Go.Proofs
set_option maxRecDepth 100000
set_option maxHeartbeats 4000000
def q3R(c:UInt8):byteOf (c.toNat:Int)=c:=by rw [<-AZ,q0P];have:=c.toNat_lt;omega
variable {n:Nat}
def q5u{c:UInt8}(h:n%256=c.toNat):byteOf (n:Int)=c:=by rw [<-AZ,q0P,h]
variable {b:List UInt8}
theorem z8B{a:Nat}(h:(measE b a n).2.2=0):measE b a n=(a,a+n,0)/\a+n<=max a b.length:=by
 unfold measE at h⊢;split at h
 . cases h
 rename_i c;rw [if_neg c];exact ⟨rfl,by omega⟩
variable {t:UInt8}{r:List UInt8}
theorem z6n(h:takeE t r=0):r.take (takeN r)=tlv t (takeC r)/\(takeC r).length<=16777215:=by
 have f:=z0e h;have B:r.getD 0 0=t:=by
  unfold takeE at h;split at h
  . cases h
  split at h
  . cases h
  rename_i E;simpa using E
 match r,f,B with
 | [],f,_=>exact absurd f (by decide)
 | [a],f,_=>exact absurd f (by simp [meas])
 |a :: x :: r,f,B=>
  obtain rfl:a=t:=B;clear h;unfold takeC takeN;have hx:=x.toNat_lt;unfold meas at f⊢;simp only [AK,AD,As,Bh,Ap] at f⊢;rw [if_neg (by omega)] at f⊢;by_cases A:x.toNat<128
  . rw [if_pos A] at f⊢;obtain ⟨e,w⟩:=z8B f;rw [e];simp only [As] at w;have s:(List.take x.toNat r).length=x.toNat:=by rw [Am];omega
    have v:List.take (2+x.toNat) (a :: x :: r)=a :: x :: List.take x.toNat r:=by rw [A4];rfl
    rw [v];simp only [Bh,Ap];refine ⟨?_,by omega⟩;unfold tlv lenS;rw [s,if_pos A,q3R];rfl
  rw [if_neg A] at f⊢;by_cases w:x.toNat-128<1\/3<x.toNat-128
  . rw [if_pos w] at f;cases f
  rw [if_neg w] at f⊢;by_cases j:r.length+1+1<2+ (x.toNat-128)
  . rw [if_pos j] at f;cases f
  rw [if_neg j] at f⊢;by_cases o:beN (List.take (x.toNat-128) r) <minLen (x.toNat-128)
  . rw [if_pos o] at f;cases f
  rw [if_neg o] at f⊢;obtain ⟨e,u⟩:=z8B f;rw [e];clear e f;simp only [As] at u;have q:x.toNat-128=1\/x.toNat-128=2\/x.toNat-128=3:=by omega
  rcases q with q|q|q
  . have m:x=129:=by rw [<-AZ];show x.toNat=129;omega
    rw [q] at j o u⊢;match r,j with
    | [],j=>exact absurd j (by simp)
    |b :: r,_=>
     simp only [Bx,A7,beN1,minLen,As] at o u⊢;have C:=b.toNat_lt;have s:(List.take b.toNat r).length=b.toNat:=by rw [Am];omega
     have v:List.take (2+1+b.toNat) (a :: x :: b :: r)=a :: x :: b :: List.take b.toNat r:=by rw [A4];rfl
     rw [v];simp only [Bh,Ap];refine ⟨?_,by omega⟩;unfold tlv lenS;rw [s,if_neg (by omega),if_pos (by omega),q3R,m];rfl
  . have m:x=130:=by rw [<-AZ];show x.toNat=130;omega
    rw [q] at j o u⊢;match r,j with
    | [],j=>exact absurd j (by simp)
    | [b],j=>exact absurd j (by simp)
    |b :: c :: r,_=>
     simp only [Bx,A7,beN2,minLen,As] at o u⊢;have C:=b.toNat_lt;have F:=c.toNat_lt;have s:(List.take (b.toNat*256+c.toNat) r).length=b.toNat*256+c.toNat:=by rw [Am];omega
     have v:List.take (2+2+ (b.toNat*256+c.toNat)) (a :: x :: b :: c :: r)=a :: x :: b :: c :: List.take (b.toNat*256+c.toNat) r:=by rw [A4];rfl
     rw [v];simp only [Bh,Ap];refine ⟨?_,by omega⟩;have z:(((b.toNat*256+c.toNat:Nat):Int)).fdiv 256=((b.toNat:Nat):Int):=by rw [show (256:Int)=((256:Nat):Int) from rfl,q5y];congr 1;omega
     unfold tlv lenS;rw [s,if_neg (by omega),if_neg (by omega),if_pos (by omega),z,q3R,q5u (c:=c) (by omega),m];rfl
  have m:x=131:=by rw [<-AZ];show x.toNat=131;omega
  rw [q] at j o u⊢;match r,j with
  | [],j=>exact absurd j (by simp)
  | [b],j=>exact absurd j (by simp)
  | [b,c],j=>exact absurd j (by simp)
  |b :: c :: d :: r,_=>
   simp only [Bx,A7,beN3,minLen,As] at o u⊢;have C:=b.toNat_lt;have F:=c.toNat_lt;have hd:=d.toNat_lt;have s:(List.take ((b.toNat*256+c.toNat)*256+d.toNat) r).length=(b.toNat*256+c.toNat)*256+d.toNat:=by rw [Am];omega
   have v:List.take (2+3+ ((b.toNat*256+c.toNat)*256+d.toNat)) (a :: x :: b :: c :: d :: r)=a :: x :: b :: c :: d :: List.take ((b.toNat*256+c.toNat)*256+d.toNat) r:=by rw [A4];rfl
   rw [v];simp only [Bh,Ap];refine ⟨?_,by omega⟩;have z:((((b.toNat*256+c.toNat)*256+d.toNat:Nat):Int)).fdiv 65536=((b.toNat:Nat):Int):=by rw [show (65536:Int)=((65536:Nat):Int) from rfl,q5y];congr 1;omega
   have D:((((b.toNat*256+c.toNat)*256+d.toNat:Nat):Int)).fdiv 256=((b.toNat*256+c.toNat:Nat):Int):=by rw [show (256:Int)=((256:Nat):Int) from rfl,q5y];congr 1;omega
   unfold tlv lenS;rw [s,if_neg (by omega),if_neg (by omega),if_neg (by omega),z,D,q3R,q5u (c:=c) (by omega),q5u (c:=d) (by omega),m];rfl
variable {α:Type}
def Can(p:PR α)(e:α->List UInt8):Prop:=∀r v k,p r= .ok (v,k)->r.take k=e v/\k<=r.length/\1<=k
variable {e:α->List UInt8}
theorem z2q{dec:List UInt8->Option α}(h:∀c v,dec c=some v->c.length<=16777215->tlv t c=e v):Can (rdP t dec) e:=λr v k d=>by
 unfold rdP at d;split at d
 . rename_i f;split at d
   . rename_i j;cases d;obtain ⟨o,m⟩:=z6n f;exact ⟨o.trans (h _ _ j m),q2C f,by have:=q7K f;omega⟩
   cases d
 cases d
variable {p:PR α}
theorem q8D(h:∀r v k,p r= .ok (v,k)->r.take k=e v/\k<=r.length):Can (inP t p) (λv=>elemS t [e v]):=λr v k c=>by
 unfold inP allP at c;split at c
 . rename_i f;obtain ⟨w,s⟩:=z6n f;cases d:p (takeC r) with
   |error x=>rw [d] at c;cases c
   |ok y=>
    obtain ⟨u,m⟩:=y;rw [d] at c;simp only at c;obtain ⟨o,g2⟩:=h _ _ _ d;by_cases j:m< (takeC r).length
    . rw [if_pos j] at c;cases c
    rw [if_neg j] at c;cases c;have q:takeC r=e v:=by rw [<-o,Aa (by omega)]
    refine ⟨?_,q2C f,by have:=q7K f;omega⟩;show _=elemS t [e v];rw [w,<-q,q0A s]
 cases c
variable {k:Nat}
theorem q1F(hn:n<=30)(h:Can p e){v:α}(c:needP n p r= .ok (v,k)):r.take k=wrapS 160 (n:Nat) (e v)/\k<=r.length:=by
 unfold needP at c;split at c
 . rename_i hb;obtain ⟨z,w,_⟩:=q8D (t:=tagB n) (λr v k o=>⟨(h r v k o).1,(h r v k o).2.1⟩) r v k c;refine ⟨?_,w⟩;have f:e v≠ []:=by
    unfold inP allP at c;split at c
    . cases d:p (takeC r) with
      |error x=>rw [d] at c;cases c
      |ok y=>
       obtain ⟨u,m⟩:=y;rw [d] at c;by_cases j:m< (takeC r).length
       . simp only [if_pos j] at c;cases c
       simp only [if_neg j] at c;cases c;obtain ⟨q,g2,g3⟩:=h _ _ _ d;intro s;rw [s] at q;have:=congrArg List.length q;rw [Am,BH] at this;omega
    cases c
   unfold wrapS;rw [if_pos ⟨by omega,by omega,f⟩];exact z
 cases c
theorem q1h{β:Type}{f:α->PR β}{u:β}(h:bindP p f r= .ok (u,n)):∃v k m,p r= .ok (v,k)/\f v (r.drop k)= .ok (u,m)/\n=k+m:=by
 unfold bindP at h;split at h
 . cases h
 rename_i c;split at h
 . cases h
 rename_i d;cases h;exact ⟨_,_,_,c,d,rfl⟩
def q1k{m:Nat}:r.take (k+m)=r.take k++(r.drop k).take m:=List.take_add
theorem z1E{α:Type}{p:PR α}{e:α->List UInt8}(h:Can p e):∀ (n:Nat) (r:List UInt8) (l:List α) (k:Nat),listP p n r= .ok (l,k)->r.take k=(l.map e).flatten/\k=r.length/\l.length<=n/\∀x∈l,e x≠ []
 |0,r,l,k,hr=>by
  unfold listP at hr;split at hr
  . rename_i f;cases hr;exact ⟨by simp,f.symm,Aj _,λx c=>by cases c⟩
  cases hr
 |n+1,r,l,k,hr=>by
  unfold listP at hr;split at hr
  . rename_i f;cases hr;exact ⟨by simp,f.symm,Aj _,λx c=>by cases c⟩
  split at hr
  . cases hr
  rename_i m;split at hr
  . cases hr
  rename_i s;cases hr;obtain ⟨d,g2,g3⟩:=h _ _ _ m;obtain ⟨q,j,f3,o⟩:=z1E h n _ _ _ s;rw [Ah] at j;refine ⟨?_,by omega,by simp;omega,λx c=> ?_⟩
  . rw [q1k,d,q];simp
  rcases Bb.1 c with rfl|c
  . intro u;rw [u] at d;have:=congrArg List.length d;rw [Am,BH] at this;omega
  exact o x c
def j1z(a b n:Nat)(hn:n<=8):numS ((a*256^ n+b:Nat):Int) n=numS (b:Nat) n:=by
 unfold numS;refine Bg λj c=> ?_;have hj':=BN.1 c;obtain ⟨k,d⟩:∃k,k=n-1-j:=⟨_,rfl⟩;rw [<-d,q1t _ _ (by omega),q1t _ _ (by omega),<-AZ,q0P,q0P];unfold qN;have e:256^ n=256^ k* (256*256^ (n-1-k)):=by rw [<-Nat.pow_succ',<-Cs];congr 1;omega
 rw [e,show a* (256^ k* (256*256^ (n-1-k)))+b=b+256^ k* (256* (a*256^ (n-1-k))) by rw [A4,Nat.mul_left_comm,Nat.mul_left_comm a 256],Nat.add_mul_div_left _ _ (Nat.pow_pos (by decide)),Nat.add_mul_mod_self_left]
def j0z:∀ (c:List UInt8),c.length<=8->numS (beN c:Nat) c.length=c
 | [],_=>rfl
 |a :: l,h=>by
  have h':l.length<=7:=by simp at h;omega
  have d:=j0z l (by omega);rw [As,q2i,z4R];have f:=q4S l;have ha:=a.toNat_lt;congr 1
  . rw [q1t _ _ (by omega)];refine q5u ?_;unfold qN;rw [Ck,Nat.mul_add_div (Nat.pow_pos (by decide)),Nat.div_eq_of_lt f];omega
  rw [j1z _ _ _ (by omega),d]
theorem q6i:Can intP intS:=z2q λc v h d=>by
 unfold decInt at h;split at h
 . rename_i f;cases h;rw [f.2.2,q0A d]
 cases h
def z4A:Can octP (λb=>elemS 4 [b]):=z2q λc v h d=>by cases h;exact (q0A d).symm
def z8p:Can strP (λs=>elemS 27 [s.data.toList]):=z2q λc v h d=>by cases h;exact (q0A d).symm
theorem j1R:Can timeP (λn=>timeS (n:Nat)):=z2q λc v h hc=>by
 unfold decTime at h;split at h
 . rename_i d;cases h;rw [q4n ⟨by omega,by omega⟩];have:=j0z c (by omega);rw [d.1] at this;rw [this]
 cases h
theorem j8a:Can keyP (λk=>elemS 48 [wrapS 160 0 (intS k.1)++(wrapS 160 1 (intS k.2.1)++wrapS 160 2 (elemS 4 [k.2.2]))]):=q8D λr k n h=>by unfold tripIn at h;obtain ⟨a,m1,n1,s,f,rfl⟩:=q1h h;obtain ⟨b,m2,n2,o,d,rfl⟩:=q1h f;obtain ⟨c,m3,n3,u,w,rfl⟩:=q1h d;cases w;obtain ⟨j,l1⟩:=q1F (by decide) q6i s;obtain ⟨v,q⟩:=q1F (by decide) q6i o;obtain ⟨m,z⟩:=q1F (by decide) z4A u;simp only [Ah] at q z;refine ⟨?_,by omega⟩;rw [q1k,q1k,j,v,AF,m];rfl
variable {l:List (List UInt8)}
def q5t{c:List (List UInt8)}(h:l.flatten=c.flatten):elemS t l=elemS t c:=by unfold elemS;rw [h]
theorem z2F(c:fieldsS l≠ []):elemS 48 [(tagN l l.length).flatten]=fieldsS l:=by
 unfold fieldsS wholeS at c⊢;split
 . exact q5t (by simp)
 rename_i d;rw [if_neg d] at c;exact absurd rfl c
variable {k:Key}
def j6Q(c:keyOk k):elemS 48 [wrapS 160 0 (intS k.1)++(wrapS 160 1 (intS k.2.1)++wrapS 160 2 (elemS 4 [k.2.2]))]=keyS k:=by have h:=z2F (z8v c);unfold keyS;rw [<-h];exact q5t (by simp [tagN,Be])
theorem j7X:Can datP (λd=>elemS 48 [wrapS 160 0 (intS d.1)++wrapS 160 1 (elemS 4 [d.2])]):=q8D λr k n h=>by unfold datIn at h;obtain ⟨a,m1,n1,q,f,rfl⟩:=q1h h;obtain ⟨b,m2,n2,m,c,rfl⟩:=q1h f;cases c;obtain ⟨j,l1⟩:=q1F (by decide) q6i q;obtain ⟨s,o⟩:=q1F (by decide) z4A m;simp only [Ah] at o;refine ⟨?_,by omega⟩;rw [q1k,j,AF,s];rfl
def j1x:Can dataP (λl=>elemS 48 [(l.map λd=>elemS 48 [wrapS 160 0 (intS d.1)++wrapS 160 1 (elemS 4 [d.2])]).flatten]):=q8D λr l n h=>by obtain ⟨c,h2,_⟩:=z1E j7X 16 _ _ _ h;exact ⟨c,by omega⟩
def z4L{l:List Pre}(h:vPre l=true):elemS 48 [(l.map λd=>elemS 48 [wrapS 160 0 (intS d.1)++wrapS 160 1 (elemS 4 [d.2])]).flatten]=dataS l:=by
 obtain ⟨h16,m⟩:=q8g h;obtain ⟨e,hl⟩:=q4p h;have j:(l.map λd=>elemS 48 [wrapS 160 0 (intS d.1)++wrapS 160 1 (elemS 4 [d.2])])=l.map datS:=by refine Bg λd f=> ?_;have c:=(q5z (m d f)).1;unfold datS at c⊢;rw [<-z2F c];exact q5t (by simp [tagN,Be])
 rw [j,e,q0A (by omega)]
variable {p:Prin}{k:Nat}
theorem z0p(h:nameP r= .ok (p,k)):r.take k=prinS p/\k<=r.length/\1<=k/\vPrin p=true:=by
 unfold nameP at h;cases w:inP 48 nameIn r with
 |error e=>rw [w] at h;cases h
 |ok y=>
  obtain ⟨q,m⟩:=y;rw [w] at h;unfold chkP at h;simp only at h;split at h
  . rename_i K;cases h;have A:Can (inP 48 nameIn) λp=>elemS 48 [wrapS 160 0 (elemS 48 (strsN p.1 p.1.length))++wrapS 160 1 (elemS 27 [p.2.data.toList])]:=q8D λr p n h=>by
     unfold nameIn at h;obtain ⟨a,m1,n1,D,o,rfl⟩:=q1h h;obtain ⟨xs,m2,n2,d,f,rfl⟩:=q1h o;obtain ⟨s,m3,n3,F,B,rfl⟩:=q1h f;cases B;obtain ⟨I,l1⟩:=q1F (e:=λb=>elemS 48 [b]) (by decide) (z2q λc v h A=>by cases h;exact (q0A A).symm) D;unfold strsP atP at d;cases u:listP strP a.length a with
     |error e=>rw [u] at d;cases d
     |ok z=>
      obtain ⟨ys,j⟩:=z;rw [u] at d;cases d;obtain ⟨C,H,_⟩:=z1E z8p _ _ _ _ u;obtain ⟨J,E⟩:=q1F (by decide) z8p F;simp only [Ah] at E;rw [H,Aw] at C;refine ⟨?_,by omega⟩;have G:elemS 48 [a]=elemS 48 (strsN xs xs.length):=by refine q5t ?_;rw [C];simp [strsN]
      rw [q1k,I,q1k,A7,Ar,AF,J,G];rfl
    obtain ⟨o,f,B⟩:=A _ _ _ w;refine ⟨?_,f,B,K⟩;rw [o];exact q5t (by simp)
  cases h
def chkR(b:List UInt8)(a n:Nat):Option (Nat×Nat):=if b.length-a<n then none else some (a,a+n)
def fstR(b:List UInt8):Option (Nat×Nat):=
 if b.length<2 then none else
 if (b.getD 1 0).toNat<128 then chkR b 2 (b.getD 1 0).toNat else
 if (b.getD 1 0).toNat-128<1\/3< (b.getD 1 0).toNat-128\/b.length<2+ ((b.getD 1 0).toNat-128) then none else
 chkR b (2+ ((b.getD 1 0).toNat-128)) (beN ((b.drop 2).take ((b.getD 1 0).toNat-128)))
def fstV(b:List UInt8):SV:=match fstR b with
 |none=>.tup [rI 0,.isl .u8 [],rI 0]
 |some (a,e)=>.tup [rI (b.getD 0 0).toNat,.isl .u8 ((b.take e).drop a),rI e]
def z8Z(l:List UInt8)(h:l.length<=3):beN l<16777216:=by have h1:=q4S l;have h2:256^ l.length<=256^ 3:=A2 (by decide) h;omega
theorem z5I(b:List UInt8)(hb:b.length<=1099511627776):PC Tryz.prog 157 [.isl .u8 b] (fstV b):=by
 have hx:(b.getD 1 Ty.u8.dflt).toNat<256:=BE _;have s:b.getD 1 0=b.getD 1 Ty.u8.dflt:=rfl;have R:IntKind.i64.wrap ((b.getD 1 Ty.u8.dflt).toNat:Int)=(((b.getD 1 Ty.u8.dflt).toNat:Nat):Int):=wrapi (by omega);have e1:IntKind.i64.wrap (((b.getD 1 Ty.u8.dflt).toNat:Int) -128)=((b.getD 1 Ty.u8.dflt).toNat:Int) -128:=wrapi (by omega);have e2:IntKind.i64.wrap (2+ (((b.getD 1 Ty.u8.dflt).toNat:Int) -128))=2+ (((b.getD 1 Ty.u8.dflt).toNat:Int) -128):=wrapi (by omega);have e3:IntKind.i64.wrap ((b.length:Int) -2)=(b.length:Int) -2:=wrapi (by omega);have e4:IntKind.i64.wrap (2+ ((b.getD 1 Ty.u8.dflt).toNat:Int))=2+ ((b.getD 1 Ty.u8.dflt).toNat:Int):=wrapi (by omega);have O:IntKind.i64.wrap ((b.getD 0 Ty.u8.dflt).toNat:Int)=(((b.getD 0 Ty.u8.dflt).toNat:Nat):Int):=wrapi (by have:=(b.getD 0 Ty.u8.dflt).toNat_lt;omega);have u:fstR b=none->fstV b= .tup [rI 0,.isl .u8 [],rI 0]:=λh=>by unfold fstV;rw [h]
 have d:∀a e,fstR b=some (a,e)->fstV b= .tup [rI (b.getD 0 0).toNat,.isl .u8 ((b.take e).drop a),rI e]:=λa e h=>by unfold fstV;rw [h]
 have J:(fstV b).clean=true:=by
  cases h:fstR b with
  |none=>rw [u h];rfl
  |some y=>obtain ⟨a,e⟩:=y;rw [d a e h];rfl
 generalize fstV b=W at*;refine q0g rfl J ?_;refine q2g fi157 (q0p mixed 600 _ ?_);simp (maxSteps:=3000000) only [ir157,R,e1,e2,e3,e4,O,go_sem,↓zA,↓reduceIte,↓reduceDIte] <;>try simp only [zB]
 generalize hxx:b.getD 1 Ty.u8.dflt=x at*;have hF:∀r,fstR b=r->fstR b=r:=λ_ h=>h;have c:fstR b=none->(SV.tup [SV.raw (Value.int IntKind.i64 0),SV.raw (Value.slice none 0 0),SV.raw (Value.int IntKind.i64 0)]).leV W:=λh=>by rw [u h];with_reducible refine sxE ?_;trivial
 refine ⟨λh=> ?_,λh=>⟨by omega,λS=>⟨λH=>⟨λY=>⟨λZ=> ?_,λZ=> ?_⟩,λY=> ?_⟩,λH=> ?_⟩,λS=>⟨λH=> ?_,λH=> ?_⟩⟩⟩
 . refine c ?_;unfold fstR;rw [if_pos (by omega)]
 . refine c ?_;unfold fstR;rw [s,if_neg (by omega),if_neg (by omega),if_pos (by omega)]
 . obtain ⟨m,I⟩:∃m:Nat,(x.toNat:Int) -128=(m:Int):=⟨x.toNat-128,by omega⟩
   have hm3:1<=m/\m<=3:=by omega
   have G:x.toNat-128=m:=by omega
   rw [I];have hl2:(b.drop 2).length=b.length-2:=Ah;generalize Q:b.drop 2=L at*;have B:∀i,L.getD i Ty.u8.dflt=b.getD (2+i) Ty.u8.dflt:=λi=>by rw [<-Q,Ae,Bt,Ae]
   have w:∀v,beN (L.take m)=v->fstR b=chkR b (2+m) v:=λv z=>by unfold fstR;rw [s,Q,G,if_neg (by omega),if_neg (by omega),if_neg (by omega),z]
   refine q1p (λi=>[(5,rI (beN (L.take i))),(8,.raw (.int .i64 ((i:Nat):Int)))]) (m) (λj=>(λ_=>true) j=true) (by first|decide|simp) (λi=>rfl) ?_ λi hi f=> ?_
   . (with_reducible refine sxE ?_<;>try exact True.intro)
     all_goals (try rfl)
   have K:=wsx i (by omega);refine gQ ?_;have E:i< (m)->(λ_=>true) i=false->allN (m) (λ_=>true)=false:=λo z=>q0u o z;have fin:¬i< (m)->allN (m) (λ_=>true)=true:=λh=>q0v λj hj=>f j (by omega);try dsimp only at E fin f
   refine ⟨λo=> ?_,λhge=> ?_⟩
   . have F:IntKind.i64.wrap (2+ (i:Int))=((2+i:Nat):Int):=by rw [wrapi (by omega)];omega
     have z:=z8Z (L.take i) (by simp;omega);have hc:(b.getD (2+i) Ty.u8.dflt).toNat<256:=BE _;have C:IntKind.i64.wrap (256* (beN (L.take i):Int))=256* (beN (L.take i):Int):=wrapi (by omega);have N:IntKind.i64.wrap ((b.getD (2+i) Ty.u8.dflt).toNat:Int)=(((b.getD (2+i) Ty.u8.dflt).toNat:Nat):Int):=wrapi (by omega);have P:=q4C L i (by omega);have U:L.getD i 0=b.getD (2+i) Ty.u8.dflt:=B i;rw [U] at P;rw [F,AA,C,N];have D:IntKind.i64.wrap (256* (beN (L.take i):Int)+ ((b.getD (2+i) Ty.u8.dflt).toNat:Int))=(beN (L.take (i+1)):Int):=by rw [wrapi (by omega),P];omega
     rw [D];refine ⟨⟨by omega,by omega⟩,o,trivial,⟨[],rfl⟩,?_⟩;with_reducible refine sx1 K ?_;trivial
   obtain rfl:i=m:=by omega
   have z:=z8Z (L.take i) (by simp;omega);generalize hV:beN (L.take i)=V at*;have A:=w V rfl;have C:IntKind.i64.wrap (2+ (i:Int))=((2+i:Nat):Int):=by rw [wrapi (by omega)];omega
   have N:IntKind.i64.wrap (((2+i:Nat):Int)+ (V:Int))=((2+i+V:Nat):Int):=by rw [wrapi (by omega)];omega
   have D:IntKind.i64.wrap ((b.length:Int) - ((2+i:Nat):Int))=(b.length:Int) - ((2+i:Nat):Int):=wrapi (by omega);rw [C,D,N,O];refine ⟨λq=>c (by rw [A];unfold chkR;rw [if_pos (by omega)]),λq=>⟨by omega,⟨by omega,by omega,by omega⟩,?_⟩⟩;rw [d (2+i) (2+i+V) (by rw [A];unfold chkR;rw [if_neg (by omega)])];with_reducible refine sxE ?_
   rfl
 . refine c ?_;unfold fstR;rw [s,if_neg (by omega),if_neg (by omega),if_pos (by omega)]
 . refine c ?_;unfold fstR;rw [s,if_neg (by omega),if_neg (by omega),if_pos (by omega)]
 . refine c ?_;unfold fstR chkR;rw [s,if_neg (by omega),if_pos (by omega),if_pos (by omega)]
 have A:fstR b=some (2,2+x.toNat):=by unfold fstR chkR;rw [s,if_neg (by omega),if_pos (by omega),if_neg (by omega)]
 rw [d _ _ A];have X:((2:Int)+ (x.toNat:Int)).toNat=2+x.toNat:=by omega
 rw [X];refine ⟨by omega,⟨by omega,by omega⟩,?_⟩;with_reducible refine sxE ?_
 exact ⟨rfl,congrArg (Value.int .i64) (by omega)⟩
def conR(b:List UInt8):List UInt8:=match fstR b with
 |none=>[]
 |some (a,e)=>(b.take e).drop a
def q8W{a e:Nat}(h:fstR b=some (a,e)):2<=a/\a<=e/\e<=b.length:=by
 have key:∀d n,chkR b d n=some (a,e)->2<=d->d<=b.length->2<=a/\a<=e/\e<=b.length:=by
  intro d n c h2 h3;unfold chkR at c;split at c
  . cases c
  cases c;omega
 unfold fstR at h;split at h
 . cases h
 split at h
 . exact key _ _ h (by omega) (by omega)
 split at h
 . cases h
 exact key _ _ h (by omega) (by omega)
def q1H(b:List UInt8):(conR b).length<=b.length:=by
 unfold conR;split
 . simp
 rw [Ah,Am];omega
def q1G(b:List UInt8)(c:b.length<=1099511627776):PC Tryz.prog 80 [.isl .u8 b] (.isl .u8 (conR b)):=by
 have h:=z5I b c;unfold fstV at h;unfold conR;refine q0g rfl rfl ?_;refine rQ fi80 ?_;refine q0a h ?_;cases hf:fstR b with
 |none=>refine gQ ?_;trivial
 |some y=>obtain ⟨a,e⟩:=y;refine gQ ?_;trivial
def elsR:Nat->List UInt8->List (List UInt8)
 |0,_=>[]
 |f+1,b=>match fstR b with
  |none=>[]
  |some (_,e)=>b.take e :: elsR f (b.drop e)
def q8k:∀ (f:Nat) (b:List UInt8),b.length<=f->elsR f b=elsR b.length b
 |0,b,h=>by have:b= []:=AH.1 (by omega);subst this;rfl
 |f+1,b,h=>by
  cases d:b.length with
  |zero=>have:b= []:=AH.1 d;subst this;simp [elsR,fstR]
  |succ n=>
   simp only [elsR];cases c:fstR b with
   |none=>rfl
   |some y=>obtain ⟨a,e⟩:=y;have hle:=q8W c;simp only;rw [q8k f (b.drop e) (by rw [Ah];omega),q8k n (b.drop e) (by rw [Ah];omega)]
theorem z8k(h:fstR b=none):elsR b.length b= []:=by
 cases hb:b.length with
 |zero=>rfl
 |succ n=>simp only [elsR,h]
def z2E{a e:Nat}(h:fstR b=some (a,e)):elsR b.length b=b.take e :: elsR (b.drop e).length (b.drop e):=by
 have hle:=q8W h;cases hb:b.length with
 |zero=>omega
 |succ n=>simp only [elsR,h];rw [q8k n (b.drop e) (by rw [Ah];omega)]
def q6g(b:List UInt8)(hb:b.length<=1048576):PC Tryz.prog 158 [.isl .u8 b] (.isl (.slice .u8) (elsR b.length b)):=by
 refine q0g rfl rfl ?_;refine rQ fi158 ?_;refine q8K 3 (.slice .u8) rfl rfl ?_;with_reducible refine sxE ?_
 refine q0m (ι:=List UInt8×List (List UInt8)×List SObj) (λs=>[(0,.isl .u8 s.1),(3,.bld s.2.2.length (.slice .u8) s.2.1.length)]) (λs=>s.2.2++ [.row (.slice .u8) s.2.1]) (λs=>s.1.length) (λs=>s.1.length<=b.length/\s.2.1.length+s.1.length<=b.length/\elsR b.length b=s.2.1++elsR s.1.length s.1) (b,[],[]) ⟨Ad _,by simp,rfl⟩ rfl ?_ ?_
 . with_reducible refine sxE ?_;trivial
 rintro ⟨r,d,G⟩ ⟨o,m,c⟩;dsimp only at o m c;have h:=z5I r (by omega);refine aQ ?_;refine q0a h ?_;unfold fstV;cases f:fstR r with
 |none=>rw [z8k f,Ac] at c;rw [c];refine aQ ?_;exact ⟨⟨Ad _,by omega⟩,Aw⟩
 |some y=>
  obtain ⟨a,e⟩:=y;have hle:=q8W f;rw [z2E f] at c;refine aQ ?_;refine ⟨λq=>by exfalso;omega,λ_=>⟨⟨by omega,by omega⟩,⟨by omega,by omega⟩,⟨by omega,by omega,Ad _⟩,?_⟩⟩;rw [Aw];have j:(r.drop e).length=r.length-e:=Ah;refine ⟨(r.drop e,d++ [r.take e],G++ [.dead,.row (.slice .u8) [r.take e]]),⟨?_,?_,?_⟩,?_,?_,?_⟩
  . dsimp only;omega
  . dsimp only;rw [List.length_append,j];simp;omega
  . dsimp only;rw [c,List.append_assoc];rfl
  . dsimp only;omega
  . simp
  with_reducible refine sxaE ?_;trivial
def q4J:∀ (f:Nat) (b:List UInt8),∀x∈elsR f b,2<=x.length/\x.length<=b.length
 |0,b,x,h=>by simp [elsR] at h
 |f+1,b,x,h=>by
  simp only [elsR] at h;cases c:fstR b with
  |none=>rw [c] at h;simp at h
  |some y=>
   obtain ⟨a,e⟩:=y;have hle:=q8W c;rw [c] at h;simp only [Bb] at h;rcases h with rfl|h
   . rw [Am];omega
   have:=q4J f (b.drop e) x h;rw [Ah] at this;omega
def q5S:∀ (f:Nat) (b:List UInt8),(elsR f b).length<=b.length
 |0,b=>by simp [elsR]
 |f+1,b=>by
  simp only [elsR];cases c:fstR b with
  |none=>simp
  |some y=>obtain ⟨a,e⟩:=y;have hle:=q8W c;have:=q5S f (b.drop e);rw [Ah] at this;simp only [As];omega
def isTag(n:Nat)(x:List UInt8):Bool:=decide (((x.getD 0 0).toNat:Int)=160+ (n:Int))
def fndR(n:Nat)(l:List (List UInt8)):List UInt8:=match l.find? (isTag n) with
 |none=>[]
 |some x=>conR x
def itmR(b:List UInt8)(n:Nat):List UInt8:=fndR n (elsR (conR b).length (conR b))
variable {i:Nat}
def j7S(h:i<l.length)(f:isTag n (l.getD i [])=true)(d:∀j,j<i->isTag n (l.getD j [])=false):fndR n l=conR (l.getD i []):=by
 have:l.find? (isTag n)=some (l.getD i []):=by rw [List.find?_eq_some_iff_getElem];refine ⟨f,i,h,by rw [Ae,Af h];rfl,λj c=> ?_⟩;have:=d j c;rw [Ae,Af (by omega)] at this;simpa using this
 unfold fndR;rw [this]
def j5B(f:∀j,j<l.length->isTag n (l.getD j [])=false):fndR n l= []:=by
 have:l.find? (isTag n)=none:=by rw [List.find?_eq_none];intro x d;obtain ⟨j,c,rfl⟩:=AM d;have:=f j c;rw [Ae,Af c] at this;simpa using this
 unfold fndR;rw [this]
theorem q1m(b:List UInt8)(n:Nat):(itmR b n).length<=b.length:=by
 unfold itmR fndR;split
 . simp
 rename_i x c;have h1:=q4J _ _ x (List.mem_of_find?_eq_some c);have h2:=q1H x;have h3:=q1H b;omega
theorem q3i(b:List UInt8)(n:Nat)(hn:n<=30)(hb:b.length<=1048576):PC Tryz.prog 82 [.isl .u8 b,rI n] (.isl .u8 (itmR b n)):=by
 have hl:=q1H b;have D:=q1G b (by omega);have A:=q6g (conR b) (by omega);have z:=q4J (conR b).length (conR b);have hle:=q5S (conR b).length (conR b);have v:itmR b n=fndR n (elsR (conR b).length (conR b)):=rfl;rw [v];generalize elsR (conR b).length (conR b)=l at*;refine q0g rfl rfl ?_;refine rQ fi82 ?_;refine cQ D ?_;refine cQ A ?_;refine q1p (λi=>[(6,.raw (.int .i64 ((i:Nat):Int)))]) (l.length) (λj=>(λj=> !isTag n (l.getD j [])) j=true) (by first|decide|simp) (λi=>rfl) ?_ λi hi c=> ?_
 . (with_reducible refine sxE ?_<;>try exact True.intro)
   all_goals (try rfl)
 have u:=wsx i (by omega);refine gQ ?_;have o:i< (l.length)->(λj=> !isTag n (l.getD j [])) i=false->allN (l.length) (λj=> !isTag n (l.getD j []))=false:=λf B=>q0u f B;have fin:¬i< (l.length)->allN (l.length) (λj=> !isTag n (l.getD j []))=true:=λh=>q0v λj m=>c j (by omega);try dsimp only at o fin c
 refine ⟨λf=> ?_,λhge=> ?_⟩
 . have hmm:=z _ (q1U (d:=(Ty.slice .u8).dflt) f);have hx:=(List.getD (l.getD i (Ty.slice .u8).dflt) 0 Ty.u8.dflt).toNat_lt;have w:IntKind.i64.wrap ((List.getD (l.getD i (Ty.slice .u8).dflt) 0 Ty.u8.dflt).toNat:Int)=(((List.getD (l.getD i (Ty.slice .u8).dflt) 0 Ty.u8.dflt).toNat:Nat):Int):=wrapi (by omega);have C:IntKind.i64.wrap (160+ (n:Int))=160+ (n:Int):=wrapi (by omega);rw [w,C];refine ⟨⟨by omega,f⟩,by omega,λq=>⟨⟨by omega,f⟩,q0a (q1G _ (by omega)) ?_⟩,λq=> ?_⟩
   . have s:isTag n (l.getD i [])=true:=decide_eq_true q;rw [j7S f s (λj m=>by have:=c j m;simpa using this)];refine gQ ?_;rfl
   have s:isTag n (l.getD i [])=false:=decide_eq_false q;refine ⟨f,q1o (λj m=>by have:=c j m;simpa using this) s,⟨[],rfl⟩,?_⟩;with_reducible refine sx1 u ?_;trivial
 rw [j5B (λj m=>by have:=c j (by omega);simpa using this)]
def gIntR(b:List UInt8):Nat:=beN ((conR b).take 7)
theorem q4M(b:List UInt8)(A:b.length<=1099511627776):PC Tryz.prog 84 [.isl .u8 b] (rI (gIntR b)):=by
 have C:=q1G b A;unfold gIntR;generalize conR b=c at*;refine q0g rfl rfl ?_;refine rQ fi84 ?_;refine cQ C ?_;refine q1p (λi=>[(4,rI (beN (c.take i))),(5,.raw (.int .i64 ((i:Nat):Int)))]) (min c.length 7) (λj=>(λ_=>true) j=true) (by first|decide|simp) (λi=>rfl) ?_ λi hi d=> ?_
 . (with_reducible refine sxE ?_<;>try exact True.intro)
   all_goals (try rfl)
 have o:=wsx i (by omega);refine gQ ?_;have q:i< (min c.length 7)->(λ_=>true) i=false->allN (min c.length 7) (λ_=>true)=false:=λf s=>q0u f s;have fin:¬i< (min c.length 7)->allN (min c.length 7) (λ_=>true)=true:=λh=>q0v λj hj=>d j (by omega);try dsimp only at q fin d
 refine ⟨λm=>⟨λw=>⟨⟨by omega,m⟩,?_⟩,λw=> ?_⟩,λm=> ?_⟩
 . have s:=q4S (c.take i);have hv2:256^ (c.take i).length<=256^ 6:=A2 (by decide) (by simp;omega);have hcc:(c.getD i Ty.u8.dflt).toNat<256:=BE _;have u:IntKind.i64.wrap (256* (beN (c.take i):Int))=256* (beN (c.take i):Int):=wrapi (by omega);have B:IntKind.i64.wrap ((c.getD i Ty.u8.dflt).toNat:Int)=(((c.getD i Ty.u8.dflt).toNat:Nat):Int):=wrapi (by omega);have v:beN (c.take (i+1))=beN (c.take i)*256+ (c.getD i Ty.u8.dflt).toNat:=q4C c i m;have z:IntKind.i64.wrap (256* (beN (c.take i):Int)+ ((c.getD i Ty.u8.dflt).toNat:Int))=(beN (c.take (i+1)):Int):=by rw [wrapi (by omega),v];omega
   rw [u,B,z];refine ⟨by omega,trivial,⟨[],rfl⟩,?_⟩;with_reducible refine sx1 o ?_;trivial
 . obtain rfl:i=7:=by omega
   rfl
 obtain rfl:i=c.length:=by omega
 rw [Aw,Aa (by omega)]
theorem q6n(b:List UInt8)(hb:b.length<=1048576):PC Tryz.prog 83 [.isl .u8 b] (.isl .u8 (conR b)):=by have d:=q1G b (by omega);have hl:=q1H b;generalize conR b=c at*;refine q0g rfl rfl ?_;refine rQ fi83 ?_;refine cQ d ?_;exact ⟨⟨by omega,by omega⟩,⟨by omega,by omega⟩,Aa (by omega)⟩
theorem j0e(h:(meas b).2.2=0):fstR b=some ((meas b).1,(meas b).2.1):=by
 have key:∀a n,(measE b a n).2.2=0->chkR b a n=some ((measE b a n).1,(measE b a n).2.1):=by
  intro a n d;unfold measE at d⊢;unfold chkR;split at d
  . cases d
  rename_i j;rw [if_neg j,if_neg j]
 unfold meas at h⊢;unfold fstR;split at h
 . cases h
 rename_i f;rw [if_neg f,if_neg f];split at h
 . rename_i c;rw [if_pos c,if_pos c];exact key _ _ h
 rename_i c;rw [if_neg c,if_neg c];split at h
 . cases h
 rename_i q;split at h
 . cases h
 rename_i m;split at h
 . cases h
 rename_i o;rw [if_neg (by omega),if_neg q,if_neg m,if_neg o];exact key _ _ h
def z4Y(t:UInt8)(c r:List UInt8)(h:c.length<=16777215):fstR (tlv t c++r)=some (1+ (lenS c.length).length,(tlv t c).length):=by have d:=q5x t c r h;rw [j0e (by rw [d]),d,q0J]
def j3k(t:UInt8)(c r:List UInt8)(h:c.length<=16777215):conR (tlv t c++r)=c:=by have:=q8d t c r h;unfold takeC at this;rw [q5x t c r h] at this;unfold conR;rw [z4Y t c r h];simp only at this⊢;rw [q0J];exact this
def conR_tlv'(t:UInt8)(c:List UInt8)(h:c.length<=16777215):conR (tlv t c)=c:=by have:=j3k t c [] h;rwa [Ac] at this
def isEl(x:List UInt8):Prop:=∃t c,x=tlv t c/\c.length<=16777215
def q5q:∀ (L:List (List UInt8)),(∀x∈L,isEl x)->elsR L.flatten.length L.flatten=L
 | [],_=>rfl
 |x :: L,h=>by obtain ⟨t,c,rfl,d⟩:=h x (by simp);have f:=z4Y t c L.flatten d;rw [Ak,z2E f,BP,B2,q5q L λy j=>h y (by simp [j])]
def z6U:(l.filter λx=> !x.isEmpty).flatten=l.flatten:=by
 induction l with
 |nil=>rfl
 |cons x l c=>
  cases x with
  |nil=>simp [c]
  |cons a x=>simp [c]
def wrapsL(l:List (List UInt8))(n k:Nat):List (List UInt8):=((List.range' n k).map λj=>wrapS 160 (j:Nat) (l.getD j [])).filter λx=> !x.isEmpty
def q8z(l:List (List UInt8))(n k:Nat):wrapsL l n (k+1)=if wrapS 160 (n:Nat) (l.getD n [])= [] then wrapsL l (n+1) k else wrapS 160 (n:Nat) (l.getD n []) :: wrapsL l (n+1) k:=by unfold wrapsL;rw [Cp,AB,List.filter_cons];cases wrapS 160 (n:Nat) (l.getD n []) <;>simp
theorem j1y(f:∀j,(l.getD j []).length<=16777215)(hn:n+k<=31):elsR (sufS l n k).length (sufS l n k)=wrapsL l n k:=by
 have:sufS l n k=(wrapsL l n k).flatten:=by unfold wrapsL sufS;rw [z6U]
 rw [this];refine q5q _ λx d=> ?_;unfold wrapsL at d;simp only [List.mem_filter,Br,List.mem_range'_1] at d;obtain ⟨⟨j,hj,rfl⟩,c⟩:=d;rw [q3J (by omega) (f j)] at c⊢;split
 . rename_i h;rw [if_pos h] at c;simp at c
 exact ⟨_,_,rfl,f j⟩
def q7Y{m:Nat}{c:List UInt8}(d:n<=30):isTag m (tlv (tagB n) c)=decide (n=m):=by unfold isTag tlv;rw [AD,z0I n d];exact decide_eq_decide.2 (by omega)
variable {x:List UInt8}
def z0w{m:Nat}{L:List (List UInt8)}:fndR m (x :: L)=if isTag m x then conR x else fndR m L:=by unfold fndR;rw [List.find?_cons];cases isTag m x<;>simp
def j4P{l:List (List UInt8)}{m:Nat}(d:∀j,(l.getD j []).length<=16777215):∀ (k n:Nat),m<n->n+k<=31->fndR m (wrapsL l n k)= []
 |0,n,_,_=>rfl
 |k+1,n,h,hn=>by
  rw [q8z,q3J (n:=n) (by omega) (d n)];have c:=j4P (m:=m) d k (n+1) (by omega) (by omega);by_cases f:l.getD n []= []
  . rw [if_pos f,if_pos rfl];exact c
  rw [if_neg f,if_neg (by simp [tlv]),z0w,q7Y (n:=n) (by omega),decide_eq_false (show ¬n=m by omega)];exact c
def j5h{l:List (List UInt8)}{m:Nat}(d:∀j,(l.getD j []).length<=16777215):∀ (k n:Nat),n<=m->m<n+k->n+k<=31->fndR m (wrapsL l n k)=l.getD m []
 |0,n,_,_,_=>by omega
 |k+1,n,h,h2,hn=>by
  rw [q8z,q3J (n:=n) (by omega) (d n)];by_cases e:n=m
  . subst e;by_cases c:l.getD n []= []
    . rw [if_pos c,if_pos rfl,j4P d k (n+1) (by omega) (by omega),c]
    rw [if_neg c,if_neg (by simp [tlv]),z0w,q7Y (n:=n) (by omega),decide_eq_true (show n=n from rfl),if_pos rfl,conR_tlv' _ _ (d n)]
  have f:=j5h (m:=m) d k (n+1) (by omega) (by omega) (by omega);by_cases c:l.getD n []= []
  . rw [if_pos c,if_pos rfl];exact f
  rw [if_neg c,if_neg (by simp [tlv]),z0w,q7Y (n:=n) (by omega),decide_eq_false e];exact f
def q2c{m:Nat}(c:∀j,(l.getD j []).length<=16777215)(hk:k<=31)(hm:m<k)(d:(sufS l 0 k).length<=16777215):itmR (tlv 48 (sufS l 0 k)) m=l.getD m []:=by unfold itmR;rw [conR_tlv' _ _ d,j1y c (by omega)];exact j5h c k 0 (Aj _) (by omega) (by omega)
def q8P{v:Int}(h:0<=v/\v<36028797018963968):(gIntR (intS v):Int)=v:=by
 obtain ⟨c,f,h2,_,_,m,d⟩:=q5C (v:=v) (by omega);unfold gIntR;rw [f,conR_tlv' _ _ (by omega)];have j:c.length<=7:=by
  rcases AL c.length 8 with q|q
  . omega
  have:=d (by omega);omega
 rw [Aa j];exact m
def j2F(h:n<=1099511627776):gIntR (timeS n)=n:=by unfold gIntR;rw [q4n (by omega),conR_tlv' _ _ (by rw [q0F];omega),Aa (by rw [q0F];omega),z0t n 6 (by omega),AI (by omega)]
def eltR(x:List UInt8):List (List UInt8):=elsR (conR x).length (conR x)
def sR(x:List UInt8):ByteArray:=⟨(conR x).toArray⟩
def prnR(x:List UInt8):Prin:=((eltR (itmR x 0)).map sR,sR (itmR x 1))
def keyR(x:List UInt8):Key:=((gIntR (itmR x 0):Int),(gIntR (itmR x 1):Int),conR (itmR x 2))
def j1T:conR []= []:=by decide
def j2g:eltR []= []:=by decide
def z4O{β:Type}{f:β->α}{w:α->β}{l:List α}(h:∀x∈l,f (w x)=x):(l.map w).map f=l:=by
 rw [BI]
 conv=>rhs;rw [<-List.map_id l]
 exact Bg λx c=>h x c
def z5u{s:ByteArray}(h:s.size<=16777215):sR (elemS 27 [s.data.toList])=s/\isEl (elemS 27 [s.data.toList]):=by
 have hl:s.data.toList.length=s.size:=by simp
 rw [q0A (by omega)];refine ⟨?_,_,_,rfl,by omega⟩;unfold sR;rw [conR_tlv' _ _ (by omega)]
def j3P(h:vPrin p=true):prnR (prinE p)=p/\isEl (prinE p):=by
 obtain ⟨B,A,D⟩:=q5n h;have G:prinE p=prinS p:=by unfold prinE;rw [if_pos h]
 rw [G];obtain ⟨xs,t⟩:=p;have q:xs.length<=4:=B;have c:∀x∈xs,x.size<=32:=A;have h3':t.size<=32:=D;obtain ⟨g1,g2⟩:=z2z xs t (by omega) (λx d=>by have:=c x d;omega) (by omega);have H:prinS (xs,t)=tlv 48 (sufS [elemS 48 (strsN xs xs.length),strE t] 0 2):=by
  show elemS 48 [wrapS 160 0 (elemS 48 (strsN xs xs.length)),wrapS 160 1 (strE t)]=_;have e:([wrapS 160 0 (elemS 48 (strsN xs xs.length)),wrapS 160 1 (strE t)]:List (List UInt8)).flatten=sufS [elemS 48 (strsN xs xs.length),strE t] 0 2:=by rw [q0S,q0S];simp [sufS]
  rw [q1u (by rw [e];omega),e]
 have u:strsN xs xs.length=xs.map strE:=by unfold strsN strE;rw [Aw]
 have hb:(xs.map strE).flatten.length<=148:=by have:=q9C (k:=xs.length) q c;rwa [u] at this
 have z:elemS 48 (strsN xs xs.length)=tlv 48 (xs.map strE).flatten:=by rw [u,q1u (by omega)]
 have l1:=z0K t;have v:∀j,(([elemS 48 (strsN xs xs.length),strE t]:List (List UInt8)).getD j []).length<=16777215:=λj=>by
  match j with
  |0=>show (elemS 48 (strsN xs xs.length)).length<=_;rw [z,q0J];have:=q2b (xs.map strE).flatten.length;omega
  |1=>show (strE t).length<=_;omega
  |j+2=>exact Aj _
 rw [H];refine ⟨?_,_,_,rfl,by omega⟩;unfold prnR;rw [q2c (m:=0) v (by omega) (by omega) (by omega),q2c (m:=1) v (by omega) (by omega) (by omega)];have C:([elemS 48 (strsN xs xs.length),strE t]:List (List UInt8)).getD 0 []=tlv 48 (xs.map strE).flatten:=z;have F:([elemS 48 (strsN xs xs.length),strE t]:List (List UInt8)).getD 1 []=strE t:=rfl;rw [C,F];have o:∀x∈xs,sR (strE x)=x/\isEl (strE x):=λx d=>z5u (by have:=c x d;omega);unfold eltR;rw [conR_tlv' _ _ (by omega),q5q _ (λx d=>by obtain ⟨s,E,rfl⟩:=Br.1 d;exact (o s E).2),z4O (f:=sR) (w:=strE) (λx d=>(o x d).1)];exact congrArg (Prod.mk xs) (z5u (by omega)).1
def j2a{k:Key}(h:keyOk k):keyR (keyS k)=k/\isEl (keyS k):=by
 obtain ⟨a,v,c⟩:=k;obtain ⟨w,u,B⟩:=h;have i1:=q1g a;have i2:=q1g v;have q:elemS 4 [c]=tlv 4 c:=q0A (by omega);have A:=q0n 4 [c];simp only [Ak,Aq,Ac] at A;have f:∀j,(([intS a,intS v,elemS 4 [c]]:List (List UInt8)).getD j []).length<=16777215:=λj=>by
  match j with
  |0=>show (intS a).length<=_;omega
  |1=>show (intS v).length<=_;omega
  |2=>show (elemS 4 [c]).length<=_;omega
  |j+3=>exact Aj _
 obtain ⟨z,d⟩:=z0h a v c w u B;rw [z];refine ⟨?_,_,_,rfl,d⟩;unfold keyR;rw [q2c (m:=0) f (by omega) (by omega) d,q2c (m:=1) f (by omega) (by omega) d,q2c (m:=2) f (by omega) (by omega) d];have C:([intS a,intS v,elemS 4 [c]]:List (List UInt8)).getD 0 []=intS a:=rfl;have s:([intS a,intS v,elemS 4 [c]]:List (List UInt8)).getD 1 []=intS v:=rfl;have o:([intS a,intS v,elemS 4 [c]]:List (List UInt8)).getD 2 []=tlv 4 c:=q;rw [C,s,o,q8P (by omega),q8P (by omega),conR_tlv' _ _ (by omega)]
theorem z8G(b:List UInt8)(hb:b.length<=1048576):PC Tryz.prog 85 [.isl .u8 b] (.agg (KeyT.cells (keyR b))):=by have q0:=q1m b 0;have q1:=q1m b 1;have q2:=q1m b 2;refine q0g rfl rfl ?_;refine rQ fi85 ?_;refine cQ (q3i b 0 (by omega) (by omega)) ?_;refine cQ (q4M _ (by omega)) ?_;refine cQ (q3i b 1 (by omega) (by omega)) ?_;refine cQ (q4M _ (by omega)) ?_;refine cQ (q3i b 2 (by omega) (by omega)) ?_;refine cQ (q6n _ (by omega)) ?_;exact ⟨rfl,rfl,rfl⟩
def srN(l:List (List UInt8))(i:Nat):List ByteArray:=(l.take i).map sR
def j1I(h:i<l.length):srN l (i+1)=srN l i++ [sR (l.getD i (Ty.slice .u8).dflt)]:=by unfold srN;rw [q1e (d:=(Ty.slice .u8).dflt) h];simp
def j8P(h:i<=l.length):(srN l i).length=i:=by simp [srN];omega
def j0H(x:List UInt8):(sR x).size<=x.length:=by have:=q1H x;unfold sR;show (conR x).toArray.size<=_;simpa using this
theorem z6N(b:List UInt8)(hb:b.length<=1048576):PC Tryz.prog 81 [.isl .u8 b] (.agg (PrinT.cells (prnR b))):=by
 have q0:=q1m b 0;have q1:=q1m b 1;have u:=q1G (itmR b 0) (by omega);have hl:=q1H (itmR b 0);have q:=q6g (conR (itmR b 0)) (by omega);have o:=q4J (conR (itmR b 0)).length (conR (itmR b 0));have hle:=q5S (conR (itmR b 0)).length (conR (itmR b 0));have j:prnR b=((elsR (conR (itmR b 0)).length (conR (itmR b 0))).map sR,sR (itmR b 1)):=rfl;rw [j];clear j;generalize elsR (conR (itmR b 0)).length (conR (itmR b 0))=l at*;refine q0g rfl rfl ?_;refine rQ fi81 ?_;refine cQ (q3i b 0 (by omega) (by omega)) ?_;refine cQ u ?_;refine cQ q ?_;refine q3D 1 0 .str rfl rfl rfl ?_;with_reducible refine sxE ?_
 refine q0m (ι:=Nat×List SObj) (λs=>[(5,rI s.1)]) (λs=>[.cells 24 [.raw (.slice none 0 0),rS ⟨#[]⟩],.cells 24 [.bld (s.2.length+2) .str (srN l s.1).length,rS ⟨#[]⟩]]++s.2++ [.row .str (srN l s.1)]) (λs=>l.length-s.1) (λs=>s.1<=l.length) (0,[]) (Aj _) rfl ?_ ?_
 . with_reducible refine sxE ?_;trivial
 rintro ⟨i,G⟩ m;dsimp only at m;have h:=wsx i (by omega);have hln:=j8P m;refine uQ 12 _ ?_;with_reducible refine sxaE ?_
 refine ⟨λc=> ?_,λhge=> ?_⟩
 . have hmm:=o _ (q1U (d:=(Ty.slice .u8).dflt) c);have f:=j1I c;have hsz:=j0H (l.getD i (Ty.slice .u8).dflt);refine q1x [1] mixed ?_;refine aQ ?_;refine ⟨⟨by omega,c⟩,q0d (q1G _ (by omega)) ?_⟩;refine aQ ?_


   refine ⟨by show (sR _).size<=_;omega,⟨by omega,by omega⟩,(i+1,G++ [.dead,.row .str [sR (l.getD i (Ty.slice .u8).dflt)]]),by dsimp only;omega,by dsimp only;omega,?_,?_⟩
   . simp [f];rfl
   with_reducible refine sya1 h ?_;trivial
 obtain rfl:i=l.length:=by omega
 refine aQ ?_;refine q0a (q3i b 1 (by omega) (by omega)) ?_;refine aQ ?_;refine q0a (q1G _ (by omega)) ?_;refine aQ ?_;exact ⟨⟨Ad _,by omega⟩,by rw [Aw];unfold srN;rw [Aw],rfl⟩
def j8d(x:List UInt8):(eltR x).length<=x.length:=Ao (q5S _ _) (q1H x)
variable {y:List UInt8}
def j6W(h:y∈eltR x):y.length<=x.length:=Ao (q4J _ _ y h).2 (q1H x)
theorem z9B{t:Ty}{f:List UInt8->t.den}(d:x.length<=1048576)(h:∀y,y.length<=1048576->t.ok (f y)):(Ty.slice t).ok ((eltR x).map f):=by refine ⟨by rw [AY];have:=j8d x;omega,λz j=> ?_⟩;obtain ⟨y,c,rfl⟩:=Br.1 j;exact h y (Ao (j6W c) d)
def z8i(h:y.length<=1048576):(Ty.str).ok (sR y):=by have:=j0H y;show (sR y).size<=_;omega
def z4o(h:y.length<=1048576):(Ty.slice .u8).ok (conR y):=⟨by have:=q1H y;show (conR y).length<=_;omega,λ_ _=>trivial⟩
def q7a(n:Nat)(h:y.length<=1048576):(itmR y n).length<=1048576:=Ao (q1m y n) h
def j6i(h:y.length<=1048576):PrinT.ok (prnR y):=⟨z9B (t:=.str) (q7a 0 h) λ_ hz=>z8i hz,z8i (q7a 1 h)⟩
def j7q(h:y.length<=1048576):KeyT.ok (keyR y):=⟨trivial,trivial,z4o (q7a 2 h)⟩
def j5D{p:Pre}(h:((0:Int)<=p.1/\p.1<=(2147483647:Int))/\p.2.length<=16384):datR p=datS p:=by
 obtain ⟨a,c⟩:=p;obtain ⟨j,m⟩:=h;dsimp only at m;have f:(0:Int)<=a/\a<=4611686018427387904:=⟨j.1,A5 j.2 (by decide)⟩
 obtain ⟨e,hl⟩:=q7o a c f (by omega);have d:(tagN [intS a,elemS 4 [c]] 2).flatten=sufS [intS a,elemS 4 [c]] 0 2:=q5k [intS a,elemS 4 [c]];have o:tagN [intS a,elemS 4 [c]] 2= [wrapS 160 0 (intS a),wrapS 160 1 (elemS 4 [c])]:=by simp [tagN,Be]
 have q:intR a=intS a:=q5c f;show elemS 48 [wrapS 160 0 (intR a),wrapS 160 1 (elemS 4 [c])]=_;rw [e,q,<-o,q1u (by rw [d];omega),d]
def j3m{l:List Pre}(h:vPre l=true):dataR l=dataS l:=by
 obtain ⟨h16,f⟩:=q8g h;obtain ⟨e,hl⟩:=q4p h;have d:mapN (t:=PreT) datR l l.length=l.map datS:=by unfold mapN;rw [Aw];exact Bg λp c=>j5D (f p c)
 unfold dataR;rw [d,e,q1u (by omega)]
def k0c(h:vPrin p=true):shP p:=by obtain ⟨h1,c,h3⟩:=q5n h;exact ⟨by omega,λx d=>by have:=c x d;omega,by omega⟩
def j9h{l:List Pre}(h:vPre l=true):shD l:=by obtain ⟨h16,f⟩:=q8g h;refine ⟨by omega,λp d=> ?_⟩;obtain ⟨c,h2⟩:=f p d;exact ⟨⟨A5 (by decide) c.1,A5 c.2 (by decide)⟩,by omega⟩
def datG(x:List UInt8):Pre:=((gIntR (itmR x 0):Int),conR (itmR x 1))
def preG(x:List UInt8):List Pre:=(eltR x).map datG
def q9Z{p:Pre}(h:((0:Int)<=p.1/\p.1<=(2147483647:Int))/\p.2.length<=16384):datG (datS p)=p/\isEl (datS p):=by
 obtain ⟨a,c⟩:=p;obtain ⟨u,q⟩:=h;dsimp only at q;change Int at a;have h1':0<=a/\a<=2147483647:=u;obtain ⟨e,hl⟩:=q7o a c (by omega) (by omega);have i1:=q1g a;have o:elemS 4 [c]=tlv 4 c:=q0A (by omega);have s:=q0n 4 [c];simp only [Ak,Aq,Ac] at s;have f:∀j,(([intS a,elemS 4 [c]]:List (List UInt8)).getD j []).length<=16777215:=λj=>by
  match j with
  |0=>show (intS a).length<=_;omega
  |1=>show (elemS 4 [c]).length<=_;omega
  |j+2=>exact Aj _
 have d:(sufS [intS a,elemS 4 [c]] 0 2).length<=16777215:=by omega
 refine ⟨?_,by rw [e];exact ⟨_,_,rfl,d⟩⟩;unfold datG;rw [e,q2c (m:=0) (k:=2) f (by omega) (by omega) d,q2c (m:=1) (k:=2) f (by omega) (by omega) d];show (((gIntR (intS a):Nat):Int),conR (elemS 4 [c]))=(a,c);rw [q8P (by omega),o,conR_tlv' _ _ (by omega)]
def j4j{l:List Pre}(h:vPre l=true):preG (preO l)=l:=by
 obtain ⟨h16,d⟩:=q8g h;obtain ⟨e,hl⟩:=q4p h;unfold preG preO;by_cases c:l.length=0
 . rw [if_pos c,AH.1 c,j2g];rfl
 rw [if_neg c,e];unfold eltR;rw [conR_tlv' _ _ (by omega),q5q _ (λx m=>by obtain ⟨s,j,rfl⟩:=Br.1 m;exact (q9Z (d s j)).2)];exact z4O λp f=>(q9Z (d p f)).1
def dgN(l:List (List UInt8))(i:Nat):List Pre:=(l.take i).map datG
def j3a(h:i<l.length):dgN l (i+1)=dgN l i++ [datG (l.getD i (Ty.slice .u8).dflt)]:=by unfold dgN;rw [q1e (d:=(Ty.slice .u8).dflt) h];simp
def j8w(h:i<=l.length):(dgN l i).length=i:=by simp [dgN];omega
def j8N(l:List (List UInt8)):dgN l l.length=l.map datG:=by unfold dgN;rw [Aw]
theorem z7l(b:List UInt8)(hb:b.length<=1048576):PC Tryz.prog 86 [.isl .u8 b] (.isl PreT (preG b)):=by
 have u:=q1G b (by omega);have hl:=q1H b;have s:=q6g (conR b) (by omega);have q:=q4J (conR b).length (conR b);have hle:=q5S (conR b).length (conR b);have m:preG b=(elsR (conR b).length (conR b)).map datG:=rfl;rw [m];clear m;generalize elsR (conR b).length (conR b)=l at*;rw [<-j8N];refine q0g rfl rfl ?_;refine rQ fi86 ?_;refine cQ u ?_;refine cQ s ?_;refine q2Z 3 PreT (dgN l) (λi=>[(5,rI i)]) l.length (λ_=>True) rfl (by simp) (by simp [dgN]) rfl (λi=>rfl) ?_ λi o _=> ?_
 . with_reducible refine sxE ?_;trivial
 have j:=wsx i (by omega);have hln:=j8w o;refine gQ ?_;refine ⟨λc=> ?_,λhge=> ?_⟩
 . have hmm:=q _ (q1U (d:=(Ty.slice .u8).dflt) c);have f:=j3a c;have h:datG (l.getD i (Ty.slice .u8).dflt)=((gIntR (itmR (l.getD i (Ty.slice .u8).dflt) 0):Int),conR (itmR (l.getD i (Ty.slice .u8).dflt) 1)):=rfl;refine ⟨⟨by omega,c⟩,⟨by omega,c⟩,?_⟩;generalize l.getD i (Ty.slice .u8).dflt=x at*;have q0:=q1m x 0;have q1:=q1m x 1;have q3:=q1H (itmR x 1);refine cR (q3i x 0 (by omega) (by omega)) ?_;refine cR (q4M _ (by omega)) ?_;refine cR (q3i x 1 (by omega) (by omega)) ?_;refine cR (q6n _ (by omega)) ?_;refine ⟨⟨by omega,by omega⟩,q1P [_,_] [] c trivial (by rw [f,h];rfl) ?_⟩;with_reducible refine sx3 j f ?_;trivial
 obtain rfl:i=l.length:=by omega
 refine ⟨⟨Ad _,by omega⟩,Aa (Ad _)⟩
def j5H(h:y.length<=1048576):PreT.ok (datG y):=⟨trivial,z4o (q7a 1 h)⟩
def j8g(h:y.length<=1048576):(Ty.slice PreT).ok (preG y):=z9B (t:=PreT) h λ_ hz=>j5H hz
def inI(v:Int):Prop:= -9223372036854775808<=v/\v<=9223372036854775807
def shK(k:Key):Prop:=inI k.1/\inI k.2.1/\k.2.2.length<=65536
def keyA(k:Key):List UInt8:=elemS 48 [wrapS 160 0 (intR k.1),wrapS 160 1 (intR k.2.1),wrapS 160 2 (elemS 4 [k.2.2])]
def z5E{k:Key}(h:shK k):(keyA k).length<=65700:=by have g1:=q1S k.1;have g2:=q1S k.2.1;have d:=q0n 4 [k.2.2];simp only [Ak,Aq,Ac] at d;have g5:=q0o 160 0 (intR k.1);have g6:=q0o 160 1 (intR k.2.1);have g7:=q0o 160 2 (elemS 4 [k.2.2]);have c:=q0n 48 [wrapS 160 0 (intR k.1),wrapS 160 1 (intR k.2.1),wrapS 160 2 (elemS 4 [k.2.2])];simp only [Ak,Aq,Ac,Ab] at c;have:=h.2.2;unfold keyA;omega
theorem k0g(k:Key)(h:shK k):PC Tryz.prog 60 [.agg (KeyT.cells k)] (.isl .u8 (keyA k)):=by
 have c:keyA k=elemS 48 [wrapS 160 0 (intR k.1),wrapS 160 1 (intR k.2.1),wrapS 160 2 (elemS 4 [k.2.2])]:=rfl;have g1:=q1S k.1;have g2:=q1S k.2.1;have j:=q0n 4 [k.2.2];simp only [Ak,Aq,Ac] at j;have g5:=q0o 160 0 (intR k.1);have g6:=q0o 160 1 (intR k.2.1);have g7:=q0o 160 2 (elemS 4 [k.2.2]);obtain ⟨f,d,h3⟩:=h;generalize keyA k=R at*;refine q0g rfl rfl ?_;refine rQ fi60 ?_;refine cR (q9N _ f) ?_;refine cR (q2P 0 (by decide) _ (by omega)) ?_;refine cR (q9N _ d) ?_;refine cR (q2P 1 (by decide) _ (by omega)) ?_;refine cR (j0V _ (by omega)) ?_;refine cR (q2P 2 (by decide) _ (by omega)) ?_;refine q0Y 1 (by decide) ?_;with_reducible refine sxE ?_
 refine cR (q9I _ (by simp) (by simp only [Ak,Aq,Ac,Ab];omega)) ?_;exact c.symm
theorem z3v{p:PR α}{d:α}{f:α->Bool}(B:n<=30)(q:Can p e){v:α}(h:optQ n p d f r= .ok (v,k)):
 k<=r.length/\((r.take k=wrapS 160 (n:Nat) (e v)/\f v=true)\/(k=0/\v=d)):=by
 rcases q6y h with ⟨c,o⟩ | ⟨c,o⟩
 . have z:needP n p r= .ok (v,k):=by
    unfold mayP at c;unfold needP;split at c
    . rename_i A;rw [if_pos A];cases j:inP (tagB n) p r with
      |error e=>rw [j] at c;cases c
      |ok y=>rw [j] at c;obtain ⟨u,m⟩:=y;cases c;rfl
    cases c
   obtain ⟨w,s⟩:=q1F B q z;exact ⟨s,.inl ⟨w,o⟩⟩
 unfold mayP at c;split at c
 . cases j:inP (tagB n) p r with
   |error e=>rw [j] at c;cases c
   |ok y=>rw [j] at c;cases c
 cases c;exact ⟨Aj _,.inr ⟨rfl,o⟩⟩
theorem j6U(v:Int):Can (cstP v) (λ_=>intS v):=λr u k h=>by
 unfold cstP at h;cases c:intP r with
 |error e=>rw [c] at h;cases h
 |ok y=>
  obtain ⟨w,m⟩:=y;rw [c] at h;simp only at h;split at h
  . rename_i d;cases h;rw [<-d];exact q6i _ _ _ c
  cases h
def rawK(k:Key):List UInt8:=elemS 48 [wrapS 160 0 (intS k.1)++(wrapS 160 1 (intS k.2.1)++wrapS 160 2 (elemS 4 [k.2.2]))]
def rawD(l:List Pre):List UInt8:=elemS 48 [(l.map λd=>elemS 48 [wrapS 160 0 (intS d.1)++wrapS 160 1 (elemS 4 [d.2])]).flatten]
def autE(a:Aut):List UInt8:=wrapS 160 0 (intS 5)++(wrapS 160 1 (prinS a.1)++(wrapS 160 2 (octO a.2.1)++(wrapS 160 3 (intS a.2.2.2.1)++(wrapS 160 4 (timeS a.2.2.1)++(wrapS 160 5 (if a.2.2.2.2.1.1=0 then [] else rawK a.2.2.2.2.1)++(wrapS 160 6 (intS a.2.2.2.2.2.1)++wrapS 160 7 (if a.2.2.2.2.2.2.length=0 then [] else rawD a.2.2.2.2.2.2)))))))
theorem z3W(t n:Int):wrapS t n []= []:=if_neg λh=>h.2.2 rfl
variable {a:Aut}
theorem j0k(h:autIn r= .ok (a,k)):r.take k=autE a/\k<=r.length:=by
 unfold autIn at h;obtain ⟨_,k0,n0,L,A,rfl⟩:=q1h h;obtain ⟨c,j,n1,S,E,rfl⟩:=q1h A;obtain ⟨s,o,n2,J,w,rfl⟩:=q1h E;obtain ⟨m,z,n3,h3,G,rfl⟩:=q1h w;obtain ⟨t,B,n4,R,D,rfl⟩:=q1h G;obtain ⟨y,C,n5,V,F,rfl⟩:=q1h D;obtain ⟨q,k6,n6,h6,u,rfl⟩:=q1h F;obtain ⟨d,N,n7,U,W,rfl⟩:=q1h u;cases W;clear h A E w G D F u;obtain ⟨H,l0⟩:=q1F (by decide) (j6U 5) L;obtain ⟨e1,l1⟩:=q1F (e:=prinS) (by decide) (λr v k h=>⟨(z0p h).1,(z0p h).2.1,(z0p h).2.2.1⟩) S;obtain ⟨l2,X⟩:=z3v (by decide) z4A J;obtain ⟨e3,Y⟩:=q1F (by decide) q6i h3;obtain ⟨e4,Z⟩:=q1F (by decide) j1R R;obtain ⟨O,I⟩:=z3v (by decide) j8a V;obtain ⟨Q,l6⟩:=q1F (by decide) q6i h6;obtain ⟨l7,K⟩:=z3v (by decide) j1x U;have f2:List.take o (List.drop j (List.drop k0 r))=wrapS 160 2 (octO s):=by
  rcases X with ⟨e,f⟩ | ⟨rfl,rfl⟩
  . rw [e];unfold octO;rw [if_neg (by have:=of_decide_eq_true f;omega)];rfl
  rw [A7];exact (z3W _ _).symm
 have f5:List.take C (List.drop B (List.drop z (List.drop o (List.drop j (List.drop k0 r)))))=wrapS 160 5 (if y.1=0 then [] else rawK y):=by
  rcases I with ⟨e,f⟩ | ⟨rfl,rfl⟩
  . rw [e,if_neg (by simpa using f)];rfl
  rw [A7];exact (z3W _ _).symm
 have P:List.take N (List.drop k6 (List.drop C (List.drop B (List.drop z (List.drop o (List.drop j (List.drop k0 r)))))))=wrapS 160 7 (if d.length=0 then [] else rawD d):=by
  rcases K with ⟨e,f⟩ | ⟨rfl,rfl⟩
  . rw [e,if_neg (by have:=of_decide_eq_true f;omega)];rfl
  rw [A7];exact (z3W _ _).symm
 simp only [Ah] at l1 l2 Y Z O l6 l7;refine ⟨?_,by omega⟩;rw [q1k,q1k,q1k,q1k,q1k,q1k,q1k,H,e1,f2,e3,e4,f5,Q,AF,P];rfl
theorem z8N(h:vAut a=true):autE a=sufS (autL a) 0 8:=by
 obtain ⟨c,s,t,m,k,q,d⟩:=a;simp only [vAut,Ai,decide_eq_true_eq] at h;obtain ⟨_,_,_,_,f,_,o⟩:=h;have j:(if k.1=0 then [] else rawK k)=keyO k:=by
  unfold keyO;split
  . rfl
  rename_i u;simp only [vSub,BF,Ai,decide_eq_true_eq] at f;rcases f with rfl|f
  . exact absurd rfl u
  exact j6Q (q5L f.1)
 have v:(if d.length=0 then [] else rawD d)=preO d:=by
  unfold preO;split
  . rfl
  exact z4L (q9Q o).1
 unfold autE;dsimp only;rw [j,v];have z:sufS (autL (c,s,t,m,k,q,d)) 8 0= []:=rfl;simp only [q0S,Nat.reduceAdd,z,Ac];rfl
def j1X(h:autD b=some a):vAut a=true/\autS a=b:=by
 unfold autD allP at h;cases d:autP b with
 |error e=>rw [d] at h;cases h
 |ok y=>
  obtain ⟨o,m⟩:=y;rw [d] at h;simp only at h;by_cases f:m<b.length
  . rw [if_pos f] at h;cases h
  rw [if_neg f] at h;simp only at h;by_cases c:vAut o=true
  . rw [if_pos c] at h;cases h;refine ⟨c,?_⟩;unfold autP at d
    have s:=q8D (t:=appB 2) (e:=λa=>elemS 48 [autE a]) (λr v k h=>by
     have:=q8D (t:=48) (e:=autE) (λr v k h=>j0k h) r v k h
     exact ⟨this.1,this.2.1⟩) _ _ _ d
    obtain ⟨j,g2,_⟩:=s;obtain ⟨q,_,hs,_⟩:=z5i c;rw [Aa (by omega)] at j;have hl48:(tlv 48 (sufS (autL a) 0 8)).length<=1048590:=by rw [q0J];have:=q2b (sufS (autL a) 0 8).length;omega
    rw [j,q];show _=elemS (appB 2) [elemS 48 [autE a]];rw [z8N c,q0A (t:=48) (by omega),q0A (by omega)]
  rw [if_neg c] at h;cases h
def autG(b:List UInt8):Aut:=(prnR (itmR (conR b) 1),conR (itmR (conR b) 2),((gIntR (itmR (conR b) 4):Nat):Int),((gIntR (itmR (conR b) 3):Nat):Int),keyR (itmR (conR b) 5),((gIntR (itmR (conR b) 6):Nat):Int),preG (itmR (conR b) 7))
theorem z8z(h:vAut a=true):autG (autS a)=a:=by
 obtain ⟨B,o,N,_⟩:=z5i h;have j:(tlv 48 (sufS (autL a) 0 8)).length<=16777215:=by rw [q0J];have:=q2b (sufS (autL a) 0 8).length;omega
 have f:(sufS (autL a) 0 8).length<=16777215:=by omega
 unfold autG;rw [B,conR_tlv' _ _ j];rw [q2c (m:=1) (k:=8) o (by omega) (by omega) f,q2c (m:=2) (k:=8) o (by omega) (by omega) f,q2c (m:=3) (k:=8) o (by omega) (by omega) f,q2c (m:=4) (k:=8) o (by omega) (by omega) f,q2c (m:=5) (k:=8) o (by omega) (by omega) f,q2c (m:=6) (k:=8) o (by omega) (by omega) f,q2c (m:=7) (k:=8) o (by omega) (by omega) f];clear B o N f j;obtain ⟨c,s,t,m,k,q,d⟩:=a;simp only [vAut,Ai,decide_eq_true_eq] at h;obtain ⟨w,D,L,H,u,O,I⟩:=h;change Int at t m q;have f3:(0:Int)<=t/\t<=1099511627776:=by simpa only [vTime,mIn,Ai,decide_eq_true_eq] using L
 have A:(0:Int)<=m/\m<=999999:=by simpa only [mIn,Ai,decide_eq_true_eq] using H
 have z:(0:Int)<=q/\q<=4294967295:=by simpa only [mIn,Ai,decide_eq_true_eq] using O
 obtain ⟨P,rfl⟩:∃n:Nat,t=n:=⟨t.toNat,by omega⟩
 have h2':((s.length:Nat):Int)<=64:=D;have J:prnR (prinS c)=c:=by have:=(j3P w).1;unfold prinE at this;rwa [if_pos w] at this
 have E:conR (octO s)=s:=by
  unfold octO;split
  . rename_i v;rw [j1T];exact (AH.1 v).symm
  rw [q0A (by omega),conR_tlv' _ _ (by omega)]
 have C:keyR (keyO k)=k:=by
  unfold keyO;simp only [vSub,BF,Ai,decide_eq_true_eq] at u;rcases u with rfl|u
  . decide
  have F:=q5L u.1;have v:k.1≠0:=λe=>by have:=u.1;obtain ⟨k1,k2,k3⟩:=k;simp only at e;subst e;simp [vKey,keyLen] at this
  rw [if_neg v];exact (j2a F).1
 show (prnR (prinS c),conR (octO s),((gIntR (timeS (P:Int)):Nat):Int),((gIntR (intS m):Nat):Int),keyR (keyO k),((gIntR (intS q):Nat):Int),preG (preO d))=_;have G:(0:Int)<=m/\m<36028797018963968:=⟨A.1,Int.lt_of_le_of_lt A.2 (by decide)⟩
 have K:(0:Int)<=q/\q<36028797018963968:=⟨z.1,Int.lt_of_le_of_lt z.2 (by decide)⟩
 rw [J,E,j2F (by omega),q8P G,C,q8P K,j4j (q9Q I).1]
def decAR(b:List UInt8):Option Aut:=if vAut (autG b)=true/\autS (autG b)=b then some (autG b) else none
theorem z6f(b:List UInt8):decAR b=autD b:=by
 unfold decAR;split
 . rename_i h;have:=j8I h.1;rw [h.2] at this;exact this.symm
 rename_i h;cases f:autD b with
 |none=>rfl
 |some a=>
  obtain ⟨c,d⟩:=j1X f;have e:autG b=a:=by rw [<-d];exact z8z c
  rw [e] at h;exact absurd ⟨c,d⟩ h
def j3j(v lo hi:Int):PC Tryz.prog 96 [rI v,rI lo,rI hi] (rB (mIn lo hi v)):=j2h v lo hi
theorem j6c(k:Key):PC Tryz.prog 121 [.agg (KeyT.cells k)] (rB (vKey k&& decide (k.2.1=0))):=by
 have h:=k1b k;generalize vKey k=v at*;obtain ⟨p,x,c⟩:=k;refine q0s rfl rfl ?_;refine rQ fi121 ?_<;>try with_reducible exact True.intro
 repeat' (first
  | (refine q0a (h) ?_;refine uQ 600 _ ?_;simp (maxSteps:=3000000) only [go_sem,↓zA,↓reduceIte,↓reduceDIte] <;>try simp only [zB])
  | (refine q0d (h) ?_;refine uQ 600 _ ?_;simp (maxSteps:=3000000) only [go_sem,↓zA,↓reduceIte,↓reduceDIte] <;>try simp only [zB])
  | (refine q0i (h) ?_;refine uQ 600 _ ?_;simp (maxSteps:=3000000) only [go_sem,↓zA,↓reduceIte,↓reduceDIte] <;>try simp only [zB])
  | (with_reducible refine And.intro ?_ ?_)
  | (with_reducible intro _))
 all_goals ((simp_all;try grind))
theorem j2x(l:List Pre)(v:(Ty.slice PreT).ok l):PC Tryz.prog 51 [.isl PreT l] (rB (vDat l)):=by
 have hl:=v.1;refine q0s rfl rfl ?_;refine rQ fi51 ?_;refine q1p (λi=>[(3,.raw (.int .i64 ((i:Nat):Int)))]) (l.length) (λj=>(datAt l) j=true) (by first|decide|simp) (λi=>rfl) ?_ λi hi d=> ?_
 . (with_reducible refine sxE ?_<;>try exact True.intro)
   all_goals (try rfl)
 have u:=wsx i (by omega);refine gQ ?_;have f:i< (l.length)->(datAt l) i=false->allN (l.length) (datAt l)=false:=λc m=>q0u c m;have fin:¬i< (l.length)->allN (l.length) (datAt l)=true:=λh=>q0v λj hj=>d j (by omega);try dsimp only at f fin d
 have o:datAt l i=(mIn 0 2147483647 (l.getD i PreT.dflt).1&& decide (((l.getD i PreT.dflt).2.length:Int)<=4096)):=rfl;have m:i<l.length->datAt l i=false->false=vDat l:=λc h=>by unfold vDat;rw [f c h];rfl
 refine ⟨λc=>⟨⟨by omega,c⟩,q0a (j3j _ _ _) ?_⟩,λq=> ?_⟩
 . refine gQ ?_;refine ⟨λs=>⟨⟨by omega,c⟩,λw=> ?_,λw=> ?_⟩,λs=> ?_⟩
   . exact m c (by rw [o,decide_eq_false (by omega),CJ])
   . refine ⟨c,q1o d (by rw [o,s,decide_eq_true (by omega)];rfl),⟨[],rfl⟩,?_⟩;with_reducible refine sx1 u ?_;trivial
   exact m c (by rw [o,s];rfl)
 unfold vDat;rw [fin q];rfl
theorem j7J(k:Key):PC Tryz.prog 50 [.agg (KeyT.cells k)] (rB (vSub k)):=by
 have h:=j6c k;unfold vSub nKey;generalize (vKey k&& decide (k.2.1=0))=v at*;obtain ⟨p,x,c⟩:=k;refine q0s rfl rfl ?_;refine rQ fi50 ?_<;>try with_reducible exact True.intro
 repeat' (first
  | (refine q0a (h) ?_;refine uQ 600 _ ?_;simp (maxSteps:=3000000) only [go_sem,↓zA,↓reduceIte,↓reduceDIte] <;>try simp only [zB])
  | (refine q0d (h) ?_;refine uQ 600 _ ?_;simp (maxSteps:=3000000) only [go_sem,↓zA,↓reduceIte,↓reduceDIte] <;>try simp only [zB])
  | (refine q0i (h) ?_;refine uQ 600 _ ?_;simp (maxSteps:=3000000) only [go_sem,↓zA,↓reduceIte,↓reduceDIte] <;>try simp only [zB])
  | (with_reducible refine And.intro ?_ ?_)
  | (with_reducible intro _))
 all_goals ((simp_all;try grind))
theorem k0x(t m q:Int):PC Tryz.prog 49 [rI t,rI m,rI q] (rB (vTime t&& (mIn 0 999999 m&& mIn 0 4294967295 q))):=by
 refine q0s rfl rfl ?_;refine rQ fi49 ?_<;>try with_reducible exact True.intro
 repeat' (first
  | (refine q0a (j3j _ _ _) ?_;refine uQ 600 _ ?_;simp (maxSteps:=3000000) only [go_sem,↓zA,↓reduceIte,↓reduceDIte] <;>try simp only [zB])
  | (refine q0d (j3j _ _ _) ?_;refine uQ 600 _ ?_;simp (maxSteps:=3000000) only [go_sem,↓zA,↓reduceIte,↓reduceDIte] <;>try simp only [zB])
  | (refine q0i (j3j _ _ _) ?_;refine uQ 600 _ ?_;simp (maxSteps:=3000000) only [go_sem,↓zA,↓reduceIte,↓reduceDIte] <;>try simp only [zB])
  | (with_reducible refine And.intro ?_ ?_)
  | (with_reducible intro _))
 all_goals ((simp_all [vTime];try grind))
theorem q9t(a:Aut)(h:AutT.ok a):PC Tryz.prog 12 [.agg (AutT.cells a)] (rB (vAut a)):=by
 have c1:=k1o a.1 h.1;have c2:=k0x a.2.2.1 a.2.2.2.1 a.2.2.2.2.2.1;have c3:=j7J a.2.2.2.2.1;have f:=j2x a.2.2.2.2.2.2 h.2.2.2.2.2.2;unfold vAut;obtain ⟨c,s,t,m,k,q,d⟩:=a;dsimp only at*;refine q0s rfl rfl ?_;refine rQ fi12 ?_<;>try with_reducible exact True.intro
 repeat' (first
  | (refine q0a (c1) ?_;refine uQ 600 _ ?_;simp (maxSteps:=3000000) only [go_sem,↓zA,↓reduceIte,↓reduceDIte] <;>try simp only [zB])
  | (refine q0d (c1) ?_;refine uQ 600 _ ?_;simp (maxSteps:=3000000) only [go_sem,↓zA,↓reduceIte,↓reduceDIte] <;>try simp only [zB])
  | (refine q0i (c1) ?_;refine uQ 600 _ ?_;simp (maxSteps:=3000000) only [go_sem,↓zA,↓reduceIte,↓reduceDIte] <;>try simp only [zB])
  | (refine q0a (c2) ?_;refine uQ 600 _ ?_;simp (maxSteps:=3000000) only [go_sem,↓zA,↓reduceIte,↓reduceDIte] <;>try simp only [zB])
  | (refine q0d (c2) ?_;refine uQ 600 _ ?_;simp (maxSteps:=3000000) only [go_sem,↓zA,↓reduceIte,↓reduceDIte] <;>try simp only [zB])
  | (refine q0i (c2) ?_;refine uQ 600 _ ?_;simp (maxSteps:=3000000) only [go_sem,↓zA,↓reduceIte,↓reduceDIte] <;>try simp only [zB])
  | (refine q0a (c3) ?_;refine uQ 600 _ ?_;simp (maxSteps:=3000000) only [go_sem,↓zA,↓reduceIte,↓reduceDIte] <;>try simp only [zB])
  | (refine q0d (c3) ?_;refine uQ 600 _ ?_;simp (maxSteps:=3000000) only [go_sem,↓zA,↓reduceIte,↓reduceDIte] <;>try simp only [zB])
  | (refine q0i (c3) ?_;refine uQ 600 _ ?_;simp (maxSteps:=3000000) only [go_sem,↓zA,↓reduceIte,↓reduceDIte] <;>try simp only [zB])
  | (refine q0a (f) ?_;refine uQ 600 _ ?_;simp (maxSteps:=3000000) only [go_sem,↓zA,↓reduceIte,↓reduceDIte] <;>try simp only [zB])
  | (refine q0d (f) ?_;refine uQ 600 _ ?_;simp (maxSteps:=3000000) only [go_sem,↓zA,↓reduceIte,↓reduceDIte] <;>try simp only [zB])
  | (refine q0i (f) ?_;refine uQ 600 _ ?_;simp (maxSteps:=3000000) only [go_sem,↓zA,↓reduceIte,↓reduceDIte] <;>try simp only [zB])
  | (with_reducible refine And.intro ?_ ?_)
  | (with_reducible intro _))
 all_goals ((simp_all;try grind))
def dat17(l:List Pre)(j:Nat):Bool:=decide ((l.length:Int)<=20) && decide (((l.getD j PreT.dflt).2.length:Int)<=300)
def smaB(a:Aut):Bool:=allN a.2.2.2.2.2.2.length (dat17 a.2.2.2.2.2.2) && (shortB a.1&& (decide ((a.2.1.length:Int)<=300) && decide ((a.2.2.2.2.1.2.2.length:Int)<=300)))
theorem j1M(a:Aut)(A:AutT.ok a):PC Tryz.prog 8 [.agg (AutT.cells a)] (rB (smaB a)):=by
 have c1:=j3p a.1 A.1;have hl:a.2.2.2.2.2.2.length<=1125899906842624:=A.2.2.2.2.2.2.1;unfold smaB;generalize shortB a.1=sb at*;obtain ⟨n,s,t,m,k,q,l⟩:=a;obtain ⟨k1,k2,k3⟩:=k;dsimp only at*;refine q0s rfl rfl ?_;refine rQ fi8 ?_;refine q1p (λi=>[(3,.raw (.int .i64 ((i:Nat):Int)))]) (l.length) (λj=>(dat17 l) j=true) (by first|decide|simp) (λi=>rfl) ?_ λi hi d=> ?_
 . (with_reducible refine sxE ?_<;>try exact True.intro)
   all_goals (try rfl)
 have z:=wsx i (by omega);refine gQ ?_;have f:i< (l.length)->(dat17 l) i=false->allN (l.length) (dat17 l)=false:=λc B=>q0u c B;have fin:¬i< (l.length)->allN (l.length) (dat17 l)=true:=λh=>q0v λj hj=>d j (by omega);try dsimp only at f fin d
 have o:dat17 l i=(decide ((l.length:Int)<=20) && decide (((l.getD i PreT.dflt).2.length:Int)<=300)):=rfl;refine ⟨λc=>⟨λw=>⟨⟨by omega,c⟩,λv=> ?_,λv=> ?_⟩,λw=> ?_⟩,λu=> ?_⟩
 . rw [f c (by rw [o,decide_eq_false (CY.2 v),CJ]),CK]
 . refine ⟨c,q1o d (by rw [o,decide_eq_true (CQ.1 w),decide_eq_true (CQ.1 v)];rfl),⟨[],rfl⟩,?_⟩;with_reducible refine sx1 z ?_;trivial
 . rw [f c (by rw [o,decide_eq_false (CY.2 w),CK]),CK]
 rw [fin u,BL];refine cQ c1 ?_<;>try with_reducible exact True.intro
 repeat' (first
  | (with_reducible refine And.intro ?_ ?_)
  | (with_reducible intro _))
 all_goals ((simp_all;try omega))
set_option maxHeartbeats 40000000
def shA(a:Aut):Prop:=shP a.1/\a.2.1.length<=65536/\inI a.2.2.2.1/\shK a.2.2.2.2.1/\inI a.2.2.2.2.2.1/\shD a.2.2.2.2.2.2
def autF(a:Aut):List (List UInt8):=[wrapS 160 0 (intR 5),wrapS 160 1 (prinS a.1),wrapS 160 2 (if (a.2.1.length:Int)=0 then [] else elemS 4 [a.2.1]),wrapS 160 3 (intR a.2.2.2.1),wrapS 160 4 (timR a.2.2.1),wrapS 160 5 (if a.2.2.2.2.1.1=0 then [] else keyA a.2.2.2.2.1),wrapS 160 6 (intR a.2.2.2.2.2.1),wrapS 160 7 (if (a.2.2.2.2.2.2.length:Int)=0 then [] else dataR a.2.2.2.2.2.2)]
def autR(a:Aut):List UInt8:=elemS (byteOf (96+2)) [elemS 48 (autF a)]
def j8p(h:shA a):(autF a).flatten.length<=800000:=by
 obtain ⟨d,h2,h3,c,h5,f⟩:=h;have a1:=z6l d;have j:=q0n 4 [a.2.1];simp only [Ak,Aq,Ac] at j;have a3:=q1S a.2.2.2.1;have a4:=z5H a.2.2.1;have a5:=z5E c;have a6:=q1S a.2.2.2.2.2.1;have a7:=z2N f;have a0:=q1S 5;have c2:(if (a.2.1.length:Int)=0 then [] else elemS 4 [a.2.1]).length<=65550:=by split<;>first| (simp;done) |omega
 have c5:(if a.2.2.2.2.1.1=0 then [] else keyA a.2.2.2.2.1).length<=65700:=by split<;>first| (simp;done) |omega
 have c7:(if (a.2.2.2.2.2.2.length:Int)=0 then [] else dataR a.2.2.2.2.2.2).length<=525740:=by split<;>first| (simp;done) |omega
 have w0:=q0o 160 0 (intR 5);have w1:=q0o 160 1 (prinS a.1);have w2:=q0o 160 2 (if (a.2.1.length:Int)=0 then [] else elemS 4 [a.2.1]);have w3:=q0o 160 3 (intR a.2.2.2.1);have w4:=q0o 160 4 (timR a.2.2.1);have w5:=q0o 160 5 (if a.2.2.2.2.1.1=0 then [] else keyA a.2.2.2.2.1);have w6:=q0o 160 6 (intR a.2.2.2.2.2.1);have w7:=q0o 160 7 (if (a.2.2.2.2.2.2.length:Int)=0 then [] else dataR a.2.2.2.2.2.2);unfold autF;simp only [Ak,Aq,Ac,Ab];omega
theorem z5T(a:Aut)(h:shA a):PC Tryz.prog 14 [.agg (AutT.cells a)] (.isl .u8 (autR a)):=by
 have I:=j8p h;have f:=q0n 48 (autF a);obtain ⟨z,h2,K,v,G,B⟩:=h;have a1:=z6l z;have N:=q0n 4 [a.2.1];simp only [Ak,Aq,Ac] at N;have a3:=q1S a.2.2.2.1;have a4:=z5H a.2.2.1;have a5:=z5E v;have a6:=q1S a.2.2.2.2.2.1;have a7:=z2N B;have a0:=q1S 5;have c2:(if (a.2.1.length:Int)=0 then [] else elemS 4 [a.2.1]).length<=65550:=by split<;>first| (simp;done) |omega
 have c5:(if a.2.2.2.2.1.1=0 then [] else keyA a.2.2.2.2.1).length<=65700:=by split<;>first| (simp;done) |omega
 have c7:(if (a.2.2.2.2.2.2.length:Int)=0 then [] else dataR a.2.2.2.2.2.2).length<=525740:=by split<;>first| (simp;done) |omega
 have C:=j6S _ z;have L:=j0V a.2.1 (by omega);have F:=q9N _ K;have O:=j6M a.2.2.1;have H:=k0g _ v;have J:=q9N _ G;have D:=j6F _ B;have k0:=q9N 5 (by decide);have j:autR a=elemS (byteOf (96+2)) [elemS 48 (autF a)]:=rfl;unfold autF at j I f;generalize autR a=R at*;obtain ⟨c,s,t,m,k,q,d⟩:=a;obtain ⟨u,P,E⟩:=k;dsimp only at*;have w:=q9e (decide ((s.length:Int)=0)) (elemS 4 [s]);have A:=q9e (decide (u=0)) (keyA (u,P,E));have o:=q9e (decide ((d.length:Int)=0)) (dataR d);simp only [decide_eq_true_eq] at w A o;refine q0g rfl rfl ?_;refine rQ fi14 ?_;refine cR k0 ?_;refine cR (q2P 0 (by decide) _ (by omega)) ?_;refine cR C ?_;refine cR (q2P 1 (by decide) _ (by omega)) ?_;refine cR L ?_;refine cR w ?_;refine cR (q2P 2 (by decide) _ (by omega)) ?_;refine cR F ?_;refine cR (q2P 3 (by decide) _ (by omega)) ?_;refine cR O ?_;refine cR (q2P 4 (by decide) _ (by omega)) ?_;refine cR H ?_;refine cR A ?_;refine cR (q2P 5 (by decide) _ (by omega)) ?_;refine cR J ?_;refine cR (q2P 6 (by decide) _ (by omega)) ?_;refine cR D ?_;refine cR o ?_;refine cR (q2P 7 (by decide) _ (by omega)) ?_;refine q0Y 1 (by decide) ?_;with_reducible refine sxE ?_
 refine cR (q9I _ (by simp) (by omega)) ?_;refine cR (k0w 2 (by decide) _ (by omega)) ?_;exact j.symm
theorem z8e(h:vAut a=true):autR a=autS a:=by
 obtain ⟨c,s,t,m,k,q,d⟩:=a;have o:=h;simp only [vAut,Ai,decide_eq_true_eq] at h;obtain ⟨_,_,F,D,j,G,v⟩:=h;change Int at t m q;have H:(0:Int)<=t/\t<=1099511627776:=by simpa only [vTime,mIn,Ai,decide_eq_true_eq] using F
 have A:(0:Int)<=m/\m<=999999:=by simpa only [mIn,Ai,decide_eq_true_eq] using D
 have z:(0:Int)<=q/\q<=4294967295:=by simpa only [mIn,Ai,decide_eq_true_eq] using G
 have B:(if k.1=0 then [] else keyA k)=(if k.1=0 then [] else rawK k):=by
  by_cases f:k.1=0
  . rw [if_pos f,if_pos f]
  rw [if_neg f,if_neg f];simp only [vSub,BF,Ai,decide_eq_true_eq] at j;rcases j with rfl|j
  . exact absurd rfl f
  obtain ⟨w,u,_⟩:=q5L j.1;unfold keyA rawK;rw [q5c ⟨w.1,by have:=w.2;omega⟩,q5c ⟨u.1,by have:=u.2;omega⟩];exact z0H (by simp)
 have C:(if (d.length:Int)=0 then [] else dataR d)=(if d.length=0 then [] else rawD d):=by
  by_cases f:d.length=0
  . rw [if_pos (by omega),if_pos f]
  rw [if_neg (by omega),if_neg f,j3m (q9Q v).1];exact (z4L (q9Q v).1).symm
 obtain ⟨I,_,hs,_⟩:=z5i o;have hl48:(tlv 48 (sufS (autL (c,s,t,m,k,q,d)) 0 8)).length<=1048590:=by rw [q0J];have:=q2b (sufS (autL (c,s,t,m,k,q,d)) 0 8).length;omega
 have E:elemS 48 (autF (c,s,t,m,k,q,d))=tlv 48 (sufS (autL (c,s,t,m,k,q,d)) 0 8):=by rw [<-q0A (t:=48) (by omega),<-z8N o];refine z0H ?_;unfold autF autE octO;dsimp only;rw [B,C,q5c (by decide),q5c ⟨A.1,A5 A.2 (by decide)⟩,q5c ⟨z.1,A5 z.2 (by decide)⟩,j7z H];simp
 unfold autR;rw [E,q0A (by omega),I];rfl
def j5d(h:vAut a=true):shA a:=by
 obtain ⟨c,s,t,m,k,q,d⟩:=a;simp only [vAut,Ai,decide_eq_true_eq] at h;obtain ⟨C,A,h3,B,f,w,D⟩:=h;change Int at m q;have u:(0:Int)<=m/\m<=999999:=by simpa only [mIn,Ai,decide_eq_true_eq] using B
 have v:(0:Int)<=q/\q<=4294967295:=by simpa only [mIn,Ai,decide_eq_true_eq] using w
 have h2':((s.length:Nat):Int)<=64:=A;refine ⟨k0c C,by show s.length<=_;omega,⟨A5 (by decide) u.1,A5 u.2 (by decide)⟩,?_,⟨A5 (by decide) v.1,A5 v.2 (by decide)⟩,j9h (q9Q D).1⟩;simp only [vSub,BF,Ai,decide_eq_true_eq] at f;rcases f with rfl|f
 . have z:inI (0:Int):=by unfold inI;decide
   exact ⟨z,z,Aj _⟩
 obtain ⟨k1,k2,k3⟩:=k;obtain ⟨o,j,E⟩:=q5L f.1;exact ⟨⟨A5 (by decide) o.1,A5 o.2 (by decide)⟩,⟨A5 (by decide) j.1,A5 j.2 (by decide)⟩,E⟩
def z7V(h:b.length<=1048576):AutT.ok (autG b):=by have c:(conR b).length<=1048576:=Ao (q1H b) h;exact ⟨j6i (q7a 1 c),z4o (q7a 2 c),trivial,trivial,j7q (q7a 5 c),trivial,j8g (q7a 7 c)⟩
theorem j0P(b:List UInt8)(z:b.length<=1048576):PC Tryz.prog 16 [.isl .u8 b] (autDS (autD b)):=by
 have j:autD b=if vAut (autG b)=true/\autS (autG b)=b then some (autG b) else none:=(z6f b).symm;generalize autD b=R at*;have u:=z7V z;have L:autG b=(prnR (itmR (conR b) 1),conR (itmR (conR b) 2),((gIntR (itmR (conR b) 4):Nat):Int),((gIntR (itmR (conR b) 3):Nat):Int),keyR (itmR (conR b) 5),((gIntR (itmR (conR b) 6):Nat):Int),preG (itmR (conR b) 7)):=rfl;have f:=q9t (autG b) u;have V:vAut (autG b)=true->PC Tryz.prog 14 [.agg (AutT.cells (autG b))] (.isl .u8 (autS (autG b))):=λh=>by have:=z5T (autG b) (j5d h);rwa [z8e h] at this
 have Z:=q1G b (by omega);have hcl:(conR b).length<=1048576:=Ao (q1H b) z;generalize hs:conR b=s at*;have U:=q3i s 1 (by omega) (by omega);have H:=q3i s 2 (by omega) (by omega);have N:=q3i s 3 (by omega) (by omega);have O:=q3i s 4 (by omega) (by omega);have I:=q3i s 5 (by omega) (by omega);have Q:=q3i s 6 (by omega) (by omega);have J:=q3i s 7 (by omega) (by omega);have q1:=q1m s 1;have q2:=q1m s 2;have q3:=q1m s 3;have q4:=q1m s 4;have q5:=q1m s 5;have q6:=q1m s 6;have q7:=q1m s 7;have c1:=z6N (itmR s 1) (by omega);have c2:=q6n (itmR s 2) (by omega);have c3:=q4M (itmR s 3) (by omega);have Y:=q4M (itmR s 4) (by omega);have P:=z8G (itmR s 5) (by omega);have W:=q4M (itmR s 6) (by omega);have K:=z7l (itmR s 7) (by omega);generalize autG b=X at*;generalize gIntR (itmR s 3)=w at*;generalize gIntR (itmR s 4)=v at*;generalize gIntR (itmR s 6)=E at*;generalize prnR (itmR s 1)=F at*;generalize conR (itmR s 2)=D at*;generalize keyR (itmR s 5)=S at*;generalize preG (itmR s 7)=B at*;obtain ⟨A,G,C⟩:=S;refine q0g rfl (q8a _) ?_;refine rQ fi16 ?_;refine cQ Z ?_;refine cQ U ?_;refine cQ c1 ?_;refine cQ H ?_;refine cQ c2 ?_;refine cQ N ?_;refine cQ c3 ?_;refine cQ O ?_;refine cQ Y ?_;refine cQ I ?_;refine cQ P ?_;refine cQ Q ?_;refine cQ W ?_;refine cQ J ?_;refine cQ K ?_;subst L;cases c:vAut (F,D,((v:Nat):Int),((w:Nat):Int),(A,G,C),((E:Nat):Int),B) with
 |false=>
  have d:R=none:=by rw [j,c];simp
  rw [c] at f;subst d;refine cR f ?_;rw [q1b];unfold zAut;with_reducible refine sxE ?_;trivial
 |true=>
  rw [c] at f;refine cR f ?_;refine cR (V c) ?_;refine ⟨λm=> ?_,λo=> ?_⟩
  . have d:R=none:=by rw [j,if_neg (λq=>m (q3B.2 q.2))]
    subst d;rw [q1b];unfold zAut;with_reducible refine sxE ?_;trivial
  have d:R=some (F,D,((v:Nat):Int),((w:Nat):Int),(A,G,C),((E:Nat):Int),B):=by rw [j,if_pos ⟨c,q3B.1 o⟩]
  subst d;rw [z6v];with_reducible refine sxE ?_;trivial
def j1l(b:List UInt8)(f:b.length<=1048576):∃ (z:Aut) (e:Int),autDS (autD b)= .tup [.agg (AutT.cells z),rI e]/\AutT.ok z:=by
 cases d:autD b with
 |none=>exact ⟨((([]:List ByteArray),(⟨#[]⟩:ByteArray)),([]:List UInt8),(0:Int),(0:Int),nKey,(0:Int),([]:List Pre)),6,rfl,⟨⟨⟨by decide,λ_ h=>by cases h⟩,show (0:Nat)<=_ by decide⟩,⟨by decide,λ_ h=>by cases h⟩,trivial,trivial,⟨trivial,trivial,⟨by decide,λ_ h=>by cases h⟩⟩,trivial,⟨by decide,λ_ h=>by cases h⟩⟩⟩
 |some a=>
  refine ⟨a,0,rfl,?_⟩;have c:=z6f b;rw [d] at c;unfold decAR at c;split at c
  . cases c;exact z7V f
  cases c
theorem z1s(a:Aut)(o:AutT.ok a)(b:List UInt8):PC Tryz.prog 3 [.agg (AutT.cells a),.isl .u8 b] (rB true):=by
 have c1:=j1M a o;generalize smaB a=G at*;have cE:=q8E a o;have A:=q7p a o;have c:=q9t a o;have f:vAut a=true->PC Tryz.prog 14 [.agg (AutT.cells a)] (.isl .u8 (autS a)):=λh=>by have:=z5T a (j5d h);rwa [z8e h] at this
 have hF:(500:Int) <1000:=by decide
 generalize autS a=eb at*;generalize vAut a=F at*;obtain ⟨n,s,t,m,E,q,d⟩:=a;obtain ⟨kk1,kk2,kk3⟩:=E;refine q0s rfl rfl ?_;refine rQ fi3 ?_;refine q0a c1 ?_;cases G
 . refine gQ ?_;refine cQ z3s ?_;trivial
 by_cases h4:1000<b.length
 . have j:((1000:Int) < ((b.length:Nat):Int))=True:=eq_true (by omega);refine gy1 j ?_;refine cQ z3s ?_;trivial
 have j:((1000:Int) < ((b.length:Nat):Int))=False:=eq_false (by omega);have D:=q7M b (by omega);have C:=j0P b (by omega);obtain ⟨z,e,B,v⟩:=j1l b (by omega);rw [B] at D C;have w:=z2v z z v;rw [decide_eq_true rfl] at w;clear B;obtain ⟨n',s',t',m',u,q',d'⟩:=z;obtain ⟨kk1',kk2',kk3'⟩:=u;cases F
 case' false=>rw [if_neg CE,if_neg CE] at cE;clear f;refine gy1 j ?_;refine cQ cE ?_;refine cR A ?_;refine cR c ?_;refine cQ c ?_;refine cQ (q4h _) ?_<;>try with_reducible exact True.intro
 case' true=>rw [if_pos rfl,if_pos rfl] at cE;have f:=f rfl;refine gy1 j ?_;refine cQ cE ?_;refine cR A ?_;refine cR c ?_;refine cQ c ?_;refine cR f ?_;refine cR (q4h _) ?_<;>try with_reducible exact True.intro
 all_goals
  refine cQ D ?_;refine cQ C ?_;refine cQ w ?_;refine cQ (q4h _) ?_;refine cQ z3s ?_;trivial
end Go.Proofs.YthbcodbcndiapaaGreatDoor