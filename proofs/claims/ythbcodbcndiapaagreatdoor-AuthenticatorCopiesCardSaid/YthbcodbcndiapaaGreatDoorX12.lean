/- AES: encryption in a form that the kernel computes. -/
import Derived.Test.YthbcodbcndiapaaGreatDoorX11
set_option linter.all false
namespace Go.Proofs.YthbcodbcndiapaaGreatDoor
open Go Go.Sx Go.Proofs
set_option maxRecDepth 100000
set_option maxHeartbeats 40000000
def frcL{α:Type}:List Nat->(List Nat->α)->α
 | [],f=>f []
 |x :: l,f=>forceN x λy=>frcL l λm=>f (y :: m)
theorem q3k{α:Type}:∀ (l:List Nat) (f:List Nat->α),frcL l f=f l
 | [],f=>rfl
 |x :: l,f=>by rw [frcL,q0S,q3k l]
def obN(l:List Nat):List UInt8:=l.map UInt8.ofNat
def tbN(l:List UInt8):List Nat:=l.map UInt8.toNat
def j0q(l:List UInt8):obN (tbN l)=l:=by unfold obN tbN;rw [BD];exact (BM λx _=>AN).trans (List.map_id _)
def q5z(a b:Nat):UInt8.ofNat (a^^^ b)=UInt8.ofNat a^^^ UInt8.ofNat b:=by apply BB.1;rw [CT,AZ,AZ,AZ,<-Nat.xor_mod_two_pow]
def sTabN:Nat:=(dat_ref06_substitutes:List UInt8).foldr (λc a=>c.toNat+256*a) 0
def sbN(tb n:Nat):Nat:=tb / 2^ (8* (n%256))%256
def x2N(n:Nat):Nat:=(2* (n%256)) ^^^ (n%256 / 128*283)
def j7b:forceN sTabN (λa=>(List.range 256).all λm=>(subS (UInt8.ofNat m)).toNat==sbN a m)=true:=by kernel_rfl
def z4m:((List.range 256).all λm=>(mulS 2 (UInt8.ofNat m)).toNat==x2N m%256&& ((mulS 3 (UInt8.ofNat m)).toNat==(x2N m^^^ m)%256&& ((mulS 1 (UInt8.ofNat m)).toNat==m&& (dblS (UInt8.ofNat m)).toNat==x2N m%256)))=true:=by kernel_rfl
def all256{p:Nat->Bool}(h:(List.range 256).all p=true)(m:Nat):p (m%256)=true:=by rw [Bj] at h;exact h _ (BN.2 (CO _ (by decide)))
def q2P(n:Nat):UInt8.ofNat (n%256)=UInt8.ofNat n:=by apply BB.1;rw [AZ,AZ,Nat.mod_mod]
def z1g{b:UInt8}{n:Nat}(h:b.toNat=n):b=UInt8.ofNat n:=by rw [<-h,AN]
def j8e(n:Nat):subS (UInt8.ofNat n)=UInt8.ofNat (sbN sTabN n):=by have h:=j7b;rw [q0S] at h;have a:=all256 h n;rw [beq_iff_eq,q2P] at a;refine (z1g a).trans ?_;unfold sbN;rw [Nat.mod_mod]
def z4U(n:Nat):x2N (n%256)=x2N n:=by unfold x2N;rw [Nat.mod_mod]
def z7V(n:Nat):mulS 2 (UInt8.ofNat n)=UInt8.ofNat (x2N n):=by have a:=all256 z4m n;simp only [Ak,beq_iff_eq,q2P,z4U] at a;rw [z1g a.1,q2P]
def j3S(n:Nat):mulS 3 (UInt8.ofNat n)=UInt8.ofNat (x2N n^^^ n):=by have a:=all256 z4m n;simp only [Ak,beq_iff_eq,q2P,z4U] at a;rw [z1g a.2.1,q2P,q5z,q2P,q5z]
def j3h(n:Nat):mulS 1 (UInt8.ofNat n)=UInt8.ofNat n:=by have a:=all256 z4m n;simp only [Ak,beq_iff_eq,q2P,z4U] at a;rw [z1g a.2.2.1,q2P]
def j6Q(n:Nat):dblS (UInt8.ofNat n)=UInt8.ofNat (x2N n):=by have a:=all256 z4m n;simp only [Ak,beq_iff_eq,q2P,z4U] at a;rw [z1g a.2.2.2,q2P]
theorem j5s(g:Nat->UInt8):fS g= [g 0,g 1,g 2,g 3,g 4,g 5,g 6,g 7,g 8,g 9,g 10,g 11,g 12,g 13,g 14,g 15]:=rfl
def xorL(a b:List Nat):List Nat:=List.zipWith (· ^^^ ·) a b
variable {l:List Nat}
theorem len16(h:l.length=16):∃a b c d e f g i j k m n o p q r,l= [a,b,c,d,e,f,g,i,j,k,m,n,o,p,q,r]:=by
 match l,h with
 | [a,b,c,d,e,f,g,i,j,k,m,n,o,p,q,r],_=>exact ⟨a,b,c,d,e,f,g,i,j,k,m,n,o,p,q,r,rfl⟩
theorem q9Q{a b:List Nat}(c:a.length=16)(d:b.length=16):(xorL a b).length=16:=by unfold xorL;rw [List.length_zipWith,c,d];rfl
def j3b{a b:List Nat}(d:a.length=16)(c:b.length=16):xorS (obN a) (obN b)=obN (xorL a b):=by obtain ⟨a0,a1,a2,a3,a4,a5,a6,a7,a8,a9,aa,ab,ac,ad,ae,af,rfl⟩:=len16 d;obtain ⟨b0,b1,b2,b3,b4,b5,b6,b7,b8,b9,ba,bb,bc,bd,be,bf,rfl⟩:=len16 c;unfold xorS;rw [j5s];simp only [obN,xorL,List.zipWith_cons_cons,List.zipWith_nil_left,Az,BS,q5z,Bm,Bg]
def shN(tb:Nat):List Nat->List Nat
 | [s0,s1,s2,s3,s4,s5,s6,s7,s8,s9,sa,sb,sc,sd,se,sf]=>[sbN tb s0,sbN tb s5,sbN tb sa,sbN tb sf,sbN tb s4,sbN tb s9,sbN tb se,sbN tb s3,sbN tb s8,sbN tb sd,sbN tb s2,sbN tb s7,sbN tb sc,sbN tb s1,sbN tb s6,sbN tb sb]
 |_=>[]
def colN(a b c d:Nat)(l:List Nat):List Nat:=(((x2N a^^^ (x2N b^^^ b)) ^^^ c) ^^^ d) :: (((a^^^ x2N b) ^^^ (x2N c^^^ c)) ^^^ d) :: (((a^^^ b) ^^^ x2N c) ^^^ (x2N d^^^ d)) :: ((((x2N a^^^ a) ^^^ b) ^^^ c) ^^^ x2N d) :: l
def mcN:List Nat->List Nat
 | [s0,s1,s2,s3,s4,s5,s6,s7,s8,s9,sa,sb,sc,sd,se,sf]=>colN s0 s1 s2 s3 (colN s4 s5 s6 s7 (colN s8 s9 sa sb (colN sc sd se sf [])))
 |_=>[]
theorem j4n(h:l.length=16)(a:Nat):(shN a l).length=16:=by obtain ⟨a0,a1,a2,a3,a4,a5,a6,a7,a8,a9,aa,ab,ac,ad,ae,af,rfl⟩:=len16 h;rfl
theorem j5K(h:l.length=16):(mcN l).length=16:=by obtain ⟨a0,a1,a2,a3,a4,a5,a6,a7,a8,a9,aa,ab,ac,ad,ae,af,rfl⟩:=len16 h;rfl
theorem j8F(h:l.length=16):shfS (obN l)=obN (shN sTabN l):=by obtain ⟨a0,a1,a2,a3,a4,a5,a6,a7,a8,a9,aa,ab,ac,ad,ae,af,rfl⟩:=len16 h;unfold shfS;rw [j5s];simp only [obN,shN,Az,BS,<-j8e];rfl
def j7O(b f:List UInt8)(c r:Nat):mixA b f c r 4=((mulS (f.getD ((0+4-r)%4) 0) (b.getD (4*c+0) 0) ^^^ mulS (f.getD ((1+4-r)%4) 0) (b.getD (4*c+1) 0)) ^^^ mulS (f.getD ((2+4-r)%4) 0) (b.getD (4*c+2) 0)) ^^^ mulS (f.getD ((3+4-r)%4) 0) (b.getD (4*c+3) 0):=by simp only [mixA,Bx]
def j8D(h:l.length=16):mixS (obN l) [2,3,1,1]=obN (mcN l):=by obtain ⟨a0,a1,a2,a3,a4,a5,a6,a7,a8,a9,aa,ab,ac,ad,ae,af,rfl⟩:=len16 h;unfold mixS;rw [j5s];simp only [j7O,obN,mcN,colN,Az,BS,q5z,<-z7V];simp only [Nat.reduceDiv,Nat.reduceMod,Nat.reduceAdd,Nat.reduceSub,Nat.reduceMul,Bm,Bg,j3h];simp only [j3S,q5z,<-z7V]
def nextK(tb p:Nat):List Nat->List Nat
 | [k0,k1,k2,k3,k4,k5,k6,k7,k8,k9,ka,kb,kc,kd,ke,kf]=>
  frcL [k0^^^ (sbN tb kd^^^ p),k1^^^ sbN tb ke,k2^^^ sbN tb kf,k3^^^ sbN tb kc] λw=>
  frcL (xorL [k4,k5,k6,k7] w) λx=>frcL (xorL [k8,k9,ka,kb] x) λy=>w++x++y++xorL [kc,kd,ke,kf] y
 |_=>[]
def rkyC{α:Type}(tb:Nat):Nat->Nat->List Nat->(List (List Nat)->α)->α
 |0,_,k,f=>f [k]
 |n+1,p,k,f=>frcL (nextK tb p k) λk'=>forceN (x2N p) λp'=>rkyC tb n p' k' λl=>f (k :: l)
def rkyN(tb:Nat):Nat->Nat->List Nat->List (List Nat)
 |0,_,k=>[k]
 |n+1,p,k=>k :: rkyN tb n (x2N p) (nextK tb p k)
theorem z2b{α:Type}(a:Nat):∀ (n p:Nat) (k:List Nat) (f:List (List Nat)->α),rkyC a n p k f=f (rkyN a n p k)
 |0,_,_,_=>rfl
 |n+1,p,k,f=>by rw [rkyC,q3k,q0S,z2b a n];rfl
def okK(key:List UInt8)(r:Nat)(l:List Nat):Prop:=l.length=16/\∀j,j<16->(wordsS key).getD (16*r+j) 0=UInt8.ofNat (l.getD j 0)
variable {key:List UInt8}
theorem j6l(x:key.length=16){r p:Nat}(hr:r<10)(h:okK key r l)(f:facS key (4*r+4)=UInt8.ofNat p):okK key (r+1) (nextK sTabN p l)/\facS key (4* (r+1)+4)=UInt8.ofNat (x2N p):=by
 obtain ⟨N,a⟩:=h;obtain ⟨k0,k1,k2,k3,k4,k5,k6,k7,k8,k9,ka,kb,U,w,o,B,rfl⟩:=len16 N;have e:∀ (i j:Nat),i<4->j<4->(wordsS key).getD (16* (r+1)+ (4*i+j)) 0=(wordsS key).getD (16*r+ (4*i+j)) 0^^^ (lastS (wordsS key) (facS key (4*r+4+i)) (4*r+4+i)).getD j 0:=λi j hi b=>by have:=q8h key x (i:=4*r+4+i) (j:=j) (by omega) (by omega) b;rw [show 4* (4*r+4+i)+j=16* (r+1)+ (4*i+j) by omega,show 4* (4*r+4+i-4)+j=16*r+ (4*i+j) by omega] at this;exact this
 have K:lastS (wordsS key) (facS key (4*r+4)) (4*r+4)= [UInt8.ofNat (sbN sTabN w) ^^^ UInt8.ofNat p,UInt8.ofNat (sbN sTabN o),UInt8.ofNat (sbN sTabN B),UInt8.ofNat (sbN sTabN U)]:=by unfold lastS;rw [if_pos (by omega),show 4* (4*r+4) -3=16*r+13 by omega,show 4* (4*r+4) -2=16*r+14 by omega,show 4* (4*r+4) -1=16*r+15 by omega,show 4* (4*r+4) -4=16*r+12 by omega,a 13 (by decide),a 14 (by decide),a 15 (by decide),a 12 (by decide),f];simp only [Bm,Bg,j8e]
 have d:∀i,1<=i->i<4->lastS (wordsS key) (facS key (4*r+4+i)) (4*r+4+i)= [(wordsS key).getD (16* (r+1)+ (4* (i-1)+0)) 0,(wordsS key).getD (16* (r+1)+ (4* (i-1)+1)) 0,(wordsS key).getD (16* (r+1)+ (4* (i-1)+2)) 0,(wordsS key).getD (16* (r+1)+ (4* (i-1)+3)) 0]:=λi h1 h2=>by unfold lastS;rw [if_neg (by omega),show 4* (4*r+4+i) -4=16* (r+1)+ (4* (i-1)+0) by omega,show 4* (4*r+4+i) -3=16* (r+1)+ (4* (i-1)+1) by omega,show 4* (4*r+4+i) -2=16* (r+1)+ (4* (i-1)+2) by omega,show 4* (4*r+4+i) -1=16* (r+1)+ (4* (i-1)+3) by omega]
 have c0:=λj b=>e 0 j (by decide) b;have c1:=λj b=>e 1 j (by decide) b;have c2:=λj b=>e 2 j (by decide) b;have c3:=λj b=>e 3 j (by decide) b;simp only [AG,K] at c0;rw [d 1 (by decide) (by decide)] at c1;rw [d 2 (by decide) (by decide)] at c2;rw [d 3 (by decide) (by decide)] at c3;simp only [Nat.reduceSub,Nat.reduceMul,Nat.reduceAdd,Ag,AG] at c0 c1 c2 c3;have J:facS key (4* (r+1)+4)=UInt8.ofNat (x2N p):=by rw [show 4* (r+1)+4=4*r+4+1+1+1+1 by omega,q3N key (by omega),if_neg (by omega),q3N key (by omega),if_neg (by omega),q3N key (by omega),if_neg (by omega),q3N key (by omega),if_pos (by omega),f,j6Q]
 refine ⟨⟨?_,?_⟩,J⟩
 . simp only [nextK,q3k,xorL];rfl
 have d0:=c0 0 (by decide);have d1:=c0 1 (by decide);have d2:=c0 2 (by decide);have d3:=c0 3 (by decide);have d4:=c1 0 (by decide);have d5:=c1 1 (by decide);have C:=c1 2 (by decide);have A:=c1 3 (by decide);have R:=c2 0 (by decide);have Y:=c2 1 (by decide);have y:=c2 2 (by decide);have W:=c2 3 (by decide);have s:=c3 0 (by decide);have S:=c3 1 (by decide);have V:=c3 2 (by decide);have k:=c3 3 (by decide);have z:=a 0 (by decide);have m:=a 1 (by decide);have O:=a 2 (by decide);have v:=a 3 (by decide);have Q:=a 4 (by decide);have n:=a 5 (by decide);have t:=a 6 (by decide);have I:=a 7 (by decide);have X:=a 8 (by decide);have G:=a 9 (by decide);have E:=a 10 (by decide);have u:=a 11 (by decide);have D:=a 12 (by decide);have H:=a 13 (by decide);have F:=a 14 (by decide);have L:=a 15 (by decide);simp only [AG,Ag,Nat.reduceAdd,Bm,Bg] at*;have c:∀j,j<16->j=0\/j=1\/j=2\/j=3\/j=4\/j=5\/j=6\/j=7\/j=8\/j=9\/j=10\/j=11\/j=12\/j=13\/j=14\/j=15:=by omega
 intro j b;rcases c j b with rfl|rfl|rfl|rfl|rfl|rfl|rfl|rfl|rfl|rfl|rfl|rfl|rfl|rfl|rfl|rfl;all_goals
  simp only [nextK,q3k,xorL,List.zipWith_cons_cons,List.zipWith_nil_left,Ay,Ar,Bm,Bg,q5z,AG,d0,d1,d2,d3,d4,d5,C,A,R,Y,y,W,s,S,V,k,z,m,O,v,Q,n,t,I,X,G,E,u,D,H,F,L]
theorem z8u(l:List Nat)(j:Nat):(obN l).getD j 0=UInt8.ofNat (l.getD j 0):=by unfold obN;rw [Ae,Ae,AF];cases l[j]?<;>rfl
def j2A{r:Nat}{k:List Nat}(a:okK key r k)(c:l.length=16):addS (obN l) (wordsS key) r=obN (xorL l k):=by rw [<-j3b c a.1];unfold addS xorS fS;apply BM;intro i b;rw [BN] at b;rw [a.2 i b,z8u k]
def j2F{key:List UInt8}(a:key.length=16):∀ (n r p:Nat) (k:List Nat),r+n<=10->okK key r k->facS key (4*r+4)=UInt8.ofNat p->(rkyN sTabN n p k).length=n+1/\∀i,i<=n->okK key (r+i) ((rkyN sTabN n p k).getD i [])
 |0,r,p,k,hr,ho,hf=>⟨rfl,λi f=>by
  have:i=0:=by omega
  subst this;exact ho⟩
 |n+1,r,p,k,hr,ho,hf=>by
  obtain ⟨d,b⟩:=j6l a (by omega) ho hf;obtain ⟨e,c⟩:=j2F a n (r+1) (x2N p) _ (by omega) d b;refine ⟨by rw [rkyN,AB,e],λi f=> ?_⟩;cases i with
  |zero=>exact ho
  |succ i=>have:=c i (by omega);rw [show r+1+i=r+ (i+1) by omega] at this;exact this
def rdN(tb:Nat):List (List Nat)->List Nat->List Nat
 | [],l=>l
 |k :: ks,l=>rdN tb ks (xorL (if ks.isEmpty then shN tb l else mcN (shN tb l)) k)
def rdC{α:Type}(tb:Nat):List (List Nat)->List Nat->(List Nat->α)->α
 | [],l,f=>f l
 |k :: ks,l,f=>frcL (shN tb l) λs=>frcL (if ks.isEmpty then s else mcN s) λm=>frcL (xorL m k) λl'=>rdC tb ks l' f
theorem j2C{α:Type}(b:Nat):∀ (a:List (List Nat)) (l:List Nat) (f:List Nat->α),rdC b a l f=f (rdN b a l)
 | [],_,_=>rfl
 |k :: a,l,f=>by rw [rdC,q3k,q3k,q3k,j2C b a];rfl
def j6M{key b:List UInt8}:∀ (a:List (List Nat)) (r:Nat) (l:List Nat),(∀i,i<a.length->okK key (r+1+i) (a.getD i []))->r+1+a.length=11->l.length=16->encA (wordsS key) b r=obN l->encS (wordsS key) b=obN (rdN sTabN a l)/\(rdN sTabN a l).length=16
 | [],r,l,_,hr,hl,he=>by
  have:r=10:=by simp at hr;omega
  subst this;exact ⟨he,hl⟩
 |k :: a,r,l,ho,hr,hl,he=>by
  have d:okK key (r+1) k:=ho 0 (by simp);have c:=j4n hl sTabN;have e:(if a.isEmpty then shN sTabN l else mcN (shN sTabN l)).length=16:=by
   split
   . exact c
   exact j5K c
  have f:encA (wordsS key) b (r+1)=obN (xorL (if a.isEmpty then shN sTabN l else mcN (shN sTabN l)) k):=by
   rw [encA,he,rndE,<-j2A d e,j8F hl,j8D c];congr 1;cases a with
   |nil=>rw [if_neg (by simp at hr;omega)];rfl
   |cons k' a=>rw [if_pos (by simp at hr;omega)];rfl
  refine j6M a (r+1) _ (λi hi=> ?_) (by simp at hr;omega) (q9Q e d.1) f;have:=ho (i+1) (by simp;omega);rw [show r+1+ (i+1)=r+1+1+i by omega] at this;exact this
def enN(tb:Nat)(ks:List (List Nat))(b:List Nat):List Nat:=match ks with
 | []=>b
 |k :: ks=>rdN tb ks (xorL b k)
variable {α:Type}
def enC(tb:Nat)(ks:List (List Nat))(b:List Nat)(f:List Nat->α):α:=match ks with
 | []=>f b
 |k :: ks=>frcL (xorL b k) λl=>rdC tb ks l f
theorem j7T(c:Nat)(a:List (List Nat))(b:List Nat)(f:List Nat->α):enC c a b f=f (enN c a b):=by
 cases a with
 |nil=>rfl
 |cons k a=>rw [enC,q3k,j2C];rfl
def okKs(key:List UInt8)(ks:List (List Nat)):Prop:=ks.length=11/\∀i,i<=10->okK key i (ks.getD i [])
theorem j8O{a:List (List Nat)}(h:okKs key a){b:List Nat}(f:b.length=16):encS (wordsS key) (obN b)=obN (enN sTabN a b)/\(enN sTabN a b).length=16:=by
 obtain ⟨d,c⟩:=h;match a,d,c with
 |k :: a,d,c=>
  have e:okK key 0 k:=c 0 (by omega);refine j6M a 0 _ (λi hi=> ?_) (by simp at d;omega) (q9Q f e.1) ?_
  . have:=c (i+1) (by simp at d;omega);rw [show i+1=0+1+i by omega] at this;rw [show 0+1+i=i+1 by omega] at*;exact this
  rw [encA,j2A e f]
def j5S(a:key.length=16):okKs key (rkyN sTabN 10 1 (tbN key)):=by
 have e:okK key 0 (tbN key):=by refine ⟨by unfold tbN;rw [A3,a],λj b=> ?_⟩;rw [show 16*0+j=j by omega,z1o key a b,<-z8u,j0q]
 obtain ⟨d,c⟩:=j2F a 10 0 1 _ (by omega) e (z7L key (by omega));exact ⟨d,λi f=>by have:=c i f;rw [Ag] at this;exact this⟩
def cbN(tb:Nat)(ks:List (List Nat))(iv p:List Nat):Nat->List Nat×List Nat
 |0=>(iv,[])
 |n+1=>(enN tb ks (xorL ((p.take (16*n+16)).drop (16*n)) (cbN tb ks iv p n).1),(cbN tb ks iv p n).2++enN tb ks (xorL ((p.take (16*n+16)).drop (16*n)) (cbN tb ks iv p n).1))
def cbC{α:Type}(tb:Nat)(ks:List (List Nat))(iv p:List Nat):Nat->(List Nat->List Nat->α)->α
 |0,f=>f iv []
 |n+1,f=>cbC tb ks iv p n λv out=>frcL (xorL ((p.take (16*n+16)).drop (16*n)) v) λx=>enC tb ks x λc=>f c (out++c)
theorem z7P{α:Type}(a:Nat)(b:List (List Nat))(iv p:List Nat):∀ (n:Nat) (f:List Nat->List Nat->α),cbC a b iv p n f=f (cbN a b iv p n).1 (cbN a b iv p n).2
 |0,_=>rfl
 |n+1,f=>by rw [cbC,z7P a b iv p n,q3k,j7T];rfl
def j6P{key:List UInt8}{a:List (List Nat)}(b:okKs key a){iv p:List Nat}(f:iv.length=16):∀n,16*n<=p.length->chA (wordsS key) (obN iv) (obN p) n=(obN (cbN sTabN a iv p n).1,obN (cbN sTabN a iv p n).2)/\(cbN sTabN a iv p n).1.length=16
 |0,_=>⟨rfl,f⟩
 |n+1,h=>by
  obtain ⟨m,c⟩:=j6P (p:=p) b f n (by omega);have d:((p.take (16*n+16)).drop (16*n)).length=16:=by rw [Ah,An];omega
  have e:((obN p).take (16*n+16)).drop (16*n)=obN ((p.take (16*n+16)).drop (16*n)):=by unfold obN;rw [List.map_drop,List.map_take]
  obtain ⟨k,j⟩:=j8O b (q9Q d c);refine ⟨?_,j⟩;rw [chA,m,e,j3b d c,k,cbN];simp only [obN,Bn]
def ctsC(key iv p:List UInt8)(f:List Nat->α):α:=forceN sTabN λtb=>rkyC tb 10 1 (tbN key) λks=>cbC tb ks (tbN iv) (tbN p) (p.length / 16) λ_ out=>f out
def j1n{iv p:List UInt8}(b:key.length=16)(a:iv.length=16):chainS key iv p=ctsC key iv p obN:=by unfold ctsC chainS;rw [q0S,z2b,z7P];have:=(j6P (j5S b) (iv:=tbN iv) (p:=tbN p) (by unfold tbN;rw [A3,a]) (p.length / 16) (by unfold tbN;rw [A3];omega)).1;rw [j0q,j0q] at this;rw [this]
def j8m{iv p c:List UInt8}(b:key.length=16)(d:iv.length=16)(a:c.length≠16)(h:ctsC key iv (zpL p (zpN p.length)) (λl=>l==tbN c)=true):ctsE key iv p=(exchS c).take p.length:=by
 have e:chainS key iv (zpL p (zpN p.length))=c:=by rw [j1n b d];unfold ctsC at h⊢;rw [q0S,z2b,z7P] at h⊢;rw [beq_iff_eq] at h;rw [h,j0q]
 unfold ctsE;rw [e];simp only;rw [if_neg a]
def hmF(k b:List UInt8):List UInt8:=shaF (hkS k 92++shaF (hkS k 54++b))
def z6Z(k b:List UInt8):hmS k b=hmF k b:=by unfold hmS hmF;rw [z9p,z9p]
theorem dk16{p v:Int}{b:List UInt8}(u a:Nat)(c:b.length=16):dkS (p,v,b) u a=(hmF b (four 1++(four u++ [UInt8.ofNat a])++ [0]++ []++four 128)).take 16:=by rw [<-z6Z];show kdfS b (four u++ [UInt8.ofNat a]) [] b.length=_;rw [c];show (kacc b (four u++ [UInt8.ofNat a]) [] 16 1).take 16=_;have h:kacc b (four u++ [UInt8.ofNat a]) [] 16 1=kblk b (four u++ [UInt8.ofNat a]) [] 16 1:=Ar _;rw [h];rfl
def k16:List UInt8:=List.replicate 16 1
def cf3:List UInt8:=List.replicate 16 3
def a17:Aut:=(([⟨#[97]⟩],⟨#[82]⟩),[],10,7,(0,0,[]),1,[])
def pln17:List UInt8:=[98,43,48,41,160,3,2,1,5,161,14,48,12,160,5,48,3,27,1,97,161,3,27,1,82,163,3,2,1,7,164,8,24,6,0,0,0,0,0,10,166,3,2,1,1]
def e11:List UInt8:=[64,35,45,162,19,223,77,27,164,20,92,171,251,171,201,40]
def m11:List UInt8:=[252,150,229,143,30,22,150,125,46,214,179,59,220,93,126,178]
def m7:List UInt8:=[163,88,142,153,58,251,89,39,170,41,2,52,88,169,189,68]
def ch17:List UInt8:=[169,231,95,161,140,145,223,185,98,82,68,151,127,216,54,163,81,91,126,12,35,152,243,230,99,86,113,38,153,97,12,255,169,166,11,221,12,170,13,130,75,69,82,57,97,48,66,23,205,217,13,81,12,102,69,189,230,17,214,184,251,34,214,24]
def ct17:List UInt8:=[169,231,95,161,140,145,223,185,98,82,68,151,127,216,54,163,81,91,126,12,35,152,243,230,99,86,113,38,153,97,12,255,205,217,13,81,12,102,69,189,230,17,214,184,251,34,214,24,169,166,11,221,12,170,13,130,75,69,82,57,97]
def tg11:List UInt8:=[144,202,138,216,107,183,139,144,159,96,191,248,127,199,193,157]
def tg7:List UInt8:=[185,105,209,48,55,251,165,186,123,19,51,32,233,167,129,41]
def q6F:autS a17=pln17:=by kernel_rfl
def va17:vAut a17=true:=by kernel_rfl
def rd17:autD pln17=some a17:=by kernel_rfl
theorem j8c:dkS (1,0,k16) 11 170=e11:=by rw [dk16 11 170 rfl];kernel_rfl
theorem j7G:dkS (1,0,k16) 11 85=m11:=by rw [dk16 11 85 rfl];kernel_rfl
theorem j8J:dkS (1,0,k16) 7 85=m7:=by rw [dk16 7 85 rfl];kernel_rfl
def j3q:(hmS m11 (z16++ct17)).take 16=tg11:=by rw [z6Z];kernel_rfl
def j6E:(hmS m7 (z16++ct17)).take 16=tg7:=by rw [z6Z];kernel_rfl
def j5w:ctsE e11 z16 (cf3++pln17)=ct17:=by rw [j8m (c:=ch17) rfl rfl (by decide) (by kernel_rfl)];kernel_rfl
theorem se17:seS (1,0,k16) 11 cf3 pln17=ct17++tg11:=by unfold seS ciS tg9S;rw [if_pos rfl,if_pos rfl,j8c,j7G,j5w,j3q]
theorem opx17:opS (1,0,k16) 7 1 0 (ct17++tg11)=([],10):=by
 have b:(ct17++tg11).take ((ct17++tg11).length-k16.length)=ct17:=by kernel_rfl
 have a:(ct17++tg11).drop ((ct17++tg11).length-k16.length)=tg11:=by kernel_rfl
 unfold opS;rw [if_pos (by kernel_rfl),if_pos (by decide)];dsimp only;rw [if_neg (by decide),if_neg (by decide),b,a];unfold tg9S;rw [if_pos rfl,j8J,j6E,if_neg (by decide)]
set_option maxHeartbeats 4000000
theorem q6c(n:Int):PC Tryz.prog 13 [rI n] (rI n):=by refine q0s rfl rfl ?_;refine rQ fi13 ?_;trivial
def z4V(c:UInt8)(m:Int)(e:m=c.toNat)(n:Nat)(hn:n<=1048576):PC Tryz.prog 30 [.raw (.int .u8 m),rI n] (.isl .u8 (List.replicate n c)):=by
 subst e;refine q0l rfl rfl ?_;refine rQ fi30 ?_;refine q5O 5 .u8 (λi=>List.replicate i c) (λi=>[(6,rI i)]) n (λ_=>True) rfl (by simp) (by simp) rfl (λi=>rfl) ?_ λi hi _=> ?_
 . with_reducible refine sxE ?_;trivial
 have d:=wsx i (by omega);have a:List.replicate (i+1) c=List.replicate i c++ [c]:=Co;refine uQ 600 _ ?_;simp (maxSteps:=3000000) only [BG,go_sem,↓zA,↓reduceIte,↓reduceDIte] <;>try simp only [zB]
 refine ⟨λb=> ?_,λhge=> ?_⟩
 . refine ⟨j2B c,⟨by omega,by omega⟩,q3g [.dead,.row .u8 [c]] [] b trivial (by rw [a];simp) ?_⟩;simp (maxSteps:=3000000) only [d,a,Ab,BG,go_sem,↓zA,↓reduceIte,↓reduceDIte] <;>try simp only [zB]
 obtain rfl:i=n:=by omega
 refine ⟨⟨Ac _,by omega⟩,Aa (by simp)⟩
def p17(s:ByteArray):Prin:=([s],⟨#[82]⟩)
def q6C(s:ByteArray)(a:s.size<=140737488355328):PC Tryz.prog 29 [rS s] (.agg (PrinT.cells (p17 s))):=by
 refine q0l rfl rfl ?_;refine rQ fi29 ?_;simp (maxSteps:=3000000) only [p17,go_sem,↓zA,↓reduceIte,↓reduceDIte] <;>try simp only [zB]
 exact a
def s40(l:List ByteArray)(j:Nat):Bool:=decide (((l.getD j (Ty.dflt .str)).size:Int)<=40)
def shortB(p:Prin):Bool:=(decide ((p.1.length:Int)<=6) && decide ((p.2.size:Int)<=40)) && allN p.1.length (s40 p.1)
def j1h(p:Prin)(k:PrinT.ok p):PC Tryz.prog 22 [.agg (PrinT.cells p)] (rB (shortB p)):=by
 obtain ⟨l,r⟩:=p;have hl:l.length<=1125899906842624:=k.1.1;have f:shortB (l,r)=((decide ((l.length:Int)<=6) && decide ((r.size:Int)<=40)) && allN l.length (s40 l)):=rfl;refine q0s rfl rfl ?_;refine rQ fi22 ?_;refine q1f (λi=>[(3,.raw (.int .i64 ((i:Nat):Int)))]) (l.length) (λj=>(s40 l) j=true) (by first|decide|simp) (λi=>rfl) ?_ λi hi a=> ?_
 . (with_reducible refine sxE ?_<;>try exact True.intro)
   all_goals (try rfl)
 have e:=wsx i (by omega);refine gQ ?_;have c:i< (l.length)->(s40 l) i=false->allN (l.length) (s40 l)=false:=λb m=>q0C b m;have fin:¬i< (l.length)->allN (l.length) (s40 l)=true:=λh=>q0E λj hj=>a j (by omega);try dsimp only at c fin a
 refine ⟨λb=>⟨⟨by omega,b⟩,λh=> ?_,λh=> ?_⟩,λd=> ?_⟩
 . rw [f,c b (decide_eq_false (λq=>absurd h (CM.2 q))),CW]
 . refine ⟨b,q1t a (decide_eq_true (CM.1 h)),⟨[],rfl⟩,?_⟩;with_reducible refine sx1 e ?_;trivial
 rw [f,fin d,CI];exact ⟨λh=>by rw [decide_eq_true h,BU],λh=>by rw [decide_eq_false h,CE]⟩
def j1Q(l c:List Pre)(t:(Ty.slice PreT).ok l):PC Tryz.prog 89 [.isl PreT l,.isl PreT c] (rB (decide (l=c))):=by
 have hlen:l.length<=1125899906842624:=t.1;have key:=sameN l c PreT.dflt;refine q0s rfl rfl ?_;refine rQ fi89 ?_;refine ⟨λh=> ?_,λh=> ?_⟩
 . rw [decide_eq_false (λe=>h (by rw [e]))]
 have o:l.length=c.length:=by omega
 refine q1f (λi=>[(5,.raw (.int .i64 ((i:Nat):Int)))]) (l.length) (λj=>(eqAt l c PreT.dflt) j=true) (by first|decide|simp) (λi=>rfl) ?_ λi hi d=> ?_
 . (with_reducible refine sxE ?_<;>try exact True.intro)
   all_goals (try rfl)
 have s:=wsx i (by omega);refine gQ ?_;have k:i< (l.length)->(eqAt l c PreT.dflt) i=false->allN (l.length) (eqAt l c PreT.dflt)=false:=λa u=>q0C a u;have fin:¬i< (l.length)->allN (l.length) (eqAt l c PreT.dflt)=true:=λh=>q0E λj hj=>d j (by omega);try dsimp only at k fin d
 have f:eqAt l c PreT.dflt i=decide (l.getD i PreT.dflt=c.getD i PreT.dflt):=rfl;have b:i<l.length->l.getD i PreT.dflt≠c.getD i PreT.dflt->decide (l=c)=false:=λa p=>decide_eq_false (λe=>by have:=k a (f.trans (decide_eq_false p));rw [(key.1 e).2] at this;cases this);refine ⟨λa=>⟨⟨by omega,a⟩,⟨by omega,by omega⟩,λr=>⟨⟨by omega,a⟩,⟨by omega,by omega⟩,λm=> ?_,λm=>⟨a,q1t d ?_,⟨[],rfl⟩,?_⟩⟩,λr=> ?_⟩,λn=> ?_⟩
 . rw [b a (λe=>m (by rw [e]))]
 . rw [q4P] at m;exact f.trans (decide_eq_true (Prod.ext r m))
 . with_reducible refine sx1 s ?_;trivial
 . rw [b a (λe=>r (by rw [e]))]
 rw [decide_eq_true (key.2 ⟨o,fin n⟩)]
instance instAut1:DecidableEq (Int×List Pre):=instDecidableEqProd
instance instAut2:DecidableEq (Key×Int×List Pre):=instDecidableEqProd
instance instAut3:DecidableEq (Int×Key×Int×List Pre):=instDecidableEqProd
instance instAut4:DecidableEq (Int×Int×Key×Int×List Pre):=instDecidableEqProd
instance instAut5:DecidableEq (List UInt8×Int×Int×Key×Int×List Pre):=instDecidableEqProd
instance instAutD:DecidableEq Aut:=(instDecidableEqProd:DecidableEq (Prin×List UInt8×Int×Int×Key×Int×List Pre))
theorem q7t(a b:Aut)(e:AutT.ok a):PC Tryz.prog 17 [.agg (AutT.cells a),.agg (AutT.cells b)] (rB (decide (a=b))):=by
 have c1:=j8G a.1 b.1 e.1;have c2:=j8q a.2.2.2.2.1 b.2.2.2.2.1;have c3:=j1Q a.2.2.2.2.2.2 b.2.2.2.2.2.2 e.2.2.2.2.2.2;obtain ⟨c,s,t,m,k,q,d⟩:=a;obtain ⟨c',s',t',m',k',q',d'⟩:=b;dsimp only at c1 c2 c3;refine q0s rfl rfl ?_;refine rQ fi17 ?_<;>try with_reducible exact True.intro
 repeat' (first
  | (refine q0b (c1) ?_;refine uQ 600 _ ?_;simp (maxSteps:=3000000) only [go_sem,↓zA,↓reduceIte,↓reduceDIte] <;>try simp only [zB])
  | (refine q0g (c1) ?_;refine uQ 600 _ ?_;simp (maxSteps:=3000000) only [go_sem,↓zA,↓reduceIte,↓reduceDIte] <;>try simp only [zB])
  | (refine q0n (c1) ?_;refine uQ 600 _ ?_;simp (maxSteps:=3000000) only [go_sem,↓zA,↓reduceIte,↓reduceDIte] <;>try simp only [zB])
  | (refine q0b (c2) ?_;refine uQ 600 _ ?_;simp (maxSteps:=3000000) only [go_sem,↓zA,↓reduceIte,↓reduceDIte] <;>try simp only [zB])
  | (refine q0g (c2) ?_;refine uQ 600 _ ?_;simp (maxSteps:=3000000) only [go_sem,↓zA,↓reduceIte,↓reduceDIte] <;>try simp only [zB])
  | (refine q0n (c2) ?_;refine uQ 600 _ ?_;simp (maxSteps:=3000000) only [go_sem,↓zA,↓reduceIte,↓reduceDIte] <;>try simp only [zB])
  | (refine q0b (c3) ?_;refine uQ 600 _ ?_;simp (maxSteps:=3000000) only [go_sem,↓zA,↓reduceIte,↓reduceDIte] <;>try simp only [zB])
  | (refine q0g (c3) ?_;refine uQ 600 _ ?_;simp (maxSteps:=3000000) only [go_sem,↓zA,↓reduceIte,↓reduceDIte] <;>try simp only [zB])
  | (refine q0n (c3) ?_;refine uQ 600 _ ?_;simp (maxSteps:=3000000) only [go_sem,↓zA,↓reduceIte,↓reduceDIte] <;>try simp only [zB])
  | (with_reducible refine And.intro ?_ ?_)
  | (with_reducible intro _))
 all_goals (simp_all [q4P])
end Go.Proofs.YthbcodbcndiapaaGreatDoor
/- Contracts: copies in new memory, of what lies as it lay. -/
namespace Go.Proofs.YthbcodbcndiapaaGreatDoor
open Go Go.Sx Go.Proofs
set_option maxRecDepth 100000
set_option maxHeartbeats 4000000

theorem j5H(l:List ByteArray)(hl:l.length<=8796093022208):VC Tryz.prog 176 [.isl .str l] [] (RowK .str l):=by refine q7A ?_;refine rQ fi176 ?_;intro b a;refine ⟨λh=>q6z (a h),λh=>⟨⟨by omega,by omega⟩,?_⟩⟩;exact q6B (h:=1) rfl (by omega)
theorem z3M(l:List UInt8)(hl:l.length<=140737488355328):VC Tryz.prog 105 [.isl .u8 l] [] (RowK .u8 l):=by refine q7A ?_;refine rQ fi105 ?_;intro b a;refine ⟨λh=>q6z (a h),λh=>⟨⟨by omega,by omega⟩,?_⟩⟩;exact q6B (h:=1) rfl (by omega)
variable {q:Nat->Prop} {w0:World}
variable {vs:List Value}
def z8V{x:Ty.str.den}(h:Ty.str.rel q w0 x vs):vs= [.string x]:=h.1
def q7q{k:IntKind}{x:(Ty.int k).den}(h:(Ty.int k).rel q w0 x vs):vs= [.int k x]:=h
theorem z7c{t:Ty}{xs:List t.den}(h:(Ty.slice t).rel q w0 xs vs):∃A n c,vs= [.slice A n c]/\Sl q w0 t xs (.slice A n c):=by obtain ⟨A,n,c,rfl,_⟩:=id h;exact ⟨A,n,c,rfl,h⟩
def q4j{s t:Ty}{x:(Ty.prod s t).den}(h:(Ty.prod s t).rel q w0 x vs):∃v1 v2,vs=v1++v2/\s.rel q w0 x.1 v1/\t.rel q w0 x.2 v2:=h

theorem j0f{p:Prin}(h:PrinT.rel q w0 p vs):∃A n c,vs= [.slice A n c,.string p.2]/\Sl q w0 .str p.1 (.slice A n c):=by obtain ⟨v1,v2,rfl,a,b⟩:=q4j h;obtain ⟨A,n,c,rfl,a⟩:=z7c a;obtain rfl:=z8V b;exact ⟨A,n,c,rfl,a⟩
theorem z7y{k:Key}(h:KeyT.rel q w0 k vs):∃A n c,vs= [.int .i64 k.1,.int .i64 k.2.1,.slice A n c]/\Sl q w0 .u8 k.2.2 (.slice A n c):=by obtain ⟨v1,v2,rfl,d,b⟩:=q4j h;obtain ⟨v3,v4,rfl,e,a⟩:=q4j b;obtain rfl:=q7q d;obtain rfl:=q7q e;obtain ⟨A,n,c,rfl,a⟩:=z7c a;exact ⟨A,n,c,rfl,a⟩
def j4H(p:Prin)(d:PrinT.rel q w0 p vs)(a:p.1.length<=8796093022208):PCZ q w0 Tryz.prog 104 [.agg (rawL vs)] (.agg (PrinT.cells p)):=by
 letI:Ghost:=frzG q w0;obtain ⟨A,n,c,rfl,e⟩:=j0f d;obtain ⟨b,p2⟩:=p;change b.length<=_ at a;refine q6u rfl rfl ?_;refine runZ mixed fi104 ?_<;>try with_reducible exact True.intro
 refine q8V rfl (j5H _ a) (z7m e q6J) (λf=> ?_) ?_
 . obtain rfl:_= []:=f;refine gQ ?_;trivial
 refine gQ ?_;exact ⟨⟨Ac _,by omega⟩,Aa (Ac _)⟩
def j4G(k:Key)(d:KeyT.rel q w0 k vs)(a:k.2.2.length<=140737488355328):PCZ q w0 Tryz.prog 106 [.agg (rawL vs)] (.agg (KeyT.cells k)):=by
 letI:Ghost:=frzG q w0;obtain ⟨A,n,c,rfl,e⟩:=z7y d;obtain ⟨k1,k2,b⟩:=k;change b.length<=_ at a;refine q6u rfl rfl ?_;refine runZ mixed fi106 ?_<;>try with_reducible exact True.intro
 refine q8V rfl (z3M _ a) (z7m e q6J) (λf=> ?_) ?_
 . obtain rfl:_= []:=f;refine gQ ?_;trivial
 refine gQ ?_;exact ⟨⟨Ac _,by omega⟩,Aa (Ac _)⟩
set_option maxHeartbeats 40000000
set_option synthInstance.maxSize 2000
set_option synthInstance.maxHeartbeats 400000
theorem z9t(x y:Pre):PC Tryz.prog 100 [.agg (PreT.cells x),.agg (PreT.cells y)] (rB (decide (x=y))):=by
 obtain ⟨a,b⟩:=x;obtain ⟨c,d⟩:=y;have e:decide (((a,b):Pre)=(c,d))=(decide (a=c) && decide (b=d)):=by rw [Bz];simp only [decide_eq_true_eq,Ak,Prod.mk.injEq]
 rw [show rB (decide (((a,b):Pre)=(c,d)))=_ from congrArg (λb=>rB b) e];clear e;refine q0s rfl rfl ?_;refine rQ fi100 ?_<;>try with_reducible exact True.intro
 repeat' (first
  | (refine q0b (q3d _ _) ?_;refine uQ 600 _ ?_;simp (maxSteps:=3000000) only [go_sem,↓zA,↓reduceIte,↓reduceDIte] <;>try simp only [zB])
  | (refine q0g (q3d _ _) ?_;refine uQ 600 _ ?_;simp (maxSteps:=3000000) only [go_sem,↓zA,↓reduceIte,↓reduceDIte] <;>try simp only [zB])
  | (refine q0n (q3d _ _) ?_;refine uQ 600 _ ?_;simp (maxSteps:=3000000) only [go_sem,↓zA,↓reduceIte,↓reduceDIte] <;>try simp only [zB])
  | (with_reducible refine And.intro ?_ ?_)
  | (with_reducible intro _))
 all_goals (skip)
 all_goals grind
def j4N(l a:List Pre)(hl:l.length<=1125899906842624):PC Tryz.prog 103 [.isl PreT l,.isl PreT a,.fn 100 [] []] (rB (decide (l=a))):=by
 have key:=sameN l a PreT.dflt;refine q0s rfl rfl ?_;refine rQ fi103 ?_;refine ⟨λh=> ?_,λh=> ?_⟩
 . rw [decide_eq_false (λe=>h (by rw [e]))]
 refine q1f (λi=>[(17,.raw (.int .i64 ((i:Nat):Int)))]) (l.length) (λj=>(eqAt l a PreT.dflt) j=true) (by first|decide|simp) (λi=>rfl) ?_ λi hi b=> ?_
 . (with_reducible refine sxE ?_<;>try exact True.intro)
   all_goals (try rfl)
 have n:=wsx i (by omega);refine gQ ?_;have f:i< (l.length)->(eqAt l a PreT.dflt) i=false->allN (l.length) (eqAt l a PreT.dflt)=false:=λc p=>q0C c p;have fin:¬i< (l.length)->allN (l.length) (eqAt l a PreT.dflt)=true:=λh=>q0E λj hj=>b j (by omega);try dsimp only at f fin b
 have d:eqAt l a PreT.dflt i=decide (l.getD i PreT.dflt=a.getD i PreT.dflt):=rfl;have m:l.length=a.length:=by omega
 refine ⟨λc=>⟨⟨by omega,c⟩,⟨by omega,by omega⟩,q0b (z9t (l.getD i PreT.dflt) (a.getD i PreT.dflt)) ?_⟩,λk=> ?_⟩
 . cases o:decide (l.getD i PreT.dflt=a.getD i PreT.dflt) with
   |false=>refine gQ ?_;rw [decide_eq_false (λe=>by have:=f c (d.trans o);rw [(key.1 e).2] at this;cases this)]
   |true=>refine gQ ?_;refine ⟨c,q1t b (d.trans o),⟨[_,_],rfl⟩,?_⟩;with_reducible refine sx1 n ?_;trivial
 rw [decide_eq_true (key.2 ⟨m,fin k⟩)]
theorem j0l(a b:Aut)(w:AutT.ok a):PC Tryz.prog 27 [.agg (AutT.cells a),.agg (AutT.cells b)] (rB (decide (a=b))):=by
 have f:=z3A a.1 b.1 w.1;have r:=q3d a.2.1 b.2.1;have h:=z4M a.2.2.2.2.1 b.2.2.2.2.1;have j:=j4N a.2.2.2.2.2.2 b.2.2.2.2.2.2 w.2.2.2.2.2.2.1;obtain ⟨c,s,t,m,k,q,d⟩:=a;obtain ⟨o,e,t',u,k',p,n⟩:=b;have v:decide (((c,s,t,m,k,q,d):Aut)=(o,e,t',u,k',p,n))=(decide (c=o) && (decide (s=e) && (decide (t=t') && (decide (m=u) && (decide (k=k') && (decide (q=p) && decide (d=n))))))):=by rw [Bz];simp only [decide_eq_true_eq,Ak,Prod.mk.injEq]
 rw [show rB (decide (((c,s,t,m,k,q,d):Aut)=(o,e,t',u,k',p,n)))=_ from congrArg (λb=>rB b) v];clear v;dsimp only at*;refine q0s rfl rfl ?_;refine rQ fi27 ?_<;>try with_reducible exact True.intro
 repeat' (first
  | (refine q0b (f) ?_;refine uQ 600 _ ?_;simp (maxSteps:=3000000) only [go_sem,↓zA,↓reduceIte,↓reduceDIte] <;>try simp only [zB])
  | (refine q0g (f) ?_;refine uQ 600 _ ?_;simp (maxSteps:=3000000) only [go_sem,↓zA,↓reduceIte,↓reduceDIte] <;>try simp only [zB])
  | (refine q0n (f) ?_;refine uQ 600 _ ?_;simp (maxSteps:=3000000) only [go_sem,↓zA,↓reduceIte,↓reduceDIte] <;>try simp only [zB])
  | (refine q0b (r) ?_;refine uQ 600 _ ?_;simp (maxSteps:=3000000) only [go_sem,↓zA,↓reduceIte,↓reduceDIte] <;>try simp only [zB])
  | (refine q0g (r) ?_;refine uQ 600 _ ?_;simp (maxSteps:=3000000) only [go_sem,↓zA,↓reduceIte,↓reduceDIte] <;>try simp only [zB])
  | (refine q0n (r) ?_;refine uQ 600 _ ?_;simp (maxSteps:=3000000) only [go_sem,↓zA,↓reduceIte,↓reduceDIte] <;>try simp only [zB])
  | (refine q0b (h) ?_;refine uQ 600 _ ?_;simp (maxSteps:=3000000) only [go_sem,↓zA,↓reduceIte,↓reduceDIte] <;>try simp only [zB])
  | (refine q0g (h) ?_;refine uQ 600 _ ?_;simp (maxSteps:=3000000) only [go_sem,↓zA,↓reduceIte,↓reduceDIte] <;>try simp only [zB])
  | (refine q0n (h) ?_;refine uQ 600 _ ?_;simp (maxSteps:=3000000) only [go_sem,↓zA,↓reduceIte,↓reduceDIte] <;>try simp only [zB])
  | (refine q0b (j) ?_;refine uQ 600 _ ?_;simp (maxSteps:=3000000) only [go_sem,↓zA,↓reduceIte,↓reduceDIte] <;>try simp only [zB])
  | (refine q0g (j) ?_;refine uQ 600 _ ?_;simp (maxSteps:=3000000) only [go_sem,↓zA,↓reduceIte,↓reduceDIte] <;>try simp only [zB])
  | (refine q0n (j) ?_;refine uQ 600 _ ?_;simp (maxSteps:=3000000) only [go_sem,↓zA,↓reduceIte,↓reduceDIte] <;>try simp only [zB])
  | (with_reducible refine And.intro ?_ ?_)
  | (with_reducible intro _))
 all_goals (skip)
 all_goals grind
end Go.Proofs.YthbcodbcndiapaaGreatDoor
/- Authenticators: copies: sealed; in new memory, of what lies as it lay. -/
namespace Go.Proofs.YthbcodbcndiapaaGreatDoor
open Go Go.Sx Go.Proofs
set_option maxRecDepth 100000
set_option maxHeartbeats 40000000

def cpA(a:Aut):Prop:=a.1.1.length<=1000/\a.2.1.length<=1000/\a.2.2.2.2.1.2.2.length<=1000/\a.2.2.2.2.2.2.length<=1000/\∀x∈a.2.2.2.2.2.2,x.2.length<=1000
theorem j1i(l:List Pre)(hl:l.length<=1000):VC Tryz.prog 107 [.isl PreT l] [] (RowK PreT l):=by refine q7A ?_;refine rQ fi107 ?_;intro b a;refine ⟨λh=>q6z (a h),λh=>⟨⟨by omega,by omega⟩,?_⟩⟩;exact q6B (h:=1) rfl (by omega)
theorem j1J(l:List Pre)(i:Nat):l.set i (l.getD i PreT.dflt)=l:=by
 apply AE;intro j;rw [List.getElem?_set];split
 . subst j;split
   . rw [Ae,Af (by assumption)];rfl
   rw [List.getElem?_eq_none (by omega)]
 rfl
def j2l(a:Aut)(x:cpA a):PC Tryz.prog 28 [.agg (AutT.cells a)] (.agg (AutT.cells a)):=by
 obtain ⟨c,s,t,m,⟨k,z,r⟩,q,d⟩:=a;obtain ⟨v,n,w,h,j⟩:=x;dsimp only at v n w h j;refine q0l rfl rfl ?_;refine rQ fi28 ?_;refine cQ (j5F c (by omega)) ?_;refine cQ (q1C s (by omega)) ?_;refine cQ (j4o (k,z,r) (by dsimp only;omega)) ?_;refine q8X (j1i d h) rfl rfl (λo=> ?_) ?_
 . subst o;refine gQ ?_;refine q1f (λi=>[(24,rI (i:Nat))]) 0 (λ_=>True) (by first|decide|simp) (λi=>rfl) ?_ λi y _=> ?_
   . with_reducible refine sxE ?_;trivial
   have u:((i:Int) <0)=False:=eq_false (by omega);refine gy1 u ?_;trivial
 refine gQ ?_;refine q1f (λi=>[(24,rI (i:Nat))]) d.length (λ_=>True) (by first|decide|simp) (λi=>rfl) ?_ λi y _=> ?_
 . with_reducible refine sxE ?_;trivial
 have f:=wsx i (by omega);have p:0+i=i:=Ag i;have e:=j1J d i;refine uQ 11 _ ?_;with_reducible refine sxE ?_
 refine ⟨λb=> ?_,λhge=> ?_⟩
 . have hx:=j _ (q3q (d:=PreT.dflt) b);refine uQ 7 _ ?_;with_reducible refine sxE ?_
   refine ⟨⟨by omega,b⟩,by omega,?_⟩;rw [Ag];refine q1l [0,3] mixed ?_;refine gQ ?_;refine q0g (q1C _ (by omega)) ?_;refine gy2 p e ?_;refine ⟨⟨by omega,b⟩,b,b,trivial,⟨[_],rfl⟩,?_⟩;with_reducible refine sx1 f ?_;trivial
 refine gQ ?_;exact ⟨⟨Ac _,by omega⟩,Aw⟩
abbrev PmU:Ty:=.prod I64 (.mbs .u8)
variable {q:Nat->Prop} {w0:World}
@[go_sem] abbrev zAutC0:List SV:=[.raw (.slice none 0 0),rS ⟨#[]⟩,.raw (.slice none 0 0),rI 0,rI 0,rI 0,rI 0,.raw (.slice none 0 0),rI 0,.raw (.slice none 0 0)]
def CpR(q:Nat->Prop)(w0:World)(x:Pre)(y:PmU.den):Prop:=∃A c,y=(x.1,.inl (.slice A x.2.length c))/\Sl q w0 .u8 x.2 (.slice A x.2.length c)
def cpR(l:List Pre)(ys:List PmU.den)(i:Nat):List PmU.den:=(l.take i).map (λx=>((x.1,.inr x.2):PmU.den))++ys.drop i
def unU(z:PmU.den):PreT.den:=(z.1,match z.2 with|.inr x=>x|.inl _=>[])
section
variable {l:List Pre} {ys:List PmU.den} {i:Nat}
def j4w(h:ys.length=l.length):(cpR l ys i).length=l.length:=by simp only [cpR,Ab,A3,An,Ah];omega
def j3Y(h:ys.length=l.length)(a:i<=l.length):(cpR l ys i).getD i PmU.dflt=ys.getD i PmU.dflt:=by unfold cpR;rw [Ae,AI (by simp;omega),Ae];simp [Cr a]
def j6p(h:ys.length=l.length)(b:i<l.length):(cpR l ys i).set i ((l.getD i PreT.dflt).1,.inr (l.getD i PreT.dflt).2)=cpR l ys (i+1):=by
 have a:l[i]?=some (l.getD i PreT.dflt):=by rw [Ae,Af b];rfl
 have hg2:l[i]=l.getD i PreT.dflt:=by rw [Af b] at a;exact Option.some.inj a
 unfold cpR;rw [List.set_append_right _ _ (by simp;omega)];have c:i- ((l.take i).map λx:Pre=>((x.1,.inr x.2):PmU.den)).length=0:=by simp;omega
 rw [c,List.drop_eq_getElem_cons (by omega:i<ys.length),A0,CG,a];simp
theorem j6g(h:ys.length=l.length):(cpR l ys l.length).map unU=l:=by
 rw [cpR,Aw,Ci (by omega),Ad,BD]
 conv=>rhs;rw [<-List.map_id l]
 rfl
theorem z6w(h:ys.length=l.length){z:PmU.den}(a:z∈cpR l ys l.length):∃x∈l,z=(x.1,.inr x.2):=by rw [cpR,Aw,Ci (by omega),Ad] at a;obtain ⟨x,b,rfl⟩:=BZ.1 a;exact ⟨x,b,rfl⟩
end
variable {vs:List Value}
theorem q9M{t:Ty}{xs:List t.den}(h:(Ty.slice t).rel q w0 xs vs):∃A c,vs= [.slice A xs.length c]/\Sl q w0 t xs (.slice A xs.length c):=by obtain ⟨A,n,c,rfl,a⟩:=z7c h;obtain ⟨A',c',b,_⟩:=a.out;cases b;exact ⟨A,c,rfl,a⟩
theorem z6i{a:Aut}(b:AutT.rel q w0 a vs):∃c c1 j c2 d e h f,vs= [.slice c a.1.1.length c1,.string a.1.2,.slice j a.2.1.length c2,.int .i64 a.2.2.1,.int .i64 a.2.2.2.1,.int .i64 a.2.2.2.2.1.1,.int .i64 a.2.2.2.2.1.2.1,.slice d a.2.2.2.2.1.2.2.length e,.int .i64 a.2.2.2.2.2.1,.slice h a.2.2.2.2.2.2.length f]/\
 PrinT.rel q w0 a.1 [.slice c a.1.1.length c1,.string a.1.2]/\Sl q w0 .str a.1.1 (.slice c a.1.1.length c1)/\Sl q w0 .u8 a.2.1 (.slice j a.2.1.length c2)/\KeyT.rel q w0 a.2.2.2.2.1 [.int .i64 a.2.2.2.2.1.1,.int .i64 a.2.2.2.2.1.2.1,.slice d a.2.2.2.2.1.2.2.length e]/\Sl q w0 .u8 a.2.2.2.2.1.2.2 (.slice d a.2.2.2.2.1.2.2.length e)/\Sl q w0 PreT a.2.2.2.2.2.2 (.slice h a.2.2.2.2.2.2.length f):=by
 obtain ⟨v1,u1,rfl,k,b⟩:=q4j b;obtain ⟨v2,u2,rfl,z,b⟩:=q4j b;obtain ⟨v3,u3,rfl,o,b⟩:=q4j b;obtain ⟨v4,u4,rfl,s,b⟩:=q4j b;obtain ⟨v5,u5,rfl,m,b⟩:=q4j b;obtain ⟨v6,v7,rfl,r,u⟩:=q4j b;obtain ⟨x1,x2,rfl,x,p⟩:=q4j k;obtain ⟨c,c1,rfl,y⟩:=q9M x;obtain rfl:=z8V p;obtain ⟨j,c2,rfl,v⟩:=q9M z;obtain rfl:=q7q o;obtain rfl:=q7q s;obtain ⟨d,n5,e,rfl,n⟩:=z7y m;obtain ⟨_,_,w,_⟩:=n.out;cases w;obtain rfl:=q7q r;obtain ⟨h,f,rfl,t⟩:=q9M u;exact ⟨c,c1,j,c2,d,e,h,f,rfl,k,y,v,m,n,t⟩
theorem z3Y(l:List UInt8){v:Value}(a:Sl q w0 .u8 l v)(b:l.length<=140737488355328):PCZ q w0 Tryz.prog 105 [.raw v] (.isl .u8 l):=
 j0S rfl (z3M l b) (z7m a q6J) rfl (by omega)
variable {P:Program}{AQ:Ex->List SV->List SObj->Prop}
def z0n{f:FuncId}{args:List SV}{d:Option Tmp}{m:IM}(h:VCZ q w0 P f args m.heap (@opK (frzG q w0) P AQ m.k0 m.todo m.tmps d)): @CallI (frzG q w0) P AQ f args d m:=⟨h.1,h.2.g⟩
theorem z6v[Ghost]{k0:Nat}{t:List SV}{H:List SObj}(h:Nat){T:TypeId}{cs cs':List SV}{td:List IT}(e:plainT td=true)(f:H[h]?=some (.cells T cs))(d:∀ (C:Cx) vs,SV.denL C cs vs->SV.denL C cs' vs)(o:SoundI P AQ ⟨k0,td,t,H.set h (.cells T cs')⟩):SoundI P AQ ⟨k0,td,t,H⟩:=
 q0d (λ_ j E p m C a n b=>by
  obtain ⟨k,c⟩:=z1V b.wd f (d C)
  exact q0e o j E p m C a n ⟨k,b.ext.trans c,DefOk.next c b.defs,b.tmps⟩) e
theorem j2o(a:Aut)(G:AutT.rel q w0 a vs)(hs:cpA a):PCZ q w0 Tryz.prog 28 [.agg (rawL vs)] (.agg (AutT.cells a)):=by
 letI:Ghost:=frzG q w0;obtain ⟨A1,c1,A2,c2,A5,c5,A7,Z,rfl,X,s1,Y,r5,s5,E⟩:=z6i G;obtain ⟨c,s,t,m,⟨J,V,N⟩,n,d⟩:=a;obtain ⟨h1,h2,h3,h4,h5⟩:=hs;dsimp only at h1 h2 h3 h4 h5 X s1 Y r5 s5 E⊢;refine q6u rfl rfl ?_;refine runZ mixed fi28 ?_<;>try with_reducible exact True.intro
 refine callZ (j4H c X (by omega)) ?_;refine gQ ?_;refine callZ (z3Y s Y (by omega)) ?_;refine gQ ?_;refine callZ (j4G (J,V,N) r5 (by dsimp only;omega)) ?_;refine gQ ?_;obtain ⟨B7,d7,e7,hA⟩:=E.out;cases e7;have D:A7=none->d= []:=by
  rintro rfl;rcases hA with h| ⟨_,_,h,_⟩
  . exact h
  cases h
 clear hA;rcases A7 with _|x
 case' none=>
  have u:=D rfl;rcases Z with _|Z
  case zero=>
   subst u;refine z0n (z4i fi107 (q0o mixed 600 _ ?_));simp (maxSteps:=3000000) only [opK,go_sem,↓zA,↓reduceIte,↓reduceDIte] <;>try simp only [zB]
   refine gQ ?_;refine q1f (λi=>[(24,rI (i:Nat))]) 0 (λ_=>True) (by first|decide|simp) (λi=>rfl) ?_ λi U _=> ?_
   . with_reducible refine sxE ?_;trivial
   have r:((i:Int) <0)=False:=eq_false (by omega);refine uQ 600 _ ?_;simp (maxSteps:=3000000) only [r,go_sem,↓zA,↓reduceIte,↓reduceDIte] <;>try simp only [zB]
  case' succ=>
   have B:List.length d=0:=by rw [u];rfl
   rw [B] at E;rw [B];refine z0n (z4i fi107 (q0o mixed 9 _ ?_));with_reducible refine sxE ?_
   intro b;cases b
   case true=>
    subst u;refine uQ 600 _ ?_;simp (maxSteps:=3000000) only [opK,go_sem,↓zA,↓reduceIte,↓reduceDIte] <;>try simp only [zB]
    refine gQ ?_;refine q1f (λi=>[(24,rI (i:Nat))]) 0 (λ_=>True) (by first|decide|simp) (λi=>rfl) ?_ λi U _=> ?_
    . with_reducible refine sxE ?_;trivial
    have r:((i:Int) <0)=False:=eq_false (by omega);refine uQ 600 _ ?_;simp (maxSteps:=3000000) only [r,go_sem,↓zA,↓reduceIte,↓reduceDIte] <;>try simp only [zB]
 case' some=>
  refine z0n (z4i fi107 (q0o mixed 9 _ ?_));with_reducible refine sxE ?_
  intro b hb;cases b
  case true=>exact (hb rfl).elim
 all_goals
  refine uQ 7 _ ?_;with_reducible refine sxE ?_
  refine j1d (t':=PmU) (CpR q w0) rfl ?_ rfl rfl rfl E (by omega) λys j L=> ?_
  . rintro z us ⟨R,v2,rfl,F,A⟩;obtain ⟨A',K,rfl,H⟩:=q9M A;exact ⟨_,⟨A',K,rfl,H⟩,λI w=>⟨R,_,rfl,F,z4J⟩⟩
  refine uQ 600 _ ?_;simp (maxSteps:=3000000) only [opK,go_sem,↓zA,↓reduceIte,↓reduceDIte] <;>try simp only [zB]
 all_goals
  refine gQ ?_;refine z3T (ι:=Nat) (λi=>[(24,rI i)]) (λi=>[.cells 30 [.isl .str c.1,rS c.2,.isl .u8 s,rI t,rI m,rI J,rI V,.isl .u8 N,rI n,.bld 3 PmU d.length],.cells 30 zAutC0,.dead,.row PmU (cpR d ys i)]) (λi=>d.length-i) (λi=>i<=d.length) 0 (Ai _) 4 ?_ (by decide) (λ_=>rfl) (λ_=>rfl) (λ_=>rfl) ?_ λi U=> ?_
  . simp only [cpR,Cf,BS,Ar,Ap]
  . with_reducible refine sxE ?_;trivial
  have k:=j4w (i:=i) j;have W:=wsx i (by omega);by_cases f:i<d.length
  . have r:((i:Int) < (List.length d:Int))=True:=eq_true (by omega);have S:d[i]=d.getD i PreT.dflt:=by rw [Ae,Af f];rfl
    obtain ⟨y,ey,A',K,rfl,O⟩:=L i f;have p:(cpR d ys i).getD i PmU.dflt=(d[i].1,.inl (.slice A' d[i].2.length K)):=by rw [j3Y j U,Ae,ey];rfl
    have o:=j6p j f;have Q:=h5 _ (q3q (d:=PreT.dflt) f);rw [<-S] at o Q;generalize d[i]=e at*;refine uQ 18 _ ?_;with_reducible refine sy6 r k p Ag Ag Ag ?_
    refine ⟨⟨by omega,f⟩,f,?_⟩;refine q1l [0,4] mixed ?_;refine gy1 k ?_;refine j6r (z3Y _ O (by omega)) ?_;refine gy4 k p o Ag ?_;refine ⟨⟨by omega,f⟩,f,i+1,f,by dsimp only;omega,⟨[_],rfl⟩,?_⟩;with_reducible refine sx1 W ?_;trivial
  obtain rfl:i=d.length:=by omega
  have r:((List.length d:Int) < (List.length d:Int))=False:=eq_false (by omega);refine uQ 7 _ ?_;simp (maxSteps:=3000000) only [r,go_sem,↓zA,↓reduceIte,↓reduceDIte] <;>try simp only [zB]
  refine z8C unU 3 22 d.length rfl rfl rfl rfl ?_ ?_
  . rintro z hz I w us ⟨R,v2,rfl,F,A⟩;obtain ⟨x,_,rfl⟩:=z6w j hz;exact ⟨R,v2,rfl,F,q9W.1 A⟩
  rw [j6g j];refine z6v 0 (cs':=[.isl .str c.1,rS c.2,.isl .u8 s,rI t,rI m,rI J,rI V,.isl .u8 N,rI n,.bld 3 PreT d.length]) rfl rfl ?_ ?_
  . intro C vs G;obtain ⟨v,F,A⟩:=q1v G (i:=9) rfl;have H:=q1u (i:=9) (s:=.bld 3 PreT d.length) (v:=v) G (by rw [SV.den] at A⊢;exact A);have g4:vs.set 9 v=vs:=by apply AE;grind
    rw [g4] at H;exact H
  refine gQ ?_;exact ⟨⟨Ac _,by omega⟩,Aw⟩
def j4K(k:Key)(u:Nat)(a plain:List UInt8)(b:a.length=16):unS k u (ciS k u a plain)=plain:=by
 unfold unS ciS;by_cases h:k.1=1
 . rw [if_pos h,if_pos h,j4U _ _ _ rfl (by rw [Ab];omega),BK b]
 rw [if_neg h,if_neg h,CU b,BK b,j5o]
theorem j8v(k:Key)(u:Nat)(a plain:List UInt8)(d:uOk k u=true)(e:a.length=16)(hp:plain.length<=65536):opS k u k.1 k.2.1 (seS k u a plain)=(plain,0):=by
 obtain ⟨_,_,_,_,m,j⟩:=q7n d;have b:=z8D k u a plain e;have c:(tg9S k u (ciS k u a plain)).length=k.2.2.length:=by
  rw [j2j];split
  . rename_i h;rw [m h]
  rename_i h;rw [(j h).2]
 have hsl:(seS k u a plain).length=16+plain.length+k.2.2.length:=by unfold seS;rw [Ab,b,c]
 have f:(seS k u a plain).length-k.2.2.length=(ciS k u a plain).length:=by omega
 unfold opS;rw [if_pos d,if_pos ⟨rfl,.inl rfl⟩,if_neg (by omega),if_neg (by omega),f];unfold seS;rw [BQ,List.drop_left,if_pos rfl,j4K k u a plain e]
theorem j0H(v:Int)(b:List UInt8)(u:Nat)(a plain:List UInt8)(s:KeyT.ok (1,v,b))(c:uOk (1,v,b) u=true)(p:a.length=16)(d:plain.length<=65536):PC Tryz.prog 90 [.agg (KeyT.cells (1,v,b)),rI u,.isl .u8 a,.isl .u8 plain] (.tup [.agg [rI 1,rI v,.isl .u8 (seS (1,v,b) u a plain)],rI 0]):=by have r:=z4C (1,v,b) u s;have m:=z0v (1,v,b) u 170;have hd2:=z0v (1,v,b) u 85;obtain ⟨hv,hu',hbl,hb32,f,hb2⟩:=q7n c;rw [if_pos c,if_pos c] at r;have k:((1,v,b):Key).1=1:=rfl;have h:seS (1,v,b) u a plain=ciS (1,v,b) u a plain++tg9S (1,v,b) u (ciS (1,v,b) u a plain):=rfl;have hcil:=z8D (1,v,b) u a plain p;rw [h];have o:ciS (1,v,b) u a plain=ctsE (dkS (1,v,b) u 170) z16 (a++plain):=if_pos k;have j:tg9S (1,v,b) u (ciS (1,v,b) u a plain)=(hmS (dkS (1,v,b) u 85) (z16++ciS (1,v,b) u a plain)).take 16:=if_pos k;have e:=z8O (dkS (1,v,b) u 170) a plain (by rw [m,f k]) p d;have n:=z0M (dkS (1,v,b) u 85) (ciS (1,v,b) u a plain) (by omega) (by omega);rw [<-o] at e;rw [j];have hml:=q5J (dkS (1,v,b) u 85) (z16++ciS (1,v,b) u a plain);generalize hmS (dkS (1,v,b) u 85) (z16++ciS (1,v,b) u a plain)=mk at*;generalize ciS (1,v,b) u a plain=ci at*;dsimp only at*;exact z9i name1 16 16 206 207 208 1 v b u a plain ci mk r (by have:=f rfl;omega) (by omega) p d e n (by omega) (by omega) (by omega)
theorem z3L(v:Int)(b:List UInt8)(u:Nat)(k m:Int)(a:List UInt8)(t:KeyT.ok (1,v,b))(c:uOk (1,v,b) u=true)(w:a.length<=1099511627776):PC Tryz.prog 92 [.agg (KeyT.cells (1,v,b)),rI u,.agg [rI k,rI m,.isl .u8 a]] (.tup [.isl .u8 (opS (1,v,b) u k m a).1,rI (opS (1,v,b) u k m a).2]):=by
 have s:=z4C (1,v,b) u t;have o:=z0v (1,v,b) u 170;have hd2:=z0v (1,v,b) u 85;obtain ⟨hv,hu',hbl,hb32,r,hb2⟩:=q7n c;have n:((1,v,b):Key).1=1:=rfl;unfold opS;rw [if_pos c,if_pos c] at s;rw [if_pos c];have hcl:(a.take (a.length-b.length)).length<=a.length-b.length:=List.length_take_le _ _;have f:16+b.length<=a.length->(a.take (a.length-b.length)).length=a.length-b.length:=λ_=>by rw [An];omega
 unfold tg9S unS;rw [if_pos n,if_pos n];have h:b.length=16:=r n;have j:=λ(h1:16+b.length<=a.length) (h2:a.length<=65552+b.length)=>z0M (dkS (1,v,b) u 85) (a.take (a.length-b.length)) (by omega) (by omega);have e:=λ(h1:16+b.length<=a.length) (h2:a.length<=65552+b.length)=>z7F (dkS (1,v,b) u 170) (a.take (a.length-b.length)) (by rw [o,h]) (by rw [f h1];omega) (by omega);have p:=q5J (dkS (1,v,b) u 85) (z16++a.take (a.length-b.length));dsimp only at*;have d:1<=b.length/\b.length<=64:=by omega
 rw [h] at j e p⊢;refine j6S (z6T name1 16 16 206 207 208 1 v b u k m a _ _ s d.1 d.2 (by omega) w j e (by omega) (by omega)) ?_;repeat' split
 all_goals rfl
def ordA(a b:Aut):Int:=if cmpI a.2.2.1 b.2.2.1=0 then cmpI a.2.2.2.1 b.2.2.2.1 else cmpI a.2.2.1 b.2.2.1
theorem j7N(a b:Aut)(o1 u:SObj):PCH Tryz.prog 97 [.agg (AutT.cells a),.agg (AutT.cells b),.csl 2 .u8 0 0 2] (rI (ordA a b)) [o1,u,.cells 122 [.fn 98 [] [],.fn 99 [] []]]:=by
 have c1:=z6G a;have c2:=z7Z a;have c3:=z6G b;have v:=z7Z b;have w:=j2D a.2.2.1 b.2.2.1;have z:=j2D a.2.2.2.1 b.2.2.2.1;unfold ordA;generalize cmpI a.2.2.1 b.2.2.1=A at*;generalize cmpI a.2.2.2.1 b.2.2.2.1=x at*;obtain ⟨n,s,t,m,k,q,d⟩:=a;obtain ⟨n',s',t',m',k',q',d'⟩:=b;dsimp only at*;refine z9F rfl ?_;refine rQ fi97 ?_;refine q1f (λi=>[(12,rI (i:Nat))]) 2 (λi=>(i=0->A=0)/\(i=1->x=0)) (by first|decide|simp) (λi=>rfl) ?_ λi hi c=> ?_
 . with_reducible refine sxE ?_;trivial
 have f:=wsx i (by omega);by_cases o:i=0
 . subst o;have e:((0:Nat):Int)=0:=rfl;have j:((0:Int) < ((2:Nat):Int))=True:=eq_true (by decide);refine gy2 e j ?_;refine cR c1 ?_;refine cR c3 ?_;refine cR w ?_;refine ⟨λh=>⟨by rw [if_neg h],[_,_],rfl⟩,λh=>⟨by decide,q1t c ⟨λ_=>h,λh=>absurd h (by decide)⟩,⟨[],rfl⟩,?_⟩⟩;with_reducible refine sx1 f ?_
   rfl
 have p:=(c 0 (by omega)).1 rfl;rw [if_pos p];by_cases y:i=1
 . subst y;have e:((1:Nat):Int)=1:=rfl;have j:((1:Int) < ((2:Nat):Int))=True:=eq_true (by decide);refine gy2 e j ?_;refine cR c2 ?_;refine cR v ?_;refine cR z ?_;refine ⟨λh=>⟨rfl,[_,_],rfl⟩,λh=>⟨by decide,q1t c ⟨λh=>absurd h (by decide),λ_=>h⟩,⟨[],rfl⟩,?_⟩⟩;with_reducible refine sx1 f ?_
   rfl
 obtain rfl:i=2:=by omega
 have r:=(c 1 (by omega)).2 rfl;rw [r];refine gQ ?_;exact ⟨λh=>absurd h (by decide),λ_=>⟨rfl,[_,_],rfl⟩⟩
def z5J(a b:Aut):PC Tryz.prog 25 [.agg (AutT.cells a),.agg (AutT.cells b)] (rI (ordA a b)):=by have h:=λo1 c=>j7N a b o1 c;obtain ⟨n,s,t,m,k,q,d⟩:=a;obtain ⟨n',s',t',m',k',q',d'⟩:=b;refine q0s rfl rfl ?_;refine rQ fi25 ?_;refine z9T (h _ _) ?_;refine gQ ?_;trivial
def prin17(s:ByteArray)(h:s.size<=1000):PrinT.ok (p17 s):=by refine ⟨⟨by show (1:Nat)<=_;decide,λx a=> ?_⟩,by show ByteArray.size ⟨#[82]⟩<=140737488355328;decide⟩;simp [p17] at a;subst a;show x.size<=_;omega
def oka17:AutT.ok a17:=⟨prin17 ⟨#[97]⟩ (by decide),⟨by decide,λ_ _=>trivial⟩,trivial,trivial,⟨trivial,trivial,⟨by decide,λ_ _=>trivial⟩⟩,trivial,⟨by decide,λx a=>by cases a⟩⟩
def okk17:KeyT.ok (1,0,k16):=⟨trivial,trivial,⟨by decide,λ_ _=>trivial⟩⟩
def uok11:uOk (1,0,k16) 11=true:=by kernel_rfl
theorem kenc:PC Tryz.prog 10 [.agg (AutT.cells a17)] (.tup [.isl .u8 pln17,rI 0]):=by have h:=z1w a17 oka17;rw [va17,if_pos rfl,if_pos rfl,q6F] at h;exact h
theorem kseal:PC Tryz.prog 18 [.agg (KeyT.cells (1,0,k16)),rI 11,.agg (AutT.cells a17),.isl .u8 cf3] (.tup [.agg [rI 1,rI 0,.isl .u8 (ct17++tg11)],rI 0]):=by
 have h:=j4B (1,0,k16) a17 oka17 11 cf3 1 0 (ct17++tg11) 0 λ_=>by have a:=j0H 0 k16 11 cf3 (autS a17) okk17 uok11 (by decide) (by rw [q6F];decide);rw [q6F,se17] at a;rw [q6F];exact a
 rw [va17,if_pos rfl,if_pos rfl] at h;exact h
def kopen:PC Tryz.prog 20 [.agg (KeyT.cells (1,0,k16)),rI 11,.agg [rI 1,rI 0,.isl .u8 (ct17++tg11)]] (.tup [.agg (AutT.cells a17),rI 0]):=by have a:=z3L 0 k16 11 1 0 (ct17++tg11) okk17 uok11 (by decide);have b:=j8v (1,0,k16) 11 cf3 pln17 uok11 (by decide) (by decide);rw [se17] at b;rw [b] at a;have c:=j5P (1,0,k16) 11 1 0 (ct17++tg11) pln17 (by decide) a;rw [rd17] at c;exact c
def kopex:PC Tryz.prog 20 [.agg (KeyT.cells (1,0,k16)),rI 7,.agg [rI 1,rI 0,.isl .u8 (ct17++tg11)]] (.tup [zAut,rI 10]):=by have a:=z3L 0 k16 7 1 0 (ct17++tg11) okk17 (by kernel_rfl) (by decide);rw [opx17] at a;exact j6v (1,0,k16) 7 1 0 (ct17++tg11) 10 (by decide) [] a
def rdx17:autD [98,0]=none:=by kernel_rfl
def kdec:PC Tryz.prog 15 [.isl .u8 [98,0]] (.tup [zAut,rI 6]):=by have h:=z0H [98,0] (by decide);rw [rdx17] at h;exact h
def a18:Aut:=(p17 ⟨#[97]⟩,[],10,8,nKey,1,[])
def kcmp:PC Tryz.prog 25 [.agg (AutT.cells a17),.agg (AutT.cells a18)] (rI (-1)):=by
 have h:=z5J a17 a18;have e:ordA a17 a18= -1:=by kernel_rfl
 rw [e] at h;exact h
def kchk(s:ByteArray)(b:s.size<=1000)(a:Int)(n:Int)(h:chkS a17 (p17 s) a 5=n):PC Tryz.prog 23 [.agg (AutT.cells a17),.agg (PrinT.cells (p17 s)),rI a,rI 5] (rI n):=by rw [<-h];exact j0E a17 oka17 (p17 s) (prin17 s b) a 5
def chk0:chkS a17 (p17 ⟨#[97]⟩) 15 5=0:=by kernel_rfl
def chk1:chkS a17 (p17 ⟨#[97]⟩) 16 5=181:=by kernel_rfl
def chk2:chkS a17 (p17 ⟨#[98]⟩) 15 5=180:=by kernel_rfl
abbrev w17(m:Int):SV:=.agg [.isl .str [⟨#[97]⟩],.raw (.string ⟨#[82]⟩),.raw (.slice none 0 0),.raw (.int .i64 10),.raw (.int .i64 m),.raw (.int .i64 0),.raw (.int .i64 0),.raw (.slice none 0 0),.raw (.int .i64 1),.raw (.slice none 0 0)]
abbrev kk17:SV:=.agg [.raw (.int .i64 1),.raw (.int .i64 0),.isl .u8 [1,1,1,1,1,1,1,1,1,1,1,1,1,1,1,1]]
abbrev v17:SV:=.agg [.isl .str [⟨#[97]⟩],.raw (.string ⟨#[82]⟩),.isl .u8 [],.raw (.int .i64 10),.raw (.int .i64 7),.raw (.int .i64 0),.raw (.int .i64 0),.isl .u8 [],.raw (.int .i64 1),.isl PreT []]
abbrev s17:SV:=.agg [.raw (.int .i64 1),.raw (.int .i64 0),.isl .u8 (ct17++tg11)]
def kenc1:PC Tryz.prog 10 [w17 7] (.tup [.isl .u8 pln17,rI 0]):=by refine kenc.arg ?_;simp (maxSteps:=3000000) only [a17,go_sem,↓zA,↓reduceIte,↓reduceDIte] <;>try simp only [zB]
def kseal1:PC Tryz.prog 18 [kk17,rI 11,w17 7,.isl .u8 [3,3,3,3,3,3,3,3,3,3,3,3,3,3,3,3]] (.tup [s17,rI 0]):=by refine kseal.arg ?_;simp (maxSteps:=3000000) only [a17,k16,cf3,go_sem,↓zA,↓reduceIte,↓reduceDIte] <;>try simp only [zB]
def kopen1:PC Tryz.prog 20 [kk17,rI 11,s17] (.tup [v17,rI 0]):=kopen
def kopex1:PC Tryz.prog 20 [kk17,rI 7,s17] (.tup [zAut,rI 10]):=kopex
def ksame1:PC Tryz.prog 17 [w17 7,v17] (rB true):=by have h:=q7t a17 a17 oka17;rw [decide_eq_true rfl] at h;refine h.arg ?_;simp (maxSteps:=3000000) only [a17,go_sem,↓zA,↓reduceIte,↓reduceDIte] <;>try simp only [zB]
def kcmp1:PC Tryz.prog 25 [w17 7,w17 8] (rI (-1)):=by refine kcmp.arg ?_;simp (maxSteps:=3000000) only [a17,a18,nKey,p17,go_sem,↓zA,↓reduceIte,↓reduceDIte] <;>try simp only [zB]
def kchk1(s:ByteArray)(b:s.size<=1000)(a:Int)(n:Int)(h:chkS a17 (p17 s) a 5=n):PC Tryz.prog 23 [w17 7,.agg [.isl .str [s],.raw (.string ⟨#[82]⟩)],rI a,rI 5] (rI n):=by refine (kchk s b a n h).arg ?_;simp (maxSteps:=3000000) only [a17,p17,go_sem,↓zA,↓reduceIte,↓reduceDIte] <;>try simp only [zB]
def j3F:PC Tryz.prog 9 [] (rB true):=by
 have a:pln17.length=45:=rfl;have h0:pln17.getD 0 0=98:=rfl;refine q0l rfl rfl ?_;refine rQ fi9 ?_;refine q0b (q6C ⟨#[97]⟩ (by decide)) ?_;refine uQ 600 _ ?_;simp (maxSteps:=3000000) only [p17,go_sem,↓zA,↓reduceIte,↓reduceDIte] <;>try simp only [zB]
 refine cQ (z4V 1 1 rfl 16 (by decide)) ?_;refine cQ kenc1 ?_;refine q0n (z4V 3 3 rfl 16 (by decide)) ?_;refine gQ ?_;refine q0n kseal1 ?_;refine gQ ?_;refine cQ kopen1 ?_;refine cQ kopex1 ?_;refine ⟨⟨by decide,by decide⟩,q0F 5 ?_⟩;with_reducible refine sxE ?_
 refine cQ kdec ?_;refine cQ (q6c _) ?_;refine cQ (q6c _) ?_;refine cQ (q6c _) ?_;refine ⟨λ_=>⟨λ_=>⟨by rw [a];decide,λ_=>q0b ksame1 ?_,λh=>absurd (by decide) h⟩,λh=>absurd (by rw [a];rfl) h⟩,λh=>absurd (by decide) h⟩;refine gQ ?_;refine cQ (q6c _) ?_;refine cQ (q6c _) ?_;refine cQ kcmp1 ?_;refine q0g (q6C ⟨#[97]⟩ (by decide)) ?_;refine uQ 600 _ ?_;simp (maxSteps:=3000000) only [p17,go_sem,↓zA,↓reduceIte,↓reduceDIte] <;>try simp only [zB]
 refine cR (kchk1 ⟨#[97]⟩ (by decide) 15 _ chk0) ?_;refine cR (q6c _) ?_;refine q0g (q6C ⟨#[97]⟩ (by decide)) ?_;refine uQ 600 _ ?_;simp (maxSteps:=3000000) only [p17,go_sem,↓zA,↓reduceIte,↓reduceDIte] <;>try simp only [zB]
 refine cR (kchk1 ⟨#[97]⟩ (by decide) 16 _ chk1) ?_;refine cR (q6c _) ?_;refine q0g (q6C ⟨#[98]⟩ (by decide)) ?_;refine uQ 600 _ ?_;simp (maxSteps:=3000000) only [p17,go_sem,↓zA,↓reduceIte,↓reduceDIte] <;>try simp only [zB]
 refine cR (kchk1 ⟨#[98]⟩ (by decide) 15 _ chk2) ?_;refine cR (q6c _) ?_;trivial
set_option maxHeartbeats 4000000
def dat17(l:List Pre)(j:Nat):Bool:=decide ((l.length:Int)<=20) && decide (((l.getD j PreT.dflt).2.length:Int)<=300)
def smaB(a:Aut):Bool:=allN a.2.2.2.2.2.2.length (dat17 a.2.2.2.2.2.2) && (shortB a.1&& (decide ((a.2.1.length:Int)<=300) && decide ((a.2.2.2.2.1.2.2.length:Int)<=300)))
theorem z3z(a:Aut)(u:AutT.ok a):PC Tryz.prog 8 [.agg (AutT.cells a)] (rB (smaB a)):=by
 have c1:=j1h a.1 u.1;have hl:a.2.2.2.2.2.2.length<=1125899906842624:=u.2.2.2.2.2.2.1;unfold smaB;generalize shortB a.1=sb at*;obtain ⟨n,s,t,m,k,q,l⟩:=a;obtain ⟨k1,k2,k3⟩:=k;dsimp only at*;refine q0s rfl rfl ?_;refine rQ fi8 ?_;refine q1f (λi=>[(3,.raw (.int .i64 ((i:Nat):Int)))]) (l.length) (λj=>(dat17 l) j=true) (by first|decide|simp) (λi=>rfl) ?_ λi hi c=> ?_
 . (with_reducible refine sxE ?_<;>try exact True.intro)
   all_goals (try rfl)
 have r:=wsx i (by omega);refine gQ ?_;have d:i< (l.length)->(dat17 l) i=false->allN (l.length) (dat17 l)=false:=λb v=>q0C b v;have fin:¬i< (l.length)->allN (l.length) (dat17 l)=true:=λh=>q0E λj hj=>c j (by omega);try dsimp only at d fin c
 have e:dat17 l i=(decide ((l.length:Int)<=20) && decide (((l.getD i PreT.dflt).2.length:Int)<=300)):=rfl;refine ⟨λb=>⟨λp=>⟨⟨by omega,b⟩,λo=> ?_,λo=> ?_⟩,λp=> ?_⟩,λf=> ?_⟩
 . rw [d b (by rw [e,decide_eq_false (CX.2 o),CW]),CE]
 . refine ⟨b,q1t c (by rw [e,decide_eq_true (CM.1 p),decide_eq_true (CM.1 o)];rfl),⟨[],rfl⟩,?_⟩;with_reducible refine sx1 r ?_;trivial
 . rw [d b (by rw [e,decide_eq_false (CX.2 p),CE]),CE]
 rw [fin f,BU];refine cQ c1 ?_<;>try with_reducible exact True.intro
 repeat' (first
  | (with_reducible refine And.intro ?_ ?_)
  | (with_reducible intro _))
 all_goals ((simp_all;try omega))
set_option maxHeartbeats 40000000
def irx7(r:Array Oper):XI:=⟨123,[.tmp 4],[(.reg [o1 2 (.box 30 (.tmp 0)),o1 3 (.box 30 (.tmp 1)),o1 4 (.mov (.const (.bool false)))]),(.reg [o1 12 (.ld (some 10) (.tmp 2)),o1 13 (.call (.func 8) [(.tmp 12)]),o1 14 (.un .not (.tmp 13)),mv 15 14,oF 16 (.ld (some 10) (.tmp 3)) 15,oF 17 (.call (.func 8) [(.tmp 16)]) 15,oF 18 (.un .not (.tmp 17)) 15,o1 19 (.pick (.tmp 15) (.const (.bool true)) (.tmp 18))]),(.cond (.tmp 19) (.seq (.reg [o1 20 (.call (.func 9) []),mv 4 20]) .ret) .skip),(.drw [(true,o1 21 (.ld (some 10) (.tmp 2))),(true,o1 22 (.ld (some 10) (.tmp 3))),(true,o1 24 (.ld (some 10) (.tmp 2))),(true,o1 25 (.ld (some 10) (.tmp 3))),(false,o1 23 (.call (.func 27) [(.tmp 21),(.tmp 22)])),(false,o1 26 (.call (.func 17) [(.tmp 24),(.tmp 25)])),(true,o1 27 (.bin .neq 3 (.tmp 23) (.tmp 26)))]),(.cond (.tmp 27) (.seq (.reg [o1 4 (.mov (.const (.bool false)))]) .ret) .skip)],r,[(.reg [o1 32 (.ld (some 10) (.tmp 5)),o1 33 (.ld (some 10) (.tmp 2)),o1 34 (.call (.func 17) [(.tmp 32),(.tmp 33)]),o1 35 (.un .not (.tmp 34))]),(.cond (.tmp 35) (.seq (.reg [o1 4 (.mov (.const (.bool false)))]) .ret) .skip),(.reg [o1 7 (.mov (ci 0))]),(.blk 0 (.loop (.seq (.seq (.reg [mv 36 7,o1 37 (.fa 0 (.tmp 5)),o1 38 (.fa 0 (.tmp 37)),o1 39 (.ld none (.tmp 38)),o1 40 (.len false (.tmp 39)),o1 41 (.bin .lss 0 (.tmp 36) (.tmp 40))]) (.cond (.tmp 41) .skip (.exit 0))) (.seq (.blk 1 (.reg [o1 44 (.fa 0 (.tmp 5)),o1 45 (.fa 0 (.tmp 44)),o1 46 (.ld none (.tmp 45)),mv 47 7,o1 48 (.ia 1 (.tmp 46) (.tmp 47)),o0 (.st 1 (.tmp 48) (.const (.string ⟨#[63]⟩)))])) (.reg [mv 42 7,o1 43 (.bin .add 0 (.tmp 42) (ci 1)),mv 7 43]))))),(.reg [o1 8 (.mov (ci 0))]),(.blk 2 (.loop (.seq (.seq (.reg [mv 49 8,o1 50 (.fa 2 (.tmp 5)),o1 51 (.ld none (.tmp 50)),o1 52 (.len false (.tmp 51)),o1 53 (.bin .lss 0 (.tmp 49) (.tmp 52))]) (.cond (.tmp 53) .skip (.exit 2))) (.seq (.blk 3 (.reg [o1 56 (.fa 2 (.tmp 5)),o1 57 (.ld none (.tmp 56)),mv 58 8,o1 59 (.ia 1 (.tmp 57) (.tmp 58)),o1 60 (.ld none (.tmp 59)),o1 61 (.bin .add 0 (.tmp 60) (.const (.int .u8 1))),o1 62 (.ia 1 (.tmp 57) (.tmp 58)),o0 (.st 1 (.tmp 62) (.tmp 61))])) (.reg [mv 54 8,o1 55 (.bin .add 0 (.tmp 54) (ci 1)),mv 8 55]))))),(.reg [o1 9 (.mov (ci 0))]),(.blk 4 (.loop (.seq (.seq (.reg [mv 63 9,o1 64 (.fa 5 (.tmp 5)),o1 65 (.fa 2 (.tmp 64)),o1 66 (.ld none (.tmp 65)),o1 67 (.len false (.tmp 66)),o1 68 (.bin .lss 0 (.tmp 63) (.tmp 67))]) (.cond (.tmp 68) .skip (.exit 4))) (.seq (.blk 5 (.reg [o1 71 (.fa 5 (.tmp 5)),o1 72 (.fa 2 (.tmp 71)),o1 73 (.ld none (.tmp 72)),mv 74 9,o1 75 (.ia 1 (.tmp 73) (.tmp 74)),o1 76 (.ld none (.tmp 75)),o1 77 (.bin .add 0 (.tmp 76) (.const (.int .u8 1))),o1 78 (.ia 1 (.tmp 73) (.tmp 74)),o0 (.st 1 (.tmp 78) (.tmp 77))])) (.reg [mv 69 9,o1 70 (.bin .add 0 (.tmp 69) (ci 1)),mv 9 70]))))),(.reg [o1 10 (.mov (ci 0))]),(.blk 6 (.loop (.seq (.seq (.reg [mv 79 10,o1 80 (.fa 9 (.tmp 5)),o1 81 (.ld none (.tmp 80)),o1 82 (.len false (.tmp 81)),o1 83 (.bin .lss 0 (.tmp 79) (.tmp 82))]) (.cond (.tmp 83) .skip (.exit 6))) (.seq (.blk 7 (.seq (.seq (.reg [o1 11 (.mov (ci 0))]) (.blk 8 (.loop (.seq (.seq (.reg [mv 86 11,o1 87 (.fa 9 (.tmp 5)),o1 88 (.ld none (.tmp 87)),mv 89 10,o1 90 (.ia 2 (.tmp 88) (.tmp 89)),o1 91 (.fa 1 (.tmp 90)),o1 92 (.ld none (.tmp 91)),o1 93 (.len false (.tmp 92)),o1 94 (.bin .lss 0 (.tmp 86) (.tmp 93))]) (.cond (.tmp 94) .skip (.exit 8))) (.seq (.blk 9 (.reg [o1 97 (.fa 9 (.tmp 5)),o1 98 (.ld none (.tmp 97)),mv 99 10,o1 100 (.ia 2 (.tmp 98) (.tmp 99)),o1 101 (.fa 1 (.tmp 100)),o1 102 (.ld none (.tmp 101)),mv 103 11,o1 104 (.ia 1 (.tmp 102) (.tmp 103)),o1 105 (.ld none (.tmp 104)),o1 106 (.bin .add 0 (.tmp 105) (.const (.int .u8 1))),o1 107 (.ia 1 (.tmp 102) (.tmp 103)),o0 (.st 1 (.tmp 107) (.tmp 106))])) (.reg [mv 95 11,o1 96 (.bin .add 0 (.tmp 95) (ci 1)),mv 11 96])))))) (.reg [o1 108 (.fa 9 (.tmp 5)),o1 109 (.ld none (.tmp 108)),mv 110 10,o1 111 (.ia 2 (.tmp 109) (.tmp 110)),o1 112 (.fa 0 (.tmp 111)),o1 113 (.ld none (.tmp 112)),o1 114 (.bin .add 0 (.tmp 113) (ci 1)),o1 115 (.ia 2 (.tmp 109) (.tmp 110)),o1 116 (.fa 0 (.tmp 115)),o0 (.st 1 (.tmp 116) (.tmp 114))]))) (.reg [mv 84 10,o1 85 (.bin .add 0 (.tmp 84) (ci 1)),mv 10 85]))))),(.reg [o1 117 (.ld (some 10) (.tmp 6)),o1 118 (.ld (some 10) (.tmp 2)),o1 119 (.call (.func 17) [(.tmp 117),(.tmp 118)]),mv 120 119,oT 121 (.call (.func 9) []) 120,o1 122 (.pick (.tmp 120) (.tmp 121) (.const (.bool false))),mv 4 122]),.ret]⟩
def fix7:xinfo Tryz.prog 7=some (irx7 (xreg Tryz.prog 7)):=by kernel_rfl
attribute [go_sem] irx7

def c2aut(a:Aut):C2P:={f:=28,p:=2,d0:=28,d1:=29,d2:=30,d3:=31,d4:=5,d5:=6,T:=30,m:=10,zs:=[.slice none 0 0,.string ⟨#[]⟩,.slice none 0 0,.int .i64 0,.int .i64 0,.int .i64 0,.int .i64 0,.slice none 0 0,.int .i64 0,.slice none 0 0],ty:=AutT,x:=a}
theorem z9K(a:Aut):IsC2 Tryz.prog (xreg Tryz.prog 7) (c2aut a):=
 j3x (by kernel_rfl) (by kernel_rfl) (by kernel_rfl) rfl rfl
theorem z5V:(datList.all λe=>e.2.1.flat)=true:=by rfl
def z9c{a:Aut}(h:smaB a=true):cpA a:=by
 obtain ⟨n,s,t,m,k,q,l⟩:=a;simp only [smaB,Ak,decide_eq_true_eq] at h;obtain ⟨f,e,h3,h4⟩:=h;have c:∀j,j<l.length->l.length<=20/\(l.getD j PreT.dflt).2.length<=300:=λj b=>by have:=q2I.1 f j b;simp only [dat17,Ak,decide_eq_true_eq] at this;omega
 simp only [shortB,Ak,decide_eq_true_eq] at e;refine ⟨by dsimp only;omega,by dsimp only;omega,by dsimp only;omega,?_,λd o=> ?_⟩
 . by_cases h0:l.length=0
   . show l.length<=1000;omega
   have:=(c 0 (by omega)).1;show l.length<=1000;omega
 obtain ⟨j,b,rfl⟩:=AT o;have:=(c j b).2;simp only [Ae,Af b,Bq] at this;show (l[j]).2.length<=1000;omega
def z0N(a:Aut)(F:AutT.ok a)(b:Aut)(hb:AutT.ok b):PC Tryz.prog 7 [.agg (AutT.cells a),.agg (AutT.cells b)] (rB true):=by
 have c1:=z3z a F;have c2:=z3z b hb;have S:=j3F;have ce:=j0l a b F;have cs:=q7t a b F;have X:=q7t a a F;rw [decide_eq_true rfl] at X;refine q0s rfl rfl ?_;refine j8P fix7 ?_;refine uQ 600 _ ?_;generalize hR:xreg Tryz.prog 7=R;with_reducible refine sxE ?_
 refine q0b c1 ?_;cases h1:smaB a with
 |false=>refine gQ ?_;refine cQ S ?_;trivial
 |true=>
 refine gQ ?_;refine q0b c2 ?_;cases h2:smaB b with
 |false=>refine gQ ?_;refine cQ S ?_;trivial
 |true=>
 clear c1 c2;refine gQ ?_;refine cR ce ?_;refine cR cs ?_;subst hR;have A:=z9c h1;intro id k J w;refine j1u (c:=c2aut a) (h:=0) (T':=30) mixed (z9K a) z5V rfl F rfl rfl (by intro d hd;simp [c2aut] at hd⊢;omega) J (λq w0 vs E=>j2o a E A) (j2l a A) λz w1 N vs E hz=> ?_;change AutT.rel z w1 a vs at E;dsimp only [c2aut];obtain ⟨A1,c1,A2,c2,A5,c5,A7,c7,rfl,r1,Y,s2,r5,Z,Q⟩:=z6i E;letI:Ghost:=frzN z w1 N;refine q0e ?_ w;clear w J;refine gQ ?_;refine z5O X (j1j E (z9h rfl q6J)) ?_;refine uQ 6 _ ?_;with_reducible refine sxE ?_
 refine j7h hz rfl rfl λw' r=> ?_;letI:Ghost:=scrG z w';have Y:Sl z w' .str a.1.1 (.slice A1 a.1.1.length c1):=r (.slice .str) _ _ Y;have s2:Sl z w' .u8 a.2.1 (.slice A2 a.2.1.length c2):=r (.slice .u8) _ _ s2;have Z:Sl z w' .u8 a.2.2.2.2.1.2.2 (.slice A5 a.2.2.2.2.1.2.2.length c5):=r (.slice .u8) _ _ Z;have Q:Sl z w' PreT a.2.2.2.2.2.2 (.slice A7 a.2.2.2.2.2.2.length c7):=r (.slice PreT) _ _ Q;clear r hz E r1 r5;obtain ⟨hl1,hl2,hl5,hl7,L⟩:=A;obtain ⟨B1,d1,e1,V⟩:=Y.out;cases e1;obtain ⟨B2,d2,e2,B⟩:=s2.out;cases e2;obtain ⟨B5,d5,e5,aa⟩:=Z.out;cases e5;obtain ⟨B7,d7,e7,U⟩:=Q.out;cases e7;refine uQ 2 _ ?_;with_reducible refine sxE ?_
 refine q4T 7 a.1.1.length (λ_=>True) ?_ λi D _=> ?_
 . with_reducible refine sxE ?_;trivial
 refine uQ 12 _ ?_;with_reducible refine sxE ?_
 have f:=wsx i (by omega);refine ⟨λe=> ?_,λo=> ?_⟩
 . rcases V with u| ⟨b1,o1,rfl,G⟩
   . exfalso;rw [u] at e;simp at e
   have n:=G i _ (Af e);refine gQ ?_;refine ⟨⟨by omega,e⟩,j4f n.1 n.str (by decide) ?_⟩;refine gQ ?_;refine ⟨i+1,e,by dsimp only;omega,rfl,?_⟩;with_reducible refine sx1 f ?_;trivial
 clear D o f;refine uQ 6 _ ?_;with_reducible refine sxE ?_
 refine q4T 8 a.2.1.length (λ_=>True) ?_ λi D _=> ?_
 . with_reducible refine sxE ?_;trivial
 refine uQ 11 _ ?_;with_reducible refine sxE ?_
 have f:=wsx i (by omega);refine ⟨λe=> ?_,λo=> ?_⟩
 . rcases B with u| ⟨b4,o4,rfl,s⟩
   . exfalso;rw [u] at e;simp at e
   have n:=s i _ (Af e);refine gQ ?_;refine ⟨⟨by omega,e⟩,q9j n.1 n.u8 λm=> ?_⟩;refine gQ ?_;refine ⟨⟨by omega,e⟩,q9P n.1 n.u8 ?_⟩;refine gQ ?_;refine ⟨i+1,e,by dsimp only;omega,rfl,?_⟩;with_reducible refine sx1 f ?_;trivial
 clear D o f;refine uQ 6 _ ?_;with_reducible refine sxE ?_
 refine q4T 9 a.2.2.2.2.1.2.2.length (λ_=>True) ?_ λi D _=> ?_
 . with_reducible refine sxE ?_;trivial
 refine uQ 12 _ ?_;with_reducible refine sxE ?_
 have f:=wsx i (by omega);refine ⟨λe=> ?_,λo=> ?_⟩
 . rcases aa with u| ⟨b4,o4,rfl,s⟩
   . exfalso;rw [u] at e;simp at e
   have n:=s i _ (Af e);refine gQ ?_;refine ⟨⟨by omega,e⟩,q9j n.1 n.u8 λm=> ?_⟩;refine gQ ?_;refine ⟨⟨by omega,e⟩,q9P n.1 n.u8 ?_⟩;refine gQ ?_;refine ⟨i+1,e,by dsimp only;omega,rfl,?_⟩;with_reducible refine sx1 f ?_;trivial
 clear D o f;refine uQ 6 _ ?_;with_reducible refine sxE ?_
 have hok7:=F.2.2.2.2.2.2;refine q4T 10 a.2.2.2.2.2.2.length (λ_=>True) ?_ λi D _=> ?_
 . with_reducible refine sxE ?_;trivial
 refine uQ 11 _ ?_;with_reducible refine sxE ?_
 have f:=wsx i (by omega);refine ⟨λe=> ?_,λo=> ?_⟩
 . rcases U with u| ⟨b5,o5,rfl,I⟩
   . exfalso;rw [u] at e;simp at e
   have C:=I i (a.2.2.2.2.2.2.getD i PreT.dflt) (by rw [Ae,Af e];rfl);have O:=L _ (q3q (d:=PreT.dflt) e);generalize a.2.2.2.2.2.2.getD i PreT.dflt=x at C O;refine gQ ?_;refine q4T 11 x.2.length (λ_=>True) ?_ λj hj _=> ?_
   . with_reducible refine sxE ?_;trivial
   have K:=wsx j (by omega);refine gQ ?_;refine ⟨⟨by omega,e⟩,j2J (t:=.u8) (ys:=x.2) C.snd λv ab=> ?_⟩;obtain ⟨A',c',rfl,hA'⟩:=ab.out;refine gQ ?_;refine ⟨λy=> ?_,λhge2=> ?_⟩
   . refine ⟨⟨by omega,e⟩,j2J (t:=.u8) (ys:=x.2) C.snd λv W=> ?_⟩;obtain ⟨A2,c2,rfl,B⟩:=W.out;rcases B with u| ⟨b2,o2,rfl,H⟩
     . exfalso;rw [u] at y;simp at y
     have p:j<x.2.length:=by omega
     have n:=H j _ (Af p);refine gQ ?_;refine ⟨⟨by omega,p⟩,q9j n.1 n.u8 λm=> ?_⟩;refine gQ ?_;refine ⟨⟨by omega,p⟩,q9P n.1 n.u8 ?_⟩;refine gQ ?_;refine ⟨j+1,p,by dsimp only;omega,rfl,?_⟩;with_reducible refine sx1 K ?_;trivial
   refine ⟨⟨by omega,e⟩,q9j C.1 C.fst.int λm=> ?_⟩;refine gQ ?_;refine ⟨⟨by omega,e⟩,q9P C.1 C.fst.int ?_⟩;refine gQ ?_;refine ⟨i+1,e,by dsimp only;omega,rfl,?_⟩;with_reducible refine sx1 f ?_;trivial
 clear D o f;refine gQ ?_;refine cQ X ?_;refine cQ S ?_;trivial
end Go.Proofs.YthbcodbcndiapaaGreatDoor