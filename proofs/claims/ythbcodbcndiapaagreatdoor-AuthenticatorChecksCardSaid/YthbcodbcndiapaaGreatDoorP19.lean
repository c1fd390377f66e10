/- SHA-256: the blocks in a form that the kernel computes. -/
import Derived.Test.YthbcodbcndiapaaGreatDoorP18
set_option linter.all false
namespace Go.Proofs.YthbcodbcndiapaaGreatDoor
open Go Go.Sx Go.Proofs
set_option maxRecDepth 100000
set_option maxHeartbeats 40000000
variable {α:Type}
def forceN(x:Nat)(f:Nat->α):α:=match x with
 |0=>f 0
 |n+1=>f (n+1)
theorem q0U(x:Nat)(f:Nat->α):forceN x f=f x:=by cases x<;>rfl
def rotN(n x:Nat):Nat:=x / 2^ n+x*2^ (32-n)%4294967296
def sg0N(x:Nat):Nat:=(rotN 7 x^^^ rotN 18 x) ^^^ (x / 8)
def sg1N(x:Nat):Nat:=(rotN 17 x^^^ rotN 19 x) ^^^ (x / 1024)
def bs0N(x:Nat):Nat:=(rotN 2 x^^^ rotN 13 x) ^^^ rotN 22 x
def bs1N(x:Nat):Nat:=(rotN 6 x^^^ rotN 11 x) ^^^ rotN 25 x
def chN(e f g:Nat):Nat:=(e&&& f) ^^^ ((4294967295-e) &&& g)
def majN(a b c:Nat):Nat:=((a&&& b) ^^^ (a&&& c)) ^^^ (b&&& c)
def q4k(n x:Nat):rotW n (x:Int)=(rotN n x:Int):=by unfold rotW rotN;simp
def q3F(a b:Nat):xorW (a:Int) (b:Int)=((a^^^ b:Nat):Int):=by simp [xorW]
def z0F(a b:Nat):andW (a:Int) (b:Int)=((a&&& b:Nat):Int):=by simp [andW]
def j7j(x:Nat):sg0 (x:Int)=(sg0N x:Int):=by unfold sg0 sg0N;rw [q4k,q4k,q3F,show ((x:Int) / 8)=((x / 8:Nat):Int) by simp,q3F]
def j7n(x:Nat):sg1 (x:Int)=(sg1N x:Int):=by unfold sg1 sg1N;rw [q4k,q4k,q3F,show ((x:Int) / 1024)=((x / 1024:Nat):Int) by simp,q3F]
def j7x(x:Nat):bs0 (x:Int)=(bs0N x:Int):=by unfold bs0 bs0N;rw [q4k,q4k,q4k,q3F,q3F]
def j7l(x:Nat):bs1 (x:Int)=(bs1N x:Int):=by unfold bs1 bs1N;rw [q4k,q4k,q4k,q3F,q3F]
def j7B{e f g:Nat}(he:e<=4294967295):chW (e:Int) (f:Int) (g:Int)=(chN e f g:Int):=by unfold chW chN;rw [show (4294967295- (e:Int))=((4294967295-e:Nat):Int) by omega,z0F,z0F,q3F]
def j5n(a b c:Nat):majW (a:Int) (b:Int) (c:Int)=(majN a b c:Int):=by unfold majW majN;rw [z0F,z0F,z0F,q3F,q3F]
def schedN:Nat->List Nat->List Nat
 |0,l=>l
 |n+1,l=>forceN ((sg1N (l.getD 1 0)+l.getD 6 0+sg0N (l.getD 14 0)+l.getD 15 0)%4294967296) fun w=>schedN n (w :: l)
def wN(b:List UInt8)(t:Nat):Nat:=(wS b t).toNat
def q4r(b:List UInt8)(t:Nat):((wN b t:Nat):Int)=wS b t:=by have:=q2N b t;unfold wN;omega
def wsR(b:List UInt8):Nat->List Nat
 |0=>[]
 |t+1=>wN b t :: wsR b t
def q7A(b:List UInt8):∀ {t i:Nat},i<t->(wsR b t).getD i 0=wN b (t-1-i)
 |t+1,0,_=>rfl
 |t+1,i+1,h=>by show (wsR b t).getD i 0=_;rw [q7A b (by omega)];congr 1;omega
def z4l(b:List UInt8):∀ (n t:Nat),16<=t->schedN n (wsR b t)=wsR b (t+n)
 |0,t,_=>rfl
 |n+1,t,h=>by
  rw [schedN,q0U,q7A b (by omega),q7A b (by omega),q7A b (by omega),q7A b (by omega)];have e:(sg1N (wN b (t-1-1))+wN b (t-1-6)+sg0N (wN b (t-1-14))+wN b (t-1-15))%4294967296=wN b t:=by have h1:=z1Z (b:=b) h;rw [<-q4r,<-q4r,<-q4r,<-q4r,<-q4r,j7n,j7j] at h1;rw [show t-1-1=t-2 by omega,show t-1-6=t-7 by omega,show t-1-14=t-15 by omega,show t-1-15=t-16 by omega];unfold W32 at h1;omega
  rw [e];have:=z4l b n (t+1) (by omega);rw [show t+1+n=t+ (n+1) by omega] at this;exact this
def rndN:List Nat->List Nat->Nat->Nat->Nat->Nat->Nat->Nat->Nat->Nat->List Nat
 |k :: ks,w :: ws,a,b,c,d,e,f,g,h=>forceN (h+bs1N e+chN e f g+k+w) fun t1=>forceN ((t1+ (bs0N a+majN a b c))%4294967296) fun a'=>forceN ((d+t1)%4294967296) fun e'=>rndN ks ws a' a b c e' e f g
 |_,_,a,b,c,d,e,f,g,h=>[a,b,c,d,e,f,g,h]
def cast8(l:List Nat):List Int:=l.map fun (n:Nat)=>(n:Int)
def j7z{k w a b c d e f g h:Nat}(he:e<=4294967295):rnd (k:Int) (w:Int) (cast8 [a,b,c,d,e,f,g,h])=cast8 [(h+bs1N e+chN e f g+k+w+ (bs0N a+majN a b c))%4294967296,a,b,c,(d+ (h+bs1N e+chN e f g+k+w))%4294967296,e,f,g]:=by
 have h1:t1S (k:Int) (w:Int) (cast8 [a,b,c,d,e,f,g,h])=((h+bs1N e+chN e f g+k+w:Nat):Int):=by show (h:Int)+bs1 (e:Int)+chW (e:Int) (f:Int) (g:Int)+k+w=_;rw [j7l,j7B he];omega
 have h2:t2S (cast8 [a,b,c,d,e,f,g,h])=((bs0N a+majN a b c:Nat):Int):=by show bs0 (a:Int)+majW (a:Int) (b:Int) (c:Int)=_;rw [j7x,j5n];omega
 unfold rnd;rw [h1,h2];simp only [cast8,AC,B3,BJ,Bw];unfold W32;congr 1
def kN(t:Nat):Nat:=(kS t).toNat
def j4P{t:Nat}(h:t<64):((kN t:Nat):Int)=kS t:=by have:=j7w t h;unfold kN;omega
def z7r(b:List UInt8)(h:List Int):∀ (n t:Nat) (a b' c d e f g h':Nat),e<=4294967295->t+n<=64->rnds b h t=cast8 [a,b',c,d,e,f,g,h']->
 rnds b h (t+n)=cast8 (rndN ((List.range' t n).map kN) ((List.range' t n).map (wN b)) a b' c d e f g h')
 |0,t,a,b',c,d,e,f,g,h',he,ht,hr=>hr
 |n+1,t,a,b',c,d,e,f,g,h',he,ht,hr=>by rw [List.range'_succ,AC,AC,rndN,q0U,q0U,q0U];have h1:rnds b h (t+1)=rnd (kS t) (wS b t) (rnds b h t):=rfl;rw [hr,<-j4P (by omega),<-q4r,j7z he] at h1;have:=z7r b h n (t+1) _ _ _ _ _ _ _ _ (by omega) (by omega) h1;rw [show t+1+n=t+ (n+1) by omega] at this;exact this
def kList:List Nat:=dat_ref04_constants.map Int.toNat
def j0q:(List.range' 0 64).map kN=kList:=by decide
theorem z8O(b:List UInt8):∀t,(wsR b t).reverse=(List.range t).map (wN b)
 |0=>rfl
 |t+1=>by rw [wsR,List.reverse_cons,z8O b t,B6,Br];rfl
def wbN(b:List UInt8)(t:Nat):Nat:=256* (256* (256* (b.getD (4*t) 0).toNat+ (b.getD (4*t+1) 0).toNat)+ (b.getD (4*t+2) 0).toNat)+ (b.getD (4*t+3) 0).toNat
def j5Z(b:List UInt8){t:Nat}(h:t<16):wbN b t=wN b t:=by have h1:=q4r b t;rw [z1L h] at h1;simp only [wdP,byI,AB] at h1;unfold wbN;omega
def wbR(b:List UInt8):Nat->List Nat->List Nat
 |0,l=>l
 |n+1,l=>forceN (wbN b (15-n)) fun w=>wbR b n (w :: l)
def j1V(b:List UInt8):∀n,n<=16->wbR b n (wsR b (16-n))=wsR b 16
 |0,_=>rfl
 |n+1,h=>by rw [wbR,q0U,j5Z b (by omega)];have:=j1V b n (by omega);rw [show 16-n=(15-n)+1 by omega] at this;rw [show 16- (n+1)=15-n by omega];exact this
def blkE(a b c d e f g h:Nat):List Nat->List Nat
 | [x0,x1,x2,x3,x4,x5,x6,x7]=>[(a+x0)%4294967296,(b+x1)%4294967296,(c+x2)%4294967296,(d+x3)%4294967296,(e+x4)%4294967296,(f+x5)%4294967296,(g+x6)%4294967296,(h+x7)%4294967296]
 |_=>[]
def blkN(bl:List UInt8)(a b c d e f g h:Nat):List Nat:=blkE a b c d e f g h (rndN kList (schedN 48 (wbR bl 16 [])).reverse a b c d e f g h)
def blkF(bl:List UInt8):List Nat->List Nat
 | [a,b,c,d,e,f,g,h]=>forceN a fun a=>forceN b fun b=>forceN c fun c=>forceN d fun d=>forceN e fun e=>forceN f fun f=>forceN g fun g=>forceN h fun h=>blkN bl a b c d e f g h
 |_=>[]
def z6Z(bl:List UInt8)(a b c d e f g h:Nat):blkF bl [a,b,c,d,e,f,g,h]=blkN bl a b c d e f g h:=by simp only [blkF,q0U]
variable {r:List Nat}
theorem j4T(a b c d e f g h:Nat)(hr:r.length=8):(blkE a b c d e f g h r).length=8∧∀x∈blkE a b c d e f g h r,x<=4294967295:=by
 match r,hr with
 | [x0,x1,x2,x3,x4,x5,x6,x7],_=>refine ⟨rfl,fun x hm=> ?_⟩;simp only [blkE,Bm,CC,or_false] at hm;rcases hm with rfl|rfl|rfl|rfl|rfl|rfl|rfl|rfl<;>omega
def j3o(a b c d e f g h:Nat)(hr:r.length=8):((List.range 8).map fun i=>((cast8 [a,b,c,d,e,f,g,h]).getD i 0+ (cast8 r).getD i 0)%W32)=cast8 (blkE a b c d e f g h r):=by
 match r,hr with
 | [x0,x1,x2,x3,x4,x5,x6,x7],_=>simp [cast8,blkE,B6,W32]
def q9M:∀ (ks ws:List Nat) (a b c d e f g h:Nat),(rndN ks ws a b c d e f g h).length=8
 | [],_,a,b,c,d,e,f,g,h=>by unfold rndN;rfl
 |_ :: _,[],a,b,c,d,e,f,g,h=>by unfold rndN;rfl
 |k :: ks,w :: ws,a,b,c,d,e,f,g,h=>by rw [rndN,q0U,q0U,q0U];exact q9M ks ws _ _ _ _ _ _ _ _
def j2U(bl:List UInt8):(List.range' 0 64).map (wN bl)=(schedN 48 (wbR bl 16 [])).reverse:=by have h1:wbR bl 16 []=wsR bl 16:=j1V bl 16 (by decide);rw [h1,z4l bl 48 16 (by decide),z8O,List.range_eq_range']
theorem j5b(bl:List UInt8){a b c d e f g h:Nat}(he:e<=4294967295):blkS bl (cast8 [a,b,c,d,e,f,g,h])=cast8 (blkF bl [a,b,c,d,e,f,g,h]):=by have h1:=z7r bl (cast8 [a,b,c,d,e,f,g,h]) 64 0 a b c d e f g h he (by decide) rfl;rw [j0q,j2U] at h1;rw [z6Z];unfold blkN blkS;have h2:=q9M kList (schedN 48 (wbR bl 16 [])).reverse a b c d e f g h;generalize rndN kList (schedN 48 (wbR bl 16 [])).reverse a b c d e f g h=r at*;rw [Ae] at h1;rw [h1];exact j3o a b c d e f g h h2
def hashF(p:List UInt8):Nat->List Nat
 |0=>[0x6a09e667,0xbb67ae85,0x3c6ef372,0xa54ff53a,0x510e527f,0x9b05688c,0x1f83d9ab,0x5be0cd19]
 |k+1=>blkF ((p.take (64*k+64)).drop (64*k)) (hashF p k)
variable {l:List Nat}
def j4F(bl:List UInt8)(h:l.length=8):(blkF bl l).length=8∧∀x∈blkF bl l,x<=4294967295:=by
 match l,h with
 | [a,b,c,d,e,f,g,h],_=>rw [z6Z];exact j4T a b c d e f g h (q9M _ _ _ _ _ _ _ _ _ _)
def z4q(p:List UInt8):∀k,(hashF p k).length=8∧∀x∈hashF p k,x<=4294967295
 |0=>⟨rfl,fun x hx=>by simp [hashF] at hx;omega⟩
 |k+1=>j4F _ (z4q p k).1
theorem z3b(p:List UInt8):∀k,hashS p k=cast8 (hashF p k)
 |0=>rfl
 |k+1=>by
  rw [hashS,z3b p k,hashF];have h:=z4q p k;generalize hashF p k=l at*;match l,h with
  | [a,b,c,d,e,f,g,h'],⟨_,h2⟩=>exact j5b _ (h2 e (by simp))
def wordF(l:List Nat)(i:Nat):UInt8:=UInt8.ofNat ((l.getD (i / 4) 0) / 2^ (24-8* (i%4))%256)
def shaF(b:List UInt8):List UInt8:=(List.range 32).map (wordF (hashF (padS b) (blksN b)))
theorem z8J(b:List UInt8):shaS b=shaF b:=by
 unfold shaS shaF bytesS;rw [z3b];apply Ba;intro i hi;have key:∀ (l:List Nat) (j:Nat),((cast8 l).getD j 0).toNat=l.getD j 0:=fun l j=>by unfold cast8;rw [Aa,Aa,AF];cases l[j]?<;>rfl
 unfold wordB wordF;rw [key]
def frcL{α:Type}:List Nat->(List Nat->α)->α
 | [],f=>f []
 |x :: l,f=>forceN x fun y=>frcL l fun m=>f (y :: m)
theorem q3o{α:Type}:∀ (l:List Nat) (f:List Nat->α),frcL l f=f l
 | [],f=>rfl
 |x :: l,f=>by rw [frcL,q0U,q3o l]
def obN(l:List Nat):List UInt8:=l.map UInt8.ofNat
def tbN(l:List UInt8):List Nat:=l.map UInt8.toNat
def z9I(l:List UInt8):obN (tbN l)=l:=by unfold obN tbN;rw [BS];exact (Ba fun x _=>AZ).trans (List.map_id _)
def q5G(a b:Nat):UInt8.ofNat (a^^^ b)=UInt8.ofNat a^^^ UInt8.ofNat b:=by apply BP.1;rw [Dd,A8,A8,A8,<-Nat.xor_mod_two_pow]
def sTabN:Nat:=(dat_ref06_substitutes:List UInt8).foldr (fun c a=>c.toNat+256*a) 0
def sbN(tb n:Nat):Nat:=tb / 2^ (8* (n%256))%256
def x2N(n:Nat):Nat:=(2* (n%256)) ^^^ (n%256 / 128*283)
def j5J:forceN sTabN (fun tb=>(List.range 256).all fun m=>(subS (UInt8.ofNat m)).toNat==sbN tb m)=true:=by kernel_rfl
def z3O:((List.range 256).all fun m=>(mulS 2 (UInt8.ofNat m)).toNat==x2N m%256&& ((mulS 3 (UInt8.ofNat m)).toNat==(x2N m^^^ m)%256&& ((mulS 1 (UInt8.ofNat m)).toNat==m&& (dblS (UInt8.ofNat m)).toNat==x2N m%256)))=true:=by kernel_rfl
def all256{p:Nat->Bool}(h:(List.range 256).all p=true)(m:Nat):p (m%256)=true:=by rw [Bb] at h;exact h _ (BE.2 (Dc _ (by decide)))
def q2S(n:Nat):UInt8.ofNat (n%256)=UInt8.ofNat n:=by apply BP.1;rw [A8,A8,Nat.mod_mod]
def z0R{b:UInt8}{n:Nat}(h:b.toNat=n):b=UInt8.ofNat n:=by rw [<-h,AZ]
def j6R(n:Nat):subS (UInt8.ofNat n)=UInt8.ofNat (sbN sTabN n):=by have h:=j5J;rw [q0U] at h;have h1:=all256 h n;rw [beq_iff_eq,q2S] at h1;refine (z0R h1).trans ?_;unfold sbN;rw [Nat.mod_mod]
def z4t(n:Nat):x2N (n%256)=x2N n:=by unfold x2N;rw [Nat.mod_mod]
def z7q(n:Nat):mulS 2 (UInt8.ofNat n)=UInt8.ofNat (x2N n):=by have h1:=all256 z3O n;simp only [Am,beq_iff_eq,q2S,z4t] at h1;rw [z0R h1.1,q2S]
def j2R(n:Nat):mulS 3 (UInt8.ofNat n)=UInt8.ofNat (x2N n^^^ n):=by have h1:=all256 z3O n;simp only [Am,beq_iff_eq,q2S,z4t] at h1;rw [z0R h1.2.1,q2S,q5G,q2S,q5G]
def j2l(n:Nat):mulS 1 (UInt8.ofNat n)=UInt8.ofNat n:=by have h1:=all256 z3O n;simp only [Am,beq_iff_eq,q2S,z4t] at h1;rw [z0R h1.2.2.1,q2S]
def j5y(n:Nat):dblS (UInt8.ofNat n)=UInt8.ofNat (x2N n):=by have h1:=all256 z3O n;simp only [Am,beq_iff_eq,q2S,z4t] at h1;rw [z0R h1.2.2.2,q2S]
theorem j4f(g:Nat->UInt8):fS g= [g 0,g 1,g 2,g 3,g 4,g 5,g 6,g 7,g 8,g 9,g 10,g 11,g 12,g 13,g 14,g 15]:=rfl
def xorL(a b:List Nat):List Nat:=List.zipWith (· ^^^ ·) a b
theorem len16(h:l.length=16):∃a b c d e f g i j k m n o p q r,l= [a,b,c,d,e,f,g,i,j,k,m,n,o,p,q,r]:=by
 match l,h with
 | [a,b,c,d,e,f,g,i,j,k,m,n,o,p,q,r],_=>exact ⟨a,b,c,d,e,f,g,i,j,k,m,n,o,p,q,r,rfl⟩
theorem q9E{a b:List Nat}(ha:a.length=16)(hb:b.length=16):(xorL a b).length=16:=by unfold xorL;rw [List.length_zipWith,ha,hb];rfl
def j2f{a b:List Nat}(ha:a.length=16)(hb:b.length=16):xorS (obN a) (obN b)=obN (xorL a b):=by obtain ⟨a0,a1,a2,a3,a4,a5,a6,a7,a8,a9,aa,ab,ac,ad,ae,af,rfl⟩:=len16 ha;obtain ⟨b0,b1,b2,b3,b4,b5,b6,b7,b8,b9,ba,bb,bc,bd,be,bf,rfl⟩:=len16 hb;unfold xorS;rw [j4f];simp only [obN,xorL,List.zipWith_cons_cons,List.zipWith_nil_left,AC,B3,q5G,BJ,Bw]
def shN(tb:Nat):List Nat->List Nat
 | [s0,s1,s2,s3,s4,s5,s6,s7,s8,s9,sa,sb,sc,sd,se,sf]=>[sbN tb s0,sbN tb s5,sbN tb sa,sbN tb sf,sbN tb s4,sbN tb s9,sbN tb se,sbN tb s3,sbN tb s8,sbN tb sd,sbN tb s2,sbN tb s7,sbN tb sc,sbN tb s1,sbN tb s6,sbN tb sb]
 |_=>[]
def colN(a b c d:Nat)(l:List Nat):List Nat:=(((x2N a^^^ (x2N b^^^ b)) ^^^ c) ^^^ d) :: (((a^^^ x2N b) ^^^ (x2N c^^^ c)) ^^^ d) :: (((a^^^ b) ^^^ x2N c) ^^^ (x2N d^^^ d)) :: ((((x2N a^^^ a) ^^^ b) ^^^ c) ^^^ x2N d) :: l
def mcN:List Nat->List Nat
 | [s0,s1,s2,s3,s4,s5,s6,s7,s8,s9,sa,sb,sc,sd,se,sf]=>colN s0 s1 s2 s3 (colN s4 s5 s6 s7 (colN s8 s9 sa sb (colN sc sd se sf [])))
 |_=>[]
theorem j3i(h:l.length=16)(tb:Nat):(shN tb l).length=16:=by obtain ⟨a0,a1,a2,a3,a4,a5,a6,a7,a8,a9,aa,ab,ac,ad,ae,af,rfl⟩:=len16 h;rfl
theorem j4v(h:l.length=16):(mcN l).length=16:=by obtain ⟨a0,a1,a2,a3,a4,a5,a6,a7,a8,a9,aa,ab,ac,ad,ae,af,rfl⟩:=len16 h;rfl
theorem j7s(h:l.length=16):shfS (obN l)=obN (shN sTabN l):=by obtain ⟨a0,a1,a2,a3,a4,a5,a6,a7,a8,a9,aa,ab,ac,ad,ae,af,rfl⟩:=len16 h;unfold shfS;rw [j4f];simp only [obN,shN,AC,B3,<-j6R];rfl
def j6x(b f:List UInt8)(c r:Nat):mixA b f c r 4=((mulS (f.getD ((0+4-r)%4) 0) (b.getD (4*c+0) 0) ^^^ mulS (f.getD ((1+4-r)%4) 0) (b.getD (4*c+1) 0)) ^^^ mulS (f.getD ((2+4-r)%4) 0) (b.getD (4*c+2) 0)) ^^^ mulS (f.getD ((3+4-r)%4) 0) (b.getD (4*c+3) 0):=by simp only [mixA,BO]
def j7q(h:l.length=16):mixS (obN l) [2,3,1,1]=obN (mcN l):=by obtain ⟨a0,a1,a2,a3,a4,a5,a6,a7,a8,a9,aa,ab,ac,ad,ae,af,rfl⟩:=len16 h;unfold mixS;rw [j4f];simp only [j6x,obN,mcN,colN,AC,B3,q5G,<-z7q];simp only [Nat.reduceDiv,Nat.reduceMod,Nat.reduceAdd,Nat.reduceSub,Nat.reduceMul,BJ,Bw,j2l];simp only [j2R,q5G,<-z7q]
def nextK(tb p:Nat):List Nat->List Nat
 | [k0,k1,k2,k3,k4,k5,k6,k7,k8,k9,ka,kb,kc,kd,ke,kf]=>
  frcL [k0^^^ (sbN tb kd^^^ p),k1^^^ sbN tb ke,k2^^^ sbN tb kf,k3^^^ sbN tb kc] fun w=>
  frcL (xorL [k4,k5,k6,k7] w) fun x=>frcL (xorL [k8,k9,ka,kb] x) fun y=>w++x++y++xorL [kc,kd,ke,kf] y
 |_=>[]
def rkyC{α:Type}(tb:Nat):Nat->Nat->List Nat->(List (List Nat)->α)->α
 |0,_,k,f=>f [k]
 |n+1,p,k,f=>frcL (nextK tb p k) fun k'=>forceN (x2N p) fun p'=>rkyC tb n p' k' fun l=>f (k :: l)
def rkyN(tb:Nat):Nat->Nat->List Nat->List (List Nat)
 |0,_,k=>[k]
 |n+1,p,k=>k :: rkyN tb n (x2N p) (nextK tb p k)
theorem z1H{α:Type}(tb:Nat):∀ (n p:Nat) (k:List Nat) (f:List (List Nat)->α),rkyC tb n p k f=f (rkyN tb n p k)
 |0,_,_,_=>rfl
 |n+1,p,k,f=>by rw [rkyC,q3o,q0U,z1H tb n];rfl
def okK(key:List UInt8)(r:Nat)(l:List Nat):Prop:=l.length=16∧∀j,j<16->(wordsS key).getD (16*r+j) 0=UInt8.ofNat (l.getD j 0)
variable {key:List UInt8}
theorem j4W(hk:key.length=16){r p:Nat}(hr:r<10)(h:okK key r l)(hp:facS key (4*r+4)=UInt8.ofNat p):okK key (r+1) (nextK sTabN p l)∧facS key (4* (r+1)+4)=UInt8.ofNat (x2N p):=by
 obtain ⟨hl,hb⟩:=h;obtain ⟨k0,k1,k2,k3,k4,k5,k6,k7,k8,k9,ka,kb,kc,kd,ke,kf,rfl⟩:=len16 hl;have e:∀ (i j:Nat),i<4->j<4->(wordsS key).getD (16* (r+1)+ (4*i+j)) 0=(wordsS key).getD (16*r+ (4*i+j)) 0^^^ (lastS (wordsS key) (facS key (4*r+4+i)) (4*r+4+i)).getD j 0:=fun i j hi hj=>by have:=q8d key hk (i:=4*r+4+i) (j:=j) (by omega) (by omega) hj;rw [show 4* (4*r+4+i)+j=16* (r+1)+ (4*i+j) by omega,show 4* (4*r+4+i-4)+j=16*r+ (4*i+j) by omega] at this;exact this
 have l0:lastS (wordsS key) (facS key (4*r+4)) (4*r+4)= [UInt8.ofNat (sbN sTabN kd) ^^^ UInt8.ofNat p,UInt8.ofNat (sbN sTabN ke),UInt8.ofNat (sbN sTabN kf),UInt8.ofNat (sbN sTabN kc)]:=by unfold lastS;rw [if_pos (by omega),show 4* (4*r+4) -3=16*r+13 by omega,show 4* (4*r+4) -2=16*r+14 by omega,show 4* (4*r+4) -1=16*r+15 by omega,show 4* (4*r+4) -4=16*r+12 by omega,hb 13 (by decide),hb 14 (by decide),hb 15 (by decide),hb 12 (by decide),hp];simp only [BJ,Bw,j6R]
 have li:∀i,1<=i->i<4->lastS (wordsS key) (facS key (4*r+4+i)) (4*r+4+i)= [(wordsS key).getD (16* (r+1)+ (4* (i-1)+0)) 0,(wordsS key).getD (16* (r+1)+ (4* (i-1)+1)) 0,(wordsS key).getD (16* (r+1)+ (4* (i-1)+2)) 0,(wordsS key).getD (16* (r+1)+ (4* (i-1)+3)) 0]:=fun i h1 h2=>by unfold lastS;rw [if_neg (by omega),show 4* (4*r+4+i) -4=16* (r+1)+ (4* (i-1)+0) by omega,show 4* (4*r+4+i) -3=16* (r+1)+ (4* (i-1)+1) by omega,show 4* (4*r+4+i) -2=16* (r+1)+ (4* (i-1)+2) by omega,show 4* (4*r+4+i) -1=16* (r+1)+ (4* (i-1)+3) by omega]
 have c0:=fun j hj=>e 0 j (by decide) hj;have c1:=fun j hj=>e 1 j (by decide) hj;have c2:=fun j hj=>e 2 j (by decide) hj;have c3:=fun j hj=>e 3 j (by decide) hj;simp only [AB,l0] at c0;rw [li 1 (by decide) (by decide)] at c1;rw [li 2 (by decide) (by decide)] at c2;rw [li 3 (by decide) (by decide)] at c3;simp only [Nat.reduceSub,Nat.reduceMul,Nat.reduceAdd,Ae,AB] at c0 c1 c2 c3;have hf:facS key (4* (r+1)+4)=UInt8.ofNat (x2N p):=by rw [show 4* (r+1)+4=4*r+4+1+1+1+1 by omega,q3S key (by omega),if_neg (by omega),q3S key (by omega),if_neg (by omega),q3S key (by omega),if_neg (by omega),q3S key (by omega),if_pos (by omega),hp,j5y]
 refine ⟨⟨?_,?_⟩,hf⟩
 . simp only [nextK,q3o,xorL];rfl
 have d0:=c0 0 (by decide);have d1:=c0 1 (by decide);have d2:=c0 2 (by decide);have d3:=c0 3 (by decide);have d4:=c1 0 (by decide);have d5:=c1 1 (by decide);have d6:=c1 2 (by decide);have d7:=c1 3 (by decide);have d8:=c2 0 (by decide);have d9:=c2 1 (by decide);have da:=c2 2 (by decide);have db:=c2 3 (by decide);have dc:=c3 0 (by decide);have dd:=c3 1 (by decide);have de:=c3 2 (by decide);have df:=c3 3 (by decide);have b0:=hb 0 (by decide);have b1:=hb 1 (by decide);have b2:=hb 2 (by decide);have b3:=hb 3 (by decide);have b4:=hb 4 (by decide);have b5:=hb 5 (by decide);have b6:=hb 6 (by decide);have b7:=hb 7 (by decide);have b8:=hb 8 (by decide);have b9:=hb 9 (by decide);have ba:=hb 10 (by decide);have bb:=hb 11 (by decide);have bc:=hb 12 (by decide);have bd:=hb 13 (by decide);have be:=hb 14 (by decide);have bf:=hb 15 (by decide);simp only [AB,Ae,Nat.reduceAdd,BJ,Bw] at*;have key2:∀j,j<16->j=0∨j=1∨j=2∨j=3∨j=4∨j=5∨j=6∨j=7∨j=8∨j=9∨j=10∨j=11∨j=12∨j=13∨j=14∨j=15:=by omega
 intro j hj;rcases key2 j hj with rfl|rfl|rfl|rfl|rfl|rfl|rfl|rfl|rfl|rfl|rfl|rfl|rfl|rfl|rfl|rfl;all_goals
  simp only [nextK,q3o,xorL,List.zipWith_cons_cons,List.zipWith_nil_left,AH,Ax,BJ,Bw,q5G,AB,d0,d1,d2,d3,d4,d5,d6,d7,d8,d9,da,db,dc,dd,de,df,b0,b1,b2,b3,b4,b5,b6,b7,b8,b9,ba,bb,bc,bd,be,bf]
theorem z7T(l:List Nat)(j:Nat):(obN l).getD j 0=UInt8.ofNat (l.getD j 0):=by unfold obN;rw [Aa,Aa,AF];cases l[j]?<;>rfl
def j1G{r:Nat}{k:List Nat}(hk:okK key r k)(hl:l.length=16):addS (obN l) (wordsS key) r=obN (xorL l k):=by rw [<-j2f hl hk.1];unfold addS xorS fS;apply Ba;intro i hi;rw [BE] at hi;rw [hk.2 i hi,z7T k]
def j1L{key:List UInt8}(hk:key.length=16):∀ (n r p:Nat) (k:List Nat),r+n<=10->okK key r k->facS key (4*r+4)=UInt8.ofNat p->(rkyN sTabN n p k).length=n+1∧∀i,i<=n->okK key (r+i) ((rkyN sTabN n p k).getD i [])
 |0,r,p,k,hr,ho,hf=>⟨rfl,fun i hi=>by
  have:i=0:=by omega
  subst this;exact ho⟩
 |n+1,r,p,k,hr,ho,hf=>by
  obtain ⟨h1,h2⟩:=j4W hk (by omega) ho hf;obtain ⟨h3,h4⟩:=j1L hk n (r+1) (x2N p) _ (by omega) h1 h2;refine ⟨by rw [rkyN,AK,h3],fun i hi=> ?_⟩;cases i with
  |zero=>exact ho
  |succ i=>have:=h4 i (by omega);rw [show r+1+i=r+ (i+1) by omega] at this;exact this
def rdN(tb:Nat):List (List Nat)->List Nat->List Nat
 | [],l=>l
 |k :: ks,l=>rdN tb ks (xorL (if ks.isEmpty then shN tb l else mcN (shN tb l)) k)
def rdC{α:Type}(tb:Nat):List (List Nat)->List Nat->(List Nat->α)->α
 | [],l,f=>f l
 |k :: ks,l,f=>frcL (shN tb l) fun s=>frcL (if ks.isEmpty then s else mcN s) fun m=>frcL (xorL m k) fun l'=>rdC tb ks l' f
theorem j1I{α:Type}(tb:Nat):∀ (ks:List (List Nat)) (l:List Nat) (f:List Nat->α),rdC tb ks l f=f (rdN tb ks l)
 | [],_,_=>rfl
 |k :: ks,l,f=>by rw [rdC,q3o,q3o,q3o,j1I tb ks];rfl
def j5u{key b:List UInt8}:∀ (ks:List (List Nat)) (r:Nat) (l:List Nat),(∀i,i<ks.length->okK key (r+1+i) (ks.getD i []))->r+1+ks.length=11->l.length=16->encA (wordsS key) b r=obN l->encS (wordsS key) b=obN (rdN sTabN ks l)∧(rdN sTabN ks l).length=16
 | [],r,l,_,hr,hl,he=>by
  have:r=10:=by simp at hr;omega
  subst this;exact ⟨he,hl⟩
 |k :: ks,r,l,ho,hr,hl,he=>by
  have h0:okK key (r+1) k:=ho 0 (by simp);have hsl:=j3i hl sTabN;have hx:(if ks.isEmpty then shN sTabN l else mcN (shN sTabN l)).length=16:=by
   split
   . exact hsl
   exact j4v hsl
  have hn:encA (wordsS key) b (r+1)=obN (xorL (if ks.isEmpty then shN sTabN l else mcN (shN sTabN l)) k):=by
   rw [encA,he,rndE,<-j1G h0 hx,j7s hl,j7q hsl];congr 1;cases ks with
   |nil=>rw [if_neg (by simp at hr;omega)];rfl
   |cons k' ks=>rw [if_pos (by simp at hr;omega)];rfl
  refine j5u ks (r+1) _ (fun i hi=> ?_) (by simp at hr;omega) (q9E hx h0.1) hn;have:=ho (i+1) (by simp;omega);rw [show r+1+ (i+1)=r+1+1+i by omega] at this;exact this
def enN(tb:Nat)(ks:List (List Nat))(b:List Nat):List Nat:=match ks with
 | []=>b
 |k :: ks=>rdN tb ks (xorL b k)
def enC(tb:Nat)(ks:List (List Nat))(b:List Nat)(f:List Nat->α):α:=match ks with
 | []=>f b
 |k :: ks=>frcL (xorL b k) fun l=>rdC tb ks l f
theorem j6C(tb:Nat)(ks:List (List Nat))(b:List Nat)(f:List Nat->α):enC tb ks b f=f (enN tb ks b):=by
 cases ks with
 |nil=>rfl
 |cons k ks=>rw [enC,q3o,j1I];rfl
def okKs(key:List UInt8)(ks:List (List Nat)):Prop:=ks.length=11∧∀i,i<=10->okK key i (ks.getD i [])
theorem j7A{ks:List (List Nat)}(hk:okKs key ks){b:List Nat}(hb:b.length=16):encS (wordsS key) (obN b)=obN (enN sTabN ks b)∧(enN sTabN ks b).length=16:=by
 obtain ⟨hl,ho⟩:=hk;match ks,hl,ho with
 |k :: ks,hl,ho=>
  have h0:okK key 0 k:=ho 0 (by omega);refine j5u ks 0 _ (fun i hi=> ?_) (by simp at hl;omega) (q9E hb h0.1) ?_
  . have:=ho (i+1) (by simp at hl;omega);rw [show i+1=0+1+i by omega] at this;rw [show 0+1+i=i+1 by omega] at*;exact this
  rw [encA,j1G h0 hb]
def j4E(hk:key.length=16):okKs key (rkyN sTabN 10 1 (tbN key)):=by
 have h0:okK key 0 (tbN key):=by refine ⟨by unfold tbN;rw [AX,hk],fun j hj=> ?_⟩;rw [show 16*0+j=j by omega,z0Y key hk hj,<-z7T,z9I]
 obtain ⟨h1,h2⟩:=j1L hk 10 0 1 _ (by omega) h0 (z2q key (by omega));exact ⟨h1,fun i hi=>by have:=h2 i hi;rw [Ae] at this;exact this⟩
def cbN(tb:Nat)(ks:List (List Nat))(iv p:List Nat):Nat->List Nat×List Nat
 |0=>(iv,[])
 |n+1=>(enN tb ks (xorL ((p.take (16*n+16)).drop (16*n)) (cbN tb ks iv p n).1),(cbN tb ks iv p n).2++enN tb ks (xorL ((p.take (16*n+16)).drop (16*n)) (cbN tb ks iv p n).1))
def cbC{α:Type}(tb:Nat)(ks:List (List Nat))(iv p:List Nat):Nat->(List Nat->List Nat->α)->α
 |0,f=>f iv []
 |n+1,f=>cbC tb ks iv p n fun v out=>frcL (xorL ((p.take (16*n+16)).drop (16*n)) v) fun x=>enC tb ks x fun c=>f c (out++c)
theorem z7j{α:Type}(tb:Nat)(ks:List (List Nat))(iv p:List Nat):∀ (n:Nat) (f:List Nat->List Nat->α),cbC tb ks iv p n f=f (cbN tb ks iv p n).1 (cbN tb ks iv p n).2
 |0,_=>rfl
 |n+1,f=>by rw [cbC,z7j tb ks iv p n,q3o,j6C];rfl
def j5x{key:List UInt8}{ks:List (List Nat)}(hk:okKs key ks){iv p:List Nat}(hi:iv.length=16):∀n,16*n<=p.length->chA (wordsS key) (obN iv) (obN p) n=(obN (cbN sTabN ks iv p n).1,obN (cbN sTabN ks iv p n).2)∧(cbN sTabN ks iv p n).1.length=16
 |0,_=>⟨rfl,hi⟩
 |n+1,h=>by
  obtain ⟨h1,h2⟩:=j5x (p:=p) hk hi n (by omega);have hb:((p.take (16*n+16)).drop (16*n)).length=16:=by rw [Aj,Ak];omega
  have e:((obN p).take (16*n+16)).drop (16*n)=obN ((p.take (16*n+16)).drop (16*n)):=by unfold obN;rw [List.map_drop,List.map_take]
  obtain ⟨g1,g2⟩:=j7A hk (q9E hb h2);refine ⟨?_,g2⟩;rw [chA,h1,e,j2f hb h2,g1,cbN];simp only [obN,Br]
def ctsC(key iv p:List UInt8)(f:List Nat->α):α:=forceN sTabN fun tb=>rkyC tb 10 1 (tbN key) fun ks=>cbC tb ks (tbN iv) (tbN p) (p.length / 16) fun _ out=>f out
def j0B{iv p:List UInt8}(hk:key.length=16)(hi:iv.length=16):chainS key iv p=ctsC key iv p obN:=by unfold ctsC chainS;rw [q0U,z1H,z7j];have:=(j5x (j4E hk) (iv:=tbN iv) (p:=tbN p) (by unfold tbN;rw [AX,hi]) (p.length / 16) (by unfold tbN;rw [AX];omega)).1;rw [z9I,z9I] at this;rw [this]
def j6Z{iv p c:List UInt8}(hk:key.length=16)(hi:iv.length=16)(hl:c.length≠16)(h:ctsC key iv (zpL p (zpN p.length)) (fun l=>l==tbN c)=true):ctsE key iv p=(exchS c).take p.length:=by
 have e:chainS key iv (zpL p (zpN p.length))=c:=by rw [j0B hk hi];unfold ctsC at h⊢;rw [q0U,z1H,z7j] at h⊢;rw [beq_iff_eq] at h;rw [h,z9I]
 unfold ctsE;rw [e];simp only;rw [if_neg hl]
def hmF(k b:List UInt8):List UInt8:=shaF (hkS k 92++shaF (hkS k 54++b))
def z6x(k b:List UInt8):hmS k b=hmF k b:=by unfold hmS hmF;rw [z8J,z8J]
theorem dk16{p v:Int}{b:List UInt8}(u use:Nat)(hb:b.length=16):dkS (p,v,b) u use=(hmF b (four 1++(four u++ [UInt8.ofNat use])++ [0]++ []++four 128)).take 16:=by rw [<-z6x];show kdfS b (four u++ [UInt8.ofNat use]) [] b.length=_;rw [hb];show (kacc b (four u++ [UInt8.ofNat use]) [] 16 1).take 16=_;have h:kacc b (four u++ [UInt8.ofNat use]) [] 16 1=kblk b (four u++ [UInt8.ofNat use]) [] 16 1:=Ax _;rw [h];rfl
def k16:List UInt8:=List.replicate 16 1
def cf3:List UInt8:=List.replicate 16 3
def a17:Aut:=(([⟨#[97]⟩],⟨#[82]⟩),[],10,7,(0,0,[]),1,[])
def pln17:List UInt8:=[98,43,48,41,160,3,2,1,5,161,14,48,12,160,5,48,3,27,1,97,161,3,27,1,82,163,3,2,1,7,164,8,24,6,0,0,0,0,0,10,166,3,2,1,1]
def e11:List UInt8:=[64,35,45,162,19,223,77,27,164,20,92,171,251,171,201,40]
def m11:List UInt8:=[252,150,229,143,30,22,150,125,46,214,179,59,220,93,126,178]
def m7:List UInt8:=[163,88,142,153,58,251,89,39,170,41,2,52,88,169,189,68]
def ch17:List UInt8:=[169,231,95,161,140,145,223,185,98,82,68,151,127,216,54,163,81,91,126,12,35,152,243,230,99,86,113,38,153,97,12,255,169,166,11,221,12,170,13,130,75,69,82,57,97,48,66,23,205,217,13,81,12,102,69,189,230,17,214,184,251,34,214,24]
def ct17:List UInt8:=[169,231,95,161,140,145,223,185,98,82,68,151,127,216,54,163,81,91,126,12,35,152,243,230,99,86,113,38,153,97,12,255,205,217,13,81,12,102,69,189,230,17,214,184,251,34,214,24,169,166,11,221,12,170,13,130,75,69,82,57,97]
def tg11:List UInt8:=[144,202,138,216,107,183,139,144,159,96,191,248,127,199,193,157]
def tg7:List UInt8:=[185,105,209,48,55,251,165,186,123,19,51,32,233,167,129,41]
def q6J:autS a17=pln17:=by kernel_rfl
def va17:vAut a17=true:=by kernel_rfl
def rd17:autD pln17=some a17:=by kernel_rfl
theorem j6P:dkS (1,0,k16) 11 170=e11:=by rw [dk16 11 170 rfl];kernel_rfl
theorem j6p:dkS (1,0,k16) 11 85=m11:=by rw [dk16 11 85 rfl];kernel_rfl
theorem j7v:dkS (1,0,k16) 7 85=m7:=by rw [dk16 7 85 rfl];kernel_rfl
def j2u:(hmS m11 (z16++ct17)).take 16=tg11:=by rw [z6x];kernel_rfl
def j5m:(hmS m7 (z16++ct17)).take 16=tg7:=by rw [z6x];kernel_rfl
def j4j:ctsE e11 z16 (cf3++pln17)=ct17:=by rw [j6Z (c:=ch17) rfl rfl (by decide) (by kernel_rfl)];kernel_rfl
theorem se17:seS (1,0,k16) 11 cf3 pln17=ct17++tg11:=by unfold seS ciS tg9S;rw [if_pos rfl,if_pos rfl,j6P,j6p,j4j,j2u]
theorem opx17:opS (1,0,k16) 7 1 0 (ct17++tg11)=([],10):=by
 have e1:(ct17++tg11).take ((ct17++tg11).length-k16.length)=ct17:=by kernel_rfl
 have e2:(ct17++tg11).drop ((ct17++tg11).length-k16.length)=tg11:=by kernel_rfl
 unfold opS;rw [if_pos (by kernel_rfl),if_pos (by decide)];dsimp only;rw [if_neg (by decide),if_neg (by decide),e1,e2];unfold tg9S;rw [if_pos rfl,j7v,j5m,if_neg (by decide)]
set_option maxHeartbeats 4000000
theorem q6k(n:Int):PC Tryz.prog 13 [rI n] (rI n):=by refine q0q rfl rfl ?_;refine rQ fi13 ?_;trivial
def z4u(c:UInt8)(m:Int)(hm:m=c.toNat)(n:Nat)(hn:n<=1048576):PC Tryz.prog 30 [.raw (.int .u8 m),rI n] (.isl .u8 (List.replicate n c)):=by
 subst hm;refine q0n rfl rfl ?_;refine rQ fi30 ?_;refine q5X 5 .u8 (fun i=>List.replicate i c) (fun i=>[(6,rI i)]) n (fun _=>True) rfl (by simp) (by simp) rfl (fun i=>rfl) ?_ fun i hi _=> ?_
 . with_reducible refine sxE ?_;trivial
 have hwr:=wsx i (by omega);have hst:List.replicate (i+1) c=List.replicate i c++ [c]:=CG;refine uQ 600 _ ?_;simp (maxSteps:=3000000) only [BM,go_sem,↓zA,↓reduceIte,↓reduceDIte] <;>try simp only [zB]
 refine ⟨fun hlt=> ?_,fun hge=> ?_⟩
 . refine ⟨j1H c,⟨by omega,by omega⟩,q3j [.dead,.row .u8 [c]] [] hlt trivial (by rw [hst];simp) ?_⟩;simp (maxSteps:=3000000) only [hwr,hst,Ab,BM,go_sem,↓zA,↓reduceIte,↓reduceDIte] <;>try simp only [zB]
 obtain rfl:i=n:=by omega
 refine ⟨⟨Af _,by omega⟩,Ad (by simp)⟩
def p17(s:ByteArray):Prin:=([s],⟨#[82]⟩)
def q6F(s:ByteArray)(hs:s.size<=140737488355328):PC Tryz.prog 29 [rS s] (.agg (PrinT.cells (p17 s))):=by
 refine q0n rfl rfl ?_;refine rQ fi29 ?_;simp (maxSteps:=3000000) only [p17,go_sem,↓zA,↓reduceIte,↓reduceDIte] <;>try simp only [zB]
 exact hs
def s40(l:List ByteArray)(j:Nat):Bool:=decide (((l.getD j (Ty.dflt .str)).size:Int)<=40)
def shortB(p:Prin):Bool:=(decide ((p.1.length:Int)<=6) && decide ((p.2.size:Int)<=40)) && allN p.1.length (s40 p.1)
def z3T(p:Prin)(hp:PrinT.ok p):PC Tryz.prog 22 [.agg (PrinT.cells p)] (rB (shortB p)):=by
 obtain ⟨l,r⟩:=p;have hl:l.length<=1125899906842624:=hp.1.1;have hd:shortB (l,r)=((decide ((l.length:Int)<=6) && decide ((r.size:Int)<=40)) && allN l.length (s40 l)):=rfl;refine q0q rfl rfl ?_;refine rQ fi22 ?_;refine q1u (fun i=>[(3,.raw (.int .i64 ((i:Nat):Int)))]) (l.length) (fun j=>(s40 l) j=true) (by first|decide|simp) (fun i=>rfl) ?_ fun i hi hall=> ?_
 . (with_reducible refine sxE ?_<;>try exact True.intro)
   all_goals (try rfl)
 have hwr:=wsx i (by omega);refine gQ ?_;have bad:i< (l.length)->(s40 l) i=false->allN (l.length) (s40 l)=false:=fun hlt hv=>q0v hlt hv;have fin:¬i< (l.length)->allN (l.length) (s40 l)=true:=fun h=>q0C fun j hj=>hall j (by omega);try dsimp only at bad fin hall
 refine ⟨fun hlt=>⟨⟨by omega,hlt⟩,fun h=> ?_,fun h=> ?_⟩,fun hge=> ?_⟩
 . rw [hd,bad hlt (decide_eq_false (fun q=>absurd h (Da.2 q))),CT]
 . refine ⟨hlt,q1i hall (decide_eq_true (Da.1 h)),⟨[],rfl⟩,?_⟩;with_reducible refine sx1 hwr ?_;trivial
 rw [hd,fin hge,Cp];exact ⟨fun h=>by rw [decide_eq_true h,B7],fun h=>by rw [decide_eq_false h,CU]⟩
def j1a(l l':List Pre)(ho:(Ty.slice PreT).ok l):PC Tryz.prog 89 [.isl PreT l,.isl PreT l'] (rB (decide (l=l'))):=by
 have hlen:l.length<=1125899906842624:=ho.1;have key:=sameN l l' PreT.dflt;refine q0q rfl rfl ?_;refine rQ fi89 ?_;refine ⟨fun h=> ?_,fun h=> ?_⟩
 . rw [decide_eq_false (fun e=>h (by rw [e]))]
 have hll:l.length=l'.length:=by omega
 refine q1u (fun i=>[(5,.raw (.int .i64 ((i:Nat):Int)))]) (l.length) (fun j=>(eqAt l l' PreT.dflt) j=true) (by first|decide|simp) (fun i=>rfl) ?_ fun i hi hall=> ?_
 . (with_reducible refine sxE ?_<;>try exact True.intro)
   all_goals (try rfl)
 have hwr:=wsx i (by omega);refine gQ ?_;have bad:i< (l.length)->(eqAt l l' PreT.dflt) i=false->allN (l.length) (eqAt l l' PreT.dflt)=false:=fun hlt hv=>q0v hlt hv;have fin:¬i< (l.length)->allN (l.length) (eqAt l l' PreT.dflt)=true:=fun h=>q0C fun j hj=>hall j (by omega);try dsimp only at bad fin hall
 have hgd:eqAt l l' PreT.dflt i=decide (l.getD i PreT.dflt=l'.getD i PreT.dflt):=rfl;have hfalse:i<l.length->l.getD i PreT.dflt≠l'.getD i PreT.dflt->decide (l=l')=false:=fun hlt hne=>decide_eq_false (fun e=>by have:=bad hlt (hgd.trans (decide_eq_false hne));rw [(key.1 e).2] at this;cases this);refine ⟨fun hlt=>⟨⟨by omega,hlt⟩,⟨by omega,by omega⟩,fun h1=>⟨⟨by omega,hlt⟩,⟨by omega,by omega⟩,fun h2=> ?_,fun h2=>⟨hlt,q1i hall ?_,⟨[],rfl⟩,?_⟩⟩,fun h1=> ?_⟩,fun hge=> ?_⟩
 . rw [hfalse hlt (fun e=>h2 (by rw [e]))]
 . rw [q4V] at h2;exact hgd.trans (decide_eq_true (Prod.ext h1 h2))
 . with_reducible refine sx1 hwr ?_;trivial
 . rw [hfalse hlt (fun e=>h1 (by rw [e]))]
 rw [decide_eq_true (key.2 ⟨hll,fin hge⟩)]
instance instAut1:DecidableEq (Int×List Pre):=instDecidableEqProd
instance instAut2:DecidableEq (Key×Int×List Pre):=instDecidableEqProd
instance instAut3:DecidableEq (Int×Key×Int×List Pre):=instDecidableEqProd
instance instAut4:DecidableEq (Int×Int×Key×Int×List Pre):=instDecidableEqProd
instance instAut5:DecidableEq (List UInt8×Int×Int×Key×Int×List Pre):=instDecidableEqProd
instance instAutD:DecidableEq Aut:=(instDecidableEqProd:DecidableEq (Prin×List UInt8×Int×Int×Key×Int×List Pre))
theorem z7n(a b:Aut)(ho:AutT.ok a):PC Tryz.prog 17 [.agg (AutT.cells a),.agg (AutT.cells b)] (rB (decide (a=b))):=by
 have c1:=j6H a.1 b.1 ho.1;have c2:=j7d a.2.2.2.2.1 b.2.2.2.2.1;have c3:=j1a a.2.2.2.2.2.2 b.2.2.2.2.2.2 ho.2.2.2.2.2.2;obtain ⟨c,s,t,m,k,q,d⟩:=a;obtain ⟨c',s',t',m',k',q',d'⟩:=b;dsimp only at c1 c2 c3;refine q0q rfl rfl ?_;refine rQ fi17 ?_<;>try with_reducible exact True.intro
 repeat' (first
  | (refine q0a (c1) ?_;refine uQ 600 _ ?_;simp (maxSteps:=3000000) only [go_sem,↓zA,↓reduceIte,↓reduceDIte] <;>try simp only [zB])
  | (refine q0c (c1) ?_;refine uQ 600 _ ?_;simp (maxSteps:=3000000) only [go_sem,↓zA,↓reduceIte,↓reduceDIte] <;>try simp only [zB])
  | (refine q0e (c1) ?_;refine uQ 600 _ ?_;simp (maxSteps:=3000000) only [go_sem,↓zA,↓reduceIte,↓reduceDIte] <;>try simp only [zB])
  | (refine q0a (c2) ?_;refine uQ 600 _ ?_;simp (maxSteps:=3000000) only [go_sem,↓zA,↓reduceIte,↓reduceDIte] <;>try simp only [zB])
  | (refine q0c (c2) ?_;refine uQ 600 _ ?_;simp (maxSteps:=3000000) only [go_sem,↓zA,↓reduceIte,↓reduceDIte] <;>try simp only [zB])
  | (refine q0e (c2) ?_;refine uQ 600 _ ?_;simp (maxSteps:=3000000) only [go_sem,↓zA,↓reduceIte,↓reduceDIte] <;>try simp only [zB])
  | (refine q0a (c3) ?_;refine uQ 600 _ ?_;simp (maxSteps:=3000000) only [go_sem,↓zA,↓reduceIte,↓reduceDIte] <;>try simp only [zB])
  | (refine q0c (c3) ?_;refine uQ 600 _ ?_;simp (maxSteps:=3000000) only [go_sem,↓zA,↓reduceIte,↓reduceDIte] <;>try simp only [zB])
  | (refine q0e (c3) ?_;refine uQ 600 _ ?_;simp (maxSteps:=3000000) only [go_sem,↓zA,↓reduceIte,↓reduceDIte] <;>try simp only [zB])
  | (with_reducible refine And.intro ?_ ?_)
  | (with_reducible intro _))
 all_goals (simp_all [q4V])
set_option maxHeartbeats 40000000
def ordA(a b:Aut):Int:=if cmpI a.2.2.1 b.2.2.1=0 then cmpI a.2.2.2.1 b.2.2.2.1 else cmpI a.2.2.1 b.2.2.1
theorem j6w(a b:Aut)(o1 o2:SObj):PCH Tryz.prog 97 [.agg (AutT.cells a),.agg (AutT.cells b),.csl 2 .u8 0 0 2] (rI (ordA a b)) [o1,o2,.cells 122 [.fn 98 [] [],.fn 99 [] []]]:=by
 have c1:=z6f a;have c2:=z7u a;have c3:=z6f b;have c4:=z7u b;have c5:=j1J a.2.2.1 b.2.2.1;have c6:=j1J a.2.2.2.1 b.2.2.2.1;unfold ordA;generalize cmpI a.2.2.1 b.2.2.1=x1 at*;generalize cmpI a.2.2.2.1 b.2.2.2.1=x2 at*;obtain ⟨n,s,t,m,k,q,d⟩:=a;obtain ⟨n',s',t',m',k',q',d'⟩:=b;dsimp only at*;refine z9b rfl ?_;refine rQ fi97 ?_;refine q1u (fun i=>[(12,rI (i:Nat))]) 2 (fun i=>(i=0->x1=0)∧(i=1->x2=0)) (by first|decide|simp) (fun i=>rfl) ?_ fun i hi hall=> ?_
 . with_reducible refine sxE ?_;trivial
 have hwr:=wsx i (by omega);by_cases e0:i=0
 . subst e0;have e:((0:Nat):Int)=0:=rfl;have hb:((0:Int) < ((2:Nat):Int))=True:=eq_true (by decide);refine gy2 e hb ?_;refine cR c1 ?_;refine cR c3 ?_;refine cR c5 ?_;refine ⟨fun h=>⟨by rw [if_neg h],[_,_],rfl⟩,fun h=>⟨by decide,q1i hall ⟨fun _=>h,fun h=>absurd h (by decide)⟩,⟨[],rfl⟩,?_⟩⟩;with_reducible refine sx1 hwr ?_
   rfl
 have h0:=(hall 0 (by omega)).1 rfl;rw [if_pos h0];by_cases e1:i=1
 . subst e1;have e:((1:Nat):Int)=1:=rfl;have hb:((1:Int) < ((2:Nat):Int))=True:=eq_true (by decide);refine gy2 e hb ?_;refine cR c2 ?_;refine cR c4 ?_;refine cR c6 ?_;refine ⟨fun h=>⟨rfl,[_,_],rfl⟩,fun h=>⟨by decide,q1i hall ⟨fun h=>absurd h (by decide),fun _=>h⟩,⟨[],rfl⟩,?_⟩⟩;with_reducible refine sx1 hwr ?_
   rfl
 obtain rfl:i=2:=by omega
 have h1:=(hall 1 (by omega)).2 rfl;rw [h1];refine gQ ?_;exact ⟨fun h=>absurd h (by decide),fun _=>⟨rfl,[_,_],rfl⟩⟩
def q8G(a b:Aut):PC Tryz.prog 25 [.agg (AutT.cells a),.agg (AutT.cells b)] (rI (ordA a b)):=by have h:=fun o1 o2=>j6w a b o1 o2;obtain ⟨n,s,t,m,k,q,d⟩:=a;obtain ⟨n',s',t',m',k',q',d'⟩:=b;refine q0q rfl rfl ?_;refine rQ fi25 ?_;refine z9p (h _ _) ?_;refine gQ ?_;trivial
def prin17(s:ByteArray)(h:s.size<=1000):PrinT.ok (p17 s):=by refine ⟨⟨by show (1:Nat)<=_;decide,fun x hx=> ?_⟩,by show ByteArray.size ⟨#[82]⟩<=140737488355328;decide⟩;simp [p17] at hx;subst hx;show x.size<=_;omega
def oka17:AutT.ok a17:=⟨prin17 ⟨#[97]⟩ (by decide),⟨by decide,fun _ _=>trivial⟩,trivial,trivial,⟨trivial,trivial,⟨by decide,fun _ _=>trivial⟩⟩,trivial,⟨by decide,fun x hx=>by cases hx⟩⟩
def okk17:KeyT.ok (1,0,k16):=⟨trivial,trivial,⟨by decide,fun _ _=>trivial⟩⟩
def uok11:uOk (1,0,k16) 11=true:=by kernel_rfl
theorem kenc:PC Tryz.prog 10 [.agg (AutT.cells a17)] (.tup [.isl .u8 pln17,rI 0]):=by have h:=z1g a17 oka17;rw [va17,if_pos rfl,if_pos rfl,q6J] at h;exact h
theorem kseal:PC Tryz.prog 18 [.agg (KeyT.cells (1,0,k16)),rI 11,.agg (AutT.cells a17),.isl .u8 cf3] (.tup [.agg [rI 1,rI 0,.isl .u8 (ct17++tg11)],rI 0]):=by
 have h:=j3t (1,0,k16) a17 oka17 11 cf3 1 0 (ct17++tg11) 0 fun _=>by have h1:=z9Y 0 k16 11 cf3 (autS a17) okk17 uok11 (by decide) (by rw [q6J];decide);rw [q6J,se17] at h1;rw [q6J];exact h1
 rw [va17,if_pos rfl,if_pos rfl] at h;exact h
def kopen:PC Tryz.prog 20 [.agg (KeyT.cells (1,0,k16)),rI 11,.agg [rI 1,rI 0,.isl .u8 (ct17++tg11)]] (.tup [.agg (AutT.cells a17),rI 0]):=by have h1:=z3q 0 k16 11 1 0 (ct17++tg11) okk17 uok11 (by decide);have h2:=j7i (1,0,k16) 11 cf3 pln17 uok11 (by decide) (by decide);rw [se17] at h2;rw [h2] at h1;have h3:=j4B (1,0,k16) 11 1 0 (ct17++tg11) pln17 (by decide) h1;rw [rd17] at h3;exact h3
def kopex:PC Tryz.prog 20 [.agg (KeyT.cells (1,0,k16)),rI 7,.agg [rI 1,rI 0,.isl .u8 (ct17++tg11)]] (.tup [zAut,rI 10]):=by have h1:=z3q 0 k16 7 1 0 (ct17++tg11) okk17 (by kernel_rfl) (by decide);rw [opx17] at h1;exact j5d (1,0,k16) 7 1 0 (ct17++tg11) 10 (by decide) [] h1
def rdx17:autD [98,0]=none:=by kernel_rfl
def kdec:PC Tryz.prog 15 [.isl .u8 [98,0]] (.tup [zAut,rI 6]):=by have h:=z0t [98,0] (by decide);rw [rdx17] at h;exact h
def a18:Aut:=(p17 ⟨#[97]⟩,[],10,8,nKey,1,[])
def kcmp:PC Tryz.prog 25 [.agg (AutT.cells a17),.agg (AutT.cells a18)] (rI (-1)):=by
 have h:=q8G a17 a18;have e:ordA a17 a18= -1:=by kernel_rfl
 rw [e] at h;exact h
def kchk(s:ByteArray)(hs:s.size<=1000)(now:Int)(n:Int)(h:chkS a17 (p17 s) now 5=n):PC Tryz.prog 23 [.agg (AutT.cells a17),.agg (PrinT.cells (p17 s)),rI now,rI 5] (rI n):=by rw [<-h];exact z3D a17 oka17 (p17 s) (prin17 s hs) now 5
def chk0:chkS a17 (p17 ⟨#[97]⟩) 15 5=0:=by kernel_rfl
def chk1:chkS a17 (p17 ⟨#[97]⟩) 16 5=181:=by kernel_rfl
def chk2:chkS a17 (p17 ⟨#[98]⟩) 15 5=180:=by kernel_rfl
abbrev w17(m:Int):SV:=.agg [.isl .str [⟨#[97]⟩],.raw (.string ⟨#[82]⟩),.raw (.slice none 0 0),.raw (.int .i64 10),.raw (.int .i64 m),.raw (.int .i64 0),.raw (.int .i64 0),.raw (.slice none 0 0),.raw (.int .i64 1),.raw (.slice none 0 0)]
abbrev kk17:SV:=.agg [.raw (.int .i64 1),.raw (.int .i64 0),.isl .u8 [1,1,1,1,1,1,1,1,1,1,1,1,1,1,1,1]]
abbrev v17:SV:=.agg [.isl .str [⟨#[97]⟩],.raw (.string ⟨#[82]⟩),.isl .u8 [],.raw (.int .i64 10),.raw (.int .i64 7),.raw (.int .i64 0),.raw (.int .i64 0),.isl .u8 [],.raw (.int .i64 1),.isl PreT []]
abbrev s17:SV:=.agg [.raw (.int .i64 1),.raw (.int .i64 0),.isl .u8 (ct17++tg11)]
def kenc1:PC Tryz.prog 10 [w17 7] (.tup [.isl .u8 pln17,rI 0]):=by refine kenc.arg ?_;simp (maxSteps:=3000000) only [a17,go_sem,↓zA,↓reduceIte,↓reduceDIte] <;>try simp only [zB]
def kseal1:PC Tryz.prog 18 [kk17,rI 11,w17 7,.isl .u8 [3,3,3,3,3,3,3,3,3,3,3,3,3,3,3,3]] (.tup [s17,rI 0]):=by refine kseal.arg ?_;simp (maxSteps:=3000000) only [a17,k16,cf3,go_sem,↓zA,↓reduceIte,↓reduceDIte] <;>try simp only [zB]
def kopen1:PC Tryz.prog 20 [kk17,rI 11,s17] (.tup [v17,rI 0]):=kopen
def kopex1:PC Tryz.prog 20 [kk17,rI 7,s17] (.tup [zAut,rI 10]):=kopex
def ksame1:PC Tryz.prog 17 [w17 7,v17] (rB true):=by have h:=z7n a17 a17 oka17;rw [decide_eq_true rfl] at h;refine h.arg ?_;simp (maxSteps:=3000000) only [a17,go_sem,↓zA,↓reduceIte,↓reduceDIte] <;>try simp only [zB]
def kcmp1:PC Tryz.prog 25 [w17 7,w17 8] (rI (-1)):=by refine kcmp.arg ?_;simp (maxSteps:=3000000) only [a17,a18,nKey,p17,go_sem,↓zA,↓reduceIte,↓reduceDIte] <;>try simp only [zB]
def kchk1(s:ByteArray)(hs:s.size<=1000)(now:Int)(n:Int)(h:chkS a17 (p17 s) now 5=n):PC Tryz.prog 23 [w17 7,.agg [.isl .str [s],.raw (.string ⟨#[82]⟩)],rI now,rI 5] (rI n):=by refine (kchk s hs now n h).arg ?_;simp (maxSteps:=3000000) only [a17,p17,go_sem,↓zA,↓reduceIte,↓reduceDIte] <;>try simp only [zB]
def z1N:PC Tryz.prog 9 [] (rB true):=by
 have hl:pln17.length=45:=rfl;have h0:pln17.getD 0 0=98:=rfl;refine q0n rfl rfl ?_;refine rQ fi9 ?_;refine q0a (q6F ⟨#[97]⟩ (by decide)) ?_;refine uQ 600 _ ?_;simp (maxSteps:=3000000) only [p17,go_sem,↓zA,↓reduceIte,↓reduceDIte] <;>try simp only [zB]
 refine cQ (z4u 1 1 rfl 16 (by decide)) ?_;refine cQ kenc1 ?_;refine q0e (z4u 3 3 rfl 16 (by decide)) ?_;refine gQ ?_;refine q0e kseal1 ?_;refine gQ ?_;refine cQ kopen1 ?_;refine cQ kopex1 ?_;refine ⟨⟨by decide,by decide⟩,q0z 5 ?_⟩;with_reducible refine sxE ?_
 refine cQ kdec ?_
 refine cQ (q6k _) ?_
 refine cQ (q6k _) ?_
 refine cQ (q6k _) ?_
 refine ⟨fun _=>⟨fun _=>⟨by rw [hl];decide,fun _=>q0a ksame1 ?_,fun h=>absurd (by decide) h⟩,fun h=>absurd (by rw [hl];rfl) h⟩,fun h=>absurd (by decide) h⟩;refine gQ ?_
 refine cQ (q6k _) ?_
 refine cQ (q6k _) ?_
 refine cQ kcmp1 ?_;refine q0c (q6F ⟨#[97]⟩ (by decide)) ?_;refine uQ 600 _ ?_;simp (maxSteps:=3000000) only [p17,go_sem,↓zA,↓reduceIte,↓reduceDIte] <;>try simp only [zB]
 refine cR (kchk1 ⟨#[97]⟩ (by decide) 15 _ chk0) ?_;refine cR (q6k _) ?_;refine q0c (q6F ⟨#[97]⟩ (by decide)) ?_;refine uQ 600 _ ?_;simp (maxSteps:=3000000) only [p17,go_sem,↓zA,↓reduceIte,↓reduceDIte] <;>try simp only [zB]
 refine cR (kchk1 ⟨#[97]⟩ (by decide) 16 _ chk1) ?_;refine cR (q6k _) ?_;refine q0c (q6F ⟨#[98]⟩ (by decide)) ?_;refine uQ 600 _ ?_;simp (maxSteps:=3000000) only [p17,go_sem,↓zA,↓reduceIte,↓reduceDIte] <;>try simp only [zB]
 refine cR (kchk1 ⟨#[98]⟩ (by decide) 15 _ chk2) ?_;refine cR (q6k _) ?_;trivial
set_option maxHeartbeats 4000000
def z2y(v lo hi:Int):PC Tryz.prog 96 [rI v,rI lo,rI hi] (rB (mIn lo hi v)):=z9A v lo hi
theorem j2L(k:Key):PC Tryz.prog 121 [.agg (KeyT.cells k)] (rB (vKey k&& decide (k.2.1=0))):=by
 have h:=j7h k;generalize vKey k=v at*;obtain ⟨p,x,c⟩:=k;refine q0q rfl rfl ?_;refine rQ fi121 ?_<;>try with_reducible exact True.intro
 repeat' (first
  | (refine q0a (h) ?_;refine uQ 600 _ ?_;simp (maxSteps:=3000000) only [go_sem,↓zA,↓reduceIte,↓reduceDIte] <;>try simp only [zB])
  | (refine q0c (h) ?_;refine uQ 600 _ ?_;simp (maxSteps:=3000000) only [go_sem,↓zA,↓reduceIte,↓reduceDIte] <;>try simp only [zB])
  | (refine q0e (h) ?_;refine uQ 600 _ ?_;simp (maxSteps:=3000000) only [go_sem,↓zA,↓reduceIte,↓reduceDIte] <;>try simp only [zB])
  | (with_reducible refine And.intro ?_ ?_)
  | (with_reducible intro _))
 all_goals ((simp_all;try grind))
theorem z9P(l:List Pre)(ho:(Ty.slice PreT).ok l):PC Tryz.prog 51 [.isl PreT l] (rB (vDat l)):=by
 have hl:=ho.1;refine q0q rfl rfl ?_;refine rQ fi51 ?_;refine q1u (fun i=>[(3,.raw (.int .i64 ((i:Nat):Int)))]) (l.length) (fun j=>(datAt l) j=true) (by first|decide|simp) (fun i=>rfl) ?_ fun i hi hall=> ?_
 . (with_reducible refine sxE ?_<;>try exact True.intro)
   all_goals (try rfl)
 have hwr:=wsx i (by omega);refine gQ ?_;have bad:i< (l.length)->(datAt l) i=false->allN (l.length) (datAt l)=false:=fun hlt hv=>q0v hlt hv;have fin:¬i< (l.length)->allN (l.length) (datAt l)=true:=fun h=>q0C fun j hj=>hall j (by omega);try dsimp only at bad fin hall
 have hd:datAt l i=(mIn 0 2147483647 (l.getD i PreT.dflt).1&& decide (((l.getD i PreT.dflt).2.length:Int)<=4096)):=rfl;have hv:i<l.length->datAt l i=false->false=vDat l:=fun hlt h=>by unfold vDat;rw [bad hlt h];rfl
 refine ⟨fun hlt=>⟨⟨by omega,hlt⟩,q0a (z2y _ _ _) ?_⟩,fun hge=> ?_⟩
 . refine gQ ?_;refine ⟨fun h1=>⟨⟨by omega,hlt⟩,fun h2=> ?_,fun h2=> ?_⟩,fun h1=> ?_⟩
   . exact hv hlt (by rw [hd,decide_eq_false (by omega),CT])
   . refine ⟨hlt,q1i hall (by rw [hd,h1,decide_eq_true (by omega)];rfl),⟨[],rfl⟩,?_⟩;with_reducible refine sx1 hwr ?_;trivial
   exact hv hlt (by rw [hd,h1];rfl)
 unfold vDat;rw [fin hge];rfl
theorem j4e(k:Key):PC Tryz.prog 50 [.agg (KeyT.cells k)] (rB (vSub k)):=by
 have h:=j2L k;unfold vSub nKey;generalize (vKey k&& decide (k.2.1=0))=v at*;obtain ⟨p,x,c⟩:=k;refine q0q rfl rfl ?_;refine rQ fi50 ?_<;>try with_reducible exact True.intro
 repeat' (first
  | (refine q0a (h) ?_;refine uQ 600 _ ?_;simp (maxSteps:=3000000) only [go_sem,↓zA,↓reduceIte,↓reduceDIte] <;>try simp only [zB])
  | (refine q0c (h) ?_;refine uQ 600 _ ?_;simp (maxSteps:=3000000) only [go_sem,↓zA,↓reduceIte,↓reduceDIte] <;>try simp only [zB])
  | (refine q0e (h) ?_;refine uQ 600 _ ?_;simp (maxSteps:=3000000) only [go_sem,↓zA,↓reduceIte,↓reduceDIte] <;>try simp only [zB])
  | (with_reducible refine And.intro ?_ ?_)
  | (with_reducible intro _))
 all_goals ((simp_all;try grind))
theorem j6F(t m q:Int):PC Tryz.prog 49 [rI t,rI m,rI q] (rB (vTime t&& (mIn 0 999999 m&& mIn 0 4294967295 q))):=by
 refine q0q rfl rfl ?_;refine rQ fi49 ?_<;>try with_reducible exact True.intro
 repeat' (first
  | (refine q0a (z2y _ _ _) ?_;refine uQ 600 _ ?_;simp (maxSteps:=3000000) only [go_sem,↓zA,↓reduceIte,↓reduceDIte] <;>try simp only [zB])
  | (refine q0c (z2y _ _ _) ?_;refine uQ 600 _ ?_;simp (maxSteps:=3000000) only [go_sem,↓zA,↓reduceIte,↓reduceDIte] <;>try simp only [zB])
  | (refine q0e (z2y _ _ _) ?_;refine uQ 600 _ ?_;simp (maxSteps:=3000000) only [go_sem,↓zA,↓reduceIte,↓reduceDIte] <;>try simp only [zB])
  | (with_reducible refine And.intro ?_ ?_)
  | (with_reducible intro _))
 all_goals ((simp_all [vTime];try grind))
theorem z4A(a:Aut)(ho:AutT.ok a):PC Tryz.prog 12 [.agg (AutT.cells a)] (rB (vAut a)):=by
 have c1:=j6E a.1 ho.1;have c2:=j6F a.2.2.1 a.2.2.2.1 a.2.2.2.2.2.1;have c3:=j4e a.2.2.2.2.1;have c4:=z9P a.2.2.2.2.2.2 ho.2.2.2.2.2.2;unfold vAut;obtain ⟨c,s,t,m,k,q,d⟩:=a;dsimp only at*;refine q0q rfl rfl ?_;refine rQ fi12 ?_<;>try with_reducible exact True.intro
 repeat' (first
  | (refine q0a (c1) ?_;refine uQ 600 _ ?_;simp (maxSteps:=3000000) only [go_sem,↓zA,↓reduceIte,↓reduceDIte] <;>try simp only [zB])
  | (refine q0c (c1) ?_;refine uQ 600 _ ?_;simp (maxSteps:=3000000) only [go_sem,↓zA,↓reduceIte,↓reduceDIte] <;>try simp only [zB])
  | (refine q0e (c1) ?_;refine uQ 600 _ ?_;simp (maxSteps:=3000000) only [go_sem,↓zA,↓reduceIte,↓reduceDIte] <;>try simp only [zB])
  | (refine q0a (c2) ?_;refine uQ 600 _ ?_;simp (maxSteps:=3000000) only [go_sem,↓zA,↓reduceIte,↓reduceDIte] <;>try simp only [zB])
  | (refine q0c (c2) ?_;refine uQ 600 _ ?_;simp (maxSteps:=3000000) only [go_sem,↓zA,↓reduceIte,↓reduceDIte] <;>try simp only [zB])
  | (refine q0e (c2) ?_;refine uQ 600 _ ?_;simp (maxSteps:=3000000) only [go_sem,↓zA,↓reduceIte,↓reduceDIte] <;>try simp only [zB])
  | (refine q0a (c3) ?_;refine uQ 600 _ ?_;simp (maxSteps:=3000000) only [go_sem,↓zA,↓reduceIte,↓reduceDIte] <;>try simp only [zB])
  | (refine q0c (c3) ?_;refine uQ 600 _ ?_;simp (maxSteps:=3000000) only [go_sem,↓zA,↓reduceIte,↓reduceDIte] <;>try simp only [zB])
  | (refine q0e (c3) ?_;refine uQ 600 _ ?_;simp (maxSteps:=3000000) only [go_sem,↓zA,↓reduceIte,↓reduceDIte] <;>try simp only [zB])
  | (refine q0a (c4) ?_;refine uQ 600 _ ?_;simp (maxSteps:=3000000) only [go_sem,↓zA,↓reduceIte,↓reduceDIte] <;>try simp only [zB])
  | (refine q0c (c4) ?_;refine uQ 600 _ ?_;simp (maxSteps:=3000000) only [go_sem,↓zA,↓reduceIte,↓reduceDIte] <;>try simp only [zB])
  | (refine q0e (c4) ?_;refine uQ 600 _ ?_;simp (maxSteps:=3000000) only [go_sem,↓zA,↓reduceIte,↓reduceDIte] <;>try simp only [zB])
  | (with_reducible refine And.intro ?_ ?_)
  | (with_reducible intro _))
 all_goals ((simp_all;try grind))
theorem z5f(a:Aut)(ho:AutT.ok a)(c:Prin)(hc:PrinT.ok c)(now skew:Int):PC Tryz.prog 24 [.agg (AutT.cells a),.agg (PrinT.cells c),rI now,rI skew] (rI (chkS a c now skew)):=by
 have c1:=z4A a ho;have c2:=j6E c hc;have c3:=j6H a.1 c ho.1;have ht:vAut a=true->0<=a.2.2.1∧a.2.2.1<=1099511627776:=fun h=>by unfold vAut vTime mIn at h;simp only [Am,decide_eq_true_eq] at h;exact h.2.2.1
 unfold chkS;generalize vAut a=va at*;generalize vPrin c=vc at*;obtain ⟨n,s,t,m,k,q,d⟩:=a;dsimp only at*;change Int at t;have hw1:va=true->mIn 0 1099511627776 now=true->IntKind.i64.wrap (now-t)=now-t:=fun h1 h2=>by have hh:(0:Int)<=t∧t<=(1099511627776:Int):=ht h1;simp only [mIn,Am,decide_eq_true_eq] at h2;exact wrapi (by omega)
 have hw2:va=true->mIn 0 1099511627776 now=true->IntKind.i64.wrap (t-now)=t-now:=fun h1 h2=>by have hh:(0:Int)<=t∧t<=(1099511627776:Int):=ht h1;simp only [mIn,Am,decide_eq_true_eq] at h2;exact wrapi (by omega)
 refine q0q rfl rfl ?_;refine rQ fi24 ?_<;>try with_reducible exact True.intro
 repeat' (first
  | (refine q0a (c1) ?_;refine uQ 600 _ ?_;simp (maxSteps:=3000000) only [go_sem,↓zA,↓reduceIte,↓reduceDIte] <;>try simp only [zB])
  | (refine q0c (c1) ?_;refine uQ 600 _ ?_;simp (maxSteps:=3000000) only [go_sem,↓zA,↓reduceIte,↓reduceDIte] <;>try simp only [zB])
  | (refine q0e (c1) ?_;refine uQ 600 _ ?_;simp (maxSteps:=3000000) only [go_sem,↓zA,↓reduceIte,↓reduceDIte] <;>try simp only [zB])
  | (refine q0a (c2) ?_;refine uQ 600 _ ?_;simp (maxSteps:=3000000) only [go_sem,↓zA,↓reduceIte,↓reduceDIte] <;>try simp only [zB])
  | (refine q0c (c2) ?_;refine uQ 600 _ ?_;simp (maxSteps:=3000000) only [go_sem,↓zA,↓reduceIte,↓reduceDIte] <;>try simp only [zB])
  | (refine q0e (c2) ?_;refine uQ 600 _ ?_;simp (maxSteps:=3000000) only [go_sem,↓zA,↓reduceIte,↓reduceDIte] <;>try simp only [zB])
  | (refine q0a (c3) ?_;refine uQ 600 _ ?_;simp (maxSteps:=3000000) only [go_sem,↓zA,↓reduceIte,↓reduceDIte] <;>try simp only [zB])
  | (refine q0c (c3) ?_;refine uQ 600 _ ?_;simp (maxSteps:=3000000) only [go_sem,↓zA,↓reduceIte,↓reduceDIte] <;>try simp only [zB])
  | (refine q0e (c3) ?_;refine uQ 600 _ ?_;simp (maxSteps:=3000000) only [go_sem,↓zA,↓reduceIte,↓reduceDIte] <;>try simp only [zB])
  | (refine q0a (z2y _ _ _) ?_;refine uQ 600 _ ?_;simp (maxSteps:=3000000) only [go_sem,↓zA,↓reduceIte,↓reduceDIte] <;>try simp only [zB])
  | (refine q0c (z2y _ _ _) ?_;refine uQ 600 _ ?_;simp (maxSteps:=3000000) only [go_sem,↓zA,↓reduceIte,↓reduceDIte] <;>try simp only [zB])
  | (refine q0e (z2y _ _ _) ?_;refine uQ 600 _ ?_;simp (maxSteps:=3000000) only [go_sem,↓zA,↓reduceIte,↓reduceDIte] <;>try simp only [zB])
  | (with_reducible refine And.intro ?_ ?_)
  | (with_reducible intro _))
 all_goals ((congr 1;clear c1 c2 c3 ho hc;simp only [vTime] at*;first| (simp_all;done) | (simp_all [mIn];done) |grind [mIn]))
theorem z7w(a b:Aut):PC Tryz.prog 26 [.agg (AutT.cells a),.agg (AutT.cells b)] (rI (ordA a b)):=by
 unfold ordA;obtain ⟨n,s,t,m,k,q,d⟩:=a;obtain ⟨n',s',t',m',k',q',d'⟩:=b;dsimp only;refine q0q rfl rfl ?_;refine rQ fi26 ?_<;>try with_reducible exact True.intro
 repeat' (first
  | (with_reducible refine And.intro ?_ ?_)
  | (with_reducible intro _))
 all_goals ((simp_all [cmpI] <;> (try grind)))
def dat17(l:List Pre)(j:Nat):Bool:=decide ((l.length:Int)<=20) && decide (((l.getD j PreT.dflt).2.length:Int)<=300)
def smaB(a:Aut):Bool:=allN a.2.2.2.2.2.2.length (dat17 a.2.2.2.2.2.2) && (shortB a.1&& (decide ((a.2.1.length:Int)<=300) && decide ((a.2.2.2.2.1.2.2.length:Int)<=300)))
theorem z3f(a:Aut)(ho:AutT.ok a):PC Tryz.prog 8 [.agg (AutT.cells a)] (rB (smaB a)):=by
 have c1:=z3T a.1 ho.1;have hl:a.2.2.2.2.2.2.length<=1125899906842624:=ho.2.2.2.2.2.2.1;unfold smaB;generalize shortB a.1=sb at*;obtain ⟨n,s,t,m,k,q,l⟩:=a;obtain ⟨k1,k2,k3⟩:=k;dsimp only at*;refine q0q rfl rfl ?_;refine rQ fi8 ?_;refine q1u (fun i=>[(3,.raw (.int .i64 ((i:Nat):Int)))]) (l.length) (fun j=>(dat17 l) j=true) (by first|decide|simp) (fun i=>rfl) ?_ fun i hi hall=> ?_
 . (with_reducible refine sxE ?_<;>try exact True.intro)
   all_goals (try rfl)
 have hwr:=wsx i (by omega);refine gQ ?_;have bad:i< (l.length)->(dat17 l) i=false->allN (l.length) (dat17 l)=false:=fun hlt hv=>q0v hlt hv;have fin:¬i< (l.length)->allN (l.length) (dat17 l)=true:=fun h=>q0C fun j hj=>hall j (by omega);try dsimp only at bad fin hall
 have hd:dat17 l i=(decide ((l.length:Int)<=20) && decide (((l.getD i PreT.dflt).2.length:Int)<=300)):=rfl;refine ⟨fun hlt=>⟨fun h1=>⟨⟨by omega,hlt⟩,fun h2=> ?_,fun h2=> ?_⟩,fun h1=> ?_⟩,fun hge=> ?_⟩
 . rw [bad hlt (by rw [hd,decide_eq_false (Dj.2 h2),CT]),CU]
 . refine ⟨hlt,q1i hall (by rw [hd,decide_eq_true (Da.1 h1),decide_eq_true (Da.1 h2)];rfl),⟨[],rfl⟩,?_⟩;with_reducible refine sx1 hwr ?_;trivial
 . rw [bad hlt (by rw [hd,decide_eq_false (Dj.2 h1),CU]),CU]
 rw [fin hge,B7];refine cQ c1 ?_<;>try with_reducible exact True.intro
 repeat' (first
  | (with_reducible refine And.intro ?_ ?_)
  | (with_reducible intro _))
 all_goals ((simp_all;try omega))
theorem z5l(a:Aut)(ha:AutT.ok a)(b:Aut)(hb:AutT.ok b)(c:Prin)(hc:PrinT.ok c)(now skew:Int):PC Tryz.prog 5 [.agg (AutT.cells a),.agg (AutT.cells b),.agg (PrinT.cells c),rI now,rI skew] (rB true):=by
 have c1:=z3f a ha;have c2:=z3f b hb;have c3:=z3T c hc;have c4:=z3D a ha c hc now skew;have c5:=z5f a ha c hc now skew;have c6:=q8G a b;have c7:=z7w a b;generalize chkS a c now skew=r at*;generalize ordA a b=r2 at*;generalize smaB a=s1 at*;generalize smaB b=s2 at*;generalize shortB c=s3 at*;obtain ⟨n,s,t,m,k,q,d⟩:=a;obtain ⟨n',s',t',m',k',q',d'⟩:=b;refine q0q rfl rfl ?_;refine rQ fi5 ?_<;>try with_reducible exact True.intro
 repeat' (first
  | (refine q0a (c1) ?_;refine uQ 600 _ ?_;simp (maxSteps:=3000000) only [go_sem,↓zA,↓reduceIte,↓reduceDIte] <;>try simp only [zB])
  | (refine q0c (c1) ?_;refine uQ 600 _ ?_;simp (maxSteps:=3000000) only [go_sem,↓zA,↓reduceIte,↓reduceDIte] <;>try simp only [zB])
  | (refine q0e (c1) ?_;refine uQ 600 _ ?_;simp (maxSteps:=3000000) only [go_sem,↓zA,↓reduceIte,↓reduceDIte] <;>try simp only [zB])
  | (refine q0a (c2) ?_;refine uQ 600 _ ?_;simp (maxSteps:=3000000) only [go_sem,↓zA,↓reduceIte,↓reduceDIte] <;>try simp only [zB])
  | (refine q0c (c2) ?_;refine uQ 600 _ ?_;simp (maxSteps:=3000000) only [go_sem,↓zA,↓reduceIte,↓reduceDIte] <;>try simp only [zB])
  | (refine q0e (c2) ?_;refine uQ 600 _ ?_;simp (maxSteps:=3000000) only [go_sem,↓zA,↓reduceIte,↓reduceDIte] <;>try simp only [zB])
  | (refine q0a (c3) ?_;refine uQ 600 _ ?_;simp (maxSteps:=3000000) only [go_sem,↓zA,↓reduceIte,↓reduceDIte] <;>try simp only [zB])
  | (refine q0c (c3) ?_;refine uQ 600 _ ?_;simp (maxSteps:=3000000) only [go_sem,↓zA,↓reduceIte,↓reduceDIte] <;>try simp only [zB])
  | (refine q0e (c3) ?_;refine uQ 600 _ ?_;simp (maxSteps:=3000000) only [go_sem,↓zA,↓reduceIte,↓reduceDIte] <;>try simp only [zB])
  | (refine q0a (c4) ?_;refine uQ 600 _ ?_;simp (maxSteps:=3000000) only [go_sem,↓zA,↓reduceIte,↓reduceDIte] <;>try simp only [zB])
  | (refine q0c (c4) ?_;refine uQ 600 _ ?_;simp (maxSteps:=3000000) only [go_sem,↓zA,↓reduceIte,↓reduceDIte] <;>try simp only [zB])
  | (refine q0e (c4) ?_;refine uQ 600 _ ?_;simp (maxSteps:=3000000) only [go_sem,↓zA,↓reduceIte,↓reduceDIte] <;>try simp only [zB])
  | (refine q0a (c5) ?_;refine uQ 600 _ ?_;simp (maxSteps:=3000000) only [go_sem,↓zA,↓reduceIte,↓reduceDIte] <;>try simp only [zB])
  | (refine q0c (c5) ?_;refine uQ 600 _ ?_;simp (maxSteps:=3000000) only [go_sem,↓zA,↓reduceIte,↓reduceDIte] <;>try simp only [zB])
  | (refine q0e (c5) ?_;refine uQ 600 _ ?_;simp (maxSteps:=3000000) only [go_sem,↓zA,↓reduceIte,↓reduceDIte] <;>try simp only [zB])
  | (refine q0a (c6) ?_;refine uQ 600 _ ?_;simp (maxSteps:=3000000) only [go_sem,↓zA,↓reduceIte,↓reduceDIte] <;>try simp only [zB])
  | (refine q0c (c6) ?_;refine uQ 600 _ ?_;simp (maxSteps:=3000000) only [go_sem,↓zA,↓reduceIte,↓reduceDIte] <;>try simp only [zB])
  | (refine q0e (c6) ?_;refine uQ 600 _ ?_;simp (maxSteps:=3000000) only [go_sem,↓zA,↓reduceIte,↓reduceDIte] <;>try simp only [zB])
  | (refine q0a (c7) ?_;refine uQ 600 _ ?_;simp (maxSteps:=3000000) only [go_sem,↓zA,↓reduceIte,↓reduceDIte] <;>try simp only [zB])
  | (refine q0c (c7) ?_;refine uQ 600 _ ?_;simp (maxSteps:=3000000) only [go_sem,↓zA,↓reduceIte,↓reduceDIte] <;>try simp only [zB])
  | (refine q0e (c7) ?_;refine uQ 600 _ ?_;simp (maxSteps:=3000000) only [go_sem,↓zA,↓reduceIte,↓reduceDIte] <;>try simp only [zB])
  | (refine q0a (q6k _) ?_;refine uQ 600 _ ?_;simp (maxSteps:=3000000) only [go_sem,↓zA,↓reduceIte,↓reduceDIte] <;>try simp only [zB])
  | (refine q0c (q6k _) ?_;refine uQ 600 _ ?_;simp (maxSteps:=3000000) only [go_sem,↓zA,↓reduceIte,↓reduceDIte] <;>try simp only [zB])
  | (refine q0e (q6k _) ?_;refine uQ 600 _ ?_;simp (maxSteps:=3000000) only [go_sem,↓zA,↓reduceIte,↓reduceDIte] <;>try simp only [zB])
  | (refine q0a (z1N) ?_;refine uQ 600 _ ?_;simp (maxSteps:=3000000) only [go_sem,↓zA,↓reduceIte,↓reduceDIte] <;>try simp only [zB])
  | (refine q0c (z1N) ?_;refine uQ 600 _ ?_;simp (maxSteps:=3000000) only [go_sem,↓zA,↓reduceIte,↓reduceDIte] <;>try simp only [zB])
  | (refine q0e (z1N) ?_;refine uQ 600 _ ?_;simp (maxSteps:=3000000) only [go_sem,↓zA,↓reduceIte,↓reduceDIte] <;>try simp only [zB])
  | (with_reducible refine And.intro ?_ ?_)
  | (with_reducible intro _))
 all_goals ((simp_all))
end Go.Proofs.YthbcodbcndiapaaGreatDoor