/- AES and CTS: the plain law: decryption inverts encryption. -/
import Derived.Test.YthbcodbcndiapaaGreatDoorP8
import Derived.Lib.MakeNoZero
import Derived.Laws.Externs
set_option linter.all false
namespace Go.Proofs.YthbcodbcndiapaaGreatDoor
open Go Go.Sx Go.Proofs
set_option maxRecDepth 100000
def j4w{b:List UInt8}(c:b.length=16):(fS λj=>b.getD j 0)=b:=by
 apply Av
 . rw [q2z,c]
 intro j h1 a;simp [fS,Ae,a]
def z0S(b w:List UInt8)(r:Nat)(c:b.length=16):addS (addS b w r) w r=b:=by
 conv=>rhs;rw [<-j4w c]
 unfold addS;refine q3h λj a=> ?_;rw [q8G _ a,BR,CG,BC]
def j6w(c:UInt8):invS (subS c)=c:=j0C (p:=λc=>invS (subS c)=c) (by decide+kernel) c
def j3R:∀j:Fin 16,srcU j.val<16/\4* ((srcU j.val / 4+srcU j.val%4)%4)+srcU j.val%4=j.val:=by decide
def z9h(b:List UInt8)(c:b.length=16):unsS (shfS b)=b:=by
 conv=>rhs;rw [<-j4w c]
 unfold unsS shfS;refine q3h λj a=> ?_;have h:=j3R ⟨j,a⟩;dsimp only at h;rw [q8G _ h.1,j6w,h.2]
def top8(b:UInt8):(128<=b.toNat) ↔ b.toNat.testBit 7=true:=by have:=b.toNat_lt;rw [Nat.testBit_eq_decide_div_mod_eq];simp;omega
def z7F(b:UInt8):dblS b=(b<<<1) ^^^ (if b.toNat.testBit 7=true then 27 else 0):=by
 unfold dblS;by_cases h:128<=b.toNat
 . rw [if_pos h,if_pos ((top8 b).1 h)]
 rw [if_neg h,if_neg (λa=>h ((top8 b).2 a)),BC]
def xor4(p q x y:UInt8):p^^^ q^^^ (x^^^ y)=p^^^ x^^^ (q^^^ y):=by rw [BR,BR,<-BR q,UInt8.xor_comm q x,BR]
theorem j7H(x y:UInt8):dblS (x^^^ y)=dblS x^^^ dblS y:=by
 rw [z7F,z7F x,z7F y,xor4,show (x^^^ y) <<<1=x<<<1^^^ y<<<1 by
  apply UInt8.toBitVec_inj.1
  simp [BitVec.shiftLeft_xor_distrib],CT,Nat.testBit_xor]
 cases x.toNat.testBit 7<;>cases y.toNat.testBit 7<;>rfl
def z1q:∀ (n a:Nat) (x y p q:UInt8),mulA n a (x^^^ y) (p^^^ q)=mulA n a x p^^^ mulA n a y q
 |0,_,_,_,_,_=>rfl
 |n+1,a,x,y,p,q=>by
  unfold mulA;by_cases c:a=0
  . rw [if_pos c,if_pos c,if_pos c]
  rw [if_neg c,if_neg c,if_neg c,j7H];by_cases b:a%2=1
  . rw [if_pos b,if_pos b,if_pos b,xor4];exact z1q n _ _ _ _ _
  rw [if_neg b,if_neg b,if_neg b];exact z1q n _ _ _ _ _
def j6v(a x y:UInt8):mulS a (x^^^ y)=mulS a x^^^ mulS a y:=by have:=z1q 8 a.toNat x y 0 0;rwa [CG] at this
def mixC(e x:UInt8):Prop:=
 (mulS 14 (mulS 2 x) ^^^ mulS 11 x^^^ mulS 13 x^^^ mulS 9 (mulS 3 x)=x)/\(mulS 14 (mulS 3 x) ^^^ mulS 11 (mulS 2 x) ^^^ mulS 13 x^^^ mulS 9 x=e)
 /\(mulS 14 x^^^ mulS 11 (mulS 3 x) ^^^ mulS 13 (mulS 2 x) ^^^ mulS 9 x=e)/\(mulS 14 x^^^ mulS 11 x^^^ mulS 13 (mulS 3 x) ^^^ mulS 9 (mulS 2 x)=e)
instance (e x:UInt8):Decidable (mixC e x):=by unfold mixC;infer_instance
def q7m(x:UInt8):mixC 0 x:=j0C (p:=mixC 0) (by decide+kernel) x
def mul_one'(x:UInt8):mulS 1 x=x:=j0C (p:=λx=>mulS 1 x=x) (by decide+kernel) x
def rot4(a b c d:UInt8):a^^^ b^^^ c^^^ d=b^^^ c^^^ d^^^ a:=by ac_rfl
def rot2(a b c d:UInt8):a^^^ b^^^ c^^^ d=c^^^ d^^^ a^^^ b:=by ac_rfl
def rot1(a b c d:UInt8):a^^^ b^^^ c^^^ d=d^^^ a^^^ b^^^ c:=by ac_rfl
def xor16(a b c d e f g h i j k l m n o p:UInt8):(a^^^ b^^^ c^^^ d) ^^^ (e^^^ f^^^ g^^^ h) ^^^ (i^^^ j^^^ k^^^ l) ^^^ (m^^^ n^^^ o^^^ p)=(a^^^ e^^^ i^^^ m) ^^^ (b^^^ f^^^ j^^^ n) ^^^ (c^^^ g^^^ k^^^ o) ^^^ (d^^^ h^^^ l^^^ p):=by ac_rfl
def mixA4(b:List UInt8)(a h e j:UInt8)(c r:Nat):mixA b [a,h,e,j] c r 4=mulS ([a,h,e,j].getD ((4-r)%4) 0) (b.getD (4*c) 0) ^^^ mulS ([a,h,e,j].getD ((5-r)%4) 0) (b.getD (4*c+1) 0) ^^^ mulS ([a,h,e,j].getD ((6-r)%4) 0) (b.getD (4*c+2) 0) ^^^ mulS ([a,h,e,j].getD ((7-r)%4) 0) (b.getD (4*c+3) 0):=by simp only [mixA,Ag,AF];rw [BD]
def z0k(b:List UInt8)(a e j h:UInt8){c r:Nat}(hc:c<4)(hr:r<4):(mixS b [a,e,j,h]).getD (4*c+r) 0=mixA b [a,e,j,h] c r 4:=by unfold mixS;rw [q8G _ (by omega),show (4*c+r) / 4=c by omega,show (4*c+r)%4=r by omega]
theorem j5Q(b:List UInt8)(A:b.length=16):mixS (mixS b [2,3,1,1]) [14,11,13,9]=b:=by
 conv=>rhs;rw [<-j4w A]
 conv=>lhs;unfold mixS
 refine q3h λj hj=> ?_;obtain ⟨c,r,u,hr,rfl⟩:∃c r,c<4/\r<4/\j=4*c+r:=⟨j / 4,j%4,by omega,by omega,by omega⟩
 rw [show (4*c+r) / 4=c by omega,show (4*c+r)%4=r by omega,mixA4];have m:=z0k b 2 3 1 1 u (r:=0) (by decide);have q:=z0k b 2 3 1 1 u (r:=1) (by decide);have p:=z0k b 2 3 1 1 u (r:=2) (by decide);have v:=z0k b 2 3 1 1 u (r:=3) (by decide);change (mixS b [2,3,1,1]).getD (4*c) 0=_ at m;rw [mixA4] at m q p v;unfold mixS at m q p v;rw [m,q,p,v];clear m q p v;have a:=q7m (b.getD (4*c) 0);have e:=q7m (b.getD (4*c+1) 0);have o:=q7m (b.getD (4*c+2) 0);have h:=q7m (b.getD (4*c+3) 0);unfold mixC at a e o h;rcases (show r=0\/r=1\/r=2\/r=3 by omega) with rfl|rfl|rfl|rfl;all_goals
  rw [AF] at*;generalize b.getD (4*c) 0=w at*;generalize b.getD (4*c+1) 0=x at*;generalize b.getD (4*c+2) 0=y at*;generalize b.getD (4*c+3) 0=z at*;simp only [CC,Nat.reduceSub,Nat.reduceMod,AD,AK,j6v,mul_one'];rw [xor16]
 . rw [a.1,e.2.1,o.2.2.1,h.2.2.2,BC,BC,BC]
 . rw [rot4 _ _ _ (mulS 13 (mulS 3 w)),rot4 _ _ _ (mulS 13 x),rot4 _ _ _ (mulS 13 y),rot4 _ _ _ (mulS 13 (mulS 2 z)),a.2.2.2,e.1,o.2.1,h.2.2.1,BD,BC,BC]
 . rw [rot2 _ _ _ (mulS 11 (mulS 3 w)),rot2 _ _ _ (mulS 11 x),rot2 _ _ _ (mulS 11 y),rot2 _ _ _ (mulS 11 (mulS 2 z)),a.2.2.1,e.2.2.2,o.1,h.2.1,BD,BD,BC]
 rw [rot1 _ _ _ (mulS 14 (mulS 3 w)),rot1 _ _ _ (mulS 14 x),rot1 _ _ _ (mulS 14 y),rot1 _ _ _ (mulS 14 (mulS 2 z)),a.2.1,e.2.2.1,o.2.2.2,h.1,BD,BD,BD]
def z7Q(w b:List UInt8)(c:b.length=16)(r:Nat):rndD w r (rndE w r b)=b:=by
 unfold rndD rndE mixD;have a:=j2y b;by_cases h:r<10
 . rw [if_pos h,if_pos h,z0S _ _ _ (j2l _ _),j5Q _ a,z9h b c]
 rw [if_neg h,if_neg h,z0S _ _ _ a,z9h b c]
def z9g(w b:List UInt8)(c:b.length=16):decS w (encS w b)=b:=by
 have h:∀n,n<=10->decA w (encS w b) n=encA w b (10-n):=by
  intro n;induction n with
  |zero=>intro _;rfl
  |succ n a=>intro hn;rw [decA,a (by omega),show 10-n=10- (n+1)+1 by omega,encA,z7Q _ _ (q7D _ _ _)]
 unfold decS;rw [h 10 (Ad _)];exact z0S b w 0 c
def j2B(a b:List UInt8)(e:a.length=16):xorS (xorS a b) b=a:=by
 conv=>rhs;rw [<-j4w e]
 unfold xorS;refine q3h λj c=> ?_;rw [q8G _ c,BR,CG,BC]
def z5G(w iv z:List UInt8)(a:iv.length=16)(n:Nat):∀m,((chA w iv z (n+m)).2).take (16*n)=(chA w iv z n).2
 |0=>Aa (by rw [(q7P w iv z a _).2];exact Ad _)
 |m+1=>by rw [show n+ (m+1)=n+m+1 by omega,chA,Bp (by rw [(q7P w iv z a _).2];omega)];exact z5G w iv z a n m
def z4c(w iv z:List UInt8)(a:iv.length=16)(n m:Nat)(h:n<m):(((chA w iv z m).2).take (16*n+16)).drop (16*n)=(chA w iv z (n+1)).1:=by
 obtain ⟨d,rfl⟩:∃d,m=n+1+d:=⟨m-n-1,by omega⟩
 rw [show 16*n+16=16* (n+1) by omega,z5G w iv z a,chA];dsimp only;rw [BS (q7P w iv z a _).2]
theorem z4Q(z:List UInt8)(n:Nat):z.take (16*n)++(z.take (16*n+16)).drop (16*n)=z.take (16* (n+1)):=by
 have h:(z.take (16*n+16)).take (16*n)=z.take (16*n):=by rw [CH];congr 1;omega
 rw [<-h,AE];rfl
def j0E(w iv z:List UInt8)(a:iv.length=16)(m:Nat)(b:16*m<=z.length):∀n,n<=m->dchA w iv (chA w iv z m).2 n=((chA w iv z n).1,z.take (16*n))
 |0,_=>rfl
 |n+1,h=>by rw [dchA,z4c w iv z a n m (by omega),j0E w iv z a m b n (by omega)];dsimp only;refine Prod.ext rfl ?_;dsimp only;rw [show (chA w iv z (n+1)).1=encS w (xorS ((z.take (16*n+16)).drop (16*n)) (chA w iv z n).1) from rfl,z9g _ _ (q2E _ _),j2B _ _ (by rw [Ah,Am];omega),z4Q]
def z6L(key iv z:List UInt8)(a:iv.length=16)(hz:z.length%16=0):unchS (wordsS key) iv (chainS key iv z)=z:=by unfold unchS;rw [q6N _ _ _ a,BW _ (by decide)];unfold chainS;rw [j0E _ _ _ a _ (by omega) _ (Ad _)];exact Aa (by omega)
theorem j0d(w A x y:List UInt8)(n:Nat)(hA:A.length=whN n-32)(hx:x.length=16)(hy:y.length=16)(hn:16<n)(b:(decS w y).drop (n- (whN n-16))=x.drop (n- (whN n-16))):unexS w ((A++y++x).take n)=A++x++y:=by
 have hw:whN n=(n+15) / 16*16:=rfl;have hl:(A++y++x).length=whN n:=by simp only [Ab];omega
 have a:((A++y++x).take n).length=n:=by rw [Am];omega
 unfold unexS;rw [a];generalize whN n=N at*;have e:((A++y++x).take n).take (N-32)=A:=by rw [CH,show min (N-32) n=A.length by omega,List.append_assoc,BP]
 have j:(((A++y++x).take n).take (N-16)).drop (N-32)=y:=by rw [CH,show min (N-16) n=(A++y).length by simp only [Ab];omega,BP,BS (by omega)]
 have h:((A++y++x).take n).drop (N-16)=x.take (n- (N-16)):=by rw [BB,BS (by simp only [Ab];omega)]
 rw [e,j,h];have c:(x.take (n- (N-16))).length=n- (N-16):=by rw [Am];omega
 dsimp only;rw [c,b,AE]
def z7A(c:List UInt8)(h:32<=c.length):∃A x y,c=A++x++y/\A.length=c.length-32/\x.length=16/\y.length=16/\x=(c.take (c.length-16)).drop (c.length-32)/\y=c.drop (c.length-16):=by
 refine ⟨c.take (c.length-32),(c.take (c.length-16)).drop (c.length-32),c.drop (c.length-16),?_,?_,?_,?_,rfl,rfl⟩
 . have a:(c.take (c.length-16)).take (c.length-32)=c.take (c.length-32):=by rw [CH];congr 1;omega
   rw [<-a,AE,AE]
 . rw [Am];omega
 . rw [Ah,Am];omega
 rw [Ah];omega
def j1H(A x y:List UInt8)(hx:x.length=16)(hy:y.length=16):exchS (A++x++y)=A++y++x:=by
 have a:(A++x++y).length=A.length+32:=by simp only [Ab];omega
 unfold exchS;have b:(A++x++y).take ((A++x++y).length-32)=A:=by rw [a,Cf,List.append_assoc,BP]
 have e:(A++x++y).drop ((A++x++y).length-16)=y:=by rw [a];exact BS (by simp only [Ab];omega)
 have c:((A++x++y).take ((A++x++y).length-16)).drop ((A++x++y).length-32)=x:=by rw [a,show A.length+32-16=(A++x).length by simp only [Ab];omega,BP,Cf,B2]
 rw [b,e,c]
theorem j2r(z x:List UInt8)(c:x.length=16)(k:Nat)(e:∀j,k<=j->z.getD j 0=0):(xorS z x).drop k=x.drop k:=by
 apply Av
 . rw [Ah,Ah,q2E,c]
 intro j h1 b;rw [Ah] at b;rw [B1,B1];have a:k+j<16:=by omega
 have h:=q8G (λi=>z.getD i 0^^^ x.getD i 0) a;rw [Ae,Af (by rw [q2z];exact a)] at h;refine Eq.trans h ?_;rw [e _ (by omega),BD,Ae,Af (by omega)];rfl
def j7j(key iv p:List UInt8)(e:iv.length=16)(h1:16<=p.length):ctsD key iv (ctsE key iv p)=p:=by
 have hz:zpN p.length=(16-p.length%16)%16:=rfl;have v:=z3R p (zpN p.length);have z:(zpL p (zpN p.length)).take p.length=p:=BP ..;have r:∀j,p.length<=j->(zpL p (zpN p.length)).getD j 0=0:=by intro j F;unfold zpL;rw [Ae,AW F,List.getElem?_replicate];split<;>rfl
 have c:=z6L key iv (zpL p (zpN p.length)) e (by omega);have hcl:=q6N key iv (zpL p (zpN p.length)) e;unfold ctsE;dsimp only;by_cases h:(chainS key iv (zpL p (zpN p.length))).length=16
 . rw [if_pos h];have hp:p.length=16:=by omega
   have w:zpL p (zpN p.length)=p:=by unfold zpL;rw [show zpN p.length=0 by omega];simp
   rw [w] at c h⊢;unfold ctsD;rw [if_pos h]
   conv=>rhs;rw [<-c]
   unfold unchS;rw [h];show _=((dchA _ _ _ 0).2++xorS (decS (wordsS key) (((chainS key iv p).take (16*0+16)).drop (16*0))) (dchA _ _ _ 0).1)
   rw [show ((chainS key iv p).take (16*0+16)).drop (16*0)=chainS key iv p by
    rw [Ap];exact Aa (by omega)]
   rfl
 rw [if_neg h];have Q:chainS key iv (zpL p (zpN p.length))=(chA (wordsS key) iv (zpL p (zpN p.length)) (whN p.length / 16)).2:=by unfold chainS;rw [v];congr 2;unfold whN zpN;omega
 have O:(chainS key iv (zpL p (zpN p.length))).length=whN p.length:=by unfold whN;omega
 have hw:whN p.length=(p.length+15) / 16*16:=rfl;obtain ⟨A,x,y,G,D,C,E,a,b⟩:=z7A (chainS key iv (zpL p (zpN p.length))) (by omega);rw [O] at D a b;rw [G,j1H A x y C E];have m:(A++y++x).length=whN p.length:=by simp only [Ab];omega
 have I:(decS (wordsS key) y).drop (p.length- (whN p.length-16))=x.drop (p.length- (whN p.length-16)):=by
  obtain ⟨n,N⟩:∃n,whN p.length=16* (n+2):=⟨(p.length+15) / 16-2,by omega⟩
  rw [Q,N] at a b;rw [BW _ (by decide)] at a b;have o:x=(chA (wordsS key) iv (zpL p (zpN p.length)) (n+1)).1:=by rw [a,show 16* (n+2) -16=16*n+16 by omega,show 16* (n+2) -32=16*n by omega];exact z4c _ _ _ e n (n+2) (by omega)
  have q:y=(chA (wordsS key) iv (zpL p (zpN p.length)) (n+2)).1:=by have L:=z4c (wordsS key) iv (zpL p (zpN p.length)) e (n+1) (n+2) (by omega);rw [<-L,b,show 16* (n+2) -16=16* (n+1) by omega,Aa];rw [(q7P _ _ _ e _).2];omega
  have u:y=encS (wordsS key) (xorS (((zpL p (zpN p.length)).take (16* (n+1)+16)).drop (16* (n+1))) x):=by rw [q,o];rfl
  rw [u,z9g _ _ (q2E _ _)];refine j2r _ _ C _ λj F=> ?_;rw [Aa (by omega),Ae,Bt,<-Ae];exact r _ (by omega)
 have B:=j0d (wordsS key) A x y p.length D C E (by omega) I;unfold ctsD;rw [B,<-G,c,Am,m,if_neg (by omega),show min p.length (whN p.length)=p.length by omega,z]
set_option maxHeartbeats 40000000
def z7D(c:List UInt8)(h:32<=c.length):(exchS c).length=c.length:=by unfold exchS;simp only [Ab,Am,Ah];omega
def z5D(key iv p:List UInt8)(b:iv.length=16)(h1:16<=p.length):(ctsE key iv p).length=p.length:=by
 have a:=q6N key iv (zpL p (zpN p.length)) b;rw [z3R] at a;have hz:zpN p.length=(16-p.length%16)%16:=rfl;unfold ctsE;simp only;split
 . omega
 rw [Am,z7D _ (by omega)];omega
def z9Q(w iv a:List UInt8)(b:iv.length=16):(unchS w iv a).length=16* (a.length / 16):=(j2O w iv a b _ (by omega)).2
def z6w(key iv c:List UInt8)(a:iv.length=16)(h1:16<=c.length):(ctsD key iv c).length=c.length:=by
 unfold ctsD;split
 . rw [q2E];omega
 rw [Am,z9Q _ _ _ a,z9T _ _ (by omega)];unfold whN;omega
theorem j5K:z16.length=16:=rfl
def ciS(k:Key)(u:Nat)(conf plain:List UInt8):List UInt8:=if k.1=1 then ctsE (dkS k u 170) z16 (conf++plain) else conf++ksS (dkS k u 170) conf plain
def unS(k:Key)(u:Nat)(c:List UInt8):List UInt8:=if k.1=1 then (ctsD (dkS k u 170) z16 c).drop 16 else ksS (dkS k u 170) (c.take 16) (c.drop 16)
def seS(k:Key)(u:Nat)(conf plain:List UInt8):List UInt8:=ciS k u conf plain++tg9S k u (ciS k u conf plain)
def opS(k:Key)(u:Nat)(sp sv:Int)(sb:List UInt8):List UInt8×Int:=
 if uOk k u=true then
  if sp=k.1/\(sv=k.2.1\/sv=0\/k.2.1=0) then
   if sb.length<16+k.2.2.length then ([],4)
   else if 65552+k.2.2.length<sb.length then ([],5)
   else if tg9S k u (sb.take (sb.length-k.2.2.length))=sb.drop (sb.length-k.2.2.length) then (unS k u (sb.take (sb.length-k.2.2.length)),0)
   else ([],10)
  else ([],9)
 else ([],2)
theorem q8j{k:Key}{u:Nat}(h:uOk k u=true):vKey k=true/\u<=1023/\((k.2.2.length:Nat):Int)=keyLen k.1/\k.2.2.length<=32/\(k.1=1->k.2.2.length=16)/\(k.1≠1->k.1=2/\k.2.2.length=32):=by
 unfold uOk at h;simp only [Ai,decide_eq_true_eq] at h;have c:=h.1;unfold vKey at c;simp only [Ai,decide_eq_true_eq] at c;have e:=c.2.1;have j:=c.1;refine ⟨h.1,by omega,e,?_⟩;unfold keyLen at e j;split at e
 . rename_i b;exact ⟨by omega,λ_=>by omega,λm=>absurd b m⟩
 rename_i b;split at e
 . rename_i a;exact ⟨by omega,λm=>absurd m b,λ_=>⟨a,by omega⟩⟩
 rename_i a;rw [if_neg b,if_neg a] at j;exact absurd rfl j
def j0o(k:Key)(u:Nat)(a plain:List UInt8)(b:a.length=16):(ciS k u a plain).length=16+plain.length:=by
 unfold ciS;split
 . rw [z5D _ _ _ rfl (by rw [Ab];omega),Ab,b]
 rw [Ab,z3T,b]
theorem j4t(k:Key)(u:Nat)(c:List UInt8):(tg9S k u c).length=if k.1=1 then 16 else 32:=by
 unfold tg9S;split
 . rw [Am,q6E];rfl
 rw [q6E]
def icTail:Nat->IC->IC
 |0,c=>c
 |n+1,.seq _ b=>icTail n b
 |_,c=>c
attribute [go_sem] icTail
def j7b(k:Key)(u:Nat)(a plain:List UInt8)(b:a.length=16):unS k u (ciS k u a plain)=plain:=by
 unfold unS ciS;by_cases h:k.1=1
 . rw [if_pos h,if_pos h,j7j _ _ _ rfl (by rw [Ab];omega),BS b]
 rw [if_neg h,if_neg h,CU b,BS b,j7F]
theorem k1c(k:Key)(u:Nat)(a plain:List UInt8)(e:uOk k u=true)(j:a.length=16)(hp:plain.length<=65536):opS k u k.1 k.2.1 (seS k u a plain)=(plain,0):=by
 obtain ⟨_,_,_,_,p,o⟩:=q8j e;have b:=j0o k u a plain j;have c:(tg9S k u (ciS k u a plain)).length=k.2.2.length:=by
  rw [j4t];split
  . rename_i h;rw [p h]
  rename_i h;rw [(o h).2]
 have hsl:(seS k u a plain).length=16+plain.length+k.2.2.length:=by unfold seS;rw [Ab,b,c]
 have m:(seS k u a plain).length-k.2.2.length=(ciS k u a plain).length:=by omega
 unfold opS;rw [if_pos e,if_pos ⟨rfl,.inl rfl⟩,if_neg (by omega),if_neg (by omega),m];unfold seS;rw [BP,B2,if_pos rfl,j7b k u a plain j]
def uns_eq'(iv:List UInt8)(b:∀c:UInt8,iv.getD c.toNat 0=invS c)(x:List UInt8):(fS λj=>iv.getD ((fS λj=>x.getD (srcU j) 0).getD j 0).toNat 0)=unsS x:=by unfold unsS;refine q3h λj a=> ?_;have e:=q8G (λj=>x.getD (srcU j) 0) a;rw [b];exact congrArg invS e
theorem j9X(x:List UInt8):(fS λj=>(invP 256).getD ((fS λj=>x.getD (srcU j) 0).getD j 0).toNat 0)=unsS x:=uns_eq' (invP 256) (λ_=>rfl) x
def decH(cp:CipT.den)(b k:List UInt8)(G:List SObj):List SObj:=.row PasT [(some cp,(b,k))] :: .cells 282 [.rptr 0 PasT 0 0] :: .cells 1 [opF 268,opF 269,opF 270,opF 271] :: .cells 287 [.csl 2 .u8 0 0 4] :: G
def pdS(w b:List UInt8)(n:Nat):List UInt8:=if n<=10 then decA w b n else decS w b
def pqS(key:List UInt8):Nat->List UInt8
 |0=>z16
 |n+1=>rkK key (10-n)
def decOps(c:CipT.den)(key:List UInt8)(u:key.length=16)(p:c=cipS key){i:Nat}(w:i<11){b x:List UInt8}(e:b=rkK key i)(r:x.length=16):
 ∃a s2 s3 t2 t3 t4:List UInt8,OpE 268 (some c,(x,b)) (some c,(a,b))/\OpE 270 (some c,(a,b)) (some c,(s2,b))/\OpE 271 (some c,(s2,b)) (some c,(s3,b))/\
  OpE 269 (some c,(a,b)) (some c,(t2,b))/\OpE 270 (some c,(t2,b)) (some c,(t3,b))/\OpE 271 (some c,(t3,b)) (some c,(t4,b))/\
  a=addS x (wordsS key) i/\(i=10->s3=rndD (wordsS key) i x)/\(i<10->t4=rndD (wordsS key) i x):=by
 have q:b.length=16:=by rw [e];exact z0u u w
 have o:(c.1.2:List UInt8)=invP 256:=by rw [p];rfl
 have m:∀y:List UInt8,OpE 271 (some c,((fS λj=>y.getD (srcU j) 0),b)) (some c,(unsS y,b)):=by intro y;have h:=z7o c (fS λj=>y.getD (srcU j) 0) b (q2z _);rw [o] at h;have v:=j9X y;rw [v] at h;exact h
 refine ⟨_,_,_,_,_,_,z5K (some c) x b r q,q9W (some c) (addS x b 0) b (q2z _),m _,j1V (some c) (addS x b 0) b (q2z _),q9W (some c) (mixS (addS x b 0) [14,11,13,9]) b (q2z _),m _,?_,?_,?_⟩
 . rw [e,q6m]
 . intro h;unfold rndD mixD;rw [e,q6m,if_neg (by omega)]
 intro h;unfold rndD mixD;rw [e,q6m,if_pos h]
def decHs(cp:CipT.den)(key b:List UInt8)(i:Nat)(H':List SObj):Prop:=∃G,(∀xs,frzObH 0 PasT xs G)/\H'=decH cp (pdS (wordsS key) b i) (pqS key i) G
theorem z6A(key b:List UInt8)(V:key.length=16)(hb:b.length=16):PC Tryz.prog 249 [.iptr CipT (cipS key) 0,.isl .u8 b] (.tup [.isl .u8 (decS (wordsS key) b),rI 0]):=by
 refine q0s rfl rfl (q4o (q1V noFG fi249 ?_));letI:Ghost:=topG noFG [];have v:=z2j key b hb;have c:=q6V key true V;have O:=q7e key true V;unfold rkF at c;obtain ⟨I,q⟩:∃I,I=cipS key:=⟨_,rfl⟩;rw [<-q] at v c O⊢;have ac:List.take 16 b=b:=Aa (by omega);refine gQ ?_;refine q0a v ?_;refine uQ 600 _ ?_;simp (maxSteps:=3000000) only [hb,ac,z8h,go_sem,↓zA,↓reduceIte,↓reduceDIte] <;>try simp only [zB]
 refine cQ c ?_;refine z7z (decHs I key b) (λ_ _ _=>False) rfl rfl rfl O (λi n B ab h=>by rw [h.1];rfl) ⟨[],λ_=>trivial,rfl⟩ rfl ?_ ?_ ?_
 . rintro i _ B ab Q ⟨G,R,rfl⟩ ⟨rfl,rfl⟩ L1 L2;letI:Ghost:=pinG noFG L1;rw [Ac];unfold decH;have Z:rkI true i=10-i:=rfl;obtain ⟨r,hr⟩:∃r,r=10-i:=⟨_,rfl⟩;have w:r<11:=by omega
   have m:(rkK key r).length=16:=z0u V w;rw [Z,<-hr];obtain ⟨rk,c⟩:∃rk,rk=rkK key r:=⟨_,rfl⟩;rw [<-c] at m⊢;refine uQ 600 _ ?_;simp only [putL,Bn];with_reducible refine sya1 m ?_
   letI:Ghost:=pinG noFG L2;have A:List.take 16 rk=rk:=Aa (by omega);have p:pdS (wordsS key) b i=decA (wordsS key) b i:=if_pos (by omega);have L:(pdS (wordsS key) b i).length=16:=by rw [p];exact j4r _ _ hb _
   obtain ⟨a,s2,s3,t2,t3,t4,E,C,F,z,j,o,h0,N,h4⟩:=decOps I key V q w c L;have U:r=0->pdS (wordsS key) b (i+1)=a:=by
    intro h;have Q:i=10:=by omega
    rw [h0,p,h,Q];rfl
   have u:r=10->pdS (wordsS key) b (i+1)=s3:=by
    intro h;have Q:i=0:=by omega
    rw [N h,p,h,Q];rfl
   have Y:0<r->r<10->pdS (wordsS key) b (i+1)=t4:=by intro h W;have hu:pdS (wordsS key) b (i+1)=decA (wordsS key) b (i+1):=if_pos (by omega);rw [h4 W,hu,decA,p,hr]
   have ek:pqS key (i+1)=rk:=by rw [c,hr];rfl
   have eH:∀ {G':List SObj} {y:List UInt8},(∀xs,frzObH 0 PasT xs G')->pdS (wordsS key) b (i+1)=y->decHs I key b (i+1) (decH I y rk G'):=by intro G' y hg hy;exact ⟨G',hg,by rw [hy,ek]⟩
   clear h0 N h4 q v c p;generalize pdS (wordsS key) b i=x at*;generalize pqS key i=aa at*;rcases Ce r with h|h
   . have X:(((r:Nat):Int)=0)=True:=eq_true (by omega);have e:=U h;clear U u Y C F z j o;refine uQ 600 _ ?_;simp (maxSteps:=3000000) only [X,m,A,Ad,true_and,List.append_assoc,getA,getA0,setA,setA0,Ab,Ax,go_sem,↓zA,↓reduceIte,↓reduceDIte] <;>try simp only [zB]
     refine q0j [0,G.length+5] (z9x 268 _ _ E) rfl (by simp) ?_ rfl rfl ?_
     . simp (maxSteps:=3000000) only [atH,sig,SObj.ren,SV.ren,SV.renL,SObj.live,opF,List.append_assoc,getA,getA0,setA,setA0,Ab,Ax,go_sem,↓zA,↓reduceIte,↓reduceDIte] <;>try simp only [zB]
     simp only [afterO,Out.ren,SV.ren,mgA,sig,SObj.ren,SV.renL,List.set,List.map,Ac,opF];refine aQ ?_;exact eH (λxs=>q1L (R xs) ⟨trivial,⟨trivial,trivial⟩,trivial⟩) e
   have X:(((r:Nat):Int)=0)=False:=eq_false (by omega);rcases AL r 10 with W|W
   . have f2:(((r:Nat):Int)=10)=False:=eq_false (by omega);have e:=Y h W;clear U u Y C F;refine uQ 600 _ ?_;simp (maxSteps:=3000000) only [X,f2,m,A,Ad,true_and,List.append_assoc,getA,getA0,setA,setA0,Ab,Ax,go_sem,↓zA,↓reduceIte,↓reduceDIte] <;>try simp only [zB]
     refine q0j [0,2] (z8O 268 269 270 271 _ _ _ _ _ E z j o) rfl (by simp) ?_ rfl rfl ?_
     . simp (maxSteps:=3000000) only [atH,sig,SObj.ren,SV.ren,SV.renL,SObj.live,opF,List.append_assoc,getA,getA0,setA,setA0,Ab,Ax,go_sem,↓zA,↓reduceIte,↓reduceDIte] <;>try simp only [zB]
     simp only [afterO,Out.ren,SV.ren,mgA,sig,SObj.ren,SV.renL,List.set,List.map,Ac,opF];refine aQ ?_;exact eH (λxs=>q1L (R xs) ⟨trivial,trivial⟩) e
   have f2:(((r:Nat):Int)=10)=True:=eq_true (by omega);have e:=u (by omega);clear U u Y z j o;refine uQ 600 _ ?_;simp (maxSteps:=3000000) only [X,f2,m,A,Ad,true_and,List.append_assoc,getA,getA0,setA,setA0,Ab,Ax,go_sem,↓zA,↓reduceIte,↓reduceDIte] <;>try simp only [zB]
   refine q0j [0,G.length+5] (z8P 268 270 271 _ _ _ _ E C F) rfl (by simp) ?_ rfl rfl ?_
   . simp (maxSteps:=3000000) only [atH,sig,SObj.ren,SV.ren,SV.renL,SObj.live,opF,List.append_assoc,getA,getA0,setA,setA0,Ab,Ax,go_sem,↓zA,↓reduceIte,↓reduceDIte] <;>try simp only [zB]
   simp only [afterO,Out.ren,SV.ren,mgA,sig,SObj.ren,SV.renL,List.set,List.map,Ac,opF];refine aQ ?_;exact eH (λxs=>q1L (R xs) ⟨trivial,⟨trivial,trivial,trivial,trivial⟩,trivial⟩) e
 . rintro D Hn ⟨G,R,rfl⟩;letI:Ghost:=topG noFG [D];have L:(pdS (wordsS key) b 11).length=16:=q5Q _ _;have he:decS (wordsS key) b=pdS (wordsS key) b 11:=rfl;rw [he];clear q v c he;generalize pdS (wordsS key) b 11=x at*;have S:List.take 16 x=x:=Aa (by omega);generalize pqS key 11=aa at*;unfold decH;refine uQ 6 _ ?_;with_reducible refine sxaE ?_
   refine z4g (ty:=PasT) 64 0 0 1 rfl rfl rfl (Nat.succ_pos _) (show 1<=1125899906842624 by decide) ?_ ?_ ?_
   . exact ⟨trivial,⟨trivial,trivial⟩,⟨trivial,trivial,trivial,trivial,trivial⟩,⟨trivial,trivial⟩,R _⟩
   . with_reducible refine sxaE ?_;trivial
   with_reducible refine sxaE ?_
   refine aQ ?_;refine ⟨⟨by decide,Ad _⟩,q0a (S.symm▸q2J x (by omega)) ?_⟩;refine aQ ?_;simp [SV.leV,S]
 rintro D i ex _ Q h;exact h.elim
end Go.Proofs.YthbcodbcndiapaaGreatDoor
namespace Go.Sx
open Go

variable {P:Program} {AQ:Ex->List SV->List SObj->Prop} {k0:Nat} {k:List It} {t:List SV} {H:List SObj}

def flatC:Code->List Code
 |.seq a b=>flatC a++flatC b
 |c=>[c]
def q5g[Ghost]{F:Fence}{n:Nat}{E:EnD}{Q:Exit->Act->World->Prop}{id:Nat}{a:Act}{w:World}{k:List It}:∀ (l:List Code),exitT F n P E Q id (l.map .code++k) a w ↔ exitT F n P E Q id k a w
 | []=>Iff.rfl
 |c :: l=>by simp only [AB,Ay,exitT];exact q5g l
def q6c[Ghost]{F:Fence}{n:Nat}{E:EnD}{Q:Exit->Act->World->Prop}:∀ (c:Code) (k:List It) (a:Act) (w:World),wpT F n P E Q ((flatC c).map .code++k) a w->wpT F n P E Q (.code c :: k) a w
 |.seq x y,k,a,w,h=>by
  rw [flatC,By,List.append_assoc] at h;have j:=q6c x _ a w h;simp only [wpT] at j⊢;refine wpIn_seq (wpIn_mono j λe a w b=> ?_);cases e with
  |normal=>have m:=q6c y k a w b;simp only [wpT] at m;exact m
  |exit id=>exact (q5g _).1 b
  |_=>exact b
 |.skip,_,_,_,h=>h
 |.region ..,_,_,_,h=>h
 |.cond ..,_,_,_,h=>h
 |.block ..,_,_,_,h=>h
 |.loop _,_,_,_,h=>h
 |.rangeFunc ..,_,_,_,h=>h
 |.exit _,_,_,_,h=>h
 |.scope _,_,_,_,h=>h
 |.label _,_,_,_,h=>h
 |.goto _,_,_,_,h=>h
 |.ret,_,_,_,h=>h
 |.refuse ..,_,_,_,h=>h

def compAll(P:Program):List Code->Option (List IC)
 | []=>some []
 |c :: cs=>match comp P c,compAll P cs with
  |some x,some l=>some (x :: l)
  |_,_=>none
theorem z0b:∀ {cs:List Code} {l:List IC},compAll P cs=some l->cs.map (comp P)=l.map some
 | [],l,h=>by cases h;rfl
 |c :: cs,l,h=>by
  unfold compAll at h;split at h
  . rename_i x l' a b;cases h;simp only [AB,a,z0b b]
  cases h
structure XI where
 ntmps:Nat
 results:List ResultVar
 pre:List IC
 reg:Array Oper
 post:List IC
def rel_codes':∀ {cs:List Code} {l:List IC},cs.map (comp P)=l.map some->RelT P (l.map .ic) (cs.map .code)
 | [],[],_=>rfl
 |c :: cs,ic :: l,h=>by simp only [AB,List.cons.injEq] at h;exact ⟨c,_,rfl,h.1,rel_codes' h.2⟩
 | [],_ :: _,h=>by simp at h
 |_ :: _,[],h=>by simp at h
theorem q6Z:∀ (cs:List Code),noStop (cs.map .code)=true
 | []=>rfl
 |_ :: cs=>q6Z cs

variable {P:Program} {AQ:Ex->List SV->List SObj->Prop} {k0:Nat}

/- Values that hold nothing immutable. -/
mutual
def SV.noI:SV->Bool
 |.any|.raw _|.ptr .. |.rptr .. |.bld .. |.osl .. |.csl .. |.mp _=>true
 |.agg l=>SV.noIL l
 |.tup l=>SV.noIL l
 |.fn _ a b=>SV.noIL a&& SV.noIL b
 |.iface _ x=>SV.noI x
 |_=>false
def SV.noIL:List SV->Bool
 | []=>true
 |s :: l=>SV.noI s&& SV.noIL l
end
mutual
theorem j0I{C:Cx}{I:Nat->Prop}:∀ {s:SV} {v:Value},s.noI=true->s.den C v->s.den {C with I:=I} v
 |.any,_,_,_=>by rw [SV.den];trivial
 |.raw u,v,_,h=>by grind [SV.den]
 |.isl ..,_,h,_=>by simp [SV.noI] at h
 |.fsl ..,_,h,_=>by simp [SV.noI] at h
 |.iptr ..,_,h,_=>by simp [SV.noI] at h
 |.dat ..,_,h,_=>by simp [SV.noI] at h
 |.imap ..,_,h,_=>by simp [SV.noI] at h
 |.ptr h off,v,_,d=>by grind [SV.den]
 |.rptr h t i k,v,_,d=>by grind [SV.den]
 |.bld h t n,v,_,d=>by grind [SV.den]
 |.osl h t off n,v,_,d=>by grind [SV.den]
 |.csl h t k i n,v,_,d=>by grind [SV.den]
 |.mp h,v,_,d=>by grind [SV.den]
 |.agg l,v,h,d=>by rw [SV.den] at d⊢;obtain ⟨vs,a,b⟩:=d;exact ⟨vs,a,q5o (by grind [SV.noI]) b⟩
 |.tup l,v,h,d=>by rw [SV.den] at d⊢;obtain ⟨vs,a,b⟩:=d;exact ⟨vs,a,q5o (by grind [SV.noI]) b⟩
 |.fn f l1 l2,v,h,d=>by rw [SV.den] at d⊢;obtain ⟨m,j,a,c,e⟩:=d;simp [SV.noI] at h;exact ⟨m,j,a,q5o h.1 c,q5o h.2 e⟩
 |.iface T x,v,h,d=>by rw [SV.den] at d⊢;obtain ⟨u,a,c⟩:=d;exact ⟨u,a,j0I (by grind [SV.noI]) c⟩
theorem q5o{C:Cx}{I:Nat->Prop}:∀ {l:List SV} {vs:List Value},SV.noIL l=true->SV.denL C l vs->SV.denL {C with I:=I} l vs
 | [],_,_,h=>by grind [SV.denL]
 |s :: l,_,hc,h=>by rw [SV.denL] at h⊢;obtain ⟨v,us,rfl,a,b⟩:=h;simp [SV.noIL] at hc;exact ⟨v,us,rfl,j0I hc.1 a,q5o hc.2 b⟩
end
def SObj.noI:SObj->Bool
 |.cells _ cs=>SV.noIL cs
 |.row t _=>t.flat
 |.map _ _ vs=>SV.noIL vs
 |_=>true
theorem TabT.flat{C C':Cx}{H H':List SObj}(p:(datList.all λe=>e.2.1.flat)=true)(h:TabT C H)(e:C'.w=C.w)(m:∀b,OwnB C' H' b->OwnB C H b):TabT C' H' where
 tab:=λx a=>by obtain ⟨c,T,fz,o⟩:=h.tab x a;exact ⟨⟨by simp_all,λy=>c.2 (m _ y)⟩,T,fz,by simp_all⟩
 dat:=λx a=>by
  obtain ⟨c,us,o,h3⟩:=h.dat x a;refine ⟨⟨by simp_all,λy=>c.2 (m _ y)⟩,us,Ty.rel_flat _ _ _ (Bu.1 p x a) o,λj u hu=> ?_⟩
  simp_all
variable {args:List SV}{d:Option Tmp}
def j2t{Ds:List Nat}{q:Bool}{G:List Nat}{l B N:Nat}{J:Nat->(Nat->Prop)->World->(Nat->Prop)->Prop}{vw:Nat->Nat->List SV->List SObj->Prop}{i:Nat}{T:List SObj}(T':List SObj){k:List IT}
 (hJ:FJ B J)(yg:YG P l B N J vw)(hi:i<N)(hh:∀n,∃args' new,vw i n args' new/\Hand n (.mark i :: T) (.mark i :: T') args args' new)
 (hk:∀b:Bool,(q=true->SameG G (.mark i :: T) (.mark (if b then i+1 else N+1+i) :: T'))/\ @SoundI (topG (yFG hJ) Ds) P AQ ⟨k0,k,putT t d (.raw (.bool b)),.mark (if b then i+1 else N+1+i) :: T'⟩): @YldR (topG (yFG hJ) Ds) P AQ q G l args d ⟨k0,k,t,.mark i :: T⟩:=z5v hJ yg hi hh hk

variable {P:Program} {AQ:Ex->List SV->List SObj->Prop} {k0:Nat}

def flatI:IC->List IC
 |.seq a b=>flatI a++flatI b
 |c=>[c]
theorem q9J:∀ {a e:List IT} {j b:List It},(∀x∈a,∃c,x= .ic c)->RelT P a j->RelT P e b->RelT P (a++e) (j++b)
 | [],_,_,_,_,h,h2=>by cases h;exact h2
 |x :: a,e,j,b,hc,h,h2=>by obtain ⟨c,rfl⟩:=hc x (by simp);obtain ⟨o,r,rfl,p,m⟩:=h;exact ⟨o,r++b,rfl,p,q9J (λx q=>hc x (by simp [q])) m h2⟩
theorem rel_flat:∀ (e:IC) {c:Code},comp P c=some e->RelT P ((flatI e).map .ic) ((flatC c).map .code):=by
 intro e;induction e with
 |seq x y ihx ihy=>intro c h;obtain ⟨a,b,rfl,h1,h2⟩:=q0N h;grind [flatI,flatC,q9J]
 |_=>
  intro c h;have j:flatC c= [c]:=by
   cases c with
   |seq a b=>simp only [comp] at h;split at h<;>cases h
   |_=>rfl
  rw [j];exact ⟨c,[],rfl,h,rfl⟩

variable {P:Program} {AQ:Ex->List SV->List SObj->Prop} {k0:Nat}

def mofP(P:Program)(T:TypeId)(nm:String):Option (FuncId×Nat):=match (P.info? T).bind λi=>i.methods.find? (·.name==nm) with
 |some m=>match m.path.toList,m.func with
  | [s],some (g,true)=>if s.deref=true then none else match P.underlying s.struct with
   |some (.struct fs)=>match fs[s.index]? with
    |some y=>match P.underlying y.type,aggOf P y.type with
     |some (.pointer _),some none=>match P.underlying T with
      |some (.struct _)=>if enters P g=true then some (g,y.offset) else none
      |_=>none
     |_,_=>none
    |none=>none
   |_=>none
  |_,_=>none
 |none=>none
variable {nm:String}{off:Nat}{s:SV}
theorem j8H{T:TypeId}{g:FuncId}(h:mofP P T nm=some (g,off)){C:Cx}{cs:List SV}{vs:List Value}(j:SV.denL C cs vs)(hp:cs[off]?=some s)(w:World)(a:Nat):
 ∃v,(method (a+1) T (.agg vs.toArray) nm).run P w= .ok (g,v) w/\s.den C v/\enters P g=true/\∃e,P.underlying T=some (.struct e):=by
 unfold mofP at h;split at h
 . rename_i m c;split at h
   . rename_i st g' hpath hfn;split at h
     . cases h
     rename_i hder;split at h
     . rename_i e hu;split at h
       . rename_i y hy;split at h
         . rename_i el hpt b;split at h
           . rename_i fs' hT;split at h
             . rename_i hen;cases h;obtain ⟨v,h1,h2⟩:=q5F b j (off:=y.offset) (s:=s) (by grind [pick]) w;rw [A8] at c;obtain ⟨ti,hti,c⟩:=c
               simp_all [method,typeInfo,receiverAt,Place.get,follow,run_underlying']
             cases h
           cases h
         cases h
       cases h
     cases h
   cases h
 cases h

variable {ev:Operand->SV}{K:Out->List SObj->Prop}{f:FuncId}{rest:List Operand}
theorem z9G[Ghost]{o:Oper}{c:Call}{g x:Operand}{T:TypeId}{l:List SV}(z:o.op= .call c)(Y:c.callee= .value g)(L:ev g= .raw (.func (.methodOf T nm) #[] #[]))
 (X:c.args.toList=x :: rest)(I:ev x= .agg l)(S:l[off]?=some s)(W:mofP P T nm=some (f,off))(h:VCallG P f (s :: rest.map ev) H K):OpV P o ev H K:=by
 intro E C r n a next Q R B D h1 h2
 have F:=D g (by grind [Op.operands,Call.operands]);have m:∀y∈x :: rest,y∈o.op.operands:=λy G=>by grind [Op.operands,Call.operands]
 have j:=D x (m x (by simp));rw [L,SV.den] at F;rw [I,SV.den] at j;obtain ⟨vs,j,U⟩:=j;obtain ⟨v,b,u,A,fs,O⟩:=j8H W U S C.w (P.types.size+Made.depth-1);have N:SV.denL C (rest.map ev) (rest.map a.eval):=q2u _ λy G=>D y (m y (by simp [G]));refine ⟨λf _=>q5G r f,?_⟩;rw [Oper.semAt_eq _ _ _ (by simp_all)];have p:c.args.map a.eval=(.agg vs.toArray :: rest.map a.eval).toArray:=by rw [<-Array.toList_inj];simp [X,j]
 have b:(execOp a.eval o).run P C.w= .ok (.enter f (v :: rest.map a.eval).toArray) C.w:=by
  have q:P.types.size+Made.depth=P.types.size+Made.depth-1+1:=by rfl
  rw [<-q] at b;simp [execOp,z,resolve,Y,F,Deferred.ofValue,invoke,p,run_underlying' O,callMethod,b,q3C A,Result.andThen];grind [List.take_of_length_le]
 rw [b];refine ⟨(λq=>by cases q),q4s ?_⟩;refine (h E C _ R B (q0c.2 ⟨_,_,rfl,u,N⟩)).mono ?_;rintro e w' ⟨out,H',C',hk,rfl,hw',I,q⟩;cases out with
 |ret s=>obtain ⟨v,rfl,V⟩:=q;grind
 |pan s=>obtain ⟨v,rfl,V⟩:=q;grind
theorem callinv{op:Op}{f:Operand}{args:List Operand}(h:compOp P op=some (.call f args)):∃c:Call,op= .call c/\c.callee= .value f/\c.args.toList=args:=by
 unfold compOp at h;repeat' split at h
 all_goals first
  |contradiction
  | (simp only [Option.some.injEq,IOp.call.injEq] at h;obtain ⟨rfl,rfl⟩:=h;exact ⟨_,rfl,by assumption,rfl⟩)
  | (simp only [A8,An,Option.some.injEq,reduceCtorEq,and_false,exists_false] at h;done)
  | (simp [A8] at h;done)
variable {l:List OpI}{td:List IT}
theorem z4K[Ghost]{g x:Operand}{T:TypeId}{cs b:List SV}(D:evT b g= .raw (.func (.methodOf T nm) #[] #[]))(E:evT b x= .agg cs)(A:cs[off]?=some s)(B:mofP P T nm=some (f,off))
 (h:CallI P AQ f (s :: rest.map (evT b)) d ⟨k0,.ops l :: td,b,H⟩):SoundI P AQ ⟨k0,.ops (⟨d,.call g (x :: rest),none⟩ :: l) :: td,b,H⟩:=q0e (λtd' u=>by
 obtain ⟨all,a,r,rfl,p,u⟩:=u;cases a with
 |nil=>exact p.elim
 |cons i a=>
  obtain ⟨⟨o,q,m⟩,p⟩:=p;obtain ⟨z,w⟩:=q0K m;simp only at z w;obtain ⟨c,v,e,C⟩:=callinv z;refine q7y (k0:=k0) (k:=r) q ((q0C m).1 rfl) ?_;refine z9G v e D C E A B (h.2.mono λout H' y=> ?_);cases out with
  |ret s=>have j:SoundI P AQ ⟨k0,.ops l :: td,putT b d s,H'⟩:=y;rw [w] at j;exact q0f j ⟨all,a,r,rfl,p,u⟩
  |pan s=>exact y) rfl
def k0i{g:FG}(h: @VCG (fgG g) P f args H K): @VCG (topG g []) P f args H K:=
 ⟨h.1,λE C vs m e r=>(h.2 E C vs m ⟨e.1,e.2.1⟩ r).mono λ_ _ ⟨o,H',C',j,p,q,a,u⟩=>
  ⟨o,H',C',j,p,q, @Stp.mk (topG g []) _ _ _ _ _ (@Stp.evo (fgG g) _ _ _ _ _ a) (@Stp.ext (fgG g) _ _ _ _ _ a) (λb=>
   have c:= @Stp.inv (fgG g) _ _ _ _ _ a ⟨b.1,b.2.1⟩
   ⟨c.1,c.2,b.2.2.1,λD v=>absurd v (by simp)⟩),u⟩⟩

theorem z2u:∀ (n t:Nat) (a:Array Value),∃xs:List UInt8,xs.length=n/\Extern.BytealgMakeNoZero.digits n t a=a++(xs.map λb=>Value.int .u8 b.toNat).toArray
 |0,_,a=>⟨[],rfl,by rfl⟩
 |n+1,t,a=>by
  obtain ⟨xs,c,h⟩:=z2u n (t / 256) (a.push (.int .u8 (Int.ofNat (t%256))));refine ⟨UInt8.ofNat (t%256) :: xs,by simp [c],?_⟩;have h9:(UInt8.ofNat (t%256)).toNat=t%256:=by simp
  grind [Extern.BytealgMakeNoZero.digits]
variable {n:Nat}
theorem j6o(w:World)(ps:Array TypeId){t e:TypeId}(ht:P.underlying t=some (.slice e))(hn:n<=140737488355328):
 ∃ (c:Nat) (xs rest:List UInt8),xs.length=n/\c=n+rest.length/\(Extern.BytealgMakeNoZero.makeNoZero ps #[t] #[.int .i64 n]).run P w= .ok (.slice (some ⟨w.heap.size,0,none⟩) n c) (w.drew.drew.alloc (.cells ((xs.map λb=>Value.int .u8 b.toNat)++(rest.map λb=>Value.int .u8 b.toNat)).toArray e)):=by
 have hdef:Extern.BytealgMakeNoZero.makeNoZero ps #[t] #[.int .i64 n]=
  (do
   let .slice elem<-underlying t|stuck "bytealg.MakeNoZero: slice type expected"
   if (n:Int) <0|| (n:Int) >2^ 48 then runtimePanic (.error "makeslice: len out of range")
   let cap<-choose (.appendCap (n:Int).toNat 0 elem)
   askRoom cap
   let bytes<-choose (.extern "internal/bytealg.MakeNoZero.bytes" 0)
   let a<-newRow elem (Extern.BytealgMakeNoZero.digits cap bytes #[])
   pure (.slice (some a) (n:Int).toNat cap)):=rfl
 have h1:¬(n:Int) <0:=by omega
 have h2:¬(281474976710656:Int) < (n:Int):=by omega
 obtain ⟨c,hc⟩:∃c,c=(Question.appendCap n 0 e).cut (w.tape w.drawn (.appendCap n 0 e)):=⟨_,rfl⟩;obtain ⟨xs,hl,hd⟩:=z2u c ((Question.extern "internal/bytealg.MakeNoZero.bytes" 0).cut (w.tape (w.drawn+1) (.extern "internal/bytealg.MakeNoZero.bytes" 0))) #[];have hge:n<=c:=by grind [Question.cut]
 refine ⟨c,xs.take n,xs.drop n,by simp_all,by simp_all,?_⟩
 simp_all [run_underlying',Question.forced,newRow]
variable {ps:Array TypeId}{fn:Func}
theorem j7L[Ghost]{o:Oper}{c:Call}{g x:Operand}{t e:TypeId}(j:o.op= .call c)(X:c.callee= .value g)(F:ev g= .fn f [] [])(B:c.args.toList= [x])(S:ev x= .raw (.int .i64 n))
 (R:P.funcs[f]?=some fn)(a:(fn.name== "runtime.NumGoroutine")=false)(E:fn.body.isNone=true)(U:Extern.findNext fn=none)(V:Extern.find fn=some (Extern.BytealgMakeNoZero.makeNoZero ps #[t]))(D:P.underlying t=some (.slice e))
 (r:n<=140737488355328)(G:∀xs:List UInt8,xs.length=n->K (.ret (.bld H.length .u8 n)) (H++ [.row .u8 xs])):OpV P o ev H K:=by
 refine q0Q (by simp_all) λC N Q A=> ?_;have p:=A g (by grind [Op.operands,Call.operands]);have y:=A x (by rw [j];simp [Op.operands,Call.operands];exact .inr (by rw [<-Array.mem_toList_iff,B];simp));rw [F,SV.den] at p;rw [S,SV.den] at y;obtain ⟨v1,v2,p,v,u⟩:=p;rw [q0I] at v u;subst v u;obtain ⟨W,xs,rest,z,hcp,m⟩:=j6o (P:=P) C.w ps D r;have q:Wd C.drew.drew H:=q2W (q2W Q);obtain ⟨L,Y,O⟩:=q4i (T:=e) (rest:=rest.map λb=>Value.int .u8 b.toNat) q (n:=n) (c:=W) (q4H C.drew.drew.I C.drew.drew.w xs) z.symm (by omega) (by grind [Ty.size]);refine ⟨_,_,_,_,G xs z,.inl ?_,L,((q2a C H).trans (q2a C.drew H)).trans Y,O⟩;have h:c.args.map N= #[.int .i64 n]:=by rw [<-Array.toList_inj];simp [B,y]
 simp [execOp,j,resolve,X,p,Deferred.ofValue,invoke,h,run_callFunc_extern R a E U V,m,Result.andThen];exact ⟨rfl,rfl⟩
theorem j9g[Ghost]{x:Operand}{t e:TypeId}{w:List SV}(F:evT w x= .raw (.int .i64 n))
 (D:P.funcs[f]?=some fn)(b:(fn.name== "runtime.NumGoroutine")=false)(C:fn.body.isNone=true)(G:Extern.findNext fn=none)(I:Extern.find fn=some (Extern.BytealgMakeNoZero.makeNoZero ps #[t]))(B:P.underlying t=some (.slice e))
 (y:n<=140737488355328)(h:∀xs:List UInt8,xs.length=n->SoundI P AQ ⟨k0,.ops l :: td,putT w d (.bld H.length .u8 n),H++ [.row .u8 xs]⟩):SoundI P AQ ⟨k0,.ops (⟨d,.call (.func f) [x],none⟩ :: l) :: td,w,H⟩:=q0e (λtd' v=>by
 obtain ⟨all,a,r,rfl,p,v⟩:=v;cases a with
 |nil=>exact p.elim
 |cons i a=>
  obtain ⟨⟨o,u,m⟩,p⟩:=p;obtain ⟨A,z⟩:=q0K m;simp only at A z;obtain ⟨c,q,j,L⟩:=callinv A;refine q7y (k0:=k0) (k:=r) u ((q0C m).1 rfl) ?_;refine j7L q j rfl L F D b C G I B y λxs E=> ?_;have hK':=h xs E;rw [z] at hK'
  exact q0f hK' ⟨all,a,r,rfl,p,v⟩) rfl
end Go.Sx
namespace Go.Proofs.YthbcodbcndiapaaGreatDoor
open Go Go.Sx Go.Proofs
set_option maxRecDepth 100000
set_option maxHeartbeats 40000000
def modS(key iv:List UInt8):List SV:=[.iptr CipT (cipS key) 0,.isl .u8 iv]
theorem z8j(l:List UInt8)(hl:l.length<=140737488355328):VC Tryz.prog 105 [.isl .u8 l] [] (RowK .u8 l):=by refine z9M ?_;refine rQ fi105 ?_;intro b a;refine ⟨λh=>j2V (a h),λh=>⟨⟨by omega,by omega⟩,?_⟩⟩;exact j3f (h:=1) rfl (by omega)
theorem z0M(key iv:List UInt8)(a:key.length=16)(hi:iv.length=16):PC Tryz.prog 241 [.isl .u8 key,.isl .u8 iv] (.tup [.agg (modS key iv),rI 0]):=by have b:(((iv.length:Nat):Int)=16)=True:=eq_true (by omega);have c:=k0y key a;unfold modS;generalize cipS key=cp at*;refine q0s rfl rfl ?_;refine ry1 fi241 b ?_;refine cQ c ?_;refine cQ (q2J iv (by omega)) ?_;trivial
theorem z4S(b:List UInt8)(h1:16<=b.length)(h2:b.length<=131072):PC Tryz.prog 242 [.isl .u8 b] (rI 0):=by have c:(((b.length:Nat):Int) <16)=False:=eq_false (by omega);have a:((131072:Int) < ((b.length:Nat):Int))=False:=eq_false (by omega);refine q0s rfl rfl ?_;refine ry2 fi242 c a ?_;trivial
def q8n(a b:List UInt8)(e:a.length=16)(u:b.length=16):PC Tryz.prog 250 [.isl .u8 a,.isl .u8 b] (.isl .u8 (xorS a b)):=by
 refine q0g rfl rfl ?_;refine rQ fi250 ?_;refine z7x (z8j a (by omega)) rfl rfl (λh=>by rw [h] at e;cases e) ?_;refine gQ ?_;refine q0m (ι:=Nat) (λi=>[(11,rI i)]) (λi=>[.row .u8 (gP a (λj=>a.getD j 0^^^ b.getD j 0) i)]) (λi=>16-i) (λi=>i<=16) 0 (Aj _) (by rw [q6B _ e];first|done|rfl) ?_ λi hi=> ?_
 . with_reducible refine sxE ?_;trivial
 have o:=wsx i (by omega);have q:=q8R a (λj=>a.getD j 0^^^ b.getD j 0) i;by_cases c:i<16
 . have m:((i:Int) < ((16:Nat):Int))=True:=eq_true (by omega);refine uQ 600 _ ?_;have p:(gP a (λj=>a.getD j 0^^^ b.getD j 0) i).getD i Ty.u8.dflt=a.getD i 0:=z6c _ _ c (Ad _);have r:b.getD i Ty.u8.dflt=b.getD i 0:=rfl;simp (maxSteps:=3000000) only [m,q,e,u,AO,Ag,p,r,xor8,AA,AS,go_sem,↓zA,↓reduceIte,↓reduceDIte] <;>try simp only [zB]
   refine ⟨⟨by omega,c⟩,c,⟨by omega,c⟩,⟨by omega,c⟩,c,i+1,c,by show 16- (i+1) <16-i;omega,?_,?_⟩
   . dsimp only;rw [<-z0a a (λj=>a.getD j 0^^^ b.getD j 0) c]
   with_reducible refine sx1 o ?_;trivial
 obtain rfl:i=16:=by omega
 rw [q9O];refine uQ 600 _ ?_;have m:(((16:Nat):Int) < ((a.length:Nat):Int))=False:=eq_false (by omega);simp (maxSteps:=3000000) only [m,go_sem,↓zA,↓reduceIte,↓reduceDIte] <;>try simp only [zB]
 exact ⟨⟨by rw [e,q2z];decide,by rw [q2z];decide⟩,Aa (by rw [q2z];omega)⟩
theorem z7M(key iv b:List UInt8)(e:key.length=16)(h:b.length=16):PC Tryz.prog 248 [.agg (modS key iv),.raw (.func (.methodOf 256 "Encrypt") #[] #[]),.isl .u8 b] (.isl .u8 (encS (wordsS key) b)):=by
 have c:=z7j key b e h;unfold modS;generalize cipS key=a at*;refine q0s rfl rfl ?_;refine q2g fi248 ?_;refine uQ 10 _ ?_;with_reducible refine sxE ?_
 refine z4K (cs:=[.iptr CipT a 0,.isl .u8 iv]) (s:=.iptr CipT a 0) rfl rfl rfl (show mofP Tryz.prog 256 "Encrypt" =some (264,0) by kernel_rfl) ?_;refine cQ c ?_;trivial
theorem z1N(key iv b:List UInt8)(e:key.length=16)(h:b.length=16):PC Tryz.prog 248 [.agg (modS key iv),.raw (.func (.methodOf 256 "Decrypt") #[] #[]),.isl .u8 b] (.isl .u8 (decS (wordsS key) b)):=by
 have c:=z6A key b e h;unfold modS;generalize cipS key=a at*;refine q0s rfl rfl ?_;refine q2g fi248 ?_;refine uQ 10 _ ?_;with_reducible refine sxE ?_
 refine z4K (cs:=[.iptr CipT a 0,.isl .u8 iv]) (s:=.iptr CipT a 0) rfl rfl rfl (show mofP Tryz.prog 256 "Decrypt" =some (249,0) by kernel_rfl) ?_;refine cQ c ?_;trivial
def blkC(p:List UInt8)(i:Nat):List UInt8:=((p.take (16*i+16)).drop (16*i))++List.replicate (16*i+16-p.length) 0
def nblk(n:Nat):Nat:=(n+15) / 16
variable {i:Nat}
def q4B(p:List UInt8)(a:i<nblk p.length):(blkC p i).length=16:=by unfold nblk at a;unfold blkC;rw [Ab,Ah,Am,BQ];omega
def q3y(p:List UInt8)(h:16*i+16<=p.length):blkC p i=(p.take (16*i+16)).drop (16*i):=by unfold blkC;rw [show 16*i+16-p.length=0 by omega,List.replicate_zero,Ac]
def q8u(p:List UInt8)(h:p.length<16*i+16)(h':16*i<=p.length):blkC p i=(p.take p.length).drop (16*i)++List.replicate (16- (p.length-16*i)) 0:=by unfold blkC;rw [Aa (Nat.le_of_lt h),Aa (Ad _),show 16*i+16-p.length=16- (p.length-16*i) by omega]
abbrev cutF(p:List UInt8):SV:=.fn 265 [] [.iptr (.slice .u8) p 0]
theorem j5c(p:List UInt8)(a:p.length<=1125899906842624):PC Tryz.prog 244 [.isl .u8 p] (cutF p):=by
 refine q0s rfl rfl ?_;refine q2g fi244 ?_;refine uQ 4 _ ?_;with_reducible refine sxE ?_
 refine q2l 1 0 (ty:=.slice .u8) (x:=p) rfl ⟨a,λ_ _=>trivial⟩ rfl rfl ?_;refine gQ ?_;trivial
def vwC(p:List UInt8):Nat->Nat->List SV->List SObj->Prop:=λi _ args' new=>args'= [.isl .u8 (blkC p i)]/\new= []
theorem k0K(p:List UInt8)(hp:p.length<=131072):Iter Tryz.prog 265 [] [.iptr (.slice .u8) p 0] (nblk p.length) (vwC p):=by
 refine ⟨by kernel_rfl,λl B J h u=> ?_⟩;refine (q1V (yFG h) fi265 ?_).2;letI:Ghost:=topG (yFG h) [];refine gQ ?_;refine z0Y [] (λi=>i) (λi=>[(3,rI ((16*i:Nat):Int))]) (nblk p.length) (λ_=>True) trivial rfl (by simp) (by simp [SV.bel]) ?_ λi hi _=> ?_
 . with_reducible refine sxE ?_;trivial
 by_cases a:i<nblk p.length
 . have hn:nblk p.length=(p.length+15) / 16:=rfl;have e:(((16*i:Nat):Int) < ((p.length:Nat):Int))=True:=eq_true (by omega);have j:IntKind.i64.wrap (((16*i:Nat):Int)+16)=((16*i+16:Nat):Int):=by rw [wrapi (by omega)];omega
   have v:((16* (i+1):Nat):Int)=((16*i+16:Nat):Int):=by omega
   by_cases x:16*i+16<=p.length
   . have b:=q3y p x;have hbl:=q4B p a;have m:mxV false ((16*i+16:Nat):Int) ((p.length:Nat):Int)=((16*i+16:Nat):Int):=by unfold mxV;simp;omega
     have q:(((blkC p i).length:Int) <16)=False:=eq_false (by omega);refine uQ 600 _ ?_;simp (maxSteps:=3000000) only [e,q,j,m,<-b,AA,go_sem,↓zA,↓reduceIte,↓reduceDIte] <;>try simp only [zB]
     refine ⟨⟨by omega,by omega,by omega,by omega⟩,q2f [] h u a (λn=>⟨_,_,⟨rfl,rfl⟩,q0R rfl⟩) λc=> ?_⟩;cases c
     . refine gQ ?_;exact ⟨_,_,rfl,rfl,by omega⟩
     refine uQ 600 _ ?_;simp (maxSteps:=3000000) only [j,go_sem,↓zA,↓reduceIte,↓reduceDIte] <;>try simp only [zB]
     refine ⟨a,trivial,⟨[],rfl⟩,?_⟩;simp (maxSteps:=3000000) only [v,go_sem,↓zA,↓reduceIte,↓reduceDIte] <;>try simp only [zB]
   have b:=q8u p (i:=i) (by omega) (by omega);have y:((p.take p.length).drop (16*i)).length=p.length-16*i:=by rw [Ah,Am];omega
   have m:mxV false ((16*i+16:Nat):Int) ((p.length:Nat):Int)=((p.length:Nat):Int):=by unfold mxV;simp;omega
   generalize o:(p.take p.length).drop (16*i)=r at b y;have q:((r.length:Int) <16)=True:=eq_true (by omega);have z:IntKind.i64.wrap (16- (r.length:Int))=((16- (p.length-16*i):Nat):Int):=by rw [wrapi (by omega)];omega
   have w:Ty.u8.dflt=(0:UInt8):=rfl;refine uQ 600 _ ?_;simp (maxSteps:=3000000) only [e,q,j,m,z,w,o,AA,<-b,go_sem,↓zA,↓reduceIte,↓reduceDIte] <;>try simp only [zB]
   refine ⟨⟨by omega,by omega,Ad _⟩,⟨by omega,by omega,by omega⟩,q2f [] h u a (λn=>⟨_,_,⟨rfl,rfl⟩,q0R rfl⟩) λc=> ?_⟩;cases c
   . refine gQ ?_;exact ⟨_,_,rfl,rfl,by omega⟩
   refine uQ 600 _ ?_;simp (maxSteps:=3000000) only [j,go_sem,↓zA,↓reduceIte,↓reduceDIte] <;>try simp only [zB]
   refine ⟨a,trivial,⟨[],rfl⟩,?_⟩;simp (maxSteps:=3000000) only [v,go_sem,↓zA,↓reduceIte,↓reduceDIte] <;>try simp only [zB]
 obtain rfl:i=nblk p.length:=by omega
 have e:(((16*nblk p.length:Nat):Int) < ((p.length:Nat):Int))=False:=eq_false (by unfold nblk;omega);refine gy1 e ?_;exact ⟨_,_,rfl,rfl,Ad _⟩
abbrev ModT:Ty:=.prod (.ptr CipT) (.slice .u8)
abbrev chnF(key iv p:List UInt8):SV:=.fn 262 [] [.iptr (.int .i64) 0 0,.iptr (.clp 265 (.slice .u8)) p 0,.iptr ModT (some (cipS key),iv) 0]
theorem j3B(key iv p:List UInt8)(b:key.length=16)(j:iv.length=16)(hp:p.length<=131072):PC Tryz.prog 243 [.isl .u8 key,.isl .u8 iv,cutF p] (chnF key iv p):=by
 have c:=z0M key iv b j;have a:=j4M key b;unfold modS at c;unfold chnF;generalize cipS key=e at*;refine q0s rfl rfl ?_;refine q2g fi243 ?_;refine gQ ?_;refine q0a c ?_;refine uQ 9 _ ?_;with_reducible refine sxE ?_
 refine q2l 5 0 (ty:=.clp 265 (.slice .u8)) (x:=p) rfl ⟨by omega,λ_ _=>trivial⟩ rfl rfl ?_;refine q2l 7 1 (ty:=ModT) (x:=(some e,iv)) rfl ⟨λy h=>by cases h;exact a,by show iv.length<=_;omega,λ_ _=>trivial⟩ rfl rfl ?_;refine q2l 8 2 (ty:=.int .i64) (x:=0) rfl trivial rfl rfl ?_;refine gQ ?_;trivial
def cpre(key iv p:List UInt8):Nat->List UInt8
 |0=>iv
 |n+1=>encS (wordsS key) (xorS (cpre key iv p n) (blkC p n))
def z5o(key iv p:List UInt8)(hi:iv.length=16):∀n,(cpre key iv p n).length=16
 |0=>hi
 |_+1=>q5O _ _
def vwH(key iv p:List UInt8):Nat->Nat->List SV->List SObj->Prop:=λi _ args' new=>args'= [.isl .u8 (cpre key iv p (i+1))]/\new= []
abbrev yC(l:Nat):SV:=.raw (.func (.yield l) #[] #[])
variable {J:Nat->(Nat->Prop)->World->(Nat->Prop)->Prop}
theorem z9O{l B N:Nat}(h:FJ B J){q:Nat->Nat->List SV->List SObj->Prop}(z:YG Tryz.prog l B N J q)(A:i<N)(key iv a c:List UInt8)(u:key.length=16)(w:a.length=16)(r:c.length=16)
 (j:∀n,q i n [.isl .u8 (encS (wordsS key) (xorS a c))] [])(G:List SObj): @VCG (fgG (yFG h)) Tryz.prog 263 [.isl .u8 c,.ptr 3 0,.iptr ModT (some (cipS key),iv) 0,.ptr 2 0,.ptr 1 0]
  (.mark i :: .cells 281 [yC l] :: .cells 25 [.isl .u8 a] :: .cells 4 [.raw (.bool false)] :: G)
  (λo H'=>∃b:Bool,o= .ret (.raw (.bool b))/\∃G',H'= .mark (if b then i+1 else N+1+i) :: .cells 281 [yC l] :: .cells 25 [.isl .u8 (encS (wordsS key) (xorS a c))] :: .cells 4 [.raw (.bool (!b))] :: (G++G')):=by
 refine q1V (yFG h) fi263 ?_;letI:Ghost:=topG (yFG h) [];have m:=q8n a c w r;have e:=z7M key iv (xorS a c) u (q2E _ _);have hel:=q5O (wordsS key) (xorS a c);unfold modS at e;generalize cipS key=cp at*;generalize hy:encS (wordsS key) (xorS a c)=y at*;generalize xorS a c=x at*;have p:=q2J y (by omega);have v:(((16:Nat):Int)=16)=True:=eq_true rfl;refine uQ 17 _ ?_;with_reducible refine sy2 r v ?_
 refine q1x [2] mixed ?_;refine gQ ?_;refine cR m ?_;refine q0d e ?_;refine uQ 3 _ ?_;with_reducible refine sxE ?_
 refine q1x [1,2] mixed ?_;refine gQ ?_;refine cR p ?_;refine j2t (.cells 281 [yC l] :: .cells 25 [.isl .u8 y] :: .cells 4 [.raw (.bool false)] :: G) h z A (λn=>⟨_,_,j n,q0R rfl⟩) λb=>⟨λ_=> ?_,?_⟩
 . simp [q0y,q0E]
 cases b
 . refine gQ ?_;exact ⟨[],by rw [Ac]⟩
 refine gQ ?_;exact ⟨[],by rw [Ac]⟩
variable {P:Program}{AQ:Ex->List SV->List SObj->Prop}{td:List IT}{t:List SV}{f:FuncId}{args:List SV}
theorem z0r{k0:Nat}{d:Option Tmp}{g:FG}{H:List SObj}{K:Out->List SObj->Prop}(h: @VCG (fgG g) P f args H K)
 (b:∀o H',K o H'->∃s,o= .ret s/\ @SoundI (topG g []) P AQ ⟨k0,td,putT t d s,H'⟩): @CallI (topG g []) P AQ f args d ⟨k0,td,t,H⟩:=
 have h':=k0i h
 ⟨h'.1, @VCallG.mono (topG g []) P f args H K _ h'.2 λo H' a=>by obtain ⟨s,rfl,c⟩:=b o H' a;exact c⟩
def chH(l:Nat)(m:Nat)(pv:List UInt8)(b:Bool)(G:List SObj):List SObj:=.mark m :: .cells 281 [yC l] :: .cells 25 [.isl .u8 pv] :: .cells 4 [.raw (.bool b)] :: G
theorem j5x{l B:Nat}(v:FJ B J)(key iv p:List UInt8)(O:key.length=16)(E:iv.length=16)(hp:p.length<=131072)(S:YG Tryz.prog l B (nblk p.length) J (vwH key iv p)):
 @VCG (fgG (yFG v)) Tryz.prog 265 [.fn 263 [] [.ptr 3 0,.iptr ModT (some (cipS key),iv) 0,.ptr 2 0,.ptr 1 0],.iptr (.slice .u8) p 0]
  (chH l 0 iv false []) (λo H'=>o= .ret (.tup [])/\∃m I b G,nblk p.length<=m/\H'=chH l m I b G):=by
 refine q1V (yFG v) fi265 ?_;letI:Ghost:=topG (yFG v) [];refine gQ ?_;refine q0m (ι:=Nat×List SObj) (λs=>[(3,rI ((16*s.1:Nat):Int))]) (λs=>chH l s.1 (cpre key iv p s.1) false s.2) (λs=>nblk p.length-s.1) (λs=>s.1<=nblk p.length) (0,[]) (Aj _) rfl ?_ ?_
 . with_reducible refine sxE ?_;trivial
 rintro ⟨i,G⟩ U;dsimp only at U;have z:=z5o key iv p E i;have hn:nblk p.length=(p.length+15) / 16:=rfl;by_cases a:i<nblk p.length
 . have u:(((16*i:Nat):Int) < ((p.length:Nat):Int))=True:=eq_true (by omega);have w:IntKind.i64.wrap (((16*i:Nat):Int)+16)=((16*i+16:Nat):Int):=by rw [wrapi (by omega)];omega
   have L:((16* (i+1):Nat):Int)=((16*i+16:Nat):Int):=by omega
   have x:=q4B p a;have c:=z9O v S a key iv (cpre key iv p i) (blkC p i) O z x (λn=>⟨rfl,rfl⟩) G;have h:cpre key iv p (i+1)=encS (wordsS key) (xorS (cpre key iv p i) (blkC p i)):=rfl;rw [<-h] at c;clear h;generalize j:cpre key iv p (i+1)=y at c;generalize e:cpre key iv p i=I at*;unfold chH;by_cases Q:16*i+16<=p.length
   . have q:=q3y p Q;have C:mxV false ((16*i+16:Nat):Int) ((p.length:Nat):Int)=((16*i+16:Nat):Int):=by unfold mxV;simp;omega
     have F:(((blkC p i).length:Int) <16)=False:=eq_false (by omega);refine uQ 600 _ ?_;simp (maxSteps:=3000000) only [u,F,w,C,<-q,AA,e,go_sem,↓zA,↓reduceIte,↓reduceDIte] <;>try simp only [zB]
     refine ⟨⟨by omega,by omega,by omega,by omega⟩,z0r c λo H' A=> ?_⟩;obtain ⟨b,rfl,G',rfl⟩:=A;refine ⟨_,rfl,?_⟩;cases b
     . simp only [reduceCtorEq,A3,if_false,if_true,CI,CN];refine gQ ?_;exact ⟨_,_,_,_,by omega,rfl⟩
     simp only [reduceCtorEq,A3,if_false,if_true,CI,CN];refine gy1 w ?_;refine ⟨(i+1,G++G'),a,by dsimp only;omega,?_,?_⟩
     . dsimp only;rw [j]
     simp (maxSteps:=3000000) only [L,go_sem,↓zA,↓reduceIte,↓reduceDIte] <;>try simp only [zB]
   have q:=q8u p (i:=i) (by omega) (by omega);have R:((p.take p.length).drop (16*i)).length=p.length-16*i:=by rw [Ah,Am];omega
   have C:mxV false ((16*i+16:Nat):Int) ((p.length:Nat):Int)=((p.length:Nat):Int):=by unfold mxV;simp;omega
   generalize D:(p.take p.length).drop (16*i)=r at q R;have F:((r.length:Int) <16)=True:=eq_true (by omega);have V:IntKind.i64.wrap (16- (r.length:Int))=((16- (p.length-16*i):Nat):Int):=by rw [wrapi (by omega)];omega
   have N:Ty.u8.dflt=(0:UInt8):=rfl;refine uQ 600 _ ?_;simp (maxSteps:=3000000) only [u,F,w,C,V,N,D,AA,<-q,e,go_sem,↓zA,↓reduceIte,↓reduceDIte] <;>try simp only [zB]
   refine ⟨⟨by omega,by omega,Ad _⟩,⟨by omega,by omega,by omega⟩,z0r c λo H' A=> ?_⟩;obtain ⟨b,rfl,G',rfl⟩:=A;refine ⟨_,rfl,?_⟩;cases b
   . simp only [reduceCtorEq,A3,if_false,if_true,CI,CN];refine gQ ?_;exact ⟨_,_,_,_,by omega,rfl⟩
   simp only [reduceCtorEq,A3,if_false,if_true,CI,CN];refine gy1 w ?_;refine ⟨(i+1,G++G'),a,by dsimp only;omega,?_,?_⟩
   . dsimp only;rw [j]
   simp (maxSteps:=3000000) only [L,go_sem,↓zA,↓reduceIte,↓reduceDIte] <;>try simp only [zB]
 obtain rfl:i=nblk p.length:=by omega
 have u:(((16*nblk p.length:Nat):Int) < ((p.length:Nat):Int))=False:=eq_false (by omega);unfold chH;refine gy1 u ?_;exact ⟨_,_,_,_,Ad _,rfl⟩
theorem j1W(key iv p:List UInt8)(q:key.length=16)(e:iv.length=16)(h:p.length<=131072):Iter Tryz.prog 262 [] [.iptr (.int .i64) 0 0,.iptr (.clp 265 (.slice .u8)) p 0,.iptr ModT (some (cipS key),iv) 0] (nblk p.length) (vwH key iv p):=by refine ⟨by kernel_rfl,λl B J c u=> ?_⟩;refine (q1V (yFG c) fi262 ?_).2;letI:Ghost:=topG (yFG c) [];have a:=j5x c key iv p q e h u;unfold chH at a;refine gQ ?_;refine z0r a λo H' r=> ?_;obtain ⟨rfl,m,pv,b,G,j,rfl⟩:=r;refine ⟨_,rfl,?_⟩;refine gQ ?_;exact ⟨_,_,rfl,rfl,j⟩
def swpS(bs:List (List UInt8)):List (List UInt8):=(bs.set (bs.length-2) (bs.getD (bs.length-1) [])).set (bs.length-1) (bs.getD (bs.length-2) [])
def exgS(bs:List (List UInt8)):List (List UInt8):=if 1<bs.length then swpS bs else bs
def k0f(bs:List (List UInt8))(hl:bs.length<=1000000):PE Tryz.prog 245 [.ptr 0 0] [.cells 65 [.bld 1 (.slice .u8) bs.length],.row (.slice .u8) bs] (.ret (.tup [])) [.cells 65 [.bld 1 (.slice .u8) bs.length],.row (.slice .u8) (exgS bs)]:=by
 refine q0b (Ad _) ?_;refine q2g fi245 ?_;by_cases h:1<bs.length
 . have a:((1:Int) < ((bs.length:Nat):Int))=True:=eq_true (by omega);have b:IntKind.i64.wrap (((bs.length:Nat):Int) -1)=((bs.length-1:Nat):Int):=by rw [wrapi (by omega)];omega
   have e:IntKind.i64.wrap (((bs.length:Nat):Int) -2)=((bs.length-2:Nat):Int):=by rw [wrapi (by omega)];omega
   refine uQ 12 _ ?_;simp (maxSteps:=3000000) only [a,go_sem,↓zA,↓reduceIte,↓reduceDIte] <;>try simp only [zB]
   refine q1x [1,999999,0] mixed ?_;refine gy2 b e ?_;refine ⟨⟨by omega,by omega⟩,by omega,⟨by omega,by omega⟩,by omega,⟨by omega,by omega⟩,by omega,⟨by omega,by omega⟩,by rw [BG];omega,?_⟩;unfold exgS swpS;rw [if_pos h];simp only [Ag];first|done|rfl
 have a:((1:Int) < ((bs.length:Nat):Int))=False:=eq_false (by omega);have c:exgS bs=bs:=if_neg h;rw [c];refine gy1 a ?_;trivial
def z9L(a b:List UInt8):xorS a b=xorS b a:=by unfold xorS;exact q3h λj _=>UInt8.xor_comm _ _
def j0c(n:Nat):n+zpN n=16*nblk n:=by unfold zpN nblk;omega
def j8L(p:List UInt8)(hi:i<nblk p.length):blkC p i=((zpL p (zpN p.length)).take (16*i+16)).drop (16*i):=by
 have hz:=j0c p.length;have hn:nblk p.length=(p.length+15) / 16:=rfl;unfold zpL;by_cases h:16*i+16<=p.length
 . rw [q3y p h,Bp h]
 rw [q8u p (by omega) (by omega),Cn,Aa (show p.length<=16*i+16 by omega),Aa (Ad p.length),Bo (by omega),List.take_replicate,
  show min (16*i+16-p.length) (zpN p.length)=16- (p.length-16*i) by omega]
def cbl(key iv p:List UInt8)(n:Nat):List (List UInt8):=(List.range n).map λi=>cpre key iv p (i+1)
def z5f(key iv p:List UInt8):∀n,n<=nblk p.length->chA (wordsS key) iv (zpL p (zpN p.length)) n=(cpre key iv p n,(cbl key iv p n).flatten)
 |0,_=>rfl
 |n+1,h=>by
  have b:=j8L p (i:=n) (by omega);have a:encS (wordsS key) (xorS (((zpL p (zpN p.length)).take (16*n+16)).drop (16*n)) (cpre key iv p n))=cpre key iv p (n+1):=by rw [<-b,z9L];rfl
  rw [chA,z5f key iv p n (by omega)];dsimp only;rw [a];unfold cbl;rw [Be,By,Bw];simp
def z7p(key iv p:List UInt8):chainS key iv (zpL p (zpN p.length))=(cbl key iv p (nblk p.length)).flatten:=by unfold chainS;rw [z3R,j0c,BW _ (by decide),z5f key iv p _ (Ad _)]
def flat16:∀ (a:List (List UInt8)),(∀b∈a,b.length=16)->a.flatten.length=16*a.length
 | [],_=>rfl
 |b :: a,h=>by rw [Ak,Ab,flat16 a (λx c=>h x (AT _ c)),h b Bs,As];omega
def j8n(l:List (List UInt8))(x y:List UInt8):swpS (l++ [x,y])=l++ [y,x]:=by
 unfold swpS;have a:(l++ [x,y]).length=l.length+2:=by simp
 rw [a,show l.length+2-2=l.length by omega,show l.length+2-1=l.length+1 by omega];have c:(l++ [x,y]).getD (l.length+1) []=y:=by simp [Ae]
 have b:(l++ [x,y]).getD l.length []=x:=by simp [Ae]
 rw [c,b];simp [List.set_append]
theorem j3F(a:List (List UInt8))(h:∀b∈a,b.length=16)(r:2<=a.length):(exgS a).flatten=exchS a.flatten:=by
 obtain ⟨l,x,y,rfl⟩:∃l x y,a=l++ [x,y]:=by
  refine ⟨a.take (a.length-2),a[a.length-2],a[a.length-1],?_⟩;apply Av
  . simp;omega
  intro j h1 r;simp only [List.getElem_append,Am];split
  . simp
  rename_i hj;have:j=a.length-2\/j=a.length-1:=by omega
  rcases this with rfl|rfl
  . simp [show min (a.length-2) a.length=a.length-2 by omega]
  simp [show min (a.length-2) a.length=a.length-2 by omega,show a.length-1- (a.length-2)=1 by omega]
 have e:x.length=16:=h x (by simp);have u:y.length=16:=h y (by simp);have hl:=flat16 l λb v=>h b (by simp [v]);unfold exgS;rw [if_pos (by simp),j8n];have p:(l++ [x,y]).flatten=l.flatten++(x++y):=by simp
 have w:(l++ [y,x]).flatten=l.flatten++(y++x):=by simp
 rw [p,w];unfold exchS;have c:(l.flatten++(x++y)).length=l.flatten.length+32:=by simp [e,u]
 rw [c,show l.flatten.length+32-32=l.flatten.length by omega,show l.flatten.length+32-16=l.flatten.length+16 by omega];have q:(l.flatten++(x++y)).take l.flatten.length=l.flatten:=BP ..;have m:(l.flatten++(x++y)).drop (l.flatten.length+16)=y:=by rw [<-List.append_assoc,Bo (by simp [e])];simp [e]
 have o:((l.flatten++(x++y)).take (l.flatten.length+16)).drop l.flatten.length=x:=by rw [<-List.append_assoc,Bp (by simp [e]),Aa (by simp [e])];simp
 rw [q,m,o,List.append_assoc]
def z9q(key iv p:List UInt8)(hiv:iv.length=16)(h1:16<=p.length):(exgS (cbl key iv p (nblk p.length))).flatten.take p.length=ctsE key iv p:=by
 have a:∀b∈cbl key iv p (nblk p.length),b.length=16:=by intro b a;unfold cbl at a;obtain ⟨i,_,rfl⟩:=Br.1 a;exact q5O _ _
 have hl:(cbl key iv p (nblk p.length)).length=nblk p.length:=by simp [cbl]
 have hn:nblk p.length=(p.length+15) / 16:=rfl;have hf:=flat16 _ a;unfold ctsE;rw [z7p];dsimp only;by_cases h2:2<=nblk p.length
 . rw [if_neg (by omega),j3F _ a (by omega)]
 have h3:p.length=16:=by omega
 have c:exgS (cbl key iv p (nblk p.length))=cbl key iv p (nblk p.length):=if_neg (by omega);rw [if_pos (by omega),c,Aa (by omega)]
def flN(bs:List (List UInt8))(i:Nat):Nat:=(bs.take i).flatten.length
def j4e(a:List (List UInt8))(h:i<a.length):flN a (i+1)=flN a i+ (a.getD i []).length:=by unfold flN;rw [List.take_add_one,Af h,Bw,Ab,Ae,Af h];simp
def k0A(a:List (List UInt8))(i:Nat):flN a i<=a.flatten.length:=by
 unfold flN
 conv=>rhs;rw [<-AE i a,Bw,Ab]
 omega
theorem j9n(a:List (List UInt8))(N:2<=a.length)(j:∀b∈a,b.length=16)(hl:a.length<=1000000)(hf:a.flatten.length<=1000000):PC Tryz.prog 246 [.isl (.slice .u8) a,.raw (.slice none 0 0)] (.isl .u8 a.flatten):=by
 have U:(((a.length:Nat):Int)=0)=False:=eq_false (by omega);have f2:(((a.length:Nat):Int)=1)=False:=eq_false (by omega);refine q0g rfl rfl ?_;refine q2g fi246 ?_;refine gy2 U f2 ?_;refine q0m (ι:=Nat) (λi=>[(5,rI (flN a i)),(44,rI i)]) (λ_=>[]) (λi=>a.length-i) (λi=>i<=a.length) 0 (Aj _) rfl ?_ λi E=> ?_
 . with_reducible refine sxE ?_
   rfl
 have o:=wsx i (by omega);by_cases c:i<a.length
 . have B:((i:Int) < ((a.length:Nat):Int))=True:=eq_true (by omega);have hs:=j4e a c;have hle:=k0A a (i+1);have e1:IntKind.i64.wrap (9223372036854775807- ((flN a i:Nat):Int))=((9223372036854775807-flN a i:Nat):Int):=by rw [wrapi (by omega)];omega
   have Y:IntKind.i64.wrap (((flN a i:Nat):Int)+ (((a.getD i []).length:Nat):Int))=((flN a (i+1):Nat):Int):=by rw [wrapi (by omega)];omega
   have R:(((9223372036854775807-flN a i:Nat):Int) < (((a.getD i []).length:Nat):Int))=False:=eq_false (by omega);have v:(Ty.slice .u8).dflt=([]:List UInt8):=rfl;refine gy8 B v e1 Y R Ag AA AA ?_;refine ⟨⟨by omega,c⟩,i+1,c,by dsimp only;omega,rfl,?_⟩;with_reducible refine sx1 o ?_;trivial
 obtain rfl:i=a.length:=by omega
 have B:(((a.length:Nat):Int) < ((a.length:Nat):Int))=False:=eq_false (by omega);have C:flN a a.length=a.flatten.length:=by unfold flN;rw [Aw]
 refine uQ 10 _ ?_;with_reducible refine sy2 B C ?_
 have q:(Tryz.prog.funcs[(266:Nat)]?).isSome=true:=by kernel_rfl
 refine j9g (fn:=Option.get _ q) (ps:= #[3]) (t:=25) (e:=5) (n:=a.flatten.length) rfl (Option.some_get q).symm (by kernel_rfl) (by kernel_rfl) (by kernel_rfl) (by kernel_rfl) (by kernel_rfl) (by omega) λxs m=> ?_;obtain ⟨b0,r,rfl⟩:∃b0 r,a=b0 :: r:=by
  cases a with
  |nil=>simp at N
  |cons b r=>exact ⟨b,r,rfl⟩
 have L:((b0 :: r).getD 0 ([]:List UInt8))=b0:=rfl;have v:(Ty.slice .u8).dflt=([]:List UInt8):=rfl;have z:b0.length<=(b0 :: r).flatten.length:=by simp
 have D:min b0.length ((b0 :: r).flatten.length-0)=b0.length:=by omega
 refine uQ 600 _ ?_;simp (maxSteps:=3000000) only [v,L,D,m,Aw,Ag,go_sem,↓zA,↓reduceIte,↓reduceDIte] <;>try simp only [zB]
 have p:b0.length=16:=j b0 Bs;refine ⟨⟨by omega,Ad _⟩,by omega,⟨⟨z,by omega⟩,by omega⟩,⟨by omega,Ad _⟩,?_⟩;have h:=flat16 (b0 :: r) j;have F:∀i,i<=(b0 :: r).length->flN (b0 :: r) i=16*i:=λi E=>by unfold flN;rw [flat16 _ λb Q=>j b (B3 Q),Am,Cy E]
 refine q0m (ι:=Nat) (λi=>[(9,rI ((16* (i+1):Nat):Int)),(72,rI i)]) (λi=>[.row .u8 (((b0 :: r).take (i+1)).flatten++xs.drop (16* (i+1)))]) (λi=>r.length-i) (λi=>i<=r.length) 0 (Aj _) ?_ ?_ λi E=> ?_
 . have V:(List.take (0+1) (b0 :: r)).flatten=b0:=by simp
   rw [V];rw [p]
 . with_reducible refine sx1 p ?_;trivial
 have hrl:r.length+1<=1000000:=by simpa using hl
 have o:=wsx i (by omega);by_cases c:i<r.length
 . have x:((i:Int) < ((r.length:Nat):Int))=True:=eq_true (by omega);have k2:(r.getD i ([]:List UInt8)).length=16:=j _ (AT _ (by rw [Ae,Af c];exact Bl _));have w:(((b0 :: r).take (i+1)).flatten).length=16* (i+1):=F (i+1) (by simp;omega);have I:((((b0 :: r).take (i+1)).flatten++xs.drop (16* (i+1))).length)=16* (r.length+1):=by rw [Ab,w,Ah,m,h,As];omega
   change (b0 :: List.take i r).flatten.length=_ at w;change ((b0 :: List.take i r).flatten++xs.drop (16* (i+1))).length=_ at I;have W:IntKind.i64.wrap (((16* (i+1):Nat):Int)+0)=((16* (i+1):Nat):Int):=by rw [Int.add_zero,wrapi (by omega)]
   have X:min 16 ((b0 :: r).flatten.length-0-16* (i+1))=16:=by rw [h,As];omega
   have G:IntKind.i64.wrap (((16* (i+1):Nat):Int)+16)=((16* (i+1+1):Nat):Int):=by rw [wrapi (by omega)];omega
   have Z:List.take 16 (r.getD i ([]:List UInt8))=r.getD i []:=Aa (by omega);have u:(b0 :: r).flatten.length=16* (r.length+1):=by rw [h,As]
   have S:List.take (0+16* (i+1)) ((b0 :: List.take i r).flatten++List.drop (16* (i+1)) xs)++List.drop (0+16* (i+1)+0) ((b0 :: List.take i r).flatten++List.drop (16* (i+1)) xs)=(b0 :: List.take i r).flatten++List.drop (16* (i+1)) xs:=by simp only [Ag,AF,AE]
   refine uQ 600 _ ?_;simp (maxSteps:=3000000) only [x,v,k2,Nat.zero_min,W,AA,X,G,Z,S,I,Ac,go_sem,↓zA,↓reduceIte,↓reduceDIte] <;>try simp only [zB]
   rw [u];refine ⟨⟨by omega,c⟩,⟨by omega,by omega,Nat.le_refl _⟩,⟨⟨by omega,by omega⟩,by omega⟩,⟨by omega,by omega,Nat.le_refl _⟩,⟨⟨by omega,by omega⟩,by omega⟩,i+1,c,by dsimp only;omega,?_,?_⟩
   . have O:(b0 :: List.take (i+1) r).flatten=(b0 :: List.take i r).flatten++r.getD i []:=by rw [Ak,Ak,q5P c,List.append_assoc]
     dsimp only;rw [O];generalize (b0 :: List.take i r).flatten=A at*;generalize r.getD i []=y at*;rw [Ag,CU w,<-A9,BS w,A9,show 16* (i+1)+16=16* (i+1+1) by omega]
   with_reducible refine sx1 o ?_
   exact congrArg (Value.int IntKind.i64) G
 obtain rfl:i=r.length:=by omega
 have x:(((r.length:Nat):Int) < ((r.length:Nat):Int))=False:=eq_false (by omega);refine gy1 x ?_;have e8:List.drop (16* (r.length+1)) xs= []:=List.drop_of_length_le (by rw [m,h,As];omega);rw [e8,Ac,Aw,CC,Aw];exact ⟨⟨by omega,by omega⟩,rfl⟩
def k0B(b:List UInt8)(h:b.length=16):PC Tryz.prog 246 [.isl (.slice .u8) [b],.raw (.slice none 0 0)] (.isl .u8 b):=by have c:(((1:Nat):Int)=0)=False:=eq_false (by decide);have a:(((1:Nat):Int)=1)=True:=eq_true (by decide);have e:(Ty.slice .u8).dflt=([]:List UInt8):=rfl;refine q0g rfl rfl ?_;refine q2g fi246 ?_;refine gy4 c a e h ?_;exact Aa (by omega)
def j7r(a:List (List UInt8))(h1:1<=a.length)(c:∀b∈a,b.length=16)(hl:a.length<=10000):PC Tryz.prog 246 [.isl (.slice .u8) a,.raw (.slice none 0 0)] (.isl .u8 a.flatten):=by
 by_cases e:2<=a.length
 . exact j9n a e c (by omega) (by rw [flat16 a c];omega)
 obtain ⟨b,rfl⟩:=Bj.1 (show a.length=1 by omega);rw [Cj];exact k0B b (c b Bs)
def ceC(m:List SV)(i:Nat)(G:List SObj)(acc:List (List UInt8)):List SObj:=.cells 256 m :: .cells 65 [.bld (G.length+2) (.slice .u8) i] :: (G++ [.row (.slice .u8) acc])
def quG(G:List SObj):Prop:=∀ (h:Nat) (t:Ty) (xs:List t.den),frzObH h t xs G
def z7W:quG []:=λ_ _ _=>trivial
def z9X{G L:List SObj}(h:quG G)(h':quG L):quG (G++L):=λ_ _ _=>q1L (h _ _ _) (h' _ _ _)
def ceH(m:List SV)(key iv p:List UInt8)(i:Nat)(H':List SObj):Prop:=∃G,quG G/\H'=ceC m i G (cbl key iv p i)
theorem j3u(key iv p:List UInt8)(i:Nat):cbl key iv p (i+1)=cbl key iv p i++ [cpre key iv p (i+1)]:=by unfold cbl;rw [Be,By];rfl
def j1f(key iv p:List UInt8)(i:Nat):(cbl key iv p i).length=i:=by simp [cbl]
theorem k0h(key iv p:List UInt8)(i:Nat):∀b∈cbl key iv p i,b.length=16:=by intro b a;unfold cbl at a;obtain ⟨i,_,rfl⟩:=Br.1 a;exact q5O _ _
def j3K(a:List (List UInt8)):(exgS a).length=a.length:=by unfold exgS swpS;split<;>simp
theorem j6Z(c:List (List UInt8))(h:∀b∈c,b.length=16):∀b∈exgS c,b.length=16:=by
 unfold exgS;split
 . rename_i h1;have e:∀j,j<c.length->(c.getD j []).length=16:=λj m=>h _ (by rw [Ae,Af m];exact Bl _);intro b a;unfold swpS at a;rcases CM a with a|rfl
   . rcases CM a with a|rfl
     . exact h b a
     exact e _ (by omega)
   exact e _ (by omega)
 exact h
theorem j7l(key iv p:List UInt8)(z:key.length=16)(m:iv.length=16)(B:16<=p.length)(C:p.length<=131072):PC Tryz.prog 228 [.isl .u8 key,.isl .u8 iv,.isl .u8 p] (.tup [.isl .u8 (ctsE key iv p),rI 0]):=by
 have o:=z0M key iv z m;have Q:=z4S p B C;have N:=j5c p (by omega);have u:=j3B key iv p z m C;have A:=j1W key iv p z m C;have F:=z9q key iv p m B;have hel:=z5D key iv p m B;have hn:nblk p.length=(p.length+15) / 16:=rfl;unfold modS at o;unfold chnF at u;generalize cipS key=U at*;refine q0s rfl rfl (q4o (q1V noFG fi228 ?_));letI:Ghost:=topG noFG [];refine gQ ?_;refine cQ o ?_;refine cQ Q ?_;refine cQ N ?_;refine cQ u ?_;refine q3D 1 0 (.slice .u8) rfl rfl rfl ?_;refine z7z (ceH [.iptr CipT U 0,.isl .u8 iv] key iv p) (λ_ _ _=>False) rfl rfl rfl A (λi n e O h=>by rw [h.1];rfl) ⟨[],z7W,rfl⟩ rfl ?_ ?_ ?_
 . rintro i _ e O q ⟨G,L,rfl⟩ ⟨rfl,rfl⟩ S R;letI:Ghost:=pinG noFG S;rw [Ac];have j:=j1f key iv p i;have w:=j3u key iv p i;have v:=z5o key iv p m (i+1);generalize cbl key iv p i=a at*;generalize cpre key iv p (i+1)=b at*;unfold ceC;refine uQ 600 _ ?_;simp only [putL,Bn];with_reducible refine sxaE ?_
   letI:Ghost:=pinG noFG R;refine gya2 j v ?_;have hi2:i< (p.length+15) / 16:=q;refine ⟨⟨by omega,by omega⟩,G++ [.dead,.row (.slice .u8) [b]],z9X L (λ_ _ _=>by simp [frzObH,SObj.frzOb]),?_⟩;rw [w];simp [ceC]
 . rintro D _ ⟨G,L,rfl⟩;unfold ceC;letI:Ghost:=topG noFG [D];have j:=j1f key iv p (nblk p.length);have r:=k0h key iv p (nblk p.length);generalize cbl key iv p (nblk p.length)=a at*;have hxl:=j3K a;have c:=j6Z a r;have I:=k0f a (by omega);have E:=j7r (exgS a) (by omega) c (by omega);have hfl:=flat16 (exgS a) c;generalize exgS a=x at*;refine aQ ?_;rw [<-j];refine q0j [1,G.length+2] I rfl (by simp) ?_ rfl rfl ?_
   . simp (maxSteps:=3000000) only [atH,sig,SObj.ren,SV.ren,SV.renL,SObj.live,List.append_assoc,getA,getA0,setA,setA0,Ab,Ax,go_sem,↓zA,↓reduceIte,↓reduceDIte] <;>try simp only [zB]
   simp only [afterO,Out.ren,SV.ren,mgA,sig,SObj.ren,SV.renL,List.set,List.map,Ac];refine uQ 3 _ ?_;with_reducible refine sxaE ?_
   refine q1j (G.length+2) (ty:=.slice .u8) (xs:=x) rfl (by simp) (by omega) ?_ ?_ ?_
   . with_reducible refine sxaE ?_
     exact ⟨by omega,q1L (L _ _ _) ⟨trivial,trivial⟩⟩
   . with_reducible refine sxaE ?_;trivial
   have y:List.take a.length x=x:=Aa (by omega);with_reducible refine sya1 y ?_
   generalize (List.map (SObj.frz (G.length+2) (Ty.slice .u8) x) G++ [SObj.row (Ty.slice .u8) x]).set G.length SObj.dead=T;refine gQ ?_;refine cy1 E F ?_;refine ⟨⟨by omega,by omega⟩,q0a (q2J (ctsE key iv p) (by omega)) ?_⟩;refine gQ ?_;trivial
 rintro D i ex _ q h;exact h.elim
def unxS(w:List UInt8)(n:Nat)(bs:List (List UInt8)):List (List UInt8):=
 if bs.length=1 then bs else
  (bs.set (bs.length-2) ((bs.getD (bs.length-1) []).take (n-16* (bs.length-1))++(decS w (bs.getD (bs.length-2) [])).drop (n-16* (bs.length-1)))).set (bs.length-1) (bs.getD (bs.length-2) [])
theorem j8O(key iv c:List UInt8)(a:List (List UInt8))(A:key.length=16)(w:∀b∈a,b.length=16)(hc:c.length<=131072)(h1:1<=a.length)(hn:16* (a.length-1) <c.length)(hn2:c.length<=16*a.length):
 PE Tryz.prog 247 [.ptr 0 0,.ptr 1 0,.ptr 2 0] [.cells 65 [.bld 3 (.slice .u8) a.length],.cells 25 [.isl .u8 c],.cells 256 (modS key iv),.row (.slice .u8) a] (.ret (.tup []))
  [.cells 65 [.bld 3 (.slice .u8) a.length],.cells 25 [.isl .u8 c],.cells 256 (modS key iv),.row (.slice .u8) (unxS (wordsS key) c.length a)]:=by
 refine q0b (Ad _) ?_;refine q2g fi247 ?_;unfold unxS;by_cases h:a.length=1
 . have q:(((a.length:Nat):Int)=1)=True:=eq_true (by omega);rw [if_pos h];unfold modS;generalize cipS key=F at*;refine gy1 q ?_;trivial
 have q:(((a.length:Nat):Int)=1)=False:=eq_false (by omega);have x:IntKind.i64.wrap (((a.length:Nat):Int) -1)=((a.length-1:Nat):Int):=by rw [wrapi (by omega)];omega
 have z:IntKind.i64.wrap (((a.length:Nat):Int) -2)=((a.length-2:Nat):Int):=by rw [wrapi (by omega)];omega
 have C:IntKind.i64.wrap (16* ((a.length-1:Nat):Int))=((16* (a.length-1):Nat):Int):=by rw [wrapi (by omega)];omega
 obtain ⟨k,e⟩:∃k,k=c.length-16* (a.length-1):=⟨_,rfl⟩;have E:IntKind.i64.wrap (((c.length:Nat):Int) - ((16* (a.length-1):Nat):Int))=(k:Int):=by rw [wrapi (by omega)];omega
 have y:∀j,j<a.length->(a.getD j []).length=16:=λj D=>w _ (by rw [Ae,Af D];exact Bl _);have hg1:=y (a.length-1) (by omega);have u:=y (a.length-2) (by omega);have r:=z1N key iv (a.getD (a.length-2) []) A u;have hdl:=q5Q (wordsS key) (a.getD (a.length-2) []);rw [if_neg h,<-e];unfold modS at*;have m:(Ty.slice .u8).dflt=([]:List UInt8):=rfl;generalize v:a.getD (a.length-1) []=x1 at*;generalize o:a.getD (a.length-2) []=B at*;generalize decS (wordsS key) B=dx at*;generalize cipS key=F at*;refine uQ 600 _ ?_;simp (maxSteps:=3000000) only [q,x,z,C,E,m,Ag,AA,o,go_sem,↓zA,↓reduceIte,↓reduceDIte] <;>try simp only [zB]
 refine ⟨⟨by omega,by omega⟩,by omega,?_⟩;refine q0a r ?_;refine uQ 3 _ ?_;with_reducible refine sxE ?_
 refine q1x [0,3] mixed ?_;have p:List.take dx.length dx=dx:=Aw;refine uQ 14 _ ?_;with_reducible refine sy6 x m Ag AA v p ?_
 refine ⟨⟨by omega,by omega⟩,by omega,⟨by omega,Ad _,by omega⟩,⟨by omega,by omega,Ad _⟩,⟨by rw [Am,Ah];omega,by rw [Am,Ah];omega⟩,?_⟩;refine q1x [3,999999,0] mixed ?_;refine gy3 x z m ?_;refine ⟨⟨by omega,by omega⟩,by omega,⟨by omega,by omega⟩,by rw [BG];omega,?_⟩;simp only [Ag]
theorem z6g:∀ (xs:List (List UInt8)) (i:Nat),(∀b∈xs,b.length=16)->i<xs.length->(xs.flatten.take (16*i+16)).drop (16*i)=xs.getD i []
 |b :: xs,0,h,_=>by have a:=h b Bs;show List.drop 0 (List.take 16 (b++xs.flatten))=b;rw [Ap,CU a]
 |b :: xs,i+1,h,hi=>by have a:=h b Bs;have e:=z6g xs i (λc j=>h c (AT _ j)) (by simpa using hi);rw [Ak,show 16* (i+1)+16=b.length+ (16*i+16) by omega,List.take_length_add_append,show 16* (i+1)=b.length+16*i by omega,List.drop_length_add_append,e];rfl
def dpl(w iv:List UInt8)(xs:List (List UInt8)):Nat->List UInt8×List UInt8
 |0=>(iv,[])
 |n+1=>(xs.getD n [],(dpl w iv xs n).2++xorS (decS w (xs.getD n [])) (dpl w iv xs n).1)
def z9y(w iv:List UInt8)(xs:List (List UInt8))(h:∀b∈xs,b.length=16):∀n,n<=xs.length->dchA w iv xs.flatten n=dpl w iv xs n
 |0,_=>rfl
 |n+1,hn=>by rw [dchA,dpl,z6g xs n h (by omega),z9y w iv xs h n (by omega)]
def cblk(c:List UInt8)(n:Nat):List (List UInt8):=(List.range n).map (blkC c)
def z1a(c:List UInt8)(n:Nat):(cblk c n).length=n:=by simp [cblk]
def j1j(c:List UInt8)(n:Nat)(h:n<=nblk c.length):∀b∈cblk c n,b.length=16:=by intro b a;unfold cblk at a;obtain ⟨i,e,rfl⟩:=Br.1 a;exact q4B c (by have:=BN.1 e;omega)
theorem q5w(c:List UInt8)(n:Nat):cblk c (n+1)=cblk c n++ [blkC c n]:=by unfold cblk;rw [Be,By];rfl
def z2P(c:List UInt8):∀n,16*n<=c.length->(cblk c n).flatten=c.take (16*n)
 |0,_=>rfl
 |n+1,h=>by rw [q5w,Bw,z2P c n (by omega),Cj,q3y c (by omega),z4Q]
def j5N(w:List UInt8)(n:Nat)(l:List (List UInt8))(x y:List UInt8):unxS w n (l++ [x,y])=l++ [y.take (n-16* (l.length+1))++(decS w x).drop (n-16* (l.length+1)),x]:=by
 unfold unxS;have a:(l++ [x,y]).length=l.length+2:=by simp
 rw [a,if_neg (by omega),show l.length+2-2=l.length by omega,show l.length+2-1=l.length+1 by omega];have c:(l++ [x,y]).getD (l.length+1) []=y:=by simp [Ae]
 have b:(l++ [x,y]).getD l.length []=x:=by simp [Ae]
 rw [c,b];simp [List.set_append]
theorem z5U(w c:List UInt8)(h:16<c.length):(unxS w c.length (cblk c (nblk c.length))).flatten=unexS w c/\(∀b∈unxS w c.length (cblk c (nblk c.length)),b.length=16)/\(unxS w c.length (cblk c (nblk c.length))).length=nblk c.length:=by
 have hn:nblk c.length=(c.length+15) / 16:=rfl;have hw:whN c.length=(c.length+15) / 16*16:=rfl;obtain ⟨m,q⟩:∃m,nblk c.length=m+2:=⟨nblk c.length-2,by omega⟩
 have v:=q3y c (i:=m) (by omega);have o:=q4B c (i:=m) (by omega);have hyl:=q4B c (i:=m+1) (by omega);have u:(blkC c (m+1)).take (c.length-16* (m+1))=c.drop (16* (m+1)):=by unfold blkC;rw [Bp (by rw [Ah,Am];omega),Aa (show c.length<=16* (m+1)+16 by omega)];exact Aa (by rw [Ah];omega)
 have r:=z2P c m (by omega);have e:=z1a c m;have p:=j1j c m (by omega);have j:(c.drop (16* (m+1))).length=c.length-16* (m+1):=Ah;rw [q,q5w,q5w,List.append_assoc];change (unxS w c.length (cblk c m++ [blkC c m,blkC c (m+1)])).flatten=_/\(∀b∈unxS w c.length (cblk c m++ [blkC c m,blkC c (m+1)]),_)/\(unxS w c.length (cblk c m++ [blkC c m,blkC c (m+1)])).length=_;rw [j5N,e,u];generalize cblk c m=l at*;generalize blkC c m=x at*;refine ⟨?_,?_,?_⟩
 . unfold unexS;dsimp only;rw [show whN c.length-32=16*m by omega,show whN c.length-16=16* (m+1) by omega,show 16* (m+1)=16*m+16 by omega,<-v,show 16*m+16=16* (m+1) by omega,j,<-r];simp
 . intro b a;rcases Cv.1 a with a|a
   . exact p b a
   simp only [Bb,Co,or_false] at a;rcases a with rfl|rfl
   . rw [Ab,j,Ah,q5Q];omega
   exact o
 simp [e]
def j0n(key iv c:List UInt8)(h1:16<=c.length):(dpl (wordsS key) iv (unxS (wordsS key) c.length (cblk c (nblk c.length))) (nblk c.length)).2.take c.length=ctsD key iv c:=by
 have hn:nblk c.length=(c.length+15) / 16:=rfl;unfold ctsD;by_cases h:c.length=16
 . have j:nblk c.length=1:=by omega
   have m:blkC c 0=c:=by rw [q3y c (by omega),Nat.mul_zero,Ap];exact Aa (by omega)
   rw [if_pos h,j,show cblk c 1= [blkC c 0] from rfl,m,show unxS (wordsS key) c.length [c]= [c] from rfl];show ([]++xorS (decS (wordsS key) c) iv).take c.length=_;rw [Ar];exact Aa (by rw [q2E];omega)
 obtain ⟨b,a,e⟩:=z5U (wordsS key) c (by omega);rw [if_neg h,<-b,<-z9y _ _ _ a _ (by omega)];unfold unchS;rw [flat16 _ a,e,BW _ (by decide)]
def z9a{G:List SObj}:∀ (H0 L:List SObj) {H:List SObj},H=H0++L++G->leH (λh=>h) H H0.length L
 |_,[],_,_=>trivial
 |H0,o :: L,H,e=>by
  have a:leH (λh=>h) H (H0.length+1) L:=by have:=z9a (G:=G) (H0++ [o]) L (H:=H) (by rw [e];simp);rwa [Ab] at this
  have b:H[H0.length]?=some o:=by rw [e];simp
  cases o with
  |dead=>exact a
  |cells T cs=>exact ⟨by rw [q2e];exact b,a⟩
  |row t xs=>exact ⟨by rw [q2e];exact b,a⟩
  |map k ks vs=>exact ⟨by rw [q2e];exact b,a⟩
  |mark n=>exact ⟨by rw [q2e];exact b,a⟩
theorem j8K[Ghost](H0:List SObj){G:List SObj}(a:plainT td=true)(e:SV.belL H0.length t=true)(b:belH H0.length H0=true)(m:injH (λh=>h) 0 H0 []=true)(j:SoundI P AQ ⟨0,td,t,H0⟩):SoundI P AQ ⟨0,td,t,H0++G⟩:=
 k1r (σ:=λh=>h) a ⟨q7T (q5r _),z9a (G:=G) [] H0 (by simp),e,b,m,rfl,Aj _,λ_ c=>absurd c (B0 0)⟩ j
def j0B(w iv:List UInt8)(xs:List (List UInt8))(a:iv.length=16)(h:∀b∈xs,b.length=16):∀n,n<=xs.length->(dpl w iv xs n).1.length=16/\(dpl w iv xs n).2.length=16*n
 |0,_=>⟨a,rfl⟩
 |n+1,hn=>by have c:=j0B w iv xs a h n (by omega);refine ⟨h _ (by rw [dpl,Ae,Af hn];exact Bl _),?_⟩;rw [dpl,Ab,c.2,q2E];omega
def cdC(m:List SV)(c:List UInt8)(i:Nat)(G:List SObj)(acc:List (List UInt8)):List SObj:=.cells 25 [.isl .u8 c] :: .cells 256 m :: .cells 65 [.bld (G.length+3) (.slice .u8) i] :: (G++ [.row (.slice .u8) acc])
def cdH(m:List SV)(c:List UInt8)(i:Nat)(H':List SObj):Prop:=∃G,quG G/\H'=cdC m c i G (cblk c i)
theorem j5z(key iv c:List UInt8)(V:key.length=16)(hi:iv.length=16)(Y:16<=c.length)(Z:c.length<=131072):PC Tryz.prog 229 [.isl .u8 key,.isl .u8 iv,.isl .u8 c] (.tup [.isl .u8 (ctsD key iv c),rI 0]):=by
 have v:=z0M key iv V hi;have O:=z4S c Y Z;have I:=j5c c (by omega);have C:=k0K c Z;have m:=j0n key iv c Y;have hel:=z6w key iv c hi Y;have hn:nblk c.length=(c.length+15) / 16:=rfl;have w:=λb hb=>z1N key iv b V hb;have B:=j1j c (nblk c.length) (Ad _);have e:=z1a c (nblk c.length);have o:=j8O key iv c (cblk c (nblk c.length)) V B Z (by omega) (by omega) (by omega);unfold modS at v w o;generalize cipS key=cp at*;refine q0s rfl rfl (q4o (q1V noFG fi229 ?_));letI:Ghost:=topG noFG [];refine gQ ?_;refine cQ v ?_;refine cQ O ?_;refine cQ I ?_;refine q3D 2 0 (.slice .u8) rfl rfl rfl ?_;refine z7z (cdH [.iptr CipT cp 0,.isl .u8 iv] c) (λ_ _ _=>False) rfl rfl rfl C (λi n z aa h=>by rw [h.1];rfl) ⟨[],z7W,rfl⟩ rfl ?_ ?_ ?_
 . rintro i _ z aa j ⟨G,hG,rfl⟩ ⟨rfl,rfl⟩ L1 L2;letI:Ghost:=pinG noFG L1;rw [Ac];have N:=z1a c i;have A:=q5w c i;have e:=q4B c j;generalize cblk c i=a at*;generalize blkC c i=b at*;unfold cdC;refine uQ 600 _ ?_;simp only [putL,Bn];with_reducible refine sxaE ?_
   letI:Ghost:=pinG noFG L2;refine gya2 N e ?_;have hi2:i< (c.length+15) / 16:=j;refine ⟨⟨by omega,by omega⟩,G++ [.dead,.row (.slice .u8) [b]],z9X hG (λ_ _ _=>by simp [frzObH,SObj.frzOb]),?_⟩;rw [A];simp [cdC]
 . rintro D _ ⟨G,hG,rfl⟩;unfold cdC;letI:Ghost:=topG noFG [D];obtain ⟨x,R⟩:∃x,x=unxS (wordsS key) c.length (cblk c (nblk c.length)):=⟨_,rfl⟩;have q:∀b∈x,b.length=16:=by
    by_cases h:c.length=16
    . rw [R,show unxS (wordsS key) c.length (cblk c (nblk c.length))=cblk c (nblk c.length) from if_pos (by omega)];exact B
    rw [R];exact (z5U (wordsS key) c (by omega)).2.1
   have U:x.length=nblk c.length:=by
    rw [R];unfold unxS;split
    . exact e
    rw [BG,BG];exact e
   rw [<-R] at m o;generalize cblk c (nblk c.length)=a at*;refine aQ ?_;rw [<-e];refine q0j [2,0,1,G.length+3] o rfl (by simp) ?_ rfl rfl ?_
   . simp (maxSteps:=3000000) only [atH,sig,SObj.ren,SV.ren,SV.renL,SObj.live,List.append_assoc,getA,getA0,setA,setA0,Ab,Ax,go_sem,↓zA,↓reduceIte,↓reduceDIte] <;>try simp only [zB]
   simp only [afterO,Out.ren,SV.ren,mgA,sig,SObj.ren,SV.renL,List.set,List.map,Ac];refine uQ 3 _ ?_;with_reducible refine sxaE ?_
   refine q1j (G.length+3) (ty:=.slice .u8) (xs:=x) rfl (by simp) (by omega) ?_ ?_ ?_
   . with_reducible refine sxaE ?_
     exact ⟨by omega,q1L (hG _ _ _) ⟨trivial,trivial⟩⟩
   . with_reducible refine sxaE ?_;trivial
   have u:List.take a.length x=x:=Aa (by omega);with_reducible refine sya1 u ?_
   refine j8K [_,_,_] (by rfl) (by simp [SV.belL,SV.bel]) (by simp [belH,SObj.bel,SV.belL,SV.bel]) (by rfl) ?_;refine gQ ?_;clear o C v I O;obtain ⟨W,hW⟩:∃W,W=wordsS key:=⟨_,rfl⟩;rw [<-hW] at m w;refine q2Z 14 .u8 (λi=>(dpl W iv x i).2) (λi=>[(15,.isl .u8 (dpl W iv x i).1),(46,rI i)]) x.length (λ_=>True) rfl (by simp) rfl rfl (λi=>rfl) ?_ λi j _=> ?_
   . with_reducible refine sxE ?_
     rfl
   have p:=j0B W iv x hi q i j;have ab:=wsx i (by omega);by_cases r:i<x.length
   . have E:dpl W iv x (i+1)=(x.getD i [],(dpl W iv x i).2++xorS (decS W (x.getD i [])) (dpl W iv x i).1):=rfl;have X:(x.getD i []).length=16:=q _ (by rw [Ae,Af r];exact Bl _);have g1:((i:Int) < ((x.length:Nat):Int))=True:=eq_true (by omega);have e5:(Ty.slice .u8).dflt=([]:List UInt8):=rfl;have Q:=w _ X;have F:=q8n (decS W (x.getD i [])) (dpl W iv x i).1 (q5Q _ _) p.1;have L:=q2E (decS W (x.getD i [])) (dpl W iv x i).1;generalize S:x.getD i []=b at*;generalize xorS (decS W b) (dpl W iv x i).1=y at*;generalize hdi:dpl W iv x i=d at*;obtain ⟨pv,acc⟩:=d;dsimp only at*;refine gy3 g1 e5 S ?_;refine ⟨⟨by omega,r⟩,?_⟩;refine cQ Q ?_;refine q0a F ?_;refine uQ 600 _ ?_;simp (maxSteps:=3000000) only [p.2,L,go_sem,↓zA,↓reduceIte,↓reduceDIte] <;>try simp only [zB]
     refine ⟨⟨by omega,by omega⟩,q1P [.dead] [] r trivial (by rw [E];rfl) ?_⟩;simp (maxSteps:=3000000) only [ab,E,Ab,p.2,L,go_sem,↓zA,↓reduceIte,↓reduceDIte] <;>try simp only [zB]
   obtain rfl:i=x.length:=by omega
   have g1:(((x.length:Nat):Int) < ((x.length:Nat):Int))=False:=eq_false (by omega);refine uQ 11 _ ?_;simp (maxSteps:=3000000) only [g1,go_sem,↓zA,↓reduceIte,↓reduceDIte] <;>try simp only [zB]
   rw [<-U] at m hn;generalize A:dpl W iv x x.length=d at*;obtain ⟨pv,acc⟩:=d;dsimp only at*;refine q1j 3 (ty:=.u8) (xs:=acc) rfl rfl (by omega) ?_ ?_ ?_
   . with_reducible refine sxE ?_;trivial
   . with_reducible refine sxE ?_
     first|done|exact Ad _|exact ⟨Ad _,Ad _⟩
   have u:List.take acc.length acc=acc:=Aw;with_reducible refine sxE ?_
   refine gy2 u m ?_;have N:acc.length=16*x.length:=p.2;refine ⟨⟨by omega,by omega⟩,q0a (q2J (ctsD key iv c) (by omega)) ?_⟩;refine gQ ?_;trivial
 rintro D i ex _ j h;exact h.elim
def or8(a b:UInt8):orK .u8 (a.toNat:Int) (b.toNat:Int)=((a|||b).toNat:Int):=by
 unfold orK;have c:=a.toNat_lt;have h:=b.toNat_lt;have hx:a.toNat|||b.toNat<2^ 8:=Nat.or_lt_two_pow c h;have e:(BitVec.ofInt IntKind.u8.bits (a.toNat:Int) |||BitVec.ofInt IntKind.u8.bits (b.toNat:Int)).toNat=a.toNat|||b.toNat:=by rw [Cb,AP,AP,AX,AX];rw [show 2^ IntKind.u8.bits=256 from rfl,AI c,AI h]
 rw [e,u8wrapR,UInt8.toNat_or];omega
def dfS(a b:List UInt8):Nat->UInt8
 |0=>0
 |i+1=>dfS a b i||| (a.getD i 0^^^ b.getD i 0)
theorem j4p{a b:UInt8}:a|||b=0 ↔ a=0/\b=0:=by
 constructor
 . intro h;have c:(a|||b).toNat=0:=by rw [h];rfl
   rw [UInt8.toNat_or] at c;have ha:= @Nat.left_le_or a.toNat b.toNat;have hb:= @Nat.right_le_or a.toNat b.toNat;exact ⟨AZ.1 (by show a.toNat=0;omega),AZ.1 (by show b.toNat=0;omega)⟩
 rintro ⟨rfl,rfl⟩;rfl
def j0K{a b:UInt8}:a^^^ b=0 ↔ a=b:=UInt8.xor_eq_zero_iff
def z6o(a b:List UInt8):∀i,dfS a b i=0 ↔ ∀j,j<i->a.getD j 0=b.getD j 0
 |0=>by simp [dfS]
 |i+1=>by
  rw [dfS,j4p,z6o a b i,j0K];constructor
  . rintro ⟨c,o⟩ j m;by_cases e:j=i
    . subst e;exact o
    exact c j (by omega)
  intro h;exact ⟨λj m=>h j (by omega),h i (by omega)⟩
theorem k0V{a b:List UInt8}(h:a.length=b.length):dfS a b a.length=0 ↔ a=b:=by
 rw [z6o];constructor
 . intro e;apply Av h;intro j c m;have:=e j c;rw [Ae,Ae,Af c,Af m] at this;exact this
 rintro rfl j _;rfl
def j8V(a b:List UInt8)(ha:a.length<=1099511627776)(hb:b.length<=1099511627776):PC Tryz.prog 199 [.isl .u8 a,.isl .u8 b] (rB (decide (a=b))):=by
 refine q0s rfl rfl ?_;by_cases o:a.length=b.length
 . have c:((a.length:Int)=(b.length:Int))=True:=eq_true (by omega);refine ry1 fi199 c ?_;refine q0m (ι:=Nat) (λi=>[(14,rI i),(5,.raw (.int .u8 (dfS a b i).toNat))]) (λi=>[]) (λi=>a.length-i) (λi=>i<=a.length) 0 (Aj _) rfl ?_ ?_
   . with_reducible refine sxE ?_
     rfl
   intro i hi;have m:=wsx i (by omega);by_cases h:i<a.length
   . have q:=xor8 (a.getD i 0) (b.getD i 0);have p:=or8 (dfS a b i) (a.getD i 0^^^ b.getD i 0);refine gyd3 q p Ag ?_;refine ⟨λ_=>⟨⟨by omega,by omega⟩,⟨by omega,by omega⟩,i+1,h,by dsimp only;omega,rfl,?_⟩,λj=>absurd h j⟩;with_reducible refine sx1 m ?_
     rfl
   obtain rfl:i=a.length:=by omega
   refine gQ ?_;refine ⟨λj=>absurd j (by omega),λ_=> ?_⟩;rw [decide_eq_decide,<-k0V o,<-AZ];exact Int.natCast_eq_zero
 have c:((a.length:Int)=(b.length:Int))=False:=eq_false (by omega);refine ry1 fi199 c ?_;exact (decide_eq_false (λe=>o (by rw [e]))).symm
def j1U(a b:List UInt8)(c:a.length<=1099511627776)(e:b.length<=1099511627776):PC Tryz.prog 167 [.isl .u8 a,.isl .u8 b] (rB (decide (a=b))):=by refine q0s rfl rfl ?_;refine rQ fi167 ?_;refine cQ (j8V a b c e) ?_;trivial
def z1Y(key a:List UInt8)(c:key.length<=64)(hc:a.length<=1048576):PC Tryz.prog 208 [.isl .u8 key,.isl .u8 a] (.isl .u8 (hmS key (z16++a))):=by
 have b:=j3s key [z16,a] c (by simp [j5K];omega) (by simp);rw [show [z16,a].flatten=z16++a by simp] at b;refine q0s rfl rfl ?_;refine q2g fi208 ?_;refine uQ 8 _ ?_;with_reducible refine sxE ?_
 refine q1j 0 (ty:=.u8) (xs:=z16) rfl rfl (by decide) ?_ ?_ ?_
 . with_reducible refine sxE ?_;trivial
 . with_reducible refine sxE ?_
   exact Ad _
 with_reducible refine sxE ?_
 change SoundI _ _ ⟨_,_,[_,_,_,_,_,_,.isl .u8 z16,_,_,_],_⟩;refine gQ ?_;refine q0x 1 ?_;with_reducible refine sxE ?_
 refine cQ b ?_;trivial
def j0A(key a plain:List UInt8)(e:key.length=16)(hc:a.length=16)(hp:plain.length<=65536):PC Tryz.prog 206 [.isl .u8 key,.isl .u8 a,.isl .u8 plain] (.isl .u8 (ctsE key z16 (a++plain))):=by
 have c:=z9b [a,plain] (by simp;omega) (by simp);rw [show [a,plain].flatten=a++plain by simp] at c;have b:=j7l key z16 (a++plain) e rfl (by simp;omega) (by simp;omega);refine q0s rfl rfl ?_;refine rQ fi206 ?_;refine q0i c ?_;refine gQ ?_;refine q0Y 0 (by decide) ?_;with_reducible refine sxE ?_
 change CallR _ _ _ _ [_,.isl .u8 z16,_] _ _;refine cR b ?_;trivial
theorem z9m(key cipher:List UInt8)(h:key.length=16)(e:16<=cipher.length)(j:cipher.length<=131072):PC Tryz.prog 207 [.isl .u8 key,.isl .u8 cipher] (.isl .u8 ((ctsD key z16 cipher).drop 16)):=by
 have a:=j5z key z16 cipher h rfl e j;have b:=z6w key z16 cipher rfl e;refine q0s rfl rfl ?_;refine rQ fi207 ?_;refine q0x 0 ?_;with_reducible refine sxE ?_
 change CallI _ _ _ [_,.isl .u8 z16,_] _ _;refine q0a a ?_;have c:List.take cipher.length (ctsD key z16 cipher)=ctsD key z16 cipher:=Aa (by omega);refine uQ 16 _ ?_;with_reducible refine sy2 b c ?_
 refine ⟨⟨by omega,Ad _⟩,z2m 4 rfl rfl ?_⟩;refine gQ ?_;trivial
def j9s{s s':SV}(h:PC P f args s)(e:s=s'):PC P f args s':=e▸h
def kdL(nm:ByteArray)(kl tl:Nat)(fe fd fm:FuncId):List Value:=[.string nm,.int .i64 kl,.int .i64 16,.int .i64 tl,.int .i64 tl,fnV fe,fnV fd,fnV fm]
def j0U(nm:ByteArray)(B c:Nat)(w A x:FuncId)(p v:Int)(b:List UInt8)(u:Nat)(a plain ci mk:List UInt8)
 (y:PC Tryz.prog 159 [.agg (KeyT.cells (p,v,b)),rI u] (.tup [.agg (rawL (kdL nm B c w A x)),rI 0]))(h:1<=b.length)(e:b.length<=64)(hc:a.length=16)(hp:plain.length<=65536)
 (o:PC Tryz.prog w [.isl .u8 (dkS (p,v,b) u 170),.isl .u8 a,.isl .u8 plain] (.isl .u8 ci))(q:PC Tryz.prog x [.isl .u8 (dkS (p,v,b) u 85),.isl .u8 ci] (.isl .u8 mk))(m:c<=mk.length)(hml:mk.length<=4096)(hci:ci.length<=1048576):
 PC Tryz.prog 90 [.agg (KeyT.cells (p,v,b)),rI u,.isl .u8 a,.isl .u8 plain] (.tup [.agg [rI p,rI v,.isl .u8 (ci++mk.take c)],rI 0]):=by
 unfold kdL at y;refine q0s rfl rfl ?_;refine q2g fi90 ?_;refine gQ ?_;refine q0a y ?_;have r:((a.length:Int)=16)=True:=eq_true (by omega);have j:(65536< (plain.length:Int))=False:=eq_false (by omega);refine gy2 r j ?_;refine cQ (z3j (p,v,b) u e) ?_;refine cR (q5N (p,v,b) u 170 e h (by decide)) ?_;refine cR o ?_;refine cR (q5N (p,v,b) u 85 e h (by decide)) ?_;refine q0d q ?_;refine uQ 4 _ ?_;simp (maxSteps:=3000000) only [AA,go_sem,↓zA,↓reduceIte,↓reduceDIte] <;>try simp only [zB]
 have htk:(List.take c mk).length=c:=by rw [Am];omega
 have z:=z9b [ci,List.take c mk] (by simp;omega) (by simp);rw [show [ci,List.take c mk].flatten=ci++List.take c mk by simp] at z;refine ⟨⟨by omega,Ad _,m⟩,?_⟩;refine q1x [0] mixed ?_;refine gQ ?_;refine q0Y 3 (by decide) ?_;with_reducible refine sxE ?_
 refine cR z ?_;trivial
theorem z8u(nm:ByteArray)(kl a:Nat)(Z W X:FuncId)(p v:Int)(b:List UInt8)(u:Nat)(r c:Int)(sb Y mk:List UInt8)
 (C:PC Tryz.prog 159 [.agg (KeyT.cells (p,v,b)),rI u] (.tup [.agg (rawL (kdL nm kl a Z W X)),rI 0]))(F:1<=b.length)(y:b.length<=64)(htl:a<=64)(hs:sb.length<=1099511627776)
 (x:16+a<=sb.length->sb.length<=65552+a->PC Tryz.prog X [.isl .u8 (dkS (p,v,b) u 85),.isl .u8 (sb.take (sb.length-a))] (.isl .u8 mk))
 (w:16+a<=sb.length->sb.length<=65552+a->PC Tryz.prog W [.isl .u8 (dkS (p,v,b) u 170),.isl .u8 (sb.take (sb.length-a))] (.isl .u8 Y))(S:a<=mk.length)(hmx:mk.length<=4096):
 PC Tryz.prog 92 [.agg (KeyT.cells (p,v,b)),rI u,.agg [rI r,rI c,.isl .u8 sb]] (.tup (if r=p/\(c=v\/c=0\/v=0) then
  if sb.length<16+a then [.isl .u8 [],rI 4] else if 65552+a<sb.length then [.isl .u8 [],rI 5]
  else if mk.take a=sb.drop (sb.length-a) then [.isl .u8 Y,rI 0] else [.isl .u8 [],rI 10] else [.isl .u8 [],rI 9])):=by
 unfold kdL at C;have I:IntKind.i64.wrap (((sb.length:Nat):Int) - (a:Int))=((sb.length:Nat):Int) - (a:Int):=wrapi (by omega);have E:IntKind.i64.wrap (16+65536)=65552:=by rw [wrapi (by omega)];rfl
 by_cases z:r=p
 . subst z;have A:(r=r)=True:=eq_true rfl;by_cases j:c=v\/c=0\/v=0
   . rw [if_pos ⟨rfl,j⟩];have e:(((c=v)=True)/\((c=v)=True)/\((c=v)=True))\/(((c=v)=False)/\((c=0)=True)/\((c=0)=True))\/(((c=v)=False)/\((c=0)=False)/\((v=0)=True)):=by
      by_cases B:c=v
      . exact .inl ⟨eq_true B,eq_true B,eq_true B⟩
      by_cases G:c=0
      . exact .inr (.inl ⟨eq_false B,eq_true G,eq_true G⟩)
      exact .inr (.inr ⟨eq_false B,eq_false G,eq_true ((j.resolve_left B).resolve_left G)⟩)
     by_cases c1:sb.length<16+a
     . have D:(((sb.length:Nat):Int) - (a:Int) <16)=True:=eq_true (by omega);rw [if_pos c1];rcases e with ⟨o,m,q⟩ | ⟨o,m,q⟩ | ⟨o,m,q⟩;all_goals
        refine q0g rfl rfl ?_;refine rQ fi92 ?_;refine q0a C ?_;refine gy8 A o m q I D D D ?_;trivial
     have D:(((sb.length-a:Nat):Int) <16)=False:=eq_false (by omega);have O:((sb.length:Nat):Int) - (a:Int)=((sb.length-a:Nat):Int):=by omega
     rw [O] at I;rw [if_neg c1];by_cases c2:65552+a<sb.length
     . have V:(65552< ((sb.length-a:Nat):Int))=True:=eq_true (by omega);rw [if_pos c2];rcases e with ⟨o,m,q⟩ | ⟨o,m,q⟩ | ⟨o,m,q⟩;all_goals
        refine q0g rfl rfl ?_;refine rQ fi92 ?_;refine q0a C ?_;refine uQ 600 _ ?_;simp (maxSteps:=3000000) only [A,o,m,q,O,I,E,D,V,go_sem,↓zA,↓reduceIte,↓reduceDIte] <;>try simp only [zB]
     have V:(65552< ((sb.length-a:Nat):Int))=False:=eq_false (by omega);rw [if_neg c2];have x:=x (by omega) (by omega);have w:=w (by omega) (by omega);have hcl:(List.take (sb.length-a) sb).length=sb.length-a:=by rw [Am];omega
     have hdl:(List.drop (sb.length-a) sb).length=a:=by rw [Ah];omega
     have htk:(List.take a mk).length=a:=by rw [Am];omega
     have L:List.take sb.length sb=sb:=Aw;have R:=j1U (List.take a mk) (List.drop (sb.length-a) sb) (by omega) (by omega);generalize U:List.take (sb.length-a) sb=ci at*;generalize N:List.drop (sb.length-a) sb=tg at*;generalize Q:List.take a mk=mt at*;rcases e with ⟨o,m,q⟩ | ⟨o,m,q⟩ | ⟨o,m,q⟩;all_goals
      refine q0g rfl (by split<;>rfl) ?_;refine rQ fi92 ?_;refine q0a C ?_;refine uQ 600 _ ?_;simp (maxSteps:=3000000) only [A,o,m,q,O,I,E,D,V,AA,L,U,N,go_sem,↓zA,↓reduceIte,↓reduceDIte] <;>try simp only [zB]
      refine ⟨⟨by omega,Ad _,by omega⟩,⟨by omega,by omega,Ad _⟩,?_⟩;refine cQ (z3j (r,v,b) u y) ?_;refine cR (q5N (r,v,b) u 85 y F (by decide)) ?_;refine q0d x ?_;refine gy2 AA Q ?_;refine ⟨⟨by omega,Ad _,S⟩,?_⟩;refine q0d R ?_;by_cases c3:mt=tg
      . rw [if_pos c3];refine gy1 c3 ?_;refine cR (q5N (r,v,b) u 170 y F (by decide)) ?_;refine cR w ?_;trivial
      rw [if_neg c3];refine gy1 c3 ?_;trivial
   rw [if_neg (λh=>j h.2)];have o:(c=v)=False:=eq_false λh=>j (.inl h);have m:(c=0)=False:=eq_false λh=>j (.inr (.inl h));have q:(v=0)=False:=eq_false λh=>j (.inr (.inr h));refine q0g rfl rfl ?_;refine rQ fi92 ?_;refine cy4 C A o m q ?_;trivial
 have A:(r=p)=False:=eq_false z;rw [if_neg (λh=>z h.1)];refine q0g rfl rfl ?_;refine rQ fi92 ?_;refine cy1 C A ?_;trivial
theorem j2I(v:Int)(b:List UInt8)(u:Nat)(a plain:List UInt8)(z:KeyT.ok (1,v,b))(c:uOk (1,v,b) u=true)(x:a.length=16)(e:plain.length<=65536):PC Tryz.prog 90 [.agg (KeyT.cells (1,v,b)),rI u,.isl .u8 a,.isl .u8 plain] (.tup [.agg [rI 1,rI v,.isl .u8 (seS (1,v,b) u a plain)],rI 0]):=by have y:=z5X (1,v,b) u z;have q:=z1G (1,v,b) u 170;have hd2:=z1G (1,v,b) u 85;obtain ⟨hv,hu',hbl,hb32,j,hb2⟩:=q8j c;rw [if_pos c,if_pos c] at y;have p:((1,v,b):Key).1=1:=rfl;have m:seS (1,v,b) u a plain=ciS (1,v,b) u a plain++tg9S (1,v,b) u (ciS (1,v,b) u a plain):=rfl;have hcil:=j0o (1,v,b) u a plain x;rw [m];have w:ciS (1,v,b) u a plain=ctsE (dkS (1,v,b) u 170) z16 (a++plain):=if_pos p;have o:tg9S (1,v,b) u (ciS (1,v,b) u a plain)=(hmS (dkS (1,v,b) u 85) (z16++ciS (1,v,b) u a plain)).take 16:=if_pos p;have h:=j0A (dkS (1,v,b) u 170) a plain (by rw [q,j p]) x e;have r:=z1Y (dkS (1,v,b) u 85) (ciS (1,v,b) u a plain) (by omega) (by omega);rw [<-w] at h;rw [o];have hml:=q6E (dkS (1,v,b) u 85) (z16++ciS (1,v,b) u a plain);generalize hmS (dkS (1,v,b) u 85) (z16++ciS (1,v,b) u a plain)=mk at*;generalize ciS (1,v,b) u a plain=ci at*;dsimp only at*;exact j0U name1 16 16 206 207 208 1 v b u a plain ci mk y (by have:=j rfl;omega) (by omega) x e h r (by omega) (by omega) (by omega)
theorem z5d(v:Int)(b:List UInt8)(u:Nat)(p q:Int)(a:List UInt8)(A:KeyT.ok (1,v,b))(c:uOk (1,v,b) u=true)(B:a.length<=1099511627776):PC Tryz.prog 92 [.agg (KeyT.cells (1,v,b)),rI u,.agg [rI p,rI q,.isl .u8 a]] (.tup [.isl .u8 (opS (1,v,b) u p q a).1,rI (opS (1,v,b) u p q a).2]):=by
 have z:=z5X (1,v,b) u A;have w:=z1G (1,v,b) u 170;have hd2:=z1G (1,v,b) u 85;obtain ⟨hv,hu',hbl,hb32,y,hb2⟩:=q8j c;have r:((1,v,b):Key).1=1:=rfl;unfold opS;rw [if_pos c,if_pos c] at z;rw [if_pos c];have hcl:(a.take (a.length-b.length)).length<=a.length-b.length:=List.length_take_le _ _;have j:16+b.length<=a.length->(a.take (a.length-b.length)).length=a.length-b.length:=λ_=>by rw [Am];omega
 unfold tg9S unS;rw [if_pos r,if_pos r];have m:b.length=16:=y r;have o:=λ(h1:16+b.length<=a.length) (h2:a.length<=65552+b.length)=>z1Y (dkS (1,v,b) u 85) (a.take (a.length-b.length)) (by omega) (by omega);have h:=λ(h1:16+b.length<=a.length) (h2:a.length<=65552+b.length)=>z9m (dkS (1,v,b) u 170) (a.take (a.length-b.length)) (by rw [w,m]) (by rw [j h1];omega) (by omega);have x:=q6E (dkS (1,v,b) u 85) (z16++a.take (a.length-b.length));dsimp only at*;have e:1<=b.length/\b.length<=64:=by omega
 rw [m] at o h x⊢;refine j9s (z8u name1 16 16 206 207 208 1 v b u p q a _ _ z e.1 e.2 (by omega) B o h (by omega) (by omega)) ?_;repeat' split
 all_goals rfl
set_option maxHeartbeats 4000000
def beN(l:List UInt8):Nat:=l.foldl (λv c=>v*256+c.toNat) 0
theorem q4C(l:List UInt8)(i:Nat)(h:i<l.length):beN (l.take (i+1))=beN (l.take i)*256+ (l.getD i 0).toNat:=by unfold beN;rw [List.take_add_one,List.foldl_append,Af h,Ae,Af h];rfl
def q4S:∀ (l:List UInt8),beN l<256^ l.length:=by
 intro l;have:∀ (l:List UInt8) (v:Nat),l.foldl (λv c=>v*256+c.toNat) v< (v+1)*256^ l.length:=by
  intro l;induction l with
  |nil=>intro v;simp
  |cons c l b=>
   intro v;have a:=b (v*256+c.toNat);have h2:c.toNat<256:=c.toNat_lt;simp only [AV,As,CD];refine Al a ?_;have:(v*256+c.toNat+1)*256^ l.length<=((v+1)*256)*256^ l.length:=A1 _ (by omega)
   calc _<=_:=this
    _=_:=by rw [Nat.mul_assoc,Ck 256]
 have h:=this l 0;simpa [beN] using h
def z0R(v c:Nat)(hv:v<36028797018963968)(j:c<256):IntKind.i64.wrap ((BitVec.ofInt 64 ((v*256:Nat):Int) |||BitVec.ofInt 64 ((c:Nat):Int)).toNat:Int)=((v*256+c:Nat):Int):=by
 have e:(BitVec.ofInt 64 ((v*256:Nat):Int)).toNat=v*256:=by rw [AP,AX];exact AI (by omega)
 have a:(BitVec.ofInt 64 ((c:Nat):Int)).toNat=c:=by rw [AP,AX];exact AI (by omega)
 have h:v*256|||c=v*256+c:=by have:=Cu (b:=c) (i:=8) j v;rw [CP] at this;exact this.symm
 rw [Cb,e,a,h];exact wrapi (by omega)
theorem z6R(b:List UInt8)(hb:b.length<=7):PC Tryz.prog 145 [.isl .u8 b] (rI (beN b)):=by
 refine q0s rfl rfl ?_;refine rQ fi145 ?_;refine q1p (λi=>[(2,rI (beN (b.take i))),(7,.raw (.int .i64 ((i:Nat):Int)))]) (b.length) (λj=>(λ_=>true) j=true) (by first|decide|simp) (λi=>rfl) ?_ λi hi c=> ?_
 . (with_reducible refine sxE ?_<;>try exact True.intro)
   all_goals (try rfl)
 have e:=wsx i (by omega);refine gQ ?_;have m:i< (b.length)->(λ_=>true) i=false->allN (b.length) (λ_=>true)=false:=λa o=>q0u a o;have fin:¬i< (b.length)->allN (b.length) (λ_=>true)=true:=λh=>q0v λj hj=>c j (by omega);try dsimp only at m fin c
 refine ⟨λa=>⟨⟨by omega,a⟩,?_⟩,λhge=> ?_⟩
 . have o:=q4S (b.take i);have hv2:256^ (b.take i).length<=256^ 6:=A2 (by decide) (by simp;omega);have u:(b.getD i Ty.u8.dflt).toNat<256:=BE _;have p:IntKind.i64.wrap ((beN (b.take i):Int)*2^ min 8 64)=((beN (b.take i)*256:Nat):Int):=by rw [show ((beN (b.take i):Int)*2^ min 8 64)=((beN (b.take i)*256:Nat):Int) by simp];exact wrapi (by omega)
   have v:IntKind.i64.wrap ((b.getD i Ty.u8.dflt).toNat:Int)=(((b.getD i Ty.u8.dflt).toNat:Nat):Int):=wrapi (by omega);have q:=z0R (beN (b.take i)) (b.getD i Ty.u8.dflt).toNat (by omega) u;have r:=q4C b i a;rw [p,v];refine ⟨a,trivial,⟨[],rfl⟩,?_⟩;with_reducible refine sx1 e ?_
   rw [r];exact congrArg (Value.int .i64) q
 obtain rfl:i=b.length:=by omega
 rw [Aw]
def minLen:Nat->Nat
 |1=>128|2=>256|3=>65536|_=>0
def measE(b:List UInt8)(at_ n:Nat):Nat×Nat×Nat:=if b.length-at_<n then (0,0,4) else (at_,at_+n,0)
def meas(b:List UInt8):Nat×Nat×Nat:=
 if b.length<2 then (0,0,4) else
 if (b.getD 1 0).toNat<128 then measE b 2 (b.getD 1 0).toNat else
 if (b.getD 1 0).toNat-128<1\/3< (b.getD 1 0).toNat-128 then (0,0,6) else
 if b.length<2+ ((b.getD 1 0).toNat-128) then (0,0,4) else
 if beN ((b.drop 2).take ((b.getD 1 0).toNat-128)) <minLen ((b.getD 1 0).toNat-128) then (0,0,6) else
 measE b (2+ ((b.getD 1 0).toNat-128)) (beN ((b.drop 2).take ((b.getD 1 0).toNat-128)))
def measV(m:Nat×Nat×Nat):SV:=.tup [rI m.1,rI m.2.1,rI m.2.2]
theorem z9F(b:List UInt8)(hb:b.length<=1099511627776):PC Tryz.prog 213 [.isl .u8 b] (measV (meas b)):=by
 refine q0s rfl rfl ?_;have hx:(b.getD 1 Ty.u8.dflt).toNat<256:=BE _;have X:IntKind.i64.wrap ((b.getD 1 Ty.u8.dflt).toNat:Int)=(((b.getD 1 Ty.u8.dflt).toNat:Nat):Int):=wrapi (by omega);have z:IntKind.i64.wrap (((b.getD 1 Ty.u8.dflt).toNat:Int) -128)=((b.getD 1 Ty.u8.dflt).toNat:Int) -128:=wrapi (by omega);have y:IntKind.i64.wrap (2+ (((b.getD 1 Ty.u8.dflt).toNat:Int) -128))=2+ (((b.getD 1 Ty.u8.dflt).toNat:Int) -128):=wrapi (by omega);have A:IntKind.i64.wrap ((b.length:Int) -2)=(b.length:Int) -2:=wrapi (by omega);have B:IntKind.i64.wrap (2+ ((b.getD 1 Ty.u8.dflt).toNat:Int))=2+ ((b.getD 1 Ty.u8.dflt).toNat:Int):=wrapi (by omega);have hm:∀r,meas b=r->measV (meas b)=measV r:=λr h=>by rw [h]
 unfold measV;refine ry5 fi213 X z y A B ?_;have C:b.getD 1 0=b.getD 1 Ty.u8.dflt:=rfl;generalize hxx:b.getD 1 Ty.u8.dflt=x at*;refine ⟨λh=> ?_,λh=>⟨by omega,λY=>⟨λS=>⟨λZ=> ?_,λZ=>⟨λh5=> ?_,λh5=>⟨⟨by omega,by omega,by omega⟩,?_⟩⟩⟩,λS=> ?_⟩,λY=>⟨λS=> ?_,λS=> ?_⟩⟩⟩
 . have:meas b=(0,0,4):=by unfold meas;rw [if_pos (by omega)]
   rw [this];rfl
 . have:meas b=(0,0,6):=by unfold meas;rw [C,if_neg (by omega),if_neg (by omega),if_pos (by omega)]
   rw [this];rfl
 . have:meas b=(0,0,4):=by unfold meas;rw [C,if_neg (by omega),if_neg (by omega),if_neg (by omega),if_pos (by omega)]
   rw [this];rfl
 . obtain ⟨m,U⟩:∃m:Nat,(x.toNat:Int) -128=(m:Int):=⟨x.toNat-128,by omega⟩
   have hm3:1<=m/\m<=3:=by omega
   have R:((2:Int)+ (m:Int)).toNat=2+m:=by omega
   have w:(List.drop 2 (List.take (2+m) b)).length=m:=by simp;omega
   rw [U,R,w];generalize hL:List.drop 2 (List.take (2+m) b)=L at*;have e:∀v,beN L=v->meas b=(if v<minLen m then (0,0,6) else measE b (2+m) v):=λv o=>by
    have Q:(b.drop 2).take m=L:=by rw [<-hL,BB];congr 1;omega
    unfold meas;rw [C,show x.toNat-128=m by omega,if_neg (by omega),if_neg (by omega),if_neg (by omega),if_neg (by omega),Q,o]
   rcases (by omega:m=1\/m=2\/m=3) with rfl|rfl|rfl
   . refine q1p (λi=>[(5,rI (beN (L.take i))),(39,.raw (.int .i64 ((i:Nat):Int)))]) (1) (λj=>(λ_=>true) j=true) (by first|decide|simp) (λi=>rfl) ?_ λi V a=> ?_
     . (with_reducible refine sxE ?_<;>try exact True.intro)
       all_goals (try rfl)
     have u:=wsx i (by omega);refine gQ ?_;have p:i< (1)->(λ_=>true) i=false->allN (1) (λ_=>true)=false:=λc o=>q0u c o;have fin:¬i< (1)->allN (1) (λ_=>true)=true:=λh=>q0v λj W=>a j (by omega);try dsimp only at p fin a
     refine ⟨λc=>⟨⟨by omega,by omega⟩,?_⟩,λD=> ?_⟩
     . have o:=q4S (L.take i);have F:256^ (L.take i).length<=256^ 6:=A2 (by decide) (by simp;omega);have N:(L.getD i Ty.u8.dflt).toNat<256:=BE _;have z:IntKind.i64.wrap ((beN (L.take i):Int)*2^ min 8 64)=((beN (L.take i)*256:Nat):Int):=by rw [show ((beN (L.take i):Int)*2^ min 8 64)=((beN (L.take i)*256:Nat):Int) by simp];exact wrapi (by omega)
       have y:IntKind.i64.wrap ((L.getD i Ty.u8.dflt).toNat:Int)=(((L.getD i Ty.u8.dflt).toNat:Nat):Int):=wrapi (by omega);have A:=z0R (beN (L.take i)) (L.getD i Ty.u8.dflt).toNat (by omega) N;have B:=q4C L i (by omega);rw [z,y];refine ⟨c,trivial,⟨[],rfl⟩,?_⟩;with_reducible refine sx1 u ?_
       rw [B];exact congrArg (Value.int .i64) A
     rw [Aa (by omega:L.length<=i)];have o:=q4S L;rw [w] at o;have G:beN L<16777216:=by omega
     have E:IntKind.i64.wrap ((b.length:Int) - (2+ ((1:Nat):Int)))=(b.length:Int) - (2+ ((1:Nat):Int)):=wrapi (by omega);have I:IntKind.i64.wrap (2+ ((1:Nat):Int)+ (beN L:Int))=((2+1+beN L:Nat):Int):=by rw [wrapi (by omega)];omega
     rw [E,I];refine ⟨by decide,λq=> ?_,λq=>⟨λO=> ?_,λO=> ?_⟩⟩
     . rw [e _ rfl,if_pos (by simp only [minLen];omega)];rfl
     . rw [e _ rfl,if_neg (by simp only [minLen];omega)];unfold measE;rw [if_pos (by omega)];rfl
     rw [e _ rfl,if_neg (by simp only [minLen];omega)];unfold measE;rw [if_neg (by omega)];rfl
   . refine q1p (λi=>[(5,rI (beN (L.take i))),(39,.raw (.int .i64 ((i:Nat):Int)))]) (2) (λj=>(λ_=>true) j=true) (by first|decide|simp) (λi=>rfl) ?_ λi V a=> ?_
     . (with_reducible refine sxE ?_<;>try exact True.intro)
       all_goals (try rfl)
     have u:=wsx i (by omega);refine gQ ?_;have p:i< (2)->(λ_=>true) i=false->allN (2) (λ_=>true)=false:=λc o=>q0u c o;have fin:¬i< (2)->allN (2) (λ_=>true)=true:=λh=>q0v λj W=>a j (by omega);try dsimp only at p fin a
     refine ⟨λc=>⟨⟨by omega,by omega⟩,?_⟩,λD=> ?_⟩
     . have o:=q4S (L.take i);have F:256^ (L.take i).length<=256^ 6:=A2 (by decide) (by simp;omega);have N:(L.getD i Ty.u8.dflt).toNat<256:=BE _;have z:IntKind.i64.wrap ((beN (L.take i):Int)*2^ min 8 64)=((beN (L.take i)*256:Nat):Int):=by rw [show ((beN (L.take i):Int)*2^ min 8 64)=((beN (L.take i)*256:Nat):Int) by simp];exact wrapi (by omega)
       have y:IntKind.i64.wrap ((L.getD i Ty.u8.dflt).toNat:Int)=(((L.getD i Ty.u8.dflt).toNat:Nat):Int):=wrapi (by omega);have A:=z0R (beN (L.take i)) (L.getD i Ty.u8.dflt).toNat (by omega) N;have B:=q4C L i (by omega);rw [z,y];refine ⟨c,trivial,⟨[],rfl⟩,?_⟩;with_reducible refine sx1 u ?_
       rw [B];exact congrArg (Value.int .i64) A
     rw [Aa (by omega:L.length<=i)];have o:=q4S L;rw [w] at o;have G:beN L<16777216:=by omega
     have E:IntKind.i64.wrap ((b.length:Int) - (2+ ((2:Nat):Int)))=(b.length:Int) - (2+ ((2:Nat):Int)):=wrapi (by omega);have I:IntKind.i64.wrap (2+ ((2:Nat):Int)+ (beN L:Int))=((2+2+beN L:Nat):Int):=by rw [wrapi (by omega)];omega
     rw [E,I];refine ⟨by decide,λq=> ?_,λq=>⟨λO=> ?_,λO=> ?_⟩⟩
     . rw [e _ rfl,if_pos (by simp only [minLen];omega)];rfl
     . rw [e _ rfl,if_neg (by simp only [minLen];omega)];unfold measE;rw [if_pos (by omega)];rfl
     rw [e _ rfl,if_neg (by simp only [minLen];omega)];unfold measE;rw [if_neg (by omega)];rfl
   refine q1p (λi=>[(5,rI (beN (L.take i))),(39,.raw (.int .i64 ((i:Nat):Int)))]) (3) (λj=>(λ_=>true) j=true) (by first|decide|simp) (λi=>rfl) ?_ λi V a=> ?_
   . (with_reducible refine sxE ?_<;>try exact True.intro)
     all_goals (try rfl)
   have u:=wsx i (by omega);refine gQ ?_;have p:i< (3)->(λ_=>true) i=false->allN (3) (λ_=>true)=false:=λc o=>q0u c o;have fin:¬i< (3)->allN (3) (λ_=>true)=true:=λh=>q0v λj W=>a j (by omega);try dsimp only at p fin a
   refine ⟨λc=>⟨⟨by omega,by omega⟩,?_⟩,λD=> ?_⟩
   . have o:=q4S (L.take i);have F:256^ (L.take i).length<=256^ 6:=A2 (by decide) (by simp;omega);have N:(L.getD i Ty.u8.dflt).toNat<256:=BE _;have z:IntKind.i64.wrap ((beN (L.take i):Int)*2^ min 8 64)=((beN (L.take i)*256:Nat):Int):=by rw [show ((beN (L.take i):Int)*2^ min 8 64)=((beN (L.take i)*256:Nat):Int) by simp];exact wrapi (by omega)
     have y:IntKind.i64.wrap ((L.getD i Ty.u8.dflt).toNat:Int)=(((L.getD i Ty.u8.dflt).toNat:Nat):Int):=wrapi (by omega);have A:=z0R (beN (L.take i)) (L.getD i Ty.u8.dflt).toNat (by omega) N;have B:=q4C L i (by omega);rw [z,y];refine ⟨c,trivial,⟨[],rfl⟩,?_⟩;with_reducible refine sx1 u ?_
     rw [B];exact congrArg (Value.int .i64) A
   rw [Aa (by omega:L.length<=i)];have o:=q4S L;rw [w] at o;have G:beN L<16777216:=by omega
   have E:IntKind.i64.wrap ((b.length:Int) - (2+ ((3:Nat):Int)))=(b.length:Int) - (2+ ((3:Nat):Int)):=wrapi (by omega);have I:IntKind.i64.wrap (2+ ((3:Nat):Int)+ (beN L:Int))=((2+3+beN L:Nat):Int):=by rw [wrapi (by omega)];omega
   rw [E,I];refine ⟨by decide,λq=> ?_,λq=>⟨λO=> ?_,λO=> ?_⟩⟩
   . rw [e _ rfl,if_pos (by simp only [minLen];omega)];rfl
   . rw [e _ rfl,if_neg (by simp only [minLen];omega)];unfold measE;rw [if_pos (by omega)];rfl
   rw [e _ rfl,if_neg (by simp only [minLen];omega)];unfold measE;rw [if_neg (by omega)];rfl
 . have:meas b=(0,0,6):=by unfold meas;rw [C,if_neg (by omega),if_neg (by omega),if_pos (by omega)]
   rw [this];rfl
 . have:meas b=(0,0,4):=by unfold meas;rw [C,if_neg (by omega),if_pos (by omega)];unfold measE;rw [if_pos (by omega)]
   rw [this];rfl
 have:meas b=(2,2+x.toNat,0):=by unfold meas;rw [C,if_neg (by omega),if_pos (by omega)];unfold measE;rw [if_neg (by omega)]
 rw [this];rfl
def byteOf(x:Int):UInt8:=UInt8.ofNat (IntKind.u8.wrap x).toNat
def u8wrap(x:Int):0<=IntKind.u8.wrap x/\IntKind.u8.wrap x<256:=by
 have h:IntKind.u8.wrap x=x%256:=by simp [IntKind.wrap,IntKind.bits,IntKind.signed]
 rw [h];omega
def q0U(x:Int):((UInt8.ofNat (IntKind.u8.wrap x).toNat).toNat:Int)=IntKind.u8.wrap x:=by have:=u8wrap x;rw [Bd];omega
def j4J(c:UInt8):((UInt8.ofNat c.toNat).toNat:Int)=c.toNat:=by simp
def lenS(n:Nat):List UInt8:=
 if n<128 then [byteOf n] else if n<256 then [129,byteOf n] else if n<65536 then [130,byteOf ((n:Int).fdiv 256),byteOf n] else [131,byteOf ((n:Int).fdiv 65536),byteOf ((n:Int).fdiv 256),byteOf n]
def tlv(tag:UInt8)(c:List UInt8):List UInt8:=tag :: (lenS c.length++c)
def elemS(tag:UInt8)(parts:List (List UInt8)):List UInt8:=if parts.flatten.length<=16777215 then tlv tag parts.flatten else []
def flatN(parts:List (List UInt8))(i:Nat):List UInt8:=(parts.take i).flatten
def q4y{parts:List (List UInt8)}(h:i<parts.length):flatN parts (i+1)=flatN parts i++parts.getD i (Ty.slice .u8).dflt:=by unfold flatN;rw [q1e (d:=(Ty.slice .u8).dflt) h];simp
def q8t(parts:List (List UInt8)):flatN parts parts.length=parts.flatten:=by unfold flatN;rw [Aw]
def q6b(parts:List (List UInt8))(i:Nat):(flatN parts i).length<=parts.flatten.length:=by unfold flatN;have:=congrArg List.flatten (AE i parts);rw [Bw] at this;rw [<-this];simp
def fitAt(parts:List (List UInt8))(j:Nat):Bool:=decide ((flatN parts (j+1)).length<=16777215)

theorem j1p(tag:UInt8)(parts:List (List UInt8))(hp:parts.length<=1125899906842624):PC Tryz.prog 110 [.raw (.int .u8 tag.toNat),.isl (.slice .u8) parts] (.isl .u8 (elemS tag parts)):=by
 refine q0g rfl rfl ?_;refine rQ fi110 ?_;refine q1p (λi=>[(5,rI ((flatN parts i).length)),(13,.raw (.int .i64 ((i:Nat):Int)))]) (parts.length) (λj=>(fitAt parts) j=true) (by first|decide|simp) (λi=>rfl) ?_ λi w b=> ?_
 . (with_reducible refine sxE ?_<;>try exact True.intro)
   all_goals (try rfl)
 have c:=wsx i (by omega);refine gQ ?_;have p:i< (parts.length)->(fitAt parts) i=false->allN (parts.length) (fitAt parts)=false:=λa z=>q0u a z;have fin:¬i< (parts.length)->allN (parts.length) (fitAt parts)=true:=λh=>q0v λj hj=>b j (by omega);try dsimp only at p fin b
 have x:(flatN parts i).length<=16777215:=by
  cases i with
  |zero=>simp [flatN]
  |succ j=>have:=b j (by omega);simpa [fitAt] using this
 rw [wrapi (n:=16777215- ((flatN parts i).length:Int)) (by omega),wrapi (n:=((flatN parts i).length:Int)+5) (by omega)];refine ⟨λa=>⟨⟨by omega,a⟩,λhbig=> ?_,λhfit=> ?_⟩,λm=> ?_⟩
 . have q:=q6b parts (i+1);rw [q4y a,Ab] at q;unfold elemS;rw [if_neg (by omega)]
 . have o:((flatN parts i).length:Int)+ ((parts.getD i (Ty.slice .u8).dflt).length:Int)=((flatN parts (i+1)).length:Int):=by rw [q4y a,Ab];rfl
   have u:(flatN parts (i+1)).length<=16777215:=by omega
   refine ⟨a,q1o b (by simpa [fitAt] using u),⟨_,rfl⟩,?_⟩;rw [o,wrapi (n:=((flatN parts (i+1)).length:Int)) (by omega)];with_reducible refine sx1 c ?_;trivial
 obtain rfl:i=parts.length:=by omega
 rw [q8t] at*;have y:elemS tag parts=tag :: (lenS parts.flatten.length++flatN parts parts.length):=by unfold elemS tlv;rw [if_pos x,q8t]
 refine ⟨⟨by omega,by omega,by omega⟩,j4J tag,λq=>⟨q0U _,?_⟩,λq=>⟨λo=>⟨?_,?_⟩,λo=>⟨λu=>⟨?_,?_⟩,λu=>⟨?_,?_⟩⟩⟩⟩;any_goals (repeat' (first|exact q0U _|exact rfl|with_reducible refine And.intro ?_ ?_))
 have e:lenS parts.flatten.length= [byteOf parts.flatten.length]:=by unfold lenS;rw [if_pos (by omega)]
 rotate_left;have e:lenS parts.flatten.length= [129,byteOf parts.flatten.length]:=by unfold lenS;rw [if_neg (by omega),if_pos (by omega)]
 rotate_left;have e:lenS parts.flatten.length= [130,byteOf ((parts.flatten.length:Int).fdiv 256),byteOf parts.flatten.length]:=by unfold lenS;rw [if_neg (by omega),if_neg (by omega),if_pos (by omega)]
 rotate_left;have e:lenS parts.flatten.length= [131,byteOf ((parts.flatten.length:Int).fdiv 65536),byteOf ((parts.flatten.length:Int).fdiv 256),byteOf parts.flatten.length]:=by unfold lenS;rw [if_neg (by omega),if_neg (by omega),if_neg (by omega)]
 rotate_left;all_goals
  refine j6N (H:=[_,_,_,_]) 8 .u8 (λi=>tag :: (lenS parts.flatten.length++flatN parts i)) (λi=>[(44,.any),(52,.any),(60,.any),(71,.any),(74,rI i)]) parts.length (λ_=>True) (by rw [e];simp [flatN,byteOf]) (by simp) rfl (λi=>rfl) ?_ λi w _=> ?_
  . with_reducible refine sx1 e ?_
    simp [flatN]
  have c:=wsx i (by omega);have hfl:=q6b parts i;have hll:(lenS parts.flatten.length).length<=4:=by rw [e];simp
  refine gQ ?_;have e1:(lenS parts.flatten.length++flatN parts i).length=(lenS parts.flatten.length).length+ (flatN parts i).length:=Ab;refine ⟨λa=> ?_,λm=> ?_⟩
  . have v:=q6b parts (i+1);have r:=q4y a;rw [r,Ab] at v;refine ⟨⟨by omega,a⟩,⟨by omega,by omega⟩,q1P [.dead] [] a trivial (by rw [r,<-List.append_assoc];rfl) ?_⟩;with_reducible refine sx3 c r ?_
    exact congrArg (SV.bld 5 .u8) (by omega)
  obtain rfl:i=parts.length:=by omega
  rw [Aa (Ad _)];exact ⟨⟨Ad _,by omega⟩,y.symm⟩
end Go.Proofs.YthbcodbcndiapaaGreatDoor