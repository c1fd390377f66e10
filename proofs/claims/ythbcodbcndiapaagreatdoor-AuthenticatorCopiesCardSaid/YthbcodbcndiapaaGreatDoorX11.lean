/- AES: the program encrypts a block. -/
import Derived.Test.YthbcodbcndiapaaGreatDoorX10
import Derived.Lib.MakeNoZero
import Derived.Laws.Externs
set_option linter.all false
namespace Go.Proofs.YthbcodbcndiapaaGreatDoor
open Go Go.Sx Go.Proofs
set_option maxRecDepth 100000
set_option maxHeartbeats 40000000
def z6J{t:Ty}{x:t.den}:rdPtr t [.iptr t x 0]=some (some x,True):=by simp [rdPtr]
def q1z{h:Nat}{t:Ty}{xs:List t.den}{L:List SObj}:∀ {G:List SObj},frzObH h t xs G->frzObH h t xs L->frzObH h t xs (G++L)
 | [],_,h2=>h2
 |_ :: _,h1,h2=>⟨h1.1,q1z h1.2 h2⟩
def q2G{f g:Nat->UInt8}(h:∀j,j<16->f j=g j):fS f=fS g:=by unfold fS;exact BM λj a=>h j (BN.1 a)
def j8I:∀j:Fin 16,shI j.val=4* ((j.val / 4+j.val%4)%4)+j.val%4/\shI j.val<16:=by decide
def shf_eq'(a:List UInt8)(e:∀c:UInt8,a.getD c.toNat 0=subS c)(x:List UInt8):(fS λj=>(fS λj=>a.getD (x.getD j 0).toNat 0).getD (shI j) 0)=shfS x:=by unfold shfS;refine q2G λj b=> ?_;have h:=j8I ⟨j,b⟩;dsimp only at h;exact (q7H (λj=>a.getD (x.getD j 0).toNat 0) h.2).trans ((e _).trans (by rw [h.1]))
def j7J(x:List UInt8):(fS λj=>(fS λj=>fwS.getD (x.getD j 0).toNat 0).getD (shI j) 0)=shfS x:=shf_eq' fwS z8k x
def j0c(w:List UInt8)(i j:Nat)(hj:j<16):(List.take 16 (List.drop (i*16) w)).getD (16*0+j) 0=w.getD (16*i+j) 0:=by simp only [Ae];rw [B6 (by omega),Bp,show i*16+ (16*0+j)=16*i+j by omega]
variable {key:List UInt8}
def q5r(x:List UInt8)(i:Nat):addS x (rkK key i) 0=addS x (wordsS key) i:=by unfold addS rkK;refine q2G λj a=> ?_;rw [j0c (wordsS key) i j a]
def encH(cp:CipT.den)(b k:List UInt8)(G:List SObj):List SObj:=.row PasT [(some cp,(b,k))] :: .cells 282 [.rptr 0 PasT 0 0] :: .cells 1 [opF 284,opF 285,opF 286,opF 268] :: .cells 287 [.csl 2 .u8 0 0 4] :: G
def prS(w b:List UInt8):Nat->List UInt8
 |0=>b
 |n+1=>encA w b n
def pkS(key:List UInt8):Nat->List UInt8
 |0=>z16
 |n+1=>rkK key n
variable {i:Nat}
def q9k(a:key.length=16)(hi:i<11):(rkK key i).length=16:=by have:=q3Y key a;unfold rkK;rw [An,Ah];omega
def encOps(a:CipT.den)(key:List UInt8)(u:key.length=16)(p:a=cipS key)(w:i<11){b x:List UInt8}(c:b=rkK key i)(m:x.length=16):
 ∃s1 s2 s3 a0 a10 a4:List UInt8,OpE 284 (some a,(x,b)) (some a,(s1,b))/\OpE 285 (some a,(s1,b)) (some a,(s2,b))/\OpE 286 (some a,(s2,b)) (some a,(s3,b))/\
  OpE 268 (some a,(x,b)) (some a,(a0,b))/\OpE 268 (some a,(s2,b)) (some a,(a10,b))/\OpE 268 (some a,(s3,b)) (some a,(a4,b))/\
  a0=addS x (wordsS key) i/\(i=10->a10=rndE (wordsS key) i x)/\(i<10->a4=rndE (wordsS key) i x):=by
 have e:b.length=16:=by rw [c];exact q9k u w
 have o:(a.1.1:List UInt8)=fwS:=by rw [p];rfl
 have q:=q9N a x b m;have k:=j1M (some a) (fS λj=>(a.1.1:List UInt8).getD (x.getD j 0).toNat 0) b (q2c _);have v:(fS λj=>(fS λj=>(a.1.1:List UInt8).getD (x.getD j 0).toNat 0).getD (shI j) 0)=shfS x:=by rw [o];exact j7J x
 rw [v] at k;refine ⟨_,_,_,_,_,_,q,k,j7r (some a) (shfS x) b (q2c _),z4q (some a) x b m e,z4q (some a) (shfS x) b (q2c _) e,z4q (some a) (mixS (shfS x) [2,3,1,1]) b (q2c _) e,?_,?_,?_⟩
 . rw [c,q5r]
 . intro h;unfold rndE;rw [c,q5r,if_neg (by omega)]
 intro h;unfold rndE;rw [c,q5r,if_pos h]
def encHs(cp:CipT.den)(key b:List UInt8)(i:Nat)(H':List SObj):Prop:=∃G,(∀xs,frzObH 0 PasT xs G)/\H'=encH cp (prS (wordsS key) b i) (pkS key i) G
theorem z5H(key b:List UInt8)(Q:key.length=16)(X:b.length=16):PC Tryz.prog 264 [.iptr CipT (cipS key) 0,.isl .u8 b] (.tup [.isl .u8 (encS (wordsS key) b),rI 0]):=by
 refine q0s rfl rfl (q3K (q1D noFG fi264 ?_));letI:Ghost:=topG noFG [];have u:=z0X key b X;have a:=q6b key false Q;have I:=q6j key false Q;unfold rkF at a;obtain ⟨C,p⟩:∃C,C=cipS key:=⟨_,rfl⟩;rw [<-p] at u a I⊢;have ab:List.take 16 b=b:=Aa (by omega);refine gQ ?_;refine q0b u ?_;refine uQ 600 _ ?_;simp (maxSteps:=3000000) only [X,ab,z6J,go_sem,↓zA,↓reduceIte,↓reduceDIte] <;>try simp only [zB]
 refine cQ a ?_;refine z5X (encHs C key b) (λ_ _ _=>False) rfl rfl rfl I (λi n z aa h=>by rw [h.1];rfl) ⟨[],λ_=>trivial,rfl⟩ rfl ?_ ?_ ?_
 . rintro i _ z aa hi ⟨G,L,rfl⟩ ⟨rfl,rfl⟩ L1 L2;letI:Ghost:=pinG noFG L1;rw [Ad];unfold encH;have V:rkI false i=i:=rfl;have o:(rkK key i).length=16:=q9k Q hi;rw [V];obtain ⟨rk,a⟩:∃rk,rk=rkK key i:=⟨_,rfl⟩;rw [<-a] at o⊢;refine uQ 600 _ ?_;simp only [putL,Bf];with_reducible refine sya1 o ?_
   letI:Ghost:=pinG noFG L2;have w:List.take 16 rk=rk:=Aa (by omega);have E:(prS (wordsS key) b i).length=16:=by cases i with
    |zero=>exact X
    |succ n=>exact q6L _ _ _
   obtain ⟨s1,s2,s3,a0,Z,a4,A,B,v,m,c,k,h0,F,h4⟩:=encOps C key Q p hi a E;have O:i=0->prS (wordsS key) b (i+1)=a0:=by rintro rfl;rw [h0];rfl
   have q:i=10->prS (wordsS key) b (i+1)=Z:=by rintro rfl;rw [F rfl];rfl
   have U:0<i->i<10->prS (wordsS key) b (i+1)=a4:=by
    intro h R;obtain ⟨j,rfl⟩:∃j,i=j+1:=⟨i-1,by omega⟩
    rw [h4 R];rfl
   have ek:pkS key (i+1)=rk:=by rw [a];rfl
   have Y:∀ {G':List SObj} {y:List UInt8},(∀xs,frzObH 0 PasT xs G')->prS (wordsS key) b (i+1)=y->encHs C key b (i+1) (encH C y rk G'):=by intro G' y hg hy;exact ⟨G',hg,by rw [hy,ek]⟩
   clear h0 F h4 p u a;generalize prS (wordsS key) b i=x at*;generalize pkS key i=W at*;have hk2:(((i:Nat):Int)=0)=(i=0):=by simp
   rcases Cz i with h|h
   . have S:(((i:Nat):Int)=0)=True:=eq_true (by omega);have e:=O h;clear O q U A B v k c;refine uQ 600 _ ?_;simp (maxSteps:=3000000) only [S,o,w,Ac,true_and,List.append_assoc,getA,getA0,setA,setA0,Ab,Au,go_sem,↓zA,↓reduceIte,↓reduceDIte] <;>try simp only [zB]
     refine q0i [0,G.length+5] (z7Q 268 _ _ m) rfl (by simp) ?_ rfl rfl ?_
     . simp (maxSteps:=3000000) only [atH,sig,SObj.ren,SV.ren,SV.renL,SObj.live,opF,List.append_assoc,getA,getA0,setA,setA0,Ab,Au,go_sem,↓zA,↓reduceIte,↓reduceDIte] <;>try simp only [zB]
     simp only [afterO,Out.ren,SV.ren,mgA,sig,SObj.ren,SV.renL,List.set,List.map,Ad,opF];refine aQ ?_;exact Y (λxs=>q1z (L xs) ⟨trivial,⟨trivial,trivial⟩,trivial⟩) e
   have S:(((i:Nat):Int)=0)=False:=eq_false (by omega);rcases A8 i 10 with R|R
   . have f2:(((i:Nat):Int)=10)=False:=eq_false (by omega);have e:=U h R;clear O q U m c;refine uQ 600 _ ?_;simp (maxSteps:=3000000) only [S,f2,o,w,Ac,true_and,List.append_assoc,getA,getA0,setA,setA0,Ab,Au,go_sem,↓zA,↓reduceIte,↓reduceDIte] <;>try simp only [zB]
     refine q0i [0,2] (z7j 284 285 286 268 _ _ _ _ _ A B v k) rfl (by simp) ?_ rfl rfl ?_
     . simp (maxSteps:=3000000) only [atH,sig,SObj.ren,SV.ren,SV.renL,SObj.live,opF,List.append_assoc,getA,getA0,setA,setA0,Ab,Au,go_sem,↓zA,↓reduceIte,↓reduceDIte] <;>try simp only [zB]
     simp only [afterO,Out.ren,SV.ren,mgA,sig,SObj.ren,SV.renL,List.set,List.map,Ad,opF];refine aQ ?_;exact Y (λxs=>q1z (L xs) ⟨trivial,trivial⟩) e
   have f2:(((i:Nat):Int)=10)=True:=eq_true (by omega);have e:=q (by omega);clear O q U v m k;refine uQ 600 _ ?_;simp (maxSteps:=3000000) only [S,f2,o,w,Ac,true_and,List.append_assoc,getA,getA0,setA,setA0,Ab,Au,go_sem,↓zA,↓reduceIte,↓reduceDIte] <;>try simp only [zB]
   refine q0i [0,G.length+5] (z7k 284 285 268 _ _ _ _ A B c) rfl (by simp) ?_ rfl rfl ?_
   . simp (maxSteps:=3000000) only [atH,sig,SObj.ren,SV.ren,SV.renL,SObj.live,opF,List.append_assoc,getA,getA0,setA,setA0,Ab,Au,go_sem,↓zA,↓reduceIte,↓reduceDIte] <;>try simp only [zB]
   simp only [afterO,Out.ren,SV.ren,mgA,sig,SObj.ren,SV.renL,List.set,List.map,Ad,opF];refine aQ ?_;exact Y (λxs=>q1z (L xs) ⟨trivial,⟨trivial,trivial,trivial,trivial⟩,trivial⟩) e
 . rintro D Hn ⟨G,L,rfl⟩;letI:Ghost:=topG noFG [D];have E:(prS (wordsS key) b 11).length=16:=q6L _ _ _;have he:encS (wordsS key) b=prS (wordsS key) b 11:=rfl;rw [he];clear p u a he;generalize prS (wordsS key) b 11=x at*;have N:List.take 16 x=x:=Aa (by omega);generalize pkS key 11=W at*;unfold encH;refine uQ 6 _ ?_;with_reducible refine sxaE ?_
   refine z2S (ty:=PasT) 64 0 0 1 rfl rfl rfl (Nat.succ_pos _) (show 1<=1125899906842624 by decide) ?_ ?_ ?_
   . exact ⟨trivial,⟨trivial,trivial⟩,⟨trivial,trivial,trivial,trivial,trivial⟩,⟨trivial,trivial⟩,L _⟩
   . with_reducible refine sxaE ?_;trivial
   with_reducible refine sxaE ?_
   refine aQ ?_;refine ⟨⟨by decide,Ac _⟩,q0b (N.symm▸q1C x (by omega)) ?_⟩;refine aQ ?_;simp [SV.leV,N]
 rintro D i ex _ hi h;exact h.elim
def uns_eq'(iv:List UInt8)(b:∀c:UInt8,iv.getD c.toNat 0=invS c)(x:List UInt8):(fS λj=>iv.getD ((fS λj=>x.getD (srcU j) 0).getD j 0).toNat 0)=unsS x:=by unfold unsS;refine q2G λj a=> ?_;have e:=q7H (λj=>x.getD (srcU j) 0) a;rw [b];exact congrArg invS e
theorem j7w(x:List UInt8):(fS λj=>(invP 256).getD ((fS λj=>x.getD (srcU j) 0).getD j 0).toNat 0)=unsS x:=uns_eq' (invP 256) (λ_=>rfl) x
def decH(cp:CipT.den)(b k:List UInt8)(G:List SObj):List SObj:=.row PasT [(some cp,(b,k))] :: .cells 282 [.rptr 0 PasT 0 0] :: .cells 1 [opF 268,opF 269,opF 270,opF 271] :: .cells 287 [.csl 2 .u8 0 0 4] :: G
def pdS(w b:List UInt8)(n:Nat):List UInt8:=if n<=10 then decA w b n else decS w b
def pqS(key:List UInt8):Nat->List UInt8
 |0=>z16
 |n+1=>rkK key (10-n)
def decOps(c:CipT.den)(key:List UInt8)(u:key.length=16)(o:c=cipS key)(w:i<11){b x:List UInt8}(e:b=rkK key i)(q:x.length=16):
 ∃a s2 s3 t2 t3 t4:List UInt8,OpE 268 (some c,(x,b)) (some c,(a,b))/\OpE 270 (some c,(a,b)) (some c,(s2,b))/\OpE 271 (some c,(s2,b)) (some c,(s3,b))/\
  OpE 269 (some c,(a,b)) (some c,(t2,b))/\OpE 270 (some c,(t2,b)) (some c,(t3,b))/\OpE 271 (some c,(t3,b)) (some c,(t4,b))/\
  a=addS x (wordsS key) i/\(i=10->s3=rndD (wordsS key) i x)/\(i<10->t4=rndD (wordsS key) i x):=by
 have p:b.length=16:=by rw [e];exact q9k u w
 have m:(c.1.2:List UInt8)=invP 256:=by rw [o];rfl
 have k:∀y:List UInt8,OpE 271 (some c,((fS λj=>y.getD (srcU j) 0),b)) (some c,(unsS y,b)):=by intro y;have h:=z5L c (fS λj=>y.getD (srcU j) 0) b (q2c _);rw [m] at h;have v:=j7w y;rw [v] at h;exact h
 refine ⟨_,_,_,_,_,_,z4q (some c) x b q p,q8S (some c) (addS x b 0) b (q2c _),k _,z9Z (some c) (addS x b 0) b (q2c _),q8S (some c) (mixS (addS x b 0) [14,11,13,9]) b (q2c _),k _,?_,?_,?_⟩
 . rw [e,q5r]
 . intro h;unfold rndD mixD;rw [e,q5r,if_neg (by omega)]
 intro h;unfold rndD mixD;rw [e,q5r,if_pos h]
def decHs(cp:CipT.den)(key b:List UInt8)(i:Nat)(H':List SObj):Prop:=∃G,(∀xs,frzObH 0 PasT xs G)/\H'=decH cp (pdS (wordsS key) b i) (pqS key i) G
theorem z5d(key b:List UInt8)(U:key.length=16)(hb:b.length=16):PC Tryz.prog 249 [.iptr CipT (cipS key) 0,.isl .u8 b] (.tup [.isl .u8 (decS (wordsS key) b),rI 0]):=by
 refine q0s rfl rfl (q3K (q1D noFG fi249 ?_));letI:Ghost:=topG noFG [];have u:=z0X key b hb;have c:=q6b key true U;have N:=q6j key true U;unfold rkF at c;obtain ⟨F,p⟩:∃F,F=cipS key:=⟨_,rfl⟩;rw [<-p] at u c N⊢;have ab:List.take 16 b=b:=Aa (by omega);refine gQ ?_;refine q0b u ?_;refine uQ 600 _ ?_;simp (maxSteps:=3000000) only [hb,ab,z6J,go_sem,↓zA,↓reduceIte,↓reduceDIte] <;>try simp only [zB]
 refine cQ c ?_;refine z5X (decHs F key b) (λ_ _ _=>False) rfl rfl rfl N (λi n A aa h=>by rw [h.1];rfl) ⟨[],λ_=>trivial,rfl⟩ rfl ?_ ?_ ?_
 . rintro i _ A aa O ⟨G,Q,rfl⟩ ⟨rfl,rfl⟩ L1 L2;letI:Ghost:=pinG noFG L1;rw [Ad];unfold decH;have Y:rkI true i=10-i:=rfl;obtain ⟨r,hr⟩:∃r,r=10-i:=⟨_,rfl⟩;have v:r<11:=by omega
   have k:(rkK key r).length=16:=q9k U v;rw [Y,<-hr];obtain ⟨rk,c⟩:∃rk,rk=rkK key r:=⟨_,rfl⟩;rw [<-c] at k⊢;refine uQ 600 _ ?_;simp only [putL,Bf];with_reducible refine sya1 k ?_
   letI:Ghost:=pinG noFG L2;have z:List.take 16 rk=rk:=Aa (by omega);have o:pdS (wordsS key) b i=decA (wordsS key) b i:=if_pos (by omega);have I:(pdS (wordsS key) b i).length=16:=by rw [o];exact j2h _ _ hb _
   obtain ⟨a,s2,s3,t2,t3,t4,C,B,E,w,j,m,h0,L,h4⟩:=decOps F key U p v c I;have S:r=0->pdS (wordsS key) b (i+1)=a:=by
    intro h;have O:i=10:=by omega
    rw [h0,o,h,O];rfl
   have q:r=10->pdS (wordsS key) b (i+1)=s3:=by
    intro h;have O:i=0:=by omega
    rw [L h,o,h,O];rfl
   have X:0<r->r<10->pdS (wordsS key) b (i+1)=t4:=by intro h V;have hu:pdS (wordsS key) b (i+1)=decA (wordsS key) b (i+1):=if_pos (by omega);rw [h4 V,hu,decA,o,hr]
   have ek:pqS key (i+1)=rk:=by rw [c,hr];rfl
   have eH:∀ {G':List SObj} {y:List UInt8},(∀xs,frzObH 0 PasT xs G')->pdS (wordsS key) b (i+1)=y->decHs F key b (i+1) (decH F y rk G'):=by intro G' y hg hy;exact ⟨G',hg,by rw [hy,ek]⟩
   clear h0 L h4 p u c o;generalize pdS (wordsS key) b i=x at*;generalize pqS key i=Z at*;rcases Cz r with h|h
   . have W:(((r:Nat):Int)=0)=True:=eq_true (by omega);have e:=S h;clear S q X B E w j m;refine uQ 600 _ ?_;simp (maxSteps:=3000000) only [W,k,z,Ac,true_and,List.append_assoc,getA,getA0,setA,setA0,Ab,Au,go_sem,↓zA,↓reduceIte,↓reduceDIte] <;>try simp only [zB]
     refine q0i [0,G.length+5] (z7Q 268 _ _ C) rfl (by simp) ?_ rfl rfl ?_
     . simp (maxSteps:=3000000) only [atH,sig,SObj.ren,SV.ren,SV.renL,SObj.live,opF,List.append_assoc,getA,getA0,setA,setA0,Ab,Au,go_sem,↓zA,↓reduceIte,↓reduceDIte] <;>try simp only [zB]
     simp only [afterO,Out.ren,SV.ren,mgA,sig,SObj.ren,SV.renL,List.set,List.map,Ad,opF];refine aQ ?_;exact eH (λxs=>q1z (Q xs) ⟨trivial,⟨trivial,trivial⟩,trivial⟩) e
   have W:(((r:Nat):Int)=0)=False:=eq_false (by omega);rcases A8 r 10 with V|V
   . have f2:(((r:Nat):Int)=10)=False:=eq_false (by omega);have e:=X h V;clear S q X B E;refine uQ 600 _ ?_;simp (maxSteps:=3000000) only [W,f2,k,z,Ac,true_and,List.append_assoc,getA,getA0,setA,setA0,Ab,Au,go_sem,↓zA,↓reduceIte,↓reduceDIte] <;>try simp only [zB]
     refine q0i [0,2] (z7j 268 269 270 271 _ _ _ _ _ C w j m) rfl (by simp) ?_ rfl rfl ?_
     . simp (maxSteps:=3000000) only [atH,sig,SObj.ren,SV.ren,SV.renL,SObj.live,opF,List.append_assoc,getA,getA0,setA,setA0,Ab,Au,go_sem,↓zA,↓reduceIte,↓reduceDIte] <;>try simp only [zB]
     simp only [afterO,Out.ren,SV.ren,mgA,sig,SObj.ren,SV.renL,List.set,List.map,Ad,opF];refine aQ ?_;exact eH (λxs=>q1z (Q xs) ⟨trivial,trivial⟩) e
   have f2:(((r:Nat):Int)=10)=True:=eq_true (by omega);have e:=q (by omega);clear S q X w j m;refine uQ 600 _ ?_;simp (maxSteps:=3000000) only [W,f2,k,z,Ac,true_and,List.append_assoc,getA,getA0,setA,setA0,Ab,Au,go_sem,↓zA,↓reduceIte,↓reduceDIte] <;>try simp only [zB]
   refine q0i [0,G.length+5] (z7k 268 270 271 _ _ _ _ C B E) rfl (by simp) ?_ rfl rfl ?_
   . simp (maxSteps:=3000000) only [atH,sig,SObj.ren,SV.ren,SV.renL,SObj.live,opF,List.append_assoc,getA,getA0,setA,setA0,Ab,Au,go_sem,↓zA,↓reduceIte,↓reduceDIte] <;>try simp only [zB]
   simp only [afterO,Out.ren,SV.ren,mgA,sig,SObj.ren,SV.renL,List.set,List.map,Ad,opF];refine aQ ?_;exact eH (λxs=>q1z (Q xs) ⟨trivial,⟨trivial,trivial,trivial,trivial⟩,trivial⟩) e
 . rintro D Hn ⟨G,Q,rfl⟩;letI:Ghost:=topG noFG [D];have I:(pdS (wordsS key) b 11).length=16:=q5a _ _;have he:decS (wordsS key) b=pdS (wordsS key) b 11:=rfl;rw [he];clear p u c he;generalize pdS (wordsS key) b 11=x at*;have R:List.take 16 x=x:=Aa (by omega);generalize pqS key 11=Z at*;unfold decH;refine uQ 6 _ ?_;with_reducible refine sxaE ?_
   refine z2S (ty:=PasT) 64 0 0 1 rfl rfl rfl (Nat.succ_pos _) (show 1<=1125899906842624 by decide) ?_ ?_ ?_
   . exact ⟨trivial,⟨trivial,trivial⟩,⟨trivial,trivial,trivial,trivial,trivial⟩,⟨trivial,trivial⟩,Q _⟩
   . with_reducible refine sxaE ?_;trivial
   with_reducible refine sxaE ?_
   refine aQ ?_;refine ⟨⟨by decide,Ac _⟩,q0b (R.symm▸q1C x (by omega)) ?_⟩;refine aQ ?_;simp [SV.leV,R]
 rintro D i ex _ O h;exact h.elim
def xorS(a b:List UInt8):List UInt8:=fS λi=>a.getD i 0^^^ b.getD i 0
theorem q2h(a b:List UInt8):(xorS a b).length=16:=q2c _
def chA(w iv p:List UInt8):Nat->List UInt8×List UInt8
 |0=>(iv,[])
 |n+1=>(encS w (xorS ((p.take (16*n+16)).drop (16*n)) (chA w iv p n).1),(chA w iv p n).2++encS w (xorS ((p.take (16*n+16)).drop (16*n)) (chA w iv p n).1))
def chainS(key iv p:List UInt8):List UInt8:=(chA (wordsS key) iv p (p.length / 16)).2
theorem q6X(w iv p:List UInt8)(a:iv.length=16)(n:Nat):(chA w iv p n).1.length=16/\(chA w iv p n).2.length=16*n:=by
 induction n with
 |zero=>exact ⟨a,rfl⟩
 |succ n ih=>grind [q4Y,chA]
def q5S(key iv p:List UInt8)(hi:iv.length=16):(chainS key iv p).length=16* (p.length / 16):=(q6X _ _ _ hi _).2
def zpN(n:Nat):Nat:=(16-n%16)%16
def zpL(p:List UInt8)(k:Nat):List UInt8:=p++List.replicate k 0
def z2D(p:List UInt8)(k:Nat):(zpL p k).length=p.length+k:=by simp [zpL]
def exchS(c:List UInt8):List UInt8:=c.take (c.length-32)++c.drop (c.length-16)++(c.take (c.length-16)).drop (c.length-32)
def ctsE(key iv p:List UInt8):List UInt8:=
 let c:=chainS key iv (zpL p (zpN p.length))
 if c.length=16 then c else (exchS c).take p.length
end Go.Proofs.YthbcodbcndiapaaGreatDoor
namespace Go.Sx
open Go

variable {P:Program} {AQ:Ex->List SV->List SObj->Prop} {k0:Nat}

def mofP(P:Program)(T:TypeId)(nm:String):Option (FuncId×Nat):=match (P.info? T).bind λi=>i.methods.find? (·.name==nm) with
 |some m=>match m.path.toList,m.func with
  | [s],some (g,true)=>if s.deref=true then none else match P.underlying s.struct with
   |some (.struct fs)=>match fs[s.index]? with
    |some y=>match P.underlying y.type,aggOf P y.type with
     |some (.pointer _),some none=>match P.underlying T with
      |some (.struct _)=>if enters P g=true then some (g,y.offset) else none
      |_=>none
     |_,_=>none
    |none=>none
   |_=>none
  |_,_=>none
 |none=>none
variable {nm:String}{off:Nat}{s:SV}
theorem j6k{T:TypeId}{g:FuncId}(h:mofP P T nm=some (g,off)){C:Cx}{cs:List SV}{vs:List Value}(j:SV.denL C cs vs)(hp:cs[off]?=some s)(w:World)(a:Nat):
 ∃v,(method (a+1) T (.agg vs.toArray) nm).run P w= .ok (g,v) w/\s.den C v/\enters P g=true/\∃e,P.underlying T=some (.struct e):=by
 unfold mofP at h;split at h
 . rename_i m c;split at h
   . rename_i st g' hpath hfn;split at h
     . cases h
     rename_i hder;split at h
     . rename_i e hu;split at h
       . rename_i y hy;split at h
         . rename_i el hpt b;split at h
           . rename_i fs' hT;split at h
             . rename_i hen;cases h;obtain ⟨v,h1,h2⟩:=q4O b j (off:=y.offset) (s:=s) (by grind [pick]) w;rw [AL] at c;obtain ⟨ti,hti,c⟩:=c
               simp_all [method,typeInfo,receiverAt,Place.get,follow,run_underlying']
             cases h
           cases h
         cases h
       cases h
     cases h
   cases h
 cases h

variable {ev:Operand->SV}{H:List SObj}{K:Out->List SObj->Prop}{f:FuncId}{rest:List Operand}
theorem z7Y[Ghost]{o:Oper}{c:Call}{g x:Operand}{T:TypeId}{l:List SV}(u:o.op= .call c)(X:c.callee= .value g)(I:ev g= .raw (.func (.methodOf T nm) #[] #[]))
 (W:c.args.toList=x :: rest)(G:ev x= .agg l)(R:l[off]?=some s)(V:mofP P T nm=some (f,off))(h:VCallG P f (s :: rest.map ev) H K):OpV P o ev H K:=by
 intro E C r n a next Q O A B h1 h2
 have D:=B g (by grind [Op.operands,Call.operands]);have k:∀y∈x :: rest,y∈o.op.operands:=λy F=>by grind [Op.operands,Call.operands]
 have j:=B x (k x (by simp));rw [I,SV.den] at D;rw [G,SV.den] at j;obtain ⟨vs,j,S⟩:=j;obtain ⟨v,b,q,z,fs,N⟩:=j6k V S R C.w (P.types.size+Made.depth-1);have L:SV.denL C (rest.map ev) (rest.map a.eval):=q1V _ λy F=>B y (k y (by simp [F]));refine ⟨λf _=>q4g r f,?_⟩;rw [Oper.semAt_eq _ _ _ (by simp_all)];have m:c.args.map a.eval=(.agg vs.toArray :: rest.map a.eval).toArray:=by rw [<-Array.toList_inj];simp [W,j]
 have b:(execOp a.eval o).run P C.w= .ok (.enter f (v :: rest.map a.eval).toArray) C.w:=by
  have p:P.types.size+Made.depth=P.types.size+Made.depth-1+1:=by rfl
  rw [<-p] at b;simp [execOp,u,resolve,X,D,Deferred.ofValue,invoke,m,run_underlying' N,callMethod,b,q2n z,Result.andThen];grind [List.take_of_length_le]
 rw [b];refine ⟨(λp=>by cases p),q2S ?_⟩;refine (h E C _ O A (q0c.2 ⟨_,_,rfl,q,L⟩)).mono ?_;rintro e w' ⟨out,H',C',hk,rfl,hw',G,p⟩;cases out with
 |ret s=>obtain ⟨v,rfl,U⟩:=p;grind
 |pan s=>obtain ⟨v,rfl,U⟩:=p;grind
theorem callinv{op:Op}{f:Operand}{args:List Operand}(h:compOp P op=some (.call f args)):∃c:Call,op= .call c/\c.callee= .value f/\c.args.toList=args:=by
 unfold compOp at h;repeat' split at h
 all_goals first
  |contradiction
  | (simp only [Option.some.injEq,IOp.call.injEq] at h;obtain ⟨rfl,rfl⟩:=h;exact ⟨_,rfl,by assumption,rfl⟩)
  | (simp only [AL,Al,Option.some.injEq,reduceCtorEq,and_false,exists_false] at h;done)
  | (simp [AL] at h;done)
variable {d:Option Tmp}{l:List OpI}{td:List IT}
theorem z3s[Ghost]{g x:Operand}{T:TypeId}{cs b:List SV}(D:evT b g= .raw (.func (.methodOf T nm) #[] #[]))(E:evT b x= .agg cs)(A:cs[off]?=some s)(B:mofP P T nm=some (f,off))
 (h:CallI P AQ f (s :: rest.map (evT b)) d ⟨k0,.ops l :: td,b,H⟩):SoundI P AQ ⟨k0,.ops (⟨d,.call g (x :: rest),none⟩ :: l) :: td,b,H⟩:=q0d (λtd' u=>by
 obtain ⟨all,a,r,rfl,p,u⟩:=u;cases a with
 |nil=>exact p.elim
 |cons i a=>
  obtain ⟨⟨o,q,m⟩,p⟩:=p;obtain ⟨z,w⟩:=q0D m;simp only at z w;obtain ⟨c,v,e,C⟩:=callinv z;refine q4X (k0:=k0) (k:=r) q ((q0x m).1 rfl) ?_;refine z7Y v e D C E A B (h.2.mono λout H' y=> ?_);cases out with
  |ret s=>have j:SoundI P AQ ⟨k0,.ops l :: td,putT b d s,H'⟩:=y;rw [w] at j;exact q0e j ⟨all,a,r,rfl,p,u⟩
  |pan s=>exact y) rfl
def j7F{g:FG}{args:List SV}(h: @VCG (fgG g) P f args H K): @VCG (topG g []) P f args H K:=
 ⟨h.1,λE C vs k e q=>(h.2 E C vs k ⟨e.1,e.2.1⟩ q).mono λ_ _ ⟨o,H',C',j,m,p,a,u⟩=>
  ⟨o,H',C',j,m,p, @Stp.mk (topG g []) _ _ _ _ _ (@Stp.evo (fgG g) _ _ _ _ _ a) (@Stp.ext (fgG g) _ _ _ _ _ a) (λb=>
   have c:= @Stp.inv (fgG g) _ _ _ _ _ a ⟨b.1,b.2.1⟩
   ⟨c.1,c.2,b.2.2.1,λD v=>absurd v (by simp)⟩),u⟩⟩

theorem z1j:∀ (n t:Nat) (a:Array Value),∃xs:List UInt8,xs.length=n/\Extern.BytealgMakeNoZero.digits n t a=a++(xs.map λb=>Value.int .u8 b.toNat).toArray
 |0,_,a=>⟨[],rfl,by rfl⟩
 |n+1,t,a=>by
  obtain ⟨xs,c,h⟩:=z1j n (t / 256) (a.push (.int .u8 (Int.ofNat (t%256))));refine ⟨UInt8.ofNat (t%256) :: xs,by simp [c],?_⟩;have h9:(UInt8.ofNat (t%256)).toNat=t%256:=by simp
  grind [Extern.BytealgMakeNoZero.digits]
variable {n:Nat}
theorem j3X(w:World)(ps:Array TypeId){t e:TypeId}(ht:P.underlying t=some (.slice e))(hn:n<=140737488355328):
 ∃ (c:Nat) (xs rest:List UInt8),xs.length=n/\c=n+rest.length/\(Extern.BytealgMakeNoZero.makeNoZero ps #[t] #[.int .i64 n]).run P w= .ok (.slice (some ⟨w.heap.size,0,none⟩) n c) (w.drew.drew.alloc (.cells ((xs.map λb=>Value.int .u8 b.toNat)++(rest.map λb=>Value.int .u8 b.toNat)).toArray e)):=by
 have hdef:Extern.BytealgMakeNoZero.makeNoZero ps #[t] #[.int .i64 n]=
  (do
   let .slice elem<-underlying t|stuck "bytealg.MakeNoZero: slice type expected"
   if (n:Int) <0|| (n:Int) >2^ 48 then runtimePanic (.error "makeslice: len out of range")
   let cap<-choose (.appendCap (n:Int).toNat 0 elem)
   askRoom cap
   let bytes<-choose (.extern "internal/bytealg.MakeNoZero.bytes" 0)
   let a<-newRow elem (Extern.BytealgMakeNoZero.digits cap bytes #[])
   pure (.slice (some a) (n:Int).toNat cap)):=rfl
 have h1:¬(n:Int) <0:=by omega
 have h2:¬(281474976710656:Int) < (n:Int):=by omega
 obtain ⟨c,hc⟩:∃c,c=(Question.appendCap n 0 e).cut (w.tape w.drawn (.appendCap n 0 e)):=⟨_,rfl⟩;obtain ⟨xs,hl,hd⟩:=z1j c ((Question.extern "internal/bytealg.MakeNoZero.bytes" 0).cut (w.tape (w.drawn+1) (.extern "internal/bytealg.MakeNoZero.bytes" 0))) #[];have hge:n<=c:=by grind [Question.cut]
 refine ⟨c,xs.take n,xs.drop n,by simp_all,by simp_all,?_⟩
 simp_all [run_underlying',Question.forced,newRow]
variable {ps:Array TypeId}{fn:Func}
theorem j5t[Ghost]{o:Oper}{c:Call}{g x:Operand}{t e:TypeId}(j:o.op= .call c)(V:c.callee= .value g)(D:ev g= .fn f [] [])(z:c.args.toList= [x])(Q:ev x= .raw (.int .i64 n))
 (O:P.funcs[f]?=some fn)(a:(fn.name== "runtime.NumGoroutine")=false)(B:fn.body.isNone=true)(R:Extern.findNext fn=none)(S:Extern.find fn=some (Extern.BytealgMakeNoZero.makeNoZero ps #[t]))(A:P.underlying t=some (.slice e))
 (q:n<=140737488355328)(E:∀xs:List UInt8,xs.length=n->K (.ret (.bld H.length .u8 n)) (H++ [.row .u8 xs])):OpV P o ev H K:=by
 refine q0L (by simp_all) λC G N y=> ?_;have m:=y g (by grind [Op.operands,Call.operands]);have u:=y x (by rw [j];simp [Op.operands,Call.operands];exact .inr (by rw [<-Array.mem_toList_iff,z];simp));rw [D,SV.den] at m;rw [Q,SV.den] at u;obtain ⟨v1,v2,m,d1,d2⟩:=m;rw [q0y] at d1 d2;subst d1 d2;obtain ⟨U,xs,rest,v,hcp,k⟩:=j3X (P:=P) C.w ps A q;have p:Wd C.drew.drew H:=q2e (q2e N);obtain ⟨F,W,L⟩:=q3E (T:=e) (rest:=rest.map λb=>Value.int .u8 b.toNat) p (n:=n) (c:=U) (q4a C.drew.drew.I C.drew.drew.w xs) v.symm (by omega) (by grind [Ty.size]);refine ⟨_,_,_,_,E xs v,.inl ?_,F,((q1r C H).trans (q1r C.drew H)).trans W,L⟩;have h:c.args.map G= #[.int .i64 n]:=by rw [<-Array.toList_inj];simp [z,u]
 simp [execOp,j,resolve,V,m,Deferred.ofValue,invoke,h,run_callFunc_extern O a B R S,k,Result.andThen];exact ⟨rfl,rfl⟩
theorem j6I[Ghost]{x:Operand}{t e:TypeId}{w:List SV}(F:evT w x= .raw (.int .i64 n))
 (D:P.funcs[f]?=some fn)(b:(fn.name== "runtime.NumGoroutine")=false)(C:fn.body.isNone=true)(G:Extern.findNext fn=none)(I:Extern.find fn=some (Extern.BytealgMakeNoZero.makeNoZero ps #[t]))(B:P.underlying t=some (.slice e))
 (y:n<=140737488355328)(h:∀xs:List UInt8,xs.length=n->SoundI P AQ ⟨k0,.ops l :: td,putT w d (.bld H.length .u8 n),H++ [.row .u8 xs]⟩):SoundI P AQ ⟨k0,.ops (⟨d,.call (.func f) [x],none⟩ :: l) :: td,w,H⟩:=q0d (λtd' v=>by
 obtain ⟨all,a,r,rfl,p,v⟩:=v;cases a with
 |nil=>exact p.elim
 |cons i a=>
  obtain ⟨⟨o,u,m⟩,p⟩:=p;obtain ⟨A,z⟩:=q0D m;simp only at A z;obtain ⟨c,q,j,L⟩:=callinv A;refine q4X (k0:=k0) (k:=r) u ((q0x m).1 rfl) ?_;refine j5t q j rfl L F D b C G I B y λxs E=> ?_;have hK':=h xs E;rw [z] at hK'
  exact q0e hK' ⟨all,a,r,rfl,p,v⟩) rfl
end Go.Sx
namespace Go.Proofs.YthbcodbcndiapaaGreatDoor
open Go Go.Sx Go.Proofs
set_option maxRecDepth 100000
set_option maxHeartbeats 40000000
def modS(key iv:List UInt8):List SV:=[.iptr CipT (cipS key) 0,.isl .u8 iv]
theorem z6K(l:List UInt8)(hl:l.length<=140737488355328):VC Tryz.prog 105 [.isl .u8 l] [] (RowK .u8 l):=by refine q7A ?_;refine rQ fi105 ?_;intro b a;refine ⟨λh=>q6z (a h),λh=>⟨⟨by omega,by omega⟩,?_⟩⟩;exact q6B (h:=1) rfl (by omega)
theorem q9A(key iv:List UInt8)(a:key.length=16)(hi:iv.length=16):PC Tryz.prog 241 [.isl .u8 key,.isl .u8 iv] (.tup [.agg (modS key iv),rI 0]):=by have b:(((iv.length:Nat):Int)=16)=True:=eq_true (by omega);have c:=j7U key a;unfold modS;generalize cipS key=cp at*;refine q0s rfl rfl ?_;refine ry1 fi241 b ?_;refine cQ c ?_;refine cQ (q1C iv (by omega)) ?_;trivial
theorem z3B(b:List UInt8)(h1:16<=b.length)(h2:b.length<=131072):PC Tryz.prog 242 [.isl .u8 b] (rI 0):=by have c:(((b.length:Nat):Int) <16)=False:=eq_false (by omega);have a:((131072:Int) < ((b.length:Nat):Int))=False:=eq_false (by omega);refine q0s rfl rfl ?_;refine ry2 fi242 c a ?_;trivial
def q7r(a b:List UInt8)(e:a.length=16)(u:b.length=16):PC Tryz.prog 250 [.isl .u8 a,.isl .u8 b] (.isl .u8 (xorS a b)):=by
 refine q0l rfl rfl ?_;refine rQ fi250 ?_;refine q8X (z6K a (by omega)) rfl rfl (λh=>by rw [h] at e;cases e) ?_;refine gQ ?_;refine q0p (ι:=Nat) (λi=>[(11,rI i)]) (λi=>[.row .u8 (gP a (λj=>a.getD j 0^^^ b.getD j 0) i)]) (λi=>16-i) (λi=>i<=16) 0 (Ai _) (by rw [q5F _ e];first|done|rfl) ?_ λi hi=> ?_
 . with_reducible refine sxE ?_;trivial
 have m:=wsx i (by omega);have p:=q7R a (λj=>a.getD j 0^^^ b.getD j 0) i;by_cases c:i<16
 . have k:((i:Int) < ((16:Nat):Int))=True:=eq_true (by omega);refine uQ 600 _ ?_;have o:(gP a (λj=>a.getD j 0^^^ b.getD j 0) i).getD i Ty.u8.dflt=a.getD i 0:=z4H _ _ c (Ac _);have q:b.getD i Ty.u8.dflt=b.getD i 0:=rfl;simp (maxSteps:=3000000) only [k,p,e,u,AO,Ag,o,q,xor8,Av,AN,go_sem,↓zA,↓reduceIte,↓reduceDIte] <;>try simp only [zB]
   refine ⟨⟨by omega,c⟩,c,⟨by omega,c⟩,⟨by omega,c⟩,c,i+1,c,by show 16- (i+1) <16-i;omega,?_,?_⟩
   . dsimp only;rw [<-q8W a (λj=>a.getD j 0^^^ b.getD j 0) c]
   with_reducible refine sx1 m ?_;trivial
 obtain rfl:i=16:=by omega
 rw [q8L];refine uQ 600 _ ?_;have k:(((16:Nat):Int) < ((a.length:Nat):Int))=False:=eq_false (by omega);simp (maxSteps:=3000000) only [k,go_sem,↓zA,↓reduceIte,↓reduceDIte] <;>try simp only [zB]
 exact ⟨⟨by rw [e,q2c];decide,by rw [q2c];decide⟩,Aa (by rw [q2c];omega)⟩
theorem z6m(key iv b:List UInt8)(e:key.length=16)(h:b.length=16):PC Tryz.prog 248 [.agg (modS key iv),.raw (.func (.methodOf 256 "Encrypt") #[] #[]),.isl .u8 b] (.isl .u8 (encS (wordsS key) b)):=by
 have c:=z5H key b e h;unfold modS;generalize cipS key=a at*;refine q0s rfl rfl ?_;refine q1Q fi248 ?_;refine uQ 10 _ ?_;with_reducible refine sxE ?_
 refine z3s (cs:=[.iptr CipT a 0,.isl .u8 iv]) (s:=.iptr CipT a 0) rfl rfl rfl (show mofP Tryz.prog 256 "Encrypt" =some (264,0) by kernel_rfl) ?_;refine cQ c ?_;trivial
theorem z0B(key iv b:List UInt8)(e:key.length=16)(h:b.length=16):PC Tryz.prog 248 [.agg (modS key iv),.raw (.func (.methodOf 256 "Decrypt") #[] #[]),.isl .u8 b] (.isl .u8 (decS (wordsS key) b)):=by
 have c:=z5d key b e h;unfold modS;generalize cipS key=a at*;refine q0s rfl rfl ?_;refine q1Q fi248 ?_;refine uQ 10 _ ?_;with_reducible refine sxE ?_
 refine z3s (cs:=[.iptr CipT a 0,.isl .u8 iv]) (s:=.iptr CipT a 0) rfl rfl rfl (show mofP Tryz.prog 256 "Decrypt" =some (249,0) by kernel_rfl) ?_;refine cQ c ?_;trivial
def blkC(p:List UInt8)(i:Nat):List UInt8:=((p.take (16*i+16)).drop (16*i))++List.replicate (16*i+16-p.length) 0
def nblk(n:Nat):Nat:=(n+15) / 16
variable {i:Nat}
def q3T(p:List UInt8)(a:i<nblk p.length):(blkC p i).length=16:=by unfold nblk at a;unfold blkC;rw [Ab,Ah,An,BG];omega
def q2Y(p:List UInt8)(h:16*i+16<=p.length):blkC p i=(p.take (16*i+16)).drop (16*i):=by unfold blkC;rw [show 16*i+16-p.length=0 by omega,List.replicate_zero,Ad]
def q7x(p:List UInt8)(h:p.length<16*i+16)(h':16*i<=p.length):blkC p i=(p.take p.length).drop (16*i)++List.replicate (16- (p.length-16*i)) 0:=by unfold blkC;rw [Aa (Nat.le_of_lt h),Aa (Ac _),show 16*i+16-p.length=16- (p.length-16*i) by omega]
abbrev cutF(p:List UInt8):SV:=.fn 265 [] [.iptr (.slice .u8) p 0]
theorem j2T(p:List UInt8)(a:p.length<=1125899906842624):PC Tryz.prog 244 [.isl .u8 p] (cutF p):=by
 refine q0s rfl rfl ?_;refine q1Q fi244 ?_;refine uQ 4 _ ?_;with_reducible refine sxE ?_
 refine q1N 1 0 (ty:=.slice .u8) (x:=p) rfl ⟨a,λ_ _=>trivial⟩ rfl rfl ?_;refine gQ ?_;trivial
def vwC(p:List UInt8):Nat->Nat->List SV->List SObj->Prop:=λi _ args' new=>args'= [.isl .u8 (blkC p i)]/\new= []
theorem j8f(p:List UInt8)(hp:p.length<=131072):Iter Tryz.prog 265 [] [.iptr (.slice .u8) p 0] (nblk p.length) (vwC p):=by
 refine ⟨by kernel_rfl,λl B J h q=> ?_⟩;refine (q1D (yFG h) fi265 ?_).2;letI:Ghost:=topG (yFG h) [];refine gQ ?_;refine q9O [] (λi=>i) (λi=>[(3,rI ((16*i:Nat):Int))]) (nblk p.length) (λ_=>True) trivial rfl (by simp) (by simp [SV.bel]) ?_ λi hi _=> ?_
 . with_reducible refine sxE ?_;trivial
 by_cases a:i<nblk p.length
 . have hn:nblk p.length=(p.length+15) / 16:=rfl;have e:(((16*i:Nat):Int) < ((p.length:Nat):Int))=True:=eq_true (by omega);have j:IntKind.i64.wrap (((16*i:Nat):Int)+16)=((16*i+16:Nat):Int):=by rw [wrapi (by omega)];omega
   have u:((16* (i+1):Nat):Int)=((16*i+16:Nat):Int):=by omega
   by_cases w:16*i+16<=p.length
   . have b:=q2Y p w;have hbl:=q3T p a;have k:mxV false ((16*i+16:Nat):Int) ((p.length:Nat):Int)=((16*i+16:Nat):Int):=by unfold mxV;simp;omega
     have o:(((blkC p i).length:Int) <16)=False:=eq_false (by omega);refine uQ 600 _ ?_;simp (maxSteps:=3000000) only [e,o,j,k,<-b,Av,go_sem,↓zA,↓reduceIte,↓reduceDIte] <;>try simp only [zB]
     refine ⟨⟨by omega,by omega,by omega,by omega⟩,q1K [] h q a (λn=>⟨_,_,⟨rfl,rfl⟩,q0M rfl⟩) λc=> ?_⟩;cases c
     . refine gQ ?_;exact ⟨_,_,rfl,rfl,by omega⟩
     refine uQ 600 _ ?_;simp (maxSteps:=3000000) only [j,go_sem,↓zA,↓reduceIte,↓reduceDIte] <;>try simp only [zB]
     refine ⟨a,trivial,⟨[],rfl⟩,?_⟩;simp (maxSteps:=3000000) only [u,go_sem,↓zA,↓reduceIte,↓reduceDIte] <;>try simp only [zB]
   have b:=q7x p (i:=i) (by omega) (by omega);have x:((p.take p.length).drop (16*i)).length=p.length-16*i:=by rw [Ah,An];omega
   have k:mxV false ((16*i+16:Nat):Int) ((p.length:Nat):Int)=((p.length:Nat):Int):=by unfold mxV;simp;omega
   generalize m:(p.take p.length).drop (16*i)=r at b x;have o:((r.length:Int) <16)=True:=eq_true (by omega);have y:IntKind.i64.wrap (16- (r.length:Int))=((16- (p.length-16*i):Nat):Int):=by rw [wrapi (by omega)];omega
   have v:Ty.u8.dflt=(0:UInt8):=rfl;refine uQ 600 _ ?_;simp (maxSteps:=3000000) only [e,o,j,k,y,v,m,Av,<-b,go_sem,↓zA,↓reduceIte,↓reduceDIte] <;>try simp only [zB]
   refine ⟨⟨by omega,by omega,Ac _⟩,⟨by omega,by omega,by omega⟩,q1K [] h q a (λn=>⟨_,_,⟨rfl,rfl⟩,q0M rfl⟩) λc=> ?_⟩;cases c
   . refine gQ ?_;exact ⟨_,_,rfl,rfl,by omega⟩
   refine uQ 600 _ ?_;simp (maxSteps:=3000000) only [j,go_sem,↓zA,↓reduceIte,↓reduceDIte] <;>try simp only [zB]
   refine ⟨a,trivial,⟨[],rfl⟩,?_⟩;simp (maxSteps:=3000000) only [u,go_sem,↓zA,↓reduceIte,↓reduceDIte] <;>try simp only [zB]
 obtain rfl:i=nblk p.length:=by omega
 have e:(((16*nblk p.length:Nat):Int) < ((p.length:Nat):Int))=False:=eq_false (by unfold nblk;omega);refine gy1 e ?_;exact ⟨_,_,rfl,rfl,Ac _⟩
abbrev ModT:Ty:=.prod (.ptr CipT) (.slice .u8)
abbrev chnF(key iv p:List UInt8):SV:=.fn 262 [] [.iptr (.int .i64) 0 0,.iptr (.clp 265 (.slice .u8)) p 0,.iptr ModT (some (cipS key),iv) 0]
theorem j1x(key iv p:List UInt8)(b:key.length=16)(j:iv.length=16)(hp:p.length<=131072):PC Tryz.prog 243 [.isl .u8 key,.isl .u8 iv,cutF p] (chnF key iv p):=by
 have c:=q9A key iv b j;have a:=j2E key b;unfold modS at c;unfold chnF;generalize cipS key=e at*;refine q0s rfl rfl ?_;refine q1Q fi243 ?_;refine gQ ?_;refine q0b c ?_;refine uQ 9 _ ?_;with_reducible refine sxE ?_
 refine q1N 5 0 (ty:=.clp 265 (.slice .u8)) (x:=p) rfl ⟨by omega,λ_ _=>trivial⟩ rfl rfl ?_;refine q1N 7 1 (ty:=ModT) (x:=(some e,iv)) rfl ⟨λy h=>by cases h;exact a,by show iv.length<=_;omega,λ_ _=>trivial⟩ rfl rfl ?_;refine q1N 8 2 (ty:=.int .i64) (x:=0) rfl trivial rfl rfl ?_;refine gQ ?_;trivial
def cpre(key iv p:List UInt8):Nat->List UInt8
 |0=>iv
 |n+1=>encS (wordsS key) (xorS (cpre key iv p n) (blkC p n))
def z3U(key iv p:List UInt8)(hi:iv.length=16):∀n,(cpre key iv p n).length=16
 |0=>hi
 |_+1=>q4Y _ _
def vwH(key iv p:List UInt8):Nat->Nat->List SV->List SObj->Prop:=λi _ args' new=>args'= [.isl .u8 (cpre key iv p (i+1))]/\new= []
abbrev yC(l:Nat):SV:=.raw (.func (.yield l) #[] #[])
variable {J:Nat->(Nat->Prop)->World->(Nat->Prop)->Prop}
theorem z8f{l B N:Nat}(h:FJ B J){p:Nat->Nat->List SV->List SObj->Prop}(z:YG Tryz.prog l B N J p)(A:i<N)(key iv a c:List UInt8)(u:key.length=16)(w:a.length=16)(q:c.length=16)
 (j:∀n,p i n [.isl .u8 (encS (wordsS key) (xorS a c))] [])(G:List SObj): @VCG (fgG (yFG h)) Tryz.prog 263 [.isl .u8 c,.ptr 3 0,.iptr ModT (some (cipS key),iv) 0,.ptr 2 0,.ptr 1 0]
  (.mark i :: .cells 281 [yC l] :: .cells 25 [.isl .u8 a] :: .cells 4 [.raw (.bool false)] :: G)
  (λo H'=>∃b:Bool,o= .ret (.raw (.bool b))/\∃G',H'= .mark (if b then i+1 else N+1+i) :: .cells 281 [yC l] :: .cells 25 [.isl .u8 (encS (wordsS key) (xorS a c))] :: .cells 4 [.raw (.bool (!b))] :: (G++G')):=by
 refine q1D (yFG h) fi263 ?_;letI:Ghost:=topG (yFG h) [];have k:=q7r a c w q;have e:=z6m key iv (xorS a c) u (q2h _ _);have hel:=q4Y (wordsS key) (xorS a c);unfold modS at e;generalize cipS key=cp at*;generalize hy:encS (wordsS key) (xorS a c)=y at*;generalize xorS a c=x at*;have m:=q1C y (by omega);have v:(((16:Nat):Int)=16)=True:=eq_true rfl;refine uQ 17 _ ?_;with_reducible refine sy2 q v ?_
 refine q1l [2] mixed ?_;refine gQ ?_;refine cR k ?_;refine q0g e ?_;refine uQ 3 _ ?_;with_reducible refine sxE ?_
 refine q1l [1,2] mixed ?_;refine gQ ?_;refine cR m ?_;refine j0u (.cells 281 [yC l] :: .cells 25 [.isl .u8 y] :: .cells 4 [.raw (.bool false)] :: G) h z A (λn=>⟨_,_,j n,q0M rfl⟩) λb=>⟨λ_=> ?_,?_⟩
 . simp [q0u,q0A]
 cases b
 . refine gQ ?_;exact ⟨[],by rw [Ad]⟩
 refine gQ ?_;exact ⟨[],by rw [Ad]⟩
variable {P:Program}{AQ:Ex->List SV->List SObj->Prop}{td:List IT}{t:List SV}{f:FuncId}{args:List SV}
theorem q9i{k0:Nat}{d:Option Tmp}{g:FG}{H:List SObj}{K:Out->List SObj->Prop}(h: @VCG (fgG g) P f args H K)
 (b:∀o H',K o H'->∃s,o= .ret s/\ @SoundI (topG g []) P AQ ⟨k0,td,putT t d s,H'⟩): @CallI (topG g []) P AQ f args d ⟨k0,td,t,H⟩:=
 have h':=j7F h
 ⟨h'.1, @VCallG.mono (topG g []) P f args H K _ h'.2 λo H' a=>by obtain ⟨s,rfl,c⟩:=b o H' a;exact c⟩
def chH(l:Nat)(m:Nat)(pv:List UInt8)(b:Bool)(G:List SObj):List SObj:=.mark m :: .cells 281 [yC l] :: .cells 25 [.isl .u8 pv] :: .cells 4 [.raw (.bool b)] :: G
theorem j3l{l B:Nat}(u:FJ B J)(key iv p:List UInt8)(N:key.length=16)(D:iv.length=16)(hp:p.length<=131072)(R:YG Tryz.prog l B (nblk p.length) J (vwH key iv p)):
 @VCG (fgG (yFG u)) Tryz.prog 265 [.fn 263 [] [.ptr 3 0,.iptr ModT (some (cipS key),iv) 0,.ptr 2 0,.ptr 1 0],.iptr (.slice .u8) p 0]
  (chH l 0 iv false []) (λo H'=>o= .ret (.tup [])/\∃m F b G,nblk p.length<=m/\H'=chH l m F b G):=by
 refine q1D (yFG u) fi265 ?_;letI:Ghost:=topG (yFG u) [];refine gQ ?_;refine q0p (ι:=Nat×List SObj) (λs=>[(3,rI ((16*s.1:Nat):Int))]) (λs=>chH l s.1 (cpre key iv p s.1) false s.2) (λs=>nblk p.length-s.1) (λs=>s.1<=nblk p.length) (0,[]) (Ai _) rfl ?_ ?_
 . with_reducible refine sxE ?_;trivial
 rintro ⟨i,G⟩ S;dsimp only at S;have x:=z3U key iv p D i;have hn:nblk p.length=(p.length+15) / 16:=rfl;by_cases a:i<nblk p.length
 . have q:(((16*i:Nat):Int) < ((p.length:Nat):Int))=True:=eq_true (by omega);have v:IntKind.i64.wrap (((16*i:Nat):Int)+16)=((16*i+16:Nat):Int):=by rw [wrapi (by omega)];omega
   have I:((16* (i+1):Nat):Int)=((16*i+16:Nat):Int):=by omega
   have w:=q3T p a;have c:=z8f u R a key iv (cpre key iv p i) (blkC p i) N x w (λn=>⟨rfl,rfl⟩) G;have h:cpre key iv p (i+1)=encS (wordsS key) (xorS (cpre key iv p i) (blkC p i)):=rfl;rw [<-h] at c;clear h;generalize j:cpre key iv p (i+1)=y at c;generalize e:cpre key iv p i=F at*;unfold chH;by_cases O:16*i+16<=p.length
   . have k:=q2Y p O;have A:mxV false ((16*i+16:Nat):Int) ((p.length:Nat):Int)=((16*i+16:Nat):Int):=by unfold mxV;simp;omega
     have E:(((blkC p i).length:Int) <16)=False:=eq_false (by omega);refine uQ 600 _ ?_;simp (maxSteps:=3000000) only [q,E,v,A,<-k,Av,e,go_sem,↓zA,↓reduceIte,↓reduceDIte] <;>try simp only [zB]
     refine ⟨⟨by omega,by omega,by omega,by omega⟩,q9i c λo H' z=> ?_⟩;obtain ⟨b,rfl,G',rfl⟩:=z;refine ⟨_,rfl,?_⟩;cases b
     . simp only [reduceCtorEq,AS,if_false,if_true,CC,CJ];refine gQ ?_;exact ⟨_,_,_,_,by omega,rfl⟩
     simp only [reduceCtorEq,AS,if_false,if_true,CC,CJ];refine gy1 v ?_;refine ⟨(i+1,G++G'),a,by dsimp only;omega,?_,?_⟩
     . dsimp only;rw [j]
     simp (maxSteps:=3000000) only [I,go_sem,↓zA,↓reduceIte,↓reduceDIte] <;>try simp only [zB]
   have k:=q7x p (i:=i) (by omega) (by omega);have Q:((p.take p.length).drop (16*i)).length=p.length-16*i:=by rw [Ah,An];omega
   have A:mxV false ((16*i+16:Nat):Int) ((p.length:Nat):Int)=((p.length:Nat):Int):=by unfold mxV;simp;omega
   generalize C:(p.take p.length).drop (16*i)=r at k Q;have E:((r.length:Int) <16)=True:=eq_true (by omega);have U:IntKind.i64.wrap (16- (r.length:Int))=((16- (p.length-16*i):Nat):Int):=by rw [wrapi (by omega)];omega
   have L:Ty.u8.dflt=(0:UInt8):=rfl;refine uQ 600 _ ?_;simp (maxSteps:=3000000) only [q,E,v,A,U,L,C,Av,<-k,e,go_sem,↓zA,↓reduceIte,↓reduceDIte] <;>try simp only [zB]
   refine ⟨⟨by omega,by omega,Ac _⟩,⟨by omega,by omega,by omega⟩,q9i c λo H' z=> ?_⟩;obtain ⟨b,rfl,G',rfl⟩:=z;refine ⟨_,rfl,?_⟩;cases b
   . simp only [reduceCtorEq,AS,if_false,if_true,CC,CJ];refine gQ ?_;exact ⟨_,_,_,_,by omega,rfl⟩
   simp only [reduceCtorEq,AS,if_false,if_true,CC,CJ];refine gy1 v ?_;refine ⟨(i+1,G++G'),a,by dsimp only;omega,?_,?_⟩
   . dsimp only;rw [j]
   simp (maxSteps:=3000000) only [I,go_sem,↓zA,↓reduceIte,↓reduceDIte] <;>try simp only [zB]
 obtain rfl:i=nblk p.length:=by omega
 have q:(((16*nblk p.length:Nat):Int) < ((p.length:Nat):Int))=False:=eq_false (by omega);unfold chH;refine gy1 q ?_;exact ⟨_,_,_,_,Ac _,rfl⟩
theorem j0a(key iv p:List UInt8)(k:key.length=16)(e:iv.length=16)(h:p.length<=131072):Iter Tryz.prog 262 [] [.iptr (.int .i64) 0 0,.iptr (.clp 265 (.slice .u8)) p 0,.iptr ModT (some (cipS key),iv) 0] (nblk p.length) (vwH key iv p):=by refine ⟨by kernel_rfl,λl B J c u=> ?_⟩;refine (q1D (yFG c) fi262 ?_).2;letI:Ghost:=topG (yFG c) [];have a:=j3l c key iv p k e h u;unfold chH at a;refine gQ ?_;refine q9i a λo H' q=> ?_;obtain ⟨rfl,m,pv,b,G,j,rfl⟩:=q;refine ⟨_,rfl,?_⟩;refine gQ ?_;exact ⟨_,_,rfl,rfl,j⟩
def swpS(bs:List (List UInt8)):List (List UInt8):=(bs.set (bs.length-2) (bs.getD (bs.length-1) [])).set (bs.length-1) (bs.getD (bs.length-2) [])
def exgS(bs:List (List UInt8)):List (List UInt8):=if 1<bs.length then swpS bs else bs
def j7D(bs:List (List UInt8))(hl:bs.length<=1000000):PE Tryz.prog 245 [.ptr 0 0] [.cells 65 [.bld 1 (.slice .u8) bs.length],.row (.slice .u8) bs] (.ret (.tup [])) [.cells 65 [.bld 1 (.slice .u8) bs.length],.row (.slice .u8) (exgS bs)]:=by
 refine q0a (Ac _) ?_;refine q1Q fi245 ?_;by_cases h:1<bs.length
 . have a:((1:Int) < ((bs.length:Nat):Int))=True:=eq_true (by omega);have b:IntKind.i64.wrap (((bs.length:Nat):Int) -1)=((bs.length-1:Nat):Int):=by rw [wrapi (by omega)];omega
   have e:IntKind.i64.wrap (((bs.length:Nat):Int) -2)=((bs.length-2:Nat):Int):=by rw [wrapi (by omega)];omega
   refine uQ 12 _ ?_;simp (maxSteps:=3000000) only [a,go_sem,↓zA,↓reduceIte,↓reduceDIte] <;>try simp only [zB]
   refine q1l [1,999999,0] mixed ?_;refine gy2 b e ?_;refine ⟨⟨by omega,by omega⟩,by omega,⟨by omega,by omega⟩,by omega,⟨by omega,by omega⟩,by omega,⟨by omega,by omega⟩,by rw [A9];omega,?_⟩;unfold exgS swpS;rw [if_pos h];simp only [Ag];first|done|rfl
 have a:((1:Int) < ((bs.length:Nat):Int))=False:=eq_false (by omega);have c:exgS bs=bs:=if_neg h;rw [c];refine gy1 a ?_;trivial
def z8d(a b:List UInt8):xorS a b=xorS b a:=by unfold xorS;exact q2G λj _=>UInt8.xor_comm _ _
def z8r(n:Nat):n+zpN n=16*nblk n:=by unfold zpN nblk;omega
def j6n(p:List UInt8)(hi:i<nblk p.length):blkC p i=((zpL p (zpN p.length)).take (16*i+16)).drop (16*i):=by
 have hz:=z8r p.length;have hn:nblk p.length=(p.length+15) / 16:=rfl;unfold zpL;by_cases h:16*i+16<=p.length
 . rw [q2Y p h,Bv h]
 rw [q7x p (by omega) (by omega),Ck,Aa (show p.length<=16*i+16 by omega),Aa (Ac p.length),Bu (by omega),List.take_replicate,
  show min (16*i+16-p.length) (zpN p.length)=16- (p.length-16*i) by omega]
def cbl(key iv p:List UInt8)(n:Nat):List (List UInt8):=(List.range n).map λi=>cpre key iv p (i+1)
def z3N(key iv p:List UInt8):∀n,n<=nblk p.length->chA (wordsS key) iv (zpL p (zpN p.length)) n=(cpre key iv p n,(cbl key iv p n).flatten)
 |0,_=>rfl
 |n+1,h=>by
  have b:=j6n p (i:=n) (by omega);have a:encS (wordsS key) (xorS (((zpL p (zpN p.length)).take (16*n+16)).drop (16*n)) (cpre key iv p n))=cpre key iv p (n+1):=by rw [<-b,z8d];rfl
  rw [chA,z3N key iv p n (by omega)];dsimp only;rw [a];unfold cbl;rw [BI,Bn,BC];simp
def z5M(key iv p:List UInt8):chainS key iv (zpL p (zpN p.length))=(cbl key iv p (nblk p.length)).flatten:=by unfold chainS;rw [z2D,z8r,BP _ (by decide),z3N key iv p _ (Ac _)]
def flat16:∀ (a:List (List UInt8)),(∀b∈a,b.length=16)->a.flatten.length=16*a.length
 | [],_=>rfl
 |b :: a,h=>by rw [A6,Ab,flat16 a (λx c=>h x (AH _ c)),h b Bi,AB];omega
def j5R(l:List (List UInt8))(x y:List UInt8):swpS (l++ [x,y])=l++ [y,x]:=by
 unfold swpS;have a:(l++ [x,y]).length=l.length+2:=by simp
 rw [a,show l.length+2-2=l.length by omega,show l.length+2-1=l.length+1 by omega];have c:(l++ [x,y]).getD (l.length+1) []=y:=by simp [Ae]
 have b:(l++ [x,y]).getD l.length []=x:=by simp [Ae]
 rw [c,b];simp [List.set_append]
theorem j1B(a:List (List UInt8))(h:∀b∈a,b.length=16)(q:2<=a.length):(exgS a).flatten=exchS a.flatten:=by
 obtain ⟨l,x,y,rfl⟩:∃l x y,a=l++ [x,y]:=by
  refine ⟨a.take (a.length-2),a[a.length-2],a[a.length-1],?_⟩;apply Aq
  . simp;omega
  intro j h1 q;simp only [List.getElem_append,An];split
  . simp
  rename_i hj;have:j=a.length-2\/j=a.length-1:=by omega
  rcases this with rfl|rfl
  . simp [show min (a.length-2) a.length=a.length-2 by omega]
  simp [show min (a.length-2) a.length=a.length-2 by omega,show a.length-1- (a.length-2)=1 by omega]
 have e:x.length=16:=h x (by simp);have u:y.length=16:=h y (by simp);have hl:=flat16 l λb v=>h b (by simp [v]);unfold exgS;rw [if_pos (by simp),j5R];have o:(l++ [x,y]).flatten=l.flatten++(x++y):=by simp
 have w:(l++ [y,x]).flatten=l.flatten++(y++x):=by simp
 rw [o,w];unfold exchS;have c:(l.flatten++(x++y)).length=l.flatten.length+32:=by simp [e,u]
 rw [c,show l.flatten.length+32-32=l.flatten.length by omega,show l.flatten.length+32-16=l.flatten.length+16 by omega];have p:(l.flatten++(x++y)).take l.flatten.length=l.flatten:=BQ ..;have k:(l.flatten++(x++y)).drop (l.flatten.length+16)=y:=by rw [<-List.append_assoc,Bu (by simp [e])];simp [e]
 have m:((l.flatten++(x++y)).take (l.flatten.length+16)).drop l.flatten.length=x:=by rw [<-List.append_assoc,Bv (by simp [e]),Aa (by simp [e])];simp
 rw [p,k,m,List.append_assoc]
def z7J(key iv p:List UInt8)(hiv:iv.length=16)(h1:16<=p.length):(exgS (cbl key iv p (nblk p.length))).flatten.take p.length=ctsE key iv p:=by
 have a:∀b∈cbl key iv p (nblk p.length),b.length=16:=by intro b a;unfold cbl at a;obtain ⟨i,_,rfl⟩:=BZ.1 a;exact q4Y _ _
 have hl:(cbl key iv p (nblk p.length)).length=nblk p.length:=by simp [cbl]
 have hn:nblk p.length=(p.length+15) / 16:=rfl;have hf:=flat16 _ a;unfold ctsE;rw [z5M];dsimp only;by_cases h2:2<=nblk p.length
 . rw [if_neg (by omega),j1B _ a (by omega)]
 have h3:p.length=16:=by omega
 have c:exgS (cbl key iv p (nblk p.length))=cbl key iv p (nblk p.length):=if_neg (by omega);rw [if_pos (by omega),c,Aa (by omega)]
def flN(bs:List (List UInt8))(i:Nat):Nat:=(bs.take i).flatten.length
def j1V(a:List (List UInt8))(h:i<a.length):flN a (i+1)=flN a i+ (a.getD i []).length:=by unfold flN;rw [CG,Af h,BC,Ab,Ae,Af h];simp
def j7V(a:List (List UInt8))(i:Nat):flN a i<=a.flatten.length:=by
 unfold flN
 conv=>rhs;rw [<-AA i a,BC,Ab]
 omega
theorem j6O(a:List (List UInt8))(L:2<=a.length)(j:∀b∈a,b.length=16)(Z:a.length<=1000000)(hf:a.flatten.length<=1000000):PC Tryz.prog 246 [.isl (.slice .u8) a,.raw (.slice none 0 0)] (.isl .u8 a.flatten):=by
 have S:(((a.length:Nat):Int)=0)=False:=eq_false (by omega);have f2:(((a.length:Nat):Int)=1)=False:=eq_false (by omega);refine q0l rfl rfl ?_;refine q1Q fi246 ?_;refine gy2 S f2 ?_;refine q0p (ι:=Nat) (λi=>[(5,rI (flN a i)),(44,rI i)]) (λ_=>[]) (λi=>a.length-i) (λi=>i<=a.length) 0 (Ai _) rfl ?_ λi D=> ?_
 . with_reducible refine sxE ?_
   rfl
 have m:=wsx i (by omega);by_cases c:i<a.length
 . have z:((i:Int) < ((a.length:Nat):Int))=True:=eq_true (by omega);have hs:=j1V a c;have hle:=j7V a (i+1);have e1:IntKind.i64.wrap (9223372036854775807- ((flN a i:Nat):Int))=((9223372036854775807-flN a i:Nat):Int):=by rw [wrapi (by omega)];omega
   have X:IntKind.i64.wrap (((flN a i:Nat):Int)+ (((a.getD i []).length:Nat):Int))=((flN a (i+1):Nat):Int):=by rw [wrapi (by omega)];omega
   have Q:(((9223372036854775807-flN a i:Nat):Int) < (((a.getD i []).length:Nat):Int))=False:=eq_false (by omega);have u:(Ty.slice .u8).dflt=([]:List UInt8):=rfl;refine gy8 z u e1 X Q Ag Av Av ?_;refine ⟨⟨by omega,c⟩,i+1,c,by dsimp only;omega,rfl,?_⟩;with_reducible refine sx1 m ?_;trivial
 obtain rfl:i=a.length:=by omega
 have z:(((a.length:Nat):Int) < ((a.length:Nat):Int))=False:=eq_false (by omega);have B:flN a a.length=a.flatten.length:=by unfold flN;rw [Aw]
 refine uQ 10 _ ?_;with_reducible refine sy2 z B ?_
 have p:(Tryz.prog.funcs[(266:Nat)]?).isSome=true:=by kernel_rfl
 refine j6I (fn:=Option.get _ p) (ps:= #[3]) (t:=25) (e:=5) (n:=a.flatten.length) rfl (Option.some_get p).symm (by kernel_rfl) (by kernel_rfl) (by kernel_rfl) (by kernel_rfl) (by kernel_rfl) (by omega) λxs k=> ?_;obtain ⟨b0,r,rfl⟩:∃b0 r,a=b0 :: r:=by
  cases a with
  |nil=>simp at L
  |cons b r=>exact ⟨b,r,rfl⟩
 have I:((b0 :: r).getD 0 ([]:List UInt8))=b0:=rfl;have u:(Ty.slice .u8).dflt=([]:List UInt8):=rfl;have x:b0.length<=(b0 :: r).flatten.length:=by simp
 have C:min b0.length ((b0 :: r).flatten.length-0)=b0.length:=by omega
 refine uQ 600 _ ?_;simp (maxSteps:=3000000) only [u,I,C,k,Aw,Ag,go_sem,↓zA,↓reduceIte,↓reduceDIte] <;>try simp only [zB]
 have o:b0.length=16:=j b0 Bi;refine ⟨⟨by omega,Ac _⟩,by omega,⟨⟨x,by omega⟩,by omega⟩,⟨by omega,Ac _⟩,?_⟩;have h:=flat16 (b0 :: r) j;have E:∀i,i<=(b0 :: r).length->flN (b0 :: r) i=16*i:=λi D=>by unfold flN;rw [flat16 _ λb O=>j b (List.mem_of_mem_take O),An,Cr D]
 refine q0p (ι:=Nat) (λi=>[(9,rI ((16* (i+1):Nat):Int)),(72,rI i)]) (λi=>[.row .u8 (((b0 :: r).take (i+1)).flatten++xs.drop (16* (i+1)))]) (λi=>r.length-i) (λi=>i<=r.length) 0 (Ai _) ?_ ?_ λi D=> ?_
 . have U:(List.take (0+1) (b0 :: r)).flatten=b0:=by simp
   rw [U];rw [o]
 . with_reducible refine sx1 o ?_;trivial
 have hrl:r.length+1<=1000000:=by simpa using Z
 have m:=wsx i (by omega);by_cases c:i<r.length
 . have w:((i:Int) < ((r.length:Nat):Int))=True:=eq_true (by omega);have k2:(r.getD i ([]:List UInt8)).length=16:=j _ (AH _ (by rw [Ae,Af c];exact Bl _));have v:(((b0 :: r).take (i+1)).flatten).length=16* (i+1):=E (i+1) (by simp;omega);have G:((((b0 :: r).take (i+1)).flatten++xs.drop (16* (i+1))).length)=16* (r.length+1):=by rw [Ab,v,Ah,k,h,AB];omega
   change (b0 :: List.take i r).flatten.length=_ at v;change ((b0 :: List.take i r).flatten++xs.drop (16* (i+1))).length=_ at G;have V:IntKind.i64.wrap (((16* (i+1):Nat):Int)+0)=((16* (i+1):Nat):Int):=by rw [Int.add_zero,wrapi (by omega)]
   have W:min 16 ((b0 :: r).flatten.length-0-16* (i+1))=16:=by rw [h,AB];omega
   have F:IntKind.i64.wrap (((16* (i+1):Nat):Int)+16)=((16* (i+1+1):Nat):Int):=by rw [wrapi (by omega)];omega
   have Y:List.take 16 (r.getD i ([]:List UInt8))=r.getD i []:=Aa (by omega);have q:(b0 :: r).flatten.length=16* (r.length+1):=by rw [h,AB]
   have R:List.take (0+16* (i+1)) ((b0 :: List.take i r).flatten++List.drop (16* (i+1)) xs)++List.drop (0+16* (i+1)+0) ((b0 :: List.take i r).flatten++List.drop (16* (i+1)) xs)=(b0 :: List.take i r).flatten++List.drop (16* (i+1)) xs:=by simp only [Ag,AG,AA]
   refine uQ 600 _ ?_;simp (maxSteps:=3000000) only [w,u,k2,Nat.zero_min,V,Av,W,F,Y,R,G,Ad,go_sem,↓zA,↓reduceIte,↓reduceDIte] <;>try simp only [zB]
   rw [q];refine ⟨⟨by omega,c⟩,⟨by omega,by omega,Nat.le_refl _⟩,⟨⟨by omega,by omega⟩,by omega⟩,⟨by omega,by omega,Nat.le_refl _⟩,⟨⟨by omega,by omega⟩,by omega⟩,i+1,c,by dsimp only;omega,?_,?_⟩
   . have N:(b0 :: List.take (i+1) r).flatten=(b0 :: List.take i r).flatten++r.getD i []:=by rw [A6,A6,q4Z c,List.append_assoc]
     dsimp only;rw [N];generalize (b0 :: List.take i r).flatten=A at*;generalize r.getD i []=y at*;rw [Ag,CU v,<-AW,BK v,AW,show 16* (i+1)+16=16* (i+1+1) by omega]
   with_reducible refine sx1 m ?_
   exact congrArg (Value.int IntKind.i64) F
 obtain rfl:i=r.length:=by omega
 have w:(((r.length:Nat):Int) < ((r.length:Nat):Int))=False:=eq_false (by omega);refine gy1 w ?_;have e8:List.drop (16* (r.length+1)) xs= []:=Ci (by rw [k,h,AB];omega);rw [e8,Ad,Aw,Cv,Aw];exact ⟨⟨by omega,by omega⟩,rfl⟩
def whN(n:Nat):Nat:=(n+15) / 16*16
def unexS(w c:List UInt8):List UInt8:=
 let f:=(c.take (whN c.length-16)).drop (whN c.length-32)
 let k:=c.drop (whN c.length-16)
 c.take (whN c.length-32)++(k++(decS w f).drop k.length)++f
def dchA(w iv ch:List UInt8):Nat->List UInt8×List UInt8
 |0=>(iv,[])
 |n+1=>((ch.take (16*n+16)).drop (16*n),(dchA w iv ch n).2++xorS (decS w ((ch.take (16*n+16)).drop (16*n))) (dchA w iv ch n).1)
def unchS(w iv ch:List UInt8):List UInt8:=(dchA w iv ch (ch.length / 16)).2
def ctsD(key iv c:List UInt8):List UInt8:=
 if c.length=16 then xorS (decS (wordsS key) c) iv else (unchS (wordsS key) iv (unexS (wordsS key) c)).take c.length
theorem j0N(w iv a:List UInt8)(b:iv.length=16)(n:Nat)(hn:16*n<=a.length):(dchA w iv a n).1.length=16/\(dchA w iv a n).2.length=16*n:=by
 induction n with
 |zero=>exact ⟨b,rfl⟩
 |succ n ih=>grind [dchA,q2h]
theorem z8j(w c:List UInt8)(hc:16<c.length):(unexS w c).length=whN c.length:=by grind [unexS,q5a,whN]
def z6b(c:List UInt8)(h:32<=c.length):(exchS c).length=c.length:=by unfold exchS;simp only [Ab,An,Ah];omega
def z4l(key iv p:List UInt8)(b:iv.length=16)(h1:16<=p.length):(ctsE key iv p).length=p.length:=by
 have a:=q5S key iv (zpL p (zpN p.length)) b;rw [z2D] at a;have hz:zpN p.length=(16-p.length%16)%16:=rfl;unfold ctsE;simp only;split
 . omega
 rw [An,z6b _ (by omega)];omega
def z8g(w iv a:List UInt8)(b:iv.length=16):(unchS w iv a).length=16* (a.length / 16):=(j0N w iv a b _ (by omega)).2
def z4Z(key iv c:List UInt8)(a:iv.length=16)(h1:16<=c.length):(ctsD key iv c).length=c.length:=by
 unfold ctsD;split
 . rw [q2h];omega
 rw [An,z8g _ _ _ a,z8j _ _ (by omega)];unfold whN;omega
theorem j3t:z16.length=16:=rfl
def ciS(k:Key)(u:Nat)(conf plain:List UInt8):List UInt8:=if k.1=1 then ctsE (dkS k u 170) z16 (conf++plain) else conf++ksS (dkS k u 170) conf plain
def unS(k:Key)(u:Nat)(c:List UInt8):List UInt8:=if k.1=1 then (ctsD (dkS k u 170) z16 c).drop 16 else ksS (dkS k u 170) (c.take 16) (c.drop 16)
def seS(k:Key)(u:Nat)(conf plain:List UInt8):List UInt8:=ciS k u conf plain++tg9S k u (ciS k u conf plain)
def opS(k:Key)(u:Nat)(sp sv:Int)(sb:List UInt8):List UInt8×Int:=
 if uOk k u=true then
  if sp=k.1/\(sv=k.2.1\/sv=0\/k.2.1=0) then
   if sb.length<16+k.2.2.length then ([],4)
   else if 65552+k.2.2.length<sb.length then ([],5)
   else if tg9S k u (sb.take (sb.length-k.2.2.length))=sb.drop (sb.length-k.2.2.length) then (unS k u (sb.take (sb.length-k.2.2.length)),0)
   else ([],10)
  else ([],9)
 else ([],2)
theorem q7n{k:Key}{u:Nat}(h:uOk k u=true):vKey k=true/\u<=1023/\((k.2.2.length:Nat):Int)=keyLen k.1/\k.2.2.length<=32/\(k.1=1->k.2.2.length=16)/\(k.1≠1->k.1=2/\k.2.2.length=32):=by
 unfold uOk at h;simp only [Ak,decide_eq_true_eq] at h;have c:=h.1;unfold vKey at c;simp only [Ak,decide_eq_true_eq] at c;have e:=c.2.1;have j:=c.1;refine ⟨h.1,by omega,e,?_⟩;unfold keyLen at e j;split at e
 . rename_i b;exact ⟨by omega,λ_=>by omega,λm=>absurd b m⟩
 rename_i b;split at e
 . rename_i a;exact ⟨by omega,λm=>absurd m b,λ_=>⟨a,by omega⟩⟩
 rename_i a;rw [if_neg b,if_neg a] at j;exact absurd rfl j
def j7W(b:List UInt8)(h:b.length=16):PC Tryz.prog 246 [.isl (.slice .u8) [b],.raw (.slice none 0 0)] (.isl .u8 b):=by have c:(((1:Nat):Int)=0)=False:=eq_false (by decide);have a:(((1:Nat):Int)=1)=True:=eq_true (by decide);have e:(Ty.slice .u8).dflt=([]:List UInt8):=rfl;refine q0l rfl rfl ?_;refine q1Q fi246 ?_;refine gy4 c a e h ?_;exact Aa (by omega)
def j5c(a:List (List UInt8))(h1:1<=a.length)(c:∀b∈a,b.length=16)(hl:a.length<=10000):PC Tryz.prog 246 [.isl (.slice .u8) a,.raw (.slice none 0 0)] (.isl .u8 a.flatten):=by
 by_cases e:2<=a.length
 . exact j6O a e c (by omega) (by rw [flat16 a c];omega)
 obtain ⟨b,rfl⟩:=Bc.1 (show a.length=1 by omega);rw [Ch];exact j7W b (c b Bi)
def ceC(m:List SV)(i:Nat)(G:List SObj)(acc:List (List UInt8)):List SObj:=.cells 256 m :: .cells 65 [.bld (G.length+2) (.slice .u8) i] :: (G++ [.row (.slice .u8) acc])
def quG(G:List SObj):Prop:=∀ (h:Nat) (t:Ty) (xs:List t.den),frzObH h t xs G
def z6u:quG []:=λ_ _ _=>trivial
def z8n{G L:List SObj}(h:quG G)(h':quG L):quG (G++L):=λ_ _ _=>q1z (h _ _ _) (h' _ _ _)
def ceH(m:List SV)(key iv p:List UInt8)(i:Nat)(H':List SObj):Prop:=∃G,quG G/\H'=ceC m i G (cbl key iv p i)
theorem j1o(key iv p:List UInt8)(i:Nat):cbl key iv p (i+1)=cbl key iv p i++ [cpre key iv p (i+1)]:=by unfold cbl;rw [BI,Bn];rfl
def z9s(key iv p:List UInt8)(i:Nat):(cbl key iv p i).length=i:=by simp [cbl]
theorem j7E(key iv p:List UInt8)(i:Nat):∀b∈cbl key iv p i,b.length=16:=by intro b a;unfold cbl at a;obtain ⟨i,_,rfl⟩:=BZ.1 a;exact q4Y _ _
def j1G(a:List (List UInt8)):(exgS a).length=a.length:=by unfold exgS swpS;split<;>simp
theorem j4I(c:List (List UInt8))(h:∀b∈c,b.length=16):∀b∈exgS c,b.length=16:=by
 unfold exgS;split
 . rename_i h1;have e:∀j,j<c.length->(c.getD j []).length=16:=λj k=>h _ (by rw [Ae,Af k];exact Bl _);intro b a;unfold swpS at a;rcases CF a with a|rfl
   . rcases CF a with a|rfl
     . exact h b a
     exact e _ (by omega)
   exact e _ (by omega)
 exact h
theorem j4W(key iv p:List UInt8)(z:key.length=16)(k:iv.length=16)(B:16<=p.length)(C:p.length<=131072):PC Tryz.prog 228 [.isl .u8 key,.isl .u8 iv,.isl .u8 p] (.tup [.isl .u8 (ctsE key iv p),rI 0]):=by
 have m:=q9A key iv z k;have Q:=z3B p B C;have N:=j2T p (by omega);have u:=j1x key iv p z k C;have A:=j0a key iv p z k C;have F:=z7J key iv p k B;have hel:=z4l key iv p k B;have hn:nblk p.length=(p.length+15) / 16:=rfl;unfold modS at m;unfold chnF at u;generalize cipS key=U at*;refine q0s rfl rfl (q3K (q1D noFG fi228 ?_));letI:Ghost:=topG noFG [];refine gQ ?_;refine cQ m ?_;refine cQ Q ?_;refine cQ N ?_;refine cQ u ?_;refine q3Z 1 0 (.slice .u8) rfl rfl rfl ?_;refine z5X (ceH [.iptr CipT U 0,.isl .u8 iv] key iv p) (λ_ _ _=>False) rfl rfl rfl A (λi n e O h=>by rw [h.1];rfl) ⟨[],z6u,rfl⟩ rfl ?_ ?_ ?_
 . rintro i _ e O o ⟨G,L,rfl⟩ ⟨rfl,rfl⟩ S R;letI:Ghost:=pinG noFG S;rw [Ad];have j:=z9s key iv p i;have w:=j1o key iv p i;have v:=z3U key iv p k (i+1);generalize cbl key iv p i=a at*;generalize cpre key iv p (i+1)=b at*;unfold ceC;refine uQ 600 _ ?_;simp only [putL,Bf];with_reducible refine sxaE ?_
   letI:Ghost:=pinG noFG R;refine gya2 j v ?_;have hi2:i< (p.length+15) / 16:=o;refine ⟨⟨by omega,by omega⟩,G++ [.dead,.row (.slice .u8) [b]],z8n L (λ_ _ _=>by simp [frzObH,SObj.frzOb]),?_⟩;rw [w];simp [ceC]
 . rintro D _ ⟨G,L,rfl⟩;unfold ceC;letI:Ghost:=topG noFG [D];have j:=z9s key iv p (nblk p.length);have q:=j7E key iv p (nblk p.length);generalize cbl key iv p (nblk p.length)=a at*;have hxl:=j1G a;have c:=j4I a q;have I:=j7D a (by omega);have E:=j5c (exgS a) (by omega) c (by omega);have hfl:=flat16 (exgS a) c;generalize exgS a=x at*;refine aQ ?_;rw [<-j];refine q0i [1,G.length+2] I rfl (by simp) ?_ rfl rfl ?_
   . simp (maxSteps:=3000000) only [atH,sig,SObj.ren,SV.ren,SV.renL,SObj.live,List.append_assoc,getA,getA0,setA,setA0,Ab,Au,go_sem,↓zA,↓reduceIte,↓reduceDIte] <;>try simp only [zB]
   simp only [afterO,Out.ren,SV.ren,mgA,sig,SObj.ren,SV.renL,List.set,List.map,Ad];refine uQ 3 _ ?_;with_reducible refine sxaE ?_
   refine q1o (G.length+2) (ty:=.slice .u8) (xs:=x) rfl (by simp) (by omega) ?_ ?_ ?_
   . with_reducible refine sxaE ?_
     exact ⟨by omega,q1z (L _ _ _) ⟨trivial,trivial⟩⟩
   . with_reducible refine sxaE ?_;trivial
   have y:List.take a.length x=x:=Aa (by omega);with_reducible refine sya1 y ?_
   generalize (List.map (SObj.frz (G.length+2) (Ty.slice .u8) x) G++ [SObj.row (Ty.slice .u8) x]).set G.length SObj.dead=T;refine gQ ?_;refine cy1 E F ?_;refine ⟨⟨by omega,by omega⟩,q0b (q1C (ctsE key iv p) (by omega)) ?_⟩;refine gQ ?_;trivial
 rintro D i ex _ o h;exact h.elim
def unxS(w:List UInt8)(n:Nat)(bs:List (List UInt8)):List (List UInt8):=
 if bs.length=1 then bs else
  (bs.set (bs.length-2) ((bs.getD (bs.length-1) []).take (n-16* (bs.length-1))++(decS w (bs.getD (bs.length-2) [])).drop (n-16* (bs.length-1)))).set (bs.length-1) (bs.getD (bs.length-2) [])
theorem j6q(key iv c:List UInt8)(a:List (List UInt8))(B:key.length=16)(x:∀b∈a,b.length=16)(hc:c.length<=131072)(h1:1<=a.length)(hn:16* (a.length-1) <c.length)(hn2:c.length<=16*a.length):
 PE Tryz.prog 247 [.ptr 0 0,.ptr 1 0,.ptr 2 0] [.cells 65 [.bld 3 (.slice .u8) a.length],.cells 25 [.isl .u8 c],.cells 256 (modS key iv),.row (.slice .u8) a] (.ret (.tup []))
  [.cells 65 [.bld 3 (.slice .u8) a.length],.cells 25 [.isl .u8 c],.cells 256 (modS key iv),.row (.slice .u8) (unxS (wordsS key) c.length a)]:=by
 refine q0a (Ac _) ?_;refine q1Q fi247 ?_;unfold unxS;by_cases h:a.length=1
 . have q:(((a.length:Nat):Int)=1)=True:=eq_true (by omega);rw [if_pos h];unfold modS;generalize cipS key=G at*;refine gy1 q ?_;trivial
 have q:(((a.length:Nat):Int)=1)=False:=eq_false (by omega);have y:IntKind.i64.wrap (((a.length:Nat):Int) -1)=((a.length-1:Nat):Int):=by rw [wrapi (by omega)];omega
 have A:IntKind.i64.wrap (((a.length:Nat):Int) -2)=((a.length-2:Nat):Int):=by rw [wrapi (by omega)];omega
 have D:IntKind.i64.wrap (16* ((a.length-1:Nat):Int))=((16* (a.length-1):Nat):Int):=by rw [wrapi (by omega)];omega
 obtain ⟨k,e⟩:∃k,k=c.length-16* (a.length-1):=⟨_,rfl⟩;have F:IntKind.i64.wrap (((c.length:Nat):Int) - ((16* (a.length-1):Nat):Int))=(k:Int):=by rw [wrapi (by omega)];omega
 have z:∀j,j<a.length->(a.getD j []).length=16:=λj E=>x _ (by rw [Ae,Af E];exact Bl _);have hg1:=z (a.length-1) (by omega);have v:=z (a.length-2) (by omega);have u:=z0B key iv (a.getD (a.length-2) []) B v;have hdl:=q5a (wordsS key) (a.getD (a.length-2) []);rw [if_neg h,<-e];unfold modS at*;have m:(Ty.slice .u8).dflt=([]:List UInt8):=rfl;generalize w:a.getD (a.length-1) []=x1 at*;generalize o:a.getD (a.length-2) []=C at*;generalize decS (wordsS key) C=dx at*;generalize cipS key=G at*;refine uQ 600 _ ?_;simp (maxSteps:=3000000) only [q,y,A,D,F,m,Ag,Av,o,go_sem,↓zA,↓reduceIte,↓reduceDIte] <;>try simp only [zB]
 refine ⟨⟨by omega,by omega⟩,by omega,?_⟩;refine q0b u ?_;refine uQ 3 _ ?_;with_reducible refine sxE ?_
 refine q1l [0,3] mixed ?_;have p:List.take dx.length dx=dx:=Aw;refine uQ 14 _ ?_;with_reducible refine sy6 y m Ag Av w p ?_
 refine ⟨⟨by omega,by omega⟩,by omega,⟨by omega,Ac _,by omega⟩,⟨by omega,by omega,Ac _⟩,⟨by rw [An,Ah];omega,by rw [An,Ah];omega⟩,?_⟩;refine q1l [3,999999,0] mixed ?_;refine gy3 y A m ?_;refine ⟨⟨by omega,by omega⟩,by omega,⟨by omega,by omega⟩,by rw [A9];omega,?_⟩;simp only [Ag]
def j2n{b:List UInt8}(c:b.length=16):(fS λj=>b.getD j 0)=b:=by
 apply Aq
 . rw [q2c,c]
 intro j h1 a;simp [fS,Ae,a]
def q9H(b w:List UInt8)(r:Nat)(c:b.length=16):addS (addS b w r) w r=b:=by
 conv=>rhs;rw [<-j2n c]
 unfold addS;refine q2G λj a=> ?_;rw [q7H _ a,BJ,CB,Bw]
def j4h(c:UInt8):invS (subS c)=c:=z8Q (p:=λc=>invS (subS c)=c) (by decide+kernel) c
def j1L:∀j:Fin 16,srcU j.val<16/\4* ((srcU j.val / 4+srcU j.val%4)%4)+srcU j.val%4=j.val:=by decide
def z7B(b:List UInt8)(c:b.length=16):unsS (shfS b)=b:=by
 conv=>rhs;rw [<-j2n c]
 unfold unsS shfS;refine q2G λj a=> ?_;have h:=j1L ⟨j,a⟩;dsimp only at h;rw [q7H _ h.1,j4h,h.2]
def top8(b:UInt8):(128<=b.toNat) ↔ b.toNat.testBit 7=true:=by have:=b.toNat_lt;rw [Nat.testBit_eq_decide_div_mod_eq];simp;omega
def z6d(b:UInt8):dblS b=(b<<<1) ^^^ (if b.toNat.testBit 7=true then 27 else 0):=by
 unfold dblS;by_cases h:128<=b.toNat
 . rw [if_pos h,if_pos ((top8 b).1 h)]
 rw [if_neg h,if_neg (λa=>h ((top8 b).2 a)),Bw]
def xor4(p q x y:UInt8):p^^^ q^^^ (x^^^ y)=p^^^ x^^^ (q^^^ y):=by rw [BJ,BJ,<-BJ q,UInt8.xor_comm q x,BJ]
theorem j5q(x y:UInt8):dblS (x^^^ y)=dblS x^^^ dblS y:=by
 rw [z6d,z6d x,z6d y,xor4,show (x^^^ y) <<<1=x<<<1^^^ y<<<1 by
  apply UInt8.toBitVec_inj.1
  simp [BitVec.shiftLeft_xor_distrib],CT,Nat.testBit_xor]
 cases x.toNat.testBit 7<;>cases y.toNat.testBit 7<;>rfl
def z0h:∀ (n a:Nat) (x y p q:UInt8),mulA n a (x^^^ y) (p^^^ q)=mulA n a x p^^^ mulA n a y q
 |0,_,_,_,_,_=>rfl
 |n+1,a,x,y,p,q=>by
  unfold mulA;by_cases c:a=0
  . rw [if_pos c,if_pos c,if_pos c]
  rw [if_neg c,if_neg c,if_neg c,j5q];by_cases b:a%2=1
  . rw [if_pos b,if_pos b,if_pos b,xor4];exact z0h n _ _ _ _ _
  rw [if_neg b,if_neg b,if_neg b];exact z0h n _ _ _ _ _
def j4g(a x y:UInt8):mulS a (x^^^ y)=mulS a x^^^ mulS a y:=by have:=z0h 8 a.toNat x y 0 0;rwa [CB] at this
def mixC(e x:UInt8):Prop:=
 (mulS 14 (mulS 2 x) ^^^ mulS 11 x^^^ mulS 13 x^^^ mulS 9 (mulS 3 x)=x)/\(mulS 14 (mulS 3 x) ^^^ mulS 11 (mulS 2 x) ^^^ mulS 13 x^^^ mulS 9 x=e)
 /\(mulS 14 x^^^ mulS 11 (mulS 3 x) ^^^ mulS 13 (mulS 2 x) ^^^ mulS 9 x=e)/\(mulS 14 x^^^ mulS 11 x^^^ mulS 13 (mulS 3 x) ^^^ mulS 9 (mulS 2 x)=e)
instance (e x:UInt8):Decidable (mixC e x):=by unfold mixC;infer_instance
def q6q(x:UInt8):mixC 0 x:=z8Q (p:=mixC 0) (by decide+kernel) x
def mul_one'(x:UInt8):mulS 1 x=x:=z8Q (p:=λx=>mulS 1 x=x) (by decide+kernel) x
def rot4(a b c d:UInt8):a^^^ b^^^ c^^^ d=b^^^ c^^^ d^^^ a:=by ac_rfl
def rot2(a b c d:UInt8):a^^^ b^^^ c^^^ d=c^^^ d^^^ a^^^ b:=by ac_rfl
def rot1(a b c d:UInt8):a^^^ b^^^ c^^^ d=d^^^ a^^^ b^^^ c:=by ac_rfl
def xor16(a b c d e f g h i j k l m n o p:UInt8):(a^^^ b^^^ c^^^ d) ^^^ (e^^^ f^^^ g^^^ h) ^^^ (i^^^ j^^^ k^^^ l) ^^^ (m^^^ n^^^ o^^^ p)=(a^^^ e^^^ i^^^ m) ^^^ (b^^^ f^^^ j^^^ n) ^^^ (c^^^ g^^^ k^^^ o) ^^^ (d^^^ h^^^ l^^^ p):=by ac_rfl
def mixA4(b:List UInt8)(a h e j:UInt8)(c r:Nat):mixA b [a,h,e,j] c r 4=mulS ([a,h,e,j].getD ((4-r)%4) 0) (b.getD (4*c) 0) ^^^ mulS ([a,h,e,j].getD ((5-r)%4) 0) (b.getD (4*c+1) 0) ^^^ mulS ([a,h,e,j].getD ((6-r)%4) 0) (b.getD (4*c+2) 0) ^^^ mulS ([a,h,e,j].getD ((7-r)%4) 0) (b.getD (4*c+3) 0):=by simp only [mixA,Ag,AG];rw [Bx]
def q9d(b:List UInt8)(a e j h:UInt8){c r:Nat}(hc:c<4)(hr:r<4):(mixS b [a,e,j,h]).getD (4*c+r) 0=mixA b [a,e,j,h] c r 4:=by unfold mixS;rw [q7H _ (by omega),show (4*c+r) / 4=c by omega,show (4*c+r)%4=r by omega]
theorem j3A(b:List UInt8)(z:b.length=16):mixS (mixS b [2,3,1,1]) [14,11,13,9]=b:=by
 conv=>rhs;rw [<-j2n z]
 conv=>lhs;unfold mixS
 refine q2G λj hj=> ?_;obtain ⟨c,r,q,hr,rfl⟩:∃c r,c<4/\r<4/\j=4*c+r:=⟨j / 4,j%4,by omega,by omega,by omega⟩
 rw [show (4*c+r) / 4=c by omega,show (4*c+r)%4=r by omega,mixA4];have k:=q9d b 2 3 1 1 q (r:=0) (by decide);have p:=q9d b 2 3 1 1 q (r:=1) (by decide);have o:=q9d b 2 3 1 1 q (r:=2) (by decide);have u:=q9d b 2 3 1 1 q (r:=3) (by decide);change (mixS b [2,3,1,1]).getD (4*c) 0=_ at k;rw [mixA4] at k p o u;unfold mixS at k p o u;rw [k,p,o,u];clear k p o u;have a:=q6q (b.getD (4*c) 0);have e:=q6q (b.getD (4*c+1) 0);have m:=q6q (b.getD (4*c+2) 0);have h:=q6q (b.getD (4*c+3) 0);unfold mixC at a e m h;rcases (show r=0\/r=1\/r=2\/r=3 by omega) with rfl|rfl|rfl|rfl;all_goals
  rw [AG] at*;generalize b.getD (4*c) 0=v at*;generalize b.getD (4*c+1) 0=w at*;generalize b.getD (4*c+2) 0=x at*;generalize b.getD (4*c+3) 0=y at*;simp only [Cv,Nat.reduceSub,Nat.reduceMod,Bm,Bg,j4g,mul_one'];rw [xor16]
 . rw [a.1,e.2.1,m.2.2.1,h.2.2.2,Bw,Bw,Bw]
 . rw [rot4 _ _ _ (mulS 13 (mulS 3 v)),rot4 _ _ _ (mulS 13 w),rot4 _ _ _ (mulS 13 x),rot4 _ _ _ (mulS 13 (mulS 2 y)),a.2.2.2,e.1,m.2.1,h.2.2.1,Bx,Bw,Bw]
 . rw [rot2 _ _ _ (mulS 11 (mulS 3 v)),rot2 _ _ _ (mulS 11 w),rot2 _ _ _ (mulS 11 x),rot2 _ _ _ (mulS 11 (mulS 2 y)),a.2.2.1,e.2.2.2,m.1,h.2.1,Bx,Bx,Bw]
 rw [rot1 _ _ _ (mulS 14 (mulS 3 v)),rot1 _ _ _ (mulS 14 w),rot1 _ _ _ (mulS 14 x),rot1 _ _ _ (mulS 14 (mulS 2 y)),a.2.1,e.2.2.1,m.2.2.2,h.1,Bx,Bx,Bx]
def z6q(w b:List UInt8)(c:b.length=16)(r:Nat):rndD w r (rndE w r b)=b:=by
 unfold rndD rndE mixD;have a:=j0y b;by_cases h:r<10
 . rw [if_pos h,if_pos h,q9H _ _ _ (j0k _ _),j3A _ a,z7B b c]
 rw [if_neg h,if_neg h,q9H _ _ _ a,z7B b c]
def z7A(w b:List UInt8)(c:b.length=16):decS w (encS w b)=b:=by
 have h:∀n,n<=10->decA w (encS w b) n=encA w b (10-n):=by
  intro n;induction n with
  |zero=>intro _;rfl
  |succ n a=>intro hn;rw [decA,a (by omega),show 10-n=10- (n+1)+1 by omega,encA,z6q _ _ (q6L _ _ _)]
 unfold decS;rw [h 10 (Ac _)];exact q9H b w 0 c
def j0B(a b:List UInt8)(e:a.length=16):xorS (xorS a b) b=a:=by
 conv=>rhs;rw [<-j2n e]
 unfold xorS;refine q2G λj c=> ?_;rw [q7H _ c,BJ,CB,Bw]
def z4n(w iv z:List UInt8)(a:iv.length=16)(n:Nat):∀m,((chA w iv z (n+m)).2).take (16*n)=(chA w iv z n).2
 |0=>Aa (by rw [(q6X w iv z a _).2];exact Ac _)
 |m+1=>by rw [show n+ (m+1)=n+m+1 by omega,chA,Bv (by rw [(q6X w iv z a _).2];omega)];exact z4n w iv z a n m
def z2O(w iv z:List UInt8)(a:iv.length=16)(n m:Nat)(h:n<m):(((chA w iv z m).2).take (16*n+16)).drop (16*n)=(chA w iv z (n+1)).1:=by
 obtain ⟨d,rfl⟩:∃d,m=n+1+d:=⟨m-n-1,by omega⟩
 rw [show 16*n+16=16* (n+1) by omega,z4n w iv z a,chA];dsimp only;rw [BK (q6X w iv z a _).2]
theorem z3x(z:List UInt8)(n:Nat):z.take (16*n)++(z.take (16*n+16)).drop (16*n)=z.take (16* (n+1)):=by
 have h:(z.take (16*n+16)).take (16*n)=z.take (16*n):=by rw [CD];congr 1;omega
 rw [<-h,AA];rfl
def z8S(w iv z:List UInt8)(a:iv.length=16)(m:Nat)(b:16*m<=z.length):∀n,n<=m->dchA w iv (chA w iv z m).2 n=((chA w iv z n).1,z.take (16*n))
 |0,_=>rfl
 |n+1,h=>by rw [dchA,z2O w iv z a n m (by omega),z8S w iv z a m b n (by omega)];dsimp only;refine Prod.ext rfl ?_;dsimp only;rw [show (chA w iv z (n+1)).1=encS w (xorS ((z.take (16*n+16)).drop (16*n)) (chA w iv z n).1) from rfl,z7A _ _ (q2h _ _),j0B _ _ (by rw [Ah,An];omega),z3x]
def z5o(key iv z:List UInt8)(a:iv.length=16)(hz:z.length%16=0):unchS (wordsS key) iv (chainS key iv z)=z:=by unfold unchS;rw [q5S _ _ _ a,BP _ (by decide)];unfold chainS;rw [z8S _ _ _ a _ (by omega) _ (Ac _)];exact Aa (by omega)
theorem z8s(w A x y:List UInt8)(n:Nat)(hA:A.length=whN n-32)(hx:x.length=16)(hy:y.length=16)(hn:16<n)(b:(decS w y).drop (n- (whN n-16))=x.drop (n- (whN n-16))):unexS w ((A++y++x).take n)=A++x++y:=by
 have hw:whN n=(n+15) / 16*16:=rfl;have hl:(A++y++x).length=whN n:=by simp only [Ab];omega
 have a:((A++y++x).take n).length=n:=by rw [An];omega
 unfold unexS;rw [a];generalize whN n=N at*;have e:((A++y++x).take n).take (N-32)=A:=by rw [CD,show min (N-32) n=A.length by omega,List.append_assoc,BQ]
 have j:(((A++y++x).take n).take (N-16)).drop (N-32)=y:=by rw [CD,show min (N-16) n=(A++y).length by simp only [Ab];omega,BQ,BK (by omega)]
 have h:((A++y++x).take n).drop (N-16)=x.take (n- (N-16)):=by rw [Bt,BK (by simp only [Ab];omega)]
 rw [e,j,h];have c:(x.take (n- (N-16))).length=n- (N-16):=by rw [An];omega
 dsimp only;rw [c,b,AA]
def z5Y(c:List UInt8)(h:32<=c.length):∃A x y,c=A++x++y/\A.length=c.length-32/\x.length=16/\y.length=16/\x=(c.take (c.length-16)).drop (c.length-32)/\y=c.drop (c.length-16):=by
 refine ⟨c.take (c.length-32),(c.take (c.length-16)).drop (c.length-32),c.drop (c.length-16),?_,?_,?_,?_,rfl,rfl⟩
 . have a:(c.take (c.length-16)).take (c.length-32)=c.take (c.length-32):=by rw [CD];congr 1;omega
   rw [<-a,AA,AA]
 . rw [An];omega
 . rw [Ah,An];omega
 rw [Ah];omega
def z9P(A x y:List UInt8)(hx:x.length=16)(hy:y.length=16):exchS (A++x++y)=A++y++x:=by
 have a:(A++x++y).length=A.length+32:=by simp only [Ab];omega
 unfold exchS;have b:(A++x++y).take ((A++x++y).length-32)=A:=by rw [a,Ca,List.append_assoc,BQ]
 have e:(A++x++y).drop ((A++x++y).length-16)=y:=by rw [a];exact BK (by simp only [Ab];omega)
 have c:((A++x++y).take ((A++x++y).length-16)).drop ((A++x++y).length-32)=x:=by rw [a,show A.length+32-16=(A++x).length by simp only [Ab];omega,BQ,Ca,List.drop_left]
 rw [b,e,c]
theorem j0r(z x:List UInt8)(c:x.length=16)(k:Nat)(e:∀j,k<=j->z.getD j 0=0):(xorS z x).drop k=x.drop k:=by
 apply Aq
 . rw [Ah,Ah,q2h,c]
 intro j h1 b;rw [Ah] at b;rw [BV,BV];have a:k+j<16:=by omega
 have h:=q7H (λi=>z.getD i 0^^^ x.getD i 0) a;rw [Ae,Af (by rw [q2c];exact a)] at h;refine Eq.trans h ?_;rw [e _ (by omega),Bx,Ae,Af (by omega)];rfl
def j4U(key iv p:List UInt8)(e:iv.length=16)(h1:16<=p.length):ctsD key iv (ctsE key iv p)=p:=by
 have hz:zpN p.length=(16-p.length%16)%16:=rfl;have v:=z2D p (zpN p.length);have z:(zpL p (zpN p.length)).take p.length=p:=BQ ..;have q:∀j,p.length<=j->(zpL p (zpN p.length)).getD j 0=0:=by intro j F;unfold zpL;rw [Ae,AI F,List.getElem?_replicate];split<;>rfl
 have c:=z5o key iv (zpL p (zpN p.length)) e (by omega);have hcl:=q5S key iv (zpL p (zpN p.length)) e;unfold ctsE;dsimp only;by_cases h:(chainS key iv (zpL p (zpN p.length))).length=16
 . rw [if_pos h];have hp:p.length=16:=by omega
   have w:zpL p (zpN p.length)=p:=by unfold zpL;rw [show zpN p.length=0 by omega];simp
   rw [w] at c h⊢;unfold ctsD;rw [if_pos h]
   conv=>rhs;rw [<-c]
   unfold unchS;rw [h];show _=((dchA _ _ _ 0).2++xorS (decS (wordsS key) (((chainS key iv p).take (16*0+16)).drop (16*0))) (dchA _ _ _ 0).1)
   rw [show ((chainS key iv p).take (16*0+16)).drop (16*0)=chainS key iv p by
    rw [Ap];exact Aa (by omega)]
   rfl
 rw [if_neg h];have Q:chainS key iv (zpL p (zpN p.length))=(chA (wordsS key) iv (zpL p (zpN p.length)) (whN p.length / 16)).2:=by unfold chainS;rw [v];congr 2;unfold whN zpN;omega
 have O:(chainS key iv (zpL p (zpN p.length))).length=whN p.length:=by unfold whN;omega
 have hw:whN p.length=(p.length+15) / 16*16:=rfl;obtain ⟨A,x,y,G,D,C,E,a,b⟩:=z5Y (chainS key iv (zpL p (zpN p.length))) (by omega);rw [O] at D a b;rw [G,z9P A x y C E];have k:(A++y++x).length=whN p.length:=by simp only [Ab];omega
 have I:(decS (wordsS key) y).drop (p.length- (whN p.length-16))=x.drop (p.length- (whN p.length-16)):=by
  obtain ⟨n,N⟩:∃n,whN p.length=16* (n+2):=⟨(p.length+15) / 16-2,by omega⟩
  rw [Q,N] at a b;rw [BP _ (by decide)] at a b;have m:x=(chA (wordsS key) iv (zpL p (zpN p.length)) (n+1)).1:=by rw [a,show 16* (n+2) -16=16*n+16 by omega,show 16* (n+2) -32=16*n by omega];exact z2O _ _ _ e n (n+2) (by omega)
  have o:y=(chA (wordsS key) iv (zpL p (zpN p.length)) (n+2)).1:=by have L:=z2O (wordsS key) iv (zpL p (zpN p.length)) e (n+1) (n+2) (by omega);rw [<-L,b,show 16* (n+2) -16=16* (n+1) by omega,Aa];rw [(q6X _ _ _ e _).2];omega
  have u:y=encS (wordsS key) (xorS (((zpL p (zpN p.length)).take (16* (n+1)+16)).drop (16* (n+1))) x):=by rw [o,m];rfl
  rw [u,z7A _ _ (q2h _ _)];refine j0r _ _ C _ λj F=> ?_;rw [Aa (by omega),Ae,Bp,<-Ae];exact q _ (by omega)
 have B:=z8s (wordsS key) A x y p.length D C E (by omega) I;unfold ctsD;rw [B,<-G,c,An,k,if_neg (by omega),show min p.length (whN p.length)=p.length by omega,z]
theorem z4N:∀ (xs:List (List UInt8)) (i:Nat),(∀b∈xs,b.length=16)->i<xs.length->(xs.flatten.take (16*i+16)).drop (16*i)=xs.getD i []
 |b :: xs,0,h,_=>by have a:=h b Bi;show List.drop 0 (List.take 16 (b++xs.flatten))=b;rw [Ap,CU a]
 |b :: xs,i+1,h,hi=>by have a:=h b Bi;have e:=z4N xs i (λc j=>h c (AH _ j)) (by simpa using hi);rw [A6,show 16* (i+1)+16=b.length+ (16*i+16) by omega,List.take_length_add_append,show 16* (i+1)=b.length+16*i by omega,List.drop_length_add_append,e];rfl
def dpl(w iv:List UInt8)(xs:List (List UInt8)):Nat->List UInt8×List UInt8
 |0=>(iv,[])
 |n+1=>(xs.getD n [],(dpl w iv xs n).2++xorS (decS w (xs.getD n [])) (dpl w iv xs n).1)
def z7R(w iv:List UInt8)(xs:List (List UInt8))(h:∀b∈xs,b.length=16):∀n,n<=xs.length->dchA w iv xs.flatten n=dpl w iv xs n
 |0,_=>rfl
 |n+1,hn=>by rw [dchA,dpl,z4N xs n h (by omega),z7R w iv xs h n (by omega)]
def cblk(c:List UInt8)(n:Nat):List (List UInt8):=(List.range n).map (blkC c)
def q9R(c:List UInt8)(n:Nat):(cblk c n).length=n:=by simp [cblk]
def z9v(c:List UInt8)(n:Nat)(h:n<=nblk c.length):∀b∈cblk c n,b.length=16:=by intro b a;unfold cblk at a;obtain ⟨i,e,rfl⟩:=BZ.1 a;exact q3T c (by have:=BN.1 e;omega)
theorem q4J(c:List UInt8)(n:Nat):cblk c (n+1)=cblk c n++ [blkC c n]:=by unfold cblk;rw [BI,Bn];rfl
def z1E(c:List UInt8):∀n,16*n<=c.length->(cblk c n).flatten=c.take (16*n)
 |0,_=>rfl
 |n+1,h=>by rw [q4J,BC,z1E c n (by omega),Ch,q2Y c (by omega),z3x]
def j3w(w:List UInt8)(n:Nat)(l:List (List UInt8))(x y:List UInt8):unxS w n (l++ [x,y])=l++ [y.take (n-16* (l.length+1))++(decS w x).drop (n-16* (l.length+1)),x]:=by
 unfold unxS;have a:(l++ [x,y]).length=l.length+2:=by simp
 rw [a,if_neg (by omega),show l.length+2-2=l.length by omega,show l.length+2-1=l.length+1 by omega];have c:(l++ [x,y]).getD (l.length+1) []=y:=by simp [Ae]
 have b:(l++ [x,y]).getD l.length []=x:=by simp [Ae]
 rw [c,b];simp [List.set_append]
theorem z4z(w c:List UInt8)(h:16<c.length):(unxS w c.length (cblk c (nblk c.length))).flatten=unexS w c/\(∀b∈unxS w c.length (cblk c (nblk c.length)),b.length=16)/\(unxS w c.length (cblk c (nblk c.length))).length=nblk c.length:=by
 have hn:nblk c.length=(c.length+15) / 16:=rfl;have hw:whN c.length=(c.length+15) / 16*16:=rfl;obtain ⟨m,p⟩:∃m,nblk c.length=m+2:=⟨nblk c.length-2,by omega⟩
 have v:=q2Y c (i:=m) (by omega);have k:=q3T c (i:=m) (by omega);have hyl:=q3T c (i:=m+1) (by omega);have u:(blkC c (m+1)).take (c.length-16* (m+1))=c.drop (16* (m+1)):=by unfold blkC;rw [Bv (by rw [Ah,An];omega),Aa (show c.length<=16* (m+1)+16 by omega)];exact Aa (by rw [Ah];omega)
 have q:=z1E c m (by omega);have e:=q9R c m;have o:=z9v c m (by omega);have j:(c.drop (16* (m+1))).length=c.length-16* (m+1):=Ah;rw [p,q4J,q4J,List.append_assoc];change (unxS w c.length (cblk c m++ [blkC c m,blkC c (m+1)])).flatten=_/\(∀b∈unxS w c.length (cblk c m++ [blkC c m,blkC c (m+1)]),_)/\(unxS w c.length (cblk c m++ [blkC c m,blkC c (m+1)])).length=_;rw [j3w,e,u];generalize cblk c m=l at*;generalize blkC c m=x at*;refine ⟨?_,?_,?_⟩
 . unfold unexS;dsimp only;rw [show whN c.length-32=16*m by omega,show whN c.length-16=16* (m+1) by omega,show 16* (m+1)=16*m+16 by omega,<-v,show 16*m+16=16* (m+1) by omega,j,<-q];simp
 . intro b a;rcases Cp.1 a with a|a
   . exact o b a
   simp only [Ba,Cl,or_false] at a;rcases a with rfl|rfl
   . rw [Ab,j,Ah,q5a];omega
   exact k
 simp [e]
def z8B(key iv c:List UInt8)(h1:16<=c.length):(dpl (wordsS key) iv (unxS (wordsS key) c.length (cblk c (nblk c.length))) (nblk c.length)).2.take c.length=ctsD key iv c:=by
 have hn:nblk c.length=(c.length+15) / 16:=rfl;unfold ctsD;by_cases h:c.length=16
 . have j:nblk c.length=1:=by omega
   have k:blkC c 0=c:=by rw [q2Y c (by omega),Nat.mul_zero,Ap];exact Aa (by omega)
   rw [if_pos h,j,show cblk c 1= [blkC c 0] from rfl,k,show unxS (wordsS key) c.length [c]= [c] from rfl];show ([]++xorS (decS (wordsS key) c) iv).take c.length=_;rw [Ar];exact Aa (by rw [q2h];omega)
 obtain ⟨b,a,e⟩:=z4z (wordsS key) c (by omega);rw [if_neg h,<-b,<-z7R _ _ _ a _ (by omega)];unfold unchS;rw [flat16 _ a,e,BP _ (by decide)]
def z7u{G:List SObj}:∀ (H0 L:List SObj) {H:List SObj},H=H0++L++G->leH (λh=>h) H H0.length L
 |_,[],_,_=>trivial
 |H0,o :: L,H,e=>by
  have a:leH (λh=>h) H (H0.length+1) L:=by have:=z7u (G:=G) (H0++ [o]) L (H:=H) (by rw [e];simp);rwa [Ab] at this
  have b:H[H0.length]?=some o:=by rw [e];simp
  cases o with
  |dead=>exact a
  |cells T cs=>exact ⟨by rw [q1J];exact b,a⟩
  |row t xs=>exact ⟨by rw [q1J];exact b,a⟩
  |map k ks vs=>exact ⟨by rw [q1J];exact b,a⟩
  |mark n=>exact ⟨by rw [q1J];exact b,a⟩
theorem j6m[Ghost](H0:List SObj){G:List SObj}(a:plainT td=true)(e:SV.belL H0.length t=true)(b:belH H0.length H0=true)(k:injH (λh=>h) 0 H0 []=true)(j:SoundI P AQ ⟨0,td,t,H0⟩):SoundI P AQ ⟨0,td,t,H0++G⟩:=
 j8H (σ:=λh=>h) a ⟨q7b (q4H _),z7u (G:=G) [] H0 (by simp),e,b,k,rfl,Ai _,λ_ c=>absurd c (BF 0)⟩ j
def z8P(w iv:List UInt8)(xs:List (List UInt8))(a:iv.length=16)(h:∀b∈xs,b.length=16):∀n,n<=xs.length->(dpl w iv xs n).1.length=16/\(dpl w iv xs n).2.length=16*n
 |0,_=>⟨a,rfl⟩
 |n+1,hn=>by have c:=z8P w iv xs a h n (by omega);refine ⟨h _ (by rw [dpl,Ae,Af hn];exact Bl _),?_⟩;rw [dpl,Ab,c.2,q2h];omega
def cdC(m:List SV)(c:List UInt8)(i:Nat)(G:List SObj)(acc:List (List UInt8)):List SObj:=.cells 25 [.isl .u8 c] :: .cells 256 m :: .cells 65 [.bld (G.length+3) (.slice .u8) i] :: (G++ [.row (.slice .u8) acc])
def cdH(m:List SV)(c:List UInt8)(i:Nat)(H':List SObj):Prop:=∃G,quG G/\H'=cdC m c i G (cblk c i)
theorem j3n(key iv c:List UInt8)(V:key.length=16)(hi:iv.length=16)(Y:16<=c.length)(Z:c.length<=131072):PC Tryz.prog 229 [.isl .u8 key,.isl .u8 iv,.isl .u8 c] (.tup [.isl .u8 (ctsD key iv c),rI 0]):=by
 have v:=q9A key iv V hi;have O:=z3B c Y Z;have I:=j2T c (by omega);have C:=j8f c Z;have k:=z8B key iv c Y;have hel:=z4Z key iv c hi Y;have hn:nblk c.length=(c.length+15) / 16:=rfl;have w:=λb hb=>z0B key iv b V hb;have B:=z9v c (nblk c.length) (Ac _);have e:=q9R c (nblk c.length);have m:=j6q key iv c (cblk c (nblk c.length)) V B Z (by omega) (by omega) (by omega);unfold modS at v w m;generalize cipS key=cp at*;refine q0s rfl rfl (q3K (q1D noFG fi229 ?_));letI:Ghost:=topG noFG [];refine gQ ?_;refine cQ v ?_;refine cQ O ?_;refine cQ I ?_;refine q3Z 2 0 (.slice .u8) rfl rfl rfl ?_;refine z5X (cdH [.iptr CipT cp 0,.isl .u8 iv] c) (λ_ _ _=>False) rfl rfl rfl C (λi n z aa h=>by rw [h.1];rfl) ⟨[],z6u,rfl⟩ rfl ?_ ?_ ?_
 . rintro i _ z aa j ⟨G,hG,rfl⟩ ⟨rfl,rfl⟩ L1 L2;letI:Ghost:=pinG noFG L1;rw [Ad];have N:=q9R c i;have A:=q4J c i;have e:=q3T c j;generalize cblk c i=a at*;generalize blkC c i=b at*;unfold cdC;refine uQ 600 _ ?_;simp only [putL,Bf];with_reducible refine sxaE ?_
   letI:Ghost:=pinG noFG L2;refine gya2 N e ?_;have hi2:i< (c.length+15) / 16:=j;refine ⟨⟨by omega,by omega⟩,G++ [.dead,.row (.slice .u8) [b]],z8n hG (λ_ _ _=>by simp [frzObH,SObj.frzOb]),?_⟩;rw [A];simp [cdC]
 . rintro D _ ⟨G,hG,rfl⟩;unfold cdC;letI:Ghost:=topG noFG [D];obtain ⟨x,R⟩:∃x,x=unxS (wordsS key) c.length (cblk c (nblk c.length)):=⟨_,rfl⟩;have p:∀b∈x,b.length=16:=by
    by_cases h:c.length=16
    . rw [R,show unxS (wordsS key) c.length (cblk c (nblk c.length))=cblk c (nblk c.length) from if_pos (by omega)];exact B
    rw [R];exact (z4z (wordsS key) c (by omega)).2.1
   have U:x.length=nblk c.length:=by
    rw [R];unfold unxS;split
    . exact e
    rw [A9,A9];exact e
   rw [<-R] at k m;generalize cblk c (nblk c.length)=a at*;refine aQ ?_;rw [<-e];refine q0i [2,0,1,G.length+3] m rfl (by simp) ?_ rfl rfl ?_
   . simp (maxSteps:=3000000) only [atH,sig,SObj.ren,SV.ren,SV.renL,SObj.live,List.append_assoc,getA,getA0,setA,setA0,Ab,Au,go_sem,↓zA,↓reduceIte,↓reduceDIte] <;>try simp only [zB]
   simp only [afterO,Out.ren,SV.ren,mgA,sig,SObj.ren,SV.renL,List.set,List.map,Ad];refine uQ 3 _ ?_;with_reducible refine sxaE ?_
   refine q1o (G.length+3) (ty:=.slice .u8) (xs:=x) rfl (by simp) (by omega) ?_ ?_ ?_
   . with_reducible refine sxaE ?_
     exact ⟨by omega,q1z (hG _ _ _) ⟨trivial,trivial⟩⟩
   . with_reducible refine sxaE ?_;trivial
   have u:List.take a.length x=x:=Aa (by omega);with_reducible refine sya1 u ?_
   refine j6m [_,_,_] (by rfl) (by simp [SV.belL,SV.bel]) (by simp [belH,SObj.bel,SV.belL,SV.bel]) (by rfl) ?_;refine gQ ?_;clear m C v I O;obtain ⟨W,hW⟩:∃W,W=wordsS key:=⟨_,rfl⟩;rw [<-hW] at k w;refine q5O 14 .u8 (λi=>(dpl W iv x i).2) (λi=>[(15,.isl .u8 (dpl W iv x i).1),(46,rI i)]) x.length (λ_=>True) rfl (by simp) rfl rfl (λi=>rfl) ?_ λi j _=> ?_
   . with_reducible refine sxE ?_
     rfl
   have o:=z8P W iv x hi p i j;have ab:=wsx i (by omega);by_cases q:i<x.length
   . have E:dpl W iv x (i+1)=(x.getD i [],(dpl W iv x i).2++xorS (decS W (x.getD i [])) (dpl W iv x i).1):=rfl;have X:(x.getD i []).length=16:=p _ (by rw [Ae,Af q];exact Bl _);have g1:((i:Int) < ((x.length:Nat):Int))=True:=eq_true (by omega);have e5:(Ty.slice .u8).dflt=([]:List UInt8):=rfl;have Q:=w _ X;have F:=q7r (decS W (x.getD i [])) (dpl W iv x i).1 (q5a _ _) o.1;have L:=q2h (decS W (x.getD i [])) (dpl W iv x i).1;generalize S:x.getD i []=b at*;generalize xorS (decS W b) (dpl W iv x i).1=y at*;generalize hdi:dpl W iv x i=d at*;obtain ⟨pv,acc⟩:=d;dsimp only at*;refine gy3 g1 e5 S ?_;refine ⟨⟨by omega,q⟩,?_⟩;refine cQ Q ?_;refine q0b F ?_;refine uQ 600 _ ?_;simp (maxSteps:=3000000) only [o.2,L,go_sem,↓zA,↓reduceIte,↓reduceDIte] <;>try simp only [zB]
     refine ⟨⟨by omega,by omega⟩,q3g [.dead] [] q trivial (by rw [E];rfl) ?_⟩;simp (maxSteps:=3000000) only [ab,E,Ab,o.2,L,go_sem,↓zA,↓reduceIte,↓reduceDIte] <;>try simp only [zB]
   obtain rfl:i=x.length:=by omega
   have g1:(((x.length:Nat):Int) < ((x.length:Nat):Int))=False:=eq_false (by omega);refine uQ 11 _ ?_;simp (maxSteps:=3000000) only [g1,go_sem,↓zA,↓reduceIte,↓reduceDIte] <;>try simp only [zB]
   rw [<-U] at k hn;generalize A:dpl W iv x x.length=d at*;obtain ⟨pv,acc⟩:=d;dsimp only at*;refine q1o 3 (ty:=.u8) (xs:=acc) rfl rfl (by omega) ?_ ?_ ?_
   . with_reducible refine sxE ?_;trivial
   . with_reducible refine sxE ?_
     first|done|exact Ac _|exact ⟨Ac _,Ac _⟩
   have u:List.take acc.length acc=acc:=Aw;with_reducible refine sxE ?_
   refine gy2 u k ?_;have N:acc.length=16*x.length:=o.2;refine ⟨⟨by omega,by omega⟩,q0b (q1C (ctsD key iv c) (by omega)) ?_⟩;refine gQ ?_;trivial
 rintro D i ex _ j h;exact h.elim
def or8(a b:UInt8):orK .u8 (a.toNat:Int) (b.toNat:Int)=((a|||b).toNat:Int):=by
 unfold orK;have c:=a.toNat_lt;have h:=b.toNat_lt;have hx:a.toNat|||b.toNat<2^ 8:=Nat.or_lt_two_pow c h;have e:(BitVec.ofInt IntKind.u8.bits (a.toNat:Int) |||BitVec.ofInt IntKind.u8.bits (b.toNat:Int)).toNat=a.toNat|||b.toNat:=by rw [B8,AK,AK,AR,AR];rw [show 2^ IntKind.u8.bits=256 from rfl,AP c,AP h]
 rw [e,u8wrapR,UInt8.toNat_or];omega
def dfS(a b:List UInt8):Nat->UInt8
 |0=>0
 |i+1=>dfS a b i||| (a.getD i 0^^^ b.getD i 0)
theorem j2f{a b:UInt8}:a|||b=0 ↔ a=0/\b=0:=by
 constructor
 . intro h;have c:(a|||b).toNat=0:=by rw [h];rfl
   rw [UInt8.toNat_or] at c;have ha:= @Nat.left_le_or a.toNat b.toNat;have hb:= @Nat.right_le_or a.toNat b.toNat;exact ⟨BB.1 (by show a.toNat=0;omega),BB.1 (by show b.toNat=0;omega)⟩
 rintro ⟨rfl,rfl⟩;rfl
def z8Y{a b:UInt8}:a^^^ b=0 ↔ a=b:=UInt8.xor_eq_zero_iff
def z4S(a b:List UInt8):∀i,dfS a b i=0 ↔ ∀j,j<i->a.getD j 0=b.getD j 0
 |0=>by simp [dfS]
 |i+1=>by
  rw [dfS,j2f,z4S a b i,z8Y];constructor
  . rintro ⟨c,m⟩ j k;by_cases e:j=i
    . subst e;exact m
    exact c j (by omega)
  intro h;exact ⟨λj k=>h j (by omega),h i (by omega)⟩
theorem j8o{a b:List UInt8}(h:a.length=b.length):dfS a b a.length=0 ↔ a=b:=by
 rw [z4S];constructor
 . intro e;apply Aq h;intro j c k;have:=e j c;rw [Ae,Ae,Af c,Af k] at this;exact this
 rintro rfl j _;rfl
def j6y(a b:List UInt8)(ha:a.length<=1099511627776)(hb:b.length<=1099511627776):PC Tryz.prog 199 [.isl .u8 a,.isl .u8 b] (rB (decide (a=b))):=by
 refine q0s rfl rfl ?_;by_cases m:a.length=b.length
 . have c:((a.length:Int)=(b.length:Int))=True:=eq_true (by omega);refine ry1 fi199 c ?_;refine q0p (ι:=Nat) (λi=>[(14,rI i),(5,.raw (.int .u8 (dfS a b i).toNat))]) (λi=>[]) (λi=>a.length-i) (λi=>i<=a.length) 0 (Ai _) rfl ?_ ?_
   . with_reducible refine sxE ?_
     rfl
   intro i hi;have k:=wsx i (by omega);by_cases h:i<a.length
   . have p:=xor8 (a.getD i 0) (b.getD i 0);have o:=or8 (dfS a b i) (a.getD i 0^^^ b.getD i 0);refine gyd3 p o Ag ?_;refine ⟨λ_=>⟨⟨by omega,by omega⟩,⟨by omega,by omega⟩,i+1,h,by dsimp only;omega,rfl,?_⟩,λj=>absurd h j⟩;with_reducible refine sx1 k ?_
     rfl
   obtain rfl:i=a.length:=by omega
   refine gQ ?_;refine ⟨λj=>absurd j (by omega),λ_=> ?_⟩;rw [decide_eq_decide,<-j8o m,<-BB];exact Int.natCast_eq_zero
 have c:((a.length:Int)=(b.length:Int))=False:=eq_false (by omega);refine ry1 fi199 c ?_;exact (decide_eq_false (λe=>m (by rw [e]))).symm
def z9Y(a b:List UInt8)(c:a.length<=1099511627776)(e:b.length<=1099511627776):PC Tryz.prog 167 [.isl .u8 a,.isl .u8 b] (rB (decide (a=b))):=by refine q0s rfl rfl ?_;refine rQ fi167 ?_;refine cQ (j6y a b c e) ?_;trivial
def z8D(k:Key)(u:Nat)(a plain:List UInt8)(b:a.length=16):(ciS k u a plain).length=16+plain.length:=by
 unfold ciS;split
 . rw [z4l _ _ _ rfl (by rw [Ab];omega),Ab,b]
 rw [Ab,z2F,b]
theorem j2j(k:Key)(u:Nat)(c:List UInt8):(tg9S k u c).length=if k.1=1 then 16 else 32:=by
 unfold tg9S;split
 . rw [An,q5J];rfl
 rw [q5J]
def icTail:Nat->IC->IC
 |0,c=>c
 |n+1,.seq _ b=>icTail n b
 |_,c=>c
attribute [go_sem] icTail
def z0M(key a:List UInt8)(c:key.length<=64)(hc:a.length<=1048576):PC Tryz.prog 208 [.isl .u8 key,.isl .u8 a] (.isl .u8 (hmS key (z16++a))):=by
 have b:=j1m key [z16,a] c (by simp [j3t];omega) (by simp);rw [show [z16,a].flatten=z16++a by simp] at b;refine q0s rfl rfl ?_;refine q1Q fi208 ?_;refine uQ 8 _ ?_;with_reducible refine sxE ?_
 refine q1o 0 (ty:=.u8) (xs:=z16) rfl rfl (by decide) ?_ ?_ ?_
 . with_reducible refine sxE ?_;trivial
 . with_reducible refine sxE ?_
   exact Ac _
 with_reducible refine sxE ?_
 change SoundI _ _ ⟨_,_,[_,_,_,_,_,_,.isl .u8 z16,_,_,_],_⟩;refine gQ ?_;refine q0F 1 ?_;with_reducible refine sxE ?_
 refine cQ b ?_;trivial
def z8O(key a plain:List UInt8)(e:key.length=16)(hc:a.length=16)(hp:plain.length<=65536):PC Tryz.prog 206 [.isl .u8 key,.isl .u8 a,.isl .u8 plain] (.isl .u8 (ctsE key z16 (a++plain))):=by
 have c:=z7v [a,plain] (by simp;omega) (by simp);rw [show [a,plain].flatten=a++plain by simp] at c;have b:=j4W key z16 (a++plain) e rfl (by simp;omega) (by simp;omega);refine q0s rfl rfl ?_;refine rQ fi206 ?_;refine q0n c ?_;refine gQ ?_;refine q1G 0 (by decide) ?_;with_reducible refine sxE ?_
 change CallR _ _ _ _ [_,.isl .u8 z16,_] _ _;refine cR b ?_;trivial
theorem z7F(key cipher:List UInt8)(h:key.length=16)(e:16<=cipher.length)(j:cipher.length<=131072):PC Tryz.prog 207 [.isl .u8 key,.isl .u8 cipher] (.isl .u8 ((ctsD key z16 cipher).drop 16)):=by
 have a:=j3n key z16 cipher h rfl e j;have b:=z4Z key z16 cipher rfl e;refine q0s rfl rfl ?_;refine rQ fi207 ?_;refine q0F 0 ?_;with_reducible refine sxE ?_
 change CallI _ _ _ [_,.isl .u8 z16,_] _ _;refine q0b a ?_;have c:List.take cipher.length (ctsD key z16 cipher)=ctsD key z16 cipher:=Aa (by omega);refine uQ 16 _ ?_;with_reducible refine sy2 b c ?_
 refine ⟨⟨by omega,Ac _⟩,z1b 4 rfl rfl ?_⟩;refine gQ ?_;trivial
def j6S{s s':SV}(h:PC P f args s)(e:s=s'):PC P f args s':=e▸h
def kdL(nm:ByteArray)(kl tl:Nat)(fe fd fm:FuncId):List Value:=[.string nm,.int .i64 kl,.int .i64 16,.int .i64 tl,.int .i64 tl,fnV fe,fnV fd,fnV fm]
def z9i(nm:ByteArray)(B c:Nat)(w A x:FuncId)(p v:Int)(b:List UInt8)(u:Nat)(a plain ci mk:List UInt8)
 (y:PC Tryz.prog 159 [.agg (KeyT.cells (p,v,b)),rI u] (.tup [.agg (rawL (kdL nm B c w A x)),rI 0]))(h:1<=b.length)(e:b.length<=64)(hc:a.length=16)(hp:plain.length<=65536)
 (m:PC Tryz.prog w [.isl .u8 (dkS (p,v,b) u 170),.isl .u8 a,.isl .u8 plain] (.isl .u8 ci))(o:PC Tryz.prog x [.isl .u8 (dkS (p,v,b) u 85),.isl .u8 ci] (.isl .u8 mk))(k:c<=mk.length)(hml:mk.length<=4096)(hci:ci.length<=1048576):
 PC Tryz.prog 90 [.agg (KeyT.cells (p,v,b)),rI u,.isl .u8 a,.isl .u8 plain] (.tup [.agg [rI p,rI v,.isl .u8 (ci++mk.take c)],rI 0]):=by
 unfold kdL at y;refine q0s rfl rfl ?_;refine q1Q fi90 ?_;refine gQ ?_;refine q0b y ?_;have q:((a.length:Int)=16)=True:=eq_true (by omega);have j:(65536< (plain.length:Int))=False:=eq_false (by omega);refine gy2 q j ?_;refine cQ (z1X (p,v,b) u e) ?_;refine cR (q4W (p,v,b) u 170 e h (by decide)) ?_;refine cR m ?_;refine cR (q4W (p,v,b) u 85 e h (by decide)) ?_;refine q0g o ?_;refine uQ 4 _ ?_;simp (maxSteps:=3000000) only [Av,go_sem,↓zA,↓reduceIte,↓reduceDIte] <;>try simp only [zB]
 have htk:(List.take c mk).length=c:=by rw [An];omega
 have z:=z7v [ci,List.take c mk] (by simp;omega) (by simp);rw [show [ci,List.take c mk].flatten=ci++List.take c mk by simp] at z;refine ⟨⟨by omega,Ac _,k⟩,?_⟩;refine q1l [0] mixed ?_;refine gQ ?_;refine q1G 3 (by decide) ?_;with_reducible refine sxE ?_
 refine cR z ?_;trivial
theorem z6T(nm:ByteArray)(kl a:Nat)(Z W X:FuncId)(p v:Int)(b:List UInt8)(u:Nat)(q c:Int)(sb Y mk:List UInt8)
 (C:PC Tryz.prog 159 [.agg (KeyT.cells (p,v,b)),rI u] (.tup [.agg (rawL (kdL nm kl a Z W X)),rI 0]))(F:1<=b.length)(y:b.length<=64)(htl:a<=64)(hs:sb.length<=1099511627776)
 (x:16+a<=sb.length->sb.length<=65552+a->PC Tryz.prog X [.isl .u8 (dkS (p,v,b) u 85),.isl .u8 (sb.take (sb.length-a))] (.isl .u8 mk))
 (w:16+a<=sb.length->sb.length<=65552+a->PC Tryz.prog W [.isl .u8 (dkS (p,v,b) u 170),.isl .u8 (sb.take (sb.length-a))] (.isl .u8 Y))(S:a<=mk.length)(hmx:mk.length<=4096):
 PC Tryz.prog 92 [.agg (KeyT.cells (p,v,b)),rI u,.agg [rI q,rI c,.isl .u8 sb]] (.tup (if q=p/\(c=v\/c=0\/v=0) then
  if sb.length<16+a then [.isl .u8 [],rI 4] else if 65552+a<sb.length then [.isl .u8 [],rI 5]
  else if mk.take a=sb.drop (sb.length-a) then [.isl .u8 Y,rI 0] else [.isl .u8 [],rI 10] else [.isl .u8 [],rI 9])):=by
 unfold kdL at C;have I:IntKind.i64.wrap (((sb.length:Nat):Int) - (a:Int))=((sb.length:Nat):Int) - (a:Int):=wrapi (by omega);have E:IntKind.i64.wrap (16+65536)=65552:=by rw [wrapi (by omega)];rfl
 by_cases z:q=p
 . subst z;have A:(q=q)=True:=eq_true rfl;by_cases j:c=v\/c=0\/v=0
   . rw [if_pos ⟨rfl,j⟩];have e:(((c=v)=True)/\((c=v)=True)/\((c=v)=True))\/(((c=v)=False)/\((c=0)=True)/\((c=0)=True))\/(((c=v)=False)/\((c=0)=False)/\((v=0)=True)):=by
      by_cases B:c=v
      . exact .inl ⟨eq_true B,eq_true B,eq_true B⟩
      by_cases G:c=0
      . exact .inr (.inl ⟨eq_false B,eq_true G,eq_true G⟩)
      exact .inr (.inr ⟨eq_false B,eq_false G,eq_true ((j.resolve_left B).resolve_left G)⟩)
     by_cases c1:sb.length<16+a
     . have D:(((sb.length:Nat):Int) - (a:Int) <16)=True:=eq_true (by omega);rw [if_pos c1];rcases e with ⟨m,k,o⟩ | ⟨m,k,o⟩ | ⟨m,k,o⟩;all_goals
        refine q0l rfl rfl ?_;refine rQ fi92 ?_;refine q0b C ?_;refine gy8 A m k o I D D D ?_;trivial
     have D:(((sb.length-a:Nat):Int) <16)=False:=eq_false (by omega);have O:((sb.length:Nat):Int) - (a:Int)=((sb.length-a:Nat):Int):=by omega
     rw [O] at I;rw [if_neg c1];by_cases c2:65552+a<sb.length
     . have V:(65552< ((sb.length-a:Nat):Int))=True:=eq_true (by omega);rw [if_pos c2];rcases e with ⟨m,k,o⟩ | ⟨m,k,o⟩ | ⟨m,k,o⟩;all_goals
        refine q0l rfl rfl ?_;refine rQ fi92 ?_;refine q0b C ?_;refine uQ 600 _ ?_;simp (maxSteps:=3000000) only [A,m,k,o,O,I,E,D,V,go_sem,↓zA,↓reduceIte,↓reduceDIte] <;>try simp only [zB]
     have V:(65552< ((sb.length-a:Nat):Int))=False:=eq_false (by omega);rw [if_neg c2];have x:=x (by omega) (by omega);have w:=w (by omega) (by omega);have hcl:(List.take (sb.length-a) sb).length=sb.length-a:=by rw [An];omega
     have hdl:(List.drop (sb.length-a) sb).length=a:=by rw [Ah];omega
     have htk:(List.take a mk).length=a:=by rw [An];omega
     have L:List.take sb.length sb=sb:=Aw;have R:=z9Y (List.take a mk) (List.drop (sb.length-a) sb) (by omega) (by omega);generalize U:List.take (sb.length-a) sb=ci at*;generalize N:List.drop (sb.length-a) sb=tg at*;generalize Q:List.take a mk=mt at*;rcases e with ⟨m,k,o⟩ | ⟨m,k,o⟩ | ⟨m,k,o⟩;all_goals
      refine q0l rfl (by split<;>rfl) ?_;refine rQ fi92 ?_;refine q0b C ?_;refine uQ 600 _ ?_;simp (maxSteps:=3000000) only [A,m,k,o,O,I,E,D,V,Av,L,U,N,go_sem,↓zA,↓reduceIte,↓reduceDIte] <;>try simp only [zB]
      refine ⟨⟨by omega,Ac _,by omega⟩,⟨by omega,by omega,Ac _⟩,?_⟩;refine cQ (z1X (q,v,b) u y) ?_;refine cR (q4W (q,v,b) u 85 y F (by decide)) ?_;refine q0g x ?_;refine gy2 Av Q ?_;refine ⟨⟨by omega,Ac _,S⟩,?_⟩;refine q0g R ?_;by_cases c3:mt=tg
      . rw [if_pos c3];refine gy1 c3 ?_;refine cR (q4W (q,v,b) u 170 y F (by decide)) ?_;refine cR w ?_;trivial
      rw [if_neg c3];refine gy1 c3 ?_;trivial
   rw [if_neg (λh=>j h.2)];have m:(c=v)=False:=eq_false λh=>j (.inl h);have k:(c=0)=False:=eq_false λh=>j (.inr (.inl h));have o:(v=0)=False:=eq_false λh=>j (.inr (.inr h));refine q0l rfl rfl ?_;refine rQ fi92 ?_;refine cy4 C A m k o ?_;trivial
 have A:(q=p)=False:=eq_false z;rw [if_neg (λh=>z h.1)];refine q0l rfl rfl ?_;refine rQ fi92 ?_;refine cy1 C A ?_;trivial
def irg18:GI:=⟨33,[.cell 8 44,.tmp 9],[(.reg [o1 4 (.box 27 (.tmp 0)),o1 6 (.box 30 (.tmp 2)),o1 8 (.new 44 [(.int .i64 0),(.int .i64 0),(.slice none 0 0)]),o1 9 (.mov (ci 0))])],[.ic (.reg [o1 10 (.new 44 [(.int .i64 0),(.int .i64 0),(.slice none 0 0)])]),.ic (.reg [o1 14 (.ld (some 10) (.tmp 6)),o1 15 (.call (.func 10) [(.tmp 14)]),mv 13 15,ex 16 0 13,ex 17 1 13,mv 11 16,mv 12 17]),.ic (.reg [mv 18 12,o1 19 (.bin .neq 0 (.tmp 18) (ci 0))]),.gc (.tmp 19),.ic (.reg [o1 21 (.ld (some 3) (.tmp 4)),mv 22 1,mv 23 3,mv 24 11,o1 25 (.call (.func 90) [(.tmp 21),(.tmp 22),(.tmp 23),(.tmp 24)]),mv 20 25,ex 26 0 20,ex 27 1 20,o0 (.st 3 (.tmp 10) (.tmp 26)),mv 12 27]),.ic (.reg [mv 28 12,o1 29 (.bin .neq 0 (.tmp 28) (ci 0))]),.gc (.tmp 29),.ic (.reg [o1 30 (.ld (some 3) (.tmp 10)),o0 (.st 3 (.tmp 8) (.tmp 30)),o1 9 (.mov (ci 0))]),.ic .ret],[(.reg [o1 31 (.bld [(.int .i64 0),(.int .i64 0),(.slice none 0 0)] (.fields [(0,1),(1,1),(2,1)]) []),mv 32 12,o0 (.st 3 (.tmp 8) (.tmp 31)),mv 9 32]),.ret],[.skip,(.reg [o1 31 (.bld [(.int .i64 0),(.int .i64 0),(.slice none 0 0)] (.fields [(0,1),(1,1),(2,1)]) []),mv 32 12,o0 (.st 3 (.tmp 8) (.tmp 31)),mv 9 32]),.ret]⟩
def fig18:ginfo Tryz.prog 18=some irg18:=by kernel_rfl
attribute [go_sem] irg18
def irg20:GI:=⟨30,[.cell 6 30,.tmp 7],[(.reg [o1 3 (.box 27 (.tmp 0)),o1 5 (.box 44 (.tmp 2)),o1 6 (.new 30 [(.slice none 0 0),(.string ⟨#[]⟩),(.slice none 0 0),(.int .i64 0),(.int .i64 0),(.int .i64 0),(.int .i64 0),(.slice none 0 0),(.int .i64 0),(.slice none 0 0)]),o1 7 (.mov (ci 0))])],[.ic (.reg [o1 8 (.new 30 [(.slice none 0 0),(.string ⟨#[]⟩),(.slice none 0 0),(.int .i64 0),(.int .i64 0),(.int .i64 0),(.int .i64 0),(.slice none 0 0),(.int .i64 0),(.slice none 0 0)])]),.ic (.reg [o1 12 (.ld (some 3) (.tmp 3)),mv 13 1,o1 14 (.ld (some 3) (.tmp 5)),o1 15 (.call (.func 92) [(.tmp 12),(.tmp 13),(.tmp 14)]),mv 11 15,ex 16 0 11,ex 17 1 11,mv 9 16,mv 10 17]),.ic (.reg [mv 18 10,o1 19 (.bin .neq 0 (.tmp 18) (ci 0))]),.gc (.tmp 19),.ic (.reg [mv 21 9,o1 22 (.call (.func 15) [(.tmp 21)]),mv 20 22,ex 23 0 20,ex 24 1 20,o0 (.st 10 (.tmp 8) (.tmp 23)),mv 10 24]),.ic (.reg [mv 25 10,o1 26 (.bin .neq 0 (.tmp 25) (ci 0))]),.gc (.tmp 26),.ic (.reg [o1 27 (.ld (some 10) (.tmp 8)),o0 (.st 10 (.tmp 6) (.tmp 27)),o1 7 (.mov (ci 0))]),.ic .ret],[(.reg [o1 28 (.bld [(.slice none 0 0),(.string ⟨#[]⟩),(.slice none 0 0),(.int .i64 0),(.int .i64 0),(.int .i64 0),(.int .i64 0),(.slice none 0 0),(.int .i64 0),(.slice none 0 0)] (.fields [(0,2),(2,1),(3,1),(4,1),(5,3),(8,1),(9,1)]) []),mv 29 10,o0 (.st 10 (.tmp 6) (.tmp 28)),mv 7 29]),.ret],[.skip,(.reg [o1 28 (.bld [(.slice none 0 0),(.string ⟨#[]⟩),(.slice none 0 0),(.int .i64 0),(.int .i64 0),(.int .i64 0),(.int .i64 0),(.slice none 0 0),(.int .i64 0),(.slice none 0 0)] (.fields [(0,2),(2,1),(3,1),(4,1),(5,3),(8,1),(9,1)]) []),mv 29 10,o0 (.st 10 (.tmp 6) (.tmp 28)),mv 7 29]),.ret]⟩
def fig20:ginfo Tryz.prog 20=some irg20:=by kernel_rfl
attribute [go_sem] irg20
def j4B(k:Key)(a:Aut)(A:AutT.ok a)(u:Int)(b:List UInt8)(p v:Int)(w:List UInt8)(e:Int)(hs:vAut a=true->PC Tryz.prog 90 [.agg (KeyT.cells k),rI u,.isl .u8 b,.isl .u8 (autS a)] (.tup [.agg [rI p,rI v,.isl .u8 w],rI e])):
 PC Tryz.prog 18 [.agg (KeyT.cells k),rI u,.agg (AutT.cells a),.isl .u8 b] (if vAut a=true then if e=0 then .tup [.agg [rI p,rI v,.isl .u8 w],rI 0] else .tup [.agg [rI 0,rI 0,.isl .u8 []],rI e] else .tup [.agg [rI 0,rI 0,.isl .u8 []],rI 2]):=by
 have c1:=z1w a A;cases o:vAut a with
 |false=>
  rw [o] at c1;simp only [if_false,AS,if_true] at c1⊢;obtain ⟨y,z,B⟩:=k;obtain ⟨c,s,t,m,x,q,d⟩:=a;refine q0l rfl rfl ?_;refine z5v fig18 (q0o mixed 600 _ ?_);simp (maxSteps:=3000000) only [irg18,go_sem,↓zA,↓reduceIte,↓reduceDIte] <;>try simp only [zB]
  simp only [GoI];refine gQ ?_;refine gQ ?_;refine cQ c1 ?_;refine gQ ?_;refine gQ ?_;trivial
 |true=>
  rw [o] at c1;simp only [if_true,reduceIte] at c1⊢;replace hs:=hs o;obtain ⟨y,z,B⟩:=k;obtain ⟨c,s,t,m,x,q,d⟩:=a;by_cases j:e=0
  . subst j;simp only [if_true,reduceIte];refine q0l rfl rfl ?_;refine z5v fig18 (q0o mixed 600 _ ?_);simp (maxSteps:=3000000) only [irg18,go_sem,↓zA,↓reduceIte,↓reduceDIte] <;>try simp only [zB]
    simp only [GoI];refine gQ ?_;refine gQ ?_;refine cQ c1 ?_;refine gQ ?_;refine gQ ?_;refine cQ hs ?_;refine gQ ?_;refine gQ ?_;refine gQ ?_;trivial
  rw [if_neg j];refine q0l rfl rfl ?_;refine z5v fig18 (q0o mixed 600 _ ?_);simp (maxSteps:=3000000) only [irg18,go_sem,↓zA,↓reduceIte,↓reduceDIte] <;>try simp only [zB]
  simp only [GoI];refine gQ ?_;refine gQ ?_;refine cQ c1 ?_;refine gQ ?_;refine gQ ?_;refine cQ hs ?_;refine gQ ?_;refine ⟨λ_=> ?_,λh=>absurd h j⟩;refine gQ ?_;trivial
def j6v(k:Key)(u:Int)(a b:Int)(c:List UInt8)(e:Int)(j:e≠0)(m:List UInt8)(o:PC Tryz.prog 92 [.agg (KeyT.cells k),rI u,.agg [rI a,rI b,.isl .u8 c]] (.tup [.isl .u8 m,rI e])):
 PC Tryz.prog 20 [.agg (KeyT.cells k),rI u,.agg [rI a,rI b,.isl .u8 c]] (.tup [zAut,rI e]):=by
 obtain ⟨k1,k2,k3⟩:=k;unfold zAut;refine q0l rfl rfl ?_;refine z5v fig20 (q0o mixed 600 _ ?_);simp (maxSteps:=3000000) only [irg20,go_sem,↓zA,↓reduceIte,↓reduceDIte] <;>try simp only [zB]
 simp only [GoI];refine gQ ?_;refine gQ ?_;refine cQ o ?_;refine gQ ?_;refine ⟨λ_=> ?_,λh=>absurd h j⟩;refine gQ ?_;trivial
def j5P(k:Key)(u:Int)(h j:Int)(o:List UInt8)(e:List UInt8)(w:e.length<=1099511627776)(p:PC Tryz.prog 92 [.agg (KeyT.cells k),rI u,.agg [rI h,rI j,.isl .u8 o]] (.tup [.isl .u8 e,rI 0])):
 PC Tryz.prog 20 [.agg (KeyT.cells k),rI u,.agg [rI h,rI j,.isl .u8 o]] (autDS (autD e)):=by
 have b:=z0H e w;obtain ⟨k1,k2,k3⟩:=k;cases v:autD e with
 |some a=>
  rw [v] at b;obtain ⟨c,s,t,m,x,q,d⟩:=a;unfold autDS at b⊢;refine q0l rfl rfl ?_;refine z5v fig20 (q0o mixed 600 _ ?_);simp (maxSteps:=3000000) only [irg20,go_sem,↓zA,↓reduceIte,↓reduceDIte] <;>try simp only [zB]
  simp only [GoI];refine gQ ?_;refine gQ ?_;refine cQ p ?_;refine gQ ?_;refine gQ ?_;refine cQ b ?_;refine gQ ?_;refine gQ ?_;refine gQ ?_;trivial
 |none=>
  rw [v] at b;unfold autDS zAut at b⊢;refine q0l rfl rfl ?_;refine z5v fig20 (q0o mixed 600 _ ?_);simp (maxSteps:=3000000) only [irg20,go_sem,↓zA,↓reduceIte,↓reduceDIte] <;>try simp only [zB]
  simp only [GoI];refine gQ ?_;refine gQ ?_;refine cQ p ?_;refine gQ ?_;refine gQ ?_;refine cQ b ?_;refine gQ ?_;refine gQ ?_;trivial
variable {α:Type}
def forceN(x:Nat)(f:Nat->α):α:=match x with
 |0=>f 0
 |n+1=>f (n+1)
theorem q0S(x:Nat)(f:Nat->α):forceN x f=f x:=by cases x<;>rfl
def rotN(n x:Nat):Nat:=x / 2^ n+x*2^ (32-n)%4294967296
def sg0N(x:Nat):Nat:=(rotN 7 x^^^ rotN 18 x) ^^^ (x / 8)
def sg1N(x:Nat):Nat:=(rotN 17 x^^^ rotN 19 x) ^^^ (x / 1024)
def bs0N(x:Nat):Nat:=(rotN 2 x^^^ rotN 13 x) ^^^ rotN 22 x
def bs1N(x:Nat):Nat:=(rotN 6 x^^^ rotN 11 x) ^^^ rotN 25 x
def chN(e f g:Nat):Nat:=(e&&& f) ^^^ ((4294967295-e) &&& g)
def majN(a b c:Nat):Nat:=((a&&& b) ^^^ (a&&& c)) ^^^ (b&&& c)
def q4h(n x:Nat):rotW n (x:Int)=(rotN n x:Int):=by unfold rotW rotN;simp
def q3A(a b:Nat):xorW (a:Int) (b:Int)=((a^^^ b:Nat):Int):=by simp [xorW]
def z0S(a b:Nat):andW (a:Int) (b:Int)=((a&&& b:Nat):Int):=by simp [andW]
def j8w(x:Nat):sg0 (x:Int)=(sg0N x:Int):=by unfold sg0 sg0N;rw [q4h,q4h,q3A,show ((x:Int) / 8)=((x / 8:Nat):Int) by simp,q3A]
def j8A(x:Nat):sg1 (x:Int)=(sg1N x:Int):=by unfold sg1 sg1N;rw [q4h,q4h,q3A,show ((x:Int) / 1024)=((x / 1024:Nat):Int) by simp,q3A]
def j8L(x:Nat):bs0 (x:Int)=(bs0N x:Int):=by unfold bs0 bs0N;rw [q4h,q4h,q4h,q3A,q3A]
def j8y(x:Nat):bs1 (x:Int)=(bs1N x:Int):=by unfold bs1 bs1N;rw [q4h,q4h,q4h,q3A,q3A]
def j8Q{e f g:Nat}(he:e<=4294967295):chW (e:Int) (f:Int) (g:Int)=(chN e f g:Int):=by unfold chW chN;rw [show (4294967295- (e:Int))=((4294967295-e:Nat):Int) by omega,z0S,z0S,q3A]
def j6F(a b c:Nat):majW (a:Int) (b:Int) (c:Int)=(majN a b c:Int):=by unfold majW majN;rw [z0S,z0S,z0S,q3A,q3A]
def schedN:Nat->List Nat->List Nat
 |0,l=>l
 |n+1,l=>forceN ((sg1N (l.getD 1 0)+l.getD 6 0+sg0N (l.getD 14 0)+l.getD 15 0)%4294967296) λw=>schedN n (w :: l)
def wN(b:List UInt8)(t:Nat):Nat:=(wS b t).toNat
def q4n(b:List UInt8)(t:Nat):((wN b t:Nat):Int)=wS b t:=by have:=z6I b t;unfold wN;omega
def wsR(b:List UInt8):Nat->List Nat
 |0=>[]
 |t+1=>wN b t :: wsR b t
def q7D(b:List UInt8):∀ {t i:Nat},i<t->(wsR b t).getD i 0=wN b (t-1-i)
 |t+1,0,_=>rfl
 |t+1,i+1,h=>by show (wsR b t).getD i 0=_;rw [q7D b (by omega)];congr 1;omega
def z4L(b:List UInt8):∀ (n t:Nat),16<=t->schedN n (wsR b t)=wsR b (t+n)
 |0,t,_=>rfl
 |n+1,t,h=>by
  rw [schedN,q0S,q7D b (by omega),q7D b (by omega),q7D b (by omega),q7D b (by omega)];have e:(sg1N (wN b (t-1-1))+wN b (t-1-6)+sg0N (wN b (t-1-14))+wN b (t-1-15))%4294967296=wN b t:=by have a:=j4k (b:=b) h;rw [<-q4n,<-q4n,<-q4n,<-q4n,<-q4n,j8A,j8w] at a;rw [show t-1-1=t-2 by omega,show t-1-6=t-7 by omega,show t-1-14=t-15 by omega,show t-1-15=t-16 by omega];unfold W32 at a;omega
  rw [e];have:=z4L b n (t+1) (by omega);rw [show t+1+n=t+ (n+1) by omega] at this;exact this
def rndN:List Nat->List Nat->Nat->Nat->Nat->Nat->Nat->Nat->Nat->Nat->List Nat
 |k :: ks,w :: ws,a,b,c,d,e,f,g,h=>forceN (h+bs1N e+chN e f g+k+w) λt1=>forceN ((t1+ (bs0N a+majN a b c))%4294967296) λa'=>forceN ((d+t1)%4294967296) λe'=>rndN ks ws a' a b c e' e f g
 |_,_,a,b,c,d,e,f,g,h=>[a,b,c,d,e,f,g,h]
def cast8(l:List Nat):List Int:=l.map λ(n:Nat)=>(n:Int)
def j8N{k w a b c d e f g h:Nat}(m:e<=4294967295):rnd (k:Int) (w:Int) (cast8 [a,b,c,d,e,f,g,h])=cast8 [(h+bs1N e+chN e f g+k+w+ (bs0N a+majN a b c))%4294967296,a,b,c,(d+ (h+bs1N e+chN e f g+k+w))%4294967296,e,f,g]:=by
 have j:t1S (k:Int) (w:Int) (cast8 [a,b,c,d,e,f,g,h])=((h+bs1N e+chN e f g+k+w:Nat):Int):=by show (h:Int)+bs1 (e:Int)+chW (e:Int) (f:Int) (g:Int)+k+w=_;rw [j8y,j8Q m];omega
 have o:t2S (cast8 [a,b,c,d,e,f,g,h])=((bs0N a+majN a b c:Nat):Int):=by show bs0 (a:Int)+majW (a:Int) (b:Int) (c:Int)=_;rw [j8L,j6F];omega
 unfold rnd;rw [j,o];simp only [cast8,Az,BS,Bm,Bg];unfold W32;congr 1
def kN(t:Nat):Nat:=(kS t).toNat
def j6d{t:Nat}(h:t<64):((kN t:Nat):Int)=kS t:=by have:=j8K t h;unfold kN;omega
def z7W(b:List UInt8)(h:List Int):∀ (n t:Nat) (a j c d e f g k:Nat),e<=4294967295->t+n<=64->rnds b h t=cast8 [a,j,c,d,e,f,g,k]->
 rnds b h (t+n)=cast8 (rndN ((List.range' t n).map kN) ((List.range' t n).map (wN b)) a j c d e f g k)
 |0,t,a,j,c,d,e,f,g,k,he,ht,hr=>hr
 |n+1,t,a,j,c,d,e,f,g,k,he,ht,hr=>by rw [List.range'_succ,Az,Az,rndN,q0S,q0S,q0S];have m:rnds b h (t+1)=rnd (kS t) (wS b t) (rnds b h t):=rfl;rw [hr,<-j6d (by omega),<-q4n,j8N he] at m;have:=z7W b h n (t+1) _ _ _ _ _ _ _ _ (by omega) (by omega) m;rw [show t+1+n=t+ (n+1) by omega] at this;exact this
def kList:List Nat:=dat_ref04_constants.map Int.toNat
def j0Y:(List.range' 0 64).map kN=kList:=by decide
theorem z9u(b:List UInt8):∀t,(wsR b t).reverse=(List.range t).map (wN b)
 |0=>rfl
 |t+1=>by rw [wsR,List.reverse_cons,z9u b t,BI,Bn];rfl
def wbN(b:List UInt8)(t:Nat):Nat:=256* (256* (256* (b.getD (4*t) 0).toNat+ (b.getD (4*t+1) 0).toNat)+ (b.getD (4*t+2) 0).toNat)+ (b.getD (4*t+3) 0).toNat
def j7s(b:List UInt8){t:Nat}(h:t<16):wbN b t=wN b t:=by have a:=q4n b t;rw [j3B h] at a;simp only [wdP,byI,AG] at a;unfold wbN;omega
def wbR(b:List UInt8):Nat->List Nat->List Nat
 |0,l=>l
 |n+1,l=>forceN (wbN b (15-n)) λw=>wbR b n (w :: l)
def j2Q(b:List UInt8):∀n,n<=16->wbR b n (wsR b (16-n))=wsR b 16
 |0,_=>rfl
 |n+1,h=>by rw [wbR,q0S,j7s b (by omega)];have:=j2Q b n (by omega);rw [show 16-n=(15-n)+1 by omega] at this;rw [show 16- (n+1)=15-n by omega];exact this
def blkE(a b c d e f g h:Nat):List Nat->List Nat
 | [x0,x1,x2,x3,x4,x5,x6,x7]=>[(a+x0)%4294967296,(b+x1)%4294967296,(c+x2)%4294967296,(d+x3)%4294967296,(e+x4)%4294967296,(f+x5)%4294967296,(g+x6)%4294967296,(h+x7)%4294967296]
 |_=>[]
def blkN(bl:List UInt8)(a b c d e f g h:Nat):List Nat:=blkE a b c d e f g h (rndN kList (schedN 48 (wbR bl 16 [])).reverse a b c d e f g h)
def blkF(bl:List UInt8):List Nat->List Nat
 | [a,b,c,d,e,f,g,h]=>forceN a λa=>forceN b λb=>forceN c λc=>forceN d λd=>forceN e λe=>forceN f λf=>forceN g λg=>forceN h λh=>blkN bl a b c d e f g h
 |_=>[]
def z7E(j:List UInt8)(a b c d e f g h:Nat):blkF j [a,b,c,d,e,f,g,h]=blkN j a b c d e f g h:=by simp only [blkF,q0S]
variable {r:List Nat}
theorem j6i(a b c d e f g h:Nat)(k:r.length=8):(blkE a b c d e f g h r).length=8/\∀x∈blkE a b c d e f g h r,x<=4294967295:=by
 match r,k with
 | [x0,x1,x2,x3,x4,x5,x6,x7],_=>refine ⟨rfl,λx j=> ?_⟩;simp only [blkE,Ba,Cl,or_false] at j;rcases j with rfl|rfl|rfl|rfl|rfl|rfl|rfl|rfl<;>omega
def j4u(a b c d e f g h:Nat)(j:r.length=8):((List.range 8).map λi=>((cast8 [a,b,c,d,e,f,g,h]).getD i 0+ (cast8 r).getD i 0)%W32)=cast8 (blkE a b c d e f g h r):=by
 match r,j with
 | [x0,x1,x2,x3,x4,x5,x6,x7],_=>simp [cast8,blkE,BI,W32]
def z0a:∀ (j ws:List Nat) (a b c d e f g h:Nat),(rndN j ws a b c d e f g h).length=8
 | [],_,a,b,c,d,e,f,g,h=>by unfold rndN;rfl
 |_ :: _,[],a,b,c,d,e,f,g,h=>by unfold rndN;rfl
 |k :: j,w :: ws,a,b,c,d,e,f,g,h=>by rw [rndN,q0S,q0S,q0S];exact z0a j ws _ _ _ _ _ _ _ _
def j3V(a:List UInt8):(List.range' 0 64).map (wN a)=(schedN 48 (wbR a 16 [])).reverse:=by have b:wbR a 16 []=wsR a 16:=j2Q a 16 (by decide);rw [b,z4L a 48 16 (by decide),z9u,List.range_eq_range']
theorem j6t(j:List UInt8){a b c d e f g h:Nat}(m:e<=4294967295):blkS j (cast8 [a,b,c,d,e,f,g,h])=cast8 (blkF j [a,b,c,d,e,f,g,h]):=by have k:=z7W j (cast8 [a,b,c,d,e,f,g,h]) 64 0 a b c d e f g h m (by decide) rfl;rw [j0Y,j3V] at k;rw [z7E];unfold blkN blkS;have o:=z0a kList (schedN 48 (wbR j 16 [])).reverse a b c d e f g h;generalize rndN kList (schedN 48 (wbR j 16 [])).reverse a b c d e f g h=r at*;rw [Ag] at k;rw [k];exact j4u a b c d e f g h o
def hashF(p:List UInt8):Nat->List Nat
 |0=>[0x6a09e667,0xbb67ae85,0x3c6ef372,0xa54ff53a,0x510e527f,0x9b05688c,0x1f83d9ab,0x5be0cd19]
 |k+1=>blkF ((p.take (64*k+64)).drop (64*k)) (hashF p k)
def j5T(j:List UInt8){l:List Nat}(h:l.length=8):(blkF j l).length=8/\∀x∈blkF j l,x<=4294967295:=by
 match l,h with
 | [a,b,c,d,e,f,g,h],_=>rw [z7E];exact j6i a b c d e f g h (z0a _ _ _ _ _ _ _ _ _ _)
def z4R(p:List UInt8):∀k,(hashF p k).length=8/\∀x∈hashF p k,x<=4294967295
 |0=>⟨rfl,λx a=>by simp [hashF] at a;omega⟩
 |k+1=>j5T _ (z4R p k).1
theorem z3u(p:List UInt8):∀k,hashS p k=cast8 (hashF p k)
 |0=>rfl
 |k+1=>by
  rw [hashS,z3u p k,hashF];have h:=z4R p k;generalize hashF p k=l at*;match l,h with
  | [a,b,c,d,e,f,g,h'],⟨_,h2⟩=>exact j6t _ (h2 e (by simp))
def wordF(l:List Nat)(i:Nat):UInt8:=UInt8.ofNat ((l.getD (i / 4) 0) / 2^ (24-8* (i%4))%256)
def shaF(b:List UInt8):List UInt8:=(List.range 32).map (wordF (hashF (padS b) (blksN b)))
theorem z9p(b:List UInt8):shaS b=shaF b:=by
 unfold shaS shaF bytesS;rw [z3u];apply BM;intro i hi;have key:∀ (l:List Nat) (j:Nat),((cast8 l).getD j 0).toNat=l.getD j 0:=λl j=>by unfold cast8;rw [Ae,Ae,AF];cases l[j]?<;>rfl
 unfold wordB wordF;rw [key]
end Go.Proofs.YthbcodbcndiapaaGreatDoor