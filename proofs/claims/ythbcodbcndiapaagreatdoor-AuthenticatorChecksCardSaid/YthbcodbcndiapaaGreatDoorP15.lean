/- Profiles: contracts: the reference opens sealed strings. -/
import Derived.Test.YthbcodbcndiapaaGreatDoorP14
import Derived.Lib.MakeNoZero
import Derived.Laws.Externs
set_option linter.all false
namespace Go.Proofs.YthbcodbcndiapaaGreatDoor
open Go Go.Sx Go.Proofs
set_option maxRecDepth 100000
set_option maxHeartbeats 40000000
def z5D(c:List UInt8)(h:32<=c.length):(exchS c).length=c.length:=by unfold exchS;simp only [Ab,Ak,Aj];omega
def z3N(key iv p:List UInt8)(hi:iv.length=16)(h1:16<=p.length):(ctsE key iv p).length=p.length:=by
 have hc:=q6b key iv (zpL p (zpN p.length)) hi;rw [z2m] at hc;have hz:zpN p.length=(16-p.length%16)%16:=rfl;unfold ctsE;simp only;split
 . omega
 rw [Ak,z5D _ (by omega)];omega
def z7D(w iv ch:List UInt8)(hi:iv.length=16):(unchS w iv ch).length=16* (ch.length / 16):=(j0e w iv ch hi _ (by omega)).2
def z4y(key iv c:List UInt8)(hi:iv.length=16)(h1:16<=c.length):(ctsD key iv c).length=c.length:=by
 unfold ctsD;split
 . rw [q2i];omega
 rw [Ak,z7D _ _ _ hi,z7H _ _ (by omega)];unfold whN;omega
theorem j2w:z16.length=16:=rfl
def ciS(k:Key)(u:Nat)(conf plain:List UInt8):List UInt8:=if k.1=1 then ctsE (dkS k u 170) z16 (conf++plain) else conf++ksS (dkS k u 170) conf plain
def unS(k:Key)(u:Nat)(c:List UInt8):List UInt8:=if k.1=1 then (ctsD (dkS k u 170) z16 c).drop 16 else ksS (dkS k u 170) (c.take 16) (c.drop 16)
def seS(k:Key)(u:Nat)(conf plain:List UInt8):List UInt8:=ciS k u conf plain++tg9S k u (ciS k u conf plain)
def opS(k:Key)(u:Nat)(sp sv:Int)(sb:List UInt8):List UInt8×Int:=
 if uOk k u=true then
  if sp=k.1∧(sv=k.2.1∨sv=0∨k.2.1=0) then
   if sb.length<16+k.2.2.length then ([],4)
   else if 65552+k.2.2.length<sb.length then ([],5)
   else if tg9S k u (sb.take (sb.length-k.2.2.length))=sb.drop (sb.length-k.2.2.length) then (unS k u (sb.take (sb.length-k.2.2.length)),0)
   else ([],10)
  else ([],9)
 else ([],2)
theorem q7n{k:Key}{u:Nat}(h:uOk k u=true):vKey k=true∧u<=1023∧((k.2.2.length:Nat):Int)=keyLen k.1∧k.2.2.length<=32∧(k.1=1->k.2.2.length=16)∧(k.1≠1->k.1=2∧k.2.2.length=32):=by
 unfold uOk at h;simp only [Am,decide_eq_true_eq] at h;have hv:=h.1;unfold vKey at hv;simp only [Am,decide_eq_true_eq] at hv;have h1:=hv.2.1;have h2:=hv.1;refine ⟨h.1,by omega,h1,?_⟩;unfold keyLen at h1 h2;split at h1
 . rename_i hp;exact ⟨by omega,fun _=>by omega,fun hn=>absurd hp hn⟩
 rename_i hp;split at h1
 . rename_i hp2;exact ⟨by omega,fun hn=>absurd hn hp,fun _=>⟨hp2,by omega⟩⟩
 rename_i hp2;rw [if_neg hp,if_neg hp2] at h2;exact absurd rfl h2
def z8a(k:Key)(u:Nat)(conf plain:List UInt8)(hc:conf.length=16):(ciS k u conf plain).length=16+plain.length:=by
 unfold ciS;split
 . rw [z3N _ _ _ rfl (by rw [Ab];omega),Ab,hc]
 rw [Ab,q9r,hc]
theorem j1s(k:Key)(u:Nat)(c:List UInt8):(tg9S k u c).length=if k.1=1 then 16 else 32:=by
 unfold tg9S;split
 . rw [Ak,q5Q];rfl
 rw [q5Q]
def icTail:Nat->IC->IC
 |0,c=>c
 |n+1,.seq _ b=>icTail n b
 |_,c=>c
attribute [go_sem] icTail
def j3z(k:Key)(u:Nat)(conf plain:List UInt8)(hc:conf.length=16):unS k u (ciS k u conf plain)=plain:=by
 unfold unS ciS;by_cases h:k.1=1
 . rw [if_pos h,if_pos h,j3H _ _ _ rfl (by rw [Ab];omega),BX hc]
 rw [if_neg h,if_neg h,Df hc,BX hc,j4a]
theorem j7i(k:Key)(u:Nat)(conf plain:List UInt8)(hu:uOk k u=true)(hc:conf.length=16)(hp:plain.length<=65536):opS k u k.1 k.2.1 (seS k u conf plain)=(plain,0):=by
 obtain ⟨_,_,_,_,h1,h2⟩:=q7n hu;have hcl:=z8a k u conf plain hc;have htl:(tg9S k u (ciS k u conf plain)).length=k.2.2.length:=by
  rw [j1s];split
  . rename_i h;rw [h1 h]
  rename_i h;rw [(h2 h).2]
 have hsl:(seS k u conf plain).length=16+plain.length+k.2.2.length:=by unfold seS;rw [Ab,hcl,htl]
 have e1:(seS k u conf plain).length-k.2.2.length=(ciS k u conf plain).length:=by omega
 unfold opS;rw [if_pos hu,if_pos ⟨rfl,.inl rfl⟩,if_neg (by omega),if_neg (by omega),e1];unfold seS;rw [B1,List.drop_left,if_pos rfl,j3z k u conf plain hc]
def uns_eq'(iv:List UInt8)(hf:∀c:UInt8,iv.getD c.toNat 0=invS c)(x:List UInt8):(fS fun j=>iv.getD ((fS fun j=>x.getD (srcU j) 0).getD j 0).toNat 0)=unsS x:=by unfold unsS;refine q2J fun j hj=> ?_;have e:=q7E (fun j=>x.getD (srcU j) 0) hj;rw [hf];exact congrArg invS e
theorem j6e(x:List UInt8):(fS fun j=>(invP 256).getD ((fS fun j=>x.getD (srcU j) 0).getD j 0).toNat 0)=unsS x:=uns_eq' (invP 256) (fun _=>rfl) x
def decH(cp:CipT.den)(b k:List UInt8)(G:List SObj):List SObj:=.row PasT [(some cp,(b,k))] :: .cells 282 [.rptr 0 PasT 0 0] :: .cells 1 [opF 268,opF 269,opF 270,opF 271] :: .cells 287 [.csl 2 .u8 0 0 4] :: G
def pdS(w b:List UInt8)(n:Nat):List UInt8:=if n<=10 then decA w b n else decS w b
def pqS(key:List UInt8):Nat->List UInt8
 |0=>z16
 |n+1=>rkK key (10-n)
def decOps(cp:CipT.den)(key:List UInt8)(hk:key.length=16)(hcp:cp=cipS key){i:Nat}(hi:i<11){rk x:List UInt8}(hrk:rk=rkK key i)(hpl:x.length=16):
 ∃a s2 s3 t2 t3 t4:List UInt8,OpE 268 (some cp,(x,rk)) (some cp,(a,rk))∧OpE 270 (some cp,(a,rk)) (some cp,(s2,rk))∧OpE 271 (some cp,(s2,rk)) (some cp,(s3,rk))∧
  OpE 269 (some cp,(a,rk)) (some cp,(t2,rk))∧OpE 270 (some cp,(t2,rk)) (some cp,(t3,rk))∧OpE 271 (some cp,(t3,rk)) (some cp,(t4,rk))∧
  a=addS x (wordsS key) i∧(i=10->s3=rndD (wordsS key) i x)∧(i<10->t4=rndD (wordsS key) i x):=by
 have hrl:rk.length=16:=by rw [hrk];exact q9c hk hi
 have hc12:(cp.1.2:List UInt8)=invP 256:=by rw [hcp];rfl
 have hre:∀y:List UInt8,OpE 271 (some cp,((fS fun j=>y.getD (srcU j) 0),rk)) (some cp,(unsS y,rk)):=by intro y;have h:=z5o cp (fS fun j=>y.getD (srcU j) 0) rk (q1U _);rw [hc12] at h;have he:=j6e y;rw [he] at h;exact h
 refine ⟨_,_,_,_,_,_,z3R (some cp) x rk hpl hrl,q8M (some cp) (addS x rk 0) rk (q1U _),hre _,z9v (some cp) (addS x rk 0) rk (q1U _),q8M (some cp) (mixS (addS x rk 0) [14,11,13,9]) rk (q1U _),hre _,?_,?_,?_⟩
 . rw [hrk,q5y]
 . intro h;unfold rndD mixD;rw [hrk,q5y,if_neg (by omega)]
 intro h;unfold rndD mixD;rw [hrk,q5y,if_pos h]
def decHs(cp:CipT.den)(key b:List UInt8)(i:Nat)(H':List SObj):Prop:=∃G,(∀xs,frzObH 0 PasT xs G)∧H'=decH cp (pdS (wordsS key) b i) (pqS key i) G
theorem z4D(key b:List UInt8)(hk:key.length=16)(hb:b.length=16):PC Tryz.prog 249 [.iptr CipT (cipS key) 0,.isl .u8 b] (.tup [.isl .u8 (decS (wordsS key) b),rI 0]):=by
 refine q0q rfl rfl (q3O (q1C noFG fi249 ?_));letI:Ghost:=topG noFG [];have hch:=z0K key b hb;have hrk:=q6j key true hk;have hit:=q6s key true hk;unfold rkF at hrk;obtain ⟨cp,hcp⟩:∃cp,cp=cipS key:=⟨_,rfl⟩;rw [<-hcp] at hch hrk hit⊢;have htb:List.take 16 b=b:=Ad (by omega);refine gQ ?_;refine q0a hch ?_;refine uQ 600 _ ?_;simp (maxSteps:=3000000) only [hb,htb,z6h,go_sem,↓zA,↓reduceIte,↓reduceDIte] <;>try simp only [zB]
 refine cQ hrk ?_;refine z5z (decHs cp key b) (fun _ _ _=>False) rfl rfl rfl hit (fun i n args' new h=>by rw [h.1];rfl) ⟨[],fun _=>trivial,rfl⟩ rfl ?_ ?_ ?_
 . rintro i _ args' new hi ⟨G,hG,rfl⟩ ⟨rfl,rfl⟩ L1 L2;letI:Ghost:=pinG noFG L1;rw [Ah];unfold decH;have hri:rkI true i=10-i:=rfl;obtain ⟨r,hr⟩:∃r,r=10-i:=⟨_,rfl⟩;have hr11:r<11:=by omega
   have hrl:(rkK key r).length=16:=q9c hk hr11;rw [hri,<-hr];obtain ⟨rk,hrk⟩:∃rk,rk=rkK key r:=⟨_,rfl⟩;rw [<-hrk] at hrl⊢;refine uQ 600 _ ?_;simp only [putL,Bv];with_reducible refine sya1 hrl ?_
   letI:Ghost:=pinG noFG L2;have htr:List.take 16 rk=rk:=Ad (by omega);have hpd:pdS (wordsS key) b i=decA (wordsS key) b i:=if_pos (by omega);have hpl:(pdS (wordsS key) b i).length=16:=by rw [hpd];exact j1q _ _ hb _
   obtain ⟨a,s2,s3,t2,t3,t4,had,hsh,hre,hmi,hsh4,hre4,h0,h10,h4⟩:=decOps cp key hk hcp hr11 hrk hpl;have e0:r=0->pdS (wordsS key) b (i+1)=a:=by
    intro h;have hi:i=10:=by omega
    rw [h0,hpd,h,hi];rfl
   have e10:r=10->pdS (wordsS key) b (i+1)=s3:=by
    intro h;have hi:i=0:=by omega
    rw [h10 h,hpd,h,hi];rfl
   have e4:0<r->r<10->pdS (wordsS key) b (i+1)=t4:=by intro h h';have hu:pdS (wordsS key) b (i+1)=decA (wordsS key) b (i+1):=if_pos (by omega);rw [h4 h',hu,decA,hpd,hr]
   have ek:pqS key (i+1)=rk:=by rw [hrk,hr];rfl
   have eH:∀ {G':List SObj} {y:List UInt8},(∀xs,frzObH 0 PasT xs G')->pdS (wordsS key) b (i+1)=y->decHs cp key b (i+1) (decH cp y rk G'):=by intro G' y hg hy;exact ⟨G',hg,by rw [hy,ek]⟩
   clear h0 h10 h4 hcp hch hrk hpd;generalize pdS (wordsS key) b i=x at*;generalize pqS key i=rk0 at*;rcases Cr r with h|h
   . have f1:(((r:Nat):Int)=0)=True:=eq_true (by omega);have e:=e0 h;clear e0 e10 e4 hsh hre hmi hsh4 hre4;refine uQ 600 _ ?_;simp (maxSteps:=3000000) only [f1,hrl,htr,Af,true_and,List.append_assoc,getA,getA0,setA,setA0,Ab,Nat.add_assoc,go_sem,↓zA,↓reduceIte,↓reduceDIte] <;>try simp only [zB]
     refine q0i [0,G.length+5] (z7k 268 _ _ had) rfl (by simp) ?_ rfl rfl ?_
     . simp (maxSteps:=3000000) only [atH,sig,SObj.ren,SV.ren,SV.renL,SObj.live,opF,List.append_assoc,getA,getA0,setA,setA0,Ab,Nat.add_assoc,go_sem,↓zA,↓reduceIte,↓reduceDIte] <;>try simp only [zB]
     simp only [afterO,Out.ren,SV.ren,mgA,sig,SObj.ren,SV.renL,List.set,List.map,Ah,opF];refine aQ ?_;exact eH (fun xs=>q1v (hG xs) ⟨trivial,⟨trivial,trivial⟩,trivial⟩) e
   have f1:(((r:Nat):Int)=0)=False:=eq_false (by omega);rcases AI r 10 with h'|h'
   . have f2:(((r:Nat):Int)=10)=False:=eq_false (by omega);have e:=e4 h h';clear e0 e10 e4 hsh hre;refine uQ 600 _ ?_;simp (maxSteps:=3000000) only [f1,f2,hrl,htr,Af,true_and,List.append_assoc,getA,getA0,setA,setA0,Ab,Nat.add_assoc,go_sem,↓zA,↓reduceIte,↓reduceDIte] <;>try simp only [zB]
     refine q0i [0,2] (z6G 268 269 270 271 _ _ _ _ _ had hmi hsh4 hre4) rfl (by simp) ?_ rfl rfl ?_
     . simp (maxSteps:=3000000) only [atH,sig,SObj.ren,SV.ren,SV.renL,SObj.live,opF,List.append_assoc,getA,getA0,setA,setA0,Ab,Nat.add_assoc,go_sem,↓zA,↓reduceIte,↓reduceDIte] <;>try simp only [zB]
     simp only [afterO,Out.ren,SV.ren,mgA,sig,SObj.ren,SV.renL,List.set,List.map,Ah,opF];refine aQ ?_;exact eH (fun xs=>q1v (hG xs) ⟨trivial,trivial⟩) e
   have f2:(((r:Nat):Int)=10)=True:=eq_true (by omega);have e:=e10 (by omega);clear e0 e10 e4 hmi hsh4 hre4;refine uQ 600 _ ?_;simp (maxSteps:=3000000) only [f1,f2,hrl,htr,Af,true_and,List.append_assoc,getA,getA0,setA,setA0,Ab,Nat.add_assoc,go_sem,↓zA,↓reduceIte,↓reduceDIte] <;>try simp only [zB]
   refine q0i [0,G.length+5] (z6H 268 270 271 _ _ _ _ had hsh hre) rfl (by simp) ?_ rfl rfl ?_
   . simp (maxSteps:=3000000) only [atH,sig,SObj.ren,SV.ren,SV.renL,SObj.live,opF,List.append_assoc,getA,getA0,setA,setA0,Ab,Nat.add_assoc,go_sem,↓zA,↓reduceIte,↓reduceDIte] <;>try simp only [zB]
   simp only [afterO,Out.ren,SV.ren,mgA,sig,SObj.ren,SV.renL,List.set,List.map,Ah,opF];refine aQ ?_;exact eH (fun xs=>q1v (hG xs) ⟨trivial,⟨trivial,trivial,trivial,trivial⟩,trivial⟩) e
 . rintro D Hn ⟨G,hG,rfl⟩;letI:Ghost:=topG noFG [D];have hpl:(pdS (wordsS key) b 11).length=16:=q5f _ _;have he:decS (wordsS key) b=pdS (wordsS key) b 11:=rfl;rw [he];clear hcp hch hrk he;generalize pdS (wordsS key) b 11=x at*;have hxt:List.take 16 x=x:=Ad (by omega);generalize pqS key 11=rk0 at*;unfold decH;refine uQ 6 _ ?_;with_reducible refine sxaE ?_
   refine z2B (ty:=PasT) 64 0 0 1 rfl rfl rfl (Nat.succ_pos _) (show 1<=1125899906842624 by decide) ?_ ?_ ?_
   . exact ⟨trivial,⟨trivial,trivial⟩,⟨trivial,trivial,trivial,trivial,trivial⟩,⟨trivial,trivial⟩,hG _⟩
   . with_reducible refine sxaE ?_;trivial
   with_reducible refine sxaE ?_
   refine aQ ?_;refine ⟨⟨by decide,Af _⟩,q0a (hxt.symm▸q2n x (by omega)) ?_⟩;refine aQ ?_;simp [SV.leV,hxt]
 rintro D i ex _ hi h;exact h.elim
end Go.Proofs.YthbcodbcndiapaaGreatDoor
namespace Go.Sx
open Go

variable {P:Program} {AQ:Ex->List SV->List SObj->Prop} {k0:Nat} {k:List It} {t:List SV} {H:List SObj}

def flatC:Code->List Code
 |.seq a b=>flatC a++flatC b
 |c=>[c]
def q4C[Ghost]{F:Fence}{n:Nat}{E:EnD}{Q:Exit->Act->World->Prop}{id:Nat}{a:Act}{w:World}{k:List It}:∀ (l:List Code),exitT F n P E Q id (l.map .code++k) a w ↔ exitT F n P E Q id k a w
 | []=>Iff.rfl
 |c :: l=>by simp only [AC,AH,exitT];exact q4C l
def q5q[Ghost]{F:Fence}{n:Nat}{E:EnD}{Q:Exit->Act->World->Prop}:∀ (c:Code) (k:List It) (a:Act) (w:World),wpT F n P E Q ((flatC c).map .code++k) a w->wpT F n P E Q (.code c :: k) a w
 |.seq x y,k,a,w,h=>by
  rw [flatC,Br,List.append_assoc] at h;have h1:=q5q x _ a w h;simp only [wpT] at h1⊢;refine wpIn_seq (wpIn_mono h1 fun e a w hq=> ?_);cases e with
  |normal=>have h2:=q5q y k a w hq;simp only [wpT] at h2;exact h2
  |exit id=>exact (q4C _).1 hq
  |_=>exact hq
 |.skip,_,_,_,h=>h
 |.region ..,_,_,_,h=>h
 |.cond ..,_,_,_,h=>h
 |.block ..,_,_,_,h=>h
 |.loop _,_,_,_,h=>h
 |.rangeFunc ..,_,_,_,h=>h
 |.exit _,_,_,_,h=>h
 |.scope _,_,_,_,h=>h
 |.label _,_,_,_,h=>h
 |.goto _,_,_,_,h=>h
 |.ret,_,_,_,h=>h
 |.refuse ..,_,_,_,h=>h

def compAll(P:Program):List Code->Option (List IC)
 | []=>some []
 |c :: cs=>match comp P c,compAll P cs with
  |some x,some l=>some (x :: l)
  |_,_=>none
theorem q8Q:∀ {cs:List Code} {l:List IC},compAll P cs=some l->cs.map (comp P)=l.map some
 | [],l,h=>by cases h;rfl
 |c :: cs,l,h=>by
  unfold compAll at h;split at h
  . rename_i x l' h1 h2;cases h;simp only [AC,h1,q8Q h2]
  cases h
structure XI where
 ntmps:Nat
 results:List ResultVar
 pre:List IC
 reg:Array Oper
 post:List IC
def rel_codes':∀ {cs:List Code} {l:List IC},cs.map (comp P)=l.map some->RelT P (l.map .ic) (cs.map .code)
 | [],[],_=>rfl
 |c :: cs,ic :: l,h=>by simp only [AC,List.cons.injEq] at h;exact ⟨c,_,rfl,h.1,rel_codes' h.2⟩
 | [],_ :: _,h=>by simp at h
 |_ :: _,[],h=>by simp at h
theorem q6o:∀ (cs:List Code),noStop (cs.map .code)=true
 | []=>rfl
 |_ :: cs=>q6o cs

variable {P:Program} {AQ:Ex->List SV->List SObj->Prop} {k0:Nat}

/- Values that hold nothing immutable. -/
mutual
def SV.noI:SV->Bool
 |.any|.raw _|.ptr .. |.rptr .. |.bld .. |.osl .. |.csl .. |.mp _=>true
 |.agg l=>SV.noIL l
 |.tup l=>SV.noIL l
 |.fn _ a b=>SV.noIL a&& SV.noIL b
 |.iface _ x=>SV.noI x
 |_=>false
def SV.noIL:List SV->Bool
 | []=>true
 |s :: l=>SV.noI s&& SV.noIL l
end
mutual
theorem z8s{C:Cx}{I:Nat->Prop}:∀ {s:SV} {v:Value},s.noI=true->s.den C v->s.den {C with I:=I} v
 |.any,_,_,_=>by rw [SV.den];trivial
 |.raw u,v,_,h=>by rw [SV.den] at h⊢;exact h
 |.isl ..,_,h,_=>by simp [SV.noI] at h
 |.fsl ..,_,h,_=>by simp [SV.noI] at h
 |.iptr ..,_,h,_=>by simp [SV.noI] at h
 |.dat ..,_,h,_=>by simp [SV.noI] at h
 |.imap ..,_,h,_=>by simp [SV.noI] at h
 |.ptr h off,v,_,d=>by rw [SV.den] at d⊢;exact d
 |.rptr h t i k,v,_,d=>by rw [SV.den] at d⊢;exact d
 |.bld h t n,v,_,d=>by rw [SV.den] at d⊢;exact d
 |.osl h t off n,v,_,d=>by rw [SV.den] at d⊢;exact d
 |.csl h t k i n,v,_,d=>by rw [SV.den] at d⊢;exact d
 |.mp h,v,_,d=>by rw [SV.den] at d⊢;exact d
 |.agg l,v,h,d=>by rw [SV.den] at d⊢;obtain ⟨vs,hv,hl⟩:=d;exact ⟨vs,hv,q4H (by simpa [SV.noI] using h) hl⟩
 |.tup l,v,h,d=>by rw [SV.den] at d⊢;obtain ⟨vs,hv,hl⟩:=d;exact ⟨vs,hv,q4H (by simpa [SV.noI] using h) hl⟩
 |.fn f l1 l2,v,h,d=>by rw [SV.den] at d⊢;obtain ⟨v1,v2,hv,h1,h2⟩:=d;simp [SV.noI] at h;exact ⟨v1,v2,hv,q4H h.1 h1,q4H h.2 h2⟩
 |.iface T x,v,h,d=>by rw [SV.den] at d⊢;obtain ⟨u,hv,h1⟩:=d;exact ⟨u,hv,z8s (by simpa [SV.noI] using h) h1⟩
theorem q4H{C:Cx}{I:Nat->Prop}:∀ {l:List SV} {vs:List Value},SV.noIL l=true->SV.denL C l vs->SV.denL {C with I:=I} l vs
 | [],_,_,h=>by rw [SV.denL] at h⊢;exact h
 |s :: l,_,hc,h=>by rw [SV.denL] at h⊢;obtain ⟨v,us,rfl,h1,h2⟩:=h;simp [SV.noIL] at hc;exact ⟨v,us,rfl,z8s hc.1 h1,q4H hc.2 h2⟩
end
def SObj.noI:SObj->Bool
 |.cells _ cs=>SV.noIL cs
 |.row t _=>t.flat
 |.map _ _ vs=>SV.noIL vs
 |_=>true
def TabT.flat{C C':Cx}{H H':List SObj}(hf:(datList.all fun e=>e.2.1.flat)=true)(h:TabT C H)(e:C'.w=C.w)(ho:∀b,OwnB C' H' b->OwnB C H b):TabT C' H' where
 tab:=fun x hx=>by obtain ⟨h1,T,fz,h2⟩:=h.tab x hx;exact ⟨⟨by rw [e];exact h1.1,fun y=>h1.2 (ho _ y)⟩,T,fz,by rw [e];exact h2⟩
 dat:=fun x hx=>by obtain ⟨h1,us,h2,h3⟩:=h.dat x hx;refine ⟨⟨by rw [e];exact h1.1,fun y=>h1.2 (ho _ y)⟩,us,Ty.rel_flat _ _ _ (Bb.1 hf x hx) h2,fun j u hu=> ?_⟩;rw [e];exact h3 j u hu
theorem j6d{l:List IC}:∀x∈(l.map IT.ic),∃c,x= .ic c:=fun x hx=>by obtain ⟨c,_,rfl⟩:=By.1 hx;exact ⟨c,rfl⟩
variable {args:List SV}{d:Option Tmp}
def z9M{Ds:List Nat}{q:Bool}{G:List Nat}{l B N:Nat}{J:Nat->(Nat->Prop)->World->(Nat->Prop)->Prop}{vw:Nat->Nat->List SV->List SObj->Prop}{i:Nat}{T:List SObj}(T':List SObj){k:List IT}
 (hJ:FJ B J)(yg:YG P l B N J vw)(hi:i<N)(hh:∀n,∃args' new,vw i n args' new∧Hand n (.mark i :: T) (.mark i :: T') args args' new)
 (hk:∀b:Bool,(q=true->SameG G (.mark i :: T) (.mark (if b then i+1 else N+1+i) :: T'))∧ @SoundI (topG (yFG hJ) Ds) P AQ ⟨k0,k,putT t d (.raw (.bool b)),.mark (if b then i+1 else N+1+i) :: T'⟩): @YldR (topG (yFG hJ) Ds) P AQ q G l args d ⟨k0,k,t,.mark i :: T⟩:=z3F hJ yg hi hh hk

variable {P:Program} {AQ:Ex->List SV->List SObj->Prop} {k0:Nat}

def flatI:IC->List IC
 |.seq a b=>flatI a++flatI b
 |c=>[c]
def q8z:∀ {k1 k2:List IT} {l1 l2:List It},(∀x∈k1,∃c,x= .ic c)->RelT P k1 l1->RelT P k2 l2->RelT P (k1++k2) (l1++l2)
 | [],_,_,_,_,h,h2=>by cases h;exact h2
 |x :: k1,k2,l1,l2,hc,h,h2=>by obtain ⟨c,rfl⟩:=hc x (by simp);obtain ⟨c',r,rfl,h3,h4⟩:=h;exact ⟨c',r++l2,rfl,h3,q8z (fun x hx=>hc x (by simp [hx])) h4 h2⟩
theorem rel_flat:∀ (ic:IC) {c:Code},comp P c=some ic->RelT P ((flatI ic).map .ic) ((flatC c).map .code):=by
 intro ic;induction ic with
 |seq x y ihx ihy=>intro c h;obtain ⟨a,b,rfl,h1,h2⟩:=q0L h;simp only [flatI,flatC,Br];exact q8z j6d (ihx h1) (ihy h2)
 |_=>
  intro c h;have hc:flatC c= [c]:=by
   cases c with
   |seq a b=>simp only [comp] at h;split at h<;>cases h
   |_=>rfl
  rw [hc];exact ⟨c,[],rfl,h,rfl⟩

variable {P:Program} {AQ:Ex->List SV->List SObj->Prop} {k0:Nat}

def mofP(P:Program)(T:TypeId)(nm:String):Option (FuncId×Nat):=match (P.info? T).bind fun i=>i.methods.find? (·.name==nm) with
 |some m=>match m.path.toList,m.func with
  | [s],some (g,true)=>if s.deref=true then none else match P.underlying s.struct with
   |some (.struct fs)=>match fs[s.index]? with
    |some y=>match P.underlying y.type,aggOf P y.type with
     |some (.pointer _),some none=>match P.underlying T with
      |some (.struct _)=>if enters P g=true then some (g,y.offset) else none
      |_=>none
     |_,_=>none
    |none=>none
   |_=>none
  |_,_=>none
 |none=>none
variable {nm:String}{off:Nat}{s:SV}
theorem j4V{T:TypeId}{g:FuncId}(h:mofP P T nm=some (g,off)){C:Cx}{cs:List SV}{vs:List Value}(hd:SV.denL C cs vs)(hp:cs[off]?=some s)(w:World)(fuel:Nat):
 ∃v,(method (fuel+1) T (.agg vs.toArray) nm).run P w= .ok (g,v) w∧s.den C v∧enters P g=true∧∃fs,P.underlying T=some (.struct fs):=by
 unfold mofP at h;split at h
 . rename_i m hm;split at h
   . rename_i st g' hpath hfn;split at h
     . cases h
     rename_i hder;split at h
     . rename_i fs hu;split at h
       . rename_i y hy;split at h
         . rename_i el hpt hag;split at h
           . rename_i fs' hT;split at h
             . rename_i hen;cases h;obtain ⟨v,h1,h2⟩:=q4T hag hd (off:=y.offset) (s:=s) (by simpa [pick] using hp) w;rw [Bc] at hm;obtain ⟨ti,hti,hm⟩:=hm;refine ⟨v,?_,h2,hen,fs',hT⟩;have hder:st.deref=false:=by simpa using hder
               simp only [method,typeInfo,receiverAt,Place.get];simp [hti,hm,hpath,hfn,follow,run_underlying' hu,hy,hder,h1,run_underlying' hpt,Result.andThen]
             cases h
           cases h
         cases h
       cases h
     cases h
   cases h
 cases h

variable {ev:Operand->SV}{K:Out->List SObj->Prop}{f:FuncId}{rest:List Operand}
theorem z7t[Ghost]{o:Oper}{c:Call}{g x:Operand}{T:TypeId}{l:List SV}(hop:o.op= .call c)(hc:c.callee= .value g)(hg:ev g= .raw (.func (.methodOf T nm) #[] #[]))
 (ha:c.args.toList=x :: rest)(hx:ev x= .agg l)(hp:l[off]?=some s)(hm:mofP P T nm=some (f,off))(h:VCallG P f (s :: rest.map ev) H K):OpV P o ev H K:=by
 intro E C r n a next Q hw hgh hv h1 h2
 have h0:=hv g (by rw [hop];simp [Op.operands,Call.operands,hc]);have hmem:∀y∈x :: rest,y∈o.op.operands:=fun y hy=>by rw [hop];simp [Op.operands,Call.operands];exact .inr (by rw [<-Array.mem_toList_iff,ha];exact hy)
 have hx0:=hv x (hmem x (by simp));rw [hg,SV.den] at h0;rw [hx,SV.den] at hx0;obtain ⟨vs,hx0,hl⟩:=hx0;obtain ⟨v,hrun,hsv,hen,fs,hT⟩:=j4V hm hl hp C.w (P.types.size+Made.depth-1);have da:SV.denL C (rest.map ev) (rest.map a.eval):=q1R _ fun y hy=>hv y (hmem y (by simp [hy]));refine ⟨fun f _=>q4U r f,?_⟩;rw [Oper.semAt_eq _ _ _ (by rw [hop];intro c hc;cases hc)];have hargs:c.args.map a.eval=(.agg vs.toArray :: rest.map a.eval).toArray:=by rw [<-Array.toList_inj];simp [ha,hx0]
 have hrun:(execOp a.eval o).run P C.w= .ok (.enter f (v :: rest.map a.eval).toArray) C.w:=by
  have hd:P.types.size+Made.depth=P.types.size+Made.depth-1+1:=by simp [Made.depth]
  rw [<-hd] at hrun;simp [execOp,hop,resolve,hc,h0,Deferred.ofValue,invoke,hargs,run_underlying' hT,callMethod,hrun,q3d hen,Result.andThen];exact Ad (by simp)
 rw [hrun];refine ⟨(fun hd=>by cases hd),q3Q ?_⟩;refine (h E C _ hw hgh (q0d.2 ⟨_,_,rfl,hsv,da⟩)).mono ?_;rintro e w' ⟨out,H',C',hk,rfl,hw',hx,hd⟩;cases out with
 |ret s=>obtain ⟨v,rfl,hs⟩:=hd;exact h1 s v H' C' hk hw' hx hs
 |pan s=>obtain ⟨v,rfl,hs⟩:=hd;exact h2 s v H' C' hk hw' hx hs
theorem callinv{op:Op}{f:Operand}{args:List Operand}(h:compOp P op=some (.call f args)):∃c:Call,op= .call c∧c.callee= .value f∧c.args.toList=args:=by
 unfold compOp at h;repeat' split at h
 all_goals first
  |contradiction
  | (simp only [Option.some.injEq,IOp.call.injEq] at h;obtain ⟨rfl,rfl⟩:=h;exact ⟨_,rfl,by assumption,rfl⟩)
  | (simp only [Bc,Ap,Option.some.injEq,reduceCtorEq,and_false,exists_false] at h;done)
  | (simp [Bc] at h;done)
variable {l:List OpI}{td:List IT}
theorem z2Z[Ghost]{g x:Operand}{T:TypeId}{cs tm:List SV}(hg:evT tm g= .raw (.func (.methodOf T nm) #[] #[]))(hx:evT tm x= .agg cs)(hp:cs[off]?=some s)(hm:mofP P T nm=some (f,off))
 (h:CallI P AQ f (s :: rest.map (evT tm)) d ⟨k0,.ops l :: td,tm,H⟩):SoundI P AQ ⟨k0,.ops (⟨d,.call g (x :: rest),none⟩ :: l) :: td,tm,H⟩:=q0f (fun td' hr=>by
 obtain ⟨all,idx,r,rfl,ho,hr⟩:=hr;cases idx with
 |nil=>exact ho.elim
 |cons i idx=>
  obtain ⟨⟨o,ho1,ho2⟩,ho⟩:=ho;obtain ⟨hc,hd⟩:=q0H ho2;simp only at hc hd;obtain ⟨c,hop,hcal,ha⟩:=callinv hc;refine q6I (k0:=k0) (k:=r) ho1 ((q0t ho2).1 rfl) ?_;refine z7t hop hcal hg ha hx hp hm (h.2.mono fun out H' hK=> ?_);cases out with
  |ret s=>have hK':SoundI P AQ ⟨k0,.ops l :: td,putT tm d s,H'⟩:=hK;rw [hd] at hK';exact q0g hK' ⟨all,idx,r,rfl,ho,hr⟩
  |pan s=>exact hK) rfl
def j6o{g:FG}(h: @VCG (fgG g) P f args H K): @VCG (topG g []) P f args H K:=
 ⟨h.1,fun E C vs hw hg hv=>(h.2 E C vs hw ⟨hg.1,hg.2.1⟩ hv).mono fun _ _ ⟨o,H',C',k1,k2,k3,k4,k5⟩=>
  ⟨o,H',C',k1,k2,k3, @Stp.mk (topG g []) _ _ _ _ _ (@Stp.evo (fgG g) _ _ _ _ _ k4) (@Stp.ext (fgG g) _ _ _ _ _ k4) (fun hi=>
   have h9:= @Stp.inv (fgG g) _ _ _ _ _ k4 ⟨hi.1,hi.2.1⟩
   ⟨h9.1,h9.2,hi.2.2.1,fun D hD=>absurd hD (by simp)⟩),k5⟩⟩

def z0U:∀ (n t:Nat) (acc:Array Value),∃xs:List UInt8,xs.length=n∧Extern.BytealgMakeNoZero.digits n t acc=acc++(xs.map fun b=>Value.int .u8 b.toNat).toArray
 |0,_,acc=>⟨[],rfl,by simp [Extern.BytealgMakeNoZero.digits]⟩
 |n+1,t,acc=>by
  obtain ⟨xs,hl,h⟩:=z0U n (t / 256) (acc.push (.int .u8 (Int.ofNat (t%256))));refine ⟨UInt8.ofNat (t%256) :: xs,by simp [hl],?_⟩;have h9:(UInt8.ofNat (t%256)).toNat=t%256:=by simp
  rw [Extern.BytealgMakeNoZero.digits,h,AC,h9];apply Array.ext';simp
variable {n:Nat}
def j2W(w:World)(ps:Array TypeId){t e:TypeId}(ht:P.underlying t=some (.slice e))(hn:n<=140737488355328):
 ∃ (c:Nat) (xs rest:List UInt8),xs.length=n∧c=n+rest.length∧(Extern.BytealgMakeNoZero.makeNoZero ps #[t] #[.int .i64 n]).run P w= .ok (.slice (some ⟨w.heap.size,0,none⟩) n c) (w.drew.drew.alloc (.cells ((xs.map fun b=>Value.int .u8 b.toNat)++(rest.map fun b=>Value.int .u8 b.toNat)).toArray e)):=by
 have hdef:Extern.BytealgMakeNoZero.makeNoZero ps #[t] #[.int .i64 n]=
  (do
   let .slice elem<-underlying t|stuck "bytealg.MakeNoZero: slice type expected"
   if (n:Int) <0|| (n:Int) >2^ 48 then runtimePanic (.error "makeslice: len out of range")
   let cap<-choose (.appendCap (n:Int).toNat 0 elem)
   askRoom cap
   let bytes<-choose (.extern "internal/bytealg.MakeNoZero.bytes" 0)
   let a<-newRow elem (Extern.BytealgMakeNoZero.digits cap bytes #[])
   pure (.slice (some a) (n:Int).toNat cap)):=rfl
 have h1:¬(n:Int) <0:=by omega
 have h2:¬(281474976710656:Int) < (n:Int):=by omega
 obtain ⟨c,hc⟩:∃c,c=(Question.appendCap n 0 e).cut (w.tape w.drawn (.appendCap n 0 e)):=⟨_,rfl⟩;obtain ⟨xs,hl,hd⟩:=z0U c ((Question.extern "internal/bytealg.MakeNoZero.bytes" 0).cut (w.tape (w.drawn+1) (.extern "internal/bytealg.MakeNoZero.bytes" 0))) #[];have hge:n<=c:=by rw [hc];simp [Question.cut]
 refine ⟨c,xs.take n,xs.drop n,by rw [Ak];omega,by rw [Aj];omega,?_⟩;rw [hdef,<-Br,AJ];have hd':Extern.BytealgMakeNoZero.digits c ((Question.extern "internal/bytealg.MakeNoZero.bytes" 0).cut (w.tape (w.drawn+1) (.extern "internal/bytealg.MakeNoZero.bytes" 0))) #[]=(xs.map fun b=>Value.int .u8 b.toNat).toArray:=by rw [hd];simp
 rw [<-hd'];simp [run_underlying' ht,h1,h2,Question.forced,newRow,<-hc]
variable {ps:Array TypeId}{fn:Func}
theorem j4g[Ghost]{o:Oper}{c:Call}{g x:Operand}{t e:TypeId}(hop:o.op= .call c)(hc:c.callee= .value g)(hg:ev g= .fn f [] [])(ha:c.args.toList= [x])(hx:ev x= .raw (.int .i64 n))
 (hf:P.funcs[f]?=some fn)(hname:(fn.name== "runtime.NumGoroutine")=false)(hb:fn.body.isNone=true)(hn:Extern.findNext fn=none)(he:Extern.find fn=some (Extern.BytealgMakeNoZero.makeNoZero ps #[t]))(ht:P.underlying t=some (.slice e))
 (hle:n<=140737488355328)(hk:∀xs:List UInt8,xs.length=n->K (.ret (.bld H.length .u8 n)) (H++ [.row .u8 xs])):OpV P o ev H K:=by
 refine q0O (by rw [hop];intro c hc;cases hc) fun C e' hw hv=> ?_;have h0:=hv g (by rw [hop];simp [Op.operands,Call.operands,hc]);have h1:=hv x (by rw [hop];simp [Op.operands,Call.operands];exact .inr (by rw [<-Array.mem_toList_iff,ha];simp));rw [hg,SV.den] at h0;rw [hx,SV.den] at h1;obtain ⟨v1,v2,h0,d1,d2⟩:=h0;rw [q0y] at d1 d2;subst d1 d2;obtain ⟨cp,xs,rest,hl,hcp,hrun⟩:=j2W (P:=P) C.w ps ht hle;have hw2:Wd C.drew.drew H:=q2A (q2A hw);obtain ⟨q1,q2,q3⟩:=q3J (T:=e) (rest:=rest.map fun b=>Value.int .u8 b.toNat) hw2 (n:=n) (c:=cp) (q4f C.drew.drew.I C.drew.drew.w xs) hl.symm (by omega) (by simp [Ty.size,hl,hcp]);refine ⟨_,_,_,_,hk xs hl,.inl ?_,q1,((q1H C H).trans (q1H C.drew H)).trans q2,q3⟩;have hargs:c.args.map e'= #[.int .i64 n]:=by rw [<-Array.toList_inj];simp [ha,h1]
 simp [execOp,hop,resolve,hc,h0,Deferred.ofValue,invoke,hargs,run_callFunc_extern hf hname hb hn he,hrun,Result.andThen];exact ⟨rfl,rfl⟩
theorem j5q[Ghost]{x:Operand}{t e:TypeId}{tm:List SV}(hx:evT tm x= .raw (.int .i64 n))
 (hf:P.funcs[f]?=some fn)(hname:(fn.name== "runtime.NumGoroutine")=false)(hb:fn.body.isNone=true)(hn:Extern.findNext fn=none)(he:Extern.find fn=some (Extern.BytealgMakeNoZero.makeNoZero ps #[t]))(ht:P.underlying t=some (.slice e))
 (hle:n<=140737488355328)(h:∀xs:List UInt8,xs.length=n->SoundI P AQ ⟨k0,.ops l :: td,putT tm d (.bld H.length .u8 n),H++ [.row .u8 xs]⟩):SoundI P AQ ⟨k0,.ops (⟨d,.call (.func f) [x],none⟩ :: l) :: td,tm,H⟩:=q0f (fun td' hr=>by
 obtain ⟨all,idx,r,rfl,ho,hr⟩:=hr;cases idx with
 |nil=>exact ho.elim
 |cons i idx=>
  obtain ⟨⟨o,ho1,ho2⟩,ho⟩:=ho;obtain ⟨hc,hd⟩:=q0H ho2;simp only at hc hd;obtain ⟨c,hop,hcal,ha⟩:=callinv hc;refine q6I (k0:=k0) (k:=r) ho1 ((q0t ho2).1 rfl) ?_;refine j4g hop hcal rfl ha hx hf hname hb hn he ht hle fun xs hl=> ?_;have hK':=h xs hl;rw [hd] at hK'
  exact q0g hK' ⟨all,idx,r,rfl,ho,hr⟩) rfl
end Go.Sx
namespace Go.Proofs.YthbcodbcndiapaaGreatDoor
open Go Go.Sx Go.Proofs
set_option maxRecDepth 100000
set_option maxHeartbeats 40000000
def modS(key iv:List UInt8):List SV:=[.iptr CipT (cipS key) 0,.isl .u8 iv]
theorem z6i(l:List UInt8)(hl:l.length<=140737488355328):VC Tryz.prog 105 [.isl .u8 l] [] (RowK .u8 l):=by refine z7A ?_;refine rQ fi105 ?_;intro b hb;refine ⟨fun h=>j0j (hb h),fun h=>⟨⟨by omega,by omega⟩,?_⟩⟩;exact j0s (h:=1) rfl (by omega)
theorem q9q(key iv:List UInt8)(hk:key.length=16)(hi:iv.length=16):PC Tryz.prog 241 [.isl .u8 key,.isl .u8 iv] (.tup [.agg (modS key iv),rI 0]):=by have f1:(((iv.length:Nat):Int)=16)=True:=eq_true (by omega);have h1:=j6G key hk;unfold modS;generalize cipS key=cp at*;refine q0q rfl rfl ?_;refine ry1 fi241 f1 ?_;refine cQ h1 ?_;refine cQ (q2n iv (by omega)) ?_;trivial
def z3g(b:List UInt8)(h1:16<=b.length)(h2:b.length<=131072):PC Tryz.prog 242 [.isl .u8 b] (rI 0):=by have f1:(((b.length:Nat):Int) <16)=False:=eq_false (by omega);have f2:((131072:Int) < ((b.length:Nat):Int))=False:=eq_false (by omega);refine q0q rfl rfl ?_;refine ry2 fi242 f1 f2 ?_;trivial
def q7q(a b:List UInt8)(ha:a.length=16)(hb:b.length=16):PC Tryz.prog 250 [.isl .u8 a,.isl .u8 b] (.isl .u8 (xorS a b)):=by
 refine q0n rfl rfl ?_;refine rQ fi250 ?_;refine z5x (z6i a (by omega)) rfl rfl (fun h=>by rw [h] at ha;cases ha) ?_;refine gQ ?_;refine q0k (ι:=Nat) (fun i=>[(11,rI i)]) (fun i=>[.row .u8 (gP a (fun j=>a.getD j 0^^^ b.getD j 0) i)]) (fun i=>16-i) (fun i=>i<=16) 0 (Al _) (by rw [q5M _ ha];first|done|rfl) ?_ fun i hi=> ?_
 . with_reducible refine sxE ?_;trivial
 have hwr:=wsx i (by omega);have hgl:=q7O a (fun j=>a.getD j 0^^^ b.getD j 0) i;by_cases hlt:i<16
 . have f1:((i:Int) < ((16:Nat):Int))=True:=eq_true (by omega);refine uQ 600 _ ?_;have hgg:(gP a (fun j=>a.getD j 0^^^ b.getD j 0) i).getD i Ty.u8.dflt=a.getD i 0:=z4j _ _ hlt (Af _);have hkk:b.getD i Ty.u8.dflt=b.getD i 0:=rfl;simp (maxSteps:=3000000) only [f1,hgl,ha,hb,AD,Ae,hgg,hkk,xor8,Az,AZ,go_sem,↓zA,↓reduceIte,↓reduceDIte] <;>try simp only [zB]
   refine ⟨⟨by omega,hlt⟩,hlt,⟨by omega,hlt⟩,⟨by omega,hlt⟩,hlt,i+1,hlt,by show 16- (i+1) <16-i;omega,?_,?_⟩
   . dsimp only;rw [<-q8P a (fun j=>a.getD j 0^^^ b.getD j 0) hlt]
   with_reducible refine sx1 hwr ?_;trivial
 obtain rfl:i=16:=by omega
 rw [q8E];refine uQ 600 _ ?_;have f1:(((16:Nat):Int) < ((a.length:Nat):Int))=False:=eq_false (by omega);simp (maxSteps:=3000000) only [f1,go_sem,↓zA,↓reduceIte,↓reduceDIte] <;>try simp only [zB]
 exact ⟨⟨by rw [ha,q1U];decide,by rw [q1U];decide⟩,Ad (by rw [q1U];omega)⟩
theorem z5O(key iv b:List UInt8)(hk:key.length=16)(hb:b.length=16):PC Tryz.prog 248 [.agg (modS key iv),.raw (.func (.methodOf 256 "Encrypt") #[] #[]),.isl .u8 b] (.isl .u8 (encS (wordsS key) b)):=by
 have h1:=z5k key b hk hb;unfold modS;generalize cipS key=cp at*;refine q0q rfl rfl ?_;refine q1T fi248 ?_;refine uQ 10 _ ?_;with_reducible refine sxE ?_
 refine z2Z (cs:=[.iptr CipT cp 0,.isl .u8 iv]) (s:=.iptr CipT cp 0) rfl rfl rfl (show mofP Tryz.prog 256 "Encrypt" =some (264,0) by kernel_rfl) ?_;refine cQ h1 ?_;trivial
theorem z0n(key iv b:List UInt8)(hk:key.length=16)(hb:b.length=16):PC Tryz.prog 248 [.agg (modS key iv),.raw (.func (.methodOf 256 "Decrypt") #[] #[]),.isl .u8 b] (.isl .u8 (decS (wordsS key) b)):=by
 have h1:=z4D key b hk hb;unfold modS;generalize cipS key=cp at*;refine q0q rfl rfl ?_;refine q1T fi248 ?_;refine uQ 10 _ ?_;with_reducible refine sxE ?_
 refine z2Z (cs:=[.iptr CipT cp 0,.isl .u8 iv]) (s:=.iptr CipT cp 0) rfl rfl rfl (show mofP Tryz.prog 256 "Decrypt" =some (249,0) by kernel_rfl) ?_;refine cQ h1 ?_;trivial
def blkC(p:List UInt8)(i:Nat):List UInt8:=((p.take (16*i+16)).drop (16*i))++List.replicate (16*i+16-p.length) 0
def nblk(n:Nat):Nat:=(n+15) / 16
variable {i:Nat}
def q3Y(p:List UInt8)(hi:i<nblk p.length):(blkC p i).length=16:=by unfold nblk at hi;unfold blkC;rw [Ab,Aj,Ak,BM];omega
def q3a(p:List UInt8)(h:16*i+16<=p.length):blkC p i=(p.take (16*i+16)).drop (16*i):=by unfold blkC;rw [show 16*i+16-p.length=0 by omega,List.replicate_zero,Ah]
def q7w(p:List UInt8)(h:p.length<16*i+16)(h':16*i<=p.length):blkC p i=(p.take p.length).drop (16*i)++List.replicate (16- (p.length-16*i)) 0:=by unfold blkC;rw [Ad (C7 h),Ad (Af _),show 16*i+16-p.length=16- (p.length-16*i) by omega]
abbrev cutF(p:List UInt8):SV:=.fn 265 [] [.iptr (.slice .u8) p 0]
theorem j1X(p:List UInt8)(hp:p.length<=1125899906842624):PC Tryz.prog 244 [.isl .u8 p] (cutF p):=by
 refine q0q rfl rfl ?_;refine q1T fi244 ?_;refine uQ 4 _ ?_;with_reducible refine sxE ?_
 refine q1P 1 0 (ty:=.slice .u8) (x:=p) rfl ⟨hp,fun _ _=>trivial⟩ rfl rfl ?_;refine gQ ?_;trivial
def vwC(p:List UInt8):Nat->Nat->List SV->List SObj->Prop:=fun i _ args' new=>args'= [.isl .u8 (blkC p i)]∧new= []
theorem j6S(p:List UInt8)(hp:p.length<=131072):Iter Tryz.prog 265 [] [.iptr (.slice .u8) p 0] (nblk p.length) (vwC p):=by
 refine ⟨by kernel_rfl,fun l B J hJ yg=> ?_⟩;refine (q1C (yFG hJ) fi265 ?_).2;letI:Ghost:=topG (yFG hJ) [];refine gQ ?_;refine q9D [] (fun i=>i) (fun i=>[(3,rI ((16*i:Nat):Int))]) (nblk p.length) (fun _=>True) trivial rfl (by simp) (by simp [SV.bel]) ?_ fun i hi _=> ?_
 . with_reducible refine sxE ?_;trivial
 by_cases hlt:i<nblk p.length
 . have hn:nblk p.length=(p.length+15) / 16:=rfl;have f1:(((16*i:Nat):Int) < ((p.length:Nat):Int))=True:=eq_true (by omega);have e1:IntKind.i64.wrap (((16*i:Nat):Int)+16)=((16*i+16:Nat):Int):=by rw [wrapi (by omega)];omega
   have e3:((16* (i+1):Nat):Int)=((16*i+16:Nat):Int):=by omega
   by_cases hf:16*i+16<=p.length
   . have hb:=q3a p hf;have hbl:=q3Y p hlt;have e2:mxV false ((16*i+16:Nat):Int) ((p.length:Nat):Int)=((16*i+16:Nat):Int):=by unfold mxV;simp;omega
     have f2:(((blkC p i).length:Int) <16)=False:=eq_false (by omega);refine uQ 600 _ ?_;simp (maxSteps:=3000000) only [f1,f2,e1,e2,<-hb,Az,go_sem,↓zA,↓reduceIte,↓reduceDIte] <;>try simp only [zB]
     refine ⟨⟨by omega,by omega,by omega,by omega⟩,q1K [] hJ yg hlt (fun n=>⟨_,_,⟨rfl,rfl⟩,q0P rfl⟩) fun c=> ?_⟩;cases c
     . refine gQ ?_;exact ⟨_,_,rfl,rfl,by omega⟩
     refine uQ 600 _ ?_;simp (maxSteps:=3000000) only [e1,go_sem,↓zA,↓reduceIte,↓reduceDIte] <;>try simp only [zB]
     refine ⟨hlt,trivial,⟨[],rfl⟩,?_⟩;simp (maxSteps:=3000000) only [e3,go_sem,↓zA,↓reduceIte,↓reduceDIte] <;>try simp only [zB]
   have hb:=q7w p (i:=i) (by omega) (by omega);have hr:((p.take p.length).drop (16*i)).length=p.length-16*i:=by rw [Aj,Ak];omega
   have e2:mxV false ((16*i+16:Nat):Int) ((p.length:Nat):Int)=((p.length:Nat):Int):=by unfold mxV;simp;omega
   generalize hrr:(p.take p.length).drop (16*i)=r at hb hr;have f2:((r.length:Int) <16)=True:=eq_true (by omega);have e4:IntKind.i64.wrap (16- (r.length:Int))=((16- (p.length-16*i):Nat):Int):=by rw [wrapi (by omega)];omega
   have e5:Ty.u8.dflt=(0:UInt8):=rfl;refine uQ 600 _ ?_;simp (maxSteps:=3000000) only [f1,f2,e1,e2,e4,e5,hrr,Az,<-hb,go_sem,↓zA,↓reduceIte,↓reduceDIte] <;>try simp only [zB]
   refine ⟨⟨by omega,by omega,Af _⟩,⟨by omega,by omega,by omega⟩,q1K [] hJ yg hlt (fun n=>⟨_,_,⟨rfl,rfl⟩,q0P rfl⟩) fun c=> ?_⟩;cases c
   . refine gQ ?_;exact ⟨_,_,rfl,rfl,by omega⟩
   refine uQ 600 _ ?_;simp (maxSteps:=3000000) only [e1,go_sem,↓zA,↓reduceIte,↓reduceDIte] <;>try simp only [zB]
   refine ⟨hlt,trivial,⟨[],rfl⟩,?_⟩;simp (maxSteps:=3000000) only [e3,go_sem,↓zA,↓reduceIte,↓reduceDIte] <;>try simp only [zB]
 obtain rfl:i=nblk p.length:=by omega
 have f1:(((16*nblk p.length:Nat):Int) < ((p.length:Nat):Int))=False:=eq_false (by unfold nblk;omega);refine gy1 f1 ?_;exact ⟨_,_,rfl,rfl,Af _⟩
abbrev ModT:Ty:=.prod (.ptr CipT) (.slice .u8)
abbrev chnF(key iv p:List UInt8):SV:=.fn 262 [] [.iptr (.int .i64) 0 0,.iptr (.clp 265 (.slice .u8)) p 0,.iptr ModT (some (cipS key),iv) 0]
theorem j0J(key iv p:List UInt8)(hk:key.length=16)(hi:iv.length=16)(hp:p.length<=131072):PC Tryz.prog 243 [.isl .u8 key,.isl .u8 iv,cutF p] (chnF key iv p):=by
 have hs:=q9q key iv hk hi;have hcok:=j1K key hk;unfold modS at hs;unfold chnF;generalize cipS key=cp at*;refine q0q rfl rfl ?_;refine q1T fi243 ?_;refine gQ ?_;refine q0a hs ?_;refine uQ 9 _ ?_;with_reducible refine sxE ?_
 refine q1P 5 0 (ty:=.clp 265 (.slice .u8)) (x:=p) rfl ⟨by omega,fun _ _=>trivial⟩ rfl rfl ?_;refine q1P 7 1 (ty:=ModT) (x:=(some cp,iv)) rfl ⟨fun y h=>by cases h;exact hcok,by show iv.length<=_;omega,fun _ _=>trivial⟩ rfl rfl ?_;refine q1P 8 2 (ty:=.int .i64) (x:=0) rfl trivial rfl rfl ?_;refine gQ ?_;trivial
def cpre(key iv p:List UInt8):Nat->List UInt8
 |0=>iv
 |n+1=>encS (wordsS key) (xorS (cpre key iv p n) (blkC p n))
def z3y(key iv p:List UInt8)(hi:iv.length=16):∀n,(cpre key iv p n).length=16
 |0=>hi
 |_+1=>q4c _ _
def vwH(key iv p:List UInt8):Nat->Nat->List SV->List SObj->Prop:=fun i _ args' new=>args'= [.isl .u8 (cpre key iv p (i+1))]∧new= []
abbrev yC(l:Nat):SV:=.raw (.func (.yield l) #[] #[])
variable {J:Nat->(Nat->Prop)->World->(Nat->Prop)->Prop}
theorem z7C{l B N:Nat}(hJ:FJ B J){vw:Nat->Nat->List SV->List SObj->Prop}(yg:YG Tryz.prog l B N J vw)(hi:i<N)(key iv pv bk:List UInt8)(hk:key.length=16)(hp:pv.length=16)(hb:bk.length=16)
 (hvw:∀n,vw i n [.isl .u8 (encS (wordsS key) (xorS pv bk))] [])(G:List SObj): @VCG (fgG (yFG hJ)) Tryz.prog 263 [.isl .u8 bk,.ptr 3 0,.iptr ModT (some (cipS key),iv) 0,.ptr 2 0,.ptr 1 0]
  (.mark i :: .cells 281 [yC l] :: .cells 25 [.isl .u8 pv] :: .cells 4 [.raw (.bool false)] :: G)
  (fun o H'=>∃b:Bool,o= .ret (.raw (.bool b))∧∃G',H'= .mark (if b then i+1 else N+1+i) :: .cells 281 [yC l] :: .cells 25 [.isl .u8 (encS (wordsS key) (xorS pv bk))] :: .cells 4 [.raw (.bool (!b))] :: (G++G')):=by
 refine q1C (yFG hJ) fi263 ?_;letI:Ghost:=topG (yFG hJ) [];have hco:=q7q pv bk hp hb;have hap:=z5O key iv (xorS pv bk) hk (q2i _ _);have hel:=q4c (wordsS key) (xorS pv bk);unfold modS at hap;generalize cipS key=cp at*;generalize hy:encS (wordsS key) (xorS pv bk)=y at*;generalize xorS pv bk=x at*;have hcl:=q2n y (by omega);have f1:(((16:Nat):Int)=16)=True:=eq_true rfl;refine uQ 17 _ ?_;with_reducible refine sy2 hb f1 ?_
 refine q1r [2] mixed ?_;refine gQ ?_;refine cR hco ?_;refine q0c hap ?_;refine uQ 3 _ ?_;with_reducible refine sxE ?_
 refine q1r [1,2] mixed ?_;refine gQ ?_;refine cR hcl ?_;refine z9M (.cells 281 [yC l] :: .cells 25 [.isl .u8 y] :: .cells 4 [.raw (.bool false)] :: G) hJ yg hi (fun n=>⟨_,_,hvw n,q0P rfl⟩) fun b=>⟨fun _=> ?_,?_⟩
 . simp [q0w,q0D]
 cases b
 . refine gQ ?_;exact ⟨[],by rw [Ah]⟩
 refine gQ ?_;exact ⟨[],by rw [Ah]⟩
variable {P:Program}{AQ:Ex->List SV->List SObj->Prop}{td:List IT}{t:List SV}
theorem q9a{k0:Nat}{d:Option Tmp}{g:FG}{f:FuncId}{args:List SV}{H:List SObj}{K:Out->List SObj->Prop}(h: @VCG (fgG g) P f args H K)
 (hk:∀o H',K o H'->∃s,o= .ret s∧ @SoundI (topG g []) P AQ ⟨k0,td,putT t d s,H'⟩): @CallI (topG g []) P AQ f args d ⟨k0,td,t,H⟩:=
 have h':=j6o h
 ⟨h'.1, @VCallG.mono (topG g []) P f args H K _ h'.2 fun o H' hK=>by obtain ⟨s,rfl,hs⟩:=hk o H' hK;exact hs⟩
def chH(l:Nat)(m:Nat)(pv:List UInt8)(b:Bool)(G:List SObj):List SObj:=.mark m :: .cells 281 [yC l] :: .cells 25 [.isl .u8 pv] :: .cells 4 [.raw (.bool b)] :: G
theorem j2p{l B:Nat}(hJ:FJ B J)(key iv p:List UInt8)(hk:key.length=16)(hiv:iv.length=16)(hp:p.length<=131072)(yg:YG Tryz.prog l B (nblk p.length) J (vwH key iv p)):
 @VCG (fgG (yFG hJ)) Tryz.prog 265 [.fn 263 [] [.ptr 3 0,.iptr ModT (some (cipS key),iv) 0,.ptr 2 0,.ptr 1 0],.iptr (.slice .u8) p 0]
  (chH l 0 iv false []) (fun o H'=>o= .ret (.tup [])∧∃m pv b G,nblk p.length<=m∧H'=chH l m pv b G):=by
 refine q1C (yFG hJ) fi265 ?_;letI:Ghost:=topG (yFG hJ) [];refine gQ ?_;refine q0k (ι:=Nat×List SObj) (fun s=>[(3,rI ((16*s.1:Nat):Int))]) (fun s=>chH l s.1 (cpre key iv p s.1) false s.2) (fun s=>nblk p.length-s.1) (fun s=>s.1<=nblk p.length) (0,[]) (Al _) rfl ?_ ?_
 . with_reducible refine sxE ?_;trivial
 rintro ⟨i,G⟩ hi;dsimp only at hi;have hpl:=z3y key iv p hiv i;have hn:nblk p.length=(p.length+15) / 16:=rfl;by_cases hlt:i<nblk p.length
 . have f1:(((16*i:Nat):Int) < ((p.length:Nat):Int))=True:=eq_true (by omega);have e1:IntKind.i64.wrap (((16*i:Nat):Int)+16)=((16*i+16:Nat):Int):=by rw [wrapi (by omega)];omega
   have e3:((16* (i+1):Nat):Int)=((16*i+16:Nat):Int):=by omega
   have hbl:=q3Y p hlt;have hst:=z7C hJ yg hlt key iv (cpre key iv p i) (blkC p i) hk hpl hbl (fun n=>⟨rfl,rfl⟩) G;have hnx:cpre key iv p (i+1)=encS (wordsS key) (xorS (cpre key iv p i) (blkC p i)):=rfl;rw [<-hnx] at hst;clear hnx;generalize hc1:cpre key iv p (i+1)=y at hst;generalize hc0:cpre key iv p i=pv at*;unfold chH;by_cases hf:16*i+16<=p.length
   . have hb:=q3a p hf;have e2:mxV false ((16*i+16:Nat):Int) ((p.length:Nat):Int)=((16*i+16:Nat):Int):=by unfold mxV;simp;omega
     have f2:(((blkC p i).length:Int) <16)=False:=eq_false (by omega);refine uQ 600 _ ?_;simp (maxSteps:=3000000) only [f1,f2,e1,e2,<-hb,Az,hc0,go_sem,↓zA,↓reduceIte,↓reduceDIte] <;>try simp only [zB]
     refine ⟨⟨by omega,by omega,by omega,by omega⟩,q9a hst fun o H' hK=> ?_⟩;obtain ⟨b,rfl,G',rfl⟩:=hK;refine ⟨_,rfl,?_⟩;cases b
     . simp only [reduceCtorEq,AY,if_false,if_true,CS,CD];refine gQ ?_;exact ⟨_,_,_,_,by omega,rfl⟩
     simp only [reduceCtorEq,AY,if_false,if_true,CS,CD];refine gy1 e1 ?_;refine ⟨(i+1,G++G'),hlt,by dsimp only;omega,?_,?_⟩
     . dsimp only;rw [hc1]
     simp (maxSteps:=3000000) only [e3,go_sem,↓zA,↓reduceIte,↓reduceDIte] <;>try simp only [zB]
   have hb:=q7w p (i:=i) (by omega) (by omega);have hr:((p.take p.length).drop (16*i)).length=p.length-16*i:=by rw [Aj,Ak];omega
   have e2:mxV false ((16*i+16:Nat):Int) ((p.length:Nat):Int)=((p.length:Nat):Int):=by unfold mxV;simp;omega
   generalize hrr:(p.take p.length).drop (16*i)=r at hb hr;have f2:((r.length:Int) <16)=True:=eq_true (by omega);have e4:IntKind.i64.wrap (16- (r.length:Int))=((16- (p.length-16*i):Nat):Int):=by rw [wrapi (by omega)];omega
   have e5:Ty.u8.dflt=(0:UInt8):=rfl;refine uQ 600 _ ?_;simp (maxSteps:=3000000) only [f1,f2,e1,e2,e4,e5,hrr,Az,<-hb,hc0,go_sem,↓zA,↓reduceIte,↓reduceDIte] <;>try simp only [zB]
   refine ⟨⟨by omega,by omega,Af _⟩,⟨by omega,by omega,by omega⟩,q9a hst fun o H' hK=> ?_⟩;obtain ⟨b,rfl,G',rfl⟩:=hK;refine ⟨_,rfl,?_⟩;cases b
   . simp only [reduceCtorEq,AY,if_false,if_true,CS,CD];refine gQ ?_;exact ⟨_,_,_,_,by omega,rfl⟩
   simp only [reduceCtorEq,AY,if_false,if_true,CS,CD];refine gy1 e1 ?_;refine ⟨(i+1,G++G'),hlt,by dsimp only;omega,?_,?_⟩
   . dsimp only;rw [hc1]
   simp (maxSteps:=3000000) only [e3,go_sem,↓zA,↓reduceIte,↓reduceDIte] <;>try simp only [zB]
 obtain rfl:i=nblk p.length:=by omega
 have f1:(((16*nblk p.length:Nat):Int) < ((p.length:Nat):Int))=False:=eq_false (by omega);unfold chH;refine gy1 f1 ?_;exact ⟨_,_,_,_,Af _,rfl⟩
theorem z9w(key iv p:List UInt8)(hk:key.length=16)(hiv:iv.length=16)(hp:p.length<=131072):Iter Tryz.prog 262 [] [.iptr (.int .i64) 0 0,.iptr (.clp 265 (.slice .u8)) p 0,.iptr ModT (some (cipS key),iv) 0] (nblk p.length) (vwH key iv p):=by refine ⟨by kernel_rfl,fun l B J hJ yg=> ?_⟩;refine (q1C (yFG hJ) fi262 ?_).2;letI:Ghost:=topG (yFG hJ) [];have hcut:=j2p hJ key iv p hk hiv hp yg;unfold chH at hcut;refine gQ ?_;refine q9a hcut fun o H' hK=> ?_;obtain ⟨rfl,m,pv,b,G,hm,rfl⟩:=hK;refine ⟨_,rfl,?_⟩;refine gQ ?_;exact ⟨_,_,rfl,rfl,hm⟩
def swpS(bs:List (List UInt8)):List (List UInt8):=(bs.set (bs.length-2) (bs.getD (bs.length-1) [])).set (bs.length-1) (bs.getD (bs.length-2) [])
def exgS(bs:List (List UInt8)):List (List UInt8):=if 1<bs.length then swpS bs else bs
def j6m(bs:List (List UInt8))(hl:bs.length<=1000000):PE Tryz.prog 245 [.ptr 0 0] [.cells 65 [.bld 1 (.slice .u8) bs.length],.row (.slice .u8) bs] (.ret (.tup [])) [.cells 65 [.bld 1 (.slice .u8) bs.length],.row (.slice .u8) (exgS bs)]:=by
 refine q0b (Af _) ?_;refine q1T fi245 ?_;by_cases h:1<bs.length
 . have f1:((1:Int) < ((bs.length:Nat):Int))=True:=eq_true (by omega);have e1:IntKind.i64.wrap (((bs.length:Nat):Int) -1)=((bs.length-1:Nat):Int):=by rw [wrapi (by omega)];omega
   have e2:IntKind.i64.wrap (((bs.length:Nat):Int) -2)=((bs.length-2:Nat):Int):=by rw [wrapi (by omega)];omega
   refine uQ 12 _ ?_;simp (maxSteps:=3000000) only [f1,go_sem,↓zA,↓reduceIte,↓reduceDIte] <;>try simp only [zB]
   refine q1r [1,999999,0] mixed ?_;refine gy2 e1 e2 ?_;refine ⟨⟨by omega,by omega⟩,by omega,⟨by omega,by omega⟩,by omega,⟨by omega,by omega⟩,by omega,⟨by omega,by omega⟩,by rw [Bk];omega,?_⟩;unfold exgS swpS;rw [if_pos h];simp only [Ae];first|done|rfl
 have f1:((1:Int) < ((bs.length:Nat):Int))=False:=eq_false (by omega);have he:exgS bs=bs:=if_neg h;rw [he];refine gy1 f1 ?_;trivial
def z7z(a b:List UInt8):xorS a b=xorS b a:=by unfold xorS;exact q2J fun j _=>UInt8.xor_comm _ _
def z7Q(n:Nat):n+zpN n=16*nblk n:=by unfold zpN nblk;omega
def j4Y(p:List UInt8)(hi:i<nblk p.length):blkC p i=((zpL p (zpN p.length)).take (16*i+16)).drop (16*i):=by
 have hz:=z7Q p.length;have hn:nblk p.length=(p.length+15) / 16:=rfl;unfold zpL;by_cases h:16*i+16<=p.length
 . rw [q3a p h,AS h]
 rw [q7w p (by omega) (by omega),Ch,Ad (show p.length<=16*i+16 by omega),Ad (Af p.length),Bg (by omega),List.take_replicate,
  show min (16*i+16-p.length) (zpN p.length)=16- (p.length-16*i) by omega]
def cbl(key iv p:List UInt8)(n:Nat):List (List UInt8):=(List.range n).map fun i=>cpre key iv p (i+1)
def z3r(key iv p:List UInt8):∀n,n<=nblk p.length->chA (wordsS key) iv (zpL p (zpN p.length)) n=(cpre key iv p n,(cbl key iv p n).flatten)
 |0,_=>rfl
 |n+1,h=>by
  have hb:=j4Y p (i:=n) (by omega);have he:encS (wordsS key) (xorS (((zpL p (zpN p.length)).take (16*n+16)).drop (16*n)) (cpre key iv p n))=cpre key iv p (n+1):=by rw [<-hb,z7z];rfl
  rw [chA,z3r key iv p n (by omega)];dsimp only;rw [he];unfold cbl;rw [B6,Br,BQ];simp
def z5p(key iv p:List UInt8):chainS key iv (zpL p (zpN p.length))=(cbl key iv p (nblk p.length)).flatten:=by unfold chainS;rw [z2m,z7Q,B0 _ (by decide),z3r key iv p _ (Af _)]
def flat16:∀ (bs:List (List UInt8)),(∀b∈bs,b.length=16)->bs.flatten.length=16*bs.length
 | [],_=>rfl
 |b :: bs,h=>by rw [A7,Ab,flat16 bs (fun x hx=>h x (AM _ hx)),h b Bp,AK];omega
def j4D(l:List (List UInt8))(x y:List UInt8):swpS (l++ [x,y])=l++ [y,x]:=by
 unfold swpS;have h1:(l++ [x,y]).length=l.length+2:=by simp
 rw [h1,show l.length+2-2=l.length by omega,show l.length+2-1=l.length+1 by omega];have g1:(l++ [x,y]).getD (l.length+1) []=y:=by simp [Aa]
 have g0:(l++ [x,y]).getD l.length []=x:=by simp [Aa]
 rw [g1,g0];simp [List.set_append]
theorem j0M(bs:List (List UInt8))(h:∀b∈bs,b.length=16)(h2:2<=bs.length):(exgS bs).flatten=exchS bs.flatten:=by
 obtain ⟨l,x,y,rfl⟩:∃l x y,bs=l++ [x,y]:=by
  refine ⟨bs.take (bs.length-2),bs[bs.length-2],bs[bs.length-1],?_⟩;apply Aw
  . simp;omega
  intro j h1 h2;simp only [List.getElem_append,Ak];split
  . simp
  rename_i hj;have:j=bs.length-2∨j=bs.length-1:=by omega
  rcases this with rfl|rfl
  . simp [show min (bs.length-2) bs.length=bs.length-2 by omega]
  simp [show min (bs.length-2) bs.length=bs.length-2 by omega,show bs.length-1- (bs.length-2)=1 by omega]
 have hx:x.length=16:=h x (by simp);have hy:y.length=16:=h y (by simp);have hl:=flat16 l fun b hb=>h b (by simp [hb]);unfold exgS;rw [if_pos (by simp),j4D];have e1:(l++ [x,y]).flatten=l.flatten++(x++y):=by simp
 have e2:(l++ [y,x]).flatten=l.flatten++(y++x):=by simp
 rw [e1,e2];unfold exchS;have hlen:(l.flatten++(x++y)).length=l.flatten.length+32:=by simp [hx,hy]
 rw [hlen,show l.flatten.length+32-32=l.flatten.length by omega,show l.flatten.length+32-16=l.flatten.length+16 by omega];have t1:(l.flatten++(x++y)).take l.flatten.length=l.flatten:=B1 ..;have t2:(l.flatten++(x++y)).drop (l.flatten.length+16)=y:=by rw [<-List.append_assoc,Bg (by simp [hx])];simp [hx]
 have t3:((l.flatten++(x++y)).take (l.flatten.length+16)).drop l.flatten.length=x:=by rw [<-List.append_assoc,AS (by simp [hx]),Ad (by simp [hx])];simp
 rw [t1,t2,t3,List.append_assoc]
def z7e(key iv p:List UInt8)(hiv:iv.length=16)(h1:16<=p.length):(exgS (cbl key iv p (nblk p.length))).flatten.take p.length=ctsE key iv p:=by
 have hb:∀b∈cbl key iv p (nblk p.length),b.length=16:=by intro b hb;unfold cbl at hb;obtain ⟨i,_,rfl⟩:=By.1 hb;exact q4c _ _
 have hl:(cbl key iv p (nblk p.length)).length=nblk p.length:=by simp [cbl]
 have hn:nblk p.length=(p.length+15) / 16:=rfl;have hf:=flat16 _ hb;unfold ctsE;rw [z5p];dsimp only;by_cases h2:2<=nblk p.length
 . rw [if_neg (by omega),j0M _ hb (by omega)]
 have h3:p.length=16:=by omega
 have he:exgS (cbl key iv p (nblk p.length))=cbl key iv p (nblk p.length):=if_neg (by omega);rw [if_pos (by omega),he,Ad (by omega)]
def flN(bs:List (List UInt8))(i:Nat):Nat:=(bs.take i).flatten.length
def j1f(bs:List (List UInt8))(h:i<bs.length):flN bs (i+1)=flN bs i+ (bs.getD i []).length:=by unfold flN;rw [CX,Ac h,BQ,Ab,Aa,Ac h];simp
def j6I(bs:List (List UInt8))(i:Nat):flN bs i<=bs.flatten.length:=by
 unfold flN
 conv=>rhs;rw [<-AJ i bs,BQ,Ab]
 omega
theorem j5w(bs:List (List UInt8))(h2:2<=bs.length)(h16:∀b∈bs,b.length=16)(hl:bs.length<=1000000)(hf:bs.flatten.length<=1000000):PC Tryz.prog 246 [.isl (.slice .u8) bs,.raw (.slice none 0 0)] (.isl .u8 bs.flatten):=by
 have f1:(((bs.length:Nat):Int)=0)=False:=eq_false (by omega);have f2:(((bs.length:Nat):Int)=1)=False:=eq_false (by omega);refine q0n rfl rfl ?_;refine q1T fi246 ?_;refine gy2 f1 f2 ?_;refine q0k (ι:=Nat) (fun i=>[(5,rI (flN bs i)),(44,rI i)]) (fun _=>[]) (fun i=>bs.length-i) (fun i=>i<=bs.length) 0 (Al _) rfl ?_ fun i hi=> ?_
 . with_reducible refine sxE ?_
   rfl
 have hwr:=wsx i (by omega);by_cases hlt:i<bs.length
 . have g1:((i:Int) < ((bs.length:Nat):Int))=True:=eq_true (by omega);have hs:=j1f bs hlt;have hle:=j6I bs (i+1);have e1:IntKind.i64.wrap (9223372036854775807- ((flN bs i:Nat):Int))=((9223372036854775807-flN bs i:Nat):Int):=by rw [wrapi (by omega)];omega
   have e2:IntKind.i64.wrap (((flN bs i:Nat):Int)+ (((bs.getD i []).length:Nat):Int))=((flN bs (i+1):Nat):Int):=by rw [wrapi (by omega)];omega
   have g2:(((9223372036854775807-flN bs i:Nat):Int) < (((bs.getD i []).length:Nat):Int))=False:=eq_false (by omega);have e5:(Ty.slice .u8).dflt=([]:List UInt8):=rfl;refine gy8 g1 e5 e1 e2 g2 Ae Az Az ?_;refine ⟨⟨by omega,hlt⟩,i+1,hlt,by dsimp only;omega,rfl,?_⟩;with_reducible refine sx1 hwr ?_;trivial
 obtain rfl:i=bs.length:=by omega
 have g1:(((bs.length:Nat):Int) < ((bs.length:Nat):Int))=False:=eq_false (by omega);have hfl:flN bs bs.length=bs.flatten.length:=by unfold flN;rw [AL]
 refine uQ 10 _ ?_;with_reducible refine sy2 g1 hfl ?_
 have hso:(Tryz.prog.funcs[(266:Nat)]?).isSome=true:=by kernel_rfl
 refine j5q (fn:=Option.get _ hso) (ps:= #[3]) (t:=25) (e:=5) (n:=bs.flatten.length) rfl (Option.some_get hso).symm (by kernel_rfl) (by kernel_rfl) (by kernel_rfl) (by kernel_rfl) (by kernel_rfl) (by omega) fun xs hxs=> ?_;obtain ⟨b0,r,rfl⟩:∃b0 r,bs=b0 :: r:=by
  cases bs with
  |nil=>simp at h2
  |cons b r=>exact ⟨b,r,rfl⟩
 have e0:((b0 :: r).getD 0 ([]:List UInt8))=b0:=rfl;have e5:(Ty.slice .u8).dflt=([]:List UInt8):=rfl;have hbl:b0.length<=(b0 :: r).flatten.length:=by simp
 have hmn:min b0.length ((b0 :: r).flatten.length-0)=b0.length:=by omega
 refine uQ 600 _ ?_;simp (maxSteps:=3000000) only [e5,e0,hmn,hxs,AL,Ae,go_sem,↓zA,↓reduceIte,↓reduceDIte] <;>try simp only [zB]
 have hb0:b0.length=16:=h16 b0 Bp;refine ⟨⟨by omega,Af _⟩,by omega,⟨⟨hbl,by omega⟩,by omega⟩,⟨by omega,Af _⟩,?_⟩;have hfa:=flat16 (b0 :: r) h16;have hfn:∀i,i<=(b0 :: r).length->flN (b0 :: r) i=16*i:=fun i hi=>by unfold flN;rw [flat16 _ fun b hb=>h16 b (List.mem_of_mem_take hb),Ak,Bj hi]
 refine q0k (ι:=Nat) (fun i=>[(9,rI ((16* (i+1):Nat):Int)),(72,rI i)]) (fun i=>[.row .u8 (((b0 :: r).take (i+1)).flatten++xs.drop (16* (i+1)))]) (fun i=>r.length-i) (fun i=>i<=r.length) 0 (Al _) ?_ ?_ fun i hi=> ?_
 . have e6:(List.take (0+1) (b0 :: r)).flatten=b0:=by simp
   rw [e6];rw [hb0]
 . with_reducible refine sx1 hb0 ?_;trivial
 have hrl:r.length+1<=1000000:=by simpa using hl
 have hwr:=wsx i (by omega);by_cases hlt:i<r.length
 . have k1:((i:Int) < ((r.length:Nat):Int))=True:=eq_true (by omega);have k2:(r.getD i ([]:List UInt8)).length=16:=h16 _ (AM _ (by rw [Aa,Ac hlt];exact Bu _));have k3:(((b0 :: r).take (i+1)).flatten).length=16* (i+1):=hfn (i+1) (by simp;omega);have k4:((((b0 :: r).take (i+1)).flatten++xs.drop (16* (i+1))).length)=16* (r.length+1):=by rw [Ab,k3,Aj,hxs,hfa,AK];omega
   change (b0 :: List.take i r).flatten.length=_ at k3;change ((b0 :: List.take i r).flatten++xs.drop (16* (i+1))).length=_ at k4;have q1:IntKind.i64.wrap (((16* (i+1):Nat):Int)+0)=((16* (i+1):Nat):Int):=by rw [Int.add_zero,wrapi (by omega)]
   have q3:min 16 ((b0 :: r).flatten.length-0-16* (i+1))=16:=by rw [hfa,AK];omega
   have q4:IntKind.i64.wrap (((16* (i+1):Nat):Int)+16)=((16* (i+1+1):Nat):Int):=by rw [wrapi (by omega)];omega
   have q5:List.take 16 (r.getD i ([]:List UInt8))=r.getD i []:=Ad (by omega);have hfl2:(b0 :: r).flatten.length=16* (r.length+1):=by rw [hfa,AK]
   have q6:List.take (0+16* (i+1)) ((b0 :: List.take i r).flatten++List.drop (16* (i+1)) xs)++List.drop (0+16* (i+1)+0) ((b0 :: List.take i r).flatten++List.drop (16* (i+1)) xs)=(b0 :: List.take i r).flatten++List.drop (16* (i+1)) xs:=by simp only [Ae,AB,AJ]
   refine uQ 600 _ ?_;simp (maxSteps:=3000000) only [k1,e5,k2,Nat.zero_min,q1,Az,q3,q4,q5,q6,k4,Ah,go_sem,↓zA,↓reduceIte,↓reduceDIte] <;>try simp only [zB]
   rw [hfl2];refine ⟨⟨by omega,hlt⟩,⟨by omega,by omega,Nat.le_refl _⟩,⟨⟨by omega,by omega⟩,by omega⟩,⟨by omega,by omega,Nat.le_refl _⟩,⟨⟨by omega,by omega⟩,by omega⟩,i+1,hlt,by dsimp only;omega,?_,?_⟩
   . have e7:(b0 :: List.take (i+1) r).flatten=(b0 :: List.take i r).flatten++r.getD i []:=by rw [A7,A7,q5e hlt,List.append_assoc]
     dsimp only;rw [e7];generalize (b0 :: List.take i r).flatten=A at*;generalize r.getD i []=y at*;rw [Ae,Df k3,<-Bd,BX k3,Bd,show 16* (i+1)+16=16* (i+1+1) by omega]
   with_reducible refine sx1 hwr ?_
   exact congrArg (Value.int IntKind.i64) q4
 obtain rfl:i=r.length:=by omega
 have k1:(((r.length:Nat):Int) < ((r.length:Nat):Int))=False:=eq_false (by omega);refine gy1 k1 ?_;have e8:List.drop (16* (r.length+1)) xs= []:=List.drop_of_length_le (by rw [hxs,hfa,AK];omega);rw [e8,Ah,AL,CM,AL];exact ⟨⟨by omega,by omega⟩,rfl⟩
def j6J(b:List UInt8)(hb:b.length=16):PC Tryz.prog 246 [.isl (.slice .u8) [b],.raw (.slice none 0 0)] (.isl .u8 b):=by have f1:(((1:Nat):Int)=0)=False:=eq_false (by decide);have f2:(((1:Nat):Int)=1)=True:=eq_true (by decide);have e5:(Ty.slice .u8).dflt=([]:List UInt8):=rfl;refine q0n rfl rfl ?_;refine q1T fi246 ?_;refine gy4 f1 f2 e5 hb ?_;exact Ad (by omega)
def j3O(bs:List (List UInt8))(h1:1<=bs.length)(h16:∀b∈bs,b.length=16)(hl:bs.length<=10000):PC Tryz.prog 246 [.isl (.slice .u8) bs,.raw (.slice none 0 0)] (.isl .u8 bs.flatten):=by
 by_cases h2:2<=bs.length
 . exact j5w bs h2 h16 (by omega) (by rw [flat16 bs h16];omega)
 obtain ⟨b,rfl⟩:=Bt.1 (show bs.length=1 by omega);rw [Cz];exact j6J b (h16 b Bp)
def ceC(m:List SV)(i:Nat)(G:List SObj)(acc:List (List UInt8)):List SObj:=.cells 256 m :: .cells 65 [.bld (G.length+2) (.slice .u8) i] :: (G++ [.row (.slice .u8) acc])
def quG(G:List SObj):Prop:=∀ (h:Nat) (t:Ty) (xs:List t.den),frzObH h t xs G
def z5X:quG []:=fun _ _ _=>trivial
def z7M{G L:List SObj}(h:quG G)(h':quG L):quG (G++L):=fun _ _ _=>q1v (h _ _ _) (h' _ _ _)
def ceH(m:List SV)(key iv p:List UInt8)(i:Nat)(H':List SObj):Prop:=∃G,quG G∧H'=ceC m i G (cbl key iv p i)
theorem j0C(key iv p:List UInt8)(i:Nat):cbl key iv p (i+1)=cbl key iv p i++ [cpre key iv p (i+1)]:=by unfold cbl;rw [B6,Br];rfl
def z8M(key iv p:List UInt8)(i:Nat):(cbl key iv p i).length=i:=by simp [cbl]
theorem j6n(key iv p:List UInt8)(i:Nat):∀b∈cbl key iv p i,b.length=16:=by intro b hb;unfold cbl at hb;obtain ⟨i,_,rfl⟩:=By.1 hb;exact q4c _ _
def j0Q(bs:List (List UInt8)):(exgS bs).length=bs.length:=by unfold exgS swpS;split<;>simp
theorem j3x(bs:List (List UInt8))(h:∀b∈bs,b.length=16):∀b∈exgS bs,b.length=16:=by
 unfold exgS;split
 . rename_i h1;have hg:∀j,j<bs.length->(bs.getD j []).length=16:=fun j hj=>h _ (by rw [Aa,Ac hj];exact Bu _);intro b hb;unfold swpS at hb;rcases CV hb with hb|rfl
   . rcases CV hb with hb|rfl
     . exact h b hb
     exact hg _ (by omega)
   exact hg _ (by omega)
 exact h
theorem j3J(key iv p:List UInt8)(hk:key.length=16)(hi:iv.length=16)(h1:16<=p.length)(hp:p.length<=131072):PC Tryz.prog 228 [.isl .u8 key,.isl .u8 iv,.isl .u8 p] (.tup [.isl .u8 (ctsE key iv p),rI 0]):=by
 have hst:=q9q key iv hk hi;have hck:=z3g p h1 hp;have hcu:=j1X p (by omega);have hch:=j0J key iv p hk hi hp;have hit:=z9w key iv p hk hi hp;have hpr:=z7e key iv p hi h1;have hel:=z3N key iv p hi h1;have hn:nblk p.length=(p.length+15) / 16:=rfl;unfold modS at hst;unfold chnF at hch;generalize cipS key=cp at*;refine q0q rfl rfl (q3O (q1C noFG fi228 ?_));letI:Ghost:=topG noFG [];refine gQ ?_;refine cQ hst ?_;refine cQ hck ?_;refine cQ hcu ?_;refine cQ hch ?_;refine q4e 1 0 (.slice .u8) rfl rfl rfl ?_;refine z5z (ceH [.iptr CipT cp 0,.isl .u8 iv] key iv p) (fun _ _ _=>False) rfl rfl rfl hit (fun i n args' new h=>by rw [h.1];rfl) ⟨[],z5X,rfl⟩ rfl ?_ ?_ ?_
 . rintro i _ args' new hi' ⟨G,hG,rfl⟩ ⟨rfl,rfl⟩ L1 L2;letI:Ghost:=pinG noFG L1;rw [Ah];have hal:=z8M key iv p i;have hac:=j0C key iv p i;have hbl:=z3y key iv p hi (i+1);generalize cbl key iv p i=a at*;generalize cpre key iv p (i+1)=b at*;unfold ceC;refine uQ 600 _ ?_;simp only [putL,Bv];with_reducible refine sxaE ?_
   letI:Ghost:=pinG noFG L2;refine gya2 hal hbl ?_;have hi2:i< (p.length+15) / 16:=hi';refine ⟨⟨by omega,by omega⟩,G++ [.dead,.row (.slice .u8) [b]],z7M hG (fun _ _ _=>by simp [frzObH,SObj.frzOb]),?_⟩;rw [hac];simp [ceC]
 . rintro D _ ⟨G,hG,rfl⟩;unfold ceC;letI:Ghost:=topG noFG [D];have hal:=z8M key iv p (nblk p.length);have hal6:=j6n key iv p (nblk p.length);generalize cbl key iv p (nblk p.length)=a at*;have hxl:=j0Q a;have hx16:=j3x a hal6;have hex:=j6m a (by omega);have hjo:=j3O (exgS a) (by omega) hx16 (by omega);have hfl:=flat16 (exgS a) hx16;generalize exgS a=x at*;refine aQ ?_;rw [<-hal];refine q0i [1,G.length+2] hex rfl (by simp) ?_ rfl rfl ?_
   . simp (maxSteps:=3000000) only [atH,sig,SObj.ren,SV.ren,SV.renL,SObj.live,List.append_assoc,getA,getA0,setA,setA0,Ab,Nat.add_assoc,go_sem,↓zA,↓reduceIte,↓reduceDIte] <;>try simp only [zB]
   simp only [afterO,Out.ren,SV.ren,mgA,sig,SObj.ren,SV.renL,List.set,List.map,Ah];refine uQ 3 _ ?_;with_reducible refine sxaE ?_
   refine q1j (G.length+2) (ty:=.slice .u8) (xs:=x) rfl (by simp) (by omega) ?_ ?_ ?_
   . with_reducible refine sxaE ?_
     exact ⟨by omega,q1v (hG _ _ _) ⟨trivial,trivial⟩⟩
   . with_reducible refine sxaE ?_;trivial
   have htk:List.take a.length x=x:=Ad (by omega);with_reducible refine sya1 htk ?_
   generalize (List.map (SObj.frz (G.length+2) (Ty.slice .u8) x) G++ [SObj.row (Ty.slice .u8) x]).set G.length SObj.dead=T;refine gQ ?_;refine cy1 hjo hpr ?_;refine ⟨⟨by omega,by omega⟩,q0a (q2n (ctsE key iv p) (by omega)) ?_⟩;refine gQ ?_;trivial
 rintro D i ex _ hi' h;exact h.elim
def unxS(w:List UInt8)(n:Nat)(bs:List (List UInt8)):List (List UInt8):=
 if bs.length=1 then bs else
  (bs.set (bs.length-2) ((bs.getD (bs.length-1) []).take (n-16* (bs.length-1))++(decS w (bs.getD (bs.length-2) [])).drop (n-16* (bs.length-1)))).set (bs.length-1) (bs.getD (bs.length-2) [])
theorem j5a(key iv c:List UInt8)(bs:List (List UInt8))(hk:key.length=16)(h16:∀b∈bs,b.length=16)(hc:c.length<=131072)(h1:1<=bs.length)(hn:16* (bs.length-1) <c.length)(hn2:c.length<=16*bs.length):
 PE Tryz.prog 247 [.ptr 0 0,.ptr 1 0,.ptr 2 0] [.cells 65 [.bld 3 (.slice .u8) bs.length],.cells 25 [.isl .u8 c],.cells 256 (modS key iv),.row (.slice .u8) bs] (.ret (.tup []))
  [.cells 65 [.bld 3 (.slice .u8) bs.length],.cells 25 [.isl .u8 c],.cells 256 (modS key iv),.row (.slice .u8) (unxS (wordsS key) c.length bs)]:=by
 refine q0b (Af _) ?_;refine q1T fi247 ?_;unfold unxS;by_cases h:bs.length=1
 . have f1:(((bs.length:Nat):Int)=1)=True:=eq_true (by omega);rw [if_pos h];unfold modS;generalize cipS key=cp at*;refine gy1 f1 ?_;trivial
 have f1:(((bs.length:Nat):Int)=1)=False:=eq_false (by omega);have e1:IntKind.i64.wrap (((bs.length:Nat):Int) -1)=((bs.length-1:Nat):Int):=by rw [wrapi (by omega)];omega
 have e2:IntKind.i64.wrap (((bs.length:Nat):Int) -2)=((bs.length-2:Nat):Int):=by rw [wrapi (by omega)];omega
 have e3:IntKind.i64.wrap (16* ((bs.length-1:Nat):Int))=((16* (bs.length-1):Nat):Int):=by rw [wrapi (by omega)];omega
 obtain ⟨k,hkn⟩:∃k,k=c.length-16* (bs.length-1):=⟨_,rfl⟩;have e4:IntKind.i64.wrap (((c.length:Nat):Int) - ((16* (bs.length-1):Nat):Int))=(k:Int):=by rw [wrapi (by omega)];omega
 have hg:∀j,j<bs.length->(bs.getD j []).length=16:=fun j hj=>h16 _ (by rw [Aa,Ac hj];exact Bu _);have hg1:=hg (bs.length-1) (by omega);have hg2:=hg (bs.length-2) (by omega);have hap:=z0n key iv (bs.getD (bs.length-2) []) hk hg2;have hdl:=q5f (wordsS key) (bs.getD (bs.length-2) []);rw [if_neg h,<-hkn];unfold modS at*;have e5:(Ty.slice .u8).dflt=([]:List UInt8):=rfl;generalize hx1:bs.getD (bs.length-1) []=x1 at*;generalize hx2:bs.getD (bs.length-2) []=x2 at*;generalize decS (wordsS key) x2=dx at*;generalize cipS key=cp at*;refine uQ 600 _ ?_;simp (maxSteps:=3000000) only [f1,e1,e2,e3,e4,e5,Ae,Az,hx2,go_sem,↓zA,↓reduceIte,↓reduceDIte] <;>try simp only [zB]
 refine ⟨⟨by omega,by omega⟩,by omega,?_⟩;refine q0a hap ?_;refine uQ 3 _ ?_;with_reducible refine sxE ?_
 refine q1r [0,3] mixed ?_;have htl:List.take dx.length dx=dx:=AL;refine uQ 14 _ ?_;with_reducible refine sy6 e1 e5 Ae Az hx1 htl ?_
 refine ⟨⟨by omega,by omega⟩,by omega,⟨by omega,Af _,by omega⟩,⟨by omega,by omega,Af _⟩,⟨by rw [Ak,Aj];omega,by rw [Ak,Aj];omega⟩,?_⟩;refine q1r [3,999999,0] mixed ?_;refine gy3 e1 e2 e5 ?_;refine ⟨⟨by omega,by omega⟩,by omega,⟨by omega,by omega⟩,by rw [Bk];omega,?_⟩;simp only [Ae]
theorem z4m:∀ (xs:List (List UInt8)) (i:Nat),(∀b∈xs,b.length=16)->i<xs.length->(xs.flatten.take (16*i+16)).drop (16*i)=xs.getD i []
 |b :: xs,0,h,_=>by have hb:=h b Bp;show List.drop 0 (List.take 16 (b++xs.flatten))=b;rw [Av,Df hb]
 |b :: xs,i+1,h,hi=>by have hb:=h b Bp;have ih:=z4m xs i (fun c hc=>h c (AM _ hc)) (by simpa using hi);rw [A7,show 16* (i+1)+16=b.length+ (16*i+16) by omega,List.take_length_add_append,show 16* (i+1)=b.length+16*i by omega,List.drop_length_add_append,ih];rfl
def dpl(w iv:List UInt8)(xs:List (List UInt8)):Nat->List UInt8×List UInt8
 |0=>(iv,[])
 |n+1=>(xs.getD n [],(dpl w iv xs n).2++xorS (decS w (xs.getD n [])) (dpl w iv xs n).1)
def z7l(w iv:List UInt8)(xs:List (List UInt8))(h:∀b∈xs,b.length=16):∀n,n<=xs.length->dchA w iv xs.flatten n=dpl w iv xs n
 |0,_=>rfl
 |n+1,hn=>by rw [dchA,dpl,z4m xs n h (by omega),z7l w iv xs h n (by omega)]
def cblk(c:List UInt8)(n:Nat):List (List UInt8):=(List.range n).map (blkC c)
def q9F(c:List UInt8)(n:Nat):(cblk c n).length=n:=by simp [cblk]
def z8Q(c:List UInt8)(n:Nat)(h:n<=nblk c.length):∀b∈cblk c n,b.length=16:=by intro b hb;unfold cblk at hb;obtain ⟨i,hi,rfl⟩:=By.1 hb;exact q3Y c (by have:=BE.1 hi;omega)
theorem q4O(c:List UInt8)(n:Nat):cblk c (n+1)=cblk c n++ [blkC c n]:=by unfold cblk;rw [B6,Br];rfl
def z1n(c:List UInt8):∀n,16*n<=c.length->(cblk c n).flatten=c.take (16*n)
 |0,_=>rfl
 |n+1,h=>by rw [q4O,BQ,z1n c n (by omega),Cz,q3a c (by omega),z3e]
def j2y(w:List UInt8)(n:Nat)(l:List (List UInt8))(x y:List UInt8):unxS w n (l++ [x,y])=l++ [y.take (n-16* (l.length+1))++(decS w x).drop (n-16* (l.length+1)),x]:=by
 unfold unxS;have h1:(l++ [x,y]).length=l.length+2:=by simp
 rw [h1,if_neg (by omega),show l.length+2-2=l.length by omega,show l.length+2-1=l.length+1 by omega];have g1:(l++ [x,y]).getD (l.length+1) []=y:=by simp [Aa]
 have g0:(l++ [x,y]).getD l.length []=x:=by simp [Aa]
 rw [g1,g0];simp [List.set_append]
theorem z4a(w c:List UInt8)(h:16<c.length):(unxS w c.length (cblk c (nblk c.length))).flatten=unexS w c∧(∀b∈unxS w c.length (cblk c (nblk c.length)),b.length=16)∧(unxS w c.length (cblk c (nblk c.length))).length=nblk c.length:=by
 have hn:nblk c.length=(c.length+15) / 16:=rfl;have hw:whN c.length=(c.length+15) / 16*16:=rfl;obtain ⟨m,hm⟩:∃m,nblk c.length=m+2:=⟨nblk c.length-2,by omega⟩
 have hx:=q3a c (i:=m) (by omega);have hxl:=q3Y c (i:=m) (by omega);have hyl:=q3Y c (i:=m+1) (by omega);have hy:(blkC c (m+1)).take (c.length-16* (m+1))=c.drop (16* (m+1)):=by unfold blkC;rw [AS (by rw [Aj,Ak];omega),Ad (show c.length<=16* (m+1)+16 by omega)];exact Ad (by rw [Aj];omega)
 have hl:=z1n c m (by omega);have hll:=q9F c m;have hl6:=z8Q c m (by omega);have hkl:(c.drop (16* (m+1))).length=c.length-16* (m+1):=Aj;rw [hm,q4O,q4O,List.append_assoc];change (unxS w c.length (cblk c m++ [blkC c m,blkC c (m+1)])).flatten=_∧(∀b∈unxS w c.length (cblk c m++ [blkC c m,blkC c (m+1)]),_)∧(unxS w c.length (cblk c m++ [blkC c m,blkC c (m+1)])).length=_;rw [j2y,hll,hy];generalize cblk c m=l at*;generalize blkC c m=x at*;refine ⟨?_,?_,?_⟩
 . unfold unexS;dsimp only;rw [show whN c.length-32=16*m by omega,show whN c.length-16=16* (m+1) by omega,show 16* (m+1)=16*m+16 by omega,<-hx,show 16*m+16=16* (m+1) by omega,hkl,<-hl];simp
 . intro b hb;rcases BV.1 hb with hb|hb
   . exact hl6 b hb
   simp only [Bm,CC,or_false] at hb;rcases hb with rfl|rfl
   . rw [Ab,hkl,Aj,q5f];omega
   exact hxl
 simp [hll]
def z7Z(key iv c:List UInt8)(h1:16<=c.length):(dpl (wordsS key) iv (unxS (wordsS key) c.length (cblk c (nblk c.length))) (nblk c.length)).2.take c.length=ctsD key iv c:=by
 have hn:nblk c.length=(c.length+15) / 16:=rfl;unfold ctsD;by_cases h:c.length=16
 . have h2:nblk c.length=1:=by omega
   have hb:blkC c 0=c:=by rw [q3a c (by omega),Nat.mul_zero,Av];exact Ad (by omega)
   rw [if_pos h,h2,show cblk c 1= [blkC c 0] from rfl,hb,show unxS (wordsS key) c.length [c]= [c] from rfl];show ([]++xorS (decS (wordsS key) c) iv).take c.length=_;rw [Ax];exact Ad (by rw [q2i];omega)
 obtain ⟨e1,e2,e3⟩:=z4a (wordsS key) c (by omega);rw [if_neg h,<-e1,<-z7l _ _ _ e2 _ (by omega)];unfold unchS;rw [flat16 _ e2,e3,B0 _ (by decide)]
def z6P{G:List SObj}:∀ (H0 L:List SObj) {H:List SObj},H=H0++L++G->leH (fun h=>h) H H0.length L
 |_,[],_,_=>trivial
 |H0,o :: L,H,e=>by
  have h1:leH (fun h=>h) H (H0.length+1) L:=by have:=z6P (G:=G) (H0++ [o]) L (H:=H) (by rw [e];simp);rwa [Ab] at this
  have h2:H[H0.length]?=some o:=by rw [e];simp
  cases o with
  |dead=>exact h1
  |cells T cs=>exact ⟨by rw [q1J];exact h2,h1⟩
  |row t xs=>exact ⟨by rw [q1J];exact h2,h1⟩
  |map k ks vs=>exact ⟨by rw [q1J];exact h2,h1⟩
  |mark n=>exact ⟨by rw [q1J];exact h2,h1⟩
theorem j4X[Ghost](H0:List SObj){G:List SObj}(hp:plainT td=true)(hb:SV.belL H0.length t=true)(hh:belH H0.length H0=true)(hi:injH (fun h=>h) 0 H0 []=true)(hs:SoundI P AQ ⟨0,td,t,H0⟩):SoundI P AQ ⟨0,td,t,H0++G⟩:=
 j7t (σ:=fun h=>h) hp ⟨q7b (q4K _),z6P (G:=G) [] H0 (by simp),hb,hh,hi,rfl,Al _,fun _ h0=>absurd h0 (B8 0)⟩ hs
def z8m(w iv:List UInt8)(xs:List (List UInt8))(hi:iv.length=16)(h:∀b∈xs,b.length=16):∀n,n<=xs.length->(dpl w iv xs n).1.length=16∧(dpl w iv xs n).2.length=16*n
 |0,_=>⟨hi,rfl⟩
 |n+1,hn=>by have ih:=z8m w iv xs hi h n (by omega);refine ⟨h _ (by rw [dpl,Aa,Ac hn];exact Bu _),?_⟩;rw [dpl,Ab,ih.2,q2i];omega
def cdC(m:List SV)(c:List UInt8)(i:Nat)(G:List SObj)(acc:List (List UInt8)):List SObj:=.cells 25 [.isl .u8 c] :: .cells 256 m :: .cells 65 [.bld (G.length+3) (.slice .u8) i] :: (G++ [.row (.slice .u8) acc])
def cdH(m:List SV)(c:List UInt8)(i:Nat)(H':List SObj):Prop:=∃G,quG G∧H'=cdC m c i G (cblk c i)
theorem j2r(key iv c:List UInt8)(hk:key.length=16)(hi:iv.length=16)(h1:16<=c.length)(hp:c.length<=131072):PC Tryz.prog 229 [.isl .u8 key,.isl .u8 iv,.isl .u8 c] (.tup [.isl .u8 (ctsD key iv c),rI 0]):=by
 have hst:=q9q key iv hk hi;have hck:=z3g c h1 hp;have hcu:=j1X c (by omega);have hit:=j6S c hp;have hpr:=z7Z key iv c h1;have hel:=z4y key iv c hi h1;have hn:nblk c.length=(c.length+15) / 16:=rfl;have hap:=fun b hb=>z0n key iv b hk hb;have hbx:=z8Q c (nblk c.length) (Af _);have hbl:=q9F c (nblk c.length);have hex:=j5a key iv c (cblk c (nblk c.length)) hk hbx hp (by omega) (by omega) (by omega);unfold modS at hst hap hex;generalize cipS key=cp at*;refine q0q rfl rfl (q3O (q1C noFG fi229 ?_));letI:Ghost:=topG noFG [];refine gQ ?_;refine cQ hst ?_;refine cQ hck ?_;refine cQ hcu ?_;refine q4e 2 0 (.slice .u8) rfl rfl rfl ?_;refine z5z (cdH [.iptr CipT cp 0,.isl .u8 iv] c) (fun _ _ _=>False) rfl rfl rfl hit (fun i n args' new h=>by rw [h.1];rfl) ⟨[],z5X,rfl⟩ rfl ?_ ?_ ?_
 . rintro i _ args' new hi' ⟨G,hG,rfl⟩ ⟨rfl,rfl⟩ L1 L2;letI:Ghost:=pinG noFG L1;rw [Ah];have hal:=q9F c i;have hac:=q4O c i;have hbl:=q3Y c hi';generalize cblk c i=a at*;generalize blkC c i=b at*;unfold cdC;refine uQ 600 _ ?_;simp only [putL,Bv];with_reducible refine sxaE ?_
   letI:Ghost:=pinG noFG L2;refine gya2 hal hbl ?_;have hi2:i< (c.length+15) / 16:=hi';refine ⟨⟨by omega,by omega⟩,G++ [.dead,.row (.slice .u8) [b]],z7M hG (fun _ _ _=>by simp [frzObH,SObj.frzOb]),?_⟩;rw [hac];simp [cdC]
 . rintro D _ ⟨G,hG,rfl⟩;unfold cdC;letI:Ghost:=topG noFG [D];obtain ⟨x,hx⟩:∃x,x=unxS (wordsS key) c.length (cblk c (nblk c.length)):=⟨_,rfl⟩;have hx16:∀b∈x,b.length=16:=by
    by_cases h:c.length=16
    . rw [hx,show unxS (wordsS key) c.length (cblk c (nblk c.length))=cblk c (nblk c.length) from if_pos (by omega)];exact hbx
    rw [hx];exact (z4a (wordsS key) c (by omega)).2.1
   have hxl:x.length=nblk c.length:=by
    rw [hx];unfold unxS;split
    . exact hbl
    rw [Bk,Bk];exact hbl
   rw [<-hx] at hpr hex;generalize cblk c (nblk c.length)=a at*;refine aQ ?_;rw [<-hbl];refine q0i [2,0,1,G.length+3] hex rfl (by simp) ?_ rfl rfl ?_
   . simp (maxSteps:=3000000) only [atH,sig,SObj.ren,SV.ren,SV.renL,SObj.live,List.append_assoc,getA,getA0,setA,setA0,Ab,Nat.add_assoc,go_sem,↓zA,↓reduceIte,↓reduceDIte] <;>try simp only [zB]
   simp only [afterO,Out.ren,SV.ren,mgA,sig,SObj.ren,SV.renL,List.set,List.map,Ah];refine uQ 3 _ ?_;with_reducible refine sxaE ?_
   refine q1j (G.length+3) (ty:=.slice .u8) (xs:=x) rfl (by simp) (by omega) ?_ ?_ ?_
   . with_reducible refine sxaE ?_
     exact ⟨by omega,q1v (hG _ _ _) ⟨trivial,trivial⟩⟩
   . with_reducible refine sxaE ?_;trivial
   have htk:List.take a.length x=x:=Ad (by omega);with_reducible refine sya1 htk ?_
   refine j4X [_,_,_] (by rfl) (by simp [SV.belL,SV.bel]) (by simp [belH,SObj.bel,SV.belL,SV.bel]) (by rfl) ?_;refine gQ ?_;clear hex hit hst hcu hck;obtain ⟨W,hW⟩:∃W,W=wordsS key:=⟨_,rfl⟩;rw [<-hW] at hpr hap;refine q5X 14 .u8 (fun i=>(dpl W iv x i).2) (fun i=>[(15,.isl .u8 (dpl W iv x i).1),(46,rI i)]) x.length (fun _=>True) rfl (by simp) rfl rfl (fun i=>rfl) ?_ fun i hi' _=> ?_
   . with_reducible refine sxE ?_
     rfl
   have hdl:=z8m W iv x hi hx16 i hi';have hwr:=wsx i (by omega);by_cases hlt:i<x.length
   . have hd1:dpl W iv x (i+1)=(x.getD i [],(dpl W iv x i).2++xorS (decS W (x.getD i [])) (dpl W iv x i).1):=rfl;have hbi:(x.getD i []).length=16:=hx16 _ (by rw [Aa,Ac hlt];exact Bu _);have g1:((i:Int) < ((x.length:Nat):Int))=True:=eq_true (by omega);have e5:(Ty.slice .u8).dflt=([]:List UInt8):=rfl;have hapb:=hap _ hbi;have hcob:=q7q (decS W (x.getD i [])) (dpl W iv x i).1 (q5f _ _) hdl.1;have hxo:=q2i (decS W (x.getD i [])) (dpl W iv x i).1;generalize hgd:x.getD i []=b at*;generalize xorS (decS W b) (dpl W iv x i).1=y at*;generalize hdi:dpl W iv x i=d at*;obtain ⟨pv,acc⟩:=d;dsimp only at*;refine gy3 g1 e5 hgd ?_;refine ⟨⟨by omega,hlt⟩,?_⟩;refine cQ hapb ?_;refine q0a hcob ?_;refine uQ 600 _ ?_;simp (maxSteps:=3000000) only [hdl.2,hxo,go_sem,↓zA,↓reduceIte,↓reduceDIte] <;>try simp only [zB]
     refine ⟨⟨by omega,by omega⟩,q3j [.dead] [] hlt trivial (by rw [hd1];rfl) ?_⟩;simp (maxSteps:=3000000) only [hwr,hd1,Ab,hdl.2,hxo,go_sem,↓zA,↓reduceIte,↓reduceDIte] <;>try simp only [zB]
   obtain rfl:i=x.length:=by omega
   have g1:(((x.length:Nat):Int) < ((x.length:Nat):Int))=False:=eq_false (by omega);refine uQ 11 _ ?_;simp (maxSteps:=3000000) only [g1,go_sem,↓zA,↓reduceIte,↓reduceDIte] <;>try simp only [zB]
   rw [<-hxl] at hpr hn;generalize hac:dpl W iv x x.length=d at*;obtain ⟨pv,acc⟩:=d;dsimp only at*;refine q1j 3 (ty:=.u8) (xs:=acc) rfl rfl (by omega) ?_ ?_ ?_
   . with_reducible refine sxE ?_;trivial
   . with_reducible refine sxE ?_
     first|done|exact Af _|exact ⟨Af _,Af _⟩
   have htk:List.take acc.length acc=acc:=AL;with_reducible refine sxE ?_
   refine gy2 htk hpr ?_;have hal:acc.length=16*x.length:=hdl.2;refine ⟨⟨by omega,by omega⟩,q0a (q2n (ctsD key iv c) (by omega)) ?_⟩;refine gQ ?_;trivial
 rintro D i ex _ hi' h;exact h.elim
def or8(a b:UInt8):orK .u8 (a.toNat:Int) (b.toNat:Int)=((a|||b).toNat:Int):=by
 unfold orK;have ha:=a.toNat_lt;have hb:=b.toNat_lt;have hx:a.toNat|||b.toNat<2^ 8:=Nat.or_lt_two_pow ha hb;have e:(BitVec.ofInt IntKind.u8.bits (a.toNat:Int) |||BitVec.ofInt IntKind.u8.bits (b.toNat:Int)).toNat=a.toNat|||b.toNat:=by rw [Cq,AO,AO,AU,AU];rw [show 2^ IntKind.u8.bits=256 from rfl,AV ha,AV hb]
 rw [e,u8wrapR,UInt8.toNat_or];omega
def dfS(a b:List UInt8):Nat->UInt8
 |0=>0
 |i+1=>dfS a b i||| (a.getD i 0^^^ b.getD i 0)
theorem j1o{a b:UInt8}:a|||b=0 ↔ a=0∧b=0:=by
 constructor
 . intro h;have h1:(a|||b).toNat=0:=by rw [h];rfl
   rw [UInt8.toNat_or] at h1;have ha:= @Nat.left_le_or a.toNat b.toNat;have hb:= @Nat.right_le_or a.toNat b.toNat;exact ⟨BP.1 (by show a.toNat=0;omega),BP.1 (by show b.toNat=0;omega)⟩
 rintro ⟨rfl,rfl⟩;rfl
def z8u{a b:UInt8}:a^^^ b=0 ↔ a=b:=UInt8.xor_eq_zero_iff
def z4r(a b:List UInt8):∀i,dfS a b i=0 ↔ ∀j,j<i->a.getD j 0=b.getD j 0
 |0=>by simp [dfS]
 |i+1=>by
  rw [dfS,j1o,z4r a b i,z8u];constructor
  . rintro ⟨h1,h2⟩ j hj;by_cases e:j=i
    . subst e;exact h2
    exact h1 j (by omega)
  intro h;exact ⟨fun j hj=>h j (by omega),h i (by omega)⟩
theorem j7b{a b:List UInt8}(h:a.length=b.length):dfS a b a.length=0 ↔ a=b:=by
 rw [z4r];constructor
 . intro h1;apply Aw h;intro j h2 h3;have:=h1 j h2;rw [Aa,Aa,Ac h2,Ac h3] at this;exact this
 rintro rfl j _;rfl
def j5g(a b:List UInt8)(ha:a.length<=1099511627776)(hb:b.length<=1099511627776):PC Tryz.prog 199 [.isl .u8 a,.isl .u8 b] (rB (decide (a=b))):=by
 refine q0q rfl rfl ?_;by_cases hl:a.length=b.length
 . have hl':((a.length:Int)=(b.length:Int))=True:=eq_true (by omega);refine ry1 fi199 hl' ?_;refine q0k (ι:=Nat) (fun i=>[(14,rI i),(5,.raw (.int .u8 (dfS a b i).toNat))]) (fun i=>[]) (fun i=>a.length-i) (fun i=>i<=a.length) 0 (Al _) rfl ?_ ?_
   . with_reducible refine sxE ?_
     rfl
   intro i hi;have hwr:=wsx i (by omega);by_cases h:i<a.length
   . have hx:=xor8 (a.getD i 0) (b.getD i 0);have ho:=or8 (dfS a b i) (a.getD i 0^^^ b.getD i 0);refine gyd3 hx ho Ae ?_;refine ⟨fun _=>⟨⟨by omega,by omega⟩,⟨by omega,by omega⟩,i+1,h,by dsimp only;omega,rfl,?_⟩,fun hh=>absurd h hh⟩;with_reducible refine sx1 hwr ?_
     rfl
   obtain rfl:i=a.length:=by omega
   refine gQ ?_;refine ⟨fun hh=>absurd hh (by omega),fun _=> ?_⟩;rw [decide_eq_decide,<-j7b hl,<-BP];exact Int.natCast_eq_zero
 have hl':((a.length:Int)=(b.length:Int))=False:=eq_false (by omega);refine ry1 fi199 hl' ?_;exact (decide_eq_false (fun e=>hl (by rw [e]))).symm
def z9u(a b:List UInt8)(ha:a.length<=1099511627776)(hb:b.length<=1099511627776):PC Tryz.prog 167 [.isl .u8 a,.isl .u8 b] (rB (decide (a=b))):=by refine q0q rfl rfl ?_;refine rQ fi167 ?_;refine cQ (j5g a b ha hb) ?_;trivial
def z0A(key cipher:List UInt8)(hk:key.length<=64)(hc:cipher.length<=1048576):PC Tryz.prog 208 [.isl .u8 key,.isl .u8 cipher] (.isl .u8 (hmS key (z16++cipher))):=by
 have hj:=j0A key [z16,cipher] hk (by simp [j2w];omega) (by simp);rw [show [z16,cipher].flatten=z16++cipher by simp] at hj;refine q0q rfl rfl ?_;refine q1T fi208 ?_;refine uQ 8 _ ?_;with_reducible refine sxE ?_
 refine q1j 0 (ty:=.u8) (xs:=z16) rfl rfl (by decide) ?_ ?_ ?_
 . with_reducible refine sxE ?_;trivial
 . with_reducible refine sxE ?_
   exact Af _
 with_reducible refine sxE ?_
 change SoundI _ _ ⟨_,_,[_,_,_,_,_,_,.isl .u8 z16,_,_,_],_⟩;refine gQ ?_;refine q0z 1 ?_;with_reducible refine sxE ?_
 refine cQ hj ?_;trivial
def z8l(key conf plain:List UInt8)(hk:key.length=16)(hc:conf.length=16)(hp:plain.length<=65536):PC Tryz.prog 206 [.isl .u8 key,.isl .u8 conf,.isl .u8 plain] (.isl .u8 (ctsE key z16 (conf++plain))):=by
 have hj:=z6Q [conf,plain] (by simp;omega) (by simp);rw [show [conf,plain].flatten=conf++plain by simp] at hj;have hen:=j3J key z16 (conf++plain) hk rfl (by simp;omega) (by simp;omega);refine q0q rfl rfl ?_;refine rQ fi206 ?_;refine q0e hj ?_;refine gQ ?_;refine q0G 0 (by decide) ?_;with_reducible refine sxE ?_
 change CallR _ _ _ _ [_,.isl .u8 z16,_] _ _;refine cR hen ?_;trivial
theorem z7a(key cipher:List UInt8)(hk:key.length=16)(h1:16<=cipher.length)(hc:cipher.length<=131072):PC Tryz.prog 207 [.isl .u8 key,.isl .u8 cipher] (.isl .u8 ((ctsD key z16 cipher).drop 16)):=by
 have hde:=j2r key z16 cipher hk rfl h1 hc;have hel:=z4y key z16 cipher rfl h1;refine q0q rfl rfl ?_;refine rQ fi207 ?_;refine q0z 0 ?_;with_reducible refine sxE ?_
 change CallI _ _ _ [_,.isl .u8 z16,_] _ _;refine q0a hde ?_;have htk:List.take cipher.length (ctsD key z16 cipher)=ctsD key z16 cipher:=Ad (by omega);refine uQ 16 _ ?_;with_reducible refine sy2 hel htk ?_
 refine ⟨⟨by omega,Af _⟩,z0N 4 rfl rfl ?_⟩;refine gQ ?_;trivial
end Go.Proofs.YthbcodbcndiapaaGreatDoor