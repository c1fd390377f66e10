/- AES: operations one after the other. -/
import Derived.Test.YthbcodbcndiapaaGreatDoorX9
set_option linter.all false
namespace Go.Proofs.YthbcodbcndiapaaGreatDoor
open Go Go.Sx Go.Proofs
set_option maxRecDepth 100000
set_option maxHeartbeats 40000000
abbrev OpE(f:FuncId)(x y:PasT.den):Prop:=PE Tryz.prog f [.rptr 0 PasT 0 0] [.row PasT [x]] (.ret (.tup [])) [.row PasT [y]]
def opF(f:FuncId):SV:=.fn f [.rptr 0 PasT 0 0] []
def z7Q(a:FuncId)(d l:PasT.den)(n:OpE a d l):PE Tryz.prog 273 [.rptr 0 PasT 0 0,.csl 1 .u8 0 0 1] [.row PasT [d],.cells 1 [opF a]] (.ret (.tup [])) [.row PasT [l],.cells 1 [opF a]]:=by
 refine q0a (Ac _) ?_;unfold opF;refine rQ fi273 ?_;refine q0p (ι:=Nat) (λi=>[(8,rI i)]) (λi=>[.row PasT [if i=0 then d else l],.cells 1 [opF a]]) (λi=>1-i) (λi=>i<=1) 0 (Ai _) rfl ?_ λi hi=> ?_
 . with_reducible refine sxE ?_;trivial
 unfold opF;rcases (show i=0\/i=1 by omega) with rfl|rfl
 . have f:((0:Int) < ((1:Nat):Int))=True:=eq_true (by decide);have e:(((0:Nat):Int) < ((1:Nat):Int))=True:=eq_true (by decide);refine gy2 f e ?_;refine q0i [0] n rfl (by decide) ?_ rfl rfl ?_
   . repeat first|exact trivial|exact rfl|refine And.intro ?_ ?_
   simp only [afterO,Out.ren,SV.ren,mgA,sig,SObj.ren,SV.renL,List.set,List.map,Ad];refine gQ ?_;refine ⟨1,by decide,by decide,rfl,?_⟩;with_reducible refine sxE ?_
   rfl
 have f:((1:Int) < ((1:Nat):Int))=False:=eq_false (by decide);have e:(((1:Nat):Int) < ((1:Nat):Int))=False:=eq_false (by decide);refine gy2 f e ?_;trivial
def z7k(f e l:FuncId)(n p o q:PasT.den)(s:OpE f n p)(r:OpE e p o)(u:OpE l o q):PE Tryz.prog 273 [.rptr 0 PasT 0 0,.csl 1 .u8 0 0 3] [.row PasT [n],.cells 1 [opF f,opF e,opF l]] (.ret (.tup [])) [.row PasT [q],.cells 1 [opF f,opF e,opF l]]:=by
 refine q0a (Ac _) ?_;unfold opF;refine rQ fi273 ?_;refine q0p (ι:=Nat) (λi=>[(8,rI i)]) (λi=>[.row PasT [if i=0 then n else (if i=1 then p else (if i=2 then o else q))],.cells 1 [opF f,opF e,opF l]]) (λi=>3-i) (λi=>i<=3) 0 (Ai _) rfl ?_ λi hi=> ?_
 . with_reducible refine sxE ?_;trivial
 unfold opF;rcases (show i=0\/i=1\/i=2\/i=3 by omega) with rfl|rfl|rfl|rfl
 . have d:((0:Int) < ((3:Nat):Int))=True:=eq_true (by decide);have a:(((0:Nat):Int) < ((3:Nat):Int))=True:=eq_true (by decide);refine gy2 d a ?_;refine q0i [0] s rfl (by decide) ?_ rfl rfl ?_
   . repeat first|exact trivial|exact rfl|refine And.intro ?_ ?_
   simp only [afterO,Out.ren,SV.ren,mgA,sig,SObj.ren,SV.renL,List.set,List.map,Ad];refine gQ ?_;refine ⟨1,by decide,by decide,rfl,?_⟩;with_reducible refine sxE ?_
   rfl
 . have d:((1:Int) < ((3:Nat):Int))=True:=eq_true (by decide);have a:(((1:Nat):Int) < ((3:Nat):Int))=True:=eq_true (by decide);refine gy2 d a ?_;refine ⟨by decide,q0i [0] r rfl (by decide) ?_ rfl rfl ?_⟩
   . repeat first|exact trivial|exact rfl|refine And.intro ?_ ?_
   simp only [afterO,Out.ren,SV.ren,mgA,sig,SObj.ren,SV.renL,List.set,List.map,Ad];refine gQ ?_;refine ⟨2,by decide,by decide,rfl,?_⟩;with_reducible refine sxE ?_
   rfl
 . have d:((2:Int) < ((3:Nat):Int))=True:=eq_true (by decide);have a:(((2:Nat):Int) < ((3:Nat):Int))=True:=eq_true (by decide);refine gy2 d a ?_;refine ⟨by decide,q0i [0] u rfl (by decide) ?_ rfl rfl ?_⟩
   . repeat first|exact trivial|exact rfl|refine And.intro ?_ ?_
   simp only [afterO,Out.ren,SV.ren,mgA,sig,SObj.ren,SV.renL,List.set,List.map,Ad];refine gQ ?_;refine ⟨3,by decide,by decide,rfl,?_⟩;with_reducible refine sxE ?_
   rfl
 have d:((3:Int) < ((3:Nat):Int))=False:=eq_false (by decide);have a:(((3:Nat):Int) < ((3:Nat):Int))=False:=eq_false (by decide);refine gy2 d a ?_;trivial
def z7j(l e n f:FuncId)(o q s r p:PasT.den)(A:OpE l o q)(u:OpE e q s)(B:OpE n s r)(z:OpE f r p):PE Tryz.prog 273 [.rptr 0 PasT 0 0,.csl 1 .u8 0 0 4] [.row PasT [o],.cells 1 [opF l,opF e,opF n,opF f]] (.ret (.tup [])) [.row PasT [p],.cells 1 [opF l,opF e,opF n,opF f]]:=by
 refine q0a (Ac _) ?_;unfold opF;refine rQ fi273 ?_;refine q0p (ι:=Nat) (λi=>[(8,rI i)]) (λi=>[.row PasT [if i=0 then o else (if i=1 then q else (if i=2 then s else (if i=3 then r else p)))],.cells 1 [opF l,opF e,opF n,opF f]]) (λi=>4-i) (λi=>i<=4) 0 (Ai _) rfl ?_ λi hi=> ?_
 . with_reducible refine sxE ?_;trivial
 unfold opF;rcases (show i=0\/i=1\/i=2\/i=3\/i=4 by omega) with rfl|rfl|rfl|rfl|rfl
 . have d:((0:Int) < ((4:Nat):Int))=True:=eq_true (by decide);have a:(((0:Nat):Int) < ((4:Nat):Int))=True:=eq_true (by decide);refine gy2 d a ?_;refine q0i [0] A rfl (by decide) ?_ rfl rfl ?_
   . repeat first|exact trivial|exact rfl|refine And.intro ?_ ?_
   simp only [afterO,Out.ren,SV.ren,mgA,sig,SObj.ren,SV.renL,List.set,List.map,Ad];refine gQ ?_;refine ⟨1,by decide,by decide,rfl,?_⟩;with_reducible refine sxE ?_
   rfl
 . have d:((1:Int) < ((4:Nat):Int))=True:=eq_true (by decide);have a:(((1:Nat):Int) < ((4:Nat):Int))=True:=eq_true (by decide);refine gy2 d a ?_;refine ⟨by decide,q0i [0] u rfl (by decide) ?_ rfl rfl ?_⟩
   . repeat first|exact trivial|exact rfl|refine And.intro ?_ ?_
   simp only [afterO,Out.ren,SV.ren,mgA,sig,SObj.ren,SV.renL,List.set,List.map,Ad];refine gQ ?_;refine ⟨2,by decide,by decide,rfl,?_⟩;with_reducible refine sxE ?_
   rfl
 . have d:((2:Int) < ((4:Nat):Int))=True:=eq_true (by decide);have a:(((2:Nat):Int) < ((4:Nat):Int))=True:=eq_true (by decide);refine gy2 d a ?_;refine ⟨by decide,q0i [0] B rfl (by decide) ?_ rfl rfl ?_⟩
   . repeat first|exact trivial|exact rfl|refine And.intro ?_ ?_
   simp only [afterO,Out.ren,SV.ren,mgA,sig,SObj.ren,SV.renL,List.set,List.map,Ad];refine gQ ?_;refine ⟨3,by decide,by decide,rfl,?_⟩;with_reducible refine sxE ?_
   rfl
 . have d:((3:Int) < ((4:Nat):Int))=True:=eq_true (by decide);have a:(((3:Nat):Int) < ((4:Nat):Int))=True:=eq_true (by decide);refine gy2 d a ?_;refine ⟨by decide,q0i [0] z rfl (by decide) ?_ rfl rfl ?_⟩
   . repeat first|exact trivial|exact rfl|refine And.intro ?_ ?_
   simp only [afterO,Out.ren,SV.ren,mgA,sig,SObj.ren,SV.renL,List.set,List.map,Ad];refine gQ ?_;refine ⟨4,by decide,by decide,rfl,?_⟩;with_reducible refine sxE ?_
   rfl
 have d:((4:Int) < ((4:Nat):Int))=False:=eq_false (by decide);have a:(((4:Nat):Int) < ((4:Nat):Int))=False:=eq_false (by decide);refine gy2 d a ?_;trivial
def tP(g:Nat->UInt8)(n:Nat):List UInt8:=(List.range 256).map λj=>if j<n then g j else 0
def fwS:List UInt8:=(List.range 256).map λj=>subS (UInt8.ofNat j)
def j7X(g:Nat->UInt8)(n:Nat):(tP g n).length=256:=by simp [tP]
theorem j5A(g:Nat->UInt8):tP g 0=List.replicate 256 0:=by rfl
theorem j7n(g:Nat->UInt8):tP g 256=(List.range 256).map g:=by rfl
variable {i:Nat}
theorem j7f(g:Nat->UInt8)(_hi:i<256):(tP g i).set i (g i)=tP g (i+1):=by
 apply Aq
 . simp [tP]
 intro j h1 h2;rw [A4];simp only [tP,AM,AD];grind
theorem j5W(r:List UInt8×Bool):PE Tryz.prog 282 [.rptr 0 CipT 0 0] [.row CipT [((List.replicate 256 0,List.replicate 256 0),r)]] (.ret (.tup [])) [.row CipT [((fwS,invP 256),r)]]:=by
 refine q0a (Ac _) ?_;refine rQ fi282 ?_;obtain ⟨g,u⟩:∃g:Nat->UInt8,g=λj=>subS (UInt8.ofNat j):=⟨_,rfl⟩;obtain ⟨R,o⟩:∃R:List UInt8,R=fwS:=⟨_,rfl⟩;obtain ⟨V,s⟩:∃V:List UInt8,V=invP 256:=⟨_,rfl⟩;rw [<-o,<-s];refine q0p (ι:=Nat) (λi=>[(3,rI i)]) (λi=>[.row CipT [((tP g i,invP i),r)]]) (λi=>256-i) (λi=>i<=256) 0 (Ai _) (by rw [j5A];rfl) ?_ λi hi=> ?_
 . with_reducible refine sxE ?_;trivial
 have n:=wsx i (by omega);have l:=j7X g i;have e:=z3H i;by_cases d:i<256
 . have f:((i:Int) <256)=True:=eq_true (by omega);refine uQ 600 _ ?_;have z:(UInt8.ofNat i).toNat=i:=by simp_all
   have p:IntKind.u8.wrap (i:Int)=(i:Int):=by rw [u8wrapR];omega
   have key:∀M:List UInt8,M=dat_ref06_substitutes->M.getD i 0=g i:=λM hM=>by grind [subS]
   with_reducible refine sy6 f l e AO p p ?_
   rw [key]
   case a=>rfl
   have q:=(g i).toNat_lt;refine ⟨⟨by omega,d⟩,⟨by omega,d⟩,⟨by simp_all,d⟩,⟨by omega,d⟩,⟨by omega,q⟩,⟨by rw [z],q⟩,i+1,d,by grind,?_,?_⟩
   . grind [j7f,UInt8.ofNat_toNat,invP]
   with_reducible refine sx1 n ?_;trivial
 obtain rfl:i=256:=by omega
 refine uQ 600 _ ?_;have f:(((256:Nat):Int) <256)=False:=eq_false (by omega);simp (maxSteps:=3000000) only [f,go_sem,↓zA,↓reduceIte,↓reduceDIte] <;>try simp only [zB]
 rw [j7n,o,s,u];rfl
def wZ(w:List UInt8)(i:Nat):List UInt8:=(List.range 176).map λj=>if j<i then w.getD j 0 else 0
theorem q7c(w:List UInt8)(i:Nat):(wZ w i).length=176:=by simp [wZ]
theorem j6z(w:List UInt8):wZ w 0=List.replicate 176 0:=by rfl
variable {w:List UInt8}
theorem j7m(hw:w.length=176):wZ w 176=w:=by apply Aq;all_goals simp_all [wZ]
variable {j:Nat}
theorem z6n(w:List UInt8)(hj:j<i)(hi:i<=176):(wZ w i).getD j 0=w.getD j 0:=by simp only [wZ,Ae,AF];grind
theorem j2G(w:List UInt8)(_hi:i<176):(wZ w i).set i (w.getD i 0)=wZ w (i+1):=by
 apply Aq
 . simp [wZ]
 intro j h1 h2;rw [A4];simp only [wZ,AM,AD];grind
theorem z8I(key:List UInt8)(hk:key.length=16){n m:Nat}(h:n<=m)(hj:j<16+4*n):(wkS key m).1.getD j 0=(wkS key n).1.getD j 0:=by obtain ⟨d,rfl⟩:=Nat.le.dest h;induction d<;>grind [wkS,addL,z2X]
def facS(key:List UInt8)(i:Nat):UInt8:=(wkS key (i-4)).2
theorem q3N(key:List UInt8)(a:4<=i):facS key (i+1)=if i%4=0 then dblS (facS key i) else facS key i:=by unfold facS;obtain ⟨n,rfl⟩:=Nat.le.dest a;grind [wkS]
theorem z7L(key:List UInt8)(hi:i<=4):facS key i=1:=by simp_all [facS,wkS]
theorem z1o(key:List UInt8)(hk:key.length=16)(hj:j<16):(wordsS key).getD j 0=key.getD j 0:=
 z8I key hk (Ai 40) hj
theorem q8h(key:List UInt8)(a:key.length=16)(e:4<=i)(hi:i<44)(hj:j<4):
 (wordsS key).getD (4*i+j) 0=(wordsS key).getD (4* (i-4)+j) 0^^^ (lastS (wordsS key) (facS key i) i).getD j 0:=by
 obtain ⟨n,rfl⟩:=Nat.le.dest e;have hl:=z2X key a n;have g:∀k,k<16+4*n->(wordsS key).getD k 0=(wkS key n).1.getD k 0:=λk h=>z8I key a (show n<=40 by omega) h;have d:lastS (wordsS key) (facS key (4+n)) (4+n)=lastS (wkS key n).1 (wkS key n).2 (n+4):=by grind [lastS,facS]
 rw [d,g (4* (4+n-4)+j) (by omega)];unfold wordsS;rw [z8I key a (show n+1<=40 by omega) (show 4* (4+n)+j<16+4* (n+1) by omega),wkS];simp only [addL,Ae];grind
variable {k0:Nat}{t:List SV}{H H':List SObj}
def leK{σ:Nat->Nat}{t':List SV}(hf:fixK σ k0=true)(hl:k0<=H'.length)(hm:∀n,H[0]?≠some (.mark n))(h1:leT σ t t')(h2:leH σ H 0 H')(h3:SV.belL H'.length t'=true)(h4:belH H'.length H'=true)(h5:injH σ 0 H' []=true):∃σ,Le σ k0 t H t' H':=
 ⟨σ,h1,h2,h3,h4,h5,hf,hl,λn _ h=>absurd h (hm n)⟩
def rndK{ι:Type}{S:ι->List SV×List SObj}{μ:ι->Nat}{p:ι->Prop}{i:ι}{t':List SV}(σ:Nat->Nat)(j:ι)(hj:p j)(hf:fixK σ k0=true)(hl':k0<=(S j).2.length)(hm:∀n,H'[0]?≠some (.mark n))(hl:μ j<μ i)(h1:leT σ t' (S j).1)(h2:leH σ H' 0 (S j).2)(h3:SV.belL (S j).2.length (S j).1=true)(h4:belH (S j).2.length (S j).2=true)(h5:injH σ 0 (S j).2 []=true):RoundK k0 S μ p i t' H':=
 ⟨j,hj,hl,σ,h1,h2,h3,h4,h5,hf,hl',λn _ h=>absurd h (hm n)⟩
theorem z3F{C:Cx}{ty:Ty}{xs:List ty.den}:∀ {t:List SV} {vs:List Value} {a:Nat},t[a]?=some (.fsl ty xs)->SV.denL C t vs->SV.denL C (t.set a (.isl ty xs)) vs
 | [],_,_,h,_=>by cases h
 |s :: l,_,0,h,d=>by obtain ⟨v,us,rfl,e,f⟩:=q0c.1 d;obtain rfl:s= .fsl ty xs:=Option.some.inj h;rw [SV.den] at e;refine q0c.2 ⟨v,us,rfl,?_,f⟩;grind [SV.den]
 |s :: l,_,n+1,h,d=>by obtain ⟨v,us,rfl,e,f⟩:=q0c.1 d;exact q0c.2 ⟨v,us,rfl,e,z3F h f⟩
variable {AQ:Ex->List SV->List SObj->Prop}
def z1b[Ghost]{P:Program}{td:List IT}{ty:Ty}{xs:List ty.den}(slot:Nat)(hp:plainT td=true)(ht:t[slot]?=some (.fsl ty xs))(hs:SoundI P AQ ⟨k0,td,t.set slot (.isl ty xs),H⟩):SoundI P AQ ⟨k0,td,t,H⟩:=
 q0d (λ_ hr E r n C a h0 hd=>q0e hs hr E r n C a h0 ⟨hd.wd,hd.ext,hd.defs,z3F ht hd.tmps⟩) hp
def kpS(w z:List UInt8)(n:Nat):List UInt8:=(List.range 176).map λj=>if j<n then w.getD j 0 else z.getD j 0
theorem z0i(w z:List UInt8)(n:Nat):(kpS w z n).length=176:=by simp [kpS]
theorem j0p(w:List UInt8){z:List UInt8}(a:z.length=176):kpS w z 0=z:=by
 apply Aq
 . rw [z0i,a]
 simp_all [kpS]
theorem j3i(z:List UInt8)(hw:w.length=176):kpS w z 176=w:=by apply Aq;all_goals simp_all [kpS]
theorem z2j(c:CipT.den)(x:UInt8)(_hl:(c.1.1:List UInt8).length=256):PE Tryz.prog 294 [.rptr 0 CipT 0 0,.raw (.int .u8 x.toNat)] [.row CipT [c]] (.ret (.raw (.int .u8 ((c.1.1:List UInt8).getD x.toNat 0).toNat))) [.row CipT [c]]:=by
 refine q0a (Ac _) ?_;refine rQ fi294 ?_;have hx:=x.toNat_lt
 simp_all
theorem j7q{q:List UInt8}(hi:i<44)(a:q.length=4)(h:∀j,j<4->q.getD j 0=w.getD (4*i+j) 0):(wZ w (4*i)).take (0+i*4)++q++(wZ w (4*i)).drop (0+i*4+q.length)=wZ w (4* (i+1)):=by
 have hl:=q7c w (4*i);apply Aq
 . grind [q7c]
 intro j h1 h2;have h2':j<176:=by grind
 have d:(wZ w (4* (i+1)))[j]=if j<4* (i+1) then w.getD j 0 else 0:=by simp [wZ]
 refine Eq.trans ?_ d.symm;by_cases c1:j<4*i
 . rw [Bh (by grind),Bh (by grind),List.getElem_take,if_pos (by omega)]
   simp_all [wZ]
 by_cases c2:j<4* (i+1)
 . rw [Bh (by grind),Bo (by grind),if_pos c2];have hjj:=h (j-4*i) (by omega);grind
 rw [Bo (by grind),BV,if_neg c2];simp only [wZ,AM,AD,Ab,An,A3,Cg,a];grind
theorem j5p{z q:List UInt8}(hi:i<44)(a:q.length=4)(h:∀j,j<4->q.getD j 0=w.getD (4*i+j) 0):(kpS w z (4*i)).take (4*i)++q++(kpS w z (4*i)).drop (4*i+4)=kpS w z (4* (i+1)):=by
 have hl:=z0i w z (4*i);apply Aq
 . grind [z0i]
 intro j h1 h2;have h2':j<176:=by grind
 have d:(kpS w z (4* (i+1)))[j]=if j<4* (i+1) then w.getD j 0 else z.getD j 0:=by simp [kpS]
 refine Eq.trans ?_ d.symm;by_cases c1:j<4*i
 . rw [Bh (by grind),Bh (by grind),List.getElem_take,if_pos (by omega)]
   simp_all [kpS]
 by_cases c2:j<4* (i+1)
 . rw [Bh (by grind),Bo (by grind),if_pos c2];have hjj:=h (j-4*i) (by omega);grind
 rw [Bo (by grind),BV,if_neg c2];simp only [kpS,AM,AD,Ab,An,A3,Cg,a];grind
theorem z8w(hi:i<44)(h4:4<=i):List.take 4 (List.drop (0+ (i-1)*4) (wZ w (4*i)))= [w.getD (4*i-4) 0,w.getD (4*i-3) 0,w.getD (4*i-2) 0,w.getD (4*i-1) 0]:=by
 have a:(List.take 4 (List.drop (0+ (i-1)*4) (wZ w (4*i)))).length=4:=by grind [q7c]
 have l:∀j,j<4->(List.take 4 (List.drop (0+ (i-1)*4) (wZ w (4*i)))).getD j 0=w.getD (4*i-4+j) 0:=λj f=>by
  simp only [Ae];rw [B6 f,Bp,show 0+ (i-1)*4+j=4*i-4+j by omega];have:=z6n w (i:=4*i) (j:=4*i-4+j) (by omega) (by omega)
  simp_all
 apply Aq
 . rw [a];rfl
 intro j d h2;rw [a] at d;have e:=l j d;rw [Ae,Af (by omega),Bq] at e;rw [e];rcases (show j=0\/j=1\/j=2\/j=3 by omega) with rfl|rfl|rfl|rfl
 . rfl
 all_goals grind
theorem z7w(key l inv z:List UInt8)(b:Bool)(G:key.length=16)(hf:∀c:UInt8,l.getD c.toNat 0=subS c)(ac:l.length=256)(hz:z.length=176):PE Tryz.prog 283 [.rptr 0 CipT 0 0,.isl .u8 key] [.row CipT [((l,inv),(z,b))]] (.ret (.tup [])) [.row CipT [((l,inv),(wordsS key,b))]]:=by
 obtain ⟨w,hw⟩:∃w,w=wordsS key:=⟨_,rfl⟩;rw [<-hw];have A:w.length=176:=by grind [q3Y]
 have hR:List.replicate 176 Ty.u8.dflt=wZ w 0:=(j6z w).symm;refine q0a (Ac _) ?_;refine q1Q fi283 (q0o mixed 600 _ ?_);simp (maxSteps:=3000000) only [ir283,↓hR,go_sem,↓zA,↓reduceIte,↓reduceDIte] <;>try simp only [zB]
 have hl0:=q7c w 0;refine ⟨by omega,?_⟩;refine z4h (ι:=Nat) [] (λi=>[(12,rI i),(5,.raw (.int .u8 (facS key i).toNat))]) (λi=>[.row CipT [((l,inv),(z,b))],.row .u8 (wZ w (4*i))]) (λi=>44-i) (λi=>i<=44) 0 (Ai _) (leK (σ:=λh=>h) rfl (Cq 1 _) (λn h=>by cases h) ?_ ?_ ?_ ?_ ?_) ?_
 . with_reducible refine sxE ?_
   rfl
 . refine ⟨rfl,congrArg (λx=>some (SObj.row .u8 x)) ?_,trivial⟩;rfl
 . kernel_rfl
 . kernel_rfl
 . kernel_rfl
 intro i hi;have W:=q7c w (4*i);have p:=wsx i (by omega);have Q:IntKind.i64.wrap (4* (i:Int))=((4*i:Nat):Int):=by grind [wrapi]
 by_cases a:i<44
 . have J:((i:Int) <44)=True:=eq_true (by omega);by_cases h4:i<4
   . have s:((i:Int) <4)=True:=eq_true (by omega);have e2:IntKind.i64.wrap (((4*i:Nat):Int)+4)=((4*i+4:Nat):Int):=by grind [wrapi]
     refine uQ 34 _ ?_;with_reducible refine sy6 J s W G Q e2 ?_
     refine ⟨by omega,z1b 27 rfl rfl ?_⟩;have ah:(List.take 4 (List.drop (4*i) (List.take (4*i+4) key))).length=4:=by grind
     refine gy2 G W ?_;refine ⟨by grind,⟨by omega,a⟩,by omega,?_⟩;refine rndK (λh=>h) (i+1) (by omega) rfl (Cq 1 _) (λn h=>by cases h) (by omega) ?_ ?_ ?_ ?_ ?_
     . with_reducible refine sx1 p ?_
       grind [z7L]
     . refine ⟨rfl,congrArg (λx=>some (SObj.row .u8 x)) (j7q a ah λj E=> ?_),trivial⟩;grind [z1o]
     all_goals rfl
   have s:((i:Int) <4)=False:=eq_false (by omega);have f:4<=i:=by omega
   have e3:IntKind.i64.wrap ((i:Int) -1)=((i-1:Nat):Int):=by grind [wrapi]
   have X:(i:Int).tmod 4=((i%4:Nat):Int):=by rfl
   have V:IntKind.i64.wrap ((i%4:Nat):Int)=((i%4:Nat):Int):=wrapi (by omega);by_cases h0:i%4=0
   . have f3:(((i%4:Nat):Int)=0)=True:=eq_true (by omega);have I:=z8w (w:=w) a f;refine uQ 40 _ ?_;simp (maxSteps:=3000000) only [J,s,f3,W,G,Q,e3,X,V,I,go_sem,↓zA,↓reduceIte,↓reduceDIte] <;>try simp only [zB]
     refine ⟨⟨by omega,by omega⟩,by omega,by decide,?_⟩;obtain ⟨x0,ad⟩:∃x,x=w.getD (4*i-4) 0:=⟨_,rfl⟩;obtain ⟨x1,ab⟩:∃x,x=w.getD (4*i-3) 0:=⟨_,rfl⟩;obtain ⟨x2,Z⟩:∃x,x=w.getD (4*i-2) 0:=⟨_,rfl⟩;obtain ⟨x3,Y⟩:∃x,x=w.getD (4*i-1) 0:=⟨_,rfl⟩;rw [<-ad,<-ab,<-Z,<-Y];have r:∀x:UInt8,PE Tryz.prog 294 [.rptr 0 CipT 0 0,.raw (.int .u8 x.toNat)] [.row CipT [((l,inv),(z,b))]] (.ret (.raw (.int .u8 (subS x).toNat))) [.row CipT [((l,inv),(z,b))]]:=λx=>by
      have h:=z2j ((l,inv),(z,b)) x ac
      simp_all
     refine gQ ?_;refine q0q [0] (r x1) rfl (by decide) (by repeat first|exact trivial|exact rfl|refine And.intro ?_ ?_) rfl rfl ?_ ?_
     . simp (maxSteps:=3000000) only [mgA,sig,q0u,q0A,SObj.ren,go_sem,↓zA,↓reduceIte,↓reduceDIte] <;>try simp only [zB]
     refine rnE ?_;refine uQ 600 _ ?_;simp (maxSteps:=3000000) only [xor8,go_sem,↓zA,↓reduceIte,↓reduceDIte] <;>try simp only [zB]
     refine q0q [0] (r x2) rfl (by decide) (by repeat first|exact trivial|exact rfl|refine And.intro ?_ ?_) rfl rfl ?_ ?_
     . simp (maxSteps:=3000000) only [mgA,sig,q0u,q0A,SObj.ren,go_sem,↓zA,↓reduceIte,↓reduceDIte] <;>try simp only [zB]
     refine rnE ?_;refine gQ ?_;refine q0q [0] (r x3) rfl (by decide) (by repeat first|exact trivial|exact rfl|refine And.intro ?_ ?_) rfl rfl ?_ ?_
     . simp (maxSteps:=3000000) only [mgA,sig,q0u,q0A,SObj.ren,go_sem,↓zA,↓reduceIte,↓reduceDIte] <;>try simp only [zB]
     refine rnE ?_;refine gQ ?_;refine q0q [0] (r x0) rfl (by decide) (by repeat first|exact trivial|exact rfl|refine And.intro ?_ ?_) rfl rfl ?_ ?_
     . simp (maxSteps:=3000000) only [mgA,sig,q0u,q0A,SObj.ren,go_sem,↓zA,↓reduceIte,↓reduceDIte] <;>try simp only [zB]
     refine rnE ?_;refine uQ 600 _ ?_;simp (maxSteps:=3000000) only [AN,go_sem,↓zA,↓reduceIte,↓reduceDIte] <;>try simp only [zB]
     have K:IntKind.i64.wrap ((i:Int) -4)=((i-4:Nat):Int):=by grind [wrapi]
     have o:=q3N key f;rw [if_pos h0] at o;have P:lastS w (facS key i) i= [subS x1^^^ facS key i,subS x2,subS x3,subS x0]:=by simp_all [lastS]
     have e:=λj E=>q8h key G f a (j:=j) E;rw [<-hw] at e;have u:(lastS w (facS key i) i).length=4:=by rw [P];rfl
     rw [<-P];generalize lastS w (facS key i) i=L at*;refine q0b (q7S (facS key i)) ?_;rw [<-o];refine gQ ?_;refine q0p (ι:=Nat) (λj=>[(67,rI j)]) (λj=>[.row CipT [((l,inv),(z,b))],.row .u8 (wZ w (4*i+j)),.row .u8 L]) (λj=>4-j) (λj=>j<=4) 0 (Ai _) rfl ?_ λj E=> ?_
     . with_reducible refine sxE ?_;trivial
     have F:=q7c w (4*i+j);have C:=wsx j (by omega);by_cases d:j<4
     . have D:(wZ w (4*i+j)).getD (0+ (i-4)*4+j) Ty.u8.dflt=w.getD (4* (i-4)+j) 0:=by rw [show 0+ (i-4)*4+j=4* (i-4)+j by omega];exact z6n w (by omega) (by omega)
       have B:((j:Int) <4)=True:=eq_true (by omega);refine uQ 600 _ ?_;simp (maxSteps:=3000000) only [B,K,F,u,D,xor8,AN,Av,go_sem,↓zA,↓reduceIte,↓reduceDIte] <;>try simp only [zB]
       refine ⟨⟨by omega,by omega⟩,⟨by omega,d⟩,by omega,⟨by omega,d⟩,by omega,⟨by omega,a⟩,⟨by omega,d⟩,by omega,j+1,d,by grind,?_,?_⟩
       . show _= [_,SObj.row .u8 (wZ w (4*i+j+1)),_];rw [<-j2G w (show 4*i+j<176 by omega),e j d,show 0+i*4+j=4*i+j by omega,Ag];rfl
       with_reducible refine sx1 C ?_;trivial
     obtain rfl:j=4:=by omega
     have B:(((4:Nat):Int) <4)=False:=by decide
     refine gy1 B ?_;refine rndK (λh=>h) (i+1) (by omega) rfl (Cq 1 _) (λn h=>by cases h) (by omega) ?_ ?_ ?_ ?_ ?_
     . with_reducible refine sx1 p ?_;trivial
     . exact ⟨rfl,rfl,trivial⟩
     all_goals rfl
   have f3:(((i%4:Nat):Int)=0)=False:=eq_false (by omega);have K:IntKind.i64.wrap ((i:Int) -4)=((i-4:Nat):Int):=by grind [wrapi]
   have o:=q3N key f;rw [if_neg h0] at o;have I:=z8w (w:=w) a f;have P:lastS w (facS key i) i= [w.getD (4*i-4) 0,w.getD (4*i-3) 0,w.getD (4*i-2) 0,w.getD (4*i-1) 0]:=by simp_all [lastS]
   have e:=λj E=>q8h key G f a (j:=j) E;rw [<-hw] at e;refine uQ 600 _ ?_;simp (maxSteps:=3000000) only [J,s,f3,W,G,Q,e3,X,V,I,go_sem,↓zA,↓reduceIte,↓reduceDIte] <;>try simp only [zB]
   refine ⟨⟨by omega,by omega⟩,by omega,by decide,?_⟩;have u:(lastS w (facS key i) i).length=4:=by rw [P];rfl
   rw [<-P];generalize lastS w (facS key i) i=L at*;refine q0p (ι:=Nat) (λj=>[(67,rI j)]) (λj=>[.row CipT [((l,inv),(z,b))],.row .u8 (wZ w (4*i+j)),.row .u8 L]) (λj=>4-j) (λj=>j<=4) 0 (Ai _) rfl ?_ λj E=> ?_
   . with_reducible refine sxE ?_;trivial
   have F:=q7c w (4*i+j);have C:=wsx j (by omega);by_cases d:j<4
   . have D:(wZ w (4*i+j)).getD (0+ (i-4)*4+j) Ty.u8.dflt=w.getD (4* (i-4)+j) 0:=by rw [show 0+ (i-4)*4+j=4* (i-4)+j by omega];exact z6n w (by omega) (by omega)
     have B:((j:Int) <4)=True:=eq_true (by omega);refine uQ 600 _ ?_;simp (maxSteps:=3000000) only [B,K,F,u,D,xor8,AN,Av,go_sem,↓zA,↓reduceIte,↓reduceDIte] <;>try simp only [zB]
     refine ⟨⟨by omega,by omega⟩,⟨by omega,d⟩,by omega,⟨by omega,d⟩,by omega,⟨by omega,a⟩,⟨by omega,d⟩,by omega,j+1,d,by grind,?_,?_⟩
     . show _= [_,SObj.row .u8 (wZ w (4*i+j+1)),_];rw [<-j2G w (show 4*i+j<176 by omega),e j d,show 0+i*4+j=4*i+j by omega,Ag];rfl
     with_reducible refine sx1 C ?_;trivial
   obtain rfl:j=4:=by omega
   have B:(((4:Nat):Int) <4)=False:=by decide
   refine gy1 B ?_;refine rndK (λh=>h) (i+1) (by omega) rfl (Cq 1 _) (λn h=>by cases h) (by omega) ?_ ?_ ?_ ?_ ?_
   . with_reducible refine sy2 p o ?_;trivial
   . exact ⟨rfl,rfl,trivial⟩
   all_goals rfl
 obtain rfl:i=44:=by omega
 have J:(((44:Nat):Int) <44)=False:=eq_false (by omega);have af:wZ w (4*44)=w:=j7m A;refine gy1 J ?_;rw [af];refine ⟨by omega,?_⟩;refine z4h (ι:=Nat) [4] (λi=>[(87,rI i)]) (λi=>[.row CipT [((l,inv),(kpS w z (4*i),b))]]) (λi=>44-i) (λi=>i<=44) 0 (Ai _) (leK (σ:=λh=>h) rfl (Ac _) (λn h=>by cases h) ?_ ?_ ?_ ?_ ?_) ?_
 . with_reducible refine sxE ?_;trivial
 . exact ⟨congrArg (λx=>some (SObj.row CipT [((l,inv),(x,b))])) (j0p w hz).symm,trivial⟩
 . kernel_rfl
 . kernel_rfl
 . kernel_rfl
 intro i hi;have aa:=z0i w z (4*i);have p:=wsx i (by omega);by_cases a:i<44
 . have s:((i:Int) <44)=True:=eq_true (by omega);have Q:(i:Int).tdiv 4=((i / 4:Nat):Int):=by rfl
   have e2:IntKind.i64.wrap ((i / 4:Nat):Int)=((i / 4:Nat):Int):=wrapi (by omega);have X:(i:Int).tmod 4=((i%4:Nat):Int):=by rfl
   have V:IntKind.i64.wrap ((i%4:Nat):Int)=((i%4:Nat):Int):=wrapi (by omega);have K:IntKind.i64.wrap (((i%4:Nat):Int)*4)=((i%4*4:Nat):Int):=by grind [wrapi]
   have O:List.take 176 w=w:=Aa (by omega);obtain ⟨q,I⟩:∃q,q=List.take 4 (List.drop (i*4) w):=⟨_,rfl⟩;have U:q.length=4:=by grind
   have ae:List.take 4 q=q:=Aa (by omega);have N:min 4 (16-i%4*4)=4:=by omega
   have R:=j5p (w:=w) (z:=z) (q:=q) a U λj E=>by grind
   have ag:i / 4*16+i%4*4=4*i:=by omega
   refine uQ 600 _ ?_;simp (maxSteps:=3000000) only [s,Q,e2,X,V,K,A,O,<-I,U,ae,N,ag,Ab,aa,go_sem,↓zA,↓reduceIte,↓reduceDIte] <;>try simp only [zB]
   refine ⟨⟨by omega,a⟩,by decide,⟨by omega,by omega⟩,by decide,⟨by omega,by omega,by omega⟩,by decide,by omega,?_⟩;refine rndK (λh=>h) (i+1) (by omega) rfl (Ac _) (λn h=>by cases h) (by omega) ?_ ?_ ?_ ?_ ?_
   . with_reducible refine sx1 p ?_;trivial
   . exact ⟨congrArg (λx=>some (SObj.row CipT [((l,inv),(x,b))])) R,trivial⟩
   all_goals rfl
 obtain rfl:i=44:=by omega
 have s:(((44:Nat):Int) <44)=False:=by decide
 refine gy1 s ?_;rw [j3i z A]
def cipS(key:List UInt8):CipT.den:=((fwS,invP 256),(wordsS key,true))
theorem z8k(c:UInt8):fwS.getD c.toNat 0=subS c:=by rfl
theorem j7U(key:List UInt8)(e:key.length=16):PC Tryz.prog 261 [.isl .u8 key] (.tup [.iptr CipT (cipS key) 0,rI 0]):=by
 have f:(((key.length:Nat):Int)=16)=True:=eq_true (by omega);have d:=j5W (List.replicate 176 0,true);have a:=z7w key fwS (invP 256) (List.replicate 176 0) true e z8k (by simp [fwS]) (by simp);have l:cipS key=((fwS,invP 256),(wordsS key,true)):=rfl;rw [l];generalize fwS=fw at*;generalize invP 256=iv at*;generalize wordsS key=w at*;refine q0l rfl rfl ?_;refine ry1 fi261 f ?_;refine q0i [0] d rfl (by decide) (by repeat first|exact trivial|exact rfl|refine And.intro ?_ ?_) rfl rfl ?_;simp only [afterO,Out.ren,SV.ren,mgA,sig,SObj.ren,SV.renL,List.set,List.map,Ad];refine gQ ?_;refine q0i [0] a rfl (by decide) (by repeat first|exact trivial|exact rfl|refine And.intro ?_ ?_) rfl rfl ?_;simp only [afterO,Out.ren,SV.ren,mgA,sig,SObj.ren,SV.renL,List.set,List.map,Ad];refine uQ 3 _ ?_;with_reducible refine sxE ?_
 refine z2S (ty:=CipT) 4 0 0 0 rfl rfl rfl (Nat.succ_pos _) (show 1<=1125899906842624 by decide) ?_ ?_ ?_
 . with_reducible refine sxE ?_;trivial
 . with_reducible refine sxE ?_;trivial
 with_reducible refine sxE ?_
 refine gQ ?_;simp [SV.leV]
theorem z0X(key b:List UInt8)(hb:b.length=16):PC Tryz.prog 267 [.iptr CipT (cipS key) 0,.isl .u8 b] (rI 0):=by have a:(((b.length:Nat):Int)=16)=True:=eq_true (by omega);unfold cipS;refine q0s rfl rfl ?_;refine ry1 fi267 a ?_;trivial
def rotS:∀n:Nat,n<32->1<=n->andK .u64 (IntKind.u64.wrap (-(n:Int))) 31=((32-n:Nat):Int):=by decide
def rotU:∀n:Nat,n<32->1<=n->IntKind.u64.wrap (32- ((32-n:Nat):Int))=(n:Int):=by decide
theorem j6J(m n:Nat)(h1:1<=n)(h2:n<=31)(e:m<4294967296):((BitVec.ofInt 32 (IntKind.u32.wrap ((m:Int)*2^ (32-n))) |||BitVec.ofInt 32 ((m:Int).fdiv (2^ n))).toNat:Int)=rotW n m:=by
 have l:IntKind.u32.wrap ((m:Int)*2^ (32-n))=((m*2^ (32-n)%4294967296:Nat):Int):=by rfl
 have r:((m:Int).fdiv (2^ n))=((m / 2^ n:Nat):Int):=by grind
 have o:m*2^ (32-n)%4294967296=2^ (32-n)* (m%2^ n):=by
  have:(4294967296:Nat)=2^ n*2^ (32-n):=by rw [<-CH,show n+ (32-n)=32 by omega]
  grind [Nat.mul_mod_mul_right]
 have d:m<2^ n*2^ (32-n):=by rw [<-CH,show n+ (32-n)=32 by omega];omega
 have q:m / 2^ n<2^ (32-n):=Nat.div_lt_of_lt_mul d;have p:m / 2^ n<=m:=Nat.div_le_self _ _;have f:m*2^ (32-n)%4294967296<4294967296:=CO _ (by decide);rw [l,r,B8,AK,AK,AR,AR,AP (a:=m*2^ (32-n)%4294967296) (b:=2^ 32) f,AP (a:=m / 2^ n) (b:=2^ 32) (Nat.lt_of_le_of_lt p e),o,<-Cw q];grind [rotW]
def j6C(x:Int)(n:Nat)(a:1<=n)(d:n<=31)(o:inW x):PC Tryz.prog 302 [.raw (.int .u32 x),.raw (.int .i64 (-(n:Int)))] (.raw (.int .u32 (rotW n x))):=by
 have f:=rotS n (by omega) a;have l:=rotU n (by omega) a;refine q0s rfl rfl ?_;refine rQ fi302 ?_;unfold orK;rw [f,l,Av,Av,Cr (by omega),Cr (by omega)];obtain ⟨m,rfl⟩:∃m:Nat,x=m:=⟨x.toNat,by omega⟩
 refine ⟨by omega,?_⟩;have h:=j6J m n a d (by omega);have e:=q3j a d o;refine congrArg (Value.int .u32) ?_;refine (congrArg IntKind.u32.wrap h).trans (w32 e)
def turnS(x:Int)(ns:List Nat):Nat->Int
 |0=>0
 |i+1=>xorW (turnS x ns i) (rotW (ns.getD i 1) x)
theorem z3E{x:Int}{a:List Nat}(d:inW x)(e:∀n∈a,1<=n/\n<=31):∀i,inW (turnS x a i)
 |0=>by simp [turnS,inW]
 |i+1=>by
  have h:1<=a.getD i 1/\a.getD i 1<=31:=by grind [List.getElem_mem]
  exact q7Q (z3E d e i) (q3j h.1 h.2 d)
def q6p(x:Int)(a:List Nat)(q:inW x)(r:∀n∈a,1<=n/\n<=31)(hl:a.length<=64):PC Tryz.prog 299 [.raw (.int .u32 x),.isl (.int .i64) (a.map λ(n:Nat)=>(n:Int))] (.raw (.int .u32 (turnS x a a.length))):=by
 refine q0s rfl rfl ?_;have d:(a.map λ(n:Nat)=>(n:Int)).length=a.length:=A3 ..;refine rQ fi299 ?_;refine q0p (ι:=Nat) (λi=>[(4,.raw (.int .u32 (turnS x a i))),(9,rI i)]) (λi=>[]) (λi=>a.length-i) (λi=>i<=a.length) 0 (Ai _) rfl ?_ ?_
 . with_reducible refine sxE ?_
   rfl
 intro i hi;have p:=wsx i (by omega);by_cases h:i<a.length
 . have u:(a.map λ(n:Nat)=>(n:Int)).getD i 0=((a.getD i 1:Nat):Int):=by rw [Ae,Af (by omega),Ae,Af h];simp
   have f:1<=a.getD i 1/\a.getD i 1<=31:=by rw [Ae,Af h];exact r _ (Bl _)
   have e:IntKind.i64.wrap (0- ((a.getD i 1:Nat):Int))= -((a.getD i 1:Nat):Int):=by rw [IntWalk.i64_in _ (by omega)];omega
   refine gyd4 d u e Ag ?_;refine ⟨λ_=>⟨⟨by omega,h⟩,q0b (j6C _ _ f.1 f.2 q) ?_⟩,λs=>absurd h s⟩;have o:=z3E q r i;have l:=xor32 o (q3j f.1 f.2 q);refine gy1 l ?_;refine ⟨i+1,h,by dsimp only;omega,rfl,?_⟩;with_reducible refine sx1 p ?_
   rfl
 obtain rfl:i=a.length:=by omega
 refine gy1 d ?_;exact ⟨λh=>absurd h (by omega),λ_=>trivial⟩
theorem byteU(x:Int)(m:Nat)(hx:inW x)(hm:m<=32):UInt8.ofNat (IntKind.u8.wrap (x.fdiv (2^ min m 32))).toNat=UInt8.ofNat (x.toNat / 2^ m%256):=by
 obtain ⟨n,rfl⟩:∃n:Nat,x=n:=⟨x.toNat,by omega⟩
 have e:((n:Int).fdiv (2^ m))=((n / 2^ m:Nat):Int):=by grind
 grind [u8wrapR]
theorem byteU0(x:Int)(hx:inW x):UInt8.ofNat (IntKind.u8.wrap x).toNat=UInt8.ofNat (x.toNat / 2^ 0%256):=by rw [u8wrapR];grind
theorem wordB4(h:List Int)(i j:Nat)(hj:j<4):wordB h (4*i+j)=UInt8.ofNat ((h.getD i 0).toNat / 2^ (24-8*j)%256):=by grind [wordB]
theorem bytesP4(h:List Int)(hi:i<8):((((bytesP h (4*i)).set (4*i) (UInt8.ofNat ((h.getD i 0).toNat / 2^ 24%256))).set (4*i+1) (UInt8.ofNat ((h.getD i 0).toNat / 2^ 16%256))).set (4*i+2) (UInt8.ofNat ((h.getD i 0).toNat / 2^ 8%256))).set (4*i+3) (UInt8.ofNat ((h.getD i 0).toNat / 2^ 0%256))=bytesP h (4* (i+1)):=by
 rw [show UInt8.ofNat ((h.getD i 0).toNat / 2^ 24%256)=wordB h (4*i) from (wordB4 h i 0 (by decide)).symm,q3W h (by omega),
  show UInt8.ofNat ((h.getD i 0).toNat / 2^ 16%256)=wordB h (4*i+1) from (wordB4 h i 1 (by decide)).symm,q3W h (by omega),
  show UInt8.ofNat ((h.getD i 0).toNat / 2^ 8%256)=wordB h (4*i+2) from (wordB4 h i 2 (by decide)).symm,q3W h (by omega),
  show UInt8.ofNat ((h.getD i 0).toNat / 2^ 0%256)=wordB h (4*i+3) from (wordB4 h i 3 (by decide)).symm,q3W h (by omega)]
 rfl
theorem z7U(h:List Int)(o:inWs h):PC Tryz.prog 293 [.dat (.arr 8 (.int .u32)) h] (.dat (.arr 32 .u8) (bytesS h)):=by
 refine q0s rfl rfl ?_;refine rQ fi293 ?_;have n:=o.1;have d:List.take 8 h=h:=Aa (by omega);refine ⟨by omega,?_⟩;rw [d];refine q0p (ι:=Nat) (λi=>[(6,rI i)]) (λi=>[.row (.int .u32) h,.row .u8 (bytesP h (4*i))]) (λi=>8-i) (λi=>i<=8) 0 (Ai _) rfl ?_ ?_
 . with_reducible refine sxE ?_;trivial
 intro i hi;have f:=wsx i (by omega);have a:=z5E h (4*i);by_cases l:i<8
 . have hx:=q0U o i l;have r:IntKind.i64.wrap (4* (i:Int))=((4*i:Nat):Int):=by grind [wrapi]
   have p:IntKind.i64.wrap (((4*i:Nat):Int)+1)=((4*i+1:Nat):Int):=q2w (by omega);have s:IntKind.i64.wrap (((4*i:Nat):Int)+2)=((4*i+2:Nat):Int):=by grind [wrapi]
   have q:IntKind.i64.wrap (((4*i:Nat):Int)+3)=((4*i+3:Nat):Int):=by grind [wrapi]
   refine uQ 600 _ ?_;simp (maxSteps:=3000000) only [n,a,r,p,s,q,A9,Ag,Ty.dflt,go_sem,↓zA,↓reduceIte,↓reduceDIte] <;>try simp only [zB]
   refine ⟨λ_=>⟨⟨by omega,by omega⟩,⟨by omega,by omega⟩,⟨by omega,q2H _⟩,⟨by omega,by omega⟩,⟨by omega,q2H _⟩,⟨by omega,by omega⟩,⟨by omega,q2H _⟩,⟨by omega,by omega⟩,⟨by omega,q2H _⟩,i+1,l,by grind,?_,?_⟩,λh=>absurd h (by omega)⟩
   . grind [byteU,byteU0,bytesP4]
   with_reducible refine sx1 f ?_;trivial
 obtain rfl:i=8:=by omega
 refine gy3 n a Ag ?_;refine ⟨λh=>absurd h (by omega),λ_=> ?_⟩;have e:List.take 32 (bytesP h 32)++List.drop (List.take 32 (bytesP h 32)).length (bytesP h 32)=bytesS h:=by rfl
 simp_all
set_option linter.defProp false
abbrev HH:Ty:=.prod (.arr 8 (.int .u32)) (.prod (.arr 64 .u8) (.int .i64))
abbrev MH:Ty:=.prod (.prod (.arr 64 .u8) (.arr 64 .u8)) (.prod HH .bool)
def orW{a b:Nat}{k:Nat}(e:b<2^ k)(h:2^ k*a+b<4294967296):orK .u32 ((2^ k*a:Nat):Int) (b:Int)=((2^ k*a+b:Nat):Int):=by
 unfold orK;have d:(BitVec.ofInt IntKind.u32.bits ((2^ k*a:Nat):Int) |||BitVec.ofInt IntKind.u32.bits (b:Int)).toNat=2^ k*a+b:=by rw [B8,AK,AK,AR,AR];rw [show 2^ IntKind.u32.bits=4294967296 from rfl,AP (a:=2^ k*a) (by omega),AP (a:=b) (by omega),<-Cw e]
 rw [d];exact w32 (by constructor<;>omega)
def u32n(n:Nat)(h:n<4294967296):IntKind.u32.wrap (n:Int)=(n:Int):=w32 (by constructor<;>omega)
theorem or4(c:Nat->UInt8):orK .u32 (orK .u32 (orK .u32 (IntKind.u32.wrap (IntKind.u32.wrap ((c 0).toNat:Int)*2^ min 24 32)) (IntKind.u32.wrap (IntKind.u32.wrap ((c 1).toNat:Int)*2^ min 16 32))) (IntKind.u32.wrap (IntKind.u32.wrap ((c 2).toNat:Int)*2^ min 8 32))) (IntKind.u32.wrap ((c 3).toNat:Int))=((256* (256* (256* (c 0).toNat+ (c 1).toNat)+ (c 2).toNat)+ (c 3).toNat:Nat):Int):=by
 have h0:=(c 0).toNat_lt;have h1:=(c 1).toNat_lt;have h2:=(c 2).toNat_lt;have h3:=(c 3).toNat_lt;generalize (c 0).toNat=d at*;generalize (c 1).toNat=e at*;generalize (c 2).toNat=f at*;generalize (c 3).toNat=l at*;have n:IntKind.u32.wrap (IntKind.u32.wrap (d:Int)*2^ min 24 32)=((2^ 24*d:Nat):Int):=by rw [u32n d (by omega),show (2:Int) ^ min 24 32=16777216 from rfl,w32 (by constructor<;>omega)];omega
 have o:IntKind.u32.wrap (IntKind.u32.wrap (e:Int)*2^ min 16 32)=((2^ 16*e:Nat):Int):=by rw [u32n e (by omega),show (2:Int) ^ min 16 32=65536 from rfl,w32 (by constructor<;>omega)];omega
 have p:IntKind.u32.wrap (IntKind.u32.wrap (f:Int)*2^ min 8 32)=((2^ 8*f:Nat):Int):=by rw [u32n f (by omega),show (2:Int) ^ min 8 32=256 from rfl,w32 (by constructor<;>omega)];omega
 rw [n,o,p,u32n l (by omega),orW (a:=d) (b:=2^ 16*e) (k:=24) (by omega) (by omega),
  show 2^ 24*d+2^ 16*e=2^ 16* (2^ 8*d+e) by omega,orW (a:=2^ 8*d+e) (b:=2^ 8*f) (k:=16) (by omega) (by omega),
  show 2^ 16* (2^ 8*d+e)+2^ 8*f=2^ 8* (2^ 8* (2^ 8*d+e)+f) by omega,orW (a:=2^ 8* (2^ 8*d+e)+f) (b:=l) (k:=8) (by omega) (by omega)]
theorem wrapU(x:Int):IntKind.u32.wrap x=x%4294967296:=rfl
variable {x:Int}
def z0P(h:inW x):xorW 0 x=x:=by unfold xorW;rw [Int.toNat_zero,Nat.zero_xor];omega
def turn2(h:inW x)(a b:Nat)(d:1<=a)(e:a<=31):turnS x [a,b] 2=xorW (rotW a x) (rotW b x):=by show xorW (xorW 0 (rotW a x)) (rotW b x)=_;rw [z0P (q3j d e h)]
def turn3(h:inW x)(a b c:Nat)(d:1<=a)(e:a<=31):turnS x [a,b,c] 3=xorW (xorW (rotW a x) (rotW b x)) (rotW c x):=by show xorW (xorW (xorW 0 (rotW a x)) (rotW b x)) (rotW c x)=_;rw [z0P (q3j d e h)]
variable {y:Int}
theorem sg1U(h:inW y):xorK .u32 (turnS y [17,19] 2) (y.fdiv (2^ min 10 32))=sg1 y:=by have e:y.fdiv (2^ min 10 32)=y / 1024:=fdivW y 1024 (by decide);have a:=q3j (n:=17) (by decide) (by decide) h;have d:=q3j (n:=19) (by decide) (by decide) h;rw [e,turn2 h 17 19 (by decide) (by decide),xor32 (q7Q a d) (by unfold inW at*;omega)];rfl
theorem sg0U(h:inW y):xorK .u32 (turnS y [7,18] 2) (y.fdiv (2^ min 3 32))=sg0 y:=by have e:y.fdiv (2^ min 3 32)=y / 8:=fdivW y 8 (by decide);have a:=q3j (n:=7) (by decide) (by decide) h;have d:=q3j (n:=18) (by decide) (by decide) h;rw [e,turn2 h 7 18 (by decide) (by decide),xor32 (q7Q a d) (by unfold inW at*;omega)];rfl
def schU{u v:Int}(a:inW x)(d:inW y):IntKind.u32.wrap (IntKind.u32.wrap (IntKind.u32.wrap (xorK .u32 (turnS y [17,19] 2) (y.fdiv (2^ min 10 32))+u)+xorK .u32 (turnS x [7,18] 2) (x.fdiv (2^ min 3 32)))+v)=(sg1 y+u+sg0 x+v)%W32:=by rw [sg0U a,sg1U d,wrapU,wrapU,wrapU];unfold W32;omega
def bs1U(h:inW x):turnS x [6,11,25] 3=bs1 x:=turn3 h _ _ _ (by decide) (by decide)
def bs0U(h:inW x):turnS x [2,13,22] 3=bs0 x:=turn3 h _ _ _ (by decide) (by decide)
def notU(h:inW x):IntKind.u32.wrap ↑(BitVec.ofInt 32 (if IntKind.u32.signed=true then -1 else IntKind.u32.max) ^^^ BitVec.ofInt 32 x).toNat=4294967295-x:=by
 have e:BitVec.ofInt 32 (if IntKind.u32.signed=true then -1 else IntKind.u32.max)=BitVec.allOnes 32:=by decide
 obtain ⟨n,rfl⟩:∃n:Nat,x=n:=⟨x.toNat,by omega⟩
 rw [e,BitVec.allOnes_xor,BitVec.toNat_not,AK,AR,AP (by omega),wrapU];omega
theorem j0m(x y z:Int)(a:inW x)(d:inW y)(f:inW z):PC Tryz.prog 300 [.raw (.int .u32 x),.raw (.int .u32 y),.raw (.int .u32 z)] (.raw (.int .u32 (chW x y z))):=by
 have e:inW (4294967295-x):=by omega
 have l:=and32 a d;have o:=and32 e f;have n:=xor32 (q3L a d) (q3L e f);refine q0s rfl rfl ?_;refine rQ fi300 ?_;refine (congrArg (λu=>Value.int IntKind.u32 (xorK IntKind.u32 (andK IntKind.u32 x y) (andK IntKind.u32 u z))) (notU a)).trans ?_;show Value.int IntKind.u32 (xorK IntKind.u32 (andK IntKind.u32 x y) (andK IntKind.u32 (4294967295-x) z))=_;rw [l,o,n];rfl
theorem z5T(a b c:Int)(d:inW a)(e:inW b)(f:inW c):PC Tryz.prog 301 [.raw (.int .u32 a),.raw (.int .u32 b),.raw (.int .u32 c)] (.raw (.int .u32 (majW a b c))):=by have n:=and32 d e;have q:=and32 d f;have o:=and32 e f;have p:=xor32 (q3L d e) (q3L d f);have l:=xor32 (q7Q (q3L d e) (q3L d f)) (q3L e f);refine q0s rfl rfl ?_;refine rQ fi301 ?_;rw [n,q,p,o,l];rfl
theorem j6W(t:Nat):dat_sha_constants.getD t 0=kS t:=rfl
variable {v:List Int}
def t1U{k w:Int}(a:inWs v):IntKind.u32.wrap (IntKind.u32.wrap (IntKind.u32.wrap (IntKind.u32.wrap (v.getD 7 0+turnS (v.getD 4 0) [6,11,25] 3)+chW (v.getD 4 0) (v.getD 5 0) (v.getD 6 0))+k)+w)=t1S k w v%W32:=by rw [bs1U (q0U a 4 (by decide))];simp only [wrapU];unfold t1S W32;omega
theorem t2U(a:inWs v):IntKind.u32.wrap (turnS (v.getD 0 0) [2,13,22] 3+majW (v.getD 0 0) (v.getD 1 0) (v.getD 2 0))=t2S v%W32:=by rw [bs0U (q0U a 0 (by decide))];rfl
def aU(x y:Int):IntKind.u32.wrap (x%W32+y%W32)=(x+y)%W32:=by rw [wrapU];unfold W32;omega
def eU(x y:Int):IntKind.u32.wrap (x+y%W32)=(x+y)%W32:=by rw [wrapU];unfold W32;omega
theorem list8{l:List Int}(h:l.length=8):[l.getD 0 0,l.getD 1 0,l.getD 2 0,l.getD 3 0,l.getD 4 0,l.getD 5 0,l.getD 6 0,l.getD 7 0]=l:=by
 match l,h with
 | [a,b,c,d,e,f,g,i],_=>rfl
variable {b:List UInt8}
def ldW{t:Nat}(d:t<16)(c:Nat->UInt8)(a:∀j,j<4->c j=b.getD (4*t+j) 0):orK .u32 (orK .u32 (orK .u32 (IntKind.u32.wrap (IntKind.u32.wrap ((c 0).toNat:Int)*2^ min 24 32)) (IntKind.u32.wrap (IntKind.u32.wrap ((c 1).toNat:Int)*2^ min 16 32))) (IntKind.u32.wrap (IntKind.u32.wrap ((c 2).toNat:Int)*2^ min 8 32))) (IntKind.u32.wrap ((c 3).toNat:Int))=wS b t:=by rw [or4 c,a 0 (by omega),a 1 (by omega),a 2 (by omega),a 3 (by omega),j3B d];simp only [wdP,byI];omega
def subW{t:Nat}(k:Int)(n:Nat)(e:k=n)(h:n<=t)(ht:t<64):IntKind.i64.wrap ((t:Int) -k)=((t-n:Nat):Int):=by rw [wrapi (by omega)];omega
variable {k:List IT}{c:IC}
def loopXc[Ghost]{A:SObj}{T:List SObj}(upd:Nat->List (Nat×SV))(Hf:Nat->List SObj)(μ:Nat->Nat)(p:Nat->Prop)(a:Nat)(d:p a)(e:T=Hf a)(f:leM t (setMany (maskT c.wr t) (upd a)))
 (round:∀i,p i->SoundI Tryz.prog AQ ⟨k0,.ic c :: .stop (RoundX (λi=>A :: Hf i) (λi=>setMany (maskT c.wr t) (upd i)) μ p i) :: k,setMany (maskT c.wr t) (upd i),A :: Hf i⟩):SoundI Tryz.prog AQ ⟨k0,.ic (.loop c) :: k,t,A :: T⟩:=
 q0p upd (λi=>A :: Hf i) μ p a d (by rw [e]) f round
def loopGc[Ghost]{A:SObj}{T:List SObj}(upd:Nat->List (Nat×SV))(Hf:Nat->List SObj)(μ:Nat->Nat)(p:Nat->Prop)(a:Nat)(e:p a)(d:k0<=2)(q:∀i,(A :: Hf i).length=2)(n:∀i,belH 2 (A :: Hf i)=true)(l:∀i,((upd i).all λx=>x.2.bel 2)=true)(f:T=Hf a)(o:leM t (setMany (maskT c.wr t) (upd a)))
 (round:∀i,p i->SoundI Tryz.prog AQ ⟨k0,.ic c :: .stop (RoundG (λi=>A :: Hf i) (λi=>setMany (maskT c.wr t) (upd i)) μ p i) :: k,setMany (maskT c.wr t) (upd i),A :: Hf i⟩):SoundI Tryz.prog AQ ⟨k0,.ic (.loop c) :: k,t,A :: T⟩:=
 z3T upd (λi=>A :: Hf i) μ p a e 2 (by rw [f]) d q n l o round
variable {h:List Int}
def loopXr[Ghost](d:blkP b h 0=h)(R:List Int->SObj)(e:H= [R h,.row (.int .u32) (wL b 64)])(a:leM t (setMany (maskT c.wr t) [(186,rI (0:Nat)),(185,.dat (.arr 8 (.int .u32)) (rnds b h 64))]))
 (round:∀i,i<=8->SoundI Tryz.prog AQ ⟨k0,.ic c :: .stop (RoundX (λi=>[R (blkP b h i),.row (.int .u32) (wL b 64)]) (λi:Nat=>setMany (maskT c.wr t) [(186,rI i),(185,.dat (.arr 8 (.int .u32)) (rnds b h 64))]) (λt=>8-t) (λt=>t<=8) i) :: k,setMany (maskT c.wr t) [(186,rI i),(185,.dat (.arr 8 (.int .u32)) (rnds b h 64))],[R (blkP b h i),.row (.int .u32) (wL b 64)]⟩):SoundI Tryz.prog AQ ⟨k0,.ic (.loop c) :: k,t,H⟩:=
 q0p (λi:Nat=>[(186,rI i),(185,.dat (.arr 8 (.int .u32)) (rnds b h 64))]) (λi=>[R (blkP b h i),.row (.int .u32) (wL b 64)]) (λt=>8-t) (λt=>t<=8) 0 (Ai _) (by rw [d];exact e) a round
theorem add5(b:List UInt8)(h:List Int)(hb:b.length=64)(p:inWs h):
 (PE Tryz.prog 292 [.rptr 0 (.int .u32) 0 0,.isl .u8 b] [.row (.int .u32) h] (.ret (.tup [])) [.row (.int .u32) (blkS b h)])/\
 (∀ (r:List UInt8×Int),PE Tryz.prog 292 [.rptr 0 HH 0 0,.isl .u8 b] [.row HH [(h,r)]] (.ret (.tup [])) [.row HH [((blkS b h),r)]])/\
 (∀ (n:Int),PE Tryz.prog 292 [.rptr 0 HH 0 0,.csl 0 .u8 8 0 64] [.row HH [(h,(b,n))]] (.ret (.tup [])) [.row HH [((blkS b h),(b,n))]])/\
 (∀ (l:List UInt8×List UInt8) (r:List UInt8×Int) (rd:Bool),PE Tryz.prog 292 [.rptr 0 MH 0 128,.isl .u8 b] [.row MH [(l,((h,r),rd))]] (.ret (.tup [])) [.row MH [(l,(((blkS b h),r),rd))]])/\
 (∀ (l:List UInt8×List UInt8) (n:Int) (rd:Bool),PE Tryz.prog 292 [.rptr 0 MH 0 128,.csl 0 .u8 136 0 64] [.row MH [(l,((h,(b,n)),rd))]] (.ret (.tup [])) [.row MH [(l,(((blkS b h),(b,n)),rd))]]):=by
 refine ⟨?_,λr=> ?_,λn=> ?_,λl r rd=> ?_,λl n rd=> ?_⟩;all_goals
  refine q0a (Ac _) ?_;refine rQ fi292 ?_;refine loopXc (λt=>[(26,rI t)]) (λt=>[.row (.int .u32) (wL b t)]) (λt=>16-t) (λt=>t<=16) 0 (Ai _) (by rw [j4i];rfl) ?_ ?_
  . with_reducible refine sxE ?_;trivial
  intro t L;have e:=wsx t (by omega);have d:=j2O b t;by_cases a:t<16
  . have V:IntKind.i64.wrap (4* (t:Int))=((4*t:Nat):Int):=by rw [wrapi (by omega)];omega
    have U:IntKind.i64.wrap (((4*t:Nat):Int)+4)=((4*t+4:Nat):Int):=by rw [wrapi (by omega)];omega
    refine gy4 V U d Ag ?_;have hdl:(List.drop (4*t) (List.take (4*t+4) b)).length=4:=by rw [Ah,An];omega
    refine ⟨λ_=> ?_,λh=>absurd h (by omega)⟩;repeat (with_reducible refine And.intro (by first|omega|exact ⟨by omega,by omega,by omega,by omega⟩ |exact ⟨by omega,by omega⟩) ?_)
    refine ⟨t+1,by show t+1<=16;omega,by dsimp only;omega,?_,?_⟩
    . have Z:=ldW a (λj=>(List.drop (4*t) (List.take (4*t+4) b)).getD j Ty.u8.dflt) λj hj=>by rw [Ae,Bp,B6 (by omega),<-Ae];rfl
      have W:=ldW a (λj=>b.getD (4*t+j) Ty.u8.dflt) λ_ _=>rfl;first
       |rw [Z]
       |rw [W]
      exact congrArg (λz=>[_,SObj.row (.int .u32) z]) (j2S b (by omega))
    with_reducible refine sx1 e ?_;trivial
  obtain rfl:t=16:=by omega
  refine gy2 d Ag ?_;refine ⟨λh=>absurd h (by omega),λ_=> ?_⟩;refine loopGc (λt=>[(7,rI t)]) (λt=>[.row (.int .u32) (wL b t)]) (λt=>64-t) (λt=>16<=t/\t<=64) 16 (by decide) (by decide) (λ_=>rfl) (λ_=>rfl) (λ_=>rfl) rfl ?_ ?_
  . with_reducible refine sxE ?_
    rfl
  intro t L;have d:=j2O b t;have e:=wsx t (by omega);by_cases a:t<64
  . have B:=subW (t:=t) 15 15 rfl (by omega) a;have P:=subW (t:=t) 2 2 rfl (by omega) a;have K:=subW (t:=t) 7 7 rfl (by omega) a;have C:=subW (t:=t) 16 16 rfl (by omega) a;have A:=z1I b (t:=t) (j:=t-15) (by omega) (by omega);have N:=z1I b (t:=t) (j:=t-2) (by omega) (by omega);have O:=z1I b (t:=t) (j:=t-7) (by omega) (by omega);have D:=z1I b (t:=t) (j:=t-16) (by omega) (by omega);have u:=z6I b (t-15);have E:=z6I b (t-2);have Y:=z6I b (t-7);have i16:=z6I b (t-16);refine gyd10 B P K C A N O D d Ag ?_;refine ⟨λ_=>⟨⟨by omega,by omega⟩,by omega,⟨by omega,by omega⟩,by omega,⟨by omega,by omega⟩,by omega,⟨by omega,by omega⟩,by omega,q0n (q6p (wS b (t-2)) [17,19] E (by decide) (by decide)) ?_⟩,λh=>absurd a (by omega)⟩;refine gQ ?_;refine q1G 2 (by decide) ?_;with_reducible refine sxE ?_
    refine q0g (q6p (wS b (t-15)) [7,18] u (by decide) (by decide)) ?_;refine uQ 600 _ ?_;simp (maxSteps:=3000000) only [B,P,K,C,A,N,O,D,d,Ag,Ty.dflt,go_sem,↓zA,↓reduceIte,↓reduceDIte] <;>try simp only [zB]
    repeat (with_reducible refine And.intro (by first|omega|exact ⟨by omega,by omega⟩) ?_)
    refine ⟨t+1,⟨by omega,a⟩,by dsimp only;omega,⟨[.dead],?_⟩,?_⟩
    . rw [schU u E,<-j4k (by omega),j2S b a];rfl
    with_reducible refine sx1 e ?_;trivial
  obtain rfl:t=64:=by omega
  refine gQ ?_;have o:=p.1;refine ⟨λh=>absurd h (by omega),λ_=> ?_⟩;repeat (with_reducible refine And.intro (by omega) ?_)
  refine q9a (t:=.arr 64 (.int .u32)) (x:=dat_sha_constants) (ag:=some 64) (s:=.dat (.arr 64 (.int .u32)) dat_sha_constants) (by unfold datList;repeat (first|exact .head _|apply List.Mem.tail)) rfl (.inr rfl) ?_;refine gQ ?_;refine loopGc (λt=>[(134,rI t),(12,.raw (.int .u32 ((rnds b h t).getD 0 0))),(13,.raw (.int .u32 ((rnds b h t).getD 1 0))),(14,.raw (.int .u32 ((rnds b h t).getD 2 0))),(15,.raw (.int .u32 ((rnds b h t).getD 3 0))),(16,.raw (.int .u32 ((rnds b h t).getD 4 0))),(17,.raw (.int .u32 ((rnds b h t).getD 5 0))),(18,.raw (.int .u32 ((rnds b h t).getD 6 0))),(19,.raw (.int .u32 ((rnds b h t).getD 7 0)))]) (λ_=>[.row (.int .u32) (wL b 64)]) (λt=>64-t) (λt=>t<=64) 0 (Ai _) (by decide) (λ_=>rfl) (λ_=>rfl) (λ_=>rfl) rfl ?_ ?_
  . with_reducible refine sxE ?_
    exact ⟨rfl,rfl,rfl,rfl,rfl,rfl,rfl,rfl⟩
  intro t L;have e:=wsx t (by omega);by_cases a:t<64
  . have f:=q9K (b:=b) p t;generalize J:rnds b h t=v at*;have Q:=q0U f 0 (by decide);have i1:=q0U f 1 (by decide);have E:=q0U f 2 (by decide);have i3:=q0U f 3 (by decide);have R:=q0U f 4 (by decide);have X:=q0U f 5 (by decide);have i6:=q0U f 6 (by decide);have Y:=q0U f 7 (by decide);refine gyd3 o d Ag ?_;refine ⟨λ_=>⟨⟨by omega,by omega⟩,⟨by omega,by omega⟩,by omega,?_⟩,λh=>absurd a (by omega)⟩;refine q1G 2 (by decide) ?_;with_reducible refine sxE ?_
    refine q0g (q6p _ [6,11,25] R (by decide) (by decide)) ?_;refine gyd3 o d Ag ?_;refine q0g (j0m _ _ _ R X i6) ?_;refine gyd3 o d Ag ?_;refine q0F 3 ?_;with_reducible refine sxE ?_
    refine cyd3 (q6p _ [2,13,22] Q (by decide) (by decide)) o d Ag ?_;refine cyd3 (z5T _ _ _ Q i1 E) o d Ag ?_;have hr:rnds b h (t+1)=rnd (kS t) (wS b t) v:=by show rnd (kS t) (wS b t) (rnds b h t)=_;rw [J]
    have G:=t1U (k:=kS t) (w:=wS b t) f;have F:=t2U f;refine ⟨t+1,a,by dsimp only;omega,⟨[.dead,.dead],rfl⟩,?_⟩;rw [j6W,z1I b a a,G,F,aU,eU];with_reducible refine sy2 e hr ?_
    exact ⟨rfl,rfl,rfl,rfl,rfl,rfl,rfl,rfl⟩
  obtain rfl:t=64:=by omega
  refine gyd3 o d Ag ?_;refine ⟨λh=>absurd h (by omega),λ_=> ?_⟩;have e8:=list8 (q9K (b:=b) p 64).1;first
   |refine loopXr (q3z b p.1) (λx=>.row (.int .u32) x) rfl ?_ ?_
   |refine loopXr (q3z b p.1) (λx=>.row HH [(x,r)]) rfl ?_ ?_
   |refine loopXr (q3z b p.1) (λx=>.row HH [(x,(b,n))]) rfl ?_ ?_
   |refine loopXr (q3z b p.1) (λx=>.row MH [(l,((x,r),rd))]) rfl ?_ ?_
   |refine loopXr (q3z b p.1) (λx=>.row MH [(l,((x,(b,n)),rd))]) rfl ?_ ?_
  . with_reducible refine sxE ?_
    exact congrArg (SV.dat (.arr 8 (.int .u32))) e8
  intro i hi;have e:=wsx i (by omega);have f:=q9K (b:=b) p 64;have o:=f.1;have q:=j1z b h i;by_cases a:i<8
  . have I:=j1b b h a;refine gyd4 o q Ag AO ?_;refine ⟨λ_=> ?_,λh=>absurd a (by omega)⟩;repeat (with_reducible refine And.intro (by first|omega|exact ⟨by omega,by omega⟩) ?_)
    refine ⟨i+1,a,by dsimp only;omega,?_,?_⟩
    . rw [I,wrapU];show _= [_,_];rw [<-j2k b h a]
    with_reducible refine sx1 e ?_;trivial
  obtain rfl:i=8:=by omega
  refine gyd3 o q Ag ?_;refine ⟨λh=>absurd h (by omega),λ_=> ?_⟩;rw [j0e]
def add_c(b:List UInt8)(h:List Int)(hb:b.length=64)(hh:inWs h):=(add5 b h hb hh).1
def addH_c(b:List UInt8)(r:List UInt8×Int)(h:List Int)(hb:b.length=64)(hh:inWs h):=(add5 b h hb hh).2.1 r
def addR_c(b:List UInt8)(n:Int)(h:List Int)(hb:b.length=64)(hh:inWs h):=(add5 b h hb hh).2.2.1 n
def addM_c(b:List UInt8)(ks:List UInt8×List UInt8)(r:List UInt8×Int)(rd:Bool)(h:List Int)(hb:b.length=64)(hh:inWs h):=(add5 b h hb hh).2.2.2.1 ks r rd
def addN_c(b:List UInt8)(ks:List UInt8×List UInt8)(n:Int)(rd:Bool)(h:List Int)(hb:b.length=64)(hh:inWs h):=(add5 b h hb hh).2.2.2.2 ks n rd
def padT(b:List UInt8)(total:Nat):List UInt8:=padZ b (padN b.length)++lnB8 (8*total) 8
theorem z0k(b:List UInt8)(a:Nat):(padT b a).length=64*blksN b:=by grind [padT,blksN,j1e,j0x,padN]
def blkAt(p:List UInt8)(i:Nat):List UInt8:=(p.take (64*i+64)).drop (64*i)
theorem z0z{p:List UInt8}{N:Nat}(hp:p.length=64*N)(hi:i<N):(blkAt p i).length=64:=by grind [blkAt]
def vwB(b:List UInt8)(total:Nat):Nat->Nat->List SV->List SObj->Prop:=λi _ args' new=>args'= [.isl .u8 (blkAt (padT b total) i)]/\new= []
theorem j2y(b:List UInt8)(a:Nat)(hb:b.length<=70368744177664):PC Tryz.prog 291 [.isl .u8 b,rI a] (.fn 298 [] [.iptr (.slice .u8) b 0,.iptr (.int .i64) a 0]):=by
 refine q0s rfl rfl ?_;refine q1Q fi291 ?_;refine uQ 4 _ ?_;with_reducible refine sxE ?_
 refine q1N 2 0 (ty:=.slice .u8) (x:=b) rfl ⟨by omega,λ_ _=>trivial⟩ rfl rfl ?_;refine q1N 3 1 (ty:=.int .i64) (x:=(a:Int)) rfl trivial rfl rfl ?_;refine gQ ?_;trivial
def endP(r:List UInt8)(total S i:Nat):List UInt8:=(List.range S).map λj=>if j<r.length then r.getD j 0 else if j=r.length then 128 else if S-i<=j then UInt8.ofNat (8*total / 2^ (8* (S-1-j))%256) else 0
theorem q4S(r:List UInt8)(a S i:Nat):(endP r a S i).length=S:=by simp [endP]
variable {S:Nat}
theorem z1p(r:List UInt8)(a:Nat)(h:r.length<S):(splice (List.replicate S 0) 0 r).set r.length 128=endP r a S 0:=by
 apply Aq
 . simp [endP,splice];omega
 intro j h1 d;rw [A4];simp only [endP,AM,AD];rw [q4S] at d;split
 . simp_all
 rename_i hne;simp only [splice,Cf,Ar,Ag];grind
theorem z3W(r:List UInt8)(a:Nat)(h:r.length+9<=S)(hi:i<8):(endP r a S i).set (S-1-i) (UInt8.ofNat (8*a / 2^ (8*i)%256))=endP r a S (i+1):=by
 apply Aq
 . simp [endP]
 intro j h1 d;rw [q4S] at d;rw [A4];simp only [endP,AM,AD];grind
theorem z9O(b:List UInt8)(a:Nat)(hS:S=64* (blksN b-b.length / 64)):(padT b a).drop (64* (b.length / 64))=endP (b.drop (64* (b.length / 64))) a S 8:=by
 have f:=z0k b a;have hb:blksN b=(b.length+72) / 64:=rfl;apply Aq
 . grind [q4S]
 intro j l h2;rw [Ah,f] at l;have e:(b.drop (64* (b.length / 64))).length=b.length%64:=by grind
 have hn:padN b.length=(119-b.length%64)%64:=rfl;rw [BV];simp only [endP,AM,AD,e];unfold padT padZ;by_cases c1:j<b.length%64
 . grind
 rw [if_neg c1];by_cases c2:j=b.length%64
 . grind
 rw [if_neg c2];by_cases c3:S-8<=j
 . have d:(b++ [128]++List.replicate (padN b.length) (0:UInt8)).length=b.length+1+padN b.length:=by simp;omega
   rw [if_pos c3,Bo (by omega)];simp only [lnB8,AM,AD,d];grind
 grind
theorem u64i(h:0<=x/\x<18446744073709551616):IntKind.u64.wrap x=x:=by have e:IntKind.u64.wrap x=x%18446744073709551616:=rfl;rw [e];omega
theorem byteQ(n i:Nat)(hi:i<=7):UInt8.ofNat (IntKind.u8.wrap ((n:Int).fdiv (2^ min (8*i) 64))).toNat=UInt8.ofNat (n / 2^ (8*i)%256):=by
 have e:((n:Int).fdiv (2^ (8*i)))=((n / 2^ (8*i):Nat):Int):=by grind
 grind [u8wrapR]
theorem q6N(p:List UInt8)(f k:Nat):blkAt p (f+k)=((p.drop (64*f)).drop (64*k)).take 64:=by grind [blkAt,List.drop_drop,List.drop_take]
theorem z9o(b:List UInt8)(a:Nat)(hi:i<b.length / 64):List.take 64 (b.drop (64*i))=blkAt (padT b a) i:=by grind [blkAt,padT,padZ]
theorem z0V(b:List UInt8)(total:Nat)(hb:b.length<=70368744177664)(ht:total<=70368744177664):Iter Tryz.prog 298 [] [.iptr (.slice .u8) b 0,.iptr (.int .i64) (total:Int) 0] (blksN b) (vwB b total):=by
 refine ⟨by kernel_rfl,λl B J p z=> ?_⟩;refine (q1D (yFG p) fi298 ?_).2;letI:Ghost:=topG (yFG p) [];refine gQ ?_;refine q9O [] (λi=>i) (λi=>[(4,.isl .u8 (b.drop (64*i)))]) (b.length / 64) (λ_=>True) trivial rfl (by simp) (by simp [SV.bel]) ?_ λi N _=> ?_
 . with_reducible refine sxE ?_;trivial
 have hN:blksN b=(b.length+72) / 64:=rfl;by_cases q:i<b.length / 64
 . refine uQ 600 _ ?_;simp (maxSteps:=3000000) only [Ah,go_sem,↓zA,↓reduceIte,↓reduceDIte] <;>try simp only [zB]
   refine ⟨λ_=>⟨by omega,?_⟩,λh=>absurd h (by omega)⟩;refine q1K [] p z (by omega) (λn=>⟨_,_,⟨by rw [z9o b total q],rfl⟩,q0M rfl⟩) λc=> ?_;cases c
   . refine gQ ?_;exact ⟨_,_,rfl,rfl,by omega⟩
   refine uQ 600 _ ?_;simp (maxSteps:=3000000) only [Ah,go_sem,↓zA,↓reduceIte,↓reduceDIte] <;>try simp only [zB]
   have P:List.drop 64 (List.take (b.length-64*i) (List.drop (64*i) b))=List.drop (64* (i+1)) b:=by rw [Aa (by rw [Ah];omega),AW];congr 1
   refine ⟨⟨by omega,by omega⟩,q,trivial,⟨[],rfl⟩,?_⟩;rw [P];with_reducible refine sxE ?_;trivial
 obtain rfl:i=b.length / 64:=by omega
 refine uQ 600 _ ?_;simp (maxSteps:=3000000) only [Ah,go_sem,↓zA,↓reduceIte,↓reduceDIte] <;>try simp only [zB]
 have u:(b.drop (64* (b.length / 64))).length=b.length%64:=by rw [Ah];omega
 have d:=z9O b total (S:=64* (blksN b-b.length / 64)) rfl;generalize hr:b.drop (64* (b.length / 64))=r at*;have F:b.length-64* (b.length / 64)=b.length%64:=by omega
 rw [F];refine ⟨λh=>absurd h (by omega),λ_=>⟨λO=> ?_,λO=> ?_⟩⟩
 . have E:IntKind.i64.wrap (((b.length%64:Nat):Int)+9)=((b.length%64:Nat):Int)+9:=by rw [wrapi (by omega)]
   have K:64* (blksN b-b.length / 64)=128:=by omega
   rw [K] at d;have f:List.take (min (b.length%64) 128) r=r:=Aa (by omega);have G:=z1p r total (S:=128) (by omega);rw [f];repeat (with_reducible refine And.intro (by first|omega|exact ⟨by omega,by omega⟩ |exact ⟨by simp;omega,by decide⟩) ?_)
   refine q0p (ι:=Nat) (λi=>[(32,rI i)]) (λi=>[.mark (b.length / 64),.row .u8 (endP r total 128 i)]) (λi=>8-i) (λi=>i<=8) 0 (Ai _) ?_ ?_ ?_
   . rw [<-G];simp only [splice,Cf,Ar,u,Ag];rfl
   . with_reducible refine sxE ?_;trivial
   intro i N;have a:=q4S r total 128 i;have o:=wsx i (by omega);by_cases s:i<8
   . have I:IntKind.i64.wrap (128-1)=127:=by rw [wrapi (by omega)];rfl
     have C:IntKind.i64.wrap (127- (i:Int))=((127-i:Nat):Int):=by rw [wrapi (by omega)];omega
     have L:IntKind.u64.wrap (total:Int)=total:=u64i (by omega);have D:IntKind.u64.wrap ((total:Int)*8)=((8*total:Nat):Int):=by rw [u64i (by omega)];omega
     have A:IntKind.i64.wrap (8* (i:Int))=((8*i:Nat):Int):=by rw [wrapi (by omega)];omega
     refine gy8 I C L D A a Ag Ag ?_;refine ⟨λ_=> ?_,λh=>absurd h (by omega)⟩;repeat (with_reducible refine And.intro (by first|omega|exact ⟨by omega,by omega⟩ |exact ⟨by omega,q2H _⟩) ?_)
     refine ⟨i+1,s,by dsimp only;omega,?_,?_⟩
     . dsimp only;rw [byteQ _ _ (by omega),<-z3W r total (by omega) s]
     with_reducible refine sx1 o ?_;trivial
   obtain rfl:i=8:=by omega
   refine uQ 6 _ ?_;with_reducible refine sy2 a Ag ?_
   refine ⟨λh=>absurd h (by omega),λ_=> ?_⟩;refine uQ 1 _ ?_;with_reducible refine sxE ?_
   refine q1o 1 rfl rfl (by rw [a];decide) ?_ ?_ ?_
   . with_reducible refine sxE ?_;trivial
   . with_reducible refine sxE ?_
     omega
   with_reducible refine sxE ?_
   have e:List.take 128 (endP r total 128 8)=endP r total 128 8:=Aa (by omega);rw [e];refine gy2 a Ag ?_;refine ⟨by omega,?_⟩;refine q1K [.dead] p z (i:=b.length / 64) (by omega) (λn=>⟨_,_,⟨by rw [show blkAt (padT b total) (b.length / 64)=_ from q6N (padT b total) (b.length / 64) 0,d,Ap],rfl⟩,q0M rfl⟩) λc=> ?_;cases c
   . refine gQ ?_;exact ⟨_,_,rfl,rfl,by omega⟩
   refine uQ 600 _ ?_;simp (maxSteps:=3000000) only [a,Ag,go_sem,↓zA,↓reduceIte,↓reduceDIte] <;>try simp only [zB]
   repeat (with_reducible refine And.intro (by first|omega|exact ⟨by omega,by omega⟩) ?_)
   refine q1K [.dead] p z (i:=b.length / 64+1) (by omega) (λn=>⟨_,_,⟨by rw [q6N _ _ 1,d,e,Aa (by rw [Ah];omega)],rfl⟩,q0M rfl⟩) λc=> ?_;cases c
   . refine gQ ?_;exact ⟨_,_,rfl,rfl,by omega⟩
   refine gQ ?_;exact ⟨_,_,rfl,rfl,by omega⟩
 have E:IntKind.i64.wrap (((b.length%64:Nat):Int)+9)=((b.length%64:Nat):Int)+9:=by rw [wrapi (by omega)]
 have K:64* (blksN b-b.length / 64)=64:=by omega
 rw [K] at d;have f:List.take (min (b.length%64) 64) r=r:=Aa (by omega);have G:=z1p r total (S:=64) (by omega);rw [f];repeat (with_reducible refine And.intro (by first|omega|exact ⟨by omega,by omega⟩ |exact ⟨by simp;omega,by decide⟩) ?_)
 refine q0p (ι:=Nat) (λi=>[(32,rI i)]) (λi=>[.mark (b.length / 64),.row .u8 (endP r total 64 i)]) (λi=>8-i) (λi=>i<=8) 0 (Ai _) ?_ ?_ ?_
 . rw [<-G];simp only [splice,Cf,Ar,u,Ag];rfl
 . with_reducible refine sxE ?_;trivial
 intro i N;have a:=q4S r total 64 i;have o:=wsx i (by omega);by_cases s:i<8
 . have I:IntKind.i64.wrap (64-1)=63:=by rw [wrapi (by omega)];rfl
   have C:IntKind.i64.wrap (63- (i:Int))=((63-i:Nat):Int):=by rw [wrapi (by omega)];omega
   have L:IntKind.u64.wrap (total:Int)=total:=u64i (by omega);have D:IntKind.u64.wrap ((total:Int)*8)=((8*total:Nat):Int):=by rw [u64i (by omega)];omega
   have A:IntKind.i64.wrap (8* (i:Int))=((8*i:Nat):Int):=by rw [wrapi (by omega)];omega
   refine gy8 I C L D A a Ag Ag ?_;refine ⟨λ_=> ?_,λh=>absurd h (by omega)⟩;repeat (with_reducible refine And.intro (by first|omega|exact ⟨by omega,by omega⟩ |exact ⟨by omega,q2H _⟩) ?_)
   refine ⟨i+1,s,by dsimp only;omega,?_,?_⟩
   . dsimp only;rw [byteQ _ _ (by omega),<-z3W r total (by omega) s]
   with_reducible refine sx1 o ?_;trivial
 obtain rfl:i=8:=by omega
 refine uQ 6 _ ?_;with_reducible refine sy2 a Ag ?_
 refine ⟨λh=>absurd h (by omega),λ_=> ?_⟩;refine uQ 1 _ ?_;with_reducible refine sxE ?_
 refine q1o 1 rfl rfl (by rw [a];decide) ?_ ?_ ?_
 . with_reducible refine sxE ?_;trivial
 . with_reducible refine sxE ?_
   omega
 with_reducible refine sxE ?_
 have e:List.take 64 (endP r total 64 8)=endP r total 64 8:=Aa (by omega);rw [e];refine gy2 a Ag ?_;refine ⟨by omega,?_⟩;refine q1K [.dead] p z (i:=b.length / 64) (by omega) (λn=>⟨_,_,⟨by rw [show blkAt (padT b total) (b.length / 64)=_ from q6N (padT b total) (b.length / 64) 0,d,Ap],rfl⟩,q0M rfl⟩) λc=> ?_;cases c
 . refine gQ ?_;exact ⟨_,_,rfl,rfl,by omega⟩
 refine gQ ?_;exact ⟨_,_,rfl,rfl,by omega⟩
def foldB(h:List Int)(p:List UInt8):Nat->List Int
 |0=>h
 |k+1=>blkS (blkAt p k) (foldB h p k)
theorem q5D(p:List UInt8):∀k,foldB hS0 p k=hashS p k
 |0=>rfl
 |k+1=>by rw [foldB,q5D p k];rfl
def q1k(hh:inWs h)(p:List UInt8):∀k,inWs (foldB h p k)
 |0=>hh
 |_+1=>z2g
def smH(h:List Int)(p:List UInt8)(i:Nat)(H':List SObj):Prop:=∃G,H'= .row .u8 (List.replicate 32 0) :: .row (.int .u32) (foldB h p i) :: G
theorem j6G(b:List UInt8)(o:b.length<=70368744177664):PC Tryz.prog 274 [.isl .u8 b] (.dat (.arr 32 .u8) (shaS b)):=by
 refine q0s rfl rfl (q3K (q1D noFG fi274 ?_));letI:Ghost:=topG noFG [];refine gQ ?_;refine q9a (t:=.arr 8 (.int .u32)) (x:=dat_sha_start) (ag:=some 8) (s:=.dat (.arr 8 (.int .u32)) dat_sha_start) (by unfold datList;repeat (first|exact .head _|apply List.Mem.tail)) rfl (.inr rfl) ?_;refine gQ ?_;refine cQ (j2y b b.length o) ?_;refine z5X (smH hS0 (padS b)) (λ_ _ _=>False) rfl rfl rfl (z0V b b.length o o) (λi n d e h=>by rw [h.1];rfl) ⟨[],rfl⟩ rfl ?_ ?_ ?_
 . rintro i _ d e q ⟨G,rfl⟩ ⟨rfl,rfl⟩ u r;letI:Ghost:=pinG noFG u;rw [Ad];refine uQ 600 _ ?_;simp only [putL,Bf];with_reducible refine sxaE ?_
   letI:Ghost:=pinG noFG r;refine aQ ?_;have a:(blkAt (padT b b.length) i).length=64:=z0z (z0k b b.length) q;refine eQ [1] (add_c (blkAt (padT b b.length) i) _ a (q1k q6g _ i)) ?_;exact ⟨G,rfl⟩
 . rintro D _ ⟨G,rfl⟩;letI:Ghost:=topG noFG [D];have p:=q1k q6g (padS b) (blksN b);have hfl:=p.1;have f:bytesS (foldB hS0 (padS b) (blksN b))=shaS b:=by rw [q5D];rfl
   generalize foldB hS0 (padS b) (blksN b)=h at*;refine gQ ?_;have l:List.take 8 h=h:=Aa (by omega);rw [l];refine ⟨by omega,q0b (z7U h p) ?_⟩;have a:=q1x h;refine gy1 a ?_;rw [f]
 rintro D i ex _ q h;exact h.elim
theorem z8y{p q:List UInt8}(h:64*i+64<=p.length):blkAt (p++q) i=blkAt p i:=by grind [blkAt]
theorem z2W{p q:List UInt8}{c:Nat}(h:p.length=64*c):blkAt (p++q) (c+i)=blkAt q i:=by unfold blkAt;rw [Ck,BO,AU (by grind),Ar,An,h];grind
theorem q2X(h:List Int){p q:List UInt8}:∀ {k:Nat},64*k<=p.length->foldB h (p++q) k=foldB h p k
 |0,_=>rfl
 |k+1,hk=>by rw [foldB,foldB,q2X h (by omega),z8y (by omega)]
def q7U(h:List Int){p q:List UInt8}{c:Nat}(a:p.length=64*c):∀k,foldB h (p++q) (c+k)=foldB (foldB h p c) q k
 |0=>by rw [AG,q2X h (by omega)];rfl
 |k+1=>by rw [<-Au,foldB,foldB,q7U h a k,z2W a]
abbrev HaD:Type:=List Int×List UInt8×Int
structure HRep (m:List UInt8) (x:HaD):Prop where
 n:x.2.2=(m.length:Int)
 rest:x.2.1.length=64
 len:x.1.length=8
 st:m.length≠0->x.1=foldB hS0 m (m.length / 64)
 tail:x.2.1.take (m.length%64)=m.drop (64* (m.length / 64))
theorem j0g:HRep [] (List.replicate 8 0,List.replicate 64 0,0):=⟨rfl,by simp,by simp,λh=>absurd rfl h,by simp⟩
def wrR(m rest b:List UInt8):List UInt8:=
 if m.length%64+b.length<64 then splice rest (m.length%64) b
 else splice (if 0<m.length%64 then splice rest (m.length%64) (b.take (64-m.length%64)) else rest) 0 ((m++b).drop (64* ((m++b).length / 64)))
def wrS(m:List UInt8)(x:HaD)(b:List UInt8):HaD:=(foldB hS0 (m++b) ((m++b).length / 64),wrR m x.2.1 b,((m++b).length:Int))
variable {α:Type}
theorem z5f{xs ys:List α}(h:i+ys.length<=xs.length):(splice xs i ys).length=xs.length:=by simp [splice];omega
theorem z2Y{xs ys:List α}(h:i+ys.length<=xs.length):(splice xs i ys).take (i+ys.length)=xs.take i++ys:=by grind [splice]
variable {m:List UInt8}{x:HaD}
theorem z0j(h:HRep m x):HRep (m++b) (wrS m x b):=by
 obtain ⟨h1,h2,h3,h4,h5⟩:=h;have hlen:(m++b).length=m.length+b.length:=Ab;have d:(wrR m x.2.1 b).length=64:=by grind [wrR,z5f]
 refine ⟨rfl,d,(q1k q6g _ _).1,λ_=>rfl,?_⟩;show (wrR m x.2.1 b).take _=_;unfold wrR at d⊢;split
 . grind [z2Y]
 rename_i a;rw [if_neg a] at d;have h6:((m++b).drop (64* ((m++b).length / 64))).length=(m++b).length%64:=by grind
 simp_all [splice]
theorem j2w(h:HRep m x)(d:m.length≠0):bytesS (foldB x.1 (padT (x.2.1.take (m.length%64)) m.length) (blksN (x.2.1.take (m.length%64))))=shaS m:=by
 obtain ⟨h1,h2,h3,e,f⟩:=h;rw [e d,f];have a:padS m=m.take (64* (m.length / 64))++padT (m.drop (64* (m.length / 64))) m.length:=by grind [padS,padT,padZ,padN,List.take_append_drop]
 have l:blksN m=m.length / 64+blksN (m.drop (64* (m.length / 64))):=by grind [blksN]
 unfold shaS;rw [<-q5D,a,l,q7U hS0 (by grind)];grind [q2X,List.take_append_drop]
theorem tmod64(n:Nat):((n:Int)).tmod 64=((n%64:Nat):Int):=by rw [BY (by omega)];rfl
def q6o{rest:List UInt8}(h:m.length%64=0):wrR m rest b=splice rest 0 (b.drop (64* (b.length / 64))):=by
 have a:(m++b).length=m.length+b.length:=Ab;unfold wrR;rw [h];split
 . rw [show 64* (b.length / 64)=0 by omega,Ap]
 rw [if_neg (by omega),a,BO,AU (by omega),Ar];congr 2;omega
theorem z0C(a:x.1=foldB hS0 m (m.length / 64))(h:m.length%64+b.length<64):(x.1,List.take (m.length%64) x.2.1++b++List.drop (m.length%64+b.length) x.2.1,((m.length+b.length:Nat):Int))=wrS m x b:=by have d:(m++b).length=m.length+b.length:=Ab;unfold wrS wrR;rw [if_pos h,d,show (m.length+b.length) / 64=m.length / 64 by omega,q2X hS0 (by omega),<-a];rfl
def z0D{pre d:List UInt8}{c0:Nat}(hp:pre.length=64*c0)(a:pre++d=m++b):(m++b).drop (64* ((m++b).length / 64))=d.drop (64* (d.length / 64)):=by rw [<-a,Ab,BO,AU (by omega),Ar];congr 1;omega
theorem q3X{pre d a:List UInt8}{c0:Nat}{f:List Int}(p:pre.length=64*c0)(e:pre++d=m++b)(o:wrR m x.2.1 b=splice a 0 (d.drop (64* (d.length / 64))))(l:f=foldB hS0 pre c0:=by first|rfl|assumption):
 (foldB f d (d.length / 64),List.take 0 a++d.drop (64* (d.length / 64))++List.drop (0+ (d.drop (64* (d.length / 64))).length) a,((m.length+b.length:Nat):Int))=wrS m x b:=by
 have n:(m++b).length=m.length+b.length:=Ab;have q:(m++b).length / 64=c0+d.length / 64:=by rw [<-e,Ab];omega
 unfold wrS;rw [o,q,n,<-e,q7U hS0 p,l];rfl
def z2u(m b:List UInt8)(x:HaD)(O:HRep m x)(hl:m.length+b.length<=70368744177664):PE Tryz.prog 277 [.rptr 0 HH 0 0,.isl .u8 b] [.row HH [x]] (.ret (rI 0)) [.row HH [wrS m x b]]:=by
 obtain ⟨st,rest,n⟩:=x;obtain rfl:n=(m.length:Int):=O.n;have h2:rest.length=64:=O.rest;have h3:st.length=8:=O.len;have W:m.length≠0->st=foldB hS0 m (m.length / 64):=O.st;have X:rest.take (m.length%64)=m.drop (64* (m.length / 64)):=O.tail;have D:=tmod64 m.length;have F:IntKind.i64.wrap ((m.length:Int)+ (b.length:Int))=((m.length+b.length:Nat):Int):=by rw [wrapi (by omega)];omega
 have hme:(m++b).length=m.length+b.length:=Ab;refine q0a (Ac _) ?_;refine q1Q fi277 ?_;by_cases c0:m.length=0
 . have R:m= []:=By.1 c0;have N:((m.length:Int)=0)=True:=eq_true (by omega);have K:(0< ((m.length%64:Nat):Int))=False:=eq_false (by omega);refine gy1 N ?_;refine q9a (t:=.arr 8 (.int .u32)) (x:=dat_sha_start) (ag:=some 8) (s:=.dat (.arr 8 (.int .u32)) dat_sha_start) (by unfold datList;repeat (first|exact .head _|apply List.Mem.tail)) rfl (.inr rfl) ?_;refine gy3 D F K ?_;have hst1:inWs hS0:=q6g;have e:([]:List UInt8).length=64*0:=rfl;have d:[]++b=m++b:=by rw [R]
   have u:wrR m rest b=splice rest 0 (b.drop (64* (b.length / 64))):=q6o (by omega);refine ⟨by decide,?_⟩;refine q0p (ι:=Nat) (λi=>[(1,.isl .u8 (b.drop (64*i)))]) (λi=>[.row HH [(foldB hS0 b i,(rest,((m.length+b.length:Nat):Int)))]]) (λi=>b.length / 64-i) (λi=>i<=b.length / 64) 0 (Ai _) ?_ ?_ ?_
   . rfl
   . with_reducible refine sxE ?_;trivial
   intro i V;have P:inWs (foldB hS0 b i):=q1k hst1 _ _;have a:(b.drop (64*i)).length=b.length-64*i:=Ah;by_cases p:i<b.length / 64
   . have o:(List.take 64 (b.drop (64*i))).length=64:=by rw [An];omega
     have z:List.take 64 (b.drop (64*i))=blkAt b i:=by unfold blkAt;rw [Bt];congr 1;omega
     have f:List.drop 64 (List.take (b.length-64*i) (b.drop (64*i)))=b.drop (64* (i+1)):=by rw [Aa (by omega),AW];congr 1
     have B:(64<=((b.length-64*i:Nat):Int))=True:=eq_true (by omega);refine uQ 11 _ ?_;with_reducible refine sy2 a B ?_
     refine q1l [] mixed ?_;refine gQ ?_;refine ⟨by omega,?_⟩;refine q0q [0] (addH_c (List.take 64 (b.drop (64*i))) (rest,((m.length+b.length:Nat):Int)) _ o P) rfl (by decide) (by repeat first|exact trivial|exact rfl|refine And.intro ?_ ?_) rfl rfl (λ_ h=>by cases h) ?_;simp only [afterR,Out.ren,SV.ren,mgA,sig,SObj.ren,SV.renL,List.set,List.map,Ad];refine gy1 a ?_;rw [f];refine ⟨⟨by omega,by omega⟩,i+1,p,by dsimp only;omega,?_,?_⟩
     . rw [z];rfl
     with_reducible refine sxE ?_;trivial
   obtain rfl:i=b.length / 64:=by omega
   have B:(64<=((b.length-64* (b.length / 64):Nat):Int))=False:=eq_false (by omega);have r:min (b.length-64* (b.length / 64)) 64=b.length-64* (b.length / 64):=by omega
   refine gy3 a B r ?_;rw [Aa (l:=b.drop (64* (b.length / 64))) (by omega)];repeat (with_reducible refine And.intro (by first|omega|exact ⟨by omega,by omega⟩) ?_)
   exact congrArg (λx=>SObj.row HH [x]) (q3X (x:=(st,rest,(m.length:Int))) e d u)

 have N:((m.length:Int)=0)=False:=eq_false (by omega);have I:=W c0;have hst1:inWs st:=I▸q1k q6g _ _;by_cases c1:0<m.length%64
 . have K:(0< ((m.length%64:Nat):Int))=True:=eq_true (by omega);by_cases c2:m.length%64+b.length<64
   . have Q:min b.length (64-m.length%64)=b.length:=by omega
     have G:IntKind.i64.wrap (((m.length%64:Nat):Int)+ (b.length:Int))=((m.length%64+b.length:Nat):Int):=by rw [wrapi (by omega)];omega
     have U:(((m.length%64+b.length:Nat):Int) <64)=True:=eq_true (by omega);refine uQ 600 _ ?_;simp (maxSteps:=3000000) only [N,D,F,K,Q,G,U,Aw,go_sem,↓zA,↓reduceIte,↓reduceDIte] <;>try simp only [zB]
     repeat (with_reducible refine And.intro (by first|omega|exact ⟨by omega,by omega⟩ |exact ⟨by omega,by omega,by omega⟩) ?_)
     exact congrArg (λx=>SObj.row HH [x]) (z0C (x:=(st,rest,(m.length:Int))) I c2)
   have Q:min b.length (64-m.length%64)=64-m.length%64:=by omega
   have G:IntKind.i64.wrap (((m.length%64:Nat):Int)+ ((64-m.length%64:Nat):Int))=((64:Nat):Int):=by rw [wrapi (by omega)];omega
   have C:(List.take (64-m.length%64) b).length=64-m.length%64:=by rw [An];omega
   have A:m.length%64+ (64-m.length%64)=64:=by omega
   have U:(((64:Nat):Int) <64)=False:=eq_false (by omega);have e:(m++b.take (64-m.length%64)).length=64* (m.length / 64+1):=by rw [Ab,C];omega
   have d:m++b.take (64-m.length%64)++b.drop (64-m.length%64)=m++b:=by rw [List.append_assoc,AA]
   obtain ⟨q,E⟩:∃q,q=(List.take (m.length%64) rest++List.take (64-m.length%64) b++List.drop 64 rest):=⟨_,rfl⟩;have L:q.length=64:=by rw [E,Ab,Ab,C,An,Ah];omega
   have u:wrR m rest b=splice q 0 ((b.drop (64-m.length%64)).drop (64* ((b.drop (64-m.length%64)).length / 64))):=by unfold wrR;rw [if_neg c2,if_pos c1,E,z0D e d];simp only [splice,C,A]
   have hstD:blkS q st=foldB hS0 (m++b.take (64-m.length%64)) (m.length / 64+1):=by rw [foldB,q2X hS0 (by omega),<-I];congr 1;unfold blkAt;rw [Aa (by omega),Bu (by omega),<-X,E,show List.drop 64 rest= [] from AU (by omega),Ad]
   have J:inWs (blkS q st):=z2g;have hbl1:(List.drop (64-m.length%64) b).length=b.length- (64-m.length%64):=Ah;refine uQ 74 _ ?_;simp (maxSteps:=3000000) only [N,D,F,K,Q,G,C,A,U,go_sem,↓zA,↓reduceIte,↓reduceDIte] <;>try simp only [zB]
   rw [<-E];refine ⟨by decide,⟨by omega,by omega,by omega⟩,by omega,?_⟩;refine q1l [] mixed ?_;refine gQ ?_;refine ⟨⟨by omega,by omega⟩,?_⟩;refine q0q [0] (addR_c q ((m.length+b.length:Nat):Int) _ L hst1) rfl (by decide) (by repeat first|exact trivial|exact rfl|refine And.intro ?_ ?_) rfl rfl (λ_ h=>by cases h) ?_;simp only [afterR,Out.ren,SV.ren,mgA,sig,SObj.ren,SV.renL,List.set,List.map,Ad];refine gy1 Q ?_;rw [Aw];refine ⟨⟨by omega,by omega⟩,?_⟩;replace hst1:=J;refine q0p (ι:=Nat) (λi=>[(1,.isl .u8 ((b.drop (64-m.length%64)).drop (64*i)))]) (λi=>[.row HH [(foldB (blkS q st) (b.drop (64-m.length%64)) i,(q,((m.length+b.length:Nat):Int)))]]) (λi=>(b.drop (64-m.length%64)).length / 64-i) (λi=>i<=(b.drop (64-m.length%64)).length / 64) 0 (Ai _) ?_ ?_ ?_
   . rfl
   . with_reducible refine sxE ?_;trivial
   intro i V;have P:inWs (foldB (blkS q st) (b.drop (64-m.length%64)) i):=q1k hst1 _ _;have a:((b.drop (64-m.length%64)).drop (64*i)).length=(b.drop (64-m.length%64)).length-64*i:=Ah;by_cases p:i< (b.drop (64-m.length%64)).length / 64
   . have o:(List.take 64 ((b.drop (64-m.length%64)).drop (64*i))).length=64:=by rw [An];omega
     have z:List.take 64 ((b.drop (64-m.length%64)).drop (64*i))=blkAt (b.drop (64-m.length%64)) i:=by unfold blkAt;rw [Bt];congr 1;omega
     have f:List.drop 64 (List.take ((b.drop (64-m.length%64)).length-64*i) ((b.drop (64-m.length%64)).drop (64*i)))=(b.drop (64-m.length%64)).drop (64* (i+1)):=by rw [Aa (by omega),AW];congr 1
     have B:(64<=(((b.drop (64-m.length%64)).length-64*i:Nat):Int))=True:=eq_true (by omega);refine uQ 11 _ ?_;with_reducible refine sy2 a B ?_
     refine q1l [] mixed ?_;refine gQ ?_;refine ⟨by omega,?_⟩;refine q0q [0] (addH_c (List.take 64 ((b.drop (64-m.length%64)).drop (64*i))) (q,((m.length+b.length:Nat):Int)) _ o P) rfl (by decide) (by repeat first|exact trivial|exact rfl|refine And.intro ?_ ?_) rfl rfl (λ_ h=>by cases h) ?_;simp only [afterR,Out.ren,SV.ren,mgA,sig,SObj.ren,SV.renL,List.set,List.map,Ad];refine gy1 a ?_;rw [f];refine ⟨⟨by omega,by omega⟩,i+1,p,by dsimp only;omega,?_,?_⟩
     . rw [z];rfl
     with_reducible refine sxE ?_;trivial
   obtain rfl:i=(b.drop (64-m.length%64)).length / 64:=by omega
   have B:(64<=(((b.drop (64-m.length%64)).length-64* ((b.drop (64-m.length%64)).length / 64):Nat):Int))=False:=eq_false (by omega);have r:min ((b.drop (64-m.length%64)).length-64* ((b.drop (64-m.length%64)).length / 64)) 64=(b.drop (64-m.length%64)).length-64* ((b.drop (64-m.length%64)).length / 64):=by omega
   refine gy3 a B r ?_;rw [Aa (l:=(b.drop (64-m.length%64)).drop (64* ((b.drop (64-m.length%64)).length / 64))) (by omega)];repeat (with_reducible refine And.intro (by first|omega|exact ⟨by omega,by omega⟩) ?_)
   exact congrArg (λx=>SObj.row HH [x]) (q3X (x:=(st,rest,(m.length:Int))) e d u)

 have K:(0< ((m.length%64:Nat):Int))=False:=eq_false (by omega);refine gy4 N D F K ?_;have e:m.length=64* (m.length / 64):=by omega
 have d:m++b=m++b:=rfl;have u:wrR m rest b=splice rest 0 (b.drop (64* (b.length / 64))):=q6o (by omega);refine ⟨by decide,?_⟩;refine q0p (ι:=Nat) (λi=>[(1,.isl .u8 (b.drop (64*i)))]) (λi=>[.row HH [(foldB st b i,(rest,((m.length+b.length:Nat):Int)))]]) (λi=>b.length / 64-i) (λi=>i<=b.length / 64) 0 (Ai _) ?_ ?_ ?_
 . rfl
 . with_reducible refine sxE ?_;trivial
 intro i V;have P:inWs (foldB st b i):=q1k hst1 _ _;have a:(b.drop (64*i)).length=b.length-64*i:=Ah;by_cases p:i<b.length / 64
 . have o:(List.take 64 (b.drop (64*i))).length=64:=by rw [An];omega
   have z:List.take 64 (b.drop (64*i))=blkAt b i:=by unfold blkAt;rw [Bt];congr 1;omega
   have f:List.drop 64 (List.take (b.length-64*i) (b.drop (64*i)))=b.drop (64* (i+1)):=by rw [Aa (by omega),AW];congr 1
   have B:(64<=((b.length-64*i:Nat):Int))=True:=eq_true (by omega);refine uQ 11 _ ?_;with_reducible refine sy2 a B ?_
   refine q1l [] mixed ?_;refine gQ ?_;refine ⟨by omega,?_⟩;refine q0q [0] (addH_c (List.take 64 (b.drop (64*i))) (rest,((m.length+b.length:Nat):Int)) _ o P) rfl (by decide) (by repeat first|exact trivial|exact rfl|refine And.intro ?_ ?_) rfl rfl (λ_ h=>by cases h) ?_;simp only [afterR,Out.ren,SV.ren,mgA,sig,SObj.ren,SV.renL,List.set,List.map,Ad];refine gy1 a ?_;rw [f];refine ⟨⟨by omega,by omega⟩,i+1,p,by dsimp only;omega,?_,?_⟩
   . rw [z];rfl
   with_reducible refine sxE ?_;trivial
 obtain rfl:i=b.length / 64:=by omega
 have B:(64<=((b.length-64* (b.length / 64):Nat):Int))=False:=eq_false (by omega);have r:min (b.length-64* (b.length / 64)) 64=b.length-64* (b.length / 64):=by omega
 refine gy3 a B r ?_;rw [Aa (l:=b.drop (64* (b.length / 64))) (by omega)];repeat (with_reducible refine And.intro (by first|omega|exact ⟨by omega,by omega⟩) ?_)
 exact congrArg (λx=>SObj.row HH [x]) (q3X (x:=(st,rest,(m.length:Int))) e d u)

def z9E(m b:List UInt8)(x:HaD)(f:List UInt8×List UInt8)(rd:Bool)(P:HRep m x)(hl:m.length+b.length<=70368744177664):PE Tryz.prog 277 [.rptr 0 MH 0 128,.isl .u8 b] [.row MH [(f,(x,rd))]] (.ret (rI 0)) [.row MH [(f,(wrS m x b,rd))]]:=by
 obtain ⟨st,rest,n⟩:=x;obtain rfl:n=(m.length:Int):=P.n;have h2:rest.length=64:=P.rest;have h3:st.length=8:=P.len;have X:m.length≠0->st=foldB hS0 m (m.length / 64):=P.st;have Y:rest.take (m.length%64)=m.drop (64* (m.length / 64)):=P.tail;have E:=tmod64 m.length;have G:IntKind.i64.wrap ((m.length:Int)+ (b.length:Int))=((m.length+b.length:Nat):Int):=by rw [wrapi (by omega)];omega
 have hme:(m++b).length=m.length+b.length:=Ab;refine q0a (Ac _) ?_;refine q1Q fi277 ?_;by_cases c0:m.length=0
 . have U:m= []:=By.1 c0;have O:((m.length:Int)=0)=True:=eq_true (by omega);have L:(0< ((m.length%64:Nat):Int))=False:=eq_false (by omega);refine gy1 O ?_;refine q9a (t:=.arr 8 (.int .u32)) (x:=dat_sha_start) (ag:=some 8) (s:=.dat (.arr 8 (.int .u32)) dat_sha_start) (by unfold datList;repeat (first|exact .head _|apply List.Mem.tail)) rfl (.inr rfl) ?_;refine gy3 E G L ?_;have hst1:inWs hS0:=q6g;have e:([]:List UInt8).length=64*0:=rfl;have d:[]++b=m++b:=by rw [U]
   have z:wrR m rest b=splice rest 0 (b.drop (64* (b.length / 64))):=q6o (by omega);refine ⟨by decide,?_⟩;refine q0p (ι:=Nat) (λi=>[(1,.isl .u8 (b.drop (64*i)))]) (λi=>[.row MH [(f,((foldB hS0 b i,(rest,((m.length+b.length:Nat):Int))),rd))]]) (λi=>b.length / 64-i) (λi=>i<=b.length / 64) 0 (Ai _) ?_ ?_ ?_
   . rfl
   . with_reducible refine sxE ?_;trivial
   intro i W;have Q:inWs (foldB hS0 b i):=q1k hst1 _ _;have a:(b.drop (64*i)).length=b.length-64*i:=Ah;by_cases q:i<b.length / 64
   . have p:(List.take 64 (b.drop (64*i))).length=64:=by rw [An];omega
     have A:List.take 64 (b.drop (64*i))=blkAt b i:=by unfold blkAt;rw [Bt];congr 1;omega
     have o:List.drop 64 (List.take (b.length-64*i) (b.drop (64*i)))=b.drop (64* (i+1)):=by rw [Aa (by omega),AW];congr 1
     have C:(64<=((b.length-64*i:Nat):Int))=True:=eq_true (by omega);refine uQ 11 _ ?_;with_reducible refine sy2 a C ?_
     refine q1l [] mixed ?_;refine gQ ?_;refine ⟨by omega,?_⟩;refine q0q [0] (addM_c (List.take 64 (b.drop (64*i))) f (rest,((m.length+b.length:Nat):Int)) rd _ p Q) rfl (by decide) (by repeat first|exact trivial|exact rfl|refine And.intro ?_ ?_) rfl rfl (λ_ h=>by cases h) ?_;simp only [afterR,Out.ren,SV.ren,mgA,sig,SObj.ren,SV.renL,List.set,List.map,Ad];refine gy1 a ?_;rw [o];refine ⟨⟨by omega,by omega⟩,i+1,q,by dsimp only;omega,?_,?_⟩
     . rw [A];rfl
     with_reducible refine sxE ?_;trivial
   obtain rfl:i=b.length / 64:=by omega
   have C:(64<=((b.length-64* (b.length / 64):Nat):Int))=False:=eq_false (by omega);have u:min (b.length-64* (b.length / 64)) 64=b.length-64* (b.length / 64):=by omega
   refine gy3 a C u ?_;rw [Aa (l:=b.drop (64* (b.length / 64))) (by omega)];repeat (with_reducible refine And.intro (by first|omega|exact ⟨by omega,by omega⟩) ?_)
   exact congrArg (λx=>SObj.row MH [(f,(x,rd))]) (q3X (x:=(st,rest,(m.length:Int))) e d z)

 have O:((m.length:Int)=0)=False:=eq_false (by omega);have J:=X c0;have hst1:inWs st:=J▸q1k q6g _ _;by_cases c1:0<m.length%64
 . have L:(0< ((m.length%64:Nat):Int))=True:=eq_true (by omega);by_cases c2:m.length%64+b.length<64
   . have R:min b.length (64-m.length%64)=b.length:=by omega
     have I:IntKind.i64.wrap (((m.length%64:Nat):Int)+ (b.length:Int))=((m.length%64+b.length:Nat):Int):=by rw [wrapi (by omega)];omega
     have V:(((m.length%64+b.length:Nat):Int) <64)=True:=eq_true (by omega);refine uQ 600 _ ?_;simp (maxSteps:=3000000) only [O,E,G,L,R,I,V,Aw,go_sem,↓zA,↓reduceIte,↓reduceDIte] <;>try simp only [zB]
     repeat (with_reducible refine And.intro (by first|omega|exact ⟨by omega,by omega⟩ |exact ⟨by omega,by omega,by omega⟩) ?_)
     exact congrArg (λx=>SObj.row MH [(f,(x,rd))]) (z0C (x:=(st,rest,(m.length:Int))) J c2)
   have R:min b.length (64-m.length%64)=64-m.length%64:=by omega
   have I:IntKind.i64.wrap (((m.length%64:Nat):Int)+ ((64-m.length%64:Nat):Int))=((64:Nat):Int):=by rw [wrapi (by omega)];omega
   have D:(List.take (64-m.length%64) b).length=64-m.length%64:=by rw [An];omega
   have B:m.length%64+ (64-m.length%64)=64:=by omega
   have V:(((64:Nat):Int) <64)=False:=eq_false (by omega);have e:(m++b.take (64-m.length%64)).length=64* (m.length / 64+1):=by rw [Ab,D];omega
   have d:m++b.take (64-m.length%64)++b.drop (64-m.length%64)=m++b:=by rw [List.append_assoc,AA]
   obtain ⟨r,F⟩:∃r,r=(List.take (m.length%64) rest++List.take (64-m.length%64) b++List.drop 64 rest):=⟨_,rfl⟩;have N:r.length=64:=by rw [F,Ab,Ab,D,An,Ah];omega
   have z:wrR m rest b=splice r 0 ((b.drop (64-m.length%64)).drop (64* ((b.drop (64-m.length%64)).length / 64))):=by unfold wrR;rw [if_neg c2,if_pos c1,F,z0D e d];simp only [splice,D,B]
   have hstD:blkS r st=foldB hS0 (m++b.take (64-m.length%64)) (m.length / 64+1):=by rw [foldB,q2X hS0 (by omega),<-J];congr 1;unfold blkAt;rw [Aa (by omega),Bu (by omega),<-Y,F,show List.drop 64 rest= [] from AU (by omega),Ad]
   have K:inWs (blkS r st):=z2g;have hbl1:(List.drop (64-m.length%64) b).length=b.length- (64-m.length%64):=Ah;refine uQ 74 _ ?_;simp (maxSteps:=3000000) only [O,E,G,L,R,I,D,B,V,go_sem,↓zA,↓reduceIte,↓reduceDIte] <;>try simp only [zB]
   rw [<-F];refine ⟨by decide,⟨by omega,by omega,by omega⟩,by omega,?_⟩;refine q1l [] mixed ?_;refine gQ ?_;refine ⟨⟨by omega,by omega⟩,?_⟩;refine q0q [0] (addN_c r f ((m.length+b.length:Nat):Int) rd _ N hst1) rfl (by decide) (by repeat first|exact trivial|exact rfl|refine And.intro ?_ ?_) rfl rfl (λ_ h=>by cases h) ?_;simp only [afterR,Out.ren,SV.ren,mgA,sig,SObj.ren,SV.renL,List.set,List.map,Ad];refine gy1 R ?_;rw [Aw];refine ⟨⟨by omega,by omega⟩,?_⟩;replace hst1:=K;refine q0p (ι:=Nat) (λi=>[(1,.isl .u8 ((b.drop (64-m.length%64)).drop (64*i)))]) (λi=>[.row MH [(f,((foldB (blkS r st) (b.drop (64-m.length%64)) i,(r,((m.length+b.length:Nat):Int))),rd))]]) (λi=>(b.drop (64-m.length%64)).length / 64-i) (λi=>i<=(b.drop (64-m.length%64)).length / 64) 0 (Ai _) ?_ ?_ ?_
   . rfl
   . with_reducible refine sxE ?_;trivial
   intro i W;have Q:inWs (foldB (blkS r st) (b.drop (64-m.length%64)) i):=q1k hst1 _ _;have a:((b.drop (64-m.length%64)).drop (64*i)).length=(b.drop (64-m.length%64)).length-64*i:=Ah;by_cases q:i< (b.drop (64-m.length%64)).length / 64
   . have p:(List.take 64 ((b.drop (64-m.length%64)).drop (64*i))).length=64:=by rw [An];omega
     have A:List.take 64 ((b.drop (64-m.length%64)).drop (64*i))=blkAt (b.drop (64-m.length%64)) i:=by unfold blkAt;rw [Bt];congr 1;omega
     have o:List.drop 64 (List.take ((b.drop (64-m.length%64)).length-64*i) ((b.drop (64-m.length%64)).drop (64*i)))=(b.drop (64-m.length%64)).drop (64* (i+1)):=by rw [Aa (by omega),AW];congr 1
     have C:(64<=(((b.drop (64-m.length%64)).length-64*i:Nat):Int))=True:=eq_true (by omega);refine uQ 11 _ ?_;with_reducible refine sy2 a C ?_
     refine q1l [] mixed ?_;refine gQ ?_;refine ⟨by omega,?_⟩;refine q0q [0] (addM_c (List.take 64 ((b.drop (64-m.length%64)).drop (64*i))) f (r,((m.length+b.length:Nat):Int)) rd _ p Q) rfl (by decide) (by repeat first|exact trivial|exact rfl|refine And.intro ?_ ?_) rfl rfl (λ_ h=>by cases h) ?_;simp only [afterR,Out.ren,SV.ren,mgA,sig,SObj.ren,SV.renL,List.set,List.map,Ad];refine gy1 a ?_;rw [o];refine ⟨⟨by omega,by omega⟩,i+1,q,by dsimp only;omega,?_,?_⟩
     . rw [A];rfl
     with_reducible refine sxE ?_;trivial
   obtain rfl:i=(b.drop (64-m.length%64)).length / 64:=by omega
   have C:(64<=(((b.drop (64-m.length%64)).length-64* ((b.drop (64-m.length%64)).length / 64):Nat):Int))=False:=eq_false (by omega);have u:min ((b.drop (64-m.length%64)).length-64* ((b.drop (64-m.length%64)).length / 64)) 64=(b.drop (64-m.length%64)).length-64* ((b.drop (64-m.length%64)).length / 64):=by omega
   refine gy3 a C u ?_;rw [Aa (l:=(b.drop (64-m.length%64)).drop (64* ((b.drop (64-m.length%64)).length / 64))) (by omega)];repeat (with_reducible refine And.intro (by first|omega|exact ⟨by omega,by omega⟩) ?_)
   exact congrArg (λx=>SObj.row MH [(f,(x,rd))]) (q3X (x:=(st,rest,(m.length:Int))) e d z)

 have L:(0< ((m.length%64:Nat):Int))=False:=eq_false (by omega);refine gy4 O E G L ?_;have e:m.length=64* (m.length / 64):=by omega
 have d:m++b=m++b:=rfl;have z:wrR m rest b=splice rest 0 (b.drop (64* (b.length / 64))):=q6o (by omega);refine ⟨by decide,?_⟩;refine q0p (ι:=Nat) (λi=>[(1,.isl .u8 (b.drop (64*i)))]) (λi=>[.row MH [(f,((foldB st b i,(rest,((m.length+b.length:Nat):Int))),rd))]]) (λi=>b.length / 64-i) (λi=>i<=b.length / 64) 0 (Ai _) ?_ ?_ ?_
 . rfl
 . with_reducible refine sxE ?_;trivial
 intro i W;have Q:inWs (foldB st b i):=q1k hst1 _ _;have a:(b.drop (64*i)).length=b.length-64*i:=Ah;by_cases q:i<b.length / 64
 . have p:(List.take 64 (b.drop (64*i))).length=64:=by rw [An];omega
   have A:List.take 64 (b.drop (64*i))=blkAt b i:=by unfold blkAt;rw [Bt];congr 1;omega
   have o:List.drop 64 (List.take (b.length-64*i) (b.drop (64*i)))=b.drop (64* (i+1)):=by rw [Aa (by omega),AW];congr 1
   have C:(64<=((b.length-64*i:Nat):Int))=True:=eq_true (by omega);refine uQ 11 _ ?_;with_reducible refine sy2 a C ?_
   refine q1l [] mixed ?_;refine gQ ?_;refine ⟨by omega,?_⟩;refine q0q [0] (addM_c (List.take 64 (b.drop (64*i))) f (rest,((m.length+b.length:Nat):Int)) rd _ p Q) rfl (by decide) (by repeat first|exact trivial|exact rfl|refine And.intro ?_ ?_) rfl rfl (λ_ h=>by cases h) ?_;simp only [afterR,Out.ren,SV.ren,mgA,sig,SObj.ren,SV.renL,List.set,List.map,Ad];refine gy1 a ?_;rw [o];refine ⟨⟨by omega,by omega⟩,i+1,q,by dsimp only;omega,?_,?_⟩
   . rw [A];rfl
   with_reducible refine sxE ?_;trivial
 obtain rfl:i=b.length / 64:=by omega
 have C:(64<=((b.length-64* (b.length / 64):Nat):Int))=False:=eq_false (by omega);have u:min (b.length-64* (b.length / 64)) 64=b.length-64* (b.length / 64):=by omega
 refine gy3 a C u ?_;rw [Aa (l:=b.drop (64* (b.length / 64))) (by omega)];repeat (with_reducible refine And.intro (by first|omega|exact ⟨by omega,by omega⟩) ?_)
 exact congrArg (λx=>SObj.row MH [(f,(x,rd))]) (q3X (x:=(st,rest,(m.length:Int))) e d z)

theorem j3g(m:List UInt8)(x:HaD)(l:HRep m x)(F:m.length<=70368744177664):PC Tryz.prog 279 [.iptr HH x 0] (.dat (.arr 32 .u8) (shaS m)):=by
 have p:=j2w l;obtain ⟨st,rest,n⟩:=x;obtain rfl:n=(m.length:Int):=l.n;have h2:rest.length=64:=l.rest;have I:st.length=8:=l.len;have E:m.length≠0->st=foldB hS0 m (m.length / 64):=l.st;have u:=tmod64 m.length;refine q0s rfl rfl (q3K (q1D noFG fi279 ?_));letI:Ghost:=topG noFG [];by_cases c0:m.length=0
 . have q:m= []:=By.1 c0;have s:((m.length:Int)=0)=True:=eq_true (by omega);refine gy1 s ?_;refine q0b ((j6G [] (by simp)).arg ?_) ?_
   . with_reducible refine sxE ?_;trivial
   have a:(shaS []).length=32:=q1x _;refine gy1 a ?_;rw [q]
 have s:((m.length:Int)=0)=False:=eq_false (by omega);have e:inWs st:=(E c0)▸q1k q6g _ _;refine gy2 s u ?_;rw [Cv];refine ⟨by decide,⟨by omega,by omega,by omega⟩,?_⟩;have f:(List.take (m.length%64) rest).length<=70368744177664:=by rw [An];omega
 have A:bytesS (foldB st (padT (List.take (m.length%64) rest) m.length) (blksN (List.take (m.length%64) rest)))=shaS m:=p c0;generalize List.take (m.length%64) rest=r at*;refine cR (j2y r m.length f) ?_;refine z5X (smH st (padT r m.length)) (λ_ _ _=>False) rfl rfl rfl (z0V r m.length f F) (λi n d z h=>by rw [h.1];rfl) ⟨[],?_⟩ rfl ?_ ?_ ?_
 . rw [I,show List.drop (0+8) _=([]:List Int) from rfl,Ad];rfl
 . rintro i _ d z B ⟨G,rfl⟩ ⟨rfl,rfl⟩ K J;letI:Ghost:=pinG noFG K;rw [Ad];refine uQ 600 _ ?_;simp only [putL,Bf];with_reducible refine sxaE ?_
   letI:Ghost:=pinG noFG J;refine aQ ?_;have a:(blkAt (padT r m.length) i).length=64:=z0z (z0k r m.length) B;refine eQ [1] (add_c (blkAt (padT r m.length) i) _ a (q1k e _ i)) ?_;exact ⟨G,rfl⟩
 . rintro D _ ⟨G,rfl⟩;letI:Ghost:=topG noFG [D];have C:=q1k e (padT r m.length) (blksN r);have hfl:=C.1;generalize foldB st (padT r m.length) (blksN r)=h at*;refine gQ ?_;have o:List.take 8 h=h:=Aa (by omega);rw [o];refine ⟨by omega,q0b (z7U h C) ?_⟩;have a:=q1x h;refine gy1 a ?_;rw [A]
 rintro D i ex _ B h;exact h.elim
variable {h:Nat}
def z6c{k n N:Nat}{t e:Ty}{x:t.den}{ys:List e.den}(d:t.arrAt x k=some ⟨e,N,ys⟩)(a:t≠e)(hn:n=N)(hl:ys.length=n)(f:n<=1125899906842624):Bor h t [x] (.csl h e k 0 n) (.isl e ys):=by refine .csl (p:=0+n<=N) ?_ (by omega) f;simp only [ownPart];rw [dif_neg a];simp only [d,dite_true,cast_eq,Ap];rw [Aa (by omega)]
def j3J{n:Nat}{t:Ty}{xs:List t.den}(hl:xs.length=n):Bor h t xs (.osl h t 0 n) (.isl t xs):=by have:=Bor.osl (h:=h) (t:=t) (xs:=xs) (off:=0) (n:=n) (by omega);rwa [Ap,Aa (by omega)] at this
theorem z4j{n:Nat}{xs:List UInt8}(a:xs.length=n)(d:0<n):Bor h .u8 xs (.rptr h .u8 0 0) (.iptr (.arr n .u8) xs 0):=by subst a;exact .ptr (.inr ⟨rfl,rfl,rfl,d,.rfl⟩)
theorem j1I{t:Ty}{x:t.den}(a:t.get x 0 t.size=some ⟨t,x⟩):Bor h t [x] (.rptr h t 0 0) (.iptr t x 0):=.ptr (.inl ⟨x,rfl,by rw [Ct];exact a⟩)
theorem j2N(w:List UInt8)(c:UInt8)(_hw:w.length=64):PC Tryz.prog 275 [.raw (.int .u8 c.toNat),.iptr (.arr 64 .u8) w 0] (.dat (.arr 64 .u8) (hkP w c 64)):=by
 refine q0s rfl rfl ?_;refine rQ fi275 ?_;refine q0p (ι:=Nat) (λi=>[(7,rI i)]) (λi=>[.row .u8 (hkP w c i)]) (λi=>64-i) (λi=>i<=64) 0 (Ai _) (by rw [j0G];first|done|rfl) ?_ ?_
 . with_reducible refine sxE ?_;trivial
 intro i hi;have l:=wsx i (by omega);have d:=z0p w c i;by_cases a:i<64
 . have f:=xor8 (w.getD i 0) c;refine gyd3 d f Ag ?_;refine ⟨λ_=>⟨⟨by omega,a⟩,⟨by omega,a⟩,⟨a,by rw [UInt8.ofNat_toNat]⟩,i+1,a,by dsimp only;omega,?_,?_⟩,λh=>absurd h (by omega)⟩
   . rw [AN,j4Z w c a]
   with_reducible refine sx1 l ?_;trivial
 obtain rfl:i=64:=by omega
 refine gy2 d Ag ?_;refine ⟨λh=>absurd h (by omega),λ_=> ?_⟩;have e:List.take 64 (hkP w c 64)++List.drop (List.take 64 (hkP w c 64)).length (hkP w c 64)=hkP w c 64:=by rw [Aa (by omega),d,AU (by omega),Ad]
 rw [e,if_pos d];exact ⟨_,rfl,rfl⟩
def hz0:HaD:=(List.replicate 8 0,List.replicate 64 0,0)
def z0f:HRep [] hz0:=j0g
def j5a(o i:List UInt8)(x:HaD)(rd:Bool)(a:i.length=64):PE Tryz.prog 276 [.rptr 0 MH 0 0] [.row MH [((o,i),(x,rd))]] (.ret (.dat HH (wrS [] hz0 i))) [.row MH [((o,i),(x,rd))]]:=by refine q0a (Ac _) ?_;refine rQ fi276 ?_;refine ⟨⟨by decide,by decide⟩,?_⟩;refine q0i [1,0] (z3c (t:=MH) (xs:=[((o,i),(x,rd))]) (z2u [] i hz0 z0f (by simp;omega)) rfl rfl rfl rfl (by simp) (.cons (.keep rfl) (.cons (z6c rfl (by decide) rfl a (by decide)) .nil))) rfl (by decide) (by repeat first|exact trivial|exact rfl|refine And.intro ?_ ?_) rfl rfl ?_;simp only [afterO,Out.ren,SV.ren,mgA,sig,SObj.ren,SV.renL,List.set,List.map,Ad,Ay,Ar];refine gQ ?_;trivial
theorem j1p(o i d:List UInt8)(x:HaD)(rd:Bool)(q:o.length=64)(p:d.length=32):PE Tryz.prog 278 [.rptr 0 MH 0 0,.dat (.arr 32 .u8) d] [.row MH [((o,i),(x,rd))]] (.ret (.dat (.arr 32 .u8) (shaS (o++d)))) [.row MH [((o,i),(x,rd))]]:=by refine q0a (Ac _) ?_;refine rQ fi278 ?_;refine ⟨⟨by decide,by decide⟩,?_⟩;refine q0i [3,0] (z3c (t:=MH) (xs:=[((o,i),(x,rd))]) (z2u [] o hz0 z0f (by simp;omega)) rfl rfl rfl rfl (by simp) (.cons (.keep rfl) (.cons (z6c rfl (by decide) rfl q (by decide)) .nil))) rfl (by decide) (by repeat first|exact trivial|exact rfl|refine And.intro ?_ ?_) rfl rfl ?_;simp only [afterO,Out.ren,SV.ren,mgA,sig,SObj.ren,SV.renL,List.set,List.map,Ad,Ay,Ar];have a:HRep o (wrS [] hz0 o):=z0j z0f;have f:HRep (o++d) (wrS o (wrS [] hz0 o) d):=z0j a;generalize wrS [] hz0 o=n at*;generalize r:wrS o n d=y at*;have l:=r▸z2u o d n a (by omega);refine gQ ?_;refine ⟨⟨by decide,by decide⟩,?_⟩;refine q0i [3,1] (z3c (t:=.u8) (xs:=d) l (by simp only [AB,CR]) rfl rfl rfl (by omega) (.cons (.keep rfl) (.cons (j3J p) .nil))) rfl (by decide) (by repeat first|exact trivial|exact rfl|refine And.intro ?_ ?_) rfl rfl ?_;simp only [afterO,Out.ren,SV.ren,mgA,sig,SObj.ren,SV.renL,List.set,List.map,Ad,Ay,Ar];refine gQ ?_;refine q0i [3] (q6t (t:=HH) (xs:=[y]) (j3g (o++d) y f (by simp;omega)) rfl (by simp) (.cons (j1I rfl) .nil)) rfl (by decide) (by repeat first|exact trivial|exact rfl|refine And.intro ?_ ?_) rfl rfl ?_;simp only [afterO,Out.ren,SV.ren,mgA,sig,SObj.ren,SV.renL,List.set,List.map,Ad,Ay,Ar];have e:(shaS (o++d)).length=32:=q1x _;refine gy1 e ?_;trivial
def padK(k:List UInt8):List UInt8:=hkC k++List.replicate (64- (hkC k).length) 0
def j3p(k:List UInt8):(hkC k).length<=64:=by
 unfold hkC;split
 . have:(shaS k).length=32:=q1x _;omega
 omega
def j2a(k:List UInt8):(padK k).length=64:=by have:=j3p k;unfold padK;rw [Ab,BG];omega
theorem z6e(k:List UInt8)(c:UInt8):hkP (padK k) c 64=hkS k c:=by
 unfold hkS hkP;apply BM;intro i d;have a:i<64:=BN.1 d;rw [if_pos a,if_pos a];congr 1;unfold padK;rw [Ae,Ae];rcases A8 i (hkC k).length with h|h
 . rw [As h]
 rw [AI h,List.getElem?_eq_none h,List.getElem?_replicate];split<;>rfl
def macI(k:List UInt8):(List UInt8×List UInt8)×(HaD×Bool):=((hkS k 92,hkS k 54),(wrS [] hz0 (hkS k 54),true))
theorem j5k{ty:Ty}{x:ty.den}{v:Value}(hH:H'[h]?=some (.row ty [x])):Weak 0 (λo' H''=>o'= .ret (.tup [.rptr 0 ty 0 0,.raw v])/\H''= [.row ty [x]]) (.ret (.tup [.rptr h ty 0 0,.raw v])) H':=
 ⟨λ_=>h,.tup [.rptr 0 ty 0 0,.raw v],.tup [.rptr 0 ty 0 0,.raw v],[.row ty [x]],⟨⟨rfl,trivial⟩,⟨hH,trivial⟩,rfl,rfl,rfl,rfl,Ai _,λ_ h0=>absurd h0 (BF 0)⟩,.inl (.inl rfl),⟨rfl,rfl⟩⟩
abbrev HTT:Ty:=HH 
abbrev MTT:Ty:=MH 
theorem j7o(k:List UInt8)(hk:k.length<=64):PE Tryz.prog 251 [.isl .u8 k] [] (.ret (.tup [.rptr 0 MH 0 0,rI 0])) [.row MH [macI k]]:=by
 have c1:(4096< (k.length:Int))=False:=eq_false (by omega);have c2:(64< (k.length:Int))=False:=eq_false (by omega);have f:hkC k=k:=if_neg (by omega);have n:min k.length 64=k.length:=by omega
 have d:=j2a k;refine z9M ?_;refine q1Q fi251 ?_;refine uQ 600 _ ?_;simp (maxSteps:=3000000) only [c1,c2,n,Aw,go_sem,↓zA,↓reduceIte,↓reduceDIte] <;>try simp only [zB]
 have e:∀l,l=List.replicate 64 (0:UInt8)->k++List.drop (0+k.length) l=padK k:=λl o=>by subst o;unfold padK;rw [f,Ag,List.drop_replicate]
 rw [e]
 case a=>rfl
 refine ⟨⟨by decide,by decide⟩,by omega,?_⟩;refine q0i [0] (q6t (t:=.u8) (xs:=padK k) (j2N (padK k) 92 d) rfl (by omega) (.cons (.keep rfl) (.cons (z4j d (by decide)) .nil))) rfl (by decide) (by repeat first|exact trivial|exact rfl|refine And.intro ?_ ?_) rfl rfl ?_;simp only [afterO,Out.ren,SV.ren,mgA,sig,SObj.ren,SV.renL,List.set,List.map,Ad,Ay,Ar];refine gQ ?_;refine q0i [0] (q6t (t:=.u8) (xs:=padK k) (j2N (padK k) 54 d) rfl (by omega) (.cons (.keep rfl) (.cons (z4j d (by decide)) .nil))) rfl (by decide) (by repeat first|exact trivial|exact rfl|refine And.intro ?_ ?_) rfl rfl ?_;simp only [afterO,Out.ren,SV.ren,mgA,sig,SObj.ren,SV.renL,List.set,List.map,Ad,Ay,Ar];rw [z6e,z6e];refine gQ ?_;refine eQ [1] (j5a (hkS k 92) (hkS k 54) _ true (z0p _ _ _)) ?_;exact j5k rfl
def j0C(m b:List UInt8)(a:List UInt8×List UInt8)(x:HaD)(e:HRep m x)(d:m.length+b.length<=70368744177664):PE Tryz.prog 252 [.rptr 0 MH 0 0,.isl .u8 b] [.row MH [(a,(x,true))]] (.ret (rI 0)) [.row MH [(a,(wrS m x b,true))]]:=by refine q0a (Ac _) ?_;refine rQ fi252 ?_;refine eQ [0] (z9E m b x a true e d) ?_;trivial
def j7t(m:List UInt8)(o i:List UInt8)(x:HaD)(p:HRep m x)(l:m.length<=70368744177664)(f:o.length=64):PE Tryz.prog 253 [.rptr 0 MH 0 0] [.row MH [((o,i),(x,true))]] (.ret (.tup [.dat (.arr 32 .u8) (shaS (o++shaS m)),rI 0])) [.row MH [((o,i),(x,true))]]:=by
 have a:(shaS m).length=32:=q1x _;have d:(shaS (o++shaS m)).length=32:=q1x _;have n:RLies MTT [((o,i),(x,true))] (0*MTT.size+128) HTT x:=.inl ⟨_,rfl,rfl⟩;refine q0a (Ac _) ?_;refine q1Q fi253 ?_;refine uQ 21 _ ?_;with_reducible refine sxE ?_
 refine q1l [0] mixed ?_;refine gQ ?_;refine q0q [0] (q6t (t:=MTT) (xs:=[((o,i),(x,true))]) (j3g m x p l) rfl (by simp) (.cons (.ptr n) .nil)) rfl (by decide) (by repeat first|exact trivial|exact rfl|refine And.intro ?_ ?_) rfl rfl (λh e=> ?_) ?_
 . obtain rfl:h=0:=by simpa using e
   rfl
 simp only [afterR,Out.ren,SV.ren,mgA,sig,SObj.ren,SV.renL,List.set,List.map,Ad,Ay,Ar];refine gy1 a ?_;refine q0q [0] (j1p o i (shaS m) x true f a) rfl (by decide) (by repeat first|exact trivial|exact rfl|refine And.intro ?_ ?_) rfl rfl (λh e=> ?_) ?_
 . obtain rfl:h=0:=by simpa using e
   rfl
 simp only [afterR,Out.ren,SV.ren,mgA,sig,SObj.ren,SV.renL,List.set,List.map,Ad,Ay,Ar];refine gy1 d ?_;trivial
def hmS(k b:List UInt8):List UInt8:=shaS (hkS k 92++shaS (hkS k 54++b))
def q5J(k b:List UInt8):(hmS k b).length=32:=q1x _
def mWr(k:List UInt8)(ps:List (List UInt8)):Nat->HaD
 |0=>wrS [] hz0 (hkS k 54)
 |i+1=>wrS (hkS k 54++(ps.take i).flatten) (mWr k ps i) (ps.getD i [])
theorem q4Z{ps:List (List UInt8)}(h:i<ps.length):(ps.take (i+1)).flatten=(ps.take i).flatten++ps.getD i []:=by rw [List.take_succ_eq_append_getElem h,BC,Ch,Ae,Af h];rfl
def z9n(k:List UInt8)(ps:List (List UInt8)):∀i,i<=ps.length->HRep (hkS k 54++(ps.take i).flatten) (mWr k ps i)
 |0,_=>by have:=z0j (b:=hkS k 54) z0f;simpa [mWr] using this
 |i+1,hi=>by have:=z0j (b:=ps.getD i []) (z9n k ps i (by omega));rw [List.append_assoc,<-q4Z (by omega)] at this;exact this
def q1Y:∀ (ps:List (List UInt8)) (i:Nat),(ps.take i).flatten.length<=ps.flatten.length
 | [],i=>by simp
 |p :: ps,0=>by simp
 |p :: ps,i+1=>by simp only [List.take_succ_cons,A6,Ab];have:=q1Y ps i;omega
theorem j2U(k:List UInt8)(ps:List (List UInt8))(o:k.length<=64)(hp:ps.flatten.length<=1099511627776)(hpl:ps.length<=1099511627776):PC Tryz.prog 233 [.isl .u8 k,.isl (.slice .u8) ps] (.tup [.dat (.arr 32 .u8) (hmS k ps.flatten),rI 0]):=by
 refine q0s rfl rfl ?_;refine q1Q fi233 ?_;refine gQ ?_;refine eQ [] (j7o k o) ?_;refine q0p (ι:=Nat) (λi=>[(21,rI i)]) (λi=>[.row .u8 (List.replicate 32 0),.row MH [((hkS k 92,hkS k 54),(mWr k ps i,true))]]) (λi=>ps.length-i) (λi=>i<=ps.length) 0 (Ai _) rfl ?_ ?_
 . with_reducible refine sxE ?_;trivial
 intro i p;have a:=z9n k ps i p;have n:=wsx i (by omega);have hfl:=q1Y ps i;have hil:(hkS k 54).length=64:=z0p _ _ _;by_cases h:i<ps.length
 . have f:=q4Z h;have d:=q1Y ps (i+1);rw [f,Ab] at d;refine gQ ?_;refine ⟨λ_=>⟨⟨by omega,h⟩,?_⟩,λl=>absurd h l⟩;refine eQ [1] (j0C (hkS k 54++(ps.take i).flatten) (ps.getD i []) (hkS k 92,hkS k 54) _ a (by rw [Ab];omega)) ?_;refine ⟨i+1,h,by dsimp only;omega,rfl,?_⟩;with_reducible refine sx1 n ?_;trivial
 obtain rfl:i=ps.length:=by omega
 rw [Aw] at a;have e:(shaS (hkS k 92++shaS (hkS k 54++ps.flatten))).length=32:=q1x _;refine gQ ?_;refine ⟨λl=>absurd l (by omega),λ_=> ?_⟩;refine q0i [1] (j7t (hkS k 54++ps.flatten) (hkS k 92) (hkS k 54) _ a (by rw [Ab];omega) (z0p _ _ _)) rfl (by decide) (by repeat first|exact trivial|exact rfl|refine And.intro ?_ ?_) rfl rfl ?_;simp only [afterO,Out.ren,SV.ren,mgA,sig,SObj.ren,SV.renL,List.set,List.map,Ad,e];refine gy1 e ?_;rfl
def four(n:Nat):List UInt8:=[UInt8.ofNat (n / 2^ 24%256),UInt8.ofNat (n / 2^ 16%256),UInt8.ofNat (n / 2^ 8%256),UInt8.ofNat (n / 2^ 0%256)]
theorem j1k(n:Nat):(four n).length=4:=rfl
theorem byteN(n m:Nat)(hm:m<=64):UInt8.ofNat (IntKind.u8.wrap ((n:Int).fdiv (2^ min m 64))).toNat=UInt8.ofNat (n / 2^ m%256):=by grind [u8wrapR]
def byteN0(n:Nat):UInt8.ofNat (IntKind.u8.wrap (n:Int)).toNat=UInt8.ofNat (n / 2^ 0%256):=by rw [Nat.pow_zero,Nat.div_one,u8wrapR];congr 1
theorem j2H(n:Nat):PC Tryz.prog 234 [rI n] (.isl .u8 (four n)):=by refine q0l rfl rfl ?_;refine rQ fi234 ?_;refine ⟨⟨q2H _,q2H _,q2H _,q2H _⟩,?_⟩;rw [byteN _ 24 (by decide),byteN _ 16 (by decide),byteN _ 8 (by decide),byteN0];rfl
def j5D(n:Nat)(a:List (List UInt8))(h1:1<=n)(h2:n<=1024)(o:∀l∈a,l.length<=4096)(hn:a.length<=100):PC Tryz.prog 214 [rI n,.isl (.slice .u8) a] (rB true):=by
 refine q0s rfl rfl ?_;refine rQ fi214 ?_;refine q0p (ι:=Nat) (λi=>[(9,rI i)]) (λi=>[]) (λi=>a.length-i) (λi=>i<=a.length) 0 (Ai _) rfl ?_ ?_
 . with_reducible refine sxE ?_;trivial
 intro i hi;have f:=wsx i (by omega);by_cases h:i<a.length
 . have hli:(a.getD i []).length<=4096:=by rw [Ae,Af h];exact o _ (Bl _)
   have e:(4096< (((a.getD i (Ty.dflt (.slice .u8))).length:Nat):Int))=False:=eq_false (by show ¬(4096< (((a.getD i []).length:Nat):Int));omega);refine gy1 e ?_;refine ⟨λ_=>⟨⟨by omega,h⟩,i+1,h,by dsimp only;omega,rfl,?_⟩,λd=>absurd h d⟩;with_reducible refine sx1 f ?_;trivial
 obtain rfl:i=a.length:=by omega
 refine gQ ?_;exact ⟨λd=>absurd d (by omega),λ_=>⟨λ_=>by omega,λd=>absurd d (by omega)⟩⟩
abbrev derT:Ty:=.prod (.slice .u8) (.prod (.slice .u8) (.prod (.slice .u8) (.int .i64)))
def kblk(key label ctx:List UInt8)(n i:Nat):List UInt8:=hmS key (four i++label++ [0]++ctx++four (8*n))
def q6H(key label ctx:List UInt8)(n i:Nat):(kblk key label ctx n i).length=32:=q5J _ _
theorem j1w(key a d:List UInt8)(n i:Nat)(r:key.length<=64)(hl:a.length<=4096)(hc:d.length<=4096)(hn:n<=1024)(hi:i<=1000000):PC Tryz.prog 217 [.agg [.isl .u8 key,.isl .u8 a,.isl .u8 d,rI n],rI i] (.dat (.arr 32 .u8) (kblk key a d n i)):=by
 have q:IntKind.i64.wrap (8* (n:Int))=((8*n:Nat):Int):=by grind [wrapi]
 refine q0s rfl rfl ?_;refine ry1 fi217 q ?_;refine q0n (j2H i) ?_;refine gQ ?_;refine q0n (j2H (8*n)) ?_;refine gQ ?_;have l:[four i,a,[UInt8.ofNat 0],d,four (8*n)].flatten=four i++a++ [0]++d++four (8*n):=by simp
 have f:[four i,a,[UInt8.ofNat 0],d,four (8*n)].flatten.length<=1099511627776:=by grind [j1k]
 have e:=j2U key [four i,a,[UInt8.ofNat 0],d,four (8*n)] r f (by simp);rw [l] at e;have o:=q6H key a d n i;change PC _ _ _ (.tup [.dat (.arr 32 .u8) (kblk key a d n i),_]) at e;generalize kblk key a d n i=kb at*;refine ⟨by decide,q0n e ?_⟩;have p:List.take 32 kb=kb:=Aa (by omega);refine gy2 o p ?_;trivial
theorem z5e(x:derT.den)(a:derT.ok x):PC Tryz.prog 216 [.fn 217 [.agg (derT.cells x)] []] (.fn 232 [] [.iptr (.clo 217 derT) x 0]):=by
 refine q0s rfl rfl ?_;refine q1Q fi216 ?_;refine uQ 3 _ ?_;with_reducible refine sxE ?_
 refine q1N 1 0 (ty:=.clo 217 derT) (x:=x) rfl a rfl rfl ?_;refine gQ ?_;trivial
def vwK(key label ctx:List UInt8)(n:Nat):Nat->Nat->List SV->List SObj->Prop:=λi _ args' new=>args'= [rI ((i+1:Nat):Int),.isl .u8 (kblk key label ctx n (i+1))]/\new= []
theorem z2i(key a d:List UInt8)(n N:Nat)(s:key.length<=64)(u:a.length<=4096)(C:d.length<=4096)(D:n<=1024)(hN:N<=1000):IterI True Tryz.prog 232 [] [.iptr (.clo 217 derT) (key,a,d,(n:Int)) 0] N (vwK key a d n):=by
 refine ⟨by kernel_rfl,λl B J o A p=> ?_⟩;refine (q1D (yFG o) fi232 ?_).2;letI:Ghost:=topG (yFG o) [];refine gQ ?_;refine q9O [] (λi=>i) (λi=>[(3,rI ((i+1:Nat):Int))]) N (λ_=>True) trivial rfl (by simp) (by simp [SV.bel]) ?_ λi hi _=> ?_
 . with_reducible refine sxE ?_
   rfl
 by_cases f:i<N
 . have r:IntKind.i64.wrap (((i+1:Nat):Int)+1)=((i+1+1:Nat):Int):=q2w (by omega);refine gQ ?_;refine q0b (j1w key a d n (i+1) s u C D (by omega)) ?_;have e:=q6H key a d n (i+1);generalize z:kblk key a d n (i+1)=b at*;refine uQ 8 _ ?_;with_reducible refine sx1 e ?_
   refine ⟨⟨by decide,by decide⟩,?_⟩;refine q1o 1 rfl rfl (by rw [e];decide) ?_ ?_ ?_
   . with_reducible refine sxE ?_;trivial
   . with_reducible refine sxE ?_
     omega
   with_reducible refine sxE ?_
   have q:List.take 32 (List.drop 0 b)=b:=by rw [Ap];exact Aa (by omega)
   refine gy1 q ?_;refine q1K [.dead] o A f (λn=>⟨_,_,⟨by rw [z,Aa (show b.length<=32 by omega)],rfl⟩,q0M rfl⟩) λc=> ?_;cases c
   . refine gQ ?_;exact ⟨_,_,rfl,rfl,by omega⟩
   refine gQ ?_;refine ⟨f,trivial,⟨[_],rfl⟩,?_⟩;with_reducible refine sx1 r ?_;trivial
 obtain rfl:i=N:=by omega
 exact j1X o (p trivial)
def kacc(key label ctx:List UInt8)(n:Nat):Nat->List UInt8
 |0=>[]
 |i+1=>kacc key label ctx n i++kblk key label ctx n (i+1)
theorem q6I(key a d:List UInt8)(n:Nat):∀i,(kacc key a d n i).length=32*i
 |0=>rfl
 |i+1=>by rw [kacc,Ab,q6I key a d n i,q6H];omega
def kdfS(key label ctx:List UInt8)(n:Nat):List UInt8:=(kacc key label ctx n ((n+31) / 32)).take n
theorem z4B(key a d:List UInt8)(n:Nat):(kdfS key a d n).length=n:=by grind [kdfS,q6I]
def frC(n i:Nat)(G:List SObj)(acc:List UInt8):List SObj:=.cells 3 [rI n] :: .cells 25 [.bld (G.length+2) .u8 (32*i)] :: (G++ [.row .u8 acc])
def frH(key label ctx:List UInt8)(n:Nat)(i:Nat)(H':List SObj):Prop:=i< (n+31) / 32/\∃G,(∃g,G=List.replicate g SObj.dead)/\H'=frC n i G (kacc key label ctx n i)
def frX(key label ctx:List UInt8)(n:Nat)(i:Nat)(ex:Ex)(H':List SObj):Prop:=ex= .exit 0/\i+1=(n+31) / 32/\∃G,(∃g,G=List.replicate g SObj.dead)/\H'=frC n (i+1) G (kacc key label ctx n (i+1))
def q7K{h:Nat}{t:Ty}{xs:List t.den}{l:List SObj}:∀g,frzObH h t xs l->frzObH h t xs (List.replicate g SObj.dead++l)
 |0,hl=>hl
 |g+1,hl=>⟨trivial,q7K g hl⟩
theorem j4b(key d e:List UInt8)(n:Nat)(z:key.length<=64)(A:d.length<=4096)(J:e.length<=4096)(h1:1<=n)(C:n<=1024):PC Tryz.prog 215 [rI n,.fn 232 [] [.iptr (.clo 217 derT) (key,d,e,(n:Int)) 0]] (.isl .u8 (kdfS key d e n)):=by
 refine q0s rfl rfl (q3K (q1D noFG fi215 ?_));letI:Ghost:=topG noFG [];refine gQ ?_;refine q3Z 1 0 .u8 rfl rfl rfl ?_;have I:(n+31) / 32<=1000:=by omega
 refine j2x (inf:=True) (frH key d e n) (frX key d e n) rfl rfl rfl (z2i key d e n ((n+31) / 32) z A J C I) (λ_ Hn h=>absurd h.1 (BF _)) (λi n f s h=>by rw [h.1];rfl) ⟨by omega,[],⟨0,rfl⟩,rfl⟩ rfl ?_ ?_ ?_
 . rintro i _ f s B ⟨hlt,G,⟨g,p⟩,rfl⟩ ⟨rfl,rfl⟩ F E;letI:Ghost:=pinG noFG F;rw [Ad];have o:=q6I key d e n i;have q:=q6H key d e n (i+1);have l:kacc key d e n i++kblk key d e n (i+1)=kacc key d e n (i+1):=rfl;generalize hka:kacc key d e n i=a at*;generalize hkb:kblk key d e n (i+1)=b at*;unfold frC;refine uQ 600 _ ?_;simp only [putL,Bf];with_reducible refine sxaE ?_
   letI:Ghost:=pinG noFG E;refine gya2 o q ?_;refine ⟨⟨by omega,by omega⟩,λh=>⟨rfl,by omega,G++ [.dead],⟨g+1,by rw [p,Co]⟩,?_⟩,λh=>⟨by omega,G++ [.dead],⟨g+1,by rw [p,Co]⟩,?_⟩⟩
   . rw [<-l];simp [frC,Nat.mul_add]
   rw [<-l];simp [frC,Nat.mul_add]
 . rintro D _ ⟨h,_⟩;exact absurd h (BF _)
 rintro D i ex _ B ⟨rfl,u,G,⟨g,p⟩,rfl⟩;refine ⟨_,rfl,?_⟩;unfold frC;letI:Ghost:=topG noFG [D];have o:=q6I key d e n (i+1);have r:List.take n (kacc key d e n (i+1))=kdfS key d e n:=by rw [u];rfl
 generalize kacc key d e n (i+1)=a at*;refine uQ 5 _ ?_;with_reducible refine sxaE ?_
 refine ⟨⟨by omega,by omega⟩,?_⟩;refine q1o (G.length+2) (ty:=.u8) (xs:=a) rfl (by simp) (by omega) ?_ ?_ ?_
 . with_reducible refine sxaE ?_
   refine ⟨by omega,?_⟩;rw [p];exact q7K g ⟨trivial,trivial⟩
 . with_reducible refine sxaE ?_
   exact ⟨by omega,by omega⟩
 with_reducible refine sxaE ?_
 rw [Cv,r];have hkl:(kdfS key d e n).length=n:=z4B _ _ _ _;refine aQ ?_;refine q0b (q1C (kdfS key d e n) (by omega)) ?_;refine aQ ?_;trivial
theorem j8x(key a d:List UInt8)(n:Nat)(p:key.length<=64)(q:a.length<=4096)(r:d.length<=4096)(f:1<=n)(o:n<=1024):PC Tryz.prog 193 [.isl .u8 key,.isl .u8 a,.isl .u8 d,rI n] (.tup [.isl .u8 (kdfS key a d n),rI 0]):=by
 have e:=j5D n [key,a,d] f o (λl hl'=>by grind) (by simp);refine q0s rfl rfl ?_;refine rQ fi193 ?_;refine q0F 0 ?_;with_reducible refine sxE ?_
 refine cQ e ?_;refine cQ (z5e (key,a,d,(n:Int)) ⟨⟨show key.length<=1125899906842624 by omega,λ_ _=>trivial⟩,⟨show a.length<=1125899906842624 by omega,λ_ _=>trivial⟩,⟨show d.length<=1125899906842624 by omega,λ_ _=>trivial⟩,trivial⟩) ?_;refine cQ (j4b key a d n p q r f o) ?_;trivial
abbrev rkF(key:List UInt8)(bw:Bool):SV:=.fn 290 [] [.iptr .bool bw 0,.iptr (.ptr CipT) (some (cipS key)) 0]
theorem j2E(key:List UInt8)(a:key.length=16):CipT.ok (cipS key):=by
 have h1:fwS.length=256:=by simp [fwS]
 have h2:(invP 256).length=256:=z3H 256;have h3:=q3Y key a;unfold cipS;generalize fwS=fw at*;generalize invP 256=iv at*;generalize wordsS key=w at*;refine ⟨⟨?_,?_⟩,?_,?_⟩;all_goals first|exact trivial|exact ⟨by assumption,λ_ _=>trivial⟩ |exact ⟨⟨by assumption,λ_ _=>trivial⟩,trivial⟩ |skip
theorem q6b(key:List UInt8)(a:Bool)(hk:key.length=16):PC Tryz.prog 272 [.iptr CipT (cipS key) 0,rB a] (rkF key a):=by
 refine q0s rfl rfl ?_;refine q1Q fi272 ?_;refine uQ 4 _ ?_;with_reducible refine sxE ?_
 refine q1N 2 0 (ty:=.ptr CipT) (x:=some (cipS key)) rfl (λy h=>by grind [j2E]) rfl rfl ?_;refine q1N 3 1 (ty:=.bool) (x:=a) rfl trivial rfl rfl ?_;refine gQ ?_;trivial
def rkI(bw:Bool)(i:Nat):Nat:=if bw then 10-i else i
def rkK(key:List UInt8)(i:Nat):List UInt8:=((wordsS key).drop (i*16)).take 16
def vwR(key:List UInt8)(bw:Bool):Nat->Nat->List SV->List SObj->Prop:=λi _ args' new=>args'= [rI (rkI bw i:Nat),.dat (.arr 16 .u8) (rkK key (rkI bw i))]/\new= []
theorem q6j(key:List UInt8)(o:Bool)(q:key.length=16):Iter Tryz.prog 290 [] [.iptr .bool o 0,.iptr (.ptr CipT) (some (cipS key)) 0] 11 (vwR key o):=by
 refine ⟨by kernel_rfl,λl B J f p=> ?_⟩;have hwl:=q3Y key q;refine (q1D (yFG f) fi290 ?_).2;letI:Ghost:=topG (yFG f) [];refine gQ ?_;refine q9O [] (λi=>i) (λi=>[(5,rI (i:Nat))]) 11 (λ_=>True) trivial rfl (by simp) (by simp [SV.bel]) ?_ λi hi _=> ?_
 . with_reducible refine sxE ?_;trivial
 have d:=wsx i (by omega);by_cases a:i<11
 . have e:((i:Int) <11)=True:=eq_true (by omega);have r:IntKind.i64.wrap (10- (i:Int))=((10-i:Nat):Int):=by rw [wrapi (by omega)];omega
   cases o with
   |false=>
    refine gy1 e ?_;refine ⟨by omega,q1K [] f p a (λn=>⟨_,_,⟨rfl,rfl⟩,q0M rfl⟩) λc=> ?_⟩;cases c
    . refine gQ ?_;exact ⟨_,_,rfl,rfl,by omega⟩
    refine gQ ?_;refine ⟨a,trivial,⟨[],rfl⟩,?_⟩;with_reducible refine sx1 d ?_;trivial
   |true=>
    refine gy2 e r ?_;refine ⟨by omega,q1K [] f p a (λn=>⟨_,_,⟨rfl,rfl⟩,q0M rfl⟩) λc=> ?_⟩;cases c
    . refine gQ ?_;exact ⟨_,_,rfl,rfl,by omega⟩
    refine gQ ?_;refine ⟨a,trivial,⟨[],rfl⟩,?_⟩;with_reducible refine sx1 d ?_;trivial
 obtain rfl:i=11:=by omega
 have e:(((11:Nat):Int) <11)=False:=by decide
 refine gy1 e ?_;exact ⟨_,_,rfl,rfl,Ac _⟩
theorem j8n(n:Nat):PC Tryz.prog 194 [rI n] (.isl .u8 (four n)):=by refine q0l rfl rfl ?_;refine rQ fi194 ?_;refine ⟨⟨q2H _,q2H _,q2H _,q2H _⟩,?_⟩;rw [byteN _ 24 (by decide),byteN _ 16 (by decide),byteN _ 8 (by decide),byteN0];rfl
theorem z7v(a:List (List UInt8))(hl:a.flatten.length<=1099511627776)(hn:a.length<=1099511627776):PC Tryz.prog 161 [.isl (.slice .u8) a] (.isl .u8 a.flatten):=by
 refine q0l rfl rfl ?_;refine rQ fi161 ?_;refine q5O 3 .u8 (λi=>(a.take i).flatten) (λi=>[(8,rI i)]) a.length (λ_=>True) rfl (by simp) (by simp) rfl (λi=>rfl) ?_ λi hi _=> ?_
 . with_reducible refine sxE ?_;trivial
 have l:=wsx i (by omega);have hfl:=q1Y a i;by_cases h:i<a.length
 . have e:=q4Z h;have d:=q1Y a (i+1);rw [e,Ab] at d;have hfl2:(a.take i).flatten.length+ (a.getD i (Ty.dflt (.slice .u8))).length<=a.flatten.length:=d;refine gQ ?_;refine ⟨λ_=>⟨⟨by omega,h⟩,⟨by omega,by omega⟩,q3g [.dead] [] h trivial (by rw [e];rfl) ?_⟩,λf=>absurd h f⟩;with_reducible refine sx3 l e ?_
   rfl
 obtain rfl:i=a.length:=by omega
 rw [Aw] at*;refine gQ ?_;refine ⟨λf=>absurd f (by omega),λ_=> ?_⟩;exact ⟨⟨by omega,by omega⟩,Aw⟩
def j1m(k:List UInt8)(ps:List (List UInt8))(f:k.length<=64)(e:ps.flatten.length<=1099511627776)(d:ps.length<=1099511627776):PC Tryz.prog 230 [.isl .u8 k,.isl (.slice .u8) ps] (.isl .u8 (hmS k ps.flatten)):=by have a:=q5J k ps.flatten;refine q0l rfl rfl ?_;refine rQ fi230 ?_;refine cy1 (j2U k ps f e d) a ?_;exact ⟨⟨by decide,by decide⟩,Aa (by omega)⟩
def dkS(k:KeyT.den)(u use:Nat):List UInt8:=kdfS k.2.2 (four u++ [UInt8.ofNat use]) [] k.2.2.length
def z0v(k:KeyT.den)(u use:Nat):(dkS k u use).length=k.2.2.length:=z4B _ _ _ _
theorem z1X(k:KeyT.den)(u:Nat)(hk:k.2.2.length<=64):PC Tryz.prog 160 [.agg (KeyT.cells k),rI u] (.fn 192 [] [.iptr KeyT k 0,.iptr (.int .i64) (u:Int) 0]):=by
 refine q0s rfl rfl ?_;refine q1Q fi160 ?_;refine uQ 4 _ ?_;with_reducible refine sxE ?_
 refine q1N 2 0 (ty:=KeyT) (x:=k) rfl ⟨trivial,trivial,⟨by omega,λ_ _=>trivial⟩⟩ rfl rfl ?_;refine q1N 3 1 (ty:=.int .i64) (x:=(u:Int)) rfl trivial rfl rfl ?_;refine gQ ?_;trivial
theorem q4W(k:KeyT.den)(u a:Nat)(l:k.2.2.length<=64)(n:1<=k.2.2.length)(hu:a<256):PC Tryz.prog 192 [.raw (.int .u8 a),.iptr KeyT k 0,.iptr (.int .i64) (u:Int) 0] (.isl .u8 (dkS k u a)):=by
 obtain ⟨p,v,b⟩:=k;have d:b.length<=64:=l;have e:1<=b.length:=n;refine q0s rfl rfl ?_;refine rQ fi192 ?_;refine q0n (j8n u) ?_;refine gQ ?_;have f:=z7v [four u,[UInt8.ofNat a]] (by simp [four]) (by simp);rw [show [four u,[UInt8.ofNat a]].flatten=four u++ [UInt8.ofNat a] by simp] at f;refine ⟨by rw [AZ];omega,?_⟩;refine q1G 0 (by decide) ?_;with_reducible refine sxE ?_
 refine cR f ?_;refine q0g ((j8x b (four u++ [UInt8.ofNat a]) [] b.length d (by simp [four]) (by simp) e (by omega)).arg ?_) ?_
 . with_reducible refine sxE ?_;trivial
 refine gQ ?_;rfl
def ksB(key conf text:List UInt8)(i:Nat):UInt8:=text.getD i 0^^^ (hmS key (conf++four (i / 32+1))).getD (i%32) 0
def ksS(key conf text:List UInt8):List UInt8:=(List.range text.length).map (ksB key conf text)
def z2F(key d a:List UInt8):(ksS key d a).length=a.length:=by simp [ksS]
theorem j5l(key d a:List UInt8)(hi:i<a.length):(ksS key d a).getD i 0=ksB key d a i:=by grind [ksS]
theorem j5o(key a d:List UInt8):ksS key a (ksS key a d)=d:=by
 apply Aq
 . rw [z2F,z2F]
 intro j h1 h2;have e:(ksS key a (ksS key a d))[j]=ksB key a (ksS key a d) j:=by grind [ksS]
 grind [ksB,j5l,UInt8.xor_assoc,UInt8.xor_self]
def uOk(k:Key)(u:Int):Bool:=vKey k&& (decide (1<=u) && decide (u<=1023))
theorem z4C(k:Key)(u:Int)(ho:KeyT.ok k):PC Tryz.prog 159 [.agg (KeyT.cells k),rI u] (.tup [.agg (rawL (if uOk k u=true then kindOf k.1 else kindZ)),rI (if uOk k u=true then 0 else 2)]):=by
 have e:=j2X k;obtain ⟨p,v,b⟩:=k;refine q0s rfl (by simp [SV.clean,SV.cleanL,q4w]) ?_;change PC _ _ _ (.tup [.agg (rawL (kindOf p)),rB (vKey (p,v,b))]) at e;unfold uOk;show VC _ _ _ _ (PK (.tup [.agg (rawL (if (vKey (p,v,b) && (decide (1<=u) && decide (u<=1023)))=true then kindOf p else kindZ)),_]));generalize vKey (p,v,b)=n at*;have o:=q5X p;generalize kindOf p=kv at*;rcases o with rfl|rfl|rfl;all_goals
  cases n
  . refine rQ fi159 ?_;refine cQ e ?_;trivial
  by_cases f:1<=u
  . have a:(u<1)=False:=eq_false (by omega);by_cases l:u<=1023
    . have d:(1023<u)=False:=eq_false (by omega);refine rQ fi159 ?_;refine cy4 e f l a d ?_;trivial
    have d:(1023<u)=True:=eq_true (by omega);refine rQ fi159 ?_;refine cy4 e f l a d ?_;trivial
  have a:(u<1)=True:=eq_true (by omega);refine rQ fi159 ?_;refine q0b e ?_;refine gy2 f a ?_;trivial
def z16:List UInt8:=List.replicate 16 0
def tg9S(k:Key)(u:Nat)(c:List UInt8):List UInt8:=if k.1=1 then (hmS (dkS k u 85) (z16++c)).take 16 else hmS (dkS k u 85) c
end Go.Proofs.YthbcodbcndiapaaGreatDoor