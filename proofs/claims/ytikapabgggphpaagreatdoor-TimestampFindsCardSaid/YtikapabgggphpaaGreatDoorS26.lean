/- AES: the program encrypts a block. -/
import Derived.Test.YtikapabgggphpaaGreatDoorS25
import Derived.Lib.MakeNoZero
import Derived.Laws.Externs
set_option linter.all false
namespace Go.Proofs.YtikapabgggphpaaGreatDoor
open Go Go.Sx Go.Proofs
set_option maxRecDepth 100000
set_option maxHeartbeats 40000000
theorem z5z{t:Ty}{x:t.den}:rdPtr t [.iptr t x 0]=some (some x,True):=by simp [rdPtr]
theorem q1p{h:Nat}{t:Ty}{xs:List t.den}{L:List SObj}:∀ {G:List SObj},frzObH h t xs G→frzObH h t xs L→frzObH h t xs (G++L)
 | [],_,h2=>h2
 |_ :: _,h1,h2=>⟨h1.1,q1p h1.2 h2⟩
theorem q6g{f g:Nat→UInt8}(h:∀j,j<16→f j=g j):fS f=fS g:=by
 unfold fS;exact Bg fun j hj=>h j (Bw.1 hj)
theorem j5o:∀j:Fin 16,shI j.val=4* ((j.val / 4+j.val%4)%4)+j.val%4∧shI j.val<16:=by decide
theorem shf_eq'(fw:List UInt8)(hf:∀c:UInt8,fw.getD c.toNat 0=subS c)(x:List UInt8):(fS fun j=>(fS fun j=>fw.getD (x.getD j 0).toNat 0).getD (shI j) 0)=shfS x:=by
 unfold shfS;refine q6g fun j hj=> ?_;have h:=j5o ⟨j,hj⟩;dsimp only at h;exact (j0w (fun j=>fw.getD (x.getD j 0).toNat 0) h.2).trans ((hf _).trans (by rw [h.1]))
theorem j3J(x:List UInt8):(fS fun j=>(fS fun j=>fwS.getD (x.getD j 0).toNat 0).getD (shI j) 0)=shfS x:=shf_eq' fwS z5w x
theorem z8A(w:List UInt8)(i j:Nat)(hj:j<16):(List.take 16 (List.drop (i*16) w)).getD (16*0+j) 0=w.getD (16*i+j) 0:=by
 simp only [Aa];rw [A6 (by omega),AD,show i*16+ (16*0+j)=16*i+j by omega]
theorem q5r{key:List UInt8}(x:List UInt8)(i:Nat):addS x (rkK key i) 0=addS x (wordsS key) i:=by
 unfold addS rkK;refine q6g fun j hj=> ?_;rw [z8A (wordsS key) i j hj]
def encH(cp:CipT.den)(b k:List UInt8)(G:List SObj):List SObj:=.row PasT [(some cp,(b,k))] :: .cells 207 [.rptr 0 PasT 0 0] :: .cells 1 [opF 186,opF 187,opF 188,opF 172] :: .cells 212 [.csl 2 .u8 0 0 4] :: G
def prS(w b:List UInt8):Nat→List UInt8
 |0=>b
 |n+1=>encA w b n
def pkS(key:List UInt8):Nat→List UInt8
 |0=>z16
 |n+1=>rkK key n
theorem q8K{key:List UInt8}(hk:key.length=16){i:Nat}(hi:i<11):(rkK key i).length=16:=by
 have:=q2Q key hk;unfold rkK;rw [Aj,Al];omega
theorem encOps(cp:CipT.den)(key:List UInt8)(hk:key.length=16)(hcp:cp=cipS key){i:Nat}(hi:i<11){rk x:List UInt8}(hrk:rk=rkK key i)(hpl:x.length=16):
 ∃s1 s2 s3 a0 a10 a4:List UInt8,OpE 186 (some cp,(x,rk)) (some cp,(s1,rk))∧OpE 187 (some cp,(s1,rk)) (some cp,(s2,rk))∧OpE 188 (some cp,(s2,rk)) (some cp,(s3,rk))∧
  OpE 172 (some cp,(x,rk)) (some cp,(a0,rk))∧OpE 172 (some cp,(s2,rk)) (some cp,(a10,rk))∧OpE 172 (some cp,(s3,rk)) (some cp,(a4,rk))∧
  a0=addS x (wordsS key) i∧(i=10→a10=rndE (wordsS key) i x)∧(i<10→a4=rndE (wordsS key) i x):=by
 have hrl:rk.length=16:=by rw [hrk];exact q8K hk hi
 have hc11:(cp.1.1:List UInt8)=fwS:=by rw [hcp];rfl
 have hsu:=q9b cp x rk hpl;have hsh:=z9k (some cp) (fS fun j=>(cp.1.1:List UInt8).getD (x.getD j 0).toNat 0) rk (q1U _);have he:(fS fun j=>(fS fun j=>(cp.1.1:List UInt8).getD (x.getD j 0).toNat 0).getD (shI j) 0)=shfS x:=by rw [hc11];exact j3J x
 rw [he] at hsh;refine ⟨_,_,_,_,_,_,hsu,hsh,j3L (some cp) (shfS x) rk (q1U _),z3b (some cp) x rk hpl hrl,z3b (some cp) (shfS x) rk (q1U _) hrl,z3b (some cp) (mixS (shfS x) [2,3,1,1]) rk (q1U _) hrl,?_,?_,?_⟩
 · rw [hrk,q5r]
 · intro h;unfold rndE;rw [hrk,q5r,if_neg (by omega)]
 intro h;unfold rndE;rw [hrk,q5r,if_pos h]
def encHs(cp:CipT.den)(key b:List UInt8)(i:Nat)(H':List SObj):Prop:=∃G,(∀xs,frzObH 0 PasT xs G)∧H'=encH cp (prS (wordsS key) b i) (pkS key i) G
theorem z4i(key b:List UInt8)(hk:key.length=16)(hb:b.length=16):PC Tryz.prog 168 [.iptr CipT (cipS key) 0,.isl .u8 b] (.tup [.isl .u8 (encS (wordsS key) b),rI 0]):=by
 refine q0p rfl rfl (q4q (q1z noFG fi168 ?_))
 letI:Ghost:=topG noFG []
 have hch:=z0O key b hb;have hrk:=q5G key false hk;have hit:=q5B key false hk;unfold rkF at hrk;obtain ⟨cp,hcp⟩:∃cp,cp=cipS key:=⟨_,rfl⟩;rw [←hcp] at hch hrk hit⊢;have htb:List.take 16 b=b:=Ab (by omega)
 refine gQ ?_;refine q0a hch ?_;refine uQ 600 _ ?_;simp (maxSteps:=3000000) only [hb,htb,z5z,go_sem,↓zA,↓reduceIte,↓reduceDIte] <;>try simp only [zB]
 refine cQ hrk ?_;refine z4w (encHs cp key b) (fun _ _ _=>False) rfl rfl rfl hit (fun i n args' new h=>by rw [h.1];rfl) ⟨[],fun _=>trivial,rfl⟩ rfl ?_ ?_ ?_
 · rintro i _ args' new hi ⟨G,hG,rfl⟩ ⟨rfl,rfl⟩ L1 L2
   letI:Ghost:=pinG noFG L1
   rw [Ah];unfold encH;have hri:rkI false i=i:=rfl;have hrl:(rkK key i).length=16:=q8K hk hi;rw [hri];obtain ⟨rk,hrk⟩:∃rk,rk=rkK key i:=⟨_,rfl⟩;rw [←hrk] at hrl⊢;refine uQ 600 _ ?_;simp only [putL,BD];with_reducible refine sya1 hrl ?_
   letI:Ghost:=pinG noFG L2
   have htr:List.take 16 rk=rk:=Ab (by omega)
   have hpl:(prS (wordsS key) b i).length=16:=by cases i with
    |zero=>exact hb
    |succ n=>exact q9k _ _ _
   obtain ⟨s1,s2,s3,a0,a10,a4,hsu,hsh,hmi,had0,had10,had4,h0,h10,h4⟩:=encOps cp key hk hcp hi hrk hpl;have e0:i=0→prS (wordsS key) b (i+1)=a0:=by
    rintro rfl;rw [h0];rfl
   have e10:i=10→prS (wordsS key) b (i+1)=a10:=by
    rintro rfl;rw [h10 rfl];rfl
   have e4:0<i→i<10→prS (wordsS key) b (i+1)=a4:=by
    intro h h';obtain ⟨j,rfl⟩:∃j,i=j+1:=⟨i-1,by omega⟩
    rw [h4 h'];rfl
   have ek:pkS key (i+1)=rk:=by rw [hrk];rfl
   have eH:∀ {G':List SObj} {y:List UInt8},(∀xs,frzObH 0 PasT xs G')→prS (wordsS key) b (i+1)=y→encHs cp key b (i+1) (encH cp y rk G'):=by
    intro G' y hg hy;exact ⟨G',hg,by rw [hy,ek]⟩
   clear h0 h10 h4 hcp hch hrk;generalize prS (wordsS key) b i=x at*;generalize pkS key i=rk0 at*;have hk2:(((i:Nat):Int)=0)=(i=0):=by simp
   rcases Cz i with h|h
   · have f1:(((i:Nat):Int)=0)=True:=eq_true (by omega)
     have e:=e0 h;clear e0 e10 e4 hsu hsh hmi had4 had10;refine uQ 600 _ ?_;simp (maxSteps:=3000000) only [f1,hrl,htr,Ag,true_and,List.append_assoc,getA,getA0,setA,setA0,Ad,Nat.add_assoc,go_sem,↓zA,↓reduceIte,↓reduceDIte] <;>try simp only [zB]
     refine q0j [0,G.length+5] (z6Z 172 _ _ had0) rfl (by simp) ?_ rfl rfl ?_
     · simp (maxSteps:=3000000) only [atH,sig,SObj.ren,SV.ren,SV.renL,SObj.live,opF,List.append_assoc,getA,getA0,setA,setA0,Ad,Nat.add_assoc,go_sem,↓zA,↓reduceIte,↓reduceDIte] <;>try simp only [zB]
     simp only [afterO,Out.ren,SV.ren,mgA,sig,SObj.ren,SV.renL,List.set,List.map,Ah,opF];refine aQ ?_;exact eH (fun xs=>q1p (hG xs) ⟨trivial,⟨trivial,trivial⟩,trivial⟩) e
   have f1:(((i:Nat):Int)=0)=False:=eq_false (by omega)
   rcases AJ i 10 with h'|h'
   · have f2:(((i:Nat):Int)=10)=False:=eq_false (by omega)
     have e:=e4 h h';clear e0 e10 e4 had0 had10;refine uQ 600 _ ?_;simp (maxSteps:=3000000) only [f1,f2,hrl,htr,Ag,true_and,List.append_assoc,getA,getA0,setA,setA0,Ad,Nat.add_assoc,go_sem,↓zA,↓reduceIte,↓reduceDIte] <;>try simp only [zB]
     refine q0j [0,2] (z6L 186 187 188 172 _ _ _ _ _ hsu hsh hmi had4) rfl (by simp) ?_ rfl rfl ?_
     · simp (maxSteps:=3000000) only [atH,sig,SObj.ren,SV.ren,SV.renL,SObj.live,opF,List.append_assoc,getA,getA0,setA,setA0,Ad,Nat.add_assoc,go_sem,↓zA,↓reduceIte,↓reduceDIte] <;>try simp only [zB]
     simp only [afterO,Out.ren,SV.ren,mgA,sig,SObj.ren,SV.renL,List.set,List.map,Ah,opF];refine aQ ?_;exact eH (fun xs=>q1p (hG xs) ⟨trivial,trivial⟩) e
   have f2:(((i:Nat):Int)=10)=True:=eq_true (by omega)
   have e:=e10 (by omega)
   clear e0 e10 e4 hmi had0 had4;refine uQ 600 _ ?_;simp (maxSteps:=3000000) only [f1,f2,hrl,htr,Ag,true_and,List.append_assoc,getA,getA0,setA,setA0,Ad,Nat.add_assoc,go_sem,↓zA,↓reduceIte,↓reduceDIte] <;>try simp only [zB]
   refine q0j [0,G.length+5] (z5H 186 187 172 _ _ _ _ hsu hsh had10) rfl (by simp) ?_ rfl rfl ?_
   · simp (maxSteps:=3000000) only [atH,sig,SObj.ren,SV.ren,SV.renL,SObj.live,opF,List.append_assoc,getA,getA0,setA,setA0,Ad,Nat.add_assoc,go_sem,↓zA,↓reduceIte,↓reduceDIte] <;>try simp only [zB]
   simp only [afterO,Out.ren,SV.ren,mgA,sig,SObj.ren,SV.renL,List.set,List.map,Ah,opF];refine aQ ?_;exact eH (fun xs=>q1p (hG xs) ⟨trivial,⟨trivial,trivial,trivial,trivial⟩,trivial⟩) e
 · rintro D Hn ⟨G,hG,rfl⟩
   letI:Ghost:=topG noFG [D]
   have hpl:(prS (wordsS key) b 11).length=16:=q9k _ _ _;have he:encS (wordsS key) b=prS (wordsS key) b 11:=rfl;rw [he];clear hcp hch hrk he;generalize prS (wordsS key) b 11=x at*;have hxt:List.take 16 x=x:=Ab (by omega)
   generalize pkS key 11=rk0 at*;unfold encH;refine uQ 6 _ ?_;with_reducible refine sxaE ?_
   refine z1J (ty:=PasT) 64 0 0 1 rfl rfl rfl (Nat.succ_pos _) (show 1≤1125899906842624 by decide) ?_ ?_ ?_
   · exact ⟨trivial,⟨trivial,trivial⟩,⟨trivial,trivial,trivial,trivial,trivial⟩,⟨trivial,trivial⟩,hG _⟩
   · with_reducible refine sxaE ?_;trivial
   with_reducible refine sxaE ?_
   refine aQ ?_;refine ⟨⟨by decide,Ag _⟩,q0a (hxt.symm▸q1X x (by omega)) ?_⟩
   refine aQ ?_;simp [SV.leV,hxt]
 rintro D i ex _ hi h;exact h.elim
theorem uns_eq'(iv:List UInt8)(hf:∀c:UInt8,iv.getD c.toNat 0=invS c)(x:List UInt8):(fS fun j=>iv.getD ((fS fun j=>x.getD (srcU j) 0).getD j 0).toNat 0)=unsS x:=by
 unfold unsS;refine q6g fun j hj=> ?_;have e:=j0w (fun j=>x.getD (srcU j) 0) hj;rw [hf];exact congrArg invS e
theorem j3Y(x:List UInt8):(fS fun j=>(invP 256).getD ((fS fun j=>x.getD (srcU j) 0).getD j 0).toNat 0)=unsS x:=uns_eq' (invP 256) (fun _=>rfl) x
def decH(cp:CipT.den)(b k:List UInt8)(G:List SObj):List SObj:=.row PasT [(some cp,(b,k))] :: .cells 207 [.rptr 0 PasT 0 0] :: .cells 1 [opF 172,opF 173,opF 174,opF 175] :: .cells 212 [.csl 2 .u8 0 0 4] :: G
def pdS(w b:List UInt8)(n:Nat):List UInt8:=if n≤10 then decA w b n else decS w b
def pqS(key:List UInt8):Nat→List UInt8
 |0=>z16
 |n+1=>rkK key (10-n)
theorem decOps(cp:CipT.den)(key:List UInt8)(hk:key.length=16)(hcp:cp=cipS key){i:Nat}(hi:i<11){rk x:List UInt8}(hrk:rk=rkK key i)(hpl:x.length=16):
 ∃a s2 s3 t2 t3 t4:List UInt8,OpE 172 (some cp,(x,rk)) (some cp,(a,rk))∧OpE 174 (some cp,(a,rk)) (some cp,(s2,rk))∧OpE 175 (some cp,(s2,rk)) (some cp,(s3,rk))∧
  OpE 173 (some cp,(a,rk)) (some cp,(t2,rk))∧OpE 174 (some cp,(t2,rk)) (some cp,(t3,rk))∧OpE 175 (some cp,(t3,rk)) (some cp,(t4,rk))∧
  a=addS x (wordsS key) i∧(i=10→s3=rndD (wordsS key) i x)∧(i<10→t4=rndD (wordsS key) i x):=by
 have hrl:rk.length=16:=by rw [hrk];exact q8K hk hi
 have hc12:(cp.1.2:List UInt8)=invP 256:=by rw [hcp];rfl
 have hre:∀y:List UInt8,OpE 175 (some cp,((fS fun j=>y.getD (srcU j) 0),rk)) (some cp,(unsS y,rk)):=by
  intro y;have h:=z3M cp (fS fun j=>y.getD (srcU j) 0) rk (q1U _);rw [hc12] at h;have he:=j3Y y;rw [he] at h;exact h
 refine ⟨_,_,_,_,_,_,z3b (some cp) x rk hpl hrl,q7S (some cp) (addS x rk 0) rk (q1U _),hre _,z8t (some cp) (addS x rk 0) rk (q1U _),q7S (some cp) (mixS (addS x rk 0) [14,11,13,9]) rk (q1U _),hre _,?_,?_,?_⟩
 · rw [hrk,q5r]
 · intro h;unfold rndD mixD;rw [hrk,q5r,if_neg (by omega)]
 intro h;unfold rndD mixD;rw [hrk,q5r,if_pos h]
def decHs(cp:CipT.den)(key b:List UInt8)(i:Nat)(H':List SObj):Prop:=∃G,(∀xs,frzObH 0 PasT xs G)∧H'=decH cp (pdS (wordsS key) b i) (pqS key i) G
theorem z4f(key b:List UInt8)(hk:key.length=16)(hb:b.length=16):PC Tryz.prog 157 [.iptr CipT (cipS key) 0,.isl .u8 b] (.tup [.isl .u8 (decS (wordsS key) b),rI 0]):=by
 refine q0p rfl rfl (q4q (q1z noFG fi157 ?_))
 letI:Ghost:=topG noFG []
 have hch:=z0O key b hb;have hrk:=q5G key true hk;have hit:=q5B key true hk;unfold rkF at hrk;obtain ⟨cp,hcp⟩:∃cp,cp=cipS key:=⟨_,rfl⟩;rw [←hcp] at hch hrk hit⊢;have htb:List.take 16 b=b:=Ab (by omega)
 refine gQ ?_;refine q0a hch ?_;refine uQ 600 _ ?_;simp (maxSteps:=3000000) only [hb,htb,z5z,go_sem,↓zA,↓reduceIte,↓reduceDIte] <;>try simp only [zB]
 refine cQ hrk ?_;refine z4w (decHs cp key b) (fun _ _ _=>False) rfl rfl rfl hit (fun i n args' new h=>by rw [h.1];rfl) ⟨[],fun _=>trivial,rfl⟩ rfl ?_ ?_ ?_
 · rintro i _ args' new hi ⟨G,hG,rfl⟩ ⟨rfl,rfl⟩ L1 L2
   letI:Ghost:=pinG noFG L1
   rw [Ah];unfold decH;have hri:rkI true i=10-i:=rfl;obtain ⟨r,hr⟩:∃r,r=10-i:=⟨_,rfl⟩;have hr11:r<11:=by omega
   have hrl:(rkK key r).length=16:=q8K hk hr11;rw [hri,←hr];obtain ⟨rk,hrk⟩:∃rk,rk=rkK key r:=⟨_,rfl⟩;rw [←hrk] at hrl⊢;refine uQ 600 _ ?_;simp only [putL,BD];with_reducible refine sya1 hrl ?_
   letI:Ghost:=pinG noFG L2
   have htr:List.take 16 rk=rk:=Ab (by omega)
   have hpd:pdS (wordsS key) b i=decA (wordsS key) b i:=if_pos (by omega)
   have hpl:(pdS (wordsS key) b i).length=16:=by rw [hpd];exact z2K _ _ hb _
   obtain ⟨a,s2,s3,t2,t3,t4,had,hsh,hre,hmi,hsh4,hre4,h0,h10,h4⟩:=decOps cp key hk hcp hr11 hrk hpl;have e0:r=0→pdS (wordsS key) b (i+1)=a:=by
    intro h;have hi:i=10:=by omega
    rw [h0,hpd,h,hi];rfl
   have e10:r=10→pdS (wordsS key) b (i+1)=s3:=by
    intro h;have hi:i=0:=by omega
    rw [h10 h,hpd,h,hi];rfl
   have e4:0<r→r<10→pdS (wordsS key) b (i+1)=t4:=by
    intro h h';have hu:pdS (wordsS key) b (i+1)=decA (wordsS key) b (i+1):=if_pos (by omega)
    rw [h4 h',hu,decA,hpd,hr]
   have ek:pqS key (i+1)=rk:=by rw [hrk,hr];rfl
   have eH:∀ {G':List SObj} {y:List UInt8},(∀xs,frzObH 0 PasT xs G')→pdS (wordsS key) b (i+1)=y→decHs cp key b (i+1) (decH cp y rk G'):=by
    intro G' y hg hy;exact ⟨G',hg,by rw [hy,ek]⟩
   clear h0 h10 h4 hcp hch hrk hpd;generalize pdS (wordsS key) b i=x at*;generalize pqS key i=rk0 at*;rcases Cz r with h|h
   · have f1:(((r:Nat):Int)=0)=True:=eq_true (by omega)
     have e:=e0 h;clear e0 e10 e4 hsh hre hmi hsh4 hre4;refine uQ 600 _ ?_;simp (maxSteps:=3000000) only [f1,hrl,htr,Ag,true_and,List.append_assoc,getA,getA0,setA,setA0,Ad,Nat.add_assoc,go_sem,↓zA,↓reduceIte,↓reduceDIte] <;>try simp only [zB]
     refine q0j [0,G.length+5] (z6Z 172 _ _ had) rfl (by simp) ?_ rfl rfl ?_
     · simp (maxSteps:=3000000) only [atH,sig,SObj.ren,SV.ren,SV.renL,SObj.live,opF,List.append_assoc,getA,getA0,setA,setA0,Ad,Nat.add_assoc,go_sem,↓zA,↓reduceIte,↓reduceDIte] <;>try simp only [zB]
     simp only [afterO,Out.ren,SV.ren,mgA,sig,SObj.ren,SV.renL,List.set,List.map,Ah,opF];refine aQ ?_;exact eH (fun xs=>q1p (hG xs) ⟨trivial,⟨trivial,trivial⟩,trivial⟩) e
   have f1:(((r:Nat):Int)=0)=False:=eq_false (by omega)
   rcases AJ r 10 with h'|h'
   · have f2:(((r:Nat):Int)=10)=False:=eq_false (by omega)
     have e:=e4 h h';clear e0 e10 e4 hsh hre;refine uQ 600 _ ?_;simp (maxSteps:=3000000) only [f1,f2,hrl,htr,Ag,true_and,List.append_assoc,getA,getA0,setA,setA0,Ad,Nat.add_assoc,go_sem,↓zA,↓reduceIte,↓reduceDIte] <;>try simp only [zB]
     refine q0j [0,2] (z6L 172 173 174 175 _ _ _ _ _ had hmi hsh4 hre4) rfl (by simp) ?_ rfl rfl ?_
     · simp (maxSteps:=3000000) only [atH,sig,SObj.ren,SV.ren,SV.renL,SObj.live,opF,List.append_assoc,getA,getA0,setA,setA0,Ad,Nat.add_assoc,go_sem,↓zA,↓reduceIte,↓reduceDIte] <;>try simp only [zB]
     simp only [afterO,Out.ren,SV.ren,mgA,sig,SObj.ren,SV.renL,List.set,List.map,Ah,opF];refine aQ ?_;exact eH (fun xs=>q1p (hG xs) ⟨trivial,trivial⟩) e
   have f2:(((r:Nat):Int)=10)=True:=eq_true (by omega)
   have e:=e10 (by omega)
   clear e0 e10 e4 hmi hsh4 hre4;refine uQ 600 _ ?_;simp (maxSteps:=3000000) only [f1,f2,hrl,htr,Ag,true_and,List.append_assoc,getA,getA0,setA,setA0,Ad,Nat.add_assoc,go_sem,↓zA,↓reduceIte,↓reduceDIte] <;>try simp only [zB]
   refine q0j [0,G.length+5] (z5H 172 174 175 _ _ _ _ had hsh hre) rfl (by simp) ?_ rfl rfl ?_
   · simp (maxSteps:=3000000) only [atH,sig,SObj.ren,SV.ren,SV.renL,SObj.live,opF,List.append_assoc,getA,getA0,setA,setA0,Ad,Nat.add_assoc,go_sem,↓zA,↓reduceIte,↓reduceDIte] <;>try simp only [zB]
   simp only [afterO,Out.ren,SV.ren,mgA,sig,SObj.ren,SV.renL,List.set,List.map,Ah,opF];refine aQ ?_;exact eH (fun xs=>q1p (hG xs) ⟨trivial,⟨trivial,trivial,trivial,trivial⟩,trivial⟩) e
 · rintro D Hn ⟨G,hG,rfl⟩
   letI:Ghost:=topG noFG [D]
   have hpl:(pdS (wordsS key) b 11).length=16:=q2r _ _;have he:decS (wordsS key) b=pdS (wordsS key) b 11:=rfl;rw [he];clear hcp hch hrk he;generalize pdS (wordsS key) b 11=x at*;have hxt:List.take 16 x=x:=Ab (by omega)
   generalize pqS key 11=rk0 at*;unfold decH;refine uQ 6 _ ?_;with_reducible refine sxaE ?_
   refine z1J (ty:=PasT) 64 0 0 1 rfl rfl rfl (Nat.succ_pos _) (show 1≤1125899906842624 by decide) ?_ ?_ ?_
   · exact ⟨trivial,⟨trivial,trivial⟩,⟨trivial,trivial,trivial,trivial,trivial⟩,⟨trivial,trivial⟩,hG _⟩
   · with_reducible refine sxaE ?_;trivial
   with_reducible refine sxaE ?_
   refine aQ ?_;refine ⟨⟨by decide,Ag _⟩,q0a (hxt.symm▸q1X x (by omega)) ?_⟩
   refine aQ ?_;simp [SV.leV,hxt]
 rintro D i ex _ hi h;exact h.elim
def xorS(a b:List UInt8):List UInt8:=fS fun i=>a.getD i 0^^^ b.getD i 0
theorem q2V(a b:List UInt8):(xorS a b).length=16:=q1U _
theorem j0c(a b:List UInt8)(ha:a.length=16)(hb:b.length=16):PC Tryz.prog 112 [.isl .u8 a,.isl .u8 b] (.isl .u8 (xorS a b)):=by
 refine q0i rfl rfl ?_;refine rQ fi112 ?_;refine q0d (ι:=Nat) (fun i=>[(6,rI i)]) (fun i=>[.row .u8 (fP (fun i=>a.getD i 0^^^ b.getD i 0) i)]) (fun i=>16-i) (fun i=>i≤16) 0 (Ai _) (by rw [z1E];first|done|rfl) ?_ ?_
 · with_reducible refine sxE ?_;trivial
 intro i hi;have hwr:=wsx i (by omega)
 have hpl:=q7P (fun i=>a.getD i 0^^^ b.getD i 0) i;by_cases h:i<16
 · have f1:((i:Int) <16)=True:=eq_true (by omega)
   refine uQ 600 _ ?_;simp (maxSteps:=3000000) only [f1,hpl,xor8,AB,Aq,Ac,Ty.dflt,go_sem,↓zA,↓reduceIte,↓reduceDIte] <;>try simp only [zB]
   repeat (with_reducible refine And.intro (by first|omega|decide|exact And.intro (by omega) (by omega)) ?_)
   refine ⟨i+1,h,by dsimp only;omega,?_,?_⟩
   · dsimp only;rw [z4N _ h]
   with_reducible refine sx1 hwr ?_;trivial
 obtain rfl:i=16:=by omega
 have f1:(((16:Nat):Int) <16)=False:=eq_false (by omega)
 refine gy3 f1 hpl Ac ?_;rw [Ab (by omega),z6D]
 rfl
def chA(w iv p:List UInt8):Nat→List UInt8×List UInt8
 |0=>(iv,[])
 |n+1=>(encS w (xorS ((p.take (16*n+16)).drop (16*n)) (chA w iv p n).1),(chA w iv p n).2++encS w (xorS ((p.take (16*n+16)).drop (16*n)) (chA w iv p n).1))
def chainS(key iv p:List UInt8):List UInt8:=(chA (wordsS key) iv p (p.length / 16)).2
theorem j3c(w iv p:List UInt8)(hi:iv.length=16)(n:Nat):(chA w iv p n).1.length=16∧(chA w iv p n).2.length=16*n:=by
 induction n with
 |zero=>exact ⟨hi,rfl⟩
 |succ n ih=>exact ⟨q3J _ _,by rw [chA];simp only [Ad,ih.2,q3J];omega⟩
theorem z4p(key iv p:List UInt8)(hi:iv.length=16):(chainS key iv p).length=16* (p.length / 16):=(j3c _ _ _ hi _).2
def zpN(n:Nat):Nat:=(16-n%16)%16
def zpL(p:List UInt8)(k:Nat):List UInt8:=p++List.replicate k 0
theorem z7y(p:List UInt8)(k:Nat):(zpL p k).length=p.length+k:=by simp [zpL]
def exchS(c:List UInt8):List UInt8:=c.take (c.length-32)++c.drop (c.length-16)++(c.take (c.length-16)).drop (c.length-32)
def ctsE(key iv p:List UInt8):List UInt8:=
 let c:=chainS key iv (zpL p (zpN p.length))
 if c.length=16 then c else (exchS c).take p.length
end Go.Proofs.YtikapabgggphpaaGreatDoor
namespace Go.Sx
open Go

variable {P:Program} {AQ:Ex→List SV→List SObj→Prop} {k0:Nat} {k:List It} {t:List SV} {H:List SObj}

def flatC:Code→List Code
 |.seq a b=>flatC a++flatC b
 |c=>[c]
theorem q6M[Ghost]{F:Fence}{n:Nat}{E:EnD}{Q:Exit→Act→World→Prop}{id:Nat}{a:Act}{w:World}{k:List It}:∀ (l:List Code),exitT F n P E Q id (l.map .code++k) a w ↔ exitT F n P E Q id k a w
 | []=>Iff.rfl
 |c :: l=>by simp only [AL,Bc,exitT];exact q6M l
theorem q9c[Ghost]{F:Fence}{n:Nat}{E:EnD}{Q:Exit→Act→World→Prop}:∀ (c:Code) (k:List It) (a:Act) (w:World),wpT F n P E Q ((flatC c).map .code++k) a w→wpT F n P E Q (.code c :: k) a w
 |.seq x y,k,a,w,h=>by
  rw [flatC,Bk,List.append_assoc] at h;have h1:=q9c x _ a w h;simp only [wpT] at h1⊢;refine wpIn_seq (wpIn_mono h1 fun e a w hq=> ?_);cases e with
  |normal=>
   have h2:=q9c y k a w hq;simp only [wpT] at h2;exact h2
  |exit id=>exact (q6M _).1 hq
  |_=>exact hq
 |.skip,_,_,_,h=>h
 |.region ..,_,_,_,h=>h
 |.cond ..,_,_,_,h=>h
 |.block ..,_,_,_,h=>h
 |.loop _,_,_,_,h=>h
 |.rangeFunc ..,_,_,_,h=>h
 |.exit _,_,_,_,h=>h
 |.scope _,_,_,_,h=>h
 |.label _,_,_,_,h=>h
 |.goto _,_,_,_,h=>h
 |.ret,_,_,_,h=>h
 |.refuse ..,_,_,_,h=>h

def compAll(P:Program):List Code→Option (List IC)
 | []=>some []
 |c :: cs=>match comp P c,compAll P cs with
  |some x,some l=>some (x :: l)
  |_,_=>none
theorem q7C:∀ {cs:List Code} {l:List IC},compAll P cs=some l→cs.map (comp P)=l.map some
 | [],l,h=>by cases h;rfl
 |c :: cs,l,h=>by
  unfold compAll at h;split at h
  · rename_i x l' h1 h2;cases h;simp only [AL,h1,q7C h2]
  cases h
def splitX(P:Program):List Code→Option (List IC×Array Oper×List IC)
 | []=>none
 |c :: cs=>match comp P c with
  |some (.hnd all)=>match compAll P cs with
   |some l=>some ([],all,l)
   |none=>none
  |some x=>match splitX P cs with
   |some (l,r,l')=>some (x :: l,r,l')
   |none=>none
  |none=>none
theorem z0s:∀ {cs:List Code} {l:List IC} {r:Array Oper} {l':List IC},splitX P cs=some (l,r,l')→∃ (cs1:List Code) (id:Nat) (cs2:List Code),cs=cs1++ .region id r true :: cs2∧cs1.map (comp P)=l.map some∧cs2.map (comp P)=l'.map some
 | [],_,_,_,h=>by cases h
 |c :: cs,l,r,l',h=>by
  unfold splitX at h;split at h
  · rename_i all hx;obtain ⟨id,rfl⟩:=q0E hx;split at h
    · rename_i l1 h1;cases h;exact ⟨[],id,cs,rfl,rfl,q7C h1⟩
    cases h
  · split at h
    · rename_i hx _ _ l1 r1 l1' h1;cases h;obtain ⟨cs1,id,cs2,rfl,g1,g2⟩:=z0s h1;exact ⟨c :: cs1,id,cs2,rfl,by simp only [AL, *],g2⟩
    cases h
  cases h
structure XI where
 ntmps:Nat
 results:List ResultVar
 pre:List IC
 reg:Array Oper
 post:List IC
def xinfo(P:Program)(f:FuncId):Option XI:=
 match P.funcs[f]? with
 |some fn=>match fn.body with
  |some c=>match splitX P (flatC c) with
   |some (l,r,l')=>if fn.name== "runtime.NumGoroutine" then none else some ⟨fn.ntmps,fn.results.toList,l,r,l'⟩
   |none=>none
  |none=>none
 |none=>none
def xreg(P:Program)(f:FuncId):Array Oper:=match xinfo P f with
 |some xi=>xi.reg
 |none=> #[]

theorem rel_codes':∀ {cs:List Code} {l:List IC},cs.map (comp P)=l.map some→RelT P (l.map .ic) (cs.map .code)
 | [],[],_=>rfl
 |c :: cs,ic :: l,h=>by
  simp only [AL,List.cons.injEq] at h;exact ⟨c,_,rfl,h.1,rel_codes' h.2⟩
 | [],_ :: _,h=>by simp at h
 |_ :: _,[],h=>by simp at h
theorem q5D:∀ (cs:List Code),noStop (cs.map .code)=true
 | []=>rfl
 |_ :: cs=>q5D cs
def AtReg(P:Program)(AQ:Ex→List SV→List SObj→Prop)(k0:Nat)(xi:XI)(t:List SV)(H:List SObj):Prop:=
 ∀ (id:Nat) (k:List It),noStop k=true→RelT P (xi.post.map .ic) k→ @Sound noGhost P AQ ⟨k0,.code (.region id xi.reg true) :: k,t,H⟩
theorem j5k{f:FuncId}{xi:XI}{args:List SV}{K:Out→List SObj→Prop}(h:xinfo P f=some xi)
 (hs: @SoundI noGhost P (retF P xi.results K) ⟨H.length,xi.pre.map .ic++ [.stop (AtReg P (retF P xi.results K) H.length xi)],args++List.replicate (xi.ntmps-args.length) .any,H⟩):VC P f args H K:=by
 unfold xinfo at h;split at h
 · rename_i fn hf;split at h
   · rename_i c hb;split at h
     · rename_i l r l' hsp;split at h
       · cases h
       rename_i hn;cases h;refine ⟨by simp [enters,hf,hb];simpa using hn,?_⟩
       have hq:retQ P fn K=retF P fn.results.toList K:=by funext e t H;cases e<;>rfl
       obtain ⟨cs1,id,cs2,hcs,g1,g2⟩:=z0s hsp;refine q6h hf hb ?_;rw [hq];intro E r n C a h0 hd;refine q9c c [] a C.w ?_;rw [Ah,hcs,Bk];have h1:=q0h hs (q6K g1) E r n C a h0 hd;refine q5q (Q1:=conc E (retF P fn.results.toList K)) (fun e a w _ h=>h) (fun id a w ⟨_,_,_,hq,_⟩=>hq) (fun a C t H hΦ hd=> ?_) cs1 a C.w h1;exact hΦ id (cs2.map .code) (q5D cs2) (rel_codes' g2) E r n C a h0 hd
     cases h
   cases h
 cases h
end Go.Sx
namespace Go.Sx
open Go

variable {P:Program} {AQ:Ex→List SV→List SObj→Prop} {k0:Nat}

/- Values that hold nothing immutable. -/
mutual
def SV.noI:SV→Bool
 |.any|.raw _|.ptr .. |.rptr .. |.bld .. |.osl .. |.csl .. |.mp _=>true
 |.agg l=>SV.noIL l
 |.tup l=>SV.noIL l
 |.fn _ a b=>SV.noIL a&& SV.noIL b
 |.iface _ x=>SV.noI x
 |_=>false
def SV.noIL:List SV→Bool
 | []=>true
 |s :: l=>SV.noI s&& SV.noIL l
end
mutual
theorem z7r{C:Cx}{I:Nat→Prop}:∀ {s:SV} {v:Value},s.noI=true→s.den C v→s.den {C with I:=I} v
 |.any,_,_,_=>by rw [SV.den];trivial
 |.raw u,v,_,h=>by rw [SV.den] at h⊢;exact h
 |.isl ..,_,h,_=>by simp [SV.noI] at h
 |.fsl ..,_,h,_=>by simp [SV.noI] at h
 |.iptr ..,_,h,_=>by simp [SV.noI] at h
 |.dat ..,_,h,_=>by simp [SV.noI] at h
 |.imap ..,_,h,_=>by simp [SV.noI] at h
 |.ptr h off,v,_,d=>by rw [SV.den] at d⊢;exact d
 |.rptr h t i k,v,_,d=>by rw [SV.den] at d⊢;exact d
 |.bld h t n,v,_,d=>by rw [SV.den] at d⊢;exact d
 |.osl h t off n,v,_,d=>by rw [SV.den] at d⊢;exact d
 |.csl h t k i n,v,_,d=>by rw [SV.den] at d⊢;exact d
 |.mp h,v,_,d=>by rw [SV.den] at d⊢;exact d
 |.agg l,v,h,d=>by
  rw [SV.den] at d⊢;obtain ⟨vs,hv,hl⟩:=d;exact ⟨vs,hv,q4J (by simpa [SV.noI] using h) hl⟩
 |.tup l,v,h,d=>by
  rw [SV.den] at d⊢;obtain ⟨vs,hv,hl⟩:=d;exact ⟨vs,hv,q4J (by simpa [SV.noI] using h) hl⟩
 |.fn f l1 l2,v,h,d=>by
  rw [SV.den] at d⊢;obtain ⟨v1,v2,hv,h1,h2⟩:=d;simp [SV.noI] at h;exact ⟨v1,v2,hv,q4J h.1 h1,q4J h.2 h2⟩
 |.iface T x,v,h,d=>by
  rw [SV.den] at d⊢;obtain ⟨u,hv,h1⟩:=d;exact ⟨u,hv,z7r (by simpa [SV.noI] using h) h1⟩
theorem q4J{C:Cx}{I:Nat→Prop}:∀ {l:List SV} {vs:List Value},SV.noIL l=true→SV.denL C l vs→SV.denL {C with I:=I} l vs
 | [],_,_,h=>by rw [SV.denL] at h⊢;exact h
 |s :: l,_,hc,h=>by
  rw [SV.denL] at h⊢;obtain ⟨v,us,rfl,h1,h2⟩:=h;simp [SV.noIL] at hc;exact ⟨v,us,rfl,z7r hc.1 h1,q4J hc.2 h2⟩
end
def SObj.noI:SObj→Bool
 |.cells _ cs=>SV.noIL cs
 |.row t _=>t.flat
 |_=>true
theorem TabT.flat{C C':Cx}{H H':List SObj}(hf:(datList.all fun e=>e.2.1.flat)=true)(h:TabT C H)(e:C'.w=C.w)(ho:∀b,OwnB C' H' b→OwnB C H b):TabT C' H' where
 tab:=fun x hx=>by
  obtain ⟨h1,T,fz,h2⟩:=h.tab x hx;exact ⟨⟨by rw [e];exact h1.1,fun y=>h1.2 (ho _ y)⟩,T,fz,by rw [e];exact h2⟩
 dat:=fun x hx=>by
  obtain ⟨h1,us,h2,h3⟩:=h.dat x hx;refine ⟨⟨by rw [e];exact h1.1,fun y=>h1.2 (ho _ y)⟩,us,Ty.rel_flat _ _ _ (BI.1 hf x hx) h2,fun j u hu=> ?_⟩
  rw [e];exact h3 j u hu
theorem j4M{l:List IC}:∀x∈(l.map IT.ic),∃c,x= .ic c:=fun x hx=>by
 obtain ⟨c,_,rfl⟩:=Bu.1 hx;exact ⟨c,rfl⟩
theorem z9n{Ds:List Nat}{q:Bool}{G:List Nat}{l B N:Nat}{J:Nat→(Nat→Prop)→World→(Nat→Prop)→Prop}{vw:Nat→Nat→List SV→List SObj→Prop}{i:Nat}{T:List SObj}(T':List SObj){args:List SV}{d:Option Tmp}{k:List IT}{t:List SV}
 (hJ:FJ B J)(yg:YG P l B N J vw)(hi:i<N)(hh:∀n,∃args' new,vw i n args' new∧Hand n (.mark i :: T) (.mark i :: T') args args' new)
 (hk:∀b:Bool,(q=true→SameG G (.mark i :: T) (.mark (if b then i+1 else N+1+i) :: T'))∧ @SoundI (topG (yFG hJ) Ds) P AQ ⟨k0,k,putT t d (.raw (.bool b)),.mark (if b then i+1 else N+1+i) :: T'⟩): @YldR (topG (yFG hJ) Ds) P AQ q G l args d ⟨k0,k,t,.mark i :: T⟩:=z3j hJ yg hi hh hk
end Go.Sx
namespace Go.Sx
open Go

variable {P:Program} {AQ:Ex→List SV→List SObj→Prop} {k0:Nat}

def flatI:IC→List IC
 |.seq a b=>flatI a++flatI b
 |c=>[c]
theorem q7z:∀ {k1 k2:List IT} {l1 l2:List It},(∀x∈k1,∃c,x= .ic c)→RelT P k1 l1→RelT P k2 l2→RelT P (k1++k2) (l1++l2)
 | [],_,_,_,_,h,h2=>by cases h;exact h2
 |x :: k1,k2,l1,l2,hc,h,h2=>by
  obtain ⟨c,rfl⟩:=hc x (by simp)
  obtain ⟨c',r,rfl,h3,h4⟩:=h;exact ⟨c',r++l2,rfl,h3,q7z (fun x hx=>hc x (by simp [hx])) h4 h2⟩
theorem rel_flat:∀ (ic:IC) {c:Code},comp P c=some ic→RelT P ((flatI ic).map .ic) ((flatC c).map .code):=by
 intro ic;induction ic with
 |seq x y ihx ihy=>
  intro c h;obtain ⟨a,b,rfl,h1,h2⟩:=q0E h;simp only [flatI,flatC,Bk];exact q7z j4M (ihx h1) (ihy h2)
 |_=>
  intro c h;have hc:flatC c= [c]:=by
   cases c with
   |seq a b=>simp only [comp] at h;split at h<;>cases h
   |_=>rfl
  rw [hc];exact ⟨c,[],rfl,h,rfl⟩
end Go.Sx
namespace Go.Sx
open Go

variable {P:Program} {AQ:Ex→List SV→List SObj→Prop} {k0:Nat}

def mofP(P:Program)(T:TypeId)(nm:String):Option (FuncId×Nat):=match (P.info? T).bind fun i=>i.methods.find? (·.name==nm) with
 |some m=>match m.path.toList,m.func with
  | [s],some (g,true)=>if s.deref=true then none else match P.underlying s.struct with
   |some (.struct fs)=>match fs[s.index]? with
    |some y=>match P.underlying y.type,aggOf P y.type with
     |some (.pointer _),some none=>match P.underlying T with
      |some (.struct _)=>if enters P g=true then some (g,y.offset) else none
      |_=>none
     |_,_=>none
    |none=>none
   |_=>none
  |_,_=>none
 |none=>none
theorem j2a{T:TypeId}{nm:String}{g:FuncId}{off:Nat}(h:mofP P T nm=some (g,off)){C:Cx}{cs:List SV}{vs:List Value}{s:SV}(hd:SV.denL C cs vs)(hp:cs[off]?=some s)(w:World)(fuel:Nat):
 ∃v,(method (fuel+1) T (.agg vs.toArray) nm).run P w= .ok (g,v) w∧s.den C v∧enters P g=true∧∃fs,P.underlying T=some (.struct fs):=by
 unfold mofP at h;split at h
 · rename_i m hm;split at h
   · rename_i st g' hpath hfn;split at h
     · cases h
     rename_i hder;split at h
     · rename_i fs hu;split at h
       · rename_i y hy;split at h
         · rename_i el hpt hag;split at h
           · rename_i fs' hT;split at h
             · rename_i hen;cases h;obtain ⟨v,h1,h2⟩:=q5Z hag hd (off:=y.offset) (s:=s) (by simpa [pick] using hp) w
               rw [Bl] at hm;obtain ⟨ti,hti,hm⟩:=hm;refine ⟨v,?_,h2,hen,fs',hT⟩;have hder:st.deref=false:=by simpa using hder
               simp only [method,typeInfo,receiverAt,Place.get];simp [hti,hm,hpath,hfn,follow,run_underlying' hu,hy,hder,h1,run_underlying' hpt,Result.andThen]
             cases h
           cases h
         cases h
       cases h
     cases h
   cases h
 cases h

theorem z6h[Ghost]{o:Oper}{ev:Operand→SV}{H:List SObj}{K:Out→List SObj→Prop}{c:Call}{f:FuncId}{g x:Operand}{rest:List Operand}{T:TypeId}{nm:String}{off:Nat}{l:List SV}{s:SV}(hop:o.op= .call c)(hc:c.callee= .value g)(hg:ev g= .raw (.func (.methodOf T nm) #[] #[]))
 (ha:c.args.toList=x :: rest)(hx:ev x= .agg l)(hp:l[off]?=some s)(hm:mofP P T nm=some (f,off))(h:VCallG P f (s :: rest.map ev) H K):OpV P o ev H K:=by
 intro E C r n a next Q hw hgh hv h1 h2
 have h0:=hv g (by rw [hop];simp [Op.operands,Call.operands,hc])
 have hmem:∀y∈x :: rest,y∈o.op.operands:=fun y hy=>by
  rw [hop];simp [Op.operands,Call.operands];exact .inr (by rw [←Array.mem_toList_iff,ha];exact hy)
 have hx0:=hv x (hmem x (by simp))
 rw [hg,SV.den] at h0;rw [hx,SV.den] at hx0;obtain ⟨vs,hx0,hl⟩:=hx0;obtain ⟨v,hrun,hsv,hen,fs,hT⟩:=j2a hm hl hp C.w (P.types.size+Made.depth-1);have da:SV.denL C (rest.map ev) (rest.map a.eval):=q1L _ fun y hy=>hv y (hmem y (by simp [hy]))
 refine ⟨fun f _=>q4T r f,?_⟩;rw [Oper.semAt_eq _ _ _ (by rw [hop];intro c hc;cases hc)]
 have hargs:c.args.map a.eval=(.agg vs.toArray :: rest.map a.eval).toArray:=by
  rw [←Array.toList_inj];simp [ha,hx0]
 have hrun:(execOp a.eval o).run P C.w= .ok (.enter f (v :: rest.map a.eval).toArray) C.w:=by
  have hd:P.types.size+Made.depth=P.types.size+Made.depth-1+1:=by simp [Made.depth]
  rw [←hd] at hrun;simp [execOp,hop,resolve,hc,h0,Deferred.ofValue,invoke,hargs,run_underlying' hT,callMethod,hrun,q2F hen,Result.andThen];exact Ab (by simp)
 rw [hrun];refine ⟨(fun hd=>by cases hd),q3K ?_⟩
 refine (h E C _ hw hgh (q0b.2 ⟨_,_,rfl,hsv,da⟩)).mono ?_;rintro e w' ⟨out,H',C',hk,rfl,hw',hx,hd⟩;cases out with
 |ret s=>
  obtain ⟨v,rfl,hs⟩:=hd;exact h1 s v H' C' hk hw' hx hs
 |pan s=>
  obtain ⟨v,rfl,hs⟩:=hd;exact h2 s v H' C' hk hw' hx hs
theorem z3A{op:Op}{f:Operand}{args:List Operand}(h:compOp P op=some (.call f args)):∃c:Call,op= .call c∧c.callee= .value f∧c.args.toList=args:=by
 unfold compOp at h;repeat' split at h
 all_goals first
  |contradiction
  | (simp only [Option.some.injEq,IOp.call.injEq] at h;obtain ⟨rfl,rfl⟩:=h;exact ⟨_,rfl,by assumption,rfl⟩)
  | (simp only [Bl,Ar,Option.some.injEq,reduceCtorEq,and_false,exists_false] at h;done)
  | (simp [Bl] at h;done)
theorem z3l[Ghost]{f:FuncId}{g x:Operand}{rest:List Operand}{d:Option Tmp}{l:List OpI}{td:List IT}{T:TypeId}{nm:String}{off:Nat}{cs tm:List SV}{H:List SObj}{s:SV}(hg:evT tm g= .raw (.func (.methodOf T nm) #[] #[]))(hx:evT tm x= .agg cs)(hp:cs[off]?=some s)(hm:mofP P T nm=some (f,off))
 (h:CallI P AQ f (s :: rest.map (evT tm)) d ⟨k0,.ops l :: td,tm,H⟩):SoundI P AQ ⟨k0,.ops (⟨d,.call g (x :: rest),none⟩ :: l) :: td,tm,H⟩:=q0f (fun td' hr=>by
 obtain ⟨all,idx,r,rfl,ho,hr⟩:=hr;cases idx with
 |nil=>exact ho.elim
 |cons i idx=>
  obtain ⟨⟨o,ho1,ho2⟩,ho⟩:=ho;obtain ⟨hc,hd⟩:=q0x ho2;simp only at hc hd;obtain ⟨c,hop,hcal,ha⟩:=z3A hc;refine q6a (k0:=k0) (k:=r) ho1 ((q0o ho2).1 rfl) ?_;refine z6h hop hcal hg ha hx hp hm (h.2.mono fun out H' hK=> ?_);cases out with
  |ret s=>
   have hK':SoundI P AQ ⟨k0,.ops l :: td,putT tm d s,H'⟩:=hK;rw [hd] at hK';exact q0h hK' ⟨all,idx,r,rfl,ho,hr⟩
  |pan s=>exact hK) rfl
theorem j4R{g:FG}{f:FuncId}{args:List SV}{H:List SObj}{K:Out→List SObj→Prop}(h: @VCG (fgG g) P f args H K): @VCG (topG g []) P f args H K:=
 ⟨h.1,fun E C vs hw hg hv=>(h.2 E C vs hw ⟨hg.1,hg.2.1⟩ hv).mono fun _ _ ⟨o,H',C',k1,k2,k3,k4,k5⟩=>
  ⟨o,H',C',k1,k2,k3, @Stp.mk (topG g []) _ _ _ _ _ (@Stp.evo (fgG g) _ _ _ _ _ k4) (@Stp.ext (fgG g) _ _ _ _ _ k4) (fun hi=>
   have h9:= @Stp.inv (fgG g) _ _ _ _ _ k4 ⟨hi.1,hi.2.1⟩
   ⟨h9.1,h9.2,hi.2.2.1,fun D hD=>absurd hD (by simp)⟩),k5⟩⟩

theorem z0z:∀ (n t:Nat) (acc:Array Value),∃xs:List UInt8,xs.length=n∧Extern.BytealgMakeNoZero.digits n t acc=acc++(xs.map fun b=>Value.int .u8 b.toNat).toArray
 |0,_,acc=>⟨[],rfl,by simp [Extern.BytealgMakeNoZero.digits]⟩
 |n+1,t,acc=>by
  obtain ⟨xs,hl,h⟩:=z0z n (t / 256) (acc.push (.int .u8 (Int.ofNat (t%256))));refine ⟨UInt8.ofNat (t%256) :: xs,by simp [hl],?_⟩
  have h9:(UInt8.ofNat (t%256)).toNat=t%256:=by simp
  rw [Extern.BytealgMakeNoZero.digits,h,AL,h9];apply Array.ext';simp
theorem j2P(w:World)(ps:Array TypeId){t e:TypeId}(ht:P.underlying t=some (.slice e)){n:Nat}(hn:n≤140737488355328):
 ∃ (c:Nat) (xs rest:List UInt8),xs.length=n∧c=n+rest.length∧(Extern.BytealgMakeNoZero.makeNoZero ps #[t] #[.int .i64 n]).run P w= .ok (.slice (some ⟨w.heap.size,0,none⟩) n c) (w.drew.drew.alloc (.cells ((xs.map fun b=>Value.int .u8 b.toNat)++(rest.map fun b=>Value.int .u8 b.toNat)).toArray e)):=by
 have hdef:Extern.BytealgMakeNoZero.makeNoZero ps #[t] #[.int .i64 n]=
  (do
   let .slice elem←underlying t|stuck "bytealg.MakeNoZero: slice type expected"
   if (n:Int) <0|| (n:Int) >2^ 48 then runtimePanic (.error "makeslice: len out of range")
   let cap←choose (.appendCap (n:Int).toNat 0 elem)
   askRoom cap
   let bytes←choose (.extern "internal/bytealg.MakeNoZero.bytes" 0)
   let a←newRow elem (Extern.BytealgMakeNoZero.digits cap bytes #[])
   pure (.slice (some a) (n:Int).toNat cap)):=rfl
 have h1:¬(n:Int) <0:=by omega
 have h2:¬(281474976710656:Int) < (n:Int):=by omega
 obtain ⟨c,hc⟩:∃c,c=(Question.appendCap n 0 e).cut (w.tape w.drawn (.appendCap n 0 e)):=⟨_,rfl⟩;obtain ⟨xs,hl,hd⟩:=z0z c ((Question.extern "internal/bytealg.MakeNoZero.bytes" 0).cut (w.tape (w.drawn+1) (.extern "internal/bytealg.MakeNoZero.bytes" 0))) #[];have hge:n≤c:=by rw [hc];simp [Question.cut]
 refine ⟨c,xs.take n,xs.drop n,by rw [Aj];omega,by rw [Al];omega,?_⟩
 rw [hdef,←Bk,A0];have hd':Extern.BytealgMakeNoZero.digits c ((Question.extern "internal/bytealg.MakeNoZero.bytes" 0).cut (w.tape (w.drawn+1) (.extern "internal/bytealg.MakeNoZero.bytes" 0))) #[]=(xs.map fun b=>Value.int .u8 b.toNat).toArray:=by rw [hd];simp
 rw [←hd'];simp [run_underlying' ht,h1,h2,Question.forced,newRow,←hc]
theorem j3t[Ghost]{o:Oper}{ev:Operand→SV}{H:List SObj}{K:Out→List SObj→Prop}{c:Call}{f:FuncId}{g x:Operand}{ps:Array TypeId}{t e:TypeId}{fn:Func}{n:Nat}(hop:o.op= .call c)(hc:c.callee= .value g)(hg:ev g= .fn f [] [])(ha:c.args.toList= [x])(hx:ev x= .raw (.int .i64 n))
 (hf:P.funcs[f]?=some fn)(hname:(fn.name== "runtime.NumGoroutine")=false)(hb:fn.body.isNone=true)(hn:Extern.findNext fn=none)(he:Extern.find fn=some (Extern.BytealgMakeNoZero.makeNoZero ps #[t]))(ht:P.underlying t=some (.slice e))
 (hle:n≤140737488355328)(hk:∀xs:List UInt8,xs.length=n→K (.ret (.bld H.length .u8 n)) (H++ [.row .u8 xs])):OpV P o ev H K:=by
 refine q0I (by rw [hop];intro c hc;cases hc) fun C e' hw hv=> ?_
 have h0:=hv g (by rw [hop];simp [Op.operands,Call.operands,hc])
 have h1:=hv x (by rw [hop];simp [Op.operands,Call.operands];exact .inr (by rw [←Array.mem_toList_iff,ha];simp))
 rw [hg,SV.den] at h0;rw [hx,SV.den] at h1;obtain ⟨v1,v2,h0,d1,d2⟩:=h0;rw [q0u] at d1 d2;subst d1 d2;obtain ⟨cp,xs,rest,hl,hcp,hrun⟩:=j2P (P:=P) C.w ps ht hle;have hw2:Wd C.drew.drew H:=q2z (q2z hw);obtain ⟨q1,q2,q3⟩:=q3s (T:=e) (rest:=rest.map fun b=>Value.int .u8 b.toNat) hw2 (n:=n) (c:=cp) (q3R C.drew.drew.I C.drew.drew.w xs) hl.symm (by omega) (by simp [Ty.size,hl,hcp])
 refine ⟨_,_,_,_,hk xs hl,.inl ?_,q1,((q2a C H).trans (q2a C.drew H)).trans q2,q3⟩;have hargs:c.args.map e'= #[.int .i64 n]:=by
  rw [←Array.toList_inj];simp [ha,h1]
 simp [execOp,hop,resolve,hc,h0,Deferred.ofValue,invoke,hargs,run_callFunc_extern hf hname hb hn he,hrun,Result.andThen];exact ⟨rfl,rfl⟩
theorem j4t[Ghost]{f:FuncId}{x:Operand}{d:Option Tmp}{l:List OpI}{td:List IT}{ps:Array TypeId}{t e:TypeId}{fn:Func}{tm:List SV}{H:List SObj}{n:Nat}(hx:evT tm x= .raw (.int .i64 n))
 (hf:P.funcs[f]?=some fn)(hname:(fn.name== "runtime.NumGoroutine")=false)(hb:fn.body.isNone=true)(hn:Extern.findNext fn=none)(he:Extern.find fn=some (Extern.BytealgMakeNoZero.makeNoZero ps #[t]))(ht:P.underlying t=some (.slice e))
 (hle:n≤140737488355328)(h:∀xs:List UInt8,xs.length=n→SoundI P AQ ⟨k0,.ops l :: td,putT tm d (.bld H.length .u8 n),H++ [.row .u8 xs]⟩):SoundI P AQ ⟨k0,.ops (⟨d,.call (.func f) [x],none⟩ :: l) :: td,tm,H⟩:=q0f (fun td' hr=>by
 obtain ⟨all,idx,r,rfl,ho,hr⟩:=hr;cases idx with
 |nil=>exact ho.elim
 |cons i idx=>
  obtain ⟨⟨o,ho1,ho2⟩,ho⟩:=ho;obtain ⟨hc,hd⟩:=q0x ho2;simp only at hc hd;obtain ⟨c,hop,hcal,ha⟩:=z3A hc;refine q6a (k0:=k0) (k:=r) ho1 ((q0o ho2).1 rfl) ?_;refine j3t hop hcal rfl ha hx hf hname hb hn he ht hle fun xs hl=> ?_;have hK':=h xs hl;rw [hd] at hK'
  exact q0h hK' ⟨all,idx,r,rfl,ho,hr⟩) rfl
end Go.Sx
namespace Go.Proofs.YtikapabgggphpaaGreatDoor
open Go Go.Sx Go.Proofs
set_option maxRecDepth 100000
set_option maxHeartbeats 40000000
def modS(key iv:List UInt8):List SV:=[.iptr CipT (cipS key) 0,.isl .u8 iv]
theorem z6a(l:List UInt8)(hl:l.length≤140737488355328):VC Tryz.prog 63 [.isl .u8 l] [] (RowK .u8 l):=by
 refine q9g ?_;refine rQ fi63 ?_;intro b hb;refine ⟨fun h=>z9W (hb h),fun h=>⟨⟨by omega,by omega⟩,?_⟩⟩
 exact q5O (h:=1) rfl (by omega)
theorem q9v(key iv:List UInt8)(hk:key.length=16)(hi:iv.length=16):PC Tryz.prog 149 [.isl .u8 key,.isl .u8 iv] (.tup [.agg (modS key iv),rI 0]):=by
 have f1:(((iv.length:Nat):Int)=16)=True:=eq_true (by omega)
 have h1:=j4D key hk;unfold modS;generalize cipS key=cp at*;refine q0p rfl rfl ?_;refine ry1 fi149 f1 ?_;refine cQ h1 ?_;refine cQ (q1X iv (by omega)) ?_;trivial
theorem z2A(b:List UInt8)(h1:16≤b.length)(h2:b.length≤131072):PC Tryz.prog 150 [.isl .u8 b] (rI 0):=by
 have f1:(((b.length:Nat):Int) <16)=False:=eq_false (by omega)
 have f2:((131072:Int) < ((b.length:Nat):Int))=False:=eq_false (by omega)
 refine q0p rfl rfl ?_;refine ry2 fi150 f1 f2 ?_;trivial
theorem q7n(a b:List UInt8)(ha:a.length=16)(hb:b.length=16):PC Tryz.prog 158 [.isl .u8 a,.isl .u8 b] (.isl .u8 (xorS a b)):=by
 refine q0i rfl rfl ?_;refine rQ fi158 ?_;refine q3L (z6a a (by omega)) rfl rfl (fun h=>by rw [h] at ha;cases ha) ?_
 refine gQ ?_;refine q0d (ι:=Nat) (fun i=>[(11,rI i)]) (fun i=>[.row .u8 (gP a (fun j=>a.getD j 0^^^ b.getD j 0) i)]) (fun i=>16-i) (fun i=>i≤16) 0 (Ai _) (by rw [q5k _ ha];first|done|rfl) ?_ fun i hi=> ?_
 · with_reducible refine sxE ?_;trivial
 have hwr:=wsx i (by omega)
 have hgl:=q6z a (fun j=>a.getD j 0^^^ b.getD j 0) i;by_cases hlt:i<16
 · have f1:((i:Int) < ((16:Nat):Int))=True:=eq_true (by omega)
   refine uQ 600 _ ?_;have hgg:(gP a (fun j=>a.getD j 0^^^ b.getD j 0) i).getD i Ty.u8.dflt=a.getD i 0:=z2E _ _ hlt (Ag _);have hkk:b.getD i Ty.u8.dflt=b.getD i 0:=rfl;simp (maxSteps:=3000000) only [f1,hgl,ha,hb,Ay,Ac,hgg,hkk,xor8,Aq,AB,go_sem,↓zA,↓reduceIte,↓reduceDIte] <;>try simp only [zB]
   refine ⟨⟨by omega,hlt⟩,hlt,⟨by omega,hlt⟩,⟨by omega,hlt⟩,hlt,i+1,hlt,by show 16- (i+1) <16-i;omega,?_,?_⟩
   · dsimp only;rw [←q7K a (fun j=>a.getD j 0^^^ b.getD j 0) hlt]
   with_reducible refine sx1 hwr ?_;trivial
 obtain rfl:i=16:=by omega
 rw [q7U];refine uQ 600 _ ?_;have f1:(((16:Nat):Int) < ((a.length:Nat):Int))=False:=eq_false (by omega)
 simp (maxSteps:=3000000) only [f1,go_sem,↓zA,↓reduceIte,↓reduceDIte] <;>try simp only [zB]
 exact ⟨⟨by rw [ha,q1U];decide,by rw [q1U];decide⟩,Ab (by rw [q1U];omega)⟩
theorem z5y(key iv b:List UInt8)(hk:key.length=16)(hb:b.length=16):PC Tryz.prog 156 [.agg (modS key iv),.raw (.func (.methodOf 184 "Encrypt") #[] #[]),.isl .u8 b] (.isl .u8 (encS (wordsS key) b)):=by
 have h1:=z4i key b hk hb;unfold modS;generalize cipS key=cp at*;refine q0p rfl rfl ?_;refine q0Z fi156 ?_;refine uQ 10 _ ?_;with_reducible refine sxE ?_
 refine z3l (cs:=[.iptr CipT cp 0,.isl .u8 iv]) (s:=.iptr CipT cp 0) rfl rfl rfl (show mofP Tryz.prog 184 "Encrypt" =some (168,0) by kernel_rfl) ?_
 refine cQ h1 ?_;trivial
theorem q9N(key iv b:List UInt8)(hk:key.length=16)(hb:b.length=16):PC Tryz.prog 156 [.agg (modS key iv),.raw (.func (.methodOf 184 "Decrypt") #[] #[]),.isl .u8 b] (.isl .u8 (decS (wordsS key) b)):=by
 have h1:=z4f key b hk hb;unfold modS;generalize cipS key=cp at*;refine q0p rfl rfl ?_;refine q0Z fi156 ?_;refine uQ 10 _ ?_;with_reducible refine sxE ?_
 refine z3l (cs:=[.iptr CipT cp 0,.isl .u8 iv]) (s:=.iptr CipT cp 0) rfl rfl rfl (show mofP Tryz.prog 184 "Decrypt" =some (157,0) by kernel_rfl) ?_
 refine cQ h1 ?_;trivial
def blkC(p:List UInt8)(i:Nat):List UInt8:=((p.take (16*i+16)).drop (16*i))++List.replicate (16*i+16-p.length) 0
def nblk(n:Nat):Nat:=(n+15) / 16
theorem q3D(p:List UInt8){i:Nat}(hi:i<nblk p.length):(blkC p i).length=16:=by
 unfold nblk at hi;unfold blkC;rw [Ad,Al,Aj,Bv];omega
theorem q2C(p:List UInt8){i:Nat}(h:16*i+16≤p.length):blkC p i=(p.take (16*i+16)).drop (16*i):=by
 unfold blkC;rw [show 16*i+16-p.length=0 by omega,List.replicate_zero,Ah]
theorem q7j(p:List UInt8){i:Nat}(h:p.length<16*i+16)(h':16*i≤p.length):blkC p i=(p.take p.length).drop (16*i)++List.replicate (16- (p.length-16*i)) 0:=by
 unfold blkC;rw [Ab (CJ h),Ab (Ag _),show 16*i+16-p.length=16- (p.length-16*i) by omega]
abbrev cutF(p:List UInt8):SV:=.fn 169 [] [.iptr (.slice .u8) p 0]
theorem j0h(p:List UInt8)(hp:p.length≤1125899906842624):PC Tryz.prog 152 [.isl .u8 p] (cutF p):=by
 refine q0p rfl rfl ?_;refine q0Z fi152 ?_;refine uQ 4 _ ?_;with_reducible refine sxE ?_
 refine q2l 1 0 (ty:=.slice .u8) (x:=p) rfl ⟨hp,fun _ _=>trivial⟩ rfl rfl ?_;refine gQ ?_;trivial
def vwC(p:List UInt8):Nat→Nat→List SV→List SObj→Prop:=fun i _ args' new=>args'= [.isl .u8 (blkC p i)]∧new= []
theorem j3Q(p:List UInt8)(hp:p.length≤131072):Iter Tryz.prog 169 [] [.iptr (.slice .u8) p 0] (nblk p.length) (vwC p):=by
 refine ⟨by kernel_rfl,fun l B J hJ yg=> ?_⟩
 refine (q1z (yFG hJ) fi169 ?_).2
 letI:Ghost:=topG (yFG hJ) []
 refine gQ ?_;refine q8t [] (fun i=>i) (fun i=>[(3,rI ((16*i:Nat):Int))]) (nblk p.length) (fun _=>True) trivial rfl (by simp) (by simp [SV.bel]) ?_ fun i hi _=> ?_
 · with_reducible refine sxE ?_;trivial
 by_cases hlt:i<nblk p.length
 · have hn:nblk p.length=(p.length+15) / 16:=rfl;have f1:(((16*i:Nat):Int) < ((p.length:Nat):Int))=True:=eq_true (by omega)
   have e1:IntKind.i64.wrap (((16*i:Nat):Int)+16)=((16*i+16:Nat):Int):=by rw [wrapi (by omega)];omega
   have e3:((16* (i+1):Nat):Int)=((16*i+16:Nat):Int):=by omega
   by_cases hf:16*i+16≤p.length
   · have hb:=q2C p hf;have hbl:=q3D p hlt;have e2:mxV false ((16*i+16:Nat):Int) ((p.length:Nat):Int)=((16*i+16:Nat):Int):=by unfold mxV;simp;omega
     have f2:(((blkC p i).length:Int) <16)=False:=eq_false (by omega)
     refine uQ 600 _ ?_;simp (maxSteps:=3000000) only [f1,f2,e1,e2,←hb,Aq,go_sem,↓zA,↓reduceIte,↓reduceDIte] <;>try simp only [zB]
     refine ⟨⟨by omega,by omega,by omega,by omega⟩,q1W [] hJ yg hlt (fun n=>⟨_,_,⟨rfl,rfl⟩,q1e rfl⟩) fun c=> ?_⟩
     cases c
     · refine gQ ?_;exact ⟨_,_,rfl,rfl,by omega⟩
     refine uQ 600 _ ?_;simp (maxSteps:=3000000) only [e1,go_sem,↓zA,↓reduceIte,↓reduceDIte] <;>try simp only [zB]
     refine ⟨hlt,trivial,⟨[],rfl⟩,?_⟩;simp (maxSteps:=3000000) only [e3,go_sem,↓zA,↓reduceIte,↓reduceDIte] <;>try simp only [zB]
   have hb:=q7j p (i:=i) (by omega) (by omega)
   have hr:((p.take p.length).drop (16*i)).length=p.length-16*i:=by rw [Al,Aj];omega
   have e2:mxV false ((16*i+16:Nat):Int) ((p.length:Nat):Int)=((p.length:Nat):Int):=by unfold mxV;simp;omega
   generalize hrr:(p.take p.length).drop (16*i)=r at hb hr;have f2:((r.length:Int) <16)=True:=eq_true (by omega)
   have e4:IntKind.i64.wrap (16- (r.length:Int))=((16- (p.length-16*i):Nat):Int):=by rw [wrapi (by omega)];omega
   have e5:Ty.u8.dflt=(0:UInt8):=rfl;refine uQ 600 _ ?_;simp (maxSteps:=3000000) only [f1,f2,e1,e2,e4,e5,hrr,Aq,←hb,go_sem,↓zA,↓reduceIte,↓reduceDIte] <;>try simp only [zB]
   refine ⟨⟨by omega,by omega,Ag _⟩,⟨by omega,by omega,by omega⟩,q1W [] hJ yg hlt (fun n=>⟨_,_,⟨rfl,rfl⟩,q1e rfl⟩) fun c=> ?_⟩
   cases c
   · refine gQ ?_;exact ⟨_,_,rfl,rfl,by omega⟩
   refine uQ 600 _ ?_;simp (maxSteps:=3000000) only [e1,go_sem,↓zA,↓reduceIte,↓reduceDIte] <;>try simp only [zB]
   refine ⟨hlt,trivial,⟨[],rfl⟩,?_⟩;simp (maxSteps:=3000000) only [e3,go_sem,↓zA,↓reduceIte,↓reduceDIte] <;>try simp only [zB]
 obtain rfl:i=nblk p.length:=by omega
 have f1:(((16*nblk p.length:Nat):Int) < ((p.length:Nat):Int))=False:=eq_false (by unfold nblk;omega)
 refine gy1 f1 ?_;exact ⟨_,_,rfl,rfl,Ag _⟩
end Go.Proofs.YtikapabgggphpaaGreatDoor
