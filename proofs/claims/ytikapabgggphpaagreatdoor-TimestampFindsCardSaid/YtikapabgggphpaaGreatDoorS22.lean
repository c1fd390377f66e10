/- AES: the program's operations on a block: shifting and mixing. -/
import Derived.Test.YtikapabgggphpaaGreatDoorS21
set_option linter.all false
namespace Go.Proofs.YtikapabgggphpaaGreatDoor
open Go Go.Sx Go.Proofs
set_option maxRecDepth 100000
set_option maxHeartbeats 40000000
def shI(j:Nat):Nat:=(4* (j / 4+j%4)+j%4)%16
theorem z9k(c:Option CipT.den)(b k:List UInt8)(hb:b.length=16):PE Tryz.prog 187 [.rptr 0 PasT 0 0] [.row PasT [(c,(b,k))]] (.ret (.tup [])) [.row PasT [(c,(fS fun j=>b.getD (shI j) 0,k))]]:=by
 refine q0g (Ag _) ?_;refine rQ fi187 ?_;simp (maxSteps:=3000000) only [A3,hb,Ac,Ah,go_sem,↓zA,↓reduceIte,↓reduceDIte] <;>try simp only [zB]
 refine q0d (ι:=Nat) (fun i=>[(8,rI i)]) (fun i=>[.row PasT [(c,(gP b (fun j=>b.getD (shI j) 0) i,k))],.row .u8 b]) (fun i=>16-i) (fun i=>i≤16) 0 (Ai _) (by rw [q5k _ hb]) ?_ fun i hi=> ?_
 · with_reducible refine sxE ?_;trivial
 have hwr:=wsx i (by omega)
 have hgl:=q6z b (fun j=>b.getD (shI j) 0) i;by_cases hlt:i<16
 · have f1:((i:Int) <16)=True:=eq_true (by omega)
   refine gy1 f1 ?_;have hs:shI i<16:=CP _ (by decide)
   refine q0e (q7I i hlt) ?_;rw [show (4* (i / 4+i%4)+i%4)%16=shI i from rfl]
   refine uQ 600 _ ?_;simp (maxSteps:=3000000) only [hb,hgl,Ay,Ac,AB,go_sem,↓zA,↓reduceIte,↓reduceDIte] <;>try simp only [zB]
   refine ⟨⟨by omega,hs⟩,hs,⟨by omega,hlt⟩,hlt,i+1,hlt,by show 16- (i+1) <16-i;omega,?_,?_⟩
   · dsimp only;rw [←q7K b (fun j=>b.getD (shI j) 0) hlt];rfl
   with_reducible refine sx1 hwr ?_;trivial
 obtain rfl:i=16:=by omega
 rw [q7U];refine uQ 600 _ ?_;have f1:(((16:Nat):Int) <16)=False:=eq_false (by omega)
 simp (maxSteps:=3000000) only [f1,go_sem,↓zA,↓reduceIte,↓reduceDIte] <;>try simp only [zB]
def hP(b:List UInt8)(n:Nat):List UInt8:=(List.range 16).map fun j=>if srcU j<n then b.getD (srcU j) 0 else b.getD j 0
theorem z6j(b:List UInt8)(n:Nat):(hP b n).length=16:=by simp [hP]
theorem j1w{b:List UInt8}(hb:b.length=16):hP b 0=b:=by
 apply Au
 · rw [z6j,hb]
 intro j h1 h2;simp [hP,Aa,Ae h2]
theorem j2M:∀j:Fin 16,srcU j.val<16:=by decide
theorem z5x:∀j:Fin 16,srcU (shI j.val)=j.val∧shI (srcU j.val)=j.val:=by decide
theorem j4W(b:List UInt8):hP b 16=fS fun j=>b.getD (srcU j) 0:=by
 unfold hP fS;exact Bg fun i hi=>if_pos (j2M ⟨i,Bw.1 hi⟩)
theorem j4J(b:List UInt8){i:Nat}(hi:i<16):(hP b i).set (shI i) (b.getD i 0)=hP b (i+1):=by
 have h1:srcU (shI i)=i:=(z5x ⟨i,hi⟩).1;apply Au
 · simp [hP]
 intro j hj1 hj2;have hj:j<16:=by rw [z6j] at hj2;exact hj2
 rw [A4];simp only [hP,AC,Ax];split
 · subst_vars;rw [h1,if_pos (by omega)]
 rename_i hne;have hne2:srcU j≠i:=fun e=>hne (by rw [←e];exact (z5x ⟨j,hj⟩).2)
 by_cases h:srcU j<i
 · rw [if_pos h,if_pos (by omega)]
 rw [if_neg h,if_neg (by omega)]
theorem q7S(c:Option CipT.den)(b k:List UInt8)(hb:b.length=16):PE Tryz.prog 174 [.rptr 0 PasT 0 0] [.row PasT [(c,(b,k))]] (.ret (.tup [])) [.row PasT [(c,(fS fun j=>b.getD (srcU j) 0,k))]]:=by
 refine q0g (Ag _) ?_;refine rQ fi174 ?_;simp (maxSteps:=3000000) only [A3,hb,Ac,Ah,go_sem,↓zA,↓reduceIte,↓reduceDIte] <;>try simp only [zB]
 refine q0d (ι:=Nat) (fun i=>[(8,rI i)]) (fun i=>[.row PasT [(c,(hP b i,k))],.row .u8 b]) (fun i=>16-i) (fun i=>i≤16) 0 (Ai _) (by rw [j1w hb]) ?_ fun i hi=> ?_
 · with_reducible refine sxE ?_;trivial
 have hwr:=wsx i (by omega)
 have hgl:=z6j b i;by_cases hlt:i<16
 · have f1:((i:Int) <16)=True:=eq_true (by omega)
   have hs:shI i<16:=CP _ (by decide)
   refine gy3 f1 hb Ac ?_;refine ⟨⟨by omega,hlt⟩,hlt,q0e (q7I i hlt) ?_⟩
   rw [show (4* (i / 4+i%4)+i%4)%16=shI i from rfl]
   refine uQ 600 _ ?_;simp (maxSteps:=3000000) only [hb,hgl,Ay,Ac,AB,go_sem,↓zA,↓reduceIte,↓reduceDIte] <;>try simp only [zB]
   refine ⟨⟨by omega,hs⟩,hs,i+1,hlt,by show 16- (i+1) <16-i;omega,?_,?_⟩
   · dsimp only;rw [←j4J b hlt];rfl
   with_reducible refine sx1 hwr ?_;trivial
 obtain rfl:i=16:=by omega
 rw [j4W];refine uQ 600 _ ?_;have f1:(((16:Nat):Int) <16)=False:=eq_false (by omega)
 simp (maxSteps:=3000000) only [f1,go_sem,↓zA,↓reduceIte,↓reduceDIte] <;>try simp only [zB]
def mixB(b f:List UInt8)(c r:Nat):Nat→UInt8
 |0=>0
 |n+1=>mixB b f c r n^^^ mulS (f.getD n 0) (b.getD (4*c+ (r+n)%4) 0)
theorem j4e(b f:List UInt8)(c:Nat){r:Nat}(hr:r<4):mixB b f c r 4=mixA b f c r 4:=by
 rcases (show r=0∨r=1∨r=2∨r=3 by omega) with rfl|rfl|rfl|rfl<;>simp only [mixA,mixB,Nat.reduceAdd,Nat.reduceSub,Nat.reduceMod,AK,Ac] <;>ac_rfl
theorem j2b(f b:List UInt8)(c r:Nat)(hf:f.length=4)(hb:b.length=16)(hc:c<4)(hr:r<4):PE Tryz.prog 198 [rI c,rI r,.rptr 0 .u8 0 0,.rptr 1 .u8 0 0] [.row .u8 f,.row .u8 b] (.ret (.raw (.int .u8 (mixA b f c r 4).toNat))) [.row .u8 f,.row .u8 b]:=by
 refine q0g (Ag _) ?_;refine rQ fi198 ?_;simp (maxSteps:=3000000) only [A3,hf,Ac,Ah,go_sem,↓zA,↓reduceIte,↓reduceDIte] <;>try simp only [zB]
 rw [Ab (by omega)]
 refine q0d (ι:=Nat) (fun i=>[(10,rI i),(6,.raw (.int .u8 (mixB b f c r i).toNat))]) (fun _=>[.row .u8 f,.row .u8 b]) (fun i=>4-i) (fun i=>i≤4) 0 (Ai _) rfl ?_ fun i hi=> ?_
 · with_reducible refine sxE ?_
   rfl
 have hwr:=wsx i (by omega)
 by_cases hlt:i<4
 · have f1:((i:Int) <4)=True:=eq_true (by omega)
   have e1:IntKind.i64.wrap (4* (c:Int))=((4*c:Nat):Int):=by rw [wrapi (by omega)];omega
   have e2:IntKind.i64.wrap ((r:Int)+ (i:Int))=((r+i:Nat):Int):=by rw [wrapi (by omega)];omega
   have e3:(((r+i:Nat):Int)).tmod 4=(((r+i)%4:Nat):Int):=by
    rw [As (by omega)];omega
   have e4:IntKind.i64.wrap (((4*c:Nat):Int)+ (((r+i)%4:Nat):Int))=((4*c+ (r+i)%4:Nat):Int):=by rw [wrapi (by omega)];omega
   refine gy8 f1 e1 e2 e3 e4 hb hf Ac ?_;refine ⟨⟨by omega,hlt⟩,by decide,⟨by omega,by omega⟩,by omega,q0a (z9m _ _) ?_⟩
   refine gQ ?_;refine ⟨i+1,hlt,by show 4- (i+1) <4-i;omega,rfl,?_⟩
   simp (maxSteps:=3000000) only [hwr,xor8,go_sem,↓zA,↓reduceIte,↓reduceDIte] <;>try simp only [zB]
   rfl
 obtain rfl:i=4:=by omega
 rw [j4e _ _ _ hr];refine uQ 600 _ ?_;have f1:(((4:Nat):Int) <4)=False:=eq_false (by omega)
 simp (maxSteps:=3000000) only [f1,go_sem,↓zA,↓reduceIte,↓reduceDIte] <;>try simp only [zB]
theorem q6X(c:Option CipT.den)(b k f:List UInt8)(hb:b.length=16)(hf:f.length=4):PE Tryz.prog 189 [.rptr 0 PasT 0 0,.dat (.arr 4 .u8) f] [.row PasT [(c,(b,k))]] (.ret (.tup [])) [.row PasT [(c,(mixS b f,k))]]:=by
 refine q0g (Ag _) ?_;refine rQ fi189 ?_;simp (maxSteps:=3000000) only [A3,hb,hf,Ac,Ah,go_sem,↓zA,↓reduceIte,↓reduceDIte] <;>try simp only [zB]
 obtain ⟨g,hg⟩:∃g:Nat→UInt8,g=fun i=>mixA b f (i / 4) (i%4) 4:=⟨_,rfl⟩;refine q0d (ι:=Nat) (fun i=>[(12,rI i)]) (fun i=>[.row PasT [(c,(gP b g i,k))],.row .u8 f,.row .u8 b]) (fun i=>16-i) (fun i=>i≤16) 0 (Ai _) (by rw [q5k _ hb]) ?_ fun i hi=> ?_
 · with_reducible refine sxE ?_;trivial
 have hwr:=wsx i (by omega)
 have hgl:=q6z b g i;by_cases hlt:i<16
 · have f1:((i:Int) <16)=True:=eq_true (by omega)
   have e1:IntKind.i64.wrap ((i:Int).tdiv 4)=((i / 4:Nat):Int):=by
    rw [A8 (by omega),wrapi (by omega)];omega
   have e2:(i:Int).tmod 4=((i%4:Nat):Int):=by
    rw [As (by omega)];omega
   refine gy3 f1 e1 e2 ?_;refine ⟨by decide,by decide,q0K [1,2] (j2b f b (i / 4) (i%4) hf hb (by omega) (by omega)) rfl (by decide) (by repeat first|exact trivial|exact rfl|refine And.intro ?_ ?_) rfl rfl ?_ ?_⟩
   · simp only [mgA,sig,SObj.ren,SV.renL,List.set,List.map,Ah];with_reducible refine sxE ?_;trivial
   simp only [afterR,Out.ren,SV.ren,mgA,sig,SObj.ren,SV.renL,List.set,List.map,Ah];refine uQ 600 _ ?_;simp (maxSteps:=3000000) only [hgl,Ay,Aq,AB,go_sem,↓zA,↓reduceIte,↓reduceDIte] <;>try simp only [zB]
   refine ⟨⟨by omega,hlt⟩,hlt,i+1,hlt,by show 16- (i+1) <16-i;omega,?_,?_⟩
   · dsimp only;rw [←q7K b g hlt,hg]
   with_reducible refine sx1 hwr ?_;trivial
 obtain rfl:i=16:=by omega
 rw [q7U,hg];refine uQ 600 _ ?_;have f1:(((16:Nat):Int) <16)=False:=eq_false (by omega)
 simp (maxSteps:=3000000) only [f1,go_sem,↓zA,↓reduceIte,↓reduceDIte] <;>try simp only [zB]
 rfl
theorem z7A{P:Program}{f:FuncId}{a:SV}{t:Ty}{x:t.den}{H0 H1:List SObj}{o:Out}(h:PE P f [a,.dat t x] H0 o H1)(ho:t.ok x)(hkn:t.known=true:=by rfl):PE P f [a,.agg (t.cells x)] H0 o H1:=
 ⟨h.1,fun C vs hw ht hv=>h.2 C vs hw ht (by
  obtain ⟨v,vs',rfl,h1,h2⟩:=q0b.1 hv;obtain ⟨v2,vs2,rfl,h3,h4⟩:=q0b.1 h2;refine q0b.2 ⟨v,_,rfl,h1,q0b.2 ⟨v2,_,rfl,?_,h4⟩⟩;simp only [SV.den] at h3⊢;obtain ⟨us,rfl,hd⟩:=h3
  exact ⟨us,rfl,t.cells_rel _ _ hkn ho hd⟩)⟩
theorem j3L(c:Option CipT.den)(b k:List UInt8)(hb:b.length=16):PE Tryz.prog 188 [.rptr 0 PasT 0 0] [.row PasT [(c,(b,k))]] (.ret (.tup [])) [.row PasT [(c,(mixS b [2,3,1,1],k))]]:=by
 refine q0g (Ag _) ?_;refine rQ fi188 ?_;refine q0j [0] (z7A (t:=.arr 4 .u8) (x:=[2,3,1,1]) (q6X c b k [2,3,1,1] hb rfl) ⟨rfl,fun _ _=>trivial⟩) rfl (by decide) (by repeat first|exact trivial|exact rfl|refine And.intro ?_ ?_) rfl rfl ?_
 simp only [afterO,Out.ren,SV.ren,mgA,sig,SObj.ren,SV.renL,List.set,List.map,Ah];refine gQ ?_;trivial
theorem z8t(c:Option CipT.den)(b k:List UInt8)(hb:b.length=16):PE Tryz.prog 173 [.rptr 0 PasT 0 0] [.row PasT [(c,(b,k))]] (.ret (.tup [])) [.row PasT [(c,(mixS b [14,11,13,9],k))]]:=by
 refine q0g (Ag _) ?_;refine rQ fi173 ?_;refine q0j [0] (z7A (t:=.arr 4 .u8) (x:=[14,11,13,9]) (q6X c b k [14,11,13,9] hb rfl) ⟨rfl,fun _ _=>trivial⟩) rfl (by decide) (by repeat first|exact trivial|exact rfl|refine And.intro ?_ ?_) rfl rfl ?_
 simp only [afterO,Out.ren,SV.ren,mgA,sig,SObj.ren,SV.renL,List.set,List.map,Ah];refine gQ ?_;trivial
abbrev OpE(f:FuncId)(x y:PasT.den):Prop:=PE Tryz.prog f [.rptr 0 PasT 0 0] [.row PasT [x]] (.ret (.tup [])) [.row PasT [y]]
def opF(f:FuncId):SV:=.fn f [.rptr 0 PasT 0 0] []
theorem z6Z(f1:FuncId)(x0 x1:PasT.den)(h1:OpE f1 x0 x1):PE Tryz.prog 177 [.rptr 0 PasT 0 0,.csl 1 .u8 0 0 1] [.row PasT [x0],.cells 1 [opF f1]] (.ret (.tup [])) [.row PasT [x1],.cells 1 [opF f1]]:=by
 refine q0g (Ag _) ?_;unfold opF;refine rQ fi177 ?_;refine q0d (ι:=Nat) (fun i=>[(8,rI i)]) (fun i=>[.row PasT [if i=0 then x0 else x1],.cells 1 [opF f1]]) (fun i=>1-i) (fun i=>i≤1) 0 (Ai _) rfl ?_ fun i hi=> ?_
 · with_reducible refine sxE ?_;trivial
 unfold opF;rcases (show i=0∨i=1 by omega) with rfl|rfl
 · have g1:((0:Int) < ((1:Nat):Int))=True:=eq_true (by decide)
   have g2:(((0:Nat):Int) < ((1:Nat):Int))=True:=eq_true (by decide)
   refine gy2 g1 g2 ?_;refine q0j [0] h1 rfl (by decide) ?_ rfl rfl ?_
   · repeat first|exact trivial|exact rfl|refine And.intro ?_ ?_
   simp only [afterO,Out.ren,SV.ren,mgA,sig,SObj.ren,SV.renL,List.set,List.map,Ah];refine gQ ?_;refine ⟨1,by decide,by decide,rfl,?_⟩
   with_reducible refine sxE ?_
   rfl
 have g1:((1:Int) < ((1:Nat):Int))=False:=eq_false (by decide)
 have g2:(((1:Nat):Int) < ((1:Nat):Int))=False:=eq_false (by decide)
 refine gy2 g1 g2 ?_;trivial
theorem z5H(f1 f2 f3:FuncId)(x0 x1 x2 x3:PasT.den)(h1:OpE f1 x0 x1)(h2:OpE f2 x1 x2)(h3:OpE f3 x2 x3):PE Tryz.prog 177 [.rptr 0 PasT 0 0,.csl 1 .u8 0 0 3] [.row PasT [x0],.cells 1 [opF f1,opF f2,opF f3]] (.ret (.tup [])) [.row PasT [x3],.cells 1 [opF f1,opF f2,opF f3]]:=by
 refine q0g (Ag _) ?_;unfold opF;refine rQ fi177 ?_;refine q0d (ι:=Nat) (fun i=>[(8,rI i)]) (fun i=>[.row PasT [if i=0 then x0 else (if i=1 then x1 else (if i=2 then x2 else x3))],.cells 1 [opF f1,opF f2,opF f3]]) (fun i=>3-i) (fun i=>i≤3) 0 (Ai _) rfl ?_ fun i hi=> ?_
 · with_reducible refine sxE ?_;trivial
 unfold opF;rcases (show i=0∨i=1∨i=2∨i=3 by omega) with rfl|rfl|rfl|rfl
 · have g1:((0:Int) < ((3:Nat):Int))=True:=eq_true (by decide)
   have g2:(((0:Nat):Int) < ((3:Nat):Int))=True:=eq_true (by decide)
   refine gy2 g1 g2 ?_;refine q0j [0] h1 rfl (by decide) ?_ rfl rfl ?_
   · repeat first|exact trivial|exact rfl|refine And.intro ?_ ?_
   simp only [afterO,Out.ren,SV.ren,mgA,sig,SObj.ren,SV.renL,List.set,List.map,Ah];refine gQ ?_;refine ⟨1,by decide,by decide,rfl,?_⟩
   with_reducible refine sxE ?_
   rfl
 · have g1:((1:Int) < ((3:Nat):Int))=True:=eq_true (by decide)
   have g2:(((1:Nat):Int) < ((3:Nat):Int))=True:=eq_true (by decide)
   refine gy2 g1 g2 ?_;refine ⟨by decide,q0j [0] h2 rfl (by decide) ?_ rfl rfl ?_⟩
   · repeat first|exact trivial|exact rfl|refine And.intro ?_ ?_
   simp only [afterO,Out.ren,SV.ren,mgA,sig,SObj.ren,SV.renL,List.set,List.map,Ah];refine gQ ?_;refine ⟨2,by decide,by decide,rfl,?_⟩
   with_reducible refine sxE ?_
   rfl
 · have g1:((2:Int) < ((3:Nat):Int))=True:=eq_true (by decide)
   have g2:(((2:Nat):Int) < ((3:Nat):Int))=True:=eq_true (by decide)
   refine gy2 g1 g2 ?_;refine ⟨by decide,q0j [0] h3 rfl (by decide) ?_ rfl rfl ?_⟩
   · repeat first|exact trivial|exact rfl|refine And.intro ?_ ?_
   simp only [afterO,Out.ren,SV.ren,mgA,sig,SObj.ren,SV.renL,List.set,List.map,Ah];refine gQ ?_;refine ⟨3,by decide,by decide,rfl,?_⟩
   with_reducible refine sxE ?_
   rfl
 have g1:((3:Int) < ((3:Nat):Int))=False:=eq_false (by decide)
 have g2:(((3:Nat):Int) < ((3:Nat):Int))=False:=eq_false (by decide)
 refine gy2 g1 g2 ?_;trivial
theorem z6L(f1 f2 f3 f4:FuncId)(x0 x1 x2 x3 x4:PasT.den)(h1:OpE f1 x0 x1)(h2:OpE f2 x1 x2)(h3:OpE f3 x2 x3)(h4:OpE f4 x3 x4):PE Tryz.prog 177 [.rptr 0 PasT 0 0,.csl 1 .u8 0 0 4] [.row PasT [x0],.cells 1 [opF f1,opF f2,opF f3,opF f4]] (.ret (.tup [])) [.row PasT [x4],.cells 1 [opF f1,opF f2,opF f3,opF f4]]:=by
 refine q0g (Ag _) ?_;unfold opF;refine rQ fi177 ?_;refine q0d (ι:=Nat) (fun i=>[(8,rI i)]) (fun i=>[.row PasT [if i=0 then x0 else (if i=1 then x1 else (if i=2 then x2 else (if i=3 then x3 else x4)))],.cells 1 [opF f1,opF f2,opF f3,opF f4]]) (fun i=>4-i) (fun i=>i≤4) 0 (Ai _) rfl ?_ fun i hi=> ?_
 · with_reducible refine sxE ?_;trivial
 unfold opF;rcases (show i=0∨i=1∨i=2∨i=3∨i=4 by omega) with rfl|rfl|rfl|rfl|rfl
 · have g1:((0:Int) < ((4:Nat):Int))=True:=eq_true (by decide)
   have g2:(((0:Nat):Int) < ((4:Nat):Int))=True:=eq_true (by decide)
   refine gy2 g1 g2 ?_;refine q0j [0] h1 rfl (by decide) ?_ rfl rfl ?_
   · repeat first|exact trivial|exact rfl|refine And.intro ?_ ?_
   simp only [afterO,Out.ren,SV.ren,mgA,sig,SObj.ren,SV.renL,List.set,List.map,Ah];refine gQ ?_;refine ⟨1,by decide,by decide,rfl,?_⟩
   with_reducible refine sxE ?_
   rfl
 · have g1:((1:Int) < ((4:Nat):Int))=True:=eq_true (by decide)
   have g2:(((1:Nat):Int) < ((4:Nat):Int))=True:=eq_true (by decide)
   refine gy2 g1 g2 ?_;refine ⟨by decide,q0j [0] h2 rfl (by decide) ?_ rfl rfl ?_⟩
   · repeat first|exact trivial|exact rfl|refine And.intro ?_ ?_
   simp only [afterO,Out.ren,SV.ren,mgA,sig,SObj.ren,SV.renL,List.set,List.map,Ah];refine gQ ?_;refine ⟨2,by decide,by decide,rfl,?_⟩
   with_reducible refine sxE ?_
   rfl
 · have g1:((2:Int) < ((4:Nat):Int))=True:=eq_true (by decide)
   have g2:(((2:Nat):Int) < ((4:Nat):Int))=True:=eq_true (by decide)
   refine gy2 g1 g2 ?_;refine ⟨by decide,q0j [0] h3 rfl (by decide) ?_ rfl rfl ?_⟩
   · repeat first|exact trivial|exact rfl|refine And.intro ?_ ?_
   simp only [afterO,Out.ren,SV.ren,mgA,sig,SObj.ren,SV.renL,List.set,List.map,Ah];refine gQ ?_;refine ⟨3,by decide,by decide,rfl,?_⟩
   with_reducible refine sxE ?_
   rfl
 · have g1:((3:Int) < ((4:Nat):Int))=True:=eq_true (by decide)
   have g2:(((3:Nat):Int) < ((4:Nat):Int))=True:=eq_true (by decide)
   refine gy2 g1 g2 ?_;refine ⟨by decide,q0j [0] h4 rfl (by decide) ?_ rfl rfl ?_⟩
   · repeat first|exact trivial|exact rfl|refine And.intro ?_ ?_
   simp only [afterO,Out.ren,SV.ren,mgA,sig,SObj.ren,SV.renL,List.set,List.map,Ah];refine gQ ?_;refine ⟨4,by decide,by decide,rfl,?_⟩
   with_reducible refine sxE ?_
   rfl
 have g1:((4:Int) < ((4:Nat):Int))=False:=eq_false (by decide)
 have g2:(((4:Nat):Int) < ((4:Nat):Int))=False:=eq_false (by decide)
 refine gy2 g1 g2 ?_;trivial
def tP(g:Nat→UInt8)(n:Nat):List UInt8:=(List.range 256).map fun j=>if j<n then g j else 0
def fwS:List UInt8:=(List.range 256).map fun j=>subS (UInt8.ofNat j)
theorem j4g(g:Nat→UInt8)(n:Nat):(tP g n).length=256:=by simp [tP]
theorem j0O(g:Nat→UInt8):tP g 0=List.replicate 256 0:=by
 unfold tP;rw [BH];refine ⟨by rw [A1,Be],fun x hx=> ?_⟩
 obtain ⟨j,_,rfl⟩:=Bu.1 hx;exact if_neg (Bp _)
theorem j4T(g:Nat→UInt8):tP g 256=(List.range 256).map g:=by
 unfold tP;exact Bg fun i hi=>if_pos (Bw.1 hi)
theorem j3B(g:Nat→UInt8){i:Nat}(_hi:i<256):(tP g i).set i (g i)=tP g (i+1):=by
 apply Au
 · simp [tP]
 intro j h1 h2;rw [A4];simp only [tP,AC,Ax];split
 · subst_vars;rw [if_pos (by omega)]
 rename_i hne;by_cases hj:j<i
 · rw [if_pos hj,if_pos (by omega)]
 rw [if_neg hj,if_neg (by omega)]
theorem j3b(r:List UInt8×Bool):PE Tryz.prog 184 [.rptr 0 CipT 0 0] [.row CipT [((List.replicate 256 0,List.replicate 256 0),r)]] (.ret (.tup [])) [.row CipT [((fwS,invP 256),r)]]:=by
 refine q0g (Ag _) ?_;refine rQ fi184 ?_;obtain ⟨g,hg⟩:∃g:Nat→UInt8,g=fun j=>subS (UInt8.ofNat j):=⟨_,rfl⟩;obtain ⟨R,hR⟩:∃R:List UInt8,R=fwS:=⟨_,rfl⟩;obtain ⟨V,hV⟩:∃V:List UInt8,V=invP 256:=⟨_,rfl⟩;rw [←hR,←hV];refine q0d (ι:=Nat) (fun i=>[(3,rI i)]) (fun i=>[.row CipT [((tP g i,invP i),r)]]) (fun i=>256-i) (fun i=>i≤256) 0 (Ai _) (by rw [j0O];rfl) ?_ fun i hi=> ?_
 · with_reducible refine sxE ?_;trivial
 have hwr:=wsx i (by omega)
 have hgl:=j4g g i;have hil:=q8T i;by_cases hlt:i<256
 · have f1:((i:Int) <256)=True:=eq_true (by omega)
   refine uQ 600 _ ?_;have hn:(UInt8.ofNat i).toNat=i:=by rw [Bx];omega
   have hu:IntKind.u8.wrap (i:Int)=(i:Int):=by rw [u8wrapR];omega
   have key:∀M:List UInt8,M=dat_ref06_substitutes→M.getD i 0=g i:=fun M hM=>by rw [hM,hg];show _=subS (UInt8.ofNat i);rw [subS,hn]
   with_reducible refine sy6 f1 hgl hil Ay hu hu ?_
   rw [key]
   case a=>rfl
   have hb:=(g i).toNat_lt;refine ⟨⟨by omega,hlt⟩,⟨by omega,hlt⟩,⟨by rw [AB],hlt⟩,⟨by omega,hlt⟩,⟨by omega,hb⟩,⟨by rw [hn],hb⟩,i+1,hlt,by show 256- (i+1) <256-i;omega,?_,?_⟩
   · dsimp only;rw [←j3B g hlt,UInt8.ofNat_toNat,invP,hg]
   with_reducible refine sx1 hwr ?_;trivial
 obtain rfl:i=256:=by omega
 refine uQ 600 _ ?_;have f1:(((256:Nat):Int) <256)=False:=eq_false (by omega)
 simp (maxSteps:=3000000) only [f1,go_sem,↓zA,↓reduceIte,↓reduceDIte] <;>try simp only [zB]
 rw [j4T,hR,hV,hg];rfl
def wZ(w:List UInt8)(i:Nat):List UInt8:=(List.range 176).map fun j=>if j<i then w.getD j 0 else 0
theorem q3W(w:List UInt8)(i:Nat):(wZ w i).length=176:=by simp [wZ]
theorem j2i(w:List UInt8):wZ w 0=List.replicate 176 0:=by
 unfold wZ;rw [BH];refine ⟨by rw [A1,Be],fun x hx=> ?_⟩
 obtain ⟨j,_,rfl⟩:=Bu.1 hx;exact if_neg (Bp _)
theorem j3z{w:List UInt8}(hw:w.length=176):wZ w 176=w:=by
 apply Au
 · rw [q3W,hw]
 intro j h1 h2;simp only [wZ,AC,Ax];rw [if_pos (by omega),Aa,Ae h2,A3]
theorem z4K(w:List UInt8){i j:Nat}(hj:j<i)(hi:i≤176):(wZ w i).getD j 0=w.getD j 0:=by
 simp only [wZ,Aa,AG];rw [BU (by omega),BL,A3,if_pos hj]
theorem j0H(w:List UInt8){i:Nat}(_hi:i<176):(wZ w i).set i (w.getD i 0)=wZ w (i+1):=by
 apply Au
 · simp [wZ]
 intro j h1 h2;rw [A4];simp only [wZ,AC,Ax];split
 · subst_vars;rw [if_pos (by omega)]
 rename_i hne;by_cases hj:j<i
 · rw [if_pos hj,if_pos (by omega)]
 rw [if_neg hj,if_neg (by omega)]
theorem z5Z(key:List UInt8)(hk:key.length=16){n m:Nat}(h:n≤m){j:Nat}(hj:j<16+4*n):(wkS key m).1.getD j 0=(wkS key n).1.getD j 0:=by
 obtain ⟨d,rfl⟩:=Nat.le.dest h;induction d with
 |zero=>rfl
 |succ d ih=>
  rw [←ih (by omega)]
  show (wkS key (n+d+1)).1.getD j 0=_;rw [wkS];simp only [addL,Aa];rw [Ak (by rw [q9q key hk];omega)]
def facS(key:List UInt8)(i:Nat):UInt8:=(wkS key (i-4)).2
theorem z2U(key:List UInt8){i:Nat}(hi:4≤i):facS key (i+1)=if i%4=0 then dblS (facS key i) else facS key i:=by
 unfold facS;obtain ⟨n,rfl⟩:=Nat.le.dest hi;rw [show 4+n+1-4=n+1 by omega,show 4+n-4=n by omega,wkS,show n+4=4+n by omega]
theorem z5h(key:List UInt8){i:Nat}(hi:i≤4):facS key i=1:=by
 unfold facS;rw [show i-4=0 by omega,wkS]
theorem z5D(key:List UInt8)(hk:key.length=16){j:Nat}(hj:j<16):(wordsS key).getD j 0=key.getD j 0:=
 z5Z key hk (Ai 40) hj
theorem z0g(key:List UInt8)(hk:key.length=16){i j:Nat}(h4:4≤i)(hi:i<44)(hj:j<4):
 (wordsS key).getD (4*i+j) 0=(wordsS key).getD (4* (i-4)+j) 0^^^ (lastS (wordsS key) (facS key i) i).getD j 0:=by
 obtain ⟨n,rfl⟩:=Nat.le.dest h4;have hl:=q9q key hk n;have g:∀k,k<16+4*n→(wordsS key).getD k 0=(wkS key n).1.getD k 0:=fun k h=>z5Z key hk (show n≤40 by omega) h
 have hla:lastS (wordsS key) (facS key (4+n)) (4+n)=lastS (wkS key n).1 (wkS key n).2 (n+4):=by
  unfold lastS facS;rw [show 4+n=n+4 by omega,show n+4-4=n by omega]
  rw [g (4* (n+4) -1) (by omega),g (4* (n+4) -2) (by omega),g (4* (n+4) -3) (by omega),g (4* (n+4) -4) (by omega)]
 rw [hla,g (4* (4+n-4)+j) (by omega)]
 unfold wordsS;rw [z5Z key hk (show n+1≤40 by omega) (show 4* (4+n)+j<16+4* (n+1) by omega),wkS]
 simp only [addL,Aa];rw [Ao (by omega),AG,BU (by omega)]
 simp only [BL,A3];rw [hl,show 4* (4+n)+j- (16+4*n)=j by omega,show 4* (n+4) -16+j=4* (4+n-4)+j by omega]
theorem leK{σ:Nat→Nat}{k0:Nat}{t t':List SV}{H H':List SObj}(hf:fixK σ k0=true)(hl:k0≤H'.length)(hm:∀n,H[0]?≠some (.mark n))(h1:leT σ t t')(h2:leH σ H 0 H')(h3:SV.belL H'.length t'=true)(h4:belH H'.length H'=true)(h5:injH σ 0 H' []=true):∃σ,Le σ k0 t H t' H':=
 ⟨σ,h1,h2,h3,h4,h5,hf,hl,fun n _ h=>absurd h (hm n)⟩
theorem rndK{ι:Type}{k0:Nat}{S:ι→List SV×List SObj}{μ:ι→Nat}{p:ι→Prop}{i:ι}{t':List SV}{H':List SObj}(σ:Nat→Nat)(j:ι)(hj:p j)(hf:fixK σ k0=true)(hl':k0≤(S j).2.length)(hm:∀n,H'[0]?≠some (.mark n))(hl:μ j<μ i)(h1:leT σ t' (S j).1)(h2:leH σ H' 0 (S j).2)(h3:SV.belL (S j).2.length (S j).1=true)(h4:belH (S j).2.length (S j).2=true)(h5:injH σ 0 (S j).2 []=true):RoundK k0 S μ p i t' H':=
 ⟨j,hj,hl,σ,h1,h2,h3,h4,h5,hf,hl',fun n _ h=>absurd h (hm n)⟩
theorem z2v{C:Cx}{ty:Ty}{xs:List ty.den}:∀ {t:List SV} {vs:List Value} {slot:Nat},t[slot]?=some (.fsl ty xs)→SV.denL C t vs→SV.denL C (t.set slot (.isl ty xs)) vs
 | [],_,_,h,_=>by cases h
 |s :: l,_,0,h,d=>by
  obtain ⟨v,us,rfl,h1,h2⟩:=q0b.1 d;obtain rfl:s= .fsl ty xs:=Option.some.inj h;rw [SV.den] at h1;refine q0b.2 ⟨v,us,rfl,?_,h2⟩;rw [SV.den];exact h1.1
 |s :: l,_,n+1,h,d=>by
  obtain ⟨v,us,rfl,h1,h2⟩:=q0b.1 d;exact q0b.2 ⟨v,us,rfl,h1,z2v h h2⟩
theorem z0I[Ghost]{P:Program}{AQ:Ex→List SV→List SObj→Prop}{k0:Nat}{td:List IT}{t:List SV}{H:List SObj}{ty:Ty}{xs:List ty.den}(slot:Nat)(hp:plainT td=true)(ht:t[slot]?=some (.fsl ty xs))(hs:SoundI P AQ ⟨k0,td,t.set slot (.isl ty xs),H⟩):SoundI P AQ ⟨k0,td,t,H⟩:=
 q0f (fun _ hr E r n C a h0 hd=>q0h hs hr E r n C a h0 ⟨hd.wd,hd.ext,hd.defs,z2v ht hd.tmps⟩) hp
def kpS(w z:List UInt8)(n:Nat):List UInt8:=(List.range 176).map fun j=>if j<n then w.getD j 0 else z.getD j 0
theorem q5n(w z:List UInt8)(n:Nat):(kpS w z n).length=176:=by simp [kpS]
theorem z9y(w:List UInt8){z:List UInt8}(hz:z.length=176):kpS w z 0=z:=by
 apply Au
 · rw [q5n,hz]
 intro j h1 h2;simp only [kpS,AC,Ax];rw [if_neg (Bp _),Aa,Ae h2,A3]
theorem j2j{w:List UInt8}(z:List UInt8)(hw:w.length=176):kpS w z 176=w:=by
 apply Au
 · rw [q5n,hw]
 intro j h1 h2;simp only [kpS,AC,Ax];rw [if_pos (by omega),Aa,Ae h2,A3]
theorem z2d(c:CipT.den)(x:UInt8)(_hl:(c.1.1:List UInt8).length=256):PE Tryz.prog 196 [.rptr 0 CipT 0 0,.raw (.int .u8 x.toNat)] [.row CipT [c]] (.ret (.raw (.int .u8 ((c.1.1:List UInt8).getD x.toNat 0).toNat))) [.row CipT [c]]:=by
 refine q0g (Ag _) ?_;refine rQ fi196 ?_;have hx:=x.toNat_lt;refine ⟨⟨by omega,hx⟩,by omega,?_⟩
 rw [Ay];rfl
theorem j3S{w q:List UInt8}{i:Nat}(hi:i<44)(hq:q.length=4)(h:∀j,j<4→q.getD j 0=w.getD (4*i+j) 0):(wZ w (4*i)).take (0+i*4)++q++(wZ w (4*i)).drop (0+i*4+q.length)=wZ w (4* (i+1)):=by
 have hl:=q3W w (4*i);apply Au
 · simp only [Ad,Aj,Al,q3W,hq];omega
 intro j h1 h2;have h2':j<176:=by rw [q3W] at h2;exact h2
 have hr:(wZ w (4* (i+1)))[j]=if j<4* (i+1) then w.getD j 0 else 0:=by simp [wZ]
 refine Eq.trans ?_ hr.symm;by_cases c1:j<4*i
 · rw [AP (by simp only [Ad,Aj,hl,hq];omega),AP (by simp only [Aj,hl];omega),List.getElem_take,if_pos (by omega)]
   simp only [wZ,AC,Ax];rw [if_pos c1]
 by_cases c2:j<4* (i+1)
 · rw [AP (by simp only [Ad,Aj,hl,hq];omega),Bh (by simp only [Aj,hl];omega),if_pos c2]
   have hjj:=h (j-4*i) (by omega)
   rw [show 4*i+ (j-4*i)=j by omega] at hjj
   rw [←hjj,Aa,Ae (by omega),A3]
   congr 1;simp only [Aj,hl];omega
 rw [Bh (by simp only [Ad,Aj,hl,hq];omega),CG,if_neg c2]
 simp only [wZ,AC,Ax,Ad,Aj,A1,Be,hq];rw [if_neg (by omega)]
theorem j1F{w z q:List UInt8}{i:Nat}(hi:i<44)(hq:q.length=4)(h:∀j,j<4→q.getD j 0=w.getD (4*i+j) 0):(kpS w z (4*i)).take (4*i)++q++(kpS w z (4*i)).drop (4*i+4)=kpS w z (4* (i+1)):=by
 have hl:=q5n w z (4*i);apply Au
 · simp only [Ad,Aj,Al,q5n,hq];omega
 intro j h1 h2;have h2':j<176:=by rw [q5n] at h2;exact h2
 have hr:(kpS w z (4* (i+1)))[j]=if j<4* (i+1) then w.getD j 0 else z.getD j 0:=by simp [kpS]
 refine Eq.trans ?_ hr.symm;by_cases c1:j<4*i
 · rw [AP (by simp only [Ad,Aj,hl,hq];omega),AP (by simp only [Aj,hl];omega),List.getElem_take,if_pos (by omega)]
   simp only [kpS,AC,Ax];rw [if_pos c1]
 by_cases c2:j<4* (i+1)
 · rw [AP (by simp only [Ad,Aj,hl,hq];omega),Bh (by simp only [Aj,hl];omega),if_pos c2]
   have hjj:=h (j-4*i) (by omega)
   rw [show 4*i+ (j-4*i)=j by omega] at hjj
   rw [←hjj,Aa,Ae (by omega),A3]
   congr 1;simp only [Aj,hl];omega
 rw [Bh (by simp only [Ad,Aj,hl,hq];omega),CG,if_neg c2]
 simp only [kpS,AC,Ax,Ad,Aj,A1,Be,hq];rw [if_neg (by omega),show 4*i+4+ (j- (min (4*i) 176+4))=j by omega]
theorem z4X{w:List UInt8}{i:Nat}(hi:i<44)(h4:4≤i):List.take 4 (List.drop (0+ (i-1)*4) (wZ w (4*i)))= [w.getD (4*i-4) 0,w.getD (4*i-3) 0,w.getD (4*i-2) 0,w.getD (4*i-1) 0]:=by
 have hl:(List.take 4 (List.drop (0+ (i-1)*4) (wZ w (4*i)))).length=4:=by simp only [Aj,Al,q3W];omega
 have hg:∀j,j<4→(List.take 4 (List.drop (0+ (i-1)*4) (wZ w (4*i)))).getD j 0=w.getD (4*i-4+j) 0:=fun j hj=>by
  simp only [Aa];rw [A6 hj,AD,show 0+ (i-1)*4+j=4*i-4+j by omega]
  have:=z4K w (i:=4*i) (j:=4*i-4+j) (by omega) (by omega)
  simp only [Aa] at this;exact this
 apply Au
 · rw [hl];rfl
 intro j h1 h2;rw [hl] at h1;have h3:=hg j h1;rw [Aa,Ae (by omega),A3] at h3
 rw [h3];rcases (show j=0∨j=1∨j=2∨j=3 by omega) with rfl|rfl|rfl|rfl
 · rfl
 · show w.getD (4*i-4+1) 0=w.getD (4*i-3) 0;rw [show 4*i-4+1=4*i-3 by omega]
 · show w.getD (4*i-4+2) 0=w.getD (4*i-2) 0;rw [show 4*i-4+2=4*i-2 by omega]
 show w.getD (4*i-4+3) 0=w.getD (4*i-1) 0;rw [show 4*i-4+3=4*i-1 by omega]
theorem z4L(key fw inv z:List UInt8)(b:Bool)(hk:key.length=16)(hf:∀c:UInt8,fw.getD c.toNat 0=subS c)(hfl:fw.length=256)(hz:z.length=176):PE Tryz.prog 185 [.rptr 0 CipT 0 0,.isl .u8 key] [.row CipT [((fw,inv),(z,b))]] (.ret (.tup [])) [.row CipT [((fw,inv),(wordsS key,b))]]:=by
 obtain ⟨w,hw⟩:∃w,w=wordsS key:=⟨_,rfl⟩;rw [←hw];have hwl:w.length=176:=by rw [hw];exact q2Q key hk
 have hR:List.replicate 176 Ty.u8.dflt=wZ w 0:=(j2i w).symm;refine q0g (Ag _) ?_;refine q0Z fi185 (q0r mixed 600 _ ?_);simp (maxSteps:=3000000) only [ir185,↓hR,go_sem,↓zA,↓reduceIte,↓reduceDIte] <;>try simp only [zB]
 have hl0:=q3W w 0;refine ⟨by omega,?_⟩
 refine q3e (ι:=Nat) [] (fun i=>[(12,rI i),(5,.raw (.int .u8 (facS key i).toNat))]) (fun i=>[.row CipT [((fw,inv),(z,b))],.row .u8 (wZ w (4*i))]) (fun i=>44-i) (fun i=>i≤44) 0 (Ai _) (leK (σ:=fun h=>h) rfl (Co 1 _) (fun n h=>by cases h) ?_ ?_ ?_ ?_ ?_) ?_
 · with_reducible refine sxE ?_
   rfl
 · refine ⟨rfl,congrArg (fun x=>some (SObj.row .u8 x)) ?_,trivial⟩;rw [List.drop_of_length_le (by rw [q3W];exact Ag 176),Ah]
   exact hR
 · kernel_rfl
 · kernel_rfl
 · kernel_rfl
 intro i hi;have hl:=q3W w (4*i);have hwr:=wsx i (by omega)
 have e1:IntKind.i64.wrap (4* (i:Int))=((4*i:Nat):Int):=by rw [wrapi (by omega)];omega
 by_cases hlt:i<44
 · have f1:((i:Int) <44)=True:=eq_true (by omega)
   by_cases h4:i<4
   · have f2:((i:Int) <4)=True:=eq_true (by omega)
     have e2:IntKind.i64.wrap (((4*i:Nat):Int)+4)=((4*i+4:Nat):Int):=by rw [wrapi (by omega)];omega
     refine uQ 34 _ ?_;with_reducible refine sy6 f1 f2 hl hk e1 e2 ?_
     refine ⟨by omega,z0I 27 rfl rfl ?_⟩
     have hq4:(List.take 4 (List.drop (4*i) (List.take (4*i+4) key))).length=4:=by simp only [Aj,Al,hk];omega
     refine gy2 hk hl ?_;refine ⟨by simp only [Aj,Al,hk];omega,⟨by omega,hlt⟩,by omega,?_⟩
     refine rndK (fun h=>h) (i+1) (by omega) rfl (Co 1 _) (fun n h=>by cases h) (by show 44- (i+1) <44-i;omega) ?_ ?_ ?_ ?_ ?_
     · with_reducible refine sx1 hwr ?_
       rw [z5h key (by omega),z5h key (by omega)]
     · refine ⟨rfl,congrArg (fun x=>some (SObj.row .u8 x)) (j3S hlt hq4 fun j hj=> ?_),trivial⟩;rw [hw,z5D key hk (by omega)]
       simp only [Aa];rw [A6 hj,AD,A6 (by omega)]
     · kernel_rfl
     · kernel_rfl
     kernel_rfl
   have f2:((i:Int) <4)=False:=eq_false (by omega)
   have h4':4≤i:=by omega
   have e3:IntKind.i64.wrap ((i:Int) -1)=((i-1:Nat):Int):=by rw [wrapi (by omega)];omega
   have e4:(i:Int).tmod 4=((i%4:Nat):Int):=by rw [As (by omega)];rfl
   have e5:IntKind.i64.wrap ((i%4:Nat):Int)=((i%4:Nat):Int):=wrapi (by omega)
   by_cases h0:i%4=0
   · have f3:(((i%4:Nat):Int)=0)=True:=eq_true (by omega)
     have hq:=z4X (w:=w) hlt h4';refine uQ 40 _ ?_;simp (maxSteps:=3000000) only [f1,f2,f3,hl,hk,e1,e3,e4,e5,hq,go_sem,↓zA,↓reduceIte,↓reduceDIte] <;>try simp only [zB]
     refine ⟨⟨by omega,by omega⟩,by omega,by decide,?_⟩
     obtain ⟨x0,hx0⟩:∃x,x=w.getD (4*i-4) 0:=⟨_,rfl⟩;obtain ⟨x1,hx1⟩:∃x,x=w.getD (4*i-3) 0:=⟨_,rfl⟩;obtain ⟨x2,hx2⟩:∃x,x=w.getD (4*i-2) 0:=⟨_,rfl⟩;obtain ⟨x3,hx3⟩:∃x,x=w.getD (4*i-1) 0:=⟨_,rfl⟩;rw [←hx0,←hx1,←hx2,←hx3];have rep:∀x:UInt8,PE Tryz.prog 196 [.rptr 0 CipT 0 0,.raw (.int .u8 x.toNat)] [.row CipT [((fw,inv),(z,b))]] (.ret (.raw (.int .u8 (subS x).toNat))) [.row CipT [((fw,inv),(z,b))]]:=fun x=>by
      have h:=z2d ((fw,inv),(z,b)) x hfl;rw [hf x] at h;exact h
     refine gQ ?_;refine q0K [0] (rep x1) rfl (by decide) (by repeat first|exact trivial|exact rfl|refine And.intro ?_ ?_) rfl rfl ?_ ?_
     · simp (maxSteps:=3000000) only [mgA,sig,q2g,q2I,SObj.ren,go_sem,↓zA,↓reduceIte,↓reduceDIte] <;>try simp only [zB]
     refine rnE ?_;refine uQ 600 _ ?_;simp (maxSteps:=3000000) only [xor8,go_sem,↓zA,↓reduceIte,↓reduceDIte] <;>try simp only [zB]
     refine q0K [0] (rep x2) rfl (by decide) (by repeat first|exact trivial|exact rfl|refine And.intro ?_ ?_) rfl rfl ?_ ?_
     · simp (maxSteps:=3000000) only [mgA,sig,q2g,q2I,SObj.ren,go_sem,↓zA,↓reduceIte,↓reduceDIte] <;>try simp only [zB]
     refine rnE ?_;refine gQ ?_;refine q0K [0] (rep x3) rfl (by decide) (by repeat first|exact trivial|exact rfl|refine And.intro ?_ ?_) rfl rfl ?_ ?_
     · simp (maxSteps:=3000000) only [mgA,sig,q2g,q2I,SObj.ren,go_sem,↓zA,↓reduceIte,↓reduceDIte] <;>try simp only [zB]
     refine rnE ?_;refine gQ ?_;refine q0K [0] (rep x0) rfl (by decide) (by repeat first|exact trivial|exact rfl|refine And.intro ?_ ?_) rfl rfl ?_ ?_
     · simp (maxSteps:=3000000) only [mgA,sig,q2g,q2I,SObj.ren,go_sem,↓zA,↓reduceIte,↓reduceDIte] <;>try simp only [zB]
     refine rnE ?_;refine uQ 600 _ ?_;simp (maxSteps:=3000000) only [AB,go_sem,↓zA,↓reduceIte,↓reduceDIte] <;>try simp only [zB]
     have e6:IntKind.i64.wrap ((i:Int) -4)=((i-4:Nat):Int):=by rw [wrapi (by omega)];omega
     have hfs:=z2U key h4';rw [if_pos h0] at hfs;have hL:lastS w (facS key i) i= [subS x1^^^ facS key i,subS x2,subS x3,subS x0]:=by unfold lastS;rw [if_pos h0,hx0,hx1,hx2,hx3]
     have hrec:=fun j hj=>z0g key hk h4' hlt (j:=j) hj;rw [←hw] at hrec;have hLl:(lastS w (facS key i) i).length=4:=by rw [hL];rfl
     rw [←hL];generalize lastS w (facS key i) i=L at*;refine q0a (q7d (facS key i)) ?_;rw [←hfs];refine gQ ?_;refine q0d (ι:=Nat) (fun j=>[(67,rI j)]) (fun j=>[.row CipT [((fw,inv),(z,b))],.row .u8 (wZ w (4*i+j)),.row .u8 L]) (fun j=>4-j) (fun j=>j≤4) 0 (Ai _) rfl ?_ fun j hj=> ?_
     · with_reducible refine sxE ?_;trivial
     have hlj:=q3W w (4*i+j);have hwj:=wsx j (by omega)
     by_cases hj4:j<4
     · have hwg:(wZ w (4*i+j)).getD (0+ (i-4)*4+j) Ty.u8.dflt=w.getD (4* (i-4)+j) 0:=by
        rw [show 0+ (i-4)*4+j=4* (i-4)+j by omega]
        exact z4K w (by omega) (by omega)
       have g1:((j:Int) <4)=True:=eq_true (by omega)
       refine uQ 600 _ ?_;simp (maxSteps:=3000000) only [g1,e6,hlj,hLl,hwg,xor8,AB,Aq,go_sem,↓zA,↓reduceIte,↓reduceDIte] <;>try simp only [zB]
       refine ⟨⟨by omega,by omega⟩,⟨by omega,hj4⟩,by omega,⟨by omega,hj4⟩,by omega,⟨by omega,hlt⟩,⟨by omega,hj4⟩,by omega,j+1,hj4,by show 4- (j+1) <4-j;omega,?_,?_⟩
       · show _= [_,SObj.row .u8 (wZ w (4*i+j+1)),_];rw [←j0H w (show 4*i+j<176 by omega),hrec j hj4,show 0+i*4+j=4*i+j by omega,Ac]
         rfl
       with_reducible refine sx1 hwj ?_;trivial
     obtain rfl:j=4:=by omega
     have g1:(((4:Nat):Int) <4)=False:=by decide
     refine gy1 g1 ?_;refine rndK (fun h=>h) (i+1) (by omega) rfl (Co 1 _) (fun n h=>by cases h) (by show 44- (i+1) <44-i;omega) ?_ ?_ ?_ ?_ ?_
     · with_reducible refine sx1 hwr ?_;trivial
     · exact ⟨rfl,rfl,trivial⟩
     · kernel_rfl
     · kernel_rfl
     kernel_rfl
   have f3:(((i%4:Nat):Int)=0)=False:=eq_false (by omega)
   have e6:IntKind.i64.wrap ((i:Int) -4)=((i-4:Nat):Int):=by rw [wrapi (by omega)];omega
   have hfs:=z2U key h4';rw [if_neg h0] at hfs;have hq:=z4X (w:=w) hlt h4';have hL:lastS w (facS key i) i= [w.getD (4*i-4) 0,w.getD (4*i-3) 0,w.getD (4*i-2) 0,w.getD (4*i-1) 0]:=by unfold lastS;rw [if_neg h0]
   have hrec:=fun j hj=>z0g key hk h4' hlt (j:=j) hj;rw [←hw] at hrec;refine uQ 600 _ ?_;simp (maxSteps:=3000000) only [f1,f2,f3,hl,hk,e1,e3,e4,e5,hq,go_sem,↓zA,↓reduceIte,↓reduceDIte] <;>try simp only [zB]
   refine ⟨⟨by omega,by omega⟩,by omega,by decide,?_⟩
   have hLl:(lastS w (facS key i) i).length=4:=by rw [hL];rfl
   rw [←hL];generalize lastS w (facS key i) i=L at*;refine q0d (ι:=Nat) (fun j=>[(67,rI j)]) (fun j=>[.row CipT [((fw,inv),(z,b))],.row .u8 (wZ w (4*i+j)),.row .u8 L]) (fun j=>4-j) (fun j=>j≤4) 0 (Ai _) rfl ?_ fun j hj=> ?_
   · with_reducible refine sxE ?_;trivial
   have hlj:=q3W w (4*i+j);have hwj:=wsx j (by omega)
   by_cases hj4:j<4
   · have hwg:(wZ w (4*i+j)).getD (0+ (i-4)*4+j) Ty.u8.dflt=w.getD (4* (i-4)+j) 0:=by
      rw [show 0+ (i-4)*4+j=4* (i-4)+j by omega]
      exact z4K w (by omega) (by omega)
     have g1:((j:Int) <4)=True:=eq_true (by omega)
     refine uQ 600 _ ?_;simp (maxSteps:=3000000) only [g1,e6,hlj,hLl,hwg,xor8,AB,Aq,go_sem,↓zA,↓reduceIte,↓reduceDIte] <;>try simp only [zB]
     refine ⟨⟨by omega,by omega⟩,⟨by omega,hj4⟩,by omega,⟨by omega,hj4⟩,by omega,⟨by omega,hlt⟩,⟨by omega,hj4⟩,by omega,j+1,hj4,by show 4- (j+1) <4-j;omega,?_,?_⟩
     · show _= [_,SObj.row .u8 (wZ w (4*i+j+1)),_];rw [←j0H w (show 4*i+j<176 by omega),hrec j hj4,show 0+i*4+j=4*i+j by omega,Ac]
       rfl
     with_reducible refine sx1 hwj ?_;trivial
   obtain rfl:j=4:=by omega
   have g1:(((4:Nat):Int) <4)=False:=by decide
   refine gy1 g1 ?_;refine rndK (fun h=>h) (i+1) (by omega) rfl (Co 1 _) (fun n h=>by cases h) (by show 44- (i+1) <44-i;omega) ?_ ?_ ?_ ?_ ?_
   · with_reducible refine sy2 hwr hfs ?_;trivial
   · exact ⟨rfl,rfl,trivial⟩
   · kernel_rfl
   · kernel_rfl
   kernel_rfl
 obtain rfl:i=44:=by omega
 have f1:(((44:Nat):Int) <44)=False:=eq_false (by omega)
 have hR2:wZ w (4*44)=w:=j3z hwl;refine gy1 f1 ?_;rw [hR2];refine ⟨by omega,?_⟩
 refine q3e (ι:=Nat) [4] (fun i=>[(87,rI i)]) (fun i=>[.row CipT [((fw,inv),(kpS w z (4*i),b))]]) (fun i=>44-i) (fun i=>i≤44) 0 (Ai _) (leK (σ:=fun h=>h) rfl (Ag _) (fun n h=>by cases h) ?_ ?_ ?_ ?_ ?_) ?_
 · with_reducible refine sxE ?_;trivial
 · exact ⟨congrArg (fun x=>some (SObj.row CipT [((fw,inv),(x,b))])) (z9y w hz).symm,trivial⟩
 · kernel_rfl
 · kernel_rfl
 · kernel_rfl
 intro i hi;have hkl:=q5n w z (4*i);have hwr:=wsx i (by omega)
 by_cases hlt:i<44
 · have f2:((i:Int) <44)=True:=eq_true (by omega)
   have e1:(i:Int).tdiv 4=((i / 4:Nat):Int):=by rw [A8 (by omega)];rfl
   have e2:IntKind.i64.wrap ((i / 4:Nat):Int)=((i / 4:Nat):Int):=wrapi (by omega)
   have e4:(i:Int).tmod 4=((i%4:Nat):Int):=by rw [As (by omega)];rfl
   have e5:IntKind.i64.wrap ((i%4:Nat):Int)=((i%4:Nat):Int):=wrapi (by omega)
   have e6:IntKind.i64.wrap (((i%4:Nat):Int)*4)=((i%4*4:Nat):Int):=by rw [wrapi (by omega)];omega
   have h176:List.take 176 w=w:=Ab (by omega)
   obtain ⟨q,hq⟩:∃q,q=List.take 4 (List.drop (i*4) w):=⟨_,rfl⟩;have hql:q.length=4:=by rw [hq];simp only [Aj,Al];omega
   have htq:List.take 4 q=q:=Ab (by omega)
   have hmin:min 4 (16-i%4*4)=4:=by omega
   have hput:=j1F (w:=w) (z:=z) (q:=q) hlt hql fun j hj=>by
    rw [hq];simp only [Aa];rw [A6 hj,AD,show i*4+j=4*i+j by omega]
   have hio:i / 4*16+i%4*4=4*i:=by omega
   refine uQ 600 _ ?_;simp (maxSteps:=3000000) only [f2,e1,e2,e4,e5,e6,hwl,h176,←hq,hql,htq,hmin,hio,Ad,hkl,go_sem,↓zA,↓reduceIte,↓reduceDIte] <;>try simp only [zB]
   refine ⟨⟨by omega,hlt⟩,by decide,⟨by omega,by omega⟩,by decide,⟨by omega,by omega,by omega⟩,by decide,by omega,?_⟩
   refine rndK (fun h=>h) (i+1) (by omega) rfl (Ag _) (fun n h=>by cases h) (by show 44- (i+1) <44-i;omega) ?_ ?_ ?_ ?_ ?_
   · with_reducible refine sx1 hwr ?_;trivial
   · exact ⟨congrArg (fun x=>some (SObj.row CipT [((fw,inv),(x,b))])) hput,trivial⟩
   · kernel_rfl
   · kernel_rfl
   kernel_rfl
 obtain rfl:i=44:=by omega
 have f2:(((44:Nat):Int) <44)=False:=by decide
 refine gy1 f2 ?_;rw [j2j z hwl]
def cipS(key:List UInt8):CipT.den:=((fwS,invP 256),(wordsS key,true))
theorem z5w(c:UInt8):fwS.getD c.toNat 0=subS c:=by
 have h:=c.toNat_lt;unfold fwS;rw [Aa,AG,BU h,BL,A3,AB]
theorem j4D(key:List UInt8)(hk:key.length=16):PC Tryz.prog 165 [.isl .u8 key] (.tup [.iptr CipT (cipS key) 0,rI 0]):=by
 have f1:(((key.length:Nat):Int)=16)=True:=eq_true (by omega)
 have hfi:=j3b (List.replicate 176 0,true);have hex:=z4L key fwS (invP 256) (List.replicate 176 0) true hk z5w (by simp [fwS]) (by simp)
 have hc:cipS key=((fwS,invP 256),(wordsS key,true)):=rfl;rw [hc];generalize fwS=fw at*;generalize invP 256=iv at*;generalize wordsS key=w at*;refine q0i rfl rfl ?_;refine ry1 fi165 f1 ?_;refine q0j [0] hfi rfl (by decide) (by repeat first|exact trivial|exact rfl|refine And.intro ?_ ?_) rfl rfl ?_
 simp only [afterO,Out.ren,SV.ren,mgA,sig,SObj.ren,SV.renL,List.set,List.map,Ah];refine gQ ?_;refine q0j [0] hex rfl (by decide) (by repeat first|exact trivial|exact rfl|refine And.intro ?_ ?_) rfl rfl ?_
 simp only [afterO,Out.ren,SV.ren,mgA,sig,SObj.ren,SV.renL,List.set,List.map,Ah];refine uQ 3 _ ?_;with_reducible refine sxE ?_
 refine z1J (ty:=CipT) 4 0 0 0 rfl rfl rfl (Nat.succ_pos _) (show 1≤1125899906842624 by decide) ?_ ?_ ?_
 · with_reducible refine sxE ?_;trivial
 · with_reducible refine sxE ?_;trivial
 with_reducible refine sxE ?_
 refine gQ ?_;simp [SV.leV]
theorem z0O(key b:List UInt8)(hb:b.length=16):PC Tryz.prog 171 [.iptr CipT (cipS key) 0,.isl .u8 b] (rI 0):=by
 have f1:(((b.length:Nat):Int)=16)=True:=eq_true (by omega)
 unfold cipS;refine q0p rfl rfl ?_;refine ry1 fi171 f1 ?_;trivial
theorem rotS:∀n:Nat,n<32→1≤n→andK .u64 (IntKind.u64.wrap (-(n:Int))) 31=((32-n:Nat):Int):=by decide
theorem rotU:∀n:Nat,n<32→1≤n→IntKind.u64.wrap (32- ((32-n:Nat):Int))=(n:Int):=by decide
theorem j4H(m n:Nat)(h1:1≤n)(h2:n≤31)(hm:m<4294967296):((BitVec.ofInt 32 (IntKind.u32.wrap ((m:Int)*2^ (32-n))) |||BitVec.ofInt 32 ((m:Int).fdiv (2^ n))).toNat:Int)=rotW n m:=by
 have e1:IntKind.u32.wrap ((m:Int)*2^ (32-n))=((m*2^ (32-n)%4294967296:Nat):Int):=by
  have h:∀y:Int,IntKind.u32.wrap y=y%4294967296:=fun y=>rfl;rw [h];simp
 have e2:((m:Int).fdiv (2^ n))=((m / 2^ n:Nat):Int):=by
  rw [AV _ (by exact_mod_cast Ai (2^ n))];simp
 have h4:m*2^ (32-n)%4294967296=2^ (32-n)* (m%2^ n):=by
  have:(4294967296:Nat)=2^ n*2^ (32-n):=by rw [←CF,show n+ (32-n)=32 by omega]
  rw [this,Nat.mul_mod_mul_right,Nat.mul_comm]
 have hm':m<2^ n*2^ (32-n):=by rw [←CF,show n+ (32-n)=32 by omega];omega
 have h3:m / 2^ n<2^ (32-n):=Nat.div_lt_of_lt_mul hm';have h5:m / 2^ n≤m:=Nat.div_le_self _ _;have h6:m*2^ (32-n)%4294967296<4294967296:=CP _ (by decide)
 rw [e1,e2,Ca,AO,AO,AX,AX,AY (a:=m*2^ (32-n)%4294967296) (b:=2^ 32) h6,AY (a:=m / 2^ n) (b:=2^ 32) (Nat.lt_of_le_of_lt h5 hm),h4,←Ct h3];unfold rotW;have e3:((m:Int)*2^ (32-n)%4294967296)=((m*2^ (32-n)%4294967296:Nat):Int):=by simp
 have e4:((m:Int) / 2^ n)=((m / 2^ n:Nat):Int):=by simp
 rw [e3,e4,h4,Int.natCast_add,Int.add_comm]
theorem j3E(x:Int)(n:Nat)(h1:1≤n)(h2:n≤31)(hx:inW x):PC Tryz.prog 204 [.raw (.int .u32 x),.raw (.int .i64 (-(n:Int)))] (.raw (.int .u32 (rotW n x))):=by
 have e0:=rotS n (by omega) h1
 have e5:=rotU n (by omega) h1
 refine q0p rfl rfl ?_;refine rQ fi204 ?_;unfold orK;rw [e0,e5,Aq,Aq,Ba (by omega),Ba (by omega)]
 obtain ⟨m,rfl⟩:∃m:Nat,x=m:=⟨x.toNat,by omega⟩
 refine ⟨by omega,?_⟩
 have h:=j4H m n h1 h2 (by omega)
 have hw:=q0D h1 h2 hx;refine congrArg (Value.int .u32) ?_;refine (congrArg IntKind.u32.wrap h).trans (w32 hw)
def turnS(x:Int)(ns:List Nat):Nat→Int
 |0=>0
 |i+1=>xorW (turnS x ns i) (rotW (ns.getD i 1) x)
theorem z3u{x:Int}{ns:List Nat}(hx:inW x)(hn:∀n∈ns,1≤n∧n≤31):∀i,inW (turnS x ns i)
 |0=>by simp [turnS,inW]
 |i+1=>by
  have h:1≤ns.getD i 1∧ns.getD i 1≤31:=by
   rcases AJ i ns.length with h|h
   · rw [Aa,Ae h];exact hn _ (Bq _)
   rw [Aa,AS h];decide
  exact q0Q (z3u hx hn i) (q0D h.1 h.2 hx)
theorem q0G(x:Int)(ns:List Nat)(hx:inW x)(hn:∀n∈ns,1≤n∧n≤31)(hl:ns.length≤64):PC Tryz.prog 201 [.raw (.int .u32 x),.isl (.int .i64) (ns.map fun (n:Nat)=>(n:Int))] (.raw (.int .u32 (turnS x ns ns.length))):=by
 refine q0p rfl rfl ?_;have hml:(ns.map fun (n:Nat)=>(n:Int)).length=ns.length:=A1 ..;refine rQ fi201 ?_;refine q0d (ι:=Nat) (fun i=>[(4,.raw (.int .u32 (turnS x ns i))),(9,rI i)]) (fun i=>[]) (fun i=>ns.length-i) (fun i=>i≤ns.length) 0 (Ai _) rfl ?_ ?_
 · with_reducible refine sxE ?_
   rfl
 intro i hi;have hwr:=wsx i (by omega)
 by_cases h:i<ns.length
 · have hg:(ns.map fun (n:Nat)=>(n:Int)).getD i 0=((ns.getD i 1:Nat):Int):=by
    rw [Aa,Ae (by omega),Aa,Ae h];simp
   have hr:1≤ns.getD i 1∧ns.getD i 1≤31:=by
    rw [Aa,Ae h];exact hn _ (Bq _)
   have hneg:IntKind.i64.wrap (0- ((ns.getD i 1:Nat):Int))= -((ns.getD i 1:Nat):Int):=by rw [IntWalk.i64_in _ (by omega)];omega
   refine gyd4 hml hg hneg Ac ?_;refine ⟨fun _=>⟨⟨by omega,h⟩,q0a (j3E _ _ hr.1 hr.2 hx) ?_⟩,fun hh=>absurd h hh⟩
   have hxi:=z3u hx hn i;have hxo:=xor32 hxi (q0D hr.1 hr.2 hx);refine gy1 hxo ?_;refine ⟨i+1,h,by dsimp only;omega,rfl,?_⟩
   with_reducible refine sx1 hwr ?_
   rfl
 obtain rfl:i=ns.length:=by omega
 refine gy1 hml ?_;exact ⟨fun h=>absurd h (by omega),fun _=>trivial⟩
theorem byteU(x:Int)(m:Nat)(hx:inW x)(hm:m≤32):UInt8.ofNat (IntKind.u8.wrap (x.fdiv (2^ min m 32))).toNat=UInt8.ofNat (x.toNat / 2^ m%256):=by
 obtain ⟨n,rfl⟩:∃n:Nat,x=n:=⟨x.toNat,by omega⟩
 have e:((n:Int).fdiv (2^ m))=((n / 2^ m:Nat):Int):=by
  rw [AV _ (by exact_mod_cast Ai (2^ m))]
  simp
 rw [Ba hm,e,Aq];generalize n / 2^ m=m;rw [u8wrapR];congr 1
theorem byteU0(x:Int)(hx:inW x):UInt8.ofNat (IntKind.u8.wrap x).toNat=UInt8.ofNat (x.toNat / 2^ 0%256):=by
 rw [u8wrapR];congr 1;rw [Nat.pow_zero,Nat.div_one];omega
theorem wordB4(h:List Int)(i j:Nat)(hj:j<4):wordB h (4*i+j)=UInt8.ofNat ((h.getD i 0).toNat / 2^ (24-8*j)%256):=by
 unfold wordB;rw [show (4*i+j) / 4=i by omega,show (4*i+j)%4=j by omega]
theorem bytesP4(h:List Int){i:Nat}(hi:i<8):((((bytesP h (4*i)).set (4*i) (UInt8.ofNat ((h.getD i 0).toNat / 2^ 24%256))).set (4*i+1) (UInt8.ofNat ((h.getD i 0).toNat / 2^ 16%256))).set (4*i+2) (UInt8.ofNat ((h.getD i 0).toNat / 2^ 8%256))).set (4*i+3) (UInt8.ofNat ((h.getD i 0).toNat / 2^ 0%256))=bytesP h (4* (i+1)):=by
 rw [show UInt8.ofNat ((h.getD i 0).toNat / 2^ 24%256)=wordB h (4*i) from (wordB4 h i 0 (by decide)).symm,q2L h (by omega),
  show UInt8.ofNat ((h.getD i 0).toNat / 2^ 16%256)=wordB h (4*i+1) from (wordB4 h i 1 (by decide)).symm,q2L h (by omega),
  show UInt8.ofNat ((h.getD i 0).toNat / 2^ 8%256)=wordB h (4*i+2) from (wordB4 h i 2 (by decide)).symm,q2L h (by omega),
  show UInt8.ofNat ((h.getD i 0).toNat / 2^ 0%256)=wordB h (4*i+3) from (wordB4 h i 3 (by decide)).symm,q2L h (by omega)]
 rfl
theorem z6u(h:List Int)(hh:inWs h):PC Tryz.prog 195 [.dat (.arr 8 (.int .u32)) h] (.dat (.arr 32 .u8) (bytesS h)):=by
 refine q0p rfl rfl ?_;refine rQ fi195 ?_;have hl:=hh.1;have htk:List.take 8 h=h:=Ab (by omega)
 refine ⟨by omega,?_⟩
 rw [htk];refine q0d (ι:=Nat) (fun i=>[(6,rI i)]) (fun i=>[.row (.int .u32) h,.row .u8 (bytesP h (4*i))]) (fun i=>8-i) (fun i=>i≤8) 0 (Ai _) rfl ?_ ?_
 · with_reducible refine sxE ?_;trivial
 intro i hi;have hwr:=wsx i (by omega)
 have hbl:=q4V h (4*i);by_cases h8:i<8
 · have hx:=q0c hh i h8;have w0:IntKind.i64.wrap (4* (i:Int))=((4*i:Nat):Int):=by rw [wrapi (by omega)];omega
   have w1:IntKind.i64.wrap (((4*i:Nat):Int)+1)=((4*i+1:Nat):Int):=q2T (by omega)
   have w2:IntKind.i64.wrap (((4*i:Nat):Int)+2)=((4*i+2:Nat):Int):=by rw [wrapi (by omega)];omega
   have w3:IntKind.i64.wrap (((4*i:Nat):Int)+3)=((4*i+3:Nat):Int):=by rw [wrapi (by omega)];omega
   refine uQ 600 _ ?_;simp (maxSteps:=3000000) only [hl,hbl,w0,w1,w2,w3,Bb,Ac,Ty.dflt,go_sem,↓zA,↓reduceIte,↓reduceDIte] <;>try simp only [zB]
   refine ⟨fun _=>⟨⟨by omega,by omega⟩,⟨by omega,by omega⟩,⟨by omega,q0Y _⟩,⟨by omega,by omega⟩,⟨by omega,q0Y _⟩,⟨by omega,by omega⟩,⟨by omega,q0Y _⟩,⟨by omega,by omega⟩,⟨by omega,q0Y _⟩,i+1,h8,by dsimp only;omega,?_,?_⟩,fun h=>absurd h (by omega)⟩
   · rw [byteU _ 24 hx (by decide),byteU _ 16 hx (by decide),byteU _ 8 hx (by decide),byteU0 _ hx]
     show _= [SObj.row (.int .u32) h,SObj.row .u8 (bytesP h (4* (i+1)))];rw [←bytesP4 h h8]
   with_reducible refine sx1 hwr ?_;trivial
 obtain rfl:i=8:=by omega
 refine gy3 hl hbl Ac ?_;refine ⟨fun h=>absurd h (by omega),fun _=> ?_⟩
 have e:List.take 32 (bytesP h 32)++List.drop (List.take 32 (bytesP h 32)).length (bytesP h 32)=bytesS h:=by
  have hbl:(bytesP h 32).length=32:=q4V h 32;rw [Ab (by omega),hbl,AW (by omega),Ah,q7W]
 have el:(bytesS h).length=32:=q0H _;rw [e,if_pos el];exact ⟨_,rfl,rfl⟩
end Go.Proofs.YtikapabgggphpaaGreatDoor
