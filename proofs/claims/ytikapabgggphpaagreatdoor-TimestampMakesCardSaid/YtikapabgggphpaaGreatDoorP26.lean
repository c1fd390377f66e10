/- CTS: the program's start, check, exclusive or, operations of a mode. -/
import Derived.Test.YtikapabgggphpaaGreatDoorP25
import Derived.Test.YtikapabgggphpaaGreatDoorP20
import Derived.Test.YtikapabgggphpaaGreatDoorP24
set_option linter.all false
namespace Go.Proofs.YtikapabgggphpaaGreatDoor
open Go Go.Sx Go.Proofs
set_option maxRecDepth 100000
set_option maxHeartbeats 40000000
def modS(key iv:List UInt8):List SV:=[.iptr CipT (cipS key) 0,.isl .u8 iv]
theorem z5i(l:List UInt8)(hl:l.length≤140737488355328):VC Tryz.prog 63 [.isl .u8 l] [] (RowK .u8 l):=by
 refine q8g ?_;refine rQ fi63 ?_;intro b hb;refine ⟨fun h=>z8I (hb h),fun h=>⟨⟨by omega,by omega⟩,?_⟩⟩
 exact q6a (h:=1) rfl (by omega)
theorem q9k(key iv:List UInt8)(hk:key.length=16)(hi:iv.length=16):PC Tryz.prog 149 [.isl .u8 key,.isl .u8 iv] (.tup [.agg (modS key iv),rI 0]):=by
 have f1:(((iv.length:Nat):Int)=16)=True:=eq_true (by omega)
 have h1:=j4s key hk;unfold modS;generalize cipS key=cp at*;refine q0q rfl rfl ?_;refine ry1 fi149 f1 ?_;refine q0a h1 ?_;refine uQ 600 _ ?_
 with_reducible refine sxE ?_
 refine q0a (q2b iv (by omega)) ?_
 refine uQ 600 _ ?_
 with_reducible refine sxE ?_;trivial
theorem z3s(b:List UInt8)(h1:16≤b.length)(h2:b.length≤131072):PC Tryz.prog 150 [.isl .u8 b] (rI 0):=by
 have f1:(((b.length:Nat):Int) <16)=False:=eq_false (by omega)
 have f2:((131072:Int) < ((b.length:Nat):Int))=False:=eq_false (by omega)
 refine q0q rfl rfl ?_;refine ry2 fi150 f1 f2 ?_;trivial
theorem q6w(a b:List UInt8)(ha:a.length=16)(hb:b.length=16):PC Tryz.prog 158 [.isl .u8 a,.isl .u8 b] (.isl .u8 (xorS a b)):=by
 refine q0i rfl rfl ?_;refine rQ fi158 ?_;refine q3F (z5i a (by omega)) rfl rfl (fun h=>by rw [h] at ha;cases ha) ?_
 refine uQ 600 _ ?_
 with_reducible refine sxE ?_
 refine q0f (ι:=Nat) (fun i=>[(11,rI i)]) (fun i=>[.row .u8 (gP a (fun j=>a.getD j 0^^^ b.getD j 0) i)]) (fun i=>16-i) (fun i=>i≤16) 0 (Aj _) (by rw [q5g _ ha];first|done|rfl) ?_ fun i hi=> ?_
 · with_reducible refine sxE ?_;trivial
 have hwr:=wsx i (by omega)
 have hgl:=q6M a (fun j=>a.getD j 0^^^ b.getD j 0) i
 by_cases hlt:i<16
 · have f1:((i:Int) < ((16:Nat):Int))=True:=eq_true (by omega)
   refine uQ 600 _ ?_;have hgg:(gP a (fun j=>a.getD j 0^^^ b.getD j 0) i).getD i Ty.u8.dflt=a.getD i 0:=z2q _ _ hlt (Ag _);have hkk:b.getD i Ty.u8.dflt=b.getD i 0:=rfl;simp (maxSteps:=3000000) only [f1,hgl,ha,hb,Az,Ac,hgg,hkk,xor8,Au,AC,go_sem,↓zA,↓reduceIte,↓reduceDIte] <;>try simp only [zB]
   refine ⟨⟨by omega,hlt⟩,hlt,⟨by omega,hlt⟩,⟨by omega,hlt⟩,hlt,i+1,hlt,by show 16- (i+1) <16-i;omega,?_,?_⟩
   · dsimp only;rw [←q7C a (fun j=>a.getD j 0^^^ b.getD j 0) hlt]
   with_reducible refine sx1 hwr ?_;trivial
 obtain rfl:i=16:=by omega
 rw [q7N];refine uQ 600 _ ?_;have f1:(((16:Nat):Int) < ((a.length:Nat):Int))=False:=eq_false (by omega)
 simp (maxSteps:=3000000) only [f1,go_sem,↓zA,↓reduceIte,↓reduceDIte] <;>try simp only [zB]
 exact ⟨⟨by rw [ha,q1V];decide,by rw [q1V];decide⟩,Aa (by rw [q1V];omega)⟩
theorem z4q(key iv b:List UInt8)(hk:key.length=16)(hb:b.length=16):PC Tryz.prog 156 [.agg (modS key iv),.raw (.func (.methodOf 184 "Encrypt") #[] #[]),.isl .u8 b] (.isl .u8 (encS (wordsS key) b)):=by
 have h1:=z4d key b hk hb;unfold modS;generalize cipS key=cp at*;refine q0q rfl rfl ?_;refine q0V fi156 ?_;refine uQ 10 _ ?_
 with_reducible refine sxE ?_
 refine z3k (cs:=[.iptr CipT cp 0,.isl .u8 iv]) (s:=.iptr CipT cp 0) rfl rfl rfl (show mofP Tryz.prog 184 "Encrypt" =some (168,0) by kernel_rfl) ?_
 refine q0a h1 ?_;refine uQ 600 _ ?_
 with_reducible refine sxE ?_;trivial
theorem q9O(key iv b:List UInt8)(hk:key.length=16)(hb:b.length=16):PC Tryz.prog 156 [.agg (modS key iv),.raw (.func (.methodOf 184 "Decrypt") #[] #[]),.isl .u8 b] (.isl .u8 (decS (wordsS key) b)):=by
 have h1:=z3T key b hk hb;unfold modS;generalize cipS key=cp at*;refine q0q rfl rfl ?_;refine q0V fi156 ?_;refine uQ 10 _ ?_
 with_reducible refine sxE ?_
 refine z3k (cs:=[.iptr CipT cp 0,.isl .u8 iv]) (s:=.iptr CipT cp 0) rfl rfl rfl (show mofP Tryz.prog 184 "Decrypt" =some (157,0) by kernel_rfl) ?_
 refine q0a h1 ?_;refine uQ 600 _ ?_
 with_reducible refine sxE ?_;trivial
def blkC(p:List UInt8)(i:Nat):List UInt8:=((p.take (16*i+16)).drop (16*i))++List.replicate (16*i+16-p.length) 0
def nblk(n:Nat):Nat:=(n+15) / 16
theorem q3P(p:List UInt8){i:Nat}(hi:i<nblk p.length):(blkC p i).length=16:=by
 unfold nblk at hi;unfold blkC;rw [Ad,Al,Ak,Bw];omega
theorem q2H(p:List UInt8){i:Nat}(h:16*i+16≤p.length):blkC p i=(p.take (16*i+16)).drop (16*i):=by
 unfold blkC;rw [show 16*i+16-p.length=0 by omega,List.replicate_zero,Ah]
theorem q6n(p:List UInt8){i:Nat}(h:p.length<16*i+16)(h':16*i≤p.length):blkC p i=(p.take p.length).drop (16*i)++List.replicate (16- (p.length-16*i)) 0:=by
 unfold blkC;rw [Aa (CK h),Aa (Ag _),show 16*i+16-p.length=16- (p.length-16*i) by omega]
abbrev cutF(p:List UInt8):SV:=.fn 169 [] [.iptr (.slice .u8) p 0]
theorem j0w(p:List UInt8)(hp:p.length≤1125899906842624):PC Tryz.prog 152 [.isl .u8 p] (cutF p):=by
 refine q0q rfl rfl ?_;refine q0V fi152 ?_;refine uQ 4 _ ?_
 with_reducible refine sxE ?_
 refine q2l 1 0 (ty:=.slice .u8) (x:=p) rfl ⟨hp,fun _ _=>trivial⟩ rfl rfl ?_;refine gQ ?_;trivial
def vwC(p:List UInt8):Nat→Nat→List SV→List SObj→Prop:=fun i _ args' new=>args'= [.isl .u8 (blkC p i)]∧new= []
theorem j4e(p:List UInt8)(hp:p.length≤131072):Iter Tryz.prog 169 [] [.iptr (.slice .u8) p 0] (nblk p.length) (vwC p):=by
 refine ⟨by kernel_rfl,fun l B J hJ yg=> ?_⟩
 refine (q1z (yFG hJ) fi169 ?_).2
 letI:Ghost:=topG (yFG hJ) []
 refine uQ 600 _ ?_
 with_reducible refine sxE ?_
 refine q8U [] (fun i=>i) (fun i=>[(3,rI ((16*i:Nat):Int))]) (nblk p.length) (fun _=>True) trivial rfl (by simp) (by simp [SV.bel]) ?_ fun i hi _=> ?_
 · with_reducible refine sxE ?_;trivial
 by_cases hlt:i<nblk p.length
 · have hn:nblk p.length=(p.length+15) / 16:=rfl;have f1:(((16*i:Nat):Int) < ((p.length:Nat):Int))=True:=eq_true (by omega)
   have e1:IntKind.i64.wrap (((16*i:Nat):Int)+16)=((16*i+16:Nat):Int):=by rw [wrapi (by omega)];omega
   have e3:((16* (i+1):Nat):Int)=((16*i+16:Nat):Int):=by omega
   by_cases hf:16*i+16≤p.length
   · have hb:=q2H p hf;have hbl:=q3P p hlt;have e2:mxV false ((16*i+16:Nat):Int) ((p.length:Nat):Int)=((16*i+16:Nat):Int):=by unfold mxV;simp;omega
     have f2:(((blkC p i).length:Int) <16)=False:=eq_false (by omega)
     refine uQ 600 _ ?_;simp (maxSteps:=3000000) only [f1,f2,e1,e2,←hb,Au,go_sem,↓zA,↓reduceIte,↓reduceDIte] <;>try simp only [zB]
     refine ⟨⟨by omega,by omega,by omega,by omega⟩,q2d [] hJ yg hlt (fun n=>⟨_,_,⟨rfl,rfl⟩,q1f rfl⟩) fun c=> ?_⟩
     cases c
     · refine gQ ?_;exact ⟨_,_,rfl,rfl,by omega⟩
     refine uQ 600 _ ?_;simp (maxSteps:=3000000) only [e1,go_sem,↓zA,↓reduceIte,↓reduceDIte] <;>try simp only [zB]
     refine ⟨hlt,trivial,⟨[],rfl⟩,?_⟩;simp (maxSteps:=3000000) only [e3,go_sem,↓zA,↓reduceIte,↓reduceDIte] <;>try simp only [zB]
   have hb:=q6n p (i:=i) (by omega) (by omega)
   have hr:((p.take p.length).drop (16*i)).length=p.length-16*i:=by rw [Al,Ak];omega
   have e2:mxV false ((16*i+16:Nat):Int) ((p.length:Nat):Int)=((p.length:Nat):Int):=by unfold mxV;simp;omega
   generalize hrr:(p.take p.length).drop (16*i)=r at hb hr;have f2:((r.length:Int) <16)=True:=eq_true (by omega)
   have e4:IntKind.i64.wrap (16- (r.length:Int))=((16- (p.length-16*i):Nat):Int):=by rw [wrapi (by omega)];omega
   have e5:Ty.u8.dflt=(0:UInt8):=rfl;refine uQ 600 _ ?_;simp (maxSteps:=3000000) only [f1,f2,e1,e2,e4,e5,hrr,Au,←hb,go_sem,↓zA,↓reduceIte,↓reduceDIte] <;>try simp only [zB]
   refine ⟨⟨by omega,by omega,Ag _⟩,⟨by omega,by omega,by omega⟩,q2d [] hJ yg hlt (fun n=>⟨_,_,⟨rfl,rfl⟩,q1f rfl⟩) fun c=> ?_⟩
   cases c
   · refine gQ ?_;exact ⟨_,_,rfl,rfl,by omega⟩
   refine uQ 600 _ ?_;simp (maxSteps:=3000000) only [e1,go_sem,↓zA,↓reduceIte,↓reduceDIte] <;>try simp only [zB]
   refine ⟨hlt,trivial,⟨[],rfl⟩,?_⟩;simp (maxSteps:=3000000) only [e3,go_sem,↓zA,↓reduceIte,↓reduceDIte] <;>try simp only [zB]
 obtain rfl:i=nblk p.length:=by omega
 have f1:(((16*nblk p.length:Nat):Int) < ((p.length:Nat):Int))=False:=eq_false (by unfold nblk;omega)
 refine gy1 f1 ?_;exact ⟨_,_,rfl,rfl,Ag _⟩
abbrev ModT:Ty:=.prod (.ptr CipT) (.slice .u8)
abbrev chnF(key iv p:List UInt8):SV:=.fn 166 [] [.iptr (.int .i64) 0 0,.iptr (.clp 169 (.slice .u8)) p 0,.iptr ModT (some (cipS key),iv) 0]
theorem z8e(key iv p:List UInt8)(hk:key.length=16)(hi:iv.length=16)(hp:p.length≤131072):PC Tryz.prog 151 [.isl .u8 key,.isl .u8 iv,cutF p] (chnF key iv p):=by
 have hs:=q9k key iv hk hi;have hcok:=j0u key hk;unfold modS at hs;unfold chnF;generalize cipS key=cp at*;refine q0q rfl rfl ?_;refine q0V fi151 ?_;refine uQ 600 _ ?_
 with_reducible refine sxE ?_
 refine q0a hs ?_;refine uQ 9 _ ?_
 with_reducible refine sxE ?_
 refine q2l 5 0 (ty:=.clp 169 (.slice .u8)) (x:=p) rfl ⟨by omega,fun _ _=>trivial⟩ rfl rfl ?_
 refine q2l 7 1 (ty:=ModT) (x:=(some cp,iv)) rfl ⟨fun y h=>by cases h;exact hcok,by show iv.length≤_;omega,fun _ _=>trivial⟩ rfl rfl ?_
 refine q2l 8 2 (ty:=.int .i64) (x:=0) rfl trivial rfl rfl ?_;refine gQ ?_;trivial
def cpre(key iv p:List UInt8):Nat→List UInt8
 |0=>iv
 |n+1=>encS (wordsS key) (xorS (cpre key iv p n) (blkC p n))
theorem z2z(key iv p:List UInt8)(hi:iv.length=16):∀n,(cpre key iv p n).length=16
 |0=>hi
 |_+1=>q2X _ _
def vwH(key iv p:List UInt8):Nat→Nat→List SV→List SObj→Prop:=fun i _ args' new=>args'= [.isl .u8 (cpre key iv p (i+1))]∧new= []
abbrev yC(l:Nat):SV:=.raw (.func (.yield l) #[] #[])
theorem z5O{l B N:Nat}{J:Nat→(Nat→Prop)→World→(Nat→Prop)→Prop}(hJ:FJ B J){vw:Nat→Nat→List SV→List SObj→Prop}(yg:YG Tryz.prog l B N J vw){i:Nat}(hi:i<N)(key iv pv bk:List UInt8)(hk:key.length=16)(hp:pv.length=16)(hb:bk.length=16)
 (hvw:∀n,vw i n [.isl .u8 (encS (wordsS key) (xorS pv bk))] [])(G:List SObj): @VCG (fgG (yFG hJ)) Tryz.prog 167 [.isl .u8 bk,.ptr 3 0,.iptr ModT (some (cipS key),iv) 0,.ptr 2 0,.ptr 1 0]
  (.mark i :: .cells 206 [yC l] :: .cells 22 [.isl .u8 pv] :: .cells 4 [.raw (.bool false)] :: G)
  (fun o H'=>∃b:Bool,o= .ret (.raw (.bool b))∧∃G',H'= .mark (if b then i+1 else N+1+i) :: .cells 206 [yC l] :: .cells 22 [.isl .u8 (encS (wordsS key) (xorS pv bk))] :: .cells 4 [.raw (.bool (!b))] :: (G++G')):=by
 refine q1z (yFG hJ) fi167 ?_
 letI:Ghost:=topG (yFG hJ) []
 have hco:=q6w pv bk hp hb;have hap:=z4q key iv (xorS pv bk) hk (q3a _ _);have hel:=q2X (wordsS key) (xorS pv bk);unfold modS at hap;generalize cipS key=cp at*;generalize hy:encS (wordsS key) (xorS pv bk)=y at*;generalize xorS pv bk=x at*;have hcl:=q2b y (by omega)
 have f1:(((16:Nat):Int)=16)=True:=eq_true rfl;refine uQ 17 _ ?_
 with_reducible refine sy2 hb f1 ?_
 refine q1N [2] mixed ?_;refine uQ 600 _ ?_
 with_reducible refine sxE ?_
 refine q0b hco ?_;refine uQ 600 _ ?_
 with_reducible refine sxE ?_
 refine q0b hap ?_;refine uQ 3 _ ?_
 with_reducible refine sxE ?_
 refine q1N [1,2] mixed ?_;refine uQ 600 _ ?_
 with_reducible refine sxE ?_
 refine q0b hcl ?_;refine uQ 600 _ ?_
 with_reducible refine sxE ?_
 refine z9H (.cells 206 [yC l] :: .cells 22 [.isl .u8 y] :: .cells 4 [.raw (.bool false)] :: G) hJ yg hi (fun n=>⟨_,_,hvw n,q1f rfl⟩) fun b=>⟨fun _=> ?_,?_⟩
 · simp [q2h,q2Q]
 cases b
 · refine uQ 600 _ ?_
   with_reducible refine sxE ?_
   exact ⟨[],by rw [Ah]⟩
 refine uQ 600 _ ?_
 with_reducible refine sxE ?_
 exact ⟨[],by rw [Ah]⟩
theorem q8l{P:Program}{AQ:Ex→List SV→List SObj→Prop}{k0:Nat}{td:List IT}{t:List SV}{d:Option Tmp}{g:FG}{f:FuncId}{args:List SV}{H:List SObj}{K:Out→List SObj→Prop}(h: @VCG (fgG g) P f args H K)
 (hk:∀o H',K o H'→∃s,o= .ret s∧ @SoundI (topG g []) P AQ ⟨k0,td,putT t d s,H'⟩): @CallI (topG g []) P AQ f args d ⟨k0,td,t,H⟩:=
 have h':=j4R h
 ⟨h'.1, @VCallG.mono (topG g []) P f args H K _ h'.2 fun o H' hK=>by obtain ⟨s,rfl,hs⟩:=hk o H' hK;exact hs⟩
def chH(l:Nat)(m:Nat)(pv:List UInt8)(b:Bool)(G:List SObj):List SObj:=.mark m :: .cells 206 [yC l] :: .cells 22 [.isl .u8 pv] :: .cells 4 [.raw (.bool b)] :: G
theorem j1y{l B:Nat}{J:Nat→(Nat→Prop)→World→(Nat→Prop)→Prop}(hJ:FJ B J)(key iv p:List UInt8)(hk:key.length=16)(hiv:iv.length=16)(hp:p.length≤131072)(yg:YG Tryz.prog l B (nblk p.length) J (vwH key iv p)):
 @VCG (fgG (yFG hJ)) Tryz.prog 169 [.fn 167 [] [.ptr 3 0,.iptr ModT (some (cipS key),iv) 0,.ptr 2 0,.ptr 1 0],.iptr (.slice .u8) p 0]
  (chH l 0 iv false []) (fun o H'=>o= .ret (.tup [])∧∃m pv b G,nblk p.length≤m∧H'=chH l m pv b G):=by
 refine q1z (yFG hJ) fi169 ?_
 letI:Ghost:=topG (yFG hJ) []
 refine uQ 600 _ ?_
 with_reducible refine sxE ?_
 refine q0f (ι:=Nat×List SObj) (fun s=>[(3,rI ((16*s.1:Nat):Int))]) (fun s=>chH l s.1 (cpre key iv p s.1) false s.2) (fun s=>nblk p.length-s.1) (fun s=>s.1≤nblk p.length) (0,[]) (Aj _) rfl ?_ ?_
 · with_reducible refine sxE ?_;trivial
 rintro ⟨i,G⟩ hi;dsimp only at hi;have hpl:=z2z key iv p hiv i;have hn:nblk p.length=(p.length+15) / 16:=rfl
 by_cases hlt:i<nblk p.length
 · have f1:(((16*i:Nat):Int) < ((p.length:Nat):Int))=True:=eq_true (by omega)
   have e1:IntKind.i64.wrap (((16*i:Nat):Int)+16)=((16*i+16:Nat):Int):=by rw [wrapi (by omega)];omega
   have e3:((16* (i+1):Nat):Int)=((16*i+16:Nat):Int):=by omega
   have hbl:=q3P p hlt;have hst:=z5O hJ yg hlt key iv (cpre key iv p i) (blkC p i) hk hpl hbl (fun n=>⟨rfl,rfl⟩) G;have hnx:cpre key iv p (i+1)=encS (wordsS key) (xorS (cpre key iv p i) (blkC p i)):=rfl;rw [←hnx] at hst;clear hnx;generalize hc1:cpre key iv p (i+1)=y at hst;generalize hc0:cpre key iv p i=pv at*;unfold chH
   by_cases hf:16*i+16≤p.length
   · have hb:=q2H p hf;have e2:mxV false ((16*i+16:Nat):Int) ((p.length:Nat):Int)=((16*i+16:Nat):Int):=by unfold mxV;simp;omega
     have f2:(((blkC p i).length:Int) <16)=False:=eq_false (by omega)
     refine uQ 600 _ ?_;simp (maxSteps:=3000000) only [f1,f2,e1,e2,←hb,Au,hc0,go_sem,↓zA,↓reduceIte,↓reduceDIte] <;>try simp only [zB]
     refine ⟨⟨by omega,by omega,by omega,by omega⟩,q8l hst fun o H' hK=> ?_⟩
     obtain ⟨b,rfl,G',rfl⟩:=hK;refine ⟨_,rfl,?_⟩;cases b
     · simp only [reduceCtorEq,A8,if_false,if_true,CB,Cm];refine gQ ?_;exact ⟨_,_,_,_,by omega,rfl⟩
     simp only [reduceCtorEq,A8,if_false,if_true,CB,Cm];refine gy1 e1 ?_;refine ⟨(i+1,G++G'),hlt,by dsimp only;omega,?_,?_⟩
     · dsimp only;rw [hc1]
     simp (maxSteps:=3000000) only [e3,go_sem,↓zA,↓reduceIte,↓reduceDIte] <;>try simp only [zB]
   have hb:=q6n p (i:=i) (by omega) (by omega)
   have hr:((p.take p.length).drop (16*i)).length=p.length-16*i:=by rw [Al,Ak];omega
   have e2:mxV false ((16*i+16:Nat):Int) ((p.length:Nat):Int)=((p.length:Nat):Int):=by unfold mxV;simp;omega
   generalize hrr:(p.take p.length).drop (16*i)=r at hb hr;have f2:((r.length:Int) <16)=True:=eq_true (by omega)
   have e4:IntKind.i64.wrap (16- (r.length:Int))=((16- (p.length-16*i):Nat):Int):=by rw [wrapi (by omega)];omega
   have e5:Ty.u8.dflt=(0:UInt8):=rfl;refine uQ 600 _ ?_;simp (maxSteps:=3000000) only [f1,f2,e1,e2,e4,e5,hrr,Au,←hb,hc0,go_sem,↓zA,↓reduceIte,↓reduceDIte] <;>try simp only [zB]
   refine ⟨⟨by omega,by omega,Ag _⟩,⟨by omega,by omega,by omega⟩,q8l hst fun o H' hK=> ?_⟩
   obtain ⟨b,rfl,G',rfl⟩:=hK;refine ⟨_,rfl,?_⟩;cases b
   · simp only [reduceCtorEq,A8,if_false,if_true,CB,Cm];refine gQ ?_;exact ⟨_,_,_,_,by omega,rfl⟩
   simp only [reduceCtorEq,A8,if_false,if_true,CB,Cm];refine gy1 e1 ?_;refine ⟨(i+1,G++G'),hlt,by dsimp only;omega,?_,?_⟩
   · dsimp only;rw [hc1]
   simp (maxSteps:=3000000) only [e3,go_sem,↓zA,↓reduceIte,↓reduceDIte] <;>try simp only [zB]
 obtain rfl:i=nblk p.length:=by omega
 have f1:(((16*nblk p.length:Nat):Int) < ((p.length:Nat):Int))=False:=eq_false (by omega)
 unfold chH;refine gy1 f1 ?_;exact ⟨_,_,_,_,Ag _,rfl⟩
theorem z9Y(key iv p:List UInt8)(hk:key.length=16)(hiv:iv.length=16)(hp:p.length≤131072):Iter Tryz.prog 166 [] [.iptr (.int .i64) 0 0,.iptr (.clp 169 (.slice .u8)) p 0,.iptr ModT (some (cipS key),iv) 0] (nblk p.length) (vwH key iv p):=by
 refine ⟨by kernel_rfl,fun l B J hJ yg=> ?_⟩
 refine (q1z (yFG hJ) fi166 ?_).2
 letI:Ghost:=topG (yFG hJ) []
 have hcut:=j1y hJ key iv p hk hiv hp yg;unfold chH at hcut;refine uQ 600 _ ?_
 with_reducible refine sxE ?_
 refine q8l hcut fun o H' hK=> ?_;obtain ⟨rfl,m,pv,b,G,hm,rfl⟩:=hK;refine ⟨_,rfl,?_⟩;refine uQ 600 _ ?_
 with_reducible refine sxE ?_
 exact ⟨_,_,rfl,rfl,hm⟩
def swpS(bs:List (List UInt8)):List (List UInt8):=(bs.set (bs.length-2) (bs.getD (bs.length-1) [])).set (bs.length-1) (bs.getD (bs.length-2) [])
def exgS(bs:List (List UInt8)):List (List UInt8):=if 1<bs.length then swpS bs else bs
theorem j3D(bs:List (List UInt8))(hl:bs.length≤1000000):PE Tryz.prog 153 [.ptr 0 0] [.cells 97 [.bld 1 (.slice .u8) bs.length],.row (.slice .u8) bs] (.ret (.tup [])) [.cells 97 [.bld 1 (.slice .u8) bs.length],.row (.slice .u8) (exgS bs)]:=by
 refine q0g (Ag _) ?_;refine q0V fi153 ?_
 by_cases h:1<bs.length
 · have f1:((1:Int) < ((bs.length:Nat):Int))=True:=eq_true (by omega)
   have e1:IntKind.i64.wrap (((bs.length:Nat):Int) -1)=((bs.length-1:Nat):Int):=by rw [wrapi (by omega)];omega
   have e2:IntKind.i64.wrap (((bs.length:Nat):Int) -2)=((bs.length-2:Nat):Int):=by rw [wrapi (by omega)];omega
   refine uQ 12 _ ?_;simp (maxSteps:=3000000) only [f1,go_sem,↓zA,↓reduceIte,↓reduceDIte] <;>try simp only [zB]
   refine q1N [1,999999,0] mixed ?_;refine gy2 e1 e2 ?_;refine ⟨⟨by omega,by omega⟩,by omega,⟨by omega,by omega⟩,by omega,⟨by omega,by omega⟩,by omega,⟨by omega,by omega⟩,by rw [A9];omega,?_⟩
   unfold exgS swpS;rw [if_pos h];simp only [Ac]
   first|done|rfl
 have f1:((1:Int) < ((bs.length:Nat):Int))=False:=eq_false (by omega)
 have he:exgS bs=bs:=if_neg h;rw [he];refine gy1 f1 ?_;trivial
theorem z6N(a b:List UInt8):xorS a b=xorS b a:=by
 unfold xorS;exact q5X fun j _=>UInt8.xor_comm _ _
theorem z4O(n:Nat):n+zpN n=16*nblk n:=by unfold zpN nblk;omega
theorem j1D(p:List UInt8){i:Nat}(hi:i<nblk p.length):blkC p i=((zpL p (zpN p.length)).take (16*i+16)).drop (16*i):=by
 have hz:=z4O p.length;have hn:nblk p.length=(p.length+15) / 16:=rfl;unfold zpL
 by_cases h:16*i+16≤p.length
 · rw [q2H p h,A1 h]
 rw [q6n p (by omega) (by omega),B2,Aa (show p.length≤16*i+16 by omega),Aa (Ag p.length),Bj (by omega),List.take_replicate,
  show min (16*i+16-p.length) (zpN p.length)=16- (p.length-16*i) by omega]
def cbl(key iv p:List UInt8)(n:Nat):List (List UInt8):=(List.range n).map fun i=>cpre key iv p (i+1)
theorem z2X(key iv p:List UInt8):∀n,n≤nblk p.length→chA (wordsS key) iv (zpL p (zpN p.length)) n=(cpre key iv p n,(cbl key iv p n).flatten)
 |0,_=>rfl
 |n+1,h=>by
  have hb:=j1D p (i:=n) (by omega)
  have he:encS (wordsS key) (xorS (((zpL p (zpN p.length)).take (16*n+16)).drop (16*n)) (cpre key iv p n))=cpre key iv p (n+1):=by
   rw [←hb,z6N];rfl
  rw [chA,z2X key iv p n (by omega)]
  dsimp only;rw [he];unfold cbl;rw [BE,Bh,BM];simp
theorem z4i(key iv p:List UInt8):chainS key iv (zpL p (zpN p.length))=(cbl key iv p (nblk p.length)).flatten:=by
 unfold chainS;rw [z0Z,z4O,Nat.mul_div_cancel_left _ (by decide),z2X key iv p _ (Ag _)]
theorem flat16:∀ (bs:List (List UInt8)),(∀b∈bs,b.length=16)→bs.flatten.length=16*bs.length
 | [],_=>rfl
 |b :: bs,h=>by
  rw [AL,Ad,flat16 bs (fun x hx=>h x (AO _ hx)),h b Bn,AK];omega
theorem j2v(l:List (List UInt8))(x y:List UInt8):swpS (l++ [x,y])=l++ [y,x]:=by
 unfold swpS;have h1:(l++ [x,y]).length=l.length+2:=by simp
 rw [h1,show l.length+2-2=l.length by omega,show l.length+2-1=l.length+1 by omega]
 have g1:(l++ [x,y]).getD (l.length+1) []=y:=by simp [Ab]
 have g0:(l++ [x,y]).getD l.length []=x:=by simp [Ab]
 rw [g1,g0];simp [List.set_append]
theorem z8d(bs:List (List UInt8))(h:∀b∈bs,b.length=16)(h2:2≤bs.length):(exgS bs).flatten=exchS bs.flatten:=by
 obtain ⟨l,x,y,rfl⟩:∃l x y,bs=l++ [x,y]:=by
  refine ⟨bs.take (bs.length-2),bs[bs.length-2],bs[bs.length-1],?_⟩;apply As
  · simp;omega
  intro j h1 h2;simp only [List.getElem_append,Ak];split
  · simp
  rename_i hj;have:j=bs.length-2∨j=bs.length-1:=by omega
  rcases this with rfl|rfl
  · simp [show min (bs.length-2) bs.length=bs.length-2 by omega]
  simp [show min (bs.length-2) bs.length=bs.length-2 by omega,show bs.length-1- (bs.length-2)=1 by omega]
 have hx:x.length=16:=h x (by simp)
 have hy:y.length=16:=h y (by simp)
 have hl:=flat16 l fun b hb=>h b (by simp [hb])
 unfold exgS;rw [if_pos (by simp),j2v]
 have e1:(l++ [x,y]).flatten=l.flatten++(x++y):=by simp
 have e2:(l++ [y,x]).flatten=l.flatten++(y++x):=by simp
 rw [e1,e2];unfold exchS;have hlen:(l.flatten++(x++y)).length=l.flatten.length+32:=by simp [hx,hy]
 rw [hlen,show l.flatten.length+32-32=l.flatten.length by omega,show l.flatten.length+32-16=l.flatten.length+16 by omega]
 have t1:(l.flatten++(x++y)).take l.flatten.length=l.flatten:=List.take_left ..;have t2:(l.flatten++(x++y)).drop (l.flatten.length+16)=y:=by
  rw [←List.append_assoc,Bj (by simp [hx])]
  simp [hx]
 have t3:((l.flatten++(x++y)).take (l.flatten.length+16)).drop l.flatten.length=x:=by
  rw [←List.append_assoc,A1 (by simp [hx]),Aa (by simp [hx])]
  simp
 rw [t1,t2,t3,List.append_assoc]
theorem z6j(key iv p:List UInt8)(hiv:iv.length=16)(h1:16≤p.length):(exgS (cbl key iv p (nblk p.length))).flatten.take p.length=ctsE key iv p:=by
 have hb:∀b∈cbl key iv p (nblk p.length),b.length=16:=by
  intro b hb;unfold cbl at hb;obtain ⟨i,_,rfl⟩:=Bx.1 hb;exact q2X _ _
 have hl:(cbl key iv p (nblk p.length)).length=nblk p.length:=by simp [cbl]
 have hn:nblk p.length=(p.length+15) / 16:=rfl;have hf:=flat16 _ hb;unfold ctsE;rw [z4i];dsimp only
 by_cases h2:2≤nblk p.length
 · rw [if_neg (by omega),z8d _ hb (by omega)]
 have h3:p.length=16:=by omega
 have he:exgS (cbl key iv p (nblk p.length))=cbl key iv p (nblk p.length):=if_neg (by omega)
 rw [if_pos (by omega),he,Aa (by omega)]
def flN(bs:List (List UInt8))(i:Nat):Nat:=(bs.take i).flatten.length
theorem z9s(bs:List (List UInt8)){i:Nat}(h:i<bs.length):flN bs (i+1)=flN bs i+ (bs.getD i []).length:=by
 unfold flN;rw [CF,Ae h,BM,Ad,Ab,Ae h];simp
theorem j4J(bs:List (List UInt8))(i:Nat):flN bs i≤bs.flatten.length:=by
 unfold flN
 conv=>rhs;rw [←A0 i bs,BM,Ad]
 omega
theorem j4i(bs:List (List UInt8))(h2:2≤bs.length)(h16:∀b∈bs,b.length=16)(hl:bs.length≤1000000)(hf:bs.flatten.length≤1000000):PC Tryz.prog 154 [.isl (.slice .u8) bs,.raw (.slice none 0 0)] (.isl .u8 bs.flatten):=by
 have f1:(((bs.length:Nat):Int)=0)=False:=eq_false (by omega)
 have f2:(((bs.length:Nat):Int)=1)=False:=eq_false (by omega)
 refine q0i rfl rfl ?_;refine q0V fi154 ?_;refine gy2 f1 f2 ?_;refine q0f (ι:=Nat) (fun i=>[(5,rI (flN bs i)),(44,rI i)]) (fun _=>[]) (fun i=>bs.length-i) (fun i=>i≤bs.length) 0 (Aj _) rfl ?_ fun i hi=> ?_
 · with_reducible refine sxE ?_
   rfl
 have hwr:=wsx i (by omega)
 by_cases hlt:i<bs.length
 · have g1:((i:Int) < ((bs.length:Nat):Int))=True:=eq_true (by omega)
   have hs:=z9s bs hlt;have hle:=j4J bs (i+1);have e1:IntKind.i64.wrap (9223372036854775807- ((flN bs i:Nat):Int))=((9223372036854775807-flN bs i:Nat):Int):=by rw [wrapi (by omega)];omega
   have e2:IntKind.i64.wrap (((flN bs i:Nat):Int)+ (((bs.getD i []).length:Nat):Int))=((flN bs (i+1):Nat):Int):=by rw [wrapi (by omega)];omega
   have g2:(((9223372036854775807-flN bs i:Nat):Int) < (((bs.getD i []).length:Nat):Int))=False:=eq_false (by omega)
   have e5:(Ty.slice .u8).dflt=([]:List UInt8):=rfl;refine gy7 g1 e5 e1 e2 g2 Ac Au ?_;refine ⟨⟨by omega,hlt⟩,i+1,hlt,by dsimp only;omega,rfl,?_⟩
   with_reducible refine sx1 hwr ?_;trivial
 obtain rfl:i=bs.length:=by omega
 have g1:(((bs.length:Nat):Int) < ((bs.length:Nat):Int))=False:=eq_false (by omega)
 have hfl:flN bs bs.length=bs.flatten.length:=by unfold flN;rw [AE]
 refine uQ 10 _ ?_
 with_reducible refine sy2 g1 hfl ?_
 have hso:(Tryz.prog.funcs[(170:Nat)]?).isSome=true:=by kernel_rfl
 refine j5b (fn:=Option.get _ hso) (ps:= #[3]) (t:=22) (e:=5) (n:=bs.flatten.length) rfl (Option.some_get hso).symm (by kernel_rfl) (by kernel_rfl) (by kernel_rfl) (by kernel_rfl) (by kernel_rfl) (by omega) fun xs hxs=> ?_
 obtain ⟨b0,r,rfl⟩:∃b0 r,bs=b0 :: r:=by
  cases bs with
  |nil=>simp at h2
  |cons b r=>exact ⟨b,r,rfl⟩
 have e0:((b0 :: r).getD 0 ([]:List UInt8))=b0:=rfl;have e5:(Ty.slice .u8).dflt=([]:List UInt8):=rfl;have hbl:b0.length≤(b0 :: r).flatten.length:=by simp
 have hmn:min b0.length ((b0 :: r).flatten.length-0)=b0.length:=by omega
 refine uQ 600 _ ?_;simp (maxSteps:=3000000) only [e5,e0,hmn,hxs,AE,Ac,go_sem,↓zA,↓reduceIte,↓reduceDIte] <;>try simp only [zB]
 have hb0:b0.length=16:=h16 b0 Bn;refine ⟨⟨by omega,Ag _⟩,by omega,⟨⟨hbl,by omega⟩,by omega⟩,⟨by omega,Ag _⟩,?_⟩
 have hfa:=flat16 (b0 :: r) h16;have hfn:∀i,i≤(b0 :: r).length→flN (b0 :: r) i=16*i:=fun i hi=>by
  unfold flN;rw [flat16 _ fun b hb=>h16 b (List.mem_of_mem_take hb),Ak,A5 hi]
 refine q0f (ι:=Nat) (fun i=>[(9,rI ((16* (i+1):Nat):Int)),(72,rI i)]) (fun i=>[.row .u8 (((b0 :: r).take (i+1)).flatten++xs.drop (16* (i+1)))]) (fun i=>r.length-i) (fun i=>i≤r.length) 0 (Aj _) ?_ ?_ fun i hi=> ?_
 · have e6:(List.take (0+1) (b0 :: r)).flatten=b0:=by simp
   rw [e6];rw [hb0]
 · with_reducible refine sx1 hb0 ?_;trivial
 have hrl:r.length+1≤1000000:=by simpa using hl
 have hwr:=wsx i (by omega)
 by_cases hlt:i<r.length
 · have k1:((i:Int) < ((r.length:Nat):Int))=True:=eq_true (by omega)
   have k2:(r.getD i ([]:List UInt8)).length=16:=h16 _ (AO _ (by rw [Ab,Ae hlt];exact Bu _))
   have k3:(((b0 :: r).take (i+1)).flatten).length=16* (i+1):=hfn (i+1) (by simp;omega)
   have k4:((((b0 :: r).take (i+1)).flatten++xs.drop (16* (i+1))).length)=16* (r.length+1):=by
    rw [Ad,k3,Al,hxs,hfa,AK];omega
   change (b0 :: List.take i r).flatten.length=_ at k3;change ((b0 :: List.take i r).flatten++xs.drop (16* (i+1))).length=_ at k4;have q1:IntKind.i64.wrap (((16* (i+1):Nat):Int)+0)=((16* (i+1):Nat):Int):=by rw [Int.add_zero,wrapi (by omega)]
   have q3:min 16 ((b0 :: r).flatten.length-0-16* (i+1))=16:=by rw [hfa,AK];omega
   have q4:IntKind.i64.wrap (((16* (i+1):Nat):Int)+16)=((16* (i+1+1):Nat):Int):=by rw [wrapi (by omega)];omega
   have q5:List.take 16 (r.getD i ([]:List UInt8))=r.getD i []:=Aa (by omega)
   have hfl2:(b0 :: r).flatten.length=16* (r.length+1):=by rw [hfa,AK]
   have q6:List.take (0+16* (i+1)) ((b0 :: List.take i r).flatten++List.drop (16* (i+1)) xs)++List.drop (0+16* (i+1)+0) ((b0 :: List.take i r).flatten++List.drop (16* (i+1)) xs)=(b0 :: List.take i r).flatten++List.drop (16* (i+1)) xs:=by
    simp only [Ac,AM,A0]
   refine uQ 600 _ ?_;simp (maxSteps:=3000000) only [k1,e5,k2,Nat.zero_min,q1,Au,q3,q4,q5,q6,k4,Ah,go_sem,↓zA,↓reduceIte,↓reduceDIte] <;>try simp only [zB]
   rw [hfl2];refine ⟨⟨by omega,hlt⟩,⟨by omega,by omega,Nat.le_refl _⟩,⟨⟨by omega,by omega⟩,by omega⟩,⟨by omega,by omega,Nat.le_refl _⟩,⟨⟨by omega,by omega⟩,by omega⟩,i+1,hlt,by dsimp only;omega,?_,?_⟩
   · have e7:(b0 :: List.take (i+1) r).flatten=(b0 :: List.take i r).flatten++r.getD i []:=by
      rw [AL,AL,q3u hlt,List.append_assoc]
     dsimp only;rw [e7];generalize (b0 :: List.take i r).flatten=A at*;generalize r.getD i []=y at*;rw [Ac,List.take_left' k3,←Bo,List.drop_left' k3,Bo,show 16* (i+1)+16=16* (i+1+1) by omega]
   with_reducible refine sx1 hwr ?_
   exact congrArg (Value.int IntKind.i64) q4
 obtain rfl:i=r.length:=by omega
 have k1:(((r.length:Nat):Int) < ((r.length:Nat):Int))=False:=eq_false (by omega)
 refine gy1 k1 ?_;have e8:List.drop (16* (r.length+1)) xs= []:=List.drop_of_length_le (by rw [hxs,hfa,AK];omega)
 rw [e8,Ah,AE,Cv,AE];exact ⟨⟨by omega,by omega⟩,rfl⟩
def oN(i:Nat):Nat:=32* ((i+31) / 32)
theorem z7d{l:List UInt8}{n:Nat}(h:n<l.length):l.take n++ [l.getD n 0]=l.take (n+1):=by
 rw [Ab,Ae h,A4,List.take_append_getElem h]
theorem j1L(key conf b:List UInt8)(hk:key.length≤70368744177664)(hc:conf.length≤4096)(hb:b.length≤1048576):PC Tryz.prog 55 [.isl .u8 key,.isl .u8 conf,.isl .u8 b] (.isl .u8 (ksS key conf b)):=by
 have hSl:=q2Z key conf b;obtain ⟨S,hS⟩:∃S,S=ksS key conf b:=⟨_,rfl⟩;rw [←hS] at hSl;refine q0i rfl rfl ?_;refine rQ fi55 ?_;rw [←hS];refine q3b 7 .u8 (fun i=>S.take (oN i)) (fun i=>[(8,rI i)]) b.length (fun _=>True) rfl (by simp) (by simp [oN]) rfl (fun i=>rfl) ?_ fun i hi _=> ?_
 · with_reducible refine sxE ?_;trivial
 have hwr:=wsx i (by omega)
 by_cases hlt:i<b.length
 · have f1:((i:Int) < ((b.length:Nat):Int))=True:=eq_true (by omega)
   have q1:(i:Int).tdiv 32=((i / 32:Nat):Int):=by rw [Bc (by omega)];rfl
   have q2:(i:Int).tmod 32=((i%32:Nat):Int):=by rw [Ar (by omega)];rfl
   have w1:IntKind.i64.wrap ((i / 32:Nat):Int)=((i / 32:Nat):Int):=wrapi (by omega)
   have w2:IntKind.i64.wrap ((i%32:Nat):Int)=((i%32:Nat):Int):=wrapi (by omega)
   have w3:IntKind.i64.wrap (((i / 32:Nat):Int)+1)=((i / 32+1:Nat):Int):=by rw [wrapi (by omega)];omega
   by_cases h0:i%32=0
   · have f2:(((i%32:Nat):Int)=0)=True:=eq_true (by omega)
     have hoi:oN i=i:=by unfold oN;omega
     have hil:(S.take i).length=i:=by rw [Ak];omega
     have hfe:[UInt8.ofNat (IntKind.u8.wrap (((i / 32+1:Nat):Int).fdiv (2^ min 24 64))).toNat,UInt8.ofNat (IntKind.u8.wrap (((i / 32+1:Nat):Int).fdiv (2^ min 16 64))).toNat,UInt8.ofNat (IntKind.u8.wrap (((i / 32+1:Nat):Int).fdiv (2^ min 8 64))).toNat,UInt8.ofNat (IntKind.u8.wrap ((i / 32+1:Nat):Int)).toNat]=four (i / 32+1):=by
      rw [byteN _ 24 (by decide),byteN _ 16 (by decide),byteN _ 8 (by decide),byteN0]
      rfl
     have hfl:=q5P (i / 32+1);refine gy7 f1 q1 q2 w1 w2 w3 f2 ?_;have tl:∀l:List UInt8,l.length=conf.length+4→List.take (conf.length+4) l=l:=fun l h=>Aa (by omega)
     refine ⟨by decide,by decide,by omega,⟨q0Z _,q0Z _,q0Z _,q0Z _⟩,by omega,?_⟩
     rw [hfe];have hcl:(conf++four (i / 32+1)).length=conf.length+4:=by rw [Ad,hfl]
     have hsb:∀k,k<32→i+k<b.length→S.getD (i+k) 0=b.getD (i+k) 0^^^ (hmS key (conf++four (i / 32+1))).getD k 0:=fun k hk hb=>by
      rw [hS,z0P _ _ _ hb,ksB,show (i+k) / 32=i / 32 by omega,show (i+k)%32=k by omega]
     generalize conf++four (i / 32+1)=cf at*;have hhl:=q2o key cf;refine q0k 4 ?_;simp (maxSteps:=3000000) only [tl cf hcl,go_sem,↓zA,↓reduceIte,↓reduceDIte] <;>try simp only [zB]
     refine ⟨by omega,by omega,q0a (q9g key cf hk (by omega)) ?_⟩
     generalize hmS key cf=h at*;rw [hoi];refine uQ 600 _ ?_
     with_reducible refine sxE ?_
     refine q2t (ι:=Nat) [25,27,39,40] (fun k=>[(7,.bld 0 .u8 (i+k)),(11,rI k)]) (fun k=>[.row .u8 (S.take (i+k))]) (fun k=>32-k) (fun k=>k≤32∧i+k≤b.length) 0 (by omega) (le0 (σ:=fun h=>0) ?_ ?_ ?_ ?_ ?_) ?_
     · with_reducible refine sx1 hil ?_
       rfl
     · exact ⟨rfl,trivial⟩
     · kernel_rfl
     · kernel_rfl
     · kernel_rfl
     intro k hk';have hkw:IntKind.i64.wrap ((k:Int)+1)=((k+1:Nat):Int):=q2m (by omega)
     have e1:IntKind.i64.wrap ((i:Int)+ (k:Int))=((i+k:Nat):Int):=by rw [wrapi (by omega)];omega
     have hikl:(S.take (i+k)).length=i+k:=by rw [Ak];omega
     by_cases h3:k<32
     · have f3:((k:Int) <32)=True:=eq_true (by omega)
       by_cases h4:i+k<b.length
       · have f4:(((i+k:Nat):Int) < ((b.length:Nat):Int))=True:=eq_true (by omega)
         have hse:=hsb k h3 h4;have htk:List.take (i+k) (S.take (i+k))=S.take (i+k):=Aa (by omega)
         refine uQ 18 _ ?_
         with_reducible refine sy3 f3 f4 e1 ?_
         refine q1N [] mixed ?_;refine uQ 600 _ ?_;simp (maxSteps:=3000000) only [e1,xor8,AC,Au,hikl,htk,Ac,hhl,go_sem,↓zA,↓reduceIte,↓reduceDIte] <;>try simp only [zB]
         refine ⟨by omega,by omega,by omega,?_⟩
         refine roundR (fun _=>2) (k+1) (by omega) (by omega) ?_ ?_ ?_ ?_ ?_
         · with_reducible refine sx1 hkw ?_
           rfl
         · exact ⟨congrArg (fun x=>some (SObj.row .u8 x)) (by show List.take (i+k) S++ [b.getD (i+k) 0^^^ h.getD k 0]=_;rw [←hse];exact z7d (by omega)),trivial⟩
         · kernel_rfl
         · kernel_rfl
         kernel_rfl
       have f4:(((i+k:Nat):Int) < ((b.length:Nat):Int))=False:=eq_false (by omega)
       have hT:S.take (i+k)=S.take (oN (i+1)):=by rw [show oN (i+1)=i+32 by unfold oN;omega,Aa (by omega),Aa (by omega)]
       have hTl:(S.take (oN (i+1))).length=i+k:=by rw [←hT];exact hikl
       refine gy3 f3 f4 e1 ?_;refine q1s [] [] hlt trivial (by rw [hT];rfl) ?_
       with_reducible refine sy2 hwr hTl ?_;trivial
     have f3:((k:Int) <32)=False:=eq_false (by omega)
     have hT:S.take (i+k)=S.take (oN (i+1)):=by rw [show oN (i+1)=i+k by unfold oN;omega]
     have hTl:(S.take (oN (i+1))).length=i+k:=by rw [←hT];exact hikl
     refine gy1 f3 ?_;refine q1s [] [] hlt trivial (by rw [hT];rfl) ?_
     with_reducible refine sy2 hwr hTl ?_;trivial
   have f2:(((i%32:Nat):Int)=0)=False:=eq_false (by omega)
   refine gy7 f1 q1 q2 w1 w2 w3 f2 ?_;refine ⟨by decide,by decide,?_⟩
   have hT:S.take (oN i)=S.take (oN (i+1)):=by rw [show oN (i+1)=oN i by unfold oN;omega]
   rw [hT];refine q1s [] [] hlt trivial rfl ?_
   with_reducible refine sx1 hwr ?_;trivial
 obtain rfl:i=b.length:=by omega
 have f1:(((b.length:Nat):Int) < ((b.length:Nat):Int))=False:=eq_false (by omega)
 have ht:S.take (oN b.length)=S:=Aa (by unfold oN;omega)
 refine uQ 600 _ ?_;rw [ht];simp (maxSteps:=3000000) only [f1,go_sem,↓zA,↓reduceIte,↓reduceDIte] <;>try simp only [zB]
 exact ⟨by omega,AE⟩
def whN(n:Nat):Nat:=(n+15) / 16*16
def unexS(w c:List UInt8):List UInt8:=
 let f:=(c.take (whN c.length-16)).drop (whN c.length-32)
 let k:=c.drop (whN c.length-16)
 c.take (whN c.length-32)++(k++(decS w f).drop k.length)++f
def dchA(w iv ch:List UInt8):Nat→List UInt8×List UInt8
 |0=>(iv,[])
 |n+1=>((ch.take (16*n+16)).drop (16*n),(dchA w iv ch n).2++xorS (decS w ((ch.take (16*n+16)).drop (16*n))) (dchA w iv ch n).1)
def unchS(w iv ch:List UInt8):List UInt8:=(dchA w iv ch (ch.length / 16)).2
def ctsD(key iv c:List UInt8):List UInt8:=
 if c.length=16 then xorS (decS (wordsS key) c) iv else (unchS (wordsS key) iv (unexS (wordsS key) c)).take c.length
theorem z9T(w iv ch:List UInt8)(hi:iv.length=16)(n:Nat)(hn:16*n≤ch.length):(dchA w iv ch n).1.length=16∧(dchA w iv ch n).2.length=16*n:=by
 induction n with
 |zero=>exact ⟨hi,rfl⟩
 |succ n ih=>
  refine ⟨?_,?_⟩
  · rw [dchA];simp only [Al,Ak];omega
  rw [dchA];simp only [Ad,(ih (by omega)).2,q3a];omega
theorem z5I(w c:List UInt8)(hc:16<c.length):(unexS w c).length=whN c.length:=by
 unfold unexS;simp only [Ad,Ak,Al,q4M];unfold whN;omega
theorem z4E(c:List UInt8)(h:32≤c.length):(exchS c).length=c.length:=by
 unfold exchS;simp only [Ad,Ak,Al];omega
theorem z2B(key iv p:List UInt8)(hi:iv.length=16)(h1:16≤p.length):(ctsE key iv p).length=p.length:=by
 have hc:=q7L key iv (zpL p (zpN p.length)) hi;rw [z0Z] at hc;have hz:zpN p.length=(16-p.length%16)%16:=rfl;unfold ctsE;simp only;split
 · omega
 rw [Ak,z4E _ (by omega)]
 omega
theorem z5G(w iv ch:List UInt8)(hi:iv.length=16):(unchS w iv ch).length=16* (ch.length / 16):=(z9T w iv ch hi _ (by omega)).2
theorem q8j(key iv c:List UInt8)(hi:iv.length=16)(h1:16≤c.length):(ctsD key iv c).length=c.length:=by
 unfold ctsD;split
 · rw [q3a];omega
 rw [Ak,z5G _ _ _ hi,z5I _ _ (by omega)]
 unfold whN;omega
theorem j3m:z16.length=16:=rfl
def ciS(k:Key)(u:Nat)(conf plain:List UInt8):List UInt8:=if k.1=1 then ctsE (dkS k u 170) z16 (conf++plain) else conf++ksS (dkS k u 170) conf plain
def unS(k:Key)(u:Nat)(c:List UInt8):List UInt8:=if k.1=1 then (ctsD (dkS k u 170) z16 c).drop 16 else ksS (dkS k u 170) (c.take 16) (c.drop 16)
def seS(k:Key)(u:Nat)(conf plain:List UInt8):List UInt8:=ciS k u conf plain++tg9S k u (ciS k u conf plain)
def opS(k:Key)(u:Nat)(sp sv:Int)(sb:List UInt8):List UInt8×Int:=
 if uOk k u=true then
  if sp=k.1∧(sv=k.2.1∨sv=0∨k.2.1=0) then
   if sb.length<16+k.2.2.length then ([],4)
   else if 65552+k.2.2.length<sb.length then ([],5)
   else if tg9S k u (sb.take (sb.length-k.2.2.length))=sb.drop (sb.length-k.2.2.length) then (unS k u (sb.take (sb.length-k.2.2.length)),0)
   else ([],10)
  else ([],9)
 else ([],2)
theorem q2N{k:Key}{u:Nat}(h:uOk k u=true):vKey k=true∧u≤1023∧((k.2.2.length:Nat):Int)=keyLen k.1∧k.2.2.length≤32∧(k.1=1→k.2.2.length=16)∧(k.1≠1→k.1=2∧k.2.2.length=32):=by
 unfold uOk at h;simp only [Am,decide_eq_true_eq] at h;have hv:=h.1;unfold vKey at hv;simp only [Am,decide_eq_true_eq] at hv;have h1:=hv.2.1;have h2:=hv.1;refine ⟨h.1,by omega,h1,?_⟩
 unfold keyLen at h1 h2;split at h1
 · rename_i hp;exact ⟨by omega,fun _=>by omega,fun hn=>absurd hp hn⟩
 rename_i hp;split at h1
 · rename_i hp2;exact ⟨by omega,fun hn=>absurd hn hp,fun _=>⟨hp2,by omega⟩⟩
 rename_i hp2;rw [if_neg hp,if_neg hp2] at h2;exact absurd rfl h2
theorem j5e(b:List UInt8)(hb:b.length=16):PC Tryz.prog 154 [.isl (.slice .u8) [b],.raw (.slice none 0 0)] (.isl .u8 b):=by
 have f1:(((1:Nat):Int)=0)=False:=eq_false (by decide)
 have f2:(((1:Nat):Int)=1)=True:=eq_true (by decide)
 have e5:(Ty.slice .u8).dflt=([]:List UInt8):=rfl;refine q0i rfl rfl ?_;refine q0V fi154 ?_;refine gy4 f1 f2 e5 hb ?_;exact Aa (by omega)
theorem j1j(bs:List (List UInt8))(h1:1≤bs.length)(h16:∀b∈bs,b.length=16)(hl:bs.length≤10000):PC Tryz.prog 154 [.isl (.slice .u8) bs,.raw (.slice none 0 0)] (.isl .u8 bs.flatten):=by
 by_cases h2:2≤bs.length
 · exact j4i bs h2 h16 (by omega) (by rw [flat16 bs h16];omega)
 obtain ⟨b,rfl⟩:=Bt.1 (show bs.length=1 by omega)
 rw [BA];exact j5e b (h16 b Bn)
def ceC(m:List SV)(i:Nat)(G:List SObj)(acc:List (List UInt8)):List SObj:=.cells 184 m :: .cells 97 [.bld (G.length+2) (.slice .u8) i] :: (G++ [.row (.slice .u8) acc])
def quG(G:List SObj):Prop:=∀ (h:Nat) (t:Ty) (xs:List t.den),frzObH h t xs G
theorem z5J:quG []:=fun _ _ _=>trivial
theorem z6n{G L:List SObj}(h:quG G)(h':quG L):quG (G++L):=fun _ _ _=>q1p (h _ _ _) (h' _ _ _)
def ceH(m:List SV)(key iv p:List UInt8)(i:Nat)(H':List SObj):Prop:=∃G,quG G∧H'=ceC m i G (cbl key iv p i)
theorem z9V(key iv p:List UInt8)(i:Nat):cbl key iv p (i+1)=cbl key iv p i++ [cpre key iv p (i+1)]:=by
 unfold cbl;rw [BE,Bh];rfl
theorem z7e(key iv p:List UInt8)(i:Nat):(cbl key iv p i).length=i:=by simp [cbl]
theorem j4Y(key iv p:List UInt8)(i:Nat):∀b∈cbl key iv p i,b.length=16:=by
 intro b hb;unfold cbl at hb;obtain ⟨i,_,rfl⟩:=Bx.1 hb;exact q2X _ _
theorem z8i(bs:List (List UInt8)):(exgS bs).length=bs.length:=by
 unfold exgS swpS;split<;>simp
theorem j3u(bs:List (List UInt8))(h:∀b∈bs,b.length=16):∀b∈exgS bs,b.length=16:=by
 unfold exgS;split
 · rename_i h1;have hg:∀j,j<bs.length→(bs.getD j []).length=16:=fun j hj=>h _ (by rw [Ab,Ae hj];exact Bu _)
   intro b hb;unfold swpS at hb;rcases CC hb with hb|rfl
   · rcases CC hb with hb|rfl
     · exact h b hb
     exact hg _ (by omega)
   exact hg _ (by omega)
 exact h
theorem j1Z(key iv p:List UInt8)(hk:key.length=16)(hi:iv.length=16)(h1:16≤p.length)(hp:p.length≤131072):PC Tryz.prog 137 [.isl .u8 key,.isl .u8 iv,.isl .u8 p] (.tup [.isl .u8 (ctsE key iv p),rI 0]):=by
 have hst:=q9k key iv hk hi;have hck:=z3s p h1 hp;have hcu:=j0w p (by omega)
 have hch:=z8e key iv p hk hi hp;have hit:=z9Y key iv p hk hi hp;have hpr:=z6j key iv p hi h1;have hel:=z2B key iv p hi h1;have hn:nblk p.length=(p.length+15) / 16:=rfl;unfold modS at hst;unfold chnF at hch;generalize cipS key=cp at*;refine q0q rfl rfl (q4g (q1z noFG fi137 ?_))
 letI:Ghost:=topG noFG []
 refine uQ 600 _ ?_
 with_reducible refine sxE ?_
 refine q0a hst ?_;refine uQ 600 _ ?_
 with_reducible refine sxE ?_
 refine q0a hck ?_;refine uQ 600 _ ?_
 with_reducible refine sxE ?_
 refine q0a hcu ?_;refine uQ 600 _ ?_
 with_reducible refine sxE ?_
 refine q0a hch ?_;refine uQ 600 _ ?_
 with_reducible refine sxE ?_
 refine q5k 1 0 (.slice .u8) rfl rfl rfl ?_;refine z3Z (ceH [.iptr CipT cp 0,.isl .u8 iv] key iv p) (fun _ _ _=>False) rfl rfl rfl hit (fun i n args' new h=>by rw [h.1];rfl) ⟨[],z5J,rfl⟩ rfl ?_ ?_ ?_
 · rintro i _ args' new hi' ⟨G,hG,rfl⟩ ⟨rfl,rfl⟩ L1 L2
   letI:Ghost:=pinG noFG L1
   rw [Ah];have hal:=z7e key iv p i;have hac:=z9V key iv p i;have hbl:=z2z key iv p hi (i+1);generalize cbl key iv p i=a at*;generalize cpre key iv p (i+1)=b at*;unfold ceC;refine uQ 600 _ ?_;simp only [putL,BC]
   with_reducible refine sxaE ?_
   letI:Ghost:=pinG noFG L2
   refine gya2 hal hbl ?_;have hi2:i< (p.length+15) / 16:=hi';refine ⟨⟨by omega,by omega⟩,G++ [.dead,.row (.slice .u8) [b]],z6n hG (fun _ _ _=>by simp [frzObH,SObj.frzOb]),?_⟩
   rw [hac];simp [ceC]
 · rintro D _ ⟨G,hG,rfl⟩;unfold ceC
   letI:Ghost:=topG noFG [D]
   have hal:=z7e key iv p (nblk p.length);have hal6:=j4Y key iv p (nblk p.length);generalize cbl key iv p (nblk p.length)=a at*;have hxl:=z8i a;have hx16:=j3u a hal6;have hex:=j3D a (by omega)
   have hjo:=j1j (exgS a) (by omega) hx16 (by omega)
   have hfl:=flat16 (exgS a) hx16;generalize exgS a=x at*;refine uQ 600 _ ?_
   with_reducible refine sxaE ?_
   rw [←hal];refine q0j [1,G.length+2] hex rfl (by simp) ?_ rfl rfl ?_
   · simp (maxSteps:=3000000) only [atH,sig,SObj.ren,SV.ren,SV.renL,SObj.live,List.append_assoc,getA,getA0,setA,setA0,Ad,Nat.add_assoc,go_sem,↓zA,↓reduceIte,↓reduceDIte] <;>try simp only [zB]
   simp only [afterO,Out.ren,SV.ren,mgA,sig,SObj.ren,SV.renL,List.set,List.map,Ah];refine uQ 3 _ ?_
   with_reducible refine sxaE ?_
   refine q1b (G.length+2) (ty:=.slice .u8) (xs:=x) rfl (by simp) (by omega) ?_ ?_ ?_
   · with_reducible refine sxaE ?_
     exact ⟨by omega,q1p (hG _ _ _) ⟨trivial,trivial⟩⟩
   · with_reducible refine sxaE ?_;trivial
   have htk:List.take a.length x=x:=Aa (by omega)
   with_reducible refine sya1 htk ?_
   generalize (List.map (SObj.frz (G.length+2) (Ty.slice .u8) x) G++ [SObj.row (Ty.slice .u8) x]).set G.length SObj.dead=T;refine uQ 600 _ ?_
   with_reducible refine sxE ?_
   refine q0a hjo ?_;refine gy1 hpr ?_;refine ⟨⟨by omega,by omega⟩,q0a (q2b (ctsE key iv p) (by omega)) ?_⟩
   refine uQ 600 _ ?_
   with_reducible refine sxE ?_;trivial
 rintro D i ex _ hi' h;exact h.elim
def unxS(w:List UInt8)(n:Nat)(bs:List (List UInt8)):List (List UInt8):=
 if bs.length=1 then bs else
  (bs.set (bs.length-2) ((bs.getD (bs.length-1) []).take (n-16* (bs.length-1))++(decS w (bs.getD (bs.length-2) [])).drop (n-16* (bs.length-1)))).set (bs.length-1) (bs.getD (bs.length-2) [])
theorem j2n(key iv c:List UInt8)(bs:List (List UInt8))(hk:key.length=16)(h16:∀b∈bs,b.length=16)(hc:c.length≤131072)(h1:1≤bs.length)(hn:16* (bs.length-1) <c.length)(hn2:c.length≤16*bs.length):
 PE Tryz.prog 155 [.ptr 0 0,.ptr 1 0,.ptr 2 0] [.cells 97 [.bld 3 (.slice .u8) bs.length],.cells 22 [.isl .u8 c],.cells 184 (modS key iv),.row (.slice .u8) bs] (.ret (.tup []))
  [.cells 97 [.bld 3 (.slice .u8) bs.length],.cells 22 [.isl .u8 c],.cells 184 (modS key iv),.row (.slice .u8) (unxS (wordsS key) c.length bs)]:=by
 refine q0g (Ag _) ?_;refine q0V fi155 ?_;unfold unxS
 by_cases h:bs.length=1
 · have f1:(((bs.length:Nat):Int)=1)=True:=eq_true (by omega)
   rw [if_pos h];unfold modS;generalize cipS key=cp at*;refine gy1 f1 ?_;trivial
 have f1:(((bs.length:Nat):Int)=1)=False:=eq_false (by omega)
 have e1:IntKind.i64.wrap (((bs.length:Nat):Int) -1)=((bs.length-1:Nat):Int):=by rw [wrapi (by omega)];omega
 have e2:IntKind.i64.wrap (((bs.length:Nat):Int) -2)=((bs.length-2:Nat):Int):=by rw [wrapi (by omega)];omega
 have e3:IntKind.i64.wrap (16* ((bs.length-1:Nat):Int))=((16* (bs.length-1):Nat):Int):=by rw [wrapi (by omega)];omega
 obtain ⟨k,hkn⟩:∃k,k=c.length-16* (bs.length-1):=⟨_,rfl⟩;have e4:IntKind.i64.wrap (((c.length:Nat):Int) - ((16* (bs.length-1):Nat):Int))=(k:Int):=by rw [wrapi (by omega)];omega
 have hg:∀j,j<bs.length→(bs.getD j []).length=16:=fun j hj=>h16 _ (by rw [Ab,Ae hj];exact Bu _)
 have hg1:=hg (bs.length-1) (by omega)
 have hg2:=hg (bs.length-2) (by omega)
 have hap:=q9O key iv (bs.getD (bs.length-2) []) hk hg2;have hdl:=q4M (wordsS key) (bs.getD (bs.length-2) []);rw [if_neg h,←hkn];unfold modS at*;have e5:(Ty.slice .u8).dflt=([]:List UInt8):=rfl;generalize hx1:bs.getD (bs.length-1) []=x1 at*;generalize hx2:bs.getD (bs.length-2) []=x2 at*;generalize decS (wordsS key) x2=dx at*;generalize cipS key=cp at*;refine uQ 600 _ ?_;simp (maxSteps:=3000000) only [f1,e1,e2,e3,e4,e5,Ac,Au,hx2,go_sem,↓zA,↓reduceIte,↓reduceDIte] <;>try simp only [zB]
 refine ⟨⟨by omega,by omega⟩,by omega,?_⟩
 refine q0a hap ?_;refine uQ 3 _ ?_
 with_reducible refine sxE ?_
 refine q1N [0,3] mixed ?_;have htl:List.take dx.length dx=dx:=AE;refine uQ 14 _ ?_
 with_reducible refine sy6 e1 e5 Ac Au hx1 htl ?_
 refine ⟨⟨by omega,by omega⟩,by omega,⟨by omega,Ag _,by omega⟩,⟨by omega,by omega,Ag _⟩,⟨by rw [Ak,Al];omega,by rw [Ak,Al];omega⟩,?_⟩
 refine q1N [3,999999,0] mixed ?_;refine gy3 e1 e2 e5 ?_;refine ⟨⟨by omega,by omega⟩,by omega,⟨by omega,by omega⟩,by rw [A9];omega,?_⟩
 simp only [Ac]
def mixC(e x:UInt8):Prop:=
 (mulS 14 (mulS 2 x) ^^^ mulS 11 x^^^ mulS 13 x^^^ mulS 9 (mulS 3 x)=x)∧(mulS 14 (mulS 3 x) ^^^ mulS 11 (mulS 2 x) ^^^ mulS 13 x^^^ mulS 9 x=e)
 ∧(mulS 14 x^^^ mulS 11 (mulS 3 x) ^^^ mulS 13 (mulS 2 x) ^^^ mulS 9 x=e)∧(mulS 14 x^^^ mulS 11 x^^^ mulS 13 (mulS 3 x) ^^^ mulS 9 (mulS 2 x)=e)
instance (e x:UInt8):Decidable (mixC e x):=by unfold mixC;infer_instance
theorem z8A(z:List UInt8)(n:Nat):z.take (16*n)++(z.take (16*n+16)).drop (16*n)=z.take (16* (n+1)):=by
 have h:(z.take (16*n+16)).take (16*n)=z.take (16*n):=by rw [List.take_take];congr 1;omega
 rw [←h,A0];rfl
end Go.Proofs.YtikapabgggphpaaGreatDoor
