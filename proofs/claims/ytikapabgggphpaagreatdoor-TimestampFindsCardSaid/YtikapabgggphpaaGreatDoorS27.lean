/- CTS: the program's chain. -/
import Derived.Test.YtikapabgggphpaaGreatDoorS26
set_option linter.all false
namespace Go.Proofs.YtikapabgggphpaaGreatDoor
open Go Go.Sx Go.Proofs
set_option maxRecDepth 100000
set_option maxHeartbeats 40000000
abbrev ModT:Ty:=.prod (.ptr CipT) (.slice .u8)
abbrev chnF(key iv p:List UInt8):SV:=.fn 166 [] [.iptr (.int .i64) 0 0,.iptr (.clp 169 (.slice .u8)) p 0,.iptr ModT (some (cipS key),iv) 0]
theorem z8f(key iv p:List UInt8)(hk:key.length=16)(hi:iv.length=16)(hp:p.length≤131072):PC Tryz.prog 151 [.isl .u8 key,.isl .u8 iv,cutF p] (chnF key iv p):=by
 have hs:=q9v key iv hk hi;have hcok:=j0t key hk;unfold modS at hs;unfold chnF;generalize cipS key=cp at*;refine q0p rfl rfl ?_;refine q0Z fi151 ?_;refine gQ ?_;refine q0a hs ?_;refine uQ 9 _ ?_;with_reducible refine sxE ?_
 refine q2l 5 0 (ty:=.clp 169 (.slice .u8)) (x:=p) rfl ⟨by omega,fun _ _=>trivial⟩ rfl rfl ?_
 refine q2l 7 1 (ty:=ModT) (x:=(some cp,iv)) rfl ⟨fun y h=>by cases h;exact hcok,by show iv.length≤_;omega,fun _ _=>trivial⟩ rfl rfl ?_
 refine q2l 8 2 (ty:=.int .i64) (x:=0) rfl trivial rfl rfl ?_;refine gQ ?_;trivial
def cpre(key iv p:List UInt8):Nat→List UInt8
 |0=>iv
 |n+1=>encS (wordsS key) (xorS (cpre key iv p n) (blkC p n))
theorem z3E(key iv p:List UInt8)(hi:iv.length=16):∀n,(cpre key iv p n).length=16
 |0=>hi
 |_+1=>q3J _ _
def vwH(key iv p:List UInt8):Nat→Nat→List SV→List SObj→Prop:=fun i _ args' new=>args'= [.isl .u8 (cpre key iv p (i+1))]∧new= []
abbrev yC(l:Nat):SV:=.raw (.func (.yield l) #[] #[])
theorem z5g{l B N:Nat}{J:Nat→(Nat→Prop)→World→(Nat→Prop)→Prop}(hJ:FJ B J){vw:Nat→Nat→List SV→List SObj→Prop}(yg:YG Tryz.prog l B N J vw){i:Nat}(hi:i<N)(key iv pv bk:List UInt8)(hk:key.length=16)(hp:pv.length=16)(hb:bk.length=16)
 (hvw:∀n,vw i n [.isl .u8 (encS (wordsS key) (xorS pv bk))] [])(G:List SObj): @VCG (fgG (yFG hJ)) Tryz.prog 167 [.isl .u8 bk,.ptr 3 0,.iptr ModT (some (cipS key),iv) 0,.ptr 2 0,.ptr 1 0]
  (.mark i :: .cells 206 [yC l] :: .cells 22 [.isl .u8 pv] :: .cells 4 [.raw (.bool false)] :: G)
  (fun o H'=>∃b:Bool,o= .ret (.raw (.bool b))∧∃G',H'= .mark (if b then i+1 else N+1+i) :: .cells 206 [yC l] :: .cells 22 [.isl .u8 (encS (wordsS key) (xorS pv bk))] :: .cells 4 [.raw (.bool (!b))] :: (G++G')):=by
 refine q1z (yFG hJ) fi167 ?_
 letI:Ghost:=topG (yFG hJ) []
 have hco:=q7n pv bk hp hb;have hap:=z5y key iv (xorS pv bk) hk (q2V _ _);have hel:=q3J (wordsS key) (xorS pv bk);unfold modS at hap;generalize cipS key=cp at*;generalize hy:encS (wordsS key) (xorS pv bk)=y at*;generalize xorS pv bk=x at*;have hcl:=q1X y (by omega)
 have f1:(((16:Nat):Int)=16)=True:=eq_true rfl;refine uQ 17 _ ?_;with_reducible refine sy2 hb f1 ?_
 refine q1N [2] mixed ?_;refine gQ ?_;refine cR hco ?_;refine q0e hap ?_;refine uQ 3 _ ?_;with_reducible refine sxE ?_
 refine q1N [1,2] mixed ?_;refine gQ ?_;refine cR hcl ?_;refine z9n (.cells 206 [yC l] :: .cells 22 [.isl .u8 y] :: .cells 4 [.raw (.bool false)] :: G) hJ yg hi (fun n=>⟨_,_,hvw n,q1e rfl⟩) fun b=>⟨fun _=> ?_,?_⟩
 · simp [q2g,q2I]
 cases b
 · refine gQ ?_;exact ⟨[],by rw [Ah]⟩
 refine gQ ?_;exact ⟨[],by rw [Ah]⟩
theorem q8n{P:Program}{AQ:Ex→List SV→List SObj→Prop}{k0:Nat}{td:List IT}{t:List SV}{d:Option Tmp}{g:FG}{f:FuncId}{args:List SV}{H:List SObj}{K:Out→List SObj→Prop}(h: @VCG (fgG g) P f args H K)
 (hk:∀o H',K o H'→∃s,o= .ret s∧ @SoundI (topG g []) P AQ ⟨k0,td,putT t d s,H'⟩): @CallI (topG g []) P AQ f args d ⟨k0,td,t,H⟩:=
 have h':=j4R h
 ⟨h'.1, @VCallG.mono (topG g []) P f args H K _ h'.2 fun o H' hK=>by obtain ⟨s,rfl,hs⟩:=hk o H' hK;exact hs⟩
def chH(l:Nat)(m:Nat)(pv:List UInt8)(b:Bool)(G:List SObj):List SObj:=.mark m :: .cells 206 [yC l] :: .cells 22 [.isl .u8 pv] :: .cells 4 [.raw (.bool b)] :: G
theorem j1m{l B:Nat}{J:Nat→(Nat→Prop)→World→(Nat→Prop)→Prop}(hJ:FJ B J)(key iv p:List UInt8)(hk:key.length=16)(hiv:iv.length=16)(hp:p.length≤131072)(yg:YG Tryz.prog l B (nblk p.length) J (vwH key iv p)):
 @VCG (fgG (yFG hJ)) Tryz.prog 169 [.fn 167 [] [.ptr 3 0,.iptr ModT (some (cipS key),iv) 0,.ptr 2 0,.ptr 1 0],.iptr (.slice .u8) p 0]
  (chH l 0 iv false []) (fun o H'=>o= .ret (.tup [])∧∃m pv b G,nblk p.length≤m∧H'=chH l m pv b G):=by
 refine q1z (yFG hJ) fi169 ?_
 letI:Ghost:=topG (yFG hJ) []
 refine gQ ?_;refine q0d (ι:=Nat×List SObj) (fun s=>[(3,rI ((16*s.1:Nat):Int))]) (fun s=>chH l s.1 (cpre key iv p s.1) false s.2) (fun s=>nblk p.length-s.1) (fun s=>s.1≤nblk p.length) (0,[]) (Ai _) rfl ?_ ?_
 · with_reducible refine sxE ?_;trivial
 rintro ⟨i,G⟩ hi;dsimp only at hi;have hpl:=z3E key iv p hiv i;have hn:nblk p.length=(p.length+15) / 16:=rfl;by_cases hlt:i<nblk p.length
 · have f1:(((16*i:Nat):Int) < ((p.length:Nat):Int))=True:=eq_true (by omega)
   have e1:IntKind.i64.wrap (((16*i:Nat):Int)+16)=((16*i+16:Nat):Int):=by rw [wrapi (by omega)];omega
   have e3:((16* (i+1):Nat):Int)=((16*i+16:Nat):Int):=by omega
   have hbl:=q3D p hlt;have hst:=z5g hJ yg hlt key iv (cpre key iv p i) (blkC p i) hk hpl hbl (fun n=>⟨rfl,rfl⟩) G;have hnx:cpre key iv p (i+1)=encS (wordsS key) (xorS (cpre key iv p i) (blkC p i)):=rfl;rw [←hnx] at hst;clear hnx;generalize hc1:cpre key iv p (i+1)=y at hst;generalize hc0:cpre key iv p i=pv at*;unfold chH;by_cases hf:16*i+16≤p.length
   · have hb:=q2C p hf;have e2:mxV false ((16*i+16:Nat):Int) ((p.length:Nat):Int)=((16*i+16:Nat):Int):=by unfold mxV;simp;omega
     have f2:(((blkC p i).length:Int) <16)=False:=eq_false (by omega)
     refine uQ 600 _ ?_;simp (maxSteps:=3000000) only [f1,f2,e1,e2,←hb,Aq,hc0,go_sem,↓zA,↓reduceIte,↓reduceDIte] <;>try simp only [zB]
     refine ⟨⟨by omega,by omega,by omega,by omega⟩,q8n hst fun o H' hK=> ?_⟩
     obtain ⟨b,rfl,G',rfl⟩:=hK;refine ⟨_,rfl,?_⟩;cases b
     · simp only [reduceCtorEq,A9,if_false,if_true,CA,Ck];refine gQ ?_;exact ⟨_,_,_,_,by omega,rfl⟩
     simp only [reduceCtorEq,A9,if_false,if_true,CA,Ck];refine gy1 e1 ?_;refine ⟨(i+1,G++G'),hlt,by dsimp only;omega,?_,?_⟩
     · dsimp only;rw [hc1]
     simp (maxSteps:=3000000) only [e3,go_sem,↓zA,↓reduceIte,↓reduceDIte] <;>try simp only [zB]
   have hb:=q7j p (i:=i) (by omega) (by omega)
   have hr:((p.take p.length).drop (16*i)).length=p.length-16*i:=by rw [Al,Aj];omega
   have e2:mxV false ((16*i+16:Nat):Int) ((p.length:Nat):Int)=((p.length:Nat):Int):=by unfold mxV;simp;omega
   generalize hrr:(p.take p.length).drop (16*i)=r at hb hr;have f2:((r.length:Int) <16)=True:=eq_true (by omega)
   have e4:IntKind.i64.wrap (16- (r.length:Int))=((16- (p.length-16*i):Nat):Int):=by rw [wrapi (by omega)];omega
   have e5:Ty.u8.dflt=(0:UInt8):=rfl;refine uQ 600 _ ?_;simp (maxSteps:=3000000) only [f1,f2,e1,e2,e4,e5,hrr,Aq,←hb,hc0,go_sem,↓zA,↓reduceIte,↓reduceDIte] <;>try simp only [zB]
   refine ⟨⟨by omega,by omega,Ag _⟩,⟨by omega,by omega,by omega⟩,q8n hst fun o H' hK=> ?_⟩
   obtain ⟨b,rfl,G',rfl⟩:=hK;refine ⟨_,rfl,?_⟩;cases b
   · simp only [reduceCtorEq,A9,if_false,if_true,CA,Ck];refine gQ ?_;exact ⟨_,_,_,_,by omega,rfl⟩
   simp only [reduceCtorEq,A9,if_false,if_true,CA,Ck];refine gy1 e1 ?_;refine ⟨(i+1,G++G'),hlt,by dsimp only;omega,?_,?_⟩
   · dsimp only;rw [hc1]
   simp (maxSteps:=3000000) only [e3,go_sem,↓zA,↓reduceIte,↓reduceDIte] <;>try simp only [zB]
 obtain rfl:i=nblk p.length:=by omega
 have f1:(((16*nblk p.length:Nat):Int) < ((p.length:Nat):Int))=False:=eq_false (by omega)
 unfold chH;refine gy1 f1 ?_;exact ⟨_,_,_,_,Ag _,rfl⟩
theorem z8a(key iv p:List UInt8)(hk:key.length=16)(hiv:iv.length=16)(hp:p.length≤131072):Iter Tryz.prog 166 [] [.iptr (.int .i64) 0 0,.iptr (.clp 169 (.slice .u8)) p 0,.iptr ModT (some (cipS key),iv) 0] (nblk p.length) (vwH key iv p):=by
 refine ⟨by kernel_rfl,fun l B J hJ yg=> ?_⟩
 refine (q1z (yFG hJ) fi166 ?_).2
 letI:Ghost:=topG (yFG hJ) []
 have hcut:=j1m hJ key iv p hk hiv hp yg;unfold chH at hcut;refine gQ ?_;refine q8n hcut fun o H' hK=> ?_;obtain ⟨rfl,m,pv,b,G,hm,rfl⟩:=hK;refine ⟨_,rfl,?_⟩;refine gQ ?_;exact ⟨_,_,rfl,rfl,hm⟩
def swpS(bs:List (List UInt8)):List (List UInt8):=(bs.set (bs.length-2) (bs.getD (bs.length-1) [])).set (bs.length-1) (bs.getD (bs.length-2) [])
def exgS(bs:List (List UInt8)):List (List UInt8):=if 1<bs.length then swpS bs else bs
theorem j4B(bs:List (List UInt8))(hl:bs.length≤1000000):PE Tryz.prog 153 [.ptr 0 0] [.cells 97 [.bld 1 (.slice .u8) bs.length],.row (.slice .u8) bs] (.ret (.tup [])) [.cells 97 [.bld 1 (.slice .u8) bs.length],.row (.slice .u8) (exgS bs)]:=by
 refine q0g (Ag _) ?_;refine q0Z fi153 ?_;by_cases h:1<bs.length
 · have f1:((1:Int) < ((bs.length:Nat):Int))=True:=eq_true (by omega)
   have e1:IntKind.i64.wrap (((bs.length:Nat):Int) -1)=((bs.length-1:Nat):Int):=by rw [wrapi (by omega)];omega
   have e2:IntKind.i64.wrap (((bs.length:Nat):Int) -2)=((bs.length-2:Nat):Int):=by rw [wrapi (by omega)];omega
   refine uQ 12 _ ?_;simp (maxSteps:=3000000) only [f1,go_sem,↓zA,↓reduceIte,↓reduceDIte] <;>try simp only [zB]
   refine q1N [1,999999,0] mixed ?_;refine gy2 e1 e2 ?_;refine ⟨⟨by omega,by omega⟩,by omega,⟨by omega,by omega⟩,by omega,⟨by omega,by omega⟩,by omega,⟨by omega,by omega⟩,by rw [Bb];omega,?_⟩
   unfold exgS swpS;rw [if_pos h];simp only [Ac];first|done|rfl
 have f1:((1:Int) < ((bs.length:Nat):Int))=False:=eq_false (by omega)
 have he:exgS bs=bs:=if_neg h;rw [he];refine gy1 f1 ?_;trivial
theorem z5d(a b:List UInt8):xorS a b=xorS b a:=by
 unfold xorS;exact q6g fun j _=>UInt8.xor_comm _ _
theorem z5r(n:Nat):n+zpN n=16*nblk n:=by unfold zpN nblk;omega
theorem j3d(p:List UInt8){i:Nat}(hi:i<nblk p.length):blkC p i=((zpL p (zpN p.length)).take (16*i+16)).drop (16*i):=by
 have hz:=z5r p.length;have hn:nblk p.length=(p.length+15) / 16:=rfl;unfold zpL;by_cases h:16*i+16≤p.length
 · rw [q2C p h,A2 h]
 rw [q7j p (by omega) (by omega),B2,Ab (show p.length≤16*i+16 by omega),Ab (Ag p.length),Bn (by omega),List.take_replicate,
  show min (16*i+16-p.length) (zpN p.length)=16- (p.length-16*i) by omega]
def cbl(key iv p:List UInt8)(n:Nat):List (List UInt8):=(List.range n).map fun i=>cpre key iv p (i+1)
theorem z2t(key iv p:List UInt8):∀n,n≤nblk p.length→chA (wordsS key) iv (zpL p (zpN p.length)) n=(cpre key iv p n,(cbl key iv p n).flatten)
 |0,_=>rfl
 |n+1,h=>by
  have hb:=j3d p (i:=n) (by omega)
  have he:encS (wordsS key) (xorS (((zpL p (zpN p.length)).take (16*n+16)).drop (16*n)) (cpre key iv p n))=cpre key iv p (n+1):=by
   rw [←hb,z5d];rfl
  rw [chA,z2t key iv p n (by omega)]
  dsimp only;rw [he];unfold cbl;rw [BE,Bk,BN];simp
theorem z3H(key iv p:List UInt8):chainS key iv (zpL p (zpN p.length))=(cbl key iv p (nblk p.length)).flatten:=by
 unfold chainS;rw [z7y,z5r,Nat.mul_div_cancel_left _ (by decide),z2t key iv p _ (Ag _)]
theorem flat16:∀ (bs:List (List UInt8)),(∀b∈bs,b.length=16)→bs.flatten.length=16*bs.length
 | [],_=>rfl
 |b :: bs,h=>by
  rw [AR,Ad,flat16 bs (fun x hx=>h x (AN _ hx)),h b Bs,AM];omega
theorem j3e(l:List (List UInt8))(x y:List UInt8):swpS (l++ [x,y])=l++ [y,x]:=by
 unfold swpS;have h1:(l++ [x,y]).length=l.length+2:=by simp
 rw [h1,show l.length+2-2=l.length by omega,show l.length+2-1=l.length+1 by omega]
 have g1:(l++ [x,y]).getD (l.length+1) []=y:=by simp [Aa]
 have g0:(l++ [x,y]).getD l.length []=x:=by simp [Aa]
 rw [g1,g0];simp [List.set_append]
theorem z7Y(bs:List (List UInt8))(h:∀b∈bs,b.length=16)(h2:2≤bs.length):(exgS bs).flatten=exchS bs.flatten:=by
 obtain ⟨l,x,y,rfl⟩:∃l x y,bs=l++ [x,y]:=by
  refine ⟨bs.take (bs.length-2),bs[bs.length-2],bs[bs.length-1],?_⟩;apply Au
  · simp;omega
  intro j h1 h2;simp only [List.getElem_append,Aj];split
  · simp
  rename_i hj;have:j=bs.length-2∨j=bs.length-1:=by omega
  rcases this with rfl|rfl
  · simp [show min (bs.length-2) bs.length=bs.length-2 by omega]
  simp [show min (bs.length-2) bs.length=bs.length-2 by omega,show bs.length-1- (bs.length-2)=1 by omega]
 have hx:x.length=16:=h x (by simp)
 have hy:y.length=16:=h y (by simp)
 have hl:=flat16 l fun b hb=>h b (by simp [hb])
 unfold exgS;rw [if_pos (by simp),j3e]
 have e1:(l++ [x,y]).flatten=l.flatten++(x++y):=by simp
 have e2:(l++ [y,x]).flatten=l.flatten++(y++x):=by simp
 rw [e1,e2];unfold exchS;have hlen:(l.flatten++(x++y)).length=l.flatten.length+32:=by simp [hx,hy]
 rw [hlen,show l.flatten.length+32-32=l.flatten.length by omega,show l.flatten.length+32-16=l.flatten.length+16 by omega]
 have t1:(l.flatten++(x++y)).take l.flatten.length=l.flatten:=List.take_left ..;have t2:(l.flatten++(x++y)).drop (l.flatten.length+16)=y:=by
  rw [←List.append_assoc,Bn (by simp [hx])]
  simp [hx]
 have t3:((l.flatten++(x++y)).take (l.flatten.length+16)).drop l.flatten.length=x:=by
  rw [←List.append_assoc,A2 (by simp [hx]),Ab (by simp [hx])]
  simp
 rw [t1,t2,t3,List.append_assoc]
theorem z4S(key iv p:List UInt8)(hiv:iv.length=16)(h1:16≤p.length):(exgS (cbl key iv p (nblk p.length))).flatten.take p.length=ctsE key iv p:=by
 have hb:∀b∈cbl key iv p (nblk p.length),b.length=16:=by
  intro b hb;unfold cbl at hb;obtain ⟨i,_,rfl⟩:=Bu.1 hb;exact q3J _ _
 have hl:(cbl key iv p (nblk p.length)).length=nblk p.length:=by simp [cbl]
 have hn:nblk p.length=(p.length+15) / 16:=rfl;have hf:=flat16 _ hb;unfold ctsE;rw [z3H];dsimp only;by_cases h2:2≤nblk p.length
 · rw [if_neg (by omega),z7Y _ hb (by omega)]
 have h3:p.length=16:=by omega
 have he:exgS (cbl key iv p (nblk p.length))=cbl key iv p (nblk p.length):=if_neg (by omega)
 rw [if_pos (by omega),he,Ab (by omega)]
def flN(bs:List (List UInt8))(i:Nat):Nat:=(bs.take i).flatten.length
theorem z8d(bs:List (List UInt8)){i:Nat}(h:i<bs.length):flN bs (i+1)=flN bs i+ (bs.getD i []).length:=by
 unfold flN;rw [CE,Ae h,BN,Ad,Aa,Ae h];simp
theorem j4y(bs:List (List UInt8))(i:Nat):flN bs i≤bs.flatten.length:=by
 unfold flN
 conv=>rhs;rw [←A0 i bs,BN,Ad]
 omega
theorem j4r(bs:List (List UInt8))(h2:2≤bs.length)(h16:∀b∈bs,b.length=16)(hl:bs.length≤1000000)(hf:bs.flatten.length≤1000000):PC Tryz.prog 154 [.isl (.slice .u8) bs,.raw (.slice none 0 0)] (.isl .u8 bs.flatten):=by
 have f1:(((bs.length:Nat):Int)=0)=False:=eq_false (by omega)
 have f2:(((bs.length:Nat):Int)=1)=False:=eq_false (by omega)
 refine q0i rfl rfl ?_;refine q0Z fi154 ?_;refine gy2 f1 f2 ?_;refine q0d (ι:=Nat) (fun i=>[(5,rI (flN bs i)),(44,rI i)]) (fun _=>[]) (fun i=>bs.length-i) (fun i=>i≤bs.length) 0 (Ai _) rfl ?_ fun i hi=> ?_
 · with_reducible refine sxE ?_
   rfl
 have hwr:=wsx i (by omega)
 by_cases hlt:i<bs.length
 · have g1:((i:Int) < ((bs.length:Nat):Int))=True:=eq_true (by omega)
   have hs:=z8d bs hlt;have hle:=j4y bs (i+1);have e1:IntKind.i64.wrap (9223372036854775807- ((flN bs i:Nat):Int))=((9223372036854775807-flN bs i:Nat):Int):=by rw [wrapi (by omega)];omega
   have e2:IntKind.i64.wrap (((flN bs i:Nat):Int)+ (((bs.getD i []).length:Nat):Int))=((flN bs (i+1):Nat):Int):=by rw [wrapi (by omega)];omega
   have g2:(((9223372036854775807-flN bs i:Nat):Int) < (((bs.getD i []).length:Nat):Int))=False:=eq_false (by omega)
   have e5:(Ty.slice .u8).dflt=([]:List UInt8):=rfl;refine gy8 g1 e5 e1 e2 g2 Ac Aq Aq ?_;refine ⟨⟨by omega,hlt⟩,i+1,hlt,by dsimp only;omega,rfl,?_⟩
   with_reducible refine sx1 hwr ?_;trivial
 obtain rfl:i=bs.length:=by omega
 have g1:(((bs.length:Nat):Int) < ((bs.length:Nat):Int))=False:=eq_false (by omega)
 have hfl:flN bs bs.length=bs.flatten.length:=by unfold flN;rw [AE]
 refine uQ 10 _ ?_;with_reducible refine sy2 g1 hfl ?_
 have hso:(Tryz.prog.funcs[(170:Nat)]?).isSome=true:=by kernel_rfl
 refine j4t (fn:=Option.get _ hso) (ps:= #[3]) (t:=22) (e:=5) (n:=bs.flatten.length) rfl (Option.some_get hso).symm (by kernel_rfl) (by kernel_rfl) (by kernel_rfl) (by kernel_rfl) (by kernel_rfl) (by omega) fun xs hxs=> ?_
 obtain ⟨b0,r,rfl⟩:∃b0 r,bs=b0 :: r:=by
  cases bs with
  |nil=>simp at h2
  |cons b r=>exact ⟨b,r,rfl⟩
 have e0:((b0 :: r).getD 0 ([]:List UInt8))=b0:=rfl;have e5:(Ty.slice .u8).dflt=([]:List UInt8):=rfl;have hbl:b0.length≤(b0 :: r).flatten.length:=by simp
 have hmn:min b0.length ((b0 :: r).flatten.length-0)=b0.length:=by omega
 refine uQ 600 _ ?_;simp (maxSteps:=3000000) only [e5,e0,hmn,hxs,AE,Ac,go_sem,↓zA,↓reduceIte,↓reduceDIte] <;>try simp only [zB]
 have hb0:b0.length=16:=h16 b0 Bs;refine ⟨⟨by omega,Ag _⟩,by omega,⟨⟨hbl,by omega⟩,by omega⟩,⟨by omega,Ag _⟩,?_⟩
 have hfa:=flat16 (b0 :: r) h16;have hfn:∀i,i≤(b0 :: r).length→flN (b0 :: r) i=16*i:=fun i hi=>by
  unfold flN;rw [flat16 _ fun b hb=>h16 b (List.mem_of_mem_take hb),Aj,Ba hi]
 refine q0d (ι:=Nat) (fun i=>[(9,rI ((16* (i+1):Nat):Int)),(72,rI i)]) (fun i=>[.row .u8 (((b0 :: r).take (i+1)).flatten++xs.drop (16* (i+1)))]) (fun i=>r.length-i) (fun i=>i≤r.length) 0 (Ai _) ?_ ?_ fun i hi=> ?_
 · have e6:(List.take (0+1) (b0 :: r)).flatten=b0:=by simp
   rw [e6];rw [hb0]
 · with_reducible refine sx1 hb0 ?_;trivial
 have hrl:r.length+1≤1000000:=by simpa using hl
 have hwr:=wsx i (by omega)
 by_cases hlt:i<r.length
 · have k1:((i:Int) < ((r.length:Nat):Int))=True:=eq_true (by omega)
   have k2:(r.getD i ([]:List UInt8)).length=16:=h16 _ (AN _ (by rw [Aa,Ae hlt];exact Bq _))
   have k3:(((b0 :: r).take (i+1)).flatten).length=16* (i+1):=hfn (i+1) (by simp;omega)
   have k4:((((b0 :: r).take (i+1)).flatten++xs.drop (16* (i+1))).length)=16* (r.length+1):=by
    rw [Ad,k3,Al,hxs,hfa,AM];omega
   change (b0 :: List.take i r).flatten.length=_ at k3;change ((b0 :: List.take i r).flatten++xs.drop (16* (i+1))).length=_ at k4;have q1:IntKind.i64.wrap (((16* (i+1):Nat):Int)+0)=((16* (i+1):Nat):Int):=by rw [Int.add_zero,wrapi (by omega)]
   have q3:min 16 ((b0 :: r).flatten.length-0-16* (i+1))=16:=by rw [hfa,AM];omega
   have q4:IntKind.i64.wrap (((16* (i+1):Nat):Int)+16)=((16* (i+1+1):Nat):Int):=by rw [wrapi (by omega)];omega
   have q5:List.take 16 (r.getD i ([]:List UInt8))=r.getD i []:=Ab (by omega)
   have hfl2:(b0 :: r).flatten.length=16* (r.length+1):=by rw [hfa,AM]
   have q6:List.take (0+16* (i+1)) ((b0 :: List.take i r).flatten++List.drop (16* (i+1)) xs)++List.drop (0+16* (i+1)+0) ((b0 :: List.take i r).flatten++List.drop (16* (i+1)) xs)=(b0 :: List.take i r).flatten++List.drop (16* (i+1)) xs:=by
    simp only [Ac,AK,A0]
   refine uQ 600 _ ?_;simp (maxSteps:=3000000) only [k1,e5,k2,Nat.zero_min,q1,Aq,q3,q4,q5,q6,k4,Ah,go_sem,↓zA,↓reduceIte,↓reduceDIte] <;>try simp only [zB]
   rw [hfl2];refine ⟨⟨by omega,hlt⟩,⟨by omega,by omega,Nat.le_refl _⟩,⟨⟨by omega,by omega⟩,by omega⟩,⟨by omega,by omega,Nat.le_refl _⟩,⟨⟨by omega,by omega⟩,by omega⟩,i+1,hlt,by dsimp only;omega,?_,?_⟩
   · have e7:(b0 :: List.take (i+1) r).flatten=(b0 :: List.take i r).flatten++r.getD i []:=by
      rw [AR,AR,q3l hlt,List.append_assoc]
     dsimp only;rw [e7];generalize (b0 :: List.take i r).flatten=A at*;generalize r.getD i []=y at*;rw [Ac,List.take_left' k3,←Bi,List.drop_left' k3,Bi,show 16* (i+1)+16=16* (i+1+1) by omega]
   with_reducible refine sx1 hwr ?_
   exact congrArg (Value.int IntKind.i64) q4
 obtain rfl:i=r.length:=by omega
 have k1:(((r.length:Nat):Int) < ((r.length:Nat):Int))=False:=eq_false (by omega)
 refine gy1 k1 ?_;have e8:List.drop (16* (r.length+1)) xs= []:=List.drop_of_length_le (by rw [hxs,hfa,AM];omega)
 rw [e8,Ah,AE,Cu,AE];exact ⟨⟨by omega,by omega⟩,rfl⟩
def oN(i:Nat):Nat:=32* ((i+31) / 32)
theorem z7v{l:List UInt8}{n:Nat}(h:n<l.length):l.take n++ [l.getD n 0]=l.take (n+1):=by
 rw [Aa,Ae h,A3,List.take_append_getElem h]
theorem j2G(key conf b:List UInt8)(hk:key.length≤70368744177664)(hc:conf.length≤4096)(hb:b.length≤1048576):PC Tryz.prog 55 [.isl .u8 key,.isl .u8 conf,.isl .u8 b] (.isl .u8 (ksS key conf b)):=by
 have hSl:=q3k key conf b;obtain ⟨S,hS⟩:∃S,S=ksS key conf b:=⟨_,rfl⟩;rw [←hS] at hSl;refine q0i rfl rfl ?_;refine rQ fi55 ?_;rw [←hS];refine q3j 7 .u8 (fun i=>S.take (oN i)) (fun i=>[(8,rI i)]) b.length (fun _=>True) rfl (by simp) (by simp [oN]) rfl (fun i=>rfl) ?_ fun i hi _=> ?_
 · with_reducible refine sxE ?_;trivial
 have hwr:=wsx i (by omega)
 by_cases hlt:i<b.length
 · have f1:((i:Int) < ((b.length:Nat):Int))=True:=eq_true (by omega)
   have q1:(i:Int).tdiv 32=((i / 32:Nat):Int):=by rw [A8 (by omega)];rfl
   have q2:(i:Int).tmod 32=((i%32:Nat):Int):=by rw [As (by omega)];rfl
   have w1:IntKind.i64.wrap ((i / 32:Nat):Int)=((i / 32:Nat):Int):=wrapi (by omega)
   have w2:IntKind.i64.wrap ((i%32:Nat):Int)=((i%32:Nat):Int):=wrapi (by omega)
   have w3:IntKind.i64.wrap (((i / 32:Nat):Int)+1)=((i / 32+1:Nat):Int):=by rw [wrapi (by omega)];omega
   by_cases h0:i%32=0
   · have f2:(((i%32:Nat):Int)=0)=True:=eq_true (by omega)
     have hoi:oN i=i:=by unfold oN;omega
     have hil:(S.take i).length=i:=by rw [Aj];omega
     have hfe:[UInt8.ofNat (IntKind.u8.wrap (((i / 32+1:Nat):Int).fdiv (2^ min 24 64))).toNat,UInt8.ofNat (IntKind.u8.wrap (((i / 32+1:Nat):Int).fdiv (2^ min 16 64))).toNat,UInt8.ofNat (IntKind.u8.wrap (((i / 32+1:Nat):Int).fdiv (2^ min 8 64))).toNat,UInt8.ofNat (IntKind.u8.wrap ((i / 32+1:Nat):Int)).toNat]=four (i / 32+1):=by
      rw [byteN _ 24 (by decide),byteN _ 16 (by decide),byteN _ 8 (by decide),byteN0]
      rfl
     have hfl:=q5Y (i / 32+1);refine gy8 f1 q1 q2 w1 w2 w3 f2 f2 ?_;have tl:∀l:List UInt8,l.length=conf.length+4→List.take (conf.length+4) l=l:=fun l h=>Ab (by omega)
     refine ⟨by decide,by decide,by omega,⟨q0Y _,q0Y _,q0Y _,q0Y _⟩,by omega,?_⟩
     rw [hfe];have hcl:(conf++four (i / 32+1)).length=conf.length+4:=by rw [Ad,hfl]
     have hsb:∀k,k<32→i+k<b.length→S.getD (i+k) 0=b.getD (i+k) 0^^^ (hmS key (conf++four (i / 32+1))).getD k 0:=fun k hk hb=>by
      rw [hS,z1Z _ _ _ hb,ksB,show (i+k) / 32=i / 32 by omega,show (i+k)%32=k by omega]
     generalize conf++four (i / 32+1)=cf at*;have hhl:=q2k key cf;refine q0q 4 ?_;simp (maxSteps:=3000000) only [tl cf hcl,go_sem,↓zA,↓reduceIte,↓reduceDIte] <;>try simp only [zB]
     refine ⟨by omega,by omega,q0a (q8p key cf hk (by omega)) ?_⟩
     generalize hmS key cf=h at*;rw [hoi];refine gQ ?_;refine q3e (ι:=Nat) [25,27,39,40] (fun k=>[(7,.bld 0 .u8 (i+k)),(11,rI k)]) (fun k=>[.row .u8 (S.take (i+k))]) (fun k=>32-k) (fun k=>k≤32∧i+k≤b.length) 0 (by omega) (le0 (σ:=fun h=>0) ?_ ?_ ?_ ?_ ?_) ?_
     · with_reducible refine sx1 hil ?_
       rfl
     · exact ⟨rfl,trivial⟩
     · kernel_rfl
     · kernel_rfl
     · kernel_rfl
     intro k hk';have hkw:IntKind.i64.wrap ((k:Int)+1)=((k+1:Nat):Int):=q2T (by omega)
     have e1:IntKind.i64.wrap ((i:Int)+ (k:Int))=((i+k:Nat):Int):=by rw [wrapi (by omega)];omega
     have hikl:(S.take (i+k)).length=i+k:=by rw [Aj];omega
     by_cases h3:k<32
     · have f3:((k:Int) <32)=True:=eq_true (by omega)
       by_cases h4:i+k<b.length
       · have f4:(((i+k:Nat):Int) < ((b.length:Nat):Int))=True:=eq_true (by omega)
         have hse:=hsb k h3 h4;have htk:List.take (i+k) (S.take (i+k))=S.take (i+k):=Ab (by omega)
         refine uQ 18 _ ?_;with_reducible refine sy6 f3 f4 e1 e1 e1 e1 ?_
         refine q1N [] mixed ?_;refine uQ 600 _ ?_;simp (maxSteps:=3000000) only [e1,xor8,AB,Aq,hikl,htk,Ac,hhl,go_sem,↓zA,↓reduceIte,↓reduceDIte] <;>try simp only [zB]
         refine ⟨by omega,by omega,by omega,?_⟩
         refine roundR (fun _=>2) (k+1) (by omega) (by omega) ?_ ?_ ?_ ?_ ?_
         · with_reducible refine sx1 hkw ?_
           rfl
         · exact ⟨congrArg (fun x=>some (SObj.row .u8 x)) (by show List.take (i+k) S++ [b.getD (i+k) 0^^^ h.getD k 0]=_;rw [←hse];exact z7v (by omega)),trivial⟩
         · kernel_rfl
         · kernel_rfl
         kernel_rfl
       have f4:(((i+k:Nat):Int) < ((b.length:Nat):Int))=False:=eq_false (by omega)
       have hT:S.take (i+k)=S.take (oN (i+1)):=by rw [show oN (i+1)=i+32 by unfold oN;omega,Ab (by omega),Ab (by omega)]
       have hTl:(S.take (oN (i+1))).length=i+k:=by rw [←hT];exact hikl
       refine gy3 f3 f4 e1 ?_;refine q1M [] [] hlt trivial (by rw [hT];rfl) ?_
       with_reducible refine sy2 hwr hTl ?_;trivial
     have f3:((k:Int) <32)=False:=eq_false (by omega)
     have hT:S.take (i+k)=S.take (oN (i+1)):=by rw [show oN (i+1)=i+k by unfold oN;omega]
     have hTl:(S.take (oN (i+1))).length=i+k:=by rw [←hT];exact hikl
     refine gy1 f3 ?_;refine q1M [] [] hlt trivial (by rw [hT];rfl) ?_
     with_reducible refine sy2 hwr hTl ?_;trivial
   have f2:(((i%32:Nat):Int)=0)=False:=eq_false (by omega)
   refine gy8 f1 q1 q2 w1 w2 w3 f2 f2 ?_;refine ⟨by decide,by decide,?_⟩
   have hT:S.take (oN i)=S.take (oN (i+1)):=by rw [show oN (i+1)=oN i by unfold oN;omega]
   rw [hT];refine q1M [] [] hlt trivial rfl ?_;with_reducible refine sx1 hwr ?_;trivial
 obtain rfl:i=b.length:=by omega
 have f1:(((b.length:Nat):Int) < ((b.length:Nat):Int))=False:=eq_false (by omega)
 have ht:S.take (oN b.length)=S:=Ab (by unfold oN;omega)
 refine uQ 600 _ ?_;rw [ht];simp (maxSteps:=3000000) only [f1,go_sem,↓zA,↓reduceIte,↓reduceDIte] <;>try simp only [zB]
 exact ⟨by omega,AE⟩
def whN(n:Nat):Nat:=(n+15) / 16*16
def unexS(w c:List UInt8):List UInt8:=
 let f:=(c.take (whN c.length-16)).drop (whN c.length-32)
 let k:=c.drop (whN c.length-16)
 c.take (whN c.length-32)++(k++(decS w f).drop k.length)++f
def dchA(w iv ch:List UInt8):Nat→List UInt8×List UInt8
 |0=>(iv,[])
 |n+1=>((ch.take (16*n+16)).drop (16*n),(dchA w iv ch n).2++xorS (decS w ((ch.take (16*n+16)).drop (16*n))) (dchA w iv ch n).1)
def unchS(w iv ch:List UInt8):List UInt8:=(dchA w iv ch (ch.length / 16)).2
def ctsD(key iv c:List UInt8):List UInt8:=
 if c.length=16 then xorS (decS (wordsS key) c) iv else (unchS (wordsS key) iv (unexS (wordsS key) c)).take c.length
theorem z3x(w iv ch:List UInt8)(hi:iv.length=16)(n:Nat)(hn:16*n≤ch.length):(dchA w iv ch n).1.length=16∧(dchA w iv ch n).2.length=16*n:=by
 induction n with
 |zero=>exact ⟨hi,rfl⟩
 |succ n ih=>
  refine ⟨?_,?_⟩
  · rw [dchA];simp only [Al,Aj];omega
  rw [dchA];simp only [Ad,(ih (by omega)).2,q2V];omega
theorem z0L(w c:List UInt8)(hc:16<c.length):(unexS w c).length=whN c.length:=by
 unfold unexS;simp only [Ad,Aj,Al,q2r];unfold whN;omega
theorem j2F(key iv c:List UInt8)(hk:key.length=16)(hi:iv.length=16)(h1:16≤c.length)(hp:c.length≤1000000):PC Tryz.prog 77 [.isl .u8 key,.isl .u8 iv,.isl .u8 c] (.isl .u8 (ctsD key iv c)):=by
 refine q0i rfl rfl ?_;refine rQ fi77 ?_;refine q0a (j2O key hk) ?_;have hwl:=q2Q key hk;have hcd:ctsD key iv c=if c.length=16 then xorS (decS (wordsS key) c) iv else (unchS (wordsS key) iv (unexS (wordsS key) c)).take c.length:=rfl;generalize hw:wordsS key=w at hwl hcd⊢;by_cases h16:c.length=16
 · have f1:((c.length:Int)=16)=True:=eq_true (by omega)
   refine gy1 f1 ?_;refine cQ (q4U w c h16 hwl) ?_;refine cQ (j0c _ iv (q2r _ _) hi) ?_;rw [hcd,if_pos h16]
 have f1:((c.length:Int)=16)=False:=eq_false (by omega)
 rw [if_neg h16] at hcd;have e1:IntKind.i64.wrap ((c.length:Int)+15)=((c.length+15:Nat):Int):=by rw [wrapi (by omega)];omega
 have e2:((c.length+15:Nat):Int).tdiv 16=(((c.length+15) / 16:Nat):Int):=by
  rw [A8 (by omega)];omega
 have e3:IntKind.i64.wrap ((((c.length+15) / 16:Nat):Int))=(((c.length+15) / 16:Nat):Int):=wrapi (by omega)
 have e4:IntKind.i64.wrap ((((c.length+15) / 16:Nat):Int)*16)=((whN c.length:Nat):Int):=by unfold whN;rw [wrapi (by omega)];omega
 have hwN:whN c.length=(c.length+15) / 16*16:=rfl;have e5:IntKind.i64.wrap (((whN c.length:Nat):Int) -32)=((whN c.length-32:Nat):Int):=by rw [wrapi (by omega)];omega
 have e6:IntKind.i64.wrap (((whN c.length:Nat):Int) -16)=((whN c.length-16:Nat):Int):=by rw [wrapi (by omega)];omega
 generalize hW:whN c.length=W at*;have hun:unexS w c=c.take (W-32)++(c.drop (W-16)++(decS w ((c.take (W-16)).drop (W-32))).drop (c.drop (W-16)).length)++(c.take (W-16)).drop (W-32):=by unfold unexS;rw [hW]
 have hul:=z0L w c (by omega)
 rw [hW] at hul;have hfl:((c.take (W-16)).drop (W-32)).length=16:=by rw [Al,Aj];omega
 have hkl:(c.drop (W-16)).length=c.length- (W-16):=Al;have hcc:List.take c.length c=c:=AE;refine gy8 f1 e1 e2 e3 e4 e5 e6 hcc ?_;refine ⟨by decide,by omega,by omega,q0a (q4U w _ hfl hwl) ?_⟩
 have hxl:=q2r w ((c.take (W-16)).drop (W-32));generalize hf:(c.take (W-16)).drop (W-32)=f at*;generalize hx:decS w f=x at*;generalize hK:c.drop (W-16)=K at*;have hAl:(c.take (W-32)).length=W-32:=by rw [Aj];omega
 generalize hA:c.take (W-32)=A at*;have hKn:K.length=c.length- (W-16):=hkl;have hDl:(List.drop K.length x).length=16-K.length:=by rw [Al,hxl]
 generalize hD:List.drop K.length x=D at*;have htB:List.take (K.length+ (16-K.length)) (K++D)=K++D:=Ab (by rw [Ad];omega)
 have hpre:(A++(K++D)++f).length=W:=by rw [←hun];exact hul
 have hxx:List.take 16 x=x:=Ab (by omega)
 refine uQ 600 _ ?_;simp (maxSteps:=3000000) only [hxl,e5,hA,hxx,hD,hDl,hAl,htB,Ad,Ac,go_sem,↓zA,↓reduceIte,↓reduceDIte] <;>try simp only [zB]
 repeat (with_reducible refine And.intro (by first|omega|decide|exact And.intro (by omega) (by omega) |exact And.intro (by omega) (And.intro (by omega) (by omega))) ?_)
 rw [←hun] at hpre⊢;generalize hch:unexS w c=ch at*;refine q0X 6 rfl rfl (by omega) ?_ ?_ ?_
 · with_reducible refine sxE ?_;trivial
 · with_reducible refine sxE ?_
   omega
 with_reducible refine sxE ?_
 have hWl:W-32+ (K.length+ (16-K.length))+f.length=ch.length:=by omega
 have htc:List.take (W-32+ (K.length+ (16-K.length))+f.length) ch=ch:=Ab (by omega)
 rw [htc];refine q3j 14 .u8 (fun n=>(dchA w iv ch n).2) (fun n=>[(15,.isl .u8 (dchA w iv ch n).1),(16,rI (16*n:Nat))]) (ch.length / 16) (fun _=>True) rfl (by simp) (by simp [dchA]) rfl (fun i=>rfl) ?_ fun n hn _=> ?_
 · with_reducible refine sxE ?_
   rfl
 have hl:=z3x w iv ch hi n (by omega)
 have hcs:unchS w iv ch=(dchA w iv ch (ch.length / 16)).2:=rfl;by_cases h:n<ch.length / 16
 · have f1:(((16*n:Nat):Int) < (ch.length:Int))=True:=eq_true (by omega)
   have e8:IntKind.i64.wrap (((16*n:Nat):Int)+16)=((16*n+16:Nat):Int):=by rw [wrapi (by omega)];omega
   have hstep:dchA w iv ch (n+1)=((ch.take (16*n+16)).drop (16*n),(dchA w iv ch n).2++xorS (decS w ((ch.take (16*n+16)).drop (16*n))) (dchA w iv ch n).1):=rfl;have hbl:((ch.take (16*n+16)).drop (16*n)).length=16:=by rw [Al,Aj];omega
   refine gy2 f1 e8 ?_;refine ⟨by omega,q0a (q4U w _ hbl hwl) ?_⟩
   refine gQ ?_;refine q0a (j0c _ _ (q2r _ _) hl.1) ?_;have hxl:=q2V (decS w ((ch.take (16*n+16)).drop (16*n))) (dchA w iv ch n).1;generalize xorS (decS w ((ch.take (16*n+16)).drop (16*n))) (dchA w iv ch n).1=en at*;generalize hcs:(dchA w iv ch n).2=cs at*;have hcl:=hl.2;have htk:List.take (16*n) cs=cs:=Ab (by omega)
   refine gy4 hcl hxl htk e8 ?_;refine ⟨by omega,by omega,?_⟩
   refine q1M [.dead] [] h trivial (by rw [hstep];rfl) ?_
   rw [hstep];with_reducible refine sy6 hcl hxl e8 e8 e8 e8 ?_
   exact ⟨by rw [Ad,hcl,hxl],rfl⟩
 obtain rfl:n=ch.length / 16:=by omega
 have f1:(((16* (ch.length / 16):Nat):Int) < (ch.length:Int))=False:=eq_false (by omega)
 refine uQ 600 _ ?_;simp (maxSteps:=3000000) only [f1,hl.2,go_sem,↓zA,↓reduceIte,↓reduceDIte] <;>try simp only [zB]
 refine ⟨by omega,by omega,?_⟩
 rw [hcd,hcs,Cu]
theorem z6T(c:List UInt8)(h:32≤c.length):(exchS c).length=c.length:=by
 unfold exchS;simp only [Ad,Aj,Al];omega
theorem z2Y(key iv p:List UInt8)(hi:iv.length=16)(h1:16≤p.length):(ctsE key iv p).length=p.length:=by
 have hc:=z4p key iv (zpL p (zpN p.length)) hi;rw [z7y] at hc;have hz:zpN p.length=(16-p.length%16)%16:=rfl;unfold ctsE;simp only;split
 · omega
 rw [Aj,z6T _ (by omega)]
 omega
theorem z7C(w iv ch:List UInt8)(hi:iv.length=16):(unchS w iv ch).length=16* (ch.length / 16):=(z3x w iv ch hi _ (by omega)).2
theorem q5V(key iv c:List UInt8)(hi:iv.length=16)(h1:16≤c.length):(ctsD key iv c).length=c.length:=by
 unfold ctsD;split
 · rw [q2V];omega
 rw [Aj,z7C _ _ _ hi,z0L _ _ (by omega)]
 unfold whN;omega
theorem j2q:z16.length=16:=rfl
theorem q7m{a b:List UInt8}(h:strOf a=strOf b):a=b:=by
 unfold strOf at h;simpa using h
def ciS(k:Key)(u:Nat)(conf plain:List UInt8):List UInt8:=if k.1=1 then ctsE (dkS k u 170) z16 (conf++plain) else conf++ksS (dkS k u 170) conf plain
def unS(k:Key)(u:Nat)(c:List UInt8):List UInt8:=if k.1=1 then (ctsD (dkS k u 170) z16 c).drop 16 else ksS (dkS k u 170) (c.take 16) (c.drop 16)
def seS(k:Key)(u:Nat)(conf plain:List UInt8):List UInt8:=ciS k u conf plain++tg9S k u (ciS k u conf plain)
def opS(k:Key)(u:Nat)(sp sv:Int)(sb:List UInt8):List UInt8×Int:=
 if uOk k u=true then
  if sp=k.1∧(sv=k.2.1∨sv=0∨k.2.1=0) then
   if sb.length<16+k.2.2.length then ([],4)
   else if 65552+k.2.2.length<sb.length then ([],5)
   else if tg9S k u (sb.take (sb.length-k.2.2.length))=sb.drop (sb.length-k.2.2.length) then (unS k u (sb.take (sb.length-k.2.2.length)),0)
   else ([],10)
  else ([],9)
 else ([],2)
theorem q3m{k:Key}{u:Nat}(h:uOk k u=true):vKey k=true∧u≤1023∧((k.2.2.length:Nat):Int)=keyLen k.1∧k.2.2.length≤32∧(k.1=1→k.2.2.length=16)∧(k.1≠1→k.1=2∧k.2.2.length=32):=by
 unfold uOk at h;simp only [Am,decide_eq_true_eq] at h;have hv:=h.1;unfold vKey at hv;simp only [Am,decide_eq_true_eq] at hv;have h1:=hv.2.1;have h2:=hv.1;refine ⟨h.1,by omega,h1,?_⟩
 unfold keyLen at h1 h2;split at h1
 · rename_i hp;exact ⟨by omega,fun _=>by omega,fun hn=>absurd hp hn⟩
 rename_i hp;split at h1
 · rename_i hp2;exact ⟨by omega,fun hn=>absurd hn hp,fun _=>⟨hp2,by omega⟩⟩
 rename_i hp2;rw [if_neg hp,if_neg hp2] at h2;exact absurd rfl h2
theorem z9Q(k:Key)(u:Nat)(sp sv:Int)(sb:List UInt8)(ho:KeyT.ok k)(hs:sb.length≤1125899906842624):PC Tryz.prog 39 [.agg (KeyT.cells k),rI u,.agg [rI sp,rI sv,.isl .u8 sb]] (.tup [.isl .u8 (opS k u sp sv sb).1,rI (opS k u sp sv sb).2]):=by
 have hu:=z4M k u;have hf:= @q3m k u;have hkl:=z1x k.1;have hdr:=fun hv hu'=>z7N k u 170 hv hu';change ∀_ _,PC _ _ [_,_,.raw (.int .u8 170)] (.isl .u8 (dkS k u 170)) at hdr;have htg:=fun c hv hu' hc=>j0R k u c ho hv hu' hc;unfold opS;generalize hok:uOk k u=ok at*;have hdl:=q5z k u 170;unfold unS;generalize hdk:dkS k u 170=dk at*;obtain ⟨p,v,b⟩:=k;dsimp only at*;cases ok
 · refine q0i rfl rfl ?_;refine rQ fi39 ?_;refine cQ hu ?_;trivial
 rw [if_pos rfl];obtain ⟨hv,hu',hbl,hb32,hb1,hb2⟩:=hf rfl;rw [←hbl] at hkl;have hdr:=hdr hv hu';by_cases hsp:sp=p
 · subst hsp;have f1:(sp=sp)=True:=eq_true rfl;by_cases hsv:sv=v∨sv=0∨v=0
   · rw [if_pos ⟨rfl,hsv⟩];have hcase:(((sv=v)=True)∧((sv=v)=True)∧((sv=v)=True))∨(((sv=v)=False)∧((sv=0)=True)∧((sv=0)=True))∨(((sv=v)=False)∧((sv=0)=False)∧((v=0)=True)):=by
      by_cases h1:sv=v
      · exact .inl ⟨eq_true h1,eq_true h1,eq_true h1⟩
      by_cases h2:sv=0
      · exact .inr (.inl ⟨eq_false h1,eq_true h2,eq_true h2⟩)
      exact .inr (.inr ⟨eq_false h1,eq_false h2,eq_true ((hsv.resolve_left h1).resolve_left h2)⟩)
     have e1:IntKind.i64.wrap (((sb.length:Nat):Int) - ((b.length:Nat):Int))=((sb.length:Nat):Int) - ((b.length:Nat):Int):=wrapi (by omega)
     by_cases hl1:sb.length<16+b.length
     · have n1:(((sb.length:Nat):Int) - ((b.length:Nat):Int) <16)=True:=eq_true (by omega)
       rw [if_pos hl1];rcases hcase with ⟨g1,g2,g3⟩ | ⟨g1,g2,g3⟩ | ⟨g1,g2,g3⟩
       all_goals
        refine q0i rfl rfl ?_;refine rQ fi39 ?_;refine cy4 hu f1 g1 g2 g3 ?_;refine q0e hkl ?_;refine gy2 e1 n1 ?_;trivial
     have n1:(((sb.length:Nat):Int) - ((b.length:Nat):Int) <16)=False:=eq_false (by omega)
     have n0:((sb.length:Nat):Int) - ((b.length:Nat):Int)=((sb.length-b.length:Nat):Int):=by omega
     rw [if_neg hl1];by_cases hl2:65552+b.length<sb.length
     · have n2:(65552< ((sb.length:Nat):Int) - ((b.length:Nat):Int))=True:=eq_true (by omega)
       rw [if_pos hl2];rcases hcase with ⟨g1,g2,g3⟩ | ⟨g1,g2,g3⟩ | ⟨g1,g2,g3⟩
       all_goals
        refine q0i rfl rfl ?_;refine rQ fi39 ?_;refine cy4 hu f1 g1 g2 g3 ?_;refine q0e hkl ?_;refine gy3 e1 n1 n2 ?_;trivial
     have n2:(65552< ((sb.length-b.length:Nat):Int))=False:=eq_false (by omega)
     rw [n0] at n1 e1;rw [if_neg hl2];have hcl:(sb.take (sb.length-b.length)).length=sb.length-b.length:=by rw [Aj];omega
     have htg:=htg (sb.take (sb.length-b.length)) hv hu' (by omega)
     have htl:List.take sb.length sb=sb:=AE;generalize hc:sb.take (sb.length-b.length)=c at*;generalize hdp:sb.drop (sb.length-b.length)=dr at*;generalize tg9S (sp,v,b) u c=tg at*;rcases hcase with ⟨g1,g2,g3⟩ | ⟨g1,g2,g3⟩ | ⟨g1,g2,g3⟩
     all_goals
      refine q0i rfl rfl ?_;refine rQ fi39 ?_;refine cy4 hu f1 g1 g2 g3 ?_;refine q0e hkl ?_;refine gy8 e1 n0 n1 n2 htl htl htl htl ?_;rw [hc];refine ⟨by omega,by omega,q0e htg ?_⟩
      by_cases hte:tg=dr
      · subst hte;have hq:(strOf tg=strOf (List.drop (sb.length-b.length) sb))=True:=eq_true (by rw [hdp])
        rw [if_pos rfl];refine gy1 hq ?_;refine q0a hdr ?_;by_cases hp:sp=1
        · have f2:(sp=1)=True:=eq_true hp;rw [if_pos hp];have hc7:=j2F dk z16 c (by rw [hdl];exact hb1 hp) rfl (by rw [hcl,hb1 hp];have:=hb1 hp;omega) (by omega)
          refine gy1 f2 ?_;refine q0q 2 ?_;with_reducible refine sxE ?_
          change CallI _ _ _ [_,.isl .u8 z16,_] _ _;refine q0a hc7 ?_;have hdl7:=q5V dk z16 c rfl (by have:=hb1 hp;omega)
          refine gy1 hdl7 ?_;exact ⟨by have:=hb1 hp;omega,by rw [Ab (by omega)]⟩
        have f2:(sp=1)=False:=eq_false hp;rw [if_neg hp];have hst:=j2G dk (c.take 16) (c.drop 16) (by omega) (by rw [Aj];omega) (by rw [Al];omega)
        refine gy1 f2 ?_;rw [AE];refine ⟨by omega,⟨by omega,by omega⟩,q0e hst ?_⟩
        refine gQ ?_;trivial
      have hq:(strOf tg=strOf (List.drop (sb.length-b.length) sb))=False:=eq_false (by rw [hdp];exact fun h=>hte (q7m h))
      rw [if_neg hte];refine gy1 hq ?_;trivial
   rw [if_neg (fun h=>hsv h.2)];have g1:(sv=v)=False:=eq_false fun h=>hsv (.inl h);have g2:(sv=0)=False:=eq_false fun h=>hsv (.inr (.inl h));have g3:(v=0)=False:=eq_false fun h=>hsv (.inr (.inr h));refine q0i rfl rfl ?_;refine rQ fi39 ?_;refine cy4 hu f1 g1 g2 g3 ?_;trivial
 have f1:(sp=p)=False:=eq_false hsp;rw [if_neg (fun h=>hsp h.1)];refine q0i rfl rfl ?_;refine rQ fi39 ?_;refine cy1 hu f1 ?_;trivial
theorem j4j(b:List UInt8)(hb:b.length=16):PC Tryz.prog 154 [.isl (.slice .u8) [b],.raw (.slice none 0 0)] (.isl .u8 b):=by
 have f1:(((1:Nat):Int)=0)=False:=eq_false (by decide)
 have f2:(((1:Nat):Int)=1)=True:=eq_true (by decide)
 have e5:(Ty.slice .u8).dflt=([]:List UInt8):=rfl;refine q0i rfl rfl ?_;refine q0Z fi154 ?_;refine gy4 f1 f2 e5 hb ?_;exact Ab (by omega)
theorem j2U(bs:List (List UInt8))(h1:1≤bs.length)(h16:∀b∈bs,b.length=16)(hl:bs.length≤10000):PC Tryz.prog 154 [.isl (.slice .u8) bs,.raw (.slice none 0 0)] (.isl .u8 bs.flatten):=by
 by_cases h2:2≤bs.length
 · exact j4r bs h2 h16 (by omega) (by rw [flat16 bs h16];omega)
 obtain ⟨b,rfl⟩:=Bt.1 (show bs.length=1 by omega)
 rw [BQ];exact j4j b (h16 b Bs)
def ceC(m:List SV)(i:Nat)(G:List SObj)(acc:List (List UInt8)):List SObj:=.cells 184 m :: .cells 97 [.bld (G.length+2) (.slice .u8) i] :: (G++ [.row (.slice .u8) acc])
def quG(G:List SObj):Prop:=∀ (h:Nat) (t:Ty) (xs:List t.den),frzObH h t xs G
theorem z6F:quG []:=fun _ _ _=>trivial
theorem z6s{G L:List SObj}(h:quG G)(h':quG L):quG (G++L):=fun _ _ _=>q1p (h _ _ _) (h' _ _ _)
def ceH(m:List SV)(key iv p:List UInt8)(i:Nat)(H':List SObj):Prop:=∃G,quG G∧H'=ceC m i G (cbl key iv p i)
theorem z9I(key iv p:List UInt8)(i:Nat):cbl key iv p (i+1)=cbl key iv p i++ [cpre key iv p (i+1)]:=by
 unfold cbl;rw [BE,Bk];rfl
theorem z5i(key iv p:List UInt8)(i:Nat):(cbl key iv p i).length=i:=by simp [cbl]
theorem j4G(key iv p:List UInt8)(i:Nat):∀b∈cbl key iv p i,b.length=16:=by
 intro b hb;unfold cbl at hb;obtain ⟨i,_,rfl⟩:=Bu.1 hb;exact q3J _ _
theorem z8L(bs:List (List UInt8)):(exgS bs).length=bs.length:=by
 unfold exgS swpS;split<;>simp
theorem j1y(bs:List (List UInt8))(h:∀b∈bs,b.length=16):∀b∈exgS bs,b.length=16:=by
 unfold exgS;split
 · rename_i h1;have hg:∀j,j<bs.length→(bs.getD j []).length=16:=fun j hj=>h _ (by rw [Aa,Ae hj];exact Bq _)
   intro b hb;unfold swpS at hb;rcases CB hb with hb|rfl
   · rcases CB hb with hb|rfl
     · exact h b hb
     exact hg _ (by omega)
   exact hg _ (by omega)
 exact h
theorem j3f(key iv p:List UInt8)(hk:key.length=16)(hi:iv.length=16)(h1:16≤p.length)(hp:p.length≤131072):PC Tryz.prog 137 [.isl .u8 key,.isl .u8 iv,.isl .u8 p] (.tup [.isl .u8 (ctsE key iv p),rI 0]):=by
 have hst:=q9v key iv hk hi;have hck:=z2A p h1 hp;have hcu:=j0h p (by omega)
 have hch:=z8f key iv p hk hi hp;have hit:=z8a key iv p hk hi hp;have hpr:=z4S key iv p hi h1;have hel:=z2Y key iv p hi h1;have hn:nblk p.length=(p.length+15) / 16:=rfl;unfold modS at hst;unfold chnF at hch;generalize cipS key=cp at*;refine q0p rfl rfl (q4q (q1z noFG fi137 ?_))
 letI:Ghost:=topG noFG []
 refine gQ ?_;refine cQ hst ?_;refine cQ hck ?_;refine cQ hcu ?_;refine cQ hch ?_;refine q5u 1 0 (.slice .u8) rfl rfl rfl ?_;refine z4w (ceH [.iptr CipT cp 0,.isl .u8 iv] key iv p) (fun _ _ _=>False) rfl rfl rfl hit (fun i n args' new h=>by rw [h.1];rfl) ⟨[],z6F,rfl⟩ rfl ?_ ?_ ?_
 · rintro i _ args' new hi' ⟨G,hG,rfl⟩ ⟨rfl,rfl⟩ L1 L2
   letI:Ghost:=pinG noFG L1
   rw [Ah];have hal:=z5i key iv p i;have hac:=z9I key iv p i;have hbl:=z3E key iv p hi (i+1);generalize cbl key iv p i=a at*;generalize cpre key iv p (i+1)=b at*;unfold ceC;refine uQ 600 _ ?_;simp only [putL,BD];with_reducible refine sxaE ?_
   letI:Ghost:=pinG noFG L2
   refine gya2 hal hbl ?_;have hi2:i< (p.length+15) / 16:=hi';refine ⟨⟨by omega,by omega⟩,G++ [.dead,.row (.slice .u8) [b]],z6s hG (fun _ _ _=>by simp [frzObH,SObj.frzOb]),?_⟩
   rw [hac];simp [ceC]
 · rintro D _ ⟨G,hG,rfl⟩;unfold ceC
   letI:Ghost:=topG noFG [D]
   have hal:=z5i key iv p (nblk p.length);have hal6:=j4G key iv p (nblk p.length);generalize cbl key iv p (nblk p.length)=a at*;have hxl:=z8L a;have hx16:=j1y a hal6;have hex:=j4B a (by omega)
   have hjo:=j2U (exgS a) (by omega) hx16 (by omega)
   have hfl:=flat16 (exgS a) hx16;generalize exgS a=x at*;refine aQ ?_;rw [←hal];refine q0j [1,G.length+2] hex rfl (by simp) ?_ rfl rfl ?_
   · simp (maxSteps:=3000000) only [atH,sig,SObj.ren,SV.ren,SV.renL,SObj.live,List.append_assoc,getA,getA0,setA,setA0,Ad,Nat.add_assoc,go_sem,↓zA,↓reduceIte,↓reduceDIte] <;>try simp only [zB]
   simp only [afterO,Out.ren,SV.ren,mgA,sig,SObj.ren,SV.renL,List.set,List.map,Ah];refine uQ 3 _ ?_;with_reducible refine sxaE ?_
   refine q0X (G.length+2) (ty:=.slice .u8) (xs:=x) rfl (by simp) (by omega) ?_ ?_ ?_
   · with_reducible refine sxaE ?_
     exact ⟨by omega,q1p (hG _ _ _) ⟨trivial,trivial⟩⟩
   · with_reducible refine sxaE ?_;trivial
   have htk:List.take a.length x=x:=Ab (by omega)
   with_reducible refine sya1 htk ?_
   generalize (List.map (SObj.frz (G.length+2) (Ty.slice .u8) x) G++ [SObj.row (Ty.slice .u8) x]).set G.length SObj.dead=T;refine gQ ?_;refine cy1 hjo hpr ?_;refine ⟨⟨by omega,by omega⟩,q0a (q1X (ctsE key iv p) (by omega)) ?_⟩
   refine gQ ?_;trivial
 rintro D i ex _ hi' h;exact h.elim
def unxS(w:List UInt8)(n:Nat)(bs:List (List UInt8)):List (List UInt8):=
 if bs.length=1 then bs else
  (bs.set (bs.length-2) ((bs.getD (bs.length-1) []).take (n-16* (bs.length-1))++(decS w (bs.getD (bs.length-2) [])).drop (n-16* (bs.length-1)))).set (bs.length-1) (bs.getD (bs.length-2) [])
theorem j1K(key iv c:List UInt8)(bs:List (List UInt8))(hk:key.length=16)(h16:∀b∈bs,b.length=16)(hc:c.length≤131072)(h1:1≤bs.length)(hn:16* (bs.length-1) <c.length)(hn2:c.length≤16*bs.length):
 PE Tryz.prog 155 [.ptr 0 0,.ptr 1 0,.ptr 2 0] [.cells 97 [.bld 3 (.slice .u8) bs.length],.cells 22 [.isl .u8 c],.cells 184 (modS key iv),.row (.slice .u8) bs] (.ret (.tup []))
  [.cells 97 [.bld 3 (.slice .u8) bs.length],.cells 22 [.isl .u8 c],.cells 184 (modS key iv),.row (.slice .u8) (unxS (wordsS key) c.length bs)]:=by
 refine q0g (Ag _) ?_;refine q0Z fi155 ?_;unfold unxS;by_cases h:bs.length=1
 · have f1:(((bs.length:Nat):Int)=1)=True:=eq_true (by omega)
   rw [if_pos h];unfold modS;generalize cipS key=cp at*;refine gy1 f1 ?_;trivial
 have f1:(((bs.length:Nat):Int)=1)=False:=eq_false (by omega)
 have e1:IntKind.i64.wrap (((bs.length:Nat):Int) -1)=((bs.length-1:Nat):Int):=by rw [wrapi (by omega)];omega
 have e2:IntKind.i64.wrap (((bs.length:Nat):Int) -2)=((bs.length-2:Nat):Int):=by rw [wrapi (by omega)];omega
 have e3:IntKind.i64.wrap (16* ((bs.length-1:Nat):Int))=((16* (bs.length-1):Nat):Int):=by rw [wrapi (by omega)];omega
 obtain ⟨k,hkn⟩:∃k,k=c.length-16* (bs.length-1):=⟨_,rfl⟩;have e4:IntKind.i64.wrap (((c.length:Nat):Int) - ((16* (bs.length-1):Nat):Int))=(k:Int):=by rw [wrapi (by omega)];omega
 have hg:∀j,j<bs.length→(bs.getD j []).length=16:=fun j hj=>h16 _ (by rw [Aa,Ae hj];exact Bq _)
 have hg1:=hg (bs.length-1) (by omega)
 have hg2:=hg (bs.length-2) (by omega)
 have hap:=q9N key iv (bs.getD (bs.length-2) []) hk hg2;have hdl:=q2r (wordsS key) (bs.getD (bs.length-2) []);rw [if_neg h,←hkn];unfold modS at*;have e5:(Ty.slice .u8).dflt=([]:List UInt8):=rfl;generalize hx1:bs.getD (bs.length-1) []=x1 at*;generalize hx2:bs.getD (bs.length-2) []=x2 at*;generalize decS (wordsS key) x2=dx at*;generalize cipS key=cp at*;refine uQ 600 _ ?_;simp (maxSteps:=3000000) only [f1,e1,e2,e3,e4,e5,Ac,Aq,hx2,go_sem,↓zA,↓reduceIte,↓reduceDIte] <;>try simp only [zB]
 refine ⟨⟨by omega,by omega⟩,by omega,?_⟩
 refine q0a hap ?_;refine uQ 3 _ ?_;with_reducible refine sxE ?_
 refine q1N [0,3] mixed ?_;have htl:List.take dx.length dx=dx:=AE;refine uQ 14 _ ?_;with_reducible refine sy6 e1 e5 Ac Aq hx1 htl ?_
 refine ⟨⟨by omega,by omega⟩,by omega,⟨by omega,Ag _,by omega⟩,⟨by omega,by omega,Ag _⟩,⟨by rw [Aj,Al];omega,by rw [Aj,Al];omega⟩,?_⟩
 refine q1N [3,999999,0] mixed ?_;refine gy3 e1 e2 e5 ?_;refine ⟨⟨by omega,by omega⟩,by omega,⟨by omega,by omega⟩,by rw [Bb];omega,?_⟩
 simp only [Ac]
def mixC(e x:UInt8):Prop:=
 (mulS 14 (mulS 2 x) ^^^ mulS 11 x^^^ mulS 13 x^^^ mulS 9 (mulS 3 x)=x)∧(mulS 14 (mulS 3 x) ^^^ mulS 11 (mulS 2 x) ^^^ mulS 13 x^^^ mulS 9 x=e)
 ∧(mulS 14 x^^^ mulS 11 (mulS 3 x) ^^^ mulS 13 (mulS 2 x) ^^^ mulS 9 x=e)∧(mulS 14 x^^^ mulS 11 x^^^ mulS 13 (mulS 3 x) ^^^ mulS 9 (mulS 2 x)=e)
instance (e x:UInt8):Decidable (mixC e x):=by unfold mixC;infer_instance
theorem z9i(z:List UInt8)(n:Nat):z.take (16*n)++(z.take (16*n+16)).drop (16*n)=z.take (16* (n+1)):=by
 have h:(z.take (16*n+16)).take (16*n)=z.take (16*n):=by rw [List.take_take];congr 1;omega
 rw [←h,A0];rfl
end Go.Proofs.YtikapabgggphpaaGreatDoor
