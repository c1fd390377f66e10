/- CTS: the plain law of decryption. -/
import Derived.Test.YtikapabgggphpaaGreatDoorP26
import Derived.Test.YtikapabgggphpaaGreatDoorP24
import Derived.Test.YtikapabgggphpaaGreatDoorP20
import Derived.Test.YtikapabgggphpaaGreatDoorP12
set_option linter.all false
namespace Go.Proofs.YtikapabgggphpaaGreatDoor
open Go Go.Sx Go.Proofs
set_option maxRecDepth 100000
theorem z3e:∀ (xs:List (List UInt8)) (i:Nat),(∀b∈xs,b.length=16)→i<xs.length→(xs.flatten.take (16*i+16)).drop (16*i)=xs.getD i []
 |b :: xs,0,h,_=>by
  have hb:=h b Bn;show List.drop 0 (List.take 16 (b++xs.flatten))=b;rw [AG,List.take_left' hb]
 |b :: xs,i+1,h,hi=>by
  have hb:=h b Bn;have ih:=z3e xs i (fun c hc=>h c (AO _ hc)) (by simpa using hi)
  rw [AL,show 16* (i+1)+16=b.length+ (16*i+16) by omega,List.take_length_add_append,show 16* (i+1)=b.length+16*i by omega,List.drop_length_add_append,ih]
  rfl
def dpl(w iv:List UInt8)(xs:List (List UInt8)):Nat→List UInt8×List UInt8
 |0=>(iv,[])
 |n+1=>(xs.getD n [],(dpl w iv xs n).2++xorS (decS w (xs.getD n [])) (dpl w iv xs n).1)
theorem z4B(w iv:List UInt8)(xs:List (List UInt8))(h:∀b∈xs,b.length=16):∀n,n≤xs.length→dchA w iv xs.flatten n=dpl w iv xs n
 |0,_=>rfl
 |n+1,hn=>by
  rw [dchA,dpl,z3e xs n h (by omega),z4B w iv xs h n (by omega)]
def cblk(c:List UInt8)(n:Nat):List (List UInt8):=(List.range n).map (blkC c)
theorem q8O(c:List UInt8)(n:Nat):(cblk c n).length=n:=by simp [cblk]
theorem z6L(c:List UInt8)(n:Nat)(h:n≤nblk c.length):∀b∈cblk c n,b.length=16:=by
 intro b hb;unfold cblk at hb;obtain ⟨i,hi,rfl⟩:=Bx.1 hb;exact q3P c (by have:=Bz.1 hi;omega)
theorem q4x(c:List UInt8)(n:Nat):cblk c (n+1)=cblk c n++ [blkC c n]:=by
 unfold cblk;rw [BE,Bh];rfl
theorem q9V(c:List UInt8):∀n,16*n≤c.length→(cblk c n).flatten=c.take (16*n)
 |0,_=>rfl
 |n+1,h=>by
  rw [q4x,BM,q9V c n (by omega),BA,q2H c (by omega),z8A]
theorem j1B(w:List UInt8)(n:Nat)(l:List (List UInt8))(x y:List UInt8):unxS w n (l++ [x,y])=l++ [y.take (n-16* (l.length+1))++(decS w x).drop (n-16* (l.length+1)),x]:=by
 unfold unxS;have h1:(l++ [x,y]).length=l.length+2:=by simp
 rw [h1,if_neg (by omega),show l.length+2-2=l.length by omega,show l.length+2-1=l.length+1 by omega]
 have g1:(l++ [x,y]).getD (l.length+1) []=y:=by simp [Ab]
 have g0:(l++ [x,y]).getD l.length []=x:=by simp [Ab]
 rw [g1,g0];simp [List.set_append]
theorem z2P(w c:List UInt8)(h:16<c.length):(unxS w c.length (cblk c (nblk c.length))).flatten=unexS w c∧(∀b∈unxS w c.length (cblk c (nblk c.length)),b.length=16)∧(unxS w c.length (cblk c (nblk c.length))).length=nblk c.length:=by
 have hn:nblk c.length=(c.length+15) / 16:=rfl;have hw:whN c.length=(c.length+15) / 16*16:=rfl;obtain ⟨m,hm⟩:∃m,nblk c.length=m+2:=⟨nblk c.length-2,by omega⟩
 have hx:=q2H c (i:=m) (by omega)
 have hxl:=q3P c (i:=m) (by omega)
 have hyl:=q3P c (i:=m+1) (by omega)
 have hy:(blkC c (m+1)).take (c.length-16* (m+1))=c.drop (16* (m+1)):=by
  unfold blkC;rw [A1 (by rw [Al,Ak];omega),Aa (show c.length≤16* (m+1)+16 by omega)]
  exact Aa (by rw [Al];omega)
 have hl:=q9V c m (by omega)
 have hll:=q8O c m;have hl6:=z6L c m (by omega)
 have hkl:(c.drop (16* (m+1))).length=c.length-16* (m+1):=Al;rw [hm,q4x,q4x,List.append_assoc];change (unxS w c.length (cblk c m++ [blkC c m,blkC c (m+1)])).flatten=_∧(∀b∈unxS w c.length (cblk c m++ [blkC c m,blkC c (m+1)]),_)∧(unxS w c.length (cblk c m++ [blkC c m,blkC c (m+1)])).length=_;rw [j1B,hll,hy];generalize cblk c m=l at*;generalize blkC c m=x at*;refine ⟨?_,?_,?_⟩
 · unfold unexS;dsimp only;rw [show whN c.length-32=16*m by omega,show whN c.length-16=16* (m+1) by omega,show 16* (m+1)=16*m+16 by omega,←hx,show 16*m+16=16* (m+1) by omega,hkl,←hl]
   simp
 · intro b hb;rcases Cp.1 hb with hb|hb
   · exact hl6 b hb
   simp only [Bq,Cl,or_false] at hb;rcases hb with rfl|rfl
   · rw [Ad,hkl,Al,q4M];omega
   exact hxl
 simp [hll]
theorem z5L(key iv c:List UInt8)(h1:16≤c.length):(dpl (wordsS key) iv (unxS (wordsS key) c.length (cblk c (nblk c.length))) (nblk c.length)).2.take c.length=ctsD key iv c:=by
 have hn:nblk c.length=(c.length+15) / 16:=rfl;unfold ctsD
 by_cases h:c.length=16
 · have h2:nblk c.length=1:=by omega
   have hb:blkC c 0=c:=by
    rw [q2H c (by omega),CM,AG]
    exact Aa (by omega)
   rw [if_pos h,h2,show cblk c 1= [blkC c 0] from rfl,hb,show unxS (wordsS key) c.length [c]= [c] from rfl]
   show ([]++xorS (decS (wordsS key) c) iv).take c.length=_;rw [AJ];exact Aa (by rw [q3a];omega)
 obtain ⟨e1,e2,e3⟩:=z2P (wordsS key) c (by omega)
 rw [if_neg h,←e1,←z4B _ _ _ e2 _ (by omega)]
 unfold unchS;rw [flat16 _ e2,e3,Nat.mul_div_cancel_left _ (by decide)]
set_option maxHeartbeats 40000000
theorem z5q{G:List SObj}:∀ (H0 L:List SObj) {H:List SObj},H=H0++L++G→leH (fun h=>h) H H0.length L
 |_,[],_,_=>trivial
 |H0,o :: L,H,e=>by
  have h1:leH (fun h=>h) H (H0.length+1) L:=by
   have:=z5q (G:=G) (H0++ [o]) L (H:=H) (by rw [e];simp)
   rwa [Ad] at this
  have h2:H[H0.length]?=some o:=by rw [e];simp
  cases o with
  |dead=>exact h1
  |cells T cs=>exact ⟨by rw [q1L];exact h2,h1⟩
  |row t xs=>exact ⟨by rw [q1L];exact h2,h1⟩
  |map k ks vs=>exact ⟨by rw [q1L];exact h2,h1⟩
  |mark n=>exact ⟨by rw [q1L];exact h2,h1⟩
theorem j2r[Ghost]{P:Program}{AQ:Ex→List SV→List SObj→Prop}{td:List IT}{t:List SV}(H0:List SObj){G:List SObj}(hp:plainT td=true)(hb:SV.belL H0.length t=true)(hh:belH H0.length H0=true)(hi:injH (fun h=>h) 0 H0 []=true)(hs:SoundI P AQ ⟨0,td,t,H0⟩):SoundI P AQ ⟨0,td,t,H0++G⟩:=
 q3S (σ:=fun h=>h) hp ⟨q6D (z1Y _),z5q (G:=G) [] H0 (by simp),hb,hh,hi,rfl,Aj _,fun _ h0=>absurd h0 (AT 0)⟩ hs
theorem z5U(w iv:List UInt8)(xs:List (List UInt8))(hi:iv.length=16)(h:∀b∈xs,b.length=16):∀n,n≤xs.length→(dpl w iv xs n).1.length=16∧(dpl w iv xs n).2.length=16*n
 |0,_=>⟨hi,rfl⟩
 |n+1,hn=>by
  have ih:=z5U w iv xs hi h n (by omega)
  refine ⟨h _ (by rw [dpl,Ab,Ae hn];exact Bu _),?_⟩
  rw [dpl,Ad,ih.2,q3a];omega
def cdC(m:List SV)(c:List UInt8)(i:Nat)(G:List SObj)(acc:List (List UInt8)):List SObj:=.cells 22 [.isl .u8 c] :: .cells 184 m :: .cells 97 [.bld (G.length+3) (.slice .u8) i] :: (G++ [.row (.slice .u8) acc])
def cdH(m:List SV)(c:List UInt8)(i:Nat)(H':List SObj):Prop:=∃G,quG G∧H'=cdC m c i G (cblk c i)
theorem j2Z(key iv c:List UInt8)(hk:key.length=16)(hi:iv.length=16)(h1:16≤c.length)(hp:c.length≤131072):PC Tryz.prog 138 [.isl .u8 key,.isl .u8 iv,.isl .u8 c] (.tup [.isl .u8 (ctsD key iv c),rI 0]):=by
 have hst:=q9k key iv hk hi;have hck:=z3s c h1 hp;have hcu:=j0w c (by omega)
 have hit:=j4e c hp;have hpr:=z5L key iv c h1;have hel:=q8j key iv c hi h1;have hn:nblk c.length=(c.length+15) / 16:=rfl;have hap:=fun b hb=>q9O key iv b hk hb;have hbx:=z6L c (nblk c.length) (Ag _);have hbl:=q8O c (nblk c.length);have hex:=j2n key iv c (cblk c (nblk c.length)) hk hbx hp (by omega) (by omega) (by omega)
 unfold modS at hst hap hex;generalize cipS key=cp at*;refine q0q rfl rfl (q4g (q1z noFG fi138 ?_))
 letI:Ghost:=topG noFG []
 refine uQ 600 _ ?_
 with_reducible refine sxE ?_
 refine q0a hst ?_;refine uQ 600 _ ?_
 with_reducible refine sxE ?_
 refine q0a hck ?_;refine uQ 600 _ ?_
 with_reducible refine sxE ?_
 refine q0a hcu ?_;refine uQ 600 _ ?_
 with_reducible refine sxE ?_
 refine q5k 2 0 (.slice .u8) rfl rfl rfl ?_;refine z3Z (cdH [.iptr CipT cp 0,.isl .u8 iv] c) (fun _ _ _=>False) rfl rfl rfl hit (fun i n args' new h=>by rw [h.1];rfl) ⟨[],z5J,rfl⟩ rfl ?_ ?_ ?_
 · rintro i _ args' new hi' ⟨G,hG,rfl⟩ ⟨rfl,rfl⟩ L1 L2
   letI:Ghost:=pinG noFG L1
   rw [Ah];have hal:=q8O c i;have hac:=q4x c i;have hbl:=q3P c hi';generalize cblk c i=a at*;generalize blkC c i=b at*;unfold cdC;refine uQ 600 _ ?_;simp only [putL,BC]
   with_reducible refine sxaE ?_
   letI:Ghost:=pinG noFG L2
   refine gya2 hal hbl ?_;have hi2:i< (c.length+15) / 16:=hi';refine ⟨⟨by omega,by omega⟩,G++ [.dead,.row (.slice .u8) [b]],z6n hG (fun _ _ _=>by simp [frzObH,SObj.frzOb]),?_⟩
   rw [hac];simp [cdC]
 · rintro D _ ⟨G,hG,rfl⟩;unfold cdC
   letI:Ghost:=topG noFG [D]
   obtain ⟨x,hx⟩:∃x,x=unxS (wordsS key) c.length (cblk c (nblk c.length)):=⟨_,rfl⟩;have hx16:∀b∈x,b.length=16:=by
    by_cases h:c.length=16
    · rw [hx,show unxS (wordsS key) c.length (cblk c (nblk c.length))=cblk c (nblk c.length) from if_pos (by omega)]
      exact hbx
    rw [hx];exact (z2P (wordsS key) c (by omega)).2.1
   have hxl:x.length=nblk c.length:=by
    rw [hx];unfold unxS;split
    · exact hbl
    rw [A9,A9];exact hbl
   rw [←hx] at hpr hex;generalize cblk c (nblk c.length)=a at*;refine uQ 600 _ ?_
   with_reducible refine sxaE ?_
   rw [←hbl];refine q0j [2,0,1,G.length+3] hex rfl (by simp) ?_ rfl rfl ?_
   · simp (maxSteps:=3000000) only [atH,sig,SObj.ren,SV.ren,SV.renL,SObj.live,List.append_assoc,getA,getA0,setA,setA0,Ad,Nat.add_assoc,go_sem,↓zA,↓reduceIte,↓reduceDIte] <;>try simp only [zB]
   simp only [afterO,Out.ren,SV.ren,mgA,sig,SObj.ren,SV.renL,List.set,List.map,Ah];refine uQ 3 _ ?_
   with_reducible refine sxaE ?_
   refine q1b (G.length+3) (ty:=.slice .u8) (xs:=x) rfl (by simp) (by omega) ?_ ?_ ?_
   · with_reducible refine sxaE ?_
     exact ⟨by omega,q1p (hG _ _ _) ⟨trivial,trivial⟩⟩
   · with_reducible refine sxaE ?_;trivial
   have htk:List.take a.length x=x:=Aa (by omega)
   with_reducible refine sya1 htk ?_
   refine j2r [_,_,_] (by rfl) (by simp [SV.belL,SV.bel]) (by simp [belH,SObj.bel,SV.belL,SV.bel]) (by rfl) ?_
   refine uQ 600 _ ?_
   with_reducible refine sxE ?_
   clear hex hit hst hcu hck;obtain ⟨W,hW⟩:∃W,W=wordsS key:=⟨_,rfl⟩;rw [←hW] at hpr hap;refine q3b 14 .u8 (fun i=>(dpl W iv x i).2) (fun i=>[(15,.isl .u8 (dpl W iv x i).1),(46,rI i)]) x.length (fun _=>True) rfl (by simp) rfl rfl (fun i=>rfl) ?_ fun i hi' _=> ?_
   · with_reducible refine sxE ?_
     rfl
   have hdl:=z5U W iv x hi hx16 i hi';have hwr:=wsx i (by omega)
   by_cases hlt:i<x.length
   · have hd1:dpl W iv x (i+1)=(x.getD i [],(dpl W iv x i).2++xorS (decS W (x.getD i [])) (dpl W iv x i).1):=rfl;have hbi:(x.getD i []).length=16:=hx16 _ (by rw [Ab,Ae hlt];exact Bu _)
     have g1:((i:Int) < ((x.length:Nat):Int))=True:=eq_true (by omega)
     have e5:(Ty.slice .u8).dflt=([]:List UInt8):=rfl;have hapb:=hap _ hbi;have hcob:=q6w (decS W (x.getD i [])) (dpl W iv x i).1 (q4M _ _) hdl.1;have hxo:=q3a (decS W (x.getD i [])) (dpl W iv x i).1;generalize hgd:x.getD i []=b at*;generalize xorS (decS W b) (dpl W iv x i).1=y at*;generalize hdi:dpl W iv x i=d at*;obtain ⟨pv,acc⟩:=d;dsimp only at*;refine gy3 g1 e5 hgd ?_;refine ⟨⟨by omega,hlt⟩,?_⟩
     refine q0a hapb ?_;refine uQ 600 _ ?_
     with_reducible refine sxE ?_
     refine q0a hcob ?_;refine uQ 600 _ ?_;simp (maxSteps:=3000000) only [hdl.2,hxo,go_sem,↓zA,↓reduceIte,↓reduceDIte] <;>try simp only [zB]
     refine ⟨⟨by omega,by omega⟩,q1s [.dead] [] hlt trivial (by rw [hd1];rfl) ?_⟩
     simp (maxSteps:=3000000) only [hwr,hd1,Ad,hdl.2,hxo,go_sem,↓zA,↓reduceIte,↓reduceDIte] <;>try simp only [zB]
   obtain rfl:i=x.length:=by omega
   have g1:(((x.length:Nat):Int) < ((x.length:Nat):Int))=False:=eq_false (by omega)
   refine uQ 11 _ ?_;simp (maxSteps:=3000000) only [g1,go_sem,↓zA,↓reduceIte,↓reduceDIte] <;>try simp only [zB]
   rw [←hxl] at hpr hn;generalize hac:dpl W iv x x.length=d at*;obtain ⟨pv,acc⟩:=d;dsimp only at*;refine q1b 3 (ty:=.u8) (xs:=acc) rfl rfl (by omega) ?_ ?_ ?_
   · with_reducible refine sxE ?_;trivial
   · with_reducible refine sxE ?_
     first|done|exact Ag _|exact ⟨Ag _,Ag _⟩
   have htk:List.take acc.length acc=acc:=AE
   with_reducible refine sxE ?_
   refine gy2 htk hpr ?_;have hal:acc.length=16*x.length:=hdl.2;refine ⟨⟨by omega,by omega⟩,q0a (q2b (ctsD key iv c) (by omega)) ?_⟩
   refine uQ 600 _ ?_
   with_reducible refine sxE ?_;trivial
 rintro D i ex _ hi' h;exact h.elim
theorem or8(a b:UInt8):orK .u8 (a.toNat:Int) (b.toNat:Int)=((a|||b).toNat:Int):=by
 unfold orK;have ha:=a.toNat_lt;have hb:=b.toNat_lt;have hx:a.toNat|||b.toNat<2^ 8:=Nat.or_lt_two_pow ha hb
 have e:(BitVec.ofInt IntKind.u8.bits (a.toNat:Int) |||BitVec.ofInt IntKind.u8.bits (b.toNat:Int)).toNat=a.toNat|||b.toNat:=by
  rw [Ca,AP,AP,AZ,AZ];rw [show 2^ IntKind.u8.bits=256 from rfl,AV ha,AV hb]
 rw [e,u8wrapR,UInt8.toNat_or];omega
def dfS(a b:List UInt8):Nat→UInt8
 |0=>0
 |i+1=>dfS a b i||| (a.getD i 0^^^ b.getD i 0)
theorem z8D{a b:UInt8}:a|||b=0 ↔ a=0∧b=0:=by
 constructor
 · intro h;have h1:(a|||b).toNat=0:=by rw [h];rfl
   rw [UInt8.toNat_or] at h1;have ha:= @Nat.left_le_or a.toNat b.toNat;have hb:= @Nat.right_le_or a.toNat b.toNat;exact ⟨BX.1 (by show a.toNat=0;omega),BX.1 (by show b.toNat=0;omega)⟩
 rintro ⟨rfl,rfl⟩;rfl
theorem z7z{a b:UInt8}:a^^^ b=0 ↔ a=b:=UInt8.xor_eq_zero_iff
theorem z3h(a b:List UInt8):∀i,dfS a b i=0 ↔ ∀j,j<i→a.getD j 0=b.getD j 0
 |0=>by simp [dfS]
 |i+1=>by
  rw [dfS,z8D,z3h a b i,z7z];constructor
  · rintro ⟨h1,h2⟩ j hj
    by_cases e:j=i
    · subst e;exact h2
    exact h1 j (by omega)
  intro h;exact ⟨fun j hj=>h j (by omega),h i (by omega)⟩
theorem j4b{a b:List UInt8}(h:a.length=b.length):dfS a b a.length=0 ↔ a=b:=by
 rw [z3h];constructor
 · intro h1;apply As h;intro j h2 h3;have:=h1 j h2;rw [Ab,Ab,Ae h2,Ae h3] at this;exact this
 rintro rfl j _;rfl
theorem j3k(a b:List UInt8)(ha:a.length≤1099511627776)(hb:b.length≤1099511627776):PC Tryz.prog 99 [.isl .u8 a,.isl .u8 b] (rB (decide (a=b))):=by
 refine q0q rfl rfl ?_
 by_cases hl:a.length=b.length
 · have hl':((a.length:Int)=(b.length:Int))=True:=eq_true (by omega)
   refine ry1 fi99 hl' ?_;refine q0f (ι:=Nat) (fun i=>[(14,rI i),(5,.raw (.int .u8 (dfS a b i).toNat))]) (fun i=>[]) (fun i=>a.length-i) (fun i=>i≤a.length) 0 (Aj _) rfl ?_ ?_
   · with_reducible refine sxE ?_
     rfl
   intro i hi;have hwr:=wsx i (by omega)
   by_cases h:i<a.length
   · have hx:=xor8 (a.getD i 0) (b.getD i 0);have ho:=or8 (dfS a b i) (a.getD i 0^^^ b.getD i 0);refine gyd3 hx ho Ac ?_;refine ⟨fun _=>⟨⟨by omega,by omega⟩,⟨by omega,by omega⟩,i+1,h,by dsimp only;omega,rfl,?_⟩,fun hh=>absurd h hh⟩
     with_reducible refine sx1 hwr ?_
     rfl
   obtain rfl:i=a.length:=by omega
   refine gQ ?_;refine ⟨fun hh=>absurd hh (by omega),fun _=> ?_⟩
   rw [decide_eq_decide,←j4b hl,←BX];exact Int.natCast_eq_zero
 have hl':((a.length:Int)=(b.length:Int))=False:=eq_false (by omega)
 refine ry1 fi99 hl' ?_;exact (decide_eq_false (fun e=>hl (by rw [e]))).symm
theorem z8n(a b:List UInt8)(ha:a.length≤1099511627776)(hb:b.length≤1099511627776):PC Tryz.prog 68 [.isl .u8 a,.isl .u8 b] (rB (decide (a=b))):=by
 refine q0q rfl rfl ?_;refine rQ fi68 ?_;refine q0a (j3k a b ha hb) ?_;refine gQ ?_;trivial
def opS2(k:Key)(u:Nat)(sp sv:Int)(sb:List UInt8):List UInt8×Int:=
 if uOk k u=true then
  if sp=k.1∧(sv=k.2.1∨sv=0∨k.2.1=0) then
   if sb.length<48 then ([],4)
   else if 65584<sb.length then ([],5)
   else if hmS (dkS k u 85) (sb.take (sb.length-32))=sb.drop (sb.length-32) then (ksS (dkS k u 170) ((sb.take (sb.length-32)).take 16) ((sb.take (sb.length-32)).drop 16),0)
   else ([],10)
  else ([],9)
 else ([],2)
theorem q9f(k:Key)(u:Nat)(conf plain:List UInt8)(hc:conf.length=16):(ciS k u conf plain).length=16+plain.length:=by
 unfold ciS;split
 · rw [z2B _ _ _ rfl (by rw [Ad];omega),Ad,hc]
 rw [Ad,q2Z,hc]
theorem q8s(k:Key)(u:Nat)(c:List UInt8):(tg9S k u c).length=if k.1=1 then 16 else 32:=by
 unfold tg9S;split
 · rw [Ak,q2o];rfl
 rw [q2o]
def slO(k:Key)(u:Nat)(conf plain:List UInt8):SV:=if uOk k u=true∧conf.length=16∧plain.length≤65536 then .tup [.agg [rI k.1,rI k.2.1,.isl .u8 (seS k u conf plain)],rI 0] else .tup [.agg [rI 0,rI 0,.isl .u8 []],rI 2]
def icTail:Nat→IC→IC
 |0,c=>c
 |n+1,.seq _ b=>icTail n b
 |_,c=>c
attribute [go_sem] icTail
theorem q2r(p v:Int)(b:List UInt8)(u:Nat)(ci tg:List UInt8)(hci:ci.length≤1048576)(htl:tg.length≤32)(htg:PC Tryz.prog 56 [.agg (KeyT.cells (p,v,b)),rI u,.isl .u8 ci] (.isl .u8 tg)):
 @SoundI noGhost Tryz.prog (retF Tryz.prog [.cell 8 42,.tmp 9] (SealK (.tup [.agg [rI p,rI v,.isl .u8 (ci++tg)],rI 0]))) ⟨0,[.ic (icTail 5 (ir30 (hreg Tryz.prog 30)).code)],[.agg (KeyT.cells (p,v,b)),rI u,.any,.any,.ptr 0 0,.any,.any,.any,.ptr 1 0,rI 0,.any,.isl .u8 ci]++List.replicate 50 .any,[.cells 24 (KeyT.cells (p,v,b)),.cells 42 [rI 0,rI 0,.raw (.slice none 0 0)]]⟩:=by
 letI:Ghost:=noGhost
 refine uQ 1 _ ?_
 with_reducible refine sxE ?_
 refine q1N [999999,0] mixed ?_;refine uQ 600 _ ?_
 with_reducible refine sxE ?_
 refine ⟨rfl,by omega,q0b htg ?_⟩
 have hcl:List.take (0+ci.length) ci=ci:=Aa (by omega)
 refine gy1 hcl ?_;have hll:(ci++tg).length=ci.length+tg.length:=Ad;exact ⟨by omega,by omega,Aa (by omega)⟩
theorem z8L(k:Key)(u:Nat)(conf plain:List UInt8)(ho:KeyT.ok k):PC Tryz.prog 30 [.agg (KeyT.cells k),rI u,.isl .u8 conf,.isl .u8 plain] (slO k u conf plain):=by
 have hu:=z6R k u;have hf:= @q2N k u;have hdr:=fun hv hu'=>z5l k u 170 hv hu';change ∀_ _,PC _ _ [_,_,.raw (.int .u8 170)] (.isl .u8 (dkS k u 170)) at hdr;have htg:=fun hv hu' hc=>j2N k u (ciS k u conf plain) ho hv hu' hc;unfold slO;generalize hok:uOk k u=ok at*;cases ok
 · rw [if_neg (fun h=>by cases h.1)]
   obtain ⟨p,v,b⟩:=k;refine q0i rfl rfl ?_;refine rQ fi30 ?_;refine q0a hu ?_;refine uQ 600 _ ?_
   with_reducible refine sxE ?_;trivial
 obtain ⟨hv,hu',hbl,hb32,hb1,hb2⟩:=hf rfl;have hdl:=q5i k u 170;have hdr:=hdr hv hu'
 by_cases hcl:conf.length=16
 · have f1:(((conf.length:Nat):Int)=16)=True:=eq_true (by omega)
   by_cases hpl:plain.length≤65536
   · have f2:(65536< ((plain.length:Nat):Int))=False:=eq_false (by omega)
     rw [if_pos ⟨rfl,hcl,hpl⟩];have hci:=q9f k u conf plain hcl;have htl:=q8s k u (ciS k u conf plain);have htg:=htg hv hu' (by omega)
     have hcd:ciS k u conf plain=if k.1=1 then ctsE (dkS k u 170) z16 (conf++plain) else conf++ksS (dkS k u 170) conf plain:=rfl;have hse:seS k u conf plain=ciS k u conf plain++tg9S k u (ciS k u conf plain):=rfl;rw [hse];generalize tg9S k u (ciS k u conf plain)=tg at*;generalize ciS k u conf plain=ci at*;generalize dkS k u 170=dk at*;obtain ⟨p,v,b⟩:=k;dsimp only at*;refine q0i rfl rfl ?_;refine rQ fi30 ?_;refine q0a hu ?_;refine gy2 f1 f2 ?_;refine q0a hdr ?_
     by_cases hp:p=1
     · have f3:(p=1)=True:=eq_true hp;rw [if_pos hp] at hcd htl;refine gy1 f3 ?_;have hcpl:(conf++plain).length=conf.length+plain.length:=Ad;have henc:=j0O dk z16 (conf++plain) (by rw [hdl];exact hb1 hp) rfl (by omega) (by omega)
       rw [←hcd] at henc;have hcc:List.take conf.length conf=conf:=AE;have hpt:List.take (conf.length+plain.length) (conf++plain)=conf++plain:=Aa (by omega)
       refine j0d fun id k' hrel=> ?_;refine q9h (G:=[]) mixed (m:=9) (by kernel_rfl) ?_
       refine q9d (i:=0) (io:=⟨some 33,.mov (.tmp 10),none⟩) (by kernel_rfl) (by kernel_rfl) (fun H'=>rfl) trivial ?_
       refine q9d (i:=3) (io:=⟨some 36,.mov (.tmp 2),none⟩) (by kernel_rfl) (by kernel_rfl) (fun H'=>rfl) trivial ?_
       refine q9d (i:=5) (io:=⟨some 38,.mov (.tmp 3),none⟩) (by kernel_rfl) (by kernel_rfl) (fun H'=>rfl) trivial ?_
       refine q5z (i:=1) (j:=2) (io:=⟨some 34,.mks .u8 1 (.const (.int .i64 16)) (.const (.int .i64 16)),none⟩) (jo:=⟨some 35,.bsl .u8 0 1 [] [],none⟩) (by kernel_rfl) (by kernel_rfl) (by kernel_rfl) ?_ ?_
       · simp (maxSteps:=3000000) only [Res.to,AnyK,go_sem,↓zA,↓reduceIte,↓reduceDIte] <;>try simp only [zB]
         refine ⟨q0W,?_⟩;refine q2j (l:=[(false,⟨some 35,.bsl .u8 0 1 [] [],none⟩),(false,⟨some 37,.app .u8 1 (.tmp 35) (.tmp 36),none⟩),(false,⟨some 39,.app .u8 1 (.tmp 37) (.tmp 38),none⟩),(false,⟨some 40,.call (.func 54) [.tmp 33,.tmp 34,.tmp 39],none⟩),(true,⟨some 11,.mov (.tmp 40),none⟩)]) (by kernel_rfl) hrel ?_
         refine gy3 hcc hpt hcpl ?_;refine ⟨by omega,by omega,?_⟩
         refine q0r 5 (by decide) ?_
         with_reducible refine sy2 hcpl hpt ?_
         refine ⟨by omega,by omega,q0r 2 (by decide) ?_⟩
         with_reducible refine sxE ?_
         change CallR _ _ _ _ [_,.isl .u8 z16,_] _ _;refine q0b henc ?_;refine uQ 2 _ ?_
         with_reducible refine sxE ?_
         refine q3S rfl (σ:=fun h=>h) ⟨?_,?_,rfl,rfl,rfl,rfl,Aj _,fun _ h0=>absurd h0 (AT 0)⟩ (q2r p v b u ci tg (by omega) (by omega) htg)
         · repeat (first|exact trivial|exact rfl|refine And.intro ?_ ?_)
         repeat (first|exact trivial|exact rfl|refine And.intro ?_ ?_)
       simp (maxSteps:=3000000) only [Res.to,AnyK,go_sem,↓zA,↓reduceIte,↓reduceDIte] <;>try simp only [zB]
       refine ⟨q0W,?_⟩;refine q5z (i:=1) (j:=4) (io:=⟨some 34,.mks .u8 1 (.const (.int .i64 16)) (.const (.int .i64 16)),none⟩) (jo:=⟨some 37,.app .u8 1 (.tmp 35) (.tmp 36),none⟩) (by kernel_rfl) (by kernel_rfl) (by kernel_rfl) ?_ ?_
       · simp (maxSteps:=3000000) only [Res.to,AnyK,go_sem,↓zA,↓reduceIte,↓reduceDIte] <;>try simp only [zB]
         refine ⟨q0W,?_⟩;refine q2j (l:=[(false,⟨some 37,.app .u8 1 (.tmp 35) (.tmp 36),none⟩),(false,⟨some 39,.app .u8 1 (.tmp 37) (.tmp 38),none⟩),(false,⟨some 40,.call (.func 54) [.tmp 33,.tmp 34,.tmp 39],none⟩),(true,⟨some 11,.mov (.tmp 40),none⟩)]) (by kernel_rfl) hrel ?_
         refine gy3 hcc hpt hcpl ?_;refine ⟨by omega,by omega,?_⟩
         refine q0r 5 (by decide) ?_
         with_reducible refine sy2 hcpl hpt ?_
         refine ⟨by omega,by omega,q0r 3 (by decide) ?_⟩
         with_reducible refine sxE ?_
         change CallR _ _ _ _ [_,.isl .u8 z16,_] _ _;refine q0b henc ?_;refine uQ 2 _ ?_
         with_reducible refine sxE ?_
         refine q3S rfl (σ:=fun h=>h) ⟨?_,?_,rfl,rfl,rfl,rfl,Aj _,fun _ h0=>absurd h0 (AT 0)⟩ (q2r p v b u ci tg (by omega) (by omega) htg)
         · repeat (first|exact trivial|exact rfl|refine And.intro ?_ ?_)
         repeat (first|exact trivial|exact rfl|refine And.intro ?_ ?_)
       simp (maxSteps:=3000000) only [Res.to,AnyK,go_sem,↓zA,↓reduceIte,↓reduceDIte] <;>try simp only [zB]
       refine ⟨by omega,q0W,?_⟩
       refine q5z (i:=1) (j:=6) (io:=⟨some 34,.mks .u8 1 (.const (.int .i64 16)) (.const (.int .i64 16)),none⟩) (jo:=⟨some 39,.app .u8 1 (.tmp 37) (.tmp 38),none⟩) (by kernel_rfl) (by kernel_rfl) (by kernel_rfl) ?_ ?_
       · simp (maxSteps:=3000000) only [Res.to,AnyK,go_sem,↓zA,↓reduceIte,↓reduceDIte] <;>try simp only [zB]
         refine ⟨q0W,?_⟩;refine q2j (l:=[(false,⟨some 39,.app .u8 1 (.tmp 37) (.tmp 38),none⟩),(false,⟨some 40,.call (.func 54) [.tmp 33,.tmp 34,.tmp 39],none⟩),(true,⟨some 11,.mov (.tmp 40),none⟩)]) (by kernel_rfl) hrel ?_
         refine gy3 hcc hpt hcpl ?_;refine ⟨by omega,?_⟩
         refine q0r 5 (by decide) ?_
         with_reducible refine sy2 hcpl hpt ?_
         refine ⟨by omega,by omega,q0r 4 (by decide) ?_⟩
         with_reducible refine sxE ?_
         change CallR _ _ _ _ [_,.isl .u8 z16,_] _ _;refine q0b henc ?_;refine uQ 2 _ ?_
         with_reducible refine sxE ?_
         refine q3S rfl (σ:=fun h=>h) ⟨?_,?_,rfl,rfl,rfl,rfl,Aj _,fun _ h0=>absurd h0 (AT 0)⟩ (q2r p v b u ci tg (by omega) (by omega) htg)
         · repeat (first|exact trivial|exact rfl|refine And.intro ?_ ?_)
         repeat (first|exact trivial|exact rfl|refine And.intro ?_ ?_)
       simp (maxSteps:=3000000) only [Res.to,AnyK,hcc,go_sem,↓zA,↓reduceIte,↓reduceDIte] <;>try simp only [zB]
       refine ⟨by omega,q0W,?_⟩
       refine q2j (l:=[(false,⟨some 34,.mks .u8 1 (.const (.int .i64 16)) (.const (.int .i64 16)),none⟩),(false,⟨some 40,.call (.func 54) [.tmp 33,.tmp 34,.tmp 39],none⟩),(true,⟨some 11,.mov (.tmp 40),none⟩)]) (by kernel_rfl) hrel ?_
       refine gy3 hcc hpt hcpl ?_;refine q0r 4 (by decide) ?_
       with_reducible refine sy2 hcpl hpt ?_
       refine ⟨by omega,by omega,q0r 5 (by decide) ?_⟩
       with_reducible refine sxE ?_
       change CallR _ _ _ _ [_,.isl .u8 z16,_] _ _;refine q0b henc ?_;refine uQ 2 _ ?_
       with_reducible refine sxE ?_
       refine q3S rfl (σ:=fun h=>h) ⟨?_,?_,rfl,rfl,rfl,rfl,Aj _,fun _ h0=>absurd h0 (AT 0)⟩ (q2r p v b u ci tg (by omega) (by omega) htg)
       · repeat (first|exact trivial|exact rfl|refine And.intro ?_ ?_)
       repeat (first|exact trivial|exact rfl|refine And.intro ?_ ?_)
     have f3:(p=1)=False:=eq_false hp;rw [if_neg hp] at hcd htl;refine gy1 f3 ?_;have hst:=j1L dk conf plain (by omega) (by omega) (by omega)
     have hkl:=q2Z dk conf plain;have hcc:List.take conf.length conf=conf:=AE;generalize ksS dk conf plain=ks at*;refine ⟨by omega,q0a hst ?_⟩
     refine uQ 3 _ ?_
     with_reducible refine sy2 hcc Ac ?_
     rw [←hcd];have hcl2:ci.length=conf.length+ks.length:=by rw [hcd,Ad]
     refine ⟨by omega,q1b 4 rfl rfl (by omega) ?_ ?_ ?_⟩
     · with_reducible refine sxE ?_;trivial
     · with_reducible refine sxE ?_
       omega
     with_reducible refine sxE ?_
     rw [Aa (by omega)]
     refine q3S rfl (σ:=fun h=>h) ⟨?_,?_,rfl,rfl,rfl,rfl,Aj _,fun _ h0=>absurd h0 (AT 0)⟩ (q2r p v b u ci tg (by omega) (by omega) htg)
     · repeat (first|exact trivial|exact rfl|refine And.intro ?_ ?_)
     repeat (first|exact trivial|exact rfl|refine And.intro ?_ ?_)
   have f2:(65536< ((plain.length:Nat):Int))=True:=eq_true (by omega)
   rw [if_neg (fun h=>hpl h.2.2)];obtain ⟨p,v,b⟩:=k;refine q0i rfl rfl ?_;refine rQ fi30 ?_;refine q0a hu ?_;refine gy2 f1 f2 ?_;trivial
 have f1:(((conf.length:Nat):Int)=16)=False:=eq_false (by omega)
 rw [if_neg (fun h=>hcl h.2.1)];obtain ⟨p,v,b⟩:=k;refine q0i rfl rfl ?_;refine rQ fi30 ?_;refine q0a hu ?_;refine gy1 f1 ?_;trivial
theorem z0F(key cipher:List UInt8)(hk:key.length≤64)(hc:cipher.length≤1048576):PC Tryz.prog 116 [.isl .u8 key,.isl .u8 cipher] (.isl .u8 (hmS key (z16++cipher))):=by
 have hj:=q9u key [z16,cipher] hk (by simp [j3m];omega) (by simp)
 rw [show [z16,cipher].flatten=z16++cipher by simp] at hj
 refine q0q rfl rfl ?_;refine q0V fi116 ?_;refine uQ 8 _ ?_
 with_reducible refine sxE ?_
 refine q1b 0 (ty:=.u8) (xs:=z16) rfl rfl (by decide) ?_ ?_ ?_
 · with_reducible refine sxE ?_;trivial
 · with_reducible refine sxE ?_
   exact Ag _
 with_reducible refine sxE ?_
 change SoundI _ _ ⟨_,_,[_,_,_,_,_,_,.isl .u8 z16,_,_,_],_⟩;refine uQ 600 _ ?_
 with_reducible refine sxE ?_
 refine q0k 1 ?_
 with_reducible refine sxE ?_
 refine q0a hj ?_;refine gQ ?_;trivial
theorem z5B(key conf plain:List UInt8)(hk:key.length=16)(hc:conf.length=16)(hp:plain.length≤65536):PC Tryz.prog 114 [.isl .u8 key,.isl .u8 conf,.isl .u8 plain] (.isl .u8 (ctsE key z16 (conf++plain))):=by
 have hj:=z2E [conf,plain] (by simp;omega) (by simp)
 rw [show [conf,plain].flatten=conf++plain by simp] at hj
 have hen:=j1Z key z16 (conf++plain) hk rfl (by simp;omega) (by simp;omega)
 refine q0q rfl rfl ?_;refine rQ fi114 ?_;refine q0K hj ?_;refine gQ ?_;refine q0r 0 (by decide) ?_
 with_reducible refine sxE ?_
 change CallR _ _ _ _ [_,.isl .u8 z16,_] _ _;refine q0b hen ?_;refine gQ ?_;trivial
theorem z6g(key cipher:List UInt8)(hk:key.length=16)(h1:16≤cipher.length)(hc:cipher.length≤131072):PC Tryz.prog 115 [.isl .u8 key,.isl .u8 cipher] (.isl .u8 ((ctsD key z16 cipher).drop 16)):=by
 have hde:=j2Z key z16 cipher hk rfl h1 hc;have hel:=q8j key z16 cipher rfl h1;refine q0q rfl rfl ?_;refine rQ fi115 ?_;refine q0k 0 ?_
 with_reducible refine sxE ?_
 change CallI _ _ _ [_,.isl .u8 z16,_] _ _;refine q0a hde ?_;have htk:List.take cipher.length (ctsD key z16 cipher)=ctsD key z16 cipher:=Aa (by omega)
 refine uQ 16 _ ?_
 with_reducible refine sy2 hel htk ?_
 refine ⟨⟨by omega,Ag _⟩,z0o 4 rfl rfl ?_⟩
 refine uQ 600 _ ?_
 with_reducible refine sxE ?_;trivial
theorem j0o{P:Program}{f:FuncId}{args:List SV}{s s':SV}(h:PC P f args s)(e:s=s'):PC P f args s':=e▸h
def kdL(nm:ByteArray)(kl tl:Nat)(fe fd fm:FuncId):List Value:=[.string nm,.int .i64 kl,.int .i64 16,.int .i64 tl,.int .i64 tl,fnV fe,fnV fd,fnV fm]
theorem q9P(nm:ByteArray)(kl tl:Nat)(fe fd fm:FuncId)(p v:Int)(b:List UInt8)(u:Nat)(conf plain ci mk:List UInt8)
 (hu:PC Tryz.prog 42 [.agg (KeyT.cells (p,v,b)),rI u] (.tup [.agg (rawL (kdL nm kl tl fe fd fm)),rI 0]))(hb1:1≤b.length)(hb2:b.length≤64)(hc:conf.length=16)(hp:plain.length≤65536)
 (hen:PC Tryz.prog fe [.isl .u8 (dkS (p,v,b) u 170),.isl .u8 conf,.isl .u8 plain] (.isl .u8 ci))(hmk:PC Tryz.prog fm [.isl .u8 (dkS (p,v,b) u 85),.isl .u8 ci] (.isl .u8 mk))(htl:tl≤mk.length)(hml:mk.length≤4096)(hci:ci.length≤1048576):
 PC Tryz.prog 17 [.agg (KeyT.cells (p,v,b)),rI u,.isl .u8 conf,.isl .u8 plain] (.tup [.agg [rI p,rI v,.isl .u8 (ci++mk.take tl)],rI 0]):=by
 unfold kdL at hu;refine q0q rfl rfl ?_;refine q0V fi17 ?_;refine uQ 600 _ ?_
 with_reducible refine sxE ?_
 refine q0a hu ?_;have hcl:((conf.length:Int)=16)=True:=eq_true (by omega)
 have hpl:(65536< (plain.length:Int))=False:=eq_false (by omega)
 refine gy2 hcl hpl ?_;refine q0a (z0J (p,v,b) u hb2) ?_;refine uQ 600 _ ?_
 with_reducible refine sxE ?_
 refine q0b (q4D (p,v,b) u 170 hb2 hb1 (by decide)) ?_
 refine uQ 600 _ ?_
 with_reducible refine sxE ?_
 refine q0b hen ?_;refine uQ 600 _ ?_
 with_reducible refine sxE ?_
 refine q0b (q4D (p,v,b) u 85 hb2 hb1 (by decide)) ?_
 refine uQ 600 _ ?_
 with_reducible refine sxE ?_
 refine q0b hmk ?_;refine uQ 4 _ ?_;simp (maxSteps:=3000000) only [Au,go_sem,↓zA,↓reduceIte,↓reduceDIte] <;>try simp only [zB]
 have htk:(List.take tl mk).length=tl:=by rw [Ak];omega
 have hj:=z2E [ci,List.take tl mk] (by simp;omega) (by simp)
 rw [show [ci,List.take tl mk].flatten=ci++List.take tl mk by simp] at hj
 refine ⟨⟨by omega,Ag _,htl⟩,?_⟩
 refine q1N [0] mixed ?_;refine uQ 600 _ ?_
 with_reducible refine sxE ?_
 refine q0r 3 (by decide) ?_
 with_reducible refine sxE ?_
 refine q0b hj ?_;refine uQ 600 _ ?_
 with_reducible refine sxE ?_;trivial
theorem q9Y(nm:ByteArray)(kl tl:Nat)(fe fd fm:FuncId)(p v:Int)(b:List UInt8)(u:Nat)(sp sv:Int)(sb pl mk:List UInt8)
 (hu:PC Tryz.prog 42 [.agg (KeyT.cells (p,v,b)),rI u] (.tup [.agg (rawL (kdL nm kl tl fe fd fm)),rI 0]))(hb1:1≤b.length)(hb2:b.length≤64)(htl:tl≤64)(hs:sb.length≤1099511627776)
 (hmk:16+tl≤sb.length→sb.length≤65552+tl→PC Tryz.prog fm [.isl .u8 (dkS (p,v,b) u 85),.isl .u8 (sb.take (sb.length-tl))] (.isl .u8 mk))
 (hde:16+tl≤sb.length→sb.length≤65552+tl→PC Tryz.prog fd [.isl .u8 (dkS (p,v,b) u 170),.isl .u8 (sb.take (sb.length-tl))] (.isl .u8 pl))(hml:tl≤mk.length)(hmx:mk.length≤4096):
 PC Tryz.prog 36 [.agg (KeyT.cells (p,v,b)),rI u,.agg [rI sp,rI sv,.isl .u8 sb]] (.tup (if sp=p∧(sv=v∨sv=0∨v=0) then
  if sb.length<16+tl then [.isl .u8 [],rI 4] else if 65552+tl<sb.length then [.isl .u8 [],rI 5]
  else if mk.take tl=sb.drop (sb.length-tl) then [.isl .u8 pl,rI 0] else [.isl .u8 [],rI 10] else [.isl .u8 [],rI 9])):=by
 unfold kdL at hu;have hw:IntKind.i64.wrap (((sb.length:Nat):Int) - (tl:Int))=((sb.length:Nat):Int) - (tl:Int):=wrapi (by omega)
 have hw2:IntKind.i64.wrap (16+65536)=65552:=by rw [wrapi (by omega)];rfl
 by_cases hsp:sp=p
 · subst hsp;have f1:(sp=sp)=True:=eq_true rfl
   by_cases hsv:sv=v∨sv=0∨v=0
   · rw [if_pos ⟨rfl,hsv⟩];have hcase:(((sv=v)=True)∧((sv=v)=True)∧((sv=v)=True))∨(((sv=v)=False)∧((sv=0)=True)∧((sv=0)=True))∨(((sv=v)=False)∧((sv=0)=False)∧((v=0)=True)):=by
      by_cases h1:sv=v
      · exact .inl ⟨eq_true h1,eq_true h1,eq_true h1⟩
      by_cases h2:sv=0
      · exact .inr (.inl ⟨eq_false h1,eq_true h2,eq_true h2⟩)
      exact .inr (.inr ⟨eq_false h1,eq_false h2,eq_true ((hsv.resolve_left h1).resolve_left h2)⟩)
     by_cases c1:sb.length<16+tl
     · have n1:(((sb.length:Nat):Int) - (tl:Int) <16)=True:=eq_true (by omega)
       rw [if_pos c1];rcases hcase with ⟨g1,g2,g3⟩ | ⟨g1,g2,g3⟩ | ⟨g1,g2,g3⟩
       all_goals
        refine q0i rfl rfl ?_;refine rQ fi36 ?_;refine q0a hu ?_;refine gy6 f1 g1 g2 g3 hw n1 ?_;trivial
     have n1:(((sb.length-tl:Nat):Int) <16)=False:=eq_false (by omega)
     have n0:((sb.length:Nat):Int) - (tl:Int)=((sb.length-tl:Nat):Int):=by omega
     rw [n0] at hw;rw [if_neg c1]
     by_cases c2:65552+tl<sb.length
     · have n2:(65552< ((sb.length-tl:Nat):Int))=True:=eq_true (by omega)
       rw [if_pos c2];rcases hcase with ⟨g1,g2,g3⟩ | ⟨g1,g2,g3⟩ | ⟨g1,g2,g3⟩
       all_goals
        refine q0i rfl rfl ?_;refine rQ fi36 ?_;refine q0a hu ?_;refine uQ 600 _ ?_;simp (maxSteps:=3000000) only [f1,g1,g2,g3,n0,hw,hw2,n1,n2,go_sem,↓zA,↓reduceIte,↓reduceDIte] <;>try simp only [zB]
     have n2:(65552< ((sb.length-tl:Nat):Int))=False:=eq_false (by omega)
     rw [if_neg c2];have hmk:=hmk (by omega) (by omega)
     have hde:=hde (by omega) (by omega)
     have hcl:(List.take (sb.length-tl) sb).length=sb.length-tl:=by rw [Ak];omega
     have hdl:(List.drop (sb.length-tl) sb).length=tl:=by rw [Al];omega
     have htk:(List.take tl mk).length=tl:=by rw [Ak];omega
     have hst:List.take sb.length sb=sb:=AE;have hme:=z8n (List.take tl mk) (List.drop (sb.length-tl) sb) (by omega) (by omega)
     generalize hci:List.take (sb.length-tl) sb=ci at*;generalize htg:List.drop (sb.length-tl) sb=tg at*;generalize hmt:List.take tl mk=mt at*;rcases hcase with ⟨g1,g2,g3⟩ | ⟨g1,g2,g3⟩ | ⟨g1,g2,g3⟩
     all_goals
      refine q0i rfl (by split<;>rfl) ?_
      refine rQ fi36 ?_;refine q0a hu ?_;refine uQ 600 _ ?_;simp (maxSteps:=3000000) only [f1,g1,g2,g3,n0,hw,hw2,n1,n2,Au,hst,hci,htg,go_sem,↓zA,↓reduceIte,↓reduceDIte] <;>try simp only [zB]
      refine ⟨⟨by omega,Ag _,by omega⟩,⟨by omega,by omega,Ag _⟩,?_⟩
      refine q0a (z0J (sp,v,b) u hb2) ?_;refine uQ 600 _ ?_
      with_reducible refine sxE ?_
      refine q0b (q4D (sp,v,b) u 85 hb2 hb1 (by decide)) ?_
      refine uQ 600 _ ?_
      with_reducible refine sxE ?_
      refine q0b hmk ?_;refine gy2 Au hmt ?_;refine ⟨⟨by omega,Ag _,hml⟩,?_⟩
      refine q0b hme ?_
      by_cases c3:mt=tg
      · rw [if_pos c3];refine gy1 c3 ?_;refine q0b (q4D (sp,v,b) u 170 hb2 hb1 (by decide)) ?_
        refine uQ 600 _ ?_
        with_reducible refine sxE ?_
        refine q0b hde ?_;refine uQ 600 _ ?_
        with_reducible refine sxE ?_;trivial
      rw [if_neg c3];refine gy1 c3 ?_;trivial
   rw [if_neg (fun h=>hsv h.2)];have g1:(sv=v)=False:=eq_false fun h=>hsv (.inl h);have g2:(sv=0)=False:=eq_false fun h=>hsv (.inr (.inl h));have g3:(v=0)=False:=eq_false fun h=>hsv (.inr (.inr h));refine q0i rfl rfl ?_;refine rQ fi36 ?_;refine q0a hu ?_;refine gy4 f1 g1 g2 g3 ?_;trivial
 have f1:(sp=p)=False:=eq_false hsp;rw [if_neg (fun h=>hsp h.1)];refine q0i rfl rfl ?_;refine rQ fi36 ?_;refine q0a hu ?_;refine gy1 f1 ?_;trivial
theorem j2f(k:Key)(u:Nat)(conf plain:List UInt8)(ho:KeyT.ok k):PC Tryz.prog 17 [.agg (KeyT.cells k),rI u,.isl .u8 conf,.isl .u8 plain] (slO k u conf plain):=by
 have hu:=z3l k u ho;have hf:= @q2N k u;have hd1:=q5i k u 170;have hd2:=q5i k u 85;unfold slO
 by_cases hok:uOk k u=true
 · obtain ⟨hv,hu',hbl,hb32,hb1,hb2⟩:=hf hok;rw [if_pos hok,if_pos hok] at hu
   by_cases hcl:conf.length=16∧plain.length≤65536
   · rw [if_pos ⟨hok,hcl⟩];have hse:seS k u conf plain=ciS k u conf plain++tg9S k u (ciS k u conf plain):=rfl;have hcil:=q9f k u conf plain hcl.1;rw [hse]
     by_cases hp:k.1=1
     · have hcd:ciS k u conf plain=ctsE (dkS k u 170) z16 (conf++plain):=if_pos hp;have htd:tg9S k u (ciS k u conf plain)=(hmS (dkS k u 85) (z16++ciS k u conf plain)).take 16:=if_pos hp;have hen:=z5B (dkS k u 170) conf plain (by rw [hd1,hb1 hp]) hcl.1 hcl.2
       have hmk:=z0F (dkS k u 85) (ciS k u conf plain) (by omega) (by omega)
       rw [←hcd] at hen;rw [htd];have hml:=q2o (dkS k u 85) (z16++ciS k u conf plain);generalize hmS (dkS k u 85) (z16++ciS k u conf plain)=mk at*;generalize ciS k u conf plain=ci at*;obtain ⟨p,v,b⟩:=k;dsimp only at*;subst hp;exact q9P name1 16 16 114 115 116 1 v b u conf plain ci mk hu (by have:=hb1 rfl;omega) (by omega) hcl.1 hcl.2 hen hmk (by omega) (by omega) (by omega)
     obtain ⟨hp2,hb3⟩:=hb2 hp;have hcd:ciS k u conf plain=conf++ksS (dkS k u 170) conf plain:=if_neg hp;have htd:tg9S k u (ciS k u conf plain)=hmS (dkS k u 85) (ciS k u conf plain):=if_neg hp;have hen:=z4V (dkS k u 170) conf plain (by omega) (by omega) (by omega)
     have hmk:=z0x (dkS k u 85) (ciS k u conf plain) (by omega) (by omega)
     rw [←hcd] at hen;rw [htd];have hml:=q2o (dkS k u 85) (ciS k u conf plain);generalize hmS (dkS k u 85) (ciS k u conf plain)=mk at*;generalize ciS k u conf plain=ci at*;obtain ⟨p,v,b⟩:=k;dsimp only at*;subst hp2;have:=q9P name2 32 32 117 118 119 2 v b u conf plain ci mk hu (by omega) (by omega) hcl.1 hcl.2 hen hmk (by omega) (by omega) (by omega)
     rwa [Aa (by omega)] at this
   rw [if_neg (fun h=>hcl h.2)];have hkk:kindOf k.1=kind1∨kindOf k.1=kind2:=by
    unfold kindOf
    by_cases hp:k.1=1
    · rw [if_pos hp];exact .inl rfl
    rw [if_neg hp,if_pos (hb2 hp).1];exact .inr rfl
   generalize kindOf k.1=kv at*;obtain ⟨p,v,b⟩:=k;rcases hkk with rfl|rfl
   all_goals
    by_cases hc:conf.length=16
    · have f1:(((conf.length:Nat):Int)=16)=True:=eq_true (by omega)
      have f2:(65536< ((plain.length:Nat):Int))=True:=eq_true (by omega)
      refine q0i rfl rfl ?_;refine rQ fi17 ?_;refine q0a hu ?_;refine uQ 600 _ ?_;simp (maxSteps:=3000000) only [kind1,kind2,f1,f2,go_sem,↓zA,↓reduceIte,↓reduceDIte] <;>try simp only [zB]
    have f1:(((conf.length:Nat):Int)=16)=False:=eq_false (by omega)
    refine q0i rfl rfl ?_;refine rQ fi17 ?_;refine q0a hu ?_;refine uQ 600 _ ?_;simp (maxSteps:=3000000) only [kind1,kind2,f1,go_sem,↓zA,↓reduceIte,↓reduceDIte] <;>try simp only [zB]
 rw [if_neg (fun h=>hok h.1)];rw [if_neg hok,if_neg hok] at hu;obtain ⟨p,v,b⟩:=k;refine q0i rfl rfl ?_;refine rQ fi17 ?_;refine q0a hu ?_;refine uQ 600 _ ?_;simp (maxSteps:=3000000) only [kindZ,go_sem,↓zA,↓reduceIte,↓reduceDIte] <;>try simp only [zB]
theorem j0K(k:Key)(u:Nat)(sp sv:Int)(sb:List UInt8)(ho:KeyT.ok k)(hs:sb.length≤1099511627776):PC Tryz.prog 36 [.agg (KeyT.cells k),rI u,.agg [rI sp,rI sv,.isl .u8 sb]] (.tup [.isl .u8 (opS k u sp sv sb).1,rI (opS k u sp sv sb).2]):=by
 have hu:=z3l k u ho;have hf:= @q2N k u;have hd1:=q5i k u 170;have hd2:=q5i k u 85;unfold opS
 by_cases hok:uOk k u=true
 · obtain ⟨hv,hu',hbl,hb32,hb1,hb2⟩:=hf hok;rw [if_pos hok,if_pos hok] at hu;rw [if_pos hok];have hcl:(sb.take (sb.length-k.2.2.length)).length≤sb.length-k.2.2.length:=List.length_take_le _ _;have hcl2:16+k.2.2.length≤sb.length→(sb.take (sb.length-k.2.2.length)).length=sb.length-k.2.2.length:=fun _=>by rw [Ak];omega
   unfold tg9S unS
   by_cases hp:k.1=1
   · rw [if_pos hp,if_pos hp];have hbb:=hb1 hp;have hmk:=fun (h1:16+k.2.2.length≤sb.length) (h2:sb.length≤65552+k.2.2.length)=>z0F (dkS k u 85) (sb.take (sb.length-k.2.2.length)) (by omega) (by omega)
     have hde:=fun (h1:16+k.2.2.length≤sb.length) (h2:sb.length≤65552+k.2.2.length)=>z6g (dkS k u 170) (sb.take (sb.length-k.2.2.length)) (by rw [hd1,hbb]) (by rw [hcl2 h1];omega) (by omega)
     have hml:=q2o (dkS k u 85) (z16++sb.take (sb.length-k.2.2.length));obtain ⟨p,v,b⟩:=k;dsimp only at*;subst hp;have hb11:1≤b.length∧b.length≤64:=by omega
     rw [hbb] at hmk hde hml⊢;refine j0o (q9Y name1 16 16 114 115 116 1 v b u sp sv sb _ _ hu hb11.1 hb11.2 (by omega) hs hmk hde (by omega) (by omega)) ?_
     repeat' split
     all_goals rfl
   rw [if_neg hp,if_neg hp];obtain ⟨hp2,hbb⟩:=hb2 hp;have hmk:=fun (h1:16+k.2.2.length≤sb.length) (h2:sb.length≤65552+k.2.2.length)=>z0x (dkS k u 85) (sb.take (sb.length-k.2.2.length)) (by omega) (by omega)
   have hde:=fun (h1:16+k.2.2.length≤sb.length) (h2:sb.length≤65552+k.2.2.length)=>z5C (dkS k u 170) (sb.take (sb.length-k.2.2.length)) (by omega) (by rw [hcl2 h1];omega) (by omega)
   have hml:=q2o (dkS k u 85) (sb.take (sb.length-k.2.2.length));obtain ⟨p,v,b⟩:=k;dsimp only at*;subst hp2;have hb11:1≤b.length∧b.length≤64:=by omega
   rw [hbb] at hmk hde hml⊢;refine j0o (q9Y name2 32 32 117 118 119 2 v b u sp sv sb _ _ hu hb11.1 hb11.2 (by omega) hs hmk hde (by omega) (by omega)) ?_
   rw [Aa (show (hmS (dkS (2,v,b) u 85) (sb.take (sb.length-32))).length≤32 by omega)]
   repeat' split
   all_goals rfl
 rw [if_neg hok];rw [if_neg hok,if_neg hok] at hu;obtain ⟨p,v,b⟩:=k;refine q0i rfl rfl ?_;refine rQ fi36 ?_;refine q0a hu ?_;refine uQ 600 _ ?_;simp (maxSteps:=3000000) only [kindZ,go_sem,↓zA,↓reduceIte,↓reduceDIte] <;>try simp only [zB]
theorem q8h(v:Int)(b:List UInt8)(u:Nat)(sp sv:Int)(sb:List UInt8):opS (2,v,b) u sp sv sb=opS2 (2,v,b) u sp sv sb:=by
 have h1:∀c,tg9S (2,v,b) u c=hmS (dkS (2,v,b) u 85) c:=fun c=>if_neg (show ¬((2:Int)=1) by decide)
 have h2:∀c,unS (2,v,b) u c=ksS (dkS (2,v,b) u 170) (c.take 16) (c.drop 16):=fun c=>if_neg (show ¬((2:Int)=1) by decide)
 unfold opS opS2
 by_cases h:uOk (2,v,b) u=true
 · have hl:b.length=32:=((q2N h).2.2.2.2.2 (show (2:Int)≠1 by decide)).2
   simp only [h1,h2,hl]
 rw [if_neg h,if_neg h]
theorem j1c(v:Int)(b:List UInt8)(u:Nat)(conf plain:List UInt8):seS (2,v,b) u conf plain=seS2 (2,v,b) u conf plain:=by
 have h1:∀c,tg9S (2,v,b) u c=hmS (dkS (2,v,b) u 85) c:=fun c=>if_neg (show ¬((2:Int)=1) by decide)
 have h2:ciS (2,v,b) u conf plain=ciS2 (2,v,b) u conf plain:=if_neg (show ¬((2:Int)=1) by decide)
 unfold seS seS2;rw [h1,h2]
set_option maxHeartbeats 4000000
def byteOf(x:Int):UInt8:=UInt8.ofNat (IntKind.u8.wrap x).toNat
theorem u8wrap(x:Int):0≤IntKind.u8.wrap x∧IntKind.u8.wrap x<256:=by
 have h:IntKind.u8.wrap x=x%256:=by simp [IntKind.wrap,IntKind.bits,IntKind.signed]
 rw [h];omega
theorem q0T(x:Int):((UInt8.ofNat (IntKind.u8.wrap x).toNat).toNat:Int)=IntKind.u8.wrap x:=by
 have:=u8wrap x;rw [BP];omega
theorem j4d(c:UInt8):((UInt8.ofNat c.toNat).toNat:Int)=c.toNat:=by simp
def lenS(n:Nat):List UInt8:=
 if n<128 then [byteOf n] else if n<256 then [129,byteOf n] else if n<65536 then [130,byteOf ((n:Int).fdiv 256),byteOf n] else [131,byteOf ((n:Int).fdiv 65536),byteOf ((n:Int).fdiv 256),byteOf n]
def tlv(tag:UInt8)(c:List UInt8):List UInt8:=tag :: (lenS c.length++c)
def elemS(tag:UInt8)(parts:List (List UInt8)):List UInt8:=if parts.flatten.length≤16777215 then tlv tag parts.flatten else []
def flatN(parts:List (List UInt8))(i:Nat):List UInt8:=(parts.take i).flatten
theorem q3I{parts:List (List UInt8)}{i:Nat}(h:i<parts.length):flatN parts (i+1)=flatN parts i++parts.getD i (Ty.slice .u8).dflt:=by
 unfold flatN;rw [q2w (d:=(Ty.slice .u8).dflt) h];simp
theorem q6p(parts:List (List UInt8)):flatN parts parts.length=parts.flatten:=by unfold flatN;rw [AE]
theorem q4N(parts:List (List UInt8))(i:Nat):(flatN parts i).length≤parts.flatten.length:=by
 unfold flatN;have:=congrArg List.flatten (A0 i parts);rw [BM] at this;rw [←this];simp
def fitAt(parts:List (List UInt8))(j:Nat):Bool:=decide ((flatN parts (j+1)).length≤16777215)

theorem z6W(tag:UInt8)(parts:List (List UInt8))(hp:parts.length≤1125899906842624):PC Tryz.prog 48 [.raw (.int .u8 tag.toNat),.isl (.slice .u8) parts] (.isl .u8 (elemS tag parts)):=by
 refine q0i rfl rfl ?_;refine rQ fi48 ?_;refine q4l (fun i=>[(5,rI ((flatN parts i).length)),(13,.raw (.int .i64 ((i:Nat):Int)))]) (parts.length) (fun j=>(fitAt parts) j=true) (by first|decide|simp) (fun i=>rfl) ?_ fun i hi hall=> ?_
 · (with_reducible refine sxE ?_<;>try exact True.intro)
   all_goals (try rfl)
 have hwr:=wsx i (by omega)
 refine gQ ?_;have bad:i< (parts.length)→(fitAt parts) i=false→allN (parts.length) (fitAt parts)=false:=fun hlt hv=>q1P hlt hv;have fin:¬i< (parts.length)→allN (parts.length) (fitAt parts)=true:=fun h=>q1U fun j hj=>hall j (by omega)
 try dsimp only at bad fin hall
 have hn:(flatN parts i).length≤16777215:=by
  cases i with
  |zero=>simp [flatN]
  |succ j=>have:=hall j (by omega);simpa [fitAt] using this
 rw [wrapi (n:=16777215- ((flatN parts i).length:Int)) (by omega),wrapi (n:=((flatN parts i).length:Int)+5) (by omega)]
 refine ⟨fun hlt=>⟨⟨by omega,hlt⟩,fun hbig=> ?_,fun hfit=> ?_⟩,fun hge=> ?_⟩
 · have h1:=q4N parts (i+1);rw [q3I hlt,Ad] at h1;unfold elemS;rw [if_neg (by omega)]
 · have h2:((flatN parts i).length:Int)+ ((parts.getD i (Ty.slice .u8).dflt).length:Int)=((flatN parts (i+1)).length:Int):=by rw [q3I hlt,Ad];rfl
   have h3:(flatN parts (i+1)).length≤16777215:=by omega
   refine ⟨hlt,q0P hall (by simpa [fitAt] using h3),⟨_,rfl⟩,?_⟩
   rw [h2,wrapi (n:=((flatN parts (i+1)).length:Int)) (by omega)]
   with_reducible refine sx1 hwr ?_;trivial
 obtain rfl:i=parts.length:=by omega
 rw [q6p] at*;have he:elemS tag parts=tag :: (lenS parts.flatten.length++flatN parts parts.length):=by unfold elemS tlv;rw [if_pos hn,q6p]
 refine ⟨⟨by omega,by omega,by omega⟩,j4d tag,fun h1=>⟨q0T _,?_⟩,fun h1=>⟨fun h2=>⟨?_,?_⟩,fun h2=>⟨fun h3=>⟨?_,?_⟩,fun h3=>⟨?_,?_⟩⟩⟩⟩
 any_goals (repeat' (first|exact q0T _|exact rfl|with_reducible refine And.intro ?_ ?_))
 have hL:lenS parts.flatten.length= [byteOf parts.flatten.length]:=by unfold lenS;rw [if_pos (by omega)]
 rotate_left
 have hL:lenS parts.flatten.length= [129,byteOf parts.flatten.length]:=by unfold lenS;rw [if_neg (by omega),if_pos (by omega)]
 rotate_left
 have hL:lenS parts.flatten.length= [130,byteOf ((parts.flatten.length:Int).fdiv 256),byteOf parts.flatten.length]:=by unfold lenS;rw [if_neg (by omega),if_neg (by omega),if_pos (by omega)]
 rotate_left
 have hL:lenS parts.flatten.length= [131,byteOf ((parts.flatten.length:Int).fdiv 65536),byteOf ((parts.flatten.length:Int).fdiv 256),byteOf parts.flatten.length]:=by unfold lenS;rw [if_neg (by omega),if_neg (by omega),if_neg (by omega)]
 rotate_left
 all_goals
  refine j0T (H:=[_,_,_,_]) 8 .u8 (fun i=>tag :: (lenS parts.flatten.length++flatN parts i)) (fun i=>[(44,.any),(52,.any),(60,.any),(71,.any),(74,rI i)]) parts.length (fun _=>True) (by rw [hL];simp [flatN,byteOf]) (by simp) rfl (fun i=>rfl) ?_ fun i hi _=> ?_
  · with_reducible refine sx1 hL ?_
    simp [flatN]
  have hwr:=wsx i (by omega)
  have hfl:=q4N parts i;have hll:(lenS parts.flatten.length).length≤4:=by rw [hL];simp
  refine gQ ?_;have e1:(lenS parts.flatten.length++flatN parts i).length=(lenS parts.flatten.length).length+ (flatN parts i).length:=Ad;refine ⟨fun hlt=> ?_,fun hge=> ?_⟩
  · have h4:=q4N parts (i+1);have h5:=q3I hlt;rw [h5,Ad] at h4;refine ⟨⟨by omega,hlt⟩,⟨by omega,by omega⟩,q1s [.dead] [] hlt trivial (by rw [h5,←List.append_assoc];rfl) ?_⟩
    with_reducible refine sx3 hwr h5 ?_
    exact congrArg (SV.bld 5 .u8) (by omega)
  obtain rfl:i=parts.length:=by omega
  rw [Aa (Ag _)];exact ⟨⟨Ag _,by omega⟩,he.symm⟩
end Go.Proofs.YtikapabgggphpaaGreatDoor
