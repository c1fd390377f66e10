/- CTS: the plain law of decryption. -/
import Derived.Test.YtikapabgggphpaaGreatDoorS27
set_option linter.all false
namespace Go.Proofs.YtikapabgggphpaaGreatDoor
open Go Go.Sx Go.Proofs
set_option maxRecDepth 100000
theorem z3F:∀ (xs:List (List UInt8)) (i:Nat),(∀b∈xs,b.length=16)→i<xs.length→(xs.flatten.take (16*i+16)).drop (16*i)=xs.getD i []
 |b :: xs,0,h,_=>by
  have hb:=h b Bs;show List.drop 0 (List.take 16 (b++xs.flatten))=b;rw [Az,List.take_left' hb]
 |b :: xs,i+1,h,hi=>by
  have hb:=h b Bs;have ih:=z3F xs i (fun c hc=>h c (AN _ hc)) (by simpa using hi)
  rw [AR,show 16* (i+1)+16=b.length+ (16*i+16) by omega,List.take_length_add_append,show 16* (i+1)=b.length+16*i by omega,List.drop_length_add_append,ih]
  rfl
def dpl(w iv:List UInt8)(xs:List (List UInt8)):Nat→List UInt8×List UInt8
 |0=>(iv,[])
 |n+1=>(xs.getD n [],(dpl w iv xs n).2++xorS (decS w (xs.getD n [])) (dpl w iv xs n).1)
theorem z5C(w iv:List UInt8)(xs:List (List UInt8))(h:∀b∈xs,b.length=16):∀n,n≤xs.length→dchA w iv xs.flatten n=dpl w iv xs n
 |0,_=>rfl
 |n+1,hn=>by
  rw [dchA,dpl,z3F xs n h (by omega),z5C w iv xs h n (by omega)]
def cblk(c:List UInt8)(n:Nat):List (List UInt8):=(List.range n).map (blkC c)
theorem q8f(c:List UInt8)(n:Nat):(cblk c n).length=n:=by simp [cblk]
theorem z6C(c:List UInt8)(n:Nat)(h:n≤nblk c.length):∀b∈cblk c n,b.length=16:=by
 intro b hb;unfold cblk at hb;obtain ⟨i,hi,rfl⟩:=Bu.1 hb;exact q3D c (by have:=Bw.1 hi;omega)
theorem q4M(c:List UInt8)(n:Nat):cblk c (n+1)=cblk c n++ [blkC c n]:=by
 unfold cblk;rw [BE,Bk];rfl
theorem z0D(c:List UInt8):∀n,16*n≤c.length→(cblk c n).flatten=c.take (16*n)
 |0,_=>rfl
 |n+1,h=>by
  rw [q4M,BN,z0D c n (by omega),BQ,q2C c (by omega),z9i]
theorem j2l(w:List UInt8)(n:Nat)(l:List (List UInt8))(x y:List UInt8):unxS w n (l++ [x,y])=l++ [y.take (n-16* (l.length+1))++(decS w x).drop (n-16* (l.length+1)),x]:=by
 unfold unxS;have h1:(l++ [x,y]).length=l.length+2:=by simp
 rw [h1,if_neg (by omega),show l.length+2-2=l.length by omega,show l.length+2-1=l.length+1 by omega]
 have g1:(l++ [x,y]).getD (l.length+1) []=y:=by simp [Aa]
 have g0:(l++ [x,y]).getD l.length []=x:=by simp [Aa]
 rw [g1,g0];simp [List.set_append]
theorem z2l(w c:List UInt8)(h:16<c.length):(unxS w c.length (cblk c (nblk c.length))).flatten=unexS w c∧(∀b∈unxS w c.length (cblk c (nblk c.length)),b.length=16)∧(unxS w c.length (cblk c (nblk c.length))).length=nblk c.length:=by
 have hn:nblk c.length=(c.length+15) / 16:=rfl;have hw:whN c.length=(c.length+15) / 16*16:=rfl;obtain ⟨m,hm⟩:∃m,nblk c.length=m+2:=⟨nblk c.length-2,by omega⟩
 have hx:=q2C c (i:=m) (by omega)
 have hxl:=q3D c (i:=m) (by omega)
 have hyl:=q3D c (i:=m+1) (by omega)
 have hy:(blkC c (m+1)).take (c.length-16* (m+1))=c.drop (16* (m+1)):=by
  unfold blkC;rw [A2 (by rw [Al,Aj];omega),Ab (show c.length≤16* (m+1)+16 by omega)]
  exact Ab (by rw [Al];omega)
 have hl:=z0D c m (by omega)
 have hll:=q8f c m;have hl6:=z6C c m (by omega)
 have hkl:(c.drop (16* (m+1))).length=c.length-16* (m+1):=Al;rw [hm,q4M,q4M,List.append_assoc];change (unxS w c.length (cblk c m++ [blkC c m,blkC c (m+1)])).flatten=_∧(∀b∈unxS w c.length (cblk c m++ [blkC c m,blkC c (m+1)]),_)∧(unxS w c.length (cblk c m++ [blkC c m,blkC c (m+1)])).length=_;rw [j2l,hll,hy];generalize cblk c m=l at*;generalize blkC c m=x at*;refine ⟨?_,?_,?_⟩
 · unfold unexS;dsimp only;rw [show whN c.length-32=16*m by omega,show whN c.length-16=16* (m+1) by omega,show 16* (m+1)=16*m+16 by omega,←hx,show 16*m+16=16* (m+1) by omega,hkl,←hl]
   simp
 · intro b hb;rcases Cn.1 hb with hb|hb
   · exact hl6 b hb
   simp only [Bm,BW,or_false] at hb;rcases hb with rfl|rfl
   · rw [Ad,hkl,Al,q2r];omega
   exact hxl
 simp [hll]
theorem z5a(key iv c:List UInt8)(h1:16≤c.length):(dpl (wordsS key) iv (unxS (wordsS key) c.length (cblk c (nblk c.length))) (nblk c.length)).2.take c.length=ctsD key iv c:=by
 have hn:nblk c.length=(c.length+15) / 16:=rfl;unfold ctsD;by_cases h:c.length=16
 · have h2:nblk c.length=1:=by omega
   have hb:blkC c 0=c:=by
    rw [q2C c (by omega),Cs,Az]
    exact Ab (by omega)
   rw [if_pos h,h2,show cblk c 1= [blkC c 0] from rfl,hb,show unxS (wordsS key) c.length [c]= [c] from rfl]
   show ([]++xorS (decS (wordsS key) c) iv).take c.length=_;rw [AI];exact Ab (by rw [q2V];omega)
 obtain ⟨e1,e2,e3⟩:=z2l (wordsS key) c (by omega)
 rw [if_neg h,←e1,←z5C _ _ _ e2 _ (by omega)]
 unfold unchS;rw [flat16 _ e2,e3,Nat.mul_div_cancel_left _ (by decide)]
set_option maxHeartbeats 40000000
theorem z6w{G:List SObj}:∀ (H0 L:List SObj) {H:List SObj},H=H0++L++G→leH (fun h=>h) H H0.length L
 |_,[],_,_=>trivial
 |H0,o :: L,H,e=>by
  have h1:leH (fun h=>h) H (H0.length+1) L:=by
   have:=z6w (G:=G) (H0++ [o]) L (H:=H) (by rw [e];simp)
   rwa [Ad] at this
  have h2:H[H0.length]?=some o:=by rw [e];simp
  cases o with
  |dead=>exact h1
  |cells T cs=>exact ⟨by rw [q1E];exact h2,h1⟩
  |row t xs=>exact ⟨by rw [q1E];exact h2,h1⟩
  |map k ks vs=>exact ⟨by rw [q1E];exact h2,h1⟩
  |mark n=>exact ⟨by rw [q1E];exact h2,h1⟩
theorem j2u[Ghost]{P:Program}{AQ:Ex→List SV→List SObj→Prop}{td:List IT}{t:List SV}(H0:List SObj){G:List SObj}(hp:plainT td=true)(hb:SV.belL H0.length t=true)(hh:belH H0.length H0=true)(hi:injH (fun h=>h) 0 H0 []=true)(hs:SoundI P AQ ⟨0,td,t,H0⟩):SoundI P AQ ⟨0,td,t,H0++G⟩:=
 q7o (σ:=fun h=>h) hp ⟨q6s (z3g _),z6w (G:=G) [] H0 (by simp),hb,hh,hi,rfl,Ai _,fun _ h0=>absurd h0 (A5 0)⟩ hs
theorem z6X(w iv:List UInt8)(xs:List (List UInt8))(hi:iv.length=16)(h:∀b∈xs,b.length=16):∀n,n≤xs.length→(dpl w iv xs n).1.length=16∧(dpl w iv xs n).2.length=16*n
 |0,_=>⟨hi,rfl⟩
 |n+1,hn=>by
  have ih:=z6X w iv xs hi h n (by omega)
  refine ⟨h _ (by rw [dpl,Aa,Ae hn];exact Bq _),?_⟩
  rw [dpl,Ad,ih.2,q2V];omega
def cdC(m:List SV)(c:List UInt8)(i:Nat)(G:List SObj)(acc:List (List UInt8)):List SObj:=.cells 22 [.isl .u8 c] :: .cells 184 m :: .cells 97 [.bld (G.length+3) (.slice .u8) i] :: (G++ [.row (.slice .u8) acc])
def cdH(m:List SV)(c:List UInt8)(i:Nat)(H':List SObj):Prop:=∃G,quG G∧H'=cdC m c i G (cblk c i)
theorem j1i(key iv c:List UInt8)(hk:key.length=16)(hi:iv.length=16)(h1:16≤c.length)(hp:c.length≤131072):PC Tryz.prog 138 [.isl .u8 key,.isl .u8 iv,.isl .u8 c] (.tup [.isl .u8 (ctsD key iv c),rI 0]):=by
 have hst:=q9v key iv hk hi;have hck:=z2A c h1 hp;have hcu:=j0h c (by omega)
 have hit:=j3Q c hp;have hpr:=z5a key iv c h1;have hel:=q5V key iv c hi h1;have hn:nblk c.length=(c.length+15) / 16:=rfl;have hap:=fun b hb=>q9N key iv b hk hb;have hbx:=z6C c (nblk c.length) (Ag _);have hbl:=q8f c (nblk c.length);have hex:=j1K key iv c (cblk c (nblk c.length)) hk hbx hp (by omega) (by omega) (by omega)
 unfold modS at hst hap hex;generalize cipS key=cp at*;refine q0p rfl rfl (q4q (q1z noFG fi138 ?_))
 letI:Ghost:=topG noFG []
 refine gQ ?_;refine cQ hst ?_;refine cQ hck ?_;refine cQ hcu ?_;refine q5u 2 0 (.slice .u8) rfl rfl rfl ?_;refine z4w (cdH [.iptr CipT cp 0,.isl .u8 iv] c) (fun _ _ _=>False) rfl rfl rfl hit (fun i n args' new h=>by rw [h.1];rfl) ⟨[],z6F,rfl⟩ rfl ?_ ?_ ?_
 · rintro i _ args' new hi' ⟨G,hG,rfl⟩ ⟨rfl,rfl⟩ L1 L2
   letI:Ghost:=pinG noFG L1
   rw [Ah];have hal:=q8f c i;have hac:=q4M c i;have hbl:=q3D c hi';generalize cblk c i=a at*;generalize blkC c i=b at*;unfold cdC;refine uQ 600 _ ?_;simp only [putL,BD];with_reducible refine sxaE ?_
   letI:Ghost:=pinG noFG L2
   refine gya2 hal hbl ?_;have hi2:i< (c.length+15) / 16:=hi';refine ⟨⟨by omega,by omega⟩,G++ [.dead,.row (.slice .u8) [b]],z6s hG (fun _ _ _=>by simp [frzObH,SObj.frzOb]),?_⟩
   rw [hac];simp [cdC]
 · rintro D _ ⟨G,hG,rfl⟩;unfold cdC
   letI:Ghost:=topG noFG [D]
   obtain ⟨x,hx⟩:∃x,x=unxS (wordsS key) c.length (cblk c (nblk c.length)):=⟨_,rfl⟩;have hx16:∀b∈x,b.length=16:=by
    by_cases h:c.length=16
    · rw [hx,show unxS (wordsS key) c.length (cblk c (nblk c.length))=cblk c (nblk c.length) from if_pos (by omega)]
      exact hbx
    rw [hx];exact (z2l (wordsS key) c (by omega)).2.1
   have hxl:x.length=nblk c.length:=by
    rw [hx];unfold unxS;split
    · exact hbl
    rw [Bb,Bb];exact hbl
   rw [←hx] at hpr hex;generalize cblk c (nblk c.length)=a at*;refine aQ ?_;rw [←hbl];refine q0j [2,0,1,G.length+3] hex rfl (by simp) ?_ rfl rfl ?_
   · simp (maxSteps:=3000000) only [atH,sig,SObj.ren,SV.ren,SV.renL,SObj.live,List.append_assoc,getA,getA0,setA,setA0,Ad,Nat.add_assoc,go_sem,↓zA,↓reduceIte,↓reduceDIte] <;>try simp only [zB]
   simp only [afterO,Out.ren,SV.ren,mgA,sig,SObj.ren,SV.renL,List.set,List.map,Ah];refine uQ 3 _ ?_;with_reducible refine sxaE ?_
   refine q0X (G.length+3) (ty:=.slice .u8) (xs:=x) rfl (by simp) (by omega) ?_ ?_ ?_
   · with_reducible refine sxaE ?_
     exact ⟨by omega,q1p (hG _ _ _) ⟨trivial,trivial⟩⟩
   · with_reducible refine sxaE ?_;trivial
   have htk:List.take a.length x=x:=Ab (by omega)
   with_reducible refine sya1 htk ?_
   refine j2u [_,_,_] (by rfl) (by simp [SV.belL,SV.bel]) (by simp [belH,SObj.bel,SV.belL,SV.bel]) (by rfl) ?_
   refine gQ ?_;clear hex hit hst hcu hck;obtain ⟨W,hW⟩:∃W,W=wordsS key:=⟨_,rfl⟩;rw [←hW] at hpr hap;refine q3j 14 .u8 (fun i=>(dpl W iv x i).2) (fun i=>[(15,.isl .u8 (dpl W iv x i).1),(46,rI i)]) x.length (fun _=>True) rfl (by simp) rfl rfl (fun i=>rfl) ?_ fun i hi' _=> ?_
   · with_reducible refine sxE ?_
     rfl
   have hdl:=z6X W iv x hi hx16 i hi';have hwr:=wsx i (by omega)
   by_cases hlt:i<x.length
   · have hd1:dpl W iv x (i+1)=(x.getD i [],(dpl W iv x i).2++xorS (decS W (x.getD i [])) (dpl W iv x i).1):=rfl;have hbi:(x.getD i []).length=16:=hx16 _ (by rw [Aa,Ae hlt];exact Bq _)
     have g1:((i:Int) < ((x.length:Nat):Int))=True:=eq_true (by omega)
     have e5:(Ty.slice .u8).dflt=([]:List UInt8):=rfl;have hapb:=hap _ hbi;have hcob:=q7n (decS W (x.getD i [])) (dpl W iv x i).1 (q2r _ _) hdl.1;have hxo:=q2V (decS W (x.getD i [])) (dpl W iv x i).1;generalize hgd:x.getD i []=b at*;generalize xorS (decS W b) (dpl W iv x i).1=y at*;generalize hdi:dpl W iv x i=d at*;obtain ⟨pv,acc⟩:=d;dsimp only at*;refine gy3 g1 e5 hgd ?_;refine ⟨⟨by omega,hlt⟩,?_⟩
     refine cQ hapb ?_;refine q0a hcob ?_;refine uQ 600 _ ?_;simp (maxSteps:=3000000) only [hdl.2,hxo,go_sem,↓zA,↓reduceIte,↓reduceDIte] <;>try simp only [zB]
     refine ⟨⟨by omega,by omega⟩,q1M [.dead] [] hlt trivial (by rw [hd1];rfl) ?_⟩
     simp (maxSteps:=3000000) only [hwr,hd1,Ad,hdl.2,hxo,go_sem,↓zA,↓reduceIte,↓reduceDIte] <;>try simp only [zB]
   obtain rfl:i=x.length:=by omega
   have g1:(((x.length:Nat):Int) < ((x.length:Nat):Int))=False:=eq_false (by omega)
   refine uQ 11 _ ?_;simp (maxSteps:=3000000) only [g1,go_sem,↓zA,↓reduceIte,↓reduceDIte] <;>try simp only [zB]
   rw [←hxl] at hpr hn;generalize hac:dpl W iv x x.length=d at*;obtain ⟨pv,acc⟩:=d;dsimp only at*;refine q0X 3 (ty:=.u8) (xs:=acc) rfl rfl (by omega) ?_ ?_ ?_
   · with_reducible refine sxE ?_;trivial
   · with_reducible refine sxE ?_
     first|done|exact Ag _|exact ⟨Ag _,Ag _⟩
   have htk:List.take acc.length acc=acc:=AE;with_reducible refine sxE ?_
   refine gy2 htk hpr ?_;have hal:acc.length=16*x.length:=hdl.2;refine ⟨⟨by omega,by omega⟩,q0a (q1X (ctsD key iv c) (by omega)) ?_⟩
   refine gQ ?_;trivial
 rintro D i ex _ hi' h;exact h.elim
theorem or8(a b:UInt8):orK .u8 (a.toNat:Int) (b.toNat:Int)=((a|||b).toNat:Int):=by
 unfold orK;have ha:=a.toNat_lt;have hb:=b.toNat_lt;have hx:a.toNat|||b.toNat<2^ 8:=Nat.or_lt_two_pow ha hb
 have e:(BitVec.ofInt IntKind.u8.bits (a.toNat:Int) |||BitVec.ofInt IntKind.u8.bits (b.toNat:Int)).toNat=a.toNat|||b.toNat:=by
  rw [Ca,AO,AO,AX,AX];rw [show 2^ IntKind.u8.bits=256 from rfl,AY ha,AY hb]
 rw [e,u8wrapR,UInt8.toNat_or];omega
def dfS(a b:List UInt8):Nat→UInt8
 |0=>0
 |i+1=>dfS a b i||| (a.getD i 0^^^ b.getD i 0)
theorem z8W{a b:UInt8}:a|||b=0 ↔ a=0∧b=0:=by
 constructor
 · intro h;have h1:(a|||b).toNat=0:=by rw [h];rfl
   rw [UInt8.toNat_or] at h1;have ha:= @Nat.left_le_or a.toNat b.toNat;have hb:= @Nat.right_le_or a.toNat b.toNat;exact ⟨BF.1 (by show a.toNat=0;omega),BF.1 (by show b.toNat=0;omega)⟩
 rintro ⟨rfl,rfl⟩;rfl
theorem z6W{a b:UInt8}:a^^^ b=0 ↔ a=b:=UInt8.xor_eq_zero_iff
theorem z2O(a b:List UInt8):∀i,dfS a b i=0 ↔ ∀j,j<i→a.getD j 0=b.getD j 0
 |0=>by simp [dfS]
 |i+1=>by
  rw [dfS,z8W,z2O a b i,z6W];constructor
  · rintro ⟨h1,h2⟩ j hj;by_cases e:j=i
    · subst e;exact h2
    exact h1 j (by omega)
  intro h;exact ⟨fun j hj=>h j (by omega),h i (by omega)⟩
theorem j4a{a b:List UInt8}(h:a.length=b.length):dfS a b a.length=0 ↔ a=b:=by
 rw [z2O];constructor
 · intro h1;apply Au h;intro j h2 h3;have:=h1 j h2;rw [Aa,Aa,Ae h2,Ae h3] at this;exact this
 rintro rfl j _;rfl
theorem j0Y(a b:List UInt8)(ha:a.length≤1099511627776)(hb:b.length≤1099511627776):PC Tryz.prog 99 [.isl .u8 a,.isl .u8 b] (rB (decide (a=b))):=by
 refine q0p rfl rfl ?_;by_cases hl:a.length=b.length
 · have hl':((a.length:Int)=(b.length:Int))=True:=eq_true (by omega)
   refine ry1 fi99 hl' ?_;refine q0d (ι:=Nat) (fun i=>[(14,rI i),(5,.raw (.int .u8 (dfS a b i).toNat))]) (fun i=>[]) (fun i=>a.length-i) (fun i=>i≤a.length) 0 (Ai _) rfl ?_ ?_
   · with_reducible refine sxE ?_
     rfl
   intro i hi;have hwr:=wsx i (by omega)
   by_cases h:i<a.length
   · have hx:=xor8 (a.getD i 0) (b.getD i 0);have ho:=or8 (dfS a b i) (a.getD i 0^^^ b.getD i 0);refine gyd3 hx ho Ac ?_;refine ⟨fun _=>⟨⟨by omega,by omega⟩,⟨by omega,by omega⟩,i+1,h,by dsimp only;omega,rfl,?_⟩,fun hh=>absurd h hh⟩
     with_reducible refine sx1 hwr ?_
     rfl
   obtain rfl:i=a.length:=by omega
   refine gQ ?_;refine ⟨fun hh=>absurd hh (by omega),fun _=> ?_⟩
   rw [decide_eq_decide,←j4a hl,←BF];exact Int.natCast_eq_zero
 have hl':((a.length:Int)=(b.length:Int))=False:=eq_false (by omega)
 refine ry1 fi99 hl' ?_;exact (decide_eq_false (fun e=>hl (by rw [e]))).symm
theorem z8j(a b:List UInt8)(ha:a.length≤1099511627776)(hb:b.length≤1099511627776):PC Tryz.prog 68 [.isl .u8 a,.isl .u8 b] (rB (decide (a=b))):=by
 refine q0p rfl rfl ?_;refine rQ fi68 ?_;refine cQ (j0Y a b ha hb) ?_;trivial
def opS2(k:Key)(u:Nat)(sp sv:Int)(sb:List UInt8):List UInt8×Int:=
 if uOk k u=true then
  if sp=k.1∧(sv=k.2.1∨sv=0∨k.2.1=0) then
   if sb.length<48 then ([],4)
   else if 65584<sb.length then ([],5)
   else if hmS (dkS k u 85) (sb.take (sb.length-32))=sb.drop (sb.length-32) then (ksS (dkS k u 170) ((sb.take (sb.length-32)).take 16) ((sb.take (sb.length-32)).drop 16),0)
   else ([],10)
  else ([],9)
 else ([],2)
theorem z7D(k:Key)(u:Nat)(conf plain:List UInt8)(hc:conf.length=16):(ciS k u conf plain).length=16+plain.length:=by
 unfold ciS;split
 · rw [z2Y _ _ _ rfl (by rw [Ad];omega),Ad,hc]
 rw [Ad,q3k,hc]
theorem z8x(k:Key)(u:Nat)(c:List UInt8):(tg9S k u c).length=if k.1=1 then 16 else 32:=by
 unfold tg9S;split
 · rw [Aj,q2k];rfl
 rw [q2k]
def slO(k:Key)(u:Nat)(conf plain:List UInt8):SV:=if uOk k u=true∧conf.length=16∧plain.length≤65536 then .tup [.agg [rI k.1,rI k.2.1,.isl .u8 (seS k u conf plain)],rI 0] else .tup [.agg [rI 0,rI 0,.isl .u8 []],rI 2]
def icTail:Nat→IC→IC
 |0,c=>c
 |n+1,.seq _ b=>icTail n b
 |_,c=>c
attribute [go_sem] icTail
theorem z0i(key cipher:List UInt8)(hk:key.length≤64)(hc:cipher.length≤1048576):PC Tryz.prog 116 [.isl .u8 key,.isl .u8 cipher] (.isl .u8 (hmS key (z16++cipher))):=by
 have hj:=q9f key [z16,cipher] hk (by simp [j2q];omega) (by simp)
 rw [show [z16,cipher].flatten=z16++cipher by simp] at hj
 refine q0p rfl rfl ?_;refine q0Z fi116 ?_;refine uQ 8 _ ?_;with_reducible refine sxE ?_
 refine q0X 0 (ty:=.u8) (xs:=z16) rfl rfl (by decide) ?_ ?_ ?_
 · with_reducible refine sxE ?_;trivial
 · with_reducible refine sxE ?_
   exact Ag _
 with_reducible refine sxE ?_
 change SoundI _ _ ⟨_,_,[_,_,_,_,_,_,.isl .u8 z16,_,_,_],_⟩;refine gQ ?_;refine q0q 1 ?_;with_reducible refine sxE ?_
 refine cQ hj ?_;trivial
theorem z7J(key conf plain:List UInt8)(hk:key.length=16)(hc:conf.length=16)(hp:plain.length≤65536):PC Tryz.prog 114 [.isl .u8 key,.isl .u8 conf,.isl .u8 plain] (.isl .u8 (ctsE key z16 (conf++plain))):=by
 have hj:=z3z [conf,plain] (by simp;omega) (by simp)
 rw [show [conf,plain].flatten=conf++plain by simp] at hj
 have hen:=j3f key z16 (conf++plain) hk rfl (by simp;omega) (by simp;omega)
 refine q0p rfl rfl ?_;refine rQ fi114 ?_;refine q0U hj ?_;refine gQ ?_;refine q0B 0 (by decide) ?_
 with_reducible refine sxE ?_
 change CallR _ _ _ _ [_,.isl .u8 z16,_] _ _;refine cR hen ?_;trivial
theorem z7G(key cipher:List UInt8)(hk:key.length=16)(h1:16≤cipher.length)(hc:cipher.length≤131072):PC Tryz.prog 115 [.isl .u8 key,.isl .u8 cipher] (.isl .u8 ((ctsD key z16 cipher).drop 16)):=by
 have hde:=j1i key z16 cipher hk rfl h1 hc;have hel:=q5V key z16 cipher rfl h1;refine q0p rfl rfl ?_;refine rQ fi115 ?_;refine q0q 0 ?_;with_reducible refine sxE ?_
 change CallI _ _ _ [_,.isl .u8 z16,_] _ _;refine q0a hde ?_;have htk:List.take cipher.length (ctsD key z16 cipher)=ctsD key z16 cipher:=Ab (by omega)
 refine uQ 16 _ ?_;with_reducible refine sy2 hel htk ?_
 refine ⟨⟨by omega,Ag _⟩,z0I 4 rfl rfl ?_⟩
 refine gQ ?_;trivial
theorem j0g{P:Program}{f:FuncId}{args:List SV}{s s':SV}(h:PC P f args s)(e:s=s'):PC P f args s':=e▸h
def kdL(nm:ByteArray)(kl tl:Nat)(fe fd fm:FuncId):List Value:=[.string nm,.int .i64 kl,.int .i64 16,.int .i64 tl,.int .i64 tl,fnV fe,fnV fd,fnV fm]
theorem z0u(nm:ByteArray)(kl tl:Nat)(fe fd fm:FuncId)(p v:Int)(b:List UInt8)(u:Nat)(conf plain ci mk:List UInt8)
 (hu:PC Tryz.prog 42 [.agg (KeyT.cells (p,v,b)),rI u] (.tup [.agg (rawL (kdL nm kl tl fe fd fm)),rI 0]))(hb1:1≤b.length)(hb2:b.length≤64)(hc:conf.length=16)(hp:plain.length≤65536)
 (hen:PC Tryz.prog fe [.isl .u8 (dkS (p,v,b) u 170),.isl .u8 conf,.isl .u8 plain] (.isl .u8 ci))(hmk:PC Tryz.prog fm [.isl .u8 (dkS (p,v,b) u 85),.isl .u8 ci] (.isl .u8 mk))(htl:tl≤mk.length)(hml:mk.length≤4096)(hci:ci.length≤1048576):
 PC Tryz.prog 17 [.agg (KeyT.cells (p,v,b)),rI u,.isl .u8 conf,.isl .u8 plain] (.tup [.agg [rI p,rI v,.isl .u8 (ci++mk.take tl)],rI 0]):=by
 unfold kdL at hu;refine q0p rfl rfl ?_;refine q0Z fi17 ?_;refine gQ ?_;refine q0a hu ?_;have hcl:((conf.length:Int)=16)=True:=eq_true (by omega)
 have hpl:(65536< (plain.length:Int))=False:=eq_false (by omega)
 refine gy2 hcl hpl ?_;refine cQ (z0f (p,v,b) u hb2) ?_;refine cR (q4u (p,v,b) u 170 hb2 hb1 (by decide)) ?_
 refine cR hen ?_;refine cR (q4u (p,v,b) u 85 hb2 hb1 (by decide)) ?_
 refine q0e hmk ?_;refine uQ 4 _ ?_;simp (maxSteps:=3000000) only [Aq,go_sem,↓zA,↓reduceIte,↓reduceDIte] <;>try simp only [zB]
 have htk:(List.take tl mk).length=tl:=by rw [Aj];omega
 have hj:=z3z [ci,List.take tl mk] (by simp;omega) (by simp)
 rw [show [ci,List.take tl mk].flatten=ci++List.take tl mk by simp] at hj
 refine ⟨⟨by omega,Ag _,htl⟩,?_⟩
 refine q1N [0] mixed ?_;refine gQ ?_;refine q0B 3 (by decide) ?_
 with_reducible refine sxE ?_
 refine cR hj ?_;trivial
theorem z0x(nm:ByteArray)(kl tl:Nat)(fe fd fm:FuncId)(p v:Int)(b:List UInt8)(u:Nat)(sp sv:Int)(sb pl mk:List UInt8)
 (hu:PC Tryz.prog 42 [.agg (KeyT.cells (p,v,b)),rI u] (.tup [.agg (rawL (kdL nm kl tl fe fd fm)),rI 0]))(hb1:1≤b.length)(hb2:b.length≤64)(htl:tl≤64)(hs:sb.length≤1099511627776)
 (hmk:16+tl≤sb.length→sb.length≤65552+tl→PC Tryz.prog fm [.isl .u8 (dkS (p,v,b) u 85),.isl .u8 (sb.take (sb.length-tl))] (.isl .u8 mk))
 (hde:16+tl≤sb.length→sb.length≤65552+tl→PC Tryz.prog fd [.isl .u8 (dkS (p,v,b) u 170),.isl .u8 (sb.take (sb.length-tl))] (.isl .u8 pl))(hml:tl≤mk.length)(hmx:mk.length≤4096):
 PC Tryz.prog 36 [.agg (KeyT.cells (p,v,b)),rI u,.agg [rI sp,rI sv,.isl .u8 sb]] (.tup (if sp=p∧(sv=v∨sv=0∨v=0) then
  if sb.length<16+tl then [.isl .u8 [],rI 4] else if 65552+tl<sb.length then [.isl .u8 [],rI 5]
  else if mk.take tl=sb.drop (sb.length-tl) then [.isl .u8 pl,rI 0] else [.isl .u8 [],rI 10] else [.isl .u8 [],rI 9])):=by
 unfold kdL at hu;have hw:IntKind.i64.wrap (((sb.length:Nat):Int) - (tl:Int))=((sb.length:Nat):Int) - (tl:Int):=wrapi (by omega)
 have hw2:IntKind.i64.wrap (16+65536)=65552:=by rw [wrapi (by omega)];rfl
 by_cases hsp:sp=p
 · subst hsp;have f1:(sp=sp)=True:=eq_true rfl;by_cases hsv:sv=v∨sv=0∨v=0
   · rw [if_pos ⟨rfl,hsv⟩];have hcase:(((sv=v)=True)∧((sv=v)=True)∧((sv=v)=True))∨(((sv=v)=False)∧((sv=0)=True)∧((sv=0)=True))∨(((sv=v)=False)∧((sv=0)=False)∧((v=0)=True)):=by
      by_cases h1:sv=v
      · exact .inl ⟨eq_true h1,eq_true h1,eq_true h1⟩
      by_cases h2:sv=0
      · exact .inr (.inl ⟨eq_false h1,eq_true h2,eq_true h2⟩)
      exact .inr (.inr ⟨eq_false h1,eq_false h2,eq_true ((hsv.resolve_left h1).resolve_left h2)⟩)
     by_cases c1:sb.length<16+tl
     · have n1:(((sb.length:Nat):Int) - (tl:Int) <16)=True:=eq_true (by omega)
       rw [if_pos c1];rcases hcase with ⟨g1,g2,g3⟩ | ⟨g1,g2,g3⟩ | ⟨g1,g2,g3⟩
       all_goals
        refine q0i rfl rfl ?_;refine rQ fi36 ?_;refine q0a hu ?_;refine gy8 f1 g1 g2 g3 hw n1 n1 n1 ?_;trivial
     have n1:(((sb.length-tl:Nat):Int) <16)=False:=eq_false (by omega)
     have n0:((sb.length:Nat):Int) - (tl:Int)=((sb.length-tl:Nat):Int):=by omega
     rw [n0] at hw;rw [if_neg c1];by_cases c2:65552+tl<sb.length
     · have n2:(65552< ((sb.length-tl:Nat):Int))=True:=eq_true (by omega)
       rw [if_pos c2];rcases hcase with ⟨g1,g2,g3⟩ | ⟨g1,g2,g3⟩ | ⟨g1,g2,g3⟩
       all_goals
        refine q0i rfl rfl ?_;refine rQ fi36 ?_;refine q0a hu ?_;refine uQ 600 _ ?_;simp (maxSteps:=3000000) only [f1,g1,g2,g3,n0,hw,hw2,n1,n2,go_sem,↓zA,↓reduceIte,↓reduceDIte] <;>try simp only [zB]
     have n2:(65552< ((sb.length-tl:Nat):Int))=False:=eq_false (by omega)
     rw [if_neg c2];have hmk:=hmk (by omega) (by omega)
     have hde:=hde (by omega) (by omega)
     have hcl:(List.take (sb.length-tl) sb).length=sb.length-tl:=by rw [Aj];omega
     have hdl:(List.drop (sb.length-tl) sb).length=tl:=by rw [Al];omega
     have htk:(List.take tl mk).length=tl:=by rw [Aj];omega
     have hst:List.take sb.length sb=sb:=AE;have hme:=z8j (List.take tl mk) (List.drop (sb.length-tl) sb) (by omega) (by omega)
     generalize hci:List.take (sb.length-tl) sb=ci at*;generalize htg:List.drop (sb.length-tl) sb=tg at*;generalize hmt:List.take tl mk=mt at*;rcases hcase with ⟨g1,g2,g3⟩ | ⟨g1,g2,g3⟩ | ⟨g1,g2,g3⟩
     all_goals
      refine q0i rfl (by split<;>rfl) ?_
      refine rQ fi36 ?_;refine q0a hu ?_;refine uQ 600 _ ?_;simp (maxSteps:=3000000) only [f1,g1,g2,g3,n0,hw,hw2,n1,n2,Aq,hst,hci,htg,go_sem,↓zA,↓reduceIte,↓reduceDIte] <;>try simp only [zB]
      refine ⟨⟨by omega,Ag _,by omega⟩,⟨by omega,by omega,Ag _⟩,?_⟩
      refine cQ (z0f (sp,v,b) u hb2) ?_;refine cR (q4u (sp,v,b) u 85 hb2 hb1 (by decide)) ?_
      refine q0e hmk ?_;refine gy2 Aq hmt ?_;refine ⟨⟨by omega,Ag _,hml⟩,?_⟩
      refine q0e hme ?_;by_cases c3:mt=tg
      · rw [if_pos c3];refine gy1 c3 ?_;refine cR (q4u (sp,v,b) u 170 hb2 hb1 (by decide)) ?_
        refine cR hde ?_;trivial
      rw [if_neg c3];refine gy1 c3 ?_;trivial
   rw [if_neg (fun h=>hsv h.2)];have g1:(sv=v)=False:=eq_false fun h=>hsv (.inl h);have g2:(sv=0)=False:=eq_false fun h=>hsv (.inr (.inl h));have g3:(v=0)=False:=eq_false fun h=>hsv (.inr (.inr h));refine q0i rfl rfl ?_;refine rQ fi36 ?_;refine cy4 hu f1 g1 g2 g3 ?_;trivial
 have f1:(sp=p)=False:=eq_false hsp;rw [if_neg (fun h=>hsp h.1)];refine q0i rfl rfl ?_;refine rQ fi36 ?_;refine cy1 hu f1 ?_;trivial
theorem z7L(k:Key)(u:Nat)(conf plain:List UInt8)(ho:KeyT.ok k):PC Tryz.prog 17 [.agg (KeyT.cells k),rI u,.isl .u8 conf,.isl .u8 plain] (slO k u conf plain):=by
 have hu:=z3d k u ho;have hf:= @q3m k u;have hd1:=q5z k u 170;have hd2:=q5z k u 85;unfold slO;by_cases hok:uOk k u=true
 · obtain ⟨hv,hu',hbl,hb32,hb1,hb2⟩:=hf hok;rw [if_pos hok,if_pos hok] at hu;by_cases hcl:conf.length=16∧plain.length≤65536
   · rw [if_pos ⟨hok,hcl⟩];have hse:seS k u conf plain=ciS k u conf plain++tg9S k u (ciS k u conf plain):=rfl;have hcil:=z7D k u conf plain hcl.1;rw [hse];by_cases hp:k.1=1
     · have hcd:ciS k u conf plain=ctsE (dkS k u 170) z16 (conf++plain):=if_pos hp;have htd:tg9S k u (ciS k u conf plain)=(hmS (dkS k u 85) (z16++ciS k u conf plain)).take 16:=if_pos hp;have hen:=z7J (dkS k u 170) conf plain (by rw [hd1,hb1 hp]) hcl.1 hcl.2
       have hmk:=z0i (dkS k u 85) (ciS k u conf plain) (by omega) (by omega)
       rw [←hcd] at hen;rw [htd];have hml:=q2k (dkS k u 85) (z16++ciS k u conf plain);generalize hmS (dkS k u 85) (z16++ciS k u conf plain)=mk at*;generalize ciS k u conf plain=ci at*;obtain ⟨p,v,b⟩:=k;dsimp only at*;subst hp;exact z0u name1 16 16 114 115 116 1 v b u conf plain ci mk hu (by have:=hb1 rfl;omega) (by omega) hcl.1 hcl.2 hen hmk (by omega) (by omega) (by omega)
     obtain ⟨hp2,hb3⟩:=hb2 hp;have hcd:ciS k u conf plain=conf++ksS (dkS k u 170) conf plain:=if_neg hp;have htd:tg9S k u (ciS k u conf plain)=hmS (dkS k u 85) (ciS k u conf plain):=if_neg hp;have hen:=z6o (dkS k u 170) conf plain (by omega) (by omega) (by omega)
     have hmk:=z0q (dkS k u 85) (ciS k u conf plain) (by omega) (by omega)
     rw [←hcd] at hen;rw [htd];have hml:=q2k (dkS k u 85) (ciS k u conf plain);generalize hmS (dkS k u 85) (ciS k u conf plain)=mk at*;generalize ciS k u conf plain=ci at*;obtain ⟨p,v,b⟩:=k;dsimp only at*;subst hp2;have:=z0u name2 32 32 117 118 119 2 v b u conf plain ci mk hu (by omega) (by omega) hcl.1 hcl.2 hen hmk (by omega) (by omega) (by omega)
     rwa [Ab (by omega)] at this
   rw [if_neg (fun h=>hcl h.2)];have hkk:kindOf k.1=kind1∨kindOf k.1=kind2:=by
    unfold kindOf;by_cases hp:k.1=1
    · rw [if_pos hp];exact .inl rfl
    rw [if_neg hp,if_pos (hb2 hp).1];exact .inr rfl
   generalize kindOf k.1=kv at*;obtain ⟨p,v,b⟩:=k;rcases hkk with rfl|rfl
   all_goals
    by_cases hc:conf.length=16
    · have f1:(((conf.length:Nat):Int)=16)=True:=eq_true (by omega)
      have f2:(65536< ((plain.length:Nat):Int))=True:=eq_true (by omega)
      refine q0i rfl rfl ?_;refine rQ fi17 ?_;refine q0a hu ?_;refine gy2 f1 f2 ?_;trivial
    have f1:(((conf.length:Nat):Int)=16)=False:=eq_false (by omega)
    refine q0i rfl rfl ?_;refine rQ fi17 ?_;refine cy1 hu f1 ?_;trivial
 rw [if_neg (fun h=>hok h.1)];rw [if_neg hok,if_neg hok] at hu;obtain ⟨p,v,b⟩:=k;refine q0i rfl rfl ?_;refine rQ fi17 ?_;refine cQ hu ?_;trivial
theorem j1X(k:Key)(u:Nat)(sp sv:Int)(sb:List UInt8)(ho:KeyT.ok k)(hs:sb.length≤1099511627776):PC Tryz.prog 36 [.agg (KeyT.cells k),rI u,.agg [rI sp,rI sv,.isl .u8 sb]] (.tup [.isl .u8 (opS k u sp sv sb).1,rI (opS k u sp sv sb).2]):=by
 have hu:=z3d k u ho;have hf:= @q3m k u;have hd1:=q5z k u 170;have hd2:=q5z k u 85;unfold opS;by_cases hok:uOk k u=true
 · obtain ⟨hv,hu',hbl,hb32,hb1,hb2⟩:=hf hok;rw [if_pos hok,if_pos hok] at hu;rw [if_pos hok];have hcl:(sb.take (sb.length-k.2.2.length)).length≤sb.length-k.2.2.length:=List.length_take_le _ _;have hcl2:16+k.2.2.length≤sb.length→(sb.take (sb.length-k.2.2.length)).length=sb.length-k.2.2.length:=fun _=>by rw [Aj];omega
   unfold tg9S unS;by_cases hp:k.1=1
   · rw [if_pos hp,if_pos hp];have hbb:=hb1 hp;have hmk:=fun (h1:16+k.2.2.length≤sb.length) (h2:sb.length≤65552+k.2.2.length)=>z0i (dkS k u 85) (sb.take (sb.length-k.2.2.length)) (by omega) (by omega)
     have hde:=fun (h1:16+k.2.2.length≤sb.length) (h2:sb.length≤65552+k.2.2.length)=>z7G (dkS k u 170) (sb.take (sb.length-k.2.2.length)) (by rw [hd1,hbb]) (by rw [hcl2 h1];omega) (by omega)
     have hml:=q2k (dkS k u 85) (z16++sb.take (sb.length-k.2.2.length));obtain ⟨p,v,b⟩:=k;dsimp only at*;subst hp;have hb11:1≤b.length∧b.length≤64:=by omega
     rw [hbb] at hmk hde hml⊢;refine j0g (z0x name1 16 16 114 115 116 1 v b u sp sv sb _ _ hu hb11.1 hb11.2 (by omega) hs hmk hde (by omega) (by omega)) ?_
     repeat' split
     all_goals rfl
   rw [if_neg hp,if_neg hp];obtain ⟨hp2,hbb⟩:=hb2 hp;have hmk:=fun (h1:16+k.2.2.length≤sb.length) (h2:sb.length≤65552+k.2.2.length)=>z0q (dkS k u 85) (sb.take (sb.length-k.2.2.length)) (by omega) (by omega)
   have hde:=fun (h1:16+k.2.2.length≤sb.length) (h2:sb.length≤65552+k.2.2.length)=>z7l (dkS k u 170) (sb.take (sb.length-k.2.2.length)) (by omega) (by rw [hcl2 h1];omega) (by omega)
   have hml:=q2k (dkS k u 85) (sb.take (sb.length-k.2.2.length));obtain ⟨p,v,b⟩:=k;dsimp only at*;subst hp2;have hb11:1≤b.length∧b.length≤64:=by omega
   rw [hbb] at hmk hde hml⊢;refine j0g (z0x name2 32 32 117 118 119 2 v b u sp sv sb _ _ hu hb11.1 hb11.2 (by omega) hs hmk hde (by omega) (by omega)) ?_
   rw [Ab (show (hmS (dkS (2,v,b) u 85) (sb.take (sb.length-32))).length≤32 by omega)]
   repeat' split
   all_goals rfl
 rw [if_neg hok];rw [if_neg hok,if_neg hok] at hu;obtain ⟨p,v,b⟩:=k;refine q0i rfl rfl ?_;refine rQ fi36 ?_;refine cQ hu ?_;trivial
theorem q9i(v:Int)(b:List UInt8)(u:Nat)(sp sv:Int)(sb:List UInt8):opS (2,v,b) u sp sv sb=opS2 (2,v,b) u sp sv sb:=by
 have h1:∀c,tg9S (2,v,b) u c=hmS (dkS (2,v,b) u 85) c:=fun c=>if_neg (show ¬((2:Int)=1) by decide)
 have h2:∀c,unS (2,v,b) u c=ksS (dkS (2,v,b) u 170) (c.take 16) (c.drop 16):=fun c=>if_neg (show ¬((2:Int)=1) by decide)
 unfold opS opS2;by_cases h:uOk (2,v,b) u=true
 · have hl:b.length=32:=((q3m h).2.2.2.2.2 (show (2:Int)≠1 by decide)).2
   simp only [h1,h2,hl]
 rw [if_neg h,if_neg h]
theorem j0Z(v:Int)(b:List UInt8)(u:Nat)(conf plain:List UInt8):seS (2,v,b) u conf plain=seS2 (2,v,b) u conf plain:=by
 have h1:∀c,tg9S (2,v,b) u c=hmS (dkS (2,v,b) u 85) c:=fun c=>if_neg (show ¬((2:Int)=1) by decide)
 have h2:ciS (2,v,b) u conf plain=ciS2 (2,v,b) u conf plain:=if_neg (show ¬((2:Int)=1) by decide)
 unfold seS seS2;rw [h1,h2]
set_option maxHeartbeats 4000000
def byteOf(x:Int):UInt8:=UInt8.ofNat (IntKind.u8.wrap x).toNat
theorem u8wrap(x:Int):0≤IntKind.u8.wrap x∧IntKind.u8.wrap x<256:=by
 have h:IntKind.u8.wrap x=x%256:=by simp [IntKind.wrap,IntKind.bits,IntKind.signed]
 rw [h];omega
theorem q1s(x:Int):((UInt8.ofNat (IntKind.u8.wrap x).toNat).toNat:Int)=IntKind.u8.wrap x:=by
 have:=u8wrap x;rw [Bx];omega
theorem j4m(c:UInt8):((UInt8.ofNat c.toNat).toNat:Int)=c.toNat:=by simp
def lenS(n:Nat):List UInt8:=
 if n<128 then [byteOf n] else if n<256 then [129,byteOf n] else if n<65536 then [130,byteOf ((n:Int).fdiv 256),byteOf n] else [131,byteOf ((n:Int).fdiv 65536),byteOf ((n:Int).fdiv 256),byteOf n]
def tlv(tag:UInt8)(c:List UInt8):List UInt8:=tag :: (lenS c.length++c)
def elemS(tag:UInt8)(parts:List (List UInt8)):List UInt8:=if parts.flatten.length≤16777215 then tlv tag parts.flatten else []
def flatN(parts:List (List UInt8))(i:Nat):List UInt8:=(parts.take i).flatten
theorem q5A{parts:List (List UInt8)}{i:Nat}(h:i<parts.length):flatN parts (i+1)=flatN parts i++parts.getD i (Ty.slice .u8).dflt:=by
 unfold flatN;rw [q2v (d:=(Ty.slice .u8).dflt) h];simp
theorem q9T(parts:List (List UInt8)):flatN parts parts.length=parts.flatten:=by unfold flatN;rw [AE]
theorem q9e(parts:List (List UInt8))(i:Nat):(flatN parts i).length≤parts.flatten.length:=by
 unfold flatN;have:=congrArg List.flatten (A0 i parts);rw [BN] at this;rw [←this];simp
def fitAt(parts:List (List UInt8))(j:Nat):Bool:=decide ((flatN parts (j+1)).length≤16777215)

theorem z5S(tag:UInt8)(parts:List (List UInt8))(hp:parts.length≤1125899906842624):PC Tryz.prog 48 [.raw (.int .u8 tag.toNat),.isl (.slice .u8) parts] (.isl .u8 (elemS tag parts)):=by
 refine q0i rfl rfl ?_;refine rQ fi48 ?_;refine q4m (fun i=>[(5,rI ((flatN parts i).length)),(13,.raw (.int .i64 ((i:Nat):Int)))]) (parts.length) (fun j=>(fitAt parts) j=true) (by first|decide|simp) (fun i=>rfl) ?_ fun i hi hall=> ?_
 · (with_reducible refine sxE ?_<;>try exact True.intro)
   all_goals (try rfl)
 have hwr:=wsx i (by omega)
 refine gQ ?_;have bad:i< (parts.length)→(fitAt parts) i=false→allN (parts.length) (fitAt parts)=false:=fun hlt hv=>q1Q hlt hv;have fin:¬i< (parts.length)→allN (parts.length) (fitAt parts)=true:=fun h=>q2p fun j hj=>hall j (by omega)
 try dsimp only at bad fin hall
 have hn:(flatN parts i).length≤16777215:=by
  cases i with
  |zero=>simp [flatN]
  |succ j=>have:=hall j (by omega);simpa [fitAt] using this
 rw [wrapi (n:=16777215- ((flatN parts i).length:Int)) (by omega),wrapi (n:=((flatN parts i).length:Int)+5) (by omega)]
 refine ⟨fun hlt=>⟨⟨by omega,hlt⟩,fun hbig=> ?_,fun hfit=> ?_⟩,fun hge=> ?_⟩
 · have h1:=q9e parts (i+1);rw [q5A hlt,Ad] at h1;unfold elemS;rw [if_neg (by omega)]
 · have h2:((flatN parts i).length:Int)+ ((parts.getD i (Ty.slice .u8).dflt).length:Int)=((flatN parts (i+1)).length:Int):=by rw [q5A hlt,Ad];rfl
   have h3:(flatN parts (i+1)).length≤16777215:=by omega
   refine ⟨hlt,q0O hall (by simpa [fitAt] using h3),⟨_,rfl⟩,?_⟩
   rw [h2,wrapi (n:=((flatN parts (i+1)).length:Int)) (by omega)]
   with_reducible refine sx1 hwr ?_;trivial
 obtain rfl:i=parts.length:=by omega
 rw [q9T] at*;have he:elemS tag parts=tag :: (lenS parts.flatten.length++flatN parts parts.length):=by unfold elemS tlv;rw [if_pos hn,q9T]
 refine ⟨⟨by omega,by omega,by omega⟩,j4m tag,fun h1=>⟨q1s _,?_⟩,fun h1=>⟨fun h2=>⟨?_,?_⟩,fun h2=>⟨fun h3=>⟨?_,?_⟩,fun h3=>⟨?_,?_⟩⟩⟩⟩
 any_goals (repeat' (first|exact q1s _|exact rfl|with_reducible refine And.intro ?_ ?_))
 have hL:lenS parts.flatten.length= [byteOf parts.flatten.length]:=by unfold lenS;rw [if_pos (by omega)]
 rotate_left
 have hL:lenS parts.flatten.length= [129,byteOf parts.flatten.length]:=by unfold lenS;rw [if_neg (by omega),if_pos (by omega)]
 rotate_left
 have hL:lenS parts.flatten.length= [130,byteOf ((parts.flatten.length:Int).fdiv 256),byteOf parts.flatten.length]:=by unfold lenS;rw [if_neg (by omega),if_neg (by omega),if_pos (by omega)]
 rotate_left
 have hL:lenS parts.flatten.length= [131,byteOf ((parts.flatten.length:Int).fdiv 65536),byteOf ((parts.flatten.length:Int).fdiv 256),byteOf parts.flatten.length]:=by unfold lenS;rw [if_neg (by omega),if_neg (by omega),if_neg (by omega)]
 rotate_left
 all_goals
  refine j1z (H:=[_,_,_,_]) 8 .u8 (fun i=>tag :: (lenS parts.flatten.length++flatN parts i)) (fun i=>[(44,.any),(52,.any),(60,.any),(71,.any),(74,rI i)]) parts.length (fun _=>True) (by rw [hL];simp [flatN,byteOf]) (by simp) rfl (fun i=>rfl) ?_ fun i hi _=> ?_
  · with_reducible refine sx1 hL ?_
    simp [flatN]
  have hwr:=wsx i (by omega)
  have hfl:=q9e parts i;have hll:(lenS parts.flatten.length).length≤4:=by rw [hL];simp
  refine gQ ?_;have e1:(lenS parts.flatten.length++flatN parts i).length=(lenS parts.flatten.length).length+ (flatN parts i).length:=Ad;refine ⟨fun hlt=> ?_,fun hge=> ?_⟩
  · have h4:=q9e parts (i+1);have h5:=q5A hlt;rw [h5,Ad] at h4;refine ⟨⟨by omega,hlt⟩,⟨by omega,by omega⟩,q1M [.dead] [] hlt trivial (by rw [h5,←List.append_assoc];rfl) ?_⟩
    with_reducible refine sx3 hwr h5 ?_
    exact congrArg (SV.bld 5 .u8) (by omega)
  obtain rfl:i=parts.length:=by omega
  rw [Ab (Ag _)];exact ⟨⟨Ag _,by omega⟩,he.symm⟩
def byteAt(v:Int)(k:Nat):UInt8:=byteOf (v.fdiv (2^ min (8*k) 64))
def numN(v:Int)(size i:Nat):List UInt8:=(List.range size).map fun j=>if size-1-j<i then byteAt v (size-1-j) else 0
def numS(v:Int)(size:Nat):List UInt8:=(List.range size).map fun j=>byteAt v (size-1-j)
theorem z7e(v:Int)(size:Nat):List.replicate size (0:UInt8)=numN v size 0:=by
 apply Au
 · simp [numN]
 intro j h1 h2;simp [numN]
theorem z7P(v:Int)(size:Nat):numN v size size=numS v size:=by
 apply Au
 · simp [numN,numS]
 intro j h1 h2;simp [numN,numS];simp [numN] at h1;intro h;omega
theorem z9a{v:Int}{size i:Nat}(h:i<size):(numN v size i).set (size-1-i) (byteAt v i)=numN v size (i+1):=by
 apply Au
 · simp [numN]
 intro j h1 h2;simp [numN] at h2;simp only [numN,A4,AC,Ax];split
 · rename_i e;have:size-1-j=i:=by omega
   rw [this,if_pos (by omega)]
 rename_i e;by_cases h3:size-1-j<i
 · rw [if_pos h3,if_pos (by omega)]
 rw [if_neg h3,if_neg (by omega)]
theorem z2T(v:Int)(size:Nat)(hs:size≤64):PC Tryz.prog 50 [rI v,rI size] (.isl .u8 (numS v size)):=by
 refine q0i rfl rfl ?_;refine rQ fi50 ?_;refine ⟨by omega,?_⟩
 refine q0d (ι:=Nat) (fun i=>[(11,rI i)]) (fun i=>[.row .u8 (numN v size i)]) (fun i=>size-i) (fun i=>i≤size) 0 (Ai _) (by rw [←z7e];rfl) ?_ ?_
 · with_reducible refine sxE ?_;trivial
 intro i hi;have w3:IntKind.i64.wrap (8* (i:Int))=((8*i:Nat):Int):=by rw [wrapi (by omega)];rfl
 have hwr:=wsx i (by omega)
 have hln:(numN v size i).length=size:=by simp [numN]
 by_cases hlt:i<size
 · have w1:IntKind.i64.wrap ((size:Int) -1)=((size-1:Nat):Int):=by rw [wrapi (by omega)];omega
   have w2:IntKind.i64.wrap (((size-1:Nat):Int) - (i:Int))=((size-1-i:Nat):Int):=by rw [wrapi (by omega)];omega
   refine gy4 w1 w2 w3 hln ?_;refine ⟨fun _=>⟨by omega,⟨by omega,by omega⟩,⟨by omega,q1s _⟩,i+1,hlt,by dsimp only;omega,?_,?_⟩,fun h=>absurd hlt h⟩
   · dsimp only;rw [←z9a hlt,Nat.zero_add];rfl
   with_reducible refine sx1 hwr ?_;trivial
 refine uQ 600 _ ?_;with_reducible refine sx1 hln ?_
 refine ⟨fun h=>absurd h hlt,fun _=>⟨⟨by omega,by omega⟩,?_⟩⟩
 obtain rfl:i=size:=by omega
 rw [z7P,Ab (by simp [numS])]
theorem q2K(tag:UInt8)(n:Int)(hn:n=tag.toNat)(parts:List (List UInt8))(hp:parts.length≤1125899906842624):PC Tryz.prog 48 [.raw (.int .u8 n),.isl (.slice .u8) parts] (.isl .u8 (elemS tag parts)):=by
 subst hn;exact z5S tag parts hp

def restN(v:Int):Nat→Int
 |0=>v
 |k+1=>(restN v k).fdiv 256
def firstN(n:Nat)(q:Nat→Bool):Option Nat:=(List.range n).find? q
theorem q7p{n i:Nat}{q:Nat→Bool}(hi:i<n)(hq:q i=true)(hn:∀j,j<i→q j=false):firstN n q=some i:=by
 unfold firstN;rw [List.find?_range_eq_some];exact ⟨hq,by simpa using hi,fun j hj=>by rw [hn j hj];rfl⟩
theorem z1u{n i:Nat}{q:Nat→Bool}(h:firstN n q=some i):i<n∧q i=true∧∀j,j<i→q j=false:=by
 unfold firstN at h;rw [List.find?_range_eq_some] at h;exact ⟨by simpa using h.2.1,h.1,fun j hj=>by simpa using h.2.2 j hj⟩
def oneB(v:Int)(k:Nat):Bool:=decide (-128≤restN v k) && decide (restN v k≤127)
def intSz(v:Int):Nat:=1+ (firstN 9 (oneB v)).getD 0
def intS(v:Int):List UInt8:=if -4611686018427387904≤v∧v≤4611686018427387904 then elemS 2 [numS v (intSz v)] else []
theorem fdiv256(r:Int):r.fdiv 256=r / 256:=AV r (by decide)
theorem rest8{v:Int}(h1: -4611686018427387904≤v)(h2:v≤4611686018427387904):oneB v 8=true:=by
 simp only [oneB,restN,fdiv256,Am,decide_eq_true_eq];omega
theorem q3i(v:Int):PC Tryz.prog 27 [rI v] (.isl .u8 (intS v)):=by
 refine q0i rfl rfl ?_;refine rQ fi27 ?_<;>try with_reducible exact True.intro
 repeat' (first
  | (with_reducible refine And.intro ?_ ?_)
  | (with_reducible intro _))
 all_goals (skip)
 · unfold intS;rw [if_neg (by omega)]
 rotate_left
 · unfold intS;rw [if_neg (by omega)]
 rename_i h1 h2;have h8:=rest8 (v:=v) (by omega) (by omega)
 refine q0d (ι:=Nat) (fun k=>[(3,rI ((1+k:Nat):Int)),(4,rI (restN v k))]) (fun _=>[]) (fun k=>9-k) (fun k=>k≤8∧∀j,j<k→oneB v j=false) 0 ⟨by omega,fun j hj=>absurd hj (by omega)⟩ rfl ?_ ?_
 · simp (maxSteps:=3000000) only [restN,go_sem,↓zA,↓reduceIte,↓reduceDIte] <;>try simp only [zB]
   rfl
 rintro k ⟨hk,hall⟩;have hwr:IntKind.i64.wrap (((1+k:Nat):Int)+1)=((1+ (k+1):Nat):Int):=by rw [wrapi (by omega)];omega
 refine gy1 hwr ?_;have hp:(2:Int) ^ min 8 64=256:=by decide
 refine ⟨fun h3=>⟨fun h4=> ?_,fun h4=> ?_⟩,fun h3=> ?_⟩
 · have ho:oneB v k=false:=by simp [oneB];omega
   have hk8:k≠8:=fun e=>by subst e;rw [h8] at ho;cases ho
   refine ⟨k+1,⟨by omega,q0O hall ho⟩,by dsimp only;omega,rfl,?_⟩
   simp (maxSteps:=3000000) only [restN,hp,go_sem,↓zA,↓reduceIte,↓reduceDIte] <;>try simp only [zB]
 · have ho:oneB v k=true:=by simp [oneB];omega
   have hz:intSz v=1+k:=by unfold intSz;rw [q7p (by omega) ho hall];rfl
   refine cQ (z2T v (1+k) (by omega)) ?_
   refine q0q 0 ?_;with_reducible refine sxE ?_
   refine cQ (q2K 2 2 rfl _ (by simp)) ?_
   unfold intS;rw [if_pos (by omega),hz]
 have ho:oneB v k=false:=by simp [oneB];omega
 have hk8:k≠8:=fun e=>by subst e;rw [h8] at ho;cases ho
 refine ⟨k+1,⟨by omega,q0O hall ho⟩,by dsimp only;omega,rfl,?_⟩
 simp (maxSteps:=3000000) only [restN,hp,go_sem,↓zA,↓reduceIte,↓reduceDIte] <;>try simp only [zB]
theorem z8y(b:List UInt8):PC Tryz.prog 86 [.isl .u8 b] (.isl .u8 (elemS 4 [b])):=by
 refine q0i rfl rfl ?_;refine rQ fi86 ?_;refine q0q 0 ?_;with_reducible refine sxE ?_
 refine cQ (q2K 4 4 rfl _ (by simp)) ?_;trivial
def timeS(t:Int):List UInt8:=if 0≤t∧t≤1099511627776 then elemS 24 [numS t 6] else []
theorem j0q(t:Int):PC Tryz.prog 26 [rI t] (.isl .u8 (timeS t)):=by
 refine q0i rfl rfl ?_;refine rQ fi26 ?_;refine ⟨fun h1=>⟨fun h2=> ?_,fun h2=> ?_⟩,fun h1=> ?_⟩
 · unfold timeS;rw [if_neg (by omega)]
 · refine q0a (z2T t 6 (by omega)) ?_
   refine gQ ?_;refine q0q 0 ?_;with_reducible refine sxE ?_
   refine cQ (q2K 24 24 rfl _ (by simp)) ?_
   unfold timeS;rw [if_pos (by omega)]
 unfold timeS;rw [if_neg (by omega)]
theorem q7M(l:List (List UInt8))(hl:l.length≤1125899906842624):PC Tryz.prog 24 [.isl (.slice .u8) l] (.isl .u8 (elemS 48 l)):=by
 refine q0i rfl rfl ?_;refine rQ fi24 ?_;refine cQ (q2K 48 48 rfl _ hl) ?_;trivial
def wrapS(tag n:Int)(b:List UInt8):List UInt8:=if 0≤n∧n≤30∧b≠ [] then elemS (byteOf (tag+n)) [b] else []
theorem z5e(tag n:Int)(b:List UInt8)(ht:0≤tag∧tag≤1000):PC Tryz.prog 49 [rI tag,rI n,.isl .u8 b] (.isl .u8 (wrapS tag n b)):=by
 refine q0i rfl rfl ?_;refine rQ fi49 ?_;refine ⟨fun h1=>⟨fun h2=>⟨fun h3=> ?_,fun h3=> ?_⟩,fun h2=> ?_⟩,fun h1=> ?_⟩
 · unfold wrapS;rw [if_neg (fun h=>h.2.2 (Bz.1 (by omega)))]
 · refine q0q 0 ?_;with_reducible refine sxE ?_
   refine q0a (q2K (byteOf (tag+n)) _ ?_ _ (by simp)) ?_
   · rw [wrapi (by omega)];exact (q1s _).symm
   refine gQ ?_;unfold wrapS;rw [if_pos ⟨by omega,by omega,fun e=>h3 (by rw [e];rfl)⟩]
 · unfold wrapS;rw [if_neg (by omega)]
 unfold wrapS;rw [if_neg (by omega)]
theorem q4y(n:Int)(b:List UInt8):PC Tryz.prog 25 [rI n,.isl .u8 b] (.isl .u8 (wrapS 160 n b)):=by
 refine q0i rfl rfl ?_;refine rQ fi25 ?_;refine cQ (z5e 160 n b (by omega)) ?_;trivial
def fullAt(l:List (List UInt8))(j:Nat):Bool:=decide (l.getD j (Ty.slice .u8).dflt≠ [])
def wholeS(l:List (List UInt8)):List UInt8:=if allN l.length (fullAt l) then elemS 48 l else []
theorem j2D(l:List (List UInt8))(hl:l.length≤1125899906842624):PC Tryz.prog 124 [.isl (.slice .u8) l] (.isl .u8 (wholeS l)):=by
 refine q0i rfl rfl ?_;refine rQ fi124 ?_;refine q4m (fun i=>[(7,.raw (.int .i64 ((i:Nat):Int)))]) (l.length) (fun j=>(fullAt l) j=true) (by first|decide|simp) (fun i=>rfl) ?_ fun i hi hall=> ?_
 · (with_reducible refine sxE ?_<;>try exact True.intro)
   all_goals (try rfl)
 have hwr:=wsx i (by omega)
 refine gQ ?_;have bad:i< (l.length)→(fullAt l) i=false→allN (l.length) (fullAt l)=false:=fun hlt hv=>q1Q hlt hv;have fin:¬i< (l.length)→allN (l.length) (fullAt l)=true:=fun h=>q2p fun j hj=>hall j (by omega)
 try dsimp only at bad fin hall
 refine ⟨fun hlt=>⟨⟨by omega,hlt⟩,fun h0=> ?_,fun h0=> ?_⟩,fun hge=>q0a (q7M l hl) ?_⟩
 · have:fullAt l i=false:=by simp only [fullAt,decide_eq_false_iff_not,ne_eq,Classical.not_not];exact Bz.1 (by omega)
   unfold wholeS;rw [bad hlt this];rfl
 · refine ⟨hlt,q0O hall ?_,⟨_,rfl⟩,?_⟩
   · simp only [fullAt,decide_eq_true_eq];exact fun e=>h0 (by rw [e];rfl)
   with_reducible refine sx1 hwr ?_;trivial
 refine gQ ?_;unfold wholeS;rw [fin hge];rfl
def tagN(l:List (List UInt8))(i:Nat):List (List UInt8):=(List.range i).map fun (j:Nat)=>wrapS 160 j (l.getD j (Ty.slice .u8).dflt)
theorem z5l(l:List (List UInt8))(i:Nat):tagN l (i+1)=tagN l i++ [wrapS 160 i (l.getD i (Ty.slice .u8).dflt)]:=by simp [tagN,BE]
def fieldsS(l:List (List UInt8)):List UInt8:=wholeS (tagN l l.length)
theorem z9C(l:List (List UInt8))(hl:l.length≤1048576):PC Tryz.prog 85 [.isl (.slice .u8) l] (.isl .u8 (fieldsS l)):=by
 refine q0i rfl rfl ?_;refine rQ fi85 ?_;refine q3j 3 (.slice .u8) (fun i=>tagN l i) (fun i=>[(8,rI i)]) l.length (fun _=>True) rfl (by simp) (by simp [tagN]) rfl (fun i=>rfl) ?_ fun i hi _=> ?_
 · with_reducible refine sxE ?_;trivial
 have hwr:=wsx i (by omega)
 have hln:(tagN l i).length=i:=by simp [tagN]
 have hst:=z5l l i;refine gQ ?_;refine ⟨fun hlt=>⟨⟨by omega,hlt⟩,q0a (q4y _ _) ?_⟩,fun hge=> ?_⟩
 · refine gQ ?_;refine ⟨⟨by omega,by omega⟩,q1M [_,_] [] hlt trivial (by rw [hst];rfl) ?_⟩
   with_reducible refine sx3 hwr hst ?_;trivial
 obtain rfl:i=l.length:=by omega
 refine q0q 0 ?_;with_reducible refine sxE ?_
 refine ⟨by omega,?_⟩
 rw [Ab (by omega)]
 refine ⟨Ag _,q0a (j2D (tagN l l.length) (by omega)) ?_⟩
 refine gQ ?_;rfl
def keyS(k:Key):List UInt8:=fieldsS [intS k.1,intS k.2.1,elemS 4 [k.2.2]]
theorem z9L(p v:Int)(b:List UInt8):PC Tryz.prog 45 [rI p,rI v,.isl .u8 b] (.isl .u8 (keyS (p,v,b))):=by
 refine q0i rfl rfl ?_;refine rQ fi45 ?_;refine cQ (q3i p) ?_;refine cQ (q3i v) ?_;refine cQ (z8y b) ?_;refine q0q 0 ?_;with_reducible refine sxE ?_
 refine cQ (z9C _ (by simp)) ?_
 rfl
abbrev PreT:Ty:=.prod I64 (.slice .u8)
abbrev Pre:=PreT.den
end Go.Proofs.YtikapabgggphpaaGreatDoor
