/- SHA-256: contract: the reference's block. -/
import Derived.Test.YtmapiojgmbgbgaaGreatDoorQ24
set_option linter.all false
namespace Go.Proofs.YtmapiojgmbgbgaaGreatDoor
open Go Go.Sx Go.Proofs
set_option maxRecDepth 100000
set_option maxHeartbeats 40000000
theorem q3x{α:Type}{l:List α}{i:Nat}{x d:α}(h:i<l.length):(l.set i x).getD i d=x:=by
 rw [Ad,Aw h];rfl
theorem fdivW(x:Int)(n:Nat)(hn:0<n):x.fdiv (n:Int)=x / (n:Int):=AV _ (by omega)
theorem sg0K{x:Int}(h:inW x):xorK .i64 (xorK .i64 (rotW 7 x) (rotW 18 x)) (x.fdiv (2^ min 3 64))=sg0 x:=by
 have e:x.fdiv (2^ min 3 64)=x / 8:=fdivW x 8 (by decide)
 have h1:=q0L (n:=7) (by decide) (by decide) h
 have h2:=q0L (n:=18) (by decide) (by decide) h
 rw [e,xor64 h1 h2,xor64 (q1d h1 h2) (by unfold inW at*;omega)]
 rfl
theorem sg1K{x:Int}(h:inW x):xorK .i64 (xorK .i64 (rotW 17 x) (rotW 19 x)) (x.fdiv (2^ min 10 64))=sg1 x:=by
 have e:x.fdiv (2^ min 10 64)=x / 1024:=fdivW x 1024 (by decide)
 have h1:=q0L (n:=17) (by decide) (by decide) h
 have h2:=q0L (n:=19) (by decide) (by decide) h
 rw [e,xor64 h1 h2,xor64 (q1d h1 h2) (by unfold inW at*;omega)]
 rfl
theorem schK{x y u v:Int}(hx:inW x)(hy:inW y)(hu:inW u)(hv:inW v):(IntKind.i64.wrap (IntKind.i64.wrap (IntKind.i64.wrap (xorK .i64 (xorK .i64 (rotW 17 y) (rotW 19 y)) (y.fdiv (2^ min 10 64))+u)+xorK .i64 (xorK .i64 (rotW 7 x) (rotW 18 x)) (x.fdiv (2^ min 3 64)))+v)).tmod 4294967296=(sg1 y+u+sg0 x+v)%W32:=by
 have h1:=j5r hx;have h2:=j6d hy;rw [sg0K hx,sg1K hy];unfold inW at*;rw [wrapi (n:=sg1 y+u) (by omega),wrapi (n:=sg1 y+u+sg0 x) (by omega),wrapi (n:=sg1 y+u+sg0 x+v) (by omega),AW (by omega)]
theorem bs1K{x:Int}(h:inW x):xorK .i64 (xorK .i64 (rotW 6 x) (rotW 11 x)) (rotW 25 x)=bs1 x:=by
 have h1:=q0L (n:=6) (by decide) (by decide) h
 have h2:=q0L (n:=11) (by decide) (by decide) h
 have h3:=q0L (n:=25) (by decide) (by decide) h
 rw [xor64 h1 h2,xor64 (q1d h1 h2) h3];rfl
theorem bs0K{x:Int}(h:inW x):xorK .i64 (xorK .i64 (rotW 2 x) (rotW 13 x)) (rotW 22 x)=bs0 x:=by
 have h1:=q0L (n:=2) (by decide) (by decide) h
 have h2:=q0L (n:=13) (by decide) (by decide) h
 have h3:=q0L (n:=22) (by decide) (by decide) h
 rw [xor64 h1 h2,xor64 (q1d h1 h2) h3];rfl
theorem j6w{k w:Int}{v:List Int}(hv:inWs v)(hk:inW k)(hw:inW w):0≤t1S k w v∧t1S k w v<5*W32:=by
 have h1:=j2B (q0c hv 4 (by decide))
 have h2:=j1U (q0c hv 4 (by decide)) (q0c hv 5 (by decide)) (q0c hv 6 (by decide))
 have h3:=q0c hv 7 (by decide)
 unfold t1S inW W32 at*;omega
theorem j5A{v:List Int}(hv:inWs v):0≤t2S v∧t2S v<2*W32:=by
 have h1:=j1Y (q0c hv 0 (by decide))
 have h2:=z6V (q0c hv 0 (by decide)) (q0c hv 1 (by decide)) (q0c hv 2 (by decide))
 unfold t2S inW W32 at*;omega
theorem t1K{k w:Int}{v:List Int}(hv:inWs v)(hk:inW k)(hw:inW w):IntKind.i64.wrap (IntKind.i64.wrap (IntKind.i64.wrap (IntKind.i64.wrap (v.getD 7 0+xorK .i64 (xorK .i64 (rotW 6 (v.getD 4 0)) (rotW 11 (v.getD 4 0))) (rotW 25 (v.getD 4 0)))+chW (v.getD 4 0) (v.getD 5 0) (v.getD 6 0))+k)+w)=t1S k w v:=by
 have h1:=j2B (q0c hv 4 (by decide))
 have h2:=j1U (q0c hv 4 (by decide)) (q0c hv 5 (by decide)) (q0c hv 6 (by decide))
 have h3:=q0c hv 7 (by decide)
 rw [bs1K (q0c hv 4 (by decide))]
 unfold t1S;generalize bs1 (v.getD 4 0)=x at*;generalize chW (v.getD 4 0) (v.getD 5 0) (v.getD 6 0)=y at*;unfold inW at*;rw [wrapi (n:=v.getD 7 0+x) (by omega),wrapi (n:=v.getD 7 0+x+y) (by omega),wrapi (n:=v.getD 7 0+x+y+k) (by omega),wrapi (by omega)]
theorem t2K{v:List Int}(hv:inWs v):IntKind.i64.wrap (xorK .i64 (xorK .i64 (rotW 2 (v.getD 0 0)) (rotW 13 (v.getD 0 0))) (rotW 22 (v.getD 0 0))+majW (v.getD 0 0) (v.getD 1 0) (v.getD 2 0))=t2S v:=by
 have h1:=j1Y (q0c hv 0 (by decide))
 have h2:=z6V (q0c hv 0 (by decide)) (q0c hv 1 (by decide)) (q0c hv 2 (by decide))
 rw [bs0K (q0c hv 0 (by decide))]
 unfold t2S;unfold inW at*;rw [wrapi (by omega)]
theorem modK{x:Int}(h0:0≤x)(h1:x<100*W32):(IntKind.i64.wrap x).tmod 4294967296=x%W32:=by
 unfold W32 at*;rw [wrapi (by omega),AW h0]
theorem q4y(b:List UInt8)(h:List Int)(n:Nat):(blkP b h n).length=8:=by simp [blkP]
theorem q4u(b:List UInt8)(h:List Int){i:Nat}(hi:i<8):(blkP b h i).getD i 0=h.getD i 0:=by
 simp [blkP,Ad,hi]
theorem q4E(b:List UInt8)(h:List Int){i:Nat}(hi:i<8):(blkP b h i).set i ((h.getD i 0+ (rnds b h 64).getD i 0)%W32)=blkP b h (i+1):=by
 apply AO
 · simp [blkP]
 intro j h1 h2;rw [BC];simp only [blkP,A4,AZ];split
 · subst_vars;rw [if_pos (by omega)]
 rename_i hne;by_cases hj:j<i
 · rw [if_pos hj,if_pos (by omega)]
 rw [if_neg hj,if_neg (by omega)]
theorem q3g(b:List UInt8){h:List Int}(hl:h.length=8):blkP b h 0=h:=by
 apply AO
 · simp [blkP,hl]
 intro j h1 h2;simp only [blkP,A4,AZ];rw [if_neg (BK _),Ad,Ae h2];rfl
theorem q4n(b:List UInt8)(h:List Int):blkP b h 8=blkS b h:=by
 apply AO
 · simp [blkP,blkS]
 intro j h1 h2;simp [blkP] at h1;simp only [blkP,blkS,A4,AZ];rw [if_pos h1]
theorem j1M(b:List UInt8)(h:List Int)(hb:b.length=64)(hh:inWs h):PC Tryz.prog 234 [.dat (.arr 8 (.int .i64)) h,.isl .u8 b] (.dat (.arr 8 (.int .i64)) (blkS b h)):=by
 refine q0p rfl rfl ?_;refine rQ fi234 ?_;refine q0i (ι:=Nat) (fun t=>[(6,rI t)]) (fun t=>[.row (.int .i64) h,.row (.int .i64) (List.replicate 8 0),.row (.int .i64) (wL b t)]) (fun t=>16-t) (fun t=>t≤16) 0 (Ak _) (by rw [q5Y];rfl) ?_ ?_
 · with_reducible refine sxE ?_;trivial
 intro t ht;have hwr:=wsx t (by omega)
 have hwl:=q3P b t;by_cases hlt:t<16
 · refine gQ ?_;refine ⟨fun _=> ?_,fun h=>absurd hlt (by omega)⟩
   refine q0i (ι:=Nat) (fun i=>[(7,rI i)]) (fun i=>[.row (.int .i64) h,.row (.int .i64) (List.replicate 8 0),.row (.int .i64) ((wL b t).set t (wdP b t i))]) (fun i=>4-i) (fun i=>i≤4) 0 (Ak _) ?_ ?_ ?_
   · rw [show wdP b t 0=0 from rfl,j3A b (by omega)];rfl
   · with_reducible refine sxE ?_;trivial
   intro i hi;have hget:((wL b t).set t (wdP b t i)).getD t 0=wdP b t i:=q3x (by omega)
   have w1:IntKind.i64.wrap (4* (t:Int))=((4*t:Nat):Int):=by rw [wrapi (by omega)];omega
   have hwi:=wsx i (by omega)
   have hls:((wL b t).set t (wdP b t i)).length=64:=by rw [Bq];exact hwl
   by_cases h4:i<4
   · have w2:IntKind.i64.wrap (((4*t:Nat):Int)+ (i:Int))=((4*t+i:Nat):Int):=by rw [wrapi (by omega)];omega
     have hp:=(z7T b t i hi).1;have hby:=j2j b (4*t+i);have w3:IntKind.i64.wrap (256*wdP b t i)=256*wdP b t i:=by rw [wrapi (by omega)]
     refine gy8 w1 w2 hget hls Ab Ab Ab Ab ?_;refine ⟨fun _=>⟨⟨by omega,by omega⟩,by omega,⟨by omega,by omega⟩,⟨by omega,by omega⟩,by omega,i+1,h4,by dsimp only;omega,?_,?_⟩,fun h=>absurd h4 (by omega)⟩
     · have e:IntKind.i64.wrap (IntKind.i64.wrap (256*wdP b t i)+IntKind.i64.wrap (byI b (4*t+i)))=wdP b t (i+1):=by
        rw [w3,wrapi (n:=byI b (4*t+i)) (by omega),wrapi (by omega)];rfl
       have hg2:((wL b t).set t (wdP b t i)).getD t (Ty.dflt (.int .i64))=wdP b t i:=hget;rw [hg2,CY];show _= [_,_,SObj.row (.int .i64) ((wL b t).set t (wdP b t (i+1)))];rw [←e];rfl
     with_reducible refine sx1 hwi ?_;trivial
   refine gy2 hls Ab ?_;obtain rfl:i=4:=by omega
   refine ⟨fun h=>absurd h (by omega),fun _=>⟨t+1,by show t+1≤16;omega,by dsimp only;omega,?_,?_⟩⟩
   · rw [←z2t hlt,q3Q b (by omega)]
   with_reducible refine sx1 hwr ?_;trivial
 obtain rfl:t=16:=by omega
 refine gQ ?_;refine ⟨fun h=>absurd h (by omega),fun _=> ?_⟩
 refine q0i (ι:=Nat) (fun t=>[(8,rI t)]) (fun t=>[.row (.int .i64) h,.row (.int .i64) (List.replicate 8 0),.row (.int .i64) (wL b t)]) (fun t=>64-t) (fun t=>16≤t∧t≤64) 16 (by decide) rfl ?_ ?_
 · with_reducible refine sxE ?_
   rfl
 intro t ht;have hwl:=q3P b t;have hwr:=wsx t (by omega)
 by_cases hlt:t<64
 · have e15:IntKind.i64.wrap ((t:Int) -15)=((t-15:Nat):Int):=by rw [wrapi (by omega)];omega
   have e2:IntKind.i64.wrap ((t:Int) -2)=((t-2:Nat):Int):=by rw [wrapi (by omega)];omega
   have e7:IntKind.i64.wrap ((t:Int) -7)=((t-7:Nat):Int):=by rw [wrapi (by omega)];omega
   have e16:IntKind.i64.wrap ((t:Int) -16)=((t-16:Nat):Int):=by rw [wrapi (by omega)];omega
   have g15:=q1b b (t:=t) (j:=t-15) (by omega) (by omega)
   have g2:=q1b b (t:=t) (j:=t-2) (by omega) (by omega)
   have g7:=q1b b (t:=t) (j:=t-7) (by omega) (by omega)
   have g16:=q1b b (t:=t) (j:=t-16) (by omega) (by omega)
   refine gyd10 e15 e2 e7 e16 g15 g2 g7 g16 hwl Ab ?_;have i15:=q2w b (t-15);have i2:=q2w b (t-2);have i7:=q2w b (t-7);have i16:=q2w b (t-16);refine ⟨fun _=>⟨⟨by omega,by omega⟩,by omega,⟨by omega,by omega⟩,by omega,q0a (q2Y _ 7 (by decide) (by decide) i15) ?_⟩,fun h=>absurd hlt (by omega)⟩
   refine gQ ?_;refine cQ (q2Y _ 18 (by decide) (by decide) i15) ?_
   refine cQ (q2Y _ 17 (by decide) (by decide) i2) ?_
   refine q0a (q2Y _ 19 (by decide) (by decide) i2) ?_
   refine gyd10 e15 e2 e7 e16 g15 g2 g7 g16 hwl Ab ?_;refine ⟨⟨by omega,by omega⟩,by omega,⟨by omega,by omega⟩,by omega,by decide,⟨by omega,by omega⟩,by omega,t+1,⟨by omega,hlt⟩,by dsimp only;omega,?_,?_⟩
   · rw [schK i15 i2 i7 i16,←z2G (by omega),q3Q b hlt]
   with_reducible refine sx1 hwr ?_;trivial
 obtain rfl:t=64:=by omega
 refine gQ ?_;refine ⟨fun h=>absurd h (by omega),fun _=>⟨by omega,?_⟩⟩
 refine q0i (ι:=Nat) (fun t=>[(14,rI t)]) (fun t=>[.row (.int .i64) h,.row (.int .i64) (List.replicate 8 0),.row (.int .i64) (wL b 64),.row (.int .i64) (rnds b h t)]) (fun t=>64-t) (fun t=>t≤64) 0 (Ak _) ?_ ?_ ?_
 · have e:List.take 8 h=h:=Aa (by omega)
   rw [e,hh.1];simp;rfl
 · with_reducible refine sxE ?_;trivial
 intro t ht;have hwr:=wsx t (by omega)
 by_cases hlt:t<64
 · have hv:=q1r (b:=b) hh t;have hl:=hv.1;generalize hvv:rnds b h t=v at*;have i0:=q0c hv 0 (by decide)
   have i1:=q0c hv 1 (by decide)
   have i2:=q0c hv 2 (by decide)
   have i3:=q0c hv 3 (by decide)
   have i4:=q0c hv 4 (by decide)
   have i5:=q0c hv 5 (by decide)
   have i6:=q0c hv 6 (by decide)
   have i7:=q0c hv 7 (by decide)
   refine gyd3 hl Ab Ab ?_;refine ⟨fun _=> ?_,fun h=>absurd hlt (by omega)⟩
   refine cR (q2Y _ 6 (by decide) (by decide) i4) ?_
   refine cR (q2Y _ 11 (by decide) (by decide) i4) ?_
   refine q0d (q2Y _ 25 (by decide) (by decide) i4) ?_
   refine gyd3 hl Ab Ab ?_;refine cR (q2Y _ 2 (by decide) (by decide) i0) ?_
   refine cR (q2Y _ 13 (by decide) (by decide) i0) ?_
   refine q0d (q2Y _ 22 (by decide) (by decide) i0) ?_
   refine gyd3 hl Ab Ab ?_;refine z9G (t:=.slice (.int .i64)) (x:=dat_ref04_constants) (by unfold datList;repeat (first|exact .head _|apply List.Mem.tail)) rfl (.inl rfl) ?_
   refine gyd3 hl Ab Ab ?_;have hkl:dat_ref04_constants.length=64:=rfl;refine ⟨⟨by omega,by omega⟩,⟨by omega,by omega⟩,by omega,q0d (j5P _ _ _ i4 i5 i6) ?_⟩
   refine gyd3 hl Ab Ab ?_;refine cyd3 (j5D _ _ _ i0 i1 i2) hl Ab Ab ?_;refine ⟨by decide,by decide,t+1,hlt,by dsimp only;omega,?_,?_⟩
   · have hk:=j6M t hlt;have hw:=q2w b t;have hd:List.drop 8 v= []:=AN (by omega)
     have u1:=j6w hv hk hw;have u2:=j5A hv;dsimp only;rw [show rnds b h (t+1)=rnd (kS t) (wS b t) (rnds b h t) from rfl,hvv,q1b b hlt hlt,show dat_ref04_constants.getD t 0=kS t from rfl,t1K hv hk hw,t2K hv,hd,modK (by omega) (by unfold W32 at*;omega),modK (by omega) (by unfold W32 at*;omega)]
     rfl
   with_reducible refine sx1 hwr ?_;trivial
 obtain rfl:t=64:=by omega
 refine gQ ?_;refine ⟨fun h=>absurd h (by omega),fun _=> ?_⟩
 refine q0i (ι:=Nat) (fun i=>[(19,rI i)]) (fun i=>[.row (.int .i64) (blkP b h i),.row (.int .i64) (List.replicate 8 0),.row (.int .i64) (wL b 64),.row (.int .i64) (rnds b h 64)]) (fun t=>8-t) (fun t=>t≤8) 0 (Ak _) ?_ ?_ ?_
 · rw [q3g b hh.1];rfl
 · with_reducible refine sxE ?_;trivial
 intro i hi;have hwr:=wsx i (by omega)
 have hv:=q1r (b:=b) hh 64;have hl:=hv.1;have hbl:=q4y b h i;by_cases hlt:i<8
 · have hbg:=q4u b h hlt;refine gyd3 hl hbl Ab ?_;have hx:=q0c hh i hlt;have hy:=q0c hv i hlt;refine ⟨fun _=>⟨⟨by omega,by omega⟩,by omega,⟨by omega,by omega⟩,by omega,by decide,⟨by omega,by omega⟩,by omega,i+1,hlt,by dsimp only;omega,?_,?_⟩,fun h=>absurd hlt (by omega)⟩
   · dsimp only;rw [hbg,modK (by unfold inW at*;omega) (by unfold inW W32 at*;omega),q4E b h hlt]
   with_reducible refine sx1 hwr ?_;trivial
 obtain rfl:i=8:=by omega
 refine gyd3 hl hbl Ab ?_;refine ⟨fun h=>absurd h (by omega),fun _=> ?_⟩
 have e:List.take 8 (blkP b h 8)++List.drop (List.take 8 (blkP b h 8)).length [(0:Int),0,0,0,0,0,0,0]=blkS b h:=by
  rw [Aa (by omega),hbl,q4n]
  simp
 have el:(blkS b h).length=8:=by simp [blkS]
 rw [e,if_pos el];exact ⟨_,rfl,rfl⟩
theorem u8wrapR(x:Int):IntKind.u8.wrap x=x%256:=by simp [IntKind.wrap,IntKind.bits,IntKind.signed]
theorem q1G(x:Int):((UInt8.ofNat (IntKind.u8.wrap x).toNat).toNat:Int)=IntKind.u8.wrap x:=by
 have:=u8wrapR x;rw [BY];omega
def padZ(b:List UInt8)(k:Nat):List UInt8:=b++ [128]++List.replicate k 0
def padN(n:Nat):Nat:=(119-n%64)%64
theorem q7f(b:List UInt8)(k:Nat):(padZ b k).length=b.length+1+k:=by simp [padZ];omega
theorem z7p(b:List UInt8)(k:Nat):padZ b k++ [0]=padZ b (k+1):=by
 unfold padZ;rw [List.append_assoc,←BT]
def lnB8(n:Nat)(j:Nat):List UInt8:=(List.range j).map fun i=>UInt8.ofNat (n / 2^ (8* (7-i))%256)
theorem z6A(n j:Nat):lnB8 n j++ [UInt8.ofNat (n / 2^ (8* (7-j))%256)]=lnB8 n (j+1):=by
 unfold lnB8;rw [CG,CF];rfl
theorem q6Z(n j:Nat):(lnB8 n j).length=j:=by simp [lnB8]
def padS(b:List UInt8):List UInt8:=padZ b (padN b.length)++lnB8 (8*b.length) 8
theorem byteK(n i:Nat)(hi:i≤7):UInt8.ofNat (IntKind.u8.wrap (((n:Int).fdiv (2^ min (8*i) 64)).tmod 256)).toNat=UInt8.ofNat (n / 2^ (8*i)%256):=by
 have e:((n:Int).fdiv (2^ (8*i)))=((n / 2^ (8*i):Nat):Int):=by
  rw [AV _ (by exact_mod_cast Ak (2^ (8*i)))]
  simp
 rw [A5 (by omega),e]
 generalize n / 2^ (8*i)=m;rw [AW (by omega),u8wrapR]
 congr 1;omega
theorem j0F(b:List UInt8)(hb:b.length≤70368744177664):PC Tryz.prog 233 [.isl .u8 b] (.isl .u8 (padS b)):=by
 refine q0f rfl rfl ?_;refine rQ fi233 ?_;refine ⟨⟨by omega,by omega⟩,rfl,⟨by omega,by omega,by omega⟩,?_⟩
 refine q0i (ι:=Nat×List SObj) (fun x=>[(3,.bld x.2.length .u8 (padZ b x.1).length)]) (fun x=>x.2++ [.row .u8 (padZ b x.1)]) (fun x=>padN b.length-x.1) (fun x=>x.1≤padN b.length) (0,[.dead,.dead,.row .u8 [128]]) (Ak _) (by simp [padZ]) ?_ ?_
 · with_reducible refine sxE ?_
   simp [padZ]
 rintro ⟨k,G⟩ hk;dsimp only at hk;have hl:(padZ b k).length=b.length+ (1+k):=by rw [q7f];omega
 have hn:padN b.length≤63:=by unfold padN;omega
 have hd:padN b.length=(119-b.length%64)%64:=rfl;have hm:((b.length+ (1+k):Nat):Int).tmod 64=(((b.length+ (1+k))%64:Nat):Int):=by
  rw [AW (by omega)];rfl
 have htk:List.take (b.length+ (1+k)) (padZ b k)=padZ b k:=Aa (by omega)
 refine uQ 600 _ ?_;simp (maxSteps:=3000000) only [hl,hm,htk,List.append_assoc,getA,getA0,setA,setA0,Ac,Nat.add_assoc,go_sem,↓zA,↓reduceIte,↓reduceDIte] <;>try simp only [zB]
 refine ⟨by decide,fun hne=>⟨rfl,⟨by omega,by omega⟩,(k+1,G++ [.dead,.row .u8 [0]]),by dsimp only;omega,by dsimp only;omega,?_,?_⟩,fun he=> ?_⟩
 · dsimp only;rw [←z7p,List.append_assoc];rfl
 · with_reducible refine sxaE ?_
   exact congrArg (SV.bld (G.length+2) .u8) (by rw [q7f];omega)
 obtain rfl:k=padN b.length:=by omega
 have w8:IntKind.i64.wrap (8* (b.length:Int))=((8*b.length:Nat):Int):=by rw [wrapi (by omega)];omega
 rw [w8];refine q0i (ι:=Nat×List SObj) (fun x=>[(3,.bld x.2.length .u8 (padZ b (padN b.length)++lnB8 (8*b.length) x.1).length),(5,.raw (.int .i64 (7- (x.1:Int))))]) (fun x=>x.2++ [.row .u8 (padZ b (padN b.length)++lnB8 (8*b.length) x.1)]) (fun x=>8-x.1) (fun x=>x.1≤8) (0,G) (Ak _) (by simp [lnB8]) ?_ ?_
 · with_reducible refine sxE ?_
   simp [lnB8,hl]
 clear hm htk hk;rintro ⟨j,G⟩ hj;dsimp only at hj;have hl2:(padZ b (padN b.length)++lnB8 (8*b.length) j).length=b.length+ (1+ (padN b.length+j)):=by rw [Ac,hl,q6Z];omega
 have htk:List.take (b.length+ (1+ (padN b.length+j))) (padZ b (padN b.length)++lnB8 (8*b.length) j)=padZ b (padN b.length)++lnB8 (8*b.length) j:=Aa (by omega)
 generalize hZ:padZ b (padN b.length)++lnB8 (8*b.length) j=Z at*;by_cases h8:j<8
 · have w7:IntKind.i64.wrap (8* (7- (j:Int)))=((8* (7-j):Nat):Int):=by rw [wrapi (by omega)];omega
   have w6:IntKind.i64.wrap (7- (j:Int) -1)=7- ((j+1:Nat):Int):=by rw [wrapi (by omega)];omega
   refine uQ 600 _ ?_;simp (maxSteps:=3000000) only [hl2,htk,w7,w6,List.append_assoc,getA,getA0,setA,setA0,Ac,Nat.add_assoc,go_sem,↓zA,↓reduceIte,↓reduceDIte] <;>try simp only [zB]
   refine ⟨fun _=>⟨by omega,by decide,q1G _,⟨by omega,by omega⟩,(j+1,G++ [.dead,.row .u8 [UInt8.ofNat (8*b.length / 2^ (8* (7-j))%256)]]),by dsimp only;omega,by dsimp only;omega,?_,?_⟩,fun h=>absurd h (by omega)⟩
   · dsimp only;rw [byteK _ _ (by omega),←hZ,←z6A,List.append_assoc,List.append_assoc]
     rfl
   simp (maxSteps:=3000000) only [hl,q6Z,List.append_assoc,getA,getA0,setA,setA0,Ac,Nat.add_assoc,go_sem,↓zA,↓reduceIte,↓reduceDIte] <;>try simp only [zB]
 obtain rfl:j=8:=by omega
 refine gya2 hl2 htk ?_;refine ⟨fun h=>absurd h (by omega),fun _=> ?_⟩
 exact ⟨⟨by omega,by omega⟩,hZ.symm⟩
def hS0:List Int:=[0x6a09e667,0xbb67ae85,0x3c6ef372,0xa54ff53a,0x510e527f,0x9b05688c,0x1f83d9ab,0x5be0cd19]
def hashS(p:List UInt8):Nat→List Int
 |0=>hS0
 |k+1=>blkS ((p.take (64*k+64)).drop (64*k)) (hashS p k)
theorem q7o{b:List UInt8}{h:List Int}:inWs (blkS b h):=by
 refine ⟨by simp [blkS],fun x hx=> ?_⟩
 obtain ⟨i,_,rfl⟩:=Bl.1 hx;unfold inW W32;omega
theorem q5r:inWs hS0:=by decide
theorem j1x(p:List UInt8):∀k,inWs (hashS p k)
 |0=>q5r
 |_+1=>q7o
def wordB(h:List Int)(i:Nat):UInt8:=UInt8.ofNat ((h.getD (i / 4) 0).toNat / 2^ (24-8* (i%4))%256)
def bytesP(h:List Int)(n:Nat):List UInt8:=(List.range 32).map fun i=>if i<n then wordB h i else 0
def bytesS(h:List Int):List UInt8:=(List.range 32).map (wordB h)
theorem q6j(h:List Int)(n:Nat):(bytesP h n).length=32:=by simp [bytesP]
theorem q0V(h:List Int):(bytesS h).length=32:=by simp [bytesS]
theorem q3n(h:List Int){i:Nat}(hi:i<32):(bytesP h i).set i (wordB h i)=bytesP h (i+1):=by
 apply AO
 · simp [bytesP]
 intro j h1 h2;rw [BC];simp only [bytesP,A4,AZ];split
 · subst_vars;rw [if_pos (by omega)]
 rename_i hne;by_cases hj:j<i
 · rw [if_pos hj,if_pos (by omega)]
 rw [if_neg hj,if_neg (by omega)]
theorem q9d(h:List Int):bytesP h 32=bytesS h:=by
 apply AO
 · simp [bytesP,bytesS]
 intro j h1 h2;simp [bytesP] at h1;simp only [bytesP,bytesS,A4,AZ];rw [if_pos h1]
def blksN(b:List UInt8):Nat:=(b.length+72) / 64
theorem j0Q(b:List UInt8):(padS b).length=64*blksN b:=by
 unfold padS blksN;rw [Ac,q7f,q6Z];unfold padN;omega
def shaS(b:List UInt8):List UInt8:=bytesS (hashS (padS b) (blksN b))
theorem byteM(x:Int)(m:Nat)(h0:0≤x)(hm:m≤64):UInt8.ofNat (IntKind.u8.wrap ((x.fdiv (2^ min m 64)).tmod 256)).toNat=UInt8.ofNat (x.toNat / 2^ m%256):=by
 obtain ⟨n,rfl⟩:∃n:Nat,x=n:=⟨x.toNat,by omega⟩
 have e:((n:Int).fdiv (2^ m))=((n / 2^ m:Nat):Int):=by
  rw [AV _ (by exact_mod_cast Ak (2^ m))]
  simp
 rw [A5 hm,e,Bf];generalize n / 2^ m=m;rw [AW (by omega),u8wrapR]
 congr 1;omega
theorem z8X(b:List UInt8)(hb:b.length≤70368744177664):PC Tryz.prog 204 [.isl .u8 b] (.dat (.arr 32 .u8) (shaS b)):=by
 refine q0p rfl rfl ?_;refine q3E fi204 (q0z mixed 600 _ ?_);simp (maxSteps:=3000000) only [ir204,Ty.dflt,go_sem,↓zA,↓reduceIte,↓reduceDIte] <;>try simp only [zB]
 refine cQ (j0F b hb) ?_;have hpl:=j0Q b;have hpb:blksN b≤1125899906842624:=by unfold blksN;omega
 generalize hp:padS b=p at*;generalize hN:blksN b=N at*;refine q0i (ι:=Nat) (fun k=>[(5,.raw (.int .i64 ((64*k:Nat):Int)))]) (fun k=>[.row .u8 (List.replicate 32 0),.row (.int .i64) (hashS p k)]) (fun k=>N-k) (fun k=>k≤N) 0 (Ak _) rfl ?_ ?_
 · with_reducible refine sxE ?_;trivial
 intro k hk;have hv:=j1x p k;have hl:=hv.1;have htk:List.take 8 (hashS p k)=hashS p k:=Aa (by omega)
 by_cases hlt:k<N
 · have w1:IntKind.i64.wrap (((64*k:Nat):Int)+64)=((64*k+64:Nat):Int):=by rw [wrapi (by omega)];omega
   refine gy4 hl w1 Ab htk ?_;have hbl:(List.drop (64*k) (List.take (64*k+64) p)).length=64:=by rw [Al,Av];omega
   refine ⟨fun _=>⟨⟨by omega,by omega,by omega⟩,q0d (j1M _ _ hbl hv) ?_⟩,fun h=>absurd h (by omega)⟩
   have hv2:inWs (blkS (List.drop (64*k) (List.take (64*k+64) p)) (hashS p k)):=q7o;have hl2:=hv2.1;have htk2:List.drop 8 (hashS p k)= []:=AN (by omega)
   refine gy8 hl hl2 w1 Ab htk htk2 htk2 htk2 ?_;refine ⟨k+1,hlt,by dsimp only;omega,?_,?_⟩
   · rfl
   with_reducible refine sxE ?_
   rfl
 obtain rfl:k=N:=by omega
 generalize hH:hashS p k=h at*;refine gy3 hl Ab htk ?_;refine ⟨fun h=>absurd h (by omega),fun _=> ?_⟩
 refine q0i (ι:=Nat) (fun i=>[(7,rI i)]) (fun i=>[.row .u8 (List.replicate 32 0),.row (.int .i64) h,.row .u8 (bytesP h i)]) (fun i=>32-i) (fun i=>i≤32) 0 (Ak _) rfl ?_ ?_
 · with_reducible refine sxE ?_;trivial
 intro i hi;have hwr:=wsx i (by omega)
 have hbl:=q6j h i;by_cases h32:i<32
 · have q1:(i:Int).tdiv 4=((i / 4:Nat):Int):=by rw [B7 (by omega)];rfl
   have q2:(i:Int).tmod 4=((i%4:Nat):Int):=by rw [AW (by omega)];rfl
   have q3:IntKind.i64.wrap (((i / 4:Nat):Int))=((i / 4:Nat):Int):=by rw [wrapi (by omega)]
   have q4:IntKind.i64.wrap (8* ((i%4:Nat):Int))=((8* (i%4):Nat):Int):=by rw [wrapi (by omega)];omega
   have q5:IntKind.i64.wrap (24- ((8* (i%4):Nat):Int))=((24-8* (i%4):Nat):Int):=by rw [wrapi (by omega)];omega
   refine gyd10 q1 q2 q3 q4 q5 hl hbl Ab Ab Ab ?_;have hx:=q0c hv (i / 4) (by omega)
   refine ⟨fun _=>⟨by decide,⟨by omega,by omega⟩,by omega,by decide,by omega,by decide,⟨by omega,by omega⟩,⟨by omega,q1G _⟩,i+1,h32,by dsimp only;omega,?_,?_⟩,fun h=>absurd h (by omega)⟩
   · dsimp only;rw [←q3n h h32,byteM _ _ hx.1 (by omega)]
     rfl
   with_reducible refine sx1 hwr ?_;trivial
 obtain rfl:i=32:=by omega
 refine gy3 hl hbl Ab ?_;refine ⟨fun h=>absurd h (by omega),fun _=> ?_⟩
 have e:List.take 32 (bytesP h 32)++List.drop (List.take 32 (bytesP h 32)).length (List.replicate 32 (0:UInt8))=shaS b:=by
  rw [Aa (by omega),hbl,q9d]
  unfold shaS;rw [hp,hN,hH];simp
 have el:(shaS b).length=32:=q0V _;have e':=e;simp only [List.replicate] at e';rw [e',if_pos el];exact ⟨_,rfl,rfl⟩
theorem xor8(a b:UInt8):xorK .u8 (a.toNat:Int) (b.toNat:Int)=((a^^^ b).toNat:Int):=by
 unfold xorK;have ha:=a.toNat_lt;have hb:=b.toNat_lt;have hx:a.toNat^^^ b.toNat<2^ 8:=Nat.xor_lt_two_pow ha hb;have e:(BitVec.ofInt IntKind.u8.bits (a.toNat:Int) ^^^ BitVec.ofInt IntKind.u8.bits (b.toNat:Int)).toNat=a.toNat^^^ b.toNat:=by
  rw [BitVec.toNat_xor,AK,AK,AX,AX];rw [show 2^ IntKind.u8.bits=256 from rfl,AI ha,AI hb]
 rw [e,u8wrapR,UInt8.toNat_xor];omega
def hkP(k:List UInt8)(c:UInt8)(n:Nat):List UInt8:=(List.range 64).map fun i=>if i<n then k.getD i 0^^^ c else 0
def hkC(k:List UInt8):List UInt8:=if 64<k.length then shaS k else k
def hkS(k:List UInt8)(c:UInt8):List UInt8:=hkP (hkC k) c 64
theorem q2Z(k:List UInt8)(c:UInt8)(n:Nat):(hkP k c n).length=64:=by simp [hkP]
theorem z8k(k:List UInt8)(c:UInt8){i:Nat}(hi:i<64):(hkP k c i).getD i 0=0:=by
 simp [hkP,Ad,hi]
theorem q7R(k:List UInt8)(c:UInt8){i:Nat}(hi:i<64):(hkP k c i).set i (k.getD i 0^^^ c)=hkP k c (i+1):=by
 apply AO
 · simp [hkP]
 intro j h1 h2;rw [BC];simp only [hkP,A4,AZ];split
 · subst_vars;rw [if_pos (by omega)]
 rename_i hne;by_cases hj:j<i
 · rw [if_pos hj,if_pos (by omega)]
 rw [if_neg hj,if_neg (by omega)]
theorem q9S(k:List UInt8)(c:UInt8):hkP k c 0=List.replicate 64 0:=by
 unfold hkP;rw [List.eq_replicate_iff];refine ⟨by rw [Be,BS],fun x hx=> ?_⟩
 obtain ⟨j,_,rfl⟩:=Bl.1 hx;exact if_neg (BK _)
theorem j2r(k:List UInt8)(c:UInt8)(hb:k.length≤70368744177664):VC Tryz.prog 205 [.isl .u8 k,.raw (.int .u8 c.toNat)] [] (RowK .u8 (hkS k c)):=by
 refine z3e ?_;refine rQ fi205 ?_;refine ⟨fun hlt=> ?_,fun hge=> ?_⟩
 · have hkc:hkC k=shaS k:=if_pos (by omega)
   have hkl:(shaS k).length=32:=q0V _;have htk:List.take 32 (shaS k)=shaS k:=Aa (by omega)
   have hdr:List.drop 32 (shaS k)= []:=AN (by omega)
   refine q0a (z8X k hb) ?_;refine gyd4 hkl htk hdr Ab ?_;refine ⟨⟨by omega,by omega⟩,?_⟩
   refine q0i (ι:=Nat) (fun i=>[(7,rI i)]) (fun i=>[.row .u8 (hkP (shaS k) c i),.row .u8 (shaS k)]) (fun i=>64-i) (fun i=>i≤64) 0 (Ak _) (by rw [q9S];first|done|rfl) ?_ ?_
   · with_reducible refine sxE ?_;trivial
   intro i hi;have hwr:=wsx i (by omega)
   have hpl:=q2Z (shaS k) c i;by_cases h64:i<64
   · have hg0:=z8k (shaS k) c h64;have hsl:((hkP (shaS k) c i).set i ((shaS k).getD i 0)).length=64:=by rw [Bq];exact hpl
     have hsg:((hkP (shaS k) c i).set i ((shaS k).getD i 0)).getD i 0=(shaS k).getD i 0:=q3x (by omega)
     refine uQ 600 _ ?_;simp (maxSteps:=3000000) only [hpl,hsl,hsg,hg0,hkl,xor8,BU,Bf,Ab,Ty.dflt,go_sem,↓zA,↓reduceIte,↓reduceDIte] <;>try simp only [zB]
     refine ⟨fun _=>⟨fun hk=> ?_,fun hk=> ?_⟩,fun h=>absurd h (by omega)⟩
     · repeat (with_reducible refine And.intro (by first|omega|exact And.intro (by omega) (by omega)) ?_)
       refine ⟨i+1,h64,by dsimp only;omega,?_,?_⟩
       · dsimp only;rw [CY,q7R (shaS k) c h64]
       with_reducible refine sx1 hwr ?_;trivial
     have hz:(shaS k).getD i 0=0:=by rw [Ad,AL (by omega)];rfl
     refine ⟨⟨by omega,by omega⟩,by omega,⟨by omega,by omega⟩,by omega,i+1,h64,by dsimp only;omega,?_,?_⟩
     · dsimp only;rw [←q7R (shaS k) c h64,hz]
     with_reducible refine sx1 hwr ?_;trivial
   obtain rfl:i=64:=by omega
   refine gy3 hpl hkl Ab ?_;refine ⟨fun h=>absurd h (by omega),fun _=> ?_⟩
   exact z0c (h:=0) (by unfold hkS;rw [hkc];rfl) (by unfold hkS;rw [q2Z])
 have hkc:hkC k=k:=if_neg (by omega)
 have hkl:k.length=k.length:=rfl;refine q0i (ι:=Nat) (fun i=>[(7,rI i)]) (fun i=>[.row .u8 (hkP k c i)]) (fun i=>64-i) (fun i=>i≤64) 0 (Ak _) (by rw [q9S];first|done|rfl) ?_ ?_
 · with_reducible refine sxE ?_;trivial
 intro i hi;have hwr:=wsx i (by omega)
 have hpl:=q2Z k c i;by_cases h64:i<64
 · have hg0:=z8k k c h64;have hsl:((hkP k c i).set i (k.getD i 0)).length=64:=by rw [Bq];exact hpl
   have hsg:((hkP k c i).set i (k.getD i 0)).getD i 0=k.getD i 0:=q3x (by omega)
   refine uQ 600 _ ?_;simp (maxSteps:=3000000) only [hpl,hsl,hsg,hg0,hkl,xor8,BU,Bf,Ab,Ty.dflt,go_sem,↓zA,↓reduceIte,↓reduceDIte] <;>try simp only [zB]
   refine ⟨fun _=>⟨fun hk=> ?_,fun hk=> ?_⟩,fun h=>absurd h (by omega)⟩
   · repeat (with_reducible refine And.intro (by first|omega|exact And.intro (by omega) (by omega)) ?_)
     refine ⟨i+1,h64,by dsimp only;omega,?_,?_⟩
     · dsimp only;rw [CY,q7R k c h64]
     with_reducible refine sx1 hwr ?_;trivial
   have hz:k.getD i 0=0:=by rw [Ad,AL (by omega)];rfl
   refine ⟨⟨by omega,by omega⟩,by omega,⟨by omega,by omega⟩,by omega,i+1,h64,by dsimp only;omega,?_,?_⟩
   · dsimp only;rw [←q7R k c h64,hz]
   with_reducible refine sx1 hwr ?_;trivial
 obtain rfl:i=64:=by omega
 refine gy3 hpl hkl Ab ?_;refine ⟨fun h=>absurd h (by omega),fun _=> ?_⟩
 exact z0c (h:=0) (by unfold hkS;rw [hkc];rfl) (by unfold hkS;rw [q2Z])
theorem rotS:∀n:Nat,n<32→1≤n→andK .u64 (IntKind.u64.wrap (-(n:Int))) 31=((32-n:Nat):Int):=by decide
theorem rotU:∀n:Nat,n<32→1≤n→IntKind.u64.wrap (32- ((32-n:Nat):Int))=(n:Int):=by decide
theorem j4Y(m n:Nat)(h1:1≤n)(h2:n≤31)(hm:m<4294967296):((BitVec.ofInt 32 (IntKind.u32.wrap ((m:Int)*2^ (32-n))) |||BitVec.ofInt 32 ((m:Int).fdiv (2^ n))).toNat:Int)=rotW n m:=by
 have e1:IntKind.u32.wrap ((m:Int)*2^ (32-n))=((m*2^ (32-n)%4294967296:Nat):Int):=by
  have h:∀y:Int,IntKind.u32.wrap y=y%4294967296:=fun y=>rfl;rw [h];simp
 have e2:((m:Int).fdiv (2^ n))=((m / 2^ n:Nat):Int):=by
  rw [AV _ (by exact_mod_cast Ak (2^ n))];simp
 have h4:m*2^ (32-n)%4294967296=2^ (32-n)* (m%2^ n):=by
  have:(4294967296:Nat)=2^ n*2^ (32-n):=by rw [←CU,show n+ (32-n)=32 by omega]
  rw [this,Nat.mul_mod_mul_right,Ct]
 have hm':m<2^ n*2^ (32-n):=by rw [←CU,show n+ (32-n)=32 by omega];omega
 have h3:m / 2^ n<2^ (32-n):=Nat.div_lt_of_lt_mul hm';have h5:m / 2^ n≤m:=Nat.div_le_self _ _;have h6:m*2^ (32-n)%4294967296<4294967296:=Nat.mod_lt _ (by decide)
 rw [e1,e2,Cl,AK,AK,AX,AX,AI (a:=m*2^ (32-n)%4294967296) (b:=2^ 32) h6,AI (a:=m / 2^ n) (b:=2^ 32) (Nat.lt_of_le_of_lt h5 hm),h4,←CL h3];unfold rotW;have e3:((m:Int)*2^ (32-n)%4294967296)=((m*2^ (32-n)%4294967296:Nat):Int):=by simp
 have e4:((m:Int) / 2^ n)=((m / 2^ n:Nat):Int):=by simp
 rw [e3,e4,h4,Int.natCast_add,Int.add_comm]
theorem j4V(x:Int)(n:Nat)(h1:1≤n)(h2:n≤31)(hx:inW x):PC Tryz.prog 307 [.raw (.int .u32 x),.raw (.int .i64 (-(n:Int)))] (.raw (.int .u32 (rotW n x))):=by
 have e0:=rotS n (by omega) h1
 have e5:=rotU n (by omega) h1
 refine q0p rfl rfl ?_;refine rQ fi307 ?_;unfold orK;rw [e0,e5,Bf,Bf,A5 (by omega),A5 (by omega)]
 obtain ⟨m,rfl⟩:∃m:Nat,x=m:=⟨x.toNat,by omega⟩
 refine ⟨by omega,?_⟩
 have h:=j4Y m n h1 h2 (by omega)
 have hw:=q0L h1 h2 hx;refine congrArg (Value.int .u32) ?_;refine (congrArg IntKind.u32.wrap h).trans (w32 hw)
def turnS(x:Int)(ns:List Nat):Nat→Int
 |0=>0
 |i+1=>xorW (turnS x ns i) (rotW (ns.getD i 1) x)
theorem z3L{x:Int}{ns:List Nat}(hx:inW x)(hn:∀n∈ns,1≤n∧n≤31):∀i,inW (turnS x ns i)
 |0=>by simp [turnS,inW]
 |i+1=>by
  have h:1≤ns.getD i 1∧ns.getD i 1≤31:=by
   rcases AC i ns.length with h|h
   · rw [Ad,Ae h];exact hn _ (B9 _)
   rw [Ad,AL h];decide
  exact q1d (z3L hx hn i) (q0L h.1 h.2 hx)
theorem q0T(x:Int)(ns:List Nat)(hx:inW x)(hn:∀n∈ns,1≤n∧n≤31)(hl:ns.length≤64):PC Tryz.prog 298 [.raw (.int .u32 x),.isl (.int .i64) (ns.map fun (n:Nat)=>(n:Int))] (.raw (.int .u32 (turnS x ns ns.length))):=by
 refine q0p rfl rfl ?_;have hml:(ns.map fun (n:Nat)=>(n:Int)).length=ns.length:=Be ..;refine rQ fi298 ?_;refine q0i (ι:=Nat) (fun i=>[(4,.raw (.int .u32 (turnS x ns i))),(9,rI i)]) (fun i=>[]) (fun i=>ns.length-i) (fun i=>i≤ns.length) 0 (Ak _) rfl ?_ ?_
 · with_reducible refine sxE ?_
   rfl
 intro i hi;have hwr:=wsx i (by omega)
 by_cases h:i<ns.length
 · have hg:(ns.map fun (n:Nat)=>(n:Int)).getD i 0=((ns.getD i 1:Nat):Int):=by
    rw [Ad,Ae (by omega),Ad,Ae h];simp
   have hr:1≤ns.getD i 1∧ns.getD i 1≤31:=by
    rw [Ad,Ae h];exact hn _ (B9 _)
   have hneg:IntKind.i64.wrap (0- ((ns.getD i 1:Nat):Int))= -((ns.getD i 1:Nat):Int):=by rw [IntWalk.i64_in _ (by omega)];omega
   refine gyd4 hml hg hneg Ab ?_;refine ⟨fun _=>⟨⟨by omega,h⟩,q0a (j4V _ _ hr.1 hr.2 hx) ?_⟩,fun hh=>absurd h hh⟩
   have hxi:=z3L hx hn i;have hxo:=xor32 hxi (q0L hr.1 hr.2 hx);refine gy1 hxo ?_;refine ⟨i+1,h,by dsimp only;omega,rfl,?_⟩
   with_reducible refine sx1 hwr ?_
   rfl
 obtain rfl:i=ns.length:=by omega
 refine gy1 hml ?_;exact ⟨fun h=>absurd h (by omega),fun _=>trivial⟩
theorem byteU(x:Int)(m:Nat)(hx:inW x)(hm:m≤32):UInt8.ofNat (IntKind.u8.wrap (x.fdiv (2^ min m 32))).toNat=UInt8.ofNat (x.toNat / 2^ m%256):=by
 obtain ⟨n,rfl⟩:∃n:Nat,x=n:=⟨x.toNat,by omega⟩
 have e:((n:Int).fdiv (2^ m))=((n / 2^ m:Nat):Int):=by
  rw [AV _ (by exact_mod_cast Ak (2^ m))]
  simp
 rw [A5 hm,e,Bf];generalize n / 2^ m=m;rw [u8wrapR];congr 1
theorem byteU0(x:Int)(hx:inW x):UInt8.ofNat (IntKind.u8.wrap x).toNat=UInt8.ofNat (x.toNat / 2^ 0%256):=by
 rw [u8wrapR];congr 1;rw [Nat.pow_zero,Nat.div_one];omega
theorem wordB4(h:List Int)(i j:Nat)(hj:j<4):wordB h (4*i+j)=UInt8.ofNat ((h.getD i 0).toNat / 2^ (24-8*j)%256):=by
 unfold wordB;rw [show (4*i+j) / 4=i by omega,show (4*i+j)%4=j by omega]
theorem bytesP4(h:List Int){i:Nat}(hi:i<8):((((bytesP h (4*i)).set (4*i) (UInt8.ofNat ((h.getD i 0).toNat / 2^ 24%256))).set (4*i+1) (UInt8.ofNat ((h.getD i 0).toNat / 2^ 16%256))).set (4*i+2) (UInt8.ofNat ((h.getD i 0).toNat / 2^ 8%256))).set (4*i+3) (UInt8.ofNat ((h.getD i 0).toNat / 2^ 0%256))=bytesP h (4* (i+1)):=by
 rw [show UInt8.ofNat ((h.getD i 0).toNat / 2^ 24%256)=wordB h (4*i) from (wordB4 h i 0 (by decide)).symm,q3n h (by omega),
  show UInt8.ofNat ((h.getD i 0).toNat / 2^ 16%256)=wordB h (4*i+1) from (wordB4 h i 1 (by decide)).symm,q3n h (by omega),
  show UInt8.ofNat ((h.getD i 0).toNat / 2^ 8%256)=wordB h (4*i+2) from (wordB4 h i 2 (by decide)).symm,q3n h (by omega),
  show UInt8.ofNat ((h.getD i 0).toNat / 2^ 0%256)=wordB h (4*i+3) from (wordB4 h i 3 (by decide)).symm,q3n h (by omega)]
 rfl
theorem z7N(h:List Int)(hh:inWs h):PC Tryz.prog 283 [.dat (.arr 8 (.int .u32)) h] (.dat (.arr 32 .u8) (bytesS h)):=by
 refine q0p rfl rfl ?_;refine rQ fi283 ?_;have hl:=hh.1;have htk:List.take 8 h=h:=Aa (by omega)
 refine ⟨by omega,?_⟩
 rw [htk];refine q0i (ι:=Nat) (fun i=>[(6,rI i)]) (fun i=>[.row (.int .u32) h,.row .u8 (bytesP h (4*i))]) (fun i=>8-i) (fun i=>i≤8) 0 (Ak _) rfl ?_ ?_
 · with_reducible refine sxE ?_;trivial
 intro i hi;have hwr:=wsx i (by omega)
 have hbl:=q6j h (4*i);by_cases h8:i<8
 · have hx:=q0c hh i h8;have w0:IntKind.i64.wrap (4* (i:Int))=((4*i:Nat):Int):=by rw [wrapi (by omega)];omega
   have w1:IntKind.i64.wrap (((4*i:Nat):Int)+1)=((4*i+1:Nat):Int):=q1X (by omega)
   have w2:IntKind.i64.wrap (((4*i:Nat):Int)+2)=((4*i+2:Nat):Int):=by rw [wrapi (by omega)];omega
   have w3:IntKind.i64.wrap (((4*i:Nat):Int)+3)=((4*i+3:Nat):Int):=by rw [wrapi (by omega)];omega
   refine uQ 600 _ ?_;simp (maxSteps:=3000000) only [hl,hbl,w0,w1,w2,w3,Bq,Ab,Ty.dflt,go_sem,↓zA,↓reduceIte,↓reduceDIte] <;>try simp only [zB]
   refine ⟨fun _=>⟨⟨by omega,by omega⟩,⟨by omega,by omega⟩,⟨by omega,q1G _⟩,⟨by omega,by omega⟩,⟨by omega,q1G _⟩,⟨by omega,by omega⟩,⟨by omega,q1G _⟩,⟨by omega,by omega⟩,⟨by omega,q1G _⟩,i+1,h8,by dsimp only;omega,?_,?_⟩,fun h=>absurd h (by omega)⟩
   · rw [byteU _ 24 hx (by decide),byteU _ 16 hx (by decide),byteU _ 8 hx (by decide),byteU0 _ hx]
     show _= [SObj.row (.int .u32) h,SObj.row .u8 (bytesP h (4* (i+1)))];rw [←bytesP4 h h8]
   with_reducible refine sx1 hwr ?_;trivial
 obtain rfl:i=8:=by omega
 refine gy3 hl hbl Ab ?_;refine ⟨fun h=>absurd h (by omega),fun _=> ?_⟩
 have e:List.take 32 (bytesP h 32)++List.drop (List.take 32 (bytesP h 32)).length (bytesP h 32)=bytesS h:=by
  have hbl:(bytesP h 32).length=32:=q6j h 32;rw [Aa (by omega),hbl,AN (by omega),Ai,q9d]
 have el:(bytesS h).length=32:=q0V _;rw [e,if_pos el];exact ⟨_,rfl,rfl⟩
abbrev HH:Ty:=.prod (.arr 8 (.int .u32)) (.prod (.arr 64 .u8) (.int .i64))
abbrev MH:Ty:=.prod (.prod (.arr 64 .u8) (.arr 64 .u8)) (.prod HH .bool)
theorem orW{a b:Nat}{k:Nat}(hb:b<2^ k)(h:2^ k*a+b<4294967296):orK .u32 ((2^ k*a:Nat):Int) (b:Int)=((2^ k*a+b:Nat):Int):=by
 unfold orK;have h1:(BitVec.ofInt IntKind.u32.bits ((2^ k*a:Nat):Int) |||BitVec.ofInt IntKind.u32.bits (b:Int)).toNat=2^ k*a+b:=by
  rw [Cl,AK,AK,AX,AX];rw [show 2^ IntKind.u32.bits=4294967296 from rfl,AI (a:=2^ k*a) (by omega),AI (a:=b) (by omega),←CL hb]
 rw [h1];exact w32 (by constructor<;>omega)
theorem u32n(n:Nat)(h:n<4294967296):IntKind.u32.wrap (n:Int)=(n:Int):=w32 (by constructor<;>omega)
theorem or4(c:Nat→UInt8):orK .u32 (orK .u32 (orK .u32 (IntKind.u32.wrap (IntKind.u32.wrap ((c 0).toNat:Int)*2^ min 24 32)) (IntKind.u32.wrap (IntKind.u32.wrap ((c 1).toNat:Int)*2^ min 16 32))) (IntKind.u32.wrap (IntKind.u32.wrap ((c 2).toNat:Int)*2^ min 8 32))) (IntKind.u32.wrap ((c 3).toNat:Int))=((256* (256* (256* (c 0).toNat+ (c 1).toNat)+ (c 2).toNat)+ (c 3).toNat:Nat):Int):=by
 have h0:=(c 0).toNat_lt;have h1:=(c 1).toNat_lt;have h2:=(c 2).toNat_lt;have h3:=(c 3).toNat_lt;generalize (c 0).toNat=a0 at*;generalize (c 1).toNat=a1 at*;generalize (c 2).toNat=a2 at*;generalize (c 3).toNat=a3 at*;have e0:IntKind.u32.wrap (IntKind.u32.wrap (a0:Int)*2^ min 24 32)=((2^ 24*a0:Nat):Int):=by
  rw [u32n a0 (by omega),show (2:Int) ^ min 24 32=16777216 from rfl,w32 (by constructor<;>omega)];omega
 have e1:IntKind.u32.wrap (IntKind.u32.wrap (a1:Int)*2^ min 16 32)=((2^ 16*a1:Nat):Int):=by
  rw [u32n a1 (by omega),show (2:Int) ^ min 16 32=65536 from rfl,w32 (by constructor<;>omega)];omega
 have e2:IntKind.u32.wrap (IntKind.u32.wrap (a2:Int)*2^ min 8 32)=((2^ 8*a2:Nat):Int):=by
  rw [u32n a2 (by omega),show (2:Int) ^ min 8 32=256 from rfl,w32 (by constructor<;>omega)];omega
 rw [e0,e1,e2,u32n a3 (by omega),orW (a:=a0) (b:=2^ 16*a1) (k:=24) (by omega) (by omega),
  show 2^ 24*a0+2^ 16*a1=2^ 16* (2^ 8*a0+a1) by omega,orW (a:=2^ 8*a0+a1) (b:=2^ 8*a2) (k:=16) (by omega) (by omega),
  show 2^ 16* (2^ 8*a0+a1)+2^ 8*a2=2^ 8* (2^ 8* (2^ 8*a0+a1)+a2) by omega,orW (a:=2^ 8* (2^ 8*a0+a1)+a2) (b:=a3) (k:=8) (by omega) (by omega)]
theorem wrapU(x:Int):IntKind.u32.wrap x=x%4294967296:=rfl
theorem z1i{x:Int}(h:inW x):xorW 0 x=x:=by
 unfold xorW;rw [Int.toNat_zero,Nat.zero_xor];omega
theorem turn2{x:Int}(h:inW x)(a b:Nat)(h1:1≤a)(h2:a≤31):turnS x [a,b] 2=xorW (rotW a x) (rotW b x):=by
 show xorW (xorW 0 (rotW a x)) (rotW b x)=_;rw [z1i (q0L h1 h2 h)]
theorem turn3{x:Int}(h:inW x)(a b c:Nat)(h1:1≤a)(h2:a≤31):turnS x [a,b,c] 3=xorW (xorW (rotW a x) (rotW b x)) (rotW c x):=by
 show xorW (xorW (xorW 0 (rotW a x)) (rotW b x)) (rotW c x)=_;rw [z1i (q0L h1 h2 h)]
theorem sg1U{y:Int}(h:inW y):xorK .u32 (turnS y [17,19] 2) (y.fdiv (2^ min 10 32))=sg1 y:=by
 have e:y.fdiv (2^ min 10 32)=y / 1024:=fdivW y 1024 (by decide)
 have h1:=q0L (n:=17) (by decide) (by decide) h
 have h2:=q0L (n:=19) (by decide) (by decide) h
 rw [e,turn2 h 17 19 (by decide) (by decide),xor32 (q1d h1 h2) (by unfold inW at*;omega)]
 rfl
theorem sg0U{y:Int}(h:inW y):xorK .u32 (turnS y [7,18] 2) (y.fdiv (2^ min 3 32))=sg0 y:=by
 have e:y.fdiv (2^ min 3 32)=y / 8:=fdivW y 8 (by decide)
 have h1:=q0L (n:=7) (by decide) (by decide) h
 have h2:=q0L (n:=18) (by decide) (by decide) h
 rw [e,turn2 h 7 18 (by decide) (by decide),xor32 (q1d h1 h2) (by unfold inW at*;omega)]
 rfl
theorem schU{x y u v:Int}(hx:inW x)(hy:inW y):IntKind.u32.wrap (IntKind.u32.wrap (IntKind.u32.wrap (xorK .u32 (turnS y [17,19] 2) (y.fdiv (2^ min 10 32))+u)+xorK .u32 (turnS x [7,18] 2) (x.fdiv (2^ min 3 32)))+v)=(sg1 y+u+sg0 x+v)%W32:=by
 rw [sg0U hx,sg1U hy,wrapU,wrapU,wrapU];unfold W32;omega
theorem bs1U{x:Int}(h:inW x):turnS x [6,11,25] 3=bs1 x:=turn3 h _ _ _ (by decide) (by decide)
theorem bs0U{x:Int}(h:inW x):turnS x [2,13,22] 3=bs0 x:=turn3 h _ _ _ (by decide) (by decide)
theorem notU{x:Int}(h:inW x):IntKind.u32.wrap ↑(BitVec.ofInt 32 (if IntKind.u32.signed=true then -1 else IntKind.u32.max) ^^^ BitVec.ofInt 32 x).toNat=4294967295-x:=by
 have e:BitVec.ofInt 32 (if IntKind.u32.signed=true then -1 else IntKind.u32.max)=BitVec.allOnes 32:=by decide
 obtain ⟨n,rfl⟩:∃n:Nat,x=n:=⟨x.toNat,by omega⟩
 rw [e,BitVec.allOnes_xor,BitVec.toNat_not,AK,AX,AI (by omega),wrapU]
 omega
theorem q5g(x y z:Int)(hx:inW x)(hy:inW y)(hz:inW z):PC Tryz.prog 299 [.raw (.int .u32 x),.raw (.int .u32 y),.raw (.int .u32 z)] (.raw (.int .u32 (chW x y z))):=by
 have hn:inW (4294967295-x):=by omega
 have e1:=and32 hx hy;have e2:=and32 hn hz;have e3:=xor32 (q1h hx hy) (q1h hn hz);refine q0p rfl rfl ?_;refine rQ fi299 ?_;refine (congrArg (fun u=>Value.int IntKind.u32 (xorK IntKind.u32 (andK IntKind.u32 x y) (andK IntKind.u32 u z))) (notU hx)).trans ?_;show Value.int IntKind.u32 (xorK IntKind.u32 (andK IntKind.u32 x y) (andK IntKind.u32 (4294967295-x) z))=_;rw [e1,e2,e3];rfl
theorem q3q(a b c:Int)(ha:inW a)(hb:inW b)(hc:inW c):PC Tryz.prog 300 [.raw (.int .u32 a),.raw (.int .u32 b),.raw (.int .u32 c)] (.raw (.int .u32 (majW a b c))):=by
 have e1:=and32 ha hb;have e2:=and32 ha hc;have e3:=and32 hb hc;have e4:=xor32 (q1h ha hb) (q1h ha hc);have e5:=xor32 (q1d (q1h ha hb) (q1h ha hc)) (q1h hb hc);refine q0p rfl rfl ?_;refine rQ fi300 ?_;rw [e1,e2,e4,e3,e5];rfl
theorem z1d(t:Nat):dat_sha_constants.getD t 0=kS t:=rfl
theorem t1U{k w:Int}{v:List Int}(hv:inWs v):IntKind.u32.wrap (IntKind.u32.wrap (IntKind.u32.wrap (IntKind.u32.wrap (v.getD 7 0+turnS (v.getD 4 0) [6,11,25] 3)+chW (v.getD 4 0) (v.getD 5 0) (v.getD 6 0))+k)+w)=t1S k w v%W32:=by
 rw [bs1U (q0c hv 4 (by decide))]
 simp only [wrapU];unfold t1S W32;omega
theorem t2U{v:List Int}(hv:inWs v):IntKind.u32.wrap (turnS (v.getD 0 0) [2,13,22] 3+majW (v.getD 0 0) (v.getD 1 0) (v.getD 2 0))=t2S v%W32:=by
 rw [bs0U (q0c hv 0 (by decide))]
 rfl
theorem aU(x y:Int):IntKind.u32.wrap (x%W32+y%W32)=(x+y)%W32:=by rw [wrapU];unfold W32;omega
theorem eU(x y:Int):IntKind.u32.wrap (x+y%W32)=(x+y)%W32:=by rw [wrapU];unfold W32;omega
theorem list8{l:List Int}(h:l.length=8):[l.getD 0 0,l.getD 1 0,l.getD 2 0,l.getD 3 0,l.getD 4 0,l.getD 5 0,l.getD 6 0,l.getD 7 0]=l:=by
 match l,h with
 | [a,b,c,d,e,f,g,i],_=>rfl
theorem j5B(b:List UInt8)(h:List Int)(hb:b.length=64)(hh:inWs h):PE Tryz.prog 282 [.rptr 0 (.int .u32) 0 0,.isl .u8 b] [.row (.int .u32) h] (.ret (.tup [])) [.row (.int .u32) (blkS b h)]:=by
 refine q0b (Ag _) ?_;refine rQ fi282 ?_;refine q0i (ι:=Nat) (fun t=>[(26,rI t)]) (fun t=>[.row (.int .u32) h,.row (.int .u32) (wL b t)]) (fun t=>16-t) (fun t=>t≤16) 0 (Ak _) (by rw [q5Y];rfl) ?_ ?_
 · with_reducible refine sxE ?_;trivial
 intro t ht;have hwr:=wsx t (by omega)
 have hwl:=q3P b t;by_cases hlt:t<16
 · have w1:IntKind.i64.wrap (4* (t:Int))=((4*t:Nat):Int):=by rw [wrapi (by omega)];omega
   have w4:IntKind.i64.wrap (((4*t:Nat):Int)+4)=((4*t+4:Nat):Int):=by rw [wrapi (by omega)];omega
   refine gy4 w1 w4 hwl Ab ?_;have hdl:(List.drop (4*t) (List.take (4*t+4) b)).length=4:=by rw [Al,Av];omega
   refine ⟨fun _=> ?_,fun h=>absurd h (by omega)⟩
   repeat (with_reducible refine And.intro (by first|omega|exact ⟨by omega,by omega,by omega,by omega⟩ |exact ⟨by omega,by omega⟩) ?_)
   refine ⟨t+1,by show t+1≤16;omega,by dsimp only;omega,?_,?_⟩
   · have hd:∀j,j<4→(List.drop (4*t) (List.take (4*t+4) b)).getD j Ty.u8.dflt=b.getD (4*t+j) 0:=fun j hj=>by
      rw [Ad,AG,BE (by omega),←Ad]
      rfl
     have ho:=or4 fun j=>(List.drop (4*t) (List.take (4*t+4) b)).getD j Ty.u8.dflt;rw [ho,hd 0 (by omega),hd 1 (by omega),hd 2 (by omega),hd 3 (by omega)]
     have hw:((256* (256* (256* (b.getD (4*t+0) 0).toNat+ (b.getD (4*t+1) 0).toNat)+ (b.getD (4*t+2) 0).toNat)+ (b.getD (4*t+3) 0).toNat:Nat):Int)=wS b t:=by
      rw [z2t hlt];simp only [wdP,byI];omega
     show [SObj.row (.int .u32) h,SObj.row (.int .u32) ((wL b t).set t ((256* (256* (256* (b.getD (4*t+0) 0).toNat+ (b.getD (4*t+1) 0).toNat)+ (b.getD (4*t+2) 0).toNat)+ (b.getD (4*t+3) 0).toNat:Nat):Int))]= [SObj.row (.int .u32) h,SObj.row (.int .u32) (wL b (t+1))];rw [hw,q3Q b (by omega)]
   with_reducible refine sx1 hwr ?_;trivial
 obtain rfl:t=16:=by omega
 refine gy2 hwl Ab ?_;refine ⟨fun h=>absurd h (by omega),fun _=> ?_⟩
 refine q2n (ι:=Nat) (fun t=>[(7,rI t)]) (fun t=>[.row (.int .u32) h,.row (.int .u32) (wL b t)]) (fun t=>64-t) (fun t=>16≤t∧t≤64) 16 (by decide) 2 rfl (by decide) (fun _=>rfl) (fun _=>rfl) (fun _=>rfl) ?_ ?_
 · with_reducible refine sxE ?_
   rfl
 intro t ht;have hwl:=q3P b t;have hwr:=wsx t (by omega)
 by_cases hlt:t<64
 · have e15:IntKind.i64.wrap ((t:Int) -15)=((t-15:Nat):Int):=by rw [wrapi (by omega)];omega
   have e2:IntKind.i64.wrap ((t:Int) -2)=((t-2:Nat):Int):=by rw [wrapi (by omega)];omega
   have e7:IntKind.i64.wrap ((t:Int) -7)=((t-7:Nat):Int):=by rw [wrapi (by omega)];omega
   have e16:IntKind.i64.wrap ((t:Int) -16)=((t-16:Nat):Int):=by rw [wrapi (by omega)];omega
   have g15:=q1b b (t:=t) (j:=t-15) (by omega) (by omega)
   have g2:=q1b b (t:=t) (j:=t-2) (by omega) (by omega)
   have g7:=q1b b (t:=t) (j:=t-7) (by omega) (by omega)
   have g16:=q1b b (t:=t) (j:=t-16) (by omega) (by omega)
   have i15:=q2w b (t-15);have i2:=q2w b (t-2);have i7:=q2w b (t-7);have i16:=q2w b (t-16);refine gyd10 e15 e2 e7 e16 g15 g2 g7 g16 hwl Ab ?_;refine ⟨fun _=>⟨⟨by omega,by omega⟩,by omega,⟨by omega,by omega⟩,by omega,⟨by omega,by omega⟩,by omega,⟨by omega,by omega⟩,by omega,q0q (q0T (wS b (t-2)) [17,19] i2 (by decide) (by decide)) ?_⟩,fun h=>absurd hlt (by omega)⟩
   refine gQ ?_;refine q0A 2 (by decide) ?_
   with_reducible refine sxE ?_
   refine q0d (q0T (wS b (t-15)) [7,18] i15 (by decide) (by decide)) ?_
   refine uQ 600 _ ?_;simp (maxSteps:=3000000) only [e15,e2,e7,e16,g15,g2,g7,g16,hwl,Ab,Ty.dflt,go_sem,↓zA,↓reduceIte,↓reduceDIte] <;>try simp only [zB]
   repeat (with_reducible refine And.intro (by first|omega|exact ⟨by omega,by omega⟩) ?_)
   refine ⟨t+1,⟨by omega,hlt⟩,by dsimp only;omega,⟨[.dead],?_⟩,?_⟩
   · rw [schU i15 i2,←z2G (by omega),q3Q b hlt]
     rfl
   with_reducible refine sx1 hwr ?_;trivial
 obtain rfl:t=64:=by omega
 refine gQ ?_;have hl:=hh.1;refine ⟨fun h=>absurd h (by omega),fun _=> ?_⟩
 repeat (with_reducible refine And.intro (by omega) ?_)
 refine q3R (t:=.arr 64 (.int .u32)) (x:=dat_sha_constants) (ag:=some 64) (s:=.dat (.arr 64 (.int .u32)) dat_sha_constants) (by unfold datList;repeat (first|exact .head _|apply List.Mem.tail)) rfl (.inr rfl) ?_
 refine gQ ?_;refine q2n (ι:=Nat) (fun t=>[(134,rI t),(12,.raw (.int .u32 ((rnds b h t).getD 0 0))),(13,.raw (.int .u32 ((rnds b h t).getD 1 0))),(14,.raw (.int .u32 ((rnds b h t).getD 2 0))),(15,.raw (.int .u32 ((rnds b h t).getD 3 0))),(16,.raw (.int .u32 ((rnds b h t).getD 4 0))),(17,.raw (.int .u32 ((rnds b h t).getD 5 0))),(18,.raw (.int .u32 ((rnds b h t).getD 6 0))),(19,.raw (.int .u32 ((rnds b h t).getD 7 0)))]) (fun t=>[.row (.int .u32) h,.row (.int .u32) (wL b 64)]) (fun t=>64-t) (fun t=>t≤64) 0 (Ak _) 2 rfl (by decide) (fun _=>rfl) (fun _=>rfl) (fun _=>rfl) ?_ ?_
 · with_reducible refine sxE ?_
   exact ⟨rfl,rfl,rfl,rfl,rfl,rfl,rfl,rfl⟩
 intro t ht;have hwr:=wsx t (by omega)
 by_cases hlt:t<64
 · have hv:=q1r (b:=b) hh t;generalize hvv:rnds b h t=v at*;have i0:=q0c hv 0 (by decide)
   have i1:=q0c hv 1 (by decide)
   have i2:=q0c hv 2 (by decide)
   have i3:=q0c hv 3 (by decide)
   have i4:=q0c hv 4 (by decide)
   have i5:=q0c hv 5 (by decide)
   have i6:=q0c hv 6 (by decide)
   have i7:=q0c hv 7 (by decide)
   refine gyd3 hl hwl Ab ?_;refine ⟨fun _=>⟨⟨by omega,by omega⟩,⟨by omega,by omega⟩,by omega,?_⟩,fun h=>absurd hlt (by omega)⟩
   refine q0A 2 (by decide) ?_
   with_reducible refine sxE ?_
   refine q0d (q0T _ [6,11,25] i4 (by decide) (by decide)) ?_
   refine gyd3 hl hwl Ab ?_;refine q0d (q5g _ _ _ i4 i5 i6) ?_;refine gyd3 hl hwl Ab ?_;refine q0m 3 ?_;with_reducible refine sxE ?_
   refine cyd3 (q0T _ [2,13,22] i0 (by decide) (by decide)) hl hwl Ab ?_
   refine cyd3 (q3q _ _ _ i0 i1 i2) hl hwl Ab ?_;have hr:rnds b h (t+1)=rnd (kS t) (wS b t) v:=by show rnd (kS t) (wS b t) (rnds b h t)=_;rw [hvv]
   have hT1:=t1U (k:=kS t) (w:=wS b t) hv;have hT2:=t2U hv;refine ⟨t+1,hlt,by dsimp only;omega,⟨[.dead,.dead],rfl⟩,?_⟩
   rw [z1d,q1b b hlt hlt,hT1,hT2,aU,eU];with_reducible refine sy2 hwr hr ?_
   exact ⟨rfl,rfl,rfl,rfl,rfl,rfl,rfl,rfl⟩
 obtain rfl:t=64:=by omega
 refine gyd3 hl hwl Ab ?_;refine ⟨fun h=>absurd h (by omega),fun _=> ?_⟩
 have e8:=list8 (q1r (b:=b) hh 64).1;refine q0i (ι:=Nat) (fun i=>[(186,rI i),(185,.dat (.arr 8 (.int .u32)) (rnds b h 64))]) (fun i=>[.row (.int .u32) (blkP b h i),.row (.int .u32) (wL b 64)]) (fun t=>8-t) (fun t=>t≤8) 0 (Ak _) ?_ ?_ ?_
 · rw [q3g b hh.1]
 · with_reducible refine sxE ?_
   exact congrArg (SV.dat (.arr 8 (.int .u32))) e8
 intro i hi;have hwr:=wsx i (by omega)
 have hv:=q1r (b:=b) hh 64;have hl:=hv.1;have hbl:=q4y b h i;by_cases hlt:i<8
 · have hbg:=q4u b h hlt;refine gyd4 hl hbl Ab AP ?_;refine ⟨fun _=> ?_,fun h=>absurd hlt (by omega)⟩
   repeat (with_reducible refine And.intro (by first|omega|exact ⟨by omega,by omega⟩) ?_)
   refine ⟨i+1,hlt,by dsimp only;omega,?_,?_⟩
   · rw [hbg,wrapU];show [_,_]= [SObj.row (.int .u32) (blkP b h (i+1)),_];rw [←q4E b h hlt]
   with_reducible refine sx1 hwr ?_;trivial
 obtain rfl:i=8:=by omega
 refine gyd3 hl hbl Ab ?_;refine ⟨fun h=>absurd h (by omega),fun _=> ?_⟩
 rw [q4n]
end Go.Proofs.YtmapiojgmbgbgaaGreatDoor
