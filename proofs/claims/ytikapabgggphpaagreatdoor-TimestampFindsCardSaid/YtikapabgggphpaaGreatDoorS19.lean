/- SHA-256: contracts: the reference's padding. -/
import Derived.Test.YtikapabgggphpaaGreatDoorS18
set_option linter.all false
namespace Go.Proofs.YtikapabgggphpaaGreatDoor
open Go Go.Sx Go.Proofs
set_option maxRecDepth 100000
set_option maxHeartbeats 40000000
theorem u8wrapR(x:Int):IntKind.u8.wrap x=x%256:=by simp [IntKind.wrap,IntKind.bits,IntKind.signed]
theorem q0Y(x:Int):((UInt8.ofNat (IntKind.u8.wrap x).toNat).toNat:Int)=IntKind.u8.wrap x:=by
 have:=u8wrapR x;rw [Bx];omega
def padZ(b:List UInt8)(k:Nat):List UInt8:=b++ [128]++List.replicate k 0
def padN(n:Nat):Nat:=(119-n%64)%64
theorem q5L(b:List UInt8)(k:Nat):(padZ b k).length=b.length+1+k:=by simp [padZ];omega
theorem z6J(b:List UInt8)(k:Nat):padZ b k++ [0]=padZ b (k+1):=by
 unfold padZ;rw [List.append_assoc,←BT]
def lnB8(n:Nat)(j:Nat):List UInt8:=(List.range j).map fun i=>UInt8.ofNat (n / 2^ (8* (7-i))%256)
theorem z5o(n j:Nat):lnB8 n j++ [UInt8.ofNat (n / 2^ (8* (7-j))%256)]=lnB8 n (j+1):=by
 unfold lnB8;rw [BE,Bk];rfl
theorem q6f(n j:Nat):(lnB8 n j).length=j:=by simp [lnB8]
def padS(b:List UInt8):List UInt8:=padZ b (padN b.length)++lnB8 (8*b.length) 8
theorem byteK(n i:Nat)(hi:i≤7):UInt8.ofNat (IntKind.u8.wrap (((n:Int).fdiv (2^ min (8*i) 64)).tmod 256)).toNat=UInt8.ofNat (n / 2^ (8*i)%256):=by
 have e:((n:Int).fdiv (2^ (8*i)))=((n / 2^ (8*i):Nat):Int):=by
  rw [AV _ (by exact_mod_cast Ai (2^ (8*i)))]
  simp
 rw [Ba (by omega),e]
 generalize n / 2^ (8*i)=m;rw [As (by omega),u8wrapR]
 congr 1;omega
theorem z9o(b:List UInt8)(hb:b.length≤70368744177664):PC Tryz.prog 145 [.isl .u8 b] (.isl .u8 (padS b)):=by
 refine q0i rfl rfl ?_;refine rQ fi145 ?_;refine ⟨⟨by omega,by omega⟩,rfl,⟨by omega,by omega,by omega⟩,?_⟩
 refine q0d (ι:=Nat×List SObj) (fun x=>[(3,.bld x.2.length .u8 (padZ b x.1).length)]) (fun x=>x.2++ [.row .u8 (padZ b x.1)]) (fun x=>padN b.length-x.1) (fun x=>x.1≤padN b.length) (0,[.dead,.dead,.row .u8 [128]]) (Ai _) (by simp [padZ]) ?_ ?_
 · with_reducible refine sxE ?_
   simp [padZ]
 rintro ⟨k,G⟩ hk;dsimp only at hk;have hl:(padZ b k).length=b.length+ (1+k):=by rw [q5L];omega
 have hn:padN b.length≤63:=by unfold padN;omega
 have hd:padN b.length=(119-b.length%64)%64:=rfl;have hm:((b.length+ (1+k):Nat):Int).tmod 64=(((b.length+ (1+k))%64:Nat):Int):=by
  rw [As (by omega)];rfl
 have htk:List.take (b.length+ (1+k)) (padZ b k)=padZ b k:=Ab (by omega)
 refine uQ 600 _ ?_;simp (maxSteps:=3000000) only [hl,hm,htk,List.append_assoc,getA,getA0,setA,setA0,Ad,Nat.add_assoc,go_sem,↓zA,↓reduceIte,↓reduceDIte] <;>try simp only [zB]
 refine ⟨by decide,fun hne=>⟨rfl,⟨by omega,by omega⟩,(k+1,G++ [.dead,.row .u8 [0]]),by dsimp only;omega,by dsimp only;omega,?_,?_⟩,fun he=> ?_⟩
 · dsimp only;rw [←z6J,List.append_assoc];rfl
 · with_reducible refine sxaE ?_
   exact congrArg (SV.bld (G.length+2) .u8) (by rw [q5L];omega)
 obtain rfl:k=padN b.length:=by omega
 have w8:IntKind.i64.wrap (8* (b.length:Int))=((8*b.length:Nat):Int):=by rw [wrapi (by omega)];omega
 rw [w8];refine q0d (ι:=Nat×List SObj) (fun x=>[(3,.bld x.2.length .u8 (padZ b (padN b.length)++lnB8 (8*b.length) x.1).length),(5,.raw (.int .i64 (7- (x.1:Int))))]) (fun x=>x.2++ [.row .u8 (padZ b (padN b.length)++lnB8 (8*b.length) x.1)]) (fun x=>8-x.1) (fun x=>x.1≤8) (0,G) (Ai _) (by simp [lnB8]) ?_ ?_
 · with_reducible refine sxE ?_
   simp [lnB8,hl]
 clear hm htk hk;rintro ⟨j,G⟩ hj;dsimp only at hj;have hl2:(padZ b (padN b.length)++lnB8 (8*b.length) j).length=b.length+ (1+ (padN b.length+j)):=by rw [Ad,hl,q6f];omega
 have htk:List.take (b.length+ (1+ (padN b.length+j))) (padZ b (padN b.length)++lnB8 (8*b.length) j)=padZ b (padN b.length)++lnB8 (8*b.length) j:=Ab (by omega)
 generalize hZ:padZ b (padN b.length)++lnB8 (8*b.length) j=Z at*;by_cases h8:j<8
 · have w7:IntKind.i64.wrap (8* (7- (j:Int)))=((8* (7-j):Nat):Int):=by rw [wrapi (by omega)];omega
   have w6:IntKind.i64.wrap (7- (j:Int) -1)=7- ((j+1:Nat):Int):=by rw [wrapi (by omega)];omega
   refine uQ 600 _ ?_;simp (maxSteps:=3000000) only [hl2,htk,w7,w6,List.append_assoc,getA,getA0,setA,setA0,Ad,Nat.add_assoc,go_sem,↓zA,↓reduceIte,↓reduceDIte] <;>try simp only [zB]
   refine ⟨fun _=>⟨by omega,by decide,q0Y _,⟨by omega,by omega⟩,(j+1,G++ [.dead,.row .u8 [UInt8.ofNat (8*b.length / 2^ (8* (7-j))%256)]]),by dsimp only;omega,by dsimp only;omega,?_,?_⟩,fun h=>absurd h (by omega)⟩
   · dsimp only;rw [byteK _ _ (by omega),←hZ,←z5o,List.append_assoc,List.append_assoc]
     rfl
   simp (maxSteps:=3000000) only [hl,q6f,List.append_assoc,getA,getA0,setA,setA0,Ad,Nat.add_assoc,go_sem,↓zA,↓reduceIte,↓reduceDIte] <;>try simp only [zB]
 obtain rfl:j=8:=by omega
 refine gya2 hl2 htk ?_;refine ⟨fun h=>absurd h (by omega),fun _=> ?_⟩
 exact ⟨⟨by omega,by omega⟩,hZ.symm⟩
def hS0:List Int:=[0x6a09e667,0xbb67ae85,0x3c6ef372,0xa54ff53a,0x510e527f,0x9b05688c,0x1f83d9ab,0x5be0cd19]
def hashS(p:List UInt8):Nat→List Int
 |0=>hS0
 |k+1=>blkS ((p.take (64*k+64)).drop (64*k)) (hashS p k)
theorem q7e{b:List UInt8}{h:List Int}:inWs (blkS b h):=by
 refine ⟨by simp [blkS],fun x hx=> ?_⟩
 obtain ⟨i,_,rfl⟩:=Bu.1 hx;unfold inW W32;omega
theorem q4F:inWs hS0:=by decide
theorem z8g(p:List UInt8):∀k,inWs (hashS p k)
 |0=>q4F
 |_+1=>q7e
def wordB(h:List Int)(i:Nat):UInt8:=UInt8.ofNat ((h.getD (i / 4) 0).toNat / 2^ (24-8* (i%4))%256)
def bytesP(h:List Int)(n:Nat):List UInt8:=(List.range 32).map fun i=>if i<n then wordB h i else 0
def bytesS(h:List Int):List UInt8:=(List.range 32).map (wordB h)
theorem q4V(h:List Int)(n:Nat):(bytesP h n).length=32:=by simp [bytesP]
theorem q0H(h:List Int):(bytesS h).length=32:=by simp [bytesS]
theorem q2L(h:List Int){i:Nat}(hi:i<32):(bytesP h i).set i (wordB h i)=bytesP h (i+1):=by
 apply Au
 · simp [bytesP]
 intro j h1 h2;rw [A4];simp only [bytesP,AC,Ax];split
 · subst_vars;rw [if_pos (by omega)]
 rename_i hne;by_cases hj:j<i
 · rw [if_pos hj,if_pos (by omega)]
 rw [if_neg hj,if_neg (by omega)]
theorem q7W(h:List Int):bytesP h 32=bytesS h:=by
 apply Au
 · simp [bytesP,bytesS]
 intro j h1 h2;simp [bytesP] at h1;simp only [bytesP,bytesS,AC,Ax];rw [if_pos h1]
def blksN(b:List UInt8):Nat:=(b.length+72) / 64
theorem z9h(b:List UInt8):(padS b).length=64*blksN b:=by
 unfold padS blksN;rw [Ad,q5L,q6f];unfold padN;omega
def shaS(b:List UInt8):List UInt8:=bytesS (hashS (padS b) (blksN b))
theorem byteM(x:Int)(m:Nat)(h0:0≤x)(hm:m≤64):UInt8.ofNat (IntKind.u8.wrap ((x.fdiv (2^ min m 64)).tmod 256)).toNat=UInt8.ofNat (x.toNat / 2^ m%256):=by
 obtain ⟨n,rfl⟩:∃n:Nat,x=n:=⟨x.toNat,by omega⟩
 have e:((n:Int).fdiv (2^ m))=((n / 2^ m:Nat):Int):=by
  rw [AV _ (by exact_mod_cast Ai (2^ m))]
  simp
 rw [Ba hm,e,Aq];generalize n / 2^ m=m;rw [As (by omega),u8wrapR]
 congr 1;omega
theorem z7b(b:List UInt8)(hb:b.length≤70368744177664):PC Tryz.prog 127 [.isl .u8 b] (.dat (.arr 32 .u8) (shaS b)):=by
 refine q0p rfl rfl ?_;refine q0Z fi127 (q0r mixed 600 _ ?_);simp (maxSteps:=3000000) only [ir127,Ty.dflt,go_sem,↓zA,↓reduceIte,↓reduceDIte] <;>try simp only [zB]
 refine cQ (z9o b hb) ?_;have hpl:=z9h b;have hpb:blksN b≤1125899906842624:=by unfold blksN;omega
 generalize hp:padS b=p at*;generalize hN:blksN b=N at*;refine q0d (ι:=Nat) (fun k=>[(5,.raw (.int .i64 ((64*k:Nat):Int)))]) (fun k=>[.row .u8 (List.replicate 32 0),.row (.int .i64) (hashS p k)]) (fun k=>N-k) (fun k=>k≤N) 0 (Ai _) rfl ?_ ?_
 · with_reducible refine sxE ?_;trivial
 intro k hk;have hv:=z8g p k;have hl:=hv.1;have htk:List.take 8 (hashS p k)=hashS p k:=Ab (by omega)
 by_cases hlt:k<N
 · have w1:IntKind.i64.wrap (((64*k:Nat):Int)+64)=((64*k+64:Nat):Int):=by rw [wrapi (by omega)];omega
   refine gy4 hl w1 Ac htk ?_;have hbl:(List.drop (64*k) (List.take (64*k+64) p)).length=64:=by rw [Al,Aj];omega
   refine ⟨fun _=>⟨⟨by omega,by omega,by omega⟩,q0e (z9R _ _ hbl hv) ?_⟩,fun h=>absurd h (by omega)⟩
   have hv2:inWs (blkS (List.drop (64*k) (List.take (64*k+64) p)) (hashS p k)):=q7e;have hl2:=hv2.1;have htk2:List.drop 8 (hashS p k)= []:=AW (by omega)
   refine gy8 hl hl2 w1 Ac htk htk2 htk2 htk2 ?_;refine ⟨k+1,hlt,by dsimp only;omega,?_,?_⟩
   · rfl
   with_reducible refine sxE ?_
   rfl
 obtain rfl:k=N:=by omega
 generalize hH:hashS p k=h at*;refine gy3 hl Ac htk ?_;refine ⟨fun h=>absurd h (by omega),fun _=> ?_⟩
 refine q0d (ι:=Nat) (fun i=>[(7,rI i)]) (fun i=>[.row .u8 (List.replicate 32 0),.row (.int .i64) h,.row .u8 (bytesP h i)]) (fun i=>32-i) (fun i=>i≤32) 0 (Ai _) rfl ?_ ?_
 · with_reducible refine sxE ?_;trivial
 intro i hi;have hwr:=wsx i (by omega)
 have hbl:=q4V h i;by_cases h32:i<32
 · have q1:(i:Int).tdiv 4=((i / 4:Nat):Int):=by rw [A8 (by omega)];rfl
   have q2:(i:Int).tmod 4=((i%4:Nat):Int):=by rw [As (by omega)];rfl
   have q3:IntKind.i64.wrap (((i / 4:Nat):Int))=((i / 4:Nat):Int):=by rw [wrapi (by omega)]
   have q4:IntKind.i64.wrap (8* ((i%4:Nat):Int))=((8* (i%4):Nat):Int):=by rw [wrapi (by omega)];omega
   have q5:IntKind.i64.wrap (24- ((8* (i%4):Nat):Int))=((24-8* (i%4):Nat):Int):=by rw [wrapi (by omega)];omega
   refine gyd10 q1 q2 q3 q4 q5 hl hbl Ac Ac Ac ?_;have hx:=q0c hv (i / 4) (by omega)
   refine ⟨fun _=>⟨by decide,⟨by omega,by omega⟩,by omega,by decide,by omega,by decide,⟨by omega,by omega⟩,⟨by omega,q0Y _⟩,i+1,h32,by dsimp only;omega,?_,?_⟩,fun h=>absurd h (by omega)⟩
   · dsimp only;rw [←q2L h h32,byteM _ _ hx.1 (by omega)]
     rfl
   with_reducible refine sx1 hwr ?_;trivial
 obtain rfl:i=32:=by omega
 refine gy3 hl hbl Ac ?_;refine ⟨fun h=>absurd h (by omega),fun _=> ?_⟩
 have e:List.take 32 (bytesP h 32)++List.drop (List.take 32 (bytesP h 32)).length (List.replicate 32 (0:UInt8))=shaS b:=by
  rw [Ab (by omega),hbl,q7W]
  unfold shaS;rw [hp,hN,hH];simp
 have el:(shaS b).length=32:=q0H _;have e':=e;simp only [List.replicate] at e';rw [e',if_pos el];exact ⟨_,rfl,rfl⟩
theorem xor8(a b:UInt8):xorK .u8 (a.toNat:Int) (b.toNat:Int)=((a^^^ b).toNat:Int):=by
 unfold xorK;have ha:=a.toNat_lt;have hb:=b.toNat_lt;have hx:a.toNat^^^ b.toNat<2^ 8:=Nat.xor_lt_two_pow ha hb;have e:(BitVec.ofInt IntKind.u8.bits (a.toNat:Int) ^^^ BitVec.ofInt IntKind.u8.bits (b.toNat:Int)).toNat=a.toNat^^^ b.toNat:=by
  rw [BitVec.toNat_xor,AO,AO,AX,AX];rw [show 2^ IntKind.u8.bits=256 from rfl,AY ha,AY hb]
 rw [e,u8wrapR,UInt8.toNat_xor];omega
def hkP(k:List UInt8)(c:UInt8)(n:Nat):List UInt8:=(List.range 64).map fun i=>if i<n then k.getD i 0^^^ c else 0
def hkC(k:List UInt8):List UInt8:=if 64<k.length then shaS k else k
def hkS(k:List UInt8)(c:UInt8):List UInt8:=hkP (hkC k) c 64
theorem q2x(k:List UInt8)(c:UInt8)(n:Nat):(hkP k c n).length=64:=by simp [hkP]
theorem z4A(k:List UInt8)(c:UInt8){i:Nat}(hi:i<64):(hkP k c i).getD i 0=0:=by
 simp [hkP,Aa,hi]
theorem q6t(k:List UInt8)(c:UInt8){i:Nat}(hi:i<64):(hkP k c i).set i (k.getD i 0^^^ c)=hkP k c (i+1):=by
 apply Au
 · simp [hkP]
 intro j h1 h2;rw [A4];simp only [hkP,AC,Ax];split
 · subst_vars;rw [if_pos (by omega)]
 rename_i hne;by_cases hj:j<i
 · rw [if_pos hj,if_pos (by omega)]
 rw [if_neg hj,if_neg (by omega)]
theorem q8U(k:List UInt8)(c:UInt8):hkP k c 0=List.replicate 64 0:=by
 unfold hkP;rw [BH];refine ⟨by rw [A1,Be],fun x hx=> ?_⟩
 obtain ⟨j,_,rfl⟩:=Bu.1 hx;exact if_neg (Bp _)
theorem j0p(k:List UInt8)(c:UInt8)(hb:k.length≤70368744177664):VC Tryz.prog 128 [.isl .u8 k,.raw (.int .u8 c.toNat)] [] (RowK .u8 (hkS k c)):=by
 refine q9g ?_;refine rQ fi128 ?_;refine ⟨fun hlt=> ?_,fun hge=> ?_⟩
 · have hkc:hkC k=shaS k:=if_pos (by omega)
   have hkl:(shaS k).length=32:=q0H _;have htk:List.take 32 (shaS k)=shaS k:=Ab (by omega)
   have hdr:List.drop 32 (shaS k)= []:=AW (by omega)
   refine q0a (z7b k hb) ?_;refine gyd4 hkl htk hdr Ac ?_;refine ⟨⟨by omega,by omega⟩,?_⟩
   refine q0d (ι:=Nat) (fun i=>[(7,rI i)]) (fun i=>[.row .u8 (hkP (shaS k) c i),.row .u8 (shaS k)]) (fun i=>64-i) (fun i=>i≤64) 0 (Ai _) (by rw [q8U];first|done|rfl) ?_ ?_
   · with_reducible refine sxE ?_;trivial
   intro i hi;have hwr:=wsx i (by omega)
   have hpl:=q2x (shaS k) c i;by_cases h64:i<64
   · have hg0:=z4A (shaS k) c h64;have hsl:((hkP (shaS k) c i).set i ((shaS k).getD i 0)).length=64:=by rw [Bb];exact hpl
     have hsg:((hkP (shaS k) c i).set i ((shaS k).getD i 0)).getD i 0=(shaS k).getD i 0:=q2c (by omega)
     refine uQ 600 _ ?_;simp (maxSteps:=3000000) only [hpl,hsl,hsg,hg0,hkl,xor8,AB,Aq,Ac,Ty.dflt,go_sem,↓zA,↓reduceIte,↓reduceDIte] <;>try simp only [zB]
     refine ⟨fun _=>⟨fun hk=> ?_,fun hk=> ?_⟩,fun h=>absurd h (by omega)⟩
     · repeat (with_reducible refine And.intro (by first|omega|exact And.intro (by omega) (by omega)) ?_)
       refine ⟨i+1,h64,by dsimp only;omega,?_,?_⟩
       · dsimp only;rw [Cq,q6t (shaS k) c h64]
       with_reducible refine sx1 hwr ?_;trivial
     have hz:(shaS k).getD i 0=0:=by rw [Aa,AS (by omega)];rfl
     refine ⟨⟨by omega,by omega⟩,by omega,⟨by omega,by omega⟩,by omega,i+1,h64,by dsimp only;omega,?_,?_⟩
     · dsimp only;rw [←q6t (shaS k) c h64,hz]
     with_reducible refine sx1 hwr ?_;trivial
   obtain rfl:i=64:=by omega
   refine gy3 hpl hkl Ac ?_;refine ⟨fun h=>absurd h (by omega),fun _=> ?_⟩
   exact q5O (h:=0) (by unfold hkS;rw [hkc];rfl) (by unfold hkS;rw [q2x])
 have hkc:hkC k=k:=if_neg (by omega)
 have hkl:k.length=k.length:=rfl;refine q0d (ι:=Nat) (fun i=>[(7,rI i)]) (fun i=>[.row .u8 (hkP k c i)]) (fun i=>64-i) (fun i=>i≤64) 0 (Ai _) (by rw [q8U];first|done|rfl) ?_ ?_
 · with_reducible refine sxE ?_;trivial
 intro i hi;have hwr:=wsx i (by omega)
 have hpl:=q2x k c i;by_cases h64:i<64
 · have hg0:=z4A k c h64;have hsl:((hkP k c i).set i (k.getD i 0)).length=64:=by rw [Bb];exact hpl
   have hsg:((hkP k c i).set i (k.getD i 0)).getD i 0=k.getD i 0:=q2c (by omega)
   refine uQ 600 _ ?_;simp (maxSteps:=3000000) only [hpl,hsl,hsg,hg0,hkl,xor8,AB,Aq,Ac,Ty.dflt,go_sem,↓zA,↓reduceIte,↓reduceDIte] <;>try simp only [zB]
   refine ⟨fun _=>⟨fun hk=> ?_,fun hk=> ?_⟩,fun h=>absurd h (by omega)⟩
   · repeat (with_reducible refine And.intro (by first|omega|exact And.intro (by omega) (by omega)) ?_)
     refine ⟨i+1,h64,by dsimp only;omega,?_,?_⟩
     · dsimp only;rw [Cq,q6t k c h64]
     with_reducible refine sx1 hwr ?_;trivial
   have hz:k.getD i 0=0:=by rw [Aa,AS (by omega)];rfl
   refine ⟨⟨by omega,by omega⟩,by omega,⟨by omega,by omega⟩,by omega,i+1,h64,by dsimp only;omega,?_,?_⟩
   · dsimp only;rw [←q6t k c h64,hz]
   with_reducible refine sx1 hwr ?_;trivial
 obtain rfl:i=64:=by omega
 refine gy3 hpl hkl Ac ?_;refine ⟨fun h=>absurd h (by omega),fun _=> ?_⟩
 exact q5O (h:=0) (by unfold hkS;rw [hkc];rfl) (by unfold hkS;rw [q2x])
def dblS(b:UInt8):UInt8:=if 128≤b.toNat then (b<<<1) ^^^ 27 else b<<<1
theorem shl8(b:UInt8):IntKind.u8.wrap ((b.toNat:Int)*2^ min 1 8)=((b<<<1).toNat:Int):=by
 rw [u8wrapR,UInt8.toNat_shiftLeft,CI];have:(1:UInt8).toNat%8=1:=rfl;rw [this,show ((2:Int) ^ min 1 8)=2 from rfl]
 omega
theorem xor27(b:UInt8):xorK .u8 (b.toNat:Int) 27=((b^^^ 27).toNat:Int):=xor8 b 27
theorem z1z(b:UInt8):PC Tryz.prog 134 [.raw (.int .u8 b.toNat)] (.raw (.int .u8 (dblS b).toNat)):=by
 refine q0p rfl rfl ?_;refine rQ fi134 ?_;rw [shl8,xor27];unfold dblS;exact ⟨fun h=>by rw [if_pos (by omega)],fun h=>by rw [if_neg (by omega)]⟩
def mulA:Nat→Nat→UInt8→UInt8→UInt8
 |0,_,_,p=>p
 |n+1,a,b,p=>if a=0 then p else mulA n (a / 2) (dblS b) (if a%2=1 then p^^^ b else p)
def mulS(a b:UInt8):UInt8:=mulA 8 a.toNat b 0
theorem q9C(n:Nat)(b p:UInt8):mulA n 0 b p=p:=by
 cases n with
 |zero=>rfl
 |succ n=>exact if_pos rfl
theorem q9R{n a:Nat}(b p:UInt8)(h0:a≠0)(h:a<2^ n):∃m,a / 2<2^ m∧mulA n a b p=mulA m (a / 2) (dblS b) (if a%2=1 then p^^^ b else p):=by
 cases n with
 |zero=>simp at h;omega
 |succ n=>exact ⟨n,by rw [Nat.pow_succ] at h;omega,if_neg h0⟩
theorem z8s(a b:UInt8):PC Tryz.prog 148 [.raw (.int .u8 a.toNat),.raw (.int .u8 b.toNat)] (.raw (.int .u8 (mulS a b).toNat)):=by
 refine q0p rfl rfl ?_;refine rQ fi148 ?_;have ha:=a.toNat_lt;obtain ⟨R,hR⟩:∃R,R=mulS a b:=⟨_,rfl⟩;rw [←hR];refine q0d (ι:=Nat×UInt8×UInt8) (fun s=>[(0,.raw (.int .u8 s.1)),(1,.raw (.int .u8 s.2.1.toNat)),(5,.raw (.int .u8 s.2.2.toNat))]) (fun _=>[]) (fun s=>s.1) (fun s=>s.1<256∧∃n,s.1<2^ n∧R=mulA n s.1 s.2.1 s.2.2) (a.toNat,b,0) ⟨ha,8,ha,hR⟩ rfl ?_ ?_
 · with_reducible refine sxE ?_
   rfl
 rintro ⟨x,y,p⟩ ⟨hx,n,hn,hRn⟩;dsimp only at*;by_cases h0:x=0
 · subst h0;rw [q9C] at hRn;subst hRn;have f1:((0:Int) < (((0:Nat):Int)))=False:=eq_false (by omega)
   refine gy1 f1 ?_;trivial
 have f1:((0:Int) < (x:Int))=True:=eq_true (by omega)
 obtain ⟨m,hm,hRm⟩:=q9R y p h0 hn;rw [hRm] at hRn;have e1:IntKind.u8.wrap ((x:Int).tdiv 2)=((x / 2:Nat):Int):=by
  rw [u8wrapR,A8 (by omega)];omega
 have e2:(x:Int).tmod 2=((x%2:Nat):Int):=by
  rw [As (by omega)];omega
 refine gy3 f1 e1 e2 ?_;refine ⟨by decide,fun hb=>⟨by decide,q0a (z1z y) ?_⟩,fun hb=>⟨by decide,q0a (z1z y) ?_⟩⟩
 · rw [if_pos (by omega)] at hRn
   refine gQ ?_;refine ⟨(x / 2,dblS y,p^^^ y),⟨by dsimp only;omega,m,hm,hRn⟩,by dsimp only;omega,rfl,?_⟩
   simp (maxSteps:=3000000) only [xor8,go_sem,↓zA,↓reduceIte,↓reduceDIte] <;>try simp only [zB]
 rw [if_neg (by omega)] at hRn
 refine gQ ?_;refine ⟨(x / 2,dblS y,p),⟨by dsimp only;omega,m,hm,hRn⟩,by dsimp only;omega,rfl,?_⟩
 with_reducible refine sxE ?_;trivial
def fP(g:Nat→UInt8)(n:Nat):List UInt8:=(List.range 16).map fun i=>if i<n then g i else 0
def fS(g:Nat→UInt8):List UInt8:=(List.range 16).map g
theorem q7P(g:Nat→UInt8)(n:Nat):(fP g n).length=16:=by simp [fP]
theorem q1U(g:Nat→UInt8):(fS g).length=16:=by simp [fS]
theorem z1E(g:Nat→UInt8):fP g 0=List.replicate 16 0:=by
 unfold fP;rw [BH];refine ⟨by rw [A1,Be],fun x hx=> ?_⟩
 obtain ⟨j,_,rfl⟩:=Bu.1 hx;exact if_neg (Bp _)
theorem z6D(g:Nat→UInt8):fP g 16=fS g:=by
 unfold fP fS;exact Bg fun i hi=>if_pos (Bw.1 hi)
theorem z4N(g:Nat→UInt8){i:Nat}(_hi:i<16):(fP g i).set i (g i)=fP g (i+1):=by
 apply Au
 · simp [fP]
 intro j h1 h2;rw [A4];simp only [fP,AC,Ax];split
 · subst_vars;rw [if_pos (by omega)]
 rename_i hne;by_cases hj:j<i
 · rw [if_pos hj,if_pos (by omega)]
 rw [if_neg hj,if_neg (by omega)]
theorem j0w(g:Nat→UInt8){i:Nat}(hi:i<16):(fS g).getD i 0=g i:=by
 simp [fS,Aa,hi]
def addS(b w:List UInt8)(r:Nat):List UInt8:=fS fun i=>b.getD i 0^^^ w.getD (16*r+i) 0
theorem j0y(b w:List UInt8)(r:Nat)(hb:b.length=16)(hw:16*r+16≤w.length)(hwl:w.length≤4096):PC Tryz.prog 135 [.isl .u8 b,.isl .u8 w,rI r] (.isl .u8 (addS b w r)):=by
 refine q0i rfl rfl ?_;refine rQ fi135 ?_;refine q0d (ι:=Nat) (fun i=>[(8,rI i)]) (fun i=>[.row .u8 (fP (fun i=>b.getD i 0^^^ w.getD (16*r+i) 0) i)]) (fun i=>16-i) (fun i=>i≤16) 0 (Ai _) (by rw [z1E];first|done|rfl) ?_ ?_
 · with_reducible refine sxE ?_;trivial
 intro i hi;have hwr:=wsx i (by omega)
 have hpl:=q7P (fun i=>b.getD i 0^^^ w.getD (16*r+i) 0) i;by_cases h:i<16
 · have f1:((i:Int) <16)=True:=eq_true (by omega)
   have e1:IntKind.i64.wrap (16* (r:Int))=((16*r:Nat):Int):=by rw [wrapi (by omega)];omega
   have e2:IntKind.i64.wrap (((16*r:Nat):Int)+ (i:Int))=((16*r+i:Nat):Int):=by rw [wrapi (by omega)];omega
   refine uQ 600 _ ?_;simp (maxSteps:=3000000) only [f1,e1,e2,hpl,xor8,AB,Aq,Ac,Ty.dflt,go_sem,↓zA,↓reduceIte,↓reduceDIte] <;>try simp only [zB]
   refine ⟨⟨by omega,by omega⟩,⟨by omega,by omega⟩,⟨by omega,h⟩,h,i+1,h,by dsimp only;omega,?_,?_⟩
   · dsimp only;rw [z4N _ h]
   with_reducible refine sx1 hwr ?_;trivial
 obtain rfl:i=16:=by omega
 have f1:(((16:Nat):Int) <16)=False:=eq_false (by omega)
 refine gy3 f1 hpl Ac ?_;rw [Ab (by omega),z6D]
 rfl
def mixA(b f:List UInt8)(c r:Nat):Nat→UInt8
 |0=>0
 |k+1=>mixA b f c r k^^^ mulS (f.getD ((k+4-r)%4) 0) (b.getD (4*c+k) 0)
def mixS(b f:List UInt8):List UInt8:=fS fun i=>mixA b f (i / 4) (i%4) 4
theorem j2f(g:Nat→UInt8){n:Nat}(_hn:n<16):(fP g n).set n 0=fP g n:=by
 apply Au
 · simp [fP]
 intro j h1 h2;rw [A4];split
 · subst_vars
   simp [fP]
 rfl
theorem j3w(b f:List UInt8)(hb:b.length=16)(hf:f.length=4):PC Tryz.prog 136 [.isl .u8 b,.dat (.arr 4 .u8) f] (.isl .u8 (mixS b f)):=by
 refine q0i rfl rfl ?_;refine rQ fi136 ?_;obtain ⟨g,hg⟩:∃g:Nat→UInt8,g=fun i=>mixA b f (i / 4) (i%4) 4:=⟨_,rfl⟩;refine q0d (ι:=Nat) (fun i=>[(6,rI i)]) (fun i=>[.row .u8 f,.row .u8 (fP g (4*i))]) (fun i=>4-i) (fun i=>i≤4) 0 (Ai _) (by rw [Cs,z1E];first|done|rfl) ?_ ?_
 · with_reducible refine sxE ?_;trivial
 intro c hc;have hwr:=wsx c (by omega)
 by_cases h:c<4
 · have f1:((c:Int) <4)=True:=eq_true (by omega)
   refine gy1 f1 ?_;refine q0d (ι:=Nat) (fun i=>[(7,rI i)]) (fun i=>[.row .u8 f,.row .u8 (fP g (4*c+i))]) (fun i=>4-i) (fun i=>i≤4) 0 (Ai _) rfl ?_ ?_
   · with_reducible refine sxE ?_;trivial
   intro r hr;have hwr2:=wsx r (by omega)
   by_cases h2:r<4
   · have f2:((r:Int) <4)=True:=eq_true (by omega)
     refine gy1 f2 ?_;refine q0d (ι:=Nat) (fun i=>[(8,rI i)]) (fun i=>[.row .u8 f,.row .u8 ((fP g (4*c+r)).set (4*c+r) (mixA b f c r i))]) (fun i=>4-i) (fun i=>i≤4) 0 (Ai _) (by rw [mixA,j2f _ (by omega)]) ?_ ?_
     · with_reducible refine sxE ?_;trivial
     intro k hk;have hwr3:=wsx k (by omega)
     have hpl:((fP g (4*c+r)).set (4*c+r) (mixA b f c r k)).length=16:=by rw [Bb,q7P]
     by_cases h3:k<4
     · have f3:((k:Int) <4)=True:=eq_true (by omega)
       have e1:IntKind.i64.wrap (4* (c:Int))=((4*c:Nat):Int):=by rw [wrapi (by omega)];omega
       have e2:IntKind.i64.wrap (((4*c:Nat):Int)+ (r:Int))=((4*c+r:Nat):Int):=by rw [wrapi (by omega)];omega
       have e3:IntKind.i64.wrap (((4*c:Nat):Int)+ (k:Int))=((4*c+k:Nat):Int):=by rw [wrapi (by omega)];omega
       have e4:IntKind.i64.wrap ((k:Int) - (r:Int))=(k:Int) -r:=wrapi (by omega)
       have e5:IntKind.i64.wrap ((k:Int) - (r:Int)+4)=((k+4-r:Nat):Int):=by rw [wrapi (by omega)];omega
       have e6:(((k+4-r:Nat):Int)).tmod 4=(((k+4-r)%4:Nat):Int):=by
        rw [As (by omega)];omega
       have e7:IntKind.i64.wrap (((k+4-r)%4:Nat):Int)=(((k+4-r)%4:Nat):Int):=wrapi (by omega)
       have hget:((fP g (4*c+r)).set (4*c+r) (mixA b f c r k)).getD (4*c+r) 0=mixA b f c r k:=q2c (by rw [q7P];omega)
       refine uQ 600 _ ?_;simp (maxSteps:=3000000) only [f3,e1,e2,e3,e4,e5,e6,e7,hpl,hf,hget,Aq,Ac,Ty.dflt,go_sem,↓zA,↓reduceIte,↓reduceDIte] <;>try simp only [zB]
       repeat (with_reducible refine And.intro (by first|omega|decide|exact And.intro (by omega) (by omega)) ?_)
       refine q0e (z8s _ _) ?_;refine uQ 600 _ ?_;simp (maxSteps:=3000000) only [hpl,xor8,AB,Aq,Ac,Ty.dflt,go_sem,↓zA,↓reduceIte,↓reduceDIte] <;>try simp only [zB]
       repeat (with_reducible refine And.intro (by first|omega|decide|exact And.intro (by omega) (by omega)) ?_)
       refine ⟨k+1,h3,by dsimp only;omega,?_,?_⟩
       · dsimp only;rw [Cq,mixA]
       with_reducible refine sx1 hwr3 ?_;trivial
     obtain rfl:k=4:=by omega
     have f3:(((4:Nat):Int) <4)=False:=eq_false (by omega)
     refine gy1 f3 ?_;refine ⟨r+1,h2,by dsimp only;omega,?_,?_⟩
     · have hgg:mixA b f c r 4=g (4*c+r):=by
        rw [hg];dsimp only;rw [show (4*c+r) / 4=c by omega,show (4*c+r)%4=r by omega]
       rw [hgg,z4N _ (by omega)]
       rfl
     with_reducible refine sx1 hwr2 ?_;trivial
   obtain rfl:r=4:=by omega
   have f2:(((4:Nat):Int) <4)=False:=eq_false (by omega)
   refine gy1 f2 ?_;refine ⟨c+1,h,by dsimp only;omega,rfl,?_⟩
   with_reducible refine sx1 hwr ?_;trivial
 obtain rfl:c=4:=by omega
 have f1:(((4:Nat):Int) <4)=False:=eq_false (by omega)
 have hpl:=q7P g (4*4);refine gy2 f1 hpl ?_;rw [Ab (by rw [q7P];exact Ag _),z6D,hg]
 rfl
theorem q7d(b:UInt8):PC Tryz.prog 197 [.raw (.int .u8 b.toNat)] (.raw (.int .u8 (dblS b).toNat)):=by
 refine q0p rfl rfl ?_;refine rQ fi197 ?_;rw [shl8,xor27];unfold dblS;exact ⟨fun h=>by rw [if_pos (by omega)],fun h=>by rw [if_neg (by omega)]⟩
theorem and1{x:Nat}(hx:x<256):andK .u8 (x:Int) 1=((x%2:Nat):Int):=by
 have h:∀n:Fin 256,andK .u8 (n.val:Int) 1=((n.val%2:Nat):Int):=by decide
 exact h ⟨x,hx⟩
theorem z9m(a b:UInt8):PC Tryz.prog 199 [.raw (.int .u8 a.toNat),.raw (.int .u8 b.toNat)] (.raw (.int .u8 (mulS a b).toNat)):=by
 refine q0p rfl rfl ?_;refine rQ fi199 ?_;have ha:=a.toNat_lt;obtain ⟨R,hR⟩:∃R,R=mulS a b:=⟨_,rfl⟩;rw [←hR];refine q0d (ι:=Nat×UInt8×UInt8) (fun s=>[(0,.raw (.int .u8 s.1)),(1,.raw (.int .u8 s.2.1.toNat)),(4,.raw (.int .u8 s.2.2.toNat))]) (fun _=>[]) (fun s=>s.1) (fun s=>s.1<256∧∃n,s.1<2^ n∧R=mulA n s.1 s.2.1 s.2.2) (a.toNat,b,0) ⟨ha,8,ha,hR⟩ rfl ?_ ?_
 · with_reducible refine sxE ?_
   rfl
 rintro ⟨x,y,p⟩ ⟨hx,n,hn,hRn⟩;dsimp only at*;by_cases h0:x=0
 · subst h0;rw [q9C] at hRn;subst hRn;refine gQ ?_;trivial
 have f1:((x:Int)=0)=False:=eq_false (by omega)
 obtain ⟨m,hm,hRm⟩:=q9R y p h0 hn;rw [hRm] at hRn;refine gy1 f1 ?_;have e1:(x:Int).fdiv (2^ min 1 8)=((x / 2:Nat):Int):=by
  show (x:Int).fdiv 2=_;rw [AV _ (by decide)];omega
 rw [and1 hx];refine ⟨fun hb=>q0a (q7d y) ?_,fun hb=>q0a (q7d y) ?_⟩
 · rw [if_pos (by omega)] at hRn
   refine gy1 e1 ?_;refine ⟨(x / 2,dblS y,p^^^ y),⟨by dsimp only;omega,m,hm,hRn⟩,by dsimp only;omega,rfl,?_⟩
   simp (maxSteps:=3000000) only [xor8,go_sem,↓zA,↓reduceIte,↓reduceDIte] <;>try simp only [zB]
 rw [if_neg (by omega)] at hRn
 refine gy1 e1 ?_;refine ⟨(x / 2,dblS y,p),⟨by dsimp only;omega,m,hm,hRn⟩,by dsimp only;omega,rfl,?_⟩
 with_reducible refine sxE ?_;trivial
theorem q7I(i:Nat)(hi:i<16):PC Tryz.prog 190 [rI i] (rI ((4* (i / 4+i%4)+i%4)%16:Nat)):=by
 refine q0p rfl rfl ?_;refine rQ fi190 ?_;have h:∀n:Fin 16,((IntKind.i64.wrap (IntKind.i64.wrap (4*IntKind.i64.wrap (IntKind.i64.wrap (((n.val:Nat):Int).tdiv 4)+ ((n.val:Nat):Int).tmod 4))+ ((n.val:Nat):Int).tmod 4)).tmod 16)=(((4* (n.val / 4+n.val%4)+n.val%4)%16:Nat):Int):=by decide
 exact ⟨by decide,by decide,by decide,by decide,congrArg _ (h ⟨i,hi⟩)⟩
abbrev CipT:Ty:=.prod (.prod (.arr 256 .u8) (.arr 256 .u8)) (.prod (.arr 176 .u8) .bool)
abbrev PasT:Ty:=.prod (.ptr CipT) (.prod (.arr 16 .u8) (.arr 16 .u8))
def gP(b:List UInt8)(g:Nat→UInt8)(n:Nat):List UInt8:=(List.range 16).map fun j=>if j<n then g j else b.getD j 0
theorem q6z(b:List UInt8)(g:Nat→UInt8)(n:Nat):(gP b g n).length=16:=by simp [gP]
theorem q5k{b:List UInt8}(g:Nat→UInt8)(hb:b.length=16):gP b g 0=b:=by
 apply Au
 · rw [q6z,hb]
 intro j h1 h2;simp [gP,Aa,Ae h2]
theorem q7U(b:List UInt8)(g:Nat→UInt8):gP b g 16=fS g:=by
 unfold gP fS;exact Bg fun i hi=>if_pos (Bw.1 hi)
theorem z2E(b:List UInt8)(g:Nat→UInt8){i n:Nat}(hi:i<16)(hn:n≤i):(gP b g n).getD i 0=b.getD i 0:=by
 simp only [gP,Aa,AG,BU hi,BL,A3];rw [if_neg (by omega)]
theorem q7K(b:List UInt8)(g:Nat→UInt8){i:Nat}(hi:i<16):(gP b g i).set i (g i)=gP b g (i+1):=by
 apply Au
 · simp [gP]
 intro j h1 h2;rw [A4];simp only [gP,AC,Ax];split
 · subst_vars;rw [if_pos (by omega)]
 rename_i hne;by_cases hj:j<i
 · rw [if_pos hj,if_pos (by omega)]
 rw [if_neg hj,if_neg (by omega)]
theorem z3b(c:Option CipT.den)(b k:List UInt8)(hb:b.length=16)(hk:k.length=16):PE Tryz.prog 172 [.rptr 0 PasT 0 0] [.row PasT [(c,(b,k))]] (.ret (.tup [])) [.row PasT [(c,(addS b k 0,k))]]:=by
 refine q0g (Ag _) ?_;refine rQ fi172 ?_;refine q0d (ι:=Nat) (fun i=>[(3,rI i)]) (fun i=>[.row PasT [(c,(gP b (fun j=>b.getD j 0^^^ k.getD j 0) i,k))]]) (fun i=>16-i) (fun i=>i≤16) 0 (Ai _) (by rw [q5k _ hb]) ?_ fun i hi=> ?_
 · with_reducible refine sxE ?_;trivial
 have hwr:=wsx i (by omega)
 have hgl:=q6z b (fun j=>b.getD j 0^^^ k.getD j 0) i;by_cases hlt:i<16
 · have f1:((i:Int) <16)=True:=eq_true (by omega)
   refine uQ 600 _ ?_;have hgg:(gP b (fun j=>b.getD j 0^^^ k.getD j 0) i).getD i Ty.u8.dflt=b.getD i 0:=z2E _ _ hlt (Ag _);have hkk:k.getD i Ty.u8.dflt=k.getD i 0:=rfl;simp (maxSteps:=3000000) only [f1,hgl,hk,Ay,hgg,hkk,xor8,Aq,AB,go_sem,↓zA,↓reduceIte,↓reduceDIte] <;>try simp only [zB]
   refine ⟨⟨by omega,hlt⟩,hlt,⟨by omega,hlt⟩,hlt,⟨by omega,hlt⟩,hlt,i+1,hlt,by show 16- (i+1) <16-i;omega,?_,?_⟩
   · dsimp only;rw [←q7K b (fun j=>b.getD j 0^^^ k.getD j 0) hlt]
   with_reducible refine sx1 hwr ?_;trivial
 obtain rfl:i=16:=by omega
 rw [q7U];refine uQ 600 _ ?_;have f1:(((16:Nat):Int) <16)=False:=eq_false (by omega)
 simp (maxSteps:=3000000) only [f1,go_sem,↓zA,↓reduceIte,↓reduceDIte] <;>try simp only [zB]
 simp only [addS,Cs,Ac]
theorem z4v(c:CipT.den)(x:UInt8):PC Tryz.prog 196 [.iptr CipT c 0,.raw (.int .u8 x.toNat)] (.raw (.int .u8 ((c.1.1:List UInt8).getD x.toNat 0).toNat)):=by
 refine q0p rfl rfl ?_;refine rQ fi196 ?_;have hx:=x.toNat_lt;exact ⟨⟨by omega,hx⟩,rfl⟩
theorem q9b(c:CipT.den)(b k:List UInt8)(hb:b.length=16):PE Tryz.prog 186 [.rptr 0 PasT 0 0] [.row PasT [(some c,(b,k))]] (.ret (.tup [])) [.row PasT [(some c,(fS fun j=>(c.1.1:List UInt8).getD (b.getD j 0).toNat 0,k))]]:=by
 refine q0g (Ag _) ?_;refine rQ fi186 ?_;refine q0d (ι:=Nat) (fun i=>[(3,rI i)]) (fun i=>[.row PasT [(some c,(gP b (fun j=>(c.1.1:List UInt8).getD (b.getD j 0).toNat 0) i,k))]]) (fun i=>16-i) (fun i=>i≤16) 0 (Ai _) (by rw [q5k _ hb]) ?_ fun i hi=> ?_
 · with_reducible refine sxE ?_;trivial
 have hwr:=wsx i (by omega)
 have hgl:=q6z b (fun j=>(c.1.1:List UInt8).getD (b.getD j 0).toNat 0) i;by_cases hlt:i<16
 · have f1:((i:Int) <16)=True:=eq_true (by omega)
   have hgg:(gP b (fun j=>(c.1.1:List UInt8).getD (b.getD j 0).toNat 0) i).getD i Ty.u8.dflt=b.getD i 0:=z2E _ _ hlt (Ag _);refine uQ 600 _ ?_;simp (maxSteps:=3000000) only [f1,hgl,Ay,hgg,CH,Ty.cells,go_sem,↓zA,↓reduceIte,↓reduceDIte] <;>try simp only [zB]
   refine ⟨⟨by omega,hlt⟩,hlt,q0e (z4v c (b.getD i 0)) ?_⟩
   refine uQ 600 _ ?_;simp (maxSteps:=3000000) only [hgl,Ay,Aq,AB,go_sem,↓zA,↓reduceIte,↓reduceDIte] <;>try simp only [zB]
   refine ⟨⟨by omega,hlt⟩,hlt,i+1,hlt,by show 16- (i+1) <16-i;omega,?_,?_⟩
   · dsimp only;rw [←q7K b (fun j=>(c.1.1:List UInt8).getD (b.getD j 0).toNat 0) hlt]
   with_reducible refine sx1 hwr ?_;trivial
 obtain rfl:i=16:=by omega
 rw [q7U];refine uQ 600 _ ?_;have f1:(((16:Nat):Int) <16)=False:=eq_false (by omega)
 simp (maxSteps:=3000000) only [f1,go_sem,↓zA,↓reduceIte,↓reduceDIte] <;>try simp only [zB]
theorem z5F(c:CipT.den)(x:UInt8):PC Tryz.prog 191 [.iptr CipT c 0,.raw (.int .u8 x.toNat)] (.raw (.int .u8 ((c.1.2:List UInt8).getD x.toNat 0).toNat)):=by
 refine q0p rfl rfl ?_;refine rQ fi191 ?_;have hx:=x.toNat_lt;exact ⟨⟨by omega,hx⟩,rfl⟩
theorem z3M(c:CipT.den)(b k:List UInt8)(hb:b.length=16):PE Tryz.prog 175 [.rptr 0 PasT 0 0] [.row PasT [(some c,(b,k))]] (.ret (.tup [])) [.row PasT [(some c,(fS fun j=>(c.1.2:List UInt8).getD (b.getD j 0).toNat 0,k))]]:=by
 refine q0g (Ag _) ?_;refine rQ fi175 ?_;refine q0d (ι:=Nat) (fun i=>[(3,rI i)]) (fun i=>[.row PasT [(some c,(gP b (fun j=>(c.1.2:List UInt8).getD (b.getD j 0).toNat 0) i,k))]]) (fun i=>16-i) (fun i=>i≤16) 0 (Ai _) (by rw [q5k _ hb]) ?_ fun i hi=> ?_
 · with_reducible refine sxE ?_;trivial
 have hwr:=wsx i (by omega)
 have hgl:=q6z b (fun j=>(c.1.2:List UInt8).getD (b.getD j 0).toNat 0) i;by_cases hlt:i<16
 · have f1:((i:Int) <16)=True:=eq_true (by omega)
   have hgg:(gP b (fun j=>(c.1.2:List UInt8).getD (b.getD j 0).toNat 0) i).getD i Ty.u8.dflt=b.getD i 0:=z2E _ _ hlt (Ag _);refine uQ 600 _ ?_;simp (maxSteps:=3000000) only [f1,hgl,Ay,hgg,CH,Ty.cells,go_sem,↓zA,↓reduceIte,↓reduceDIte] <;>try simp only [zB]
   refine ⟨⟨by omega,hlt⟩,hlt,q0e (z5F c (b.getD i 0)) ?_⟩
   refine uQ 600 _ ?_;simp (maxSteps:=3000000) only [hgl,Ay,Aq,AB,go_sem,↓zA,↓reduceIte,↓reduceDIte] <;>try simp only [zB]
   refine ⟨⟨by omega,hlt⟩,hlt,i+1,hlt,by show 16- (i+1) <16-i;omega,?_,?_⟩
   · dsimp only;rw [←q7K b (fun j=>(c.1.2:List UInt8).getD (b.getD j 0).toNat 0) hlt]
   with_reducible refine sx1 hwr ?_;trivial
 obtain rfl:i=16:=by omega
 rw [q7U];refine uQ 600 _ ?_;have f1:(((16:Nat):Int) <16)=False:=eq_false (by omega)
 simp (maxSteps:=3000000) only [f1,go_sem,↓zA,↓reduceIte,↓reduceDIte] <;>try simp only [zB]
end Go.Proofs.YtikapabgggphpaaGreatDoor
namespace Go.Sx
open Go

variable {P:Program}

def Ty.bare:Ty→Bool
 |.slice _=>false
 |.ptr _=>false
 |.clo _ _=>false
 |.clp _ _=>false
 |.mbs _=>false
 |.prod a b=>a.bare&& b.bare
 |.arr _ t=>t.bare
 |_=>true
theorem q4A{I I':Nat→Prop}{w w':World}:∀ (t:Ty) (x:t.den) (vs:List Value),t.bare=true→t.rel I w x vs→t.rel I' w' x vs
 |.u8,_,_,_,h=>h
 |.int _,_,_,_,h=>h
 |.bool,_,_,_,h=>h
 |.str,_,_,_,h=>h
 |.slice _,_,_,hb,_=>by cases hb
 |.prod a b,x,vs,hb,h=>by
  simp only [Ty.bare,Am] at hb;obtain ⟨v1,v2,rfl,h1,h2⟩:=h;exact ⟨v1,v2,rfl,q4A a _ _ hb.1 h1,q4A b _ _ hb.2 h2⟩
 |.unit,_,_,_,h=>h
 |.arr n t,xs,vs,hb,h=>by
  obtain ⟨hn,vss,rfl,hl,h⟩:=h;exact ⟨hn,vss,rfl,hl,fun i x us hx hu=>q4A t _ _ hb (h i x us hx hu)⟩
 |.ptr _,_,_,hb,_=>by cases hb
 |.clo _ _,_,_,hb,_=>by cases hb
 |.clp _ _,_,_,hb,_=>by cases hb
 |.mbs _,_,_,hb,_=>by cases hb
def SObj.bare:SObj→Bool
 |.dead=>true
 |.row t _=>t.bare
 |_=>false
theorem z3v{C C':Cx}{h:Nat}:∀ {o:SObj},o.bare=true→C'.ρ h=C.ρ h→(o.live=true→∀b,C.ρ h=some b→C'.w.heap[b]?=C.w.heap[b]?)→objDen C h o→objDen C' h o
 |.dead,_,_,_,_=>trivial
 |.row t xs,hb,hr,hw,d=>by
  rcases d with ⟨h1,h2⟩ | ⟨b,arr,T,fz,h1,h2,h3,h4,h5⟩
  · exact .inl ⟨hr.trans h1,h2⟩
  refine .inr ⟨b,arr,T,fz,hr.trans h1,(hw rfl b h1).trans h2,h3,h4,fun i x hx=> ?_⟩;obtain ⟨us,g1,g2⟩:=h5 i x hx;exact ⟨us,q4A t _ _ hb g1,fun k u hu=>by rw [←g2 k u hu];exact World.cell?_of_block (hw rfl b h1)⟩
 |.cells ..,hb,_,_,_=>by cases hb
 |.map ..,hb,_,_,_=>by cases hb
 |.mark _,hb,_,_,_=>by cases hb
mutual
def SV.bare:SV→Bool
 |.raw _=>true
 |.dat t _=>t.bare
 |.agg l=>SV.bareL l
 |.tup l=>SV.bareL l
 |.any=>true
 |_=>false
def SV.bareL:List SV→Bool
 | []=>true
 |s :: l=>s.bare&& SV.bareL l
end
mutual
theorem z2k{C C':Cx}:∀ {s:SV} {v:Value},s.bare=true→s.den C v→s.den C' v
 |.any,_,_,_=>by rw [SV.den];trivial
 |.raw u,v,_,h=>by rw [SV.den] at h⊢;exact h
 |.dat t x,v,hb,h=>by
  rw [SV.den] at h⊢;obtain ⟨vs,hv,hr⟩:=h;exact ⟨vs,hv,q4A t _ _ (by simpa [SV.bare] using hb) hr⟩
 |.agg l,v,hb,h=>by
  rw [SV.den] at h⊢;obtain ⟨vs,hv,hr⟩:=h;exact ⟨vs,hv,q6O (by simpa [SV.bare] using hb) hr⟩
 |.tup l,v,hb,h=>by
  rw [SV.den] at h⊢;obtain ⟨vs,hv,hr⟩:=h;exact ⟨vs,hv,q6O (by simpa [SV.bare] using hb) hr⟩
 |.isl ..,_,hb,_=>by simp [SV.bare] at hb
 |.fsl ..,_,hb,_=>by simp [SV.bare] at hb
 |.iptr ..,_,hb,_=>by simp [SV.bare] at hb
 |.ptr ..,_,hb,_=>by simp [SV.bare] at hb
 |.rptr ..,_,hb,_=>by simp [SV.bare] at hb
 |.bld ..,_,hb,_=>by simp [SV.bare] at hb
 |.osl ..,_,hb,_=>by simp [SV.bare] at hb
 |.csl ..,_,hb,_=>by simp [SV.bare] at hb
 |.fn ..,_,hb,_=>by simp [SV.bare] at hb
 |.iface ..,_,hb,_=>by simp [SV.bare] at hb
 |.mp ..,_,hb,_=>by simp [SV.bare] at hb
 |.imap ..,_,hb,_=>by simp [SV.bare] at hb
theorem q6O{C C':Cx}:∀ {l:List SV} {vs:List Value},SV.bareL l=true→SV.denL C l vs→SV.denL C' l vs
 | [],_,_,h=>by rw [SV.denL] at h⊢;exact h
 |s :: l,_,hb,h=>by
  rw [SV.denL] at h⊢;simp only [SV.bareL,Am] at hb;obtain ⟨v,us,rfl,h1,h2⟩:=h;exact ⟨v,us,rfl,z2k hb.1 h1,q6O hb.2 h2⟩
end

def RLies(t:Ty)(xs:List t.den)(off:Nat)(t2:Ty)(y:t2.den):Prop:=
 (∃x,xs= [x]∧t.get x off t2.size=some ⟨t2,y⟩)∨(t2= .arr xs.length t∧off=0∧t.size=1∧0<xs.length∧HEq y xs)
inductive Bor (h:Nat) (t:Ty) (xs:List t.den):SV→SV→Prop where
 |keep {s:SV} (hb:s.bel h=true):Bor h t xs s s
 |bld {n:Nat} (hn:n≤xs.length):Bor h t xs (.bld h t n) (.isl t (xs.take n))
 |osl {off n:Nat} (hn:off+n≤xs.length):Bor h t xs (.osl h t off n) (.isl t ((xs.drop off).take n))
 |csl {e:Ty} {k i n:Nat} {ys:List e.den} {p:Prop} (ho:ownPart e k i n (.row t xs)=some (ys,p)) (hp:p) (hn:n≤1125899906842624):Bor h t xs (.csl h e k i n) (.isl e ys)
 |ptr {t' t2:Ty} {i k:Nat} {y:t2.den} (hr:RLies t xs (i*t'.size+k) t2 y):Bor h t xs (.rptr h t' i k) (.iptr t2 y 0)
inductive BorL (h:Nat) (t:Ty) (xs:List t.den):List SV→List SV→Prop where
 |nil:BorL h t xs [] []
 |cons {s s':SV} {l l':List SV} (h1:Bor h t xs s s') (h2:BorL h t xs l l'):BorL h t xs (s :: l) (s' :: l')

variable {H:List SObj}
theorem rlies{C:Cx}{h off:Nat}{t t2:Ty}{xs:List t.den}{y:t2.den}(hw:Wd C H)(hH:H[h]?=some (.row t xs))(hr:RLies t xs off t2 y):∃b,C.ρ h=some b∧Lies C.I C.w b off t2 y:=by
 rcases hr with ⟨x,rfl,hg⟩ | ⟨e,rfl,hs,hl,hy⟩
 · obtain ⟨b,hb,h1⟩:=q1y (i:=0) hw hH rfl;rw [BB] at h1;have h2:=(q9K t hg h1).1;rw [Ac] at h2;exact ⟨b,hb,h2⟩
 subst e;cases hy;obtain ⟨b,hb,h1⟩:=q9d (i:=0) (m:=xs.length) hw hH hs (by omega) hl
 rw [Az,AE] at h1;exact ⟨b,hb,h1⟩
theorem j1D{C:Cx}{h:Nat}{t:Ty}{xs:List t.den}(hw:Wd C H)(hH:H[h]?=some (.row t xs))(hlen:xs.length≤1125899906842624){s s':SV}{v:Value}(hb:Bor h t xs s s')(hd:s.den C v):s'.den {C.frz h with n:=h} v:=by
 have hk:Keeps C.I (C.frz h).I C.w C.w:=fun b hb=>⟨.inl hb,rfl⟩;cases hb with
 |keep hb=>
  have h1:=q8j (σ:=fun h=>h) hb (by rw [z2p];exact hd)
  exact q0V (C:=C.ren (fun h=>h) h) (C':={C.frz h with n:=h}) ⟨Ag _,fun _ _=>rfl,fun b (hb:C.I b)=>⟨Or.inl hb,rfl⟩,fun _ _ h=>h⟩ h1
 |bld hn=>
  have:=q4W hw hH hlen (off:=0) (by omega) (q5y hd)
  rw [Az] at this;exact q0C (C:=C.frz h) (Keeps.refl _ _) rfl this
 |osl hn=>exact q0C (C:=C.frz h) (Keeps.refl _ _) rfl (q4W hw hH hlen hn hd)
 |csl ho hp hn=>
  rename_i e k i n ys p;obtain ⟨h1,h2⟩:=q7Z hw hH ho hp;simp only [SV.den] at hd;obtain ⟨_,A,c,rfl,hc,hd⟩:=hd;rw [SV.den.eq_def];refine ⟨A,n,c,rfl,h1.symm,hc,hn,?_⟩;rcases hd with h0| ⟨b,hb,rfl⟩
  · exact .inl (Bz.1 (h1.trans h0))
  refine .inr ⟨b,_,rfl,.inr hb,fun j y hy=> ?_⟩;obtain ⟨us,g1,g2⟩:=h2 b hb j y hy;exact ⟨us,Ty.rel_keep hk _ _ _ g1,g2⟩
 |ptr hr=>
  obtain ⟨b,hb,us,g1,g2⟩:=rlies hw hH hr;obtain ⟨b',hb',rfl⟩:=q3y hd;rw [hb] at hb';cases hb';rw [SV.den.eq_def];exact ⟨b,_,us,rfl,.inr hb,Ty.rel_keep hk _ _ _ g1,g2⟩
theorem z9e{C:Cx}{h:Nat}{t:Ty}{xs:List t.den}(hw:Wd C H)(hH:H[h]?=some (.row t xs))(hlen:xs.length≤1125899906842624){l l':List SV}(hb:BorL h t xs l l'):∀ {vs:List Value},SV.denL C l vs→SV.denL {C.frz h with n:=h} l' vs:=by
 induction hb with
 |nil=>intro vs hd;rw [SV.denL] at hd⊢;exact hd
 |cons h1 _ ih=>
  intro vs hd;rw [SV.denL] at hd⊢;obtain ⟨v,us,rfl,d1,d2⟩:=hd;exact ⟨v,us,rfl,j1D hw hH hlen h1 d1,ih d2⟩
theorem z3e{l:List SObj}(h:l.all SObj.bare=true){i:Nat}{o:SObj}(ho:l[i]?=some o):o.bare=true:=BI.1 h o (By ho)
theorem q7Q{f:FuncId}{args args':List SV}{H0 H1:List SObj}{s:SV}{t:Ty}{xs:List t.den}(hp:VCall P f args' H0 fun o' H'=>o'= .ret s∧H'=H1)(hl:H1.length=H0.length)(hb0:H0.all SObj.bare=true)(hb1:H1.all SObj.bare=true)(hs:s.bare=true)
 (hlen:xs.length≤1125899906842624)(hb:BorL H0.length t xs args args'):VCall P f args (H0++ [.row t xs]) fun o' H'=>o'= .ret s∧H'=H1++ [.row t xs]:=by
 intro C vs hw ht hv;have hH:(H0++ [SObj.row t xs])[H0.length]?=some (.row t xs):=by rw [Ao (Ag _)];simp
 have hn:C.n=H0.length+1:=by rw [hw.n];simp
 have hget:∀ {i o},H0[i]?=some o→(H0++ [SObj.row t xs])[i]?=some o:=fun hi=>by rw [Ak (Af.1 hi).1];exact hi
 have hown0:∀b,OwnB {C.frz H0.length with n:=H0.length} H0 b→OwnB C (H0++ [.row t xs]) b∧C.ρ H0.length≠some b:=by
  rintro b ⟨i,o,ho,hlv,hbb⟩;refine ⟨⟨i,o,hget ho,hlv,hbb⟩,fun e=> ?_⟩;have:=hw.inj i H0.length o _ b (hget ho) hH hlv rfl hbb e;have:=(Af.1 ho).1;omega
 have hwb:Wd {C.frz H0.length with n:=H0.length} H0:=by
  refine ⟨rfl,fun i o ho=>z3v (C:=C) (z3e hb0 ho) rfl (fun _ _ _=>rfl) (hw.obj i o (hget ho)),fun b hb'=> ?_,fun i j o o' b ho ho' hlv hlv' h1 h2=>hw.inj i j o o' b (hget ho) (hget ho') hlv hlv' h1 h2,fun b hb'=> ?_⟩
  · obtain ⟨h1,h2⟩:=hown0 b hb';exact ⟨fun h=>h.elim (hw.own b h1).1 h2,(hw.own b h1).2⟩
  exact hb'.elim (hw.imm b) fun h=>(hw.own b ⟨_,_,hH,rfl,h⟩).2
 refine (hp {C.frz H0.length with n:=H0.length} vs hwb (ht.sub rfl (fun b hb'=>.inl hb') fun b hb'=>(hown0 b hb').1) (z9e hw hH hlen hb hv)).mono ?_
 rintro e w' ⟨o,H',C',⟨rfl,rfl⟩,rfl,hw',hx,v,rfl,hd⟩;have hρ:∀i,i<H0.length→C'.ρ i=C.ρ i:=fun i hi=>hx.evo.ρ i hi
 let D:Cx:={ρ:=C.ρ,n:=H0.length+1,I:=fun b=>C'.I b∧C.ρ H0.length≠some b,w:=C'.w}
 have hK:Keeps C.I D.I C.w C'.w:=fun b hb'=>⟨⟨(hx.evo.I b (.inl hb')).1,fun e=>(hw.own b ⟨_,_,hH,rfl,e⟩).1 hb'⟩,(hx.evo.I b (.inl hb')).2⟩;have hevo:Evo C D:=⟨by rw [hn];exact Ag _,fun _ _=>rfl,hK,hx.evo.sz⟩
 have hcase:∀ {i oo},(H'++ [SObj.row t xs])[i]?=some oo→(i<H0.length∧H'[i]?=some oo)∨(i=H0.length∧oo= .row t xs):=fun {i oo} hi=>by
  rcases AJ i H'.length with h1|h1
  · rw [Ak h1] at hi;exact .inl ⟨by omega,hi⟩
  rw [Ao h1] at hi;have:i-H'.length=0:=by
   have:=(Af.1 hi).1;simpa using this
  rw [this] at hi;exact .inr ⟨by omega,by simpa using hi.symm⟩
 have hlast:∀b,C.ρ H0.length=some b→C'.I b:=fun b hb'=>(hx.evo.I b (.inr hb')).1;have hownD:∀b,OwnB D (H'++ [.row t xs]) b→OwnB C' H' b∨C.ρ H0.length=some b:=by
  rintro b ⟨i,oo,ho,hlv,hbb⟩;rcases hcase ho with ⟨h1,h2⟩ | ⟨rfl,_⟩
  · exact .inl ⟨i,oo,h2,hlv,(hρ i h1).trans hbb⟩
  exact .inr hbb
 refine ⟨.ret s,_,D,⟨rfl,rfl⟩,rfl,⟨?_,fun i oo ho=> ?_,fun b hb'=> ?_,fun i j oo oo' b ho ho' hlv hlv' h1 h2=> ?_,fun b hb'=>hw'.imm b hb'.1⟩,
  ⟨hevo,hx.size,hx.os,hx.tape,hx.output,fun b h1 h2=>hx.frame b h1 fun hq=>h2 (hown0 b hq).1,fun b hb'=> ?_,fun b hb'=> ?_,fun n _ hn'=> ?_⟩,v,rfl,z2k hs hd⟩
 · show H0.length+1=_;simp [hl]
 · rcases hcase ho with ⟨h1,h2⟩ | ⟨rfl,rfl⟩
   · exact z3v (C:=C') (C':=D) (z3e hb1 h2) (hρ i h1).symm (fun _ _ _=>rfl) (hw'.obj i oo h2)
   exact q0z (C':=D) hK _ rfl (fun b hb'=>(hx.evo.I b (.inr hb')).2) (q0n hevo) (hw.obj _ _ hH)
 · rcases hownD b hb' with h1|h1
   · exact ⟨fun h=>(hw'.own b h1).1 h.1,(hw'.own b h1).2⟩
   exact ⟨fun h=>h.2 h1,hw'.imm b (hlast b h1)⟩
 · rcases hcase ho with ⟨g1,g2⟩ | ⟨rfl,rfl⟩ <;>rcases hcase ho' with ⟨g1',g2'⟩ | ⟨rfl,rfl⟩
   · exact hw'.inj i j oo oo' b g2 g2' hlv hlv' ((hρ i g1).trans h1) ((hρ j g1').trans h2)
   · exact absurd (hlast b h2) (hw'.own b ⟨i,oo,g2,hlv,(hρ i g1).trans h1⟩).1
   · exact absurd (hlast b h1) (hw'.own b ⟨j,oo',g2',hlv',(hρ j g1').trans h2⟩).1
   rfl
 · rcases hx.immNew b hb'.1 with (q|q) | ⟨q|q,u⟩
   · exact .inl q
   · exact absurd q hb'.2
   · exact .inr ⟨.inl q,u⟩
   exact .inr ⟨.inr (hown0 b q).1,u⟩
 · rcases hownD b hb' with h1|h1
   · exact orMap (hx.ownNew b h1) id fun q=>(hown0 b q).1
   exact .inr ⟨_,_,hH,rfl,h1⟩
 exfalso;cases H0 with
 |nil=>simp at hn'
 |cons o l=>
  simp at hn';subst hn';simp [SObj.bare] at hb0
theorem z1X{f:FuncId}{args args':List SV}{H0 H1:List SObj}{s:SV}{t:Ty}{xs:List t.den}(hp:PE P f args' H0 (.ret s) H1)(hl:H1.length=H0.length)(hb0:H0.all SObj.bare=true)(hb1:H1.all SObj.bare=true)(hs:s.bare=true)
 (hlen:xs.length≤1125899906842624)(hb:BorL H0.length t xs args args'):PE P f args (H0++ [.row t xs]) (.ret s) (H1++ [.row t xs]):=⟨hp.1,q7Q hp.2 hl hb0 hb1 hs hlen hb⟩
theorem q5N{f:FuncId}{args args':List SV}{s:SV}{t:Ty}{xs:List t.den}(hp:PC P f args' s)(hs:s.bare=true)(hlen:xs.length≤1125899906842624)(hb:BorL 0 t xs args args'):PE P f args [.row t xs] (.ret s) [.row t xs]:=
 ⟨hp.1,q7Q (H0:=[]) (H1:=[]) (hp.2 [] _ ⟨rfl,rfl⟩) rfl rfl rfl hs hlen hb⟩
theorem z4y{α:Type}(x:α):Option.getD (none:Option α) x=x:=rfl
theorem z4C{α:Type}(x y:α):Option.getD (some y) x=y:=rfl
theorem j2t{t:Ty}{x y:t.den}:SV.leA (.dat t x) (.dat t y)=(x=y):=by simp [SV.leA]
theorem z8K{t t':Ty}{h i k h' i' k':Nat}:SV.leA (.rptr h t i k) (.rptr h' t' i' k')=(h=h'∧t=t'∧i=i'∧k=k'):=by simp [SV.leA]
attribute [go_sem] z4y z4C j2t z8K
end Go.Sx
namespace Go.Sx
open Go

variable {P:Program} {AQ:Ex→List SV→List SObj→Prop} {k0:Nat} {k:List It} {t:List SV} {H:List SObj}

@[reducible] def frzN(q:Nat→Prop)(w0:World)(N:Nat):Ghost where
 inv0:=fun E C H=>(E.C.w.heap.size≤N∧∀b,TBlk b→b<N)∧ZInv q w0 C H
 fin:=fun E _ _ ds=>ds=E.base∧True
 toFin0:=fun _ _=>⟨rfl,trivial⟩
 next0:=fun {E _ _ _ _} hx h=>⟨h.1,(frzG q w0).next0 (E:=E) hx h.2⟩
 same0:=fun {E _ _ _ _} hw e hk hi ho hm hl h=>⟨h.1,(frzG q w0).same0 (E:=E) hw e hk hi ho hm hl h.2⟩

theorem q5F{Q Q':Exit→Act→World→Prop}(hq:∀e a w,Q e a w→Q' e a w)(h:LetsOut Q):LetsOut Q':=by
 obtain ⟨a,w,h⟩:=h;exact ⟨a,w,hq _ _ _ h⟩
theorem z3I{F:Fence}{n:Nat}{o:Oper}{a:Act}{w:World}{K K':Act→World→Prop}{Q Q':Exit→Act→World→Prop}(h:∀a w,K a w→K' a w)(hq:∀e a w,Q e a w→Q' e a w)
 (hh:o.wpIn F n P a w K Q):o.wpIn F n P a w K' Q':=by
 unfold Oper.wpIn at*;refine ⟨hh.1,?_⟩;have hh:=hh.2;generalize (o.semAt F.round a.eval).run P w=r at*;cases r with
 |ok x w'=>
  cases x<;>simp only [Oper.uponIn] at hh⊢ <;>
   first
    |exact h _ _ hh
    |exact ⟨hh.1,CallsIn.mono hh.2 (fun e w'' he=>by cases e<;>first|exact h _ _ he|exact hq _ _ _ he|exact q5F hq he)⟩
    |exact ⟨hh.1,RowsIn.mono hh.2 (fun _ _ he=>h _ _ he)⟩
    |exact ⟨hh.1,RoundIn.mono hh.2 (fun e w'' he=>by cases e<;>first|exact h _ _ he|exact hq _ _ _ he|exact q5F hq he)⟩
 |halt x w'=>cases x<;>simp only [Oper.uponIn] at hh⊢ <;>first|exact hq _ _ _ hh|exact hh
theorem q4Q{F:Fence}{n:Nat}{all:Array Oper}{Q Q':Exit→Act→World→Prop}(hq:∀e a w,Q e a w→Q' e a w):∀ (l:List Nat) (a:Act) (w:World),wpOpsIn F n P all Q l a w→wpOpsIn F n P all Q' l a w
 | [],a,w,h=>hq _ _ _ h
 |i :: l,a,w,h=>by
  unfold wpOpsIn at h⊢;split
  · rename_i ho;simp only [ho] at h;exact q4Q hq l a w h
  rename_i o ho;simp only [ho] at h;split
  · rename_i hw;rw [if_pos hw] at h;exact z3I (fun a w h=>q4Q hq l a w h) hq h
  rename_i hw;rw [if_neg hw] at h;exact ⟨h.1,q4Q hq l _ w h.2⟩

def noStop:List It→Bool
 | []=>true
 |.code _ :: k=>noStop k
 |.ops _ _ :: k=>noStop k
 |.blk _ :: k=>noStop k
 |_ :: _=>false
theorem q3p{G G':Ghost}{F:Fence}{n:Nat}{E E':EnD}{Q Q':Exit→Act→World→Prop}(hq:∀e a w,Q' e a w→Q e a w):∀ (k:List It),noStop k=true→
 (∀a w, @wpT G' F n P E' Q' k a w→ @wpT G F n P E Q k a w)∧(∀id a w, @exitT G' F n P E' Q' id k a w→ @exitT G F n P E Q id k a w)
 | [],_=>⟨fun a w h=>by simp only [wpT] at h⊢;exact hq _ _ _ h,fun id a w h=>by simp only [exitT] at h⊢;exact hq _ _ _ h⟩
 |.code c :: k,hs=>by
  obtain ⟨h1,h2⟩:=q3p (G:=G) (G':=G') (F:=F) (n:=n) (E:=E) (E':=E') hq k hs;refine ⟨fun a w h=> ?_,fun id a w h=>by simp only [exitT] at h⊢;exact h2 id a w h⟩
  simp only [wpT] at h⊢;refine wpIn_mono h fun e a w hh=> ?_;cases e with
  |normal=>exact h1 a w hh
  |exit id=>exact h2 id a w hh
  |_=>exact hq _ _ _ hh
 |.ops all l :: k,hs=>by
  obtain ⟨h1,h2⟩:=q3p (G:=G) (G':=G') (F:=F) (n:=n) (E:=E) (E':=E') hq k hs;refine ⟨fun a w h=> ?_,fun id a w h=>by simp only [exitT] at h⊢;exact h2 id a w h⟩
  simp only [wpT] at h⊢;refine q4Q (fun e a w hh=> ?_) l a w h;cases e with
  |normal=>exact h1 a w hh
  |exit id=>exact h2 id a w hh
  |_=>exact hq _ _ _ hh
 |.blk id' :: k,hs=>by
  obtain ⟨h1,h2⟩:=q3p (G:=G) (G':=G') (F:=F) (n:=n) (E:=E) (E':=E') hq k hs;refine ⟨fun a w h=>by simp only [wpT] at h⊢;exact h1 a w h,fun id a w h=> ?_⟩
  simp only [exitT] at h⊢;split
  · rw [if_pos (by assumption)] at h;exact h1 a w h
  rw [if_neg (by assumption)] at h;exact h2 id a w h
variable {td:List IT}
def noStopI:List IT→Bool
 | []=>true
 |.ic _ :: k=>noStopI k
 |.ops _ :: k=>noStopI k
 |.blk _ :: k=>noStopI k
 |_ :: _=>false
theorem q2Z:∀ {td:List IT} {r:List It},RelT P td r→noStopI td=true→noStop r=true
 | [],r,h,_=>by cases h;rfl
 |.ic c :: k,r,h,hs=>by obtain ⟨c',r',rfl,_,hr⟩:=h;exact (q2Z (td:=k) (r:=r') hr hs:noStop r'=true)
 |.ops l :: k,r,h,hs=>by obtain ⟨all,idx,r',rfl,_,hr⟩:=h;exact (q2Z (td:=k) (r:=r') hr hs:noStop r'=true)
 |.blk id :: k,r,h,hs=>by obtain ⟨r',rfl,hr⟩:=h;exact (q2Z (td:=k) (r:=r') hr hs:noStop r'=true)
end Go.Sx
