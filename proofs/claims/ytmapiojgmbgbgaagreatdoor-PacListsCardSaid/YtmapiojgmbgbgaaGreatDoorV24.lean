/- SHA-256: contracts: the program's words. -/
import Derived.Test.YtmapiojgmbgbgaaGreatDoorV23
set_option linter.all false
namespace Go.Proofs.YtmapiojgmbgbgaaGreatDoor
open Go Go.Sx Go.Proofs
set_option maxRecDepth 100000
set_option maxHeartbeats 40000000
theorem rotS:∀n:Nat,n<32→1≤n→andK .u64 (IntKind.u64.wrap (-(n:Int))) 31=((32-n:Nat):Int):=by decide
theorem rotU:∀n:Nat,n<32→1≤n→IntKind.u64.wrap (32- ((32-n:Nat):Int))=(n:Int):=by decide
theorem j2S(m n:Nat)(h1:1≤n)(h2:n≤31)(hm:m<4294967296):((BitVec.ofInt 32 (IntKind.u32.wrap ((m:Int)*2^ (32-n))) |||BitVec.ofInt 32 ((m:Int).fdiv (2^ n))).toNat:Int)=rotW n m:=by
 have e1:IntKind.u32.wrap ((m:Int)*2^ (32-n))=((m*2^ (32-n)%4294967296:Nat):Int):=by
  have h:∀y:Int,IntKind.u32.wrap y=y%4294967296:=fun y=>rfl;rw [h];simp
 have e2:((m:Int).fdiv (2^ n))=((m / 2^ n:Nat):Int):=by
  rw [A6 _ (by exact_mod_cast Al (2^ n))];simp
 have h4:m*2^ (32-n)%4294967296=2^ (32-n)* (m%2^ n):=by
  have:(4294967296:Nat)=2^ n*2^ (32-n):=by rw [←CO,show n+ (32-n)=32 by omega]
  rw [this,Nat.mul_mod_mul_right,Ct]
 have hm':m<2^ n*2^ (32-n):=by rw [←CO,show n+ (32-n)=32 by omega];omega
 have h3:m / 2^ n<2^ (32-n):=Nat.div_lt_of_lt_mul hm';have h5:m / 2^ n≤m:=Nat.div_le_self _ _;have h6:m*2^ (32-n)%4294967296<4294967296:=Nat.mod_lt _ (by decide)
 rw [e1,e2,Cl,AI,AI,AS,AS,AL (a:=m*2^ (32-n)%4294967296) (b:=2^ 32) h6,AL (a:=m / 2^ n) (b:=2^ 32) (Nat.lt_of_le_of_lt h5 hm),h4,←CH h3];unfold rotW;have e3:((m:Int)*2^ (32-n)%4294967296)=((m*2^ (32-n)%4294967296:Nat):Int):=by simp
 have e4:((m:Int) / 2^ n)=((m / 2^ n:Nat):Int):=by simp
 rw [e3,e4,h4,Int.natCast_add,Int.add_comm]
theorem j2P(x:Int)(n:Nat)(h1:1≤n)(h2:n≤31)(hx:inW x):PC Tryz.prog 307 [.raw (.int .u32 x),.raw (.int .i64 (-(n:Int)))] (.raw (.int .u32 (rotW n x))):=by
 have e0:=rotS n (by omega) h1
 have e5:=rotU n (by omega) h1
 refine q0w rfl rfl ?_;refine rQ fi307 ?_;unfold orK;rw [e0,e5,BP,BP,Bf (by omega),Bf (by omega)]
 obtain ⟨m,rfl⟩:∃m:Nat,x=m:=⟨x.toNat,by omega⟩
 refine ⟨by omega,?_⟩
 have h:=j2S m n h1 h2 (by omega)
 have hw:=q3h h1 h2 hx;refine congrArg (Value.int .u32) ?_;refine (congrArg IntKind.u32.wrap h).trans (w32 hw)
def turnS(x:Int)(ns:List Nat):Nat→Int
 |0=>0
 |i+1=>xorW (turnS x ns i) (rotW (ns.getD i 1) x)
theorem z2D{x:Int}{ns:List Nat}(hx:inW x)(hn:∀n∈ns,1≤n∧n≤31):∀i,inW (turnS x ns i)
 |0=>by simp [turnS,inW]
 |i+1=>by
  have h:1≤ns.getD i 1∧ns.getD i 1≤31:=by
   rcases AC i ns.length with h|h
   · rw [Ad,Ab h];exact hn _ (B7 _)
   rw [Ad,AJ h];decide
  exact q7p (z2D hx hn i) (q3h h.1 h.2 hx)
theorem q0M(x:Int)(ns:List Nat)(hx:inW x)(hn:∀n∈ns,1≤n∧n≤31)(hl:ns.length≤64):PC Tryz.prog 298 [.raw (.int .u32 x),.isl (.int .i64) (ns.map fun (n:Nat)=>(n:Int))] (.raw (.int .u32 (turnS x ns ns.length))):=by
 refine q0w rfl rfl ?_;have hml:(ns.map fun (n:Nat)=>(n:Int)).length=ns.length:=A5 ..;refine rQ fi298 ?_;refine q0y (ι:=Nat) (fun i=>[(4,.raw (.int .u32 (turnS x ns i))),(9,rI i)]) (fun i=>[]) (fun i=>ns.length-i) (fun i=>i≤ns.length) 0 (Al _) rfl ?_ ?_
 · with_reducible refine sxE ?_
   rfl
 intro i hi;have hwr:=wsx i (by omega)
 by_cases h:i<ns.length
 · have hg:(ns.map fun (n:Nat)=>(n:Int)).getD i 0=((ns.getD i 1:Nat):Int):=by
    rw [Ad,Ab (by omega),Ad,Ab h];simp
   have hr:1≤ns.getD i 1∧ns.getD i 1≤31:=by
    rw [Ad,Ab h];exact hn _ (B7 _)
   have hneg:IntKind.i64.wrap (0- ((ns.getD i 1:Nat):Int))= -((ns.getD i 1:Nat):Int):=by rw [IntWalk.i64_in _ (by omega)];omega
   refine gyd4 hml hg hneg Ac ?_;refine ⟨fun _=>⟨⟨by omega,h⟩,q0a (j2P _ _ hr.1 hr.2 hx) ?_⟩,fun hh=>absurd h hh⟩
   have hxi:=z2D hx hn i;have hxo:=xor32 hxi (q3h hr.1 hr.2 hx);refine gy1 hxo ?_;refine ⟨i+1,h,by dsimp only;omega,rfl,?_⟩
   with_reducible refine sx1 hwr ?_
   rfl
 obtain rfl:i=ns.length:=by omega
 refine gy1 hml ?_;exact ⟨fun h=>absurd h (by omega),fun _=>trivial⟩
theorem byteU(x:Int)(m:Nat)(hx:inW x)(hm:m≤32):UInt8.ofNat (IntKind.u8.wrap (x.fdiv (2^ min m 32))).toNat=UInt8.ofNat (x.toNat / 2^ m%256):=by
 obtain ⟨n,rfl⟩:∃n:Nat,x=n:=⟨x.toNat,by omega⟩
 have e:((n:Int).fdiv (2^ m))=((n / 2^ m:Nat):Int):=by
  rw [A6 _ (by exact_mod_cast Al (2^ m))]
  simp
 rw [Bf hm,e,BP];generalize n / 2^ m=m;rw [u8wrapR];congr 1
theorem byteU0(x:Int)(hx:inW x):UInt8.ofNat (IntKind.u8.wrap x).toNat=UInt8.ofNat (x.toNat / 2^ 0%256):=by
 rw [u8wrapR];congr 1;rw [Nat.pow_zero,Nat.div_one];omega
theorem wordB4(h:List Int)(i j:Nat)(hj:j<4):wordB h (4*i+j)=UInt8.ofNat ((h.getD i 0).toNat / 2^ (24-8*j)%256):=by
 unfold wordB;rw [show (4*i+j) / 4=i by omega,show (4*i+j)%4=j by omega]
theorem bytesP4(h:List Int){i:Nat}(hi:i<8):((((bytesP h (4*i)).set (4*i) (UInt8.ofNat ((h.getD i 0).toNat / 2^ 24%256))).set (4*i+1) (UInt8.ofNat ((h.getD i 0).toNat / 2^ 16%256))).set (4*i+2) (UInt8.ofNat ((h.getD i 0).toNat / 2^ 8%256))).set (4*i+3) (UInt8.ofNat ((h.getD i 0).toNat / 2^ 0%256))=bytesP h (4* (i+1)):=by
 rw [show UInt8.ofNat ((h.getD i 0).toNat / 2^ 24%256)=wordB h (4*i) from (wordB4 h i 0 (by decide)).symm,q4a h (by omega),
  show UInt8.ofNat ((h.getD i 0).toNat / 2^ 16%256)=wordB h (4*i+1) from (wordB4 h i 1 (by decide)).symm,q4a h (by omega),
  show UInt8.ofNat ((h.getD i 0).toNat / 2^ 8%256)=wordB h (4*i+2) from (wordB4 h i 2 (by decide)).symm,q4a h (by omega),
  show UInt8.ofNat ((h.getD i 0).toNat / 2^ 0%256)=wordB h (4*i+3) from (wordB4 h i 3 (by decide)).symm,q4a h (by omega)]
 rfl
theorem z6m(h:List Int)(hh:inWs h):PC Tryz.prog 283 [.dat (.arr 8 (.int .u32)) h] (.dat (.arr 32 .u8) (bytesS h)):=by
 refine q0w rfl rfl ?_;refine rQ fi283 ?_;have hl:=hh.1;have htk:List.take 8 h=h:=Ah (by omega)
 refine ⟨by omega,?_⟩
 rw [htk];refine q0y (ι:=Nat) (fun i=>[(6,rI i)]) (fun i=>[.row (.int .u32) h,.row .u8 (bytesP h (4*i))]) (fun i=>8-i) (fun i=>i≤8) 0 (Al _) rfl ?_ ?_
 · with_reducible refine sxE ?_;trivial
 intro i hi;have hwr:=wsx i (by omega)
 have hbl:=q8f h (4*i);by_cases h8:i<8
 · have hx:=q0h hh i h8;have w0:IntKind.i64.wrap (4* (i:Int))=((4*i:Nat):Int):=by rw [wrapi (by omega)];omega
   have w1:IntKind.i64.wrap (((4*i:Nat):Int)+1)=((4*i+1:Nat):Int):=q1L (by omega)
   have w2:IntKind.i64.wrap (((4*i:Nat):Int)+2)=((4*i+2:Nat):Int):=by rw [wrapi (by omega)];omega
   have w3:IntKind.i64.wrap (((4*i:Nat):Int)+3)=((4*i+3:Nat):Int):=by rw [wrapi (by omega)];omega
   refine uQ 600 _ ?_;simp (maxSteps:=3000000) only [hl,hbl,w0,w1,w2,w3,A4,Ac,Ty.dflt,go_sem,↓zA,↓reduceIte,↓reduceDIte] <;>try simp only [zB]
   refine ⟨fun _=>⟨⟨by omega,by omega⟩,⟨by omega,by omega⟩,⟨by omega,q2D _⟩,⟨by omega,by omega⟩,⟨by omega,q2D _⟩,⟨by omega,by omega⟩,⟨by omega,q2D _⟩,⟨by omega,by omega⟩,⟨by omega,q2D _⟩,i+1,h8,by dsimp only;omega,?_,?_⟩,fun h=>absurd h (by omega)⟩
   · rw [byteU _ 24 hx (by decide),byteU _ 16 hx (by decide),byteU _ 8 hx (by decide),byteU0 _ hx]
     show _= [SObj.row (.int .u32) h,SObj.row .u8 (bytesP h (4* (i+1)))];rw [←bytesP4 h h8]
   with_reducible refine sx1 hwr ?_;trivial
 obtain rfl:i=8:=by omega
 refine gy3 hl hbl Ac ?_;refine ⟨fun h=>absurd h (by omega),fun _=> ?_⟩
 have e:List.take 32 (bytesP h 32)++List.drop (List.take 32 (bytesP h 32)).length (bytesP h 32)=bytesS h:=by
  have hbl:(bytesP h 32).length=32:=q8f h 32;rw [Ah (by omega),hbl,AY (by omega),Ai,z4G]
 have el:(bytesS h).length=32:=q1p _;rw [e,if_pos el];exact ⟨_,rfl,rfl⟩
abbrev HH:Ty:=.prod (.arr 8 (.int .u32)) (.prod (.arr 64 .u8) (.int .i64))
abbrev MH:Ty:=.prod (.prod (.arr 64 .u8) (.arr 64 .u8)) (.prod HH .bool)
theorem orW{a b:Nat}{k:Nat}(hb:b<2^ k)(h:2^ k*a+b<4294967296):orK .u32 ((2^ k*a:Nat):Int) (b:Int)=((2^ k*a+b:Nat):Int):=by
 unfold orK;have h1:(BitVec.ofInt IntKind.u32.bits ((2^ k*a:Nat):Int) |||BitVec.ofInt IntKind.u32.bits (b:Int)).toNat=2^ k*a+b:=by
  rw [Cl,AI,AI,AS,AS];rw [show 2^ IntKind.u32.bits=4294967296 from rfl,AL (a:=2^ k*a) (by omega),AL (a:=b) (by omega),←CH hb]
 rw [h1];exact w32 (by constructor<;>omega)
theorem u32n(n:Nat)(h:n<4294967296):IntKind.u32.wrap (n:Int)=(n:Int):=w32 (by constructor<;>omega)
theorem or4(c:Nat→UInt8):orK .u32 (orK .u32 (orK .u32 (IntKind.u32.wrap (IntKind.u32.wrap ((c 0).toNat:Int)*2^ min 24 32)) (IntKind.u32.wrap (IntKind.u32.wrap ((c 1).toNat:Int)*2^ min 16 32))) (IntKind.u32.wrap (IntKind.u32.wrap ((c 2).toNat:Int)*2^ min 8 32))) (IntKind.u32.wrap ((c 3).toNat:Int))=((256* (256* (256* (c 0).toNat+ (c 1).toNat)+ (c 2).toNat)+ (c 3).toNat:Nat):Int):=by
 have h0:=(c 0).toNat_lt;have h1:=(c 1).toNat_lt;have h2:=(c 2).toNat_lt;have h3:=(c 3).toNat_lt;generalize (c 0).toNat=a0 at*;generalize (c 1).toNat=a1 at*;generalize (c 2).toNat=a2 at*;generalize (c 3).toNat=a3 at*;have e0:IntKind.u32.wrap (IntKind.u32.wrap (a0:Int)*2^ min 24 32)=((2^ 24*a0:Nat):Int):=by
  rw [u32n a0 (by omega),show (2:Int) ^ min 24 32=16777216 from rfl,w32 (by constructor<;>omega)];omega
 have e1:IntKind.u32.wrap (IntKind.u32.wrap (a1:Int)*2^ min 16 32)=((2^ 16*a1:Nat):Int):=by
  rw [u32n a1 (by omega),show (2:Int) ^ min 16 32=65536 from rfl,w32 (by constructor<;>omega)];omega
 have e2:IntKind.u32.wrap (IntKind.u32.wrap (a2:Int)*2^ min 8 32)=((2^ 8*a2:Nat):Int):=by
  rw [u32n a2 (by omega),show (2:Int) ^ min 8 32=256 from rfl,w32 (by constructor<;>omega)];omega
 rw [e0,e1,e2,u32n a3 (by omega),orW (a:=a0) (b:=2^ 16*a1) (k:=24) (by omega) (by omega),
  show 2^ 24*a0+2^ 16*a1=2^ 16* (2^ 8*a0+a1) by omega,orW (a:=2^ 8*a0+a1) (b:=2^ 8*a2) (k:=16) (by omega) (by omega),
  show 2^ 16* (2^ 8*a0+a1)+2^ 8*a2=2^ 8* (2^ 8* (2^ 8*a0+a1)+a2) by omega,orW (a:=2^ 8* (2^ 8*a0+a1)+a2) (b:=a3) (k:=8) (by omega) (by omega)]
theorem wrapU(x:Int):IntKind.u32.wrap x=x%4294967296:=rfl
theorem z0k{x:Int}(h:inW x):xorW 0 x=x:=by
 unfold xorW;rw [Int.toNat_zero,Nat.zero_xor];omega
theorem turn2{x:Int}(h:inW x)(a b:Nat)(h1:1≤a)(h2:a≤31):turnS x [a,b] 2=xorW (rotW a x) (rotW b x):=by
 show xorW (xorW 0 (rotW a x)) (rotW b x)=_;rw [z0k (q3h h1 h2 h)]
theorem turn3{x:Int}(h:inW x)(a b c:Nat)(h1:1≤a)(h2:a≤31):turnS x [a,b,c] 3=xorW (xorW (rotW a x) (rotW b x)) (rotW c x):=by
 show xorW (xorW (xorW 0 (rotW a x)) (rotW b x)) (rotW c x)=_;rw [z0k (q3h h1 h2 h)]
theorem sg1U{y:Int}(h:inW y):xorK .u32 (turnS y [17,19] 2) (y.fdiv (2^ min 10 32))=sg1 y:=by
 have e:y.fdiv (2^ min 10 32)=y / 1024:=fdivW y 1024 (by decide)
 have h1:=q3h (n:=17) (by decide) (by decide) h
 have h2:=q3h (n:=19) (by decide) (by decide) h
 rw [e,turn2 h 17 19 (by decide) (by decide),xor32 (q7p h1 h2) (by unfold inW at*;omega)]
 rfl
theorem sg0U{y:Int}(h:inW y):xorK .u32 (turnS y [7,18] 2) (y.fdiv (2^ min 3 32))=sg0 y:=by
 have e:y.fdiv (2^ min 3 32)=y / 8:=fdivW y 8 (by decide)
 have h1:=q3h (n:=7) (by decide) (by decide) h
 have h2:=q3h (n:=18) (by decide) (by decide) h
 rw [e,turn2 h 7 18 (by decide) (by decide),xor32 (q7p h1 h2) (by unfold inW at*;omega)]
 rfl
theorem schU{x y u v:Int}(hx:inW x)(hy:inW y):IntKind.u32.wrap (IntKind.u32.wrap (IntKind.u32.wrap (xorK .u32 (turnS y [17,19] 2) (y.fdiv (2^ min 10 32))+u)+xorK .u32 (turnS x [7,18] 2) (x.fdiv (2^ min 3 32)))+v)=(sg1 y+u+sg0 x+v)%W32:=by
 rw [sg0U hx,sg1U hy,wrapU,wrapU,wrapU];unfold W32;omega
theorem bs1U{x:Int}(h:inW x):turnS x [6,11,25] 3=bs1 x:=turn3 h _ _ _ (by decide) (by decide)
theorem bs0U{x:Int}(h:inW x):turnS x [2,13,22] 3=bs0 x:=turn3 h _ _ _ (by decide) (by decide)
theorem notU{x:Int}(h:inW x):IntKind.u32.wrap ↑(BitVec.ofInt 32 (if IntKind.u32.signed=true then -1 else IntKind.u32.max) ^^^ BitVec.ofInt 32 x).toNat=4294967295-x:=by
 have e:BitVec.ofInt 32 (if IntKind.u32.signed=true then -1 else IntKind.u32.max)=BitVec.allOnes 32:=by decide
 obtain ⟨n,rfl⟩:∃n:Nat,x=n:=⟨x.toNat,by omega⟩
 rw [e,BitVec.allOnes_xor,BitVec.toNat_not,AI,AS,AL (by omega),wrapU]
 omega
theorem q4J(x y z:Int)(hx:inW x)(hy:inW y)(hz:inW z):PC Tryz.prog 299 [.raw (.int .u32 x),.raw (.int .u32 y),.raw (.int .u32 z)] (.raw (.int .u32 (chW x y z))):=by
 have hn:inW (4294967295-x):=by omega
 have e1:=and32 hx hy;have e2:=and32 hn hz;have e3:=xor32 (q3N hx hy) (q3N hn hz);refine q0w rfl rfl ?_;refine rQ fi299 ?_;refine (congrArg (fun u=>Value.int IntKind.u32 (xorK IntKind.u32 (andK IntKind.u32 x y) (andK IntKind.u32 u z))) (notU hx)).trans ?_;show Value.int IntKind.u32 (xorK IntKind.u32 (andK IntKind.u32 x y) (andK IntKind.u32 (4294967295-x) z))=_;rw [e1,e2,e3];rfl
theorem q2X(a b c:Int)(ha:inW a)(hb:inW b)(hc:inW c):PC Tryz.prog 300 [.raw (.int .u32 a),.raw (.int .u32 b),.raw (.int .u32 c)] (.raw (.int .u32 (majW a b c))):=by
 have e1:=and32 ha hb;have e2:=and32 ha hc;have e3:=and32 hb hc;have e4:=xor32 (q3N ha hb) (q3N ha hc);have e5:=xor32 (q7p (q3N ha hb) (q3N ha hc)) (q3N hb hc);refine q0w rfl rfl ?_;refine rQ fi300 ?_;rw [e1,e2,e4,e3,e5];rfl
theorem z0f(t:Nat):dat_sha_constants.getD t 0=kS t:=rfl
theorem t1U{k w:Int}{v:List Int}(hv:inWs v):IntKind.u32.wrap (IntKind.u32.wrap (IntKind.u32.wrap (IntKind.u32.wrap (v.getD 7 0+turnS (v.getD 4 0) [6,11,25] 3)+chW (v.getD 4 0) (v.getD 5 0) (v.getD 6 0))+k)+w)=t1S k w v%W32:=by
 rw [bs1U (q0h hv 4 (by decide))]
 simp only [wrapU];unfold t1S W32;omega
theorem t2U{v:List Int}(hv:inWs v):IntKind.u32.wrap (turnS (v.getD 0 0) [2,13,22] 3+majW (v.getD 0 0) (v.getD 1 0) (v.getD 2 0))=t2S v%W32:=by
 rw [bs0U (q0h hv 0 (by decide))]
 rfl
theorem aU(x y:Int):IntKind.u32.wrap (x%W32+y%W32)=(x+y)%W32:=by rw [wrapU];unfold W32;omega
theorem eU(x y:Int):IntKind.u32.wrap (x+y%W32)=(x+y)%W32:=by rw [wrapU];unfold W32;omega
theorem list8{l:List Int}(h:l.length=8):[l.getD 0 0,l.getD 1 0,l.getD 2 0,l.getD 3 0,l.getD 4 0,l.getD 5 0,l.getD 6 0,l.getD 7 0]=l:=by
 match l,h with
 | [a,b,c,d,e,f,g,i],_=>rfl
theorem j3A(b:List UInt8)(h:List Int)(hb:b.length=64)(hh:inWs h):PE Tryz.prog 282 [.rptr 0 (.int .u32) 0 0,.isl .u8 b] [.row (.int .u32) h] (.ret (.tup [])) [.row (.int .u32) (blkS b h)]:=by
 refine q0b (Ae _) ?_;refine rQ fi282 ?_;refine q0y (ι:=Nat) (fun t=>[(26,rI t)]) (fun t=>[.row (.int .u32) h,.row (.int .u32) (wL b t)]) (fun t=>16-t) (fun t=>t≤16) 0 (Al _) (by rw [q6L];rfl) ?_ ?_
 · with_reducible refine sxE ?_;trivial
 intro t ht;have hwr:=wsx t (by omega)
 have hwl:=q4h b t;by_cases hlt:t<16
 · have w1:IntKind.i64.wrap (4* (t:Int))=((4*t:Nat):Int):=by rw [wrapi (by omega)];omega
   have w4:IntKind.i64.wrap (((4*t:Nat):Int)+4)=((4*t+4:Nat):Int):=by rw [wrapi (by omega)];omega
   refine gy4 w1 w4 hwl Ac ?_;have hdl:(List.drop (4*t) (List.take (4*t+4) b)).length=4:=by rw [Ak,Aw];omega
   refine ⟨fun _=> ?_,fun h=>absurd h (by omega)⟩
   repeat (with_reducible refine And.intro (by first|omega|exact ⟨by omega,by omega,by omega,by omega⟩ |exact ⟨by omega,by omega⟩) ?_)
   refine ⟨t+1,by show t+1≤16;omega,by dsimp only;omega,?_,?_⟩
   · have hd:∀j,j<4→(List.drop (4*t) (List.take (4*t+4) b)).getD j Ty.u8.dflt=b.getD (4*t+j) 0:=fun j hj=>by
      rw [Ad,AF,BB (by omega),←Ad]
      rfl
     have ho:=or4 fun j=>(List.drop (4*t) (List.take (4*t+4) b)).getD j Ty.u8.dflt;rw [ho,hd 0 (by omega),hd 1 (by omega),hd 2 (by omega),hd 3 (by omega)]
     have hw:((256* (256* (256* (b.getD (4*t+0) 0).toNat+ (b.getD (4*t+1) 0).toNat)+ (b.getD (4*t+2) 0).toNat)+ (b.getD (4*t+3) 0).toNat:Nat):Int)=wS b t:=by
      rw [z4a hlt];simp only [wdP,byI];omega
     show [SObj.row (.int .u32) h,SObj.row (.int .u32) ((wL b t).set t ((256* (256* (256* (b.getD (4*t+0) 0).toNat+ (b.getD (4*t+1) 0).toNat)+ (b.getD (4*t+2) 0).toNat)+ (b.getD (4*t+3) 0).toNat:Nat):Int))]= [SObj.row (.int .u32) h,SObj.row (.int .u32) (wL b (t+1))];rw [hw,q4i b (by omega)]
   with_reducible refine sx1 hwr ?_;trivial
 obtain rfl:t=16:=by omega
 refine gy2 hwl Ac ?_;refine ⟨fun h=>absurd h (by omega),fun _=> ?_⟩
 refine q2d (ι:=Nat) (fun t=>[(7,rI t)]) (fun t=>[.row (.int .u32) h,.row (.int .u32) (wL b t)]) (fun t=>64-t) (fun t=>16≤t∧t≤64) 16 (by decide) 2 rfl (by decide) (fun _=>rfl) (fun _=>rfl) (fun _=>rfl) ?_ ?_
 · with_reducible refine sxE ?_
   rfl
 intro t ht;have hwl:=q4h b t;have hwr:=wsx t (by omega)
 by_cases hlt:t<64
 · have e15:IntKind.i64.wrap ((t:Int) -15)=((t-15:Nat):Int):=by rw [wrapi (by omega)];omega
   have e2:IntKind.i64.wrap ((t:Int) -2)=((t-2:Nat):Int):=by rw [wrapi (by omega)];omega
   have e7:IntKind.i64.wrap ((t:Int) -7)=((t-7:Nat):Int):=by rw [wrapi (by omega)];omega
   have e16:IntKind.i64.wrap ((t:Int) -16)=((t-16:Nat):Int):=by rw [wrapi (by omega)];omega
   have g15:=q1j b (t:=t) (j:=t-15) (by omega) (by omega)
   have g2:=q1j b (t:=t) (j:=t-2) (by omega) (by omega)
   have g7:=q1j b (t:=t) (j:=t-7) (by omega) (by omega)
   have g16:=q1j b (t:=t) (j:=t-16) (by omega) (by omega)
   have i15:=q2P b (t-15);have i2:=q2P b (t-2);have i7:=q2P b (t-7);have i16:=q2P b (t-16);refine gyd10 e15 e2 e7 e16 g15 g2 g7 g16 hwl Ac ?_;refine ⟨fun _=>⟨⟨by omega,by omega⟩,by omega,⟨by omega,by omega⟩,by omega,⟨by omega,by omega⟩,by omega,⟨by omega,by omega⟩,by omega,q0H (q0M (wS b (t-2)) [17,19] i2 (by decide) (by decide)) ?_⟩,fun h=>absurd hlt (by omega)⟩
   refine gQ ?_;refine q0L 2 (by decide) ?_
   with_reducible refine sxE ?_
   refine q0k (q0M (wS b (t-15)) [7,18] i15 (by decide) (by decide)) ?_
   refine uQ 600 _ ?_;simp (maxSteps:=3000000) only [e15,e2,e7,e16,g15,g2,g7,g16,hwl,Ac,Ty.dflt,go_sem,↓zA,↓reduceIte,↓reduceDIte] <;>try simp only [zB]
   repeat (with_reducible refine And.intro (by first|omega|exact ⟨by omega,by omega⟩) ?_)
   refine ⟨t+1,⟨by omega,hlt⟩,by dsimp only;omega,⟨[.dead],?_⟩,?_⟩
   · rw [schU i15 i2,←z4j (by omega),q4i b hlt]
     rfl
   with_reducible refine sx1 hwr ?_;trivial
 obtain rfl:t=64:=by omega
 refine gQ ?_;have hl:=hh.1;refine ⟨fun h=>absurd h (by omega),fun _=> ?_⟩
 repeat (with_reducible refine And.intro (by omega) ?_)
 refine q3v (t:=.arr 64 (.int .u32)) (x:=dat_sha_constants) (ag:=some 64) (s:=.dat (.arr 64 (.int .u32)) dat_sha_constants) (by unfold datList;repeat (first|exact .head _|apply List.Mem.tail)) rfl (.inr rfl) ?_
 refine gQ ?_;refine q2d (ι:=Nat) (fun t=>[(134,rI t),(12,.raw (.int .u32 ((rnds b h t).getD 0 0))),(13,.raw (.int .u32 ((rnds b h t).getD 1 0))),(14,.raw (.int .u32 ((rnds b h t).getD 2 0))),(15,.raw (.int .u32 ((rnds b h t).getD 3 0))),(16,.raw (.int .u32 ((rnds b h t).getD 4 0))),(17,.raw (.int .u32 ((rnds b h t).getD 5 0))),(18,.raw (.int .u32 ((rnds b h t).getD 6 0))),(19,.raw (.int .u32 ((rnds b h t).getD 7 0)))]) (fun t=>[.row (.int .u32) h,.row (.int .u32) (wL b 64)]) (fun t=>64-t) (fun t=>t≤64) 0 (Al _) 2 rfl (by decide) (fun _=>rfl) (fun _=>rfl) (fun _=>rfl) ?_ ?_
 · with_reducible refine sxE ?_
   exact ⟨rfl,rfl,rfl,rfl,rfl,rfl,rfl,rfl⟩
 intro t ht;have hwr:=wsx t (by omega)
 by_cases hlt:t<64
 · have hv:=q1v (b:=b) hh t;generalize hvv:rnds b h t=v at*;have i0:=q0h hv 0 (by decide)
   have i1:=q0h hv 1 (by decide)
   have i2:=q0h hv 2 (by decide)
   have i3:=q0h hv 3 (by decide)
   have i4:=q0h hv 4 (by decide)
   have i5:=q0h hv 5 (by decide)
   have i6:=q0h hv 6 (by decide)
   have i7:=q0h hv 7 (by decide)
   refine gyd3 hl hwl Ac ?_;refine ⟨fun _=>⟨⟨by omega,by omega⟩,⟨by omega,by omega⟩,by omega,?_⟩,fun h=>absurd hlt (by omega)⟩
   refine q0L 2 (by decide) ?_
   with_reducible refine sxE ?_
   refine q0k (q0M _ [6,11,25] i4 (by decide) (by decide)) ?_
   refine gyd3 hl hwl Ac ?_;refine q0k (q4J _ _ _ i4 i5 i6) ?_;refine gyd3 hl hwl Ac ?_;refine q0A 3 ?_;with_reducible refine sxE ?_
   refine cyd3 (q0M _ [2,13,22] i0 (by decide) (by decide)) hl hwl Ac ?_
   refine cyd3 (q2X _ _ _ i0 i1 i2) hl hwl Ac ?_;have hr:rnds b h (t+1)=rnd (kS t) (wS b t) v:=by show rnd (kS t) (wS b t) (rnds b h t)=_;rw [hvv]
   have hT1:=t1U (k:=kS t) (w:=wS b t) hv;have hT2:=t2U hv;refine ⟨t+1,hlt,by dsimp only;omega,⟨[.dead,.dead],rfl⟩,?_⟩
   rw [z0f,q1j b hlt hlt,hT1,hT2,aU,eU];with_reducible refine sy2 hwr hr ?_
   exact ⟨rfl,rfl,rfl,rfl,rfl,rfl,rfl,rfl⟩
 obtain rfl:t=64:=by omega
 refine gyd3 hl hwl Ac ?_;refine ⟨fun h=>absurd h (by omega),fun _=> ?_⟩
 have e8:=list8 (q1v (b:=b) hh 64).1;refine q0y (ι:=Nat) (fun i=>[(186,rI i),(185,.dat (.arr 8 (.int .u32)) (rnds b h 64))]) (fun i=>[.row (.int .u32) (blkP b h i),.row (.int .u32) (wL b 64)]) (fun t=>8-t) (fun t=>t≤8) 0 (Al _) ?_ ?_ ?_
 · rw [q3z b hh.1]
 · with_reducible refine sxE ?_
   exact congrArg (SV.dat (.arr 8 (.int .u32))) e8
 intro i hi;have hwr:=wsx i (by omega)
 have hv:=q1v (b:=b) hh 64;have hl:=hv.1;have hbl:=q4T b h i;by_cases hlt:i<8
 · have hbg:=q4O b h hlt;refine gyd4 hl hbl Ac AM ?_;refine ⟨fun _=> ?_,fun h=>absurd hlt (by omega)⟩
   repeat (with_reducible refine And.intro (by first|omega|exact ⟨by omega,by omega⟩) ?_)
   refine ⟨i+1,hlt,by dsimp only;omega,?_,?_⟩
   · rw [hbg,wrapU];show [_,_]= [SObj.row (.int .u32) (blkP b h (i+1)),_];rw [←q5a b h hlt]
   with_reducible refine sx1 hwr ?_;trivial
 obtain rfl:i=8:=by omega
 refine gyd3 hl hbl Ac ?_;refine ⟨fun h=>absurd h (by omega),fun _=> ?_⟩
 rw [q4I]
theorem j3H(b:List UInt8)(ks:List UInt8×List UInt8)(n:Int)(rd:Bool)(h:List Int)(hb:b.length=64)(hh:inWs h):PE Tryz.prog 282 [.rptr 0 MH 0 128,.csl 0 .u8 136 0 64] [.row MH [(ks,((h,(b,n)),rd))]] (.ret (.tup [])) [.row MH [(ks,(((blkS b h),(b,n)),rd))]]:=by
 refine q0b (Ae _) ?_;refine rQ fi282 ?_;refine q0y (ι:=Nat) (fun t=>[(26,rI t)]) (fun t=>[.row MH [(ks,((h,(b,n)),rd))],.row (.int .u32) (wL b t)]) (fun t=>16-t) (fun t=>t≤16) 0 (Al _) (by rw [q6L];rfl) ?_ ?_
 · with_reducible refine sxE ?_;trivial
 intro t ht;have hwr:=wsx t (by omega)
 have hwl:=q4h b t;by_cases hlt:t<16
 · have w1:IntKind.i64.wrap (4* (t:Int))=((4*t:Nat):Int):=by rw [wrapi (by omega)];omega
   have w4:IntKind.i64.wrap (((4*t:Nat):Int)+4)=((4*t+4:Nat):Int):=by rw [wrapi (by omega)];omega
   refine gy4 w1 w4 hwl Ac ?_;have hdl:(List.drop (4*t) (List.take (4*t+4) b)).length=4:=by rw [Ak,Aw];omega
   refine ⟨fun _=> ?_,fun h=>absurd h (by omega)⟩
   repeat (with_reducible refine And.intro (by first|omega|exact ⟨by omega,by omega,by omega,by omega⟩ |exact ⟨by omega,by omega⟩) ?_)
   refine ⟨t+1,by show t+1≤16;omega,by dsimp only;omega,?_,?_⟩
   · have hd:∀j,j<4→(List.drop (4*t) (List.take (4*t+4) b)).getD j Ty.u8.dflt=b.getD (4*t+j) 0:=fun j hj=>by
      rw [Ad,AF,BB (by omega),←Ad]
      rfl
     have ho:=or4 fun j=>b.getD (4*t+j) Ty.u8.dflt;rw [ho];have hw:((256* (256* (256* (b.getD (4*t+0) 0).toNat+ (b.getD (4*t+1) 0).toNat)+ (b.getD (4*t+2) 0).toNat)+ (b.getD (4*t+3) 0).toNat:Nat):Int)=wS b t:=by
      rw [z4a hlt];simp only [wdP,byI];omega
     show [SObj.row MH [(ks,((h,(b,n)),rd))],SObj.row (.int .u32) ((wL b t).set t ((256* (256* (256* (b.getD (4*t+0) 0).toNat+ (b.getD (4*t+1) 0).toNat)+ (b.getD (4*t+2) 0).toNat)+ (b.getD (4*t+3) 0).toNat:Nat):Int))]= [SObj.row MH [(ks,((h,(b,n)),rd))],SObj.row (.int .u32) (wL b (t+1))];rw [hw,q4i b (by omega)]
   with_reducible refine sx1 hwr ?_;trivial
 obtain rfl:t=16:=by omega
 refine gy2 hwl Ac ?_;refine ⟨fun h=>absurd h (by omega),fun _=> ?_⟩
 refine q2d (ι:=Nat) (fun t=>[(7,rI t)]) (fun t=>[.row MH [(ks,((h,(b,n)),rd))],.row (.int .u32) (wL b t)]) (fun t=>64-t) (fun t=>16≤t∧t≤64) 16 (by decide) 2 rfl (by decide) (fun _=>rfl) (fun _=>rfl) (fun _=>rfl) ?_ ?_
 · with_reducible refine sxE ?_
   rfl
 intro t ht;have hwl:=q4h b t;have hwr:=wsx t (by omega)
 by_cases hlt:t<64
 · have e15:IntKind.i64.wrap ((t:Int) -15)=((t-15:Nat):Int):=by rw [wrapi (by omega)];omega
   have e2:IntKind.i64.wrap ((t:Int) -2)=((t-2:Nat):Int):=by rw [wrapi (by omega)];omega
   have e7:IntKind.i64.wrap ((t:Int) -7)=((t-7:Nat):Int):=by rw [wrapi (by omega)];omega
   have e16:IntKind.i64.wrap ((t:Int) -16)=((t-16:Nat):Int):=by rw [wrapi (by omega)];omega
   have g15:=q1j b (t:=t) (j:=t-15) (by omega) (by omega)
   have g2:=q1j b (t:=t) (j:=t-2) (by omega) (by omega)
   have g7:=q1j b (t:=t) (j:=t-7) (by omega) (by omega)
   have g16:=q1j b (t:=t) (j:=t-16) (by omega) (by omega)
   have i15:=q2P b (t-15);have i2:=q2P b (t-2);have i7:=q2P b (t-7);have i16:=q2P b (t-16);refine gyd10 e15 e2 e7 e16 g15 g2 g7 g16 hwl Ac ?_;refine ⟨fun _=>⟨⟨by omega,by omega⟩,by omega,⟨by omega,by omega⟩,by omega,⟨by omega,by omega⟩,by omega,⟨by omega,by omega⟩,by omega,q0H (q0M (wS b (t-2)) [17,19] i2 (by decide) (by decide)) ?_⟩,fun h=>absurd hlt (by omega)⟩
   refine gQ ?_;refine q0L 2 (by decide) ?_
   with_reducible refine sxE ?_
   refine q0k (q0M (wS b (t-15)) [7,18] i15 (by decide) (by decide)) ?_
   refine uQ 600 _ ?_;simp (maxSteps:=3000000) only [e15,e2,e7,e16,g15,g2,g7,g16,hwl,Ac,Ty.dflt,go_sem,↓zA,↓reduceIte,↓reduceDIte] <;>try simp only [zB]
   repeat (with_reducible refine And.intro (by first|omega|exact ⟨by omega,by omega⟩) ?_)
   refine ⟨t+1,⟨by omega,hlt⟩,by dsimp only;omega,⟨[.dead],?_⟩,?_⟩
   · rw [schU i15 i2,←z4j (by omega),q4i b hlt]
     rfl
   with_reducible refine sx1 hwr ?_;trivial
 obtain rfl:t=64:=by omega
 refine gQ ?_;have hl:=hh.1;refine ⟨fun h=>absurd h (by omega),fun _=> ?_⟩
 repeat (with_reducible refine And.intro (by omega) ?_)
 refine q3v (t:=.arr 64 (.int .u32)) (x:=dat_sha_constants) (ag:=some 64) (s:=.dat (.arr 64 (.int .u32)) dat_sha_constants) (by unfold datList;repeat (first|exact .head _|apply List.Mem.tail)) rfl (.inr rfl) ?_
 refine gQ ?_;refine q2d (ι:=Nat) (fun t=>[(134,rI t),(12,.raw (.int .u32 ((rnds b h t).getD 0 0))),(13,.raw (.int .u32 ((rnds b h t).getD 1 0))),(14,.raw (.int .u32 ((rnds b h t).getD 2 0))),(15,.raw (.int .u32 ((rnds b h t).getD 3 0))),(16,.raw (.int .u32 ((rnds b h t).getD 4 0))),(17,.raw (.int .u32 ((rnds b h t).getD 5 0))),(18,.raw (.int .u32 ((rnds b h t).getD 6 0))),(19,.raw (.int .u32 ((rnds b h t).getD 7 0)))]) (fun t=>[.row MH [(ks,((h,(b,n)),rd))],.row (.int .u32) (wL b 64)]) (fun t=>64-t) (fun t=>t≤64) 0 (Al _) 2 rfl (by decide) (fun _=>rfl) (fun _=>rfl) (fun _=>rfl) ?_ ?_
 · with_reducible refine sxE ?_
   exact ⟨rfl,rfl,rfl,rfl,rfl,rfl,rfl,rfl⟩
 intro t ht;have hwr:=wsx t (by omega)
 by_cases hlt:t<64
 · have hv:=q1v (b:=b) hh t;generalize hvv:rnds b h t=v at*;have i0:=q0h hv 0 (by decide)
   have i1:=q0h hv 1 (by decide)
   have i2:=q0h hv 2 (by decide)
   have i3:=q0h hv 3 (by decide)
   have i4:=q0h hv 4 (by decide)
   have i5:=q0h hv 5 (by decide)
   have i6:=q0h hv 6 (by decide)
   have i7:=q0h hv 7 (by decide)
   refine gyd3 hl hwl Ac ?_;refine ⟨fun _=>⟨⟨by omega,by omega⟩,⟨by omega,by omega⟩,by omega,?_⟩,fun h=>absurd hlt (by omega)⟩
   refine q0L 2 (by decide) ?_
   with_reducible refine sxE ?_
   refine q0k (q0M _ [6,11,25] i4 (by decide) (by decide)) ?_
   refine gyd3 hl hwl Ac ?_;refine q0k (q4J _ _ _ i4 i5 i6) ?_;refine gyd3 hl hwl Ac ?_;refine q0A 3 ?_;with_reducible refine sxE ?_
   refine cyd3 (q0M _ [2,13,22] i0 (by decide) (by decide)) hl hwl Ac ?_
   refine cyd3 (q2X _ _ _ i0 i1 i2) hl hwl Ac ?_;have hr:rnds b h (t+1)=rnd (kS t) (wS b t) v:=by show rnd (kS t) (wS b t) (rnds b h t)=_;rw [hvv]
   have hT1:=t1U (k:=kS t) (w:=wS b t) hv;have hT2:=t2U hv;refine ⟨t+1,hlt,by dsimp only;omega,⟨[.dead,.dead],rfl⟩,?_⟩
   rw [z0f,q1j b hlt hlt,hT1,hT2,aU,eU];with_reducible refine sy2 hwr hr ?_
   exact ⟨rfl,rfl,rfl,rfl,rfl,rfl,rfl,rfl⟩
 obtain rfl:t=64:=by omega
 refine gyd3 hl hwl Ac ?_;refine ⟨fun h=>absurd h (by omega),fun _=> ?_⟩
 have e8:=list8 (q1v (b:=b) hh 64).1;refine q0y (ι:=Nat) (fun i=>[(186,rI i),(185,.dat (.arr 8 (.int .u32)) (rnds b h 64))]) (fun i=>[.row MH [(ks,(((blkP b h i),(b,n)),rd))],.row (.int .u32) (wL b 64)]) (fun t=>8-t) (fun t=>t≤8) 0 (Al _) ?_ ?_ ?_
 · rw [q3z b hh.1]
 · with_reducible refine sxE ?_
   exact congrArg (SV.dat (.arr 8 (.int .u32))) e8
 intro i hi;have hwr:=wsx i (by omega)
 have hv:=q1v (b:=b) hh 64;have hl:=hv.1;have hbl:=q4T b h i;by_cases hlt:i<8
 · have hbg:=q4O b h hlt;refine gyd4 hl hbl Ac AM ?_;refine ⟨fun _=> ?_,fun h=>absurd hlt (by omega)⟩
   repeat (with_reducible refine And.intro (by first|omega|exact ⟨by omega,by omega⟩) ?_)
   refine ⟨i+1,hlt,by dsimp only;omega,?_,?_⟩
   · rw [hbg,wrapU];show [_,_]= [SObj.row MH [(ks,(((blkP b h (i+1)),(b,n)),rd))],_];rw [←q5a b h hlt]
   with_reducible refine sx1 hwr ?_;trivial
 obtain rfl:i=8:=by omega
 refine gyd3 hl hbl Ac ?_;refine ⟨fun h=>absurd h (by omega),fun _=> ?_⟩
 rw [q4I]
end Go.Proofs.YtmapiojgmbgbgaaGreatDoor
namespace Go.Sx
open Go

variable {P:Program}

def Ty.bare:Ty→Bool
 |.slice _=>false
 |.ptr _=>false
 |.clo _ _=>false
 |.clp _ _=>false
 |.mbs _=>false
 |.prod a b=>a.bare&& b.bare
 |.arr _ t=>t.bare
 |_=>true
theorem q5c{I I':Nat→Prop}{w w':World}:∀ (t:Ty) (x:t.den) (vs:List Value),t.bare=true→t.rel I w x vs→t.rel I' w' x vs
 |.u8,_,_,_,h=>h
 |.int _,_,_,_,h=>h
 |.bool,_,_,_,h=>h
 |.str,_,_,_,h=>h
 |.slice _,_,_,hb,_=>by cases hb
 |.prod a b,x,vs,hb,h=>by
  simp only [Ty.bare,Aj] at hb;obtain ⟨v1,v2,rfl,h1,h2⟩:=h;exact ⟨v1,v2,rfl,q5c a _ _ hb.1 h1,q5c b _ _ hb.2 h2⟩
 |.unit,_,_,_,h=>h
 |.arr n t,xs,vs,hb,h=>by
  obtain ⟨hn,vss,rfl,hl,h⟩:=h;exact ⟨hn,vss,rfl,hl,fun i x us hx hu=>q5c t _ _ hb (h i x us hx hu)⟩
 |.ptr _,_,_,hb,_=>by cases hb
 |.clo _ _,_,_,hb,_=>by cases hb
 |.clp _ _,_,_,hb,_=>by cases hb
 |.mbs _,_,_,hb,_=>by cases hb
def SObj.bare:SObj→Bool
 |.dead=>true
 |.row t _=>t.bare
 |_=>false
theorem z2L{C C':Cx}{h:Nat}:∀ {o:SObj},o.bare=true→C'.ρ h=C.ρ h→(o.live=true→∀b,C.ρ h=some b→C'.w.heap[b]?=C.w.heap[b]?)→objDen C h o→objDen C' h o
 |.dead,_,_,_,_=>trivial
 |.row t xs,hb,hr,hw,d=>by
  rcases d with ⟨h1,h2⟩ | ⟨b,arr,T,fz,h1,h2,h3,h4,h5⟩
  · exact .inl ⟨hr.trans h1,h2⟩
  refine .inr ⟨b,arr,T,fz,hr.trans h1,(hw rfl b h1).trans h2,h3,h4,fun i x hx=> ?_⟩;obtain ⟨us,g1,g2⟩:=h5 i x hx;exact ⟨us,q5c t _ _ hb g1,fun k u hu=>by rw [←g2 k u hu];exact World.cell?_of_block (hw rfl b h1)⟩
 |.cells ..,hb,_,_,_=>by cases hb
 |.map ..,hb,_,_,_=>by cases hb
 |.mark _,hb,_,_,_=>by cases hb
mutual
def SV.bare:SV→Bool
 |.raw _=>true
 |.dat t _=>t.bare
 |.agg l=>SV.bareL l
 |.tup l=>SV.bareL l
 |.any=>true
 |_=>false
def SV.bareL:List SV→Bool
 | []=>true
 |s :: l=>s.bare&& SV.bareL l
end
mutual
theorem z3j{C C':Cx}:∀ {s:SV} {v:Value},s.bare=true→s.den C v→s.den C' v
 |.any,_,_,_=>by rw [SV.den];trivial
 |.raw u,v,_,h=>by rw [SV.den] at h⊢;exact h
 |.dat t x,v,hb,h=>by
  rw [SV.den] at h⊢;obtain ⟨vs,hv,hr⟩:=h;exact ⟨vs,hv,q5c t _ _ (by simpa [SV.bare] using hb) hr⟩
 |.agg l,v,hb,h=>by
  rw [SV.den] at h⊢;obtain ⟨vs,hv,hr⟩:=h;exact ⟨vs,hv,q6O (by simpa [SV.bare] using hb) hr⟩
 |.tup l,v,hb,h=>by
  rw [SV.den] at h⊢;obtain ⟨vs,hv,hr⟩:=h;exact ⟨vs,hv,q6O (by simpa [SV.bare] using hb) hr⟩
 |.isl ..,_,hb,_=>by simp [SV.bare] at hb
 |.fsl ..,_,hb,_=>by simp [SV.bare] at hb
 |.iptr ..,_,hb,_=>by simp [SV.bare] at hb
 |.ptr ..,_,hb,_=>by simp [SV.bare] at hb
 |.rptr ..,_,hb,_=>by simp [SV.bare] at hb
 |.bld ..,_,hb,_=>by simp [SV.bare] at hb
 |.osl ..,_,hb,_=>by simp [SV.bare] at hb
 |.csl ..,_,hb,_=>by simp [SV.bare] at hb
 |.fn ..,_,hb,_=>by simp [SV.bare] at hb
 |.iface ..,_,hb,_=>by simp [SV.bare] at hb
 |.mp ..,_,hb,_=>by simp [SV.bare] at hb
 |.imap ..,_,hb,_=>by simp [SV.bare] at hb
theorem q6O{C C':Cx}:∀ {l:List SV} {vs:List Value},SV.bareL l=true→SV.denL C l vs→SV.denL C' l vs
 | [],_,_,h=>by rw [SV.denL] at h⊢;exact h
 |s :: l,_,hb,h=>by
  rw [SV.denL] at h⊢;simp only [SV.bareL,Aj] at hb;obtain ⟨v,us,rfl,h1,h2⟩:=h;exact ⟨v,us,rfl,z3j hb.1 h1,q6O hb.2 h2⟩
end

def RLies(t:Ty)(xs:List t.den)(off:Nat)(t2:Ty)(y:t2.den):Prop:=
 (∃x,xs= [x]∧t.get x off t2.size=some ⟨t2,y⟩)∨(t2= .arr xs.length t∧off=0∧t.size=1∧0<xs.length∧HEq y xs)
inductive Bor (h:Nat) (t:Ty) (xs:List t.den):SV→SV→Prop where
 |keep {s:SV} (hb:s.bel h=true):Bor h t xs s s
 |bld {n:Nat} (hn:n≤xs.length):Bor h t xs (.bld h t n) (.isl t (xs.take n))
 |osl {off n:Nat} (hn:off+n≤xs.length):Bor h t xs (.osl h t off n) (.isl t ((xs.drop off).take n))
 |csl {e:Ty} {k i n:Nat} {ys:List e.den} {p:Prop} (ho:ownPart e k i n (.row t xs)=some (ys,p)) (hp:p) (hn:n≤1125899906842624):Bor h t xs (.csl h e k i n) (.isl e ys)
 |ptr {t' t2:Ty} {i k:Nat} {y:t2.den} (hr:RLies t xs (i*t'.size+k) t2 y):Bor h t xs (.rptr h t' i k) (.iptr t2 y 0)
inductive BorL (h:Nat) (t:Ty) (xs:List t.den):List SV→List SV→Prop where
 |nil:BorL h t xs [] []
 |cons {s s':SV} {l l':List SV} (h1:Bor h t xs s s') (h2:BorL h t xs l l'):BorL h t xs (s :: l) (s' :: l')

variable {H:List SObj}
theorem rlies{C:Cx}{h off:Nat}{t t2:Ty}{xs:List t.den}{y:t2.den}(hw:Wd C H)(hH:H[h]?=some (.row t xs))(hr:RLies t xs off t2 y):∃b,C.ρ h=some b∧Lies C.I C.w b off t2 y:=by
 rcases hr with ⟨x,rfl,hg⟩ | ⟨e,rfl,hs,hl,hy⟩
 · obtain ⟨b,hb,h1⟩:=q1Q (i:=0) hw hH rfl;rw [Be] at h1;have h2:=(z0s t hg h1).1;rw [Ac] at h2;exact ⟨b,hb,h2⟩
 subst e;cases hy;obtain ⟨b,hb,h1⟩:=q8L (i:=0) (m:=xs.length) hw hH hs (by omega) hl
 rw [Au,Az] at h1;exact ⟨b,hb,h1⟩
theorem j1a{C:Cx}{h:Nat}{t:Ty}{xs:List t.den}(hw:Wd C H)(hH:H[h]?=some (.row t xs))(hlen:xs.length≤1125899906842624){s s':SV}{v:Value}(hb:Bor h t xs s s')(hd:s.den C v):s'.den {C.frz h with n:=h} v:=by
 have hk:Keeps C.I (C.frz h).I C.w C.w:=fun b hb=>⟨.inl hb,rfl⟩;cases hb with
 |keep hb=>
  have h1:=q8G (σ:=fun h=>h) hb (by rw [z2C];exact hd)
  exact q0Z (C:=C.ren (fun h=>h) h) (C':={C.frz h with n:=h}) ⟨Ae _,fun _ _=>rfl,fun b (hb:C.I b)=>⟨Or.inl hb,rfl⟩,fun _ _ h=>h⟩ h1
 |bld hn=>
  have:=q5A hw hH hlen (off:=0) (by omega) (q5O hd)
  rw [Au] at this;exact q0D (C:=C.frz h) (Keeps.refl _ _) rfl this
 |osl hn=>exact q0D (C:=C.frz h) (Keeps.refl _ _) rfl (q5A hw hH hlen hn hd)
 |csl ho hp hn=>
  rename_i e k i n ys p;obtain ⟨h1,h2⟩:=q8p hw hH ho hp;simp only [SV.den] at hd;obtain ⟨_,A,c,rfl,hc,hd⟩:=hd;rw [SV.den.eq_def];refine ⟨A,n,c,rfl,h1.symm,hc,hn,?_⟩;rcases hd with h0| ⟨b,hb,rfl⟩
  · exact .inl (Bi.1 (h1.trans h0))
  refine .inr ⟨b,_,rfl,.inr hb,fun j y hy=> ?_⟩;obtain ⟨us,g1,g2⟩:=h2 b hb j y hy;exact ⟨us,Ty.rel_keep hk _ _ _ g1,g2⟩
 |ptr hr=>
  obtain ⟨b,hb,us,g1,g2⟩:=rlies hw hH hr;obtain ⟨b',hb',rfl⟩:=q3A hd;rw [hb] at hb';cases hb';rw [SV.den.eq_def];exact ⟨b,_,us,rfl,.inr hb,Ty.rel_keep hk _ _ _ g1,g2⟩
theorem z9n{C:Cx}{h:Nat}{t:Ty}{xs:List t.den}(hw:Wd C H)(hH:H[h]?=some (.row t xs))(hlen:xs.length≤1125899906842624){l l':List SV}(hb:BorL h t xs l l'):∀ {vs:List Value},SV.denL C l vs→SV.denL {C.frz h with n:=h} l' vs:=by
 induction hb with
 |nil=>intro vs hd;rw [SV.denL] at hd⊢;exact hd
 |cons h1 _ ih=>
  intro vs hd;rw [SV.denL] at hd⊢;obtain ⟨v,us,rfl,d1,d2⟩:=hd;exact ⟨v,us,rfl,j1a hw hH hlen h1 d1,ih d2⟩
theorem z3A{l:List SObj}(h:l.all SObj.bare=true){i:Nat}{o:SObj}(ho:l[i]?=some o):o.bare=true:=Ba.1 h o (BC ho)
theorem q8q{f:FuncId}{args args':List SV}{H0 H1:List SObj}{s:SV}{t:Ty}{xs:List t.den}(hp:VCall P f args' H0 fun o' H'=>o'= .ret s∧H'=H1)(hl:H1.length=H0.length)(hb0:H0.all SObj.bare=true)(hb1:H1.all SObj.bare=true)(hs:s.bare=true)
 (hlen:xs.length≤1125899906842624)(hb:BorL H0.length t xs args args'):VCall P f args (H0++ [.row t xs]) fun o' H'=>o'= .ret s∧H'=H1++ [.row t xs]:=by
 intro C vs hw ht hv;have hH:(H0++ [SObj.row t xs])[H0.length]?=some (.row t xs):=by rw [Ao (Ae _)];simp
 have hn:C.n=H0.length+1:=by rw [hw.n];simp
 have hget:∀ {i o},H0[i]?=some o→(H0++ [SObj.row t xs])[i]?=some o:=fun hi=>by rw [Ag (Aa.1 hi).1];exact hi
 have hown0:∀b,OwnB {C.frz H0.length with n:=H0.length} H0 b→OwnB C (H0++ [.row t xs]) b∧C.ρ H0.length≠some b:=by
  rintro b ⟨i,o,ho,hlv,hbb⟩;refine ⟨⟨i,o,hget ho,hlv,hbb⟩,fun e=> ?_⟩;have:=hw.inj i H0.length o _ b (hget ho) hH hlv rfl hbb e;have:=(Aa.1 ho).1;omega
 have hwb:Wd {C.frz H0.length with n:=H0.length} H0:=by
  refine ⟨rfl,fun i o ho=>z2L (C:=C) (z3A hb0 ho) rfl (fun _ _ _=>rfl) (hw.obj i o (hget ho)),fun b hb'=> ?_,fun i j o o' b ho ho' hlv hlv' h1 h2=>hw.inj i j o o' b (hget ho) (hget ho') hlv hlv' h1 h2,fun b hb'=> ?_⟩
  · obtain ⟨h1,h2⟩:=hown0 b hb';exact ⟨fun h=>h.elim (hw.own b h1).1 h2,(hw.own b h1).2⟩
  exact hb'.elim (hw.imm b) fun h=>(hw.own b ⟨_,_,hH,rfl,h⟩).2
 refine (hp {C.frz H0.length with n:=H0.length} vs hwb (ht.sub rfl (fun b hb'=>.inl hb') fun b hb'=>(hown0 b hb').1) (z9n hw hH hlen hb hv)).mono ?_
 rintro e w' ⟨o,H',C',⟨rfl,rfl⟩,rfl,hw',hx,v,rfl,hd⟩;have hρ:∀i,i<H0.length→C'.ρ i=C.ρ i:=fun i hi=>hx.evo.ρ i hi
 let D:Cx:={ρ:=C.ρ,n:=H0.length+1,I:=fun b=>C'.I b∧C.ρ H0.length≠some b,w:=C'.w}
 have hK:Keeps C.I D.I C.w C'.w:=fun b hb'=>⟨⟨(hx.evo.I b (.inl hb')).1,fun e=>(hw.own b ⟨_,_,hH,rfl,e⟩).1 hb'⟩,(hx.evo.I b (.inl hb')).2⟩;have hevo:Evo C D:=⟨by rw [hn];exact Ae _,fun _ _=>rfl,hK,hx.evo.sz⟩
 have hcase:∀ {i oo},(H'++ [SObj.row t xs])[i]?=some oo→(i<H0.length∧H'[i]?=some oo)∨(i=H0.length∧oo= .row t xs):=fun {i oo} hi=>by
  rcases AC i H'.length with h1|h1
  · rw [Ag h1] at hi;exact .inl ⟨by omega,hi⟩
  rw [Ao h1] at hi;have:i-H'.length=0:=by
   have:=(Aa.1 hi).1;simpa using this
  rw [this] at hi;exact .inr ⟨by omega,by simpa using hi.symm⟩
 have hlast:∀b,C.ρ H0.length=some b→C'.I b:=fun b hb'=>(hx.evo.I b (.inr hb')).1;have hownD:∀b,OwnB D (H'++ [.row t xs]) b→OwnB C' H' b∨C.ρ H0.length=some b:=by
  rintro b ⟨i,oo,ho,hlv,hbb⟩;rcases hcase ho with ⟨h1,h2⟩ | ⟨rfl,_⟩
  · exact .inl ⟨i,oo,h2,hlv,(hρ i h1).trans hbb⟩
  exact .inr hbb
 refine ⟨.ret s,_,D,⟨rfl,rfl⟩,rfl,⟨?_,fun i oo ho=> ?_,fun b hb'=> ?_,fun i j oo oo' b ho ho' hlv hlv' h1 h2=> ?_,fun b hb'=>hw'.imm b hb'.1⟩,
  ⟨hevo,hx.size,hx.os,hx.tape,hx.output,fun b h1 h2=>hx.frame b h1 fun hq=>h2 (hown0 b hq).1,fun b hb'=> ?_,fun b hb'=> ?_,fun n _ hn'=> ?_⟩,v,rfl,z3j hs hd⟩
 · show H0.length+1=_;simp [hl]
 · rcases hcase ho with ⟨h1,h2⟩ | ⟨rfl,rfl⟩
   · exact z2L (C:=C') (C':=D) (z3A hb1 h2) (hρ i h1).symm (fun _ _ _=>rfl) (hw'.obj i oo h2)
   exact q0C (C':=D) hK _ rfl (fun b hb'=>(hx.evo.I b (.inr hb')).2) (q0f hevo) (hw.obj _ _ hH)
 · rcases hownD b hb' with h1|h1
   · exact ⟨fun h=>(hw'.own b h1).1 h.1,(hw'.own b h1).2⟩
   exact ⟨fun h=>h.2 h1,hw'.imm b (hlast b h1)⟩
 · rcases hcase ho with ⟨g1,g2⟩ | ⟨rfl,rfl⟩ <;>rcases hcase ho' with ⟨g1',g2'⟩ | ⟨rfl,rfl⟩
   · exact hw'.inj i j oo oo' b g2 g2' hlv hlv' ((hρ i g1).trans h1) ((hρ j g1').trans h2)
   · exact absurd (hlast b h2) (hw'.own b ⟨i,oo,g2,hlv,(hρ i g1).trans h1⟩).1
   · exact absurd (hlast b h1) (hw'.own b ⟨j,oo',g2',hlv',(hρ j g1').trans h2⟩).1
   rfl
 · rcases hx.immNew b hb'.1 with (q|q) | ⟨q|q,u⟩
   · exact .inl q
   · exact absurd q hb'.2
   · exact .inr ⟨.inl q,u⟩
   exact .inr ⟨.inr (hown0 b q).1,u⟩
 · rcases hownD b hb' with h1|h1
   · exact orMap (hx.ownNew b h1) id fun q=>(hown0 b q).1
   exact .inr ⟨_,_,hH,rfl,h1⟩
 exfalso;cases H0 with
 |nil=>simp at hn'
 |cons o l=>
  simp at hn';subst hn';simp [SObj.bare] at hb0
theorem z2h{f:FuncId}{args args':List SV}{H0 H1:List SObj}{s:SV}{t:Ty}{xs:List t.den}(hp:PE P f args' H0 (.ret s) H1)(hl:H1.length=H0.length)(hb0:H0.all SObj.bare=true)(hb1:H1.all SObj.bare=true)(hs:s.bare=true)
 (hlen:xs.length≤1125899906842624)(hb:BorL H0.length t xs args args'):PE P f args (H0++ [.row t xs]) (.ret s) (H1++ [.row t xs]):=⟨hp.1,q8q hp.2 hl hb0 hb1 hs hlen hb⟩
theorem q6n{f:FuncId}{args args':List SV}{s:SV}{t:Ty}{xs:List t.den}(hp:PC P f args' s)(hs:s.bare=true)(hlen:xs.length≤1125899906842624)(hb:BorL 0 t xs args args'):PE P f args [.row t xs] (.ret s) [.row t xs]:=
 ⟨hp.1,q8q (H0:=[]) (H1:=[]) (hp.2 [] _ ⟨rfl,rfl⟩) rfl rfl rfl hs hlen hb⟩
theorem z5v{α:Type}(x:α):Option.getD (none:Option α) x=x:=rfl
theorem z4Z{α:Type}(x y:α):Option.getD (some y) x=y:=rfl
theorem j0V{t:Ty}{x y:t.den}:SV.leA (.dat t x) (.dat t y)=(x=y):=by simp [SV.leA]
theorem z8c{t t':Ty}{h i k h' i' k':Nat}:SV.leA (.rptr h t i k) (.rptr h' t' i' k')=(h=h'∧t=t'∧i=i'∧k=k'):=by simp [SV.leA]
attribute [go_sem] z5v z4Z j0V z8c
end Go.Sx
namespace Go.Sx
open Go

variable {P:Program} {AQ:Ex→List SV→List SObj→Prop} {k0:Nat} {k:List It} {t:List SV} {H:List SObj}

@[reducible] def frzN(q:Nat→Prop)(w0:World)(N:Nat):Ghost where
 inv0:=fun E C H=>(E.C.w.heap.size≤N∧∀b,TBlk b→b<N)∧ZInv q w0 C H
 fin:=fun E C H ds=>ds=E.base∧TabE E.toEn C H∧True
 toFin0:=fun ht _=>⟨rfl,ht,trivial⟩
 next0:=fun {E _ _ _ _} hx h=>⟨h.1,(frzG q w0).next0 (E:=E) hx h.2⟩
 same0:=fun {E _ _ _ _} hw e hk hi ho hm hl h=>⟨h.1,(frzG q w0).same0 (E:=E) hw e hk hi ho hm hl h.2⟩

theorem q5Z{Q Q':Exit→Act→World→Prop}(hq:∀e a w,Q e a w→Q' e a w)(h:LetsOut Q):LetsOut Q':=by
 obtain ⟨a,w,h⟩:=h;exact ⟨a,w,hq _ _ _ h⟩
theorem z4M{F:Fence}{n:Nat}{o:Oper}{a:Act}{w:World}{K K':Act→World→Prop}{Q Q':Exit→Act→World→Prop}(h:∀a w,K a w→K' a w)(hq:∀e a w,Q e a w→Q' e a w)
 (hh:o.wpIn F n P a w K Q):o.wpIn F n P a w K' Q':=by
 unfold Oper.wpIn at*;refine ⟨hh.1,?_⟩;have hh:=hh.2;generalize (o.semAt F.round a.eval).run P w=r at*;cases r with
 |ok x w'=>
  cases x<;>simp only [Oper.uponIn] at hh⊢ <;>
   first
    |exact h _ _ hh
    |exact ⟨hh.1,CallsIn.mono hh.2 (fun e w'' he=>by cases e<;>first|exact h _ _ he|exact hq _ _ _ he|exact q5Z hq he)⟩
    |exact ⟨hh.1,RowsIn.mono hh.2 (fun _ _ he=>h _ _ he)⟩
    |exact ⟨hh.1,RoundIn.mono hh.2 (fun e w'' he=>by cases e<;>first|exact h _ _ he|exact hq _ _ _ he|exact q5Z hq he)⟩
 |halt x w'=>cases x<;>simp only [Oper.uponIn] at hh⊢ <;>first|exact hq _ _ _ hh|exact hh
theorem q4P{F:Fence}{n:Nat}{all:Array Oper}{Q Q':Exit→Act→World→Prop}(hq:∀e a w,Q e a w→Q' e a w):∀ (l:List Nat) (a:Act) (w:World),wpOpsIn F n P all Q l a w→wpOpsIn F n P all Q' l a w
 | [],a,w,h=>hq _ _ _ h
 |i :: l,a,w,h=>by
  unfold wpOpsIn at h⊢;split
  · rename_i ho;simp only [ho] at h;exact q4P hq l a w h
  rename_i o ho;simp only [ho] at h;split
  · rename_i hw;rw [if_pos hw] at h;exact z4M (fun a w h=>q4P hq l a w h) hq h
  rename_i hw;rw [if_neg hw] at h;exact ⟨h.1,q4P hq l _ w h.2⟩

def noStop:List It→Bool
 | []=>true
 |.code _ :: k=>noStop k
 |.ops _ _ :: k=>noStop k
 |.blk _ :: k=>noStop k
 |_ :: _=>false
theorem q2A{G G':Ghost}{F:Fence}{n:Nat}{E E':EnD}{Q Q':Exit→Act→World→Prop}(hq:∀e a w,Q' e a w→Q e a w):∀ (k:List It),noStop k=true→
 (∀a w, @wpT G' F n P E' Q' k a w→ @wpT G F n P E Q k a w)∧(∀id a w, @exitT G' F n P E' Q' id k a w→ @exitT G F n P E Q id k a w)
 | [],_=>⟨fun a w h=>by simp only [wpT] at h⊢;exact hq _ _ _ h,fun id a w h=>by simp only [exitT] at h⊢;exact hq _ _ _ h⟩
 |.code c :: k,hs=>by
  obtain ⟨h1,h2⟩:=q2A (G:=G) (G':=G') (F:=F) (n:=n) (E:=E) (E':=E') hq k hs;refine ⟨fun a w h=> ?_,fun id a w h=>by simp only [exitT] at h⊢;exact h2 id a w h⟩
  simp only [wpT] at h⊢;refine wpIn_mono h fun e a w hh=> ?_;cases e with
  |normal=>exact h1 a w hh
  |exit id=>exact h2 id a w hh
  |_=>exact hq _ _ _ hh
 |.ops all l :: k,hs=>by
  obtain ⟨h1,h2⟩:=q2A (G:=G) (G':=G') (F:=F) (n:=n) (E:=E) (E':=E') hq k hs;refine ⟨fun a w h=> ?_,fun id a w h=>by simp only [exitT] at h⊢;exact h2 id a w h⟩
  simp only [wpT] at h⊢;refine q4P (fun e a w hh=> ?_) l a w h;cases e with
  |normal=>exact h1 a w hh
  |exit id=>exact h2 id a w hh
  |_=>exact hq _ _ _ hh
 |.blk id' :: k,hs=>by
  obtain ⟨h1,h2⟩:=q2A (G:=G) (G':=G') (F:=F) (n:=n) (E:=E) (E':=E') hq k hs;refine ⟨fun a w h=>by simp only [wpT] at h⊢;exact h1 a w h,fun id a w h=> ?_⟩
  simp only [exitT] at h⊢;split
  · rw [if_pos (by assumption)] at h;exact h1 a w h
  rw [if_neg (by assumption)] at h;exact h2 id a w h
theorem q7T{G G':Ghost}{E:EnD}(hf:∀E C H ds,G'.fin E C H ds→G.fin E C H ds)(e:Exit)(a:Act)(w:World)(h: @conc G' E AQ e a w): @conc G E AQ e a w:=by
 cases e with
 |normal=>obtain ⟨C,t,H,h1,h2,h3⟩:=h;exact ⟨C,t,H,h1,h2,⟨h3.wd,h3.ext,hf _ _ _ _ h3.defs,h3.tmps⟩⟩
 |ret=>obtain ⟨C,t,H,h1,h2,h3⟩:=h;exact ⟨C,t,H,h1,h2,⟨h3.wd,h3.ext,hf _ _ _ _ h3.defs,h3.tmps⟩⟩
 |exit id=>obtain ⟨C,t,H,h1,h2,h3⟩:=h;exact ⟨C,t,H,h1,h2,⟨h3.wd,h3.ext,hf _ _ _ _ h3.defs,h3.tmps⟩⟩
 |panic ch=>obtain ⟨C,t,H,s,v,h1,h2,h3,h4,h5,h6,h7,h8⟩:=h;exact ⟨C,t,H,s,v,h1,h2,h3,h4,h5,h6,hf _ _ _ _ h7,h8⟩
 |goto l=>exact h
 |outgrown=>exact h
theorem j0g{o:Oper}{a:Act}{w w':World}{v:Value}{r:Option Nat}{n:Nat}{next:Act→World→Prop}{Q:Exit→Act→World→Prop}(hnd:∀c,o.op≠ .defer c)
 (hrun:(execOp a.eval o).run P w= .ok (.value v) w'∨((execOp a.eval o).run P w= .ok .skip w'∧v=undef))(h:next (a.put o.dst v) w'):o.wpIn (Fw r) n P a w next Q:=by
 refine ⟨fun f _=>q4r r f,?_⟩;rw [Oper.semAt_eq _ _ _ hnd];rcases hrun with hrun| ⟨hrun,rfl⟩ <;>rw [hrun] <;>exact h

variable {td:List IT}
def noStopI:List IT→Bool
 | []=>true
 |.ic _ :: k=>noStopI k
 |.ops _ :: k=>noStopI k
 |.blk _ :: k=>noStopI k
 |_ :: _=>false
theorem q1W:∀ {td:List IT} {r:List It},RelT P td r→noStopI td=true→noStop r=true
 | [],r,h,_=>by cases h;rfl
 |.ic c :: k,r,h,hs=>by obtain ⟨c',r',rfl,_,hr⟩:=h;exact (q1W (td:=k) (r:=r') hr hs:noStop r'=true)
 |.ops l :: k,r,h,hs=>by obtain ⟨all,idx,r',rfl,_,hr⟩:=h;exact (q1W (td:=k) (r:=r') hr hs:noStop r'=true)
 |.blk id :: k,r,h,hs=>by obtain ⟨r',rfl,hr⟩:=h;exact (q1W (td:=k) (r:=r') hr hs:noStop r'=true)
end Go.Sx
