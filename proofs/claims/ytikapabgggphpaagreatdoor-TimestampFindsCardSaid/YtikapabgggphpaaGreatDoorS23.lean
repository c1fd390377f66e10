/- SHA-256: contracts: the program's block. -/
import Derived.Test.YtikapabgggphpaaGreatDoorS22
set_option linter.all false
namespace Go.Proofs.YtikapabgggphpaaGreatDoor
open Go Go.Sx Go.Proofs
set_option maxRecDepth 100000
set_option maxHeartbeats 40000000
abbrev HH:Ty:=.prod (.arr 8 (.int .u32)) (.prod (.arr 64 .u8) (.int .i64))
abbrev MH:Ty:=.prod (.prod (.arr 64 .u8) (.arr 64 .u8)) (.prod HH .bool)
theorem orW{a b:Nat}{k:Nat}(hb:b<2^ k)(h:2^ k*a+b<4294967296):orK .u32 ((2^ k*a:Nat):Int) (b:Int)=((2^ k*a+b:Nat):Int):=by
 unfold orK;have h1:(BitVec.ofInt IntKind.u32.bits ((2^ k*a:Nat):Int) |||BitVec.ofInt IntKind.u32.bits (b:Int)).toNat=2^ k*a+b:=by
  rw [Ca,AO,AO,AX,AX];rw [show 2^ IntKind.u32.bits=4294967296 from rfl,AY (a:=2^ k*a) (by omega),AY (a:=b) (by omega),←Ct hb]
 rw [h1];exact w32 (by constructor<;>omega)
theorem u32n(n:Nat)(h:n<4294967296):IntKind.u32.wrap (n:Int)=(n:Int):=w32 (by constructor<;>omega)
theorem or4(c:Nat→UInt8):orK .u32 (orK .u32 (orK .u32 (IntKind.u32.wrap (IntKind.u32.wrap ((c 0).toNat:Int)*2^ min 24 32)) (IntKind.u32.wrap (IntKind.u32.wrap ((c 1).toNat:Int)*2^ min 16 32))) (IntKind.u32.wrap (IntKind.u32.wrap ((c 2).toNat:Int)*2^ min 8 32))) (IntKind.u32.wrap ((c 3).toNat:Int))=((256* (256* (256* (c 0).toNat+ (c 1).toNat)+ (c 2).toNat)+ (c 3).toNat:Nat):Int):=by
 have h0:=(c 0).toNat_lt;have h1:=(c 1).toNat_lt;have h2:=(c 2).toNat_lt;have h3:=(c 3).toNat_lt;generalize (c 0).toNat=a0 at*;generalize (c 1).toNat=a1 at*;generalize (c 2).toNat=a2 at*;generalize (c 3).toNat=a3 at*;have e0:IntKind.u32.wrap (IntKind.u32.wrap (a0:Int)*2^ min 24 32)=((2^ 24*a0:Nat):Int):=by
  rw [u32n a0 (by omega),show (2:Int) ^ min 24 32=16777216 from rfl,w32 (by constructor<;>omega)];omega
 have e1:IntKind.u32.wrap (IntKind.u32.wrap (a1:Int)*2^ min 16 32)=((2^ 16*a1:Nat):Int):=by
  rw [u32n a1 (by omega),show (2:Int) ^ min 16 32=65536 from rfl,w32 (by constructor<;>omega)];omega
 have e2:IntKind.u32.wrap (IntKind.u32.wrap (a2:Int)*2^ min 8 32)=((2^ 8*a2:Nat):Int):=by
  rw [u32n a2 (by omega),show (2:Int) ^ min 8 32=256 from rfl,w32 (by constructor<;>omega)];omega
 rw [e0,e1,e2,u32n a3 (by omega),orW (a:=a0) (b:=2^ 16*a1) (k:=24) (by omega) (by omega),
  show 2^ 24*a0+2^ 16*a1=2^ 16* (2^ 8*a0+a1) by omega,orW (a:=2^ 8*a0+a1) (b:=2^ 8*a2) (k:=16) (by omega) (by omega),
  show 2^ 16* (2^ 8*a0+a1)+2^ 8*a2=2^ 8* (2^ 8* (2^ 8*a0+a1)+a2) by omega,orW (a:=2^ 8* (2^ 8*a0+a1)+a2) (b:=a3) (k:=8) (by omega) (by omega)]
theorem wrapU(x:Int):IntKind.u32.wrap x=x%4294967296:=rfl
theorem z0G{x:Int}(h:inW x):xorW 0 x=x:=by
 unfold xorW;rw [Int.toNat_zero,Nat.zero_xor];omega
theorem turn2{x:Int}(h:inW x)(a b:Nat)(h1:1≤a)(h2:a≤31):turnS x [a,b] 2=xorW (rotW a x) (rotW b x):=by
 show xorW (xorW 0 (rotW a x)) (rotW b x)=_;rw [z0G (q0D h1 h2 h)]
theorem turn3{x:Int}(h:inW x)(a b c:Nat)(h1:1≤a)(h2:a≤31):turnS x [a,b,c] 3=xorW (xorW (rotW a x) (rotW b x)) (rotW c x):=by
 show xorW (xorW (xorW 0 (rotW a x)) (rotW b x)) (rotW c x)=_;rw [z0G (q0D h1 h2 h)]
theorem sg1U{y:Int}(h:inW y):xorK .u32 (turnS y [17,19] 2) (y.fdiv (2^ min 10 32))=sg1 y:=by
 have e:y.fdiv (2^ min 10 32)=y / 1024:=fdivW y 1024 (by decide)
 have h1:=q0D (n:=17) (by decide) (by decide) h
 have h2:=q0D (n:=19) (by decide) (by decide) h
 rw [e,turn2 h 17 19 (by decide) (by decide),xor32 (q0Q h1 h2) (by unfold inW at*;omega)]
 rfl
theorem sg0U{y:Int}(h:inW y):xorK .u32 (turnS y [7,18] 2) (y.fdiv (2^ min 3 32))=sg0 y:=by
 have e:y.fdiv (2^ min 3 32)=y / 8:=fdivW y 8 (by decide)
 have h1:=q0D (n:=7) (by decide) (by decide) h
 have h2:=q0D (n:=18) (by decide) (by decide) h
 rw [e,turn2 h 7 18 (by decide) (by decide),xor32 (q0Q h1 h2) (by unfold inW at*;omega)]
 rfl
theorem schU{x y u v:Int}(hx:inW x)(hy:inW y):IntKind.u32.wrap (IntKind.u32.wrap (IntKind.u32.wrap (xorK .u32 (turnS y [17,19] 2) (y.fdiv (2^ min 10 32))+u)+xorK .u32 (turnS x [7,18] 2) (x.fdiv (2^ min 3 32)))+v)=(sg1 y+u+sg0 x+v)%W32:=by
 rw [sg0U hx,sg1U hy,wrapU,wrapU,wrapU];unfold W32;omega
theorem bs1U{x:Int}(h:inW x):turnS x [6,11,25] 3=bs1 x:=turn3 h _ _ _ (by decide) (by decide)
theorem bs0U{x:Int}(h:inW x):turnS x [2,13,22] 3=bs0 x:=turn3 h _ _ _ (by decide) (by decide)
theorem notU{x:Int}(h:inW x):IntKind.u32.wrap ↑(BitVec.ofInt 32 (if IntKind.u32.signed=true then -1 else IntKind.u32.max) ^^^ BitVec.ofInt 32 x).toNat=4294967295-x:=by
 have e:BitVec.ofInt 32 (if IntKind.u32.signed=true then -1 else IntKind.u32.max)=BitVec.allOnes 32:=by decide
 obtain ⟨n,rfl⟩:∃n:Nat,x=n:=⟨x.toNat,by omega⟩
 rw [e,BitVec.allOnes_xor,BitVec.toNat_not,AO,AX,AY (by omega),wrapU]
 omega
theorem q4I(x y z:Int)(hx:inW x)(hy:inW y)(hz:inW z):PC Tryz.prog 202 [.raw (.int .u32 x),.raw (.int .u32 y),.raw (.int .u32 z)] (.raw (.int .u32 (chW x y z))):=by
 have hn:inW (4294967295-x):=by omega
 have e1:=and32 hx hy;have e2:=and32 hn hz;have e3:=xor32 (q0S hx hy) (q0S hn hz);refine q0p rfl rfl ?_;refine rQ fi202 ?_;refine (congrArg (fun u=>Value.int IntKind.u32 (xorK IntKind.u32 (andK IntKind.u32 x y) (andK IntKind.u32 u z))) (notU hx)).trans ?_;show Value.int IntKind.u32 (xorK IntKind.u32 (andK IntKind.u32 x y) (andK IntKind.u32 (4294967295-x) z))=_;rw [e1,e2,e3];rfl
theorem q2D(a b c:Int)(ha:inW a)(hb:inW b)(hc:inW c):PC Tryz.prog 203 [.raw (.int .u32 a),.raw (.int .u32 b),.raw (.int .u32 c)] (.raw (.int .u32 (majW a b c))):=by
 have e1:=and32 ha hb;have e2:=and32 ha hc;have e3:=and32 hb hc;have e4:=xor32 (q0S ha hb) (q0S ha hc);have e5:=xor32 (q0Q (q0S ha hb) (q0S ha hc)) (q0S hb hc);refine q0p rfl rfl ?_;refine rQ fi203 ?_;rw [e1,e2,e4,e3,e5];rfl
theorem z0v(t:Nat):dat_sha_constants.getD t 0=kS t:=rfl
theorem t1U{k w:Int}{v:List Int}(hv:inWs v):IntKind.u32.wrap (IntKind.u32.wrap (IntKind.u32.wrap (IntKind.u32.wrap (v.getD 7 0+turnS (v.getD 4 0) [6,11,25] 3)+chW (v.getD 4 0) (v.getD 5 0) (v.getD 6 0))+k)+w)=t1S k w v%W32:=by
 rw [bs1U (q0c hv 4 (by decide))]
 simp only [wrapU];unfold t1S W32;omega
theorem t2U{v:List Int}(hv:inWs v):IntKind.u32.wrap (turnS (v.getD 0 0) [2,13,22] 3+majW (v.getD 0 0) (v.getD 1 0) (v.getD 2 0))=t2S v%W32:=by
 rw [bs0U (q0c hv 0 (by decide))]
 rfl
theorem aU(x y:Int):IntKind.u32.wrap (x%W32+y%W32)=(x+y)%W32:=by rw [wrapU];unfold W32;omega
theorem eU(x y:Int):IntKind.u32.wrap (x+y%W32)=(x+y)%W32:=by rw [wrapU];unfold W32;omega
theorem list8{l:List Int}(h:l.length=8):[l.getD 0 0,l.getD 1 0,l.getD 2 0,l.getD 3 0,l.getD 4 0,l.getD 5 0,l.getD 6 0,l.getD 7 0]=l:=by
 match l,h with
 | [a,b,c,d,e,f,g,i],_=>rfl
theorem j4L(b:List UInt8)(h:List Int)(hb:b.length=64)(hh:inWs h):PE Tryz.prog 194 [.rptr 0 (.int .u32) 0 0,.isl .u8 b] [.row (.int .u32) h] (.ret (.tup [])) [.row (.int .u32) (blkS b h)]:=by
 refine q0g (Ag _) ?_;refine rQ fi194 ?_;refine q0d (ι:=Nat) (fun t=>[(26,rI t)]) (fun t=>[.row (.int .u32) h,.row (.int .u32) (wL b t)]) (fun t=>16-t) (fun t=>t≤16) 0 (Ai _) (by rw [q5m];rfl) ?_ ?_
 · with_reducible refine sxE ?_;trivial
 intro t ht;have hwr:=wsx t (by omega)
 have hwl:=q3g b t;by_cases hlt:t<16
 · have w1:IntKind.i64.wrap (4* (t:Int))=((4*t:Nat):Int):=by rw [wrapi (by omega)];omega
   have w4:IntKind.i64.wrap (((4*t:Nat):Int)+4)=((4*t+4:Nat):Int):=by rw [wrapi (by omega)];omega
   refine gy4 w1 w4 hwl Ac ?_;have hdl:(List.drop (4*t) (List.take (4*t+4) b)).length=4:=by rw [Al,Aj];omega
   refine ⟨fun _=> ?_,fun h=>absurd h (by omega)⟩
   repeat (with_reducible refine And.intro (by first|omega|exact ⟨by omega,by omega,by omega,by omega⟩ |exact ⟨by omega,by omega⟩) ?_)
   refine ⟨t+1,by show t+1≤16;omega,by dsimp only;omega,?_,?_⟩
   · have hd:∀j,j<4→(List.drop (4*t) (List.take (4*t+4) b)).getD j Ty.u8.dflt=b.getD (4*t+j) 0:=fun j hj=>by
      rw [Aa,AD,A6 (by omega),←Aa]
      rfl
     have ho:=or4 fun j=>(List.drop (4*t) (List.take (4*t+4) b)).getD j Ty.u8.dflt;rw [ho,hd 0 (by omega),hd 1 (by omega),hd 2 (by omega),hd 3 (by omega)]
     have hw:((256* (256* (256* (b.getD (4*t+0) 0).toNat+ (b.getD (4*t+1) 0).toNat)+ (b.getD (4*t+2) 0).toNat)+ (b.getD (4*t+3) 0).toNat:Nat):Int)=wS b t:=by
      rw [q9Z hlt];simp only [wdP,byI];omega
     show [SObj.row (.int .u32) h,SObj.row (.int .u32) ((wL b t).set t ((256* (256* (256* (b.getD (4*t+0) 0).toNat+ (b.getD (4*t+1) 0).toNat)+ (b.getD (4*t+2) 0).toNat)+ (b.getD (4*t+3) 0).toNat:Nat):Int))]= [SObj.row (.int .u32) h,SObj.row (.int .u32) (wL b (t+1))];rw [hw,q3h b (by omega)]
   with_reducible refine sx1 hwr ?_;trivial
 obtain rfl:t=16:=by omega
 refine gy2 hwl Ac ?_;refine ⟨fun h=>absurd h (by omega),fun _=> ?_⟩
 refine q1q (ι:=Nat) (fun t=>[(7,rI t)]) (fun t=>[.row (.int .u32) h,.row (.int .u32) (wL b t)]) (fun t=>64-t) (fun t=>16≤t∧t≤64) 16 (by decide) 2 rfl (by decide) (fun _=>rfl) (fun _=>rfl) (fun _=>rfl) ?_ ?_
 · with_reducible refine sxE ?_
   rfl
 intro t ht;have hwl:=q3g b t;have hwr:=wsx t (by omega)
 by_cases hlt:t<64
 · have e15:IntKind.i64.wrap ((t:Int) -15)=((t-15:Nat):Int):=by rw [wrapi (by omega)];omega
   have e2:IntKind.i64.wrap ((t:Int) -2)=((t-2:Nat):Int):=by rw [wrapi (by omega)];omega
   have e7:IntKind.i64.wrap ((t:Int) -7)=((t-7:Nat):Int):=by rw [wrapi (by omega)];omega
   have e16:IntKind.i64.wrap ((t:Int) -16)=((t-16:Nat):Int):=by rw [wrapi (by omega)];omega
   have g15:=q0P b (t:=t) (j:=t-15) (by omega) (by omega)
   have g2:=q0P b (t:=t) (j:=t-2) (by omega) (by omega)
   have g7:=q0P b (t:=t) (j:=t-7) (by omega) (by omega)
   have g16:=q0P b (t:=t) (j:=t-16) (by omega) (by omega)
   have i15:=q1V b (t-15);have i2:=q1V b (t-2);have i7:=q1V b (t-7);have i16:=q1V b (t-16);refine gyd10 e15 e2 e7 e16 g15 g2 g7 g16 hwl Ac ?_;refine ⟨fun _=>⟨⟨by omega,by omega⟩,by omega,⟨by omega,by omega⟩,by omega,⟨by omega,by omega⟩,by omega,⟨by omega,by omega⟩,by omega,q0U (q0G (wS b (t-2)) [17,19] i2 (by decide) (by decide)) ?_⟩,fun h=>absurd hlt (by omega)⟩
   refine gQ ?_;refine q0B 2 (by decide) ?_
   with_reducible refine sxE ?_
   refine q0e (q0G (wS b (t-15)) [7,18] i15 (by decide) (by decide)) ?_
   refine uQ 600 _ ?_;simp (maxSteps:=3000000) only [e15,e2,e7,e16,g15,g2,g7,g16,hwl,Ac,Ty.dflt,go_sem,↓zA,↓reduceIte,↓reduceDIte] <;>try simp only [zB]
   repeat (with_reducible refine And.intro (by first|omega|exact ⟨by omega,by omega⟩) ?_)
   refine ⟨t+1,⟨by omega,hlt⟩,by dsimp only;omega,⟨[.dead],?_⟩,?_⟩
   · rw [schU i15 i2,←z0J (by omega),q3h b hlt]
     rfl
   with_reducible refine sx1 hwr ?_;trivial
 obtain rfl:t=64:=by omega
 refine gQ ?_;have hl:=hh.1;refine ⟨fun h=>absurd h (by omega),fun _=> ?_⟩
 repeat (with_reducible refine And.intro (by omega) ?_)
 refine q3x (t:=.arr 64 (.int .u32)) (x:=dat_sha_constants) (ag:=some 64) (s:=.dat (.arr 64 (.int .u32)) dat_sha_constants) (by unfold datList;repeat (first|exact .head _|apply List.Mem.tail)) rfl (.inr rfl) ?_
 refine gQ ?_;refine q1q (ι:=Nat) (fun t=>[(134,rI t),(12,.raw (.int .u32 ((rnds b h t).getD 0 0))),(13,.raw (.int .u32 ((rnds b h t).getD 1 0))),(14,.raw (.int .u32 ((rnds b h t).getD 2 0))),(15,.raw (.int .u32 ((rnds b h t).getD 3 0))),(16,.raw (.int .u32 ((rnds b h t).getD 4 0))),(17,.raw (.int .u32 ((rnds b h t).getD 5 0))),(18,.raw (.int .u32 ((rnds b h t).getD 6 0))),(19,.raw (.int .u32 ((rnds b h t).getD 7 0)))]) (fun t=>[.row (.int .u32) h,.row (.int .u32) (wL b 64)]) (fun t=>64-t) (fun t=>t≤64) 0 (Ai _) 2 rfl (by decide) (fun _=>rfl) (fun _=>rfl) (fun _=>rfl) ?_ ?_
 · with_reducible refine sxE ?_
   exact ⟨rfl,rfl,rfl,rfl,rfl,rfl,rfl,rfl⟩
 intro t ht;have hwr:=wsx t (by omega)
 by_cases hlt:t<64
 · have hv:=q1f (b:=b) hh t;generalize hvv:rnds b h t=v at*;have i0:=q0c hv 0 (by decide)
   have i1:=q0c hv 1 (by decide)
   have i2:=q0c hv 2 (by decide)
   have i3:=q0c hv 3 (by decide)
   have i4:=q0c hv 4 (by decide)
   have i5:=q0c hv 5 (by decide)
   have i6:=q0c hv 6 (by decide)
   have i7:=q0c hv 7 (by decide)
   refine gyd3 hl hwl Ac ?_;refine ⟨fun _=>⟨⟨by omega,by omega⟩,⟨by omega,by omega⟩,by omega,?_⟩,fun h=>absurd hlt (by omega)⟩
   refine q0B 2 (by decide) ?_
   with_reducible refine sxE ?_
   refine q0e (q0G _ [6,11,25] i4 (by decide) (by decide)) ?_
   refine gyd3 hl hwl Ac ?_;refine q0e (q4I _ _ _ i4 i5 i6) ?_;refine gyd3 hl hwl Ac ?_;refine q0q 3 ?_;with_reducible refine sxE ?_
   refine cyd3 (q0G _ [2,13,22] i0 (by decide) (by decide)) hl hwl Ac ?_
   refine cyd3 (q2D _ _ _ i0 i1 i2) hl hwl Ac ?_;have hr:rnds b h (t+1)=rnd (kS t) (wS b t) v:=by show rnd (kS t) (wS b t) (rnds b h t)=_;rw [hvv]
   have hT1:=t1U (k:=kS t) (w:=wS b t) hv;have hT2:=t2U hv;refine ⟨t+1,hlt,by dsimp only;omega,⟨[.dead,.dead],rfl⟩,?_⟩
   rw [z0v,q0P b hlt hlt,hT1,hT2,aU,eU];with_reducible refine sy2 hwr hr ?_
   exact ⟨rfl,rfl,rfl,rfl,rfl,rfl,rfl,rfl⟩
 obtain rfl:t=64:=by omega
 refine gyd3 hl hwl Ac ?_;refine ⟨fun h=>absurd h (by omega),fun _=> ?_⟩
 have e8:=list8 (q1f (b:=b) hh 64).1;refine q0d (ι:=Nat) (fun i=>[(186,rI i),(185,.dat (.arr 8 (.int .u32)) (rnds b h 64))]) (fun i=>[.row (.int .u32) (blkP b h i),.row (.int .u32) (wL b 64)]) (fun t=>8-t) (fun t=>t≤8) 0 (Ai _) ?_ ?_ ?_
 · rw [q2M b hh.1]
 · with_reducible refine sxE ?_
   exact congrArg (SV.dat (.arr 8 (.int .u32))) e8
 intro i hi;have hwr:=wsx i (by omega)
 have hv:=q1f (b:=b) hh 64;have hl:=hv.1;have hbl:=q3H b h i;by_cases hlt:i<8
 · have hbg:=q3S b h hlt;refine gyd4 hl hbl Ac Ay ?_;refine ⟨fun _=> ?_,fun h=>absurd hlt (by omega)⟩
   repeat (with_reducible refine And.intro (by first|omega|exact ⟨by omega,by omega⟩) ?_)
   refine ⟨i+1,hlt,by dsimp only;omega,?_,?_⟩
   · rw [hbg,wrapU];show [_,_]= [SObj.row (.int .u32) (blkP b h (i+1)),_];rw [←q3G b h hlt]
   with_reducible refine sx1 hwr ?_;trivial
 obtain rfl:i=8:=by omega
 refine gyd3 hl hbl Ac ?_;refine ⟨fun h=>absurd h (by omega),fun _=> ?_⟩
 rw [q3I]
theorem j4i(b:List UInt8)(ks:List UInt8×List UInt8)(n:Int)(rd:Bool)(h:List Int)(hb:b.length=64)(hh:inWs h):PE Tryz.prog 194 [.rptr 0 MH 0 128,.csl 0 .u8 136 0 64] [.row MH [(ks,((h,(b,n)),rd))]] (.ret (.tup [])) [.row MH [(ks,(((blkS b h),(b,n)),rd))]]:=by
 refine q0g (Ag _) ?_;refine rQ fi194 ?_;refine q0d (ι:=Nat) (fun t=>[(26,rI t)]) (fun t=>[.row MH [(ks,((h,(b,n)),rd))],.row (.int .u32) (wL b t)]) (fun t=>16-t) (fun t=>t≤16) 0 (Ai _) (by rw [q5m];rfl) ?_ ?_
 · with_reducible refine sxE ?_;trivial
 intro t ht;have hwr:=wsx t (by omega)
 have hwl:=q3g b t;by_cases hlt:t<16
 · have w1:IntKind.i64.wrap (4* (t:Int))=((4*t:Nat):Int):=by rw [wrapi (by omega)];omega
   have w4:IntKind.i64.wrap (((4*t:Nat):Int)+4)=((4*t+4:Nat):Int):=by rw [wrapi (by omega)];omega
   refine gy4 w1 w4 hwl Ac ?_;have hdl:(List.drop (4*t) (List.take (4*t+4) b)).length=4:=by rw [Al,Aj];omega
   refine ⟨fun _=> ?_,fun h=>absurd h (by omega)⟩
   repeat (with_reducible refine And.intro (by first|omega|exact ⟨by omega,by omega,by omega,by omega⟩ |exact ⟨by omega,by omega⟩) ?_)
   refine ⟨t+1,by show t+1≤16;omega,by dsimp only;omega,?_,?_⟩
   · have hd:∀j,j<4→(List.drop (4*t) (List.take (4*t+4) b)).getD j Ty.u8.dflt=b.getD (4*t+j) 0:=fun j hj=>by
      rw [Aa,AD,A6 (by omega),←Aa]
      rfl
     have ho:=or4 fun j=>b.getD (4*t+j) Ty.u8.dflt;rw [ho];have hw:((256* (256* (256* (b.getD (4*t+0) 0).toNat+ (b.getD (4*t+1) 0).toNat)+ (b.getD (4*t+2) 0).toNat)+ (b.getD (4*t+3) 0).toNat:Nat):Int)=wS b t:=by
      rw [q9Z hlt];simp only [wdP,byI];omega
     show [SObj.row MH [(ks,((h,(b,n)),rd))],SObj.row (.int .u32) ((wL b t).set t ((256* (256* (256* (b.getD (4*t+0) 0).toNat+ (b.getD (4*t+1) 0).toNat)+ (b.getD (4*t+2) 0).toNat)+ (b.getD (4*t+3) 0).toNat:Nat):Int))]= [SObj.row MH [(ks,((h,(b,n)),rd))],SObj.row (.int .u32) (wL b (t+1))];rw [hw,q3h b (by omega)]
   with_reducible refine sx1 hwr ?_;trivial
 obtain rfl:t=16:=by omega
 refine gy2 hwl Ac ?_;refine ⟨fun h=>absurd h (by omega),fun _=> ?_⟩
 refine q1q (ι:=Nat) (fun t=>[(7,rI t)]) (fun t=>[.row MH [(ks,((h,(b,n)),rd))],.row (.int .u32) (wL b t)]) (fun t=>64-t) (fun t=>16≤t∧t≤64) 16 (by decide) 2 rfl (by decide) (fun _=>rfl) (fun _=>rfl) (fun _=>rfl) ?_ ?_
 · with_reducible refine sxE ?_
   rfl
 intro t ht;have hwl:=q3g b t;have hwr:=wsx t (by omega)
 by_cases hlt:t<64
 · have e15:IntKind.i64.wrap ((t:Int) -15)=((t-15:Nat):Int):=by rw [wrapi (by omega)];omega
   have e2:IntKind.i64.wrap ((t:Int) -2)=((t-2:Nat):Int):=by rw [wrapi (by omega)];omega
   have e7:IntKind.i64.wrap ((t:Int) -7)=((t-7:Nat):Int):=by rw [wrapi (by omega)];omega
   have e16:IntKind.i64.wrap ((t:Int) -16)=((t-16:Nat):Int):=by rw [wrapi (by omega)];omega
   have g15:=q0P b (t:=t) (j:=t-15) (by omega) (by omega)
   have g2:=q0P b (t:=t) (j:=t-2) (by omega) (by omega)
   have g7:=q0P b (t:=t) (j:=t-7) (by omega) (by omega)
   have g16:=q0P b (t:=t) (j:=t-16) (by omega) (by omega)
   have i15:=q1V b (t-15);have i2:=q1V b (t-2);have i7:=q1V b (t-7);have i16:=q1V b (t-16);refine gyd10 e15 e2 e7 e16 g15 g2 g7 g16 hwl Ac ?_;refine ⟨fun _=>⟨⟨by omega,by omega⟩,by omega,⟨by omega,by omega⟩,by omega,⟨by omega,by omega⟩,by omega,⟨by omega,by omega⟩,by omega,q0U (q0G (wS b (t-2)) [17,19] i2 (by decide) (by decide)) ?_⟩,fun h=>absurd hlt (by omega)⟩
   refine gQ ?_;refine q0B 2 (by decide) ?_
   with_reducible refine sxE ?_
   refine q0e (q0G (wS b (t-15)) [7,18] i15 (by decide) (by decide)) ?_
   refine uQ 600 _ ?_;simp (maxSteps:=3000000) only [e15,e2,e7,e16,g15,g2,g7,g16,hwl,Ac,Ty.dflt,go_sem,↓zA,↓reduceIte,↓reduceDIte] <;>try simp only [zB]
   repeat (with_reducible refine And.intro (by first|omega|exact ⟨by omega,by omega⟩) ?_)
   refine ⟨t+1,⟨by omega,hlt⟩,by dsimp only;omega,⟨[.dead],?_⟩,?_⟩
   · rw [schU i15 i2,←z0J (by omega),q3h b hlt]
     rfl
   with_reducible refine sx1 hwr ?_;trivial
 obtain rfl:t=64:=by omega
 refine gQ ?_;have hl:=hh.1;refine ⟨fun h=>absurd h (by omega),fun _=> ?_⟩
 repeat (with_reducible refine And.intro (by omega) ?_)
 refine q3x (t:=.arr 64 (.int .u32)) (x:=dat_sha_constants) (ag:=some 64) (s:=.dat (.arr 64 (.int .u32)) dat_sha_constants) (by unfold datList;repeat (first|exact .head _|apply List.Mem.tail)) rfl (.inr rfl) ?_
 refine gQ ?_;refine q1q (ι:=Nat) (fun t=>[(134,rI t),(12,.raw (.int .u32 ((rnds b h t).getD 0 0))),(13,.raw (.int .u32 ((rnds b h t).getD 1 0))),(14,.raw (.int .u32 ((rnds b h t).getD 2 0))),(15,.raw (.int .u32 ((rnds b h t).getD 3 0))),(16,.raw (.int .u32 ((rnds b h t).getD 4 0))),(17,.raw (.int .u32 ((rnds b h t).getD 5 0))),(18,.raw (.int .u32 ((rnds b h t).getD 6 0))),(19,.raw (.int .u32 ((rnds b h t).getD 7 0)))]) (fun t=>[.row MH [(ks,((h,(b,n)),rd))],.row (.int .u32) (wL b 64)]) (fun t=>64-t) (fun t=>t≤64) 0 (Ai _) 2 rfl (by decide) (fun _=>rfl) (fun _=>rfl) (fun _=>rfl) ?_ ?_
 · with_reducible refine sxE ?_
   exact ⟨rfl,rfl,rfl,rfl,rfl,rfl,rfl,rfl⟩
 intro t ht;have hwr:=wsx t (by omega)
 by_cases hlt:t<64
 · have hv:=q1f (b:=b) hh t;generalize hvv:rnds b h t=v at*;have i0:=q0c hv 0 (by decide)
   have i1:=q0c hv 1 (by decide)
   have i2:=q0c hv 2 (by decide)
   have i3:=q0c hv 3 (by decide)
   have i4:=q0c hv 4 (by decide)
   have i5:=q0c hv 5 (by decide)
   have i6:=q0c hv 6 (by decide)
   have i7:=q0c hv 7 (by decide)
   refine gyd3 hl hwl Ac ?_;refine ⟨fun _=>⟨⟨by omega,by omega⟩,⟨by omega,by omega⟩,by omega,?_⟩,fun h=>absurd hlt (by omega)⟩
   refine q0B 2 (by decide) ?_
   with_reducible refine sxE ?_
   refine q0e (q0G _ [6,11,25] i4 (by decide) (by decide)) ?_
   refine gyd3 hl hwl Ac ?_;refine q0e (q4I _ _ _ i4 i5 i6) ?_;refine gyd3 hl hwl Ac ?_;refine q0q 3 ?_;with_reducible refine sxE ?_
   refine cyd3 (q0G _ [2,13,22] i0 (by decide) (by decide)) hl hwl Ac ?_
   refine cyd3 (q2D _ _ _ i0 i1 i2) hl hwl Ac ?_;have hr:rnds b h (t+1)=rnd (kS t) (wS b t) v:=by show rnd (kS t) (wS b t) (rnds b h t)=_;rw [hvv]
   have hT1:=t1U (k:=kS t) (w:=wS b t) hv;have hT2:=t2U hv;refine ⟨t+1,hlt,by dsimp only;omega,⟨[.dead,.dead],rfl⟩,?_⟩
   rw [z0v,q0P b hlt hlt,hT1,hT2,aU,eU];with_reducible refine sy2 hwr hr ?_
   exact ⟨rfl,rfl,rfl,rfl,rfl,rfl,rfl,rfl⟩
 obtain rfl:t=64:=by omega
 refine gyd3 hl hwl Ac ?_;refine ⟨fun h=>absurd h (by omega),fun _=> ?_⟩
 have e8:=list8 (q1f (b:=b) hh 64).1;refine q0d (ι:=Nat) (fun i=>[(186,rI i),(185,.dat (.arr 8 (.int .u32)) (rnds b h 64))]) (fun i=>[.row MH [(ks,(((blkP b h i),(b,n)),rd))],.row (.int .u32) (wL b 64)]) (fun t=>8-t) (fun t=>t≤8) 0 (Ai _) ?_ ?_ ?_
 · rw [q2M b hh.1]
 · with_reducible refine sxE ?_
   exact congrArg (SV.dat (.arr 8 (.int .u32))) e8
 intro i hi;have hwr:=wsx i (by omega)
 have hv:=q1f (b:=b) hh 64;have hl:=hv.1;have hbl:=q3H b h i;by_cases hlt:i<8
 · have hbg:=q3S b h hlt;refine gyd4 hl hbl Ac Ay ?_;refine ⟨fun _=> ?_,fun h=>absurd hlt (by omega)⟩
   repeat (with_reducible refine And.intro (by first|omega|exact ⟨by omega,by omega⟩) ?_)
   refine ⟨i+1,hlt,by dsimp only;omega,?_,?_⟩
   · rw [hbg,wrapU];show [_,_]= [SObj.row MH [(ks,(((blkP b h (i+1)),(b,n)),rd))],_];rw [←q3G b h hlt]
   with_reducible refine sx1 hwr ?_;trivial
 obtain rfl:i=8:=by omega
 refine gyd3 hl hbl Ac ?_;refine ⟨fun h=>absurd h (by omega),fun _=> ?_⟩
 rw [q3I]
def padT(b:List UInt8)(total:Nat):List UInt8:=padZ b (padN b.length)++lnB8 (8*total) 8
theorem q9r(b:List UInt8)(total:Nat):(padT b total).length=64*blksN b:=by
 unfold padT blksN;rw [Ad,q5L,q6f];unfold padN;omega
def blkAt(p:List UInt8)(i:Nat):List UInt8:=(p.take (64*i+64)).drop (64*i)
theorem z0C{p:List UInt8}{N i:Nat}(hp:p.length=64*N)(hi:i<N):(blkAt p i).length=64:=by
 unfold blkAt;rw [Al,Aj];omega
def vwB(b:List UInt8)(total:Nat):Nat→Nat→List SV→List SObj→Prop:=fun i _ args' new=>args'= [.isl .u8 (blkAt (padT b total) i)]∧new= []
theorem j0s(b:List UInt8)(total:Nat)(hb:b.length≤70368744177664):PC Tryz.prog 193 [.isl .u8 b,rI total] (.fn 200 [] [.iptr (.slice .u8) b 0,.iptr (.int .i64) total 0]):=by
 refine q0p rfl rfl ?_;refine q0Z fi193 ?_;refine uQ 4 _ ?_;with_reducible refine sxE ?_
 refine q2l 2 0 (ty:=.slice .u8) (x:=b) rfl ⟨by omega,fun _ _=>trivial⟩ rfl rfl ?_
 refine q2l 3 1 (ty:=.int .i64) (x:=(total:Int)) rfl trivial rfl rfl ?_;refine gQ ?_;trivial
def endP(r:List UInt8)(total S i:Nat):List UInt8:=(List.range S).map fun j=>if j<r.length then r.getD j 0 else if j=r.length then 128 else if S-i≤j then UInt8.ofNat (8*total / 2^ (8* (S-1-j))%256) else 0
theorem q4B(r:List UInt8)(total S i:Nat):(endP r total S i).length=S:=by simp [endP]
theorem q9X(r:List UInt8)(total:Nat){S:Nat}(h:r.length<S):(splice (List.replicate S 0) 0 r).set r.length 128=endP r total S 0:=by
 apply Au
 · simp [endP,splice];omega
 intro j h1 h2;rw [A4];simp only [endP,AC,Ax];rw [q4B] at h2;split
 · subst_vars;rw [if_neg (by omega),if_pos rfl]
 rename_i hne;simp only [splice,Cf,AI,Ac];by_cases hj:j<r.length
 · rw [if_pos hj,AP hj,Aa,Ae hj];rfl
 rw [if_neg hj,if_neg (by omega),if_neg (by omega),Bh (by omega)]
 simp
theorem z3D(r:List UInt8)(total:Nat){S i:Nat}(h:r.length+9≤S)(hi:i<8):(endP r total S i).set (S-1-i) (UInt8.ofNat (8*total / 2^ (8*i)%256))=endP r total S (i+1):=by
 apply Au
 · simp [endP]
 intro j h1 h2;rw [q4B] at h2;rw [A4];simp only [endP,AC,Ax];split
 · subst_vars
   rw [if_neg (by omega),if_neg (by omega),if_pos (by omega)]
   rw [show S-1- (S-1-i)=i by omega]
 rename_i hne;by_cases h1:j<r.length
 · rw [if_pos h1,if_pos h1]
 rw [if_neg h1,if_neg h1];by_cases h2:j=r.length
 · rw [if_pos h2,if_pos h2]
 rw [if_neg h2,if_neg h2];by_cases h3:S-i≤j
 · rw [if_pos h3,if_pos (by omega)]
 rw [if_neg h3,if_neg (by omega)]
theorem z8p(b:List UInt8)(total:Nat){S:Nat}(hS:S=64* (blksN b-b.length / 64)):(padT b total).drop (64* (b.length / 64))=endP (b.drop (64* (b.length / 64))) total S 8:=by
 have hl:=q9r b total;have hb:blksN b=(b.length+72) / 64:=rfl;apply Au
 · rw [Al,hl,q4B];omega
 intro j h1 h2;rw [Al,hl] at h1;have hd:(b.drop (64* (b.length / 64))).length=b.length%64:=by rw [Al];omega
 have hn:padN b.length=(119-b.length%64)%64:=rfl;rw [CG];simp only [endP,AC,Ax,hd];unfold padT padZ;by_cases c1:j<b.length%64
 · rw [if_pos c1,AP (by simp;omega),AP (by simp;omega),AP (by omega),Aa,AD,Ae (by omega)];rfl
 rw [if_neg c1];by_cases c2:j=b.length%64
 · rw [if_pos c2,AP (by simp;omega),AP (by simp;omega),Bh (by omega)]
   have:64* (b.length / 64)+j-b.length=0:=by omega
   simp [this]
 rw [if_neg c2];by_cases c3:S-8≤j
 · have hpl:(b++ [128]++List.replicate (padN b.length) (0:UInt8)).length=b.length+1+padN b.length:=by simp;omega
   rw [if_pos c3,Bh (by rw [hpl];omega)]
   simp only [lnB8,AC,Ax,hpl];refine congrArg (fun k=>UInt8.ofNat (8*total / 2^ (8*k)%256)) ?_;omega
 rw [if_neg c3,AP (by simp;omega),Bh (by simp;omega)]
 simp
theorem u64i{x:Int}(h:0≤x∧x<18446744073709551616):IntKind.u64.wrap x=x:=by
 have e:IntKind.u64.wrap x=x%18446744073709551616:=rfl;rw [e];omega
theorem byteQ(n i:Nat)(hi:i≤7):UInt8.ofNat (IntKind.u8.wrap ((n:Int).fdiv (2^ min (8*i) 64))).toNat=UInt8.ofNat (n / 2^ (8*i)%256):=by
 have e:((n:Int).fdiv (2^ (8*i)))=((n / 2^ (8*i):Nat):Int):=by
  rw [AV _ (by exact_mod_cast Ai (2^ (8*i)))]
  simp
 rw [Ba (by omega),e]
 generalize n / 2^ (8*i)=m;rw [u8wrapR];congr 1
theorem q6R(p:List UInt8)(f k:Nat):blkAt p (f+k)=((p.drop (64*f)).drop (64*k)).take 64:=by
 unfold blkAt;rw [Bi,BJ,CO];congr 1;omega
theorem z4B(b:List UInt8)(total:Nat){i:Nat}(hi:i<b.length / 64):List.take 64 (b.drop (64*i))=blkAt (padT b total) i:=by
 unfold blkAt padT padZ;rw [A2 (by simp;omega),A2 (by simp;omega),A2 (by omega),BJ]
 congr 1;omega
theorem z0M(b:List UInt8)(total:Nat)(hb:b.length≤70368744177664)(ht:total≤70368744177664):Iter Tryz.prog 200 [] [.iptr (.slice .u8) b 0,.iptr (.int .i64) (total:Int) 0] (blksN b) (vwB b total):=by
 refine ⟨by kernel_rfl,fun l B J hJ yg=> ?_⟩
 refine (q1z (yFG hJ) fi200 ?_).2
 letI:Ghost:=topG (yFG hJ) []
 refine gQ ?_;refine q8t [] (fun i=>i) (fun i=>[(4,.isl .u8 (b.drop (64*i)))]) (b.length / 64) (fun _=>True) trivial rfl (by simp) (by simp [SV.bel]) ?_ fun i hi _=> ?_
 · with_reducible refine sxE ?_;trivial
 have hN:blksN b=(b.length+72) / 64:=rfl;by_cases hlt:i<b.length / 64
 · refine uQ 600 _ ?_;simp (maxSteps:=3000000) only [Al,go_sem,↓zA,↓reduceIte,↓reduceDIte] <;>try simp only [zB]
   refine ⟨fun _=>⟨by omega,?_⟩,fun h=>absurd h (by omega)⟩
   refine q1W [] hJ yg (by omega) (fun n=>⟨_,_,⟨by rw [z4B b total hlt],rfl⟩,q1e rfl⟩) fun c=> ?_
   cases c
   · refine gQ ?_;exact ⟨_,_,rfl,rfl,by omega⟩
   refine uQ 600 _ ?_;simp (maxSteps:=3000000) only [Al,go_sem,↓zA,↓reduceIte,↓reduceDIte] <;>try simp only [zB]
   have he:List.drop 64 (List.take (b.length-64*i) (List.drop (64*i) b))=List.drop (64* (i+1)) b:=by
    rw [Ab (by rw [Al];omega),Bi];congr 1
   refine ⟨⟨by omega,by omega⟩,hlt,trivial,⟨[],rfl⟩,?_⟩
   rw [he];with_reducible refine sxE ?_;trivial
 obtain rfl:i=b.length / 64:=by omega
 refine uQ 600 _ ?_;simp (maxSteps:=3000000) only [Al,go_sem,↓zA,↓reduceIte,↓reduceDIte] <;>try simp only [zB]
 have hrl:(b.drop (64* (b.length / 64))).length=b.length%64:=by rw [Al];omega
 have hea:=z8p b total (S:=64* (blksN b-b.length / 64)) rfl;generalize hr:b.drop (64* (b.length / 64))=r at*;have hl2:b.length-64* (b.length / 64)=b.length%64:=by omega
 rw [hl2];refine ⟨fun h=>absurd h (by omega),fun _=>⟨fun hg=> ?_,fun hg=> ?_⟩⟩
 · have hw9:IntKind.i64.wrap (((b.length%64:Nat):Int)+9)=((b.length%64:Nat):Int)+9:=by rw [wrapi (by omega)]
   have hS:64* (blksN b-b.length / 64)=128:=by omega
   rw [hS] at hea;have htk:List.take (min (b.length%64) 128) r=r:=Ab (by omega)
   have hz:=q9X r total (S:=128) (by omega)
   rw [htk];repeat (with_reducible refine And.intro (by first|omega|exact ⟨by omega,by omega⟩ |exact ⟨by simp;omega,by decide⟩) ?_)
   refine q0d (ι:=Nat) (fun i=>[(32,rI i)]) (fun i=>[.mark (b.length / 64),.row .u8 (endP r total 128 i)]) (fun i=>8-i) (fun i=>i≤8) 0 (Ai _) ?_ ?_ ?_
   · rw [←hz];simp only [splice,Cf,AI,hrl,Ac];rfl
   · with_reducible refine sxE ?_;trivial
   intro i hi;have hel:=q4B r total 128 i;have hwr:=wsx i (by omega)
   by_cases h8:i<8
   · have w0:IntKind.i64.wrap (128-1)=127:=by rw [wrapi (by omega)];rfl
     have w1:IntKind.i64.wrap (127- (i:Int))=((127-i:Nat):Int):=by rw [wrapi (by omega)];omega
     have w2:IntKind.u64.wrap (total:Int)=total:=u64i (by omega)
     have w3:IntKind.u64.wrap ((total:Int)*8)=((8*total:Nat):Int):=by rw [u64i (by omega)];omega
     have w4:IntKind.i64.wrap (8* (i:Int))=((8*i:Nat):Int):=by rw [wrapi (by omega)];omega
     refine gy8 w0 w1 w2 w3 w4 hel Ac Ac ?_;refine ⟨fun _=> ?_,fun h=>absurd h (by omega)⟩
     repeat (with_reducible refine And.intro (by first|omega|exact ⟨by omega,by omega⟩ |exact ⟨by omega,q0Y _⟩) ?_)
     refine ⟨i+1,h8,by dsimp only;omega,?_,?_⟩
     · dsimp only;rw [byteQ _ _ (by omega),←z3D r total (by omega) h8]
     with_reducible refine sx1 hwr ?_;trivial
   obtain rfl:i=8:=by omega
   refine uQ 6 _ ?_;with_reducible refine sy2 hel Ac ?_
   refine ⟨fun h=>absurd h (by omega),fun _=> ?_⟩
   refine uQ 1 _ ?_;with_reducible refine sxE ?_
   refine q0X 1 rfl rfl (by rw [hel];decide) ?_ ?_ ?_
   · with_reducible refine sxE ?_;trivial
   · with_reducible refine sxE ?_
     omega
   with_reducible refine sxE ?_
   have hck:List.take 128 (endP r total 128 8)=endP r total 128 8:=Ab (by omega)
   rw [hck];refine gy2 hel Ac ?_;refine ⟨by omega,?_⟩
   refine q1W [.dead] hJ yg (i:=b.length / 64) (by omega) (fun n=>⟨_,_,⟨by rw [show blkAt (padT b total) (b.length / 64)=_ from q6R (padT b total) (b.length / 64) 0,hea,Az],rfl⟩,q1e rfl⟩) fun c=> ?_
   cases c
   · refine gQ ?_;exact ⟨_,_,rfl,rfl,by omega⟩
   refine uQ 600 _ ?_;simp (maxSteps:=3000000) only [hel,Ac,go_sem,↓zA,↓reduceIte,↓reduceDIte] <;>try simp only [zB]
   repeat (with_reducible refine And.intro (by first|omega|exact ⟨by omega,by omega⟩) ?_)
   refine q1W [.dead] hJ yg (i:=b.length / 64+1) (by omega) (fun n=>⟨_,_,⟨by rw [q6R _ _ 1,hea,hck,Ab (by rw [Al];omega)],rfl⟩,q1e rfl⟩) fun c=> ?_
   cases c
   · refine gQ ?_;exact ⟨_,_,rfl,rfl,by omega⟩
   refine gQ ?_;exact ⟨_,_,rfl,rfl,by omega⟩
 have hw9:IntKind.i64.wrap (((b.length%64:Nat):Int)+9)=((b.length%64:Nat):Int)+9:=by rw [wrapi (by omega)]
 have hS:64* (blksN b-b.length / 64)=64:=by omega
 rw [hS] at hea;have htk:List.take (min (b.length%64) 64) r=r:=Ab (by omega)
 have hz:=q9X r total (S:=64) (by omega)
 rw [htk];repeat (with_reducible refine And.intro (by first|omega|exact ⟨by omega,by omega⟩ |exact ⟨by simp;omega,by decide⟩) ?_)
 refine q0d (ι:=Nat) (fun i=>[(32,rI i)]) (fun i=>[.mark (b.length / 64),.row .u8 (endP r total 64 i)]) (fun i=>8-i) (fun i=>i≤8) 0 (Ai _) ?_ ?_ ?_
 · rw [←hz];simp only [splice,Cf,AI,hrl,Ac];rfl
 · with_reducible refine sxE ?_;trivial
 intro i hi;have hel:=q4B r total 64 i;have hwr:=wsx i (by omega)
 by_cases h8:i<8
 · have w0:IntKind.i64.wrap (64-1)=63:=by rw [wrapi (by omega)];rfl
   have w1:IntKind.i64.wrap (63- (i:Int))=((63-i:Nat):Int):=by rw [wrapi (by omega)];omega
   have w2:IntKind.u64.wrap (total:Int)=total:=u64i (by omega)
   have w3:IntKind.u64.wrap ((total:Int)*8)=((8*total:Nat):Int):=by rw [u64i (by omega)];omega
   have w4:IntKind.i64.wrap (8* (i:Int))=((8*i:Nat):Int):=by rw [wrapi (by omega)];omega
   refine gy8 w0 w1 w2 w3 w4 hel Ac Ac ?_;refine ⟨fun _=> ?_,fun h=>absurd h (by omega)⟩
   repeat (with_reducible refine And.intro (by first|omega|exact ⟨by omega,by omega⟩ |exact ⟨by omega,q0Y _⟩) ?_)
   refine ⟨i+1,h8,by dsimp only;omega,?_,?_⟩
   · dsimp only;rw [byteQ _ _ (by omega),←z3D r total (by omega) h8]
   with_reducible refine sx1 hwr ?_;trivial
 obtain rfl:i=8:=by omega
 refine uQ 6 _ ?_;with_reducible refine sy2 hel Ac ?_
 refine ⟨fun h=>absurd h (by omega),fun _=> ?_⟩
 refine uQ 1 _ ?_;with_reducible refine sxE ?_
 refine q0X 1 rfl rfl (by rw [hel];decide) ?_ ?_ ?_
 · with_reducible refine sxE ?_;trivial
 · with_reducible refine sxE ?_
   omega
 with_reducible refine sxE ?_
 have hck:List.take 64 (endP r total 64 8)=endP r total 64 8:=Ab (by omega)
 rw [hck];refine gy2 hel Ac ?_;refine ⟨by omega,?_⟩
 refine q1W [.dead] hJ yg (i:=b.length / 64) (by omega) (fun n=>⟨_,_,⟨by rw [show blkAt (padT b total) (b.length / 64)=_ from q6R (padT b total) (b.length / 64) 0,hea,Az],rfl⟩,q1e rfl⟩) fun c=> ?_
 cases c
 · refine gQ ?_;exact ⟨_,_,rfl,rfl,by omega⟩
 refine gQ ?_;exact ⟨_,_,rfl,rfl,by omega⟩
def foldB(h:List Int)(p:List UInt8):Nat→List Int
 |0=>h
 |k+1=>blkS (blkAt p k) (foldB h p k)
theorem q4S(p:List UInt8):∀k,foldB hS0 p k=hashS p k
 |0=>rfl
 |k+1=>by rw [foldB,q4S p k];rfl
theorem q1g{h:List Int}(hh:inWs h)(p:List UInt8):∀k,inWs (foldB h p k)
 |0=>hh
 |_+1=>q7e
def smH(h:List Int)(p:List UInt8)(i:Nat)(H':List SObj):Prop:=∃G,H'= .row .u8 (List.replicate 32 0) :: .row (.int .u32) (foldB h p i) :: G
theorem j5a(b:List UInt8)(hb:b.length≤70368744177664):PC Tryz.prog 178 [.isl .u8 b] (.dat (.arr 32 .u8) (shaS b)):=by
 refine q0p rfl rfl (q4q (q1z noFG fi178 ?_))
 letI:Ghost:=topG noFG []
 refine gQ ?_;refine q3x (t:=.arr 8 (.int .u32)) (x:=dat_sha_start) (ag:=some 8) (s:=.dat (.arr 8 (.int .u32)) dat_sha_start) (by unfold datList;repeat (first|exact .head _|apply List.Mem.tail)) rfl (.inr rfl) ?_
 refine gQ ?_;refine cQ (j0s b b.length hb) ?_;refine z4w (smH hS0 (padS b)) (fun _ _ _=>False) rfl rfl rfl (z0M b b.length hb hb) (fun i n args' new h=>by rw [h.1];rfl) ⟨[],rfl⟩ rfl ?_ ?_ ?_
 · rintro i _ args' new hi ⟨G,rfl⟩ ⟨rfl,rfl⟩ L1 L2
   letI:Ghost:=pinG noFG L1
   rw [Ah];refine uQ 600 _ ?_;simp only [putL,BD];with_reducible refine sxaE ?_
   letI:Ghost:=pinG noFG L2
   refine aQ ?_;have hbl:(blkAt (padT b b.length) i).length=64:=z0C (q9r b b.length) hi;refine eQ [1] (j4L (blkAt (padT b b.length) i) _ hbl (q1g q4F _ i)) ?_;exact ⟨G,rfl⟩
 · rintro D _ ⟨G,rfl⟩
   letI:Ghost:=topG noFG [D]
   have hv:=q1g q4F (padS b) (blksN b);have hfl:=hv.1;have hfe:bytesS (foldB hS0 (padS b) (blksN b))=shaS b:=by rw [q4S];rfl
   generalize foldB hS0 (padS b) (blksN b)=h at*;refine gQ ?_;have htk:List.take 8 h=h:=Ab (by omega)
   rw [htk];refine ⟨by omega,q0a (z6u h hv) ?_⟩
   have hbl:=q0H h;refine gy1 hbl ?_;rw [hfe]
 rintro D i ex _ hi h;exact h.elim
theorem z5E{p q:List UInt8}{i:Nat}(h:64*i+64≤p.length):blkAt (p++q) i=blkAt p i:=by
 unfold blkAt;rw [A2 h]
theorem z1F{p q:List UInt8}{c i:Nat}(h:p.length=64*c):blkAt (p++q) (c+i)=blkAt q i:=by
 unfold blkAt;rw [B2,BV,AW (by rw [Aj];omega),AI,Aj,h]
 congr 1
 · omega
 congr 1;omega
theorem q2R(h:List Int){p q:List UInt8}:∀ {k:Nat},64*k≤p.length→foldB h (p++q) k=foldB h p k
 |0,_=>rfl
 |k+1,hk=>by rw [foldB,foldB,q2R h (by omega),z5E (by omega)]
theorem q7q(h:List Int){p q:List UInt8}{c:Nat}(hp:p.length=64*c):∀k,foldB h (p++q) (c+k)=foldB (foldB h p c) q k
 |0=>by rw [AK,q2R h (by omega)];rfl
 |k+1=>by rw [←Nat.add_assoc,foldB,foldB,q7q h hp k,z1F hp]
abbrev HaD:Type:=List Int×List UInt8×Int
structure HRep (m:List UInt8) (x:HaD):Prop where
 n:x.2.2=(m.length:Int)
 rest:x.2.1.length=64
 len:x.1.length=8
 st:m.length≠0→x.1=foldB hS0 m (m.length / 64)
 tail:x.2.1.take (m.length%64)=m.drop (64* (m.length / 64))
theorem z9U:HRep [] (List.replicate 8 0,List.replicate 64 0,0):=⟨rfl,by simp,by simp,fun h=>absurd rfl h,by simp⟩
def wrR(m rest b:List UInt8):List UInt8:=
 if m.length%64+b.length<64 then splice rest (m.length%64) b
 else splice (if 0<m.length%64 then splice rest (m.length%64) (b.take (64-m.length%64)) else rest) 0 ((m++b).drop (64* ((m++b).length / 64)))
def wrS(m:List UInt8)(x:HaD)(b:List UInt8):HaD:=(foldB hS0 (m++b) ((m++b).length / 64),wrR m x.2.1 b,((m++b).length:Int))
theorem q2e{α:Type}{xs ys:List α}{i:Nat}(h:i+ys.length≤xs.length):(splice xs i ys).length=xs.length:=by simp [splice];omega
theorem q7i{α:Type}{xs ys:List α}{i:Nat}(h:i+ys.length≤xs.length):(splice xs i ys).take (i+ys.length)=xs.take i++ys:=by
 unfold splice;rw [A2 (by rw [Ad,Aj];omega),Ab (by rw [Ad,Aj];omega)]
theorem q8y{m b:List UInt8}{x:HaD}(h:HRep m x):HRep (m++b) (wrS m x b):=by
 obtain ⟨h1,h2,h3,h4,h5⟩:=h;have hlen:(m++b).length=m.length+b.length:=Ad;have hl:(wrR m x.2.1 b).length=64:=by
  unfold wrR;split
  · rw [q2e (by omega)];exact h2
  have h6:((m++b).drop (64* ((m++b).length / 64))).length≤64:=by rw [Al];omega
  split
  · rw [q2e,q2e] <;> (try rw [q2e]) <;> (try rw [Aj]) <;>omega
  rw [q2e] <;>omega
 refine ⟨rfl,hl,(q1g q4F _ _).1,fun _=>rfl,?_⟩;show (wrR m x.2.1 b).take _=_;unfold wrR at hl⊢;split
 · rename_i hlt;have e:(m++b).length%64=m.length%64+b.length:=by omega
   rw [e,q7i (by omega),h5,Bn (by omega)]
   congr 2;omega
 rename_i hge;rw [if_neg hge] at hl;have h6:((m++b).drop (64* ((m++b).length / 64))).length=(m++b).length%64:=by rw [Al];omega
 generalize hr:(if 0<m.length%64 then splice x.2.1 (m.length%64) (b.take (64-m.length%64)) else x.2.1)=r at*;generalize ht:(m++b).drop (64* ((m++b).length / 64))=t at*;have hrl:r.length=64:=by
  rw [←hr];split
  · rw [q2e] <;> (try rw [Aj]) <;>omega
  exact h2
 have:=q7i (xs:=r) (ys:=t) (i:=0) (by omega)
 rw [Ac,Cf,AI] at this;rw [←h6];exact this
theorem z9G{m:List UInt8}{x:HaD}(h:HRep m x)(hm:m.length≠0):bytesS (foldB x.1 (padT (x.2.1.take (m.length%64)) m.length) (blksN (x.2.1.take (m.length%64))))=shaS m:=by
 obtain ⟨h1,h2,h3,h4,h5⟩:=h;rw [h4 hm,h5];have hp:padS m=m.take (64* (m.length / 64))++padT (m.drop (64* (m.length / 64))) m.length:=by
  unfold padS padT padZ;have e:padN (m.drop (64* (m.length / 64))).length=padN m.length:=by
   rw [Al];unfold padN;congr 2;omega
  rw [e];simp only [←List.append_assoc,A0]
 have hb:blksN m=m.length / 64+blksN (m.drop (64* (m.length / 64))):=by
  unfold blksN;rw [Al];omega
 unfold shaS;rw [←q4S,hp,hb,q7q hS0 (by rw [Aj];omega)]
 congr 2;have:=q2R hS0 (p:=m.take (64* (m.length / 64))) (q:=m.drop (64* (m.length / 64))) (k:=m.length / 64) (by rw [Aj];omega)
 rw [A0] at this;exact this
theorem z6Y(b:List UInt8)(r:List UInt8×Int)(h:List Int)(hb:b.length=64)(hh:inWs h):PE Tryz.prog 194 [.rptr 0 HH 0 0,.isl .u8 b] [.row HH [(h,r)]] (.ret (.tup [])) [.row HH [((blkS b h),r)]]:=by
 refine q0g (Ag _) ?_;refine rQ fi194 ?_;refine q0d (ι:=Nat) (fun t=>[(26,rI t)]) (fun t=>[.row HH [(h,r)],.row (.int .u32) (wL b t)]) (fun t=>16-t) (fun t=>t≤16) 0 (Ai _) (by rw [q5m];rfl) ?_ ?_
 · with_reducible refine sxE ?_;trivial
 intro t ht;have hwr:=wsx t (by omega)
 have hwl:=q3g b t;by_cases hlt:t<16
 · have w1:IntKind.i64.wrap (4* (t:Int))=((4*t:Nat):Int):=by rw [wrapi (by omega)];omega
   have w4:IntKind.i64.wrap (((4*t:Nat):Int)+4)=((4*t+4:Nat):Int):=by rw [wrapi (by omega)];omega
   refine gy4 w1 w4 hwl Ac ?_;have hdl:(List.drop (4*t) (List.take (4*t+4) b)).length=4:=by rw [Al,Aj];omega
   refine ⟨fun _=> ?_,fun h=>absurd h (by omega)⟩
   repeat (with_reducible refine And.intro (by first|omega|exact ⟨by omega,by omega,by omega,by omega⟩ |exact ⟨by omega,by omega⟩) ?_)
   refine ⟨t+1,by show t+1≤16;omega,by dsimp only;omega,?_,?_⟩
   · have hd:∀j,j<4→(List.drop (4*t) (List.take (4*t+4) b)).getD j Ty.u8.dflt=b.getD (4*t+j) 0:=fun j hj=>by
      rw [Aa,AD,A6 (by omega),←Aa]
      rfl
     have ho:=or4 fun j=>(List.drop (4*t) (List.take (4*t+4) b)).getD j Ty.u8.dflt;rw [ho,hd 0 (by omega),hd 1 (by omega),hd 2 (by omega),hd 3 (by omega)]
     have hw:((256* (256* (256* (b.getD (4*t+0) 0).toNat+ (b.getD (4*t+1) 0).toNat)+ (b.getD (4*t+2) 0).toNat)+ (b.getD (4*t+3) 0).toNat:Nat):Int)=wS b t:=by
      rw [q9Z hlt];simp only [wdP,byI];omega
     show [SObj.row HH [(h,r)],SObj.row (.int .u32) ((wL b t).set t ((256* (256* (256* (b.getD (4*t+0) 0).toNat+ (b.getD (4*t+1) 0).toNat)+ (b.getD (4*t+2) 0).toNat)+ (b.getD (4*t+3) 0).toNat:Nat):Int))]= [SObj.row HH [(h,r)],SObj.row (.int .u32) (wL b (t+1))];rw [hw,q3h b (by omega)]
   with_reducible refine sx1 hwr ?_;trivial
 obtain rfl:t=16:=by omega
 refine gy2 hwl Ac ?_;refine ⟨fun h=>absurd h (by omega),fun _=> ?_⟩
 refine q1q (ι:=Nat) (fun t=>[(7,rI t)]) (fun t=>[.row HH [(h,r)],.row (.int .u32) (wL b t)]) (fun t=>64-t) (fun t=>16≤t∧t≤64) 16 (by decide) 2 rfl (by decide) (fun _=>rfl) (fun _=>rfl) (fun _=>rfl) ?_ ?_
 · with_reducible refine sxE ?_
   rfl
 intro t ht;have hwl:=q3g b t;have hwr:=wsx t (by omega)
 by_cases hlt:t<64
 · have e15:IntKind.i64.wrap ((t:Int) -15)=((t-15:Nat):Int):=by rw [wrapi (by omega)];omega
   have e2:IntKind.i64.wrap ((t:Int) -2)=((t-2:Nat):Int):=by rw [wrapi (by omega)];omega
   have e7:IntKind.i64.wrap ((t:Int) -7)=((t-7:Nat):Int):=by rw [wrapi (by omega)];omega
   have e16:IntKind.i64.wrap ((t:Int) -16)=((t-16:Nat):Int):=by rw [wrapi (by omega)];omega
   have g15:=q0P b (t:=t) (j:=t-15) (by omega) (by omega)
   have g2:=q0P b (t:=t) (j:=t-2) (by omega) (by omega)
   have g7:=q0P b (t:=t) (j:=t-7) (by omega) (by omega)
   have g16:=q0P b (t:=t) (j:=t-16) (by omega) (by omega)
   have i15:=q1V b (t-15);have i2:=q1V b (t-2);have i7:=q1V b (t-7);have i16:=q1V b (t-16);refine gyd10 e15 e2 e7 e16 g15 g2 g7 g16 hwl Ac ?_;refine ⟨fun _=>⟨⟨by omega,by omega⟩,by omega,⟨by omega,by omega⟩,by omega,⟨by omega,by omega⟩,by omega,⟨by omega,by omega⟩,by omega,q0U (q0G (wS b (t-2)) [17,19] i2 (by decide) (by decide)) ?_⟩,fun h=>absurd hlt (by omega)⟩
   refine gQ ?_;refine q0B 2 (by decide) ?_
   with_reducible refine sxE ?_
   refine q0e (q0G (wS b (t-15)) [7,18] i15 (by decide) (by decide)) ?_
   refine uQ 600 _ ?_;simp (maxSteps:=3000000) only [e15,e2,e7,e16,g15,g2,g7,g16,hwl,Ac,Ty.dflt,go_sem,↓zA,↓reduceIte,↓reduceDIte] <;>try simp only [zB]
   repeat (with_reducible refine And.intro (by first|omega|exact ⟨by omega,by omega⟩) ?_)
   refine ⟨t+1,⟨by omega,hlt⟩,by dsimp only;omega,⟨[.dead],?_⟩,?_⟩
   · rw [schU i15 i2,←z0J (by omega),q3h b hlt]
     rfl
   with_reducible refine sx1 hwr ?_;trivial
 obtain rfl:t=64:=by omega
 refine gQ ?_;have hl:=hh.1;refine ⟨fun h=>absurd h (by omega),fun _=> ?_⟩
 repeat (with_reducible refine And.intro (by omega) ?_)
 refine q3x (t:=.arr 64 (.int .u32)) (x:=dat_sha_constants) (ag:=some 64) (s:=.dat (.arr 64 (.int .u32)) dat_sha_constants) (by unfold datList;repeat (first|exact .head _|apply List.Mem.tail)) rfl (.inr rfl) ?_
 refine gQ ?_;refine q1q (ι:=Nat) (fun t=>[(134,rI t),(12,.raw (.int .u32 ((rnds b h t).getD 0 0))),(13,.raw (.int .u32 ((rnds b h t).getD 1 0))),(14,.raw (.int .u32 ((rnds b h t).getD 2 0))),(15,.raw (.int .u32 ((rnds b h t).getD 3 0))),(16,.raw (.int .u32 ((rnds b h t).getD 4 0))),(17,.raw (.int .u32 ((rnds b h t).getD 5 0))),(18,.raw (.int .u32 ((rnds b h t).getD 6 0))),(19,.raw (.int .u32 ((rnds b h t).getD 7 0)))]) (fun t=>[.row HH [(h,r)],.row (.int .u32) (wL b 64)]) (fun t=>64-t) (fun t=>t≤64) 0 (Ai _) 2 rfl (by decide) (fun _=>rfl) (fun _=>rfl) (fun _=>rfl) ?_ ?_
 · with_reducible refine sxE ?_
   exact ⟨rfl,rfl,rfl,rfl,rfl,rfl,rfl,rfl⟩
 intro t ht;have hwr:=wsx t (by omega)
 by_cases hlt:t<64
 · have hv:=q1f (b:=b) hh t;generalize hvv:rnds b h t=v at*;have i0:=q0c hv 0 (by decide)
   have i1:=q0c hv 1 (by decide)
   have i2:=q0c hv 2 (by decide)
   have i3:=q0c hv 3 (by decide)
   have i4:=q0c hv 4 (by decide)
   have i5:=q0c hv 5 (by decide)
   have i6:=q0c hv 6 (by decide)
   have i7:=q0c hv 7 (by decide)
   refine gyd3 hl hwl Ac ?_;refine ⟨fun _=>⟨⟨by omega,by omega⟩,⟨by omega,by omega⟩,by omega,?_⟩,fun h=>absurd hlt (by omega)⟩
   refine q0B 2 (by decide) ?_
   with_reducible refine sxE ?_
   refine q0e (q0G _ [6,11,25] i4 (by decide) (by decide)) ?_
   refine gyd3 hl hwl Ac ?_;refine q0e (q4I _ _ _ i4 i5 i6) ?_;refine gyd3 hl hwl Ac ?_;refine q0q 3 ?_;with_reducible refine sxE ?_
   refine cyd3 (q0G _ [2,13,22] i0 (by decide) (by decide)) hl hwl Ac ?_
   refine cyd3 (q2D _ _ _ i0 i1 i2) hl hwl Ac ?_;have hr:rnds b h (t+1)=rnd (kS t) (wS b t) v:=by show rnd (kS t) (wS b t) (rnds b h t)=_;rw [hvv]
   have hT1:=t1U (k:=kS t) (w:=wS b t) hv;have hT2:=t2U hv;refine ⟨t+1,hlt,by dsimp only;omega,⟨[.dead,.dead],rfl⟩,?_⟩
   rw [z0v,q0P b hlt hlt,hT1,hT2,aU,eU];with_reducible refine sy2 hwr hr ?_
   exact ⟨rfl,rfl,rfl,rfl,rfl,rfl,rfl,rfl⟩
 obtain rfl:t=64:=by omega
 refine gyd3 hl hwl Ac ?_;refine ⟨fun h=>absurd h (by omega),fun _=> ?_⟩
 have e8:=list8 (q1f (b:=b) hh 64).1;refine q0d (ι:=Nat) (fun i=>[(186,rI i),(185,.dat (.arr 8 (.int .u32)) (rnds b h 64))]) (fun i=>[.row HH [((blkP b h i),r)],.row (.int .u32) (wL b 64)]) (fun t=>8-t) (fun t=>t≤8) 0 (Ai _) ?_ ?_ ?_
 · rw [q2M b hh.1]
 · with_reducible refine sxE ?_
   exact congrArg (SV.dat (.arr 8 (.int .u32))) e8
 intro i hi;have hwr:=wsx i (by omega)
 have hv:=q1f (b:=b) hh 64;have hl:=hv.1;have hbl:=q3H b h i;by_cases hlt:i<8
 · have hbg:=q3S b h hlt;refine gyd4 hl hbl Ac Ay ?_;refine ⟨fun _=> ?_,fun h=>absurd hlt (by omega)⟩
   repeat (with_reducible refine And.intro (by first|omega|exact ⟨by omega,by omega⟩) ?_)
   refine ⟨i+1,hlt,by dsimp only;omega,?_,?_⟩
   · rw [hbg,wrapU];show [_,_]= [SObj.row HH [((blkP b h (i+1)),r)],_];rw [←q3G b h hlt]
   with_reducible refine sx1 hwr ?_;trivial
 obtain rfl:i=8:=by omega
 refine gyd3 hl hbl Ac ?_;refine ⟨fun h=>absurd h (by omega),fun _=> ?_⟩
 rw [q3I]
end Go.Proofs.YtikapabgggphpaaGreatDoor
