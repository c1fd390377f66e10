/- SHA-256: contracts: the program's block. -/
import Derived.Test.YthbcodbcndiapaaGreatDoorP12
set_option linter.all false
namespace Go.Proofs.YthbcodbcndiapaaGreatDoor
open Go Go.Sx Go.Proofs
set_option maxRecDepth 100000
set_option maxHeartbeats 40000000
abbrev HH:Ty:=.prod (.arr 8 (.int .u32)) (.prod (.arr 64 .u8) (.int .i64))
abbrev MH:Ty:=.prod (.prod (.arr 64 .u8) (.arr 64 .u8)) (.prod HH .bool)
def orW{a b:Nat}{k:Nat}(hb:b<2^ k)(h:2^ k*a+b<4294967296):orK .u32 ((2^ k*a:Nat):Int) (b:Int)=((2^ k*a+b:Nat):Int):=by
 unfold orK;have h1:(BitVec.ofInt IntKind.u32.bits ((2^ k*a:Nat):Int) |||BitVec.ofInt IntKind.u32.bits (b:Int)).toNat=2^ k*a+b:=by rw [Cq,AO,AO,AU,AU];rw [show 2^ IntKind.u32.bits=4294967296 from rfl,AV (a:=2^ k*a) (by omega),AV (a:=b) (by omega),<-CL hb]
 rw [h1];exact w32 (by constructor<;>omega)
def u32n(n:Nat)(h:n<4294967296):IntKind.u32.wrap (n:Int)=(n:Int):=w32 (by constructor<;>omega)
theorem or4(c:Nat->UInt8):orK .u32 (orK .u32 (orK .u32 (IntKind.u32.wrap (IntKind.u32.wrap ((c 0).toNat:Int)*2^ min 24 32)) (IntKind.u32.wrap (IntKind.u32.wrap ((c 1).toNat:Int)*2^ min 16 32))) (IntKind.u32.wrap (IntKind.u32.wrap ((c 2).toNat:Int)*2^ min 8 32))) (IntKind.u32.wrap ((c 3).toNat:Int))=((256* (256* (256* (c 0).toNat+ (c 1).toNat)+ (c 2).toNat)+ (c 3).toNat:Nat):Int):=by
 have h0:=(c 0).toNat_lt;have h1:=(c 1).toNat_lt;have h2:=(c 2).toNat_lt;have h3:=(c 3).toNat_lt;generalize (c 0).toNat=a0 at*;generalize (c 1).toNat=a1 at*;generalize (c 2).toNat=a2 at*;generalize (c 3).toNat=a3 at*;have e0:IntKind.u32.wrap (IntKind.u32.wrap (a0:Int)*2^ min 24 32)=((2^ 24*a0:Nat):Int):=by rw [u32n a0 (by omega),show (2:Int) ^ min 24 32=16777216 from rfl,w32 (by constructor<;>omega)];omega
 have e1:IntKind.u32.wrap (IntKind.u32.wrap (a1:Int)*2^ min 16 32)=((2^ 16*a1:Nat):Int):=by rw [u32n a1 (by omega),show (2:Int) ^ min 16 32=65536 from rfl,w32 (by constructor<;>omega)];omega
 have e2:IntKind.u32.wrap (IntKind.u32.wrap (a2:Int)*2^ min 8 32)=((2^ 8*a2:Nat):Int):=by rw [u32n a2 (by omega),show (2:Int) ^ min 8 32=256 from rfl,w32 (by constructor<;>omega)];omega
 rw [e0,e1,e2,u32n a3 (by omega),orW (a:=a0) (b:=2^ 16*a1) (k:=24) (by omega) (by omega),
  show 2^ 24*a0+2^ 16*a1=2^ 16* (2^ 8*a0+a1) by omega,orW (a:=2^ 8*a0+a1) (b:=2^ 8*a2) (k:=16) (by omega) (by omega),
  show 2^ 16* (2^ 8*a0+a1)+2^ 8*a2=2^ 8* (2^ 8* (2^ 8*a0+a1)+a2) by omega,orW (a:=2^ 8* (2^ 8*a0+a1)+a2) (b:=a3) (k:=8) (by omega) (by omega)]
theorem wrapU(x:Int):IntKind.u32.wrap x=x%4294967296:=rfl
variable {x:Int}
def z0C(h:inW x):xorW 0 x=x:=by unfold xorW;rw [Int.toNat_zero,Nat.zero_xor];omega
def turn2(h:inW x)(a b:Nat)(h1:1<=a)(h2:a<=31):turnS x [a,b] 2=xorW (rotW a x) (rotW b x):=by show xorW (xorW 0 (rotW a x)) (rotW b x)=_;rw [z0C (q3n h1 h2 h)]
def turn3(h:inW x)(a b c:Nat)(h1:1<=a)(h2:a<=31):turnS x [a,b,c] 3=xorW (xorW (rotW a x) (rotW b x)) (rotW c x):=by show xorW (xorW (xorW 0 (rotW a x)) (rotW b x)) (rotW c x)=_;rw [z0C (q3n h1 h2 h)]
variable {y:Int}
theorem sg1U(h:inW y):xorK .u32 (turnS y [17,19] 2) (y.fdiv (2^ min 10 32))=sg1 y:=by have e:y.fdiv (2^ min 10 32)=y / 1024:=fdivW y 1024 (by decide);have h1:=q3n (n:=17) (by decide) (by decide) h;have h2:=q3n (n:=19) (by decide) (by decide) h;rw [e,turn2 h 17 19 (by decide) (by decide),xor32 (q7N h1 h2) (by unfold inW at*;omega)];rfl
theorem sg0U(h:inW y):xorK .u32 (turnS y [7,18] 2) (y.fdiv (2^ min 3 32))=sg0 y:=by have e:y.fdiv (2^ min 3 32)=y / 8:=fdivW y 8 (by decide);have h1:=q3n (n:=7) (by decide) (by decide) h;have h2:=q3n (n:=18) (by decide) (by decide) h;rw [e,turn2 h 7 18 (by decide) (by decide),xor32 (q7N h1 h2) (by unfold inW at*;omega)];rfl
def schU{u v:Int}(hx:inW x)(hy:inW y):IntKind.u32.wrap (IntKind.u32.wrap (IntKind.u32.wrap (xorK .u32 (turnS y [17,19] 2) (y.fdiv (2^ min 10 32))+u)+xorK .u32 (turnS x [7,18] 2) (x.fdiv (2^ min 3 32)))+v)=(sg1 y+u+sg0 x+v)%W32:=by rw [sg0U hx,sg1U hy,wrapU,wrapU,wrapU];unfold W32;omega
def bs1U(h:inW x):turnS x [6,11,25] 3=bs1 x:=turn3 h _ _ _ (by decide) (by decide)
def bs0U(h:inW x):turnS x [2,13,22] 3=bs0 x:=turn3 h _ _ _ (by decide) (by decide)
def notU(h:inW x):IntKind.u32.wrap ↑(BitVec.ofInt 32 (if IntKind.u32.signed=true then -1 else IntKind.u32.max) ^^^ BitVec.ofInt 32 x).toNat=4294967295-x:=by
 have e:BitVec.ofInt 32 (if IntKind.u32.signed=true then -1 else IntKind.u32.max)=BitVec.allOnes 32:=by decide
 obtain ⟨n,rfl⟩:∃n:Nat,x=n:=⟨x.toNat,by omega⟩
 rw [e,BitVec.allOnes_xor,BitVec.toNat_not,AO,AU,AV (by omega),wrapU];omega
theorem q4M(x y z:Int)(hx:inW x)(hy:inW y)(hz:inW z):PC Tryz.prog 300 [.raw (.int .u32 x),.raw (.int .u32 y),.raw (.int .u32 z)] (.raw (.int .u32 (chW x y z))):=by
 have hn:inW (4294967295-x):=by omega
 have e1:=and32 hx hy;have e2:=and32 hn hz;have e3:=xor32 (q3P hx hy) (q3P hn hz);refine q0q rfl rfl ?_;refine rQ fi300 ?_;refine (congrArg (fun u=>Value.int IntKind.u32 (xorK IntKind.u32 (andK IntKind.u32 x y) (andK IntKind.u32 u z))) (notU hx)).trans ?_;show Value.int IntKind.u32 (xorK IntKind.u32 (andK IntKind.u32 x y) (andK IntKind.u32 (4294967295-x) z))=_;rw [e1,e2,e3];rfl
theorem q3e(a b c:Int)(ha:inW a)(hb:inW b)(hc:inW c):PC Tryz.prog 301 [.raw (.int .u32 a),.raw (.int .u32 b),.raw (.int .u32 c)] (.raw (.int .u32 (majW a b c))):=by have e1:=and32 ha hb;have e2:=and32 ha hc;have e3:=and32 hb hc;have e4:=xor32 (q3P ha hb) (q3P ha hc);have e5:=xor32 (q7N (q3P ha hb) (q3P ha hc)) (q3P hb hc);refine q0q rfl rfl ?_;refine rQ fi301 ?_;rw [e1,e2,e4,e3,e5];rfl
theorem z0x(t:Nat):dat_sha_constants.getD t 0=kS t:=rfl
variable {v:List Int}
def t1U{k w:Int}(hv:inWs v):IntKind.u32.wrap (IntKind.u32.wrap (IntKind.u32.wrap (IntKind.u32.wrap (v.getD 7 0+turnS (v.getD 4 0) [6,11,25] 3)+chW (v.getD 4 0) (v.getD 5 0) (v.getD 6 0))+k)+w)=t1S k w v%W32:=by rw [bs1U (q0j hv 4 (by decide))];simp only [wrapU];unfold t1S W32;omega
theorem t2U(hv:inWs v):IntKind.u32.wrap (turnS (v.getD 0 0) [2,13,22] 3+majW (v.getD 0 0) (v.getD 1 0) (v.getD 2 0))=t2S v%W32:=by rw [bs0U (q0j hv 0 (by decide))];rfl
def aU(x y:Int):IntKind.u32.wrap (x%W32+y%W32)=(x+y)%W32:=by rw [wrapU];unfold W32;omega
def eU(x y:Int):IntKind.u32.wrap (x+y%W32)=(x+y)%W32:=by rw [wrapU];unfold W32;omega
theorem list8{l:List Int}(h:l.length=8):[l.getD 0 0,l.getD 1 0,l.getD 2 0,l.getD 3 0,l.getD 4 0,l.getD 5 0,l.getD 6 0,l.getD 7 0]=l:=by
 match l,h with
 | [a,b,c,d,e,f,g,i],_=>rfl
theorem j6g(b:List UInt8)(h:List Int)(hb:b.length=64)(hh:inWs h):PE Tryz.prog 292 [.rptr 0 (.int .u32) 0 0,.isl .u8 b] [.row (.int .u32) h] (.ret (.tup [])) [.row (.int .u32) (blkS b h)]:=by
 refine q0b (Af _) ?_;refine rQ fi292 ?_;refine q0k (ι:=Nat) (fun t=>[(26,rI t)]) (fun t=>[.row (.int .u32) h,.row (.int .u32) (wL b t)]) (fun t=>16-t) (fun t=>t<=16) 0 (Al _) (by rw [q7d];rfl) ?_ ?_
 . with_reducible refine sxE ?_;trivial
 intro t ht;have hwr:=wsx t (by omega);have hwl:=q4m b t;by_cases hlt:t<16
 . have w1:IntKind.i64.wrap (4* (t:Int))=((4*t:Nat):Int):=by rw [wrapi (by omega)];omega
   have w4:IntKind.i64.wrap (((4*t:Nat):Int)+4)=((4*t+4:Nat):Int):=by rw [wrapi (by omega)];omega
   refine gy4 w1 w4 hwl Ae ?_;have hdl:(List.drop (4*t) (List.take (4*t+4) b)).length=4:=by rw [Aj,Ak];omega
   refine ⟨fun _=> ?_,fun h=>absurd h (by omega)⟩;repeat (with_reducible refine And.intro (by first|omega|exact ⟨by omega,by omega,by omega,by omega⟩ |exact ⟨by omega,by omega⟩) ?_)
   refine ⟨t+1,by show t+1<=16;omega,by dsimp only;omega,?_,?_⟩
   . have hd:∀j,j<4->(List.drop (4*t) (List.take (4*t+4) b)).getD j Ty.u8.dflt=b.getD (4*t+j) 0:=fun j hj=>by rw [Aa,AA,A3 (by omega),<-Aa];rfl
     have ho:=or4 fun j=>(List.drop (4*t) (List.take (4*t+4) b)).getD j Ty.u8.dflt;rw [ho,hd 0 (by omega),hd 1 (by omega),hd 2 (by omega),hd 3 (by omega)];have hw:((256* (256* (256* (b.getD (4*t+0) 0).toNat+ (b.getD (4*t+1) 0).toNat)+ (b.getD (4*t+2) 0).toNat)+ (b.getD (4*t+3) 0).toNat:Nat):Int)=wS b t:=by rw [z1L hlt];simp only [wdP,byI];omega
     show [SObj.row (.int .u32) h,SObj.row (.int .u32) ((wL b t).set t ((256* (256* (256* (b.getD (4*t+0) 0).toNat+ (b.getD (4*t+1) 0).toNat)+ (b.getD (4*t+2) 0).toNat)+ (b.getD (4*t+3) 0).toNat:Nat):Int))]= [SObj.row (.int .u32) h,SObj.row (.int .u32) (wL b (t+1))];rw [hw,q4n b (by omega)]
   with_reducible refine sx1 hwr ?_;trivial
 obtain rfl:t=16:=by omega
 refine gy2 hwl Ae ?_;refine ⟨fun h=>absurd h (by omega),fun _=> ?_⟩;refine q1Y (ι:=Nat) (fun t=>[(7,rI t)]) (fun t=>[.row (.int .u32) h,.row (.int .u32) (wL b t)]) (fun t=>64-t) (fun t=>16<=t∧t<=64) 16 (by decide) 2 rfl (by decide) (fun _=>rfl) (fun _=>rfl) (fun _=>rfl) ?_ ?_
 . with_reducible refine sxE ?_
   rfl
 intro t ht;have hwl:=q4m b t;have hwr:=wsx t (by omega);by_cases hlt:t<64
 . have e15:IntKind.i64.wrap ((t:Int) -15)=((t-15:Nat):Int):=by rw [wrapi (by omega)];omega
   have e2:IntKind.i64.wrap ((t:Int) -2)=((t-2:Nat):Int):=by rw [wrapi (by omega)];omega
   have e7:IntKind.i64.wrap ((t:Int) -7)=((t-7:Nat):Int):=by rw [wrapi (by omega)];omega
   have e16:IntKind.i64.wrap ((t:Int) -16)=((t-16:Nat):Int):=by rw [wrapi (by omega)];omega
   have g15:=q1c b (t:=t) (j:=t-15) (by omega) (by omega);have g2:=q1c b (t:=t) (j:=t-2) (by omega) (by omega);have g7:=q1c b (t:=t) (j:=t-7) (by omega) (by omega);have g16:=q1c b (t:=t) (j:=t-16) (by omega) (by omega);have i15:=q2N b (t-15);have i2:=q2N b (t-2);have i7:=q2N b (t-7);have i16:=q2N b (t-16);refine gyd10 e15 e2 e7 e16 g15 g2 g7 g16 hwl Ae ?_;refine ⟨fun _=>⟨⟨by omega,by omega⟩,by omega,⟨by omega,by omega⟩,by omega,⟨by omega,by omega⟩,by omega,⟨by omega,by omega⟩,by omega,q0e (q0M (wS b (t-2)) [17,19] i2 (by decide) (by decide)) ?_⟩,fun h=>absurd hlt (by omega)⟩;refine gQ ?_;refine q0G 2 (by decide) ?_;with_reducible refine sxE ?_
   refine q0c (q0M (wS b (t-15)) [7,18] i15 (by decide) (by decide)) ?_;refine uQ 600 _ ?_;simp (maxSteps:=3000000) only [e15,e2,e7,e16,g15,g2,g7,g16,hwl,Ae,Ty.dflt,go_sem,↓zA,↓reduceIte,↓reduceDIte] <;>try simp only [zB]
   repeat (with_reducible refine And.intro (by first|omega|exact ⟨by omega,by omega⟩) ?_)
   refine ⟨t+1,⟨by omega,hlt⟩,by dsimp only;omega,⟨[.dead],?_⟩,?_⟩
   . rw [schU i15 i2,<-z1Z (by omega),q4n b hlt];rfl
   with_reducible refine sx1 hwr ?_;trivial
 obtain rfl:t=64:=by omega
 refine gQ ?_;have hl:=hh.1;refine ⟨fun h=>absurd h (by omega),fun _=> ?_⟩;repeat (with_reducible refine And.intro (by omega) ?_)
 refine q3z (t:=.arr 64 (.int .u32)) (x:=dat_sha_constants) (ag:=some 64) (s:=.dat (.arr 64 (.int .u32)) dat_sha_constants) (by unfold datList;repeat (first|exact .head _|apply List.Mem.tail)) rfl (.inr rfl) ?_;refine gQ ?_;refine q1Y (ι:=Nat) (fun t=>[(134,rI t),(12,.raw (.int .u32 ((rnds b h t).getD 0 0))),(13,.raw (.int .u32 ((rnds b h t).getD 1 0))),(14,.raw (.int .u32 ((rnds b h t).getD 2 0))),(15,.raw (.int .u32 ((rnds b h t).getD 3 0))),(16,.raw (.int .u32 ((rnds b h t).getD 4 0))),(17,.raw (.int .u32 ((rnds b h t).getD 5 0))),(18,.raw (.int .u32 ((rnds b h t).getD 6 0))),(19,.raw (.int .u32 ((rnds b h t).getD 7 0)))]) (fun t=>[.row (.int .u32) h,.row (.int .u32) (wL b 64)]) (fun t=>64-t) (fun t=>t<=64) 0 (Al _) 2 rfl (by decide) (fun _=>rfl) (fun _=>rfl) (fun _=>rfl) ?_ ?_
 . with_reducible refine sxE ?_
   exact ⟨rfl,rfl,rfl,rfl,rfl,rfl,rfl,rfl⟩
 intro t ht;have hwr:=wsx t (by omega);by_cases hlt:t<64
 . have hv:=q1t (b:=b) hh t;generalize hvv:rnds b h t=v at*;have i0:=q0j hv 0 (by decide);have i1:=q0j hv 1 (by decide);have i2:=q0j hv 2 (by decide);have i3:=q0j hv 3 (by decide);have i4:=q0j hv 4 (by decide);have i5:=q0j hv 5 (by decide);have i6:=q0j hv 6 (by decide);have i7:=q0j hv 7 (by decide);refine gyd3 hl hwl Ae ?_;refine ⟨fun _=>⟨⟨by omega,by omega⟩,⟨by omega,by omega⟩,by omega,?_⟩,fun h=>absurd hlt (by omega)⟩;refine q0G 2 (by decide) ?_;with_reducible refine sxE ?_
   refine q0c (q0M _ [6,11,25] i4 (by decide) (by decide)) ?_;refine gyd3 hl hwl Ae ?_;refine q0c (q4M _ _ _ i4 i5 i6) ?_;refine gyd3 hl hwl Ae ?_;refine q0z 3 ?_;with_reducible refine sxE ?_
   refine cyd3 (q0M _ [2,13,22] i0 (by decide) (by decide)) hl hwl Ae ?_;refine cyd3 (q3e _ _ _ i0 i1 i2) hl hwl Ae ?_;have hr:rnds b h (t+1)=rnd (kS t) (wS b t) v:=by show rnd (kS t) (wS b t) (rnds b h t)=_;rw [hvv]
   have hT1:=t1U (k:=kS t) (w:=wS b t) hv;have hT2:=t2U hv;refine ⟨t+1,hlt,by dsimp only;omega,⟨[.dead,.dead],rfl⟩,?_⟩;rw [z0x,q1c b hlt hlt,hT1,hT2,aU,eU];with_reducible refine sy2 hwr hr ?_
   exact ⟨rfl,rfl,rfl,rfl,rfl,rfl,rfl,rfl⟩
 obtain rfl:t=64:=by omega
 refine gyd3 hl hwl Ae ?_;refine ⟨fun h=>absurd h (by omega),fun _=> ?_⟩;have e8:=list8 (q1t (b:=b) hh 64).1;refine q0k (ι:=Nat) (fun i=>[(186,rI i),(185,.dat (.arr 8 (.int .u32)) (rnds b h 64))]) (fun i=>[.row (.int .u32) (blkP b h i),.row (.int .u32) (wL b 64)]) (fun t=>8-t) (fun t=>t<=8) 0 (Al _) ?_ ?_ ?_
 . rw [q3E b hh.1]
 . with_reducible refine sxE ?_
   exact congrArg (SV.dat (.arr 8 (.int .u32))) e8
 intro i hi;have hwr:=wsx i (by omega);have hv:=q1t (b:=b) hh 64;have hl:=hv.1;have hbl:=q5b b h i;by_cases hlt:i<8
 . have hbg:=q4W b h hlt;refine gyd4 hl hbl Ae AD ?_;refine ⟨fun _=> ?_,fun h=>absurd hlt (by omega)⟩;repeat (with_reducible refine And.intro (by first|omega|exact ⟨by omega,by omega⟩) ?_)
   refine ⟨i+1,hlt,by dsimp only;omega,?_,?_⟩
   . rw [hbg,wrapU];show [_,_]= [SObj.row (.int .u32) (blkP b h (i+1)),_];rw [<-q5l b h hlt]
   with_reducible refine sx1 hwr ?_;trivial
 obtain rfl:i=8:=by omega
 refine gyd3 hl hbl Ae ?_;refine ⟨fun h=>absurd h (by omega),fun _=> ?_⟩;rw [q4J]
theorem j6u(b:List UInt8)(ks:List UInt8×List UInt8)(n:Int)(rd:Bool)(h:List Int)(hb:b.length=64)(hh:inWs h):PE Tryz.prog 292 [.rptr 0 MH 0 128,.csl 0 .u8 136 0 64] [.row MH [(ks,((h,(b,n)),rd))]] (.ret (.tup [])) [.row MH [(ks,(((blkS b h),(b,n)),rd))]]:=by
 refine q0b (Af _) ?_;refine rQ fi292 ?_;refine q0k (ι:=Nat) (fun t=>[(26,rI t)]) (fun t=>[.row MH [(ks,((h,(b,n)),rd))],.row (.int .u32) (wL b t)]) (fun t=>16-t) (fun t=>t<=16) 0 (Al _) (by rw [q7d];rfl) ?_ ?_
 . with_reducible refine sxE ?_;trivial
 intro t ht;have hwr:=wsx t (by omega);have hwl:=q4m b t;by_cases hlt:t<16
 . have w1:IntKind.i64.wrap (4* (t:Int))=((4*t:Nat):Int):=by rw [wrapi (by omega)];omega
   have w4:IntKind.i64.wrap (((4*t:Nat):Int)+4)=((4*t+4:Nat):Int):=by rw [wrapi (by omega)];omega
   refine gy4 w1 w4 hwl Ae ?_;have hdl:(List.drop (4*t) (List.take (4*t+4) b)).length=4:=by rw [Aj,Ak];omega
   refine ⟨fun _=> ?_,fun h=>absurd h (by omega)⟩;repeat (with_reducible refine And.intro (by first|omega|exact ⟨by omega,by omega,by omega,by omega⟩ |exact ⟨by omega,by omega⟩) ?_)
   refine ⟨t+1,by show t+1<=16;omega,by dsimp only;omega,?_,?_⟩
   . have hd:∀j,j<4->(List.drop (4*t) (List.take (4*t+4) b)).getD j Ty.u8.dflt=b.getD (4*t+j) 0:=fun j hj=>by rw [Aa,AA,A3 (by omega),<-Aa];rfl
     have ho:=or4 fun j=>b.getD (4*t+j) Ty.u8.dflt;rw [ho];have hw:((256* (256* (256* (b.getD (4*t+0) 0).toNat+ (b.getD (4*t+1) 0).toNat)+ (b.getD (4*t+2) 0).toNat)+ (b.getD (4*t+3) 0).toNat:Nat):Int)=wS b t:=by rw [z1L hlt];simp only [wdP,byI];omega
     show [SObj.row MH [(ks,((h,(b,n)),rd))],SObj.row (.int .u32) ((wL b t).set t ((256* (256* (256* (b.getD (4*t+0) 0).toNat+ (b.getD (4*t+1) 0).toNat)+ (b.getD (4*t+2) 0).toNat)+ (b.getD (4*t+3) 0).toNat:Nat):Int))]= [SObj.row MH [(ks,((h,(b,n)),rd))],SObj.row (.int .u32) (wL b (t+1))];rw [hw,q4n b (by omega)]
   with_reducible refine sx1 hwr ?_;trivial
 obtain rfl:t=16:=by omega
 refine gy2 hwl Ae ?_;refine ⟨fun h=>absurd h (by omega),fun _=> ?_⟩;refine q1Y (ι:=Nat) (fun t=>[(7,rI t)]) (fun t=>[.row MH [(ks,((h,(b,n)),rd))],.row (.int .u32) (wL b t)]) (fun t=>64-t) (fun t=>16<=t∧t<=64) 16 (by decide) 2 rfl (by decide) (fun _=>rfl) (fun _=>rfl) (fun _=>rfl) ?_ ?_
 . with_reducible refine sxE ?_
   rfl
 intro t ht;have hwl:=q4m b t;have hwr:=wsx t (by omega);by_cases hlt:t<64
 . have e15:IntKind.i64.wrap ((t:Int) -15)=((t-15:Nat):Int):=by rw [wrapi (by omega)];omega
   have e2:IntKind.i64.wrap ((t:Int) -2)=((t-2:Nat):Int):=by rw [wrapi (by omega)];omega
   have e7:IntKind.i64.wrap ((t:Int) -7)=((t-7:Nat):Int):=by rw [wrapi (by omega)];omega
   have e16:IntKind.i64.wrap ((t:Int) -16)=((t-16:Nat):Int):=by rw [wrapi (by omega)];omega
   have g15:=q1c b (t:=t) (j:=t-15) (by omega) (by omega);have g2:=q1c b (t:=t) (j:=t-2) (by omega) (by omega);have g7:=q1c b (t:=t) (j:=t-7) (by omega) (by omega);have g16:=q1c b (t:=t) (j:=t-16) (by omega) (by omega);have i15:=q2N b (t-15);have i2:=q2N b (t-2);have i7:=q2N b (t-7);have i16:=q2N b (t-16);refine gyd10 e15 e2 e7 e16 g15 g2 g7 g16 hwl Ae ?_;refine ⟨fun _=>⟨⟨by omega,by omega⟩,by omega,⟨by omega,by omega⟩,by omega,⟨by omega,by omega⟩,by omega,⟨by omega,by omega⟩,by omega,q0e (q0M (wS b (t-2)) [17,19] i2 (by decide) (by decide)) ?_⟩,fun h=>absurd hlt (by omega)⟩;refine gQ ?_;refine q0G 2 (by decide) ?_;with_reducible refine sxE ?_
   refine q0c (q0M (wS b (t-15)) [7,18] i15 (by decide) (by decide)) ?_;refine uQ 600 _ ?_;simp (maxSteps:=3000000) only [e15,e2,e7,e16,g15,g2,g7,g16,hwl,Ae,Ty.dflt,go_sem,↓zA,↓reduceIte,↓reduceDIte] <;>try simp only [zB]
   repeat (with_reducible refine And.intro (by first|omega|exact ⟨by omega,by omega⟩) ?_)
   refine ⟨t+1,⟨by omega,hlt⟩,by dsimp only;omega,⟨[.dead],?_⟩,?_⟩
   . rw [schU i15 i2,<-z1Z (by omega),q4n b hlt];rfl
   with_reducible refine sx1 hwr ?_;trivial
 obtain rfl:t=64:=by omega
 refine gQ ?_;have hl:=hh.1;refine ⟨fun h=>absurd h (by omega),fun _=> ?_⟩;repeat (with_reducible refine And.intro (by omega) ?_)
 refine q3z (t:=.arr 64 (.int .u32)) (x:=dat_sha_constants) (ag:=some 64) (s:=.dat (.arr 64 (.int .u32)) dat_sha_constants) (by unfold datList;repeat (first|exact .head _|apply List.Mem.tail)) rfl (.inr rfl) ?_;refine gQ ?_;refine q1Y (ι:=Nat) (fun t=>[(134,rI t),(12,.raw (.int .u32 ((rnds b h t).getD 0 0))),(13,.raw (.int .u32 ((rnds b h t).getD 1 0))),(14,.raw (.int .u32 ((rnds b h t).getD 2 0))),(15,.raw (.int .u32 ((rnds b h t).getD 3 0))),(16,.raw (.int .u32 ((rnds b h t).getD 4 0))),(17,.raw (.int .u32 ((rnds b h t).getD 5 0))),(18,.raw (.int .u32 ((rnds b h t).getD 6 0))),(19,.raw (.int .u32 ((rnds b h t).getD 7 0)))]) (fun t=>[.row MH [(ks,((h,(b,n)),rd))],.row (.int .u32) (wL b 64)]) (fun t=>64-t) (fun t=>t<=64) 0 (Al _) 2 rfl (by decide) (fun _=>rfl) (fun _=>rfl) (fun _=>rfl) ?_ ?_
 . with_reducible refine sxE ?_
   exact ⟨rfl,rfl,rfl,rfl,rfl,rfl,rfl,rfl⟩
 intro t ht;have hwr:=wsx t (by omega);by_cases hlt:t<64
 . have hv:=q1t (b:=b) hh t;generalize hvv:rnds b h t=v at*;have i0:=q0j hv 0 (by decide);have i1:=q0j hv 1 (by decide);have i2:=q0j hv 2 (by decide);have i3:=q0j hv 3 (by decide);have i4:=q0j hv 4 (by decide);have i5:=q0j hv 5 (by decide);have i6:=q0j hv 6 (by decide);have i7:=q0j hv 7 (by decide);refine gyd3 hl hwl Ae ?_;refine ⟨fun _=>⟨⟨by omega,by omega⟩,⟨by omega,by omega⟩,by omega,?_⟩,fun h=>absurd hlt (by omega)⟩;refine q0G 2 (by decide) ?_;with_reducible refine sxE ?_
   refine q0c (q0M _ [6,11,25] i4 (by decide) (by decide)) ?_;refine gyd3 hl hwl Ae ?_;refine q0c (q4M _ _ _ i4 i5 i6) ?_;refine gyd3 hl hwl Ae ?_;refine q0z 3 ?_;with_reducible refine sxE ?_
   refine cyd3 (q0M _ [2,13,22] i0 (by decide) (by decide)) hl hwl Ae ?_;refine cyd3 (q3e _ _ _ i0 i1 i2) hl hwl Ae ?_;have hr:rnds b h (t+1)=rnd (kS t) (wS b t) v:=by show rnd (kS t) (wS b t) (rnds b h t)=_;rw [hvv]
   have hT1:=t1U (k:=kS t) (w:=wS b t) hv;have hT2:=t2U hv;refine ⟨t+1,hlt,by dsimp only;omega,⟨[.dead,.dead],rfl⟩,?_⟩;rw [z0x,q1c b hlt hlt,hT1,hT2,aU,eU];with_reducible refine sy2 hwr hr ?_
   exact ⟨rfl,rfl,rfl,rfl,rfl,rfl,rfl,rfl⟩
 obtain rfl:t=64:=by omega
 refine gyd3 hl hwl Ae ?_;refine ⟨fun h=>absurd h (by omega),fun _=> ?_⟩;have e8:=list8 (q1t (b:=b) hh 64).1;refine q0k (ι:=Nat) (fun i=>[(186,rI i),(185,.dat (.arr 8 (.int .u32)) (rnds b h 64))]) (fun i=>[.row MH [(ks,(((blkP b h i),(b,n)),rd))],.row (.int .u32) (wL b 64)]) (fun t=>8-t) (fun t=>t<=8) 0 (Al _) ?_ ?_ ?_
 . rw [q3E b hh.1]
 . with_reducible refine sxE ?_
   exact congrArg (SV.dat (.arr 8 (.int .u32))) e8
 intro i hi;have hwr:=wsx i (by omega);have hv:=q1t (b:=b) hh 64;have hl:=hv.1;have hbl:=q5b b h i;by_cases hlt:i<8
 . have hbg:=q4W b h hlt;refine gyd4 hl hbl Ae AD ?_;refine ⟨fun _=> ?_,fun h=>absurd hlt (by omega)⟩;repeat (with_reducible refine And.intro (by first|omega|exact ⟨by omega,by omega⟩) ?_)
   refine ⟨i+1,hlt,by dsimp only;omega,?_,?_⟩
   . rw [hbg,wrapU];show [_,_]= [SObj.row MH [(ks,(((blkP b h (i+1)),(b,n)),rd))],_];rw [<-q5l b h hlt]
   with_reducible refine sx1 hwr ?_;trivial
 obtain rfl:i=8:=by omega
 refine gyd3 hl hbl Ae ?_;refine ⟨fun h=>absurd h (by omega),fun _=> ?_⟩;rw [q4J]
def padT(b:List UInt8)(total:Nat):List UInt8:=padZ b (padN b.length)++lnB8 (8*total) 8
def q9W(b:List UInt8)(total:Nat):(padT b total).length=64*blksN b:=by unfold padT blksN;rw [Ab,j0v,z9O];unfold padN;omega
def blkAt(p:List UInt8)(i:Nat):List UInt8:=(p.take (64*i+64)).drop (64*i)
variable {i:Nat}
def z0l{p:List UInt8}{N:Nat}(hp:p.length=64*N)(hi:i<N):(blkAt p i).length=64:=by unfold blkAt;rw [Aj,Ak];omega
def vwB(b:List UInt8)(total:Nat):Nat->Nat->List SV->List SObj->Prop:=fun i _ args' new=>args'= [.isl .u8 (blkAt (padT b total) i)]∧new= []
theorem j1E(b:List UInt8)(total:Nat)(hb:b.length<=70368744177664):PC Tryz.prog 291 [.isl .u8 b,rI total] (.fn 298 [] [.iptr (.slice .u8) b 0,.iptr (.int .i64) total 0]):=by
 refine q0q rfl rfl ?_;refine q1T fi291 ?_;refine uQ 4 _ ?_;with_reducible refine sxE ?_
 refine q1P 2 0 (ty:=.slice .u8) (x:=b) rfl ⟨by omega,fun _ _=>trivial⟩ rfl rfl ?_;refine q1P 3 1 (ty:=.int .i64) (x:=(total:Int)) rfl trivial rfl rfl ?_;refine gQ ?_;trivial
def endP(r:List UInt8)(total S i:Nat):List UInt8:=(List.range S).map fun j=>if j<r.length then r.getD j 0 else if j=r.length then 128 else if S-i<=j then UInt8.ofNat (8*total / 2^ (8* (S-1-j))%256) else 0
def q4Z(r:List UInt8)(total S i:Nat):(endP r total S i).length=S:=by simp [endP]
variable {S:Nat}
theorem z0Z(r:List UInt8)(total:Nat)(h:r.length<S):(splice (List.replicate S 0) 0 r).set r.length 128=endP r total S 0:=by
 apply Aw
 . simp [endP,splice];omega
 intro j h1 h2;rw [Bn];simp only [endP,AG,Ay];rw [q4Z] at h2;split
 . subst_vars;rw [if_neg (by omega),if_pos rfl]
 rename_i hne;simp only [splice,Cw,Ax,Ae];by_cases hj:j<r.length
 . rw [if_pos hj,AP hj,Aa,Ac hj];rfl
 rw [if_neg hj,if_neg (by omega),if_neg (by omega),A6 (by omega)];simp
theorem z3A(r:List UInt8)(total:Nat)(h:r.length+9<=S)(hi:i<8):(endP r total S i).set (S-1-i) (UInt8.ofNat (8*total / 2^ (8*i)%256))=endP r total S (i+1):=by
 apply Aw
 . simp [endP]
 intro j h1 h2;rw [q4Z] at h2;rw [Bn];simp only [endP,AG,Ay];split
 . subst_vars;rw [if_neg (by omega),if_neg (by omega),if_pos (by omega)];rw [show S-1- (S-1-i)=i by omega]
 rename_i hne;by_cases h1:j<r.length
 . rw [if_pos h1,if_pos h1]
 rw [if_neg h1,if_neg h1];by_cases h2:j=r.length
 . rw [if_pos h2,if_pos h2]
 rw [if_neg h2,if_neg h2];by_cases h3:S-i<=j
 . rw [if_pos h3,if_pos (by omega)]
 rw [if_neg h3,if_neg (by omega)]
def z9j(b:List UInt8)(total:Nat)(hS:S=64* (blksN b-b.length / 64)):(padT b total).drop (64* (b.length / 64))=endP (b.drop (64* (b.length / 64))) total S 8:=by
 have hl:=q9W b total;have hb:blksN b=(b.length+72) / 64:=rfl;apply Aw
 . rw [Aj,hl,q4Z];omega
 intro j h1 h2;rw [Aj,hl] at h1;have hd:(b.drop (64* (b.length / 64))).length=b.length%64:=by rw [Aj];omega
 have hn:padN b.length=(119-b.length%64)%64:=rfl;rw [Ca];simp only [endP,AG,Ay,hd];unfold padT padZ;by_cases c1:j<b.length%64
 . rw [if_pos c1,AP (by simp;omega),AP (by simp;omega),AP (by omega),Aa,AA,Ac (by omega)];rfl
 rw [if_neg c1];by_cases c2:j=b.length%64
 . rw [if_pos c2,AP (by simp;omega),AP (by simp;omega),A6 (by omega)];have:64* (b.length / 64)+j-b.length=0:=by omega
   simp [this]
 rw [if_neg c2];by_cases c3:S-8<=j
 . have hpl:(b++ [128]++List.replicate (padN b.length) (0:UInt8)).length=b.length+1+padN b.length:=by simp;omega
   rw [if_pos c3,A6 (by rw [hpl];omega)];simp only [lnB8,AG,Ay,hpl];refine congrArg (fun k=>UInt8.ofNat (8*total / 2^ (8*k)%256)) ?_;omega
 rw [if_neg c3,AP (by simp;omega),A6 (by simp;omega)];simp
theorem u64i(h:0<=x∧x<18446744073709551616):IntKind.u64.wrap x=x:=by have e:IntKind.u64.wrap x=x%18446744073709551616:=rfl;rw [e];omega
def byteQ(n i:Nat)(hi:i<=7):UInt8.ofNat (IntKind.u8.wrap ((n:Int).fdiv (2^ min (8*i) 64))).toNat=UInt8.ofNat (n / 2^ (8*i)%256):=by
 have e:((n:Int).fdiv (2^ (8*i)))=((n / 2^ (8*i):Nat):Int):=by rw [Be _ (by exact_mod_cast Al (2^ (8*i)))];simp
 rw [Bj (by omega),e];generalize n / 2^ (8*i)=m;rw [u8wrapR];congr 1
def q6O(p:List UInt8)(f k:Nat):blkAt p (f+k)=((p.drop (64*f)).drop (64*k)).take 64:=by unfold blkAt;rw [Bd,BH,Di];congr 1;omega
def z8I(b:List UInt8)(total:Nat)(hi:i<b.length / 64):List.take 64 (b.drop (64*i))=blkAt (padT b total) i:=by unfold blkAt padT padZ;rw [AS (by simp;omega),AS (by simp;omega),AS (by omega),BH];congr 1;omega
theorem z0I(b:List UInt8)(total:Nat)(hb:b.length<=70368744177664)(ht:total<=70368744177664):Iter Tryz.prog 298 [] [.iptr (.slice .u8) b 0,.iptr (.int .i64) (total:Int) 0] (blksN b) (vwB b total):=by
 refine ⟨by kernel_rfl,fun l B J hJ yg=> ?_⟩;refine (q1C (yFG hJ) fi298 ?_).2;letI:Ghost:=topG (yFG hJ) [];refine gQ ?_;refine q9D [] (fun i=>i) (fun i=>[(4,.isl .u8 (b.drop (64*i)))]) (b.length / 64) (fun _=>True) trivial rfl (by simp) (by simp [SV.bel]) ?_ fun i hi _=> ?_
 . with_reducible refine sxE ?_;trivial
 have hN:blksN b=(b.length+72) / 64:=rfl;by_cases hlt:i<b.length / 64
 . refine uQ 600 _ ?_;simp (maxSteps:=3000000) only [Aj,go_sem,↓zA,↓reduceIte,↓reduceDIte] <;>try simp only [zB]
   refine ⟨fun _=>⟨by omega,?_⟩,fun h=>absurd h (by omega)⟩;refine q1K [] hJ yg (by omega) (fun n=>⟨_,_,⟨by rw [z8I b total hlt],rfl⟩,q0P rfl⟩) fun c=> ?_;cases c
   . refine gQ ?_;exact ⟨_,_,rfl,rfl,by omega⟩
   refine uQ 600 _ ?_;simp (maxSteps:=3000000) only [Aj,go_sem,↓zA,↓reduceIte,↓reduceDIte] <;>try simp only [zB]
   have he:List.drop 64 (List.take (b.length-64*i) (List.drop (64*i) b))=List.drop (64* (i+1)) b:=by rw [Ad (by rw [Aj];omega),Bd];congr 1
   refine ⟨⟨by omega,by omega⟩,hlt,trivial,⟨[],rfl⟩,?_⟩;rw [he];with_reducible refine sxE ?_;trivial
 obtain rfl:i=b.length / 64:=by omega
 refine uQ 600 _ ?_;simp (maxSteps:=3000000) only [Aj,go_sem,↓zA,↓reduceIte,↓reduceDIte] <;>try simp only [zB]
 have hrl:(b.drop (64* (b.length / 64))).length=b.length%64:=by rw [Aj];omega
 have hea:=z9j b total (S:=64* (blksN b-b.length / 64)) rfl;generalize hr:b.drop (64* (b.length / 64))=r at*;have hl2:b.length-64* (b.length / 64)=b.length%64:=by omega
 rw [hl2];refine ⟨fun h=>absurd h (by omega),fun _=>⟨fun hg=> ?_,fun hg=> ?_⟩⟩
 . have hw9:IntKind.i64.wrap (((b.length%64:Nat):Int)+9)=((b.length%64:Nat):Int)+9:=by rw [wrapi (by omega)]
   have hS:64* (blksN b-b.length / 64)=128:=by omega
   rw [hS] at hea;have htk:List.take (min (b.length%64) 128) r=r:=Ad (by omega);have hz:=z0Z r total (S:=128) (by omega);rw [htk];repeat (with_reducible refine And.intro (by first|omega|exact ⟨by omega,by omega⟩ |exact ⟨by simp;omega,by decide⟩) ?_)
   refine q0k (ι:=Nat) (fun i=>[(32,rI i)]) (fun i=>[.mark (b.length / 64),.row .u8 (endP r total 128 i)]) (fun i=>8-i) (fun i=>i<=8) 0 (Al _) ?_ ?_ ?_
   . rw [<-hz];simp only [splice,Cw,Ax,hrl,Ae];rfl
   . with_reducible refine sxE ?_;trivial
   intro i hi;have hel:=q4Z r total 128 i;have hwr:=wsx i (by omega);by_cases h8:i<8
   . have w0:IntKind.i64.wrap (128-1)=127:=by rw [wrapi (by omega)];rfl
     have w1:IntKind.i64.wrap (127- (i:Int))=((127-i:Nat):Int):=by rw [wrapi (by omega)];omega
     have w2:IntKind.u64.wrap (total:Int)=total:=u64i (by omega);have w3:IntKind.u64.wrap ((total:Int)*8)=((8*total:Nat):Int):=by rw [u64i (by omega)];omega
     have w4:IntKind.i64.wrap (8* (i:Int))=((8*i:Nat):Int):=by rw [wrapi (by omega)];omega
     refine gy8 w0 w1 w2 w3 w4 hel Ae Ae ?_;refine ⟨fun _=> ?_,fun h=>absurd h (by omega)⟩;repeat (with_reducible refine And.intro (by first|omega|exact ⟨by omega,by omega⟩ |exact ⟨by omega,q2K _⟩) ?_)
     refine ⟨i+1,h8,by dsimp only;omega,?_,?_⟩
     . dsimp only;rw [byteQ _ _ (by omega),<-z3A r total (by omega) h8]
     with_reducible refine sx1 hwr ?_;trivial
   obtain rfl:i=8:=by omega
   refine uQ 6 _ ?_;with_reducible refine sy2 hel Ae ?_
   refine ⟨fun h=>absurd h (by omega),fun _=> ?_⟩;refine uQ 1 _ ?_;with_reducible refine sxE ?_
   refine q1j 1 rfl rfl (by rw [hel];decide) ?_ ?_ ?_
   . with_reducible refine sxE ?_;trivial
   . with_reducible refine sxE ?_
     omega
   with_reducible refine sxE ?_
   have hck:List.take 128 (endP r total 128 8)=endP r total 128 8:=Ad (by omega);rw [hck];refine gy2 hel Ae ?_;refine ⟨by omega,?_⟩;refine q1K [.dead] hJ yg (i:=b.length / 64) (by omega) (fun n=>⟨_,_,⟨by rw [show blkAt (padT b total) (b.length / 64)=_ from q6O (padT b total) (b.length / 64) 0,hea,Av],rfl⟩,q0P rfl⟩) fun c=> ?_;cases c
   . refine gQ ?_;exact ⟨_,_,rfl,rfl,by omega⟩
   refine uQ 600 _ ?_;simp (maxSteps:=3000000) only [hel,Ae,go_sem,↓zA,↓reduceIte,↓reduceDIte] <;>try simp only [zB]
   repeat (with_reducible refine And.intro (by first|omega|exact ⟨by omega,by omega⟩) ?_)
   refine q1K [.dead] hJ yg (i:=b.length / 64+1) (by omega) (fun n=>⟨_,_,⟨by rw [q6O _ _ 1,hea,hck,Ad (by rw [Aj];omega)],rfl⟩,q0P rfl⟩) fun c=> ?_;cases c
   . refine gQ ?_;exact ⟨_,_,rfl,rfl,by omega⟩
   refine gQ ?_;exact ⟨_,_,rfl,rfl,by omega⟩
 have hw9:IntKind.i64.wrap (((b.length%64:Nat):Int)+9)=((b.length%64:Nat):Int)+9:=by rw [wrapi (by omega)]
 have hS:64* (blksN b-b.length / 64)=64:=by omega
 rw [hS] at hea;have htk:List.take (min (b.length%64) 64) r=r:=Ad (by omega);have hz:=z0Z r total (S:=64) (by omega);rw [htk];repeat (with_reducible refine And.intro (by first|omega|exact ⟨by omega,by omega⟩ |exact ⟨by simp;omega,by decide⟩) ?_)
 refine q0k (ι:=Nat) (fun i=>[(32,rI i)]) (fun i=>[.mark (b.length / 64),.row .u8 (endP r total 64 i)]) (fun i=>8-i) (fun i=>i<=8) 0 (Al _) ?_ ?_ ?_
 . rw [<-hz];simp only [splice,Cw,Ax,hrl,Ae];rfl
 . with_reducible refine sxE ?_;trivial
 intro i hi;have hel:=q4Z r total 64 i;have hwr:=wsx i (by omega);by_cases h8:i<8
 . have w0:IntKind.i64.wrap (64-1)=63:=by rw [wrapi (by omega)];rfl
   have w1:IntKind.i64.wrap (63- (i:Int))=((63-i:Nat):Int):=by rw [wrapi (by omega)];omega
   have w2:IntKind.u64.wrap (total:Int)=total:=u64i (by omega);have w3:IntKind.u64.wrap ((total:Int)*8)=((8*total:Nat):Int):=by rw [u64i (by omega)];omega
   have w4:IntKind.i64.wrap (8* (i:Int))=((8*i:Nat):Int):=by rw [wrapi (by omega)];omega
   refine gy8 w0 w1 w2 w3 w4 hel Ae Ae ?_;refine ⟨fun _=> ?_,fun h=>absurd h (by omega)⟩;repeat (with_reducible refine And.intro (by first|omega|exact ⟨by omega,by omega⟩ |exact ⟨by omega,q2K _⟩) ?_)
   refine ⟨i+1,h8,by dsimp only;omega,?_,?_⟩
   . dsimp only;rw [byteQ _ _ (by omega),<-z3A r total (by omega) h8]
   with_reducible refine sx1 hwr ?_;trivial
 obtain rfl:i=8:=by omega
 refine uQ 6 _ ?_;with_reducible refine sy2 hel Ae ?_
 refine ⟨fun h=>absurd h (by omega),fun _=> ?_⟩;refine uQ 1 _ ?_;with_reducible refine sxE ?_
 refine q1j 1 rfl rfl (by rw [hel];decide) ?_ ?_ ?_
 . with_reducible refine sxE ?_;trivial
 . with_reducible refine sxE ?_
   omega
 with_reducible refine sxE ?_
 have hck:List.take 64 (endP r total 64 8)=endP r total 64 8:=Ad (by omega);rw [hck];refine gy2 hel Ae ?_;refine ⟨by omega,?_⟩;refine q1K [.dead] hJ yg (i:=b.length / 64) (by omega) (fun n=>⟨_,_,⟨by rw [show blkAt (padT b total) (b.length / 64)=_ from q6O (padT b total) (b.length / 64) 0,hea,Av],rfl⟩,q0P rfl⟩) fun c=> ?_;cases c
 . refine gQ ?_;exact ⟨_,_,rfl,rfl,by omega⟩
 refine gQ ?_;exact ⟨_,_,rfl,rfl,by omega⟩
def foldB(h:List Int)(p:List UInt8):Nat->List Int
 |0=>h
 |k+1=>blkS (blkAt p k) (foldB h p k)
theorem q5K(p:List UInt8):∀k,foldB hS0 p k=hashS p k
 |0=>rfl
 |k+1=>by rw [foldB,q5K p k];rfl
def q1h{h:List Int}(hh:inWs h)(p:List UInt8):∀k,inWs (foldB h p k)
 |0=>hh
 |_+1=>z1O
def smH(h:List Int)(p:List UInt8)(i:Nat)(H':List SObj):Prop:=∃G,H'= .row .u8 (List.replicate 32 0) :: .row (.int .u32) (foldB h p i) :: G
theorem j5o(b:List UInt8)(hb:b.length<=70368744177664):PC Tryz.prog 274 [.isl .u8 b] (.dat (.arr 32 .u8) (shaS b)):=by
 refine q0q rfl rfl (q3O (q1C noFG fi274 ?_));letI:Ghost:=topG noFG [];refine gQ ?_;refine q3z (t:=.arr 8 (.int .u32)) (x:=dat_sha_start) (ag:=some 8) (s:=.dat (.arr 8 (.int .u32)) dat_sha_start) (by unfold datList;repeat (first|exact .head _|apply List.Mem.tail)) rfl (.inr rfl) ?_;refine gQ ?_;refine cQ (j1E b b.length hb) ?_;refine z5z (smH hS0 (padS b)) (fun _ _ _=>False) rfl rfl rfl (z0I b b.length hb hb) (fun i n args' new h=>by rw [h.1];rfl) ⟨[],rfl⟩ rfl ?_ ?_ ?_
 . rintro i _ args' new hi ⟨G,rfl⟩ ⟨rfl,rfl⟩ L1 L2;letI:Ghost:=pinG noFG L1;rw [Ah];refine uQ 600 _ ?_;simp only [putL,Bv];with_reducible refine sxaE ?_
   letI:Ghost:=pinG noFG L2;refine aQ ?_;have hbl:(blkAt (padT b b.length) i).length=64:=z0l (q9W b b.length) hi;refine eQ [1] (j6g (blkAt (padT b b.length) i) _ hbl (q1h q6p _ i)) ?_;exact ⟨G,rfl⟩
 . rintro D _ ⟨G,rfl⟩;letI:Ghost:=topG noFG [D];have hv:=q1h q6p (padS b) (blksN b);have hfl:=hv.1;have hfe:bytesS (foldB hS0 (padS b) (blksN b))=shaS b:=by rw [q5K];rfl
   generalize foldB hS0 (padS b) (blksN b)=h at*;refine gQ ?_;have htk:List.take 8 h=h:=Ad (by omega);rw [htk];refine ⟨by omega,q0a (z7p h hv) ?_⟩;have hbl:=q1f h;refine gy1 hbl ?_;rw [hfe]
 rintro D i ex _ hi h;exact h.elim
def z7X{p q:List UInt8}(h:64*i+64<=p.length):blkAt (p++q) i=blkAt p i:=by unfold blkAt;rw [AS h]
def z2G{p q:List UInt8}{c:Nat}(h:p.length=64*c):blkAt (p++q) (c+i)=blkAt q i:=by
 unfold blkAt;rw [Ch,BZ,A2 (by rw [Ak];omega),Ax,Ak,h];congr 1
 . omega
 congr 1;omega
def q2Y(h:List Int){p q:List UInt8}:∀ {k:Nat},64*k<=p.length->foldB h (p++q) k=foldB h p k
 |0,_=>rfl
 |k+1,hk=>by rw [foldB,foldB,q2Y h (by omega),z7X (by omega)]
def q7R(h:List Int){p q:List UInt8}{c:Nat}(hp:p.length=64*c):∀k,foldB h (p++q) (c+k)=foldB (foldB h p c) q k
 |0=>by rw [AB,q2Y h (by omega)];rfl
 |k+1=>by rw [<-Nat.add_assoc,foldB,foldB,q7R h hp k,z2G hp]
abbrev HaD:Type:=List Int×List UInt8×Int
structure HRep (m:List UInt8) (x:HaD):Prop where
 n:x.2.2=(m.length:Int)
 rest:x.2.1.length=64
 len:x.1.length=8
 st:m.length≠0->x.1=foldB hS0 m (m.length / 64)
 tail:x.2.1.take (m.length%64)=m.drop (64* (m.length / 64))
theorem z9B:HRep [] (List.replicate 8 0,List.replicate 64 0,0):=⟨rfl,by simp,by simp,fun h=>absurd rfl h,by simp⟩
def wrR(m rest b:List UInt8):List UInt8:=
 if m.length%64+b.length<64 then splice rest (m.length%64) b
 else splice (if 0<m.length%64 then splice rest (m.length%64) (b.take (64-m.length%64)) else rest) 0 ((m++b).drop (64* ((m++b).length / 64)))
def wrS(m:List UInt8)(x:HaD)(b:List UInt8):HaD:=(foldB hS0 (m++b) ((m++b).length / 64),wrR m x.2.1 b,((m++b).length:Int))
variable {α:Type}
def q2q{xs ys:List α}(h:i+ys.length<=xs.length):(splice xs i ys).length=xs.length:=by simp [splice];omega
def q7G{xs ys:List α}(h:i+ys.length<=xs.length):(splice xs i ys).take (i+ys.length)=xs.take i++ys:=by unfold splice;rw [AS (by rw [Ab,Ak];omega),Ad (by rw [Ab,Ak];omega)]
variable {m:List UInt8}{x:HaD}
theorem q9V{b:List UInt8}(h:HRep m x):HRep (m++b) (wrS m x b):=by
 obtain ⟨h1,h2,h3,h4,h5⟩:=h;have hlen:(m++b).length=m.length+b.length:=Ab;have hl:(wrR m x.2.1 b).length=64:=by
  unfold wrR;split
  . rw [q2q (by omega)];exact h2
  have h6:((m++b).drop (64* ((m++b).length / 64))).length<=64:=by rw [Aj];omega
  split
  . rw [q2q,q2q] <;> (try rw [q2q]) <;> (try rw [Ak]) <;>omega
  rw [q2q] <;>omega
 refine ⟨rfl,hl,(q1h q6p _ _).1,fun _=>rfl,?_⟩;show (wrR m x.2.1 b).take _=_;unfold wrR at hl⊢;split
 . rename_i hlt;have e:(m++b).length%64=m.length%64+b.length:=by omega
   rw [e,q7G (by omega),h5,Bg (by omega)];congr 2;omega
 rename_i hge;rw [if_neg hge] at hl;have h6:((m++b).drop (64* ((m++b).length / 64))).length=(m++b).length%64:=by rw [Aj];omega
 generalize hr:(if 0<m.length%64 then splice x.2.1 (m.length%64) (b.take (64-m.length%64)) else x.2.1)=r at*;generalize ht:(m++b).drop (64* ((m++b).length / 64))=t at*;have hrl:r.length=64:=by
  rw [<-hr];split
  . rw [q2q] <;> (try rw [Ak]) <;>omega
  exact h2
 have:=q7G (xs:=r) (ys:=t) (i:=0) (by omega);rw [Ae,Cw,Ax] at this;rw [<-h6];exact this
def j1C(h:HRep m x)(hm:m.length≠0):bytesS (foldB x.1 (padT (x.2.1.take (m.length%64)) m.length) (blksN (x.2.1.take (m.length%64))))=shaS m:=by
 obtain ⟨h1,h2,h3,h4,h5⟩:=h;rw [h4 hm,h5];have hp:padS m=m.take (64* (m.length / 64))++padT (m.drop (64* (m.length / 64))) m.length:=by
  unfold padS padT padZ;have e:padN (m.drop (64* (m.length / 64))).length=padN m.length:=by rw [Aj];unfold padN;congr 2;omega
  rw [e];simp only [<-List.append_assoc,AJ]
 have hb:blksN m=m.length / 64+blksN (m.drop (64* (m.length / 64))):=by unfold blksN;rw [Aj];omega
 unfold shaS;rw [<-q5K,hp,hb,q7R hS0 (by rw [Ak];omega)];congr 2;have:=q2Y hS0 (p:=m.take (64* (m.length / 64))) (q:=m.drop (64* (m.length / 64))) (k:=m.length / 64) (by rw [Ak];omega);rw [AJ] at this;exact this
theorem z6e(b:List UInt8)(r:List UInt8×Int)(h:List Int)(hb:b.length=64)(hh:inWs h):PE Tryz.prog 292 [.rptr 0 HH 0 0,.isl .u8 b] [.row HH [(h,r)]] (.ret (.tup [])) [.row HH [((blkS b h),r)]]:=by
 refine q0b (Af _) ?_;refine rQ fi292 ?_;refine q0k (ι:=Nat) (fun t=>[(26,rI t)]) (fun t=>[.row HH [(h,r)],.row (.int .u32) (wL b t)]) (fun t=>16-t) (fun t=>t<=16) 0 (Al _) (by rw [q7d];rfl) ?_ ?_
 . with_reducible refine sxE ?_;trivial
 intro t ht;have hwr:=wsx t (by omega);have hwl:=q4m b t;by_cases hlt:t<16
 . have w1:IntKind.i64.wrap (4* (t:Int))=((4*t:Nat):Int):=by rw [wrapi (by omega)];omega
   have w4:IntKind.i64.wrap (((4*t:Nat):Int)+4)=((4*t+4:Nat):Int):=by rw [wrapi (by omega)];omega
   refine gy4 w1 w4 hwl Ae ?_;have hdl:(List.drop (4*t) (List.take (4*t+4) b)).length=4:=by rw [Aj,Ak];omega
   refine ⟨fun _=> ?_,fun h=>absurd h (by omega)⟩;repeat (with_reducible refine And.intro (by first|omega|exact ⟨by omega,by omega,by omega,by omega⟩ |exact ⟨by omega,by omega⟩) ?_)
   refine ⟨t+1,by show t+1<=16;omega,by dsimp only;omega,?_,?_⟩
   . have hd:∀j,j<4->(List.drop (4*t) (List.take (4*t+4) b)).getD j Ty.u8.dflt=b.getD (4*t+j) 0:=fun j hj=>by rw [Aa,AA,A3 (by omega),<-Aa];rfl
     have ho:=or4 fun j=>(List.drop (4*t) (List.take (4*t+4) b)).getD j Ty.u8.dflt;rw [ho,hd 0 (by omega),hd 1 (by omega),hd 2 (by omega),hd 3 (by omega)];have hw:((256* (256* (256* (b.getD (4*t+0) 0).toNat+ (b.getD (4*t+1) 0).toNat)+ (b.getD (4*t+2) 0).toNat)+ (b.getD (4*t+3) 0).toNat:Nat):Int)=wS b t:=by rw [z1L hlt];simp only [wdP,byI];omega
     show [SObj.row HH [(h,r)],SObj.row (.int .u32) ((wL b t).set t ((256* (256* (256* (b.getD (4*t+0) 0).toNat+ (b.getD (4*t+1) 0).toNat)+ (b.getD (4*t+2) 0).toNat)+ (b.getD (4*t+3) 0).toNat:Nat):Int))]= [SObj.row HH [(h,r)],SObj.row (.int .u32) (wL b (t+1))];rw [hw,q4n b (by omega)]
   with_reducible refine sx1 hwr ?_;trivial
 obtain rfl:t=16:=by omega
 refine gy2 hwl Ae ?_;refine ⟨fun h=>absurd h (by omega),fun _=> ?_⟩;refine q1Y (ι:=Nat) (fun t=>[(7,rI t)]) (fun t=>[.row HH [(h,r)],.row (.int .u32) (wL b t)]) (fun t=>64-t) (fun t=>16<=t∧t<=64) 16 (by decide) 2 rfl (by decide) (fun _=>rfl) (fun _=>rfl) (fun _=>rfl) ?_ ?_
 . with_reducible refine sxE ?_
   rfl
 intro t ht;have hwl:=q4m b t;have hwr:=wsx t (by omega);by_cases hlt:t<64
 . have e15:IntKind.i64.wrap ((t:Int) -15)=((t-15:Nat):Int):=by rw [wrapi (by omega)];omega
   have e2:IntKind.i64.wrap ((t:Int) -2)=((t-2:Nat):Int):=by rw [wrapi (by omega)];omega
   have e7:IntKind.i64.wrap ((t:Int) -7)=((t-7:Nat):Int):=by rw [wrapi (by omega)];omega
   have e16:IntKind.i64.wrap ((t:Int) -16)=((t-16:Nat):Int):=by rw [wrapi (by omega)];omega
   have g15:=q1c b (t:=t) (j:=t-15) (by omega) (by omega);have g2:=q1c b (t:=t) (j:=t-2) (by omega) (by omega);have g7:=q1c b (t:=t) (j:=t-7) (by omega) (by omega);have g16:=q1c b (t:=t) (j:=t-16) (by omega) (by omega);have i15:=q2N b (t-15);have i2:=q2N b (t-2);have i7:=q2N b (t-7);have i16:=q2N b (t-16);refine gyd10 e15 e2 e7 e16 g15 g2 g7 g16 hwl Ae ?_;refine ⟨fun _=>⟨⟨by omega,by omega⟩,by omega,⟨by omega,by omega⟩,by omega,⟨by omega,by omega⟩,by omega,⟨by omega,by omega⟩,by omega,q0e (q0M (wS b (t-2)) [17,19] i2 (by decide) (by decide)) ?_⟩,fun h=>absurd hlt (by omega)⟩;refine gQ ?_;refine q0G 2 (by decide) ?_;with_reducible refine sxE ?_
   refine q0c (q0M (wS b (t-15)) [7,18] i15 (by decide) (by decide)) ?_;refine uQ 600 _ ?_;simp (maxSteps:=3000000) only [e15,e2,e7,e16,g15,g2,g7,g16,hwl,Ae,Ty.dflt,go_sem,↓zA,↓reduceIte,↓reduceDIte] <;>try simp only [zB]
   repeat (with_reducible refine And.intro (by first|omega|exact ⟨by omega,by omega⟩) ?_)
   refine ⟨t+1,⟨by omega,hlt⟩,by dsimp only;omega,⟨[.dead],?_⟩,?_⟩
   . rw [schU i15 i2,<-z1Z (by omega),q4n b hlt];rfl
   with_reducible refine sx1 hwr ?_;trivial
 obtain rfl:t=64:=by omega
 refine gQ ?_;have hl:=hh.1;refine ⟨fun h=>absurd h (by omega),fun _=> ?_⟩;repeat (with_reducible refine And.intro (by omega) ?_)
 refine q3z (t:=.arr 64 (.int .u32)) (x:=dat_sha_constants) (ag:=some 64) (s:=.dat (.arr 64 (.int .u32)) dat_sha_constants) (by unfold datList;repeat (first|exact .head _|apply List.Mem.tail)) rfl (.inr rfl) ?_;refine gQ ?_;refine q1Y (ι:=Nat) (fun t=>[(134,rI t),(12,.raw (.int .u32 ((rnds b h t).getD 0 0))),(13,.raw (.int .u32 ((rnds b h t).getD 1 0))),(14,.raw (.int .u32 ((rnds b h t).getD 2 0))),(15,.raw (.int .u32 ((rnds b h t).getD 3 0))),(16,.raw (.int .u32 ((rnds b h t).getD 4 0))),(17,.raw (.int .u32 ((rnds b h t).getD 5 0))),(18,.raw (.int .u32 ((rnds b h t).getD 6 0))),(19,.raw (.int .u32 ((rnds b h t).getD 7 0)))]) (fun t=>[.row HH [(h,r)],.row (.int .u32) (wL b 64)]) (fun t=>64-t) (fun t=>t<=64) 0 (Al _) 2 rfl (by decide) (fun _=>rfl) (fun _=>rfl) (fun _=>rfl) ?_ ?_
 . with_reducible refine sxE ?_
   exact ⟨rfl,rfl,rfl,rfl,rfl,rfl,rfl,rfl⟩
 intro t ht;have hwr:=wsx t (by omega);by_cases hlt:t<64
 . have hv:=q1t (b:=b) hh t;generalize hvv:rnds b h t=v at*;have i0:=q0j hv 0 (by decide);have i1:=q0j hv 1 (by decide);have i2:=q0j hv 2 (by decide);have i3:=q0j hv 3 (by decide);have i4:=q0j hv 4 (by decide);have i5:=q0j hv 5 (by decide);have i6:=q0j hv 6 (by decide);have i7:=q0j hv 7 (by decide);refine gyd3 hl hwl Ae ?_;refine ⟨fun _=>⟨⟨by omega,by omega⟩,⟨by omega,by omega⟩,by omega,?_⟩,fun h=>absurd hlt (by omega)⟩;refine q0G 2 (by decide) ?_;with_reducible refine sxE ?_
   refine q0c (q0M _ [6,11,25] i4 (by decide) (by decide)) ?_;refine gyd3 hl hwl Ae ?_;refine q0c (q4M _ _ _ i4 i5 i6) ?_;refine gyd3 hl hwl Ae ?_;refine q0z 3 ?_;with_reducible refine sxE ?_
   refine cyd3 (q0M _ [2,13,22] i0 (by decide) (by decide)) hl hwl Ae ?_;refine cyd3 (q3e _ _ _ i0 i1 i2) hl hwl Ae ?_;have hr:rnds b h (t+1)=rnd (kS t) (wS b t) v:=by show rnd (kS t) (wS b t) (rnds b h t)=_;rw [hvv]
   have hT1:=t1U (k:=kS t) (w:=wS b t) hv;have hT2:=t2U hv;refine ⟨t+1,hlt,by dsimp only;omega,⟨[.dead,.dead],rfl⟩,?_⟩;rw [z0x,q1c b hlt hlt,hT1,hT2,aU,eU];with_reducible refine sy2 hwr hr ?_
   exact ⟨rfl,rfl,rfl,rfl,rfl,rfl,rfl,rfl⟩
 obtain rfl:t=64:=by omega
 refine gyd3 hl hwl Ae ?_;refine ⟨fun h=>absurd h (by omega),fun _=> ?_⟩;have e8:=list8 (q1t (b:=b) hh 64).1;refine q0k (ι:=Nat) (fun i=>[(186,rI i),(185,.dat (.arr 8 (.int .u32)) (rnds b h 64))]) (fun i=>[.row HH [((blkP b h i),r)],.row (.int .u32) (wL b 64)]) (fun t=>8-t) (fun t=>t<=8) 0 (Al _) ?_ ?_ ?_
 . rw [q3E b hh.1]
 . with_reducible refine sxE ?_
   exact congrArg (SV.dat (.arr 8 (.int .u32))) e8
 intro i hi;have hwr:=wsx i (by omega);have hv:=q1t (b:=b) hh 64;have hl:=hv.1;have hbl:=q5b b h i;by_cases hlt:i<8
 . have hbg:=q4W b h hlt;refine gyd4 hl hbl Ae AD ?_;refine ⟨fun _=> ?_,fun h=>absurd hlt (by omega)⟩;repeat (with_reducible refine And.intro (by first|omega|exact ⟨by omega,by omega⟩) ?_)
   refine ⟨i+1,hlt,by dsimp only;omega,?_,?_⟩
   . rw [hbg,wrapU];show [_,_]= [SObj.row HH [((blkP b h (i+1)),r)],_];rw [<-q5l b h hlt]
   with_reducible refine sx1 hwr ?_;trivial
 obtain rfl:i=8:=by omega
 refine gyd3 hl hbl Ae ?_;refine ⟨fun h=>absurd h (by omega),fun _=> ?_⟩;rw [q4J]
theorem j6D(b:List UInt8)(n:Int)(h:List Int)(hb:b.length=64)(hh:inWs h):PE Tryz.prog 292 [.rptr 0 HH 0 0,.csl 0 .u8 8 0 64] [.row HH [(h,(b,n))]] (.ret (.tup [])) [.row HH [((blkS b h),(b,n))]]:=by
 refine q0b (Af _) ?_;refine rQ fi292 ?_;refine q0k (ι:=Nat) (fun t=>[(26,rI t)]) (fun t=>[.row HH [(h,(b,n))],.row (.int .u32) (wL b t)]) (fun t=>16-t) (fun t=>t<=16) 0 (Al _) (by rw [q7d];rfl) ?_ ?_
 . with_reducible refine sxE ?_;trivial
 intro t ht;have hwr:=wsx t (by omega);have hwl:=q4m b t;by_cases hlt:t<16
 . have w1:IntKind.i64.wrap (4* (t:Int))=((4*t:Nat):Int):=by rw [wrapi (by omega)];omega
   have w4:IntKind.i64.wrap (((4*t:Nat):Int)+4)=((4*t+4:Nat):Int):=by rw [wrapi (by omega)];omega
   refine gy4 w1 w4 hwl Ae ?_;have hdl:(List.drop (4*t) (List.take (4*t+4) b)).length=4:=by rw [Aj,Ak];omega
   refine ⟨fun _=> ?_,fun h=>absurd h (by omega)⟩;repeat (with_reducible refine And.intro (by first|omega|exact ⟨by omega,by omega,by omega,by omega⟩ |exact ⟨by omega,by omega⟩) ?_)
   refine ⟨t+1,by show t+1<=16;omega,by dsimp only;omega,?_,?_⟩
   . have hd:∀j,j<4->(List.drop (4*t) (List.take (4*t+4) b)).getD j Ty.u8.dflt=b.getD (4*t+j) 0:=fun j hj=>by rw [Aa,AA,A3 (by omega),<-Aa];rfl
     have ho:=or4 fun j=>b.getD (4*t+j) Ty.u8.dflt;rw [ho];have hw:((256* (256* (256* (b.getD (4*t+0) 0).toNat+ (b.getD (4*t+1) 0).toNat)+ (b.getD (4*t+2) 0).toNat)+ (b.getD (4*t+3) 0).toNat:Nat):Int)=wS b t:=by rw [z1L hlt];simp only [wdP,byI];omega
     show [SObj.row HH [(h,(b,n))],SObj.row (.int .u32) ((wL b t).set t ((256* (256* (256* (b.getD (4*t+0) 0).toNat+ (b.getD (4*t+1) 0).toNat)+ (b.getD (4*t+2) 0).toNat)+ (b.getD (4*t+3) 0).toNat:Nat):Int))]= [SObj.row HH [(h,(b,n))],SObj.row (.int .u32) (wL b (t+1))];rw [hw,q4n b (by omega)]
   with_reducible refine sx1 hwr ?_;trivial
 obtain rfl:t=16:=by omega
 refine gy2 hwl Ae ?_;refine ⟨fun h=>absurd h (by omega),fun _=> ?_⟩;refine q1Y (ι:=Nat) (fun t=>[(7,rI t)]) (fun t=>[.row HH [(h,(b,n))],.row (.int .u32) (wL b t)]) (fun t=>64-t) (fun t=>16<=t∧t<=64) 16 (by decide) 2 rfl (by decide) (fun _=>rfl) (fun _=>rfl) (fun _=>rfl) ?_ ?_
 . with_reducible refine sxE ?_
   rfl
 intro t ht;have hwl:=q4m b t;have hwr:=wsx t (by omega);by_cases hlt:t<64
 . have e15:IntKind.i64.wrap ((t:Int) -15)=((t-15:Nat):Int):=by rw [wrapi (by omega)];omega
   have e2:IntKind.i64.wrap ((t:Int) -2)=((t-2:Nat):Int):=by rw [wrapi (by omega)];omega
   have e7:IntKind.i64.wrap ((t:Int) -7)=((t-7:Nat):Int):=by rw [wrapi (by omega)];omega
   have e16:IntKind.i64.wrap ((t:Int) -16)=((t-16:Nat):Int):=by rw [wrapi (by omega)];omega
   have g15:=q1c b (t:=t) (j:=t-15) (by omega) (by omega);have g2:=q1c b (t:=t) (j:=t-2) (by omega) (by omega);have g7:=q1c b (t:=t) (j:=t-7) (by omega) (by omega);have g16:=q1c b (t:=t) (j:=t-16) (by omega) (by omega);have i15:=q2N b (t-15);have i2:=q2N b (t-2);have i7:=q2N b (t-7);have i16:=q2N b (t-16);refine gyd10 e15 e2 e7 e16 g15 g2 g7 g16 hwl Ae ?_;refine ⟨fun _=>⟨⟨by omega,by omega⟩,by omega,⟨by omega,by omega⟩,by omega,⟨by omega,by omega⟩,by omega,⟨by omega,by omega⟩,by omega,q0e (q0M (wS b (t-2)) [17,19] i2 (by decide) (by decide)) ?_⟩,fun h=>absurd hlt (by omega)⟩;refine gQ ?_;refine q0G 2 (by decide) ?_;with_reducible refine sxE ?_
   refine q0c (q0M (wS b (t-15)) [7,18] i15 (by decide) (by decide)) ?_;refine uQ 600 _ ?_;simp (maxSteps:=3000000) only [e15,e2,e7,e16,g15,g2,g7,g16,hwl,Ae,Ty.dflt,go_sem,↓zA,↓reduceIte,↓reduceDIte] <;>try simp only [zB]
   repeat (with_reducible refine And.intro (by first|omega|exact ⟨by omega,by omega⟩) ?_)
   refine ⟨t+1,⟨by omega,hlt⟩,by dsimp only;omega,⟨[.dead],?_⟩,?_⟩
   . rw [schU i15 i2,<-z1Z (by omega),q4n b hlt];rfl
   with_reducible refine sx1 hwr ?_;trivial
 obtain rfl:t=64:=by omega
 refine gQ ?_;have hl:=hh.1;refine ⟨fun h=>absurd h (by omega),fun _=> ?_⟩;repeat (with_reducible refine And.intro (by omega) ?_)
 refine q3z (t:=.arr 64 (.int .u32)) (x:=dat_sha_constants) (ag:=some 64) (s:=.dat (.arr 64 (.int .u32)) dat_sha_constants) (by unfold datList;repeat (first|exact .head _|apply List.Mem.tail)) rfl (.inr rfl) ?_;refine gQ ?_;refine q1Y (ι:=Nat) (fun t=>[(134,rI t),(12,.raw (.int .u32 ((rnds b h t).getD 0 0))),(13,.raw (.int .u32 ((rnds b h t).getD 1 0))),(14,.raw (.int .u32 ((rnds b h t).getD 2 0))),(15,.raw (.int .u32 ((rnds b h t).getD 3 0))),(16,.raw (.int .u32 ((rnds b h t).getD 4 0))),(17,.raw (.int .u32 ((rnds b h t).getD 5 0))),(18,.raw (.int .u32 ((rnds b h t).getD 6 0))),(19,.raw (.int .u32 ((rnds b h t).getD 7 0)))]) (fun t=>[.row HH [(h,(b,n))],.row (.int .u32) (wL b 64)]) (fun t=>64-t) (fun t=>t<=64) 0 (Al _) 2 rfl (by decide) (fun _=>rfl) (fun _=>rfl) (fun _=>rfl) ?_ ?_
 . with_reducible refine sxE ?_
   exact ⟨rfl,rfl,rfl,rfl,rfl,rfl,rfl,rfl⟩
 intro t ht;have hwr:=wsx t (by omega);by_cases hlt:t<64
 . have hv:=q1t (b:=b) hh t;generalize hvv:rnds b h t=v at*;have i0:=q0j hv 0 (by decide);have i1:=q0j hv 1 (by decide);have i2:=q0j hv 2 (by decide);have i3:=q0j hv 3 (by decide);have i4:=q0j hv 4 (by decide);have i5:=q0j hv 5 (by decide);have i6:=q0j hv 6 (by decide);have i7:=q0j hv 7 (by decide);refine gyd3 hl hwl Ae ?_;refine ⟨fun _=>⟨⟨by omega,by omega⟩,⟨by omega,by omega⟩,by omega,?_⟩,fun h=>absurd hlt (by omega)⟩;refine q0G 2 (by decide) ?_;with_reducible refine sxE ?_
   refine q0c (q0M _ [6,11,25] i4 (by decide) (by decide)) ?_;refine gyd3 hl hwl Ae ?_;refine q0c (q4M _ _ _ i4 i5 i6) ?_;refine gyd3 hl hwl Ae ?_;refine q0z 3 ?_;with_reducible refine sxE ?_
   refine cyd3 (q0M _ [2,13,22] i0 (by decide) (by decide)) hl hwl Ae ?_;refine cyd3 (q3e _ _ _ i0 i1 i2) hl hwl Ae ?_;have hr:rnds b h (t+1)=rnd (kS t) (wS b t) v:=by show rnd (kS t) (wS b t) (rnds b h t)=_;rw [hvv]
   have hT1:=t1U (k:=kS t) (w:=wS b t) hv;have hT2:=t2U hv;refine ⟨t+1,hlt,by dsimp only;omega,⟨[.dead,.dead],rfl⟩,?_⟩;rw [z0x,q1c b hlt hlt,hT1,hT2,aU,eU];with_reducible refine sy2 hwr hr ?_
   exact ⟨rfl,rfl,rfl,rfl,rfl,rfl,rfl,rfl⟩
 obtain rfl:t=64:=by omega
 refine gyd3 hl hwl Ae ?_;refine ⟨fun h=>absurd h (by omega),fun _=> ?_⟩;have e8:=list8 (q1t (b:=b) hh 64).1;refine q0k (ι:=Nat) (fun i=>[(186,rI i),(185,.dat (.arr 8 (.int .u32)) (rnds b h 64))]) (fun i=>[.row HH [((blkP b h i),(b,n))],.row (.int .u32) (wL b 64)]) (fun t=>8-t) (fun t=>t<=8) 0 (Al _) ?_ ?_ ?_
 . rw [q3E b hh.1]
 . with_reducible refine sxE ?_
   exact congrArg (SV.dat (.arr 8 (.int .u32))) e8
 intro i hi;have hwr:=wsx i (by omega);have hv:=q1t (b:=b) hh 64;have hl:=hv.1;have hbl:=q5b b h i;by_cases hlt:i<8
 . have hbg:=q4W b h hlt;refine gyd4 hl hbl Ae AD ?_;refine ⟨fun _=> ?_,fun h=>absurd hlt (by omega)⟩;repeat (with_reducible refine And.intro (by first|omega|exact ⟨by omega,by omega⟩) ?_)
   refine ⟨i+1,hlt,by dsimp only;omega,?_,?_⟩
   . rw [hbg,wrapU];show [_,_]= [SObj.row HH [((blkP b h (i+1)),(b,n))],_];rw [<-q5l b h hlt]
   with_reducible refine sx1 hwr ?_;trivial
 obtain rfl:i=8:=by omega
 refine gyd3 hl hbl Ae ?_;refine ⟨fun h=>absurd h (by omega),fun _=> ?_⟩;rw [q4J]
theorem tmod64(n:Nat):((n:Int)).tmod 64=((n%64:Nat):Int):=by rw [BG (by omega)];rfl
def q6x{rest b:List UInt8}(h:m.length%64=0):wrR m rest b=splice rest 0 (b.drop (64* (b.length / 64))):=by
 have hme:(m++b).length=m.length+b.length:=Ab;unfold wrR;rw [h];split
 . rw [show 64* (b.length / 64)=0 by omega,Av]
 rw [if_neg (by omega),hme,BZ,A2 (by omega),Ax];congr 2;omega
theorem z0o{b:List UInt8}(hst:x.1=foldB hS0 m (m.length / 64))(h:m.length%64+b.length<64):(x.1,List.take (m.length%64) x.2.1++b++List.drop (m.length%64+b.length) x.2.1,((m.length+b.length:Nat):Int))=wrS m x b:=by have hme:(m++b).length=m.length+b.length:=Ab;unfold wrS wrR;rw [if_pos h,hme,show (m.length+b.length) / 64=m.length / 64 by omega,q2Y hS0 (by omega),<-hst];rfl
def z0p{b pre b1:List UInt8}{c0:Nat}(hp:pre.length=64*c0)(happ:pre++b1=m++b):(m++b).drop (64* ((m++b).length / 64))=b1.drop (64* (b1.length / 64)):=by rw [<-happ,Ab,BZ,A2 (by omega),Ax];congr 1;omega
theorem q4b{b pre b1 rest1:List UInt8}{c0:Nat}{st1:List Int}(hp:pre.length=64*c0)(happ:pre++b1=m++b)(hrr:wrR m x.2.1 b=splice rest1 0 (b1.drop (64* (b1.length / 64))))(hst:st1=foldB hS0 pre c0:=by first|rfl|assumption):
 (foldB st1 b1 (b1.length / 64),List.take 0 rest1++b1.drop (64* (b1.length / 64))++List.drop (0+ (b1.drop (64* (b1.length / 64))).length) rest1,((m.length+b.length:Nat):Int))=wrS m x b:=by
 have hme:(m++b).length=m.length+b.length:=Ab;have hl:(m++b).length / 64=c0+b1.length / 64:=by rw [<-happ,Ab];omega
 unfold wrS;rw [hrr,hl,hme,<-happ,q7R hS0 hp,hst];rfl
def z2d(m b:List UInt8)(x:HaD)(hx:HRep m x)(hl:m.length+b.length<=70368744177664):PE Tryz.prog 277 [.rptr 0 HH 0 0,.isl .u8 b] [.row HH [x]] (.ret (rI 0)) [.row HH [wrS m x b]]:=by
 obtain ⟨st,rest,n⟩:=x;obtain rfl:n=(m.length:Int):=hx.n;have h2:rest.length=64:=hx.rest;have h3:st.length=8:=hx.len;have h4:m.length≠0->st=foldB hS0 m (m.length / 64):=hx.st;have h5:rest.take (m.length%64)=m.drop (64* (m.length / 64)):=hx.tail;have hmt:=tmod64 m.length;have hmw:IntKind.i64.wrap ((m.length:Int)+ (b.length:Int))=((m.length+b.length:Nat):Int):=by rw [wrapi (by omega)];omega
 have hme:(m++b).length=m.length+b.length:=Ab;refine q0b (Af _) ?_;refine q1T fi277 ?_;by_cases c0:m.length=0
 . have hm0:m= []:=BB.1 c0;have hz:((m.length:Int)=0)=True:=eq_true (by omega);have hu:(0< ((m.length%64:Nat):Int))=False:=eq_false (by omega);refine gy1 hz ?_;refine q3z (t:=.arr 8 (.int .u32)) (x:=dat_sha_start) (ag:=some 8) (s:=.dat (.arr 8 (.int .u32)) dat_sha_start) (by unfold datList;repeat (first|exact .head _|apply List.Mem.tail)) rfl (.inr rfl) ?_;refine gy3 hmt hmw hu ?_;have hst1:inWs hS0:=q6p;have hpre:([]:List UInt8).length=64*0:=rfl;have happ:[]++b=m++b:=by rw [hm0]
   have hrr:wrR m rest b=splice rest 0 (b.drop (64* (b.length / 64))):=q6x (by omega);refine ⟨by decide,?_⟩;refine q0k (ι:=Nat) (fun i=>[(1,.isl .u8 (b.drop (64*i)))]) (fun i=>[.row HH [(foldB hS0 b i,(rest,((m.length+b.length:Nat):Int)))]]) (fun i=>b.length / 64-i) (fun i=>i<=b.length / 64) 0 (Al _) ?_ ?_ ?_
   . rfl
   . with_reducible refine sxE ?_;trivial
   intro i hi;have hv:inWs (foldB hS0 b i):=q1h hst1 _ _;have hdl:(b.drop (64*i)).length=b.length-64*i:=Aj;by_cases hlt:i<b.length / 64
   . have hbl:(List.take 64 (b.drop (64*i))).length=64:=by rw [Ak];omega
     have hbe:List.take 64 (b.drop (64*i))=blkAt b i:=by unfold blkAt;rw [BH];congr 1;omega
     have hdd:List.drop 64 (List.take (b.length-64*i) (b.drop (64*i)))=b.drop (64* (i+1)):=by rw [Ad (by omega),Bd];congr 1
     have hc:(64<=((b.length-64*i:Nat):Int))=True:=eq_true (by omega);refine uQ 11 _ ?_;with_reducible refine sy2 hdl hc ?_
     refine q1r [] mixed ?_;refine gQ ?_;refine ⟨by omega,?_⟩;refine q0s [0] (z6e (List.take 64 (b.drop (64*i))) (rest,((m.length+b.length:Nat):Int)) _ hbl hv) rfl (by decide) (by repeat first|exact trivial|exact rfl|refine And.intro ?_ ?_) rfl rfl (fun _ h=>by cases h) ?_;simp only [afterR,Out.ren,SV.ren,mgA,sig,SObj.ren,SV.renL,List.set,List.map,Ah];refine gy1 hdl ?_;rw [hdd];refine ⟨⟨by omega,by omega⟩,i+1,hlt,by dsimp only;omega,?_,?_⟩
     . rw [hbe];rfl
     with_reducible refine sxE ?_;trivial
   obtain rfl:i=b.length / 64:=by omega
   have hc:(64<=((b.length-64* (b.length / 64):Nat):Int))=False:=eq_false (by omega);have hk0:min (b.length-64* (b.length / 64)) 64=b.length-64* (b.length / 64):=by omega
   refine gy3 hdl hc hk0 ?_;rw [Ad (l:=b.drop (64* (b.length / 64))) (by omega)];repeat (with_reducible refine And.intro (by first|omega|exact ⟨by omega,by omega⟩) ?_)
   exact congrArg (fun x=>SObj.row HH [x]) (q4b (x:=(st,rest,(m.length:Int))) hpre happ hrr)

 have hz:((m.length:Int)=0)=False:=eq_false (by omega);have hst:=h4 c0;have hst1:inWs st:=hst▸q1h q6p _ _;by_cases c1:0<m.length%64
 . have hu:(0< ((m.length%64:Nat):Int))=True:=eq_true (by omega);by_cases c2:m.length%64+b.length<64
   . have hk:min b.length (64-m.length%64)=b.length:=by omega
     have hw2:IntKind.i64.wrap (((m.length%64:Nat):Int)+ (b.length:Int))=((m.length%64+b.length:Nat):Int):=by rw [wrapi (by omega)];omega
     have hs:(((m.length%64+b.length:Nat):Int) <64)=True:=eq_true (by omega);refine uQ 600 _ ?_;simp (maxSteps:=3000000) only [hz,hmt,hmw,hu,hk,hw2,hs,AL,go_sem,↓zA,↓reduceIte,↓reduceDIte] <;>try simp only [zB]
     repeat (with_reducible refine And.intro (by first|omega|exact ⟨by omega,by omega⟩ |exact ⟨by omega,by omega,by omega⟩) ?_)
     exact congrArg (fun x=>SObj.row HH [x]) (z0o (x:=(st,rest,(m.length:Int))) hst c2)
   have hk:min b.length (64-m.length%64)=64-m.length%64:=by omega
   have hw2:IntKind.i64.wrap (((m.length%64:Nat):Int)+ ((64-m.length%64:Nat):Int))=((64:Nat):Int):=by rw [wrapi (by omega)];omega
   have htl:(List.take (64-m.length%64) b).length=64-m.length%64:=by rw [Ak];omega
   have hfull:m.length%64+ (64-m.length%64)=64:=by omega
   have hs:(((64:Nat):Int) <64)=False:=eq_false (by omega);have hpre:(m++b.take (64-m.length%64)).length=64* (m.length / 64+1):=by rw [Ab,htl];omega
   have happ:m++b.take (64-m.length%64)++b.drop (64-m.length%64)=m++b:=by rw [List.append_assoc,AJ]
   obtain ⟨r1,hr1⟩:∃r1,r1=(List.take (m.length%64) rest++List.take (64-m.length%64) b++List.drop 64 rest):=⟨_,rfl⟩;have hr1l:r1.length=64:=by rw [hr1,Ab,Ab,htl,Ak,Aj];omega
   have hrr:wrR m rest b=splice r1 0 ((b.drop (64-m.length%64)).drop (64* ((b.drop (64-m.length%64)).length / 64))):=by unfold wrR;rw [if_neg c2,if_pos c1,hr1,z0p hpre happ];simp only [splice,htl,hfull]
   have hstD:blkS r1 st=foldB hS0 (m++b.take (64-m.length%64)) (m.length / 64+1):=by rw [foldB,q2Y hS0 (by omega),<-hst];congr 1;unfold blkAt;rw [Ad (by omega),Bg (by omega),<-h5,hr1,show List.drop 64 rest= [] from A2 (by omega),Ah]
   have hst1':inWs (blkS r1 st):=z1O;have hbl1:(List.drop (64-m.length%64) b).length=b.length- (64-m.length%64):=Aj;refine uQ 74 _ ?_;simp (maxSteps:=3000000) only [hz,hmt,hmw,hu,hk,hw2,htl,hfull,hs,go_sem,↓zA,↓reduceIte,↓reduceDIte] <;>try simp only [zB]
   rw [<-hr1];refine ⟨by decide,⟨by omega,by omega,by omega⟩,by omega,?_⟩;refine q1r [] mixed ?_;refine gQ ?_;refine ⟨⟨by omega,by omega⟩,?_⟩;refine q0s [0] (j6D r1 ((m.length+b.length:Nat):Int) _ hr1l hst1) rfl (by decide) (by repeat first|exact trivial|exact rfl|refine And.intro ?_ ?_) rfl rfl (fun _ h=>by cases h) ?_;simp only [afterR,Out.ren,SV.ren,mgA,sig,SObj.ren,SV.renL,List.set,List.map,Ah];refine gy1 hk ?_;rw [AL];refine ⟨⟨by omega,by omega⟩,?_⟩;replace hst1:=hst1';refine q0k (ι:=Nat) (fun i=>[(1,.isl .u8 ((b.drop (64-m.length%64)).drop (64*i)))]) (fun i=>[.row HH [(foldB (blkS r1 st) (b.drop (64-m.length%64)) i,(r1,((m.length+b.length:Nat):Int)))]]) (fun i=>(b.drop (64-m.length%64)).length / 64-i) (fun i=>i<=(b.drop (64-m.length%64)).length / 64) 0 (Al _) ?_ ?_ ?_
   . rfl
   . with_reducible refine sxE ?_;trivial
   intro i hi;have hv:inWs (foldB (blkS r1 st) (b.drop (64-m.length%64)) i):=q1h hst1 _ _;have hdl:((b.drop (64-m.length%64)).drop (64*i)).length=(b.drop (64-m.length%64)).length-64*i:=Aj;by_cases hlt:i< (b.drop (64-m.length%64)).length / 64
   . have hbl:(List.take 64 ((b.drop (64-m.length%64)).drop (64*i))).length=64:=by rw [Ak];omega
     have hbe:List.take 64 ((b.drop (64-m.length%64)).drop (64*i))=blkAt (b.drop (64-m.length%64)) i:=by unfold blkAt;rw [BH];congr 1;omega
     have hdd:List.drop 64 (List.take ((b.drop (64-m.length%64)).length-64*i) ((b.drop (64-m.length%64)).drop (64*i)))=(b.drop (64-m.length%64)).drop (64* (i+1)):=by rw [Ad (by omega),Bd];congr 1
     have hc:(64<=(((b.drop (64-m.length%64)).length-64*i:Nat):Int))=True:=eq_true (by omega);refine uQ 11 _ ?_;with_reducible refine sy2 hdl hc ?_
     refine q1r [] mixed ?_;refine gQ ?_;refine ⟨by omega,?_⟩;refine q0s [0] (z6e (List.take 64 ((b.drop (64-m.length%64)).drop (64*i))) (r1,((m.length+b.length:Nat):Int)) _ hbl hv) rfl (by decide) (by repeat first|exact trivial|exact rfl|refine And.intro ?_ ?_) rfl rfl (fun _ h=>by cases h) ?_;simp only [afterR,Out.ren,SV.ren,mgA,sig,SObj.ren,SV.renL,List.set,List.map,Ah];refine gy1 hdl ?_;rw [hdd];refine ⟨⟨by omega,by omega⟩,i+1,hlt,by dsimp only;omega,?_,?_⟩
     . rw [hbe];rfl
     with_reducible refine sxE ?_;trivial
   obtain rfl:i=(b.drop (64-m.length%64)).length / 64:=by omega
   have hc:(64<=(((b.drop (64-m.length%64)).length-64* ((b.drop (64-m.length%64)).length / 64):Nat):Int))=False:=eq_false (by omega);have hk0:min ((b.drop (64-m.length%64)).length-64* ((b.drop (64-m.length%64)).length / 64)) 64=(b.drop (64-m.length%64)).length-64* ((b.drop (64-m.length%64)).length / 64):=by omega
   refine gy3 hdl hc hk0 ?_;rw [Ad (l:=(b.drop (64-m.length%64)).drop (64* ((b.drop (64-m.length%64)).length / 64))) (by omega)];repeat (with_reducible refine And.intro (by first|omega|exact ⟨by omega,by omega⟩) ?_)
   exact congrArg (fun x=>SObj.row HH [x]) (q4b (x:=(st,rest,(m.length:Int))) hpre happ hrr)

 have hu:(0< ((m.length%64:Nat):Int))=False:=eq_false (by omega);refine gy4 hz hmt hmw hu ?_;have hpre:m.length=64* (m.length / 64):=by omega
 have happ:m++b=m++b:=rfl;have hrr:wrR m rest b=splice rest 0 (b.drop (64* (b.length / 64))):=q6x (by omega);refine ⟨by decide,?_⟩;refine q0k (ι:=Nat) (fun i=>[(1,.isl .u8 (b.drop (64*i)))]) (fun i=>[.row HH [(foldB st b i,(rest,((m.length+b.length:Nat):Int)))]]) (fun i=>b.length / 64-i) (fun i=>i<=b.length / 64) 0 (Al _) ?_ ?_ ?_
 . rfl
 . with_reducible refine sxE ?_;trivial
 intro i hi;have hv:inWs (foldB st b i):=q1h hst1 _ _;have hdl:(b.drop (64*i)).length=b.length-64*i:=Aj;by_cases hlt:i<b.length / 64
 . have hbl:(List.take 64 (b.drop (64*i))).length=64:=by rw [Ak];omega
   have hbe:List.take 64 (b.drop (64*i))=blkAt b i:=by unfold blkAt;rw [BH];congr 1;omega
   have hdd:List.drop 64 (List.take (b.length-64*i) (b.drop (64*i)))=b.drop (64* (i+1)):=by rw [Ad (by omega),Bd];congr 1
   have hc:(64<=((b.length-64*i:Nat):Int))=True:=eq_true (by omega);refine uQ 11 _ ?_;with_reducible refine sy2 hdl hc ?_
   refine q1r [] mixed ?_;refine gQ ?_;refine ⟨by omega,?_⟩;refine q0s [0] (z6e (List.take 64 (b.drop (64*i))) (rest,((m.length+b.length:Nat):Int)) _ hbl hv) rfl (by decide) (by repeat first|exact trivial|exact rfl|refine And.intro ?_ ?_) rfl rfl (fun _ h=>by cases h) ?_;simp only [afterR,Out.ren,SV.ren,mgA,sig,SObj.ren,SV.renL,List.set,List.map,Ah];refine gy1 hdl ?_;rw [hdd];refine ⟨⟨by omega,by omega⟩,i+1,hlt,by dsimp only;omega,?_,?_⟩
   . rw [hbe];rfl
   with_reducible refine sxE ?_;trivial
 obtain rfl:i=b.length / 64:=by omega
 have hc:(64<=((b.length-64* (b.length / 64):Nat):Int))=False:=eq_false (by omega);have hk0:min (b.length-64* (b.length / 64)) 64=b.length-64* (b.length / 64):=by omega
 refine gy3 hdl hc hk0 ?_;rw [Ad (l:=b.drop (64* (b.length / 64))) (by omega)];repeat (with_reducible refine And.intro (by first|omega|exact ⟨by omega,by omega⟩) ?_)
 exact congrArg (fun x=>SObj.row HH [x]) (q4b (x:=(st,rest,(m.length:Int))) hpre happ hrr)

theorem z7L(b:List UInt8)(ks:List UInt8×List UInt8)(r:List UInt8×Int)(rd:Bool)(h:List Int)(hb:b.length=64)(hh:inWs h):PE Tryz.prog 292 [.rptr 0 MH 0 128,.isl .u8 b] [.row MH [(ks,((h,r),rd))]] (.ret (.tup [])) [.row MH [(ks,(((blkS b h),r),rd))]]:=by
 refine q0b (Af _) ?_;refine rQ fi292 ?_;refine q0k (ι:=Nat) (fun t=>[(26,rI t)]) (fun t=>[.row MH [(ks,((h,r),rd))],.row (.int .u32) (wL b t)]) (fun t=>16-t) (fun t=>t<=16) 0 (Al _) (by rw [q7d];rfl) ?_ ?_
 . with_reducible refine sxE ?_;trivial
 intro t ht;have hwr:=wsx t (by omega);have hwl:=q4m b t;by_cases hlt:t<16
 . have w1:IntKind.i64.wrap (4* (t:Int))=((4*t:Nat):Int):=by rw [wrapi (by omega)];omega
   have w4:IntKind.i64.wrap (((4*t:Nat):Int)+4)=((4*t+4:Nat):Int):=by rw [wrapi (by omega)];omega
   refine gy4 w1 w4 hwl Ae ?_;have hdl:(List.drop (4*t) (List.take (4*t+4) b)).length=4:=by rw [Aj,Ak];omega
   refine ⟨fun _=> ?_,fun h=>absurd h (by omega)⟩;repeat (with_reducible refine And.intro (by first|omega|exact ⟨by omega,by omega,by omega,by omega⟩ |exact ⟨by omega,by omega⟩) ?_)
   refine ⟨t+1,by show t+1<=16;omega,by dsimp only;omega,?_,?_⟩
   . have hd:∀j,j<4->(List.drop (4*t) (List.take (4*t+4) b)).getD j Ty.u8.dflt=b.getD (4*t+j) 0:=fun j hj=>by rw [Aa,AA,A3 (by omega),<-Aa];rfl
     have ho:=or4 fun j=>(List.drop (4*t) (List.take (4*t+4) b)).getD j Ty.u8.dflt;rw [ho,hd 0 (by omega),hd 1 (by omega),hd 2 (by omega),hd 3 (by omega)];have hw:((256* (256* (256* (b.getD (4*t+0) 0).toNat+ (b.getD (4*t+1) 0).toNat)+ (b.getD (4*t+2) 0).toNat)+ (b.getD (4*t+3) 0).toNat:Nat):Int)=wS b t:=by rw [z1L hlt];simp only [wdP,byI];omega
     show [SObj.row MH [(ks,((h,r),rd))],SObj.row (.int .u32) ((wL b t).set t ((256* (256* (256* (b.getD (4*t+0) 0).toNat+ (b.getD (4*t+1) 0).toNat)+ (b.getD (4*t+2) 0).toNat)+ (b.getD (4*t+3) 0).toNat:Nat):Int))]= [SObj.row MH [(ks,((h,r),rd))],SObj.row (.int .u32) (wL b (t+1))];rw [hw,q4n b (by omega)]
   with_reducible refine sx1 hwr ?_;trivial
 obtain rfl:t=16:=by omega
 refine gy2 hwl Ae ?_;refine ⟨fun h=>absurd h (by omega),fun _=> ?_⟩;refine q1Y (ι:=Nat) (fun t=>[(7,rI t)]) (fun t=>[.row MH [(ks,((h,r),rd))],.row (.int .u32) (wL b t)]) (fun t=>64-t) (fun t=>16<=t∧t<=64) 16 (by decide) 2 rfl (by decide) (fun _=>rfl) (fun _=>rfl) (fun _=>rfl) ?_ ?_
 . with_reducible refine sxE ?_
   rfl
 intro t ht;have hwl:=q4m b t;have hwr:=wsx t (by omega);by_cases hlt:t<64
 . have e15:IntKind.i64.wrap ((t:Int) -15)=((t-15:Nat):Int):=by rw [wrapi (by omega)];omega
   have e2:IntKind.i64.wrap ((t:Int) -2)=((t-2:Nat):Int):=by rw [wrapi (by omega)];omega
   have e7:IntKind.i64.wrap ((t:Int) -7)=((t-7:Nat):Int):=by rw [wrapi (by omega)];omega
   have e16:IntKind.i64.wrap ((t:Int) -16)=((t-16:Nat):Int):=by rw [wrapi (by omega)];omega
   have g15:=q1c b (t:=t) (j:=t-15) (by omega) (by omega);have g2:=q1c b (t:=t) (j:=t-2) (by omega) (by omega);have g7:=q1c b (t:=t) (j:=t-7) (by omega) (by omega);have g16:=q1c b (t:=t) (j:=t-16) (by omega) (by omega);have i15:=q2N b (t-15);have i2:=q2N b (t-2);have i7:=q2N b (t-7);have i16:=q2N b (t-16);refine gyd10 e15 e2 e7 e16 g15 g2 g7 g16 hwl Ae ?_;refine ⟨fun _=>⟨⟨by omega,by omega⟩,by omega,⟨by omega,by omega⟩,by omega,⟨by omega,by omega⟩,by omega,⟨by omega,by omega⟩,by omega,q0e (q0M (wS b (t-2)) [17,19] i2 (by decide) (by decide)) ?_⟩,fun h=>absurd hlt (by omega)⟩;refine gQ ?_;refine q0G 2 (by decide) ?_;with_reducible refine sxE ?_
   refine q0c (q0M (wS b (t-15)) [7,18] i15 (by decide) (by decide)) ?_;refine uQ 600 _ ?_;simp (maxSteps:=3000000) only [e15,e2,e7,e16,g15,g2,g7,g16,hwl,Ae,Ty.dflt,go_sem,↓zA,↓reduceIte,↓reduceDIte] <;>try simp only [zB]
   repeat (with_reducible refine And.intro (by first|omega|exact ⟨by omega,by omega⟩) ?_)
   refine ⟨t+1,⟨by omega,hlt⟩,by dsimp only;omega,⟨[.dead],?_⟩,?_⟩
   . rw [schU i15 i2,<-z1Z (by omega),q4n b hlt];rfl
   with_reducible refine sx1 hwr ?_;trivial
 obtain rfl:t=64:=by omega
 refine gQ ?_;have hl:=hh.1;refine ⟨fun h=>absurd h (by omega),fun _=> ?_⟩;repeat (with_reducible refine And.intro (by omega) ?_)
 refine q3z (t:=.arr 64 (.int .u32)) (x:=dat_sha_constants) (ag:=some 64) (s:=.dat (.arr 64 (.int .u32)) dat_sha_constants) (by unfold datList;repeat (first|exact .head _|apply List.Mem.tail)) rfl (.inr rfl) ?_;refine gQ ?_;refine q1Y (ι:=Nat) (fun t=>[(134,rI t),(12,.raw (.int .u32 ((rnds b h t).getD 0 0))),(13,.raw (.int .u32 ((rnds b h t).getD 1 0))),(14,.raw (.int .u32 ((rnds b h t).getD 2 0))),(15,.raw (.int .u32 ((rnds b h t).getD 3 0))),(16,.raw (.int .u32 ((rnds b h t).getD 4 0))),(17,.raw (.int .u32 ((rnds b h t).getD 5 0))),(18,.raw (.int .u32 ((rnds b h t).getD 6 0))),(19,.raw (.int .u32 ((rnds b h t).getD 7 0)))]) (fun t=>[.row MH [(ks,((h,r),rd))],.row (.int .u32) (wL b 64)]) (fun t=>64-t) (fun t=>t<=64) 0 (Al _) 2 rfl (by decide) (fun _=>rfl) (fun _=>rfl) (fun _=>rfl) ?_ ?_
 . with_reducible refine sxE ?_
   exact ⟨rfl,rfl,rfl,rfl,rfl,rfl,rfl,rfl⟩
 intro t ht;have hwr:=wsx t (by omega);by_cases hlt:t<64
 . have hv:=q1t (b:=b) hh t;generalize hvv:rnds b h t=v at*;have i0:=q0j hv 0 (by decide);have i1:=q0j hv 1 (by decide);have i2:=q0j hv 2 (by decide);have i3:=q0j hv 3 (by decide);have i4:=q0j hv 4 (by decide);have i5:=q0j hv 5 (by decide);have i6:=q0j hv 6 (by decide);have i7:=q0j hv 7 (by decide);refine gyd3 hl hwl Ae ?_;refine ⟨fun _=>⟨⟨by omega,by omega⟩,⟨by omega,by omega⟩,by omega,?_⟩,fun h=>absurd hlt (by omega)⟩;refine q0G 2 (by decide) ?_;with_reducible refine sxE ?_
   refine q0c (q0M _ [6,11,25] i4 (by decide) (by decide)) ?_;refine gyd3 hl hwl Ae ?_;refine q0c (q4M _ _ _ i4 i5 i6) ?_;refine gyd3 hl hwl Ae ?_;refine q0z 3 ?_;with_reducible refine sxE ?_
   refine cyd3 (q0M _ [2,13,22] i0 (by decide) (by decide)) hl hwl Ae ?_;refine cyd3 (q3e _ _ _ i0 i1 i2) hl hwl Ae ?_;have hr:rnds b h (t+1)=rnd (kS t) (wS b t) v:=by show rnd (kS t) (wS b t) (rnds b h t)=_;rw [hvv]
   have hT1:=t1U (k:=kS t) (w:=wS b t) hv;have hT2:=t2U hv;refine ⟨t+1,hlt,by dsimp only;omega,⟨[.dead,.dead],rfl⟩,?_⟩;rw [z0x,q1c b hlt hlt,hT1,hT2,aU,eU];with_reducible refine sy2 hwr hr ?_
   exact ⟨rfl,rfl,rfl,rfl,rfl,rfl,rfl,rfl⟩
 obtain rfl:t=64:=by omega
 refine gyd3 hl hwl Ae ?_;refine ⟨fun h=>absurd h (by omega),fun _=> ?_⟩;have e8:=list8 (q1t (b:=b) hh 64).1;refine q0k (ι:=Nat) (fun i=>[(186,rI i),(185,.dat (.arr 8 (.int .u32)) (rnds b h 64))]) (fun i=>[.row MH [(ks,(((blkP b h i),r),rd))],.row (.int .u32) (wL b 64)]) (fun t=>8-t) (fun t=>t<=8) 0 (Al _) ?_ ?_ ?_
 . rw [q3E b hh.1]
 . with_reducible refine sxE ?_
   exact congrArg (SV.dat (.arr 8 (.int .u32))) e8
 intro i hi;have hwr:=wsx i (by omega);have hv:=q1t (b:=b) hh 64;have hl:=hv.1;have hbl:=q5b b h i;by_cases hlt:i<8
 . have hbg:=q4W b h hlt;refine gyd4 hl hbl Ae AD ?_;refine ⟨fun _=> ?_,fun h=>absurd hlt (by omega)⟩;repeat (with_reducible refine And.intro (by first|omega|exact ⟨by omega,by omega⟩) ?_)
   refine ⟨i+1,hlt,by dsimp only;omega,?_,?_⟩
   . rw [hbg,wrapU];show [_,_]= [SObj.row MH [(ks,(((blkP b h (i+1)),r),rd))],_];rw [<-q5l b h hlt]
   with_reducible refine sx1 hwr ?_;trivial
 obtain rfl:i=8:=by omega
 refine gyd3 hl hbl Ae ?_;refine ⟨fun h=>absurd h (by omega),fun _=> ?_⟩;rw [q4J]
def z9a(m b:List UInt8)(x:HaD)(ks:List UInt8×List UInt8)(rd:Bool)(hx:HRep m x)(hl:m.length+b.length<=70368744177664):PE Tryz.prog 277 [.rptr 0 MH 0 128,.isl .u8 b] [.row MH [(ks,(x,rd))]] (.ret (rI 0)) [.row MH [(ks,(wrS m x b,rd))]]:=by
 obtain ⟨st,rest,n⟩:=x;obtain rfl:n=(m.length:Int):=hx.n;have h2:rest.length=64:=hx.rest;have h3:st.length=8:=hx.len;have h4:m.length≠0->st=foldB hS0 m (m.length / 64):=hx.st;have h5:rest.take (m.length%64)=m.drop (64* (m.length / 64)):=hx.tail;have hmt:=tmod64 m.length;have hmw:IntKind.i64.wrap ((m.length:Int)+ (b.length:Int))=((m.length+b.length:Nat):Int):=by rw [wrapi (by omega)];omega
 have hme:(m++b).length=m.length+b.length:=Ab;refine q0b (Af _) ?_;refine q1T fi277 ?_;by_cases c0:m.length=0
 . have hm0:m= []:=BB.1 c0;have hz:((m.length:Int)=0)=True:=eq_true (by omega);have hu:(0< ((m.length%64:Nat):Int))=False:=eq_false (by omega);refine gy1 hz ?_;refine q3z (t:=.arr 8 (.int .u32)) (x:=dat_sha_start) (ag:=some 8) (s:=.dat (.arr 8 (.int .u32)) dat_sha_start) (by unfold datList;repeat (first|exact .head _|apply List.Mem.tail)) rfl (.inr rfl) ?_;refine gy3 hmt hmw hu ?_;have hst1:inWs hS0:=q6p;have hpre:([]:List UInt8).length=64*0:=rfl;have happ:[]++b=m++b:=by rw [hm0]
   have hrr:wrR m rest b=splice rest 0 (b.drop (64* (b.length / 64))):=q6x (by omega);refine ⟨by decide,?_⟩;refine q0k (ι:=Nat) (fun i=>[(1,.isl .u8 (b.drop (64*i)))]) (fun i=>[.row MH [(ks,((foldB hS0 b i,(rest,((m.length+b.length:Nat):Int))),rd))]]) (fun i=>b.length / 64-i) (fun i=>i<=b.length / 64) 0 (Al _) ?_ ?_ ?_
   . rfl
   . with_reducible refine sxE ?_;trivial
   intro i hi;have hv:inWs (foldB hS0 b i):=q1h hst1 _ _;have hdl:(b.drop (64*i)).length=b.length-64*i:=Aj;by_cases hlt:i<b.length / 64
   . have hbl:(List.take 64 (b.drop (64*i))).length=64:=by rw [Ak];omega
     have hbe:List.take 64 (b.drop (64*i))=blkAt b i:=by unfold blkAt;rw [BH];congr 1;omega
     have hdd:List.drop 64 (List.take (b.length-64*i) (b.drop (64*i)))=b.drop (64* (i+1)):=by rw [Ad (by omega),Bd];congr 1
     have hc:(64<=((b.length-64*i:Nat):Int))=True:=eq_true (by omega);refine uQ 11 _ ?_;with_reducible refine sy2 hdl hc ?_
     refine q1r [] mixed ?_;refine gQ ?_;refine ⟨by omega,?_⟩;refine q0s [0] (z7L (List.take 64 (b.drop (64*i))) ks (rest,((m.length+b.length:Nat):Int)) rd _ hbl hv) rfl (by decide) (by repeat first|exact trivial|exact rfl|refine And.intro ?_ ?_) rfl rfl (fun _ h=>by cases h) ?_;simp only [afterR,Out.ren,SV.ren,mgA,sig,SObj.ren,SV.renL,List.set,List.map,Ah];refine gy1 hdl ?_;rw [hdd];refine ⟨⟨by omega,by omega⟩,i+1,hlt,by dsimp only;omega,?_,?_⟩
     . rw [hbe];rfl
     with_reducible refine sxE ?_;trivial
   obtain rfl:i=b.length / 64:=by omega
   have hc:(64<=((b.length-64* (b.length / 64):Nat):Int))=False:=eq_false (by omega);have hk0:min (b.length-64* (b.length / 64)) 64=b.length-64* (b.length / 64):=by omega
   refine gy3 hdl hc hk0 ?_;rw [Ad (l:=b.drop (64* (b.length / 64))) (by omega)];repeat (with_reducible refine And.intro (by first|omega|exact ⟨by omega,by omega⟩) ?_)
   exact congrArg (fun x=>SObj.row MH [(ks,(x,rd))]) (q4b (x:=(st,rest,(m.length:Int))) hpre happ hrr)

 have hz:((m.length:Int)=0)=False:=eq_false (by omega);have hst:=h4 c0;have hst1:inWs st:=hst▸q1h q6p _ _;by_cases c1:0<m.length%64
 . have hu:(0< ((m.length%64:Nat):Int))=True:=eq_true (by omega);by_cases c2:m.length%64+b.length<64
   . have hk:min b.length (64-m.length%64)=b.length:=by omega
     have hw2:IntKind.i64.wrap (((m.length%64:Nat):Int)+ (b.length:Int))=((m.length%64+b.length:Nat):Int):=by rw [wrapi (by omega)];omega
     have hs:(((m.length%64+b.length:Nat):Int) <64)=True:=eq_true (by omega);refine uQ 600 _ ?_;simp (maxSteps:=3000000) only [hz,hmt,hmw,hu,hk,hw2,hs,AL,go_sem,↓zA,↓reduceIte,↓reduceDIte] <;>try simp only [zB]
     repeat (with_reducible refine And.intro (by first|omega|exact ⟨by omega,by omega⟩ |exact ⟨by omega,by omega,by omega⟩) ?_)
     exact congrArg (fun x=>SObj.row MH [(ks,(x,rd))]) (z0o (x:=(st,rest,(m.length:Int))) hst c2)
   have hk:min b.length (64-m.length%64)=64-m.length%64:=by omega
   have hw2:IntKind.i64.wrap (((m.length%64:Nat):Int)+ ((64-m.length%64:Nat):Int))=((64:Nat):Int):=by rw [wrapi (by omega)];omega
   have htl:(List.take (64-m.length%64) b).length=64-m.length%64:=by rw [Ak];omega
   have hfull:m.length%64+ (64-m.length%64)=64:=by omega
   have hs:(((64:Nat):Int) <64)=False:=eq_false (by omega);have hpre:(m++b.take (64-m.length%64)).length=64* (m.length / 64+1):=by rw [Ab,htl];omega
   have happ:m++b.take (64-m.length%64)++b.drop (64-m.length%64)=m++b:=by rw [List.append_assoc,AJ]
   obtain ⟨r1,hr1⟩:∃r1,r1=(List.take (m.length%64) rest++List.take (64-m.length%64) b++List.drop 64 rest):=⟨_,rfl⟩;have hr1l:r1.length=64:=by rw [hr1,Ab,Ab,htl,Ak,Aj];omega
   have hrr:wrR m rest b=splice r1 0 ((b.drop (64-m.length%64)).drop (64* ((b.drop (64-m.length%64)).length / 64))):=by unfold wrR;rw [if_neg c2,if_pos c1,hr1,z0p hpre happ];simp only [splice,htl,hfull]
   have hstD:blkS r1 st=foldB hS0 (m++b.take (64-m.length%64)) (m.length / 64+1):=by rw [foldB,q2Y hS0 (by omega),<-hst];congr 1;unfold blkAt;rw [Ad (by omega),Bg (by omega),<-h5,hr1,show List.drop 64 rest= [] from A2 (by omega),Ah]
   have hst1':inWs (blkS r1 st):=z1O;have hbl1:(List.drop (64-m.length%64) b).length=b.length- (64-m.length%64):=Aj;refine uQ 74 _ ?_;simp (maxSteps:=3000000) only [hz,hmt,hmw,hu,hk,hw2,htl,hfull,hs,go_sem,↓zA,↓reduceIte,↓reduceDIte] <;>try simp only [zB]
   rw [<-hr1];refine ⟨by decide,⟨by omega,by omega,by omega⟩,by omega,?_⟩;refine q1r [] mixed ?_;refine gQ ?_;refine ⟨⟨by omega,by omega⟩,?_⟩;refine q0s [0] (j6u r1 ks ((m.length+b.length:Nat):Int) rd _ hr1l hst1) rfl (by decide) (by repeat first|exact trivial|exact rfl|refine And.intro ?_ ?_) rfl rfl (fun _ h=>by cases h) ?_;simp only [afterR,Out.ren,SV.ren,mgA,sig,SObj.ren,SV.renL,List.set,List.map,Ah];refine gy1 hk ?_;rw [AL];refine ⟨⟨by omega,by omega⟩,?_⟩;replace hst1:=hst1';refine q0k (ι:=Nat) (fun i=>[(1,.isl .u8 ((b.drop (64-m.length%64)).drop (64*i)))]) (fun i=>[.row MH [(ks,((foldB (blkS r1 st) (b.drop (64-m.length%64)) i,(r1,((m.length+b.length:Nat):Int))),rd))]]) (fun i=>(b.drop (64-m.length%64)).length / 64-i) (fun i=>i<=(b.drop (64-m.length%64)).length / 64) 0 (Al _) ?_ ?_ ?_
   . rfl
   . with_reducible refine sxE ?_;trivial
   intro i hi;have hv:inWs (foldB (blkS r1 st) (b.drop (64-m.length%64)) i):=q1h hst1 _ _;have hdl:((b.drop (64-m.length%64)).drop (64*i)).length=(b.drop (64-m.length%64)).length-64*i:=Aj;by_cases hlt:i< (b.drop (64-m.length%64)).length / 64
   . have hbl:(List.take 64 ((b.drop (64-m.length%64)).drop (64*i))).length=64:=by rw [Ak];omega
     have hbe:List.take 64 ((b.drop (64-m.length%64)).drop (64*i))=blkAt (b.drop (64-m.length%64)) i:=by unfold blkAt;rw [BH];congr 1;omega
     have hdd:List.drop 64 (List.take ((b.drop (64-m.length%64)).length-64*i) ((b.drop (64-m.length%64)).drop (64*i)))=(b.drop (64-m.length%64)).drop (64* (i+1)):=by rw [Ad (by omega),Bd];congr 1
     have hc:(64<=(((b.drop (64-m.length%64)).length-64*i:Nat):Int))=True:=eq_true (by omega);refine uQ 11 _ ?_;with_reducible refine sy2 hdl hc ?_
     refine q1r [] mixed ?_;refine gQ ?_;refine ⟨by omega,?_⟩;refine q0s [0] (z7L (List.take 64 ((b.drop (64-m.length%64)).drop (64*i))) ks (r1,((m.length+b.length:Nat):Int)) rd _ hbl hv) rfl (by decide) (by repeat first|exact trivial|exact rfl|refine And.intro ?_ ?_) rfl rfl (fun _ h=>by cases h) ?_;simp only [afterR,Out.ren,SV.ren,mgA,sig,SObj.ren,SV.renL,List.set,List.map,Ah];refine gy1 hdl ?_;rw [hdd];refine ⟨⟨by omega,by omega⟩,i+1,hlt,by dsimp only;omega,?_,?_⟩
     . rw [hbe];rfl
     with_reducible refine sxE ?_;trivial
   obtain rfl:i=(b.drop (64-m.length%64)).length / 64:=by omega
   have hc:(64<=(((b.drop (64-m.length%64)).length-64* ((b.drop (64-m.length%64)).length / 64):Nat):Int))=False:=eq_false (by omega);have hk0:min ((b.drop (64-m.length%64)).length-64* ((b.drop (64-m.length%64)).length / 64)) 64=(b.drop (64-m.length%64)).length-64* ((b.drop (64-m.length%64)).length / 64):=by omega
   refine gy3 hdl hc hk0 ?_;rw [Ad (l:=(b.drop (64-m.length%64)).drop (64* ((b.drop (64-m.length%64)).length / 64))) (by omega)];repeat (with_reducible refine And.intro (by first|omega|exact ⟨by omega,by omega⟩) ?_)
   exact congrArg (fun x=>SObj.row MH [(ks,(x,rd))]) (q4b (x:=(st,rest,(m.length:Int))) hpre happ hrr)

 have hu:(0< ((m.length%64:Nat):Int))=False:=eq_false (by omega);refine gy4 hz hmt hmw hu ?_;have hpre:m.length=64* (m.length / 64):=by omega
 have happ:m++b=m++b:=rfl;have hrr:wrR m rest b=splice rest 0 (b.drop (64* (b.length / 64))):=q6x (by omega);refine ⟨by decide,?_⟩;refine q0k (ι:=Nat) (fun i=>[(1,.isl .u8 (b.drop (64*i)))]) (fun i=>[.row MH [(ks,((foldB st b i,(rest,((m.length+b.length:Nat):Int))),rd))]]) (fun i=>b.length / 64-i) (fun i=>i<=b.length / 64) 0 (Al _) ?_ ?_ ?_
 . rfl
 . with_reducible refine sxE ?_;trivial
 intro i hi;have hv:inWs (foldB st b i):=q1h hst1 _ _;have hdl:(b.drop (64*i)).length=b.length-64*i:=Aj;by_cases hlt:i<b.length / 64
 . have hbl:(List.take 64 (b.drop (64*i))).length=64:=by rw [Ak];omega
   have hbe:List.take 64 (b.drop (64*i))=blkAt b i:=by unfold blkAt;rw [BH];congr 1;omega
   have hdd:List.drop 64 (List.take (b.length-64*i) (b.drop (64*i)))=b.drop (64* (i+1)):=by rw [Ad (by omega),Bd];congr 1
   have hc:(64<=((b.length-64*i:Nat):Int))=True:=eq_true (by omega);refine uQ 11 _ ?_;with_reducible refine sy2 hdl hc ?_
   refine q1r [] mixed ?_;refine gQ ?_;refine ⟨by omega,?_⟩;refine q0s [0] (z7L (List.take 64 (b.drop (64*i))) ks (rest,((m.length+b.length:Nat):Int)) rd _ hbl hv) rfl (by decide) (by repeat first|exact trivial|exact rfl|refine And.intro ?_ ?_) rfl rfl (fun _ h=>by cases h) ?_;simp only [afterR,Out.ren,SV.ren,mgA,sig,SObj.ren,SV.renL,List.set,List.map,Ah];refine gy1 hdl ?_;rw [hdd];refine ⟨⟨by omega,by omega⟩,i+1,hlt,by dsimp only;omega,?_,?_⟩
   . rw [hbe];rfl
   with_reducible refine sxE ?_;trivial
 obtain rfl:i=b.length / 64:=by omega
 have hc:(64<=((b.length-64* (b.length / 64):Nat):Int))=False:=eq_false (by omega);have hk0:min (b.length-64* (b.length / 64)) 64=b.length-64* (b.length / 64):=by omega
 refine gy3 hdl hc hk0 ?_;rw [Ad (l:=b.drop (64* (b.length / 64))) (by omega)];repeat (with_reducible refine And.intro (by first|omega|exact ⟨by omega,by omega⟩) ?_)
 exact congrArg (fun x=>SObj.row MH [(ks,(x,rd))]) (q4b (x:=(st,rest,(m.length:Int))) hpre happ hrr)

theorem j2k(m:List UInt8)(x:HaD)(hx:HRep m x)(hl:m.length<=70368744177664):PC Tryz.prog 279 [.iptr HH x 0] (.dat (.arr 32 .u8) (shaS m)):=by
 have hrs:=j1C hx;obtain ⟨st,rest,n⟩:=x;obtain rfl:n=(m.length:Int):=hx.n;have h2:rest.length=64:=hx.rest;have h3:st.length=8:=hx.len;have h4:m.length≠0->st=foldB hS0 m (m.length / 64):=hx.st;have hmt:=tmod64 m.length;refine q0q rfl rfl (q3O (q1C noFG fi279 ?_));letI:Ghost:=topG noFG [];by_cases c0:m.length=0
 . have hm0:m= []:=BB.1 c0;have hz:((m.length:Int)=0)=True:=eq_true (by omega);refine gy1 hz ?_;refine q0a ((j5o [] (by simp)).arg ?_) ?_
   . with_reducible refine sxE ?_;trivial
   have hbl:(shaS []).length=32:=q1f _;refine gy1 hbl ?_;rw [hm0]
 have hz:((m.length:Int)=0)=False:=eq_false (by omega);have hst:inWs st:=(h4 c0)▸q1h q6p _ _;refine gy2 hz hmt ?_;rw [CM];refine ⟨by decide,⟨by omega,by omega,by omega⟩,?_⟩;have hrl:(List.take (m.length%64) rest).length<=70368744177664:=by rw [Ak];omega
 have hfe:bytesS (foldB st (padT (List.take (m.length%64) rest) m.length) (blksN (List.take (m.length%64) rest)))=shaS m:=hrs c0;generalize List.take (m.length%64) rest=r at*;refine cR (j1E r m.length hrl) ?_;refine z5z (smH st (padT r m.length)) (fun _ _ _=>False) rfl rfl rfl (z0I r m.length hrl hl) (fun i n args' new h=>by rw [h.1];rfl) ⟨[],?_⟩ rfl ?_ ?_ ?_
 . rw [h3,show List.drop (0+8) _=([]:List Int) from rfl,Ah];rfl
 . rintro i _ args' new hi ⟨G,rfl⟩ ⟨rfl,rfl⟩ L1 L2;letI:Ghost:=pinG noFG L1;rw [Ah];refine uQ 600 _ ?_;simp only [putL,Bv];with_reducible refine sxaE ?_
   letI:Ghost:=pinG noFG L2;refine aQ ?_;have hbl:(blkAt (padT r m.length) i).length=64:=z0l (q9W r m.length) hi;refine eQ [1] (j6g (blkAt (padT r m.length) i) _ hbl (q1h hst _ i)) ?_;exact ⟨G,rfl⟩
 . rintro D _ ⟨G,rfl⟩;letI:Ghost:=topG noFG [D];have hv:=q1h hst (padT r m.length) (blksN r);have hfl:=hv.1;generalize foldB st (padT r m.length) (blksN r)=h at*;refine gQ ?_;have htk:List.take 8 h=h:=Ad (by omega);rw [htk];refine ⟨by omega,q0a (z7p h hv) ?_⟩;have hbl:=q1f h;refine gy1 hbl ?_;rw [hfe]
 rintro D i ex _ hi h;exact h.elim
end Go.Proofs.YthbcodbcndiapaaGreatDoor