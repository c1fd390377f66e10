/- SHA-256: contracts: the program's block. -/
import Derived.Test.YthbcodbcndiapaaGreatDoorP7
import Derived.Lib.Bytealg
import Derived.Lib.Strings
import Derived.Lib.IndexBytes
set_option linter.all false
namespace Go.Proofs.YthbcodbcndiapaaGreatDoor
open Go Go.Sx Go.Proofs
set_option maxRecDepth 100000
set_option maxHeartbeats 40000000
set_option linter.defProp false
abbrev HH:Ty:=.prod (.arr 8 (.int .u32)) (.prod (.arr 64 .u8) (.int .i64))
abbrev MH:Ty:=.prod (.prod (.arr 64 .u8) (.arr 64 .u8)) (.prod HH .bool)
def orW{a b:Nat}{k:Nat}(e:b<2^ k)(h:2^ k*a+b<4294967296):orK .u32 ((2^ k*a:Nat):Int) (b:Int)=((2^ k*a+b:Nat):Int):=by
 unfold orK;have d:(BitVec.ofInt IntKind.u32.bits ((2^ k*a:Nat):Int) |||BitVec.ofInt IntKind.u32.bits (b:Int)).toNat=2^ k*a+b:=by rw [Cb,AP,AP,AX,AX];rw [show 2^ IntKind.u32.bits=4294967296 from rfl,AI (a:=2^ k*a) (by omega),AI (a:=b) (by omega),<-CB e]
 rw [d];exact w32 (by constructor<;>omega)
def u32n(n:Nat)(h:n<4294967296):IntKind.u32.wrap (n:Int)=(n:Int):=w32 (by constructor<;>omega)
theorem or4(c:Nat->UInt8):orK .u32 (orK .u32 (orK .u32 (IntKind.u32.wrap (IntKind.u32.wrap ((c 0).toNat:Int)*2^ min 24 32)) (IntKind.u32.wrap (IntKind.u32.wrap ((c 1).toNat:Int)*2^ min 16 32))) (IntKind.u32.wrap (IntKind.u32.wrap ((c 2).toNat:Int)*2^ min 8 32))) (IntKind.u32.wrap ((c 3).toNat:Int))=((256* (256* (256* (c 0).toNat+ (c 1).toNat)+ (c 2).toNat)+ (c 3).toNat:Nat):Int):=by
 have h0:=(c 0).toNat_lt;have h1:=(c 1).toNat_lt;have h2:=(c 2).toNat_lt;have h3:=(c 3).toNat_lt;generalize (c 0).toNat=d at*;generalize (c 1).toNat=e at*;generalize (c 2).toNat=j at*;generalize (c 3).toNat=o at*;have p:IntKind.u32.wrap (IntKind.u32.wrap (d:Int)*2^ min 24 32)=((2^ 24*d:Nat):Int):=by rw [u32n d (by omega),show (2:Int) ^ min 24 32=16777216 from rfl,w32 (by constructor<;>omega)];omega
 have r:IntKind.u32.wrap (IntKind.u32.wrap (e:Int)*2^ min 16 32)=((2^ 16*e:Nat):Int):=by rw [u32n e (by omega),show (2:Int) ^ min 16 32=65536 from rfl,w32 (by constructor<;>omega)];omega
 have u:IntKind.u32.wrap (IntKind.u32.wrap (j:Int)*2^ min 8 32)=((2^ 8*j:Nat):Int):=by rw [u32n j (by omega),show (2:Int) ^ min 8 32=256 from rfl,w32 (by constructor<;>omega)];omega
 rw [p,r,u,u32n o (by omega),orW (a:=d) (b:=2^ 16*e) (k:=24) (by omega) (by omega),
  show 2^ 24*d+2^ 16*e=2^ 16* (2^ 8*d+e) by omega,orW (a:=2^ 8*d+e) (b:=2^ 8*j) (k:=16) (by omega) (by omega),
  show 2^ 16* (2^ 8*d+e)+2^ 8*j=2^ 8* (2^ 8* (2^ 8*d+e)+j) by omega,orW (a:=2^ 8* (2^ 8*d+e)+j) (b:=o) (k:=8) (by omega) (by omega)]
theorem wrapU(x:Int):IntKind.u32.wrap x=x%4294967296:=rfl
variable {x:Int}
def z2a(h:inW x):xorW 0 x=x:=by unfold xorW;rw [Int.toNat_zero,Nat.zero_xor];omega
def turn2(h:inW x)(a b:Nat)(d:1<=a)(e:a<=31):turnS x [a,b] 2=xorW (rotW a x) (rotW b x):=by show xorW (xorW 0 (rotW a x)) (rotW b x)=_;rw [z2a (q3M d e h)]
def turn3(h:inW x)(a b c:Nat)(d:1<=a)(e:a<=31):turnS x [a,b,c] 3=xorW (xorW (rotW a x) (rotW b x)) (rotW c x):=by show xorW (xorW (xorW 0 (rotW a x)) (rotW b x)) (rotW c x)=_;rw [z2a (q3M d e h)]
variable {y:Int}
theorem sg1U(h:inW y):xorK .u32 (turnS y [17,19] 2) (y.fdiv (2^ min 10 32))=sg1 y:=by have e:y.fdiv (2^ min 10 32)=y / 1024:=fdivW y 1024 (by decide);have a:=q3M (n:=17) (by decide) (by decide) h;have d:=q3M (n:=19) (by decide) (by decide) h;rw [e,turn2 h 17 19 (by decide) (by decide),xor32 (q8Q a d) (by unfold inW at*;omega)];rfl
theorem sg0U(h:inW y):xorK .u32 (turnS y [7,18] 2) (y.fdiv (2^ min 3 32))=sg0 y:=by have e:y.fdiv (2^ min 3 32)=y / 8:=fdivW y 8 (by decide);have a:=q3M (n:=7) (by decide) (by decide) h;have d:=q3M (n:=18) (by decide) (by decide) h;rw [e,turn2 h 7 18 (by decide) (by decide),xor32 (q8Q a d) (by unfold inW at*;omega)];rfl
def schU{u v:Int}(a:inW x)(d:inW y):IntKind.u32.wrap (IntKind.u32.wrap (IntKind.u32.wrap (xorK .u32 (turnS y [17,19] 2) (y.fdiv (2^ min 10 32))+u)+xorK .u32 (turnS x [7,18] 2) (x.fdiv (2^ min 3 32)))+v)=(sg1 y+u+sg0 x+v)%W32:=by rw [sg0U a,sg1U d,wrapU,wrapU,wrapU];unfold W32;omega
def bs1U(h:inW x):turnS x [6,11,25] 3=bs1 x:=turn3 h _ _ _ (by decide) (by decide)
def bs0U(h:inW x):turnS x [2,13,22] 3=bs0 x:=turn3 h _ _ _ (by decide) (by decide)
def notU(h:inW x):IntKind.u32.wrap ↑(BitVec.ofInt 32 (if IntKind.u32.signed=true then -1 else IntKind.u32.max) ^^^ BitVec.ofInt 32 x).toNat=4294967295-x:=by
 have e:BitVec.ofInt 32 (if IntKind.u32.signed=true then -1 else IntKind.u32.max)=BitVec.allOnes 32:=by decide
 obtain ⟨n,rfl⟩:∃n:Nat,x=n:=⟨x.toNat,by omega⟩
 rw [e,BitVec.allOnes_xor,BitVec.toNat_not,AP,AX,AI (by omega),wrapU];omega
theorem j2m(x y z:Int)(a:inW x)(d:inW y)(j:inW z):PC Tryz.prog 300 [.raw (.int .u32 x),.raw (.int .u32 y),.raw (.int .u32 z)] (.raw (.int .u32 (chW x y z))):=by
 have e:inW (4294967295-x):=by omega
 have o:=and32 a d;have r:=and32 e j;have p:=xor32 (q4r a d) (q4r e j);refine q0s rfl rfl ?_;refine rQ fi300 ?_;refine (congrArg (λu=>Value.int IntKind.u32 (xorK IntKind.u32 (andK IntKind.u32 x y) (andK IntKind.u32 u z))) (notU a)).trans ?_;show Value.int IntKind.u32 (xorK IntKind.u32 (andK IntKind.u32 x y) (andK IntKind.u32 (4294967295-x) z))=_;rw [o,r,p];rfl
theorem z7v(a b c:Int)(d:inW a)(e:inW b)(j:inW c):PC Tryz.prog 301 [.raw (.int .u32 a),.raw (.int .u32 b),.raw (.int .u32 c)] (.raw (.int .u32 (majW a b c))):=by have p:=and32 d e;have w:=and32 d j;have r:=and32 e j;have u:=xor32 (q4r d e) (q4r d j);have o:=xor32 (q8Q (q4r d e) (q4r d j)) (q4r e j);refine q0s rfl rfl ?_;refine rQ fi301 ?_;rw [p,w,u,r,o];rfl
theorem j9x(t:Nat):dat_sha_constants.getD t 0=kS t:=rfl
variable {v:List Int}
def t1U{k w:Int}(a:inWs v):IntKind.u32.wrap (IntKind.u32.wrap (IntKind.u32.wrap (IntKind.u32.wrap (v.getD 7 0+turnS (v.getD 4 0) [6,11,25] 3)+chW (v.getD 4 0) (v.getD 5 0) (v.getD 6 0))+k)+w)=t1S k w v%W32:=by rw [bs1U (q1a a 4 (by decide))];simp only [wrapU];unfold t1S W32;omega
theorem t2U(a:inWs v):IntKind.u32.wrap (turnS (v.getD 0 0) [2,13,22] 3+majW (v.getD 0 0) (v.getD 1 0) (v.getD 2 0))=t2S v%W32:=by rw [bs0U (q1a a 0 (by decide))];rfl
def aU(x y:Int):IntKind.u32.wrap (x%W32+y%W32)=(x+y)%W32:=by rw [wrapU];unfold W32;omega
def eU(x y:Int):IntKind.u32.wrap (x+y%W32)=(x+y)%W32:=by rw [wrapU];unfold W32;omega
theorem list8{l:List Int}(h:l.length=8):[l.getD 0 0,l.getD 1 0,l.getD 2 0,l.getD 3 0,l.getD 4 0,l.getD 5 0,l.getD 6 0,l.getD 7 0]=l:=by
 match l,h with
 | [a,b,c,d,e,f,g,i],_=>rfl
variable {b:List UInt8}
def ldW{t:Nat}(d:t<16)(c:Nat->UInt8)(a:∀j,j<4->c j=b.getD (4*t+j) 0):orK .u32 (orK .u32 (orK .u32 (IntKind.u32.wrap (IntKind.u32.wrap ((c 0).toNat:Int)*2^ min 24 32)) (IntKind.u32.wrap (IntKind.u32.wrap ((c 1).toNat:Int)*2^ min 16 32))) (IntKind.u32.wrap (IntKind.u32.wrap ((c 2).toNat:Int)*2^ min 8 32))) (IntKind.u32.wrap ((c 3).toNat:Int))=wS b t:=by rw [or4 c,a 0 (by omega),a 1 (by omega),a 2 (by omega),a 3 (by omega),j5R d];simp only [wdP,byI];omega
def subW{t:Nat}(k:Int)(n:Nat)(e:k=n)(h:n<=t)(ht:t<64):IntKind.i64.wrap ((t:Int) -k)=((t-n:Nat):Int):=by rw [wrapi (by omega)];omega
variable {AQ:Ex->List SV->List SObj->Prop}{k0:Nat}{k:List IT}{t:List SV}{c:IC}
def loopXc[Ghost]{A:SObj}{T:List SObj}(upd:Nat->List (Nat×SV))(Hf:Nat->List SObj)(μ:Nat->Nat)(p:Nat->Prop)(a:Nat)(d:p a)(e:T=Hf a)(j:leM t (setMany (maskT c.wr t) (upd a)))
 (round:∀i,p i->SoundI Tryz.prog AQ ⟨k0,.ic c :: .stop (RoundX (λi=>A :: Hf i) (λi=>setMany (maskT c.wr t) (upd i)) μ p i) :: k,setMany (maskT c.wr t) (upd i),A :: Hf i⟩):SoundI Tryz.prog AQ ⟨k0,.ic (.loop c) :: k,t,A :: T⟩:=
 q0m upd (λi=>A :: Hf i) μ p a d (by rw [e]) j round
def loopGc[Ghost]{A:SObj}{T:List SObj}(upd:Nat->List (Nat×SV))(Hf:Nat->List SObj)(μ:Nat->Nat)(p:Nat->Prop)(a:Nat)(e:p a)(d:k0<=2)(w:∀i,(A :: Hf i).length=2)(r:∀i,belH 2 (A :: Hf i)=true)(o:∀i,((upd i).all λx=>x.2.bel 2)=true)(j:T=Hf a)(u:leM t (setMany (maskT c.wr t) (upd a)))
 (round:∀i,p i->SoundI Tryz.prog AQ ⟨k0,.ic c :: .stop (RoundG (λi=>A :: Hf i) (λi=>setMany (maskT c.wr t) (upd i)) μ p i) :: k,setMany (maskT c.wr t) (upd i),A :: Hf i⟩):SoundI Tryz.prog AQ ⟨k0,.ic (.loop c) :: k,t,A :: T⟩:=
 j2w upd (λi=>A :: Hf i) μ p a e 2 (by rw [j]) d w r o u round
variable {h:List Int}
def loopXr[Ghost]{H:List SObj}(d:blkP b h 0=h)(R:List Int->SObj)(e:H= [R h,.row (.int .u32) (wL b 64)])(a:leM t (setMany (maskT c.wr t) [(186,rI (0:Nat)),(185,.dat (.arr 8 (.int .u32)) (rnds b h 64))]))
 (round:∀i,i<=8->SoundI Tryz.prog AQ ⟨k0,.ic c :: .stop (RoundX (λi=>[R (blkP b h i),.row (.int .u32) (wL b 64)]) (λi:Nat=>setMany (maskT c.wr t) [(186,rI i),(185,.dat (.arr 8 (.int .u32)) (rnds b h 64))]) (λt=>8-t) (λt=>t<=8) i) :: k,setMany (maskT c.wr t) [(186,rI i),(185,.dat (.arr 8 (.int .u32)) (rnds b h 64))],[R (blkP b h i),.row (.int .u32) (wL b 64)]⟩):SoundI Tryz.prog AQ ⟨k0,.ic (.loop c) :: k,t,H⟩:=
 q0m (λi:Nat=>[(186,rI i),(185,.dat (.arr 8 (.int .u32)) (rnds b h 64))]) (λi=>[R (blkP b h i),.row (.int .u32) (wL b 64)]) (λt=>8-t) (λt=>t<=8) 0 (Aj _) (by rw [d];exact e) a round
theorem add5(b:List UInt8)(h:List Int)(hb:b.length=64)(A:inWs h):
 (PE Tryz.prog 292 [.rptr 0 (.int .u32) 0 0,.isl .u8 b] [.row (.int .u32) h] (.ret (.tup [])) [.row (.int .u32) (blkS b h)])/\
 (∀ (r:List UInt8×Int),PE Tryz.prog 292 [.rptr 0 HH 0 0,.isl .u8 b] [.row HH [(h,r)]] (.ret (.tup [])) [.row HH [((blkS b h),r)]])/\
 (∀ (n:Int),PE Tryz.prog 292 [.rptr 0 HH 0 0,.csl 0 .u8 8 0 64] [.row HH [(h,(b,n))]] (.ret (.tup [])) [.row HH [((blkS b h),(b,n))]])/\
 (∀ (p:List UInt8×List UInt8) (r:List UInt8×Int) (rd:Bool),PE Tryz.prog 292 [.rptr 0 MH 0 128,.isl .u8 b] [.row MH [(p,((h,r),rd))]] (.ret (.tup [])) [.row MH [(p,(((blkS b h),r),rd))]])/\
 (∀ (p:List UInt8×List UInt8) (n:Int) (rd:Bool),PE Tryz.prog 292 [.rptr 0 MH 0 128,.csl 0 .u8 136 0 64] [.row MH [(p,((h,(b,n)),rd))]] (.ret (.tup [])) [.row MH [(p,(((blkS b h),(b,n)),rd))]]):=by
 refine ⟨?_,λr=> ?_,λn=> ?_,λp r rd=> ?_,λp n rd=> ?_⟩;all_goals
  refine q0b (Ad _) ?_;refine rQ fi292 ?_;refine loopXc (λt=>[(26,rI t)]) (λt=>[.row (.int .u32) (wL b t)]) (λt=>16-t) (λt=>t<=16) 0 (Aj _) (by rw [j6x];rfl) ?_ ?_
  . with_reducible refine sxE ?_;trivial
  intro t Q;have e:=wsx t (by omega);have d:=j4W b t;by_cases a:t<16
  . have Z:IntKind.i64.wrap (4* (t:Int))=((4*t:Nat):Int):=by rw [wrapi (by omega)];omega
    have Y:IntKind.i64.wrap (((4*t:Nat):Int)+4)=((4*t+4:Nat):Int):=by rw [wrapi (by omega)];omega
    refine gy4 Z Y d Ag ?_;have hdl:(List.drop (4*t) (List.take (4*t+4) b)).length=4:=by rw [Ah,Am];omega
    refine ⟨λ_=> ?_,λh=>absurd h (by omega)⟩;repeat (with_reducible refine And.intro (by first|omega|exact ⟨by omega,by omega,by omega,by omega⟩ |exact ⟨by omega,by omega⟩) ?_)
    refine ⟨t+1,by show t+1<=16;omega,by dsimp only;omega,?_,?_⟩
    . have ho:=ldW a (λj=>(List.drop (4*t) (List.take (4*t+4) b)).getD j Ty.u8.dflt) λj hj=>by rw [Ae,Bt,B9 (by omega),<-Ae];rfl
      have hq:=ldW a (λj=>b.getD (4*t+j) Ty.u8.dflt) λ_ _=>rfl;first
       |rw [ho]
       |rw [hq]
      exact congrArg (λz=>[_,SObj.row (.int .u32) z]) (j5b b (by omega))
    with_reducible refine sx1 e ?_;trivial
  obtain rfl:t=16:=by omega
  refine gy2 d Ag ?_;refine ⟨λh=>absurd h (by omega),λ_=> ?_⟩;refine loopGc (λt=>[(7,rI t)]) (λt=>[.row (.int .u32) (wL b t)]) (λt=>64-t) (λt=>16<=t/\t<=64) 16 (by decide) (by decide) (λ_=>rfl) (λ_=>rfl) (λ_=>rfl) rfl ?_ ?_
  . with_reducible refine sxE ?_
    rfl
  intro t Q;have d:=j4W b t;have e:=wsx t (by omega);by_cases a:t<64
  . have E:=subW (t:=t) 15 15 rfl (by omega) a;have V:=subW (t:=t) 2 2 rfl (by omega) a;have O:=subW (t:=t) 7 7 rfl (by omega) a;have F:=subW (t:=t) 16 16 rfl (by omega) a;have D:=z2U b (t:=t) (j:=t-15) (by omega) (by omega);have R:=z2U b (t:=t) (j:=t-2) (by omega) (by omega);have U:=z2U b (t:=t) (j:=t-7) (by omega) (by omega);have G:=z2U b (t:=t) (j:=t-16) (by omega) (by omega);have C:=z8g b (t-15);have I:=z8g b (t-2);have i7:=z8g b (t-7);have i16:=z8g b (t-16);refine gyd10 E V O F D R U G d Ag ?_;refine ⟨λ_=>⟨⟨by omega,by omega⟩,by omega,⟨by omega,by omega⟩,by omega,⟨by omega,by omega⟩,by omega,⟨by omega,by omega⟩,by omega,q0i (q7k (wS b (t-2)) [17,19] I (by decide) (by decide)) ?_⟩,λh=>absurd a (by omega)⟩;refine gQ ?_;refine q0Y 2 (by decide) ?_;with_reducible refine sxE ?_
    refine q0d (q7k (wS b (t-15)) [7,18] C (by decide) (by decide)) ?_;refine uQ 600 _ ?_;simp (maxSteps:=3000000) only [E,V,O,F,D,R,U,G,d,Ag,Ty.dflt,go_sem,↓zA,↓reduceIte,↓reduceDIte] <;>try simp only [zB]
    repeat (with_reducible refine And.intro (by first|omega|exact ⟨by omega,by omega⟩) ?_)
    refine ⟨t+1,⟨by omega,a⟩,by dsimp only;omega,⟨[.dead],?_⟩,?_⟩
    . rw [schU C I,<-j6z (by omega),j5b b a];rfl
    with_reducible refine sx1 e ?_;trivial
  obtain rfl:t=64:=by omega
  refine gQ ?_;have u:=A.1;refine ⟨λh=>absurd h (by omega),λ_=> ?_⟩;repeat (with_reducible refine And.intro (by omega) ?_)
  refine z0g (t:=.arr 64 (.int .u32)) (x:=dat_sha_constants) (ag:=some 64) (s:=.dat (.arr 64 (.int .u32)) dat_sha_constants) (by unfold datList;repeat (first|exact .head _|apply List.Mem.tail)) rfl (.inr rfl) ?_;refine gQ ?_;refine loopGc (λt=>[(134,rI t),(12,.raw (.int .u32 ((rnds b h t).getD 0 0))),(13,.raw (.int .u32 ((rnds b h t).getD 1 0))),(14,.raw (.int .u32 ((rnds b h t).getD 2 0))),(15,.raw (.int .u32 ((rnds b h t).getD 3 0))),(16,.raw (.int .u32 ((rnds b h t).getD 4 0))),(17,.raw (.int .u32 ((rnds b h t).getD 5 0))),(18,.raw (.int .u32 ((rnds b h t).getD 6 0))),(19,.raw (.int .u32 ((rnds b h t).getD 7 0)))]) (λ_=>[.row (.int .u32) (wL b 64)]) (λt=>64-t) (λt=>t<=64) 0 (Aj _) (by decide) (λ_=>rfl) (λ_=>rfl) (λ_=>rfl) rfl ?_ ?_
  . with_reducible refine sxE ?_
    exact ⟨rfl,rfl,rfl,rfl,rfl,rfl,rfl,rfl⟩
  intro t Q;have e:=wsx t (by omega);by_cases a:t<64
  . have o:=z0V (b:=b) A t;generalize N:rnds b h t=v at*;have W:=q1a o 0 (by decide);have i1:=q1a o 1 (by decide);have I:=q1a o 2 (by decide);have i3:=q1a o 3 (by decide);have X:=q1a o 4 (by decide);have i5:=q1a o 5 (by decide);have i6:=q1a o 6 (by decide);have i7:=q1a o 7 (by decide);refine gyd3 u d Ag ?_;refine ⟨λ_=>⟨⟨by omega,by omega⟩,⟨by omega,by omega⟩,by omega,?_⟩,λh=>absurd a (by omega)⟩;refine q0Y 2 (by decide) ?_;with_reducible refine sxE ?_
    refine q0d (q7k _ [6,11,25] X (by decide) (by decide)) ?_;refine gyd3 u d Ag ?_;refine q0d (j2m _ _ _ X i5 i6) ?_;refine gyd3 u d Ag ?_;refine q0x 3 ?_;with_reducible refine sxE ?_
    refine cyd3 (q7k _ [2,13,22] W (by decide) (by decide)) u d Ag ?_;refine cyd3 (z7v _ _ _ W i1 I) u d Ag ?_;have hr:rnds b h (t+1)=rnd (kS t) (wS b t) v:=by show rnd (kS t) (wS b t) (rnds b h t)=_;rw [N]
    have K:=t1U (k:=kS t) (w:=wS b t) o;have J:=t2U o;refine ⟨t+1,a,by dsimp only;omega,⟨[.dead,.dead],rfl⟩,?_⟩;rw [j9x,z2U b a a,K,J,aU,eU];with_reducible refine sy2 e hr ?_
    exact ⟨rfl,rfl,rfl,rfl,rfl,rfl,rfl,rfl⟩
  obtain rfl:t=64:=by omega
  refine gyd3 u d Ag ?_;refine ⟨λh=>absurd h (by omega),λ_=> ?_⟩;have e8:=list8 (z0V (b:=b) A 64).1;first
   |refine loopXr (q4b b A.1) (λx=>.row (.int .u32) x) rfl ?_ ?_
   |refine loopXr (q4b b A.1) (λx=>.row HH [(x,r)]) rfl ?_ ?_
   |refine loopXr (q4b b A.1) (λx=>.row HH [(x,(b,n))]) rfl ?_ ?_
   |refine loopXr (q4b b A.1) (λx=>.row MH [(p,((x,r),rd))]) rfl ?_ ?_
   |refine loopXr (q4b b A.1) (λx=>.row MH [(p,((x,(b,n)),rd))]) rfl ?_ ?_
  . with_reducible refine sxE ?_
    exact congrArg (SV.dat (.arr 8 (.int .u32))) e8
  intro i hi;have e:=wsx i (by omega);have o:=z0V (b:=b) A 64;have u:=o.1;have B:=j3D b h i;by_cases a:i<8
  . have L:=j3h b h a;refine gyd4 u B Ag AO ?_;refine ⟨λ_=> ?_,λh=>absurd a (by omega)⟩;repeat (with_reducible refine And.intro (by first|omega|exact ⟨by omega,by omega⟩) ?_)
    refine ⟨i+1,a,by dsimp only;omega,?_,?_⟩
    . rw [L,wrapU];show _= [_,_];rw [<-j4u b h a]
    with_reducible refine sx1 e ?_;trivial
  obtain rfl:i=8:=by omega
  refine gyd3 u B Ag ?_;refine ⟨λh=>absurd h (by omega),λ_=> ?_⟩;rw [j2f]
def add_c(b:List UInt8)(h:List Int)(hb:b.length=64)(hh:inWs h):=(add5 b h hb hh).1
def addH_c(b:List UInt8)(r:List UInt8×Int)(h:List Int)(hb:b.length=64)(hh:inWs h):=(add5 b h hb hh).2.1 r
def addR_c(b:List UInt8)(n:Int)(h:List Int)(hb:b.length=64)(hh:inWs h):=(add5 b h hb hh).2.2.1 n
def addM_c(b:List UInt8)(ks:List UInt8×List UInt8)(r:List UInt8×Int)(rd:Bool)(h:List Int)(hb:b.length=64)(hh:inWs h):=(add5 b h hb hh).2.2.2.1 ks r rd
def addN_c(b:List UInt8)(ks:List UInt8×List UInt8)(n:Int)(rd:Bool)(h:List Int)(hb:b.length=64)(hh:inWs h):=(add5 b h hb hh).2.2.2.2 ks n rd
def padT(b:List UInt8)(total:Nat):List UInt8:=padZ b (padN b.length)++lnB8 (8*total) 8
theorem z1u(b:List UInt8)(a:Nat):(padT b a).length=64*blksN b:=by grind [padT,blksN,j3l,j2v,padN]
def blkAt(p:List UInt8)(i:Nat):List UInt8:=(p.take (64*i+64)).drop (64*i)
variable {i:Nat}
theorem z1L{p:List UInt8}{N:Nat}(hp:p.length=64*N)(hi:i<N):(blkAt p i).length=64:=by grind [blkAt]
def vwB(b:List UInt8)(total:Nat):Nat->Nat->List SV->List SObj->Prop:=λi _ args' new=>args'= [.isl .u8 (blkAt (padT b total) i)]/\new= []
theorem j4G(b:List UInt8)(a:Nat)(hb:b.length<=70368744177664):PC Tryz.prog 291 [.isl .u8 b,rI a] (.fn 298 [] [.iptr (.slice .u8) b 0,.iptr (.int .i64) a 0]):=by
 refine q0s rfl rfl ?_;refine q2g fi291 ?_;refine uQ 4 _ ?_;with_reducible refine sxE ?_
 refine q2l 2 0 (ty:=.slice .u8) (x:=b) rfl ⟨by omega,λ_ _=>trivial⟩ rfl rfl ?_;refine q2l 3 1 (ty:=.int .i64) (x:=(a:Int)) rfl trivial rfl rfl ?_;refine gQ ?_;trivial
def endP(r:List UInt8)(total S i:Nat):List UInt8:=(List.range S).map λj=>if j<r.length then r.getD j 0 else if j=r.length then 128 else if S-i<=j then UInt8.ofNat (8*total / 2^ (8* (S-1-j))%256) else 0
theorem q5J(r:List UInt8)(a S i:Nat):(endP r a S i).length=S:=by simp [endP]
variable {S:Nat}
theorem z2A(r:List UInt8)(a:Nat)(h:r.length<S):(splice (List.replicate S 0) 0 r).set r.length 128=endP r a S 0:=by
 apply Av
 . simp [endP,splice];omega
 intro j h1 d;rw [Bf];simp only [endP,AJ,AG];rw [q5J] at d;split
 . simp_all
 rename_i hne;simp only [splice,A7,Ar,Ag];grind
theorem z5q(r:List UInt8)(a:Nat)(h:r.length+9<=S)(hi:i<8):(endP r a S i).set (S-1-i) (UInt8.ofNat (8*a / 2^ (8*i)%256))=endP r a S (i+1):=by
 apply Av
 . simp [endP]
 intro j h1 d;rw [q5J] at d;rw [Bf];simp only [endP,AJ,AG];grind
theorem j1G(b:List UInt8)(a:Nat)(hS:S=64* (blksN b-b.length / 64)):(padT b a).drop (64* (b.length / 64))=endP (b.drop (64* (b.length / 64))) a S 8:=by
 have o:=z1u b a;have hb:blksN b=(b.length+72) / 64:=rfl;apply Av
 . grind [q5J]
 intro j p h2;rw [Ah,o] at p;have e:(b.drop (64* (b.length / 64))).length=b.length%64:=by grind
 have hn:padN b.length=(119-b.length%64)%64:=rfl;rw [B1];simp only [endP,AJ,AG,e];unfold padT padZ;by_cases c1:j<b.length%64
 . grind
 rw [if_neg c1];by_cases c2:j=b.length%64
 . grind
 rw [if_neg c2];by_cases c3:S-8<=j
 . have d:(b++ [128]++List.replicate (padN b.length) (0:UInt8)).length=b.length+1+padN b.length:=by simp;omega
   rw [if_pos c3,Bz (by omega)];simp only [lnB8,AJ,AG,d];grind
 grind
theorem u64i(h:0<=x/\x<18446744073709551616):IntKind.u64.wrap x=x:=by have e:IntKind.u64.wrap x=x%18446744073709551616:=rfl;rw [e];omega
theorem byteQ(n i:Nat)(hi:i<=7):UInt8.ofNat (IntKind.u8.wrap ((n:Int).fdiv (2^ min (8*i) 64))).toNat=UInt8.ofNat (n / 2^ (8*i)%256):=by
 have e:((n:Int).fdiv (2^ (8*i)))=((n / 2^ (8*i):Nat):Int):=by grind
 grind [u8wrapR]
theorem q7E(p:List UInt8)(f k:Nat):blkAt p (f+k)=((p.drop (64*f)).drop (64*k)).take 64:=by grind [blkAt,List.drop_drop,List.drop_take]
theorem j1b(b:List UInt8)(a:Nat)(hi:i<b.length / 64):List.take 64 (b.drop (64*i))=blkAt (padT b a) i:=by grind [blkAt,padT,padZ]
theorem z2h(b:List UInt8)(total:Nat)(hb:b.length<=70368744177664)(ht:total<=70368744177664):Iter Tryz.prog 298 [] [.iptr (.slice .u8) b 0,.iptr (.int .i64) (total:Int) 0] (blksN b) (vwB b total):=by
 refine ⟨by kernel_rfl,λl B J p A=> ?_⟩;refine (q1V (yFG p) fi298 ?_).2;letI:Ghost:=topG (yFG p) [];refine gQ ?_;refine z0Y [] (λi=>i) (λi=>[(4,.isl .u8 (b.drop (64*i)))]) (b.length / 64) (λ_=>True) trivial rfl (by simp) (by simp [SV.bel]) ?_ λi O _=> ?_
 . with_reducible refine sxE ?_;trivial
 have hN:blksN b=(b.length+72) / 64:=rfl;by_cases u:i<b.length / 64
 . refine uQ 600 _ ?_;simp (maxSteps:=3000000) only [Ah,go_sem,↓zA,↓reduceIte,↓reduceDIte] <;>try simp only [zB]
   refine ⟨λ_=>⟨by omega,?_⟩,λh=>absurd h (by omega)⟩;refine q2f [] p A (by omega) (λn=>⟨_,_,⟨by rw [j1b b total u],rfl⟩,q0R rfl⟩) λc=> ?_;cases c
   . refine gQ ?_;exact ⟨_,_,rfl,rfl,by omega⟩
   refine uQ 600 _ ?_;simp (maxSteps:=3000000) only [Ah,go_sem,↓zA,↓reduceIte,↓reduceDIte] <;>try simp only [zB]
   have R:List.drop 64 (List.take (b.length-64*i) (List.drop (64*i) b))=List.drop (64* (i+1)) b:=by rw [Aa (by rw [Ah];omega),A9];congr 1
   refine ⟨⟨by omega,by omega⟩,u,trivial,⟨[],rfl⟩,?_⟩;rw [R];with_reducible refine sxE ?_;trivial
 obtain rfl:i=b.length / 64:=by omega
 refine uQ 600 _ ?_;simp (maxSteps:=3000000) only [Ah,go_sem,↓zA,↓reduceIte,↓reduceDIte] <;>try simp only [zB]
 have z:(b.drop (64* (b.length / 64))).length=b.length%64:=by rw [Ah];omega
 have d:=j1G b total (S:=64* (blksN b-b.length / 64)) rfl;generalize hr:b.drop (64* (b.length / 64))=r at*;have G:b.length-64* (b.length / 64)=b.length%64:=by omega
 rw [G];refine ⟨λh=>absurd h (by omega),λ_=>⟨λQ=> ?_,λQ=> ?_⟩⟩
 . have F:IntKind.i64.wrap (((b.length%64:Nat):Int)+9)=((b.length%64:Nat):Int)+9:=by rw [wrapi (by omega)]
   have L:64* (blksN b-b.length / 64)=128:=by omega
   rw [L] at d;have j:List.take (min (b.length%64) 128) r=r:=Aa (by omega);have I:=z2A r total (S:=128) (by omega);rw [j];repeat (with_reducible refine And.intro (by first|omega|exact ⟨by omega,by omega⟩ |exact ⟨by simp;omega,by decide⟩) ?_)
   refine q0m (ι:=Nat) (λi=>[(32,rI i)]) (λi=>[.mark (b.length / 64),.row .u8 (endP r total 128 i)]) (λi=>8-i) (λi=>i<=8) 0 (Aj _) ?_ ?_ ?_
   . rw [<-I];simp only [splice,A7,Ar,z,Ag];rfl
   . with_reducible refine sxE ?_;trivial
   intro i O;have a:=q5J r total 128 i;have o:=wsx i (by omega);by_cases w:i<8
   . have K:IntKind.i64.wrap (128-1)=127:=by rw [wrapi (by omega)];rfl
     have D:IntKind.i64.wrap (127- (i:Int))=((127-i:Nat):Int):=by rw [wrapi (by omega)];omega
     have N:IntKind.u64.wrap (total:Int)=total:=u64i (by omega);have E:IntKind.u64.wrap ((total:Int)*8)=((8*total:Nat):Int):=by rw [u64i (by omega)];omega
     have C:IntKind.i64.wrap (8* (i:Int))=((8*i:Nat):Int):=by rw [wrapi (by omega)];omega
     refine gy8 K D N E C a Ag Ag ?_;refine ⟨λ_=> ?_,λh=>absurd h (by omega)⟩;repeat (with_reducible refine And.intro (by first|omega|exact ⟨by omega,by omega⟩ |exact ⟨by omega,q3j _⟩) ?_)
     refine ⟨i+1,w,by dsimp only;omega,?_,?_⟩
     . dsimp only;rw [byteQ _ _ (by omega),<-z5q r total (by omega) w]
     with_reducible refine sx1 o ?_;trivial
   obtain rfl:i=8:=by omega
   refine uQ 6 _ ?_;with_reducible refine sy2 a Ag ?_
   refine ⟨λh=>absurd h (by omega),λ_=> ?_⟩;refine uQ 1 _ ?_;with_reducible refine sxE ?_
   refine q1j 1 rfl rfl (by rw [a];decide) ?_ ?_ ?_
   . with_reducible refine sxE ?_;trivial
   . with_reducible refine sxE ?_
     omega
   with_reducible refine sxE ?_
   have e:List.take 128 (endP r total 128 8)=endP r total 128 8:=Aa (by omega);rw [e];refine gy2 a Ag ?_;refine ⟨by omega,?_⟩;refine q2f [.dead] p A (i:=b.length / 64) (by omega) (λn=>⟨_,_,⟨by rw [show blkAt (padT b total) (b.length / 64)=_ from q7E (padT b total) (b.length / 64) 0,d,Ap],rfl⟩,q0R rfl⟩) λc=> ?_;cases c
   . refine gQ ?_;exact ⟨_,_,rfl,rfl,by omega⟩
   refine uQ 600 _ ?_;simp (maxSteps:=3000000) only [a,Ag,go_sem,↓zA,↓reduceIte,↓reduceDIte] <;>try simp only [zB]
   repeat (with_reducible refine And.intro (by first|omega|exact ⟨by omega,by omega⟩) ?_)
   refine q2f [.dead] p A (i:=b.length / 64+1) (by omega) (λn=>⟨_,_,⟨by rw [q7E _ _ 1,d,e,Aa (by rw [Ah];omega)],rfl⟩,q0R rfl⟩) λc=> ?_;cases c
   . refine gQ ?_;exact ⟨_,_,rfl,rfl,by omega⟩
   refine gQ ?_;exact ⟨_,_,rfl,rfl,by omega⟩
 have F:IntKind.i64.wrap (((b.length%64:Nat):Int)+9)=((b.length%64:Nat):Int)+9:=by rw [wrapi (by omega)]
 have L:64* (blksN b-b.length / 64)=64:=by omega
 rw [L] at d;have j:List.take (min (b.length%64) 64) r=r:=Aa (by omega);have I:=z2A r total (S:=64) (by omega);rw [j];repeat (with_reducible refine And.intro (by first|omega|exact ⟨by omega,by omega⟩ |exact ⟨by simp;omega,by decide⟩) ?_)
 refine q0m (ι:=Nat) (λi=>[(32,rI i)]) (λi=>[.mark (b.length / 64),.row .u8 (endP r total 64 i)]) (λi=>8-i) (λi=>i<=8) 0 (Aj _) ?_ ?_ ?_
 . rw [<-I];simp only [splice,A7,Ar,z,Ag];rfl
 . with_reducible refine sxE ?_;trivial
 intro i O;have a:=q5J r total 64 i;have o:=wsx i (by omega);by_cases w:i<8
 . have K:IntKind.i64.wrap (64-1)=63:=by rw [wrapi (by omega)];rfl
   have D:IntKind.i64.wrap (63- (i:Int))=((63-i:Nat):Int):=by rw [wrapi (by omega)];omega
   have N:IntKind.u64.wrap (total:Int)=total:=u64i (by omega);have E:IntKind.u64.wrap ((total:Int)*8)=((8*total:Nat):Int):=by rw [u64i (by omega)];omega
   have C:IntKind.i64.wrap (8* (i:Int))=((8*i:Nat):Int):=by rw [wrapi (by omega)];omega
   refine gy8 K D N E C a Ag Ag ?_;refine ⟨λ_=> ?_,λh=>absurd h (by omega)⟩;repeat (with_reducible refine And.intro (by first|omega|exact ⟨by omega,by omega⟩ |exact ⟨by omega,q3j _⟩) ?_)
   refine ⟨i+1,w,by dsimp only;omega,?_,?_⟩
   . dsimp only;rw [byteQ _ _ (by omega),<-z5q r total (by omega) w]
   with_reducible refine sx1 o ?_;trivial
 obtain rfl:i=8:=by omega
 refine uQ 6 _ ?_;with_reducible refine sy2 a Ag ?_
 refine ⟨λh=>absurd h (by omega),λ_=> ?_⟩;refine uQ 1 _ ?_;with_reducible refine sxE ?_
 refine q1j 1 rfl rfl (by rw [a];decide) ?_ ?_ ?_
 . with_reducible refine sxE ?_;trivial
 . with_reducible refine sxE ?_
   omega
 with_reducible refine sxE ?_
 have e:List.take 64 (endP r total 64 8)=endP r total 64 8:=Aa (by omega);rw [e];refine gy2 a Ag ?_;refine ⟨by omega,?_⟩;refine q2f [.dead] p A (i:=b.length / 64) (by omega) (λn=>⟨_,_,⟨by rw [show blkAt (padT b total) (b.length / 64)=_ from q7E (padT b total) (b.length / 64) 0,d,Ap],rfl⟩,q0R rfl⟩) λc=> ?_;cases c
 . refine gQ ?_;exact ⟨_,_,rfl,rfl,by omega⟩
 refine gQ ?_;exact ⟨_,_,rfl,rfl,by omega⟩
def foldB(h:List Int)(p:List UInt8):Nat->List Int
 |0=>h
 |k+1=>blkS (blkAt p k) (foldB h p k)
theorem q6z(p:List UInt8):∀k,foldB hS0 p k=hashS p k
 |0=>rfl
 |k+1=>by rw [foldB,q6z p k];rfl
def q1w(hh:inWs h)(p:List UInt8):∀k,inWs (foldB h p k)
 |0=>hh
 |_+1=>z3t
def smH(h:List Int)(p:List UInt8)(i:Nat)(H':List SObj):Prop:=∃G,H'= .row .u8 (List.replicate 32 0) :: .row (.int .u32) (foldB h p i) :: G
theorem j9e(b:List UInt8)(p:b.length<=70368744177664):PC Tryz.prog 274 [.isl .u8 b] (.dat (.arr 32 .u8) (shaS b)):=by
 refine q0s rfl rfl (q4o (q1V noFG fi274 ?_));letI:Ghost:=topG noFG [];refine gQ ?_;refine z0g (t:=.arr 8 (.int .u32)) (x:=dat_sha_start) (ag:=some 8) (s:=.dat (.arr 8 (.int .u32)) dat_sha_start) (by unfold datList;repeat (first|exact .head _|apply List.Mem.tail)) rfl (.inr rfl) ?_;refine gQ ?_;refine cQ (j4G b b.length p) ?_;refine z7z (smH hS0 (padS b)) (λ_ _ _=>False) rfl rfl rfl (z2h b b.length p p) (λi n d e h=>by rw [h.1];rfl) ⟨[],rfl⟩ rfl ?_ ?_ ?_
 . rintro i _ d e u ⟨G,rfl⟩ ⟨rfl,rfl⟩ z w;letI:Ghost:=pinG noFG z;rw [Ac];refine uQ 600 _ ?_;simp only [putL,Bn];with_reducible refine sxaE ?_
   letI:Ghost:=pinG noFG w;refine aQ ?_;have a:(blkAt (padT b b.length) i).length=64:=z1L (z1u b b.length) u;refine eQ [1] (add_c (blkAt (padT b b.length) i) _ a (q1w q7b _ i)) ?_;exact ⟨G,rfl⟩
 . rintro D _ ⟨G,rfl⟩;letI:Ghost:=topG noFG [D];have r:=q1w q7b (padS b) (blksN b);have hfl:=r.1;have j:bytesS (foldB hS0 (padS b) (blksN b))=shaS b:=by rw [q6z];rfl
   generalize foldB hS0 (padS b) (blksN b)=h at*;refine gQ ?_;have o:List.take 8 h=h:=Aa (by omega);rw [o];refine ⟨by omega,q0a (z9C h r) ?_⟩;have a:=q1J h;refine gy1 a ?_;rw [j]
 rintro D i ex _ u h;exact h.elim
theorem j0l{p q:List UInt8}(h:64*i+64<=p.length):blkAt (p++q) i=blkAt p i:=by grind [blkAt]
theorem z4m{p q:List UInt8}{c:Nat}(h:p.length=64*c):blkAt (p++q) (c+i)=blkAt q i:=by unfold blkAt;rw [Cn,BV,A0 (by grind),Ar,Am,h];grind
theorem q3w(h:List Int){p q:List UInt8}:∀ {k:Nat},64*k<=p.length->foldB h (p++q) k=foldB h p k
 |0,_=>rfl
 |k+1,hk=>by rw [foldB,foldB,q3w h (by omega),j0l (by omega)]
def q8U(h:List Int){p q:List UInt8}{c:Nat}(a:p.length=64*c):∀k,foldB h (p++q) (c+k)=foldB (foldB h p c) q k
 |0=>by rw [AF,q3w h (by omega)];rfl
 |k+1=>by rw [<-Ax,foldB,foldB,q8U h a k,z4m a]
abbrev HaD:Type:=List Int×List UInt8×Int
structure HRep (m:List UInt8) (x:HaD):Prop where
 n:x.2.2=(m.length:Int)
 rest:x.2.1.length=64
 len:x.1.length=8
 st:m.length≠0->x.1=foldB hS0 m (m.length / 64)
 tail:x.2.1.take (m.length%64)=m.drop (64* (m.length / 64))
theorem j2i:HRep [] (List.replicate 8 0,List.replicate 64 0,0):=⟨rfl,by simp,by simp,λh=>absurd rfl h,by simp⟩
def wrR(m rest b:List UInt8):List UInt8:=
 if m.length%64+b.length<64 then splice rest (m.length%64) b
 else splice (if 0<m.length%64 then splice rest (m.length%64) (b.take (64-m.length%64)) else rest) 0 ((m++b).drop (64* ((m++b).length / 64)))
def wrS(m:List UInt8)(x:HaD)(b:List UInt8):HaD:=(foldB hS0 (m++b) ((m++b).length / 64),wrR m x.2.1 b,((m++b).length:Int))
variable {α:Type}
theorem z6C{xs ys:List α}(h:i+ys.length<=xs.length):(splice xs i ys).length=xs.length:=by simp [splice];omega
theorem z4p{xs ys:List α}(h:i+ys.length<=xs.length):(splice xs i ys).take (i+ys.length)=xs.take i++ys:=by grind [splice]
variable {m:List UInt8}{x:HaD}
theorem z1t(h:HRep m x):HRep (m++b) (wrS m x b):=by
 obtain ⟨h1,h2,h3,h4,h5⟩:=h;have hlen:(m++b).length=m.length+b.length:=Ab;have d:(wrR m x.2.1 b).length=64:=by grind [wrR,z6C]
 refine ⟨rfl,d,(q1w q7b _ _).1,λ_=>rfl,?_⟩;show (wrR m x.2.1 b).take _=_;unfold wrR at d⊢;split
 . grind [z4p]
 rename_i a;rw [if_neg a] at d;have h6:((m++b).drop (64* ((m++b).length / 64))).length=(m++b).length%64:=by grind
 simp_all [splice]
theorem j4E(h:HRep m x)(d:m.length≠0):bytesS (foldB x.1 (padT (x.2.1.take (m.length%64)) m.length) (blksN (x.2.1.take (m.length%64))))=shaS m:=by
 obtain ⟨h1,h2,h3,e,j⟩:=h;rw [e d,j];have a:padS m=m.take (64* (m.length / 64))++padT (m.drop (64* (m.length / 64))) m.length:=by grind [padS,padT,padZ,padN,List.take_append_drop]
 have o:blksN m=m.length / 64+blksN (m.drop (64* (m.length / 64))):=by grind [blksN]
 unfold shaS;rw [<-q6z,a,o,q8U hS0 (by grind)];grind [q3w,List.take_append_drop]
theorem tmod64(n:Nat):((n:Int)).tmod 64=((n%64:Nat):Int):=by rw [Bv (by omega)];rfl
def q7j{rest:List UInt8}(h:m.length%64=0):wrR m rest b=splice rest 0 (b.drop (64* (b.length / 64))):=by
 have a:(m++b).length=m.length+b.length:=Ab;unfold wrR;rw [h];split
 . rw [show 64* (b.length / 64)=0 by omega,Ap]
 rw [if_neg (by omega),a,BV,A0 (by omega),Ar];congr 2;omega
theorem z1O(a:x.1=foldB hS0 m (m.length / 64))(h:m.length%64+b.length<64):(x.1,List.take (m.length%64) x.2.1++b++List.drop (m.length%64+b.length) x.2.1,((m.length+b.length:Nat):Int))=wrS m x b:=by have d:(m++b).length=m.length+b.length:=Ab;unfold wrS wrR;rw [if_pos h,d,show (m.length+b.length) / 64=m.length / 64 by omega,q3w hS0 (by omega),<-a];rfl
def z1P{pre d:List UInt8}{c0:Nat}(hp:pre.length=64*c0)(a:pre++d=m++b):(m++b).drop (64* ((m++b).length / 64))=d.drop (64* (d.length / 64)):=by rw [<-a,Ab,BV,A0 (by omega),Ar];congr 1;omega
theorem q4F{pre d a:List UInt8}{c0:Nat}{j:List Int}(u:pre.length=64*c0)(e:pre++d=m++b)(r:wrR m x.2.1 b=splice a 0 (d.drop (64* (d.length / 64))))(o:j=foldB hS0 pre c0:=by first|rfl|assumption):
 (foldB j d (d.length / 64),List.take 0 a++d.drop (64* (d.length / 64))++List.drop (0+ (d.drop (64* (d.length / 64))).length) a,((m.length+b.length:Nat):Int))=wrS m x b:=by
 have p:(m++b).length=m.length+b.length:=Ab;have w:(m++b).length / 64=c0+d.length / 64:=by rw [<-e,Ab];omega
 unfold wrS;rw [r,w,p,<-e,q8U hS0 u,o];rfl
def z3H(m b:List UInt8)(x:HaD)(O:HRep m x)(hl:m.length+b.length<=70368744177664):PE Tryz.prog 277 [.rptr 0 HH 0 0,.isl .u8 b] [.row HH [x]] (.ret (rI 0)) [.row HH [wrS m x b]]:=by
 obtain ⟨st,rest,n⟩:=x;obtain rfl:n=(m.length:Int):=O.n;have h2:rest.length=64:=O.rest;have h3:st.length=8:=O.len;have X:m.length≠0->st=foldB hS0 m (m.length / 64):=O.st;have Y:rest.take (m.length%64)=m.drop (64* (m.length / 64)):=O.tail;have D:=tmod64 m.length;have F:IntKind.i64.wrap ((m.length:Int)+ (b.length:Int))=((m.length+b.length:Nat):Int):=by rw [wrapi (by omega)];omega
 have hme:(m++b).length=m.length+b.length:=Ab;refine q0b (Ad _) ?_;refine q2g fi277 ?_;by_cases c0:m.length=0
 . have U:m= []:=AH.1 c0;have N:((m.length:Int)=0)=True:=eq_true (by omega);have K:(0< ((m.length%64:Nat):Int))=False:=eq_false (by omega);refine gy1 N ?_;refine z0g (t:=.arr 8 (.int .u32)) (x:=dat_sha_start) (ag:=some 8) (s:=.dat (.arr 8 (.int .u32)) dat_sha_start) (by unfold datList;repeat (first|exact .head _|apply List.Mem.tail)) rfl (.inr rfl) ?_;refine gy3 D F K ?_;have hst1:inWs hS0:=q7b;have e:([]:List UInt8).length=64*0:=rfl;have d:[]++b=m++b:=by rw [U]
   have w:wrR m rest b=splice rest 0 (b.drop (64* (b.length / 64))):=q7j (by omega);refine ⟨by decide,?_⟩;refine q0m (ι:=Nat) (λi=>[(1,.isl .u8 (b.drop (64*i)))]) (λi=>[.row HH [(foldB hS0 b i,(rest,((m.length+b.length:Nat):Int)))]]) (λi=>b.length / 64-i) (λi=>i<=b.length / 64) 0 (Aj _) ?_ ?_ ?_
   . rfl
   . with_reducible refine sxE ?_;trivial
   intro i W;have Q:inWs (foldB hS0 b i):=q1w hst1 _ _;have a:(b.drop (64*i)).length=b.length-64*i:=Ah;by_cases p:i<b.length / 64
   . have o:(List.take 64 (b.drop (64*i))).length=64:=by rw [Am];omega
     have z:List.take 64 (b.drop (64*i))=blkAt b i:=by unfold blkAt;rw [BB];congr 1;omega
     have j:List.drop 64 (List.take (b.length-64*i) (b.drop (64*i)))=b.drop (64* (i+1)):=by rw [Aa (by omega),A9];congr 1
     have B:(64<=((b.length-64*i:Nat):Int))=True:=eq_true (by omega);refine uQ 11 _ ?_;with_reducible refine sy2 a B ?_
     refine q1x [] mixed ?_;refine gQ ?_;refine ⟨by omega,?_⟩;refine q0t [0] (addH_c (List.take 64 (b.drop (64*i))) (rest,((m.length+b.length:Nat):Int)) _ o Q) rfl (by decide) (by repeat first|exact trivial|exact rfl|refine And.intro ?_ ?_) rfl rfl (λ_ h=>by cases h) ?_;simp only [afterR,Out.ren,SV.ren,mgA,sig,SObj.ren,SV.renL,List.set,List.map,Ac];refine gy1 a ?_;rw [j];refine ⟨⟨by omega,by omega⟩,i+1,p,by dsimp only;omega,?_,?_⟩
     . rw [z];rfl
     with_reducible refine sxE ?_;trivial
   obtain rfl:i=b.length / 64:=by omega
   have B:(64<=((b.length-64* (b.length / 64):Nat):Int))=False:=eq_false (by omega);have u:min (b.length-64* (b.length / 64)) 64=b.length-64* (b.length / 64):=by omega
   refine gy3 a B u ?_;rw [Aa (l:=b.drop (64* (b.length / 64))) (by omega)];repeat (with_reducible refine And.intro (by first|omega|exact ⟨by omega,by omega⟩) ?_)
   exact congrArg (λx=>SObj.row HH [x]) (q4F (x:=(st,rest,(m.length:Int))) e d w)

 have N:((m.length:Int)=0)=False:=eq_false (by omega);have I:=X c0;have hst1:inWs st:=I▸q1w q7b _ _;by_cases c1:0<m.length%64
 . have K:(0< ((m.length%64:Nat):Int))=True:=eq_true (by omega);by_cases c2:m.length%64+b.length<64
   . have R:min b.length (64-m.length%64)=b.length:=by omega
     have G:IntKind.i64.wrap (((m.length%64:Nat):Int)+ (b.length:Int))=((m.length%64+b.length:Nat):Int):=by rw [wrapi (by omega)];omega
     have V:(((m.length%64+b.length:Nat):Int) <64)=True:=eq_true (by omega);refine uQ 600 _ ?_;simp (maxSteps:=3000000) only [N,D,F,K,R,G,V,Aw,go_sem,↓zA,↓reduceIte,↓reduceDIte] <;>try simp only [zB]
     repeat (with_reducible refine And.intro (by first|omega|exact ⟨by omega,by omega⟩ |exact ⟨by omega,by omega,by omega⟩) ?_)
     exact congrArg (λx=>SObj.row HH [x]) (z1O (x:=(st,rest,(m.length:Int))) I c2)
   have R:min b.length (64-m.length%64)=64-m.length%64:=by omega
   have G:IntKind.i64.wrap (((m.length%64:Nat):Int)+ ((64-m.length%64:Nat):Int))=((64:Nat):Int):=by rw [wrapi (by omega)];omega
   have C:(List.take (64-m.length%64) b).length=64-m.length%64:=by rw [Am];omega
   have A:m.length%64+ (64-m.length%64)=64:=by omega
   have V:(((64:Nat):Int) <64)=False:=eq_false (by omega);have e:(m++b.take (64-m.length%64)).length=64* (m.length / 64+1):=by rw [Ab,C];omega
   have d:m++b.take (64-m.length%64)++b.drop (64-m.length%64)=m++b:=by rw [List.append_assoc,AE]
   obtain ⟨r,E⟩:∃r,r=(List.take (m.length%64) rest++List.take (64-m.length%64) b++List.drop 64 rest):=⟨_,rfl⟩;have L:r.length=64:=by rw [E,Ab,Ab,C,Am,Ah];omega
   have w:wrR m rest b=splice r 0 ((b.drop (64-m.length%64)).drop (64* ((b.drop (64-m.length%64)).length / 64))):=by unfold wrR;rw [if_neg c2,if_pos c1,E,z1P e d];simp only [splice,C,A]
   have hstD:blkS r st=foldB hS0 (m++b.take (64-m.length%64)) (m.length / 64+1):=by rw [foldB,q3w hS0 (by omega),<-I];congr 1;unfold blkAt;rw [Aa (by omega),Bo (by omega),<-Y,E,show List.drop 64 rest= [] from A0 (by omega),Ac]
   have J:inWs (blkS r st):=z3t;have hbl1:(List.drop (64-m.length%64) b).length=b.length- (64-m.length%64):=Ah;refine uQ 74 _ ?_;simp (maxSteps:=3000000) only [N,D,F,K,R,G,C,A,V,go_sem,↓zA,↓reduceIte,↓reduceDIte] <;>try simp only [zB]
   rw [<-E];refine ⟨by decide,⟨by omega,by omega,by omega⟩,by omega,?_⟩;refine q1x [] mixed ?_;refine gQ ?_;refine ⟨⟨by omega,by omega⟩,?_⟩;refine q0t [0] (addR_c r ((m.length+b.length:Nat):Int) _ L hst1) rfl (by decide) (by repeat first|exact trivial|exact rfl|refine And.intro ?_ ?_) rfl rfl (λ_ h=>by cases h) ?_;simp only [afterR,Out.ren,SV.ren,mgA,sig,SObj.ren,SV.renL,List.set,List.map,Ac];refine gy1 R ?_;rw [Aw];refine ⟨⟨by omega,by omega⟩,?_⟩;replace hst1:=J;refine q0m (ι:=Nat) (λi=>[(1,.isl .u8 ((b.drop (64-m.length%64)).drop (64*i)))]) (λi=>[.row HH [(foldB (blkS r st) (b.drop (64-m.length%64)) i,(r,((m.length+b.length:Nat):Int)))]]) (λi=>(b.drop (64-m.length%64)).length / 64-i) (λi=>i<=(b.drop (64-m.length%64)).length / 64) 0 (Aj _) ?_ ?_ ?_
   . rfl
   . with_reducible refine sxE ?_;trivial
   intro i W;have Q:inWs (foldB (blkS r st) (b.drop (64-m.length%64)) i):=q1w hst1 _ _;have a:((b.drop (64-m.length%64)).drop (64*i)).length=(b.drop (64-m.length%64)).length-64*i:=Ah;by_cases p:i< (b.drop (64-m.length%64)).length / 64
   . have o:(List.take 64 ((b.drop (64-m.length%64)).drop (64*i))).length=64:=by rw [Am];omega
     have z:List.take 64 ((b.drop (64-m.length%64)).drop (64*i))=blkAt (b.drop (64-m.length%64)) i:=by unfold blkAt;rw [BB];congr 1;omega
     have j:List.drop 64 (List.take ((b.drop (64-m.length%64)).length-64*i) ((b.drop (64-m.length%64)).drop (64*i)))=(b.drop (64-m.length%64)).drop (64* (i+1)):=by rw [Aa (by omega),A9];congr 1
     have B:(64<=(((b.drop (64-m.length%64)).length-64*i:Nat):Int))=True:=eq_true (by omega);refine uQ 11 _ ?_;with_reducible refine sy2 a B ?_
     refine q1x [] mixed ?_;refine gQ ?_;refine ⟨by omega,?_⟩;refine q0t [0] (addH_c (List.take 64 ((b.drop (64-m.length%64)).drop (64*i))) (r,((m.length+b.length:Nat):Int)) _ o Q) rfl (by decide) (by repeat first|exact trivial|exact rfl|refine And.intro ?_ ?_) rfl rfl (λ_ h=>by cases h) ?_;simp only [afterR,Out.ren,SV.ren,mgA,sig,SObj.ren,SV.renL,List.set,List.map,Ac];refine gy1 a ?_;rw [j];refine ⟨⟨by omega,by omega⟩,i+1,p,by dsimp only;omega,?_,?_⟩
     . rw [z];rfl
     with_reducible refine sxE ?_;trivial
   obtain rfl:i=(b.drop (64-m.length%64)).length / 64:=by omega
   have B:(64<=(((b.drop (64-m.length%64)).length-64* ((b.drop (64-m.length%64)).length / 64):Nat):Int))=False:=eq_false (by omega);have u:min ((b.drop (64-m.length%64)).length-64* ((b.drop (64-m.length%64)).length / 64)) 64=(b.drop (64-m.length%64)).length-64* ((b.drop (64-m.length%64)).length / 64):=by omega
   refine gy3 a B u ?_;rw [Aa (l:=(b.drop (64-m.length%64)).drop (64* ((b.drop (64-m.length%64)).length / 64))) (by omega)];repeat (with_reducible refine And.intro (by first|omega|exact ⟨by omega,by omega⟩) ?_)
   exact congrArg (λx=>SObj.row HH [x]) (q4F (x:=(st,rest,(m.length:Int))) e d w)

 have K:(0< ((m.length%64:Nat):Int))=False:=eq_false (by omega);refine gy4 N D F K ?_;have e:m.length=64* (m.length / 64):=by omega
 have d:m++b=m++b:=rfl;have w:wrR m rest b=splice rest 0 (b.drop (64* (b.length / 64))):=q7j (by omega);refine ⟨by decide,?_⟩;refine q0m (ι:=Nat) (λi=>[(1,.isl .u8 (b.drop (64*i)))]) (λi=>[.row HH [(foldB st b i,(rest,((m.length+b.length:Nat):Int)))]]) (λi=>b.length / 64-i) (λi=>i<=b.length / 64) 0 (Aj _) ?_ ?_ ?_
 . rfl
 . with_reducible refine sxE ?_;trivial
 intro i W;have Q:inWs (foldB st b i):=q1w hst1 _ _;have a:(b.drop (64*i)).length=b.length-64*i:=Ah;by_cases p:i<b.length / 64
 . have o:(List.take 64 (b.drop (64*i))).length=64:=by rw [Am];omega
   have z:List.take 64 (b.drop (64*i))=blkAt b i:=by unfold blkAt;rw [BB];congr 1;omega
   have j:List.drop 64 (List.take (b.length-64*i) (b.drop (64*i)))=b.drop (64* (i+1)):=by rw [Aa (by omega),A9];congr 1
   have B:(64<=((b.length-64*i:Nat):Int))=True:=eq_true (by omega);refine uQ 11 _ ?_;with_reducible refine sy2 a B ?_
   refine q1x [] mixed ?_;refine gQ ?_;refine ⟨by omega,?_⟩;refine q0t [0] (addH_c (List.take 64 (b.drop (64*i))) (rest,((m.length+b.length:Nat):Int)) _ o Q) rfl (by decide) (by repeat first|exact trivial|exact rfl|refine And.intro ?_ ?_) rfl rfl (λ_ h=>by cases h) ?_;simp only [afterR,Out.ren,SV.ren,mgA,sig,SObj.ren,SV.renL,List.set,List.map,Ac];refine gy1 a ?_;rw [j];refine ⟨⟨by omega,by omega⟩,i+1,p,by dsimp only;omega,?_,?_⟩
   . rw [z];rfl
   with_reducible refine sxE ?_;trivial
 obtain rfl:i=b.length / 64:=by omega
 have B:(64<=((b.length-64* (b.length / 64):Nat):Int))=False:=eq_false (by omega);have u:min (b.length-64* (b.length / 64)) 64=b.length-64* (b.length / 64):=by omega
 refine gy3 a B u ?_;rw [Aa (l:=b.drop (64* (b.length / 64))) (by omega)];repeat (with_reducible refine And.intro (by first|omega|exact ⟨by omega,by omega⟩) ?_)
 exact congrArg (λx=>SObj.row HH [x]) (q4F (x:=(st,rest,(m.length:Int))) e d w)

def j1u(m b:List UInt8)(x:HaD)(j:List UInt8×List UInt8)(rd:Bool)(Q:HRep m x)(hl:m.length+b.length<=70368744177664):PE Tryz.prog 277 [.rptr 0 MH 0 128,.isl .u8 b] [.row MH [(j,(x,rd))]] (.ret (rI 0)) [.row MH [(j,(wrS m x b,rd))]]:=by
 obtain ⟨st,rest,n⟩:=x;obtain rfl:n=(m.length:Int):=Q.n;have h2:rest.length=64:=Q.rest;have h3:st.length=8:=Q.len;have Y:m.length≠0->st=foldB hS0 m (m.length / 64):=Q.st;have Z:rest.take (m.length%64)=m.drop (64* (m.length / 64)):=Q.tail;have E:=tmod64 m.length;have G:IntKind.i64.wrap ((m.length:Int)+ (b.length:Int))=((m.length+b.length:Nat):Int):=by rw [wrapi (by omega)];omega
 have hme:(m++b).length=m.length+b.length:=Ab;refine q0b (Ad _) ?_;refine q2g fi277 ?_;by_cases c0:m.length=0
 . have V:m= []:=AH.1 c0;have O:((m.length:Int)=0)=True:=eq_true (by omega);have L:(0< ((m.length%64:Nat):Int))=False:=eq_false (by omega);refine gy1 O ?_;refine z0g (t:=.arr 8 (.int .u32)) (x:=dat_sha_start) (ag:=some 8) (s:=.dat (.arr 8 (.int .u32)) dat_sha_start) (by unfold datList;repeat (first|exact .head _|apply List.Mem.tail)) rfl (.inr rfl) ?_;refine gy3 E G L ?_;have hst1:inWs hS0:=q7b;have e:([]:List UInt8).length=64*0:=rfl;have d:[]++b=m++b:=by rw [V]
   have z:wrR m rest b=splice rest 0 (b.drop (64* (b.length / 64))):=q7j (by omega);refine ⟨by decide,?_⟩;refine q0m (ι:=Nat) (λi=>[(1,.isl .u8 (b.drop (64*i)))]) (λi=>[.row MH [(j,((foldB hS0 b i,(rest,((m.length+b.length:Nat):Int))),rd))]]) (λi=>b.length / 64-i) (λi=>i<=b.length / 64) 0 (Aj _) ?_ ?_ ?_
   . rfl
   . with_reducible refine sxE ?_;trivial
   intro i X;have R:inWs (foldB hS0 b i):=q1w hst1 _ _;have a:(b.drop (64*i)).length=b.length-64*i:=Ah;by_cases r:i<b.length / 64
   . have p:(List.take 64 (b.drop (64*i))).length=64:=by rw [Am];omega
     have A:List.take 64 (b.drop (64*i))=blkAt b i:=by unfold blkAt;rw [BB];congr 1;omega
     have o:List.drop 64 (List.take (b.length-64*i) (b.drop (64*i)))=b.drop (64* (i+1)):=by rw [Aa (by omega),A9];congr 1
     have C:(64<=((b.length-64*i:Nat):Int))=True:=eq_true (by omega);refine uQ 11 _ ?_;with_reducible refine sy2 a C ?_
     refine q1x [] mixed ?_;refine gQ ?_;refine ⟨by omega,?_⟩;refine q0t [0] (addM_c (List.take 64 (b.drop (64*i))) j (rest,((m.length+b.length:Nat):Int)) rd _ p R) rfl (by decide) (by repeat first|exact trivial|exact rfl|refine And.intro ?_ ?_) rfl rfl (λ_ h=>by cases h) ?_;simp only [afterR,Out.ren,SV.ren,mgA,sig,SObj.ren,SV.renL,List.set,List.map,Ac];refine gy1 a ?_;rw [o];refine ⟨⟨by omega,by omega⟩,i+1,r,by dsimp only;omega,?_,?_⟩
     . rw [A];rfl
     with_reducible refine sxE ?_;trivial
   obtain rfl:i=b.length / 64:=by omega
   have C:(64<=((b.length-64* (b.length / 64):Nat):Int))=False:=eq_false (by omega);have w:min (b.length-64* (b.length / 64)) 64=b.length-64* (b.length / 64):=by omega
   refine gy3 a C w ?_;rw [Aa (l:=b.drop (64* (b.length / 64))) (by omega)];repeat (with_reducible refine And.intro (by first|omega|exact ⟨by omega,by omega⟩) ?_)
   exact congrArg (λx=>SObj.row MH [(j,(x,rd))]) (q4F (x:=(st,rest,(m.length:Int))) e d z)

 have O:((m.length:Int)=0)=False:=eq_false (by omega);have J:=Y c0;have hst1:inWs st:=J▸q1w q7b _ _;by_cases c1:0<m.length%64
 . have L:(0< ((m.length%64:Nat):Int))=True:=eq_true (by omega);by_cases c2:m.length%64+b.length<64
   . have U:min b.length (64-m.length%64)=b.length:=by omega
     have I:IntKind.i64.wrap (((m.length%64:Nat):Int)+ (b.length:Int))=((m.length%64+b.length:Nat):Int):=by rw [wrapi (by omega)];omega
     have W:(((m.length%64+b.length:Nat):Int) <64)=True:=eq_true (by omega);refine uQ 600 _ ?_;simp (maxSteps:=3000000) only [O,E,G,L,U,I,W,Aw,go_sem,↓zA,↓reduceIte,↓reduceDIte] <;>try simp only [zB]
     repeat (with_reducible refine And.intro (by first|omega|exact ⟨by omega,by omega⟩ |exact ⟨by omega,by omega,by omega⟩) ?_)
     exact congrArg (λx=>SObj.row MH [(j,(x,rd))]) (z1O (x:=(st,rest,(m.length:Int))) J c2)
   have U:min b.length (64-m.length%64)=64-m.length%64:=by omega
   have I:IntKind.i64.wrap (((m.length%64:Nat):Int)+ ((64-m.length%64:Nat):Int))=((64:Nat):Int):=by rw [wrapi (by omega)];omega
   have D:(List.take (64-m.length%64) b).length=64-m.length%64:=by rw [Am];omega
   have B:m.length%64+ (64-m.length%64)=64:=by omega
   have W:(((64:Nat):Int) <64)=False:=eq_false (by omega);have e:(m++b.take (64-m.length%64)).length=64* (m.length / 64+1):=by rw [Ab,D];omega
   have d:m++b.take (64-m.length%64)++b.drop (64-m.length%64)=m++b:=by rw [List.append_assoc,AE]
   obtain ⟨u,F⟩:∃u,u=(List.take (m.length%64) rest++List.take (64-m.length%64) b++List.drop 64 rest):=⟨_,rfl⟩;have N:u.length=64:=by rw [F,Ab,Ab,D,Am,Ah];omega
   have z:wrR m rest b=splice u 0 ((b.drop (64-m.length%64)).drop (64* ((b.drop (64-m.length%64)).length / 64))):=by unfold wrR;rw [if_neg c2,if_pos c1,F,z1P e d];simp only [splice,D,B]
   have hstD:blkS u st=foldB hS0 (m++b.take (64-m.length%64)) (m.length / 64+1):=by rw [foldB,q3w hS0 (by omega),<-J];congr 1;unfold blkAt;rw [Aa (by omega),Bo (by omega),<-Z,F,show List.drop 64 rest= [] from A0 (by omega),Ac]
   have K:inWs (blkS u st):=z3t;have hbl1:(List.drop (64-m.length%64) b).length=b.length- (64-m.length%64):=Ah;refine uQ 74 _ ?_;simp (maxSteps:=3000000) only [O,E,G,L,U,I,D,B,W,go_sem,↓zA,↓reduceIte,↓reduceDIte] <;>try simp only [zB]
   rw [<-F];refine ⟨by decide,⟨by omega,by omega,by omega⟩,by omega,?_⟩;refine q1x [] mixed ?_;refine gQ ?_;refine ⟨⟨by omega,by omega⟩,?_⟩;refine q0t [0] (addN_c u j ((m.length+b.length:Nat):Int) rd _ N hst1) rfl (by decide) (by repeat first|exact trivial|exact rfl|refine And.intro ?_ ?_) rfl rfl (λ_ h=>by cases h) ?_;simp only [afterR,Out.ren,SV.ren,mgA,sig,SObj.ren,SV.renL,List.set,List.map,Ac];refine gy1 U ?_;rw [Aw];refine ⟨⟨by omega,by omega⟩,?_⟩;replace hst1:=K;refine q0m (ι:=Nat) (λi=>[(1,.isl .u8 ((b.drop (64-m.length%64)).drop (64*i)))]) (λi=>[.row MH [(j,((foldB (blkS u st) (b.drop (64-m.length%64)) i,(u,((m.length+b.length:Nat):Int))),rd))]]) (λi=>(b.drop (64-m.length%64)).length / 64-i) (λi=>i<=(b.drop (64-m.length%64)).length / 64) 0 (Aj _) ?_ ?_ ?_
   . rfl
   . with_reducible refine sxE ?_;trivial
   intro i X;have R:inWs (foldB (blkS u st) (b.drop (64-m.length%64)) i):=q1w hst1 _ _;have a:((b.drop (64-m.length%64)).drop (64*i)).length=(b.drop (64-m.length%64)).length-64*i:=Ah;by_cases r:i< (b.drop (64-m.length%64)).length / 64
   . have p:(List.take 64 ((b.drop (64-m.length%64)).drop (64*i))).length=64:=by rw [Am];omega
     have A:List.take 64 ((b.drop (64-m.length%64)).drop (64*i))=blkAt (b.drop (64-m.length%64)) i:=by unfold blkAt;rw [BB];congr 1;omega
     have o:List.drop 64 (List.take ((b.drop (64-m.length%64)).length-64*i) ((b.drop (64-m.length%64)).drop (64*i)))=(b.drop (64-m.length%64)).drop (64* (i+1)):=by rw [Aa (by omega),A9];congr 1
     have C:(64<=(((b.drop (64-m.length%64)).length-64*i:Nat):Int))=True:=eq_true (by omega);refine uQ 11 _ ?_;with_reducible refine sy2 a C ?_
     refine q1x [] mixed ?_;refine gQ ?_;refine ⟨by omega,?_⟩;refine q0t [0] (addM_c (List.take 64 ((b.drop (64-m.length%64)).drop (64*i))) j (u,((m.length+b.length:Nat):Int)) rd _ p R) rfl (by decide) (by repeat first|exact trivial|exact rfl|refine And.intro ?_ ?_) rfl rfl (λ_ h=>by cases h) ?_;simp only [afterR,Out.ren,SV.ren,mgA,sig,SObj.ren,SV.renL,List.set,List.map,Ac];refine gy1 a ?_;rw [o];refine ⟨⟨by omega,by omega⟩,i+1,r,by dsimp only;omega,?_,?_⟩
     . rw [A];rfl
     with_reducible refine sxE ?_;trivial
   obtain rfl:i=(b.drop (64-m.length%64)).length / 64:=by omega
   have C:(64<=(((b.drop (64-m.length%64)).length-64* ((b.drop (64-m.length%64)).length / 64):Nat):Int))=False:=eq_false (by omega);have w:min ((b.drop (64-m.length%64)).length-64* ((b.drop (64-m.length%64)).length / 64)) 64=(b.drop (64-m.length%64)).length-64* ((b.drop (64-m.length%64)).length / 64):=by omega
   refine gy3 a C w ?_;rw [Aa (l:=(b.drop (64-m.length%64)).drop (64* ((b.drop (64-m.length%64)).length / 64))) (by omega)];repeat (with_reducible refine And.intro (by first|omega|exact ⟨by omega,by omega⟩) ?_)
   exact congrArg (λx=>SObj.row MH [(j,(x,rd))]) (q4F (x:=(st,rest,(m.length:Int))) e d z)

 have L:(0< ((m.length%64:Nat):Int))=False:=eq_false (by omega);refine gy4 O E G L ?_;have e:m.length=64* (m.length / 64):=by omega
 have d:m++b=m++b:=rfl;have z:wrR m rest b=splice rest 0 (b.drop (64* (b.length / 64))):=q7j (by omega);refine ⟨by decide,?_⟩;refine q0m (ι:=Nat) (λi=>[(1,.isl .u8 (b.drop (64*i)))]) (λi=>[.row MH [(j,((foldB st b i,(rest,((m.length+b.length:Nat):Int))),rd))]]) (λi=>b.length / 64-i) (λi=>i<=b.length / 64) 0 (Aj _) ?_ ?_ ?_
 . rfl
 . with_reducible refine sxE ?_;trivial
 intro i X;have R:inWs (foldB st b i):=q1w hst1 _ _;have a:(b.drop (64*i)).length=b.length-64*i:=Ah;by_cases r:i<b.length / 64
 . have p:(List.take 64 (b.drop (64*i))).length=64:=by rw [Am];omega
   have A:List.take 64 (b.drop (64*i))=blkAt b i:=by unfold blkAt;rw [BB];congr 1;omega
   have o:List.drop 64 (List.take (b.length-64*i) (b.drop (64*i)))=b.drop (64* (i+1)):=by rw [Aa (by omega),A9];congr 1
   have C:(64<=((b.length-64*i:Nat):Int))=True:=eq_true (by omega);refine uQ 11 _ ?_;with_reducible refine sy2 a C ?_
   refine q1x [] mixed ?_;refine gQ ?_;refine ⟨by omega,?_⟩;refine q0t [0] (addM_c (List.take 64 (b.drop (64*i))) j (rest,((m.length+b.length:Nat):Int)) rd _ p R) rfl (by decide) (by repeat first|exact trivial|exact rfl|refine And.intro ?_ ?_) rfl rfl (λ_ h=>by cases h) ?_;simp only [afterR,Out.ren,SV.ren,mgA,sig,SObj.ren,SV.renL,List.set,List.map,Ac];refine gy1 a ?_;rw [o];refine ⟨⟨by omega,by omega⟩,i+1,r,by dsimp only;omega,?_,?_⟩
   . rw [A];rfl
   with_reducible refine sxE ?_;trivial
 obtain rfl:i=b.length / 64:=by omega
 have C:(64<=((b.length-64* (b.length / 64):Nat):Int))=False:=eq_false (by omega);have w:min (b.length-64* (b.length / 64)) 64=b.length-64* (b.length / 64):=by omega
 refine gy3 a C w ?_;rw [Aa (l:=b.drop (64* (b.length / 64))) (by omega)];repeat (with_reducible refine And.intro (by first|omega|exact ⟨by omega,by omega⟩) ?_)
 exact congrArg (λx=>SObj.row MH [(j,(x,rd))]) (q4F (x:=(st,rest,(m.length:Int))) e d z)

theorem j5s(m:List UInt8)(x:HaD)(o:HRep m x)(J:m.length<=70368744177664):PC Tryz.prog 279 [.iptr HH x 0] (.dat (.arr 32 .u8) (shaS m)):=by
 have u:=j4E o;obtain ⟨st,rest,n⟩:=x;obtain rfl:n=(m.length:Int):=o.n;have h2:rest.length=64:=o.rest;have K:st.length=8:=o.len;have I:m.length≠0->st=foldB hS0 m (m.length / 64):=o.st;have A:=tmod64 m.length;refine q0s rfl rfl (q4o (q1V noFG fi279 ?_));letI:Ghost:=topG noFG [];by_cases c0:m.length=0
 . have w:m= []:=AH.1 c0;have z:((m.length:Int)=0)=True:=eq_true (by omega);refine gy1 z ?_;refine q0a ((j9e [] (by simp)).arg ?_) ?_
   . with_reducible refine sxE ?_;trivial
   have a:(shaS []).length=32:=q1J _;refine gy1 a ?_;rw [w]
 have z:((m.length:Int)=0)=False:=eq_false (by omega);have e:inWs st:=(I c0)▸q1w q7b _ _;refine gy2 z A ?_;rw [CC];refine ⟨by decide,⟨by omega,by omega,by omega⟩,?_⟩;have j:(List.take (m.length%64) rest).length<=70368744177664:=by rw [Am];omega
 have C:bytesS (foldB st (padT (List.take (m.length%64) rest) m.length) (blksN (List.take (m.length%64) rest)))=shaS m:=u c0;generalize List.take (m.length%64) rest=r at*;refine cR (j4G r m.length j) ?_;refine z7z (smH st (padT r m.length)) (λ_ _ _=>False) rfl rfl rfl (z2h r m.length j J) (λi n d B h=>by rw [h.1];rfl) ⟨[],?_⟩ rfl ?_ ?_ ?_
 . rw [K,show List.drop (0+8) _=([]:List Int) from rfl,Ac];rfl
 . rintro i _ d B E ⟨G,rfl⟩ ⟨rfl,rfl⟩ N L;letI:Ghost:=pinG noFG N;rw [Ac];refine uQ 600 _ ?_;simp only [putL,Bn];with_reducible refine sxaE ?_
   letI:Ghost:=pinG noFG L;refine aQ ?_;have a:(blkAt (padT r m.length) i).length=64:=z1L (z1u r m.length) E;refine eQ [1] (add_c (blkAt (padT r m.length) i) _ a (q1w e _ i)) ?_;exact ⟨G,rfl⟩
 . rintro D _ ⟨G,rfl⟩;letI:Ghost:=topG noFG [D];have F:=q1w e (padT r m.length) (blksN r);have hfl:=F.1;generalize foldB st (padT r m.length) (blksN r)=h at*;refine gQ ?_;have p:List.take 8 h=h:=Aa (by omega);rw [p];refine ⟨by omega,q0a (z9C h F) ?_⟩;have a:=q1J h;refine gy1 a ?_;rw [C]
 rintro D i ex _ E h;exact h.elim
variable {h n:Nat}
def z7E{k N:Nat}{t e:Ty}{x:t.den}{ys:List e.den}(d:t.arrAt x k=some ⟨e,N,ys⟩)(a:t≠e)(hn:n=N)(hl:ys.length=n)(j:n<=1125899906842624):Bor h t [x] (.csl h e k 0 n) (.isl e ys):=by refine .csl (p:=0+n<=N) ?_ (by omega) j;simp only [ownPart];rw [dif_neg a];simp only [d,dite_true,cast_eq,Ap];rw [Aa (by omega)]
def j5Y{t:Ty}{xs:List t.den}(hl:xs.length=n):Bor h t xs (.osl h t 0 n) (.isl t xs):=by have:=Bor.osl (h:=h) (t:=t) (xs:=xs) (off:=0) (n:=n) (by omega);rwa [Ap,Aa (by omega)] at this
theorem z5B{xs:List UInt8}(a:xs.length=n)(d:0<n):Bor h .u8 xs (.rptr h .u8 0 0) (.iptr (.arr n .u8) xs 0):=by subst a;exact .ptr (.inr ⟨rfl,rfl,rfl,d,.rfl⟩)
theorem j3M{t:Ty}{x:t.den}(a:t.get x 0 t.size=some ⟨t,x⟩):Bor h t [x] (.rptr h t 0 0) (.iptr t x 0):=.ptr (.inl ⟨x,rfl,by rw [BU];exact a⟩)
theorem j4V(w:List UInt8)(c:UInt8)(_hw:w.length=64):PC Tryz.prog 275 [.raw (.int .u8 c.toNat),.iptr (.arr 64 .u8) w 0] (.dat (.arr 64 .u8) (hkP w c 64)):=by
 refine q0s rfl rfl ?_;refine rQ fi275 ?_;refine q0m (ι:=Nat) (λi=>[(7,rI i)]) (λi=>[.row .u8 (hkP w c i)]) (λi=>64-i) (λi=>i<=64) 0 (Aj _) (by rw [j2H];first|done|rfl) ?_ ?_
 . with_reducible refine sxE ?_;trivial
 intro i hi;have o:=wsx i (by omega);have d:=z1y w c i;by_cases a:i<64
 . have j:=xor8 (w.getD i 0) c;refine gyd3 d j Ag ?_;refine ⟨λ_=>⟨⟨by omega,a⟩,⟨by omega,a⟩,⟨a,by rw [UInt8.ofNat_toNat]⟩,i+1,a,by dsimp only;omega,?_,?_⟩,λh=>absurd h (by omega)⟩
   . rw [AS,j7o w c a]
   with_reducible refine sx1 o ?_;trivial
 obtain rfl:i=64:=by omega
 refine gy2 d Ag ?_;refine ⟨λh=>absurd h (by omega),λ_=> ?_⟩;have e:List.take 64 (hkP w c 64)++List.drop (List.take 64 (hkP w c 64)).length (hkP w c 64)=hkP w c 64:=by rw [Aa (by omega),d,A0 (by omega),Ac]
 rw [e,if_pos d];exact ⟨_,rfl,rfl⟩
def hz0:HaD:=(List.replicate 8 0,List.replicate 64 0,0)
def z1o:HRep [] hz0:=j2i
def j7p(o i:List UInt8)(x:HaD)(rd:Bool)(a:i.length=64):PE Tryz.prog 276 [.rptr 0 MH 0 0] [.row MH [((o,i),(x,rd))]] (.ret (.dat HH (wrS [] hz0 i))) [.row MH [((o,i),(x,rd))]]:=by refine q0b (Ad _) ?_;refine rQ fi276 ?_;refine ⟨⟨by decide,by decide⟩,?_⟩;refine q0j [1,0] (z4t (t:=MH) (xs:=[((o,i),(x,rd))]) (z3H [] i hz0 z1o (by simp;omega)) rfl rfl rfl rfl (by simp) (.cons (.keep rfl) (.cons (z7E rfl (by decide) rfl a (by decide)) .nil))) rfl (by decide) (by repeat first|exact trivial|exact rfl|refine And.intro ?_ ?_) rfl rfl ?_;simp only [afterO,Out.ren,SV.ren,mgA,sig,SObj.ren,SV.renL,List.set,List.map,Ac,Ay,Ar];refine gQ ?_;trivial
theorem j3v(o i d:List UInt8)(x:HaD)(rd:Bool)(w:o.length=64)(u:d.length=32):PE Tryz.prog 278 [.rptr 0 MH 0 0,.dat (.arr 32 .u8) d] [.row MH [((o,i),(x,rd))]] (.ret (.dat (.arr 32 .u8) (shaS (o++d)))) [.row MH [((o,i),(x,rd))]]:=by refine q0b (Ad _) ?_;refine rQ fi278 ?_;refine ⟨⟨by decide,by decide⟩,?_⟩;refine q0j [3,0] (z4t (t:=MH) (xs:=[((o,i),(x,rd))]) (z3H [] o hz0 z1o (by simp;omega)) rfl rfl rfl rfl (by simp) (.cons (.keep rfl) (.cons (z7E rfl (by decide) rfl w (by decide)) .nil))) rfl (by decide) (by repeat first|exact trivial|exact rfl|refine And.intro ?_ ?_) rfl rfl ?_;simp only [afterO,Out.ren,SV.ren,mgA,sig,SObj.ren,SV.renL,List.set,List.map,Ac,Ay,Ar];have a:HRep o (wrS [] hz0 o):=z1t z1o;have j:HRep (o++d) (wrS o (wrS [] hz0 o) d):=z1t a;generalize wrS [] hz0 o=r at*;generalize z:wrS o r d=y at*;have p:=z▸z3H o d r a (by omega);refine gQ ?_;refine ⟨⟨by decide,by decide⟩,?_⟩;refine q0j [3,1] (z4t (t:=.u8) (xs:=d) p (by simp only [As,BH]) rfl rfl rfl (by omega) (.cons (.keep rfl) (.cons (j5Y u) .nil))) rfl (by decide) (by repeat first|exact trivial|exact rfl|refine And.intro ?_ ?_) rfl rfl ?_;simp only [afterO,Out.ren,SV.ren,mgA,sig,SObj.ren,SV.renL,List.set,List.map,Ac,Ay,Ar];refine gQ ?_;refine q0j [3] (q7q (t:=HH) (xs:=[y]) (j5s (o++d) y j (by simp;omega)) rfl (by simp) (.cons (j3M rfl) .nil)) rfl (by decide) (by repeat first|exact trivial|exact rfl|refine And.intro ?_ ?_) rfl rfl ?_;simp only [afterO,Out.ren,SV.ren,mgA,sig,SObj.ren,SV.renL,List.set,List.map,Ac,Ay,Ar];have e:(shaS (o++d)).length=32:=q1J _;refine gy1 e ?_;trivial
def padK(k:List UInt8):List UInt8:=hkC k++List.replicate (64- (hkC k).length) 0
def j5C(k:List UInt8):(hkC k).length<=64:=by
 unfold hkC;split
 . have:(shaS k).length=32:=q1J _;omega
 omega
def j4l(k:List UInt8):(padK k).length=64:=by have:=j5C k;unfold padK;rw [Ab,BQ];omega
theorem z7G(k:List UInt8)(c:UInt8):hkP (padK k) c 64=hkS k c:=by
 unfold hkS hkP;apply Bg;intro i d;have a:i<64:=BN.1 d;rw [if_pos a,if_pos a];congr 1;unfold padK;rw [Ae,Ae];rcases AL i (hkC k).length with h|h
 . rw [Az h]
 rw [AW h,List.getElem?_eq_none h,List.getElem?_replicate];split<;>rfl
def macI(k:List UInt8):(List UInt8×List UInt8)×(HaD×Bool):=((hkS k 92,hkS k 54),(wrS [] hz0 (hkS k 54),true))
theorem j7B{ty:Ty}{x:ty.den}{v:Value}{H':List SObj}(hH:H'[h]?=some (.row ty [x])):Weak 0 (λo' H''=>o'= .ret (.tup [.rptr 0 ty 0 0,.raw v])/\H''= [.row ty [x]]) (.ret (.tup [.rptr h ty 0 0,.raw v])) H':=
 ⟨λ_=>h,.tup [.rptr 0 ty 0 0,.raw v],.tup [.rptr 0 ty 0 0,.raw v],[.row ty [x]],⟨⟨rfl,trivial⟩,⟨hH,trivial⟩,rfl,rfl,rfl,rfl,Aj _,λ_ h0=>absurd h0 (B0 0)⟩,.inl (.inl rfl),⟨rfl,rfl⟩⟩
abbrev HTT:Ty:=HH 
abbrev MTT:Ty:=MH 
theorem j9P(k:List UInt8)(hk:k.length<=64):PE Tryz.prog 251 [.isl .u8 k] [] (.ret (.tup [.rptr 0 MH 0 0,rI 0])) [.row MH [macI k]]:=by
 have c1:(4096< (k.length:Int))=False:=eq_false (by omega);have c2:(64< (k.length:Int))=False:=eq_false (by omega);have j:hkC k=k:=if_neg (by omega);have o:min k.length 64=k.length:=by omega
 have d:=j4l k;refine j1E ?_;refine q2g fi251 ?_;refine uQ 600 _ ?_;simp (maxSteps:=3000000) only [c1,c2,o,Aw,go_sem,↓zA,↓reduceIte,↓reduceDIte] <;>try simp only [zB]
 have e:∀l,l=List.replicate 64 (0:UInt8)->k++List.drop (0+k.length) l=padK k:=λl p=>by subst p;unfold padK;rw [j,Ag,List.drop_replicate]
 rw [e]
 case a=>rfl
 refine ⟨⟨by decide,by decide⟩,by omega,?_⟩;refine q0j [0] (q7q (t:=.u8) (xs:=padK k) (j4V (padK k) 92 d) rfl (by omega) (.cons (.keep rfl) (.cons (z5B d (by decide)) .nil))) rfl (by decide) (by repeat first|exact trivial|exact rfl|refine And.intro ?_ ?_) rfl rfl ?_;simp only [afterO,Out.ren,SV.ren,mgA,sig,SObj.ren,SV.renL,List.set,List.map,Ac,Ay,Ar];refine gQ ?_;refine q0j [0] (q7q (t:=.u8) (xs:=padK k) (j4V (padK k) 54 d) rfl (by omega) (.cons (.keep rfl) (.cons (z5B d (by decide)) .nil))) rfl (by decide) (by repeat first|exact trivial|exact rfl|refine And.intro ?_ ?_) rfl rfl ?_;simp only [afterO,Out.ren,SV.ren,mgA,sig,SObj.ren,SV.renL,List.set,List.map,Ac,Ay,Ar];rw [z7G,z7G];refine gQ ?_;refine eQ [1] (j7p (hkS k 92) (hkS k 54) _ true (z1y _ _ _)) ?_;exact j7B rfl
def j2C(m b:List UInt8)(a:List UInt8×List UInt8)(x:HaD)(e:HRep m x)(d:m.length+b.length<=70368744177664):PE Tryz.prog 252 [.rptr 0 MH 0 0,.isl .u8 b] [.row MH [(a,(x,true))]] (.ret (rI 0)) [.row MH [(a,(wrS m x b,true))]]:=by refine q0b (Ad _) ?_;refine rQ fi252 ?_;refine eQ [0] (j1u m b x a true e d) ?_;trivial
def j9U(m:List UInt8)(o i:List UInt8)(x:HaD)(u:HRep m x)(p:m.length<=70368744177664)(j:o.length=64):PE Tryz.prog 253 [.rptr 0 MH 0 0] [.row MH [((o,i),(x,true))]] (.ret (.tup [.dat (.arr 32 .u8) (shaS (o++shaS m)),rI 0])) [.row MH [((o,i),(x,true))]]:=by
 have a:(shaS m).length=32:=q1J _;have d:(shaS (o++shaS m)).length=32:=q1J _;have r:RLies MTT [((o,i),(x,true))] (0*MTT.size+128) HTT x:=.inl ⟨_,rfl,rfl⟩;refine q0b (Ad _) ?_;refine q2g fi253 ?_;refine uQ 21 _ ?_;with_reducible refine sxE ?_
 refine q1x [0] mixed ?_;refine gQ ?_;refine q0t [0] (q7q (t:=MTT) (xs:=[((o,i),(x,true))]) (j5s m x u p) rfl (by simp) (.cons (.ptr r) .nil)) rfl (by decide) (by repeat first|exact trivial|exact rfl|refine And.intro ?_ ?_) rfl rfl (λh e=> ?_) ?_
 . obtain rfl:h=0:=by simpa using e
   rfl
 simp only [afterR,Out.ren,SV.ren,mgA,sig,SObj.ren,SV.renL,List.set,List.map,Ac,Ay,Ar];refine gy1 a ?_;refine q0t [0] (j3v o i (shaS m) x true j a) rfl (by decide) (by repeat first|exact trivial|exact rfl|refine And.intro ?_ ?_) rfl rfl (λh e=> ?_) ?_
 . obtain rfl:h=0:=by simpa using e
   rfl
 simp only [afterR,Out.ren,SV.ren,mgA,sig,SObj.ren,SV.renL,List.set,List.map,Ac,Ay,Ar];refine gy1 d ?_;trivial
def hmS(k b:List UInt8):List UInt8:=shaS (hkS k 92++shaS (hkS k 54++b))
def q6E(k b:List UInt8):(hmS k b).length=32:=q1J _
def mWr(k:List UInt8)(ps:List (List UInt8)):Nat->HaD
 |0=>wrS [] hz0 (hkS k 54)
 |i+1=>wrS (hkS k 54++(ps.take i).flatten) (mWr k ps i) (ps.getD i [])
theorem q5P{ps:List (List UInt8)}(h:i<ps.length):(ps.take (i+1)).flatten=(ps.take i).flatten++ps.getD i []:=by rw [List.take_succ_eq_append_getElem h,Bw,Cj,Ae,Af h];rfl
def j1a(k:List UInt8)(ps:List (List UInt8)):∀i,i<=ps.length->HRep (hkS k 54++(ps.take i).flatten) (mWr k ps i)
 |0,_=>by have:=z1t (b:=hkS k 54) z1o;simpa [mWr] using this
 |i+1,hi=>by have:=z1t (b:=ps.getD i []) (j1a k ps i (by omega));rw [List.append_assoc,<-q5P (by omega)] at this;exact this
def q2w:∀ (ps:List (List UInt8)) (i:Nat),(ps.take i).flatten.length<=ps.flatten.length
 | [],i=>by simp
 |p :: ps,0=>by simp
 |p :: ps,i+1=>by simp only [Bx,Ak,Ab];have:=q2w ps i;omega
theorem j5e(k:List UInt8)(ps:List (List UInt8))(r:k.length<=64)(hp:ps.flatten.length<=1099511627776)(hpl:ps.length<=1099511627776):PC Tryz.prog 233 [.isl .u8 k,.isl (.slice .u8) ps] (.tup [.dat (.arr 32 .u8) (hmS k ps.flatten),rI 0]):=by
 refine q0s rfl rfl ?_;refine q2g fi233 ?_;refine gQ ?_;refine eQ [] (j9P k r) ?_;refine q0m (ι:=Nat) (λi=>[(21,rI i)]) (λi=>[.row .u8 (List.replicate 32 0),.row MH [((hkS k 92,hkS k 54),(mWr k ps i,true))]]) (λi=>ps.length-i) (λi=>i<=ps.length) 0 (Aj _) rfl ?_ ?_
 . with_reducible refine sxE ?_;trivial
 intro i u;have a:=j1a k ps i u;have p:=wsx i (by omega);have hfl:=q2w ps i;have hil:(hkS k 54).length=64:=z1y _ _ _;by_cases h:i<ps.length
 . have j:=q5P h;have d:=q2w ps (i+1);rw [j,Ab] at d;refine gQ ?_;refine ⟨λ_=>⟨⟨by omega,h⟩,?_⟩,λo=>absurd h o⟩;refine eQ [1] (j2C (hkS k 54++(ps.take i).flatten) (ps.getD i []) (hkS k 92,hkS k 54) _ a (by rw [Ab];omega)) ?_;refine ⟨i+1,h,by dsimp only;omega,rfl,?_⟩;with_reducible refine sx1 p ?_;trivial
 obtain rfl:i=ps.length:=by omega
 rw [Aw] at a;have e:(shaS (hkS k 92++shaS (hkS k 54++ps.flatten))).length=32:=q1J _;refine gQ ?_;refine ⟨λo=>absurd o (by omega),λ_=> ?_⟩;refine q0j [1] (j9U (hkS k 54++ps.flatten) (hkS k 92) (hkS k 54) _ a (by rw [Ab];omega) (z1y _ _ _)) rfl (by decide) (by repeat first|exact trivial|exact rfl|refine And.intro ?_ ?_) rfl rfl ?_;simp only [afterO,Out.ren,SV.ren,mgA,sig,SObj.ren,SV.renL,List.set,List.map,Ac,e];refine gy1 e ?_;rfl
def four(n:Nat):List UInt8:=[UInt8.ofNat (n / 2^ 24%256),UInt8.ofNat (n / 2^ 16%256),UInt8.ofNat (n / 2^ 8%256),UInt8.ofNat (n / 2^ 0%256)]
theorem j3q(n:Nat):(four n).length=4:=rfl
theorem byteN(n m:Nat)(hm:m<=64):UInt8.ofNat (IntKind.u8.wrap ((n:Int).fdiv (2^ min m 64))).toNat=UInt8.ofNat (n / 2^ m%256):=by grind [u8wrapR]
def byteN0(n:Nat):UInt8.ofNat (IntKind.u8.wrap (n:Int)).toNat=UInt8.ofNat (n / 2^ 0%256):=by rw [Nat.pow_zero,Nat.div_one,u8wrapR];congr 1
theorem j4Q(n:Nat):PC Tryz.prog 234 [rI n] (.isl .u8 (four n)):=by refine q0g rfl rfl ?_;refine rQ fi234 ?_;refine ⟨⟨q3j _,q3j _,q3j _,q3j _⟩,?_⟩;rw [byteN _ 24 (by decide),byteN _ 16 (by decide),byteN _ 8 (by decide),byteN0];rfl
def j7V(n:Nat)(a:List (List UInt8))(h1:1<=n)(h2:n<=1024)(o:∀l∈a,l.length<=4096)(hn:a.length<=100):PC Tryz.prog 214 [rI n,.isl (.slice .u8) a] (rB true):=by
 refine q0s rfl rfl ?_;refine rQ fi214 ?_;refine q0m (ι:=Nat) (λi=>[(9,rI i)]) (λi=>[]) (λi=>a.length-i) (λi=>i<=a.length) 0 (Aj _) rfl ?_ ?_
 . with_reducible refine sxE ?_;trivial
 intro i hi;have j:=wsx i (by omega);by_cases h:i<a.length
 . have hli:(a.getD i []).length<=4096:=by rw [Ae,Af h];exact o _ (Bl _)
   have e:(4096< (((a.getD i (Ty.dflt (.slice .u8))).length:Nat):Int))=False:=eq_false (by show ¬(4096< (((a.getD i []).length:Nat):Int));omega);refine gy1 e ?_;refine ⟨λ_=>⟨⟨by omega,h⟩,i+1,h,by dsimp only;omega,rfl,?_⟩,λd=>absurd h d⟩;with_reducible refine sx1 j ?_;trivial
 obtain rfl:i=a.length:=by omega
 refine gQ ?_;exact ⟨λd=>absurd d (by omega),λ_=>⟨λ_=>by omega,λd=>absurd d (by omega)⟩⟩
abbrev derT:Ty:=.prod (.slice .u8) (.prod (.slice .u8) (.prod (.slice .u8) (.int .i64)))
def kblk(key label ctx:List UInt8)(n i:Nat):List UInt8:=hmS key (four i++label++ [0]++ctx++four (8*n))
def q7A(key label ctx:List UInt8)(n i:Nat):(kblk key label ctx n i).length=32:=q6E _ _
theorem j3A(key a d:List UInt8)(n i:Nat)(w:key.length<=64)(hl:a.length<=4096)(hc:d.length<=4096)(hn:n<=1024)(hi:i<=1000000):PC Tryz.prog 217 [.agg [.isl .u8 key,.isl .u8 a,.isl .u8 d,rI n],rI i] (.dat (.arr 32 .u8) (kblk key a d n i)):=by
 have u:IntKind.i64.wrap (8* (n:Int))=((8*n:Nat):Int):=by grind [wrapi]
 refine q0s rfl rfl ?_;refine ry1 fi217 u ?_;refine q0i (j4Q i) ?_;refine gQ ?_;refine q0i (j4Q (8*n)) ?_;refine gQ ?_;have o:[four i,a,[UInt8.ofNat 0],d,four (8*n)].flatten=four i++a++ [0]++d++four (8*n):=by simp
 have j:[four i,a,[UInt8.ofNat 0],d,four (8*n)].flatten.length<=1099511627776:=by grind [j3q]
 have e:=j5e key [four i,a,[UInt8.ofNat 0],d,four (8*n)] w j (by simp);rw [o] at e;have p:=q7A key a d n i;change PC _ _ _ (.tup [.dat (.arr 32 .u8) (kblk key a d n i),_]) at e;generalize kblk key a d n i=kb at*;refine ⟨by decide,q0i e ?_⟩;have r:List.take 32 kb=kb:=Aa (by omega);refine gy2 p r ?_;trivial
set_option maxHeartbeats 4000000
def allN(n:Nat)(q:Nat->Bool):Bool:=(List.range n).all q
variable {q:Nat->Bool}
theorem q2H:allN n q=true ↔ ∀j,j<n->q j=true:=by simp [allN]
theorem q0u(h:i<n)(hq:q i=false):allN n q=false:=by rw [Bool.eq_false_iff];grind [q2H]
theorem q0v(h:∀j,j<n->q j=true):allN n q=true:=q2H.2 h
@[go_sem] def fnV(f:Nat):Value:=.func (.func f) #[] #[]
def name1:ByteArray:=⟨#[97,101,115,49,50,56,45,99,116,115,45,104,109,97,99,45,115,104,97,50,53,54,45,49,50,56]⟩
def name2:ByteArray:=⟨#[115,116,114,101,97,109,45,104,109,97,99,45,115,104,97,50,53,54,45,50,53,54]⟩
def kind1:List Value:=[.string name1,.int .i64 16,.int .i64 16,.int .i64 16,.int .i64 16,fnV 206,fnV 207,fnV 208]
attribute [go_sem] kind1
def kind2:List Value:=[.string name2,.int .i64 32,.int .i64 16,.int .i64 32,.int .i64 32,fnV 209,fnV 210,fnV 211]
attribute [go_sem] kind2
abbrev kindsM:SV:=.imap (some .i64) [.int .i64 1,.int .i64 2] [.agg kind1.toArray,.agg kind2.toArray]

theorem j7Y:PC Tryz.prog 180 [] kindsM:=by refine q0s rfl rfl (j7n ?_);refine rQ fi180 ?_;exact ⟨_,_,[.agg kind1.toArray,.agg kind2.toArray],[],rfl,rfl⟩

def keyLen(p:Int):Int:=if p=1 then 16 else if p=2 then 32 else 0
def kindZ:List Value:=[.string ⟨#[]⟩,.int .i64 0,.int .i64 0,.int .i64 0,.int .i64 0,.nilFunc,.nilFunc,.nilFunc]
attribute [go_sem] kindZ
def kindOf(p:Int):List Value:=if p=1 then kind1 else if p=2 then kind2 else kindZ
def vKey(k:Key):Bool:=decide (keyLen k.1≠0) && (decide ((k.2.2.length:Int)=keyLen k.1) && (decide (0<=k.2.1) && decide (k.2.1<=65535)))
theorem j5i(k:Key):PC Tryz.prog 118 [.agg (KeyT.cells k)] (.tup [.agg (rawL (kindOf k.1)),rB (vKey k)]):=by
 obtain ⟨p,v,b⟩:=k;refine q0s rfl (by simp [SV.clean,SV.cleanL,q5d]) ?_;refine rQ fi118 ?_;refine q0i j7Y ?_;by_cases a:p=1
 . subst a;refine uQ 600 _ ?_;simp (maxSteps:=3000000) only [kind1,kindOf,vKey,keyLen,go_sem,↓zA,↓reduceIte,↓reduceDIte] <;>try simp only [zB]
   grind
 by_cases d:p=2
 . subst d;refine uQ 600 _ ?_;simp (maxSteps:=3000000) only [kind2,kindOf,vKey,keyLen,go_sem,↓zA,↓reduceIte,↓reduceDIte] <;>try simp only [zB]
   grind
 refine uQ 600 _ ?_;simp (maxSteps:=3000000) only [a,d,kindOf,kindZ,vKey,keyLen,go_sem,↓zA,↓reduceIte,↓reduceDIte] <;>try simp only [zB]
 grind
end Go.Proofs.YthbcodbcndiapaaGreatDoor
namespace Go.Sx
open Go

variable {P:Program} {AQ:Ex->List SV->List SObj->Prop} {k0:Nat} {k:List IT} {t:List SV} {H:List SObj}
variable {g:FG} {Ds:List Nat}

def mvL(h:Nat):List SV->List SV
 | []=>[]
 |.ptr x o :: l=>(if x=h then .ptr 1 o else .any) :: mvL h l
 |s :: l=>(if s.clean then s else .any) :: mvL h l
theorem j1q{C C':Cx}{h b:Nat}(j:Keeps C.I C'.I C.w C'.w)(u:1<C'.n)(p:C.ρ h=some b)(a:C'.ρ 1=some b):∀ {l:List SV} {vs:List Value},SV.denL C l vs->SV.denL C' (mvL h l) vs
 | [],_,d=>d
 |s :: l,vs,d=>by
  obtain ⟨v,us,rfl,d1,e⟩:=q0c.1 d;have d2':=j1q j u p a e;have r:SV.den C' (if s.clean then s else .any) v:=by grind [q0H,SV.den]
  cases s with
  |ptr x o=>refine q0c.2 ⟨v,us,rfl,?_,d2'⟩;grind [SV.den]
  |_=>exact q0c.2 ⟨v,us,rfl,r,d2'⟩
theorem z8M{h:Nat}{T:TypeId}{cs N:List SV}(a:H[h]?=some (.cells T cs))(Z:SV.cleanL cs=true):Hand 1 H (H.set h .dead) N (mvL h N) [.cells T cs]:=by
 intro C Cc Hc vs D Y A W r O z;obtain ⟨V,g2⟩:=z3D D h a rfl;obtain ⟨b,us,u,hcl,Q⟩:=D.obj _ _ a;have F:Keeps C.I Cc.I C.w Cc.w:=λb u=>⟨(O b).2 u,by rw [r]⟩
 have d:OwnB C H b:=⟨h,_,a,rfl,u⟩;have p:∀b,OwnB C (H.set h .dead) b->OwnB C H b:=λE ⟨x,o,G,J,K⟩=>by
  by_cases e:h=x
  . simp_all
  exact ⟨x,o,by simp_all,J,K⟩
 have hnot:¬OwnB C (H.set h .dead) b:=by
  rintro ⟨x,o,G,J,K⟩;by_cases e:h=x
  . grind [SObj.live]
  rw [AU e] at G;exact e (D.inj _ _ _ o b a G rfl J u K)
 have hn1:Cc.n=1:=by rw [A.n,W]
 let B:Cx:={Cc with ρ:=(λh=>if h=Cc.n then some b else Cc.ρ h),n:=Cc.n+1}
 have j:Keeps C.I B.I C.w B.w:=F
 obtain ⟨R,X,U⟩:=z4H A (some b) (.cells T cs) (λE e=>by
  cases e
  exact ⟨λx=>(D.own b d).1 ((O b).1 x),by grind,z b d⟩) B rfl ⟨b,us,if_pos rfl,by grind,q1E (C:=C) j Z Q⟩
 exact ⟨C,B,rfl,rfl,V,Evo.refl _,p,r,rfl,R,X,j1q (C:=C) j (by grind) u (by grind) Y,λE L=>orMap (U E L) id λe=>by simp_all⟩
variable {f:FuncId}
theorem k0m{r:FI}{args:List SV}{K:Out->List SObj->Prop}(h:finfo P f=some r)
 (R: @SoundI (freG noFG []) P (retF P r.results K) ⟨0,[.ic r.code],args++List.replicate (r.ntmps-args.length) .any,[]⟩):VC P f args [] K:=by
 obtain ⟨fn,c,N,d,W,L,G,A⟩:=j4Y h;have I:retQ P fn K=retF P r.results K:=by rw [<-G];funext e t H;rfl
 refine q4o ⟨A,?_⟩;rintro E C vs p ⟨D,S,j⟩ V;have a:∀b,¬S b:=j
 refine (@q5a (freG noFG []) P [] f fn c args K (startE false S C []) C vs N d rfl (by show C.n<=_;rw [p.n];omega) p (q4x p.n) ⟨⟨D.tab,D.tab.lt⟩,⟨⟨S,a⟩,CW,λ_ h=>by simp at h⟩,λb d=>((q0O p.n).1 d).elim z0s λx=>a b x.1⟩
  (λ_ _=>True) ?_ V ?_).mono ?_
 . rintro C' H' ds hw' hx' ⟨Ds',e,⟨S',hc'⟩,u,w⟩;rw [Ac] at u w;exact ⟨Ds',by rw [e];exact Ac _,u,w,trivial⟩
 . rw [I,L];exact @q0f (freG noFG []) P (retF P r.results K) _ _ _ _ _ R ⟨c,[],rfl,W,rfl⟩
 rintro e w' ⟨o,H',C',F,U,J,B,_,O⟩;exact ⟨o,H',C',F,U,J, @Stp.mk (fgG noFG) E C [] C' H' (q3E B.evo) (λk=>q8M p k (λb d=>absurd d (a b)) (λQ=>by cases Q) B) (λz=>⟨⟨(q6l p.n z.1.tab λb d=>absurd d (a b)).next B,z.1.old⟩,S,a⟩),O⟩
def k0d{gop:Operand}{ps:Array Tmp}{asg body:IC}{fi ca:List SV}{N:Nat}{vw:Nat->Nat->List SV->List SObj->Prop}(h:Nat)(T:TypeId)(cs:List SV)(Hs:Nat->List SObj->Prop)(X:Nat->Ex->List SObj->Prop)
 (hcell:H[h]?=some (.cells T cs))(hcs:SV.cleanL cs=true)(hgop:evT t gop= .fn f fi ca)(hfi:SV.cleanL fi=true)(hit:IterO False P f fi (mvL h ca) [.cells T cs] N vw)(hlen:∀i n args' new,vw i n args' new->args'.length=ps.size)(hmk:∀n,H[0]?≠some (.mark n))(h0:Hs 0 (H.set h .dead))(hns:noStopI k=true)
 (hround:∀i Hi args' new,i<N->Hs i Hi->vw i Hi.length args' new->∀L1 L2, @SoundI (pinG g L1) P (λ_ _ _=>False)
  ⟨(Hi++new).length,[.ic asg,.stop λt' H'=> @SoundI (pinG g L2) P (RQ Hs X i) ⟨H'.length,[.ic body],t',H'⟩],putL ps.toList args' t,Hi++new⟩)
 (hdone:∀D Hn,Hs N Hn-> @SoundI (topG g (D :: Ds)) P AQ ⟨k0,k,t,Hn⟩)(hstop:∀D i ex Hn,i<N->X i ex Hn->RfStopI g P AQ k0 k t (D :: Ds) ex Hn):
 @SoundI (freG g Ds) P AQ ⟨k0,.ic (.rf gop ps asg body) :: k,t,H⟩:=
 j5r (G0:=freG g Ds) (inf:=False) Hs X (λh=>⟨h.1,.inr h.2⟩) (λh=>h) (λ_ h=>h) hgop hfi (z8M hcell hcs) (λn hn=>absurd hn (hmk n)) hit (λh=>h.elim) hlen h0 hns hround hdone hstop
end Go.Sx
namespace Go.Proofs.YthbcodbcndiapaaGreatDoor
open Go Go.Sx Go.Proofs
set_option maxRecDepth 100000
set_option maxHeartbeats 4000000
def szB(s:ByteArray):Bool:=decide (1<=(s.size:Int)) && decide ((s.size:Int)<=32)
theorem k0Q(s:ByteArray):PC Tryz.prog 178 [rS s] (rB (szB s)):=by refine q0s rfl rfl ?_;refine rQ fi178 ?_;grind [szB]
theorem j9Q(s:ByteArray):PC Tryz.prog 240 [rS s,rS ⟨#[46]⟩] (rI (Lib.indexByte s.data.toList 46)):=by
 refine j4z (vs:=[.string s,.string ⟨#[46]⟩]) (by kernel_rfl) λw=> ?_;have d (w:World):Calls Tryz.prog 257 #[.string s,.int .u8 46] w λe w'=>e= .returned (.int .i64 (Lib.indexByte s.data.toList 46))/\w'=w:=by
  go_enter Tryz.func257,Tryz.ntmps257;go_wp2;rw [run_callFunc_extern Tryz.func280 (by kernel_rfl) (by kernel_rfl) (by kernel_rfl) (e:=Extern.BytealgIndexByte.indexByte) (by kernel_rfl),Lib.run_indexByteString];simp only [Result.andThen];rw [Oper.upon_value];go_wp2;go_ret
  simp_all
 by_cases a:s=⟨#[46]⟩
 . subst a;go_enter Tryz.func240,Tryz.ntmps240;go_wp2;go_ret;exact ⟨by rfl,RowKit.Below.refl _ _⟩
 have hne:([46]==s.toList)=false:=by
  rw [beq_eq_false_iff_ne];intro h
  simp_all [ByteArray.toList_eq]
 go_enter Tryz.func240,Tryz.ntmps240
 go_wp2_with (go_at_call 257;refine (d _).mono ?_;rintro e w' ⟨rfl,rfl⟩)
 go_ret;exact ⟨rfl,RowKit.Below.refl _ _⟩
def k1x(s:ByteArray):PC Tryz.prog 227 [rS s,rS ⟨#[46]⟩] (rI (Lib.indexByte s.data.toList 46)):=by refine q0s rfl rfl ?_;refine rQ fi227 ?_;refine cQ (j9Q s) ?_;trivial

variable {α:Type}{l:List α}
theorem j5L{d:α}{j:Nat}(h:j<l.length):l.getD j d=l[j]:=by simp_all
theorem z0E{d:α}{q:α->Bool}:allN l.length (λj=>q (l.getD j d))=l.all q:=by
 rw [BY,q2H,Bu];constructor
 . intro h x a;obtain ⟨j,hj,rfl⟩:=AM a
   simp_all
 simp_all
def splitGo:List UInt8->List UInt8->List (List UInt8)
 |cur,[]=>[cur.reverse]
 |cur,c :: cs=>if c==46 then cur.reverse :: splitGo [] cs else splitGo (c :: cur) cs
def splitDot(l:List UInt8):List (List UInt8):=splitGo [] l
theorem q6X:∀ (l a:List UInt8),Lib.indexByte l 46= -1->splitGo a l= [a.reverse++l]
 | [],a,_=>by simp [splitGo]
 |c :: l,a,h=>by
  unfold Lib.indexByte at h;by_cases d:(c==46)=true
  . simp_all
  have hg:=Lib.indexByte_ge l 46;rw [if_neg d] at h;have e:Lib.indexByte l 46= -1:=by grind
  unfold splitGo;rw [if_neg d,q6X l (c :: a) e];simp
theorem q6Q:∀ (l a:List UInt8) (i:Nat),Lib.indexByte l 46=(i:Int)->i<l.length/\splitGo a l=(a.reverse++l.take i) :: splitGo [] (l.drop (i+1))
 | [],a,i,h=>by grind [Lib.indexByte]
 |c :: l,a,i,h=>by
  unfold Lib.indexByte at h;by_cases e:(c==46)=true
  . rw [if_pos e] at h;obtain rfl:i=0:=by omega
    simp_all [splitGo]
  rw [if_neg e] at h;by_cases d:(Lib.indexByte l 46== -1)=true
  . simp_all
  rw [if_neg d] at h;have hg:=Lib.indexByte_ge l 46;simp at d;obtain ⟨j,rfl⟩:∃j,i=j+1:=⟨i-1,by omega⟩
  obtain ⟨h3,h4⟩:=q6Q l (c :: a) j (by omega)
  simp_all [splitGo]
def splitB(s:ByteArray):List ByteArray:=(splitDot s.data.toList).map λl=>⟨l.toArray⟩
theorem z3l(s:ByteArray)(h:Lib.indexByte s.data.toList 46= -1):splitB s= [s]:=by simp_all [splitB,splitDot,q6X]
theorem z3P(s:ByteArray)(i:Nat)(h:Lib.indexByte s.data.toList 46=(i:Int)):i<s.size/\splitB s=s.extract 0 i :: splitB (s.extract (i+1) s.size):=by
 obtain ⟨h1,h2⟩:=q6Q s.data.toList [] i h
 simp_all [splitB,splitDot,Lib.extract_eq,Aa]
def realmChar(c:UInt8):Bool:=(decide (65<=c.toNat) && decide (c.toNat<=90)) || (decide (48<=c.toNat) && decide (c.toNat<=57)) ||c==45
def labelB(l:ByteArray):Bool:=decide (0<l.size) && l.data.toList.all realmChar
def realmB(s:ByteArray):Bool:=szB s&& (splitB s).all labelB

theorem z2C(s:ByteArray):∀x∈splitB s,x.size<=s.size:=by
 have h:∀ (l a:List UInt8),∀y∈splitGo a l,y.length<=a.length+l.length:=by
  intro l;induction l with
  |nil=>grind [splitGo]
  |cons c l ih=>intro a y d;unfold splitGo at d;grind
 intro x e;unfold splitB at e;obtain ⟨y,d,rfl⟩:=Br.1 e;have:=h _ [] y d;simp at this;exact this
def vwS(s:ByteArray):Nat->Nat->List SV->List SObj->Prop:=λi _ args' new=>args'= [rS ((splitB s).getD i ⟨#[]⟩)]/\new= []
theorem z6y(s:ByteArray):PE Tryz.prog 205 [rS s,rS ⟨#[46]⟩,rI 0] [] (.ret (.fn 225 [] [.iptr .str ⟨#[46]⟩ 0,.ptr 0 0,.iptr (.int .i64) 0 0])) [.cells 9 [rS s],.dead,.dead]:=by
 refine q2g fi205 ?_;refine uQ 5 _ ?_;with_reducible refine sxE ?_
 refine q2l 4 1 (ty:=.str) (x:=⟨#[46]⟩) rfl (show (1:Nat)<=140737488355328 by decide) rfl rfl ?_;refine q2l 5 2 (ty:=.int .i64) (x:=0) rfl trivial rfl rfl ?_;refine gQ ?_;trivial
def z3Z(s:ByteArray):PE Tryz.prog 179 [rS s,rS ⟨#[46]⟩] [] (.ret (.fn 225 [] [.iptr .str ⟨#[46]⟩ 0,.ptr 0 0,.iptr (.int .i64) 0 0])) [.cells 9 [rS s],.dead,.dead]:=by refine q2g fi179 ?_;refine gQ ?_;refine eQ [] (z6y s) ?_;trivial
def cutB(s:ByteArray):Nat->ByteArray
 |0=>s
 |i+1=>(cutB s i).extract ((Lib.indexByte (cutB s i).data.toList 46).toNat+1) (cutB s i).size
theorem z4s(s:ByteArray)(hs:s.size<=140737488355328):IterO False Tryz.prog 225 [] [.iptr .str ⟨#[46]⟩ 0,.ptr 1 0,.iptr (.int .i64) 0 0] [.cells 9 [rS s]] (splitB s).length (vwS s):=by
 refine ⟨by kernel_rfl,λl B J p z _=> ?_⟩;refine (q1V (yFG p) fi225 ?_).2;letI:Ghost:=topG (yFG p) [];have o:(((#[46]:Array UInt8).size:Nat):Int)=1:=rfl;refine gy1 o ?_;refine q0m (ι:=Nat) (λ_=>[]) (λi=>[.mark i,.cells 9 [rS (cutB s i)]]) (λi=>(splitB s).length-i) (λi=>(splitB s).drop i=splitB (cutB s i)/\(cutB s i).size<=s.size) 0 ⟨rfl,Ad _⟩ rfl ?_ ?_
 . with_reducible refine sxE ?_;trivial
 rintro i ⟨a,hcs⟩;have d:cutB s (i+1)=(cutB s i).extract ((Lib.indexByte (cutB s i).data.toList 46).toNat+1) (cutB s i).size:=rfl;have j:=k1x (cutB s i);have hge:=Lib.indexByte_ge (cutB s i).data.toList 46;generalize cutB s i=t at*;by_cases E:Lib.indexByte t.data.toList 46<0
 . have w:=z3l t (by omega);rw [w] at a;have e:=congrArg List.length a;simp at e;have r:(splitB s).getD i ⟨#[]⟩=t:=by have:=congrArg (λl=>l.getD 0 ⟨#[]⟩) a;simpa [Ae] using this
   refine gQ ?_;refine cQ j ?_;refine ⟨λ_=> ?_,λh=>absurd E h⟩;refine q2f [.cells 9 [rS t]] p z (i:=i) (by omega) (λn=>⟨_,_,⟨by rw [r],rfl⟩,q0R rfl⟩) λc=> ?_;cases c
   . refine gQ ?_;exact ⟨_,_,rfl,rfl,by omega⟩
   refine gQ ?_;exact ⟨_,_,rfl,rfl,by omega⟩
 obtain ⟨k,u⟩:∃k:Nat,Lib.indexByte t.data.toList 46=(k:Int):=⟨_,(Int.toNat_of_nonneg (by omega)).symm⟩
 obtain ⟨w,D⟩:=z3P t k u;rw [u] at j d;rw [D] at a;have e:=congrArg List.length a;simp at e;have r:(splitB s).getD i ⟨#[]⟩=t.extract 0 k:=by have:=congrArg (λl=>l.getD 0 ⟨#[]⟩) a;simpa [Ae] using this
 have A:(splitB s).drop (i+1)=splitB (t.extract (k+1) t.size):=by rw [<-A9,a];rfl
 have F:IntKind.i64.wrap (k:Int)=k:=wrapi (by omega);have C:IntKind.i64.wrap ((k:Int)+1)=((k+1:Nat):Int):=q1M (by omega);refine gQ ?_;refine q0a j ?_;refine gy3 Int.add_zero F AA ?_;refine ⟨λh=>absurd h (by omega),λ_=>⟨⟨by omega,by omega⟩,?_⟩⟩;refine q2f [.cells 9 [rS t]] p z (i:=i) (by omega) (λn=>⟨_,_,⟨by rw [r],rfl⟩,q0R rfl⟩) λc=> ?_;cases c
 . refine gQ ?_;exact ⟨_,_,rfl,rfl,by omega⟩
 refine gy3 o C AA ?_;refine ⟨⟨by omega,by omega⟩,i+1,⟨?_,?_⟩,by show _- (i+1) <_-i;omega,?_,?_⟩
 . rw [A,d];rfl
 . rw [d];simp;omega
 . show _= [SObj.mark (i+1),SObj.cells _ [rS (cutB s (i+1))]];rw [d];rfl
 with_reducible refine sxE ?_;trivial
variable {c:UInt8}
theorem j9z{n:Nat}(hn:n<256):c=UInt8.ofNat n ↔ (c.toNat:Int)=n:=by grind [UInt8.toNat_ofNat',UInt8.toNat_inj]
theorem q5v(c:UInt8):realmChar c=true ↔ (c.toNat:Int)=45\/(65<=(c.toNat:Int)/\(c.toNat:Int)<=90)\/(48<=(c.toNat:Int)/\(c.toNat:Int)<=57):=by have h:=j9z (c:=c) (n:=45) (by decide);simp only [realmChar,BF,Ai,decide_eq_true_eq,beq_iff_eq];grind
def rlmH:List SObj:=[.cells 4 [rB false],.dead,.dead,.dead]
theorem k1g(s:ByteArray)(K:s.size<=140737488355328):PC Tryz.prog 116 [rS s] (rB (realmB s)):=by
 refine q0s rfl rfl (k0m fi116 ?_);letI:Ghost:=freG noFG [];refine gQ ?_;refine cQ (k0Q s) ?_;refine ⟨λh=> ?_,λh=> ?_⟩
 . rw [realmB,h];rfl
 refine q0j [] (z3Z s) rfl (by decide) trivial rfl rfl ?_;simp only [afterO,Out.ren,SV.ren,mgA,sig,SObj.ren,SV.renL,List.set,List.map,Ac];refine uQ 600 _ ?_;refine k0d 1 _ _ (λi H'=>H'=rlmH/\∀j,j<i->labelB ((splitB s).getD j ⟨#[]⟩)=true) (λi ex H'=>ex= .ret/\H'=rlmH/\labelB ((splitB s).getD i ⟨#[]⟩)=false) rfl rfl rfl rfl (z4s s K) (λi n p E h=>by rw [h.1];rfl) (λn h=>by simp at h) ⟨rfl,λj G=>absurd G (Ca j)⟩ rfl ?_ ?_ ?_
 . rintro i _ p E F ⟨rfl,u⟩ ⟨rfl,rfl⟩ O N;letI:Ghost:=pinG noFG O;rw [Ac];obtain ⟨x,z⟩:∃x,x=(splitB s).getD i ⟨#[]⟩:=⟨_,rfl⟩;have hxs:x.size<=s.size:=z2C s x (by simp_all);rw [<-z];unfold rlmH;refine uQ 600 _ ?_;simp only [putL,Bn];with_reducible refine sxE ?_
   letI:Ghost:=pinG noFG N;refine gQ ?_;refine ⟨λA=>⟨rfl,rfl,by rw [<-z,A];rfl⟩,λA=> ?_⟩;refine q9M 16 x.size (λj=>realmChar (x.data.toList.getD j 0)=true) ?_ λk I r=> ?_
   . with_reducible refine sxE ?_;trivial
   refine gQ ?_;have o:k<x.size->¬realmChar (x.data.toList.getD k 0)=true->labelB x=false:=λa L=>by unfold labelB;rw [Cm];refine .inr (List.all_eq_false.2 ⟨_,q1U (d:=0) (i:=k) (by simp_all),L⟩)
   have w:=q5v (x.data.toList.getD k 0);refine ⟨λa=> ?_,λhge=>⟨rfl,λj G=> ?_⟩⟩
   . have C:=wsx k (by omega);refine ⟨⟨by omega,a⟩,?_⟩;repeat' (first|apply And.intro|intro _)
     all_goals first|omega|exact rfl| (rw [<-z];exact o a (by rw [w];omega)) |refine q3K a r (by rw [w];omega) ?_
     all_goals simp (maxSteps:=3000000) only [C,go_sem,↓zA,↓reduceIte,↓reduceDIte] <;>try simp only [zB]
   by_cases B:j=i
   . subst B;rw [<-z];unfold labelB;rw [Ai,decide_eq_true_eq];refine ⟨Nat.pos_of_ne_zero λe=>A (ByteArray.ext (A6 e)),?_⟩;rw [<-z0E (d:=0)];refine q0v λk I=>r k ?_;have:x.data.toList.length=x.size:=by simp
     omega
   grind
 . rintro D _ ⟨rfl,u⟩;letI:Ghost:=topG noFG [D];unfold rlmH;refine gQ ?_;rw [realmB,h,BL];rw [<-z0E (d:=⟨#[]⟩)];grind [q0v]
 rintro D i ex _ F ⟨rfl,rfl,o⟩;have J:realmB s=false:=by rw [realmB,h,BL,<-z0E (d:=⟨#[]⟩)];exact q0u F o
 rw [J];unfold rlmH;show retF _ [.cell 2 4] _ .ret _ _;with_reducible refine sxE ?_;trivial
def visC(c:UInt8):Bool:=decide (33<=(c.toNat:Int)) && decide ((c.toNat:Int)<=126)
theorem j1i(h1:¬(c.toNat:Int) <33)(h2:¬126< (c.toNat:Int)):visC c=true:=by simp [visC];omega
theorem z7T(h1:(c.toNat:Int) <33):visC c=false:=by simp [visC];omega
theorem z9j(h1:126< (c.toNat:Int)):visC c=false:=by simp [visC];omega
def visB(s:ByteArray):Bool:=allN s.size λj=>visC (s.data.toList.getD j 0)
theorem k1i(s:ByteArray)(hs:s.size<=140737488355328):PC Tryz.prog 117 [rS s] (rB (visB s&& szB s)):=by
 refine q0s rfl rfl ?_;refine rQ fi117 ?_;refine q9M 6 s.size (λj=>visC (s.data.toList.getD j 0)=true) ?_ λi hi d=> ?_
 . with_reducible refine sxE ?_;trivial
 refine gQ ?_;refine ⟨λa=>⟨⟨by omega,a⟩,λo=>⟨⟨by omega,a⟩,λe=> ?_,λe=>q3K a d ?_ ?_⟩,λo=> ?_⟩,λhge=>q0a (k0Q s) ?_⟩
 . grind [visB,q0u,z9j]
 . grind [j1i]
 . with_reducible refine sxE ?_
   grind [q1M]
 . grind [visB,q0u,z7T]
 refine gQ ?_;grind [visB,q0v]

def fidx(l:List Bool):Int:=if l.all id then -1 else ((l.findIdx (!·):Nat):Int)
variable {l:List Bool}{i:Nat}
theorem j8k(a:i<l.length)(hall:∀j,j<i->l.getD j false=true)(h:l.getD i false=false):fidx l=i:=by
 have d:¬l.all id=true:=λha=>by grind [q1U]
 unfold fidx;rw [if_neg d,Int.ofNat_inj,List.findIdx_eq a];refine ⟨by simp_all,λj hj=> ?_⟩;grind
theorem j6a(hall:∀j,j<l.length->l.getD j false=true):fidx l= -1:=by
 have h1:l.all id=true:=by
  rw [Bu];intro x a;obtain ⟨j,hj,rfl⟩:=AM a
  simp_all
 simp_all [fidx]
theorem j3n(l:List Bool)(hl:l.length<=1125899906842624):PC Tryz.prog 204 [.isl .bool l,rB false] (rI (fidx l)):=by
 refine q0s rfl rfl ?_;refine rQ fi204 ?_;refine q9M 8 l.length (λj=>l.getD j false=true) ?_ λi hi a=> ?_
 . with_reducible refine sxE ?_;trivial
 refine gQ ?_;refine ⟨λd=>⟨⟨by omega,d⟩,λh=> ?_,λh=>q3K d a ?_ ?_⟩,λhge=> ?_⟩
 . grind [j8k]
 . simp_all
 . with_reducible refine sxE ?_
   grind [q1M]
 grind [j6a]
theorem q7Q(l:List Bool)(a:l.length<=1125899906842624):PC Tryz.prog 177 [.isl .bool l,rB false] (rB (!l.all id)):=by refine q0s rfl rfl ?_;refine rQ fi177 ?_;refine cQ (j3n l a) ?_;grind [fidx]
def j9M(l:List Bool)(a:l.length<=1125899906842624):PC Tryz.prog 115 [.isl .bool l] (rB (l.all id)):=by refine q0s rfl rfl ?_;refine rQ fi115 ?_;refine cQ (q7Q l a) ?_;simp

def vPart(s:ByteArray):Bool:=visB s&& szB s
def vPrin(p:Prin):Bool:=(decide (1<=(p.1.length:Int)) && (decide ((p.1.length:Int)<=4) && realmB p.2)) && allN p.1.length λj=>vPart (p.1.getD j ByteArray.empty)
theorem q7C(p:Prin)(e:PrinT.ok p):PC Tryz.prog 43 [.agg (PrinT.cells p)] (rB (vPrin p)):=by
 obtain ⟨l,r⟩:=p;refine q0s rfl rfl ?_;refine rQ fi43 ?_;refine cR (k1g r e.2) ?_;refine q0Y 1 (by decide) ?_;with_reducible refine sxE ?_
 refine q0d (j9M _ (by simp)) ?_;refine uQ 600 _ ?_;simp (maxSteps:=3000000) only [BK,CA,id,go_sem,↓zA,↓reduceIte,↓reduceDIte] <;>try simp only [zB]
 refine ⟨λh=> ?_,λh=> ?_⟩
 . rw [vPrin,h];rfl
 refine q9M 22 l.length (λj=>vPart (l.getD j ByteArray.empty)=true) ?_ λi hi d=> ?_
 . with_reducible refine sxE ?_;trivial
 have hl:l.length<=1125899906842624:=e.1.1;refine gQ ?_;refine ⟨λa=>⟨⟨by omega,a⟩,q0a (k1i _ (e.1.2 _ (q1U a))) ?_⟩,λhge=> ?_⟩
 . refine gQ ?_;refine ⟨λo=> ?_,λo=>q3K a d o ?_⟩
   . grind [vPrin,vPart,q0u]
   with_reducible refine sxE ?_
   grind [q1M]
 grind [vPrin,q0v]
def dec:Bool->List UInt8->List UInt8->List (List UInt8)
 |_,cur,[]=>[cur]
 |true,cur,c :: r=>dec false (cur++ [c]) r
 |false,cur,c :: r=>if c=92 then dec true cur r else if c=47 then cur :: dec false [] r else dec false (cur++ [c]) r
def rlmR:Bool->List UInt8->Bool
 |prev,[]=> !prev
 |prev,c :: cs=>if c==46 then !prev&& rlmR true cs else realmChar c&& rlmR false cs
def labL(l:List UInt8):Bool:=decide (0<l.length) && l.all realmChar
theorem z3r:∀ (cs a:List UInt8),(splitGo a cs).all labL=(a.all realmChar&& rlmR a.isEmpty cs)
 | [],a=>by cases a<;>simp [splitGo,labL,rlmR,Bool.and_comm]
 |c :: cs,a=>by
  rw [splitGo,rlmR];split
  . have:=z3r cs [];simp only [BK,this,CA,List.isEmpty_nil,BL];cases a<;>simp [labL,Bool.and_comm,Bool.and_left_comm]
  have:=z3r cs (c :: a);grind
def rlmAt(prev:Bool)(l:List UInt8)(j:Nat):Bool:=
 if l.getD j 0=46 then decide (j+1<l.length) && (if j=0 then !prev else decide (l.getD (j-1) 0≠46)) else realmChar (l.getD j 0)
theorem z9W:∀ (l:List UInt8) (a:Bool),l≠ []->rlmR a l=allN l.length (rlmAt a l)
 | [],_,h=>absurd rfl h
 | [c],a,_=>by simp_all [rlmR,allN,rlmAt]
 |c :: d :: l,a,_=>by
  have ih:=z9W (d :: l) (c==46) (by simp);have hs:∀j,rlmAt a (c :: d :: l) (j+1)=rlmAt (c==46) (d :: l) j:=λj=>by unfold rlmAt;simp only [AK,As,Cf];grind
  have ha:allN (c :: d :: l).length (rlmAt a (c :: d :: l))=(rlmAt a (c :: d :: l) 0&& allN (d :: l).length (rlmAt (c==46) (d :: l))):=by
   rw [BY,Ai,q2H,q2H];constructor
   . grind
   rintro ⟨h0,h⟩ j hj;cases j<;>simp_all
  grind [rlmR,rlmAt]
theorem z2L(s:ByteArray):realmB s=(szB s&& allN s.size (rlmAt true s.data.toList)):=by
 have a:(splitB s).all labelB=(splitDot s.data.toList).all labL:=by unfold splitB;rw [List.all_map];congr 1
 rw [realmB,a,splitDot,z3r,CA,List.isEmpty_nil,BL];by_cases h:s.data.toList= []
 . have:s.size=0:=by have:=congrArg List.length h;simpa using this
   simp [szB,this]
 simp_all [z9W]
variable {s:ByteArray}
theorem j7W(hlt:i<s.size):rlmAt true s.data.toList i=true ↔
 (if ((s.data.toList.getD i 0).toNat:Int)=46 then (i:Int)≠0/\(i:Int)≠((s.size-1:Nat):Int)/\((s.data.toList.getD (i-1) 0).toNat:Int)≠46 else ((s.data.toList.getD i 0).toNat:Int)=45\/(65<=((s.data.toList.getD i 0).toNat:Int)/\((s.data.toList.getD i 0).toNat:Int)<=90)\/(48<=((s.data.toList.getD i 0).toNat:Int)/\((s.data.toList.getD i 0).toNat:Int)<=57)):=by
 have a:s.data.toList.length=s.size:=by simp
 have h46:∀c:UInt8,c=46 ↔ (c.toNat:Int)=46:=λc=>j9z (c:=c) (n:=46) (by decide);unfold rlmAt;rw [<-q5v,a];grind
theorem rbad(hlt:i<s.size)(h:¬rlmAt true s.data.toList i=true):false=(szB s&& allN s.size (rlmAt true s.data.toList)):=by grind [q0u]
theorem z1B(s:ByteArray)(hs:s.size<=140737488355328):PC Tryz.prog 120 [rS s] (rB (realmB s)):=by
 refine q0s rfl rfl ?_;rw [z2L];refine rQ fi120 ?_;refine q9M 3 s.size (λj=>rlmAt true s.data.toList j=true) ?_ λi hi a=> ?_
 . with_reducible refine sxE ?_;trivial
 have p:IntKind.i64.wrap ((s.size:Int) -1)=(s.size:Int) -1:=by grind [wrapi]
 refine gQ ?_;refine ⟨λd=> ?_,λhge=> ?_⟩
 . have e3:((s.size-1:Nat):Int)=(s.size:Int) -1:=by omega
   have e:=j7W d;rw [p];rcases Ce i with r|hpos
   . have o:∀k:Nat,IntKind.i64.wrap ((i:Int) -1)=k->i=0:=λ_ _=>r;repeat' (first|apply And.intro|intro _)
     all_goals first|omega| (refine rbad d ?_;rw [e];split<;>omega) |refine q3K d a (by rw [e];split<;>omega) ?_
     all_goals (with_reducible refine sxE ?_<;>try exact True.intro)
     all_goals grind [q1M]
   have o:IntKind.i64.wrap ((i:Int) -1)=((i-1:Nat):Int):=by grind [wrapi]
   rw [o];simp only [AA];repeat' (first|apply And.intro|intro _)
   all_goals first|omega| (refine rbad d ?_;rw [e];split<;>omega) |refine q3K d a (by rw [e];split<;>omega) ?_
   all_goals (with_reducible refine sxE ?_<;>try exact True.intro)
   all_goals first|rw [q1M (by omega)] |rfl
 rw [q0v λj hj=>a j (by omega),Cq,szB];grind
theorem j1m(s:ByteArray)(hs:s.size<=140737488355328):PC Tryz.prog 119 [rS s] (rB (visB s)):=by
 refine q0s rfl rfl ?_;refine rQ fi119 ?_;refine q9M 3 s.size (λj=>visC (s.data.toList.getD j 0)=true) ?_ λi hi d=> ?_
 . with_reducible refine sxE ?_;trivial
 refine gQ ?_;refine ⟨λa=>⟨⟨by omega,a⟩,λo=>⟨⟨by omega,a⟩,λe=> ?_,λe=>q3K a d ?_ ?_⟩,λo=> ?_⟩,λhge=> ?_⟩
 . grind [visB,q0u,z9j]
 . grind [j1i]
 . with_reducible refine sxE ?_
   grind [q1M]
 all_goals grind [visB,q0u,z7T,q0v]
theorem q6R(p:Int):kindOf p=kind1\/kindOf p=kind2\/kindOf p=kindZ:=by
 unfold kindOf;split
 . exact .inl rfl
 split
 . exact .inr (.inl rfl)
 exact .inr (.inr rfl)
def j4D(k:Key):PC Tryz.prog 46 [.agg (KeyT.cells k)] (rB (vKey k)):=by
 refine q0s rfl rfl ?_;refine rQ fi46 ?_;refine q0a (j5i k) ?_;rcases q6R k.1 with h|h|h
 . rw [h];refine gQ ?_;trivial
 . rw [h];refine gQ ?_;trivial
 rw [h];refine gQ ?_;trivial
def q2J(l:List UInt8)(hl:l.length<=140737488355328):PC Tryz.prog 105 [.isl .u8 l] (.isl .u8 l):=by refine q0g rfl rfl ?_;refine rQ fi105 ?_;intro b a;refine ⟨a,λh=>⟨⟨by omega,by omega⟩,⟨by omega,by omega⟩,Aa (by omega)⟩⟩
set_option maxHeartbeats 40000000
theorem z6B(x:derT.den)(a:derT.ok x):PC Tryz.prog 216 [.fn 217 [.agg (derT.cells x)] []] (.fn 232 [] [.iptr (.clo 217 derT) x 0]):=by
 refine q0s rfl rfl ?_;refine q2g fi216 ?_;refine uQ 3 _ ?_;with_reducible refine sxE ?_
 refine q2l 1 0 (ty:=.clo 217 derT) (x:=x) rfl a rfl rfl ?_;refine gQ ?_;trivial
def vwK(key label ctx:List UInt8)(n:Nat):Nat->Nat->List SV->List SObj->Prop:=λi _ args' new=>args'= [rI ((i+1:Nat):Int),.isl .u8 (kblk key label ctx n (i+1))]/\new= []
theorem z3w(key a d:List UInt8)(n N:Nat)(w:key.length<=64)(z:a.length<=4096)(D:d.length<=4096)(E:n<=1024)(hN:N<=1000):IterI True Tryz.prog 232 [] [.iptr (.clo 217 derT) (key,a,d,(n:Int)) 0] N (vwK key a d n):=by
 refine ⟨by kernel_rfl,λl B J o C p=> ?_⟩;refine (q1V (yFG o) fi232 ?_).2;letI:Ghost:=topG (yFG o) [];refine gQ ?_;refine z0Y [] (λi=>i) (λi=>[(3,rI ((i+1:Nat):Int))]) N (λ_=>True) trivial rfl (by simp) (by simp [SV.bel]) ?_ λi hi _=> ?_
 . with_reducible refine sxE ?_
   rfl
 by_cases j:i<N
 . have u:IntKind.i64.wrap (((i+1:Nat):Int)+1)=((i+1+1:Nat):Int):=q1M (by omega);refine gQ ?_;refine q0a (j3A key a d n (i+1) w z D E (by omega)) ?_;have e:=q7A key a d n (i+1);generalize A:kblk key a d n (i+1)=b at*;refine uQ 8 _ ?_;with_reducible refine sx1 e ?_
   refine ⟨⟨by decide,by decide⟩,?_⟩;refine q1j 1 rfl rfl (by rw [e];decide) ?_ ?_ ?_
   . with_reducible refine sxE ?_;trivial
   . with_reducible refine sxE ?_
     omega
   with_reducible refine sxE ?_
   have r:List.take 32 (List.drop 0 b)=b:=by rw [Ap];exact Aa (by omega)
   refine gy1 r ?_;refine q2f [.dead] o C j (λn=>⟨_,_,⟨by rw [A,Aa (show b.length<=32 by omega)],rfl⟩,q0R rfl⟩) λc=> ?_;cases c
   . refine gQ ?_;exact ⟨_,_,rfl,rfl,by omega⟩
   refine gQ ?_;refine ⟨j,trivial,⟨[_],rfl⟩,?_⟩;with_reducible refine sx1 u ?_;trivial
 obtain rfl:i=N:=by omega
 exact j4g o (p trivial)
def kacc(key label ctx:List UInt8)(n:Nat):Nat->List UInt8
 |0=>[]
 |i+1=>kacc key label ctx n i++kblk key label ctx n (i+1)
theorem q7B(key a d:List UInt8)(n:Nat):∀i,(kacc key a d n i).length=32*i
 |0=>rfl
 |i+1=>by rw [kacc,Ab,q7B key a d n i,q7A];omega
def kdfS(key label ctx:List UInt8)(n:Nat):List UInt8:=(kacc key label ctx n ((n+31) / 32)).take n
theorem z5W(key a d:List UInt8)(n:Nat):(kdfS key a d n).length=n:=by grind [kdfS,q7B]
def frC(n i:Nat)(G:List SObj)(acc:List UInt8):List SObj:=.cells 3 [rI n] :: .cells 25 [.bld (G.length+2) .u8 (32*i)] :: (G++ [.row .u8 acc])
def frH(key label ctx:List UInt8)(n:Nat)(i:Nat)(H':List SObj):Prop:=i< (n+31) / 32/\∃G,(∃g,G=List.replicate g SObj.dead)/\H'=frC n i G (kacc key label ctx n i)
def frX(key label ctx:List UInt8)(n:Nat)(i:Nat)(ex:Ex)(H':List SObj):Prop:=ex= .exit 0/\i+1=(n+31) / 32/\∃G,(∃g,G=List.replicate g SObj.dead)/\H'=frC n (i+1) G (kacc key label ctx n (i+1))
def q8I{h:Nat}{t:Ty}{xs:List t.den}{l:List SObj}:∀g,frzObH h t xs l->frzObH h t xs (List.replicate g SObj.dead++l)
 |0,hl=>hl
 |g+1,hl=>⟨trivial,q8I g hl⟩
theorem j6r(key d e:List UInt8)(n:Nat)(B:key.length<=64)(C:d.length<=4096)(L:e.length<=4096)(h1:1<=n)(F:n<=1024):PC Tryz.prog 215 [rI n,.fn 232 [] [.iptr (.clo 217 derT) (key,d,e,(n:Int)) 0]] (.isl .u8 (kdfS key d e n)):=by
 refine q0s rfl rfl (q4o (q1V noFG fi215 ?_));letI:Ghost:=topG noFG [];refine gQ ?_;refine q3D 1 0 .u8 rfl rfl rfl ?_;have K:(n+31) / 32<=1000:=by omega
 refine j4F (inf:=True) (frH key d e n) (frX key d e n) rfl rfl rfl (z3w key d e n ((n+31) / 32) B C L F K) (λ_ Hn h=>absurd h.1 (B0 _)) (λi n j z h=>by rw [h.1];rfl) ⟨by omega,[],⟨0,rfl⟩,rfl⟩ rfl ?_ ?_ ?_
 . rintro i _ j z E ⟨hlt,G,⟨g,r⟩,rfl⟩ ⟨rfl,rfl⟩ J I;letI:Ghost:=pinG noFG J;rw [Ac];have p:=q7B key d e n i;have u:=q7A key d e n (i+1);have o:kacc key d e n i++kblk key d e n (i+1)=kacc key d e n (i+1):=rfl;generalize hka:kacc key d e n i=a at*;generalize hkb:kblk key d e n (i+1)=b at*;unfold frC;refine uQ 600 _ ?_;simp only [putL,Bn];with_reducible refine sxaE ?_
   letI:Ghost:=pinG noFG I;refine gya2 p u ?_;refine ⟨⟨by omega,by omega⟩,λh=>⟨rfl,by omega,G++ [.dead],⟨g+1,by rw [r,Ct]⟩,?_⟩,λh=>⟨by omega,G++ [.dead],⟨g+1,by rw [r,Ct]⟩,?_⟩⟩
   . rw [<-o];simp [frC,CX]
   rw [<-o];simp [frC,CX]
 . rintro D _ ⟨h,_⟩;exact absurd h (B0 _)
 rintro D i ex _ E ⟨rfl,A,G,⟨g,r⟩,rfl⟩;refine ⟨_,rfl,?_⟩;unfold frC;letI:Ghost:=topG noFG [D];have p:=q7B key d e n (i+1);have w:List.take n (kacc key d e n (i+1))=kdfS key d e n:=by rw [A];rfl
 generalize kacc key d e n (i+1)=a at*;refine uQ 5 _ ?_;with_reducible refine sxaE ?_
 refine ⟨⟨by omega,by omega⟩,?_⟩;refine q1j (G.length+2) (ty:=.u8) (xs:=a) rfl (by simp) (by omega) ?_ ?_ ?_
 . with_reducible refine sxaE ?_
   refine ⟨by omega,?_⟩;rw [r];exact q8I g ⟨trivial,trivial⟩
 . with_reducible refine sxaE ?_
   exact ⟨by omega,by omega⟩
 with_reducible refine sxaE ?_
 rw [CC,w];have hkl:(kdfS key d e n).length=n:=z5W _ _ _ _;refine aQ ?_;refine q0a (q2J (kdfS key d e n) (by omega)) ?_;refine aQ ?_;trivial
theorem k1e(key a d:List UInt8)(n:Nat)(p:key.length<=64)(r:a.length<=4096)(u:d.length<=4096)(j:1<=n)(o:n<=1024):PC Tryz.prog 193 [.isl .u8 key,.isl .u8 a,.isl .u8 d,rI n] (.tup [.isl .u8 (kdfS key a d n),rI 0]):=by
 have e:=j7V n [key,a,d] j o (λl hl'=>by grind) (by simp);refine q0s rfl rfl ?_;refine rQ fi193 ?_;refine q0x 0 ?_;with_reducible refine sxE ?_
 refine cQ e ?_;refine cQ (z6B (key,a,d,(n:Int)) ⟨⟨show key.length<=1125899906842624 by omega,λ_ _=>trivial⟩,⟨show a.length<=1125899906842624 by omega,λ_ _=>trivial⟩,⟨show d.length<=1125899906842624 by omega,λ_ _=>trivial⟩,trivial⟩) ?_;refine cQ (j6r key a d n p r u j o) ?_;trivial
abbrev rkF(key:List UInt8)(bw:Bool):SV:=.fn 290 [] [.iptr .bool bw 0,.iptr (.ptr CipT) (some (cipS key)) 0]
theorem j4M(key:List UInt8)(a:key.length=16):CipT.ok (cipS key):=by
 have h1:fwS.length=256:=by simp [fwS]
 have h2:(invP 256).length=256:=z4Z 256;have h3:=q4G key a;unfold cipS;generalize fwS=fw at*;generalize invP 256=iv at*;generalize wordsS key=w at*;refine ⟨⟨?_,?_⟩,?_,?_⟩;all_goals first|exact trivial|exact ⟨by assumption,λ_ _=>trivial⟩ |exact ⟨⟨by assumption,λ_ _=>trivial⟩,trivial⟩ |skip
theorem q6V(key:List UInt8)(a:Bool)(hk:key.length=16):PC Tryz.prog 272 [.iptr CipT (cipS key) 0,rB a] (rkF key a):=by
 refine q0s rfl rfl ?_;refine q2g fi272 ?_;refine uQ 4 _ ?_;with_reducible refine sxE ?_
 refine q2l 2 0 (ty:=.ptr CipT) (x:=some (cipS key)) rfl (λy h=>by grind [j4M]) rfl rfl ?_;refine q2l 3 1 (ty:=.bool) (x:=a) rfl trivial rfl rfl ?_;refine gQ ?_;trivial
def rkI(bw:Bool)(i:Nat):Nat:=if bw then 10-i else i
def rkK(key:List UInt8)(i:Nat):List UInt8:=((wordsS key).drop (i*16)).take 16
def vwR(key:List UInt8)(bw:Bool):Nat->Nat->List SV->List SObj->Prop:=λi _ args' new=>args'= [rI (rkI bw i:Nat),.dat (.arr 16 .u8) (rkK key (rkI bw i))]/\new= []
theorem q7e(key:List UInt8)(o:Bool)(r:key.length=16):Iter Tryz.prog 290 [] [.iptr .bool o 0,.iptr (.ptr CipT) (some (cipS key)) 0] 11 (vwR key o):=by
 refine ⟨by kernel_rfl,λl B J j p=> ?_⟩;have hwl:=q4G key r;refine (q1V (yFG j) fi290 ?_).2;letI:Ghost:=topG (yFG j) [];refine gQ ?_;refine z0Y [] (λi=>i) (λi=>[(5,rI (i:Nat))]) 11 (λ_=>True) trivial rfl (by simp) (by simp [SV.bel]) ?_ λi hi _=> ?_
 . with_reducible refine sxE ?_;trivial
 have d:=wsx i (by omega);by_cases a:i<11
 . have e:((i:Int) <11)=True:=eq_true (by omega);have u:IntKind.i64.wrap (10- (i:Int))=((10-i:Nat):Int):=by rw [wrapi (by omega)];omega
   cases o with
   |false=>
    refine gy1 e ?_;refine ⟨by omega,q2f [] j p a (λn=>⟨_,_,⟨rfl,rfl⟩,q0R rfl⟩) λc=> ?_⟩;cases c
    . refine gQ ?_;exact ⟨_,_,rfl,rfl,by omega⟩
    refine gQ ?_;refine ⟨a,trivial,⟨[],rfl⟩,?_⟩;with_reducible refine sx1 d ?_;trivial
   |true=>
    refine gy2 e u ?_;refine ⟨by omega,q2f [] j p a (λn=>⟨_,_,⟨rfl,rfl⟩,q0R rfl⟩) λc=> ?_⟩;cases c
    . refine gQ ?_;exact ⟨_,_,rfl,rfl,by omega⟩
    refine gQ ?_;refine ⟨a,trivial,⟨[],rfl⟩,?_⟩;with_reducible refine sx1 d ?_;trivial
 obtain rfl:i=11:=by omega
 have e:(((11:Nat):Int) <11)=False:=by decide
 refine gy1 e ?_;exact ⟨_,_,rfl,rfl,Ad _⟩
theorem k0U(n:Nat):PC Tryz.prog 194 [rI n] (.isl .u8 (four n)):=by refine q0g rfl rfl ?_;refine rQ fi194 ?_;refine ⟨⟨q3j _,q3j _,q3j _,q3j _⟩,?_⟩;rw [byteN _ 24 (by decide),byteN _ 16 (by decide),byteN _ 8 (by decide),byteN0];rfl
theorem z9b(a:List (List UInt8))(hl:a.flatten.length<=1099511627776)(hn:a.length<=1099511627776):PC Tryz.prog 161 [.isl (.slice .u8) a] (.isl .u8 a.flatten):=by
 refine q0g rfl rfl ?_;refine rQ fi161 ?_;refine q2Z 3 .u8 (λi=>(a.take i).flatten) (λi=>[(8,rI i)]) a.length (λ_=>True) rfl (by simp) (by simp) rfl (λi=>rfl) ?_ λi hi _=> ?_
 . with_reducible refine sxE ?_;trivial
 have o:=wsx i (by omega);have hfl:=q2w a i;by_cases h:i<a.length
 . have e:=q5P h;have d:=q2w a (i+1);rw [e,Ab] at d;have hfl2:(a.take i).flatten.length+ (a.getD i (Ty.dflt (.slice .u8))).length<=a.flatten.length:=d;refine gQ ?_;refine ⟨λ_=>⟨⟨by omega,h⟩,⟨by omega,by omega⟩,q1P [.dead] [] h trivial (by rw [e];rfl) ?_⟩,λj=>absurd h j⟩;with_reducible refine sx3 o e ?_
   rfl
 obtain rfl:i=a.length:=by omega
 rw [Aw] at*;refine gQ ?_;refine ⟨λj=>absurd j (by omega),λ_=> ?_⟩;exact ⟨⟨by omega,by omega⟩,Aw⟩
def j3s(k:List UInt8)(ps:List (List UInt8))(j:k.length<=64)(e:ps.flatten.length<=1099511627776)(d:ps.length<=1099511627776):PC Tryz.prog 230 [.isl .u8 k,.isl (.slice .u8) ps] (.isl .u8 (hmS k ps.flatten)):=by have a:=q6E k ps.flatten;refine q0g rfl rfl ?_;refine rQ fi230 ?_;refine cy1 (j5e k ps j e d) a ?_;exact ⟨⟨by decide,by decide⟩,Aa (by omega)⟩
def dkS(k:KeyT.den)(u use:Nat):List UInt8:=kdfS k.2.2 (four u++ [UInt8.ofNat use]) [] k.2.2.length
def z1G(k:KeyT.den)(u use:Nat):(dkS k u use).length=k.2.2.length:=z5W _ _ _ _
theorem z3j(k:KeyT.den)(u:Nat)(hk:k.2.2.length<=64):PC Tryz.prog 160 [.agg (KeyT.cells k),rI u] (.fn 192 [] [.iptr KeyT k 0,.iptr (.int .i64) (u:Int) 0]):=by
 refine q0s rfl rfl ?_;refine q2g fi160 ?_;refine uQ 4 _ ?_;with_reducible refine sxE ?_
 refine q2l 2 0 (ty:=KeyT) (x:=k) rfl ⟨trivial,trivial,⟨by omega,λ_ _=>trivial⟩⟩ rfl rfl ?_;refine q2l 3 1 (ty:=.int .i64) (x:=(u:Int)) rfl trivial rfl rfl ?_;refine gQ ?_;trivial
theorem q5N(k:KeyT.den)(u a:Nat)(o:k.2.2.length<=64)(r:1<=k.2.2.length)(hu:a<256):PC Tryz.prog 192 [.raw (.int .u8 a),.iptr KeyT k 0,.iptr (.int .i64) (u:Int) 0] (.isl .u8 (dkS k u a)):=by
 obtain ⟨p,v,b⟩:=k;have d:b.length<=64:=o;have e:1<=b.length:=r;refine q0s rfl rfl ?_;refine rQ fi192 ?_;refine q0i (k0U u) ?_;refine gQ ?_;have j:=z9b [four u,[UInt8.ofNat a]] (by simp [four]) (by simp);rw [show [four u,[UInt8.ofNat a]].flatten=four u++ [UInt8.ofNat a] by simp] at j;refine ⟨by rw [Bd];omega,?_⟩;refine q0Y 0 (by decide) ?_;with_reducible refine sxE ?_
 refine cR j ?_;refine q0d ((k1e b (four u++ [UInt8.ofNat a]) [] b.length d (by simp [four]) (by simp) e (by omega)).arg ?_) ?_
 . with_reducible refine sxE ?_;trivial
 refine gQ ?_;rfl
def ksB(key conf text:List UInt8)(i:Nat):UInt8:=text.getD i 0^^^ (hmS key (conf++four (i / 32+1))).getD (i%32) 0
def ksS(key conf text:List UInt8):List UInt8:=(List.range text.length).map (ksB key conf text)
def z3T(key d a:List UInt8):(ksS key d a).length=a.length:=by simp [ksS]
theorem j7C(key d a:List UInt8)(hi:i<a.length):(ksS key d a).getD i 0=ksB key d a i:=by grind [ksS]
theorem j7F(key a d:List UInt8):ksS key a (ksS key a d)=d:=by
 apply Av
 . rw [z3T,z3T]
 intro j h1 h2;have e:(ksS key a (ksS key a d))[j]=ksB key a (ksS key a d) j:=by grind [ksS]
 grind [ksB,j7C,UInt8.xor_assoc,UInt8.xor_self]
def uOk(k:Key)(u:Int):Bool:=vKey k&& (decide (1<=u) && decide (u<=1023))
theorem z5X(k:Key)(u:Int)(ho:KeyT.ok k):PC Tryz.prog 159 [.agg (KeyT.cells k),rI u] (.tup [.agg (rawL (if uOk k u=true then kindOf k.1 else kindZ)),rI (if uOk k u=true then 0 else 2)]):=by
 have e:=j5i k;obtain ⟨p,v,b⟩:=k;refine q0s rfl (by simp [SV.clean,SV.cleanL,q5d]) ?_;change PC _ _ _ (.tup [.agg (rawL (kindOf p)),rB (vKey (p,v,b))]) at e;unfold uOk;show VC _ _ _ _ (PK (.tup [.agg (rawL (if (vKey (p,v,b) && (decide (1<=u) && decide (u<=1023)))=true then kindOf p else kindZ)),_]));generalize vKey (p,v,b)=r at*;have w:=q6R p;generalize kindOf p=kv at*;rcases w with rfl|rfl|rfl;all_goals
  cases r
  . refine rQ fi159 ?_;refine cQ e ?_;trivial
  by_cases j:1<=u
  . have a:(u<1)=False:=eq_false (by omega);by_cases o:u<=1023
    . have d:(1023<u)=False:=eq_false (by omega);refine rQ fi159 ?_;refine cy4 e j o a d ?_;trivial
    have d:(1023<u)=True:=eq_true (by omega);refine rQ fi159 ?_;refine cy4 e j o a d ?_;trivial
  have a:(u<1)=True:=eq_true (by omega);refine rQ fi159 ?_;refine q0a e ?_;refine gy2 j a ?_;trivial
def z16:List UInt8:=List.replicate 16 0
def tg9S(k:Key)(u:Nat)(c:List UInt8):List UInt8:=if k.1=1 then (hmS (dkS k u 85) (z16++c)).take 16 else hmS (dkS k u 85) c
def z8h{t:Ty}{x:t.den}:rdPtr t [.iptr t x 0]=some (some x,True):=by simp [rdPtr]
def q1L{h:Nat}{t:Ty}{xs:List t.den}{L:List SObj}:∀ {G:List SObj},frzObH h t xs G->frzObH h t xs L->frzObH h t xs (G++L)
 | [],_,h2=>h2
 |_ :: _,h1,h2=>⟨h1.1,q1L h1.2 h2⟩
def q3h{f g:Nat->UInt8}(h:∀j,j<16->f j=g j):fS f=fS g:=by unfold fS;exact Bg λj a=>h j (BN.1 a)
def k1s:∀j:Fin 16,shI j.val=4* ((j.val / 4+j.val%4)%4)+j.val%4/\shI j.val<16:=by decide
def shf_eq'(a:List UInt8)(e:∀c:UInt8,a.getD c.toNat 0=subS c)(x:List UInt8):(fS λj=>(fS λj=>a.getD (x.getD j 0).toNat 0).getD (shI j) 0)=shfS x:=by unfold shfS;refine q3h λj d=> ?_;have h:=k1s ⟨j,d⟩;dsimp only at h;exact (q8G (λj=>a.getD (x.getD j 0).toNat 0) h.2).trans ((e _).trans (by rw [h.1]))
def k0l(x:List UInt8):(fS λj=>(fS λj=>fwS.getD (x.getD j 0).toNat 0).getD (shI j) 0)=shfS x:=shf_eq' fwS z9U x
def j2c(w:List UInt8)(i j:Nat)(hj:j<16):(List.take 16 (List.drop (i*16) w)).getD (16*0+j) 0=w.getD (16*i+j) 0:=by simp only [Ae];rw [B9 (by omega),Bt,show i*16+ (16*0+j)=16*i+j by omega]
variable {key:List UInt8}
def q6m(x:List UInt8)(i:Nat):addS x (rkK key i) 0=addS x (wordsS key) i:=by unfold addS rkK;refine q3h λj a=> ?_;rw [j2c (wordsS key) i j a]
def encH(cp:CipT.den)(b k:List UInt8)(G:List SObj):List SObj:=.row PasT [(some cp,(b,k))] :: .cells 282 [.rptr 0 PasT 0 0] :: .cells 1 [opF 284,opF 285,opF 286,opF 268] :: .cells 287 [.csl 2 .u8 0 0 4] :: G
def prS(w b:List UInt8):Nat->List UInt8
 |0=>b
 |n+1=>encA w b n
def pkS(key:List UInt8):Nat->List UInt8
 |0=>z16
 |n+1=>rkK key n
def z0u(a:key.length=16)(hi:i<11):(rkK key i).length=16:=by have:=q4G key a;unfold rkK;rw [Am,Ah];omega
def encOps(a:CipT.den)(key:List UInt8)(A:key.length=16)(w:a=cipS key)(C:i<11){d x:List UInt8}(e:d=rkK key i)(r:x.length=16):
 ∃s1 s2 s3 a0 a10 a4:List UInt8,OpE 284 (some a,(x,d)) (some a,(s1,d))/\OpE 285 (some a,(s1,d)) (some a,(s2,d))/\OpE 286 (some a,(s2,d)) (some a,(s3,d))/\
  OpE 268 (some a,(x,d)) (some a,(a0,d))/\OpE 268 (some a,(s2,d)) (some a,(a10,d))/\OpE 268 (some a,(s3,d)) (some a,(a4,d))/\
  a0=addS x (wordsS key) i/\(i=10->a10=rndE (wordsS key) i x)/\(i<10->a4=rndE (wordsS key) i x):=by
 have o:d.length=16:=by rw [e];exact z0u A C
 have u:(a.1.1:List UInt8)=fwS:=by rw [w];rfl
 have z:=z0X a x d r;have p:=j3S (some a) (fS λj=>(a.1.1:List UInt8).getD (x.getD j 0).toNat 0) d (q2z _);have B:(fS λj=>(fS λj=>(a.1.1:List UInt8).getD (x.getD j 0).toNat 0).getD (shI j) 0)=shfS x:=by rw [u];exact k0l x
 rw [B] at p;refine ⟨_,_,_,_,_,_,z,p,j9S (some a) (shfS x) d (q2z _),z5K (some a) x d r o,z5K (some a) (shfS x) d (q2z _) o,z5K (some a) (mixS (shfS x) [2,3,1,1]) d (q2z _) o,?_,?_,?_⟩
 . rw [e,q6m]
 . intro h;unfold rndE;rw [e,q6m,if_neg (by omega)]
 intro h;unfold rndE;rw [e,q6m,if_pos h]
def encHs(cp:CipT.den)(key b:List UInt8)(i:Nat)(H':List SObj):Prop:=∃G,(∀xs,frzObH 0 PasT xs G)/\H'=encH cp (prS (wordsS key) b i) (pkS key i) G
theorem z7j(key b:List UInt8)(R:key.length=16)(Z:b.length=16):PC Tryz.prog 264 [.iptr CipT (cipS key) 0,.isl .u8 b] (.tup [.isl .u8 (encS (wordsS key) b),rI 0]):=by
 refine q0s rfl rfl (q4o (q1V noFG fi264 ?_));letI:Ghost:=topG noFG [];have z:=z2j key b Z;have a:=q6V key false R;have L:=q7e key false R;unfold rkF at a;obtain ⟨I,u⟩:∃I,I=cipS key:=⟨_,rfl⟩;rw [<-u] at z a L⊢;have ac:List.take 16 b=b:=Aa (by omega);refine gQ ?_;refine q0a z ?_;refine uQ 600 _ ?_;simp (maxSteps:=3000000) only [Z,ac,z8h,go_sem,↓zA,↓reduceIte,↓reduceDIte] <;>try simp only [zB]
 refine cQ a ?_;refine z7z (encHs I key b) (λ_ _ _=>False) rfl rfl rfl L (λi n C ab h=>by rw [h.1];rfl) ⟨[],λ_=>trivial,rfl⟩ rfl ?_ ?_ ?_
 . rintro i _ C ab hi ⟨G,N,rfl⟩ ⟨rfl,rfl⟩ L1 L2;letI:Ghost:=pinG noFG L1;rw [Ac];unfold encH;have X:rkI false i=i:=rfl;have r:(rkK key i).length=16:=z0u R hi;rw [X];obtain ⟨rk,a⟩:∃rk,rk=rkK key i:=⟨_,rfl⟩;rw [<-a] at r⊢;refine uQ 600 _ ?_;simp only [putL,Bn];with_reducible refine sya1 r ?_
   letI:Ghost:=pinG noFG L2;have B:List.take 16 rk=rk:=Aa (by omega);have J:(prS (wordsS key) b i).length=16:=by cases i with
    |zero=>exact Z
    |succ n=>exact q7D _ _ _
   obtain ⟨s1,s2,s3,a0,aa,a4,E,F,A,p,d,o,h0,K,h4⟩:=encOps I key R u hi a J;have Q:i=0->prS (wordsS key) b (i+1)=a0:=by rintro rfl;rw [h0];rfl
   have w:i=10->prS (wordsS key) b (i+1)=aa:=by rintro rfl;rw [K rfl];rfl
   have W:0<i->i<10->prS (wordsS key) b (i+1)=a4:=by
    intro h U;obtain ⟨j,rfl⟩:∃j,i=j+1:=⟨i-1,by omega⟩
    rw [h4 U];rfl
   have ek:pkS key (i+1)=rk:=by rw [a];rfl
   have eH:∀ {G':List SObj} {y:List UInt8},(∀xs,frzObH 0 PasT xs G')->prS (wordsS key) b (i+1)=y->encHs I key b (i+1) (encH I y rk G'):=by intro G' y hg hy;exact ⟨G',hg,by rw [hy,ek]⟩
   clear h0 K h4 u z a;generalize prS (wordsS key) b i=x at*;generalize pkS key i=Y at*;have hk2:(((i:Nat):Int)=0)=(i=0):=by simp
   rcases Ce i with h|h
   . have V:(((i:Nat):Int)=0)=True:=eq_true (by omega);have e:=Q h;clear Q w W E F A o d;refine uQ 600 _ ?_;simp (maxSteps:=3000000) only [V,r,B,Ad,true_and,List.append_assoc,getA,getA0,setA,setA0,Ab,Ax,go_sem,↓zA,↓reduceIte,↓reduceDIte] <;>try simp only [zB]
     refine q0j [0,G.length+5] (z9x 268 _ _ p) rfl (by simp) ?_ rfl rfl ?_
     . simp (maxSteps:=3000000) only [atH,sig,SObj.ren,SV.ren,SV.renL,SObj.live,opF,List.append_assoc,getA,getA0,setA,setA0,Ab,Ax,go_sem,↓zA,↓reduceIte,↓reduceDIte] <;>try simp only [zB]
     simp only [afterO,Out.ren,SV.ren,mgA,sig,SObj.ren,SV.renL,List.set,List.map,Ac,opF];refine aQ ?_;exact eH (λxs=>q1L (N xs) ⟨trivial,⟨trivial,trivial⟩,trivial⟩) e
   have V:(((i:Nat):Int)=0)=False:=eq_false (by omega);rcases AL i 10 with U|U
   . have f2:(((i:Nat):Int)=10)=False:=eq_false (by omega);have e:=W h U;clear Q w W p d;refine uQ 600 _ ?_;simp (maxSteps:=3000000) only [V,f2,r,B,Ad,true_and,List.append_assoc,getA,getA0,setA,setA0,Ab,Ax,go_sem,↓zA,↓reduceIte,↓reduceDIte] <;>try simp only [zB]
     refine q0j [0,2] (z8O 284 285 286 268 _ _ _ _ _ E F A o) rfl (by simp) ?_ rfl rfl ?_
     . simp (maxSteps:=3000000) only [atH,sig,SObj.ren,SV.ren,SV.renL,SObj.live,opF,List.append_assoc,getA,getA0,setA,setA0,Ab,Ax,go_sem,↓zA,↓reduceIte,↓reduceDIte] <;>try simp only [zB]
     simp only [afterO,Out.ren,SV.ren,mgA,sig,SObj.ren,SV.renL,List.set,List.map,Ac,opF];refine aQ ?_;exact eH (λxs=>q1L (N xs) ⟨trivial,trivial⟩) e
   have f2:(((i:Nat):Int)=10)=True:=eq_true (by omega);have e:=w (by omega);clear Q w W A p o;refine uQ 600 _ ?_;simp (maxSteps:=3000000) only [V,f2,r,B,Ad,true_and,List.append_assoc,getA,getA0,setA,setA0,Ab,Ax,go_sem,↓zA,↓reduceIte,↓reduceDIte] <;>try simp only [zB]
   refine q0j [0,G.length+5] (z8P 284 285 268 _ _ _ _ E F d) rfl (by simp) ?_ rfl rfl ?_
   . simp (maxSteps:=3000000) only [atH,sig,SObj.ren,SV.ren,SV.renL,SObj.live,opF,List.append_assoc,getA,getA0,setA,setA0,Ab,Ax,go_sem,↓zA,↓reduceIte,↓reduceDIte] <;>try simp only [zB]
   simp only [afterO,Out.ren,SV.ren,mgA,sig,SObj.ren,SV.renL,List.set,List.map,Ac,opF];refine aQ ?_;exact eH (λxs=>q1L (N xs) ⟨trivial,⟨trivial,trivial,trivial,trivial⟩,trivial⟩) e
 . rintro D Hn ⟨G,N,rfl⟩;letI:Ghost:=topG noFG [D];have J:(prS (wordsS key) b 11).length=16:=q7D _ _ _;have he:encS (wordsS key) b=prS (wordsS key) b 11:=rfl;rw [he];clear u z a he;generalize prS (wordsS key) b 11=x at*;have O:List.take 16 x=x:=Aa (by omega);generalize pkS key 11=Y at*;unfold encH;refine uQ 6 _ ?_;with_reducible refine sxaE ?_
   refine z4g (ty:=PasT) 64 0 0 1 rfl rfl rfl (Nat.succ_pos _) (show 1<=1125899906842624 by decide) ?_ ?_ ?_
   . exact ⟨trivial,⟨trivial,trivial⟩,⟨trivial,trivial,trivial,trivial,trivial⟩,⟨trivial,trivial⟩,N _⟩
   . with_reducible refine sxaE ?_;trivial
   with_reducible refine sxaE ?_
   refine aQ ?_;refine ⟨⟨by decide,Ad _⟩,q0a (O.symm▸q2J x (by omega)) ?_⟩;refine aQ ?_;simp [SV.leV,O]
 rintro D i ex _ hi h;exact h.elim
def xorS(a b:List UInt8):List UInt8:=fS λi=>a.getD i 0^^^ b.getD i 0
theorem q2E(a b:List UInt8):(xorS a b).length=16:=q2z _
def chA(w iv p:List UInt8):Nat->List UInt8×List UInt8
 |0=>(iv,[])
 |n+1=>(encS w (xorS ((p.take (16*n+16)).drop (16*n)) (chA w iv p n).1),(chA w iv p n).2++encS w (xorS ((p.take (16*n+16)).drop (16*n)) (chA w iv p n).1))
def chainS(key iv p:List UInt8):List UInt8:=(chA (wordsS key) iv p (p.length / 16)).2
theorem q7P(w iv p:List UInt8)(a:iv.length=16)(n:Nat):(chA w iv p n).1.length=16/\(chA w iv p n).2.length=16*n:=by
 induction n with
 |zero=>exact ⟨a,rfl⟩
 |succ n ih=>grind [q5O,chA]
def q6N(key iv p:List UInt8)(hi:iv.length=16):(chainS key iv p).length=16* (p.length / 16):=(q7P _ _ _ hi _).2
def zpN(n:Nat):Nat:=(16-n%16)%16
def zpL(p:List UInt8)(k:Nat):List UInt8:=p++List.replicate k 0
def z3R(p:List UInt8)(k:Nat):(zpL p k).length=p.length+k:=by simp [zpL]
def exchS(c:List UInt8):List UInt8:=c.take (c.length-32)++c.drop (c.length-16)++(c.take (c.length-16)).drop (c.length-32)
def ctsE(key iv p:List UInt8):List UInt8:=
 let c:=chainS key iv (zpL p (zpN p.length))
 if c.length=16 then c else (exchS c).take p.length
def whN(n:Nat):Nat:=(n+15) / 16*16
def unexS(w c:List UInt8):List UInt8:=
 let f:=(c.take (whN c.length-16)).drop (whN c.length-32)
 let k:=c.drop (whN c.length-16)
 c.take (whN c.length-32)++(k++(decS w f).drop k.length)++f
def dchA(w iv ch:List UInt8):Nat->List UInt8×List UInt8
 |0=>(iv,[])
 |n+1=>((ch.take (16*n+16)).drop (16*n),(dchA w iv ch n).2++xorS (decS w ((ch.take (16*n+16)).drop (16*n))) (dchA w iv ch n).1)
def unchS(w iv ch:List UInt8):List UInt8:=(dchA w iv ch (ch.length / 16)).2
def ctsD(key iv c:List UInt8):List UInt8:=
 if c.length=16 then xorS (decS (wordsS key) c) iv else (unchS (wordsS key) iv (unexS (wordsS key) c)).take c.length
theorem j2O(w iv a:List UInt8)(d:iv.length=16)(n:Nat)(hn:16*n<=a.length):(dchA w iv a n).1.length=16/\(dchA w iv a n).2.length=16*n:=by
 induction n with
 |zero=>exact ⟨d,rfl⟩
 |succ n ih=>grind [dchA,q2E]
theorem z9T(w c:List UInt8)(hc:16<c.length):(unexS w c).length=whN c.length:=by grind [unexS,q5Q,whN]
end Go.Proofs.YthbcodbcndiapaaGreatDoor